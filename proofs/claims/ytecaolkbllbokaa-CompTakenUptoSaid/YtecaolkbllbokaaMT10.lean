import Derived.Test.YtecaolkbllbokaaMT09
import Derived.Deep.QuietTactic
import Derived.BigQuiet
import Derived.Deep.RegionHeld3
import Derived.StillTailTactics
import Derived.Maps.AppendAt
set_option linter.unusedSimpArgs false
set_option linter.unusedVariables false
set_option maxRecDepth 100000
set_option maxHeartbeats 16000000
namespace Go.Proofs.Ytecaolkbllbokaa.TG
open Go.RowKit Go.Great
theorem Zwt {L : List Lp} {i : Nat} {l : Lp} (h : L[i]? = some l) : ((L.map Lp.abs).reverse)[L.length - 1 - i]? = some l.abs := by
 have hi := (List.getElem?_eq_some_iff.1 h).1
 rw [List.getElem?_reverse (by simp; omega)]
 simp only [List.length_map, List.getElem?_map]
 rw [show L.length - 1 - (L.length - 1 - i) = i by omega, h]; rfl
theorem Ysm {L : List Lp} {i : Nat} (hi : i < L.length) (l : Lp) : ((L.set i l).map Lp.abs).reverse = ((L.map Lp.abs).reverse).set (L.length - 1 - i) l.abs := by
 apply List.ext_getElem?
 intro k
 by_cases hk : k < L.length
 · rw [List.getElem?_reverse (by simp; omega), List.getElem?_set]
   simp only [List.length_map, List.length_set, List.getElem?_map, List.getElem?_set, List.length_reverse]
   by_cases e : L.length - 1 - i = k
   · rw [if_pos e, if_pos (by omega), if_pos (by omega), if_pos (by omega)]; rfl
   · rw [if_neg e, if_neg (by omega), List.getElem?_reverse (by simp; omega)]
     simp
 · rw [List.getElem?_eq_none (by simp; omega), List.getElem?_eq_none (by simp; omega)]
theorem Zvc : ∀ {L : List Lp} {i : Nat} {l l' : Lp}, L[i]? = some l -> l'.beg = l.beg -> (Zel L).set (i * 2 + 1) l'.ends = Zel (L.set i l')
 | [], i, l, l', h, _ => by cases h
 | x :: r, 0, l, l', h, e => by simp at h; subst h; simp [Zel, e]
 | x :: r, i + 1, l, l', h, e => by
   have ih := Zvc (L := r) (i := i) (l := l) (l' := l') (by simpa using h) e
   have e2 : (i + 1) * 2 + 1 = (i * 2 + 1) + 1 + 1 := by omega
   rw [e2]
   simp only [Zel, List.set_cons_succ]
   rw [ih]
theorem Zgy : ∀ (L L' : List Lp), Zel (L ++ L') = Zel L ++ Zel L'
 | [], L' => rfl
 | x :: r, L' => by simp [Zel, Zgy r L']
theorem Zgx : ∀ (L : List Lp), (Zel L).length = L.length * 2
 | [] => rfl
 | x :: r => by simp [Zel, Zgx r]; omega
theorem Znz : ∀ {L : List Lp} {i : Nat} {l : Lp}, L[i]? = some l -> (Zel L)[i * 2]? = some (.int .i64 l.beg) /\ (Zel L)[i * 2 + 1]? = some l.ends
 | [], i, l, h => by cases h
 | x :: r, 0, l, h => by simp at h; subst h; simp [Zel]
 | x :: r, i + 1, l, h => by
   have ih := Znz (L := r) (i := i) (l := l) (by simpa using h)
   have e1 : (i + 1) * 2 = i * 2 + 1 + 1 := by omega
   have e2 : (i + 1) * 2 + 1 = (i * 2 + 1) + 1 + 1 := by omega
   rw [e2, e1]
   simpa [Zel] using ih
def Cx.Q (c : Cx) (s : Stt) (k : Nat) : Prop := s.vlo.ownBlock = some k \/ ∃ l ∈ s.L, l.ends.ownBlock = some k
theorem Ywx {c : Cx} {w : World} {s : Stt} (h : AtS c w s) {k : Nat} (hq : c.Q s k) : ¬ Yj c.Bd s.vout s.vorg k := by
 rcases hq with e | ⟨l, hl, e⟩
 · exact Yql h e
 · exact Zye h hl e
theorem q_p {c : Cx} {s : Stt} {k : Nat} (hq : c.Q s k) : c.P s k := Or.inr hq
theorem Zyh {w w' : World} {E Bd : Nat} {vt vf : Value} {nm : ByteArray} {ar : Int} {vl vp vout vorg vlo vk : Value} {out : List (Int × Int)} {org : List Int} {Q : Nat -> Prop} (h : Yc w E Bd vt vf nm ar vl vp vout vorg vlo vk out org) (g : Sp Q w w') (hq : ∀ k, Q k -> ¬ Yj Bd vout vorg k) :
 Yc w' E Bd vt vf nm ar vl vp vout vorg vlo vk out org :=
 ⟨by rw [g.block Bd (Nat.lt_of_lt_of_le h.lt h.le) (fun hp => hq _ hp (Or.inl rfl))]; exact h.box, Yz h.out g fun k hk hp => hq _ hp (Or.inr (Or.inl hk)), Yz h.org g fun k hk hp => hq _ hp (Or.inr (Or.inr hk)), h.lt, Nat.le_trans h.le g.size⟩
theorem Yvf {w : World} {E Bd : Nat} {vt vf : Value} {nm : ByteArray} {ar : Int} {vl vp vout vorg vlo vk : Value} {out : List (Int × Int)} {org : List Int} (h : Yc w E Bd vt vf nm ar vl vp vout vorg vlo vk out org) (v1 : Value) :
 Yc (w.setCell ⟨Bd, 8, none⟩ v1) E Bd vt vf nm ar vl vp vout vorg v1 vk out org :=
 ⟨by rw [Zh h.box]; rfl, Jw h.out h.lt, Jw h.org h.lt, h.lt, by rw [World.size_setCell]; exact h.le⟩
theorem Yyt {c : Cx} (ok : Zhj c) {w w1 : World} {s : Stt} (h : AtS c w s) {v1 : Value} {L' : List Lp} (sp : Sp (c.Q s) w w1) (hrow : w1.ownsRow c.E 180 2 v1 L'.length (Zel L'))
 (hend : ∀ l ∈ L', w1.ownsRow c.E 140 1 l.ends l.cls.length (l.cls.map Yen)) (hdis : ∀ (i k : Nat) (l l' : Lp), i ≠ k -> L'[i]? = some l -> L'[k]? = some l' -> ∀ b, l.ends.ownBlock = some b -> l'.ends.ownBlock ≠ some b)
 (hq : ∀ k, k < w.heap.size -> c.Q ⟨s.vout, s.vorg, v1, s.out, s.org, L'⟩ k -> c.Q s k) (hcl : ∀ l ∈ L', ∀ x ∈ l.cls, ∃ l0 ∈ s.L, x ∈ l0.cls) (hi : PSI (Stt.abs ⟨s.vout, s.vorg, v1, s.out, s.org, L'⟩)) :
 Go c w s (w1.setCell ⟨c.Bd, 8, none⟩ v1) ⟨s.vout, s.vorg, v1, s.out, s.org, L'⟩ := by
 have hsp : Sp (c.P s) w (w1.setCell ⟨c.Bd, 8, none⟩ v1) := Zr (Zaq sp fun _ _ h => q_p h) (Zl (P := c.P s) (Zd w1 c.Bd 8 v1) (fun k _ e => by injection e with e; exact Or.inl (Or.inl e.symm))) (fun _ _ h => h)
 have hcr : ∀ k, k < w.heap.size -> c.P ⟨s.vout, s.vorg, v1, s.out, s.org, L'⟩ k -> c.P s k := fun k hk hp => by
  rcases hp with hp | hp
  · exact Or.inl hp
  · exact Or.inr (hq k hk hp)
 obtain ⟨r1, r2, r3⟩ := Zwu ok h hsp
 refine ⟨⟨Yvf (Zyh h.code sp fun k hk => Ywx h hk) v1, Jw hrow h.code.lt, fun l hl => Jw (hend l hl) h.code.lt, hdis, fun l hl x hx => ?_, hi, r1, r2, r3⟩, hsp, hcr⟩
 obtain ⟨l0, hl0, hx0⟩ := hcl l hl x hx
 obtain ⟨⟨h1, h2⟩, h3, h4⟩ := h.lbox l0 hl0 x hx0
 exact ⟨⟨Xm h1 hsp h2, fun hp => h2 (hcr _ (World.block_lt_of_cell? _ _ h1) hp)⟩, Xm h3 hsp h4, fun hp => h4 (hcr _ (World.block_lt_of_cell? _ _ h3) hp)⟩
theorem Yut {c : Cx} (ok : Zhj c) {w w1 : World} {s : Stt} (h : AtS c w s) {b : Nat} {v1 : Value} {o : Obj} (own : w1.ownsRow c.E 180 2 v1 (s.L.length + 1) (Zel s.L ++ [.int .i64 b, .slice none 0 0])) (g : (w.alloc o).grownBy w1 s.vlo.ownBlock)
 (hat : v1.ownBlock = s.vlo.ownBlock \/ v1.ownBlock = some (w.alloc o).heap.size) :
 ∃ s', Go c w s (w1.setCell ⟨c.Bd, 8, none⟩ v1) s' /\ s'.abs = s.abs.push b /\ s'.vlo = v1 /\ s'.L = s.L ++ [⟨b, .slice none 0 0, []⟩] := by
 have sp : Sp (c.Q s) w w1 := Zr (Zl (P := c.Q s) (Ga w o none) (by simp)) (Zl (P := c.Q s) g fun k _ e => Or.inl e) (fun _ _ h => h)
 have habs : Stt.abs ⟨s.vout, s.vorg, v1, s.out, s.org, s.L ++ [⟨b, .slice none 0 0, []⟩]⟩ = s.abs.push b := by
  simp [Stt.abs, PS.push, Lp.abs]
 refine ⟨_, Yyt ok h (L' := s.L ++ [⟨b, .slice none 0 0, []⟩]) sp ?_ ?_ ?_ ?_ ?_ (by rw [habs]; exact Zzq h.inv b), habs, rfl, rfl⟩
 · rw [List.length_append, Zgy]; exact own
 · intro l hl
   rcases List.mem_append.1 hl with hl | hl
   · refine Yz (h.lend l hl) (Zr (Zl (P := fun k => s.vlo.ownBlock = some k) (Ga w o none) (by simp)) (Zl (P := fun k => s.vlo.ownBlock = some k) g fun k _ e => e) (fun _ _ h => h)) fun k hk => Ydl h hl hk
   · simp at hl; subst hl; exact World.ownsRow_nil _ _ _ _
 · intro i k l l' hik hi hk b' hb
   by_cases hk2 : k < s.L.length
   · rw [List.getElem?_append_left hk2] at hk
     by_cases hi2 : i < s.L.length
     · rw [List.getElem?_append_left hi2] at hi
       exact h.ldis i k l l' hik hi hk b' hb
     · rw [List.getElem?_append_right (by omega)] at hi
       have : i - s.L.length = 0 := by
        have := (List.getElem?_eq_some_iff.1 hi).1; simp at this; omega
       rw [this] at hi; simp at hi; subst hi; cases hb
   · rw [List.getElem?_append_right (by omega)] at hk
     have : k - s.L.length = 0 := by
      have := (List.getElem?_eq_some_iff.1 hk).1; simp at this; omega
     rw [this] at hk; simp at hk; subst hk; intro e; cases e
 · intro k hk hq
   rcases hq with e | ⟨l, hl, e⟩
   · rcases hat with h1 | h1
     · exact Or.inl (h1 ▸ e)
     · have e' : v1.ownBlock = some k := e
       rw [h1, World.size_alloc] at e'; injection e' with e'; omega
   · rcases List.mem_append.1 hl with hl | hl
     · exact Or.inr ⟨l, hl, e⟩
     · simp at hl; subst hl; cases e
 · intro l hl x hx
   rcases List.mem_append.1 hl with hl | hl
   · exact ⟨l, hl, hx⟩
   · simp at hl; subst hl; cases hx
theorem Zfj {w : World} {base : Nat} {e : TypeId} {size n k g cap : Nat} {xs : List Value} (h : w.ownsRow base e size (.slice (some ⟨g, 0, none⟩) n cap) n xs) (hk : k <= n) : w.ownsRow base e size (.slice (some ⟨g, 0, none⟩) k cap) k (xs.take (k * size)) := by
 obtain ⟨h1, h2⟩ := h
 rcases h2 with ⟨h2, _⟩ | ⟨g0, cap0, cur, e0, hb, hg, hn, hm, hs, ht⟩
 · cases h2
 · injection e0 with e1 e2 e3
   subst e3
   injection e1 with e1; injection e1 with e1 _ _; subst e1
   have hkn : k * size <= n * size := Nat.mul_le_mul_right _ hk
   refine ⟨by rw [List.length_take, h1]; omega, .inr ⟨g, cap, cur, rfl, hb, hg, by omega, hm, hs, ?_⟩⟩
   rw [<- ht, List.take_take]
   congr 1; omega
theorem Yyr {c : Cx} (ok : Zhj c) {w : World} {s : Stt} (h : AtS c w s) {L0 : List Lp} {l : Lp} (hL : s.L = L0 ++ [l]) {g n cap : Nat} (hv : s.vlo = .slice (some ⟨g, 0, none⟩) n cap) (hn : n = L0.length + 1) :
 ∃ s', Go c w s (w.setCell ⟨c.Bd, 8, none⟩ (.slice (some ⟨g, 0, none⟩) L0.length cap)) s' /\ s'.abs = s.abs.pop /\ s'.L = L0 /\ s'.vout = s.vout /\ s'.vorg = s.vorg := by
 have hlen : s.L.length = L0.length + 1 := by rw [hL]; simp
 have hmem : ∀ l' ∈ L0, l' ∈ s.L := fun l' hl => by rw [hL]; exact List.mem_append_left _ hl
 have habs : Stt.abs ⟨s.vout, s.vorg, .slice (some ⟨g, 0, none⟩) L0.length cap, s.out, s.org, L0⟩ = s.abs.pop := by
  simp [Stt.abs, PS.pop, hL]
 have hown := h.lrow
 rw [hv, hn] at hown
 have e2 : L0.length + 1 = s.L.length := hlen.symm
 refine ⟨_, Yyt ok h (L' := L0) (v1 := .slice (some ⟨g, 0, none⟩) L0.length cap) (Zim _ w) ?_ (fun l' hl => h.lend l' (hmem l' hl)) ?_ ?_ (fun l' hl x hx => ⟨l', hmem l' hl, hx⟩) (by rw [habs]; exact Ygf h.inv), habs, rfl, rfl, rfl⟩
 · rw [hlen] at hown
   have := Zfj hown (Nat.le_succ L0.length)
   rw [hL, Zgy, List.take_append_of_le_length (by rw [Zgx]; exact Nat.le_refl _), List.take_of_length_le (by rw [Zgx]; exact Nat.le_refl _)] at this
   exact this
 · intro i k l1 l2 hik hi hk b hb
   have hi2 := (List.getElem?_eq_some_iff.1 hi).1
   have hk2 := (List.getElem?_eq_some_iff.1 hk).1
   exact h.ldis i k l1 l2 hik (by rw [hL, List.getElem?_append_left hi2]; exact hi) (by rw [hL, List.getElem?_append_left hk2]; exact hk) b hb
 · intro k hk hq
   rcases hq with e | ⟨l', hl, e⟩
   · refine Or.inl ?_; rw [hv]; exact e
   · exact Or.inr ⟨l', hmem l' hl, e⟩
theorem Yuu {c : Cx} (ok : Zhj c) {w w1 : World} {s : Stt} (h : AtS c w s) {i : Nat} {l : Lp} (hl : s.L[i]? = some l) {g n cap : Nat} (hv : s.vlo = .slice (some ⟨g, 0, none⟩) n cap) (hn : n = s.L.length) {bx bj j : Nat} {v1 : Value} {o : Obj}
 (own : w1.ownsRow c.E 140 1 v1 (l.cls.length + 1) (l.cls.map Yen ++ [Yen (bx, bj, j)])) (gr : (w.alloc o).grownBy w1 l.ends.ownBlock) (hat : v1.ownBlock = l.ends.ownBlock \/ v1.ownBlock = some (w.alloc o).heap.size)
 (hx : w.cell? ⟨bx, 0, none⟩ = some (.pointer (some ⟨c.Bd, 0, none⟩))) (hxp : ¬ c.P s bx) (hj : w.cell? ⟨bj, 0, none⟩ = some (.int .i64 j)) (hjp : ¬ c.P s bj) (hjl : j < s.out.length) (hcl : l.cls.length < s.out.length) :
 ∃ s', Go c w s (w1.setCell ⟨g, i * 2 + 1, none⟩ v1) s' /\ s'.abs = s.abs.note (s.L.length - 1 - i) j := by
 have hil := (List.getElem?_eq_some_iff.1 hl).1
 have hml : l ∈ s.L := List.mem_of_getElem? hl
 have hg : s.vlo.ownBlock = some g := by rw [hv]; rfl
 have sp1 : Sp (fun k => l.ends.ownBlock = some k) w w1 := Zr (Zl (P := fun k => l.ends.ownBlock = some k) (Ga w o none) (by simp)) (Zl (P := fun k => l.ends.ownBlock = some k) gr fun k _ e => e) (fun _ _ h => h)
 have spq : Sp (c.Q s) w (w1.setCell ⟨g, i * 2 + 1, none⟩ v1) := Zr (Zaq sp1 fun k _ e => Or.inr ⟨l, hml, e⟩) (Zl (P := c.Q s) (Zd w1 g (i * 2 + 1) v1) fun k _ e => by injection e with e; subst e; exact Or.inl hg) (fun _ _ h => h)
 have hsp : Sp (c.P s) w (w1.setCell ⟨g, i * 2 + 1, none⟩ v1) := Zaq spq fun _ _ h => q_p h
 have hlr : w1.ownsRow c.E 180 2 s.vlo s.L.length (Zel s.L) := Yz h.lrow sp1 fun k hk => Ya h.lrow (h.lend l hml) (by decide) hk
 have hset : (Zel s.L).set (i * 2 + 1) v1 = Zel (s.L.set i ⟨l.beg, v1, l.cls ++ [(bx, bj, j)]⟩) := Zvc (l' := ⟨l.beg, v1, l.cls ++ [(bx, bj, j)]⟩) hl rfl
 have hmem : ∀ l' ∈ s.L.set i ⟨l.beg, v1, l.cls ++ [(bx, bj, j)]⟩, l' = ⟨l.beg, v1, l.cls ++ [(bx, bj, j)]⟩ \/ ∃ k, k ≠ i /\ s.L[k]? = some l' := fun l' hl' => by
  obtain ⟨k, hk⟩ := List.mem_iff_getElem?.1 hl'
  rw [List.getElem?_set] at hk
  by_cases e : i = k
  · rw [if_pos e, if_pos hil] at hk; injection hk with hk; exact Or.inl hk.symm
  · rw [if_neg e] at hk; exact Or.inr ⟨k, fun e' => e e'.symm, hk⟩
 have hnew : ∀ b, v1.ownBlock = some b -> l.ends.ownBlock = some b \/ w.heap.size <= b := fun b hb => by
  rcases hat with h1 | h1
  · exact Or.inl (h1 ▸ hb)
  · rw [h1, World.size_alloc] at hb; injection hb with hb; exact Or.inr (by omega)
 have hrow : ∀ k, k < w.heap.size -> c.P ⟨s.vout, s.vorg, s.vlo, s.out, s.org, s.L.set i ⟨l.beg, v1, l.cls ++ [(bx, bj, j)]⟩⟩ k -> c.P s k := fun k hk hp => by
  rcases hp with hp | hp | ⟨l', hl', e⟩
  · exact Or.inl hp
  · exact Or.inr (Or.inl hp)
  · rcases hmem l' hl' with rfl | ⟨k', _, hk'⟩
    · rcases hnew k e with h1 | h1
      · exact Or.inr (Or.inr ⟨l, hml, h1⟩)
      · omega
    · exact Or.inr (Or.inr ⟨l', List.mem_of_getElem? hk', e⟩)
 have habs : Stt.abs ⟨s.vout, s.vorg, s.vlo, s.out, s.org, s.L.set i ⟨l.beg, v1, l.cls ++ [(bx, bj, j)]⟩⟩ = s.abs.note (s.L.length - 1 - i) j := by
  simp only [Stt.abs, PS.note]
  rw [Ysm hil]
  congr 2
  have e := Zwt hl
  simp only [List.getD, e, Option.getD_some]
  simp [Lp.abs]
 obtain ⟨r1, r2, r3⟩ := Zwu ok h hsp
 refine ⟨⟨s.vout, s.vorg, s.vlo, s.out, s.org, s.L.set i ⟨l.beg, v1, l.cls ++ [(bx, bj, j)]⟩⟩, ⟨⟨Zyh h.code spq fun k hk => Ywx h hk, ?_, ?_, ?_, ?_, ?_, r1, r2, r3⟩, hsp, hrow⟩, habs⟩
 · show World.ownsRow _ _ _ _ s.vlo _ _
   rw [List.length_set, <- hset, hv]
   rw [hv] at hlr
   subst hn
   exact (hlr.stored (i * 2 + 1) v1).1
 · intro l' hl'
   rcases hmem l' hl' with rfl | ⟨k, hki, hk⟩
   · rw [List.length_append, List.map_append]
     refine own.kept (Zd w1 g (i * 2 + 1) v1) ?_
     rcases Zbo own hlr (by decide) with h1 | h1
     · exact Or.inl h1
     · rw [hg] at h1; exact Or.inr h1
   · have hm' := List.mem_of_getElem? hk
     refine (Yz (h.lend l' hm') sp1 fun b hb hb' => h.ldis k i l' l hki hk hl b hb hb').kept (Zd w1 g (i * 2 + 1) v1) ?_
     rcases Zbo (h.lend l' hm') h.lrow (by decide) with h1 | h1
     · exact Or.inl h1
     · rw [hg] at h1; exact Or.inr h1
 · intro a b la lb hab ha hb q hq
   simp only [List.getElem?_set] at ha hb
   by_cases ea : i = a
   · rw [if_pos ea, if_pos hil] at ha; injection ha with ha; subst ha
     rw [if_neg (by omega)] at hb
     intro hq'
     rcases hnew q hq with h1 | h1
     · exact h.ldis i b l lb (by omega) hl hb q h1 hq'
     · have := ((h.lend lb (List.mem_of_getElem? hb)).lt q hq').2; omega
   · rw [if_neg ea] at ha
     by_cases eb : i = b
     · rw [if_pos eb, if_pos hil] at hb; injection hb with hb; subst hb
       intro hq'
       rcases hnew q hq' with h1 | h1
       · exact h.ldis a i la l (by omega) ha hl q hq h1
       · have := ((h.lend la (List.mem_of_getElem? ha)).lt q hq).2; omega
     · rw [if_neg eb] at hb
       exact h.ldis a b la lb hab ha hb q hq
 · intro l' hl' x hx'
   have old : ∀ l0, l0 ∈ s.L -> x ∈ l0.cls -> ((w1.setCell ⟨g, i * 2 + 1, none⟩ v1).cell? ⟨x.1, 0, none⟩ = some (.pointer (some ⟨c.Bd, 0, none⟩)) /\ ¬ c.P ⟨s.vout, s.vorg, s.vlo, s.out, s.org, s.L.set i ⟨l.beg, v1, l.cls ++ [(bx, bj, j)]⟩⟩ x.1) /\
    ((w1.setCell ⟨g, i * 2 + 1, none⟩ v1).cell? ⟨x.2.1, 0, none⟩ = some (.int .i64 x.2.2) /\ ¬ c.P ⟨s.vout, s.vorg, s.vlo, s.out, s.org, s.L.set i ⟨l.beg, v1, l.cls ++ [(bx, bj, j)]⟩⟩ x.2.1) := fun l0 hl0 hx0 => by
    obtain ⟨⟨h1, h2⟩, h3, h4⟩ := h.lbox l0 hl0 x hx0
    exact ⟨⟨Xm h1 hsp h2, fun hp => h2 (hrow _ (World.block_lt_of_cell? _ _ h1) hp)⟩, Xm h3 hsp h4, fun hp => h4 (hrow _ (World.block_lt_of_cell? _ _ h3) hp)⟩
   rcases hmem l' hl' with rfl | ⟨k, hki, hk⟩
   · rcases List.mem_append.1 hx' with hx' | hx'
     · exact old l hml hx'
     · simp at hx'; subst hx'
       exact ⟨⟨Xm hx hsp hxp, fun hp => hxp (hrow _ (World.block_lt_of_cell? _ _ hx) hp)⟩, Xm hj hsp hjp, fun hp => hjp (hrow _ (World.block_lt_of_cell? _ _ hj) hp)⟩
   · exact old l' (List.mem_of_getElem? hk) hx'
 · rw [habs]
   refine (Zpm h.inv _ j hjl ?_).inv
   have e := Zwt hl
   simp only [Stt.abs, List.getD, e, Option.getD_some]
   simpa [Lp.abs] using hcl
structure Ypr (c : Cx) (w : World) (s : Stt) (l : Lp) : Prop where
 own : w.ownsRow c.E 140 1 l.ends l.cls.length (l.cls.map Yen)
 np : ∀ b, l.ends.ownBlock = some b -> ¬ Yj c.Bd s.vout s.vorg b
 box : ∀ x ∈ l.cls, (w.cell? ⟨x.1, 0, none⟩ = some (.pointer (some ⟨c.Bd, 0, none⟩)) /\ ¬ Yj c.Bd s.vout s.vorg x.1) /\ (w.cell? ⟨x.2.1, 0, none⟩ = some (.int .i64 x.2.2) /\ ¬ Yj c.Bd s.vout s.vorg x.2.1)
theorem Zyd {c : Cx} {w w' : World} {s s' : Stt} {l : Lp} (h : Ypr c w s l) (sp : Sp (Yj c.Bd s.vout s.vorg) w w') (e1 : s'.vout = s.vout) (e2 : s'.vorg = s.vorg) : Ypr c w' s' l := by
 refine ⟨Yz h.own sp h.np, by rw [e1, e2]; exact h.np, fun x hx => ?_⟩
 obtain ⟨⟨h1, h2⟩, h3, h4⟩ := h.box x hx
 rw [e1, e2]
 exact ⟨⟨Xm h1 sp h2, h2⟩, Xm h3 sp h4, h4⟩
theorem Yvc {c : Cx} {w : World} {s : Stt} (h : AtS c w s) {l : Lp} (hl : l ∈ s.L) (v1 : Value) {s' : Stt} (e1 : s'.vout = s.vout) (e2 : s'.vorg = s.vorg) : Ypr c (w.setCell ⟨c.Bd, 8, none⟩ v1) s' l := by
 have sp : Sp (Yj c.Bd s.vout s.vorg) w (w.setCell ⟨c.Bd, 8, none⟩ v1) := Zl (Zd w c.Bd 8 v1) fun k _ e => by injection e with e; exact Or.inl e.symm
 refine Zyd (s := s) ⟨h.lend l hl, fun b hb => Zye h hl hb, fun x hx => ?_⟩ sp e1 e2
 obtain ⟨⟨h1, h2⟩, h3, h4⟩ := h.lbox l hl x hx
 exact ⟨⟨h1, fun hp => h2 (Or.inl hp)⟩, h3, fun hp => h4 (Or.inl hp)⟩
theorem Yvb {c : Cx} (ok : Zhj c) {w : World} {s : Stt} (h : AtS c w s) (hb : s.out.length <= 1000000000000) {l : Lp} (hl : Ypr c w s l) {x : Nat × Nat × Nat} (hx : x ∈ l.cls) (hj : x.2.2 < s.out.length) :
 Calls Try.prog 98 #[.int .i64 s.out.length, .pointer (some ⟨x.1, 0, none⟩), .pointer (some ⟨x.2.1, 0, none⟩)] w fun e w' => (∃ v, e = .returned v) /\ ∃ s', Go c w s w' s' /\ s'.abs = s.abs.mark x.2.2 /\ s'.L = s.L /\ s'.vlo = s.vlo /\ Ypr c w' s' l := by
 obtain ⟨⟨h1, h2⟩, h3, h4⟩ := hl.box x hx
 refine (Yoo c.E c.Bd x.1 x.2.1 x.2.2 s.out.length _ c.vf c.nm c.ar c.vl _ s.vout s.vorg s.vlo _ s.out s.org w hj hb h.code h1 h3).mono ?_
 intro e w' hp
 obtain ⟨hv, sp, hC⟩ := hp
 exact ⟨hv, ⟨s.vout, s.vorg, s.vlo, Zsy s.out x.2.2 s.out.length, s.org, s.L⟩, Znu ok h sp hC (fun _ _ h => h) (Jl h.inv x.2.2).inv, rfl, rfl, rfl, Zyd hl sp rfl rfl⟩
theorem Zpr {c : Cx} {w : World} {s : Stt} (h : AtS c w s) (h0 : 0 < s.L.length) : ∃ g cap, s.vlo = .slice (some ⟨g, 0, none⟩) s.L.length cap /\ g < w.heap.size := by
 have ho := h.lrow
 rcases ho.2 with ⟨_, h1⟩ | ⟨g, cap, cur, hv, hb, hg, hn, hm, _⟩
 · omega
 · exact ⟨g, cap, hv, (Gs hg)⟩
structure Yzq (c : Cx) (w : World) (s : Stt) (g cap i : Nat) (l : Lp) : Prop where
 c8 : w.cell? ⟨c.Bd, 8, none⟩ = some (.slice (some ⟨g, 0, none⟩) s.L.length cap)
 l0 : w.cell? ⟨g, i * 2, none⟩ = some (.int .i64 l.beg)
 l1 : w.cell? ⟨g, i * 2 + 1, none⟩ = some l.ends
 fz : w.frozen? ⟨g, i * 2 + 1, none⟩ = false
 lg : g < w.heap.size
theorem Zev {c : Cx} {w : World} {s : Stt} (h : AtS c w s) {g cap i : Nat} {l : Lp} (hv : s.vlo = .slice (some ⟨g, 0, none⟩) s.L.length cap) (hl : s.L[i]? = some l) : Yzq c w s g cap i l := by
 have hi := (List.getElem?_eq_some_iff.1 hl).1
 have c8 := Yo h.code 8
 rw [hv] at c8
 have ho := h.lrow
 rw [hv] at ho
 obtain ⟨e0, e1⟩ := Znz hl
 exact ⟨c8, by rw [ho.cellAt _ (by omega)]; exact e0, by rw [ho.cellAt _ (by omega)]; exact e1, ho.frozenAt _, (ho.lt g rfl).2⟩
theorem Yhp {s s1 : PS} {n a b : Nat} {js : List Nat} (h : s.V[n]? = some (b, js)) (e : s1 = s.emit a (14, (b : Int))) : Zgc 8 n s a = (s1, a + 1) := by
 subst e
 unfold Zgc
 simp only [List.getD, h, Option.getD_some]
 simp
theorem Yts {s s1 s2 : PS} {n a b : Nat} {js : List Nat} (h : s.V[n]? = some (b, js)) (e : s1 = s.emit a (14, (b : Int))) (e2 : s2 = s1.note n s.out.length) : Zgc 7 n s a = (s2, a + 1) := by
 subst e2; subst e
 unfold Zgc
 simp only [List.getD, h, Option.getD_some]
 simp
theorem Zma {w w' : World} (h : w.grownBy w' none) (o : Obj) : w.grownBy (w'.alloc o) none := Za h (Ga w' o none)
theorem Ymj {W : World} {N g i : Nat} {x y z : Value} {o : Obj} {b : Nat} (f0 : W.cell? ⟨N, 0, none⟩ = some x) (f1 : W.cell? ⟨N + 1, 0, none⟩ = some y) (f2 : W.cell? ⟨g, i * 2, none⟩ = some z) (n0 : N < W.heap.size) (n1 : N + 1 < W.heap.size) (n2 : g < W.heap.size) (n3 : b < W.heap.size) :
 (W.alloc o).cell? ⟨N, 0, none⟩ = some x /\ (W.alloc o).cell? ⟨N + 1, 0, none⟩ = some y /\ (W.alloc o).cell? ⟨g, i * 2, none⟩ = some z /\ N < (W.alloc o).heap.size /\ N + 1 < (W.alloc o).heap.size /\ g < (W.alloc o).heap.size /\ b < (W.alloc o).heap.size :=
 ⟨(Ga W o none).cell f0 (by simp), (Ga W o none).cell f1 (by simp), (Ga W o none).cell f2 (by simp), by simp; omega, by simp; omega, by simp; omega, by simp; omega⟩
theorem Yxr {W : World} {N g i q : Nat} {x y z v : Value} {b : Nat} (f0 : W.cell? ⟨N, 0, none⟩ = some x) (f1 : W.cell? ⟨N + 1, 0, none⟩ = some y) (f2 : W.cell? ⟨g, i * 2, none⟩ = some z) (n0 : N < W.heap.size) (n1 : N + 1 < W.heap.size) (n2 : g < W.heap.size) (n3 : b < W.heap.size)
 (m0 : N < q) (m1 : N + 1 < q) (m2 : g < q) :
 (W.setCell ⟨q, 0, none⟩ v).cell? ⟨N, 0, none⟩ = some x /\ (W.setCell ⟨q, 0, none⟩ v).cell? ⟨N + 1, 0, none⟩ = some y /\ (W.setCell ⟨q, 0, none⟩ v).cell? ⟨g, i * 2, none⟩ = some z /\ N < (W.setCell ⟨q, 0, none⟩ v).heap.size /\ N + 1 < (W.setCell ⟨q, 0, none⟩ v).heap.size /\ g < (W.setCell ⟨q, 0, none⟩ v).heap.size /\ b < (W.setCell ⟨q, 0, none⟩ v).heap.size :=
 ⟨(Zd W q 0 v).cell f0 (by simp; omega), (Zd W q 0 v).cell f1 (by simp; omega), (Zd W q 0 v).cell f2 (by simp; omega), by simp; omega, by simp; omega, by simp; omega, by simp; omega⟩
theorem Yte {c : Cx} {W w1 : World} {s s1 : Stt} {N g i cap : Nat} {l : Lp} {x y : Value} (g1 : Go c W s w1 s1) (l1 : s1.L = s.L) (v1 : s1.vlo = s.vlo) (hv : s.vlo = .slice (some ⟨g, 0, none⟩) s.L.length cap) (hl : s.L[i]? = some l) (p0 : ¬ c.P s N) (p1 : ¬ c.P s (N + 1))
 (f0 : W.cell? ⟨N, 0, none⟩ = some x) (f1 : W.cell? ⟨N + 1, 0, none⟩ = some y) :
 w1.cell? ⟨N, 0, none⟩ = some x /\ w1.cell? ⟨N + 1, 0, none⟩ = some y /\ w1.cell? ⟨g, i * 2, none⟩ = some (.int .i64 l.beg) /\ N < w1.heap.size /\ N + 1 < w1.heap.size /\ g < w1.heap.size /\ c.Bd < w1.heap.size := by
 have h0 := Xm f0 g1.sp p0
 have h1 := Xm f1 g1.sp p1
 have hc := Zev g1.at_ (g := g) (cap := cap) (i := i) (l := l) (by rw [v1, l1]; exact hv) (by rw [l1]; exact hl)
 exact ⟨h0, h1, hc.l0, World.block_lt_of_cell? _ _ h0, World.block_lt_of_cell? _ _ h1, hc.lg, Zfs g1.at_⟩
theorem Ymi {c : Cx} {W w1 : World} {s s1 : Stt} {N g i cap : Nat} {l : Lp} {x y z : Value} (g1 : Go c W s w1 s1) (l1 : s1.L = s.L) (v1 : s1.vlo = s.vlo) (hv : s.vlo = .slice (some ⟨g, 0, none⟩) s.L.length cap) (hl : s.L[i]? = some l) (p0 : ¬ c.P s N) (p1 : ¬ c.P s (N + 1))
 (f : W.cell? ⟨N, 0, none⟩ = some x /\ W.cell? ⟨N + 1, 0, none⟩ = some y /\ W.cell? ⟨g, i * 2, none⟩ = some z /\ N < W.heap.size /\ N + 1 < W.heap.size /\ g < W.heap.size /\ c.Bd < W.heap.size) :
 w1.cell? ⟨N, 0, none⟩ = some x /\ w1.cell? ⟨N + 1, 0, none⟩ = some y /\ w1.cell? ⟨g, i * 2, none⟩ = some (.int .i64 l.beg) /\ N < w1.heap.size /\ N + 1 < w1.heap.size /\ g < w1.heap.size /\ c.Bd < w1.heap.size :=
 Yte g1 l1 v1 hv hl p0 p1 f.1 f.2.1
theorem Yxt {c : Cx} {w V w1 : World} {s s1 : Stt} {v : Value} {ty : TypeId} {b : Nat} (h : AtS c w s) (hw : w.heap.size <= b) (g1 : Go c V s w1 s1) (hb : V.heap[b]? = some (.cells #[v] ty (0, 0))) : w1.cell? ⟨b, 0, none⟩ = some v /\ w1.frozen? ⟨b, 0, none⟩ = false /\ b < w1.heap.size := by
 have hb1 : w1.heap[b]? = some (.cells #[v] ty (0, 0)) := by
  rw [g1.sp.block b (Gs hb) (Ycj h hw)]; exact hb
 exact ⟨Cq w1 _ 0 _ _ _ hb1, frozen_of_row w1 _ 0 _ _ hb1, (Gs hb1)⟩
structure Yvp (c : Cx) (w W : World) (s : Stt) (g i N : Nat) (k : Int) (l : Lp) : Prop where
 f0 : W.cell? ⟨N, 0, none⟩ = some (.pointer (some ⟨c.Bd, 0, none⟩))
 f1 : W.cell? ⟨N + 1, 0, none⟩ = some (.int .i64 k)
 f2 : W.cell? ⟨g, i * 2, none⟩ = some (.int .i64 l.beg)
 n0 : N < W.heap.size
 n1 : N + 1 < W.heap.size
 n2 : g < W.heap.size
 n3 : c.Bd < W.heap.size
 gr : w.grownBy W none
 p0 : ¬ c.P s N
 p1 : ¬ c.P s (N + 1)
theorem Yxs {c : Cx} {w : World} {s : Stt} (h : AtS c w s) {g cap i : Nat} {k n kc : Int} {l : Lp} (hc : Yzq c w s g cap i l) (nq : Nat) :
 Yvp c w (((w.alloc (.cells #[.pointer (some ⟨c.Bd, 0, none⟩)] 110)).alloc (.cells #[.int .i64 k, .int .i64 n, .int .i64 kc] 108)).drewN nq) s g i w.heap.size k l := by
 have g1 : w.grownBy (((w.alloc (.cells #[.pointer (some ⟨c.Bd, 0, none⟩)] 110)).alloc (.cells #[.int .i64 k, .int .i64 n, .int .i64 kc] 108)).drewN nq) none :=
  Za (Zma (Ga _ _ none) _) (Xh _ nq none)
 have g2 : (w.alloc (.cells #[.pointer (some ⟨c.Bd, 0, none⟩)] 110)).grownBy (((w.alloc (.cells #[.pointer (some ⟨c.Bd, 0, none⟩)] 110)).alloc (.cells #[.int .i64 k, .int .i64 n, .int .i64 kc] 108)).drewN nq) none :=
  Za (Ga _ _ none) (Xh _ nq none)
 have hf0 : (w.alloc (.cells #[.pointer (some ⟨c.Bd, 0, none⟩)] 110)).cell? ⟨w.heap.size, 0, none⟩ = some (.pointer (some ⟨c.Bd, 0, none⟩)) := Zao w _ _ 0 _ rfl
 have e1 : (((w.alloc (.cells #[.pointer (some ⟨c.Bd, 0, none⟩)] 110)).alloc (.cells #[.int .i64 k, .int .i64 n, .int .i64 kc] 108)).drewN nq).cell? ⟨w.heap.size + 1, 0, none⟩ = some (.int .i64 k) := by
  have := Zmc (w.alloc (.cells #[.pointer (some ⟨c.Bd, 0, none⟩)] 110)) k n kc
  rw [World.size_alloc] at this
  exact Zof this
 have f0 := g2.cell hf0 (by simp)
 have f2 := g1.cell hc.l0 (by simp)
 exact ⟨f0, e1, f2, World.block_lt_of_cell? _ _ f0, World.block_lt_of_cell? _ _ e1, World.block_lt_of_cell? _ _ f2, Nat.lt_of_lt_of_le (Zfs h) g1.size, g1, Ycj h (Nat.le_refl _), Ycj h (by omega)⟩
theorem Yzg {c : Cx} {w1 : World} {s1 : Stt} (h : AtS c w1 s1) {b : Nat} {v : Value} (hp : ¬ c.P s1 b) (hE : c.E <= b) (hB : c.B <= c.Bd) (hx : ∀ l ∈ s1.L, ∀ x ∈ l.cls, x.1 ≠ b /\ x.2.1 ≠ b) : AtS c (w1.setCell ⟨b, 0, none⟩ v) s1 := by
 have hlt := h.code.lt
 have sp : Sp (fun k => k = b) w1 (w1.setCell ⟨b, 0, none⟩ v) := Zl (Zd w1 b 0 v) fun k _ e => by injection e with e; exact e.symm
 have hlow : ∀ k, k < c.E -> (w1.setCell ⟨b, 0, none⟩ v).heap[k]? = w1.heap[k]? := fun k hk => sp.block k (Nat.lt_of_lt_of_le hk h.code.le) (by omega)
 refine ⟨Zyh h.code sp fun k hk he => hp (by subst hk; exact Or.inl he), Yz h.lrow sp fun k hk he => hp (by subst he; exact Or.inr (Or.inl hk)), fun l hl => Yz (h.lend l hl) sp fun k hk he => hp (by subst he; exact Or.inr (Or.inr ⟨l, hl, hk⟩)), h.ldis, fun l hl x hx' => ?_, h.inv,
  Zje h.pa fun k hk => hlow k (by omega), Zhv h.ki fun k h1 h2 => hlow k h2, Zqn h.tx fun k hk => hlow k (by omega)⟩
 obtain ⟨⟨h1, h2⟩, h3, h4⟩ := h.lbox l hl x hx'
 obtain ⟨n1, n2⟩ := hx l hl x hx'
 exact ⟨⟨Xm h1 sp n1, h2⟩, Xm h3 sp n2, h4⟩
theorem Yys {c : Cx} (ok : Zhj c) {w w1 : World} {s s1 : Stt} (h : AtS c w s) (g : Go c w s w1 s1) (hL : s1.L = s.L) {b : Nat} {v : Value} (hb : w.heap.size <= b) (hp : ¬ c.P s1 b) : Go c w s (w1.setCell ⟨b, 0, none⟩ v) s1 := by
 have hle := h.code.le
 refine ⟨Yzg g.at_ hp (by omega) ok.lB (fun l hl x hx => ?_), Zr g.sp (Zl (P := fun k => k = b) (Zd w1 b 0 v) fun k _ e => by injection e with e; exact e.symm) (fun k hk e => by omega), g.row⟩
 rw [hL] at hl
 obtain ⟨⟨h1, _⟩, h3, _⟩ := h.lbox l hl x hx
 have h5 : x.1 < w.heap.size := World.block_lt_of_cell? _ _ h1
 have h6 : x.2.1 < w.heap.size := World.block_lt_of_cell? _ _ h3
 exact ⟨by omega, by omega⟩
structure Zwa (c : Cx) (w wF : World) (s s1 : Stt) (at_ N bj : Nat) (k : Int) (l : Lp) : Prop where
 go : Go c w s wF s1
 abs : s1.abs = s.abs.emit at_ (14, (l.beg : Int))
 L : s1.L = s.L
 lo : s1.vlo = s.vlo
 f0 : wF.cell? ⟨N, 0, none⟩ = some (.pointer (some ⟨c.Bd, 0, none⟩))
 f1 : wF.cell? ⟨N + 1, 0, none⟩ = some (.int .i64 k)
 fj : wF.cell? ⟨bj, 0, none⟩ = some (.int .i64 s.out.length)
 q0 : ¬ c.P s1 N
 qj : ¬ c.P s1 bj
theorem Xcu {c : Cx} (ok : Zhj c) {w W V w1 : World} {s s1 : Stt} {at_ g i N : Nat} {k : Int} {l : Lp} (h : AtS c w s) (pre : Yvp c w W s g i N k l) (gv : W.grownBy V none) (g1 : Go c V s w1 s1) (a1 : s1.abs = s.abs.emit at_ (14, (l.beg : Int))) (l1 : s1.L = s.L) (v1 : s1.vlo = s.vlo)
 (k0 : w1.cell? ⟨N, 0, none⟩ = some (.pointer (some ⟨c.Bd, 0, none⟩))) (k1 : w1.cell? ⟨N + 1, 0, none⟩ = some (.int .i64 k)) : Zwa c w (w1.alloc (.cells #[.int .i64 s.out.length] 3)) s s1 at_ N w1.heap.size k l := by
 have gw := Zfo ok h (Za pre.gr gv)
 have ga := Zlz ok g1.at_ (.cells #[.int .i64 s.out.length] 3)
 exact ⟨Zo (Zo gw g1) ga, a1, l1, v1, (Ga _ _ none).cell k0 (by simp), (Ga _ _ none).cell k1 (by simp), Zao w1 _ _ 0 _ rfl, fun hp => pre.p0 (g1.row _ (Nat.lt_of_lt_of_le pre.n0 gv.size) hp), Ycj g1.at_ (Nat.le_refl _)⟩
theorem Xct {c : Cx} (ok : Zhj c) {w W V w1 : World} {s s1 : Stt} {at_ g i N : Nat} {k : Int} {l : Lp} (h : AtS c w s) (pre : Yvp c w W s g i N k l) (gv : W.grownBy V none) (hV : W.heap.size < V.heap.size) (g1 : Go c V s w1 s1) (a1 : s1.abs = s.abs.emit at_ (14, (l.beg : Int))) (l1 : s1.L = s.L) (v1 : s1.vlo = s.vlo)
 (k0 : w1.cell? ⟨N, 0, none⟩ = some (.pointer (some ⟨c.Bd, 0, none⟩))) (k1 : w1.cell? ⟨N + 1, 0, none⟩ = some (.int .i64 k)) (kb : w1.cell? ⟨W.heap.size, 0, none⟩ = some (.int .i64 0)) (kz : w1.frozen? ⟨W.heap.size, 0, none⟩ = false) :
 Zwa c w (w1.setCell ⟨W.heap.size, 0, none⟩ (.int .i64 s.out.length)) s s1 at_ N W.heap.size k l := by
 have gw := Zfo ok h (Za pre.gr gv)
 have hp : ¬ c.P s1 W.heap.size := fun hp => Ycj h pre.gr.size (g1.row _ hV hp)
 refine ⟨Yys ok h (Zo gw g1) l1 pre.gr.size hp, a1, l1, v1, (Zd w1 W.heap.size 0 _).cell k0 (by have := pre.n0; simp; omega), (Zd w1 W.heap.size 0 _).cell k1 (by have := pre.n1; simp; omega), ?_, fun hp => pre.p0 (g1.row _ (Nat.lt_of_lt_of_le pre.n0 gv.size) hp), hp⟩
 exact World.cell?_setCell_same w1 _ _ kb
theorem Yir : Try.prog.underlying 178 = some (.slice 140) := by kernel_rfl
theorem Yay : (Try.prog.info? 140).map (fun i => (i.zero, i.size, i.bytes)) = some (some .nilFunc, 1, 8) := by kernel_rfl
theorem Ybh (x : Nat × Nat × Nat) : ∀ u ∈ [Yen x], u.oneCell' = true := by intro u hu; simp at hu; subst hu; rfl
theorem Yah {c : Cx} {w : World} {s : Stt} (h : AtS c w s) {i : Nat} {l : Lp} (hl : s.L[i]? = some l) : l.cls.length <= s.out.length := by
 have := h.inv.jc l.abs (by
  show l.abs ∈ (s.L.map Lp.abs).reverse
  rw [List.mem_reverse]
  exact List.mem_map_of_mem (List.mem_of_getElem? hl))
 simpa [Lp.abs, Stt.abs] using this
theorem Yag {c : Cx} {wF w2 : World} {s1 : Stt} (h : AtS c wF s1) {g cap i : Nat} {l : Lp} (hv : s1.vlo = .slice (some ⟨g, 0, none⟩) s1.L.length cap) (hl : s1.L[i]? = some l) {o : Obj} (gr : (wF.alloc o).grownBy w2 l.ends.ownBlock) :
 w2.cell? ⟨g, i * 2 + 1, none⟩ = some l.ends /\ w2.frozen? ⟨g, i * 2 + 1, none⟩ = false /\ g < w2.heap.size := by
 have hml := List.mem_of_getElem? hl
 have hi := (List.getElem?_eq_some_iff.1 hl).1
 have sp1 : Sp (fun k => l.ends.ownBlock = some k) wF w2 := Zr (Zl (P := fun k => l.ends.ownBlock = some k) (Ga wF o none) (by simp)) (Zl (P := fun k => l.ends.ownBlock = some k) gr fun k _ e => e) (fun _ _ h => h)
 have ho := Yz h.lrow sp1 fun k hk => Ya h.lrow (h.lend l hml) (by decide) hk
 rw [hv] at ho
 obtain ⟨e0, e1⟩ := Znz hl
 exact ⟨by rw [ho.cellAt _ (by omega)]; exact e1, ho.frozenAt _, (ho.lt g rfl).2⟩
theorem Zuq {c : Cx} (ok : Zhj c) {w wF w2 : World} {s s1 : Stt} {at_ g cap i n N bj : Nat} {l : Lp} {v1 : Value} {o : Obj} (LP : Zwa c w wF s s1 at_ N bj 7 l) (hv : s.vlo = .slice (some ⟨g, 0, none⟩) s.L.length cap) (hl : s.L[i]? = some l) (hn : s.L.length - 1 - i = n) (h : AtS c w s)
 (vi : s.abs.V[n]? = some l.abs) (own : w2.ownsRow c.E 140 1 v1 (l.cls.length + 1) (l.cls.map Yen ++ [Yen (N, bj, s.out.length)])) (gr : (wF.alloc o).grownBy w2 l.ends.ownBlock) (hat : v1.ownBlock = l.ends.ownBlock \/ v1.ownBlock = some (wF.alloc o).heap.size) (e : Ending) (he : e = .returned (.int .i64 ((at_ + 1 : Nat) : Int))) :
 WP c w s (Zgc 7 n s.abs at_) e (w2.setCell ⟨g, i * 2 + 1, none⟩ v1) := by
 have hl1 : s1.L[i]? = some l := by rw [LP.L]; exact hl
 have hlen := Zee LP.abs
 have hcnt := Yah h hl
 obtain ⟨s', g2, e2⟩ := Yuu ok LP.go.at_ hl1 (g := g) (n := s.L.length) (cap := cap) (by rw [LP.lo]; exact hv) (by rw [LP.L]) own gr hat LP.f0 LP.q0 LP.fj LP.qj (by omega) (by omega)
 rw [LP.L, hn] at e2
 rw [Yts (b := l.beg) (js := l.cls.map fun x => x.2.2) vi LP.abs e2]
 exact ⟨he, s', Zo LP.go g2, rfl⟩
theorem Yho (c : Cx) (ok : Zhj c) (s : Stt) (at_ : Nat) (w : World) (k n kc : Int) (hk : k = 7 \/ k = 8) (hp : c.ps[at_]? = some (k, n, kc)) (hn0 : 0 <= n) (hn : n < s.L.length) (hLm : s.L.length <= 1000) (h : AtS c w s) (hb : s.out.length + 8 * (c.ps.length - at_) + 8 <= 1000000000000) :
 Calls Try.prog 77 #[.pointer (some ⟨c.Bd, 0, none⟩), .int .i64 at_] w (WP c w s (Zgc k n.toNat s.abs at_)) := by
 have hja : at_ < c.ps.length := (List.getElem?_eq_some_iff.1 hp).1
 obtain ⟨bp, op, hpp⟩ := Zmy h hja
 obtain ⟨g, cap, hv, hg⟩ := Zpr h (by omega)
 obtain ⟨i, hi⟩ : ∃ i, i = s.L.length - 1 - n.toNat := ⟨_, rfl⟩
 obtain ⟨l, hl⟩ : ∃ l, s.L[i]? = some l := ⟨_, List.getElem?_eq_getElem (by omega)⟩
 have hji : (at_ : Int) < (c.ps.length : Int) := by omega
 have hnp := ok.np
 obtain ⟨c5, p0, p1, p2, lb, ld⟩ := Zde h hpp hp
 have LC := Hq (Zev h hv hl)
 obtain ⟨c8, l0, l1, fz, lg⟩ := LC.out
 have EM := Hq (fun (w' : World) (g : w.grownBy w' none) => Zcy ok (Zfo ok h g).at_ (by omega) at_ 14 l.beg)
 have hidx : (s.L.length : Int) - 1 - n = (i : Int) := by omega
 have hi1 : (i : Int) < (s.L.length : Int) := by omega
 have HL := Hq hl
 have HV := Hq hv
 have HH := Hq h
 clear hl h hp hi hv
 go_enter Try.func77, Try.ntmps77
 go_wp2
 go_quiet (fail)
 go_wp2
 have PRE := Hq (Yxs (k := k) (n := n) (kc := kc) HH.out LC.out nq)
 clear c5 p0 p1 p2 lb ld c8 l0 l1 fz lg hg
 generalize w.heap.size = N at *
 generalize ((w.alloc (.cells #[.pointer (some ⟨c.Bd, 0, none⟩)] 110)).alloc (.cells #[.int .i64 k, .int .i64 n, .int .i64 kc] 108)).drewN nq = W at *
 obtain ⟨f0, f1, f2, n0, n1, n2, n3, gr, p0, p1⟩ := PRE.out
 go_region_held3 (fun W' => W'.cell? ⟨N, 0, none⟩ = some (.pointer (some ⟨c.Bd, 0, none⟩)) /\ W'.cell? ⟨N + 1, 0, none⟩ = some (.int .i64 k) /\ W'.cell? ⟨g, i * 2, none⟩ = some (.int .i64 l.beg) /\ N < W'.heap.size /\ N + 1 < W'.heap.size /\ g < W'.heap.size /\ c.Bd < W'.heap.size) (first | exact ⟨by assumption, by assumption, by assumption, by assumption, by assumption, by assumption, by assumption⟩ | assumption | exact Ymj (by assumption) (by assumption) (by assumption) (by assumption) (by assumption) (by assumption) (by assumption) | exact Yxr (by assumption) (by assumption) (by assumption) (by assumption) (by assumption) (by assumption) (by assumption) (by assumption) (by assumption) (by assumption)) (first | (go_at_call 44; refine (EM.out _ (by (repeat (first | assumption | exact Ze _ none | refine Zf ?_ | refine Zma ?_ _)))).mono ?_; intro e w1 hq; obtain ⟨rfl, s1, g1, a1, l1, v1⟩ := hq; have G1 := Hq g1; have A1 := Hq a1; have L1 := Hq l1; have V1 := Hq v1; have K1 := Ymi g1 l1 v1 HV.out HL.out p0 p1 (by first | assumption | exact ⟨by assumption, by assumption, by assumption, by assumption, by assumption, by assumption, by assumption⟩); obtain ⟨k1, k2, k3, k4, k5, k6, k7⟩ := K1; try (have KB : w1.cell? ⟨W.heap.size, 0, none⟩ = some (.int .i64 0) /\ w1.frozen? ⟨W.heap.size, 0, none⟩ = false /\ W.heap.size < w1.heap.size := Yxt (v := .int .i64 0) (ty := 3) HH.out gr.size g1 (heap_alloc_new _ _); obtain ⟨kb1, kb2, kb3⟩ := KB); clear g1 a1 l1 v1))
 all_goals (first
  | have LP := Hq (Xct ok HH.out PRE.out (by (repeat (first | assumption | exact Ze _ none | refine Zf ?_ | refine Zma ?_ _))) (by simp) G1.out A1.out L1.out V1.out k1 k2 kb1 kb2)
  | have LP := Hq (Xcu ok HH.out PRE.out (by (repeat (first | assumption | exact Ze _ none | refine Zf ?_ | refine Zma ?_ _))) G1.out A1.out L1.out V1.out k1 k2))
 all_goals clear EM
 all_goals (first
  | (have _t := kb1; clear _t; generalize w1.setCell ⟨W.heap.size, 0, none⟩ (.int .i64 s.out.length) = wF at *; generalize W.heap.size = bj at *)
  | (generalize w1.alloc (.cells #[.int .i64 s.out.length] 3) = wF at *; generalize w1.heap.size = bj at *))
 all_goals
  have q1 := LP.out.f1
  have hVi := Zwt HL.out
  rw [show s.L.length - 1 - i = n.toNat by omega] at hVi
  have VI := Hq hVi
  clear hVi
  rcases hk with rfl | rfl
 · (
     have LP2 := Hq (Zev LP.out.go.at_ (by rw [LP.out.lo, LP.out.L]; exact HV.out) (by rw [LP.out.L]; exact HL.out))
     obtain ⟨d8, m0, m1, mz, mg⟩ := LP2.out
     have hcnt := Yah HH.out HL.out
     obtain ⟨j0, hj, hy0, hy1, hy2⟩ := info_parts Yay
     have hc5 : l.cls.length + 1 <= maxLen := by unfold maxLen; omega
     have hc6 : (l.cls.length + 1) * 8 <= 140737488355328 := by omega
     have hE1 : ∀ o, c.E <= (wF.alloc o).heap.size := fun o => by have := LP.out.go.at_.code.le; simp; omega
     have OWN := Hq (LP.out.go.at_.lend l (by rw [LP.out.L]; exact List.mem_of_getElem? HL.out))
     have hbj := World.block_lt_of_cell? _ _ LP.out.fj
     have hbN := World.block_lt_of_cell? _ _ LP.out.f0
     go_wp2_with (at_builtin; refine wpList_append_own_at _ rfl _ _ 178 rfl c.E 140 j0 .nilFunc 1 8 Yir hj hy0 hy1 hy2 rfl (by decide) _ _ _ rfl (OWN.out.alloc _) ⟨wF.heap.size, 0, none⟩ 1 1 [Yen (N, bj, s.out.length)] rfl rfl (Zao wF _ _) (Ybh _) hc5 hc6 (hE1 _) ?_; intro v9 w9 hown9 hgr9 hnil9 hat9; obtain ⟨g9, k9, hv9⟩ := Yk hown9; subst hv9; have ST := Yag LP.out.go.at_ (by rw [LP.out.lo, LP.out.L]; exact HV.out) (by rw [LP.out.L]; exact HL.out) hgr9; obtain ⟨t1, t2, t3⟩ := ST; have OW9 := Hq hown9; have GR9 := Hq hgr9; have AT9 := Hq hat9; clear hown9 hgr9 hnil9 hat9)
     go_ret
     exact Zuq ok LP.out HV.out HL.out (by omega) HH.out VI.out OW9.out GR9.out AT9.out _ (Xf (by go_num)))
 · go_wp2
   go_ret
   rw [Yhp VI.out LP.out.abs]
   exact ⟨Xf (by go_num), _, LP.out.go, rfl⟩
 · (
     have LP2 := Hq (Zev LP.out.go.at_ (by rw [LP.out.lo, LP.out.L]; exact HV.out) (by rw [LP.out.L]; exact HL.out))
     obtain ⟨d8, m0, m1, mz, mg⟩ := LP2.out
     have hcnt := Yah HH.out HL.out
     obtain ⟨j0, hj, hy0, hy1, hy2⟩ := info_parts Yay
     have hc5 : l.cls.length + 1 <= maxLen := by unfold maxLen; omega
     have hc6 : (l.cls.length + 1) * 8 <= 140737488355328 := by omega
     have hE1 : ∀ o, c.E <= (wF.alloc o).heap.size := fun o => by have := LP.out.go.at_.code.le; simp; omega
     have OWN := Hq (LP.out.go.at_.lend l (by rw [LP.out.L]; exact List.mem_of_getElem? HL.out))
     have hbj := World.block_lt_of_cell? _ _ LP.out.fj
     have hbN := World.block_lt_of_cell? _ _ LP.out.f0
     go_wp2_with (at_builtin; refine wpList_append_own_at _ rfl _ _ 178 rfl c.E 140 j0 .nilFunc 1 8 Yir hj hy0 hy1 hy2 rfl (by decide) _ _ _ rfl (OWN.out.alloc _) ⟨wF.heap.size, 0, none⟩ 1 1 [Yen (N, bj, s.out.length)] rfl rfl (Zao wF _ _) (Ybh _) hc5 hc6 (hE1 _) ?_; intro v9 w9 hown9 hgr9 hnil9 hat9; obtain ⟨g9, k9, hv9⟩ := Yk hown9; subst hv9; have ST := Yag LP.out.go.at_ (by rw [LP.out.lo, LP.out.L]; exact HV.out) (by rw [LP.out.L]; exact HL.out) hgr9; obtain ⟨t1, t2, t3⟩ := ST; have OW9 := Hq hown9; have GR9 := Hq hgr9; have AT9 := Hq hat9; clear hown9 hgr9 hnil9 hat9)
     go_ret
     exact Zuq ok LP.out HV.out HL.out (by omega) HH.out VI.out OW9.out GR9.out AT9.out _ (Xf (by go_num)))
 · go_wp2
   go_ret
   rw [Yhp VI.out LP.out.abs]
   exact ⟨Xf (by go_num), _, LP.out.go, rfl⟩
end Go.Proofs.Ytecaolkbllbokaa.TG
