/-
  CompBook's three lists as grown and GrownInts take them, and after these. Conditions: as each theorem states.
  The walk of GrownInts. Conditions: as each theorem states.
  What the walk of CompBook asks for at its steps. Conditions: as each theorem states.
-/
import Derived.Test.YtecaolkbllbokaaMB32
import Derived.Test.YtecaolkbllbokaaMB33
import Derived.Deep.Strs
import Derived.Test.YtecaolkbllbokaaMB31
namespace Go.Proofs.Ytecaolkbllbokaa.TG
open Go.RowKit Go.Great
set_option linter.unusedSimpArgs false
set_option linter.unusedVariables false

section
variable {lo : Nat} {w w' : World} {u : Un} {m : Int} {vp vi vl : Value} {ps : List P1} {vs lv : List Value} {n : Nat}

def pAt (ps : List P1) (i : Nat) : P1 := (ps[i]?).getD ⟨.slice none 0 0, [], .slice none 0 0, [], fun _ => []⟩
theorem pAt_get {i : Nat} (h : i < ps.length) : ps[i]? = some (pAt ps i) := by
  unfold pAt; rw [List.getElem?_eq_getElem h]; rfl

/-- A program's blocks hold rows of three types. -/
theorem bl_own {p : P1} (h : p.at_ w) {k : Nat} (hk : p.bl k) : ∃ (T : TypeId) (size c : Nat) (v : Value) (xs : List Value), (T = 5 ∨ T = 73 ∨ T = 75) ∧ w.ownsRow 0 T size v c xs ∧ v.ownBlock = some k := by
  rcases hk with e | e | ⟨x, hx, e⟩
  · exact ⟨_, _, _, _, _, Or.inl rfl, h.dt, e⟩
  · exact ⟨_, _, _, _, _, Or.inr (Or.inl rfl), h.fr, e⟩
  · obtain ⟨i, hi⟩ := List.mem_iff_getElem?.1 hx
    exact ⟨_, _, _, _, _, Or.inr (Or.inr rfl), h.each i x hi, e⟩

theorem book_gr (h : BkP lo w u m vp ps) (h3 : ps.length = 3) : ∃ A cA K G, vp = .slice (some ⟨A, 0, none⟩) 3 cA ∧ GrSt w A K 3 G (pAt ps) ∧ GrOK 3 (pAt ps) ∧ (∀ k, AllB A 3 (pAt ps) k → lo ≤ k ∧ k < w.heap.size) ∧
    (∀ (T : TypeId) (size c : Nat) (v : Value) (xs : List Value), w.ownsRow 0 T size v c xs → T ≠ 32 → T ≠ 5 → T ≠ 73 → T ≠ 75 → ∀ k, v.ownBlock = some k → ¬ AllB A 3 (pAt ps) k) := by
  have po := h.po
  rw [h3] at po
  have hat : ∀ i, i < 3 → (pAt ps i).at_ w ∧ LikeU u (pAt ps i) ∧ ∀ k, (pAt ps i).bl k → lo ≤ k := fun i hi => h.pa i _ (pAt_get (by omega))
  have hnA : ∀ A, vp.ownBlock = some A → ∀ i, i < 3 → ¬ (pAt ps i).bl A := fun A hA i hi hk => by
    obtain ⟨T, size, c, v, xs, hT, ho, e⟩ := bl_own (hat i hi).1 hk
    rcases hT with rfl | rfl | rfl
    all_goals exact own_unlike ho po.base0 (by decide) e hA
  rcases po.2 with ⟨_, e⟩ | ⟨g, cap, cur, e, hbg, hgg, hnc, hcm, hcs, htake⟩
  · cases e
  · subst e
    have hA := hnA g rfl
    have hget : ∀ (i : Nat) (x : Value), (flatP m ps)[i]? = some x → ((cur[i]?).getD undef) = x := fun i x hx => by
      rw [← htake] at hx
      have hi : i < 3 * 3 := by
        have := (List.getElem?_eq_some_iff.1 hx).1
        rw [List.length_take] at this; omega
      rw [List.getElem?_take_of_lt hi, Array.getElem?_toList] at hx
      rw [hx]; rfl
    refine ⟨g, cap, cur.size, fun i => (cur[i]?).getD undef, rfl, ⟨⟨cur, hgg, rfl, fun i hi => by simp [hi]⟩, by omega, fun i hi => ?_, fun i hi => (hat i hi).1, fun i j k hi hj hij hk => ?_, hA⟩, ⟨by decide, fun i hi => ?_, fun i hi => ?_, fun i hi k hk => ?_⟩, fun k hk => ?_, fun T size c v xs ho h0 h1 h2 h4 k hk hk2 => ?_⟩
    · obtain ⟨q1, q2⟩ := flatP_get m ps i _ (pAt_get (by omega))
      exact ⟨hget _ _ q1, hget _ _ q2⟩
    · exact h.pd i j _ _ k hij (pAt_get (by omega)) (pAt_get (by omega)) hk
    · have := (hat i hi).2.1.fl
      omega
    · have := (hat i hi).2.1.dl
      omega
    · have := (hat i hi).2.1.cc k hk
      omega
    · rcases hk with rfl | ⟨i, hi, hk⟩
      · exact ⟨hbg, (Array.getElem?_eq_some_iff.1 hgg).1⟩
      · exact ⟨(hat i hi).2.2 k hk, pr1_lt (hat i hi).1 hk⟩
    · rcases hk2 with rfl | ⟨i, hi, hk2⟩
      · exact own_unlike ho po.base0 h0 hk rfl
      · obtain ⟨T', size', c', v', xs', hT, ho', e⟩ := bl_own (hat i hi).1 hk2
        rcases hT with rfl | rfl | rfl
        · exact own_unlike ho ho' h1 hk e
        · exact own_unlike ho ho' h2 hk e
        · exact own_unlike ho ho' h4 hk e

theorem book_ints (h : BkI lo w vi vs) (hn : vs.length ≤ 100000) : ∃ L, IntsAt w vi vs L := by
  have hex : ∀ i, i < vs.length → ∃ l : List Int, (0 < l.length ∧ l.length ≤ 1000000) ∧ ∀ v, vs[i]? = some v → w.ownsRow lo 3 1 v l.length (l.map (Value.int .i64)) := fun i hi => by
    obtain ⟨v, hv⟩ : ∃ v, vs[i]? = some v := ⟨_, List.getElem?_eq_getElem hi⟩
    obtain ⟨l, h1, h2⟩ := h.ie i v hv
    exact ⟨l, h1, fun v' hv' => by rw [hv] at hv'; injection hv' with hv'; subst hv'; exact h2⟩
  obtain ⟨L, hL⟩ := Deep.choose_lt hex
  exact ⟨L, h.io.base0, fun i v hi => ((hL i (List.getElem?_eq_some_iff.1 hi).1).2 v hi).base0, h.id, fun i hi => (hL i hi).1, hn⟩

theorem bkI_sp {P : Nat → Prop} (h : BkI lo w vi vs) (s : Sp P w w') (hp : ∀ (T : TypeId) (size c : Nat) (v : Value) (xs : List Value), w.ownsRow 0 T size v c xs → T ≠ 32 → T ≠ 5 → T ≠ 73 → T ≠ 75 → ∀ k, v.ownBlock = some k → ¬ P k) : BkI lo w' vi vs :=
  ⟨own_sp h.io s (hp _ _ _ _ _ h.io.base0 (by decide) (by decide) (by decide) (by decide)), fun i x hi => by
    obtain ⟨l, hl, ho⟩ := h.ie i x hi
    exact ⟨l, hl, own_sp ho s (hp _ _ _ _ _ ho.base0 (by decide) (by decide) (by decide) (by decide))⟩, h.id⟩
theorem bkL_sp {P : Nat → Prop} (h : BkL lo w n vi vl lv) (s : Sp P w w') (hp : ∀ (T : TypeId) (size c : Nat) (v : Value) (xs : List Value), w.ownsRow 0 T size v c xs → T ≠ 32 → T ≠ 5 → T ≠ 73 → T ≠ 75 → T ≠ 3 → ∀ k, v.ownBlock = some k → ¬ P k) : BkL lo w' n vi vl lv :=
  ⟨own_sp h.lr s (hp _ _ _ _ _ h.lr.base0 (by decide) (by decide) (by decide) (by decide) (by decide)), fun i x hi => by
    obtain ⟨l, ho⟩ := h.le i x hi
    exact ⟨l, own_sp ho s (hp _ _ _ _ _ ho.base0 (by decide) (by decide) (by decide) (by decide) (by decide))⟩, h.ne⟩

theorem owned_types (h : BkI lo w vi vs) : ∀ (T : TypeId) (size c : Nat) (v : Value) (xs : List Value), w.ownsRow 0 T size v c xs → T ≠ 3 → ∀ k, v.ownBlock = some k → ¬ OwnedBy vs k := by
  rintro T size c v xs ho hT k hk ⟨x, hx, e⟩
  obtain ⟨i, hi⟩ := List.mem_iff_getElem?.1 hx
  obtain ⟨l, _, ho2⟩ := h.ie i x hi
  exact own_unlike ho ho2.base0 hT hk e
theorem owned_in (h : BkI lo w vi vs) : ∀ k, OwnedBy vs k → lo ≤ k ∧ k < w.heap.size := by
  rintro k ⟨x, hx, e⟩
  obtain ⟨i, hi⟩ := List.mem_iff_getElem?.1 hx
  obtain ⟨l, _, ho2⟩ := h.ie i x hi
  exact ho2.lt k e

theorem bkL_store {g c k i : Nat} {x : Value} (h : BkL lo w n vi vl lv) (hi : lv[i]? = some (.slice (some ⟨g, 0, none⟩) n c)) : BkL lo (w.setCell ⟨g, k, none⟩ x) n vi vl lv := by
  obtain ⟨rows, ho⟩ := h.le i _ hi
  have g1 := grownBy_set w g k x
  refine ⟨h.lr.kept g1 ?_, fun j y hj => ?_, h.ne⟩
  · cases e : vl.ownBlock with
    | none => exact Or.inl rfl
    | some b => exact Or.inr fun e2 => own_unlike h.lr.base0 ho.base0 (by decide) e e2.symm
  · obtain ⟨ys, ho2⟩ := h.le j y hj
    cases e : y.ownBlock with
    | none => exact ⟨ys, ho2.kept g1 (Or.inl e)⟩
    | some b =>
      by_cases hb : b = g
      · subst hb
        obtain ⟨p, c2, rfl⟩ := own_slice ho2
        rcases ho2.2 with ⟨e1, _⟩ | ⟨g2, cap2, cur2, e1, _⟩
        · rw [e1] at e; cases e
        · rw [e1] at e
          injection e with e; simp only [] at e; subst e
          rw [e1] at ho2 ⊢
          obtain ⟨s1, _⟩ := ho2.stored k x
          exact ⟨_, s1⟩
      · refine ⟨ys, ho2.kept g1 (Or.inr fun e2 => hb ?_)⟩
        rw [e] at e2
        injection e2 with e2

theorem bkL_see {i : Nat} (h : BkL lo w n vi vl lv) (hn : 0 < n) (hi : i < lv.length) : ∃ A cA g c, vl = .slice (some ⟨A, 0, none⟩) lv.length cA ∧ lv[i]? = some (.slice (some ⟨g, 0, none⟩) n c) ∧ w.cell? ⟨A, i, none⟩ = some (.slice (some ⟨g, 0, none⟩) n c) ∧ A < w.heap.size ∧ g < w.heap.size ∧ (∀ k, k < n → ∃ x, w.cell? ⟨g, k, none⟩ = some x) ∧ (∀ k, w.frozen? ⟨g, k, none⟩ = false) ∧ lo ≤ g := by
  obtain ⟨A, cA, hA, hAl, hc⟩ := own_get h.lr (by omega)
  obtain ⟨v, hv⟩ : ∃ x, lv[i]? = some x := ⟨_, List.getElem?_eq_getElem hi⟩
  obtain ⟨rows, ho⟩ := h.le i v hv
  obtain ⟨g, c, rfl, hg, hcc⟩ := own_get ho hn
  refine ⟨A, cA, g, c, hA, hv, hc i _ hv hi, hAl, hg, fun k hk => ?_, own_frozen ho, (ho.lt g rfl).1⟩
  obtain ⟨x, hx⟩ : ∃ x, rows[k]? = some x := ⟨_, List.getElem?_eq_getElem (by rw [ho.1]; omega)⟩
  exact ⟨x, hcc k x hx hk⟩
end

end Go.Proofs.Ytecaolkbllbokaa.TG

namespace Go.Proofs.Ytecaolkbllbokaa.TG
open Go.RowKit Go.Great
set_option linter.unusedSimpArgs false
set_option linter.unusedVariables false

theorem len_set (L : Nat → List Int) (q k : Nat) (x : Int) (l : List Int) : (l.set k x).length = l.length := by simp
theorem far_of {w : World} {all : Value} {vs : List Value} {L : Nat → List Int} (h : IntsAt w all vs L) : (∀ v ∈ vs, ∀ k, v.ownBlock = some k → k < w.heap.size) ∧ ∀ k, all.ownBlock = some k → k < w.heap.size := by
  refine ⟨fun v hv k hk => ?_, fun k hk => (h.ow.lt k hk).2⟩
  obtain ⟨i, hi⟩ := List.mem_iff_getElem?.1 hv
  exact ((h.each i v hi).lt k hk).2
theorem ms_lt {w : World} {b0 q : Nat} {more : Value} {ms vs : List Value} {L : Nat → List Int} (h : MoreAt w b0 more q ms vs L) : ∀ (i : Nat) (v : Value) (k : Nat), ms[i]? = some v → v.ownBlock = some k → k < w.heap.size := fun i v k hi hk => ((h.each i v hi).lt k hk).2

theorem mark_step {wr : World} {A N cA g n c q j : Nat} {vs : List Value} {L' : Nat → List Int} {l : List Int} (h : IntsAt wr (.slice (some ⟨A, 0, none⟩) N cA) vs (fun m => if m = q then l else L' m)) (hv : vs[q]? = some (.slice (some ⟨g, 0, none⟩) n c)) (hl : l.length = n) (x : Int) : IntsAt (wr.setCell ⟨g, j, none⟩ (.int .i64 x)) (.slice (some ⟨A, 0, none⟩) N cA) vs (fun m => if m = q then l.set j x else L' m) := by
  have := ints_store (k := j) (x := x) h hv (by rw [if_pos rfl]; exact hl.symm)
  refine ints_eq this fun m _ => ?_
  by_cases e : m = q
  · rw [if_pos e, if_pos e, if_pos rfl]
  · rw [if_neg e, if_neg e, if_neg e]

theorem set_marks {l : List Int} {q j n : Nat} (hl : l.length = n) (hj : j < n) (h : ∀ i, i < j → l[i]? = some (100000 * (q : Int) + (i : Int) + 7)) : ∀ i, i < j + 1 → (l.set j (100000 * (q : Int) + (j : Int) + 7))[i]? = some (100000 * (q : Int) + (i : Int) + 7) := fun i hi => by
  rw [List.getElem?_set]
  by_cases e : j = i
  · subst e
    rw [if_pos rfl, if_pos (by omega)]
  · rw [if_neg e]; exact h i (by omega)

theorem ints_more {w w' : World} {all more : Value} {vs : List Value} {L : Nat → List Int} {b0 : Nat} (h : IntsAt w all vs L) (g : w.grownBy w' more.ownBlock) (hm : ∀ k, more.ownBlock = some k → b0 ≤ k) (hlow : ∀ v ∈ vs, ∀ k, v.ownBlock = some k → k < b0) (hall : ∀ k, all.ownBlock = some k → k < b0) : IntsAt w' all vs L := by
  have far : ∀ {v : Value}, (∀ k, v.ownBlock = some k → k < b0) → v.ownBlock = none ∨ v.ownBlock ≠ more.ownBlock := fun {v} hk => by
    cases e : v.ownBlock with
    | none => exact Or.inl rfl
    | some y => exact Or.inr fun e2 => by have h1 := hk y e; have h2 := hm y e2.symm; omega
  exact ⟨h.ow.kept g (far hall), fun i v hi => (h.each i v hi).kept g (far (hlow v (List.mem_of_getElem? hi))), h.dis, h.pos, h.num⟩

theorem more_turn {w0 wS wr w' : World} {A N cA : Nat} {vs : List Value} {L : Nat → List Int} {b0 q g c : Nat} {more v' gv : Value} {ms : List Value} {o : Obj} (hvq : vs[q]? = some (.slice (some ⟨g, 0, none⟩) (L q).length c)) (hw : w0.heap.size ≤ b0) (hb : b0 ≤ wS.heap.size)
    (hlow : ∀ v ∈ vs, ∀ k, v.ownBlock = some k → k < b0) (hall : ∀ k, (Value.slice (some ⟨A, 0, none⟩) N cA).ownBlock = some k → k < b0) (h : GrowIn w0 wS wr (.slice (some ⟨A, 0, none⟩) N cA) vs (fun m => mkI m (L m).length) b0 q g (L q).length c more ms gv 40)
    (r : (wr.alloc o).grownBy w' more.ownBlock) (own : w'.ownsRow b0 47 1 v' (q + 1) (ms ++ [gv])) :
    IntsAt w' (.slice (some ⟨A, 0, none⟩) N cA) vs (fun m => mkI m (L m).length) ∧ MoreAt w' b0 v' (q + 1) (ms ++ [gv]) vs (fun m => mkI m (L m).length) ∧ Sp (OwnedBy vs) w0 w' ∧ b0 ≤ w'.heap.size := by
  have hm : ∀ k, more.ownBlock = some k → b0 ≤ k := fun k hk => (h.more.ow.lt k hk).1
  refine ⟨ints_more (intsA_kept h.ints (World.grownBy_alloc wr o none)) r hm hlow hall, more_push h.more hvq (by have := h.own; rw [mkI_len]; exact this) (fun x hx => ?_) r own, ?_, ?_⟩
  · rcases h.loc with e | ⟨y, e, hy⟩
    · rw [e] at hx; exact Or.inl hx
    · rw [e] at hx; injection hx with hx; exact Or.inr (by omega)
  · exact sp_trans (sp_trans h.sp (sp_grown (P := OwnedBy vs) (World.grownBy_alloc wr o none) (by simp)) (fun _ _ h => h)) (sp_grown (P := fun k => b0 ≤ k) r fun k _ e => hm k e) (fun k hk e => by omega)
  · have h1 := r.size
    have h2 := h.size
    rw [World.size_alloc] at h1; omega

set_option maxRecDepth 100000 in
set_option maxHeartbeats 8000000 in
theorem grown_ints (all : Value) (vs : List Value) (L : Nat → List Int) (w : World) (hz : 0 < vs.length) (h : IntsAt w all vs L) :
    Calls Try.prog 21 #[all] w fun e w' => e = .returned (.bool true) ∧ Sp (OwnedBy vs) w w' := by
  · obtain ⟨A, cA, -, -, rfl, -⟩ := ints_get h hz
    have HI := Lib.hid h
    have hnum := h.num
    have HP := Lib.hid h.pos
    have hni : (vs.length : Int) ≤ 100000 := by omega
    clear h
    go_enter Try.func21, Try.ntmps21
    go_wp2
    go_loopw [3] (fun i wr => ∃ (q : Nat) (L' : Nat → List Int), i = .int .i64 q ∧ q ≤ vs.length ∧ IntsAt wr (.slice (some ⟨A, 0, none⟩) vs.length cA) vs L' ∧ (∀ m, (L' m).length = (L m).length) ∧ (∀ m, m < q → L' m = mkI m (L m).length) ∧ Sp (OwnedBy vs) w wr) (fun i _ => vs.length - (intOf i).toNat)
    case atStart => exact ⟨0, L, rfl, Nat.zero_le _, HI.out, fun _ => rfl, fun m hm => absurd hm (Nat.not_lt_zero _), sp_refl _ _⟩
    case round =>
      obtain ⟨q, L', rfl, hq, hI, hlen, hmk, hsp⟩ := hrel
      have H1 := Lib.hid hI
      have HLEN := Lib.hid hlen
      have HMK := Lib.hid hmk
      have HSP := Lib.hid hsp
      by_cases hlt : (q : Int) < (vs.length : Int)
      · obtain ⟨_, _, g, c, _, _, hvq, _⟩ := ints_get hI (i := q) (by omega)
        rw [hlen q] at hvq
        have HV := Lib.hid hvq
        have hnp := (HP.out q (by omega)).2
        have hnp2 : ((L q).length : Int) ≤ 1000000 := by omega
        clear hI hlen hmk hsp hvq
        go_wp2
        go_loopw [4] (fun k wr => ∃ (j : Nat) (l : List Int), k = .int .i64 j ∧ j ≤ (L q).length ∧ l.length = (L q).length ∧ (∀ i, i < j → l[i]? = some (100000 * (q : Int) + (i : Int) + 7)) ∧ IntsAt wr (.slice (some ⟨A, 0, none⟩) vs.length cA) vs (fun m => if m = q then l else L' m) ∧ Sp (OwnedBy vs) w wr) (fun k _ => (L q).length - (intOf k).toNat)
        case atStart => exact ⟨0, L' q, rfl, Nat.zero_le _, HLEN.out q, fun i hi => absurd hi (Nat.not_lt_zero _), ints_eq H1.out fun m _ => by by_cases e : m = q <;> simp [e], HSP.out⟩
        case round =>
          clear HSP
          obtain ⟨j, l, rfl, hj, hll, hmk, hI, hsp⟩ := hrel
          have HI2 := Lib.hid hI
          have HMK2 := Lib.hid hmk
          have HS2 := Lib.hid hsp
          obtain ⟨-, -, c0, l0, l1, hc, hf, hne⟩ := ints_at hI HV.out
          have hne2 : ¬ g = A := fun e => hne e.symm
          by_cases hlt2 : (j : Int) < ((L q).length : Int)
          · obtain ⟨y, hy⟩ : ∃ y, l[j]? = some y := ⟨_, List.getElem?_eq_getElem (by omega)⟩
            have c1 := hc j y (by rw [if_pos rfl]; exact hy)
            have z1 := hf j
            clear hI hmk hsp hc hf hy
            go_wp2
            go_roundw
            case rel => exact ⟨j + 1, l.set j (100000 * (q : Int) + (j : Int) + 7), by go_num, by omega, by rw [List.length_set]; exact hll, set_marks hll (by omega) HMK2.out, mark_step HI2.out HV.out hll _, owned_store HS2.out HV.out⟩
            case measure => simp [intOf]; omega
          · clear hI hmk hsp hc hf
            go_wp2
            go_roundw
            case rel => exact ⟨q + 1, _, by go_num, by omega, HI2.out, fun m => by
              by_cases e : m = q
              · subst e; rw [if_pos rfl]; exact hll
              · rw [if_neg e]; exact HLEN.out m, fun m hm => by
              by_cases e : m = q
              · subst e; rw [if_pos rfl]; exact mkI_of hll fun i hi => HMK2.out i (by omega)
              · rw [if_neg e]; exact HMK.out m (by omega), HS2.out⟩
            case measure => simp [intOf]; omega
      · have hqe : q = vs.length := by omega
        subst hqe
        have H2 := Lib.hid (ints_eq (L' := fun m => mkI m (L m).length) hI fun m hm => hmk m hm)
        have FR := far_of hI
        have HLOW := Lib.hid FR.1
        have HALL := Lib.hid FR.2
        have HB0 := Lib.hid hsp.size
        clear hI hlen hmk hsp H1 HLEN HMK FR
        obtain ⟨ti, ti0, ti1, ti2, ti3⟩ := info_parts ints_info
        obtain ⟨n0, ni, nz0, nz1, nz2⟩ := info_parts int_info
        go_wp2
        have M0 := Lib.hid (show MoreAt wr wr.heap.size (.slice none 0 0) 0 [] vs (fun m => mkI m (L m).length) from ⟨World.ownsRow_nil _ _ _ _, rfl, (fun i v hi => by cases hi), (fun i v v' x hi => by cases hi)⟩)
        have HB1 := Lib.hid (Nat.le_refl wr.heap.size)
        obtain ⟨b0, hb0⟩ : ∃ b, b = wr.heap.size := ⟨_, rfl⟩
        rw [← hb0] at M0
        have HB1 := Lib.hid (show b0 ≤ wr.heap.size by omega)
        have HBW := Lib.hid (show w.heap.size ≤ b0 by have := HB0.out; omega)
        have HLO := Lib.hid (show ∀ v ∈ vs, ∀ k, v.ownBlock = some k → k < b0 by rw [hb0]; exact HLOW.out)
        have HAL := Lib.hid (show ∀ k, (Value.slice (some ⟨A, 0, none⟩) vs.length cA).ownBlock = some k → k < b0 by rw [hb0]; exact HALL.out)
        clear hb0 HLOW HALL
        obtain ⟨w1, hw1⟩ : ∃ w1, w1 = wr := ⟨_, rfl⟩
        subst hw1
        go_loopw [5, 6] (fun mv i wr => ∃ (q : Nat) (ms : List Value), i = .int .i64 q ∧ q ≤ vs.length ∧ IntsAt wr (.slice (some ⟨A, 0, none⟩) vs.length cA) vs (fun m => mkI m (L m).length) ∧ MoreAt wr b0 mv q ms vs (fun m => mkI m (L m).length) ∧ Sp (OwnedBy vs) w wr ∧ b0 ≤ wr.heap.size) (fun _ i _ => vs.length - (intOf i).toNat)
        case atStart => exact ⟨0, [], rfl, Nat.zero_le _, H2.out, M0.out, HSP.out, HB1.out⟩
        case round =>
          clear H2 M0 HSP
          obtain ⟨q, ms, rfl, hq2, hI, hM, hsp, hbs⟩ := hrel
          have H2 := Lib.hid hI
          have HM := Lib.hid hM
          have HSP := Lib.hid hsp
          have HBS := Lib.hid hbs
          by_cases hlt2 : (q : Int) < (vs.length : Int)
          · obtain ⟨_, _, g, c, _, _, hvq, _⟩ := ints_get hI (i := q) (by omega)
            rw [mkI_len] at hvq
            have HV := Lib.hid hvq
            obtain ⟨-, -, c0, l0, l1, hc, hf, hne⟩ := ints_at hI hvq
            have hnp := (HP.out q (by omega)).2
            have hnp2 : ((L q).length : Int) ≤ 1000000 := by omega
            have hG0 := hI.each q _ hvq
            have G0 := Lib.hid (show GrowIn w wr wr (.slice (some ⟨A, 0, none⟩) vs.length cA) vs (fun m => mkI m (L m).length) b0 q g (L q).length c u5 ms (.slice (some ⟨g, 0, none⟩) (L q).length c) 0 from ⟨by simpa [apI, mkI_len] using hG0, Or.inl rfl, hI, hM, hsp, Nat.le_refl _⟩)
            have HMS := Lib.hid (ms_lt hM)
            clear hI hM hsp hvq hc hf hne hG0
            go_wp2
            obtain ⟨wS, hwS⟩ : ∃ wS, wS = wr := ⟨_, rfl⟩
            subst hwS
            obtain ⟨more, hmore⟩ : ∃ m, m = u5 := ⟨_, rfl⟩
            subst hmore
            go_loopw [7, 8] (fun gv k wr => ∃ j : Nat, k = .int .i64 j ∧ j ≤ 40 ∧ GrowIn w wS wr (.slice (some ⟨A, 0, none⟩) vs.length cA) vs (fun m => mkI m (L m).length) b0 q g (L q).length c more ms gv j) (fun _ k _ => 40 - (intOf k).toNat)
            case atStart => exact ⟨0, rfl, by decide, G0.out⟩
            case round =>
              clear G0 c0 l0 l1
              obtain ⟨j, rfl, hj, hGI⟩ := hrel
              have GI := Lib.hid hGI
              by_cases hlt3 : (j : Int) < 40
              · have hown := hGI.own
                have hc3 : (L q).length + j + 1 ≤ maxLen := by unfold maxLen; omega
                have hc4 : ((L q).length + j + 1) * 8 ≤ 140737488355328 := by omega
                have hE : ∀ o, wS.heap.size ≤ (wr.alloc o).heap.size := by intro o; have := hGI.size; simp; omega
                have OW := Lib.hid hown
                clear hGI hown
                go_wp2_with (at_builtin; refine wpList_append_keep rfl _ _ 47 rfl 0 3 n0 (.int .i64 0) 1 8 int_und ni nz0 nz1 nz2 rfl (by decide) u7 _ _ rfl (OW.out.alloc _) ⟨wr.heap.size, 0, none⟩ 1 1 [.int .i64 _] rfl rfl (one_new wr _ _) (one_cell _ _) hc3 hc4 (by decide) 0 (Nat.zero_le _) (Nat.le_refl _) ?_; intro v9 w9 hr9; have HR9 := Lib.hid hr9; clear hr9)
                go_roundw
                case rel => exact ⟨j + 1, by go_num, by omega, grow_next HV.out (mkI_len q _).symm HBW.out HBS.out HLO.out HAL.out HMS.out GI.out (by
                  rcases HR9.out with ⟨r1, r2, r3, r4, r5⟩ | ⟨r1, r2, r3⟩
                  · exact Or.inl ⟨r1, r2, r3, r4, r5⟩
                  · exact Or.inr ⟨r1, r2, r3⟩)⟩
                case measure => simp [intOf]; omega
              · have hje : j = 40 := by omega
                subst hje
                have hown := hGI.own
                obtain ⟨p7, c7, e7⟩ := own_slice hown
                subst e7
                have hc3 : q + 1 ≤ maxLen := by unfold maxLen; omega
                have hc4 : (q + 1) * 24 ≤ 140737488355328 := by omega
                have hE : ∀ o, b0 ≤ (wr.alloc o).heap.size := by intro o; have := hGI.size; have := HBS.out; simp; omega
                clear hGI hown
                go_wp2_with (at_builtin; refine wpList_append_own_at _ rfl _ _ 41 rfl b0 47 ti (.slice none 0 0) 1 24 ints_und ti0 ti1 ti2 ti3 rfl (by decide) more _ _ rfl (GI.out.more.ow.alloc _) ⟨wr.heap.size, 0, none⟩ 1 1 [.slice p7 ((L q).length + 40) c7] rfl rfl (one_new wr _ _) (one_slice _ _ _) hc3 hc4 (hE _) ?_; intro v16 w16 hown16 hgr16 hnil16 hat16; have O16 := Lib.hid hown16; have G16 := Lib.hid hgr16; clear hown16 hgr16 hnil16 hat16)
                go_roundw
                case rel => exact ⟨q + 1, _, by go_num, by omega, more_turn HV.out HBW.out HBS.out HLO.out HAL.out GI.out G16.out O16.out⟩
                case measure => simp [intOf]; omega
          · have hqe2 : q = vs.length := by omega
            subst hqe2
            clear hI hM hsp
            go_wp2
            obtain ⟨w3, hw3⟩ : ∃ w3, w3 = wr := ⟨_, rfl⟩
            subst hw3
            obtain ⟨more, hmore⟩ : ∃ m, m = u5 := ⟨_, rfl⟩
            subst hmore
            obtain ⟨B, cB, hB, hBl, hBc⟩ := own_get HM.out.ow (by omega)
            subst hB
            have HBC := Lib.hid hBc
            clear hBc
            go_loopw [9] (fun i wr => ∃ q : Nat, i = .int .i64 q ∧ q ≤ vs.length ∧ w3.grownBy wr none) (fun i _ => vs.length - (intOf i).toNat)
            case atStart => exact ⟨0, rfl, Nat.zero_le _, grownBy_refl _ _⟩
            case round =>
              obtain ⟨q, rfl, hq3, hg⟩ := hrel
              have HG := Lib.hid hg
              by_cases hlt3 : (q : Int) < (vs.length : Int)
              · obtain ⟨_, _, g, c, _, _, hvq, _⟩ := ints_get H2.out (i := q) (by omega)
                rw [mkI_len] at hvq
                obtain ⟨-, -, c0, l0, l1, hc, -, -⟩ := ints_at H2.out hvq
                obtain ⟨mv, hmv⟩ : ∃ v, ms[q]? = some v := ⟨_, List.getElem?_eq_getElem (by have := HM.out.len; omega)⟩
                have hmo := HM.out.each q mv hmv
                rw [mkI_len] at hmo
                obtain ⟨gm, cm, rfl, hgm, hmc⟩ := own_get hmo (by omega)
                have c2 := HBC.out q _ hmv (by omega)
                have d0 := hg.cell c0 (by simp)
                have d2 := hg.cell c2 (by simp)
                have e0 := World.block_lt_of_cell? _ _ d0
                have e2 := World.block_lt_of_cell? _ _ d2
                have HC := Lib.hid hc
                have HMC := Lib.hid hmc
                have hnp := (HP.out q (by omega)).2
                have hnp2 : ((L q).length : Int) ≤ 1000000 := by omega
                clear hg hvq hc hmv hmo hmc
                go_wp2
                obtain ⟨w4, hw4⟩ : ∃ w4, w4 = wr := ⟨_, rfl⟩
                subst hw4
                clear d0 d2 e0 e2
                go_loopw [11] (fun k wr => ∃ j : Nat, k = .int .i64 j ∧ j ≤ (L q).length + 40 ∧ w3.grownBy wr none) (fun k _ => (L q).length + 40 - (intOf k).toNat)
                case atStart => exact ⟨0, rfl, Nat.zero_le _, HG.out⟩
                case round =>
                  clear HG
                  obtain ⟨j, rfl, hj, hg⟩ := hrel
                  have HG := Lib.hid hg
                  have d0 := hg.cell c0 (by simp)
                  have d2 := hg.cell c2 (by simp)
                  have e0 := World.block_lt_of_cell? _ _ d0
                  have e2 := World.block_lt_of_cell? _ _ d2
                  by_cases hlt4 : (j : Int) < ((L q).length : Int)
                  · have x0 := hg.cell (HC.out j _ (mkI_get (by omega))) (by simp)
                    have x1 := hg.cell (HMC.out j (.int .i64 (100000 * (q : Int) + (j : Int) + 7)) (by rw [List.getElem?_map, List.getElem?_append_left (by rw [mkI_len]; omega), mkI_get (by omega)]; rfl) (by omega)) (by simp)
                    have f0 := World.block_lt_of_cell? _ _ x0
                    have f1 := World.block_lt_of_cell? _ _ x1
                    have hlt5 : (j : Int) < ((L q).length : Int) + 40 := by omega
                    clear hg
                    go_wp2
                    go_roundw
                    case rel => exact ⟨j + 1, by go_num, by omega, HG.out⟩
                    case measure => simp [intOf]; omega
                  · by_cases hlt5 : (j : Int) < ((L q).length : Int) + 40
                    · have x1 := hg.cell (HMC.out j (.int .i64 (-(100000 * (q : Int)) - (j : Int) + ((L q).length : Int))) (by rw [List.getElem?_map, List.getElem?_append_right (by rw [mkI_len]; omega), mkI_len, apI_get (by omega)]; simp only [Option.map_some]; congr 2; omega) (by omega)) (by simp)
                      have f1 := World.block_lt_of_cell? _ _ x1
                      clear hg
                      go_wp2
                      go_roundw
                      case rel => exact ⟨j + 1, by go_num, by omega, HG.out⟩
                      case measure => simp [intOf]; omega
                    · clear hg
                      go_wp2
                      go_roundw
                      case rel => exact ⟨q + 1, by go_num, by omega, HG.out⟩
                      case measure => simp [intOf]; omega
              · clear hg
                go_wp2
                go_ret
                exact ⟨rfl, sp_trans HSP.out (sp_grown (P := OwnedBy vs) HG.out (by simp)) (fun _ _ h => h)⟩

end Go.Proofs.Ytecaolkbllbokaa.TG

namespace Go.Proofs.Ytecaolkbllbokaa.TG
open Go.RowKit Go.Great
set_option linter.unusedSimpArgs false
set_option linter.unusedVariables false

theorem pgm_und : Try.prog.underlying 50 = some (.slice 32) := by kernel_rfl
theorem pgm_info : (Try.prog.info? 32).map (fun i => (i.zero, i.size, i.bytes)) = some (some (.agg #[.int .i64 0, .slice none 0 0, .slice none 0 0]), 3, 56) := by kernel_rfl
theorem lists_und : Try.prog.underlying 51 = some (.slice 41) := by kernel_rfl
theorem lists_info : (Try.prog.info? 41).map (fun i => (i.zero, i.size, i.bytes)) = some (some (.slice none 0 0), 1, 24) := by kernel_rfl

theorem three_new (w : World) (a b c : Value) (t : TypeId) : ∀ j u, [a, b, c][j]? = some u → (w.alloc (.cells #[a, b, c] t)).cell? ((⟨w.heap.size, 0, none⟩ : Addr).add j) = some u := by
  intro j u hj
  match j, hj with
  | 0, hj => simp at hj; subst hj; simp [Addr.add]
  | 1, hj => simp at hj; subst hj; simp [Addr.add]
  | 2, hj => simp at hj; subst hj; simp [Addr.add]
theorem three_cell (x : Int) (p q : Option Addr) (n m k l : Nat) : ∀ u ∈ [Value.int .i64 x, Value.slice p n k, Value.slice q m l], u.oneCell' = true := by
  intro u hu; simp at hu; rcases hu with rfl | rfl | rfl <;> rfl

theorem grow_row {w wr w' : World} {row : Option Nat} (G : w.grownBy wr none) (g : wr.grownBy w' row) (h : ∀ k, row = some k → w.heap.size ≤ k) : w.grownBy w' none := by
  cases row with
  | none => exact grownBy_trans G g
  | some k => exact grow_new G g (h k rfl)

theorem orgs_n {u : Un} (h0 : compE u 65536 = 0) : (orgsU u).length = u.funcs.length ∧ 1 ≤ (orgsU u).length ∧ (orgsU u).length ≤ 64 := by
  have hr := right_of (comp_ok h0).1
  have e : (orgsU u).length = u.funcs.length := by unfold orgsU; rw [if_pos h0, List.length_map]
  have := hr.nf
  omega
theorem orgs_pos {u : Un} (h0 : compE u 65536 = 0) : ∀ l ∈ orgsU u, 0 < l.length ∧ l.length ≤ 1000000 := fun l hl => by
  obtain ⟨i, hi⟩ := List.mem_iff_getElem?.1 hl
  have h1 := org_small h0 hi
  have h2 := orgsU_small u i l hi
  omega

theorem p1_made {w w' : World} {u : Un} {mem : Int} {e : Ending} (h0 : compE u mem = 0) (h : CompileP w u mem e w') : ∃ P pd cd pF cF, P.D = .slice pd (pgU u mem).data.length cd ∧ P.F = .slice pF (pgU u mem).funcs.length cF ∧ e = .returned (.tuple #[.agg #[.int .i64 (pgU u mem).mem, .slice pd (pgU u mem).data.length cd, .slice pF (pgU u mem).funcs.length cF], .int .i64 0]) ∧ w.grownBy w' none ∧ ProgAt w' w.heap.size (.slice pd (pgU u mem).data.length cd) (.slice pF (pgU u mem).funcs.length cF) (pgU u mem) ∧ P.at_ w' ∧ (∀ k, P.bl k → w.heap.size ≤ k) ∧ LikeU u P := by
  obtain ⟨P, he, hg, hp, h1, h2, h3⟩ := p1_of_comp h0 h
  obtain ⟨pd, cd, pF, cF, e1, e2⟩ := prog_slices hp
  exact ⟨P, pd, cd, pF, cF, e1, e2, by rw [he, e1, e2], hg, by rw [← e1, ← e2]; exact hp, h1, h2, h3⟩

theorem bkL_at {lo n N cA A g n' c i : Nat} {w : World} {vi : Value} {lv : List Value} (h : BkL lo w n vi (.slice (some ⟨A, 0, none⟩) N cA) lv) (hn : 0 < n) (hi : lv[i]? = some (.slice (some ⟨g, 0, none⟩) n' c)) : N = lv.length ∧ n' = n ∧ w.cell? ⟨A, i, none⟩ = some (.slice (some ⟨g, 0, none⟩) n' c) ∧ A < w.heap.size ∧ g < w.heap.size ∧ (∀ k, k < n → ∃ x, w.cell? ⟨g, k, none⟩ = some x) ∧ (∀ k, w.frozen? ⟨g, k, none⟩ = false) ∧ lo ≤ g := by
  obtain ⟨A', cA', g', c', e, e1, h1, h2, h3, h4, h5, h6⟩ := bkL_see h hn (List.getElem?_eq_some_iff.1 hi).1
  injection e with q1 q2 q3
  injection q1 with q1; injection q1 with q1
  subst q1
  rw [hi] at e1
  injection e1 with e1
  injection e1 with r1 r2 r3
  injection r1 with r1; injection r1 with r1
  subst r1; subst r2; subst r3
  exact ⟨q2, rfl, h1, h2, h3, h4, h5, h6⟩

theorem boxP_see {w : World} {b : Nat} {m : Int} {vd vF : Value} (h : BoxP w b m vd vF) : w.cell? ⟨b, 0, none⟩ = some (.int .i64 m) ∧ w.cell? ⟨b, 1, none⟩ = some vd ∧ w.cell? ⟨b, 2, none⟩ = some vF ∧ b < w.heap.size :=
  ⟨cell_of_row w _ 0 _ _ _ h, cell_of_row w _ 1 _ _ _ h, cell_of_row w _ 2 _ _ _ h, (Array.getElem?_eq_some_iff.1 h).1⟩

theorem book_nil (lo : Nat) (w : World) (u : Un) (m : Int) (n : Nat) : Book lo w u m n (.slice none 0 0) (.slice none 0 0) (.slice none 0 0) [] [] [] :=
  ⟨⟨World.ownsRow_nil _ _ _ _, fun i p h => (by cases h), fun i j p q k hij h => (by cases h)⟩, ⟨World.ownsRow_nil _ _ _ _, fun i v h => (by cases h), fun i j x y k hij h => (by cases h)⟩, ⟨World.ownsRow_nil _ _ _ _, fun i v h => (by cases h), fun i v k h => (by cases h)⟩, by simp, rfl⟩

theorem turn_at {lo : Nat} {w w' : World} {u : Un} {m : Int} {vp vi vl : Value} {ps : List P1} {vs lv : List Value} {P : P1} {v : Value} {orgs : List (List Int)} {xs : List Value} {b : Nat} {w1 w2 : World} (h : Book lo w u m orgs.length vp vi vl ps vs lv) (hlo : lo ≤ w.heap.size) (g1 : w.grownBy w1 none) (hP : P.at_ w1) (hl : LikeU u P) (hlow : ∀ k, P.bl k → w.heap.size ≤ k) (g2 : w1.grownBy w2 none) (hs : Lists b w2 v orgs xs) (hb : w.heap.size ≤ b) (g3 : w2.grownBy w' none) (hpos : ∀ l ∈ orgs, 0 < l.length ∧ l.length ≤ 1000000) : Turn lo w.heap.size w' u m vp vi vl ps vs lv P v orgs xs := by
  have G := grownBy_trans (grownBy_trans g1 g2) g3
  have hs' : Lists w.heap.size w2 v orgs xs := ⟨own_lower hs.ow hb, hs.len, fun i x l hi hx => own_lower (hs.each i x l hi hx) hb, hs.dis⟩
  refine ⟨bkP_kept h.p G, bkI_kept h.i G, bkL_kept h.l G, at_kept hP (grownBy_trans g2 g3), hl, hlow, lists_kept hs' g3, hlo, fun q hq k hk => ?_, fun x hx k hk => ?_, fun k hk => (h.i.io.lt k hk).2, hpos, G.size⟩
  · obtain ⟨i, hi⟩ := List.mem_iff_getElem?.1 hq
    exact pr1_lt (h.p.pa i q hi).1 hk
  · obtain ⟨i, hi⟩ := List.mem_iff_getElem?.1 hx
    obtain ⟨l, _, ho⟩ := h.i.ie i x hi
    exact (ho.lt k hk).2

theorem turn_end {lo : Nat} {w : World} {u : Un} {m : Int} {n : Nat} {vp vi vl v : Value} {ps : List P1} {vs lv xs : List Value} {P : P1} (h : BkP lo w u m vp (ps ++ [P]) ∧ BkI lo w vi (vs ++ xs) ∧ BkL lo w n vi vl (lv ++ [v])) (n1 : vs.length = ps.length * n) (n2 : lv.length = ps.length) (hx : xs.length = n) : Book lo w u m n vp vi vl (ps ++ [P]) (vs ++ xs) (lv ++ [v]) :=
  ⟨h.1, h.2.1, h.2.2, by rw [List.length_append, List.length_append, n1, hx, Nat.add_mul]; simp, by simp [n2]⟩

theorem lists_news {b N c g : Nat} {w : World} {orgs : List (List Int)} {xs : List Value} (h : Lists b w (.slice (some ⟨g, 0, none⟩) N c) orgs xs) : ∀ j u, xs[j]? = some u → w.cell? ((⟨g, 0, none⟩ : Addr).add j) = some u := fun j x hx => by
  have hj : j < orgs.length := by rw [← h.len]; exact (List.getElem?_eq_some_iff.1 hx).1
  obtain ⟨g', cap, e, _, hc⟩ := own_get h.ow (by omega)
  injection e with e1 e2 e3
  injection e1 with e1; injection e1 with e1
  subst e1
  have := hc j x hx hj
  rw [addr_plus, Nat.zero_add]; exact this
theorem lists_one {b : Nat} {w : World} {v : Value} {orgs : List (List Int)} {xs : List Value} (h : Lists b w v orgs xs) : ∀ u ∈ xs, u.oneCell' = true := fun x hx => by
  obtain ⟨i, hi⟩ := List.mem_iff_getElem?.1 hx
  obtain ⟨l, hl⟩ : ∃ l, orgs[i]? = some l := ⟨_, List.getElem?_eq_getElem (by rw [← h.len]; exact (List.getElem?_eq_some_iff.1 hi).1)⟩
  obtain ⟨p, c, rfl⟩ := own_slice (h.each i x l hi hl)
  rfl

theorem book_gr2 {lo : Nat} {wB w7 : World} {u : Un} {m : Int} {vp : Value} {ps : List P1} (h : BkP lo wB u m vp ps) (h3 : ps.length = 3) (g : wB.grownBy w7 none) : ∃ A cA K G, vp = .slice (some ⟨A, 0, none⟩) 3 cA ∧ GrSt w7 A K 3 G (pAt ps) ∧ GrOK 3 (pAt ps) ∧ (∀ k, AllB A 3 (pAt ps) k → PT lo wB.heap.size k) ∧
    (∀ (T : TypeId) (size c : Nat) (v : Value) (xs : List Value), w7.ownsRow 0 T size v c xs → T ≠ 32 → T ≠ 5 → T ≠ 73 → T ≠ 75 → ∀ k, v.ownBlock = some k → ¬ AllB A 3 (pAt ps) k) := by
  obtain ⟨A, cA, K, G, e, h1, h2, h4, h5⟩ := book_gr (bkP_kept h g) h3
  obtain ⟨A', cA', K', G', e', q1, q2, q4, q5⟩ := book_gr h h3
  rw [e] at e'
  injection e' with d1 d2 d3
  injection d1 with d1; injection d1 with d1
  subst d1
  exact ⟨A, cA, K, G, e, h1, h2, fun k hk => q4 k hk, h5⟩
theorem book_sp {lo : Nat} {wB w7 w8 w9 : World} {vi : Value} {vs : List Value} {P : Nat → Prop} (h : BkI lo wB vi vs) (s8 : Sp P w7 w8) (hin : ∀ k, P k → PT lo wB.heap.size k) (s9 : Sp (OwnedBy vs) w8 w9) : Sp (PT lo wB.heap.size) w7 w9 :=
  sp_trans (sp_more s8 hin) (sp_more s9 fun k hk => owned_in h k hk) (fun _ _ h => h)
theorem book_L {lo n : Nat} {w7 w8 w9 : World} {vi vl : Value} {vs lv : List Value} {P : Nat → Prop} (h : BkL lo w7 n vi vl lv) (s8 : Sp P w7 w8) (hty : ∀ (T : TypeId) (size c : Nat) (v : Value) (xs : List Value), w7.ownsRow 0 T size v c xs → T ≠ 32 → T ≠ 5 → T ≠ 73 → T ≠ 75 → ∀ k, v.ownBlock = some k → ¬ P k) (h8 : BkI lo w8 vi vs) (s9 : Sp (OwnedBy vs) w8 w9) : BkL lo w9 n vi vl lv :=
  bkL_sp (bkL_sp h s8 fun T size c v xs ho h0 h1 h2 h3 _ => hty T size c v xs ho h0 h1 h2 h3) s9 fun T size c v xs ho _ _ _ _ h5 => owned_types h8 T size c v xs ho h5

end Go.Proofs.Ytecaolkbllbokaa.TG
