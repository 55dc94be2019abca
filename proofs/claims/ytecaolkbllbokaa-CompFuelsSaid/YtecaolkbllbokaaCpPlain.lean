/-
  The code of parts without jumps, as a function; what a walk of write keeps. Conditions: as each theorem states.
-/
import Derived.Test.YtecaolkbllbokaaCpLook
namespace Go.Proofs.Ytecaolkbllbokaa.TG
open Go.RowKit Go.Great
set_option linter.unusedSimpArgs false
set_option linter.unusedVariables false

abbrev Cd := List (Int × Int) × List Int × Nat

def kidsC (F : Nat → Cd) : Nat → Nat → Cd
  | 0, a => ([], [], a)
  | n + 1, a => ((F a).1 ++ (kidsC F n (F a).2.2).1, (F a).2.1 ++ (kidsC F n (F a).2.2).2.1, (kidsC F n (F a).2.2).2.2)

/-- What stands behind a part's kids, where it has no jumps and looks at no text. -/
def finE (k n : Int) : List (Int × Int) :=
  if k = 2 then [(8, n)] else if k = 3 then [(10, 0)] else if k = 4 then [(12, 0)] else if k = 9 then [(18, 0)] else if k = 10 then [(4, 0)] else if k = 11 then [(2, 0)]
  else if k = 12 then [(3, n)] else if k = 13 then [(7, n)] else if k = 16 then [(13, 0)] else if k = 17 then [(9, 0)] else if k = 18 then [(11, 0)] else if k = 19 then [(n, 0)] else if k = 20 then [(n, 0)]
  else if k = 25 then [(17, n)] else if k = 26 then [(19, n)] else []

def plainK (k : Int) : Bool := k == 1 || k == 2 || k == 3 || k == 4 || k == 9 || k == 10 || k == 11 || k == 12 || k == 13 || k == 16 || k == 17 || k == 18 || k == 19 || k == 20 || k == 25 || k == 26

def codeE (ps : List (Int × Int × Int)) : Nat → Nat → Cd
  | 0, a => ([], [], a)
  | g + 1, a =>
    match ps[a]? with
    | none => ([], [], a)
    | some (k, n, kc) => ((kidsC (codeE ps g) kc.toNat (a + 1)).1 ++ finE k n, (kidsC (codeE ps g) kc.toNat (a + 1)).2.1 ++ (finE k n).map (fun _ => (a : Int)), (kidsC (codeE ps g) kc.toNat (a + 1)).2.2)

def kidsT (T : Nat → Bool) (F : Nat → Cd) : Nat → Nat → Bool
  | 0, _ => true
  | n + 1, a => T a && kidsT T F n (F a).2.2

/-- Is the part there, with all of its own, and none of them jumps? -/
def plainT (ps : List (Int × Int × Int)) : Nat → Nat → Bool
  | 0, _ => false
  | g + 1, a =>
    match ps[a]? with
    | none => false
    | some (k, n, kc) => plainK k && kidsT (plainT ps g) (codeE ps g) kc.toNat (a + 1)

/-- What a call of write leaves. -/
def WPost (w : World) (E Bd : Nat) (vt vf : Value) (nm : ByteArray) (ar : Int) (vl vp vout vorg vlo vk : Value) (out : List (Int × Int)) (org : List Int) (c : Cd) (e : Ending) (w' : World) : Prop :=
  e = .returned (.int .i64 c.2.2) ∧ Sp (EmitP Bd vout vorg) w w' ∧ ∃ vo vg, CodeAt w' E Bd vt vf nm ar vl vp vo vg vlo vk (out ++ c.1) (org ++ c.2.1) ∧ (∀ k, k < w.heap.size → EmitP Bd vo vg k → EmitP Bd vout vorg k)

theorem partsB_sp {w w' : World} {B : Nat} {pp : Option Addr} {ps : List (Int × Int × Int)} (h : PartsB w B pp ps) (hs : ∀ k, k < B → w'.heap[k]? = w.heap[k]?) : PartsB w' B pp ps := fun h0 => by
  obtain ⟨b, o, e, hb, hc⟩ := h h0
  refine ⟨b, o, e, hb, fun j k n kc hj => ?_⟩
  obtain ⟨h1, h2, h3⟩ := hc j k n kc hj
  rw [← heap_cell (hs b hb)] at h1 h2 h3
  exact ⟨h1, h2, h3⟩

/-- All that write reads beside the code's block. -/
structure WEnv (w : World) (Bd E bc b6 M : Nat) (pp : Option Addr) (ps : List (Int × Int × Int)) : Prop where
  pa : PartsB w Bd pp ps
  ki : KindsAt w Bd E bc b6 M

theorem wenv_low {w w' : World} {Bd E bc b6 M : Nat} {pp : Option Addr} {ps : List (Int × Int × Int)} (h : WEnv w Bd E bc b6 M pp ps) (hs : ∀ k, k < E → k ≠ Bd → w'.heap[k]? = w.heap[k]?) : WEnv w' Bd E bc b6 M pp ps :=
  ⟨partsB_sp h.pa fun k hk => hs k (by have := h.ki.lb; omega) (by omega), kinds_kept h.ki fun k h1 h2 => hs k h2 (by omega)⟩

theorem sp_low {w w' : World} {Bd E : Nat} {vt vf : Value} {nm : ByteArray} {ar : Int} {vl vp vout vorg vlo vk : Value} {out : List (Int × Int)} {org : List Int} (hC : CodeAt w E Bd vt vf nm ar vl vp vout vorg vlo vk out org)
    (g : Sp (EmitP Bd vout vorg) w w') : ∀ k, k < E → k ≠ Bd → w'.heap[k]? = w.heap[k]? := fun k hk hne => g.block k (Nat.lt_of_lt_of_le hk hC.le) (by
  rintro (e | e | e)
  · exact hne e
  · have := (hC.out.lt k e).1; omega
  · have := (hC.org.lt k e).1; omega)

theorem not_emit_new {w : World} {E Bd : Nat} {vt vf : Value} {nm : ByteArray} {ar : Int} {vl vp vout vorg vlo vk : Value} {out : List (Int × Int)} {org : List Int} (hC : CodeAt w E Bd vt vf nm ar vl vp vout vorg vlo vk out org) : ¬ EmitP Bd vout vorg w.heap.size := by
  rintro (e | e | e)
  · have := hC.lt; have := hC.le; omega
  · have := (hC.out.lt _ e).2; omega
  · have := (hC.org.lt _ e).2; omega

/-- Where the loop over a part's kids stands, in write. -/
structure WRel (w wa wr : World) (B E Bd : Nat) (vt vf : Value) (nm : ByteArray) (ar : Int) (vl vp vout vorg vlo vk : Value) (out : List (Int × Int)) (org : List Int) (k n kc : Int) (F : Nat → Cd) (T : Nat → Bool) (a0 q aq : Nat) (vo vg : Value) (outq : List (Int × Int)) (orgq : List Int) : Prop where
  code : CodeAt wr E Bd vt vf nm ar vl vp vo vg vlo vk outq orgq
  sp : Sp (EmitP Bd vout vorg) w wr
  row : ∀ j, j < w.heap.size → EmitP Bd vo vg j → EmitP Bd vout vorg j
  nb : ¬ EmitP Bd vo vg B
  copy : CopyW wr B k n kc
  hq : q ≤ kc.toNat
  e1 : out ++ (kidsC F kc.toNat a0).1 = outq ++ (kidsC F (kc.toNat - q) aq).1
  e2 : org ++ (kidsC F kc.toNat a0).2.1 = orgq ++ (kidsC F (kc.toNat - q) aq).2.1
  e3 : (kidsC F kc.toNat a0).2.2 = (kidsC F (kc.toNat - q) aq).2.2
  t : kidsT T F (kc.toNat - q) aq = true

theorem wrel_step {w wa wr w' : World} {B E Bd : Nat} {vt vf : Value} {nm : ByteArray} {ar : Int} {vl vp vout vorg vlo vk : Value} {out : List (Int × Int)} {org : List Int} {k n kc : Int} {F : Nat → Cd} {T : Nat → Bool} {a0 q aq : Nat} {vo vg : Value} {outq : List (Int × Int)} {orgq : List Int}
    (h : WRel w wa wr B E Bd vt vf nm ar vl vp vout vorg vlo vk out org k n kc F T a0 q aq vo vg outq orgq) (hlt : (q : Int) < kc) {vo' vg' : Value} (hB : B < wr.heap.size)
    (hsp : Sp (EmitP Bd vo vg) wr w') (hC : CodeAt w' E Bd vt vf nm ar vl vp vo' vg' vlo vk (outq ++ (F aq).1) (orgq ++ (F aq).2.1)) (hr : ∀ j, j < wr.heap.size → EmitP Bd vo' vg' j → EmitP Bd vo vg j) :
    WRel w wa w' B E Bd vt vf nm ar vl vp vout vorg vlo vk out org k n kc F T a0 (q + 1) (F aq).2.2 vo' vg' (outq ++ (F aq).1) (orgq ++ (F aq).2.1) := by
  have e : kc.toNat - q = (kc.toNat - (q + 1)) + 1 := by omega
  refine ⟨hC, sp_trans h.sp hsp (fun j hj hp => h.row j hj hp), fun j hj hp => h.row j hj (hr j (Nat.lt_of_lt_of_le hj h.sp.size) hp), fun hp => h.nb (hr B hB hp), ?_, by have := h.hq; omega, ?_, ?_, ?_, ?_⟩
  · unfold CopyW; rw [hsp.block B hB h.nb]; exact h.copy
  · rw [h.e1, e, kidsC, List.append_assoc]
  · rw [h.e2, e, kidsC, List.append_assoc]
  · rw [h.e3, e, kidsC]
  · have := h.t; rw [e, kidsT, Bool.and_eq_true] at this; exact this.2

theorem wrel_ok {w wa wr : World} {B E Bd : Nat} {vt vf : Value} {nm : ByteArray} {ar : Int} {vl vp vout vorg vlo vk : Value} {out : List (Int × Int)} {org : List Int} {k n kc : Int} {F : Nat → Cd} {T : Nat → Bool} {a0 q aq : Nat} {vo vg : Value} {outq : List (Int × Int)} {orgq : List Int}
    (h : WRel w wa wr B E Bd vt vf nm ar vl vp vout vorg vlo vk out org k n kc F T a0 q aq vo vg outq orgq) (hlt : (q : Int) < kc) : T aq = true ∧ outq.length + (F aq).1.length ≤ (out ++ (kidsC F kc.toNat a0).1).length ∧ orgq.length + (F aq).2.1.length ≤ (org ++ (kidsC F kc.toNat a0).2.1).length := by
  have e : kc.toNat - q = (kc.toNat - (q + 1)) + 1 := by omega
  have := h.t; rw [e, kidsT, Bool.and_eq_true] at this
  refine ⟨this.1, ?_, ?_⟩
  · rw [h.e1, e, kidsC]; simp only [List.length_append]; omega
  · rw [h.e2, e, kidsC]; simp only [List.length_append]; omega

theorem wrel_end {w wa wr : World} {B E Bd : Nat} {vt vf : Value} {nm : ByteArray} {ar : Int} {vl vp vout vorg vlo vk : Value} {out : List (Int × Int)} {org : List Int} {k n kc : Int} {F : Nat → Cd} {T : Nat → Bool} {a0 q aq : Nat} {vo vg : Value} {outq : List (Int × Int)} {orgq : List Int}
    (h : WRel w wa wr B E Bd vt vf nm ar vl vp vout vorg vlo vk out org k n kc F T a0 q aq vo vg outq orgq) (hlt : ¬ (q : Int) < kc) : outq = out ++ (kidsC F kc.toNat a0).1 ∧ orgq = org ++ (kidsC F kc.toNat a0).2.1 ∧ aq = (kidsC F kc.toNat a0).2.2 := by
  have e : kc.toNat - q = 0 := by omega
  refine ⟨?_, ?_, ?_⟩
  · rw [h.e1, e, kidsC]; simp
  · rw [h.e2, e, kidsC]; simp
  · rw [h.e3, e, kidsC]

theorem kids_pos {T : Nat → Bool} {F : Nat → Cd} {np : Nat} (hF : ∀ a, T a = true → a < (F a).2.2 ∧ (F a).2.2 ≤ np) : ∀ n a, a ≤ np → kidsT T F n a = true → a + n ≤ (kidsC F n a).2.2 ∧ (kidsC F n a).2.2 ≤ np
  | 0, a, ha, _ => by rw [kidsC]; exact ⟨Nat.le_refl _, ha⟩
  | n + 1, a, ha, h => by
    rw [kidsT, Bool.and_eq_true] at h
    have h1 := hF a h.1
    have h2 := kids_pos hF n (F a).2.2 h1.2 h.2
    rw [kidsC]
    exact ⟨by simp only []; omega, h2.2⟩

theorem plain_pos (ps : List (Int × Int × Int)) : ∀ g a, plainT ps g a = true → a < (codeE ps g a).2.2 ∧ (codeE ps g a).2.2 ≤ ps.length
  | 0, a, h => by cases h
  | g + 1, a, h => by
    rw [plainT] at h
    rw [codeE]
    cases hp : ps[a]? with
    | none => rw [hp] at h; cases h
    | some x =>
      obtain ⟨k, n, kc⟩ := x
      rw [hp] at h
      simp only [Bool.and_eq_true] at h
      have hlt : a < ps.length := (List.getElem?_eq_some_iff.1 hp).1
      have h2 := kids_pos (plain_pos ps g) kc.toNat (a + 1) (by omega) h.2
      exact ⟨by simp only []; omega, h2.2⟩

theorem wfin_emit {w wa wr w' : World} {B E Bd : Nat} {vt vf : Value} {nm : ByteArray} {ar : Int} {vl vp vout vorg vlo vk : Value} {out : List (Int × Int)} {org : List Int} {k n kc : Int} {F : Nat → Cd} {T : Nat → Bool} {a0 q aq at_ : Nat} {vo vg : Value} {outq : List (Int × Int)} {orgq : List Int} {c : Cd} {o a : Int}
    (h : WRel w wa wr B E Bd vt vf nm ar vl vp vout vorg vlo vk out org k n kc F T a0 q aq vo vg outq orgq) (hlt : ¬ (q : Int) < kc) (hc : c = ((kidsC F kc.toNat a0).1 ++ finE k n, (kidsC F kc.toNat a0).2.1 ++ (finE k n).map (fun _ => (at_ : Int)), (kidsC F kc.toNat a0).2.2)) (hf : finE k n = [(o, a)])
    (sp : Sp (EmitP Bd vo vg) wr w') (hr : ∃ vo' vg', CodeAt w' E Bd vt vf nm ar vl vp vo' vg' vlo vk (outq ++ [(o, a)]) (orgq ++ [(at_ : Int)]) ∧ (∀ j, j < wr.heap.size → EmitP Bd vo' vg' j → EmitP Bd vo vg j)) :
    WPost w E Bd vt vf nm ar vl vp vout vorg vlo vk out org c (.returned (.int .i64 aq)) w' := by
  obtain ⟨e1, e2, e3⟩ := wrel_end h hlt
  obtain ⟨vo', vg', hC, hrow⟩ := hr
  refine ⟨by rw [hc, e3], sp_trans h.sp sp (fun j hj hp => h.row j hj hp), vo', vg', ?_, fun j hj hp => h.row j hj (hrow j (Nat.lt_of_lt_of_le hj h.sp.size) hp)⟩
  rw [hc, hf]
  simp only [List.map_cons, List.map_nil]
  rw [← List.append_assoc, ← List.append_assoc, ← e1, ← e2]
  exact hC

theorem wfin_none {w wa wr w' : World} {B E Bd : Nat} {vt vf : Value} {nm : ByteArray} {ar : Int} {vl vp vout vorg vlo vk : Value} {out : List (Int × Int)} {org : List Int} {k n kc : Int} {F : Nat → Cd} {T : Nat → Bool} {a0 q aq at_ : Nat} {vo vg : Value} {outq : List (Int × Int)} {orgq : List Int} {c : Cd}
    (h : WRel w wa wr B E Bd vt vf nm ar vl vp vout vorg vlo vk out org k n kc F T a0 q aq vo vg outq orgq) (hlt : ¬ (q : Int) < kc) (hc : c = ((kidsC F kc.toNat a0).1 ++ finE k n, (kidsC F kc.toNat a0).2.1 ++ (finE k n).map (fun _ => (at_ : Int)), (kidsC F kc.toNat a0).2.2)) (hf : finE k n = [])
    (g : wr.grownBy w' none) : WPost w E Bd vt vf nm ar vl vp vout vorg vlo vk out org c (.returned (.int .i64 aq)) w' := by
  obtain ⟨e1, e2, e3⟩ := wrel_end h hlt
  refine ⟨by rw [hc, e3], sp_trans h.sp (sp_grown g (by simp)) (fun j hj hp => hp), vo, vg, ?_, h.row⟩
  rw [hc, hf]
  simp only [List.map_nil, List.append_nil]
  rw [← e1, ← e2]
  exact code_kept h.code g

theorem plain_cls (bc b6 : Nat) (k n : Int) (h : plainK k = true) (h1 : k ≠ 1) : k ∈ keysE ∧ ((∃ o, endK bc b6 k = .pl o ∧ finE k n = [(o, 0)]) ∨ (∃ o, endK bc b6 k = .wi o v5E ∧ finE k n = [(o, n)]) ∨ (endK bc b6 k = .fn (vnE bc) ∧ finE k n = [(n, 0)])) := by
  simp only [plainK, Bool.or_eq_true, beq_iff_eq] at h
  rcases h with ((((((((((((((h | h) | h) | h) | h) | h) | h) | h) | h) | h) | h) | h) | h) | h) | h) | h
  · exact absurd h h1
  · subst h; exact ⟨by decide, Or.inr (Or.inl ⟨_, rfl, rfl⟩)⟩
  · subst h; exact ⟨by decide, Or.inl ⟨_, rfl, rfl⟩⟩
  · subst h; exact ⟨by decide, Or.inl ⟨_, rfl, rfl⟩⟩
  · subst h; exact ⟨by decide, Or.inl ⟨_, rfl, rfl⟩⟩
  · subst h; exact ⟨by decide, Or.inl ⟨_, rfl, rfl⟩⟩
  · subst h; exact ⟨by decide, Or.inl ⟨_, rfl, rfl⟩⟩
  · subst h; exact ⟨by decide, Or.inr (Or.inl ⟨_, rfl, rfl⟩)⟩
  · subst h; exact ⟨by decide, Or.inr (Or.inl ⟨_, rfl, rfl⟩)⟩
  · subst h; exact ⟨by decide, Or.inl ⟨_, rfl, rfl⟩⟩
  · subst h; exact ⟨by decide, Or.inl ⟨_, rfl, rfl⟩⟩
  · subst h; exact ⟨by decide, Or.inl ⟨_, rfl, rfl⟩⟩
  · subst h; exact ⟨by decide, Or.inr (Or.inr ⟨rfl, rfl⟩)⟩
  · subst h; exact ⟨by decide, Or.inr (Or.inr ⟨rfl, rfl⟩)⟩
  · subst h; exact ⟨by decide, Or.inr (Or.inl ⟨_, rfl, rfl⟩)⟩
  · subst h; exact ⟨by decide, Or.inr (Or.inl ⟨_, rfl, rfl⟩)⟩

theorem sp_drewN {P : Nat → Prop} {w w' : World} {n : Nat} (h : Sp P (w.drewN n) w') : Sp P w w' := ⟨h.os, h.tape, h.output, h.size, h.block⟩

end Go.Proofs.Ytecaolkbllbokaa.TG
