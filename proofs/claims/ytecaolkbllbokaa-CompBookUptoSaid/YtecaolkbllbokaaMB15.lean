/-
  Where the loop over a part's kids stands, in write, in general. Conditions: as each theorem states.
  Walk of the compiler's write, for parts that jump, and for the others. Conditions: as each theorem states.
  Walk of the compiler's write, for parts that do not jump; write in general. Conditions: as each theorem states.
-/
import Derived.Test.YtecaolkbllbokaaMB13
import Derived.Test.YtecaolkbllbokaaMB14
import Derived.Test.YtecaolkbllbokaaMB09
namespace Go.Proofs.Ytecaolkbllbokaa.TG
open Go.RowKit Go.Great
set_option linter.unusedSimpArgs false
set_option linter.unusedVariables false

theorem write_eq {ts : List (ByteArray × List Int)} {ps : List (Int × Int × Int)} {g a : Nat} {s : PS} {k n kc : Int} (hp : ps[a]? = some (k, n, kc)) : writeP ts ps (g + 1) s a =
    (if k = 5 then branchP (writeP ts ps g) kc s a else if k = 6 then whileP (writeP ts ps g) s a else if k = 7 ∨ k = 8 then leaveP k n.toNat s a else if k = 23 then eitherP (writeP ts ps g) 15 0 s a else if k = 24 then eitherP (writeP ts ps g) 16 1 s a
      else (PS.emits (kidsP (writeP ts ps g) kc.toNat s (a + 1)).1 a (finG ts k n), (kidsP (writeP ts ps g) kc.toNat s (a + 1)).2)) := by rw [writeP, hp]

structure KLoop (c : Cx) (g : Nat) (w : World) (s : Stt) (at_ : Nat) (k n kc : Int) (q aq : Nat) (wr : World) (sr : Stt) : Prop where
  go : Go c w s wr sr
  copy : CopyW wr w.heap.size k n kc
  nb : ¬ c.P sr w.heap.size
  hq : q ≤ kc.toNat
  eq : kidsP (writeP c.ts c.ps g) kc.toNat s.abs (at_ + 1) = kidsP (writeP c.ts c.ps g) (kc.toNat - q) sr.abs aq
  ok : kidsO (okP c.ts.length c.ps g s.L.length) (skipS c.ps g) (kc.toNat - q) aq
  L : sr.L.length = s.L.length
  bud : Bud c sr aq 8
  ka : at_ + 1 + q ≤ aq
  le : aq ≤ c.ps.length

theorem kloop_start {c : Cx} (ok : CxOK c) {g : Nat} {w : World} {s : Stt} {at_ : Nat} {k n kc : Int} (h : AtS c w s) (hja : at_ < c.ps.length) (hb : s.out.length + 8 * (c.ps.length - at_) + 8 ≤ 1000000000000) (ho : kidsO (okP c.ts.length c.ps g s.L.length) (skipS c.ps g) kc.toNat (at_ + 1)) :
    KLoop c g w s at_ k n kc 0 (at_ + 1) (w.alloc (.cells #[.int .i64 k, .int .i64 n, .int .i64 kc] 108)) s :=
  ⟨go_alloc ok h _, copy_new w k n kc, p_new h (Nat.le_refl _), Nat.zero_le _, rfl, ho, rfl, bud_start hb hja, Nat.le_refl _, hja⟩

theorem kloop_step {c : Cx} {g : Nat} {w wr w' : World} {s sr s' : Stt} {at_ : Nat} {k n kc : Int} {q aq p : Nat} (h : KLoop c g w s at_ k n kc q aq wr sr) (hlt : (q : Int) < kc) (g1 : WStep c g wr sr aq w' s' p) : KLoop c g w s at_ k n kc (q + 1) p w' s' := by
  have e : kc.toNat - q = (kc.toNat - (q + 1)) + 1 := by omega
  have hB := copy_lt h.copy
  have ho := h.ok
  rw [e] at ho
  refine ⟨go_trans h.go g1.go, ?_, fun hp => h.nb (g1.go.row _ hB hp), by have := h.hq; omega, ?_, ?_, g1.L.trans h.L, bud_write h.bud g1, by have := g1.lt; have := h.ka; omega, g1.le⟩
  · unfold CopyW; rw [g1.go.sp.block _ hB h.nb]; exact h.copy
  · rw [h.eq, e, kidsP, g1.eq]
  · have := ho.2; rw [← g1.sk] at this; exact this

theorem kloop_ok {c : Cx} {g : Nat} {w wr : World} {s sr : Stt} {at_ : Nat} {k n kc : Int} {q aq : Nat} (h : KLoop c g w s at_ k n kc q aq wr sr) (hlt : (q : Int) < kc) : okP c.ts.length c.ps g sr.L.length aq := by
  have e : kc.toNat - q = (kc.toNat - (q + 1)) + 1 := by omega
  have ho := h.ok
  rw [e] at ho
  rw [h.L]; exact ho.1

/-- The kids are written: what write tells. -/
theorem kloop_end {c : Cx} {g : Nat} {w wr w' : World} {s sr s' : Stt} {at_ : Nat} {k n kc : Int} {q aq : Nat} (h : KLoop c g w s at_ k n kc q aq wr sr) (hlt : ¬ (q : Int) < kc) (hp : c.ps[at_]? = some (k, n, kc)) (hk : k ≠ 5 ∧ k ≠ 6 ∧ ¬ (k = 7 ∨ k = 8) ∧ k ≠ 23 ∧ k ≠ 24)
    (g1 : Go c wr sr w' s') (e1 : s'.abs = PS.emits sr.abs at_ (finG c.ts k n)) : WP c w s (writeP c.ts c.ps (g + 1) s.abs at_) (.returned (.int .i64 aq)) w' := by
  have e : kc.toNat - q = 0 := by omega
  have he := h.eq
  rw [e, kidsP] at he
  rw [write_eq hp, if_neg hk.1, if_neg hk.2.1, if_neg hk.2.2.1, if_neg hk.2.2.2.1, if_neg hk.2.2.2.2, he]
  exact ⟨rfl, s', go_trans h.go g1, e1⟩

theorem kloop_bound {c : Cx} {g : Nat} {w wr : World} {s sr : Stt} {at_ : Nat} {k n kc : Int} {q aq : Nat} (h : KLoop c g w s at_ k n kc q aq wr sr) : sr.out.length ≤ 999999999999 ∧ sr.org.length ≤ 999999999999 := by
  have h1 := h.bud
  have h2 : sr.org.length = sr.out.length := h.go.at_.inv.ol
  unfold Bud at h1
  omega

theorem go_two {c : Cx} (ok : CxOK c) {w w' : World} {s : Stt} (h : AtS c w s) {a : Nat} {x y : Int × Int} (sp : Sp (EmitP c.Bd s.vout s.vorg) w w')
    (hp : ∃ vo vg, CodeAt w' c.E c.Bd (.slice c.pt c.ts.length c.ct) c.vf c.nm c.ar c.vl (.slice c.pp c.ps.length c.cp) vo vg s.vlo (.map (some c.M)) (s.out ++ [x] ++ [y]) (s.org ++ [(a : Int)] ++ [(a : Int)]) ∧ (∀ k, k < w.heap.size → EmitP c.Bd vo vg k → EmitP c.Bd s.vout s.vorg k)) :
    ∃ s', Go c w s w' s' ∧ s'.abs = PS.emits s.abs a [x, y] := by
  obtain ⟨vo, vg, hC, hr⟩ := hp
  exact ⟨_, go_code ok h sp hC hr (emits_grows [x, y] a h.inv).inv, rfl⟩

theorem fin_cls (bc b6 : Nat) (ts : List (ByteArray × List Int)) (k n : Int) (h0 : 1 ≤ k ∧ k ≤ 26) (h1 : k ≠ 1) (hk : k ≠ 5 ∧ k ≠ 6 ∧ ¬ (k = 7 ∨ k = 8) ∧ k ≠ 23 ∧ k ≠ 24) : k ∈ keysE ∧
    ((∃ o, endK bc b6 k = .pl o ∧ finG ts k n = [(o, 0)]) ∨ (∃ o, endK bc b6 k = .wi o v5E ∧ finG ts k n = [(o, n)]) ∨ (endK bc b6 k = .fn (vnE bc) ∧ finG ts k n = [(n, 0)]) ∨
      k = 14 ∨ k = 15 ∨ k = 21 ∨ k = 22) := by
  have : k = 2 ∨ k = 3 ∨ k = 4 ∨ k = 9 ∨ k = 10 ∨ k = 11 ∨ k = 12 ∨ k = 13 ∨ k = 14 ∨ k = 15 ∨ k = 16 ∨ k = 17 ∨ k = 18 ∨ k = 19 ∨ k = 20 ∨ k = 21 ∨ k = 22 ∨ k = 25 ∨ k = 26 := by omega
  rcases this with h | h | h | h | h | h | h | h | h | h | h | h | h | h | h | h | h | h | h
  · subst h; exact ⟨by decide, Or.inr (Or.inl ⟨_, rfl, rfl⟩)⟩
  · subst h; exact ⟨by decide, Or.inl ⟨_, rfl, rfl⟩⟩
  · subst h; exact ⟨by decide, Or.inl ⟨_, rfl, rfl⟩⟩
  · subst h; exact ⟨by decide, Or.inl ⟨_, rfl, rfl⟩⟩
  · subst h; exact ⟨by decide, Or.inl ⟨_, rfl, rfl⟩⟩
  · subst h; exact ⟨by decide, Or.inl ⟨_, rfl, rfl⟩⟩
  · subst h; exact ⟨by decide, Or.inr (Or.inl ⟨_, rfl, rfl⟩)⟩
  · subst h; exact ⟨by decide, Or.inr (Or.inl ⟨_, rfl, rfl⟩)⟩
  · subst h; exact ⟨by decide, by simp⟩
  · subst h; exact ⟨by decide, by simp⟩
  · subst h; exact ⟨by decide, Or.inl ⟨_, rfl, rfl⟩⟩
  · subst h; exact ⟨by decide, Or.inl ⟨_, rfl, rfl⟩⟩
  · subst h; exact ⟨by decide, Or.inl ⟨_, rfl, rfl⟩⟩
  · subst h; exact ⟨by decide, Or.inr (Or.inr (Or.inl ⟨rfl, rfl⟩))⟩
  · subst h; exact ⟨by decide, Or.inr (Or.inr (Or.inl ⟨rfl, rfl⟩))⟩
  · subst h; exact ⟨by decide, by simp⟩
  · subst h; exact ⟨by decide, by simp⟩
  · subst h; exact ⟨by decide, Or.inr (Or.inl ⟨_, rfl, rfl⟩)⟩
  · subst h; exact ⟨by decide, Or.inr (Or.inl ⟨_, rfl, rfl⟩)⟩

end Go.Proofs.Ytecaolkbllbokaa.TG

namespace Go.Proofs.Ytecaolkbllbokaa.TG
open Go.RowKit Go.Great
set_option linter.unusedSimpArgs false
set_option linter.unusedVariables false

set_option maxRecDepth 100000 in
set_option maxHeartbeats 4000000 in
theorem write_jump (c : Cx) (ok : CxOK c) (g : Nat) (hI : WCon c g) (s : Stt) (at_ : Nat) (w : World) (k n kc : Int) (hp : c.ps[at_]? = some (k, n, kc)) (hw : WellK c.ts.length s.L.length k n kc)
    (ho : if k = 6 then okP c.ts.length c.ps g s.L.length (at_ + 1) ∧ okP c.ts.length c.ps g (s.L.length + 1) (skipS c.ps g (at_ + 1)) else kidsO (okP c.ts.length c.ps g s.L.length) (skipS c.ps g) kc.toNat (at_ + 1))
    (hk : k = 5 ∨ k = 6 ∨ (k = 7 ∨ k = 8) ∨ k = 23 ∨ k = 24) (h : AtS c w s) (hb : s.out.length + 8 * (c.ps.length - at_) + 8 ≤ 1000000000000) :
    Calls Try.prog 43 #[.pointer (some ⟨c.Bd, 0, none⟩), .int .i64 at_] w (WP c w s (writeP c.ts c.ps (g + 1) s.abs at_)) := by
  have hja : at_ < c.ps.length := (List.getElem?_eq_some_iff.1 hp).1
  obtain ⟨bp, op, hpp⟩ := pp_some h hja
  have hji : (at_ : Int) < (c.ps.length : Int) := by omega
  have hnp := ok.np
  obtain ⟨c5, p0, p1, p2, lb, ld⟩ := part_cells h hpp hp
  have ga := go_alloc ok h (.cells #[.int .i64 k, .int .i64 n, .int .i64 kc] 108)
  have GA := Lib.hid ga
  rcases hk with h5 | h6 | h7 | h23 | h24
  · subst h5
    have EQ := Lib.hid ((write_eq (ts := c.ts) (g := g) (s := s.abs) hp).trans (if_pos rfl))
    have hc := hw.i rfl
    rw [if_neg (by decide)] at ho
    rcases hc with hc | hc
    · subst hc
      have BR := Lib.hid (branch_two c ok g hI s at_ _ n hp ho.1 ho.2.1 ga.at_ hb)
      clear ga ho hw hI h hp
      go_enter Try.func43, Try.ntmps43
      go_wp2_with (go_at_call 75; refine BR.out.mono ?_; clear BR; intro e w1 hq; obtain ⟨rfl, s1, g1, a1⟩ := hq; have G1 := Lib.hid g1; have A1 := Lib.hid a1; clear g1 a1)
      go_ret
      rw [EQ.out]
      exact ⟨rfl, s1, go_trans GA.out G1.out, A1.out⟩
    · subst hc
      have BR := Lib.hid (branch_three c ok g hI s at_ _ n hp ho.1 ho.2.1 ho.2.2.1 ga.at_ hb)
      clear ga ho hw hI h hp
      go_enter Try.func43, Try.ntmps43
      go_wp2_with (go_at_call 75; refine BR.out.mono ?_; clear BR; intro e w1 hq; obtain ⟨rfl, s1, g1, a1⟩ := hq; have G1 := Lib.hid g1; have A1 := Lib.hid a1; clear g1 a1)
      go_ret
      rw [EQ.out]
      exact ⟨rfl, s1, go_trans GA.out G1.out, A1.out⟩
  · subst h6
    have EQ := Lib.hid ((write_eq (ts := c.ts) (g := g) (s := s.abs) hp).trans ((if_neg (by decide)).trans (if_pos rfl)))
    rw [if_pos rfl] at ho
    have BR := Lib.hid (while_any c ok g hI s at_ _ hja hw.m1 ho.1 ho.2 ga.at_ hb)
    clear ga ho hw hI h hp
    go_enter Try.func43, Try.ntmps43
    go_wp2_with (go_at_call 76; refine BR.out.mono ?_; clear BR; intro e w1 hq; obtain ⟨rfl, s1, g1, a1⟩ := hq; have G1 := Lib.hid g1; have A1 := Lib.hid a1; clear g1 a1)
    go_ret
    rw [EQ.out]
    exact ⟨rfl, s1, go_trans GA.out G1.out, A1.out⟩
  · have hl := hw.l h7
    have BR := Lib.hid (leave_any c ok s at_ _ k n kc h7 hp hl.2.1 hl.2.2 hw.m1 ga.at_ hb)
    clear ga ho hw hI h hl
    rcases h7 with h7 | h7
    · subst h7
      have EQ := Lib.hid ((write_eq (ts := c.ts) (g := g) (s := s.abs) hp).trans ((if_neg (by decide)).trans ((if_neg (by decide)).trans (if_pos (by decide)))))
      clear hp
      go_enter Try.func43, Try.ntmps43
      go_wp2_with (go_at_call 77; refine BR.out.mono ?_; clear BR; intro e w1 hq; obtain ⟨rfl, s1, g1, a1⟩ := hq; have G1 := Lib.hid g1; have A1 := Lib.hid a1; clear g1 a1)
      go_ret
      rw [EQ.out]
      exact ⟨rfl, s1, go_trans GA.out G1.out, A1.out⟩
    · subst h7
      have EQ := Lib.hid ((write_eq (ts := c.ts) (g := g) (s := s.abs) hp).trans ((if_neg (by decide)).trans ((if_neg (by decide)).trans (if_pos (by decide)))))
      clear hp
      go_enter Try.func43, Try.ntmps43
      go_wp2_with (go_at_call 77; refine BR.out.mono ?_; clear BR; intro e w1 hq; obtain ⟨rfl, s1, g1, a1⟩ := hq; have G1 := Lib.hid g1; have A1 := Lib.hid a1; clear g1 a1)
      go_ret
      rw [EQ.out]
      exact ⟨rfl, s1, go_trans GA.out G1.out, A1.out⟩
  · subst h23
    have EQ := Lib.hid ((write_eq (ts := c.ts) (g := g) (s := s.abs) hp).trans ((if_neg (by decide)).trans ((if_neg (by decide)).trans ((if_neg (by decide)).trans (if_pos rfl)))))
    have hc := hw.w (by decide)
    subst hc
    rw [if_neg (by decide)] at ho
    have BR := Lib.hid (either_any c ok g hI s at_ _ 15 0 hja ho.1 ho.2.1 ga.at_ hb)
    clear ga ho hw hI h hp
    go_enter Try.func43, Try.ntmps43
    go_wp2_with (go_at_call 78; refine BR.out.mono ?_; clear BR; intro e w1 hq; obtain ⟨rfl, s1, g1, a1⟩ := hq; have G1 := Lib.hid g1; have A1 := Lib.hid a1; clear g1 a1)
    go_ret
    rw [EQ.out]
    exact ⟨rfl, s1, go_trans GA.out G1.out, A1.out⟩
  · subst h24
    have EQ := Lib.hid ((write_eq (ts := c.ts) (g := g) (s := s.abs) hp).trans ((if_neg (by decide)).trans ((if_neg (by decide)).trans ((if_neg (by decide)).trans ((if_neg (by decide)).trans (if_pos rfl))))))
    have hc := hw.w (by decide)
    subst hc
    rw [if_neg (by decide)] at ho
    have BR := Lib.hid (either_any c ok g hI s at_ _ 16 1 hja ho.1 ho.2.1 ga.at_ hb)
    clear ga ho hw hI h hp
    go_enter Try.func43, Try.ntmps43
    go_wp2_with (go_at_call 78; refine BR.out.mono ?_; clear BR; intro e w1 hq; obtain ⟨rfl, s1, g1, a1⟩ := hq; have G1 := Lib.hid g1; have A1 := Lib.hid a1; clear g1 a1)
    go_ret
    rw [EQ.out]
    exact ⟨rfl, s1, go_trans GA.out G1.out, A1.out⟩

end Go.Proofs.Ytecaolkbllbokaa.TG

namespace Go.Proofs.Ytecaolkbllbokaa.TG
open Go.RowKit Go.Great
set_option linter.unusedSimpArgs false
set_option linter.unusedVariables false

set_option maxRecDepth 100000 in
set_option maxHeartbeats 8000000 in
theorem write_kids (c : Cx) (ok : CxOK c) (g : Nat) (hI : WCon c g) (s : Stt) (at_ : Nat) (w : World) (k n kc : Int) (hp : c.ps[at_]? = some (k, n, kc)) (hw : WellK c.ts.length s.L.length k n kc)
    (ho : kidsO (okP c.ts.length c.ps g s.L.length) (skipS c.ps g) kc.toNat (at_ + 1)) (hk : k ≠ 5 ∧ k ≠ 6 ∧ ¬ (k = 7 ∨ k = 8) ∧ k ≠ 23 ∧ k ≠ 24) (h : AtS c w s) (hb : s.out.length + 8 * (c.ps.length - at_) + 8 ≤ 1000000000000) :
    Calls Try.prog 43 #[.pointer (some ⟨c.Bd, 0, none⟩), .int .i64 at_] w (WP c w s (writeP c.ts c.ps (g + 1) s.abs at_)) := by
  have hja : at_ < c.ps.length := (List.getElem?_eq_some_iff.1 hp).1
  obtain ⟨bp, op, hpp⟩ := pp_some h hja
  have hji : (at_ : Int) < (c.ps.length : Int) := by omega
  have hnp := ok.np
  obtain ⟨c5, p0, p1, p2, lb, ld⟩ := part_cells h hpp hp
  have K0 := Lib.hid (kloop_start (k := k) (n := n) (kc := kc) ok h hja hb ho)
  have HK := Lib.hid hk
  have HW := Lib.hid hw
  have HI := Lib.hid hI
  have HP := Lib.hid hp
  have hkc : kc ≤ 17592186044415 := by
    have hg := kids_good (write_good c.ts c.ps g) kc.toNat (a := at_ + 1) h.inv hja (by rw [abs_V]; exact ho)
    have := hg.2.1; have := hg.2.2.1; omega
  have n5 : (k == 5) = false := by have := hk.1; simpa using this
  have n6 : (k == 6) = false := by have := hk.2.1; simpa using this
  have n7 : (k == 7) = false := by have := hk.2.2.1; simp; omega
  have n8 : (k == 8) = false := by have := hk.2.2.1; simp; omega
  have n23 : (k == 23) = false := by have := hk.2.2.2.1; simpa using this
  have n24 : (k == 24) = false := by have := hk.2.2.2.2; simpa using this
  clear hI ho hw hp h hb hk
  go_enter Try.func43, Try.ntmps43
  go_wp2
  clear p0 p1 p2 c5 lb ld
  go_loopw [6, 49] (fun v i wr => ∃ (q aq : Nat) (sr : Stt), i = .int .i64 q ∧ v = .int .i64 aq ∧ KLoop c g w s at_ k n kc q aq wr sr) (fun _ i _ => kc.toNat - (intOf i).toNat)
  case atStart => exact ⟨0, at_ + 1, s, rfl, by go_num, K0.out⟩
  case round =>
    obtain ⟨q, aq, sr, rfl, rfl, hL⟩ := hrel
    have LL := Lib.hid hL
    have hqk := hL.hq
    have x0 := copy_0 hL.copy
    have x2 := copy_2 hL.copy
    have c9 : wr.cell? ⟨c.Bd, 9, none⟩ = some (.map (some c.M)) := code_cell hL.go.at_.code 9
    have hBr := at_size hL.go.at_
    have hBB := copy_lt hL.copy
    clear hL
    by_cases hlt : (q : Int) < kc
    · have I1 := Lib.hid (step_write ok HI.out (kloop_ok LL.out hlt) LL.out.go.at_ (bud_ok LL.out.bud))
      clear c9 x0
      go_wp2_with (go_at_call 43; refine I1.out.mono ?_; clear I1; intro e w3 hpost; obtain ⟨s3, p3, rfl, g3⟩ := hpost; have G3 := Lib.hid g3; clear g3)
      go_roundw
      case rel => exact ⟨q + 1, p3, s3, by go_num, rfl, kloop_step LL.out hlt G3.out⟩
      case measure => simp [intOf]; omega
    · by_cases k1 : k = 1
      · have hlk := look_out LL.out.go.at_.ki (k := k) (by subst k1; decide)
        have HF := Lib.hid (show finG c.ts k n = [] by subst k1; rfl)
        clear k1
        go_wp2
        go_quiet (fail)
        go_wp2
        go_ret
        exact kloop_end LL.out (by omega) HP.out HK.out (go_grown ok LL.out.go.at_ (grownBy_drewN wr nq none)) (by rw [HF.out]; rfl)
      · obtain ⟨hin, hcls⟩ := fin_cls c.bc c.b6 c.ts k n ⟨HW.out.k1, HW.out.k2⟩ k1 HK.out
        obtain ⟨v, hsl, hlk⟩ := look_in LL.out.go.at_.ki hin
        obtain ⟨hlen1, hlen2⟩ := kloop_bound LL.out
        obtain ⟨-, -, hcn, -, hbpr, -⟩ := part_cells LL.out.go.at_ hpp HP.out
        have hl0 := LL.out.go.at_.code.lt
        have hle := LL.out.go.at_.code.le
        have hlb := LL.out.go.at_.ki.lb
        have hl6 := LL.out.go.at_.ki.l6
        have hbcr : c.bc < wr.heap.size := by omega
        have hcb := LL.out.go.at_.ki.cb
        have HM := Lib.hid (fun m => (go_grown ok LL.out.go.at_ (grownBy_drewN wr m none)))
        have hC : ∀ m, CodeAt (wr.drewN m) c.E c.Bd (.slice c.pt c.ts.length c.ct) c.vf c.nm c.ar c.vl (.slice (some ⟨bp, op, none⟩) c.ps.length c.cp) sr.vout sr.vorg sr.vlo (.map (some c.M)) sr.out sr.org := fun m => by have := (HM.out m).at_.code; rw [hpp] at this; exact this
        have hbpB : bp < c.Bd := by
          obtain ⟨b', o', e', hb', _⟩ := LL.out.go.at_.pa (by omega)
          rw [hpp] at e'; injection e' with e'; injection e' with e1 e2 _; omega
        rcases hcls with ⟨o, hk, hf⟩ | ⟨o, hk, hf⟩ | ⟨hk, hf⟩ | h14 | h15 | h21 | h22
        · rw [hk] at hsl
          obtain ⟨b, rfl, hb1, hb2, hc⟩ := hsl
          have PA := Lib.hid (fun m => plain_any c.E c.Bd b _ c.vf c.nm c.ar c.vl _ sr.vout sr.vorg sr.vlo _ sr.out sr.org at_ o (wr.drewN m) (HM.out m).at_.code (by omega) (by omega) hc)
          have HF := Lib.hid hf
          clear hf hk hC hcn hcb hlen1 hlen2 hc hin k1
          unfold fnV ptrV at hlk
          go_wp2
          go_quiet (fail)
          go_wp2_with (go_at_call 66; refine (PA.out _).mono ?_; intro e w3 hpost; obtain ⟨rfl, hsp, hrest⟩ := hpost; have S3 := Lib.hid hsp; have R3 := Lib.hid hrest; clear hsp hrest)
          go_ret
          obtain ⟨s3, g3, e3, -, -⟩ := go_emit ok (HM.out _).at_ S3.out R3.out
          exact kloop_end LL.out (by omega) HP.out HK.out (go_trans (HM.out _) g3) (by rw [HF.out, e3]; rfl)
        · rw [hk] at hsl
          obtain ⟨b3, b4, rfl, hb3, hb4, hc3, hc4⟩ := hsl
          have PA := Lib.hid (fun m => with_same c.E c.Bd b3 b4 c.bc bp op c.cp c.ps.length at_ _ c.vf c.nm c.ar c.vl sr.vout sr.vorg sr.vlo _ sr.out sr.org o n (wr.drewN m) (hC m) (by omega) (by omega) hja hnp hc3 hc4 hcb hcn hbpr hbcr (show b3 < wr.heap.size by omega) (show b4 < wr.heap.size by omega))
          have HF := Lib.hid hf
          clear hf hk hC hcn hcb hlen1 hlen2 hc3 hc4 hin k1
          unfold fnV ptrV at hlk
          go_wp2
          go_quiet (fail)
          go_wp2_with (go_at_call 68; refine (PA.out _).mono ?_; intro e w3 hpost; obtain ⟨rfl, hsp, hrest⟩ := hpost; have S3 := Lib.hid hsp; have R3 := Lib.hid hrest; clear hsp hrest)
          go_ret
          have R4 := R3.out
          rw [← hpp] at R4
          obtain ⟨s3, g3, e3, -, -⟩ := go_emit ok (HM.out _).at_ S3.out R4
          exact kloop_end LL.out (by omega) HP.out HK.out (go_trans (HM.out _) g3) (by rw [HF.out, e3]; rfl)
        · rw [hk] at hsl
          have hv : v = vnE c.bc := hsl
          subst hv
          have PA := Lib.hid (fun m => named_any c.E c.Bd c.bc bp op c.cp c.ps.length at_ _ c.vf c.nm c.ar c.vl sr.vout sr.vorg sr.vlo _ sr.out sr.org n (wr.drewN m) (hC m) (by omega) (by omega) hja hnp hcb hcn hbpr hbcr)
          have HF := Lib.hid hf
          clear hf hk hC hcn hcb hlen1 hlen2 hin k1
          unfold vnE fnV ptrV at hlk
          go_wp2
          go_quiet (fail)
          go_wp2_with (go_at_call 70; refine (PA.out _).mono ?_; intro e w3 hpost; obtain ⟨rfl, hsp, hrest⟩ := hpost; have S3 := Lib.hid hsp; have R3 := Lib.hid hrest; clear hsp hrest)
          go_ret
          have R4 := R3.out
          rw [← hpp] at R4
          obtain ⟨s3, g3, e3, -, -⟩ := go_emit ok (HM.out _).at_ S3.out R4
          exact kloop_end LL.out (by omega) HP.out HK.out (go_trans (HM.out _) g3) (by rw [HF.out, e3]; rfl)
        · subst h14
          obtain ⟨nn, rfl⟩ : ∃ nn : Nat, n = nn := ⟨n.toNat, by have := HW.out.t (by decide); omega⟩
          have hnn : nn < c.ts.length := by have := HW.out.t (by decide); omega
          obtain ⟨b3, b4, rfl, hb3, hb4, hc3, hc4⟩ := (show SlB c.Bd c.E c.bc wr v (.wi 3 (vaE c.bc)) from hsl)
          have PA := Lib.hid (fun m => with_at c.E c.Bd b3 b4 c.bc bp op c.cp c.ps.length at_ c.B c.ct nn c.pt c.ts hnn ok.nts ok.nct ok.mct ok.wf c.vf c.nm c.ar c.vl sr.vout sr.vorg sr.vlo _ sr.out sr.org 3 (wr.drewN m) (hC m) (HM.out m).at_.tx (show c.B ≤ wr.heap.size by have := ok.lB; omega) (by omega) (by omega) hja hnp hc3 hc4 hcb hcn hb3 hb4 hlb hbpB)
          have HF := Lib.hid (show finG c.ts 14 (nn : Int) = [(3, bytesTo c.ts nn)] from rfl)
          clear hC hcn hcb hlen1 hlen2 hc3 hc4 hin k1 hsl
          unfold fnV ptrV at hlk
          go_wp2
          go_quiet (fail)
          go_wp2_with (go_at_call 68; refine (PA.out _).mono ?_; intro e w3 hpost; obtain ⟨rfl, hsp, hrest⟩ := hpost; have S3 := Lib.hid hsp; have R3 := Lib.hid hrest; clear hsp hrest)
          go_ret
          have R4 := R3.out
          rw [← hpp] at R4
          obtain ⟨s3, g3, e3, -, -⟩ := go_emit ok (HM.out _).at_ S3.out R4
          exact kloop_end LL.out (by omega) HP.out HK.out (go_trans (HM.out _) g3) (by rw [HF.out, e3]; rfl)
        · subst h15
          obtain ⟨nn, rfl⟩ : ∃ nn : Nat, n = nn := ⟨n.toNat, by have := HW.out.t (by decide); omega⟩
          have hnn : nn < c.ts.length := by have := HW.out.t (by decide); omega
          obtain ⟨⟨tn, d⟩, htn⟩ : ∃ x, c.ts[nn]? = some x := ⟨_, List.getElem?_eq_getElem hnn⟩
          obtain ⟨b3, b4, rfl, hb3, hb4, hc3, hc4⟩ := (show SlB c.Bd c.E c.bc wr v (.wi 3 (vlE c.bc)) from hsl)
          have PA := Lib.hid (fun m => with_len c.E c.Bd b3 b4 c.bc bp op c.cp c.ps.length at_ c.B c.ct nn c.pt c.ts tn d htn (by have := ok.nts; omega) c.vf c.nm c.ar c.vl sr.vout sr.vorg sr.vlo _ sr.out sr.org 3 (wr.drewN m) (hC m) (HM.out m).at_.tx (by omega) (by omega) hja hnp hc3 hc4 hcb hcn hbpr hbcr (show b3 < wr.heap.size by omega) (show b4 < wr.heap.size by omega))
          have HF := Lib.hid (show finG c.ts 15 (nn : Int) = [(3, (d.length : Int))] by
            have e : finG c.ts 15 (nn : Int) = [(3, ((c.ts.getD nn (ByteArray.empty, [])).2.length : Int))] := rfl
            rw [e]; simp [List.getD, htn])
          clear hC hcn hcb hlen1 hlen2 hc3 hc4 hin k1 hsl htn
          unfold fnV ptrV at hlk
          go_wp2
          go_quiet (fail)
          go_wp2_with (go_at_call 68; refine (PA.out _).mono ?_; intro e w3 hpost; obtain ⟨rfl, hsp, hrest⟩ := hpost; have S3 := Lib.hid hsp; have R3 := Lib.hid hrest; clear hsp hrest)
          go_ret
          have R4 := R3.out
          rw [← hpp] at R4
          obtain ⟨s3, g3, e3, -, -⟩ := go_emit ok (HM.out _).at_ S3.out R4
          exact kloop_end LL.out (by omega) HP.out HK.out (go_trans (HM.out _) g3) (by rw [HF.out, e3]; rfl)
        · subst h21
          have hv : v = vtE c.b6 := hsl
          subst hv
          have hc6 := LL.out.go.at_.ki.c6
          have PA := Lib.hid (fun m => turn_any c.E c.Bd c.b6 c.bc bp op c.cp c.ps.length at_ _ c.vf c.nm c.ar c.vl sr.vout sr.vorg sr.vlo _ sr.out sr.org n (wr.drewN m) (hC m) (by omega) (by omega) hja hnp hc6 hl6 hcb hlb hcn hbpB)
          have HF := Lib.hid (show finG c.ts 21 n = [(6, 0), (n, 0)] from rfl)
          clear hC hcn hcb hlen1 hlen2 hin k1 hsl hc6
          unfold vtE fnV ptrV at hlk
          go_wp2
          go_quiet (fail)
          go_wp2_with (go_at_call 73; refine (PA.out _).mono ?_; intro e w3 hpost; obtain ⟨⟨v3, rfl⟩, hsp, hrest⟩ := hpost; have S3 := Lib.hid hsp; have R3 := Lib.hid hrest; clear hsp hrest)
          go_ret
          have R4 := R3.out
          rw [← hpp] at R4
          obtain ⟨s3, g3, e3⟩ := go_two ok (HM.out _).at_ S3.out R4
          exact kloop_end LL.out (by omega) HP.out HK.out (go_trans (HM.out _) g3) (by rw [HF.out, e3])
        · subst h22
          have hv : v = voE := hsl
          subst hv
          have PA := Lib.hid (fun m => not_any c.E c.Bd _ c.vf c.nm c.ar c.vl _ sr.vout sr.vorg sr.vlo _ sr.out sr.org at_ (wr.drewN m) (HM.out m).at_.code (by omega) (by omega))
          have HF := Lib.hid (show finG c.ts 22 n = [(3, 0), (31, 0)] from rfl)
          clear hC hcn hcb hlen1 hlen2 hin k1 hsl
          unfold voE fnV at hlk
          go_wp2
          go_quiet (fail)
          go_wp2_with (go_at_call 74; refine (PA.out _).mono ?_; intro e w3 hpost; obtain ⟨⟨v3, rfl⟩, hsp, hrest⟩ := hpost; have S3 := Lib.hid hsp; have R3 := Lib.hid hrest; clear hsp hrest)
          go_ret
          obtain ⟨s3, g3, e3⟩ := go_two ok (HM.out _).at_ S3.out R3.out
          exact kloop_end LL.out (by omega) HP.out HK.out (go_trans (HM.out _) g3) (by rw [HF.out, e3])

theorem write_con (c : Cx) (ok : CxOK c) : ∀ g, WCon c g
  | 0 => fun s at_ w h _ _ => h.elim
  | g + 1 => fun s at_ w ho h hb => by
    obtain ⟨k, n, kc, hp, hw, ho'⟩ := ho
    by_cases hk : k = 5 ∨ k = 6 ∨ (k = 7 ∨ k = 8) ∨ k = 23 ∨ k = 24
    · exact write_jump c ok g (write_con c ok g) s at_ w k n kc hp hw ho' hk h hb
    · rw [if_neg (by omega)] at ho'
      exact write_kids c ok g (write_con c ok g) s at_ w k n kc hp hw ho' ⟨by omega, by omega, by omega, by omega, by omega⟩ h hb

end Go.Proofs.Ytecaolkbllbokaa.TG
