/-
  Walks of the compiler's branch with three kids and of either. Conditions: as each theorem states.
  Where the loop over a part's kids stands, in write, in general. Conditions: as each theorem states.
  Walk of the compiler's write, for parts that jump, and for the others. Conditions: as each theorem states.
-/
import Derived.Test.YtecaolkbllbokaaMA16
import Derived.Test.YtecaolkbllbokaaMA17
import Derived.Test.YtecaolkbllbokaaMA12
namespace Go.Proofs.Ytecaolkbllbokaa.TG
open Go.RowKit Go.Great
set_option linter.unusedSimpArgs false
set_option linter.unusedVariables false

set_option maxRecDepth 100000 in
set_option maxHeartbeats 4000000 in
theorem branch_three (c : Cx) (ok : CxOK c) (g : Nat) (hI : WCon c g) (s : Stt) (at_ : Nat) (w : World) (n : Int) (hp : c.ps[at_]? = some (5, n, 3)) (h1 : okP c.ts.length c.ps g s.L.length (at_ + 1)) (h2 : okP c.ts.length c.ps g s.L.length (skipS c.ps g (at_ + 1)))
    (h3 : okP c.ts.length c.ps g s.L.length (skipS c.ps g (skipS c.ps g (at_ + 1)))) (h : AtS c w s) (hb : s.out.length + 8 * (c.ps.length - at_) + 8 ≤ 1000000000000) :
    Calls Try.prog 75 #[.pointer (some ⟨c.Bd, 0, none⟩), .int .i64 at_] w (WP c w s (branchP (writeP c.ts c.ps g) 3 s.abs at_)) := by
  have hja : at_ < c.ps.length := (List.getElem?_eq_some_iff.1 hp).1
  obtain ⟨bp, op, hpp⟩ := pp_some h hja
  have hji : (at_ : Int) < (c.ps.length : Int) := by omega
  have hnp := ok.np
  have B0 := Lib.hid (bud_start hb hja)
  have hw := step_write ok hI h1 h (bud_ok B0.out)
  rw [show ((at_ + 1 : Nat) : Int) = (at_ : Int) + 1 from rfl] at hw
  have W1 := Lib.hid hw
  have HP := Lib.hid hp
  have H2 := Lib.hid h2
  have H3 := Lib.hid h3
  have HI := Lib.hid hI
  clear hw hp h1 h2 h3 h hb hI
  go_enter Try.func75, Try.ntmps75
  go_wp2_with (first
    | (go_at_call 43; refine W1.out.mono ?_; clear W1; intro e w1 hq; obtain ⟨s1, q1, rfl, g1⟩ := hq; have G1 := Lib.hid g1; have B1 := Lib.hid (bud_write B0.out g1); have E1 := Lib.hid (emit_at ok g1.go.at_ (bud_len B1.out) at_ 15 0); clear g1)
    | (go_at_call 44; refine E1.out.mono ?_; clear E1; intro e w2 hq; obtain ⟨rfl, s2, g2, a2, l2, v2⟩ := hq; have G2 := Lib.hid g2; have A2 := Lib.hid a2; have B2 := Lib.hid (bud_emit B1.out a2); have L2 := Lib.hid ((congrArg List.length l2).trans G1.out.L); have W2 := Lib.hid (step_write ok HI.out (okP_cast H2.out G1.out.sk L2.out) g2.at_ (bud_ok B2.out)); clear g2 a2 l2 v2)
    | (go_at_call 43; refine W2.out.mono ?_; clear W2; intro e w3 hq; obtain ⟨s3, q2, rfl, g3⟩ := hq; have G3 := Lib.hid g3; have B3 := Lib.hid (bud_write B2.out g3); have E4 := Lib.hid (emit_at ok g3.go.at_ (bud_len B3.out) at_ 14 0); obtain ⟨c5, p0, p1, p2, lb, ld⟩ := part_cells g3.go.at_ hpp HP.out; clear g3 p0 p1)
    | (go_at_call 44; refine E4.out.mono ?_; clear E4; intro e w4 hq; obtain ⟨rfl, s4, g4, a4, l4, v4⟩ := hq; have G4 := Lib.hid g4; have A4 := Lib.hid a4; have B4 := Lib.hid (bud_emit B3.out a4); have L4 := Lib.hid ((congrArg List.length l4).trans G3.out.L); have M5 := Lib.hid (mark_new ok g4.at_ (bud_len B4.out) (jump_in2 (jump_in A2.out G3.out) a4)); clear g4 a4 l4 v4)
    | (go_at_call 97; refine M5.out.mono ?_; clear M5; intro e w5 hq; obtain ⟨⟨v5, rfl⟩, s5, g5, a5, l5, v5'⟩ := hq; have G5 := Lib.hid g5; have A5 := Lib.hid a5; have B5 := Lib.hid (bud_mark B4.out a5); have W6 := Lib.hid (step_write ok HI.out (okP_cast H3.out (G3.out.sk.trans (congrArg _ G1.out.sk)) ((congrArg List.length l5).trans (L4.out.trans L2.out))) g5.at_ (bud_ok B5.out)); clear g5 a5 l5 v5')
    | (go_at_call 43; refine W6.out.mono ?_; clear W6; intro e w6 hq; obtain ⟨s6, q3, rfl, g6⟩ := hq; have G6 := Lib.hid g6; have B6 := Lib.hid (bud_write B5.out g6); have M7 := Lib.hid (mark_new ok g6.go.at_ (bud_len B6.out) (jump_in3 A4.out A5.out g6)); clear g6)
    | (go_at_call 97; refine M7.out.mono ?_; clear M7; intro e w7 hq; obtain ⟨⟨v7, rfl⟩, s7, g7, a7, l7, v7'⟩ := hq; have G7 := Lib.hid g7; have A7 := Lib.hid a7; clear g7 a7 l7 v7'))
  go_ret
  rw [branch_3 G1.out.eq A2.out G3.out.eq A4.out A5.out G6.out.eq A7.out]
  exact ⟨rfl, _, go_trans (go_trans (go_trans (go_trans (go_trans (go_trans G1.out.go G2.out) G3.out.go) G4.out) G5.out) G6.out.go) G7.out, rfl⟩

def pairsN : Nat → List (Int × Int)
  | 0 => []
  | q + 1 => pairsN q ++ [(3, 0), (31, 0)]
theorem emits_append : ∀ (l l' : List (Int × Int)) (s : PS) (a : Nat), PS.emits s a (l ++ l') = PS.emits (PS.emits s a l) a l'
  | [], l', s, a => rfl
  | x :: r, l', s, a => emits_append r l' (s.emit a x) a

/-- Where the loop of either stands. -/
structure ELoop (c : Cx) (w3 : World) (s3 : Stt) (p a : Nat) (q : Nat) (wr : World) (sr : Stt) : Prop where
  go : Go c w3 s3 wr sr
  eq : sr.abs = PS.emits s3.abs a (pairsN q)
  bud : Bud c sr p (3 + 2 * (2 - q))
  le : q ≤ 2

theorem eloop_step {c : Cx} {w3 wr w1 w2 : World} {s3 sr s1 s2 : Stt} {p a q : Nat} (h : ELoop c w3 s3 p a q wr sr) (hq : q < 2) (g1 : Go c wr sr w1 s1) (e1 : s1.abs = sr.abs.emit a (3, 0)) (g2 : Go c w1 s1 w2 s2) (e2 : s2.abs = s1.abs.emit a (31, 0)) : ELoop c w3 s3 p a (q + 1) w2 s2 := by
  refine ⟨go_trans (go_trans h.go g1) g2, ?_, ?_, by omega⟩
  · rw [pairsN, emits_append, ← h.eq, e2, e1]; rfl
  · have := h.bud
    refine bud_emit (bud_emit (k := 3 + 2 * (2 - (q + 1)) + 1) ?_ e1) e2
    rw [show 3 + 2 * (2 - (q + 1)) + 1 + 1 = 3 + 2 * (2 - q) by omega]; exact this
theorem eloop_bud1 {c : Cx} {w3 wr : World} {s3 sr s1 : Stt} {p a q : Nat} (h : ELoop c w3 s3 p a q wr sr) (e1 : s1.abs = sr.abs.emit a (3, 0)) : Bud c s1 p (2 + 2 * (2 - q)) := by
  have := h.bud
  refine bud_emit ?_ e1
  rw [show 2 + 2 * (2 - q) + 1 = 3 + 2 * (2 - q) by omega]; exact this
theorem eloop_e5 {c : Cx} (ok : CxOK c) {w3 wr w1 : World} {s3 sr s1 : Stt} {p a q : Nat} (h : ELoop c w3 s3 p a q wr sr) (g1 : Go c wr sr w1 s1) (e1 : s1.abs = sr.abs.emit a (3, 0)) :
    Calls Try.prog 44 #[.pointer (some ⟨c.Bd, 0, none⟩), .int .i64 a, .int .i64 31, .int .i64 0] w1 fun e w' => e = .returned (.int .i64 s1.out.length) ∧ ∃ s', Go c w1 s1 w' s' ∧ s'.abs = s1.abs.emit a (31, 0) ∧ s'.L = s1.L ∧ s'.vlo = s1.vlo :=
  emit_at ok g1.at_ (bud_len (eloop_bud1 h e1)) a 31 0
theorem eloop_lo {c : Cx} {w3 wr : World} {s3 sr : Stt} {p a q : Nat} (h : ELoop c w3 s3 p a q wr sr) {j : Nat} (hj : j < s3.out.length) : j < sr.out.length := by
  have h1 := (emits_grows (pairsN q) a (s := s3.abs))
  have h2 := (abs_len h.eq).1
  have h3 : ∀ (l : List (Int × Int)) (s : PS), s.out.length ≤ (PS.emits s a l).out.length := by
    intro l
    induction l with
    | nil => exact fun s => Nat.le_refl _
    | cons x r ih => exact fun s => Nat.le_trans (by simp [PS.emit]) (ih (s.emit a x))
  have h4 := h3 (pairsN q) s3.abs
  have h5 : s3.abs.out.length = s3.out.length := rfl
  omega
theorem jump_in4 {a : Nat} {x y : Int × Int} {s7 s8 s9 s10 : Stt} {j : Nat} (e8 : s8.abs = s7.abs.emit a x) (e9 : s9.abs = s8.abs.mark j) (e10 : s10.abs = s9.abs.emit a y) : s7.out.length < s10.out.length := by
  have := emit_len e8; have := mark_len e9; have := emit_len e10; omega

theorem either_2 {F : Fw} {jump alone : Int} {s s1 s2 s3 s7 s8 s9 s10 s11 : PS} {a p1 p2 : Nat} (h1 : F s (a + 1) = (s1, p1)) (h2 : s2 = s1.emit a (jump, 0)) (h3 : F s2 p1 = (s3, p2)) (h7 : s7 = PS.emits s3 a (pairsN 2))
    (h8 : s8 = s7.emit a (14, 0)) (h9 : s9 = s8.mark s1.out.length) (h10 : s10 = s9.emit a (3, alone)) (h11 : s11 = s10.mark s7.out.length) : eitherP F jump alone s a = (s11, p2) := by
  subst h2; subst h7; subst h8; subst h9; subst h10; subst h11
  unfold eitherP
  rw [h1, h3]
  rfl

set_option maxRecDepth 100000 in
set_option maxHeartbeats 4000000 in
theorem either_any (c : Cx) (ok : CxOK c) (g : Nat) (hI : WCon c g) (s : Stt) (at_ : Nat) (w : World) (jump alone : Int) (hja : at_ < c.ps.length) (h1 : okP c.ts.length c.ps g s.L.length (at_ + 1)) (h2 : okP c.ts.length c.ps g s.L.length (skipS c.ps g (at_ + 1)))
    (h : AtS c w s) (hb : s.out.length + 8 * (c.ps.length - at_) + 8 ≤ 1000000000000) :
    Calls Try.prog 78 #[.pointer (some ⟨c.Bd, 0, none⟩), .int .i64 at_, .int .i64 jump, .int .i64 alone] w (WP c w s (eitherP (writeP c.ts c.ps g) jump alone s.abs at_)) := by
  have hji : (at_ : Int) < (c.ps.length : Int) := by omega
  have hnp := ok.np
  have B0 := Lib.hid (bud_start hb hja)
  have hw := step_write ok hI h1 h (bud_ok B0.out)
  rw [show ((at_ + 1 : Nat) : Int) = (at_ : Int) + 1 from rfl] at hw
  have W1 := Lib.hid hw
  have H2 := Lib.hid h2
  have HI := Lib.hid hI
  clear hw h1 h2 h hb hI
  go_enter Try.func78, Try.ntmps78
  go_wp2_with (first
    | (go_at_call 43; refine W1.out.mono ?_; clear W1; intro e w1 hq; obtain ⟨s1, q1, rfl, g1⟩ := hq; have G1 := Lib.hid g1; have B1 := Lib.hid (bud_write B0.out g1); have E1 := Lib.hid (emit_at ok g1.go.at_ (bud_len B1.out) at_ jump 0); clear g1)
    | (go_at_call 44; refine E1.out.mono ?_; clear E1; intro e w2 hq; obtain ⟨rfl, s2, g2, a2, l2, v2⟩ := hq; have G2 := Lib.hid g2; have A2 := Lib.hid a2; have B2 := Lib.hid (bud_emit B1.out a2); have W2 := Lib.hid (step_write ok HI.out (okP_cast H2.out G1.out.sk ((congrArg List.length l2).trans G1.out.L)) g2.at_ (bud_ok B2.out)); clear g2 a2 l2 v2)
    | (go_at_call 43; refine W2.out.mono ?_; clear W2; intro e w3 hq; obtain ⟨s3, q2, rfl, g3⟩ := hq; have G3 := Lib.hid g3; have B3 := Lib.hid (bud_write B2.out g3); clear g3))
  have K0 : ELoop c w3 s3 q2 at_ 0 w3 s3 := ⟨go_refl G3.out.go.at_, rfl, B3.out, by omega⟩
  have KK := Lib.hid K0
  clear K0
  go_loopw [23] (fun i wr => ∃ (q : Nat) (sr : Stt), i = .int .i64 q ∧ ELoop c w3 s3 q2 at_ q wr sr) (fun i _ => 2 - (intOf i).toNat)
  case atStart => exact ⟨0, s3, rfl, KK.out⟩
  case round =>
    obtain ⟨q, sr, rfl, hL⟩ := hrel
    have LL := Lib.hid hL
    have hq2 := hL.le
    clear hL
    by_cases hlt : (q : Int) < 2
    · have E3 := Lib.hid (emit_at ok LL.out.go.at_ (bud_len LL.out.bud) at_ 3 0)
      go_wp2_with (first
        | (go_at_call 44; refine E3.out.mono ?_; clear E3; intro e w4 hq; obtain ⟨rfl, s4, g4, a4, l4, v4⟩ := hq; have G4 := Lib.hid g4; have A4 := Lib.hid a4; have E5 := Lib.hid (eloop_e5 ok LL.out g4 a4); clear g4 a4 l4 v4)
        | (go_at_call 44; refine E5.out.mono ?_; clear E5; intro e w5 hq; obtain ⟨rfl, s5, g5, a5, l5, v5⟩ := hq; have G5 := Lib.hid g5; have A5 := Lib.hid a5; clear g5 a5 l5 v5))
      go_roundw
      case rel => exact ⟨q + 1, s5, by go_num, eloop_step LL.out (by omega) G4.out A4.out G5.out A5.out⟩
      case measure => simp [intOf]; omega
    · have e2 : q = 2 := by omega
      subst e2
      have E8 := Lib.hid (emit_at ok LL.out.go.at_ (bud_len LL.out.bud) at_ 14 0)
      have B7 := Lib.hid (show Bud c sr q2 3 from LL.out.bud)
      have J7 := Lib.hid (eloop_lo LL.out (jump_in A2.out G3.out))
      go_wp2_with (first
        | (go_at_call 44; refine E8.out.mono ?_; clear E8; intro e w8 hq; obtain ⟨rfl, s8, g8, a8, l8, v8⟩ := hq; have G8 := Lib.hid g8; have A8 := Lib.hid a8; have B8 := Lib.hid (bud_emit B7.out a8); have M9 := Lib.hid (mark_new ok g8.at_ (bud_len B8.out) (jump_in2 J7.out a8)); clear g8 a8 l8 v8)
        | (go_at_call 97; refine M9.out.mono ?_; clear M9; intro e w9 hq; obtain ⟨⟨v9, rfl⟩, s9, g9, a9, l9, v9'⟩ := hq; have G9 := Lib.hid g9; have A9 := Lib.hid a9; have B9 := Lib.hid (bud_mark B8.out a9); have E10 := Lib.hid (emit_at ok g9.at_ (bud_len B9.out) at_ 3 alone); clear g9 a9 l9 v9')
        | (go_at_call 44; refine E10.out.mono ?_; clear E10; intro e w10 hq; obtain ⟨rfl, s10, g10, a10, l10, v10⟩ := hq; have G10 := Lib.hid g10; have A10 := Lib.hid a10; have B10 := Lib.hid (bud_emit B9.out a10); have M11 := Lib.hid (mark_new ok g10.at_ (bud_len B10.out) (jump_in4 A8.out A9.out a10)); clear g10 a10 l10 v10)
        | (go_at_call 97; refine M11.out.mono ?_; clear M11; intro e w11 hq; obtain ⟨⟨v11, rfl⟩, s11, g11, a11, l11, v11'⟩ := hq; have G11 := Lib.hid g11; have A11 := Lib.hid a11; clear g11 a11 l11 v11'))
      go_ret
      rw [either_2 G1.out.eq A2.out G3.out.eq LL.out.eq A8.out A9.out A10.out A11.out]
      exact ⟨rfl, _, go_trans (go_trans (go_trans (go_trans (go_trans (go_trans (go_trans G1.out.go G2.out) G3.out.go) LL.out.go) G8.out) G9.out) G10.out) G11.out, rfl⟩

end Go.Proofs.Ytecaolkbllbokaa.TG

namespace Go.Proofs.Ytecaolkbllbokaa.TG
open Go.RowKit Go.Great
set_option linter.unusedSimpArgs false
set_option linter.unusedVariables false

theorem write_eq {ts : List (ByteArray × List Int)} {ps : List (Int × Int × Int)} {g a : Nat} {s : PS} {k n kc : Int} (hp : ps[a]? = some (k, n, kc)) : writeP ts ps (g + 1) s a =
    (if k = 5 then branchP (writeP ts ps g) kc s a else if k = 6 then whileP (writeP ts ps g) s a else if k = 7 ∨ k = 8 then leaveP k n.toNat s a else if k = 23 then eitherP (writeP ts ps g) 15 0 s a else if k = 24 then eitherP (writeP ts ps g) 16 1 s a
      else (PS.emits (kidsP (writeP ts ps g) kc.toNat s (a + 1)).1 a (finG ts k n), (kidsP (writeP ts ps g) kc.toNat s (a + 1)).2)) := by rw [writeP, hp]

structure KLoop (c : Cx) (g : Nat) (w : World) (s : Stt) (at_ : Nat) (k n kc : Int) (q aq : Nat) (wr : World) (sr : Stt) : Prop where
  go : Go c w s wr sr
  copy : CopyW wr w.heap.size k n kc
  nb : ¬ c.P sr w.heap.size
  hq : q ≤ kc.toNat
  eq : kidsP (writeP c.ts c.ps g) kc.toNat s.abs (at_ + 1) = kidsP (writeP c.ts c.ps g) (kc.toNat - q) sr.abs aq
  ok : kidsO (okP c.ts.length c.ps g s.L.length) (skipS c.ps g) (kc.toNat - q) aq
  L : sr.L.length = s.L.length
  bud : Bud c sr aq 8
  ka : at_ + 1 + q ≤ aq
  le : aq ≤ c.ps.length

theorem kloop_start {c : Cx} (ok : CxOK c) {g : Nat} {w : World} {s : Stt} {at_ : Nat} {k n kc : Int} (h : AtS c w s) (hja : at_ < c.ps.length) (hb : s.out.length + 8 * (c.ps.length - at_) + 8 ≤ 1000000000000) (ho : kidsO (okP c.ts.length c.ps g s.L.length) (skipS c.ps g) kc.toNat (at_ + 1)) :
    KLoop c g w s at_ k n kc 0 (at_ + 1) (w.alloc (.cells #[.int .i64 k, .int .i64 n, .int .i64 kc] 108)) s :=
  ⟨go_alloc ok h _, copy_new w k n kc, p_new h (Nat.le_refl _), Nat.zero_le _, rfl, ho, rfl, bud_start hb hja, Nat.le_refl _, hja⟩

theorem kloop_step {c : Cx} {g : Nat} {w wr w' : World} {s sr s' : Stt} {at_ : Nat} {k n kc : Int} {q aq p : Nat} (h : KLoop c g w s at_ k n kc q aq wr sr) (hlt : (q : Int) < kc) (g1 : WStep c g wr sr aq w' s' p) : KLoop c g w s at_ k n kc (q + 1) p w' s' := by
  have e : kc.toNat - q = (kc.toNat - (q + 1)) + 1 := by omega
  have hB := copy_lt h.copy
  have ho := h.ok
  rw [e] at ho
  refine ⟨go_trans h.go g1.go, ?_, fun hp => h.nb (g1.go.row _ hB hp), by have := h.hq; omega, ?_, ?_, g1.L.trans h.L, bud_write h.bud g1, by have := g1.lt; have := h.ka; omega, g1.le⟩
  · unfold CopyW; rw [g1.go.sp.block _ hB h.nb]; exact h.copy
  · rw [h.eq, e, kidsP, g1.eq]
  · have := ho.2; rw [← g1.sk] at this; exact this

theorem kloop_ok {c : Cx} {g : Nat} {w wr : World} {s sr : Stt} {at_ : Nat} {k n kc : Int} {q aq : Nat} (h : KLoop c g w s at_ k n kc q aq wr sr) (hlt : (q : Int) < kc) : okP c.ts.length c.ps g sr.L.length aq := by
  have e : kc.toNat - q = (kc.toNat - (q + 1)) + 1 := by omega
  have ho := h.ok
  rw [e] at ho
  rw [h.L]; exact ho.1

/-- The kids are written: what write tells. -/
theorem kloop_end {c : Cx} {g : Nat} {w wr w' : World} {s sr s' : Stt} {at_ : Nat} {k n kc : Int} {q aq : Nat} (h : KLoop c g w s at_ k n kc q aq wr sr) (hlt : ¬ (q : Int) < kc) (hp : c.ps[at_]? = some (k, n, kc)) (hk : k ≠ 5 ∧ k ≠ 6 ∧ ¬ (k = 7 ∨ k = 8) ∧ k ≠ 23 ∧ k ≠ 24)
    (g1 : Go c wr sr w' s') (e1 : s'.abs = PS.emits sr.abs at_ (finG c.ts k n)) : WP c w s (writeP c.ts c.ps (g + 1) s.abs at_) (.returned (.int .i64 aq)) w' := by
  have e : kc.toNat - q = 0 := by omega
  have he := h.eq
  rw [e, kidsP] at he
  rw [write_eq hp, if_neg hk.1, if_neg hk.2.1, if_neg hk.2.2.1, if_neg hk.2.2.2.1, if_neg hk.2.2.2.2, he]
  exact ⟨rfl, s', go_trans h.go g1, e1⟩

theorem kloop_bound {c : Cx} {g : Nat} {w wr : World} {s sr : Stt} {at_ : Nat} {k n kc : Int} {q aq : Nat} (h : KLoop c g w s at_ k n kc q aq wr sr) : sr.out.length ≤ 999999999999 ∧ sr.org.length ≤ 999999999999 := by
  have h1 := h.bud
  have h2 : sr.org.length = sr.out.length := h.go.at_.inv.ol
  unfold Bud at h1
  omega

theorem go_two {c : Cx} (ok : CxOK c) {w w' : World} {s : Stt} (h : AtS c w s) {a : Nat} {x y : Int × Int} (sp : Sp (EmitP c.Bd s.vout s.vorg) w w')
    (hp : ∃ vo vg, CodeAt w' c.E c.Bd (.slice c.pt c.ts.length c.ct) c.vf c.nm c.ar c.vl (.slice c.pp c.ps.length c.cp) vo vg s.vlo (.map (some c.M)) (s.out ++ [x] ++ [y]) (s.org ++ [(a : Int)] ++ [(a : Int)]) ∧ (∀ k, k < w.heap.size → EmitP c.Bd vo vg k → EmitP c.Bd s.vout s.vorg k)) :
    ∃ s', Go c w s w' s' ∧ s'.abs = PS.emits s.abs a [x, y] := by
  obtain ⟨vo, vg, hC, hr⟩ := hp
  exact ⟨_, go_code ok h sp hC hr (emits_grows [x, y] a h.inv).inv, rfl⟩

theorem fin_cls (bc b6 : Nat) (ts : List (ByteArray × List Int)) (k n : Int) (h0 : 1 ≤ k ∧ k ≤ 26) (h1 : k ≠ 1) (hk : k ≠ 5 ∧ k ≠ 6 ∧ ¬ (k = 7 ∨ k = 8) ∧ k ≠ 23 ∧ k ≠ 24) : k ∈ keysE ∧
    ((∃ o, endK bc b6 k = .pl o ∧ finG ts k n = [(o, 0)]) ∨ (∃ o, endK bc b6 k = .wi o v5E ∧ finG ts k n = [(o, n)]) ∨ (endK bc b6 k = .fn (vnE bc) ∧ finG ts k n = [(n, 0)]) ∨
      k = 14 ∨ k = 15 ∨ k = 21 ∨ k = 22) := by
  have : k = 2 ∨ k = 3 ∨ k = 4 ∨ k = 9 ∨ k = 10 ∨ k = 11 ∨ k = 12 ∨ k = 13 ∨ k = 14 ∨ k = 15 ∨ k = 16 ∨ k = 17 ∨ k = 18 ∨ k = 19 ∨ k = 20 ∨ k = 21 ∨ k = 22 ∨ k = 25 ∨ k = 26 := by omega
  rcases this with h | h | h | h | h | h | h | h | h | h | h | h | h | h | h | h | h | h | h
  · subst h; exact ⟨by decide, Or.inr (Or.inl ⟨_, rfl, rfl⟩)⟩
  · subst h; exact ⟨by decide, Or.inl ⟨_, rfl, rfl⟩⟩
  · subst h; exact ⟨by decide, Or.inl ⟨_, rfl, rfl⟩⟩
  · subst h; exact ⟨by decide, Or.inl ⟨_, rfl, rfl⟩⟩
  · subst h; exact ⟨by decide, Or.inl ⟨_, rfl, rfl⟩⟩
  · subst h; exact ⟨by decide, Or.inl ⟨_, rfl, rfl⟩⟩
  · subst h; exact ⟨by decide, Or.inr (Or.inl ⟨_, rfl, rfl⟩)⟩
  · subst h; exact ⟨by decide, Or.inr (Or.inl ⟨_, rfl, rfl⟩)⟩
  · subst h; exact ⟨by decide, by simp⟩
  · subst h; exact ⟨by decide, by simp⟩
  · subst h; exact ⟨by decide, Or.inl ⟨_, rfl, rfl⟩⟩
  · subst h; exact ⟨by decide, Or.inl ⟨_, rfl, rfl⟩⟩
  · subst h; exact ⟨by decide, Or.inl ⟨_, rfl, rfl⟩⟩
  · subst h; exact ⟨by decide, Or.inr (Or.inr (Or.inl ⟨rfl, rfl⟩))⟩
  · subst h; exact ⟨by decide, Or.inr (Or.inr (Or.inl ⟨rfl, rfl⟩))⟩
  · subst h; exact ⟨by decide, by simp⟩
  · subst h; exact ⟨by decide, by simp⟩
  · subst h; exact ⟨by decide, Or.inr (Or.inl ⟨_, rfl, rfl⟩)⟩
  · subst h; exact ⟨by decide, Or.inr (Or.inl ⟨_, rfl, rfl⟩)⟩

end Go.Proofs.Ytecaolkbllbokaa.TG

namespace Go.Proofs.Ytecaolkbllbokaa.TG
open Go.RowKit Go.Great
set_option linter.unusedSimpArgs false
set_option linter.unusedVariables false

set_option maxRecDepth 100000 in
set_option maxHeartbeats 4000000 in
theorem write_jump (c : Cx) (ok : CxOK c) (g : Nat) (hI : WCon c g) (s : Stt) (at_ : Nat) (w : World) (k n kc : Int) (hp : c.ps[at_]? = some (k, n, kc)) (hw : WellK c.ts.length s.L.length k n kc)
    (ho : if k = 6 then okP c.ts.length c.ps g s.L.length (at_ + 1) ∧ okP c.ts.length c.ps g (s.L.length + 1) (skipS c.ps g (at_ + 1)) else kidsO (okP c.ts.length c.ps g s.L.length) (skipS c.ps g) kc.toNat (at_ + 1))
    (hk : k = 5 ∨ k = 6 ∨ (k = 7 ∨ k = 8) ∨ k = 23 ∨ k = 24) (h : AtS c w s) (hb : s.out.length + 8 * (c.ps.length - at_) + 8 ≤ 1000000000000) :
    Calls Try.prog 43 #[.pointer (some ⟨c.Bd, 0, none⟩), .int .i64 at_] w (WP c w s (writeP c.ts c.ps (g + 1) s.abs at_)) := by
  have hja : at_ < c.ps.length := (List.getElem?_eq_some_iff.1 hp).1
  obtain ⟨bp, op, hpp⟩ := pp_some h hja
  have hji : (at_ : Int) < (c.ps.length : Int) := by omega
  have hnp := ok.np
  obtain ⟨c5, p0, p1, p2, lb, ld⟩ := part_cells h hpp hp
  have ga := go_alloc ok h (.cells #[.int .i64 k, .int .i64 n, .int .i64 kc] 108)
  have GA := Lib.hid ga
  rcases hk with h5 | h6 | h7 | h23 | h24
  · subst h5
    have EQ := Lib.hid ((write_eq (ts := c.ts) (g := g) (s := s.abs) hp).trans (if_pos rfl))
    have hc := hw.i rfl
    rw [if_neg (by decide)] at ho
    rcases hc with hc | hc
    · subst hc
      have BR := Lib.hid (branch_two c ok g hI s at_ _ n hp ho.1 ho.2.1 ga.at_ hb)
      clear ga ho hw hI h hp
      go_enter Try.func43, Try.ntmps43
      go_wp2_with (go_at_call 75; refine BR.out.mono ?_; clear BR; intro e w1 hq; obtain ⟨rfl, s1, g1, a1⟩ := hq; have G1 := Lib.hid g1; have A1 := Lib.hid a1; clear g1 a1)
      go_ret
      rw [EQ.out]
      exact ⟨rfl, s1, go_trans GA.out G1.out, A1.out⟩
    · subst hc
      have BR := Lib.hid (branch_three c ok g hI s at_ _ n hp ho.1 ho.2.1 ho.2.2.1 ga.at_ hb)
      clear ga ho hw hI h hp
      go_enter Try.func43, Try.ntmps43
      go_wp2_with (go_at_call 75; refine BR.out.mono ?_; clear BR; intro e w1 hq; obtain ⟨rfl, s1, g1, a1⟩ := hq; have G1 := Lib.hid g1; have A1 := Lib.hid a1; clear g1 a1)
      go_ret
      rw [EQ.out]
      exact ⟨rfl, s1, go_trans GA.out G1.out, A1.out⟩
  · subst h6
    have EQ := Lib.hid ((write_eq (ts := c.ts) (g := g) (s := s.abs) hp).trans ((if_neg (by decide)).trans (if_pos rfl)))
    rw [if_pos rfl] at ho
    have BR := Lib.hid (while_any c ok g hI s at_ _ hja hw.m1 ho.1 ho.2 ga.at_ hb)
    clear ga ho hw hI h hp
    go_enter Try.func43, Try.ntmps43
    go_wp2_with (go_at_call 76; refine BR.out.mono ?_; clear BR; intro e w1 hq; obtain ⟨rfl, s1, g1, a1⟩ := hq; have G1 := Lib.hid g1; have A1 := Lib.hid a1; clear g1 a1)
    go_ret
    rw [EQ.out]
    exact ⟨rfl, s1, go_trans GA.out G1.out, A1.out⟩
  · have hl := hw.l h7
    have BR := Lib.hid (leave_any c ok s at_ _ k n kc h7 hp hl.2.1 hl.2.2 hw.m1 ga.at_ hb)
    clear ga ho hw hI h hl
    rcases h7 with h7 | h7
    · subst h7
      have EQ := Lib.hid ((write_eq (ts := c.ts) (g := g) (s := s.abs) hp).trans ((if_neg (by decide)).trans ((if_neg (by decide)).trans (if_pos (by decide)))))
      clear hp
      go_enter Try.func43, Try.ntmps43
      go_wp2_with (go_at_call 77; refine BR.out.mono ?_; clear BR; intro e w1 hq; obtain ⟨rfl, s1, g1, a1⟩ := hq; have G1 := Lib.hid g1; have A1 := Lib.hid a1; clear g1 a1)
      go_ret
      rw [EQ.out]
      exact ⟨rfl, s1, go_trans GA.out G1.out, A1.out⟩
    · subst h7
      have EQ := Lib.hid ((write_eq (ts := c.ts) (g := g) (s := s.abs) hp).trans ((if_neg (by decide)).trans ((if_neg (by decide)).trans (if_pos (by decide)))))
      clear hp
      go_enter Try.func43, Try.ntmps43
      go_wp2_with (go_at_call 77; refine BR.out.mono ?_; clear BR; intro e w1 hq; obtain ⟨rfl, s1, g1, a1⟩ := hq; have G1 := Lib.hid g1; have A1 := Lib.hid a1; clear g1 a1)
      go_ret
      rw [EQ.out]
      exact ⟨rfl, s1, go_trans GA.out G1.out, A1.out⟩
  · subst h23
    have EQ := Lib.hid ((write_eq (ts := c.ts) (g := g) (s := s.abs) hp).trans ((if_neg (by decide)).trans ((if_neg (by decide)).trans ((if_neg (by decide)).trans (if_pos rfl)))))
    have hc := hw.w (by decide)
    subst hc
    rw [if_neg (by decide)] at ho
    have BR := Lib.hid (either_any c ok g hI s at_ _ 15 0 hja ho.1 ho.2.1 ga.at_ hb)
    clear ga ho hw hI h hp
    go_enter Try.func43, Try.ntmps43
    go_wp2_with (go_at_call 78; refine BR.out.mono ?_; clear BR; intro e w1 hq; obtain ⟨rfl, s1, g1, a1⟩ := hq; have G1 := Lib.hid g1; have A1 := Lib.hid a1; clear g1 a1)
    go_ret
    rw [EQ.out]
    exact ⟨rfl, s1, go_trans GA.out G1.out, A1.out⟩
  · subst h24
    have EQ := Lib.hid ((write_eq (ts := c.ts) (g := g) (s := s.abs) hp).trans ((if_neg (by decide)).trans ((if_neg (by decide)).trans ((if_neg (by decide)).trans ((if_neg (by decide)).trans (if_pos rfl))))))
    have hc := hw.w (by decide)
    subst hc
    rw [if_neg (by decide)] at ho
    have BR := Lib.hid (either_any c ok g hI s at_ _ 16 1 hja ho.1 ho.2.1 ga.at_ hb)
    clear ga ho hw hI h hp
    go_enter Try.func43, Try.ntmps43
    go_wp2_with (go_at_call 78; refine BR.out.mono ?_; clear BR; intro e w1 hq; obtain ⟨rfl, s1, g1, a1⟩ := hq; have G1 := Lib.hid g1; have A1 := Lib.hid a1; clear g1 a1)
    go_ret
    rw [EQ.out]
    exact ⟨rfl, s1, go_trans GA.out G1.out, A1.out⟩

end Go.Proofs.Ytecaolkbllbokaa.TG
