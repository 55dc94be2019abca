/-
  Walk of the compiler's write, for a part without jumps. Conditions: as each theorem states.
-/
import Derived.Test.YtecaolkbllbokaaCpPlain
import Derived.Deep.QuietTactic
import Derived.BigQuiet
namespace Go.Proofs.Ytecaolkbllbokaa.TG
open Go.RowKit Go.Great
set_option linter.unusedSimpArgs false
set_option linter.unusedVariables false

set_option maxRecDepth 100000 in
set_option maxHeartbeats 4000000 in
theorem write_plain (g : Nat) (E Bd bc b6 M cp : Nat) (vt vf : Value) (nm : ByteArray) (ar : Int) (vl : Value) (pp : Option Addr) (ps : List (Int × Int × Int)) (hnp : ps.length ≤ 17592186044415) (vout vorg vlo : Value) (out : List (Int × Int)) (org : List Int) (at_ : Nat) (k n kc : Int) (hp : ps[at_]? = some (k, n, kc)) (hpk : plainK k = true)
    (hkt : kidsT (plainT ps g) (codeE ps g) kc.toNat (at_ + 1) = true) (w : World)
    (hC : CodeAt w E Bd vt vf nm ar vl (.slice pp ps.length cp) vout vorg vlo (.map (some M)) out org) (hE : WEnv w Bd E bc b6 M pp ps)
    (ho : (out ++ (codeE ps (g + 1) at_).1).length ≤ 1000000000000) (hg : (org ++ (codeE ps (g + 1) at_).2.1).length ≤ 1000000000000)
    (hI : ∀ (at_ : Nat) (vout vorg : Value) (out : List (Int × Int)) (org : List Int) (w : World), plainT ps g at_ = true → CodeAt w E Bd vt vf nm ar vl (.slice pp ps.length cp) vout vorg vlo (.map (some M)) out org → WEnv w Bd E bc b6 M pp ps →
      (out ++ (codeE ps g at_).1).length ≤ 1000000000000 → (org ++ (codeE ps g at_).2.1).length ≤ 1000000000000 →
      Calls Try.prog 43 #[.pointer (some ⟨Bd, 0, none⟩), .int .i64 at_] w (WPost w E Bd vt vf nm ar vl (.slice pp ps.length cp) vout vorg vlo (.map (some M)) out org (codeE ps g at_))) :
    Calls Try.prog 43 #[.pointer (some ⟨Bd, 0, none⟩), .int .i64 at_] w (WPost w E Bd vt vf nm ar vl (.slice pp ps.length cp) vout vorg vlo (.map (some M)) out org (codeE ps (g + 1) at_)) := by
  have hcode : codeE ps (g + 1) at_ = ((kidsC (codeE ps g) kc.toNat (at_ + 1)).1 ++ finE k n, (kidsC (codeE ps g) kc.toNat (at_ + 1)).2.1 ++ (finE k n).map (fun _ => (at_ : Int)), (kidsC (codeE ps g) kc.toNat (at_ + 1)).2.2) := by rw [codeE, hp]
  rw [hcode] at ho hg
  have HI := Lib.hid hI
  have HT := Lib.hid hkt
  have HCD := Lib.hid hcode
  have hja : at_ < ps.length := (List.getElem?_eq_some_iff.1 hp).1
  obtain ⟨bp, op, rfl, hpB, hpc⟩ := hE.pa (by omega)
  obtain ⟨p0, p1, p2⟩ := hpc _ _ _ _ hp
  have hBw : Bd < w.heap.size := Nat.lt_of_lt_of_le hC.lt hC.le
  have hbp : bp < w.heap.size := Nat.lt_trans hpB hBw
  have c5 : w.cell? ⟨Bd, 5, none⟩ = some (.slice (some ⟨bp, op, none⟩) ps.length cp) := code_cell hC 5
  have CC := Lib.hid hC
  have EE := Lib.hid hE
  have HPC := Lib.hid hpc
  have hji : (at_ : Int) < (ps.length : Int) := by omega
  have HO := Lib.hid ho
  have HG := Lib.hid hg
  have n5 : (k == 5) = false := by by_cases h : k = 5 <;> simp [h]; subst h; exact absurd hpk (by decide)
  have n6 : (k == 6) = false := by by_cases h : k = 6 <;> simp [h]; subst h; exact absurd hpk (by decide)
  have n7 : (k == 7) = false := by by_cases h : k = 7 <;> simp [h]; subst h; exact absurd hpk (by decide)
  have n8 : (k == 8) = false := by by_cases h : k = 8 <;> simp [h]; subst h; exact absurd hpk (by decide)
  have n23 : (k == 23) = false := by by_cases h : k = 23 <;> simp [h]; subst h; exact absurd hpk (by decide)
  have n24 : (k == 24) = false := by by_cases h : k = 24 <;> simp [h]; subst h; exact absurd hpk (by decide)
  have hkc : kc ≤ 17592186044415 := by have := kids_pos (plain_pos ps g) kc.toNat (at_ + 1) (by omega) hkt; omega
  clear hI hkt hcode hC hE hpc ho hg
  go_enter Try.func43, Try.ntmps43
  go_wp2
  have K0 : WRel w w (w.alloc (.cells #[.int .i64 k, .int .i64 n, .int .i64 kc] 108)) w.heap.size E Bd vt vf nm ar vl (.slice (some ⟨bp, op, none⟩) ps.length cp) vout vorg vlo (.map (some M)) out org k n kc (codeE ps g) (plainT ps g) (at_ + 1) 0 (at_ + 1) vout vorg out org :=
    ⟨code_kept CC.out (World.grownBy_alloc _ _ _), sp_grown (World.grownBy_alloc _ _ none) (by simp), fun j _ h => h, not_emit_new CC.out, copy_new w k n kc, Nat.zero_le _, rfl, rfl, rfl, HT.out⟩
  have KK := Lib.hid K0
  clear K0 p0 p1 p2 c5
  go_loopw [6, 49] (fun v i wr => ∃ (q aq : Nat) (vo vg : Value) (outq : List (Int × Int)) (orgq : List Int), i = .int .i64 q ∧ v = .int .i64 aq ∧ WRel w w wr w.heap.size E Bd vt vf nm ar vl (.slice (some ⟨bp, op, none⟩) ps.length cp) vout vorg vlo (.map (some M)) out org k n kc (codeE ps g) (plainT ps g) (at_ + 1) q aq vo vg outq orgq) (fun _ i _ => kc.toNat - (intOf i).toNat)
  case atStart => exact ⟨0, at_ + 1, vout, vorg, out, org, rfl, by go_num, KK.out⟩
  case round =>
    obtain ⟨q, aq, vo, vg, outq, orgq, rfl, rfl, hL⟩ := hrel
    have LL := Lib.hid hL
    have hqk := hL.hq
    have x0 := copy_0 hL.copy
    have x2 := copy_2 hL.copy
    have c9 : wr.cell? ⟨Bd, 9, none⟩ = some (.map (some M)) := code_cell hL.code 9
    have hBr : Bd < wr.heap.size := Nat.lt_of_lt_of_le hL.code.lt hL.code.le
    have hBB := copy_lt hL.copy
    have EW := Lib.hid (wenv_low EE.out (sp_low CC.out hL.sp))
    clear hL
    by_cases hlt : (q : Int) < kc
    · have hok := wrel_ok LL.out hlt
      have I1 := Lib.hid (HI.out aq vo vg outq orgq wr hok.1 LL.out.code EW.out (by have := hok.2.1; have := HO.out; simp only [List.length_append] at *; omega) (by have := hok.2.2; have := HG.out; simp only [List.length_append] at *; omega))
      clear hok c9 x0
      go_wp2_with (go_at_call 43; refine I1.out.mono ?_; intro e w3 hpost; obtain ⟨rfl, hsp, vo', vg', hC', hrow⟩ := hpost; have S3 := Lib.hid hsp; have C3 := Lib.hid hC'; have R3 := Lib.hid hrow; clear hsp hC' hrow)
      go_roundw
      case rel => exact ⟨q + 1, _, vo', vg', _, _, by go_num, rfl, wrel_step LL.out hlt hBB S3.out C3.out R3.out⟩
      case measure => simp [intOf]; omega
    · by_cases k1 : k = 1
      · have hlk := look_out EW.out.ki (k := k) (by subst k1; decide)
        have HF := Lib.hid (show finE k n = [] by subst k1; rfl)
        clear k1
        go_wp2
        go_quiet (fail)
        go_wp2
        go_ret
        exact wfin_none LL.out (by omega) HCD.out HF.out (grownBy_drewN wr nq none)
      · obtain ⟨hin, hcls⟩ := plain_cls bc b6 k n hpk k1
        obtain ⟨v, hsl, hlk⟩ := look_in EW.out.ki hin
        have hE3 := wrel_end LL.out hlt
        have hlen1 : outq.length ≤ 1000000000000 := by have := HO.out; rw [hE3.1]; simp only [List.length_append] at *; omega
        have hlen2 : orgq.length ≤ 1000000000000 := by have := HG.out; rw [hE3.2.1]; simp only [List.length_append] at *; omega
        have hn0 := (partsB_sp (fun _ => ⟨bp, op, rfl, hpB, HPC.out⟩) (fun j hj => sp_low CC.out LL.out.sp j (by have := CC.out.lt; omega) (by omega)) : PartsB wr Bd (some ⟨bp, op, none⟩) ps) (by omega)
        have hcn : wr.cell? ⟨bp, op + at_ * 3 + 1, none⟩ = some (.int .i64 n) := by
          obtain ⟨b', o', e, _, hc⟩ := hn0
          injection e with e; injection e with e1 e2 _; subst e1; subst e2
          exact (hc _ _ _ _ hp).2.1
        have hbpr : bp < wr.heap.size := by omega
        have hbcr : bc < wr.heap.size := by have := EW.out.ki.lb; have := LL.out.code.le; omega
        have hcb := EW.out.ki.cb
        have hC : ∀ m, CodeAt (wr.drewN m) E Bd vt vf nm ar vl (.slice (some ⟨bp, op, none⟩) ps.length cp) vo vg vlo (.map (some M)) outq orgq := fun m => code_kept LL.out.code (grownBy_drewN wr m none)
        have hle := LL.out.code.le
        rcases hcls with ⟨o, hk, hf⟩ | ⟨o, hk, hf⟩ | ⟨hk, hf⟩
        · rw [hk] at hsl
          obtain ⟨b, rfl, hb1, hb2, hc⟩ := hsl
          have PA := Lib.hid (fun m => plain_any E Bd b vt vf nm ar vl _ vo vg vlo _ outq orgq at_ o (wr.drewN m) (hC m) hlen1 hlen2 hc)
          have HF := Lib.hid hf
          clear hf hk hC hcn hcb hn0 hE3 hlen1 hlen2 hc hin k1
          unfold fnV ptrV at hlk
          go_wp2
          go_quiet (fail)
          go_wp2_with (go_at_call 66; refine (PA.out _).mono ?_; intro e w3 hpost; obtain ⟨rfl, hsp, hrest⟩ := hpost; have S3 := Lib.hid hsp; have R3 := Lib.hid hrest; clear hsp hrest)
          go_ret
          exact wfin_emit LL.out (by omega) HCD.out HF.out (sp_drewN S3.out) R3.out
        · rw [hk] at hsl
          obtain ⟨b3, b4, rfl, hb3, hb4, hc3, hc4⟩ := hsl
          have PA := Lib.hid (fun m => with_same E Bd b3 b4 bc bp op cp ps.length at_ vt vf nm ar vl vo vg vlo _ outq orgq o n (wr.drewN m) (hC m) hlen1 hlen2 hja hnp hc3 hc4 hcb hcn hbpr hbcr (show b3 < wr.heap.size by omega) (show b4 < wr.heap.size by omega))
          have HF := Lib.hid hf
          clear hf hk hC hcn hcb hn0 hE3 hlen1 hlen2 hc3 hc4 hin k1
          unfold fnV ptrV at hlk
          go_wp2
          go_quiet (fail)
          go_wp2_with (go_at_call 68; refine (PA.out _).mono ?_; intro e w3 hpost; obtain ⟨rfl, hsp, hrest⟩ := hpost; have S3 := Lib.hid hsp; have R3 := Lib.hid hrest; clear hsp hrest)
          go_ret
          exact wfin_emit LL.out (by omega) HCD.out HF.out (sp_drewN S3.out) R3.out
        · rw [hk] at hsl
          have hv : v = vnE bc := hsl
          subst hv
          have PA := Lib.hid (fun m => named_any E Bd bc bp op cp ps.length at_ vt vf nm ar vl vo vg vlo _ outq orgq n (wr.drewN m) (hC m) hlen1 hlen2 hja hnp hcb hcn hbpr hbcr)
          have HF := Lib.hid hf
          clear hf hk hC hcn hcb hn0 hE3 hlen1 hlen2 hin k1
          unfold vnE fnV ptrV at hlk
          go_wp2
          go_quiet (fail)
          go_wp2_with (go_at_call 70; refine (PA.out _).mono ?_; intro e w3 hpost; obtain ⟨rfl, hsp, hrest⟩ := hpost; have S3 := Lib.hid hsp; have R3 := Lib.hid hrest; clear hsp hrest)
          go_ret
          exact wfin_emit LL.out (by omega) HCD.out HF.out (sp_drewN S3.out) R3.out

theorem write_any (E Bd bc b6 M cp : Nat) (vt vf : Value) (nm : ByteArray) (ar : Int) (vl : Value) (pp : Option Addr) (ps : List (Int × Int × Int)) (hnp : ps.length ≤ 17592186044415) (vlo : Value) : ∀ (g at_ : Nat) (vout vorg : Value) (out : List (Int × Int)) (org : List Int) (w : World), plainT ps g at_ = true →
    CodeAt w E Bd vt vf nm ar vl (.slice pp ps.length cp) vout vorg vlo (.map (some M)) out org → WEnv w Bd E bc b6 M pp ps → (out ++ (codeE ps g at_).1).length ≤ 1000000000000 → (org ++ (codeE ps g at_).2.1).length ≤ 1000000000000 →
    Calls Try.prog 43 #[.pointer (some ⟨Bd, 0, none⟩), .int .i64 at_] w (WPost w E Bd vt vf nm ar vl (.slice pp ps.length cp) vout vorg vlo (.map (some M)) out org (codeE ps g at_))
  | 0, at_, vout, vorg, out, org, w, h, _, _, _, _ => by cases h
  | g + 1, at_, vout, vorg, out, org, w, h, hC, hE, ho, hg => by
    rw [plainT] at h
    cases hp : ps[at_]? with
    | none => rw [hp] at h; cases h
    | some x =>
      obtain ⟨k, n, kc⟩ := x
      rw [hp] at h
      simp only [Bool.and_eq_true] at h
      exact write_plain g E Bd bc b6 M cp vt vf nm ar vl pp ps hnp vout vorg vlo out org at_ k n kc hp h.1 h.2 w hC hE ho hg (write_any E Bd bc b6 M cp vt vf nm ar vl pp ps hnp vlo g)

end Go.Proofs.Ytecaolkbllbokaa.TG
