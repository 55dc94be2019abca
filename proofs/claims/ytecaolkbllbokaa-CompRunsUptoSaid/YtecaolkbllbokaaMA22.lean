/-
  Walk of the compiler's write, for parts that do not jump; write in general. Conditions: as each theorem states.
  What the checker's answer says of a function's parts, for the compiler. Conditions: as each theorem states.
-/
import Derived.Test.YtecaolkbllbokaaMA21
import Derived.Test.YtecaolkbllbokaaMA15
import Derived.Test.YtecaolkbllbokaaMA09
namespace Go.Proofs.Ytecaolkbllbokaa.TG
open Go.RowKit Go.Great
set_option linter.unusedSimpArgs false
set_option linter.unusedVariables false

set_option maxRecDepth 100000 in
set_option maxHeartbeats 8000000 in
theorem write_kids (c : Cx) (ok : CxOK c) (g : Nat) (hI : WCon c g) (s : Stt) (at_ : Nat) (w : World) (k n kc : Int) (hp : c.ps[at_]? = some (k, n, kc)) (hw : WellK c.ts.length s.L.length k n kc)
    (ho : kidsO (okP c.ts.length c.ps g s.L.length) (skipS c.ps g) kc.toNat (at_ + 1)) (hk : k ≠ 5 ∧ k ≠ 6 ∧ ¬ (k = 7 ∨ k = 8) ∧ k ≠ 23 ∧ k ≠ 24) (h : AtS c w s) (hb : s.out.length + 8 * (c.ps.length - at_) + 8 ≤ 1000000000000) :
    Calls Try.prog 43 #[.pointer (some ⟨c.Bd, 0, none⟩), .int .i64 at_] w (WP c w s (writeP c.ts c.ps (g + 1) s.abs at_)) := by
  have hja : at_ < c.ps.length := (List.getElem?_eq_some_iff.1 hp).1
  obtain ⟨bp, op, hpp⟩ := pp_some h hja
  have hji : (at_ : Int) < (c.ps.length : Int) := by omega
  have hnp := ok.np
  obtain ⟨c5, p0, p1, p2, lb, ld⟩ := part_cells h hpp hp
  have K0 := Lib.hid (kloop_start (k := k) (n := n) (kc := kc) ok h hja hb ho)
  have HK := Lib.hid hk
  have HW := Lib.hid hw
  have HI := Lib.hid hI
  have HP := Lib.hid hp
  have hkc : kc ≤ 17592186044415 := by
    have hg := kids_good (write_good c.ts c.ps g) kc.toNat (a := at_ + 1) h.inv hja (by rw [abs_V]; exact ho)
    have := hg.2.1; have := hg.2.2.1; omega
  have n5 : (k == 5) = false := by have := hk.1; simpa using this
  have n6 : (k == 6) = false := by have := hk.2.1; simpa using this
  have n7 : (k == 7) = false := by have := hk.2.2.1; simp; omega
  have n8 : (k == 8) = false := by have := hk.2.2.1; simp; omega
  have n23 : (k == 23) = false := by have := hk.2.2.2.1; simpa using this
  have n24 : (k == 24) = false := by have := hk.2.2.2.2; simpa using this
  clear hI ho hw hp h hb hk
  go_enter Try.func43, Try.ntmps43
  go_wp2
  clear p0 p1 p2 c5 lb ld
  go_loopw [6, 49] (fun v i wr => ∃ (q aq : Nat) (sr : Stt), i = .int .i64 q ∧ v = .int .i64 aq ∧ KLoop c g w s at_ k n kc q aq wr sr) (fun _ i _ => kc.toNat - (intOf i).toNat)
  case atStart => exact ⟨0, at_ + 1, s, rfl, by go_num, K0.out⟩
  case round =>
    obtain ⟨q, aq, sr, rfl, rfl, hL⟩ := hrel
    have LL := Lib.hid hL
    have hqk := hL.hq
    have x0 := copy_0 hL.copy
    have x2 := copy_2 hL.copy
    have c9 : wr.cell? ⟨c.Bd, 9, none⟩ = some (.map (some c.M)) := code_cell hL.go.at_.code 9
    have hBr := at_size hL.go.at_
    have hBB := copy_lt hL.copy
    clear hL
    by_cases hlt : (q : Int) < kc
    · have I1 := Lib.hid (step_write ok HI.out (kloop_ok LL.out hlt) LL.out.go.at_ (bud_ok LL.out.bud))
      clear c9 x0
      go_wp2_with (go_at_call 43; refine I1.out.mono ?_; clear I1; intro e w3 hpost; obtain ⟨s3, p3, rfl, g3⟩ := hpost; have G3 := Lib.hid g3; clear g3)
      go_roundw
      case rel => exact ⟨q + 1, p3, s3, by go_num, rfl, kloop_step LL.out hlt G3.out⟩
      case measure => simp [intOf]; omega
    · by_cases k1 : k = 1
      · have hlk := look_out LL.out.go.at_.ki (k := k) (by subst k1; decide)
        have HF := Lib.hid (show finG c.ts k n = [] by subst k1; rfl)
        clear k1
        go_wp2
        go_quiet (fail)
        go_wp2
        go_ret
        exact kloop_end LL.out (by omega) HP.out HK.out (go_grown ok LL.out.go.at_ (grownBy_drewN wr nq none)) (by rw [HF.out]; rfl)
      · obtain ⟨hin, hcls⟩ := fin_cls c.bc c.b6 c.ts k n ⟨HW.out.k1, HW.out.k2⟩ k1 HK.out
        obtain ⟨v, hsl, hlk⟩ := look_in LL.out.go.at_.ki hin
        obtain ⟨hlen1, hlen2⟩ := kloop_bound LL.out
        obtain ⟨-, -, hcn, -, hbpr, -⟩ := part_cells LL.out.go.at_ hpp HP.out
        have hl0 := LL.out.go.at_.code.lt
        have hle := LL.out.go.at_.code.le
        have hlb := LL.out.go.at_.ki.lb
        have hl6 := LL.out.go.at_.ki.l6
        have hbcr : c.bc < wr.heap.size := by omega
        have hcb := LL.out.go.at_.ki.cb
        have HM := Lib.hid (fun m => (go_grown ok LL.out.go.at_ (grownBy_drewN wr m none)))
        have hC : ∀ m, CodeAt (wr.drewN m) c.E c.Bd (.slice c.pt c.ts.length c.ct) c.vf c.nm c.ar c.vl (.slice (some ⟨bp, op, none⟩) c.ps.length c.cp) sr.vout sr.vorg sr.vlo (.map (some c.M)) sr.out sr.org := fun m => by have := (HM.out m).at_.code; rw [hpp] at this; exact this
        have hbpB : bp < c.Bd := by
          obtain ⟨b', o', e', hb', _⟩ := LL.out.go.at_.pa (by omega)
          rw [hpp] at e'; injection e' with e'; injection e' with e1 e2 _; omega
        rcases hcls with ⟨o, hk, hf⟩ | ⟨o, hk, hf⟩ | ⟨hk, hf⟩ | h14 | h15 | h21 | h22
        · rw [hk] at hsl
          obtain ⟨b, rfl, hb1, hb2, hc⟩ := hsl
          have PA := Lib.hid (fun m => plain_any c.E c.Bd b _ c.vf c.nm c.ar c.vl _ sr.vout sr.vorg sr.vlo _ sr.out sr.org at_ o (wr.drewN m) (HM.out m).at_.code (by omega) (by omega) hc)
          have HF := Lib.hid hf
          clear hf hk hC hcn hcb hlen1 hlen2 hc hin k1
          unfold fnV ptrV at hlk
          go_wp2
          go_quiet (fail)
          go_wp2_with (go_at_call 66; refine (PA.out _).mono ?_; intro e w3 hpost; obtain ⟨rfl, hsp, hrest⟩ := hpost; have S3 := Lib.hid hsp; have R3 := Lib.hid hrest; clear hsp hrest)
          go_ret
          obtain ⟨s3, g3, e3, -, -⟩ := go_emit ok (HM.out _).at_ S3.out R3.out
          exact kloop_end LL.out (by omega) HP.out HK.out (go_trans (HM.out _) g3) (by rw [HF.out, e3]; rfl)
        · rw [hk] at hsl
          obtain ⟨b3, b4, rfl, hb3, hb4, hc3, hc4⟩ := hsl
          have PA := Lib.hid (fun m => with_same c.E c.Bd b3 b4 c.bc bp op c.cp c.ps.length at_ _ c.vf c.nm c.ar c.vl sr.vout sr.vorg sr.vlo _ sr.out sr.org o n (wr.drewN m) (hC m) (by omega) (by omega) hja hnp hc3 hc4 hcb hcn hbpr hbcr (show b3 < wr.heap.size by omega) (show b4 < wr.heap.size by omega))
          have HF := Lib.hid hf
          clear hf hk hC hcn hcb hlen1 hlen2 hc3 hc4 hin k1
          unfold fnV ptrV at hlk
          go_wp2
          go_quiet (fail)
          go_wp2_with (go_at_call 68; refine (PA.out _).mono ?_; intro e w3 hpost; obtain ⟨rfl, hsp, hrest⟩ := hpost; have S3 := Lib.hid hsp; have R3 := Lib.hid hrest; clear hsp hrest)
          go_ret
          have R4 := R3.out
          rw [← hpp] at R4
          obtain ⟨s3, g3, e3, -, -⟩ := go_emit ok (HM.out _).at_ S3.out R4
          exact kloop_end LL.out (by omega) HP.out HK.out (go_trans (HM.out _) g3) (by rw [HF.out, e3]; rfl)
        · rw [hk] at hsl
          have hv : v = vnE c.bc := hsl
          subst hv
          have PA := Lib.hid (fun m => named_any c.E c.Bd c.bc bp op c.cp c.ps.length at_ _ c.vf c.nm c.ar c.vl sr.vout sr.vorg sr.vlo _ sr.out sr.org n (wr.drewN m) (hC m) (by omega) (by omega) hja hnp hcb hcn hbpr hbcr)
          have HF := Lib.hid hf
          clear hf hk hC hcn hcb hlen1 hlen2 hin k1
          unfold vnE fnV ptrV at hlk
          go_wp2
          go_quiet (fail)
          go_wp2_with (go_at_call 70; refine (PA.out _).mono ?_; intro e w3 hpost; obtain ⟨rfl, hsp, hrest⟩ := hpost; have S3 := Lib.hid hsp; have R3 := Lib.hid hrest; clear hsp hrest)
          go_ret
          have R4 := R3.out
          rw [← hpp] at R4
          obtain ⟨s3, g3, e3, -, -⟩ := go_emit ok (HM.out _).at_ S3.out R4
          exact kloop_end LL.out (by omega) HP.out HK.out (go_trans (HM.out _) g3) (by rw [HF.out, e3]; rfl)
        · subst h14
          obtain ⟨nn, rfl⟩ : ∃ nn : Nat, n = nn := ⟨n.toNat, by have := HW.out.t (by decide); omega⟩
          have hnn : nn < c.ts.length := by have := HW.out.t (by decide); omega
          obtain ⟨b3, b4, rfl, hb3, hb4, hc3, hc4⟩ := (show SlB c.Bd c.E c.bc wr v (.wi 3 (vaE c.bc)) from hsl)
          have PA := Lib.hid (fun m => with_at c.E c.Bd b3 b4 c.bc bp op c.cp c.ps.length at_ c.B c.ct nn c.pt c.ts hnn ok.nts ok.nct ok.mct ok.wf c.vf c.nm c.ar c.vl sr.vout sr.vorg sr.vlo _ sr.out sr.org 3 (wr.drewN m) (hC m) (HM.out m).at_.tx (show c.B ≤ wr.heap.size by have := ok.lB; omega) (by omega) (by omega) hja hnp hc3 hc4 hcb hcn hb3 hb4 hlb hbpB)
          have HF := Lib.hid (show finG c.ts 14 (nn : Int) = [(3, bytesTo c.ts nn)] from rfl)
          clear hC hcn hcb hlen1 hlen2 hc3 hc4 hin k1 hsl
          unfold fnV ptrV at hlk
          go_wp2
          go_quiet (fail)
          go_wp2_with (go_at_call 68; refine (PA.out _).mono ?_; intro e w3 hpost; obtain ⟨rfl, hsp, hrest⟩ := hpost; have S3 := Lib.hid hsp; have R3 := Lib.hid hrest; clear hsp hrest)
          go_ret
          have R4 := R3.out
          rw [← hpp] at R4
          obtain ⟨s3, g3, e3, -, -⟩ := go_emit ok (HM.out _).at_ S3.out R4
          exact kloop_end LL.out (by omega) HP.out HK.out (go_trans (HM.out _) g3) (by rw [HF.out, e3]; rfl)
        · subst h15
          obtain ⟨nn, rfl⟩ : ∃ nn : Nat, n = nn := ⟨n.toNat, by have := HW.out.t (by decide); omega⟩
          have hnn : nn < c.ts.length := by have := HW.out.t (by decide); omega
          obtain ⟨⟨tn, d⟩, htn⟩ : ∃ x, c.ts[nn]? = some x := ⟨_, List.getElem?_eq_getElem hnn⟩
          obtain ⟨b3, b4, rfl, hb3, hb4, hc3, hc4⟩ := (show SlB c.Bd c.E c.bc wr v (.wi 3 (vlE c.bc)) from hsl)
          have PA := Lib.hid (fun m => with_len c.E c.Bd b3 b4 c.bc bp op c.cp c.ps.length at_ c.B c.ct nn c.pt c.ts tn d htn (by have := ok.nts; omega) c.vf c.nm c.ar c.vl sr.vout sr.vorg sr.vlo _ sr.out sr.org 3 (wr.drewN m) (hC m) (HM.out m).at_.tx (by omega) (by omega) hja hnp hc3 hc4 hcb hcn hbpr hbcr (show b3 < wr.heap.size by omega) (show b4 < wr.heap.size by omega))
          have HF := Lib.hid (show finG c.ts 15 (nn : Int) = [(3, (d.length : Int))] by
            have e : finG c.ts 15 (nn : Int) = [(3, ((c.ts.getD nn (ByteArray.empty, [])).2.length : Int))] := rfl
            rw [e]; simp [List.getD, htn])
          clear hC hcn hcb hlen1 hlen2 hc3 hc4 hin k1 hsl htn
          unfold fnV ptrV at hlk
          go_wp2
          go_quiet (fail)
          go_wp2_with (go_at_call 68; refine (PA.out _).mono ?_; intro e w3 hpost; obtain ⟨rfl, hsp, hrest⟩ := hpost; have S3 := Lib.hid hsp; have R3 := Lib.hid hrest; clear hsp hrest)
          go_ret
          have R4 := R3.out
          rw [← hpp] at R4
          obtain ⟨s3, g3, e3, -, -⟩ := go_emit ok (HM.out _).at_ S3.out R4
          exact kloop_end LL.out (by omega) HP.out HK.out (go_trans (HM.out _) g3) (by rw [HF.out, e3]; rfl)
        · subst h21
          have hv : v = vtE c.b6 := hsl
          subst hv
          have hc6 := LL.out.go.at_.ki.c6
          have PA := Lib.hid (fun m => turn_any c.E c.Bd c.b6 c.bc bp op c.cp c.ps.length at_ _ c.vf c.nm c.ar c.vl sr.vout sr.vorg sr.vlo _ sr.out sr.org n (wr.drewN m) (hC m) (by omega) (by omega) hja hnp hc6 hl6 hcb hlb hcn hbpB)
          have HF := Lib.hid (show finG c.ts 21 n = [(6, 0), (n, 0)] from rfl)
          clear hC hcn hcb hlen1 hlen2 hin k1 hsl hc6
          unfold vtE fnV ptrV at hlk
          go_wp2
          go_quiet (fail)
          go_wp2_with (go_at_call 73; refine (PA.out _).mono ?_; intro e w3 hpost; obtain ⟨⟨v3, rfl⟩, hsp, hrest⟩ := hpost; have S3 := Lib.hid hsp; have R3 := Lib.hid hrest; clear hsp hrest)
          go_ret
          have R4 := R3.out
          rw [← hpp] at R4
          obtain ⟨s3, g3, e3⟩ := go_two ok (HM.out _).at_ S3.out R4
          exact kloop_end LL.out (by omega) HP.out HK.out (go_trans (HM.out _) g3) (by rw [HF.out, e3])
        · subst h22
          have hv : v = voE := hsl
          subst hv
          have PA := Lib.hid (fun m => not_any c.E c.Bd _ c.vf c.nm c.ar c.vl _ sr.vout sr.vorg sr.vlo _ sr.out sr.org at_ (wr.drewN m) (HM.out m).at_.code (by omega) (by omega))
          have HF := Lib.hid (show finG c.ts 22 n = [(3, 0), (31, 0)] from rfl)
          clear hC hcn hcb hlen1 hlen2 hin k1 hsl
          unfold voE fnV at hlk
          go_wp2
          go_quiet (fail)
          go_wp2_with (go_at_call 74; refine (PA.out _).mono ?_; intro e w3 hpost; obtain ⟨⟨v3, rfl⟩, hsp, hrest⟩ := hpost; have S3 := Lib.hid hsp; have R3 := Lib.hid hrest; clear hsp hrest)
          go_ret
          obtain ⟨s3, g3, e3⟩ := go_two ok (HM.out _).at_ S3.out R3.out
          exact kloop_end LL.out (by omega) HP.out HK.out (go_trans (HM.out _) g3) (by rw [HF.out, e3])

theorem write_con (c : Cx) (ok : CxOK c) : ∀ g, WCon c g
  | 0 => fun s at_ w h _ _ => h.elim
  | g + 1 => fun s at_ w ho h hb => by
    obtain ⟨k, n, kc, hp, hw, ho'⟩ := ho
    by_cases hk : k = 5 ∨ k = 6 ∨ (k = 7 ∨ k = 8) ∨ k = 23 ∨ k = 24
    · exact write_jump c ok g (write_con c ok g) s at_ w k n kc hp hw ho' hk h hb
    · rw [if_neg (by omega)] at ho'
      exact write_kids c ok g (write_con c ok g) s at_ w k n kc hp hw ho' ⟨by omega, by omega, by omega, by omega, by omega⟩ h hb

end Go.Proofs.Ytecaolkbllbokaa.TG

namespace Go.Proofs.Ytecaolkbllbokaa.TG
open Go.RowKit Go.Great
set_option linter.unusedSimpArgs false
set_option linter.unusedVariables false

theorem alone_well {nl nt : Nat} {fs : List Int} {m : Nat} {k n kc what : Int} (h : aloneE nl nt fs m k n kc what = 0) (hm : m ≤ 1000) : WellK nt m k n kc := by
  unfold aloneE at h
  by_cases h1 : k < 1 ∨ 27 ≤ k
  · rw [if_pos h1] at h; omega
  rw [if_neg h1] at h
  by_cases h2 : kindsE k ≠ what ∧ ¬ (kindsE k = 0 ∧ what = 1)
  · rw [if_pos h2] at h; omega
  rw [if_neg h2] at h
  by_cases h3 : numE nl nt fs.length m k n ≠ 0
  · rw [if_pos h3] at h; exact absurd h h3
  rw [if_neg h3] at h
  have h4 : numE nl nt fs.length m k n = 0 := by omega
  have key : ∀ {a b e : Int}, e ≠ 0 → amongE a b e = 0 → 0 ≤ a ∧ a < b := by
    intro a b e he hab
    unfold amongE at hab
    split at hab <;> omega
  refine ⟨hm, by omega, by omega, ?_, ?_, ?_, ?_⟩
  · intro e; subst e
    unfold kidsE at h
    simp at h
    omega
  · intro e
    unfold kidsE at h
    rw [if_neg (by omega), if_neg (by omega), if_neg (by omega), if_neg (by omega), if_neg (by omega), if_pos (by omega)] at h
    split at h <;> omega
  · intro e
    unfold kidsE at h
    rw [if_neg (by omega), if_neg (by omega), if_neg (by omega), if_neg (by omega), if_neg (by omega), if_neg (by omega)] at h
    unfold numE at h4
    rw [if_neg (by omega), if_neg (by omega), if_neg (by omega), if_neg (by omega), if_neg (by omega), if_pos (by omega)] at h4
    have := key (by decide) h4
    refine ⟨?_, this.1, this.2⟩
    split at h <;> omega
  · intro e
    unfold numE at h4
    rw [if_neg (by omega), if_neg (by omega), if_pos (by omega)] at h4
    exact key (by decide) h4

theorem loop_ok {nl nt : Nat} {fs : List Int} {ps : List (Int × Int × Int)} {g m : Nat} {k : Int} (hk : k ≠ 6)
    (IH : ∀ what s, (partE nl nt fs ps g what s).2.1 = 0 → s.l = (m : Int) → okP nt ps g m s.a ∧ (partE nl nt fs ps g what s).2.2.a = skipS ps g s.a ∧ (partE nl nt fs ps g what s).2.2.l = s.l) : ∀ (r i : Nat) (s : St) (ws : List Int),
    (loopE (partE nl nt fs ps g) k r i s ws).2.1 = 0 → s.l = (m : Int) → kidsO (okP nt ps g m) (skipS ps g) r s.a ∧ (loopE (partE nl nt fs ps g) k r i s ws).2.2.a = kidsS (skipS ps g) r s.a ∧ (loopE (partE nl nt fs ps g) k r i s ws).2.2.l = s.l
  | 0, i, s, ws, _, _ => ⟨trivial, rfl, rfl⟩
  | r + 1, i, s, ws, h, hl => by
    have e1 : stepIn k i s = s := by unfold stepIn; rw [if_neg (by omega)]
    have e2 : ∀ s', stepOut k i s' = s' := fun s' => by unfold stepOut; rw [if_neg (by omega)]
    by_cases hb : (partE nl nt fs ps g (kidE k i) (stepIn k i s)).2.1 = 0
    · rw [loopE_good _ _ _ _ _ _ hb] at h ⊢
      rw [e1] at hb
      obtain ⟨o1, o2, o3⟩ := IH _ _ hb hl
      rw [e1, e2] at h ⊢
      obtain ⟨p1, p2, p3⟩ := loop_ok hk IH r (i + 1) _ _ h (by rw [o3]; exact hl)
      rw [o2] at p1
      refine ⟨⟨o1, p1⟩, ?_, by rw [p3, o3]⟩
      rw [p2, o2]; rfl
    · rw [loopE_bad _ _ _ _ _ _ hb] at h
      exact absurd h hb

theorem part_ok (nl nt : Nat) (fs : List Int) (ps : List (Int × Int × Int)) : ∀ (g : Nat) (what : Int) (s : St) (m : Nat), (partE nl nt fs ps g what s).2.1 = 0 → s.l = (m : Int) → m + g ≤ 1000 →
    okP nt ps g m s.a ∧ (partE nl nt fs ps g what s).2.2.a = skipS ps g s.a ∧ (partE nl nt fs ps g what s).2.2.l = s.l
  | 0, what, s, m, h, hl, hg => by
    exfalso
    unfold partE at h
    cases hp : ps[s.a]? with
    | none => rw [hp] at h; simp at h
    | some x =>
      obtain ⟨k, n, kc⟩ := x
      rw [hp] at h
      simp only at h
      split at h
      · next h1 => exact h1 h
      · simp at h
  | g + 1, what, s, m, h, hl, hg => by
    have IH := fun m' (hm' : m' + g ≤ 1000) what' s' h' hl' => part_ok nl nt fs ps g what' s' m' h' hl' hm'
    cases hp : ps[s.a]? with
    | none => unfold partE at h; rw [hp] at h; simp at h
    | some x =>
      obtain ⟨k, n, kc⟩ := x
      by_cases he : aloneE nl nt fs s.l k n kc what = 0
      · have hpk := partE_kids nl nt fs ps g what s k n kc hp he _ rfl
        rw [hpk] at h ⊢
        have hw := alone_well (by rw [← hl]; exact he) (by omega : m ≤ 1000)
        have eS : skipS ps (g + 1) s.a = kidsS (skipS ps g) kc.toNat (s.a + 1) := by rw [skipS, hp]
        by_cases hr : (loopE (partE nl nt fs ps g) k kc.toNat 0 ⟨s.a + 1, s.l, s.m⟩ []).2.1 = 0
        · rw [if_neg (by omega)] at h ⊢
          rw [eS]
          by_cases h6 : k = 6
          · subst h6
            have hk2 := hw.w (Or.inl rfl)
            subst hk2
            have e0 : (2 : Int).toNat = 1 + 1 := rfl
            rw [e0] at hr ⊢
            by_cases hb : (partE nl nt fs ps g (kidE 6 (0 : Nat)) (stepIn 6 0 ⟨s.a + 1, s.l, s.m⟩)).2.1 = 0
            · rw [loopE_good _ _ _ _ _ _ hb] at hr ⊢
              have i0 : stepIn 6 0 ⟨s.a + 1, s.l, s.m⟩ = ⟨s.a + 1, s.l, s.m⟩ := rfl
              have o0 : ∀ s', stepOut 6 0 s' = s' := fun _ => rfl
              rw [i0] at hb
              obtain ⟨q1, q2, q3⟩ := IH m (by omega) _ _ hb hl
              rw [i0, o0] at hr ⊢
              generalize hs1 : (partE nl nt fs ps g (kidE 6 (0 : Nat)) ⟨s.a + 1, s.l, s.m⟩).2.2 = s1 at *
              have i1 : stepIn 6 (0 + 1) s1 = ⟨s1.a, s1.l + 1, s1.m⟩ := rfl
              by_cases hb2 : (partE nl nt fs ps g (kidE 6 ((0 + 1 : Nat) : Int)) (stepIn 6 (0 + 1) s1)).2.1 = 0
              · rw [loopE_good _ _ _ _ _ _ hb2] at hr ⊢
                rw [i1] at hb2 hr ⊢
                have hl1 : s1.l + 1 = ((m + 1 : Nat) : Int) := by rw [q3]; simp only; omega
                obtain ⟨r1, r2, r3⟩ := IH (m + 1) (by omega) _ _ hb2 hl1
                rw [loopE_zero]
                simp only at q2 q3 r1 r2 r3
                refine ⟨⟨6, n, 2, hp, hw, ?_⟩, ?_, ?_⟩
                · rw [if_pos rfl]
                  rw [q2] at r1
                  exact ⟨q1, r1⟩
                · refine Eq.trans (b := (partE nl nt fs ps g (kidE 6 ((0 + 1 : Nat) : Int)) ⟨s1.a, s1.l + 1, s1.m⟩).2.2.a) rfl ?_
                  rw [r2, q2]; rfl
                · refine Eq.trans (b := (partE nl nt fs ps g (kidE 6 ((0 + 1 : Nat) : Int)) ⟨s1.a, s1.l + 1, s1.m⟩).2.2.l - 1) rfl ?_
                  rw [r3, q3]; omega
              · rw [loopE_bad _ _ _ _ _ _ hb2] at hr
                exact absurd hr hb2
            · rw [loopE_bad _ _ _ _ _ _ hb] at hr
              exact absurd hr hb
          · obtain ⟨p1, p2, p3⟩ := loop_ok h6 (IH m (by omega)) kc.toNat 0 ⟨s.a + 1, s.l, s.m⟩ [] hr hl
            exact ⟨⟨k, n, kc, hp, hw, by rw [if_neg h6]; exact p1⟩, p2, p3⟩
        · rw [if_pos hr] at h
          exact absurd h hr
      · rw [partE_bad nl nt fs ps (g + 1) what s k n kc hp he] at h
        exact absurd h he

end Go.Proofs.Ytecaolkbllbokaa.TG
