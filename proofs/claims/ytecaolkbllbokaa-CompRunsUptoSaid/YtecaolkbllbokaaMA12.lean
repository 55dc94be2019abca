/-
  Walk of the compiler's write, for a part without jumps. Conditions: as each theorem states.
  Walk of the compiler's size. Conditions: as each theorem states.
  A region in whatever order, its operations' values known ahead: the frame behind it is the one of the text's order. Conditions: as each theorem states.
-/
import Derived.Test.YtecaolkbllbokaaMA11
import Derived.Deep.QuietTactic
import Derived.BigQuiet
namespace Go.Proofs.Ytecaolkbllbokaa.TG
open Go.RowKit Go.Great
set_option linter.unusedSimpArgs false
set_option linter.unusedVariables false

set_option maxRecDepth 100000 in
set_option maxHeartbeats 4000000 in
theorem write_plain (g : Nat) (E Bd bc b6 M cp : Nat) (vt vf : Value) (nm : ByteArray) (ar : Int) (vl : Value) (pp : Option Addr) (ps : List (Int × Int × Int)) (hnp : ps.length ≤ 17592186044415) (vout vorg vlo : Value) (out : List (Int × Int)) (org : List Int) (at_ : Nat) (k n kc : Int) (hp : ps[at_]? = some (k, n, kc)) (hpk : plainK k = true)
    (hkt : kidsT (plainT ps g) (codeE ps g) kc.toNat (at_ + 1) = true) (w : World)
    (hC : CodeAt w E Bd vt vf nm ar vl (.slice pp ps.length cp) vout vorg vlo (.map (some M)) out org) (hE : WEnv w Bd E bc b6 M pp ps)
    (ho : (out ++ (codeE ps (g + 1) at_).1).length ≤ 1000000000000) (hg : (org ++ (codeE ps (g + 1) at_).2.1).length ≤ 1000000000000)
    (hI : ∀ (at_ : Nat) (vout vorg : Value) (out : List (Int × Int)) (org : List Int) (w : World), plainT ps g at_ = true → CodeAt w E Bd vt vf nm ar vl (.slice pp ps.length cp) vout vorg vlo (.map (some M)) out org → WEnv w Bd E bc b6 M pp ps →
      (out ++ (codeE ps g at_).1).length ≤ 1000000000000 → (org ++ (codeE ps g at_).2.1).length ≤ 1000000000000 →
      Calls Try.prog 43 #[.pointer (some ⟨Bd, 0, none⟩), .int .i64 at_] w (WPost w E Bd vt vf nm ar vl (.slice pp ps.length cp) vout vorg vlo (.map (some M)) out org (codeE ps g at_))) :
    Calls Try.prog 43 #[.pointer (some ⟨Bd, 0, none⟩), .int .i64 at_] w (WPost w E Bd vt vf nm ar vl (.slice pp ps.length cp) vout vorg vlo (.map (some M)) out org (codeE ps (g + 1) at_)) := by
  have hcode : codeE ps (g + 1) at_ = ((kidsC (codeE ps g) kc.toNat (at_ + 1)).1 ++ finE k n, (kidsC (codeE ps g) kc.toNat (at_ + 1)).2.1 ++ (finE k n).map (fun _ => (at_ : Int)), (kidsC (codeE ps g) kc.toNat (at_ + 1)).2.2) := by rw [codeE, hp]
  rw [hcode] at ho hg
  have HI := Lib.hid hI
  have HT := Lib.hid hkt
  have HCD := Lib.hid hcode
  have hja : at_ < ps.length := (List.getElem?_eq_some_iff.1 hp).1
  obtain ⟨bp, op, rfl, hpB, hpc⟩ := hE.pa (by omega)
  obtain ⟨p0, p1, p2⟩ := hpc _ _ _ _ hp
  have hBw : Bd < w.heap.size := Nat.lt_of_lt_of_le hC.lt hC.le
  have hbp : bp < w.heap.size := Nat.lt_trans hpB hBw
  have c5 : w.cell? ⟨Bd, 5, none⟩ = some (.slice (some ⟨bp, op, none⟩) ps.length cp) := code_cell hC 5
  have CC := Lib.hid hC
  have EE := Lib.hid hE
  have HPC := Lib.hid hpc
  have hji : (at_ : Int) < (ps.length : Int) := by omega
  have HO := Lib.hid ho
  have HG := Lib.hid hg
  have n5 : (k == 5) = false := by by_cases h : k = 5 <;> simp [h]; subst h; exact absurd hpk (by decide)
  have n6 : (k == 6) = false := by by_cases h : k = 6 <;> simp [h]; subst h; exact absurd hpk (by decide)
  have n7 : (k == 7) = false := by by_cases h : k = 7 <;> simp [h]; subst h; exact absurd hpk (by decide)
  have n8 : (k == 8) = false := by by_cases h : k = 8 <;> simp [h]; subst h; exact absurd hpk (by decide)
  have n23 : (k == 23) = false := by by_cases h : k = 23 <;> simp [h]; subst h; exact absurd hpk (by decide)
  have n24 : (k == 24) = false := by by_cases h : k = 24 <;> simp [h]; subst h; exact absurd hpk (by decide)
  have hkc : kc ≤ 17592186044415 := by have := kids_pos (plain_pos ps g) kc.toNat (at_ + 1) (by omega) hkt; omega
  clear hI hkt hcode hC hE hpc ho hg
  go_enter Try.func43, Try.ntmps43
  go_wp2
  have K0 : WRel w w (w.alloc (.cells #[.int .i64 k, .int .i64 n, .int .i64 kc] 108)) w.heap.size E Bd vt vf nm ar vl (.slice (some ⟨bp, op, none⟩) ps.length cp) vout vorg vlo (.map (some M)) out org k n kc (codeE ps g) (plainT ps g) (at_ + 1) 0 (at_ + 1) vout vorg out org :=
    ⟨code_kept CC.out (World.grownBy_alloc _ _ _), sp_grown (World.grownBy_alloc _ _ none) (by simp), fun j _ h => h, not_emit_new CC.out, copy_new w k n kc, Nat.zero_le _, rfl, rfl, rfl, HT.out⟩
  have KK := Lib.hid K0
  clear K0 p0 p1 p2 c5
  go_loopw [6, 49] (fun v i wr => ∃ (q aq : Nat) (vo vg : Value) (outq : List (Int × Int)) (orgq : List Int), i = .int .i64 q ∧ v = .int .i64 aq ∧ WRel w w wr w.heap.size E Bd vt vf nm ar vl (.slice (some ⟨bp, op, none⟩) ps.length cp) vout vorg vlo (.map (some M)) out org k n kc (codeE ps g) (plainT ps g) (at_ + 1) q aq vo vg outq orgq) (fun _ i _ => kc.toNat - (intOf i).toNat)
  case atStart => exact ⟨0, at_ + 1, vout, vorg, out, org, rfl, by go_num, KK.out⟩
  case round =>
    obtain ⟨q, aq, vo, vg, outq, orgq, rfl, rfl, hL⟩ := hrel
    have LL := Lib.hid hL
    have hqk := hL.hq
    have x0 := copy_0 hL.copy
    have x2 := copy_2 hL.copy
    have c9 : wr.cell? ⟨Bd, 9, none⟩ = some (.map (some M)) := code_cell hL.code 9
    have hBr : Bd < wr.heap.size := Nat.lt_of_lt_of_le hL.code.lt hL.code.le
    have hBB := copy_lt hL.copy
    have EW := Lib.hid (wenv_low EE.out (sp_low CC.out hL.sp))
    clear hL
    by_cases hlt : (q : Int) < kc
    · have hok := wrel_ok LL.out hlt
      have I1 := Lib.hid (HI.out aq vo vg outq orgq wr hok.1 LL.out.code EW.out (by have := hok.2.1; have := HO.out; simp only [List.length_append] at *; omega) (by have := hok.2.2; have := HG.out; simp only [List.length_append] at *; omega))
      clear hok c9 x0
      go_wp2_with (go_at_call 43; refine I1.out.mono ?_; intro e w3 hpost; obtain ⟨rfl, hsp, vo', vg', hC', hrow⟩ := hpost; have S3 := Lib.hid hsp; have C3 := Lib.hid hC'; have R3 := Lib.hid hrow; clear hsp hC' hrow)
      go_roundw
      case rel => exact ⟨q + 1, _, vo', vg', _, _, by go_num, rfl, wrel_step LL.out hlt hBB S3.out C3.out R3.out⟩
      case measure => simp [intOf]; omega
    · by_cases k1 : k = 1
      · have hlk := look_out EW.out.ki (k := k) (by subst k1; decide)
        have HF := Lib.hid (show finE k n = [] by subst k1; rfl)
        clear k1
        go_wp2
        go_quiet (fail)
        go_wp2
        go_ret
        exact wfin_none LL.out (by omega) HCD.out HF.out (grownBy_drewN wr nq none)
      · obtain ⟨hin, hcls⟩ := plain_cls bc b6 k n hpk k1
        obtain ⟨v, hsl, hlk⟩ := look_in EW.out.ki hin
        have hE3 := wrel_end LL.out hlt
        have hlen1 : outq.length ≤ 1000000000000 := by have := HO.out; rw [hE3.1]; simp only [List.length_append] at *; omega
        have hlen2 : orgq.length ≤ 1000000000000 := by have := HG.out; rw [hE3.2.1]; simp only [List.length_append] at *; omega
        have hn0 := (partsB_sp (fun _ => ⟨bp, op, rfl, hpB, HPC.out⟩) (fun j hj => sp_low CC.out LL.out.sp j (by have := CC.out.lt; omega) (by omega)) : PartsB wr Bd (some ⟨bp, op, none⟩) ps) (by omega)
        have hcn : wr.cell? ⟨bp, op + at_ * 3 + 1, none⟩ = some (.int .i64 n) := by
          obtain ⟨b', o', e, _, hc⟩ := hn0
          injection e with e; injection e with e1 e2 _; subst e1; subst e2
          exact (hc _ _ _ _ hp).2.1
        have hbpr : bp < wr.heap.size := by omega
        have hbcr : bc < wr.heap.size := by have := EW.out.ki.lb; have := LL.out.code.le; omega
        have hcb := EW.out.ki.cb
        have hC : ∀ m, CodeAt (wr.drewN m) E Bd vt vf nm ar vl (.slice (some ⟨bp, op, none⟩) ps.length cp) vo vg vlo (.map (some M)) outq orgq := fun m => code_kept LL.out.code (grownBy_drewN wr m none)
        have hle := LL.out.code.le
        rcases hcls with ⟨o, hk, hf⟩ | ⟨o, hk, hf⟩ | ⟨hk, hf⟩
        · rw [hk] at hsl
          obtain ⟨b, rfl, hb1, hb2, hc⟩ := hsl
          have PA := Lib.hid (fun m => plain_any E Bd b vt vf nm ar vl _ vo vg vlo _ outq orgq at_ o (wr.drewN m) (hC m) hlen1 hlen2 hc)
          have HF := Lib.hid hf
          clear hf hk hC hcn hcb hn0 hE3 hlen1 hlen2 hc hin k1
          unfold fnV ptrV at hlk
          go_wp2
          go_quiet (fail)
          go_wp2_with (go_at_call 66; refine (PA.out _).mono ?_; intro e w3 hpost; obtain ⟨rfl, hsp, hrest⟩ := hpost; have S3 := Lib.hid hsp; have R3 := Lib.hid hrest; clear hsp hrest)
          go_ret
          exact wfin_emit LL.out (by omega) HCD.out HF.out (sp_drewN S3.out) R3.out
        · rw [hk] at hsl
          obtain ⟨b3, b4, rfl, hb3, hb4, hc3, hc4⟩ := hsl
          have PA := Lib.hid (fun m => with_same E Bd b3 b4 bc bp op cp ps.length at_ vt vf nm ar vl vo vg vlo _ outq orgq o n (wr.drewN m) (hC m) hlen1 hlen2 hja hnp hc3 hc4 hcb hcn hbpr hbcr (show b3 < wr.heap.size by omega) (show b4 < wr.heap.size by omega))
          have HF := Lib.hid hf
          clear hf hk hC hcn hcb hn0 hE3 hlen1 hlen2 hc3 hc4 hin k1
          unfold fnV ptrV at hlk
          go_wp2
          go_quiet (fail)
          go_wp2_with (go_at_call 68; refine (PA.out _).mono ?_; intro e w3 hpost; obtain ⟨rfl, hsp, hrest⟩ := hpost; have S3 := Lib.hid hsp; have R3 := Lib.hid hrest; clear hsp hrest)
          go_ret
          exact wfin_emit LL.out (by omega) HCD.out HF.out (sp_drewN S3.out) R3.out
        · rw [hk] at hsl
          have hv : v = vnE bc := hsl
          subst hv
          have PA := Lib.hid (fun m => named_any E Bd bc bp op cp ps.length at_ vt vf nm ar vl vo vg vlo _ outq orgq n (wr.drewN m) (hC m) hlen1 hlen2 hja hnp hcb hcn hbpr hbcr)
          have HF := Lib.hid hf
          clear hf hk hC hcn hcb hn0 hE3 hlen1 hlen2 hin k1
          unfold vnE fnV ptrV at hlk
          go_wp2
          go_quiet (fail)
          go_wp2_with (go_at_call 70; refine (PA.out _).mono ?_; intro e w3 hpost; obtain ⟨rfl, hsp, hrest⟩ := hpost; have S3 := Lib.hid hsp; have R3 := Lib.hid hrest; clear hsp hrest)
          go_ret
          exact wfin_emit LL.out (by omega) HCD.out HF.out (sp_drewN S3.out) R3.out

theorem write_any (E Bd bc b6 M cp : Nat) (vt vf : Value) (nm : ByteArray) (ar : Int) (vl : Value) (pp : Option Addr) (ps : List (Int × Int × Int)) (hnp : ps.length ≤ 17592186044415) (vlo : Value) : ∀ (g at_ : Nat) (vout vorg : Value) (out : List (Int × Int)) (org : List Int) (w : World), plainT ps g at_ = true →
    CodeAt w E Bd vt vf nm ar vl (.slice pp ps.length cp) vout vorg vlo (.map (some M)) out org → WEnv w Bd E bc b6 M pp ps → (out ++ (codeE ps g at_).1).length ≤ 1000000000000 → (org ++ (codeE ps g at_).2.1).length ≤ 1000000000000 →
    Calls Try.prog 43 #[.pointer (some ⟨Bd, 0, none⟩), .int .i64 at_] w (WPost w E Bd vt vf nm ar vl (.slice pp ps.length cp) vout vorg vlo (.map (some M)) out org (codeE ps g at_))
  | 0, at_, vout, vorg, out, org, w, h, _, _, _, _ => by cases h
  | g + 1, at_, vout, vorg, out, org, w, h, hC, hE, ho, hg => by
    rw [plainT] at h
    cases hp : ps[at_]? with
    | none => rw [hp] at h; cases h
    | some x =>
      obtain ⟨k, n, kc⟩ := x
      rw [hp] at h
      simp only [Bool.and_eq_true] at h
      exact write_plain g E Bd bc b6 M cp vt vf nm ar vl pp ps hnp vout vorg vlo out org at_ k n kc hp h.1 h.2 w hC hE ho hg (write_any E Bd bc b6 M cp vt vf nm ar vl pp ps hnp vlo g)

end Go.Proofs.Ytecaolkbllbokaa.TG

namespace Go.Proofs.Ytecaolkbllbokaa.TG
open Go.RowKit Go.Great
set_option linter.unusedSimpArgs false
set_option linter.unusedVariables false

set_option maxRecDepth 100000 in
set_option maxHeartbeats 4000000 in
theorem size_any (ts : List (ByteArray × List Int)) (hn : ts.length ≤ 1024) (hts : ∀ x ∈ ts, x.1.size ≤ maxLen ∧ x.2.length ≤ 17592186044415) (pt : Option Addr) (ct B : Nat) (w : World) (hT : TextsAt w B pt ts) (hB : B ≤ w.heap.size) :
    Calls Try.prog 41 #[.slice pt ts.length ct] w fun e w' => e = .returned (.int .i64 (bytesTo ts ts.length)) ∧ w.grownBy w' none := by
  have HT := Lib.hid hT
  have HS := Lib.hid hts
  have HB := Lib.hid (bytesTo_bound ts (fun x hx => (hts x hx).2))
  clear hT hts
  go_enter Try.func41, Try.ntmps41
  go_wp2
  go_loopw [3, 8] (fun v i wr => ∃ (k : Nat), k ≤ ts.length ∧ i = .int .i64 k ∧ v = .int .i64 (bytesTo ts k) ∧ w.grownBy wr none) (fun _ i _ => ts.length - (intOf i).toNat)
  case atStart => exact ⟨0, Nat.zero_le _, rfl, rfl, grownBy_refl _ _⟩
  case round =>
    obtain ⟨k, hk, rfl, rfl, hgr⟩ := hrel
    have GR := Lib.hid hgr
    have hsz := hgr.size
    have hbk := HB.out k
    clear hgr
    by_cases hlt : (k : Int) < (ts.length : Int)
    · obtain ⟨nm, d, hg, hmem⟩ := get_text ts k (by omega)
      obtain ⟨bt, ot, rfl, hbt, hct⟩ := HT.out (by omega)
      obtain ⟨e0, pd, cd, e1, hbd⟩ := hct k nm d hg
      replace e0 := cell_low GR.out (B := B) (by simp) hbt e0
      replace e1 := cell_low GR.out (B := B) (by simp) hbt e1
      have hdl := (HS.out _ hmem).2
      have hbt2 : bt < wr.heap.size := by omega
      have HG := Lib.hid (bytes_step ts k nm d hg)
      clear hct hbd hmem hg
      simp only [] at hdl
      generalize bytesTo ts k = x at *
      go_wp2
      go_roundw
      case rel => exact ⟨k + 1, by omega, by go_num, by rw [HG.out], grownBy_trans GR.out (World.grownBy_alloc _ _ none)⟩
      case measure => simp [intOf]; omega
    · have hkn : k = ts.length := by omega
      subst hkn
      go_wp2
      go_ret
      exact ⟨rfl, GR.out⟩

end Go.Proofs.Ytecaolkbllbokaa.TG

namespace Go.Proofs.Ytecaolkbllbokaa.TG
open Go.RowKit Go.Great
set_option linter.unusedSimpArgs false
set_option linter.unusedVariables false

theorem tmN_put {a : Act} {N d : Nat} {v : Value} (hs : a.tmps.size = N) (hd : d < N) (e : Nat) : tm (a.put (some d) v) e = if e = d then v else tm a e := by
  unfold tm Act.put
  by_cases h : e = d
  · subst h; simp [hs, hd]
  · rw [if_neg h]; simp [Array.getD_eq_getD_getElem?, Array.getElem?_setIfInBounds_ne (Ne.symm h)]
theorem sizeN_put {a : Act} {N : Nat} {d : Option Tmp} {v : Value} (hs : a.tmps.size = N) : (a.put d v).tmps.size = N := by cases d <;> simp [Act.put, hs]

/-- The frame where the operations of l have come up. -/
structure RJ (a0 : Act) (N n : Nat) (dst : Nat → Nat) (val : Nat → Value) (l : Array Bool) (a : Act) : Prop where
  sz : l.size = n
  ts : a.tmps.size = N
  df : a.defers = a0.defers
  sl : ∀ i, i < n → l.getD i false = true → dst i < N → tm a (dst i) = val i
  un : ∀ j, (∀ i, i < n → l.getD i false = true → dst i ≠ j) → tm a j = tm a0 j

theorem rj_put {a0 a : Act} {N n i : Nat} {dst : Nat → Nat} {val : Nat → Value} {l : Array Bool} (h : RJ a0 N n dst val l a) (hi : i < n) (hd : dst i < N) (hne : ∀ j, j < n → j ≠ i → dst j ≠ dst i) :
    RJ a0 N n dst val (l.setIfInBounds i true) (a.put (some (dst i)) (val i)) := by
  have hgs : ∀ j, (l.setIfInBounds i true).getD j false = if j = i then true else l.getD j false := fun j => getD_set l i j (by rw [h.sz]; exact hi)
  have T : ∀ e, tm (a.put (some (dst i)) (val i)) e = if e = dst i then val i else tm a e := fun e => tmN_put h.ts hd e
  refine ⟨by simp [h.sz], sizeN_put h.ts, h.df, fun j hj hl hdj => ?_, fun j hj => ?_⟩
  · rw [hgs] at hl
    by_cases hji : j = i
    · subst hji; rw [T, if_pos rfl]
    · rw [if_neg hji] at hl
      rw [T, if_neg (hne j hj hji)]
      exact h.sl j hj hl hdj
  · have h1 := hj i hi (by rw [hgs, if_pos rfl])
    rw [T, if_neg (Ne.symm h1)]
    refine h.un j fun i' hi' hl' => hj i' hi' ?_
    rw [hgs]
    by_cases e : i' = i
    · rw [if_pos e]
    · rw [if_neg e]; exact hl'

theorem rj_none {a0 a : Act} {N n i : Nat} {dst : Nat → Nat} {val : Nat → Value} {l : Array Bool} (h : RJ a0 N n dst val l a) (hi : i < n) (hd : N ≤ dst i) : RJ a0 N n dst val (l.setIfInBounds i true) a := by
  have hgs : ∀ j, (l.setIfInBounds i true).getD j false = if j = i then true else l.getD j false := fun j => getD_set l i j (by rw [h.sz]; exact hi)
  refine ⟨by simp [h.sz], h.ts, h.df, fun j hj hl hdj => ?_, fun j hj => ?_⟩
  · rw [hgs] at hl
    by_cases hji : j = i
    · subst hji; omega
    · rw [if_neg hji] at hl; exact h.sl j hj hl hdj
  · refine h.un j fun i' hi' hl' => hj i' hi' ?_
    rw [hgs]
    by_cases e : i' = i
    · rw [if_pos e]
    · rw [if_neg e]; exact hl'

theorem rj_start {a0 : Act} {N n : Nat} {dst : Nat → Nat} {val : Nat → Value} (hs : a0.tmps.size = N) : RJ a0 N n dst val (Array.replicate n false) a0 :=
  ⟨by simp, hs, rfl, fun i hi hl _ => (by rw [getD_replicate_false] at hl; cases hl), fun j _ => rfl⟩

theorem act_ext {a b : Act} (hs : a.tmps.size = b.tmps.size) (hd : a.defers = b.defers) (ht : ∀ j, j < a.tmps.size → tm a j = tm b j) : a = b := by
  obtain ⟨ta, da⟩ := a
  obtain ⟨tb, db⟩ := b
  simp only at hs hd
  subst hd
  congr 1
  refine Array.ext hs fun j h1 h2 => ?_
  have := ht j h1
  simpa [tm, h1, h2] using this

theorem rj_end {a0 a aF : Act} {N n : Nat} {dst : Nat → Nat} {val : Nat → Value} {l : Array Bool} (h : RJ a0 N n dst val l a) (hl : ∀ j, j < n → l.getD j false = true) (hs : aF.tmps.size = N) (hd : aF.defers = a0.defers)
    (hv : ∀ i, i < n → dst i < N → tm aF (dst i) = val i) (hu : ∀ j, (∀ i, i < n → dst i ≠ j) → tm aF j = tm a0 j) : a = aF := by
  refine act_ext (h.ts.trans hs.symm) (h.df.trans hd.symm) fun j hj => ?_
  by_cases he : ∃ i, i < n ∧ dst i = j
  · obtain ⟨i, hi, rfl⟩ := he
    have hN : dst i < N := by rw [← h.ts]; exact hj
    rw [h.sl i hi (hl i hi) hN, hv i hi hN]
  · have hne : ∀ i, i < n → dst i ≠ j := fun i hi e => he ⟨i, hi, e⟩
    rw [h.un j (fun i hi _ => hne i hi), hu j hne]

/-- Puts, one behind the other. -/
def putsF (a0 : Act) (dst : Nat → Nat) (val : Nat → Value) : Nat → Act
  | 0 => a0
  | n + 1 => (putsF a0 dst val n).put (some (dst n)) (val n)

theorem putsF_size {a0 : Act} {N : Nat} {dst : Nat → Nat} {val : Nat → Value} (hs : a0.tmps.size = N) : ∀ n, (putsF a0 dst val n).tmps.size = N
  | 0 => hs
  | n + 1 => sizeN_put (putsF_size hs n)
theorem putsF_defers {a0 : Act} {dst : Nat → Nat} {val : Nat → Value} : ∀ n, (putsF a0 dst val n).defers = a0.defers
  | 0 => rfl
  | n + 1 => putsF_defers n
theorem putsF_in {a0 : Act} {N : Nat} {dst : Nat → Nat} {val : Nat → Value} (hs : a0.tmps.size = N) : ∀ n, (∀ i j, i < n → j < n → i ≠ j → dst i ≠ dst j) → ∀ i, i < n → dst i < N → tm (putsF a0 dst val n) (dst i) = val i
  | 0, _, i, hi, _ => by omega
  | n + 1, hne, i, hi, hd => by
    rw [putsF]
    by_cases e : i = n
    · subst e; rw [tmN_put (putsF_size hs i) hd, if_pos rfl]
    · have h1 := putsF_in (a0 := a0) (val := val) hs n (fun i j h1 h2 => hne i j (by omega) (by omega)) i (by omega) hd
      by_cases hn : dst n < N
      · rw [tmN_put (putsF_size hs n) hn, if_neg (hne i n (by omega) (by omega) e)]; exact h1
      · have : ∀ v, tm ((putsF a0 dst val n).put (some (dst n)) v) (dst i) = tm (putsF a0 dst val n) (dst i) := by
          intro v
          unfold tm Act.put
          simp [Array.getD_eq_getD_getElem?, Array.getElem?_setIfInBounds_ne (hne n i (by omega) (by omega) (Ne.symm e))]
        rw [this]; exact h1
theorem putsF_out {a0 : Act} {dst : Nat → Nat} {val : Nat → Value} : ∀ n j, (∀ i, i < n → dst i ≠ j) → tm (putsF a0 dst val n) j = tm a0 j
  | 0, _, _ => rfl
  | n + 1, j, h => by
    rw [putsF]
    have : tm ((putsF a0 dst val n).put (some (dst n)) (val n)) j = tm (putsF a0 dst val n) j := by
      unfold tm Act.put
      simp [Array.getD_eq_getD_getElem?, Array.getElem?_setIfInBounds_ne (h n (by omega))]
    rw [this]
    exact putsF_out n j (fun i hi => h i (by omega))

theorem rj_puts {a0 a : Act} {N n : Nat} {dst : Nat → Nat} {val : Nat → Value} {l : Array Bool} (h : RJ a0 N n dst val l a) (h0 : a0.tmps.size = N) (hl : ∀ j, j < n → l.getD j false = true) (hne : ∀ i j, i < n → j < n → i ≠ j → dst i ≠ dst j) : a = putsF a0 dst val n :=
  rj_end h hl (putsF_size h0 n) (putsF_defers n) (putsF_in h0 n hne) (putsF_out n)

section
variable {ops : Array Oper} {Q : Exit → Act → World → Prop} {a0 a : Act} {N n i : Nat} {dst : Nat → Nat} {val : Nat → Value} {l : Array Bool} {w w' : World} {WS : Array Bool → World → Prop} {o : Oper}

theorem rg_value (hJ : RJ a0 N n dst val l a) (ho : ops[i]? = some o) (hg : o.guard = none) (hdst : o.dst = some (dst i)) (hi : i < n) (hd : dst i < N) (hne : ∀ j, j < n → j ≠ i → dst j ≠ dst i) (hrun : (execOp a.eval o).run Try.prog w = .ok (.value (val i)) w') (hW : WS (l.setIfInBounds i true) w') :
    wpOp Try.prog ops Q i (fun a' w'' => RJ a0 N n dst val (l.setIfInBounds i true) a' ∧ WS (l.setIfInBounds i true) w'') a w := by
  refine wpOp_value ho hg hrun ?_
  rw [hdst]
  exact ⟨rj_put hJ hi hd hne, hW⟩

theorem rg_skip (hJ : RJ a0 N n dst val l a) (ho : ops[i]? = some o) (hg : o.guard = none) (hdst : o.dst = none) (hi : i < n) (hd : N ≤ dst i) (hrun : (execOp a.eval o).run Try.prog w = .ok .skip w') (hW : WS (l.setIfInBounds i true) w') :
    wpOp Try.prog ops Q i (fun a' w'' => RJ a0 N n dst val (l.setIfInBounds i true) a' ∧ WS (l.setIfInBounds i true) w'') a w :=
  wpOp_skip ho hg hdst hrun ⟨rj_none hJ hi hd, hW⟩
end

/-! ### The region that appends a function to the program's -/
def dR (i : Nat) : Nat := if i < 15 then 79 + i else 1000
def vR (P0 C0 Bd N12 : Nat) (args len : Int) (vl vout v13 : Value) : Nat → Value
  | 0 => .pointer (some ⟨P0, 2, none⟩)
  | 1 => .slice none 0 0
  | 2 => .pointer (some ⟨C0, 1, none⟩)
  | 3 => .int .i64 args
  | 4 => .pointer (some ⟨C0, 2, none⟩)
  | 5 => vl
  | 6 => .int .i64 len
  | 7 => .pointer (some ⟨Bd, 0, none⟩)
  | 8 => .pointer (some ⟨Bd, 0, none⟩)
  | 9 => .pointer (some ⟨Bd, 6, none⟩)
  | 10 => vout
  | 11 => .agg #[.int .i64 args, .int .i64 len, .int .i64 1, vout]
  | 12 => .slice (some ⟨N12, 0, none⟩) 1 1
  | 13 => v13
  | 14 => .pointer (some ⟨P0, 2, none⟩)
  | _ => undef

/-- The worlds on the way. -/
structure WS25 (W W1 w11 w15 : World) (l : Array Bool) (w : World) : Prop where
  st : (l.getD 12 false = false ∧ l.getD 13 false = false ∧ l.getD 15 false = false ∧ w = W) ∨ (l.getD 12 false = true ∧ l.getD 13 false = false ∧ l.getD 15 false = false ∧ w = W1) ∨ (l.getD 13 false = true ∧ l.getD 15 false = false ∧ w = w11) ∨ (l.getD 13 false = true ∧ l.getD 15 false = true ∧ w = w15)
  sz : l.size = 16
  c1 : l.getD 13 false = true → l.getD 1 false = true ∧ l.getD 12 false = true

theorem ws_same {W W1 w11 w15 w : World} {l : Array Bool} {i : Nat} (h : WS25 W W1 w11 w15 l w) (h12 : i ≠ 12) (h13 : i ≠ 13) (h15 : i ≠ 15) : WS25 W W1 w11 w15 (l.setIfInBounds i true) w := by
  have hgs : ∀ j, j ≠ i → (l.setIfInBounds i true).getD j false = l.getD j false := fun j hj => by
    simp [Array.getD_eq_getD_getElem?, Array.getElem?_setIfInBounds_ne (Ne.symm hj)]
  have hup : ∀ j, l.getD j false = true → (l.setIfInBounds i true).getD j false = true := fun j hj => by
    by_cases e : j = i
    · subst e
      have : j < l.size := by
        rcases Nat.lt_or_ge j l.size with h' | h'
        · exact h'
        · simp [Array.getElem?_eq_none h'] at hj
      simp [this]
    · rw [hgs j e]; exact hj
  refine ⟨?_, by simp [h.sz], fun h1 => ?_⟩
  · rw [hgs 12 (Ne.symm h12), hgs 13 (Ne.symm h13), hgs 15 (Ne.symm h15)]; exact h.st
  · rw [hgs 13 (Ne.symm h13)] at h1
    exact ⟨hup _ (h.c1 h1).1, hup _ (h.c1 h1).2⟩

theorem ws_12 {W W1 w11 w15 w : World} {l : Array Bool} (h : WS25 W W1 w11 w15 l w) (hun : l.getD 12 false = false) : w = W ∧ WS25 W W1 w11 w15 (l.setIfInBounds 12 true) W1 := by
  have hgs : ∀ j, (l.setIfInBounds 12 true).getD j false = if j = 12 then true else l.getD j false := fun j => getD_set l 12 j (by rw [h.sz]; decide)
  rcases h.st with ⟨_, h2, h3, e⟩ | ⟨h1, _⟩ | ⟨h1, _⟩ | ⟨h1, _⟩
  · refine ⟨e, Or.inr (Or.inl ⟨by rw [hgs]; rfl, by rw [hgs]; exact h2, by rw [hgs]; exact h3, rfl⟩), by simp [h.sz], fun h4 => ?_⟩
    rw [hgs] at h4
    rw [if_neg (by decide), h2] at h4; cases h4
  · rw [h1] at hun; cases hun
  · rw [(h.c1 h1).2] at hun; cases hun
  · rw [(h.c1 h1).2] at hun; cases hun

theorem ws_13 {W W1 w11 w15 w : World} {l : Array Bool} (h : WS25 W W1 w11 w15 l w) (hun : l.getD 13 false = false) (h12 : l.getD 12 false = true) (h1 : l.getD 1 false = true) : w = W1 ∧ WS25 W W1 w11 w15 (l.setIfInBounds 13 true) w11 := by
  have hgs : ∀ j, (l.setIfInBounds 13 true).getD j false = if j = 13 then true else l.getD j false := fun j => getD_set l 13 j (by rw [h.sz]; decide)
  rcases h.st with ⟨h2, _⟩ | ⟨_, _, h3, e⟩ | ⟨h2, _⟩ | ⟨h2, _⟩
  · rw [h2] at h12; cases h12
  · refine ⟨e, Or.inr (Or.inr (Or.inl ⟨by rw [hgs]; rfl, by rw [hgs]; exact h3, rfl⟩)), by simp [h.sz], fun _ => ⟨by rw [hgs]; exact h1, by rw [hgs]; exact h12⟩⟩
  · rw [h2] at hun; cases hun
  · rw [h2] at hun; cases hun

theorem ws_15 {W W1 w11 w15 w : World} {l : Array Bool} (h : WS25 W W1 w11 w15 l w) (hun : l.getD 15 false = false) (h13 : l.getD 13 false = true) : w = w11 ∧ WS25 W W1 w11 w15 (l.setIfInBounds 15 true) w15 := by
  have hgs : ∀ j, (l.setIfInBounds 15 true).getD j false = if j = 15 then true else l.getD j false := fun j => getD_set l 15 j (by rw [h.sz]; decide)
  have hc := h.c1 h13
  rcases h.st with ⟨_, h2, _⟩ | ⟨_, h2, _⟩ | ⟨_, _, e⟩ | ⟨_, h2, _⟩
  · rw [h2] at h13; cases h13
  · rw [h2] at h13; cases h13
  · exact ⟨e, Or.inr (Or.inr (Or.inr ⟨by rw [hgs]; exact h13, by rw [hgs]; rfl, rfl⟩)), by simp [h.sz], fun _ => ⟨by rw [hgs]; exact hc.1, by rw [hgs]; exact hc.2⟩⟩
  · rw [h2] at hun; cases hun

theorem ws_end {W W1 w11 w15 w : World} {l : Array Bool} (h : WS25 W W1 w11 w15 l w) (h15 : l.getD 15 false = true) : w = w15 := by
  rcases h.st with ⟨_, _, h2, _⟩ | ⟨_, _, h2, _⟩ | ⟨_, h2, _⟩ | ⟨_, _, e⟩
  · rw [h2] at h15; cases h15
  · rw [h2] at h15; cases h15
  · rw [h2] at h15; cases h15
  · exact e

/-- Where op 1 has not come up, nothing is written yet. -/
theorem ws_low {W W1 w11 w15 w : World} {l : Array Bool} (h : WS25 W W1 w11 w15 l w) (hun : l.getD 1 false = false) : w = W ∨ w = W1 := by
  rcases h.st with ⟨_, _, _, e⟩ | ⟨_, _, _, e⟩ | ⟨h2, _⟩ | ⟨h2, _⟩
  · exact Or.inl e
  · exact Or.inr e
  · rw [(h.c1 h2).1] at hun; cases hun
  · rw [(h.c1 h2).1] at hun; cases hun
theorem ws_any {W W1 w11 w15 w : World} {l : Array Bool} (h : WS25 W W1 w11 w15 l w) : w = W ∨ w = W1 ∨ w = w11 ∨ w = w15 := by
  rcases h.st with ⟨_, _, _, e⟩ | ⟨_, _, _, e⟩ | ⟨_, _, e⟩ | ⟨_, _, e⟩
  · exact Or.inl e
  · exact Or.inr (Or.inl e)
  · exact Or.inr (Or.inr (Or.inl e))
  · exact Or.inr (Or.inr (Or.inr e))
theorem ws_start (W W1 w11 w15 : World) : WS25 W W1 w11 w15 (Array.replicate 16 false) W :=
  ⟨Or.inl ⟨getD_replicate_false _ _, getD_replicate_false _ _, getD_replicate_false _ _, rfl⟩, by simp, fun h => by rw [getD_replicate_false] at h; cases h⟩

theorem dR_ge (i : Nat) : 79 ≤ dR i := by unfold dR; split <;> omega
theorem dR_ne : ∀ i, i < 16 → ∀ j, j < 16 → j ≠ i → dR j ≠ dR i := by decide

theorem region_rj {id : Nat} {ops : Array Oper} {Q : Exit → Act → World → Prop} {a0 : Act} {w : World} {N n : Nat} {dst : Nat → Nat} {val : Nat → Value} {WS : Array Bool → World → Prop}
    (hm : Try.prog.follows .mixedOrders = true) (h0 : a0.tmps.size = N) (hn : ops.size = n) (hdag : ∀ (j : Nat) (o : Oper), ops[j]? = some o → ∀ e ∈ o.after, e.on < j) (hW : WS (Array.replicate n false) w.drew)
    (step : ∀ l a w i, RJ a0 N n dst val l a → WS l w → i ∈ Region.ready .any ops l → wpOp Try.prog ops Q i (fun a' w' => RJ a0 N n dst val (l.setIfInBounds i true) a' ∧ WS (l.setIfInBounds i true) w') a w)
    (fin : ∀ l a w, RJ a0 N n dst val l a → WS l w → (∀ j, j < n → l.getD j false = true) → Q .normal a w) : (Code.region id ops true).wp Try.prog Q a0 w := by
  subst hn
  refine wp_region_any hm ?_
  refine wpAny_inv (fun l a w => RJ a0 N ops.size dst val l a ∧ WS l w) (fun l a w i hJ hi => step l a w i hJ.1 hJ.2 hi) (fun l a w hJ hr => fin l a w hJ.1 hJ.2 (all_listed hdag hr hJ.1.sz)) _ _ _ _ ⟨rj_start h0, hW⟩ (by simp)

theorem un_lt16 (i : Nat) (h : i < 16) : i = 0 ∨ i = 1 ∨ i = 2 ∨ i = 3 ∨ i = 4 ∨ i = 5 ∨ i = 6 ∨ i = 7 ∨ i = 8 ∨ i = 9 ∨ i = 10 ∨ i = 11 ∨ i = 12 ∨ i = 13 ∨ i = 14 ∨ i = 15 := by omega

end Go.Proofs.Ytecaolkbllbokaa.TG
