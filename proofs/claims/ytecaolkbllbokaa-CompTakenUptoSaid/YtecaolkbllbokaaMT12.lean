import Derived.Test.YtecaolkbllbokaaMT11
import Derived.Test.YtecaolkbllbokaaMT06
import Derived.Test.YtecaolkbllbokaaMT09
import Derived.Test.YtecaolkbllbokaaMT04
import Derived.Test.YtecaolkbllbokaaMT07
set_option linter.unusedSimpArgs false
set_option linter.unusedVariables false
set_option maxRecDepth 100000
set_option maxHeartbeats 16000000
namespace Go.Proofs.Ytecaolkbllbokaa.TG
open Go.RowKit Go.Great
theorem Ybq (c : Cx) (ok : Zhj c) (g : Nat) (hI : Yrd c g) (s : Stt) (at_ : Nat) (w : World) (k n kc : Int) (hp : c.ps[at_]? = some (k, n, kc)) (hw : Ypm c.ts.length s.L.length k n kc)
 (ho : if k = 6 then okP c.ts.length c.ps g s.L.length (at_ + 1) /\ okP c.ts.length c.ps g (s.L.length + 1) (Xc c.ps g (at_ + 1)) else Znn (okP c.ts.length c.ps g s.L.length) (Xc c.ps g) kc.toNat (at_ + 1))
 (hk : k = 5 \/ k = 6 \/ (k = 7 \/ k = 8) \/ k = 23 \/ k = 24) (h : AtS c w s) (hb : s.out.length + 8 * (c.ps.length - at_) + 8 <= 1000000000000) :
 Calls Try.prog 43 #[.pointer (some ⟨c.Bd, 0, none⟩), .int .i64 at_] w (WP c w s (Yx c.ts c.ps (g + 1) s.abs at_)) := by
 have hja : at_ < c.ps.length := (List.getElem?_eq_some_iff.1 hp).1
 obtain ⟨bp, op, hpp⟩ := Zmy h hja
 have hji : (at_ : Int) < (c.ps.length : Int) := by omega
 have hnp := ok.np
 obtain ⟨c5, p0, p1, p2, lb, ld⟩ := Zde h hpp hp
 have ga := Zlz ok h (.cells #[.int .i64 k, .int .i64 n, .int .i64 kc] 108)
 have GA := Hq ga
 rcases hk with h5 | h6 | h7 | h23 | h24
 · subst h5
   have EQ := Hq ((Zfd (ts := c.ts) (g := g) (s := s.abs) hp).trans (if_pos rfl))
   have hc := hw.i rfl
   rw [if_neg (by decide)] at ho
   rcases hc with hc | hc
   · subst hc
     have BR := Hq (Ydv c ok g hI s at_ _ n hp ho.1 ho.2.1 ga.at_ hb)
     clear ga ho hw hI h hp
     go_enter Try.func43, Try.ntmps43
     go_wp2_with (go_at_call 75; refine BR.out.mono ?_; clear BR; intro e w1 hq; obtain ⟨rfl, s1, g1, a1⟩ := hq; have G1 := Hq g1; have A1 := Hq a1; clear g1 a1)
     go_ret
     rw [EQ.out]
     exact ⟨rfl, s1, Zo GA.out G1.out, A1.out⟩
   · subst hc
     have BR := Hq (Zvt c ok g hI s at_ _ n hp ho.1 ho.2.1 ho.2.2.1 ga.at_ hb)
     clear ga ho hw hI h hp
     go_enter Try.func43, Try.ntmps43
     go_wp2_with (go_at_call 75; refine BR.out.mono ?_; clear BR; intro e w1 hq; obtain ⟨rfl, s1, g1, a1⟩ := hq; have G1 := Hq g1; have A1 := Hq a1; clear g1 a1)
     go_ret
     rw [EQ.out]
     exact ⟨rfl, s1, Zo GA.out G1.out, A1.out⟩
 · subst h6
   have EQ := Hq ((Zfd (ts := c.ts) (g := g) (s := s.abs) hp).trans ((if_neg (by decide)).trans (if_pos rfl)))
   rw [if_pos rfl] at ho
   have BR := Hq (Yew c ok g hI s at_ _ hja hw.m1 ho.1 ho.2 ga.at_ hb)
   clear ga ho hw hI h hp
   go_enter Try.func43, Try.ntmps43
   go_wp2_with (go_at_call 76; refine BR.out.mono ?_; clear BR; intro e w1 hq; obtain ⟨rfl, s1, g1, a1⟩ := hq; have G1 := Hq g1; have A1 := Hq a1; clear g1 a1)
   go_ret
   rw [EQ.out]
   exact ⟨rfl, s1, Zo GA.out G1.out, A1.out⟩
 · have hl := hw.l h7
   have BR := Hq (Yho c ok s at_ _ k n kc h7 hp hl.2.1 hl.2.2 hw.m1 ga.at_ hb)
   clear ga ho hw hI h hl
   rcases h7 with h7 | h7
   · subst h7
     have EQ := Hq ((Zfd (ts := c.ts) (g := g) (s := s.abs) hp).trans ((if_neg (by decide)).trans ((if_neg (by decide)).trans (if_pos (by decide)))))
     clear hp
     go_enter Try.func43, Try.ntmps43
     go_wp2_with (go_at_call 77; refine BR.out.mono ?_; clear BR; intro e w1 hq; obtain ⟨rfl, s1, g1, a1⟩ := hq; have G1 := Hq g1; have A1 := Hq a1; clear g1 a1)
     go_ret
     rw [EQ.out]
     exact ⟨rfl, s1, Zo GA.out G1.out, A1.out⟩
   · subst h7
     have EQ := Hq ((Zfd (ts := c.ts) (g := g) (s := s.abs) hp).trans ((if_neg (by decide)).trans ((if_neg (by decide)).trans (if_pos (by decide)))))
     clear hp
     go_enter Try.func43, Try.ntmps43
     go_wp2_with (go_at_call 77; refine BR.out.mono ?_; clear BR; intro e w1 hq; obtain ⟨rfl, s1, g1, a1⟩ := hq; have G1 := Hq g1; have A1 := Hq a1; clear g1 a1)
     go_ret
     rw [EQ.out]
     exact ⟨rfl, s1, Zo GA.out G1.out, A1.out⟩
 · subst h23
   have EQ := Hq ((Zfd (ts := c.ts) (g := g) (s := s.abs) hp).trans ((if_neg (by decide)).trans ((if_neg (by decide)).trans ((if_neg (by decide)).trans (if_pos rfl)))))
   have hc := hw.w (by decide)
   subst hc
   rw [if_neg (by decide)] at ho
   have BR := Hq (Zqc c ok g hI s at_ _ 15 0 hja ho.1 ho.2.1 ga.at_ hb)
   clear ga ho hw hI h hp
   go_enter Try.func43, Try.ntmps43
   go_wp2_with (go_at_call 78; refine BR.out.mono ?_; clear BR; intro e w1 hq; obtain ⟨rfl, s1, g1, a1⟩ := hq; have G1 := Hq g1; have A1 := Hq a1; clear g1 a1)
   go_ret
   rw [EQ.out]
   exact ⟨rfl, s1, Zo GA.out G1.out, A1.out⟩
 · subst h24
   have EQ := Hq ((Zfd (ts := c.ts) (g := g) (s := s.abs) hp).trans ((if_neg (by decide)).trans ((if_neg (by decide)).trans ((if_neg (by decide)).trans ((if_neg (by decide)).trans (if_pos rfl))))))
   have hc := hw.w (by decide)
   subst hc
   rw [if_neg (by decide)] at ho
   have BR := Hq (Zqc c ok g hI s at_ _ 16 1 hja ho.1 ho.2.1 ga.at_ hb)
   clear ga ho hw hI h hp
   go_enter Try.func43, Try.ntmps43
   go_wp2_with (go_at_call 78; refine BR.out.mono ?_; clear BR; intro e w1 hq; obtain ⟨rfl, s1, g1, a1⟩ := hq; have G1 := Hq g1; have A1 := Hq a1; clear g1 a1)
   go_ret
   rw [EQ.out]
   exact ⟨rfl, s1, Zo GA.out G1.out, A1.out⟩
theorem Ybp (c : Cx) (ok : Zhj c) (g : Nat) (hI : Yrd c g) (s : Stt) (at_ : Nat) (w : World) (k n kc : Int) (hp : c.ps[at_]? = some (k, n, kc)) (hw : Ypm c.ts.length s.L.length k n kc)
 (ho : Znn (okP c.ts.length c.ps g s.L.length) (Xc c.ps g) kc.toNat (at_ + 1)) (hk : k ≠ 5 /\ k ≠ 6 /\ ¬ (k = 7 \/ k = 8) /\ k ≠ 23 /\ k ≠ 24) (h : AtS c w s) (hb : s.out.length + 8 * (c.ps.length - at_) + 8 <= 1000000000000) :
 Calls Try.prog 43 #[.pointer (some ⟨c.Bd, 0, none⟩), .int .i64 at_] w (WP c w s (Yx c.ts c.ps (g + 1) s.abs at_)) := by
 have hja : at_ < c.ps.length := (List.getElem?_eq_some_iff.1 hp).1
 obtain ⟨bp, op, hpp⟩ := Zmy h hja
 have hji : (at_ : Int) < (c.ps.length : Int) := by omega
 have hnp := ok.np
 obtain ⟨c5, p0, p1, p2, lb, ld⟩ := Zde h hpp hp
 have K0 := Hq (Zxo (k := k) (n := n) (kc := kc) ok h hja hb ho)
 have HK := Hq hk
 have HW := Hq hw
 have HI := Hq hI
 have HP := Hq hp
 have hkc : kc <= 17592186044415 := by
  have hg := Znl (Zjv c.ts c.ps g) kc.toNat (a := at_ + 1) h.inv hja (by rw [abs_V]; exact ho)
  have := hg.2.1; have := hg.2.2.1; omega
 have n5 : (k == 5) = false := by have := hk.1; simpa using this
 have n6 : (k == 6) = false := by have := hk.2.1; simpa using this
 have n7 : (k == 7) = false := by have := hk.2.2.1; simp; omega
 have n8 : (k == 8) = false := by have := hk.2.2.1; simp; omega
 have n23 : (k == 23) = false := by have := hk.2.2.2.1; simpa using this
 have n24 : (k == 24) = false := by have := hk.2.2.2.2; simpa using this
 clear hI ho hw hp h hb hk
 go_enter Try.func43, Try.ntmps43
 go_wp2
 clear p0 p1 p2 c5 lb ld
 go_loopw [6, 49] (fun v i wr => ∃ (q aq : Nat) (sr : Stt), i = .int .i64 q /\ v = .int .i64 aq /\ Zyz c g w s at_ k n kc q aq wr sr) (fun _ i _ => kc.toNat - (intOf i).toNat)
 case atStart => exact ⟨0, at_ + 1, s, rfl, by go_num, K0.out⟩
 case round =>
  obtain ⟨q, aq, sr, rfl, rfl, hL⟩ := hrel
  have LL := Hq hL
  have hqk := hL.hq
  have x0 := Zof hL.copy
  have x2 := Zqd hL.copy
  have c9 : wr.cell? ⟨c.Bd, 9, none⟩ = some (.map (some c.M)) := Yo hL.go.at_.code 9
  have hBr := Zfs hL.go.at_
  have hBB := Zod hL.copy
  clear hL
  by_cases hlt : (q : Int) < kc
  · have I1 := Hq (Xy ok HI.out (Ync LL.out hlt) LL.out.go.at_ (Zih LL.out.bud))
    clear c9 x0
    go_wp2_with (go_at_call 43; refine I1.out.mono ?_; clear I1; intro e w3 hpost; obtain ⟨s3, p3, rfl, g3⟩ := hpost; have G3 := Hq g3; clear g3)
    go_roundw
    case rel => exact ⟨q + 1, p3, s3, by go_num, rfl, Ycz LL.out hlt G3.out⟩
    case measure => simp [intOf]; omega
  · by_cases k1 : k = 1
    · have hlk := Yaj LL.out.go.at_.ki (k := k) (by subst k1; decide)
      have HF := Hq (show Zwh c.ts k n = [] by subst k1; rfl)
      clear k1
      go_wp2
      go_quiet (fail)
      go_wp2
      go_ret
      exact Zcs LL.out (by omega) HP.out HK.out (Zfo ok LL.out.go.at_ (Xh wr nq none)) (by rw [HF.out]; rfl)
    · obtain ⟨hin, hcls⟩ := Yva c.bc c.b6 c.ts k n ⟨HW.out.k1, HW.out.k2⟩ k1 HK.out
      obtain ⟨v, hsl, hlk⟩ := Yhh LL.out.go.at_.ki hin
      obtain ⟨hlen1, hlen2⟩ := Zxp LL.out
      obtain ⟨-, -, hcn, -, hbpr, -⟩ := Zde LL.out.go.at_ hpp HP.out
      have hl0 := LL.out.go.at_.code.lt
      have hle := LL.out.go.at_.code.le
      have hlb := LL.out.go.at_.ki.lb
      have hl6 := LL.out.go.at_.ki.l6
      have hbcr : c.bc < wr.heap.size := by omega
      have hcb := LL.out.go.at_.ki.cb
      have HM := Hq (fun m => (Zfo ok LL.out.go.at_ (Xh wr m none)))
      have hC : ∀ m, Yc (wr.drewN m) c.E c.Bd (.slice c.pt c.ts.length c.ct) c.vf c.nm c.ar c.vl (.slice (some ⟨bp, op, none⟩) c.ps.length c.cp) sr.vout sr.vorg sr.vlo (.map (some c.M)) sr.out sr.org := fun m => by have := (HM.out m).at_.code; rw [hpp] at this; exact this
      have hbpB : bp < c.Bd := by
       obtain ⟨b', o', e', hb', _⟩ := LL.out.go.at_.pa (by omega)
       rw [hpp] at e'; injection e' with e'; injection e' with e1 e2 _; omega
      rcases hcls with ⟨o, hk, hf⟩ | ⟨o, hk, hf⟩ | ⟨hk, hf⟩ | h14 | h15 | h21 | h22
      · rw [hk] at hsl
        obtain ⟨b, rfl, hb1, hb2, hc⟩ := hsl
        have PA := Hq (fun m => Ztr c.E c.Bd b _ c.vf c.nm c.ar c.vl _ sr.vout sr.vorg sr.vlo _ sr.out sr.org at_ o (wr.drewN m) (HM.out m).at_.code (by omega) (by omega) hc)
        have HF := Hq hf
        clear hf hk hC hcn hcb hlen1 hlen2 hc hin k1
        unfold fnV Zdo at hlk
        go_wp2
        go_quiet (fail)
        go_wp2_with (go_at_call 66; refine (PA.out _).mono ?_; intro e w3 hpost; obtain ⟨rfl, hsp, hrest⟩ := hpost; have S3 := Hq hsp; have R3 := Hq hrest; clear hsp hrest)
        go_ret
        obtain ⟨s3, g3, e3, -, -⟩ := Zkp ok (HM.out _).at_ S3.out R3.out
        exact Zcs LL.out (by omega) HP.out HK.out (Zo (HM.out _) g3) (by rw [HF.out, e3]; rfl)
      · rw [hk] at hsl
        obtain ⟨b3, b4, rfl, hb3, hb4, hc3, hc4⟩ := hsl
        have PA := Hq (fun m => Ztb c.E c.Bd b3 b4 c.bc bp op c.cp c.ps.length at_ _ c.vf c.nm c.ar c.vl sr.vout sr.vorg sr.vlo _ sr.out sr.org o n (wr.drewN m) (hC m) (by omega) (by omega) hja hnp hc3 hc4 hcb hcn hbpr hbcr (show b3 < wr.heap.size by omega) (show b4 < wr.heap.size by omega))
        have HF := Hq hf
        clear hf hk hC hcn hcb hlen1 hlen2 hc3 hc4 hin k1
        unfold fnV Zdo at hlk
        go_wp2
        go_quiet (fail)
        go_wp2_with (go_at_call 68; refine (PA.out _).mono ?_; intro e w3 hpost; obtain ⟨rfl, hsp, hrest⟩ := hpost; have S3 := Hq hsp; have R3 := Hq hrest; clear hsp hrest)
        go_ret
        have R4 := R3.out
        rw [<- hpp] at R4
        obtain ⟨s3, g3, e3, -, -⟩ := Zkp ok (HM.out _).at_ S3.out R4
        exact Zcs LL.out (by omega) HP.out HK.out (Zo (HM.out _) g3) (by rw [HF.out, e3]; rfl)
      · rw [hk] at hsl
        have hv : v = vnE c.bc := hsl
        subst hv
        have PA := Hq (fun m => Zne c.E c.Bd c.bc bp op c.cp c.ps.length at_ _ c.vf c.nm c.ar c.vl sr.vout sr.vorg sr.vlo _ sr.out sr.org n (wr.drewN m) (hC m) (by omega) (by omega) hja hnp hcb hcn hbpr hbcr)
        have HF := Hq hf
        clear hf hk hC hcn hcb hlen1 hlen2 hin k1
        unfold vnE fnV Zdo at hlk
        go_wp2
        go_quiet (fail)
        go_wp2_with (go_at_call 70; refine (PA.out _).mono ?_; intro e w3 hpost; obtain ⟨rfl, hsp, hrest⟩ := hpost; have S3 := Hq hsp; have R3 := Hq hrest; clear hsp hrest)
        go_ret
        have R4 := R3.out
        rw [<- hpp] at R4
        obtain ⟨s3, g3, e3, -, -⟩ := Zkp ok (HM.out _).at_ S3.out R4
        exact Zcs LL.out (by omega) HP.out HK.out (Zo (HM.out _) g3) (by rw [HF.out, e3]; rfl)
      · subst h14
        obtain ⟨nn, rfl⟩ : ∃ nn : Nat, n = nn := ⟨n.toNat, by have := HW.out.t (by decide); omega⟩
        have hnn : nn < c.ts.length := by have := HW.out.t (by decide); omega
        obtain ⟨b3, b4, rfl, hb3, hb4, hc3, hc4⟩ := (show SlB c.Bd c.E c.bc wr v (.wi 3 (vaE c.bc)) from hsl)
        have PA := Hq (fun m => Yrk c.E c.Bd b3 b4 c.bc bp op c.cp c.ps.length at_ c.B c.ct nn c.pt c.ts hnn ok.nts ok.nct ok.mct ok.wf c.vf c.nm c.ar c.vl sr.vout sr.vorg sr.vlo _ sr.out sr.org 3 (wr.drewN m) (hC m) (HM.out m).at_.tx (show c.B <= wr.heap.size by have := ok.lB; omega) (by omega) (by omega) hja hnp hc3 hc4 hcb hcn hb3 hb4 hlb hbpB)
        have HF := Hq (show Zwh c.ts 14 (nn : Int) = [(3, Zy c.ts nn)] from rfl)
        clear hC hcn hcb hlen1 hlen2 hc3 hc4 hin k1 hsl
        unfold fnV Zdo at hlk
        go_wp2
        go_quiet (fail)
        go_wp2_with (go_at_call 68; refine (PA.out _).mono ?_; intro e w3 hpost; obtain ⟨rfl, hsp, hrest⟩ := hpost; have S3 := Hq hsp; have R3 := Hq hrest; clear hsp hrest)
        go_ret
        have R4 := R3.out
        rw [<- hpp] at R4
        obtain ⟨s3, g3, e3, -, -⟩ := Zkp ok (HM.out _).at_ S3.out R4
        exact Zcs LL.out (by omega) HP.out HK.out (Zo (HM.out _) g3) (by rw [HF.out, e3]; rfl)
      · subst h15
        obtain ⟨nn, rfl⟩ : ∃ nn : Nat, n = nn := ⟨n.toNat, by have := HW.out.t (by decide); omega⟩
        have hnn : nn < c.ts.length := by have := HW.out.t (by decide); omega
        obtain ⟨⟨tn, d⟩, htn⟩ : ∃ x, c.ts[nn]? = some x := ⟨_, List.getElem?_eq_getElem hnn⟩
        obtain ⟨b3, b4, rfl, hb3, hb4, hc3, hc4⟩ := (show SlB c.Bd c.E c.bc wr v (.wi 3 (vlE c.bc)) from hsl)
        have PA := Hq (fun m => Ykp c.E c.Bd b3 b4 c.bc bp op c.cp c.ps.length at_ c.B c.ct nn c.pt c.ts tn d htn (by have := ok.nts; omega) c.vf c.nm c.ar c.vl sr.vout sr.vorg sr.vlo _ sr.out sr.org 3 (wr.drewN m) (hC m) (HM.out m).at_.tx (by omega) (by omega) hja hnp hc3 hc4 hcb hcn hbpr hbcr (show b3 < wr.heap.size by omega) (show b4 < wr.heap.size by omega))
        have HF := Hq (show Zwh c.ts 15 (nn : Int) = [(3, (d.length : Int))] by
         have e : Zwh c.ts 15 (nn : Int) = [(3, ((c.ts.getD nn (ByteArray.empty, [])).2.length : Int))] := rfl
         rw [e]; simp [List.getD, htn])
        clear hC hcn hcb hlen1 hlen2 hc3 hc4 hin k1 hsl htn
        unfold fnV Zdo at hlk
        go_wp2
        go_quiet (fail)
        go_wp2_with (go_at_call 68; refine (PA.out _).mono ?_; intro e w3 hpost; obtain ⟨rfl, hsp, hrest⟩ := hpost; have S3 := Hq hsp; have R3 := Hq hrest; clear hsp hrest)
        go_ret
        have R4 := R3.out
        rw [<- hpp] at R4
        obtain ⟨s3, g3, e3, -, -⟩ := Zkp ok (HM.out _).at_ S3.out R4
        exact Zcs LL.out (by omega) HP.out HK.out (Zo (HM.out _) g3) (by rw [HF.out, e3]; rfl)
      · subst h21
        have hv : v = vtE c.b6 := hsl
        subst hv
        have hc6 := LL.out.go.at_.ki.c6
        have PA := Hq (fun m => Ykw c.E c.Bd c.b6 c.bc bp op c.cp c.ps.length at_ _ c.vf c.nm c.ar c.vl sr.vout sr.vorg sr.vlo _ sr.out sr.org n (wr.drewN m) (hC m) (by omega) (by omega) hja hnp hc6 hl6 hcb hlb hcn hbpB)
        have HF := Hq (show Zwh c.ts 21 n = [(6, 0), (n, 0)] from rfl)
        clear hC hcn hcb hlen1 hlen2 hin k1 hsl hc6
        unfold vtE fnV Zdo at hlk
        go_wp2
        go_quiet (fail)
        go_wp2_with (go_at_call 73; refine (PA.out _).mono ?_; intro e w3 hpost; obtain ⟨⟨v3, rfl⟩, hsp, hrest⟩ := hpost; have S3 := Hq hsp; have R3 := Hq hrest; clear hsp hrest)
        go_ret
        have R4 := R3.out
        rw [<- hpp] at R4
        obtain ⟨s3, g3, e3⟩ := Yqs ok (HM.out _).at_ S3.out R4
        exact Zcs LL.out (by omega) HP.out HK.out (Zo (HM.out _) g3) (by rw [HF.out, e3])
      · subst h22
        have hv : v = voE := hsl
        subst hv
        have PA := Hq (fun m => Ysw c.E c.Bd _ c.vf c.nm c.ar c.vl _ sr.vout sr.vorg sr.vlo _ sr.out sr.org at_ (wr.drewN m) (HM.out m).at_.code (by omega) (by omega))
        have HF := Hq (show Zwh c.ts 22 n = [(3, 0), (31, 0)] from rfl)
        clear hC hcn hcb hlen1 hlen2 hin k1 hsl
        unfold voE fnV at hlk
        go_wp2
        go_quiet (fail)
        go_wp2_with (go_at_call 74; refine (PA.out _).mono ?_; intro e w3 hpost; obtain ⟨⟨v3, rfl⟩, hsp, hrest⟩ := hpost; have S3 := Hq hsp; have R3 := Hq hrest; clear hsp hrest)
        go_ret
        obtain ⟨s3, g3, e3⟩ := Yqs ok (HM.out _).at_ S3.out R3.out
        exact Zcs LL.out (by omega) HP.out HK.out (Zo (HM.out _) g3) (by rw [HF.out, e3])
theorem Zmm (c : Cx) (ok : Zhj c) : ∀ g, Yrd c g
 | 0 => fun s at_ w h _ _ => h.elim
 | g + 1 => fun s at_ w ho h hb => by
   obtain ⟨k, n, kc, hp, hw, ho'⟩ := ho
   by_cases hk : k = 5 \/ k = 6 \/ (k = 7 \/ k = 8) \/ k = 23 \/ k = 24
   · exact Ybq c ok g (Zmm c ok g) s at_ w k n kc hp hw ho' hk h hb
   · rw [if_neg (by omega)] at ho'
     exact Ybp c ok g (Zmm c ok g) s at_ w k n kc hp hw ho' ⟨by omega, by omega, by omega, by omega, by omega⟩ h hb
theorem Yeb {nl nt : Nat} {fs : List Int} {m : Nat} {k n kc what : Int} (h : Xu nl nt fs m k n kc what = 0) (hm : m <= 1000) : Ypm nt m k n kc := by
 unfold Xu at h
 by_cases h1 : k < 1 \/ 27 <= k
 · rw [if_pos h1] at h; omega
 rw [if_neg h1] at h
 by_cases h2 : Jz k ≠ what /\ ¬ (Jz k = 0 /\ what = 1)
 · rw [if_pos h2] at h; omega
 rw [if_neg h2] at h
 by_cases h3 : Zpl nl nt fs.length m k n ≠ 0
 · rw [if_pos h3] at h; exact absurd h h3
 rw [if_neg h3] at h
 have h4 : Zpl nl nt fs.length m k n = 0 := by omega
 have key : ∀ {a b e : Int}, e ≠ 0 -> Jb a b e = 0 -> 0 <= a /\ a < b := by
  intro a b e he hab
  unfold Jb at hab
  split at hab <;> omega
 refine ⟨hm, by omega, by omega, ?_, ?_, ?_, ?_⟩
 · intro e; subst e
   unfold Zex at h
   simp at h
   omega
 · intro e
   unfold Zex at h
   rw [if_neg (by omega), if_neg (by omega), if_neg (by omega), if_neg (by omega), if_neg (by omega), if_pos (by omega)] at h
   split at h <;> omega
 · intro e
   unfold Zex at h
   rw [if_neg (by omega), if_neg (by omega), if_neg (by omega), if_neg (by omega), if_neg (by omega), if_neg (by omega)] at h
   unfold Zpl at h4
   rw [if_neg (by omega), if_neg (by omega), if_neg (by omega), if_neg (by omega), if_neg (by omega), if_pos (by omega)] at h4
   have := key (by decide) h4
   refine ⟨?_, this.1, this.2⟩
   split at h <;> omega
 · intro e
   unfold Zpl at h4
   rw [if_neg (by omega), if_neg (by omega), if_pos (by omega)] at h4
   exact key (by decide) h4
theorem Yhd {nl nt : Nat} {fs : List Int} {ps : List (Int × Int × Int)} {g m : Nat} {k : Int} (hk : k ≠ 6)
 (IH : ∀ what s, (Yp nl nt fs ps g what s).2.1 = 0 -> s.l = (m : Int) -> okP nt ps g m s.a /\ (Yp nl nt fs ps g what s).2.2.a = Xc ps g s.a /\ (Yp nl nt fs ps g what s).2.2.l = s.l) : ∀ (r i : Nat) (s : St) (ws : List Int),
 (Zbd (Yp nl nt fs ps g) k r i s ws).2.1 = 0 -> s.l = (m : Int) -> Znn (okP nt ps g m) (Xc ps g) r s.a /\ (Zbd (Yp nl nt fs ps g) k r i s ws).2.2.a = Zas (Xc ps g) r s.a /\ (Zbd (Yp nl nt fs ps g) k r i s ws).2.2.l = s.l
 | 0, i, s, ws, _, _ => ⟨trivial, rfl, rfl⟩
 | r + 1, i, s, ws, h, hl => by
   have e1 : Zv k i s = s := by unfold Zv; rw [if_neg (by omega)]
   have e2 : ∀ s', Yd k i s' = s' := fun s' => by unfold Yd; rw [if_neg (by omega)]
   by_cases hb : (Yp nl nt fs ps g (Zdr k i) (Zv k i s)).2.1 = 0
   · rw [Zdg _ _ _ _ _ _ hb] at h ⊢
     rw [e1] at hb
     obtain ⟨o1, o2, o3⟩ := IH _ _ hb hl
     rw [e1, e2] at h ⊢
     obtain ⟨p1, p2, p3⟩ := Yhd hk IH r (i + 1) _ _ h (by rw [o3]; exact hl)
     rw [o2] at p1
     refine ⟨⟨o1, p1⟩, ?_, by rw [p3, o3]⟩
     rw [p2, o2]; rfl
   · rw [Zew _ _ _ _ _ _ hb] at h
     exact absurd h hb
theorem Zwx (nl nt : Nat) (fs : List Int) (ps : List (Int × Int × Int)) : ∀ (g : Nat) (what : Int) (s : St) (m : Nat), (Yp nl nt fs ps g what s).2.1 = 0 -> s.l = (m : Int) -> m + g <= 1000 ->
 okP nt ps g m s.a /\ (Yp nl nt fs ps g what s).2.2.a = Xc ps g s.a /\ (Yp nl nt fs ps g what s).2.2.l = s.l
 | 0, what, s, m, h, hl, hg => by
   exfalso
   unfold Yp at h
   cases hp : ps[s.a]? with
   | none => rw [hp] at h; simp at h
   | some x =>
     obtain ⟨k, n, kc⟩ := x
     rw [hp] at h
     simp only at h
     split at h
     · next h1 => exact h1 h
     · simp at h
 | g + 1, what, s, m, h, hl, hg => by
   have IH := fun m' (hm' : m' + g <= 1000) what' s' h' hl' => Zwx nl nt fs ps g what' s' m' h' hl' hm'
   cases hp : ps[s.a]? with
   | none => unfold Yp at h; rw [hp] at h; simp at h
   | some x =>
     obtain ⟨k, n, kc⟩ := x
     by_cases he : Xu nl nt fs s.l k n kc what = 0
     · have hpk := Zhq nl nt fs ps g what s k n kc hp he _ rfl
       rw [hpk] at h ⊢
       have hw := Yeb (by rw [<- hl]; exact he) (by omega : m <= 1000)
       have eS : Xc ps (g + 1) s.a = Zas (Xc ps g) kc.toNat (s.a + 1) := by rw [Xc, hp]
       by_cases hr : (Zbd (Yp nl nt fs ps g) k kc.toNat 0 ⟨s.a + 1, s.l, s.m⟩ []).2.1 = 0
       · rw [if_neg (by omega)] at h ⊢
         rw [eS]
         by_cases h6 : k = 6
         · subst h6
           have hk2 := hw.w (Or.inl rfl)
           subst hk2
           have e0 : (2 : Int).toNat = 1 + 1 := rfl
           rw [e0] at hr ⊢
           by_cases hb : (Yp nl nt fs ps g (Zdr 6 (0 : Nat)) (Zv 6 0 ⟨s.a + 1, s.l, s.m⟩)).2.1 = 0
           · rw [Zdg _ _ _ _ _ _ hb] at hr ⊢
             have i0 : Zv 6 0 ⟨s.a + 1, s.l, s.m⟩ = ⟨s.a + 1, s.l, s.m⟩ := rfl
             have o0 : ∀ s', Yd 6 0 s' = s' := fun _ => rfl
             rw [i0] at hb
             obtain ⟨q1, q2, q3⟩ := IH m (by omega) _ _ hb hl
             rw [i0, o0] at hr ⊢
             generalize hs1 : (Yp nl nt fs ps g (Zdr 6 (0 : Nat)) ⟨s.a + 1, s.l, s.m⟩).2.2 = s1 at *
             have i1 : Zv 6 (0 + 1) s1 = ⟨s1.a, s1.l + 1, s1.m⟩ := rfl
             by_cases hb2 : (Yp nl nt fs ps g (Zdr 6 ((0 + 1 : Nat) : Int)) (Zv 6 (0 + 1) s1)).2.1 = 0
             · rw [Zdg _ _ _ _ _ _ hb2] at hr ⊢
               rw [i1] at hb2 hr ⊢
               have hl1 : s1.l + 1 = ((m + 1 : Nat) : Int) := by rw [q3]; simp only; omega
               obtain ⟨r1, r2, r3⟩ := IH (m + 1) (by omega) _ _ hb2 hl1
               rw [Zhu]
               simp only at q2 q3 r1 r2 r3
               refine ⟨⟨6, n, 2, hp, hw, ?_⟩, ?_, ?_⟩
               · rw [if_pos rfl]
                 rw [q2] at r1
                 exact ⟨q1, r1⟩
               · refine Eq.trans (b := (Yp nl nt fs ps g (Zdr 6 ((0 + 1 : Nat) : Int)) ⟨s1.a, s1.l + 1, s1.m⟩).2.2.a) rfl ?_
                 rw [r2, q2]; rfl
               · refine Eq.trans (b := (Yp nl nt fs ps g (Zdr 6 ((0 + 1 : Nat) : Int)) ⟨s1.a, s1.l + 1, s1.m⟩).2.2.l - 1) rfl ?_
                 rw [r3, q3]; omega
             · rw [Zew _ _ _ _ _ _ hb2] at hr
               exact absurd hr hb2
           · rw [Zew _ _ _ _ _ _ hb] at hr
             exact absurd hr hb
         · obtain ⟨p1, p2, p3⟩ := Yhd h6 (IH m (by omega)) kc.toNat 0 ⟨s.a + 1, s.l, s.m⟩ [] hr hl
           exact ⟨⟨k, n, kc, hp, hw, by rw [if_neg h6]; exact p1⟩, p2, p3⟩
       · rw [if_pos hr] at h
         exact absurd h hr
     · rw [Zet nl nt fs ps (g + 1) what s k n kc hp he] at h
       exact absurd h he
def Zbf (ts : List (ByteArray × List Int)) (ps : List (Int × Int × Int)) : PS := ((Yx ts ps 65 ⟨[], [], []⟩ 0).1.emit 0 (3, 0)).emit 0 (18, 0)
def Ypj (u : Un) : Bool := u.funcs.any fun f => decide (4096 < (Zbf u.texts f.parts).out.length)
def Jm (u : Un) (mem : Int) : Int :=
 if Ys u ≠ 0 then Ys u else if mem < 0 \/ 65536 < mem then 1 else if mem < Zy u.texts u.texts.length then 181 else if Ypj u then 181 else 0
theorem Zxw {ns : List ByteArray} {f : Fun} (h : Zid ns f.name f.args f.locals = 0) : 0 <= f.args /\ f.args <= f.locals.length /\ f.locals.length <= 64 := by
 unfold Zid at h
 repeat' split at h
 all_goals first | omega | exact ⟨by omega, by omega, by omega⟩
theorem Zuw : ∀ (us : List Fun) (ns : List ByteArray), Zat ns us = 0 -> ∀ f ∈ us, 0 <= f.args /\ f.args <= f.locals.length /\ f.locals.length <= 64
 | [], _, _, f, hf => by cases hf
 | g :: r, ns, h, f, hf => by
   unfold Zat at h
   by_cases h1 : Zid ns g.name g.args g.locals = 0
   · rw [if_pos h1] at h
     rcases List.mem_cons.1 hf with rfl | hf
     · exact Zxw h1
     · exact Zuw r _ h f hf
   · rw [if_neg h1] at h; exact absurd h h1
theorem Zsq (nt : Nat) (fs : List Int) : ∀ (us : List Fun), Zjr nt fs us = 0 -> ∀ f ∈ us, Zyu f.locals.length nt fs f.parts = 0
 | [], _, f, hf => by cases hf
 | g :: r, h, f, hf => by
   unfold Zjr at h
   by_cases h1 : Zyu g.locals.length nt fs g.parts = 0
   · rw [if_pos h1] at h
     rcases List.mem_cons.1 hf with rfl | hf
     · exact h1
     · exact Zsq nt fs r h f hf
   · rw [if_neg h1] at h; exact absurd h h1
structure Yzl (u : Un) : Prop where
 nf : 1 <= u.funcs.length /\ u.funcs.length <= 64
 nt : u.texts.length <= 1024
 by_ : Zy u.texts u.texts.length <= 65536
 a0 : (u.funcs.map Fun.args).getD 0 0 = 0
 ok : ∀ f ∈ u.funcs, okP u.texts.length f.parts 65 0 0 /\ Xc f.parts 65 0 = f.parts.length
 lo : ∀ f ∈ u.funcs, 0 <= f.args /\ f.args <= f.locals.length /\ f.locals.length <= 64
theorem Zfi {u : Un} (h : Ys u = 0) : Yzl u := by
 unfold Ys at h
 by_cases h1 : 64 < u.funcs.length \/ 1024 < u.texts.length \/ 65536 < Zy u.texts u.texts.length
 · rw [if_pos h1] at h; omega
 rw [if_neg h1] at h
 by_cases h2 : u.funcs.length = 0 \/ (u.funcs.map Fun.args).getD 0 0 ≠ 0
 · rw [if_pos h2] at h; omega
 rw [if_neg h2] at h
 by_cases h3 : Zaj [] (u.texts.map Prod.fst) ≠ 0
 · rw [if_pos h3] at h; exact absurd h h3
 rw [if_neg h3] at h
 by_cases h4 : Zat [] u.funcs ≠ 0
 · rw [if_pos h4] at h; exact absurd h h4
 rw [if_neg h4] at h
 refine ⟨by omega, by omega, by omega, by omega, fun f hf => ?_, Zuw u.funcs [] (by omega)⟩
 have ha := Zsq _ _ _ h f hf
 unfold Zyu at ha
 by_cases h5 : (Yp f.locals.length u.texts.length (u.funcs.map Fun.args) f.parts 65 0 ⟨0, 0, 0⟩).2.1 ≠ 0
 · rw [if_pos h5] at ha; exact absurd ha h5
 rw [if_neg h5] at ha
 by_cases h6 : (Yp f.locals.length u.texts.length (u.funcs.map Fun.args) f.parts 65 0 ⟨0, 0, 0⟩).2.2.a ≠ f.parts.length
 · rw [if_pos h6] at ha; omega
 obtain ⟨p1, p2, p3⟩ := Zwx f.locals.length u.texts.length (u.funcs.map Fun.args) f.parts 65 0 ⟨0, 0, 0⟩ 0 (by omega) rfl (by omega)
 refine ⟨p1, ?_⟩
 rw [<- p2]
 omega
def Zzc (w : World) (code : Int) (e : Ending) (w' : World) : Prop := e = .returned (.tuple #[.agg #[.int .i64 0, .slice none 0 0, .slice none 0 0], .slice none 0 0, .int .i64 code]) /\ w.grownBy w' none
theorem Zmf {w w1 : World} {o o' : Obj} {a b c : Value} (hg : ((w.alloc o).alloc o').grownBy w1 none) : w.grownBy (((w1.setCell ⟨w.heap.size + 1, 0, none⟩ a).setCell ⟨w.heap.size + 1, 1, none⟩ b).setCell ⟨w.heap.size + 1, 2, none⟩ c) none := by
 have hT : w1.grownBy (((w1.setCell ⟨w.heap.size + 1, 0, none⟩ a).setCell ⟨w.heap.size + 1, 1, none⟩ b).setCell ⟨w.heap.size + 1, 2, none⟩ c) (some (w.heap.size + 1)) := Za (Za (Zd w1 _ 0 _) (Zd _ _ 1 _)) (Zd _ _ 2 _)
 exact Jc (Za (Za (Ga w o none) (Ga _ o' none)) hg) hT (by omega)
theorem Zyf (u : Un) (hu : Yre u) (mem : Int) (pt pf : Option Addr) (ct cf B : Nat) (w : World) (hU : Zab w B pt pf u) (hb : Ys u ≠ 0 \/ (mem < 0 \/ 65536 < mem) \/ mem < Zy u.texts u.texts.length) :
 Calls Try.prog 27 #[.agg #[.slice pt u.texts.length ct, .slice pf u.funcs.length cf], .int .i64 mem] w (Zzc w (Jm u mem)) := by
 have CA := Hq (fun w' (hU' : Zab w' B pt pf u) => Zhb u hu pt pf ct cf B w' hU')
 have UU := Hq hU
 unfold Jm
 by_cases h1 : Ys u = 0
 · have hr := Zfi h1
   have SA := Hq (fun w' (hU' : Zab w' B pt pf u) => Zlr u.texts hr.nt hu.text pt ct B w' hU'.texts hU'.le)
   rw [if_neg (by omega)]
   by_cases h2 : mem < 0 \/ 65536 < mem
   · rw [if_pos h2]
     generalize Ys u = ce at *
     subst h1
     rcases h2 with h2 | h2
     · clear hU hb SA hr
       go_enter Try.func27, Try.ntmps27
       go_wp2_with (go_at_call 22; refine (CA.out _ (Yl UU.out (Za (Ga w _ none) (Ga _ _ none)) (by simp))).mono ?_; rintro e w1 ⟨rfl, hg1⟩; have hR := Zu (Zfr w _ _) hg1 (by simp); have r0 := Cq w1 _ 0 _ _ _ hR; have r1 := Cq w1 _ 1 _ _ _ hR; have r2 := Cq w1 _ 2 _ _ _ hR; have z0 := frozen_of_row w1 _ 0 _ _ hR; have z1 := frozen_of_row w1 _ 1 _ _ hR; have z2 := frozen_of_row w1 _ 2 _ _ hR; have hlR := (Gs hR); have HG := Hq hg1; clear hg1 hR)
       refine bodyPost_ret (v := .tuple #[.agg #[.int .i64 0, .slice none 0 0, .slice none 0 0], .slice none 0 0, .int .i64 1]) ?_ rfl ⟨rfl, Zmf HG.out⟩
       rw [Yu rfl]
       go_simp
     · have h3 : ¬ mem < 0 := by omega
       clear hU hb SA hr
       go_enter Try.func27, Try.ntmps27
       go_wp2_with (go_at_call 22; refine (CA.out _ (Yl UU.out (Za (Ga w _ none) (Ga _ _ none)) (by simp))).mono ?_; rintro e w1 ⟨rfl, hg1⟩; have hR := Zu (Zfr w _ _) hg1 (by simp); have r0 := Cq w1 _ 0 _ _ _ hR; have r1 := Cq w1 _ 1 _ _ _ hR; have r2 := Cq w1 _ 2 _ _ _ hR; have z0 := frozen_of_row w1 _ 0 _ _ hR; have z1 := frozen_of_row w1 _ 1 _ _ hR; have z2 := frozen_of_row w1 _ 2 _ _ hR; have hlR := (Gs hR); have HG := Hq hg1; clear hg1 hR)
       refine bodyPost_ret (v := .tuple #[.agg #[.int .i64 0, .slice none 0 0, .slice none 0 0], .slice none 0 0, .int .i64 1]) ?_ rfl ⟨rfl, Zmf HG.out⟩
       rw [Yu rfl]
       go_simp
   · rw [if_neg h2]
     have h3 : mem < Zy u.texts u.texts.length := by omega
     have h4 : ¬ mem < 0 := by omega
     have h5 : ¬ 65536 < mem := by omega
     rw [if_pos h3]
     generalize Ys u = ce at *
     subst h1
     clear hU hb hr h2
     go_enter Try.func27, Try.ntmps27
     go_wp2_with (first
      | (go_at_call 22; refine (CA.out _ (Yl UU.out (Za (Ga w _ none) (Ga _ _ none)) (by simp))).mono ?_; rintro e w1 ⟨rfl, hg1⟩; have hUB := Yi (Yi (Zhy w _ _) (Ga _ _ none) (by simp)) hg1 (by simp); have b0 := Zbv hUB; have hltB := Jd hUB; have HU1 := Hq (Yl UU.out (Za (Za (Ga w _ none) (Ga _ _ none)) hg1) (by simp)); have HG1 := Hq hg1; clear hg1 hUB)
      | (go_at_call 41; refine (SA.out _ HU1.out).mono ?_; rintro e w2 ⟨rfl, hg2⟩; have hg3 := Za HG1.out hg2; have hR := Zu (Zfr w _ _) hg3 (by simp); have r0 := Cq w2 _ 0 _ _ _ hR; have r1 := Cq w2 _ 1 _ _ _ hR; have r2 := Cq w2 _ 2 _ _ _ hR; have z0 := frozen_of_row w2 _ 0 _ _ hR; have z1 := frozen_of_row w2 _ 1 _ _ hR; have z2 := frozen_of_row w2 _ 2 _ _ hR; have hlR := (Gs hR); have HG := Hq hg3; clear hg2 hg3 hR))
     refine bodyPost_ret (v := .tuple #[.agg #[.int .i64 0, .slice none 0 0, .slice none 0 0], .slice none 0 0, .int .i64 181]) ?_ rfl ⟨rfl, Zmf HG.out⟩
     rw [Yu rfl]
     go_simp
 · rw [if_pos h1]
   generalize Ys u = ce at *
   clear hU hb
   go_enter Try.func27, Try.ntmps27
   go_wp2_with (go_at_call 22; refine (CA.out _ (Yl UU.out (Za (Ga w _ none) (Ga _ _ none)) (by simp))).mono ?_; rintro e w1 ⟨rfl, hg1⟩; have hR := Zu (Zfr w _ _) hg1 (by simp); have r0 := Cq w1 _ 0 _ _ _ hR; have r1 := Cq w1 _ 1 _ _ _ hR; have r2 := Cq w1 _ 2 _ _ _ hR; have z0 := frozen_of_row w1 _ 0 _ _ hR; have z1 := frozen_of_row w1 _ 1 _ _ hR; have z2 := frozen_of_row w1 _ 2 _ _ hR; have hlR := (Gs hR); have HG := Hq hg1; clear hg1 hR)
   refine bodyPost_ret (v := .tuple #[.agg #[.int .i64 0, .slice none 0 0, .slice none 0 0], .slice none 0 0, .int .i64 ce]) ?_ rfl ⟨rfl, Zmf HG.out⟩
   rw [Yu rfl]
   go_simp
def Zjn : List Fun -> List (Value × Value) -> List Value
 | f :: fs, r :: rs => .int .i64 f.args :: .int .i64 f.locals.length :: .int .i64 1 :: r.1 :: Zjn fs rs
 | _, _ => []
theorem Zpx : ∀ {fs : List Fun} {rs : List (Value × Value)} {f : Fun} {r : Value × Value}, fs[rs.length]? = some f -> Zjn fs (rs ++ [r]) = Zjn fs rs ++ [.int .i64 f.args, .int .i64 f.locals.length, .int .i64 1, r.1]
 | [], rs, f, r, h => by cases h
 | g :: fs, [], f, r, h => by
   simp at h; subst h
   simp [Zjn]
 | g :: fs, x :: rs, f, r, h => by
   have ih := Zpx (fs := fs) (rs := rs) (f := f) (r := r) (by simpa using h)
   simp [Zjn, ih]
def Zfp (u : Un) : List Int := u.texts.flatMap Prod.snd
theorem Yr {w : World} {base base' : Nat} {e : TypeId} {size n : Nat} {v : Value} {xs : List Value} (h : w.ownsRow base e size v n xs) (hb : base' <= base) : w.ownsRow base' e size v n xs := by
 refine ⟨h.1, ?_⟩
 rcases h.2 with h | ⟨g, cap, cur, e1, e2, e3⟩
 · exact Or.inl h
 · exact Or.inr ⟨g, cap, cur, e1, Nat.le_trans hb e2, e3⟩
theorem Yh {w : World} {base : Nat} {e t : TypeId} {size n b : Nat} {v : Value} {xs : List Value} {cs : Array Value} (h : w.ownsRow base e size v n xs) (hb : w.heap[b]? = some (.cells cs t (0, 0))) (hne : e ≠ t) : v.ownBlock ≠ some b := by
 rcases h.2 with ⟨rfl, _⟩ | ⟨g, cap, cur, rfl, _, hg, _⟩
 · simp [Value.ownBlock]
 · simp only [Value.ownBlock]
   intro e'
   injection e' with e'
   subst e'
   rw [hb] at hg
   injection hg with hg
   injection hg with _ h2 _
   exact hne h2.symm
structure FM (wr w10 : World) (E C0 Bd : Nat) (vt vf : Value) (nm : ByteArray) (ar : Int) (vl vp vo vg vlo vk : Value) (out : List (Int × Int)) (org : List Int) : Prop where
 code : Yc w10 E Bd vt vf nm ar vl vp vo vg vlo vk out org
 gr : wr.grownBy w10 none
 cp : w10.heap[C0]? = some (.cells #[.string nm, .int .i64 ar, vl, vp] 69 (0, 0))
 eC : C0 = wr.heap.size
 eB : Bd = C0 + 1
 lE : wr.heap.size <= E
def Stt.nil : Stt := ⟨.slice none 0 0, .slice none 0 0, .slice none 0 0, [], [], []⟩
theorem Xbg {c : Cx} {k : Nat} (h : c.P Stt.nil k) : k = c.Bd := by
 rcases h with (e | e | e) | e | ⟨l, hl, _⟩
 · exact e
 · cases e
 · cases e
 · cases e
 · cases hl
theorem Zpk {c : Cx} {w3 w6 : World} (h : AE w3 w6 c.Bd c.bc c.b6 c.M (.slice c.pt c.ts.length c.ct) c.vf c.nm c.ar c.vl (.slice c.pp c.ps.length c.cp)) (hE : c.E = w6.heap.size) (hB : c.B <= w3.heap.size) (hp : Zcw w3 c.B c.pp c.ps) (ht : Zap w3 c.B c.pt c.ts) :
 AtS c (w6.setCell ⟨c.Bd, 9, none⟩ (.map (some c.M))) Stt.nil := by
 have hb := Yxg h
 have he := Yxf h hp hB
 rw [<- hE] at hb he
 have heB := h.eB
 have hs : ∀ k, k < c.B -> (w6.setCell ⟨c.Bd, 9, none⟩ (.map (some c.M))).heap[k]? = w3.heap[k]? := fun k hk => by
  rw [heap_setCell_other w6 _ k _ (by simp; omega)]
  exact h.gr.block k (by omega) (by simp)
 exact ⟨hb, World.ownsRow_nil _ _ _ _, fun l hl => (by cases hl), fun i k l l' _ hi => (by cases hi), fun l hl => (by cases hl), ⟨rfl, fun x hx => (by cases hx), fun x hx => (by cases hx)⟩, he.pa, he.ki, Zqn ht hs⟩
theorem Xbv {c : Cx} {w3 w6 w10 : World} {s10 : Stt} (h : AE w3 w6 c.Bd c.bc c.b6 c.M (.slice c.pt c.ts.length c.ct) c.vf c.nm c.ar c.vl (.slice c.pp c.ps.length c.cp)) (hE : c.E = w6.heap.size) (g : Go c (w6.setCell ⟨c.Bd, 9, none⟩ (.map (some c.M))) Stt.nil w10 s10) :
 FM w3 w10 c.E w3.heap.size c.Bd (.slice c.pt c.ts.length c.ct) c.vf c.nm c.ar c.vl (.slice c.pp c.ps.length c.cp) s10.vout s10.vorg s10.vlo (.map (some c.M)) s10.out s10.org := by
 have heB := h.eB
 have hz3 := h.gr.size
 have hB6 : c.Bd < w6.heap.size := (Gs h.hb)
 have low : ∀ k, k < w6.heap.size -> k ≠ c.Bd -> w10.heap[k]? = w6.heap[k]? := fun k hk hne => by
  rw [g.sp.block k (by rw [World.size_setCell]; exact hk) (fun hp => hne (Xbg hp))]
  exact heap_setCell_other w6 _ k _ hne
 have hs := g.sp.size
 rw [World.size_setCell] at hs
 refine ⟨g.at_.code, ⟨?_, ?_, ?_, by omega, fun k hk _ => ?_⟩, ?_, rfl, heB, by omega⟩
 · exact g.sp.os.trans h.gr.os
 · exact g.sp.tape.trans h.gr.tape
 · exact g.sp.output.trans h.gr.output
 · rw [low k (by omega) (by omega)]; exact h.gr.block k hk (by simp)
 · rw [low _ (by omega) (by omega)]; exact h.cp
structure Zzb (w wr : World) (u : Un) (mem : Int) (vt vf : Value) (P0 k : Nat) (v vd vF : Value) (rows : List (Value × Value)) : Prop where
 len : rows.length = k
 pb : wr.heap[P0]? = some (.cells #[.int .i64 mem, vd, vF] 32 (0, 0))
 rb : wr.heap[w.heap.size + 1]? = some (.cells #[.int .i64 0, .slice none 0 0, .slice none 0 0] 32 (0, 0))
 hP : w.heap.size + 1 < P0
 gr : w.grownBy wr none
 ub : Ykh wr w.heap.size vt vf
 dt : wr.ownsRow w.heap.size 5 1 vd (Zfp u).length ((Zfp u).map (Value.int .u8))
 fr : wr.ownsRow w.heap.size 73 4 vF k (Zjn u.funcs rows)
 or : wr.ownsRow w.heap.size 47 1 v k (rows.map Prod.snd)
 each : ∀ (i : Nat) (vo vg : Value) (f : Fun), rows[i]? = some (vo, vg) -> u.funcs[i]? = some f -> wr.ownsRow w.heap.size 75 2 vo (Zbf u.texts f.parts).out.length (Xi (Zbf u.texts f.parts).out) /\
  wr.ownsRow w.heap.size 3 1 vg (Zbf u.texts f.parts).org.length ((Zbf u.texts f.parts).org.map (Value.int .i64))
 ord : ∀ (i j : Nat) (a b a' b' : Value), i < j -> rows[i]? = some (a, b) -> rows[j]? = some (a', b') -> ∀ (x y : Nat), (a.ownBlock = some x \/ b.ownBlock = some x) -> (a'.ownBlock = some y \/ b'.ownBlock = some y) -> x < y
theorem Zba (w : World) (o : Obj) : w.grownBy (w.drew.alloc o) none := Za (Zf (Ze w none)) (Ga _ o none)
theorem Ydt {w wr w10 w11 w16 : World} {u : Un} {mem : Int} {vt vf : Value} {P0 k : Nat} {v vd vF : Value} {rows : List (Value × Value)} {f : Fun} {E C0 Bd : Nat} {ut uf : Value} {nm : ByteArray} {vl vp vo vg vlo vk v13 v16 : Value} {out : List (Int × Int)} {org : List Int} {o o' : Obj}
 (h : Zzb w wr u mem vt vf P0 k v vd vF rows) (hf : u.funcs[k]? = some f) (A : FM wr w10 E C0 Bd ut uf nm f.args vl vp vo vg vlo vk out org) (hout : out = (Zbf u.texts f.parts).out) (horg : org = (Zbf u.texts f.parts).org)
 (h11 : (w10.drew.alloc o).grownBy w11 vF.ownBlock) (own13 : w11.ownsRow w.heap.size 73 4 v13 (k + 1) (Zjn u.funcs rows ++ [.int .i64 f.args, .int .i64 f.locals.length, .int .i64 1, vo]))
 (h16 : ((w11.setCell ⟨P0, 2, none⟩ v13).alloc o').grownBy w16 v.ownBlock) (own16 : w16.ownsRow w.heap.size 47 1 v16 (k + 1) (rows.map Prod.snd ++ [vg])) :
 Zzb w w16 u mem vt vf P0 (k + 1) v16 vd v13 (rows ++ [(vo, vg)]) := by
 have hP0 := (Gs h.pb)
 have hlen := h.len
 have hgw := h.gr.size
 have kp : ∀ {b : Nat} {ob : Obj}, wr.heap[b]? = some ob -> w10.heap[b]? = some ob := fun hb => Zu hb A.gr (by simp)
 have ko : ∀ {base : Nat} {e : TypeId} {size n : Nat} {x : Value} {xs : List Value}, wr.ownsRow base e size x n xs -> w10.ownsRow base e size x n xs := fun ho => ho.kept A.gr (Classical.em _)
 have pb10 := kp h.pb
 have fr10 := ko h.fr
 have or10 := ko h.or
 have s11 : Sp (fun k => vF.ownBlock = some k) w10 w11 := Zr (Zl (P := fun k => vF.ownBlock = some k) (Zba w10 o) (by simp)) (Zl (P := fun k => vF.ownBlock = some k) h11 fun k _ e => e) (fun _ _ h => h)
 have pb11 : w11.heap[P0]? = some (.cells #[.int .i64 mem, vd, vF] 32 (0, 0)) := by
  rw [s11.block P0 (Gs pb10) (Yh fr10 pb10 (by decide))]; exact pb10
 have or11 := Yz or10 s11 fun k hk => Ya or10 fr10 (by decide) hk
 have hset : Sp (fun k => k = P0) w11 (w11.setCell ⟨P0, 2, none⟩ v13) := Zl (Zd w11 P0 2 v13) fun k _ e => by injection e with e; exact e.symm
 have pbS : (w11.setCell ⟨P0, 2, none⟩ v13).heap[P0]? = some (.cells #[.int .i64 mem, vd, v13] 32 (0, 0)) := by rw [Zh pb11]; rfl
 have orS := Yz or11 hset fun k hk e => Yh or11 pb11 (by decide) (by rw [hk, e])
 have s16 : Sp (fun k => v.ownBlock = some k) (w11.setCell ⟨P0, 2, none⟩ v13) w16 := Zr (Zl (P := fun k => v.ownBlock = some k) (Ga _ o' none) (by simp)) (Zl (P := fun k => v.ownBlock = some k) h16 fun k _ e => e) (fun _ _ h => h)
 have pb16 : w16.heap[P0]? = some (.cells #[.int .i64 mem, vd, v13] 32 (0, 0)) := by
  rw [s16.block P0 (Gs pbS) (Yh orS pbS (by decide))]; exact pbS
 have sQ : Sp (fun k => vF.ownBlock = some k \/ k = P0 \/ v.ownBlock = some k) w10 w16 :=
  Zr (Zr (Zaq s11 fun _ _ e => Or.inl e) (Zaq (Q := fun k => vF.ownBlock = some k \/ k = P0 \/ v.ownBlock = some k) hset fun _ _ e => Or.inr (Or.inl e)) (fun _ _ h => h)) (Zaq (Q := fun k => vF.ownBlock = some k \/ k = P0 \/ v.ownBlock = some k) s16 fun _ _ e => Or.inr (Or.inr e)) (fun _ _ h => h)
 have oQ : ∀ {base : Nat} {e : TypeId} {size n : Nat} {x : Value} {xs : List Value}, w10.ownsRow base e size x n xs -> e ≠ 73 -> e ≠ 32 -> e ≠ 47 -> w16.ownsRow base e size x n xs := by
  intro base e size n x xs ho h1 h2 h3
  refine Yz ho sQ fun k hk hp => ?_
  rcases hp with e1 | e1 | e1
  · exact Ya (Yr ho (Nat.zero_le _)) (Yr fr10 (Nat.zero_le _)) h1 hk e1
  · subst e1; exact Yh ho pb10 h2 hk
  · exact Ya (Yr ho (Nat.zero_le _)) (Yr or10 (Nat.zero_le _)) h3 hk e1
 have bQ : ∀ {b : Nat} {cs : Array Value} {t : TypeId}, w10.heap[b]? = some (.cells cs t (0, 0)) -> t ≠ 73 -> b ≠ P0 -> t ≠ 47 -> w16.heap[b]? = some (.cells cs t (0, 0)) := by
  intro b cs t hb h1 h2 h3
  rw [sQ.block b (Gs hb) ?_]
  · exact hb
  · rintro (e1 | e1 | e1)
    · exact Yh fr10 hb (Ne.symm h1) e1
    · exact h2 e1
    · exact Yh or10 hb (Ne.symm h3) e1
 have hPlt := h.hP
 refine ⟨by rw [List.length_append]; simp [hlen], pb16, bQ (kp h.rb) (by decide) (by omega) (by decide), h.hP, ?_, bQ (kp h.ub) (by decide) (by omega) (by decide), oQ (ko h.dt) (by decide) (by decide) (by decide), ?_, ?_, ?_, ?_⟩
 · refine Zdm (Zr (Zl (P := fun k => vF.ownBlock = some k \/ k = P0 \/ v.ownBlock = some k) (Za h.gr A.gr) (by simp)) sQ (fun _ _ h => h)) fun k hk hp => ?_
   rcases hp with e1 | e1 | e1
   · have := (fr10.lt k e1).1; omega
   · omega
   · have := (or10.lt k e1).1; omega
 · have hfr := Yz (Yz own13 hset fun k hk e => Yh own13 pb11 (by decide) (by rw [hk, e])) s16 fun k hk => Ya (Yz own13 hset fun k hk e => Yh own13 pb11 (by decide) (by rw [hk, e])) orS (by decide) hk
   rw [Zpx (r := (vo, vg)) (by rw [hlen]; exact hf)]
   exact hfr
 · rw [List.map_append]; exact own16
 · intro i vo' vg' f' hi hf'
   by_cases hik : i < rows.length
   · rw [List.getElem?_append_left hik] at hi
     obtain ⟨e1, e2⟩ := h.each i vo' vg' f' hi hf'
     exact ⟨oQ (ko e1) (by decide) (by decide) (by decide), oQ (ko e2) (by decide) (by decide) (by decide)⟩
   · have hik2 : i = rows.length := by
      have := (List.getElem?_eq_some_iff.1 hi).1
      simp at this; omega
     subst hik2
     rw [List.getElem?_append_right (Nat.le_refl _)] at hi
     simp at hi
     obtain ⟨rfl, rfl⟩ := hi
     rw [hlen, hf] at hf'
     injection hf' with hf'; subst hf'
     have hE : w.heap.size <= E := Nat.le_trans hgw A.lE
     rw [<- hout, <- horg]
     exact ⟨oQ (Yr A.code.out hE) (by decide) (by decide) (by decide), oQ (Yr A.code.org hE) (by decide) (by decide) (by decide)⟩
 · intro i j a b a' b' hij hi hj x y hx hy
   have hjl := (List.getElem?_eq_some_iff.1 hj).1
   simp at hjl
   have hil : i < rows.length := by omega
   rw [List.getElem?_append_left hil] at hi
   by_cases hjk : j < rows.length
   · rw [List.getElem?_append_left hjk] at hj
     exact h.ord i j a b a' b' hij hi hj x y hx hy
   · have : j = rows.length := by omega
     subst this
     rw [List.getElem?_append_right (Nat.le_refl _)] at hj
     simp at hj
     obtain ⟨rfl, rfl⟩ := hj
     have hx2 : x < wr.heap.size := by
      obtain ⟨f', hf'⟩ : ∃ f', u.funcs[i]? = some f' := by
       have : k < u.funcs.length := (List.getElem?_eq_some_iff.1 hf).1
       exact ⟨_, List.getElem?_eq_getElem (by omega)⟩
      obtain ⟨e1, e2⟩ := h.each i a b f' hi hf'
      rcases hx with hx | hx
      · exact (e1.lt x hx).2
      · exact (e2.lt x hx).2
     have hy2 : E <= y := by
      rcases hy with hy | hy
      · exact (A.code.out.lt y hy).1
      · exact (A.code.org.lt y hy).1
     have := A.lE
     omega
end Go.Proofs.Ytecaolkbllbokaa.TG
