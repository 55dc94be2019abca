import Derived.Test.YtecaolkbllbokaaMT18
import Derived.Deep.QuietTactic
import Derived.BigQuiet
import Derived.Test.YtecaolkbllbokaaMT17
set_option linter.unusedSimpArgs false
set_option linter.unusedVariables false
set_option maxRecDepth 100000
set_option maxHeartbeats 16000000
namespace Go.Proofs.Ytecaolkbllbokaa.CK
open Go.RowKit Go.Great
theorem Xca (k : Nat) : bK k <= 4096 := by unfold bK; split <;> decide
def Xx (l : List (Int × Int)) : Int := if 4096 < l.length then 2 else Zsj l
def Yvr (w : World) (l : List (Int × Int)) (e : Ending) (w' : World) : Prop := ∃ v, e = .returned (.tuple #[v, .int .i64 (Xx l)]) /\ w.grownBy w' none
theorem Ydm (l : List (Int × Int)) (p : Option Addr) (c B : Nat) (w : World) (hB : B <= w.heap.size) (hC : Ypt w B p l) :
 Calls Try.prog 55 #[.slice p l.length c] w (Yvr w l) := by
 have CC := Hq hC
 clear hC
 by_cases h4 : (4096 : Int) < (l.length : Int)
 · have hE : Xx l = 2 := by unfold Xx; rw [if_pos (by omega)]
   go_enter Try.func55, Try.ntmps55
   go_wp2
   go_ret2
   exact ⟨.slice none 0 0, by rw [hE]; rfl, Ze _ _⟩
 · have hE : Xx l = Zsj l := by unfold Xx; rw [if_neg (by omega)]
   have N := Hq Ysy
   have KO := Hq Zec
   have SH := Hq Zpe
   go_enter Try.func55, Try.ntmps55
   go_wp2_with (first
    | (go_at_call 88; refine (N.out _).mono ?_; rintro e w1 ⟨rfl, rfl⟩)
    | (go_at_call 89; refine (KO.out _).mono ?_; rintro e w2 ⟨K, rfl, hg2, hk2⟩; have G2 := Hq hg2; have K2 := Hq hk2; clear hg2 hk2)
    | (go_at_call 90; refine (SH.out _).mono ?_; rintro e w3 ⟨S, rfl, hg3, hS, hs3⟩; have G3 := Hq hg3; have S3 := Hq hs3; clear hg3 hs3))
   have ES := Hq (EncS.mk (Za (Za (Ga w _ none) G2.out) G3.out) (Nat.le_refl _) (MwAt.mk (Zc (Zc (heap_alloc_new w _) G2.out (by simp)) G3.out (by simp)) (World.ownsRow_nil _ _ _ _) (by have := S3.out.1; have := G2.out.size; simp at this; omega) (Nat.le_refl _)) S3.out (by have := G2.out.size; simp at this; omega) S3.out.1 (Ydc (Bw := w.heap.size) (Zla K2.out G3.out) (by simp) (Nat.le_refl _)) (by simp) : EncS w w3 w3.heap.size w.heap.size S K 0 (.slice none 0 0) [])
   have hEw : w.heap.size < w3.heap.size := ES.out.mw.lt
   generalize w3.heap.size = E at *
   clear K2 S3 hS G2
   go_loopw [20] (fun i wr => ∃ (k n : Nat) (vb : Value) (xs : List Value), i = .int .i64 k /\ k <= l.length /\ n <= 18 * k /\ Zsj l = Zsj (l.drop k) /\ EncS w wr E w.heap.size S K n vb xs) (fun i _ => l.length - (intOf i).toNat)
   case atStart => exact ⟨0, 0, _, _, rfl, Nat.zero_le _, Nat.le_refl _, rfl, ES.out⟩
   case round =>
    obtain ⟨k, n, vb, xs, rfl, hk, hn, he, hes⟩ := hrel
    have HE := Hq he
    have ER := Hq hes
    clear he hes
    by_cases hlt : (k : Int) < (l.length : Int)
    · obtain ⟨⟨op, a⟩, hg⟩ : ∃ x, l[k]? = some x := ⟨_, List.getElem?_eq_getElem (by omega)⟩
      obtain ⟨b, o, rfl, hb, hc⟩ := CC.out (by omega)
      obtain ⟨c0, c1⟩ := hc k op a hg
      replace c0 := Zx ER.out.gr (B := B) (by simp) hb c0
      replace c1 := Zx ER.out.gr (B := B) (by simp) hb c1
      have hb2 : b < wr.heap.size := by have := ER.out.gr.size; omega
      have hd := Yiy hg
      have R := Hq (Zti op S (wr.alloc (.cells #[.int .i64 op, .int .i64 a] 75)) (Zja ER.out.sh (Ga _ _ none) (by simp)))
      clear hc
      cases hs : Xe op with
      | none =>
        rw [hs] at hd R
        simp only [] at hd
        simp only [Zpf] at R
        have HR := Hq (hE.trans (HE.out.trans hd))
        clear hd hg
        go_wp2_with (go_at_call 91; refine R.out.mono ?_; rintro e w4 ⟨rfl, hg4⟩; have G4 := Hq hg4; clear hg4)
        go_ret2
        exact ⟨.slice none 0 0, by rw [HR.out]; rfl, Za ER.out.gr (Za (Ga _ _ none) (Za G4.out (Ga _ _ none)))⟩
      | some s =>
        obtain ⟨nm, ok, tk, gk⟩ := s
        obtain ⟨kd, rfl, hk7, ho0, ho46⟩ := Ztj hs
        rw [hs] at hd R
        simp only [Int.toNat_natCast] at hd
        simp only [Zpf] at R
        obtain ⟨ka, kb, kc, hkc, q0, q1, q2⟩ := ER.out.kd.2.2 kd hk7
        have hKB := ER.out.kd.1
        have hKE := ER.out.kd.2.1
        have hKw : K < wr.heap.size := by have := ER.out.mw.le; omega
        have hki : (kd : Int) < 7 := by omega
        have HD := Hq hd
        have HKC := Hq hkc
        have MV := Hq (show ∀ W, wr.grownBy W none -> W.cell? ⟨K, kd * 3, none⟩ = some ka /\ W.cell? ⟨K, kd * 3 + 1, none⟩ = some kb /\ W.cell? ⟨K, kd * 3 + 2, none⟩ = some kc from fun W g => ⟨g.cell q0 (by simp), g.cell q1 (by simp), g.cell q2 (by simp)⟩)
        have BV := Hq (show ∀ (W : World) (bb : Nat), wr.grownBy W none -> wr.cell? ⟨bb, 0, none⟩ = some (.int .i64 (bK kd)) -> W.cell? ⟨bb, 0, none⟩ = some (.int .i64 (bK kd)) from fun W bb g h => g.cell h (by simp))
        have NU := Hq (show ∀ W, wr.grownBy W none -> Calls Try.prog 92 #[.pointer (some ⟨w.heap.size, 0, none⟩), .int .i64 op] W (Zss W E w.heap.size vb n) from fun W g => Zkj E w.heap.size vb n xs ER.out.one op ho0 (by omega) (by omega) W (Zqa ER.out g).mw)
        clear hd hkc q0 q1 q2 hs hg
        rcases HKC.out with ⟨hk0, rfl, rfl, rfl⟩ | ⟨hk0, rfl, rfl, rfl⟩ | ⟨hk0, bb, rfl, rfl, rfl, hb1, hb2', hbc⟩
        · by_cases hm : (a == 0) = true
          · have hd2 := HD.out
            rw [if_pos (show Zop kd a = true by unfold Zop; rw [if_pos hk0]; exact hm)] at hd2
            have H2 := Hq (HE.out.trans hd2)
            clear hd2 HKC hk0
            (
              go_wp2_with (first
               | (go_at_call 91; refine R.out.mono ?_; rintro e w4 ⟨rfl, hg4⟩; have G4 := Hq (Za (Ga wr _ none) hg4); have m4 := MV.out w4 G4.out; obtain ⟨m0, m1, m2⟩ := m4; have hKw4 : K < w4.heap.size := Nat.lt_of_lt_of_le hKw G4.out.size; have X8 := Hq (Zc (heap_alloc_new wr (.cells #[.int .i64 op, .int .i64 a] 75)) hg4 (by simp)); have x81 := Cq w4 _ 1 _ _ _ X8.out; have x80 := Cq w4 _ 0 _ _ _ X8.out; have hl8 : wr.heap.size < w4.heap.size := (Gs X8.out); clear hg4 R)
               | (go_at_call 116; refine (Zjg _ _).mono ?_; rintro e w5 ⟨rfl, rfl⟩; rw [hm])
               | (go_at_call 119; refine (Znf _ _).mono ?_; rintro e w5 ⟨rfl, rfl⟩)
               | (go_at_call 140; refine (Zgt _ _ _ _ (BV.out _ _ (Za G4.out (Za (Ga _ _ _) (Ga _ _ _))) hbc)).mono ?_; rintro e w5 ⟨rfl, rfl⟩; rw [hm])
               | (go_at_call 92; refine (NU.out _ (Za G4.out (Za (Ga _ _ _) (Ga _ _ _)))).mono ?_; rintro e w6 ⟨rfl, v6, j6, ys6, h61, h69, ho6, f6⟩; have EM := Zoa ER.out G4.out X8.out f6 ho6; obtain ⟨t1, t2, t3⟩ := EM; have E6 := Hq t1; have O6 := Hq ho6; clear NU x81 x80 hl8 m0 m1 m2 hKw4; have y81 := Cq w6 _ 1 _ _ _ t2; have y111 := Cq w6 _ 1 _ _ _ t3; have hl8 : wr.heap.size < w6.heap.size := (Gs t2); have hl11 : w4.heap.size + 1 < w6.heap.size := (Gs t3); clear t1 t2 t3 f6 ho6)
               | (go_at_call 117; refine (Zjd _ _ _).mono ?_; rintro e w7 ⟨rfl, rfl⟩; have P7 := Hq (Zgn E6.out.mw E6.out.one))
               | (go_at_call 120; refine (Znr _ _ _ _ _ E6.out.one _ (by omega) _ E6.out.mw).mono ?_; intro e w7 hp7; have P7 := Hq (Zej hp7); have he7 := hp7.1; subst he7; clear hp7)
               | (go_at_call 92; refine (Zkj _ _ _ _ _ E6.out.one _ HA.out.1 HA.out.2 (by omega) _ E6.out.mw).mono ?_; intro e w7 hp7; have P7 := Hq (Zej hp7); have he7 := hp7.1; subst he7; clear hp7)))
            (
              obtain ⟨-, v7, m7, xs7, h7, ho7, f7⟩ := P7.out
              exact ⟨⟨k + 1, n + j6 + m7, v7, xs7, by go_num, by omega, by omega, H2.out, Zmb E6.out f7 ho7⟩, by simp [intOf]; omega⟩)
          · replace hm : (a == 0) = false := by simpa using hm
            have hd2 := HD.out
            rw [if_neg (show ¬ Zop kd a = true by unfold Zop; rw [if_pos hk0, hm]; simp)] at hd2
            have H2 := Hq (hE.trans (HE.out.trans hd2))
            clear hd2 HKC hk0
            (
              go_wp2_with (first
               | (go_at_call 91; refine R.out.mono ?_; rintro e w4 ⟨rfl, hg4⟩; have G4 := Hq (Za (Ga wr _ none) hg4); have m4 := MV.out w4 G4.out; obtain ⟨m0, m1, m2⟩ := m4; have hKw4 : K < w4.heap.size := Nat.lt_of_lt_of_le hKw G4.out.size; have X8 := Hq (Zc (heap_alloc_new wr (.cells #[.int .i64 op, .int .i64 a] 75)) hg4 (by simp)); have x81 := Cq w4 _ 1 _ _ _ X8.out; have x80 := Cq w4 _ 0 _ _ _ X8.out; have hl8 : wr.heap.size < w4.heap.size := (Gs X8.out); clear hg4 R)
               | (go_at_call 116; refine (Zjg _ _).mono ?_; rintro e w5 ⟨rfl, rfl⟩; rw [hm])
               | (go_at_call 119; refine (Znf _ _).mono ?_; rintro e w5 ⟨rfl, rfl⟩)
               | (go_at_call 140; refine (Zgt _ _ _ _ (BV.out _ _ (Za G4.out (Za (Ga _ _ _) (Ga _ _ _))) hbc)).mono ?_; rintro e w5 ⟨rfl, rfl⟩; rw [hm])
               | (go_at_call 92; refine (NU.out _ (Za G4.out (Za (Ga _ _ _) (Ga _ _ _)))).mono ?_; rintro e w6 ⟨rfl, v6, j6, ys6, h61, h69, ho6, f6⟩; have EM := Zoa ER.out G4.out X8.out f6 ho6; obtain ⟨t1, t2, t3⟩ := EM; have E6 := Hq t1; have O6 := Hq ho6; clear NU x81 x80 hl8 m0 m1 m2 hKw4; have y81 := Cq w6 _ 1 _ _ _ t2; have y111 := Cq w6 _ 1 _ _ _ t3; have hl8 : wr.heap.size < w6.heap.size := (Gs t2); have hl11 : w4.heap.size + 1 < w6.heap.size := (Gs t3); clear t1 t2 t3 f6 ho6)
               | (go_at_call 117; refine (Zjd _ _ _).mono ?_; rintro e w7 ⟨rfl, rfl⟩; have P7 := Hq (Zgn E6.out.mw E6.out.one))
               | (go_at_call 120; refine (Znr _ _ _ _ _ E6.out.one _ (by omega) _ E6.out.mw).mono ?_; intro e w7 hp7; have P7 := Hq (Zej hp7); have he7 := hp7.1; subst he7; clear hp7)
               | (go_at_call 92; refine (Zkj _ _ _ _ _ E6.out.one _ HA.out.1 HA.out.2 (by omega) _ E6.out.mw).mono ?_; intro e w7 hp7; have P7 := Hq (Zej hp7); have he7 := hp7.1; subst he7; clear hp7)))
            (
              go_ret2
              exact ⟨.slice none 0 0, by rw [H2.out]; rfl, Za ER.out.gr (Za G4.out (Za (Ga _ _ _) (Ga _ _ _)))⟩)
        · have hd2 := HD.out
          rw [if_pos (show Zop kd a = true by unfold Zop; rw [if_neg (by omega), if_pos hk0])] at hd2
          have H2 := Hq (HE.out.trans hd2)
          clear hd2 HKC hk0
          (
            go_wp2_with (first
             | (go_at_call 91; refine R.out.mono ?_; rintro e w4 ⟨rfl, hg4⟩; have G4 := Hq (Za (Ga wr _ none) hg4); have m4 := MV.out w4 G4.out; obtain ⟨m0, m1, m2⟩ := m4; have hKw4 : K < w4.heap.size := Nat.lt_of_lt_of_le hKw G4.out.size; have X8 := Hq (Zc (heap_alloc_new wr (.cells #[.int .i64 op, .int .i64 a] 75)) hg4 (by simp)); have x81 := Cq w4 _ 1 _ _ _ X8.out; have x80 := Cq w4 _ 0 _ _ _ X8.out; have hl8 : wr.heap.size < w4.heap.size := (Gs X8.out); clear hg4 R)
             | (go_at_call 116; refine (Zjg _ _).mono ?_; rintro e w5 ⟨rfl, rfl⟩; rw [hm])
             | (go_at_call 119; refine (Znf _ _).mono ?_; rintro e w5 ⟨rfl, rfl⟩)
             | (go_at_call 140; refine (Zgt _ _ _ _ (BV.out _ _ (Za G4.out (Za (Ga _ _ _) (Ga _ _ _))) hbc)).mono ?_; rintro e w5 ⟨rfl, rfl⟩; rw [hm])
             | (go_at_call 92; refine (NU.out _ (Za G4.out (Za (Ga _ _ _) (Ga _ _ _)))).mono ?_; rintro e w6 ⟨rfl, v6, j6, ys6, h61, h69, ho6, f6⟩; have EM := Zoa ER.out G4.out X8.out f6 ho6; obtain ⟨t1, t2, t3⟩ := EM; have E6 := Hq t1; have O6 := Hq ho6; clear NU x81 x80 hl8 m0 m1 m2 hKw4; have y81 := Cq w6 _ 1 _ _ _ t2; have y111 := Cq w6 _ 1 _ _ _ t3; have hl8 : wr.heap.size < w6.heap.size := (Gs t2); have hl11 : w4.heap.size + 1 < w6.heap.size := (Gs t3); clear t1 t2 t3 f6 ho6)
             | (go_at_call 117; refine (Zjd _ _ _).mono ?_; rintro e w7 ⟨rfl, rfl⟩; have P7 := Hq (Zgn E6.out.mw E6.out.one))
             | (go_at_call 120; refine (Znr _ _ _ _ _ E6.out.one _ (by omega) _ E6.out.mw).mono ?_; intro e w7 hp7; have P7 := Hq (Zej hp7); have he7 := hp7.1; subst he7; clear hp7)
             | (go_at_call 92; refine (Zkj _ _ _ _ _ E6.out.one _ HA.out.1 HA.out.2 (by omega) _ E6.out.mw).mono ?_; intro e w7 hp7; have P7 := Hq (Zej hp7); have he7 := hp7.1; subst he7; clear hp7)))
          (
            obtain ⟨-, v7, m7, xs7, h7, ho7, f7⟩ := P7.out
            exact ⟨⟨k + 1, n + j6 + m7, v7, xs7, by go_num, by omega, by omega, H2.out, Zmb E6.out f7 ho7⟩, by simp [intOf]; omega⟩)
        · have hmk : Zop kd a = (decide (0 <= a) && decide (a < bK kd)) := by unfold Zop; rw [if_neg (by omega), if_neg (by omega)]
          by_cases hm : (decide (0 <= a) && decide (a < bK kd)) = true
          · have hd2 := HD.out
            rw [if_pos (hmk.trans hm)] at hd2
            have H2 := Hq (HE.out.trans hd2)
            have ha0 : 0 <= a := by simp at hm; exact hm.1
            have ha1 : a < 9223372036854775808 := by have := Xca kd; simp at hm; omega
            have HA := Hq (And.intro ha0 ha1)
            clear hd2 HKC hk0 hmk ha0 ha1
            (
              go_wp2_with (first
               | (go_at_call 91; refine R.out.mono ?_; rintro e w4 ⟨rfl, hg4⟩; have G4 := Hq (Za (Ga wr _ none) hg4); have m4 := MV.out w4 G4.out; obtain ⟨m0, m1, m2⟩ := m4; have hKw4 : K < w4.heap.size := Nat.lt_of_lt_of_le hKw G4.out.size; have X8 := Hq (Zc (heap_alloc_new wr (.cells #[.int .i64 op, .int .i64 a] 75)) hg4 (by simp)); have x81 := Cq w4 _ 1 _ _ _ X8.out; have x80 := Cq w4 _ 0 _ _ _ X8.out; have hl8 : wr.heap.size < w4.heap.size := (Gs X8.out); clear hg4 R)
               | (go_at_call 116; refine (Zjg _ _).mono ?_; rintro e w5 ⟨rfl, rfl⟩; rw [hm])
               | (go_at_call 119; refine (Znf _ _).mono ?_; rintro e w5 ⟨rfl, rfl⟩)
               | (go_at_call 140; refine (Zgt _ _ _ _ (BV.out _ _ (Za G4.out (Za (Ga _ _ _) (Ga _ _ _))) hbc)).mono ?_; rintro e w5 ⟨rfl, rfl⟩; rw [hm])
               | (go_at_call 92; refine (NU.out _ (Za G4.out (Za (Ga _ _ _) (Ga _ _ _)))).mono ?_; rintro e w6 ⟨rfl, v6, j6, ys6, h61, h69, ho6, f6⟩; have EM := Zoa ER.out G4.out X8.out f6 ho6; obtain ⟨t1, t2, t3⟩ := EM; have E6 := Hq t1; have O6 := Hq ho6; clear NU x81 x80 hl8 m0 m1 m2 hKw4; have y81 := Cq w6 _ 1 _ _ _ t2; have y111 := Cq w6 _ 1 _ _ _ t3; have hl8 : wr.heap.size < w6.heap.size := (Gs t2); have hl11 : w4.heap.size + 1 < w6.heap.size := (Gs t3); clear t1 t2 t3 f6 ho6)
               | (go_at_call 117; refine (Zjd _ _ _).mono ?_; rintro e w7 ⟨rfl, rfl⟩; have P7 := Hq (Zgn E6.out.mw E6.out.one))
               | (go_at_call 120; refine (Znr _ _ _ _ _ E6.out.one _ (by omega) _ E6.out.mw).mono ?_; intro e w7 hp7; have P7 := Hq (Zej hp7); have he7 := hp7.1; subst he7; clear hp7)
               | (go_at_call 92; refine (Zkj _ _ _ _ _ E6.out.one _ HA.out.1 HA.out.2 (by omega) _ E6.out.mw).mono ?_; intro e w7 hp7; have P7 := Hq (Zej hp7); have he7 := hp7.1; subst he7; clear hp7)))
            (
              obtain ⟨-, v7, m7, xs7, h7, ho7, f7⟩ := P7.out
              exact ⟨⟨k + 1, n + j6 + m7, v7, xs7, by go_num, by omega, by omega, H2.out, Zmb E6.out f7 ho7⟩, by simp [intOf]; omega⟩)
          · replace hm : (decide (0 <= a) && decide (a < bK kd)) = false := by simpa only [Bool.not_eq_true] using hm
            have hd2 := HD.out
            rw [if_neg (show ¬ Zop kd a = true by rw [hmk, hm]; simp)] at hd2
            have H2 := Hq (hE.trans (HE.out.trans hd2))
            clear hd2 HKC hk0 hmk
            (
              go_wp2_with (first
               | (go_at_call 91; refine R.out.mono ?_; rintro e w4 ⟨rfl, hg4⟩; have G4 := Hq (Za (Ga wr _ none) hg4); have m4 := MV.out w4 G4.out; obtain ⟨m0, m1, m2⟩ := m4; have hKw4 : K < w4.heap.size := Nat.lt_of_lt_of_le hKw G4.out.size; have X8 := Hq (Zc (heap_alloc_new wr (.cells #[.int .i64 op, .int .i64 a] 75)) hg4 (by simp)); have x81 := Cq w4 _ 1 _ _ _ X8.out; have x80 := Cq w4 _ 0 _ _ _ X8.out; have hl8 : wr.heap.size < w4.heap.size := (Gs X8.out); clear hg4 R)
               | (go_at_call 116; refine (Zjg _ _).mono ?_; rintro e w5 ⟨rfl, rfl⟩; rw [hm])
               | (go_at_call 119; refine (Znf _ _).mono ?_; rintro e w5 ⟨rfl, rfl⟩)
               | (go_at_call 140; refine (Zgt _ _ _ _ (BV.out _ _ (Za G4.out (Za (Ga _ _ _) (Ga _ _ _))) hbc)).mono ?_; rintro e w5 ⟨rfl, rfl⟩; rw [hm])
               | (go_at_call 92; refine (NU.out _ (Za G4.out (Za (Ga _ _ _) (Ga _ _ _)))).mono ?_; rintro e w6 ⟨rfl, v6, j6, ys6, h61, h69, ho6, f6⟩; have EM := Zoa ER.out G4.out X8.out f6 ho6; obtain ⟨t1, t2, t3⟩ := EM; have E6 := Hq t1; have O6 := Hq ho6; clear NU x81 x80 hl8 m0 m1 m2 hKw4; have y81 := Cq w6 _ 1 _ _ _ t2; have y111 := Cq w6 _ 1 _ _ _ t3; have hl8 : wr.heap.size < w6.heap.size := (Gs t2); have hl11 : w4.heap.size + 1 < w6.heap.size := (Gs t3); clear t1 t2 t3 f6 ho6)
               | (go_at_call 117; refine (Zjd _ _ _).mono ?_; rintro e w7 ⟨rfl, rfl⟩; have P7 := Hq (Zgn E6.out.mw E6.out.one))
               | (go_at_call 120; refine (Znr _ _ _ _ _ E6.out.one _ (by omega) _ E6.out.mw).mono ?_; intro e w7 hp7; have P7 := Hq (Zej hp7); have he7 := hp7.1; subst he7; clear hp7)
               | (go_at_call 92; refine (Zkj _ _ _ _ _ E6.out.one _ HA.out.1 HA.out.2 (by omega) _ E6.out.mw).mono ?_; intro e w7 hp7; have P7 := Hq (Zej hp7); have he7 := hp7.1; subst he7; clear hp7)))
            (
              go_ret2
              exact ⟨.slice none 0 0, by rw [H2.out]; rfl, Za ER.out.gr (Za G4.out (Za (Ga _ _ _) (Ga _ _ _)))⟩)
    · have hkn : k = l.length := by omega
      have hfin : Zsj l = 0 := by rw [HE.out, hkn, List.drop_length]; rfl
      have D := Hq (You E w.heap.size vb n xs ER.out.one (by omega) wr ER.out.mw)
      subst hkn
      go_wp2_with (go_at_call 93; refine D.out.mono ?_; rintro e w9 ⟨v9, rfl, hg9⟩; have G9 := Hq hg9; clear hg9)
      go_ret2
      exact ⟨_, by rw [hE, hfin]; rfl, Za ER.out.gr G9.out⟩
abbrev FnP := Int × Int × Int × List (Int × Int)
def Zam (w : World) (B : Nat) (p : Option Addr) (fs : List FnP) : Prop := 0 < fs.length -> ∃ b o : Nat, p = some ⟨b, o, none⟩ /\ b < B /\ ∀ i a l r c, fs[i]? = some (a, l, r, c) ->
 w.cell? ⟨b, o + i * 4, none⟩ = some (.int .i64 a) /\ w.cell? ⟨b, o + i * 4 + 1, none⟩ = some (.int .i64 l) /\ w.cell? ⟨b, o + i * 4 + 2, none⟩ = some (.int .i64 r) /\
 ∃ (pc : Option Addr) (cc : Nat), w.cell? ⟨b, o + i * 4 + 3, none⟩ = some (.slice pc c.length cc) /\ Ypt w B pc c
theorem Yb {w w' : World} {row : Option Nat} {B : Nat} {p : Option Addr} {l : List FnP} (h : Zam w B p l) (g : w.grownBy w' row) (hr : ∀ r, row = some r -> B <= r) : Zam w' B p l := fun h0 => by
 obtain ⟨b, o, e, hb, hc⟩ := h h0
 refine ⟨b, o, e, hb, fun i a l r c hi => ?_⟩
 obtain ⟨h1, h2, h3, pc, cc, h4, h5⟩ := hc i a l r c hi
 exact ⟨Zx g hr hb h1, Zx g hr hb h2, Zx g hr hb h3, pc, cc, Zx g hr hb h4, Zqe h5 g hr⟩
def fnE (f : FnP) : Int := if f.1 < 0 \/ 16 < f.1 \/ f.2.1 < f.1 \/ 64 < f.2.1 \/ f.2.2.1 < 0 \/ 1 < f.2.2.1 \/ f.2.2.2.length < 1 \/ 4096 < f.2.2.2.length then 121 else Zsj f.2.2.2
def Yej : List FnP -> Int
 | [] => 0
 | f :: r => if fnE f = 0 then Yej r else fnE f
def Zda (mem : Int) (nd : Nat) (fs : List FnP) : Int := if mem < 0 \/ 65536 < mem \/ mem < nd \/ fs.length < 1 \/ 64 < fs.length then 121 else Yej fs
theorem Yiq {fs : List FnP} {k : Nat} {f : FnP} (h : fs[k]? = some f) : Yej (fs.drop k) = if fnE f = 0 then Yej (fs.drop (k + 1)) else fnE f := by
 obtain ⟨hk, e⟩ := List.getElem?_eq_some_iff.1 h
 rw [List.drop_eq_getElem_cons hk, e]
 rfl
def Yeo (w : World) (b : Nat) (mem : Int) (vd vF : Value) : Prop := w.heap[b]? = some (.cells #[.int .i64 mem, vd, vF] 32 (0, 0))
theorem Zcv {w w' : World} {b : Nat} {mem : Int} {vd vF : Value} {row : Option Nat} (h : Yeo w b mem vd vF) (g : w.grownBy w' row) (hr : row ≠ some b) : Yeo w' b mem vd vF := Zc h g hr
theorem Zso (w : World) (mem : Int) (vd vF : Value) : Yeo (w.alloc (.cells #[.int .i64 mem, vd, vF] 32)) w.heap.size mem vd vF := heap_alloc_new w _
theorem Zkg (mem : Int) (nd : Nat) (fs : List FnP) (pd pF : Option Addr) (cd cF B : Nat) (w : World) (hB : B <= w.heap.size) (hF : Zam w B pF fs) (hn : nd <= 9223372036854775807) :
 Calls Try.prog 36 #[.agg #[.int .i64 mem, .slice pd nd cd, .slice pF fs.length cF]] w fun e w' => e = .returned (.int .i64 (Zda mem nd fs)) /\ w.grownBy w' none := by
 have FF := Hq hF
 clear hF
 by_cases hbad : mem < 0 \/ 65536 < mem \/ mem < nd \/ fs.length < 1 \/ 64 < fs.length
 · have hE : Zda mem nd fs = 121 := by unfold Zda; rw [if_pos hbad]
   rw [hE]
   have hni : (fs.length : Int) < 1 \/ ¬ (fs.length : Int) < 1 := Classical.em _
   rcases (by omega : mem < 0 \/ (0 <= mem /\ 65536 < mem) \/ (0 <= mem /\ mem <= 65536 /\ mem < (nd : Int)) \/ (0 <= mem /\ mem <= 65536 /\ (nd : Int) <= mem /\ (fs.length : Int) < 1) \/ (0 <= mem /\ mem <= 65536 /\ (nd : Int) <= mem /\ 1 <= (fs.length : Int) /\ 64 < (fs.length : Int))) with q1 | ⟨q1, q2⟩ | ⟨q1, q2, q3⟩ | ⟨q1, q2, q3, q4⟩ | ⟨q1, q2, q3, q4, q5⟩
   all_goals
    clear hbad hni hE
    go_enter Try.func36, Try.ntmps36
    go_wp2
    go_ret
    exact ⟨rfl, Ga _ _ _⟩
 · have hE : Zda mem nd fs = Yej fs := by unfold Zda; rw [if_neg hbad]
   have q1 : 0 <= mem := by omega
   have q2 : mem <= 65536 := by omega
   have q3 : (nd : Int) <= mem := by omega
   have q4 : 1 <= (fs.length : Int) := by omega
   have q5 : (fs.length : Int) <= 64 := by omega
   clear hbad
   go_enter Try.func36, Try.ntmps36
   go_wp2
   have BX := Hq (Zso w mem (.slice pd nd cd) (.slice pF fs.length cF))
   have G0 := Hq (Ga w (.cells #[.int .i64 mem, .slice pd nd cd, .slice pF fs.length cF] 32) none)
   generalize w.alloc (.cells #[.int .i64 mem, .slice pd nd cd, .slice pF fs.length cF] 32) = w1 at *
   go_loopw [38] (fun i wr => ∃ k : Nat, i = .int .i64 k /\ k <= fs.length /\ Yej fs = Yej (fs.drop k) /\ w.grownBy wr none) (fun i _ => fs.length - (intOf i).toNat)
   case atStart => exact ⟨0, rfl, Nat.zero_le _, rfl, G0.out⟩
   case round =>
    obtain ⟨k, rfl, hk, he, hg⟩ := hrel
    have HE := Hq he
    have GR := Hq hg
    by_cases hlt : (k : Int) < (fs.length : Int)
    · obtain ⟨⟨a, lo, r, c⟩, hf⟩ : ∃ x, fs[k]? = some x := ⟨_, List.getElem?_eq_getElem (by omega)⟩
      obtain ⟨b, o, rfl, hb, hc⟩ := FF.out (by omega)
      obtain ⟨c0, c1, c2, pc, cc, c3, hcode⟩ := hc k a lo r c hf
      replace c0 := Zx hg (B := B) (by simp) hb c0
      replace c1 := Zx hg (B := B) (by simp) hb c1
      replace c2 := Zx hg (B := B) (by simp) hb c2
      replace c3 := Zx hg (B := B) (by simp) hb c3
      have hb2 : b < wr.heap.size := by have := hg.size; omega
      have hst := Yiq hf
      have gW := Za hg (Ga wr (.cells #[.int .i64 a, .int .i64 lo, .int .i64 r, .slice pc c.length cc] 73) none)
      have EC := Hq (Ydm c pc cc B (wr.alloc (.cells #[.int .i64 a, .int .i64 lo, .int .i64 r, .slice pc c.length cc] 73)) (Nat.le_trans hB gW.size) (Zqe hcode gW (by simp)))
      have GW := Hq gW
      clear hc he hg hcode hf gW
      by_cases hbad : a < 0 \/ 16 < a \/ lo < a \/ 64 < lo \/ r < 0 \/ 1 < r \/ c.length < 1 \/ 4096 < c.length
      · have hfn : fnE (a, lo, r, c) = 121 := by unfold fnE; rw [if_pos hbad]
        rw [hfn, if_neg (by decide)] at hst
        have H2 := Hq (hE.trans (HE.out.trans hst))
        clear hst hfn EC
        rcases (by omega : a < 0 \/ (0 <= a /\ 16 < a) \/ (0 <= a /\ a <= 16 /\ lo < a) \/ (0 <= a /\ a <= 16 /\ a <= lo /\ 64 < lo) \/ (0 <= a /\ a <= 16 /\ a <= lo /\ lo <= 64 /\ r < 0) \/ (0 <= a /\ a <= 16 /\ a <= lo /\ lo <= 64 /\ 0 <= r /\ 1 < r) \/ (0 <= a /\ a <= 16 /\ a <= lo /\ lo <= 64 /\ 0 <= r /\ r <= 1 /\ (c.length : Int) < 1) \/ (0 <= a /\ a <= 16 /\ a <= lo /\ lo <= 64 /\ 0 <= r /\ r <= 1 /\ 1 <= (c.length : Int) /\ 4096 < (c.length : Int))) with p1 | ⟨p1, p2⟩ | ⟨p1, p2, p3⟩ | ⟨p1, p2, p3, p4⟩ | ⟨p1, p2, p3, p4, p5⟩ | ⟨p1, p2, p3, p4, p5, p6⟩ | ⟨p1, p2, p3, p4, p5, p6, p7⟩ | ⟨p1, p2, p3, p4, p5, p6, p7, p8⟩
        all_goals
         clear hbad
         go_wp2
         go_ret
         exact ⟨Xf H2.out.symm, GW.out⟩
      · have hfn : fnE (a, lo, r, c) = Zsj c := by unfold fnE; rw [if_neg hbad]
        have hco : Xx c = Zsj c := by unfold Xx; rw [if_neg (by omega)]
        rw [hfn] at hst
        have p1 : 0 <= a := by omega
        have p2 : a <= 16 := by omega
        have p3 : a <= lo := by omega
        have p4 : lo <= 64 := by omega
        have p5 : 0 <= r := by omega
        have p6 : r <= 1 := by omega
        have p7 : 1 <= (c.length : Int) := by omega
        have p8 : (c.length : Int) <= 4096 := by omega
        clear hbad hfn
        by_cases hz : Zsj c = 0
        · rw [if_pos hz] at hst
          have H2 := Hq (HE.out.trans hst)
          have HZ := Hq (hco.trans hz)
          clear hst hz hco
          go_wp2_with (go_at_call 55; refine EC.out.mono ?_; rintro e w4 ⟨v4, rfl, hg4⟩; have G4 := Hq hg4; clear hg4; rw [HZ.out])
          go_roundw
          case rel => exact ⟨k + 1, by go_num, by omega, H2.out, Za GW.out G4.out⟩
          case measure => simp [intOf]; omega
        · rw [if_neg hz] at hst
          have H2 := Hq (hE.trans (HE.out.trans hst))
          have hz2 : (Zsj c != 0) = true := by simpa using hz
          have HZ := Hq hco
          clear hst hz hco
          go_wp2_with (go_at_call 55; refine EC.out.mono ?_; rintro e w4 ⟨v4, rfl, hg4⟩; have G4 := Hq hg4; clear hg4; rw [HZ.out])
          go_ret
          exact ⟨Xf H2.out.symm, Za GW.out G4.out⟩
    · have hkn : k = fs.length := by omega
      have hfin : Yej fs = 0 := by rw [he, hkn, List.drop_length]; rfl
      clear he
      go_wp2
      go_ret
      first
       | exact ⟨rfl, GR.out⟩
       | exact ⟨Xf (hE.trans hfin).symm, GR.out⟩
structure Zon (fs : List FnP) (f at_ : Nat) (fn : FnP) (op a : Int) : Prop where
 isf : fs[f]? = some fn
 ins : fn.2.2.2[at_]? = some (op, a)
 nf : fs.length <= 64
 nc : fn.2.2.2.length <= 4096
theorem Zuu (mem : Int) (vd : Value) (fs : List FnP) (pF : Option Addr) (cF B f at_ : Nat) (fn : FnP) (op a : Int) (w : World) (hvd : ∃ p n c, vd = .slice p n c) (hB : B <= w.heap.size) (hF : Zam w B pF fs) (hS : Zon fs f at_ fn op a) :
 Calls Try.prog 95 #[.agg #[.int .i64 mem, vd, .slice pF fs.length cF], .agg #[.int .i64 f, .int .i64 at_]] w fun e w' => e = .returned (.tuple #[.agg #[.int .i64 op, .int .i64 a], .bool true]) /\ w.grownBy w' none := by
 obtain ⟨pd, nd, cd, rfl⟩ := hvd
 obtain ⟨ar, lo, r, c⟩ := fn
 have hf1 := (List.getElem?_eq_some_iff.1 hS.isf).1
 have ha1 := (List.getElem?_eq_some_iff.1 hS.ins).1
 have hnf := hS.nf
 have hnc := hS.nc
 simp only [] at ha1 hnc
 obtain ⟨b, o, rfl, hb, hc⟩ := hF (by omega)
 obtain ⟨c0, c1, c2, pc, cc, c3, hcode⟩ := hc f ar lo r c hS.isf
 obtain ⟨b', o', rfl, hb', hc'⟩ := hcode (by omega)
 obtain ⟨d0, d1⟩ := hc' at_ op a hS.ins
 have hb2 : b < w.heap.size := by omega
 have hb2' : b' < w.heap.size := by omega
 have q1 : (f : Int) < (fs.length : Int) := by omega
 have q2 : (at_ : Int) < (c.length : Int) := by omega
 have e1 : decide ((f : Int) < 0) = false := decide_eq_false (by omega)
 have e2 : decide ((fs.length : Int) <= (f : Int)) = false := decide_eq_false (by omega)
 have e2' : decide (fs.length <= f) = false := decide_eq_false (by omega)
 have e4' : decide (c.length <= at_) = false := decide_eq_false (by omega)
 have e3 : decide ((at_ : Int) < 0) = false := decide_eq_false (by omega)
 have e4 : decide ((c.length : Int) <= (at_ : Int)) = false := decide_eq_false (by omega)
 clear hF hc hcode hc' hS
 go_enter Try.func95, Try.ntmps95
 go_wp2
 have H3 := Zce w (.cells #[.int .i64 mem, .slice pd nd cd, .slice (some ⟨b, o, none⟩) fs.length cF] 32) (.cells #[.int .i64 f, .int .i64 at_] 59) (.cells #[.int .i64 0, .int .i64 0] 75)
 have g3 := Zcf w (.cells #[.int .i64 mem, .slice pd nd cd, .slice (some ⟨b, o, none⟩) fs.length cF] 32) (.cells #[.int .i64 f, .int .i64 at_] 59) (.cells #[.int .i64 0, .int .i64 0] 75)
 generalize ((w.alloc (.cells #[.int .i64 mem, .slice pd nd cd, .slice (some ⟨b, o, none⟩) fs.length cF] 32)).alloc (.cells #[.int .i64 f, .int .i64 at_] 59)).alloc (.cells #[.int .i64 0, .int .i64 0] 75) = W at *
 obtain ⟨h1, h2, h3⟩ := H3
 have x2 := Cq _ _ 2 _ _ _ h1
 have y0 := Cq _ _ 0 _ _ _ h2
 have y1 := Cq _ _ 1 _ _ _ h2
 have z0 := Cq _ _ 0 _ _ _ h3
 have z1 := Cq _ _ 1 _ _ _ h3
 have v0 := frozen_of_row _ _ 0 _ _ h3
 have v1 := frozen_of_row _ _ 1 _ _ h3
 have s1 := (Gs h1)
 have s2 := (Gs h2)
 have s3 := (Gs h3)
 replace c3 := g3.cell c3 (by simp)
 replace d0 := g3.cell d0 (by simp)
 replace d1 := g3.cell d1 (by simp)
 replace hb2 : b < W.heap.size := by omega
 replace hb2' : b' < W.heap.size := by omega
 have HX := Hq h3
 have G3 := Hq g3
 clear h1 h2 h3 g3 c0 c1 c2
 generalize hn0 : w.heap.size = n0 at *
 go_quiet (fail)
 go_wp2
 go_region
 go_wp2
 (try simp only [Exit.inBlock, Exit.then])
 have hq : (((W.drewN (nq + 1)).setCell ⟨n0 + 1 + 1, 0, none⟩ (.int .i64 op)).setCell ⟨n0 + 1 + 1, 1, none⟩ (.int .i64 a)).heap[n0 + 1 + 1]? = some (.cells #[.int .i64 op, .int .i64 a] 75 (0, 0)) := by
  rw [Zh (Zh (show (W.drewN (nq + 1)).heap[n0 + 1 + 1]? = some (.cells #[.int .i64 0, .int .i64 0] 75 (0, 0)) by simpa using HX.out))]; rfl
 refine bodyPost_ret (v := .tuple #[.agg #[.int .i64 op, .int .i64 a], .bool true]) ?_ rfl ⟨rfl, Zz (Zz (Xj G3.out _) (by omega)) (by omega)⟩
 have k0 := Cq _ _ 0 _ _ _ hq
 have k1 := Cq _ _ 1 _ _ _ hq
 clear hq
 generalize ((W.drewN (nq + 1)).setCell ⟨n0 + 1 + 1, 0, none⟩ (.int .i64 op)).setCell ⟨n0 + 1 + 1, 1, none⟩ (.int .i64 a) = w9 at *
 rw [results_cell_tmp rfl]
 go_simp
def Ji (op a pl : Int) : List Int :=
 if op = 1 \/ op = 2 \/ op = 18 then [] else if op = 14 then [a] else if (op = 15 \/ op = 16) /\ a ≠ pl + 1 then [min a (pl + 1), max a (pl + 1)] else [pl + 1]
theorem Zgw (op a pl : Int) : (Ji op a pl).length <= 2 := by
 unfold Ji
 split
 · simp
 · split
   · simp
   · split <;> simp
def Zfw (w : World) (l : List Int) (e : Ending) (w' : World) : Prop := ∃ v, e = .returned v /\ w.grownBy w' none /\ w'.ownsRow w.heap.size 3 1 v l.length (l.map (Value.int .i64))
theorem Zsb {w : World} {o : Obj} {x : Int} {l : List Int} (h : l = [x]) : Zfw w l (.returned (.slice (some ⟨w.heap.size + 1, 0, none⟩) 1 1)) ((w.alloc o).alloc (.cells #[.int .i64 x] 3)) := by
 subst h
 have h := World.ownsRow_lit (base := w.heap.size) (e := 3) (size := 1) (w.alloc o) #[.int .i64 x] 1 (by simp) (by decide) rfl
 rw [World.size_alloc] at h
 exact ⟨_, rfl, Za (Ga _ _ _) (Ga _ _ _), h⟩
theorem Yoi {w : World} {o : Obj} {x y : Int} {l : List Int} (h : l = [x, y]) : Zfw w l (.returned (.slice (some ⟨w.heap.size + 1, 0, none⟩) 2 2)) ((w.alloc o).alloc (.cells #[.int .i64 x, .int .i64 y] 3)) := by
 subst h
 have h := World.ownsRow_lit (base := w.heap.size) (e := 3) (size := 1) (w.alloc o) #[.int .i64 x, .int .i64 y] 2 (by simp) (by decide) rfl
 rw [World.size_alloc] at h
 exact ⟨_, rfl, Za (Ga _ _ _) (Ga _ _ _), h⟩
theorem Zsc (op a pl : Int) (w : World) (h0 : 0 <= pl) (h1 : pl < 1000000000000) : Calls Try.prog 57 #[.agg #[.int .i64 op, .int .i64 a], .int .i64 pl] w (Zfw w (Ji op a pl)) := by
 rcases (by omega : (op = 1 \/ op = 2 \/ op = 18) \/ op = 14 \/ ((op = 15 \/ op = 16) /\ a = pl + 1) \/ ((op = 15 \/ op = 16) /\ a ≠ pl + 1) \/ (op ≠ 1 /\ op ≠ 2 /\ op ≠ 18 /\ op ≠ 14 /\ op ≠ 15 /\ op ≠ 16)) with h | h | ⟨h, ha⟩ | ⟨h, ha⟩ | h
 · have hE : Ji op a pl = [] := by unfold Ji; rw [if_pos h]
   rw [hE]
   rcases h with rfl | rfl | rfl
   all_goals
    clear hE
    go_enter Try.func57, Try.ntmps57
    go_wp2
    go_ret
    exact ⟨_, rfl, Ga _ _ _, World.ownsRow_nil _ _ _ _⟩
 · have hE : Ji op a pl = [a] := by unfold Ji; rw [if_neg (by omega), if_pos h]
   subst h
   go_enter Try.func57, Try.ntmps57
   go_wp2
   go_ret
   exact Zsb hE
 · have hE : Ji op a pl = [pl + 1] := by unfold Ji; rw [if_neg (by omega), if_neg (by omega), if_neg (by omega)]
   have hq : (a == pl + 1) = true := by simp [ha]
   rcases h with rfl | rfl
   all_goals
    clear ha
    go_enter Try.func57, Try.ntmps57
    go_wp2
    go_ret
    exact Zsb hE
 · have hE : Ji op a pl = [min a (pl + 1), max a (pl + 1)] := by unfold Ji; rw [if_neg (by omega), if_neg (by omega), if_pos (by omega)]
   have hq : (a == pl + 1) = false := beq_eq_false_iff_ne.2 ha
   rcases h with rfl | rfl
   all_goals
    clear ha
    go_enter Try.func57, Try.ntmps57
    go_wp2
    go_ret
    exact Yoi hE
 · have hE : Ji op a pl = [pl + 1] := by unfold Ji; rw [if_neg (by omega), if_neg (by omega), if_neg (by omega)]
   have b1 : (op == 1) = false := beq_eq_false_iff_ne.2 h.1
   have b2 : (op == 2) = false := beq_eq_false_iff_ne.2 h.2.1
   have b3 : (op == 18) = false := beq_eq_false_iff_ne.2 h.2.2.1
   have b4 : (op == 14) = false := beq_eq_false_iff_ne.2 h.2.2.2.1
   have b5 : (op == 15) = false := beq_eq_false_iff_ne.2 h.2.2.2.2.1
   have b6 : (op == 16) = false := beq_eq_false_iff_ne.2 h.2.2.2.2.2
   clear h
   go_enter Try.func57, Try.ntmps57
   go_wp2
   go_ret
   exact Zsb hE
end Go.Proofs.Ytecaolkbllbokaa.CK
