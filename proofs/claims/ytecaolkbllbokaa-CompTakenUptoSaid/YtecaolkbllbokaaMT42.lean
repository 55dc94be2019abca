import Derived.Test.YtecaolkbllbokaaMT41
import Derived.Deep.Cut
import Derived.Outline
import Derived.RegionTactic
import Derived.Test.YtecaolkbllbokaaMT14
import Derived.Test.YtecaolkbllbokaaMT08
set_option linter.unusedSimpArgs false
set_option linter.unusedVariables false
set_option maxRecDepth 100000
set_option maxHeartbeats 16000000
namespace Go.Proofs.Ytecaolkbllbokaa.CK
open Go.RowKit Go.Great Go.Maps
theorem Zmv {w W : World} {mem : Int} {pd : Option Addr} {nd cd : Nat} {pF : Option Addr} {cF : Nat} {fs : List FnP} (R5 : RnB w W mem pd nd cd pF cF fs) :
 RnW w (W.alloc (.cells #[.slice none 0 0, .slice none 0 0, .slice none 0 0, .slice none 0 0, .int .i64 0, .int .i64 0] 57)) mem pd nd cd pF cF fs W.heap.size 0 0 0 0 (.slice none 0 0) (.slice none 0 0) (.slice none 0 0) (fun _ => 0) (fun _ => 0) (fun _ => []) (fun _ => undef) (fun _ => 0) :=
 ⟨Jv R5 (Ga _ _ none) (fun k e => by cases e), heap_alloc_new _ _, R5.sz, World.ownsRow_nil _ _ _ _, World.ownsRow_nil _ _ _ _, World.ownsRow_nil _ _ _ _, (fun q hq => by cases hq), fun f hf => absurd hf (Nat.not_lt_zero _), fun f hf => absurd hf (Nat.not_lt_zero _), fun f fn hf => absurd hf (Nat.not_lt_zero _), fun f fn hf => absurd hf (Nat.not_lt_zero _)⟩
theorem Xav (mem : Int) (nd : Nat) (fs : List FnP) (pd pF : Option Addr) (cd cF B : Nat) (w W : World) (hB : B <= w.heap.size) (hF : Zam w B pF fs) (hp : Zda mem nd fs = 0) (hfo : Zeo fs) (hops : Ypn fs) (hok : Zvy fs) (R5 : RnB w W mem pd nd cd pF cF fs)
 (a : Act) (ha : Xck w.heap.size a) (K : Act -> World -> Prop) (hK : ∀ a w', Code.wp Try.prog (Zzo Try.f23 9) (bodyPost Try.prog Try.f23 (Zku w mem nd fs)) a w' -> K a w') :
 Code.wp Try.prog (Ycb Try.f23 9) (Exit.then K (bodyPost Try.prog Try.f23 (Zku w mem nd fs))) a W := by
 rw [Ywv ha]
 generalize (fun i => a.tmps.getD i undef) = t
 clear ha
 have HF := Hq hF
 have HP := Hq hp
 have HFO := Hq hfo
 have HOP := Hq hops
 have OK := Hq hok
 have h64 := hok.nf
 have hn1 := hok.n1
 have RW0 := Hq (Zmv R5)
 have hbx3 := R5.sz
 have m2 := Cq _ _ 2 _ _ _ (Zmv R5).b.pb
 have mq := (Array.getElem?_eq_some_iff.1 (Zmv R5).b.pb).1
 clear hF hp hfo hops hok R5
 unfold rnF
 generalize t 0 = u, t 4 = u, t 5 = u, t 6 = u, t 7 = u, t 8 = u, t 9 = u, t 10 = u, t 11 = u, t 12 = u, t 13 = u, t 14 = u, t 15 = u, t 16 = u, t 17 = u, t 18 = u, t 19 = u, t 20 = u, t 21 = u, t 22 = u, t 23 = u, t 24 = u, t 25 = u, t 26 = u, t 27 = u, t 28 = u, t 29 = u, t 30 = u, t 31 = u, t 32 = u, t 33 = u, t 34 = u, t 35 = u, t 36 = u, t 37 = u, t 38 = u, t 39 = u, t 40 = u, t 41 = u, t 42 = u, t 43 = u, t 44 = u, t 45 = u, t 46 = u, t 47 = u, t 48 = u, t 49 = u, t 50 = u, t 51 = u, t 52 = u, t 53 = u, t 54 = u, t 55 = u, t 56 = u, t 57 = u, t 58 = u, t 59 = u, t 60 = u, t 61 = u, t 62 = u, t 63 = u, t 64 = u, t 65 = u, t 66 = u, t 67 = u, t 68 = u, t 69 = u, t 70 = u, t 71 = u, t 72 = u, t 73 = u, t 74 = u, t 75 = u, t 76 = u, t 77 = u, t 78 = u, t 79 = u, t 80 = u, t 81 = u, t 82 = u, t 83 = u, t 84 = u, t 85 = u, t 86 = u, t 87 = u, t 88 = u, t 89 = u
 clear t
 conv => arg 2; whnf
 go_wp2
 try clear K
 conv => arg 2; whnf
 generalize W.heap.size = bx at *
 generalize W.alloc (.cells #[.slice none 0 0, .slice none 0 0, .slice none 0 0, .slice none 0 0, .int .i64 0, .int .i64 0] 57) = W1 at *
 go_wp2
 clear m2 mq
 go_loopw [45] (fun i wr => ∃ (k : Nat) (vH vT vL : Value) (gh : Nat -> Nat) (tops : Nat -> Int) (hs : Nat -> List Int) (lv : Nat -> Value) (ln : Nat -> Nat), i = .int .i64 k /\ k <= fs.length /\ RnW w wr mem pd nd cd pF cF fs bx k k k k vH vT vL gh tops hs lv ln) (fun i _ => fs.length - (intOf i).toNat)
 case atStart => exact ⟨0, _, _, _, _, _, _, _, _, rfl, Nat.zero_le _, RW0.out⟩
 case round =>
  obtain ⟨k, vH, vT, vL, gh, tops, hs, lv, ln, rfl, hk, hW⟩ := hrel
  obtain ⟨wo, hwo⟩ : ∃ wo, wo = wr := ⟨_, rfl⟩
  subst hwo
  clear RW0
  have HW := Hq hW
  have hpb := hW.b.pb
  have m0 := Cq _ _ 0 _ _ _ hpb
  have m1 := Cq _ _ 1 _ _ _ hpb
  have m2 := Cq _ _ 2 _ _ _ hpb
  have mq := (Gs hpb)
  have hxl := (Gs hW.xb)
  clear hpb
  by_cases hlt : (k : Int) < (fs.length : Int)
  · obtain ⟨⟨ar, lo, r, c⟩, hfn⟩ : ∃ fn, fs[k]? = some fn := ⟨_, List.getElem?_eq_getElem (by omega)⟩
    have HFN := Hq hfn
    have HLEN := Hq (Zxn hfn)
    obtain ⟨hc1, hc2⟩ := OK.out.len _ (List.mem_of_getElem? hfn)
    simp only [] at hc1 hc2
    have hBo : B <= wo.heap.size := Nat.le_trans hB hW.b.gr.size
    have HT := Hq (Zxt mem (.slice pd nd cd) fs pF cF B k (ar, lo, r, c) wo ⟨_, _, _, rfl⟩ hBo (Yb HF.out hW.b.gr (by simp)) hfn OK.out)
    clear hW hfn
    go_upto_region 14 with (go_at_call 38; refine HT.out.mono ?_; rintro e w1 ⟨g1, hres⟩; rcases hres with ⟨s, g, hr, hi, rfl, ho⟩ | ⟨s, pl, err, hr, hbad, rfl⟩ <;> (try unfold Yba))
    · have hlow := (ho.lt g rfl).1
      have RW1 := Hq (Ysj (Zer HW.out g1) HFN.out hr hi (by rw [HLEN.out]; exact Yr ho (by omega)) (fun e => by have := (HW.out.oT.lt g e).2; omega))
      have RW2 := Hq (Zer RW1.out (Ga w1 (.cells #[.int .i64 0, .int .i64 0, .int .i64 0] 61) none))
      have hb10 := heap_alloc_new w1 (.cells #[.int .i64 0, .int .i64 0, .int .i64 0] 61)
      have k0 := Cq _ _ 0 _ _ _ hb10
      have q10 := (Gs hb10)
      have hz1 := g1.size
      have hh0 : 0 <= s.h.getD 0 0 := by have := (Zjp OK.out (List.mem_of_getElem? HFN.out) hr).1; omega
      have HH0 := Hq hh0
      have hlh : s.h.length = c.length := hi.hl
      have HLH := Hq hlh
      clear RW1 hb10 m0 m1 m2 mq hr hi ho g1 HT HW hh0 hlh
      generalize w1.alloc (.cells #[.int .i64 0, .int .i64 0, .int .i64 0] 61) = W2 at *
      generalize w1.heap.size = b10 at *
      have x2 := RW2.out.xb
      have c0 := Cq _ _ 0 _ _ _ x2
      have q2 := (Gs x2)
      clear x2
      obtain ⟨ii, ii0, ii1, ii2, ii3⟩ := info_parts Zgv
      obtain ⟨gh', hgh⟩ : ∃ x, x = Yez gh k g := ⟨_, rfl⟩
      obtain ⟨tops', htops⟩ : ∃ x, x = Yez tops k s.top := ⟨_, rfl⟩
      obtain ⟨hs', hhs⟩ : ∃ x, x = Yez hs k s.h := ⟨_, rfl⟩
      rw [<- hgh, <- htops, <- hhs] at RW2
      have E1 := Hq (show gh' k = g by rw [hgh]; exact Jt _ _ _)
      have E2 := Hq (show tops' k = s.top by rw [htops]; exact Jt _ _ _)
      have E3 := Hq (show hs' k = s.h by rw [hhs]; exact Jt _ _ _)
      clear hgh htops hhs
      have hE : bx + 1 <= (W2.alloc (.cells #[.slice (some ⟨g, 0, none⟩) c.length c.length] 47)).heap.size := by simp; omega
      go_upto_region 17 with (at_builtin; refine wpList_append_own_at _ rfl _ _ 41 rfl (bx + 1) 47 ii (.slice none 0 0) 1 24 Zjj ii0 ii1 ii2 ii3 rfl (by decide) vH k _ rfl (RW2.out.oH.alloc _) ⟨W2.heap.size, 0, none⟩ 1 1 [.slice (some ⟨g, 0, none⟩) c.length c.length] rfl rfl (Zao W2 _ _) (Zgr _ _ _) (by unfold maxLen; omega) (by omega) hE ?_; intro v3 w5 hown3 hgr3 hnil3 hat3; have OW3 := Hq hown3; have GR3 := Hq hgr3; have HAT3 := Hq hat3; have x5 := Zc (Zc RW2.out.xb (Ga W2 (.cells #[.slice (some ⟨g, 0, none⟩) c.length c.length] 47) none) (by simp)) hgr3 (Zan RW2.out.oH (Nat.lt_succ_self _)); have y0 := Cq _ _ 0 _ _ _ x5; have z0 := frozen_of_row _ _ 0 _ _ x5; have q5 := (Gs x5); obtain ⟨p3, k3, hv3⟩ := Zm hown3; subst hv3; clear hown3 hgr3 hnil3 hat3 x5)
      have RW3 := Hq (Xbd RW2.out (Ga W2 (.cells #[.slice (some ⟨g, 0, none⟩) c.length c.length] 47) none) (by rw [E1.out, HLEN.out]; exact OW3.out) GR3.out HAT3.out)
      have hz3 := RW2.out.b.gr.size
      have hz5 := GR3.out.size
      have hz2 : bx < W2.heap.size := q2
      clear RW2 OW3 GR3 HAT3 c0 k0 q10 y0 z0 q5 q2
      obtain ⟨W5, hW5⟩ : ∃ W5, W5 = w5.setCell ⟨bx, 0, none⟩ (.slice p3 (k + 1) k3) := ⟨_, rfl⟩
      rw [<- hW5] at RW3 ⊢
      clear hW5
      have x5 := RW3.out.xb
      have c1 := Cq _ _ 1 _ _ _ x5
      have q5 := (Gs x5)
      clear x5
      obtain ⟨ji, ji0, ji1, ji2, ji3⟩ := info_parts Zaz
      have hE5 : bx + 1 <= (W5.alloc (.cells #[.int .i64 s.top] 3)).heap.size := by simp; omega
      go_upto_region 18 with (at_builtin; refine wpList_append_own_at _ rfl _ _ 47 rfl (bx + 1) 3 ji (.int .i64 0) 1 8 Zcd ji0 ji1 ji2 ji3 rfl (by decide) vT k _ rfl (RW3.out.oT.alloc _) ⟨W5.heap.size, 0, none⟩ 1 1 [.int .i64 s.top] rfl rfl (Zao W5 _ _) (Zae _ _) (by unfold maxLen; omega) (by omega) hE5 ?_; intro v4 w7 hown4 hgr4 hnil4 hat4; have OW4 := Hq hown4; have GR4 := Hq hgr4; have HAT4 := Hq hat4; have x7 := Zc (Zc RW3.out.xb (Ga W5 (.cells #[.int .i64 s.top] 3) none) (by simp)) hgr4 (Zan RW3.out.oT (Nat.lt_succ_self _)); have y1 := Cq _ _ 1 _ _ _ x7; have z1 := frozen_of_row _ _ 1 _ _ x7; have q7 := (Gs x7); obtain ⟨p4, k4, hv4⟩ := Zm hown4; subst hv4; clear hown4 hgr4 hnil4 hat4 x7)
      have RW4 := Hq (Xbb RW3.out (Ga W5 (.cells #[.int .i64 s.top] 3) none) (by rw [E2.out]; exact OW4.out) GR4.out HAT4.out)
      clear RW3 OW4 GR4 HAT4 c1 y1 z1 q7 q5 hz3 hz5 hz2
      obtain ⟨W8, hW8⟩ : ∃ W8, W8 = w7.setCell ⟨bx, 1, none⟩ (.slice p4 (k + 1) k4) := ⟨_, rfl⟩
      rw [<- hW8] at RW4 ⊢
      clear hW8
      rename_i K hK
      have LPS := Yhb mem (.slice pd nd cd) fs pF cF B k (ar, lo, r, c) g s.h W8.drew ⟨_, _, _, rfl⟩ (Nat.le_trans hB RW4.out.b.gr.size) (Yb HF.out (Zf RW4.out.b.gr) (by simp)) HFN.out OK.out (fun i hi => by
       have hr := RW4.out.rows k (Nat.lt_succ_self k)
       rw [E1.out, HLEN.out, E3.out] at hr
       have hl := HLH.out
       have := hr.cellAt i (by simp only [] at hi ⊢; omega)
       rw [List.getElem?_map, List.getElem?_eq_getElem (by simp only [] at hi; omega : i < s.h.length)] at this
       rw [List.getD_eq_getElem?_getD, List.getElem?_eq_getElem (by simp only [] at hi; omega : i < s.h.length)]
       exact this) HH0.out
      refine Ylk W8 (bx + 1) bx w.heap.size k k g c.length fs.length cF mem _ _ _ vL pF c s.h _ LPS RW4.out.xb RW4.out.b.pb ⟨Nat.lt_succ_self _, by have := (Gs RW4.out.xb); omega⟩ RW4.out.oL (by omega) _ rfl rfl rfl rfl rfl _ ?_
      intro lvv v7 N6 ws RK
      have RL := Xbc RW4.out HFN.out (by rw [E3.out]; exact RK)
      obtain ⟨nL, RL⟩ := RL
      have RL2 := Hq RL
      clear RL RK LPS RW4
      refine hK _ _ ?_
      simp only [Ja, rq, rqv, Act.put, List.setIfInBounds_toArray, List.set_cons_zero, List.set_cons_succ]
      clear hK K
      go_wp2
      refine ⟨⟨k + 1, _, _, _, _, _, _, _, _, by go_num, by omega, RL2.out⟩, by simp [intOf]; omega⟩
    · have hne : err ≠ 0 := by
       obtain ⟨-, -, h | h⟩ := hbad
       · exact h.1
       · omega
      have RB := Hq (show Zqh mem nd fs err k pl from ⟨hne, Or.inr (Or.inr (Or.inr ⟨HP.out, HFO.out, HOP.out, _, s, HFN.out, hr, hbad⟩))⟩)
      have hbb : (err == 0) = false := by simp [hne]
      have hb5 := heap_alloc_new w1 (.cells #[.int .i64 err, .int .i64 k, .int .i64 pl] 61)
      have R1 := (Zer HW.out g1).b
      have hs4 := R1.sz
      have R5 := Hq (Jv R1 (Ga w1 (.cells #[.int .i64 err, .int .i64 k, .int .i64 pl] 61) none) (fun k e => by cases e))
      clear R1 hr hbad HT g1 m0 m1 m2 mq hne HW
      generalize hb : w1.heap.size = b5 at *
      clear hb
      generalize w1.alloc (.cells #[.int .i64 err, .int .i64 k, .int .i64 pl] 61) = W5 at *
      have k0 := Cq _ _ 0 _ _ _ hb5
      have k1 := Cq _ _ 1 _ _ _ hb5
      have k2 := Cq _ _ 2 _ _ _ hb5
      have q5 := (Gs hb5)
      have x2 := R5.out.f2
      have x3 := R5.out.f3
      have v0 := Cq _ _ 0 _ _ _ x2
      have v1 := Cq _ _ 1 _ _ _ x2
      have v2 := Cq _ _ 2 _ _ _ x2
      have v3 := Cq _ _ 3 _ _ _ x2
      have v4 := Cq _ _ 4 _ _ _ x2
      have v5 := Cq _ _ 5 _ _ _ x2
      have j0 := Cq _ _ 0 _ _ _ x3
      have j1 := Cq _ _ 1 _ _ _ x3
      have j2 := Cq _ _ 2 _ _ _ x3
      have z0 := frozen_of_row _ _ 0 _ _ x2
      have z1 := frozen_of_row _ _ 1 _ _ x2
      have z2 := frozen_of_row _ _ 2 _ _ x2
      have z3 := frozen_of_row _ _ 3 _ _ x2
      have z4 := frozen_of_row _ _ 4 _ _ x2
      have z5 := frozen_of_row _ _ 5 _ _ x2
      have y0 := frozen_of_row _ _ 0 _ _ x3
      have y1 := frozen_of_row _ _ 1 _ _ x3
      have y2 := frozen_of_row _ _ 2 _ _ x3
      have q2 := (Gs x2)
      have q3 := (Gs x3)
      have n1 : ¬ b5 = w.heap.size + 1 := by omega
      have n2 : ¬ b5 = w.heap.size + 1 + 1 := by omega
      have n3 : ¬ w.heap.size + 1 = b5 := by omega
      have n4 : ¬ w.heap.size + 1 + 1 = b5 := by omega
      clear x2 x3 hb5
      have E9 := Zjc (F0 := .slice none 0 0) (F1 := .slice none 0 0) (F2 := .slice none 0 0) (F3 := .slice none 0 0) (F4 := .int .i64 0) (F5 := .int .i64 0) (G0 := .int .i64 err) (G1 := .int .i64 k) (G2 := .int .i64 pl) R5.out
      obtain ⟨w9, hw9⟩ : ∃ w9, w9 = Zwf W5 (w.heap.size + 1) (w.heap.size + 1 + 1) (.slice none 0 0) (.slice none 0 0) (.slice none 0 0) (.slice none 0 0) (.int .i64 0) (.int .i64 0) (.int .i64 err) (.int .i64 k) (.int .i64 pl) := ⟨_, rfl⟩
      rw [<- hw9] at E9
      unfold Zwf at hw9
      have EE := Hq E9
      have HW9 := Hq hw9
      clear E9 hw9
      go_wp2
      go_region
      all_goals
       rw [<- HW9.out]
       clear k0 k1 k2 v0 v1 v2 v3 v4 v5 j0 j1 j2 z0 z1 z2 z3 z4 z5 y0 y1 y2 q2 q3 n1 n2 n3 n4
       go_wp2
       exact Zkr rfl rfl rfl EE.out.2.1 EE.out.2.2 ⟨Zf EE.out.1, Or.inl ⟨_, _, _, rfl, RB.out⟩⟩
  · have hkn : k = fs.length := by omega
    subst hkn
    obtain ⟨gH, gT, gL, cH, cT, cL, S⟩ := Ywu hW OK.out
    have LKH := Hq (Zlv _ _ _ _ _ _ _ _ _ _ _ _ _ _ _ _ _ _ _ _ _ (Yyj hW OK.out S HF.out hB) OK.out)
    unfold Zot at LKH
    have HS := Hq S
    clear hW S
    have hmm := @run_makeMap Try.prog
    go_wp2_with (go_at_call 40; refine LKH.out.mono ?_; rintro e w8 hA; obtain ⟨v8, hv8⟩ := hA.1; subst hv8; have FIN := Ysf HW.out OK.out HS.out hA; clear hA; obtain ⟨gV, V, ce, co, hR8, hx8, hO8⟩ := FIN; have R8 := Hq hR8; have O8 := Hq hO8; have x2 := hR8.f2; have x3 := hR8.f3; have i0 := Cq _ _ 0 _ _ _ hx8; have i1 := Cq _ _ 1 _ _ _ hx8; have i2 := Cq _ _ 2 _ _ _ hx8; have i3 := Cq _ _ 3 _ _ _ hx8; have i4 := Cq _ _ 4 _ _ _ hx8; have i5 := Cq _ _ 5 _ _ _ hx8; have q1 := (Gs hx8); have v0 := Cq _ _ 0 _ _ _ x2; have v1 := Cq _ _ 1 _ _ _ x2; have v2 := Cq _ _ 2 _ _ _ x2; have v3 := Cq _ _ 3 _ _ _ x2; have v4 := Cq _ _ 4 _ _ _ x2; have v5 := Cq _ _ 5 _ _ _ x2; have j0 := Cq _ _ 0 _ _ _ x3; have j1 := Cq _ _ 1 _ _ _ x3; have j2 := Cq _ _ 2 _ _ _ x3; have z0 := frozen_of_row _ _ 0 _ _ x2; have z1 := frozen_of_row _ _ 1 _ _ x2; have z2 := frozen_of_row _ _ 2 _ _ x2; have z3 := frozen_of_row _ _ 3 _ _ x2; have z4 := frozen_of_row _ _ 4 _ _ x2; have z5 := frozen_of_row _ _ 5 _ _ x2; have y0 := frozen_of_row _ _ 0 _ _ x3; have y1 := frozen_of_row _ _ 1 _ _ x3; have y2 := frozen_of_row _ _ 2 _ _ x3; have q2 := (Gs x2); have q3 := (Gs x3); clear hR8 hx8 hO8 x2 x3)
    exact Zkr rfl rfl rfl (Zjc R8.out).2.1 (Zjc R8.out).2.2 ⟨(Zjc R8.out).1, Or.inr ⟨HP.out, HFO.out, HOP.out, _, _, _, _, _, _, _, _, _, _, _, _, _, rfl, O8.out⟩⟩
theorem Xaw (mem : Int) (nd : Nat) (fs : List FnP) (pd pF : Option Addr) (cd cF B : Nat) (w : World) (hB : B <= w.heap.size) (hF : Zam w B pF fs) (hn : nd <= 9223372036854775807) (hp : Zda mem nd fs = 0) (hfo : Zeo fs) :
 Calls Try.prog 23 #[.agg #[.int .i64 mem, .slice pd nd cd, .slice pF fs.length cF]] w (Zku w mem nd fs) := by
 obtain ⟨t1, t2, t3⟩ := Zce w (.cells #[.int .i64 mem, .slice pd nd cd, .slice pF fs.length cF] 32) (.cells #[.slice none 0 0, .slice none 0 0, .slice none 0 0, .slice none 0 0, .int .i64 0, .int .i64 0] 57) (.cells #[.int .i64 0, .int .i64 0, .int .i64 0] 61)
 have g3 := Zcf w (.cells #[.int .i64 mem, .slice pd nd cd, .slice pF fs.length cF] 32) (.cells #[.slice none 0 0, .slice none 0 0, .slice none 0 0, .slice none 0 0, .int .i64 0, .int .i64 0] 57) (.cells #[.int .i64 0, .int .i64 0, .int .i64 0] 61)
 have PC := Hq (Zkg mem nd fs pd pF cd cF B _ (Nat.le_trans hB g3.size) (Yb hF g3 (by simp)) hn)
 rw [hp] at PC
 have R3 := Hq (show RnB w _ mem pd nd cd pF cF fs from ⟨g3, t1, t2, t3, by simp⟩)
 obtain ⟨hl1, hl2, hl3⟩ := Ztp hp
 have hz : (0 : Int) < (fs.length : Int) := by omega
 have hfo2 := hfo
 obtain ⟨⟨ar, lo, r, c⟩, hfn, h1, h2⟩ := hfo2
 simp only [] at h1 h2
 subst h1
 subst h2
 have HF := Hq hF
 obtain ⟨bF, oF, hpF, hbF, hcF⟩ := hF (by omega)
 obtain ⟨e0, e1, e2, -⟩ := hcF 0 0 lo 1 c hfn
 simp only [Nat.zero_mul, Nat.add_zero] at e0 e1 e2
 have E0 := Hq e0
 have E2 := Hq e2
 have hbF2 : bF < w.heap.size := by omega
 have HP := Hq hp
 have HFO := Hq hfo
 have OPS := Hq (fun (W : World) (hg : w.grownBy W none) => Zwz mem (.slice pd nd cd) fs pF cF B W ⟨_, _, _, rfl⟩ (Nat.le_trans hB hg.size) (Yb hF hg (by simp)) hl2 (fun fn hm => (hl3 fn hm).2))
 subst hpF
 clear t1 t2 t3 g3 hF hp hcF hfn e0 e1 e2 hfo hl1 hl3
 go_enter Try.func23, Try.ntmps23
 go_upto_region 7 with (first
  | (go_at_call 36; refine PC.out.mono ?_; rintro e w2 ⟨rfl, g2⟩; have R2 := Hq (Jv R3.out g2 (fun k e => by cases e)); have s1 := R2.out.pb; have m0 := Cq _ _ 0 _ _ _ s1; have m1 := Cq _ _ 1 _ _ _ s1; have m2 := Cq _ _ 2 _ _ _ s1; have s1q := (Gs s1); have n0 := R2.out.gr.cell E0.out (by simp); have n2 := R2.out.gr.cell E2.out (by simp); have nq := Nat.lt_of_lt_of_le hbF2 R2.out.gr.size; clear g2 s1)
  | (go_at_call 37; refine (OPS.out _ R2.out.gr).mono ?_; rintro e w3 ⟨g3, err, f, n, rfl, ho⟩; have R4 := Hq (Jv R2.out g3 (fun k e => by cases e)); have HO := Hq ho; clear g3 ho m0 m1 m2 s1q n0 n2 nq))
 have hb5 := heap_alloc_new w3 (.cells #[.int .i64 err, .int .i64 f, .int .i64 n] 61)
 have R5 := Hq (Jv R4.out (Ga w3 (.cells #[.int .i64 err, .int .i64 f, .int .i64 n] 61) none) (fun k e => by cases e))
 have hs4 := R4.out.sz
 generalize hb : w3.heap.size = b5 at *
 clear hb R4
 generalize w3.alloc (.cells #[.int .i64 err, .int .i64 f, .int .i64 n] 61) = W at *
 have HB5 := Hq hb5
 have k0 := Cq _ _ 0 _ _ _ hb5
 have k1 := Cq _ _ 1 _ _ _ hb5
 have k2 := Cq _ _ 2 _ _ _ hb5
 have q5 := (Gs hb5)
 clear hb5
 rcases HO.out with ⟨rfl, rfl, rfl, hok⟩ | ⟨hne, hbad⟩
 · have PO := Hq (Yso HP.out (fun fn hm => hok fn hm))
   have HOK := Hq hok
   clear k1 k2 hok
   go_upto_region 9 with fail
   rename_i K hK
   exact Xav mem nd fs pd _ cd cF B w W hB HF.out HP.out HFO.out HOK.out PO.out R5.out _ ⟨rfl, rfl, rfl, rfl, rfl⟩ K hK
 · have hbb : (err == 0) = false := by simp [hne]
   have RB := Hq (show Zqh mem nd fs err f n from ⟨hne, Or.inr (Or.inr (Or.inl ⟨HP.out, HFO.out, HO.out⟩))⟩)
   have x2 := R5.out.f2
   have x3 := R5.out.f3
   have v0 := Cq _ _ 0 _ _ _ x2
   have v1 := Cq _ _ 1 _ _ _ x2
   have v2 := Cq _ _ 2 _ _ _ x2
   have v3 := Cq _ _ 3 _ _ _ x2
   have v4 := Cq _ _ 4 _ _ _ x2
   have v5 := Cq _ _ 5 _ _ _ x2
   have j0 := Cq _ _ 0 _ _ _ x3
   have j1 := Cq _ _ 1 _ _ _ x3
   have j2 := Cq _ _ 2 _ _ _ x3
   have z0 := frozen_of_row _ _ 0 _ _ x2
   have z1 := frozen_of_row _ _ 1 _ _ x2
   have z2 := frozen_of_row _ _ 2 _ _ x2
   have z3 := frozen_of_row _ _ 3 _ _ x2
   have z4 := frozen_of_row _ _ 4 _ _ x2
   have z5 := frozen_of_row _ _ 5 _ _ x2
   have y0 := frozen_of_row _ _ 0 _ _ x3
   have y1 := frozen_of_row _ _ 1 _ _ x3
   have y2 := frozen_of_row _ _ 2 _ _ x3
   have q2 := (Gs x2)
   have q3 := (Gs x3)
   have n1 : ¬ b5 = w.heap.size + 1 := by omega
   have n2 : ¬ b5 = w.heap.size + 1 + 1 := by omega
   have n3 : ¬ w.heap.size + 1 = b5 := by omega
   have n4 : ¬ w.heap.size + 1 + 1 = b5 := by omega
   clear x2 x3 hne hbad
   go_wp2
   have E9 := Zjc (F0 := .slice none 0 0) (F1 := .slice none 0 0) (F2 := .slice none 0 0) (F3 := .slice none 0 0) (F4 := .int .i64 0) (F5 := .int .i64 0) (G0 := .int .i64 err) (G1 := .int .i64 f) (G2 := .int .i64 n) R5.out
   obtain ⟨w9, hw9⟩ : ∃ w9, w9 = Zwf W (w.heap.size + 1) (w.heap.size + 1 + 1) (.slice none 0 0) (.slice none 0 0) (.slice none 0 0) (.slice none 0 0) (.int .i64 0) (.int .i64 0) (.int .i64 err) (.int .i64 f) (.int .i64 n) := ⟨_, rfl⟩
   rw [<- hw9] at E9
   unfold Zwf at hw9
   have EE := Hq E9
   have HW9 := Hq hw9
   clear E9 hw9
   go_region
   all_goals
    rw [<- HW9.out]
    clear k0 k1 k2 v0 v1 v2 v3 v4 v5 j0 j1 j2 z0 z1 z2 z3 z4 z5 y0 y1 y2 q2 q3 n1 n2 n3 n4
    go_wp2
    exact Zkr rfl rfl rfl EE.out.2.1 EE.out.2.2 ⟨Zf EE.out.1, Or.inl ⟨_, _, _, rfl, RB.out⟩⟩
theorem Ysg (mem : Int) (nd : Nat) (fs : List FnP) (pd pF : Option Addr) (cd cF B : Nat) (w : World) (hB : B <= w.heap.size) (hF : Zam w B pF fs) (hn : nd <= 9223372036854775807) :
 Calls Try.prog 23 #[.agg #[.int .i64 mem, .slice pd nd cd, .slice pF fs.length cF]] w (Zku w mem nd fs) := by
 by_cases hp : Zda mem nd fs = 0
 · by_cases hfo : Zeo fs
   · exact Xaw mem nd fs pd pF cd cF B w hB hF hn hp hfo
   · exact Xax mem nd fs pd pF cd cF B w hB hF hn hp hfo
 · exact Xay mem nd fs pd pF cd cF B w hB hF hn hp
end Go.Proofs.Ytecaolkbllbokaa.CK
namespace Go.Proofs.Ytecaolkbllbokaa.CT
open Go.RowKit Go.Great
open Go.Proofs.Ytecaolkbllbokaa.TG
theorem Ywr {u : Un} {mem : Int} (h : Jm u mem = 0) {pd pF : Option Addr} {cd cF n b : Nat} {vd vF : Value} {w : World} (o : Zhg w b vd vF (pgU u mem)) (e : vF = .slice pF n cF) :
 Calls Try.prog 23 #[.agg #[.int .i64 mem, .slice pd (Zfp u).length cd, .slice pF u.funcs.length cF]] w fun e w' => (∃ (gH cH gT cT gL cL gV : Nat) (ce co : Int), e = .returned (.tuple #[.agg #[.slice (some ⟨gH, 0, none⟩) u.funcs.length cH, .slice (some ⟨gT, 0, none⟩) u.funcs.length cT, .slice (some ⟨gL, 0, none⟩) u.funcs.length cL, .slice (some ⟨gV, 0, none⟩) u.funcs.length u.funcs.length, .int .i64 ce, .int .i64 co], .agg #[.int .i64 0, .int .i64 0, .int .i64 0]])) /\ w.grownBy w' none := by
 have hF := Zou o e
 rw [Zzs h] at hF
 have hl : (fsU u).length = u.funcs.length := by simp [fsU]
 have hd := Zvj u
 have hm := Ybf h
 have R := CK.Ysg mem (Zfp u).length (fsU u) pd pF cd cF w.heap.size w (Nat.le_refl _) hF (by omega)
 rw [hl] at R
 refine R.mono ?_
 rintro e w' ⟨g, ⟨err, f, n, rfl, hb⟩ | ⟨_, _, _, F, _, _, _, _, _, _, _, _, _, _, _, _, rfl, hR⟩⟩
 · exact absurd hb (Yxl h err f n)
 · rw [hR.f, hl]
   exact ⟨⟨_, _, _, _, _, _, _, _, _, rfl⟩, g⟩
theorem Zjy (w : World) (o o' : Obj) : ((w.alloc o).alloc o').heap[w.heap.size]? = some o /\ ((w.alloc o).alloc o').heap[w.heap.size + 1]? = some o' := by
 constructor
 · exact Zc (row := none) (heap_alloc_new w o) (Ga _ o' none) (by simp)
 · have h := heap_alloc_new (w.alloc o) o'
   rw [World.size_alloc] at h; exact h
theorem Zey (w : World) : Calls Try.prog 9 #[] w fun e w' => e = .returned (.bool true) /\ w.grownBy w' none := Yie w
theorem Ykx (u : Un) (mem : Int) (pt pf : Option Addr) (ct cf B : Nat) (w : World) (hL : Xae w B pt pf ct u) (h0 : Jm u mem = 0) :
 Calls Try.prog 7 #[.agg #[.slice pt u.texts.length ct, .slice pf u.funcs.length cf], .int .i64 mem] w fun e w' => e = .returned (.bool true) /\ w.grownBy w' none := by
 have hU := hL.at_
 have CO := Hq (fun (W : World) (g : w.grownBy W none) => Ybg u mem pt pf ct cf B W (Yl hU g (by simp)) (Zmr hL.ok hU g))
 have CA := Hq (fun (W : World) (g : w.grownBy W none) => Zhb u hL.ok.wf pt pf ct cf B W (Yl hU g (by simp)))
 have BX := Hq (Zhy w (.slice pt u.texts.length ct) (.slice pf u.funcs.length cf))
 have G0 := Hq (Ga w (.cells #[.slice pt u.texts.length ct, .slice pf u.funcs.length cf] 25) none)
 have b0 := Zbv BX.out
 have b1 := Zbu BX.out
 have bl := Jd BX.out
 have HC0 := Hq h0
 have HK := Hq (Zmd h0).1
 have PM := Hq (Ywz h0)
 have PD := Hq (show (pgU u mem).data.length = (Zfp u).length by rw [Ysp h0])
 have PF := Hq (show (pgU u mem).funcs.length = u.funcs.length by rw [Zzs h0]; simp [fsU])
 clear hL hU h0
 go_enter Try.func7, Try.ntmps7
 go_wp2_with (first
  | (go_at_call 11; refine (CO.out _ G0.out).mono ?_; intro e w2 hp; obtain ⟨vd2, vF2, he, g2, o2⟩ := Zcq hp; obtain ⟨pd2, cd2, pF2, cF2, e2, e2'⟩ := Zdp o2; rw [PD.out] at e2; rw [PF.out] at e2'; subst e2; subst e2'; rw [HC0.out, PM.out] at he; subst he; have A2 := Hq (Ga w2 (.cells #[.int .i64 mem, .slice pd2 (Zfp u).length cd2, .slice pF2 u.funcs.length cF2] 32) none); have X3 := Hq (Yi (Yi BX.out g2 (by simp)) A2.out (by simp)); have V3 := Hq (heap_alloc_new w2 (.cells #[.int .i64 mem, .slice pd2 (Zfp u).length cd2, .slice pF2 u.funcs.length cF2] 32)); have R3 := Hq (Yge o2 A2.out); have G3 := Hq (Za (Za G0.out g2) A2.out); have b0 := Zbv X3.out; have b1 := Zbu X3.out; have bl := Jd X3.out; have p0 := Cq _ _ 0 _ _ _ V3.out; have p1 := Cq _ _ 1 _ _ _ V3.out; have p2 := Cq _ _ 2 _ _ _ V3.out; have pl := (Gs V3.out); clear hp g2 o2)
  | (go_at_call 23; refine (Ywr HC0.out R3.out rfl).mono ?_; rintro e w4 ⟨⟨gH, cH, gT, cT, gL, cL, gV, ce, co, rfl⟩, g4⟩; have g6 := Za g4 (Za (Ga w4 (.cells #[.slice (some ⟨gH, 0, none⟩) u.funcs.length cH, .slice (some ⟨gT, 0, none⟩) u.funcs.length cT, .slice (some ⟨gL, 0, none⟩) u.funcs.length cL, .slice (some ⟨gV, 0, none⟩) u.funcs.length u.funcs.length, .int .i64 ce, .int .i64 co] 57) none) (Ga _ (.cells #[.int .i64 0, .int .i64 0, .int .i64 0] 61) none)); have Y9 := Hq (Zjy w4 (.cells #[.slice (some ⟨gH, 0, none⟩) u.funcs.length cH, .slice (some ⟨gT, 0, none⟩) u.funcs.length cT, .slice (some ⟨gL, 0, none⟩) u.funcs.length cL, .slice (some ⟨gV, 0, none⟩) u.funcs.length u.funcs.length, .int .i64 ce, .int .i64 co] 57) (.cells #[.int .i64 0, .int .i64 0, .int .i64 0] 61)).2; have V9 := Hq (Zc V3.out g6 (by simp)); have G9 := Hq (Za G3.out g6); have X9 := Hq (Yi X3.out g6 (by simp)); have X4 := Hq (Yi X3.out g4 (by simp)); have b0 := Zbv X4.out; have b1 := Zbu X4.out; have bl := Jd X4.out; clear g4 g6)
  | (go_at_call 22; refine (CA.out _ G9.out).mono ?_; rintro e w5 ⟨he, g5⟩; rw [HK.out] at he; subst he; have V5 := Hq (Zc V9.out g5 (by simp)); have Y5 := Hq (Zc Y9.out g5 (by simp)); have X5 := Hq (Yi X9.out g5 (by simp)); have b0 := Zbv X5.out; have b1 := Zbu X5.out; have bl := Jd X5.out; have G5 := Hq (Za G9.out g5); have p0 := Cq _ _ 0 _ _ _ V5.out; have p1 := Cq _ _ 1 _ _ _ V5.out; have p2 := Cq _ _ 2 _ _ _ V5.out; have pl := (Gs V5.out); have y0 := Cq _ _ 0 _ _ _ Y5.out; have yl := (Gs Y5.out); clear g5)
  | (go_at_call 9; refine (Zey _).mono ?_; rintro e w6 ⟨rfl, hg⟩; have G6 := Hq (Za G5.out hg); clear hg))
 go_ret
 exact ⟨rfl, G6.out⟩
theorem Yxa {u : Un} {mem : Int} (h : ¬ Jm u mem = 0) : pgU u mem = ⟨0, [], []⟩ := by
 unfold pgU; rw [if_neg h]
theorem Ypb {u : Un} {mem : Int} (h : Ys u = 0) (h1 : ¬ mem < 0) (h2 : ¬ 65536 < mem) (hne : ¬ Jm u mem = 0) : Jm u mem = 181 := by
 unfold Jm at hne ⊢
 rw [if_neg (by simp [h]), if_neg (by omega)] at hne ⊢
 split
 · rfl
 · rename_i h3
   rw [if_neg h3] at hne
   split
   · rfl
   · rename_i h4
     rw [if_neg h4] at hne
     exact absurd rfl hne
theorem Yfh (u : Un) (mem : Int) (pt pf : Option Addr) (ct cf B : Nat) (w : World) (hL : Xae w B pt pf ct u) (code ck : Int) (hc : Jm u mem = code) (hk : Ys u = ck) (hne : ¬ code = 0) (hcs : ck ≠ 0 \/ mem < 0 \/ 65536 < mem \/ code = 181) :
 Calls Try.prog 7 #[.agg #[.slice pt u.texts.length ct, .slice pf u.funcs.length cf], .int .i64 mem] w fun e w' => e = .returned (.bool true) /\ w.grownBy w' none := by
 have hU := hL.at_
 have CO := Hq (fun (W : World) (g : w.grownBy W none) => Ybg u mem pt pf ct cf B W (Yl hU g (by simp)) (Zmr hL.ok hU g))
 have CA := Hq (fun (W : World) (g : w.grownBy W none) => Zhb u hL.ok.wf pt pf ct cf B W (Yl hU g (by simp)))
 have BX := Hq (Zhy w (.slice pt u.texts.length ct) (.slice pf u.funcs.length cf))
 have G0 := Hq (Ga w (.cells #[.slice pt u.texts.length ct, .slice pf u.funcs.length cf] 25) none)
 have b0 := Zbv BX.out
 have b1 := Zbu BX.out
 have bl := Jd BX.out
 have HC0 := Hq hc
 have HK := Hq hk
 have PE := Hq (Yxa (u := u) (mem := mem) (by rw [hc]; exact hne))
 have HCS := Hq hcs
 clear hL hU hc hk hcs
 by_cases k0 : ck = 0
 · by_cases m0 : mem < 0
   · go_enter Try.func7, Try.ntmps7
     go_wp2_with (first
      | (go_at_call 11; refine (CO.out _ G0.out).mono ?_; intro e w2 hp; obtain ⟨vd2, vF2, he, g2, o2⟩ := Zcq hp; obtain ⟨pd2, cd2, pF2, cF2, e2, e2'⟩ := Zdp o2; rw [PE.out] at he e2 e2'; subst e2; subst e2'; rw [HC0.out] at he; subst he; have A2 := Hq (Ga w2 (.cells #[.int .i64 0, .slice pd2 0 cd2, .slice pF2 0 cF2] 32) none); have X3 := Hq (Yi (Yi BX.out g2 (by simp)) A2.out (by simp)); have V3 := Hq (heap_alloc_new w2 (.cells #[.int .i64 0, .slice pd2 0 cd2, .slice pF2 0 cF2] 32)); have G3 := Hq (Za (Za G0.out g2) A2.out); have b0 := Zbv X3.out; have b1 := Zbu X3.out; have bl := Jd X3.out; have p0 := Cq _ _ 0 _ _ _ V3.out; have p1 := Cq _ _ 1 _ _ _ V3.out; have p2 := Cq _ _ 2 _ _ _ V3.out; have pl := (Gs V3.out); clear hp g2 o2)
      | (go_at_call 22; refine (CA.out _ G3.out).mono ?_; rintro e w5 ⟨he, g5⟩; rw [HK.out] at he; subst he; have V5 := Hq (Zc V3.out g5 (by simp)); have G5 := Hq (Za G3.out g5); have p0 := Cq _ _ 0 _ _ _ V5.out; have p1 := Cq _ _ 1 _ _ _ V5.out; have p2 := Cq _ _ 2 _ _ _ V5.out; have pl := (Gs V5.out); clear g5)
      | (go_at_call 9; refine (Zey _).mono ?_; rintro e w6 ⟨rfl, hg⟩; have G6 := Hq (Za G5.out hg); clear hg))
     go_ret
     exact ⟨rfl, G6.out⟩
   · by_cases m1 : 65536 < mem
     · go_enter Try.func7, Try.ntmps7
       go_wp2_with (first
        | (go_at_call 11; refine (CO.out _ G0.out).mono ?_; intro e w2 hp; obtain ⟨vd2, vF2, he, g2, o2⟩ := Zcq hp; obtain ⟨pd2, cd2, pF2, cF2, e2, e2'⟩ := Zdp o2; rw [PE.out] at he e2 e2'; subst e2; subst e2'; rw [HC0.out] at he; subst he; have A2 := Hq (Ga w2 (.cells #[.int .i64 0, .slice pd2 0 cd2, .slice pF2 0 cF2] 32) none); have X3 := Hq (Yi (Yi BX.out g2 (by simp)) A2.out (by simp)); have V3 := Hq (heap_alloc_new w2 (.cells #[.int .i64 0, .slice pd2 0 cd2, .slice pF2 0 cF2] 32)); have G3 := Hq (Za (Za G0.out g2) A2.out); have b0 := Zbv X3.out; have b1 := Zbu X3.out; have bl := Jd X3.out; have p0 := Cq _ _ 0 _ _ _ V3.out; have p1 := Cq _ _ 1 _ _ _ V3.out; have p2 := Cq _ _ 2 _ _ _ V3.out; have pl := (Gs V3.out); clear hp g2 o2)
        | (go_at_call 22; refine (CA.out _ G3.out).mono ?_; rintro e w5 ⟨he, g5⟩; rw [HK.out] at he; subst he; have V5 := Hq (Zc V3.out g5 (by simp)); have G5 := Hq (Za G3.out g5); have p0 := Cq _ _ 0 _ _ _ V5.out; have p1 := Cq _ _ 1 _ _ _ V5.out; have p2 := Cq _ _ 2 _ _ _ V5.out; have pl := (Gs V5.out); clear g5)
        | (go_at_call 9; refine (Zey _).mono ?_; rintro e w6 ⟨rfl, hg⟩; have G6 := Hq (Za G5.out hg); clear hg))
       go_ret
       exact ⟨rfl, G6.out⟩
     · have c181 : code = 181 := by have := HCS.out; omega
       subst c181
       go_enter Try.func7, Try.ntmps7
       go_wp2_with (first
        | (go_at_call 11; refine (CO.out _ G0.out).mono ?_; intro e w2 hp; obtain ⟨vd2, vF2, he, g2, o2⟩ := Zcq hp; obtain ⟨pd2, cd2, pF2, cF2, e2, e2'⟩ := Zdp o2; rw [PE.out] at he e2 e2'; subst e2; subst e2'; rw [HC0.out] at he; subst he; have A2 := Hq (Ga w2 (.cells #[.int .i64 0, .slice pd2 0 cd2, .slice pF2 0 cF2] 32) none); have X3 := Hq (Yi (Yi BX.out g2 (by simp)) A2.out (by simp)); have V3 := Hq (heap_alloc_new w2 (.cells #[.int .i64 0, .slice pd2 0 cd2, .slice pF2 0 cF2] 32)); have G3 := Hq (Za (Za G0.out g2) A2.out); have b0 := Zbv X3.out; have b1 := Zbu X3.out; have bl := Jd X3.out; have p0 := Cq _ _ 0 _ _ _ V3.out; have p1 := Cq _ _ 1 _ _ _ V3.out; have p2 := Cq _ _ 2 _ _ _ V3.out; have pl := (Gs V3.out); clear hp g2 o2)
        | (go_at_call 22; refine (CA.out _ G3.out).mono ?_; rintro e w5 ⟨he, g5⟩; rw [HK.out] at he; subst he; have V5 := Hq (Zc V3.out g5 (by simp)); have G5 := Hq (Za G3.out g5); have p0 := Cq _ _ 0 _ _ _ V5.out; have p1 := Cq _ _ 1 _ _ _ V5.out; have p2 := Cq _ _ 2 _ _ _ V5.out; have pl := (Gs V5.out); clear g5)
        | (go_at_call 9; refine (Zey _).mono ?_; rintro e w6 ⟨rfl, hg⟩; have G6 := Hq (Za G5.out hg); clear hg))
       go_ret
       exact ⟨rfl, G6.out⟩
 · go_enter Try.func7, Try.ntmps7
   go_wp2_with (first
    | (go_at_call 11; refine (CO.out _ G0.out).mono ?_; intro e w2 hp; obtain ⟨vd2, vF2, he, g2, o2⟩ := Zcq hp; obtain ⟨pd2, cd2, pF2, cF2, e2, e2'⟩ := Zdp o2; rw [PE.out] at he e2 e2'; subst e2; subst e2'; rw [HC0.out] at he; subst he; have A2 := Hq (Ga w2 (.cells #[.int .i64 0, .slice pd2 0 cd2, .slice pF2 0 cF2] 32) none); have X3 := Hq (Yi (Yi BX.out g2 (by simp)) A2.out (by simp)); have V3 := Hq (heap_alloc_new w2 (.cells #[.int .i64 0, .slice pd2 0 cd2, .slice pF2 0 cF2] 32)); have G3 := Hq (Za (Za G0.out g2) A2.out); have b0 := Zbv X3.out; have b1 := Zbu X3.out; have bl := Jd X3.out; have p0 := Cq _ _ 0 _ _ _ V3.out; have p1 := Cq _ _ 1 _ _ _ V3.out; have p2 := Cq _ _ 2 _ _ _ V3.out; have pl := (Gs V3.out); clear hp g2 o2)
    | (go_at_call 22; refine (CA.out _ G3.out).mono ?_; rintro e w5 ⟨he, g5⟩; rw [HK.out] at he; subst he; have V5 := Hq (Zc V3.out g5 (by simp)); have G5 := Hq (Za G3.out g5); have p0 := Cq _ _ 0 _ _ _ V5.out; have p1 := Cq _ _ 1 _ _ _ V5.out; have p2 := Cq _ _ 2 _ _ _ V5.out; have pl := (Gs V5.out); clear g5)
    | (go_at_call 9; refine (Zey _).mono ?_; rintro e w6 ⟨rfl, hg⟩; have G6 := Hq (Za G5.out hg); clear hg))
   go_ret
   exact ⟨rfl, G6.out⟩
theorem Yhq (u : Un) (mem : Int) (pt pf : Option Addr) (ct cf B : Nat) (w : World) (hL : Xae w B pt pf ct u) :
 Calls Try.prog 7 #[.agg #[.slice pt u.texts.length ct, .slice pf u.funcs.length cf], .int .i64 mem] w fun e w' => e = .returned (.bool true) /\ w.grownBy w' none := by
 by_cases h0 : Jm u mem = 0
 · exact Ykx u mem pt pf ct cf B w hL h0
 · refine Yfh u mem pt pf ct cf B w hL _ _ rfl rfl h0 ?_
   by_cases k0 : Ys u = 0
   · by_cases m0 : mem < 0
     · exact Or.inr (Or.inl m0)
     · by_cases m1 : 65536 < mem
       · exact Or.inr (Or.inr (Or.inl m1))
       · exact Or.inr (Or.inr (Or.inr (Ypb k0 m0 m1 h0)))
   · exact Or.inl k0
end Go.Proofs.Ytecaolkbllbokaa.CT
