import Derived.Test.YtecaolkbllbokaaMT22
set_option linter.unusedSimpArgs false
set_option linter.unusedVariables false
set_option maxRecDepth 100000
set_option maxHeartbeats 16000000
namespace Go.Proofs.Ytecaolkbllbokaa.CK
open Go.RowKit Go.Great
def Xab (nf : Nat) (fn : FnP) : Prop := ∀ x ∈ fn.2.2.2, opE nf fn.2.2.2.length fn.2.1 x = 0
def Ykb (fs : List FnP) (err : Int) (f n : Nat) : Prop :=
 (err = 0 /\ f = 0 /\ n = 0 /\ ∀ fn ∈ fs, Xab fs.length fn) \/
 (err ≠ 0 /\ ∃ fn x, fs[f]? = some fn /\ fn.2.2.2[n]? = some x /\ opE fs.length fn.2.2.2.length fn.2.1 x = err /\ (∀ g : Nat, g < f -> ∀ fn', fs[g]? = some fn' -> Xab fs.length fn') /\ ∀ m : Nat, m < n -> ∀ y, fn.2.2.2[m]? = some y -> opE fs.length fn.2.2.2.length fn.2.1 y = 0)
def Yka (w : World) (fs : List FnP) (e : Ending) (w' : World) : Prop := w.grownBy w' none /\ ∃ err f n, e = .returned (.agg #[.int .i64 err, .int .i64 (f : Nat), .int .i64 (n : Nat)]) /\ Ykb fs err f n
structure OpW (w0 wr : World) (mem : Int) (vd vF : Value) : Prop where
 gr : w0.grownBy wr none
 pb : Yeo wr w0.heap.size mem vd vF
 fb : wr.heap[w0.heap.size + 1]? = some (.cells #[.int .i64 0, .int .i64 0, .int .i64 0] 61 (0, 0))
theorem Zty {w0 wr w' : World} {mem : Int} {vd vF : Value} (H : OpW w0 wr mem vd vF) (g : wr.grownBy w' none) : OpW w0 w' mem vd vF :=
 ⟨Za H.gr g, Zcv H.pb g (by simp), Zc H.fb g (by simp)⟩
theorem Zra {w wr : World} {mem : Int} {vd vF : Value} {fs : List FnP} (err : Int) (f n : Nat) (H : OpW w wr mem vd vF) (ho : Ykb fs err f n) :
 Yka w fs (.returned (.agg #[.int .i64 err, .int .i64 f, .int .i64 n])) (((wr.setCell ⟨w.heap.size + 1, 0, none⟩ (.int .i64 err)).setCell ⟨w.heap.size + 1, 1, none⟩ (.int .i64 f)).setCell ⟨w.heap.size + 1, 2, none⟩ (.int .i64 n)) :=
 ⟨Zz (Zz (Zz H.gr (by omega)) (by omega)) (by omega), err, f, n, rfl, ho⟩
theorem Zjo {fn : Func} {R : Ending -> World -> Prop} {a : Act} {wr : World} {b p : Nat} {e f n : Int} (hres : fn.results = #[.cell p 61]) (hp : a.tmps.getD p undef = .pointer (some ⟨b, 0, none⟩)) (hd : a.defers = [])
 (hb : wr.heap[b]? = some (.cells #[.int .i64 0, .int .i64 0, .int .i64 0] 61 (0, 0))) (hR : R (.returned (.agg #[.int .i64 e, .int .i64 f, .int .i64 n])) (((wr.setCell ⟨b, 0, none⟩ (.int .i64 e)).setCell ⟨b, 1, none⟩ (.int .i64 f)).setCell ⟨b, 2, none⟩ (.int .i64 n))) :
 bodyPost Try.prog fn R Exit.ret a (((wr.setCell ⟨b, 0, none⟩ (.int .i64 e)).setCell ⟨b, 1, none⟩ (.int .i64 f)).setCell ⟨b, 2, none⟩ (.int .i64 n)) := by
 refine bodyPost_ret (v := .agg #[.int .i64 e, .int .i64 f, .int .i64 n]) ?_ hd hR
 have hq : (((wr.setCell ⟨b, 0, none⟩ (.int .i64 e)).setCell ⟨b, 1, none⟩ (.int .i64 f)).setCell ⟨b, 2, none⟩ (.int .i64 n)).heap[b]? = some (.cells #[.int .i64 e, .int .i64 f, .int .i64 n] 61 (0, 0)) := by
  rw [Zh (Zh (Zh hb))]; rfl
 have k0 := Cq _ _ 0 _ _ _ hq
 have k1 := Cq _ _ 1 _ _ _ hq
 have k2 := Cq _ _ 2 _ _ _ hq
 clear hq hR
 generalize ((wr.setCell ⟨b, 0, none⟩ (.int .i64 e)).setCell ⟨b, 1, none⟩ (.int .i64 f)).setCell ⟨b, 2, none⟩ (.int .i64 n) = w9 at *
 rw [Zad hres, hp]
 go_simp
theorem Zwz (mem : Int) (vd : Value) (fs : List FnP) (pF : Option Addr) (cF B : Nat) (w : World) (hvd : ∃ p n c, vd = .slice p n c) (hB : B <= w.heap.size) (hF : Zam w B pF fs) (hn : fs.length <= 64) (hc : ∀ fn ∈ fs, fn.2.2.2.length <= 4096) :
 Calls Try.prog 37 #[.agg #[.int .i64 mem, vd, .slice pF fs.length cF]] w (Yka w fs) := by
 obtain ⟨pd, nd, cd, rfl⟩ := hvd
 have FF := Hq hF
 have HL := Hq hc
 have hni : (fs.length : Int) <= 64 := by omega
 clear hF hc
 go_enter Try.func37, Try.ntmps37
 go_wp2
 have hbx := Zso w mem (.slice pd nd cd) (.slice pF fs.length cF)
 have H0 := Hq (OpW.mk (Za (Ga _ _ _) (Ga _ _ _)) (Zcv hbx (Ga _ (.cells #[.int .i64 0, .int .i64 0, .int .i64 0] 61) none) (by simp)) (Jp w (.cells #[.int .i64 mem, .slice pd nd cd, .slice pF fs.length cF] 32) (.cells #[.int .i64 0, .int .i64 0, .int .i64 0] 61)))
 clear hbx
 generalize (w.alloc (.cells #[.int .i64 mem, .slice pd nd cd, .slice pF fs.length cF] 32)).alloc (.cells #[.int .i64 0, .int .i64 0, .int .i64 0] 61) = w1 at *
 go_loopw [11] (fun i wr => ∃ k : Nat, i = .int .i64 k /\ k <= fs.length /\ OpW w wr mem (.slice pd nd cd) (.slice pF fs.length cF) /\ ∀ g : Nat, g < k -> ∀ fn', fs[g]? = some fn' -> Xab fs.length fn') (fun i _ => fs.length - (intOf i).toNat)
 case atStart => exact ⟨0, rfl, Nat.zero_le _, H0.out, fun g hg => by omega⟩
 case round =>
  obtain ⟨k, rfl, hk, hH, hok⟩ := hrel
  have HH := Hq hH
  have HO := Hq hok
  by_cases hlt : (k : Int) < (fs.length : Int)
  · obtain ⟨⟨ar, lo, r, c⟩, hf⟩ : ∃ x, fs[k]? = some x := ⟨_, List.getElem?_eq_getElem (by omega)⟩
    obtain ⟨b, o, rfl, hb, hc⟩ := FF.out (by omega)
    obtain ⟨c0, c1, c2, pc, cc, c3, hcode⟩ := hc k ar lo r c hf
    have hlc := HL.out _ (List.mem_of_getElem? hf)
    simp only [] at hlc
    have hlci : (c.length : Int) <= 4096 := by omega
    replace c0 := Zx hH.gr (B := B) (by simp) hb c0
    replace c1 := Zx hH.gr (B := B) (by simp) hb c1
    replace c2 := Zx hH.gr (B := B) (by simp) hb c2
    replace c3 := Zx hH.gr (B := B) (by simp) hb c3
    have hb2 : b < wr.heap.size := by have := hH.gr.size; omega
    have HCO := Hq hcode
    have HFk := Hq hf
    clear hc hcode hf hH hok
    go_wp2
    clear c0 c1 c2 c3
    have H1 := Hq (Zty HH.out (Ga wr (.cells #[.int .i64 ar, .int .i64 lo, .int .i64 r, .slice pc c.length cc] 73) none))
    have HX := Hq (heap_alloc_new wr (.cells #[.int .i64 ar, .int .i64 lo, .int .i64 r, .slice pc c.length cc] 73))
    obtain ⟨wo, hwo⟩ : ∃ wo, wo = wr := ⟨_, rfl⟩
    subst hwo
    generalize wo.alloc (.cells #[.int .i64 ar, .int .i64 lo, .int .i64 r, .slice pc c.length cc] 73) = w2 at *
    generalize wo.heap.size = g4 at *
    go_loopw [19] (fun i wr => ∃ j : Nat, i = .int .i64 j /\ j <= c.length /\ OpW w wr mem (.slice pd nd cd) (.slice (some ⟨b, o, none⟩) fs.length cF) /\ wr.heap[g4]? = some (.cells #[.int .i64 ar, .int .i64 lo, .int .i64 r, .slice pc c.length cc] 73 (0, 0)) /\ ∀ m : Nat, m < j -> ∀ y, c[m]? = some y -> opE fs.length c.length lo y = 0) (fun i _ => c.length - (intOf i).toNat)
    case atStart => exact ⟨0, rfl, Nat.zero_le _, H1.out, HX.out, fun m hm => by omega⟩
    case round =>
     obtain ⟨j, rfl, hj, hH, hX, hok⟩ := hrel
     have HJ := Hq hH
     have HXJ := Hq hX
     have HOJ := Hq hok
     have l0 := Cq _ _ 1 _ _ _ hX
     have l3 := Cq _ _ 3 _ _ _ hX
     have sX := (Gs hX)
     have p2 := Cq _ _ 2 _ _ _ hH.pb
     have sp := (Gs hH.pb)
     by_cases hlj : (j : Int) < (c.length : Int)
     · obtain ⟨⟨op, a⟩, hins⟩ : ∃ x, c[j]? = some x := ⟨_, List.getElem?_eq_getElem (by omega)⟩
       obtain ⟨b', o', rfl, hb', hc'⟩ := HCO.out (by omega)
       obtain ⟨d0, d1⟩ := hc' j op a hins
       replace d0 := Zx hH.gr (B := B) (by simp) hb' d0
       replace d1 := Zx hH.gr (B := B) (by simp) hb' d1
       have hb3 : b' < wr.heap.size := by have := hH.gr.size; omega
       have HIN := Hq hins
       have HB := Hq (Zty hH (Ga wr (.cells #[.int .i64 op, .int .i64 a] 75) none))
       have HXB := Hq (Zc hX (Ga wr (.cells #[.int .i64 op, .int .i64 a] 75) none) (by simp))
       clear hc' hins hH hX hok
       have hsplit : ((op = 14 \/ op = 15 \/ op = 16) /\ ((c.length : Int) <= a /\ opE fs.length c.length lo (op, a) = 131 \/ a < (c.length : Int) /\ opE fs.length c.length lo (op, a) = 0)) \/
        ((op = 7 \/ op = 8) /\ (lo <= a /\ opE fs.length c.length lo (op, a) = 132 \/ a < lo /\ opE fs.length c.length lo (op, a) = 0)) \/
        (op = 17 /\ ((fs.length : Int) <= a /\ opE fs.length c.length lo (op, a) = 133 \/ a < (fs.length : Int) /\ opE fs.length c.length lo (op, a) = 0)) \/
        ((op ≠ 14 /\ op ≠ 15 /\ op ≠ 16 /\ op ≠ 7 /\ op ≠ 8 /\ op ≠ 17) /\ opE fs.length c.length lo (op, a) = 0) := by
        unfold opE
        simp only []
        by_cases h1 : op = 14 \/ op = 15 \/ op = 16
        · left
          rw [if_pos h1]
          refine ⟨h1, ?_⟩
          by_cases h : (c.length : Int) <= a
          · left; rw [if_pos h]; exact ⟨h, rfl⟩
          · right; rw [if_neg h]; exact ⟨by omega, rfl⟩
        · right
          rw [if_neg h1]
          by_cases h2 : op = 7 \/ op = 8
          · left
            rw [if_pos h2]
            refine ⟨h2, ?_⟩
            by_cases h : lo <= a
            · left; rw [if_pos h]; exact ⟨h, rfl⟩
            · right; rw [if_neg h]; exact ⟨by omega, rfl⟩
          · right
            rw [if_neg h2]
            by_cases h3 : op = 17
            · left
              rw [if_pos h3]
              refine ⟨h3, ?_⟩
              by_cases h : (fs.length : Int) <= a
              · left; rw [if_pos h]; exact ⟨h, rfl⟩
              · right; rw [if_neg h]; exact ⟨by omega, rfl⟩
            · right
              rw [if_neg h3]
              exact ⟨by omega, rfl⟩
       have HSP := Hq hsplit
       clear hsplit
       rcases HSP.out with ⟨h, ⟨hc, he⟩ | ⟨hc, he⟩⟩ | ⟨h, ⟨hc, he⟩ | ⟨hc, he⟩⟩ | ⟨h, ⟨hc, he⟩ | ⟨hc, he⟩⟩ | ⟨h, he⟩
       · have HZ := Hq he
         clear he HSP
         rcases h with rfl | rfl | rfl <;> (
          have hfb := HB.out.fb
          have f0 := Cq _ _ 0 _ _ _ hfb
          have f1 := Cq _ _ 1 _ _ _ hfb
          have f2 := Cq _ _ 2 _ _ _ hfb
          have z0 := frozen_of_row _ _ 0 _ _ hfb
          have z1 := frozen_of_row _ _ 1 _ _ hfb
          have z2 := frozen_of_row _ _ 2 _ _ hfb
          have HF6 := Hq hfb
          have s6 := (Gs hfb)
          clear hfb
          go_wp2
          exact Zjo rfl rfl rfl HF6.out (Zra _ k j HB.out (Or.inr ⟨by decide, _, _, HFk.out, HIN.out, HZ.out, HO.out, HOJ.out⟩)))
       · have HZ := Hq he
         clear he HSP
         rcases h with rfl | rfl | rfl <;> (
          go_wp2
          refine ⟨⟨j + 1, by go_num, by omega, HB.out, HXB.out, fun m hm y hy => by
           by_cases e : m = j
           · subst e; rw [HIN.out] at hy; injection hy with hy; subst hy; exact HZ.out
           · exact HOJ.out m (by omega) y hy⟩, by simp [intOf]; omega⟩)
       · have HZ := Hq he
         clear he HSP
         rcases h with rfl | rfl <;> (
          have hfb := HB.out.fb
          have f0 := Cq _ _ 0 _ _ _ hfb
          have f1 := Cq _ _ 1 _ _ _ hfb
          have f2 := Cq _ _ 2 _ _ _ hfb
          have z0 := frozen_of_row _ _ 0 _ _ hfb
          have z1 := frozen_of_row _ _ 1 _ _ hfb
          have z2 := frozen_of_row _ _ 2 _ _ hfb
          have HF6 := Hq hfb
          have s6 := (Gs hfb)
          clear hfb
          go_wp2
          exact Zjo rfl rfl rfl HF6.out (Zra _ k j HB.out (Or.inr ⟨by decide, _, _, HFk.out, HIN.out, HZ.out, HO.out, HOJ.out⟩)))
       · have HZ := Hq he
         clear he HSP
         rcases h with rfl | rfl <;> (
          go_wp2
          refine ⟨⟨j + 1, by go_num, by omega, HB.out, HXB.out, fun m hm y hy => by
           by_cases e : m = j
           · subst e; rw [HIN.out] at hy; injection hy with hy; subst hy; exact HZ.out
           · exact HOJ.out m (by omega) y hy⟩, by simp [intOf]; omega⟩)
       · have HZ := Hq he
         clear he HSP
         subst h
         (
           have hfb := HB.out.fb
           have f0 := Cq _ _ 0 _ _ _ hfb
           have f1 := Cq _ _ 1 _ _ _ hfb
           have f2 := Cq _ _ 2 _ _ _ hfb
           have z0 := frozen_of_row _ _ 0 _ _ hfb
           have z1 := frozen_of_row _ _ 1 _ _ hfb
           have z2 := frozen_of_row _ _ 2 _ _ hfb
           have HF6 := Hq hfb
           have s6 := (Gs hfb)
           clear hfb
           go_wp2
           exact Zjo rfl rfl rfl HF6.out (Zra _ k j HB.out (Or.inr ⟨by decide, _, _, HFk.out, HIN.out, HZ.out, HO.out, HOJ.out⟩)))
       · have HZ := Hq he
         clear he HSP
         subst h
         (
           go_wp2
           refine ⟨⟨j + 1, by go_num, by omega, HB.out, HXB.out, fun m hm y hy => by
            by_cases e : m = j
            · subst e; rw [HIN.out] at hy; injection hy with hy; subst hy; exact HZ.out
            · exact HOJ.out m (by omega) y hy⟩, by simp [intOf]; omega⟩)
       · have HZ := Hq he
         obtain ⟨h1, h2, h3, h4, h5, h6⟩ := h
         have b1 : (op == 14) = false := beq_eq_false_iff_ne.2 h1
         have b2 : (op == 15) = false := beq_eq_false_iff_ne.2 h2
         have b3 : (op == 16) = false := beq_eq_false_iff_ne.2 h3
         have b4 : (op == 7) = false := beq_eq_false_iff_ne.2 h4
         have b5 : (op == 8) = false := beq_eq_false_iff_ne.2 h5
         have b6 : (op == 17) = false := beq_eq_false_iff_ne.2 h6
         clear he HSP h1 h2 h3 h4 h5 h6
         (
           go_wp2
           refine ⟨⟨j + 1, by go_num, by omega, HB.out, HXB.out, fun m hm y hy => by
            by_cases e : m = j
            · subst e; rw [HIN.out] at hy; injection hy with hy; subst hy; exact HZ.out
            · exact HOJ.out m (by omega) y hy⟩, by simp [intOf]; omega⟩)
     · have hjn : j = c.length := by omega
       clear hH hX hok
       go_wp2
       refine ⟨⟨k + 1, by go_num, by omega, HJ.out, fun g hg fn' hfn' => by
        by_cases e : g = k
        · subst e; rw [HFk.out] at hfn'; injection hfn' with hfn'; subst hfn'
          intro x hx
          obtain ⟨m, hm, hmx⟩ := List.getElem_of_mem hx
          exact HOJ.out m (by simp only [] at hm; omega) x (by rw [<- hmx]; exact List.getElem?_eq_getElem hm)
        · exact HO.out g (by omega) fn' hfn'⟩, by simp [intOf]; omega⟩
  · have hkn : k = fs.length := by omega
    have hfb := hH.fb
    have f0 := Cq _ _ 0 _ _ _ hfb
    have f1 := Cq _ _ 1 _ _ _ hfb
    have f2 := Cq _ _ 2 _ _ _ hfb
    have z0 := frozen_of_row _ _ 0 _ _ hfb
    have z1 := frozen_of_row _ _ 1 _ _ hfb
    have z2 := frozen_of_row _ _ 2 _ _ hfb
    have HF6 := Hq hfb
    clear hH hok hfb
    go_wp2
    exact Zjo rfl rfl rfl HF6.out (Zra 0 0 0 HH.out (Or.inl ⟨rfl, rfl, rfl, fun fn hm => by
     obtain ⟨g, hg, e⟩ := List.getElem_of_mem hm
     exact HO.out g (by omega) fn (by rw [<- e]; exact List.getElem?_eq_getElem hg)⟩))
end Go.Proofs.Ytecaolkbllbokaa.CK
