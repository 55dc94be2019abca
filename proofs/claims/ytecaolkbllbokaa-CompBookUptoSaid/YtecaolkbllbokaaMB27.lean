/-
  The reference checker's part. Conditions: as each theorem states.
  Walk of the reference checker's parts. Conditions: as each theorem states.
  Walk of the reference's Check. Conditions: as each theorem states.
  The reference's Compile, where it tells an error at once. Conditions: as each theorem states.
-/
import Derived.Test.YtecaolkbllbokaaMB26
import Derived.StillTailTactics
import Derived.Maps.AppendAt
import Derived.Test.YtecaolkbllbokaaMB21
import Derived.Test.YtecaolkbllbokaaMB16
import Derived.Laws.ResultCell
namespace Go.Proofs.Ytecaolkbllbokaa.TG
open Go.RowKit Go.Great
set_option linter.unusedSimpArgs false
set_option linter.unusedVariables false

theorem rpart_any (x : Rx) (hnf : x.fs.length ≤ 1000000) (hnp : x.ps.length ≤ 17592186044415) : ∀ g, g ≤ 65 → RCon x g
  | 0, _ => fun what deep s w hd hw ha hl0 hl1 h => by
    by_cases he : x.ps.length ≤ s.a
    · exact rpart_end x 0 what deep s w he (by omega) h
    obtain ⟨⟨k, n, kc⟩, hp⟩ : ∃ y, x.ps[s.a]? = some y := ⟨_, List.getElem?_eq_getElem (by omega)⟩
    cases hst : standsB k what with
    | false => exact rpart_stand x 0 what deep hw s k n kc w hp hst hnp h
    | true =>
      by_cases hn : numE x.nl x.nt x.fs.length s.l k n = 0
      · by_cases hk : kidsE (x.fs.getD n.toNat 0) k n kc = 0
        · have : deep = 65 := by simpa using hd
          subst this
          exact rpart_deep x what hw s k n kc w hp hst hn hk hnf hnp h
        · exact rpart_kid x 0 what deep hw s k n kc w hp hst hn hk hnf hnp h
      · exact rpart_num x 0 what deep hw s k n kc w hp hst hn hnp h
  | g + 1, hg => fun what deep s w hd hw ha hl0 hl1 h => by
    by_cases he : x.ps.length ≤ s.a
    · exact rpart_end x (g + 1) what deep s w he (by omega) h
    obtain ⟨⟨k, n, kc⟩, hp⟩ : ∃ y, x.ps[s.a]? = some y := ⟨_, List.getElem?_eq_getElem (by omega)⟩
    cases hst : standsB k what with
    | false => exact rpart_stand x (g + 1) what deep hw s k n kc w hp hst hnp h
    | true =>
      by_cases hn : numE x.nl x.nt x.fs.length s.l k n = 0
      · by_cases hk : kidsE (x.fs.getD n.toNat 0) k n kc = 0
        · exact rpart_main x g (by omega) (rpart_any x hnf hnp g (by omega)) what deep (by push_cast at hd; omega) hw s k n kc w hp hst hn hk hnf hnp hl0 (by push_cast at hl1; omega) h
        · exact rpart_kid x (g + 1) what deep hw s k n kc w hp hst hn hk hnf hnp h
      · exact rpart_num x (g + 1) what deep hw s k n kc w hp hst hn hnp h

end Go.Proofs.Ytecaolkbllbokaa.TG

namespace Go.Proofs.Ytecaolkbllbokaa.TG
open Go.RowKit Go.Great
set_option linter.unusedSimpArgs false
set_option linter.unusedVariables false

theorem funsB_of {w : World} {B : Nat} {pt pf : Option Addr} {u : Un} (hU : UnitAt w B pt pf u) {Bc : Nat} (hB : B ≤ Bc) : FunsB w Bc pf (u.funcs.map Fun.args) := fun h0 => by
  have hl : 0 < u.funcs.length := by simpa using h0
  obtain ⟨b, o, e, hb, hc⟩ := hU.funcs hl
  refine ⟨b, o, e, by omega, fun i hi => ?_⟩
  have hil : i < u.funcs.length := by simpa using hi
  have := (hc i u.funcs[i] (List.getElem?_eq_getElem hil)).2.1
  rw [this]
  simp [List.getD, List.getElem?_map, List.getElem?_eq_getElem hil]

/-- Behind the three boxes of parts. -/
structure P3 (w w3 : World) (vt vf : Value) (nm : ByteArray) (ar : Int) (vl vp : Value) : Prop where
  gr : w.grownBy w3 none
  fb : w3.heap[w.heap.size + 1]? = some (.cells #[.string nm, .int .i64 ar, vl, vp] 69 (0, 0))
  ck : CkR w3 (w.heap.size + 1 + 1) vt vf nm ar vl vp 0 0 0

theorem p3_of (w : World) (vt vf : Value) (nm : ByteArray) (ar : Int) (vl vp : Value) :
    P3 w (((w.alloc (.cells #[vt, vf] 25)).alloc (.cells #[.string nm, .int .i64 ar, vl, vp] 69)).alloc (.cells #[vt, vf, .string nm, .int .i64 ar, vl, vp, .int .i64 0, .int .i64 0, .int .i64 0] 153)) vt vf nm ar vl vp := by
  refine ⟨grownBy_trans (rgrow_two w _ _) (World.grownBy_alloc _ _ none), box_moved (box_two' w _ _) (World.grownBy_alloc _ _ none) (by simp), ?_⟩
  unfold CkR
  have h := heap_alloc_new ((w.alloc (.cells #[vt, vf] 25)).alloc (.cells #[.string nm, .int .i64 ar, vl, vp] 69)) (.cells #[vt, vf, .string nm, .int .i64 ar, vl, vp, .int .i64 0, .int .i64 0, .int .i64 0] 153 (0, 0))
  rw [World.size_alloc, World.size_alloc] at h
  exact h

theorem rp_end {w w3 w4 : World} {vt vf : Value} {nm : ByteArray} {ar : Int} {vl vp : Value} (h3 : P3 w w3 vt vf nm ar vl vp) (gr : w3.grownBy w4 (some (w.heap.size + 1 + 1))) (nq : Nat) (f : World → World) (hf : ∀ w4 : World, w4.grownBy (f w4) (some (w.heap.size + 1 + 1))) : w.grownBy (f (w4.drewN nq)) none :=
  grow_new h3.gr (grownBy_trans (grownBy_trans gr (grownBy_drewN w4 nq _)) (hf _)) (by omega)

set_option maxRecDepth 100000 in
set_option maxHeartbeats 4000000 in
theorem rparts_any (u : Un) (hu : UnWF u) (hnf : u.funcs.length ≤ 64) (pt pf : Option Addr) (ct cf B : Nat) (f : Fun) (hnp : f.parts.length ≤ 17592186044415) (pl pp : Option Addr) (cl cp : Nat) (w : World) (hU : UnitAt w B pt pf u) (hpp : PartsB w B pp f.parts) :
    Calls Try.prog 48 #[.agg #[.slice pt u.texts.length ct, .slice pf u.funcs.length cf], .agg #[.string f.name, .int .i64 f.args, .slice pl f.locals.length cl, .slice pp f.parts.length cp]] w fun e w' => e = .returned (.int .i64 (allE f.locals.length u.texts.length (u.funcs.map Fun.args) f.parts)) ∧ w.grownBy w' none := by
  have H3 := Lib.hid (p3_of w (.slice pt u.texts.length ct) (.slice pf u.funcs.length cf) f.name f.args (.slice pl f.locals.length cl) (.slice pp f.parts.length cp))
  obtain ⟨x, hx⟩ : ∃ x : Rx, x = ⟨w.heap.size + 1 + 1, u.texts.length, f.locals.length, ct, cf, cl, cp, pt, pf, pl, pp, f.name, f.args, u.funcs.map Fun.args, f.parts⟩ := ⟨_, rfl⟩
  have hfl : (u.funcs.map Fun.args).length = u.funcs.length := by simp
  have hle := hU.le
  have hat : ∀ w3, P3 w w3 (.slice pt u.texts.length ct) (.slice pf u.funcs.length cf) f.name f.args (.slice pl f.locals.length cl) (.slice pp f.parts.length cp) → RAt x w3 0 0 0 := fun w3 h3 => by
    subst hx
    refine ⟨by show CkR w3 (w.heap.size + 1 + 1) _ (.slice pf (u.funcs.map Fun.args).length cf) _ _ _ _ _ _ _; rw [hfl]; exact h3.ck, ?_, ?_⟩
    · have := partsB_kept hpp h3.gr (by simp)
      intro h0
      obtain ⟨b, o, e, hb, hc⟩ := this h0
      exact ⟨b, o, e, by show b < w.heap.size + 1 + 1; omega, hc⟩
    · exact funsB_of (unitAt_kept hU h3.gr (by simp)) (by show B ≤ w.heap.size + 1 + 1; omega)
  have hcon := rpart_any x (by subst hx; show (u.funcs.map Fun.args).length ≤ _; rw [hfl]; omega) (by subst hx; exact hnp) 65 (Nat.le_refl _)
  have C1 : ∀ w3, P3 w w3 (.slice pt u.texts.length ct) (.slice pf u.funcs.length cf) f.name f.args (.slice pl f.locals.length cl) (.slice pp f.parts.length cp) → Calls Try.prog 80 #[.pointer (some ⟨w.heap.size + 1 + 1, 0, none⟩), .int .i64 1, .int .i64 0, .int .i64 0] w3 (RPost x 65 w3 (x.pe 65 0 ⟨0, 0, 0⟩)) := fun w3 h3 => by
    have := hcon 0 0 ⟨0, 0, 0⟩ w3 (by omega) (Or.inl rfl) (Nat.zero_le _) (Int.le_refl _) (by decide) (hat w3 h3)
    subst hx
    exact this
  have CC := Lib.hid C1
  have hpe : x.pe 65 0 ⟨0, 0, 0⟩ = partE f.locals.length u.texts.length (u.funcs.map Fun.args) f.parts 65 0 ⟨0, 0, 0⟩ := by subst hx; rfl
  have hgood := partE_good f.locals.length u.texts.length (u.funcs.map Fun.args) f.parts (by omega) 65 0 ⟨0, 0, 0⟩ (Nat.zero_le _)
  rw [hpe] at CC
  unfold allE
  generalize partE f.locals.length u.texts.length (u.funcs.map Fun.args) f.parts 65 0 ⟨0, 0, 0⟩ = pq at *
  have hxB : x.Bc = w.heap.size + 1 + 1 := by subst hx; rfl
  have hck : ∀ w' a e m, x.ck w' a e m → ∃ vt vf vl vp nm ar, CkR w' (w.heap.size + 1 + 1) vt vf nm ar vl vp a e m := fun w' a e m h => by subst hx; exact ⟨_, _, _, _, _, _, h⟩
  have HCK := Lib.hid hck
  clear hU hpp hat hcon C1 hpe hck hx
  obtain ⟨qw, qe, qs⟩ := pq
  by_cases h0 : qe = 0
  · subst h0
    have G0 := (hgood rfl).a2
    simp only at G0
    have hGa : (qs.a : Int) ≤ (f.parts.length : Int) := by omega
    clear hgood
    by_cases h1 : qs.a = f.parts.length
    · have f1 : ¬ (qs.a : Int) < (f.parts.length : Int) := by omega
      by_cases h2 : 256 < qs.m
      · rw [if_neg (by simp), if_neg (by simp [h1]), if_pos h2]
        clear h1
        go_enter Try.func48, Try.ntmps48
        go_wp2_with (go_at_call 80; refine (CC.out _ H3.out).mono ?_; intro e w4 hq; obtain ⟨gr, hs, -⟩ := hq; have HS := hs rfl; obtain ⟨rfl, hk⟩ := HS; have HK := HCK.out _ _ _ _ hk; obtain ⟨vt', vf', vl', vp', nm', ar', hk'⟩ := HK; rw [hxB] at gr; have c6 := cell_of_row w4 _ 6 _ _ _ hk'; have c7 := cell_of_row w4 _ 7 _ _ _ hk'; have c8 := cell_of_row w4 _ 8 _ _ _ hk'; have z7 := frozen_of_row w4 _ 7 _ _ hk'; have lk := (Array.getElem?_eq_some_iff.1 hk').1; have hb4 := box_moved H3.out.fb gr (by simp); have b3 := cell_of_row w4 _ 3 _ _ _ hb4; have lb := (Array.getElem?_eq_some_iff.1 hb4).1; have GR := Lib.hid gr; clear gr hs hk hk' hb4)
        go_quiet (fail)
        go_wp2
        go_ret
        exact ⟨rfl, rp_end H3.out GR.out nq (fun w4 => w4.setCell ⟨w.heap.size + 1 + 1, 7, none⟩ (.int .i64 175)) (fun w4 => grownBy_set w4 _ 7 _)⟩
      · rw [if_neg (by simp), if_neg (by simp [h1]), if_neg h2]
        clear h1
        go_enter Try.func48, Try.ntmps48
        go_wp2_with (go_at_call 80; refine (CC.out _ H3.out).mono ?_; intro e w4 hq; obtain ⟨gr, hs, -⟩ := hq; have HS := hs rfl; obtain ⟨rfl, hk⟩ := HS; have HK := HCK.out _ _ _ _ hk; obtain ⟨vt', vf', vl', vp', nm', ar', hk'⟩ := HK; rw [hxB] at gr; have c6 := cell_of_row w4 _ 6 _ _ _ hk'; have c7 := cell_of_row w4 _ 7 _ _ _ hk'; have c8 := cell_of_row w4 _ 8 _ _ _ hk'; have z7 := frozen_of_row w4 _ 7 _ _ hk'; have lk := (Array.getElem?_eq_some_iff.1 hk').1; have hb4 := box_moved H3.out.fb gr (by simp); have b3 := cell_of_row w4 _ 3 _ _ _ hb4; have lb := (Array.getElem?_eq_some_iff.1 hb4).1; have GR := Lib.hid gr; clear gr hs hk hk' hb4)
        go_quiet (fail)
        go_wp2
        go_ret
        exact ⟨rfl, rp_end H3.out GR.out nq (fun w4 => w4) (fun w4 => grownBy_refl w4 _)⟩
    · have f1 : (qs.a : Int) < (f.parts.length : Int) := by omega
      rw [if_neg (by simp), if_pos h1]
      clear h1
      go_enter Try.func48, Try.ntmps48
      go_wp2_with (go_at_call 80; refine (CC.out _ H3.out).mono ?_; intro e w4 hq; obtain ⟨gr, hs, -⟩ := hq; have HS := hs rfl; obtain ⟨rfl, hk⟩ := HS; have HK := HCK.out _ _ _ _ hk; obtain ⟨vt', vf', vl', vp', nm', ar', hk'⟩ := HK; rw [hxB] at gr; have c6 := cell_of_row w4 _ 6 _ _ _ hk'; have c7 := cell_of_row w4 _ 7 _ _ _ hk'; have c8 := cell_of_row w4 _ 8 _ _ _ hk'; have z7 := frozen_of_row w4 _ 7 _ _ hk'; have lk := (Array.getElem?_eq_some_iff.1 hk').1; have hb4 := box_moved H3.out.fb gr (by simp); have b3 := cell_of_row w4 _ 3 _ _ _ hb4; have lb := (Array.getElem?_eq_some_iff.1 hb4).1; have GR := Lib.hid gr; clear gr hs hk hk' hb4)
      go_quiet (fail)
      go_wp2
      go_ret
      exact ⟨rfl, rp_end H3.out GR.out nq (fun w4 => w4.setCell ⟨w.heap.size + 1 + 1, 7, none⟩ (.int .i64 171)) (fun w4 => grownBy_set w4 _ 7 _)⟩
  · have H0 := Lib.hid h0
    have f0 : (qe == 0) = false := beq_eq_false_iff_ne.2 h0
    rw [if_pos h0]
    clear h0 hgood
    go_enter Try.func48, Try.ntmps48
    go_wp2_with (go_at_call 80; refine (CC.out _ H3.out).mono ?_; intro e w4 hq; obtain ⟨gr, -, hs⟩ := hq; have HS := hs H0.out; obtain ⟨⟨r, rfl, -, -⟩, a', m', hk⟩ := HS; have HK := HCK.out _ _ _ _ hk; obtain ⟨vt', vf', vl', vp', nm', ar', hk'⟩ := HK; rw [hxB] at gr; have c6 := cell_of_row w4 _ 6 _ _ _ hk'; have c7 := cell_of_row w4 _ 7 _ _ _ hk'; have c8 := cell_of_row w4 _ 8 _ _ _ hk'; have z7 := frozen_of_row w4 _ 7 _ _ hk'; have lk := (Array.getElem?_eq_some_iff.1 hk').1; have hb4 := box_moved H3.out.fb gr (by simp); have b3 := cell_of_row w4 _ 3 _ _ _ hb4; have lb := (Array.getElem?_eq_some_iff.1 hb4).1; have GR := Lib.hid gr; clear gr hs hk hk' hb4)
    go_quiet (fail)
    go_wp2
    go_ret
    exact ⟨rfl, rp_end H3.out GR.out nq (fun w4 => w4) (fun w4 => grownBy_refl w4 _)⟩

end Go.Proofs.Ytecaolkbllbokaa.TG

namespace Go.Proofs.Ytecaolkbllbokaa.TG
open Go.RowKit Go.Great
set_option linter.unusedSimpArgs false
set_option linter.unusedVariables false

def restE (u : Un) : Int :=
  if namesE [] (u.texts.map Prod.fst) ≠ 0 then namesE [] (u.texts.map Prod.fst)
  else if headsE [] u.funcs ≠ 0 then headsE [] u.funcs
  else allsE u.texts.length (u.funcs.map Fun.args) u.funcs

set_option maxRecDepth 100000 in
set_option maxHeartbeats 4000000 in
theorem rcheck_early (u : Un) (hu : UnWF u) (pt pf : Option Addr) (ct cf B : Nat) (w : World) (hU : UnitAt w B pt pf u) (he : (64 < u.funcs.length ∨ 1024 < u.texts.length ∨ 65536 < bytesTo u.texts u.texts.length) ∨ (u.funcs.length = 0 ∨ (u.funcs.map Fun.args).getD 0 0 ≠ 0)) :
    Calls Try.prog 28 #[.agg #[.slice pt u.texts.length ct, .slice pf u.funcs.length cf]] w fun e w' => e = .returned (.int .i64 (checkE u)) ∧ w.grownBy w' none := by
  unfold checkE
  have UU := Lib.hid hU
  by_cases h1 : 64 < u.funcs.length
  · rw [if_pos (Or.inl h1)]
    have f1 : (64 : Int) < (u.funcs.length : Int) := by omega
    clear hU he h1
    go_enter Try.func28, Try.ntmps28
    go_wp2
    go_ret
    exact ⟨rfl, World.grownBy_alloc _ _ none⟩
  have f1 : ¬ (64 : Int) < (u.funcs.length : Int) := by omega
  by_cases h2 : 1024 < u.texts.length
  · rw [if_pos (Or.inr (Or.inl h2))]
    have f2 : (1024 : Int) < (u.texts.length : Int) := by omega
    clear hU he h1 h2
    go_enter Try.func28, Try.ntmps28
    go_wp2
    go_ret
    exact ⟨rfl, World.grownBy_alloc _ _ none⟩
  have f2 : ¬ (1024 : Int) < (u.texts.length : Int) := by omega
  have BY := Lib.hid (fun o => rbytes_any u hu (by omega) pt pf ct cf B (w.alloc o) (unitAt_kept hU (World.grownBy_alloc w o none) (by simp)))
  by_cases h3 : 65536 < bytesTo u.texts u.texts.length
  · rw [if_pos (Or.inr (Or.inr h3))]
    clear hU he h1 h2
    go_enter Try.func28, Try.ntmps28
    go_wp2_with (go_at_call 45; refine (BY.out _).mono ?_; rintro e w1 ⟨rfl, hg⟩)
    go_ret
    exact ⟨rfl, grownBy_trans (World.grownBy_alloc _ _ none) hg⟩
  rw [if_neg (by omega)]
  have h4 : u.funcs.length = 0 ∨ (u.funcs.map Fun.args).getD 0 0 ≠ 0 := by
    rcases he with h | h
    · omega
    · exact h
  rw [if_pos h4]
  by_cases h5 : u.funcs.length = 0
  · have f5 : ((u.funcs.length : Nat) : Int) = 0 := by omega
    clear hU he h1 h2 h4 h5
    go_enter Try.func28, Try.ntmps28
    go_wp2_with (go_at_call 45; refine (BY.out _).mono ?_; rintro e w1 ⟨rfl, hg⟩; have hub := boxU_kept (boxU_new w _ _) hg (by simp); have b1 := boxU_1 hub; have bl := boxU_lt hub; clear hub)
    go_ret
    exact ⟨rfl, grownBy_trans (World.grownBy_alloc _ _ none) hg⟩
  · obtain ⟨f0, hf0⟩ : ∃ f, u.funcs[0]? = some f := ⟨_, List.getElem?_eq_getElem (by omega)⟩
    obtain ⟨bF, oF, rfl, hbF, hcF⟩ := hU.funcs (by omega)
    have q1 := (hcF 0 f0 hf0).2.1
    have ha : f0.args ≠ 0 := by
      rcases h4 with h | h
      · exact absurd h h5
      · simp [List.getD, List.getElem?_map, hf0] at h; exact h
    have f6 : (((u.funcs.length : Nat) : Int) == 0) = false := beq_eq_false_iff_ne.2 (by omega)
    have f7 : (f0.args != 0) = true := by simpa using ha
    have i0 : (0 : Int) < (u.funcs.length : Int) := by omega
    have hle := hU.le
    simp only [Nat.zero_mul, Nat.add_zero] at q1
    clear hU he h1 h2 h4 h5 hcF hf0 ha
    go_enter Try.func28, Try.ntmps28
    go_wp2_with (go_at_call 45; refine (BY.out _).mono ?_; rintro e w1 ⟨rfl, hg⟩; have hub := boxU_kept (boxU_new w _ _) hg (by simp); have b1 := boxU_1 hub; have bl := boxU_lt hub; have g0 := grownBy_trans (World.grownBy_alloc w _ none) hg; have q1' := g0.cell q1 (by simp); have lF : bF < w1.heap.size := Nat.lt_of_lt_of_le (Nat.lt_of_lt_of_le hbF hle) g0.size; clear hub)
    go_ret
    exact ⟨rfl, g0⟩

theorem str_und : Try.prog.underlying 66 = some (.slice 9) := by kernel_rfl
theorem str_info : (Try.prog.info? 9).map (fun i => (i.zero, i.size, i.bytes)) = some (some (.string ⟨#[]⟩), 1, 16) := by kernel_rfl
theorem str_cell (s : ByteArray) : ∀ u ∈ [Value.string s], u.oneCell' = true := by intro u hu; simp at hu; subst hu; rfl
theorem own_slice' {w : World} {base : Nat} {e : TypeId} {size n : Nat} {v : Value} {xs : List Value} (h : w.ownsRow base e size v n xs) : ∃ (p : Option Addr) (cap : Nat), v = .slice p n cap := by
  rcases h.2 with ⟨rfl, rfl⟩ | ⟨g, cap, cur, hv, _⟩
  · exact ⟨_, _, rfl⟩
  · exact ⟨_, _, hv⟩

theorem strs_own {w : World} {base : Nat} {e : TypeId} {p : Option Addr} {n cap : Nat} {l : List ByteArray} (h : w.ownsRow base e 1 (.slice p n cap) n (l.map Value.string)) : StrsB w w.heap.size p l := fun h0 => by
  have hn : l.length = n := by have := h.1; simpa using this
  rcases h.2 with ⟨h1, _⟩ | ⟨g, cap', cur, hv, _, hg, _, _, _, ht⟩
  · injection h1 with h1 h2 _; omega
  · injection hv with e1 e2 e3
    subst e1
    refine ⟨g, 0, rfl, (Array.getElem?_eq_some_iff.1 hg).1, fun i hi => ?_⟩
    rw [Nat.zero_add, cell_of_row w g i _ _ _ hg]
    have e1 : (cur.toList.take (n * 1))[i]? = (l.map Value.string)[i]? := by rw [ht]
    rw [Nat.mul_one, List.getElem?_take_of_lt (by omega), Array.getElem?_toList] at e1
    rw [e1, List.getElem?_map, List.getElem?_eq_getElem hi]; rfl

/-- Where the loop over the texts' names stands. -/
structure NLoop (w wr : World) (u : Un) (vt vf : Value) (q : Nat) (v : Value) : Prop where
  gr : w.grownBy wr none
  ub : BoxU wr w.heap.size vt vf
  own : wr.ownsRow w.heap.size 9 1 v q (((u.texts.map Prod.fst).take q).map Value.string)

theorem nloop_next {w wr w1 : World} {u : Un} {vt vf : Value} {q : Nat} {v v1 : Value} {nm : ByteArray} {d : List Int} {o : Obj} (h : NLoop w wr u vt vf q v) (hq : u.texts[q]? = some (nm, d)) (g : (wr.alloc o).grownBy w1 v.ownBlock) (own : w1.ownsRow w.heap.size 9 1 v1 (q + 1) (((u.texts.map Prod.fst).take q).map Value.string ++ [.string nm])) : NLoop w w1 u vt vf (q + 1) v1 := by
  have hgw := h.gr.size
  refine ⟨?_, ?_, ?_⟩
  · refine sp_to_grown (sp_trans (sp_trans (sp_grown (P := fun k => v.ownBlock = some k) h.gr (by simp)) (sp_grown (P := fun k => v.ownBlock = some k) (World.grownBy_alloc wr o none) (by simp)) (fun _ _ h => h)) (sp_grown (P := fun k => v.ownBlock = some k) g fun k _ e => e) (fun _ _ h => h)) fun k hk hp => ?_
    have := (h.own.lt k hp).1; omega
  · exact boxU_kept (boxU_kept h.ub (World.grownBy_alloc wr o none) (by simp)) g (by
      intro e
      have := own_other h.own h.own
      rcases h.own.2 with ⟨rfl, _⟩ | ⟨g0, cap, cur, rfl, _, hg, _⟩
      · cases e
      · simp only [Value.ownBlock] at e
        injection e with e
        have hb := h.ub
        unfold BoxU at hb
        rw [← e, hg] at hb
        injection hb with hb
        injection hb with _ h2 _
        exact absurd h2 (by decide))
  · have hl := (List.getElem?_eq_some_iff.1 hq).1
    have e : (u.texts.map Prod.fst).take (q + 1) = (u.texts.map Prod.fst).take q ++ [nm] := by
      rw [List.take_succ_eq_append_getElem (by simpa using hl)]
      congr 1
      have := (List.getElem?_eq_some_iff.1 hq).2
      simp [this]
    rw [e, List.map_append]; exact own

theorem rest_names {u : Un} (h : namesE [] (u.texts.map Prod.fst) ≠ 0) : restE u = namesE [] (u.texts.map Prod.fst) := by unfold restE; rw [if_pos h]
theorem rest_heads {u : Un} (h : namesE [] (u.texts.map Prod.fst) = 0) (h2 : headsE [] u.funcs ≠ 0) : restE u = headsE [] u.funcs := by unfold restE; rw [if_neg (by omega), if_pos h2]
theorem rest_alls {u : Un} (h : namesE [] (u.texts.map Prod.fst) = 0) (h2 : headsE [] u.funcs = 0) : restE u = allsE u.texts.length (u.funcs.map Fun.args) u.funcs := by unfold restE; rw [if_neg (by omega), if_neg (by omega)]

/-- Where the loops over the functions stand: e the fault so far. -/
def HSt (u : Un) (k : Nat) (e : Int) : Prop := (e = 0 ∧ namesE [] (u.texts.map Prod.fst) = 0 ∧ headsE [] u.funcs = headsE ((u.funcs.map Fun.name).take k).reverse (u.funcs.drop k)) ∨ (e ≠ 0 ∧ restE u = e)
def ASt (u : Un) (k : Nat) (e : Int) : Prop := (e = 0 ∧ namesE [] (u.texts.map Prod.fst) = 0 ∧ headsE [] u.funcs = 0 ∧ allsE u.texts.length (u.funcs.map Fun.args) u.funcs = allsE u.texts.length (u.funcs.map Fun.args) (u.funcs.drop k)) ∨ (e ≠ 0 ∧ restE u = e)

theorem hst_start (u : Un) : HSt u 0 (namesE [] (u.texts.map Prod.fst)) := by
  by_cases h : namesE [] (u.texts.map Prod.fst) = 0
  · left; exact ⟨h, h, rfl⟩
  · right; exact ⟨h, rest_names h⟩
theorem hst_step {u : Un} {k : Nat} {f : Fun} (h : HSt u k 0) (hf : u.funcs[k]? = some f) : HSt u (k + 1) (headE ((u.funcs.map Fun.name).take k).reverse f.name f.args f.locals) := by
  rcases h with ⟨-, h1, h2⟩ | ⟨h0, -⟩
  · by_cases hh : headE ((u.funcs.map Fun.name).take k).reverse f.name f.args f.locals = 0
    · left; refine ⟨hh, h1, ?_⟩
      rw [h2, headsE_step u.funcs k f hf hh]
    · right; refine ⟨hh, ?_⟩
      rw [headsE_stop u.funcs k f hf hh] at h2
      rw [rest_heads h1 (by rw [h2]; exact hh), h2]
  · exact absurd rfl h0
theorem ast_start {u : Un} {k : Nat} {e : Int} (h : HSt u k e) (hx : e ≠ 0 ∨ k = u.funcs.length) : ASt u 0 e := by
  rcases h with ⟨h0, h1, h2⟩ | ⟨h0, h1⟩
  · left
    rcases hx with hx | hx
    · exact absurd h0 hx
    · refine ⟨h0, h1, ?_, rfl⟩
      rw [h2, hx, List.drop_length]; rfl
  · right; exact ⟨h0, h1⟩
theorem ast_step {u : Un} {k : Nat} {f : Fun} (h : ASt u k 0) (hf : u.funcs[k]? = some f) : ASt u (k + 1) (allE f.locals.length u.texts.length (u.funcs.map Fun.args) f.parts) := by
  rcases h with ⟨-, h1, h2, h3⟩ | ⟨h0, -⟩
  · by_cases hh : allE f.locals.length u.texts.length (u.funcs.map Fun.args) f.parts = 0
    · left; refine ⟨hh, h1, h2, ?_⟩
      rw [h3, allsE_step _ _ u.funcs k f hf hh]
    · right; refine ⟨hh, ?_⟩
      rw [allsE_stop _ _ u.funcs k f hf hh] at h3
      rw [rest_alls h1 h2, h3]
  · exact absurd rfl h0
theorem ast_end {u : Un} {k : Nat} {e : Int} (h : ASt u k e) (hx : e ≠ 0 ∨ k = u.funcs.length) : restE u = e := by
  rcases h with ⟨h0, h1, h2, h3⟩ | ⟨h0, h1⟩
  · rcases hx with hx | hx
    · exact absurd h0 hx
    · rw [rest_alls h1 h2, h3, hx, List.drop_length, h0]; rfl
  · exact h1

set_option maxRecDepth 100000 in
set_option maxHeartbeats 8000000 in
theorem rcheck_main (u : Un) (hu : UnWF u) (pt pf : Option Addr) (ct cf B : Nat) (w : World) (hU : UnitAt w B pt pf u) (h1 : ¬ (64 < u.funcs.length ∨ 1024 < u.texts.length ∨ 65536 < bytesTo u.texts u.texts.length)) (h2 : ¬ (u.funcs.length = 0 ∨ (u.funcs.map Fun.args).getD 0 0 ≠ 0)) :
    Calls Try.prog 28 #[.agg #[.slice pt u.texts.length ct, .slice pf u.funcs.length cf]] w fun e w' => e = .returned (.int .i64 (checkE u)) ∧ w.grownBy w' none := by
  have hce : checkE u = restE u := by unfold checkE restE; rw [if_neg h1, if_neg h2]
  rw [hce]
  have UU := Lib.hid hU
  have HU := Lib.hid hu
  have f1 : ¬ (64 : Int) < (u.funcs.length : Int) := by omega
  have f2 : ¬ (1024 : Int) < (u.texts.length : Int) := by omega
  have f3 : ¬ 65536 < bytesTo u.texts u.texts.length := by omega
  have f6 : (((u.funcs.length : Nat) : Int) == 0) = false := beq_eq_false_iff_ne.2 (by omega)
  have hnt : u.texts.length ≤ 1024 := by omega
  have hnf : u.funcs.length ≤ 64 := by omega
  have BY := Lib.hid (fun o => rbytes_any u hu (by omega) pt pf ct cf B (w.alloc o) (unitAt_kept hU (World.grownBy_alloc w o none) (by simp)))
  obtain ⟨f0, hf0⟩ : ∃ f, u.funcs[0]? = some f := ⟨_, List.getElem?_eq_getElem (by omega)⟩
  obtain ⟨bF, oF, rfl, hbF, hcF⟩ := hU.funcs (by omega)
  have q1 := (hcF 0 f0 hf0).2.1
  have ha : f0.args = 0 := by
    have : (u.funcs.map Fun.args).getD 0 0 = f0.args := by simp [List.getD, List.getElem?_map, hf0]
    omega
  have f7 : (f0.args != 0) = false := by simpa using ha
  have i0 : (0 : Int) < (u.funcs.length : Int) := by omega
  have hle := hU.le
  simp only [Nat.zero_mul, Nat.add_zero] at q1
  rw [ha] at q1
  obtain ⟨si, si0, si1, si2, si3⟩ := info_parts str_info
  clear hU hu h1 h2 hcF hf0 ha hce f7
  go_enter Try.func28, Try.ntmps28
  go_wp2_with (go_at_call 45; refine (BY.out _).mono ?_; rintro e w1 ⟨rfl, hg⟩; have hub := boxU_kept (boxU_new w _ _) hg (by simp); have HUB := Lib.hid hub; have b1 := boxU_1 hub; have bl := boxU_lt hub; have g0 := grownBy_trans (World.grownBy_alloc w _ none) hg; have G0 := Lib.hid g0; have q1' := g0.cell q1 (by simp); have lF : bF < w1.heap.size := Nat.lt_of_lt_of_le (Nat.lt_of_lt_of_le hbF hle) g0.size; clear hub g0 hg)
  clear b1 bl q1' lF q1
  have N0 := Lib.hid (show NLoop w w1 u (.slice pt u.texts.length ct) (.slice (some ⟨bF, oF, none⟩) u.funcs.length cf) 0 (.slice none 0 0) from ⟨G0.out, HUB.out, World.ownsRow_nil _ _ _ _⟩)
  go_loopw [3, 4] (fun v i wr => ∃ q : Nat, i = .int .i64 q ∧ q ≤ u.texts.length ∧ NLoop w wr u (.slice pt u.texts.length ct) (.slice (some ⟨bF, oF, none⟩) u.funcs.length cf) q v) (fun _ i _ => u.texts.length - (intOf i).toNat)
  case atStart => exact ⟨0, rfl, Nat.zero_le _, N0.out⟩
  case round =>
    obtain ⟨q, rfl, hq, hL⟩ := hrel
    have LL := Lib.hid hL
    have b0 := boxU_0 hL.ub
    have bl := boxU_lt hL.ub
    have hgs := hL.gr.size
    by_cases hlt : (q : Int) < (u.texts.length : Int)
    · obtain ⟨bt, ot, rfl, hbt, hct⟩ := UU.out.texts (by omega)
      obtain ⟨⟨nm, d⟩, hqd⟩ : ∃ y, u.texts[q]? = some y := ⟨_, List.getElem?_eq_getElem (by omega)⟩
      have e0 := hL.gr.cell (hct q nm d hqd).1 (by simp)
      have lt : bt < wr.heap.size := by omega
      have HQD := Lib.hid hqd
      have hc5 : q + 1 ≤ maxLen := by unfold maxLen; omega
      have hc6 : (q + 1) * 16 ≤ 140737488355328 := by omega
      have hE : ∀ o, w.heap.size ≤ (wr.alloc o).heap.size := fun o => by simp; omega
      clear hct hqd hL
      go_wp2_with (at_builtin; refine wpList_append_own_at _ rfl _ _ 66 rfl w.heap.size 9 si (.string ⟨#[]⟩) 1 16 str_und si0 si1 si2 si3 rfl (by decide) _ _ _ rfl (LL.out.own.alloc _) ⟨wr.heap.size, 0, none⟩ 1 1 [.string nm] rfl rfl (one_new wr _ _) (str_cell _) hc5 hc6 (hE _) ?_; intro v3 w3 hown3 hgr3 hnil3 hat3; have OW3 := Lib.hid hown3; have GR3 := Lib.hid hgr3; clear hown3 hgr3 hnil3 hat3)
      go_roundw
      case rel => exact ⟨q + 1, by go_num, by omega, nloop_next LL.out HQD.out GR3.out OW3.out⟩
      case measure => simp [intOf]; omega
    · have hqe : q = u.texts.length := by omega
      subst hqe
      obtain ⟨pv, cv, rfl⟩ := own_slice' hL.own
      have hlm : (u.texts.map Prod.fst).length = u.texts.length := by simp
      have hown := hL.own
      rw [← hlm, List.take_length, hlm] at hown
      have NA := Lib.hid (rnames_any pv (u.texts.map Prod.fst) cv (by rw [hlm]; omega) (fun s hs => by obtain ⟨y, hy, rfl⟩ := List.mem_map.1 hs; exact (HU.out.text y hy).1) wr (strs_own hown))
      rw [hlm] at NA
      have GL := Lib.hid hL.gr
      have UB := Lib.hid hL.ub
      clear hown hL LL
      go_wp2_with (go_at_call 46; refine NA.out.mono ?_; rintro e w5 ⟨rfl, hg5⟩; have G5 := Lib.hid (grownBy_trans GL.out hg5); have U5 := Lib.hid (boxU_kept UB.out hg5 (by simp)); clear hg5)
      have H0 := Lib.hid (hst_start u)
      clear b0 bl hgs
      generalize namesE [] (u.texts.map Prod.fst) = ne at *
      go_loopw [5, 6] (fun v i wr => ∃ (k : Nat) (e : Int), i = .int .i64 k ∧ v = .int .i64 e ∧ k ≤ u.funcs.length ∧ w.grownBy wr none ∧ BoxU wr w.heap.size (.slice pt u.texts.length ct) (.slice (some ⟨bF, oF, none⟩) u.funcs.length cf) ∧ HSt u k e) (fun _ i _ => u.funcs.length - (intOf i).toNat)
      case atStart => exact ⟨0, ne, rfl, rfl, Nat.zero_le _, G5.out, U5.out, H0.out⟩
      case round =>
        obtain ⟨k, e, rfl, rfl, hk, hg, hub, hH⟩ := hrel
        have HG := Lib.hid hg
        have HUB2 := Lib.hid hub
        have HH := Lib.hid hH
        have b0 := boxU_0 hub
        have b1 := boxU_1 hub
        have bl := boxU_lt hub
        by_cases hx : (k : Int) < (u.funcs.length : Int) ∧ e = 0
        · obtain ⟨hlt2, rfl⟩ := hx
          obtain ⟨f, hf⟩ : ∃ f, u.funcs[k]? = some f := ⟨_, List.getElem?_eq_getElem (by omega)⟩
          have HA := Lib.hid (rhead_any u HU.out pt (some ⟨bF, oF, none⟩) ct cf B k f hf wr (unitAt_kept UU.out hg (by simp)))
          have HF := Lib.hid hf
          clear hg hub hH hf
          go_wp2_with (go_at_call 47; refine HA.out.mono ?_; rintro e w6 ⟨rfl, hg6⟩; have G6 := Lib.hid (grownBy_trans HG.out hg6); have U6 := Lib.hid (boxU_kept HUB2.out hg6 (by simp)); clear hg6)
          go_roundw
          case rel => exact ⟨k + 1, _, by go_num, rfl, by omega, G6.out, U6.out, hst_step HH.out HF.out⟩
          case measure => simp [intOf]; omega
        · have A0 := Lib.hid (ast_start hH (by omega))
          have hcond : (¬ (k : Int) < (u.funcs.length : Int)) ∨ ((k : Int) < (u.funcs.length : Int) ∧ (e == 0) = false) := by
            by_cases hlt2 : (k : Int) < (u.funcs.length : Int)
            · right; exact ⟨hlt2, beq_eq_false_iff_ne.2 fun h => hx ⟨hlt2, h⟩⟩
            · left; exact hlt2
          clear hx hg hub hH
          rcases hcond with hc | ⟨hc, hc2⟩
          · go_wp2
            clear hc b0 b1 bl
            go_loopw [5, 7] (fun v i wr => ∃ (k : Nat) (e : Int), i = .int .i64 k ∧ v = .int .i64 e ∧ k ≤ u.funcs.length ∧ w.grownBy wr none ∧ BoxU wr w.heap.size (.slice pt u.texts.length ct) (.slice (some ⟨bF, oF, none⟩) u.funcs.length cf) ∧ ASt u k e) (fun _ i _ => u.funcs.length - (intOf i).toNat)
            case atStart => exact ⟨0, e, rfl, rfl, Nat.zero_le _, HG.out, HUB2.out, A0.out⟩
            case round =>
              obtain ⟨k3, e3, rfl, rfl, hk3, hg3, hub3, hA3⟩ := hrel
              have HG3 := Lib.hid hg3
              have HUB3 := Lib.hid hub3
              have HA3 := Lib.hid hA3
              have b0 := boxU_0 hub3
              have b1 := boxU_1 hub3
              have bl := boxU_lt hub3
              by_cases hx3 : (k3 : Int) < (u.funcs.length : Int) ∧ e3 = 0
              · obtain ⟨hlt3, rfl⟩ := hx3
                obtain ⟨f, hf⟩ : ∃ f, u.funcs[k3]? = some f := ⟨_, List.getElem?_eq_getElem (by omega)⟩
                obtain ⟨bF', oF', epf, hbF', hcF'⟩ := UU.out.funcs (by omega)
                injection epf with epf; injection epf with ep1 ep2 _; subst ep1; subst ep2
                obtain ⟨c0, c1, ⟨pl, cl, c2, hpl⟩, ⟨pp, cp, c3, hpp⟩⟩ := hcF' k3 f hf
                replace c0 := hg3.cell c0 (by simp)
                replace c1 := hg3.cell c1 (by simp)
                replace c2 := hg3.cell c2 (by simp)
                replace c3 := hg3.cell c3 (by simp)
                have hgs3 := hg3.size
                have lF : bF < wr.heap.size := by omega
                have hmf := HU.out.name f (List.mem_of_getElem? hf)
                have gd := grownBy_trans hg3 (grownBy_drew (grownBy_refl wr none))
                have PA := Lib.hid (rparts_any u HU.out hnf pt (some ⟨bF, oF, none⟩) ct cf B f hmf.2.2.1 pl pp cl cp wr.drew (unitAt_kept UU.out gd (by simp)) (partsB_kept hpp gd (by simp)))
                have HF := Lib.hid hf
                have GD := Lib.hid gd
                clear hg3 hub3 hA3 hf hcF' hpp hpl hmf gd
                go_wp2
                refine wp_region_still_tail 6 (by kernel_rfl) (by kernel_rfl) ?_
                simp only [List.take_succ_cons, List.take_zero, List.drop_succ_cons, List.drop_zero]
                repeat still_step
                refine wpStill_nil ?_
                go_wp2_with (go_at_call 48; refine PA.out.mono ?_; rintro e w6 ⟨rfl, hg6⟩; have G6 := Lib.hid (grownBy_trans GD.out hg6); have U6 := Lib.hid (boxU_kept (boxU_kept HUB3.out (grownBy_drew (grownBy_refl wr none)) (by simp)) hg6 (by simp)); clear hg6)
                go_roundw
                case rel => exact ⟨k3 + 1, _, by go_num, rfl, by omega, G6.out, U6.out, ast_step HA3.out HF.out⟩
                case measure => simp [intOf]; omega
              · have AE3 := Lib.hid (ast_end hA3 (by omega))
                have hcond3 : (¬ (k3 : Int) < (u.funcs.length : Int)) ∨ ((k3 : Int) < (u.funcs.length : Int) ∧ (e3 == 0) = false) := by
                  by_cases hlt3 : (k3 : Int) < (u.funcs.length : Int)
                  · right; exact ⟨hlt3, beq_eq_false_iff_ne.2 fun h => hx3 ⟨hlt3, h⟩⟩
                  · left; exact hlt3
                clear hx3 hg3 hub3 hA3
                rcases hcond3 with hc3 | ⟨hc3, hc4⟩
                · go_wp2
                  go_ret
                  exact ⟨ret_int AE3.out.symm, HG3.out⟩
                · go_wp2
                  go_ret
                  exact ⟨ret_int AE3.out.symm, HG3.out⟩
          · go_wp2
            clear hc hc2 b0 b1 bl
            go_loopw [5, 7] (fun v i wr => ∃ (k : Nat) (e : Int), i = .int .i64 k ∧ v = .int .i64 e ∧ k ≤ u.funcs.length ∧ w.grownBy wr none ∧ BoxU wr w.heap.size (.slice pt u.texts.length ct) (.slice (some ⟨bF, oF, none⟩) u.funcs.length cf) ∧ ASt u k e) (fun _ i _ => u.funcs.length - (intOf i).toNat)
            case atStart => exact ⟨0, e, rfl, rfl, Nat.zero_le _, HG.out, HUB2.out, A0.out⟩
            case round =>
              obtain ⟨k3, e3, rfl, rfl, hk3, hg3, hub3, hA3⟩ := hrel
              have HG3 := Lib.hid hg3
              have HUB3 := Lib.hid hub3
              have HA3 := Lib.hid hA3
              have b0 := boxU_0 hub3
              have b1 := boxU_1 hub3
              have bl := boxU_lt hub3
              by_cases hx3 : (k3 : Int) < (u.funcs.length : Int) ∧ e3 = 0
              · obtain ⟨hlt3, rfl⟩ := hx3
                obtain ⟨f, hf⟩ : ∃ f, u.funcs[k3]? = some f := ⟨_, List.getElem?_eq_getElem (by omega)⟩
                obtain ⟨bF', oF', epf, hbF', hcF'⟩ := UU.out.funcs (by omega)
                injection epf with epf; injection epf with ep1 ep2 _; subst ep1; subst ep2
                obtain ⟨c0, c1, ⟨pl, cl, c2, hpl⟩, ⟨pp, cp, c3, hpp⟩⟩ := hcF' k3 f hf
                replace c0 := hg3.cell c0 (by simp)
                replace c1 := hg3.cell c1 (by simp)
                replace c2 := hg3.cell c2 (by simp)
                replace c3 := hg3.cell c3 (by simp)
                have hgs3 := hg3.size
                have lF : bF < wr.heap.size := by omega
                have hmf := HU.out.name f (List.mem_of_getElem? hf)
                have gd := grownBy_trans hg3 (grownBy_drew (grownBy_refl wr none))
                have PA := Lib.hid (rparts_any u HU.out hnf pt (some ⟨bF, oF, none⟩) ct cf B f hmf.2.2.1 pl pp cl cp wr.drew (unitAt_kept UU.out gd (by simp)) (partsB_kept hpp gd (by simp)))
                have HF := Lib.hid hf
                have GD := Lib.hid gd
                clear hg3 hub3 hA3 hf hcF' hpp hpl hmf gd
                go_wp2
                refine wp_region_still_tail 6 (by kernel_rfl) (by kernel_rfl) ?_
                simp only [List.take_succ_cons, List.take_zero, List.drop_succ_cons, List.drop_zero]
                repeat still_step
                refine wpStill_nil ?_
                go_wp2_with (go_at_call 48; refine PA.out.mono ?_; rintro e w6 ⟨rfl, hg6⟩; have G6 := Lib.hid (grownBy_trans GD.out hg6); have U6 := Lib.hid (boxU_kept (boxU_kept HUB3.out (grownBy_drew (grownBy_refl wr none)) (by simp)) hg6 (by simp)); clear hg6)
                go_roundw
                case rel => exact ⟨k3 + 1, _, by go_num, rfl, by omega, G6.out, U6.out, ast_step HA3.out HF.out⟩
                case measure => simp [intOf]; omega
              · have AE3 := Lib.hid (ast_end hA3 (by omega))
                have hcond3 : (¬ (k3 : Int) < (u.funcs.length : Int)) ∨ ((k3 : Int) < (u.funcs.length : Int) ∧ (e3 == 0) = false) := by
                  by_cases hlt3 : (k3 : Int) < (u.funcs.length : Int)
                  · right; exact ⟨hlt3, beq_eq_false_iff_ne.2 fun h => hx3 ⟨hlt3, h⟩⟩
                  · left; exact hlt3
                clear hx3 hg3 hub3 hA3
                rcases hcond3 with hc3 | ⟨hc3, hc4⟩
                · go_wp2
                  go_ret
                  exact ⟨ret_int AE3.out.symm, HG3.out⟩
                · go_wp2
                  go_ret
                  exact ⟨ret_int AE3.out.symm, HG3.out⟩

theorem rcheck_any (u : Un) (hu : UnWF u) (pt pf : Option Addr) (ct cf B : Nat) (w : World) (hU : UnitAt w B pt pf u) :
    Calls Try.prog 28 #[.agg #[.slice pt u.texts.length ct, .slice pf u.funcs.length cf]] w fun e w' => e = .returned (.int .i64 (checkE u)) ∧ w.grownBy w' none := by
  by_cases h1 : 64 < u.funcs.length ∨ 1024 < u.texts.length ∨ 65536 < bytesTo u.texts u.texts.length
  · exact rcheck_early u hu pt pf ct cf B w hU (Or.inl h1)
  by_cases h2 : u.funcs.length = 0 ∨ (u.funcs.map Fun.args).getD 0 0 ≠ 0
  · exact rcheck_early u hu pt pf ct cf B w hU (Or.inr h2)
  · exact rcheck_main u hu pt pf ct cf B w hU h1 h2

end Go.Proofs.Ytecaolkbllbokaa.TG

namespace Go.Proofs.Ytecaolkbllbokaa.TG
open Go.RowKit Go.Great
set_option linter.unusedSimpArgs false
set_option linter.unusedVariables false

/-- An error: nothing is told beside it. -/
def BadR (w : World) (code : Int) (e : Ending) (w' : World) : Prop := e = .returned (.tuple #[.agg #[.int .i64 0, .slice none 0 0, .slice none 0 0], .int .i64 code]) ∧ w.grownBy w' none

/-- Its error where it is told at once. -/
def earlyE (u : Un) (mem : Int) : Int := if checkE u ≠ 0 then checkE u else if mem < 0 ∨ 65536 < mem then 1 else if mem < bytesTo u.texts u.texts.length then 181 else 0

set_option maxRecDepth 100000 in
set_option maxHeartbeats 4000000 in
theorem rcompile_bad (u : Un) (hu : UnWF u) (mem : Int) (pt pf : Option Addr) (ct cf B : Nat) (w : World) (hU : UnitAt w B pt pf u) (hb : checkE u ≠ 0 ∨ (mem < 0 ∨ 65536 < mem) ∨ mem < bytesTo u.texts u.texts.length) :
    Calls Try.prog 12 #[.agg #[.slice pt u.texts.length ct, .slice pf u.funcs.length cf], .int .i64 mem] w (BadR w (earlyE u mem)) := by
  have CA := Lib.hid (fun w' (hU' : UnitAt w' B pt pf u) => rcheck_any u hu pt pf ct cf B w' hU')
  have UU := Lib.hid hU
  unfold earlyE
  by_cases h1 : checkE u = 0
  · have hr := right_of h1
    have SA := Lib.hid (fun w' (hU' : UnitAt w' B pt pf u) => ahead_any u hu hr.nt u.texts.length (by omega) (Int.le_refl _) pt pf ct cf B w' hU')
    simp only [Int.toNat_natCast] at SA
    rw [if_neg (by omega)]
    by_cases h2 : mem < 0 ∨ 65536 < mem
    · rw [if_pos h2]
      generalize checkE u = ce at *
      subst h1
      rcases h2 with h2 | h2
      · clear hU hb SA hr
        go_enter Try.func12, Try.ntmps12
        go_wp2_with (go_at_call 28; refine (CA.out _ (unitAt_kept UU.out (grownBy_trans (World.grownBy_alloc w _ none) (World.grownBy_alloc _ _ none)) (by simp))).mono ?_; rintro e w1 ⟨rfl, hg1⟩; have hR := box_moved (box_two w _ _) hg1 (by simp); have r0 := cell_of_row w1 _ 0 _ _ _ hR; have r1 := cell_of_row w1 _ 1 _ _ _ hR; have r2 := cell_of_row w1 _ 2 _ _ _ hR; have z0 := frozen_of_row w1 _ 0 _ _ hR; have z1 := frozen_of_row w1 _ 1 _ _ hR; have z2 := frozen_of_row w1 _ 2 _ _ hR; have hlR := (Array.getElem?_eq_some_iff.1 hR).1; have HG := Lib.hid hg1; clear hg1 hR)
        refine bodyPost_ret (v := .tuple #[.agg #[.int .i64 0, .slice none 0 0, .slice none 0 0], .int .i64 1]) ?_ rfl ⟨rfl, bad_grow HG.out⟩
        rw [results_cell_tmp rfl]
        go_simp
      · have h3 : ¬ mem < 0 := by omega
        clear hU hb SA hr
        go_enter Try.func12, Try.ntmps12
        go_wp2_with (go_at_call 28; refine (CA.out _ (unitAt_kept UU.out (grownBy_trans (World.grownBy_alloc w _ none) (World.grownBy_alloc _ _ none)) (by simp))).mono ?_; rintro e w1 ⟨rfl, hg1⟩; have hR := box_moved (box_two w _ _) hg1 (by simp); have r0 := cell_of_row w1 _ 0 _ _ _ hR; have r1 := cell_of_row w1 _ 1 _ _ _ hR; have r2 := cell_of_row w1 _ 2 _ _ _ hR; have z0 := frozen_of_row w1 _ 0 _ _ hR; have z1 := frozen_of_row w1 _ 1 _ _ hR; have z2 := frozen_of_row w1 _ 2 _ _ hR; have hlR := (Array.getElem?_eq_some_iff.1 hR).1; have HG := Lib.hid hg1; clear hg1 hR)
        refine bodyPost_ret (v := .tuple #[.agg #[.int .i64 0, .slice none 0 0, .slice none 0 0], .int .i64 1]) ?_ rfl ⟨rfl, bad_grow HG.out⟩
        rw [results_cell_tmp rfl]
        go_simp
    · rw [if_neg h2]
      have h3 : mem < bytesTo u.texts u.texts.length := by omega
      have h4 : ¬ mem < 0 := by omega
      have h5 : ¬ 65536 < mem := by omega
      rw [if_pos h3]
      generalize checkE u = ce at *
      subst h1
      clear hU hb hr h2
      go_enter Try.func12, Try.ntmps12
      go_wp2_with (first
        | (go_at_call 28; refine (CA.out _ (unitAt_kept UU.out (grownBy_trans (World.grownBy_alloc w _ none) (World.grownBy_alloc _ _ none)) (by simp))).mono ?_; rintro e w1 ⟨rfl, hg1⟩; have hUB := boxU_kept (boxU_kept (boxU_new w _ _) (World.grownBy_alloc _ _ none) (by simp)) hg1 (by simp); have b0 := boxU_0 hUB; have b1 := boxU_1 hUB; have hltB := boxU_lt hUB; have HU1 := Lib.hid (unitAt_kept UU.out (grownBy_trans (grownBy_trans (World.grownBy_alloc w _ none) (World.grownBy_alloc _ _ none)) hg1) (by simp)); have HG1 := Lib.hid hg1; clear hg1 hUB)
        | (go_at_call 29; refine (SA.out _ HU1.out).mono ?_; rintro e w2 ⟨rfl, hg2⟩; have hg3 := grownBy_trans HG1.out hg2; have hR := box_moved (box_two w _ _) hg3 (by simp); have r0 := cell_of_row w2 _ 0 _ _ _ hR; have r1 := cell_of_row w2 _ 1 _ _ _ hR; have r2 := cell_of_row w2 _ 2 _ _ _ hR; have z0 := frozen_of_row w2 _ 0 _ _ hR; have z1 := frozen_of_row w2 _ 1 _ _ hR; have z2 := frozen_of_row w2 _ 2 _ _ hR; have hlR := (Array.getElem?_eq_some_iff.1 hR).1; have HG := Lib.hid hg3; clear hg2 hg3 hR))
      refine bodyPost_ret (v := .tuple #[.agg #[.int .i64 0, .slice none 0 0, .slice none 0 0], .int .i64 181]) ?_ rfl ⟨rfl, bad_grow HG.out⟩
      rw [results_cell_tmp rfl]
      go_simp
  · rw [if_pos h1]
    generalize checkE u = ce at *
    clear hU hb
    go_enter Try.func12, Try.ntmps12
    go_wp2_with (go_at_call 28; refine (CA.out _ (unitAt_kept UU.out (grownBy_trans (World.grownBy_alloc w _ none) (World.grownBy_alloc _ _ none)) (by simp))).mono ?_; rintro e w1 ⟨rfl, hg1⟩; have hR := box_moved (box_two w _ _) hg1 (by simp); have r0 := cell_of_row w1 _ 0 _ _ _ hR; have r1 := cell_of_row w1 _ 1 _ _ _ hR; have r2 := cell_of_row w1 _ 2 _ _ _ hR; have z0 := frozen_of_row w1 _ 0 _ _ hR; have z1 := frozen_of_row w1 _ 1 _ _ hR; have z2 := frozen_of_row w1 _ 2 _ _ hR; have hlR := (Array.getElem?_eq_some_iff.1 hR).1; have HG := Lib.hid hg1; clear hg1 hR)
    refine bodyPost_ret (v := .tuple #[.agg #[.int .i64 0, .slice none 0 0, .slice none 0 0], .int .i64 ce]) ?_ rfl ⟨rfl, bad_grow HG.out⟩
    rw [results_cell_tmp rfl]
    go_simp

end Go.Proofs.Ytecaolkbllbokaa.TG
