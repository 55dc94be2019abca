/-
  Where the reference checker's part stands, and where it fails. Conditions: as each theorem states.
  Where the reference checker's part fails by itself. Conditions: as each theorem states.
  Where the reference checker's loop over a part's kids stands. Conditions: as each theorem states.
-/
import Derived.Test.YtecaolkbllbokaaMB23
import Derived.Test.YtecaolkbllbokaaMB24
import Derived.Test.YtecaolkbllbokaaMB05
namespace Go.Proofs.Ytecaolkbllbokaa.TG
open Go.RowKit Go.Great
set_option linter.unusedSimpArgs false
set_option linter.unusedVariables false

/-- What stays the same: the block, the unit, the function. -/
structure Rx where
  Bc : Nat
  nt : Nat
  nl : Nat
  ct : Nat
  cf : Nat
  cl : Nat
  cp : Nat
  pt : Option Addr
  pf : Option Addr
  pl : Option Addr
  pp : Option Addr
  nm : ByteArray
  ar : Int
  fs : List Int
  ps : List (Int × Int × Int)

def Rx.ck (x : Rx) (w : World) (a : Nat) (e m : Int) : Prop := CkR w x.Bc (.slice x.pt x.nt x.ct) (.slice x.pf x.fs.length x.cf) x.nm x.ar (.slice x.pl x.nl x.cl) (.slice x.pp x.ps.length x.cp) a e m
def Rx.pe (x : Rx) (g : Nat) (what : Int) (s : St) : Int × Int × St := partE x.nl x.nt x.fs x.ps g what s

structure RAt (x : Rx) (w : World) (a : Nat) (e m : Int) : Prop where
  box : CkR w x.Bc (.slice x.pt x.nt x.ct) (.slice x.pf x.fs.length x.cf) x.nm x.ar (.slice x.pl x.nl x.cl) (.slice x.pp x.ps.length x.cp) a e m
  pa : PartsB w x.Bc x.pp x.ps
  fu : FunsB w x.Bc x.pf x.fs

theorem ckr_kept {w w' : World} {Bc : Nat} {vt vf vl vp : Value} {nm : ByteArray} {ar e m : Int} {a : Nat} (h : CkR w Bc vt vf nm ar vl vp a e m) (g : w.grownBy w' none) : CkR w' Bc vt vf nm ar vl vp a e m := by
  unfold CkR at *
  rw [g.block Bc (Array.getElem?_eq_some_iff.1 h).1 (by simp)]; exact h
theorem partsB_row {w w' : World} {Bc : Nat} {pp : Option Addr} {ps : List (Int × Int × Int)} (h : PartsB w Bc pp ps) (g : w.grownBy w' (some Bc)) : PartsB w' Bc pp ps := fun h0 => by
  obtain ⟨bp, op, e, hp, hc⟩ := h h0
  refine ⟨bp, op, e, hp, fun j k n kc hj => ?_⟩
  obtain ⟨h1, h2, h3⟩ := hc j k n kc hj
  exact ⟨g.cell h1 (by simp; omega), g.cell h2 (by simp; omega), g.cell h3 (by simp; omega)⟩
theorem funsB_row {w w' : World} {Bc : Nat} {pf : Option Addr} {fs : List Int} (h : FunsB w Bc pf fs) (g : w.grownBy w' (some Bc)) : FunsB w' Bc pf fs := fun h0 => by
  obtain ⟨bp, op, e, hp, hc⟩ := h h0
  exact ⟨bp, op, e, hp, fun i hi => g.cell (hc i hi) (by simp; omega)⟩
theorem rat_kept {x : Rx} {w w' : World} {a : Nat} {e m : Int} (h : RAt x w a e m) (g : w.grownBy w' none) : RAt x w' a e m :=
  ⟨ckr_kept h.box g, partsB_row h.pa (grow_w g), funsB_row h.fu (grow_w g)⟩
theorem rat_row {x : Rx} {w w' : World} {a a' : Nat} {e m e' m' : Int} (h : RAt x w a e m) (g : w.grownBy w' (some x.Bc)) (hc : x.ck w' a' e' m') : RAt x w' a' e' m' :=
  ⟨hc, partsB_row h.pa g, funsB_row h.fu g⟩
theorem ck_set6 {x : Rx} {w : World} {a : Nat} {e m : Int} (h : x.ck w a e m) (v : Int) (b : Nat) (hv : v = (b : Int)) : x.ck (w.setCell ⟨x.Bc, 6, none⟩ (.int .i64 v)) b e m := by
  subst hv
  unfold Rx.ck CkR at *
  rw [heap_setCell_same w x.Bc _ _ _ _ h]; rfl
theorem ck_set7 {x : Rx} {w : World} {a : Nat} {e m : Int} (h : x.ck w a e m) (v : Int) : x.ck (w.setCell ⟨x.Bc, 7, none⟩ (.int .i64 v)) a v m := by
  unfold Rx.ck CkR at *
  rw [heap_setCell_same w x.Bc _ _ _ _ h]; rfl
theorem ck_set8 {x : Rx} {w : World} {a : Nat} {e m : Int} (h : x.ck w a e m) (v : Int) : x.ck (w.setCell ⟨x.Bc, 8, none⟩ (.int .i64 v)) a e v := by
  unfold Rx.ck CkR at *
  rw [heap_setCell_same w x.Bc _ _ _ _ h]; rfl

/-- What a call of part leaves. -/
def RPost (x : Rx) (g : Nat) (w : World) (q : Int × Int × St) (e : Ending) (w' : World) : Prop :=
  w.grownBy w' (some x.Bc) ∧ (q.2.1 = 0 → e = .returned (.int .i64 q.1) ∧ x.ck w' q.2.2.a 0 q.2.2.m) ∧ (q.2.1 ≠ 0 → (∃ r, e = .returned (.int .i64 r) ∧ 0 ≤ r ∧ r ≤ ((g : Int) + 1) * 70368744177664) ∧ ∃ a' m', x.ck w' a' q.2.1 m')

/-- The contract of part, where it may go g deep. -/
def RCon (x : Rx) (g : Nat) : Prop := ∀ (what deep : Int) (s : St) (w : World), deep = 65 - (g : Int) → what = 0 ∨ what = 1 ∨ what = 2 → s.a ≤ x.ps.length → 0 ≤ s.l → s.l + g ≤ 1000 → RAt x w s.a 0 s.m →
  Calls Try.prog 80 #[.pointer (some ⟨x.Bc, 0, none⟩), .int .i64 (what + 1), .int .i64 deep, .int .i64 s.l] w (RPost x g w (x.pe g what s))

theorem rfail_post {x : Rx} {gg : Nat} {w w1 : World} {a : Nat} {m : Int} {q : Int × Int × St} (h : RAt x w a 0 m) (g : w.grownBy w1 none) (hne : q.2.1 ≠ 0) : RPost x gg w q (.returned (.int .i64 0)) (w1.setCell ⟨x.Bc, 7, none⟩ (.int .i64 q.2.1)) :=
  ⟨grownBy_trans (grow_w g) (grownBy_set w1 x.Bc 7 _), fun h0 => absurd h0 hne, fun _ => ⟨⟨0, rfl, by omega, by omega⟩, a, m, ck_set7 (x := x) (ckr_kept h.box g) _⟩⟩

theorem rfail_at {x : Rx} {w w1 : World} {a : Nat} {m : Int} (h : RAt x w a 0 m) (g : w.grownBy w1 none) (c : Int) :
    Calls Try.prog 102 #[.pointer (some ⟨x.Bc, 0, none⟩), .int .i64 c] w1 fun e w' => e = .returned (.int .i64 0) ∧ w' = w1.setCell ⟨x.Bc, 7, none⟩ (.int .i64 c) :=
  rfail_any x.Bc _ _ _ _ _ _ a c m w1 (ckr_kept h.box g)

set_option maxRecDepth 100000 in
set_option maxHeartbeats 4000000 in
theorem rpart_end (x : Rx) (g : Nat) (what deep : Int) (s : St) (w : World) (hs : x.ps.length ≤ s.a) (ha : s.a ≤ 17592186044416) (h : RAt x w s.a 0 s.m) :
    Calls Try.prog 80 #[.pointer (some ⟨x.Bc, 0, none⟩), .int .i64 (what + 1), .int .i64 deep, .int .i64 s.l] w (RPost x g w (x.pe g what s)) := by
  have hq : x.pe g what s = (0, 171, s) := partE_end _ _ _ _ _ _ _ hs
  rw [hq]
  have c5 := cell_of_row w x.Bc 5 _ _ _ h.box
  have c6 := cell_of_row w x.Bc 6 _ _ _ h.box
  have c7 := cell_of_row w x.Bc 7 _ _ _ h.box
  have lt := (Array.getElem?_eq_some_iff.1 h.box).1
  have HH := Lib.hid h
  have i1 : ((x.ps.length : Nat) : Int) ≤ (s.a : Int) := by omega
  clear h hq
  go_enter Try.func80, Try.ntmps80
  go_wp2
  go_quiet (fail)
  go_wp2_with (go_at_call 102; refine (rfail_at HH.out (grownBy_drewN _ _ none) _).mono ?_; rintro e w1 ⟨rfl, rfl⟩)
  go_ret
  exact rfail_post (q := (0, 171, s)) HH.out (grownBy_drewN _ _ none) (by simp)

end Go.Proofs.Ytecaolkbllbokaa.TG

namespace Go.Proofs.Ytecaolkbllbokaa.TG
open Go.RowKit Go.Great
set_option linter.unusedSimpArgs false
set_option linter.unusedVariables false

theorem fun_args {x : Rx} {w : World} {a : Nat} {e m : Int} (h : RAt x w a e m) (hnf : x.fs.length ≤ 1000000) {k n : Int} {loops : Int} (hn : numE x.nl x.nt x.fs.length loops k n = 0) : (k = 25 → ∃ bF oF : Nat, x.pf = some ⟨bF, oF, none⟩ ∧ bF < w.heap.size ∧ 0 ≤ n ∧ n.toNat < x.fs.length ∧ x.fs.length ≤ 1000000 ∧ w.cell? ⟨bF, oF + n.toNat * 4 + 1, none⟩ = some (.int .i64 (x.fs.getD n.toNat 0))) ∧ (k = 26 → 0 ≤ n ∧ n < 5) := by
  constructor
  · intro hk
    unfold numE at hn
    rw [if_neg (by omega), if_neg (by omega), if_neg (by omega), if_pos (by omega)] at hn
    have hr := among_zero (by decide) hn
    obtain ⟨bF, oF, e1, hb, hc⟩ := h.fu (by omega)
    have lt := (Array.getElem?_eq_some_iff.1 h.box).1
    exact ⟨bF, oF, e1, by omega, hr.1, by omega, hnf, hc _ (by omega)⟩
  · intro hk
    unfold numE at hn
    rw [if_neg (by omega), if_neg (by omega), if_neg (by omega), if_neg (by omega), if_pos (by omega)] at hn
    exact among_zero (by decide) hn

theorem alone_parts {nl nt : Nat} {fs : List Int} {loops k n kc what : Int} (hst : standsB k what = true) : (1 ≤ k ∧ k < 27) ∧ aloneE nl nt fs loops k n kc what = if numE nl nt fs.length loops k n ≠ 0 then numE nl nt fs.length loops k n else kidsE (fs.getD n.toNat 0) k n kc := by
  have h := of_decide_eq_true hst
  rcases standsB_alone (nl := nl) (nt := nt) (fs := fs) (loops := loops) (k := k) (n := n) (kc := kc) (what := what) with h1 | h1
  · rw [hst] at h1; cases h1
  · exact ⟨⟨h.1, h.2.1⟩, h1.2⟩

set_option maxRecDepth 100000 in
set_option maxHeartbeats 4000000 in
theorem rpart_stand (x : Rx) (g : Nat) (what deep : Int) (hw : what = 0 ∨ what = 1 ∨ what = 2) (s : St) (k n kc : Int) (w : World) (hp : x.ps[s.a]? = some (k, n, kc)) (hst : standsB k what = false) (hnp : x.ps.length ≤ 17592186044415) (h : RAt x w s.a 0 s.m) :
    Calls Try.prog 80 #[.pointer (some ⟨x.Bc, 0, none⟩), .int .i64 (what + 1), .int .i64 deep, .int .i64 s.l] w (RPost x g w (x.pe g what s)) := by
  have hq : x.pe g what s = (0, 171, s) := by
    have := partE_bad x.nl x.nt x.fs x.ps g what s k n kc hp (by rw [stands_not hst]; decide)
    rw [stands_not hst] at this; exact this
  rw [hq]
  (
    have hja := (List.getElem?_eq_some_iff.1 hp).1
    obtain ⟨bp, op, hpp, hbp, hpc⟩ := h.pa (by omega)
    obtain ⟨p0, p1, p2⟩ := hpc _ _ _ _ hp
    have c5 := cell_of_row w x.Bc 5 _ _ _ h.box
    have c6 := cell_of_row w x.Bc 6 _ _ _ h.box
    have c7 := cell_of_row w x.Bc 7 _ _ _ h.box
    rw [hpp] at c5
    have lt := (Array.getElem?_eq_some_iff.1 h.box).1
    have lb : bp < w.heap.size := by omega
    have HH := Lib.hid h
    have i1 : (s.a : Int) < ((x.ps.length : Nat) : Int) := by omega
    clear h hpc)
  have SS := Lib.hid (fun w' => rstands_any k what hw w')
  rw [hst] at SS
  clear hq hp hst
  go_enter Try.func80, Try.ntmps80
  go_wp2
  go_quiet (fail)
  go_wp2
  (
    have G1 := Lib.hid (show w.grownBy (w.drewN nq) none from grownBy_drewN w nq none)
    replace c5 : (w.drewN nq).cell? ⟨x.Bc, 5, none⟩ = some (.slice (some ⟨bp, op, none⟩) x.ps.length x.cp) := c5
    replace c6 : (w.drewN nq).cell? ⟨x.Bc, 6, none⟩ = some (.int .i64 s.a) := c6
    replace p0 : (w.drewN nq).cell? ⟨bp, op + s.a * 3, none⟩ = some (.int .i64 k) := p0
    replace p1 : (w.drewN nq).cell? ⟨bp, op + s.a * 3 + 1, none⟩ = some (.int .i64 n) := p1
    replace p2 : (w.drewN nq).cell? ⟨bp, op + s.a * 3 + 2, none⟩ = some (.int .i64 kc) := p2
    replace lt : x.Bc < (w.drewN nq).heap.size := lt
    replace lb : bp < (w.drewN nq).heap.size := lb
    generalize w.drewN nq = W at *
    go_region
    have CP := Lib.hid (grown_copy W k n kc)
    have G2 := Lib.hid (show w.grownBy ((W.alloc (.cells #[.int .i64 k, .int .i64 n, .int .i64 kc] 108)).drew) none from grownBy_trans G1.out (grownBy_drew (World.grownBy_alloc W _ none)))
    have R2 := Lib.hid (rat_kept HH.out G2.out)
    have x0 := copy_0 CP.out
    have x1 := copy_1 CP.out
    have x2 := copy_2 CP.out
    have lW := copy_lt CP.out
    have hWB : x.Bc < W.heap.size := lt
    clear p0 p1 p2 c5 c6 c7 lt lb
    generalize (W.alloc (.cells #[.int .i64 k, .int .i64 n, .int .i64 kc] 108)).drew = W2 at *
    generalize W.heap.size = B at *)
  go_wp2_with (first
    | (go_at_call 103; refine (SS.out _).mono ?_; rintro e w1 ⟨rfl, rfl⟩)
    | (go_at_call 102; refine (rfail_at HH.out G2.out _).mono ?_; rintro e w1 ⟨rfl, rfl⟩))
  go_ret
  exact rfail_post (q := (0, 171, s)) HH.out G2.out (by simp)

set_option maxRecDepth 100000 in
set_option maxHeartbeats 4000000 in
theorem rpart_num (x : Rx) (g : Nat) (what deep : Int) (hw : what = 0 ∨ what = 1 ∨ what = 2) (s : St) (k n kc : Int) (w : World) (hp : x.ps[s.a]? = some (k, n, kc)) (hst : standsB k what = true) (hn : numE x.nl x.nt x.fs.length s.l k n ≠ 0) (hnp : x.ps.length ≤ 17592186044415) (h : RAt x w s.a 0 s.m) :
    Calls Try.prog 80 #[.pointer (some ⟨x.Bc, 0, none⟩), .int .i64 (what + 1), .int .i64 deep, .int .i64 s.l] w (RPost x g w (x.pe g what s)) := by
  obtain ⟨hk, hal⟩ := alone_parts (nl := x.nl) (nt := x.nt) (fs := x.fs) (loops := s.l) (n := n) (kc := kc) hst
  rw [if_pos hn] at hal
  have hq : x.pe g what s = (0, numE x.nl x.nt x.fs.length s.l k n, s) := by
    have := partE_bad x.nl x.nt x.fs x.ps g what s k n kc hp (by rw [hal]; exact hn)
    rw [hal] at this; exact this
  rw [hq]
  (
    have hja := (List.getElem?_eq_some_iff.1 hp).1
    obtain ⟨bp, op, hpp, hbp, hpc⟩ := h.pa (by omega)
    obtain ⟨p0, p1, p2⟩ := hpc _ _ _ _ hp
    have c5 := cell_of_row w x.Bc 5 _ _ _ h.box
    have c6 := cell_of_row w x.Bc 6 _ _ _ h.box
    have c7 := cell_of_row w x.Bc 7 _ _ _ h.box
    rw [hpp] at c5
    have lt := (Array.getElem?_eq_some_iff.1 h.box).1
    have lb : bp < w.heap.size := by omega
    have HH := Lib.hid h
    have i1 : (s.a : Int) < ((x.ps.length : Nat) : Int) := by omega
    clear h hpc)
  have SS := Lib.hid (fun w' => rstands_any k what hw w')
  rw [hst] at SS
  have NN := Lib.hid (fun w' (hc : RAt x w' s.a 0 s.m) => rnumber_any k n kc s.l hk x.Bc x.nt x.fs.length x.nl x.ct x.cf x.cl s.a x.pt x.pf x.pl x.nm x.ar 0 s.m (.slice x.pp x.ps.length x.cp) w' hc.box)
  generalize numE x.nl x.nt x.fs.length s.l k n = ce at *
  have hce : (ce == 0) = false := beq_eq_false_iff_ne.2 hn
  have hce2 : (ce != 0) = true := by simpa using hn
  have HN := Lib.hid hn
  clear hq hp hst hn hal
  go_enter Try.func80, Try.ntmps80
  go_wp2
  go_quiet (fail)
  go_wp2
  (
    have G1 := Lib.hid (show w.grownBy (w.drewN nq) none from grownBy_drewN w nq none)
    replace c5 : (w.drewN nq).cell? ⟨x.Bc, 5, none⟩ = some (.slice (some ⟨bp, op, none⟩) x.ps.length x.cp) := c5
    replace c6 : (w.drewN nq).cell? ⟨x.Bc, 6, none⟩ = some (.int .i64 s.a) := c6
    replace p0 : (w.drewN nq).cell? ⟨bp, op + s.a * 3, none⟩ = some (.int .i64 k) := p0
    replace p1 : (w.drewN nq).cell? ⟨bp, op + s.a * 3 + 1, none⟩ = some (.int .i64 n) := p1
    replace p2 : (w.drewN nq).cell? ⟨bp, op + s.a * 3 + 2, none⟩ = some (.int .i64 kc) := p2
    replace lt : x.Bc < (w.drewN nq).heap.size := lt
    replace lb : bp < (w.drewN nq).heap.size := lb
    generalize w.drewN nq = W at *
    go_region
    have CP := Lib.hid (grown_copy W k n kc)
    have G2 := Lib.hid (show w.grownBy ((W.alloc (.cells #[.int .i64 k, .int .i64 n, .int .i64 kc] 108)).drew) none from grownBy_trans G1.out (grownBy_drew (World.grownBy_alloc W _ none)))
    have R2 := Lib.hid (rat_kept HH.out G2.out)
    have x0 := copy_0 CP.out
    have x1 := copy_1 CP.out
    have x2 := copy_2 CP.out
    have lW := copy_lt CP.out
    have hWB : x.Bc < W.heap.size := lt
    clear p0 p1 p2 c5 c6 c7 lt lb
    generalize (W.alloc (.cells #[.int .i64 k, .int .i64 n, .int .i64 kc] 108)).drew = W2 at *
    generalize W.heap.size = B at *)
  go_wp2_with (first
    | (go_at_call 103; refine (SS.out _).mono ?_; rintro e w1 ⟨rfl, rfl⟩)
    | (go_at_call 104; refine (NN.out _ R2.out).mono ?_; rintro e w3 ⟨rfl, hg⟩; have G3 := Lib.hid (grownBy_trans G2.out hg); clear hg)
    | (go_at_call 102; refine (rfail_at HH.out G3.out _).mono ?_; rintro e w1 ⟨rfl, rfl⟩))
  go_ret
  exact rfail_post (q := (0, ce, s)) HH.out G3.out HN.out

set_option maxRecDepth 100000 in
set_option maxHeartbeats 4000000 in
theorem rpart_kid (x : Rx) (g : Nat) (what deep : Int) (hw : what = 0 ∨ what = 1 ∨ what = 2) (s : St) (k n kc : Int) (w : World) (hp : x.ps[s.a]? = some (k, n, kc)) (hst : standsB k what = true) (hn : numE x.nl x.nt x.fs.length s.l k n = 0) (hkd : kidsE (x.fs.getD n.toNat 0) k n kc ≠ 0) (hnf : x.fs.length ≤ 1000000) (hnp : x.ps.length ≤ 17592186044415) (h : RAt x w s.a 0 s.m) :
    Calls Try.prog 80 #[.pointer (some ⟨x.Bc, 0, none⟩), .int .i64 (what + 1), .int .i64 deep, .int .i64 s.l] w (RPost x g w (x.pe g what s)) := by
  obtain ⟨hk, hal⟩ := alone_parts (nl := x.nl) (nt := x.nt) (fs := x.fs) (loops := s.l) (n := n) (kc := kc) hst
  rw [if_neg (by omega)] at hal
  have hq : x.pe g what s = (0, kidsE (x.fs.getD n.toNat 0) k n kc, s) := by
    have := partE_bad x.nl x.nt x.fs x.ps g what s k n kc hp (by rw [hal]; exact hkd)
    rw [hal] at this; exact this
  rw [hq]
  (
    have hja := (List.getElem?_eq_some_iff.1 hp).1
    obtain ⟨bp, op, hpp, hbp, hpc⟩ := h.pa (by omega)
    obtain ⟨p0, p1, p2⟩ := hpc _ _ _ _ hp
    have c5 := cell_of_row w x.Bc 5 _ _ _ h.box
    have c6 := cell_of_row w x.Bc 6 _ _ _ h.box
    have c7 := cell_of_row w x.Bc 7 _ _ _ h.box
    rw [hpp] at c5
    have lt := (Array.getElem?_eq_some_iff.1 h.box).1
    have lb : bp < w.heap.size := by omega
    have HH := Lib.hid h
    have i1 : (s.a : Int) < ((x.ps.length : Nat) : Int) := by omega
    clear h hpc)
  have SS := Lib.hid (fun w' => rstands_any k what hw w')
  rw [hst] at SS
  have NN := Lib.hid (fun w' (hc : RAt x w' s.a 0 s.m) => rnumber_any k n kc s.l hk x.Bc x.nt x.fs.length x.nl x.ct x.cf x.cl s.a x.pt x.pf x.pl x.nm x.ar 0 s.m (.slice x.pp x.ps.length x.cp) w' hc.box)
  have KK := Lib.hid (fun w' (hc : RAt x w' s.a 0 s.m) => rkids_any k n kc (x.fs.getD n.toNat 0) hk x.Bc x.fs.length x.cf s.a (.slice x.pt x.nt x.ct) x.pf x.nm x.ar 0 s.m (.slice x.pl x.nl x.cl) (.slice x.pp x.ps.length x.cp) w' hc.box (fun_args hc hnf hn).1 (fun_args hc hnf hn).2)
  rw [hn] at NN
  generalize kidsE (x.fs.getD n.toNat 0) k n kc = ce at *
  have hce : (ce == 0) = false := beq_eq_false_iff_ne.2 hkd
  have hce2 : (ce != 0) = true := by simpa using hkd
  have HN := Lib.hid hkd
  clear hq hp hst hn hal hkd
  go_enter Try.func80, Try.ntmps80
  go_wp2
  go_quiet (fail)
  go_wp2
  (
    have G1 := Lib.hid (show w.grownBy (w.drewN nq) none from grownBy_drewN w nq none)
    replace c5 : (w.drewN nq).cell? ⟨x.Bc, 5, none⟩ = some (.slice (some ⟨bp, op, none⟩) x.ps.length x.cp) := c5
    replace c6 : (w.drewN nq).cell? ⟨x.Bc, 6, none⟩ = some (.int .i64 s.a) := c6
    replace p0 : (w.drewN nq).cell? ⟨bp, op + s.a * 3, none⟩ = some (.int .i64 k) := p0
    replace p1 : (w.drewN nq).cell? ⟨bp, op + s.a * 3 + 1, none⟩ = some (.int .i64 n) := p1
    replace p2 : (w.drewN nq).cell? ⟨bp, op + s.a * 3 + 2, none⟩ = some (.int .i64 kc) := p2
    replace lt : x.Bc < (w.drewN nq).heap.size := lt
    replace lb : bp < (w.drewN nq).heap.size := lb
    generalize w.drewN nq = W at *
    go_region
    have CP := Lib.hid (grown_copy W k n kc)
    have G2 := Lib.hid (show w.grownBy ((W.alloc (.cells #[.int .i64 k, .int .i64 n, .int .i64 kc] 108)).drew) none from grownBy_trans G1.out (grownBy_drew (World.grownBy_alloc W _ none)))
    have R2 := Lib.hid (rat_kept HH.out G2.out)
    have x0 := copy_0 CP.out
    have x1 := copy_1 CP.out
    have x2 := copy_2 CP.out
    have lW := copy_lt CP.out
    have hWB : x.Bc < W.heap.size := lt
    clear p0 p1 p2 c5 c6 c7 lt lb
    generalize (W.alloc (.cells #[.int .i64 k, .int .i64 n, .int .i64 kc] 108)).drew = W2 at *
    generalize W.heap.size = B at *)
  go_wp2_with (first
    | (go_at_call 103; refine (SS.out _).mono ?_; rintro e w1 ⟨rfl, rfl⟩)
    | (go_at_call 104; refine (NN.out _ R2.out).mono ?_; rintro e w3 ⟨rfl, hg⟩; have G3 := Lib.hid (grownBy_trans G2.out hg); have R3 := Lib.hid (rat_kept R2.out hg); have CP3 := Lib.hid (copy_kept CP.out hg (by simp)); have y0 := copy_0 CP3.out; have y1 := copy_1 CP3.out; have y2 := copy_2 CP3.out; have lW3 := copy_lt CP3.out; clear hg)
    | (go_at_call 105; refine (KK.out _ R3.out).mono ?_; rintro e w4 ⟨rfl, hg⟩; have G4 := Lib.hid (grownBy_trans G3.out hg); clear hg)
    | (go_at_call 102; refine (rfail_at HH.out G4.out _).mono ?_; rintro e w1 ⟨rfl, rfl⟩))
  go_ret
  exact rfail_post (q := (0, ce, s)) HH.out G4.out HN.out

set_option maxRecDepth 100000 in
set_option maxHeartbeats 4000000 in
theorem rpart_deep (x : Rx) (what : Int) (hw : what = 0 ∨ what = 1 ∨ what = 2) (s : St) (k n kc : Int) (w : World) (hp : x.ps[s.a]? = some (k, n, kc)) (hst : standsB k what = true) (hn : numE x.nl x.nt x.fs.length s.l k n = 0) (hkd : kidsE (x.fs.getD n.toNat 0) k n kc = 0) (hnf : x.fs.length ≤ 1000000) (hnp : x.ps.length ≤ 17592186044415) (h : RAt x w s.a 0 s.m) :
    Calls Try.prog 80 #[.pointer (some ⟨x.Bc, 0, none⟩), .int .i64 (what + 1), .int .i64 65, .int .i64 s.l] w (RPost x 0 w (x.pe 0 what s)) := by
  obtain ⟨hk, hal⟩ := alone_parts (nl := x.nl) (nt := x.nt) (fs := x.fs) (loops := s.l) (n := n) (kc := kc) hst
  rw [if_neg (by omega)] at hal
  have hq : x.pe 0 what s = (0, 175, s) := partE_deep x.nl x.nt x.fs x.ps what s k n kc hp (by rw [hal]; exact hkd)
  rw [hq]
  (
    have hja := (List.getElem?_eq_some_iff.1 hp).1
    obtain ⟨bp, op, hpp, hbp, hpc⟩ := h.pa (by omega)
    obtain ⟨p0, p1, p2⟩ := hpc _ _ _ _ hp
    have c5 := cell_of_row w x.Bc 5 _ _ _ h.box
    have c6 := cell_of_row w x.Bc 6 _ _ _ h.box
    have c7 := cell_of_row w x.Bc 7 _ _ _ h.box
    rw [hpp] at c5
    have lt := (Array.getElem?_eq_some_iff.1 h.box).1
    have lb : bp < w.heap.size := by omega
    have HH := Lib.hid h
    have i1 : (s.a : Int) < ((x.ps.length : Nat) : Int) := by omega
    clear h hpc)
  have SS := Lib.hid (fun w' => rstands_any k what hw w')
  rw [hst] at SS
  have NN := Lib.hid (fun w' (hc : RAt x w' s.a 0 s.m) => rnumber_any k n kc s.l hk x.Bc x.nt x.fs.length x.nl x.ct x.cf x.cl s.a x.pt x.pf x.pl x.nm x.ar 0 s.m (.slice x.pp x.ps.length x.cp) w' hc.box)
  have KK := Lib.hid (fun w' (hc : RAt x w' s.a 0 s.m) => rkids_any k n kc (x.fs.getD n.toNat 0) hk x.Bc x.fs.length x.cf s.a (.slice x.pt x.nt x.ct) x.pf x.nm x.ar 0 s.m (.slice x.pl x.nl x.cl) (.slice x.pp x.ps.length x.cp) w' hc.box (fun_args hc hnf hn).1 (fun_args hc hnf hn).2)
  rw [hn] at NN
  rw [hkd] at KK
  clear hq hp hst hn hal hkd
  go_enter Try.func80, Try.ntmps80
  go_wp2
  go_quiet (fail)
  go_wp2
  (
    have G1 := Lib.hid (show w.grownBy (w.drewN nq) none from grownBy_drewN w nq none)
    replace c5 : (w.drewN nq).cell? ⟨x.Bc, 5, none⟩ = some (.slice (some ⟨bp, op, none⟩) x.ps.length x.cp) := c5
    replace c6 : (w.drewN nq).cell? ⟨x.Bc, 6, none⟩ = some (.int .i64 s.a) := c6
    replace p0 : (w.drewN nq).cell? ⟨bp, op + s.a * 3, none⟩ = some (.int .i64 k) := p0
    replace p1 : (w.drewN nq).cell? ⟨bp, op + s.a * 3 + 1, none⟩ = some (.int .i64 n) := p1
    replace p2 : (w.drewN nq).cell? ⟨bp, op + s.a * 3 + 2, none⟩ = some (.int .i64 kc) := p2
    replace lt : x.Bc < (w.drewN nq).heap.size := lt
    replace lb : bp < (w.drewN nq).heap.size := lb
    generalize w.drewN nq = W at *
    go_region
    have CP := Lib.hid (grown_copy W k n kc)
    have G2 := Lib.hid (show w.grownBy ((W.alloc (.cells #[.int .i64 k, .int .i64 n, .int .i64 kc] 108)).drew) none from grownBy_trans G1.out (grownBy_drew (World.grownBy_alloc W _ none)))
    have R2 := Lib.hid (rat_kept HH.out G2.out)
    have x0 := copy_0 CP.out
    have x1 := copy_1 CP.out
    have x2 := copy_2 CP.out
    have lW := copy_lt CP.out
    have hWB : x.Bc < W.heap.size := lt
    clear p0 p1 p2 c5 c6 c7 lt lb
    generalize (W.alloc (.cells #[.int .i64 k, .int .i64 n, .int .i64 kc] 108)).drew = W2 at *
    generalize W.heap.size = B at *)
  go_wp2_with (first
    | (go_at_call 103; refine (SS.out _).mono ?_; rintro e w1 ⟨rfl, rfl⟩)
    | (go_at_call 104; refine (NN.out _ R2.out).mono ?_; rintro e w3 ⟨rfl, hg⟩; have G3 := Lib.hid (grownBy_trans G2.out hg); have R3 := Lib.hid (rat_kept R2.out hg); have CP3 := Lib.hid (copy_kept CP.out hg (by simp)); have y0 := copy_0 CP3.out; have y1 := copy_1 CP3.out; have y2 := copy_2 CP3.out; have lW3 := copy_lt CP3.out; clear hg)
    | (go_at_call 105; refine (KK.out _ R3.out).mono ?_; rintro e w4 ⟨rfl, hg⟩; have G4 := Lib.hid (grownBy_trans G3.out hg); clear hg)
    | (go_at_call 102; refine (rfail_at HH.out G4.out _).mono ?_; rintro e w1 ⟨rfl, rfl⟩))
  go_ret
  exact rfail_post (q := (0, 175, s)) HH.out G4.out (by simp)

end Go.Proofs.Ytecaolkbllbokaa.TG

namespace Go.Proofs.Ytecaolkbllbokaa.TG
open Go.RowKit Go.Great
set_option linter.unusedSimpArgs false
set_option linter.unusedVariables false

/-- Where the loop stands: v what is wanted so far, c the fault. -/
structure RL (x : Rx) (g : Nat) (w : World) (B : Nat) (k n kc : Int) (s : St) (wr : World) (q : Nat) (v : Int) (a : Nat) (c m : Int) : Prop where
  at_ : RAt x wr a c m
  copy : CopyW wr B k n kc
  gr : w.grownBy wr (some x.Bc)
  hq : q ≤ kc.toNat
  hn : q ≤ x.ps.length
  v0 : 0 ≤ v
  v1 : v ≤ ((g : Int) + 1) * 70368744177664 + 17592186044416
  st : (c = 0 ∧ ∃ (ws : List Int) (t : St), t.a = a ∧ t.m = m ∧ t.l = s.l ∧ v = rfold k 0 0 ws ∧ ws.length = q ∧ (∀ j, j < ws.length → 0 ≤ ws.getD j 0) ∧ a ≤ x.ps.length ∧ q + 1 ≤ a ∧
      loopE (partE x.nl x.nt x.fs x.ps g) k kc.toNat 0 ⟨s.a + 1, s.l, s.m⟩ [] = loopE (partE x.nl x.nt x.fs x.ps g) k (kc.toNat - q) q t ws) ∨
    (c ≠ 0 ∧ (loopE (partE x.nl x.nt x.fs x.ps g) k kc.toNat 0 ⟨s.a + 1, s.l, s.m⟩ []).2.1 = c)

/-- What a kid's call leaves, told at once. -/
theorem rpost_open {x : Rx} {g : Nat} {w w' : World} {a : Nat} {c m : Int} {what : Int} {s : St} {e : Ending} (h : RAt x w a c m) (hp : RPost x g w (x.pe g what s) e w') (hps : x.ps.length ≤ 17592186044415) (ha : s.a ≤ x.ps.length) :
    ∃ (r : Int) (a' : Nat) (c' m' : Int), e = .returned (.int .i64 r) ∧ RAt x w' a' c' m' ∧ w.grownBy w' (some x.Bc) ∧ 0 ≤ r ∧ r ≤ ((g : Int) + 1) * 70368744177664 ∧ c' = (x.pe g what s).2.1 ∧
      (c' = 0 → r = (x.pe g what s).1 ∧ a' = (x.pe g what s).2.2.a ∧ m' = (x.pe g what s).2.2.m ∧ s.a < a' ∧ a' ≤ x.ps.length ∧ (x.pe g what s).2.2.l = s.l) := by
  obtain ⟨gr, h0, h1⟩ := hp
  by_cases hc : (x.pe g what s).2.1 = 0
  · obtain ⟨he, hk⟩ := h0 hc
    have G := partE_good x.nl x.nt x.fs x.ps (by omega) g what s ha hc
    refine ⟨_, _, 0, _, he, rat_row h gr hk, gr, G.w0, G.w1, hc.symm, fun _ => ⟨rfl, rfl, rfl, G.a1, G.a2, G.l⟩⟩
  · obtain ⟨⟨r, he, r0, r1⟩, a', m', hk⟩ := h1 hc
    exact ⟨r, a', _, m', he, rat_row h gr hk, gr, r0, r1, rfl, fun h => absurd h hc⟩

/-- What is wanted behind a kid. -/
def wantN (k : Int) (q : Nat) (v r : Int) : Int := if kidE k q ≠ 2 then v else if k = 23 ∨ k = 24 then max v r else max v (r + q)

theorem rl_step {x : Rx} {g : Nat} {w wr w' : World} {B : Nat} {k n kc : Int} {s : St} {q : Nat} {v : Int} {a : Nat} {m : Int} (h : RL x g w B k n kc s wr q v a 0 m) (hlt : (q : Int) < kc) (hB : x.Bc ≠ B) (hnp : x.ps.length ≤ 17592186044415) {r : Int} {a' : Nat} {c' m' : Int} (t0 : St) (ht : t0 = stepIn k q ⟨a, s.l, m⟩)
    (hr : RAt x w' a' c' m') (gr : wr.grownBy w' (some x.Bc)) (r0 : 0 ≤ r) (r1 : r ≤ ((g : Int) + 1) * 70368744177664) (hc : c' = (x.pe g (kidE k q) t0).2.1)
    (hs : c' = 0 → r = (x.pe g (kidE k q) t0).1 ∧ a' = (x.pe g (kidE k q) t0).2.2.a ∧ m' = (x.pe g (kidE k q) t0).2.2.m ∧ t0.a < a' ∧ a' ≤ x.ps.length ∧ (x.pe g (kidE k q) t0).2.2.l = t0.l) (w'' : World) (g2 : w'.grownBy w'' none) :
    RL x g w B k n kc s w'' (q + 1) (wantN k q v r) a' c' m' := by
  have hst := h.st
  rcases hst with ⟨-, ws, t, ta, tm, tl, hv, hlen, hw, hal, hqa, heq⟩ | ⟨h0, _⟩
  rotate_left
  · exact absurd rfl h0
  have et : t = ⟨a, s.l, m⟩ := by cases t; simp only at ta tm tl; subst ta; subst tm; subst tl; rfl
  have v0 := h.v0
  have v1 := h.v1
  have e : kc.toNat - q = (kc.toNat - (q + 1)) + 1 := by omega
  have hqn : (q : Int) ≤ 17592186044415 := by omega
  refine ⟨rat_kept hr g2, copy_kept (copy_kept h.copy gr (by simpa using hB)) g2 (by simp), grownBy_trans (grownBy_trans h.gr gr) (grow_w g2), by omega, by omega, ?_, ?_, ?_⟩
  · unfold wantN; split
    · exact v0
    · split <;> omega
  · unfold wantN; split
    · exact v1
    · split <;> omega
  · by_cases hc0 : c' = 0
    · left
      obtain ⟨s1, s2, s3, s4, s5, s6⟩ := hs hc0
      have hpe0 : (partE x.nl x.nt x.fs x.ps g (kidE k q) (stepIn k q t)).2.1 = 0 := by
        rw [et, ← ht]; rw [hc] at hc0; exact hc0
      refine ⟨hc0, ws ++ [r], stepOut k q (x.pe g (kidE k q) t0).2.2, ?_, ?_, ?_, ?_, by rw [List.length_append, hlen]; rfl, ?_, s5, ?_, ?_⟩
      · rw [stepOut_a, s2]
      · rw [stepOut_m, s3]
      · have := step_l k q ⟨a, s.l, m⟩ (x.pe g (kidE k q) t0).2.2 (by rw [s6, ht])
        exact this
      · rw [rfold_snoc, ← hv, Nat.zero_add, hlen]; rfl
      · intro j hj
        by_cases hjl : j < ws.length
        · have : (ws ++ [r]).getD j 0 = ws.getD j 0 := by simp [List.getD, List.getElem?_append_left hjl]
          rw [this]; exact hw j hjl
        · have e1 : j = ws.length := by simp at hj; omega
          have : (ws ++ [r]).getD j 0 = r := by simp [List.getD, e1]
          rw [this]; exact r0
      · have hta : t0.a = a := by rw [ht]; exact stepIn_a k q _
        omega
      · rw [heq, e, loopE_good _ _ _ _ _ _ hpe0, s1, et, ← ht]
        rfl
    · right
      refine ⟨hc0, ?_⟩
      have hpe0 : (partE x.nl x.nt x.fs x.ps g (kidE k q) (stepIn k q t)).2.1 ≠ 0 := by
        rw [et, ← ht]; rw [hc] at hc0; exact hc0
      rw [heq, e, loopE_bad _ _ _ _ _ _ hpe0, hc, et, ← ht]
      rfl

theorem rl_end {x : Rx} {g : Nat} {w wr : World} {B : Nat} {k n kc what : Int} {s : St} {q : Nat} {v : Int} {a : Nat} {c m : Int} (h : RL x g w B k n kc s wr q v a c m) (hx : ¬ ((q : Int) < kc ∧ c = 0)) (hp : x.ps[s.a]? = some (k, n, kc)) (hal : aloneE x.nl x.nt x.fs s.l k n kc what = 0) (mm : Int) (hmm : mm = max m (rlast k v)) :
    RPost x (g + 1) w (x.pe (g + 1) what s) (.returned (.int .i64 (rlast k v))) (wr.setCell ⟨x.Bc, 8, none⟩ (.int .i64 mm)) := by
  have hpk := partE_kids x.nl x.nt x.fs x.ps g what s k n kc hp hal _ rfl
  have v0 := h.v0
  have v1 := h.v1
  have hck := ck_set8 (x := x) h.at_.box mm
  have gr := grownBy_trans h.gr (grownBy_set wr x.Bc 8 (.int .i64 mm))
  have hrl : 0 ≤ rlast k v ∧ rlast k v ≤ (((g + 1 : Nat) : Int) + 1) * 70368744177664 := by
    unfold rlast; push_cast; split
    · omega
    · split <;> omega
  rcases h.st with ⟨hc, ws, t, ta, tm, tl, hv, hlen, hw, hal2, hqa, heq⟩ | ⟨hc, hbad⟩
  · subst hc
    have e0 : kc.toNat - q = 0 := by omega
    have hql : ws.length = kc.toNat := by have := h.hq; omega
    rw [e0, loopE_zero] at heq
    rw [heq] at hpk
    simp only [ne_eq, not_true, if_false] at hpk
    have hwe : rlast k v = wantE k ws := by rw [hv]; exact rwant_eq hal ws hql hw
    unfold Rx.pe
    rw [hpk]
    refine ⟨gr, fun _ => ⟨by rw [hwe], ?_⟩, fun h0 => absurd rfl h0⟩
    show x.ck _ t.a 0 (max t.m (wantE k ws))
    rw [ta, tm, ← hwe, ← hmm]
    exact hck
  · rw [if_pos (by rw [hbad]; exact hc), hbad] at hpk
    unfold Rx.pe
    rw [hpk]
    exact ⟨gr, fun h0 => absurd h0 hc, fun _ => ⟨⟨_, rfl, hrl.1, hrl.2⟩, a, mm, hck⟩⟩

end Go.Proofs.Ytecaolkbllbokaa.TG
