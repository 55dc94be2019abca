/-
  The reference's compiler: part, of PIf, PWhile, PAnd, POr, PBreak, PContinue. Conditions: as each theorem states.
  The reference's compiler: part, of the other kinds: the loop over its kids. Conditions: as each theorem states.
  The reference's compiler: the whole contract of part. Conditions: as each theorem states.
-/
import Derived.Test.YtecaolkbllbokaaMB19
import Derived.Test.YtecaolkbllbokaaMB12
import Derived.Deep.QuietTactic
import Derived.BigQuiet
import Derived.Deep.RegionHeld3
import Derived.StillTailTactics
namespace Go.Proofs.Ytecaolkbllbokaa.TG
open Go.RowKit Go.Great
set_option linter.unusedSimpArgs false
set_option linter.unusedVariables false

structure LxWF (x : Lx) : Prop where
  hu : UnWF x.u
  nt : x.u.texts.length ≤ 1024
  np : x.ps.length ≤ 17592186044415

/-- Where the walk of part stands: r what came last. -/
structure Stp (x : Lx) (w w1 : World) (k n kc : Int) (r : Rs) : Prop where
  at_ : LxAt x w1
  cod : CodR x w1 r.2.2 r.2.1
  sp : w.grownBy w1 (some x.Bc)
  copy : CopyW w1 w.heap.size k n kc
  lt : x.Bc < w.heap.size

theorem stp_first {x : Lx} {w : World} {a : Nat} {k n kc : Int} (hx : LxAt x w) (hc : CodR x w a false) :
    Stp x w ((w.setCell ⟨x.Bc, 3, none⟩ (.int .i64 ((a : Int) + 1))).alloc (.cells #[.int .i64 k, .int .i64 n, .int .i64 kc] 108)) k n kc ([], false, a + 1) := by
  have g1 := grownBy_set w x.Bc 3 (.int .i64 ((a : Int) + 1))
  have g := grownBy_trans g1 (World.grownBy_alloc (w.setCell ⟨x.Bc, 3, none⟩ (.int .i64 ((a : Int) + 1))) (.cells #[.int .i64 k, .int .i64 n, .int .i64 kc] 108) (some x.Bc))
  have lt := cod_lt hc
  have cp := copy_new (w.setCell ⟨x.Bc, 3, none⟩ (.int .i64 ((a : Int) + 1))) k n kc
  have e : (w.setCell ⟨x.Bc, 3, none⟩ (.int .i64 ((a : Int) + 1))).heap.size = w.heap.size := by simp
  rw [e] at cp
  exact ⟨lx_kept' hx g, cod_kept (cod_at hc 0) (World.grownBy_alloc _ _ none), g, cp, lt⟩

theorem stp_call {x : Lx} {w w1 w2 : World} {k n kc : Int} {r : Rs} {P : Nat → Rs} {e : Ending} (h : Stp x w w1 k n kc r) (hq : NPost x w1 (nextR P r.2.1 r.2.2) e w2) :
    ∃ v, e = .returned v ∧ LnsAt w2 w.heap.size v (nx P r).1 ∧ Stp x w w2 k n kc (nx P r) ∧ w1.grownBy w2 (some x.Bc) := by
  obtain ⟨v, e1, l, g, c⟩ := hq
  have lt := h.lt
  exact ⟨v, e1, lns_base l h.sp.size, ⟨lx_kept' h.at_ g, c, grownBy_trans h.sp g, copy_kept h.copy g (by simp; omega), lt⟩, g⟩

theorem stp_end {x : Lx} {w w1 w2 : World} {k n kc : Int} {r : Rs} {R : List Ln} {e : Ending} (h : Stp x w w1 k n kc r) (hq : LnsPost w1 R e w2) : NPost x w (R, r.2) e w2 := by
  obtain ⟨v, e1, l, g⟩ := hq
  exact ⟨v, e1, lns_base l h.sp.size, grownBy_trans h.sp (grow_w g), cod_kept h.cod g⟩
theorem stp_end' {x : Lx} {w w1 w2 : World} {k n kc : Int} {r r' : Rs} {e : Ending} (h : Stp x w w1 k n kc r) (hq : LnsPost w1 r'.1 e w2) (hr : r'.2 = r.2) : NPost x w r' e w2 := by
  have := stp_end h hq
  rw [← hr] at this
  exact this

theorem stp_keep {x : Lx} {w w1 w2 : World} {v : Value} {R : List Ln} (h : LnsAt w1 w.heap.size v R) (g : w1.grownBy w2 (some x.Bc)) (lt : x.Bc < w.heap.size) : LnsAt w2 w.heap.size v R := lns_keepB h g lt

theorem p_len (x : Lx) (g : Nat) (hg : g ≤ 65) : ∀ a, (x.P g a).1.length ≤ 594000 := fun a => by
  have := part_len x.u.texts x.ps g a
  show (partR _ _ _ _).1.length ≤ _
  omega
theorem nx_len (x : Lx) (g : Nat) (hg : g ≤ 65) (r : Rs) : (nx (x.P g) r).1.length ≤ 10000000 := by
  have := (next_len (r := r) (p_len x g hg)).1; omega

theorem stp_grow {x : Lx} {w w1 w2 : World} {k n kc : Int} {r : Rs} (h : Stp x w w1 k n kc r) (g : w1.grownBy w2 none) : Stp x w w2 k n kc r :=
  ⟨lx_kept' h.at_ (grow_w g), cod_kept h.cod g, grownBy_trans h.sp (grow_w g), copy_kept h.copy g (by simp), h.lt⟩

theorem leave_npost {x : Lx} {w w1 : World} {k n kc : Int} {a : Nat} {op b part out : Int} {j ag : Bool} {o : Obj} (h : Stp x w w1 k n kc ([], false, a)) (e : Ending) (he : e = .returned (.slice (some ⟨w1.heap.size + 1, 0, none⟩) 1 1)) :
    NPost x w ([⟨op, b, part, j, out, ag⟩], false, a) e ((w1.alloc o).alloc (.cells #[.int .i64 op, .int .i64 b, .int .i64 part, .bool j, .int .i64 out, .bool ag] 86)) := by
  have s2 := stp_grow h (World.grownBy_alloc w1 o none)
  have s3 := stp_grow s2 (World.grownBy_alloc (w1.alloc o) (.cells #[.int .i64 op, .int .i64 b, .int .i64 part, .bool j, .int .i64 out, .bool ag] 86) none)
  have hl := lns_lit' (w1.alloc o) (w1.alloc o) (grownBy_refl _ _) [⟨op, b, part, j, out, ag⟩] _ rfl (by simp)
  rw [World.size_alloc] at hl
  refine ⟨_, he, lns_base hl ?_, s3.sp, s3.cod⟩
  have := h.sp.size
  omega

set_option maxRecDepth 100000 in
set_option maxHeartbeats 4000000 in
theorem part_if2 (x : Lx) (hwf : LxWF x) (g : Nat) (hg : g ≤ 65) (hN : NCon x g) (m a : Nat) (hm : m ≤ 1000) (n : Int) (hp : x.ps[a]? = some (5, n, 2)) (w : World) (hx : LxAt x w) (hc : CodR x w a false)
    (o1 : okP x.u.texts.length x.ps g m (a + 1)) (o2 : (nx (x.P g) ([], false, a + 1)).2.1 = false → okP x.u.texts.length x.ps g m (nx (x.P g) ([], false, a + 1)).2.2) :
    Calls Try.prog 81 #[.pointer (some ⟨x.Bc, 0, none⟩)] w (NPost x w (if2R (x.P g) a (nx (x.P g) ([], false, a + 1)))) := by
  (
    have hja := (List.getElem?_eq_some_iff.1 hp).1
    obtain ⟨bp, op, hpp, hbp, hpc⟩ := hx.pa (by omega)
    obtain ⟨p0, p1, p2⟩ := hpc _ _ _ _ hp
    have c2 := cod_2 hc
    rw [hpp] at c2
    have c3 := cod_3 hc
    have z3 := cod_z hc 3
    have lt := cod_lt hc
    have hul := hx.un.le
    have lb : bp < w.heap.size := by have := hx.lb; omega
    have i1 : (a : Int) < ((x.ps.length : Nat) : Int) := by omega
    have hnp := hwf.np
    have HX := Lib.hid hx
    have HC := Lib.hid hc
    have HW := Lib.hid hwf
    clear hx hc hpc hp hwf hbp hpp hul)
  have O1 := Lib.hid o1
  have O2 := Lib.hid o2
  have NX := Lib.hid hN
  have S0 := Lib.hid (stp_first (k := 5) (n := n) (kc := 2) HX.out HC.out)
  obtain ⟨m2, hm2, em2⟩ : ∃ m2, m2 ≤ 1000 ∧ m2 = m := ⟨m, hm, rfl⟩
  rw [← em2] at O2
  clear o1 o2 hN em2
  go_enter Try.func81, Try.ntmps81
  go_wp2_with (first
    | (go_at_call 49; first | (refine (NX.out m2 _ _ _ O2.out hm2 S1.out.at_ S1.out.cod).mono ?_; intro e w2 hq; obtain ⟨v2, rfl, l2, s2, g2⟩ := stp_call S1.out hq; have S2 := Lib.hid s2; have L2 := Lib.hid l2; have L1' := Lib.hid (stp_keep L1.out g2 s2.lt); have q0 := copy_0 s2.copy; have q1 := copy_1 s2.copy; have q2 := copy_2 s2.copy; have ql := copy_lt s2.copy; clear hq l2 s2 g2 S1 L1) | (refine (NX.out m (a + 1) false _ (fun _ => O1.out) hm S0.out.at_ S0.out.cod).mono ?_; intro e w1 hq; obtain ⟨v1, rfl, l1, s1, g1⟩ := stp_call S0.out hq; have S1 := Lib.hid s1; have L1 := Lib.hid l1; have q0 := copy_0 s1.copy; have q1 := copy_1 s1.copy; have q2 := copy_2 s1.copy; have ql := copy_lt s1.copy; clear hq l1 s1 g1 S0))
    | (go_at_call 108; refine (chosen_one _ _ _ _ _ _ _ _ _ L1'.out L2.out (nx_len x g hg _) (nx_len x g hg _)).mono ?_; intro e w3 hq; have E3 := Lib.hid (stp_end' (r' := if2R (x.P g) a (nx (x.P g) ([], false, a + 1))) S2.out hq rfl); obtain ⟨v3, rfl, -⟩ := hq; clear S2 L1' L2))
  go_ret
  exact E3.out

set_option maxRecDepth 100000 in
set_option maxHeartbeats 4000000 in
theorem part_if3 (x : Lx) (hwf : LxWF x) (g : Nat) (hg : g ≤ 65) (hN : NCon x g) (m a : Nat) (hm : m ≤ 1000) (n : Int) (hp : x.ps[a]? = some (5, n, 3)) (w : World) (hx : LxAt x w) (hc : CodR x w a false)
    (o1 : okP x.u.texts.length x.ps g m (a + 1)) (o2 : (nx (x.P g) ([], false, a + 1)).2.1 = false → okP x.u.texts.length x.ps g m (nx (x.P g) ([], false, a + 1)).2.2)
    (o3 : (nx (x.P g) (nx (x.P g) ([], false, a + 1))).2.1 = false → okP x.u.texts.length x.ps g m (nx (x.P g) (nx (x.P g) ([], false, a + 1))).2.2) :
    Calls Try.prog 81 #[.pointer (some ⟨x.Bc, 0, none⟩)] w (NPost x w (if3R (x.P g) a (nx (x.P g) ([], false, a + 1)))) := by
  (
    have hja := (List.getElem?_eq_some_iff.1 hp).1
    obtain ⟨bp, op, hpp, hbp, hpc⟩ := hx.pa (by omega)
    obtain ⟨p0, p1, p2⟩ := hpc _ _ _ _ hp
    have c2 := cod_2 hc
    rw [hpp] at c2
    have c3 := cod_3 hc
    have z3 := cod_z hc 3
    have lt := cod_lt hc
    have hul := hx.un.le
    have lb : bp < w.heap.size := by have := hx.lb; omega
    have i1 : (a : Int) < ((x.ps.length : Nat) : Int) := by omega
    have hnp := hwf.np
    have HX := Lib.hid hx
    have HC := Lib.hid hc
    have HW := Lib.hid hwf
    clear hx hc hpc hp hwf hbp hpp hul)
  have O1 := Lib.hid o1
  have O2 := Lib.hid o2
  have O3 := Lib.hid o3
  have NX := Lib.hid hN
  have S0 := Lib.hid (stp_first (k := 5) (n := n) (kc := 3) HX.out HC.out)
  obtain ⟨m2, hm2, em2⟩ : ∃ m2, m2 ≤ 1000 ∧ m2 = m := ⟨m, hm, rfl⟩
  rw [← em2] at O2
  clear o1 o2 o3 hN em2
  go_enter Try.func81, Try.ntmps81
  go_wp2_with (first
    | (go_at_call 49; first | (refine (NX.out m _ _ _ O3.out hm S2.out.at_ S2.out.cod).mono ?_; intro e w3 hq; obtain ⟨v3, rfl, l3, s3, g3⟩ := stp_call S2.out hq; have S3 := Lib.hid s3; have L3 := Lib.hid l3; have L1'' := Lib.hid (stp_keep L1'.out g3 s3.lt); have L2' := Lib.hid (stp_keep L2.out g3 s3.lt); have q0 := copy_0 s3.copy; have q1 := copy_1 s3.copy; have q2 := copy_2 s3.copy; have ql := copy_lt s3.copy; clear hq l3 s3 g3 S2 L2 L1') | (refine (NX.out m2 _ _ _ O2.out hm2 S1.out.at_ S1.out.cod).mono ?_; intro e w2 hq; obtain ⟨v2, rfl, l2, s2, g2⟩ := stp_call S1.out hq; have S2 := Lib.hid s2; have L2 := Lib.hid l2; have L1' := Lib.hid (stp_keep L1.out g2 s2.lt); have q0 := copy_0 s2.copy; have q1 := copy_1 s2.copy; have q2 := copy_2 s2.copy; have ql := copy_lt s2.copy; clear hq l2 s2 g2 S1 L1) | (refine (NX.out m (a + 1) false _ (fun _ => O1.out) hm S0.out.at_ S0.out.cod).mono ?_; intro e w1 hq; obtain ⟨v1, rfl, l1, s1, g1⟩ := stp_call S0.out hq; have S1 := Lib.hid s1; have L1 := Lib.hid l1; have q0 := copy_0 s1.copy; have q1 := copy_1 s1.copy; have q2 := copy_2 s1.copy; have ql := copy_lt s1.copy; clear hq l1 s1 g1 S0))
    | (go_at_call 108; refine (chosen_two _ _ _ _ _ _ _ _ _ _ _ L1''.out L2'.out L3.out (nx_len x g hg _) (nx_len x g hg _) (nx_len x g hg _)).mono ?_; intro e w4 hq; have E3 := Lib.hid (stp_end' (r' := if3R (x.P g) a (nx (x.P g) ([], false, a + 1))) S3.out hq rfl); obtain ⟨v4, rfl, -⟩ := hq; clear S3 L1'' L2' L3))
  go_ret
  exact E3.out

set_option maxRecDepth 100000 in
set_option maxHeartbeats 4000000 in
theorem part_wh (x : Lx) (hwf : LxWF x) (g : Nat) (hg : g ≤ 65) (hN : NCon x g) (m a : Nat) (hm : m + 1 ≤ 1000) (n kc : Int) (hp : x.ps[a]? = some (6, n, kc)) (w : World) (hx : LxAt x w) (hc : CodR x w a false)
    (o1 : okP x.u.texts.length x.ps g m (a + 1)) (o2 : (nx (x.P g) ([], false, a + 1)).2.1 = false → okP x.u.texts.length x.ps g (m + 1) (nx (x.P g) ([], false, a + 1)).2.2)
    (ho : ∀ y ∈ (nx (x.P g) (nx (x.P g) ([], false, a + 1))).1, 0 ≤ y.out ∧ y.out ≤ 1000000000000000) :
    Calls Try.prog 81 #[.pointer (some ⟨x.Bc, 0, none⟩)] w (NPost x w (whR (x.P g) a (nx (x.P g) ([], false, a + 1)))) := by
  (
    have hja := (List.getElem?_eq_some_iff.1 hp).1
    obtain ⟨bp, op, hpp, hbp, hpc⟩ := hx.pa (by omega)
    obtain ⟨p0, p1, p2⟩ := hpc _ _ _ _ hp
    have c2 := cod_2 hc
    rw [hpp] at c2
    have c3 := cod_3 hc
    have z3 := cod_z hc 3
    have lt := cod_lt hc
    have hul := hx.un.le
    have lb : bp < w.heap.size := by have := hx.lb; omega
    have i1 : (a : Int) < ((x.ps.length : Nat) : Int) := by omega
    have hnp := hwf.np
    have HX := Lib.hid hx
    have HC := Lib.hid hc
    have HW := Lib.hid hwf
    clear hx hc hpc hp hwf hbp hpp hul)
  have O1 := Lib.hid o1
  have O2 := Lib.hid o2
  have HO := Lib.hid ho
  have NX := Lib.hid hN
  have S0 := Lib.hid (stp_first (k := 6) (n := n) (kc := kc) HX.out HC.out)
  obtain ⟨m2, hm2, em2⟩ : ∃ m2, m2 ≤ 1000 ∧ m2 = m + 1 := ⟨m + 1, hm, rfl⟩
  rw [← em2] at O2
  replace hm : m ≤ 1000 := by omega
  clear o1 o2 ho hN em2
  go_enter Try.func81, Try.ntmps81
  go_wp2_with (first
    | (go_at_call 49; first | (refine (NX.out m2 _ _ _ O2.out hm2 S1.out.at_ S1.out.cod).mono ?_; intro e w2 hq; obtain ⟨v2, rfl, l2, s2, g2⟩ := stp_call S1.out hq; have S2 := Lib.hid s2; have L2 := Lib.hid l2; have L1' := Lib.hid (stp_keep L1.out g2 s2.lt); have q0 := copy_0 s2.copy; have q1 := copy_1 s2.copy; have q2 := copy_2 s2.copy; have ql := copy_lt s2.copy; clear hq l2 s2 g2 S1 L1) | (refine (NX.out m (a + 1) false _ (fun _ => O1.out) hm S0.out.at_ S0.out.cod).mono ?_; intro e w1 hq; obtain ⟨v1, rfl, l1, s1, g1⟩ := stp_call S0.out hq; have S1 := Lib.hid s1; have L1 := Lib.hid l1; have q0 := copy_0 s1.copy; have q1 := copy_1 s1.copy; have q2 := copy_2 s1.copy; have ql := copy_lt s1.copy; clear hq l1 s1 g1 S0))
    | (go_at_call 109; refine (loop_any _ _ _ _ _ _ _ _ L1'.out L2.out (nx_len x g hg _) (nx_len x g hg _) HO.out).mono ?_; intro e w4 hq; have E3 := Lib.hid (stp_end' (r' := whR (x.P g) a (nx (x.P g) ([], false, a + 1))) S2.out hq rfl); obtain ⟨v4, rfl, -⟩ := hq; clear S2 L1' L2))
  go_ret
  exact E3.out

set_option maxRecDepth 100000 in
set_option maxHeartbeats 4000000 in
theorem part_and (x : Lx) (hwf : LxWF x) (g : Nat) (hg : g ≤ 65) (hN : NCon x g) (m a : Nat) (hm : m ≤ 1000) (n kc : Int) (hp : x.ps[a]? = some (23, n, kc)) (w : World) (hx : LxAt x w) (hc : CodR x w a false)
    (o1 : okP x.u.texts.length x.ps g m (a + 1)) (o2 : (nx (x.P g) ([], false, a + 1)).2.1 = false → okP x.u.texts.length x.ps g m (nx (x.P g) ([], false, a + 1)).2.2) :
    Calls Try.prog 81 #[.pointer (some ⟨x.Bc, 0, none⟩)] w (NPost x w (twoR (x.P g) a 15 0 (nx (x.P g) ([], false, a + 1)))) := by
  (
    have hja := (List.getElem?_eq_some_iff.1 hp).1
    obtain ⟨bp, op, hpp, hbp, hpc⟩ := hx.pa (by omega)
    obtain ⟨p0, p1, p2⟩ := hpc _ _ _ _ hp
    have c2 := cod_2 hc
    rw [hpp] at c2
    have c3 := cod_3 hc
    have z3 := cod_z hc 3
    have lt := cod_lt hc
    have hul := hx.un.le
    have lb : bp < w.heap.size := by have := hx.lb; omega
    have i1 : (a : Int) < ((x.ps.length : Nat) : Int) := by omega
    have hnp := hwf.np
    have HX := Lib.hid hx
    have HC := Lib.hid hc
    have HW := Lib.hid hwf
    clear hx hc hpc hp hwf hbp hpp hul)
  have O1 := Lib.hid o1
  have O2 := Lib.hid o2
  have NX := Lib.hid hN
  have S0 := Lib.hid (stp_first (k := 23) (n := n) (kc := kc) HX.out HC.out)
  obtain ⟨m2, hm2, em2⟩ : ∃ m2, m2 ≤ 1000 ∧ m2 = m := ⟨m, hm, rfl⟩
  rw [← em2] at O2
  clear o1 o2 hN em2
  go_enter Try.func81, Try.ntmps81
  go_wp2_with (first
    | (go_at_call 49; first | (refine (NX.out m2 _ _ _ O2.out hm2 S1.out.at_ S1.out.cod).mono ?_; intro e w2 hq; obtain ⟨v2, rfl, l2, s2, g2⟩ := stp_call S1.out hq; have S2 := Lib.hid s2; have L2 := Lib.hid l2; have L1' := Lib.hid (stp_keep L1.out g2 s2.lt); have q0 := copy_0 s2.copy; have q1 := copy_1 s2.copy; have q2 := copy_2 s2.copy; have ql := copy_lt s2.copy; clear hq l2 s2 g2 S1 L1) | (refine (NX.out m (a + 1) false _ (fun _ => O1.out) hm S0.out.at_ S0.out.cod).mono ?_; intro e w1 hq; obtain ⟨v1, rfl, l1, s1, g1⟩ := stp_call S0.out hq; have S1 := Lib.hid s1; have L1 := Lib.hid l1; have q0 := copy_0 s1.copy; have q1 := copy_1 s1.copy; have q2 := copy_2 s1.copy; have ql := copy_lt s1.copy; clear hq l1 s1 g1 S0))
    | (go_at_call 110; refine (whether_any _ _ _ _ _ _ _ _ _ _ L1'.out L2.out (nx_len x g hg _) (nx_len x g hg _)).mono ?_; intro e w4 hq; have E3 := Lib.hid (stp_end' (r' := twoR (x.P g) a 15 0 (nx (x.P g) ([], false, a + 1))) S2.out hq rfl); obtain ⟨v4, rfl, -⟩ := hq; clear S2 L1' L2))
  go_ret
  exact E3.out

set_option maxRecDepth 100000 in
set_option maxHeartbeats 4000000 in
theorem part_or (x : Lx) (hwf : LxWF x) (g : Nat) (hg : g ≤ 65) (hN : NCon x g) (m a : Nat) (hm : m ≤ 1000) (n kc : Int) (hp : x.ps[a]? = some (24, n, kc)) (w : World) (hx : LxAt x w) (hc : CodR x w a false)
    (o1 : okP x.u.texts.length x.ps g m (a + 1)) (o2 : (nx (x.P g) ([], false, a + 1)).2.1 = false → okP x.u.texts.length x.ps g m (nx (x.P g) ([], false, a + 1)).2.2) :
    Calls Try.prog 81 #[.pointer (some ⟨x.Bc, 0, none⟩)] w (NPost x w (twoR (x.P g) a 16 1 (nx (x.P g) ([], false, a + 1)))) := by
  (
    have hja := (List.getElem?_eq_some_iff.1 hp).1
    obtain ⟨bp, op, hpp, hbp, hpc⟩ := hx.pa (by omega)
    obtain ⟨p0, p1, p2⟩ := hpc _ _ _ _ hp
    have c2 := cod_2 hc
    rw [hpp] at c2
    have c3 := cod_3 hc
    have z3 := cod_z hc 3
    have lt := cod_lt hc
    have hul := hx.un.le
    have lb : bp < w.heap.size := by have := hx.lb; omega
    have i1 : (a : Int) < ((x.ps.length : Nat) : Int) := by omega
    have hnp := hwf.np
    have HX := Lib.hid hx
    have HC := Lib.hid hc
    have HW := Lib.hid hwf
    clear hx hc hpc hp hwf hbp hpp hul)
  have O1 := Lib.hid o1
  have O2 := Lib.hid o2
  have NX := Lib.hid hN
  have S0 := Lib.hid (stp_first (k := 24) (n := n) (kc := kc) HX.out HC.out)
  obtain ⟨m2, hm2, em2⟩ : ∃ m2, m2 ≤ 1000 ∧ m2 = m := ⟨m, hm, rfl⟩
  rw [← em2] at O2
  clear o1 o2 hN em2
  go_enter Try.func81, Try.ntmps81
  go_wp2_with (first
    | (go_at_call 49; first | (refine (NX.out m2 _ _ _ O2.out hm2 S1.out.at_ S1.out.cod).mono ?_; intro e w2 hq; obtain ⟨v2, rfl, l2, s2, g2⟩ := stp_call S1.out hq; have S2 := Lib.hid s2; have L2 := Lib.hid l2; have L1' := Lib.hid (stp_keep L1.out g2 s2.lt); have q0 := copy_0 s2.copy; have q1 := copy_1 s2.copy; have q2 := copy_2 s2.copy; have ql := copy_lt s2.copy; clear hq l2 s2 g2 S1 L1) | (refine (NX.out m (a + 1) false _ (fun _ => O1.out) hm S0.out.at_ S0.out.cod).mono ?_; intro e w1 hq; obtain ⟨v1, rfl, l1, s1, g1⟩ := stp_call S0.out hq; have S1 := Lib.hid s1; have L1 := Lib.hid l1; have q0 := copy_0 s1.copy; have q1 := copy_1 s1.copy; have q2 := copy_2 s1.copy; have ql := copy_lt s1.copy; clear hq l1 s1 g1 S0))
    | (go_at_call 110; refine (whether_any _ _ _ _ _ _ _ _ _ _ L1'.out L2.out (nx_len x g hg _) (nx_len x g hg _)).mono ?_; intro e w4 hq; have E3 := Lib.hid (stp_end' (r' := twoR (x.P g) a 16 1 (nx (x.P g) ([], false, a + 1))) S2.out hq rfl); obtain ⟨v4, rfl, -⟩ := hq; clear S2 L1' L2))
  go_ret
  exact E3.out

set_option maxRecDepth 100000 in
set_option maxHeartbeats 4000000 in
theorem part_break (x : Lx) (hwf : LxWF x) (a : Nat) (n kc : Int) (hn : 0 ≤ n ∧ n ≤ 1000) (hp : x.ps[a]? = some (7, n, kc)) (w : World) (hx : LxAt x w) (hc : CodR x w a false) :
    Calls Try.prog 81 #[.pointer (some ⟨x.Bc, 0, none⟩)] w (NPost x w ([⟨14, 0, a, false, n + 1, false⟩], false, a + 1)) := by
  (
    have hja := (List.getElem?_eq_some_iff.1 hp).1
    obtain ⟨bp, op, hpp, hbp, hpc⟩ := hx.pa (by omega)
    obtain ⟨p0, p1, p2⟩ := hpc _ _ _ _ hp
    have c2 := cod_2 hc
    rw [hpp] at c2
    have c3 := cod_3 hc
    have z3 := cod_z hc 3
    have lt := cod_lt hc
    have hul := hx.un.le
    have lb : bp < w.heap.size := by have := hx.lb; omega
    have i1 : (a : Int) < ((x.ps.length : Nat) : Int) := by omega
    have hnp := hwf.np
    have HX := Lib.hid hx
    have HC := Lib.hid hc
    have HW := Lib.hid hwf
    clear hx hc hpc hp hwf hbp hpp hul)
  have S0 := Lib.hid (stp_first (k := 7) (n := n) (kc := kc) HX.out HC.out)
  obtain ⟨hn0, hn1⟩ := hn
  go_enter Try.func81, Try.ntmps81
  go_wp2_with (go_at_call 50; refine (line_raw _ _ _ _).mono ?_; rintro e w1 ⟨rfl, hg⟩; have S1 := Lib.hid (stp_grow S0.out hg); have q0 := copy_0 S1.out.copy; have q1 := copy_1 S1.out.copy; have q2 := copy_2 S1.out.copy; have ql := copy_lt S1.out.copy; have hsz := Lib.hid (Nat.le_of_lt ql); clear hg S0)
  go_ret
  exact leave_npost S1.out _ rfl

set_option maxRecDepth 100000 in
set_option maxHeartbeats 4000000 in
theorem part_cont (x : Lx) (hwf : LxWF x) (a : Nat) (n kc : Int) (hn : 0 ≤ n ∧ n ≤ 1000) (hp : x.ps[a]? = some (8, n, kc)) (w : World) (hx : LxAt x w) (hc : CodR x w a false) :
    Calls Try.prog 81 #[.pointer (some ⟨x.Bc, 0, none⟩)] w (NPost x w ([⟨14, 0, a, false, n + 1, true⟩], false, a + 1)) := by
  (
    have hja := (List.getElem?_eq_some_iff.1 hp).1
    obtain ⟨bp, op, hpp, hbp, hpc⟩ := hx.pa (by omega)
    obtain ⟨p0, p1, p2⟩ := hpc _ _ _ _ hp
    have c2 := cod_2 hc
    rw [hpp] at c2
    have c3 := cod_3 hc
    have z3 := cod_z hc 3
    have lt := cod_lt hc
    have hul := hx.un.le
    have lb : bp < w.heap.size := by have := hx.lb; omega
    have i1 : (a : Int) < ((x.ps.length : Nat) : Int) := by omega
    have hnp := hwf.np
    have HX := Lib.hid hx
    have HC := Lib.hid hc
    have HW := Lib.hid hwf
    clear hx hc hpc hp hwf hbp hpp hul)
  have S0 := Lib.hid (stp_first (k := 8) (n := n) (kc := kc) HX.out HC.out)
  obtain ⟨hn0, hn1⟩ := hn
  go_enter Try.func81, Try.ntmps81
  go_wp2_with (go_at_call 50; refine (line_raw _ _ _ _).mono ?_; rintro e w1 ⟨rfl, hg⟩; have S1 := Lib.hid (stp_grow S0.out hg); have q0 := copy_0 S1.out.copy; have q1 := copy_1 S1.out.copy; have q2 := copy_2 S1.out.copy; have ql := copy_lt S1.out.copy; have hsz := Lib.hid (Nat.le_of_lt ql); clear hg S0)
  go_ret
  exact leave_npost S1.out _ rfl

end Go.Proofs.Ytecaolkbllbokaa.TG

namespace Go.Proofs.Ytecaolkbllbokaa.TG
open Go.RowKit Go.Great
set_option linter.unusedSimpArgs false
set_option linter.unusedVariables false

/-- Where the loop over the kids stands. -/
structure LKL (x : Lx) (g m : Nat) (w wr : World) (k n kc : Int) (r0 : Rs) (q : Nat) (r : Rs) (v : Value) : Prop where
  st : Stp x w wr k n kc r
  own : LnsAt wr (w.heap.size + 1) v r.1
  eq : kidsR (x.P g) kc.toNat r0 = kidsR (x.P g) (kc.toNat - q) r
  ok : r.2.1 = false → kidsO (okP x.u.texts.length x.ps g m) (skipS x.ps g) (kc.toNat - q) r.2.2
  hq : q ≤ kc.toNat
  len : r.1.length ≤ 600000
  le : r.2.1 = false → r.1.length ≤ 4096

theorem own_block_ne {w : World} {b b' : Nat} {v : Value} {R : List Ln} (h : LnsAt w b v R) (hb : b' < b) : v.ownBlock ≠ some b' := fun e => by
  have := (h.lt b' e).1; omega

/-- Behind the call of next and the append. -/
theorem lkl_app {x : Lx} {g m : Nat} {w wr w1 w2 : World} {k n kc : Int} {r0 : Rs} {q : Nat} {r : Rs} {v : Value} (h : LKL x g m w wr k n kc r0 q r v)
    (S1 : Stp x w w1 k n kc (nx (x.P g) r)) (g2 : w1.grownBy w2 v.ownBlock) (own1 : LnsAt w1 (w.heap.size + 1) v r.1) : Stp x w w2 k n kc (nx (x.P g) r) := by
  have ne1 : v.ownBlock ≠ some x.Bc := own_block_ne own1 (by have := S1.lt; omega)
  have ne2 : v.ownBlock ≠ some w.heap.size := own_block_ne own1 (by omega)
  have ge : ∀ b, v.ownBlock = some b → w.heap.size ≤ b := fun b e => by have := (own1.lt b e).1; omega
  refine ⟨lx_kept S1.at_ g2 fun b e => by have := ge b e; have := S1.at_.lb; have := S1.lt; omega, ?_, ?_, copy_kept S1.copy g2 ne2, S1.lt⟩
  · have := S1.cod
    unfold CodR at *
    rw [g2.block x.Bc (cod_lt S1.cod) (Ne.symm ne1)]; exact this
  · cases hv : v.ownBlock with
    | none => rw [hv] at g2; exact grownBy_trans S1.sp (grow_w g2)
    | some b => rw [hv] at g2; exact grow_new S1.sp g2 (ge b hv)

theorem lkl_next {x : Lx} {g m : Nat} {w wr w2 : World} {k n kc : Int} {r0 : Rs} {q : Nat} {r : Rs} {v v2 : Value} (hg : g ≤ 65) (h : LKL x g m w wr k n kc r0 q r v) (hlt : (q : Int) < kc) (hr : r.2.1 = false)
    (S2 : Stp x w w2 k n kc (nx (x.P g) r)) (own2 : LnsAt w2 (w.heap.size + 1) v2 (r.1 ++ (nx (x.P g) r).1)) (hf : (nx (x.P g) r).2.1 = false → (nx (x.P g) r).2.2 = skipS x.ps g r.2.2) (b : Bool)
    (hb : b = ((nx (x.P g) r).2.1 || decide (4096 < (r.1 ++ (nx (x.P g) r).1).length))) :
    LKL x g m w (w2.setCell ⟨x.Bc, 4, none⟩ (.bool b)) k n kc r0 (q + 1) (r.1 ++ (nx (x.P g) r).1, (nx (x.P g) r).2.1 || decide (4096 < (r.1 ++ (nx (x.P g) r).1).length), (nx (x.P g) r).2.2) v2 := by
  subst hb
  have e : kc.toNat - q = (kc.toNat - (q + 1)) + 1 := by omega
  have gs := grownBy_set w2 x.Bc 4 (.bool ((nx (x.P g) r).2.1 || decide (4096 < (r.1 ++ (nx (x.P g) r).1).length)))
  have lt := S2.lt
  have hl := (next_len (r := r) (p_len x g hg)).1
  refine ⟨⟨lx_kept' S2.at_ gs, cod_over S2.cod _, grownBy_trans S2.sp gs, copy_kept S2.copy gs (by simp; omega), lt⟩, lns_keepB own2 gs (by omega), ?_, fun e' => ?_, by omega, ?_, fun e' => ?_⟩
  · rw [h.eq, e, kids_go _ _ hr]
  · simp only [Bool.or_eq_false_iff] at e'
    have := h.ok hr
    rw [e] at this
    rw [show (r.1 ++ (nx (x.P g) r).1, (nx (x.P g) r).2.1 || decide (4096 < (r.1 ++ (nx (x.P g) r).1).length), (nx (x.P g) r).2.2).2.2 = (nx (x.P g) r).2.2 from rfl, hf e'.1]
    exact this.2
  · have := h.le hr
    simp only [List.length_append]; omega
  · simp only [Bool.or_eq_false_iff, decide_eq_false_iff_not] at e'
    simp only []; omega

theorem lkl_val {x : Lx} {g m : Nat} {w wr : World} {k n kc : Int} {r0 : Rs} {q : Nat} {r : Rs} {A B : List Ln} {p : Option Addr} {c : Nat} (h : LKL x g m w wr k n kc r0 q r (.slice p (A ++ B).length c)) : LKL x g m w wr k n kc r0 q r (.slice p (A.length + B.length) c) := by
  rw [List.length_append] at h; exact h
theorem over_iff (P : Nat → Rs) (r : Rs) : ((4096 : Int) < (r.1.length : Int) + ((nextR P r.2.1 r.2.2).1.length : Int)) ↔ 4096 < (r.1 ++ (nx P r).1).length := by
  show _ ↔ 4096 < (r.1 ++ (nextR P r.2.1 r.2.2).1).length
  rw [List.length_append]; omega

theorem lkl_end {x : Lx} {g m : Nat} {w wr : World} {k n kc : Int} {r0 : Rs} {q : Nat} {r : Rs} {v : Value} (h : LKL x g m w wr k n kc r0 q r v) (hx : ¬ (q : Int) < kc ∨ r.2.1 = true) : kidsR (x.P g) kc.toNat r0 = r := by
  rw [h.eq]
  rcases hx with hx | hx
  · have e : kc.toNat - q = 0 := by omega
    rw [e]; rfl
  · exact kids_over _ _ hx

theorem kids_bound (ts : List (ByteArray × List Int)) (ps : List (Int × Int × Int)) (g m n a : Nat) (h : kidsO (okP ts.length ps g m) (skipS ps g) n a) (ha : a ≤ ps.length) : a + n ≤ ps.length := by
  have := kids_good (write_good ts ps g) n (s := ⟨[], [], List.replicate m (0, [])⟩) (a := a) ⟨rfl, (fun y hy j hj => by have := List.eq_of_mem_replicate hy; subst this; cases hj), (fun y hy => by have := List.eq_of_mem_replicate hy; subst this; exact Nat.le_refl _)⟩ ha (by simpa using h)
  omega

theorem run_append_ln {w : World} (ty : TypeId) (base : Nat) (v v2 : Value) (R R2 : List Ln) (base2 : Nat) (hown : LnsAt w base v R) (hown2 : LnsAt w base2 v2 R2)
    (hb : R.length + R2.length ≤ 1000000000000) (hbase : base ≤ w.heap.size) :
    ∃ v' w', (Builtin.append_ #[82, 82] ty #[v, v2]).run Try.prog w = .ok v' w' ∧ LnsAt w' base v' (R ++ R2) ∧ w.grownBy w' v.ownBlock := by
  obtain ⟨li, li0, li1, li2, li3⟩ := info_parts line_info
  rcases hown2.2 with ⟨h2, h0⟩ | ⟨g2, cap2, cur2, h2, hb2, hg2, hn2, hc2, hsz2, ht2⟩
  · have hR2 : R2 = [] := List.length_eq_zero_iff.1 h0
    subst hR2
    subst h2
    exact ⟨v, w, run_append_owned_none (P := Try.prog) (w := w) base 82 ty 86 li 6 line_und li0 v R.length (flatLn R) hown, by simpa using hown, grow_w (grownBy_refl w none)⟩
  · subst h2
    obtain ⟨v', w', hr, ho', hg', _⟩ := run_append_own_at (P := Try.prog) (w := w) base 82 ty 86 li (.agg #[.int .i64 0, .int .i64 0, .int .i64 0, .bool false, .int .i64 0, .bool false]) 6 48 line_und li0 li1 li2 li3 rfl (by decide) v R.length (flatLn R) hown ⟨g2, 0, none⟩ R2.length cap2 (flatLn R2) (flatLn_length R2) (fun j u hj => hown2.cells rfl j u hj) (flatLn_cell R2) (by unfold maxLen; omega) (by omega) hbase
    refine ⟨v', w', hr, ?_, hg'⟩
    show w'.ownsRow _ _ _ _ (R ++ R2).length (flatLn (R ++ R2))
    rw [flatLn_append, List.length_append]; exact ho'

theorem wp_append_run {o : Oper} {a : Act} {w w' : World} {K : Act → World → Prop} {Q : Exit → Act → World → Prop} (s x : Operand)
    (ho : o.op = .call { callee := .builtin .append, args := #[s, x], argTypes := #[82, 82] }) {v v2 v' : Value} (hs : a.eval s = v) (hx : a.eval x = v2)
    (hrun : (Builtin.append_ #[82, 82] o.type #[v, v2]).run Try.prog w = .ok v' w') (h : K (a.put o.dst v') w') : o.wp Try.prog a w K Q := by
  unfold Oper.wp execOp
  simp only [ho, resolve, invoke, builtin, Sem.run_bind, Sem.run_pure, Result.andThen_ok, List.map_toArray, List.map_cons, List.map_nil, hs, hx, hrun]
  exact h

/-- What the last region reads. -/
structure KQ (x : Lx) (w W : World) (k n kc : Int) : Prop where
  d0 : W.cell? ⟨x.Bc, 0, none⟩ = some (.slice x.pt x.u.texts.length x.ct)
  d1 : W.cell? ⟨x.Bc, 1, none⟩ = some (.slice x.pf x.u.funcs.length x.cf)
  q0 : W.cell? ⟨w.heap.size, 0, none⟩ = some (.int .i64 k)
  q1 : W.cell? ⟨w.heap.size, 1, none⟩ = some (.int .i64 n)
  q2 : W.cell? ⟨w.heap.size, 2, none⟩ = some (.int .i64 kc)
  dl : x.Bc < W.heap.size
  ql : w.heap.size < W.heap.size

theorem kq_of {x : Lx} {w W : World} {k n kc : Int} {r : Rs} (h : Stp x w W k n kc r) : KQ x w W k n kc := ⟨cod_0 h.cod, cod_1 h.cod, copy_0 h.copy, copy_1 h.copy, copy_2 h.copy, cod_lt h.cod, copy_lt h.copy⟩
theorem kq_tup {x : Lx} {w W : World} {k n kc : Int} (h : KQ x w W k n kc) : W.cell? ⟨x.Bc, 0, none⟩ = some (.slice x.pt x.u.texts.length x.ct) ∧ W.cell? ⟨x.Bc, 1, none⟩ = some (.slice x.pf x.u.funcs.length x.cf) ∧ W.cell? ⟨w.heap.size, 0, none⟩ = some (.int .i64 k) ∧ W.cell? ⟨w.heap.size, 1, none⟩ = some (.int .i64 n) ∧ W.cell? ⟨w.heap.size, 2, none⟩ = some (.int .i64 kc) ∧ x.Bc < W.heap.size ∧ w.heap.size < W.heap.size :=
  ⟨h.d0, h.d1, h.q0, h.q1, h.q2, h.dl, h.ql⟩

theorem fin_app {x : Lx} {g m : Nat} {w wr W w4 : World} {k n kc : Int} {r0 : Rs} {q : Nat} {r : Rs} {v v2 : Value} {R2 : List Ln} (h : LKL x g m w wr k n kc r0 q r v) (hR : R2.length ≤ 1000) (G : wr.grownBy W none) (G4 : W.grownBy w4 none) (l2 : LnsAt w4 W.heap.size v2 R2) (ty : TypeId) :
    ∃ v5 w5, (Builtin.append_ #[82, 82] ty #[v, v2]).run Try.prog w4 = .ok v5 w5 ∧ KQ x w w4 k n kc ∧ KQ x w w5 k n kc ∧ NPost x w (r.1 ++ R2, r.2) (.returned v5) w5 := by
  have S4 := stp_grow h.st (grownBy_trans G G4)
  have own4 := lns_grow h.own (grownBy_trans G G4)
  have hl := h.len
  have := copy_lt S4.copy
  obtain ⟨v5, w5, hr, own5, g5⟩ := run_append_ln (w := w4) ty (w.heap.size + 1) v v2 r.1 R2 W.heap.size own4 l2 (by omega) (by omega)
  have ne1 : v.ownBlock ≠ some x.Bc := own_block_ne own4 (by have := S4.lt; omega)
  have ne2 : v.ownBlock ≠ some w.heap.size := own_block_ne own4 (by omega)
  have ge : ∀ b, v.ownBlock = some b → w.heap.size ≤ b := fun b e => by have := (own4.lt b e).1; omega
  have S5 : Stp x w w5 k n kc r := by
    refine ⟨lx_kept S4.at_ g5 fun b e => by have := ge b e; have := S4.at_.lb; have := S4.lt; omega, ?_, ?_, copy_kept S4.copy g5 ne2, S4.lt⟩
    · have := S4.cod
      unfold CodR at *
      rw [g5.block x.Bc (cod_lt S4.cod) (Ne.symm ne1)]; exact this
    · cases hv : v.ownBlock with
      | none => rw [hv] at g5; exact grownBy_trans S4.sp (grow_w g5)
      | some b => rw [hv] at g5; exact grow_new S4.sp g5 (ge b hv)
  exact ⟨v5, w5, hr, kq_of S4, kq_of S5, v5, rfl, lns_base own5 (by omega), S5.sp, S5.cod⟩

theorem own_two (ts : List (ByteArray × List Int)) (me k n : Int) : (ownL ts me k n).length ≤ 1000 := by
  unfold ownL; rw [List.length_map]; have := fin_len ts k n; omega

set_option maxRecDepth 100000 in
set_option maxHeartbeats 8000000 in
theorem part_kids (x : Lx) (hwf : LxWF x) (g : Nat) (hg : g ≤ 65) (hN : NCon x g) (m a : Nat) (hm : m ≤ 1000) (k n kc : Int) (hp : x.ps[a]? = some (k, n, kc)) (w : World) (hx : LxAt x w) (hc : CodR x w a false)
    (hk : 1 ≤ k ∧ k ≤ 26) (h5 : k ≠ 5) (h6 : k ≠ 6) (h7 : ¬ (k = 7 ∨ k = 8)) (h23 : k ≠ 23) (h24 : k ≠ 24) (ht : k = 14 ∨ k = 15 → 0 ≤ n ∧ n < x.u.texts.length)
    (ho : kidsO (okP x.u.texts.length x.ps g m) (skipS x.ps g) kc.toNat (a + 1)) :
    Calls Try.prog 81 #[.pointer (some ⟨x.Bc, 0, none⟩)] w (NPost x w ((kidsR (x.P g) kc.toNat ([], false, a + 1)).1 ++ ownL x.u.texts a k n, (kidsR (x.P g) kc.toNat ([], false, a + 1)).2)) := by
  (
    have hja := (List.getElem?_eq_some_iff.1 hp).1
    obtain ⟨bp, op, hpp, hbp, hpc⟩ := hx.pa (by omega)
    obtain ⟨p0, p1, p2⟩ := hpc _ _ _ _ hp
    have c2 := cod_2 hc
    rw [hpp] at c2
    have c3 := cod_3 hc
    have z3 := cod_z hc 3
    have lt := cod_lt hc
    have hul := hx.un.le
    have lb : bp < w.heap.size := by have := hx.lb; omega
    have i1 : (a : Int) < ((x.ps.length : Nat) : Int) := by omega
    have hnp := hwf.np
    have HX := Lib.hid hx
    have HC := Lib.hid hc
    have HW := Lib.hid hwf
    clear hx hc hpc hp hwf hbp hpp hul)
  have NX := Lib.hid hN
  have S0 := stp_first (k := k) (n := n) (kc := kc) HX.out HC.out
  have K0 := Lib.hid (show LKL x g m w _ k n kc ([], false, a + 1) 0 ([], false, a + 1) (.slice none 0 0) from ⟨S0, lns_nil _ _, rfl, fun _ => ho, Nat.zero_le _, by simp, fun _ => by simp⟩)
  have OW := Lib.hid (fun w' (hU : UnitAt w' x.B x.pt x.pf x.u) => own_any x.u HW.out.hu HW.out.nt a k n kc hk h5 h6 h7 h23 h24 ht x.pt x.pf x.ct x.cf x.B w' hU)
  have h7a : k ≠ 7 := fun e => h7 (Or.inl e)
  have h8a : k ≠ 8 := fun e => h7 (Or.inr e)
  have hkb := kids_bound x.u.texts x.ps g m kc.toNat (a + 1) ho (by omega)
  have f5 := beq_eq_false_iff_ne.2 h5
  have f6 := beq_eq_false_iff_ne.2 h6
  have f7 := beq_eq_false_iff_ne.2 h7a
  have f8 := beq_eq_false_iff_ne.2 h8a
  have f23 := beq_eq_false_iff_ne.2 h23
  have f24 := beq_eq_false_iff_ne.2 h24
  clear ho hN S0 h7 ht hk h5 h6 h7a h8a h23 h24
  go_enter Try.func81, Try.ntmps81
  go_wp2
  clear c2 c3 z3 lt lb p0 p1 p2
  generalize (w.setCell ⟨x.Bc, 3, none⟩ (.int .i64 ((a : Int) + 1))).alloc (.cells #[.int .i64 k, .int .i64 n, .int .i64 kc] 108) = w0 at *
  go_loopw [12, 13] (fun v i wr => ∃ (q : Nat) (r : Rs), i = .int .i64 q ∧ LKL x g m w wr k n kc ([], false, a + 1) q r v) (fun _ i _ => kc.toNat - (intOf i).toNat)
  case atStart => exact ⟨0, _, rfl, K0.out⟩
  case round =>
    obtain ⟨q, r, rfl, hK⟩ := hrel
    have KK := Lib.hid hK
    have q0 := copy_0 hK.st.copy
    have q1 := copy_1 hK.st.copy
    have q2 := copy_2 hK.st.copy
    have ql := copy_lt hK.st.copy
    have d4 := cod_4 hK.st.cod
    have dl := cod_lt hK.st.cod
    clear K0
    by_cases hgo : (q : Int) < kc ∧ r.2.1 = false
    · obtain ⟨hlt, hr⟩ := hgo
      have hq := hK.hq
      have hok := hK.ok hr
      rw [show kc.toNat - q = (kc.toNat - (q + 1)) + 1 by omega] at hok
      have O1 := Lib.hid hok.1
      have fit := nx_fit (P := x.P g) (T := []) (s := r.2.2) (m := m) (r := ([], false, r.2.2)) ⟨fun _ => ⟨rfl, rfl⟩, (fun h => by cases h), Nat.le_refl _, outs_nil m⟩ (part_fit x.u.texts x.ps g m r.2.2 hok.1) rfl
      have efit : nx (x.P g) ([], false, r.2.2) = nx (x.P g) r := by rw [nx_go hr]; rfl
      rw [efit] at fit
      have HF := Lib.hid (fun e => (fit.ok e).2)
      have HR := Lib.hid hr
      rw [hr] at d4
      have hlen := hK.len
      have hle := hK.le hr
      have nl := (next_len (r := r) (p_len x g hg)).1
      have hb8 : r.1.length + (nx (x.P g) r).1.length ≤ 1000000000000 := by omega
      have HB8 := Lib.hid hb8
      have HLN := Lib.hid (show (r.1 ++ (nx (x.P g) r).1).length ≤ 700000 by rw [List.length_append]; omega)
      clear hK hok fit efit hlen hle nl hb8 hr
      cases hr2 : (nx (x.P g) r).2.1 with
      | true =>
        have HR2 := Lib.hid hr2
        clear hr2
        go_wp2_with (first
          | (go_at_call 49; refine (NX.out m _ _ _ (fun _ => O1.out) hm KK.out.st.at_ KK.out.st.cod).mono ?_; intro e w1 hq1; have szw := Nat.succ_le_of_lt ql; obtain ⟨v1, rfl, l1, s1, g1⟩ := stp_call KK.out.st hq1; obtain ⟨v1', e1, l1', -, -⟩ := hq1; injection e1 with e1; subst e1; have S1 := Lib.hid s1; have W1S := Lib.hid (Nat.succ_le_of_lt (copy_lt s1.copy)); have L1 := Lib.hid (lns_base l1' szw); have W1 := Lib.hid (lns_keepB KK.out.own g1 (Nat.lt_succ_of_lt s1.lt)); clear l1 s1 g1 l1' szw)
          | (at_builtin; go_loud (refine wpList_append_ln rfl _ _ rfl (w.heap.size + 1) _ _ _ _ _ rfl rfl W1.out L1.out HB8.out W1S.out ?_; intro v2 w2 hown2 hgr2 hat2; obtain ⟨pv, cv, rfl⟩ := lns_slice hown2; have S2 := Lib.hid (lkl_app KK.out S1.out hgr2 W1.out); have W2 := Lib.hid hown2; have q0 := copy_0 S2.out.copy; have q1 := copy_1 S2.out.copy; have q2 := copy_2 S2.out.copy; have ql := copy_lt S2.out.copy; have d4 := cod_4 S2.out.cod; rw [HR2.out] at d4; have z4 := cod_z S2.out.cod 4; have dl := cod_lt S2.out.cod; clear hown2 hgr2 hat2)))
        go_roundw
        case rel => exact ⟨q + 1, _, by go_num, lkl_val (lkl_next hg KK.out hlt HR.out S2.out W2.out HF.out true (by rw [HR2.out]; rfl))⟩
        case measure => simp [intOf]; omega
      | false =>
        have HR2 := Lib.hid hr2
        clear hr2
        go_wp2_with (first
          | (go_at_call 49; refine (NX.out m _ _ _ (fun _ => O1.out) hm KK.out.st.at_ KK.out.st.cod).mono ?_; intro e w1 hq1; have szw := Nat.succ_le_of_lt ql; obtain ⟨v1, rfl, l1, s1, g1⟩ := stp_call KK.out.st hq1; obtain ⟨v1', e1, l1', -, -⟩ := hq1; injection e1 with e1; subst e1; have S1 := Lib.hid s1; have W1S := Lib.hid (Nat.succ_le_of_lt (copy_lt s1.copy)); have L1 := Lib.hid (lns_base l1' szw); have W1 := Lib.hid (lns_keepB KK.out.own g1 (Nat.lt_succ_of_lt s1.lt)); clear l1 s1 g1 l1' szw)
          | (at_builtin; go_loud (refine wpList_append_ln rfl _ _ rfl (w.heap.size + 1) _ _ _ _ _ rfl rfl W1.out L1.out HB8.out W1S.out ?_; intro v2 w2 hown2 hgr2 hat2; obtain ⟨pv, cv, rfl⟩ := lns_slice hown2; have S2 := Lib.hid (lkl_app KK.out S1.out hgr2 W1.out); have W2 := Lib.hid hown2; have q0 := copy_0 S2.out.copy; have q1 := copy_1 S2.out.copy; have q2 := copy_2 S2.out.copy; have ql := copy_lt S2.out.copy; have d4 := cod_4 S2.out.cod; rw [HR2.out] at d4; have z4 := cod_z S2.out.cod 4; have dl := cod_lt S2.out.cod; clear hown2 hgr2 hat2)))
        go_roundw
        case rel => exact ⟨q + 1, _, by go_num, lkl_val (lkl_next hg KK.out hlt HR.out S2.out W2.out HF.out (decide ((4096 : Int) < (r.1.length : Int) + ((nextR (x.P g) r.2.1 r.2.2).1.length : Int))) (by rw [HR2.out, Bool.false_or]; exact decide_eq_decide.2 (over_iff (x.P g) r)))⟩
        case measure => simp [intOf]; omega
    · have hxx : ¬ (q : Int) < kc ∨ r.2.1 = true := by
        by_cases h : (q : Int) < kc
        · right
          cases e : r.2.1 with
          | true => rfl
          | false => exact absurd ⟨h, e⟩ hgo
        · left; exact h
      have KE := Lib.hid (lkl_end hK hxx)
      have d0 := cod_0 hK.st.cod
      have d1 := cod_1 hK.st.cod
      have hcond : (¬ (q : Int) < kc) ∨ ((q : Int) < kc ∧ r.2.1 = true) := by
        by_cases h : (q : Int) < kc
        · right
          exact ⟨h, by rcases hxx with h2 | h2; exact absurd h h2; exact h2⟩
        · left; exact h
      clear hK hxx hgo
      have UN := Lib.hid (fun (W' : World) (g : wr.grownBy W' none) => unitAt_kept KK.out.st.at_.un g (by simp))
      rcases hcond with hc3 | ⟨hc3, hc4⟩
      · go_wp2
        (
          go_region_held3 (fun W' => W'.cell? ⟨x.Bc, 0, none⟩ = some (.slice x.pt x.u.texts.length x.ct) ∧ W'.cell? ⟨x.Bc, 1, none⟩ = some (.slice x.pf x.u.funcs.length x.cf) ∧ W'.cell? ⟨w.heap.size, 0, none⟩ = some (.int .i64 k) ∧ W'.cell? ⟨w.heap.size, 1, none⟩ = some (.int .i64 n) ∧ W'.cell? ⟨w.heap.size, 2, none⟩ = some (.int .i64 kc) ∧ x.Bc < W'.heap.size ∧ w.heap.size < W'.heap.size) (first | exact ⟨by assumption, by assumption, by assumption, by assumption, by assumption, by assumption, by assumption⟩ | assumption) (first | (go_at_call 111; refine (OW.out _ (UN.out _ (by (repeat (first | assumption | exact grownBy_refl _ none | refine grownBy_drew ?_ | refine gb_alloc ?_ _))))).mono ?_; intro e w4 hq; obtain ⟨v2, rfl, l2, g4⟩ := hq; have FA := fin_app KK.out (own_two _ _ _ _) (by (repeat (first | assumption | exact grownBy_refl _ none | refine grownBy_drew ?_ | refine gb_alloc ?_ _))) g4 l2 82; obtain ⟨v5, w5, hrun, kq4, kq5, np⟩ := FA; have NP := Lib.hid np; have K4 := kq_tup kq4; have K5 := kq_tup kq5; obtain ⟨k1, k2, k3, k4, k5, k6, k7⟩ := K4; obtain ⟨j1, j2, j3, j4, j5, j6, j7⟩ := K5; clear l2 g4 kq4 kq5 np) | (rw [if_pos (by rfl)]; refine wp_append_run _ _ rfl rfl rfl hrun ?_; simp only [Act.put, List.setIfInBounds_toArray, List.set_cons_zero, List.set_cons_succ]))
          all_goals (go_wp2; go_ret; rw [KE.out]; exact NP.out))
      · rw [hc4] at d4
        go_wp2
        (
          go_region_held3 (fun W' => W'.cell? ⟨x.Bc, 0, none⟩ = some (.slice x.pt x.u.texts.length x.ct) ∧ W'.cell? ⟨x.Bc, 1, none⟩ = some (.slice x.pf x.u.funcs.length x.cf) ∧ W'.cell? ⟨w.heap.size, 0, none⟩ = some (.int .i64 k) ∧ W'.cell? ⟨w.heap.size, 1, none⟩ = some (.int .i64 n) ∧ W'.cell? ⟨w.heap.size, 2, none⟩ = some (.int .i64 kc) ∧ x.Bc < W'.heap.size ∧ w.heap.size < W'.heap.size) (first | exact ⟨by assumption, by assumption, by assumption, by assumption, by assumption, by assumption, by assumption⟩ | assumption) (first | (go_at_call 111; refine (OW.out _ (UN.out _ (by (repeat (first | assumption | exact grownBy_refl _ none | refine grownBy_drew ?_ | refine gb_alloc ?_ _))))).mono ?_; intro e w4 hq; obtain ⟨v2, rfl, l2, g4⟩ := hq; have FA := fin_app KK.out (own_two _ _ _ _) (by (repeat (first | assumption | exact grownBy_refl _ none | refine grownBy_drew ?_ | refine gb_alloc ?_ _))) g4 l2 82; obtain ⟨v5, w5, hrun, kq4, kq5, np⟩ := FA; have NP := Lib.hid np; have K4 := kq_tup kq4; have K5 := kq_tup kq5; obtain ⟨k1, k2, k3, k4, k5, k6, k7⟩ := K4; obtain ⟨j1, j2, j3, j4, j5, j6, j7⟩ := K5; clear l2 g4 kq4 kq5 np) | (rw [if_pos (by rfl)]; refine wp_append_run _ _ rfl rfl rfl hrun ?_; simp only [Act.put, List.setIfInBounds_toArray, List.set_cons_zero, List.set_cons_succ]))
          all_goals (go_wp2; go_ret; rw [KE.out]; exact NP.out))

end Go.Proofs.Ytecaolkbllbokaa.TG

namespace Go.Proofs.Ytecaolkbllbokaa.TG
open Go.RowKit Go.Great
set_option linter.unusedSimpArgs false
set_option linter.unusedVariables false

theorem okP_m {nt : Nat} {ps : List (Int × Int × Int)} : ∀ {g m a : Nat}, okP nt ps g m a → m ≤ 1000
  | 0, _, _, h => h.elim
  | g + 1, m, a, ⟨_, _, _, _, hw, _⟩ => hw.m1

theorem fit0 {a m : Nat} : Fit ([], false, a) [] a m := ⟨fun _ => ⟨rfl, rfl⟩, (fun h => by cases h), Nat.le_refl _, outs_nil m⟩

theorem part_con (x : Lx) (hwf : LxWF x) : ∀ g, g ≤ 65 → PCon x g
  | 0, _ => fun m a w h => h.elim
  | g + 1, hg => by
    intro m a w hok hm hx hc
    have hN := next_con x g (part_con x hwf g (by omega))
    obtain ⟨k, n, kc, hp, hw, ho⟩ := hok
    have hg' : g ≤ 65 := by omega
    have F := part_fit x.u.texts x.ps g
    show Calls _ _ _ _ (NPost x w (partR x.u.texts x.ps (g + 1) a))
    rw [partR, hp]
    simp only []
    by_cases h5 : k = 5
    · rw [if_neg (by omega)] at ho
      rw [if_pos h5]
      have e5 := hw.i h5
      subst h5
      rcases e5 with rfl | rfl
      · rw [if_neg (by decide)]
        have f1 := nx_fit (P := x.P g) (fit0 (m := m)) (F m _ ho.1) rfl
        exact part_if2 x hwf g hg' hN m a hm n hp w hx hc ho.1 (fun e => by rw [(f1.ok e).2]; exact ho.2.1)
      · rw [if_pos rfl]
        have f1 := nx_fit (P := x.P g) (fit0 (m := m)) (F m _ ho.1) rfl
        refine part_if3 x hwf g hg' hN m a hm n hp w hx hc ho.1 (fun e => by rw [(f1.ok e).2]; exact ho.2.1) (fun e => ?_)
        cases e1 : (nx (x.P g) ([], false, a + 1)).2.1 with
        | true => rw [nx_over e1] at e; cases e
        | false =>
          have f2 := nx_fit (P := x.P g) f1 (F m _ ho.2.1) e1
          rw [(f2.ok e).2]; exact ho.2.2.1
    rw [if_neg h5]
    by_cases h6 : k = 6
    · rw [if_pos h6] at ho
      rw [if_pos h6]
      have e2 : kc = 2 := hw.w (Or.inl h6)
      subst e2
      subst h6
      have hm1 := okP_m ho.2
      have f1 := nx_fit (P := x.P g) (fit0 (m := m)) (F m _ ho.1) rfl
      refine part_wh x hwf g hg' hN m a hm1 n 2 hp w hx hc ho.1 (fun e => by rw [(f1.ok e).2]; exact ho.2) (fun y hy => ?_)
      cases e1 : (nx (x.P g) ([], false, a + 1)).2.1 with
      | true => rw [nx_over e1] at hy; cases hy
      | false =>
        have f2 := nx_fit (P := x.P g) f1 (F (m + 1) _ ho.2) e1
        have := f2.outs y hy
        omega
    rw [if_neg h6] at ho
    rw [if_neg h6]
    by_cases h7 : k = 7 ∨ k = 8
    · obtain ⟨e0, hn0, hnm⟩ := hw.l h7
      rw [if_pos h7]
      rcases h7 with rfl | rfl
      · exact part_break x hwf a n kc ⟨hn0, by omega⟩ hp w hx hc
      · exact part_cont x hwf a n kc ⟨hn0, by omega⟩ hp w hx hc
    rw [if_neg h7]
    by_cases h23 : k = 23
    · have e2 : kc = 2 := hw.w (Or.inr (Or.inl h23))
      subst e2
      rw [if_pos h23]
      subst h23
      have f1 := nx_fit (P := x.P g) (fit0 (m := m)) (F m _ ho.1) rfl
      exact part_and x hwf g hg' hN m a hm n 2 hp w hx hc ho.1 (fun e => by rw [(f1.ok e).2]; exact ho.2.1)
    rw [if_neg h23]
    by_cases h24 : k = 24
    · have e2 : kc = 2 := hw.w (Or.inr (Or.inr h24))
      subst e2
      rw [if_pos h24]
      subst h24
      have f1 := nx_fit (P := x.P g) (fit0 (m := m)) (F m _ ho.1) rfl
      exact part_or x hwf g hg' hN m a hm n 2 hp w hx hc ho.1 (fun e => by rw [(f1.ok e).2]; exact ho.2.1)
    rw [if_neg h24]
    exact part_kids x hwf g hg' hN m a hm k n kc hp w hx hc ⟨hw.k1, hw.k2⟩ h5 h6 h7 h23 h24 hw.t ho

theorem next_any (x : Lx) (hwf : LxWF x) : NCon x 65 := next_con x 65 (part_con x hwf 65 (Nat.le_refl _))

end Go.Proofs.Ytecaolkbllbokaa.TG
