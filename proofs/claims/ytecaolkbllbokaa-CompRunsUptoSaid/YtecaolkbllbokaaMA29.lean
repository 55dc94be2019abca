/-
  The reference's compiler: part, of the other kinds: the loop over its kids. Conditions: as each theorem states.
  The reference's compiler: the whole contract of part. Conditions: as each theorem states.
  The reference's compiler: function. Conditions: as each theorem states.
-/
import Derived.Test.YtecaolkbllbokaaMA28
import Derived.Test.YtecaolkbllbokaaMA16
import Derived.Deep.QuietTactic
import Derived.BigQuiet
import Derived.Deep.RegionHeld3
import Derived.StillTailTactics
namespace Go.Proofs.Ytecaolkbllbokaa.TG
open Go.RowKit Go.Great
set_option linter.unusedSimpArgs false
set_option linter.unusedVariables false

/-- Where the loop over the kids stands. -/
structure LKL (x : Lx) (g m : Nat) (w wr : World) (k n kc : Int) (r0 : Rs) (q : Nat) (r : Rs) (v : Value) : Prop where
  st : Stp x w wr k n kc r
  own : LnsAt wr (w.heap.size + 1) v r.1
  eq : kidsR (x.P g) kc.toNat r0 = kidsR (x.P g) (kc.toNat - q) r
  ok : r.2.1 = false → kidsO (okP x.u.texts.length x.ps g m) (skipS x.ps g) (kc.toNat - q) r.2.2
  hq : q ≤ kc.toNat
  len : r.1.length ≤ 600000
  le : r.2.1 = false → r.1.length ≤ 4096

theorem own_block_ne {w : World} {b b' : Nat} {v : Value} {R : List Ln} (h : LnsAt w b v R) (hb : b' < b) : v.ownBlock ≠ some b' := fun e => by
  have := (h.lt b' e).1; omega

/-- Behind the call of next and the append. -/
theorem lkl_app {x : Lx} {g m : Nat} {w wr w1 w2 : World} {k n kc : Int} {r0 : Rs} {q : Nat} {r : Rs} {v : Value} (h : LKL x g m w wr k n kc r0 q r v)
    (S1 : Stp x w w1 k n kc (nx (x.P g) r)) (g2 : w1.grownBy w2 v.ownBlock) (own1 : LnsAt w1 (w.heap.size + 1) v r.1) : Stp x w w2 k n kc (nx (x.P g) r) := by
  have ne1 : v.ownBlock ≠ some x.Bc := own_block_ne own1 (by have := S1.lt; omega)
  have ne2 : v.ownBlock ≠ some w.heap.size := own_block_ne own1 (by omega)
  have ge : ∀ b, v.ownBlock = some b → w.heap.size ≤ b := fun b e => by have := (own1.lt b e).1; omega
  refine ⟨lx_kept S1.at_ g2 fun b e => by have := ge b e; have := S1.at_.lb; have := S1.lt; omega, ?_, ?_, copy_kept S1.copy g2 ne2, S1.lt⟩
  · have := S1.cod
    unfold CodR at *
    rw [g2.block x.Bc (cod_lt S1.cod) (Ne.symm ne1)]; exact this
  · cases hv : v.ownBlock with
    | none => rw [hv] at g2; exact grownBy_trans S1.sp (grow_w g2)
    | some b => rw [hv] at g2; exact grow_new S1.sp g2 (ge b hv)

theorem lkl_next {x : Lx} {g m : Nat} {w wr w2 : World} {k n kc : Int} {r0 : Rs} {q : Nat} {r : Rs} {v v2 : Value} (hg : g ≤ 65) (h : LKL x g m w wr k n kc r0 q r v) (hlt : (q : Int) < kc) (hr : r.2.1 = false)
    (S2 : Stp x w w2 k n kc (nx (x.P g) r)) (own2 : LnsAt w2 (w.heap.size + 1) v2 (r.1 ++ (nx (x.P g) r).1)) (hf : (nx (x.P g) r).2.1 = false → (nx (x.P g) r).2.2 = skipS x.ps g r.2.2) (b : Bool)
    (hb : b = ((nx (x.P g) r).2.1 || decide (4096 < (r.1 ++ (nx (x.P g) r).1).length))) :
    LKL x g m w (w2.setCell ⟨x.Bc, 4, none⟩ (.bool b)) k n kc r0 (q + 1) (r.1 ++ (nx (x.P g) r).1, (nx (x.P g) r).2.1 || decide (4096 < (r.1 ++ (nx (x.P g) r).1).length), (nx (x.P g) r).2.2) v2 := by
  subst hb
  have e : kc.toNat - q = (kc.toNat - (q + 1)) + 1 := by omega
  have gs := grownBy_set w2 x.Bc 4 (.bool ((nx (x.P g) r).2.1 || decide (4096 < (r.1 ++ (nx (x.P g) r).1).length)))
  have lt := S2.lt
  have hl := (next_len (r := r) (p_len x g hg)).1
  refine ⟨⟨lx_kept' S2.at_ gs, cod_over S2.cod _, grownBy_trans S2.sp gs, copy_kept S2.copy gs (by simp; omega), lt⟩, lns_keepB own2 gs (by omega), ?_, fun e' => ?_, by omega, ?_, fun e' => ?_⟩
  · rw [h.eq, e, kids_go _ _ hr]
  · simp only [Bool.or_eq_false_iff] at e'
    have := h.ok hr
    rw [e] at this
    rw [show (r.1 ++ (nx (x.P g) r).1, (nx (x.P g) r).2.1 || decide (4096 < (r.1 ++ (nx (x.P g) r).1).length), (nx (x.P g) r).2.2).2.2 = (nx (x.P g) r).2.2 from rfl, hf e'.1]
    exact this.2
  · have := h.le hr
    simp only [List.length_append]; omega
  · simp only [Bool.or_eq_false_iff, decide_eq_false_iff_not] at e'
    simp only []; omega

theorem lkl_val {x : Lx} {g m : Nat} {w wr : World} {k n kc : Int} {r0 : Rs} {q : Nat} {r : Rs} {A B : List Ln} {p : Option Addr} {c : Nat} (h : LKL x g m w wr k n kc r0 q r (.slice p (A ++ B).length c)) : LKL x g m w wr k n kc r0 q r (.slice p (A.length + B.length) c) := by
  rw [List.length_append] at h; exact h
theorem over_iff (P : Nat → Rs) (r : Rs) : ((4096 : Int) < (r.1.length : Int) + ((nextR P r.2.1 r.2.2).1.length : Int)) ↔ 4096 < (r.1 ++ (nx P r).1).length := by
  show _ ↔ 4096 < (r.1 ++ (nextR P r.2.1 r.2.2).1).length
  rw [List.length_append]; omega

theorem lkl_end {x : Lx} {g m : Nat} {w wr : World} {k n kc : Int} {r0 : Rs} {q : Nat} {r : Rs} {v : Value} (h : LKL x g m w wr k n kc r0 q r v) (hx : ¬ (q : Int) < kc ∨ r.2.1 = true) : kidsR (x.P g) kc.toNat r0 = r := by
  rw [h.eq]
  rcases hx with hx | hx
  · have e : kc.toNat - q = 0 := by omega
    rw [e]; rfl
  · exact kids_over _ _ hx

theorem kids_bound (ts : List (ByteArray × List Int)) (ps : List (Int × Int × Int)) (g m n a : Nat) (h : kidsO (okP ts.length ps g m) (skipS ps g) n a) (ha : a ≤ ps.length) : a + n ≤ ps.length := by
  have := kids_good (write_good ts ps g) n (s := ⟨[], [], List.replicate m (0, [])⟩) (a := a) ⟨rfl, (fun y hy j hj => by have := List.eq_of_mem_replicate hy; subst this; cases hj), (fun y hy => by have := List.eq_of_mem_replicate hy; subst this; exact Nat.le_refl _)⟩ ha (by simpa using h)
  omega

theorem run_append_ln {w : World} (ty : TypeId) (base : Nat) (v v2 : Value) (R R2 : List Ln) (base2 : Nat) (hown : LnsAt w base v R) (hown2 : LnsAt w base2 v2 R2)
    (hb : R.length + R2.length ≤ 1000000000000) (hbase : base ≤ w.heap.size) :
    ∃ v' w', (Builtin.append_ #[82, 82] ty #[v, v2]).run Try.prog w = .ok v' w' ∧ LnsAt w' base v' (R ++ R2) ∧ w.grownBy w' v.ownBlock := by
  obtain ⟨li, li0, li1, li2, li3⟩ := info_parts line_info
  rcases hown2.2 with ⟨h2, h0⟩ | ⟨g2, cap2, cur2, h2, hb2, hg2, hn2, hc2, hsz2, ht2⟩
  · have hR2 : R2 = [] := List.length_eq_zero_iff.1 h0
    subst hR2
    subst h2
    exact ⟨v, w, run_append_owned_none (P := Try.prog) (w := w) base 82 ty 86 li 6 line_und li0 v R.length (flatLn R) hown, by simpa using hown, grow_w (grownBy_refl w none)⟩
  · subst h2
    obtain ⟨v', w', hr, ho', hg', _⟩ := run_append_own_at (P := Try.prog) (w := w) base 82 ty 86 li (.agg #[.int .i64 0, .int .i64 0, .int .i64 0, .bool false, .int .i64 0, .bool false]) 6 48 line_und li0 li1 li2 li3 rfl (by decide) v R.length (flatLn R) hown ⟨g2, 0, none⟩ R2.length cap2 (flatLn R2) (flatLn_length R2) (fun j u hj => hown2.cells rfl j u hj) (flatLn_cell R2) (by unfold maxLen; omega) (by omega) hbase
    refine ⟨v', w', hr, ?_, hg'⟩
    show w'.ownsRow _ _ _ _ (R ++ R2).length (flatLn (R ++ R2))
    rw [flatLn_append, List.length_append]; exact ho'

theorem wp_append_run {o : Oper} {a : Act} {w w' : World} {K : Act → World → Prop} {Q : Exit → Act → World → Prop} (s x : Operand)
    (ho : o.op = .call { callee := .builtin .append, args := #[s, x], argTypes := #[82, 82] }) {v v2 v' : Value} (hs : a.eval s = v) (hx : a.eval x = v2)
    (hrun : (Builtin.append_ #[82, 82] o.type #[v, v2]).run Try.prog w = .ok v' w') (h : K (a.put o.dst v') w') : o.wp Try.prog a w K Q := by
  unfold Oper.wp execOp
  simp only [ho, resolve, invoke, builtin, Sem.run_bind, Sem.run_pure, Result.andThen_ok, List.map_toArray, List.map_cons, List.map_nil, hs, hx, hrun]
  exact h

/-- What the last region reads. -/
structure KQ (x : Lx) (w W : World) (k n kc : Int) : Prop where
  d0 : W.cell? ⟨x.Bc, 0, none⟩ = some (.slice x.pt x.u.texts.length x.ct)
  d1 : W.cell? ⟨x.Bc, 1, none⟩ = some (.slice x.pf x.u.funcs.length x.cf)
  q0 : W.cell? ⟨w.heap.size, 0, none⟩ = some (.int .i64 k)
  q1 : W.cell? ⟨w.heap.size, 1, none⟩ = some (.int .i64 n)
  q2 : W.cell? ⟨w.heap.size, 2, none⟩ = some (.int .i64 kc)
  dl : x.Bc < W.heap.size
  ql : w.heap.size < W.heap.size

theorem kq_of {x : Lx} {w W : World} {k n kc : Int} {r : Rs} (h : Stp x w W k n kc r) : KQ x w W k n kc := ⟨cod_0 h.cod, cod_1 h.cod, copy_0 h.copy, copy_1 h.copy, copy_2 h.copy, cod_lt h.cod, copy_lt h.copy⟩
theorem kq_tup {x : Lx} {w W : World} {k n kc : Int} (h : KQ x w W k n kc) : W.cell? ⟨x.Bc, 0, none⟩ = some (.slice x.pt x.u.texts.length x.ct) ∧ W.cell? ⟨x.Bc, 1, none⟩ = some (.slice x.pf x.u.funcs.length x.cf) ∧ W.cell? ⟨w.heap.size, 0, none⟩ = some (.int .i64 k) ∧ W.cell? ⟨w.heap.size, 1, none⟩ = some (.int .i64 n) ∧ W.cell? ⟨w.heap.size, 2, none⟩ = some (.int .i64 kc) ∧ x.Bc < W.heap.size ∧ w.heap.size < W.heap.size :=
  ⟨h.d0, h.d1, h.q0, h.q1, h.q2, h.dl, h.ql⟩

theorem fin_app {x : Lx} {g m : Nat} {w wr W w4 : World} {k n kc : Int} {r0 : Rs} {q : Nat} {r : Rs} {v v2 : Value} {R2 : List Ln} (h : LKL x g m w wr k n kc r0 q r v) (hR : R2.length ≤ 1000) (G : wr.grownBy W none) (G4 : W.grownBy w4 none) (l2 : LnsAt w4 W.heap.size v2 R2) (ty : TypeId) :
    ∃ v5 w5, (Builtin.append_ #[82, 82] ty #[v, v2]).run Try.prog w4 = .ok v5 w5 ∧ KQ x w w4 k n kc ∧ KQ x w w5 k n kc ∧ NPost x w (r.1 ++ R2, r.2) (.returned v5) w5 := by
  have S4 := stp_grow h.st (grownBy_trans G G4)
  have own4 := lns_grow h.own (grownBy_trans G G4)
  have hl := h.len
  have := copy_lt S4.copy
  obtain ⟨v5, w5, hr, own5, g5⟩ := run_append_ln (w := w4) ty (w.heap.size + 1) v v2 r.1 R2 W.heap.size own4 l2 (by omega) (by omega)
  have ne1 : v.ownBlock ≠ some x.Bc := own_block_ne own4 (by have := S4.lt; omega)
  have ne2 : v.ownBlock ≠ some w.heap.size := own_block_ne own4 (by omega)
  have ge : ∀ b, v.ownBlock = some b → w.heap.size ≤ b := fun b e => by have := (own4.lt b e).1; omega
  have S5 : Stp x w w5 k n kc r := by
    refine ⟨lx_kept S4.at_ g5 fun b e => by have := ge b e; have := S4.at_.lb; have := S4.lt; omega, ?_, ?_, copy_kept S4.copy g5 ne2, S4.lt⟩
    · have := S4.cod
      unfold CodR at *
      rw [g5.block x.Bc (cod_lt S4.cod) (Ne.symm ne1)]; exact this
    · cases hv : v.ownBlock with
      | none => rw [hv] at g5; exact grownBy_trans S4.sp (grow_w g5)
      | some b => rw [hv] at g5; exact grow_new S4.sp g5 (ge b hv)
  exact ⟨v5, w5, hr, kq_of S4, kq_of S5, v5, rfl, lns_base own5 (by omega), S5.sp, S5.cod⟩

theorem own_two (ts : List (ByteArray × List Int)) (me k n : Int) : (ownL ts me k n).length ≤ 1000 := by
  unfold ownL; rw [List.length_map]; have := fin_len ts k n; omega

set_option maxRecDepth 100000 in
set_option maxHeartbeats 8000000 in
theorem part_kids (x : Lx) (hwf : LxWF x) (g : Nat) (hg : g ≤ 65) (hN : NCon x g) (m a : Nat) (hm : m ≤ 1000) (k n kc : Int) (hp : x.ps[a]? = some (k, n, kc)) (w : World) (hx : LxAt x w) (hc : CodR x w a false)
    (hk : 1 ≤ k ∧ k ≤ 26) (h5 : k ≠ 5) (h6 : k ≠ 6) (h7 : ¬ (k = 7 ∨ k = 8)) (h23 : k ≠ 23) (h24 : k ≠ 24) (ht : k = 14 ∨ k = 15 → 0 ≤ n ∧ n < x.u.texts.length)
    (ho : kidsO (okP x.u.texts.length x.ps g m) (skipS x.ps g) kc.toNat (a + 1)) :
    Calls Try.prog 81 #[.pointer (some ⟨x.Bc, 0, none⟩)] w (NPost x w ((kidsR (x.P g) kc.toNat ([], false, a + 1)).1 ++ ownL x.u.texts a k n, (kidsR (x.P g) kc.toNat ([], false, a + 1)).2)) := by
  (
    have hja := (List.getElem?_eq_some_iff.1 hp).1
    obtain ⟨bp, op, hpp, hbp, hpc⟩ := hx.pa (by omega)
    obtain ⟨p0, p1, p2⟩ := hpc _ _ _ _ hp
    have c2 := cod_2 hc
    rw [hpp] at c2
    have c3 := cod_3 hc
    have z3 := cod_z hc 3
    have lt := cod_lt hc
    have hul := hx.un.le
    have lb : bp < w.heap.size := by have := hx.lb; omega
    have i1 : (a : Int) < ((x.ps.length : Nat) : Int) := by omega
    have hnp := hwf.np
    have HX := Lib.hid hx
    have HC := Lib.hid hc
    have HW := Lib.hid hwf
    clear hx hc hpc hp hwf hbp hpp hul)
  have NX := Lib.hid hN
  have S0 := stp_first (k := k) (n := n) (kc := kc) HX.out HC.out
  have K0 := Lib.hid (show LKL x g m w _ k n kc ([], false, a + 1) 0 ([], false, a + 1) (.slice none 0 0) from ⟨S0, lns_nil _ _, rfl, fun _ => ho, Nat.zero_le _, by simp, fun _ => by simp⟩)
  have OW := Lib.hid (fun w' (hU : UnitAt w' x.B x.pt x.pf x.u) => own_any x.u HW.out.hu HW.out.nt a k n kc hk h5 h6 h7 h23 h24 ht x.pt x.pf x.ct x.cf x.B w' hU)
  have h7a : k ≠ 7 := fun e => h7 (Or.inl e)
  have h8a : k ≠ 8 := fun e => h7 (Or.inr e)
  have hkb := kids_bound x.u.texts x.ps g m kc.toNat (a + 1) ho (by omega)
  have f5 := beq_eq_false_iff_ne.2 h5
  have f6 := beq_eq_false_iff_ne.2 h6
  have f7 := beq_eq_false_iff_ne.2 h7a
  have f8 := beq_eq_false_iff_ne.2 h8a
  have f23 := beq_eq_false_iff_ne.2 h23
  have f24 := beq_eq_false_iff_ne.2 h24
  clear ho hN S0 h7 ht hk h5 h6 h7a h8a h23 h24
  go_enter Try.func81, Try.ntmps81
  go_wp2
  clear c2 c3 z3 lt lb p0 p1 p2
  generalize (w.setCell ⟨x.Bc, 3, none⟩ (.int .i64 ((a : Int) + 1))).alloc (.cells #[.int .i64 k, .int .i64 n, .int .i64 kc] 108) = w0 at *
  go_loopw [12, 13] (fun v i wr => ∃ (q : Nat) (r : Rs), i = .int .i64 q ∧ LKL x g m w wr k n kc ([], false, a + 1) q r v) (fun _ i _ => kc.toNat - (intOf i).toNat)
  case atStart => exact ⟨0, _, rfl, K0.out⟩
  case round =>
    obtain ⟨q, r, rfl, hK⟩ := hrel
    have KK := Lib.hid hK
    have q0 := copy_0 hK.st.copy
    have q1 := copy_1 hK.st.copy
    have q2 := copy_2 hK.st.copy
    have ql := copy_lt hK.st.copy
    have d4 := cod_4 hK.st.cod
    have dl := cod_lt hK.st.cod
    clear K0
    by_cases hgo : (q : Int) < kc ∧ r.2.1 = false
    · obtain ⟨hlt, hr⟩ := hgo
      have hq := hK.hq
      have hok := hK.ok hr
      rw [show kc.toNat - q = (kc.toNat - (q + 1)) + 1 by omega] at hok
      have O1 := Lib.hid hok.1
      have fit := nx_fit (P := x.P g) (T := []) (s := r.2.2) (m := m) (r := ([], false, r.2.2)) ⟨fun _ => ⟨rfl, rfl⟩, (fun h => by cases h), Nat.le_refl _, outs_nil m⟩ (part_fit x.u.texts x.ps g m r.2.2 hok.1) rfl
      have efit : nx (x.P g) ([], false, r.2.2) = nx (x.P g) r := by rw [nx_go hr]; rfl
      rw [efit] at fit
      have HF := Lib.hid (fun e => (fit.ok e).2)
      have HR := Lib.hid hr
      rw [hr] at d4
      have hlen := hK.len
      have hle := hK.le hr
      have nl := (next_len (r := r) (p_len x g hg)).1
      have hb8 : r.1.length + (nx (x.P g) r).1.length ≤ 1000000000000 := by omega
      have HB8 := Lib.hid hb8
      have HLN := Lib.hid (show (r.1 ++ (nx (x.P g) r).1).length ≤ 700000 by rw [List.length_append]; omega)
      clear hK hok fit efit hlen hle nl hb8 hr
      cases hr2 : (nx (x.P g) r).2.1 with
      | true =>
        have HR2 := Lib.hid hr2
        clear hr2
        go_wp2_with (first
          | (go_at_call 49; refine (NX.out m _ _ _ (fun _ => O1.out) hm KK.out.st.at_ KK.out.st.cod).mono ?_; intro e w1 hq1; have szw := Nat.succ_le_of_lt ql; obtain ⟨v1, rfl, l1, s1, g1⟩ := stp_call KK.out.st hq1; obtain ⟨v1', e1, l1', -, -⟩ := hq1; injection e1 with e1; subst e1; have S1 := Lib.hid s1; have W1S := Lib.hid (Nat.succ_le_of_lt (copy_lt s1.copy)); have L1 := Lib.hid (lns_base l1' szw); have W1 := Lib.hid (lns_keepB KK.out.own g1 (Nat.lt_succ_of_lt s1.lt)); clear l1 s1 g1 l1' szw)
          | (at_builtin; go_loud (refine wpList_append_ln rfl _ _ rfl (w.heap.size + 1) _ _ _ _ _ rfl rfl W1.out L1.out HB8.out W1S.out ?_; intro v2 w2 hown2 hgr2 hat2; obtain ⟨pv, cv, rfl⟩ := lns_slice hown2; have S2 := Lib.hid (lkl_app KK.out S1.out hgr2 W1.out); have W2 := Lib.hid hown2; have q0 := copy_0 S2.out.copy; have q1 := copy_1 S2.out.copy; have q2 := copy_2 S2.out.copy; have ql := copy_lt S2.out.copy; have d4 := cod_4 S2.out.cod; rw [HR2.out] at d4; have z4 := cod_z S2.out.cod 4; have dl := cod_lt S2.out.cod; clear hown2 hgr2 hat2)))
        go_roundw
        case rel => exact ⟨q + 1, _, by go_num, lkl_val (lkl_next hg KK.out hlt HR.out S2.out W2.out HF.out true (by rw [HR2.out]; rfl))⟩
        case measure => simp [intOf]; omega
      | false =>
        have HR2 := Lib.hid hr2
        clear hr2
        go_wp2_with (first
          | (go_at_call 49; refine (NX.out m _ _ _ (fun _ => O1.out) hm KK.out.st.at_ KK.out.st.cod).mono ?_; intro e w1 hq1; have szw := Nat.succ_le_of_lt ql; obtain ⟨v1, rfl, l1, s1, g1⟩ := stp_call KK.out.st hq1; obtain ⟨v1', e1, l1', -, -⟩ := hq1; injection e1 with e1; subst e1; have S1 := Lib.hid s1; have W1S := Lib.hid (Nat.succ_le_of_lt (copy_lt s1.copy)); have L1 := Lib.hid (lns_base l1' szw); have W1 := Lib.hid (lns_keepB KK.out.own g1 (Nat.lt_succ_of_lt s1.lt)); clear l1 s1 g1 l1' szw)
          | (at_builtin; go_loud (refine wpList_append_ln rfl _ _ rfl (w.heap.size + 1) _ _ _ _ _ rfl rfl W1.out L1.out HB8.out W1S.out ?_; intro v2 w2 hown2 hgr2 hat2; obtain ⟨pv, cv, rfl⟩ := lns_slice hown2; have S2 := Lib.hid (lkl_app KK.out S1.out hgr2 W1.out); have W2 := Lib.hid hown2; have q0 := copy_0 S2.out.copy; have q1 := copy_1 S2.out.copy; have q2 := copy_2 S2.out.copy; have ql := copy_lt S2.out.copy; have d4 := cod_4 S2.out.cod; rw [HR2.out] at d4; have z4 := cod_z S2.out.cod 4; have dl := cod_lt S2.out.cod; clear hown2 hgr2 hat2)))
        go_roundw
        case rel => exact ⟨q + 1, _, by go_num, lkl_val (lkl_next hg KK.out hlt HR.out S2.out W2.out HF.out (decide ((4096 : Int) < (r.1.length : Int) + ((nextR (x.P g) r.2.1 r.2.2).1.length : Int))) (by rw [HR2.out, Bool.false_or]; exact decide_eq_decide.2 (over_iff (x.P g) r)))⟩
        case measure => simp [intOf]; omega
    · have hxx : ¬ (q : Int) < kc ∨ r.2.1 = true := by
        by_cases h : (q : Int) < kc
        · right
          cases e : r.2.1 with
          | true => rfl
          | false => exact absurd ⟨h, e⟩ hgo
        · left; exact h
      have KE := Lib.hid (lkl_end hK hxx)
      have d0 := cod_0 hK.st.cod
      have d1 := cod_1 hK.st.cod
      have hcond : (¬ (q : Int) < kc) ∨ ((q : Int) < kc ∧ r.2.1 = true) := by
        by_cases h : (q : Int) < kc
        · right
          exact ⟨h, by rcases hxx with h2 | h2; exact absurd h h2; exact h2⟩
        · left; exact h
      clear hK hxx hgo
      have UN := Lib.hid (fun (W' : World) (g : wr.grownBy W' none) => unitAt_kept KK.out.st.at_.un g (by simp))
      rcases hcond with hc3 | ⟨hc3, hc4⟩
      · go_wp2
        (
          go_region_held3 (fun W' => W'.cell? ⟨x.Bc, 0, none⟩ = some (.slice x.pt x.u.texts.length x.ct) ∧ W'.cell? ⟨x.Bc, 1, none⟩ = some (.slice x.pf x.u.funcs.length x.cf) ∧ W'.cell? ⟨w.heap.size, 0, none⟩ = some (.int .i64 k) ∧ W'.cell? ⟨w.heap.size, 1, none⟩ = some (.int .i64 n) ∧ W'.cell? ⟨w.heap.size, 2, none⟩ = some (.int .i64 kc) ∧ x.Bc < W'.heap.size ∧ w.heap.size < W'.heap.size) (first | exact ⟨by assumption, by assumption, by assumption, by assumption, by assumption, by assumption, by assumption⟩ | assumption) (first | (go_at_call 111; refine (OW.out _ (UN.out _ (by (repeat (first | assumption | exact grownBy_refl _ none | refine grownBy_drew ?_ | refine gb_alloc ?_ _))))).mono ?_; intro e w4 hq; obtain ⟨v2, rfl, l2, g4⟩ := hq; have FA := fin_app KK.out (own_two _ _ _ _) (by (repeat (first | assumption | exact grownBy_refl _ none | refine grownBy_drew ?_ | refine gb_alloc ?_ _))) g4 l2 82; obtain ⟨v5, w5, hrun, kq4, kq5, np⟩ := FA; have NP := Lib.hid np; have K4 := kq_tup kq4; have K5 := kq_tup kq5; obtain ⟨k1, k2, k3, k4, k5, k6, k7⟩ := K4; obtain ⟨j1, j2, j3, j4, j5, j6, j7⟩ := K5; clear l2 g4 kq4 kq5 np) | (rw [if_pos (by rfl)]; refine wp_append_run _ _ rfl rfl rfl hrun ?_; simp only [Act.put, List.setIfInBounds_toArray, List.set_cons_zero, List.set_cons_succ]))
          all_goals (go_wp2; go_ret; rw [KE.out]; exact NP.out))
      · rw [hc4] at d4
        go_wp2
        (
          go_region_held3 (fun W' => W'.cell? ⟨x.Bc, 0, none⟩ = some (.slice x.pt x.u.texts.length x.ct) ∧ W'.cell? ⟨x.Bc, 1, none⟩ = some (.slice x.pf x.u.funcs.length x.cf) ∧ W'.cell? ⟨w.heap.size, 0, none⟩ = some (.int .i64 k) ∧ W'.cell? ⟨w.heap.size, 1, none⟩ = some (.int .i64 n) ∧ W'.cell? ⟨w.heap.size, 2, none⟩ = some (.int .i64 kc) ∧ x.Bc < W'.heap.size ∧ w.heap.size < W'.heap.size) (first | exact ⟨by assumption, by assumption, by assumption, by assumption, by assumption, by assumption, by assumption⟩ | assumption) (first | (go_at_call 111; refine (OW.out _ (UN.out _ (by (repeat (first | assumption | exact grownBy_refl _ none | refine grownBy_drew ?_ | refine gb_alloc ?_ _))))).mono ?_; intro e w4 hq; obtain ⟨v2, rfl, l2, g4⟩ := hq; have FA := fin_app KK.out (own_two _ _ _ _) (by (repeat (first | assumption | exact grownBy_refl _ none | refine grownBy_drew ?_ | refine gb_alloc ?_ _))) g4 l2 82; obtain ⟨v5, w5, hrun, kq4, kq5, np⟩ := FA; have NP := Lib.hid np; have K4 := kq_tup kq4; have K5 := kq_tup kq5; obtain ⟨k1, k2, k3, k4, k5, k6, k7⟩ := K4; obtain ⟨j1, j2, j3, j4, j5, j6, j7⟩ := K5; clear l2 g4 kq4 kq5 np) | (rw [if_pos (by rfl)]; refine wp_append_run _ _ rfl rfl rfl hrun ?_; simp only [Act.put, List.setIfInBounds_toArray, List.set_cons_zero, List.set_cons_succ]))
          all_goals (go_wp2; go_ret; rw [KE.out]; exact NP.out))

end Go.Proofs.Ytecaolkbllbokaa.TG

namespace Go.Proofs.Ytecaolkbllbokaa.TG
open Go.RowKit Go.Great
set_option linter.unusedSimpArgs false
set_option linter.unusedVariables false

theorem okP_m {nt : Nat} {ps : List (Int × Int × Int)} : ∀ {g m a : Nat}, okP nt ps g m a → m ≤ 1000
  | 0, _, _, h => h.elim
  | g + 1, m, a, ⟨_, _, _, _, hw, _⟩ => hw.m1

theorem fit0 {a m : Nat} : Fit ([], false, a) [] a m := ⟨fun _ => ⟨rfl, rfl⟩, (fun h => by cases h), Nat.le_refl _, outs_nil m⟩

theorem part_con (x : Lx) (hwf : LxWF x) : ∀ g, g ≤ 65 → PCon x g
  | 0, _ => fun m a w h => h.elim
  | g + 1, hg => by
    intro m a w hok hm hx hc
    have hN := next_con x g (part_con x hwf g (by omega))
    obtain ⟨k, n, kc, hp, hw, ho⟩ := hok
    have hg' : g ≤ 65 := by omega
    have F := part_fit x.u.texts x.ps g
    show Calls _ _ _ _ (NPost x w (partR x.u.texts x.ps (g + 1) a))
    rw [partR, hp]
    simp only []
    by_cases h5 : k = 5
    · rw [if_neg (by omega)] at ho
      rw [if_pos h5]
      have e5 := hw.i h5
      subst h5
      rcases e5 with rfl | rfl
      · rw [if_neg (by decide)]
        have f1 := nx_fit (P := x.P g) (fit0 (m := m)) (F m _ ho.1) rfl
        exact part_if2 x hwf g hg' hN m a hm n hp w hx hc ho.1 (fun e => by rw [(f1.ok e).2]; exact ho.2.1)
      · rw [if_pos rfl]
        have f1 := nx_fit (P := x.P g) (fit0 (m := m)) (F m _ ho.1) rfl
        refine part_if3 x hwf g hg' hN m a hm n hp w hx hc ho.1 (fun e => by rw [(f1.ok e).2]; exact ho.2.1) (fun e => ?_)
        cases e1 : (nx (x.P g) ([], false, a + 1)).2.1 with
        | true => rw [nx_over e1] at e; cases e
        | false =>
          have f2 := nx_fit (P := x.P g) f1 (F m _ ho.2.1) e1
          rw [(f2.ok e).2]; exact ho.2.2.1
    rw [if_neg h5]
    by_cases h6 : k = 6
    · rw [if_pos h6] at ho
      rw [if_pos h6]
      have e2 : kc = 2 := hw.w (Or.inl h6)
      subst e2
      subst h6
      have hm1 := okP_m ho.2
      have f1 := nx_fit (P := x.P g) (fit0 (m := m)) (F m _ ho.1) rfl
      refine part_wh x hwf g hg' hN m a hm1 n 2 hp w hx hc ho.1 (fun e => by rw [(f1.ok e).2]; exact ho.2) (fun y hy => ?_)
      cases e1 : (nx (x.P g) ([], false, a + 1)).2.1 with
      | true => rw [nx_over e1] at hy; cases hy
      | false =>
        have f2 := nx_fit (P := x.P g) f1 (F (m + 1) _ ho.2) e1
        have := f2.outs y hy
        omega
    rw [if_neg h6] at ho
    rw [if_neg h6]
    by_cases h7 : k = 7 ∨ k = 8
    · obtain ⟨e0, hn0, hnm⟩ := hw.l h7
      rw [if_pos h7]
      rcases h7 with rfl | rfl
      · exact part_break x hwf a n kc ⟨hn0, by omega⟩ hp w hx hc
      · exact part_cont x hwf a n kc ⟨hn0, by omega⟩ hp w hx hc
    rw [if_neg h7]
    by_cases h23 : k = 23
    · have e2 : kc = 2 := hw.w (Or.inr (Or.inl h23))
      subst e2
      rw [if_pos h23]
      subst h23
      have f1 := nx_fit (P := x.P g) (fit0 (m := m)) (F m _ ho.1) rfl
      exact part_and x hwf g hg' hN m a hm n 2 hp w hx hc ho.1 (fun e => by rw [(f1.ok e).2]; exact ho.2.1)
    rw [if_neg h23]
    by_cases h24 : k = 24
    · have e2 : kc = 2 := hw.w (Or.inr (Or.inr h24))
      subst e2
      rw [if_pos h24]
      subst h24
      have f1 := nx_fit (P := x.P g) (fit0 (m := m)) (F m _ ho.1) rfl
      exact part_or x hwf g hg' hN m a hm n 2 hp w hx hc ho.1 (fun e => by rw [(f1.ok e).2]; exact ho.2.1)
    rw [if_neg h24]
    exact part_kids x hwf g hg' hN m a hm k n kc hp w hx hc ⟨hw.k1, hw.k2⟩ h5 h6 h7 h23 h24 hw.t ho

theorem next_any (x : Lx) (hwf : LxWF x) : NCon x 65 := next_con x 65 (part_con x hwf 65 (Nat.le_refl _))

end Go.Proofs.Ytecaolkbllbokaa.TG

namespace Go.Proofs.Ytecaolkbllbokaa.TG
open Go.RowKit Go.Great
set_option linter.unusedSimpArgs false
set_option linter.unusedVariables false

/-- A function's lines, and whether they are as many as may be. -/
def funL (u : Un) (f : Fun) : List Ln := (nextR (partR u.texts f.parts 65) false 0).1 ++ [lineL 0 3 0, lineL 0 18 0]
def funOk (u : Un) (f : Fun) : Bool := bif (nextR (partR u.texts f.parts 65) false 0).2.1 then false else decide ((funL u f).length ≤ 4096)

def FunPost (w : World) (R : List Ln) (ok : Bool) (e : Ending) (w' : World) : Prop := ∃ v, e = .returned (.tuple #[v, .bool ok]) ∧ LnsAt w' w.heap.size v R ∧ w.grownBy w' none

theorem fun_len (u : Un) (f : Fun) : (nextR (partR u.texts f.parts 65) false 0).1.length ≤ 594000 := by
  have := (first_len (P := partR u.texts f.parts 65) (a := 0) (C := 594000) fun a => by have := part_len u.texts f.parts 65 a; omega).1
  exact this

theorem fun_app {w wb wr w4 w5 : World} {v : Value} {R : List Ln} {Bc : Nat} (hb : w.heap.size ≤ Bc) (g0 : w.grownBy wb none) (g1 : wb.grownBy wr (some Bc)) (own : LnsAt wr (w.heap.size + 2) v R) (g4 : wr.grownBy w4 none) (g5 : w4.grownBy w5 v.ownBlock) : w.grownBy w5 none := by
  have g := grownBy_trans (grow_new g0 g1 hb) g4
  cases hv : v.ownBlock with
  | none => rw [hv] at g5; exact grownBy_trans g g5
  | some b => rw [hv] at g5; exact grow_new g g5 (by have := (own.lt b hv).1; omega)

theorem cod_app {x : Lx} {wr w4 w5 : World} {v : Value} {R : List Ln} {a : Nat} {ov : Bool} {b : Nat} (hc : CodR x wr a ov) (hlt : x.Bc < b) (own : LnsAt wr b v R) (g4 : wr.grownBy w4 none) (g5 : w4.grownBy w5 v.ownBlock) : CodR x w5 a ov := by
  have c4 := cod_kept hc g4
  have ne : v.ownBlock ≠ some x.Bc := own_block_ne own hlt
  unfold CodR at *
  rw [g5.block x.Bc (cod_lt c4) (Ne.symm ne)]; exact c4

theorem fun_le (A : List Ln) (a b : Ln) : (bif false then false else decide ((A ++ [a, b]).length ≤ 4096)) = decide ((A.length : Int) + 2 ≤ 4096) := by
  show decide _ = _
  exact decide_eq_decide.2 (by rw [List.length_append]; simp only [List.length_cons, List.length_nil]; omega)

theorem fun_post {w w5 : World} {R A : List Ln} {a b : Ln} {ok ok' : Bool} {p : Option Addr} {c : Nat} (e : R = A ++ [a, b]) (eo : ok = ok') (own : LnsAt w5 (w.heap.size + 2) (.slice p (A ++ [a, b]).length c) (A ++ [a, b])) (g : w.grownBy w5 none) (E : Ending) (he : E = .returned (.tuple #[.slice p (A.length + 2) c, .bool ok'])) : FunPost w R ok E w5 := by
  subst e; subst eo
  rw [List.length_append] at own
  exact ⟨_, he, lns_base own (Nat.le_add_right _ _), g⟩

set_option maxRecDepth 100000 in
set_option maxHeartbeats 8000000 in
theorem function_any (u : Un) (hu : UnWF u) (hnt : u.texts.length ≤ 1024) (pt pf : Option Addr) (ct cf B n : Nat) (f : Fun) (hf : u.funcs[n]? = some f) (hok : okP u.texts.length f.parts 65 0 0) (w : World) (hU : UnitAt w B pt pf u) :
    Calls Try.prog 30 #[.agg #[.slice pt u.texts.length ct, .slice pf u.funcs.length cf], .int .i64 n] w (FunPost w (funL u f) (funOk u f)) := by
  have hnl := (List.getElem?_eq_some_iff.1 hf).1
  obtain ⟨bF, oF, rfl, hbF, hcF⟩ := hU.funcs (by omega)
  obtain ⟨q0, q1, ⟨pl, cl, q2, hpl⟩, ⟨pp, cp, q3, hpp⟩⟩ := hcF n f hf
  have hni : (n : Int) < (u.funcs.length : Int) := by omega
  have hle := hU.le
  have hbw : bF < w.heap.size := by omega
  have hnf := hu.nf
  obtain ⟨z1, z2, z3, z4⟩ := hu.name f (List.mem_of_getElem? hf)
  have UU := Lib.hid hU
  have PP := Lib.hid hpp
  have HU := Lib.hid hu
  have HOK := Lib.hid hok
  have HF := Lib.hid hf
  have G0 := Lib.hid (World.grownBy_alloc w (.cells #[.slice pt u.texts.length ct, .slice (some ⟨bF, oF, none⟩) u.funcs.length cf] 25) none)
  have hub := boxU_new w (.slice pt u.texts.length ct) (.slice (some ⟨bF, oF, none⟩) u.funcs.length cf)
  have b0 := boxU_0 hub
  have b1 := boxU_1 hub
  have bl := boxU_lt hub
  have q3' := G0.out.cell q3 (by simp)
  have lF : bF < (w.alloc (.cells #[.slice pt u.texts.length ct, .slice (some ⟨bF, oF, none⟩) u.funcs.length cf] 25)).heap.size := by simp; omega
  have hsz : (w.alloc (.cells #[.slice pt u.texts.length ct, .slice (some ⟨bF, oF, none⟩) u.funcs.length cf] 25)).heap.size = w.heap.size + 1 := World.size_alloc _ _
  have HSZ := Lib.hid hsz
  clear hU hu hcF hpl hpp q0 q1 q2 z1 z2 z4 hok hf hub q3
  go_enter Try.func30, Try.ntmps30
  go_wp2
  clear hsz
  generalize w.alloc (.cells #[.slice pt u.texts.length ct, .slice (some ⟨bF, oF, none⟩) u.funcs.length cf] 25) = W at *
  go_region
  have hcod : (W.alloc (.cells #[.slice pt u.texts.length ct, .slice (some ⟨bF, oF, none⟩) u.funcs.length cf, .slice pp f.parts.length cp, .int .i64 0, .bool false] 121)).drew.heap[W.heap.size]? = some (.cells #[.slice pt u.texts.length ct, .slice (some ⟨bF, oF, none⟩) u.funcs.length cf, .slice pp f.parts.length cp, .int .i64 0, .bool false] 121 (0, 0)) := heap_alloc_new W _
  have hg2 : w.grownBy (W.alloc (.cells #[.slice pt u.texts.length ct, .slice (some ⟨bF, oF, none⟩) u.funcs.length cf, .slice pp f.parts.length cp, .int .i64 0, .bool false] 121)).drew none := grownBy_trans G0.out (grownBy_drew (World.grownBy_alloc W _ none))
  have hsz2 : (W.alloc (.cells #[.slice pt u.texts.length ct, .slice (some ⟨bF, oF, none⟩) u.funcs.length cf, .slice pp f.parts.length cp, .int .i64 0, .bool false] 121)).drew.heap.size = w.heap.size + 2 := by
    show (W.alloc _).heap.size = _
    rw [World.size_alloc, HSZ.out]
  have hBc : W.heap.size = w.heap.size + 1 := HSZ.out
  clear b0 b1 bl q3' lF
  generalize (W.alloc (.cells #[.slice pt u.texts.length ct, .slice (some ⟨bF, oF, none⟩) u.funcs.length cf, .slice pp f.parts.length cp, .int .i64 0, .bool false] 121)).drew = wb at *
  generalize W.heap.size = Bc at *
  have HBc := Lib.hid hBc
  have HS2 := Lib.hid hsz2
  have HLW := Lib.hid (show w.heap.size ≤ Bc by omega)
  have HLB := Lib.hid (show Bc < w.heap.size + 2 by omega)
  have G2 := Lib.hid hg2
  have NXT := Lib.hid (next_any ⟨u, pt, some ⟨bF, oF, none⟩, ct, cf, B, Bc, pp, cp, f.parts⟩ ⟨HU.out, hnt, z3⟩ 0 0 false wb (fun _ => HOK.out) (by omega) ⟨unitAt_kept UU.out hg2 (by simp), partsB_kept PP.out hg2 (by simp), by simp only []; omega⟩ hcod)
  have hlt : Bc < wb.heap.size := by omega
  clear hcod hg2 hsz2 hBc HSZ
  have hfl := fun_len u f
  have hfe : funL u f = (nextR (partR u.texts f.parts 65) false 0).1 ++ [lineL 0 3 0, lineL 0 18 0] := rfl
  have hfo : funOk u f = bif (nextR (partR u.texts f.parts 65) false 0).2.1 then false else decide (((nextR (partR u.texts f.parts 65) false 0).1 ++ [lineL 0 3 0, lineL 0 18 0]).length ≤ 4096) := rfl
  generalize hr : nextR (partR u.texts f.parts 65) false 0 = r at *
  have HR := Lib.hid hr
  have HFL := Lib.hid (show r.1.length + 2 ≤ 1000000000000 by omega)
  have NP := Lib.hid (show Calls Try.prog 49 #[.pointer (some ⟨Bc, 0, none⟩)] wb (NPost ⟨u, pt, some ⟨bF, oF, none⟩, ct, cf, B, Bc, pp, cp, f.parts⟩ wb r) by
    have := NXT.out
    rw [← hr]; exact this)
  have HHS := Lib.hid (show w.heap.size + 2 ≤ wb.heap.size by have := HS2.out; omega)
  have HFE := Lib.hid hfe
  have HFO := Lib.hid hfo
  clear hfl hr NXT hfe hfo
  cases hr2 : r.2.1 with
  | true =>
    have HR2 := Lib.hid hr2
    clear hr2
    go_wp2_with (first
      | (go_at_call 49; refine NP.out.mono ?_; intro e w1 hq; obtain ⟨v1, rfl, l1, g1, c1⟩ := hq; have L1 := Lib.hid (lns_base l1 HHS.out); have G1 := Lib.hid g1; have C1 := Lib.hid c1; have S1 := Lib.hid (Nat.le_trans HHS.out g1.size); clear l1 g1 c1)
      | (go_at_call 50; refine (line_raw _ _ _ _).mono ?_; rintro e w2 ⟨rfl, hg⟩; first | (have J2 := Lib.hid (grownBy_trans J1.out hg); clear J1 hg) | (have J1 := Lib.hid hg; clear hg))
      | (at_builtin; refine wpList_append_ln rfl _ _ rfl (w.heap.size + 2) _ _ _ _ _ rfl rfl (lns_grow L1.out (grownBy_trans J2.out (World.grownBy_alloc _ _ none))) (lit2 _ _ _ _ _ _ _ _ _) HFL.out (Nat.le_trans S1.out (grownBy_trans J2.out (World.grownBy_alloc _ _ none)).size) ?_; intro v5 w5 hown5 hgr5 hat5; obtain ⟨pv, cv, rfl⟩ := lns_slice hown5; have W5 := Lib.hid hown5; have GW5 := Lib.hid (fun_app (w := w) (Bc := Bc) HLW.out G2.out G1.out L1.out (grownBy_trans J2.out (World.grownBy_alloc _ _ none)) hgr5); have C5 := cod_app C1.out HLB.out L1.out (grownBy_trans J2.out (World.grownBy_alloc _ _ none)) hgr5; have d4 : w5.cell? ⟨Bc, 4, none⟩ = some (.bool r.2.1) := cod_4 C5; rw [HR2.out] at d4; have dl : Bc < w5.heap.size := cod_lt C5; clear hown5 hgr5 hat5 C5))
    go_ret2
    exact fun_post HFE.out (by rw [HFO.out, HR2.out]; rfl) W5.out GW5.out _ rfl
  | false =>
    have HR2 := Lib.hid hr2
    clear hr2
    go_wp2_with (first
      | (go_at_call 49; refine NP.out.mono ?_; intro e w1 hq; obtain ⟨v1, rfl, l1, g1, c1⟩ := hq; have L1 := Lib.hid (lns_base l1 HHS.out); have G1 := Lib.hid g1; have C1 := Lib.hid c1; have S1 := Lib.hid (Nat.le_trans HHS.out g1.size); clear l1 g1 c1)
      | (go_at_call 50; refine (line_raw _ _ _ _).mono ?_; rintro e w2 ⟨rfl, hg⟩; first | (have J2 := Lib.hid (grownBy_trans J1.out hg); clear J1 hg) | (have J1 := Lib.hid hg; clear hg))
      | (at_builtin; refine wpList_append_ln rfl _ _ rfl (w.heap.size + 2) _ _ _ _ _ rfl rfl (lns_grow L1.out (grownBy_trans J2.out (World.grownBy_alloc _ _ none))) (lit2 _ _ _ _ _ _ _ _ _) HFL.out (Nat.le_trans S1.out (grownBy_trans J2.out (World.grownBy_alloc _ _ none)).size) ?_; intro v5 w5 hown5 hgr5 hat5; obtain ⟨pv, cv, rfl⟩ := lns_slice hown5; have W5 := Lib.hid hown5; have GW5 := Lib.hid (fun_app (w := w) (Bc := Bc) HLW.out G2.out G1.out L1.out (grownBy_trans J2.out (World.grownBy_alloc _ _ none)) hgr5); have C5 := cod_app C1.out HLB.out L1.out (grownBy_trans J2.out (World.grownBy_alloc _ _ none)) hgr5; have d4 : w5.cell? ⟨Bc, 4, none⟩ = some (.bool r.2.1) := cod_4 C5; rw [HR2.out] at d4; have dl : Bc < w5.heap.size := cod_lt C5; clear hown5 hgr5 hat5 C5))
    go_ret2
    exact fun_post HFE.out (by rw [HFO.out, HR2.out]; exact fun_le r.1 _ _) W5.out GW5.out _ rfl

end Go.Proofs.Ytecaolkbllbokaa.TG
