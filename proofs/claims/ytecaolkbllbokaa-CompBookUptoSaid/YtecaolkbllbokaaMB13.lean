/-
  Walk of the compiler's while. Conditions: as each theorem states.
  Rows by their index: make, copy, and what is kept of them. Conditions: as each theorem states.
  A function that is lent: lendFn. Conditions: as each theorem states.
  A unit that is lent: what lies where. Conditions: as each theorem states.
-/
import Derived.Test.YtecaolkbllbokaaMB12
import Derived.Test.YtecaolkbllbokaaMB07
import Derived.Lib.Hide
import Derived.OwnWalk
import Derived.Laws.CopyRow
import Derived.Deep.OwnRows
import Derived.Laws.ResultCell
namespace Go.Proofs.Ytecaolkbllbokaa.TG
open Go.RowKit Go.Great
set_option linter.unusedSimpArgs false
set_option linter.unusedVariables false

theorem loop_und : Try.prog.underlying 111 = some (.slice 180) := by kernel_rfl
theorem loop_info : (Try.prog.info? 180).map (fun i => (i.zero, i.size, i.bytes)) = some (some (.agg #[.int .i64 0, .slice none 0 0]), 2, 32) := by kernel_rfl
theorem loop_cell2 (x : Int) : ∀ u ∈ [Value.int .i64 x, .slice none 0 0], u.oneCell' = true := by
  intro u hu; simp at hu; rcases hu with rfl | rfl <;> rfl

theorem own_slice {w : World} {base : Nat} {e : TypeId} {size n : Nat} {v : Value} {xs : List Value} (h : w.ownsRow base e size v n xs) : ∃ (p : Option Addr) (cap : Nat), v = .slice p n cap := by
  rcases h.2 with ⟨rfl, rfl⟩ | ⟨g, cap, cur, hv, _⟩
  · exact ⟨_, _, rfl⟩
  · exact ⟨_, _, hv⟩

theorem push_mid {c : Cx} {w w1 : World} {s : Stt} {o : Obj} (h : AtS c w s) (gr : (w.alloc o).grownBy w1 s.vlo.ownBlock) : w1.cell? ⟨c.Bd, 8, none⟩ = some s.vlo ∧ w1.frozen? ⟨c.Bd, 8, none⟩ = false ∧ c.Bd < w1.heap.size := by
  have hb := box_moved (box_moved h.code.box (World.grownBy_alloc w o none) (by simp)) gr (own_ne2 h.lrow h.code.lt)
  exact ⟨cell_of_row w1 c.Bd 8 _ _ _ hb, frozen_of_row w1 c.Bd 8 _ _ hb, (Array.getElem?_eq_some_iff.1 hb).1⟩

theorem bud_push {c : Cx} {s s' : Stt} {p k b : Nat} (h : Bud c s p k) (e : s'.abs = s.abs.push b) : Bud c s' p k := by
  have := (abs_len e).1
  have e2 : (s.abs.push b).out.length = s.out.length := rfl
  unfold Bud at *; omega
theorem push_len {s s' : Stt} {b : Nat} (e : s'.abs = s.abs.push b) : s'.out.length = s.out.length ∧ s'.L.length = s.L.length + 1 := by
  have := abs_len e
  have e2 : (s.abs.push b).out.length = s.out.length := rfl
  have e3 : (s.abs.push b).V.length = s.L.length + 1 := by simp [PS.push, Stt.abs]
  omega
theorem jump_in5 {c : Cx} {g p q a b : Nat} {w w' : World} {x : Int × Int} {s1 s2 s3 s4 : Stt} (e : s2.abs = s1.abs.emit a x) (e2 : s3.abs = s2.abs.push b) (h : WStep c g w s3 p w' s4 q) : s1.out.length < s4.out.length := by
  have := emit_len e; have := (push_len e2).1; have := h.lo; omega

theorem last_of {α : Type} {L : List α} {n : Nat} (h : L.length = n + 1) : ∃ (L0 : List α) (l : α), L = L0 ++ [l] ∧ L0.length = n := by
  have hne : L ≠ [] := by intro e; subst e; cases h
  refine ⟨L.dropLast, L.getLast hne, (List.dropLast_concat_getLast hne).symm, by simp; omega⟩

theorem marks_append : ∀ (l l' : List Nat) (s : PS), PS.marks s (l ++ l') = PS.marks (PS.marks s l) l'
  | [], l', s => rfl
  | x :: r, l', s => marks_append r l' (s.mark x)

theorem while_end {F : Fw} {s s1 s2 s3 s4 s5 s6 s7 s8 : PS} {a p1 p2 : Nat} {b : Nat} {js : List Nat} {r : List (Nat × List Nat)} (h1 : F s (a + 1) = (s1, p1)) (h2 : s2 = s1.emit a (15, 0)) (h3 : s3 = s2.push s.out.length) (h4 : F s3 p1 = (s4, p2)) (h5 : s5 = s4.emit a (14, (s.out.length : Int))) (h6 : s6 = s5.mark s1.out.length)
    (h7 : s7 = s6.pop) (hV : s6.V = (b, js) :: r) (h8 : s8 = PS.marks s7 js) : whileP F s a = (s8, p2) := by
  subst h2; subst h3; subst h5; subst h6; subst h7; subst h8
  unfold whileP endP
  rw [h1, h4]
  have hV' : s4.V = (b, js) :: r := hV
  simp [hV']

/-- Where the loop over the closures stands. -/
structure FLoop (c : Cx) (w9 : World) (s9 : Stt) (l : Lp) (q : Nat) (wr : World) (sr : Stt) : Prop where
  go : Go c w9 s9 wr sr
  eq : sr.abs = PS.marks s9.abs ((l.cls.map fun x => x.2.2).take q)
  ends : Ends c wr sr l
  jl : ∀ x ∈ l.cls, x.2.2 < sr.out.length
  len : sr.out.length = s9.out.length
  le : q ≤ l.cls.length

theorem floop_step {c : Cx} {w9 wr w' : World} {s9 sr s' : Stt} {l : Lp} {q : Nat} (h : FLoop c w9 s9 l q wr sr) (hq : q < l.cls.length) (g : Go c wr sr w' s') (e : s'.abs = sr.abs.mark l.cls[q].2.2) (hE : Ends c w' s' l) : FLoop c w9 s9 l (q + 1) w' s' := by
  have hl := mark_len e
  refine ⟨go_trans h.go g, ?_, hE, fun x hx => by rw [hl]; exact h.jl x hx, by rw [hl]; exact h.len, hq⟩
  rw [List.take_succ_eq_append_getElem (by simpa using hq), marks_append, ← h.eq, e]
  simp [PS.marks]

/-- What is read of the closures. -/
theorem ends_cell {c : Cx} {w : World} {s : Stt} {l : Lp} (h : Ends c w s l) {p : Option Addr} {cap : Nat} (hv : l.ends = .slice p l.cls.length cap) {q : Nat} (hq : q < l.cls.length) : ∃ ge : Nat, p = some ⟨ge, 0, none⟩ ∧ w.cell? ⟨ge, q, none⟩ = some (clsV l.cls[q]) ∧ ge < w.heap.size := by
  have ho := h.own
  obtain ⟨m, hm⟩ : ∃ m, l.cls.length = m + 1 := ⟨l.cls.length - 1, by omega⟩
  obtain ⟨ge, cap', hv'⟩ := own_succ (n := m) (by rw [← hm]; exact ho)
  rw [hv'] at hv
  injection hv with e1 e2 e3
  subst e1
  refine ⟨ge, rfl, ?_, ?_⟩
  · have := ho.2
    rw [hv', ← hm] at ho
    rw [ho.cellAt q (by omega), List.getElem?_map, List.getElem?_eq_getElem hq]; rfl
  · have := (ho.lt ge (by rw [hv']; rfl)).2; exact this

/-- Behind the loop's end: the loop is taken off, its closures lie in a copy. -/
structure WPop (c : Cx) (w6 w9 : World) (s6 s7 : Stt) (l : Lp) : Prop where
  go : Go c w6 s6 w9 s7
  abs : s7.abs = s6.abs.pop
  ends : Ends c w9 s7 l
  jl : ∀ x ∈ l.cls, x.2.2 < s7.out.length

theorem while_pop {c : Cx} (ok : CxOK c) {w : World} {s : Stt} (h : AtS c w s) {L0 : List Lp} {l : Lp} (hL : s.L = L0 ++ [l]) {g cap m : Nat} (hv : s.vlo = .slice (some ⟨g, 0, none⟩) s.L.length cap) (hm : L0.length = m) (o : Obj) :
    ∃ s7, WPop c w (((w.setCell ⟨c.Bd, 8, none⟩ (.slice (some ⟨g, 0, none⟩) m cap)).alloc o).drew.drew) s s7 l := by
  subst hm
  have hml : l ∈ s.L := by rw [hL]; simp
  obtain ⟨s7, g7, a7, -, e1, e2⟩ := go_pop ok h hL hv (by rw [hL]; simp)
  have gr : (w.setCell ⟨c.Bd, 8, none⟩ (.slice (some ⟨g, 0, none⟩) L0.length cap)).grownBy (((w.setCell ⟨c.Bd, 8, none⟩ (.slice (some ⟨g, 0, none⟩) L0.length cap)).alloc o).drew.drew) none := grownBy_drew (grownBy_drew (World.grownBy_alloc _ o none))
  refine ⟨s7, go_trans g7 (go_grown ok g7.at_ gr), a7, ?_, ?_⟩
  · exact ends_sp (s := s7) (ends_of h hml _ e1 e2) (sp_grown gr (by simp)) rfl rfl
  · intro x hx
    have h1 := h.inv.js l.abs (by show l.abs ∈ (s.L.map Lp.abs).reverse; rw [List.mem_reverse]; exact List.mem_map_of_mem hml) x.2.2 (List.mem_map_of_mem hx)
    have h2 := (abs_len a7).1
    have h3 : s.abs.pop.out.length = s.out.length := rfl
    have h4 : s.abs.out.length = s.out.length := rfl
    omega

theorem own_cap {w : World} {base : Nat} {e : TypeId} {size n g cap : Nat} {xs : List Value} (h : w.ownsRow base e size (.slice (some ⟨g, 0, none⟩) n cap) n xs) : n ≤ cap ∧ cap ≤ 9223372036854775807 := by
  rcases h.2 with ⟨h1, _⟩ | ⟨g', cap', cur, hv, _, _, hn, hm, _⟩
  · cases h1
  · injection hv with _ _ e3; subst e3; unfold maxLen at hm; exact ⟨hn, hm⟩

theorem lim_push {s2 : Stt} {m : Nat} (h : s2.L.length = m) (hm : m ≤ 1000) : s2.L.length + 1 ≤ maxLen ∧ (s2.L.length + 1) * 32 ≤ 140737488355328 := by unfold maxLen; omega
theorem size_le_alloc {E : Nat} {w : World} (h : E ≤ w.heap.size) (o : Obj) : E ≤ (w.alloc o).heap.size := by simp; omega

set_option maxRecDepth 100000 in
set_option maxHeartbeats 4000000 in
theorem while_any (c : Cx) (ok : CxOK c) (g : Nat) (hI : WCon c g) (s : Stt) (at_ : Nat) (w : World) (hja : at_ < c.ps.length) (hLm : s.L.length ≤ 1000) (h1 : okP c.ts.length c.ps g s.L.length (at_ + 1)) (h2 : okP c.ts.length c.ps g (s.L.length + 1) (skipS c.ps g (at_ + 1)))
    (h : AtS c w s) (hb : s.out.length + 8 * (c.ps.length - at_) + 8 ≤ 1000000000000) :
    Calls Try.prog 76 #[.pointer (some ⟨c.Bd, 0, none⟩), .int .i64 at_] w (WP c w s (whileP (writeP c.ts c.ps g) s.abs at_)) := by
  have hji : (at_ : Int) < (c.ps.length : Int) := by omega
  have hnp := ok.np
  have B0 := Lib.hid (bud_start hb hja)
  have hw := step_write ok hI h1 h (bud_ok B0.out)
  rw [show ((at_ + 1 : Nat) : Int) = (at_ : Int) + 1 from rfl] at hw
  have W1 := Lib.hid hw
  have H2 := Lib.hid h2
  have HI := Lib.hid hI
  obtain ⟨po, co, hvo⟩ := own_slice h.code.out
  have c6 : w.cell? ⟨c.Bd, 6, none⟩ = some (.slice po s.out.length co) := by have := code_cell h.code 6; rw [hvo] at this; exact this
  have ld := at_size h
  obtain ⟨i0, hi, hz0, hz1, hz2⟩ := info_parts loop_info
  clear hw h1 h2 h hb hI hvo
  go_enter Try.func76, Try.ntmps76
  go_wp2_with (first
    | (go_at_call 43; refine W1.out.mono ?_; clear W1; intro e w1 hq; obtain ⟨s1, q1, rfl, g1⟩ := hq; have G1 := Lib.hid g1; have B1 := Lib.hid (bud_write B0.out g1); have E1 := Lib.hid (emit_at ok g1.go.at_ (bud_len B1.out) at_ 15 0); clear g1)
    | (go_at_call 44; refine E1.out.mono ?_; clear E1; intro e w2 hq; obtain ⟨rfl, s2, g2, a2, l2, v2⟩ := hq; have G2 := Lib.hid g2; have A2 := Lib.hid a2; have B2 := Lib.hid (bud_emit B1.out a2); have L2 := Lib.hid ((congrArg List.length l2).trans G1.out.L); have c8 : w2.cell? ⟨c.Bd, 8, none⟩ = some s2.vlo := code_cell g2.at_.code 8; have ld2 := at_size g2.at_; have LM := lim_push L2.out hLm; obtain ⟨hc3, hc4⟩ := LM; clear g2 a2 l2 v2)
    | (at_builtin; refine wpList_append_own_at _ rfl _ _ 111 rfl c.E 180 i0 (.agg #[.int .i64 0, .slice none 0 0]) 2 32 loop_und hi hz0 hz1 hz2 rfl (by decide) _ _ _ rfl (G2.out.at_.lrow.alloc _) ⟨w2.heap.size, 0, none⟩ 1 1 [.int .i64 s.out.length, .slice none 0 0] rfl rfl (two_new w2 _ _ _) (loop_cell2 _) hc3 hc4 (size_le_alloc G2.out.at_.code.le _) ?_; intro v1 w3 hown3 hgr3 hnil3 hat3; obtain ⟨g3, k3, hv3⟩ := own_succ hown3; subst hv3; have PM := push_mid G2.out.at_ hgr3; obtain ⟨d8, z8, ld3⟩ := PM; have PU := go_push ok G2.out.at_ hown3 hgr3 hat3; obtain ⟨s3, go3, a3, v3, l3⟩ := PU; have G3 := Lib.hid go3; have A3 := Lib.hid a3; have B3 := Lib.hid (bud_push B2.out a3); have L3 := Lib.hid ((push_len a3).2.trans (congrArg (· + 1) L2.out)); have W4 := Lib.hid (step_write ok HI.out (okP_cast H2.out G1.out.sk L3.out) go3.at_ (bud_ok B3.out)); clear hown3 hgr3 hnil3 hat3 go3 a3 v3 l3)
    | (go_at_call 43; refine W4.out.mono ?_; clear W4; intro e w4 hq; obtain ⟨s4, q2, rfl, g4⟩ := hq; have G4 := Lib.hid g4; have B4 := Lib.hid (bud_write B3.out g4); have E5 := Lib.hid (emit_at ok g4.go.at_ (bud_len B4.out) at_ 14 s.out.length); clear g4)
    | (go_at_call 44; refine E5.out.mono ?_; clear E5; intro e w5 hq; obtain ⟨rfl, s5, g5, a5, l5, v5⟩ := hq; have G5 := Lib.hid g5; have A5 := Lib.hid a5; have B5 := Lib.hid (bud_emit B4.out a5); have L5 := Lib.hid ((congrArg List.length l5).trans (G4.out.L.trans L3.out)); have M6 := Lib.hid (mark_new ok g5.at_ (bud_len B5.out) (jump_in2 (jump_in5 A2.out A3.out G4.out) a5)); clear g5 a5 l5 v5)
    | (go_at_call 97; refine M6.out.mono ?_; clear M6; intro e w6 hq; obtain ⟨⟨v6, rfl⟩, s6, g6, a6, l6, v6'⟩ := hq; have G6 := Lib.hid g6; have A6 := Lib.hid a6; have B6 := Lib.hid (bud_mark B5.out a6); have L6 := Lib.hid ((congrArg List.length l6).trans L5.out); clear g6 a6 l6 v6'))
  obtain ⟨L0, l, hL6, hL0⟩ := last_of L6.out
  have HL6 := Lib.hid hL6
  have hl6 : s6.L[s.L.length]? = some l := by rw [hL6, List.getElem?_append_right (by omega)]; simp [hL0]
  obtain ⟨g6, cap6, hv6, -⟩ := loops_some G6.out.at_ (by rw [L6.out]; omega)
  have LC6 := Lib.hid (loop_cells G6.out.at_ hv6 hl6)
  obtain ⟨c8, m0, m1, mz, mg⟩ := LC6.out
  rw [L6.out] at c8
  have ld6 := at_size G6.out.at_
  obtain ⟨pe, ce, hve⟩ := own_slice (G6.out.at_.lend l (by rw [hL6]; simp))
  rw [hve] at m1
  have HVE := Lib.hid hve
  clear hve
  have z8 := code_frozen G6.out.at_.code 8
  have hcl : l.cls.length ≤ 1000000000000 := Nat.le_trans (lv_cnt G6.out.at_ hl6) (bud_len B6.out)
  have hcap := own_cap (by have := G6.out.at_.lrow; rw [hv6] at this; exact this)
  rw [L6.out] at hcap
  obtain ⟨hcap1, hcap2⟩ := hcap
  have HV6 := Lib.hid hv6
  clear hL6 hl6 ld hv6
  go_region
  go_wp2
  go_region
  go_wp2
  have PP := while_pop ok G6.out.at_ HL6.out HV6.out hL0 (.cells #[.int .i64 l.beg, .slice pe l.cls.length ce] 180)
  obtain ⟨s7, hpop⟩ := PP
  have P7 := Lib.hid hpop
  have K0 := Lib.hid (show FLoop c _ s7 l 0 _ s7 from ⟨go_refl hpop.go.at_, rfl, hpop.ends, hpop.jl, rfl, Nat.zero_le _⟩)
  have B7 := Lib.hid (show s7.out.length ≤ 1000000000000 by have h1 := bud_len B6.out; have h2 := (abs_len hpop.abs).1; have h3 : s6.abs.pop.out.length = s6.out.length := rfl; omega)
  clear hpop c8 m0 m1 mz mg ld6 z8
  generalize (((w6.setCell ⟨c.Bd, 8, none⟩ (.slice (some ⟨g6, 0, none⟩) s.L.length cap6)).alloc (.cells #[.int .i64 l.beg, .slice pe l.cls.length ce] 180)).drew.drew) = w9 at *
  go_loopw [74] (fun i wr => ∃ (q : Nat) (sr : Stt), i = .int .i64 q ∧ FLoop c w9 s7 l q wr sr) (fun i _ => l.cls.length - (intOf i).toNat)
  case atStart => exact ⟨0, s7, rfl, K0.out⟩
  case round =>
    obtain ⟨q, sr, rfl, hF⟩ := hrel
    have FF := Lib.hid hF
    have hqle := hF.le
    clear hF
    by_cases hlt : (q : Int) < (l.cls.length : Int)
    · have hq : q < l.cls.length := by omega
      obtain ⟨ge, rfl, hce, hge⟩ := ends_cell FF.out.ends HVE.out hq
      obtain ⟨pr, cr, hvr⟩ := own_slice FF.out.go.at_.code.out
      have c6r : wr.cell? ⟨c.Bd, 6, none⟩ = some (.slice pr sr.out.length cr) := by have := code_cell FF.out.go.at_.code 6; rw [hvr] at this; exact this
      have ldr := at_size FF.out.go.at_
      have FA := Lib.hid (fill_at ok FF.out.go.at_ (by rw [FF.out.len]; exact B7.out) FF.out.ends (List.getElem_mem hq) (FF.out.jl _ (List.getElem_mem hq)))
      unfold clsV at hce
      clear hvr
      go_wp2_with (go_at_call 98; refine FA.out.mono ?_; intro e w7 hp; obtain ⟨⟨v7, rfl⟩, s8, g8, a8, l8, v8, e8⟩ := hp; have G8 := Lib.hid g8; have A8 := Lib.hid a8; have E8 := Lib.hid e8; clear g8 a8 l8 v8 e8)
      go_roundw
      case rel => exact ⟨q + 1, s8, by go_num, floop_step FF.out hq G8.out A8.out E8.out⟩
      case measure => simp [intOf]; omega
    · have hq : q = l.cls.length := by omega
      subst hq
      go_wp2
      go_ret
      have hV : s6.abs.V = (l.beg, l.cls.map fun x => x.2.2) :: (L0.map Lp.abs).reverse := by
        show (s6.L.map Lp.abs).reverse = _
        rw [HL6.out]; simp [Lp.abs]
      have h8 := FF.out.eq
      rw [List.take_of_length_le (by simp)] at h8
      rw [while_end G1.out.eq A2.out A3.out G4.out.eq A5.out A6.out P7.out.abs hV h8]
      exact ⟨rfl, _, go_trans (go_trans (go_trans (go_trans (go_trans (go_trans (go_trans G1.out.go G2.out) G3.out) G4.out.go) G5.out) G6.out) P7.out.go) FF.out.go, rfl⟩

end Go.Proofs.Ytecaolkbllbokaa.TG

namespace Go.Proofs.Ytecaolkbllbokaa.TG
open Go.RowKit Go.Great
set_option linter.unusedSimpArgs false
set_option linter.unusedVariables false

theorem row_kept {w w' : World} {b n : Nat} {t : TypeId} {f : Nat → Value} {row : Option Nat} (h : w.rowIs b t n f) (g : w.grownBy w' row) (hr : row ≠ some b) : w'.rowIs b t n f :=
  h.of_block (g.block b h.lt (fun e => hr e.symm))

theorem blk_moved {w w' : World} {b : Nat} {o : Obj} {row : Option Nat} (h : w.heap[b]? = some o) (g : w.grownBy w' row) (hr : row ≠ some b) : w'.heap[b]? = some o := by
  rw [g.block b (Array.getElem?_eq_some_iff.1 h).1 (fun e => hr e.symm)]; exact h
theorem made_row (w : World) (z : Array Value) (n : Nat) (t : TypeId) : (w.alloc (.cells (madeCells z n) t)).rowIs w.heap.size t n (fun i => z[i % z.size]!) :=
  ⟨_, heap_alloc_new w _, size_madeCells _ _, fun i hi => by simp [madeCells, hi]⟩

theorem wpList_make_at {P : Program} {w : World} {ops : Array Oper} {rest : List Oper} {o : Oper} {a : Act} {Q : Exit → Act → World → Prop}
    (hg : o.guard = none) (l c : Operand) (t : TypeId) (hop : o.op = Op.makeSlice t l c)
    (e : TypeId) (i : TypeInfo) (z : Value) (size bytes : Nat) (h1 : P.underlying t = some (.slice e)) (h2 : P.info? e = some i) (h3 : i.zero = some z) (h4 : i.size = size) (h5 : i.bytes = bytes)
    (n N : Nat) (hN : N = n * size) (L : Int) (hl : a.eval l = .int .i64 L) (hc : a.eval c = .int .i64 L) (hL : L = (n : Int)) (b2 : bytes * n ≤ 281474976710656) (b3 : n ≤ 281474976710656)
    (hK : ∀ w', w'.rowIs w.heap.size e N (fun j => z.cells[j % z.cells.size]!) → w.grownBy w' none → w.heap.size < w'.heap.size → wpList P ops Q rest (a.put o.dst (.slice (some ⟨w.heap.size, 0, none⟩) n n)) w') :
    wpList P ops Q (o :: rest) a w := by
  refine wpList_plain hg fun K hK' => ?_
  subst hL
  subst hN
  have hb' : (i.bytes : Int) * (n : Int) ≤ 281474976710656 := by
    have h : ((i.bytes * n : Nat) : Int) ≤ 281474976710656 := by rw [h5]; omega
    rwa [Int.natCast_mul] at h
  have hrun := run_make (P := P) w t e i z h1 h2 h3 .i64 .i64 n n (by omega) (Int.le_refl _) hb' (by omega)
  simp only [Int.toNat_natCast, h4] at hrun
  unfold Oper.wp
  simp [execOp, hop, hl, hc, hrun, Result.andThen]
  exact hK' _ _ (hK _ (made_row w z.cells (n * size) e) (World.grownBy_alloc w _ none) (by simp))

theorem run_copy_at {P : Program} (w : World) (dT sT ty elem : TypeId) (i : TypeInfo) (size g dLen dCap sLen sCap : Nat) (sp : Option Addr) (cur : Array Value) (t : TypeId) (cs : List Value)
    (hu : P.underlying dT = some (.slice elem)) (hi : P.info? elem = some i) (hs : i.size = size) (hg : w.heap[g]? = some (.cells cur t (0, 0))) (hle : sLen ≤ dLen) (hn : cs.length = sLen * size)
    (hsrc : 0 < cs.length → ∃ ad, sp = some ad ∧ ∀ j v, cs[j]? = some v → w.cell? (ad.add j) = some v) (hfit : cs.length ≤ cur.size) (h1 : ∀ v ∈ cs, v.oneCell' = true) :
    (Builtin.copy_ #[dT, sT] ty #[.slice (some ⟨g, 0, none⟩) dLen dCap, .slice sp sLen sCap]).run P w = .ok (goInt sLen) (w.setRow g (cs ++ cur.toList.drop cs.length).toArray) := by
  have hm : Nat.min sLen dLen = sLen := Nat.min_eq_left hle
  have hst := run_storeCells_at P g 0 t cs 0 cur w hg (by simpa using hfit) h1
  simp only [Nat.add_zero, Nat.zero_add, List.take_zero, List.nil_append] at hst
  rcases Nat.eq_zero_or_pos cs.length with h0 | h0
  · have hcs : cs = [] := List.length_eq_zero_iff.1 h0
    subst hcs
    have hz : sLen * size = 0 := by simpa using hn.symm
    have hl : ∀ (x : Addr), (loadCells x 0).run P w = .ok #[] w := fun x => by simpa using run_loadCells_list (P := P) w x [] (by simp)
    have hself := setRow_self w g cur t (0, 0) hg
    cases sp <;> simp [Builtin.copy_, run_underlying hu, Builtin.lenOf, Builtin.firstCells, sizeOf, typeInfo, hi, hs, hm, hz, hl, storeCells, hself]
  · obtain ⟨ad, rfl, hc⟩ := hsrc h0
    have hl := run_loadCells_list (P := P) w ad cs hc
    simp [Builtin.copy_, run_underlying hu, Builtin.lenOf, Builtin.firstCells, sizeOf, typeInfo, hi, hs, hm, ← hn, hl, hst]

theorem wpList_copy_at {P : Program} {w : World} {ops : Array Oper} {rest : List Oper} {o : Oper} {a : Act} {Q : Exit → Act → World → Prop} (hgd : o.guard = none) (d s : Operand) (dT sT : TypeId)
    (ho : o.op = .call { callee := .builtin .copy, args := #[d, s], argTypes := #[dT, sT] }) (elem : TypeId) (i : TypeInfo) (size : Nat) (hu : P.underlying dT = some (.slice elem)) (hi : P.info? elem = some i) (hs : i.size = size)
    (g dLen dCap sLen sCap : Nat) (sp : Option Addr) (hd : a.eval d = .slice (some ⟨g, 0, none⟩) dLen dCap) (hsv : a.eval s = .slice sp sLen sCap) (t : TypeId) (N : Nat) (f : Nat → Value) (hg : w.rowIs g t N f) (hle : sLen ≤ dLen) (cs : List Value) (hn : cs.length = sLen * size)
    (hsrc : 0 < cs.length → ∃ ad, sp = some ad ∧ ∀ j v, cs[j]? = some v → w.cell? (ad.add j) = some v) (hfit : cs.length ≤ N) (h1 : ∀ v ∈ cs, v.oneCell' = true)
    (h : ∀ w', w'.rowIs g t N (fun j => if j < cs.length then cs.getD j undef else f j) → w.grownBy w' (some g) → wpList P ops Q rest (a.put o.dst (goInt sLen)) w') :
    wpList P ops Q (o :: rest) a w := by
  refine wpList_plain hgd fun K hK => ?_
  obtain ⟨cur, hcur, hN, hf⟩ := hg
  have hrun := run_copy_at (P := P) w dT sT o.type elem i size g dLen dCap sLen sCap sp cur t cs hu hi hs hcur hle hn hsrc (by omega) h1
  unfold Oper.wp
  simp [execOp, ho, resolve, invoke, builtin, hd, hsv, hrun, Result.andThen]
  refine hK _ _ (h _ ⟨_, setRow_heap w g cur _ t _ hcur, by simp; omega, fun j hj => ?_⟩ ⟨rfl, rfl, rfl, by simp [World.setRow], fun k hk hne => setRow_other w g k _ (fun e => hne (by rw [e]))⟩)
  show _ = some (if j < cs.length then cs.getD j undef else f j)
  by_cases hj2 : j < cs.length
  · rw [if_pos hj2]
    simp [List.getElem?_append_left hj2, List.getD_eq_getElem?_getD, List.getElem?_eq_getElem hj2]
  · rw [if_neg hj2]
    have := hf j hj
    have hsz : cur.toList[j]? = some (f j) := by simpa using this
    simp only [List.getElem?_toArray]
    rw [List.getElem?_append_right (by omega), List.getElem?_drop]
    rw [show cs.length + (j - cs.length) = j by omega]
    exact hsz

/-- What lies behind bytes that are lent. -/
def lendB (d : List Int) (i : Nat) : Value := if i < d.length then .int .u8 (d.getD i 0) else .int .u8 169

theorem byte_info2 : (Try.prog.info? 5).map (fun i => (i.zero, i.size, i.bytes)) = some (some (.int .u8 0), 1, 1) := by kernel_rfl
theorem byte_und2 : Try.prog.underlying 29 = some (.slice 5) := by kernel_rfl
theorem byte_ones (d : List Int) : ∀ v ∈ d.map (Value.int .u8), v.oneCell' = true := by
  intro v hv; simp at hv; obtain ⟨x, _, rfl⟩ := hv; rfl

theorem addr_plus (b o j : Nat) : (⟨b, o, none⟩ : Addr).add j = ⟨b, o + j, none⟩ := by unfold Addr.add; split <;> simp_all
theorem bytes_src {w : World} {B : Nat} {pd : Option Addr} {d : List Int} (h : BytesB w B pd d) : 0 < (d.map (Value.int .u8)).length → ∃ ad, pd = some ad ∧ ∀ j v, (d.map (Value.int .u8))[j]? = some v → w.cell? (ad.add j) = some v := by
  intro h0
  obtain ⟨b, o, e, hb, hc⟩ := h (by simpa using h0)
  refine ⟨_, e, fun j v hj => ?_⟩
  simp only [List.getElem?_map, Option.map_eq_some_iff] at hj
  obtain ⟨x, hx, rfl⟩ := hj
  obtain ⟨hl, rfl⟩ := List.getElem?_eq_some_iff.1 hx
  rw [addr_plus, hc j hl]
  simp [List.getD_eq_getElem?_getD, List.getElem?_eq_getElem hl]

/-- A row of lent bytes, as far as it is marked. -/
def lendTo (d : List Int) (q i : Nat) : Value := if i < d.length then .int .u8 (d.getD i 0) else if i < q then .int .u8 169 else .int .u8 0

theorem lend_zero (d : List Int) (i : Nat) : (if i < (d.map (Value.int .u8)).length then (d.map (Value.int .u8)).getD i undef else (Value.int .u8 0).cells[i % (Value.int .u8 0).cells.size]!) = lendTo d d.length i := by
  unfold lendTo
  simp only [List.length_map]
  by_cases h : i < d.length
  · rw [if_pos h, if_pos h]
    simp [List.getD_eq_getElem?_getD, List.getElem?_map, List.getElem?_eq_getElem h]
  · rw [if_neg h, if_neg h, if_neg h]
    simp [Value.cells, Nat.mod_one]
theorem lend_set (d : List Int) (q j : Nat) (hq : d.length ≤ q) : (if j = q then Value.int .u8 169 else lendTo d q j) = lendTo d (q + 1) j := by
  unfold lendTo
  by_cases h : j = q
  · subst h
    rw [if_pos rfl, if_neg (by omega), if_pos (by omega)]
  · rw [if_neg h]
    by_cases h1 : j < d.length
    · rw [if_pos h1, if_pos h1]
    · rw [if_neg h1, if_neg h1]
      by_cases h2 : j < q
      · rw [if_pos h2, if_pos (by omega)]
      · rw [if_neg h2, if_neg (by omega)]
theorem lend_end (d : List Int) (j : Nat) (h : j < d.length + 67) : lendTo d (d.length + 67) j = lendB d j := by
  unfold lendTo lendB
  by_cases h1 : j < d.length
  · rw [if_pos h1, if_pos h1]
  · rw [if_neg h1, if_neg h1, if_pos h]

theorem set_grow {w wr : World} {g i : Nat} {v : Value} (h : w.grownBy wr none) (hg : w.heap.size ≤ g) : w.grownBy (wr.setCell ⟨g, i, none⟩ v) none := grow_new h (grownBy_set wr g i v) hg

set_option maxRecDepth 100000 in
set_option maxHeartbeats 4000000 in
theorem lend_bytes (d : List Int) (pd : Option Addr) (cd B : Nat) (w : World) (hl : d.length ≤ 1000000000000) (hB : B ≤ w.heap.size) (hd : BytesB w B pd d) :
    Calls Try.prog 25 #[.slice pd d.length cd] w fun e w' => e = .returned (.slice (some ⟨w.heap.size, 0, none⟩) d.length (d.length + 67)) ∧ w'.rowIs w.heap.size 5 (d.length + 67) (lendB d) ∧ w.grownBy w' none ∧ w.heap.size < w'.heap.size := by
  obtain ⟨bi, bi0, bi1, bi2, bi3⟩ := info_parts byte_info2
  have HD := Lib.hid hd
  have hli : (d.length : Int) ≤ 1000000000000 := by omega
  clear hd
  go_enter Try.func25, Try.ntmps25
  go_wp2_with (first
    | (at_make; refine wpList_make_at rfl _ _ 29 rfl 5 bi (.int .u8 0) 1 1 byte_und2 bi0 bi1 bi2 bi3 (d.length + 67) (d.length + 67) (by simp) _ rfl rfl (by omega) (by omega) (by omega) ?_; intro w1 r1 g1 l1; have R1 := Lib.hid r1; have G1 := Lib.hid g1; clear r1 g1)
    | (refine wpList_copy_at rfl _ _ _ _ rfl 5 bi 1 byte_und2 bi0 bi2 w.heap.size (d.length + 67) (d.length + 67) d.length cd pd rfl rfl 5 _ _ R1.out (by omega) (d.map (Value.int .u8)) (by simp) (bytes_src (bytesB_kept HD.out G1.out (by simp))) (by simp) (byte_ones d) ?_; intro w2 r2 g2; have R2 := Lib.hid (r2.congr fun i _ => lend_zero d i); have G2 := Lib.hid (grow_new G1.out g2 (Nat.le_refl _)); clear r2 g2 l1))
  go_loopw [4] (fun i wr => ∃ q : Nat, i = .int .i64 q ∧ d.length ≤ q ∧ q ≤ d.length + 67 ∧ wr.rowIs w.heap.size 5 (d.length + 67) (lendTo d q) ∧ w.grownBy wr none) (fun i _ => d.length + 67 - (intOf i).toNat)
  case atStart => exact ⟨d.length, rfl, Nat.le_refl _, by omega, R2.out, G2.out⟩
  case round =>
    obtain ⟨q, rfl, hq1, hq2, hr, hg⟩ := hrel
    have HR := Lib.hid hr
    have HG := Lib.hid hg
    by_cases hlt : (q : Int) < (d.length : Int) + 67
    · have c0 := hr.cell (i := q) (by omega)
      have z0 := hr.frozen q
      have l0 := hr.lt
      clear hr hg
      go_wp2
      go_roundw
      case rel => exact ⟨q + 1, by go_num, by omega, by omega, (HR.out.set q _).congr fun j _ => lend_set d q j hq1, set_grow HG.out (Nat.le_refl _)⟩
      case measure => simp [intOf]; omega
    · have hqe : q = d.length + 67 := by omega
      subst hqe
      clear hr hg
      go_wp2
      go_ret
      exact ⟨rfl, HR.out.congr fun j hj => lend_end d j hj, HG.out, HR.out.lt⟩

end Go.Proofs.Ytecaolkbllbokaa.TG

namespace Go.Proofs.Ytecaolkbllbokaa.TG
open Go.RowKit Go.Great
set_option linter.unusedSimpArgs false
set_option linter.unusedVariables false

abbrev markS : ByteArray := { data := #[109, 97, 114, 107] }
def lendS (ls : List ByteArray) (i : Nat) : Value := if i < ls.length then .string (ls.getD i markS) else .string markS
def lendSto (ls : List ByteArray) (q i : Nat) : Value := if i < q then lendS ls i else .string ⟨#[]⟩

def parts3 : List (Int × Int × Int) → List Value
  | [] => []
  | x :: r => .int .i64 x.1 :: .int .i64 x.2.1 :: .int .i64 x.2.2 :: parts3 r
theorem parts3_length : ∀ (ps : List (Int × Int × Int)), (parts3 ps).length = ps.length * 3
  | [] => rfl
  | x :: r => by simp [parts3, parts3_length r]; omega
theorem parts3_get : ∀ (ps : List (Int × Int × Int)) (j : Nat) (k n kc : Int), ps[j]? = some (k, n, kc) → (parts3 ps)[j * 3]? = some (.int .i64 k) ∧ (parts3 ps)[j * 3 + 1]? = some (.int .i64 n) ∧ (parts3 ps)[j * 3 + 2]? = some (.int .i64 kc)
  | [], j, k, n, kc, h => by simp at h
  | x :: r, 0, k, n, kc, h => by simp at h; subst h; simp [parts3]
  | x :: r, j + 1, k, n, kc, h => by
    obtain ⟨h1, h2, h3⟩ := parts3_get r j k n kc (by simpa using h)
    have e1 : (j + 1) * 3 = j * 3 + 1 + 1 + 1 := by omega
    rw [e1]
    simp only [parts3]
    exact ⟨by simpa using h1, by simpa using h2, by simpa using h3⟩
def markP (c : Nat) : Value := if c % 3 = 0 then .int .i64 (-9) else if c % 3 = 1 then .int .i64 (c / 3 : Nat) else .int .i64 0
def lendP (ps : List (Int × Int × Int)) (c : Nat) : Value := if c < ps.length * 3 then (parts3 ps).getD c undef else markP c
def lendPto (ps : List (Int × Int × Int)) (q c : Nat) : Value := if c < q * 3 then lendP ps c else .int .i64 0

theorem str_info3 : (Try.prog.info? 9).map (fun i => (i.zero, i.size, i.bytes)) = some (some (.string ⟨#[]⟩), 1, 16) := by kernel_rfl
theorem str_und3 : Try.prog.underlying 66 = some (.slice 9) := by kernel_rfl
theorem part_info3 : (Try.prog.info? 108).map (fun i => (i.zero, i.size, i.bytes)) = some (some (.agg #[.int .i64 0, .int .i64 0, .int .i64 0]), 3, 24) := by kernel_rfl
theorem part_und3 : Try.prog.underlying 67 = some (.slice 108) := by kernel_rfl

theorem lendS_zero (ls : List ByteArray) (i : Nat) : (Value.string ⟨#[]⟩).cells[i % (Value.string ⟨#[]⟩).cells.size]! = lendSto ls 0 i := by
  unfold lendSto; rw [if_neg (by omega)]; simp [Value.cells, Nat.mod_one]
theorem lendS_mark (ls : List ByteArray) (q j : Nat) (hq : ls.length ≤ q) : (if j = q then Value.string markS else lendSto ls q j) = lendSto ls (q + 1) j := by
  unfold lendSto lendS
  by_cases h : j = q
  · subst h; rw [if_pos rfl, if_pos (by omega), if_neg (by omega)]
  · rw [if_neg h]
    by_cases h2 : j < q
    · rw [if_pos h2, if_pos (show j < q + 1 by omega)]
    · rw [if_neg h2, if_neg (show ¬ j < q + 1 by omega)]
theorem lendS_set (ls : List ByteArray) (q j : Nat) (s : ByteArray) (hq : ls[q]? = some s) : (if j = q then Value.string s else if j = q then Value.string markS else lendSto ls q j) = lendSto ls (q + 1) j := by
  obtain ⟨hl, e⟩ := List.getElem?_eq_some_iff.1 hq
  unfold lendSto lendS
  by_cases h : j = q
  · subst h; rw [if_pos rfl, if_pos (by omega), if_pos hl]
    simp [List.getD_eq_getElem?_getD, hq]
  · rw [if_neg h, if_neg h]
    by_cases h2 : j < q
    · rw [if_pos h2, if_pos (show j < q + 1 by omega)]
    · rw [if_neg h2, if_neg (show ¬ j < q + 1 by omega)]
theorem lendP_zero (ps : List (Int × Int × Int)) (c : Nat) : (if c < (parts3 ps).length then (parts3 ps).getD c undef else (Value.agg #[.int .i64 0, .int .i64 0, .int .i64 0]).cells[c % (Value.agg #[.int .i64 0, .int .i64 0, .int .i64 0]).cells.size]!) = lendPto ps ps.length c := by
  unfold lendPto lendP
  rw [parts3_length]
  by_cases h : c < ps.length * 3
  · rw [if_pos h, if_pos h, if_pos h]
  · rw [if_neg h, if_neg h]
    show (#[Value.int .i64 0, .int .i64 0, .int .i64 0] : Array Value)[c % 3]! = _
    have : c % 3 = 0 ∨ c % 3 = 1 ∨ c % 3 = 2 := by omega
    rcases this with e | e | e <;> rw [e] <;> rfl
theorem lendP_set (ps : List (Int × Int × Int)) (q c : Nat) (hq : ps.length ≤ q) :
    (if c = q * 3 + 2 then Value.int .i64 0 else if c = q * 3 + 1 then Value.int .i64 q else if c = q * 3 then Value.int .i64 (-9) else lendPto ps q c) = lendPto ps (q + 1) c := by
  unfold lendPto
  by_cases h2 : c = q * 3 + 2
  · subst h2
    rw [if_pos rfl, if_pos (by omega)]
    unfold lendP markP
    rw [if_neg (by omega), if_neg (by omega), if_neg (by omega)]
  rw [if_neg h2]
  by_cases h1 : c = q * 3 + 1
  · subst h1
    rw [if_pos rfl, if_pos (by omega)]
    unfold lendP markP
    rw [if_neg (by omega), if_neg (by omega), if_pos (by omega)]
    congr 1; omega
  rw [if_neg h1]
  by_cases h0 : c = q * 3
  · subst h0
    rw [if_pos rfl, if_pos (by omega)]
    unfold lendP markP
    rw [if_neg (by omega), if_pos (by omega)]
  rw [if_neg h0]
  by_cases h3 : c < q * 3
  · rw [if_pos h3, if_pos (by omega)]
  · rw [if_neg h3, if_neg (by omega)]

theorem parts3_ones : ∀ (ps : List (Int × Int × Int)), ∀ v ∈ parts3 ps, v.oneCell' = true
  | [], v, h => by cases h
  | x :: r, v, h => by
    simp only [parts3, List.mem_cons] at h
    rcases h with rfl | rfl | rfl | h
    · rfl
    · rfl
    · rfl
    · exact parts3_ones r v h
theorem parts3_src {w : World} {B : Nat} {pp : Option Addr} {ps : List (Int × Int × Int)} (h : PartsB w B pp ps) : 0 < (parts3 ps).length → ∃ ad, pp = some ad ∧ ∀ j v, (parts3 ps)[j]? = some v → w.cell? (ad.add j) = some v := by
  intro h0
  rw [parts3_length] at h0
  obtain ⟨b, o, e, hb, hc⟩ := h (by omega)
  refine ⟨_, e, fun j v hj => ?_⟩
  have hl := (List.getElem?_eq_some_iff.1 hj).1
  rw [parts3_length] at hl
  obtain ⟨⟨k, n, kc⟩, hx⟩ : ∃ x, ps[j / 3]? = some x := ⟨_, List.getElem?_eq_getElem (by omega)⟩
  obtain ⟨g1, g2, g3⟩ := parts3_get ps (j / 3) k n kc hx
  obtain ⟨c1, c2, c3⟩ := hc (j / 3) k n kc hx
  rw [addr_plus]
  have : j % 3 = 0 ∨ j % 3 = 1 ∨ j % 3 = 2 := by omega
  rcases this with e | e | e
  · have ej : j = j / 3 * 3 := by omega
    rw [ej, g1] at hj; injection hj with hj; subst hj
    rw [ej]; exact c1
  · have ej : j = j / 3 * 3 + 1 := by omega
    rw [ej, g2] at hj; injection hj with hj; subst hj
    rw [ej, ← Nat.add_assoc]; exact c2
  · have ej : j = j / 3 * 3 + 2 := by omega
    rw [ej, g3] at hj; injection hj with hj; subst hj
    rw [ej, ← Nat.add_assoc]; exact c3

/-- A function's own box. -/
def BoxF (w : World) (b : Nat) (nm : ByteArray) (ar : Int) (vl vp : Value) : Prop := w.heap[b]? = some (.cells #[.string nm, .int .i64 ar, vl, vp] 69 (0, 0))
theorem boxF_kept {w w' : World} {b : Nat} {nm : ByteArray} {ar : Int} {vl vp : Value} {row : Option Nat} (h : BoxF w b nm ar vl vp) (g : w.grownBy w' row) (hr : row ≠ some b) : BoxF w' b nm ar vl vp := by
  unfold BoxF at *
  rw [g.block b ?_ (by intro e; exact hr e.symm)]
  · exact h
  · exact (Array.getElem?_eq_some_iff.1 h).1

/-- A function that is lent: its names in block bl, its parts in block bp. -/
structure LentF (w : World) (f : Fun) (bl bp : Nat) : Prop where
  rl : w.rowIs bl 9 (f.locals.length + 5) (lendS f.locals)
  rp : w.rowIs bp 108 ((f.parts.length + 67) * 3) (lendP f.parts)
def lentV (f : Fun) (bl bp : Nat) : List Value := [.string f.name, .int .i64 f.args, .slice (some ⟨bl, 0, none⟩) f.locals.length (f.locals.length + 5), .slice (some ⟨bp, 0, none⟩) f.parts.length (f.parts.length + 67)]

def LendFnPost (w : World) (f : Fun) (e : Ending) (w' : World) : Prop := ∃ bl bp, e = .returned (.agg #[.string f.name, .int .i64 f.args, .slice (some ⟨bl, 0, none⟩) f.locals.length (f.locals.length + 5), .slice (some ⟨bp, 0, none⟩) f.parts.length (f.parts.length + 67)]) ∧ LentF w' f bl bp ∧ w.grownBy w' none ∧ w.heap.size ≤ bl ∧ bl < bp ∧ bp < w'.heap.size

theorem results_cellL {fn : Func} {p : Tmp} {ty : TypeId} (h : fn.results = #[.cell p ty]) (tmps : Array Value) (P : Program) (w : World) :
    (results fn tmps).run P w = ((asAddr (tmps.getD p undef)).run P w).andThen fun a w₁ => (loadVar ty a).run P w₁ := by
  simp only [results, h]
  simp [Sem.run_bind, Result.andThen]

theorem fn_end {w wB wo wr : World} {f : Fun} {bl bp rb : Nat} (hrb : rb = w.heap.size + 1) (hbl : rb + 1 = bl) (hlp : bl < bp) (gb : w.grownBy wB none) (sb : wB.heap.size = bl) (h1 : wo.rowIs bl 9 (f.locals.length + 5) (lendSto f.locals (f.locals.length + 5))) (g1 : wB.grownBy wo none) (hp : bp = wo.heap.size)
    (h2 : wr.rowIs bp 108 ((f.parts.length + 67) * 3) (lendPto f.parts (f.parts.length + 67))) (g2 : wo.grownBy wr none) (a b c d : Value) {e : Ending} (he : e = .returned (.agg #[.string f.name, .int .i64 f.args, .slice (some ⟨bl, 0, none⟩) f.locals.length (f.locals.length + 5), .slice (some ⟨bp, 0, none⟩) f.parts.length (f.parts.length + 67)])) :
    LendFnPost w f e ((((wr.setCell ⟨rb, 0, none⟩ a).setCell ⟨rb, 1, none⟩ b).setCell ⟨rb, 2, none⟩ c).setCell ⟨rb, 3, none⟩ d).drew := by
  have hT : wr.grownBy ((((wr.setCell ⟨rb, 0, none⟩ a).setCell ⟨rb, 1, none⟩ b).setCell ⟨rb, 2, none⟩ c).setCell ⟨rb, 3, none⟩ d).drew (some rb) := grownBy_drew <| grownBy_trans (grownBy_trans (grownBy_trans (grownBy_set wr _ 0 _) (grownBy_set _ _ 1 _)) (grownBy_set _ _ 2 _)) (grownBy_set _ _ 3 _)
  refine ⟨bl, bp, he, ⟨?_, ?_⟩, ?_, by omega, hlp, ?_⟩
  · exact (row_kept (row_kept h1 g2 (by simp)) hT (by intro e; injection e with e; omega)).congr fun i hi => by unfold lendSto; rw [if_pos hi]
  · exact (row_kept h2 hT (by intro e; injection e with e; omega)).congr fun i hi => by unfold lendPto; rw [if_pos hi]
  · exact grow_new (grownBy_trans gb (grownBy_trans g1 g2)) hT (by omega)
  · exact Nat.lt_of_lt_of_le h2.lt hT.size

set_option maxRecDepth 100000 in
set_option maxHeartbeats 8000000 in
theorem lend_fn (f : Fun) (pl pp : Option Addr) (cl cp B : Nat) (w : World) (hl : f.locals.length ≤ 1000000000000) (hp : f.parts.length ≤ 1000000000000) (hB : B ≤ w.heap.size) (hs : StrsB w B pl f.locals) (hq : PartsB w B pp f.parts) :
    Calls Try.prog 26 #[.agg #[.string f.name, .int .i64 f.args, .slice pl f.locals.length cl, .slice pp f.parts.length cp]] w (LendFnPost w f) := by
  obtain ⟨si, si0, si1, si2, si3⟩ := info_parts str_info3
  obtain ⟨qi, qi0, qi1, qi2, qi3⟩ := info_parts part_info3
  have HS := Lib.hid hs
  have HQ := Lib.hid hq
  have HB := Lib.hid hB
  have hli : (f.locals.length : Int) ≤ 1000000000000 := by omega
  have hpi : (f.parts.length : Int) ≤ 1000000000000 := by omega
  clear hs hq hB
  go_enter Try.func26, Try.ntmps26
  go_wp2_with (at_make; refine wpList_make_at rfl _ _ 66 rfl 9 si (.string ⟨#[]⟩) 1 16 str_und3 si0 si1 si2 si3 (f.locals.length + 5) (f.locals.length + 5) (by simp) _ rfl rfl (by omega) (by omega) (by omega) ?_; intro w1 r1 g1 l1; simp only [World.size_alloc] at r1 l1; have R1 := Lib.hid (r1.congr fun i _ => lendS_zero f.locals i); have G1 := Lib.hid g1; clear r1 g1)
  have BX := Lib.hid (show BoxF ((w.alloc (.cells #[.string f.name, .int .i64 f.args, .slice pl f.locals.length cl, .slice pp f.parts.length cp] 69)).alloc (.cells #[.string ⟨#[]⟩, .int .i64 0, .slice none 0 0, .slice none 0 0] 69)) w.heap.size f.name f.args (.slice pl f.locals.length cl) (.slice pp f.parts.length cp) from boxF_kept (heap_alloc_new w _) (World.grownBy_alloc _ _ none) (by simp))
  have RB := Lib.hid (show ((w.alloc (.cells #[.string f.name, .int .i64 f.args, .slice pl f.locals.length cl, .slice pp f.parts.length cp] 69)).alloc (.cells #[.string ⟨#[]⟩, .int .i64 0, .slice none 0 0, .slice none 0 0] 69)).heap[w.heap.size + 1]? = some (.cells #[.string ⟨#[]⟩, .int .i64 0, .slice none 0 0, .slice none 0 0] 69 (0, 0)) from by have h := heap_alloc_new (w.alloc (.cells #[.string f.name, .int .i64 f.args, .slice pl f.locals.length cl, .slice pp f.parts.length cp] 69)) (.cells #[.string ⟨#[]⟩, .int .i64 0, .slice none 0 0, .slice none 0 0] 69); rw [World.size_alloc] at h; exact h)
  have GB := Lib.hid (show w.grownBy ((w.alloc (.cells #[.string f.name, .int .i64 f.args, .slice pl f.locals.length cl, .slice pp f.parts.length cp] 69)).alloc (.cells #[.string ⟨#[]⟩, .int .i64 0, .slice none 0 0, .slice none 0 0] 69)) none from grownBy_trans (World.grownBy_alloc w _ none) (World.grownBy_alloc _ _ none))
  have SB := Lib.hid (show ((w.alloc (.cells #[.string f.name, .int .i64 f.args, .slice pl f.locals.length cl, .slice pp f.parts.length cp] 69)).alloc (.cells #[.string ⟨#[]⟩, .int .i64 0, .slice none 0 0, .slice none 0 0] 69)).heap.size = w.heap.size + 1 + 1 from by rw [World.size_alloc, World.size_alloc])
  generalize (w.alloc (.cells #[.string f.name, .int .i64 f.args, .slice pl f.locals.length cl, .slice pp f.parts.length cp] 69)).alloc (.cells #[.string ⟨#[]⟩, .int .i64 0, .slice none 0 0, .slice none 0 0] 69) = wB at *
  generalize hbl : w.heap.size + 1 + 1 = bl at *
  have HBL := Lib.hid hbl
  clear hbl l1
  go_loopw [4] (fun i wr => ∃ q : Nat, i = .int .i64 q ∧ q ≤ f.locals.length + 5 ∧ wr.rowIs bl 9 (f.locals.length + 5) (lendSto f.locals q) ∧ wB.grownBy wr none) (fun i _ => f.locals.length + 5 - (intOf i).toNat)
  case atStart => exact ⟨0, rfl, by omega, R1.out, G1.out⟩
  case round =>
    clear R1 G1
    obtain ⟨q, rfl, hq, hr, hg⟩ := hrel
    have HR := Lib.hid hr
    have HG := Lib.hid hg
    have hbx := boxF_kept BX.out hg (by simp)
    have x2 := cell_of_row wr w.heap.size 2 _ _ _ hbx
    have x3 := cell_of_row wr w.heap.size 3 _ _ _ hbx
    have xl := (Array.getElem?_eq_some_iff.1 hbx).1
    have nbl : ¬ bl = w.heap.size := by have := HBL.out; omega
    have nbl2 : ¬ w.heap.size = bl := fun e => nbl e.symm
    by_cases hlt : (q : Int) < (f.locals.length : Int) + 5
    · have c0 := hr.cell (i := q) (by omega)
      have z0 := hr.frozen q
      have l0 := hr.lt
      by_cases hlt2 : (q : Int) < (f.locals.length : Int)
      · obtain ⟨bs, os, rfl, hbs, hcs⟩ := HS.out (by omega)
        have s0 := hg.cell (GB.out.cell (hcs q (by omega)) (by simp)) (by simp)
        have nbs : ¬ bs = bl := by have := HBL.out; have := HB.out; omega
        have nbs2 : ¬ bl = bs := fun e => nbs e.symm
        have sl := World.block_lt_of_cell? _ _ s0
        clear hr hg hbx hcs hbs
        go_wp2
        go_roundw
        case rel => exact ⟨q + 1, by go_num, by omega, ((HR.out.set q _).set q _).congr fun j _ => lendS_set f.locals q j _ (List.getElem?_eq_getElem (by omega)), grow_new (grow_new HG.out (grownBy_set wr bl q _) (by have := SB.out; omega)) (grownBy_set _ bl q _) (by have := SB.out; omega)⟩
        case measure => simp [intOf]; omega
      · clear hr hg hbx
        go_wp2
        go_roundw
        case rel => exact ⟨q + 1, by go_num, by omega, (HR.out.set q _).congr fun j _ => lendS_mark f.locals q j (by omega), grow_new HG.out (grownBy_set wr bl q _) (by have := SB.out; omega)⟩
        case measure => simp [intOf]; omega
    · have hqe : q = f.locals.length + 5 := by omega
      subst hqe
      clear hr hg hbx
      obtain ⟨wo, hwo⟩ : ∃ wo, wo = wr := ⟨_, rfl⟩
      subst hwo
      go_wp2_with (first
        | (at_make; refine wpList_make_at rfl _ _ 67 rfl 108 qi (.agg #[.int .i64 0, .int .i64 0, .int .i64 0]) 3 24 part_und3 qi0 qi1 qi2 qi3 (f.parts.length + 67) ((f.parts.length + 67) * 3) rfl _ rfl rfl (by omega) (by omega) (by omega) ?_; intro w1 r1 g1 l1; have R1 := Lib.hid r1; have G1 := Lib.hid g1; have hbx := boxF_kept (boxF_kept BX.out HG.out (by simp)) g1 (by simp); have x2 := cell_of_row w1 w.heap.size 2 _ _ _ hbx; have x3 := cell_of_row w1 w.heap.size 3 _ _ _ hbx; have xl := (Array.getElem?_eq_some_iff.1 hbx).1; clear r1 g1 hbx)
        | (refine wpList_copy_at rfl _ _ _ _ rfl 108 qi 3 part_und3 qi0 qi2 wo.heap.size (f.parts.length + 67) (f.parts.length + 67) f.parts.length cp pp rfl rfl 108 _ _ R1.out (by omega) (parts3 f.parts) (parts3_length _) (parts3_src (partsB_kept HQ.out (grownBy_trans GB.out (grownBy_trans HG.out G1.out)) (by simp))) (by rw [parts3_length]; omega) (parts3_ones _) ?_; intro w2 r2 g2; have R2 := Lib.hid (r2.congr fun i _ => lendP_zero f.parts i); have G2 := Lib.hid (grow_new G1.out g2 (Nat.le_refl _)); have hbx := boxF_kept (boxF_kept BX.out HG.out (by simp)) (grow_new G1.out g2 (Nat.le_refl _)) (by simp); have x3 := cell_of_row w2 w.heap.size 3 _ _ _ hbx; have xl := (Array.getElem?_eq_some_iff.1 hbx).1; clear r2 g2 hbx))
      have HLP := Lib.hid (show bl < wo.heap.size from HR.out.lt)
      generalize hbp : wo.heap.size = bp at *
      have HBP := Lib.hid hbp
      clear hbp
      go_loopw [6] (fun i wr => ∃ q : Nat, i = .int .i64 q ∧ f.parts.length ≤ q ∧ q ≤ f.parts.length + 67 ∧ wr.rowIs bp 108 ((f.parts.length + 67) * 3) (lendPto f.parts q) ∧ wo.grownBy wr none) (fun i _ => f.parts.length + 67 - (intOf i).toNat)
      case atStart => exact ⟨f.parts.length, rfl, Nat.le_refl _, by omega, R2.out, G2.out⟩
      case round =>
        clear R1 G1 R2 G2 x2 x3 xl
        obtain ⟨q, rfl, hq1, hq2, hr2, hg2⟩ := hrel
        have HR2 := Lib.hid hr2
        have HG2 := Lib.hid hg2
        by_cases hlt2 : (q : Int) < (f.parts.length : Int) + 67
        · have c0 := hr2.cell (i := q * 3) (by omega)
          have c1 := hr2.cell (i := q * 3 + 1) (by omega)
          have c2 := hr2.cell (i := q * 3 + 2) (by omega)
          have z0 := hr2.frozen (q * 3)
          have z1 := hr2.frozen (q * 3 + 1)
          have z2 := hr2.frozen (q * 3 + 2)
          have l0 := hr2.lt
          have hle : wo.heap.size ≤ bp := by have := HBP.out; omega
          have HLE := Lib.hid hle
          clear hr2 hg2 hle
          go_wp2
          go_roundw
          case rel => exact ⟨q + 1, by go_num, by omega, by omega, (((HR2.out.set (q * 3) _).set (q * 3 + 1) _).set (q * 3 + 2) _).congr fun j _ => lendP_set f.parts q j hq1, grow_new (grow_new (grow_new HG2.out (grownBy_set wr bp (q * 3) _) HLE.out) (grownBy_set _ bp (q * 3 + 1) _) HLE.out) (grownBy_set _ bp (q * 3 + 2) _) HLE.out⟩
          case measure => simp [intOf]; omega
        · have hqe : q = f.parts.length + 67 := by omega
          subst hqe
          have hGT := grownBy_trans HG.out hg2
          have hbx := boxF_kept BX.out hGT (by simp)
          have x0 := cell_of_row wr w.heap.size 0 _ _ _ hbx
          have x1 := cell_of_row wr w.heap.size 1 _ _ _ hbx
          have x2 := cell_of_row wr w.heap.size 2 _ _ _ hbx
          have x3 := cell_of_row wr w.heap.size 3 _ _ _ hbx
          have xl := (Array.getElem?_eq_some_iff.1 hbx).1
          have hrb := blk_moved RB.out hGT (by simp)
          have r0 := cell_of_row wr _ 0 _ _ _ hrb
          have r1 := cell_of_row wr _ 1 _ _ _ hrb
          have r2 := cell_of_row wr _ 2 _ _ _ hrb
          have r3 := cell_of_row wr _ 3 _ _ _ hrb
          have y0 := frozen_of_row wr _ 0 _ _ hrb
          have y1 := frozen_of_row wr _ 1 _ _ hrb
          have y2 := frozen_of_row wr _ 2 _ _ hrb
          have y3 := frozen_of_row wr _ 3 _ _ hrb
          have rl := (Array.getElem?_eq_some_iff.1 hrb).1
          clear hr2 hg2 hbx hrb hGT nbl nbl2
          generalize hrbb : w.heap.size + 1 = rb at *
          have HRB := Lib.hid hrbb
          have nrb : ¬ rb = w.heap.size := by omega
          have nrb2 : ¬ w.heap.size = rb := by omega
          clear hrbb
          go_wp2
          go_region
          go_wp2
          refine bodyPost_ret (v := .agg #[.string f.name, .int .i64 f.args, .slice (some ⟨bl, 0, none⟩) f.locals.length (f.locals.length + 5), .slice (some ⟨bp, 0, none⟩) f.parts.length (f.parts.length + 67)]) ?_ rfl ?_
          · rw [results_cellL rfl]
            go_simp
          · exact fn_end HRB.out.symm HBL.out HLP.out GB.out SB.out HR.out HG.out HBP.out.symm HR2.out HG2.out _ _ _ _ rfl

end Go.Proofs.Ytecaolkbllbokaa.TG

namespace Go.Proofs.Ytecaolkbllbokaa.TG
open Go.RowKit Go.Great
set_option linter.unusedSimpArgs false
set_option linter.unusedVariables false

/-- Texts that are lent: those of S are as they were lent. -/
structure LT (w : World) (T : Nat) (ts : List (ByteArray × List Int)) (gs : Nat → Nat) (F : Nat → Value) (S : Nat → Prop) : Prop where
  blk : w.rowIs T 65 ((ts.length + 5) * 2) F
  tx : ∀ j nm d, S j → ts[j]? = some (nm, d) → F (j * 2) = .string nm ∧ F (j * 2 + 1) = .slice (some ⟨gs j, 0, none⟩) d.length (d.length + 67) ∧ w.rowIs (gs j) 5 (d.length + 67) (lendB d)
  tm : ∀ j, S j → ts.length ≤ j → j < ts.length + 5 → F (j * 2) = .string markS ∧ F (j * 2 + 1) = .slice none 0 0
  lo : ∀ j, S j → j < ts.length → T < gs j
  inj : ∀ j j', S j → S j' → j < j' → j' < ts.length → gs j < gs j'

theorem lt_kept {w w' : World} {T : Nat} {ts : List (ByteArray × List Int)} {gs : Nat → Nat} {F : Nat → Value} {S : Nat → Prop} (h : LT w T ts gs F S) (g : w.grownBy w' none) : LT w' T ts gs F S :=
  ⟨row_kept h.blk g (by simp), fun j nm d hs hj => ⟨(h.tx j nm d hs hj).1, (h.tx j nm d hs hj).2.1, row_kept (h.tx j nm d hs hj).2.2 g (by simp)⟩, h.tm, h.lo, h.inj⟩

theorem lt_text {wr w' : World} {T q g : Nat} {ts : List (ByteArray × List Int)} {gs : Nat → Nat} {F F' : Nat → Value} {nm : ByteArray} {d : List Int} (h : LT wr T ts gs F (· < q)) (hq : ts[q]? = some (nm, d)) (hT : w'.rowIs T 65 ((ts.length + 5) * 2) F')
    (hF : ∀ c, c < q * 2 → F' c = F c) (hF0 : F' (q * 2) = .string nm) (hF1 : F' (q * 2 + 1) = .slice (some ⟨g, 0, none⟩) d.length (d.length + 67)) (hk : ∀ k, k < wr.heap.size → k ≠ T → w'.heap[k]? = wr.heap[k]?) (hg : w'.rowIs g 5 (d.length + 67) (lendB d)) (hgl : wr.heap.size ≤ g) :
    LT w' T ts (fun j => if j = q then g else gs j) F' (· < q + 1) := by
  have hTl := h.blk.lt
  have hql := (List.getElem?_eq_some_iff.1 hq).1
  refine ⟨hT, fun j nm' d' hs hj => ?_, fun j hs h1 h2 => ?_, fun j hs hj => ?_, fun j j' hs hs' hjj hj' => ?_⟩
  · by_cases e : j = q
    · subst e
      rw [hq] at hj; injection hj with hj; injection hj with e1 e2; subst e1; subst e2
      rw [if_pos rfl]
      exact ⟨hF0, hF1, hg⟩
    · rw [if_neg e]
      have hs2 : j < q := by omega
      obtain ⟨a1, a2, a3⟩ := h.tx j nm' d' hs2 hj
      refine ⟨by rw [hF _ (by omega)]; exact a1, by rw [hF _ (by omega)]; exact a2, a3.of_block (hk _ a3.lt ?_)⟩
      have := h.lo j hs2 (List.getElem?_eq_some_iff.1 hj).1
      omega
  · omega
  · by_cases e : j = q
    · rw [if_pos e]; omega
    · rw [if_neg e]; exact h.lo j (by omega) hj
  · rw [if_neg (by omega : ¬ j = q)]
    by_cases e : j' = q
    · rw [if_pos e]
      obtain ⟨⟨nm', d'⟩, hx⟩ : ∃ x, ts[j]? = some x := ⟨_, List.getElem?_eq_getElem (by omega)⟩
      have := (h.tx j nm' d' (by omega) hx).2.2.lt
      omega
    · rw [if_neg e]; exact h.inj j j' (by omega) (by omega) hjj hj'

theorem lt_mark {wr w' : World} {T q : Nat} {ts : List (ByteArray × List Int)} {gs : Nat → Nat} {F F' : Nat → Value} (h : LT wr T ts gs F (· < q)) (hq : ts.length ≤ q) (hT : w'.rowIs T 65 ((ts.length + 5) * 2) F')
    (hF : ∀ c, c < q * 2 → F' c = F c) (hF0 : F' (q * 2) = .string markS) (hF1 : F' (q * 2 + 1) = .slice none 0 0) (hk : ∀ k, k < wr.heap.size → k ≠ T → w'.heap[k]? = wr.heap[k]?) :
    LT w' T ts gs F' (· < q + 1) := by
  refine ⟨hT, fun j nm' d' hs hj => ?_, fun j hs h1 h2 => ?_, fun j hs hj => h.lo j (by omega) hj, fun j j' hs hs' hjj hj' => h.inj j j' (by omega) (by omega) hjj hj'⟩
  · have hjl := (List.getElem?_eq_some_iff.1 hj).1
    have hs2 : j < q := by omega
    obtain ⟨a1, a2, a3⟩ := h.tx j nm' d' hs2 hj
    refine ⟨by rw [hF _ (by omega)]; exact a1, by rw [hF _ (by omega)]; exact a2, a3.of_block (hk _ a3.lt ?_)⟩
    have := h.lo j hs2 hjl
    omega
  · by_cases e : j = q
    · subst e; exact ⟨hF0, hF1⟩
    · obtain ⟨a1, a2⟩ := h.tm j (by omega) h1 h2
      exact ⟨by rw [hF _ (by omega)]; exact a1, by rw [hF _ (by omega)]; exact a2⟩

/-- Functions that are lent. -/
structure LF (w : World) (Fb : Nat) (us : List Fun) (ls ps : Nat → Nat) (F : Nat → Value) (S : Nat → Prop) : Prop where
  blk : w.rowIs Fb 69 ((us.length + 5) * 4) F
  fx : ∀ j f, S j → us[j]? = some f → F (j * 4) = .string f.name ∧ F (j * 4 + 1) = .int .i64 f.args ∧ F (j * 4 + 2) = .slice (some ⟨ls j, 0, none⟩) f.locals.length (f.locals.length + 5) ∧ F (j * 4 + 3) = .slice (some ⟨ps j, 0, none⟩) f.parts.length (f.parts.length + 67) ∧ LentF w f (ls j) (ps j)
  fm : ∀ j, S j → us.length ≤ j → j < us.length + 5 → F (j * 4) = .string markS ∧ F (j * 4 + 1) = .int .i64 0 ∧ F (j * 4 + 2) = .slice none 0 0 ∧ F (j * 4 + 3) = .slice none 0 0
  lo : ∀ j, S j → j < us.length → Fb < ls j ∧ ls j < ps j
  inj : ∀ j j', S j → S j' → j < j' → j' < us.length → ps j < ls j'

theorem lentF_kept {w w' : World} {f : Fun} {bl bp : Nat} {row : Option Nat} (h : LentF w f bl bp) (g : w.grownBy w' row) (h1 : row ≠ some bl) (h2 : row ≠ some bp) : LentF w' f bl bp := ⟨row_kept h.rl g h1, row_kept h.rp g h2⟩

theorem lf_fun {wr w' : World} {Fb q gl gp : Nat} {us : List Fun} {ls ps : Nat → Nat} {F F' : Nat → Value} {f : Fun} (h : LF wr Fb us ls ps F (· < q)) (hq : us[q]? = some f) (hT : w'.rowIs Fb 69 ((us.length + 5) * 4) F')
    (hF : ∀ c, c < q * 4 → F' c = F c) (hF0 : F' (q * 4) = .string f.name) (hF1 : F' (q * 4 + 1) = .int .i64 f.args) (hF2 : F' (q * 4 + 2) = .slice (some ⟨gl, 0, none⟩) f.locals.length (f.locals.length + 5)) (hF3 : F' (q * 4 + 3) = .slice (some ⟨gp, 0, none⟩) f.parts.length (f.parts.length + 67))
    (hk : ∀ k, k < wr.heap.size → k ≠ Fb → w'.heap[k]? = wr.heap[k]?) (hg : LentF w' f gl gp) (hgl : wr.heap.size ≤ gl) (hlp : gl < gp) :
    LF w' Fb us (fun j => if j = q then gl else ls j) (fun j => if j = q then gp else ps j) F' (· < q + 1) := by
  have hTl := h.blk.lt
  have hql := (List.getElem?_eq_some_iff.1 hq).1
  refine ⟨hT, fun j f' hs hj => ?_, fun j hs h1 h2 => ?_, fun j hs hj => ?_, fun j j' hs hs' hjj hj' => ?_⟩
  · by_cases e : j = q
    · subst e
      rw [hq] at hj; injection hj with hj; subst hj
      rw [if_pos rfl, if_pos rfl]
      exact ⟨hF0, hF1, hF2, hF3, hg⟩
    · rw [if_neg e, if_neg e]
      have hs2 : j < q := by omega
      obtain ⟨a0, a1, a2, a3, a4⟩ := h.fx j f' hs2 hj
      obtain ⟨l1, l2⟩ := h.lo j hs2 (List.getElem?_eq_some_iff.1 hj).1
      exact ⟨by rw [hF _ (by omega)]; exact a0, by rw [hF _ (by omega)]; exact a1, by rw [hF _ (by omega)]; exact a2, by rw [hF _ (by omega)]; exact a3, a4.rl.of_block (hk _ a4.rl.lt (by omega)), a4.rp.of_block (hk _ a4.rp.lt (by omega))⟩
  · omega
  · by_cases e : j = q
    · rw [if_pos e, if_pos e]; omega
    · rw [if_neg e, if_neg e]; exact h.lo j (by omega) hj
  · rw [if_neg (by omega : ¬ j = q)]
    by_cases e : j' = q
    · rw [if_pos e]
      obtain ⟨f', hx⟩ : ∃ x, us[j]? = some x := ⟨_, List.getElem?_eq_getElem (by omega)⟩
      have := (h.fx j f' (by omega) hx).2.2.2.2.rp.lt
      omega
    · rw [if_neg e]; exact h.inj j j' (by omega) (by omega) hjj hj'

theorem lf_mark {wr w' : World} {Fb q : Nat} {us : List Fun} {ls ps : Nat → Nat} {F F' : Nat → Value} (h : LF wr Fb us ls ps F (· < q)) (hq : us.length ≤ q) (hT : w'.rowIs Fb 69 ((us.length + 5) * 4) F')
    (hF : ∀ c, c < q * 4 → F' c = F c) (hF0 : F' (q * 4) = .string markS) (hF1 : F' (q * 4 + 1) = .int .i64 0) (hF2 : F' (q * 4 + 2) = .slice none 0 0) (hF3 : F' (q * 4 + 3) = .slice none 0 0) (hk : ∀ k, k < wr.heap.size → k ≠ Fb → w'.heap[k]? = wr.heap[k]?) :
    LF w' Fb us ls ps F' (· < q + 1) := by
  refine ⟨hT, fun j f' hs hj => ?_, fun j hs h1 h2 => ?_, fun j hs hj => h.lo j (by omega) hj, fun j j' hs hs' hjj hj' => h.inj j j' (by omega) (by omega) hjj hj'⟩
  · have hjl := (List.getElem?_eq_some_iff.1 hj).1
    have hs2 : j < q := by omega
    obtain ⟨a0, a1, a2, a3, a4⟩ := h.fx j f' hs2 hj
    obtain ⟨l1, l2⟩ := h.lo j hs2 hjl
    exact ⟨by rw [hF _ (by omega)]; exact a0, by rw [hF _ (by omega)]; exact a1, by rw [hF _ (by omega)]; exact a2, by rw [hF _ (by omega)]; exact a3, a4.rl.of_block (hk _ a4.rl.lt (by omega)), a4.rp.of_block (hk _ a4.rp.lt (by omega))⟩
  · by_cases e : j = q
    · subst e; exact ⟨hF0, hF1, hF2, hF3⟩
    · obtain ⟨a0, a1, a2, a3⟩ := h.fm j (by omega) h1 h2
      exact ⟨by rw [hF _ (by omega)]; exact a0, by rw [hF _ (by omega)]; exact a1, by rw [hF _ (by omega)]; exact a2, by rw [hF _ (by omega)]; exact a3⟩

theorem lf_kept {w w' : World} {Fb : Nat} {us : List Fun} {ls ps : Nat → Nat} {F : Nat → Value} {S : Nat → Prop} (h : LF w Fb us ls ps F S) (g : w.grownBy w' none) : LF w' Fb us ls ps F S :=
  ⟨row_kept h.blk g (by simp), fun j f hs hj => by
    obtain ⟨a0, a1, a2, a3, a4⟩ := h.fx j f hs hj
    exact ⟨a0, a1, a2, a3, lentF_kept a4 g (by simp) (by simp)⟩, h.fm, h.lo, h.inj⟩

/-- A whole unit that is lent: its blocks are lo and those behind it, ahead of hi. -/
structure LentU (w : World) (lo T Fb : Nat) (gs ls ps : Nat → Nat) (Ft Ff : Nat → Value) (u : Un) : Prop where
  t : LT w T u.texts gs Ft (fun _ => True)
  f : LF w Fb u.funcs ls ps Ff (fun _ => True)
  lt : lo ≤ T
  tf : T < Fb
  gf : ∀ j, j < u.texts.length → gs j < Fb

theorem text_info2 : (Try.prog.info? 65).map (fun i => (i.zero, i.size, i.bytes)) = some (some (.agg #[.string ⟨#[]⟩, .slice none 0 0]), 2, 40) := by kernel_rfl
theorem text_und2 : Try.prog.underlying 22 = some (.slice 65) := by kernel_rfl
theorem fn_info4 : (Try.prog.info? 69).map (fun i => (i.zero, i.size, i.bytes)) = some (some (.agg #[.string ⟨#[]⟩, .int .i64 0, .slice none 0 0, .slice none 0 0]), 4, 72) := by kernel_rfl
theorem fn_und4 : Try.prog.underlying 23 = some (.slice 69) := by kernel_rfl

end Go.Proofs.Ytecaolkbllbokaa.TG
