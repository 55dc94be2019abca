/-
  Walks of the closures of the compiler's ends that look at the texts, and of those that emit twice. Conditions: as each theorem states.
  Walks of the closures of the compiler's ends that look at a text's number, and of PTurn's. Conditions: as each theorem states.
  Walk of the closure of the compiler's ends that says where a text begins. Conditions: as each theorem states.
  Walk of the closure of the compiler's ends for PAt. Conditions: as each theorem states.
-/
import Derived.Test.YtecaolkbllbokaaMB09
import Derived.Deep.RegionHeld3
namespace Go.Proofs.Ytecaolkbllbokaa.TG
open Go.RowKit Go.Great
set_option linter.unusedSimpArgs false
set_option linter.unusedVariables false

set_option maxRecDepth 100000 in
set_option maxHeartbeats 2000000 in
theorem len_any (bc Bd B ct n : Nat) (pt : Option Addr) (ts : List (ByteArray × List Int)) (nm : ByteArray) (d : List Int) (hn : ts[n]? = some (nm, d)) (hts : ts.length ≤ 17592186044415) (w : World) (hb : w.cell? ⟨bc, 0, none⟩ = some (.pointer (some ⟨Bd, 0, none⟩))) (h0 : w.cell? ⟨Bd, 0, none⟩ = some (.slice pt ts.length ct)) (hT : TextsAt w B pt ts) :
    Calls Try.prog 72 #[.int .i64 n, .pointer (some ⟨bc, 0, none⟩)] w fun e w' => e = .returned (.int .i64 d.length) ∧ w' = w := by
  have hlt : n < ts.length := (List.getElem?_eq_some_iff.1 hn).1
  obtain ⟨bt, ot, rfl, hbt, hct⟩ := hT (by omega)
  obtain ⟨e0, pd, cd, e1, _⟩ := hct n nm d hn
  have hi : (n : Int) < (ts.length : Int) := by omega
  have hl1 := World.block_lt_of_cell? _ _ hb
  have hl2 := World.block_lt_of_cell? _ _ h0
  have hl3 := World.block_lt_of_cell? _ _ e1
  clear hT hct hn
  go_enter Try.func72, Try.ntmps72
  go_wp2
  go_ret
  exact ⟨rfl, rfl⟩

set_option maxRecDepth 100000 in
set_option maxHeartbeats 2000000 in
theorem not_any (E Bd : Nat) (vt vf : Value) (nm : ByteArray) (ar : Int) (vl vp vout vorg vlo vk : Value) (out : List (Int × Int)) (org : List Int) (at_ : Int) (w : World)
    (hC : CodeAt w E Bd vt vf nm ar vl vp vout vorg vlo vk out org) (ho : out.length ≤ 999999999999) (hg : org.length ≤ 999999999999) :
    Calls Try.prog 74 #[.iface 110 (.pointer (some ⟨Bd, 0, none⟩)), .int .i64 at_] w fun e w' => (∃ v, e = .returned v) ∧ Sp (EmitP Bd vout vorg) w w' ∧ ∃ vo vg, CodeAt w' E Bd vt vf nm ar vl vp vo vg vlo vk (out ++ [(3, 0)] ++ [(31, 0)]) (org ++ [at_] ++ [at_]) ∧ (∀ k, k < w.heap.size → EmitP Bd vo vg k → EmitP Bd vout vorg k) := by
  have hm := method_emit ⟨Bd, 0, none⟩
  have E1 := Lib.hid (emit_any E Bd vt vf nm ar vl vp vout vorg vlo vk out org at_ 3 0 w hC (by omega) (by omega))
  have L1 : (out ++ [((3 : Int), (0 : Int))]).length ≤ 1000000000000 := by simp; omega
  have L2 : (org ++ [at_]).length ≤ 1000000000000 := by simp; omega
  clear hC
  go_enter Try.func74, Try.ntmps74
  go_wp2_with (first
    | (go_at_call 44; refine E1.out.mono ?_; clear E1; intro e w1 hp; obtain ⟨rfl, hsp, vo, vg, hC1, hrow⟩ := hp; have S1 := Lib.hid hsp; have R1 := Lib.hid hrow; have E2 := Lib.hid (emit_any _ _ _ _ _ _ _ _ _ _ _ _ _ _ at_ 31 0 _ hC1 L1 L2); clear hsp hC1 hrow)
    | (go_at_call 44; refine E2.out.mono ?_; clear E2; intro e w2 hp; obtain ⟨rfl, hsp, hrest⟩ := hp; have S2 := Lib.hid hsp; have R2 := Lib.hid hrest; clear hsp hrest))
  go_ret
  obtain ⟨vo2, vg2, hC2, hrow2⟩ := R2.out
  exact ⟨⟨_, rfl⟩, sp_trans S1.out S2.out (fun k hk hp => R1.out k hk hp), vo2, vg2, hC2, fun k hk hp => R1.out k hk (hrow2 k (Nat.lt_of_lt_of_le hk S1.out.size) hp)⟩

end Go.Proofs.Ytecaolkbllbokaa.TG

namespace Go.Proofs.Ytecaolkbllbokaa.TG
open Go.RowKit Go.Great
set_option linter.unusedSimpArgs false
set_option linter.unusedVariables false

set_option maxRecDepth 100000 in
set_option maxHeartbeats 4000000 in
theorem with_len (E Bd b3 b4 bc bp op cp np at_ B ct nn : Nat) (pt : Option Addr) (ts : List (ByteArray × List Int)) (tn : ByteArray) (d : List Int) (hn0 : ts[nn]? = some (tn, d)) (hts : ts.length ≤ 17592186044415) (vf : Value) (nm : ByteArray) (ar : Int) (vl vout vorg vlo vk : Value) (out : List (Int × Int)) (org : List Int) (o : Int) (w : World)
    (hC : CodeAt w E Bd (.slice pt ts.length ct) vf nm ar vl (.slice (some ⟨bp, op, none⟩) np cp) vout vorg vlo vk out org) (hT : TextsAt w B pt ts) (ho : out.length ≤ 1000000000000) (hg : org.length ≤ 1000000000000) (hat : at_ < np) (hnp : np ≤ 17592186044415)
    (h3 : w.cell? ⟨b3, 0, none⟩ = some (.int .i64 o)) (h4 : w.cell? ⟨b4, 0, none⟩ = some (.func (.func 72) #[] #[.pointer (some ⟨bc, 0, none⟩)])) (hc : w.cell? ⟨bc, 0, none⟩ = some (.pointer (some ⟨Bd, 0, none⟩))) (hn : w.cell? ⟨bp, op + at_ * 3 + 1, none⟩ = some (.int .i64 nn))
    (hb : bp < w.heap.size) (hbc : bc < w.heap.size) (hb3 : b3 < w.heap.size) (hb4 : b4 < w.heap.size) :
    Calls Try.prog 68 #[.iface 110 (.pointer (some ⟨Bd, 0, none⟩)), .int .i64 at_, .pointer (some ⟨b3, 0, none⟩), .pointer (some ⟨b4, 0, none⟩), .pointer (some ⟨bc, 0, none⟩)] w (EmitPost w E Bd (.slice pt ts.length ct) vf nm ar vl (.slice (some ⟨bp, op, none⟩) np cp) vout vorg vlo vk out org at_ o d.length) := by
  have hm := method_emit ⟨Bd, 0, none⟩
  have hni := nil_emit ⟨Bd, 0, none⟩
  have EM := Lib.hid (emit_any E Bd (.slice pt ts.length ct) vf nm ar vl (.slice (some ⟨bp, op, none⟩) np cp) vout vorg vlo vk out org at_ o d.length w.drew (code_kept hC (grownBy_drew (grownBy_refl w none))) ho hg)
  have hd : w.cell? ⟨Bd, 5, none⟩ = some (.slice (some ⟨bp, op, none⟩) np cp) := code_cell hC 5
  have hd0 : w.cell? ⟨Bd, 0, none⟩ = some (.slice pt ts.length ct) := code_cell hC 0
  have LA := Lib.hid (len_any bc Bd B ct nn pt ts tn d hn0 hts w.drew hc hd0 (textsAt_kept hT (grownBy_drew (grownBy_refl w none)) (by simp)))
  have hBd : Bd < w.heap.size := Nat.lt_of_lt_of_le hC.lt hC.le
  have hai : (at_ : Int) < (np : Int) := by omega
  clear hC hT hd0 hn0
  go_enter Try.func68, Try.ntmps68
  go_wp2
  refine wp_region_still_tail 17 (by kernel_rfl) (by kernel_rfl) ?_
  simp only [List.take_succ_cons, List.take_zero, List.drop_succ_cons, List.drop_zero]
  repeat still_step
  still_call LA.out
  repeat still_step
  refine wpStill_nil ?_
  go_wp2_with (go_at_call 44; refine EM.out.mono ?_; intro e w1 hp; obtain ⟨rfl, hsp, hrest⟩ := hp; have SP := Lib.hid hsp; have RS := Lib.hid hrest; clear hsp hrest)
  go_ret
  exact ⟨rfl, sp_drew SP.out, RS.out⟩

set_option maxRecDepth 100000 in
set_option maxHeartbeats 4000000 in
theorem turn_any (E Bd b6 bc bp op cp np at_ : Nat) (vt vf : Value) (nm : ByteArray) (ar : Int) (vl vout vorg vlo vk : Value) (out : List (Int × Int)) (org : List Int) (n : Int) (w : World)
    (hC : CodeAt w E Bd vt vf nm ar vl (.slice (some ⟨bp, op, none⟩) np cp) vout vorg vlo vk out org) (ho : out.length ≤ 999999999999) (hg : org.length ≤ 999999999999) (hat : at_ < np) (hnp : np ≤ 17592186044415)
    (h6 : w.cell? ⟨b6, 0, none⟩ = some (.func (.func 70) #[] #[.pointer (some ⟨bc, 0, none⟩)])) (hb6 : Bd < b6 ∧ b6 < E) (hc : w.cell? ⟨bc, 0, none⟩ = some (.pointer (some ⟨Bd, 0, none⟩))) (hbc : Bd < bc ∧ bc < E) (hn : w.cell? ⟨bp, op + at_ * 3 + 1, none⟩ = some (.int .i64 n)) (hbp : bp < Bd) :
    Calls Try.prog 73 #[.iface 110 (.pointer (some ⟨Bd, 0, none⟩)), .int .i64 at_, .pointer (some ⟨b6, 0, none⟩)] w fun e w' => (∃ v, e = .returned v) ∧ Sp (EmitP Bd vout vorg) w w' ∧ ∃ vo vg, CodeAt w' E Bd vt vf nm ar vl (.slice (some ⟨bp, op, none⟩) np cp) vo vg vlo vk (out ++ [(6, 0)] ++ [(n, 0)]) (org ++ [(at_ : Int)] ++ [(at_ : Int)]) ∧ (∀ k, k < w.heap.size → EmitP Bd vo vg k → EmitP Bd vout vorg k) := by
  have hm := method_emit ⟨Bd, 0, none⟩
  have E1 := Lib.hid (emit_any E Bd vt vf nm ar vl _ vout vorg vlo vk out org at_ 6 0 w hC (by omega) (by omega))
  have L1 : (out ++ [((6 : Int), (0 : Int))]).length ≤ 1000000000000 := by simp; omega
  have L2 : (org ++ [(at_ : Int)]).length ≤ 1000000000000 := by simp; omega
  have CC := Lib.hid hC
  have hE1 : E ≤ w.heap.size := hC.le
  have HN := Lib.hid (fun (w1 : World) (vo vg : Value) (g : Sp (EmitP Bd vout vorg) w w1) (h : CodeAt w1 E Bd vt vf nm ar vl (.slice (some ⟨bp, op, none⟩) np cp) vo vg vlo vk (out ++ [(6, 0)]) (org ++ [(at_ : Int)])) =>
    named_any E Bd bc bp op cp np at_ vt vf nm ar vl vo vg vlo vk _ _ n w1 h L1 L2 hat hnp (by rw [heap_cell (sp_low hC g bc hbc.2 (by omega))]; exact hc) (by rw [heap_cell (sp_low hC g bp (by omega) (by omega))]; exact hn) (by have := g.size; omega) (by have := g.size; omega))
  clear hC
  go_enter Try.func73, Try.ntmps73
  go_wp2_with (first
    | (go_at_call 44; refine E1.out.mono ?_; clear E1; intro e w1 hp; obtain ⟨rfl, hsp, vo, vg, hC1, hrow⟩ := hp; have S1 := Lib.hid hsp; have R1 := Lib.hid hrow; have NA := Lib.hid (HN.out w1 vo vg hsp hC1); have x6 := (heap_cell (sp_low CC.out hsp b6 hb6.2 (Nat.ne_of_gt hb6.1)) 0).trans h6; have hz6 := Nat.lt_of_lt_of_le (Nat.lt_of_lt_of_le hb6.2 hE1) hsp.size; clear hsp hC1 hrow)
    | (go_at_call 70; refine NA.out.mono ?_; clear NA; intro e w2 hp; obtain ⟨rfl, hsp, hrest⟩ := hp; have S2 := Lib.hid hsp; have R2 := Lib.hid hrest; clear hsp hrest))
  go_ret
  obtain ⟨vo2, vg2, hC2, hrow2⟩ := R2.out
  exact ⟨⟨_, rfl⟩, sp_trans S1.out S2.out (fun k hk hp => R1.out k hk hp), vo2, vg2, hC2, fun k hk hp => R1.out k hk (hrow2 k (Nat.lt_of_lt_of_le hk S1.out.size) hp)⟩

end Go.Proofs.Ytecaolkbllbokaa.TG

namespace Go.Proofs.Ytecaolkbllbokaa.TG
open Go.RowKit Go.Great
set_option linter.unusedSimpArgs false
set_option linter.unusedVariables false

theorem textsAt_take {w : World} {B : Nat} {pt : Option Addr} {ts : List (ByteArray × List Int)} (h : TextsAt w B pt ts) (n : Nat) : TextsAt w B pt (ts.take n) := fun h0 => by
  obtain ⟨b, o, e, hb, hc⟩ := h (by simp only [List.length_take] at h0; omega)
  refine ⟨b, o, e, hb, fun i nm d hi => hc i nm d ?_⟩
  by_cases hin : i < n
  · rwa [List.getElem?_take_of_lt hin] at hi
  · rw [List.getElem?_eq_none (by simp only [List.length_take]; omega)] at hi; cases hi

theorem bytesTo_take (ts : List (ByteArray × List Int)) (n : Nat) : ∀ k, k ≤ n → bytesTo (ts.take n) k = bytesTo ts k
  | 0, _ => rfl
  | k + 1, h => by
    rw [bytesTo, bytesTo, bytesTo_take ts n k (by omega)]
    have : (ts.take n).getD k (ByteArray.empty, []) = ts.getD k (ByteArray.empty, []) := by simp [List.getD, List.getElem?_take_of_lt (show k < n by omega)]
    rw [this]

set_option maxRecDepth 100000 in
set_option maxHeartbeats 2000000 in
theorem at_any (bc Bd B ct n : Nat) (pt : Option Addr) (ts : List (ByteArray × List Int)) (hn : n < ts.length) (hts : ts.length ≤ 1024) (hct : ts.length ≤ ct) (hct2 : ct ≤ maxLen) (hwf : ∀ x ∈ ts, x.1.size ≤ maxLen ∧ x.2.length ≤ 17592186044415) (w : World) (hb : w.cell? ⟨bc, 0, none⟩ = some (.pointer (some ⟨Bd, 0, none⟩))) (h0 : w.cell? ⟨Bd, 0, none⟩ = some (.slice pt ts.length ct)) (hT : TextsAt w B pt ts) (hB : B ≤ w.heap.size) :
    Calls Try.prog 71 #[.int .i64 n, .pointer (some ⟨bc, 0, none⟩)] w fun e w' => e = .returned (.int .i64 (bytesTo ts n)) ∧ w.grownBy w' none := by
  have hlen : (ts.take n).length = n := by simp only [List.length_take]; omega
  have hsz := size_any (ts.take n) (by omega) (fun x hx => hwf x (List.mem_of_mem_take hx)) pt ct B w (textsAt_take hT n) hB
  rw [hlen, bytesTo_take ts n n (Nat.le_refl _)] at hsz
  have SZ := Lib.hid hsz
  obtain ⟨bt, ot, rfl, hbt, _⟩ := hT (by omega)
  have hl1 := World.block_lt_of_cell? _ _ hb
  have hl2 := World.block_lt_of_cell? _ _ h0
  unfold maxLen at hct2
  have hi : (n : Int) ≤ (ct : Int) := by omega
  clear hsz hlen hT hwf
  go_enter Try.func71, Try.ntmps71
  go_wp2_with (go_at_call 41; refine SZ.out.mono ?_; rintro e w1 ⟨rfl, hg⟩; have HG := Lib.hid hg; clear hg)
  all_goals (go_ret; exact ⟨rfl, HG.out⟩)

end Go.Proofs.Ytecaolkbllbokaa.TG

namespace Go.Proofs.Ytecaolkbllbokaa.TG
open Go.RowKit Go.Great
set_option linter.unusedSimpArgs false
set_option linter.unusedVariables false

/-- What stays readable while the texts ahead are counted, and behind the emit. -/
theorem keep_none {w w' : World} {b3 b4 bc Bd bp o1 : Nat} {x y z u v : Value} (g : w.grownBy w' none) (h1 : w.cell? ⟨b3, 0, none⟩ = some x) (h2 : w.cell? ⟨b4, 0, none⟩ = some y) (h3 : w.cell? ⟨bc, 0, none⟩ = some z) (h4 : w.cell? ⟨Bd, 5, none⟩ = some u) (h5 : w.cell? ⟨bp, o1, none⟩ = some v)
    (l1 : b3 < w.heap.size) (l2 : b4 < w.heap.size) (l3 : bc < w.heap.size) (l4 : Bd < w.heap.size) (l5 : bp < w.heap.size) :
    w'.cell? ⟨b3, 0, none⟩ = some x ∧ w'.cell? ⟨b4, 0, none⟩ = some y ∧ w'.cell? ⟨bc, 0, none⟩ = some z ∧ w'.cell? ⟨Bd, 5, none⟩ = some u ∧ w'.cell? ⟨bp, o1, none⟩ = some v ∧ b3 < w'.heap.size ∧ b4 < w'.heap.size ∧ bc < w'.heap.size ∧ Bd < w'.heap.size ∧ bp < w'.heap.size :=
  ⟨g.cell h1 (by simp), g.cell h2 (by simp), g.cell h3 (by simp), g.cell h4 (by simp), g.cell h5 (by simp), Nat.lt_of_lt_of_le l1 g.size, Nat.lt_of_lt_of_le l2 g.size, Nat.lt_of_lt_of_le l3 g.size, Nat.lt_of_lt_of_le l4 g.size, Nat.lt_of_lt_of_le l5 g.size⟩

theorem keep_emit {w w' : World} {E Bd b3 b4 bc bp op o1 np cp : Nat} {vt vf : Value} {nm : ByteArray} {ar : Int} {vl vout vorg vlo vk vo vg : Value} {out out' : List (Int × Int)} {org org' : List Int} {x y z v : Value}
    (hC : CodeAt w E Bd vt vf nm ar vl (.slice (some ⟨bp, op, none⟩) np cp) vout vorg vlo vk out org) (g : Sp (EmitP Bd vout vorg) w w') (hC' : CodeAt w' E Bd vt vf nm ar vl (.slice (some ⟨bp, op, none⟩) np cp) vo vg vlo vk out' org')
    (h1 : w.cell? ⟨b3, 0, none⟩ = some x) (h2 : w.cell? ⟨b4, 0, none⟩ = some y) (h3 : w.cell? ⟨bc, 0, none⟩ = some z) (h5 : w.cell? ⟨bp, o1, none⟩ = some v) (l1 : Bd < b3 ∧ b3 < E) (l2 : Bd < b4 ∧ b4 < E) (l3 : Bd < bc ∧ bc < E) (l5 : bp < Bd) :
    w'.cell? ⟨b3, 0, none⟩ = some x ∧ w'.cell? ⟨b4, 0, none⟩ = some y ∧ w'.cell? ⟨bc, 0, none⟩ = some z ∧ w'.cell? ⟨Bd, 5, none⟩ = some (.slice (some ⟨bp, op, none⟩) np cp) ∧ w'.cell? ⟨bp, o1, none⟩ = some v ∧ b3 < w'.heap.size ∧ b4 < w'.heap.size ∧ bc < w'.heap.size ∧ Bd < w'.heap.size ∧ bp < w'.heap.size := by
  have hlt := hC.lt
  have hle := hC'.le
  exact ⟨by rw [heap_cell (sp_low hC g b3 l1.2 (by omega))]; exact h1, by rw [heap_cell (sp_low hC g b4 l2.2 (by omega))]; exact h2, by rw [heap_cell (sp_low hC g bc l3.2 (by omega))]; exact h3, code_cell hC' 5, by rw [heap_cell (sp_low hC g bp (by omega) (by omega))]; exact h5, by omega, by omega, by omega, by omega, by omega⟩

set_option maxRecDepth 100000 in
set_option maxHeartbeats 4000000 in
theorem with_at (E Bd b3 b4 bc bp op cp np at_ B ct nn : Nat) (pt : Option Addr) (ts : List (ByteArray × List Int)) (hn0 : nn < ts.length) (hts : ts.length ≤ 1024) (hct : ts.length ≤ ct) (hct2 : ct ≤ maxLen) (hwf : ∀ x ∈ ts, x.1.size ≤ maxLen ∧ x.2.length ≤ 17592186044415) (vf : Value) (nm : ByteArray) (ar : Int) (vl vout vorg vlo vk : Value) (out : List (Int × Int)) (org : List Int) (o : Int) (w : World)
    (hC : CodeAt w E Bd (.slice pt ts.length ct) vf nm ar vl (.slice (some ⟨bp, op, none⟩) np cp) vout vorg vlo vk out org) (hT : TextsAt w B pt ts) (hB : B ≤ w.heap.size) (ho : out.length ≤ 1000000000000) (hg : org.length ≤ 1000000000000) (hat : at_ < np) (hnp : np ≤ 17592186044415)
    (h3 : w.cell? ⟨b3, 0, none⟩ = some (.int .i64 o)) (h4 : w.cell? ⟨b4, 0, none⟩ = some (.func (.func 71) #[] #[.pointer (some ⟨bc, 0, none⟩)])) (hc : w.cell? ⟨bc, 0, none⟩ = some (.pointer (some ⟨Bd, 0, none⟩))) (hn : w.cell? ⟨bp, op + at_ * 3 + 1, none⟩ = some (.int .i64 nn))
    (l3 : Bd < b3 ∧ b3 < E) (l4 : Bd < b4 ∧ b4 < E) (lc : Bd < bc ∧ bc < E) (lp : bp < Bd) :
    Calls Try.prog 68 #[.iface 110 (.pointer (some ⟨Bd, 0, none⟩)), .int .i64 at_, .pointer (some ⟨b3, 0, none⟩), .pointer (some ⟨b4, 0, none⟩), .pointer (some ⟨bc, 0, none⟩)] w (EmitPost w E Bd (.slice pt ts.length ct) vf nm ar vl (.slice (some ⟨bp, op, none⟩) np cp) vout vorg vlo vk out org at_ o (bytesTo ts nn)) := by
  have hm := method_emit ⟨Bd, 0, none⟩
  have hni := nil_emit ⟨Bd, 0, none⟩
  have EM := Lib.hid (fun (w' : World) (g : w.grownBy w' none) => emit_any E Bd (.slice pt ts.length ct) vf nm ar vl (.slice (some ⟨bp, op, none⟩) np cp) vout vorg vlo vk out org at_ o (bytesTo ts nn) w' (code_kept hC g) ho hg)
  have hd : w.cell? ⟨Bd, 5, none⟩ = some (.slice (some ⟨bp, op, none⟩) np cp) := code_cell hC 5
  have hd0 : w.cell? ⟨Bd, 0, none⟩ = some (.slice pt ts.length ct) := code_cell hC 0
  have AT := Lib.hid (at_any bc Bd B ct nn pt ts hn0 hts hct hct2 hwf w.drew hc hd0 (textsAt_kept hT (grownBy_drew (grownBy_refl w none)) (by simp)) hB)
  have hlt := hC.lt
  have hle := hC.le
  have q1 : b3 < w.heap.size := by omega
  have q2 : b4 < w.heap.size := by omega
  have q3 : bc < w.heap.size := by omega
  have q4 : Bd < w.heap.size := by omega
  have q5 : bp < w.heap.size := by omega
  have hai : (at_ : Int) < (np : Int) := by omega
  have CC := Lib.hid hC
  clear hC hT hd0 hwf
  go_enter Try.func68, Try.ntmps68
  go_wp2
  go_region_held3 (fun W' => W'.cell? ⟨b3, 0, none⟩ = some (.int .i64 o) ∧ W'.cell? ⟨b4, 0, none⟩ = some (.func (.func 71) #[] #[.pointer (some ⟨bc, 0, none⟩)]) ∧ W'.cell? ⟨bc, 0, none⟩ = some (.pointer (some ⟨Bd, 0, none⟩)) ∧ W'.cell? ⟨Bd, 5, none⟩ = some (.slice (some ⟨bp, op, none⟩) np cp) ∧ W'.cell? ⟨bp, op + at_ * 3 + 1, none⟩ = some (.int .i64 nn) ∧ b3 < W'.heap.size ∧ b4 < W'.heap.size ∧ bc < W'.heap.size ∧ Bd < W'.heap.size ∧ bp < W'.heap.size) (first | exact ⟨by assumption, by assumption, by assumption, by assumption, by assumption, by assumption, by assumption, by assumption, by assumption, by assumption⟩ | assumption) (first | (go_at_call 71; refine AT.out.mono ?_; rintro e w1 ⟨rfl, hg1⟩; have G1 := Lib.hid hg1; have K1 := keep_none (w := w) (grownBy_trans (grownBy_drew (grownBy_refl w none)) hg1) h3 h4 hc hd hn q1 q2 q3 q4 q5; have K1c := K1.1; clear hg1) | (go_at_call 44; refine (EM.out _ (grownBy_trans (grownBy_drew (grownBy_refl w none)) G1.out)).mono ?_; intro e w2 hp; obtain ⟨rfl, hsp, vo, vg, hC2, hrow⟩ := hp; have S2 := Lib.hid hsp; have C2 := Lib.hid hC2; have R2 := Lib.hid hrow; have K2 := keep_emit (code_kept CC.out (grownBy_trans (grownBy_drew (grownBy_refl w none)) G1.out)) hsp hC2 K1.1 K1.2.1 K1.2.2.1 K1.2.2.2.2.1 l3 l4 lc lp; clear hsp hC2 hrow))
  all_goals
    go_wp2
    go_ret
    exact ⟨rfl, sp_trans (sp_grown (grownBy_trans (grownBy_drew (grownBy_refl w none)) G1.out) (by simp)) S2.out (fun k _ h => h), vo, vg, C2.out, fun k hk hp => R2.out k (Nat.lt_of_lt_of_le hk G1.out.size) hp⟩

end Go.Proofs.Ytecaolkbllbokaa.TG
