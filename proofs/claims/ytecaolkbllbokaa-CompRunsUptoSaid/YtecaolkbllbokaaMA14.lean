/-
  The end of a law whose walk leaves new blocks alone (frozen or not): the given row's closing condition. Conditions: as each theorem states.
  A law's end, for parameters of whatever readable types, where the walk has left all that was there alone: the given row's post. Conditions: as each theorem states.
  Walks of the closures of the compiler's ends that look at the texts, and of those that emit twice. Conditions: as each theorem states.
  Walks of the closures of the compiler's ends that look at a text's number, and of PTurn's. Conditions: as each theorem states.
  Walk of the closure of the compiler's ends that says where a text begins. Conditions: as each theorem states.
-/
import Derived.Test.YtecaolkbllbokaaMA13
import Derived.ChangeSame
import Derived.ProofKit
import Derived.OpenShut
import Derived.Below
import Derived.RowKit3
import Derived.Deep.Frames
import Derived.Carry
import Derived.Test.YtecaolkbllbokaaMA12
namespace Go.Proofs.Ytecaolkbllbokaa.TG
open Go.RowKit Go.ChangeShapes Go.WideShapes
set_option linter.unusedSimpArgs false
set_option linter.unusedVariables false

theorem keptBut_grown {w w' : World} (h : w.grownBy w' none) (may : MemPlace → Prop) : w.keptBut w' may := by
  refine ⟨h.os, h.output, fun i hi => ?_⟩
  rw [h.block i hi (by simp)]
  cases w.heap[i]? with
  | none => rfl
  | some o =>
    cases o with
    | cells c t fr => exact ⟨rfl, rfl, rfl, fun _ _ => rfl⟩
    | map es ck => exact Or.inr ⟨rfl, rfl⟩
    | _ => rfl

theorem frozen_grown {w w' : World} (h : w.grownBy w' none) (a : Addr) (ha : a.block < w.heap.size) : w'.frozen? a = w.frozen? a := by
  unfold World.frozen?
  rw [h.block a.block ha (by simp)]

theorem post_of_grown {H : Type} {enc : TypeId × Value → H} {P : Program} {f : Func} {s : ChangeSpec} {apart fresh handsOn again : Bool} {W W' : World} {args : Array Value} {v : Value} {ds gs : List (DataW H)} {before pa pv : List MemPlace}
    (hW : DataW.Whole enc P f.params.toList s.vars apart W args.toList ds gs before)
    (hres : ∀ (b : Nat) (sp : Nat → Bool) (hd : Bool), DataW.TrodAll enc P W' b sp hd f.resultTypes.toList (v.resultList f.resultTypes.size) (s.fn H (ds ++ gs)).results [])
    (hargs : ∀ sp : Nat → Bool, (∀ p ∈ before, sp p.block = true) → DataW.TrodAll enc P W' 0 sp true f.params.toList args.toList (s.fn H (ds ++ gs)).args pa)
    (hvars : ∀ sp : Nat → Bool, (∀ p ∈ before, sp p.block = true) → DataW.TrodVars enc P W' sp s.vars (s.fn H (ds ++ gs)).vars pv)
    (hps : before = pa ++ pv) (hg : W.grownBy W' none)
    (hok : ∀ (j : Nat) (t : TypeId) (r : Value), f.resultTypes[j]? = some t → (v.resultList f.resultTypes.size)[j]? = some r → Value.okWide P W' .any 0 t r) :
    s.post enc P f apart fresh handsOn again W args v W' := by
  subst hps
  have low := hW.lt
  have hold : ∀ p ∈ pa ++ pv, (fun b => decide (b < W.heap.size)) p.block = true := fun p hp => decide_eq_true (low p hp)
  have hall : ∀ p ∈ pa ++ pv, (fun _ : Nat => true) p.block = true := fun _ _ => rfl
  have hW0 := hW
  obtain ⟨_, _, _, _, _, hz, hn⟩ := hW0
  refine ⟨ds, gs, pa ++ pv, [], pa, pv, hW, hres _ _ _, hargs _ hold, hvars _ hold, keptBut_grown hg _, fun _ => ⟨hok, _, _, pa ++ pv, ⟨pa, pv, trodAll_append (p := []) (hargs _ hall) (hres _ _ _), hvars _ hall, rfl, ?_, hn⟩, fun p hp _ => hp⟩⟩
  intro b off hp
  rw [frozen_grown hg _ (low _ hp)]
  exact hz b off hp

end Go.Proofs.Ytecaolkbllbokaa.TG

namespace Go.Proofs.Ytecaolkbllbokaa.TG
open Go.ChangeShapes Go.WideShapes Go.ChangeAt Go.RowKit
set_option linter.unusedSimpArgs false
set_option linter.unusedVariables false

section
variable {H : Type} {enc : TypeId × Value → H} {P : Program}

theorem same_grown {W W' : World} (hg : W.grownBy W' none) {p : MemPlace} (hp : p.block < W.heap.size) : W.sameAt W' p := by
  have hb := hg.block p.block hp (by simp)
  cases p with
  | cell b off => exact World.cell?_of_block (w := W) hb
  | map b => exact hb

theorem args_grown (hl : laidOutB P = true) {W W' : World} {sp : Nat → Bool} (hg : W.grownBy W' none) :
    ∀ {ts : List TypeId} {vs : List Value} {ds : List (DataW H)} {ps : List MemPlace}, (∀ t ∈ ts, P.readableRec t = true ∧ t < P.types.size) →
    DataW.TrodAll enc P W 0 (fun _ => true) true ts vs ds ps → (∀ p ∈ ps, p.block < W.heap.size) → (∀ p ∈ ps, sp p.block = true) → DataW.TrodAll enc P W' 0 sp true ts vs ds ps
  | [], [], [], _, _, h, _, _ => h
  | t :: ts, _ :: _, _ :: _, _, hr, ⟨p, q, h1, h2, e⟩, hlt, hs =>
    ⟨p, q, WideElems.Trod_stays hl (hr t (List.mem_cons.2 (Or.inl rfl))).1 (hr t (List.mem_cons.2 (Or.inl rfl))).2 h1
        (fun x hx => same_grown hg (hlt x (by rw [e]; exact List.mem_append_left _ hx)))
        (fun x hx => hs x (by rw [e]; exact List.mem_append_left _ hx)),
      args_grown hl hg (fun t ht => hr t (List.mem_cons.2 (Or.inr ht))) h2
        (fun x hx => hlt x (by rw [e]; exact List.mem_append_right _ hx)) (fun x hx => hs x (by rw [e]; exact List.mem_append_right _ hx)), e⟩

theorem law_post_g {f : Func} {s : ChangeSpec} {tb : TypeId} {apart fresh handsOn again : Bool} {W W' : World} {args : Array Value} {ds gs : List (DataW H)} {before : List MemPlace}
    (hl : laidOutB P = true) (hr : ∀ t ∈ f.params.toList, P.readableRec t = true ∧ t < P.types.size) (hv : s.vars = [])
    (hres : f.resultTypes = #[tb]) (hb : P.underlying tb = some .bool)
    (hW : DataW.Whole enc P f.params.toList s.vars apart W args.toList ds gs before)
    (hfn : gs = [] → s.fn H (ds ++ gs) = { results := [.lit (.bool true)], args := ds }) (hg : W.grownBy W' none) :
    s.post enc P f apart fresh handsOn again W args (.bool true) W' := by
  have hW' := hW
  obtain ⟨p, q, hA, hV, rfl, hfz, hnd⟩ := hW'
  have hgs : gs = [] ∧ q = [] := by
    rw [hv] at hV
    cases gs with
    | nil => exact ⟨rfl, hV⟩
    | cons g gs => exact absurd hV (fun h => h)
  obtain ⟨rfl, rfl⟩ := hgs
  have hf := hfn rfl
  refine post_of_grown (pa := p) (pv := []) hW (fun b sp hd => ?_) (fun sp hsp => ?_) (fun sp hsp => ?_) (by simp) hg ?_
  · rw [hf, hres]
    exact trodAll_cons_mk (shut_bool hb _) trodAll_mk0
  · rw [hf]
    exact args_grown hl hg hr hA (fun x hx => hW.lt x (List.mem_append_left _ hx)) (fun x hx => hsp x (List.mem_append_left _ hx))
  · rw [hf, hv]; exact rfl
  · exact ok_one hres rfl (okWide_bool_mk hb _)
end

end Go.Proofs.Ytecaolkbllbokaa.TG

namespace Go.Proofs.Ytecaolkbllbokaa.TG
open Go.RowKit Go.Great
set_option linter.unusedSimpArgs false
set_option linter.unusedVariables false

set_option maxRecDepth 100000 in
set_option maxHeartbeats 2000000 in
theorem len_any (bc Bd B ct n : Nat) (pt : Option Addr) (ts : List (ByteArray × List Int)) (nm : ByteArray) (d : List Int) (hn : ts[n]? = some (nm, d)) (hts : ts.length ≤ 17592186044415) (w : World) (hb : w.cell? ⟨bc, 0, none⟩ = some (.pointer (some ⟨Bd, 0, none⟩))) (h0 : w.cell? ⟨Bd, 0, none⟩ = some (.slice pt ts.length ct)) (hT : TextsAt w B pt ts) :
    Calls Try.prog 72 #[.int .i64 n, .pointer (some ⟨bc, 0, none⟩)] w fun e w' => e = .returned (.int .i64 d.length) ∧ w' = w := by
  have hlt : n < ts.length := (List.getElem?_eq_some_iff.1 hn).1
  obtain ⟨bt, ot, rfl, hbt, hct⟩ := hT (by omega)
  obtain ⟨e0, pd, cd, e1, _⟩ := hct n nm d hn
  have hi : (n : Int) < (ts.length : Int) := by omega
  have hl1 := World.block_lt_of_cell? _ _ hb
  have hl2 := World.block_lt_of_cell? _ _ h0
  have hl3 := World.block_lt_of_cell? _ _ e1
  clear hT hct hn
  go_enter Try.func72, Try.ntmps72
  go_wp2
  go_ret
  exact ⟨rfl, rfl⟩

set_option maxRecDepth 100000 in
set_option maxHeartbeats 2000000 in
theorem not_any (E Bd : Nat) (vt vf : Value) (nm : ByteArray) (ar : Int) (vl vp vout vorg vlo vk : Value) (out : List (Int × Int)) (org : List Int) (at_ : Int) (w : World)
    (hC : CodeAt w E Bd vt vf nm ar vl vp vout vorg vlo vk out org) (ho : out.length ≤ 999999999999) (hg : org.length ≤ 999999999999) :
    Calls Try.prog 74 #[.iface 110 (.pointer (some ⟨Bd, 0, none⟩)), .int .i64 at_] w fun e w' => (∃ v, e = .returned v) ∧ Sp (EmitP Bd vout vorg) w w' ∧ ∃ vo vg, CodeAt w' E Bd vt vf nm ar vl vp vo vg vlo vk (out ++ [(3, 0)] ++ [(31, 0)]) (org ++ [at_] ++ [at_]) ∧ (∀ k, k < w.heap.size → EmitP Bd vo vg k → EmitP Bd vout vorg k) := by
  have hm := method_emit ⟨Bd, 0, none⟩
  have E1 := Lib.hid (emit_any E Bd vt vf nm ar vl vp vout vorg vlo vk out org at_ 3 0 w hC (by omega) (by omega))
  have L1 : (out ++ [((3 : Int), (0 : Int))]).length ≤ 1000000000000 := by simp; omega
  have L2 : (org ++ [at_]).length ≤ 1000000000000 := by simp; omega
  clear hC
  go_enter Try.func74, Try.ntmps74
  go_wp2_with (first
    | (go_at_call 44; refine E1.out.mono ?_; clear E1; intro e w1 hp; obtain ⟨rfl, hsp, vo, vg, hC1, hrow⟩ := hp; have S1 := Lib.hid hsp; have R1 := Lib.hid hrow; have E2 := Lib.hid (emit_any _ _ _ _ _ _ _ _ _ _ _ _ _ _ at_ 31 0 _ hC1 L1 L2); clear hsp hC1 hrow)
    | (go_at_call 44; refine E2.out.mono ?_; clear E2; intro e w2 hp; obtain ⟨rfl, hsp, hrest⟩ := hp; have S2 := Lib.hid hsp; have R2 := Lib.hid hrest; clear hsp hrest))
  go_ret
  obtain ⟨vo2, vg2, hC2, hrow2⟩ := R2.out
  exact ⟨⟨_, rfl⟩, sp_trans S1.out S2.out (fun k hk hp => R1.out k hk hp), vo2, vg2, hC2, fun k hk hp => R1.out k hk (hrow2 k (Nat.lt_of_lt_of_le hk S1.out.size) hp)⟩

end Go.Proofs.Ytecaolkbllbokaa.TG

namespace Go.Proofs.Ytecaolkbllbokaa.TG
open Go.RowKit Go.Great
set_option linter.unusedSimpArgs false
set_option linter.unusedVariables false

set_option maxRecDepth 100000 in
set_option maxHeartbeats 4000000 in
theorem with_len (E Bd b3 b4 bc bp op cp np at_ B ct nn : Nat) (pt : Option Addr) (ts : List (ByteArray × List Int)) (tn : ByteArray) (d : List Int) (hn0 : ts[nn]? = some (tn, d)) (hts : ts.length ≤ 17592186044415) (vf : Value) (nm : ByteArray) (ar : Int) (vl vout vorg vlo vk : Value) (out : List (Int × Int)) (org : List Int) (o : Int) (w : World)
    (hC : CodeAt w E Bd (.slice pt ts.length ct) vf nm ar vl (.slice (some ⟨bp, op, none⟩) np cp) vout vorg vlo vk out org) (hT : TextsAt w B pt ts) (ho : out.length ≤ 1000000000000) (hg : org.length ≤ 1000000000000) (hat : at_ < np) (hnp : np ≤ 17592186044415)
    (h3 : w.cell? ⟨b3, 0, none⟩ = some (.int .i64 o)) (h4 : w.cell? ⟨b4, 0, none⟩ = some (.func (.func 72) #[] #[.pointer (some ⟨bc, 0, none⟩)])) (hc : w.cell? ⟨bc, 0, none⟩ = some (.pointer (some ⟨Bd, 0, none⟩))) (hn : w.cell? ⟨bp, op + at_ * 3 + 1, none⟩ = some (.int .i64 nn))
    (hb : bp < w.heap.size) (hbc : bc < w.heap.size) (hb3 : b3 < w.heap.size) (hb4 : b4 < w.heap.size) :
    Calls Try.prog 68 #[.iface 110 (.pointer (some ⟨Bd, 0, none⟩)), .int .i64 at_, .pointer (some ⟨b3, 0, none⟩), .pointer (some ⟨b4, 0, none⟩), .pointer (some ⟨bc, 0, none⟩)] w (EmitPost w E Bd (.slice pt ts.length ct) vf nm ar vl (.slice (some ⟨bp, op, none⟩) np cp) vout vorg vlo vk out org at_ o d.length) := by
  have hm := method_emit ⟨Bd, 0, none⟩
  have hni := nil_emit ⟨Bd, 0, none⟩
  have EM := Lib.hid (emit_any E Bd (.slice pt ts.length ct) vf nm ar vl (.slice (some ⟨bp, op, none⟩) np cp) vout vorg vlo vk out org at_ o d.length w.drew (code_kept hC (grownBy_drew (grownBy_refl w none))) ho hg)
  have hd : w.cell? ⟨Bd, 5, none⟩ = some (.slice (some ⟨bp, op, none⟩) np cp) := code_cell hC 5
  have hd0 : w.cell? ⟨Bd, 0, none⟩ = some (.slice pt ts.length ct) := code_cell hC 0
  have LA := Lib.hid (len_any bc Bd B ct nn pt ts tn d hn0 hts w.drew hc hd0 (textsAt_kept hT (grownBy_drew (grownBy_refl w none)) (by simp)))
  have hBd : Bd < w.heap.size := Nat.lt_of_lt_of_le hC.lt hC.le
  have hai : (at_ : Int) < (np : Int) := by omega
  clear hC hT hd0 hn0
  go_enter Try.func68, Try.ntmps68
  go_wp2
  refine wp_region_still_tail 17 (by kernel_rfl) (by kernel_rfl) ?_
  simp only [List.take_succ_cons, List.take_zero, List.drop_succ_cons, List.drop_zero]
  repeat still_step
  still_call LA.out
  repeat still_step
  refine wpStill_nil ?_
  go_wp2_with (go_at_call 44; refine EM.out.mono ?_; intro e w1 hp; obtain ⟨rfl, hsp, hrest⟩ := hp; have SP := Lib.hid hsp; have RS := Lib.hid hrest; clear hsp hrest)
  go_ret
  exact ⟨rfl, sp_drew SP.out, RS.out⟩

set_option maxRecDepth 100000 in
set_option maxHeartbeats 4000000 in
theorem turn_any (E Bd b6 bc bp op cp np at_ : Nat) (vt vf : Value) (nm : ByteArray) (ar : Int) (vl vout vorg vlo vk : Value) (out : List (Int × Int)) (org : List Int) (n : Int) (w : World)
    (hC : CodeAt w E Bd vt vf nm ar vl (.slice (some ⟨bp, op, none⟩) np cp) vout vorg vlo vk out org) (ho : out.length ≤ 999999999999) (hg : org.length ≤ 999999999999) (hat : at_ < np) (hnp : np ≤ 17592186044415)
    (h6 : w.cell? ⟨b6, 0, none⟩ = some (.func (.func 70) #[] #[.pointer (some ⟨bc, 0, none⟩)])) (hb6 : Bd < b6 ∧ b6 < E) (hc : w.cell? ⟨bc, 0, none⟩ = some (.pointer (some ⟨Bd, 0, none⟩))) (hbc : Bd < bc ∧ bc < E) (hn : w.cell? ⟨bp, op + at_ * 3 + 1, none⟩ = some (.int .i64 n)) (hbp : bp < Bd) :
    Calls Try.prog 73 #[.iface 110 (.pointer (some ⟨Bd, 0, none⟩)), .int .i64 at_, .pointer (some ⟨b6, 0, none⟩)] w fun e w' => (∃ v, e = .returned v) ∧ Sp (EmitP Bd vout vorg) w w' ∧ ∃ vo vg, CodeAt w' E Bd vt vf nm ar vl (.slice (some ⟨bp, op, none⟩) np cp) vo vg vlo vk (out ++ [(6, 0)] ++ [(n, 0)]) (org ++ [(at_ : Int)] ++ [(at_ : Int)]) ∧ (∀ k, k < w.heap.size → EmitP Bd vo vg k → EmitP Bd vout vorg k) := by
  have hm := method_emit ⟨Bd, 0, none⟩
  have E1 := Lib.hid (emit_any E Bd vt vf nm ar vl _ vout vorg vlo vk out org at_ 6 0 w hC (by omega) (by omega))
  have L1 : (out ++ [((6 : Int), (0 : Int))]).length ≤ 1000000000000 := by simp; omega
  have L2 : (org ++ [(at_ : Int)]).length ≤ 1000000000000 := by simp; omega
  have CC := Lib.hid hC
  have hE1 : E ≤ w.heap.size := hC.le
  have HN := Lib.hid (fun (w1 : World) (vo vg : Value) (g : Sp (EmitP Bd vout vorg) w w1) (h : CodeAt w1 E Bd vt vf nm ar vl (.slice (some ⟨bp, op, none⟩) np cp) vo vg vlo vk (out ++ [(6, 0)]) (org ++ [(at_ : Int)])) =>
    named_any E Bd bc bp op cp np at_ vt vf nm ar vl vo vg vlo vk _ _ n w1 h L1 L2 hat hnp (by rw [heap_cell (sp_low hC g bc hbc.2 (by omega))]; exact hc) (by rw [heap_cell (sp_low hC g bp (by omega) (by omega))]; exact hn) (by have := g.size; omega) (by have := g.size; omega))
  clear hC
  go_enter Try.func73, Try.ntmps73
  go_wp2_with (first
    | (go_at_call 44; refine E1.out.mono ?_; clear E1; intro e w1 hp; obtain ⟨rfl, hsp, vo, vg, hC1, hrow⟩ := hp; have S1 := Lib.hid hsp; have R1 := Lib.hid hrow; have NA := Lib.hid (HN.out w1 vo vg hsp hC1); have x6 := (heap_cell (sp_low CC.out hsp b6 hb6.2 (Nat.ne_of_gt hb6.1)) 0).trans h6; have hz6 := Nat.lt_of_lt_of_le (Nat.lt_of_lt_of_le hb6.2 hE1) hsp.size; clear hsp hC1 hrow)
    | (go_at_call 70; refine NA.out.mono ?_; clear NA; intro e w2 hp; obtain ⟨rfl, hsp, hrest⟩ := hp; have S2 := Lib.hid hsp; have R2 := Lib.hid hrest; clear hsp hrest))
  go_ret
  obtain ⟨vo2, vg2, hC2, hrow2⟩ := R2.out
  exact ⟨⟨_, rfl⟩, sp_trans S1.out S2.out (fun k hk hp => R1.out k hk hp), vo2, vg2, hC2, fun k hk hp => R1.out k hk (hrow2 k (Nat.lt_of_lt_of_le hk S1.out.size) hp)⟩

end Go.Proofs.Ytecaolkbllbokaa.TG

namespace Go.Proofs.Ytecaolkbllbokaa.TG
open Go.RowKit Go.Great
set_option linter.unusedSimpArgs false
set_option linter.unusedVariables false

theorem textsAt_take {w : World} {B : Nat} {pt : Option Addr} {ts : List (ByteArray × List Int)} (h : TextsAt w B pt ts) (n : Nat) : TextsAt w B pt (ts.take n) := fun h0 => by
  obtain ⟨b, o, e, hb, hc⟩ := h (by simp only [List.length_take] at h0; omega)
  refine ⟨b, o, e, hb, fun i nm d hi => hc i nm d ?_⟩
  by_cases hin : i < n
  · rwa [List.getElem?_take_of_lt hin] at hi
  · rw [List.getElem?_eq_none (by simp only [List.length_take]; omega)] at hi; cases hi

theorem bytesTo_take (ts : List (ByteArray × List Int)) (n : Nat) : ∀ k, k ≤ n → bytesTo (ts.take n) k = bytesTo ts k
  | 0, _ => rfl
  | k + 1, h => by
    rw [bytesTo, bytesTo, bytesTo_take ts n k (by omega)]
    have : (ts.take n).getD k (ByteArray.empty, []) = ts.getD k (ByteArray.empty, []) := by simp [List.getD, List.getElem?_take_of_lt (show k < n by omega)]
    rw [this]

set_option maxRecDepth 100000 in
set_option maxHeartbeats 2000000 in
theorem at_any (bc Bd B ct n : Nat) (pt : Option Addr) (ts : List (ByteArray × List Int)) (hn : n < ts.length) (hts : ts.length ≤ 1024) (hct : ts.length ≤ ct) (hct2 : ct ≤ maxLen) (hwf : ∀ x ∈ ts, x.1.size ≤ maxLen ∧ x.2.length ≤ 17592186044415) (w : World) (hb : w.cell? ⟨bc, 0, none⟩ = some (.pointer (some ⟨Bd, 0, none⟩))) (h0 : w.cell? ⟨Bd, 0, none⟩ = some (.slice pt ts.length ct)) (hT : TextsAt w B pt ts) (hB : B ≤ w.heap.size) :
    Calls Try.prog 71 #[.int .i64 n, .pointer (some ⟨bc, 0, none⟩)] w fun e w' => e = .returned (.int .i64 (bytesTo ts n)) ∧ w.grownBy w' none := by
  have hlen : (ts.take n).length = n := by simp only [List.length_take]; omega
  have hsz := size_any (ts.take n) (by omega) (fun x hx => hwf x (List.mem_of_mem_take hx)) pt ct B w (textsAt_take hT n) hB
  rw [hlen, bytesTo_take ts n n (Nat.le_refl _)] at hsz
  have SZ := Lib.hid hsz
  obtain ⟨bt, ot, rfl, hbt, _⟩ := hT (by omega)
  have hl1 := World.block_lt_of_cell? _ _ hb
  have hl2 := World.block_lt_of_cell? _ _ h0
  unfold maxLen at hct2
  have hi : (n : Int) ≤ (ct : Int) := by omega
  clear hsz hlen hT hwf
  go_enter Try.func71, Try.ntmps71
  go_wp2_with (go_at_call 41; refine SZ.out.mono ?_; rintro e w1 ⟨rfl, hg⟩; have HG := Lib.hid hg; clear hg)
  all_goals (go_ret; exact ⟨rfl, HG.out⟩)

end Go.Proofs.Ytecaolkbllbokaa.TG
