/-
  Walks of the closures of the compiler's ends that look at a part's number. Conditions: as each theorem states.
-/
import Derived.Test.YtecaolkbllbokaaCpEnd1
import Derived.Deep.RegionHeld3
import Derived.Deep.RegionWith
import Derived.StillTailTactics
namespace Go.Proofs.Ytecaolkbllbokaa.TG
open Go.RowKit Go.Great
set_option linter.unusedSimpArgs false
set_option linter.unusedVariables false

theorem same_any (n : Int) (w : World) : Calls Try.prog 69 #[.int .i64 n] w fun e w' => e = .returned (.int .i64 n) ∧ w = w' := by
  go_enter Try.func69, Try.ntmps69
  go_wp2
  go_ret
  exact ⟨rfl, rfl⟩

theorem same_still (n : Int) (w : World) : Calls Try.prog 69 #[.int .i64 n] w fun e w' => e = .returned (.int .i64 n) ∧ w' = w := (same_any n w).mono fun e w' h => ⟨h.1, h.2.symm⟩

theorem code_kept {w w' : World} {E Bd : Nat} {vt vf : Value} {nm : ByteArray} {ar : Int} {vl vp vout vorg vlo vk : Value} {out : List (Int × Int)} {org : List Int} (h : CodeAt w E Bd vt vf nm ar vl vp vout vorg vlo vk out org) (g : w.grownBy w' none) :
    CodeAt w' E Bd vt vf nm ar vl vp vout vorg vlo vk out org :=
  ⟨box_moved h.box g (by simp), h.out.kept g (Classical.em _), h.org.kept g (Classical.em _), h.lt, Nat.le_trans h.le g.size⟩

theorem sp_drew {P : Nat → Prop} {w w' : World} (h : Sp P w.drew w') : Sp P w w' := ⟨h.os, h.tape, h.output, h.size, h.block⟩

/-- What a region that looks at a part's number reads. -/
structure LookW (w : World) (b3 b4 bc Bd bp op at_ np : Nat) (cp : Nat) (o n : Int) (fv : Value) : Prop where
  a : w.cell? ⟨b3, 0, none⟩ = some (.int .i64 o)
  b : w.cell? ⟨b4, 0, none⟩ = some fv
  c : w.cell? ⟨bc, 0, none⟩ = some (.pointer (some ⟨Bd, 0, none⟩))
  d : w.cell? ⟨Bd, 5, none⟩ = some (.slice (some ⟨bp, op, none⟩) np cp)
  e : w.cell? ⟨bp, op + at_ * 3 + 1, none⟩ = some (.int .i64 n)

structure GN (w w' : World) : Prop where
  out : w.grownBy w' none
theorem gn_drew {w w' : World} (h : GN w w') : GN w w'.drew := ⟨grownBy_drew h.out⟩
theorem gn_trans {w w' w2 : World} (h : GN w w') (g : w'.grownBy w2 none) : GN w w2 := ⟨grownBy_trans h.out g⟩

set_option maxRecDepth 100000 in
set_option maxHeartbeats 4000000 in
theorem with_same (E Bd b3 b4 bc bp op cp np at_ : Nat) (vt vf : Value) (nm : ByteArray) (ar : Int) (vl vout vorg vlo vk : Value) (out : List (Int × Int)) (org : List Int) (o n : Int) (w : World)
    (hC : CodeAt w E Bd vt vf nm ar vl (.slice (some ⟨bp, op, none⟩) np cp) vout vorg vlo vk out org) (ho : out.length ≤ 1000000000000) (hg : org.length ≤ 1000000000000) (hat : at_ < np) (hnp : np ≤ 17592186044415)
    (h3 : w.cell? ⟨b3, 0, none⟩ = some (.int .i64 o)) (h4 : w.cell? ⟨b4, 0, none⟩ = some (.func (.func 69) #[] #[])) (hc : w.cell? ⟨bc, 0, none⟩ = some (.pointer (some ⟨Bd, 0, none⟩))) (hn : w.cell? ⟨bp, op + at_ * 3 + 1, none⟩ = some (.int .i64 n))
    (hb : bp < w.heap.size) (hbc : bc < w.heap.size) (hb3 : b3 < w.heap.size) (hb4 : b4 < w.heap.size) :
    Calls Try.prog 68 #[.iface 110 (.pointer (some ⟨Bd, 0, none⟩)), .int .i64 at_, .pointer (some ⟨b3, 0, none⟩), .pointer (some ⟨b4, 0, none⟩), .pointer (some ⟨bc, 0, none⟩)] w (EmitPost w E Bd vt vf nm ar vl (.slice (some ⟨bp, op, none⟩) np cp) vout vorg vlo vk out org at_ o n) := by
  have hm := method_emit ⟨Bd, 0, none⟩
  have hni := nil_emit ⟨Bd, 0, none⟩
  have EM := Lib.hid (emit_any E Bd vt vf nm ar vl (.slice (some ⟨bp, op, none⟩) np cp) vout vorg vlo vk out org at_ o n w.drew (code_kept hC (grownBy_drew (grownBy_refl w none))) ho hg)
  have hd : w.cell? ⟨Bd, 5, none⟩ = some (.slice (some ⟨bp, op, none⟩) np cp) := code_cell hC 5
  have hBd : Bd < w.heap.size := Nat.lt_of_lt_of_le hC.lt hC.le
  have hgn : GN w w := ⟨grownBy_refl _ _⟩
  have hai : (at_ : Int) < (np : Int) := by omega
  clear hC
  go_enter Try.func68, Try.ntmps68
  go_wp2
  refine wp_region_still_tail 17 (by kernel_rfl) (by kernel_rfl) ?_
  simp only [List.take_succ_cons, List.take_zero, List.drop_succ_cons, List.drop_zero]
  repeat still_step
  still_call (same_still _ _)
  repeat still_step
  refine wpStill_nil ?_
  go_wp2_with (go_at_call 44; refine EM.out.mono ?_; intro e w1 hp; obtain ⟨rfl, hsp, hrest⟩ := hp; have SP := Lib.hid hsp; have RS := Lib.hid hrest; clear hsp hrest)
  go_ret
  exact ⟨rfl, sp_drew SP.out, RS.out⟩

end Go.Proofs.Ytecaolkbllbokaa.TG
