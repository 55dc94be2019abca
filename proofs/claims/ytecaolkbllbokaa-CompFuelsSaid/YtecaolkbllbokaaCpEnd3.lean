/-
  Walk of the closure of the compiler's ends that emits a part's number as the instruction. Conditions: as each theorem states.
-/
import Derived.Test.YtecaolkbllbokaaCpEnd2
namespace Go.Proofs.Ytecaolkbllbokaa.TG
open Go.RowKit Go.Great
set_option linter.unusedSimpArgs false
set_option linter.unusedVariables false

set_option maxRecDepth 100000 in
set_option maxHeartbeats 4000000 in
theorem named_any (E Bd bc bp op cp np at_ : Nat) (vt vf : Value) (nm : ByteArray) (ar : Int) (vl vout vorg vlo vk : Value) (out : List (Int × Int)) (org : List Int) (n : Int) (w : World)
    (hC : CodeAt w E Bd vt vf nm ar vl (.slice (some ⟨bp, op, none⟩) np cp) vout vorg vlo vk out org) (ho : out.length ≤ 1000000000000) (hg : org.length ≤ 1000000000000) (hat : at_ < np) (hnp : np ≤ 17592186044415)
    (hc : w.cell? ⟨bc, 0, none⟩ = some (.pointer (some ⟨Bd, 0, none⟩))) (hn : w.cell? ⟨bp, op + at_ * 3 + 1, none⟩ = some (.int .i64 n))
    (hb : bp < w.heap.size) (hbc : bc < w.heap.size) :
    Calls Try.prog 70 #[.iface 110 (.pointer (some ⟨Bd, 0, none⟩)), .int .i64 at_, .pointer (some ⟨bc, 0, none⟩)] w (EmitPost w E Bd vt vf nm ar vl (.slice (some ⟨bp, op, none⟩) np cp) vout vorg vlo vk out org at_ n 0) := by
  have hm := method_emit ⟨Bd, 0, none⟩
  have hni := nil_emit ⟨Bd, 0, none⟩
  have EM := Lib.hid (emit_any E Bd vt vf nm ar vl (.slice (some ⟨bp, op, none⟩) np cp) vout vorg vlo vk out org at_ n 0 w.drew (code_kept hC (grownBy_drew (grownBy_refl w none))) ho hg)
  have hd : w.cell? ⟨Bd, 5, none⟩ = some (.slice (some ⟨bp, op, none⟩) np cp) := code_cell hC 5
  have hBd : Bd < w.heap.size := Nat.lt_of_lt_of_le hC.lt hC.le
  have hai : (at_ : Int) < (np : Int) := by omega
  clear hC
  go_enter Try.func70, Try.ntmps70
  go_wp2
  refine wp_region_still_tail 14 (by kernel_rfl) (by kernel_rfl) ?_
  simp only [List.take_succ_cons, List.take_zero, List.drop_succ_cons, List.drop_zero]
  repeat still_step
  refine wpStill_nil ?_
  go_wp2_with (go_at_call 44; refine EM.out.mono ?_; intro e w1 hp; obtain ⟨rfl, hsp, hrest⟩ := hp; have SP := Lib.hid hsp; have RS := Lib.hid hrest; clear hsp hrest)
  go_ret
  exact ⟨rfl, sp_drew SP.out, RS.out⟩

end Go.Proofs.Ytecaolkbllbokaa.TG
