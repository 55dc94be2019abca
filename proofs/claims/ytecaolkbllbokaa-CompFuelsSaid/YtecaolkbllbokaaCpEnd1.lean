/-
  Walks of what stands behind the kids' code: the closures of the compiler's ends. Conditions: as each theorem states.
-/
import Derived.Test.YtecaolkbllbokaaCpEmit
namespace Go.Proofs.Ytecaolkbllbokaa.TG
open Go.RowKit Go.Great
set_option linter.unusedSimpArgs false
set_option linter.unusedVariables false

theorem method_emit (a : Addr) (w : World) : (Go.method 336 110 (.pointer (some a)) "retort/comp.emit").run Try.prog w = .ok (44, .pointer (some a)) w := by kernel_rfl

theorem nil_emit (a : Addr) (w : World) : (Go.nilAhead 336 110 (.pointer (some a)) "retort/comp.emit").run Try.prog w = .ok (some false) w := by kernel_rfl

set_option maxRecDepth 100000 in
set_option maxHeartbeats 2000000 in
theorem plain_any (E Bd b : Nat) (vt vf : Value) (nm : ByteArray) (ar : Int) (vl vp vout vorg vlo vk : Value) (out : List (Int × Int)) (org : List Int) (at_ op : Int) (w : World)
    (hC : CodeAt w E Bd vt vf nm ar vl vp vout vorg vlo vk out org) (ho : out.length ≤ 1000000000000) (hg : org.length ≤ 1000000000000) (hb : w.cell? ⟨b, 0, none⟩ = some (.int .i64 op)) :
    Calls Try.prog 66 #[.iface 110 (.pointer (some ⟨Bd, 0, none⟩)), .int .i64 at_, .pointer (some ⟨b, 0, none⟩)] w (EmitPost w E Bd vt vf nm ar vl vp vout vorg vlo vk out org at_ op 0) := by
  have hm := method_emit ⟨Bd, 0, none⟩
  have EM := Lib.hid (emit_any E Bd vt vf nm ar vl vp vout vorg vlo vk out org at_ op 0 w hC ho hg)
  clear hC
  go_enter Try.func66, Try.ntmps66
  go_wp2_with (go_at_call 44; refine EM.out.mono ?_; intro e w1 hp; obtain ⟨rfl, hsp, hrest⟩ := hp; have SP := Lib.hid hsp; have RS := Lib.hid hrest; clear hsp hrest)
  go_ret
  exact ⟨rfl, SP.out, RS.out⟩

end Go.Proofs.Ytecaolkbllbokaa.TG
