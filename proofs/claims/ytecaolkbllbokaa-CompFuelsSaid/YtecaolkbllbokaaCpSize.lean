/-
  Walk of the compiler's size. Conditions: as each theorem states.
-/
import Derived.Test.YtecaolkbllbokaaCpWrite
namespace Go.Proofs.Ytecaolkbllbokaa.TG
open Go.RowKit Go.Great
set_option linter.unusedSimpArgs false
set_option linter.unusedVariables false

set_option maxRecDepth 100000 in
set_option maxHeartbeats 4000000 in
theorem size_any (ts : List (ByteArray × List Int)) (hn : ts.length ≤ 1024) (hts : ∀ x ∈ ts, x.1.size ≤ maxLen ∧ x.2.length ≤ 17592186044415) (pt : Option Addr) (ct B : Nat) (w : World) (hT : TextsAt w B pt ts) (hB : B ≤ w.heap.size) :
    Calls Try.prog 41 #[.slice pt ts.length ct] w fun e w' => e = .returned (.int .i64 (bytesTo ts ts.length)) ∧ w.grownBy w' none := by
  have HT := Lib.hid hT
  have HS := Lib.hid hts
  have HB := Lib.hid (bytesTo_bound ts (fun x hx => (hts x hx).2))
  clear hT hts
  go_enter Try.func41, Try.ntmps41
  go_wp2
  go_loopw [3, 8] (fun v i wr => ∃ (k : Nat), k ≤ ts.length ∧ i = .int .i64 k ∧ v = .int .i64 (bytesTo ts k) ∧ w.grownBy wr none) (fun _ i _ => ts.length - (intOf i).toNat)
  case atStart => exact ⟨0, Nat.zero_le _, rfl, rfl, grownBy_refl _ _⟩
  case round =>
    obtain ⟨k, hk, rfl, rfl, hgr⟩ := hrel
    have GR := Lib.hid hgr
    have hsz := hgr.size
    have hbk := HB.out k
    clear hgr
    by_cases hlt : (k : Int) < (ts.length : Int)
    · obtain ⟨nm, d, hg, hmem⟩ := get_text ts k (by omega)
      obtain ⟨bt, ot, rfl, hbt, hct⟩ := HT.out (by omega)
      obtain ⟨e0, pd, cd, e1, hbd⟩ := hct k nm d hg
      replace e0 := cell_low GR.out (B := B) (by simp) hbt e0
      replace e1 := cell_low GR.out (B := B) (by simp) hbt e1
      have hdl := (HS.out _ hmem).2
      have hbt2 : bt < wr.heap.size := by omega
      have HG := Lib.hid (bytes_step ts k nm d hg)
      clear hct hbd hmem hg
      simp only [] at hdl
      generalize bytesTo ts k = x at *
      go_wp2
      go_roundw
      case rel => exact ⟨k + 1, by omega, by go_num, by rw [HG.out], grownBy_trans GR.out (World.grownBy_alloc _ _ none)⟩
      case measure => simp [intOf]; omega
    · have hkn : k = ts.length := by omega
      subst hkn
      go_wp2
      go_ret
      exact ⟨rfl, GR.out⟩

end Go.Proofs.Ytecaolkbllbokaa.TG
