/-
  Walk of package tongue's fresh: a name noted in a map of names. Conditions: as each theorem states.
-/
import Derived.Test.YtecaolkbllbokaaTgName
import Derived.Maps.Own
import Derived.Maps.OwnOps
import Derived.Maps.OwnSet
import Derived.StringKeys
import Derived.Lib.Hide
namespace Go.Proofs.Ytecaolkbllbokaa.TG
open Go.RowKit Go.Great Go.Maps Go.ChangeShapes Go.ChangeMaps Go.WideMaps
set_option linter.unusedSimpArgs false
set_option linter.unusedVariables false

theorem law : Keyed Try.prog 9 := string_keyed Try.underlying9
theorem zeroE (w : World) : (zeroValue 3).run Try.prog w = .ok (.int .i64 0) w := by kernel_rfl

/-- Block b is a map whose keys are just these names. -/
def NameSet (w : World) (b : Nat) (ns : List ByteArray) : Prop := ∃ (n : Nat) (D : DataW Unit), w.ownsMap Try.prog 9 (plainElem Try.prog 3) b n D ∧ n ≤ ns.length ∧ IsMap D ∧
  ∀ s : ByteArray, has D (.string s.data.toList) = among ns s

theorem nameSet_made (w : World) : NameSet (w.alloc (.map #[] 0)) w.heap.size [] :=
  ⟨0, .map [], World.ownsMap_made _ _ _ _, Nat.le_refl _, ⟨[], rfl⟩, fun s => rfl⟩

theorem nameSet_kept {w w' : World} {b : Nat} {ns : List ByteArray} {r : Option Nat} (h : NameSet w b ns) (hg : w.grownBy w' r) (hr : some b ≠ r) : NameSet w' b ns := by
  obtain ⟨n, D, h1, h2, h3, h4⟩ := h
  exact ⟨n, D, h1.kept hg hr, h2, h3, h4⟩

/-- The fault of a name: none (0), no name (171), it is there (172). -/
def freshE (ns : List ByteArray) (s : ByteArray) : Int := if nameB s = false then 171 else if among ns s = true then 172 else 0

theorem nameSet_put (w' : World) (b n : Nat) (D : DataW Unit) (ns : List ByteArray) (s : ByteArray) (d : DataW Unit) (h : w'.ownsMap Try.prog 9 (plainElem Try.prog 3) b (n + 1) (D.put (.string s.data.toList) d)) (hn : n ≤ ns.length)
    (hm : IsMap D) (hh : ∀ s : ByteArray, has D (.string s.data.toList) = among ns s) : NameSet w' b (s :: ns) := by
  refine ⟨n + 1, _, h, by simp; omega, ?_, fun u => ?_⟩
  · obtain ⟨es, rfl⟩ := hm; exact ⟨_, rfl⟩
  · by_cases hu : u.data.toList = s.data.toList
    · rw [hu, has_put_same hm (by trivial)]
      have hs : (u.toList == s.toList) = true := by rw [ByteArray.toList_eq, ByteArray.toList_eq, hu]; simp
      unfold among; simp only [List.any_cons, hs, Bool.true_or]
    · rw [has_put_other (by intro h; injection h with h; exact hu h), hh u]
      have hs : (u.toList == s.toList) = false := by
        rw [beq_eq_false_iff_ne, ByteArray.toList_eq, ByteArray.toList_eq]; exact hu
      unfold among; simp only [List.any_cons, hs, Bool.false_or]

theorem WF (D : DataW Unit) (n : Nat) (w : World) {b : Nat} {R : Value → Option (DataW Unit × List MemPlace)} (h : w.ownsMap Try.prog 9 R b n D) (hn : n < 1000000) : (Lit.int .i64 (Maps.size D : Int)).wf = true := by
  have hs : Maps.size D ≤ n := h.size_le
  have e1 : IntKind.i64.min = -9223372036854775808 := by decide
  have e2 : IntKind.i64.max = 9223372036854775807 := by decide
  simp only [Lit.wf, e1, e2, Bool.and_eq_true, decide_eq_true_eq]
  omega

set_option maxRecDepth 100000 in
set_option maxHeartbeats 1000000 in
theorem fresh_any (b : Nat) (ns : List ByteArray) (s : ByteArray) (w : World) (hN : NameSet w b ns) (hlen : ns.length < 1000000) (hs : s.size ≤ maxLen) :
    Calls Try.prog 33 #[.map (some b), .string s] w fun e w' => e = .returned (.int .i64 (freshE ns s)) ∧ w.grownBy w' (some b) ∧ (freshE ns s = 0 → NameSet w' b (s :: ns)) := by
  have hnm := name_any s
  have HM := Lib.hid hnm
  clear hnm
  unfold freshE
  cases h1 : nameB s with
  | false =>
    rw [h1] at HM
    rw [if_pos rfl]
    go_enter Try.func33, Try.ntmps33
    go_wp2_with (go_at_call 53; refine (HM.out _).mono ?_; rintro e w' ⟨rfl, hg⟩)
    go_ret
    exact ⟨rfl, ⟨hg.os, hg.tape, hg.output, hg.size, fun k hk _ => hg.block k hk (by simp)⟩, fun h => absurd h (by decide)⟩
  | true =>
    rw [h1] at HM
    rw [if_neg (by decide)]
    obtain ⟨n, D, ho, hn, hm, hh⟩ := hN
    have hkey := keyOf_string_mk Try.underlying9 hs
    cases h2 : among ns s with
    | true =>
      have hb : has D (.string s.data.toList) = true := by rw [hh, h2]
      have HB := Lib.hid hb
      have HO := Lib.hid ho
      have HK := Lib.hid hkey
      clear hb ho hkey hh hm
      rw [if_pos rfl]
      go_enter Try.func33, Try.ntmps33
      go_wp2_with fail
      refine (HM.out _).mono ?_
      rintro e w1 ⟨rfl, hg⟩
      have HG := Lib.hid hg
      clear hg
      go_wp2_with (at_lookup; refine wpList_lookup_own_ok_int _ rfl _ _ 89 rfl 9 3 .i64 law Try.underlying89 Try.underlying3 (zeroE _) b n D rfl (HO.out.kept HG.out (by simp)) _ _ rfl HK.out ?_; intro c hat hwc; clear hat hwc; rw [HB.out])
      go_ret
      exact ⟨rfl, ⟨HG.out.os, HG.out.tape, HG.out.output, HG.out.size, fun k hk _ => HG.out.block k hk (by simp)⟩, fun h => absurd h (by decide)⟩
    | false =>
      have hb : has D (.string s.data.toList) = false := by rw [hh, h2]
      have HB := Lib.hid hb
      have HO := Lib.hid ho
      have HK := Lib.hid hkey
      have HP := Lib.hid (fun w' d h => nameSet_put w' b n D ns s d h hn hm hh)
      clear hb ho hkey hh hm
      rw [if_neg (by decide)]
      go_enter Try.func33, Try.ntmps33
      go_wp2_with fail
      refine (HM.out _).mono ?_
      rintro e w1 ⟨rfl, hg⟩
      have HG := Lib.hid hg
      clear hg
      go_wp2_with (first
        | (at_lookup; refine wpList_lookup_own_ok_int _ rfl _ _ 89 rfl 9 3 .i64 law Try.underlying89 Try.underlying3 (zeroE _) b n D rfl (HO.out.kept HG.out (by simp)) _ _ rfl HK.out ?_; intro c hat hwc; clear hat hwc; rw [HB.out])
        | (at_len; refine wpList_len_own _ rfl _ 89 rfl 9 3 Try.underlying89 _ b n D rfl (HO.out.kept HG.out (by simp)) ?_)
        | (at_mapUpdate; refine wpList_mapUpdate_own _ rfl _ _ _ 89 rfl 9 3 law Try.underlying89 _ b n D rfl (HO.out.kept HG.out (by simp)) (by unfold maxLen; omega) _ _ _ rfl rfl HK.out _ [] (plainElem_int Try.underlying3 (WF D n w1 (HO.out.kept HG.out (by simp)) (by omega))) ?_; intro w2 hown2 hgrow2; have H2 := Lib.hid hown2; have G2 := Lib.hid hgrow2; clear hown2 hgrow2))
      go_ret
      exact ⟨rfl, grownBy_trans ⟨HG.out.os, HG.out.tape, HG.out.output, HG.out.size, fun k hk _ => HG.out.block k hk (by simp)⟩ G2.out, fun _ => HP.out _ _ H2.out⟩

end Go.Proofs.Ytecaolkbllbokaa.TG
