/-
  Walks of the reference's names and Bytes. Conditions: as each theorem states.
  Walks of the reference's Bytes and head. Conditions: as each theorem states.
  The reference's compiler: ahead; what own answers. Conditions: as each theorem states.
  The reference's compiler as a plain function, with its mark that there are too many lines, and without. Conditions: as each theorem states.
  The reference's compiler: own, for single kinds of parts. Conditions: as each theorem states.
-/
import Derived.Test.YtecaolkbllbokaaMB17
import Derived.Test.YtecaolkbllbokaaMB07
import Derived.Deep.QuietTactic
import Derived.BigQuiet
import Derived.Test.YtecaolkbllbokaaMB12
namespace Go.Proofs.Ytecaolkbllbokaa.TG
open Go.RowKit Go.Great
set_option linter.unusedSimpArgs false
set_option linter.unusedVariables false

theorem beq_swap (a b : ByteArray) : (a.toList == b.toList) = (b.toList == a.toList) :=
  Bool.eq_iff_iff.2 ⟨fun h => beq_iff_eq.2 (beq_iff_eq.1 h).symm, fun h => beq_iff_eq.2 (beq_iff_eq.1 h).symm⟩

theorem among_none {l : List ByteArray} {k : Nat} {s : ByteArray} (hk : k ≤ l.length) (h : ∀ a (ha : a < l.length), a < k → ((l[a]'ha).toList == s.toList) = false) : among (l.take k).reverse s = false := by
  unfold among
  rw [List.any_eq_false]
  intro x hx
  rw [List.mem_reverse] at hx
  obtain ⟨j, hj, rfl⟩ := List.getElem_of_mem hx
  rw [List.length_take] at hj
  have := h j (by omega) (by omega)
  rw [List.getElem_take, beq_swap, this]
  decide
theorem among_some {l : List ByteArray} {k a : Nat} {s : ByteArray} (ha : a < l.length) (hk : a < k) (h : ((l[a]'ha).toList == s.toList) = true) : among (l.take k).reverse s = true := by
  unfold among
  rw [List.any_eq_true]
  refine ⟨l[a], ?_, by rw [beq_swap]; exact h⟩
  rw [List.mem_reverse]
  have : a < (l.take k).length := by rw [List.length_take]; omega
  have e : (l.take k)[a] = l[a] := List.getElem_take
  rw [← e]
  exact List.getElem_mem this

theorem namesE_at {l : List ByteArray} {k : Nat} (hk : k < l.length) : namesE (l.take k).reverse (l.drop k) = if freshE (l.take k).reverse l[k] = 0 then namesE (l.take (k + 1)).reverse (l.drop (k + 1)) else freshE (l.take k).reverse l[k] := by
  rw [List.drop_eq_getElem_cons hk, namesE_cons, List.take_succ_eq_append_getElem hk, List.reverse_append]; rfl

set_option maxRecDepth 100000 in
set_option maxHeartbeats 2000000 in
theorem rnames_any (p : Option Addr) (l : List ByteArray) (cap : Nat) (hl : l.length ≤ 17592186044415) (hsz : ∀ s ∈ l, s.size ≤ maxLen) (w : World) (hS : StrsB w w.heap.size p l) :
    Calls Try.prog 46 #[.slice p l.length cap] w fun e w' => e = .returned (.int .i64 (namesE [] l)) ∧ w.grownBy w' none := by
  generalize hv : namesE [] l = v
  have HS := Lib.hid hS
  have HZ := Lib.hid hsz
  clear hS hsz
  go_enter Try.func46, Try.ntmps46
  go_wp2
  go_loopw [3] (fun i wr => ∃ k : Nat, i = .int .i64 k ∧ k ≤ l.length ∧ w.grownBy wr none ∧ v = namesE (l.take k).reverse (l.drop k)) (fun i _ => l.length - (intOf i).toNat)
  case atStart => exact ⟨0, rfl, Nat.zero_le _, grownBy_refl _ _, hv.symm⟩
  case round =>
    obtain ⟨k, rfl, hk, hg, hvk⟩ := hrel
    have HG := Lib.hid hg
    by_cases hlt : (k : Int) < (l.length : Int)
    · have hkl : k < l.length := by omega
      obtain ⟨b, o, rfl, hb, hc⟩ := HS.out (by omega)
      have e0 := hg.cell (hc k hkl) (by simp)
      have hbw : b < wr.heap.size := Nat.lt_of_lt_of_le hb hg.size
      have HC := Lib.hid hc
      rw [namesE_at hkl] at hvk
      have W1 := Lib.hid (rword_any (l[k]'hkl) (HZ.out _ (List.getElem_mem hkl)) wr)
      clear hc hg hv
      cases hn : nameB (l[k]'hkl) with
      | false =>
        have hf : freshE (l.take k).reverse (l[k]'hkl) = 171 := by unfold freshE; rw [if_pos hn]
        rw [hf, if_neg (by decide)] at hvk
        rw [hn] at W1
        have HV := Lib.hid hvk
        clear hvk hf hn
        go_wp2_with (go_at_call 79; refine W1.out.mono ?_; rintro e w' ⟨rfl, rfl⟩)
        go_ret
        exact ⟨ret_int HV.out.symm, HG.out⟩
      | true =>
        rw [hn] at W1
        have HVK := Lib.hid hvk
        have HN := Lib.hid hn
        clear hvk hn
        go_wp2_with (go_at_call 79; refine W1.out.mono ?_; rintro e w' ⟨rfl, rfl⟩)
        go_loopw [4] (fun j wr2 => ∃ m : Nat, j = .int .i64 m ∧ m ≤ k ∧ w.grownBy wr2 none ∧ ∀ a (ha : a < l.length), a < m → ((l[a]'ha).toList == (l[k]'hkl).toList) = false) (fun j _ => k - (intOf j).toNat)
        case atStart => exact ⟨0, rfl, Nat.zero_le _, HG.out, fun a _ h => absurd h (Nat.not_lt_zero _)⟩
        case round =>
          obtain ⟨m, rfl, hm, hg2, hno⟩ := hrel
          have HG2 := Lib.hid hg2
          have HNO := Lib.hid hno
          clear hno
          by_cases hmk : (m : Int) < (k : Int)
          · have hml : m < l.length := by omega
            have e1 := hg2.cell (HC.out k hkl) (by simp)
            have e2 := hg2.cell (HC.out m hml) (by simp)
            have hbw2 : b < wr.heap.size := Nat.lt_of_lt_of_le hb hg2.size
            have i1 : (m : Int) < (l.length : Int) := by omega
            clear hg2 e0
            cases hq : ((l[m]'hml).toList == (l[k]'hkl).toList) with
            | true =>
              have hvf : v = 172 := by
                have h1 : freshE (l.take k).reverse (l[k]'hkl) = 172 := by unfold freshE; rw [if_neg (by rw [HN.out]; decide), if_pos (among_some hml (by omega) hq)]
                rw [HVK.out, h1, if_neg (by decide)]
              have HV := Lib.hid hvf
              clear hvf
              go_wp2
              go_quiet (fail)
              go_wp2
              go_ret
              exact ⟨ret_int HV.out.symm, grownBy_trans HG2.out (grownBy_drewN _ _ none)⟩
            | false =>
              have HQ := Lib.hid hq
              go_wp2
              go_quiet (fail)
              go_wp2
              go_roundw
              case rel => exact ⟨m + 1, by go_num, by omega, grownBy_trans HG2.out (grownBy_drewN _ _ none), fun a ha h => by
                rcases Nat.lt_or_eq_of_le (Nat.le_of_lt_succ h) with h5 | h5
                · exact HNO.out a ha h5
                · subst h5; exact HQ.out⟩
              case measure => simp [intOf]; omega
          · have hme : m = k := by omega
            subst hme
            have hvf : v = namesE (l.take (m + 1)).reverse (l.drop (m + 1)) := by
              have h1 : freshE (l.take m).reverse (l[m]'hkl) = 0 := by unfold freshE; rw [if_neg (by rw [HN.out]; decide), if_neg (by rw [among_none (by omega) HNO.out]; decide)]
              rw [HVK.out, h1, if_pos rfl]
            have HV := Lib.hid hvf
            clear hvf hg2
            go_wp2
            go_roundw
            case rel => exact ⟨m + 1, by go_num, by omega, HG2.out, HV.out⟩
            case measure => simp [intOf]; omega
    · have hke : k = l.length := by omega
      have hvf : v = 0 := by rw [hvk, hke, List.drop_length]; rfl
      have HV := Lib.hid hvf
      clear hvf hvk hv hg
      subst hke
      go_wp2
      go_ret
      exact ⟨ret_int HV.out.symm, HG.out⟩

end Go.Proofs.Ytecaolkbllbokaa.TG

namespace Go.Proofs.Ytecaolkbllbokaa.TG
open Go.RowKit Go.Great
set_option linter.unusedSimpArgs false
set_option linter.unusedVariables false

set_option maxRecDepth 100000 in
set_option maxHeartbeats 2000000 in
theorem rbytes_any (u : Un) (hu : UnWF u) (hnt : u.texts.length ≤ 1024) (pt pf : Option Addr) (ct cf B : Nat) (w : World) (hU : UnitAt w B pt pf u) :
    Calls Try.prog 45 #[.agg #[.slice pt u.texts.length ct, .slice pf u.funcs.length cf]] w fun e w' => e = .returned (.int .i64 (bytesTo u.texts u.texts.length)) ∧ w.grownBy w' none := by
  have HB := Lib.hid (bytesTo_bound u.texts (fun x hx => (hu.text x hx).2))
  have UU := Lib.hid hU
  clear hU hu
  go_enter Try.func45, Try.ntmps45
  go_wp2
  have B0 := Lib.hid (boxU_new w (.slice pt u.texts.length ct) (.slice pf u.funcs.length cf))
  go_loopw [3, 4] (fun n i wr => ∃ k : Nat, i = .int .i64 k ∧ n = .int .i64 (bytesTo u.texts k) ∧ k ≤ u.texts.length ∧ wr = w.alloc (.cells #[.slice pt u.texts.length ct, .slice pf u.funcs.length cf] 25)) (fun _ i _ => u.texts.length - (intOf i).toNat)
  case atStart => exact ⟨0, rfl, rfl, Nat.zero_le _, rfl⟩
  case round =>
    obtain ⟨k, rfl, rfl, hk, rfl⟩ := hrel
    have hb1 := HB.out k
    have hb2 := HB.out (k + 1)
    by_cases hlt : (k : Int) < (u.texts.length : Int)
    · obtain ⟨bt, ot, rfl, hbt, hct⟩ := UU.out.texts (by omega)
      obtain ⟨⟨nm, d⟩, hkd⟩ : ∃ x, u.texts[k]? = some x := ⟨_, List.getElem?_eq_getElem (by omega)⟩
      obtain ⟨_, pd, cd, e1, _⟩ := hct k nm d hkd
      have hle := UU.out.le
      have hbw : bt < w.heap.size := by omega
      have hsum : bytesTo u.texts (k + 1) = bytesTo u.texts k + (d.length : Int) := by
        rw [bytesTo]; simp [List.getD, hkd]
      rw [hsum] at hb2
      have HS := Lib.hid hsum
      clear hct hsum
      go_wp2
      go_roundw
      case rel => exact ⟨k + 1, by go_num, by rw [HS.out]; try go_num, by omega, by first | rfl | trivial⟩
      case measure => simp [intOf]; omega
    · have hke : k = u.texts.length := by omega
      subst hke
      go_wp2
      go_ret
      exact ⟨rfl, World.grownBy_alloc _ _ none⟩

theorem rgrow_two (w : World) (o o' : Obj) : w.grownBy ((w.alloc o).alloc o') none := grownBy_trans (World.grownBy_alloc w o none) (World.grownBy_alloc _ o' none)

theorem box_two' (w : World) (o o' : Obj) : ((w.alloc o).alloc o').heap[w.heap.size + 1]? = some o' := heap_alloc2_new w o o'

theorem fn_names {us : List Fun} {k : Nat} {f : Fun} (h : us[k]? = some f) : ∃ hk : k < (us.map Fun.name).length, (us.map Fun.name)[k]'hk = f.name := by
  obtain ⟨hk, rfl⟩ := List.getElem?_eq_some_iff.1 h
  exact ⟨by simpa using hk, by simp⟩

set_option maxRecDepth 100000 in
set_option maxHeartbeats 4000000 in
theorem rhead_any (u : Un) (hu : UnWF u) (pt pf : Option Addr) (ct cf B n : Nat) (f : Fun) (hf : u.funcs[n]? = some f) (w : World) (hU : UnitAt w B pt pf u) :
    Calls Try.prog 47 #[.agg #[.slice pt u.texts.length ct, .slice pf u.funcs.length cf], .int .i64 n] w fun e w' => e = .returned (.int .i64 (headE ((u.funcs.map Fun.name).take n).reverse f.name f.args f.locals)) ∧ w.grownBy w' none := by
  have hnl := (List.getElem?_eq_some_iff.1 hf).1
  obtain ⟨bF, oF, rfl, hbF, hcF⟩ := hU.funcs (by omega)
  obtain ⟨q0, q1, ⟨pl, cl, q2, hpl⟩, ⟨pp, cp, q3, _⟩⟩ := hcF n f hf
  have hni : (n : Int) < (u.funcs.length : Int) := by omega
  have hle := hU.le
  have hbw : bF < w.heap.size := by omega
  have hnf := hu.nf
  obtain ⟨z1, z2, z3, z4⟩ := hu.name f (List.mem_of_getElem? hf)
  have HCF := Lib.hid hcF
  have hlen : (f.locals.length : Int) ≤ 17592186044415 := by omega
  have W1 := Lib.hid (fun w' => rword_any f.name z1 w')
  have hNL : ∀ w' : World, w.grownBy w' none → Calls Try.prog 46 #[.slice pl f.locals.length cl] w' fun e w'' => e = .returned (.int .i64 (namesE [] f.locals)) ∧ w'.grownBy w'' none := fun w' g =>
    rnames_any pl f.locals cl z2 z4 w' (fun h0 => by
      obtain ⟨b, o, e, hb, hc⟩ := hpl h0
      have := g.size
      exact ⟨b, o, e, by omega, fun i hi => g.cell (hc i hi) (by simp)⟩)
  have NL := Lib.hid hNL
  clear hU hu hcF hpl hNL z4
  unfold headE
  by_cases h1 : 64 < f.locals.length ∨ 16 < f.args
  · rw [if_pos h1]
    by_cases h64 : (64 : Int) < (f.locals.length : Int)
    · clear h1
      go_enter Try.func47, Try.ntmps47
      go_wp2
      go_ret
      exact ⟨rfl, grownBy_trans (World.grownBy_alloc _ _ none) (World.grownBy_alloc _ _ none)⟩
    · have h16 : 16 < f.args := by omega
      clear h1
      go_enter Try.func47, Try.ntmps47
      go_wp2
      go_ret
      exact ⟨rfl, grownBy_trans (World.grownBy_alloc _ _ none) (World.grownBy_alloc _ _ none)⟩
  · rw [if_neg h1]
    have h64 : ¬ (64 : Int) < (f.locals.length : Int) := by omega
    have h16 : ¬ 16 < f.args := by omega
    clear h1
    by_cases h2 : f.args < 0 ∨ (f.locals.length : Int) < f.args
    · rw [if_pos h2]
      by_cases h0 : f.args < 0
      · clear h2
        go_enter Try.func47, Try.ntmps47
        go_wp2
        go_ret
        exact ⟨rfl, grownBy_trans (World.grownBy_alloc _ _ none) (World.grownBy_alloc _ _ none)⟩
      · have h3 : (f.locals.length : Int) < f.args := by omega
        clear h2
        go_enter Try.func47, Try.ntmps47
        go_wp2
        go_ret
        exact ⟨rfl, grownBy_trans (World.grownBy_alloc _ _ none) (World.grownBy_alloc _ _ none)⟩
    · rw [if_neg h2]
      have h0 : ¬ f.args < 0 := by omega
      have h3 : ¬ (f.locals.length : Int) < f.args := by omega
      clear h2
      have HNE := Lib.hid (show freshE ((u.funcs.map Fun.name).take n).reverse f.name = if nameB f.name = false then 171 else if among ((u.funcs.map Fun.name).take n).reverse f.name = true then 172 else 0 from rfl)
      cases hn : nameB f.name with
      | false =>
        rw [hn] at W1 HNE
        have hfr : freshE ((u.funcs.map Fun.name).take n).reverse f.name = 171 := HNE.out
        rw [hfr, if_neg (by decide)]
        clear HNE hfr
        go_enter Try.func47, Try.ntmps47
        go_wp2_with (go_at_call 79; refine (W1.out _).mono ?_; rintro e w' ⟨rfl, rfl⟩)
        go_ret
        exact ⟨rfl, grownBy_trans (World.grownBy_alloc _ _ none) (World.grownBy_alloc _ _ none)⟩
      | true =>
        rw [hn] at W1 HNE
        generalize hv : (if freshE ((u.funcs.map Fun.name).take n).reverse f.name = 0 then namesE [] f.locals else freshE ((u.funcs.map Fun.name).take n).reverse f.name) = v
        have HV := Lib.hid hv
        clear hv
        go_enter Try.func47, Try.ntmps47
        go_wp2_with (go_at_call 79; refine (W1.out _).mono ?_; rintro e w' ⟨rfl, rfl⟩)
        have G0 := Lib.hid (rgrow_two w (.cells #[.slice pt u.texts.length ct, .slice (some ⟨bF, oF, none⟩) u.funcs.length cf] 25) (.cells #[.string f.name, .int .i64 f.args, .slice pl f.locals.length cl, .slice pp f.parts.length cp] 69))
        have hb1 : BoxU ((w.alloc (.cells #[.slice pt u.texts.length ct, .slice (some ⟨bF, oF, none⟩) u.funcs.length cf] 25)).alloc (.cells #[.string f.name, .int .i64 f.args, .slice pl f.locals.length cl, .slice pp f.parts.length cp] 69)) w.heap.size (.slice pt u.texts.length ct) (.slice (some ⟨bF, oF, none⟩) u.funcs.length cf) := boxU_kept (boxU_new w _ _) (World.grownBy_alloc _ _ none) (by simp)
        have hb2 := box_two' w (.cells #[.slice pt u.texts.length ct, .slice (some ⟨bF, oF, none⟩) u.funcs.length cf] 25) (.cells #[.string f.name, .int .i64 f.args, .slice pl f.locals.length cl, .slice pp f.parts.length cp] 69)
        have HB1 := Lib.hid hb1
        have HB2 := Lib.hid hb2
        clear hb1 hb2 q0 q1 q2 q3
        generalize (w.alloc (.cells #[.slice pt u.texts.length ct, .slice (some ⟨bF, oF, none⟩) u.funcs.length cf] 25)).alloc (.cells #[.string f.name, .int .i64 f.args, .slice pl f.locals.length cl, .slice pp f.parts.length cp] 69) = w2 at *
        go_loopw [6] (fun j wr => ∃ m : Nat, j = .int .i64 m ∧ m ≤ n ∧ w2.grownBy wr none ∧ ∀ a (ha : a < (u.funcs.map Fun.name).length), a < m → (((u.funcs.map Fun.name)[a]'ha).toList == f.name.toList) = false) (fun j _ => n - (intOf j).toNat)
        case atStart => exact ⟨0, rfl, Nat.zero_le _, grownBy_refl _ _, fun a _ h => absurd h (Nat.not_lt_zero _)⟩
        case round =>
          obtain ⟨m, rfl, hm, hg, hno⟩ := hrel
          have HG := Lib.hid hg
          have HNO := Lib.hid hno
          have gT := grownBy_trans G0.out hg
          have bu := boxU_kept HB1.out hg (by simp)
          have bf := box_moved HB2.out hg (by simp)
          have u1 := boxU_1 bu
          have ul := boxU_lt bu
          have f0 := cell_of_row wr _ 0 _ _ _ bf
          have f2 := cell_of_row wr _ 2 _ _ _ bf
          have fl := (Array.getElem?_eq_some_iff.1 bf).1
          have hbr : bF < wr.heap.size := Nat.lt_of_lt_of_le hbw gT.size
          by_cases hmn : (m : Int) < (n : Int)
          · obtain ⟨fm, hfm⟩ : ∃ x, u.funcs[m]? = some x := ⟨_, List.getElem?_eq_getElem (by omega)⟩
            obtain ⟨hma, hme⟩ := fn_names hfm
            have c0 := gT.cell (HCF.out m fm hfm).1 (by simp)
            have i1 : (m : Int) < (u.funcs.length : Int) := by omega
            have GT := Lib.hid gT
            clear hg hno bu bf gT
            cases hq : (fm.name.toList == f.name.toList) with
            | true =>
              have hvf : v = 172 := by
                have h1 : freshE ((u.funcs.map Fun.name).take n).reverse f.name = 172 := by rw [HNE.out, if_neg (by decide), if_pos (among_some hma (by omega) (by rw [hme]; exact hq))]
                rw [← HV.out, h1, if_neg (by decide)]
              have HVF := Lib.hid hvf
              clear hvf hme
              go_wp2
              go_quiet (fail)
              go_wp2
              go_ret
              exact ⟨ret_int HVF.out.symm, grownBy_trans GT.out (grownBy_drewN _ _ none)⟩
            | false =>
              have HQ := Lib.hid hq
              have HME := Lib.hid hme
              clear hme
              go_wp2
              go_quiet (fail)
              go_wp2
              go_roundw
              case rel => exact ⟨m + 1, by go_num, by omega, grownBy_trans HG.out (grownBy_drewN _ _ none), fun a ha h => by
                rcases Nat.lt_or_eq_of_le (Nat.le_of_lt_succ h) with h5 | h5
                · exact HNO.out a ha h5
                · subst h5; rw [HME.out]; exact HQ.out⟩
              case measure => simp [intOf]; omega
          · have hmn2 : m = n := by omega
            subst hmn2
            have hvf : v = namesE [] f.locals := by
              have h1 : freshE ((u.funcs.map Fun.name).take m).reverse f.name = 0 := by rw [HNE.out, if_neg (by decide), if_neg (by rw [among_none (by simp; omega) HNO.out]; decide)]
              rw [← HV.out, h1, if_pos rfl]
            have HVF := Lib.hid hvf
            have N1 := Lib.hid (NL.out wr gT)
            have GT := Lib.hid gT
            clear hvf hg hno bu bf gT
            go_wp2_with (go_at_call 46; refine N1.out.mono ?_; rintro e w' ⟨rfl, hg9⟩)
            go_ret
            exact ⟨ret_int HVF.out.symm, grownBy_trans GT.out hg9⟩

end Go.Proofs.Ytecaolkbllbokaa.TG

namespace Go.Proofs.Ytecaolkbllbokaa.TG
open Go.RowKit Go.Great
set_option linter.unusedSimpArgs false
set_option linter.unusedVariables false

set_option maxRecDepth 100000 in
set_option maxHeartbeats 2000000 in
theorem ahead_any (u : Un) (hu : UnWF u) (hnt : u.texts.length ≤ 1024) (n : Int) (hn0 : 0 ≤ n) (hn : n ≤ u.texts.length) (pt pf : Option Addr) (ct cf B : Nat) (w : World) (hU : UnitAt w B pt pf u) :
    Calls Try.prog 29 #[.agg #[.slice pt u.texts.length ct, .slice pf u.funcs.length cf], .int .i64 n] w fun e w' => e = .returned (.int .i64 (bytesTo u.texts n.toNat)) ∧ w.grownBy w' none := by
  have HB := Lib.hid (bytesTo_bound u.texts (fun x hx => (hu.text x hx).2))
  have UU := Lib.hid hU
  obtain ⟨i, rfl⟩ : ∃ i : Nat, n = (i : Int) := ⟨n.toNat, by omega⟩
  clear hU hu
  go_enter Try.func29, Try.ntmps29
  go_wp2
  have B0 := Lib.hid (boxU_new w (.slice pt u.texts.length ct) (.slice pf u.funcs.length cf))
  go_loopw [5, 6] (fun n j wr => ∃ k : Nat, j = .int .i64 k ∧ n = .int .i64 (bytesTo u.texts k) ∧ k ≤ i ∧ wr = w.alloc (.cells #[.slice pt u.texts.length ct, .slice pf u.funcs.length cf] 25)) (fun _ j _ => i - (intOf j).toNat)
  case atStart => exact ⟨0, rfl, rfl, Nat.zero_le _, rfl⟩
  case round =>
    obtain ⟨k, rfl, rfl, hk, rfl⟩ := hrel
    have hb1 := HB.out k
    have hb2 := HB.out (k + 1)
    by_cases hlt : (k : Int) < (i : Int)
    · have hlt2 : (k : Int) < (u.texts.length : Int) := by omega
      obtain ⟨bt, ot, rfl, hbt, hct⟩ := UU.out.texts (by omega)
      obtain ⟨⟨nm, d⟩, hkd⟩ : ∃ x, u.texts[k]? = some x := ⟨_, List.getElem?_eq_getElem (by omega)⟩
      obtain ⟨_, pd, cd, e1, _⟩ := hct k nm d hkd
      have hle := UU.out.le
      have hbw : bt < w.heap.size := by omega
      have hsum : bytesTo u.texts (k + 1) = bytesTo u.texts k + (d.length : Int) := by
        rw [bytesTo]; simp [List.getD, hkd]
      rw [hsum] at hb2
      have HS := Lib.hid hsum
      clear hct hsum
      go_wp2
      go_roundw
      case rel => exact ⟨k + 1, by go_num, by rw [HS.out]; try go_num, by omega, by first | rfl | trivial⟩
      case measure => simp [intOf]; omega
    · have hke : k = i := by omega
      subst hke
      go_wp2
      go_ret
      exact ⟨rfl, World.grownBy_alloc _ _ none⟩

/-- What stands behind a part's kids. -/
def ownL (ts : List (ByteArray × List Int)) (me k n : Int) : List Ln := (finG ts k n).map fun x => lineL me x.1 x.2

theorem own_nil {w w1 : World} {ts : List (ByteArray × List Int)} {me k n : Int} (G : w.grownBy w1 none) (e : Ending) (hf : finG ts k n = []) (he : e = .returned (.slice none 0 0)) : LnsPost w (ownL ts me k n) e w1 := by
  refine ⟨_, he, ?_, G⟩
  unfold ownL; rw [hf]; exact lns_nil _ _
theorem lns_base {w : World} {b b' : Nat} {v : Value} {R : List Ln} (h : LnsAt w b v R) (hb : b' ≤ b) : LnsAt w b' v R := by
  refine ⟨h.1, ?_⟩
  rcases h.2 with h2 | ⟨g, cap, cur, h1, h2, h3⟩
  · exact Or.inl h2
  · exact Or.inr ⟨g, cap, cur, h1, Nat.le_trans hb h2, h3⟩
theorem lns_lit' (w w1 : World) (G : w.grownBy w1 none) (R : List Ln) (cs : Array Value) (hcs : cs.toList = flatLn R) (hR : R.length ≤ 1000) : LnsAt (w1.alloc (.cells cs 86)) w.heap.size (.slice (some ⟨w1.heap.size, 0, none⟩) R.length R.length) R := by
  have h := World.ownsRow_lit (base := w.heap.size) (e := 86) (size := 6) w1 cs R.length G.size (by unfold maxLen; omega) (by
    have := flatLn_length R
    rw [← hcs] at this
    simpa using this)
  rw [hcs] at h
  exact h
theorem own_post {w w1 : World} {ts : List (ByteArray × List Int)} {me k n a b : Int} (G : w.grownBy w1 none) (e : Ending) (hf : finG ts k n = [(a, b)]) (he : e = .returned (.slice (some ⟨w1.heap.size, 0, none⟩) 1 1)) :
    LnsPost w (ownL ts me k n) e (w1.alloc (.cells #[.int .i64 a, .int .i64 b, .int .i64 me, .bool false, .int .i64 0, .bool false] 86)) := by
  refine ⟨_, he, ?_, grownBy_trans G (World.grownBy_alloc _ _ none)⟩
  unfold ownL; rw [hf]
  exact lns_lit' w w1 G [lineL me a b] _ rfl (by simp)
theorem own_post2 {w w1 : World} {ts : List (ByteArray × List Int)} {me k n a b c d : Int} (G : w.grownBy w1 none) (e : Ending) (hf : finG ts k n = [(a, b), (c, d)]) (he : e = .returned (.slice (some ⟨w1.heap.size, 0, none⟩) 2 2)) :
    LnsPost w (ownL ts me k n) e (w1.alloc (.cells #[.int .i64 a, .int .i64 b, .int .i64 me, .bool false, .int .i64 0, .bool false, .int .i64 c, .int .i64 d, .int .i64 me, .bool false, .int .i64 0, .bool false] 86)) := by
  refine ⟨_, he, ?_, grownBy_trans G (World.grownBy_alloc _ _ none)⟩
  unfold ownL; rw [hf]
  exact lns_lit' w w1 G [lineL me a b, lineL me c d] _ rfl (by simp)

end Go.Proofs.Ytecaolkbllbokaa.TG

namespace Go.Proofs.Ytecaolkbllbokaa.TG
open Go.RowKit Go.Great
set_option linter.unusedSimpArgs false
set_option linter.unusedVariables false

abbrev Rs := List Ln × Bool × Nat

def nextR (P : Nat → Rs) (ov : Bool) (a : Nat) : Rs := bif ov then ([], true, a) else ((P a).1, (P a).2.1 || decide (4096 < (P a).1.length), (P a).2.2)
def nx (P : Nat → Rs) (r : Rs) : Rs := nextR P r.2.1 r.2.2

def if3R (P : Nat → Rs) (me : Int) (r : Rs) : Rs := (chosenL me r.1 (nx P r).1 (nx P (nx P r)).1 true, (nx P (nx P r)).2)
def if2R (P : Nat → Rs) (me : Int) (r : Rs) : Rs := (chosenL me r.1 (nx P r).1 [] false, (nx P r).2)
def whR (P : Nat → Rs) (me : Int) (r : Rs) : Rs := (loopL me r.1 (nx P r).1, (nx P r).2)
def twoR (P : Nat → Rs) (me op non : Int) (r : Rs) : Rs := (whetherL me op r.1 (nx P r).1 non, (nx P r).2)
def kidsR (P : Nat → Rs) : Nat → Rs → Rs
  | 0, r => r
  | n + 1, r => bif r.2.1 then r else kidsR P n (r.1 ++ (nx P r).1, (nx P r).2.1 || decide (4096 < (r.1 ++ (nx P r).1).length), (nx P r).2.2)

def partR (ts : List (ByteArray × List Int)) (ps : List (Int × Int × Int)) : Nat → Nat → Rs
  | 0, a => ([], false, a)
  | g + 1, a =>
    match ps[a]? with
    | none => ([], false, a)
    | some (k, n, kc) =>
      if k = 5 then (if kc = 3 then if3R (partR ts ps g) a (nextR (partR ts ps g) false (a + 1)) else if2R (partR ts ps g) a (nextR (partR ts ps g) false (a + 1)))
      else if k = 6 then whR (partR ts ps g) a (nextR (partR ts ps g) false (a + 1))
      else if k = 7 ∨ k = 8 then ([⟨14, 0, a, false, n + 1, decide (k = 8)⟩], false, a + 1)
      else if k = 23 then twoR (partR ts ps g) a 15 0 (nextR (partR ts ps g) false (a + 1))
      else if k = 24 then twoR (partR ts ps g) a 16 1 (nextR (partR ts ps g) false (a + 1))
      else ((kidsR (partR ts ps g) kc.toNat ([], false, a + 1)).1 ++ ownL ts a k n, (kidsR (partR ts ps g) kc.toNat ([], false, a + 1)).2)

def kidsLn (L : Nat → List Ln) (S : Nat → Nat) : Nat → Nat → List Ln
  | 0, _ => []
  | n + 1, a => L a ++ kidsLn L S n (S a)

/-- All lines of a part, however many. -/
def lineP (ts : List (ByteArray × List Int)) (ps : List (Int × Int × Int)) : Nat → Nat → List Ln
  | 0, _ => []
  | g + 1, a =>
    match ps[a]? with
    | none => []
    | some (k, n, kc) =>
      if k = 5 then (if kc = 3 then chosenL a (lineP ts ps g (a + 1)) (lineP ts ps g (skipS ps g (a + 1))) (lineP ts ps g (skipS ps g (skipS ps g (a + 1)))) true else chosenL a (lineP ts ps g (a + 1)) (lineP ts ps g (skipS ps g (a + 1))) [] false)
      else if k = 6 then loopL a (lineP ts ps g (a + 1)) (lineP ts ps g (skipS ps g (a + 1)))
      else if k = 7 ∨ k = 8 then [⟨14, 0, a, false, n + 1, decide (k = 8)⟩]
      else if k = 23 then whetherL a 15 (lineP ts ps g (a + 1)) (lineP ts ps g (skipS ps g (a + 1))) 0
      else if k = 24 then whetherL a 16 (lineP ts ps g (a + 1)) (lineP ts ps g (skipS ps g (a + 1))) 1
      else kidsLn (lineP ts ps g) (skipS ps g) kc.toNat (a + 1) ++ ownL ts a k n

def Outs (m : Nat) (R : List Ln) : Prop := ∀ x ∈ R, 0 ≤ x.out ∧ x.out ≤ (m : Int)
structure Fit (r : Rs) (T : List Ln) (s m : Nat) : Prop where
  ok : r.2.1 = false → r.1 = T ∧ r.2.2 = s
  bad : r.2.1 = true → 4096 < T.length
  le : r.1.length ≤ T.length
  outs : Outs m r.1

theorem outs_nil (m : Nat) : Outs m [] := fun x h => by cases h
theorem outs_app {m : Nat} {a b : List Ln} (h : Outs m a) (h2 : Outs m b) : Outs m (a ++ b) := fun x hx => by
  rcases List.mem_append.1 hx with hx | hx
  · exact h x hx
  · exact h2 x hx
theorem outs_one {m : Nat} {x : Ln} (h : x.out = 0) : Outs m [x] := fun y hy => by
  simp at hy; subst hy; omega
theorem outs_map {m : Nat} (me : Int) (l : List (Int × Int)) : Outs m (l.map fun x => lineL me x.1 x.2) := fun y hy => by
  obtain ⟨x, _, rfl⟩ := List.mem_map.1 hy
  simp [lineL]
theorem outs_fill {m : Nat} (k b : Nat) : ∀ (i : Nat) (R : List Ln), Outs (m + 1) R → Outs m (loopFill k b i R)
  | i, [], _ => outs_nil m
  | i, x :: r, h => fun y hy => by
    rw [loopFill] at hy
    rcases List.mem_cons.1 hy with rfl | hy
    · have := h x (List.mem_cons_self ..)
      unfold fillL
      by_cases h1 : x.out = 1
      · rw [if_pos h1]; simp
      · rw [if_neg h1]
        by_cases h2 : 0 < x.out
        · rw [if_pos h2]; simp only []; omega
        · rw [if_neg h2]; omega
    · exact outs_fill k b (i + 1) r (fun z hz => h z (List.mem_cons_of_mem _ hz)) y hy
theorem outs_chosen {m : Nat} {me : Int} {k one two : List Ln} {b : Bool} (hk : Outs m k) (h1 : Outs m one) (h2 : Outs m two) : Outs m (chosenL me k one two b) := by
  unfold chosenL
  cases b
  · exact outs_app (outs_app (outs_app (outs_nil m) hk) (outs_one rfl)) h1
  · exact outs_app (outs_app (outs_app (outs_app (outs_app (outs_nil m) hk) (outs_one rfl)) h1) (outs_one rfl)) h2
theorem outs_loop {m : Nat} {me : Int} {k one : List Ln} (hk : Outs m k) (h1 : Outs (m + 1) one) : Outs m (loopL me k one) :=
  outs_app (outs_app (outs_app (outs_app (outs_nil m) hk) (outs_one rfl)) (outs_fill _ _ _ _ h1)) (outs_one rfl)
theorem outs_whether {m : Nat} {me op non : Int} {k one : List Ln} (hk : Outs m k) (h1 : Outs m one) : Outs m (whetherL me op k one non) := by
  unfold whetherL
  refine outs_app (outs_app (outs_app (outs_app (outs_app (outs_nil m) hk) (outs_one rfl)) h1) ?_) ?_
  · exact outs_map me [(3, 0), (31, 0), (3, 0), (31, 0)]
  · intro x hx
    simp at hx
    rcases hx with rfl | rfl <;> simp [jumpL, lineL]

theorem chosen3_len (me : Int) (k one two : List Ln) : (chosenL me k one two true).length = k.length + one.length + two.length + 2 := by
  simp [chosenL]; omega
theorem chosen2_len (me : Int) (k one two : List Ln) : (chosenL me k one two false).length = k.length + one.length + 1 := by
  simp [chosenL]; omega
theorem loop_len (me : Int) (k one : List Ln) : (loopL me k one).length = k.length + one.length + 2 := by
  simp [loopL, loopFill_length]; omega
theorem whether_len (me op non : Int) (k one : List Ln) : (whetherL me op k one non).length = k.length + one.length + 7 := by
  simp [whetherL]; omega

theorem next_fit {P : Nat → Rs} {T : List Ln} {a s m : Nat} (h : Fit (P a) T s m) : Fit (nextR P false a) T s m := by
  unfold nextR
  simp only [cond_false]
  refine ⟨fun e => ?_, fun e => ?_, h.le, h.outs⟩
  · simp only [Bool.or_eq_false_iff] at e
    exact h.ok e.1
  · simp only [Bool.or_eq_true, decide_eq_true_eq] at e
    rcases e with e | e
    · exact h.bad e
    · have := h.le; omega

theorem nx_over {P : Nat → Rs} {r : Rs} (h : r.2.1 = true) : nx P r = ([], true, r.2.2) := by unfold nx nextR; rw [h]; rfl
theorem nx_go {P : Nat → Rs} {r : Rs} (h : r.2.1 = false) : nx P r = nextR P false r.2.2 := by unfold nx; rw [h]
theorem nx_fit {P : Nat → Rs} {r : Rs} {T T2 : List Ln} {s s2 m m2 : Nat} (h : Fit r T s m) (h2 : Fit (P s) T2 s2 m2) (e : r.2.1 = false) : Fit (nx P r) T2 s2 m2 := by
  rw [nx_go e, (h.ok e).2]; exact next_fit h2

theorem if3_fit {P : Nat → Rs} {me : Int} {r : Rs} {T1 T2 T3 : List Ln} {s1 s2 s3 m : Nat} (h1 : Fit r T1 s1 m) (h2 : Fit (P s1) T2 s2 m) (h3 : Fit (P s2) T3 s3 m) : Fit (if3R P me r) (chosenL me T1 T2 T3 true) s3 m := by
  unfold if3R
  have l1 := h1.le
  cases e : r.2.1 with
  | true =>
    have n1 := nx_over (P := P) e
    have n2 : nx P (nx P r) = ([], true, r.2.2) := by rw [n1]; rfl
    rw [n2, n1]
    have := h1.bad e
    exact ⟨fun h => by simp at h, fun _ => by rw [chosen3_len]; omega, by simp only [chosen3_len, List.length_nil]; omega, outs_chosen (me := me) (b := true) h1.outs (outs_nil m) (outs_nil m)⟩
  | false =>
    have f2 := nx_fit h1 h2 e
    have l2 := f2.le
    cases e2 : (nx P r).2.1 with
    | true =>
      have n2 := nx_over (P := P) e2
      rw [n2]
      have := f2.bad e2
      exact ⟨fun h => by simp at h, fun _ => by rw [chosen3_len]; omega, by simp only [chosen3_len, List.length_nil]; omega, outs_chosen (me := me) (b := true) h1.outs f2.outs (outs_nil m)⟩
    | false =>
      have f3 := nx_fit f2 h3 e2
      have l3 := f3.le
      refine ⟨fun h => ?_, fun h => ?_, by simp only [chosen3_len]; omega, outs_chosen (me := me) (b := true) h1.outs f2.outs f3.outs⟩
      · obtain ⟨q1, q2⟩ := f3.ok h
        exact ⟨by simp only [(h1.ok e).1, (f2.ok e2).1, q1], q2⟩
      · have := f3.bad h
        rw [chosen3_len]; omega

theorem if2_fit {P : Nat → Rs} {me : Int} {r : Rs} {T1 T2 : List Ln} {s1 s2 m : Nat} (h1 : Fit r T1 s1 m) (h2 : Fit (P s1) T2 s2 m) : Fit (if2R P me r) (chosenL me T1 T2 [] false) s2 m := by
  unfold if2R
  have l1 := h1.le
  cases e : r.2.1 with
  | true =>
    rw [nx_over (P := P) e]
    have := h1.bad e
    exact ⟨fun h => by simp at h, fun _ => by rw [chosen2_len]; omega, by simp only [chosen2_len, List.length_nil]; omega, outs_chosen (me := me) (b := false) h1.outs (outs_nil m) (outs_nil m)⟩
  | false =>
    have f2 := nx_fit h1 h2 e
    have l2 := f2.le
    refine ⟨fun h => ?_, fun h => ?_, by simp only [chosen2_len]; omega, outs_chosen (me := me) (b := false) h1.outs f2.outs (outs_nil m)⟩
    · obtain ⟨q1, q2⟩ := f2.ok h
      exact ⟨by simp only [(h1.ok e).1, q1], q2⟩
    · have := f2.bad h
      rw [chosen2_len]; omega

theorem wh_fit {P : Nat → Rs} {me : Int} {r : Rs} {T1 T2 : List Ln} {s1 s2 m : Nat} (h1 : Fit r T1 s1 m) (h2 : Fit (P s1) T2 s2 (m + 1)) : Fit (whR P me r) (loopL me T1 T2) s2 m := by
  unfold whR
  have l1 := h1.le
  cases e : r.2.1 with
  | true =>
    rw [nx_over (P := P) e]
    have := h1.bad e
    exact ⟨fun h => by simp at h, fun _ => by rw [loop_len]; omega, by simp only [loop_len, List.length_nil]; omega, outs_loop h1.outs (outs_nil _)⟩
  | false =>
    have f2 := nx_fit h1 h2 e
    have l2 := f2.le
    refine ⟨fun h => ?_, fun h => ?_, by simp only [loop_len]; omega, outs_loop h1.outs f2.outs⟩
    · obtain ⟨q1, q2⟩ := f2.ok h
      exact ⟨by simp only [(h1.ok e).1, q1], q2⟩
    · have := f2.bad h
      rw [loop_len]; omega

theorem two_fit {P : Nat → Rs} {me op non : Int} {r : Rs} {T1 T2 : List Ln} {s1 s2 m : Nat} (h1 : Fit r T1 s1 m) (h2 : Fit (P s1) T2 s2 m) : Fit (twoR P me op non r) (whetherL me op T1 T2 non) s2 m := by
  unfold twoR
  have l1 := h1.le
  cases e : r.2.1 with
  | true =>
    rw [nx_over (P := P) e]
    have := h1.bad e
    exact ⟨fun h => by simp at h, fun _ => by rw [whether_len]; omega, by simp only [whether_len, List.length_nil]; omega, outs_whether h1.outs (outs_nil m)⟩
  | false =>
    have f2 := nx_fit h1 h2 e
    have l2 := f2.le
    refine ⟨fun h => ?_, fun h => ?_, by simp only [whether_len]; omega, outs_whether h1.outs f2.outs⟩
    · obtain ⟨q1, q2⟩ := f2.ok h
      exact ⟨by simp only [(h1.ok e).1, q1], q2⟩
    · have := f2.bad h
      rw [whether_len]; omega

theorem kids_over {P : Nat → Rs} : ∀ (n : Nat) (r : Rs), r.2.1 = true → kidsR P n r = r
  | 0, r, _ => rfl
  | n + 1, r, h => by rw [kidsR, h]; rfl
theorem kids_go {P : Nat → Rs} (n : Nat) (r : Rs) (h : r.2.1 = false) : kidsR P (n + 1) r = kidsR P n (r.1 ++ (nx P r).1, (nx P r).2.1 || decide (4096 < (r.1 ++ (nx P r).1).length), (nx P r).2.2) := by
  rw [kidsR, h]; rfl

theorem kids_fit {P : Nat → Rs} {L : Nat → List Ln} {S : Nat → Nat} {O : Nat → Prop} {m : Nat} (IH : ∀ a, O a → Fit (P a) (L a) (S a) m) : ∀ (n : Nat) (r : Rs) (T : List Ln) (a : Nat), Fit r T a m → kidsO O S n a → Fit (kidsR P n r) (T ++ kidsLn L S n a) (kidsS S n a) m
  | 0, r, T, a, h, _ => by
    show Fit r _ _ m
    simp only [kidsLn, List.append_nil, kidsS]; exact h
  | n + 1, r, T, a, h, ho => by
    cases e : r.2.1 with
    | true =>
      rw [kids_over _ _ e]
      have := h.bad e
      exact ⟨(fun e' => by rw [e] at e'; cases e'), (fun _ => by simp only [List.length_append]; omega), by have := h.le; simp only [List.length_append]; omega, h.outs⟩
    | false =>
      rw [kids_go _ _ e]
      have f2 := nx_fit h (IH a ho.1) e
      have l2 := f2.le
      have l1 := h.le
      obtain ⟨t1, t2⟩ := h.ok e
      have f3 : Fit (r.1 ++ (nx P r).1, (nx P r).2.1 || decide (4096 < (r.1 ++ (nx P r).1).length), (nx P r).2.2) (T ++ L a) (S a) m := by
        refine ⟨fun e' => ?_, fun e' => ?_, by simp only [List.length_append]; omega, outs_app h.outs f2.outs⟩
        · simp only [Bool.or_eq_false_iff] at e'
          obtain ⟨q1, q2⟩ := f2.ok e'.1
          exact ⟨by simp only [t1, q1], q2⟩
        · simp only [Bool.or_eq_true, decide_eq_true_eq] at e'
          rcases e' with e' | e'
          · have := f2.bad e'; simp only [List.length_append]; omega
          · simp only [List.length_append] at e' ⊢; omega
      have := kids_fit IH n _ _ _ f3 ho.2
      rw [List.append_assoc] at this
      exact this

theorem part_fit (ts : List (ByteArray × List Int)) (ps : List (Int × Int × Int)) : ∀ (g m a : Nat), okP ts.length ps g m a → Fit (partR ts ps g a) (lineP ts ps g a) (skipS ps g a) m
  | 0, m, a, h => h.elim
  | g + 1, m, a, h => by
    obtain ⟨k, n, kc, hp, hw, ho⟩ := h
    have IH := part_fit ts ps g
    have eS : skipS ps (g + 1) a = kidsS (skipS ps g) kc.toNat (a + 1) := by rw [skipS, hp]
    rw [eS, partR, lineP, hp]
    simp only []
    by_cases h5 : k = 5
    · rw [if_neg (by omega)] at ho
      rw [if_pos h5, if_pos h5]
      rcases hw.i h5 with rfl | rfl
      · rw [if_neg (by decide), if_neg (by decide)]
        exact if2_fit (next_fit (IH m _ ho.1)) (IH m _ ho.2.1)
      · rw [if_pos rfl, if_pos rfl]
        exact if3_fit (next_fit (IH m _ ho.1)) (IH m _ ho.2.1) (IH m _ ho.2.2.1)
    rw [if_neg h5, if_neg h5]
    by_cases h6 : k = 6
    · rw [if_pos h6] at ho
      have e2 : kc = 2 := hw.w (Or.inl h6)
      subst e2
      rw [if_pos h6, if_pos h6]
      exact wh_fit (next_fit (IH m _ ho.1)) (IH (m + 1) _ ho.2)
    rw [if_neg h6] at ho
    rw [if_neg h6, if_neg h6]
    by_cases h7 : k = 7 ∨ k = 8
    · obtain ⟨e0, hn0, hnm⟩ := hw.l h7
      subst e0
      rw [if_pos h7, if_pos h7]
      exact ⟨fun _ => ⟨rfl, rfl⟩, (fun h => by cases h), Nat.le_refl _, fun x hx => by simp at hx; subst hx; simp only []; omega⟩
    rw [if_neg h7, if_neg h7]
    by_cases h23 : k = 23
    · have e2 : kc = 2 := hw.w (Or.inr (Or.inl h23))
      subst e2
      rw [if_pos h23, if_pos h23]
      exact two_fit (next_fit (IH m _ ho.1)) (IH m _ ho.2.1)
    rw [if_neg h23, if_neg h23]
    by_cases h24 : k = 24
    · have e2 : kc = 2 := hw.w (Or.inr (Or.inr h24))
      subst e2
      rw [if_pos h24, if_pos h24]
      exact two_fit (next_fit (IH m _ ho.1)) (IH m _ ho.2.1)
    rw [if_neg h24, if_neg h24]
    have f := kids_fit (IH m) kc.toNat ([], false, a + 1) [] (a + 1) ⟨fun _ => ⟨rfl, rfl⟩, (fun h => by cases h), Nat.le_refl _, outs_nil m⟩ ho
    rw [List.nil_append] at f
    refine ⟨fun e => ?_, fun e => ?_, ?_, outs_app f.outs (outs_map _ _)⟩
    · obtain ⟨q1, q2⟩ := f.ok e
      exact ⟨by simp only [q1], q2⟩
    · have := f.bad e
      simp only [List.length_append]; omega
    · have := f.le
      simp only [List.length_append]; omega

/-- What is written is never far too much. -/
theorem next_len {P : Nat → Rs} {r : Rs} {C : Nat} (h : ∀ a, (P a).1.length ≤ C) : (nx P r).1.length ≤ C ∧ ((nx P r).2.1 = false → (nx P r).1.length ≤ 4096 ∧ r.2.1 = false) := by
  cases e : r.2.1 with
  | true => rw [nx_over e]; exact ⟨by simp, (fun h => by cases h)⟩
  | false =>
    rw [nx_go e]
    unfold nextR
    simp only [cond_false]
    refine ⟨h _, fun e' => ?_⟩
    simp only [Bool.or_eq_false_iff, decide_eq_false_iff_not] at e'
    exact ⟨by omega, trivial⟩
theorem first_len {P : Nat → Rs} {a : Nat} {C : Nat} (h : ∀ a, (P a).1.length ≤ C) : (nextR P false a).1.length ≤ C ∧ ((nextR P false a).2.1 = false → (nextR P false a).1.length ≤ 4096) := by
  have := next_len (r := ([], false, a)) h
  exact ⟨this.1, fun e => (this.2 e).1⟩
theorem nx_nil {P : Nat → Rs} {r : Rs} (h : r.2.1 = true) : (nx P r).1.length = 0 ∧ (nx P r).2.1 = true := by rw [nx_over h]; exact ⟨rfl, rfl⟩

theorem kids_len {P : Nat → Rs} {C : Nat} (h : ∀ a, (P a).1.length ≤ C) : ∀ (n : Nat) (r : Rs), r.1.length ≤ 4096 + C → (r.2.1 = false → r.1.length ≤ 4096) → (kidsR P n r).1.length ≤ 4096 + C
  | 0, r, h1, _ => h1
  | n + 1, r, h1, h2 => by
    cases e : r.2.1 with
    | true => rw [kids_over _ _ e]; exact h1
    | false =>
      rw [kids_go _ _ e]
      have l := next_len (r := r) h
      have := h2 e
      refine kids_len h n _ (by simp only [List.length_append]; omega) fun e' => ?_
      simp only [Bool.or_eq_false_iff, decide_eq_false_iff_not] at e'
      simp only []; omega

theorem part_len (ts : List (ByteArray × List Int)) (ps : List (Int × Int × Int)) : ∀ (g a : Nat), (partR ts ps g a).1.length ≤ 9000 * (g + 1)
  | 0, a => by simp [partR]
  | g + 1, a => by
    have IH := part_len ts ps g
    rw [partR]
    cases hp : ps[a]? with
    | none => simp
    | some x =>
      obtain ⟨k, n, kc⟩ := x
      simp only []
      have f1 := first_len (a := a + 1) IH
      have f2 := next_len (r := nextR (partR ts ps g) false (a + 1)) IH
      have f3 := next_len (r := nx (partR ts ps g) (nextR (partR ts ps g) false (a + 1))) IH
      have key : (nextR (partR ts ps g) false (a + 1)).1.length + (nx (partR ts ps g) (nextR (partR ts ps g) false (a + 1))).1.length + (nx (partR ts ps g) (nx (partR ts ps g) (nextR (partR ts ps g) false (a + 1)))).1.length ≤ 9000 * (g + 1) + 8192 := by
        cases e1 : (nextR (partR ts ps g) false (a + 1)).2.1 with
        | true =>
          have n1 := nx_nil (P := partR ts ps g) e1
          have n2 := nx_nil (P := partR ts ps g) n1.2
          omega
        | false =>
          have := f1.2 e1
          cases e2 : (nx (partR ts ps g) (nextR (partR ts ps g) false (a + 1))).2.1 with
          | true =>
            have n2 := nx_nil (P := partR ts ps g) e2
            omega
          | false =>
            have := (f2.2 e2).1
            omega
      split
      · split
        · unfold if3R; simp only [chosen3_len]; omega
        · unfold if2R; simp only [chosen2_len]; omega
      · split
        · unfold whR; simp only [loop_len]; omega
        · split
          · simp; omega
          · split
            · unfold twoR; simp only [whether_len]; omega
            · split
              · unfold twoR; simp only [whether_len]; omega
              · have := kids_len IH kc.toNat ([], false, a + 1) (by simp) (fun _ => by simp)
                have h2 : (ownL ts a k n).length ≤ 2 := by unfold ownL; rw [List.length_map]; exact fin_len ts k n
                simp only [List.length_append]; omega

end Go.Proofs.Ytecaolkbllbokaa.TG

namespace Go.Proofs.Ytecaolkbllbokaa.TG
open Go.RowKit Go.Great
set_option linter.unusedSimpArgs false
set_option linter.unusedVariables false

set_option maxRecDepth 100000 in
set_option maxHeartbeats 4000000 in
theorem own_k2 (u : Un) (hu : UnWF u) (hnt : u.texts.length ≤ 1024) (me n kc : Int) (pt pf : Option Addr) (ct cf B : Nat) (w : World) (hU : UnitAt w B pt pf u) :
    Calls Try.prog 111 #[.agg #[.slice pt u.texts.length ct, .slice pf u.funcs.length cf], .int .i64 me, .agg #[.int .i64 2, .int .i64 n, .int .i64 kc]] w (LnsPost w (ownL u.texts me 2 n)) := by
  have UU := Lib.hid hU
  have G0 := Lib.hid (rgrow_two w (.cells #[.slice pt u.texts.length ct, .slice pf u.funcs.length cf] 25) (.cells #[.int .i64 2, .int .i64 n, .int .i64 kc] 108))
  clear hU
  go_enter Try.func111, Try.ntmps111
  go_wp2_with ((go_at_call 50; refine (line_raw _ _ _ _).mono ?_; rintro e wj ⟨rfl, hg⟩; first | (have G2 := Lib.hid (grownBy_trans G1.out hg); clear G1 hg) | (have G1 := Lib.hid (grownBy_trans G0.out hg); clear G0 hg)))
  go_ret
  exact own_post G1.out _ rfl rfl

set_option maxRecDepth 100000 in
set_option maxHeartbeats 4000000 in
theorem own_k3 (u : Un) (hu : UnWF u) (hnt : u.texts.length ≤ 1024) (me n kc : Int) (pt pf : Option Addr) (ct cf B : Nat) (w : World) (hU : UnitAt w B pt pf u) :
    Calls Try.prog 111 #[.agg #[.slice pt u.texts.length ct, .slice pf u.funcs.length cf], .int .i64 me, .agg #[.int .i64 3, .int .i64 n, .int .i64 kc]] w (LnsPost w (ownL u.texts me 3 n)) := by
  have UU := Lib.hid hU
  have G0 := Lib.hid (rgrow_two w (.cells #[.slice pt u.texts.length ct, .slice pf u.funcs.length cf] 25) (.cells #[.int .i64 3, .int .i64 n, .int .i64 kc] 108))
  clear hU
  go_enter Try.func111, Try.ntmps111
  go_wp2_with ((go_at_call 50; refine (line_raw _ _ _ _).mono ?_; rintro e wj ⟨rfl, hg⟩; first | (have G2 := Lib.hid (grownBy_trans G1.out hg); clear G1 hg) | (have G1 := Lib.hid (grownBy_trans G0.out hg); clear G0 hg)))
  go_ret
  exact own_post G1.out _ rfl rfl

set_option maxRecDepth 100000 in
set_option maxHeartbeats 4000000 in
theorem own_k4 (u : Un) (hu : UnWF u) (hnt : u.texts.length ≤ 1024) (me n kc : Int) (pt pf : Option Addr) (ct cf B : Nat) (w : World) (hU : UnitAt w B pt pf u) :
    Calls Try.prog 111 #[.agg #[.slice pt u.texts.length ct, .slice pf u.funcs.length cf], .int .i64 me, .agg #[.int .i64 4, .int .i64 n, .int .i64 kc]] w (LnsPost w (ownL u.texts me 4 n)) := by
  have UU := Lib.hid hU
  have G0 := Lib.hid (rgrow_two w (.cells #[.slice pt u.texts.length ct, .slice pf u.funcs.length cf] 25) (.cells #[.int .i64 4, .int .i64 n, .int .i64 kc] 108))
  clear hU
  go_enter Try.func111, Try.ntmps111
  go_wp2_with ((go_at_call 50; refine (line_raw _ _ _ _).mono ?_; rintro e wj ⟨rfl, hg⟩; first | (have G2 := Lib.hid (grownBy_trans G1.out hg); clear G1 hg) | (have G1 := Lib.hid (grownBy_trans G0.out hg); clear G0 hg)))
  go_ret
  exact own_post G1.out _ rfl rfl

set_option maxRecDepth 100000 in
set_option maxHeartbeats 4000000 in
theorem own_k9 (u : Un) (hu : UnWF u) (hnt : u.texts.length ≤ 1024) (me n kc : Int) (pt pf : Option Addr) (ct cf B : Nat) (w : World) (hU : UnitAt w B pt pf u) :
    Calls Try.prog 111 #[.agg #[.slice pt u.texts.length ct, .slice pf u.funcs.length cf], .int .i64 me, .agg #[.int .i64 9, .int .i64 n, .int .i64 kc]] w (LnsPost w (ownL u.texts me 9 n)) := by
  have UU := Lib.hid hU
  have G0 := Lib.hid (rgrow_two w (.cells #[.slice pt u.texts.length ct, .slice pf u.funcs.length cf] 25) (.cells #[.int .i64 9, .int .i64 n, .int .i64 kc] 108))
  clear hU
  go_enter Try.func111, Try.ntmps111
  go_wp2_with ((go_at_call 50; refine (line_raw _ _ _ _).mono ?_; rintro e wj ⟨rfl, hg⟩; first | (have G2 := Lib.hid (grownBy_trans G1.out hg); clear G1 hg) | (have G1 := Lib.hid (grownBy_trans G0.out hg); clear G0 hg)))
  go_ret
  exact own_post G1.out _ rfl rfl

set_option maxRecDepth 100000 in
set_option maxHeartbeats 4000000 in
theorem own_k10 (u : Un) (hu : UnWF u) (hnt : u.texts.length ≤ 1024) (me n kc : Int) (pt pf : Option Addr) (ct cf B : Nat) (w : World) (hU : UnitAt w B pt pf u) :
    Calls Try.prog 111 #[.agg #[.slice pt u.texts.length ct, .slice pf u.funcs.length cf], .int .i64 me, .agg #[.int .i64 10, .int .i64 n, .int .i64 kc]] w (LnsPost w (ownL u.texts me 10 n)) := by
  have UU := Lib.hid hU
  have G0 := Lib.hid (rgrow_two w (.cells #[.slice pt u.texts.length ct, .slice pf u.funcs.length cf] 25) (.cells #[.int .i64 10, .int .i64 n, .int .i64 kc] 108))
  clear hU
  go_enter Try.func111, Try.ntmps111
  go_wp2_with ((go_at_call 50; refine (line_raw _ _ _ _).mono ?_; rintro e wj ⟨rfl, hg⟩; first | (have G2 := Lib.hid (grownBy_trans G1.out hg); clear G1 hg) | (have G1 := Lib.hid (grownBy_trans G0.out hg); clear G0 hg)))
  go_ret
  exact own_post G1.out _ rfl rfl

set_option maxRecDepth 100000 in
set_option maxHeartbeats 4000000 in
theorem own_k11 (u : Un) (hu : UnWF u) (hnt : u.texts.length ≤ 1024) (me n kc : Int) (pt pf : Option Addr) (ct cf B : Nat) (w : World) (hU : UnitAt w B pt pf u) :
    Calls Try.prog 111 #[.agg #[.slice pt u.texts.length ct, .slice pf u.funcs.length cf], .int .i64 me, .agg #[.int .i64 11, .int .i64 n, .int .i64 kc]] w (LnsPost w (ownL u.texts me 11 n)) := by
  have UU := Lib.hid hU
  have G0 := Lib.hid (rgrow_two w (.cells #[.slice pt u.texts.length ct, .slice pf u.funcs.length cf] 25) (.cells #[.int .i64 11, .int .i64 n, .int .i64 kc] 108))
  clear hU
  go_enter Try.func111, Try.ntmps111
  go_wp2_with ((go_at_call 50; refine (line_raw _ _ _ _).mono ?_; rintro e wj ⟨rfl, hg⟩; first | (have G2 := Lib.hid (grownBy_trans G1.out hg); clear G1 hg) | (have G1 := Lib.hid (grownBy_trans G0.out hg); clear G0 hg)))
  go_ret
  exact own_post G1.out _ rfl rfl

set_option maxRecDepth 100000 in
set_option maxHeartbeats 4000000 in
theorem own_k12 (u : Un) (hu : UnWF u) (hnt : u.texts.length ≤ 1024) (me n kc : Int) (pt pf : Option Addr) (ct cf B : Nat) (w : World) (hU : UnitAt w B pt pf u) :
    Calls Try.prog 111 #[.agg #[.slice pt u.texts.length ct, .slice pf u.funcs.length cf], .int .i64 me, .agg #[.int .i64 12, .int .i64 n, .int .i64 kc]] w (LnsPost w (ownL u.texts me 12 n)) := by
  have UU := Lib.hid hU
  have G0 := Lib.hid (rgrow_two w (.cells #[.slice pt u.texts.length ct, .slice pf u.funcs.length cf] 25) (.cells #[.int .i64 12, .int .i64 n, .int .i64 kc] 108))
  clear hU
  go_enter Try.func111, Try.ntmps111
  go_wp2_with ((go_at_call 50; refine (line_raw _ _ _ _).mono ?_; rintro e wj ⟨rfl, hg⟩; first | (have G2 := Lib.hid (grownBy_trans G1.out hg); clear G1 hg) | (have G1 := Lib.hid (grownBy_trans G0.out hg); clear G0 hg)))
  go_ret
  exact own_post G1.out _ rfl rfl

set_option maxRecDepth 100000 in
set_option maxHeartbeats 4000000 in
theorem own_k13 (u : Un) (hu : UnWF u) (hnt : u.texts.length ≤ 1024) (me n kc : Int) (pt pf : Option Addr) (ct cf B : Nat) (w : World) (hU : UnitAt w B pt pf u) :
    Calls Try.prog 111 #[.agg #[.slice pt u.texts.length ct, .slice pf u.funcs.length cf], .int .i64 me, .agg #[.int .i64 13, .int .i64 n, .int .i64 kc]] w (LnsPost w (ownL u.texts me 13 n)) := by
  have UU := Lib.hid hU
  have G0 := Lib.hid (rgrow_two w (.cells #[.slice pt u.texts.length ct, .slice pf u.funcs.length cf] 25) (.cells #[.int .i64 13, .int .i64 n, .int .i64 kc] 108))
  clear hU
  go_enter Try.func111, Try.ntmps111
  go_wp2_with ((go_at_call 50; refine (line_raw _ _ _ _).mono ?_; rintro e wj ⟨rfl, hg⟩; first | (have G2 := Lib.hid (grownBy_trans G1.out hg); clear G1 hg) | (have G1 := Lib.hid (grownBy_trans G0.out hg); clear G0 hg)))
  go_ret
  exact own_post G1.out _ rfl rfl

end Go.Proofs.Ytecaolkbllbokaa.TG
