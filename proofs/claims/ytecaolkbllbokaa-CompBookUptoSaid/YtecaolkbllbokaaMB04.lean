/-
  Walk of package tongue's fresh: a name noted in a map of names. Conditions: as each theorem states.
  Walk of package tongue's head: a function of the small language without its parts. Conditions: as each theorem states.
  Walks of package tongue's kids: blocks, tests, calls. Conditions: as each theorem states.
  Walks of package tongue's kinds and kid: what a part's kind is, and what its kids must be. Conditions: none.
  Walk of package tongue's want: how many cells a part wants. Conditions: as each theorem states.
  Walks of package tongue's kids at a call. Conditions: as each theorem states.
  The checker's number and kids joined. Conditions: as each theorem states.
-/
import Derived.Test.YtecaolkbllbokaaMB00
import Derived.Maps.Own
import Derived.Maps.OwnOps
import Derived.Maps.OwnSet
import Derived.StringKeys
import Derived.Lib.Hide
import Derived.Carry
import Derived.Test.YtecaolkbllbokaaMB03
import Derived.Deep.QuietTactic
import Derived.BigQuiet
import Derived.Test.YtecaolkbllbokaaMB01
import Derived.Test.YtecaolkbllbokaaMB02
namespace Go.Proofs.Ytecaolkbllbokaa.TG
open Go.RowKit Go.Great Go.Maps Go.ChangeShapes Go.ChangeMaps Go.WideMaps
set_option linter.unusedSimpArgs false
set_option linter.unusedVariables false

theorem law : Keyed Try.prog 9 := string_keyed Try.underlying9
theorem zeroE (w : World) : (zeroValue 3).run Try.prog w = .ok (.int .i64 0) w := by kernel_rfl

/-- Block b is a map whose keys are just these names. -/
def NameSet (w : World) (b : Nat) (ns : List ByteArray) : Prop := ∃ (n : Nat) (D : DataW Unit), w.ownsMap Try.prog 9 (plainElem Try.prog 3) b n D ∧ n ≤ ns.length ∧ IsMap D ∧
  ∀ s : ByteArray, has D (.string s.data.toList) = among ns s

theorem nameSet_made (w : World) : NameSet (w.alloc (.map #[] 0)) w.heap.size [] :=
  ⟨0, .map [], World.ownsMap_made _ _ _ _, Nat.le_refl _, ⟨[], rfl⟩, fun s => rfl⟩

theorem nameSet_kept {w w' : World} {b : Nat} {ns : List ByteArray} {r : Option Nat} (h : NameSet w b ns) (hg : w.grownBy w' r) (hr : some b ≠ r) : NameSet w' b ns := by
  obtain ⟨n, D, h1, h2, h3, h4⟩ := h
  exact ⟨n, D, h1.kept hg hr, h2, h3, h4⟩

/-- The fault of a name: none (0), no name (171), it is there (172). -/
def freshE (ns : List ByteArray) (s : ByteArray) : Int := if nameB s = false then 171 else if among ns s = true then 172 else 0

theorem nameSet_put (w' : World) (b n : Nat) (D : DataW Unit) (ns : List ByteArray) (s : ByteArray) (d : DataW Unit) (h : w'.ownsMap Try.prog 9 (plainElem Try.prog 3) b (n + 1) (D.put (.string s.data.toList) d)) (hn : n ≤ ns.length)
    (hm : IsMap D) (hh : ∀ s : ByteArray, has D (.string s.data.toList) = among ns s) : NameSet w' b (s :: ns) := by
  refine ⟨n + 1, _, h, by simp; omega, ?_, fun u => ?_⟩
  · obtain ⟨es, rfl⟩ := hm; exact ⟨_, rfl⟩
  · by_cases hu : u.data.toList = s.data.toList
    · rw [hu, has_put_same hm (by trivial)]
      have hs : (u.toList == s.toList) = true := by rw [ByteArray.toList_eq, ByteArray.toList_eq, hu]; simp
      unfold among; simp only [List.any_cons, hs, Bool.true_or]
    · rw [has_put_other (by intro h; injection h with h; exact hu h), hh u]
      have hs : (u.toList == s.toList) = false := by
        rw [beq_eq_false_iff_ne, ByteArray.toList_eq, ByteArray.toList_eq]; exact hu
      unfold among; simp only [List.any_cons, hs, Bool.false_or]

theorem WF (D : DataW Unit) (n : Nat) (w : World) {b : Nat} {R : Value → Option (DataW Unit × List MemPlace)} (h : w.ownsMap Try.prog 9 R b n D) (hn : n < 1000000) : (Lit.int .i64 (Maps.size D : Int)).wf = true := by
  have hs : Maps.size D ≤ n := h.size_le
  have e1 : IntKind.i64.min = -9223372036854775808 := by decide
  have e2 : IntKind.i64.max = 9223372036854775807 := by decide
  simp only [Lit.wf, e1, e2, Bool.and_eq_true, decide_eq_true_eq]
  omega

set_option maxRecDepth 100000 in
set_option maxHeartbeats 1000000 in
theorem fresh_any (b : Nat) (ns : List ByteArray) (s : ByteArray) (w : World) (hN : NameSet w b ns) (hlen : ns.length < 1000000) (hs : s.size ≤ maxLen) :
    Calls Try.prog 33 #[.map (some b), .string s] w fun e w' => e = .returned (.int .i64 (freshE ns s)) ∧ w.grownBy w' (some b) ∧ (freshE ns s = 0 → NameSet w' b (s :: ns)) := by
  have hnm := name_any s
  have HM := Lib.hid hnm
  clear hnm
  unfold freshE
  cases h1 : nameB s with
  | false =>
    rw [h1] at HM
    rw [if_pos rfl]
    go_enter Try.func33, Try.ntmps33
    go_wp2_with (go_at_call 53; refine (HM.out _).mono ?_; rintro e w' ⟨rfl, hg⟩)
    go_ret
    exact ⟨rfl, ⟨hg.os, hg.tape, hg.output, hg.size, fun k hk _ => hg.block k hk (by simp)⟩, fun h => absurd h (by decide)⟩
  | true =>
    rw [h1] at HM
    rw [if_neg (by decide)]
    obtain ⟨n, D, ho, hn, hm, hh⟩ := hN
    have hkey := keyOf_string_mk Try.underlying9 hs
    cases h2 : among ns s with
    | true =>
      have hb : has D (.string s.data.toList) = true := by rw [hh, h2]
      have HB := Lib.hid hb
      have HO := Lib.hid ho
      have HK := Lib.hid hkey
      clear hb ho hkey hh hm
      rw [if_pos rfl]
      go_enter Try.func33, Try.ntmps33
      go_wp2_with fail
      refine (HM.out _).mono ?_
      rintro e w1 ⟨rfl, hg⟩
      have HG := Lib.hid hg
      clear hg
      go_wp2_with (at_lookup; refine wpList_lookup_own_ok_int _ rfl _ _ 89 rfl 9 3 .i64 law Try.underlying89 Try.underlying3 (zeroE _) b n D rfl (HO.out.kept HG.out (by simp)) _ _ rfl HK.out ?_; intro c hat hwc; clear hat hwc; rw [HB.out])
      go_ret
      exact ⟨rfl, ⟨HG.out.os, HG.out.tape, HG.out.output, HG.out.size, fun k hk _ => HG.out.block k hk (by simp)⟩, fun h => absurd h (by decide)⟩
    | false =>
      have hb : has D (.string s.data.toList) = false := by rw [hh, h2]
      have HB := Lib.hid hb
      have HO := Lib.hid ho
      have HK := Lib.hid hkey
      have HP := Lib.hid (fun w' d h => nameSet_put w' b n D ns s d h hn hm hh)
      clear hb ho hkey hh hm
      rw [if_neg (by decide)]
      go_enter Try.func33, Try.ntmps33
      go_wp2_with fail
      refine (HM.out _).mono ?_
      rintro e w1 ⟨rfl, hg⟩
      have HG := Lib.hid hg
      clear hg
      go_wp2_with (first
        | (at_lookup; refine wpList_lookup_own_ok_int _ rfl _ _ 89 rfl 9 3 .i64 law Try.underlying89 Try.underlying3 (zeroE _) b n D rfl (HO.out.kept HG.out (by simp)) _ _ rfl HK.out ?_; intro c hat hwc; clear hat hwc; rw [HB.out])
        | (at_len; refine wpList_len_own _ rfl _ 89 rfl 9 3 Try.underlying89 _ b n D rfl (HO.out.kept HG.out (by simp)) ?_)
        | (at_mapUpdate; refine wpList_mapUpdate_own _ rfl _ _ _ 89 rfl 9 3 law Try.underlying89 _ b n D rfl (HO.out.kept HG.out (by simp)) (by unfold maxLen; omega) _ _ _ rfl rfl HK.out _ [] (plainElem_int Try.underlying3 (WF D n w1 (HO.out.kept HG.out (by simp)) (by omega))) ?_; intro w2 hown2 hgrow2; have H2 := Lib.hid hown2; have G2 := Lib.hid hgrow2; clear hown2 hgrow2))
      go_ret
      exact ⟨rfl, grownBy_trans ⟨HG.out.os, HG.out.tape, HG.out.output, HG.out.size, fun k hk _ => HG.out.block k hk (by simp)⟩ G2.out, fun _ => HP.out _ _ H2.out⟩

end Go.Proofs.Ytecaolkbllbokaa.TG

namespace Go.Proofs.Ytecaolkbllbokaa.TG
open Go.RowKit Go.Great Go.Maps Go.ChangeShapes Go.ChangeMaps Go.WideMaps
set_option linter.unusedSimpArgs false
set_option linter.unusedVariables false

/-- A slice value that reads as these strings. -/
def Strs (w : World) (v : Value) (l : List ByteArray) : Prop := ∃ (p : Option Addr) (cap : Nat), v = .slice p l.length cap ∧
  (0 < l.length → ∃ b off : Nat, p = some ⟨b, off, none⟩ ∧ b < w.heap.size ∧ ∀ i (h : i < l.length), w.cell? ⟨b, off + i, none⟩ = some (.string l[i]))

/-- The first fault of names, where some stand already. -/
def namesE (seen : List ByteArray) : List ByteArray → Int
  | [] => 0
  | s :: r => if freshE seen s = 0 then namesE (s :: seen) r else freshE seen s

theorem namesE_cons (seen : List ByteArray) (s : ByteArray) (r : List ByteArray) : namesE seen (s :: r) = if freshE seen s = 0 then namesE (s :: seen) r else freshE seen s := rfl

theorem namesE_step (seen l : List ByteArray) (k : Nat) (hk : k < l.length) (h : freshE ((l.take k).reverse ++ seen) l[k] = 0) :
    namesE ((l.take k).reverse ++ seen) (l.drop k) = namesE ((l.take (k + 1)).reverse ++ seen) (l.drop (k + 1)) := by
  rw [List.drop_eq_getElem_cons hk, namesE_cons, if_pos h, List.take_succ_eq_append_getElem hk, List.reverse_append]; rfl
theorem namesE_stop (seen l : List ByteArray) (k : Nat) (hk : k < l.length) (h : freshE ((l.take k).reverse ++ seen) l[k] ≠ 0) :
    namesE ((l.take k).reverse ++ seen) (l.drop k) = freshE ((l.take k).reverse ++ seen) l[k] := by
  rw [List.drop_eq_getElem_cons hk, namesE_cons, if_neg h]

/-- The fault of a function without its parts. -/
def headE (ns : List ByteArray) (name : ByteArray) (args : Int) (locals : List ByteArray) : Int :=
  if 64 < locals.length ∨ 16 < args then 2 else if args < 0 ∨ (locals.length : Int) < args then 171
  else if freshE ns name = 0 then namesE [] locals else freshE ns name

theorem grow_any {w w' : World} {r s : Option Nat} (h : w.grownBy w' none) : w.grownBy w' r := ⟨h.os, h.tape, h.output, h.size, fun k hk _ => h.block k hk (by simp)⟩
theorem grow_new {w w1 w2 : World} {r : Option Nat} {b : Nat} (h : w.grownBy w1 r) (g : w1.grownBy w2 (some b)) (hb : w.heap.size ≤ b) : w.grownBy w2 r :=
  ⟨g.os.trans h.os, g.tape.trans h.tape, g.output.trans h.output, Nat.le_trans h.size g.size, fun k hk hr => (g.block k (Nat.lt_of_lt_of_le hk h.size) (by intro e; injection e with e; omega)).trans (h.block k hk hr)⟩
theorem size_lt {w w1 : World} {o : Obj} {r : Option Nat} (h : (w.alloc o).grownBy w1 r) : w.heap.size < w1.heap.size := by
  have := h.size; rw [World.size_alloc] at this; omega
theorem nameSet_ne {w : World} {b b' o : Nat} {ns : List ByteArray} {v : Value} (h : NameSet w b ns) (hc : w.cell? ⟨b', o, none⟩ = some v) : b' ≠ b := by
  obtain ⟨n, D, ⟨es, clock, hb, _⟩, _⟩ := h
  intro e; subst e
  simp [World.cell?, hb] at hc
theorem elem_carry {w w1 wr : World} {o1 o2 : Obj} {b b' o : Nat} {v : Value} (hc : w.cell? ⟨b', o, none⟩ = some v) (hg : (w.alloc o1).grownBy w1 (some b)) (hne : b' ≠ b) (hr : (w1.alloc o2).grownBy wr (some w1.heap.size)) :
    wr.cell? ⟨b', o, none⟩ = some v := by
  have h0 := World.block_lt_of_cell? _ _ hc
  have h1 := hg.size
  rw [World.size_alloc] at h1
  have h2 : w.heap.size < w1.heap.size := by omega
  refine hr.cell (a := ⟨b', o, none⟩) ?_ (by intro e; injection e with e; simp at h0 e; omega)
  rw [World.cell?_alloc_past _ _ _ (show b' < w1.heap.size by simp at h0; omega)]
  refine hg.cell (a := ⟨b', o, none⟩) ?_ (by intro e; injection e with e; exact hne e)
  rw [World.cell?_alloc_past _ _ _ (show b' < w.heap.size from h0)]; exact hc
theorem nameSet_lt {w : World} {b : Nat} {ns : List ByteArray} (h : NameSet w b ns) : b < w.heap.size := by
  obtain ⟨n, D, h1, _⟩ := h; exact h1.lt

/-- What a call that notes a name leaves: its answer, and, where that is 0, the name among the others. -/
def NamePost (w : World) (b : Nat) (ns : List ByteArray) (s : ByteArray) (v : Int) (e : Ending) (w' : World) : Prop :=
  e = .returned (.int .i64 v) ∧ w.grownBy w' (some b) ∧ (v = 0 → NameSet w' b (s :: ns))

set_option maxRecDepth 100000 in
set_option maxHeartbeats 2000000 in
theorem head_any (b : Nat) (ns : List ByteArray) (name : ByteArray) (args : Int) (lv pv : Value) (locals : List ByteArray) (w : World) (hN : NameSet w b ns) (hlen : ns.length < 1000000)
    (hs : name.size ≤ maxLen) (hl : Strs w lv locals) (hls : ∀ i (h : i < locals.length), locals[i].size ≤ maxLen) (hL : locals.length ≤ maxLen) :
    Calls Try.prog 34 #[.map (some b), .agg #[.string name, .int .i64 args, lv, pv]] w (NamePost w b ns name (headE ns name args locals)) := by
  obtain ⟨p, cap, rfl, hel⟩ := hl
  unfold headE
  have hLb : locals.length ≤ 9223372036854775807 := by unfold maxLen at hL; omega
  by_cases c1 : 64 < locals.length
  · rw [if_pos (Or.inl c1)]
    clear hel hls hs hlen hN hL
    go_enter Try.func34, Try.ntmps34
    go_wp2
    go_ret
    exact ⟨rfl, World.grownBy_alloc _ _ _, fun h => absurd h (by decide)⟩
  by_cases c2 : 16 < args
  · rw [if_pos (Or.inr c2)]
    clear hel hls hs hlen hN hL
    go_enter Try.func34, Try.ntmps34
    go_wp2
    go_ret
    exact ⟨rfl, World.grownBy_alloc _ _ _, fun h => absurd h (by decide)⟩
  rw [if_neg (by omega)]
  by_cases c3 : args < 0
  · rw [if_pos (Or.inl c3)]
    clear hel hls hs hlen hN hL
    go_enter Try.func34, Try.ntmps34
    go_wp2
    go_ret
    exact ⟨rfl, World.grownBy_alloc _ _ _, fun h => absurd h (by decide)⟩
  by_cases c4 : (locals.length : Int) < args
  · rw [if_pos (Or.inr c4)]
    clear hel hls hs hlen hN hL
    go_enter Try.func34, Try.ntmps34
    go_wp2
    go_ret
    exact ⟨rfl, World.grownBy_alloc _ _ _, fun h => absurd h (by decide)⟩
  rw [if_neg (by omega)]
  have hb := nameSet_lt hN
  have F := Lib.hid (fresh_any b ns name (w.alloc (.cells #[.string name, .int .i64 args, .slice p locals.length cap, pv] 69)) (nameSet_kept hN (World.grownBy_alloc _ _ none) (by simp)) hlen hs)
  by_cases c5 : freshE ns name = 0
  · rw [if_pos c5]
    have C5 := Lib.hid c5
    have HS := Lib.hid hls
    have hmm := @run_makeMap Try.prog
    clear hls hs hlen c5
    rcases Nat.eq_zero_or_pos locals.length with h0 | h0
    · clear hel
      have H0 := Lib.hid h0
      clear h0
      go_enter Try.func34, Try.ntmps34
      go_wp2_with (go_at_call 33; refine F.out.mono ?_; rintro e w1 ⟨rfl, hg, hn⟩; have HG := Lib.hid hg; have HN := Lib.hid (hn C5.out); have k2 := hg.cell (a := ⟨w.heap.size, 2, none⟩) (v := .slice p locals.length cap) (by simp) (by simp; omega); have hz := size_lt hg; clear hg hn; rw [C5.out])
      go_loopw [43] (fun i wr => ∃ k : Nat, k ≤ locals.length ∧ i = .int .i64 k ∧ NameSet wr w1.heap.size ((locals.take k).reverse ++ []) ∧ (w1.alloc (.map #[] 0)).grownBy wr (some w1.heap.size) ∧ namesE [] locals = namesE ((locals.take k).reverse ++ []) (locals.drop k)) (fun i _ => locals.length - (intOf i).toNat)
      case atStart => exact ⟨0, Nat.zero_le _, rfl, nameSet_made w1, grownBy_refl _ _, rfl⟩
      case round =>
        obtain ⟨k, hk, rfl, hset, hgr, hnm⟩ := hrel
        have HR := Lib.hid hgr
        have HM := Lib.hid hnm
        have HT := Lib.hid hset
        clear hgr hnm hset
        by_cases hlt : k < locals.length
        · exact absurd hlt (by have := H0.out; omega)
        · have hkk : k = locals.length := by omega
          have hfin : namesE [] locals = 0 := by rw [HM.out, hkk, List.drop_length]; rfl
          have HF := Lib.hid hfin
          clear hfin
          subst hkk
          go_wp2
          go_ret
          exact ⟨ret_int HF.out.symm, grow_new (grownBy_trans (World.grownBy_alloc _ _ _) (grownBy_trans HG.out (World.grownBy_alloc _ _ _))) HR.out (by have := hz; omega), fun _ => nameSet_kept (nameSet_kept HN.out (World.grownBy_alloc _ _ none) (by simp)) HR.out (by have := nameSet_lt HN.out; intro e; injection e with e; omega)⟩
    · obtain ⟨b', off, rfl, hb', hcell⟩ := hel h0
      have HC := Lib.hid hcell
      have HNE := Lib.hid (fun k (h : k < locals.length) => nameSet_ne hN (hcell k h))
      clear hcell hel
      go_enter Try.func34, Try.ntmps34
      go_wp2_with (go_at_call 33; refine F.out.mono ?_; rintro e w1 ⟨rfl, hg, hn⟩; have HG := Lib.hid hg; have HN := Lib.hid (hn C5.out); have k2 := hg.cell (a := ⟨w.heap.size, 2, none⟩) (v := .slice (some ⟨b', off, none⟩) locals.length cap) (by simp) (by simp; omega); have hz := size_lt hg; clear hg hn; rw [C5.out])
      go_loopw [43] (fun i wr => ∃ k : Nat, k ≤ locals.length ∧ i = .int .i64 k ∧ NameSet wr w1.heap.size ((locals.take k).reverse ++ []) ∧ (w1.alloc (.map #[] 0)).grownBy wr (some w1.heap.size) ∧ namesE [] locals = namesE ((locals.take k).reverse ++ []) (locals.drop k)) (fun i _ => locals.length - (intOf i).toNat)
      case atStart => exact ⟨0, Nat.zero_le _, rfl, nameSet_made w1, grownBy_refl _ _, rfl⟩
      case round =>
        obtain ⟨k, hk, rfl, hset, hgr, hnm⟩ := hrel
        have HR := Lib.hid hgr
        have HM := Lib.hid hnm
        have HT := Lib.hid hset
        clear hgr hnm hset
        by_cases hlt : k < locals.length
        · have g := elem_carry (HC.out k hlt) HG.out (HNE.out k hlt) HR.out
          have F2 := Lib.hid (fresh_any w1.heap.size ((locals.take k).reverse ++ []) locals[k] wr HT.out (by simp; omega) (HS.out k hlt))
          by_cases c6 : freshE ((locals.take k).reverse ++ []) locals[k] = 0
          · have HM2 := Lib.hid (HM.out.trans (namesE_step [] locals k hlt c6))
            have C6 := Lib.hid c6
            clear c6
            generalize hs : locals[k] = sk at *
            have HSK := Lib.hid hs
            clear hs
            go_wp2_with (go_at_call 33; refine F2.out.mono ?_; rintro e w3 ⟨rfl, hg3, hn3⟩; have HG3 := Lib.hid hg3; have HN3 := Lib.hid (hn3 C6.out); clear hg3 hn3; rw [C6.out])
            go_roundw
            case rel => exact ⟨k + 1, by omega, by go_num, by rw [List.take_succ_eq_append_getElem hlt, List.reverse_append, HSK.out]; exact HN3.out, grownBy_trans HR.out HG3.out, HM2.out⟩
            case measure => simp [intOf]; omega
          · have g6 : (freshE ((locals.take k).reverse ++ []) locals[k] != 0) = true := by simpa using c6
            have HM2 := Lib.hid (HM.out.trans (namesE_stop [] locals k hlt c6))
            have C6 := Lib.hid c6
            clear c6
            generalize hs : locals[k] = sk at *
            generalize freshE ((locals.take k).reverse ++ []) sk = v at *
            have HSK := Lib.hid hs
            clear hs
            go_wp2_with (go_at_call 33; refine F2.out.mono ?_; rintro e w3 ⟨rfl, hg3, hn3⟩; have HG3 := Lib.hid hg3; clear hg3 hn3)
            go_ret
            exact ⟨ret_int HM2.out.symm, grow_new (grownBy_trans (World.grownBy_alloc _ _ _) (grownBy_trans HG.out (World.grownBy_alloc _ _ _))) (grownBy_trans HR.out HG3.out) (by have := hz; omega), fun h => absurd (HM2.out ▸ h) C6.out⟩
        · have hkk : k = locals.length := by omega
          have hfin : namesE [] locals = 0 := by rw [HM.out, hkk, List.drop_length]; rfl
          have HF := Lib.hid hfin
          clear hfin
          subst hkk
          go_wp2
          go_ret
          exact ⟨ret_int HF.out.symm, grow_new (grownBy_trans (World.grownBy_alloc _ _ _) (grownBy_trans HG.out (World.grownBy_alloc _ _ _))) HR.out (by have := hz; omega), fun _ => nameSet_kept (nameSet_kept HN.out (World.grownBy_alloc _ _ none) (by simp)) HR.out (by have := nameSet_lt HN.out; intro e; injection e with e; omega)⟩
  · rw [if_neg c5]
    have g5 : (freshE ns name != 0) = true := by simpa using c5
    have C5 := Lib.hid c5
    clear c5 hel hls hs hlen hL hN
    generalize freshE ns name = v at *
    go_enter Try.func34, Try.ntmps34
    go_wp2_with (go_at_call 33; refine F.out.mono ?_; rintro e w1 ⟨rfl, hg, hn⟩; have HG := Lib.hid hg; clear hg hn)
    go_ret
    exact ⟨rfl, grownBy_trans (World.grownBy_alloc _ _ _) HG.out, fun h => absurd h C5.out⟩

end Go.Proofs.Ytecaolkbllbokaa.TG

namespace Go.Proofs.Ytecaolkbllbokaa.TG
open Go.RowKit Go.Great
set_option linter.unusedSimpArgs false
set_option linter.unusedVariables false

set_option maxRecDepth 100000 in
set_option maxHeartbeats 1000000 in
theorem kids_k1 (n kc : Int) (Bc : Nat) (w : World) :
    Calls Try.prog 115 #[.pointer (some ⟨Bc, 0, none⟩), .agg #[.int .i64 1, .int .i64 n, .int .i64 kc]] w fun e w' => e = .returned (.int .i64 (if 0 ≤ kc then 0 else 171)) ∧ w.grownBy w' none := by
  by_cases h : 0 ≤ kc
  · rw [if_pos h]
    have hm : max kc 0 = kc := by omega
    have hb : (kc != kc) = false := by simp
    go_enter Try.func115, Try.ntmps115
    go_wp2
    all_goals first
      | (exfalso; simp [hm] at *; done)
      | (go_ret; exact ⟨rfl, World.grownBy_alloc _ _ _⟩)
  · rw [if_neg h]
    have hm : max kc 0 = 0 := by omega
    have hb : (kc != 0) = true := by simp; omega
    go_enter Try.func115, Try.ntmps115
    go_wp2
    all_goals first
      | (exfalso; simp [hm] at *; omega)
      | (go_ret; exact ⟨rfl, World.grownBy_alloc _ _ _⟩)

set_option maxRecDepth 100000 in
set_option maxHeartbeats 1000000 in
theorem kids_k5 (n kc : Int) (Bc : Nat) (w : World) :
    Calls Try.prog 115 #[.pointer (some ⟨Bc, 0, none⟩), .agg #[.int .i64 5, .int .i64 n, .int .i64 kc]] w fun e w' => e = .returned (.int .i64 (if 2 ≤ kc ∧ kc ≤ 3 then 0 else 171)) ∧ w.grownBy w' none := by
  by_cases h : 2 ≤ kc ∧ kc ≤ 3
  · rw [if_pos h]
    have hm : min (max kc 2) 3 = kc := by omega
    have hb : (kc != kc) = false := by simp
    go_enter Try.func115, Try.ntmps115
    go_wp2
    all_goals first
      | (exfalso; simp [hm] at *; done)
      | (go_ret; exact ⟨rfl, World.grownBy_alloc _ _ _⟩)
  · rw [if_neg h]
    have hb : (kc != min (max kc 2) 3) = true := by simp; omega
    generalize hm : min (max kc 2) 3 = m at *
    go_enter Try.func115, Try.ntmps115
    go_wp2
    all_goals first
      | (exfalso; simp [hm] at *; omega)
      | (go_ret; exact ⟨rfl, World.grownBy_alloc _ _ _⟩)

set_option maxRecDepth 100000 in
set_option maxHeartbeats 1000000 in
theorem kids_k26 (n : Nat) (hn : n < 5) (kc : Int) (Bc : Nat) (w : World) :
    Calls Try.prog 115 #[.pointer (some ⟨Bc, 0, none⟩), .agg #[.int .i64 26, .int .i64 n, .int .i64 kc]] w fun e w' => e = .returned (.int .i64 (if kc = sysTakes n then 0 else 174)) ∧ w.grownBy w' none := by
  have S := Lib.hid (sys_any n hn)
  clear hn
  generalize sysName n = nm at *
  generalize sysTakes n = tk at *
  by_cases h : kc = tk
  · rw [if_pos h]
    subst h
    go_enter Try.func115, Try.ntmps115
    go_wp2_with (go_at_call 128; refine (S.out _).mono ?_; rintro e w1 ⟨rfl, hg⟩; have HG := Lib.hid hg; have z0 := hg.cell (a := ⟨w.heap.size, 0, none⟩) (v := .int .i64 26) (by simp) (by simp); have z2 := hg.cell (a := ⟨w.heap.size, 2, none⟩) (v := .int .i64 kc) (by simp) (by simp); have hz := size_lt hg; clear hg)
    go_ret
    exact ⟨rfl, grownBy_trans (grownBy_trans (World.grownBy_alloc _ _ _) HG.out) (World.grownBy_alloc _ _ _)⟩
  · rw [if_neg h]
    have hb : (kc != tk) = true := by simpa using h
    go_enter Try.func115, Try.ntmps115
    go_wp2_with (go_at_call 128; refine (S.out _).mono ?_; rintro e w1 ⟨rfl, hg⟩; have HG := Lib.hid hg; have z0 := hg.cell (a := ⟨w.heap.size, 0, none⟩) (v := .int .i64 26) (by simp) (by simp); have z2 := hg.cell (a := ⟨w.heap.size, 2, none⟩) (v := .int .i64 kc) (by simp) (by simp); have hz := size_lt hg; clear hg)
    go_ret
    exact ⟨rfl, grownBy_trans (grownBy_trans (World.grownBy_alloc _ _ _) HG.out) (World.grownBy_alloc _ _ _)⟩

end Go.Proofs.Ytecaolkbllbokaa.TG

namespace Go.Proofs.Ytecaolkbllbokaa.TG
open Go.RowKit Go.Great
set_option linter.unusedSimpArgs false
set_option linter.unusedVariables false

/-- A part, by value. -/
def pt (k n c : Int) : Value := .agg #[.int .i64 k, .int .i64 n, .int .i64 c]

def kindsE (k : Int) : Int := if k = 1 then 0 else if k < 12 then 1 else 2
def kidE (kind i : Int) : Int := if kind = 1 then 1 else if (kind = 5 ∨ kind = 6) ∧ 0 < i then 0 else 2

theorem kinds_any (k : Int) (w : World) : Calls Try.prog 113 #[.int .i64 k] w fun e w' => e = .returned (.int .i64 (kindsE k)) ∧ w = w' := by
  unfold kindsE
  by_cases h1 : k = 1
  · subst h1
    rw [if_pos rfl]
    go_enter Try.func113, Try.ntmps113
    go_wp2
    go_ret
    exact ⟨rfl, rfl⟩
  · rw [if_neg h1]
    have e1 : (k == 1) = false := beq_eq_false_iff_ne.2 h1
    clear h1
    by_cases h2 : k < 12
    · rw [if_pos h2]
      go_enter Try.func113, Try.ntmps113
      go_wp2
      go_ret
      exact ⟨rfl, rfl⟩
    · rw [if_neg h2]
      go_enter Try.func113, Try.ntmps113
      go_wp2
      go_ret
      exact ⟨rfl, rfl⟩

theorem kid_any (k n c i : Int) (w : World) : Calls Try.prog 86 #[.agg #[.int .i64 k, .int .i64 n, .int .i64 c], .int .i64 i] w fun e w' => e = .returned (.int .i64 (kidE k i)) ∧ w.grownBy w' none := by
  unfold kidE
  by_cases h1 : k = 1
  · subst h1
    rw [if_pos rfl]
    go_enter Try.func86, Try.ntmps86
    go_wp2
    go_ret
    exact ⟨rfl, World.grownBy_alloc _ _ _⟩
  rw [if_neg h1]
  have e1 : (k == 1) = false := beq_eq_false_iff_ne.2 h1
  clear h1
  by_cases h5 : k = 5
  · subst h5
    by_cases hi : 0 < i
    · rw [if_pos ⟨Or.inl rfl, hi⟩]
      go_enter Try.func86, Try.ntmps86
      go_wp2
      go_ret
      exact ⟨rfl, World.grownBy_alloc _ _ _⟩
    · rw [if_neg (fun h => hi h.2)]
      go_enter Try.func86, Try.ntmps86
      go_wp2
      go_ret
      exact ⟨rfl, World.grownBy_alloc _ _ _⟩
  by_cases h6 : k = 6
  · subst h6
    by_cases hi : 0 < i
    · rw [if_pos ⟨Or.inr rfl, hi⟩]
      go_enter Try.func86, Try.ntmps86
      go_wp2
      go_ret
      exact ⟨rfl, World.grownBy_alloc _ _ _⟩
    · rw [if_neg (fun h => hi h.2)]
      go_enter Try.func86, Try.ntmps86
      go_wp2
      go_ret
      exact ⟨rfl, World.grownBy_alloc _ _ _⟩
  rw [if_neg (fun h => h.1.elim h5 h6)]
  have e5 : (k == 5) = false := beq_eq_false_iff_ne.2 h5
  have e6 : (k == 6) = false := beq_eq_false_iff_ne.2 h6
  clear h5 h6
  go_enter Try.func86, Try.ntmps86
  go_wp2
  go_ret
  exact ⟨rfl, World.grownBy_alloc _ _ _⟩

end Go.Proofs.Ytecaolkbllbokaa.TG

namespace Go.Proofs.Ytecaolkbllbokaa.TG
open Go.RowKit Go.Great
set_option linter.unusedSimpArgs false
set_option linter.unusedVariables false

/-- A slice value that reads as these ints. -/
def Ints (w : World) (v : Value) (l : List Int) : Prop := ∃ (p : Option Addr) (cap : Nat), v = .slice p l.length cap ∧
  (0 < l.length → ∃ b off : Nat, p = some ⟨b, off, none⟩ ∧ b < w.heap.size ∧ ∀ i, i < l.length → w.cell? ⟨b, off + i, none⟩ = some (.int .i64 (l.getD i 0)))

theorem grownBy_quiet (w : World) (o : Obj) (n : Nat) : w.grownBy ((w.alloc o).drewN n) none := ⟨rfl, rfl, rfl, by simp, fun k hk _ => (World.grownBy_alloc w o none).block k hk (by simp)⟩

def mostTo (ws : List Int) : Nat → Int
  | 0 => 1
  | k + 1 => max (mostTo ws k) ((k : Int) + ws.getD k 0)

set_option maxRecDepth 100000 in
set_option maxHeartbeats 2000000 in
theorem want_A (k n c : Int) (hk : k = 12 ∨ k = 13 ∨ k = 14 ∨ k = 15 ∨ k = 16) (p : Option Addr) (cap L : Nat) (w : World) :
    Calls Try.prog 87 #[.agg #[.int .i64 k, .int .i64 n, .int .i64 c], .slice p L cap] w fun e w' => e = .returned (.int .i64 (1)) ∧ w.grownBy w' none := by
  rcases hk with rfl | rfl | rfl | rfl | rfl
  all_goals
    go_enter Try.func87, Try.ntmps87
    go_wp2
    go_ret
    exact ⟨rfl, World.grownBy_alloc _ _ _⟩

set_option maxRecDepth 100000 in
set_option maxHeartbeats 2000000 in
theorem want_F (k n c : Int) (hk : k = 1 ∨ k = 7 ∨ k = 8) (p : Option Addr) (cap L : Nat) (w : World) :
    Calls Try.prog 87 #[.agg #[.int .i64 k, .int .i64 n, .int .i64 c], .slice p L cap] w fun e w' => e = .returned (.int .i64 (0)) ∧ w.grownBy w' none := by
  rcases hk with rfl | rfl | rfl
  all_goals
    go_enter Try.func87, Try.ntmps87
    go_wp2
    go_ret
    exact ⟨rfl, World.grownBy_alloc _ _ _⟩

set_option maxRecDepth 100000 in
set_option maxHeartbeats 2000000 in
theorem want_B (k n c : Int) (hk : k = 20 ∨ k = 21 ∨ k = 3 ∨ k = 4) (b off cap L : Nat) (x y : Int) (hL : 2 ≤ L) (hLb : L ≤ 1000000000000000000) (hy : 0 ≤ y ∧ y ≤ 1000000000000000000) (w : World) (hb : b < w.heap.size) (h0 : w.cell? ⟨b, off, none⟩ = some (.int .i64 x)) (h1 : w.cell? ⟨b, off + 1, none⟩ = some (.int .i64 y)) :
    Calls Try.prog 87 #[.agg #[.int .i64 k, .int .i64 n, .int .i64 c], .slice (some ⟨b, off, none⟩) L cap] w fun e w' => e = .returned (.int .i64 (max x (y + 1))) ∧ w.grownBy w' none := by
  obtain ⟨hy0, hy1⟩ := hy
  have i0 : (0 : Int) < (L : Int) := by omega
  have i1 : (1 : Int) < (L : Int) := by omega
  rcases hk with rfl | rfl | rfl | rfl
  all_goals
    go_enter Try.func87, Try.ntmps87
    go_wp2
    go_quiet (fail)
    go_wp2
    go_ret
    exact ⟨ret_int (by omega), grownBy_quiet _ _ _⟩

set_option maxRecDepth 100000 in
set_option maxHeartbeats 2000000 in
theorem want_D (k n c : Int) (hk : k = 23 ∨ k = 24) (b off cap L : Nat) (x y : Int) (hL : 2 ≤ L) (hLb : L ≤ 1000000000000000000) (hy : 0 ≤ y ∧ y ≤ 1000000000000000000) (w : World) (hb : b < w.heap.size) (h0 : w.cell? ⟨b, off, none⟩ = some (.int .i64 x)) (h1 : w.cell? ⟨b, off + 1, none⟩ = some (.int .i64 y)) :
    Calls Try.prog 87 #[.agg #[.int .i64 k, .int .i64 n, .int .i64 c], .slice (some ⟨b, off, none⟩) L cap] w fun e w' => e = .returned (.int .i64 (max (max x y) 2)) ∧ w.grownBy w' none := by
  obtain ⟨hy0, hy1⟩ := hy
  have i0 : (0 : Int) < (L : Int) := by omega
  have i1 : (1 : Int) < (L : Int) := by omega
  rcases hk with rfl | rfl
  all_goals
    go_enter Try.func87, Try.ntmps87
    go_wp2
    go_quiet (fail)
    go_wp2
    all_goals (go_ret; exact ⟨ret_int (by omega), grownBy_quiet _ _ _⟩)

set_option maxRecDepth 100000 in
set_option maxHeartbeats 2000000 in
theorem want_C (k n c : Int) (hk : k = 22) (b off cap L : Nat) (x : Int) (hL : 1 ≤ L) (hLb : L ≤ 1000000000000000000) (w : World) (hb : b < w.heap.size) (h0 : w.cell? ⟨b, off, none⟩ = some (.int .i64 x)) :
    Calls Try.prog 87 #[.agg #[.int .i64 k, .int .i64 n, .int .i64 c], .slice (some ⟨b, off, none⟩) L cap] w fun e w' => e = .returned (.int .i64 (max x 2)) ∧ w.grownBy w' none := by
  have i0 : (0 : Int) < (L : Int) := by omega
  rcases hk with rfl
  all_goals
    go_enter Try.func87, Try.ntmps87
    go_wp2
    go_ret
    exact ⟨ret_int (by omega), World.grownBy_alloc _ _ _⟩

set_option maxRecDepth 100000 in
set_option maxHeartbeats 2000000 in
theorem want_G (k n c : Int) (hk : k = 2 ∨ k = 5 ∨ k = 6 ∨ k = 9 ∨ k = 10 ∨ k = 11 ∨ k = 17 ∨ k = 18 ∨ k = 19) (b off cap L : Nat) (x : Int) (hL : 1 ≤ L) (hLb : L ≤ 1000000000000000000) (w : World) (hb : b < w.heap.size) (h0 : w.cell? ⟨b, off, none⟩ = some (.int .i64 x)) :
    Calls Try.prog 87 #[.agg #[.int .i64 k, .int .i64 n, .int .i64 c], .slice (some ⟨b, off, none⟩) L cap] w fun e w' => e = .returned (.int .i64 (x)) ∧ w.grownBy w' none := by
  have i0 : (0 : Int) < (L : Int) := by omega
  rcases hk with rfl | rfl | rfl | rfl | rfl | rfl | rfl | rfl | rfl
  all_goals
    go_enter Try.func87, Try.ntmps87
    go_wp2
    go_ret
    exact ⟨rfl, World.grownBy_alloc _ _ _⟩

theorem mostTo_step (ws : List Int) (k : Nat) : mostTo ws (k + 1) = max (mostTo ws k) ((k : Int) + ws.getD k 0) := rfl
theorem mostTo_le (ws : List Int) (hws : ∀ i, i < ws.length → ws.getD i 0 ≤ 1000000000000000000) : ∀ k, k ≤ ws.length → mostTo ws k ≤ 1000000000000000000 + (k : Int)
  | 0, _ => by unfold mostTo; omega
  | k + 1, h => by
    have := mostTo_le ws hws k (by omega)
    have := hws k (by omega)
    rw [mostTo_step]; omega

set_option maxRecDepth 100000 in
set_option maxHeartbeats 2000000 in
theorem want_E (k n c : Int) (hk : k = 25 ∨ k = 26) (v : Value) (ws : List Int) (w : World) (hv : Ints w v ws) (hL : ws.length ≤ 1000000000000000000) (hws : ∀ i, i < ws.length → 0 ≤ ws.getD i 0 ∧ ws.getD i 0 ≤ 1000000000000000000) :
    Calls Try.prog 87 #[.agg #[.int .i64 k, .int .i64 n, .int .i64 c], v] w fun e w' => e = .returned (.int .i64 (mostTo ws ws.length)) ∧ w.grownBy w' none := by
  obtain ⟨p, cap, rfl, hel⟩ := hv
  have HW := Lib.hid hws
  clear hws
  rcases Nat.eq_zero_or_pos ws.length with h0 | h0
  · clear hel
    rw [h0]
    have hm : mostTo ws 0 = 1 := rfl
    rw [hm]
    clear h0 hm hL
    rcases hk with rfl | rfl
    all_goals
      go_enter Try.func87, Try.ntmps87
      go_wp2
      go_loop [5, 50] (fun m i => m = .int .i64 1 ∧ i = .int .i64 0) (fun m i => 0)
      case atStart => exact ⟨rfl, rfl⟩
      case round =>
        obtain ⟨rfl, rfl⟩ := hrel
        go_wp2
        go_ret
        exact ⟨rfl, World.grownBy_alloc _ _ _⟩
  · obtain ⟨b, off, rfl, hb, hcell⟩ := hel h0
    have HC := Lib.hid hcell
    clear hcell hel
    have hlen : ws.length = ws.length := rfl
    generalize hLL : ws.length = L at *
    rcases hk with rfl | rfl
    all_goals
      go_enter Try.func87, Try.ntmps87
      go_wp2
      go_loop [5, 50] (fun m i => ∃ j : Nat, j ≤ L ∧ i = .int .i64 j ∧ m = .int .i64 (mostTo ws j)) (fun m i => L - (intOf i).toNat)
      case atStart => exact ⟨0, Nat.zero_le _, rfl, rfl⟩
      case round =>
        obtain ⟨j, hj, rfl, rfl⟩ := hrel
        by_cases hlt : j < L
        · have g := HC.out j hlt
          have HB := HW.out j hlt
          have HM := Lib.hid (mostTo_step ws j)
          have hmb := mostTo_le ws (fun i hi => (HW.out i (by omega)).2) j (by omega)
          generalize ws.getD j 0 = x at *
          generalize mostTo ws j = m at *
          obtain ⟨hx0, hx1⟩ := HB
          go_wp2
          all_goals
            go_round
            case rel => exact ⟨j + 1, by omega, by go_num, by rw [HM.out] <;> congr 1 <;> omega⟩
            case measure => simp [intOf]; omega
        · have : j = L := by omega
          subst this
          go_wp2
          go_ret
          exact ⟨rfl, World.grownBy_alloc _ _ _⟩

end Go.Proofs.Ytecaolkbllbokaa.TG

namespace Go.Proofs.Ytecaolkbllbokaa.TG
open Go.RowKit Go.Great
set_option linter.unusedSimpArgs false
set_option linter.unusedVariables false

theorem sys_all (n : Nat) : ∃ (nm : ByteArray) (tk u : Int) (bb : Bool), ∀ w, Calls Try.prog 128 #[.int .i64 n] w fun e w' => e = .returned (.tuple #[.agg #[.string nm, .int .i64 0, .int .i64 tk, .int .i64 u], .bool bb]) ∧ w.grownBy w' none := by
  by_cases h : n < 5
  · exact ⟨_, _, _, _, fun w => sys_any n h w⟩
  · exact ⟨_, _, _, _, fun w => sys_out n (by omega) w⟩

set_option maxRecDepth 100000 in
set_option maxHeartbeats 2000000 in
theorem kids_k25 (n : Nat) (kc args : Int) (Bc bF oF nf cf : Nat) (hn : n < nf) (hnf : nf ≤ 1000000) (w : World) (hlt : Bc < w.heap.size) (hltF : bF < w.heap.size)
    (h1 : w.cell? ⟨Bc, 1, none⟩ = some (.slice (some ⟨bF, oF, none⟩) nf cf)) (ha : w.cell? ⟨bF, oF + n * 4 + 1, none⟩ = some (.int .i64 args)) :
    Calls Try.prog 115 #[.pointer (some ⟨Bc, 0, none⟩), .agg #[.int .i64 25, .int .i64 n, .int .i64 kc]] w fun e w' => e = .returned (.int .i64 (if kc = args then 0 else 174)) ∧ w.grownBy w' none := by
  obtain ⟨nm, tk, u, bb, S0⟩ := sys_all n
  have S := Lib.hid S0
  clear S0
  have hni : (n : Int) < (nf : Int) := by omega
  by_cases h : kc = args
  · rw [if_pos h]
    subst h
    go_enter Try.func115, Try.ntmps115
    go_wp2_with (go_at_call 128; refine (S.out _).mono ?_; rintro e w1 ⟨rfl, hg⟩; have HG := Lib.hid hg; have z0 := hg.cell (a := ⟨w.heap.size, 0, none⟩) (v := .int .i64 25) (by simp) (by simp); have z1 := hg.cell (a := ⟨w.heap.size, 1, none⟩) (v := .int .i64 n) (by simp) (by simp); have z2 := hg.cell (a := ⟨w.heap.size, 2, none⟩) (v := .int .i64 kc) (by simp) (by simp); have z3 := (grownBy_trans (World.grownBy_alloc w _ none) hg).cell h1 (by simp); have z4 := (grownBy_trans (World.grownBy_alloc w _ none) hg).cell ha (by simp); have hz := size_lt hg; have y1 := Nat.lt_trans hlt hz; have y2 := Nat.lt_trans hltF hz; clear hg)
    go_quiet (fail)
    go_wp2
    go_ret
    exact ⟨rfl, grownBy_trans (grownBy_trans (World.grownBy_alloc _ _ _) HG.out) (grownBy_quiet _ _ _)⟩
  · rw [if_neg h]
    have hb : (kc != args) = true := by simpa using h
    go_enter Try.func115, Try.ntmps115
    go_wp2_with (go_at_call 128; refine (S.out _).mono ?_; rintro e w1 ⟨rfl, hg⟩; have HG := Lib.hid hg; have z0 := hg.cell (a := ⟨w.heap.size, 0, none⟩) (v := .int .i64 25) (by simp) (by simp); have z1 := hg.cell (a := ⟨w.heap.size, 1, none⟩) (v := .int .i64 n) (by simp) (by simp); have z2 := hg.cell (a := ⟨w.heap.size, 2, none⟩) (v := .int .i64 kc) (by simp) (by simp); have z3 := (grownBy_trans (World.grownBy_alloc w _ none) hg).cell h1 (by simp); have z4 := (grownBy_trans (World.grownBy_alloc w _ none) hg).cell ha (by simp); have hz := size_lt hg; have y1 := Nat.lt_trans hlt hz; have y2 := Nat.lt_trans hltF hz; clear hg)
    go_quiet (fail)
    go_wp2
    go_ret
    exact ⟨rfl, grownBy_trans (grownBy_trans (World.grownBy_alloc _ _ _) HG.out) (grownBy_quiet _ _ _)⟩

end Go.Proofs.Ytecaolkbllbokaa.TG

namespace Go.Proofs.Ytecaolkbllbokaa.TG
open Go.RowKit Go.Great
set_option linter.unusedSimpArgs false
set_option linter.unusedVariables false

theorem calls_eq {P : Program} {f : FuncId} {args : Array Value} {w : World} {a b : Int} (h : a = b) (H : Calls P f args w fun e w' => e = .returned (.int .i64 a) ∧ w.grownBy w' none) : Calls P f args w fun e w' => e = .returned (.int .i64 b) ∧ w.grownBy w' none := h ▸ H

theorem number_any (k n kc : Int) (hk : 1 ≤ k ∧ k < 27) (Bc bf of nl cl nt ct nf cf : Nat) (pt pf pl : Option Addr) (vp : Value) (at_ loops most : Int) (w : World)
    (hC : Chk w Bc bf of (.slice pt nt ct) (.slice pf nf cf) (.slice pl nl cl) vp at_ loops most) :
    Calls Try.prog 114 #[.pointer (some ⟨Bc, 0, none⟩), .agg #[.int .i64 k, .int .i64 n, .int .i64 kc]] w fun e w' => e = .returned (.int .i64 (numE nl nt nf loops k n)) ∧ w.grownBy w' none := by
  have hcases : k = 12 ∨ (k = 2 ∨ k = 13) ∨ (k = 14 ∨ k = 15) ∨ k = 25 ∨ k = 26 ∨ (k = 7 ∨ k = 8) ∨ k = 19 ∨ k = 20 ∨ k = 21 ∨
    (k = 1 ∨ k = 3 ∨ k = 4 ∨ k = 5 ∨ k = 6 ∨ k = 9 ∨ k = 10 ∨ k = 11 ∨ k = 16 ∨ k = 17 ∨ k = 18 ∨ k = 22 ∨ k = 23 ∨ k = 24) := by omega
  rcases hcases with h | h | h | h | h | h | h | h | h | h
  · subst h; exact number_num n kc Bc w
  · refine calls_eq ?_ (number_local k n kc h Bc bf of nl cl pl w hC.lt hC.ltf hC.c2 hC.f2)
    unfold numE; rw [if_neg (by omega), if_pos h]
  · refine calls_eq ?_ (number_text k n kc h Bc nt ct pt w hC.lt hC.c0)
    unfold numE; rw [if_neg (by omega), if_neg (by omega), if_pos h]
  · subst h; exact number_call n kc Bc nf cf pf w hC.lt hC.c1
  · subst h; exact number_sys n kc Bc w
  · refine calls_eq ?_ (number_jump k n kc loops h Bc w hC.lt hC.c4)
    unfold numE; rw [if_neg (by omega), if_neg (by omega), if_neg (by omega), if_neg (by omega), if_neg (by omega), if_pos h]
  · subst h; exact number_one n kc Bc w
  · subst h; exact number_two n kc Bc w
  · subst h; exact number_turn n kc Bc w
  · refine calls_eq ?_ (number_none k n kc h Bc w)
    unfold numE; rw [if_neg (by omega), if_neg (by omega), if_neg (by omega), if_neg (by omega), if_neg (by omega), if_neg (by omega), if_neg (by omega), if_neg (by omega), if_neg (by omega)]

/-- What kids answers; args: how many arguments the called function takes. -/
def kidsE (args : Int) (k n kc : Int) : Int :=
  if k = 1 then (if 0 ≤ kc then 0 else 171) else if k = 25 then (if kc = args then 0 else 174) else if k = 26 then (if kc = sysTakes n.toNat then 0 else 174) else
  if k = 5 then (if 2 ≤ kc ∧ kc ≤ 3 then 0 else 171) else
  if k = 2 ∨ k = 9 ∨ k = 10 ∨ k = 11 ∨ k = 17 ∨ k = 18 ∨ k = 19 ∨ k = 22 then (if kc = 1 then 0 else 171) else
  if k = 3 ∨ k = 4 ∨ k = 6 ∨ k = 20 ∨ k = 21 ∨ k = 23 ∨ k = 24 then (if kc = 2 then 0 else 171) else (if kc = 0 then 0 else 171)

theorem kids_any (k n kc args : Int) (hk : 1 ≤ k ∧ k < 27) (Bc nf cf : Nat) (pf : Option Addr) (w : World) (hlt : Bc < w.heap.size) (h1 : w.cell? ⟨Bc, 1, none⟩ = some (.slice pf nf cf))
    (hF : k = 25 → ∃ bF oF : Nat, pf = some ⟨bF, oF, none⟩ ∧ bF < w.heap.size ∧ 0 ≤ n ∧ n.toNat < nf ∧ nf ≤ 1000000 ∧ w.cell? ⟨bF, oF + n.toNat * 4 + 1, none⟩ = some (.int .i64 args))
    (hS : k = 26 → 0 ≤ n ∧ n < 5) :
    Calls Try.prog 115 #[.pointer (some ⟨Bc, 0, none⟩), .agg #[.int .i64 k, .int .i64 n, .int .i64 kc]] w fun e w' => e = .returned (.int .i64 (kidsE args k n kc)) ∧ w.grownBy w' none := by
  have hcases : k = 1 ∨ k = 25 ∨ k = 26 ∨ k = 5 ∨ (k = 2 ∨ k = 9 ∨ k = 10 ∨ k = 11 ∨ k = 17 ∨ k = 18 ∨ k = 19 ∨ k = 22) ∨ (k = 3 ∨ k = 4 ∨ k = 6 ∨ k = 20 ∨ k = 21 ∨ k = 23 ∨ k = 24) ∨ (k = 7 ∨ k = 8 ∨ k = 12 ∨ k = 13 ∨ k = 14 ∨ k = 15 ∨ k = 16) := by omega
  rcases hcases with h | h | h | h | h | h | h
  · subst h; exact kids_k1 n kc Bc w
  · obtain ⟨bF, oF, rfl, hb, h0, hn, hnf, ha⟩ := hF h
    subst h
    have e : ((n.toNat : Nat) : Int) = n := Int.toNat_of_nonneg h0
    have := kids_k25 n.toNat kc args Bc bF oF nf cf hn hnf w hlt hb h1 ha
    rw [e] at this
    exact this
  · obtain ⟨h0, h5⟩ := hS h
    subst h
    have e : ((n.toNat : Nat) : Int) = n := Int.toNat_of_nonneg h0
    have := kids_k26 n.toNat (by omega) kc Bc w
    rw [e] at this
    exact this
  · subst h; exact kids_k5 n kc Bc w
  · rcases h with rfl | rfl | rfl | rfl | rfl | rfl | rfl | rfl
    · exact kids_k2 n kc Bc w
    · exact kids_k9 n kc Bc w
    · exact kids_k10 n kc Bc w
    · exact kids_k11 n kc Bc w
    · exact kids_k17 n kc Bc w
    · exact kids_k18 n kc Bc w
    · exact kids_k19 n kc Bc w
    · exact kids_k22 n kc Bc w
  · rcases h with rfl | rfl | rfl | rfl | rfl | rfl | rfl
    · exact kids_k3 n kc Bc w
    · exact kids_k4 n kc Bc w
    · exact kids_k6 n kc Bc w
    · exact kids_k20 n kc Bc w
    · exact kids_k21 n kc Bc w
    · exact kids_k23 n kc Bc w
    · exact kids_k24 n kc Bc w
  · rcases h with rfl | rfl | rfl | rfl | rfl | rfl | rfl
    · exact kids_k7 n kc Bc w
    · exact kids_k8 n kc Bc w
    · exact kids_k12 n kc Bc w
    · exact kids_k13 n kc Bc w
    · exact kids_k14 n kc Bc w
    · exact kids_k15 n kc Bc w
    · exact kids_k16 n kc Bc w

end Go.Proofs.Ytecaolkbllbokaa.TG
