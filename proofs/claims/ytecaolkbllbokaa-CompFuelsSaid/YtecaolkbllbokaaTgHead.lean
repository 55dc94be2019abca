/-
  Walk of package tongue's head: a function of the small language without its parts. Conditions: as each theorem states.
-/
import Derived.Test.YtecaolkbllbokaaTgFresh
import Derived.Carry
namespace Go.Proofs.Ytecaolkbllbokaa.TG
open Go.RowKit Go.Great Go.Maps Go.ChangeShapes Go.ChangeMaps Go.WideMaps
set_option linter.unusedSimpArgs false
set_option linter.unusedVariables false

/-- A slice value that reads as these strings. -/
def Strs (w : World) (v : Value) (l : List ByteArray) : Prop := ∃ (p : Option Addr) (cap : Nat), v = .slice p l.length cap ∧
  (0 < l.length → ∃ b off : Nat, p = some ⟨b, off, none⟩ ∧ b < w.heap.size ∧ ∀ i (h : i < l.length), w.cell? ⟨b, off + i, none⟩ = some (.string l[i]))

/-- The first fault of names, where some stand already. -/
def namesE (seen : List ByteArray) : List ByteArray → Int
  | [] => 0
  | s :: r => if freshE seen s = 0 then namesE (s :: seen) r else freshE seen s

theorem namesE_cons (seen : List ByteArray) (s : ByteArray) (r : List ByteArray) : namesE seen (s :: r) = if freshE seen s = 0 then namesE (s :: seen) r else freshE seen s := rfl

theorem namesE_step (seen l : List ByteArray) (k : Nat) (hk : k < l.length) (h : freshE ((l.take k).reverse ++ seen) l[k] = 0) :
    namesE ((l.take k).reverse ++ seen) (l.drop k) = namesE ((l.take (k + 1)).reverse ++ seen) (l.drop (k + 1)) := by
  rw [List.drop_eq_getElem_cons hk, namesE_cons, if_pos h, List.take_succ_eq_append_getElem hk, List.reverse_append]; rfl
theorem namesE_stop (seen l : List ByteArray) (k : Nat) (hk : k < l.length) (h : freshE ((l.take k).reverse ++ seen) l[k] ≠ 0) :
    namesE ((l.take k).reverse ++ seen) (l.drop k) = freshE ((l.take k).reverse ++ seen) l[k] := by
  rw [List.drop_eq_getElem_cons hk, namesE_cons, if_neg h]

/-- The fault of a function without its parts. -/
def headE (ns : List ByteArray) (name : ByteArray) (args : Int) (locals : List ByteArray) : Int :=
  if 64 < locals.length ∨ 16 < args then 2 else if args < 0 ∨ (locals.length : Int) < args then 171
  else if freshE ns name = 0 then namesE [] locals else freshE ns name

theorem grow_any {w w' : World} {r s : Option Nat} (h : w.grownBy w' none) : w.grownBy w' r := ⟨h.os, h.tape, h.output, h.size, fun k hk _ => h.block k hk (by simp)⟩
theorem grow_new {w w1 w2 : World} {r : Option Nat} {b : Nat} (h : w.grownBy w1 r) (g : w1.grownBy w2 (some b)) (hb : w.heap.size ≤ b) : w.grownBy w2 r :=
  ⟨g.os.trans h.os, g.tape.trans h.tape, g.output.trans h.output, Nat.le_trans h.size g.size, fun k hk hr => (g.block k (Nat.lt_of_lt_of_le hk h.size) (by intro e; injection e with e; omega)).trans (h.block k hk hr)⟩
theorem size_lt {w w1 : World} {o : Obj} {r : Option Nat} (h : (w.alloc o).grownBy w1 r) : w.heap.size < w1.heap.size := by
  have := h.size; rw [World.size_alloc] at this; omega
theorem nameSet_ne {w : World} {b b' o : Nat} {ns : List ByteArray} {v : Value} (h : NameSet w b ns) (hc : w.cell? ⟨b', o, none⟩ = some v) : b' ≠ b := by
  obtain ⟨n, D, ⟨es, clock, hb, _⟩, _⟩ := h
  intro e; subst e
  simp [World.cell?, hb] at hc
theorem elem_carry {w w1 wr : World} {o1 o2 : Obj} {b b' o : Nat} {v : Value} (hc : w.cell? ⟨b', o, none⟩ = some v) (hg : (w.alloc o1).grownBy w1 (some b)) (hne : b' ≠ b) (hr : (w1.alloc o2).grownBy wr (some w1.heap.size)) :
    wr.cell? ⟨b', o, none⟩ = some v := by
  have h0 := World.block_lt_of_cell? _ _ hc
  have h1 := hg.size
  rw [World.size_alloc] at h1
  have h2 : w.heap.size < w1.heap.size := by omega
  refine hr.cell (a := ⟨b', o, none⟩) ?_ (by intro e; injection e with e; simp at h0 e; omega)
  rw [World.cell?_alloc_past _ _ _ (show b' < w1.heap.size by simp at h0; omega)]
  refine hg.cell (a := ⟨b', o, none⟩) ?_ (by intro e; injection e with e; exact hne e)
  rw [World.cell?_alloc_past _ _ _ (show b' < w.heap.size from h0)]; exact hc
theorem nameSet_lt {w : World} {b : Nat} {ns : List ByteArray} (h : NameSet w b ns) : b < w.heap.size := by
  obtain ⟨n, D, h1, _⟩ := h; exact h1.lt

/-- What a call that notes a name leaves: its answer, and, where that is 0, the name among the others. -/
def NamePost (w : World) (b : Nat) (ns : List ByteArray) (s : ByteArray) (v : Int) (e : Ending) (w' : World) : Prop :=
  e = .returned (.int .i64 v) ∧ w.grownBy w' (some b) ∧ (v = 0 → NameSet w' b (s :: ns))

set_option maxRecDepth 100000 in
set_option maxHeartbeats 2000000 in
theorem head_any (b : Nat) (ns : List ByteArray) (name : ByteArray) (args : Int) (lv pv : Value) (locals : List ByteArray) (w : World) (hN : NameSet w b ns) (hlen : ns.length < 1000000)
    (hs : name.size ≤ maxLen) (hl : Strs w lv locals) (hls : ∀ i (h : i < locals.length), locals[i].size ≤ maxLen) (hL : locals.length ≤ maxLen) :
    Calls Try.prog 34 #[.map (some b), .agg #[.string name, .int .i64 args, lv, pv]] w (NamePost w b ns name (headE ns name args locals)) := by
  obtain ⟨p, cap, rfl, hel⟩ := hl
  unfold headE
  have hLb : locals.length ≤ 9223372036854775807 := by unfold maxLen at hL; omega
  by_cases c1 : 64 < locals.length
  · rw [if_pos (Or.inl c1)]
    clear hel hls hs hlen hN hL
    go_enter Try.func34, Try.ntmps34
    go_wp2
    go_ret
    exact ⟨rfl, World.grownBy_alloc _ _ _, fun h => absurd h (by decide)⟩
  by_cases c2 : 16 < args
  · rw [if_pos (Or.inr c2)]
    clear hel hls hs hlen hN hL
    go_enter Try.func34, Try.ntmps34
    go_wp2
    go_ret
    exact ⟨rfl, World.grownBy_alloc _ _ _, fun h => absurd h (by decide)⟩
  rw [if_neg (by omega)]
  by_cases c3 : args < 0
  · rw [if_pos (Or.inl c3)]
    clear hel hls hs hlen hN hL
    go_enter Try.func34, Try.ntmps34
    go_wp2
    go_ret
    exact ⟨rfl, World.grownBy_alloc _ _ _, fun h => absurd h (by decide)⟩
  by_cases c4 : (locals.length : Int) < args
  · rw [if_pos (Or.inr c4)]
    clear hel hls hs hlen hN hL
    go_enter Try.func34, Try.ntmps34
    go_wp2
    go_ret
    exact ⟨rfl, World.grownBy_alloc _ _ _, fun h => absurd h (by decide)⟩
  rw [if_neg (by omega)]
  have hb := nameSet_lt hN
  have F := Lib.hid (fresh_any b ns name (w.alloc (.cells #[.string name, .int .i64 args, .slice p locals.length cap, pv] 69)) (nameSet_kept hN (World.grownBy_alloc _ _ none) (by simp)) hlen hs)
  by_cases c5 : freshE ns name = 0
  · rw [if_pos c5]
    have C5 := Lib.hid c5
    have HS := Lib.hid hls
    have hmm := @run_makeMap Try.prog
    clear hls hs hlen c5
    rcases Nat.eq_zero_or_pos locals.length with h0 | h0
    · clear hel
      have H0 := Lib.hid h0
      clear h0
      go_enter Try.func34, Try.ntmps34
      go_wp2_with (go_at_call 33; refine F.out.mono ?_; rintro e w1 ⟨rfl, hg, hn⟩; have HG := Lib.hid hg; have HN := Lib.hid (hn C5.out); have k2 := hg.cell (a := ⟨w.heap.size, 2, none⟩) (v := .slice p locals.length cap) (by simp) (by simp; omega); have hz := size_lt hg; clear hg hn; rw [C5.out])
      go_loopw [43] (fun i wr => ∃ k : Nat, k ≤ locals.length ∧ i = .int .i64 k ∧ NameSet wr w1.heap.size ((locals.take k).reverse ++ []) ∧ (w1.alloc (.map #[] 0)).grownBy wr (some w1.heap.size) ∧ namesE [] locals = namesE ((locals.take k).reverse ++ []) (locals.drop k)) (fun i _ => locals.length - (intOf i).toNat)
      case atStart => exact ⟨0, Nat.zero_le _, rfl, nameSet_made w1, grownBy_refl _ _, rfl⟩
      case round =>
        obtain ⟨k, hk, rfl, hset, hgr, hnm⟩ := hrel
        have HR := Lib.hid hgr
        have HM := Lib.hid hnm
        have HT := Lib.hid hset
        clear hgr hnm hset
        by_cases hlt : k < locals.length
        · exact absurd hlt (by have := H0.out; omega)
        · have hkk : k = locals.length := by omega
          have hfin : namesE [] locals = 0 := by rw [HM.out, hkk, List.drop_length]; rfl
          have HF := Lib.hid hfin
          clear hfin
          subst hkk
          go_wp2
          go_ret
          exact ⟨ret_int HF.out.symm, grow_new (grownBy_trans (World.grownBy_alloc _ _ _) (grownBy_trans HG.out (World.grownBy_alloc _ _ _))) HR.out (by have := hz; omega), fun _ => nameSet_kept (nameSet_kept HN.out (World.grownBy_alloc _ _ none) (by simp)) HR.out (by have := nameSet_lt HN.out; intro e; injection e with e; omega)⟩
    · obtain ⟨b', off, rfl, hb', hcell⟩ := hel h0
      have HC := Lib.hid hcell
      have HNE := Lib.hid (fun k (h : k < locals.length) => nameSet_ne hN (hcell k h))
      clear hcell hel
      go_enter Try.func34, Try.ntmps34
      go_wp2_with (go_at_call 33; refine F.out.mono ?_; rintro e w1 ⟨rfl, hg, hn⟩; have HG := Lib.hid hg; have HN := Lib.hid (hn C5.out); have k2 := hg.cell (a := ⟨w.heap.size, 2, none⟩) (v := .slice (some ⟨b', off, none⟩) locals.length cap) (by simp) (by simp; omega); have hz := size_lt hg; clear hg hn; rw [C5.out])
      go_loopw [43] (fun i wr => ∃ k : Nat, k ≤ locals.length ∧ i = .int .i64 k ∧ NameSet wr w1.heap.size ((locals.take k).reverse ++ []) ∧ (w1.alloc (.map #[] 0)).grownBy wr (some w1.heap.size) ∧ namesE [] locals = namesE ((locals.take k).reverse ++ []) (locals.drop k)) (fun i _ => locals.length - (intOf i).toNat)
      case atStart => exact ⟨0, Nat.zero_le _, rfl, nameSet_made w1, grownBy_refl _ _, rfl⟩
      case round =>
        obtain ⟨k, hk, rfl, hset, hgr, hnm⟩ := hrel
        have HR := Lib.hid hgr
        have HM := Lib.hid hnm
        have HT := Lib.hid hset
        clear hgr hnm hset
        by_cases hlt : k < locals.length
        · have g := elem_carry (HC.out k hlt) HG.out (HNE.out k hlt) HR.out
          have F2 := Lib.hid (fresh_any w1.heap.size ((locals.take k).reverse ++ []) locals[k] wr HT.out (by simp; omega) (HS.out k hlt))
          by_cases c6 : freshE ((locals.take k).reverse ++ []) locals[k] = 0
          · have HM2 := Lib.hid (HM.out.trans (namesE_step [] locals k hlt c6))
            have C6 := Lib.hid c6
            clear c6
            generalize hs : locals[k] = sk at *
            have HSK := Lib.hid hs
            clear hs
            go_wp2_with (go_at_call 33; refine F2.out.mono ?_; rintro e w3 ⟨rfl, hg3, hn3⟩; have HG3 := Lib.hid hg3; have HN3 := Lib.hid (hn3 C6.out); clear hg3 hn3; rw [C6.out])
            go_roundw
            case rel => exact ⟨k + 1, by omega, by go_num, by rw [List.take_succ_eq_append_getElem hlt, List.reverse_append, HSK.out]; exact HN3.out, grownBy_trans HR.out HG3.out, HM2.out⟩
            case measure => simp [intOf]; omega
          · have g6 : (freshE ((locals.take k).reverse ++ []) locals[k] != 0) = true := by simpa using c6
            have HM2 := Lib.hid (HM.out.trans (namesE_stop [] locals k hlt c6))
            have C6 := Lib.hid c6
            clear c6
            generalize hs : locals[k] = sk at *
            generalize freshE ((locals.take k).reverse ++ []) sk = v at *
            have HSK := Lib.hid hs
            clear hs
            go_wp2_with (go_at_call 33; refine F2.out.mono ?_; rintro e w3 ⟨rfl, hg3, hn3⟩; have HG3 := Lib.hid hg3; clear hg3 hn3)
            go_ret
            exact ⟨ret_int HM2.out.symm, grow_new (grownBy_trans (World.grownBy_alloc _ _ _) (grownBy_trans HG.out (World.grownBy_alloc _ _ _))) (grownBy_trans HR.out HG3.out) (by have := hz; omega), fun h => absurd (HM2.out ▸ h) C6.out⟩
        · have hkk : k = locals.length := by omega
          have hfin : namesE [] locals = 0 := by rw [HM.out, hkk, List.drop_length]; rfl
          have HF := Lib.hid hfin
          clear hfin
          subst hkk
          go_wp2
          go_ret
          exact ⟨ret_int HF.out.symm, grow_new (grownBy_trans (World.grownBy_alloc _ _ _) (grownBy_trans HG.out (World.grownBy_alloc _ _ _))) HR.out (by have := hz; omega), fun _ => nameSet_kept (nameSet_kept HN.out (World.grownBy_alloc _ _ none) (by simp)) HR.out (by have := nameSet_lt HN.out; intro e; injection e with e; omega)⟩
  · rw [if_neg c5]
    have g5 : (freshE ns name != 0) = true := by simpa using c5
    have C5 := Lib.hid c5
    clear c5 hel hls hs hlen hL hN
    generalize freshE ns name = v at *
    go_enter Try.func34, Try.ntmps34
    go_wp2_with (go_at_call 33; refine F.out.mono ?_; rintro e w1 ⟨rfl, hg, hn⟩; have HG := Lib.hid hg; clear hg hn)
    go_ret
    exact ⟨rfl, grownBy_trans (World.grownBy_alloc _ _ _) HG.out, fun h => absurd h C5.out⟩

end Go.Proofs.Ytecaolkbllbokaa.TG
