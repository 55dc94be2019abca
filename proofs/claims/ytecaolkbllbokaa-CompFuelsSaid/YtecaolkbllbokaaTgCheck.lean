/-
  Walk of package tongue's Check: a unit's first fault. Conditions: as each theorem states.
-/
import Derived.Test.YtecaolkbllbokaaTgUnit
namespace Go.Proofs.Ytecaolkbllbokaa.TG
open Go.RowKit Go.Great Go.Maps Go.ChangeShapes Go.ChangeMaps Go.WideMaps
set_option linter.unusedSimpArgs false
set_option linter.unusedVariables false

/-- The unit's own copy. -/
def BoxU (w : World) (b : Nat) (vt vf : Value) : Prop := w.heap[b]? = some (.cells #[vt, vf] 25 (0, 0))
theorem boxU_kept {w w' : World} {b : Nat} {vt vf : Value} {row : Option Nat} (h : BoxU w b vt vf) (g : w.grownBy w' row) (hr : row ≠ some b) : BoxU w' b vt vf := by
  unfold BoxU at *
  rw [g.block b ?_ (by intro e; exact hr e.symm)]
  · exact h
  · exact (Array.getElem?_eq_some_iff.1 h).1
theorem boxU_0 {w : World} {b : Nat} {vt vf : Value} (h : BoxU w b vt vf) : w.cell? ⟨b, 0, none⟩ = some vt := cell_of_row w b 0 _ _ _ h
theorem boxU_1 {w : World} {b : Nat} {vt vf : Value} (h : BoxU w b vt vf) : w.cell? ⟨b, 1, none⟩ = some vf := cell_of_row w b 1 _ _ _ h
theorem boxU_lt {w : World} {b : Nat} {vt vf : Value} (h : BoxU w b vt vf) : b < w.heap.size := (Array.getElem?_eq_some_iff.1 h).1
theorem boxU_new (w : World) (vt vf : Value) : BoxU (w.alloc (.cells #[vt, vf] 25)) w.heap.size vt vf := heap_alloc_new w _

/-- What all of Check's loops keep. -/
structure CK (w wr : World) (b : Nat) (vt vf : Value) : Prop where
  box : BoxU wr b vt vf
  gr : w.grownBy wr none
theorem ck_step {w wr w' : World} {b : Nat} {vt vf : Value} {row : Option Nat} (h : CK w wr b vt vf) (g : wr.grownBy w' row) (hr : ∀ r, row = some r → w.heap.size < r) (hb : b = w.heap.size) : CK w w' b vt vf :=
  ⟨boxU_kept h.box g (by intro e; have := hr _ e; omega), ⟨g.os.trans h.gr.os, g.tape.trans h.gr.tape, g.output.trans h.gr.output, Nat.le_trans h.gr.size g.size, fun k hk hk2 =>
    (g.block k (Nat.lt_of_lt_of_le hk h.gr.size) (by intro e; have := hr k e.symm; omega)).trans (h.gr.block k hk hk2)⟩⟩

theorem get_text (ts : List (ByteArray × List Int)) (k : Nat) (h : k < ts.length) : ∃ nm d, ts[k]? = some (nm, d) ∧ (nm, d) ∈ ts := ⟨_, _, List.getElem?_eq_getElem h, List.getElem_mem h⟩

theorem strs_of {w : World} {B : Nat} {p : Option Addr} {l : List ByteArray} {cap : Nat} (h : StrsB w B p l) (hB : B ≤ w.heap.size) : Strs w (.slice p l.length cap) l := ⟨p, cap, rfl, fun h0 => by
  obtain ⟨b, o, e, hb, hc⟩ := h h0
  exact ⟨b, o, e, by omega, hc⟩⟩
theorem get_fun (us : List Fun) (k : Nat) (h : k < us.length) : ∃ f, us[k]? = some f ∧ f ∈ us := ⟨_, List.getElem?_eq_getElem h, List.getElem_mem h⟩
theorem some_le {r : Nat} {M B0 : Nat} (h : B0 < M) : ∀ k, some M = some k → B0 < k := by intro k e; injection e with e; omega
theorem none_le {B0 : Nat} : ∀ k, (none : Option Nat) = some k → B0 < k := by simp

theorem env_of {w w' : World} {B bF oF : Nat} {us : List Fun} (hc : ∀ i f, us[i]? = some f →
    w.cell? ⟨bF, oF + i * 4, none⟩ = some (.string f.name) ∧ w.cell? ⟨bF, oF + i * 4 + 1, none⟩ = some (.int .i64 f.args) ∧
    (∃ (pl : Option Addr) (cl : Nat), w.cell? ⟨bF, oF + i * 4 + 2, none⟩ = some (.slice pl f.locals.length cl) ∧ StrsB w B pl f.locals) ∧
    (∃ (pp : Option Addr) (cp : Nat), w.cell? ⟨bF, oF + i * 4 + 3, none⟩ = some (.slice pp f.parts.length cp) ∧ PartsB w B pp f.parts))
    (g : w.grownBy w' none) (hb : bF < B) (k : Nat) (f : Fun) (hf : us[k]? = some f) (Bc : Nat) (hBc : B ≤ Bc) (hlt : Bc < w'.heap.size) :
    ∃ (pl : Option Addr) (cl : Nat) (pp : Option Addr) (cp : Nat), Env w' Bc bF (oF + k * 4) (.slice pl f.locals.length cl) pp cp f.parts (some ⟨bF, oF, none⟩) (us.map Fun.args) := by
  obtain ⟨_, _, ⟨pl, cl, h2, _⟩, ⟨pp, cp, h3, hp⟩⟩ := hc k f hf
  refine ⟨pl, cl, pp, cp, hlt, by omega, g.cell h2 (by simp), g.cell h3 (by simp), fun h0 => ?_, fun _ => ⟨bF, oF, rfl, by omega, fun i hi => ?_⟩⟩
  · obtain ⟨bp, op, e, hbp, hcc⟩ := hp h0
    refine ⟨bp, op, e, by omega, fun j k n kc hj => ?_⟩
    obtain ⟨c0, c1, c2⟩ := hcc j k n kc hj
    exact ⟨g.cell c0 (by simp), g.cell c1 (by simp), g.cell c2 (by simp)⟩
  · rw [List.length_map] at hi
    have h1 := (hc i us[i] (List.getElem?_eq_getElem hi)).2.1
    have e : (us.map Fun.args).getD i 0 = us[i].args := by simp [List.getD, List.getElem?_map, List.getElem?_eq_getElem hi]
    rw [e]
    exact g.cell h1 (by simp)

theorem bytes_step (ts : List (ByteArray × List Int)) (k : Nat) (nm : ByteArray) (d : List Int) (h : ts[k]? = some (nm, d)) : bytesTo ts (k + 1) = bytesTo ts k + (d.length : Int) := by
  have : ts.getD k (ByteArray.empty, []) = (nm, d) := by simp [List.getD, h]
  rw [bytesTo, this]

set_option maxRecDepth 100000 in
set_option maxHeartbeats 4000000 in
theorem check_any (u : Un) (hu : UnWF u) (pt pf : Option Addr) (ct cf B : Nat) (w : World) (hU : UnitAt w B pt pf u) :
    Calls Try.prog 22 #[.agg #[.slice pt u.texts.length ct, .slice pf u.funcs.length cf]] w fun e w' => e = .returned (.int .i64 (checkE u)) ∧ w.grownBy w' none := by
  have HU := Lib.hid hu
  have UU := Lib.hid hU
  have hnt := hu.nt
  have hnf := hu.nf
  have hle := hU.le
  clear hU
  clear hu
  go_enter Try.func22, Try.ntmps22
  go_wp2
  have K0 := Lib.hid (CK.mk (boxU_new w (.slice pt u.texts.length ct) (.slice pf u.funcs.length cf)) (World.grownBy_alloc w _ none))
  generalize hw1 : w.alloc (.cells #[.slice pt u.texts.length ct, .slice pf u.funcs.length cf] 25) = w1 at *
  clear hw1
  generalize hB0 : w.heap.size = B0 at *
  go_loopw [3, 20] (fun v i wr => ∃ (k : Nat) (x : Int), k ≤ u.texts.length ∧ i = .int .i64 k ∧ v = .int .i64 x ∧ (u.texts.length ≤ 1024 → x = bytesTo u.texts k) ∧ CK w wr B0 (.slice pt u.texts.length ct) (.slice pf u.funcs.length cf)) (fun _ i _ => u.texts.length - (intOf i).toNat)
  case atStart => exact ⟨0, 0, Nat.zero_le _, rfl, rfl, fun _ => rfl, K0.out⟩
  case round =>
    obtain ⟨k, x, hk, rfl, rfl, hx, hck⟩ := hrel
    have CKr := Lib.hid hck
    have HX := Lib.hid hx
    have b0 := boxU_0 hck.box
    have b1 := boxU_1 hck.box
    have hbl := boxU_lt hck.box
    clear hx hck
    by_cases hlt : (k : Int) < (u.texts.length : Int)
    · obtain ⟨nm, d, hg, hmem⟩ := get_text u.texts k (by omega)
      obtain ⟨bt, ot, rfl, hbt, hct⟩ := UU.out.texts (by omega)
      obtain ⟨e0, pd, cd, e1, hbd⟩ := hct k nm d hg
      replace e0 := cell_low CKr.out.gr (B := B) (by simp) hbt e0
      replace e1 := cell_low CKr.out.gr (B := B) (by simp) hbt e1
      have hdl := (HU.out.text _ hmem).2
      have hbt2 : bt < wr.heap.size := by omega
      have HG := Lib.hid hg
      clear hct hbd hmem hg
      simp only [] at hdl
      go_wp2
      go_roundw
      case rel => exact ⟨k + 1, _, by omega, by go_num, rfl, fun h => by rw [bytes_step _ _ _ _ HG.out, ← HX.out h]; have := HX.out h; have := bytesTo_bound u.texts (fun x hx => (HU.out.text x hx).2) k; exact IntWalk.wrap64_in _ ⟨by omega, by omega⟩, ck_step CKr.out (World.grownBy_alloc _ _ none) (by simp) hB0.symm⟩
      case measure => simp [intOf]; omega
    · have hkn : k = u.texts.length := by omega
      subst hkn
      by_cases c1 : 64 < u.funcs.length
      · have hE : checkE u = 2 := by unfold checkE; rw [if_pos (Or.inl c1)]
        go_wp2
        go_ret
        exact ⟨rfl, CKr.out.gr⟩
      by_cases c2 : 1024 < u.texts.length
      · have hE : checkE u = 2 := by unfold checkE; rw [if_pos (Or.inr (Or.inl c2))]
        go_wp2
        go_ret
        exact ⟨rfl, CKr.out.gr⟩
      have hxe := HX.out (by omega)
      by_cases c3 : 65536 < x
      · have hE : checkE u = 2 := by unfold checkE; rw [if_pos (Or.inr (Or.inr (by omega)))]
        clear hxe
        go_wp2
        go_ret
        exact ⟨rfl, CKr.out.gr⟩
      have hE0 : checkE u = if u.funcs.length = 0 ∨ (u.funcs.map Fun.args).getD 0 0 ≠ 0 then 171
          else if namesE [] (u.texts.map Prod.fst) ≠ 0 then namesE [] (u.texts.map Prod.fst)
          else if headsE [] u.funcs ≠ 0 then headsE [] u.funcs
          else allsE u.texts.length (u.funcs.map Fun.args) u.funcs := by unfold checkE; rw [if_neg (by omega)]
      clear hxe HX
      by_cases c4 : u.funcs.length = 0
      · have z0 : ((u.funcs.length : Int) == 0) = true := by rw [c4]; rfl
        rw [if_pos (Or.inl c4)] at hE0
        go_wp2
        go_ret
        exact ⟨rfl, CKr.out.gr⟩
      have z0 : ((u.funcs.length : Int) == 0) = false := beq_eq_false_iff_ne.2 (by omega)
      obtain ⟨bF, oF, rfl, hbF, hcF⟩ := UU.out.funcs (by omega)
      obtain ⟨f0, hf0⟩ : ∃ f0, u.funcs[0]? = some f0 := ⟨_, List.getElem?_eq_getElem (by omega)⟩
      have a1 := (hcF 0 f0 hf0).2.1
      replace a1 := cell_low CKr.out.gr (B := B) (by simp) hbF a1
      have hargs : (u.funcs.map Fun.args).getD 0 0 = f0.args := by simp [List.getD, List.getElem?_map, hf0]
      rw [hargs] at hE0
      simp only [Nat.zero_mul, Nat.add_zero] at a1
      have hbF2 : bF < wr.heap.size := by omega
      have hi0 : (0 : Int) < (u.funcs.length : Int) := by omega
      have HF := Lib.hid hcF
      clear hcF hf0 hargs
      by_cases c5 : f0.args = 0
      · have z1 : (f0.args != 0) = false := by simp [c5]
        rw [if_neg (by simp [c4, c5])] at hE0
        have HE0 := Lib.hid hE0
        have hmm := @run_makeMap Try.prog
        clear hE0 c5
        go_wp2
        have Kw := Lib.hid (ck_step CKr.out (World.grownBy_alloc wr (.map #[] 0) none) (by simp) hB0.symm)
        have M0 := Lib.hid (nameSet_made wr)
        have hMB : B0 < wr.heap.size := hbl
        clear CKr b0 b1 a1 hi0 z0 z1 hbl hbF2
        generalize hw2 : wr.alloc (.map #[] 0) = w2 at *
        generalize hM : wr.heap.size = M at *
        have hMw : M < w2.heap.size := by rw [← hw2, World.size_alloc, hM]; omega
        clear hw2 hM
        go_loopw [62] (fun i wr => ∃ k : Nat, k ≤ u.texts.length ∧ i = .int .i64 k ∧ NameSet wr M (((u.texts.map Prod.fst).take k).reverse ++ []) ∧ CK w wr B0 (.slice pt u.texts.length ct) (.slice (some ⟨bF, oF, none⟩) u.funcs.length cf) ∧ namesE [] (u.texts.map Prod.fst) = namesE (((u.texts.map Prod.fst).take k).reverse ++ []) ((u.texts.map Prod.fst).drop k)) (fun i _ => u.texts.length - (intOf i).toNat)
        case atStart => exact ⟨0, Nat.zero_le _, rfl, M0.out, Kw.out, rfl⟩
        case round =>
          obtain ⟨k, hk, rfl, hset, hck, hnm⟩ := hrel
          have HT := Lib.hid hset
          have CKr := Lib.hid hck
          have HM := Lib.hid hnm
          have b0 := boxU_0 hck.box
          have b1 := boxU_1 hck.box
          have hbl := boxU_lt hck.box
          clear hset hck hnm
          by_cases hlt : (k : Int) < (u.texts.length : Int)
          · obtain ⟨nm, d, hg, hmem⟩ := get_text u.texts k (by omega)
            obtain ⟨bt, ot, rfl, hbt, hct⟩ := UU.out.texts (by omega)
            obtain ⟨e0, pd, cd, e1, hbd⟩ := hct k nm d hg
            replace e0 := cell_low CKr.out.gr (B := B) (by simp) hbt e0
            replace e1 := cell_low CKr.out.gr (B := B) (by simp) hbt e1
            have hbt2 : bt < wr.heap.size := by omega
            have hks : k < (u.texts.map Prod.fst).length := by simp; omega
            have hsk : (u.texts.map Prod.fst)[k] = nm := by rw [List.getElem_map, (List.getElem?_eq_some_iff.1 hg).2]
            have F := Lib.hid (fresh_any M (((u.texts.map Prod.fst).take k).reverse ++ []) nm (wr.alloc (.cells #[.string nm, .slice pd d.length cd] 65)) (nameSet_kept HT.out (World.grownBy_alloc _ _ none) (by simp)) (by simp; omega) (HU.out.text _ hmem).1)
            by_cases c6 : freshE (((u.texts.map Prod.fst).take k).reverse ++ []) nm = 0
            · have HM2 := Lib.hid (HM.out.trans (namesE_step [] _ k hks (by rw [hsk]; exact c6)))
              have C6 := Lib.hid c6
              have HSK := Lib.hid hsk
              clear c6 hsk hct hbd hmem hg
              go_wp2_with (go_at_call 33; refine F.out.mono ?_; rintro e w3 ⟨rfl, hg3, hn3⟩; have HG3 := Lib.hid hg3; have HN3 := Lib.hid (hn3 C6.out); clear hg3 hn3; rw [C6.out])
              go_roundw
              case rel => exact ⟨k + 1, by omega, by go_num, by rw [List.take_succ_eq_append_getElem hks, List.reverse_append, HSK.out]; exact HN3.out, ck_step (ck_step CKr.out (World.grownBy_alloc _ _ none) (by simp) hB0.symm) HG3.out (some_le (r := 0) (by omega)) hB0.symm, HM2.out⟩
              case measure => simp [intOf]; omega
            · have g6 : (freshE (((u.texts.map Prod.fst).take k).reverse ++ []) nm != 0) = true := by simpa using c6
              have HM2 := HM.out.trans (namesE_stop [] _ k hks (by rw [hsk]; exact c6))
              rw [hsk] at HM2
              have HE1 := Lib.hid (HE0.out.trans (by rw [HM2, if_pos c6]) : checkE u = freshE (((u.texts.map Prod.fst).take k).reverse ++ []) nm)
              clear c6 hsk hct hbd hmem hg hks HM2
              generalize freshE (((u.texts.map Prod.fst).take k).reverse ++ []) nm = v at *
              go_wp2_with (go_at_call 33; refine F.out.mono ?_; rintro e w3 ⟨rfl, hg3, hn3⟩; have HG3 := Lib.hid hg3; clear hg3 hn3)
              go_ret
              exact ⟨ret_int HE1.out.symm, (ck_step (ck_step CKr.out (World.grownBy_alloc _ _ none) (by simp) hB0.symm) HG3.out (some_le (r := 0) (by omega)) hB0.symm).gr⟩
          · have hkn : k = u.texts.length := by omega
            have hfin : namesE [] (u.texts.map Prod.fst) = 0 := by rw [HM.out, hkn, show u.texts.length = (u.texts.map Prod.fst).length by simp, List.drop_length]; rfl
            have HE1 := Lib.hid (HE0.out.trans (by rw [hfin, if_neg (by simp)]) : checkE u = if headsE [] u.funcs ≠ 0 then headsE [] u.funcs else allsE u.texts.length (u.funcs.map Fun.args) u.funcs)
            clear hfin HM HT HE0
            subst hkn
            go_wp2
            have Kw2 := Lib.hid (ck_step CKr.out (World.grownBy_alloc wr (.map #[] 0) none) (by simp) hB0.symm)
            have M02 := Lib.hid (nameSet_made wr)
            clear CKr b0 b1 M0 Kw
            generalize hw3 : wr.alloc (.map #[] 0) = w3 at *
            generalize hM2 : wr.heap.size = M2 at *
            have hMw2 : M2 < w3.heap.size := by rw [← hw3, World.size_alloc, hM2]; omega
            clear hw3 hM2
            go_loopw [78] (fun i wr => ∃ k : Nat, k ≤ u.funcs.length ∧ i = .int .i64 k ∧ NameSet wr M2 ((u.funcs.map Fun.name).take k).reverse ∧ CK w wr B0 (.slice pt u.texts.length ct) (.slice (some ⟨bF, oF, none⟩) u.funcs.length cf) ∧ headsE [] u.funcs = headsE ((u.funcs.map Fun.name).take k).reverse (u.funcs.drop k)) (fun i _ => u.funcs.length - (intOf i).toNat)
            case atStart => exact ⟨0, Nat.zero_le _, rfl, M02.out, Kw2.out, rfl⟩
            case round =>
              obtain ⟨k, hk, rfl, hset, hck, hnm⟩ := hrel
              have HT := Lib.hid hset
              have CKr := Lib.hid hck
              have HM := Lib.hid hnm
              have b0 := boxU_0 hck.box
              have b1 := boxU_1 hck.box
              have hbl := boxU_lt hck.box
              clear hset hck hnm
              by_cases hlt : (k : Int) < (u.funcs.length : Int)
              · obtain ⟨f, hg, hmem⟩ := get_fun u.funcs k (by omega)
                obtain ⟨e0, e1, ⟨pl, cl, e2, hl⟩, ⟨pp, cp, e3, hp⟩⟩ := HF.out k f hg
                replace e0 := cell_low CKr.out.gr (B := B) (by simp) hbF e0
                replace e1 := cell_low CKr.out.gr (B := B) (by simp) hbF e1
                replace e2 := cell_low CKr.out.gr (B := B) (by simp) hbF e2
                replace e3 := cell_low CKr.out.gr (B := B) (by simp) hbF e3
                have hbF2 : bF < wr.heap.size := by omega
                obtain ⟨hn1, hn2, hn3, hn4⟩ := HU.out.name f hmem
                have hgC : wr.grownBy (wr.alloc (.cells #[.string f.name, .int .i64 f.args, .slice pl f.locals.length cl, .slice pp f.parts.length cp] 69)) none := World.grownBy_alloc _ _ none
                have F := Lib.hid (head_any M2 ((u.funcs.map Fun.name).take k).reverse f.name f.args (.slice pl f.locals.length cl) (.slice pp f.parts.length cp) f.locals (wr.alloc (.cells #[.string f.name, .int .i64 f.args, .slice pl f.locals.length cl, .slice pp f.parts.length cp] 69)) (nameSet_kept HT.out hgC (by simp)) (by simp; omega) hn1 (strs_of (strsB_kept (strsB_kept hl CKr.out.gr (by simp)) hgC (by simp)) (by have := hgC.size; omega)) (fun i h => hn4 _ (List.getElem_mem h)) (by unfold maxLen; omega))
                have GC := Lib.hid hgC
                by_cases c6 : headE ((u.funcs.map Fun.name).take k).reverse f.name f.args f.locals = 0
                · have HM2 := Lib.hid (HM.out.trans (headsE_step _ k f hg c6))
                  have C6 := Lib.hid c6
                  have HSK := Lib.hid (show ((u.funcs.map Fun.name).take (k + 1)).reverse = f.name :: ((u.funcs.map Fun.name).take k).reverse by
                    obtain ⟨hk', hf'⟩ := List.getElem?_eq_some_iff.1 hg
                    rw [List.take_succ_eq_append_getElem (by simpa using hk'), List.reverse_append]; simp [hf'])
                  clear c6 hl hp hmem hg hn1 hn2 hn3 hn4 hgC
                  go_wp2_with (go_at_call 34; refine F.out.mono ?_; intro e w3 hpost; obtain ⟨rfl, hg3, hn3⟩ := hpost; have HG3 := Lib.hid hg3; have HN3 := Lib.hid (hn3 C6.out); clear hg3 hn3; rw [C6.out])
                  go_roundw
                  case rel => exact ⟨k + 1, by omega, by go_num, by rw [HSK.out]; exact HN3.out, ck_step (ck_step CKr.out (World.grownBy_alloc _ _ none) (by simp) hB0.symm) HG3.out (some_le (r := 0) (by omega)) hB0.symm, HM2.out⟩
                  case measure => simp [intOf]; omega
                · have g6 : (headE ((u.funcs.map Fun.name).take k).reverse f.name f.args f.locals != 0) = true := by simpa using c6
                  have HM2 := HM.out.trans (headsE_stop _ k f hg c6)
                  have HE2 := Lib.hid (HE1.out.trans (by rw [HM2, if_pos c6]) : checkE u = headE ((u.funcs.map Fun.name).take k).reverse f.name f.args f.locals)
                  clear c6 hl hp hmem hg hn1 hn2 hn3 hn4 hgC HM2
                  generalize headE ((u.funcs.map Fun.name).take k).reverse f.name f.args f.locals = v at *
                  go_wp2_with (go_at_call 34; refine F.out.mono ?_; intro e w3 hpost; obtain ⟨rfl, hg3, hn3⟩ := hpost; have HG3 := Lib.hid hg3; clear hg3 hn3)
                  go_ret
                  exact ⟨ret_int HE2.out.symm, (ck_step (ck_step CKr.out (World.grownBy_alloc _ _ none) (by simp) hB0.symm) HG3.out (some_le (r := 0) (by omega)) hB0.symm).gr⟩
              · have hkn : k = u.funcs.length := by omega
                have hfin : headsE [] u.funcs = 0 := by rw [HM.out, hkn, List.drop_length]; rfl
                have HE2 := Lib.hid (HE1.out.trans (by rw [hfin, if_neg (by simp)]) : checkE u = allsE u.texts.length (u.funcs.map Fun.args) u.funcs)
                have K4 := Lib.hid CKr.out
                clear hfin HM HT HE1
                subst hkn
                go_wp2
                clear CKr b0 b1 hbl
                go_loopw [92] (fun i wr => ∃ k : Nat, k ≤ u.funcs.length ∧ i = .int .i64 k ∧ CK w wr B0 (.slice pt u.texts.length ct) (.slice (some ⟨bF, oF, none⟩) u.funcs.length cf) ∧ allsE u.texts.length (u.funcs.map Fun.args) u.funcs = allsE u.texts.length (u.funcs.map Fun.args) (u.funcs.drop k)) (fun i _ => u.funcs.length - (intOf i).toNat)
                case atStart => exact ⟨0, Nat.zero_le _, rfl, K4.out, rfl⟩
                case round =>
                  obtain ⟨k, hk, rfl, hck, hnm⟩ := hrel
                  have CKr := Lib.hid hck
                  have HM := Lib.hid hnm
                  have b0 := boxU_0 hck.box
                  have b1 := boxU_1 hck.box
                  have hbl := boxU_lt hck.box
                  clear hck hnm
                  by_cases hlt : (k : Int) < (u.funcs.length : Int)
                  · obtain ⟨f, hg, hmem⟩ := get_fun u.funcs k (by omega)
                    have hbF2 : bF < wr.heap.size := by omega
                    go_wp2
                    go_region
                    have hgW : wr.grownBy ((wr.alloc (.cells #[.slice pt u.texts.length ct, .slice (some ⟨bF, oF, none⟩) u.funcs.length cf, .pointer (some ⟨bF, oF + k * 4, none⟩), .int .i64 0, .int .i64 0, .int .i64 0] 95)).drew) none := grownBy_drew (World.grownBy_alloc _ _ none)
                    obtain ⟨pl, cl, pp, cp, hE⟩ := env_of HF.out (grownBy_trans CKr.out.gr hgW) hbF k f hg wr.heap.size (by omega) (by simp)
                    have hBx : BoxW 95 ((wr.alloc (.cells #[.slice pt u.texts.length ct, .slice (some ⟨bF, oF, none⟩) u.funcs.length cf, .pointer (some ⟨bF, oF + k * 4, none⟩), .int .i64 0, .int .i64 0, .int .i64 0] 95)).drew) wr.heap.size bF (oF + k * 4) (.slice pt u.texts.length ct) (.slice (some ⟨bF, oF, none⟩) u.funcs.length cf) ⟨0, 0, 0⟩ := heap_alloc_new wr _
                    obtain ⟨hn1, hn2, hn3, hn4⟩ := HU.out.name f hmem
                    have hAL := all_any 95 wr.heap.size bF (oF + k * 4) cp cf f.locals.length cl u.texts.length ct pt (some ⟨bF, oF, none⟩) pl pp (u.funcs.map Fun.args) (by simp; omega) f.parts hn3 _ hE (by rw [List.length_map]; exact hBx)
                    have AL := Lib.hid hAL
                    have GW := Lib.hid hgW
                    by_cases c6 : allE f.locals.length u.texts.length (u.funcs.map Fun.args) f.parts = 0
                    · have HM2 := Lib.hid (HM.out.trans (allsE_step _ _ _ k f hg c6))
                      have C6 := Lib.hid c6
                      clear c6 hmem hg hn1 hn2 hn3 hn4 hgW hAL hE hBx
                      go_wp2_with (go_at_call 35; refine AL.out.mono ?_; rintro e w3 ⟨rfl, hg3⟩; have HG3 := Lib.hid hg3; clear hg3; rw [C6.out])
                      go_roundw
                      case rel => exact ⟨k + 1, by omega, by go_num, ck_step (ck_step CKr.out GW.out none_le hB0.symm) HG3.out (some_le (r := 0) (by omega)) hB0.symm, HM2.out⟩
                      case measure => simp [intOf]; omega
                    · have g6 : (allE f.locals.length u.texts.length (u.funcs.map Fun.args) f.parts != 0) = true := by simpa using c6
                      have HE3 := Lib.hid (HE2.out.trans (HM.out.trans (allsE_stop _ _ _ k f hg c6)))
                      clear c6 hmem hg hn1 hn2 hn3 hn4 hgW hAL hE hBx
                      generalize allE f.locals.length u.texts.length (u.funcs.map Fun.args) f.parts = v at *
                      go_wp2_with (go_at_call 35; refine AL.out.mono ?_; rintro e w3 ⟨rfl, hg3⟩; have HG3 := Lib.hid hg3; clear hg3)
                      go_ret
                      exact ⟨ret_int HE3.out.symm, (ck_step (ck_step CKr.out GW.out none_le hB0.symm) HG3.out (some_le (r := 0) (by omega)) hB0.symm).gr⟩
                  · have hkn : k = u.funcs.length := by omega
                    have HE3 := Lib.hid (HE2.out.trans (by rw [HM.out, hkn, List.drop_length]; rfl) : checkE u = 0)
                    subst hkn
                    go_wp2
                    go_ret
                    exact ⟨ret_int HE3.out.symm, CKr.out.gr⟩
      · have z1 : (f0.args != 0) = true := by simpa using c5
        rw [if_pos (Or.inr c5)] at hE0
        clear c5
        go_wp2
        go_ret
        exact ⟨rfl, CKr.out.gr⟩

end Go.Proofs.Ytecaolkbllbokaa.TG
