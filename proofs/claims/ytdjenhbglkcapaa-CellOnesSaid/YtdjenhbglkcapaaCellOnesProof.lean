/-
  Proved: called with any input, the Go function retort/retortlaw10.CellOnes returns true, and its arguments read afterwards as they read before (the given statement Rows.CellOnesSaid). Conditions: none beside those that the given row states.
-/
import Derived.Test.YtdjenhbglkcapaaRows
import Derived.Test.YtdjenhbglkcapaaLawPost
import Derived.WalkKit
import Derived.ProofKit
import Derived.OpenShut
import Derived.Test.YtdjenhbglkcapaaCellHas
import Derived.Deep.Slices
import Derived.Deep.Fields
import Derived.Deep.RegionWith
import Derived.Deep.RegionHeld3
import Derived.ChangeSame
import Derived.Outline
namespace Go.Proofs.Ytdjenhbglkcapaa.cellOnes
open Go.ChangeShapes Go.WideShapes Go.ChangeAt Go.RowKit
set_option linter.unusedSimpArgs false
set_option linter.unusedVariables false

theorem own : ownKnob Try.prog.godebug = none := by kernel_rfl
theorem laidOut : laidOutB Try.prog = true := by kernel_rfl
theorem readable : ∀ t ∈ Try.f10.params.toList, Try.prog.readableRec t = true ∧ t < Try.prog.types.size := by
  intro t ht
  rw [Try.params10] at ht
  simp only [List.mem_cons, List.not_mem_nil, or_false] at ht
  rcases ht with rfl
  all_goals exact ⟨by kernel_rfl, of_decide_eq_true (by kernel_rfl)⟩

open CW Go.Deep
/-- 'The world has at most grown', as one closed word. -/
structure GH (W w' : World) : Prop where
  out : Grown W w'
@[local simp] theorem gh_alloc {W w' : World} (c : Array Value) (t : TypeId) (h : GH W w') : GH W (w'.alloc (.cells c t)) := ⟨h.out.alloc c t⟩
@[local simp] theorem gh_drew {W w' : World} (h : GH W w') : GH W w'.drew := ⟨h.out.drew⟩
@[local simp] theorem gh_drewN {W w' : World} (n : Nat) (h : GH W w') : GH W (w'.drewN n) := ⟨h.out⟩
structure Kp (N : Nat) (op : Int) (w W' : World) : Prop where
  a : W'.cell? ⟨N, 0, none⟩ = some (.int .i64 op)
  b : N < W'.heap.size
  c : Grown w W'
theorem keep_alloc {N : Nat} {v : Value} {w W' : World} {c : Array Value} {t : TypeId} (h1 : W'.cell? ⟨N, 0, none⟩ = some v) (h2 : N < W'.heap.size) (h3 : GH w W') :
    (W'.alloc (.cells c t)).cell? ⟨N, 0, none⟩ = some v ∧ N < (W'.alloc (.cells c t)).heap.size ∧ GH w (W'.alloc (.cells c t)) :=
  ⟨by rw [World.cell?_alloc_past _ _ _ h2]; exact h1, by rw [World.size_alloc]; omega, gh_alloc _ _ h3⟩
theorem keep_drew {N : Nat} {v : Value} {w W' : World} (h1 : W'.cell? ⟨N, 0, none⟩ = some v) (h2 : N < W'.heap.size) (h3 : GH w W') :
    W'.drew.cell? ⟨N, 0, none⟩ = some v ∧ N < W'.drew.heap.size ∧ GH w W'.drew := ⟨h1, h2, gh_drew h3⟩
theorem keep_drew_alloc {N : Nat} {v : Value} {w W' : World} {c : Array Value} {t : TypeId} (h1 : W'.cell? ⟨N, 0, none⟩ = some v) (h2 : N < W'.heap.size) (h3 : GH w W') :
    (W'.drew.alloc (.cells c t)).cell? ⟨N, 0, none⟩ = some v ∧ N < (W'.drew.alloc (.cells c t)).heap.size ∧ GH w (W'.drew.alloc (.cells c t)) := keep_alloc (W' := W'.drew) h1 h2 (gh_drew h3)
theorem grown_drewN {W w' : World} (h : Grown W w') (n : Nat) : Grown W (w'.drewN n) := h

section
variable {H : Type} {enc : TypeId × Value → H} {P : Program} {w : World} {base : Nat} {spare : Nat → Bool} {held : Bool}
/-- A slice of structs of one-cell fields, opened to its cells (the kit's own lemma to copy). -/
theorem open_slice_fields {t e : TypeId} {fs : Array Field} {fuel : Nat} {cs : List Value} {x : DataW H × List MemPlace} (ht : P.underlying t = some (.slice e)) (he : P.underlying e = some (.struct fs))
    (hone : oneCellFields P fs = true) (hC : P.cellsOf e = fs.size) (h : DataW.trod enc P w base spare held fuel t cs = some x) :
    (cs = [.slice none 0 0] ∧ x = (.nil, [])) ∨
    ∃ (a : Addr) (len cap m : Nat) (D : Nat → DataW H) (Pl : Nat → List MemPlace), cs = [.slice (some a) len cap] ∧ base ≤ a.block ∧ len ≤ cap ∧ cap ≤ maxLen ∧ m = (if spare a.block then cap else len) ∧
      x = (.slice ((List.range len).map D) ((List.range (m - len)).map fun j => D (len + j)), MemPlace.row a (m * fs.size) ++ (List.range m).flatMap Pl) ∧
      ∀ i, i < m → ∃ (ys : List (DataW H × List MemPlace)) (n : Nat), D i = .agg (ys.map (·.1)) ∧ Pl i = ys.flatMap (·.2) ∧ ys.length = fs.size ∧
        ∀ (j : Nat) (f : Field), fs[j]? = some f → ∃ (v : Value) (y : DataW H × List MemPlace), w.cell? (a.add (i * fs.size + j)) = some v ∧ ys[j]? = some y ∧ DataW.trod enc P w base spare held n f.type [v] = some y := by
  rcases open_slice ht h with h0 | ⟨a, len, cap, m, n, D, Pl, hcs, hb, hl, hm, hmm, hx, hi⟩
  · exact .inl h0
  · refine .inr ⟨a, len, cap, m, D, Pl, hcs, hb, hl, hm, hmm, by rw [hC] at hx; exact hx, fun i him => ?_⟩
    obtain ⟨cs', hc, ht'⟩ := hi i him
    rw [hC] at hc
    obtain ⟨ys, n', hn', hy, hlen, hyl, hf⟩ := DataW.trod_struct he ht'
    obtain ⟨_, hcl, hat⟩ := World.cells?_some hc
    simp only [Prod.mk.injEq] at hy
    refine ⟨ys, n', hy.1, hy.2, hyl, fun j f hj => ?_⟩
    obtain ⟨ho, hk⟩ := hone_of hone j f hj
    have hjl : j < fs.size := (Array.getElem?_eq_some_iff.1 hj).1
    have hcell := hat j hjl
    have hv : cs'[j]? = some (cs'[j]'(by omega)) := List.getElem?_eq_getElem (by omega)
    have h1 := hf j f hj
    rw [ho, hk] at h1
    have hone' : (cs'.drop j).take 1 = [cs'[j]'(by omega)] := by
      rw [List.drop_eq_getElem_cons (by omega)]
      rfl
    rw [hone'] at h1
    have hys : ys[j]? = some (ys[j]'(by omega)) := List.getElem?_eq_getElem (by omega)
    refine ⟨_, _, ?_, hys, h1.trans hys⟩
    rw [← Go.Deep.add_add, hcell, hv]
end

theorem walk_zero (p : Option Addr) (cap : Nat) (w : World) : Calls Try.prog 10 #[.slice p 0 cap] w fun e w' => e = .returned (.bool true) ∧ Grown w w' := by
  go_enter Try.func10, Try.ntmps10
  go_wp2
  go_loop [3] (fun i => i = .int .i64 0) (fun _ => 0)
  case atStart => exact rfl
  case round =>
    subst hrel
    go_wp2_with (go_at_call 14; refine (head_true _).mono ?_; rintro e w' ⟨rfl, n, rfl⟩)
    go_ret
    exact ⟨rfl, Grown.refl _⟩

/-- The words of a slice, as they lie in memory. -/
def Words (w : World) (b off len : Nat) : Prop := ∀ i, i < len → ∃ (op : Int) (x y : BitVec 64),
  w.cell? ⟨b, off + i * 3, none⟩ = some (.int .i64 op) ∧ w.cell? ⟨b, off + i * 3 + 1, none⟩ = some (.int .i64 x.toInt) ∧ w.cell? ⟨b, off + i * 3 + 2, none⟩ = some (.int .i64 y.toInt)

set_option maxRecDepth 100000 in
set_option maxHeartbeats 600000 in
theorem walk (b off len cap : Nat) (w : World) (hlen : len ≤ 9223372036854775807) (hb : b < w.heap.size) (hw : Words w b off len) :
    Calls Try.prog 10 #[.slice (some ⟨b, off, none⟩) len cap] w fun e w' => e = .returned (.bool true) ∧ Grown w w' := by
  have HW := Lib.hid hw
  clear hw
  go_enter Try.func10, Try.ntmps10
  go_wp2
  go_loopw [3] (fun i wr => ∃ k : Nat, k ≤ len ∧ i = .int .i64 k ∧ Grown w wr) (fun i _ => len - (intOf i).toNat)
  case atStart => exact ⟨0, Nat.zero_le _, rfl, Grown.refl _⟩
  case round =>
    obtain ⟨k, hk, rfl, hg⟩ := hrel
    by_cases hlt : k < len
    · obtain ⟨op, x, y, c0, c1, c2⟩ := HW.out k hlt
      have d0 := (hg.1.cell hb (fun h => h)).trans c0
      have d1 := (hg.1.cell hb (fun h => h)).trans c1
      have d2 := (hg.1.cell hb (fun h => h)).trans c2
      have HG := Lib.hid hg
      clear c0 c1 c2 hg
      go_wp2_with fail
      refine (one_any op x _).mono ?_
      rintro e w' ⟨rfl, n1, rfl⟩
      go_wp2_with fail
      refine (roneop_any op x _).mono ?_
      rintro e w' ⟨rfl, n2, rfl⟩
      go_wp2_with fail
      have s : Kp wr.heap.size op w ((wr.alloc (.cells #[.int .i64 op, .int .i64 x.toInt, .int .i64 y.toInt] 38)).drewN (n1 + n2)) := ⟨by simp, by simp, HG.out.alloc _ _⟩
      obtain ⟨s1, s2, s3⟩ := s
      have s3 : GH w _ := ⟨s3⟩
      clear d0 d1 d2
      generalize hN : wr.heap.size = N at *
      generalize (wr.alloc (.cells #[.int .i64 op, .int .i64 x.toInt, .int .i64 y.toInt] 38)).drewN (n1 + n2) = W2 at *
      clear hN
      go_region_held3 (fun W' => W'.cell? ⟨N, 0, none⟩ = some (.int .i64 op) ∧ N < W'.heap.size ∧ GH w W') (first | exact ⟨by assumption, by assumption, by assumption⟩ | exact keep_alloc (by assumption) (by assumption) (by assumption) | exact keep_drew (by assumption) (by assumption) (by assumption) | exact keep_drew_alloc (by assumption) (by assumption) (by assumption)) (first | (go_at_call 26; refine (has1_any _ _).mono ?_; rintro e w' ⟨rfl, c, rfl⟩) | (go_at_call 27; refine (rhas1_any _ _).mono ?_; rintro e w' ⟨rfl, rfl⟩))
      go_wp2
      go_roundw
      case rel => exact ⟨k + 1, by omega, by go_num, GH.out (by repeat (first | assumption | refine gh_drew ?_ | refine gh_alloc _ _ ?_ | refine gh_drewN _ ?_))⟩
      case measure => simp [intOf]; omega
    · have : k = len := by omega
      subst this
      have HG := Lib.hid hg
      clear hg hlt hk
      go_wp2_with (go_at_call 14; refine (head_true _).mono ?_; rintro e w' ⟨rfl, n, rfl⟩)
      go_ret
      exact ⟨rfl, grown_drewN HG.out _⟩

set_option maxRecDepth 100000 in
theorem lifted (os : Os) (started : os.Started) (H : Type) (enc : TypeId × Value → H) :
    ReturnsInHanded {} Try.checked os 10 .any (Rows.cellOnesSpec.pre6 enc Try.prog Try.f10 Rows.cellOnesRow.domain false) (Rows.cellOnesSpec.post enc Try.prog Try.f10 false true false false) := by
  refine returnsInHanded_of_change (C := Try.checked) own started (by kernel_rfl) Try.func10
    (ChangeSpec.witness6 (enc := enc) (C := Try.checked) false ⟨#[], #[.slice none 0 0], []⟩ 8 (by kernel_rfl) (by kernel_rfl) (by kernel_rfl) (by kernel_rfl)) ?_
  intro W base args ds gs before hval0 hW hcnd hreach
  have hval : ∀ (j : Nat) t v, Try.f10.params[j]? = some t → args[j]? = some v → Value.okWide Try.prog W .any base t v := hval0
  have hW' := hW
  obtain ⟨p, q, hA0, hV, hbefore, hfz, hnd⟩ := hW
  have hA : DataW.TrodAll enc Try.prog W 0 (fun _ => true) true Try.f10.params.toList args.toList ds p := hA0
  rw [Try.params10] at hA hval
  obtain ⟨v0, vs0, d0, ds0, p0, q0, hargs, rfl, rfl, h0, r0⟩ := trodAll_cons hA
  obtain ⟨rfl, rfl, rfl⟩ := trodAll_nil r0
  obtain rfl : args = #[v0] := by cases args; simp_all
  have o0 := hval 0 36 v0 rfl rfl
  have hcall : Calls Try.prog 10 #[v0] W fun e w' => e = .returned (.bool true) ∧ Grown W w' := by
    obtain ⟨fu, h0⟩ := h0
    obtain ⟨a, len, cap, rfl⟩ := okWide_slice Try.underlying36 o0
    rcases open_slice_fields Try.underlying36 Try.underlying38 (by kernel_rfl) (by kernel_rfl) h0 with ⟨hcs, _⟩ | ⟨a', len', cap', m, D, Pl, hcs, _, hl, hm, hmm, _, hi⟩
    · simp [Value.cells] at hcs
      obtain ⟨rfl, rfl, rfl⟩ := hcs
      exact walk_zero _ _ W
    · simp [Value.cells] at hcs
      obtain ⟨rfl, rfl, rfl⟩ := hcs
      simp only [if_true] at hmm
      subst hmm
      have hone : ∀ i, i < len → ∃ (op : Int) (x y : BitVec 64), W.cell? (a'.add (i * 3)) = some (.int .i64 op) ∧ W.cell? (a'.add (i * 3 + 1)) = some (.int .i64 x.toInt) ∧ W.cell? (a'.add (i * 3 + 2)) = some (.int .i64 y.toInt) := by
        intro i hil
        obtain ⟨ys, nn, _, _, _, hf⟩ := hi i (by omega)
        obtain ⟨u0, y0, g0, _, t0⟩ := hf 0 _ rfl
        obtain ⟨u1, y1, g1, _, t1⟩ := hf 1 _ rfl
        obtain ⟨u2, y2, g2, _, t2⟩ := hf 2 _ rfl
        obtain ⟨z0, e0, _, _⟩ := DataW.trod_int Try.underlying3 t0
        obtain ⟨z1, e1, _, k1⟩ := DataW.trod_int Try.underlying3 t1
        obtain ⟨z2, e2, _, k2⟩ := DataW.trod_int Try.underlying3 t2
        obtain rfl : u0 = _ := by simpa using e0
        obtain rfl : u1 = _ := by simpa using e1
        obtain rfl : u2 = _ := by simpa using e2
        obtain ⟨x, rfl⟩ := word_of_wf k1
        obtain ⟨y, rfl⟩ := word_of_wf k2
        exact ⟨z0, x, y, g0, g1, g2⟩
      obtain ⟨b, off, spot⟩ := a'
      by_cases hl0 : len = 0
      · subst hl0
        exact walk_zero _ _ W
      · have hspot : spot = none := by
          obtain ⟨_, _, _, g0, _⟩ := hone 0 (by omega)
          simpa [Addr.add] using World.cell?_spot g0
        subst hspot
        have hb : b < W.heap.size := by
          obtain ⟨_, _, _, g0, _⟩ := hone 0 (by omega)
          exact World.block_lt_of_cell? _ _ g0
        refine walk b off len _ W (by unfold maxLen at hm; omega) hb (fun i hil => ?_)
        obtain ⟨op, x, y, g0, g1, g2⟩ := hone i hil
        exact ⟨op, x, y, by rw [← add_plain]; exact g0, by rw [Nat.add_assoc, ← add_plain]; exact g1, by rw [Nat.add_assoc, ← add_plain]; exact g2⟩
  refine hcall.mono fun e W' ⟨he, hg⟩ => ?_
  subst he
  exact ⟨_, rfl, LP.law_post laidOut readable rfl rfl Try.underlying4 hW' (fun h => by subst h; rfl) hg⟩

theorem over : Rows.cellOnesRow.holds Try.pinned (OpenSpec.ofChange Rows.cellOnesSpec) :=
  OpenClaim.holds_of_wide 10 Try.f10 rfl rfl rfl rfl rfl rfl rfl ⟨rfl, rfl, rfl, rfl, rfl⟩ rfl rfl rfl rfl rfl (by kernel_rfl) Try.func10 (by kernel_rfl)
    (of_decide_eq_true (by kernel_rfl)) (by unfold Func.isWrapper; first | (rw [if_pos (by decide +kernel)]; kernel_rfl) | (rw [if_neg (by decide +kernel)]; exact ⟨rfl, rfl⟩))
    (fun os started H enc _ => lifted os started H enc)

/-- The statement. -/
theorem proved : Rows.CellOnesSaid :=
  over
#print axioms proved
end Go.Proofs.Ytdjenhbglkcapaa.cellOnes
