/-
  Same: two programs. Conditions: as each theorem states.
  The law CompRuns. Conditions: as each theorem states.
  The walk of CompRuns. Conditions: as each theorem states.
-/
import Derived.Test.YtecaolkbllbokaaMA40
namespace Go.Proofs.Ytecaolkbllbokaa.TG
open Go.RowKit Go.Great
set_option linter.unusedSimpArgs false
set_option linter.unusedVariables false

/-- A program as plain data: its memory, its data, its functions (arguments, locals, results, code). -/
structure Pg where
  mem : Int
  data : List Int
  funcs : List (Int × Int × Int × List (Int × Int))

/-- A program lies in memory, in rows of its own. -/
structure ProgAt (w : World) (b : Nat) (vd vF : Value) (p : Pg) : Prop where
  dt : w.ownsRow b 5 1 vd p.data.length (p.data.map (Value.int .u8))
  fr : ∃ xs, w.ownsRow b 73 4 vF p.funcs.length xs ∧ ∀ i a l r c, p.funcs[i]? = some (a, l, r, c) → ∃ vc, xs[i * 4]? = some (.int .i64 a) ∧ xs[i * 4 + 1]? = some (.int .i64 l) ∧ xs[i * 4 + 2]? = some (.int .i64 r) ∧ xs[i * 4 + 3]? = some vc ∧ w.ownsRow b 75 2 vc c.length (flat2 c)

theorem prog_sp {P : Nat → Prop} {w w' : World} {b : Nat} {vd vF : Value} {p : Pg} (h : ProgAt w b vd vF p) (g : Sp P w w') (hp : ∀ k, b ≤ k → ¬ P k) : ProgAt w' b vd vF p := by
  obtain ⟨h1, xs, h2, h3⟩ := h
  refine ⟨own_sp h1 g fun k hk => hp k (h1.lt k hk).1, xs, own_sp h2 g fun k hk => hp k (h2.lt k hk).1, fun i a l r c hi => ?_⟩
  obtain ⟨vc, q0, q1, q2, q3, q4⟩ := h3 i a l r c hi
  exact ⟨vc, q0, q1, q2, q3, own_sp q4 g fun k hk => hp k (q4.lt k hk).1⟩
theorem prog_kept {w w' : World} {b : Nat} {vd vF : Value} {p : Pg} (h : ProgAt w b vd vF p) (g : w.grownBy w' none) : ProgAt w' b vd vF p :=
  prog_sp (P := fun _ => False) h (sp_grown g (by simp)) (fun _ _ h => h)

theorem own_getN {w : World} {base : Nat} {e : TypeId} {size n : Nat} {v : Value} {xs : List Value} (h : w.ownsRow base e size v n xs) (h0 : 0 < n) : ∃ g cap, v = .slice (some ⟨g, 0, none⟩) n cap ∧ g < w.heap.size ∧ ∀ j x, xs[j]? = some x → j < n * size → w.cell? ⟨g, j, none⟩ = some x := by
  obtain ⟨m, rfl⟩ : ∃ m, n = m + 1 := ⟨n - 1, by omega⟩
  obtain ⟨g, cap, rfl⟩ := own_succ h
  exact ⟨g, cap, rfl, (h.lt g rfl).2, fun j x hx hj => by rw [h.cellAt _ (by omega)]; exact hx⟩

theorem bytes_own {w : World} {b : Nat} {p : Option Addr} {n c : Nat} {d : List Int} (h : w.ownsRow b 5 1 (.slice p n c) d.length (d.map (Value.int .u8))) : n = d.length ∧ BytesB w w.heap.size p d := by
  obtain ⟨p', c', e⟩ := own_slice h
  injection e with e1 e2 e3
  refine ⟨e2, fun h0 => ?_⟩
  obtain ⟨g, cap, hv, hg, hc⟩ := own_get h h0
  injection hv with hv _ _
  refine ⟨g, 0, hv, hg, fun i hi => ?_⟩
  rw [Nat.zero_add]
  refine hc i _ ?_ hi
  rw [List.getElem?_map, List.getElem?_eq_getElem hi]
  simp [List.getD_eq_getElem?_getD, List.getElem?_eq_getElem hi]

theorem flat2_get : ∀ (l : List (Int × Int)) (i : Nat) (a b : Int), l[i]? = some (a, b) → (flat2 l)[i * 2]? = some (.int .i64 a) ∧ (flat2 l)[i * 2 + 1]? = some (.int .i64 b)
  | [], i, a, b, h => by simp at h
  | x :: r, 0, a, b, h => by simp at h; subst h; simp [flat2]
  | x :: r, i + 1, a, b, h => by
    obtain ⟨h1, h2⟩ := flat2_get r i a b (by simpa using h)
    have e : (i + 1) * 2 = i * 2 + 1 + 1 := by omega
    rw [e]
    simp only [flat2]
    exact ⟨by simpa using h1, by simpa using h2⟩

/-- A box of four cells. -/
def BoxG (w : World) (b : Nat) (a l r : Int) (vc : Value) : Prop := w.heap[b]? = some (.cells #[.int .i64 a, .int .i64 l, .int .i64 r, vc] 73 (0, 0))
theorem boxG_kept {w w' : World} {b : Nat} {a l r : Int} {vc : Value} {row : Option Nat} (h : BoxG w b a l r vc) (g : w.grownBy w' row) (hr : row ≠ some b) : BoxG w' b a l r vc := blk_moved h g hr
/-- A program's box. -/
def BoxP (w : World) (b : Nat) (m : Int) (vd vF : Value) : Prop := w.heap[b]? = some (.cells #[.int .i64 m, vd, vF] 32 (0, 0))
theorem boxP_kept {w w' : World} {b : Nat} {m : Int} {vd vF : Value} {row : Option Nat} (h : BoxP w b m vd vF) (g : w.grownBy w' row) (hr : row ≠ some b) : BoxP w' b m vd vF := blk_moved h g hr

theorem heap_two (w : World) (o o' : Obj) : ((w.alloc o).alloc o').heap[w.heap.size + 1]? = some o' := by
  have h := heap_alloc_new (w.alloc o) o'
  rw [World.size_alloc] at h; exact h

set_option maxRecDepth 100000 in
set_option maxHeartbeats 8000000 in
theorem prog_same (p : Pg) (vd vF vd' vF' : Value) (b b' : Nat) (w : World) (hd : p.data.length ≤ 1000000000000) (hn : p.funcs.length ≤ 1000000000000) (hc : ∀ x ∈ p.funcs, x.2.2.2.length ≤ 1000000000000) (h : ProgAt w b vd vF p) (h' : ProgAt w b' vd' vF' p) :
    Calls Try.prog 14 #[.agg #[.int .i64 p.mem, vd, vF], .agg #[.int .i64 p.mem, vd', vF']] w fun e w' => e = .returned (.bool true) ∧ w.grownBy w' none := by
  obtain ⟨pd, cd, rfl⟩ := own_slice h.dt
  obtain ⟨pd', cd', rfl⟩ := own_slice h'.dt
  obtain ⟨xs, hx, -⟩ := h.fr
  obtain ⟨pF, cF, rfl⟩ := own_slice hx
  obtain ⟨xs', hx', -⟩ := h'.fr
  obtain ⟨pF', cF', rfl⟩ := own_slice hx'
  clear hx hx'
  have G2 := grownBy_trans (World.grownBy_alloc w (.cells #[.int .i64 p.mem, .slice pd p.data.length cd, .slice pF p.funcs.length cF] 32) none) (World.grownBy_alloc _ (.cells #[.int .i64 p.mem, .slice pd' p.data.length cd', .slice pF' p.funcs.length cF'] 32) none)
  have PA := Lib.hid (prog_kept h G2)
  have PB := Lib.hid (prog_kept h' G2)
  have k1 := conv_bytes (bytes_own PA.out.dt).2 cd
  have k2 := conv_bytes (bytes_own PB.out.dt).2 cd'
  have GB := Lib.hid G2
  have BA := Lib.hid (show BoxP ((w.alloc (.cells #[.int .i64 p.mem, .slice pd p.data.length cd, .slice pF p.funcs.length cF] 32)).alloc (.cells #[.int .i64 p.mem, .slice pd' p.data.length cd', .slice pF' p.funcs.length cF'] 32)) w.heap.size p.mem (.slice pd p.data.length cd) (.slice pF p.funcs.length cF) from blk_moved (heap_alloc_new w _) (World.grownBy_alloc _ _ none) (by simp))
  have BB := Lib.hid (show BoxP ((w.alloc (.cells #[.int .i64 p.mem, .slice pd p.data.length cd, .slice pF p.funcs.length cF] 32)).alloc (.cells #[.int .i64 p.mem, .slice pd' p.data.length cd', .slice pF' p.funcs.length cF'] 32)) (w.heap.size + 1) p.mem (.slice pd' p.data.length cd') (.slice pF' p.funcs.length cF') from heap_two w _ _)
  have HC := Lib.hid hc
  have hni : (p.funcs.length : Int) ≤ 1000000000000 := by omega
  clear h h' G2 hc
  go_enter Try.func14, Try.ntmps14
  go_wp2
  clear k1 k2
  generalize (w.alloc (.cells #[.int .i64 p.mem, .slice pd p.data.length cd, .slice pF p.funcs.length cF] 32)).alloc (.cells #[.int .i64 p.mem, .slice pd' p.data.length cd', .slice pF' p.funcs.length cF'] 32) = w2 at *
  go_loopw [5] (fun i wr => ∃ k : Nat, i = .int .i64 k ∧ k ≤ p.funcs.length ∧ w2.grownBy wr none) (fun i _ => p.funcs.length - (intOf i).toNat)
  case atStart => exact ⟨0, rfl, Nat.zero_le _, grownBy_refl _ _⟩
  case round =>
    obtain ⟨k, rfl, hk, hg⟩ := hrel
    have HG := Lib.hid hg
    have hba := boxP_kept BA.out hg (by simp)
    have hbb := boxP_kept BB.out hg (by simp)
    have a2 := cell_of_row wr _ 2 _ _ _ hba
    have b2 := cell_of_row wr _ 2 _ _ _ hbb
    have al := (Array.getElem?_eq_some_iff.1 hba).1
    have bbl := (Array.getElem?_eq_some_iff.1 hbb).1
    by_cases hlt : (k : Int) < (p.funcs.length : Int)
    · obtain ⟨⟨a, l, r, c⟩, hkf⟩ : ∃ x, p.funcs[k]? = some x := ⟨_, List.getElem?_eq_getElem (by omega)⟩
      obtain ⟨ys, o1, e1⟩ := (prog_kept PA.out hg).fr
      obtain ⟨zs, o2, e2⟩ := (prog_kept PB.out hg).fr
      obtain ⟨ga, ka, ea, la, ca⟩ := own_getN o1 (by omega)
      obtain ⟨gb, kb, eb, lb, cb⟩ := own_getN o2 (by omega)
      injection ea with ea1 ea2 ea3
      injection eb with eb1 eb2 eb3
      subst ea1; subst eb1
      obtain ⟨vc, q0, q1, q2, q3, q4⟩ := e1 k a l r c hkf
      obtain ⟨vc', t0, t1, t2, t3, t4⟩ := e2 k a l r c hkf
      obtain ⟨pc, cc, rfl⟩ := own_slice q4
      obtain ⟨pc', cc', rfl⟩ := own_slice t4
      have f0 := ca _ _ q0 (by omega)
      have f1 := ca _ _ q1 (by omega)
      have f2 := ca _ _ q2 (by omega)
      have f3 := ca _ _ q3 (by omega)
      have f4 := cb _ _ t0 (by omega)
      have f5 := cb _ _ t1 (by omega)
      have f6 := cb _ _ t2 (by omega)
      have f7 := cb _ _ t3 (by omega)
      have hcl := HC.out _ (List.mem_of_getElem? hkf)
      simp only [] at hcl
      have hci : (c.length : Int) ≤ 1000000000000 := by omega
      have GW := grownBy_trans (World.grownBy_alloc wr (.cells #[.int .i64 a, .int .i64 l, .int .i64 r, .slice pc c.length cc] 73) none) (World.grownBy_alloc _ (.cells #[.int .i64 a, .int .i64 l, .int .i64 r, .slice pc' c.length cc'] 73) none)
      have OA := Lib.hid (q4.kept GW (Classical.em _))
      have OB := Lib.hid (t4.kept GW (Classical.em _))
      have HGW := Lib.hid (grownBy_trans hg GW)
      have XA := Lib.hid (show BoxG ((wr.alloc (.cells #[.int .i64 a, .int .i64 l, .int .i64 r, .slice pc c.length cc] 73)).alloc (.cells #[.int .i64 a, .int .i64 l, .int .i64 r, .slice pc' c.length cc'] 73)) wr.heap.size a l r (.slice pc c.length cc) from blk_moved (heap_alloc_new wr _) (World.grownBy_alloc _ _ none) (by simp))
      have XB := Lib.hid (show BoxG ((wr.alloc (.cells #[.int .i64 a, .int .i64 l, .int .i64 r, .slice pc c.length cc] 73)).alloc (.cells #[.int .i64 a, .int .i64 l, .int .i64 r, .slice pc' c.length cc'] 73)) (wr.heap.size + 1) a l r (.slice pc' c.length cc') from heap_two wr _ _)
      clear hg hba hbb hkf o1 o2 e1 e2 ca cb q0 q1 q2 q3 q4 t0 t1 t2 t3 t4 ea2 ea3 eb2 eb3 GW
      go_wp2
      clear f0 f1 f2 f3 f4 f5 f6 f7 a2 b2 al bbl la lb
      obtain ⟨wo, hwo⟩ : ∃ wo, wo = wr := ⟨_, rfl⟩
      subst hwo
      generalize (wo.alloc (.cells #[.int .i64 a, .int .i64 l, .int .i64 r, .slice pc c.length cc] 73)).alloc (.cells #[.int .i64 a, .int .i64 l, .int .i64 r, .slice pc' c.length cc'] 73) = W at *
      generalize wo.heap.size = g0 at *
      go_loopw [8] (fun i wr => ∃ j : Nat, i = .int .i64 j ∧ j ≤ c.length ∧ W.grownBy wr none) (fun i _ => c.length - (intOf i).toNat)
      case atStart => exact ⟨0, rfl, Nat.zero_le _, grownBy_refl _ _⟩
      case round =>
        obtain ⟨j, rfl, hj, hg⟩ := hrel
        have HG3 := Lib.hid hg
        have hxa := boxG_kept XA.out hg (by simp)
        have hxb := boxG_kept XB.out hg (by simp)
        have a3 := cell_of_row wr _ 3 _ _ _ hxa
        have b3 := cell_of_row wr _ 3 _ _ _ hxb
        have al := (Array.getElem?_eq_some_iff.1 hxa).1
        have bbl := (Array.getElem?_eq_some_iff.1 hxb).1
        by_cases hlt2 : (j : Int) < (c.length : Int)
        · obtain ⟨⟨x, y⟩, hxy⟩ : ∃ x, c[j]? = some x := ⟨_, List.getElem?_eq_getElem (by omega)⟩
          obtain ⟨g1, g2⟩ := flat2_get c j x y hxy
          obtain ⟨ga, ka, ea, la, ca⟩ := own_getN (OA.out.kept hg (Classical.em _)) (by omega)
          obtain ⟨gb, kb, eb, lb, cb⟩ := own_getN (OB.out.kept hg (Classical.em _)) (by omega)
          injection ea with ea1 ea2 ea3
          injection eb with eb1 eb2 eb3
          subst ea1; subst eb1
          have f0 := ca _ _ g1 (by omega)
          have f1 := ca _ _ g2 (by omega)
          have f2 := cb _ _ g1 (by omega)
          have f3 := cb _ _ g2 (by omega)
          clear hg hxa hxb g1 g2 ca cb hxy ea2 ea3 eb2 eb3
          go_wp2
          go_quiet (fail)
          go_wp2
          go_roundw
          case rel => exact ⟨j + 1, by go_num, by omega, grownBy_drewN' HG3.out _⟩
          case measure => simp [intOf]; omega
        · clear hg hxa hxb
          go_wp2
          go_roundw
          case rel => exact ⟨k + 1, by go_num, by omega, grownBy_trans HGW.out HG3.out⟩
          case measure => simp [intOf]; omega
    · clear hg hba hbb
      go_wp2
      go_ret
      exact ⟨rfl, grownBy_trans GB.out HG.out⟩

end Go.Proofs.Ytecaolkbllbokaa.TG

namespace Go.Proofs.Ytecaolkbllbokaa.TG
open Go.RowKit Go.Great
set_option linter.unusedSimpArgs false
set_option linter.unusedVariables false

noncomputable def pgU (u : Un) (mem : Int) : Pg := if compE u mem = 0 then ⟨mem, dataE u, u.funcs.map fun f => (f.args, (f.locals.length : Int), 1, (fullP u.texts f.parts).out)⟩ else ⟨0, [], []⟩

theorem flatV_get : ∀ (fs : List Fun) (rs : List Value) (i : Nat) (f : Fun) (r : Value), fs[i]? = some f → rs[i]? = some r → (flatV fs rs)[i * 4]? = some (.int .i64 f.args) ∧ (flatV fs rs)[i * 4 + 1]? = some (.int .i64 f.locals.length) ∧ (flatV fs rs)[i * 4 + 2]? = some (.int .i64 1) ∧ (flatV fs rs)[i * 4 + 3]? = some r
  | [], _, i, f, r, h, _ => by simp at h
  | _ :: _, [], i, f, r, _, h => by simp at h
  | g :: fs, x :: rs, 0, f, r, h, h2 => by
    simp at h h2; subst h; subst h2
    simp [flatV]
  | g :: fs, x :: rs, i + 1, f, r, h, h2 => by
    obtain ⟨q0, q1, q2, q3⟩ := flatV_get fs rs i f r (by simpa using h) (by simpa using h2)
    have e : (i + 1) * 4 = i * 4 + 1 + 1 + 1 + 1 := by omega
    rw [e]
    simp only [flatV]
    exact ⟨by simpa using q0, by simpa using q1, by simpa using q2, by simpa using q3⟩
theorem flat4_V : ∀ (fs : List Fun) (rs : List (Value × Value)), flat4 fs rs = flatV fs (rs.map Prod.fst)
  | [], _ => by simp [flat4, flatV]
  | _ :: _, [] => by simp [flat4, flatV]
  | f :: fs, r :: rs => by simp [flat4, flatV, flat4_V fs rs]

theorem prog_nil (w : World) (b : Nat) : ProgAt w b (.slice none 0 0) (.slice none 0 0) ⟨0, [], []⟩ :=
  ⟨World.ownsRow_nil _ _ _ _, [], World.ownsRow_nil _ _ _ _, fun i a l r c h => by cases h⟩

theorem prog_rows {w : World} {b : Nat} {u : Un} {mem : Int} {vd vF : Value} {rows : List Value} (h0 : compE u mem = 0) (hlen : rows.length = u.funcs.length) (hd : w.ownsRow b 5 1 vd (dataE u).length ((dataE u).map (Value.int .u8))) (hf : w.ownsRow b 73 4 vF u.funcs.length (flatV u.funcs rows))
    (each : ∀ (i : Nat) (vo : Value) (f : Fun), rows[i]? = some vo → u.funcs[i]? = some f → w.ownsRow b 75 2 vo (fullP u.texts f.parts).out.length (flat2 (fullP u.texts f.parts).out)) : ProgAt w b vd vF (pgU u mem) := by
  unfold pgU
  rw [if_pos h0]
  refine ⟨hd, _, by rw [List.length_map]; exact hf, fun i a l r c hi => ?_⟩
  rw [List.getElem?_map] at hi
  obtain ⟨f, hfi, e⟩ := Option.map_eq_some_iff.1 hi
  injection e with e1 e; injection e with e2 e; injection e with e3 e4
  subst e1; subst e2; subst e3; subst e4
  have hl := (List.getElem?_eq_some_iff.1 hfi).1
  obtain ⟨vo, hvo⟩ : ∃ x, rows[i]? = some x := ⟨_, List.getElem?_eq_getElem (by omega)⟩
  obtain ⟨q0, q1, q2, q3⟩ := flatV_get u.funcs rows i f vo hfi hvo
  exact ⟨vo, q0, q1, q2, q3, each i vo f hvo hfi⟩

theorem prog_of_comp {w w' : World} {u : Un} {mem : Int} {e : Ending} (h : CompileP w u mem e w') : ∃ vd vF, e = .returned (.tuple #[.agg #[.int .i64 (pgU u mem).mem, vd, vF], .int .i64 (compE u mem)]) ∧ w.grownBy w' none ∧ ProgAt w' w.heap.size vd vF (pgU u mem) := by
  unfold CompileP at h
  by_cases h0 : compE u mem = 0
  · rw [if_pos h0] at h
    obtain ⟨vd, vF, v, rows, he, hC⟩ := h
    refine ⟨vd, vF, by rw [he, h0]; unfold pgU; rw [if_pos h0], hC.gr, prog_rows (rows := rows.map Prod.fst) h0 (by rw [List.length_map]; exact hC.len) hC.dt (by rw [← flat4_V]; exact hC.fr) fun i vo f hi hf => ?_⟩
    rw [List.getElem?_map] at hi
    obtain ⟨⟨x, y⟩, hx, rfl⟩ := Option.map_eq_some_iff.1 hi
    exact (hC.each i x y f hx hf).1
  · rw [if_neg h0] at h
    refine ⟨.slice none 0 0, .slice none 0 0, by rw [h.1]; unfold pgU; rw [if_neg h0], h.2, ?_⟩
    unfold pgU; rw [if_neg h0]; exact prog_nil _ _

theorem prog_of_ref {w w' : World} {u : Un} {mem : Int} {e : Ending} (h : RCompP w u mem e w') : ∃ vd vF, e = .returned (.tuple #[.agg #[.int .i64 (pgU u mem).mem, vd, vF], .int .i64 (compE u mem)]) ∧ w.grownBy w' none ∧ ProgAt w' w.heap.size vd vF (pgU u mem) := by
  unfold RCompP at h
  by_cases h0 : compE u mem = 0
  · rw [if_pos h0] at h
    obtain ⟨vd, vF, rows, he, hC⟩ := h
    refine ⟨vd, vF, by rw [he, h0]; unfold pgU; rw [if_pos h0], hC.gr, prog_rows h0 hC.len hC.dt hC.fr fun i vo f hi hf => ?_⟩
    obtain ⟨_, hall⟩ := comp_ok h0
    obtain ⟨hok, hfo⟩ := hall f (List.mem_of_getElem? hf)
    have := hC.each i vo f hi hf
    rw [(fun_same u f hok hfo).1] at this
    exact this
  · rw [if_neg h0] at h
    refine ⟨.slice none 0 0, .slice none 0 0, by rw [h.1]; unfold pgU; rw [if_neg h0], h.2, ?_⟩
    unfold pgU; rw [if_neg h0]; exact prog_nil _ _

theorem take_bytes (ts : List (ByteArray × List Int)) : ∀ k, k ≤ ts.length → (((ts.take k).flatMap Prod.snd).length : Int) = bytesTo ts k
  | 0, _ => by simp [bytesTo]
  | k + 1, h => by
    have ih := take_bytes ts k (by omega)
    rw [List.take_succ_eq_append_getElem (show k < ts.length by omega), List.flatMap_append, List.length_append, bytesTo]
    have e : ts.getD k (ByteArray.empty, []) = ts[k] := by simp [List.getD_eq_getElem?_getD, List.getElem?_eq_getElem (show k < ts.length by omega)]
    rw [e, ← ih]
    simp
theorem dataE_len (u : Un) : ((dataE u).length : Int) = bytesTo u.texts u.texts.length := by
  have := take_bytes u.texts u.texts.length (Nat.le_refl _)
  rw [List.take_length] at this
  exact this

theorem pgU_small (u : Un) (mem : Int) : (pgU u mem).data.length ≤ 1000000000000 ∧ (pgU u mem).funcs.length ≤ 1000000000000 ∧ ∀ x ∈ (pgU u mem).funcs, x.2.2.2.length ≤ 1000000000000 := by
  unfold pgU
  by_cases h0 : compE u mem = 0
  · rw [if_pos h0]
    obtain ⟨hck, hall⟩ := comp_ok h0
    have hr := right_of hck
    refine ⟨?_, ?_, ?_⟩
    · have h1 := dataE_len u
      have h2 := hr.by_
      show (dataE u).length ≤ _
      omega
    · show (u.funcs.map _).length ≤ _
      rw [List.length_map]
      have := hr.nf
      omega
    · intro x hx
      obtain ⟨f, hf, rfl⟩ := List.mem_map.1 hx
      obtain ⟨hok, hfo⟩ := hall f hf
      have hl := fun_ok u f hok
      rw [hfo] at hl
      have : ¬ 4096 < (fullP u.texts f.parts).out.length := by
        intro h; rw [decide_eq_true h] at hl; cases hl
      show (fullP u.texts f.parts).out.length ≤ _
      omega
  · rw [if_neg h0]
    exact ⟨by decide, by decide, fun x hx => by cases hx⟩

end Go.Proofs.Ytecaolkbllbokaa.TG

namespace Go.Proofs.Ytecaolkbllbokaa.TG
open Go.RowKit Go.Great
set_option linter.unusedSimpArgs false
set_option linter.unusedVariables false

theorem prog_slices {w : World} {b : Nat} {vd vF : Value} {p : Pg} (h : ProgAt w b vd vF p) : ∃ pd cd pF cF, vd = .slice pd p.data.length cd ∧ vF = .slice pF p.funcs.length cF := by
  obtain ⟨pd, cd, e⟩ := own_slice h.dt
  obtain ⟨xs, hx, -⟩ := h.fr
  obtain ⟨pF, cF, e2⟩ := own_slice hx
  exact ⟨pd, cd, pF, cF, e, e2⟩
theorem boxP_sp {P : Nat → Prop} {w w' : World} {b : Nat} {m : Int} {vd vF : Value} (h : BoxP w b m vd vF) (g : Sp P w w') (hp : ¬ P b) : BoxP w' b m vd vF := by
  unfold BoxP at *
  rw [g.block b (Array.getElem?_eq_some_iff.1 h).1 hp]; exact h

set_option maxRecDepth 100000 in
set_option maxHeartbeats 8000000 in
theorem law_runs (u : Un) (mem : Int) (pt pf : Option Addr) (ct cf B : Nat) (w : World) (hL : LawU w B pt pf ct u) :
    Calls Try.prog 3 #[.agg #[.slice pt u.texts.length ct, .slice pf u.funcs.length cf], .int .i64 mem] w fun e w' => e = .returned (.bool true) ∧ w.grownBy w' none := by
  have hU := hL.at_
  have FA := Lib.hid (fun (W : World) (g : w.grownBy W none) => far_any u hL.sz pt pf ct cf B W (unitAt_kept hU g (by simp)))
  have BX := Lib.hid (boxU_new w (.slice pt u.texts.length ct) (.slice pf u.funcs.length cf))
  have G0 := Lib.hid (World.grownBy_alloc w (.cells #[.slice pt u.texts.length ct, .slice pf u.funcs.length cf] 25) none)
  have b0 := boxU_0 BX.out
  have b1 := boxU_1 BX.out
  have bl := boxU_lt BX.out
  cases hfar : farB u with
  | true =>
    have HFAR := Lib.hid hfar
    clear hL hU hfar
    go_enter Try.func3, Try.ntmps3
    go_wp2_with (first
      | (go_at_call 8; refine (FA.out _ G0.out).mono ?_; rintro e w1 ⟨he, g1⟩; rw [HFAR.out] at he; subst he; have G1 := Lib.hid (grownBy_trans G0.out g1); clear g1)
      | (go_at_call 9; refine (head_true _).mono ?_; rintro e w3 ⟨rfl, hg⟩; have G3 := Lib.hid (grownBy_trans G1.out hg); clear hg))
    go_ret
    exact ⟨rfl, G3.out⟩
  | false =>
    have HFAR := Lib.hid hfar
    have LD := Lib.hid (fun (W : World) (g : w.grownBy W none) => lend_any u hL.sz pt pf ct cf B W (unitAt_kept hU g (by simp)))
    have RC := Lib.hid (fun (W : World) (g : w.grownBy W none) => rcompile_any u mem pt pf ct cf B W (unitAt_kept hU g (by simp)) (unOK_kept hL.ok hU g))
    have HL := Lib.hid hL
    have SM := Lib.hid (pgU_small u mem)
    clear hL hU hfar
    go_enter Try.func3, Try.ntmps3
    go_wp2_with (first
      | (go_at_call 8; refine (FA.out _ G0.out).mono ?_; rintro e w1 ⟨he, g1⟩; rw [HFAR.out] at he; subst he; have X1 := Lib.hid (boxU_kept BX.out g1 (by simp)); have b0 := boxU_0 X1.out; have b1 := boxU_1 X1.out; have bl := boxU_lt X1.out; have G1 := Lib.hid (grownBy_trans G0.out g1); clear g1)
      | (go_at_call 10; refine (LD.out _ G1.out).mono ?_; intro e w2 hp; obtain ⟨T, Fb, gs, ls, ps, Ft, Ff, rfl, hlu, g2⟩ := hp; have LU2 := Lib.hid (lentU_kept hlu (World.grownBy_alloc w2 (.cells #[.slice (some ⟨T, 0, none⟩) u.texts.length (u.texts.length + 5), .slice (some ⟨Fb, 0, none⟩) u.funcs.length (u.funcs.length + 5)] 25) none)); have LU := Lib.hid hlu; have X3 := Lib.hid (boxU_kept (boxU_kept X1.out g2 (by simp)) (World.grownBy_alloc w2 (.cells #[.slice (some ⟨T, 0, none⟩) u.texts.length (u.texts.length + 5), .slice (some ⟨Fb, 0, none⟩) u.funcs.length (u.funcs.length + 5)] 25) none) (by simp)); have Y3 := Lib.hid (boxU_new w2 (.slice (some ⟨T, 0, none⟩) u.texts.length (u.texts.length + 5)) (.slice (some ⟨Fb, 0, none⟩) u.funcs.length (u.funcs.length + 5))); have G3 := Lib.hid (grownBy_trans (grownBy_trans G1.out g2) (World.grownBy_alloc w2 (.cells #[.slice (some ⟨T, 0, none⟩) u.texts.length (u.texts.length + 5), .slice (some ⟨Fb, 0, none⟩) u.funcs.length (u.funcs.length + 5)] 25) none)); clear hlu g2)
      | (go_at_call 11; refine (comp_any u mem _ _ _ _ _ _ (lent_unit LU2.out).1 (lent_ok LU2.out HL.out.ok HL.out.sz)).mono ?_; intro e w4 hp; obtain ⟨vd4, vF4, rfl, g4, o4⟩ := prog_of_comp hp; obtain ⟨pd4, cd4, pF4, cF4, e4, e4'⟩ := prog_slices o4; subst e4; subst e4'; have A4 := Lib.hid (World.grownBy_alloc w4 (.cells #[.int .i64 (pgU u mem).mem, .slice pd4 (pgU u mem).data.length cd4, .slice pF4 (pgU u mem).funcs.length cF4] 32) none); have X5 := Lib.hid (boxU_kept (boxU_kept X3.out g4 (by simp)) A4.out (by simp)); have Y5 := Lib.hid (boxU_kept (boxU_kept Y3.out g4 (by simp)) A4.out (by simp)); have Z5 := Lib.hid (heap_alloc_new w4 (.cells #[.int .i64 (pgU u mem).mem, .slice pd4 (pgU u mem).data.length cd4, .slice pF4 (pgU u mem).funcs.length cF4] 32)); have O5 := Lib.hid (prog_kept o4 A4.out); have G5 := Lib.hid (grownBy_trans (grownBy_trans G3.out g4) A4.out); have LU5 := Lib.hid (lentU_kept (lentU_kept LU2.out g4) A4.out); have b0 := boxU_0 X5.out; have b1 := boxU_1 X5.out; have bl := boxU_lt X5.out; have S4 := Lib.hid g4.size; clear hp g4 o4 A4)
      | (go_at_call 12; refine (RC.out _ G5.out).mono ?_; intro e w6 hp; obtain ⟨vd6, vF6, rfl, g6, o6⟩ := prog_of_ref hp; obtain ⟨pd6, cd6, pF6, cF6, e6, e6'⟩ := prog_slices o6; subst e6; subst e6'; have A6 := Lib.hid (World.grownBy_alloc w6 (.cells #[.int .i64 (pgU u mem).mem, .slice pd6 (pgU u mem).data.length cd6, .slice pF6 (pgU u mem).funcs.length cF6] 32) none); have X7 := Lib.hid (boxU_kept (boxU_kept X5.out g6 (by simp)) A6.out (by simp)); have Y7 := Lib.hid (boxU_kept (boxU_kept Y5.out g6 (by simp)) A6.out (by simp)); have Z7 := Lib.hid (boxP_kept (boxP_kept Z5.out g6 (by simp)) A6.out (by simp)); have V7 := Lib.hid (heap_alloc_new w6 (.cells #[.int .i64 (pgU u mem).mem, .slice pd6 (pgU u mem).data.length cd6, .slice pF6 (pgU u mem).funcs.length cF6] 32)); have O7 := Lib.hid (prog_kept (prog_kept O5.out g6) A6.out); have R7 := Lib.hid (prog_kept o6 A6.out); have G7 := Lib.hid (grownBy_trans (grownBy_trans G5.out g6) A6.out); have LU7 := Lib.hid (lentU_kept (lentU_kept LU5.out g6) A6.out); have b0 := boxU_0 X7.out; have b1 := boxU_1 X7.out; have bl := boxU_lt X7.out; have m0 := boxU_0 Y7.out; have m1 := boxU_1 Y7.out; have ml := boxU_lt Y7.out; have S6 := Lib.hid g6.size; clear hp g6 o6 A6)
      | (go_at_call 13; refine (keptU_any u HL.out.sz pt pf ct cf B w1.heap.size T Fb gs ls ps Ft Ff _ (unitAt_kept HL.out.at_ G7.out (by simp)) LU7.out (Nat.le_trans HL.out.at_.le G1.out.size) w2.heap.size (Nat.le_of_lt ml) LU.out.f.blk.lt (lent_ps LU.out)).mono ?_; rintro e w8 ⟨rfl, sp⟩; have h4 := S4.out; have h6 := S6.out; rw [World.size_alloc] at h4 h6; have nP : ¬ PT w1.heap.size w2.heap.size w4.heap.size := (by unfold PT; omega); have nV : ¬ PT w1.heap.size w2.heap.size w6.heap.size := (by unfold PT; omega); have Z8 := Lib.hid (boxP_sp Z7.out sp nP); have V8 := Lib.hid (boxP_sp V7.out sp nV); have O8 := Lib.hid (prog_sp O7.out sp (by intro k hk; rw [World.size_alloc] at hk; unfold PT; omega)); have R8 := Lib.hid (prog_sp R7.out sp (by intro k hk; rw [World.size_alloc] at hk; unfold PT; omega)); have G8 := Lib.hid (law_grow G7.out sp G1.out.size); have p0 := cell_of_row w8 _ 0 _ _ _ Z8.out; have p1 := cell_of_row w8 _ 1 _ _ _ Z8.out; have p2 := cell_of_row w8 _ 2 _ _ _ Z8.out; have pl := (Array.getElem?_eq_some_iff.1 Z8.out).1; have q0 := cell_of_row w8 _ 0 _ _ _ V8.out; have q1 := cell_of_row w8 _ 1 _ _ _ V8.out; have q2 := cell_of_row w8 _ 2 _ _ _ V8.out; have ql := (Array.getElem?_eq_some_iff.1 V8.out).1; clear sp h4 h6 nP nV)
      | (go_at_call 14; refine (prog_same (pgU u mem) _ _ _ _ _ _ w8 SM.out.1 SM.out.2.1 SM.out.2.2 O8.out R8.out).mono ?_; rintro e w9 ⟨rfl, g9⟩; have G9 := Lib.hid (grownBy_trans G8.out g9); clear g9)
      | (go_at_call 9; refine (head_true _).mono ?_; rintro e w10 ⟨rfl, hg⟩; have G10 := Lib.hid (grownBy_trans G9.out hg); clear hg))
    go_ret
    exact ⟨rfl, G10.out⟩

end Go.Proofs.Ytecaolkbllbokaa.TG
