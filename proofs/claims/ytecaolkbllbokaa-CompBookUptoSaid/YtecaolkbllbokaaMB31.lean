/-
  Same: two programs. Conditions: as each theorem states.
  Rows of one's own: append that tells what the elder slice still holds; parts of rows. Conditions: as each theorem states.
  GrownInts: lists of numbers that are written over and grown. Conditions: as each theorem states.
  Programs that are written over and grown: what lies where. Conditions: as each theorem states.
  Programs that are written over and grown: all of them. Conditions: as each theorem states.
  The law CompRuns. Conditions: as each theorem states.
-/
import Derived.Test.YtecaolkbllbokaaMB30
import Derived.Test.YtecaolkbllbokaaMB14
import Derived.Laws.OwnMore
namespace Go.Proofs.Ytecaolkbllbokaa.TG
open Go.RowKit Go.Great
set_option linter.unusedSimpArgs false
set_option linter.unusedVariables false

/-- A program as plain data: its memory, its data, its functions (arguments, locals, results, code). -/
structure Pg where
  mem : Int
  data : List Int
  funcs : List (Int × Int × Int × List (Int × Int))

/-- A program lies in memory, in rows of its own. -/
structure ProgAt (w : World) (b : Nat) (vd vF : Value) (p : Pg) : Prop where
  dt : w.ownsRow b 5 1 vd p.data.length (p.data.map (Value.int .u8))
  fr : ∃ xs, w.ownsRow b 73 4 vF p.funcs.length xs ∧ ∀ i a l r c, p.funcs[i]? = some (a, l, r, c) → ∃ vc, xs[i * 4]? = some (.int .i64 a) ∧ xs[i * 4 + 1]? = some (.int .i64 l) ∧ xs[i * 4 + 2]? = some (.int .i64 r) ∧ xs[i * 4 + 3]? = some vc ∧ w.ownsRow b 75 2 vc c.length (flat2 c)

theorem prog_sp {P : Nat → Prop} {w w' : World} {b : Nat} {vd vF : Value} {p : Pg} (h : ProgAt w b vd vF p) (g : Sp P w w') (hp : ∀ k, b ≤ k → ¬ P k) : ProgAt w' b vd vF p := by
  obtain ⟨h1, xs, h2, h3⟩ := h
  refine ⟨own_sp h1 g fun k hk => hp k (h1.lt k hk).1, xs, own_sp h2 g fun k hk => hp k (h2.lt k hk).1, fun i a l r c hi => ?_⟩
  obtain ⟨vc, q0, q1, q2, q3, q4⟩ := h3 i a l r c hi
  exact ⟨vc, q0, q1, q2, q3, own_sp q4 g fun k hk => hp k (q4.lt k hk).1⟩
theorem prog_kept {w w' : World} {b : Nat} {vd vF : Value} {p : Pg} (h : ProgAt w b vd vF p) (g : w.grownBy w' none) : ProgAt w' b vd vF p :=
  prog_sp (P := fun _ => False) h (sp_grown g (by simp)) (fun _ _ h => h)

theorem own_getN {w : World} {base : Nat} {e : TypeId} {size n : Nat} {v : Value} {xs : List Value} (h : w.ownsRow base e size v n xs) (h0 : 0 < n) : ∃ g cap, v = .slice (some ⟨g, 0, none⟩) n cap ∧ g < w.heap.size ∧ ∀ j x, xs[j]? = some x → j < n * size → w.cell? ⟨g, j, none⟩ = some x := by
  obtain ⟨m, rfl⟩ : ∃ m, n = m + 1 := ⟨n - 1, by omega⟩
  obtain ⟨g, cap, rfl⟩ := own_succ h
  exact ⟨g, cap, rfl, (h.lt g rfl).2, fun j x hx hj => by rw [h.cellAt _ (by omega)]; exact hx⟩

theorem bytes_own {w : World} {b : Nat} {p : Option Addr} {n c : Nat} {d : List Int} (h : w.ownsRow b 5 1 (.slice p n c) d.length (d.map (Value.int .u8))) : n = d.length ∧ BytesB w w.heap.size p d := by
  obtain ⟨p', c', e⟩ := own_slice h
  injection e with e1 e2 e3
  refine ⟨e2, fun h0 => ?_⟩
  obtain ⟨g, cap, hv, hg, hc⟩ := own_get h h0
  injection hv with hv _ _
  refine ⟨g, 0, hv, hg, fun i hi => ?_⟩
  rw [Nat.zero_add]
  refine hc i _ ?_ hi
  rw [List.getElem?_map, List.getElem?_eq_getElem hi]
  simp [List.getD_eq_getElem?_getD, List.getElem?_eq_getElem hi]

theorem flat2_get : ∀ (l : List (Int × Int)) (i : Nat) (a b : Int), l[i]? = some (a, b) → (flat2 l)[i * 2]? = some (.int .i64 a) ∧ (flat2 l)[i * 2 + 1]? = some (.int .i64 b)
  | [], i, a, b, h => by simp at h
  | x :: r, 0, a, b, h => by simp at h; subst h; simp [flat2]
  | x :: r, i + 1, a, b, h => by
    obtain ⟨h1, h2⟩ := flat2_get r i a b (by simpa using h)
    have e : (i + 1) * 2 = i * 2 + 1 + 1 := by omega
    rw [e]
    simp only [flat2]
    exact ⟨by simpa using h1, by simpa using h2⟩

/-- A box of four cells. -/
def BoxG (w : World) (b : Nat) (a l r : Int) (vc : Value) : Prop := w.heap[b]? = some (.cells #[.int .i64 a, .int .i64 l, .int .i64 r, vc] 73 (0, 0))
theorem boxG_kept {w w' : World} {b : Nat} {a l r : Int} {vc : Value} {row : Option Nat} (h : BoxG w b a l r vc) (g : w.grownBy w' row) (hr : row ≠ some b) : BoxG w' b a l r vc := blk_moved h g hr
/-- A program's box. -/
def BoxP (w : World) (b : Nat) (m : Int) (vd vF : Value) : Prop := w.heap[b]? = some (.cells #[.int .i64 m, vd, vF] 32 (0, 0))
theorem boxP_kept {w w' : World} {b : Nat} {m : Int} {vd vF : Value} {row : Option Nat} (h : BoxP w b m vd vF) (g : w.grownBy w' row) (hr : row ≠ some b) : BoxP w' b m vd vF := blk_moved h g hr

theorem heap_two (w : World) (o o' : Obj) : ((w.alloc o).alloc o').heap[w.heap.size + 1]? = some o' := by
  have h := heap_alloc_new (w.alloc o) o'
  rw [World.size_alloc] at h; exact h

set_option maxRecDepth 100000 in
set_option maxHeartbeats 8000000 in
theorem prog_same (p : Pg) (vd vF vd' vF' : Value) (b b' : Nat) (w : World) (hd : p.data.length ≤ 1000000000000) (hn : p.funcs.length ≤ 1000000000000) (hc : ∀ x ∈ p.funcs, x.2.2.2.length ≤ 1000000000000) (h : ProgAt w b vd vF p) (h' : ProgAt w b' vd' vF' p) :
    Calls Try.prog 14 #[.agg #[.int .i64 p.mem, vd, vF], .agg #[.int .i64 p.mem, vd', vF']] w fun e w' => e = .returned (.bool true) ∧ w.grownBy w' none := by
  obtain ⟨pd, cd, rfl⟩ := own_slice h.dt
  obtain ⟨pd', cd', rfl⟩ := own_slice h'.dt
  obtain ⟨xs, hx, -⟩ := h.fr
  obtain ⟨pF, cF, rfl⟩ := own_slice hx
  obtain ⟨xs', hx', -⟩ := h'.fr
  obtain ⟨pF', cF', rfl⟩ := own_slice hx'
  clear hx hx'
  have G2 := grownBy_trans (World.grownBy_alloc w (.cells #[.int .i64 p.mem, .slice pd p.data.length cd, .slice pF p.funcs.length cF] 32) none) (World.grownBy_alloc _ (.cells #[.int .i64 p.mem, .slice pd' p.data.length cd', .slice pF' p.funcs.length cF'] 32) none)
  have PA := Lib.hid (prog_kept h G2)
  have PB := Lib.hid (prog_kept h' G2)
  have k1 := conv_bytes (bytes_own PA.out.dt).2 cd
  have k2 := conv_bytes (bytes_own PB.out.dt).2 cd'
  have GB := Lib.hid G2
  have BA := Lib.hid (show BoxP ((w.alloc (.cells #[.int .i64 p.mem, .slice pd p.data.length cd, .slice pF p.funcs.length cF] 32)).alloc (.cells #[.int .i64 p.mem, .slice pd' p.data.length cd', .slice pF' p.funcs.length cF'] 32)) w.heap.size p.mem (.slice pd p.data.length cd) (.slice pF p.funcs.length cF) from blk_moved (heap_alloc_new w _) (World.grownBy_alloc _ _ none) (by simp))
  have BB := Lib.hid (show BoxP ((w.alloc (.cells #[.int .i64 p.mem, .slice pd p.data.length cd, .slice pF p.funcs.length cF] 32)).alloc (.cells #[.int .i64 p.mem, .slice pd' p.data.length cd', .slice pF' p.funcs.length cF'] 32)) (w.heap.size + 1) p.mem (.slice pd' p.data.length cd') (.slice pF' p.funcs.length cF') from heap_two w _ _)
  have HC := Lib.hid hc
  have hni : (p.funcs.length : Int) ≤ 1000000000000 := by omega
  clear h h' G2 hc
  go_enter Try.func14, Try.ntmps14
  go_wp2
  clear k1 k2
  generalize (w.alloc (.cells #[.int .i64 p.mem, .slice pd p.data.length cd, .slice pF p.funcs.length cF] 32)).alloc (.cells #[.int .i64 p.mem, .slice pd' p.data.length cd', .slice pF' p.funcs.length cF'] 32) = w2 at *
  go_loopw [5] (fun i wr => ∃ k : Nat, i = .int .i64 k ∧ k ≤ p.funcs.length ∧ w2.grownBy wr none) (fun i _ => p.funcs.length - (intOf i).toNat)
  case atStart => exact ⟨0, rfl, Nat.zero_le _, grownBy_refl _ _⟩
  case round =>
    obtain ⟨k, rfl, hk, hg⟩ := hrel
    have HG := Lib.hid hg
    have hba := boxP_kept BA.out hg (by simp)
    have hbb := boxP_kept BB.out hg (by simp)
    have a2 := cell_of_row wr _ 2 _ _ _ hba
    have b2 := cell_of_row wr _ 2 _ _ _ hbb
    have al := (Array.getElem?_eq_some_iff.1 hba).1
    have bbl := (Array.getElem?_eq_some_iff.1 hbb).1
    by_cases hlt : (k : Int) < (p.funcs.length : Int)
    · obtain ⟨⟨a, l, r, c⟩, hkf⟩ : ∃ x, p.funcs[k]? = some x := ⟨_, List.getElem?_eq_getElem (by omega)⟩
      obtain ⟨ys, o1, e1⟩ := (prog_kept PA.out hg).fr
      obtain ⟨zs, o2, e2⟩ := (prog_kept PB.out hg).fr
      obtain ⟨ga, ka, ea, la, ca⟩ := own_getN o1 (by omega)
      obtain ⟨gb, kb, eb, lb, cb⟩ := own_getN o2 (by omega)
      injection ea with ea1 ea2 ea3
      injection eb with eb1 eb2 eb3
      subst ea1; subst eb1
      obtain ⟨vc, q0, q1, q2, q3, q4⟩ := e1 k a l r c hkf
      obtain ⟨vc', t0, t1, t2, t3, t4⟩ := e2 k a l r c hkf
      obtain ⟨pc, cc, rfl⟩ := own_slice q4
      obtain ⟨pc', cc', rfl⟩ := own_slice t4
      have f0 := ca _ _ q0 (by omega)
      have f1 := ca _ _ q1 (by omega)
      have f2 := ca _ _ q2 (by omega)
      have f3 := ca _ _ q3 (by omega)
      have f4 := cb _ _ t0 (by omega)
      have f5 := cb _ _ t1 (by omega)
      have f6 := cb _ _ t2 (by omega)
      have f7 := cb _ _ t3 (by omega)
      have hcl := HC.out _ (List.mem_of_getElem? hkf)
      simp only [] at hcl
      have hci : (c.length : Int) ≤ 1000000000000 := by omega
      have GW := grownBy_trans (World.grownBy_alloc wr (.cells #[.int .i64 a, .int .i64 l, .int .i64 r, .slice pc c.length cc] 73) none) (World.grownBy_alloc _ (.cells #[.int .i64 a, .int .i64 l, .int .i64 r, .slice pc' c.length cc'] 73) none)
      have OA := Lib.hid (q4.kept GW (Classical.em _))
      have OB := Lib.hid (t4.kept GW (Classical.em _))
      have HGW := Lib.hid (grownBy_trans hg GW)
      have XA := Lib.hid (show BoxG ((wr.alloc (.cells #[.int .i64 a, .int .i64 l, .int .i64 r, .slice pc c.length cc] 73)).alloc (.cells #[.int .i64 a, .int .i64 l, .int .i64 r, .slice pc' c.length cc'] 73)) wr.heap.size a l r (.slice pc c.length cc) from blk_moved (heap_alloc_new wr _) (World.grownBy_alloc _ _ none) (by simp))
      have XB := Lib.hid (show BoxG ((wr.alloc (.cells #[.int .i64 a, .int .i64 l, .int .i64 r, .slice pc c.length cc] 73)).alloc (.cells #[.int .i64 a, .int .i64 l, .int .i64 r, .slice pc' c.length cc'] 73)) (wr.heap.size + 1) a l r (.slice pc' c.length cc') from heap_two wr _ _)
      clear hg hba hbb hkf o1 o2 e1 e2 ca cb q0 q1 q2 q3 q4 t0 t1 t2 t3 t4 ea2 ea3 eb2 eb3 GW
      go_wp2
      clear f0 f1 f2 f3 f4 f5 f6 f7 a2 b2 al bbl la lb
      obtain ⟨wo, hwo⟩ : ∃ wo, wo = wr := ⟨_, rfl⟩
      subst hwo
      generalize (wo.alloc (.cells #[.int .i64 a, .int .i64 l, .int .i64 r, .slice pc c.length cc] 73)).alloc (.cells #[.int .i64 a, .int .i64 l, .int .i64 r, .slice pc' c.length cc'] 73) = W at *
      generalize wo.heap.size = g0 at *
      go_loopw [8] (fun i wr => ∃ j : Nat, i = .int .i64 j ∧ j ≤ c.length ∧ W.grownBy wr none) (fun i _ => c.length - (intOf i).toNat)
      case atStart => exact ⟨0, rfl, Nat.zero_le _, grownBy_refl _ _⟩
      case round =>
        obtain ⟨j, rfl, hj, hg⟩ := hrel
        have HG3 := Lib.hid hg
        have hxa := boxG_kept XA.out hg (by simp)
        have hxb := boxG_kept XB.out hg (by simp)
        have a3 := cell_of_row wr _ 3 _ _ _ hxa
        have b3 := cell_of_row wr _ 3 _ _ _ hxb
        have al := (Array.getElem?_eq_some_iff.1 hxa).1
        have bbl := (Array.getElem?_eq_some_iff.1 hxb).1
        by_cases hlt2 : (j : Int) < (c.length : Int)
        · obtain ⟨⟨x, y⟩, hxy⟩ : ∃ x, c[j]? = some x := ⟨_, List.getElem?_eq_getElem (by omega)⟩
          obtain ⟨g1, g2⟩ := flat2_get c j x y hxy
          obtain ⟨ga, ka, ea, la, ca⟩ := own_getN (OA.out.kept hg (Classical.em _)) (by omega)
          obtain ⟨gb, kb, eb, lb, cb⟩ := own_getN (OB.out.kept hg (Classical.em _)) (by omega)
          injection ea with ea1 ea2 ea3
          injection eb with eb1 eb2 eb3
          subst ea1; subst eb1
          have f0 := ca _ _ g1 (by omega)
          have f1 := ca _ _ g2 (by omega)
          have f2 := cb _ _ g1 (by omega)
          have f3 := cb _ _ g2 (by omega)
          clear hg hxa hxb g1 g2 ca cb hxy ea2 ea3 eb2 eb3
          go_wp2
          go_quiet (fail)
          go_wp2
          go_roundw
          case rel => exact ⟨j + 1, by go_num, by omega, grownBy_drewN' HG3.out _⟩
          case measure => simp [intOf]; omega
        · clear hg hxa hxb
          go_wp2
          go_roundw
          case rel => exact ⟨k + 1, by go_num, by omega, grownBy_trans HGW.out HG3.out⟩
          case measure => simp [intOf]; omega
    · clear hg hba hbb
      go_wp2
      go_ret
      exact ⟨rfl, grownBy_trans GB.out HG.out⟩

end Go.Proofs.Ytecaolkbllbokaa.TG

namespace Go.Proofs.Ytecaolkbllbokaa.TG
open Go.RowKit Go.Great
set_option linter.unusedSimpArgs false
set_option linter.unusedVariables false

theorem toList_take_append {α : Type} (a b : List α) (n : Nat) (h : n ≤ a.length) : (a ++ b).take n = a.take n := List.take_append_of_le_length h

/-- append to a row of one's own: either in its own block, whose first cells stay, or in a new one, and nothing else. -/
theorem append_keep {P : Program} {w : World} (base : Nat) (t ty e : TypeId) (i : TypeInfo) (z : Value) (size bytes : Nat) (ht : P.underlying t = some (.slice e)) (hi : P.info? e = some i) (hz : i.zero = some z)
    (hsize : i.size = size) (hby : i.bytes = bytes) (hzs : z.cells.size = size) (hsz : 0 < size)
    (v : Value) (n : Nat) (xs : List Value) (hown : w.ownsRow base e size v n xs)
    (a : Addr) (m c : Nat) (news : List Value) (hl : news.length = m * size) (hnews : ∀ j u, news[j]? = some u → w.cell? (a.add j) = some u) (h1 : ∀ u ∈ news, u.oneCell' = true)
    (h63 : n + m ≤ maxLen) (hbytes : (n + m) * bytes ≤ 140737488355328) (hm : 0 < m) (bn : Nat) (hbn : bn ≤ w.heap.size) (hb : base ≤ bn) :
    ∃ v' w', (Builtin.append_ #[t, t] ty #[v, .slice (some a) m c]).run P w = .ok v' w' ∧
      ((v'.ownBlock = v.ownBlock ∧ v.ownBlock ≠ none ∧ w.grownBy w' v.ownBlock ∧ w'.ownsRow base e size v' (n + m) (xs ++ news) ∧ w'.ownsRow base e size v n xs) ∨
        (v'.ownBlock = some w.heap.size ∧ w.grownBy w' none ∧ w'.ownsRow bn e size v' (n + m) (xs ++ news))) := by
  obtain ⟨v', w', hr, h2, h3, h4⟩ := run_append_own (P := P) w base t ty e i z size bytes ht hi hz hsize hby hzs hsz v n xs hown a m c news hl hnews h1 h63 hbytes (Nat.le_trans hb hbn)
  subst hsize
  subst hby
  rcases hown.2 with ⟨rfl, rfl⟩ | ⟨g, cap, cur, rfl, hbg, hg, hnc, hcm, hcs, htake⟩
  · have hx : xs = [] := List.eq_nil_of_length_eq_zero (by simpa using hown.1)
    subst hx
    have hr2 := run_append_nil (P := P) w t ty e i z ht hi hz a m c news hl hnews (by omega) (by unfold maxLen at h63; omega) (by have hb := hbytes; simp only [Nat.zero_add] at hb; omega)
    rw [hr] at hr2
    injection hr2 with e1 e2
    refine ⟨v', w', hr, Or.inr ⟨by rw [e1]; rfl, h3, ?_⟩⟩
    have hv : v'.ownBlock = some w.heap.size := by rw [e1]; rfl
    rcases h2.2 with ⟨h5, _⟩ | ⟨g', c', u', h5, h6, h7, h8⟩
    · rw [h5] at hv; cases hv
    · refine ⟨h2.1, Or.inr ⟨g', c', u', h5, ?_, h7, h8⟩⟩
      rw [h5] at hv
      injection hv with hv
      simp only at hv
      omega
  · by_cases hroom : n + m ≤ cap
    · have hfit : n * i.size + news.length ≤ cur.size := by rw [hl, hcs, ← Nat.add_mul]; exact Nat.mul_le_mul_right _ hroom
      have hr2 := run_append_room (P := P) w t ty e i ht hi g n cap cur hg a m c news hl hnews h1 hroom hfit
      rw [hr] at hr2
      injection hr2 with e1 e2
      refine ⟨v', w', hr, Or.inl ⟨by rw [e1]; rfl, by simp [Value.ownBlock], h3, h2, hown.1, Or.inr ⟨g, cap, _, rfl, hbg, by rw [e2]; exact setRow_heap w g cur _ e _ hg, hnc, hcm, ?_, ?_⟩⟩⟩
      · simp only [List.size_toArray, List.length_append, List.length_take, List.length_drop, Array.length_toList]
        omega
      · simp only [List.append_assoc]
        rw [htake]
        have : n * i.size = xs.length := hown.1.symm
        rw [this]
        exact List.take_left
    · have holds : ∀ j u, xs[j]? = some u → w.cell? ((⟨g, 0, none⟩ : Addr).add j) = some u := hown.cells (g := g) rfl
      have hr2 := run_append_grow (P := P) w t ty e i z ht hi hz ⟨g, 0, none⟩ n cap xs hown.1 holds a m c news hl hnews (by omega) (by unfold maxLen at h63; omega) (growslice_fits (by omega) hbytes)
      rw [hr] at hr2
      injection hr2 with e1 e2
      have hv : v'.ownBlock = some w.heap.size := by rw [e1]; rfl
      refine ⟨v', w', hr, Or.inr ⟨hv, ?_, ?_⟩⟩
      · rw [e2]
        exact grownBy_trans (grownBy_drew (grownBy_refl w none)) (World.grownBy_alloc w.drew _ none)
      · rcases h2.2 with ⟨h5, _⟩ | ⟨g', c', u', h5, h6, h7, h8⟩
        · rw [h5] at hv; cases hv
        · refine ⟨h2.1, Or.inr ⟨g', c', u', h5, ?_, h7, h8⟩⟩
          rw [h5] at hv
          injection hv with hv
          simp only at hv
          omega

theorem wpList_append_keep {P : Program} {w : World} {ops : Array Oper} {rest : List Oper} {o : Oper} {a : Act} {Q : Exit → Act → World → Prop} (hgd : o.guard = none) (s x : Operand) (t : TypeId)
    (ho : o.op = .call { callee := .builtin .append, args := #[s, x], argTypes := #[t, t] })
    (base : Nat) (e : TypeId) (i : TypeInfo) (z : Value) (size bytes : Nat) (ht : P.underlying t = some (.slice e)) (hi : P.info? e = some i) (hz : i.zero = some z)
    (hsize : i.size = size) (hby : i.bytes = bytes) (hzs : z.cells.size = size) (hsz : 0 < size)
    (v : Value) (n : Nat) (xs : List Value) (hs : a.eval s = v) (hown : w.ownsRow base e size v n xs)
    (ad : Addr) (m c : Nat) (news : List Value) (hx : a.eval x = .slice (some ad) m c) (hl : news.length = m * size) (hnews : ∀ j u, news[j]? = some u → w.cell? (ad.add j) = some u) (h1 : ∀ u ∈ news, u.oneCell' = true)
    (h63 : n + m ≤ maxLen) (hbytes : (n + m) * bytes ≤ 140737488355328) (hm : 0 < m) (bn : Nat) (hbn : bn ≤ w.heap.size) (hb : base ≤ bn)
    (h : ∀ v' w', ((v'.ownBlock = v.ownBlock ∧ v.ownBlock ≠ none ∧ w.grownBy w' v.ownBlock ∧ w'.ownsRow base e size v' (n + m) (xs ++ news) ∧ w'.ownsRow base e size v n xs) ∨
        (v'.ownBlock = some w.heap.size ∧ w.grownBy w' none ∧ w'.ownsRow bn e size v' (n + m) (xs ++ news))) → wpList P ops Q rest (a.put o.dst v') w') :
    wpList P ops Q (o :: rest) a w := by
  refine wpList_plain hgd fun K hK => ?_
  obtain ⟨v', w', hr, h2⟩ := append_keep (P := P) (w := w) base t o.type e i z size bytes ht hi hz hsize hby hzs hsz v n xs hown ad m c news hl hnews h1 h63 hbytes hm bn hbn hb
  unfold Oper.wp execOp
  simp only [ho, resolve, invoke, builtin, Sem.run_bind, Sem.run_pure, Result.andThen_ok, List.map_toArray, List.map_cons, List.map_nil, hs, hx, hr]
  exact hK _ _ (h v' w' h2)

/-- A slice ahead in the same block holds the first of what the longer one holds. -/
theorem own_ahead {w : World} {b b' : Nat} {e : TypeId} {size n n' m : Nat} {v v' : Value} {xs ys : List Value} (h0 : 0 < size) {w0 : World} (h : w.ownsRow b e size v' m (xs ++ ys)) (h' : w0.ownsRow b' e size v n xs) (hv : v'.ownBlock = v.ownBlock) (hn : n ≤ m) (hcap : ∀ g c cur, v = .slice (some ⟨g, 0, none⟩) n c → w.heap[g]? = some (.cells cur e (0, 0)) → cur.size = c * size) : w.ownsRow b' e size v n xs := by
  rcases h'.2 with ⟨rfl, rfl⟩ | ⟨g, cap, cur, rfl, hbg, hg, hnc, hcm, hcs, htake⟩
  · exact ⟨h'.1, Or.inl ⟨rfl, rfl⟩⟩
  · rcases h.2 with ⟨rfl, _⟩ | ⟨g2, cap2, cur2, rfl, hbg2, hg2, hnc2, hcm2, hcs2, htake2⟩
    · cases hv
    · injection hv with hv
      simp only at hv
      subst hv
      have hc := hcap g2 cap cur2 rfl hg2
      refine ⟨h'.1, Or.inr ⟨g2, cap, cur2, rfl, hbg, hg2, hnc, hcm, hc, ?_⟩⟩
      have e1 := congrArg (List.take (n * size)) htake2
      rw [List.take_take, Nat.min_eq_left (Nat.mul_le_mul_right _ hn)] at e1
      rw [e1, ← h'.1]
      exact List.take_left

end Go.Proofs.Ytecaolkbllbokaa.TG

namespace Go.Proofs.Ytecaolkbllbokaa.TG
open Go.RowKit Go.Great
set_option linter.unusedSimpArgs false
set_option linter.unusedVariables false

theorem own_follow {w w' : World} {b1 b2 : Nat} {e : TypeId} {size n m : Nat} {v g : Value} {xs ys : List Value} (h0 : 0 < size) (h : w.ownsRow b1 e size v n xs) (hg : w.ownsRow b2 e size g m (xs ++ ys)) (heq : g.ownBlock = v.ownBlock) (hg' : w'.ownsRow b2 e size g m (xs ++ ys)) (hn : n ≤ m) : w'.ownsRow b1 e size v n xs := by
  rcases h.2 with ⟨rfl, rfl⟩ | ⟨g1, cap, cur, rfl, hbg, hgg, hnc, hcm, hcs, htake⟩
  · exact ⟨h.1, Or.inl ⟨rfl, rfl⟩⟩
  · rcases hg.2 with ⟨rfl, _⟩ | ⟨g2, cap2, cur2, rfl, hbg2, hgg2, hnc2, hcm2, hcs2, htake2⟩
    · cases heq
    · injection heq with heq
      simp only at heq
      subst heq
      rw [hgg] at hgg2
      injection hgg2 with hgg2
      injection hgg2 with e1
      subst e1
      have hcc : cap = cap2 := Nat.eq_of_mul_eq_mul_right h0 (hcs.symm.trans hcs2)
      subst hcc
      rcases hg'.2 with ⟨e, _⟩ | ⟨g3, cap3, cur3, e, hbg3, hgg3, hnc3, hcm3, hcs3, htake3⟩
      · cases e
      · injection e with e1 e2 e3
        injection e1 with e1
        injection e1 with e1
        subst e1; subst e3
        refine ⟨h.1, Or.inr ⟨g2, cap, cur3, rfl, hbg, hgg3, hnc, hcm, hcs3, ?_⟩⟩
        have e1 := congrArg (List.take (n * size)) htake3
        rw [List.take_take, Nat.min_eq_left (Nat.mul_le_mul_right _ hn)] at e1
        rw [e1, ← h.1]
        exact List.take_left

theorem _root_.Go.World.ownsRow.base0 {w : World} {base : Nat} {e : TypeId} {size n : Nat} {v : Value} {xs : List Value} (h : w.ownsRow base e size v n xs) : w.ownsRow 0 e size v n xs := own_lower h (Nat.zero_le _)

/-- Lists of numbers, each in a block of its own. -/
structure IntsAt (w : World) (all : Value) (vs : List Value) (L : Nat → List Int) : Prop where
  ow : w.ownsRow 0 47 1 all vs.length vs
  each : ∀ (i : Nat) (v : Value), vs[i]? = some v → w.ownsRow 0 3 1 v (L i).length ((L i).map (Value.int .i64))
  dis : ∀ (i j : Nat) (v v' : Value) (k : Nat), i ≠ j → vs[i]? = some v → vs[j]? = some v' → v.ownBlock = some k → v'.ownBlock ≠ some k
  pos : ∀ i, i < vs.length → 0 < (L i).length ∧ (L i).length ≤ 1000000
  num : vs.length ≤ 100000

/-- The blocks of these lists. -/
def OwnedBy (vs : List Value) (k : Nat) : Prop := ∃ v ∈ vs, v.ownBlock = some k

theorem ints_upd {w w' : World} {all : Value} {vs : List Value} {L : Nat → List Int} {i : Nat} {v : Value} {l' : List Int} (h : IntsAt w all vs L) (hi : vs[i]? = some v) (g : w.grownBy w' v.ownBlock) (hl : l'.length = (L i).length) (own' : w'.ownsRow 0 3 1 v l'.length (l'.map (Value.int .i64))) : IntsAt w' all vs (fun m => if m = i then l' else L m) := by
  have hv := h.each i v hi
  refine ⟨h.ow.kept g ?_, fun j v' hj => ?_, h.dis, fun j hj => ?_, h.num⟩
  · cases e : v.ownBlock with
    | none =>
      cases e2 : all.ownBlock with
      | none => exact Or.inl rfl
      | some x => exact Or.inr (by simp)
    | some k => exact Or.inr fun e2 => own_unlike hv h.ow (by decide) e e2
  · by_cases e : j = i
    · subst e
      rw [hi] at hj; injection hj with hj; subst hj
      rw [if_pos rfl]
      exact own'
    · rw [if_neg e]
      refine (h.each j v' hj).kept g ?_
      cases e1 : v'.ownBlock with
      | none => exact Or.inl rfl
      | some k => exact Or.inr fun e2 => h.dis j i v' v k e hj hi e1 e2.symm
  · show 0 < (if j = i then l' else L j).length ∧ _
    by_cases e : j = i
    · rw [if_pos e, hl, ← e]; exact h.pos j hj
    · rw [if_neg e]; exact h.pos j hj

theorem intsA_kept {w w' : World} {all : Value} {vs : List Value} {L : Nat → List Int} (h : IntsAt w all vs L) (g : w.grownBy w' none) : IntsAt w' all vs L :=
  ⟨h.ow.kept g (Classical.em _), fun i v hi => (h.each i v hi).kept g (Classical.em _), h.dis, h.pos, h.num⟩
theorem ints_eq {w : World} {all : Value} {vs : List Value} {L L' : Nat → List Int} (h : IntsAt w all vs L) (e : ∀ m, m < vs.length → L m = L' m) : IntsAt w all vs L' :=
  ⟨h.ow, fun i v hi => by rw [← e i (List.getElem?_eq_some_iff.1 hi).1]; exact h.each i v hi, h.dis, fun i hi => by rw [← e i hi]; exact h.pos i hi, h.num⟩

/-- What is seen of one list. -/
theorem ints_get {w : World} {all : Value} {vs : List Value} {L : Nat → List Int} (h : IntsAt w all vs L) {i : Nat} (hi : i < vs.length) : ∃ A cA g c, all = .slice (some ⟨A, 0, none⟩) vs.length cA ∧ A < w.heap.size ∧ vs[i]? = some (.slice (some ⟨g, 0, none⟩) (L i).length c) ∧ w.cell? ⟨A, i, none⟩ = some (.slice (some ⟨g, 0, none⟩) (L i).length c) ∧ g < w.heap.size ∧ (∀ j x, (L i)[j]? = some x → w.cell? ⟨g, j, none⟩ = some (.int .i64 x)) ∧ (∀ j, w.frozen? ⟨g, j, none⟩ = false) ∧ A ≠ g := by
  obtain ⟨A, cA, hA, hAl, hc⟩ := own_get h.ow (by omega)
  obtain ⟨v, hv⟩ : ∃ x, vs[i]? = some x := ⟨_, List.getElem?_eq_getElem hi⟩
  have ho := h.each i v hv
  obtain ⟨g, c, rfl, hg, hcc⟩ := own_get ho (h.pos i hi).1
  refine ⟨A, cA, g, c, hA, hAl, hv, hc i _ hv hi, hg, fun j x hj => hcc j _ (by rw [List.getElem?_map, hj]; rfl) (List.getElem?_eq_some_iff.1 hj).1, fun j => ?_, ?_⟩
  · rcases ho.2 with ⟨e, _⟩ | ⟨g2, cap2, cur2, e, hbg2, hgg2, _⟩
    · cases e
    · injection e with e1 e2 e3
      injection e1 with e1; injection e1 with e1
      subst e1
      exact frozen_of_row w _ _ _ _ hgg2
  · intro e
    subst e
    exact own_unlike ho h.ow (by decide) (k := A) rfl (by rw [hA]; rfl)

theorem ints_store {w : World} {all : Value} {vs : List Value} {L : Nat → List Int} {i g n c k : Nat} {x : Int} (h : IntsAt w all vs L) (hi : vs[i]? = some (.slice (some ⟨g, 0, none⟩) n c)) (hn : n = (L i).length) : IntsAt (w.setCell ⟨g, k, none⟩ (.int .i64 x)) all vs (fun m => if m = i then (L i).set k x else L m) := by
  have ho := h.each i _ hi
  rw [← hn] at ho
  obtain ⟨s1, s2⟩ := ho.stored k (.int .i64 x)
  refine ints_upd h hi s2 (by simp) ?_
  rw [List.length_set, ← hn, List.map_set]
  exact s1

theorem owned_store {w w0 : World} {vs : List Value} {i g n c k : Nat} {u : Value} (h : Sp (OwnedBy vs) w0 w) (hi : vs[i]? = some (.slice (some ⟨g, 0, none⟩) n c)) : Sp (OwnedBy vs) w0 (w.setCell ⟨g, k, none⟩ u) :=
  sp_set h ⟨_, List.mem_of_getElem? hi, rfl⟩

def mkI (q n : Nat) : List Int := (List.range n).map fun k : Nat => 100000 * (q : Int) + (k : Int) + 7
theorem mkI_len (q n : Nat) : (mkI q n).length = n := by simp [mkI]
theorem mkI_get {q n j : Nat} (h : j < n) : (mkI q n)[j]? = some (100000 * (q : Int) + (j : Int) + 7) := by simp [mkI, h]
theorem mkI_of {l : List Int} {q n : Nat} (hl : l.length = n) (h : ∀ j, j < n → l[j]? = some (100000 * (q : Int) + (j : Int) + 7)) : l = mkI q n := by
  apply List.ext_getElem?
  intro j
  by_cases hj : j < n
  · rw [h j hj, mkI_get hj]
  · rw [List.getElem?_eq_none (by omega), List.getElem?_eq_none (by rw [mkI_len]; omega)]

def apI (q n : Nat) : List Int := (List.range n).map fun k : Nat => -(100000 * (q : Int)) - (k : Int)
theorem apI_len (q n : Nat) : (apI q n).length = n := by simp [apI]
theorem apI_get {q n j : Nat} (h : j < n) : (apI q n)[j]? = some (-(100000 * (q : Int)) - (j : Int)) := by simp [apI, h]
theorem apI_succ (q n : Nat) : apI q (n + 1) = apI q n ++ [-(100000 * (q : Int)) - (n : Int)] := by simp [apI, List.range_succ]

theorem ints_at {w : World} {A N cA i g n c : Nat} {vs : List Value} {L : Nat → List Int} (h : IntsAt w (.slice (some ⟨A, 0, none⟩) N cA) vs L) (hv : vs[i]? = some (.slice (some ⟨g, 0, none⟩) n c)) : N = vs.length ∧ n = (L i).length ∧ w.cell? ⟨A, i, none⟩ = some (.slice (some ⟨g, 0, none⟩) n c) ∧ A < w.heap.size ∧ g < w.heap.size ∧ (∀ j x, (L i)[j]? = some x → w.cell? ⟨g, j, none⟩ = some (.int .i64 x)) ∧ (∀ j, w.frozen? ⟨g, j, none⟩ = false) ∧ A ≠ g := by
  obtain ⟨A', cA', g', c', hA, hAl, hv', hc, hg, hcc, hf, hne⟩ := ints_get h (List.getElem?_eq_some_iff.1 hv).1
  injection hA with e1 e2 e3
  injection e1 with e1; injection e1 with e1
  subst e1
  rw [hv] at hv'
  injection hv' with hv'
  injection hv' with d1 d2 d3
  injection d1 with d1; injection d1 with d1
  subst d1; subst d2; subst d3
  exact ⟨e2, rfl, hc, hAl, hg, hcc, hf, hne⟩

/-- The lists that have been grown. -/
structure MoreAt (w : World) (b0 : Nat) (more : Value) (q : Nat) (ms vs : List Value) (L : Nat → List Int) : Prop where
  ow : w.ownsRow b0 47 1 more q ms
  len : ms.length = q
  each : ∀ (i : Nat) (v : Value), ms[i]? = some v → w.ownsRow 0 3 1 v ((L i).length + 40) ((L i ++ apI i 40).map (Value.int .i64))
  loc : ∀ (i : Nat) (v v' : Value) (x : Nat), ms[i]? = some v → vs[i]? = some v' → v.ownBlock = some x → v'.ownBlock = some x ∨ b0 ≤ x

theorem more_kept {w w' : World} {b0 q : Nat} {more : Value} {ms vs : List Value} {L : Nat → List Int} {row : Option Nat} (h : MoreAt w b0 more q ms vs L) (g : w.grownBy w' row) (h1 : ∀ k, row = some k → more.ownBlock ≠ some k) (h2 : ∀ (i : Nat) (v : Value) (k : Nat), ms[i]? = some v → row = some k → v.ownBlock ≠ some k) : MoreAt w' b0 more q ms vs L := by
  have hk : ∀ {v : Value} {r : Option Nat}, (∀ k, r = some k → v.ownBlock ≠ some k) → v.ownBlock = none ∨ v.ownBlock ≠ r := fun {v} {r} h => by
    cases e : v.ownBlock with
    | none => exact Or.inl rfl
    | some x => exact Or.inr fun e2 => h x e2.symm e
  exact ⟨h.ow.kept g (hk h1), h.len, fun i v hi => (h.each i v hi).kept g (hk fun k e => h2 i v k hi e), h.loc⟩

/-- Where the appends to one list stand. -/
structure GrowIn (w0 wS wr : World) (all : Value) (vs : List Value) (L : Nat → List Int) (b0 q g n c : Nat) (more : Value) (ms : List Value) (gv : Value) (j : Nat) : Prop where
  own : wr.ownsRow 0 3 1 gv (n + j) ((L q ++ apI q j).map (Value.int .i64))
  loc : gv.ownBlock = some g ∨ ∃ x, gv.ownBlock = some x ∧ wS.heap.size ≤ x
  ints : IntsAt wr all vs L
  more : MoreAt wr b0 more q ms vs L
  sp : Sp (OwnedBy vs) w0 wr
  size : wS.heap.size ≤ wr.heap.size

theorem grow_next {w0 wS wr w' : World} {all : Value} {vs : List Value} {L : Nat → List Int} {b0 q g n c : Nat} {more : Value} {ms : List Value} {gv v' : Value} {j : Nat} {o : Obj} (hvq : vs[q]? = some (.slice (some ⟨g, 0, none⟩) n c)) (hn : n = (L q).length) (h0 : w0.heap.size ≤ b0) (hb : b0 ≤ wS.heap.size)
    (hlow : ∀ v ∈ vs, ∀ k, v.ownBlock = some k → k < b0) (hall : ∀ k, all.ownBlock = some k → k < b0) (hms : ∀ (i : Nat) (v : Value) (k : Nat), ms[i]? = some v → v.ownBlock = some k → k < wS.heap.size) (h : GrowIn w0 wS wr all vs L b0 q g n c more ms gv j)
    (hr : (v'.ownBlock = gv.ownBlock ∧ gv.ownBlock ≠ none ∧ (wr.alloc o).grownBy w' gv.ownBlock ∧ w'.ownsRow 0 3 1 v' (n + j + 1) ((L q ++ apI q j).map (Value.int .i64) ++ [.int .i64 (-(100000 * (q : Int)) - (j : Int))]) ∧ w'.ownsRow 0 3 1 gv (n + j) ((L q ++ apI q j).map (Value.int .i64))) ∨
        (v'.ownBlock = some (wr.alloc o).heap.size ∧ (wr.alloc o).grownBy w' none ∧ w'.ownsRow 0 3 1 v' (n + j + 1) ((L q ++ apI q j).map (Value.int .i64) ++ [.int .i64 (-(100000 * (q : Int)) - (j : Int))]))) :
    GrowIn w0 wS w' all vs L b0 q g n c more ms v' (j + 1) := by
  have e1 : (L q ++ apI q j).map (Value.int .i64) ++ [.int .i64 (-(100000 * (q : Int)) - (j : Int))] = (L q ++ apI q (j + 1)).map (Value.int .i64) := by
    rw [apI_succ]; simp
  rw [e1] at hr
  have hsz := h.size
  have hA := intsA_kept h.ints (World.grownBy_alloc wr o none)
  have hM := more_kept h.more (World.grownBy_alloc wr o none) (by simp) (by simp)
  have hS : Sp (OwnedBy vs) w0 (wr.alloc o) := sp_trans h.sp (sp_grown (P := OwnedBy vs) (World.grownBy_alloc wr o none) (by simp)) (fun _ _ h => h)
  have hG := h.own.kept (World.grownBy_alloc wr o none) (Classical.em _)
  have hql := (List.getElem?_eq_some_iff.1 hvq).1
  rcases hr with ⟨r1, r2, r3, r4, r5⟩ | ⟨r1, r2, r3⟩
  · have hsize : wS.heap.size ≤ w'.heap.size := by have := r3.size; rw [World.size_alloc] at this; omega
    rcases h.loc with hl | ⟨x, hl, hx⟩
    · rw [hl] at r3
      have hv := hA.each q _ hvq
      rw [← hn] at hv
      rw [List.map_append] at hG r5
      have hf := own_follow (by decide) hv hG (by rw [hl]; rfl) r5 (by omega)
      have hI := ints_upd hA hvq r3 (l' := L q) rfl (by rw [← hn]; exact hf)
      refine ⟨by rw [Nat.add_assoc] at r4; exact r4, Or.inl (r1.trans hl), ints_eq hI fun m _ => ?_, more_kept hM r3 (fun k e => ?_) (fun i v k hi e => ?_), ?_, hsize⟩
      · by_cases e : m = q
        · rw [if_pos e, e]
        · rw [if_neg e]
      · intro e2
        exact own_unlike hv hM.ow.base0 (by decide) (k := k) (by rw [← e]; rfl) e2
      · injection e with e; subst e
        intro e2
        have hiq : i < q := by have := (List.getElem?_eq_some_iff.1 hi).1; have := h.more.len; omega
        obtain ⟨v2, hv2⟩ : ∃ x, vs[i]? = some x := ⟨_, List.getElem?_eq_getElem (by omega)⟩
        rcases h.more.loc i v v2 g hi hv2 e2 with e3 | e3
        · exact h.ints.dis i q v2 _ g (by omega) hv2 hvq e3 rfl
        · have := hlow _ (List.mem_of_getElem? hvq) g rfl; omega
      · exact sp_trans hS (sp_grown (P := OwnedBy vs) r3 fun k _ e => by injection e with e; subst e; exact ⟨_, List.mem_of_getElem? hvq, rfl⟩) (fun _ _ h => h)
    · rw [hl] at r3
      have far : ∀ {v : Value}, (∀ k, v.ownBlock = some k → k < b0) → v.ownBlock = none ∨ v.ownBlock ≠ some x := fun {v} hk => by
        cases e : v.ownBlock with
        | none => exact Or.inl rfl
        | some y => exact Or.inr fun e2 => by injection e2 with e2; have := hk y e; omega
      refine ⟨by rw [Nat.add_assoc] at r4; exact r4, Or.inr ⟨x, r1.trans hl, hx⟩, ⟨hA.ow.kept r3 (far hall), fun i v hi => (hA.each i v hi).kept r3 (far (hlow v (List.mem_of_getElem? hi))), hA.dis, hA.pos, hA.num⟩, more_kept hM r3 (fun k e => ?_) (fun i v k hi e => ?_), ?_, hsize⟩
      · intro e2
        exact own_unlike hG hM.ow.base0 (by decide) (k := k) (by rw [hl]; exact e) e2
      · injection e with e; subst e
        intro e2
        have := hms i v x hi e2; omega
      · exact sp_trans hS (sp_grown (P := fun k => k = x) r3 fun k _ e => by injection e with e; exact e.symm) (fun k hk e => by omega)
  · have hsize : wS.heap.size ≤ w'.heap.size := by have := r2.size; rw [World.size_alloc] at this; omega
    refine ⟨by rw [Nat.add_assoc] at r3; exact r3, Or.inr ⟨_, r1, by rw [World.size_alloc]; omega⟩, intsA_kept hA r2, more_kept hM r2 (by simp) (by simp), sp_trans hS (sp_grown (P := OwnedBy vs) r2 (by simp)) (fun _ _ h => h), hsize⟩

theorem more_push {w w' : World} {b0 q : Nat} {more v' gv vq : Value} {ms vs : List Value} {L : Nat → List Int} {o : Obj} (h : MoreAt w b0 more q ms vs L) (hq : vs[q]? = some vq) (hg : w.ownsRow 0 3 1 gv ((L q).length + 40) ((L q ++ apI q 40).map (Value.int .i64))) (hl : ∀ x, gv.ownBlock = some x → vq.ownBlock = some x ∨ b0 ≤ x)
    (r : (w.alloc o).grownBy w' more.ownBlock) (own : w'.ownsRow b0 47 1 v' (q + 1) (ms ++ [gv])) : MoreAt w' b0 v' (q + 1) (ms ++ [gv]) vs L := by
  have hM := more_kept h (World.grownBy_alloc w o none) (by simp) (by simp)
  have hG := hg.kept (World.grownBy_alloc w o none) (Classical.em _)
  have un : ∀ {v : Value} {n : Nat} {xs : List Value}, (w.alloc o).ownsRow 0 3 1 v n xs → v.ownBlock = none ∨ v.ownBlock ≠ more.ownBlock := fun {v} {n} {xs} ho => by
    cases e : v.ownBlock with
    | none => exact Or.inl rfl
    | some y => exact Or.inr fun e2 => own_unlike ho hM.ow.base0 (by decide) e e2.symm
  refine ⟨own, by rw [List.length_append, h.len]; rfl, fun i v hi => ?_, fun i v v2 x hi hv2 hx => ?_⟩
  · by_cases e : i < ms.length
    · rw [List.getElem?_append_left e] at hi
      exact (hM.each i v hi).kept r (un (hM.each i v hi))
    · have hi2 : i = q := by have := (List.getElem?_eq_some_iff.1 hi).1; simp at this; have := h.len; omega
      subst hi2
      rw [List.getElem?_append_right (by omega), h.len] at hi
      simp at hi; subst hi
      exact hG.kept r (un hG)
  · by_cases e : i < ms.length
    · rw [List.getElem?_append_left e] at hi
      exact h.loc i v v2 x hi hv2 hx
    · have hi2 : i = q := by have := (List.getElem?_eq_some_iff.1 hi).1; simp at this; have := h.len; omega
      subst hi2
      rw [List.getElem?_append_right (by omega), h.len] at hi
      simp at hi; subst hi
      rw [hq] at hv2; injection hv2 with hv2; subst hv2
      exact hl x hx

end Go.Proofs.Ytecaolkbllbokaa.TG

namespace Go.Proofs.Ytecaolkbllbokaa.TG
open Go.RowKit Go.Great
set_option linter.unusedSimpArgs false
set_option linter.unusedVariables false

abbrev FnV := Int × Int × Int × Value
def flatF : List FnV → List Value
  | [] => []
  | x :: r => .int .i64 x.1 :: .int .i64 x.2.1 :: .int .i64 x.2.2.1 :: x.2.2.2 :: flatF r
theorem flatF_length : ∀ (l : List FnV), (flatF l).length = l.length * 4
  | [] => rfl
  | x :: r => by simp [flatF, flatF_length r]; omega
theorem flatF_append : ∀ (l r : List FnV), flatF (l ++ r) = flatF l ++ flatF r
  | [], r => rfl
  | x :: l, r => by simp [flatF, flatF_append l r]
theorem flatF_get : ∀ (l : List FnV) (i : Nat) (x : FnV), l[i]? = some x → (flatF l)[i * 4]? = some (.int .i64 x.1) ∧ (flatF l)[i * 4 + 1]? = some (.int .i64 x.2.1) ∧ (flatF l)[i * 4 + 2]? = some (.int .i64 x.2.2.1) ∧ (flatF l)[i * 4 + 3]? = some x.2.2.2
  | [], i, x, h => by simp at h
  | y :: r, 0, x, h => by simp at h; subst h; simp [flatF]
  | y :: r, i + 1, x, h => by
    obtain ⟨h1, h2, h3, h4⟩ := flatF_get r i x (by simpa using h)
    have e : (i + 1) * 4 = i * 4 + 1 + 1 + 1 + 1 := by omega
    rw [e]
    simp only [flatF]
    exact ⟨by simpa using h1, by simpa using h2, by simpa using h3, by simpa using h4⟩
theorem flatF_set : ∀ (l : List FnV) (i : Nat) (x : FnV), ((((flatF l).set (i * 4) (.int .i64 x.1)).set (i * 4 + 1) (.int .i64 x.2.1)).set (i * 4 + 2) (.int .i64 x.2.2.1)).set (i * 4 + 3) x.2.2.2 = flatF (l.set i x)
  | [], i, x => by simp [flatF]
  | y :: r, 0, x => by simp [flatF]
  | y :: r, i + 1, x => by
    have ih := flatF_set r i x
    have e : (i + 1) * 4 = i * 4 + 1 + 1 + 1 + 1 := by omega
    rw [e]
    simp only [flatF, List.set_cons_succ, ih]
theorem flat2_set : ∀ (l : List (Int × Int)) (i : Nat) (x y : Int), ((flat2 l).set (i * 2) (.int .i64 x)).set (i * 2 + 1) (.int .i64 y) = flat2 (l.set i (x, y))
  | [], i, x, y => by simp [flat2]
  | z :: r, 0, x, y => by simp [flat2]
  | z :: r, i + 1, x, y => by
    have ih := flat2_set r i x y
    have e : (i + 1) * 2 = i * 2 + 1 + 1 := by omega
    rw [e]
    simp only [flat2, List.set_cons_succ, ih]

/-- One program's rows. -/
structure Pr1 (w : World) (D : Value) (dl : List Int) (F : Value) (fl : List FnV) (cc : Nat → List (Int × Int)) : Prop where
  dt : w.ownsRow 0 5 1 D dl.length (dl.map (Value.int .u8))
  fr : w.ownsRow 0 73 4 F fl.length (flatF fl)
  each : ∀ (k : Nat) (x : FnV), fl[k]? = some x → w.ownsRow 0 75 2 x.2.2.2 (cc k).length (flat2 (cc k))
  dis : ∀ (k l : Nat) (x y : FnV) (b : Nat), k ≠ l → fl[k]? = some x → fl[l]? = some y → x.2.2.2.ownBlock = some b → y.2.2.2.ownBlock ≠ some b

/-- Its blocks. -/
def PB1 (D F : Value) (fl : List FnV) (k : Nat) : Prop := D.ownBlock = some k ∨ F.ownBlock = some k ∨ ∃ x ∈ fl, x.2.2.2.ownBlock = some k

theorem pr1_sp {P : Nat → Prop} {w w' : World} {D F : Value} {dl : List Int} {fl : List FnV} {cc : Nat → List (Int × Int)} (h : Pr1 w D dl F fl cc) (g : Sp P w w') (hp : ∀ k, PB1 D F fl k → ¬ P k) : Pr1 w' D dl F fl cc :=
  ⟨own_sp h.dt g fun k hk => hp k (Or.inl hk), own_sp h.fr g fun k hk => hp k (Or.inr (Or.inl hk)), fun k x hx => own_sp (h.each k x hx) g fun b hb => hp b (Or.inr (Or.inr ⟨x, List.mem_of_getElem? hx, hb⟩)), h.dis⟩
theorem pr1_kept {w w' : World} {D F : Value} {dl : List Int} {fl : List FnV} {cc : Nat → List (Int × Int)} (h : Pr1 w D dl F fl cc) (g : w.grownBy w' none) : Pr1 w' D dl F fl cc :=
  pr1_sp (P := fun _ => False) h (sp_grown g (by simp)) (fun _ _ h => h)
theorem pr1_lt {w : World} {D F : Value} {dl : List Int} {fl : List FnV} {cc : Nat → List (Int × Int)} (h : Pr1 w D dl F fl cc) {k : Nat} (hk : PB1 D F fl k) : k < w.heap.size := by
  rcases hk with e | e | ⟨x, hx, e⟩
  · exact (h.dt.lt k e).2
  · exact (h.fr.lt k e).2
  · obtain ⟨i, hi⟩ := List.mem_iff_getElem?.1 hx
    exact ((h.each i x hi).lt k e).2

theorem un_none {w : World} {t t' : TypeId} {size size' n n' : Nat} {v v' : Value} {xs xs' : List Value} (h : w.ownsRow 0 t size v n xs) (h' : w.ownsRow 0 t' size' v' n' xs') (hne : t ≠ t') : v.ownBlock = none ∨ v.ownBlock ≠ v'.ownBlock := by
  cases e : v.ownBlock with
  | none => exact Or.inl rfl
  | some k => exact Or.inr fun e2 => own_unlike h h' hne e e2.symm

theorem pr1_code {w : World} {D F : Value} {dl : List Int} {fl : List FnV} {cc : Nat → List (Int × Int)} {k g n c j : Nat} {a l r x y : Int} (h : Pr1 w D dl F fl cc) (hk : fl[k]? = some (a, l, r, .slice (some ⟨g, 0, none⟩) n c)) : Pr1 ((w.setCell ⟨g, j * 2, none⟩ (.int .i64 x)).setCell ⟨g, j * 2 + 1, none⟩ (.int .i64 y)) D dl F fl (fun m => if m = k then (cc k).set j (x, y) else cc m) := by
  have ho := h.each k _ hk
  have hn : n = (cc k).length := by
    obtain ⟨p, c', e⟩ := own_slice ho
    injection e
  subst hn
  obtain ⟨s1, s2⟩ := ho.stored (j * 2) (.int .i64 x)
  obtain ⟨s3, s4⟩ := s1.stored (j * 2 + 1) (.int .i64 y)
  have g2 : w.grownBy ((w.setCell ⟨g, j * 2, none⟩ (.int .i64 x)).setCell ⟨g, j * 2 + 1, none⟩ (.int .i64 y)) (Value.slice (some ⟨g, 0, none⟩) (cc k).length c).ownBlock := grownBy_trans s2 s4
  refine ⟨h.dt.kept g2 (un_none h.dt ho (by decide)), h.fr.kept g2 (un_none h.fr ho (by decide)), fun m z hm => ?_, h.dis⟩
  by_cases e : m = k
  · subst e
    rw [hk] at hm; injection hm with hm; subst hm
    rw [if_pos rfl, List.length_set, ← flat2_set]
    exact s3
  · rw [if_neg e]
    refine (h.each m z hm).kept g2 ?_
    cases e1 : z.2.2.2.ownBlock with
    | none => exact Or.inl rfl
    | some b => exact Or.inr fun e2 => h.dis m k z _ b e hm hk e1 e2.symm

/-- What a grown code is beside the others. -/
structure CodeX (w : World) (fl : List FnV) (k s : Nat) (old v : Value) (c : List (Int × Int)) : Prop where
  own : w.ownsRow 0 75 2 v c.length (flat2 c)
  loc : ∀ b, v.ownBlock = some b → old.ownBlock = some b ∨ s ≤ b
  dis : ∀ (m : Nat) (x : FnV) (b : Nat), m ≠ k → fl[m]? = some x → x.2.2.2.ownBlock = some b → v.ownBlock ≠ some b

theorem pr1_app {w w' : World} {D F : Value} {dl : List Int} {fl : List FnV} {cc : Nat → List (Int × Int)} {k s : Nat} {a l r : Int} {old v' : Value} {x y : Int} {o : Obj} (h : Pr1 w D dl F fl cc) (hk : fl[k]? = some (a, l, r, old)) (hs : s ≤ w.heap.size)
    (hr : (v'.ownBlock = old.ownBlock ∧ old.ownBlock ≠ none ∧ (w.alloc o).grownBy w' old.ownBlock ∧ w'.ownsRow 0 75 2 v' ((cc k).length + 1) (flat2 (cc k) ++ [.int .i64 x, .int .i64 y]) ∧ w'.ownsRow 0 75 2 old (cc k).length (flat2 (cc k))) ∨
        (v'.ownBlock = some (w.alloc o).heap.size ∧ (w.alloc o).grownBy w' none ∧ w'.ownsRow 0 75 2 v' ((cc k).length + 1) (flat2 (cc k) ++ [.int .i64 x, .int .i64 y]))) :
    Pr1 w' D dl F fl cc ∧ CodeX w' fl k s old v' (cc k ++ [(x, y)]) ∧ (w.alloc o).grownBy w' old.ownBlock := by
  have hA := pr1_kept h (World.grownBy_alloc w o none)
  have ho := hA.each k _ hk
  have e1 : flat2 (cc k) ++ [Value.int .i64 x, .int .i64 y] = flat2 (cc k ++ [(x, y)]) := by rw [flat2_append]; rfl
  rw [e1] at hr
  have el : (cc k).length + 1 = (cc k ++ [(x, y)]).length := by simp
  rw [el] at hr
  rcases hr with ⟨r1, r2, r3, r4, r5⟩ | ⟨r1, r2, r3⟩
  · refine ⟨⟨hA.dt.kept r3 (un_none hA.dt ho (by decide)), hA.fr.kept r3 (un_none hA.fr ho (by decide)), fun m z hm => ?_, hA.dis⟩, ⟨r4, fun b hb => Or.inl (by rw [← r1]; exact hb), fun m z b hm hz hb => ?_⟩, r3⟩
    · by_cases e : m = k
      · subst e
        rw [hk] at hm; injection hm with hm; subst hm
        exact r5
      · refine (hA.each m z hm).kept r3 ?_
        cases e1 : z.2.2.2.ownBlock with
        | none => exact Or.inl rfl
        | some b => exact Or.inr fun e2 => hA.dis m k z _ b e hm hk e1 e2.symm
    · rw [r1]
      exact h.dis m k z _ b hm hz hk hb
  · refine ⟨pr1_kept hA r2, ⟨r3, fun b hb => ?_, fun m z b hm hz hb => ?_⟩, ?_⟩
    · rw [r1] at hb; injection hb with hb
      rw [World.size_alloc] at hb
      exact Or.inr (by omega)
    · rw [r1]
      intro e; injection e with e
      have := ((h.each m z hz).lt b hb).2
      rw [World.size_alloc] at e
      omega
    · exact grow_w r2

theorem pr1_fun {w : World} {D F : Value} {dl : List Int} {fl : List FnV} {cc : Nat → List (Int × Int)} {k gF nF cF s : Nat} {old v' : Value} {a' l' r' : Int} {c' : List (Int × Int)} (h : Pr1 w D dl F fl cc) (hF : F = .slice (some ⟨gF, 0, none⟩) nF cF) (hX : CodeX w fl k s old v' c') :
    Pr1 ((((w.setCell ⟨gF, k * 4, none⟩ (.int .i64 a')).setCell ⟨gF, k * 4 + 1, none⟩ (.int .i64 l')).setCell ⟨gF, k * 4 + 2, none⟩ (.int .i64 r')).setCell ⟨gF, k * 4 + 3, none⟩ v') D dl F (fl.set k (a', l', r', v')) (fun m => if m = k then c' else cc m) := by
  subst hF
  have ho := h.fr
  have hn : nF = fl.length := by
    obtain ⟨p, c2, e⟩ := own_slice ho
    injection e
  subst hn
  obtain ⟨s1, g1⟩ := ho.stored (k * 4) (.int .i64 a')
  obtain ⟨s2, g2⟩ := s1.stored (k * 4 + 1) (.int .i64 l')
  obtain ⟨s3, g3⟩ := s2.stored (k * 4 + 2) (.int .i64 r')
  obtain ⟨s4, g4⟩ := s3.stored (k * 4 + 3) v'
  have g : w.grownBy ((((w.setCell ⟨gF, k * 4, none⟩ (.int .i64 a')).setCell ⟨gF, k * 4 + 1, none⟩ (.int .i64 l')).setCell ⟨gF, k * 4 + 2, none⟩ (.int .i64 r')).setCell ⟨gF, k * 4 + 3, none⟩ v') (Value.slice (some ⟨gF, 0, none⟩) fl.length cF).ownBlock := grownBy_trans (grownBy_trans (grownBy_trans g1 g2) g3) g4
  have hset : ∀ (m : Nat) (z : FnV), (fl.set k (a', l', r', v'))[m]? = some z → (m = k ∧ z = (a', l', r', v')) ∨ (m ≠ k ∧ fl[m]? = some z) := fun m z hz => by
    rw [List.getElem?_set] at hz
    by_cases e : k = m
    · rw [if_pos e] at hz
      by_cases hl : k < fl.length
      · rw [if_pos hl] at hz; injection hz with hz; exact Or.inl ⟨e.symm, hz.symm⟩
      · rw [if_neg hl] at hz; cases hz
    · rw [if_neg e] at hz; exact Or.inr ⟨fun e2 => e e2.symm, hz⟩
  refine ⟨h.dt.kept g (un_none h.dt ho (by decide)), ?_, fun m z hm => ?_, fun m n2 z y b hmn hz hy hb => ?_⟩
  · rw [List.length_set, ← flatF_set]; exact s4
  · rcases hset m z hm with ⟨rfl, rfl⟩ | ⟨e, hm2⟩
    · rw [if_pos rfl]
      exact hX.own.kept g (un_none hX.own ho (by decide))
    · rw [if_neg e]
      exact (h.each m z hm2).kept g (un_none (h.each m z hm2) ho (by decide))
  · rcases hset m z hz with ⟨rfl, rfl⟩ | ⟨e, hz2⟩
    · rcases hset n2 y hy with ⟨rfl, rfl⟩ | ⟨e, hy2⟩
      · exact absurd rfl hmn
      · intro e2
        exact hX.dis n2 y b e hy2 e2 hb
    · rcases hset n2 y hy with ⟨rfl, rfl⟩ | ⟨e3, hy2⟩
      · exact hX.dis m z b e hz2 hb
      · exact h.dis m n2 z y b hmn hz2 hy2 hb

theorem pr1_data {w : World} {D F : Value} {dl : List Int} {fl : List FnV} {cc : Nat → List (Int × Int)} {j g n c : Nat} {x : Int} (h : Pr1 w D dl F fl cc) (hD : D = .slice (some ⟨g, 0, none⟩) n c) : Pr1 (w.setCell ⟨g, j, none⟩ (.int .u8 x)) D (dl.set j x) F fl cc := by
  subst hD
  have ho := h.dt
  have hn : n = dl.length := by
    obtain ⟨p, c2, e⟩ := own_slice ho
    injection e
  subst hn
  obtain ⟨s1, g1⟩ := ho.stored j (.int .u8 x)
  refine ⟨by rw [List.length_set, List.map_set]; exact s1, h.fr.kept g1 (un_none h.fr ho (by decide)), fun m z hm => (h.each m z hm).kept g1 (un_none (h.each m z hm) ho (by decide)), h.dis⟩

theorem pr1_fapp {w w' : World} {D F v' : Value} {dl : List Int} {fl : List FnV} {cc : Nat → List (Int × Int)} {a l r : Int} {o : Obj} (h : Pr1 w D dl F fl cc) (g : (w.alloc o).grownBy w' F.ownBlock) (own : w'.ownsRow 0 73 4 v' (fl.length + 1) (flatF fl ++ [.int .i64 a, .int .i64 l, .int .i64 r, .slice none 0 0])) :
    Pr1 w' D dl v' (fl ++ [(a, l, r, .slice none 0 0)]) (fun m => if m < fl.length then cc m else []) := by
  have hA := pr1_kept h (World.grownBy_alloc w o none)
  have hget : ∀ (m : Nat) (z : FnV), (fl ++ [(a, l, r, .slice none 0 0)])[m]? = some z → (m < fl.length ∧ fl[m]? = some z) ∨ (m = fl.length ∧ z = (a, l, r, .slice none 0 0)) := fun m z hz => by
    by_cases e : m < fl.length
    · rw [List.getElem?_append_left e] at hz; exact Or.inl ⟨e, hz⟩
    · have hm : m = fl.length := by have := (List.getElem?_eq_some_iff.1 hz).1; simp at this; omega
      subst hm
      rw [List.getElem?_append_right (Nat.le_refl _)] at hz
      simp at hz
      exact Or.inr ⟨rfl, hz.symm⟩
  refine ⟨hA.dt.kept g (un_none hA.dt hA.fr (by decide)), ?_, fun m z hm => ?_, fun m n z y b hmn hz hy hb => ?_⟩
  · rw [List.length_append, flatF_append]; exact own
  · rcases hget m z hm with ⟨e, hm2⟩ | ⟨e, rfl⟩
    · rw [if_pos e]
      exact (hA.each m z hm2).kept g (un_none (hA.each m z hm2) hA.fr (by decide))
    · rw [if_neg (by omega)]
      exact World.ownsRow_nil _ _ _ _
  · rcases hget m z hz with ⟨e, hz2⟩ | ⟨e, rfl⟩
    · rcases hget n y hy with ⟨e3, hy2⟩ | ⟨e3, rfl⟩
      · exact h.dis m n z y b hmn hz2 hy2 hb
      · simp [Value.ownBlock]
    · cases hb

theorem pr1_dapp {w w' : World} {D F v' : Value} {dl : List Int} {fl : List FnV} {cc : Nat → List (Int × Int)} {x : Int} {o : Obj} (h : Pr1 w D dl F fl cc) (g : (w.alloc o).grownBy w' D.ownBlock) (own : w'.ownsRow 0 5 1 v' (dl.length + 1) (dl.map (Value.int .u8) ++ [.int .u8 x])) :
    Pr1 w' v' (dl ++ [x]) F fl cc := by
  have hA := pr1_kept h (World.grownBy_alloc w o none)
  refine ⟨by rw [List.length_append, List.map_append]; exact own, hA.fr.kept g (un_none hA.fr hA.dt (by decide)), fun m z hm => (hA.each m z hm).kept g (un_none (hA.each m z hm) hA.dt (by decide)), h.dis⟩

/-- What is seen of a function, and of its code. -/
theorem pr1_see {w : World} {D F : Value} {dl : List Int} {fl : List FnV} {cc : Nat → List (Int × Int)} {k : Nat} {x : FnV} (h : Pr1 w D dl F fl cc) (hk : fl[k]? = some x) : ∃ gF cF, F = .slice (some ⟨gF, 0, none⟩) fl.length cF ∧ gF < w.heap.size ∧ w.cell? ⟨gF, k * 4, none⟩ = some (.int .i64 x.1) ∧ w.cell? ⟨gF, k * 4 + 1, none⟩ = some (.int .i64 x.2.1) ∧ w.cell? ⟨gF, k * 4 + 2, none⟩ = some (.int .i64 x.2.2.1) ∧ w.cell? ⟨gF, k * 4 + 3, none⟩ = some x.2.2.2 ∧ ∀ j, w.frozen? ⟨gF, j, none⟩ = false := by
  have hl := (List.getElem?_eq_some_iff.1 hk).1
  obtain ⟨gF, cF, e, hg, hc⟩ := own_getN h.fr (by omega)
  obtain ⟨q0, q1, q2, q3⟩ := flatF_get fl k x hk
  refine ⟨gF, cF, e, hg, hc _ _ q0 (by omega), hc _ _ q1 (by omega), hc _ _ q2 (by omega), hc _ _ q3 (by omega), fun j => ?_⟩
  rcases h.fr.2 with ⟨e2, _⟩ | ⟨g2, cap2, cur2, e2, _, hgg, _⟩
  · rw [e] at e2; cases e2
  · rw [e] at e2
    injection e2 with d1 d2 d3
    injection d1 with d1; injection d1 with d1
    subst d1
    exact frozen_of_row w _ _ _ _ hgg
theorem own_frozen {w : World} {b : Nat} {t : TypeId} {size g n c m : Nat} {xs : List Value} (h : w.ownsRow b t size (.slice (some ⟨g, 0, none⟩) n c) m xs) : ∀ j, w.frozen? ⟨g, j, none⟩ = false := fun j => by
  rcases h.2 with ⟨e2, _⟩ | ⟨g2, cap2, cur2, e2, _, hgg, _⟩
  · cases e2
  · injection e2 with d1 d2 d3
    injection d1 with d1; injection d1 with d1
    subst d1
    exact frozen_of_row w _ _ _ _ hgg

end Go.Proofs.Ytecaolkbllbokaa.TG

namespace Go.Proofs.Ytecaolkbllbokaa.TG
open Go.RowKit Go.Great
set_option linter.unusedSimpArgs false
set_option linter.unusedVariables false

/-- One program as it stands: its data's slice and bytes, its functions' slice and cells, the codes. -/
structure P1 where
  D : Value
  dl : List Int
  F : Value
  fl : List FnV
  cc : Nat → List (Int × Int)

def P1.at_ (p : P1) (w : World) : Prop := Pr1 w p.D p.dl p.F p.fl p.cc
def P1.bl (p : P1) (k : Nat) : Prop := PB1 p.D p.F p.fl k

/-- The programs' list, and each program. -/
structure GrSt (w : World) (A K N : Nat) (G : Nat → Value) (p : Nat → P1) : Prop where
  row : w.rowIs A 32 K G
  le : N * 3 ≤ K
  g : ∀ i, i < N → G (i * 3 + 1) = (p i).D ∧ G (i * 3 + 2) = (p i).F
  pr : ∀ i, i < N → (p i).at_ w
  dj : ∀ i j k, i < N → j < N → i ≠ j → (p i).bl k → ¬ (p j).bl k
  nA : ∀ i, i < N → ¬ (p i).bl A

theorem gr_upd {w w' : World} {A K N : Nat} {G G' : Nat → Value} {p : Nat → P1} {i : Nat} {p' : P1} (h : GrSt w A K N G p) (hi : i < N) (s : Sp (fun k => (p i).bl k ∨ k = A) w w') (hr : w'.rowIs A 32 K G') (hG : ∀ j, j < N → j ≠ i → G' (j * 3 + 1) = G (j * 3 + 1) ∧ G' (j * 3 + 2) = G (j * 3 + 2))
    (hGi : G' (i * 3 + 1) = p'.D ∧ G' (i * 3 + 2) = p'.F) (hp : p'.at_ w') (loc : ∀ k, p'.bl k → (p i).bl k ∨ w.heap.size ≤ k) : GrSt w' A K N G' (fun j => if j = i then p' else p j) := by
  have hAl := h.row.lt
  have hlt : ∀ j, j < N → ∀ k, (p j).bl k → k < w.heap.size := fun j hj k hk => pr1_lt (h.pr j hj) hk
  refine ⟨hr, h.le, fun j hj => ?_, fun j hj => ?_, fun a b k ha hb hab hk => ?_, fun j hj => ?_⟩
  · by_cases e : j = i
    · subst e; rw [if_pos rfl]; exact hGi
    · rw [if_neg e]
      obtain ⟨q1, q2⟩ := hG j hj e
      rw [q1, q2]; exact h.g j hj
  · by_cases e : j = i
    · subst e; rw [if_pos rfl]; exact hp
    · rw [if_neg e]
      refine pr1_sp (h.pr j hj) s fun k hk hk2 => ?_
      rcases hk2 with hk2 | rfl
      · exact h.dj j i k hj hi e hk hk2
      · exact h.nA j hj hk
  · by_cases e : a = i
    · subst e
      rw [if_pos rfl] at hk
      rw [if_neg (fun e => hab e.symm)]
      intro hk2
      rcases loc k hk with h1 | h1
      · exact h.dj a b k ha hb hab h1 hk2
      · have := hlt b hb k hk2; omega
    · rw [if_neg e] at hk
      by_cases e2 : b = i
      · subst e2
        rw [if_pos rfl]
        intro hk2
        rcases loc k hk2 with h1 | h1
        · exact h.dj a b k ha hb hab hk h1
        · have := hlt a ha k hk; omega
      · rw [if_neg e2]
        exact h.dj a b k ha hb hab hk
  · by_cases e : j = i
    · subst e; rw [if_pos rfl]
      intro hk
      rcases loc A hk with h1 | h1
      · exact h.nA j hj h1
      · omega
    · rw [if_neg e]; exact h.nA j hj

/-- The marks. -/
def mkC (i k n : Nat) : List (Int × Int) := (List.range n).map fun j : Nat => (1000 * (i : Int) + (k : Int), (j : Int))
theorem mkC_len (i k n : Nat) : (mkC i k n).length = n := by simp [mkC]
theorem mkC_get {i k n j : Nat} (h : j < n) : (mkC i k n)[j]? = some (1000 * (i : Int) + (k : Int), (j : Int)) := by simp [mkC, h]
theorem mkC_of {l : List (Int × Int)} {i k n : Nat} (hl : l.length = n) (h : ∀ j, j < n → l[j]? = some (1000 * (i : Int) + (k : Int), (j : Int))) : l = mkC i k n := by
  apply List.ext_getElem?
  intro j
  by_cases hj : j < n
  · rw [h j hj, mkC_get hj]
  · rw [List.getElem?_eq_none (by omega), List.getElem?_eq_none (by rw [mkC_len]; omega)]
def lastC (i k : Nat) : Int × Int := (-(1000 * (i : Int)) - (k : Int) - 1, 0)
def byteD (i j : Nat) : Int := ((i : Int) * 37 + (j : Int)) % 256
def lastB (i : Nat) : Int := (i : Int)
def mkD (i n : Nat) : List Int := (List.range n).map (byteD i)
theorem mkD_len (i n : Nat) : (mkD i n).length = n := by simp [mkD]
theorem mkD_get {i n j : Nat} (h : j < n) : (mkD i n)[j]? = some (byteD i j) := by simp [mkD, h]
theorem mkD_of {l : List Int} {i n : Nat} (hl : l.length = n) (h : ∀ j, j < n → l[j]? = some (byteD i j)) : l = mkD i n := by
  apply List.ext_getElem?
  intro j
  by_cases hj : j < n
  · rw [h j hj, mkD_get hj]
  · rw [List.getElem?_eq_none (by omega), List.getElem?_eq_none (by rw [mkD_len]; omega)]

/-- A program that is grown: i its number, p0 what it was. -/
structure DoneP (i : Nat) (p0 p : P1) : Prop where
  d : p.dl = mkD i p0.dl.length ++ [lastB i]
  fl : p.fl.length = p0.fl.length + 1
  code : ∀ k, k < p0.fl.length → ∃ v, p.fl[k]? = some (1000 * (i : Int) + (k : Int), 0, 0, v) ∧ p.cc k = mkC i k (p0.cc k).length ++ [lastC i k]
  last : p.fl[p0.fl.length]? = some (-1 - (i : Int), 0, 0, .slice none 0 0)

/-- Where the loop over one program's functions stands. -/
structure GrIn (ws wr : World) (p0 : P1) (i k : Nat) (fl : List FnV) (cc : Nat → List (Int × Int)) : Prop where
  pr : Pr1 wr p0.D p0.dl p0.F fl cc
  sp : Sp p0.bl ws wr
  len : fl.length = p0.fl.length
  done : ∀ m, m < k → ∃ v, fl[m]? = some (1000 * (i : Int) + (m : Int), 0, 0, v) ∧ cc m = mkC i m (p0.cc m).length ++ [lastC i m]
  rest : ∀ m, k ≤ m → fl[m]? = p0.fl[m]? ∧ cc m = p0.cc m
  loc : ∀ x ∈ fl, ∀ b, x.2.2.2.ownBlock = some b → p0.bl b ∨ ws.heap.size ≤ b

theorem grin_start {ws : World} {p0 : P1} (i : Nat) (h : p0.at_ ws) : GrIn ws ws p0 i 0 p0.fl p0.cc :=
  ⟨h, sp_refl _ _, rfl, fun m hm => absurd hm (Nat.not_lt_zero _), fun m _ => ⟨rfl, rfl⟩, fun x hx b hb => Or.inl (Or.inr (Or.inr ⟨x, hx, hb⟩))⟩

theorem grin_next {ws w1 w' : World} {p0 : P1} {i k gF nF cF : Nat} {fl : List FnV} {cc cc' : Nat → List (Int × Int)} {old v' : Value} {a l r : Int} (h : GrIn ws w1 p0 i k fl cc) (hk : k < p0.fl.length) (hpr : Pr1 w' p0.D p0.dl p0.F fl cc') (hcc : ∀ m, m ≠ k → cc' m = cc m) (hs : Sp p0.bl ws w') (hold : fl[k]? = some (a, l, r, old))
    (hF : p0.F = .slice (some ⟨gF, 0, none⟩) nF cF) (hX : CodeX w' fl k ws.heap.size old v' (mkC i k (p0.cc k).length ++ [lastC i k])) :
    GrIn ws ((((w'.setCell ⟨gF, k * 4, none⟩ (.int .i64 (1000 * (i : Int) + (k : Int)))).setCell ⟨gF, k * 4 + 1, none⟩ (.int .i64 0)).setCell ⟨gF, k * 4 + 2, none⟩ (.int .i64 0)).setCell ⟨gF, k * 4 + 3, none⟩ v') p0 i (k + 1) (fl.set k (1000 * (i : Int) + (k : Int), 0, 0, v')) (fun m => if m = k then mkC i k (p0.cc k).length ++ [lastC i k] else cc' m) := by
  have hb : p0.bl gF := Or.inr (Or.inl (by rw [hF]; rfl))
  have hkl : k < fl.length := by rw [h.len]; exact hk
  refine ⟨pr1_fun hpr hF hX, sp_set (sp_set (sp_set (sp_set hs hb) hb) hb) hb, by rw [List.length_set]; exact h.len, fun m hm => ?_, fun m hm => ?_, fun x hx b hxb => ?_⟩
  · by_cases e : m = k
    · subst e
      exact ⟨v', by rw [List.getElem?_set, if_pos rfl, if_pos hkl], by rw [if_pos rfl]⟩
    · rw [List.getElem?_set, if_neg (fun e2 => e e2.symm), if_neg e, hcc m e]
      exact h.done m (by omega)
  · have e : m ≠ k := by omega
    rw [List.getElem?_set, if_neg (fun e2 => e e2.symm), if_neg e, hcc m e]
    exact h.rest m (by omega)
  · obtain ⟨m, hm⟩ := List.mem_iff_getElem?.1 hx
    rw [List.getElem?_set] at hm
    by_cases e : k = m
    · rw [if_pos e, if_pos hkl] at hm
      injection hm with hm; subst hm
      rcases hX.loc b hxb with h1 | h1
      · exact h.loc _ (List.mem_of_getElem? hold) b h1
      · exact Or.inr h1
    · rw [if_neg e] at hm
      exact h.loc x (List.mem_of_getElem? hm) b hxb

end Go.Proofs.Ytecaolkbllbokaa.TG

namespace Go.Proofs.Ytecaolkbllbokaa.TG
open Go.RowKit Go.Great
set_option linter.unusedSimpArgs false
set_option linter.unusedVariables false

noncomputable def pgU (u : Un) (mem : Int) : Pg := if compE u mem = 0 then ⟨mem, dataE u, u.funcs.map fun f => (f.args, (f.locals.length : Int), 1, (fullP u.texts f.parts).out)⟩ else ⟨0, [], []⟩

theorem flatV_get : ∀ (fs : List Fun) (rs : List Value) (i : Nat) (f : Fun) (r : Value), fs[i]? = some f → rs[i]? = some r → (flatV fs rs)[i * 4]? = some (.int .i64 f.args) ∧ (flatV fs rs)[i * 4 + 1]? = some (.int .i64 f.locals.length) ∧ (flatV fs rs)[i * 4 + 2]? = some (.int .i64 1) ∧ (flatV fs rs)[i * 4 + 3]? = some r
  | [], _, i, f, r, h, _ => by simp at h
  | _ :: _, [], i, f, r, _, h => by simp at h
  | g :: fs, x :: rs, 0, f, r, h, h2 => by
    simp at h h2; subst h; subst h2
    simp [flatV]
  | g :: fs, x :: rs, i + 1, f, r, h, h2 => by
    obtain ⟨q0, q1, q2, q3⟩ := flatV_get fs rs i f r (by simpa using h) (by simpa using h2)
    have e : (i + 1) * 4 = i * 4 + 1 + 1 + 1 + 1 := by omega
    rw [e]
    simp only [flatV]
    exact ⟨by simpa using q0, by simpa using q1, by simpa using q2, by simpa using q3⟩
theorem flat4_V : ∀ (fs : List Fun) (rs : List (Value × Value)), flat4 fs rs = flatV fs (rs.map Prod.fst)
  | [], _ => by simp [flat4, flatV]
  | _ :: _, [] => by simp [flat4, flatV]
  | f :: fs, r :: rs => by simp [flat4, flatV, flat4_V fs rs]

theorem prog_nil (w : World) (b : Nat) : ProgAt w b (.slice none 0 0) (.slice none 0 0) ⟨0, [], []⟩ :=
  ⟨World.ownsRow_nil _ _ _ _, [], World.ownsRow_nil _ _ _ _, fun i a l r c h => by cases h⟩

theorem prog_rows {w : World} {b : Nat} {u : Un} {mem : Int} {vd vF : Value} {rows : List Value} (h0 : compE u mem = 0) (hlen : rows.length = u.funcs.length) (hd : w.ownsRow b 5 1 vd (dataE u).length ((dataE u).map (Value.int .u8))) (hf : w.ownsRow b 73 4 vF u.funcs.length (flatV u.funcs rows))
    (each : ∀ (i : Nat) (vo : Value) (f : Fun), rows[i]? = some vo → u.funcs[i]? = some f → w.ownsRow b 75 2 vo (fullP u.texts f.parts).out.length (flat2 (fullP u.texts f.parts).out)) : ProgAt w b vd vF (pgU u mem) := by
  unfold pgU
  rw [if_pos h0]
  refine ⟨hd, _, by rw [List.length_map]; exact hf, fun i a l r c hi => ?_⟩
  rw [List.getElem?_map] at hi
  obtain ⟨f, hfi, e⟩ := Option.map_eq_some_iff.1 hi
  injection e with e1 e; injection e with e2 e; injection e with e3 e4
  subst e1; subst e2; subst e3; subst e4
  have hl := (List.getElem?_eq_some_iff.1 hfi).1
  obtain ⟨vo, hvo⟩ : ∃ x, rows[i]? = some x := ⟨_, List.getElem?_eq_getElem (by omega)⟩
  obtain ⟨q0, q1, q2, q3⟩ := flatV_get u.funcs rows i f vo hfi hvo
  exact ⟨vo, q0, q1, q2, q3, each i vo f hvo hfi⟩

theorem prog_of_comp {w w' : World} {u : Un} {mem : Int} {e : Ending} (h : CompileP w u mem e w') : ∃ vd vF, e = .returned (.tuple #[.agg #[.int .i64 (pgU u mem).mem, vd, vF], .int .i64 (compE u mem)]) ∧ w.grownBy w' none ∧ ProgAt w' w.heap.size vd vF (pgU u mem) := by
  unfold CompileP at h
  by_cases h0 : compE u mem = 0
  · rw [if_pos h0] at h
    obtain ⟨vd, vF, v, rows, he, hC⟩ := h
    refine ⟨vd, vF, by rw [he, h0]; unfold pgU; rw [if_pos h0], hC.gr, prog_rows (rows := rows.map Prod.fst) h0 (by rw [List.length_map]; exact hC.len) hC.dt (by rw [← flat4_V]; exact hC.fr) fun i vo f hi hf => ?_⟩
    rw [List.getElem?_map] at hi
    obtain ⟨⟨x, y⟩, hx, rfl⟩ := Option.map_eq_some_iff.1 hi
    exact (hC.each i x y f hx hf).1
  · rw [if_neg h0] at h
    refine ⟨.slice none 0 0, .slice none 0 0, by rw [h.1]; unfold pgU; rw [if_neg h0], h.2, ?_⟩
    unfold pgU; rw [if_neg h0]; exact prog_nil _ _

theorem prog_of_ref {w w' : World} {u : Un} {mem : Int} {e : Ending} (h : RCompP w u mem e w') : ∃ vd vF, e = .returned (.tuple #[.agg #[.int .i64 (pgU u mem).mem, vd, vF], .int .i64 (compE u mem)]) ∧ w.grownBy w' none ∧ ProgAt w' w.heap.size vd vF (pgU u mem) := by
  unfold RCompP at h
  by_cases h0 : compE u mem = 0
  · rw [if_pos h0] at h
    obtain ⟨vd, vF, rows, he, hC⟩ := h
    refine ⟨vd, vF, by rw [he, h0]; unfold pgU; rw [if_pos h0], hC.gr, prog_rows h0 hC.len hC.dt hC.fr fun i vo f hi hf => ?_⟩
    obtain ⟨_, hall⟩ := comp_ok h0
    obtain ⟨hok, hfo⟩ := hall f (List.mem_of_getElem? hf)
    have := hC.each i vo f hi hf
    rw [(fun_same u f hok hfo).1] at this
    exact this
  · rw [if_neg h0] at h
    refine ⟨.slice none 0 0, .slice none 0 0, by rw [h.1]; unfold pgU; rw [if_neg h0], h.2, ?_⟩
    unfold pgU; rw [if_neg h0]; exact prog_nil _ _

theorem take_bytes (ts : List (ByteArray × List Int)) : ∀ k, k ≤ ts.length → (((ts.take k).flatMap Prod.snd).length : Int) = bytesTo ts k
  | 0, _ => by simp [bytesTo]
  | k + 1, h => by
    have ih := take_bytes ts k (by omega)
    rw [List.take_succ_eq_append_getElem (show k < ts.length by omega), List.flatMap_append, List.length_append, bytesTo]
    have e : ts.getD k (ByteArray.empty, []) = ts[k] := by simp [List.getD_eq_getElem?_getD, List.getElem?_eq_getElem (show k < ts.length by omega)]
    rw [e, ← ih]
    simp
theorem dataE_len (u : Un) : ((dataE u).length : Int) = bytesTo u.texts u.texts.length := by
  have := take_bytes u.texts u.texts.length (Nat.le_refl _)
  rw [List.take_length] at this
  exact this

theorem pgU_small (u : Un) (mem : Int) : (pgU u mem).data.length ≤ 1000000000000 ∧ (pgU u mem).funcs.length ≤ 1000000000000 ∧ ∀ x ∈ (pgU u mem).funcs, x.2.2.2.length ≤ 1000000000000 := by
  unfold pgU
  by_cases h0 : compE u mem = 0
  · rw [if_pos h0]
    obtain ⟨hck, hall⟩ := comp_ok h0
    have hr := right_of hck
    refine ⟨?_, ?_, ?_⟩
    · have h1 := dataE_len u
      have h2 := hr.by_
      show (dataE u).length ≤ _
      omega
    · show (u.funcs.map _).length ≤ _
      rw [List.length_map]
      have := hr.nf
      omega
    · intro x hx
      obtain ⟨f, hf, rfl⟩ := List.mem_map.1 hx
      obtain ⟨hok, hfo⟩ := hall f hf
      have hl := fun_ok u f hok
      rw [hfo] at hl
      have : ¬ 4096 < (fullP u.texts f.parts).out.length := by
        intro h; rw [decide_eq_true h] at hl; cases hl
      show (fullP u.texts f.parts).out.length ≤ _
      omega
  · rw [if_neg h0]
    exact ⟨by decide, by decide, fun x hx => by cases hx⟩

theorem prog_slices {w : World} {b : Nat} {vd vF : Value} {p : Pg} (h : ProgAt w b vd vF p) : ∃ pd cd pF cF, vd = .slice pd p.data.length cd ∧ vF = .slice pF p.funcs.length cF := by
  obtain ⟨pd, cd, e⟩ := own_slice h.dt
  obtain ⟨xs, hx, -⟩ := h.fr
  obtain ⟨pF, cF, e2⟩ := own_slice hx
  exact ⟨pd, cd, pF, cF, e, e2⟩
theorem boxP_sp {P : Nat → Prop} {w w' : World} {b : Nat} {m : Int} {vd vF : Value} (h : BoxP w b m vd vF) (g : Sp P w w') (hp : ¬ P b) : BoxP w' b m vd vF := by
  unfold BoxP at *
  rw [g.block b (Array.getElem?_eq_some_iff.1 h).1 hp]; exact h

end Go.Proofs.Ytecaolkbllbokaa.TG
