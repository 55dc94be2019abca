/-
  Lend: a unit apart. Conditions: as each theorem states.
  Far; sameInts. Conditions: as each theorem states.
  Kept, of bytes; SameWords; SameParts. Conditions: as each theorem states.
  Walks of the compiler's branch with three kids and of either. Conditions: as each theorem states.
-/
import Derived.Test.YtecaolkbllbokaaMB13
import Derived.Test.YtecaolkbllbokaaMB07
import Derived.Deep.RegionHeld3
import Derived.BigQuiet
import Derived.Laws.BytesArg
import Derived.Test.YtecaolkbllbokaaMB12
namespace Go.Proofs.Ytecaolkbllbokaa.TG
open Go.RowKit Go.Great
set_option linter.unusedSimpArgs false
set_option linter.unusedVariables false

def set2 (F : Nat → Value) (q : Nat) (a b : Value) (j : Nat) : Value := if j = q * 2 + 1 then b else if j = q * 2 then a else F j
theorem set2_lt (F : Nat → Value) (q : Nat) (a b : Value) (c : Nat) (h : c < q * 2) : set2 F q a b c = F c := by unfold set2; rw [if_neg (by omega), if_neg (by omega)]
theorem set2_ge (F : Nat → Value) (q : Nat) (a b : Value) (c : Nat) (h : q * 2 + 2 ≤ c) : set2 F q a b c = F c := by unfold set2; rw [if_neg (by omega), if_neg (by omega)]
theorem set2_0 (F : Nat → Value) (q : Nat) (a b : Value) : set2 F q a b (q * 2) = a := by unfold set2; rw [if_neg (by omega), if_pos rfl]
theorem set2_1 (F : Nat → Value) (q : Nat) (a b : Value) : set2 F q a b (q * 2 + 1) = b := by unfold set2; rw [if_pos rfl]
theorem row_set2 {w : World} {T N : Nat} {ty : TypeId} {F : Nat → Value} (h : w.rowIs T ty N F) (q : Nat) (a b : Value) : ((w.setCell ⟨T, q * 2, none⟩ a).setCell ⟨T, q * 2 + 1, none⟩ b).rowIs T ty N (set2 F q a b) := (h.set (q * 2) a).set (q * 2 + 1) b
theorem blk_set2 (w : World) (T i j : Nat) (a b : Value) {k : Nat} (hk : k ≠ T) : ((w.setCell ⟨T, i, none⟩ a).setCell ⟨T, j, none⟩ b).heap[k]? = w.heap[k]? := by
  rw [heap_setCell_other _ _ k _ (by simpa using hk), heap_setCell_other _ _ k _ (by simpa using hk)]
theorem grow_set2 {w wr : World} {T : Nat} (h : w.grownBy wr none) (hT : w.heap.size ≤ T) (i j : Nat) (a b : Value) : w.grownBy ((wr.setCell ⟨T, i, none⟩ a).setCell ⟨T, j, none⟩ b) none :=
  grow_new (grow_new h (grownBy_set wr T i a) hT) (grownBy_set _ T j b) hT

theorem ld_set {W : World} {b0 bt T : Nat} {o0 o1 o2 : Nat} {v0 v1 v2 : Value} (h0 : W.cell? ⟨b0, o0, none⟩ = some v0) (h1 : W.cell? ⟨bt, o1, none⟩ = some v1) (h2 : W.cell? ⟨bt, o2, none⟩ = some v2) (l0 : b0 < W.heap.size) (l1 : bt < W.heap.size) (n0 : ¬ b0 = T) (n1 : ¬ bt = T) (i j : Nat) (a b : Value) :
    ((W.setCell ⟨T, i, none⟩ a).setCell ⟨T, j, none⟩ b).cell? ⟨b0, o0, none⟩ = some v0 ∧ ((W.setCell ⟨T, i, none⟩ a).setCell ⟨T, j, none⟩ b).cell? ⟨bt, o1, none⟩ = some v1 ∧ ((W.setCell ⟨T, i, none⟩ a).setCell ⟨T, j, none⟩ b).cell? ⟨bt, o2, none⟩ = some v2 ∧ b0 < ((W.setCell ⟨T, i, none⟩ a).setCell ⟨T, j, none⟩ b).heap.size ∧ bt < ((W.setCell ⟨T, i, none⟩ a).setCell ⟨T, j, none⟩ b).heap.size := by
  have g : W.grownBy ((W.setCell ⟨T, i, none⟩ a).setCell ⟨T, j, none⟩ b) (some T) := grownBy_trans (grownBy_set W T i a) (grownBy_set _ T j b)
  have q0 : some b0 ≠ some T := fun e => by injection e with e; exact n0 e
  have q1 : some bt ≠ some T := fun e => by injection e with e; exact n1 e
  exact ⟨g.cell h0 q0, g.cell h1 q1, g.cell h2 q1, Nat.lt_of_lt_of_le l0 g.size, Nat.lt_of_lt_of_le l1 g.size⟩

def LendPost (w : World) (u : Un) (e : Ending) (w' : World) : Prop := ∃ T Fb gs ls ps Ft Ff, e = .returned (.agg #[.slice (some ⟨T, 0, none⟩) u.texts.length (u.texts.length + 5), .slice (some ⟨Fb, 0, none⟩) u.funcs.length (u.funcs.length + 5)]) ∧ LentU w' w.heap.size T Fb gs ls ps Ft Ff u ∧ w.grownBy w' none

def set4 (F : Nat → Value) (q : Nat) (a b c d : Value) (j : Nat) : Value := if j = q * 4 + 3 then d else if j = q * 4 + 2 then c else if j = q * 4 + 1 then b else if j = q * 4 then a else F j
theorem set4_lt (F : Nat → Value) (q : Nat) (a b c d : Value) (k : Nat) (h : k < q * 4) : set4 F q a b c d k = F k := by unfold set4; rw [if_neg (by omega), if_neg (by omega), if_neg (by omega), if_neg (by omega)]
theorem set4_ge (F : Nat → Value) (q : Nat) (a b c d : Value) (k : Nat) (h : q * 4 + 4 ≤ k) : set4 F q a b c d k = F k := by unfold set4; rw [if_neg (by omega), if_neg (by omega), if_neg (by omega), if_neg (by omega)]
theorem set4_0 (F : Nat → Value) (q : Nat) (a b c d : Value) : set4 F q a b c d (q * 4) = a := by unfold set4; rw [if_neg (by omega), if_neg (by omega), if_neg (by omega), if_pos rfl]
theorem set4_1 (F : Nat → Value) (q : Nat) (a b c d : Value) : set4 F q a b c d (q * 4 + 1) = b := by unfold set4; rw [if_neg (by omega), if_neg (by omega), if_pos rfl]
theorem set4_2 (F : Nat → Value) (q : Nat) (a b c d : Value) : set4 F q a b c d (q * 4 + 2) = c := by unfold set4; rw [if_neg (by omega), if_pos rfl]
theorem set4_3 (F : Nat → Value) (q : Nat) (a b c d : Value) : set4 F q a b c d (q * 4 + 3) = d := by unfold set4; rw [if_pos rfl]
theorem row_set4 {w : World} {T N : Nat} {ty : TypeId} {F : Nat → Value} (h : w.rowIs T ty N F) (q : Nat) (a b c d : Value) : ((((w.setCell ⟨T, q * 4, none⟩ a).setCell ⟨T, q * 4 + 1, none⟩ b).setCell ⟨T, q * 4 + 2, none⟩ c).setCell ⟨T, q * 4 + 3, none⟩ d).rowIs T ty N (set4 F q a b c d) := (((h.set (q * 4) a).set (q * 4 + 1) b).set (q * 4 + 2) c).set (q * 4 + 3) d
theorem blk_set4 (w : World) (T i j k l : Nat) (a b c d : Value) {m : Nat} (hk : m ≠ T) : ((((w.setCell ⟨T, i, none⟩ a).setCell ⟨T, j, none⟩ b).setCell ⟨T, k, none⟩ c).setCell ⟨T, l, none⟩ d).heap[m]? = w.heap[m]? := by
  rw [blk_set2 _ T k l c d hk, blk_set2 w T i j a b hk]
theorem grow_set4 {w wr : World} {T : Nat} (h : w.grownBy wr none) (hT : w.heap.size ≤ T) (i j k l : Nat) (a b c d : Value) : w.grownBy ((((wr.setCell ⟨T, i, none⟩ a).setCell ⟨T, j, none⟩ b).setCell ⟨T, k, none⟩ c).setCell ⟨T, l, none⟩ d) none :=
  grow_set2 (grow_set2 h hT i j a b) hT k l c d
theorem size_set4 (w : World) (T i j k l : Nat) (a b c d : Value) : ((((w.setCell ⟨T, i, none⟩ a).setCell ⟨T, j, none⟩ b).setCell ⟨T, k, none⟩ c).setCell ⟨T, l, none⟩ d).heap.size = w.heap.size := by
  simp only [World.size_setCell]

theorem unit_end {w wB wo wr : World} {u : Un} {T Fb rb : Nat} {gs ls ps : Nat → Nat} {Ft Ff : Nat → Value} (hrb : rb = w.heap.size + 1) (hT : rb + 1 = T) (gb : w.grownBy wB none) (sb : wB.heap.size = T) (h1 : LT wo T u.texts gs Ft (· < u.texts.length + 5)) (g1 : wB.grownBy wo none) (hF : Fb = wo.heap.size)
    (h2 : LF wr Fb u.funcs ls ps Ff (· < u.funcs.length + 5)) (g2 : wo.grownBy wr none) (a b : Value) {e : Ending} (he : e = .returned (.agg #[.slice (some ⟨T, 0, none⟩) u.texts.length (u.texts.length + 5), .slice (some ⟨Fb, 0, none⟩) u.funcs.length (u.funcs.length + 5)])) :
    LendPost w u e ((wr.setCell ⟨rb, 0, none⟩ a).setCell ⟨rb, 1, none⟩ b).drew := by
  have hT' : wr.grownBy ((wr.setCell ⟨rb, 0, none⟩ a).setCell ⟨rb, 1, none⟩ b).drew (some rb) := grownBy_drew <| grownBy_trans (grownBy_set wr _ 0 _) (grownBy_set _ _ 1 _)
  have hTl := h1.blk.lt
  have hlt : ∀ j, j < u.texts.length → gs j < wo.heap.size ∧ T < gs j := fun j hj => by
    obtain ⟨⟨nm, d⟩, hx⟩ : ∃ x, u.texts[j]? = some x := ⟨_, List.getElem?_eq_getElem hj⟩
    exact ⟨(h1.tx j nm d (by omega) hx).2.2.lt, h1.lo j (by omega) hj⟩
  refine ⟨T, Fb, gs, ls, ps, Ft, Ff, he, ⟨⟨?_, ?_, ?_, ?_, ?_⟩, ⟨?_, ?_, ?_, ?_, ?_⟩, by omega, by omega, fun j hj => by have := hlt j hj; omega⟩, grow_new (grownBy_trans gb (grownBy_trans g1 g2)) hT' (by omega)⟩
  · exact row_kept (row_kept h1.blk g2 (by simp)) hT' (by intro e; injection e with e; omega)
  · intro j nm d _ hj
    have hjl := (List.getElem?_eq_some_iff.1 hj).1
    obtain ⟨a1, a2, a3⟩ := h1.tx j nm d (by omega) hj
    have := hlt j hjl
    exact ⟨a1, a2, row_kept (row_kept a3 g2 (by simp)) hT' (by intro e; injection e with e; omega)⟩
  · intro j _ h3 h4; exact h1.tm j h4 h3 h4
  · intro j _ h3; exact h1.lo j (by omega) h3
  · intro j j' _ _ h3 h4; exact h1.inj j j' (by omega) (by omega) h3 h4
  · exact row_kept h2.blk hT' (by intro e; injection e with e; omega)
  · intro j f _ hj
    have hjl := (List.getElem?_eq_some_iff.1 hj).1
    obtain ⟨a0, a1, a2, a3, a4⟩ := h2.fx j f (by omega) hj
    obtain ⟨l1, l2⟩ := h2.lo j (by omega) hjl
    exact ⟨a0, a1, a2, a3, lentF_kept a4 hT' (by intro e; injection e with e; omega) (by intro e; injection e with e; omega)⟩
  · intro j _ h3 h4; exact h2.fm j h4 h3 h4
  · intro j _ h3; exact h2.lo j (by omega) h3
  · intro j j' _ _ h3 h4; exact h2.inj j j' (by omega) (by omega) h3 h4

structure LSize (u : Un) : Prop where
  nt : u.texts.length ≤ 1000000000000
  nf : u.funcs.length ≤ 1000000000000
  t : ∀ x ∈ u.texts, x.2.length ≤ 1000000000000
  f : ∀ f ∈ u.funcs, f.locals.length ≤ 1000000000000 ∧ f.parts.length ≤ 1000000000000

set_option maxRecDepth 100000 in
set_option maxHeartbeats 8000000 in
theorem lend_any (u : Un) (hu : LSize u) (pt pf : Option Addr) (ct cf B : Nat) (w : World) (hU : UnitAt w B pt pf u) :
    Calls Try.prog 10 #[.agg #[.slice pt u.texts.length ct, .slice pf u.funcs.length cf]] w (LendPost w u) := by
  obtain ⟨ti, ti0, ti1, ti2, ti3⟩ := info_parts text_info2
  obtain ⟨fi, fi0, fi1, fi2, fi3⟩ := info_parts fn_info4
  have UU := Lib.hid hU
  have HU := Lib.hid hu
  have h1 := hu.nt
  have h2 := hu.nf
  have hni : (u.texts.length : Int) ≤ 1000000000000 := by omega
  have hmi : (u.funcs.length : Int) ≤ 1000000000000 := by omega
  clear hU hu
  go_enter Try.func10, Try.ntmps10
  go_wp2_with (at_make; refine wpList_make_at rfl _ _ 22 rfl 65 ti (.agg #[.string ⟨#[]⟩, .slice none 0 0]) 2 40 text_und2 ti0 ti1 ti2 ti3 (u.texts.length + 5) ((u.texts.length + 5) * 2) rfl _ rfl rfl (by omega) (by omega) (by omega) ?_; intro w1 r1 g1 l1; simp only [World.size_alloc] at r1 l1; have R1 := Lib.hid r1; have G1 := Lib.hid g1; clear r1 g1)
  have BX := Lib.hid (show BoxU ((w.alloc (.cells #[.slice pt u.texts.length ct, .slice pf u.funcs.length cf] 25)).alloc (.cells #[.slice none 0 0, .slice none 0 0] 25)) w.heap.size (.slice pt u.texts.length ct) (.slice pf u.funcs.length cf) from boxU_kept (boxU_new w _ _) (World.grownBy_alloc _ _ none) (by simp))
  have RB := Lib.hid (show ((w.alloc (.cells #[.slice pt u.texts.length ct, .slice pf u.funcs.length cf] 25)).alloc (.cells #[.slice none 0 0, .slice none 0 0] 25)).heap[w.heap.size + 1]? = some (.cells #[.slice none 0 0, .slice none 0 0] 25 (0, 0)) from by have h := heap_alloc_new (w.alloc (.cells #[.slice pt u.texts.length ct, .slice pf u.funcs.length cf] 25)) (.cells #[.slice none 0 0, .slice none 0 0] 25); rw [World.size_alloc] at h; exact h)
  have GB := Lib.hid (show w.grownBy ((w.alloc (.cells #[.slice pt u.texts.length ct, .slice pf u.funcs.length cf] 25)).alloc (.cells #[.slice none 0 0, .slice none 0 0] 25)) none from grownBy_trans (World.grownBy_alloc w _ none) (World.grownBy_alloc _ _ none))
  have SB := Lib.hid (show ((w.alloc (.cells #[.slice pt u.texts.length ct, .slice pf u.funcs.length cf] 25)).alloc (.cells #[.slice none 0 0, .slice none 0 0] 25)).heap.size = w.heap.size + 1 + 1 from by rw [World.size_alloc, World.size_alloc])
  generalize (w.alloc (.cells #[.slice pt u.texts.length ct, .slice pf u.funcs.length cf] 25)).alloc (.cells #[.slice none 0 0, .slice none 0 0] 25) = wB at *
  generalize hT0 : w.heap.size + 1 + 1 = T at *
  generalize hb0 : w.heap.size = b0 at *
  have HT0 := Lib.hid hT0
  have HB0 := Lib.hid hb0
  have hBb : B ≤ b0 := by have := UU.out.le; omega
  have nTb : ¬ b0 = T := by omega
  have nbT : ¬ T = b0 := by omega
  have HBB := Lib.hid hBb
  clear hT0 l1 hBb hb0
  go_loopw [4] (fun i wr => ∃ (q : Nat) (gs : Nat → Nat) (F : Nat → Value), i = .int .i64 q ∧ q ≤ u.texts.length + 5 ∧ LT wr T u.texts gs F (· < q) ∧ wB.grownBy wr none) (fun i _ => u.texts.length + 5 - (intOf i).toNat)
  case atStart => exact ⟨0, fun _ => 0, _, rfl, by omega, ⟨R1.out, fun j _ _ hs => absurd hs (Nat.not_lt_zero _), fun j hs => absurd hs (Nat.not_lt_zero _), fun j hs => absurd hs (Nat.not_lt_zero _), fun j _ hs => absurd hs (Nat.not_lt_zero _)⟩, G1.out⟩
  case round =>
    clear R1 G1
    obtain ⟨q, gs, F, rfl, hq, hT, hg⟩ := hrel
    have HT := Lib.hid hT
    have HG := Lib.hid hg
    have hbx := boxU_kept BX.out hg (by simp)
    have x0 := boxU_0 hbx
    have x1 := boxU_1 hbx
    have xl := boxU_lt hbx
    by_cases hlt : (q : Int) < (u.texts.length : Int) + 5
    · have c0 := hT.blk.cell (i := q * 2) (by omega)
      have c1 := hT.blk.cell (i := q * 2 + 1) (by omega)
      have z0 := hT.blk.frozen (q * 2)
      have z1 := hT.blk.frozen (q * 2 + 1)
      have l0 := hT.blk.lt
      have hTB : wB.heap.size ≤ T := by have := SB.out; omega
      have HTB := Lib.hid hTB
      clear hTB
      by_cases hlt2 : (q : Int) < (u.texts.length : Int)
      · obtain ⟨bt, ot, rfl, hbt, hct⟩ := UU.out.texts (by omega)
        obtain ⟨⟨nm, d⟩, hqd⟩ : ∃ x, u.texts[q]? = some x := ⟨_, List.getElem?_eq_getElem (by omega)⟩
        obtain ⟨e0, pd, cd, e1, hbd⟩ := hct q nm d hqd
        have HQD := Lib.hid hqd
        have hdl := HU.out.t _ (List.mem_of_getElem? hqd)
        have hGW := grownBy_trans GB.out hg
        have s0 := hGW.cell e0 (by simp)
        have s1 := hGW.cell e1 (by simp)
        have sl := World.block_lt_of_cell? _ _ s0
        have nb1 : ¬ bt = T := by have := HBB.out; have := HT0.out; omega
        have nb2 : ¬ T = bt := fun e => nb1 e.symm
        have nb3 : ¬ bt = b0 := by have := HBB.out; omega
        have LB := Lib.hid (fun (W : World) (g : w.grownBy W none) => lend_bytes d pd cd B W hdl (Nat.le_trans UU.out.le g.size) (bytesB_kept hbd g (by simp)))
        have GW := Lib.hid hGW
        clear hT hg hbx hct hbt e0 e1 hbd hqd hGW x1
        go_wp2
        have PA := ld_set x0 s0 s1 xl sl nTb nb1 (q * 2) (q * 2 + 1) (.string markS) (.slice none 0 0)
        have PR := Lib.hid (row_set2 HT.out.blk q (.string markS) (.slice none 0 0))
        have PG := Lib.hid (grow_set2 (T := T) HG.out HTB.out (q * 2) (q * 2 + 1) (.string markS) (.slice none 0 0))
        have PW := Lib.hid (grow_set2 (T := T) GW.out (by have := HT0.out; have := HB0.out; omega) (q * 2) (q * 2 + 1) (.string markS) (.slice none 0 0))
        have PK := Lib.hid (fun (k : Nat) (hne : k ≠ T) => blk_set2 wr T (q * 2) (q * 2 + 1) (.string markS) (.slice none 0 0) (k := k) hne)
        have PZ := Lib.hid (show ((wr.setCell ⟨T, q * 2, none⟩ (.string markS)).setCell ⟨T, q * 2 + 1, none⟩ (.slice none 0 0)).heap.size = wr.heap.size from by rw [World.size_setCell, World.size_setCell])
        clear x0 s0 s1 xl sl c0 c1 z0 z1 l0
        obtain ⟨p0, p1, p2, p3, p4⟩ := PA
        generalize (wr.setCell ⟨T, q * 2, none⟩ (.string markS)).setCell ⟨T, q * 2 + 1, none⟩ (.slice none 0 0) = W at *
        go_region_held3 (fun W' => W'.cell? ⟨b0, 0, none⟩ = some (.slice (some ⟨bt, ot, none⟩) u.texts.length ct) ∧ W'.cell? ⟨bt, ot + q * 2, none⟩ = some (.string nm) ∧ W'.cell? ⟨bt, ot + q * 2 + 1, none⟩ = some (.slice pd d.length cd) ∧ b0 < W'.heap.size ∧ bt < W'.heap.size) (first | exact ⟨by assumption, by assumption, by assumption, by assumption, by assumption⟩ | exact ld_set (by assumption) (by assumption) (by assumption) (by assumption) (by assumption) nTb nb1 _ _ _ _) (first | (go_at_call 25; refine (LB.out _ (grownBy_drew PW.out)).mono ?_; rintro e w2 ⟨rfl, r2, g2, l2⟩; have g2 : W.grownBy w2 none := grownBy_trans (grownBy_drew (grownBy_refl W none)) g2; have c0 := (row_kept PR.out g2 (by simp)).cell (i := q * 2) (by omega); have c1 := (row_kept PR.out g2 (by simp)).cell (i := q * 2 + 1) (by omega); have z0 := (row_kept PR.out g2 (by simp)).frozen (q * 2); have z1 := (row_kept PR.out g2 (by simp)).frozen (q * 2 + 1); have l0 := (row_kept PR.out g2 (by simp)).lt; have R2 := Lib.hid r2; have G2 := Lib.hid g2; have k0 := g2.cell p0 (by simp); have k1 := g2.cell p1 (by simp); have k2 := g2.cell p2 (by simp); have k3 := Nat.lt_of_lt_of_le p3 g2.size; have k4 := Nat.lt_of_lt_of_le p4 g2.size; clear r2 g2 l2))
        go_wp2
        go_roundw
        case rel => exact ⟨q + 1, _, _, by go_num, by omega, lt_text HT.out HQD.out (row_set2 (row_kept PR.out G2.out (by simp)) q (.string nm) _) (fun c hc => by rw [set2_lt _ _ _ _ _ hc, set2_lt _ _ _ _ _ hc]) (set2_0 _ _ _ _) (set2_1 _ _ _ _) (fun k hk hne => by rw [blk_set2 w2 T _ _ _ _ hne, G2.out.block k (by rw [PZ.out]; exact hk) (by simp), PK.out k hne]) (R2.out.of_block (blk_set2 w2 T _ _ _ _ (show W.heap.size ≠ T by have := PR.out.lt; omega))) (show wr.heap.size ≤ W.heap.size by have := PZ.out; omega), grow_set2 (grownBy_trans PG.out G2.out) HTB.out _ _ _ _⟩
        case measure => simp [intOf]; omega
      · clear hT hg hbx x1
        go_wp2
        go_roundw
        case rel => exact ⟨q + 1, gs, _, by go_num, by omega, lt_mark HT.out (by omega) (row_set2 HT.out.blk q (.string markS) (.slice none 0 0)) (set2_lt _ _ _ _) (set2_0 _ _ _ _) (set2_1 _ _ _ _) (fun k _ hne => blk_set2 wr T _ _ _ _ hne), grow_set2 HG.out HTB.out _ _ _ _⟩
        case measure => simp [intOf]; omega
    · have hqe : q = u.texts.length + 5 := by omega
      subst hqe
      clear hT hg hbx x0
      obtain ⟨wo, hwo⟩ : ∃ wo, wo = wr := ⟨_, rfl⟩
      subst hwo
      go_wp2_with (at_make; refine wpList_make_at rfl _ _ 23 rfl 69 fi (.agg #[.string ⟨#[]⟩, .int .i64 0, .slice none 0 0, .slice none 0 0]) 4 72 fn_und4 fi0 fi1 fi2 fi3 (u.funcs.length + 5) ((u.funcs.length + 5) * 4) rfl _ rfl rfl (by omega) (by omega) (by omega) ?_; intro w1 r1 g1 l1; have R1 := Lib.hid r1; have G1 := Lib.hid g1; clear r1 g1 l1)
      have HLP := Lib.hid (show T < wo.heap.size from HT.out.blk.lt)
      generalize hFb : wo.heap.size = Fb at *
      have HFB := Lib.hid hFb
      clear hFb x1 xl
      go_loopw [6] (fun i wr => ∃ (q : Nat) (ls ps : Nat → Nat) (F : Nat → Value), i = .int .i64 q ∧ q ≤ u.funcs.length + 5 ∧ LF wr Fb u.funcs ls ps F (· < q) ∧ wo.grownBy wr none) (fun i _ => u.funcs.length + 5 - (intOf i).toNat)
      case atStart => exact ⟨0, fun _ => 0, fun _ => 0, _, rfl, by omega, ⟨R1.out, fun j _ hs => absurd hs (Nat.not_lt_zero _), fun j hs => absurd hs (Nat.not_lt_zero _), fun j hs => absurd hs (Nat.not_lt_zero _), fun j _ hs => absurd hs (Nat.not_lt_zero _)⟩, G1.out⟩
      case round =>
        clear R1 G1
        obtain ⟨q, ls, ps, F2, rfl, hq, hF, hg⟩ := hrel
        have HF := Lib.hid hF
        have HG2 := Lib.hid hg
        have hGT := grownBy_trans HG.out hg
        have hbx := boxU_kept BX.out hGT (by simp)
        have x0 := boxU_0 hbx
        have x1 := boxU_1 hbx
        have xl := boxU_lt hbx
        have hFB : wo.heap.size ≤ Fb := by have := HFB.out; omega
        have HFL := Lib.hid hFB
        have nFb : ¬ b0 = Fb := by have := HLP.out; have := HT0.out; have := HFB.out; omega
        have nbF : ¬ Fb = b0 := fun e => nFb e.symm
        clear hFB
        by_cases hlt : (q : Int) < (u.funcs.length : Int) + 5
        · have c0 := hF.blk.cell (i := q * 4) (by omega)
          have c1 := hF.blk.cell (i := q * 4 + 1) (by omega)
          have c2 := hF.blk.cell (i := q * 4 + 2) (by omega)
          have c3 := hF.blk.cell (i := q * 4 + 3) (by omega)
          have z0 := hF.blk.frozen (q * 4)
          have z1 := hF.blk.frozen (q * 4 + 1)
          have z2 := hF.blk.frozen (q * 4 + 2)
          have z3 := hF.blk.frozen (q * 4 + 3)
          have l0 := hF.blk.lt
          by_cases hlt2 : (q : Int) < (u.funcs.length : Int)
          · obtain ⟨bF, oF, rfl, hbF, hcF⟩ := UU.out.funcs (by omega)
            obtain ⟨f, hqf⟩ : ∃ x, u.funcs[q]? = some x := ⟨_, List.getElem?_eq_getElem (by omega)⟩
            obtain ⟨e0, e1, ⟨pl, cl, e2, hsl⟩, ⟨pp, cp, e3, hsp⟩⟩ := hcF q f hqf
            have HQF := Lib.hid hqf
            have hfl := HU.out.f f (List.mem_of_getElem? hqf)
            have hGW := grownBy_trans GB.out hGT
            have s0 := hGW.cell e0 (by simp)
            have s1 := hGW.cell e1 (by simp)
            have s2 := hGW.cell e2 (by simp)
            have s3 := hGW.cell e3 (by simp)
            have sl := World.block_lt_of_cell? _ _ s0
            have nb1 : ¬ bF = Fb := by have := HBB.out; have := HLP.out; have := HT0.out; have := HFB.out; omega
            have nb2 : ¬ Fb = bF := fun e => nb1 e.symm
            have LB := Lib.hid (fun (W : World) (g : w.grownBy W none) => lend_fn f pl pp cl cp B W hfl.1 hfl.2 (Nat.le_trans UU.out.le g.size) (strsB_kept hsl g (by simp)) (partsB_kept hsp g (by simp)))
            have GW := Lib.hid hGW
            have HWF := Lib.hid (show w.heap.size ≤ Fb by have := HLP.out; have := HT0.out; have := HB0.out; have := HFB.out; omega)
            clear hF hg hbx hcF hbF e0 e1 e2 e3 hqf hGW x0 hGT hfl hsl hsp
            go_wp2_with (go_at_call 26; refine (LB.out _ (grow_set4 GW.out HWF.out _ _ _ _ _ _ _ _)).mono ?_; intro e w2 hp; obtain ⟨gl, gp, rfl, hlf, g2, k1, k2, k3⟩ := hp; have ROW := Lib.hid (row_kept (row_set4 HF.out.blk q (.string markS) (.int .i64 0) (.slice none 0 0) (.slice none 0 0)) g2 (by simp)); have c0 := ROW.out.cell (i := q * 4) (by omega); have c1 := ROW.out.cell (i := q * 4 + 1) (by omega); have c2 := ROW.out.cell (i := q * 4 + 2) (by omega); have c3 := ROW.out.cell (i := q * 4 + 3) (by omega); have z0 := ROW.out.frozen (q * 4); have z1 := ROW.out.frozen (q * 4 + 1); have z2 := ROW.out.frozen (q * 4 + 2); have z3 := ROW.out.frozen (q * 4 + 3); have l0 := ROW.out.lt; have FP := Lib.hid hlf; have G2 := Lib.hid g2; rw [size_set4] at k1; have K1 := Lib.hid k1; have K2 := Lib.hid k2; clear hlf g2 k1 k2 k3)
            go_roundw
            case rel => exact ⟨q + 1, _, _, _, by go_num, by omega, lf_fun HF.out HQF.out (row_set4 ROW.out q _ _ _ _) (fun c hc => by rw [set4_lt _ _ _ _ _ _ _ hc, set4_lt _ _ _ _ _ _ _ hc]) (set4_0 _ _ _ _ _ _) (set4_1 _ _ _ _ _ _) (set4_2 _ _ _ _ _ _) (set4_3 _ _ _ _ _ _) (fun k hk hne => by rw [blk_set4 w2 Fb _ _ _ _ _ _ _ _ hne, G2.out.block k (by rw [size_set4]; exact hk) (by simp), blk_set4 wr Fb _ _ _ _ _ _ _ _ hne]) ⟨FP.out.rl.of_block (blk_set4 w2 Fb _ _ _ _ _ _ _ _ (by have := HF.out.blk.lt; have := K1.out; omega)), FP.out.rp.of_block (blk_set4 w2 Fb _ _ _ _ _ _ _ _ (by have := HF.out.blk.lt; have := K1.out; have := K2.out; omega))⟩ K1.out K2.out, grow_set4 (grownBy_trans (grow_set4 HG2.out HFL.out _ _ _ _ _ _ _ _) G2.out) HFL.out _ _ _ _ _ _ _ _⟩
            case measure => simp [intOf]; omega
          · clear hF hg hbx x0 hGT
            go_wp2
            go_roundw
            case rel => exact ⟨q + 1, ls, ps, _, by go_num, by omega, lf_mark HF.out (by omega) (row_set4 HF.out.blk q (.string markS) (.int .i64 0) (.slice none 0 0) (.slice none 0 0)) (set4_lt _ _ _ _ _ _) (set4_0 _ _ _ _ _ _) (set4_1 _ _ _ _ _ _) (set4_2 _ _ _ _ _ _) (set4_3 _ _ _ _ _ _) (fun k _ hne => blk_set4 wr Fb _ _ _ _ _ _ _ _ hne), grow_set4 HG2.out HFL.out _ _ _ _ _ _ _ _⟩
            case measure => simp [intOf]; omega
        · have hqe : q = u.funcs.length + 5 := by omega
          subst hqe
          have hrb := blk_moved RB.out hGT (by simp)
          have r0 := cell_of_row wr _ 0 _ _ _ hrb
          have r1 := cell_of_row wr _ 1 _ _ _ hrb
          have y0 := frozen_of_row wr _ 0 _ _ hrb
          have y1 := frozen_of_row wr _ 1 _ _ hrb
          have rl := (Array.getElem?_eq_some_iff.1 hrb).1
          clear hF hg hbx hrb hGT
          generalize hrbb : b0 + 1 = rb at *
          have HRB := Lib.hid hrbb
          have nrb : ¬ rb = b0 := by omega
          have nrb2 : ¬ b0 = rb := by omega
          clear hrbb
          go_wp2
          go_region
          go_wp2
          refine bodyPost_ret (v := .agg #[.slice (some ⟨T, 0, none⟩) u.texts.length (u.texts.length + 5), .slice (some ⟨Fb, 0, none⟩) u.funcs.length (u.funcs.length + 5)]) ?_ rfl ?_
          · rw [results_cellL rfl]
            go_simp
          · exact unit_end (by have := HRB.out; have := HB0.out; omega) HT0.out GB.out SB.out HT.out HG.out HFB.out.symm HF.out HG2.out _ _ rfl

end Go.Proofs.Ytecaolkbllbokaa.TG

namespace Go.Proofs.Ytecaolkbllbokaa.TG
open Go.RowKit Go.Great
set_option linter.unusedSimpArgs false
set_option linter.unusedVariables false

def farT : List (ByteArray × List Int) → Int → Int
  | [], n => n
  | x :: r, n => if n ≤ 1048576 then farT r (n + x.2.length) else n
def farF : List Fun → Int → Int
  | [], n => n
  | f :: r, n => if n ≤ 1048576 then farF r (n + f.parts.length + f.locals.length) else n
def farB (u : Un) : Bool := if 4096 < u.texts.length + u.funcs.length then true else decide (1048576 < farF u.funcs (farT u.texts 0))

theorem farT_far : ∀ (l : List (ByteArray × List Int)) (n : Int), ¬ n ≤ 1048576 → farT l n = n
  | [], n, _ => rfl
  | x :: r, n, h => by rw [farT, if_neg h]
theorem farF_far : ∀ (l : List Fun) (n : Int), ¬ n ≤ 1048576 → farF l n = n
  | [], n, _ => rfl
  | x :: r, n, h => by rw [farF, if_neg h]
theorem farT_drop {l : List (ByteArray × List Int)} {q : Nat} {x : ByteArray × List Int} {n : Int} (h : l[q]? = some x) (hn : n ≤ 1048576) : farT (l.drop q) n = farT (l.drop (q + 1)) (n + x.2.length) := by
  obtain ⟨hl, rfl⟩ := List.getElem?_eq_some_iff.1 h
  rw [List.drop_eq_getElem_cons hl, farT, if_pos hn]
theorem farF_drop {l : List Fun} {q : Nat} {f : Fun} {n : Int} (h : l[q]? = some f) (hn : n ≤ 1048576) : farF (l.drop q) n = farF (l.drop (q + 1)) (n + f.parts.length + f.locals.length) := by
  obtain ⟨hl, rfl⟩ := List.getElem?_eq_some_iff.1 h
  rw [List.drop_eq_getElem_cons hl, farF, if_pos hn]

set_option maxRecDepth 100000 in
set_option maxHeartbeats 8000000 in
theorem far_any (u : Un) (hu : LSize u) (pt pf : Option Addr) (ct cf B : Nat) (w : World) (hU : UnitAt w B pt pf u) :
    Calls Try.prog 8 #[.agg #[.slice pt u.texts.length ct, .slice pf u.funcs.length cf]] w fun e w' => e = .returned (.bool (farB u)) ∧ w.grownBy w' none := by
  have UU := Lib.hid hU
  have HU := Lib.hid hu
  have h1 := hu.nt
  have h2 := hu.nf
  have hni : (u.texts.length : Int) ≤ 1000000000000 := by omega
  have hmi : (u.funcs.length : Int) ≤ 1000000000000 := by omega
  have GB := Lib.hid (World.grownBy_alloc w (.cells #[.slice pt u.texts.length ct, .slice pf u.funcs.length cf] 25) none)
  have BX := Lib.hid (boxU_new w (.slice pt u.texts.length ct) (.slice pf u.funcs.length cf))
  have b0 := boxU_0 BX.out
  have b1 := boxU_1 BX.out
  have bl := boxU_lt BX.out
  clear hU hu
  by_cases hbig : (4096 : Int) < (u.texts.length : Int) + (u.funcs.length : Int)
  · go_enter Try.func8, Try.ntmps8
    go_wp2
    go_ret
    refine ⟨?_, GB.out⟩
    unfold farB
    rw [if_pos (by omega)]
    rfl
  · go_enter Try.func8, Try.ntmps8
    go_wp2
    go_loopw [3, 4] (fun n i wr => ∃ (q : Nat) (m : Int), i = .int .i64 q ∧ n = .int .i64 m ∧ q ≤ u.texts.length ∧ 0 ≤ m ∧ m ≤ 4000000000000 ∧ farT (u.texts.drop q) m = farT u.texts 0 ∧ (w.alloc (.cells #[.slice pt u.texts.length ct, .slice pf u.funcs.length cf] 25)).grownBy wr none) (fun _ i _ => u.texts.length - (intOf i).toNat)
    case atStart => exact ⟨0, 0, rfl, rfl, Nat.zero_le _, Int.le_refl _, by decide, rfl, grownBy_refl _ _⟩
    case round =>
      clear b0 b1 bl
      obtain ⟨q, m, rfl, rfl, hq, hm0, hm1, hfar, hg⟩ := hrel
      have HG := Lib.hid hg
      have HFAR := Lib.hid hfar
      have hbx := boxU_kept BX.out hg (by simp)
      have x0 := boxU_0 hbx
      have x1 := boxU_1 hbx
      have xl := boxU_lt hbx
      by_cases hlt : (q : Int) < (u.texts.length : Int)
      · by_cases hm : m ≤ 1048576
        · obtain ⟨bt, ot, rfl, hbt, hct⟩ := UU.out.texts (by omega)
          obtain ⟨⟨nm, d⟩, hqd⟩ : ∃ x, u.texts[q]? = some x := ⟨_, List.getElem?_eq_getElem (by omega)⟩
          obtain ⟨e0, pd, cd, e1, hbd⟩ := hct q nm d hqd
          have HQD := Lib.hid hqd
          have hdl := HU.out.t _ (List.mem_of_getElem? hqd)
          simp only [] at hdl
          have hdi : (d.length : Int) ≤ 1000000000000 := by omega
          have s1 := hg.cell (GB.out.cell e1 (by simp)) (by simp)
          have sl := World.block_lt_of_cell? _ _ s1
          clear hg hfar hbx hct hbt e0 e1 hbd hqd
          go_wp2
          go_roundw
          case rel => exact ⟨q + 1, m + d.length, by go_num, by go_num, by omega, by omega, by omega, by rw [← HFAR.out]; exact (farT_drop HQD.out hm).symm, HG.out⟩
          case measure => simp [intOf]; omega
        · have hfe : farT u.texts 0 = m := by rw [← hfar]; exact farT_far _ _ hm
          have HFE := Lib.hid hfe
          have HMM := Lib.hid (show farF u.funcs (farT u.texts 0) = m from by rw [hfe]; exact farF_far _ _ hm)
          clear hg hfar hbx hfe
          go_wp2
          go_loopw [3, 5] (fun n i wr => i = .int .i64 0 ∧ n = .int .i64 m ∧ (w.alloc (.cells #[.slice pt u.texts.length ct, .slice pf u.funcs.length cf] 25)).grownBy wr none) (fun _ i _ => 0)
          case atStart => exact ⟨rfl, rfl, HG.out⟩
          case round =>
            clear HG x0 x1 xl
            obtain ⟨rfl, rfl, hg⟩ := hrel
            have HG := Lib.hid hg
            have hbx := boxU_kept BX.out hg (by simp)
            have x0 := boxU_0 hbx
            have x1 := boxU_1 hbx
            have xl := boxU_lt hbx
            clear hg hbx
            by_cases hf0 : (0 : Int) < (u.funcs.length : Int)
            · go_wp2
              go_ret
              refine ⟨?_, grownBy_trans GB.out HG.out⟩
              unfold farB
              rw [if_neg (by omega), HMM.out]
              have : decide (1048576 < m) = true := by simp; omega
              rw [this]; rfl
            · go_wp2
              go_ret
              refine ⟨?_, grownBy_trans GB.out HG.out⟩
              unfold farB
              rw [if_neg (by omega), HMM.out]
              have : decide (1048576 < m) = true := by simp; omega
              rw [this]; rfl
      · have hqe : q = u.texts.length := by omega
        subst hqe
        have hfe : farT u.texts 0 = m := by rw [← hfar, List.drop_length]; rfl
        have HFE := Lib.hid hfe
        clear hg hfar hbx hfe
        go_wp2
        go_loopw [3, 5] (fun n i wr => ∃ (q : Nat) (m2 : Int), i = .int .i64 q ∧ n = .int .i64 m2 ∧ q ≤ u.funcs.length ∧ 0 ≤ m2 ∧ m2 ≤ 8000000000000 ∧ farF (u.funcs.drop q) m2 = farF u.funcs m ∧ (w.alloc (.cells #[.slice pt u.texts.length ct, .slice pf u.funcs.length cf] 25)).grownBy wr none) (fun _ i _ => u.funcs.length - (intOf i).toNat)
        case atStart => exact ⟨0, m, rfl, rfl, Nat.zero_le _, hm0, by omega, rfl, HG.out⟩
        case round =>
          clear HG x0 x1 xl
          obtain ⟨q, m2, rfl, rfl, hq2, hm20, hm21, hfar, hg⟩ := hrel
          have HG := Lib.hid hg
          have HFAR := Lib.hid hfar
          have hbx := boxU_kept BX.out hg (by simp)
          have x0 := boxU_0 hbx
          have x1 := boxU_1 hbx
          have xl := boxU_lt hbx
          by_cases hlt2 : (q : Int) < (u.funcs.length : Int)
          · by_cases hm : m2 ≤ 1048576
            · obtain ⟨bF, oF, rfl, hbF, hcF⟩ := UU.out.funcs (by omega)
              obtain ⟨f, hqf⟩ : ∃ x, u.funcs[q]? = some x := ⟨_, List.getElem?_eq_getElem (by omega)⟩
              obtain ⟨e0, e1, ⟨pl, cl, e2, hsl⟩, ⟨pp, cp, e3, hsp⟩⟩ := hcF q f hqf
              have HQF := Lib.hid hqf
              obtain ⟨hf1, hf2⟩ := HU.out.f f (List.mem_of_getElem? hqf)
              have hf1i : (f.locals.length : Int) ≤ 1000000000000 := by omega
              have hf2i : (f.parts.length : Int) ≤ 1000000000000 := by omega
              have s2 := hg.cell (GB.out.cell e2 (by simp)) (by simp)
              have s3 := hg.cell (GB.out.cell e3 (by simp)) (by simp)
              have sl := World.block_lt_of_cell? _ _ s2
              clear hg hfar hbx hcF hbF e0 e1 e2 e3 hsl hsp hqf
              go_wp2
              go_quiet (fail)
              go_wp2
              go_roundw
              case rel => exact ⟨q + 1, m2 + f.parts.length + f.locals.length, by go_num, by go_num, by omega, by omega, by omega, by rw [← HFAR.out]; exact (farF_drop HQF.out hm).symm, grownBy_drewN' HG.out _⟩
              case measure => simp [intOf]; omega
            · have hfe : farF u.funcs m = m2 := by rw [← hfar]; exact farF_far _ _ hm
              have HFE2 := Lib.hid hfe
              clear hg hfar hbx hfe
              go_wp2
              go_ret
              refine ⟨?_, grownBy_trans GB.out HG.out⟩
              unfold farB
              rw [if_neg (by omega), HFE.out, HFE2.out]
              have : decide (1048576 < m2) = true := by simp; omega
              first | (rw [this]; rfl) | rfl
          · have hqe : q = u.funcs.length := by omega
            subst hqe
            have hfe : farF u.funcs m = m2 := by rw [← hfar, List.drop_length]; rfl
            have HFE2 := Lib.hid hfe
            clear hg hfar hbx hfe
            go_wp2
            go_ret
            refine ⟨?_, grownBy_trans GB.out HG.out⟩
            unfold farB
            rw [if_neg (by omega), HFE.out, HFE2.out]
            rfl

theorem own_get {w : World} {base : Nat} {e : TypeId} {n : Nat} {v : Value} {xs : List Value} (h : w.ownsRow base e 1 v n xs) (h0 : 0 < n) : ∃ g cap, v = .slice (some ⟨g, 0, none⟩) n cap ∧ g < w.heap.size ∧ ∀ j x, xs[j]? = some x → j < n → w.cell? ⟨g, j, none⟩ = some x := by
  obtain ⟨m, rfl⟩ : ∃ m, n = m + 1 := ⟨n - 1, by omega⟩
  obtain ⟨g, cap, rfl⟩ := own_succ h
  exact ⟨g, cap, rfl, (h.lt g rfl).2, fun j x hx hj => by rw [h.cellAt _ (by omega)]; exact hx⟩

set_option maxRecDepth 100000 in
set_option maxHeartbeats 4000000 in
theorem same_ints (l : List Int) (va vb : Value) (ba bb : Nat) (w : World) (hl : l.length ≤ 1000000000000) (ha : w.ownsRow ba 3 1 va l.length (l.map (Value.int .i64))) (hb : w.ownsRow bb 3 1 vb l.length (l.map (Value.int .i64))) :
    Calls Try.prog 17 #[va, vb] w fun e w' => e = .returned (.bool true) ∧ w.grownBy w' none := by
  obtain ⟨pa, ca, rfl⟩ := own_slice ha
  obtain ⟨pb, cb, rfl⟩ := own_slice hb
  have HA := Lib.hid ha
  have HB := Lib.hid hb
  have hli : (l.length : Int) ≤ 1000000000000 := by omega
  clear ha hb
  go_enter Try.func17, Try.ntmps17
  go_wp2
  go_loopw [5] (fun i wr => ∃ q : Nat, i = .int .i64 q ∧ q ≤ l.length ∧ w.grownBy wr none) (fun i _ => l.length - (intOf i).toNat)
  case atStart => exact ⟨0, rfl, Nat.zero_le _, grownBy_refl _ _⟩
  case round =>
    obtain ⟨q, rfl, hq, hg⟩ := hrel
    have HG := Lib.hid hg
    by_cases hlt : (q : Int) < (l.length : Int)
    · obtain ⟨x, hx⟩ : ∃ x, l[q]? = some x := ⟨_, List.getElem?_eq_getElem (by omega)⟩
      obtain ⟨ga, ka, ea, la, ha⟩ := own_get HA.out (by omega)
      obtain ⟨gb, kb, eb, lb, hb⟩ := own_get HB.out (by omega)
      injection ea with ea1 ea2 ea3
      injection eb with eb1 eb2 eb3
      subst ea1; subst eb1
      have hxv : (l.map (Value.int .i64))[q]? = some (.int .i64 x) := by rw [List.getElem?_map, hx]; rfl
      have c0 := hg.cell (ha q _ hxv (by omega)) (by simp)
      have c1 := hg.cell (hb q _ hxv (by omega)) (by simp)
      have l0 := World.block_lt_of_cell? _ _ c0
      have l1 := World.block_lt_of_cell? _ _ c1
      clear hg ha hb hxv hx la lb ea2 ea3 eb2 eb3
      go_wp2
      go_quiet (fail)
      go_wp2
      go_roundw
      case rel => exact ⟨q + 1, by go_num, by omega, grownBy_drewN' HG.out _⟩
      case measure => simp [intOf]; omega
    · have hqe : q = l.length := by omega
      subst hqe
      clear hg
      go_wp2
      go_ret
      exact ⟨rfl, HG.out⟩

end Go.Proofs.Ytecaolkbllbokaa.TG

namespace Go.Proofs.Ytecaolkbllbokaa.TG
open Go.RowKit Go.Great
set_option linter.unusedSimpArgs false
set_option linter.unusedVariables false

theorem byte_und9 : Try.prog.underlying 5 = some (.int .u8) := by kernel_rfl
theorem str_und9 : Try.prog.underlying 9 = some .string := by kernel_rfl

theorem conv_bytes {w : World} {B : Nat} {pd : Option Addr} {d : List Int} (h : BytesB w B pd d) (cd : Nat) : (convert 29 9 (.slice pd d.length cd)).run Try.prog w = .ok (.string (strOfNums d)) w := by
  rcases Nat.eq_zero_or_pos d.length with h0 | h0
  · have hd : d = [] := List.length_eq_zero_iff.1 h0
    subst hd
    cases pd with
    | none => exact run_convert_bytes_nil w _ _ byte_und2 byte_und9 _ _ _ str_und9
    | some ad =>
      have hl : (loadCells ad 0).run Try.prog w = .ok (([] : List Int).map (Value.int .u8)).toArray w := by simpa using run_loadCells_list (P := Try.prog) w ad [] (by simp)
      rw [run_convert_bytes_string w _ _ _ _ _ cd byte_und2 byte_und9 str_und9]
      rw [show (([] : List Int).length) = 0 from rfl, run_bytesToString w ad 0 cd [] hl]
      rfl
  · obtain ⟨b, o, rfl, hb, hc⟩ := h h0
    exact run_convert_bytes_arg w _ _ byte_und2 byte_und9 b o d.length cd d rfl hc _ str_und9

theorem conv_lent {w : World} {g : Nat} {d : List Int} (h : w.rowIs g 5 (d.length + 67) (lendB d)) (cd : Nat) : (convert 29 9 (.slice (some ⟨g, 0, none⟩) d.length cd)).run Try.prog w = .ok (.string (strOfNums d)) w :=
  run_convert_bytes_arg w _ _ byte_und2 byte_und9 g 0 d.length cd d rfl (fun i hi => by
    rw [Nat.zero_add, h.cell (by omega)]
    unfold lendB; rw [if_pos hi]) _ str_und9

set_option maxRecDepth 100000 in
set_option maxHeartbeats 4000000 in
theorem kept_bytes (d : List Int) (pd : Option Addr) (cd B g : Nat) (w : World) (hl : d.length ≤ 1000000000000) (hd : BytesB w B pd d) (hr : w.rowIs g 5 (d.length + 67) (lendB d)) :
    Calls Try.prog 31 #[.slice (some ⟨g, 0, none⟩) d.length (d.length + 67), .slice pd d.length cd] w fun e w' => e = .returned (.bool true) ∧ w.grownBy w' (some g) := by
  have HR := Lib.hid hr
  have hli : (d.length : Int) ≤ 1000000000000 := by omega
  have k1 := conv_bytes hd cd
  have k2 := conv_lent hr (d.length + 67)
  clear hd hr
  go_enter Try.func31, Try.ntmps31
  go_wp2
  go_loopw [5, 7] (fun v i wr => ∃ q : Nat, i = .int .i64 q ∧ v = .bool true ∧ d.length ≤ q ∧ q ≤ d.length + 67 ∧ w.grownBy wr none) (fun _ i _ => d.length + 67 - (intOf i).toNat)
  case atStart => exact ⟨d.length, rfl, rfl, Nat.le_refl _, by omega, grownBy_refl _ _⟩
  case round =>
    obtain ⟨q, rfl, rfl, hq1, hq2, hg⟩ := hrel
    have HG := Lib.hid hg
    have hr := row_kept HR.out hg (by simp)
    clear k1 k2
    by_cases hlt : (q : Int) < (d.length : Int) + 67
    · have c0 := hr.cell (i := q) (by omega)
      have e0 : lendB d q = .int .u8 169 := by unfold lendB; rw [if_neg (by omega)]
      rw [e0] at c0
      have l0 := hr.lt
      clear hr hg e0
      go_wp2
      go_roundw
      case rel => exact ⟨q + 1, by go_num, rfl, by omega, by omega, HG.out⟩
      case measure => simp [intOf]; omega
    · have hqe : q = d.length + 67 := by omega
      subst hqe
      have HR2 := Lib.hid hr
      clear hr hg
      go_wp2
      obtain ⟨wo, hwo⟩ : ∃ wo, wo = wr := ⟨_, rfl⟩
      subst hwo
      go_loopw [8] (fun i wr => ∃ (q : Nat) (F : Nat → Value), i = .int .i64 q ∧ q ≤ d.length + 67 ∧ wr.rowIs g 5 (d.length + 67) F ∧ w.grownBy wr (some g)) (fun i _ => d.length + 67 - (intOf i).toNat)
      case atStart => exact ⟨0, _, rfl, Nat.zero_le _, HR2.out, grow_w HG.out⟩
      case round =>
        obtain ⟨q, F, rfl, hq, hr, hg⟩ := hrel
        have HR3 := Lib.hid hr
        have HG3 := Lib.hid hg
        by_cases hlt2 : (q : Int) < (d.length : Int) + 67
        · have c0 := hr.cell (i := q) (by omega)
          have z0 := hr.frozen q
          have l0 := hr.lt
          clear hr hg
          go_wp2
          go_roundw
          case rel => exact ⟨q + 1, _, by go_num, by omega, HR3.out.set q _, grownBy_trans HG3.out (grownBy_set wr g q _)⟩
          case measure => simp [intOf]; omega
        · clear hr hg
          go_wp2
          go_ret
          exact ⟨rfl, HG3.out⟩

theorem row_sp {P : Nat → Prop} {w w' : World} {b n : Nat} {t : TypeId} {f : Nat → Value} (h : w.rowIs b t n f) (g : Sp P w w') (hp : ¬ P b) : w'.rowIs b t n f := h.of_block (g.block b h.lt hp)
theorem sp_set {P : Nat → Prop} {w wr : World} {b i : Nat} {v : Value} (h : Sp P w wr) (hb : P b) : Sp P w (wr.setCell ⟨b, i, none⟩ v) :=
  sp_trans h (sp_grown (P := P) (grownBy_set wr b i v) fun k _ e => by injection e with e; exact e ▸ hb) (fun _ _ h => h)
def PT (lo hi k : Nat) : Prop := lo ≤ k ∧ k < hi

end Go.Proofs.Ytecaolkbllbokaa.TG

namespace Go.Proofs.Ytecaolkbllbokaa.TG
open Go.RowKit Go.Great
set_option linter.unusedSimpArgs false
set_option linter.unusedVariables false

set_option maxRecDepth 100000 in
set_option maxHeartbeats 4000000 in
theorem branch_three (c : Cx) (ok : CxOK c) (g : Nat) (hI : WCon c g) (s : Stt) (at_ : Nat) (w : World) (n : Int) (hp : c.ps[at_]? = some (5, n, 3)) (h1 : okP c.ts.length c.ps g s.L.length (at_ + 1)) (h2 : okP c.ts.length c.ps g s.L.length (skipS c.ps g (at_ + 1)))
    (h3 : okP c.ts.length c.ps g s.L.length (skipS c.ps g (skipS c.ps g (at_ + 1)))) (h : AtS c w s) (hb : s.out.length + 8 * (c.ps.length - at_) + 8 ≤ 1000000000000) :
    Calls Try.prog 75 #[.pointer (some ⟨c.Bd, 0, none⟩), .int .i64 at_] w (WP c w s (branchP (writeP c.ts c.ps g) 3 s.abs at_)) := by
  have hja : at_ < c.ps.length := (List.getElem?_eq_some_iff.1 hp).1
  obtain ⟨bp, op, hpp⟩ := pp_some h hja
  have hji : (at_ : Int) < (c.ps.length : Int) := by omega
  have hnp := ok.np
  have B0 := Lib.hid (bud_start hb hja)
  have hw := step_write ok hI h1 h (bud_ok B0.out)
  rw [show ((at_ + 1 : Nat) : Int) = (at_ : Int) + 1 from rfl] at hw
  have W1 := Lib.hid hw
  have HP := Lib.hid hp
  have H2 := Lib.hid h2
  have H3 := Lib.hid h3
  have HI := Lib.hid hI
  clear hw hp h1 h2 h3 h hb hI
  go_enter Try.func75, Try.ntmps75
  go_wp2_with (first
    | (go_at_call 43; refine W1.out.mono ?_; clear W1; intro e w1 hq; obtain ⟨s1, q1, rfl, g1⟩ := hq; have G1 := Lib.hid g1; have B1 := Lib.hid (bud_write B0.out g1); have E1 := Lib.hid (emit_at ok g1.go.at_ (bud_len B1.out) at_ 15 0); clear g1)
    | (go_at_call 44; refine E1.out.mono ?_; clear E1; intro e w2 hq; obtain ⟨rfl, s2, g2, a2, l2, v2⟩ := hq; have G2 := Lib.hid g2; have A2 := Lib.hid a2; have B2 := Lib.hid (bud_emit B1.out a2); have L2 := Lib.hid ((congrArg List.length l2).trans G1.out.L); have W2 := Lib.hid (step_write ok HI.out (okP_cast H2.out G1.out.sk L2.out) g2.at_ (bud_ok B2.out)); clear g2 a2 l2 v2)
    | (go_at_call 43; refine W2.out.mono ?_; clear W2; intro e w3 hq; obtain ⟨s3, q2, rfl, g3⟩ := hq; have G3 := Lib.hid g3; have B3 := Lib.hid (bud_write B2.out g3); have E4 := Lib.hid (emit_at ok g3.go.at_ (bud_len B3.out) at_ 14 0); obtain ⟨c5, p0, p1, p2, lb, ld⟩ := part_cells g3.go.at_ hpp HP.out; clear g3 p0 p1)
    | (go_at_call 44; refine E4.out.mono ?_; clear E4; intro e w4 hq; obtain ⟨rfl, s4, g4, a4, l4, v4⟩ := hq; have G4 := Lib.hid g4; have A4 := Lib.hid a4; have B4 := Lib.hid (bud_emit B3.out a4); have L4 := Lib.hid ((congrArg List.length l4).trans G3.out.L); have M5 := Lib.hid (mark_new ok g4.at_ (bud_len B4.out) (jump_in2 (jump_in A2.out G3.out) a4)); clear g4 a4 l4 v4)
    | (go_at_call 97; refine M5.out.mono ?_; clear M5; intro e w5 hq; obtain ⟨⟨v5, rfl⟩, s5, g5, a5, l5, v5'⟩ := hq; have G5 := Lib.hid g5; have A5 := Lib.hid a5; have B5 := Lib.hid (bud_mark B4.out a5); have W6 := Lib.hid (step_write ok HI.out (okP_cast H3.out (G3.out.sk.trans (congrArg _ G1.out.sk)) ((congrArg List.length l5).trans (L4.out.trans L2.out))) g5.at_ (bud_ok B5.out)); clear g5 a5 l5 v5')
    | (go_at_call 43; refine W6.out.mono ?_; clear W6; intro e w6 hq; obtain ⟨s6, q3, rfl, g6⟩ := hq; have G6 := Lib.hid g6; have B6 := Lib.hid (bud_write B5.out g6); have M7 := Lib.hid (mark_new ok g6.go.at_ (bud_len B6.out) (jump_in3 A4.out A5.out g6)); clear g6)
    | (go_at_call 97; refine M7.out.mono ?_; clear M7; intro e w7 hq; obtain ⟨⟨v7, rfl⟩, s7, g7, a7, l7, v7'⟩ := hq; have G7 := Lib.hid g7; have A7 := Lib.hid a7; clear g7 a7 l7 v7'))
  go_ret
  rw [branch_3 G1.out.eq A2.out G3.out.eq A4.out A5.out G6.out.eq A7.out]
  exact ⟨rfl, _, go_trans (go_trans (go_trans (go_trans (go_trans (go_trans G1.out.go G2.out) G3.out.go) G4.out) G5.out) G6.out.go) G7.out, rfl⟩

def pairsN : Nat → List (Int × Int)
  | 0 => []
  | q + 1 => pairsN q ++ [(3, 0), (31, 0)]
theorem emits_append : ∀ (l l' : List (Int × Int)) (s : PS) (a : Nat), PS.emits s a (l ++ l') = PS.emits (PS.emits s a l) a l'
  | [], l', s, a => rfl
  | x :: r, l', s, a => emits_append r l' (s.emit a x) a

/-- Where the loop of either stands. -/
structure ELoop (c : Cx) (w3 : World) (s3 : Stt) (p a : Nat) (q : Nat) (wr : World) (sr : Stt) : Prop where
  go : Go c w3 s3 wr sr
  eq : sr.abs = PS.emits s3.abs a (pairsN q)
  bud : Bud c sr p (3 + 2 * (2 - q))
  le : q ≤ 2

theorem eloop_step {c : Cx} {w3 wr w1 w2 : World} {s3 sr s1 s2 : Stt} {p a q : Nat} (h : ELoop c w3 s3 p a q wr sr) (hq : q < 2) (g1 : Go c wr sr w1 s1) (e1 : s1.abs = sr.abs.emit a (3, 0)) (g2 : Go c w1 s1 w2 s2) (e2 : s2.abs = s1.abs.emit a (31, 0)) : ELoop c w3 s3 p a (q + 1) w2 s2 := by
  refine ⟨go_trans (go_trans h.go g1) g2, ?_, ?_, by omega⟩
  · rw [pairsN, emits_append, ← h.eq, e2, e1]; rfl
  · have := h.bud
    refine bud_emit (bud_emit (k := 3 + 2 * (2 - (q + 1)) + 1) ?_ e1) e2
    rw [show 3 + 2 * (2 - (q + 1)) + 1 + 1 = 3 + 2 * (2 - q) by omega]; exact this
theorem eloop_bud1 {c : Cx} {w3 wr : World} {s3 sr s1 : Stt} {p a q : Nat} (h : ELoop c w3 s3 p a q wr sr) (e1 : s1.abs = sr.abs.emit a (3, 0)) : Bud c s1 p (2 + 2 * (2 - q)) := by
  have := h.bud
  refine bud_emit ?_ e1
  rw [show 2 + 2 * (2 - q) + 1 = 3 + 2 * (2 - q) by omega]; exact this
theorem eloop_e5 {c : Cx} (ok : CxOK c) {w3 wr w1 : World} {s3 sr s1 : Stt} {p a q : Nat} (h : ELoop c w3 s3 p a q wr sr) (g1 : Go c wr sr w1 s1) (e1 : s1.abs = sr.abs.emit a (3, 0)) :
    Calls Try.prog 44 #[.pointer (some ⟨c.Bd, 0, none⟩), .int .i64 a, .int .i64 31, .int .i64 0] w1 fun e w' => e = .returned (.int .i64 s1.out.length) ∧ ∃ s', Go c w1 s1 w' s' ∧ s'.abs = s1.abs.emit a (31, 0) ∧ s'.L = s1.L ∧ s'.vlo = s1.vlo :=
  emit_at ok g1.at_ (bud_len (eloop_bud1 h e1)) a 31 0
theorem eloop_lo {c : Cx} {w3 wr : World} {s3 sr : Stt} {p a q : Nat} (h : ELoop c w3 s3 p a q wr sr) {j : Nat} (hj : j < s3.out.length) : j < sr.out.length := by
  have h1 := (emits_grows (pairsN q) a (s := s3.abs))
  have h2 := (abs_len h.eq).1
  have h3 : ∀ (l : List (Int × Int)) (s : PS), s.out.length ≤ (PS.emits s a l).out.length := by
    intro l
    induction l with
    | nil => exact fun s => Nat.le_refl _
    | cons x r ih => exact fun s => Nat.le_trans (by simp [PS.emit]) (ih (s.emit a x))
  have h4 := h3 (pairsN q) s3.abs
  have h5 : s3.abs.out.length = s3.out.length := rfl
  omega
theorem jump_in4 {a : Nat} {x y : Int × Int} {s7 s8 s9 s10 : Stt} {j : Nat} (e8 : s8.abs = s7.abs.emit a x) (e9 : s9.abs = s8.abs.mark j) (e10 : s10.abs = s9.abs.emit a y) : s7.out.length < s10.out.length := by
  have := emit_len e8; have := mark_len e9; have := emit_len e10; omega

theorem either_2 {F : Fw} {jump alone : Int} {s s1 s2 s3 s7 s8 s9 s10 s11 : PS} {a p1 p2 : Nat} (h1 : F s (a + 1) = (s1, p1)) (h2 : s2 = s1.emit a (jump, 0)) (h3 : F s2 p1 = (s3, p2)) (h7 : s7 = PS.emits s3 a (pairsN 2))
    (h8 : s8 = s7.emit a (14, 0)) (h9 : s9 = s8.mark s1.out.length) (h10 : s10 = s9.emit a (3, alone)) (h11 : s11 = s10.mark s7.out.length) : eitherP F jump alone s a = (s11, p2) := by
  subst h2; subst h7; subst h8; subst h9; subst h10; subst h11
  unfold eitherP
  rw [h1, h3]
  rfl

set_option maxRecDepth 100000 in
set_option maxHeartbeats 4000000 in
theorem either_any (c : Cx) (ok : CxOK c) (g : Nat) (hI : WCon c g) (s : Stt) (at_ : Nat) (w : World) (jump alone : Int) (hja : at_ < c.ps.length) (h1 : okP c.ts.length c.ps g s.L.length (at_ + 1)) (h2 : okP c.ts.length c.ps g s.L.length (skipS c.ps g (at_ + 1)))
    (h : AtS c w s) (hb : s.out.length + 8 * (c.ps.length - at_) + 8 ≤ 1000000000000) :
    Calls Try.prog 78 #[.pointer (some ⟨c.Bd, 0, none⟩), .int .i64 at_, .int .i64 jump, .int .i64 alone] w (WP c w s (eitherP (writeP c.ts c.ps g) jump alone s.abs at_)) := by
  have hji : (at_ : Int) < (c.ps.length : Int) := by omega
  have hnp := ok.np
  have B0 := Lib.hid (bud_start hb hja)
  have hw := step_write ok hI h1 h (bud_ok B0.out)
  rw [show ((at_ + 1 : Nat) : Int) = (at_ : Int) + 1 from rfl] at hw
  have W1 := Lib.hid hw
  have H2 := Lib.hid h2
  have HI := Lib.hid hI
  clear hw h1 h2 h hb hI
  go_enter Try.func78, Try.ntmps78
  go_wp2_with (first
    | (go_at_call 43; refine W1.out.mono ?_; clear W1; intro e w1 hq; obtain ⟨s1, q1, rfl, g1⟩ := hq; have G1 := Lib.hid g1; have B1 := Lib.hid (bud_write B0.out g1); have E1 := Lib.hid (emit_at ok g1.go.at_ (bud_len B1.out) at_ jump 0); clear g1)
    | (go_at_call 44; refine E1.out.mono ?_; clear E1; intro e w2 hq; obtain ⟨rfl, s2, g2, a2, l2, v2⟩ := hq; have G2 := Lib.hid g2; have A2 := Lib.hid a2; have B2 := Lib.hid (bud_emit B1.out a2); have W2 := Lib.hid (step_write ok HI.out (okP_cast H2.out G1.out.sk ((congrArg List.length l2).trans G1.out.L)) g2.at_ (bud_ok B2.out)); clear g2 a2 l2 v2)
    | (go_at_call 43; refine W2.out.mono ?_; clear W2; intro e w3 hq; obtain ⟨s3, q2, rfl, g3⟩ := hq; have G3 := Lib.hid g3; have B3 := Lib.hid (bud_write B2.out g3); clear g3))
  have K0 : ELoop c w3 s3 q2 at_ 0 w3 s3 := ⟨go_refl G3.out.go.at_, rfl, B3.out, by omega⟩
  have KK := Lib.hid K0
  clear K0
  go_loopw [23] (fun i wr => ∃ (q : Nat) (sr : Stt), i = .int .i64 q ∧ ELoop c w3 s3 q2 at_ q wr sr) (fun i _ => 2 - (intOf i).toNat)
  case atStart => exact ⟨0, s3, rfl, KK.out⟩
  case round =>
    obtain ⟨q, sr, rfl, hL⟩ := hrel
    have LL := Lib.hid hL
    have hq2 := hL.le
    clear hL
    by_cases hlt : (q : Int) < 2
    · have E3 := Lib.hid (emit_at ok LL.out.go.at_ (bud_len LL.out.bud) at_ 3 0)
      go_wp2_with (first
        | (go_at_call 44; refine E3.out.mono ?_; clear E3; intro e w4 hq; obtain ⟨rfl, s4, g4, a4, l4, v4⟩ := hq; have G4 := Lib.hid g4; have A4 := Lib.hid a4; have E5 := Lib.hid (eloop_e5 ok LL.out g4 a4); clear g4 a4 l4 v4)
        | (go_at_call 44; refine E5.out.mono ?_; clear E5; intro e w5 hq; obtain ⟨rfl, s5, g5, a5, l5, v5⟩ := hq; have G5 := Lib.hid g5; have A5 := Lib.hid a5; clear g5 a5 l5 v5))
      go_roundw
      case rel => exact ⟨q + 1, s5, by go_num, eloop_step LL.out (by omega) G4.out A4.out G5.out A5.out⟩
      case measure => simp [intOf]; omega
    · have e2 : q = 2 := by omega
      subst e2
      have E8 := Lib.hid (emit_at ok LL.out.go.at_ (bud_len LL.out.bud) at_ 14 0)
      have B7 := Lib.hid (show Bud c sr q2 3 from LL.out.bud)
      have J7 := Lib.hid (eloop_lo LL.out (jump_in A2.out G3.out))
      go_wp2_with (first
        | (go_at_call 44; refine E8.out.mono ?_; clear E8; intro e w8 hq; obtain ⟨rfl, s8, g8, a8, l8, v8⟩ := hq; have G8 := Lib.hid g8; have A8 := Lib.hid a8; have B8 := Lib.hid (bud_emit B7.out a8); have M9 := Lib.hid (mark_new ok g8.at_ (bud_len B8.out) (jump_in2 J7.out a8)); clear g8 a8 l8 v8)
        | (go_at_call 97; refine M9.out.mono ?_; clear M9; intro e w9 hq; obtain ⟨⟨v9, rfl⟩, s9, g9, a9, l9, v9'⟩ := hq; have G9 := Lib.hid g9; have A9 := Lib.hid a9; have B9 := Lib.hid (bud_mark B8.out a9); have E10 := Lib.hid (emit_at ok g9.at_ (bud_len B9.out) at_ 3 alone); clear g9 a9 l9 v9')
        | (go_at_call 44; refine E10.out.mono ?_; clear E10; intro e w10 hq; obtain ⟨rfl, s10, g10, a10, l10, v10⟩ := hq; have G10 := Lib.hid g10; have A10 := Lib.hid a10; have B10 := Lib.hid (bud_emit B9.out a10); have M11 := Lib.hid (mark_new ok g10.at_ (bud_len B10.out) (jump_in4 A8.out A9.out a10)); clear g10 a10 l10 v10)
        | (go_at_call 97; refine M11.out.mono ?_; clear M11; intro e w11 hq; obtain ⟨⟨v11, rfl⟩, s11, g11, a11, l11, v11'⟩ := hq; have G11 := Lib.hid g11; have A11 := Lib.hid a11; clear g11 a11 l11 v11'))
      go_ret
      rw [either_2 G1.out.eq A2.out G3.out.eq LL.out.eq A8.out A9.out A10.out A11.out]
      exact ⟨rfl, _, go_trans (go_trans (go_trans (go_trans (go_trans (go_trans (go_trans G1.out.go G2.out) G3.out.go) LL.out.go) G8.out) G9.out) G10.out) G11.out, rfl⟩

end Go.Proofs.Ytecaolkbllbokaa.TG
