/-
  Kept, of a unit. Conditions: as each theorem states.
-/
import Derived.Test.YtecaolkbllbokaaMA19
import Derived.Test.YtecaolkbllbokaaMA18
namespace Go.Proofs.Ytecaolkbllbokaa.TG
open Go.RowKit Go.Great
set_option linter.unusedSimpArgs false
set_option linter.unusedVariables false

theorem lt_next {wr w' : World} {T q : Nat} {ts : List (ByteArray × List Int)} {gs : Nat → Nat} {F F' : Nat → Value} (h : LT wr T ts gs F (fun j => q ≤ j)) (hT : w'.rowIs T 65 ((ts.length + 5) * 2) F') (hF : ∀ c, q * 2 + 2 ≤ c → F' c = F c)
    (hk : ∀ k, k < wr.heap.size → k ≠ T → (q < ts.length → k ≠ gs q) → w'.heap[k]? = wr.heap[k]?) : LT w' T ts gs F' (fun j => q + 1 ≤ j) := by
  refine ⟨hT, fun j nm d hs hj => ?_, fun j hs h1 h2 => ?_, fun j hs hj => h.lo j (by omega) hj, fun j j' hs hs' hjj hj' => h.inj j j' (by omega) (by omega) hjj hj'⟩
  · have hjl := (List.getElem?_eq_some_iff.1 hj).1
    obtain ⟨a1, a2, a3⟩ := h.tx j nm d (by omega) hj
    refine ⟨by rw [hF _ (by omega)]; exact a1, by rw [hF _ (by omega)]; exact a2, a3.of_block (hk _ a3.lt ?_ fun hq => ?_)⟩
    · have := h.lo j (by omega) hjl; omega
    · have := h.inj q j (Nat.le_refl _) (by omega) (by omega) hjl; omega
  · obtain ⟨a1, a2⟩ := h.tm j (by omega) h1 h2
    exact ⟨by rw [hF _ (by omega)]; exact a1, by rw [hF _ (by omega)]; exact a2⟩

theorem lf_next {wr w' : World} {Fb q : Nat} {us : List Fun} {ls ps : Nat → Nat} {F F' : Nat → Value} (h : LF wr Fb us ls ps F (fun j => q ≤ j)) (hT : w'.rowIs Fb 69 ((us.length + 5) * 4) F') (hF : ∀ c, q * 4 + 4 ≤ c → F' c = F c)
    (hk : ∀ k, k < wr.heap.size → k ≠ Fb → (q < us.length → k ≠ ls q ∧ k ≠ ps q) → w'.heap[k]? = wr.heap[k]?) : LF w' Fb us ls ps F' (fun j => q + 1 ≤ j) := by
  refine ⟨hT, fun j f hs hj => ?_, fun j hs h1 h2 => ?_, fun j hs hj => h.lo j (by omega) hj, fun j j' hs hs' hjj hj' => h.inj j j' (by omega) (by omega) hjj hj'⟩
  · have hjl := (List.getElem?_eq_some_iff.1 hj).1
    obtain ⟨a0, a1, a2, a3, a4⟩ := h.fx j f (by omega) hj
    obtain ⟨l1, l2⟩ := h.lo j (by omega) hjl
    have hx : q < us.length → ls q < ps q ∧ ps q < ls j := fun hq => ⟨(h.lo q (Nat.le_refl _) hq).2, h.inj q j (Nat.le_refl _) (by omega) (by omega) hjl⟩
    exact ⟨by rw [hF _ (by omega)]; exact a0, by rw [hF _ (by omega)]; exact a1, by rw [hF _ (by omega)]; exact a2, by rw [hF _ (by omega)]; exact a3, a4.rl.of_block (hk _ a4.rl.lt (by omega) fun hq => by have := hx hq; omega), a4.rp.of_block (hk _ a4.rp.lt (by omega) fun hq => by have := hx hq; omega)⟩
  · obtain ⟨a0, a1, a2, a3⟩ := h.fm j (by omega) h1 h2
    exact ⟨by rw [hF _ (by omega)]; exact a0, by rw [hF _ (by omega)]; exact a1, by rw [hF _ (by omega)]; exact a2, by rw [hF _ (by omega)]; exact a3⟩

theorem boxU_sp {P : Nat → Prop} {w w' : World} {b : Nat} {vt vf : Value} (h : BoxU w b vt vf) (g : Sp P w w') (hp : ¬ P b) : BoxU w' b vt vf := by
  unfold BoxU at *
  rw [g.block b (Array.getElem?_eq_some_iff.1 h).1 hp]; exact h
theorem cell_sp {P : Nat → Prop} {w w' : World} {b o : Nat} {v : Value} (h : w.cell? ⟨b, o, none⟩ = some v) (g : Sp P w w') (hp : ¬ P b) : w'.cell? ⟨b, o, none⟩ = some v := by
  rw [heap_cell (g.block b (World.block_lt_of_cell? _ _ h) hp)]; exact h
theorem bytesB_sp2 {P : Nat → Prop} {w w' : World} {B : Nat} {p : Option Addr} {l : List Int} (h : BytesB w B p l) (g : Sp P w w') (hp : ∀ k, k < B → ¬ P k) : BytesB w' B p l := fun h0 => by
  obtain ⟨b, o, e, hb, hc⟩ := h h0
  exact ⟨b, o, e, hb, fun i hi => cell_sp (hc i hi) g (hp b hb)⟩
theorem strsB_sp2 {P : Nat → Prop} {w w' : World} {B : Nat} {p : Option Addr} {l : List ByteArray} (h : StrsB w B p l) (g : Sp P w w') (hp : ∀ k, k < B → ¬ P k) : StrsB w' B p l := fun h0 => by
  obtain ⟨b, o, e, hb, hc⟩ := h h0
  exact ⟨b, o, e, hb, fun i hi => cell_sp (hc i hi) g (hp b hb)⟩
theorem partsB_sp2 {P : Nat → Prop} {w w' : World} {B : Nat} {p : Option Addr} {l : List (Int × Int × Int)} (h : PartsB w B p l) (g : Sp P w w') (hp : ∀ k, k < B → ¬ P k) : PartsB w' B p l := fun h0 => by
  obtain ⟨b, o, e, hb, hc⟩ := h h0
  refine ⟨b, o, e, hb, fun j k n kc hj => ?_⟩
  obtain ⟨h1, h2, h3⟩ := hc j k n kc hj
  exact ⟨cell_sp h1 g (hp b hb), cell_sp h2 g (hp b hb), cell_sp h3 g (hp b hb)⟩

def k7 (i : Nat) : Nat := if i < 58 then 38 + i else 1000
theorem k7_ge (i : Nat) : 38 ≤ k7 i := by unfold k7; split <;> omega
theorem k7_ne : ∀ i, i < 58 → ∀ j, j < 58 → j ≠ i → k7 j ≠ k7 i := fun i hi j hj hne => by unfold k7; rw [if_pos hi, if_pos hj]; omega
theorem k7_un (i : Nat) (h : i < 58) : i = 0 ∨ i = 1 ∨ i = 2 ∨ i = 3 ∨ i = 4 ∨ i = 5 ∨ i = 6 ∨ i = 7 ∨ i = 8 ∨ i = 9 ∨ i = 10 ∨ i = 11 ∨ i = 12 ∨ i = 13 ∨ i = 14 ∨ i = 15 ∨ i = 16 ∨ i = 17 ∨ i = 18 ∨ i = 19 ∨ i = 20 ∨ i = 21 ∨ i = 22 ∨ i = 23 ∨ i = 24 ∨ i = 25 ∨ i = 26 ∨ i = 27 ∨ i = 28 ∨ i = 29 ∨ i = 30 ∨ i = 31 ∨ i = 32 ∨ i = 33 ∨ i = 34 ∨ i = 35 ∨ i = 36 ∨ i = 37 ∨ i = 38 ∨ i = 39 ∨ i = 40 ∨ i = 41 ∨ i = 42 ∨ i = 43 ∨ i = 44 ∨ i = 45 ∨ i = 46 ∨ i = 47 ∨ i = 48 ∨ i = 49 ∨ i = 50 ∨ i = 51 ∨ i = 52 ∨ i = 53 ∨ i = 54 ∨ i = 55 ∨ i = 56 ∨ i = 57 := by omega
def k7v (b1 T bt ot q n ct g dl cd : Nat) (nm : ByteArray) (pd : Option Addr) : Nat → Value
  | 0 => .int .i64 q
  | 1 => .pointer (some ⟨b1, 0, none⟩)
  | 2 => .slice (some ⟨bt, ot, none⟩) n ct
  | 3 => .int .i64 n
  | 4 => .bool false
  | 5 => .bool false
  | 6 => undef
  | 7 => undef
  | 8 => undef
  | 9 => undef
  | 10 => undef
  | 11 => undef
  | 12 => undef
  | 13 => undef
  | 14 => undef
  | 15 => undef
  | 16 => undef
  | 17 => undef
  | 18 => undef
  | 19 => undef
  | 20 => undef
  | 21 => .bool false
  | 22 => .bool false
  | 23 => .int .i64 q
  | 24 => .pointer (some ⟨b1, 0, none⟩)
  | 25 => .slice (some ⟨bt, ot, none⟩) n ct
  | 26 => .int .i64 n
  | 27 => .bool true
  | 28 => .bool true
  | 29 => .slice (some ⟨T, 0, none⟩) (n + 5) (n + 5)
  | 30 => .int .i64 q
  | 31 => .pointer (some ⟨T, q * 2, none⟩)
  | 32 => .pointer (some ⟨T, q * 2, none⟩)
  | 33 => .string nm
  | 34 => .pointer (some ⟨b1, 0, none⟩)
  | 35 => .slice (some ⟨bt, ot, none⟩) n ct
  | 36 => .int .i64 q
  | 37 => .pointer (some ⟨bt, ot + q * 2, none⟩)
  | 38 => .pointer (some ⟨bt, ot + q * 2, none⟩)
  | 39 => .string nm
  | 40 => .bool false
  | 41 => .bool false
  | 42 => .slice (some ⟨T, 0, none⟩) (n + 5) (n + 5)
  | 43 => .int .i64 q
  | 44 => .pointer (some ⟨T, q * 2, none⟩)
  | 45 => .pointer (some ⟨T, q * 2 + 1, none⟩)
  | 46 => .slice (some ⟨g, 0, none⟩) dl (dl + 67)
  | 47 => .pointer (some ⟨b1, 0, none⟩)
  | 48 => .slice (some ⟨bt, ot, none⟩) n ct
  | 49 => .int .i64 q
  | 50 => .pointer (some ⟨bt, ot + q * 2, none⟩)
  | 51 => .pointer (some ⟨bt, ot + q * 2 + 1, none⟩)
  | 52 => .slice pd dl cd
  | 53 => .bool true
  | 54 => .bool false
  | 55 => .bool false
  | 56 => .bool false
  | 57 => .bool false
  | _ => undef

def k14 (i : Nat) : Nat := if i < 49 then 113 + i else 1000
theorem k14_ge (i : Nat) : 113 ≤ k14 i := by unfold k14; split <;> omega
theorem k14_ne : ∀ i, i < 49 → ∀ j, j < 49 → j ≠ i → k14 j ≠ k14 i := fun i hi j hj hne => by unfold k14; rw [if_pos hi, if_pos hj]; omega
theorem k14_un (i : Nat) (h : i < 49) : i = 0 ∨ i = 1 ∨ i = 2 ∨ i = 3 ∨ i = 4 ∨ i = 5 ∨ i = 6 ∨ i = 7 ∨ i = 8 ∨ i = 9 ∨ i = 10 ∨ i = 11 ∨ i = 12 ∨ i = 13 ∨ i = 14 ∨ i = 15 ∨ i = 16 ∨ i = 17 ∨ i = 18 ∨ i = 19 ∨ i = 20 ∨ i = 21 ∨ i = 22 ∨ i = 23 ∨ i = 24 ∨ i = 25 ∨ i = 26 ∨ i = 27 ∨ i = 28 ∨ i = 29 ∨ i = 30 ∨ i = 31 ∨ i = 32 ∨ i = 33 ∨ i = 34 ∨ i = 35 ∨ i = 36 ∨ i = 37 ∨ i = 38 ∨ i = 39 ∨ i = 40 ∨ i = 41 ∨ i = 42 ∨ i = 43 ∨ i = 44 ∨ i = 45 ∨ i = 46 ∨ i = 47 ∨ i = 48 := by omega
def k14v (b1 Fb bF oF q n cf ll cl pn cp gl gp : Nat) (nm : ByteArray) (ar : Int) (pl pp : Option Addr) : Nat → Value
  | 0 => .int .i64 q
  | 1 => .pointer (some ⟨b1, 1, none⟩)
  | 2 => .slice (some ⟨bF, oF, none⟩) n cf
  | 3 => .int .i64 n
  | 4 => .bool false
  | 5 => .bool false
  | 6 => undef
  | 7 => undef
  | 8 => undef
  | 9 => undef
  | 10 => undef
  | 11 => undef
  | 12 => undef
  | 13 => undef
  | 14 => undef
  | 15 => undef
  | 16 => undef
  | 17 => undef
  | 18 => undef
  | 19 => undef
  | 20 => undef
  | 21 => undef
  | 22 => undef
  | 23 => undef
  | 24 => undef
  | 25 => undef
  | 26 => undef
  | 27 => undef
  | 28 => .bool false
  | 29 => .bool false
  | 30 => .int .i64 q
  | 31 => .pointer (some ⟨b1, 1, none⟩)
  | 32 => .slice (some ⟨bF, oF, none⟩) n cf
  | 33 => .int .i64 n
  | 34 => .bool true
  | 35 => .bool true
  | 36 => .slice (some ⟨Fb, 0, none⟩) (n + 5) (n + 5)
  | 37 => .int .i64 q
  | 38 => .pointer (some ⟨Fb, q * 4, none⟩)
  | 39 => .agg #[.string nm, .int .i64 ar, .slice (some ⟨gl, 0, none⟩) ll (ll + 5), .slice (some ⟨gp, 0, none⟩) pn (pn + 67)]
  | 40 => .pointer (some ⟨b1, 1, none⟩)
  | 41 => .slice (some ⟨bF, oF, none⟩) n cf
  | 42 => .int .i64 q
  | 43 => .pointer (some ⟨bF, oF + q * 4, none⟩)
  | 44 => .agg #[.string nm, .int .i64 ar, .slice pl ll cl, .slice pp pn cp]
  | 45 => .bool true
  | 46 => .bool false
  | 47 => .bool false
  | 48 => .bool false
  | _ => undef

theorem lf_sp {P : Nat → Prop} {w w' : World} {Fb : Nat} {us : List Fun} {ls ps : Nat → Nat} {F : Nat → Value} {S : Nat → Prop} (h : LF w Fb us ls ps F S) (g : Sp P w w') (hp : ∀ k, Fb ≤ k → ¬ P k) : LF w' Fb us ls ps F S :=
  ⟨row_sp h.blk g (hp _ (Nat.le_refl _)), fun j f hs hj => by
    obtain ⟨a0, a1, a2, a3, a4⟩ := h.fx j f hs hj
    obtain ⟨l1, l2⟩ := h.lo j hs (List.getElem?_eq_some_iff.1 hj).1
    exact ⟨a0, a1, a2, a3, row_sp a4.rl g (hp _ (by omega)), row_sp a4.rp g (hp _ (by omega))⟩, h.fm, h.lo, h.inj⟩
theorem lf_from {w : World} {Fb : Nat} {us : List Fun} {ls ps : Nat → Nat} {F : Nat → Value} (h : LF w Fb us ls ps F (fun _ => True)) : LF w Fb us ls ps F (fun j => 0 ≤ j) :=
  ⟨h.blk, fun j f _ hj => h.fx j f trivial hj, fun j _ h1 h2 => h.fm j trivial h1 h2, fun j _ hj => h.lo j trivial hj, fun j j' _ _ h1 h2 => h.inj j j' trivial trivial h1 h2⟩
theorem blk_drewN (w : World) (n k : Nat) : (w.drewN n).heap[k]? = w.heap[k]? := by simp

def PT (lo hi k : Nat) : Prop := lo ≤ k ∧ k < hi

theorem kp_set {W : World} {b1 bt T g : Nat} {o1 o2 o3 o4 : Nat} {v0 v1 v2 v3 v4 : Value} {w2 : World} (gr : W.grownBy w2 (some g)) (h0 : W.cell? ⟨b1, 0, none⟩ = some v0) (h1 : W.cell? ⟨T, o1, none⟩ = some v1) (h2 : W.cell? ⟨T, o2, none⟩ = some v2) (h3 : W.cell? ⟨bt, o3, none⟩ = some v3) (h4 : W.cell? ⟨bt, o4, none⟩ = some v4) (l0 : b1 < W.heap.size) (l1 : T < W.heap.size) (l2 : bt < W.heap.size) (n0 : ¬ b1 = g) (n1 : ¬ T = g) (n2 : ¬ bt = g) :
    w2.cell? ⟨b1, 0, none⟩ = some v0 ∧ w2.cell? ⟨T, o1, none⟩ = some v1 ∧ w2.cell? ⟨T, o2, none⟩ = some v2 ∧ w2.cell? ⟨bt, o3, none⟩ = some v3 ∧ w2.cell? ⟨bt, o4, none⟩ = some v4 ∧ b1 < w2.heap.size ∧ T < w2.heap.size ∧ bt < w2.heap.size := by
  have q : ∀ {x : Nat}, ¬ x = g → some x ≠ some g := fun h e => by injection e with e; exact h e
  exact ⟨gr.cell h0 (q n0), gr.cell h1 (q n1), gr.cell h2 (q n1), gr.cell h3 (q n2), gr.cell h4 (q n2), Nat.lt_of_lt_of_le l0 gr.size, Nat.lt_of_lt_of_le l1 gr.size, Nat.lt_of_lt_of_le l2 gr.size⟩

set_option maxRecDepth 100000 in
set_option maxHeartbeats 8000000 in
theorem keptU_any (u : Un) (hu : LSize u) (pt pf : Option Addr) (ct cf B lo T Fb : Nat) (gs ls ps : Nat → Nat) (Ft Ff : Nat → Value) (w : World) (hU : UnitAt w B pt pf u) (hL : LentU w lo T Fb gs ls ps Ft Ff u) (hlo : B ≤ lo) (hi : Nat) (hhi : hi ≤ w.heap.size) (hFh : Fb < hi) (hps : ∀ j, j < u.funcs.length → ps j < hi) :
    Calls Try.prog 13 #[.agg #[.slice (some ⟨T, 0, none⟩) u.texts.length (u.texts.length + 5), .slice (some ⟨Fb, 0, none⟩) u.funcs.length (u.funcs.length + 5)], .agg #[.slice pt u.texts.length ct, .slice pf u.funcs.length cf]] w fun e w' => e = .returned (.bool true) ∧ Sp (PT lo hi) w w' := by
  have UU := Lib.hid hU
  have HU := Lib.hid hu
  have LU := Lib.hid hL
  have HPS := Lib.hid hps
  have h1 := hu.nt
  have h2 := hu.nf
  have hni : (u.texts.length : Int) ≤ 1000000000000 := by omega
  have hmi : (u.funcs.length : Int) ≤ 1000000000000 := by omega
  have hTl := hL.t.blk.lt
  have hFl := hL.f.blk.lt
  have hTF := hL.tf
  have hloT := hL.lt
  clear hU hu hL hps
  go_enter Try.func13, Try.ntmps13
  go_wp2
  have BX := Lib.hid (show BoxU ((w.alloc (.cells #[.slice (some ⟨T, 0, none⟩) u.texts.length (u.texts.length + 5), .slice (some ⟨Fb, 0, none⟩) u.funcs.length (u.funcs.length + 5)] 25)).alloc (.cells #[.slice pt u.texts.length ct, .slice pf u.funcs.length cf] 25)) w.heap.size (.slice (some ⟨T, 0, none⟩) u.texts.length (u.texts.length + 5)) (.slice (some ⟨Fb, 0, none⟩) u.funcs.length (u.funcs.length + 5)) from boxU_kept (boxU_new w _ _) (World.grownBy_alloc _ _ none) (by simp))
  have BY := Lib.hid (show BoxU ((w.alloc (.cells #[.slice (some ⟨T, 0, none⟩) u.texts.length (u.texts.length + 5), .slice (some ⟨Fb, 0, none⟩) u.funcs.length (u.funcs.length + 5)] 25)).alloc (.cells #[.slice pt u.texts.length ct, .slice pf u.funcs.length cf] 25)) (w.heap.size + 1) (.slice pt u.texts.length ct) (.slice pf u.funcs.length cf) from by have h := boxU_new (w.alloc (.cells #[.slice (some ⟨T, 0, none⟩) u.texts.length (u.texts.length + 5), .slice (some ⟨Fb, 0, none⟩) u.funcs.length (u.funcs.length + 5)] 25)) (.slice pt u.texts.length ct) (.slice pf u.funcs.length cf); rw [World.size_alloc] at h; exact h)
  have GB := Lib.hid (show w.grownBy ((w.alloc (.cells #[.slice (some ⟨T, 0, none⟩) u.texts.length (u.texts.length + 5), .slice (some ⟨Fb, 0, none⟩) u.funcs.length (u.funcs.length + 5)] 25)).alloc (.cells #[.slice pt u.texts.length ct, .slice pf u.funcs.length cf] 25)) none from grownBy_trans (World.grownBy_alloc w _ none) (World.grownBy_alloc _ _ none))
  generalize (w.alloc (.cells #[.slice (some ⟨T, 0, none⟩) u.texts.length (u.texts.length + 5), .slice (some ⟨Fb, 0, none⟩) u.funcs.length (u.funcs.length + 5)] 25)).alloc (.cells #[.slice pt u.texts.length ct, .slice pf u.funcs.length cf] 25) = wB at *
  generalize hb0 : w.heap.size = b0 at *
  have HB0 := Lib.hid hb0
  clear hb0
  go_loopw [6] (fun i wr => ∃ (q : Nat) (F : Nat → Value), i = .int .i64 q ∧ q ≤ u.texts.length + 5 ∧ LT wr T u.texts gs F (fun j => q ≤ j) ∧ Sp (PT T Fb) wB wr) (fun i _ => u.texts.length + 5 - (intOf i).toNat)
  case atStart => exact ⟨0, Ft, rfl, Nat.zero_le _, by have h := lt_kept LU.out.t GB.out; exact ⟨h.blk, fun j nm d _ hj => h.tx j nm d trivial hj, fun j _ h1 h2 => h.tm j trivial h1 h2, fun j _ hj => h.lo j trivial hj, fun j j' _ _ h1 h2 => h.inj j j' trivial trivial h1 h2⟩, sp_refl _ _⟩
  case round =>
    obtain ⟨q, F, rfl, hq, hT, hsp⟩ := hrel
    have HT := Lib.hid hT
    have S := Lib.hid hsp
    have hby := boxU_sp BY.out hsp (by unfold PT; omega)
    have hbx := boxU_sp BX.out hsp (by unfold PT; omega)
    have y0 := boxU_0 hby
    have y1 := boxU_1 hby
    have yl := boxU_lt hby
    have x1 := boxU_1 hbx
    have xl := boxU_lt hbx
    by_cases hlt : (q : Int) < (u.texts.length : Int) + 5
    · have c0 := hT.blk.cell (i := q * 2) (by omega)
      have c1 := hT.blk.cell (i := q * 2 + 1) (by omega)
      have z0 := hT.blk.frozen (q * 2)
      have z1 := hT.blk.frozen (q * 2 + 1)
      have l0 := hT.blk.lt
      by_cases hlt2 : (q : Int) < (u.texts.length : Int)
      · obtain ⟨bt, ot, rfl, hbt, hct⟩ := UU.out.texts (by omega)
        obtain ⟨⟨nm, d⟩, hqd⟩ : ∃ x, u.texts[q]? = some x := ⟨_, List.getElem?_eq_getElem (by omega)⟩
        obtain ⟨e0, pd, cd, e1, hbd⟩ := hct q nm d hqd
        obtain ⟨a1, a2, a3⟩ := hT.tx q nm d (Nat.le_refl _) hqd
        rw [a1] at c0
        rw [a2] at c1
        have hdl := HU.out.t _ (List.mem_of_getElem? hqd)
        have hgT := hT.lo q (Nat.le_refl _) (by omega)
        have hgF := LU.out.gf q (by omega)
        have hgg : gs q < b0 := by omega
        have s0 := cell_sp (GB.out.cell e0 (by simp)) hsp (by unfold PT; omega)
        have s1 := cell_sp (GB.out.cell e1 (by simp)) hsp (by unfold PT; omega)
        have sl := World.block_lt_of_cell? _ _ s0
        have hbd2 := bytesB_sp2 (bytesB_kept hbd GB.out (by simp)) hsp (by intro k hk; unfold PT; omega)
        have KC := Lib.hid ((kept_bytes d pd cd B (gs q) wr.drew hdl hbd2 a3).mono (R' := fun e w2 => e = .returned (.bool true) ∧ Sp (fun k => k = gs q) wr.drew w2) fun e w2 he => ⟨he.1, sp_grown he.2 fun k _ e => by injection e with e; exact e.symm⟩)
        have nP0 : ¬ b0 + 1 = gs q := by omega
        have nP1 : ¬ T = gs q := by omega
        have nP2 : ¬ bt = gs q := by omega
        have HGT := Lib.hid hgT
        have HGF := Lib.hid hgF
        have hd1 : decide (u.texts.length ≤ q) = false := by simp; omega
        have hd2 : decide (q < u.texts.length) = true := by simp; omega
        have hqT : q < u.texts.length + 5 := by omega
        have hqn : q < u.texts.length := by omega
        clear hT hsp hby hbx hct hbt e0 e1 hbd hbd2 a1 a2 a3 hqd x1 xl y1 z0 z1
        go_wp2
        refine region_rj (N := 166) (n := 58) (dst := k7) (val := (k7v (b0 + 1) T bt ot q u.texts.length ct (gs q) d.length cd nm pd)) (WS := WSc 53 58 (fun k => k = gs q) wr.drew) (by kernel_rfl) rfl rfl (dag_of (by kernel_rfl)) (wc_start _ _ _ _) ?step ?fin
        case step =>
          intro l a w' i hJ hW hi
          have hin : i < 58 := by
            obtain ⟨_, o, ho, _⟩ := mem_ready.1 hi
            exact (Array.getElem?_eq_some_iff.1 ho).1
          have hun : l.getD i false = false := getD_both (mem_ready.1 hi).1
          rcases k7_un i hin with rfl | rfl | rfl | rfl | rfl | rfl | rfl | rfl | rfl | rfl | rfl | rfl | rfl | rfl | rfl | rfl | rfl | rfl | rfl | rfl | rfl | rfl | rfl | rfl | rfl | rfl | rfl | rfl | rfl | rfl | rfl | rfl | rfl | rfl | rfl | rfl | rfl | rfl | rfl | rfl | rfl | rfl | rfl | rfl | rfl | rfl | rfl | rfl | rfl | rfl | rfl | rfl | rfl | rfl | rfl | rfl | rfl | rfl
          · have e6 : a.tmps.getD 6 undef = .int .i64 q := hJ.un 6 (fun i _ _ e => by have := k7_ge i; omega)
            exact rg_on hJ rfl (by rfl) rfl (by decide) (by decide) (k7_ne _ (by decide)) (w' := w') (by simp [execOp, resolve, invoke, builtin, Act.eval, e6, hd1, hd2, go_sem, k7v]) (wc_same hW (by decide))
          · have e3 : a.tmps.getD 3 undef = .pointer (some ⟨(b0 + 1), 0, none⟩) := hJ.un 3 (fun i _ _ e => by have := k7_ge i; omega)
            exact rg_on hJ rfl (by rfl) rfl (by decide) (by decide) (k7_ne _ (by decide)) (w' := w') (by simp [execOp, resolve, invoke, builtin, Act.eval, e3, hd1, hd2, go_sem, k7v]) (wc_same hW (by decide))
          · have e39 : a.tmps.getD 39 undef = .pointer (some ⟨(b0 + 1), 0, none⟩) := (hJ.sl 1 (by decide) (listed_of hi 1 (by kernel_rfl)) (by decide))
            have hc0 := cell_sp (w := wr.drew) y0 (wc_sp hW) nP0
            exact rg_on hJ rfl (by rfl) rfl (by decide) (by decide) (k7_ne _ (by decide)) (w' := w') (by simp [execOp, resolve, invoke, builtin, Act.eval, e39, hc0, hd1, hd2, go_sem, k7v]) (wc_same hW (by decide))
          · have e40 : a.tmps.getD 40 undef = .slice (some ⟨bt, ot, none⟩) u.texts.length ct := (hJ.sl 2 (by decide) (listed_of hi 2 (by kernel_rfl)) (by decide))
            exact rg_on hJ rfl (by rfl) rfl (by decide) (by decide) (k7_ne _ (by decide)) (w' := w') (by simp [execOp, resolve, invoke, builtin, Act.eval, e40, hd1, hd2, go_sem, k7v]) (wc_same hW (by decide))
          · have e38 : a.tmps.getD 38 undef = .int .i64 q := (hJ.sl 0 (by decide) (listed_of hi 0 (by kernel_rfl)) (by decide))
            have e41 : a.tmps.getD 41 undef = .int .i64 u.texts.length := (hJ.sl 3 (by decide) (listed_of hi 3 (by kernel_rfl)) (by decide))
            exact rg_on hJ rfl (by rfl) rfl (by decide) (by decide) (k7_ne _ (by decide)) (w' := w') (by simp [execOp, resolve, invoke, builtin, Act.eval, e38, e41, hd1, hd2, go_sem, k7v]) (wc_same hW (by decide))
          · have e42 : a.tmps.getD 42 undef = .bool false := (hJ.sl 4 (by decide) (listed_of hi 4 (by kernel_rfl)) (by decide))
            exact rg_on hJ rfl (by rfl) rfl (by decide) (by decide) (k7_ne _ (by decide)) (w' := w') (by simp [execOp, resolve, invoke, builtin, Act.eval, e42, hd1, hd2, go_sem, k7v]) (wc_same hW (by decide))
          · have eg : a.tmps.getD 43 undef = .bool false := (hJ.sl 5 (by decide) (listed_of hi 5 (by kernel_rfl)) (by decide))
            exact rg_off hJ rfl (want_off (k := 5) (d := 43) (b := true) rfl rfl (by rw [hJ.ts]; decide) (by rw [eg]; simp [undef])) rfl (by decide) (by decide) (k7_ne _ (by decide)) rfl (wc_same hW (by decide))
          · have eg : a.tmps.getD 43 undef = .bool false := (hJ.sl 5 (by decide) (listed_of hi 5 (by kernel_rfl)) (by decide))
            exact rg_off hJ rfl (want_off (k := 5) (d := 43) (b := true) rfl rfl (by rw [hJ.ts]; decide) (by rw [eg]; simp [undef])) rfl (by decide) (by decide) (k7_ne _ (by decide)) rfl (wc_same hW (by decide))
          · have eg : a.tmps.getD 43 undef = .bool false := (hJ.sl 5 (by decide) (listed_of hi 5 (by kernel_rfl)) (by decide))
            exact rg_off hJ rfl (want_off (k := 5) (d := 43) (b := true) rfl rfl (by rw [hJ.ts]; decide) (by rw [eg]; simp [undef])) rfl (by decide) (by decide) (k7_ne _ (by decide)) rfl (wc_same hW (by decide))
          · have eg : a.tmps.getD 43 undef = .bool false := (hJ.sl 5 (by decide) (listed_of hi 5 (by kernel_rfl)) (by decide))
            exact rg_off hJ rfl (want_off (k := 5) (d := 43) (b := true) rfl rfl (by rw [hJ.ts]; decide) (by rw [eg]; simp [undef])) rfl (by decide) (by decide) (k7_ne _ (by decide)) rfl (wc_same hW (by decide))
          · have eg : a.tmps.getD 43 undef = .bool false := (hJ.sl 5 (by decide) (listed_of hi 5 (by kernel_rfl)) (by decide))
            exact rg_off hJ rfl (want_off (k := 5) (d := 43) (b := true) rfl rfl (by rw [hJ.ts]; decide) (by rw [eg]; simp [undef])) rfl (by decide) (by decide) (k7_ne _ (by decide)) rfl (wc_same hW (by decide))
          · have eg : a.tmps.getD 43 undef = .bool false := (hJ.sl 5 (by decide) (listed_of hi 5 (by kernel_rfl)) (by decide))
            exact rg_off hJ rfl (want_off (k := 5) (d := 43) (b := true) rfl rfl (by rw [hJ.ts]; decide) (by rw [eg]; simp [undef])) rfl (by decide) (by decide) (k7_ne _ (by decide)) rfl (wc_same hW (by decide))
          · have eg : a.tmps.getD 43 undef = .bool false := (hJ.sl 5 (by decide) (listed_of hi 5 (by kernel_rfl)) (by decide))
            exact rg_off hJ rfl (want_off (k := 5) (d := 43) (b := true) rfl rfl (by rw [hJ.ts]; decide) (by rw [eg]; simp [undef])) rfl (by decide) (by decide) (k7_ne _ (by decide)) rfl (wc_same hW (by decide))
          · have eg : a.tmps.getD 50 undef = undef := (hJ.sl 12 (by decide) (listed_of hi 12 (by kernel_rfl)) (by decide))
            exact rg_off hJ rfl (want_off (k := 12) (d := 50) (b := false) rfl rfl (by rw [hJ.ts]; decide) (by rw [eg]; simp [undef])) rfl (by decide) (by decide) (k7_ne _ (by decide)) rfl (wc_same hW (by decide))
          · have eg : a.tmps.getD 50 undef = undef := (hJ.sl 12 (by decide) (listed_of hi 12 (by kernel_rfl)) (by decide))
            exact rg_off hJ rfl (want_off (k := 12) (d := 50) (b := false) rfl rfl (by rw [hJ.ts]; decide) (by rw [eg]; simp [undef])) rfl (by decide) (by decide) (k7_ne _ (by decide)) rfl (wc_same hW (by decide))
          · have eg : a.tmps.getD 50 undef = undef := (hJ.sl 12 (by decide) (listed_of hi 12 (by kernel_rfl)) (by decide))
            exact rg_off hJ rfl (want_off (k := 12) (d := 50) (b := false) rfl rfl (by rw [hJ.ts]; decide) (by rw [eg]; simp [undef])) rfl (by decide) (by decide) (k7_ne _ (by decide)) rfl (wc_same hW (by decide))
          · have eg : a.tmps.getD 50 undef = undef := (hJ.sl 12 (by decide) (listed_of hi 12 (by kernel_rfl)) (by decide))
            exact rg_off hJ rfl (want_off (k := 12) (d := 50) (b := false) rfl rfl (by rw [hJ.ts]; decide) (by rw [eg]; simp [undef])) rfl (by decide) (by decide) (k7_ne _ (by decide)) rfl (wc_same hW (by decide))
          · have eg : a.tmps.getD 50 undef = undef := (hJ.sl 12 (by decide) (listed_of hi 12 (by kernel_rfl)) (by decide))
            exact rg_off hJ rfl (want_off (k := 12) (d := 50) (b := false) rfl rfl (by rw [hJ.ts]; decide) (by rw [eg]; simp [undef])) rfl (by decide) (by decide) (k7_ne _ (by decide)) rfl (wc_same hW (by decide))
          · have eg : a.tmps.getD 50 undef = undef := (hJ.sl 12 (by decide) (listed_of hi 12 (by kernel_rfl)) (by decide))
            exact rg_off hJ rfl (want_off (k := 12) (d := 50) (b := false) rfl rfl (by rw [hJ.ts]; decide) (by rw [eg]; simp [undef])) rfl (by decide) (by decide) (k7_ne _ (by decide)) rfl (wc_same hW (by decide))
          · have eg : a.tmps.getD 50 undef = undef := (hJ.sl 12 (by decide) (listed_of hi 12 (by kernel_rfl)) (by decide))
            exact rg_off hJ rfl (want_off (k := 12) (d := 50) (b := false) rfl rfl (by rw [hJ.ts]; decide) (by rw [eg]; simp [undef])) rfl (by decide) (by decide) (k7_ne _ (by decide)) rfl (wc_same hW (by decide))
          · have eg : a.tmps.getD 43 undef = .bool false := (hJ.sl 5 (by decide) (listed_of hi 5 (by kernel_rfl)) (by decide))
            exact rg_off hJ rfl (want_off (k := 5) (d := 43) (b := true) rfl rfl (by rw [hJ.ts]; decide) (by rw [eg]; simp [undef])) rfl (by decide) (by decide) (k7_ne _ (by decide)) rfl (wc_same hW (by decide))
          · have e43 : a.tmps.getD 43 undef = .bool false := (hJ.sl 5 (by decide) (listed_of hi 5 (by kernel_rfl)) (by decide))
            have e58 : a.tmps.getD 58 undef = undef := (hJ.sl 20 (by decide) (listed_of hi 20 (by kernel_rfl)) (by decide))
            exact rg_on hJ rfl (by rfl) rfl (by decide) (by decide) (k7_ne _ (by decide)) (w' := w') (by simp [execOp, resolve, invoke, builtin, Act.eval, e43, e58, hd1, hd2, go_sem, k7v]) (wc_same hW (by decide))
          · have e59 : a.tmps.getD 59 undef = .bool false := (hJ.sl 21 (by decide) (listed_of hi 21 (by kernel_rfl)) (by decide))
            exact rg_on hJ rfl (by rfl) rfl (by decide) (by decide) (k7_ne _ (by decide)) (w' := w') (by simp [execOp, resolve, invoke, builtin, Act.eval, e59, hd1, hd2, go_sem, k7v]) (wc_same hW (by decide))
          · have e6 : a.tmps.getD 6 undef = .int .i64 q := hJ.un 6 (fun i _ _ e => by have := k7_ge i; omega)
            have eg : a.tmps.getD 60 undef = .bool false := (hJ.sl 22 (by decide) (listed_of hi 22 (by kernel_rfl)) (by decide))
            exact rg_on hJ rfl (want_on (k := 22) (d := 60) (b := false) rfl rfl (by rw [hJ.ts]; decide) eg) rfl (by decide) (by decide) (k7_ne _ (by decide)) (w' := w') (by simp [execOp, resolve, invoke, builtin, Act.eval, e6, hd1, hd2, go_sem, k7v]) (wc_same hW (by decide))
          · have e3 : a.tmps.getD 3 undef = .pointer (some ⟨(b0 + 1), 0, none⟩) := hJ.un 3 (fun i _ _ e => by have := k7_ge i; omega)
            have eg : a.tmps.getD 60 undef = .bool false := (hJ.sl 22 (by decide) (listed_of hi 22 (by kernel_rfl)) (by decide))
            exact rg_on hJ rfl (want_on (k := 22) (d := 60) (b := false) rfl rfl (by rw [hJ.ts]; decide) eg) rfl (by decide) (by decide) (k7_ne _ (by decide)) (w' := w') (by simp [execOp, resolve, invoke, builtin, Act.eval, e3, hd1, hd2, go_sem, k7v]) (wc_same hW (by decide))
          · have e62 : a.tmps.getD 62 undef = .pointer (some ⟨(b0 + 1), 0, none⟩) := (hJ.sl 24 (by decide) (listed_of hi 24 (by kernel_rfl)) (by decide))
            have eg : a.tmps.getD 60 undef = .bool false := (hJ.sl 22 (by decide) (listed_of hi 22 (by kernel_rfl)) (by decide))
            have hc0 := cell_sp (w := wr.drew) y0 (wc_sp hW) nP0
            exact rg_on hJ rfl (want_on (k := 22) (d := 60) (b := false) rfl rfl (by rw [hJ.ts]; decide) eg) rfl (by decide) (by decide) (k7_ne _ (by decide)) (w' := w') (by simp [execOp, resolve, invoke, builtin, Act.eval, e62, hc0, hd1, hd2, go_sem, k7v]) (wc_same hW (by decide))
          · have e63 : a.tmps.getD 63 undef = .slice (some ⟨bt, ot, none⟩) u.texts.length ct := (hJ.sl 25 (by decide) (listed_of hi 25 (by kernel_rfl)) (by decide))
            have eg : a.tmps.getD 60 undef = .bool false := (hJ.sl 22 (by decide) (listed_of hi 22 (by kernel_rfl)) (by decide))
            exact rg_on hJ rfl (want_on (k := 22) (d := 60) (b := false) rfl rfl (by rw [hJ.ts]; decide) eg) rfl (by decide) (by decide) (k7_ne _ (by decide)) (w' := w') (by simp [execOp, resolve, invoke, builtin, Act.eval, e63, hd1, hd2, go_sem, k7v]) (wc_same hW (by decide))
          · have e61 : a.tmps.getD 61 undef = .int .i64 q := (hJ.sl 23 (by decide) (listed_of hi 23 (by kernel_rfl)) (by decide))
            have e64 : a.tmps.getD 64 undef = .int .i64 u.texts.length := (hJ.sl 26 (by decide) (listed_of hi 26 (by kernel_rfl)) (by decide))
            have eg : a.tmps.getD 60 undef = .bool false := (hJ.sl 22 (by decide) (listed_of hi 22 (by kernel_rfl)) (by decide))
            exact rg_on hJ rfl (want_on (k := 22) (d := 60) (b := false) rfl rfl (by rw [hJ.ts]; decide) eg) rfl (by decide) (by decide) (k7_ne _ (by decide)) (w' := w') (by simp [execOp, resolve, invoke, builtin, Act.eval, e61, e64, hd1, hd2, go_sem, k7v]) (wc_same hW (by decide))
          · have e65 : a.tmps.getD 65 undef = .bool true := (hJ.sl 27 (by decide) (listed_of hi 27 (by kernel_rfl)) (by decide))
            have eg : a.tmps.getD 60 undef = .bool false := (hJ.sl 22 (by decide) (listed_of hi 22 (by kernel_rfl)) (by decide))
            exact rg_on hJ rfl (want_on (k := 22) (d := 60) (b := false) rfl rfl (by rw [hJ.ts]; decide) eg) rfl (by decide) (by decide) (k7_ne _ (by decide)) (w' := w') (by simp [execOp, resolve, invoke, builtin, Act.eval, e65, hd1, hd2, go_sem, k7v]) (wc_same hW (by decide))
          · have e5 : a.tmps.getD 5 undef = .slice (some ⟨T, 0, none⟩) (u.texts.length + 5) (u.texts.length + 5) := hJ.un 5 (fun i _ _ e => by have := k7_ge i; omega)
            have eg : a.tmps.getD 66 undef = .bool true := (hJ.sl 28 (by decide) (listed_of hi 28 (by kernel_rfl)) (by decide))
            exact rg_on hJ rfl (want_on (k := 28) (d := 66) (b := true) rfl rfl (by rw [hJ.ts]; decide) eg) rfl (by decide) (by decide) (k7_ne _ (by decide)) (w' := w') (by simp [execOp, resolve, invoke, builtin, Act.eval, e5, hd1, hd2, go_sem, k7v]) (wc_same hW (by decide))
          · have e6 : a.tmps.getD 6 undef = .int .i64 q := hJ.un 6 (fun i _ _ e => by have := k7_ge i; omega)
            have eg : a.tmps.getD 66 undef = .bool true := (hJ.sl 28 (by decide) (listed_of hi 28 (by kernel_rfl)) (by decide))
            exact rg_on hJ rfl (want_on (k := 28) (d := 66) (b := true) rfl rfl (by rw [hJ.ts]; decide) eg) rfl (by decide) (by decide) (k7_ne _ (by decide)) (w' := w') (by simp [execOp, resolve, invoke, builtin, Act.eval, e6, hd1, hd2, go_sem, k7v]) (wc_same hW (by decide))
          · have e67 : a.tmps.getD 67 undef = .slice (some ⟨T, 0, none⟩) (u.texts.length + 5) (u.texts.length + 5) := (hJ.sl 29 (by decide) (listed_of hi 29 (by kernel_rfl)) (by decide))
            have e68 : a.tmps.getD 68 undef = .int .i64 q := (hJ.sl 30 (by decide) (listed_of hi 30 (by kernel_rfl)) (by decide))
            have eg : a.tmps.getD 66 undef = .bool true := (hJ.sl 28 (by decide) (listed_of hi 28 (by kernel_rfl)) (by decide))
            exact rg_on hJ rfl (want_on (k := 28) (d := 66) (b := true) rfl rfl (by rw [hJ.ts]; decide) eg) rfl (by decide) (by decide) (k7_ne _ (by decide)) (w' := w') (by first | (simp [execOp, resolve, invoke, builtin, Act.eval, e67, e68, hd1, hd2, go_sem, k7v]; done) | (simp [execOp, resolve, invoke, builtin, Act.eval, e67, e68, hd1, hd2, go_sem, k7v]; omega) | (simp [execOp, resolve, invoke, builtin, Act.eval, e67, e68, hd1, hd2, go_sem, k7v]; intro h; omega) | (simp [execOp, resolve, invoke, builtin, Act.eval, e67, e68, hd1, hd2, go_sem, k7v]; intros; omega)) (wc_same hW (by decide))
          · have e69 : a.tmps.getD 69 undef = .pointer (some ⟨T, q * 2, none⟩) := (hJ.sl 31 (by decide) (listed_of hi 31 (by kernel_rfl)) (by decide))
            have eg : a.tmps.getD 66 undef = .bool true := (hJ.sl 28 (by decide) (listed_of hi 28 (by kernel_rfl)) (by decide))
            exact rg_on hJ rfl (want_on (k := 28) (d := 66) (b := true) rfl rfl (by rw [hJ.ts]; decide) eg) rfl (by decide) (by decide) (k7_ne _ (by decide)) (w' := w') (by simp [execOp, resolve, invoke, builtin, Act.eval, e69, hd1, hd2, go_sem, k7v]) (wc_same hW (by decide))
          · have e70 : a.tmps.getD 70 undef = .pointer (some ⟨T, q * 2, none⟩) := (hJ.sl 32 (by decide) (listed_of hi 32 (by kernel_rfl)) (by decide))
            have eg : a.tmps.getD 66 undef = .bool true := (hJ.sl 28 (by decide) (listed_of hi 28 (by kernel_rfl)) (by decide))
            have hc0 := cell_sp (w := wr.drew) c0 (wc_sp hW) nP1
            exact rg_on hJ rfl (want_on (k := 28) (d := 66) (b := true) rfl rfl (by rw [hJ.ts]; decide) eg) rfl (by decide) (by decide) (k7_ne _ (by decide)) (w' := w') (by simp [execOp, resolve, invoke, builtin, Act.eval, e70, hc0, hd1, hd2, go_sem, k7v]) (wc_same hW (by decide))
          · have e3 : a.tmps.getD 3 undef = .pointer (some ⟨(b0 + 1), 0, none⟩) := hJ.un 3 (fun i _ _ e => by have := k7_ge i; omega)
            have eg : a.tmps.getD 66 undef = .bool true := (hJ.sl 28 (by decide) (listed_of hi 28 (by kernel_rfl)) (by decide))
            exact rg_on hJ rfl (want_on (k := 28) (d := 66) (b := true) rfl rfl (by rw [hJ.ts]; decide) eg) rfl (by decide) (by decide) (k7_ne _ (by decide)) (w' := w') (by simp [execOp, resolve, invoke, builtin, Act.eval, e3, hd1, hd2, go_sem, k7v]) (wc_same hW (by decide))
          · have e72 : a.tmps.getD 72 undef = .pointer (some ⟨(b0 + 1), 0, none⟩) := (hJ.sl 34 (by decide) (listed_of hi 34 (by kernel_rfl)) (by decide))
            have eg : a.tmps.getD 66 undef = .bool true := (hJ.sl 28 (by decide) (listed_of hi 28 (by kernel_rfl)) (by decide))
            have hc0 := cell_sp (w := wr.drew) y0 (wc_sp hW) nP0
            exact rg_on hJ rfl (want_on (k := 28) (d := 66) (b := true) rfl rfl (by rw [hJ.ts]; decide) eg) rfl (by decide) (by decide) (k7_ne _ (by decide)) (w' := w') (by simp [execOp, resolve, invoke, builtin, Act.eval, e72, hc0, hd1, hd2, go_sem, k7v]) (wc_same hW (by decide))
          · have e6 : a.tmps.getD 6 undef = .int .i64 q := hJ.un 6 (fun i _ _ e => by have := k7_ge i; omega)
            have eg : a.tmps.getD 66 undef = .bool true := (hJ.sl 28 (by decide) (listed_of hi 28 (by kernel_rfl)) (by decide))
            exact rg_on hJ rfl (want_on (k := 28) (d := 66) (b := true) rfl rfl (by rw [hJ.ts]; decide) eg) rfl (by decide) (by decide) (k7_ne _ (by decide)) (w' := w') (by simp [execOp, resolve, invoke, builtin, Act.eval, e6, hd1, hd2, go_sem, k7v]) (wc_same hW (by decide))
          · have e73 : a.tmps.getD 73 undef = .slice (some ⟨bt, ot, none⟩) u.texts.length ct := (hJ.sl 35 (by decide) (listed_of hi 35 (by kernel_rfl)) (by decide))
            have e74 : a.tmps.getD 74 undef = .int .i64 q := (hJ.sl 36 (by decide) (listed_of hi 36 (by kernel_rfl)) (by decide))
            have eg : a.tmps.getD 66 undef = .bool true := (hJ.sl 28 (by decide) (listed_of hi 28 (by kernel_rfl)) (by decide))
            exact rg_on hJ rfl (want_on (k := 28) (d := 66) (b := true) rfl rfl (by rw [hJ.ts]; decide) eg) rfl (by decide) (by decide) (k7_ne _ (by decide)) (w' := w') (by first | (simp [execOp, resolve, invoke, builtin, Act.eval, e73, e74, hd1, hd2, go_sem, k7v]; done) | (simp [execOp, resolve, invoke, builtin, Act.eval, e73, e74, hd1, hd2, go_sem, k7v]; omega) | (simp [execOp, resolve, invoke, builtin, Act.eval, e73, e74, hd1, hd2, go_sem, k7v]; intro h; omega) | (simp [execOp, resolve, invoke, builtin, Act.eval, e73, e74, hd1, hd2, go_sem, k7v]; intros; omega)) (wc_same hW (by decide))
          · have e75 : a.tmps.getD 75 undef = .pointer (some ⟨bt, ot + q * 2, none⟩) := (hJ.sl 37 (by decide) (listed_of hi 37 (by kernel_rfl)) (by decide))
            have eg : a.tmps.getD 66 undef = .bool true := (hJ.sl 28 (by decide) (listed_of hi 28 (by kernel_rfl)) (by decide))
            exact rg_on hJ rfl (want_on (k := 28) (d := 66) (b := true) rfl rfl (by rw [hJ.ts]; decide) eg) rfl (by decide) (by decide) (k7_ne _ (by decide)) (w' := w') (by simp [execOp, resolve, invoke, builtin, Act.eval, e75, hd1, hd2, go_sem, k7v]) (wc_same hW (by decide))
          · have e76 : a.tmps.getD 76 undef = .pointer (some ⟨bt, ot + q * 2, none⟩) := (hJ.sl 38 (by decide) (listed_of hi 38 (by kernel_rfl)) (by decide))
            have eg : a.tmps.getD 66 undef = .bool true := (hJ.sl 28 (by decide) (listed_of hi 28 (by kernel_rfl)) (by decide))
            have hc0 := cell_sp (w := wr.drew) s0 (wc_sp hW) nP2
            exact rg_on hJ rfl (want_on (k := 28) (d := 66) (b := true) rfl rfl (by rw [hJ.ts]; decide) eg) rfl (by decide) (by decide) (k7_ne _ (by decide)) (w' := w') (by simp [execOp, resolve, invoke, builtin, Act.eval, e76, hc0, hd1, hd2, go_sem, k7v]) (wc_same hW (by decide))
          · have e71 : a.tmps.getD 71 undef = .string nm := (hJ.sl 33 (by decide) (listed_of hi 33 (by kernel_rfl)) (by decide))
            have e77 : a.tmps.getD 77 undef = .string nm := (hJ.sl 39 (by decide) (listed_of hi 39 (by kernel_rfl)) (by decide))
            have eg : a.tmps.getD 66 undef = .bool true := (hJ.sl 28 (by decide) (listed_of hi 28 (by kernel_rfl)) (by decide))
            exact rg_on hJ rfl (want_on (k := 28) (d := 66) (b := true) rfl rfl (by rw [hJ.ts]; decide) eg) rfl (by decide) (by decide) (k7_ne _ (by decide)) (w' := w') (by simp [execOp, resolve, invoke, builtin, Act.eval, e71, e77, hd1, hd2, go_sem, k7v]) (wc_same hW (by decide))
          · have e78 : a.tmps.getD 78 undef = .bool false := (hJ.sl 40 (by decide) (listed_of hi 40 (by kernel_rfl)) (by decide))
            have eg : a.tmps.getD 66 undef = .bool true := (hJ.sl 28 (by decide) (listed_of hi 28 (by kernel_rfl)) (by decide))
            exact rg_on hJ rfl (want_on (k := 28) (d := 66) (b := true) rfl rfl (by rw [hJ.ts]; decide) eg) rfl (by decide) (by decide) (k7_ne _ (by decide)) (w' := w') (by simp [execOp, resolve, invoke, builtin, Act.eval, e78, hd1, hd2, go_sem, k7v]) (wc_same hW (by decide))
          · have e5 : a.tmps.getD 5 undef = .slice (some ⟨T, 0, none⟩) (u.texts.length + 5) (u.texts.length + 5) := hJ.un 5 (fun i _ _ e => by have := k7_ge i; omega)
            have eg : a.tmps.getD 79 undef = .bool false := (hJ.sl 41 (by decide) (listed_of hi 41 (by kernel_rfl)) (by decide))
            exact rg_on hJ rfl (want_on (k := 41) (d := 79) (b := false) rfl rfl (by rw [hJ.ts]; decide) eg) rfl (by decide) (by decide) (k7_ne _ (by decide)) (w' := w') (by simp [execOp, resolve, invoke, builtin, Act.eval, e5, hd1, hd2, go_sem, k7v]) (wc_same hW (by decide))
          · have e6 : a.tmps.getD 6 undef = .int .i64 q := hJ.un 6 (fun i _ _ e => by have := k7_ge i; omega)
            have eg : a.tmps.getD 79 undef = .bool false := (hJ.sl 41 (by decide) (listed_of hi 41 (by kernel_rfl)) (by decide))
            exact rg_on hJ rfl (want_on (k := 41) (d := 79) (b := false) rfl rfl (by rw [hJ.ts]; decide) eg) rfl (by decide) (by decide) (k7_ne _ (by decide)) (w' := w') (by simp [execOp, resolve, invoke, builtin, Act.eval, e6, hd1, hd2, go_sem, k7v]) (wc_same hW (by decide))
          · have e80 : a.tmps.getD 80 undef = .slice (some ⟨T, 0, none⟩) (u.texts.length + 5) (u.texts.length + 5) := (hJ.sl 42 (by decide) (listed_of hi 42 (by kernel_rfl)) (by decide))
            have e81 : a.tmps.getD 81 undef = .int .i64 q := (hJ.sl 43 (by decide) (listed_of hi 43 (by kernel_rfl)) (by decide))
            have eg : a.tmps.getD 79 undef = .bool false := (hJ.sl 41 (by decide) (listed_of hi 41 (by kernel_rfl)) (by decide))
            exact rg_on hJ rfl (want_on (k := 41) (d := 79) (b := false) rfl rfl (by rw [hJ.ts]; decide) eg) rfl (by decide) (by decide) (k7_ne _ (by decide)) (w' := w') (by first | (simp [execOp, resolve, invoke, builtin, Act.eval, e80, e81, hd1, hd2, go_sem, k7v]; done) | (simp [execOp, resolve, invoke, builtin, Act.eval, e80, e81, hd1, hd2, go_sem, k7v]; omega) | (simp [execOp, resolve, invoke, builtin, Act.eval, e80, e81, hd1, hd2, go_sem, k7v]; intro h; omega) | (simp [execOp, resolve, invoke, builtin, Act.eval, e80, e81, hd1, hd2, go_sem, k7v]; intros; omega)) (wc_same hW (by decide))
          · have e82 : a.tmps.getD 82 undef = .pointer (some ⟨T, q * 2, none⟩) := (hJ.sl 44 (by decide) (listed_of hi 44 (by kernel_rfl)) (by decide))
            have eg : a.tmps.getD 79 undef = .bool false := (hJ.sl 41 (by decide) (listed_of hi 41 (by kernel_rfl)) (by decide))
            exact rg_on hJ rfl (want_on (k := 41) (d := 79) (b := false) rfl rfl (by rw [hJ.ts]; decide) eg) rfl (by decide) (by decide) (k7_ne _ (by decide)) (w' := w') (by simp [execOp, resolve, invoke, builtin, Act.eval, e82, hd1, hd2, go_sem, k7v]) (wc_same hW (by decide))
          · have e83 : a.tmps.getD 83 undef = .pointer (some ⟨T, q * 2 + 1, none⟩) := (hJ.sl 45 (by decide) (listed_of hi 45 (by kernel_rfl)) (by decide))
            have eg : a.tmps.getD 79 undef = .bool false := (hJ.sl 41 (by decide) (listed_of hi 41 (by kernel_rfl)) (by decide))
            have hc0 := cell_sp (w := wr.drew) c1 (wc_sp hW) nP1
            exact rg_on hJ rfl (want_on (k := 41) (d := 79) (b := false) rfl rfl (by rw [hJ.ts]; decide) eg) rfl (by decide) (by decide) (k7_ne _ (by decide)) (w' := w') (by simp [execOp, resolve, invoke, builtin, Act.eval, e83, hc0, hd1, hd2, go_sem, k7v]) (wc_same hW (by decide))
          · have e3 : a.tmps.getD 3 undef = .pointer (some ⟨(b0 + 1), 0, none⟩) := hJ.un 3 (fun i _ _ e => by have := k7_ge i; omega)
            have eg : a.tmps.getD 79 undef = .bool false := (hJ.sl 41 (by decide) (listed_of hi 41 (by kernel_rfl)) (by decide))
            exact rg_on hJ rfl (want_on (k := 41) (d := 79) (b := false) rfl rfl (by rw [hJ.ts]; decide) eg) rfl (by decide) (by decide) (k7_ne _ (by decide)) (w' := w') (by simp [execOp, resolve, invoke, builtin, Act.eval, e3, hd1, hd2, go_sem, k7v]) (wc_same hW (by decide))
          · have e85 : a.tmps.getD 85 undef = .pointer (some ⟨(b0 + 1), 0, none⟩) := (hJ.sl 47 (by decide) (listed_of hi 47 (by kernel_rfl)) (by decide))
            have eg : a.tmps.getD 79 undef = .bool false := (hJ.sl 41 (by decide) (listed_of hi 41 (by kernel_rfl)) (by decide))
            have hc0 := cell_sp (w := wr.drew) y0 (wc_sp hW) nP0
            exact rg_on hJ rfl (want_on (k := 41) (d := 79) (b := false) rfl rfl (by rw [hJ.ts]; decide) eg) rfl (by decide) (by decide) (k7_ne _ (by decide)) (w' := w') (by simp [execOp, resolve, invoke, builtin, Act.eval, e85, hc0, hd1, hd2, go_sem, k7v]) (wc_same hW (by decide))
          · have e6 : a.tmps.getD 6 undef = .int .i64 q := hJ.un 6 (fun i _ _ e => by have := k7_ge i; omega)
            have eg : a.tmps.getD 79 undef = .bool false := (hJ.sl 41 (by decide) (listed_of hi 41 (by kernel_rfl)) (by decide))
            exact rg_on hJ rfl (want_on (k := 41) (d := 79) (b := false) rfl rfl (by rw [hJ.ts]; decide) eg) rfl (by decide) (by decide) (k7_ne _ (by decide)) (w' := w') (by simp [execOp, resolve, invoke, builtin, Act.eval, e6, hd1, hd2, go_sem, k7v]) (wc_same hW (by decide))
          · have e86 : a.tmps.getD 86 undef = .slice (some ⟨bt, ot, none⟩) u.texts.length ct := (hJ.sl 48 (by decide) (listed_of hi 48 (by kernel_rfl)) (by decide))
            have e87 : a.tmps.getD 87 undef = .int .i64 q := (hJ.sl 49 (by decide) (listed_of hi 49 (by kernel_rfl)) (by decide))
            have eg : a.tmps.getD 79 undef = .bool false := (hJ.sl 41 (by decide) (listed_of hi 41 (by kernel_rfl)) (by decide))
            exact rg_on hJ rfl (want_on (k := 41) (d := 79) (b := false) rfl rfl (by rw [hJ.ts]; decide) eg) rfl (by decide) (by decide) (k7_ne _ (by decide)) (w' := w') (by first | (simp [execOp, resolve, invoke, builtin, Act.eval, e86, e87, hd1, hd2, go_sem, k7v]; done) | (simp [execOp, resolve, invoke, builtin, Act.eval, e86, e87, hd1, hd2, go_sem, k7v]; omega) | (simp [execOp, resolve, invoke, builtin, Act.eval, e86, e87, hd1, hd2, go_sem, k7v]; intro h; omega) | (simp [execOp, resolve, invoke, builtin, Act.eval, e86, e87, hd1, hd2, go_sem, k7v]; intros; omega)) (wc_same hW (by decide))
          · have e88 : a.tmps.getD 88 undef = .pointer (some ⟨bt, ot + q * 2, none⟩) := (hJ.sl 50 (by decide) (listed_of hi 50 (by kernel_rfl)) (by decide))
            have eg : a.tmps.getD 79 undef = .bool false := (hJ.sl 41 (by decide) (listed_of hi 41 (by kernel_rfl)) (by decide))
            exact rg_on hJ rfl (want_on (k := 41) (d := 79) (b := false) rfl rfl (by rw [hJ.ts]; decide) eg) rfl (by decide) (by decide) (k7_ne _ (by decide)) (w' := w') (by simp [execOp, resolve, invoke, builtin, Act.eval, e88, hd1, hd2, go_sem, k7v]) (wc_same hW (by decide))
          · have e89 : a.tmps.getD 89 undef = .pointer (some ⟨bt, ot + q * 2 + 1, none⟩) := (hJ.sl 51 (by decide) (listed_of hi 51 (by kernel_rfl)) (by decide))
            have eg : a.tmps.getD 79 undef = .bool false := (hJ.sl 41 (by decide) (listed_of hi 41 (by kernel_rfl)) (by decide))
            have hc0 := cell_sp (w := wr.drew) s1 (wc_sp hW) nP2
            exact rg_on hJ rfl (want_on (k := 41) (d := 79) (b := false) rfl rfl (by rw [hJ.ts]; decide) eg) rfl (by decide) (by decide) (k7_ne _ (by decide)) (w' := w') (by simp [execOp, resolve, invoke, builtin, Act.eval, e89, hc0, hd1, hd2, go_sem, k7v]) (wc_same hW (by decide))
          · have e84 : a.tmps.getD 84 undef = .slice (some ⟨(gs q), 0, none⟩) d.length (d.length + 67) := (hJ.sl 46 (by decide) (listed_of hi 46 (by kernel_rfl)) (by decide))
            have e90 : a.tmps.getD 90 undef = .slice pd d.length cd := (hJ.sl 52 (by decide) (listed_of hi 52 (by kernel_rfl)) (by decide))
            have eg : a.tmps.getD 79 undef = .bool false := (hJ.sl 41 (by decide) (listed_of hi 41 (by kernel_rfl)) (by decide))
            have hw0 := hW.h0 hun
            subst hw0
            exact rg_call hJ rfl (want_on (k := 41) (d := 79) (b := false) rfl rfl (by rw [hJ.ts]; decide) eg) rfl (by decide) (by decide) (k7_ne _ (by decide)) (by simp [execOp, resolve, invoke, Act.eval, e84, e90, go_sem]) (KC.out.mono fun e w2 he => ⟨he.1, wc_call hW.sz (by decide) he.2⟩)
          · have e91 : a.tmps.getD 91 undef = .bool true := (hJ.sl 53 (by decide) (listed_of hi 53 (by kernel_rfl)) (by decide))
            have eg : a.tmps.getD 79 undef = .bool false := (hJ.sl 41 (by decide) (listed_of hi 41 (by kernel_rfl)) (by decide))
            exact rg_on hJ rfl (want_on (k := 41) (d := 79) (b := false) rfl rfl (by rw [hJ.ts]; decide) eg) rfl (by decide) (by decide) (k7_ne _ (by decide)) (w' := w') (by simp [execOp, resolve, invoke, builtin, Act.eval, e91, hd1, hd2, go_sem, k7v]) (wc_same hW (by decide))
          · have e79 : a.tmps.getD 79 undef = .bool false := (hJ.sl 41 (by decide) (listed_of hi 41 (by kernel_rfl)) (by decide))
            have e92 : a.tmps.getD 92 undef = .bool false := (hJ.sl 54 (by decide) (listed_of hi 54 (by kernel_rfl)) (by decide))
            have eg : a.tmps.getD 66 undef = .bool true := (hJ.sl 28 (by decide) (listed_of hi 28 (by kernel_rfl)) (by decide))
            exact rg_on hJ rfl (want_on (k := 28) (d := 66) (b := true) rfl rfl (by rw [hJ.ts]; decide) eg) rfl (by decide) (by decide) (k7_ne _ (by decide)) (w' := w') (by simp [execOp, resolve, invoke, builtin, Act.eval, e79, e92, hd1, hd2, go_sem, k7v]) (wc_same hW (by decide))
          · have e66 : a.tmps.getD 66 undef = .bool true := (hJ.sl 28 (by decide) (listed_of hi 28 (by kernel_rfl)) (by decide))
            have e93 : a.tmps.getD 93 undef = .bool false := (hJ.sl 55 (by decide) (listed_of hi 55 (by kernel_rfl)) (by decide))
            have eg : a.tmps.getD 60 undef = .bool false := (hJ.sl 22 (by decide) (listed_of hi 22 (by kernel_rfl)) (by decide))
            exact rg_on hJ rfl (want_on (k := 22) (d := 60) (b := false) rfl rfl (by rw [hJ.ts]; decide) eg) rfl (by decide) (by decide) (k7_ne _ (by decide)) (w' := w') (by simp [execOp, resolve, invoke, builtin, Act.eval, e66, e93, hd1, hd2, go_sem, k7v]) (wc_same hW (by decide))
          · have e60 : a.tmps.getD 60 undef = .bool false := (hJ.sl 22 (by decide) (listed_of hi 22 (by kernel_rfl)) (by decide))
            have e94 : a.tmps.getD 94 undef = .bool false := (hJ.sl 56 (by decide) (listed_of hi 56 (by kernel_rfl)) (by decide))
            exact rg_on hJ rfl (by rfl) rfl (by decide) (by decide) (k7_ne _ (by decide)) (w' := w') (by simp [execOp, resolve, invoke, builtin, Act.eval, e60, e94, hd1, hd2, go_sem, k7v]) (wc_same hW (by decide))
        case fin =>
          intro l a w' hJ hW hl
          have G2 := Lib.hid (hW.h1 (hl 53 (by decide)))
          have hput := rj_puts hJ rfl hl (fun i j h1 h2 h3 => k7_ne j h2 i h1 h3)
          subst hput
          clear hJ hW hl
          simp only [putsF, k7, k7v, Act.put, Nat.reduceLT, if_true, ite_true, Nat.reduceAdd, List.setIfInBounds_toArray, List.set_cons_zero, List.set_cons_succ]
          have ROW := Lib.hid (row_sp (w := wr.drew) HT.out.blk G2.out nP1)
          have t1 := ROW.out.cell (i := q * 2) (by omega)
          have t2 := ROW.out.cell (i := q * 2 + 1) (by omega)
          have z0 := ROW.out.frozen (q * 2)
          have z1 := ROW.out.frozen (q * 2 + 1)
          have l1 := ROW.out.lt
          go_wp2
          go_roundw
          case rel => exact ⟨q + 1, _, by go_num, by omega, lt_next HT.out (row_set2 ROW.out q _ _) (set2_ge _ _ _ _) (fun k hk h1 h2 => by rw [blk_set2 w' T _ _ _ _ h1]; exact G2.out.block k hk (h2 hqn)), sp_set (sp_set (sp_trans S.out (sp_weaken (P := fun k => k = gs q) (Q := PT T Fb) (w := wr) ⟨G2.out.os, G2.out.tape, G2.out.output, G2.out.size, G2.out.block⟩ fun k _ e => by have := HGT.out; have := HGF.out; unfold PT; omega) (fun _ _ h => h)) (by unfold PT; omega)) (by unfold PT; omega)⟩
          case measure => simp [intOf]; omega
      · obtain ⟨a1, a2⟩ := hT.tm q (Nat.le_refl _) (by omega) (by omega)
        rw [a1] at c0
        rw [a2] at c1
        have hd1 : decide (u.texts.length ≤ q) = true := by simp; omega
        have hd2 : decide (q < u.texts.length) = false := by simp; omega
        have hqT : q < u.texts.length + 5 := by omega
        clear hT hsp hby hbx a1 a2 x1 xl y1
        go_wp2
        go_quiet (fail)
        go_wp2
        go_roundw
        case rel => exact ⟨q + 1, _, by go_num, by omega, lt_next HT.out (row_set2 (row_kept HT.out.blk (grownBy_drewN wr nq none) (by simp)) q _ _) (set2_ge _ _ _ _) (fun k hk h1 h2 => by rw [blk_set2 _ T _ _ _ _ h1, blk_drewN]), sp_set (sp_set (sp_drewN' S.out nq) (by unfold PT; omega)) (by unfold PT; omega)⟩
        case measure => simp [intOf]; omega
    · clear hT hby hbx y0
      have LF0 := Lib.hid (lf_from (lf_sp (lf_kept LU.out.f GB.out) hsp (by intro k hk; unfold PT; omega)))
      have S0 := Lib.hid (show Sp (PT T hi) wB wr from sp_weaken hsp fun k _ e => by unfold PT at *; omega)
      clear hsp
      go_wp2
      clear y1 yl x1 xl
      go_loopw [8] (fun i wr => ∃ (q : Nat) (F : Nat → Value), i = .int .i64 q ∧ q ≤ u.funcs.length + 5 ∧ LF wr Fb u.funcs ls ps F (fun j => q ≤ j) ∧ Sp (PT T hi) wB wr) (fun i _ => u.funcs.length + 5 - (intOf i).toNat)
      case atStart => exact ⟨0, Ff, rfl, Nat.zero_le _, LF0.out, S0.out⟩
      case round =>
        clear LF0 S0 hq hlt HT S
        obtain ⟨q, F, rfl, hq, hF, hsp⟩ := hrel
        have HF := Lib.hid hF
        have S := Lib.hid hsp
        have hby := boxU_sp BY.out hsp (by unfold PT; omega)
        have y1 := boxU_1 hby
        have yl := boxU_lt hby
        by_cases hlt : (q : Int) < (u.funcs.length : Int) + 5
        · have c0 := hF.blk.cell (i := q * 4) (by omega)
          have c1 := hF.blk.cell (i := q * 4 + 1) (by omega)
          have c2 := hF.blk.cell (i := q * 4 + 2) (by omega)
          have c3 := hF.blk.cell (i := q * 4 + 3) (by omega)
          have l0 := hF.blk.lt
          by_cases hlt2 : (q : Int) < (u.funcs.length : Int)
          · obtain ⟨bF, oF, rfl, hbF, hcF⟩ := UU.out.funcs (by omega)
            obtain ⟨f, hqf⟩ : ∃ x, u.funcs[q]? = some x := ⟨_, List.getElem?_eq_getElem (by omega)⟩
            obtain ⟨e0, e1, ⟨pl, cl, e2, hsl⟩, ⟨pp, cp, e3, hsq⟩⟩ := hcF q f hqf
            obtain ⟨a0, a1, a2, a3, a4⟩ := hF.fx q f (Nat.le_refl _) hqf
            rw [a0] at c0
            rw [a1] at c1
            rw [a2] at c2
            rw [a3] at c3
            have hfl := HU.out.f f (List.mem_of_getElem? hqf)
            obtain ⟨hlo1, hlo2⟩ := hF.lo q (Nat.le_refl _) (by omega)
            have hll : ps q < hi := HPS.out q (by omega)
            have hUle := UU.out.le
            have s0 := cell_sp (GB.out.cell e0 (by simp)) hsp (by unfold PT; omega)
            have s1 := cell_sp (GB.out.cell e1 (by simp)) hsp (by unfold PT; omega)
            have s2 := cell_sp (GB.out.cell e2 (by simp)) hsp (by unfold PT; omega)
            have s3 := cell_sp (GB.out.cell e3 (by simp)) hsp (by unfold PT; omega)
            have sl := World.block_lt_of_cell? _ _ s0
            have h5 := strsB_sp2 (strsB_kept hsl GB.out (by simp)) hsp (by intro k hk; unfold PT; omega)
            have h6 := partsB_sp2 (partsB_kept hsq GB.out (by simp)) hsp (by intro k hk; unfold PT; omega)
            have KC := Lib.hid (kept_fn f pl pp cl cp B (ls q) (ps q) wr.drew hfl.1 hfl.2 h5 h6 (Nat.le_trans (Nat.le_trans hUle GB.out.size) hsp.size) (by omega) ⟨a4.rl, a4.rp⟩)
            have nP0 : ¬ PB (ls q) (ps q) (b0 + 1) := by unfold PB; omega
            have nP1 : ¬ PB (ls q) (ps q) Fb := by unfold PB; omega
            have nP2 : ¬ PB (ls q) (ps q) bF := by unfold PB; omega
            have HL1 := Lib.hid hlo1
            have HL2 := Lib.hid hlo2
            have HL3 := Lib.hid hll
            have hd1 : decide (u.funcs.length ≤ q) = false := by simp; omega
            have hd2 : decide (q < u.funcs.length) = true := by simp; omega
            have hqT : q < u.funcs.length + 5 := by omega
            have hqn : q < u.funcs.length := by omega
            clear hF hsp hby hcF hbF e0 e1 e2 e3 hsl hsq a0 a1 a2 a3 a4 hqf h5 h6 hfl hUle
            go_wp2
            refine region_rj (N := 166) (n := 49) (dst := k14) (val := (k14v (b0 + 1) Fb bF oF q u.funcs.length cf f.locals.length cl f.parts.length cp (ls q) (ps q) f.name f.args pl pp)) (WS := WSc 45 49 (PB (ls q) (ps q)) wr.drew) (by kernel_rfl) rfl rfl (dag_of (by kernel_rfl)) (wc_start _ _ _ _) ?step ?fin
            case step =>
              intro l a w' i hJ hW hi
              have hin : i < 49 := by
                obtain ⟨_, o, ho, _⟩ := mem_ready.1 hi
                exact (Array.getElem?_eq_some_iff.1 ho).1
              have hun : l.getD i false = false := getD_both (mem_ready.1 hi).1
              rcases k14_un i hin with rfl | rfl | rfl | rfl | rfl | rfl | rfl | rfl | rfl | rfl | rfl | rfl | rfl | rfl | rfl | rfl | rfl | rfl | rfl | rfl | rfl | rfl | rfl | rfl | rfl | rfl | rfl | rfl | rfl | rfl | rfl | rfl | rfl | rfl | rfl | rfl | rfl | rfl | rfl | rfl | rfl | rfl | rfl | rfl | rfl | rfl | rfl | rfl | rfl
              · have e8 : a.tmps.getD 8 undef = .int .i64 q := hJ.un 8 (fun i _ _ e => by have := k14_ge i; omega)
                exact rg_on hJ rfl (by rfl) rfl (by decide) (by decide) (k14_ne _ (by decide)) (w' := w') (by simp [execOp, resolve, invoke, builtin, Act.eval, e8, hd1, hd2, go_sem, k14v]) (wc_same hW (by decide))
              · have e3 : a.tmps.getD 3 undef = .pointer (some ⟨(b0 + 1), 0, none⟩) := hJ.un 3 (fun i _ _ e => by have := k14_ge i; omega)
                exact rg_on hJ rfl (by rfl) rfl (by decide) (by decide) (k14_ne _ (by decide)) (w' := w') (by simp [execOp, resolve, invoke, builtin, Act.eval, e3, hd1, hd2, go_sem, k14v]) (wc_same hW (by decide))
              · have e114 : a.tmps.getD 114 undef = .pointer (some ⟨(b0 + 1), 1, none⟩) := (hJ.sl 1 (by decide) (listed_of hi 1 (by kernel_rfl)) (by decide))
                have hc0 := cell_sp (w := wr.drew) y1 (wc_sp hW) nP0
                exact rg_on hJ rfl (by rfl) rfl (by decide) (by decide) (k14_ne _ (by decide)) (w' := w') (by simp [execOp, resolve, invoke, builtin, Act.eval, e114, hc0, hd1, hd2, go_sem, k14v]) (wc_same hW (by decide))
              · have e115 : a.tmps.getD 115 undef = .slice (some ⟨bF, oF, none⟩) u.funcs.length cf := (hJ.sl 2 (by decide) (listed_of hi 2 (by kernel_rfl)) (by decide))
                exact rg_on hJ rfl (by rfl) rfl (by decide) (by decide) (k14_ne _ (by decide)) (w' := w') (by simp [execOp, resolve, invoke, builtin, Act.eval, e115, hd1, hd2, go_sem, k14v]) (wc_same hW (by decide))
              · have e113 : a.tmps.getD 113 undef = .int .i64 q := (hJ.sl 0 (by decide) (listed_of hi 0 (by kernel_rfl)) (by decide))
                have e116 : a.tmps.getD 116 undef = .int .i64 u.funcs.length := (hJ.sl 3 (by decide) (listed_of hi 3 (by kernel_rfl)) (by decide))
                exact rg_on hJ rfl (by rfl) rfl (by decide) (by decide) (k14_ne _ (by decide)) (w' := w') (by simp [execOp, resolve, invoke, builtin, Act.eval, e113, e116, hd1, hd2, go_sem, k14v]) (wc_same hW (by decide))
              · have e117 : a.tmps.getD 117 undef = .bool false := (hJ.sl 4 (by decide) (listed_of hi 4 (by kernel_rfl)) (by decide))
                exact rg_on hJ rfl (by rfl) rfl (by decide) (by decide) (k14_ne _ (by decide)) (w' := w') (by simp [execOp, resolve, invoke, builtin, Act.eval, e117, hd1, hd2, go_sem, k14v]) (wc_same hW (by decide))
              · have eg : a.tmps.getD 118 undef = .bool false := (hJ.sl 5 (by decide) (listed_of hi 5 (by kernel_rfl)) (by decide))
                exact rg_off hJ rfl (want_off (k := 5) (d := 118) (b := true) rfl rfl (by rw [hJ.ts]; decide) (by rw [eg]; simp [undef])) rfl (by decide) (by decide) (k14_ne _ (by decide)) rfl (wc_same hW (by decide))
              · have eg : a.tmps.getD 118 undef = .bool false := (hJ.sl 5 (by decide) (listed_of hi 5 (by kernel_rfl)) (by decide))
                exact rg_off hJ rfl (want_off (k := 5) (d := 118) (b := true) rfl rfl (by rw [hJ.ts]; decide) (by rw [eg]; simp [undef])) rfl (by decide) (by decide) (k14_ne _ (by decide)) rfl (wc_same hW (by decide))
              · have eg : a.tmps.getD 118 undef = .bool false := (hJ.sl 5 (by decide) (listed_of hi 5 (by kernel_rfl)) (by decide))
                exact rg_off hJ rfl (want_off (k := 5) (d := 118) (b := true) rfl rfl (by rw [hJ.ts]; decide) (by rw [eg]; simp [undef])) rfl (by decide) (by decide) (k14_ne _ (by decide)) rfl (wc_same hW (by decide))
              · have eg : a.tmps.getD 118 undef = .bool false := (hJ.sl 5 (by decide) (listed_of hi 5 (by kernel_rfl)) (by decide))
                exact rg_off hJ rfl (want_off (k := 5) (d := 118) (b := true) rfl rfl (by rw [hJ.ts]; decide) (by rw [eg]; simp [undef])) rfl (by decide) (by decide) (k14_ne _ (by decide)) rfl (wc_same hW (by decide))
              · have eg : a.tmps.getD 118 undef = .bool false := (hJ.sl 5 (by decide) (listed_of hi 5 (by kernel_rfl)) (by decide))
                exact rg_off hJ rfl (want_off (k := 5) (d := 118) (b := true) rfl rfl (by rw [hJ.ts]; decide) (by rw [eg]; simp [undef])) rfl (by decide) (by decide) (k14_ne _ (by decide)) rfl (wc_same hW (by decide))
              · have eg : a.tmps.getD 118 undef = .bool false := (hJ.sl 5 (by decide) (listed_of hi 5 (by kernel_rfl)) (by decide))
                exact rg_off hJ rfl (want_off (k := 5) (d := 118) (b := true) rfl rfl (by rw [hJ.ts]; decide) (by rw [eg]; simp [undef])) rfl (by decide) (by decide) (k14_ne _ (by decide)) rfl (wc_same hW (by decide))
              · have eg : a.tmps.getD 118 undef = .bool false := (hJ.sl 5 (by decide) (listed_of hi 5 (by kernel_rfl)) (by decide))
                exact rg_off hJ rfl (want_off (k := 5) (d := 118) (b := true) rfl rfl (by rw [hJ.ts]; decide) (by rw [eg]; simp [undef])) rfl (by decide) (by decide) (k14_ne _ (by decide)) rfl (wc_same hW (by decide))
              · have eg : a.tmps.getD 125 undef = undef := (hJ.sl 12 (by decide) (listed_of hi 12 (by kernel_rfl)) (by decide))
                exact rg_off hJ rfl (want_off (k := 12) (d := 125) (b := false) rfl rfl (by rw [hJ.ts]; decide) (by rw [eg]; simp [undef])) rfl (by decide) (by decide) (k14_ne _ (by decide)) rfl (wc_same hW (by decide))
              · have eg : a.tmps.getD 125 undef = undef := (hJ.sl 12 (by decide) (listed_of hi 12 (by kernel_rfl)) (by decide))
                exact rg_off hJ rfl (want_off (k := 12) (d := 125) (b := false) rfl rfl (by rw [hJ.ts]; decide) (by rw [eg]; simp [undef])) rfl (by decide) (by decide) (k14_ne _ (by decide)) rfl (wc_same hW (by decide))
              · have eg : a.tmps.getD 125 undef = undef := (hJ.sl 12 (by decide) (listed_of hi 12 (by kernel_rfl)) (by decide))
                exact rg_off hJ rfl (want_off (k := 12) (d := 125) (b := false) rfl rfl (by rw [hJ.ts]; decide) (by rw [eg]; simp [undef])) rfl (by decide) (by decide) (k14_ne _ (by decide)) rfl (wc_same hW (by decide))
              · have eg : a.tmps.getD 125 undef = undef := (hJ.sl 12 (by decide) (listed_of hi 12 (by kernel_rfl)) (by decide))
                exact rg_off hJ rfl (want_off (k := 12) (d := 125) (b := false) rfl rfl (by rw [hJ.ts]; decide) (by rw [eg]; simp [undef])) rfl (by decide) (by decide) (k14_ne _ (by decide)) rfl (wc_same hW (by decide))
              · have eg : a.tmps.getD 125 undef = undef := (hJ.sl 12 (by decide) (listed_of hi 12 (by kernel_rfl)) (by decide))
                exact rg_off hJ rfl (want_off (k := 12) (d := 125) (b := false) rfl rfl (by rw [hJ.ts]; decide) (by rw [eg]; simp [undef])) rfl (by decide) (by decide) (k14_ne _ (by decide)) rfl (wc_same hW (by decide))
              · have eg : a.tmps.getD 125 undef = undef := (hJ.sl 12 (by decide) (listed_of hi 12 (by kernel_rfl)) (by decide))
                exact rg_off hJ rfl (want_off (k := 12) (d := 125) (b := false) rfl rfl (by rw [hJ.ts]; decide) (by rw [eg]; simp [undef])) rfl (by decide) (by decide) (k14_ne _ (by decide)) rfl (wc_same hW (by decide))
              · have eg : a.tmps.getD 125 undef = undef := (hJ.sl 12 (by decide) (listed_of hi 12 (by kernel_rfl)) (by decide))
                exact rg_off hJ rfl (want_off (k := 12) (d := 125) (b := false) rfl rfl (by rw [hJ.ts]; decide) (by rw [eg]; simp [undef])) rfl (by decide) (by decide) (k14_ne _ (by decide)) rfl (wc_same hW (by decide))
              · have eg : a.tmps.getD 125 undef = undef := (hJ.sl 12 (by decide) (listed_of hi 12 (by kernel_rfl)) (by decide))
                exact rg_off hJ rfl (want_off (k := 12) (d := 125) (b := false) rfl rfl (by rw [hJ.ts]; decide) (by rw [eg]; simp [undef])) rfl (by decide) (by decide) (k14_ne _ (by decide)) rfl (wc_same hW (by decide))
              · have eg : a.tmps.getD 125 undef = undef := (hJ.sl 12 (by decide) (listed_of hi 12 (by kernel_rfl)) (by decide))
                exact rg_off hJ rfl (want_off (k := 12) (d := 125) (b := false) rfl rfl (by rw [hJ.ts]; decide) (by rw [eg]; simp [undef])) rfl (by decide) (by decide) (k14_ne _ (by decide)) rfl (wc_same hW (by decide))
              · have eg : a.tmps.getD 125 undef = undef := (hJ.sl 12 (by decide) (listed_of hi 12 (by kernel_rfl)) (by decide))
                exact rg_off hJ rfl (want_off (k := 12) (d := 125) (b := false) rfl rfl (by rw [hJ.ts]; decide) (by rw [eg]; simp [undef])) rfl (by decide) (by decide) (k14_ne _ (by decide)) rfl (wc_same hW (by decide))
              · have eg : a.tmps.getD 125 undef = undef := (hJ.sl 12 (by decide) (listed_of hi 12 (by kernel_rfl)) (by decide))
                exact rg_off hJ rfl (want_off (k := 12) (d := 125) (b := false) rfl rfl (by rw [hJ.ts]; decide) (by rw [eg]; simp [undef])) rfl (by decide) (by decide) (k14_ne _ (by decide)) rfl (wc_same hW (by decide))
              · have eg : a.tmps.getD 125 undef = undef := (hJ.sl 12 (by decide) (listed_of hi 12 (by kernel_rfl)) (by decide))
                exact rg_off hJ rfl (want_off (k := 12) (d := 125) (b := false) rfl rfl (by rw [hJ.ts]; decide) (by rw [eg]; simp [undef])) rfl (by decide) (by decide) (k14_ne _ (by decide)) rfl (wc_same hW (by decide))
              · have eg : a.tmps.getD 125 undef = undef := (hJ.sl 12 (by decide) (listed_of hi 12 (by kernel_rfl)) (by decide))
                exact rg_off hJ rfl (want_off (k := 12) (d := 125) (b := false) rfl rfl (by rw [hJ.ts]; decide) (by rw [eg]; simp [undef])) rfl (by decide) (by decide) (k14_ne _ (by decide)) rfl (wc_same hW (by decide))
              · have eg : a.tmps.getD 125 undef = undef := (hJ.sl 12 (by decide) (listed_of hi 12 (by kernel_rfl)) (by decide))
                exact rg_off hJ rfl (want_off (k := 12) (d := 125) (b := false) rfl rfl (by rw [hJ.ts]; decide) (by rw [eg]; simp [undef])) rfl (by decide) (by decide) (k14_ne _ (by decide)) rfl (wc_same hW (by decide))
              · have eg : a.tmps.getD 118 undef = .bool false := (hJ.sl 5 (by decide) (listed_of hi 5 (by kernel_rfl)) (by decide))
                exact rg_off hJ rfl (want_off (k := 5) (d := 118) (b := true) rfl rfl (by rw [hJ.ts]; decide) (by rw [eg]; simp [undef])) rfl (by decide) (by decide) (k14_ne _ (by decide)) rfl (wc_same hW (by decide))
              · have e118 : a.tmps.getD 118 undef = .bool false := (hJ.sl 5 (by decide) (listed_of hi 5 (by kernel_rfl)) (by decide))
                have e140 : a.tmps.getD 140 undef = undef := (hJ.sl 27 (by decide) (listed_of hi 27 (by kernel_rfl)) (by decide))
                exact rg_on hJ rfl (by rfl) rfl (by decide) (by decide) (k14_ne _ (by decide)) (w' := w') (by simp [execOp, resolve, invoke, builtin, Act.eval, e118, e140, hd1, hd2, go_sem, k14v]) (wc_same hW (by decide))
              · have e141 : a.tmps.getD 141 undef = .bool false := (hJ.sl 28 (by decide) (listed_of hi 28 (by kernel_rfl)) (by decide))
                exact rg_on hJ rfl (by rfl) rfl (by decide) (by decide) (k14_ne _ (by decide)) (w' := w') (by simp [execOp, resolve, invoke, builtin, Act.eval, e141, hd1, hd2, go_sem, k14v]) (wc_same hW (by decide))
              · have e8 : a.tmps.getD 8 undef = .int .i64 q := hJ.un 8 (fun i _ _ e => by have := k14_ge i; omega)
                have eg : a.tmps.getD 142 undef = .bool false := (hJ.sl 29 (by decide) (listed_of hi 29 (by kernel_rfl)) (by decide))
                exact rg_on hJ rfl (want_on (k := 29) (d := 142) (b := false) rfl rfl (by rw [hJ.ts]; decide) eg) rfl (by decide) (by decide) (k14_ne _ (by decide)) (w' := w') (by simp [execOp, resolve, invoke, builtin, Act.eval, e8, hd1, hd2, go_sem, k14v]) (wc_same hW (by decide))
              · have e3 : a.tmps.getD 3 undef = .pointer (some ⟨(b0 + 1), 0, none⟩) := hJ.un 3 (fun i _ _ e => by have := k14_ge i; omega)
                have eg : a.tmps.getD 142 undef = .bool false := (hJ.sl 29 (by decide) (listed_of hi 29 (by kernel_rfl)) (by decide))
                exact rg_on hJ rfl (want_on (k := 29) (d := 142) (b := false) rfl rfl (by rw [hJ.ts]; decide) eg) rfl (by decide) (by decide) (k14_ne _ (by decide)) (w' := w') (by simp [execOp, resolve, invoke, builtin, Act.eval, e3, hd1, hd2, go_sem, k14v]) (wc_same hW (by decide))
              · have e144 : a.tmps.getD 144 undef = .pointer (some ⟨(b0 + 1), 1, none⟩) := (hJ.sl 31 (by decide) (listed_of hi 31 (by kernel_rfl)) (by decide))
                have eg : a.tmps.getD 142 undef = .bool false := (hJ.sl 29 (by decide) (listed_of hi 29 (by kernel_rfl)) (by decide))
                have hc0 := cell_sp (w := wr.drew) y1 (wc_sp hW) nP0
                exact rg_on hJ rfl (want_on (k := 29) (d := 142) (b := false) rfl rfl (by rw [hJ.ts]; decide) eg) rfl (by decide) (by decide) (k14_ne _ (by decide)) (w' := w') (by simp [execOp, resolve, invoke, builtin, Act.eval, e144, hc0, hd1, hd2, go_sem, k14v]) (wc_same hW (by decide))
              · have e145 : a.tmps.getD 145 undef = .slice (some ⟨bF, oF, none⟩) u.funcs.length cf := (hJ.sl 32 (by decide) (listed_of hi 32 (by kernel_rfl)) (by decide))
                have eg : a.tmps.getD 142 undef = .bool false := (hJ.sl 29 (by decide) (listed_of hi 29 (by kernel_rfl)) (by decide))
                exact rg_on hJ rfl (want_on (k := 29) (d := 142) (b := false) rfl rfl (by rw [hJ.ts]; decide) eg) rfl (by decide) (by decide) (k14_ne _ (by decide)) (w' := w') (by simp [execOp, resolve, invoke, builtin, Act.eval, e145, hd1, hd2, go_sem, k14v]) (wc_same hW (by decide))
              · have e143 : a.tmps.getD 143 undef = .int .i64 q := (hJ.sl 30 (by decide) (listed_of hi 30 (by kernel_rfl)) (by decide))
                have e146 : a.tmps.getD 146 undef = .int .i64 u.funcs.length := (hJ.sl 33 (by decide) (listed_of hi 33 (by kernel_rfl)) (by decide))
                have eg : a.tmps.getD 142 undef = .bool false := (hJ.sl 29 (by decide) (listed_of hi 29 (by kernel_rfl)) (by decide))
                exact rg_on hJ rfl (want_on (k := 29) (d := 142) (b := false) rfl rfl (by rw [hJ.ts]; decide) eg) rfl (by decide) (by decide) (k14_ne _ (by decide)) (w' := w') (by simp [execOp, resolve, invoke, builtin, Act.eval, e143, e146, hd1, hd2, go_sem, k14v]) (wc_same hW (by decide))
              · have e147 : a.tmps.getD 147 undef = .bool true := (hJ.sl 34 (by decide) (listed_of hi 34 (by kernel_rfl)) (by decide))
                have eg : a.tmps.getD 142 undef = .bool false := (hJ.sl 29 (by decide) (listed_of hi 29 (by kernel_rfl)) (by decide))
                exact rg_on hJ rfl (want_on (k := 29) (d := 142) (b := false) rfl rfl (by rw [hJ.ts]; decide) eg) rfl (by decide) (by decide) (k14_ne _ (by decide)) (w' := w') (by simp [execOp, resolve, invoke, builtin, Act.eval, e147, hd1, hd2, go_sem, k14v]) (wc_same hW (by decide))
              · have e7 : a.tmps.getD 7 undef = .slice (some ⟨Fb, 0, none⟩) (u.funcs.length + 5) (u.funcs.length + 5) := hJ.un 7 (fun i _ _ e => by have := k14_ge i; omega)
                have eg : a.tmps.getD 148 undef = .bool true := (hJ.sl 35 (by decide) (listed_of hi 35 (by kernel_rfl)) (by decide))
                exact rg_on hJ rfl (want_on (k := 35) (d := 148) (b := true) rfl rfl (by rw [hJ.ts]; decide) eg) rfl (by decide) (by decide) (k14_ne _ (by decide)) (w' := w') (by simp [execOp, resolve, invoke, builtin, Act.eval, e7, hd1, hd2, go_sem, k14v]) (wc_same hW (by decide))
              · have e8 : a.tmps.getD 8 undef = .int .i64 q := hJ.un 8 (fun i _ _ e => by have := k14_ge i; omega)
                have eg : a.tmps.getD 148 undef = .bool true := (hJ.sl 35 (by decide) (listed_of hi 35 (by kernel_rfl)) (by decide))
                exact rg_on hJ rfl (want_on (k := 35) (d := 148) (b := true) rfl rfl (by rw [hJ.ts]; decide) eg) rfl (by decide) (by decide) (k14_ne _ (by decide)) (w' := w') (by simp [execOp, resolve, invoke, builtin, Act.eval, e8, hd1, hd2, go_sem, k14v]) (wc_same hW (by decide))
              · have e149 : a.tmps.getD 149 undef = .slice (some ⟨Fb, 0, none⟩) (u.funcs.length + 5) (u.funcs.length + 5) := (hJ.sl 36 (by decide) (listed_of hi 36 (by kernel_rfl)) (by decide))
                have e150 : a.tmps.getD 150 undef = .int .i64 q := (hJ.sl 37 (by decide) (listed_of hi 37 (by kernel_rfl)) (by decide))
                have eg : a.tmps.getD 148 undef = .bool true := (hJ.sl 35 (by decide) (listed_of hi 35 (by kernel_rfl)) (by decide))
                exact rg_on hJ rfl (want_on (k := 35) (d := 148) (b := true) rfl rfl (by rw [hJ.ts]; decide) eg) rfl (by decide) (by decide) (k14_ne _ (by decide)) (w' := w') (by first | (simp [execOp, resolve, invoke, builtin, Act.eval, e149, e150, hd1, hd2, go_sem, k14v]; done) | (simp [execOp, resolve, invoke, builtin, Act.eval, e149, e150, hd1, hd2, go_sem, k14v]; omega) | (simp [execOp, resolve, invoke, builtin, Act.eval, e149, e150, hd1, hd2, go_sem, k14v]; intro h; omega) | (simp [execOp, resolve, invoke, builtin, Act.eval, e149, e150, hd1, hd2, go_sem, k14v]; intros; omega)) (wc_same hW (by decide))
              · have e151 : a.tmps.getD 151 undef = .pointer (some ⟨Fb, q * 4, none⟩) := (hJ.sl 38 (by decide) (listed_of hi 38 (by kernel_rfl)) (by decide))
                have eg : a.tmps.getD 148 undef = .bool true := (hJ.sl 35 (by decide) (listed_of hi 35 (by kernel_rfl)) (by decide))
                have hc0 := cell_sp (w := wr.drew) c0 (wc_sp hW) nP1
                have hc1 := cell_sp (w := wr.drew) c1 (wc_sp hW) nP1
                have hc2 := cell_sp (w := wr.drew) c2 (wc_sp hW) nP1
                have hc3 := cell_sp (w := wr.drew) c3 (wc_sp hW) nP1
                exact rg_on hJ rfl (want_on (k := 35) (d := 148) (b := true) rfl rfl (by rw [hJ.ts]; decide) eg) rfl (by decide) (by decide) (k14_ne _ (by decide)) (w' := w') (by simp [execOp, resolve, invoke, builtin, Act.eval, e151, hc0, hc1, hc2, hc3, hd1, hd2, go_sem, k14v]) (wc_same hW (by decide))
              · have e3 : a.tmps.getD 3 undef = .pointer (some ⟨(b0 + 1), 0, none⟩) := hJ.un 3 (fun i _ _ e => by have := k14_ge i; omega)
                have eg : a.tmps.getD 148 undef = .bool true := (hJ.sl 35 (by decide) (listed_of hi 35 (by kernel_rfl)) (by decide))
                exact rg_on hJ rfl (want_on (k := 35) (d := 148) (b := true) rfl rfl (by rw [hJ.ts]; decide) eg) rfl (by decide) (by decide) (k14_ne _ (by decide)) (w' := w') (by simp [execOp, resolve, invoke, builtin, Act.eval, e3, hd1, hd2, go_sem, k14v]) (wc_same hW (by decide))
              · have e153 : a.tmps.getD 153 undef = .pointer (some ⟨(b0 + 1), 1, none⟩) := (hJ.sl 40 (by decide) (listed_of hi 40 (by kernel_rfl)) (by decide))
                have eg : a.tmps.getD 148 undef = .bool true := (hJ.sl 35 (by decide) (listed_of hi 35 (by kernel_rfl)) (by decide))
                have hc0 := cell_sp (w := wr.drew) y1 (wc_sp hW) nP0
                exact rg_on hJ rfl (want_on (k := 35) (d := 148) (b := true) rfl rfl (by rw [hJ.ts]; decide) eg) rfl (by decide) (by decide) (k14_ne _ (by decide)) (w' := w') (by simp [execOp, resolve, invoke, builtin, Act.eval, e153, hc0, hd1, hd2, go_sem, k14v]) (wc_same hW (by decide))
              · have e8 : a.tmps.getD 8 undef = .int .i64 q := hJ.un 8 (fun i _ _ e => by have := k14_ge i; omega)
                have eg : a.tmps.getD 148 undef = .bool true := (hJ.sl 35 (by decide) (listed_of hi 35 (by kernel_rfl)) (by decide))
                exact rg_on hJ rfl (want_on (k := 35) (d := 148) (b := true) rfl rfl (by rw [hJ.ts]; decide) eg) rfl (by decide) (by decide) (k14_ne _ (by decide)) (w' := w') (by simp [execOp, resolve, invoke, builtin, Act.eval, e8, hd1, hd2, go_sem, k14v]) (wc_same hW (by decide))
              · have e154 : a.tmps.getD 154 undef = .slice (some ⟨bF, oF, none⟩) u.funcs.length cf := (hJ.sl 41 (by decide) (listed_of hi 41 (by kernel_rfl)) (by decide))
                have e155 : a.tmps.getD 155 undef = .int .i64 q := (hJ.sl 42 (by decide) (listed_of hi 42 (by kernel_rfl)) (by decide))
                have eg : a.tmps.getD 148 undef = .bool true := (hJ.sl 35 (by decide) (listed_of hi 35 (by kernel_rfl)) (by decide))
                exact rg_on hJ rfl (want_on (k := 35) (d := 148) (b := true) rfl rfl (by rw [hJ.ts]; decide) eg) rfl (by decide) (by decide) (k14_ne _ (by decide)) (w' := w') (by first | (simp [execOp, resolve, invoke, builtin, Act.eval, e154, e155, hd1, hd2, go_sem, k14v]; done) | (simp [execOp, resolve, invoke, builtin, Act.eval, e154, e155, hd1, hd2, go_sem, k14v]; omega) | (simp [execOp, resolve, invoke, builtin, Act.eval, e154, e155, hd1, hd2, go_sem, k14v]; intro h; omega) | (simp [execOp, resolve, invoke, builtin, Act.eval, e154, e155, hd1, hd2, go_sem, k14v]; intros; omega)) (wc_same hW (by decide))
              · have e156 : a.tmps.getD 156 undef = .pointer (some ⟨bF, oF + q * 4, none⟩) := (hJ.sl 43 (by decide) (listed_of hi 43 (by kernel_rfl)) (by decide))
                have eg : a.tmps.getD 148 undef = .bool true := (hJ.sl 35 (by decide) (listed_of hi 35 (by kernel_rfl)) (by decide))
                have hc0 := cell_sp (w := wr.drew) s0 (wc_sp hW) nP2
                have hc1 := cell_sp (w := wr.drew) s1 (wc_sp hW) nP2
                have hc2 := cell_sp (w := wr.drew) s2 (wc_sp hW) nP2
                have hc3 := cell_sp (w := wr.drew) s3 (wc_sp hW) nP2
                exact rg_on hJ rfl (want_on (k := 35) (d := 148) (b := true) rfl rfl (by rw [hJ.ts]; decide) eg) rfl (by decide) (by decide) (k14_ne _ (by decide)) (w' := w') (by simp [execOp, resolve, invoke, builtin, Act.eval, e156, hc0, hc1, hc2, hc3, hd1, hd2, go_sem, k14v]) (wc_same hW (by decide))
              · have e152 : a.tmps.getD 152 undef = .agg #[.string f.name, .int .i64 f.args, .slice (some ⟨(ls q), 0, none⟩) f.locals.length (f.locals.length + 5), .slice (some ⟨(ps q), 0, none⟩) f.parts.length (f.parts.length + 67)] := (hJ.sl 39 (by decide) (listed_of hi 39 (by kernel_rfl)) (by decide))
                have e157 : a.tmps.getD 157 undef = .agg #[.string f.name, .int .i64 f.args, .slice pl f.locals.length cl, .slice pp f.parts.length cp] := (hJ.sl 44 (by decide) (listed_of hi 44 (by kernel_rfl)) (by decide))
                have eg : a.tmps.getD 148 undef = .bool true := (hJ.sl 35 (by decide) (listed_of hi 35 (by kernel_rfl)) (by decide))
                have hw0 := hW.h0 hun
                subst hw0
                exact rg_call hJ rfl (want_on (k := 35) (d := 148) (b := true) rfl rfl (by rw [hJ.ts]; decide) eg) rfl (by decide) (by decide) (k14_ne _ (by decide)) (by simp [execOp, resolve, invoke, Act.eval, e152, e157, go_sem]) (KC.out.mono fun e w2 he => ⟨he.1, wc_call hW.sz (by decide) he.2⟩)
              · have e158 : a.tmps.getD 158 undef = .bool true := (hJ.sl 45 (by decide) (listed_of hi 45 (by kernel_rfl)) (by decide))
                have eg : a.tmps.getD 148 undef = .bool true := (hJ.sl 35 (by decide) (listed_of hi 35 (by kernel_rfl)) (by decide))
                exact rg_on hJ rfl (want_on (k := 35) (d := 148) (b := true) rfl rfl (by rw [hJ.ts]; decide) eg) rfl (by decide) (by decide) (k14_ne _ (by decide)) (w' := w') (by simp [execOp, resolve, invoke, builtin, Act.eval, e158, hd1, hd2, go_sem, k14v]) (wc_same hW (by decide))
              · have e148 : a.tmps.getD 148 undef = .bool true := (hJ.sl 35 (by decide) (listed_of hi 35 (by kernel_rfl)) (by decide))
                have e159 : a.tmps.getD 159 undef = .bool false := (hJ.sl 46 (by decide) (listed_of hi 46 (by kernel_rfl)) (by decide))
                have eg : a.tmps.getD 142 undef = .bool false := (hJ.sl 29 (by decide) (listed_of hi 29 (by kernel_rfl)) (by decide))
                exact rg_on hJ rfl (want_on (k := 29) (d := 142) (b := false) rfl rfl (by rw [hJ.ts]; decide) eg) rfl (by decide) (by decide) (k14_ne _ (by decide)) (w' := w') (by simp [execOp, resolve, invoke, builtin, Act.eval, e148, e159, hd1, hd2, go_sem, k14v]) (wc_same hW (by decide))
              · have e142 : a.tmps.getD 142 undef = .bool false := (hJ.sl 29 (by decide) (listed_of hi 29 (by kernel_rfl)) (by decide))
                have e160 : a.tmps.getD 160 undef = .bool false := (hJ.sl 47 (by decide) (listed_of hi 47 (by kernel_rfl)) (by decide))
                exact rg_on hJ rfl (by rfl) rfl (by decide) (by decide) (k14_ne _ (by decide)) (w' := w') (by simp [execOp, resolve, invoke, builtin, Act.eval, e142, e160, hd1, hd2, go_sem, k14v]) (wc_same hW (by decide))
            case fin =>
              intro l a w' hJ hW hl
              have G2 := Lib.hid (hW.h1 (hl 45 (by decide)))
              have hput := rj_puts hJ rfl hl (fun i j h1 h2 h3 => k14_ne j h2 i h1 h3)
              subst hput
              clear hJ hW hl
              simp only [putsF, k14, k14v, Act.put, Nat.reduceLT, if_true, ite_true, Nat.reduceAdd, List.setIfInBounds_toArray, List.set_cons_zero, List.set_cons_succ]
              have ROW := Lib.hid (row_sp (w := wr.drew) HF.out.blk G2.out nP1)
              have t0 := ROW.out.cell (i := q * 4) (by omega)
              have t1 := ROW.out.cell (i := q * 4 + 1) (by omega)
              have t2 := ROW.out.cell (i := q * 4 + 2) (by omega)
              have t3 := ROW.out.cell (i := q * 4 + 3) (by omega)
              have z0 := ROW.out.frozen (q * 4)
              have z1 := ROW.out.frozen (q * 4 + 1)
              have z2 := ROW.out.frozen (q * 4 + 2)
              have z3 := ROW.out.frozen (q * 4 + 3)
              have l1 := ROW.out.lt
              go_wp2
              go_roundw
              case rel => exact ⟨q + 1, _, by go_num, by omega, lf_next HF.out (row_set4 ROW.out q _ _ _ _) (set4_ge _ _ _ _ _ _) (fun k hk h1 h2 => by rw [blk_set4 w' Fb _ _ _ _ _ _ _ _ h1]; exact G2.out.block k hk (by have := h2 hqn; unfold PB; omega)), sp_set (sp_set (sp_set (sp_set (sp_trans S.out (sp_weaken (P := PB (ls q) (ps q)) (Q := PT T hi) (w := wr) ⟨G2.out.os, G2.out.tape, G2.out.output, G2.out.size, G2.out.block⟩ fun k _ e => by have := HL1.out; have := HL2.out; have := HL3.out; unfold PB at e; unfold PT; omega) (fun _ _ h => h)) (by unfold PT; omega)) (by unfold PT; omega)) (by unfold PT; omega)) (by unfold PT; omega)⟩
              case measure => simp [intOf]; omega
          · obtain ⟨a0, a1, a2, a3⟩ := hF.fm q (Nat.le_refl _) (by omega) (by omega)
            rw [a0] at c0
            rw [a1] at c1
            rw [a2] at c2
            rw [a3] at c3
            have z0 := hF.blk.frozen (q * 4)
            have z1 := hF.blk.frozen (q * 4 + 1)
            have z2 := hF.blk.frozen (q * 4 + 2)
            have z3 := hF.blk.frozen (q * 4 + 3)
            have hd1 : decide (u.funcs.length ≤ q) = true := by simp; omega
            have hd2 : decide (q < u.funcs.length) = false := by simp; omega
            have hqT : q < u.funcs.length + 5 := by omega
            clear hF hsp hby a0 a1 a2 a3
            go_wp2
            go_quiet (fail)
            go_wp2
            go_roundw
            case rel => exact ⟨q + 1, _, by go_num, by omega, lf_next HF.out (row_set4 (row_kept HF.out.blk (grownBy_drewN wr nq none) (by simp)) q _ _ _ _) (set4_ge _ _ _ _ _ _) (fun k hk h1 h2 => by rw [blk_set4 _ Fb _ _ _ _ _ _ _ _ h1, blk_drewN]), sp_set (sp_set (sp_set (sp_set (sp_drewN' S.out nq) (by unfold PT; omega)) (by unfold PT; omega)) (by unfold PT; omega)) (by unfold PT; omega)⟩
            case measure => simp [intOf]; omega
        · clear hF hsp hby
          go_wp2
          go_ret
          exact ⟨rfl, sp_trans (sp_grown (P := PT lo hi) GB.out (by simp)) (sp_weaken S.out fun k _ e => by have := HB0.out; unfold PT at *; omega) (fun _ _ h => h)⟩

end Go.Proofs.Ytecaolkbllbokaa.TG
