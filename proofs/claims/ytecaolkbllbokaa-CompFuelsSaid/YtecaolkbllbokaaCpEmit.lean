/-
  Walk of the compiler's emit. Conditions: as each theorem states.
-/
import Derived.Test.YtecaolkbllbokaaCpCode
import Derived.Maps.AppendAt
namespace Go.Proofs.Ytecaolkbllbokaa.TG
open Go.RowKit Go.Great
set_option linter.unusedSimpArgs false
set_option linter.unusedVariables false

theorem heap_set_box {w : World} {b o : Nat} {cs : Array Value} {t : TypeId} {v : Value} (h : w.heap[b]? = some (.cells cs t (0, 0))) : (w.setCell ⟨b, o, none⟩ v).heap[b]? = some (.cells (cs.setIfInBounds o v) t (0, 0)) := heap_setCell_same w b o cs t v h

theorem out_of_row {w : World} {base : Nat} {e : TypeId} {size n : Nat} {v : Value} {xs : List Value} (h : w.ownsRow base e size v n xs) {b : Nat} (hb : b < base) : v.ownBlock ≠ some b := own_ne2 h hb

/-- Behind the first append of emit. -/
structure Mid (w w1 : World) (E Bd : Nat) (vt vf : Value) (nm : ByteArray) (ar : Int) (vl vp vout vorg vlo vk v1 : Value) (out : List (Int × Int)) (org : List Int) (op a : Int) : Prop where
  c : CodeAt w E Bd vt vf nm ar vl vp vout vorg vlo vk out org
  box : w1.heap[Bd]? = some (.cells #[vt, vf, .string nm, .int .i64 ar, vl, vp, vout, vorg, vlo, vk] 114 (0, 0))
  out : w1.ownsRow E 75 2 v1 (out.length + 1) (flat2 out ++ [.int .i64 op, .int .i64 a])
  org : (w1.setCell ⟨Bd, 6, none⟩ v1).ownsRow E 3 1 vorg org.length (org.map (Value.int .i64))
  d6 : w1.cell? ⟨Bd, 6, none⟩ = some vout
  d7 : w1.cell? ⟨Bd, 7, none⟩ = some vorg
  z6 : w1.frozen? ⟨Bd, 6, none⟩ = false
  lt : Bd < w1.heap.size
  e2 : ∀ part : Int, E ≤ ((w1.setCell ⟨Bd, 6, none⟩ v1).alloc (.cells #[.int .i64 part] 3)).heap.size
  sp : Sp (EmitP Bd vout vorg) w (w1.setCell ⟨Bd, 6, none⟩ v1)
  row : v1.ownBlock = vout.ownBlock ∨ ∃ k, v1.ownBlock = some k ∧ w.heap.size ≤ k

theorem emit_mid {w w1 : World} {E Bd : Nat} {vt vf : Value} {nm : ByteArray} {ar : Int} {vl vp vout vorg vlo vk v1 : Value} {out : List (Int × Int)} {org : List Int} {op a : Int} {o : Obj}
    (h : CodeAt w E Bd vt vf nm ar vl vp vout vorg vlo vk out org) (own : w1.ownsRow E 75 2 v1 (out.length + 1) (flat2 out ++ [.int .i64 op, .int .i64 a])) (g : (w.alloc o).grownBy w1 vout.ownBlock)
    (hat : v1.ownBlock = vout.ownBlock ∨ v1.ownBlock = some (w.alloc o).heap.size) : Mid w w1 E Bd vt vf nm ar vl vp vout vorg vlo vk v1 out org op a := by
  have hlt := h.lt
  have hle := h.le
  have hb : w1.heap[Bd]? = some (.cells #[vt, vf, .string nm, .int .i64 ar, vl, vp, vout, vorg, vlo, vk] 114 (0, 0)) := box_moved (box_moved h.box (World.grownBy_alloc w o none) (by simp)) g (out_of_row h.out hlt)
  have hsz := g.size
  rw [World.size_alloc] at hsz
  refine ⟨h, hb, own, ?_, cell_of_row w1 Bd 6 _ _ _ hb, cell_of_row w1 Bd 7 _ _ _ hb, frozen_of_row w1 Bd 6 _ _ hb, by omega, fun part => by simp; omega, ?_, ?_⟩
  · exact own_set ((h.org.alloc o).kept g (own_other (h.org.alloc o) (h.out.alloc o) (by decide))) hlt
  · refine sp_trans (sp_trans (sp_grown (World.grownBy_alloc w o none) (by simp)) (sp_grown (P := EmitP Bd vout vorg) g ?_) (fun _ _ h => h)) (sp_grown (P := EmitP Bd vout vorg) (grownBy_set w1 Bd 6 v1) ?_) (fun _ _ h => h)
    · intro k _ e; exact Or.inr (Or.inl e)
    · intro k _ e; injection e with e; exact Or.inl e.symm
  · rcases hat with h1 | h1
    · exact Or.inl h1
    · rw [World.size_alloc] at h1; exact Or.inr ⟨_, h1, by omega⟩

/-- Behind the second append of emit. -/
structure Fin2 (w w1 w2 : World) (E Bd : Nat) (vt vf : Value) (nm : ByteArray) (ar : Int) (vl vp vout vorg vlo vk v1 v2 : Value) (out : List (Int × Int)) (org : List Int) (part op a : Int) : Prop where
  d6 : w2.cell? ⟨Bd, 6, none⟩ = some v1
  d7 : w2.cell? ⟨Bd, 7, none⟩ = some vorg
  z7 : w2.frozen? ⟨Bd, 7, none⟩ = false
  lt : Bd < w2.heap.size
  sp : Sp (EmitP Bd vout vorg) w (w2.setCell ⟨Bd, 7, none⟩ v2)
  code : CodeAt (w2.setCell ⟨Bd, 7, none⟩ v2) E Bd vt vf nm ar vl vp v1 v2 vlo vk (out ++ [(op, a)]) (org ++ [part])
  rows : ∀ k, k < w.heap.size → EmitP Bd v1 v2 k → EmitP Bd vout vorg k

theorem emit_end {w w1 w2 : World} {E Bd : Nat} {vt vf : Value} {nm : ByteArray} {ar : Int} {vl vp vout vorg vlo vk v1 v2 : Value} {out : List (Int × Int)} {org : List Int} {part op a : Int} {o : Obj}
    (h : Mid w w1 E Bd vt vf nm ar vl vp vout vorg vlo vk v1 out org op a) (own : w2.ownsRow E 3 1 v2 (org.length + 1) (org.map (Value.int .i64) ++ [.int .i64 part])) (g : ((w1.setCell ⟨Bd, 6, none⟩ v1).alloc o).grownBy w2 vorg.ownBlock)
    (hat : v2.ownBlock = vorg.ownBlock ∨ v2.ownBlock = some ((w1.setCell ⟨Bd, 6, none⟩ v1).alloc o).heap.size) : Fin2 w w1 w2 E Bd vt vf nm ar vl vp vout vorg vlo vk v1 v2 out org part op a := by
  have hlt := h.c.lt
  have hb0 : (w1.setCell ⟨Bd, 6, none⟩ v1).heap[Bd]? = some (.cells #[vt, vf, .string nm, .int .i64 ar, vl, vp, v1, vorg, vlo, vk] 114 (0, 0)) := by rw [heap_set_box h.box]; rfl
  have hb : w2.heap[Bd]? = some (.cells #[vt, vf, .string nm, .int .i64 ar, vl, vp, v1, vorg, vlo, vk] 114 (0, 0)) := box_moved (box_moved hb0 (World.grownBy_alloc _ o none) (by simp)) g (out_of_row h.org hlt)
  have hsz := g.size
  rw [World.size_alloc, World.size_setCell] at hsz
  have hwz := h.sp.size
  rw [World.size_setCell] at hwz
  have hle := h.c.le
  have hout : w2.ownsRow E 75 2 v1 (out.length + 1) (flat2 out ++ [.int .i64 op, .int .i64 a]) :=
    ((own_set h.out hlt).alloc o).kept g (own_other ((own_set h.out hlt).alloc o) (h.org.alloc o) (by decide))
  refine ⟨cell_of_row w2 Bd 6 _ _ _ hb, cell_of_row w2 Bd 7 _ _ _ hb, frozen_of_row w2 Bd 7 _ _ hb, by omega, ?_, ⟨?_, ?_, ?_, hlt, ?_⟩, ?_⟩
  · refine sp_trans (sp_trans (sp_trans h.sp (sp_grown (P := EmitP Bd vout vorg) (World.grownBy_alloc _ o none) (by simp)) (fun _ _ h => h)) (sp_grown (P := EmitP Bd vout vorg) g ?_) (fun _ _ h => h)) (sp_grown (P := EmitP Bd vout vorg) (grownBy_set w2 Bd 7 v2) ?_) (fun _ _ h => h)
    · intro k _ e; exact Or.inr (Or.inr e)
    · intro k _ e; injection e with e; exact Or.inl e.symm
  · rw [heap_set_box hb]; rfl
  · rw [List.length_append, flat2_append]; exact own_set hout hlt
  · rw [List.length_append, List.map_append]; exact own_set own hlt
  · rw [World.size_setCell]; omega
  · intro k hk hp
    rcases hp with e | e | e
    · exact Or.inl e
    · rcases h.row with h1 | ⟨k', h1, h2⟩
      · exact Or.inr (Or.inl (h1 ▸ e))
      · rw [h1] at e; injection e with e; omega
    · rcases hat with h1 | h1
      · exact Or.inr (Or.inr (h1 ▸ e))
      · rw [h1, World.size_alloc, World.size_setCell] at e; injection e with e; omega

set_option maxRecDepth 100000 in
set_option maxHeartbeats 2000000 in
theorem emit_any (E Bd : Nat) (vt vf : Value) (nm : ByteArray) (ar : Int) (vl vp vout vorg vlo vk : Value) (out : List (Int × Int)) (org : List Int) (part op a : Int) (w : World)
    (hC : CodeAt w E Bd vt vf nm ar vl vp vout vorg vlo vk out org) (ho : out.length ≤ 1000000000000) (hg : org.length ≤ 1000000000000) :
    Calls Try.prog 44 #[.pointer (some ⟨Bd, 0, none⟩), .int .i64 part, .int .i64 op, .int .i64 a] w (EmitPost w E Bd vt vf nm ar vl vp vout vorg vlo vk out org part op a) := by
  have C := Lib.hid hC
  have c6 : w.cell? ⟨Bd, 6, none⟩ = some vout := code_cell hC 6
  have hlt := hC.lt
  have hle := hC.le
  obtain ⟨i0, hi, hz0, hz1, hz2⟩ := info_parts instr_info
  obtain ⟨j0, hj, hy0, hy1, hy2⟩ := info_parts int_info
  have hc3 : out.length + 1 ≤ maxLen := by unfold maxLen; omega
  have hc4 : (out.length + 1) * 16 ≤ 140737488355328 := by omega
  have hc5 : org.length + 1 ≤ maxLen := by unfold maxLen; omega
  have hc6 : (org.length + 1) * 8 ≤ 140737488355328 := by omega
  have hE1 : E ≤ (w.alloc (.cells #[.int .i64 op, .int .i64 a] 75)).heap.size := by simp; omega
  have hBw : Bd < w.heap.size := by omega
  clear hC
  go_enter Try.func44, Try.ntmps44
  go_wp2_with (first
    | (at_builtin; refine wpList_append_own_at _ rfl _ _ 71 rfl E 75 i0 (.agg #[.int .i64 0, .int .i64 0]) 2 16 instr_und hi hz0 hz1 hz2 rfl (by decide) _ _ _ rfl (C.out.out.alloc _) ⟨w.heap.size, 0, none⟩ 1 1 [.int .i64 op, .int .i64 a] rfl rfl (two_new w _ _ _) (two_cell _ _ _) hc3 hc4 hE1 ?_; intro v1 w1 hown1 hgr1 hnil1 hat1; obtain ⟨g1, k1, hv1⟩ := own_succ hown1; subst hv1; have M1 := Lib.hid (emit_mid C.out hown1 hgr1 hat1); have d6 := M1.out.d6; have d7 := M1.out.d7; have z6 := M1.out.z6; have hl1 := M1.out.lt; have hE2 := M1.out.e2 part; clear hown1 hgr1 hnil1 hat1)
    | (at_builtin; refine wpList_append_own_at _ rfl _ _ 47 rfl E 3 j0 (.int .i64 0) 1 8 int_und hj hy0 hy1 hy2 rfl (by decide) _ _ _ rfl (M1.out.org.alloc _) ⟨w1.heap.size, 0, none⟩ 1 1 [.int .i64 part] rfl rfl (one_set w1 Bd 6 _ _ _) (one_cell _ _) hc5 hc6 hE2 ?_; intro v2 w2 hown2 hgr2 hnil2 hat2; obtain ⟨g2, k2, hv2⟩ := own_succ hown2; subst hv2; have M2 := Lib.hid (emit_end M1.out hown2 hgr2 hat2); have d7' := M2.out.d7; have z7 := M2.out.z7; have d6' := M2.out.d6; have hl2 := M2.out.lt; clear hown2 hgr2 hnil2 hat2))
  go_ret
  exact ⟨ret_int (by go_num), M2.out.sp, _, _, M2.out.code, M2.out.rows⟩

end Go.Proofs.Ytecaolkbllbokaa.TG
