/-
  The compiler's ends: the map of what stands behind the kids' code. Conditions: as each theorem states.
  What is looked up in the compiler's map of ends. Conditions: as each theorem states.
  The code of parts without jumps, as a function; what a walk of write keeps. Conditions: as each theorem states.
  Walk of the compiler's write, for a part without jumps. Conditions: as each theorem states.
  Walk of the compiler's size. Conditions: as each theorem states.
  A region in whatever order, its operations' values known ahead: the frame behind it is the one of the text's order. Conditions: as each theorem states.
-/
import Derived.Test.YtecaolkbllbokaaMB08
import Derived.Laws.EntriesVeiled
import Derived.Deep.QuietTactic
import Derived.BigQuiet
namespace Go.Proofs.Ytecaolkbllbokaa.TG
open Go.RowKit Go.Great
set_option linter.unusedSimpArgs false
set_option linter.unusedVariables false

/-- The map of ends, in block M. -/
def EndMap (w : World) (lo bc b6 M : Nat) : Prop := ∃ es ck, w.heap[M]? = some (.map es ck) ∧ (∀ x ∈ es.toList, ∃ k, x.key = .int .i64 k ∧ k ∈ keysE ∧ SlK lo bc w x.val x.val (endK bc b6 k)) ∧ (∀ k ∈ keysE, ∃ x ∈ es.toList, x.key = .int .i64 k)

theorem lt62 (j : Nat) (h : j < 62) : j = 0 ∨ j = 1 ∨ j = 2 ∨ j = 3 ∨ j = 4 ∨ j = 5 ∨ j = 6 ∨ j = 7 ∨ j = 8 ∨ j = 9 ∨ j = 10 ∨ j = 11 ∨ j = 12 ∨ j = 13 ∨ j = 14 ∨ j = 15 ∨ j = 16 ∨ j = 17 ∨ j = 18 ∨ j = 19 ∨ j = 20 ∨ j = 21 ∨ j = 22 ∨ j = 23 ∨ j = 24 ∨ j = 25 ∨ j = 26 ∨ j = 27 ∨ j = 28 ∨ j = 29 ∨ j = 30 ∨ j = 31 ∨ j = 32 ∨ j = 33 ∨ j = 34 ∨ j = 35 ∨ j = 36 ∨ j = 37 ∨ j = 38 ∨ j = 39 ∨ j = 40 ∨ j = 41 ∨ j = 42 ∨ j = 43 ∨ j = 44 ∨ j = 45 ∨ j = 46 ∨ j = 47 ∨ j = 48 ∨ j = 49 ∨ j = 50 ∨ j = 51 ∨ j = 52 ∨ j = 53 ∨ j = 54 ∨ j = 55 ∨ j = 56 ∨ j = 57 ∨ j = 58 ∨ j = 59 ∨ j = 60 ∨ j = 61 := by omega

theorem kE_keys (bc b6 : Nat) : ∀ j, j < 62 → ∀ k s, kE bc b6 j = .ins k s → k ∈ keysE := by
  intro j hj k s h
  rcases lt62 j hj with rfl | rfl | rfl | rfl | rfl | rfl | rfl | rfl | rfl | rfl | rfl | rfl | rfl | rfl | rfl | rfl | rfl | rfl | rfl | rfl | rfl | rfl | rfl | rfl | rfl | rfl | rfl | rfl | rfl | rfl | rfl | rfl | rfl | rfl | rfl | rfl | rfl | rfl | rfl | rfl | rfl | rfl | rfl | rfl | rfl | rfl | rfl | rfl | rfl | rfl | rfl | rfl | rfl | rfl | rfl | rfl | rfl | rfl | rfl | rfl | rfl | rfl
  all_goals first | (cases h; done) | (injection h with h1 h2; subst h1; decide)

theorem keys_kE (bc b6 : Nat) : ∀ k ∈ keysE, ∃ j s, j < 62 ∧ kE bc b6 j = .ins k s := by
  intro k hk
  simp only [keysE, List.mem_cons, List.not_mem_nil, or_false] at hk
  rcases hk with rfl | rfl | rfl | rfl | rfl | rfl | rfl | rfl | rfl | rfl | rfl | rfl | rfl | rfl | rfl | rfl | rfl | rfl | rfl
  · exact ⟨4, 12, by decide, rfl⟩
  · exact ⟨7, 14, by decide, rfl⟩
  · exact ⟨10, 16, by decide, rfl⟩
  · exact ⟨13, 18, by decide, rfl⟩
  · exact ⟨16, 20, by decide, rfl⟩
  · exact ⟨19, 22, by decide, rfl⟩
  · exact ⟨23, 25, by decide, rfl⟩
  · exact ⟨27, 28, by decide, rfl⟩
  · exact ⟨30, 30, by decide, rfl⟩
  · exact ⟨34, 33, by decide, rfl⟩
  · exact ⟨38, 36, by decide, rfl⟩
  · exact ⟨41, 38, by decide, rfl⟩
  · exact ⟨44, 40, by decide, rfl⟩
  · exact ⟨46, 41, by decide, rfl⟩
  · exact ⟨48, 42, by decide, rfl⟩
  · exact ⟨50, 43, by decide, rfl⟩
  · exact ⟨51, 1000, by decide, rfl⟩
  · exact ⟨55, 46, by decide, rfl⟩
  · exact ⟨59, 49, by decide, rfl⟩

theorem listed_of {ops : Array Oper} {l : Array Bool} {i : Nat} (hi : i ∈ Region.ready .any ops l) (n : Nat) (h : ((ops[i]?).any fun o => o.after.any fun e => e.on == n && Region.binds .any e) = true) : l.getD n false = true := by
  obtain ⟨_, o, ho, haf⟩ := mem_ready.1 hi
  rw [ho] at h
  obtain ⟨e, he, hb⟩ := Array.any_eq_true'.1 (show o.after.any (fun e => e.on == n && Region.binds .any e) = true from h)
  simp only [Bool.and_eq_true, beq_iff_eq] at hb
  rw [← hb.1]
  exact haf e he hb.2

theorem dag_of {ops : Array Oper} (h : ((List.range ops.size).all fun j => (ops[j]?).all fun o => o.after.all fun e => decide (e.on < j)) = true) : ∀ (j : Nat) (o : Oper), ops[j]? = some o → ∀ e ∈ o.after, e.on < j := by
  intro j o ho e he
  have hj : j < ops.size := (Array.getElem?_eq_some_iff.1 ho).1
  have h1 := List.all_eq_true.1 h j (List.mem_range.2 hj)
  rw [ho] at h1
  have h2 := Array.all_eq_true'.1 (show o.after.all (fun e => decide (e.on < j)) = true from h1) e he
  exact of_decide_eq_true h2

/-- What a call of ends leaves. -/
def EndsPost (w : World) (Bd : Nat) (e : Ending) (w' : World) : Prop := ∃ lo bc b6 M, e = .returned (.map (some M)) ∧ w.grownBy w' none ∧ w.heap.size ≤ lo ∧ w.heap.size ≤ bc ∧ w.heap.size ≤ b6 ∧ w.heap.size ≤ M ∧
  w'.cell? ⟨bc, 0, none⟩ = some (ptrV Bd) ∧ w'.cell? ⟨b6, 0, none⟩ = some (vnE bc) ∧ EndMap w' lo bc b6 M

theorem ej_end {w1 : World} {bc b6 lo : Nat} {l : Array Bool} {a : Act} {w : World} (h : EJ w1 bc b6 lo l a w) (hl : ∀ j, j < 62 → l.getD j false = true) : ∃ M, tm a 2 = .map (some M) ∧ lo ≤ M ∧ EndMap w lo bc b6 M := by
  obtain ⟨M, es, ck, hM, hlo, hh, h1, h2⟩ := h.mp (hl 0 (by decide))
  refine ⟨M, ?_, hlo, es, ck, hh, fun x hx => ?_, fun k hk => ?_⟩
  · have e : tm a 2 = tm a 9 := h.sl 61 (by decide) (hl 61 (by decide))
    rw [e]; exact hM
  · obtain ⟨j, k, s, hj, hkj, _, hkey, hsl⟩ := h1 x hx
    exact ⟨k, hkey, kE_keys bc b6 j hj k s hkj, hsl⟩
  · obtain ⟨j, s, hj, hkj⟩ := keys_kE bc b6 k hk
    exact h2 j k s hj hkj (hl j hj)

set_option maxRecDepth 100000 in
set_option maxHeartbeats 4000000 in
theorem ends_any (Bd : Nat) (w : World) : Calls Try.prog 42 #[.pointer (some ⟨Bd, 0, none⟩)] w (EndsPost w Bd) := by
  go_enter Try.func42, Try.ntmps42
  go_wp2
  rename_i K hK
  have hsz1 : w.heap.size < (w.alloc (.cells #[.pointer (some ⟨Bd, 0, none⟩)] 110)).heap.size := by simp
  have g1 : w.grownBy ((w.alloc (.cells #[.pointer (some ⟨Bd, 0, none⟩)] 110)).alloc (.cells #[vnE w.heap.size] 145)) none := grownBy_trans (World.grownBy_alloc _ _ _) (World.grownBy_alloc _ _ _)
  have cb : ((w.alloc (.cells #[.pointer (some ⟨Bd, 0, none⟩)] 110)).alloc (.cells #[vnE w.heap.size] 145)).cell? ⟨w.heap.size, 0, none⟩ = some (ptrV Bd) := by simp [ptrV]
  have c6 : ((w.alloc (.cells #[.pointer (some ⟨Bd, 0, none⟩)] 110)).alloc (.cells #[vnE w.heap.size] 145)).cell? ⟨w.heap.size + 1, 0, none⟩ = some (vnE w.heap.size) := by simp
  have hs1 : ((w.alloc (.cells #[.pointer (some ⟨Bd, 0, none⟩)] 110)).alloc (.cells #[vnE w.heap.size] 145)).heap.size = w.heap.size + 2 := by simp
  unfold vnE fnV ptrV at g1 cb c6 hs1
  generalize (w.alloc (.cells #[.pointer (some ⟨Bd, 0, none⟩)] 110)).alloc (.cells #[.func (.func 70) #[] #[.pointer (some ⟨w.heap.size, 0, none⟩)]] 145) = w1 at *
  refine wp_region_any (by kernel_rfl) ?_
  refine wpAny_inv (EJ w1 w.heap.size (w.heap.size + 1) w1.heap.size) ?step ?fin _ _ _ _ ?start (by simp)
  case start => 
    refine ⟨by simp, by simp, rfl, ⟨rfl, rfl, rfl, Nat.le_refl _, fun _ _ _ => rfl⟩, rfl, rfl, rfl, rfl, rfl, rfl, c6, ?_, ?_, ?_⟩
    · intro j hj h; exfalso; revert h; simp only [List.size_toArray]; rw [getD_replicate_false]; simp
    · intro j hj _ h; exfalso; revert h; simp only [List.size_toArray]; rw [getD_replicate_false]; simp
    · intro h; exfalso; revert h; simp only [List.size_toArray]; rw [getD_replicate_false]; simp
  case fin =>
    intro l a w' hJ hr
    obtain ⟨M, hM, hlo, hmap⟩ := ej_end hJ (all_listed (dag_of (by kernel_rfl)) hr hJ.sz)
    refine hK _ _ ?_
    go_wp2
    refine bodyPost_ret (v := .map (some M)) ?_ hJ.df ⟨w1.heap.size, w.heap.size, w.heap.size + 1, M, rfl, grownBy_trans g1 hJ.g, by omega, Nat.le_refl _, by omega, by omega, hJ.g.cell cb (by simp), hJ.g.cell c6 (by simp), hmap⟩
    rw [results_tmp rfl]
    unfold tm at hM
    rw [hM]
  case step =>
    intro l a w' i hJ hi
    have hi62 : i < 62 := by
      obtain ⟨_, o, ho, _⟩ := mem_ready.1 hi
      exact (Array.getElem?_eq_some_iff.1 ho).1
    rcases lt62 i hi62 with rfl | rfl | rfl | rfl | rfl | rfl | rfl | rfl | rfl | rfl | rfl | rfl | rfl | rfl | rfl | rfl | rfl | rfl | rfl | rfl | rfl | rfl | rfl | rfl | rfl | rfl | rfl | rfl | rfl | rfl | rfl | rfl | rfl | rfl | rfl | rfl | rfl | rfl | rfl | rfl | rfl | rfl | rfl | rfl | rfl | rfl | rfl | rfl | rfl | rfl | rfl | rfl | rfl | rfl | rfl | rfl | rfl | rfl | rfl | rfl | rfl | rfl
    · exact st_mk hJ rfl rfl rfl rfl (getD_both (mem_ready.1 hi).1)
    · exact st_move hJ rfl rfl rfl rfl (by decide) (by decide) (by decide) (by simp [kE]) (by simp [kE]) hJ.t4
    · exact st_move hJ rfl rfl rfl rfl (by decide) (by decide) (by decide) (by simp [kE]) (by simp [kE]) hJ.t5
    · exact st_with hJ rfl rfl rfl rfl (by decide) (by decide) (by decide) rfl (hJ.sl 1 (by decide) (listed_of hi 1 (by kernel_rfl))) (hJ.sl 2 (by decide) (listed_of hi 2 (by kernel_rfl))) rfl
    · exact st_ins hJ rfl rfl rfl rfl (by decide) rfl (listed_of hi 0 (by kernel_rfl)) (hJ.sl 3 (by decide) (listed_of hi 3 (by kernel_rfl)))
    · exact st_move hJ rfl rfl rfl rfl (by decide) (by decide) (by decide) (by simp [kE]) (by simp [kE]) hJ.t3
    · exact st_plain hJ rfl rfl rfl rfl (by decide) (by decide) (by decide) rfl (hJ.sl 5 (by decide) (listed_of hi 5 (by kernel_rfl)))
    · exact st_ins hJ rfl rfl rfl rfl (by decide) rfl (listed_of hi 0 (by kernel_rfl)) (hJ.sl 6 (by decide) (listed_of hi 6 (by kernel_rfl)))
    · exact st_move hJ rfl rfl rfl rfl (by decide) (by decide) (by decide) (by simp [kE]) (by simp [kE]) hJ.t3
    · exact st_plain hJ rfl rfl rfl rfl (by decide) (by decide) (by decide) rfl (hJ.sl 8 (by decide) (listed_of hi 8 (by kernel_rfl)))
    · exact st_ins hJ rfl rfl rfl rfl (by decide) rfl (listed_of hi 0 (by kernel_rfl)) (hJ.sl 9 (by decide) (listed_of hi 9 (by kernel_rfl)))
    · exact st_move hJ rfl rfl rfl rfl (by decide) (by decide) (by decide) (by simp [kE]) (by simp [kE]) hJ.t3
    · exact st_plain hJ rfl rfl rfl rfl (by decide) (by decide) (by decide) rfl (hJ.sl 11 (by decide) (listed_of hi 11 (by kernel_rfl)))
    · exact st_ins hJ rfl rfl rfl rfl (by decide) rfl (listed_of hi 0 (by kernel_rfl)) (hJ.sl 12 (by decide) (listed_of hi 12 (by kernel_rfl)))
    · exact st_move hJ rfl rfl rfl rfl (by decide) (by decide) (by decide) (by simp [kE]) (by simp [kE]) hJ.t3
    · exact st_plain hJ rfl rfl rfl rfl (by decide) (by decide) (by decide) rfl (hJ.sl 14 (by decide) (listed_of hi 14 (by kernel_rfl)))
    · exact st_ins hJ rfl rfl rfl rfl (by decide) rfl (listed_of hi 0 (by kernel_rfl)) (hJ.sl 15 (by decide) (listed_of hi 15 (by kernel_rfl)))
    · exact st_move hJ rfl rfl rfl rfl (by decide) (by decide) (by decide) (by simp [kE]) (by simp [kE]) hJ.t3
    · exact st_plain hJ rfl rfl rfl rfl (by decide) (by decide) (by decide) rfl (hJ.sl 17 (by decide) (listed_of hi 17 (by kernel_rfl)))
    · exact st_ins hJ rfl rfl rfl rfl (by decide) rfl (listed_of hi 0 (by kernel_rfl)) (hJ.sl 18 (by decide) (listed_of hi 18 (by kernel_rfl)))
    · exact st_move hJ rfl rfl rfl rfl (by decide) (by decide) (by decide) (by simp [kE]) (by simp [kE]) hJ.t4
    · exact st_move hJ rfl rfl rfl rfl (by decide) (by decide) (by decide) (by simp [kE]) (by simp [kE]) hJ.t5
    · exact st_with hJ rfl rfl rfl rfl (by decide) (by decide) (by decide) rfl (hJ.sl 20 (by decide) (listed_of hi 20 (by kernel_rfl))) (hJ.sl 21 (by decide) (listed_of hi 21 (by kernel_rfl))) rfl
    · exact st_ins hJ rfl rfl rfl rfl (by decide) rfl (listed_of hi 0 (by kernel_rfl)) (hJ.sl 22 (by decide) (listed_of hi 22 (by kernel_rfl)))
    · exact st_move hJ rfl rfl rfl rfl (by decide) (by decide) (by decide) (by simp [kE]) (by simp [kE]) hJ.t4
    · exact st_move hJ rfl rfl rfl rfl (by decide) (by decide) (by decide) (by simp [kE]) (by simp [kE]) hJ.t5
    · exact st_with hJ rfl rfl rfl rfl (by decide) (by decide) (by decide) rfl (hJ.sl 24 (by decide) (listed_of hi 24 (by kernel_rfl))) (hJ.sl 25 (by decide) (listed_of hi 25 (by kernel_rfl))) rfl
    · exact st_ins hJ rfl rfl rfl rfl (by decide) rfl (listed_of hi 0 (by kernel_rfl)) (hJ.sl 26 (by decide) (listed_of hi 26 (by kernel_rfl)))
    · exact st_move hJ rfl rfl rfl rfl (by decide) (by decide) (by decide) (by simp [kE]) (by simp [kE]) hJ.t3
    · exact st_plain hJ rfl rfl rfl rfl (by decide) (by decide) (by decide) rfl (hJ.sl 28 (by decide) (listed_of hi 28 (by kernel_rfl)))
    · exact st_ins hJ rfl rfl rfl rfl (by decide) rfl (listed_of hi 0 (by kernel_rfl)) (hJ.sl 29 (by decide) (listed_of hi 29 (by kernel_rfl)))
    · exact st_move hJ rfl rfl rfl rfl (by decide) (by decide) (by decide) (by simp [kE]) (by simp [kE]) hJ.t4
    · exact st_fn hJ rfl rfl rfl rfl (by decide) (by decide) (by decide) (by rw [hJ.t1]; rfl)
    · exact st_with hJ rfl rfl rfl rfl (by decide) (by decide) (by decide) rfl (hJ.sl 31 (by decide) (listed_of hi 31 (by kernel_rfl))) (hJ.sl 32 (by decide) (listed_of hi 32 (by kernel_rfl))) rfl
    · exact st_ins hJ rfl rfl rfl rfl (by decide) rfl (listed_of hi 0 (by kernel_rfl)) (hJ.sl 33 (by decide) (listed_of hi 33 (by kernel_rfl)))
    · exact st_move hJ rfl rfl rfl rfl (by decide) (by decide) (by decide) (by simp [kE]) (by simp [kE]) hJ.t4
    · exact st_fn hJ rfl rfl rfl rfl (by decide) (by decide) (by decide) (by rw [hJ.t1]; rfl)
    · exact st_with hJ rfl rfl rfl rfl (by decide) (by decide) (by decide) rfl (hJ.sl 35 (by decide) (listed_of hi 35 (by kernel_rfl))) (hJ.sl 36 (by decide) (listed_of hi 36 (by kernel_rfl))) rfl
    · exact st_ins hJ rfl rfl rfl rfl (by decide) rfl (listed_of hi 0 (by kernel_rfl)) (hJ.sl 37 (by decide) (listed_of hi 37 (by kernel_rfl)))
    · exact st_move hJ rfl rfl rfl rfl (by decide) (by decide) (by decide) (by simp [kE]) (by simp [kE]) hJ.t3
    · exact st_plain hJ rfl rfl rfl rfl (by decide) (by decide) (by decide) rfl (hJ.sl 39 (by decide) (listed_of hi 39 (by kernel_rfl)))
    · exact st_ins hJ rfl rfl rfl rfl (by decide) rfl (listed_of hi 0 (by kernel_rfl)) (hJ.sl 40 (by decide) (listed_of hi 40 (by kernel_rfl)))
    · exact st_move hJ rfl rfl rfl rfl (by decide) (by decide) (by decide) (by simp [kE]) (by simp [kE]) hJ.t3
    · exact st_plain hJ rfl rfl rfl rfl (by decide) (by decide) (by decide) rfl (hJ.sl 42 (by decide) (listed_of hi 42 (by kernel_rfl)))
    · exact st_ins hJ rfl rfl rfl rfl (by decide) rfl (listed_of hi 0 (by kernel_rfl)) (hJ.sl 43 (by decide) (listed_of hi 43 (by kernel_rfl)))
    · exact st_load (t := 0) hJ rfl rfl rfl rfl (by decide) (by decide) (by decide) rfl hJ.t6
    · exact st_ins hJ rfl rfl rfl rfl (by decide) rfl (listed_of hi 0 (by kernel_rfl)) (hJ.sl 45 (by decide) (listed_of hi 45 (by kernel_rfl)))
    · exact st_load (t := 0) hJ rfl rfl rfl rfl (by decide) (by decide) (by decide) rfl hJ.t6
    · exact st_ins hJ rfl rfl rfl rfl (by decide) rfl (listed_of hi 0 (by kernel_rfl)) (hJ.sl 47 (by decide) (listed_of hi 47 (by kernel_rfl)))
    · exact st_fn hJ rfl rfl rfl rfl (by decide) (by decide) (by decide) (by rw [hJ.t6]; rfl)
    · exact st_ins hJ rfl rfl rfl rfl (by decide) rfl (listed_of hi 0 (by kernel_rfl)) (hJ.sl 49 (by decide) (listed_of hi 49 (by kernel_rfl)))
    · exact st_ins hJ rfl rfl rfl rfl (by decide) rfl (listed_of hi 0 (by kernel_rfl)) rfl
    · exact st_move hJ rfl rfl rfl rfl (by decide) (by decide) (by decide) (by simp [kE]) (by simp [kE]) hJ.t4
    · exact st_move hJ rfl rfl rfl rfl (by decide) (by decide) (by decide) (by simp [kE]) (by simp [kE]) hJ.t5
    · exact st_with hJ rfl rfl rfl rfl (by decide) (by decide) (by decide) rfl (hJ.sl 52 (by decide) (listed_of hi 52 (by kernel_rfl))) (hJ.sl 53 (by decide) (listed_of hi 53 (by kernel_rfl))) rfl
    · exact st_ins hJ rfl rfl rfl rfl (by decide) rfl (listed_of hi 0 (by kernel_rfl)) (hJ.sl 54 (by decide) (listed_of hi 54 (by kernel_rfl)))
    · exact st_move hJ rfl rfl rfl rfl (by decide) (by decide) (by decide) (by simp [kE]) (by simp [kE]) hJ.t4
    · exact st_move hJ rfl rfl rfl rfl (by decide) (by decide) (by decide) (by simp [kE]) (by simp [kE]) hJ.t5
    · exact st_with hJ rfl rfl rfl rfl (by decide) (by decide) (by decide) rfl (hJ.sl 56 (by decide) (listed_of hi 56 (by kernel_rfl))) (hJ.sl 57 (by decide) (listed_of hi 57 (by kernel_rfl))) rfl
    · exact st_ins hJ rfl rfl rfl rfl (by decide) rfl (listed_of hi 0 (by kernel_rfl)) (hJ.sl 58 (by decide) (listed_of hi 58 (by kernel_rfl)))
    · exact st_move hJ rfl rfl rfl rfl (by decide) (by decide) (by decide) (by simp [kE]) (fun _ => (listed_of hi 0 (by kernel_rfl))) rfl
    · exact st_assign hJ rfl rfl rfl rfl (by decide) (by decide) (by decide) (by simp [kE]) (fun _ => hJ.cl 60 (by decide) trivial (listed_of hi 60 (by kernel_rfl))) (hJ.sl 60 (by decide) (listed_of hi 60 (by kernel_rfl)))

end Go.Proofs.Ytecaolkbllbokaa.TG

namespace Go.Proofs.Ytecaolkbllbokaa.TG
open Go.RowKit Go.Great
set_option linter.unusedSimpArgs false
set_option linter.unusedVariables false

theorem fn_zero : (Try.prog.info? 145).map (fun i => i.zero) = some (some .nilFunc) := by kernel_rfl
theorem run_zero_fn (w : World) : (zeroValue 145).run Try.prog w = .ok .nilFunc w := by kernel_rfl

theorem look_any {w : World} {M : Nat} {es : Array MapEntry} {ck : Nat} {k : Int} (hM : w.heap[M]? = some (.map es ck)) (hks : ∀ x ∈ es.toList, MapKept.IsKey (.int .i64) x.key) :
    (∃ x ∈ es.toList, x.key = .int .i64 k ∧ ∀ n, (Instr.lookup 112 (.map (some M)) (.int .i64 k) true).run Try.prog (w.drewN n) = .ok (.tuple #[x.val, .bool true]) (w.drewN n)) ∨
    ((∀ x ∈ es.toList, x.key ≠ .int .i64 k) ∧ ∀ n, (Instr.lookup 112 (.map (some M)) (.int .i64 k) true).run Try.prog (w.drewN n) = .ok (.tuple #[.nilFunc, .bool false]) (w.drewN n)) := by
  have hm : Try.prog.underlying 112 = some (.map 3 145) := by kernel_rfl
  have hd : Try.prog.underlying 3 = some (.int .i64) := by kernel_rfl
  have hk : MapKept.IsKey (.int .i64) (.int .i64 k) := rfl
  rcases MapKept.findNow_spec hk es.toList 0 hks with ⟨h1, h2⟩ | ⟨j, e, h1, h2, h3⟩
  · refine Or.inr ⟨h2, fun n => ?_⟩
    have hMn : (w.drewN n).heap[M]? = some (.map es ck) := hM
    simp [Instr.lookup, run_underlying hm, MapKept.run_getObj_map hMn, MapKept.run_checkKey hd hk, MapKept.run_findKey hd h1, run_zero_fn, Result.andThen]
  · refine Or.inl ⟨e, List.mem_of_getElem? h2, h3, fun n => ?_⟩
    have hMn : (w.drewN n).heap[M]? = some (.map es ck) := hM
    simp [Instr.lookup, run_underlying hm, MapKept.run_getObj_map hMn, MapKept.run_checkKey hd hk, MapKept.run_findKey hd h1, Result.andThen]

/-- What lies behind a closure of ends, its boxes between the code's block and E. -/
def SlB (Bd E bc : Nat) (w : World) (v : Value) : KE → Prop
  | .fn x => v = x
  | .pl op => ∃ b, v = fnV 66 #[ptrV b] ∧ Bd < b ∧ b < E ∧ w.cell? ⟨b, 0, none⟩ = some (.int .i64 op)
  | .wi op fv => ∃ b3 b4, v = fnV 68 #[ptrV b3, ptrV b4, ptrV bc] ∧ (Bd < b3 ∧ b3 < E) ∧ (Bd < b4 ∧ b4 < E) ∧ w.cell? ⟨b3, 0, none⟩ = some (.int .i64 op) ∧ w.cell? ⟨b4, 0, none⟩ = some fv
  | _ => True

theorem slB_of {lo bc Bd : Nat} {w : World} {v : Value} {K : KE} (h : SlK lo bc w v v K) (hb : Bd < lo) : SlB Bd w.heap.size bc w v K := by
  cases K with
  | pl op => obtain ⟨b, e, hl, hc⟩ := h; exact ⟨b, e, by omega, World.block_lt_of_cell? _ _ hc, hc⟩
  | wi op fv => obtain ⟨b3, b4, e, h3, h4, c3, c4⟩ := h; exact ⟨b3, b4, e, ⟨by omega, World.block_lt_of_cell? _ _ c3⟩, ⟨by omega, World.block_lt_of_cell? _ _ c4⟩, c3, c4⟩
  | fn x => exact h
  | _ => trivial

theorem slB_kept {Bd E bc : Nat} {w w' : World} {v : Value} {K : KE} (h : SlB Bd E bc w v K) (hs : ∀ k, Bd < k → k < E → w'.heap[k]? = w.heap[k]?) : SlB Bd E bc w' v K := by
  cases K with
  | pl op => obtain ⟨b, e, h1, h2, hc⟩ := h; exact ⟨b, e, h1, h2, by rw [heap_cell (hs b h1 h2)]; exact hc⟩
  | wi op fv => obtain ⟨b3, b4, e, h3, h4, c3, c4⟩ := h; exact ⟨b3, b4, e, h3, h4, by rw [heap_cell (hs b3 h3.1 h3.2)]; exact c3, by rw [heap_cell (hs b4 h4.1 h4.2)]; exact c4⟩
  | _ => exact h

/-- The kinds' map and what hangs on it, between the code's block and E. -/
structure KindsAt (w : World) (Bd E bc b6 M : Nat) : Prop where
  cb : w.cell? ⟨bc, 0, none⟩ = some (ptrV Bd)
  c6 : w.cell? ⟨b6, 0, none⟩ = some (vnE bc)
  lb : Bd < bc ∧ bc < E
  l6 : Bd < b6 ∧ b6 < E
  lM : Bd < M ∧ M < E
  mp : ∃ es ck, w.heap[M]? = some (.map es ck) ∧ (∀ x ∈ es.toList, ∃ k, x.key = .int .i64 k ∧ k ∈ keysE ∧ SlB Bd E bc w x.val (endK bc b6 k)) ∧ (∀ k ∈ keysE, ∃ x ∈ es.toList, x.key = .int .i64 k)

theorem kinds_kept {w w' : World} {Bd E bc b6 M : Nat} (h : KindsAt w Bd E bc b6 M) (hs : ∀ k, Bd < k → k < E → w'.heap[k]? = w.heap[k]?) : KindsAt w' Bd E bc b6 M := by
  obtain ⟨es, ck, hM, h1, h2⟩ := h.mp
  refine ⟨by rw [heap_cell (hs bc h.lb.1 h.lb.2)]; exact h.cb, by rw [heap_cell (hs b6 h.l6.1 h.l6.2)]; exact h.c6, h.lb, h.l6, h.lM, es, ck, by rw [hs M h.lM.1 h.lM.2]; exact hM, fun x hx => ?_, h2⟩
  obtain ⟨k, e, hin, hsl⟩ := h1 x hx
  exact ⟨k, e, hin, slB_kept hsl hs⟩

theorem kinds_of_ends {w w' : World} {Bd : Nat} {e : Ending} (h : EndsPost w Bd e w') (hb : Bd < w.heap.size) : ∃ bc b6 M, e = .returned (.map (some M)) ∧ w.grownBy w' none ∧ KindsAt w' Bd w'.heap.size bc b6 M := by
  obtain ⟨lo, bc, b6, M, he, g, hlo, hbc, hb6, hM, cb, c6, es, ck, hh, h1, h2⟩ := h
  refine ⟨bc, b6, M, he, g, cb, c6, ⟨by omega, World.block_lt_of_cell? _ _ cb⟩, ⟨by omega, World.block_lt_of_cell? _ _ c6⟩, ⟨by omega, (Array.getElem?_eq_some_iff.1 hh).1⟩, es, ck, hh, fun x hx => ?_, h2⟩
  obtain ⟨k, e, hin, hsl⟩ := h1 x hx
  exact ⟨k, e, hin, slB_of hsl (by omega)⟩

theorem look_in {w : World} {Bd E bc b6 M : Nat} (h : KindsAt w Bd E bc b6 M) {k : Int} (hk : k ∈ keysE) :
    ∃ v, SlB Bd E bc w v (endK bc b6 k) ∧ ∀ n, (Instr.lookup 112 (.map (some M)) (.int .i64 k) true).run Try.prog (w.drewN n) = .ok (.tuple #[v, .bool true]) (w.drewN n) := by
  obtain ⟨es, ck, hM, h1, h2⟩ := h.mp
  have hks : ∀ x ∈ es.toList, MapKept.IsKey (.int .i64) x.key := fun x hx => by obtain ⟨k', e, _⟩ := h1 x hx; rw [e]; rfl
  rcases look_any (k := k) hM hks with ⟨x, hx, hkx, hr⟩ | ⟨hno, _⟩
  · obtain ⟨k', e, _, hs⟩ := h1 x hx
    rw [hkx] at e; injection e with e1 e2; subst e2
    exact ⟨x.val, hs, hr⟩
  · obtain ⟨x, hx, e⟩ := h2 k hk
    exact absurd e (hno x hx)

theorem look_out {w : World} {Bd E bc b6 M : Nat} (h : KindsAt w Bd E bc b6 M) {k : Int} (hk : k ∉ keysE) :
    ∀ n, (Instr.lookup 112 (.map (some M)) (.int .i64 k) true).run Try.prog (w.drewN n) = .ok (.tuple #[.nilFunc, .bool false]) (w.drewN n) := by
  obtain ⟨es, ck, hM, h1, h2⟩ := h.mp
  have hks : ∀ x ∈ es.toList, MapKept.IsKey (.int .i64) x.key := fun x hx => by obtain ⟨k', e, _⟩ := h1 x hx; rw [e]; rfl
  rcases look_any (k := k) hM hks with ⟨x, hx, hkx, hr⟩ | ⟨hno, hr⟩
  · obtain ⟨k', e, hin, hs⟩ := h1 x hx
    rw [hkx] at e; injection e with e1 e2; subst e2
    exact absurd hin hk
  · exact hr

/-- What an emit or the like leaves of the kinds. -/
theorem kinds_sp {w w' : World} {Bd E bc b6 M : Nat} {vout vorg : Value} (h : KindsAt w Bd E bc b6 M) (g : Sp (EmitP Bd vout vorg) w w') (ho : ∀ k, vout.ownBlock = some k → E ≤ k) (hr : ∀ k, vorg.ownBlock = some k → E ≤ k) (hE : E ≤ w.heap.size) : KindsAt w' Bd E bc b6 M :=
  kinds_kept h fun k hk1 hk2 => g.block k (by omega) (by
    rintro (e | e | e)
    · omega
    · have := ho k e; omega
    · have := hr k e; omega)

end Go.Proofs.Ytecaolkbllbokaa.TG

namespace Go.Proofs.Ytecaolkbllbokaa.TG
open Go.RowKit Go.Great
set_option linter.unusedSimpArgs false
set_option linter.unusedVariables false

abbrev Cd := List (Int × Int) × List Int × Nat

def kidsC (F : Nat → Cd) : Nat → Nat → Cd
  | 0, a => ([], [], a)
  | n + 1, a => ((F a).1 ++ (kidsC F n (F a).2.2).1, (F a).2.1 ++ (kidsC F n (F a).2.2).2.1, (kidsC F n (F a).2.2).2.2)

/-- What stands behind a part's kids, where it has no jumps and looks at no text. -/
def finE (k n : Int) : List (Int × Int) :=
  if k = 2 then [(8, n)] else if k = 3 then [(10, 0)] else if k = 4 then [(12, 0)] else if k = 9 then [(18, 0)] else if k = 10 then [(4, 0)] else if k = 11 then [(2, 0)]
  else if k = 12 then [(3, n)] else if k = 13 then [(7, n)] else if k = 16 then [(13, 0)] else if k = 17 then [(9, 0)] else if k = 18 then [(11, 0)] else if k = 19 then [(n, 0)] else if k = 20 then [(n, 0)]
  else if k = 25 then [(17, n)] else if k = 26 then [(19, n)] else []

def plainK (k : Int) : Bool := k == 1 || k == 2 || k == 3 || k == 4 || k == 9 || k == 10 || k == 11 || k == 12 || k == 13 || k == 16 || k == 17 || k == 18 || k == 19 || k == 20 || k == 25 || k == 26

def codeE (ps : List (Int × Int × Int)) : Nat → Nat → Cd
  | 0, a => ([], [], a)
  | g + 1, a =>
    match ps[a]? with
    | none => ([], [], a)
    | some (k, n, kc) => ((kidsC (codeE ps g) kc.toNat (a + 1)).1 ++ finE k n, (kidsC (codeE ps g) kc.toNat (a + 1)).2.1 ++ (finE k n).map (fun _ => (a : Int)), (kidsC (codeE ps g) kc.toNat (a + 1)).2.2)

def kidsT (T : Nat → Bool) (F : Nat → Cd) : Nat → Nat → Bool
  | 0, _ => true
  | n + 1, a => T a && kidsT T F n (F a).2.2

/-- Is the part there, with all of its own, and none of them jumps? -/
def plainT (ps : List (Int × Int × Int)) : Nat → Nat → Bool
  | 0, _ => false
  | g + 1, a =>
    match ps[a]? with
    | none => false
    | some (k, n, kc) => plainK k && kidsT (plainT ps g) (codeE ps g) kc.toNat (a + 1)

/-- What a call of write leaves. -/
def WPost (w : World) (E Bd : Nat) (vt vf : Value) (nm : ByteArray) (ar : Int) (vl vp vout vorg vlo vk : Value) (out : List (Int × Int)) (org : List Int) (c : Cd) (e : Ending) (w' : World) : Prop :=
  e = .returned (.int .i64 c.2.2) ∧ Sp (EmitP Bd vout vorg) w w' ∧ ∃ vo vg, CodeAt w' E Bd vt vf nm ar vl vp vo vg vlo vk (out ++ c.1) (org ++ c.2.1) ∧ (∀ k, k < w.heap.size → EmitP Bd vo vg k → EmitP Bd vout vorg k)

theorem partsB_sp {w w' : World} {B : Nat} {pp : Option Addr} {ps : List (Int × Int × Int)} (h : PartsB w B pp ps) (hs : ∀ k, k < B → w'.heap[k]? = w.heap[k]?) : PartsB w' B pp ps := fun h0 => by
  obtain ⟨b, o, e, hb, hc⟩ := h h0
  refine ⟨b, o, e, hb, fun j k n kc hj => ?_⟩
  obtain ⟨h1, h2, h3⟩ := hc j k n kc hj
  rw [← heap_cell (hs b hb)] at h1 h2 h3
  exact ⟨h1, h2, h3⟩

/-- All that write reads beside the code's block. -/
structure WEnv (w : World) (Bd E bc b6 M : Nat) (pp : Option Addr) (ps : List (Int × Int × Int)) : Prop where
  pa : PartsB w Bd pp ps
  ki : KindsAt w Bd E bc b6 M

theorem wenv_low {w w' : World} {Bd E bc b6 M : Nat} {pp : Option Addr} {ps : List (Int × Int × Int)} (h : WEnv w Bd E bc b6 M pp ps) (hs : ∀ k, k < E → k ≠ Bd → w'.heap[k]? = w.heap[k]?) : WEnv w' Bd E bc b6 M pp ps :=
  ⟨partsB_sp h.pa fun k hk => hs k (by have := h.ki.lb; omega) (by omega), kinds_kept h.ki fun k h1 h2 => hs k h2 (by omega)⟩

theorem sp_low {w w' : World} {Bd E : Nat} {vt vf : Value} {nm : ByteArray} {ar : Int} {vl vp vout vorg vlo vk : Value} {out : List (Int × Int)} {org : List Int} (hC : CodeAt w E Bd vt vf nm ar vl vp vout vorg vlo vk out org)
    (g : Sp (EmitP Bd vout vorg) w w') : ∀ k, k < E → k ≠ Bd → w'.heap[k]? = w.heap[k]? := fun k hk hne => g.block k (Nat.lt_of_lt_of_le hk hC.le) (by
  rintro (e | e | e)
  · exact hne e
  · have := (hC.out.lt k e).1; omega
  · have := (hC.org.lt k e).1; omega)

theorem not_emit_new {w : World} {E Bd : Nat} {vt vf : Value} {nm : ByteArray} {ar : Int} {vl vp vout vorg vlo vk : Value} {out : List (Int × Int)} {org : List Int} (hC : CodeAt w E Bd vt vf nm ar vl vp vout vorg vlo vk out org) : ¬ EmitP Bd vout vorg w.heap.size := by
  rintro (e | e | e)
  · have := hC.lt; have := hC.le; omega
  · have := (hC.out.lt _ e).2; omega
  · have := (hC.org.lt _ e).2; omega

/-- Where the loop over a part's kids stands, in write. -/
structure WRel (w wa wr : World) (B E Bd : Nat) (vt vf : Value) (nm : ByteArray) (ar : Int) (vl vp vout vorg vlo vk : Value) (out : List (Int × Int)) (org : List Int) (k n kc : Int) (F : Nat → Cd) (T : Nat → Bool) (a0 q aq : Nat) (vo vg : Value) (outq : List (Int × Int)) (orgq : List Int) : Prop where
  code : CodeAt wr E Bd vt vf nm ar vl vp vo vg vlo vk outq orgq
  sp : Sp (EmitP Bd vout vorg) w wr
  row : ∀ j, j < w.heap.size → EmitP Bd vo vg j → EmitP Bd vout vorg j
  nb : ¬ EmitP Bd vo vg B
  copy : CopyW wr B k n kc
  hq : q ≤ kc.toNat
  e1 : out ++ (kidsC F kc.toNat a0).1 = outq ++ (kidsC F (kc.toNat - q) aq).1
  e2 : org ++ (kidsC F kc.toNat a0).2.1 = orgq ++ (kidsC F (kc.toNat - q) aq).2.1
  e3 : (kidsC F kc.toNat a0).2.2 = (kidsC F (kc.toNat - q) aq).2.2
  t : kidsT T F (kc.toNat - q) aq = true

theorem wrel_step {w wa wr w' : World} {B E Bd : Nat} {vt vf : Value} {nm : ByteArray} {ar : Int} {vl vp vout vorg vlo vk : Value} {out : List (Int × Int)} {org : List Int} {k n kc : Int} {F : Nat → Cd} {T : Nat → Bool} {a0 q aq : Nat} {vo vg : Value} {outq : List (Int × Int)} {orgq : List Int}
    (h : WRel w wa wr B E Bd vt vf nm ar vl vp vout vorg vlo vk out org k n kc F T a0 q aq vo vg outq orgq) (hlt : (q : Int) < kc) {vo' vg' : Value} (hB : B < wr.heap.size)
    (hsp : Sp (EmitP Bd vo vg) wr w') (hC : CodeAt w' E Bd vt vf nm ar vl vp vo' vg' vlo vk (outq ++ (F aq).1) (orgq ++ (F aq).2.1)) (hr : ∀ j, j < wr.heap.size → EmitP Bd vo' vg' j → EmitP Bd vo vg j) :
    WRel w wa w' B E Bd vt vf nm ar vl vp vout vorg vlo vk out org k n kc F T a0 (q + 1) (F aq).2.2 vo' vg' (outq ++ (F aq).1) (orgq ++ (F aq).2.1) := by
  have e : kc.toNat - q = (kc.toNat - (q + 1)) + 1 := by omega
  refine ⟨hC, sp_trans h.sp hsp (fun j hj hp => h.row j hj hp), fun j hj hp => h.row j hj (hr j (Nat.lt_of_lt_of_le hj h.sp.size) hp), fun hp => h.nb (hr B hB hp), ?_, by have := h.hq; omega, ?_, ?_, ?_, ?_⟩
  · unfold CopyW; rw [hsp.block B hB h.nb]; exact h.copy
  · rw [h.e1, e, kidsC, List.append_assoc]
  · rw [h.e2, e, kidsC, List.append_assoc]
  · rw [h.e3, e, kidsC]
  · have := h.t; rw [e, kidsT, Bool.and_eq_true] at this; exact this.2

theorem wrel_ok {w wa wr : World} {B E Bd : Nat} {vt vf : Value} {nm : ByteArray} {ar : Int} {vl vp vout vorg vlo vk : Value} {out : List (Int × Int)} {org : List Int} {k n kc : Int} {F : Nat → Cd} {T : Nat → Bool} {a0 q aq : Nat} {vo vg : Value} {outq : List (Int × Int)} {orgq : List Int}
    (h : WRel w wa wr B E Bd vt vf nm ar vl vp vout vorg vlo vk out org k n kc F T a0 q aq vo vg outq orgq) (hlt : (q : Int) < kc) : T aq = true ∧ outq.length + (F aq).1.length ≤ (out ++ (kidsC F kc.toNat a0).1).length ∧ orgq.length + (F aq).2.1.length ≤ (org ++ (kidsC F kc.toNat a0).2.1).length := by
  have e : kc.toNat - q = (kc.toNat - (q + 1)) + 1 := by omega
  have := h.t; rw [e, kidsT, Bool.and_eq_true] at this
  refine ⟨this.1, ?_, ?_⟩
  · rw [h.e1, e, kidsC]; simp only [List.length_append]; omega
  · rw [h.e2, e, kidsC]; simp only [List.length_append]; omega

theorem wrel_end {w wa wr : World} {B E Bd : Nat} {vt vf : Value} {nm : ByteArray} {ar : Int} {vl vp vout vorg vlo vk : Value} {out : List (Int × Int)} {org : List Int} {k n kc : Int} {F : Nat → Cd} {T : Nat → Bool} {a0 q aq : Nat} {vo vg : Value} {outq : List (Int × Int)} {orgq : List Int}
    (h : WRel w wa wr B E Bd vt vf nm ar vl vp vout vorg vlo vk out org k n kc F T a0 q aq vo vg outq orgq) (hlt : ¬ (q : Int) < kc) : outq = out ++ (kidsC F kc.toNat a0).1 ∧ orgq = org ++ (kidsC F kc.toNat a0).2.1 ∧ aq = (kidsC F kc.toNat a0).2.2 := by
  have e : kc.toNat - q = 0 := by omega
  refine ⟨?_, ?_, ?_⟩
  · rw [h.e1, e, kidsC]; simp
  · rw [h.e2, e, kidsC]; simp
  · rw [h.e3, e, kidsC]

theorem kids_pos {T : Nat → Bool} {F : Nat → Cd} {np : Nat} (hF : ∀ a, T a = true → a < (F a).2.2 ∧ (F a).2.2 ≤ np) : ∀ n a, a ≤ np → kidsT T F n a = true → a + n ≤ (kidsC F n a).2.2 ∧ (kidsC F n a).2.2 ≤ np
  | 0, a, ha, _ => by rw [kidsC]; exact ⟨Nat.le_refl _, ha⟩
  | n + 1, a, ha, h => by
    rw [kidsT, Bool.and_eq_true] at h
    have h1 := hF a h.1
    have h2 := kids_pos hF n (F a).2.2 h1.2 h.2
    rw [kidsC]
    exact ⟨by simp only []; omega, h2.2⟩

theorem plain_pos (ps : List (Int × Int × Int)) : ∀ g a, plainT ps g a = true → a < (codeE ps g a).2.2 ∧ (codeE ps g a).2.2 ≤ ps.length
  | 0, a, h => by cases h
  | g + 1, a, h => by
    rw [plainT] at h
    rw [codeE]
    cases hp : ps[a]? with
    | none => rw [hp] at h; cases h
    | some x =>
      obtain ⟨k, n, kc⟩ := x
      rw [hp] at h
      simp only [Bool.and_eq_true] at h
      have hlt : a < ps.length := (List.getElem?_eq_some_iff.1 hp).1
      have h2 := kids_pos (plain_pos ps g) kc.toNat (a + 1) (by omega) h.2
      exact ⟨by simp only []; omega, h2.2⟩

theorem wfin_emit {w wa wr w' : World} {B E Bd : Nat} {vt vf : Value} {nm : ByteArray} {ar : Int} {vl vp vout vorg vlo vk : Value} {out : List (Int × Int)} {org : List Int} {k n kc : Int} {F : Nat → Cd} {T : Nat → Bool} {a0 q aq at_ : Nat} {vo vg : Value} {outq : List (Int × Int)} {orgq : List Int} {c : Cd} {o a : Int}
    (h : WRel w wa wr B E Bd vt vf nm ar vl vp vout vorg vlo vk out org k n kc F T a0 q aq vo vg outq orgq) (hlt : ¬ (q : Int) < kc) (hc : c = ((kidsC F kc.toNat a0).1 ++ finE k n, (kidsC F kc.toNat a0).2.1 ++ (finE k n).map (fun _ => (at_ : Int)), (kidsC F kc.toNat a0).2.2)) (hf : finE k n = [(o, a)])
    (sp : Sp (EmitP Bd vo vg) wr w') (hr : ∃ vo' vg', CodeAt w' E Bd vt vf nm ar vl vp vo' vg' vlo vk (outq ++ [(o, a)]) (orgq ++ [(at_ : Int)]) ∧ (∀ j, j < wr.heap.size → EmitP Bd vo' vg' j → EmitP Bd vo vg j)) :
    WPost w E Bd vt vf nm ar vl vp vout vorg vlo vk out org c (.returned (.int .i64 aq)) w' := by
  obtain ⟨e1, e2, e3⟩ := wrel_end h hlt
  obtain ⟨vo', vg', hC, hrow⟩ := hr
  refine ⟨by rw [hc, e3], sp_trans h.sp sp (fun j hj hp => h.row j hj hp), vo', vg', ?_, fun j hj hp => h.row j hj (hrow j (Nat.lt_of_lt_of_le hj h.sp.size) hp)⟩
  rw [hc, hf]
  simp only [List.map_cons, List.map_nil]
  rw [← List.append_assoc, ← List.append_assoc, ← e1, ← e2]
  exact hC

theorem wfin_none {w wa wr w' : World} {B E Bd : Nat} {vt vf : Value} {nm : ByteArray} {ar : Int} {vl vp vout vorg vlo vk : Value} {out : List (Int × Int)} {org : List Int} {k n kc : Int} {F : Nat → Cd} {T : Nat → Bool} {a0 q aq at_ : Nat} {vo vg : Value} {outq : List (Int × Int)} {orgq : List Int} {c : Cd}
    (h : WRel w wa wr B E Bd vt vf nm ar vl vp vout vorg vlo vk out org k n kc F T a0 q aq vo vg outq orgq) (hlt : ¬ (q : Int) < kc) (hc : c = ((kidsC F kc.toNat a0).1 ++ finE k n, (kidsC F kc.toNat a0).2.1 ++ (finE k n).map (fun _ => (at_ : Int)), (kidsC F kc.toNat a0).2.2)) (hf : finE k n = [])
    (g : wr.grownBy w' none) : WPost w E Bd vt vf nm ar vl vp vout vorg vlo vk out org c (.returned (.int .i64 aq)) w' := by
  obtain ⟨e1, e2, e3⟩ := wrel_end h hlt
  refine ⟨by rw [hc, e3], sp_trans h.sp (sp_grown g (by simp)) (fun j hj hp => hp), vo, vg, ?_, h.row⟩
  rw [hc, hf]
  simp only [List.map_nil, List.append_nil]
  rw [← e1, ← e2]
  exact code_kept h.code g

theorem plain_cls (bc b6 : Nat) (k n : Int) (h : plainK k = true) (h1 : k ≠ 1) : k ∈ keysE ∧ ((∃ o, endK bc b6 k = .pl o ∧ finE k n = [(o, 0)]) ∨ (∃ o, endK bc b6 k = .wi o v5E ∧ finE k n = [(o, n)]) ∨ (endK bc b6 k = .fn (vnE bc) ∧ finE k n = [(n, 0)])) := by
  simp only [plainK, Bool.or_eq_true, beq_iff_eq] at h
  rcases h with ((((((((((((((h | h) | h) | h) | h) | h) | h) | h) | h) | h) | h) | h) | h) | h) | h) | h
  · exact absurd h h1
  · subst h; exact ⟨by decide, Or.inr (Or.inl ⟨_, rfl, rfl⟩)⟩
  · subst h; exact ⟨by decide, Or.inl ⟨_, rfl, rfl⟩⟩
  · subst h; exact ⟨by decide, Or.inl ⟨_, rfl, rfl⟩⟩
  · subst h; exact ⟨by decide, Or.inl ⟨_, rfl, rfl⟩⟩
  · subst h; exact ⟨by decide, Or.inl ⟨_, rfl, rfl⟩⟩
  · subst h; exact ⟨by decide, Or.inl ⟨_, rfl, rfl⟩⟩
  · subst h; exact ⟨by decide, Or.inr (Or.inl ⟨_, rfl, rfl⟩)⟩
  · subst h; exact ⟨by decide, Or.inr (Or.inl ⟨_, rfl, rfl⟩)⟩
  · subst h; exact ⟨by decide, Or.inl ⟨_, rfl, rfl⟩⟩
  · subst h; exact ⟨by decide, Or.inl ⟨_, rfl, rfl⟩⟩
  · subst h; exact ⟨by decide, Or.inl ⟨_, rfl, rfl⟩⟩
  · subst h; exact ⟨by decide, Or.inr (Or.inr ⟨rfl, rfl⟩)⟩
  · subst h; exact ⟨by decide, Or.inr (Or.inr ⟨rfl, rfl⟩)⟩
  · subst h; exact ⟨by decide, Or.inr (Or.inl ⟨_, rfl, rfl⟩)⟩
  · subst h; exact ⟨by decide, Or.inr (Or.inl ⟨_, rfl, rfl⟩)⟩

theorem sp_drewN {P : Nat → Prop} {w w' : World} {n : Nat} (h : Sp P (w.drewN n) w') : Sp P w w' := ⟨h.os, h.tape, h.output, h.size, h.block⟩

end Go.Proofs.Ytecaolkbllbokaa.TG

namespace Go.Proofs.Ytecaolkbllbokaa.TG
open Go.RowKit Go.Great
set_option linter.unusedSimpArgs false
set_option linter.unusedVariables false

set_option maxRecDepth 100000 in
set_option maxHeartbeats 4000000 in
theorem write_plain (g : Nat) (E Bd bc b6 M cp : Nat) (vt vf : Value) (nm : ByteArray) (ar : Int) (vl : Value) (pp : Option Addr) (ps : List (Int × Int × Int)) (hnp : ps.length ≤ 17592186044415) (vout vorg vlo : Value) (out : List (Int × Int)) (org : List Int) (at_ : Nat) (k n kc : Int) (hp : ps[at_]? = some (k, n, kc)) (hpk : plainK k = true)
    (hkt : kidsT (plainT ps g) (codeE ps g) kc.toNat (at_ + 1) = true) (w : World)
    (hC : CodeAt w E Bd vt vf nm ar vl (.slice pp ps.length cp) vout vorg vlo (.map (some M)) out org) (hE : WEnv w Bd E bc b6 M pp ps)
    (ho : (out ++ (codeE ps (g + 1) at_).1).length ≤ 1000000000000) (hg : (org ++ (codeE ps (g + 1) at_).2.1).length ≤ 1000000000000)
    (hI : ∀ (at_ : Nat) (vout vorg : Value) (out : List (Int × Int)) (org : List Int) (w : World), plainT ps g at_ = true → CodeAt w E Bd vt vf nm ar vl (.slice pp ps.length cp) vout vorg vlo (.map (some M)) out org → WEnv w Bd E bc b6 M pp ps →
      (out ++ (codeE ps g at_).1).length ≤ 1000000000000 → (org ++ (codeE ps g at_).2.1).length ≤ 1000000000000 →
      Calls Try.prog 43 #[.pointer (some ⟨Bd, 0, none⟩), .int .i64 at_] w (WPost w E Bd vt vf nm ar vl (.slice pp ps.length cp) vout vorg vlo (.map (some M)) out org (codeE ps g at_))) :
    Calls Try.prog 43 #[.pointer (some ⟨Bd, 0, none⟩), .int .i64 at_] w (WPost w E Bd vt vf nm ar vl (.slice pp ps.length cp) vout vorg vlo (.map (some M)) out org (codeE ps (g + 1) at_)) := by
  have hcode : codeE ps (g + 1) at_ = ((kidsC (codeE ps g) kc.toNat (at_ + 1)).1 ++ finE k n, (kidsC (codeE ps g) kc.toNat (at_ + 1)).2.1 ++ (finE k n).map (fun _ => (at_ : Int)), (kidsC (codeE ps g) kc.toNat (at_ + 1)).2.2) := by rw [codeE, hp]
  rw [hcode] at ho hg
  have HI := Lib.hid hI
  have HT := Lib.hid hkt
  have HCD := Lib.hid hcode
  have hja : at_ < ps.length := (List.getElem?_eq_some_iff.1 hp).1
  obtain ⟨bp, op, rfl, hpB, hpc⟩ := hE.pa (by omega)
  obtain ⟨p0, p1, p2⟩ := hpc _ _ _ _ hp
  have hBw : Bd < w.heap.size := Nat.lt_of_lt_of_le hC.lt hC.le
  have hbp : bp < w.heap.size := Nat.lt_trans hpB hBw
  have c5 : w.cell? ⟨Bd, 5, none⟩ = some (.slice (some ⟨bp, op, none⟩) ps.length cp) := code_cell hC 5
  have CC := Lib.hid hC
  have EE := Lib.hid hE
  have HPC := Lib.hid hpc
  have hji : (at_ : Int) < (ps.length : Int) := by omega
  have HO := Lib.hid ho
  have HG := Lib.hid hg
  have n5 : (k == 5) = false := by by_cases h : k = 5 <;> simp [h]; subst h; exact absurd hpk (by decide)
  have n6 : (k == 6) = false := by by_cases h : k = 6 <;> simp [h]; subst h; exact absurd hpk (by decide)
  have n7 : (k == 7) = false := by by_cases h : k = 7 <;> simp [h]; subst h; exact absurd hpk (by decide)
  have n8 : (k == 8) = false := by by_cases h : k = 8 <;> simp [h]; subst h; exact absurd hpk (by decide)
  have n23 : (k == 23) = false := by by_cases h : k = 23 <;> simp [h]; subst h; exact absurd hpk (by decide)
  have n24 : (k == 24) = false := by by_cases h : k = 24 <;> simp [h]; subst h; exact absurd hpk (by decide)
  have hkc : kc ≤ 17592186044415 := by have := kids_pos (plain_pos ps g) kc.toNat (at_ + 1) (by omega) hkt; omega
  clear hI hkt hcode hC hE hpc ho hg
  go_enter Try.func43, Try.ntmps43
  go_wp2
  have K0 : WRel w w (w.alloc (.cells #[.int .i64 k, .int .i64 n, .int .i64 kc] 108)) w.heap.size E Bd vt vf nm ar vl (.slice (some ⟨bp, op, none⟩) ps.length cp) vout vorg vlo (.map (some M)) out org k n kc (codeE ps g) (plainT ps g) (at_ + 1) 0 (at_ + 1) vout vorg out org :=
    ⟨code_kept CC.out (World.grownBy_alloc _ _ _), sp_grown (World.grownBy_alloc _ _ none) (by simp), fun j _ h => h, not_emit_new CC.out, copy_new w k n kc, Nat.zero_le _, rfl, rfl, rfl, HT.out⟩
  have KK := Lib.hid K0
  clear K0 p0 p1 p2 c5
  go_loopw [6, 49] (fun v i wr => ∃ (q aq : Nat) (vo vg : Value) (outq : List (Int × Int)) (orgq : List Int), i = .int .i64 q ∧ v = .int .i64 aq ∧ WRel w w wr w.heap.size E Bd vt vf nm ar vl (.slice (some ⟨bp, op, none⟩) ps.length cp) vout vorg vlo (.map (some M)) out org k n kc (codeE ps g) (plainT ps g) (at_ + 1) q aq vo vg outq orgq) (fun _ i _ => kc.toNat - (intOf i).toNat)
  case atStart => exact ⟨0, at_ + 1, vout, vorg, out, org, rfl, by go_num, KK.out⟩
  case round =>
    obtain ⟨q, aq, vo, vg, outq, orgq, rfl, rfl, hL⟩ := hrel
    have LL := Lib.hid hL
    have hqk := hL.hq
    have x0 := copy_0 hL.copy
    have x2 := copy_2 hL.copy
    have c9 : wr.cell? ⟨Bd, 9, none⟩ = some (.map (some M)) := code_cell hL.code 9
    have hBr : Bd < wr.heap.size := Nat.lt_of_lt_of_le hL.code.lt hL.code.le
    have hBB := copy_lt hL.copy
    have EW := Lib.hid (wenv_low EE.out (sp_low CC.out hL.sp))
    clear hL
    by_cases hlt : (q : Int) < kc
    · have hok := wrel_ok LL.out hlt
      have I1 := Lib.hid (HI.out aq vo vg outq orgq wr hok.1 LL.out.code EW.out (by have := hok.2.1; have := HO.out; simp only [List.length_append] at *; omega) (by have := hok.2.2; have := HG.out; simp only [List.length_append] at *; omega))
      clear hok c9 x0
      go_wp2_with (go_at_call 43; refine I1.out.mono ?_; intro e w3 hpost; obtain ⟨rfl, hsp, vo', vg', hC', hrow⟩ := hpost; have S3 := Lib.hid hsp; have C3 := Lib.hid hC'; have R3 := Lib.hid hrow; clear hsp hC' hrow)
      go_roundw
      case rel => exact ⟨q + 1, _, vo', vg', _, _, by go_num, rfl, wrel_step LL.out hlt hBB S3.out C3.out R3.out⟩
      case measure => simp [intOf]; omega
    · by_cases k1 : k = 1
      · have hlk := look_out EW.out.ki (k := k) (by subst k1; decide)
        have HF := Lib.hid (show finE k n = [] by subst k1; rfl)
        clear k1
        go_wp2
        go_quiet (fail)
        go_wp2
        go_ret
        exact wfin_none LL.out (by omega) HCD.out HF.out (grownBy_drewN wr nq none)
      · obtain ⟨hin, hcls⟩ := plain_cls bc b6 k n hpk k1
        obtain ⟨v, hsl, hlk⟩ := look_in EW.out.ki hin
        have hE3 := wrel_end LL.out hlt
        have hlen1 : outq.length ≤ 1000000000000 := by have := HO.out; rw [hE3.1]; simp only [List.length_append] at *; omega
        have hlen2 : orgq.length ≤ 1000000000000 := by have := HG.out; rw [hE3.2.1]; simp only [List.length_append] at *; omega
        have hn0 := (partsB_sp (fun _ => ⟨bp, op, rfl, hpB, HPC.out⟩) (fun j hj => sp_low CC.out LL.out.sp j (by have := CC.out.lt; omega) (by omega)) : PartsB wr Bd (some ⟨bp, op, none⟩) ps) (by omega)
        have hcn : wr.cell? ⟨bp, op + at_ * 3 + 1, none⟩ = some (.int .i64 n) := by
          obtain ⟨b', o', e, _, hc⟩ := hn0
          injection e with e; injection e with e1 e2 _; subst e1; subst e2
          exact (hc _ _ _ _ hp).2.1
        have hbpr : bp < wr.heap.size := by omega
        have hbcr : bc < wr.heap.size := by have := EW.out.ki.lb; have := LL.out.code.le; omega
        have hcb := EW.out.ki.cb
        have hC : ∀ m, CodeAt (wr.drewN m) E Bd vt vf nm ar vl (.slice (some ⟨bp, op, none⟩) ps.length cp) vo vg vlo (.map (some M)) outq orgq := fun m => code_kept LL.out.code (grownBy_drewN wr m none)
        have hle := LL.out.code.le
        rcases hcls with ⟨o, hk, hf⟩ | ⟨o, hk, hf⟩ | ⟨hk, hf⟩
        · rw [hk] at hsl
          obtain ⟨b, rfl, hb1, hb2, hc⟩ := hsl
          have PA := Lib.hid (fun m => plain_any E Bd b vt vf nm ar vl _ vo vg vlo _ outq orgq at_ o (wr.drewN m) (hC m) hlen1 hlen2 hc)
          have HF := Lib.hid hf
          clear hf hk hC hcn hcb hn0 hE3 hlen1 hlen2 hc hin k1
          unfold fnV ptrV at hlk
          go_wp2
          go_quiet (fail)
          go_wp2_with (go_at_call 66; refine (PA.out _).mono ?_; intro e w3 hpost; obtain ⟨rfl, hsp, hrest⟩ := hpost; have S3 := Lib.hid hsp; have R3 := Lib.hid hrest; clear hsp hrest)
          go_ret
          exact wfin_emit LL.out (by omega) HCD.out HF.out (sp_drewN S3.out) R3.out
        · rw [hk] at hsl
          obtain ⟨b3, b4, rfl, hb3, hb4, hc3, hc4⟩ := hsl
          have PA := Lib.hid (fun m => with_same E Bd b3 b4 bc bp op cp ps.length at_ vt vf nm ar vl vo vg vlo _ outq orgq o n (wr.drewN m) (hC m) hlen1 hlen2 hja hnp hc3 hc4 hcb hcn hbpr hbcr (show b3 < wr.heap.size by omega) (show b4 < wr.heap.size by omega))
          have HF := Lib.hid hf
          clear hf hk hC hcn hcb hn0 hE3 hlen1 hlen2 hc3 hc4 hin k1
          unfold fnV ptrV at hlk
          go_wp2
          go_quiet (fail)
          go_wp2_with (go_at_call 68; refine (PA.out _).mono ?_; intro e w3 hpost; obtain ⟨rfl, hsp, hrest⟩ := hpost; have S3 := Lib.hid hsp; have R3 := Lib.hid hrest; clear hsp hrest)
          go_ret
          exact wfin_emit LL.out (by omega) HCD.out HF.out (sp_drewN S3.out) R3.out
        · rw [hk] at hsl
          have hv : v = vnE bc := hsl
          subst hv
          have PA := Lib.hid (fun m => named_any E Bd bc bp op cp ps.length at_ vt vf nm ar vl vo vg vlo _ outq orgq n (wr.drewN m) (hC m) hlen1 hlen2 hja hnp hcb hcn hbpr hbcr)
          have HF := Lib.hid hf
          clear hf hk hC hcn hcb hn0 hE3 hlen1 hlen2 hin k1
          unfold vnE fnV ptrV at hlk
          go_wp2
          go_quiet (fail)
          go_wp2_with (go_at_call 70; refine (PA.out _).mono ?_; intro e w3 hpost; obtain ⟨rfl, hsp, hrest⟩ := hpost; have S3 := Lib.hid hsp; have R3 := Lib.hid hrest; clear hsp hrest)
          go_ret
          exact wfin_emit LL.out (by omega) HCD.out HF.out (sp_drewN S3.out) R3.out

theorem write_any (E Bd bc b6 M cp : Nat) (vt vf : Value) (nm : ByteArray) (ar : Int) (vl : Value) (pp : Option Addr) (ps : List (Int × Int × Int)) (hnp : ps.length ≤ 17592186044415) (vlo : Value) : ∀ (g at_ : Nat) (vout vorg : Value) (out : List (Int × Int)) (org : List Int) (w : World), plainT ps g at_ = true →
    CodeAt w E Bd vt vf nm ar vl (.slice pp ps.length cp) vout vorg vlo (.map (some M)) out org → WEnv w Bd E bc b6 M pp ps → (out ++ (codeE ps g at_).1).length ≤ 1000000000000 → (org ++ (codeE ps g at_).2.1).length ≤ 1000000000000 →
    Calls Try.prog 43 #[.pointer (some ⟨Bd, 0, none⟩), .int .i64 at_] w (WPost w E Bd vt vf nm ar vl (.slice pp ps.length cp) vout vorg vlo (.map (some M)) out org (codeE ps g at_))
  | 0, at_, vout, vorg, out, org, w, h, _, _, _, _ => by cases h
  | g + 1, at_, vout, vorg, out, org, w, h, hC, hE, ho, hg => by
    rw [plainT] at h
    cases hp : ps[at_]? with
    | none => rw [hp] at h; cases h
    | some x =>
      obtain ⟨k, n, kc⟩ := x
      rw [hp] at h
      simp only [Bool.and_eq_true] at h
      exact write_plain g E Bd bc b6 M cp vt vf nm ar vl pp ps hnp vout vorg vlo out org at_ k n kc hp h.1 h.2 w hC hE ho hg (write_any E Bd bc b6 M cp vt vf nm ar vl pp ps hnp vlo g)

end Go.Proofs.Ytecaolkbllbokaa.TG

namespace Go.Proofs.Ytecaolkbllbokaa.TG
open Go.RowKit Go.Great
set_option linter.unusedSimpArgs false
set_option linter.unusedVariables false

set_option maxRecDepth 100000 in
set_option maxHeartbeats 4000000 in
theorem size_any (ts : List (ByteArray × List Int)) (hn : ts.length ≤ 1024) (hts : ∀ x ∈ ts, x.1.size ≤ maxLen ∧ x.2.length ≤ 17592186044415) (pt : Option Addr) (ct B : Nat) (w : World) (hT : TextsAt w B pt ts) (hB : B ≤ w.heap.size) :
    Calls Try.prog 41 #[.slice pt ts.length ct] w fun e w' => e = .returned (.int .i64 (bytesTo ts ts.length)) ∧ w.grownBy w' none := by
  have HT := Lib.hid hT
  have HS := Lib.hid hts
  have HB := Lib.hid (bytesTo_bound ts (fun x hx => (hts x hx).2))
  clear hT hts
  go_enter Try.func41, Try.ntmps41
  go_wp2
  go_loopw [3, 8] (fun v i wr => ∃ (k : Nat), k ≤ ts.length ∧ i = .int .i64 k ∧ v = .int .i64 (bytesTo ts k) ∧ w.grownBy wr none) (fun _ i _ => ts.length - (intOf i).toNat)
  case atStart => exact ⟨0, Nat.zero_le _, rfl, rfl, grownBy_refl _ _⟩
  case round =>
    obtain ⟨k, hk, rfl, rfl, hgr⟩ := hrel
    have GR := Lib.hid hgr
    have hsz := hgr.size
    have hbk := HB.out k
    clear hgr
    by_cases hlt : (k : Int) < (ts.length : Int)
    · obtain ⟨nm, d, hg, hmem⟩ := get_text ts k (by omega)
      obtain ⟨bt, ot, rfl, hbt, hct⟩ := HT.out (by omega)
      obtain ⟨e0, pd, cd, e1, hbd⟩ := hct k nm d hg
      replace e0 := cell_low GR.out (B := B) (by simp) hbt e0
      replace e1 := cell_low GR.out (B := B) (by simp) hbt e1
      have hdl := (HS.out _ hmem).2
      have hbt2 : bt < wr.heap.size := by omega
      have HG := Lib.hid (bytes_step ts k nm d hg)
      clear hct hbd hmem hg
      simp only [] at hdl
      generalize bytesTo ts k = x at *
      go_wp2
      go_roundw
      case rel => exact ⟨k + 1, by omega, by go_num, by rw [HG.out], grownBy_trans GR.out (World.grownBy_alloc _ _ none)⟩
      case measure => simp [intOf]; omega
    · have hkn : k = ts.length := by omega
      subst hkn
      go_wp2
      go_ret
      exact ⟨rfl, GR.out⟩

end Go.Proofs.Ytecaolkbllbokaa.TG

namespace Go.Proofs.Ytecaolkbllbokaa.TG
open Go.RowKit Go.Great
set_option linter.unusedSimpArgs false
set_option linter.unusedVariables false

theorem tmN_put {a : Act} {N d : Nat} {v : Value} (hs : a.tmps.size = N) (hd : d < N) (e : Nat) : tm (a.put (some d) v) e = if e = d then v else tm a e := by
  unfold tm Act.put
  by_cases h : e = d
  · subst h; simp [hs, hd]
  · rw [if_neg h]; simp [Array.getD_eq_getD_getElem?, Array.getElem?_setIfInBounds_ne (Ne.symm h)]
theorem sizeN_put {a : Act} {N : Nat} {d : Option Tmp} {v : Value} (hs : a.tmps.size = N) : (a.put d v).tmps.size = N := by cases d <;> simp [Act.put, hs]

/-- The frame where the operations of l have come up. -/
structure RJ (a0 : Act) (N n : Nat) (dst : Nat → Nat) (val : Nat → Value) (l : Array Bool) (a : Act) : Prop where
  sz : l.size = n
  ts : a.tmps.size = N
  df : a.defers = a0.defers
  sl : ∀ i, i < n → l.getD i false = true → dst i < N → tm a (dst i) = val i
  un : ∀ j, (∀ i, i < n → l.getD i false = true → dst i ≠ j) → tm a j = tm a0 j

theorem rj_put {a0 a : Act} {N n i : Nat} {dst : Nat → Nat} {val : Nat → Value} {l : Array Bool} (h : RJ a0 N n dst val l a) (hi : i < n) (hd : dst i < N) (hne : ∀ j, j < n → j ≠ i → dst j ≠ dst i) :
    RJ a0 N n dst val (l.setIfInBounds i true) (a.put (some (dst i)) (val i)) := by
  have hgs : ∀ j, (l.setIfInBounds i true).getD j false = if j = i then true else l.getD j false := fun j => getD_set l i j (by rw [h.sz]; exact hi)
  have T : ∀ e, tm (a.put (some (dst i)) (val i)) e = if e = dst i then val i else tm a e := fun e => tmN_put h.ts hd e
  refine ⟨by simp [h.sz], sizeN_put h.ts, h.df, fun j hj hl hdj => ?_, fun j hj => ?_⟩
  · rw [hgs] at hl
    by_cases hji : j = i
    · subst hji; rw [T, if_pos rfl]
    · rw [if_neg hji] at hl
      rw [T, if_neg (hne j hj hji)]
      exact h.sl j hj hl hdj
  · have h1 := hj i hi (by rw [hgs, if_pos rfl])
    rw [T, if_neg (Ne.symm h1)]
    refine h.un j fun i' hi' hl' => hj i' hi' ?_
    rw [hgs]
    by_cases e : i' = i
    · rw [if_pos e]
    · rw [if_neg e]; exact hl'

theorem rj_none {a0 a : Act} {N n i : Nat} {dst : Nat → Nat} {val : Nat → Value} {l : Array Bool} (h : RJ a0 N n dst val l a) (hi : i < n) (hd : N ≤ dst i) : RJ a0 N n dst val (l.setIfInBounds i true) a := by
  have hgs : ∀ j, (l.setIfInBounds i true).getD j false = if j = i then true else l.getD j false := fun j => getD_set l i j (by rw [h.sz]; exact hi)
  refine ⟨by simp [h.sz], h.ts, h.df, fun j hj hl hdj => ?_, fun j hj => ?_⟩
  · rw [hgs] at hl
    by_cases hji : j = i
    · subst hji; omega
    · rw [if_neg hji] at hl; exact h.sl j hj hl hdj
  · refine h.un j fun i' hi' hl' => hj i' hi' ?_
    rw [hgs]
    by_cases e : i' = i
    · rw [if_pos e]
    · rw [if_neg e]; exact hl'

theorem rj_start {a0 : Act} {N n : Nat} {dst : Nat → Nat} {val : Nat → Value} (hs : a0.tmps.size = N) : RJ a0 N n dst val (Array.replicate n false) a0 :=
  ⟨by simp, hs, rfl, fun i hi hl _ => (by rw [getD_replicate_false] at hl; cases hl), fun j _ => rfl⟩

theorem act_ext {a b : Act} (hs : a.tmps.size = b.tmps.size) (hd : a.defers = b.defers) (ht : ∀ j, j < a.tmps.size → tm a j = tm b j) : a = b := by
  obtain ⟨ta, da⟩ := a
  obtain ⟨tb, db⟩ := b
  simp only at hs hd
  subst hd
  congr 1
  refine Array.ext hs fun j h1 h2 => ?_
  have := ht j h1
  simpa [tm, h1, h2] using this

theorem rj_end {a0 a aF : Act} {N n : Nat} {dst : Nat → Nat} {val : Nat → Value} {l : Array Bool} (h : RJ a0 N n dst val l a) (hl : ∀ j, j < n → l.getD j false = true) (hs : aF.tmps.size = N) (hd : aF.defers = a0.defers)
    (hv : ∀ i, i < n → dst i < N → tm aF (dst i) = val i) (hu : ∀ j, (∀ i, i < n → dst i ≠ j) → tm aF j = tm a0 j) : a = aF := by
  refine act_ext (h.ts.trans hs.symm) (h.df.trans hd.symm) fun j hj => ?_
  by_cases he : ∃ i, i < n ∧ dst i = j
  · obtain ⟨i, hi, rfl⟩ := he
    have hN : dst i < N := by rw [← h.ts]; exact hj
    rw [h.sl i hi (hl i hi) hN, hv i hi hN]
  · have hne : ∀ i, i < n → dst i ≠ j := fun i hi e => he ⟨i, hi, e⟩
    rw [h.un j (fun i hi _ => hne i hi), hu j hne]

/-- Puts, one behind the other. -/
def putsF (a0 : Act) (dst : Nat → Nat) (val : Nat → Value) : Nat → Act
  | 0 => a0
  | n + 1 => (putsF a0 dst val n).put (some (dst n)) (val n)

theorem putsF_size {a0 : Act} {N : Nat} {dst : Nat → Nat} {val : Nat → Value} (hs : a0.tmps.size = N) : ∀ n, (putsF a0 dst val n).tmps.size = N
  | 0 => hs
  | n + 1 => sizeN_put (putsF_size hs n)
theorem putsF_defers {a0 : Act} {dst : Nat → Nat} {val : Nat → Value} : ∀ n, (putsF a0 dst val n).defers = a0.defers
  | 0 => rfl
  | n + 1 => putsF_defers n
theorem putsF_in {a0 : Act} {N : Nat} {dst : Nat → Nat} {val : Nat → Value} (hs : a0.tmps.size = N) : ∀ n, (∀ i j, i < n → j < n → i ≠ j → dst i ≠ dst j) → ∀ i, i < n → dst i < N → tm (putsF a0 dst val n) (dst i) = val i
  | 0, _, i, hi, _ => by omega
  | n + 1, hne, i, hi, hd => by
    rw [putsF]
    by_cases e : i = n
    · subst e; rw [tmN_put (putsF_size hs i) hd, if_pos rfl]
    · have h1 := putsF_in (a0 := a0) (val := val) hs n (fun i j h1 h2 => hne i j (by omega) (by omega)) i (by omega) hd
      by_cases hn : dst n < N
      · rw [tmN_put (putsF_size hs n) hn, if_neg (hne i n (by omega) (by omega) e)]; exact h1
      · have : ∀ v, tm ((putsF a0 dst val n).put (some (dst n)) v) (dst i) = tm (putsF a0 dst val n) (dst i) := by
          intro v
          unfold tm Act.put
          simp [Array.getD_eq_getD_getElem?, Array.getElem?_setIfInBounds_ne (hne n i (by omega) (by omega) (Ne.symm e))]
        rw [this]; exact h1
theorem putsF_out {a0 : Act} {dst : Nat → Nat} {val : Nat → Value} : ∀ n j, (∀ i, i < n → dst i ≠ j) → tm (putsF a0 dst val n) j = tm a0 j
  | 0, _, _ => rfl
  | n + 1, j, h => by
    rw [putsF]
    have : tm ((putsF a0 dst val n).put (some (dst n)) (val n)) j = tm (putsF a0 dst val n) j := by
      unfold tm Act.put
      simp [Array.getD_eq_getD_getElem?, Array.getElem?_setIfInBounds_ne (h n (by omega))]
    rw [this]
    exact putsF_out n j (fun i hi => h i (by omega))

theorem rj_puts {a0 a : Act} {N n : Nat} {dst : Nat → Nat} {val : Nat → Value} {l : Array Bool} (h : RJ a0 N n dst val l a) (h0 : a0.tmps.size = N) (hl : ∀ j, j < n → l.getD j false = true) (hne : ∀ i j, i < n → j < n → i ≠ j → dst i ≠ dst j) : a = putsF a0 dst val n :=
  rj_end h hl (putsF_size h0 n) (putsF_defers n) (putsF_in h0 n hne) (putsF_out n)

section
variable {ops : Array Oper} {Q : Exit → Act → World → Prop} {a0 a : Act} {N n i : Nat} {dst : Nat → Nat} {val : Nat → Value} {l : Array Bool} {w w' : World} {WS : Array Bool → World → Prop} {o : Oper}

theorem rg_value (hJ : RJ a0 N n dst val l a) (ho : ops[i]? = some o) (hg : o.guard = none) (hdst : o.dst = some (dst i)) (hi : i < n) (hd : dst i < N) (hne : ∀ j, j < n → j ≠ i → dst j ≠ dst i) (hrun : (execOp a.eval o).run Try.prog w = .ok (.value (val i)) w') (hW : WS (l.setIfInBounds i true) w') :
    wpOp Try.prog ops Q i (fun a' w'' => RJ a0 N n dst val (l.setIfInBounds i true) a' ∧ WS (l.setIfInBounds i true) w'') a w := by
  refine wpOp_value ho hg hrun ?_
  rw [hdst]
  exact ⟨rj_put hJ hi hd hne, hW⟩

theorem rg_skip (hJ : RJ a0 N n dst val l a) (ho : ops[i]? = some o) (hg : o.guard = none) (hdst : o.dst = none) (hi : i < n) (hd : N ≤ dst i) (hrun : (execOp a.eval o).run Try.prog w = .ok .skip w') (hW : WS (l.setIfInBounds i true) w') :
    wpOp Try.prog ops Q i (fun a' w'' => RJ a0 N n dst val (l.setIfInBounds i true) a' ∧ WS (l.setIfInBounds i true) w'') a w :=
  wpOp_skip ho hg hdst hrun ⟨rj_none hJ hi hd, hW⟩
end

/-! ### The region that appends a function to the program's -/
def dR (i : Nat) : Nat := if i < 15 then 79 + i else 1000
def vR (P0 C0 Bd N12 : Nat) (args len : Int) (vl vout v13 : Value) : Nat → Value
  | 0 => .pointer (some ⟨P0, 2, none⟩)
  | 1 => .slice none 0 0
  | 2 => .pointer (some ⟨C0, 1, none⟩)
  | 3 => .int .i64 args
  | 4 => .pointer (some ⟨C0, 2, none⟩)
  | 5 => vl
  | 6 => .int .i64 len
  | 7 => .pointer (some ⟨Bd, 0, none⟩)
  | 8 => .pointer (some ⟨Bd, 0, none⟩)
  | 9 => .pointer (some ⟨Bd, 6, none⟩)
  | 10 => vout
  | 11 => .agg #[.int .i64 args, .int .i64 len, .int .i64 1, vout]
  | 12 => .slice (some ⟨N12, 0, none⟩) 1 1
  | 13 => v13
  | 14 => .pointer (some ⟨P0, 2, none⟩)
  | _ => undef

/-- The worlds on the way. -/
structure WS25 (W W1 w11 w15 : World) (l : Array Bool) (w : World) : Prop where
  st : (l.getD 12 false = false ∧ l.getD 13 false = false ∧ l.getD 15 false = false ∧ w = W) ∨ (l.getD 12 false = true ∧ l.getD 13 false = false ∧ l.getD 15 false = false ∧ w = W1) ∨ (l.getD 13 false = true ∧ l.getD 15 false = false ∧ w = w11) ∨ (l.getD 13 false = true ∧ l.getD 15 false = true ∧ w = w15)
  sz : l.size = 16
  c1 : l.getD 13 false = true → l.getD 1 false = true ∧ l.getD 12 false = true

theorem ws_same {W W1 w11 w15 w : World} {l : Array Bool} {i : Nat} (h : WS25 W W1 w11 w15 l w) (h12 : i ≠ 12) (h13 : i ≠ 13) (h15 : i ≠ 15) : WS25 W W1 w11 w15 (l.setIfInBounds i true) w := by
  have hgs : ∀ j, j ≠ i → (l.setIfInBounds i true).getD j false = l.getD j false := fun j hj => by
    simp [Array.getD_eq_getD_getElem?, Array.getElem?_setIfInBounds_ne (Ne.symm hj)]
  have hup : ∀ j, l.getD j false = true → (l.setIfInBounds i true).getD j false = true := fun j hj => by
    by_cases e : j = i
    · subst e
      have : j < l.size := by
        rcases Nat.lt_or_ge j l.size with h' | h'
        · exact h'
        · simp [Array.getElem?_eq_none h'] at hj
      simp [this]
    · rw [hgs j e]; exact hj
  refine ⟨?_, by simp [h.sz], fun h1 => ?_⟩
  · rw [hgs 12 (Ne.symm h12), hgs 13 (Ne.symm h13), hgs 15 (Ne.symm h15)]; exact h.st
  · rw [hgs 13 (Ne.symm h13)] at h1
    exact ⟨hup _ (h.c1 h1).1, hup _ (h.c1 h1).2⟩

theorem ws_12 {W W1 w11 w15 w : World} {l : Array Bool} (h : WS25 W W1 w11 w15 l w) (hun : l.getD 12 false = false) : w = W ∧ WS25 W W1 w11 w15 (l.setIfInBounds 12 true) W1 := by
  have hgs : ∀ j, (l.setIfInBounds 12 true).getD j false = if j = 12 then true else l.getD j false := fun j => getD_set l 12 j (by rw [h.sz]; decide)
  rcases h.st with ⟨_, h2, h3, e⟩ | ⟨h1, _⟩ | ⟨h1, _⟩ | ⟨h1, _⟩
  · refine ⟨e, Or.inr (Or.inl ⟨by rw [hgs]; rfl, by rw [hgs]; exact h2, by rw [hgs]; exact h3, rfl⟩), by simp [h.sz], fun h4 => ?_⟩
    rw [hgs] at h4
    rw [if_neg (by decide), h2] at h4; cases h4
  · rw [h1] at hun; cases hun
  · rw [(h.c1 h1).2] at hun; cases hun
  · rw [(h.c1 h1).2] at hun; cases hun

theorem ws_13 {W W1 w11 w15 w : World} {l : Array Bool} (h : WS25 W W1 w11 w15 l w) (hun : l.getD 13 false = false) (h12 : l.getD 12 false = true) (h1 : l.getD 1 false = true) : w = W1 ∧ WS25 W W1 w11 w15 (l.setIfInBounds 13 true) w11 := by
  have hgs : ∀ j, (l.setIfInBounds 13 true).getD j false = if j = 13 then true else l.getD j false := fun j => getD_set l 13 j (by rw [h.sz]; decide)
  rcases h.st with ⟨h2, _⟩ | ⟨_, _, h3, e⟩ | ⟨h2, _⟩ | ⟨h2, _⟩
  · rw [h2] at h12; cases h12
  · refine ⟨e, Or.inr (Or.inr (Or.inl ⟨by rw [hgs]; rfl, by rw [hgs]; exact h3, rfl⟩)), by simp [h.sz], fun _ => ⟨by rw [hgs]; exact h1, by rw [hgs]; exact h12⟩⟩
  · rw [h2] at hun; cases hun
  · rw [h2] at hun; cases hun

theorem ws_15 {W W1 w11 w15 w : World} {l : Array Bool} (h : WS25 W W1 w11 w15 l w) (hun : l.getD 15 false = false) (h13 : l.getD 13 false = true) : w = w11 ∧ WS25 W W1 w11 w15 (l.setIfInBounds 15 true) w15 := by
  have hgs : ∀ j, (l.setIfInBounds 15 true).getD j false = if j = 15 then true else l.getD j false := fun j => getD_set l 15 j (by rw [h.sz]; decide)
  have hc := h.c1 h13
  rcases h.st with ⟨_, h2, _⟩ | ⟨_, h2, _⟩ | ⟨_, _, e⟩ | ⟨_, h2, _⟩
  · rw [h2] at h13; cases h13
  · rw [h2] at h13; cases h13
  · exact ⟨e, Or.inr (Or.inr (Or.inr ⟨by rw [hgs]; exact h13, by rw [hgs]; rfl, rfl⟩)), by simp [h.sz], fun _ => ⟨by rw [hgs]; exact hc.1, by rw [hgs]; exact hc.2⟩⟩
  · rw [h2] at hun; cases hun

theorem ws_end {W W1 w11 w15 w : World} {l : Array Bool} (h : WS25 W W1 w11 w15 l w) (h15 : l.getD 15 false = true) : w = w15 := by
  rcases h.st with ⟨_, _, h2, _⟩ | ⟨_, _, h2, _⟩ | ⟨_, h2, _⟩ | ⟨_, _, e⟩
  · rw [h2] at h15; cases h15
  · rw [h2] at h15; cases h15
  · rw [h2] at h15; cases h15
  · exact e

/-- Where op 1 has not come up, nothing is written yet. -/
theorem ws_low {W W1 w11 w15 w : World} {l : Array Bool} (h : WS25 W W1 w11 w15 l w) (hun : l.getD 1 false = false) : w = W ∨ w = W1 := by
  rcases h.st with ⟨_, _, _, e⟩ | ⟨_, _, _, e⟩ | ⟨h2, _⟩ | ⟨h2, _⟩
  · exact Or.inl e
  · exact Or.inr e
  · rw [(h.c1 h2).1] at hun; cases hun
  · rw [(h.c1 h2).1] at hun; cases hun
theorem ws_any {W W1 w11 w15 w : World} {l : Array Bool} (h : WS25 W W1 w11 w15 l w) : w = W ∨ w = W1 ∨ w = w11 ∨ w = w15 := by
  rcases h.st with ⟨_, _, _, e⟩ | ⟨_, _, _, e⟩ | ⟨_, _, e⟩ | ⟨_, _, e⟩
  · exact Or.inl e
  · exact Or.inr (Or.inl e)
  · exact Or.inr (Or.inr (Or.inl e))
  · exact Or.inr (Or.inr (Or.inr e))
theorem ws_start (W W1 w11 w15 : World) : WS25 W W1 w11 w15 (Array.replicate 16 false) W :=
  ⟨Or.inl ⟨getD_replicate_false _ _, getD_replicate_false _ _, getD_replicate_false _ _, rfl⟩, by simp, fun h => by rw [getD_replicate_false] at h; cases h⟩

theorem dR_ge (i : Nat) : 79 ≤ dR i := by unfold dR; split <;> omega
theorem dR_ne : ∀ i, i < 16 → ∀ j, j < 16 → j ≠ i → dR j ≠ dR i := by decide

theorem region_rj {id : Nat} {ops : Array Oper} {Q : Exit → Act → World → Prop} {a0 : Act} {w : World} {N n : Nat} {dst : Nat → Nat} {val : Nat → Value} {WS : Array Bool → World → Prop}
    (hm : Try.prog.follows .mixedOrders = true) (h0 : a0.tmps.size = N) (hn : ops.size = n) (hdag : ∀ (j : Nat) (o : Oper), ops[j]? = some o → ∀ e ∈ o.after, e.on < j) (hW : WS (Array.replicate n false) w.drew)
    (step : ∀ l a w i, RJ a0 N n dst val l a → WS l w → i ∈ Region.ready .any ops l → wpOp Try.prog ops Q i (fun a' w' => RJ a0 N n dst val (l.setIfInBounds i true) a' ∧ WS (l.setIfInBounds i true) w') a w)
    (fin : ∀ l a w, RJ a0 N n dst val l a → WS l w → (∀ j, j < n → l.getD j false = true) → Q .normal a w) : (Code.region id ops true).wp Try.prog Q a0 w := by
  subst hn
  refine wp_region_any hm ?_
  refine wpAny_inv (fun l a w => RJ a0 N ops.size dst val l a ∧ WS l w) (fun l a w i hJ hi => step l a w i hJ.1 hJ.2 hi) (fun l a w hJ hr => fin l a w hJ.1 hJ.2 (all_listed hdag hr hJ.1.sz)) _ _ _ _ ⟨rj_start h0, hW⟩ (by simp)

theorem un_lt16 (i : Nat) (h : i < 16) : i = 0 ∨ i = 1 ∨ i = 2 ∨ i = 3 ∨ i = 4 ∨ i = 5 ∨ i = 6 ∨ i = 7 ∨ i = 8 ∨ i = 9 ∨ i = 10 ∨ i = 11 ∨ i = 12 ∨ i = 13 ∨ i = 14 ∨ i = 15 := by omega

end Go.Proofs.Ytecaolkbllbokaa.TG
