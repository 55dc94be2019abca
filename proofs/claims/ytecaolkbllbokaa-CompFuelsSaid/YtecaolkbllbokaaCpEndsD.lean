/-
  The compiler's ends: the map of what stands behind the kids' code. Conditions: as each theorem states.
-/
import Derived.Test.YtecaolkbllbokaaCpEndsC
import Derived.Laws.EntriesVeiled
namespace Go.Proofs.Ytecaolkbllbokaa.TG
open Go.RowKit Go.Great
set_option linter.unusedSimpArgs false
set_option linter.unusedVariables false

/-- The map of ends, in block M. -/
def EndMap (w : World) (lo bc b6 M : Nat) : Prop := ∃ es ck, w.heap[M]? = some (.map es ck) ∧ (∀ x ∈ es.toList, ∃ k, x.key = .int .i64 k ∧ k ∈ keysE ∧ SlK lo bc w x.val x.val (endK bc b6 k)) ∧ (∀ k ∈ keysE, ∃ x ∈ es.toList, x.key = .int .i64 k)

theorem lt62 (j : Nat) (h : j < 62) : j = 0 ∨ j = 1 ∨ j = 2 ∨ j = 3 ∨ j = 4 ∨ j = 5 ∨ j = 6 ∨ j = 7 ∨ j = 8 ∨ j = 9 ∨ j = 10 ∨ j = 11 ∨ j = 12 ∨ j = 13 ∨ j = 14 ∨ j = 15 ∨ j = 16 ∨ j = 17 ∨ j = 18 ∨ j = 19 ∨ j = 20 ∨ j = 21 ∨ j = 22 ∨ j = 23 ∨ j = 24 ∨ j = 25 ∨ j = 26 ∨ j = 27 ∨ j = 28 ∨ j = 29 ∨ j = 30 ∨ j = 31 ∨ j = 32 ∨ j = 33 ∨ j = 34 ∨ j = 35 ∨ j = 36 ∨ j = 37 ∨ j = 38 ∨ j = 39 ∨ j = 40 ∨ j = 41 ∨ j = 42 ∨ j = 43 ∨ j = 44 ∨ j = 45 ∨ j = 46 ∨ j = 47 ∨ j = 48 ∨ j = 49 ∨ j = 50 ∨ j = 51 ∨ j = 52 ∨ j = 53 ∨ j = 54 ∨ j = 55 ∨ j = 56 ∨ j = 57 ∨ j = 58 ∨ j = 59 ∨ j = 60 ∨ j = 61 := by omega

theorem kE_keys (bc b6 : Nat) : ∀ j, j < 62 → ∀ k s, kE bc b6 j = .ins k s → k ∈ keysE := by
  intro j hj k s h
  rcases lt62 j hj with rfl | rfl | rfl | rfl | rfl | rfl | rfl | rfl | rfl | rfl | rfl | rfl | rfl | rfl | rfl | rfl | rfl | rfl | rfl | rfl | rfl | rfl | rfl | rfl | rfl | rfl | rfl | rfl | rfl | rfl | rfl | rfl | rfl | rfl | rfl | rfl | rfl | rfl | rfl | rfl | rfl | rfl | rfl | rfl | rfl | rfl | rfl | rfl | rfl | rfl | rfl | rfl | rfl | rfl | rfl | rfl | rfl | rfl | rfl | rfl | rfl | rfl
  all_goals first | (cases h; done) | (injection h with h1 h2; subst h1; decide)

theorem keys_kE (bc b6 : Nat) : ∀ k ∈ keysE, ∃ j s, j < 62 ∧ kE bc b6 j = .ins k s := by
  intro k hk
  simp only [keysE, List.mem_cons, List.not_mem_nil, or_false] at hk
  rcases hk with rfl | rfl | rfl | rfl | rfl | rfl | rfl | rfl | rfl | rfl | rfl | rfl | rfl | rfl | rfl | rfl | rfl | rfl | rfl
  · exact ⟨4, 12, by decide, rfl⟩
  · exact ⟨7, 14, by decide, rfl⟩
  · exact ⟨10, 16, by decide, rfl⟩
  · exact ⟨13, 18, by decide, rfl⟩
  · exact ⟨16, 20, by decide, rfl⟩
  · exact ⟨19, 22, by decide, rfl⟩
  · exact ⟨23, 25, by decide, rfl⟩
  · exact ⟨27, 28, by decide, rfl⟩
  · exact ⟨30, 30, by decide, rfl⟩
  · exact ⟨34, 33, by decide, rfl⟩
  · exact ⟨38, 36, by decide, rfl⟩
  · exact ⟨41, 38, by decide, rfl⟩
  · exact ⟨44, 40, by decide, rfl⟩
  · exact ⟨46, 41, by decide, rfl⟩
  · exact ⟨48, 42, by decide, rfl⟩
  · exact ⟨50, 43, by decide, rfl⟩
  · exact ⟨51, 1000, by decide, rfl⟩
  · exact ⟨55, 46, by decide, rfl⟩
  · exact ⟨59, 49, by decide, rfl⟩

theorem listed_of {ops : Array Oper} {l : Array Bool} {i : Nat} (hi : i ∈ Region.ready .any ops l) (n : Nat) (h : ((ops[i]?).any fun o => o.after.any fun e => e.on == n && Region.binds .any e) = true) : l.getD n false = true := by
  obtain ⟨_, o, ho, haf⟩ := mem_ready.1 hi
  rw [ho] at h
  obtain ⟨e, he, hb⟩ := Array.any_eq_true'.1 (show o.after.any (fun e => e.on == n && Region.binds .any e) = true from h)
  simp only [Bool.and_eq_true, beq_iff_eq] at hb
  rw [← hb.1]
  exact haf e he hb.2

theorem dag_of {ops : Array Oper} (h : ((List.range ops.size).all fun j => (ops[j]?).all fun o => o.after.all fun e => decide (e.on < j)) = true) : ∀ (j : Nat) (o : Oper), ops[j]? = some o → ∀ e ∈ o.after, e.on < j := by
  intro j o ho e he
  have hj : j < ops.size := (Array.getElem?_eq_some_iff.1 ho).1
  have h1 := List.all_eq_true.1 h j (List.mem_range.2 hj)
  rw [ho] at h1
  have h2 := Array.all_eq_true'.1 (show o.after.all (fun e => decide (e.on < j)) = true from h1) e he
  exact of_decide_eq_true h2

/-- What a call of ends leaves. -/
def EndsPost (w : World) (Bd : Nat) (e : Ending) (w' : World) : Prop := ∃ lo bc b6 M, e = .returned (.map (some M)) ∧ w.grownBy w' none ∧ w.heap.size ≤ lo ∧ w.heap.size ≤ bc ∧ w.heap.size ≤ b6 ∧ w.heap.size ≤ M ∧
  w'.cell? ⟨bc, 0, none⟩ = some (ptrV Bd) ∧ w'.cell? ⟨b6, 0, none⟩ = some (vnE bc) ∧ EndMap w' lo bc b6 M

theorem ej_end {w1 : World} {bc b6 lo : Nat} {l : Array Bool} {a : Act} {w : World} (h : EJ w1 bc b6 lo l a w) (hl : ∀ j, j < 62 → l.getD j false = true) : ∃ M, tm a 2 = .map (some M) ∧ lo ≤ M ∧ EndMap w lo bc b6 M := by
  obtain ⟨M, es, ck, hM, hlo, hh, h1, h2⟩ := h.mp (hl 0 (by decide))
  refine ⟨M, ?_, hlo, es, ck, hh, fun x hx => ?_, fun k hk => ?_⟩
  · have e : tm a 2 = tm a 9 := h.sl 61 (by decide) (hl 61 (by decide))
    rw [e]; exact hM
  · obtain ⟨j, k, s, hj, hkj, _, hkey, hsl⟩ := h1 x hx
    exact ⟨k, hkey, kE_keys bc b6 j hj k s hkj, hsl⟩
  · obtain ⟨j, s, hj, hkj⟩ := keys_kE bc b6 k hk
    exact h2 j k s hj hkj (hl j hj)

set_option maxRecDepth 100000 in
set_option maxHeartbeats 4000000 in
theorem ends_any (Bd : Nat) (w : World) : Calls Try.prog 42 #[.pointer (some ⟨Bd, 0, none⟩)] w (EndsPost w Bd) := by
  go_enter Try.func42, Try.ntmps42
  go_wp2
  rename_i K hK
  have hsz1 : w.heap.size < (w.alloc (.cells #[.pointer (some ⟨Bd, 0, none⟩)] 110)).heap.size := by simp
  have g1 : w.grownBy ((w.alloc (.cells #[.pointer (some ⟨Bd, 0, none⟩)] 110)).alloc (.cells #[vnE w.heap.size] 145)) none := grownBy_trans (World.grownBy_alloc _ _ _) (World.grownBy_alloc _ _ _)
  have cb : ((w.alloc (.cells #[.pointer (some ⟨Bd, 0, none⟩)] 110)).alloc (.cells #[vnE w.heap.size] 145)).cell? ⟨w.heap.size, 0, none⟩ = some (ptrV Bd) := by simp [ptrV]
  have c6 : ((w.alloc (.cells #[.pointer (some ⟨Bd, 0, none⟩)] 110)).alloc (.cells #[vnE w.heap.size] 145)).cell? ⟨w.heap.size + 1, 0, none⟩ = some (vnE w.heap.size) := by simp
  have hs1 : ((w.alloc (.cells #[.pointer (some ⟨Bd, 0, none⟩)] 110)).alloc (.cells #[vnE w.heap.size] 145)).heap.size = w.heap.size + 2 := by simp
  unfold vnE fnV ptrV at g1 cb c6 hs1
  generalize (w.alloc (.cells #[.pointer (some ⟨Bd, 0, none⟩)] 110)).alloc (.cells #[.func (.func 70) #[] #[.pointer (some ⟨w.heap.size, 0, none⟩)]] 145) = w1 at *
  refine wp_region_any (by kernel_rfl) ?_
  refine wpAny_inv (EJ w1 w.heap.size (w.heap.size + 1) w1.heap.size) ?step ?fin _ _ _ _ ?start (by simp)
  case start => 
    refine ⟨by simp, by simp, rfl, ⟨rfl, rfl, rfl, Nat.le_refl _, fun _ _ _ => rfl⟩, rfl, rfl, rfl, rfl, rfl, rfl, c6, ?_, ?_, ?_⟩
    · intro j hj h; exfalso; revert h; simp only [List.size_toArray]; rw [getD_replicate_false]; simp
    · intro j hj _ h; exfalso; revert h; simp only [List.size_toArray]; rw [getD_replicate_false]; simp
    · intro h; exfalso; revert h; simp only [List.size_toArray]; rw [getD_replicate_false]; simp
  case fin =>
    intro l a w' hJ hr
    obtain ⟨M, hM, hlo, hmap⟩ := ej_end hJ (all_listed (dag_of (by kernel_rfl)) hr hJ.sz)
    refine hK _ _ ?_
    go_wp2
    refine bodyPost_ret (v := .map (some M)) ?_ hJ.df ⟨w1.heap.size, w.heap.size, w.heap.size + 1, M, rfl, grownBy_trans g1 hJ.g, by omega, Nat.le_refl _, by omega, by omega, hJ.g.cell cb (by simp), hJ.g.cell c6 (by simp), hmap⟩
    rw [results_tmp rfl]
    unfold tm at hM
    rw [hM]
  case step =>
    intro l a w' i hJ hi
    have hi62 : i < 62 := by
      obtain ⟨_, o, ho, _⟩ := mem_ready.1 hi
      exact (Array.getElem?_eq_some_iff.1 ho).1
    rcases lt62 i hi62 with rfl | rfl | rfl | rfl | rfl | rfl | rfl | rfl | rfl | rfl | rfl | rfl | rfl | rfl | rfl | rfl | rfl | rfl | rfl | rfl | rfl | rfl | rfl | rfl | rfl | rfl | rfl | rfl | rfl | rfl | rfl | rfl | rfl | rfl | rfl | rfl | rfl | rfl | rfl | rfl | rfl | rfl | rfl | rfl | rfl | rfl | rfl | rfl | rfl | rfl | rfl | rfl | rfl | rfl | rfl | rfl | rfl | rfl | rfl | rfl | rfl | rfl
    · exact st_mk hJ rfl rfl rfl rfl (getD_both (mem_ready.1 hi).1)
    · exact st_move hJ rfl rfl rfl rfl (by decide) (by decide) (by decide) (by simp [kE]) (by simp [kE]) hJ.t4
    · exact st_move hJ rfl rfl rfl rfl (by decide) (by decide) (by decide) (by simp [kE]) (by simp [kE]) hJ.t5
    · exact st_with hJ rfl rfl rfl rfl (by decide) (by decide) (by decide) rfl (hJ.sl 1 (by decide) (listed_of hi 1 (by kernel_rfl))) (hJ.sl 2 (by decide) (listed_of hi 2 (by kernel_rfl))) rfl
    · exact st_ins hJ rfl rfl rfl rfl (by decide) rfl (listed_of hi 0 (by kernel_rfl)) (hJ.sl 3 (by decide) (listed_of hi 3 (by kernel_rfl)))
    · exact st_move hJ rfl rfl rfl rfl (by decide) (by decide) (by decide) (by simp [kE]) (by simp [kE]) hJ.t3
    · exact st_plain hJ rfl rfl rfl rfl (by decide) (by decide) (by decide) rfl (hJ.sl 5 (by decide) (listed_of hi 5 (by kernel_rfl)))
    · exact st_ins hJ rfl rfl rfl rfl (by decide) rfl (listed_of hi 0 (by kernel_rfl)) (hJ.sl 6 (by decide) (listed_of hi 6 (by kernel_rfl)))
    · exact st_move hJ rfl rfl rfl rfl (by decide) (by decide) (by decide) (by simp [kE]) (by simp [kE]) hJ.t3
    · exact st_plain hJ rfl rfl rfl rfl (by decide) (by decide) (by decide) rfl (hJ.sl 8 (by decide) (listed_of hi 8 (by kernel_rfl)))
    · exact st_ins hJ rfl rfl rfl rfl (by decide) rfl (listed_of hi 0 (by kernel_rfl)) (hJ.sl 9 (by decide) (listed_of hi 9 (by kernel_rfl)))
    · exact st_move hJ rfl rfl rfl rfl (by decide) (by decide) (by decide) (by simp [kE]) (by simp [kE]) hJ.t3
    · exact st_plain hJ rfl rfl rfl rfl (by decide) (by decide) (by decide) rfl (hJ.sl 11 (by decide) (listed_of hi 11 (by kernel_rfl)))
    · exact st_ins hJ rfl rfl rfl rfl (by decide) rfl (listed_of hi 0 (by kernel_rfl)) (hJ.sl 12 (by decide) (listed_of hi 12 (by kernel_rfl)))
    · exact st_move hJ rfl rfl rfl rfl (by decide) (by decide) (by decide) (by simp [kE]) (by simp [kE]) hJ.t3
    · exact st_plain hJ rfl rfl rfl rfl (by decide) (by decide) (by decide) rfl (hJ.sl 14 (by decide) (listed_of hi 14 (by kernel_rfl)))
    · exact st_ins hJ rfl rfl rfl rfl (by decide) rfl (listed_of hi 0 (by kernel_rfl)) (hJ.sl 15 (by decide) (listed_of hi 15 (by kernel_rfl)))
    · exact st_move hJ rfl rfl rfl rfl (by decide) (by decide) (by decide) (by simp [kE]) (by simp [kE]) hJ.t3
    · exact st_plain hJ rfl rfl rfl rfl (by decide) (by decide) (by decide) rfl (hJ.sl 17 (by decide) (listed_of hi 17 (by kernel_rfl)))
    · exact st_ins hJ rfl rfl rfl rfl (by decide) rfl (listed_of hi 0 (by kernel_rfl)) (hJ.sl 18 (by decide) (listed_of hi 18 (by kernel_rfl)))
    · exact st_move hJ rfl rfl rfl rfl (by decide) (by decide) (by decide) (by simp [kE]) (by simp [kE]) hJ.t4
    · exact st_move hJ rfl rfl rfl rfl (by decide) (by decide) (by decide) (by simp [kE]) (by simp [kE]) hJ.t5
    · exact st_with hJ rfl rfl rfl rfl (by decide) (by decide) (by decide) rfl (hJ.sl 20 (by decide) (listed_of hi 20 (by kernel_rfl))) (hJ.sl 21 (by decide) (listed_of hi 21 (by kernel_rfl))) rfl
    · exact st_ins hJ rfl rfl rfl rfl (by decide) rfl (listed_of hi 0 (by kernel_rfl)) (hJ.sl 22 (by decide) (listed_of hi 22 (by kernel_rfl)))
    · exact st_move hJ rfl rfl rfl rfl (by decide) (by decide) (by decide) (by simp [kE]) (by simp [kE]) hJ.t4
    · exact st_move hJ rfl rfl rfl rfl (by decide) (by decide) (by decide) (by simp [kE]) (by simp [kE]) hJ.t5
    · exact st_with hJ rfl rfl rfl rfl (by decide) (by decide) (by decide) rfl (hJ.sl 24 (by decide) (listed_of hi 24 (by kernel_rfl))) (hJ.sl 25 (by decide) (listed_of hi 25 (by kernel_rfl))) rfl
    · exact st_ins hJ rfl rfl rfl rfl (by decide) rfl (listed_of hi 0 (by kernel_rfl)) (hJ.sl 26 (by decide) (listed_of hi 26 (by kernel_rfl)))
    · exact st_move hJ rfl rfl rfl rfl (by decide) (by decide) (by decide) (by simp [kE]) (by simp [kE]) hJ.t3
    · exact st_plain hJ rfl rfl rfl rfl (by decide) (by decide) (by decide) rfl (hJ.sl 28 (by decide) (listed_of hi 28 (by kernel_rfl)))
    · exact st_ins hJ rfl rfl rfl rfl (by decide) rfl (listed_of hi 0 (by kernel_rfl)) (hJ.sl 29 (by decide) (listed_of hi 29 (by kernel_rfl)))
    · exact st_move hJ rfl rfl rfl rfl (by decide) (by decide) (by decide) (by simp [kE]) (by simp [kE]) hJ.t4
    · exact st_fn hJ rfl rfl rfl rfl (by decide) (by decide) (by decide) (by rw [hJ.t1]; rfl)
    · exact st_with hJ rfl rfl rfl rfl (by decide) (by decide) (by decide) rfl (hJ.sl 31 (by decide) (listed_of hi 31 (by kernel_rfl))) (hJ.sl 32 (by decide) (listed_of hi 32 (by kernel_rfl))) rfl
    · exact st_ins hJ rfl rfl rfl rfl (by decide) rfl (listed_of hi 0 (by kernel_rfl)) (hJ.sl 33 (by decide) (listed_of hi 33 (by kernel_rfl)))
    · exact st_move hJ rfl rfl rfl rfl (by decide) (by decide) (by decide) (by simp [kE]) (by simp [kE]) hJ.t4
    · exact st_fn hJ rfl rfl rfl rfl (by decide) (by decide) (by decide) (by rw [hJ.t1]; rfl)
    · exact st_with hJ rfl rfl rfl rfl (by decide) (by decide) (by decide) rfl (hJ.sl 35 (by decide) (listed_of hi 35 (by kernel_rfl))) (hJ.sl 36 (by decide) (listed_of hi 36 (by kernel_rfl))) rfl
    · exact st_ins hJ rfl rfl rfl rfl (by decide) rfl (listed_of hi 0 (by kernel_rfl)) (hJ.sl 37 (by decide) (listed_of hi 37 (by kernel_rfl)))
    · exact st_move hJ rfl rfl rfl rfl (by decide) (by decide) (by decide) (by simp [kE]) (by simp [kE]) hJ.t3
    · exact st_plain hJ rfl rfl rfl rfl (by decide) (by decide) (by decide) rfl (hJ.sl 39 (by decide) (listed_of hi 39 (by kernel_rfl)))
    · exact st_ins hJ rfl rfl rfl rfl (by decide) rfl (listed_of hi 0 (by kernel_rfl)) (hJ.sl 40 (by decide) (listed_of hi 40 (by kernel_rfl)))
    · exact st_move hJ rfl rfl rfl rfl (by decide) (by decide) (by decide) (by simp [kE]) (by simp [kE]) hJ.t3
    · exact st_plain hJ rfl rfl rfl rfl (by decide) (by decide) (by decide) rfl (hJ.sl 42 (by decide) (listed_of hi 42 (by kernel_rfl)))
    · exact st_ins hJ rfl rfl rfl rfl (by decide) rfl (listed_of hi 0 (by kernel_rfl)) (hJ.sl 43 (by decide) (listed_of hi 43 (by kernel_rfl)))
    · exact st_load (t := 0) hJ rfl rfl rfl rfl (by decide) (by decide) (by decide) rfl hJ.t6
    · exact st_ins hJ rfl rfl rfl rfl (by decide) rfl (listed_of hi 0 (by kernel_rfl)) (hJ.sl 45 (by decide) (listed_of hi 45 (by kernel_rfl)))
    · exact st_load (t := 0) hJ rfl rfl rfl rfl (by decide) (by decide) (by decide) rfl hJ.t6
    · exact st_ins hJ rfl rfl rfl rfl (by decide) rfl (listed_of hi 0 (by kernel_rfl)) (hJ.sl 47 (by decide) (listed_of hi 47 (by kernel_rfl)))
    · exact st_fn hJ rfl rfl rfl rfl (by decide) (by decide) (by decide) (by rw [hJ.t6]; rfl)
    · exact st_ins hJ rfl rfl rfl rfl (by decide) rfl (listed_of hi 0 (by kernel_rfl)) (hJ.sl 49 (by decide) (listed_of hi 49 (by kernel_rfl)))
    · exact st_ins hJ rfl rfl rfl rfl (by decide) rfl (listed_of hi 0 (by kernel_rfl)) rfl
    · exact st_move hJ rfl rfl rfl rfl (by decide) (by decide) (by decide) (by simp [kE]) (by simp [kE]) hJ.t4
    · exact st_move hJ rfl rfl rfl rfl (by decide) (by decide) (by decide) (by simp [kE]) (by simp [kE]) hJ.t5
    · exact st_with hJ rfl rfl rfl rfl (by decide) (by decide) (by decide) rfl (hJ.sl 52 (by decide) (listed_of hi 52 (by kernel_rfl))) (hJ.sl 53 (by decide) (listed_of hi 53 (by kernel_rfl))) rfl
    · exact st_ins hJ rfl rfl rfl rfl (by decide) rfl (listed_of hi 0 (by kernel_rfl)) (hJ.sl 54 (by decide) (listed_of hi 54 (by kernel_rfl)))
    · exact st_move hJ rfl rfl rfl rfl (by decide) (by decide) (by decide) (by simp [kE]) (by simp [kE]) hJ.t4
    · exact st_move hJ rfl rfl rfl rfl (by decide) (by decide) (by decide) (by simp [kE]) (by simp [kE]) hJ.t5
    · exact st_with hJ rfl rfl rfl rfl (by decide) (by decide) (by decide) rfl (hJ.sl 56 (by decide) (listed_of hi 56 (by kernel_rfl))) (hJ.sl 57 (by decide) (listed_of hi 57 (by kernel_rfl))) rfl
    · exact st_ins hJ rfl rfl rfl rfl (by decide) rfl (listed_of hi 0 (by kernel_rfl)) (hJ.sl 58 (by decide) (listed_of hi 58 (by kernel_rfl)))
    · exact st_move hJ rfl rfl rfl rfl (by decide) (by decide) (by decide) (by simp [kE]) (fun _ => (listed_of hi 0 (by kernel_rfl))) rfl
    · exact st_assign hJ rfl rfl rfl rfl (by decide) (by decide) (by decide) (by simp [kE]) (fun _ => hJ.cl 60 (by decide) trivial (listed_of hi 60 (by kernel_rfl))) (hJ.sl 60 (by decide) (listed_of hi 60 (by kernel_rfl)))

end Go.Proofs.Ytecaolkbllbokaa.TG
