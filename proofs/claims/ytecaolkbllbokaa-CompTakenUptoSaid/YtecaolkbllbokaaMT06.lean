import Derived.Test.YtecaolkbllbokaaMT05
import Derived.Laws.EntriesVeiled
import Derived.Deep.QuietTactic
import Derived.BigQuiet
set_option linter.unusedSimpArgs false
set_option linter.unusedVariables false
set_option maxRecDepth 100000
set_option maxHeartbeats 16000000
namespace Go.Proofs.Ytecaolkbllbokaa.TG
open Go.RowKit Go.Great
def Yrf (w : World) (lo bc b6 M : Nat) : Prop := ∃ es ck, w.heap[M]? = some (.map es ck) /\ (∀ x ∈ es.toList, ∃ k, x.key = .int .i64 k /\ k ∈ Znp /\ SlK lo bc w x.val x.val (Yel bc b6 k)) /\ (∀ k ∈ Znp, ∃ x ∈ es.toList, x.key = .int .i64 k)
theorem Xcl (j : Nat) (h : j < 62) : j = 0 \/ j = 1 \/ j = 2 \/ j = 3 \/ j = 4 \/ j = 5 \/ j = 6 \/ j = 7 \/ j = 8 \/ j = 9 \/ j = 10 \/ j = 11 \/ j = 12 \/ j = 13 \/ j = 14 \/ j = 15 \/ j = 16 \/ j = 17 \/ j = 18 \/ j = 19 \/ j = 20 \/ j = 21 \/ j = 22 \/ j = 23 \/ j = 24 \/ j = 25 \/ j = 26 \/ j = 27 \/ j = 28 \/ j = 29 \/ j = 30 \/ j = 31 \/ j = 32 \/ j = 33 \/ j = 34 \/ j = 35 \/ j = 36 \/ j = 37 \/ j = 38 \/ j = 39 \/ j = 40 \/ j = 41 \/ j = 42 \/ j = 43 \/ j = 44 \/ j = 45 \/ j = 46 \/ j = 47 \/ j = 48 \/ j = 49 \/ j = 50 \/ j = 51 \/ j = 52 \/ j = 53 \/ j = 54 \/ j = 55 \/ j = 56 \/ j = 57 \/ j = 58 \/ j = 59 \/ j = 60 \/ j = 61 := by omega
theorem Yui (bc b6 : Nat) : ∀ j, j < 62 -> ∀ k s, kE bc b6 j = .ins k s -> k ∈ Znp := by
 intro j hj k s h
 rcases Xcl j hj with rfl | rfl | rfl | rfl | rfl | rfl | rfl | rfl | rfl | rfl | rfl | rfl | rfl | rfl | rfl | rfl | rfl | rfl | rfl | rfl | rfl | rfl | rfl | rfl | rfl | rfl | rfl | rfl | rfl | rfl | rfl | rfl | rfl | rfl | rfl | rfl | rfl | rfl | rfl | rfl | rfl | rfl | rfl | rfl | rfl | rfl | rfl | rfl | rfl | rfl | rfl | rfl | rfl | rfl | rfl | rfl | rfl | rfl | rfl | rfl | rfl | rfl
 all_goals first | (cases h; done) | (injection h with h1 h2; subst h1; decide)
theorem Yuh (bc b6 : Nat) : ∀ k ∈ Znp, ∃ j s, j < 62 /\ kE bc b6 j = .ins k s := by
 intro k hk
 simp only [Znp, List.mem_cons, List.not_mem_nil, or_false] at hk
 rcases hk with rfl | rfl | rfl | rfl | rfl | rfl | rfl | rfl | rfl | rfl | rfl | rfl | rfl | rfl | rfl | rfl | rfl | rfl | rfl
 · exact ⟨4, 12, by decide, rfl⟩
 · exact ⟨7, 14, by decide, rfl⟩
 · exact ⟨10, 16, by decide, rfl⟩
 · exact ⟨13, 18, by decide, rfl⟩
 · exact ⟨16, 20, by decide, rfl⟩
 · exact ⟨19, 22, by decide, rfl⟩
 · exact ⟨23, 25, by decide, rfl⟩
 · exact ⟨27, 28, by decide, rfl⟩
 · exact ⟨30, 30, by decide, rfl⟩
 · exact ⟨34, 33, by decide, rfl⟩
 · exact ⟨38, 36, by decide, rfl⟩
 · exact ⟨41, 38, by decide, rfl⟩
 · exact ⟨44, 40, by decide, rfl⟩
 · exact ⟨46, 41, by decide, rfl⟩
 · exact ⟨48, 42, by decide, rfl⟩
 · exact ⟨50, 43, by decide, rfl⟩
 · exact ⟨51, 1000, by decide, rfl⟩
 · exact ⟨55, 46, by decide, rfl⟩
 · exact ⟨59, 49, by decide, rfl⟩
theorem Zb {ops : Array Oper} {l : Array Bool} {i : Nat} (hi : i ∈ Region.ready .any ops l) (n : Nat) (h : ((ops[i]?).any fun o => o.after.any fun e => e.on == n && Region.binds .any e) = true) : l.getD n false = true := by
 obtain ⟨_, o, ho, haf⟩ := mem_ready.1 hi
 rw [ho] at h
 obtain ⟨e, he, hb⟩ := Array.any_eq_true'.1 (show o.after.any (fun e => e.on == n && Region.binds .any e) = true from h)
 simp only [Bool.and_eq_true, beq_iff_eq] at hb
 rw [<- hb.1]
 exact haf e he hb.2
theorem Zvk {ops : Array Oper} (h : ((List.range ops.size).all fun j => (ops[j]?).all fun o => o.after.all fun e => decide (e.on < j)) = true) : ∀ (j : Nat) (o : Oper), ops[j]? = some o -> ∀ e ∈ o.after, e.on < j := by
 intro j o ho e he
 have hj : j < ops.size := (Gs ho)
 have h1 := List.all_eq_true.1 h j (List.mem_range.2 hj)
 rw [ho] at h1
 have h2 := Array.all_eq_true'.1 (show o.after.all (fun e => decide (e.on < j)) = true from h1) e he
 exact of_decide_eq_true h2
def Zsx (w : World) (Bd : Nat) (e : Ending) (w' : World) : Prop := ∃ lo bc b6 M, e = .returned (.map (some M)) /\ w.grownBy w' none /\ w.heap.size <= lo /\ w.heap.size <= bc /\ w.heap.size <= b6 /\ w.heap.size <= M /\
 w'.cell? ⟨bc, 0, none⟩ = some (Zdo Bd) /\ w'.cell? ⟨b6, 0, none⟩ = some (vnE bc) /\ Yrf w' lo bc b6 M
theorem Yyz {w1 : World} {bc b6 lo : Nat} {l : Array Bool} {a : Act} {w : World} (h : EJ w1 bc b6 lo l a w) (hl : ∀ j, j < 62 -> l.getD j false = true) : ∃ M, tm a 2 = .map (some M) /\ lo <= M /\ Yrf w lo bc b6 M := by
 obtain ⟨M, es, ck, hM, hlo, hh, h1, h2⟩ := h.mp (hl 0 (by decide))
 refine ⟨M, ?_, hlo, es, ck, hh, fun x hx => ?_, fun k hk => ?_⟩
 · have e : tm a 2 = tm a 9 := h.sl 61 (by decide) (hl 61 (by decide))
   rw [e]; exact hM
 · obtain ⟨j, k, s, hj, hkj, _, hkey, hsl⟩ := h1 x hx
   exact ⟨k, hkey, Yui bc b6 j hj k s hkj, hsl⟩
 · obtain ⟨j, s, hj, hkj⟩ := Yuh bc b6 k hk
   exact h2 j k s hj hkj (hl j hj)
theorem Ybc (Bd : Nat) (w : World) : Calls Try.prog 42 #[.pointer (some ⟨Bd, 0, none⟩)] w (Zsx w Bd) := by
 go_enter Try.func42, Try.ntmps42
 go_wp2
 rename_i K hK
 have hsz1 : w.heap.size < (w.alloc (.cells #[.pointer (some ⟨Bd, 0, none⟩)] 110)).heap.size := by simp
 have g1 : w.grownBy ((w.alloc (.cells #[.pointer (some ⟨Bd, 0, none⟩)] 110)).alloc (.cells #[vnE w.heap.size] 145)) none := Za (Ga _ _ _) (Ga _ _ _)
 have cb : ((w.alloc (.cells #[.pointer (some ⟨Bd, 0, none⟩)] 110)).alloc (.cells #[vnE w.heap.size] 145)).cell? ⟨w.heap.size, 0, none⟩ = some (Zdo Bd) := by simp [Zdo]
 have c6 : ((w.alloc (.cells #[.pointer (some ⟨Bd, 0, none⟩)] 110)).alloc (.cells #[vnE w.heap.size] 145)).cell? ⟨w.heap.size + 1, 0, none⟩ = some (vnE w.heap.size) := by simp
 have hs1 : ((w.alloc (.cells #[.pointer (some ⟨Bd, 0, none⟩)] 110)).alloc (.cells #[vnE w.heap.size] 145)).heap.size = w.heap.size + 2 := by simp
 unfold vnE fnV Zdo at g1 cb c6 hs1
 generalize (w.alloc (.cells #[.pointer (some ⟨Bd, 0, none⟩)] 110)).alloc (.cells #[.func (.func 70) #[] #[.pointer (some ⟨w.heap.size, 0, none⟩)]] 145) = w1 at *
 refine wp_region_any (by kernel_rfl) ?_
 refine Zdj (EJ w1 w.heap.size (w.heap.size + 1) w1.heap.size) ?step ?fin _ _ _ _ ?start (by simp)
 case start =>
  refine ⟨by simp, by simp, rfl, ⟨rfl, rfl, rfl, Nat.le_refl _, fun _ _ _ => rfl⟩, rfl, rfl, rfl, rfl, rfl, rfl, c6, ?_, ?_, ?_⟩
  · intro j hj h; exfalso; revert h; simp only [List.size_toArray]; rw [getD_replicate_false]; simp
  · intro j hj _ h; exfalso; revert h; simp only [List.size_toArray]; rw [getD_replicate_false]; simp
  · intro h; exfalso; revert h; simp only [List.size_toArray]; rw [getD_replicate_false]; simp
 case fin =>
  intro l a w' hJ hr
  obtain ⟨M, hM, hlo, hmap⟩ := Yyz hJ (Zhz (Zvk (by kernel_rfl)) hr hJ.sz)
  refine hK _ _ ?_
  go_wp2
  refine bodyPost_ret (v := .map (some M)) ?_ hJ.df ⟨w1.heap.size, w.heap.size, w.heap.size + 1, M, rfl, Za g1 hJ.g, by omega, Nat.le_refl _, by omega, by omega, hJ.g.cell cb (by simp), hJ.g.cell c6 (by simp), hmap⟩
  rw [results_tmp rfl]
  unfold tm at hM
  rw [hM]
 case step =>
  intro l a w' i hJ hi
  have hi62 : i < 62 := by
   obtain ⟨_, o, ho, _⟩ := mem_ready.1 hi
   exact (Gs ho)
  rcases Xcl i hi62 with rfl | rfl | rfl | rfl | rfl | rfl | rfl | rfl | rfl | rfl | rfl | rfl | rfl | rfl | rfl | rfl | rfl | rfl | rfl | rfl | rfl | rfl | rfl | rfl | rfl | rfl | rfl | rfl | rfl | rfl | rfl | rfl | rfl | rfl | rfl | rfl | rfl | rfl | rfl | rfl | rfl | rfl | rfl | rfl | rfl | rfl | rfl | rfl | rfl | rfl | rfl | rfl | rfl | rfl | rfl | rfl | rfl | rfl | rfl | rfl | rfl | rfl
  · exact Xas hJ rfl rfl rfl rfl (getD_both (mem_ready.1 hi).1)
  · exact Xv hJ rfl rfl rfl rfl (by decide) (by decide) (by decide) (by simp [kE]) (by simp [kE]) hJ.t4
  · exact Xv hJ rfl rfl rfl rfl (by decide) (by decide) (by decide) (by simp [kE]) (by simp [kE]) hJ.t5
  · exact Zil hJ rfl rfl rfl rfl (by decide) (by decide) (by decide) rfl (hJ.sl 1 (by decide) (Zb hi 1 (by kernel_rfl))) (hJ.sl 2 (by decide) (Zb hi 2 (by kernel_rfl))) rfl
  · exact Zbm hJ rfl rfl rfl rfl (by decide) rfl (Zb hi 0 (by kernel_rfl)) (hJ.sl 3 (by decide) (Zb hi 3 (by kernel_rfl)))
  · exact Xv hJ rfl rfl rfl rfl (by decide) (by decide) (by decide) (by simp [kE]) (by simp [kE]) hJ.t3
  · exact Zdz hJ rfl rfl rfl rfl (by decide) (by decide) (by decide) rfl (hJ.sl 5 (by decide) (Zb hi 5 (by kernel_rfl)))
  · exact Zbm hJ rfl rfl rfl rfl (by decide) rfl (Zb hi 0 (by kernel_rfl)) (hJ.sl 6 (by decide) (Zb hi 6 (by kernel_rfl)))
  · exact Xv hJ rfl rfl rfl rfl (by decide) (by decide) (by decide) (by simp [kE]) (by simp [kE]) hJ.t3
  · exact Zdz hJ rfl rfl rfl rfl (by decide) (by decide) (by decide) rfl (hJ.sl 8 (by decide) (Zb hi 8 (by kernel_rfl)))
  · exact Zbm hJ rfl rfl rfl rfl (by decide) rfl (Zb hi 0 (by kernel_rfl)) (hJ.sl 9 (by decide) (Zb hi 9 (by kernel_rfl)))
  · exact Xv hJ rfl rfl rfl rfl (by decide) (by decide) (by decide) (by simp [kE]) (by simp [kE]) hJ.t3
  · exact Zdz hJ rfl rfl rfl rfl (by decide) (by decide) (by decide) rfl (hJ.sl 11 (by decide) (Zb hi 11 (by kernel_rfl)))
  · exact Zbm hJ rfl rfl rfl rfl (by decide) rfl (Zb hi 0 (by kernel_rfl)) (hJ.sl 12 (by decide) (Zb hi 12 (by kernel_rfl)))
  · exact Xv hJ rfl rfl rfl rfl (by decide) (by decide) (by decide) (by simp [kE]) (by simp [kE]) hJ.t3
  · exact Zdz hJ rfl rfl rfl rfl (by decide) (by decide) (by decide) rfl (hJ.sl 14 (by decide) (Zb hi 14 (by kernel_rfl)))
  · exact Zbm hJ rfl rfl rfl rfl (by decide) rfl (Zb hi 0 (by kernel_rfl)) (hJ.sl 15 (by decide) (Zb hi 15 (by kernel_rfl)))
  · exact Xv hJ rfl rfl rfl rfl (by decide) (by decide) (by decide) (by simp [kE]) (by simp [kE]) hJ.t3
  · exact Zdz hJ rfl rfl rfl rfl (by decide) (by decide) (by decide) rfl (hJ.sl 17 (by decide) (Zb hi 17 (by kernel_rfl)))
  · exact Zbm hJ rfl rfl rfl rfl (by decide) rfl (Zb hi 0 (by kernel_rfl)) (hJ.sl 18 (by decide) (Zb hi 18 (by kernel_rfl)))
  · exact Xv hJ rfl rfl rfl rfl (by decide) (by decide) (by decide) (by simp [kE]) (by simp [kE]) hJ.t4
  · exact Xv hJ rfl rfl rfl rfl (by decide) (by decide) (by decide) (by simp [kE]) (by simp [kE]) hJ.t5
  · exact Zil hJ rfl rfl rfl rfl (by decide) (by decide) (by decide) rfl (hJ.sl 20 (by decide) (Zb hi 20 (by kernel_rfl))) (hJ.sl 21 (by decide) (Zb hi 21 (by kernel_rfl))) rfl
  · exact Zbm hJ rfl rfl rfl rfl (by decide) rfl (Zb hi 0 (by kernel_rfl)) (hJ.sl 22 (by decide) (Zb hi 22 (by kernel_rfl)))
  · exact Xv hJ rfl rfl rfl rfl (by decide) (by decide) (by decide) (by simp [kE]) (by simp [kE]) hJ.t4
  · exact Xv hJ rfl rfl rfl rfl (by decide) (by decide) (by decide) (by simp [kE]) (by simp [kE]) hJ.t5
  · exact Zil hJ rfl rfl rfl rfl (by decide) (by decide) (by decide) rfl (hJ.sl 24 (by decide) (Zb hi 24 (by kernel_rfl))) (hJ.sl 25 (by decide) (Zb hi 25 (by kernel_rfl))) rfl
  · exact Zbm hJ rfl rfl rfl rfl (by decide) rfl (Zb hi 0 (by kernel_rfl)) (hJ.sl 26 (by decide) (Zb hi 26 (by kernel_rfl)))
  · exact Xv hJ rfl rfl rfl rfl (by decide) (by decide) (by decide) (by simp [kE]) (by simp [kE]) hJ.t3
  · exact Zdz hJ rfl rfl rfl rfl (by decide) (by decide) (by decide) rfl (hJ.sl 28 (by decide) (Zb hi 28 (by kernel_rfl)))
  · exact Zbm hJ rfl rfl rfl rfl (by decide) rfl (Zb hi 0 (by kernel_rfl)) (hJ.sl 29 (by decide) (Zb hi 29 (by kernel_rfl)))
  · exact Xv hJ rfl rfl rfl rfl (by decide) (by decide) (by decide) (by simp [kE]) (by simp [kE]) hJ.t4
  · exact Ysa hJ rfl rfl rfl rfl (by decide) (by decide) (by decide) (by rw [hJ.t1]; rfl)
  · exact Zil hJ rfl rfl rfl rfl (by decide) (by decide) (by decide) rfl (hJ.sl 31 (by decide) (Zb hi 31 (by kernel_rfl))) (hJ.sl 32 (by decide) (Zb hi 32 (by kernel_rfl))) rfl
  · exact Zbm hJ rfl rfl rfl rfl (by decide) rfl (Zb hi 0 (by kernel_rfl)) (hJ.sl 33 (by decide) (Zb hi 33 (by kernel_rfl)))
  · exact Xv hJ rfl rfl rfl rfl (by decide) (by decide) (by decide) (by simp [kE]) (by simp [kE]) hJ.t4
  · exact Ysa hJ rfl rfl rfl rfl (by decide) (by decide) (by decide) (by rw [hJ.t1]; rfl)
  · exact Zil hJ rfl rfl rfl rfl (by decide) (by decide) (by decide) rfl (hJ.sl 35 (by decide) (Zb hi 35 (by kernel_rfl))) (hJ.sl 36 (by decide) (Zb hi 36 (by kernel_rfl))) rfl
  · exact Zbm hJ rfl rfl rfl rfl (by decide) rfl (Zb hi 0 (by kernel_rfl)) (hJ.sl 37 (by decide) (Zb hi 37 (by kernel_rfl)))
  · exact Xv hJ rfl rfl rfl rfl (by decide) (by decide) (by decide) (by simp [kE]) (by simp [kE]) hJ.t3
  · exact Zdz hJ rfl rfl rfl rfl (by decide) (by decide) (by decide) rfl (hJ.sl 39 (by decide) (Zb hi 39 (by kernel_rfl)))
  · exact Zbm hJ rfl rfl rfl rfl (by decide) rfl (Zb hi 0 (by kernel_rfl)) (hJ.sl 40 (by decide) (Zb hi 40 (by kernel_rfl)))
  · exact Xv hJ rfl rfl rfl rfl (by decide) (by decide) (by decide) (by simp [kE]) (by simp [kE]) hJ.t3
  · exact Zdz hJ rfl rfl rfl rfl (by decide) (by decide) (by decide) rfl (hJ.sl 42 (by decide) (Zb hi 42 (by kernel_rfl)))
  · exact Zbm hJ rfl rfl rfl rfl (by decide) rfl (Zb hi 0 (by kernel_rfl)) (hJ.sl 43 (by decide) (Zb hi 43 (by kernel_rfl)))
  · exact Yfq (t := 0) hJ rfl rfl rfl rfl (by decide) (by decide) (by decide) rfl hJ.t6
  · exact Zbm hJ rfl rfl rfl rfl (by decide) rfl (Zb hi 0 (by kernel_rfl)) (hJ.sl 45 (by decide) (Zb hi 45 (by kernel_rfl)))
  · exact Yfq (t := 0) hJ rfl rfl rfl rfl (by decide) (by decide) (by decide) rfl hJ.t6
  · exact Zbm hJ rfl rfl rfl rfl (by decide) rfl (Zb hi 0 (by kernel_rfl)) (hJ.sl 47 (by decide) (Zb hi 47 (by kernel_rfl)))
  · exact Ysa hJ rfl rfl rfl rfl (by decide) (by decide) (by decide) (by rw [hJ.t6]; rfl)
  · exact Zbm hJ rfl rfl rfl rfl (by decide) rfl (Zb hi 0 (by kernel_rfl)) (hJ.sl 49 (by decide) (Zb hi 49 (by kernel_rfl)))
  · exact Zbm hJ rfl rfl rfl rfl (by decide) rfl (Zb hi 0 (by kernel_rfl)) rfl
  · exact Xv hJ rfl rfl rfl rfl (by decide) (by decide) (by decide) (by simp [kE]) (by simp [kE]) hJ.t4
  · exact Xv hJ rfl rfl rfl rfl (by decide) (by decide) (by decide) (by simp [kE]) (by simp [kE]) hJ.t5
  · exact Zil hJ rfl rfl rfl rfl (by decide) (by decide) (by decide) rfl (hJ.sl 52 (by decide) (Zb hi 52 (by kernel_rfl))) (hJ.sl 53 (by decide) (Zb hi 53 (by kernel_rfl))) rfl
  · exact Zbm hJ rfl rfl rfl rfl (by decide) rfl (Zb hi 0 (by kernel_rfl)) (hJ.sl 54 (by decide) (Zb hi 54 (by kernel_rfl)))
  · exact Xv hJ rfl rfl rfl rfl (by decide) (by decide) (by decide) (by simp [kE]) (by simp [kE]) hJ.t4
  · exact Xv hJ rfl rfl rfl rfl (by decide) (by decide) (by decide) (by simp [kE]) (by simp [kE]) hJ.t5
  · exact Zil hJ rfl rfl rfl rfl (by decide) (by decide) (by decide) rfl (hJ.sl 56 (by decide) (Zb hi 56 (by kernel_rfl))) (hJ.sl 57 (by decide) (Zb hi 57 (by kernel_rfl))) rfl
  · exact Zbm hJ rfl rfl rfl rfl (by decide) rfl (Zb hi 0 (by kernel_rfl)) (hJ.sl 58 (by decide) (Zb hi 58 (by kernel_rfl)))
  · exact Xv hJ rfl rfl rfl rfl (by decide) (by decide) (by decide) (by simp [kE]) (fun _ => (Zb hi 0 (by kernel_rfl))) rfl
  · exact Yfr hJ rfl rfl rfl rfl (by decide) (by decide) (by decide) (by simp [kE]) (fun _ => hJ.cl 60 (by decide) trivial (Zb hi 60 (by kernel_rfl))) (hJ.sl 60 (by decide) (Zb hi 60 (by kernel_rfl)))
theorem Zwr (w : World) : (zeroValue 145).run Try.prog w = .ok .nilFunc w := by kernel_rfl
theorem Zlv {w : World} {M : Nat} {es : Array MapEntry} {ck : Nat} {k : Int} (hM : w.heap[M]? = some (.map es ck)) (hks : ∀ x ∈ es.toList, MapKept.IsKey (.int .i64) x.key) :
 (∃ x ∈ es.toList, x.key = .int .i64 k /\ ∀ n, (Instr.lookup 112 (.map (some M)) (.int .i64 k) true).run Try.prog (w.drewN n) = .ok (.tuple #[x.val, .bool true]) (w.drewN n)) \/
 ((∀ x ∈ es.toList, x.key ≠ .int .i64 k) /\ ∀ n, (Instr.lookup 112 (.map (some M)) (.int .i64 k) true).run Try.prog (w.drewN n) = .ok (.tuple #[.nilFunc, .bool false]) (w.drewN n)) := by
 have hm : Try.prog.underlying 112 = some (.map 3 145) := by kernel_rfl
 have hd : Try.prog.underlying 3 = some (.int .i64) := by kernel_rfl
 have hk : MapKept.IsKey (.int .i64) (.int .i64 k) := rfl
 rcases MapKept.findNow_spec hk es.toList 0 hks with ⟨h1, h2⟩ | ⟨j, e, h1, h2, h3⟩
 · refine Or.inr ⟨h2, fun n => ?_⟩
   have hMn : (w.drewN n).heap[M]? = some (.map es ck) := hM
   simp [Instr.lookup, run_underlying hm, MapKept.run_getObj_map hMn, MapKept.run_checkKey hd hk, MapKept.run_findKey hd h1, Zwr, Result.andThen]
 · refine Or.inl ⟨e, List.mem_of_getElem? h2, h3, fun n => ?_⟩
   have hMn : (w.drewN n).heap[M]? = some (.map es ck) := hM
   simp [Instr.lookup, run_underlying hm, MapKept.run_getObj_map hMn, MapKept.run_checkKey hd hk, MapKept.run_findKey hd h1, Result.andThen]
def SlB (Bd E bc : Nat) (w : World) (v : Value) : KE -> Prop
 | .fn x => v = x
 | .pl op => ∃ b, v = fnV 66 #[Zdo b] /\ Bd < b /\ b < E /\ w.cell? ⟨b, 0, none⟩ = some (.int .i64 op)
 | .wi op fv => ∃ b3 b4, v = fnV 68 #[Zdo b3, Zdo b4, Zdo bc] /\ (Bd < b3 /\ b3 < E) /\ (Bd < b4 /\ b4 < E) /\ w.cell? ⟨b3, 0, none⟩ = some (.int .i64 op) /\ w.cell? ⟨b4, 0, none⟩ = some fv
 | _ => True
theorem Ywq {lo bc Bd : Nat} {w : World} {v : Value} {K : KE} (h : SlK lo bc w v v K) (hb : Bd < lo) : SlB Bd w.heap.size bc w v K := by
 cases K with
 | pl op => obtain ⟨b, e, hl, hc⟩ := h; exact ⟨b, e, by omega, World.block_lt_of_cell? _ _ hc, hc⟩
 | wi op fv => obtain ⟨b3, b4, e, h3, h4, c3, c4⟩ := h; exact ⟨b3, b4, e, ⟨by omega, World.block_lt_of_cell? _ _ c3⟩, ⟨by omega, World.block_lt_of_cell? _ _ c4⟩, c3, c4⟩
 | fn x => exact h
 | _ => trivial
theorem Ylg {Bd E bc : Nat} {w w' : World} {v : Value} {K : KE} (h : SlB Bd E bc w v K) (hs : ∀ k, Bd < k -> k < E -> w'.heap[k]? = w.heap[k]?) : SlB Bd E bc w' v K := by
 cases K with
 | pl op => obtain ⟨b, e, h1, h2, hc⟩ := h; exact ⟨b, e, h1, h2, by rw [Ye (hs b h1 h2)]; exact hc⟩
 | wi op fv => obtain ⟨b3, b4, e, h3, h4, c3, c4⟩ := h; exact ⟨b3, b4, e, h3, h4, by rw [Ye (hs b3 h3.1 h3.2)]; exact c3, by rw [Ye (hs b4 h4.1 h4.2)]; exact c4⟩
 | _ => exact h
structure Zfv (w : World) (Bd E bc b6 M : Nat) : Prop where
 cb : w.cell? ⟨bc, 0, none⟩ = some (Zdo Bd)
 c6 : w.cell? ⟨b6, 0, none⟩ = some (vnE bc)
 lb : Bd < bc /\ bc < E
 l6 : Bd < b6 /\ b6 < E
 lM : Bd < M /\ M < E
 mp : ∃ es ck, w.heap[M]? = some (.map es ck) /\ (∀ x ∈ es.toList, ∃ k, x.key = .int .i64 k /\ k ∈ Znp /\ SlB Bd E bc w x.val (Yel bc b6 k)) /\ (∀ k ∈ Znp, ∃ x ∈ es.toList, x.key = .int .i64 k)
theorem Zhv {w w' : World} {Bd E bc b6 M : Nat} (h : Zfv w Bd E bc b6 M) (hs : ∀ k, Bd < k -> k < E -> w'.heap[k]? = w.heap[k]?) : Zfv w' Bd E bc b6 M := by
 obtain ⟨es, ck, hM, h1, h2⟩ := h.mp
 refine ⟨by rw [Ye (hs bc h.lb.1 h.lb.2)]; exact h.cb, by rw [Ye (hs b6 h.l6.1 h.l6.2)]; exact h.c6, h.lb, h.l6, h.lM, es, ck, by rw [hs M h.lM.1 h.lM.2]; exact hM, fun x hx => ?_, h2⟩
 obtain ⟨k, e, hin, hsl⟩ := h1 x hx
 exact ⟨k, e, hin, Ylg hsl hs⟩
theorem Zrx {w w' : World} {Bd : Nat} {e : Ending} (h : Zsx w Bd e w') (hb : Bd < w.heap.size) : ∃ bc b6 M, e = .returned (.map (some M)) /\ w.grownBy w' none /\ Zfv w' Bd w'.heap.size bc b6 M := by
 obtain ⟨lo, bc, b6, M, he, g, hlo, hbc, hb6, hM, cb, c6, es, ck, hh, h1, h2⟩ := h
 refine ⟨bc, b6, M, he, g, cb, c6, ⟨by omega, World.block_lt_of_cell? _ _ cb⟩, ⟨by omega, World.block_lt_of_cell? _ _ c6⟩, ⟨by omega, (Gs hh)⟩, es, ck, hh, fun x hx => ?_, h2⟩
 obtain ⟨k, e, hin, hsl⟩ := h1 x hx
 exact ⟨k, e, hin, Ywq hsl (by omega)⟩
theorem Yhh {w : World} {Bd E bc b6 M : Nat} (h : Zfv w Bd E bc b6 M) {k : Int} (hk : k ∈ Znp) :
 ∃ v, SlB Bd E bc w v (Yel bc b6 k) /\ ∀ n, (Instr.lookup 112 (.map (some M)) (.int .i64 k) true).run Try.prog (w.drewN n) = .ok (.tuple #[v, .bool true]) (w.drewN n) := by
 obtain ⟨es, ck, hM, h1, h2⟩ := h.mp
 have hks : ∀ x ∈ es.toList, MapKept.IsKey (.int .i64) x.key := fun x hx => by obtain ⟨k', e, _⟩ := h1 x hx; rw [e]; rfl
 rcases Zlv (k := k) hM hks with ⟨x, hx, hkx, hr⟩ | ⟨hno, _⟩
 · obtain ⟨k', e, _, hs⟩ := h1 x hx
   rw [hkx] at e; injection e with e1 e2; subst e2
   exact ⟨x.val, hs, hr⟩
 · obtain ⟨x, hx, e⟩ := h2 k hk
   exact absurd e (hno x hx)
theorem Yaj {w : World} {Bd E bc b6 M : Nat} (h : Zfv w Bd E bc b6 M) {k : Int} (hk : k ∉ Znp) :
 ∀ n, (Instr.lookup 112 (.map (some M)) (.int .i64 k) true).run Try.prog (w.drewN n) = .ok (.tuple #[.nilFunc, .bool false]) (w.drewN n) := by
 obtain ⟨es, ck, hM, h1, h2⟩ := h.mp
 have hks : ∀ x ∈ es.toList, MapKept.IsKey (.int .i64) x.key := fun x hx => by obtain ⟨k', e, _⟩ := h1 x hx; rw [e]; rfl
 rcases Zlv (k := k) hM hks with ⟨x, hx, hkx, hr⟩ | ⟨hno, hr⟩
 · obtain ⟨k', e, hin, hs⟩ := h1 x hx
   rw [hkx] at e; injection e with e1 e2; subst e2
   exact absurd hin hk
 · exact hr
abbrev Cd := List (Int × Int) × List Int × Nat
def Jg (F : Nat -> Cd) : Nat -> Nat -> Cd
 | 0, a => ([], [], a)
 | n + 1, a => ((F a).1 ++ (Jg F n (F a).2.2).1, (F a).2.1 ++ (Jg F n (F a).2.2).2.1, (Jg F n (F a).2.2).2.2)
def Zwi (k n : Int) : List (Int × Int) :=
 if k = 2 then [(8, n)] else if k = 3 then [(10, 0)] else if k = 4 then [(12, 0)] else if k = 9 then [(18, 0)] else if k = 10 then [(4, 0)] else if k = 11 then [(2, 0)]
 else if k = 12 then [(3, n)] else if k = 13 then [(7, n)] else if k = 16 then [(13, 0)] else if k = 17 then [(9, 0)] else if k = 18 then [(11, 0)] else if k = 19 then [(n, 0)] else if k = 20 then [(n, 0)]
 else if k = 25 then [(17, n)] else if k = 26 then [(19, n)] else []
def Zzr (k : Int) : Bool := k == 1 || k == 2 || k == 3 || k == 4 || k == 9 || k == 10 || k == 11 || k == 12 || k == 13 || k == 16 || k == 17 || k == 18 || k == 19 || k == 20 || k == 25 || k == 26
def Xx (ps : List (Int × Int × Int)) : Nat -> Nat -> Cd
 | 0, a => ([], [], a)
 | g + 1, a =>
   match ps[a]? with
   | none => ([], [], a)
   | some (k, n, kc) => ((Jg (Xx ps g) kc.toNat (a + 1)).1 ++ Zwi k n, (Jg (Xx ps g) kc.toNat (a + 1)).2.1 ++ (Zwi k n).map (fun _ => (a : Int)), (Jg (Xx ps g) kc.toNat (a + 1)).2.2)
def Zus (T : Nat -> Bool) (F : Nat -> Cd) : Nat -> Nat -> Bool
 | 0, _ => true
 | n + 1, a => T a && Zus T F n (F a).2.2
def Zea (ps : List (Int × Int × Int)) : Nat -> Nat -> Bool
 | 0, _ => false
 | g + 1, a =>
   match ps[a]? with
   | none => false
   | some (k, n, kc) => Zzr k && Zus (Zea ps g) (Xx ps g) kc.toNat (a + 1)
def Yef (w : World) (E Bd : Nat) (vt vf : Value) (nm : ByteArray) (ar : Int) (vl vp vout vorg vlo vk : Value) (out : List (Int × Int)) (org : List Int) (c : Cd) (e : Ending) (w' : World) : Prop :=
 e = .returned (.int .i64 c.2.2) /\ Sp (Yj Bd vout vorg) w w' /\ ∃ vo vg, Yc w' E Bd vt vf nm ar vl vp vo vg vlo vk (out ++ c.1) (org ++ c.2.1) /\ (∀ k, k < w.heap.size -> Yj Bd vo vg k -> Yj Bd vout vorg k)
theorem Zje {w w' : World} {B : Nat} {pp : Option Addr} {ps : List (Int × Int × Int)} (h : Zcw w B pp ps) (hs : ∀ k, k < B -> w'.heap[k]? = w.heap[k]?) : Zcw w' B pp ps := fun h0 => by
 obtain ⟨b, o, e, hb, hc⟩ := h h0
 refine ⟨b, o, e, hb, fun j k n kc hj => ?_⟩
 obtain ⟨h1, h2, h3⟩ := hc j k n kc hj
 rw [<- Ye (hs b hb)] at h1 h2 h3
 exact ⟨h1, h2, h3⟩
structure Yvv (w : World) (Bd E bc b6 M : Nat) (pp : Option Addr) (ps : List (Int × Int × Int)) : Prop where
 pa : Zcw w Bd pp ps
 ki : Zfv w Bd E bc b6 M
theorem Ykq {w w' : World} {Bd E bc b6 M : Nat} {pp : Option Addr} {ps : List (Int × Int × Int)} (h : Yvv w Bd E bc b6 M pp ps) (hs : ∀ k, k < E -> k ≠ Bd -> w'.heap[k]? = w.heap[k]?) : Yvv w' Bd E bc b6 M pp ps :=
 ⟨Zje h.pa fun k hk => hs k (by have := h.ki.lb; omega) (by omega), Zhv h.ki fun k h1 h2 => hs k h2 (by omega)⟩
theorem Zix {w w' : World} {Bd E : Nat} {vt vf : Value} {nm : ByteArray} {ar : Int} {vl vp vout vorg vlo vk : Value} {out : List (Int × Int)} {org : List Int} (hC : Yc w E Bd vt vf nm ar vl vp vout vorg vlo vk out org)
 (g : Sp (Yj Bd vout vorg) w w') : ∀ k, k < E -> k ≠ Bd -> w'.heap[k]? = w.heap[k]? := fun k hk hne => g.block k (Nat.lt_of_lt_of_le hk hC.le) (by
 rintro (e | e | e)
 · exact hne e
 · have := (hC.out.lt k e).1; omega
 · have := (hC.org.lt k e).1; omega)
theorem Zug {w : World} {E Bd : Nat} {vt vf : Value} {nm : ByteArray} {ar : Int} {vl vp vout vorg vlo vk : Value} {out : List (Int × Int)} {org : List Int} (hC : Yc w E Bd vt vf nm ar vl vp vout vorg vlo vk out org) : ¬ Yj Bd vout vorg w.heap.size := by
 rintro (e | e | e)
 · have := hC.lt; have := hC.le; omega
 · have := (hC.out.lt _ e).2; omega
 · have := (hC.org.lt _ e).2; omega
structure Yrc (w wa wr : World) (B E Bd : Nat) (vt vf : Value) (nm : ByteArray) (ar : Int) (vl vp vout vorg vlo vk : Value) (out : List (Int × Int)) (org : List Int) (k n kc : Int) (F : Nat -> Cd) (T : Nat -> Bool) (a0 q aq : Nat) (vo vg : Value) (outq : List (Int × Int)) (orgq : List Int) : Prop where
 code : Yc wr E Bd vt vf nm ar vl vp vo vg vlo vk outq orgq
 sp : Sp (Yj Bd vout vorg) w wr
 row : ∀ j, j < w.heap.size -> Yj Bd vo vg j -> Yj Bd vout vorg j
 nb : ¬ Yj Bd vo vg B
 copy : Zie wr B k n kc
 hq : q <= kc.toNat
 e1 : out ++ (Jg F kc.toNat a0).1 = outq ++ (Jg F (kc.toNat - q) aq).1
 e2 : org ++ (Jg F kc.toNat a0).2.1 = orgq ++ (Jg F (kc.toNat - q) aq).2.1
 e3 : (Jg F kc.toNat a0).2.2 = (Jg F (kc.toNat - q) aq).2.2
 t : Zus T F (kc.toNat - q) aq = true
theorem Yer {w wa wr w' : World} {B E Bd : Nat} {vt vf : Value} {nm : ByteArray} {ar : Int} {vl vp vout vorg vlo vk : Value} {out : List (Int × Int)} {org : List Int} {k n kc : Int} {F : Nat -> Cd} {T : Nat -> Bool} {a0 q aq : Nat} {vo vg : Value} {outq : List (Int × Int)} {orgq : List Int}
 (h : Yrc w wa wr B E Bd vt vf nm ar vl vp vout vorg vlo vk out org k n kc F T a0 q aq vo vg outq orgq) (hlt : (q : Int) < kc) {vo' vg' : Value} (hB : B < wr.heap.size)
 (hsp : Sp (Yj Bd vo vg) wr w') (hC : Yc w' E Bd vt vf nm ar vl vp vo' vg' vlo vk (outq ++ (F aq).1) (orgq ++ (F aq).2.1)) (hr : ∀ j, j < wr.heap.size -> Yj Bd vo' vg' j -> Yj Bd vo vg j) :
 Yrc w wa w' B E Bd vt vf nm ar vl vp vout vorg vlo vk out org k n kc F T a0 (q + 1) (F aq).2.2 vo' vg' (outq ++ (F aq).1) (orgq ++ (F aq).2.1) := by
 have e : kc.toNat - q = (kc.toNat - (q + 1)) + 1 := by omega
 refine ⟨hC, Zr h.sp hsp (fun j hj hp => h.row j hj hp), fun j hj hp => h.row j hj (hr j (Nat.lt_of_lt_of_le hj h.sp.size) hp), fun hp => h.nb (hr B hB hp), ?_, by have := h.hq; omega, ?_, ?_, ?_, ?_⟩
 · unfold Zie; rw [hsp.block B hB h.nb]; exact h.copy
 · rw [h.e1, e, Jg, List.append_assoc]
 · rw [h.e2, e, Jg, List.append_assoc]
 · rw [h.e3, e, Jg]
 · have := h.t; rw [e, Zus, Bool.and_eq_true] at this; exact this.2
theorem Yrh {w wa wr : World} {B E Bd : Nat} {vt vf : Value} {nm : ByteArray} {ar : Int} {vl vp vout vorg vlo vk : Value} {out : List (Int × Int)} {org : List Int} {k n kc : Int} {F : Nat -> Cd} {T : Nat -> Bool} {a0 q aq : Nat} {vo vg : Value} {outq : List (Int × Int)} {orgq : List Int}
 (h : Yrc w wa wr B E Bd vt vf nm ar vl vp vout vorg vlo vk out org k n kc F T a0 q aq vo vg outq orgq) (hlt : (q : Int) < kc) : T aq = true /\ outq.length + (F aq).1.length <= (out ++ (Jg F kc.toNat a0).1).length /\ orgq.length + (F aq).2.1.length <= (org ++ (Jg F kc.toNat a0).2.1).length := by
 have e : kc.toNat - q = (kc.toNat - (q + 1)) + 1 := by omega
 have := h.t; rw [e, Zus, Bool.and_eq_true] at this
 refine ⟨this.1, ?_, ?_⟩
 · rw [h.e1, e, Jg]; simp only [List.length_append]; omega
 · rw [h.e2, e, Jg]; simp only [List.length_append]; omega
theorem Zqk {w wa wr : World} {B E Bd : Nat} {vt vf : Value} {nm : ByteArray} {ar : Int} {vl vp vout vorg vlo vk : Value} {out : List (Int × Int)} {org : List Int} {k n kc : Int} {F : Nat -> Cd} {T : Nat -> Bool} {a0 q aq : Nat} {vo vg : Value} {outq : List (Int × Int)} {orgq : List Int}
 (h : Yrc w wa wr B E Bd vt vf nm ar vl vp vout vorg vlo vk out org k n kc F T a0 q aq vo vg outq orgq) (hlt : ¬ (q : Int) < kc) : outq = out ++ (Jg F kc.toNat a0).1 /\ orgq = org ++ (Jg F kc.toNat a0).2.1 /\ aq = (Jg F kc.toNat a0).2.2 := by
 have e : kc.toNat - q = 0 := by omega
 refine ⟨?_, ?_, ?_⟩
 · rw [h.e1, e, Jg]; simp
 · rw [h.e2, e, Jg]; simp
 · rw [h.e3, e, Jg]
theorem Zry {T : Nat -> Bool} {F : Nat -> Cd} {np : Nat} (hF : ∀ a, T a = true -> a < (F a).2.2 /\ (F a).2.2 <= np) : ∀ n a, a <= np -> Zus T F n a = true -> a + n <= (Jg F n a).2.2 /\ (Jg F n a).2.2 <= np
 | 0, a, ha, _ => by rw [Jg]; exact ⟨Nat.le_refl _, ha⟩
 | n + 1, a, ha, h => by
   rw [Zus, Bool.and_eq_true] at h
   have h1 := hF a h.1
   have h2 := Zry hF n (F a).2.2 h1.2 h.2
   rw [Jg]
   exact ⟨by simp only []; omega, h2.2⟩
theorem Ztq (ps : List (Int × Int × Int)) : ∀ g a, Zea ps g a = true -> a < (Xx ps g a).2.2 /\ (Xx ps g a).2.2 <= ps.length
 | 0, a, h => by cases h
 | g + 1, a, h => by
   rw [Zea] at h
   rw [Xx]
   cases hp : ps[a]? with
   | none => rw [hp] at h; cases h
   | some x =>
     obtain ⟨k, n, kc⟩ := x
     rw [hp] at h
     simp only [Bool.and_eq_true] at h
     have hlt : a < ps.length := (List.getElem?_eq_some_iff.1 hp).1
     have h2 := Zry (Ztq ps g) kc.toNat (a + 1) (by omega) h.2
     exact ⟨by simp only []; omega, h2.2⟩
theorem Zmo {w wa wr w' : World} {B E Bd : Nat} {vt vf : Value} {nm : ByteArray} {ar : Int} {vl vp vout vorg vlo vk : Value} {out : List (Int × Int)} {org : List Int} {k n kc : Int} {F : Nat -> Cd} {T : Nat -> Bool} {a0 q aq at_ : Nat} {vo vg : Value} {outq : List (Int × Int)} {orgq : List Int} {c : Cd} {o a : Int}
 (h : Yrc w wa wr B E Bd vt vf nm ar vl vp vout vorg vlo vk out org k n kc F T a0 q aq vo vg outq orgq) (hlt : ¬ (q : Int) < kc) (hc : c = ((Jg F kc.toNat a0).1 ++ Zwi k n, (Jg F kc.toNat a0).2.1 ++ (Zwi k n).map (fun _ => (at_ : Int)), (Jg F kc.toNat a0).2.2)) (hf : Zwi k n = [(o, a)])
 (sp : Sp (Yj Bd vo vg) wr w') (hr : ∃ vo' vg', Yc w' E Bd vt vf nm ar vl vp vo' vg' vlo vk (outq ++ [(o, a)]) (orgq ++ [(at_ : Int)]) /\ (∀ j, j < wr.heap.size -> Yj Bd vo' vg' j -> Yj Bd vo vg j)) :
 Yef w E Bd vt vf nm ar vl vp vout vorg vlo vk out org c (.returned (.int .i64 aq)) w' := by
 obtain ⟨e1, e2, e3⟩ := Zqk h hlt
 obtain ⟨vo', vg', hC, hrow⟩ := hr
 refine ⟨by rw [hc, e3], Zr h.sp sp (fun j hj hp => h.row j hj hp), vo', vg', ?_, fun j hj hp => h.row j hj (hrow j (Nat.lt_of_lt_of_le hj h.sp.size) hp)⟩
 rw [hc, hf]
 simp only [List.map_cons, List.map_nil]
 rw [<- List.append_assoc, <- List.append_assoc, <- e1, <- e2]
 exact hC
theorem Yex {w wa wr w' : World} {B E Bd : Nat} {vt vf : Value} {nm : ByteArray} {ar : Int} {vl vp vout vorg vlo vk : Value} {out : List (Int × Int)} {org : List Int} {k n kc : Int} {F : Nat -> Cd} {T : Nat -> Bool} {a0 q aq at_ : Nat} {vo vg : Value} {outq : List (Int × Int)} {orgq : List Int} {c : Cd}
 (h : Yrc w wa wr B E Bd vt vf nm ar vl vp vout vorg vlo vk out org k n kc F T a0 q aq vo vg outq orgq) (hlt : ¬ (q : Int) < kc) (hc : c = ((Jg F kc.toNat a0).1 ++ Zwi k n, (Jg F kc.toNat a0).2.1 ++ (Zwi k n).map (fun _ => (at_ : Int)), (Jg F kc.toNat a0).2.2)) (hf : Zwi k n = [])
 (g : wr.grownBy w' none) : Yef w E Bd vt vf nm ar vl vp vout vorg vlo vk out org c (.returned (.int .i64 aq)) w' := by
 obtain ⟨e1, e2, e3⟩ := Zqk h hlt
 refine ⟨by rw [hc, e3], Zr h.sp (Zl g (by simp)) (fun j hj hp => hp), vo, vg, ?_, h.row⟩
 rw [hc, hf]
 simp only [List.map_nil, List.append_nil]
 rw [<- e1, <- e2]
 exact Zaa h.code g
theorem Ygg (bc b6 : Nat) (k n : Int) (h : Zzr k = true) (h1 : k ≠ 1) : k ∈ Znp /\ ((∃ o, Yel bc b6 k = .pl o /\ Zwi k n = [(o, 0)]) \/ (∃ o, Yel bc b6 k = .wi o v5E /\ Zwi k n = [(o, n)]) \/ (Yel bc b6 k = .fn (vnE bc) /\ Zwi k n = [(n, 0)])) := by
 simp only [Zzr, Bool.or_eq_true, beq_iff_eq] at h
 rcases h with ((((((((((((((h | h) | h) | h) | h) | h) | h) | h) | h) | h) | h) | h) | h) | h) | h) | h
 · exact absurd h h1
 · subst h; exact ⟨by decide, Or.inr (Or.inl ⟨_, rfl, rfl⟩)⟩
 · subst h; exact ⟨by decide, Or.inl ⟨_, rfl, rfl⟩⟩
 · subst h; exact ⟨by decide, Or.inl ⟨_, rfl, rfl⟩⟩
 · subst h; exact ⟨by decide, Or.inl ⟨_, rfl, rfl⟩⟩
 · subst h; exact ⟨by decide, Or.inl ⟨_, rfl, rfl⟩⟩
 · subst h; exact ⟨by decide, Or.inl ⟨_, rfl, rfl⟩⟩
 · subst h; exact ⟨by decide, Or.inr (Or.inl ⟨_, rfl, rfl⟩)⟩
 · subst h; exact ⟨by decide, Or.inr (Or.inl ⟨_, rfl, rfl⟩)⟩
 · subst h; exact ⟨by decide, Or.inl ⟨_, rfl, rfl⟩⟩
 · subst h; exact ⟨by decide, Or.inl ⟨_, rfl, rfl⟩⟩
 · subst h; exact ⟨by decide, Or.inl ⟨_, rfl, rfl⟩⟩
 · subst h; exact ⟨by decide, Or.inr (Or.inr ⟨rfl, rfl⟩)⟩
 · subst h; exact ⟨by decide, Or.inr (Or.inr ⟨rfl, rfl⟩)⟩
 · subst h; exact ⟨by decide, Or.inr (Or.inl ⟨_, rfl, rfl⟩)⟩
 · subst h; exact ⟨by decide, Or.inr (Or.inl ⟨_, rfl, rfl⟩)⟩
theorem Zqs {P : Nat -> Prop} {w w' : World} {n : Nat} (h : Sp P (w.drewN n) w') : Sp P w w' := ⟨h.os, h.tape, h.output, h.size, h.block⟩
theorem Zwj (g : Nat) (E Bd bc b6 M cp : Nat) (vt vf : Value) (nm : ByteArray) (ar : Int) (vl : Value) (pp : Option Addr) (ps : List (Int × Int × Int)) (hnp : ps.length <= 17592186044415) (vout vorg vlo : Value) (out : List (Int × Int)) (org : List Int) (at_ : Nat) (k n kc : Int) (hp : ps[at_]? = some (k, n, kc)) (hpk : Zzr k = true)
 (hkt : Zus (Zea ps g) (Xx ps g) kc.toNat (at_ + 1) = true) (w : World)
 (hC : Yc w E Bd vt vf nm ar vl (.slice pp ps.length cp) vout vorg vlo (.map (some M)) out org) (hE : Yvv w Bd E bc b6 M pp ps)
 (ho : (out ++ (Xx ps (g + 1) at_).1).length <= 1000000000000) (hg : (org ++ (Xx ps (g + 1) at_).2.1).length <= 1000000000000)
 (hI : ∀ (at_ : Nat) (vout vorg : Value) (out : List (Int × Int)) (org : List Int) (w : World), Zea ps g at_ = true -> Yc w E Bd vt vf nm ar vl (.slice pp ps.length cp) vout vorg vlo (.map (some M)) out org -> Yvv w Bd E bc b6 M pp ps ->
   (out ++ (Xx ps g at_).1).length <= 1000000000000 -> (org ++ (Xx ps g at_).2.1).length <= 1000000000000 ->
   Calls Try.prog 43 #[.pointer (some ⟨Bd, 0, none⟩), .int .i64 at_] w (Yef w E Bd vt vf nm ar vl (.slice pp ps.length cp) vout vorg vlo (.map (some M)) out org (Xx ps g at_))) :
 Calls Try.prog 43 #[.pointer (some ⟨Bd, 0, none⟩), .int .i64 at_] w (Yef w E Bd vt vf nm ar vl (.slice pp ps.length cp) vout vorg vlo (.map (some M)) out org (Xx ps (g + 1) at_)) := by
 have hcode : Xx ps (g + 1) at_ = ((Jg (Xx ps g) kc.toNat (at_ + 1)).1 ++ Zwi k n, (Jg (Xx ps g) kc.toNat (at_ + 1)).2.1 ++ (Zwi k n).map (fun _ => (at_ : Int)), (Jg (Xx ps g) kc.toNat (at_ + 1)).2.2) := by rw [Xx, hp]
 rw [hcode] at ho hg
 have HI := Hq hI
 have HT := Hq hkt
 have HCD := Hq hcode
 have hja : at_ < ps.length := (List.getElem?_eq_some_iff.1 hp).1
 obtain ⟨bp, op, rfl, hpB, hpc⟩ := hE.pa (by omega)
 obtain ⟨p0, p1, p2⟩ := hpc _ _ _ _ hp
 have hBw : Bd < w.heap.size := Nat.lt_of_lt_of_le hC.lt hC.le
 have hbp : bp < w.heap.size := Nat.lt_trans hpB hBw
 have c5 : w.cell? ⟨Bd, 5, none⟩ = some (.slice (some ⟨bp, op, none⟩) ps.length cp) := Yo hC 5
 have CC := Hq hC
 have EE := Hq hE
 have HPC := Hq hpc
 have hji : (at_ : Int) < (ps.length : Int) := by omega
 have HO := Hq ho
 have HG := Hq hg
 have n5 : (k == 5) = false := by by_cases h : k = 5 <;> simp [h]; subst h; exact absurd hpk (by decide)
 have n6 : (k == 6) = false := by by_cases h : k = 6 <;> simp [h]; subst h; exact absurd hpk (by decide)
 have n7 : (k == 7) = false := by by_cases h : k = 7 <;> simp [h]; subst h; exact absurd hpk (by decide)
 have n8 : (k == 8) = false := by by_cases h : k = 8 <;> simp [h]; subst h; exact absurd hpk (by decide)
 have n23 : (k == 23) = false := by by_cases h : k = 23 <;> simp [h]; subst h; exact absurd hpk (by decide)
 have n24 : (k == 24) = false := by by_cases h : k = 24 <;> simp [h]; subst h; exact absurd hpk (by decide)
 have hkc : kc <= 17592186044415 := by have := Zry (Ztq ps g) kc.toNat (at_ + 1) (by omega) hkt; omega
 clear hI hkt hcode hC hE hpc ho hg
 go_enter Try.func43, Try.ntmps43
 go_wp2
 have K0 : Yrc w w (w.alloc (.cells #[.int .i64 k, .int .i64 n, .int .i64 kc] 108)) w.heap.size E Bd vt vf nm ar vl (.slice (some ⟨bp, op, none⟩) ps.length cp) vout vorg vlo (.map (some M)) out org k n kc (Xx ps g) (Zea ps g) (at_ + 1) 0 (at_ + 1) vout vorg out org :=
  ⟨Zaa CC.out (Ga _ _ _), Zl (Ga _ _ none) (by simp), fun j _ h => h, Zug CC.out, Zmc w k n kc, Nat.zero_le _, rfl, rfl, rfl, HT.out⟩
 have KK := Hq K0
 clear K0 p0 p1 p2 c5
 go_loopw [6, 49] (fun v i wr => ∃ (q aq : Nat) (vo vg : Value) (outq : List (Int × Int)) (orgq : List Int), i = .int .i64 q /\ v = .int .i64 aq /\ Yrc w w wr w.heap.size E Bd vt vf nm ar vl (.slice (some ⟨bp, op, none⟩) ps.length cp) vout vorg vlo (.map (some M)) out org k n kc (Xx ps g) (Zea ps g) (at_ + 1) q aq vo vg outq orgq) (fun _ i _ => kc.toNat - (intOf i).toNat)
 case atStart => exact ⟨0, at_ + 1, vout, vorg, out, org, rfl, by go_num, KK.out⟩
 case round =>
  obtain ⟨q, aq, vo, vg, outq, orgq, rfl, rfl, hL⟩ := hrel
  have LL := Hq hL
  have hqk := hL.hq
  have x0 := Zof hL.copy
  have x2 := Zqd hL.copy
  have c9 : wr.cell? ⟨Bd, 9, none⟩ = some (.map (some M)) := Yo hL.code 9
  have hBr : Bd < wr.heap.size := Nat.lt_of_lt_of_le hL.code.lt hL.code.le
  have hBB := Zod hL.copy
  have EW := Hq (Ykq EE.out (Zix CC.out hL.sp))
  clear hL
  by_cases hlt : (q : Int) < kc
  · have hok := Yrh LL.out hlt
    have I1 := Hq (HI.out aq vo vg outq orgq wr hok.1 LL.out.code EW.out (by have := hok.2.1; have := HO.out; simp only [List.length_append] at *; omega) (by have := hok.2.2; have := HG.out; simp only [List.length_append] at *; omega))
    clear hok c9 x0
    go_wp2_with (go_at_call 43; refine I1.out.mono ?_; intro e w3 hpost; obtain ⟨rfl, hsp, vo', vg', hC', hrow⟩ := hpost; have S3 := Hq hsp; have C3 := Hq hC'; have R3 := Hq hrow; clear hsp hC' hrow)
    go_roundw
    case rel => exact ⟨q + 1, _, vo', vg', _, _, by go_num, rfl, Yer LL.out hlt hBB S3.out C3.out R3.out⟩
    case measure => simp [intOf]; omega
  · by_cases k1 : k = 1
    · have hlk := Yaj EW.out.ki (k := k) (by subst k1; decide)
      have HF := Hq (show Zwi k n = [] by subst k1; rfl)
      clear k1
      go_wp2
      go_quiet (fail)
      go_wp2
      go_ret
      exact Yex LL.out (by omega) HCD.out HF.out (Xh wr nq none)
    · obtain ⟨hin, hcls⟩ := Ygg bc b6 k n hpk k1
      obtain ⟨v, hsl, hlk⟩ := Yhh EW.out.ki hin
      have hE3 := Zqk LL.out hlt
      have hlen1 : outq.length <= 1000000000000 := by have := HO.out; rw [hE3.1]; simp only [List.length_append] at *; omega
      have hlen2 : orgq.length <= 1000000000000 := by have := HG.out; rw [hE3.2.1]; simp only [List.length_append] at *; omega
      have hn0 := (Zje (fun _ => ⟨bp, op, rfl, hpB, HPC.out⟩) (fun j hj => Zix CC.out LL.out.sp j (by have := CC.out.lt; omega) (by omega)) : Zcw wr Bd (some ⟨bp, op, none⟩) ps) (by omega)
      have hcn : wr.cell? ⟨bp, op + at_ * 3 + 1, none⟩ = some (.int .i64 n) := by
       obtain ⟨b', o', e, _, hc⟩ := hn0
       injection e with e; injection e with e1 e2 _; subst e1; subst e2
       exact (hc _ _ _ _ hp).2.1
      have hbpr : bp < wr.heap.size := by omega
      have hbcr : bc < wr.heap.size := by have := EW.out.ki.lb; have := LL.out.code.le; omega
      have hcb := EW.out.ki.cb
      have hC : ∀ m, Yc (wr.drewN m) E Bd vt vf nm ar vl (.slice (some ⟨bp, op, none⟩) ps.length cp) vo vg vlo (.map (some M)) outq orgq := fun m => Zaa LL.out.code (Xh wr m none)
      have hle := LL.out.code.le
      rcases hcls with ⟨o, hk, hf⟩ | ⟨o, hk, hf⟩ | ⟨hk, hf⟩
      · rw [hk] at hsl
        obtain ⟨b, rfl, hb1, hb2, hc⟩ := hsl
        have PA := Hq (fun m => Ztr E Bd b vt vf nm ar vl _ vo vg vlo _ outq orgq at_ o (wr.drewN m) (hC m) hlen1 hlen2 hc)
        have HF := Hq hf
        clear hf hk hC hcn hcb hn0 hE3 hlen1 hlen2 hc hin k1
        unfold fnV Zdo at hlk
        go_wp2
        go_quiet (fail)
        go_wp2_with (go_at_call 66; refine (PA.out _).mono ?_; intro e w3 hpost; obtain ⟨rfl, hsp, hrest⟩ := hpost; have S3 := Hq hsp; have R3 := Hq hrest; clear hsp hrest)
        go_ret
        exact Zmo LL.out (by omega) HCD.out HF.out (Zqs S3.out) R3.out
      · rw [hk] at hsl
        obtain ⟨b3, b4, rfl, hb3, hb4, hc3, hc4⟩ := hsl
        have PA := Hq (fun m => Ztb E Bd b3 b4 bc bp op cp ps.length at_ vt vf nm ar vl vo vg vlo _ outq orgq o n (wr.drewN m) (hC m) hlen1 hlen2 hja hnp hc3 hc4 hcb hcn hbpr hbcr (show b3 < wr.heap.size by omega) (show b4 < wr.heap.size by omega))
        have HF := Hq hf
        clear hf hk hC hcn hcb hn0 hE3 hlen1 hlen2 hc3 hc4 hin k1
        unfold fnV Zdo at hlk
        go_wp2
        go_quiet (fail)
        go_wp2_with (go_at_call 68; refine (PA.out _).mono ?_; intro e w3 hpost; obtain ⟨rfl, hsp, hrest⟩ := hpost; have S3 := Hq hsp; have R3 := Hq hrest; clear hsp hrest)
        go_ret
        exact Zmo LL.out (by omega) HCD.out HF.out (Zqs S3.out) R3.out
      · rw [hk] at hsl
        have hv : v = vnE bc := hsl
        subst hv
        have PA := Hq (fun m => Zne E Bd bc bp op cp ps.length at_ vt vf nm ar vl vo vg vlo _ outq orgq n (wr.drewN m) (hC m) hlen1 hlen2 hja hnp hcb hcn hbpr hbcr)
        have HF := Hq hf
        clear hf hk hC hcn hcb hn0 hE3 hlen1 hlen2 hin k1
        unfold vnE fnV Zdo at hlk
        go_wp2
        go_quiet (fail)
        go_wp2_with (go_at_call 70; refine (PA.out _).mono ?_; intro e w3 hpost; obtain ⟨rfl, hsp, hrest⟩ := hpost; have S3 := Hq hsp; have R3 := Hq hrest; clear hsp hrest)
        go_ret
        exact Zmo LL.out (by omega) HCD.out HF.out (Zqs S3.out) R3.out
theorem Zta (E Bd bc b6 M cp : Nat) (vt vf : Value) (nm : ByteArray) (ar : Int) (vl : Value) (pp : Option Addr) (ps : List (Int × Int × Int)) (hnp : ps.length <= 17592186044415) (vlo : Value) : ∀ (g at_ : Nat) (vout vorg : Value) (out : List (Int × Int)) (org : List Int) (w : World), Zea ps g at_ = true ->
 Yc w E Bd vt vf nm ar vl (.slice pp ps.length cp) vout vorg vlo (.map (some M)) out org -> Yvv w Bd E bc b6 M pp ps -> (out ++ (Xx ps g at_).1).length <= 1000000000000 -> (org ++ (Xx ps g at_).2.1).length <= 1000000000000 ->
 Calls Try.prog 43 #[.pointer (some ⟨Bd, 0, none⟩), .int .i64 at_] w (Yef w E Bd vt vf nm ar vl (.slice pp ps.length cp) vout vorg vlo (.map (some M)) out org (Xx ps g at_))
 | 0, at_, vout, vorg, out, org, w, h, _, _, _, _ => by cases h
 | g + 1, at_, vout, vorg, out, org, w, h, hC, hE, ho, hg => by
   rw [Zea] at h
   cases hp : ps[at_]? with
   | none => rw [hp] at h; cases h
   | some x =>
     obtain ⟨k, n, kc⟩ := x
     rw [hp] at h
     simp only [Bool.and_eq_true] at h
     exact Zwj g E Bd bc b6 M cp vt vf nm ar vl pp ps hnp vout vorg vlo out org at_ k n kc hp h.1 h.2 w hC hE ho hg (Zta E Bd bc b6 M cp vt vf nm ar vl pp ps hnp vlo g)
theorem Zlr (ts : List (ByteArray × List Int)) (hn : ts.length <= 1024) (hts : ∀ x ∈ ts, x.1.size <= maxLen /\ x.2.length <= 17592186044415) (pt : Option Addr) (ct B : Nat) (w : World) (hT : Zap w B pt ts) (hB : B <= w.heap.size) :
 Calls Try.prog 41 #[.slice pt ts.length ct] w fun e w' => e = .returned (.int .i64 (Zy ts ts.length)) /\ w.grownBy w' none := by
 have HT := Hq hT
 have HS := Hq hts
 have HB := Hq (Zfq ts (fun x hx => (hts x hx).2))
 clear hT hts
 go_enter Try.func41, Try.ntmps41
 go_wp2
 go_loopw [3, 8] (fun v i wr => ∃ (k : Nat), k <= ts.length /\ i = .int .i64 k /\ v = .int .i64 (Zy ts k) /\ w.grownBy wr none) (fun _ i _ => ts.length - (intOf i).toNat)
 case atStart => exact ⟨0, Nat.zero_le _, rfl, rfl, Ze _ _⟩
 case round =>
  obtain ⟨k, hk, rfl, rfl, hgr⟩ := hrel
  have GR := Hq hgr
  have hsz := hgr.size
  have hbk := HB.out k
  clear hgr
  by_cases hlt : (k : Int) < (ts.length : Int)
  · obtain ⟨nm, d, hg, hmem⟩ := Zse ts k (by omega)
    obtain ⟨bt, ot, rfl, hbt, hct⟩ := HT.out (by omega)
    obtain ⟨e0, pd, cd, e1, hbd⟩ := hct k nm d hg
    replace e0 := Zx GR.out (B := B) (by simp) hbt e0
    replace e1 := Zx GR.out (B := B) (by simp) hbt e1
    have hdl := (HS.out _ hmem).2
    have hbt2 : bt < wr.heap.size := by omega
    have HG := Hq (Zqf ts k nm d hg)
    clear hct hbd hmem hg
    simp only [] at hdl
    generalize Zy ts k = x at *
    go_wp2
    go_roundw
    case rel => exact ⟨k + 1, by omega, by go_num, by rw [HG.out], Za GR.out (Ga _ _ none)⟩
    case measure => simp [intOf]; omega
  · have hkn : k = ts.length := by omega
    subst hkn
    go_wp2
    go_ret
    exact ⟨rfl, GR.out⟩
end Go.Proofs.Ytecaolkbllbokaa.TG
