/-
  The checker's number and kids joined. Conditions: as each theorem states.
-/
import Derived.Test.YtecaolkbllbokaaTgNumB
import Derived.Test.YtecaolkbllbokaaTgNumC
import Derived.Test.YtecaolkbllbokaaTgKidsA
import Derived.Test.YtecaolkbllbokaaTgKidsB
import Derived.Test.YtecaolkbllbokaaTgKidsC
import Derived.Test.YtecaolkbllbokaaTgKidsD
import Derived.Test.YtecaolkbllbokaaTgKidsE
import Derived.Test.YtecaolkbllbokaaTgKidsF
import Derived.Test.YtecaolkbllbokaaTgKidsH
namespace Go.Proofs.Ytecaolkbllbokaa.TG
open Go.RowKit Go.Great
set_option linter.unusedSimpArgs false
set_option linter.unusedVariables false

theorem calls_eq {P : Program} {f : FuncId} {args : Array Value} {w : World} {a b : Int} (h : a = b) (H : Calls P f args w fun e w' => e = .returned (.int .i64 a) ∧ w.grownBy w' none) : Calls P f args w fun e w' => e = .returned (.int .i64 b) ∧ w.grownBy w' none := h ▸ H

theorem number_any (k n kc : Int) (hk : 1 ≤ k ∧ k < 27) (Bc bf of nl cl nt ct nf cf : Nat) (pt pf pl : Option Addr) (vp : Value) (at_ loops most : Int) (w : World)
    (hC : Chk w Bc bf of (.slice pt nt ct) (.slice pf nf cf) (.slice pl nl cl) vp at_ loops most) :
    Calls Try.prog 114 #[.pointer (some ⟨Bc, 0, none⟩), .agg #[.int .i64 k, .int .i64 n, .int .i64 kc]] w fun e w' => e = .returned (.int .i64 (numE nl nt nf loops k n)) ∧ w.grownBy w' none := by
  have hcases : k = 12 ∨ (k = 2 ∨ k = 13) ∨ (k = 14 ∨ k = 15) ∨ k = 25 ∨ k = 26 ∨ (k = 7 ∨ k = 8) ∨ k = 19 ∨ k = 20 ∨ k = 21 ∨
    (k = 1 ∨ k = 3 ∨ k = 4 ∨ k = 5 ∨ k = 6 ∨ k = 9 ∨ k = 10 ∨ k = 11 ∨ k = 16 ∨ k = 17 ∨ k = 18 ∨ k = 22 ∨ k = 23 ∨ k = 24) := by omega
  rcases hcases with h | h | h | h | h | h | h | h | h | h
  · subst h; exact number_num n kc Bc w
  · refine calls_eq ?_ (number_local k n kc h Bc bf of nl cl pl w hC.lt hC.ltf hC.c2 hC.f2)
    unfold numE; rw [if_neg (by omega), if_pos h]
  · refine calls_eq ?_ (number_text k n kc h Bc nt ct pt w hC.lt hC.c0)
    unfold numE; rw [if_neg (by omega), if_neg (by omega), if_pos h]
  · subst h; exact number_call n kc Bc nf cf pf w hC.lt hC.c1
  · subst h; exact number_sys n kc Bc w
  · refine calls_eq ?_ (number_jump k n kc loops h Bc w hC.lt hC.c4)
    unfold numE; rw [if_neg (by omega), if_neg (by omega), if_neg (by omega), if_neg (by omega), if_neg (by omega), if_pos h]
  · subst h; exact number_one n kc Bc w
  · subst h; exact number_two n kc Bc w
  · subst h; exact number_turn n kc Bc w
  · refine calls_eq ?_ (number_none k n kc h Bc w)
    unfold numE; rw [if_neg (by omega), if_neg (by omega), if_neg (by omega), if_neg (by omega), if_neg (by omega), if_neg (by omega), if_neg (by omega), if_neg (by omega), if_neg (by omega)]

/-- What kids answers; args: how many arguments the called function takes. -/
def kidsE (args : Int) (k n kc : Int) : Int :=
  if k = 1 then (if 0 ≤ kc then 0 else 171) else if k = 25 then (if kc = args then 0 else 174) else if k = 26 then (if kc = sysTakes n.toNat then 0 else 174) else
  if k = 5 then (if 2 ≤ kc ∧ kc ≤ 3 then 0 else 171) else
  if k = 2 ∨ k = 9 ∨ k = 10 ∨ k = 11 ∨ k = 17 ∨ k = 18 ∨ k = 19 ∨ k = 22 then (if kc = 1 then 0 else 171) else
  if k = 3 ∨ k = 4 ∨ k = 6 ∨ k = 20 ∨ k = 21 ∨ k = 23 ∨ k = 24 then (if kc = 2 then 0 else 171) else (if kc = 0 then 0 else 171)

theorem kids_any (k n kc args : Int) (hk : 1 ≤ k ∧ k < 27) (Bc nf cf : Nat) (pf : Option Addr) (w : World) (hlt : Bc < w.heap.size) (h1 : w.cell? ⟨Bc, 1, none⟩ = some (.slice pf nf cf))
    (hF : k = 25 → ∃ bF oF : Nat, pf = some ⟨bF, oF, none⟩ ∧ bF < w.heap.size ∧ 0 ≤ n ∧ n.toNat < nf ∧ nf ≤ 1000000 ∧ w.cell? ⟨bF, oF + n.toNat * 4 + 1, none⟩ = some (.int .i64 args))
    (hS : k = 26 → 0 ≤ n ∧ n < 5) :
    Calls Try.prog 115 #[.pointer (some ⟨Bc, 0, none⟩), .agg #[.int .i64 k, .int .i64 n, .int .i64 kc]] w fun e w' => e = .returned (.int .i64 (kidsE args k n kc)) ∧ w.grownBy w' none := by
  have hcases : k = 1 ∨ k = 25 ∨ k = 26 ∨ k = 5 ∨ (k = 2 ∨ k = 9 ∨ k = 10 ∨ k = 11 ∨ k = 17 ∨ k = 18 ∨ k = 19 ∨ k = 22) ∨ (k = 3 ∨ k = 4 ∨ k = 6 ∨ k = 20 ∨ k = 21 ∨ k = 23 ∨ k = 24) ∨ (k = 7 ∨ k = 8 ∨ k = 12 ∨ k = 13 ∨ k = 14 ∨ k = 15 ∨ k = 16) := by omega
  rcases hcases with h | h | h | h | h | h | h
  · subst h; exact kids_k1 n kc Bc w
  · obtain ⟨bF, oF, rfl, hb, h0, hn, hnf, ha⟩ := hF h
    subst h
    have e : ((n.toNat : Nat) : Int) = n := Int.toNat_of_nonneg h0
    have := kids_k25 n.toNat kc args Bc bF oF nf cf hn hnf w hlt hb h1 ha
    rw [e] at this
    exact this
  · obtain ⟨h0, h5⟩ := hS h
    subst h
    have e : ((n.toNat : Nat) : Int) = n := Int.toNat_of_nonneg h0
    have := kids_k26 n.toNat (by omega) kc Bc w
    rw [e] at this
    exact this
  · subst h; exact kids_k5 n kc Bc w
  · rcases h with rfl | rfl | rfl | rfl | rfl | rfl | rfl | rfl
    · exact kids_k2 n kc Bc w
    · exact kids_k9 n kc Bc w
    · exact kids_k10 n kc Bc w
    · exact kids_k11 n kc Bc w
    · exact kids_k17 n kc Bc w
    · exact kids_k18 n kc Bc w
    · exact kids_k19 n kc Bc w
    · exact kids_k22 n kc Bc w
  · rcases h with rfl | rfl | rfl | rfl | rfl | rfl | rfl
    · exact kids_k3 n kc Bc w
    · exact kids_k4 n kc Bc w
    · exact kids_k6 n kc Bc w
    · exact kids_k20 n kc Bc w
    · exact kids_k21 n kc Bc w
    · exact kids_k23 n kc Bc w
    · exact kids_k24 n kc Bc w
  · rcases h with rfl | rfl | rfl | rfl | rfl | rfl | rfl
    · exact kids_k7 n kc Bc w
    · exact kids_k8 n kc Bc w
    · exact kids_k12 n kc Bc w
    · exact kids_k13 n kc Bc w
    · exact kids_k14 n kc Bc w
    · exact kids_k15 n kc Bc w
    · exact kids_k16 n kc Bc w

end Go.Proofs.Ytecaolkbllbokaa.TG
