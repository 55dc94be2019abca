import Derived.Test.YtecaolkbllbokaaMT00
import Derived.Laws.ResultCell
import Derived.Maps.Own
import Derived.Maps.OwnOps
import Derived.Maps.OwnSet
import Derived.StringKeys
import Derived.Lib.Hide
import Derived.Carry
set_option linter.unusedSimpArgs false
set_option linter.unusedVariables false
set_option maxRecDepth 100000
set_option maxHeartbeats 16000000
namespace Go.Proofs.Ytecaolkbllbokaa.TG
open Go.RowKit Go.Great
theorem Yud (n kc : Int) (Bc : Nat) (w : World) :
 Calls Try.prog 115 #[.pointer (some ⟨Bc, 0, none⟩), .agg #[.int .i64 3, .int .i64 n, .int .i64 kc]] w fun e w' => e = .returned (.int .i64 (if kc = 2 then 0 else 171)) /\ w.grownBy w' none := by
 by_cases h : kc = 2
 · rw [if_pos h]
   subst h
   go_enter Try.func115, Try.ntmps115
   go_wp2
   go_ret
   exact ⟨rfl, Ga _ _ _⟩
 · rw [if_neg h]
   go_enter Try.func115, Try.ntmps115
   go_wp2
   go_ret
   exact ⟨rfl, Ga _ _ _⟩
theorem Yuc (n kc : Int) (Bc : Nat) (w : World) :
 Calls Try.prog 115 #[.pointer (some ⟨Bc, 0, none⟩), .agg #[.int .i64 4, .int .i64 n, .int .i64 kc]] w fun e w' => e = .returned (.int .i64 (if kc = 2 then 0 else 171)) /\ w.grownBy w' none := by
 by_cases h : kc = 2
 · rw [if_pos h]
   subst h
   go_enter Try.func115, Try.ntmps115
   go_wp2
   go_ret
   exact ⟨rfl, Ga _ _ _⟩
 · rw [if_neg h]
   go_enter Try.func115, Try.ntmps115
   go_wp2
   go_ret
   exact ⟨rfl, Ga _ _ _⟩
theorem Yua (n kc : Int) (Bc : Nat) (w : World) :
 Calls Try.prog 115 #[.pointer (some ⟨Bc, 0, none⟩), .agg #[.int .i64 6, .int .i64 n, .int .i64 kc]] w fun e w' => e = .returned (.int .i64 (if kc = 2 then 0 else 171)) /\ w.grownBy w' none := by
 by_cases h : kc = 2
 · rw [if_pos h]
   subst h
   go_enter Try.func115, Try.ntmps115
   go_wp2
   go_ret
   exact ⟨rfl, Ga _ _ _⟩
 · rw [if_neg h]
   go_enter Try.func115, Try.ntmps115
   go_wp2
   go_ret
   exact ⟨rfl, Ga _ _ _⟩
theorem Ynj (n kc : Int) (Bc : Nat) (w : World) :
 Calls Try.prog 115 #[.pointer (some ⟨Bc, 0, none⟩), .agg #[.int .i64 20, .int .i64 n, .int .i64 kc]] w fun e w' => e = .returned (.int .i64 (if kc = 2 then 0 else 171)) /\ w.grownBy w' none := by
 by_cases h : kc = 2
 · rw [if_pos h]
   subst h
   go_enter Try.func115, Try.ntmps115
   go_wp2
   go_ret
   exact ⟨rfl, Ga _ _ _⟩
 · rw [if_neg h]
   go_enter Try.func115, Try.ntmps115
   go_wp2
   go_ret
   exact ⟨rfl, Ga _ _ _⟩
theorem Yni (n kc : Int) (Bc : Nat) (w : World) :
 Calls Try.prog 115 #[.pointer (some ⟨Bc, 0, none⟩), .agg #[.int .i64 21, .int .i64 n, .int .i64 kc]] w fun e w' => e = .returned (.int .i64 (if kc = 2 then 0 else 171)) /\ w.grownBy w' none := by
 by_cases h : kc = 2
 · rw [if_pos h]
   subst h
   go_enter Try.func115, Try.ntmps115
   go_wp2
   go_ret
   exact ⟨rfl, Ga _ _ _⟩
 · rw [if_neg h]
   go_enter Try.func115, Try.ntmps115
   go_wp2
   go_ret
   exact ⟨rfl, Ga _ _ _⟩
theorem Yng (n kc : Int) (Bc : Nat) (w : World) :
 Calls Try.prog 115 #[.pointer (some ⟨Bc, 0, none⟩), .agg #[.int .i64 23, .int .i64 n, .int .i64 kc]] w fun e w' => e = .returned (.int .i64 (if kc = 2 then 0 else 171)) /\ w.grownBy w' none := by
 by_cases h : kc = 2
 · rw [if_pos h]
   subst h
   go_enter Try.func115, Try.ntmps115
   go_wp2
   go_ret
   exact ⟨rfl, Ga _ _ _⟩
 · rw [if_neg h]
   go_enter Try.func115, Try.ntmps115
   go_wp2
   go_ret
   exact ⟨rfl, Ga _ _ _⟩
theorem Ynf (n kc : Int) (Bc : Nat) (w : World) :
 Calls Try.prog 115 #[.pointer (some ⟨Bc, 0, none⟩), .agg #[.int .i64 24, .int .i64 n, .int .i64 kc]] w fun e w' => e = .returned (.int .i64 (if kc = 2 then 0 else 171)) /\ w.grownBy w' none := by
 by_cases h : kc = 2
 · rw [if_pos h]
   subst h
   go_enter Try.func115, Try.ntmps115
   go_wp2
   go_ret
   exact ⟨rfl, Ga _ _ _⟩
 · rw [if_neg h]
   go_enter Try.func115, Try.ntmps115
   go_wp2
   go_ret
   exact ⟨rfl, Ga _ _ _⟩
theorem Ytz (n kc : Int) (Bc : Nat) (w : World) :
 Calls Try.prog 115 #[.pointer (some ⟨Bc, 0, none⟩), .agg #[.int .i64 7, .int .i64 n, .int .i64 kc]] w fun e w' => e = .returned (.int .i64 (if kc = 0 then 0 else 171)) /\ w.grownBy w' none := by
 by_cases h : kc = 0
 · rw [if_pos h]
   subst h
   go_enter Try.func115, Try.ntmps115
   go_wp2
   go_ret
   exact ⟨rfl, Ga _ _ _⟩
 · rw [if_neg h]
   go_enter Try.func115, Try.ntmps115
   go_wp2
   go_ret
   exact ⟨rfl, Ga _ _ _⟩
theorem Yty (n kc : Int) (Bc : Nat) (w : World) :
 Calls Try.prog 115 #[.pointer (some ⟨Bc, 0, none⟩), .agg #[.int .i64 8, .int .i64 n, .int .i64 kc]] w fun e w' => e = .returned (.int .i64 (if kc = 0 then 0 else 171)) /\ w.grownBy w' none := by
 by_cases h : kc = 0
 · rw [if_pos h]
   subst h
   go_enter Try.func115, Try.ntmps115
   go_wp2
   go_ret
   exact ⟨rfl, Ga _ _ _⟩
 · rw [if_neg h]
   go_enter Try.func115, Try.ntmps115
   go_wp2
   go_ret
   exact ⟨rfl, Ga _ _ _⟩
theorem Ynr (n kc : Int) (Bc : Nat) (w : World) :
 Calls Try.prog 115 #[.pointer (some ⟨Bc, 0, none⟩), .agg #[.int .i64 12, .int .i64 n, .int .i64 kc]] w fun e w' => e = .returned (.int .i64 (if kc = 0 then 0 else 171)) /\ w.grownBy w' none := by
 by_cases h : kc = 0
 · rw [if_pos h]
   subst h
   go_enter Try.func115, Try.ntmps115
   go_wp2
   go_ret
   exact ⟨rfl, Ga _ _ _⟩
 · rw [if_neg h]
   go_enter Try.func115, Try.ntmps115
   go_wp2
   go_ret
   exact ⟨rfl, Ga _ _ _⟩
theorem Ynq (n kc : Int) (Bc : Nat) (w : World) :
 Calls Try.prog 115 #[.pointer (some ⟨Bc, 0, none⟩), .agg #[.int .i64 13, .int .i64 n, .int .i64 kc]] w fun e w' => e = .returned (.int .i64 (if kc = 0 then 0 else 171)) /\ w.grownBy w' none := by
 by_cases h : kc = 0
 · rw [if_pos h]
   subst h
   go_enter Try.func115, Try.ntmps115
   go_wp2
   go_ret
   exact ⟨rfl, Ga _ _ _⟩
 · rw [if_neg h]
   go_enter Try.func115, Try.ntmps115
   go_wp2
   go_ret
   exact ⟨rfl, Ga _ _ _⟩
theorem Ynp (n kc : Int) (Bc : Nat) (w : World) :
 Calls Try.prog 115 #[.pointer (some ⟨Bc, 0, none⟩), .agg #[.int .i64 14, .int .i64 n, .int .i64 kc]] w fun e w' => e = .returned (.int .i64 (if kc = 0 then 0 else 171)) /\ w.grownBy w' none := by
 by_cases h : kc = 0
 · rw [if_pos h]
   subst h
   go_enter Try.func115, Try.ntmps115
   go_wp2
   go_ret
   exact ⟨rfl, Ga _ _ _⟩
 · rw [if_neg h]
   go_enter Try.func115, Try.ntmps115
   go_wp2
   go_ret
   exact ⟨rfl, Ga _ _ _⟩
theorem Yno (n kc : Int) (Bc : Nat) (w : World) :
 Calls Try.prog 115 #[.pointer (some ⟨Bc, 0, none⟩), .agg #[.int .i64 15, .int .i64 n, .int .i64 kc]] w fun e w' => e = .returned (.int .i64 (if kc = 0 then 0 else 171)) /\ w.grownBy w' none := by
 by_cases h : kc = 0
 · rw [if_pos h]
   subst h
   go_enter Try.func115, Try.ntmps115
   go_wp2
   go_ret
   exact ⟨rfl, Ga _ _ _⟩
 · rw [if_neg h]
   go_enter Try.func115, Try.ntmps115
   go_wp2
   go_ret
   exact ⟨rfl, Ga _ _ _⟩
theorem Ynn (n kc : Int) (Bc : Nat) (w : World) :
 Calls Try.prog 115 #[.pointer (some ⟨Bc, 0, none⟩), .agg #[.int .i64 16, .int .i64 n, .int .i64 kc]] w fun e w' => e = .returned (.int .i64 (if kc = 0 then 0 else 171)) /\ w.grownBy w' none := by
 by_cases h : kc = 0
 · rw [if_pos h]
   subst h
   go_enter Try.func115, Try.ntmps115
   go_wp2
   go_ret
   exact ⟨rfl, Ga _ _ _⟩
 · rw [if_neg h]
   go_enter Try.func115, Try.ntmps115
   go_wp2
   go_ret
   exact ⟨rfl, Ga _ _ _⟩
def Zwq : ByteArray := ⟨#[111, 112, 101, 110]⟩
def Yfw : ByteArray := ⟨#[114, 101, 97, 100]⟩
def Ztl : ByteArray := ⟨#[119, 114, 105, 116, 101]⟩
def Yfx : ByteArray := ⟨#[108, 105, 115, 116]⟩
def Ztm : ByteArray := ⟨#[99, 108, 111, 115, 101]⟩
def Yt : Array Value := #[.string Zwq, .int .i64 0, .int .i64 3, .int .i64 1, .string Yfw, .int .i64 0, .int .i64 3, .int .i64 1, .string Ztl, .int .i64 0, .int .i64 3, .int .i64 1,
 .string Yfx, .int .i64 0, .int .i64 4, .int .i64 1, .string Ztm, .int .i64 0, .int .i64 1, .int .i64 1]
theorem Zjq (w : World) : Calls Try.prog 142 #[] w fun e w' => e = .returned (.slice (some ⟨w.heap.size, 0, none⟩) 5 5) /\ w' = w.alloc (.cells Yt 165) := by
 go_enter Try.func142, Try.ntmps142
 go_wp2_with (refine wpList_buildSliceTo rfl 162 165 5 _ rfl w.heap.size rfl (some 6) rfl Try.underlying162 Yt (by kernel_rfl) ?_)
 go_ret
 exact ⟨rfl, rfl⟩
theorem Ysi (n : Nat) (hn : n < 5) (b : Nat) (x : ByteArray) (y t u : Int) (w : World) (hb : b < w.heap.size) (h0 : w.cell? ⟨b, n * 4, none⟩ = some (.string x)) (h1 : w.cell? ⟨b, n * 4 + 1, none⟩ = some (.int .i64 y)) (h2 : w.cell? ⟨b, n * 4 + 2, none⟩ = some (.int .i64 t)) (h3 : w.cell? ⟨b, n * 4 + 3, none⟩ = some (.int .i64 u)) :
 Calls Try.prog 91 #[.slice (some ⟨b, 0, none⟩) 5 5, .int .i64 n] w fun e w' => e = .returned (.tuple #[.agg #[.string x, .int .i64 y, .int .i64 t, .int .i64 u], .bool true]) /\ w' = w.alloc (.cells #[.string x, .int .i64 y, .int .i64 t, .int .i64 u] 165) := by
 rcases (by omega : n = 0 \/ n = 1 \/ n = 2 \/ n = 3 \/ n = 4) with rfl | rfl | rfl | rfl | rfl
 all_goals
  simp only [Nat.reduceMul, Nat.reduceAdd, Nat.zero_mul, Nat.zero_add] at h0 h1 h2 h3
  go_enter Try.func91, Try.ntmps91
  go_wp2
  (try simp only [Exit.inBlock, Exit.then])
  refine bodyPost_ret (v := .tuple #[.agg #[.string x, .int .i64 y, .int .i64 t, .int .i64 u], .bool true]) ?_ rfl ⟨rfl, ?_⟩
  · rw [results_cell_tmp rfl]
    go_simp
  · rfl
theorem Zbk (w : World) (g : Nat) (hg : g = w.heap.size) (i : Nat) (v : Value) (h : Yt[i]? = some v) : (w.alloc (.cells Yt 165)).cell? ⟨g, i, none⟩ = some v := by
 subst hg
 rw [World.cell?_alloc_at (hn := rfl)]
 exact h
def Zdl (n : Nat) : ByteArray := [Zwq, Yfw, Ztl, Yfx, Ztm].getD n Zwq
def Yy (n : Nat) : Int := [3, 3, 3, 4, 1].getD n 0
theorem Zqo (n : Nat) (hn : n < 5) (w : World) :
 Calls Try.prog 128 #[.int .i64 n] w fun e w' => e = .returned (.tuple #[.agg #[.string (Zdl n), .int .i64 0, .int .i64 (Yy n), .int .i64 1], .bool true]) /\ w.grownBy w' none := by
 have C := Hq Zjq
 have R := Hq (fun w2 hb h0 h1 h2 h3 => Ysi n hn (w.heap.size + 1) (Zdl n) 0 (Yy n) 1 w2 hb h0 h1 h2 h3)
 have K := Hq (Zbk)
 have T0 : Yt[n * 4]? = some (.string (Zdl n)) := by rcases (by omega : n = 0 \/ n = 1 \/ n = 2 \/ n = 3 \/ n = 4) with rfl | rfl | rfl | rfl | rfl <;> rfl
 have T1 : Yt[n * 4 + 1]? = some (.int .i64 0) := by rcases (by omega : n = 0 \/ n = 1 \/ n = 2 \/ n = 3 \/ n = 4) with rfl | rfl | rfl | rfl | rfl <;> rfl
 have T2 : Yt[n * 4 + 2]? = some (.int .i64 (Yy n)) := by rcases (by omega : n = 0 \/ n = 1 \/ n = 2 \/ n = 3 \/ n = 4) with rfl | rfl | rfl | rfl | rfl <;> rfl
 have T3 : Yt[n * 4 + 3]? = some (.int .i64 1) := by rcases (by omega : n = 0 \/ n = 1 \/ n = 2 \/ n = 3 \/ n = 4) with rfl | rfl | rfl | rfl | rfl <;> rfl
 have HT := Hq (And.intro T0 (And.intro T1 (And.intro T2 T3)))
 clear T0 T1 T2 T3
 generalize Zdl n = nm at *
 generalize Yy n = tk at *
 go_enter Try.func128, Try.ntmps128
 go_wp2_with (first
  | (go_at_call 142; refine (C.out _).mono ?_; rintro e w1 ⟨rfl, rfl⟩)
  | (go_at_call 91; refine (R.out _ (by simp) ((K.out _ _ (by simp) _ _ HT.out.1)) (K.out _ _ (by simp) _ _ HT.out.2.1) (K.out _ _ (by simp) _ _ HT.out.2.2.1) (K.out _ _ (by simp) _ _ HT.out.2.2.2)).mono ?_; rintro e w2 ⟨rfl, rfl⟩))
 (try simp only [Exit.inBlock, Exit.then])
 refine bodyPost_ret (v := .tuple #[.agg #[.string nm, .int .i64 0, .int .i64 tk, .int .i64 1], .bool true]) ?_ rfl ⟨rfl, ?_⟩
 · rw [results_cell_tmp rfl]
   go_simp
 · exact Za (Za (Ga _ _ _) (Ga _ _ _)) (Ga _ _ _)
theorem Zws (n : Int) (hn : n < 0 \/ 5 <= n) (b : Nat) (w : World) (hb : b < w.heap.size) :
 Calls Try.prog 91 #[.slice (some ⟨b, 0, none⟩) 5 5, .int .i64 n] w fun e w' => e = .returned (.tuple #[.agg #[.string ⟨#[]⟩, .int .i64 0, .int .i64 0, .int .i64 0], .bool false]) /\ w' = w.alloc (.cells #[.string ⟨#[]⟩, .int .i64 0, .int .i64 0, .int .i64 0] 165) := by
 rcases hn with hn | hn
 · go_enter Try.func91, Try.ntmps91
   go_wp2
   (try simp only [Exit.inBlock, Exit.then])
   refine bodyPost_ret (v := .tuple #[.agg #[.string ⟨#[]⟩, .int .i64 0, .int .i64 0, .int .i64 0], .bool false]) ?_ rfl ⟨rfl, ?_⟩
   · rw [results_cell_tmp rfl]
     go_simp
   · rfl
 · have hn0 : ¬ n < 0 := by omega
   go_enter Try.func91, Try.ntmps91
   go_wp2
   (try simp only [Exit.inBlock, Exit.then])
   refine bodyPost_ret (v := .tuple #[.agg #[.string ⟨#[]⟩, .int .i64 0, .int .i64 0, .int .i64 0], .bool false]) ?_ rfl ⟨rfl, ?_⟩
   · rw [results_cell_tmp rfl]
     go_simp
   · rfl
theorem Yrx (n : Int) (hn : n < 0 \/ 5 <= n) (w : World) :
 Calls Try.prog 128 #[.int .i64 n] w fun e w' => e = .returned (.tuple #[.agg #[.string ⟨#[]⟩, .int .i64 0, .int .i64 0, .int .i64 0], .bool false]) /\ w.grownBy w' none := by
 have C := Hq Zjq
 have R := Hq (fun w2 hb => Zws n hn (w.heap.size + 1) w2 hb)
 clear hn
 go_enter Try.func128, Try.ntmps128
 go_wp2_with (first
  | (go_at_call 142; refine (C.out _).mono ?_; rintro e w1 ⟨rfl, rfl⟩)
  | (go_at_call 91; refine (R.out _ (by simp)).mono ?_; rintro e w2 ⟨rfl, rfl⟩))
 (try simp only [Exit.inBlock, Exit.then])
 refine bodyPost_ret (v := .tuple #[.agg #[.string ⟨#[]⟩, .int .i64 0, .int .i64 0, .int .i64 0], .bool false]) ?_ rfl ⟨rfl, ?_⟩
 · rw [results_cell_tmp rfl]
   go_simp
 · exact Za (Za (Ga _ _ _) (Ga _ _ _)) (Ga _ _ _)
open Go.Maps Go.ChangeShapes Go.ChangeMaps Go.WideMaps
theorem law : Keyed Try.prog 9 := string_keyed Try.underlying9
theorem Yvx (w : World) : (zeroValue 3).run Try.prog w = .ok (.int .i64 0) w := by kernel_rfl
def Zbt (w : World) (b : Nat) (ns : List ByteArray) : Prop := ∃ (n : Nat) (D : DataW Unit), w.ownsMap Try.prog 9 (plainElem Try.prog 3) b n D /\ n <= ns.length /\ IsMap D /\
 ∀ s : ByteArray, has D (.string s.data.toList) = Zkt ns s
theorem Zed (w : World) : Zbt (w.alloc (.map #[] 0)) w.heap.size [] :=
 ⟨0, .map [], World.ownsMap_made _ _ _ _, Nat.le_refl _, ⟨[], rfl⟩, fun s => rfl⟩
theorem Jx {w w' : World} {b : Nat} {ns : List ByteArray} {r : Option Nat} (h : Zbt w b ns) (hg : w.grownBy w' r) (hr : some b ≠ r) : Zbt w' b ns := by
 obtain ⟨n, D, h1, h2, h3, h4⟩ := h
 exact ⟨n, D, h1.kept hg hr, h2, h3, h4⟩
def Zak (ns : List ByteArray) (s : ByteArray) : Int := if Zkl s = false then 171 else if Zkt ns s = true then 172 else 0
theorem Zxi (w' : World) (b n : Nat) (D : DataW Unit) (ns : List ByteArray) (s : ByteArray) (d : DataW Unit) (h : w'.ownsMap Try.prog 9 (plainElem Try.prog 3) b (n + 1) (D.put (.string s.data.toList) d)) (hn : n <= ns.length)
 (hm : IsMap D) (hh : ∀ s : ByteArray, has D (.string s.data.toList) = Zkt ns s) : Zbt w' b (s :: ns) := by
 refine ⟨n + 1, _, h, by simp; omega, ?_, fun u => ?_⟩
 · obtain ⟨es, rfl⟩ := hm; exact ⟨_, rfl⟩
 · by_cases hu : u.data.toList = s.data.toList
   · rw [hu, has_put_same hm (by trivial)]
     have hs : (u.toList == s.toList) = true := by rw [ByteArray.toList_eq, ByteArray.toList_eq, hu]; simp
     unfold Zkt; simp only [List.any_cons, hs, Bool.true_or]
   · rw [has_put_other (by intro h; injection h with h; exact hu h), hh u]
     have hs : (u.toList == s.toList) = false := by
      rw [beq_eq_false_iff_ne, ByteArray.toList_eq, ByteArray.toList_eq]; exact hu
     unfold Zkt; simp only [List.any_cons, hs, Bool.false_or]
theorem WF (D : DataW Unit) (n : Nat) (w : World) {b : Nat} {R : Value -> Option (DataW Unit × List MemPlace)} (h : w.ownsMap Try.prog 9 R b n D) (hn : n < 1000000) : (Lit.int .i64 (Maps.size D : Int)).wf = true := by
 have hs : Maps.size D <= n := h.size_le
 have e1 : IntKind.i64.min = -9223372036854775808 := by decide
 have e2 : IntKind.i64.max = 9223372036854775807 := by decide
 simp only [Lit.wf, e1, e2, Bool.and_eq_true, decide_eq_true_eq]
 omega
theorem Znx (b : Nat) (ns : List ByteArray) (s : ByteArray) (w : World) (hN : Zbt w b ns) (hlen : ns.length < 1000000) (hs : s.size <= maxLen) :
 Calls Try.prog 33 #[.map (some b), .string s] w fun e w' => e = .returned (.int .i64 (Zak ns s)) /\ w.grownBy w' (some b) /\ (Zak ns s = 0 -> Zbt w' b (s :: ns)) := by
 have hnm := Ymb s
 have HM := Hq hnm
 clear hnm
 unfold Zak
 cases h1 : Zkl s with
 | false =>
   rw [h1] at HM
   rw [if_pos rfl]
   go_enter Try.func33, Try.ntmps33
   go_wp2_with (go_at_call 53; refine (HM.out _).mono ?_; rintro e w' ⟨rfl, hg⟩)
   go_ret
   exact ⟨rfl, ⟨hg.os, hg.tape, hg.output, hg.size, fun k hk _ => hg.block k hk (by simp)⟩, fun h => absurd h (by decide)⟩
 | true =>
   rw [h1] at HM
   rw [if_neg (by decide)]
   obtain ⟨n, D, ho, hn, hm, hh⟩ := hN
   have hkey := keyOf_string_mk Try.underlying9 hs
   cases h2 : Zkt ns s with
   | true =>
     have hb : has D (.string s.data.toList) = true := by rw [hh, h2]
     have HB := Hq hb
     have HO := Hq ho
     have HK := Hq hkey
     clear hb ho hkey hh hm
     rw [if_pos rfl]
     go_enter Try.func33, Try.ntmps33
     go_wp2_with fail
     refine (HM.out _).mono ?_
     rintro e w1 ⟨rfl, hg⟩
     have HG := Hq hg
     clear hg
     go_wp2_with (at_lookup; refine wpList_lookup_own_ok_int _ rfl _ _ 89 rfl 9 3 .i64 law Try.underlying89 Try.underlying3 (Yvx _) b n D rfl (HO.out.kept HG.out (by simp)) _ _ rfl HK.out ?_; intro c hat hwc; clear hat hwc; rw [HB.out])
     go_ret
     exact ⟨rfl, ⟨HG.out.os, HG.out.tape, HG.out.output, HG.out.size, fun k hk _ => HG.out.block k hk (by simp)⟩, fun h => absurd h (by decide)⟩
   | false =>
     have hb : has D (.string s.data.toList) = false := by rw [hh, h2]
     have HB := Hq hb
     have HO := Hq ho
     have HK := Hq hkey
     have HP := Hq (fun w' d h => Zxi w' b n D ns s d h hn hm hh)
     clear hb ho hkey hh hm
     rw [if_neg (by decide)]
     go_enter Try.func33, Try.ntmps33
     go_wp2_with fail
     refine (HM.out _).mono ?_
     rintro e w1 ⟨rfl, hg⟩
     have HG := Hq hg
     clear hg
     go_wp2_with (first
      | (at_lookup; refine wpList_lookup_own_ok_int _ rfl _ _ 89 rfl 9 3 .i64 law Try.underlying89 Try.underlying3 (Yvx _) b n D rfl (HO.out.kept HG.out (by simp)) _ _ rfl HK.out ?_; intro c hat hwc; clear hat hwc; rw [HB.out])
      | (at_len; refine wpList_len_own _ rfl _ 89 rfl 9 3 Try.underlying89 _ b n D rfl (HO.out.kept HG.out (by simp)) ?_)
      | (at_mapUpdate; refine wpList_mapUpdate_own _ rfl _ _ _ 89 rfl 9 3 law Try.underlying89 _ b n D rfl (HO.out.kept HG.out (by simp)) (by unfold maxLen; omega) _ _ _ rfl rfl HK.out _ [] (plainElem_int Try.underlying3 (WF D n w1 (HO.out.kept HG.out (by simp)) (by omega))) ?_; intro w2 hown2 hgrow2; have H2 := Hq hown2; have G2 := Hq hgrow2; clear hown2 hgrow2))
     go_ret
     exact ⟨rfl, Za ⟨HG.out.os, HG.out.tape, HG.out.output, HG.out.size, fun k hk _ => HG.out.block k hk (by simp)⟩ G2.out, fun _ => HP.out _ _ H2.out⟩
def Xcn (w : World) (v : Value) (l : List ByteArray) : Prop := ∃ (p : Option Addr) (cap : Nat), v = .slice p l.length cap /\
 (0 < l.length -> ∃ b off : Nat, p = some ⟨b, off, none⟩ /\ b < w.heap.size /\ ∀ i (h : i < l.length), w.cell? ⟨b, off + i, none⟩ = some (.string l[i]))
def Zaj (seen : List ByteArray) : List ByteArray -> Int
 | [] => 0
 | s :: r => if Zak seen s = 0 then Zaj (s :: seen) r else Zak seen s
theorem Znd (seen : List ByteArray) (s : ByteArray) (r : List ByteArray) : Zaj seen (s :: r) = if Zak seen s = 0 then Zaj (s :: seen) r else Zak seen s := rfl
theorem Znc (seen l : List ByteArray) (k : Nat) (hk : k < l.length) (h : Zak ((l.take k).reverse ++ seen) l[k] = 0) :
 Zaj ((l.take k).reverse ++ seen) (l.drop k) = Zaj ((l.take (k + 1)).reverse ++ seen) (l.drop (k + 1)) := by
 rw [List.drop_eq_getElem_cons hk, Znd, if_pos h, List.take_succ_eq_append_getElem hk, List.reverse_append]; rfl
theorem Znb (seen l : List ByteArray) (k : Nat) (hk : k < l.length) (h : Zak ((l.take k).reverse ++ seen) l[k] ≠ 0) :
 Zaj ((l.take k).reverse ++ seen) (l.drop k) = Zak ((l.take k).reverse ++ seen) l[k] := by
 rw [List.drop_eq_getElem_cons hk, Znd, if_neg h]
def Zid (ns : List ByteArray) (name : ByteArray) (args : Int) (locals : List ByteArray) : Int :=
 if 64 < locals.length \/ 16 < args then 2 else if args < 0 \/ (locals.length : Int) < args then 171
 else if Zak ns name = 0 then Zaj [] locals else Zak ns name
theorem Jc {w w1 w2 : World} {r : Option Nat} {b : Nat} (h : w.grownBy w1 r) (g : w1.grownBy w2 (some b)) (hb : w.heap.size <= b) : w.grownBy w2 r :=
 ⟨g.os.trans h.os, g.tape.trans h.tape, g.output.trans h.output, Nat.le_trans h.size g.size, fun k hk hr => (g.block k (Nat.lt_of_lt_of_le hk h.size) (by intro e; injection e with e; omega)).trans (h.block k hk hr)⟩
theorem Zfg {w w1 : World} {o : Obj} {r : Option Nat} (h : (w.alloc o).grownBy w1 r) : w.heap.size < w1.heap.size := by
 have := h.size; rw [World.size_alloc] at this; omega
theorem Ycs {w : World} {b b' o : Nat} {ns : List ByteArray} {v : Value} (h : Zbt w b ns) (hc : w.cell? ⟨b', o, none⟩ = some v) : b' ≠ b := by
 obtain ⟨n, D, ⟨es, clock, hb, _⟩, _⟩ := h
 intro e; subst e
 simp [World.cell?, hb] at hc
theorem Ydp {w w1 wr : World} {o1 o2 : Obj} {b b' o : Nat} {v : Value} (hc : w.cell? ⟨b', o, none⟩ = some v) (hg : (w.alloc o1).grownBy w1 (some b)) (hne : b' ≠ b) (hr : (w1.alloc o2).grownBy wr (some w1.heap.size)) :
 wr.cell? ⟨b', o, none⟩ = some v := by
 have h0 := World.block_lt_of_cell? _ _ hc
 have h1 := hg.size
 rw [World.size_alloc] at h1
 have h2 : w.heap.size < w1.heap.size := by omega
 refine hr.cell (a := ⟨b', o, none⟩) ?_ (by intro e; injection e with e; simp at h0 e; omega)
 rw [World.cell?_alloc_past _ _ _ (show b' < w1.heap.size by simp at h0; omega)]
 refine hg.cell (a := ⟨b', o, none⟩) ?_ (by intro e; injection e with e; exact hne e)
 rw [World.cell?_alloc_past _ _ _ (show b' < w.heap.size from h0)]; exact hc
theorem Zkk {w : World} {b : Nat} {ns : List ByteArray} (h : Zbt w b ns) : b < w.heap.size := by
 obtain ⟨n, D, h1, _⟩ := h; exact h1.lt
def Ypo (w : World) (b : Nat) (ns : List ByteArray) (s : ByteArray) (v : Int) (e : Ending) (w' : World) : Prop :=
 e = .returned (.int .i64 v) /\ w.grownBy w' (some b) /\ (v = 0 -> Zbt w' b (s :: ns))
theorem Yoc (b : Nat) (ns : List ByteArray) (name : ByteArray) (args : Int) (lv pv : Value) (locals : List ByteArray) (w : World) (hN : Zbt w b ns) (hlen : ns.length < 1000000)
 (hs : name.size <= maxLen) (hl : Xcn w lv locals) (hls : ∀ i (h : i < locals.length), locals[i].size <= maxLen) (hL : locals.length <= maxLen) :
 Calls Try.prog 34 #[.map (some b), .agg #[.string name, .int .i64 args, lv, pv]] w (Ypo w b ns name (Zid ns name args locals)) := by
 obtain ⟨p, cap, rfl, hel⟩ := hl
 unfold Zid
 have hLb : locals.length <= 9223372036854775807 := by unfold maxLen at hL; omega
 by_cases c1 : 64 < locals.length
 · rw [if_pos (Or.inl c1)]
   clear hel hls hs hlen hN hL
   go_enter Try.func34, Try.ntmps34
   go_wp2
   go_ret
   exact ⟨rfl, Ga _ _ _, fun h => absurd h (by decide)⟩
 by_cases c2 : 16 < args
 · rw [if_pos (Or.inr c2)]
   clear hel hls hs hlen hN hL
   go_enter Try.func34, Try.ntmps34
   go_wp2
   go_ret
   exact ⟨rfl, Ga _ _ _, fun h => absurd h (by decide)⟩
 rw [if_neg (by omega)]
 by_cases c3 : args < 0
 · rw [if_pos (Or.inl c3)]
   clear hel hls hs hlen hN hL
   go_enter Try.func34, Try.ntmps34
   go_wp2
   go_ret
   exact ⟨rfl, Ga _ _ _, fun h => absurd h (by decide)⟩
 by_cases c4 : (locals.length : Int) < args
 · rw [if_pos (Or.inr c4)]
   clear hel hls hs hlen hN hL
   go_enter Try.func34, Try.ntmps34
   go_wp2
   go_ret
   exact ⟨rfl, Ga _ _ _, fun h => absurd h (by decide)⟩
 rw [if_neg (by omega)]
 have hb := Zkk hN
 have F := Hq (Znx b ns name (w.alloc (.cells #[.string name, .int .i64 args, .slice p locals.length cap, pv] 69)) (Jx hN (Ga _ _ none) (by simp)) hlen hs)
 by_cases c5 : Zak ns name = 0
 · rw [if_pos c5]
   have C5 := Hq c5
   have HS := Hq hls
   have hmm := @run_makeMap Try.prog
   clear hls hs hlen c5
   rcases Nat.eq_zero_or_pos locals.length with h0 | h0
   · clear hel
     have H0 := Hq h0
     clear h0
     go_enter Try.func34, Try.ntmps34
     go_wp2_with (go_at_call 33; refine F.out.mono ?_; rintro e w1 ⟨rfl, hg, hn⟩; have HG := Hq hg; have HN := Hq (hn C5.out); have k2 := hg.cell (a := ⟨w.heap.size, 2, none⟩) (v := .slice p locals.length cap) (by simp) (by simp; omega); have hz := Zfg hg; clear hg hn; rw [C5.out])
     go_loopw [43] (fun i wr => ∃ k : Nat, k <= locals.length /\ i = .int .i64 k /\ Zbt wr w1.heap.size ((locals.take k).reverse ++ []) /\ (w1.alloc (.map #[] 0)).grownBy wr (some w1.heap.size) /\ Zaj [] locals = Zaj ((locals.take k).reverse ++ []) (locals.drop k)) (fun i _ => locals.length - (intOf i).toNat)
     case atStart => exact ⟨0, Nat.zero_le _, rfl, Zed w1, Ze _ _, rfl⟩
     case round =>
      obtain ⟨k, hk, rfl, hset, hgr, hnm⟩ := hrel
      have HR := Hq hgr
      have HM := Hq hnm
      have HT := Hq hset
      clear hgr hnm hset
      by_cases hlt : k < locals.length
      · exact absurd hlt (by have := H0.out; omega)
      · have hkk : k = locals.length := by omega
        have hfin : Zaj [] locals = 0 := by rw [HM.out, hkk, List.drop_length]; rfl
        have HF := Hq hfin
        clear hfin
        subst hkk
        go_wp2
        go_ret
        exact ⟨Xf HF.out.symm, Jc (Za (Ga _ _ _) (Za HG.out (Ga _ _ _))) HR.out (by have := hz; omega), fun _ => Jx (Jx HN.out (Ga _ _ none) (by simp)) HR.out (by have := Zkk HN.out; intro e; injection e with e; omega)⟩
   · obtain ⟨b', off, rfl, hb', hcell⟩ := hel h0
     have HC := Hq hcell
     have HNE := Hq (fun k (h : k < locals.length) => Ycs hN (hcell k h))
     clear hcell hel
     go_enter Try.func34, Try.ntmps34
     go_wp2_with (go_at_call 33; refine F.out.mono ?_; rintro e w1 ⟨rfl, hg, hn⟩; have HG := Hq hg; have HN := Hq (hn C5.out); have k2 := hg.cell (a := ⟨w.heap.size, 2, none⟩) (v := .slice (some ⟨b', off, none⟩) locals.length cap) (by simp) (by simp; omega); have hz := Zfg hg; clear hg hn; rw [C5.out])
     go_loopw [43] (fun i wr => ∃ k : Nat, k <= locals.length /\ i = .int .i64 k /\ Zbt wr w1.heap.size ((locals.take k).reverse ++ []) /\ (w1.alloc (.map #[] 0)).grownBy wr (some w1.heap.size) /\ Zaj [] locals = Zaj ((locals.take k).reverse ++ []) (locals.drop k)) (fun i _ => locals.length - (intOf i).toNat)
     case atStart => exact ⟨0, Nat.zero_le _, rfl, Zed w1, Ze _ _, rfl⟩
     case round =>
      obtain ⟨k, hk, rfl, hset, hgr, hnm⟩ := hrel
      have HR := Hq hgr
      have HM := Hq hnm
      have HT := Hq hset
      clear hgr hnm hset
      by_cases hlt : k < locals.length
      · have g := Ydp (HC.out k hlt) HG.out (HNE.out k hlt) HR.out
        have F2 := Hq (Znx w1.heap.size ((locals.take k).reverse ++ []) locals[k] wr HT.out (by simp; omega) (HS.out k hlt))
        by_cases c6 : Zak ((locals.take k).reverse ++ []) locals[k] = 0
        · have HM2 := Hq (HM.out.trans (Znc [] locals k hlt c6))
          have C6 := Hq c6
          clear c6
          generalize hs : locals[k] = sk at *
          have HSK := Hq hs
          clear hs
          go_wp2_with (go_at_call 33; refine F2.out.mono ?_; rintro e w3 ⟨rfl, hg3, hn3⟩; have HG3 := Hq hg3; have HN3 := Hq (hn3 C6.out); clear hg3 hn3; rw [C6.out])
          go_roundw
          case rel => exact ⟨k + 1, by omega, by go_num, by rw [List.take_succ_eq_append_getElem hlt, List.reverse_append, HSK.out]; exact HN3.out, Za HR.out HG3.out, HM2.out⟩
          case measure => simp [intOf]; omega
        · have g6 : (Zak ((locals.take k).reverse ++ []) locals[k] != 0) = true := by simpa using c6
          have HM2 := Hq (HM.out.trans (Znb [] locals k hlt c6))
          have C6 := Hq c6
          clear c6
          generalize hs : locals[k] = sk at *
          generalize Zak ((locals.take k).reverse ++ []) sk = v at *
          have HSK := Hq hs
          clear hs
          go_wp2_with (go_at_call 33; refine F2.out.mono ?_; rintro e w3 ⟨rfl, hg3, hn3⟩; have HG3 := Hq hg3; clear hg3 hn3)
          go_ret
          exact ⟨Xf HM2.out.symm, Jc (Za (Ga _ _ _) (Za HG.out (Ga _ _ _))) (Za HR.out HG3.out) (by have := hz; omega), fun h => absurd (HM2.out ▸ h) C6.out⟩
      · have hkk : k = locals.length := by omega
        have hfin : Zaj [] locals = 0 := by rw [HM.out, hkk, List.drop_length]; rfl
        have HF := Hq hfin
        clear hfin
        subst hkk
        go_wp2
        go_ret
        exact ⟨Xf HF.out.symm, Jc (Za (Ga _ _ _) (Za HG.out (Ga _ _ _))) HR.out (by have := hz; omega), fun _ => Jx (Jx HN.out (Ga _ _ none) (by simp)) HR.out (by have := Zkk HN.out; intro e; injection e with e; omega)⟩
 · rw [if_neg c5]
   have g5 : (Zak ns name != 0) = true := by simpa using c5
   have C5 := Hq c5
   clear c5 hel hls hs hlen hL hN
   generalize Zak ns name = v at *
   go_enter Try.func34, Try.ntmps34
   go_wp2_with (go_at_call 33; refine F.out.mono ?_; rintro e w1 ⟨rfl, hg, hn⟩; have HG := Hq hg; clear hg hn)
   go_ret
   exact ⟨rfl, Za (Ga _ _ _) HG.out, fun h => absurd h C5.out⟩
theorem Yuf (n kc : Int) (Bc : Nat) (w : World) :
 Calls Try.prog 115 #[.pointer (some ⟨Bc, 0, none⟩), .agg #[.int .i64 1, .int .i64 n, .int .i64 kc]] w fun e w' => e = .returned (.int .i64 (if 0 <= kc then 0 else 171)) /\ w.grownBy w' none := by
 by_cases h : 0 <= kc
 · rw [if_pos h]
   have hm : max kc 0 = kc := by omega
   have hb : (kc != kc) = false := by simp
   go_enter Try.func115, Try.ntmps115
   go_wp2
   all_goals first
    | (exfalso; simp [hm] at *; done)
    | (go_ret; exact ⟨rfl, Ga _ _ _⟩)
 · rw [if_neg h]
   have hm : max kc 0 = 0 := by omega
   have hb : (kc != 0) = true := by simp; omega
   go_enter Try.func115, Try.ntmps115
   go_wp2
   all_goals first
    | (exfalso; simp [hm] at *; omega)
    | (go_ret; exact ⟨rfl, Ga _ _ _⟩)
theorem Yub (n kc : Int) (Bc : Nat) (w : World) :
 Calls Try.prog 115 #[.pointer (some ⟨Bc, 0, none⟩), .agg #[.int .i64 5, .int .i64 n, .int .i64 kc]] w fun e w' => e = .returned (.int .i64 (if 2 <= kc /\ kc <= 3 then 0 else 171)) /\ w.grownBy w' none := by
 by_cases h : 2 <= kc /\ kc <= 3
 · rw [if_pos h]
   have hm : min (max kc 2) 3 = kc := by omega
   have hb : (kc != kc) = false := by simp
   go_enter Try.func115, Try.ntmps115
   go_wp2
   all_goals first
    | (exfalso; simp [hm] at *; done)
    | (go_ret; exact ⟨rfl, Ga _ _ _⟩)
 · rw [if_neg h]
   have hb : (kc != min (max kc 2) 3) = true := by simp; omega
   generalize hm : min (max kc 2) 3 = m at *
   go_enter Try.func115, Try.ntmps115
   go_wp2
   all_goals first
    | (exfalso; simp [hm] at *; omega)
    | (go_ret; exact ⟨rfl, Ga _ _ _⟩)
theorem Ynd (n : Nat) (hn : n < 5) (kc : Int) (Bc : Nat) (w : World) :
 Calls Try.prog 115 #[.pointer (some ⟨Bc, 0, none⟩), .agg #[.int .i64 26, .int .i64 n, .int .i64 kc]] w fun e w' => e = .returned (.int .i64 (if kc = Yy n then 0 else 174)) /\ w.grownBy w' none := by
 have S := Hq (Zqo n hn)
 clear hn
 generalize Zdl n = nm at *
 generalize Yy n = tk at *
 by_cases h : kc = tk
 · rw [if_pos h]
   subst h
   go_enter Try.func115, Try.ntmps115
   go_wp2_with (go_at_call 128; refine (S.out _).mono ?_; rintro e w1 ⟨rfl, hg⟩; have HG := Hq hg; have z0 := hg.cell (a := ⟨w.heap.size, 0, none⟩) (v := .int .i64 26) (by simp) (by simp); have z2 := hg.cell (a := ⟨w.heap.size, 2, none⟩) (v := .int .i64 kc) (by simp) (by simp); have hz := Zfg hg; clear hg)
   go_ret
   exact ⟨rfl, Za (Za (Ga _ _ _) HG.out) (Ga _ _ _)⟩
 · rw [if_neg h]
   have hb : (kc != tk) = true := by simpa using h
   go_enter Try.func115, Try.ntmps115
   go_wp2_with (go_at_call 128; refine (S.out _).mono ?_; rintro e w1 ⟨rfl, hg⟩; have HG := Hq hg; have z0 := hg.cell (a := ⟨w.heap.size, 0, none⟩) (v := .int .i64 26) (by simp) (by simp); have z2 := hg.cell (a := ⟨w.heap.size, 2, none⟩) (v := .int .i64 kc) (by simp) (by simp); have hz := Zfg hg; clear hg)
   go_ret
   exact ⟨rfl, Za (Za (Ga _ _ _) HG.out) (Ga _ _ _)⟩
def Jz (k : Int) : Int := if k = 1 then 0 else if k < 12 then 1 else 2
def Zdr (kind i : Int) : Int := if kind = 1 then 1 else if (kind = 5 \/ kind = 6) /\ 0 < i then 0 else 2
theorem Zur (k : Int) (w : World) : Calls Try.prog 113 #[.int .i64 k] w fun e w' => e = .returned (.int .i64 (Jz k)) /\ w = w' := by
 unfold Jz
 by_cases h1 : k = 1
 · subst h1
   rw [if_pos rfl]
   go_enter Try.func113, Try.ntmps113
   go_wp2
   go_ret
   exact ⟨rfl, rfl⟩
 · rw [if_neg h1]
   have e1 : (k == 1) = false := beq_eq_false_iff_ne.2 h1
   clear h1
   by_cases h2 : k < 12
   · rw [if_pos h2]
     go_enter Try.func113, Try.ntmps113
     go_wp2
     go_ret
     exact ⟨rfl, rfl⟩
   · rw [if_neg h2]
     go_enter Try.func113, Try.ntmps113
     go_wp2
     go_ret
     exact ⟨rfl, rfl⟩
theorem Yug (k n c i : Int) (w : World) : Calls Try.prog 86 #[.agg #[.int .i64 k, .int .i64 n, .int .i64 c], .int .i64 i] w fun e w' => e = .returned (.int .i64 (Zdr k i)) /\ w.grownBy w' none := by
 unfold Zdr
 by_cases h1 : k = 1
 · subst h1
   rw [if_pos rfl]
   go_enter Try.func86, Try.ntmps86
   go_wp2
   go_ret
   exact ⟨rfl, Ga _ _ _⟩
 rw [if_neg h1]
 have e1 : (k == 1) = false := beq_eq_false_iff_ne.2 h1
 clear h1
 by_cases h5 : k = 5
 · subst h5
   by_cases hi : 0 < i
   · rw [if_pos ⟨Or.inl rfl, hi⟩]
     go_enter Try.func86, Try.ntmps86
     go_wp2
     go_ret
     exact ⟨rfl, Ga _ _ _⟩
   · rw [if_neg (fun h => hi h.2)]
     go_enter Try.func86, Try.ntmps86
     go_wp2
     go_ret
     exact ⟨rfl, Ga _ _ _⟩
 by_cases h6 : k = 6
 · subst h6
   by_cases hi : 0 < i
   · rw [if_pos ⟨Or.inr rfl, hi⟩]
     go_enter Try.func86, Try.ntmps86
     go_wp2
     go_ret
     exact ⟨rfl, Ga _ _ _⟩
   · rw [if_neg (fun h => hi h.2)]
     go_enter Try.func86, Try.ntmps86
     go_wp2
     go_ret
     exact ⟨rfl, Ga _ _ _⟩
 rw [if_neg (fun h => h.1.elim h5 h6)]
 have e5 : (k == 5) = false := beq_eq_false_iff_ne.2 h5
 have e6 : (k == 6) = false := beq_eq_false_iff_ne.2 h6
 clear h5 h6
 go_enter Try.func86, Try.ntmps86
 go_wp2
 go_ret
 exact ⟨rfl, Ga _ _ _⟩
end Go.Proofs.Ytecaolkbllbokaa.TG
