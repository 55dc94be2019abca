import Derived.Test.YtecaolkbllbokaaProg
import Derived.WalkKit
import Derived.WalkLawsBesides
import Derived.RowKit3
import Derived.Deep.Draws
import Derived.Lib.Hide
import Derived.Great.BuildSlice
import Derived.Great.Walk
import Derived.Outline
import Derived.Maps.AppendAt
import Derived.Laws.OwnMore
import Derived.OwnWalk
import Derived.Laws.ResultCell
import Derived.Laws.EntriesVeiled
import Derived.StillTailTactics
import Derived.Test.YtecaolkbllbokaaMTSq
set_option linter.unusedSimpArgs false
set_option linter.unusedVariables false
set_option maxRecDepth 100000
set_option maxHeartbeats 16000000
namespace Go.Proofs.Ytecaolkbllbokaa.CK
open Go.RowKit Go.Great
theorem Xf {k : IntKind} {a b : Int} (h : a = b) : Ending.returned (.int k a) = .returned (.int k b) := by rw [h]
theorem Ze (w : World) (r : Option Nat) : w.grownBy w r := ⟨rfl, rfl, rfl, Nat.le_refl _, fun _ _ _ => rfl⟩
theorem Za {a b c : World} {r : Option Nat} (h : a.grownBy b r) (g : b.grownBy c r) : a.grownBy c r :=
 ⟨g.os.trans h.os, g.tape.trans h.tape, g.output.trans h.output, Nat.le_trans h.size g.size, fun k hk hr => (g.block k (Nat.lt_of_lt_of_le hk h.size) hr).trans (h.block k hk hr)⟩
theorem Zd (w : World) (b o : Nat) (v : Value) : w.grownBy (w.setCell ⟨b, o, none⟩ v) (some b) := ⟨rfl, rfl, rfl, by simp, fun k hk hr => heap_setCell_other w _ k v (by intro e; exact hr (by rw [e]))⟩
theorem Zf {w w' : World} {row : Option Nat} (h : w.grownBy w' row) : w.grownBy w'.drew row := ⟨h.os, h.tape, h.output, h.size, h.block⟩
theorem Xh (w : World) (n : Nat) (row : Option Nat) : w.grownBy (w.drewN n) row := ⟨rfl, rfl, rfl, by simp, fun k hk _ => by simp⟩
theorem Xj {w w' : World} {row : Option Nat} (h : w.grownBy w' row) (n : Nat) : w.grownBy (w'.drewN n) row := Za h (Xh w' n row)
theorem Jh {w w' : World} {r : Option Nat} (h : w.grownBy w' none) : w.grownBy w' r := ⟨h.os, h.tape, h.output, h.size, fun k hk _ => h.block k hk (by simp)⟩
theorem Zga {w : World} {base : Nat} {e : TypeId} {size n : Nat} {v : Value} {xs : List Value} {b : Nat} (h : w.ownsRow base e size v n xs) (hb : b < base) : v.ownBlock = none \/ v.ownBlock ≠ some b := by
 cases hv : v.ownBlock with
 | none => left; rfl
 | some k => right; have := (h.lt k hv).1; intro e; injection e with e; omega
theorem Zan {w : World} {base : Nat} {e : TypeId} {size n : Nat} {v : Value} {xs : List Value} {b : Nat} (h : w.ownsRow base e size v n xs) (hb : b < base) : v.ownBlock ≠ some b := by
 rcases Zga h hb with h1 | h1
 · rw [h1]; simp
 · exact h1
theorem Zc {w w' : World} {b : Nat} {o : Obj} {row : Option Nat} (h : w.heap[b]? = some o) (g : w.grownBy w' row) (hr : row ≠ some b) : w'.heap[b]? = some o := by
 rw [g.block b (Gs h) (fun e => hr e.symm)]; exact h
theorem Zao (w : World) (x : Value) (t : TypeId) : ∀ j u, [x][j]? = some u -> (w.alloc (.cells #[x] t)).cell? ((⟨w.heap.size, 0, none⟩ : Addr).add j) = some u := by
 intro j u hj
 match j, hj with
 | 0, hj => simp at hj; subst hj; simp [Addr.add]
theorem Zae (k : IntKind) (x : Int) : ∀ u ∈ [Value.int k x], u.oneCell' = true := by intro u hu; simp at hu; subst hu; rfl
theorem Zjy (w : World) (x y : Value) (t : TypeId) : ∀ j u, [x, y][j]? = some u -> (w.alloc (.cells #[x, y] t)).cell? ((⟨w.heap.size, 0, none⟩ : Addr).add j) = some u := by
 intro j u hj
 match j, hj with
 | 0, hj => simp at hj; subst hj; simp [Addr.add]
 | 1, hj => simp at hj; subst hj; simp [Addr.add]
theorem Zqm (k : IntKind) (x y : Int) : ∀ u ∈ [Value.int k x, Value.int k y], u.oneCell' = true := by
 intro u hu; simp at hu; rcases hu with rfl | rfl <;> rfl
structure Sp (P : Nat -> Prop) (w w' : World) : Prop where
 os : w'.os = w.os
 tape : w'.tape = w.tape
 output : w'.output = w.output
 size : w.heap.size <= w'.heap.size
 block : ∀ k, k < w.heap.size -> ¬ P k -> w'.heap[k]? = w.heap[k]?
theorem Zim (P : Nat -> Prop) (w : World) : Sp P w w := ⟨rfl, rfl, rfl, Nat.le_refl _, fun _ _ _ => rfl⟩
theorem Zr {P Q : Nat -> Prop} {w w1 w2 : World} (h : Sp P w w1) (g : Sp Q w1 w2) (hq : ∀ k, k < w.heap.size -> Q k -> P k) : Sp P w w2 :=
 ⟨g.os.trans h.os, g.tape.trans h.tape, g.output.trans h.output, Nat.le_trans h.size g.size, fun k hk hp => (g.block k (Nat.lt_of_lt_of_le hk h.size) (fun hQ => hp (hq k hk hQ))).trans (h.block k hk hp)⟩
theorem Zaq {P Q : Nat -> Prop} {w w1 : World} (h : Sp P w w1) (hq : ∀ k, k < w.heap.size -> P k -> Q k) : Sp Q w w1 :=
 ⟨h.os, h.tape, h.output, h.size, fun k hk hp => h.block k hk (fun hQ => hp (hq k hk hQ))⟩
theorem Zl {P : Nat -> Prop} {w w1 : World} {r : Option Nat} (h : w.grownBy w1 r) (hr : ∀ k, k < w.heap.size -> r = some k -> P k) : Sp P w w1 :=
 ⟨h.os, h.tape, h.output, h.size, fun k hk hp => h.block k hk (fun e => hp (hr k hk e.symm))⟩
theorem Zdm {P : Nat -> Prop} {w w1 : World} (h : Sp P w w1) (hp : ∀ k, k < w.heap.size -> ¬ P k) : w.grownBy w1 none :=
 ⟨h.os, h.tape, h.output, h.size, fun k hk _ => h.block k hk (hp k hk)⟩
theorem Ye {w w' : World} {k : Nat} (h : w'.heap[k]? = w.heap[k]?) (o : Nat) : w'.cell? ⟨k, o, none⟩ = w.cell? ⟨k, o, none⟩ := by
 unfold World.cell?; rw [h]
theorem Xm {P : Nat -> Prop} {w w' : World} {b o : Nat} {v : Value} (h : w.cell? ⟨b, o, none⟩ = some v) (g : Sp P w w') (hp : ¬ P b) : w'.cell? ⟨b, o, none⟩ = some v := by
 rw [Ye (g.block b (World.block_lt_of_cell? _ _ h) hp)]; exact h
theorem Yz {P : Nat -> Prop} {w w' : World} {base : Nat} {e : TypeId} {size n : Nat} {v : Value} {xs : List Value} (h : w.ownsRow base e size v n xs) (g : Sp P w w') (hp : ∀ k, v.ownBlock = some k -> ¬ P k) : w'.ownsRow base e size v n xs := by
 obtain ⟨h1, h2⟩ := h
 refine ⟨h1, ?_⟩
 rcases h2 with h2 | ⟨g0, cap, cur, rfl, hb, hg, rest⟩
 · exact .inl h2
 · exact .inr ⟨g0, cap, cur, rfl, hb, by rw [g.block g0 (Gs hg) (hp g0 rfl)]; exact hg, rest⟩
theorem Yk {w : World} {base : Nat} {e : TypeId} {size n : Nat} {v : Value} {xs : List Value} (h : w.ownsRow base e size v (n + 1) xs) : ∃ g cap, v = .slice (some ⟨g, 0, none⟩) (n + 1) cap := by
 rcases h.2 with ⟨_, h0⟩ | ⟨g, cap, cur, hv, _⟩
 · omega
 · exact ⟨g, cap, hv⟩
theorem Jw {w : World} {base : Nat} {e : TypeId} {size n : Nat} {v : Value} {xs : List Value} {b o : Nat} {u : Value} (h : w.ownsRow base e size v n xs) (hb : b < base) : (w.setCell ⟨b, o, none⟩ u).ownsRow base e size v n xs :=
 h.kept (Zd w b o u) (Zga h hb)
theorem Zbo {w : World} {base : Nat} {e e' : TypeId} {size size' n n' : Nat} {v v' : Value} {xs xs' : List Value} (h : w.ownsRow base e size v n xs) (h' : w.ownsRow base e' size' v' n' xs') (hne : e ≠ e') : v.ownBlock = none \/ v.ownBlock ≠ v'.ownBlock := by
 rcases h.2 with ⟨rfl, _⟩ | ⟨g, cap, cur, rfl, _, hg, _⟩
 · left; rfl
 · right
   rcases h'.2 with ⟨rfl, _⟩ | ⟨g', cap', cur', rfl, _, hg', _⟩
   · simp [Value.ownBlock]
   · simp only [Value.ownBlock]
     intro heq
     injection heq with heq
     rw [heq] at hg
     rw [hg] at hg'
     injection hg' with hx
     injection hx with _ hx2 _
     exact hne hx2
theorem Ya {w : World} {base : Nat} {e e' : TypeId} {size size' n n' : Nat} {v v' : Value} {xs xs' : List Value} (h : w.ownsRow base e size v n xs) (h' : w.ownsRow base e' size' v' n' xs') (hne : e ≠ e') {k : Nat} (hk : v.ownBlock = some k) : v'.ownBlock ≠ some k := by
 rcases Zbo h h' hne with h1 | h1
 · rw [h1] at hk; cases hk
 · rw [hk] at h1; exact fun e => h1 e.symm
theorem Yr {w : World} {base base' : Nat} {e : TypeId} {size n : Nat} {v : Value} {xs : List Value} (h : w.ownsRow base e size v n xs) (hb : base' <= base) : w.ownsRow base' e size v n xs := by
 refine ⟨h.1, ?_⟩
 rcases h.2 with h | ⟨g, cap, cur, e1, e2, e3⟩
 · exact Or.inl h
 · exact Or.inr ⟨g, cap, cur, e1, Nat.le_trans hb e2, e3⟩
theorem Zm {w : World} {base : Nat} {e : TypeId} {size n : Nat} {v : Value} {xs : List Value} (h : w.ownsRow base e size v n xs) : ∃ (p : Option Addr) (cap : Nat), v = .slice p n cap := by
 rcases h.2 with ⟨rfl, rfl⟩ | ⟨g, cap, cur, hv, _⟩
 · exact ⟨_, _, rfl⟩
 · exact ⟨_, _, hv⟩
theorem Xa {w : World} {base : Nat} {e : TypeId} {size n : Nat} {v : Value} {xs : List Value} (h : w.ownsRow base e size v n xs) (h0 : 0 < n) : ∃ g cap, v = .slice (some ⟨g, 0, none⟩) n cap /\ g < w.heap.size /\ ∀ j x, xs[j]? = some x -> j < n * size -> w.cell? ⟨g, j, none⟩ = some x := by
 obtain ⟨m, rfl⟩ : ∃ m, n = m + 1 := ⟨n - 1, by omega⟩
 obtain ⟨g, cap, rfl⟩ := Yk h
 exact ⟨g, cap, rfl, (h.lt g rfl).2, fun j x hx hj => by rw [h.cellAt _ (by omega)]; exact hx⟩
theorem Zki {w : World} {base : Nat} {e : TypeId} {size n g cap : Nat} {xs : List Value} (h : w.ownsRow base e size (.slice (some ⟨g, 0, none⟩) n cap) n xs) : n <= cap /\ cap <= 9223372036854775807 := by
 rcases h.2 with ⟨h1, _⟩ | ⟨g', cap', cur, hv, _, _, hn, hm, _⟩
 · cases h1
 · injection hv with _ _ e3; subst e3; unfold maxLen at hm; exact ⟨hn, hm⟩
theorem Zfj {w : World} {base : Nat} {e : TypeId} {size n k g cap : Nat} {xs : List Value} (h : w.ownsRow base e size (.slice (some ⟨g, 0, none⟩) n cap) n xs) (hk : k <= n) : w.ownsRow base e size (.slice (some ⟨g, 0, none⟩) k cap) k (xs.take (k * size)) := by
 obtain ⟨h1, h2⟩ := h
 rcases h2 with ⟨h2, _⟩ | ⟨g0, cap0, cur, e0, hb, hg, hn, hm, hs, ht⟩
 · cases h2
 · injection e0 with e1 e2 e3
   subst e3
   injection e1 with e1; injection e1 with e1 _ _; subst e1
   have hkn : k * size <= n * size := Nat.mul_le_mul_right _ hk
   refine ⟨by rw [List.length_take, h1]; omega, .inr ⟨g, cap, cur, rfl, hb, hg, by omega, hm, hs, ?_⟩⟩
   rw [<- ht, List.take_take]
   congr 1; omega
theorem Jp (w : World) (o o' : Obj) : ((w.alloc o).alloc o').heap[w.heap.size + 1]? = some o' := by
 have h := heap_alloc_new (w.alloc o) o'
 rw [World.size_alloc] at h; exact h
theorem Jc {w w1 w2 : World} {r : Option Nat} {b : Nat} (h : w.grownBy w1 r) (g : w1.grownBy w2 (some b)) (hb : w.heap.size <= b) : w.grownBy w2 r :=
 ⟨g.os.trans h.os, g.tape.trans h.tape, g.output.trans h.output, Nat.le_trans h.size g.size, fun k hk hr => (g.block k (Nat.lt_of_lt_of_le hk h.size) (by intro e; injection e with e; omega)).trans (h.block k hk hr)⟩
theorem Zct (w : World) (o o' : Obj) : ((w.alloc o).alloc o').heap[w.heap.size]? = some o := Zc (heap_alloc_new w o) (Ga _ o' none) (by simp)
theorem Zce (w : World) (o1 o2 o3 : Obj) : (((w.alloc o1).alloc o2).alloc o3).heap[w.heap.size]? = some o1 /\ (((w.alloc o1).alloc o2).alloc o3).heap[w.heap.size + 1]? = some o2 /\ (((w.alloc o1).alloc o2).alloc o3).heap[w.heap.size + 1 + 1]? = some o3 := by
 refine ⟨Zc (Zct w o1 o2) (Ga _ o3 none) (by simp), Zc (Jp w o1 o2) (Ga _ o3 none) (by simp), ?_⟩
 have h := Jp (w.alloc o1) o2 o3
 rw [World.size_alloc] at h; exact h
theorem Zcf (w : World) (o1 o2 o3 : Obj) : w.grownBy (((w.alloc o1).alloc o2).alloc o3) none := Za (Ga _ _ _) (Za (Ga _ _ _) (Ga _ _ _))
theorem Zfh {E : Nat} {w : World} (h : E <= w.heap.size) (o : Obj) : E <= (w.alloc o).heap.size := by simp; omega
theorem Zgr (p : Option Addr) (n k : Nat) : ∀ u ∈ [Value.slice p n k], u.oneCell' = true := by intro u hu; simp at hu; subst hu; rfl
def Xi : List (Int × Int) -> List Value
 | [] => []
 | x :: r => .int .i64 x.1 :: .int .i64 x.2 :: Xi r
theorem Zgz (a b : List (Int × Int)) : Xi (a ++ b) = Xi a ++ Xi b := by
 induction a with
 | nil => rfl
 | cons x r ih => simp [Xi, ih]
theorem Zds : ∀ (l : List (Int × Int)) (i : Nat) (a b : Int), l[i]? = some (a, b) -> (Xi l)[i * 2]? = some (.int .i64 a) /\ (Xi l)[i * 2 + 1]? = some (.int .i64 b)
 | [], i, a, b, h => by simp at h
 | x :: r, 0, a, b, h => by simp at h; subst h; simp [Xi]
 | x :: r, i + 1, a, b, h => by
   obtain ⟨h1, h2⟩ := Zds r i a b (by simpa using h)
   have e : (i + 1) * 2 = i * 2 + 1 + 1 := by omega
   rw [e]
   simp only [Xi]
   exact ⟨by simpa using h1, by simpa using h2⟩
theorem Zx {w w' : World} {row : Option Nat} {B b o : Nat} {v : Value} (g : w.grownBy w' row) (hr : ∀ r, row = some r -> B <= r) (hb : b < B) (h : w.cell? ⟨b, o, none⟩ = some v) : w'.cell? ⟨b, o, none⟩ = some v :=
 g.cell h (by intro e; have := hr b e.symm; omega)
theorem Zh {w : World} {b o : Nat} {cs : Array Value} {t : TypeId} {v : Value} (h : w.heap[b]? = some (.cells cs t (0, 0))) : (w.setCell ⟨b, o, none⟩ v).heap[b]? = some (.cells (cs.setIfInBounds o v) t (0, 0)) := heap_setCell_same w b o cs t v h
theorem Jk {w : World} {b : Nat} {t : TypeId} {size g n c m : Nat} {xs : List Value} (h : w.ownsRow b t size (.slice (some ⟨g, 0, none⟩) n c) m xs) : ∀ j, w.frozen? ⟨g, j, none⟩ = false := fun j => by
 rcases h.2 with ⟨e2, _⟩ | ⟨g2, cap2, cur2, e2, _, hgg, _⟩
 · cases e2
 · injection e2 with d1 d2 d3
   injection d1 with d1; injection d1 with d1
   subst d1
   exact frozen_of_row w _ _ _ _ hgg
theorem Zbb {w0 w w' : World} {r : Option Nat} (h : w0.grownBy w none) (g : w.grownBy w' r) (hb : ∀ k, r = some k -> w0.heap.size <= k) : w0.grownBy w' none :=
 ⟨g.os.trans h.os, g.tape.trans h.tape, g.output.trans h.output, Nat.le_trans h.size g.size, fun k hk _ => (g.block k (Nat.lt_of_lt_of_le hk h.size) (by intro e; have := hb k e.symm; omega)).trans (h.block k hk (by simp))⟩
theorem Zad {fn : Func} {p : Tmp} {ty : TypeId} (h : fn.results = #[.cell p ty]) (tmps : Array Value) (P : Program) (w : World) :
 (results fn tmps).run P w = ((asAddr (tmps.getD p undef)).run P w).andThen fun a w₁ => (loadVar ty a).run P w₁ := by
 simp only [results, h]
 simp [Sem.run_bind, Result.andThen]
theorem Zz {w0 w : World} {b o : Nat} {v : Value} (h : w0.grownBy w none) (hb : w0.heap.size <= b) : w0.grownBy (w.setCell ⟨b, o, none⟩ v) none :=
 Zbb h (Zd w b o v) fun k hk => by injection hk with hk; omega
theorem Zcd : Try.prog.underlying 47 = some (.slice 3) := by kernel_rfl
theorem Zaz : (Try.prog.info? 3).map (fun i => (i.zero, i.size, i.bytes)) = some (some (.int .i64 0), 1, 8) := by kernel_rfl
theorem Zeg : Try.prog.underlying 29 = some (.slice 5) := by kernel_rfl
theorem Zhc : (Try.prog.info? 5).map (fun i => (i.zero, i.size, i.bytes)) = some (some (.int .u8 0), 1, 1) := by kernel_rfl
def shapeT : List (ByteArray × Int × Int × Int) := [
 (⟨#[110, 111, 112]⟩, 0, 0, 0),
 (⟨#[104, 97, 108, 116]⟩, 0, 1, 0),
 (⟨#[97, 98, 111, 114, 116]⟩, 0, 1, 0),
 (⟨#[110, 117, 109]⟩, 1, 0, 1),
 (⟨#[112, 111, 112]⟩, 0, 1, 0),
 (⟨#[99, 111, 112, 121]⟩, 6, 0, 1),
 (⟨#[115, 119, 97, 112]⟩, 0, 2, 2),
 (⟨#[103, 101, 116]⟩, 2, 0, 1),
 (⟨#[115, 101, 116]⟩, 2, 1, 0),
 (⟨#[108, 111, 97, 100]⟩, 0, 1, 1),
 (⟨#[115, 116, 111, 114, 101]⟩, 0, 2, 0),
 (⟨#[108, 111, 97, 100, 56]⟩, 0, 1, 1),
 (⟨#[115, 116, 111, 114, 101, 56]⟩, 0, 2, 0),
 (⟨#[115, 105, 122, 101]⟩, 0, 0, 1),
 (⟨#[106, 117, 109, 112]⟩, 3, 0, 0),
 (⟨#[122, 101, 114, 111]⟩, 3, 1, 0),
 (⟨#[110, 111, 116, 122, 101, 114, 111]⟩, 3, 1, 0),
 (⟨#[99, 97, 108, 108]⟩, 4, (-1), (-1)),
 (⟨#[114, 101, 116]⟩, 0, (-1), 0),
 (⟨#[115, 121, 115]⟩, 5, (-1), 1),
 (⟨#[97, 100, 100]⟩, 0, 2, 1),
 (⟨#[115, 117, 98]⟩, 0, 2, 1),
 (⟨#[109, 117, 108]⟩, 0, 2, 1),
 (⟨#[100, 105, 118]⟩, 0, 2, 1),
 (⟨#[114, 101, 109]⟩, 0, 2, 1),
 (⟨#[97, 110, 100]⟩, 0, 2, 1),
 (⟨#[111, 114]⟩, 0, 2, 1),
 (⟨#[120, 111, 114]⟩, 0, 2, 1),
 (⟨#[115, 104, 108]⟩, 0, 2, 1),
 (⟨#[115, 104, 114]⟩, 0, 2, 1),
 (⟨#[117, 115, 104, 114]⟩, 0, 2, 1),
 (⟨#[101, 113]⟩, 0, 2, 1),
 (⟨#[108, 116]⟩, 0, 2, 1),
 (⟨#[117, 108, 116]⟩, 0, 2, 1),
 (⟨#[110, 101, 103]⟩, 0, 1, 1),
 (⟨#[110, 111, 116]⟩, 0, 1, 1),
 (⟨#[102, 97, 100, 100]⟩, 0, 2, 1),
 (⟨#[102, 115, 117, 98]⟩, 0, 2, 1),
 (⟨#[102, 109, 117, 108]⟩, 0, 2, 1),
 (⟨#[102, 100, 105, 118]⟩, 0, 2, 1),
 (⟨#[102, 101, 113]⟩, 0, 2, 1),
 (⟨#[102, 108, 116]⟩, 0, 2, 1),
 (⟨#[102, 110, 101, 103]⟩, 0, 1, 1),
 (⟨#[102, 114, 111, 111, 116]⟩, 0, 1, 1),
 (⟨#[116, 111, 102]⟩, 0, 1, 1),
 (⟨#[116, 111, 105]⟩, 0, 1, 1)]
def Zkd : Array Value := #[
 .string ⟨#[110, 111, 112]⟩, .int .i64 0, .int .i64 0, .int .i64 0,
 .string ⟨#[104, 97, 108, 116]⟩, .int .i64 0, .int .i64 1, .int .i64 0,
 .string ⟨#[97, 98, 111, 114, 116]⟩, .int .i64 0, .int .i64 1, .int .i64 0,
 .string ⟨#[110, 117, 109]⟩, .int .i64 1, .int .i64 0, .int .i64 1,
 .string ⟨#[112, 111, 112]⟩, .int .i64 0, .int .i64 1, .int .i64 0,
 .string ⟨#[99, 111, 112, 121]⟩, .int .i64 6, .int .i64 0, .int .i64 1,
 .string ⟨#[115, 119, 97, 112]⟩, .int .i64 0, .int .i64 2, .int .i64 2,
 .string ⟨#[103, 101, 116]⟩, .int .i64 2, .int .i64 0, .int .i64 1,
 .string ⟨#[115, 101, 116]⟩, .int .i64 2, .int .i64 1, .int .i64 0,
 .string ⟨#[108, 111, 97, 100]⟩, .int .i64 0, .int .i64 1, .int .i64 1,
 .string ⟨#[115, 116, 111, 114, 101]⟩, .int .i64 0, .int .i64 2, .int .i64 0,
 .string ⟨#[108, 111, 97, 100, 56]⟩, .int .i64 0, .int .i64 1, .int .i64 1,
 .string ⟨#[115, 116, 111, 114, 101, 56]⟩, .int .i64 0, .int .i64 2, .int .i64 0,
 .string ⟨#[115, 105, 122, 101]⟩, .int .i64 0, .int .i64 0, .int .i64 1,
 .string ⟨#[106, 117, 109, 112]⟩, .int .i64 3, .int .i64 0, .int .i64 0,
 .string ⟨#[122, 101, 114, 111]⟩, .int .i64 3, .int .i64 1, .int .i64 0,
 .string ⟨#[110, 111, 116, 122, 101, 114, 111]⟩, .int .i64 3, .int .i64 1, .int .i64 0,
 .string ⟨#[99, 97, 108, 108]⟩, .int .i64 4, .int .i64 (-1), .int .i64 (-1),
 .string ⟨#[114, 101, 116]⟩, .int .i64 0, .int .i64 (-1), .int .i64 0,
 .string ⟨#[115, 121, 115]⟩, .int .i64 5, .int .i64 (-1), .int .i64 1,
 .string ⟨#[97, 100, 100]⟩, .int .i64 0, .int .i64 2, .int .i64 1,
 .string ⟨#[115, 117, 98]⟩, .int .i64 0, .int .i64 2, .int .i64 1,
 .string ⟨#[109, 117, 108]⟩, .int .i64 0, .int .i64 2, .int .i64 1,
 .string ⟨#[100, 105, 118]⟩, .int .i64 0, .int .i64 2, .int .i64 1,
 .string ⟨#[114, 101, 109]⟩, .int .i64 0, .int .i64 2, .int .i64 1,
 .string ⟨#[97, 110, 100]⟩, .int .i64 0, .int .i64 2, .int .i64 1,
 .string ⟨#[111, 114]⟩, .int .i64 0, .int .i64 2, .int .i64 1,
 .string ⟨#[120, 111, 114]⟩, .int .i64 0, .int .i64 2, .int .i64 1,
 .string ⟨#[115, 104, 108]⟩, .int .i64 0, .int .i64 2, .int .i64 1,
 .string ⟨#[115, 104, 114]⟩, .int .i64 0, .int .i64 2, .int .i64 1,
 .string ⟨#[117, 115, 104, 114]⟩, .int .i64 0, .int .i64 2, .int .i64 1,
 .string ⟨#[101, 113]⟩, .int .i64 0, .int .i64 2, .int .i64 1,
 .string ⟨#[108, 116]⟩, .int .i64 0, .int .i64 2, .int .i64 1,
 .string ⟨#[117, 108, 116]⟩, .int .i64 0, .int .i64 2, .int .i64 1,
 .string ⟨#[110, 101, 103]⟩, .int .i64 0, .int .i64 1, .int .i64 1,
 .string ⟨#[110, 111, 116]⟩, .int .i64 0, .int .i64 1, .int .i64 1,
 .string ⟨#[102, 97, 100, 100]⟩, .int .i64 0, .int .i64 2, .int .i64 1,
 .string ⟨#[102, 115, 117, 98]⟩, .int .i64 0, .int .i64 2, .int .i64 1,
 .string ⟨#[102, 109, 117, 108]⟩, .int .i64 0, .int .i64 2, .int .i64 1,
 .string ⟨#[102, 100, 105, 118]⟩, .int .i64 0, .int .i64 2, .int .i64 1,
 .string ⟨#[102, 101, 113]⟩, .int .i64 0, .int .i64 2, .int .i64 1,
 .string ⟨#[102, 108, 116]⟩, .int .i64 0, .int .i64 2, .int .i64 1,
 .string ⟨#[102, 110, 101, 103]⟩, .int .i64 0, .int .i64 1, .int .i64 1,
 .string ⟨#[102, 114, 111, 111, 116]⟩, .int .i64 0, .int .i64 1, .int .i64 1,
 .string ⟨#[116, 111, 102]⟩, .int .i64 0, .int .i64 1, .int .i64 1,
 .string ⟨#[116, 111, 105]⟩, .int .i64 0, .int .i64 1, .int .i64 1]
def Zsh : List (ByteArray × Int × Int × Int) -> List Value
 | [] => []
 | x :: r => .string x.1 :: .int .i64 x.2.1 :: .int .i64 x.2.2.1 :: .int .i64 x.2.2.2 :: Zsh r
theorem Zvb : ∀ (l : List (ByteArray × Int × Int × Int)) (i : Nat) (nm : ByteArray) (o t g : Int), l[i]? = some (nm, o, t, g) -> (Zsh l)[i * 4]? = some (.string nm) /\ (Zsh l)[i * 4 + 1]? = some (.int .i64 o) /\ (Zsh l)[i * 4 + 2]? = some (.int .i64 t) /\ (Zsh l)[i * 4 + 3]? = some (.int .i64 g)
 | [], i, _, _, _, _, h => by simp at h
 | x :: r, 0, _, _, _, _, h => by simp at h; subst h; simp [Zsh]
 | x :: r, i + 1, a, b, c, d, h => by
   obtain ⟨h1, h2, h3, h4⟩ := Zvb r i a b c d (by simpa using h)
   have e : (i + 1) * 4 = i * 4 + 1 + 1 + 1 + 1 := by omega
   rw [e]
   simp only [Zsh]
   exact ⟨by simpa using h1, by simpa using h2, by simpa using h3, by simpa using h4⟩
theorem Yby : Zkd = (Zsh shapeT).toArray := by rfl
theorem Yfu : shapeT.length = 46 := by rfl
theorem Yrt (nm : ByteArray) (w : World) : Calls Try.prog 123 #[.string nm] w fun e w' => e = .returned (.agg #[.string nm, .int .i64 0, .int .i64 2, .int .i64 1]) /\ w.grownBy w' none := by
 go_enter Try.func123, Try.ntmps123
 go_wp2
 (try simp only [Exit.inBlock, Exit.then])
 refine bodyPost_ret (v := .agg #[.string nm, .int .i64 0, .int .i64 2, .int .i64 1]) ?_ rfl ⟨rfl, ?_⟩
 · rw [Zad rfl]
   go_simp
 · exact Ga _ _ _
theorem Yss (nm : ByteArray) (w : World) : Calls Try.prog 124 #[.string nm] w fun e w' => e = .returned (.agg #[.string nm, .int .i64 0, .int .i64 1, .int .i64 1]) /\ w.grownBy w' none := by
 go_enter Try.func124, Try.ntmps124
 go_wp2
 (try simp only [Exit.inBlock, Exit.then])
 refine bodyPost_ret (v := .agg #[.string nm, .int .i64 0, .int .i64 1, .int .i64 1]) ?_ rfl ⟨rfl, ?_⟩
 · rw [Zad rfl]
   go_simp
 · exact Ga _ _ _
def Zjs (w : World) (S : Nat) : Prop := S < w.heap.size /\ ∀ (i : Nat) (v : Value), Zkd[i]? = some v -> w.cell? ⟨S, i, none⟩ = some v
theorem Zja {w w' : World} {S : Nat} {r : Option Nat} (h : Zjs w S) (g : w.grownBy w' r) (hr : some S ≠ r) : Zjs w' S := ⟨Nat.lt_of_lt_of_le h.1 g.size, fun i v hi => g.cell (h.2 i v hi) hr⟩
theorem Zpe (w : World) : Calls Try.prog 90 #[] w fun e w' => ∃ S, e = .returned (.slice (some ⟨S, 0, none⟩) 46 46) /\ w.grownBy w' none /\ w.heap.size <= S /\ Zjs w' S := by
 have G := Hq (Ze w none)
 have TW := Hq Yrt
 have ON := Hq Yss
 go_enter Try.func90, Try.ntmps90
 go_wp2_with (first
  | (go_at_call 123; refine (TW.out _ _).mono ?_; rintro e w1 ⟨rfl, hg⟩; replace G := Hq (Za G.out hg); clear hg)
  | (go_at_call 124; refine (ON.out _ _).mono ?_; rintro e w1 ⟨rfl, hg⟩; replace G := Hq (Za G.out hg); clear hg)
  | (refine wpList_buildSliceTo rfl 162 165 46 _ rfl w1.heap.size rfl (some 47) rfl Try.underlying162 Zkd (by kernel_rfl) ?_))
 go_ret
 exact ⟨_, rfl, Za G.out (Ga _ _ none), G.out.size, by simp, fun i v h => by rw [World.cell?_alloc_at (hn := rfl)]; exact h⟩
theorem Yqf (L n : Nat) (hn : n < L) (hL : L < 1000) (b : Nat) (x : ByteArray) (y t u : Int) (w : World) (hb : b < w.heap.size) (h0 : w.cell? ⟨b, n * 4, none⟩ = some (.string x)) (h1 : w.cell? ⟨b, n * 4 + 1, none⟩ = some (.int .i64 y)) (h2 : w.cell? ⟨b, n * 4 + 2, none⟩ = some (.int .i64 t)) (h3 : w.cell? ⟨b, n * 4 + 3, none⟩ = some (.int .i64 u)) :
 Calls Try.prog 91 #[.slice (some ⟨b, 0, none⟩) L L, .int .i64 n] w fun e w' => e = .returned (.tuple #[.agg #[.string x, .int .i64 y, .int .i64 t, .int .i64 u], .bool true]) /\ w.grownBy w' none := by
 have hni : (n : Int) < (L : Int) := by omega
 go_enter Try.func91, Try.ntmps91
 go_wp2
 (try simp only [Exit.inBlock, Exit.then])
 refine bodyPost_ret (v := .tuple #[.agg #[.string x, .int .i64 y, .int .i64 t, .int .i64 u], .bool true]) ?_ rfl ⟨rfl, Ga _ _ _⟩
 rw [results_cell_tmp rfl]
 go_simp
theorem Zws (L : Nat) (n : Int) (hn : n < 0 \/ (L : Int) <= n) (hL : L < 1000) (b : Nat) (w : World) :
 Calls Try.prog 91 #[.slice (some ⟨b, 0, none⟩) L L, .int .i64 n] w fun e w' => e = .returned (.tuple #[.agg #[.string ⟨#[]⟩, .int .i64 0, .int .i64 0, .int .i64 0], .bool false]) /\ w.grownBy w' none := by
 rcases (by omega : n < 0 \/ (0 <= n /\ (L : Int) <= n)) with hn | ⟨hn0, hn⟩
 all_goals
  go_enter Try.func91, Try.ntmps91
  go_wp2
  (try simp only [Exit.inBlock, Exit.then])
  refine bodyPost_ret (v := .tuple #[.agg #[.string ⟨#[]⟩, .int .i64 0, .int .i64 0, .int .i64 0], .bool false]) ?_ rfl ⟨rfl, Ga _ _ _⟩
  rw [results_cell_tmp rfl]
  go_simp
def Xe (op : Int) : Option (ByteArray × Int × Int × Int) := if 0 <= op /\ op < 46 then shapeT[op.toNat]? else none
theorem Zgk {op : Int} (h : 0 <= op /\ op < 46) : ∃ (n : Nat) (x : ByteArray × Int × Int × Int), op = n /\ n < 46 /\ shapeT[n]? = some x /\ Xe op = some x := by
 obtain ⟨n, rfl⟩ := Int.eq_ofNat_of_zero_le h.1
 have hn : n < shapeT.length := by rw [Yfu]; omega
 refine ⟨n, shapeT[n], rfl, by omega, List.getElem?_eq_getElem hn, ?_⟩
 unfold Xe
 rw [if_pos h, Int.toNat_natCast]
 exact List.getElem?_eq_getElem hn
theorem Zgl {op : Int} (h : ¬ (0 <= op /\ op < 46)) : Xe op = none := by unfold Xe; rw [if_neg h]
def Zpf : Option (ByteArray × Int × Int × Int) -> Value
 | some x => .tuple #[.agg #[.string x.1, .int .i64 x.2.1, .int .i64 x.2.2.1, .int .i64 x.2.2.2], .bool true]
 | none => .tuple #[.agg #[.string ⟨#[]⟩, .int .i64 0, .int .i64 0, .int .i64 0], .bool false]
theorem Zti (op : Int) (S : Nat) (w : World) (h : Zjs w S) :
 Calls Try.prog 91 #[.slice (some ⟨S, 0, none⟩) 46 46, .int .i64 op] w fun e w' => e = .returned (Zpf (Xe op)) /\ w.grownBy w' none := by
 by_cases hop : 0 <= op /\ op < 46
 · obtain ⟨n, ⟨nm, o, t, g⟩, rfl, hn, hx, hs⟩ := Zgk hop
   rw [hs]
   obtain ⟨h1, h2, h3, h4⟩ := Zvb shapeT n nm o t g hx
   have hc : ∀ i v, (Zsh shapeT)[i]? = some v -> w.cell? ⟨S, i, none⟩ = some v := fun i v hi => h.2 i v (by rw [Yby, List.getElem?_toArray]; exact hi)
   exact Yqf 46 n hn (by decide) S nm o t g w h.1 (hc _ _ h1) (hc _ _ h2) (hc _ _ h3) (hc _ _ h4)
 · rw [Zgl hop]
   exact Zws 46 op (by omega) (by decide) S w
theorem Yxj (op : Int) (w : World) : Calls Try.prog 129 #[.int .i64 op] w fun e w' => e = .returned (Zpf (Xe op)) /\ w.grownBy w' none := by
 have C := Hq Zpe
 have R := Hq (Zti op)
 obtain ⟨nm, o, t, g, b, hv⟩ : ∃ nm o t g b, Zpf (Xe op) = .tuple #[.agg #[.string nm, .int .i64 o, .int .i64 t, .int .i64 g], .bool b] := by
  cases Xe op with
  | none => exact ⟨_, _, _, _, _, rfl⟩
  | some x => exact ⟨_, _, _, _, _, rfl⟩
 rw [hv] at R ⊢
 clear hv
 go_enter Try.func129, Try.ntmps129
 go_wp2_with (first
  | (go_at_call 90; refine (C.out _).mono ?_; rintro e w1 ⟨S, rfl, hg, hS, hsh⟩; have G1 := Hq hg; have SH := Hq hsh; clear hg hsh)
  | (go_at_call 91; refine (R.out _ _ SH.out).mono ?_; rintro e w2 ⟨rfl, hg2⟩; have G2 := Hq hg2; have hb := Zc (Zc (heap_alloc_new w (.cells #[.string ⟨#[]⟩, .int .i64 0, .int .i64 0, .int .i64 0] 165)) G1.out (by simp)) hg2 (by simp); have c0 := Cq w2 _ 0 _ _ _ hb; have c1 := Cq w2 _ 1 _ _ _ hb; have c2 := Cq w2 _ 2 _ _ _ hb; have c3 := Cq w2 _ 3 _ _ _ hb; have z0 := frozen_of_row w2 _ 0 _ _ hb; have z1 := frozen_of_row w2 _ 1 _ _ hb; have z2 := frozen_of_row w2 _ 2 _ _ hb; have z3 := frozen_of_row w2 _ 3 _ _ hb; have HB := Hq hb; clear hg2 hb))
 (try simp only [Exit.inBlock, Exit.then])
 have hq : ((((w2.setCell ⟨w.heap.size, 0, none⟩ (.string nm)).setCell ⟨w.heap.size, 1, none⟩ (.int .i64 o)).setCell ⟨w.heap.size, 2, none⟩ (.int .i64 t)).setCell ⟨w.heap.size, 3, none⟩ (.int .i64 g)).heap[w.heap.size]? = some (.cells #[.string nm, .int .i64 o, .int .i64 t, .int .i64 g] 165 (0, 0)) := by
  rw [Zh (Zh (Zh (Zh HB.out)))]; rfl
 refine bodyPost_ret (v := .tuple #[.agg #[.string nm, .int .i64 o, .int .i64 t, .int .i64 g], .bool b]) ?_ rfl ⟨rfl, Zz (Zz (Zz (Zz (Za (Za (Ga _ _ _) G1.out) G2.out) (Nat.le_refl _)) (Nat.le_refl _)) (Nat.le_refl _)) (Nat.le_refl _)⟩
 clear c0 c1 c2 c3 z0 z1 z2 z3
 have d0 := Cq _ _ 0 _ _ _ hq
 have d1 := Cq _ _ 1 _ _ _ hq
 have d2 := Cq _ _ 2 _ _ _ hq
 have d3 := Cq _ _ 3 _ _ _ hq
 clear hq
 generalize (((w2.setCell ⟨w.heap.size, 0, none⟩ (.string nm)).setCell ⟨w.heap.size, 1, none⟩ (.int .i64 o)).setCell ⟨w.heap.size, 2, none⟩ (.int .i64 t)).setCell ⟨w.heap.size, 3, none⟩ (.int .i64 g) = w9 at *
 rw [results_cell_tmp rfl]
 go_simp
section
variable {P : Program} {ops : Array Oper} {Q : Exit -> Act -> World -> Prop}
theorem Zhz (hdag : ∀ (j : Nat) (o : Oper), ops[j]? = some o -> ∀ e ∈ o.after, e.on < j) {l : Array Bool} (h : Region.ready .any ops l = []) (hsz : l.size = ops.size) : ∀ j, j < ops.size -> l.getD j false = true := by
 intro j
 induction j using Nat.strongRecOn with
 | _ j ih =>
   intro hj
   by_cases hl : l.getD j false = true
   · exact hl
   · exfalso
     have hlt : j < l.size := by omega
     have h1 : l.getD j true = false := by
      simp only [Array.getD, hlt, dif_pos] at hl ⊢
      simpa using hl
     have : j ∈ Region.ready .any ops l := mem_ready.2 ⟨h1, ops[j], by simp [hj], fun e he _ => ih e.on (hdag j ops[j] (by simp [hj]) e he) (Nat.lt_trans (hdag j ops[j] (by simp [hj]) e he) hj)⟩
     rw [h] at this
     cases this
theorem Zdj (J : Array Bool -> Act -> World -> Prop)
 (step : ∀ l a w i, J l a w -> i ∈ Region.ready .any ops l -> wpOp P ops Q i (fun a' w' => J (l.setIfInBounds i true) a' w') a w)
 (fin : ∀ l a w, J l a w -> (Region.ready .any ops l = []) -> Q .normal a w) :
 ∀ fuel l a w, J l a w -> l.toList.count false <= fuel -> wpAny P .any ops Q fuel l a w
 | 0, l, a, w, hJ, hc => by
   have hnil : Region.ready .any ops l = [] := by
    cases hr : Region.ready .any ops l with
    | nil => rfl
    | cons i r =>
      exfalso
      have hi : i ∈ Region.ready .any ops l := by rw [hr]; exact List.mem_cons_self ..
      have h1 := (mem_ready.1 hi).1
      have hlt : i < l.size := by
       rcases Nat.lt_or_ge i l.size with h' | h'
       · exact h'
       · simp [Array.getElem?_eq_none h'] at h1
      have hm : false ∈ l.toList := by
       have : l[i] = false := by simpa [hlt] using h1
       rw [<- this]; exact Array.mem_toList_iff.2 (Array.getElem_mem hlt)
      have := List.count_pos_iff.2 hm
      omega
   exact ⟨hnil, fin l a w hJ hnil⟩
 | fuel + 1, l, a, w, hJ, hc => by
   refine ⟨fun h => fin l a w hJ h, fun i hi => wpOp_mono (fun a' w' hJ' => Zdj J step fin fuel _ a' w' hJ' ?_) (step l a w i hJ hi)⟩
   have h1 := (mem_ready.1 hi).1
   have hlt : i < l.size := by
    rcases Nat.lt_or_ge i l.size with h' | h'
    · exact h'
    · simp [Array.getElem?_eq_none h'] at h1
   have hf : l[i] = false := by simpa [hlt] using h1
   have hm : false ∈ l.toList := by rw [<- hf]; exact Array.mem_toList_iff.2 (Array.getElem_mem hlt)
   have hpos := List.count_pos_iff.2 hm
   rw [Array.toList_setIfInBounds, List.count_set (by simpa using hlt)]
   have e1 : (l.toList[i]'(by simpa using hlt) == false) = true := by rw [Array.getElem_toList, hf]; rfl
   rw [if_pos e1, if_neg (by decide)]
   omega
end
theorem Zb {ops : Array Oper} {l : Array Bool} {i : Nat} (hi : i ∈ Region.ready .any ops l) (n : Nat) (h : ((ops[i]?).any fun o => o.after.any fun e => e.on == n && Region.binds .any e) = true) : l.getD n false = true := by
 obtain ⟨_, o, ho, haf⟩ := mem_ready.1 hi
 rw [ho] at h
 obtain ⟨e, he, hb⟩ := Array.any_eq_true'.1 (show o.after.any (fun e => e.on == n && Region.binds .any e) = true from h)
 simp only [Bool.and_eq_true, beq_iff_eq] at hb
 rw [<- hb.1]
 exact haf e he hb.2
theorem Zvk {ops : Array Oper} (h : ((List.range ops.size).all fun j => (ops[j]?).all fun o => o.after.all fun e => decide (e.on < j)) = true) : ∀ (j : Nat) (o : Oper), ops[j]? = some o -> ∀ e ∈ o.after, e.on < j := by
 intro j o ho e he
 have hj : j < ops.size := (Gs ho)
 have h1 := List.all_eq_true.1 h j (List.mem_range.2 hj)
 rw [ho] at h1
 have h2 := Array.all_eq_true'.1 (show o.after.all (fun e => decide (e.on < j)) = true from h1) e he
 exact of_decide_eq_true h2
theorem Zw (l : Array Bool) (i j : Nat) (hi : i < l.size) : (l.setIfInBounds i true).getD j false = if j = i then true else l.getD j false := by
 by_cases h : j = i
 · subst h; simp [hi]
 · rw [if_neg h]; simp [Array.getD_eq_getD_getElem?, Array.getElem?_setIfInBounds_ne (Ne.symm h)]
def tm (a : Act) (d : Nat) : Value := a.tmps.getD d undef
theorem Zzh {a : Act} {d n : Nat} {v : Value} (hs : a.tmps.size = n) (hd : d < n) (e : Nat) : tm (a.put (some d) v) e = if e = d then v else tm a e := by
 unfold tm Act.put
 by_cases h : e = d
 · subst h; simp [hs, hd]
 · rw [if_neg h]; simp [Array.getD_eq_getD_getElem?, Array.getElem?_setIfInBounds_ne (Ne.symm h)]
theorem Zlq {a : Act} {d : Option Tmp} {n : Nat} {v : Value} (hs : a.tmps.size = n) : (a.put d v).tmps.size = n := by cases d <;> simp [Act.put, hs]
section
variable {ops : Array Oper} {Q : Exit -> Act -> World -> Prop} {i : Nat} {a : Act} {w : World}
theorem Xr {K : Act -> World -> Prop} {o : Oper} {v : Value} {w' : World} (ho : ops[i]? = some o) (hg : o.guard = none) (hrun : (execOp a.eval o).run Try.prog w = .ok (.value v) w') (h : K (a.put o.dst v) w') : wpOp Try.prog ops Q i K a w := by
 unfold wpOp
 simp only [ho, Region.wanted, hg]
 refine Or.inl ?_
 unfold Oper.wp
 rw [hrun, Oper.upon_value]
 exact h
theorem Zcn {K : Act -> World -> Prop} {o : Oper} {w' : World} (ho : ops[i]? = some o) (hg : o.guard = none) (hd : o.dst = none) (hrun : (execOp a.eval o).run Try.prog w = .ok .skip w') (h : K a w') : wpOp Try.prog ops Q i K a w := by
 unfold wpOp
 simp only [ho, Region.wanted, hg]
 refine Or.inl ?_
 unfold Oper.wp
 rw [hrun]
 simp only [Oper.upon, hd]
 exact h
theorem Zhk {K : Act -> World -> Prop} {o : Oper} {f : FuncId} {args : Array Value} (ho : ops[i]? = some o) (hg : o.guard = none) (hrun : (execOp a.eval o).run Try.prog w = .ok (.enter f args) w)
 (h : Calls Try.prog f args w fun e w' => ∃ v, e = .returned v /\ K (a.put o.dst v) w') : wpOp Try.prog ops Q i K a w := by
 unfold wpOp
 simp only [ho, Region.wanted, hg]
 refine Or.inl ?_
 unfold Oper.wp
 rw [hrun]
 simp only [Oper.upon]
 refine h.mono fun e w' he => ?_
 obtain ⟨v, rfl, hK⟩ := he
 exact hK
end
end Go.Proofs.Ytecaolkbllbokaa.CK
