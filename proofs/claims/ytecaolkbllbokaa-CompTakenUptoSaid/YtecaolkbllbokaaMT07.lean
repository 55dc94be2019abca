import Derived.Test.YtecaolkbllbokaaMT06
import Derived.Laws.ResultCell
import Derived.StillTailTactics
import Derived.Deep.RegionLaw
import Derived.Deep.RegionLawGrows
import Derived.Deep.RegionHeld3
set_option linter.unusedSimpArgs false
set_option linter.unusedVariables false
set_option maxRecDepth 100000
set_option maxHeartbeats 16000000
namespace Go.Proofs.Ytecaolkbllbokaa.TG
open Go.RowKit Go.Great
theorem Zik {a : Act} {N d : Nat} {v : Value} (hs : a.tmps.size = N) (hd : d < N) (e : Nat) : tm (a.put (some d) v) e = if e = d then v else tm a e := by
 unfold tm Act.put
 by_cases h : e = d
 · subst h; simp [hs, hd]
 · rw [if_neg h]; simp [Array.getD_eq_getD_getElem?, Array.getElem?_setIfInBounds_ne (Ne.symm h)]
theorem Zgj {a : Act} {N : Nat} {d : Option Tmp} {v : Value} (hs : a.tmps.size = N) : (a.put d v).tmps.size = N := by cases d <;> simp [Act.put, hs]
structure RJ (a0 : Act) (N n : Nat) (dst : Nat -> Nat) (val : Nat -> Value) (l : Array Bool) (a : Act) : Prop where
 sz : l.size = n
 ts : a.tmps.size = N
 df : a.defers = a0.defers
 sl : ∀ i, i < n -> l.getD i false = true -> dst i < N -> tm a (dst i) = val i
 un : ∀ j, (∀ i, i < n -> l.getD i false = true -> dst i ≠ j) -> tm a j = tm a0 j
theorem Zfz {a0 a : Act} {N n i : Nat} {dst : Nat -> Nat} {val : Nat -> Value} {l : Array Bool} (h : RJ a0 N n dst val l a) (hi : i < n) (hd : dst i < N) (hne : ∀ j, j < n -> j ≠ i -> dst j ≠ dst i) :
 RJ a0 N n dst val (l.setIfInBounds i true) (a.put (some (dst i)) (val i)) := by
 have hgs : ∀ j, (l.setIfInBounds i true).getD j false = if j = i then true else l.getD j false := fun j => Zw l i j (by rw [h.sz]; exact hi)
 have T : ∀ e, tm (a.put (some (dst i)) (val i)) e = if e = dst i then val i else tm a e := fun e => Zik h.ts hd e
 refine ⟨by simp [h.sz], Zgj h.ts, h.df, fun j hj hl hdj => ?_, fun j hj => ?_⟩
 · rw [hgs] at hl
   by_cases hji : j = i
   · subst hji; rw [T, if_pos rfl]
   · rw [if_neg hji] at hl
     rw [T, if_neg (hne j hj hji)]
     exact h.sl j hj hl hdj
 · have h1 := hj i hi (by rw [hgs, if_pos rfl])
   rw [T, if_neg (Ne.symm h1)]
   refine h.un j fun i' hi' hl' => hj i' hi' ?_
   rw [hgs]
   by_cases e : i' = i
   · rw [if_pos e]
   · rw [if_neg e]; exact hl'
theorem Zin {a0 a : Act} {N n i : Nat} {dst : Nat -> Nat} {val : Nat -> Value} {l : Array Bool} (h : RJ a0 N n dst val l a) (hi : i < n) (hd : N <= dst i) : RJ a0 N n dst val (l.setIfInBounds i true) a := by
 have hgs : ∀ j, (l.setIfInBounds i true).getD j false = if j = i then true else l.getD j false := fun j => Zw l i j (by rw [h.sz]; exact hi)
 refine ⟨by simp [h.sz], h.ts, h.df, fun j hj hl hdj => ?_, fun j hj => ?_⟩
 · rw [hgs] at hl
   by_cases hji : j = i
   · subst hji; omega
   · rw [if_neg hji] at hl; exact h.sl j hj hl hdj
 · refine h.un j fun i' hi' hl' => hj i' hi' ?_
   rw [hgs]
   by_cases e : i' = i
   · rw [if_pos e]
   · rw [if_neg e]; exact hl'
theorem Zax {a0 : Act} {N n : Nat} {dst : Nat -> Nat} {val : Nat -> Value} (hs : a0.tmps.size = N) : RJ a0 N n dst val (Array.replicate n false) a0 :=
 ⟨by simp, hs, rfl, fun i hi hl _ => (by rw [getD_replicate_false] at hl; cases hl), fun j _ => rfl⟩
theorem Zhf {a b : Act} (hs : a.tmps.size = b.tmps.size) (hd : a.defers = b.defers) (ht : ∀ j, j < a.tmps.size -> tm a j = tm b j) : a = b := by
 obtain ⟨ta, da⟩ := a
 obtain ⟨tb, db⟩ := b
 simp only at hs hd
 subst hd
 congr 1
 refine Array.ext hs fun j h1 h2 => ?_
 have := ht j h1
 simpa [tm, h1, h2] using this
theorem Zzn {a0 a aF : Act} {N n : Nat} {dst : Nat -> Nat} {val : Nat -> Value} {l : Array Bool} (h : RJ a0 N n dst val l a) (hl : ∀ j, j < n -> l.getD j false = true) (hs : aF.tmps.size = N) (hd : aF.defers = a0.defers)
 (hv : ∀ i, i < n -> dst i < N -> tm aF (dst i) = val i) (hu : ∀ j, (∀ i, i < n -> dst i ≠ j) -> tm aF j = tm a0 j) : a = aF := by
 refine Zhf (h.ts.trans hs.symm) (h.df.trans hd.symm) fun j hj => ?_
 by_cases he : ∃ i, i < n /\ dst i = j
 · obtain ⟨i, hi, rfl⟩ := he
   have hN : dst i < N := by rw [<- h.ts]; exact hj
   rw [h.sl i hi (hl i hi) hN, hv i hi hN]
 · have hne : ∀ i, i < n -> dst i ≠ j := fun i hi e => he ⟨i, hi, e⟩
   rw [h.un j (fun i hi _ => hne i hi), hu j hne]
def Ja (a0 : Act) (dst : Nat -> Nat) (val : Nat -> Value) : Nat -> Act
 | 0 => a0
 | n + 1 => (Ja a0 dst val n).put (some (dst n)) (val n)
theorem Jj {a0 : Act} {N : Nat} {dst : Nat -> Nat} {val : Nat -> Value} (hs : a0.tmps.size = N) : ∀ n, (Ja a0 dst val n).tmps.size = N
 | 0 => hs
 | n + 1 => Zgj (Jj hs n)
theorem Zbi {a0 : Act} {dst : Nat -> Nat} {val : Nat -> Value} : ∀ n, (Ja a0 dst val n).defers = a0.defers
 | 0 => rfl
 | n + 1 => Zbi n
theorem Zhp {a0 : Act} {N : Nat} {dst : Nat -> Nat} {val : Nat -> Value} (hs : a0.tmps.size = N) : ∀ n, (∀ i j, i < n -> j < n -> i ≠ j -> dst i ≠ dst j) -> ∀ i, i < n -> dst i < N -> tm (Ja a0 dst val n) (dst i) = val i
 | 0, _, i, hi, _ => by omega
 | n + 1, hne, i, hi, hd => by
   rw [Ja]
   by_cases e : i = n
   · subst e; rw [Zik (Jj hs i) hd, if_pos rfl]
   · have h1 := Zhp (a0 := a0) (val := val) hs n (fun i j h1 h2 => hne i j (by omega) (by omega)) i (by omega) hd
     by_cases hn : dst n < N
     · rw [Zik (Jj hs n) hn, if_neg (hne i n (by omega) (by omega) e)]; exact h1
     · have : ∀ v, tm ((Ja a0 dst val n).put (some (dst n)) v) (dst i) = tm (Ja a0 dst val n) (dst i) := by
        intro v
        unfold tm Act.put
        simp [Array.getD_eq_getD_getElem?, Array.getElem?_setIfInBounds_ne (hne n i (by omega) (by omega) (Ne.symm e))]
       rw [this]; exact h1
theorem Zes {a0 : Act} {dst : Nat -> Nat} {val : Nat -> Value} : ∀ n j, (∀ i, i < n -> dst i ≠ j) -> tm (Ja a0 dst val n) j = tm a0 j
 | 0, _, _ => rfl
 | n + 1, j, h => by
   rw [Ja]
   have : tm ((Ja a0 dst val n).put (some (dst n)) (val n)) j = tm (Ja a0 dst val n) j := by
    unfold tm Act.put
    simp [Array.getD_eq_getD_getElem?, Array.getElem?_setIfInBounds_ne (h n (by omega))]
   rw [this]
   exact Zes n j (fun i hi => h i (by omega))
section
variable {ops : Array Oper} {Q : Exit -> Act -> World -> Prop} {a0 a : Act} {N n i : Nat} {dst : Nat -> Nat} {val : Nat -> Value} {l : Array Bool} {w w' : World} {WS : Array Bool -> World -> Prop} {o : Oper}
theorem Yg (hJ : RJ a0 N n dst val l a) (ho : ops[i]? = some o) (hg : o.guard = none) (hdst : o.dst = some (dst i)) (hi : i < n) (hd : dst i < N) (hne : ∀ j, j < n -> j ≠ i -> dst j ≠ dst i) (hrun : (execOp a.eval o).run Try.prog w = .ok (.value (val i)) w') (hW : WS (l.setIfInBounds i true) w') :
 wpOp Try.prog ops Q i (fun a' w'' => RJ a0 N n dst val (l.setIfInBounds i true) a' /\ WS (l.setIfInBounds i true) w'') a w := by
 refine Xr ho hg hrun ?_
 rw [hdst]
 exact ⟨Zfz hJ hi hd hne, hW⟩
theorem Zkf (hJ : RJ a0 N n dst val l a) (ho : ops[i]? = some o) (hg : o.guard = none) (hdst : o.dst = none) (hi : i < n) (hd : N <= dst i) (hrun : (execOp a.eval o).run Try.prog w = .ok .skip w') (hW : WS (l.setIfInBounds i true) w') :
 wpOp Try.prog ops Q i (fun a' w'' => RJ a0 N n dst val (l.setIfInBounds i true) a' /\ WS (l.setIfInBounds i true) w'') a w :=
 Zcn ho hg hdst hrun ⟨Zin hJ hi hd, hW⟩
end
def dR (i : Nat) : Nat := if i < 15 then 79 + i else 1000
def vR (P0 C0 Bd N12 : Nat) (args len : Int) (vl vout v13 : Value) : Nat -> Value
 | 0 => .pointer (some ⟨P0, 2, none⟩)
 | 1 => .slice none 0 0
 | 2 => .pointer (some ⟨C0, 1, none⟩)
 | 3 => .int .i64 args
 | 4 => .pointer (some ⟨C0, 2, none⟩)
 | 5 => vl
 | 6 => .int .i64 len
 | 7 => .pointer (some ⟨Bd, 0, none⟩)
 | 8 => .pointer (some ⟨Bd, 0, none⟩)
 | 9 => .pointer (some ⟨Bd, 6, none⟩)
 | 10 => vout
 | 11 => .agg #[.int .i64 args, .int .i64 len, .int .i64 1, vout]
 | 12 => .slice (some ⟨N12, 0, none⟩) 1 1
 | 13 => v13
 | 14 => .pointer (some ⟨P0, 2, none⟩)
 | _ => undef
structure Ybl (W W1 w11 w15 : World) (l : Array Bool) (w : World) : Prop where
 st : (l.getD 12 false = false /\ l.getD 13 false = false /\ l.getD 15 false = false /\ w = W) \/ (l.getD 12 false = true /\ l.getD 13 false = false /\ l.getD 15 false = false /\ w = W1) \/ (l.getD 13 false = true /\ l.getD 15 false = false /\ w = w11) \/ (l.getD 13 false = true /\ l.getD 15 false = true /\ w = w15)
 sz : l.size = 16
 c1 : l.getD 13 false = true -> l.getD 1 false = true /\ l.getD 12 false = true
theorem Yv {W W1 w11 w15 w : World} {l : Array Bool} {i : Nat} (h : Ybl W W1 w11 w15 l w) (h12 : i ≠ 12) (h13 : i ≠ 13) (h15 : i ≠ 15) : Ybl W W1 w11 w15 (l.setIfInBounds i true) w := by
 have hgs : ∀ j, j ≠ i -> (l.setIfInBounds i true).getD j false = l.getD j false := fun j hj => by
  simp [Array.getD_eq_getD_getElem?, Array.getElem?_setIfInBounds_ne (Ne.symm hj)]
 have hup : ∀ j, l.getD j false = true -> (l.setIfInBounds i true).getD j false = true := fun j hj => by
  by_cases e : j = i
  · subst e
    have : j < l.size := by
     rcases Nat.lt_or_ge j l.size with h' | h'
     · exact h'
     · simp [Array.getElem?_eq_none h'] at hj
    simp [this]
  · rw [hgs j e]; exact hj
 refine ⟨?_, by simp [h.sz], fun h1 => ?_⟩
 · rw [hgs 12 (Ne.symm h12), hgs 13 (Ne.symm h13), hgs 15 (Ne.symm h15)]; exact h.st
 · rw [hgs 13 (Ne.symm h13)] at h1
   exact ⟨hup _ (h.c1 h1).1, hup _ (h.c1 h1).2⟩
theorem Ywa {W W1 w11 w15 w : World} {l : Array Bool} (h : Ybl W W1 w11 w15 l w) (hun : l.getD 12 false = false) : w = W /\ Ybl W W1 w11 w15 (l.setIfInBounds 12 true) W1 := by
 have hgs : ∀ j, (l.setIfInBounds 12 true).getD j false = if j = 12 then true else l.getD j false := fun j => Zw l 12 j (by rw [h.sz]; decide)
 rcases h.st with ⟨_, h2, h3, e⟩ | ⟨h1, _⟩ | ⟨h1, _⟩ | ⟨h1, _⟩
 · refine ⟨e, Or.inr (Or.inl ⟨by rw [hgs]; rfl, by rw [hgs]; exact h2, by rw [hgs]; exact h3, rfl⟩), by simp [h.sz], fun h4 => ?_⟩
   rw [hgs] at h4
   rw [if_neg (by decide), h2] at h4; cases h4
 · rw [h1] at hun; cases hun
 · rw [(h.c1 h1).2] at hun; cases hun
 · rw [(h.c1 h1).2] at hun; cases hun
theorem Yvz {W W1 w11 w15 w : World} {l : Array Bool} (h : Ybl W W1 w11 w15 l w) (hun : l.getD 13 false = false) (h12 : l.getD 12 false = true) (h1 : l.getD 1 false = true) : w = W1 /\ Ybl W W1 w11 w15 (l.setIfInBounds 13 true) w11 := by
 have hgs : ∀ j, (l.setIfInBounds 13 true).getD j false = if j = 13 then true else l.getD j false := fun j => Zw l 13 j (by rw [h.sz]; decide)
 rcases h.st with ⟨h2, _⟩ | ⟨_, _, h3, e⟩ | ⟨h2, _⟩ | ⟨h2, _⟩
 · rw [h2] at h12; cases h12
 · refine ⟨e, Or.inr (Or.inr (Or.inl ⟨by rw [hgs]; rfl, by rw [hgs]; exact h3, rfl⟩)), by simp [h.sz], fun _ => ⟨by rw [hgs]; exact h1, by rw [hgs]; exact h12⟩⟩
 · rw [h2] at hun; cases hun
 · rw [h2] at hun; cases hun
theorem Yvy {W W1 w11 w15 w : World} {l : Array Bool} (h : Ybl W W1 w11 w15 l w) (hun : l.getD 15 false = false) (h13 : l.getD 13 false = true) : w = w11 /\ Ybl W W1 w11 w15 (l.setIfInBounds 15 true) w15 := by
 have hgs : ∀ j, (l.setIfInBounds 15 true).getD j false = if j = 15 then true else l.getD j false := fun j => Zw l 15 j (by rw [h.sz]; decide)
 have hc := h.c1 h13
 rcases h.st with ⟨_, h2, _⟩ | ⟨_, h2, _⟩ | ⟨_, _, e⟩ | ⟨_, h2, _⟩
 · rw [h2] at h13; cases h13
 · rw [h2] at h13; cases h13
 · exact ⟨e, Or.inr (Or.inr (Or.inr ⟨by rw [hgs]; exact h13, by rw [hgs]; rfl, rfl⟩)), by simp [h.sz], fun _ => ⟨by rw [hgs]; exact hc.1, by rw [hgs]; exact hc.2⟩⟩
 · rw [h2] at hun; cases hun
theorem Ypw {W W1 w11 w15 w : World} {l : Array Bool} (h : Ybl W W1 w11 w15 l w) (h15 : l.getD 15 false = true) : w = w15 := by
 rcases h.st with ⟨_, _, h2, _⟩ | ⟨_, _, h2, _⟩ | ⟨_, h2, _⟩ | ⟨_, _, e⟩
 · rw [h2] at h15; cases h15
 · rw [h2] at h15; cases h15
 · rw [h2] at h15; cases h15
 · exact e
theorem Ypv {W W1 w11 w15 w : World} {l : Array Bool} (h : Ybl W W1 w11 w15 l w) (hun : l.getD 1 false = false) : w = W \/ w = W1 := by
 rcases h.st with ⟨_, _, _, e⟩ | ⟨_, _, _, e⟩ | ⟨h2, _⟩ | ⟨h2, _⟩
 · exact Or.inl e
 · exact Or.inr e
 · rw [(h.c1 h2).1] at hun; cases hun
 · rw [(h.c1 h2).1] at hun; cases hun
theorem Ypx {W W1 w11 w15 w : World} {l : Array Bool} (h : Ybl W W1 w11 w15 l w) : w = W \/ w = W1 \/ w = w11 \/ w = w15 := by
 rcases h.st with ⟨_, _, _, e⟩ | ⟨_, _, _, e⟩ | ⟨_, _, e⟩ | ⟨_, _, e⟩
 · exact Or.inl e
 · exact Or.inr (Or.inl e)
 · exact Or.inr (Or.inr (Or.inl e))
 · exact Or.inr (Or.inr (Or.inr e))
theorem Zze (W W1 w11 w15 : World) : Ybl W W1 w11 w15 (Array.replicate 16 false) W :=
 ⟨Or.inl ⟨getD_replicate_false _ _, getD_replicate_false _ _, getD_replicate_false _ _, rfl⟩, by simp, fun h => by rw [getD_replicate_false] at h; cases h⟩
theorem Ydq (i : Nat) : 79 <= dR i := by unfold dR; split <;> omega
theorem Zav : ∀ i, i < 16 -> ∀ j, j < 16 -> j ≠ i -> dR j ≠ dR i := by decide
theorem Zto {id : Nat} {ops : Array Oper} {Q : Exit -> Act -> World -> Prop} {a0 : Act} {w : World} {N n : Nat} {dst : Nat -> Nat} {val : Nat -> Value} {WS : Array Bool -> World -> Prop}
 (hm : Try.prog.follows .mixedOrders = true) (h0 : a0.tmps.size = N) (hn : ops.size = n) (hdag : ∀ (j : Nat) (o : Oper), ops[j]? = some o -> ∀ e ∈ o.after, e.on < j) (hW : WS (Array.replicate n false) w.drew)
 (step : ∀ l a w i, RJ a0 N n dst val l a -> WS l w -> i ∈ Region.ready .any ops l -> wpOp Try.prog ops Q i (fun a' w' => RJ a0 N n dst val (l.setIfInBounds i true) a' /\ WS (l.setIfInBounds i true) w') a w)
 (fin : ∀ l a w, RJ a0 N n dst val l a -> WS l w -> (∀ j, j < n -> l.getD j false = true) -> Q .normal a w) : (Code.region id ops true).wp Try.prog Q a0 w := by
 subst hn
 refine wp_region_any hm ?_
 refine Zdj (fun l a w => RJ a0 N ops.size dst val l a /\ WS l w) (fun l a w i hJ hi => step l a w i hJ.1 hJ.2 hi) (fun l a w hJ hr => fin l a w hJ.1 hJ.2 (Zhz hdag hr hJ.1.sz)) _ _ _ _ ⟨Zax h0, hW⟩ (by simp)
theorem Yfa (i : Nat) (h : i < 16) : i = 0 \/ i = 1 \/ i = 2 \/ i = 3 \/ i = 4 \/ i = 5 \/ i = 6 \/ i = 7 \/ i = 8 \/ i = 9 \/ i = 10 \/ i = 11 \/ i = 12 \/ i = 13 \/ i = 14 \/ i = 15 := by omega
theorem Yu {fn : Func} {p u v : Tmp} {ty : TypeId} (h : fn.results = #[.cell p ty, .tmp u, .tmp v]) (tmps : Array Value) (P : Program) (w : World) :
 (results fn tmps).run P w =
   ((asAddr (tmps.getD p undef)).run P w).andThen fun a w₁ => ((loadVar ty a).run P w₁).andThen fun x w₂ => .ok (.tuple #[x, tmps.getD u undef, tmps.getD v undef]) w₂ := by
 simp only [results, h]
 simp [Sem.run_bind, Result.andThen]
theorem Ylh {w w1 : World} {o o' : Obj} {r : Option Nat} (h : ((w.alloc o).alloc o').grownBy w1 r) : w.heap.size + 1 < w1.heap.size := by
 have := h.size; rw [World.size_alloc, World.size_alloc] at this; omega
theorem Zfr (w : World) (o o' : Obj) : ((w.alloc o).alloc o').heap[w.heap.size + 1]? = some o' := heap_alloc2_new w o o'
structure AE (w3 w6 : World) (Bd bc b6 M : Nat) (vt vf : Value) (nm : ByteArray) (ar : Int) (vl vp : Value) : Prop where
 hb : w6.heap[Bd]? = some (.cells #[vt, vf, .string nm, .int .i64 ar, vl, vp, .slice none 0 0, .slice none 0 0, .slice none 0 0, .map none] 114 (0, 0))
 ki : Zfv w6 Bd w6.heap.size bc b6 M
 gr : w3.grownBy w6 none
 cp : w6.heap[w3.heap.size]? = some (.cells #[.string nm, .int .i64 ar, vl, vp] 69 (0, 0))
 eB : Bd = w3.heap.size + 1
theorem Yxh {w3 w6 : World} {vt vf : Value} {nm : ByteArray} {ar : Int} {vl vp : Value} {e : Ending}
 (h : Zsx ((w3.alloc (.cells #[.string nm, .int .i64 ar, vl, vp] 69)).alloc (.cells #[vt, vf, .string nm, .int .i64 ar, vl, vp, .slice none 0 0, .slice none 0 0, .slice none 0 0, .map none] 114)) (w3.heap.size + 1) e w6) :
 ∃ bc b6 M, e = .returned (.map (some M)) /\ AE w3 w6 (w3.heap.size + 1) bc b6 M vt vf nm ar vl vp := by
 obtain ⟨bc, b6, M, he, g, hk⟩ := Zrx h (by simp)
 refine ⟨bc, b6, M, he, Zu (heap_alloc2_new w3 _ _) g (by simp), hk, Za (Za (Ga w3 _ none) (Ga _ _ none)) g, Zu (heap_alloc2_old w3 _ _) g (by simp), rfl⟩
theorem Yxg {w3 w6 : World} {Bd bc b6 M : Nat} {vt vf : Value} {nm : ByteArray} {ar : Int} {vl vp : Value} (h : AE w3 w6 Bd bc b6 M vt vf nm ar vl vp) :
 Yc (w6.setCell ⟨Bd, 9, none⟩ (.map (some M))) w6.heap.size Bd vt vf nm ar vl vp (.slice none 0 0) (.slice none 0 0) (.slice none 0 0) (.map (some M)) [] [] := by
 refine ⟨by rw [Zh h.hb]; rfl, World.ownsRow_nil _ _ _ _, World.ownsRow_nil _ _ _ _, (Gs h.hb), by rw [World.size_setCell]; exact Nat.le_refl _⟩
theorem Yxf {w3 w6 : World} {Bd bc b6 M B : Nat} {vt vf : Value} {nm : ByteArray} {ar : Int} {vl vp : Value} {pp : Option Addr} {ps : List (Int × Int × Int)} (h : AE w3 w6 Bd bc b6 M vt vf nm ar vl vp) (hp : Zcw w3 B pp ps) (hB : B <= w3.heap.size) :
 Yvv (w6.setCell ⟨Bd, 9, none⟩ (.map (some M))) Bd w6.heap.size bc b6 M pp ps := by
 have hs : ∀ k, k ≠ Bd -> (w6.setCell ⟨Bd, 9, none⟩ (.map (some M))).heap[k]? = w6.heap[k]? := fun k hk => heap_setCell_other w6 _ k _ hk
 refine ⟨fun h0 => ?_, Zhv h.ki fun k h1 h2 => hs k (by omega)⟩
 obtain ⟨b, o, e, hb, hc⟩ := hp h0
 have heB := h.eB
 refine ⟨b, o, e, by omega, fun j k n kc hj => ?_⟩
 obtain ⟨c0, c1, c2⟩ := hc j k n kc hj
 have hbs := hs b (by omega)
 exact ⟨by rw [Ye hbs]; exact h.gr.cell c0 (by simp), by rw [Ye hbs]; exact h.gr.cell c1 (by simp), by rw [Ye hbs]; exact h.gr.cell c2 (by simp)⟩
theorem Ylu {w : World} {base : Nat} {e : TypeId} {size : Nat} {v : Value} {xs : List Value} {α : Type} {l : List α} {x : α} (h : w.ownsRow base e size v (l ++ [x]).length xs) : ∃ g cap, v = .slice (some ⟨g, 0, none⟩) (l.length + 1) cap := by
 rw [List.length_append, List.length_singleton] at h
 exact Yk h
theorem Ygm {w : World} {base : Nat} {e : TypeId} {size : Nat} {v : Value} {xs : List Value} {α : Type} {l : List α} {x : α} (h : w.ownsRow base e size v (l ++ [x]).length xs) : ∃ g cap n, v = .slice (some ⟨g, 0, none⟩) n cap /\ n = (l ++ [x]).length := by
 obtain ⟨g, cap, hv⟩ := Ylu h
 exact ⟨g, cap, l.length + 1, hv, by simp⟩
theorem Yaw (w : World) (a b c d : Value) (t : TypeId) : ∀ j u, [a, b, c, d][j]? = some u -> ((w.alloc (.cells #[a, b, c, d] t)).drew).cell? ((⟨w.heap.size, 0, none⟩ : Addr).add j) = some u := by
 intro j u hj
 match j, hj with
 | 0, hj => simp at hj; subst hj; simp [Addr.add]
 | 1, hj => simp at hj; subst hj; simp [Addr.add]
 | 2, hj => simp at hj; subst hj; simp [Addr.add]
 | 3, hj => simp at hj; subst hj; simp [Addr.add]
theorem Zuz (x y z : Int) (p : Option Addr) (n k : Nat) : ∀ u ∈ [Value.int .i64 x, Value.int .i64 y, Value.int .i64 z, Value.slice p n k], u.oneCell' = true := by
 intro u hu; simp at hu; rcases hu with rfl | rfl | rfl | rfl <;> rfl
theorem Yav : Try.prog.underlying 30 = some (.slice 73) := by kernel_rfl
theorem Zux : (Try.prog.info? 73).map (fun i => (i.zero, i.size, i.bytes)) = some (some (.agg #[.int .i64 0, .int .i64 0, .int .i64 0, .slice none 0 0]), 4, 48) := by kernel_rfl
theorem Zjj : Try.prog.underlying 41 = some (.slice 47) := by kernel_rfl
theorem Zgv : (Try.prog.info? 47).map (fun i => (i.zero, i.size, i.bytes)) = some (some (.slice none 0 0), 1, 24) := by kernel_rfl
theorem Ydg {w w' : World} {o : Obj} (g : (w.alloc o).drew.grownBy w' none) : w.grownBy w' none := Za (Zf (Ga w o none)) g
structure AM (w w3 w10 : World) (E Bd : Nat) (vt vf : Value) (nm : ByteArray) (ar : Int) (vl vp vo vg vlo vk : Value) (out : List (Int × Int)) (org : List Int) : Prop where
 code : Yc w10 E Bd vt vf nm ar vl vp vo vg vlo vk out org
 low : ∀ k, k < w3.heap.size + 1 -> w10.heap[k]? = w3.heap[k]? \/ k = w3.heap.size
 cp : w10.heap[w3.heap.size]? = some (.cells #[.string nm, .int .i64 ar, vl, vp] 69 (0, 0))
 gr : w.grownBy w10 none
 eB : Bd = w3.heap.size + 1
theorem Xbf {w w3 w6 w7 w8 w9 w10 : World} {Bd bc b6 M : Nat} {vt vf : Value} {nm : ByteArray} {ar : Int} {vl vp vo8 vg8 vo9 vg9 vo vg vlo vk : Value} {out : List (Int × Int)} {org : List Int}
 (h : AE w3 w6 Bd bc b6 M vt vf nm ar vl vp) (hw7 : w7 = w6.setCell ⟨Bd, 9, none⟩ (.map (some M))) (g3 : w.grownBy w3 none)
 (s8 : Sp (Yj Bd (.slice none 0 0) (.slice none 0 0)) w7 w8) (r8 : ∀ k, k < w7.heap.size -> Yj Bd vo8 vg8 k -> Yj Bd (.slice none 0 0) (.slice none 0 0) k)
 (s9 : Sp (Yj Bd vo8 vg8) w8 w9) (r9 : ∀ k, k < w8.heap.size -> Yj Bd vo9 vg9 k -> Yj Bd vo8 vg8 k) (s10 : Sp (Yj Bd vo9 vg9) w9 w10)
 (hC : Yc w10 w6.heap.size Bd vt vf nm ar vl vp vo vg vlo vk out org) : AM w w3 w10 w6.heap.size Bd vt vf nm ar vl vp vo vg vlo vk out org := by
 have hz7 : w7.heap.size = w6.heap.size := by rw [hw7, World.size_setCell]
 have hB6 : Bd < w6.heap.size := (Gs h.hb)
 have hno : ∀ k, k ≠ Bd -> ¬ Yj Bd (.slice none 0 0) (.slice none 0 0) k := by
  intro k hk hp
  rcases hp with e | e | e
  · exact hk e
  · simp [Value.ownBlock] at e
  · simp [Value.ownBlock] at e
 have low : ∀ k, k < w6.heap.size -> k ≠ Bd -> w10.heap[k]? = w6.heap[k]? := by
  intro k hk hne
  have n8 : ¬ Yj Bd vo8 vg8 k := fun hp => hno k hne (r8 k (by omega) hp)
  have z8 := s8.size
  have z9 := s9.size
  have n9 : ¬ Yj Bd vo9 vg9 k := fun hp => n8 (r9 k (by omega) hp)
  rw [s10.block k (by omega) n9, s9.block k (by omega) n8, s8.block k (by omega) (hno k hne), hw7]
  exact heap_setCell_other w6 _ k _ hne
 have heB := h.eB
 have hz3 := h.gr.size
 have hz10 : w6.heap.size <= w10.heap.size := by have := s8.size; have := s9.size; have := s10.size; omega
 refine ⟨hC, fun k hk => ?_, ?_, ⟨?_, ?_, ?_, ?_, ?_⟩, heB⟩
 · by_cases hkk : k = w3.heap.size
   · exact Or.inr hkk
   · left; rw [low k (by omega) (by omega)]; exact h.gr.block k (by omega) (by simp)
 · rw [low _ (by omega) (by omega)]; exact h.cp
 · exact (s10.os.trans (s9.os.trans s8.os)).trans ((by rw [hw7]; rfl : w7.os = w6.os).trans (h.gr.os.trans g3.os))
 · exact (s10.tape.trans (s9.tape.trans s8.tape)).trans ((by rw [hw7]; rfl : w7.tape = w6.tape).trans (h.gr.tape.trans g3.tape))
 · exact (s10.output.trans (s9.output.trans s8.output)).trans ((by rw [hw7]; rfl : w7.output = w6.output).trans (h.gr.output.trans g3.output))
 · have := g3.size; omega
 · intro k hk _
   have := g3.size
   rw [low k (by omega) (by omega), h.gr.block k (by omega) (by simp)]
   exact g3.block k hk (by simp)
theorem Yjs {w w3 w10 : World} {E Bd : Nat} {vt vf : Value} {nm : ByteArray} {ar : Int} {vl vp vo vg vlo vk : Value} {out : List (Int × Int)} {org : List Int} (h : AM w w3 w10 E Bd vt vf nm ar vl vp vo vg vlo vk out org) {k : Nat} {o : Obj} (hb : w3.heap[k]? = some o) : w10.heap[k]? = some o := by
 have hk := (Gs hb)
 rcases h.low k (by omega) with e | e
 · rw [e]; exact hb
 · omega
theorem Xcw {w w3 w10 : World} {E Bd : Nat} {vt vf : Value} {nm : ByteArray} {ar : Int} {vl vp vo vg vlo vk : Value} {out : List (Int × Int)} {org : List Int} (h : AM w w3 w10 E Bd vt vf nm ar vl vp vo vg vlo vk out org) : w10.cell? ⟨w3.heap.size, 1, none⟩ = some (.int .i64 ar) := Cq w10 _ 1 _ _ _ h.cp
theorem Xcv {w w3 w10 : World} {E Bd : Nat} {vt vf : Value} {nm : ByteArray} {ar : Int} {vl vp vo vg vlo vk : Value} {out : List (Int × Int)} {org : List Int} (h : AM w w3 w10 E Bd vt vf nm ar vl vp vo vg vlo vk out org) : w10.cell? ⟨w3.heap.size, 2, none⟩ = some vl := Cq w10 _ 2 _ _ _ h.cp
theorem Ywy {w : World} {P0 : Nat} {x y z : Value} (h : w.heap[P0]? = some (.cells #[x, y, z] 32 (0, 0))) : w.cell? ⟨P0, 2, none⟩ = some z := Cq w _ 2 _ _ _ h
def Zjm (ps : List (Int × Int × Int)) (g : Nat) : List (Int × Int) := (Xx ps g 0).1 ++ [(3, 0)] ++ [(18, 0)]
def Zkq (ps : List (Int × Int × Int)) (g : Nat) : List Int := (Xx ps g 0).2.1 ++ [0] ++ [0]
theorem Ysr {ps : List (Int × Int × Int)} {g n : Nat} (h : n = ([] ++ (Xx ps g 0).1 ++ [(3, 0)] ++ [(18, 0)]).length) (h2 : (Zjm ps g).length <= 4096) : (n : Int) <= 4096 := by
 rw [h, List.nil_append]; exact Int.ofNat_le.2 h2
theorem Yqz {w : World} {E Bd : Nat} {vt vf : Value} {nm : ByteArray} {ar : Int} {vl vp vout vorg vlo vk : Value} {out : List (Int × Int)} {org : List Int} (h : Yc w E Bd vt vf nm ar vl vp vout vorg vlo vk out org) : w.cell? ⟨Bd, 6, none⟩ = some vout := Yo h 6
theorem Yqy {w : World} {E Bd : Nat} {vt vf : Value} {nm : ByteArray} {ar : Int} {vl vp vout vorg vlo vk : Value} {out : List (Int × Int)} {org : List Int} (h : Yc w E Bd vt vf nm ar vl vp vout vorg vlo vk out org) : w.cell? ⟨Bd, 7, none⟩ = some vorg := Yo h 7
def Yvn (w : World) (mem : Int) (f : Fun) (g : Nat) (e : Ending) (w' : World) : Prop := ∃ gF cF gO cO vout vorg, e = .returned (.tuple #[.agg #[.int .i64 mem, .slice none 0 0, .slice (some ⟨gF, 0, none⟩) 1 cF], .slice (some ⟨gO, 0, none⟩) 1 cO, .int .i64 0]) /\ w.grownBy w' none /\
 (w.heap.size <= gF /\ w.heap.size <= gO /\ (∀ k, vout.ownBlock = some k -> w.heap.size <= k) /\ (∀ k, vorg.ownBlock = some k -> w.heap.size <= k)) /\
 w'.cell? ⟨gF, 0, none⟩ = some (.int .i64 f.args) /\ w'.cell? ⟨gF, 1, none⟩ = some (.int .i64 f.locals.length) /\ w'.cell? ⟨gF, 2, none⟩ = some (.int .i64 1) /\ w'.cell? ⟨gF, 3, none⟩ = some vout /\ w'.cell? ⟨gO, 0, none⟩ = some vorg /\
 w'.ownsRow 0 75 2 vout (Zjm f.parts g).length (Xi (Zjm f.parts g)) /\ w'.ownsRow 0 3 1 vorg (Zkq f.parts g).length ((Zkq f.parts g).map (Value.int .i64))
theorem Xbe {w3 w6 : World} {Bd bc b6 M B : Nat} {vt vf : Value} {nm : ByteArray} {ar : Int} {vl : Value} {pp : Option Addr} {cp : Nat} {ps : List (Int × Int × Int)} {g : Nat} (h : AE w3 w6 Bd bc b6 M vt vf nm ar vl (.slice pp ps.length cp)) (hp : Zcw w3 B pp ps) (hB : B <= w3.heap.size) (hnp : ps.length <= 17592186044415)
 (hpl : Zea ps g 0 = true) (h1 : (Xx ps g 0).1.length <= 1000000000000) (h2 : (Xx ps g 0).2.1.length <= 1000000000000) :
 Calls Try.prog 43 #[.pointer (some ⟨Bd, 0, none⟩), .int .i64 0] (w6.setCell ⟨Bd, 9, none⟩ (.map (some M))) (Yef (w6.setCell ⟨Bd, 9, none⟩ (.map (some M))) w6.heap.size Bd vt vf nm ar vl (.slice pp ps.length cp) (.slice none 0 0) (.slice none 0 0) (.slice none 0 0) (.map (some M)) [] [] (Xx ps g 0)) :=
 Zta w6.heap.size Bd bc b6 M cp vt vf nm ar vl pp ps hnp (.slice none 0 0) g 0 (.slice none 0 0) (.slice none 0 0) [] [] _ hpl (Yxg h) (Yxf h hp hB) (by simpa using h1) (by simpa using h2)
def Ykc (w wr : World) (mem : Int) (f : Fun) (g P0 R0 : Nat) (v : Value) : Prop := ∃ gF cF gO cO vout vorg, v = .slice (some ⟨gO, 0, none⟩) 1 cO /\
 wr.heap[P0]? = some (.cells #[.int .i64 mem, .slice none 0 0, .slice (some ⟨gF, 0, none⟩) 1 cF] 32 (0, 0)) /\
 wr.heap[R0]? = some (.cells #[.int .i64 0, .slice none 0 0, .slice none 0 0] 32 (0, 0)) /\ w.grownBy wr none /\ P0 ≠ R0 /\ w.heap.size <= P0 /\ w.heap.size <= R0 /\
 (R0 < gF /\ R0 < gO /\ (∀ k, vout.ownBlock = some k -> R0 < k) /\ (∀ k, vorg.ownBlock = some k -> R0 < k)) /\
 wr.cell? ⟨gF, 0, none⟩ = some (.int .i64 f.args) /\ wr.cell? ⟨gF, 1, none⟩ = some (.int .i64 f.locals.length) /\ wr.cell? ⟨gF, 2, none⟩ = some (.int .i64 1) /\ wr.cell? ⟨gF, 3, none⟩ = some vout /\ wr.cell? ⟨gO, 0, none⟩ = some vorg /\
 wr.ownsRow 0 75 2 vout (Zjm f.parts g).length (Xi (Zjm f.parts g)) /\ wr.ownsRow 0 3 1 vorg (Zkq f.parts g).length ((Zkq f.parts g).map (Value.int .i64))
theorem Zgr (p : Option Addr) (n k : Nat) : ∀ u ∈ [Value.slice p n k], u.oneCell' = true := by intro u hu; simp at hu; subst hu; rfl
theorem Zzv {w : World} {base : Nat} {e : TypeId} {size n : Nat} {v : Value} {xs : List Value} (h : w.ownsRow base e size v n xs) : w.ownsRow 0 e size v n xs := by
 refine ⟨h.1, ?_⟩
 rcases h.2 with h | ⟨g, cap, cur, e1, e2, e3⟩
 · exact Or.inl h
 · exact Or.inr ⟨g, cap, cur, e1, Nat.zero_le _, e3⟩
theorem Ylx {w wr w10 w11 w16 : World} {E Bd P0 g1 n1 k1 g2 n2 k2 gF cF gO cO : Nat} {vt vf : Value} {nm : ByteArray} {f : Fun} {g : Nat} {vl vp vlo vk : Value} {out : List (Int × Int)} {org : List Int} {mem : Int} {o : Obj}
 (A : AM w wr w10 E Bd vt vf nm f.args vl vp (.slice (some ⟨g1, 0, none⟩) n1 k1) (.slice (some ⟨g2, 0, none⟩) n2 k2) vlo vk out org) (hout : out = Zjm f.parts g) (horg : org = Zkq f.parts g)
 (hP : wr.heap[P0]? = some (.cells #[.int .i64 mem, .slice none 0 0, .slice none 0 0] 32 (0, 0))) (hR : wr.heap[w.heap.size + 1]? = some (.cells #[.int .i64 0, .slice none 0 0, .slice none 0 0] 32 (0, 0))) (hwP : w.heap.size + 1 < P0)
 (h11 : w10.grownBy w11 none) (own13 : w11.ownsRow w10.heap.size 73 4 (.slice (some ⟨gF, 0, none⟩) 1 cF) 1 [.int .i64 f.args, .int .i64 f.locals.length, .int .i64 1, .slice (some ⟨g1, 0, none⟩) n1 k1])
 (h16 : ((w11.setCell ⟨P0, 2, none⟩ (.slice (some ⟨gF, 0, none⟩) 1 cF)).alloc o).grownBy w16 none) (own16 : w16.ownsRow w11.heap.size 47 1 (.slice (some ⟨gO, 0, none⟩) 1 cO) 1 [.slice (some ⟨g2, 0, none⟩) n2 k2]) :
 Ykc w w16 mem f g P0 (w.heap.size + 1) (.slice (some ⟨gO, 0, none⟩) 1 cO) := by
 have hP0 := (Gs hP)
 have eB := A.eB
 have hE := A.code.lt
 have hE2 := A.code.le
 have hz11 := h11.size
 have hP11 := Zu (Yjs A hP) h11 (by simp)
 have hR11 := Zu (Yjs A hR) h11 (by simp)
 have bF := (own13.lt gF rfl).1
 have b1 := (A.code.out.lt g1 rfl).1
 have b2 := (A.code.org.lt g2 rfl).1
 have bO := (own16.lt gO rfl).1
 have hset : w11.grownBy (w11.setCell ⟨P0, 2, none⟩ (.slice (some ⟨gF, 0, none⟩) 1 cF)) (some P0) := Zd w11 P0 2 _
 have hal : (w11.setCell ⟨P0, 2, none⟩ (.slice (some ⟨gF, 0, none⟩) 1 cF)).grownBy w16 none := Za (Ga _ o none) h16
 have cF' : ∀ j u, [Value.int .i64 f.args, .int .i64 f.locals.length, .int .i64 1, .slice (some ⟨g1, 0, none⟩) n1 k1][j]? = some u -> w16.cell? ⟨gF, j, none⟩ = some u := by
  intro j u hj
  have hc := own13.cells (g := gF) rfl j u hj
  have ea : (⟨gF, 0, none⟩ : Addr).add j = ⟨gF, j, none⟩ := by
   unfold Addr.add
   by_cases hj0 : j = 0
   · subst hj0; simp
   · simp [hj0]
  rw [ea] at hc
  exact hal.cell (hset.cell hc (by simp; omega)) (by simp)
 refine ⟨gF, cF, gO, cO, .slice (some ⟨g1, 0, none⟩) n1 k1, .slice (some ⟨g2, 0, none⟩) n2 k2, rfl, ?_, ?_, ?_, by omega, by omega, by omega, ⟨by omega, by omega, fun k e => by simp [Value.ownBlock] at e; omega, fun k e => by simp [Value.ownBlock] at e; omega⟩,
  cF' 0 _ rfl, cF' 1 _ rfl, cF' 2 _ rfl, cF' 3 _ rfl, ?_, ?_, ?_⟩
 · refine Zu ?_ hal (by simp)
   rw [Zh hP11]; rfl
 · exact Zu (Zu hR11 hset (by simp; omega)) hal (by simp)
 · exact Jc (r := none) (b := P0) (Za A.gr h11) (Za hset (Jh hal)) (by omega)
 · have hc := own16.cells (g := gO) rfl 0 _ rfl
   simpa [Addr.add] using hc
 · rw [<- hout]
   exact Zzv (((A.code.out.kept h11 (Classical.em _)).kept hset (Or.inr (by simp [Value.ownBlock]; omega))).kept hal (Classical.em _))
 · rw [<- horg]
   exact Zzv (((A.code.org.kept h11 (Classical.em _)).kept hset (Or.inr (by simp [Value.ownBlock]; omega))).kept hal (Classical.em _))
theorem Zog (u : Un) (f : Fun) (g : Nat) (hut : u.texts = []) (huf : u.funcs = [f]) (hck : Ys u = 0) (hu : Yre u) (mem : Int) (hm0 : 0 <= mem) (hm1 : mem <= 65536) (hpl : Zea f.parts g 0 = true) (hl1 : (Zjm f.parts g).length <= 4096) (hl2 : (Zkq f.parts g).length <= 4096)
 (pt pf : Option Addr) (ct cf B : Nat) (w : World) (hU : Zab w B pt pf u) :
 Calls Try.prog 27 #[.agg #[.slice pt 0 ct, .slice pf 1 cf], .int .i64 mem] w (Yvn w mem f g) := by
 have hlt : u.texts.length = 0 := by rw [hut]; rfl
 have hlf : u.funcs.length = 1 := by rw [huf]; rfl
 have hcA := fun w' (hU' : Zab w' B pt pf u) => Zhb u hu pt pf ct cf B w' hU'
 rw [hck, hlt, hlf] at hcA
 have CA := Hq hcA
 have hsA : ∀ w' : World, Calls Try.prog 41 #[.slice pt 0 ct] w' fun e w'' => e = .returned (.int .i64 0) /\ w'.grownBy w'' none := fun w' => Zlr [] (by simp) (fun x hx => absurd hx (by simp)) pt ct 0 w' (fun h => absurd h (by simp)) (Nat.zero_le _)
 have SA := Hq hsA
 have UU := Hq hU
 have m0 : ¬ mem < 0 := by omega
 have m1 : ¬ 65536 < mem := by omega
 clear hcA hsA hU
 go_enter Try.func27, Try.ntmps27
 go_wp2_with (first
  | (go_at_call 22; refine (CA.out _ (Yl UU.out (Za (Ga w _ none) (Ga _ _ none)) (by simp))).mono ?_; rintro e w1 ⟨rfl, hg1⟩; have G1 := Hq hg1; have b0 := hg1.cell (a := ⟨w.heap.size, 0, none⟩) (v := .slice pt 0 ct) (by simp) (by simp); have b1 := hg1.cell (a := ⟨w.heap.size, 1, none⟩) (v := .slice pf 1 cf) (by simp) (by simp); have hz1 := Ylh hg1; clear hg1)
  | (go_at_call 41; refine (SA.out _).mono ?_; rintro e w2 ⟨rfl, hg2⟩; have G2 := Hq hg2; have d0 := hg2.cell (a := ⟨w.heap.size, 0, none⟩) (v := .slice pt 0 ct) b0 (by simp); have d1 := hg2.cell (a := ⟨w.heap.size, 1, none⟩) (v := .slice pf 1 cf) b1 (by simp); have hz2 := Nat.lt_of_lt_of_le hz1 hg2.size; have hz3 := Nat.lt_of_succ_lt hz2; clear hg2))
 have g3 : w.grownBy (w2.alloc (.cells #[.int .i64 mem, .slice none 0 0, .slice none 0 0] 32)) none := Za (Za (Za (Za (Ga w _ none) (Ga _ _ none)) G1.out) G2.out) (Ga _ _ none)
 have r3 : (w2.alloc (.cells #[.int .i64 mem, .slice none 0 0, .slice none 0 0] 32)).heap[w.heap.size + 1]? = some (.cells #[.int .i64 0, .slice none 0 0, .slice none 0 0] 32 (0, 0)) :=
  Zu (Zu (Zu (Zfr w _ _) G1.out (by simp)) G2.out (by simp)) (Ga _ _ none) (by simp)
 have p3 : (w2.alloc (.cells #[.int .i64 mem, .slice none 0 0, .slice none 0 0] 32)).heap[w2.heap.size]? = some (.cells #[.int .i64 mem, .slice none 0 0, .slice none 0 0] 32 (0, 0)) := heap_alloc_new _ _
 have u3 : Ykh (w2.alloc (.cells #[.int .i64 mem, .slice none 0 0, .slice none 0 0] 32)) w.heap.size (.slice pt 0 ct) (.slice pf 1 cf) :=
  Yi (Yi (Yi (Yi (Zhy w _ _) (Ga _ _ none) (by simp)) G1.out (by simp)) G2.out (by simp)) (Ga _ _ none) (by simp)
 have hw23 : w2.heap.size < (w2.alloc (.cells #[.int .i64 mem, .slice none 0 0, .slice none 0 0] 32)).heap.size := by simp
 generalize w2.alloc (.cells #[.int .i64 mem, .slice none 0 0, .slice none 0 0] 32) = w3 at *
 have G3 := Hq g3
 have P3 := Hq p3
 have R3 := Hq r3
 have U3 := Hq u3
 have e0 := Zbv u3
 have e1 := Zbu u3
 have hz4 : w.heap.size < w3.heap.size := Jd u3
 clear g3 p3 r3 u3 d0 d1 b0 b1 G1 G2
 generalize hP0 : w2.heap.size = P0 at *
 clear hP0
 go_loop [39] (fun i => i = .int .i64 0) (fun _ => 0)
 case atStart => exact rfl
 case round =>
  subst hrel
  go_wp2
  obtain ⟨bF, oF, rfl, hbF, hcF⟩ := UU.out.funcs (by omega)
  obtain ⟨q0, q1, ⟨pl, cl, q2, _⟩, ⟨pp, cp, q3, hpp⟩⟩ := hcF 0 f (by rw [huf]; rfl)
  simp only [Nat.zero_mul, Nat.add_zero] at q0 q1 q2 q3
  have hBw := UU.out.le
  replace q0 := G3.out.cell q0 (by simp)
  replace q1 := G3.out.cell q1 (by simp)
  replace q2 := G3.out.cell q2 (by simp)
  replace q3 := G3.out.cell q3 (by simp)
  have hbF3 : bF < w3.heap.size := by omega
  have hB3 : B <= w3.heap.size := by omega
  have PP := Hq (Zio hpp G3.out (by simp))
  have hnm := hu.name f (by rw [huf]; exact List.mem_cons_self ..)
  have hnp := hnm.2.2.1
  have hle1 : (Xx f.parts g 0).1.length <= 1000000000000 := by simp only [Zjm, List.length_append, List.length_cons, List.length_nil] at *; omega
  have hle2 : (Xx f.parts g 0).2.1.length <= 1000000000000 := by simp only [Zkq, List.length_append, List.length_cons, List.length_nil] at *; omega
  have hle3 : (([] : List (Int × Int)) ++ (Xx f.parts g 0).1 ++ [(3, 0)]).length <= 1000000000000 := by simp only [Zjm, List.length_append, List.length_cons, List.length_nil] at *; omega
  have hle4 : (([] : List Int) ++ (Xx f.parts g 0).2.1 ++ [0]).length <= 1000000000000 := by simp only [Zkq, List.length_append, List.length_cons, List.length_nil] at *; omega
  have HL := Hq (And.intro hle1 (And.intro hle2 (And.intro hle3 hle4)))
  have HC := Hq (And.intro hl1 hl2)
  clear hcF hpp hnm hle1 hle2 hle3 hle4 hl1 hl2 hu CA SA
  obtain ⟨fi, fi0, fi1, fi2, fi3⟩ := info_parts Zux
  obtain ⟨ii, ii0, ii1, ii2, ii3⟩ := info_parts Zgv
  go_loopw [11, 53] (fun v i wr => (i = .int .i64 0 /\ v = .slice none 0 0 /\ wr = w3) \/ (i = .int .i64 1 /\ Ykc w wr mem f g P0 (w.heap.size + 1) v)) (fun _ i _ => 1 - (intOf i).toNat)
  case atStart => exact Or.inl ⟨rfl, rfl, rfl⟩
  case round =>
   rcases hrel with ⟨rfl, rfl, rfl⟩ | ⟨rfl, hd⟩
   · go_wp2_with (first
      | (go_at_call 42; refine (Ybc _ _).mono ?_; intro e w6 hp; obtain ⟨bc, b6, M, rfl, hA⟩ := Yxh hp; have A6 := Hq hA; have WA := Hq (Xbe (g := g) hA PP.out hB3 hnp hpl HL.out.1 HL.out.2.1); have d9 := Cq w6 _ 9 _ _ _ hA.hb; have z9 := frozen_of_row w6 _ 9 _ _ hA.hb; have hlt6 := (Gs hA.hb); clear hA hp)
      | (go_at_call 43; refine WA.out.mono ?_; intro e w8 hp; obtain ⟨rfl, hsp, vo8, vg8, hC8, hrow⟩ := hp; have S8 := Hq hsp; have C8 := Hq hC8; have R8 := Hq hrow; have E9 := Hq (Zbq _ _ _ _ _ _ _ _ _ _ _ _ _ _ 0 3 0 _ hC8 HL.out.1 HL.out.2.1); clear hsp hC8 hrow)
      | (go_at_call 44; refine E9.out.mono ?_; clear E9; intro e w9 hp; obtain ⟨rfl, hsp, vo9, vg9, hC9, hrow⟩ := hp; have S9 := Hq hsp; have C9 := Hq hC9; have R9 := Hq hrow; have E10 := Hq (Zbq _ _ _ _ _ _ _ _ _ _ _ _ _ _ 0 18 0 _ hC9 HL.out.2.2.1 HL.out.2.2.2); clear hsp hC9 hrow)
      | (go_at_call 44; refine E10.out.mono ?_; clear E10; intro e w10 hp; obtain ⟨rfl, hsp, vo, vg, hC10, hrow⟩ := hp; obtain ⟨g1, k1, n1, hv1, hn1⟩ := Ygm hC10.out; subst hv1; obtain ⟨g2, k2, n2, hv2, hn2⟩ := Ygm hC10.org; subst hv2; have hn3 := Ysr hn1 HC.out.1; have HN1 := Hq hn1; have HN2 := Hq hn2; have c6 := Yqz hC10; have c7 := Yqy hC10; have hlt10 := Nat.lt_of_lt_of_le hC10.lt hC10.le; have hA10 := Xbf A6.out rfl G3.out S8.out R8.out S9.out R9.out hsp hC10; have A10 := Hq hA10; have hP10 := Yjs hA10 P3.out; have k0 := Ywy hP10; have z0 := frozen_of_row w10 P0 2 _ _ hP10; have k1c := Xcw hA10; have k2c := Xcv hA10; have hlP := (Gs hP10); have hlC := (Gs hA10.cp); clear hA10; clear hsp hC10 hrow hn1 hn2))
     have hCP : wr.heap.size ≠ P0 := by have := (Gs P3.out); omega
     have hBP : wr.heap.size + 1 ≠ P0 := by have := (Gs P3.out); omega
     generalize hC0 : wr.heap.size = C0 at *
     generalize hBd : C0 + 1 = Bd at *
     obtain ⟨v13, w11, hrun13, hown13, hgr13, _⟩ := run_append_own (P := Try.prog) (w10.drew.alloc (.cells #[.int .i64 f.args, .int .i64 f.locals.length, .int .i64 1, .slice (some ⟨g1, 0, none⟩) n1 k1] 73)) w10.heap.size 30 30 73 fi (.agg #[.int .i64 0, .int .i64 0, .int .i64 0, .slice none 0 0]) 4 48 Yav fi0 fi1 fi2 fi3 rfl (by decide) (.slice none 0 0) 0 [] (World.ownsRow_nil _ _ _ _) ⟨w10.heap.size, 0, none⟩ 1 1 [.int .i64 f.args, .int .i64 f.locals.length, .int .i64 1, .slice (some ⟨g1, 0, none⟩) n1 k1] rfl (Yaw w10 _ _ _ _ _) (Zuz _ _ _ _ _ _) (by decide) (by decide) (by simp)
     obtain ⟨gF, cF, rfl⟩ := Yk hown13
     have hg11 : w10.grownBy w11 none := Ydg hgr13
     have k0' := hg11.cell k0 (by simp)
     have hP11 := Zu hP10 hg11 (by simp)
     have z0' := frozen_of_row w11 P0 2 _ _ hP11
     refine Zto (N := 104) (n := 16) (dst := dR) (val := vR P0 C0 Bd w10.heap.size f.args f.locals.length (.slice pl f.locals.length cl) (.slice (some ⟨g1, 0, none⟩) n1 k1) (.slice (some ⟨gF, 0, none⟩) 1 cF)) (WS := Ybl w10.drew (w10.drew.alloc (.cells #[.int .i64 f.args, .int .i64 f.locals.length, .int .i64 1, .slice (some ⟨g1, 0, none⟩) n1 k1] 73)) w11 (w11.setCell ⟨P0, 2, none⟩ (.slice (some ⟨gF, 0, none⟩) 1 cF))) (by kernel_rfl) rfl rfl (Zvk (by kernel_rfl)) (Zze _ _ _ _) ?step ?fin
     case step =>
      intro l a w' i hJ hW hi
      have hi16 : i < 16 := by
       obtain ⟨_, o, ho, _⟩ := mem_ready.1 hi
       exact (Gs ho)
      have t8 : a.tmps.getD 8 undef = .pointer (some ⟨P0, 0, none⟩) := hJ.un 8 (fun i _ _ e => by have := Ydq i; omega)
      have t13 : a.tmps.getD 13 undef = .pointer (some ⟨C0, 0, none⟩) := hJ.un 13 (fun i _ _ e => by have := Ydq i; omega)
      have t14 : a.tmps.getD 14 undef = .pointer (some ⟨Bd, 0, none⟩) := hJ.un 14 (fun i _ _ e => by have := Ydq i; omega)
      have keep4 : ∀ b o v, w10.cell? ⟨b, o, none⟩ = some v -> b ≠ P0 -> w'.cell? ⟨b, o, none⟩ = some v := by
       intro b o v hc hb
       rcases Ypx hW with rfl | rfl | rfl | rfl
       · exact hc
       · exact (Ga w10.drew _ none).cell hc (by simp)
       · exact hg11.cell hc (by simp)
       · exact (Zd w11 P0 2 _).cell (hg11.cell hc (by simp)) (by simpa using hb)
      have hun : l.getD i false = false := getD_both (mem_ready.1 hi).1
      rcases Yfa i hi16 with rfl | rfl | rfl | rfl | rfl | rfl | rfl | rfl | rfl | rfl | rfl | rfl | rfl | rfl | rfl | rfl
      · exact Yg hJ rfl rfl rfl (by decide) (by decide) (Zav _ (by decide)) (w' := w') (by simp [execOp, Act.eval, t8, go_sem, vR]) (Yv hW (by decide) (by decide) (by decide))
      · have e0 : a.tmps.getD 79 undef = .pointer (some ⟨P0, 2, none⟩) := (hJ.sl 0 (by decide) (Zb hi 0 (by kernel_rfl)) (by decide))
        have hcell : w'.cell? ⟨P0, 2, none⟩ = some (.slice none 0 0) := by
         rcases Ypv hW hun with rfl | rfl
         · exact k0
         · exact (Ga w10.drew _ none).cell k0 (by simp)
        exact Yg hJ rfl rfl rfl (by decide) (by decide) (Zav _ (by decide)) (w' := w') (by simp [execOp, Act.eval, e0, hcell, go_sem, vR]) (Yv hW (by decide) (by decide) (by decide))
      · exact Yg hJ rfl rfl rfl (by decide) (by decide) (Zav _ (by decide)) (w' := w') (by simp [execOp, Act.eval, t13, go_sem, vR]) (Yv hW (by decide) (by decide) (by decide))
      · have e2 : a.tmps.getD 81 undef = .pointer (some ⟨C0, 1, none⟩) := (hJ.sl 2 (by decide) (Zb hi 2 (by kernel_rfl)) (by decide))
        have hcell := keep4 _ _ _ k1c hCP
        exact Yg hJ rfl rfl rfl (by decide) (by decide) (Zav _ (by decide)) (w' := w') (by simp [execOp, Act.eval, e2, hcell, go_sem, vR]) (Yv hW (by decide) (by decide) (by decide))
      · exact Yg hJ rfl rfl rfl (by decide) (by decide) (Zav _ (by decide)) (w' := w') (by simp [execOp, Act.eval, t13, go_sem, vR]) (Yv hW (by decide) (by decide) (by decide))
      · have e4 : a.tmps.getD 83 undef = .pointer (some ⟨C0, 2, none⟩) := (hJ.sl 4 (by decide) (Zb hi 4 (by kernel_rfl)) (by decide))
        have hcell := keep4 _ _ _ k2c hCP
        exact Yg hJ rfl rfl rfl (by decide) (by decide) (Zav _ (by decide)) (w' := w') (by simp [execOp, Act.eval, e4, hcell, go_sem, vR]) (Yv hW (by decide) (by decide) (by decide))
      · have e5 : a.tmps.getD 84 undef = .slice pl f.locals.length cl := (hJ.sl 5 (by decide) (Zb hi 5 (by kernel_rfl)) (by decide))
        exact Yg hJ rfl rfl rfl (by decide) (by decide) (Zav _ (by decide)) (w' := w') (by simp [execOp, Act.eval, e5, go_sem, vR]) (Yv hW (by decide) (by decide) (by decide))
      · exact Yg hJ rfl rfl rfl (by decide) (by decide) (Zav _ (by decide)) (w' := w') (by simp [execOp, Act.eval, t14, go_sem, vR]) (Yv hW (by decide) (by decide) (by decide))
      · have e7 : a.tmps.getD 86 undef = .pointer (some ⟨Bd, 0, none⟩) := (hJ.sl 7 (by decide) (Zb hi 7 (by kernel_rfl)) (by decide))
        exact Yg hJ rfl rfl rfl (by decide) (by decide) (Zav _ (by decide)) (w' := w') (by simp [execOp, Act.eval, e7, go_sem, vR]) (Yv hW (by decide) (by decide) (by decide))
      · have e8 : a.tmps.getD 87 undef = .pointer (some ⟨Bd, 0, none⟩) := (hJ.sl 8 (by decide) (Zb hi 8 (by kernel_rfl)) (by decide))
        exact Yg hJ rfl rfl rfl (by decide) (by decide) (Zav _ (by decide)) (w' := w') (by simp [execOp, Act.eval, e8, go_sem, vR]) (Yv hW (by decide) (by decide) (by decide))
      · have e9 : a.tmps.getD 88 undef = .pointer (some ⟨Bd, 6, none⟩) := (hJ.sl 9 (by decide) (Zb hi 9 (by kernel_rfl)) (by decide))
        have hcell := keep4 _ _ _ c6 hBP
        exact Yg hJ rfl rfl rfl (by decide) (by decide) (Zav _ (by decide)) (w' := w') (by simp [execOp, Act.eval, e9, hcell, go_sem, vR]) (Yv hW (by decide) (by decide) (by decide))
      · have e3 : a.tmps.getD 82 undef = .int .i64 f.args := (hJ.sl 3 (by decide) (Zb hi 3 (by kernel_rfl)) (by decide))
        have e6 : a.tmps.getD 85 undef = .int .i64 f.locals.length := (hJ.sl 6 (by decide) (Zb hi 6 (by kernel_rfl)) (by decide))
        have e10 : a.tmps.getD 89 undef = .slice (some ⟨g1, 0, none⟩) n1 k1 := (hJ.sl 10 (by decide) (Zb hi 10 (by kernel_rfl)) (by decide))
        exact Yg hJ rfl rfl rfl (by decide) (by decide) (Zav _ (by decide)) (w' := w') (by rw [Array.getD_eq_getD_getElem?] at e3 e6 e10; simp [execOp, Act.eval, e3, e6, e10, go_sem, vR]) (Yv hW (by decide) (by decide) (by decide))
      · have e11 : a.tmps.getD 90 undef = .agg #[.int .i64 f.args, .int .i64 f.locals.length, .int .i64 1, .slice (some ⟨g1, 0, none⟩) n1 k1] := (hJ.sl 11 (by decide) (Zb hi 11 (by kernel_rfl)) (by decide))
        obtain ⟨rfl, hW'⟩ := Ywa hW hun
        exact Yg hJ rfl rfl rfl (by decide) (by decide) (Zav _ (by decide)) (by rw [Array.getD_eq_getD_getElem?] at e11; simp [execOp, Act.eval, e11, go_sem, vR]) hW'
      · have e1 : a.tmps.getD 80 undef = .slice none 0 0 := (hJ.sl 1 (by decide) (Zb hi 1 (by kernel_rfl)) (by decide))
        have e12 : a.tmps.getD 91 undef = .slice (some ⟨w10.heap.size, 0, none⟩) 1 1 := (hJ.sl 12 (by decide) (Zb hi 12 (by kernel_rfl)) (by decide))
        obtain ⟨rfl, hW'⟩ := Yvz hW hun (Zb hi 12 (by kernel_rfl)) (Zb hi 1 (by kernel_rfl))
        exact Yg hJ rfl rfl rfl (by decide) (by decide) (Zav _ (by decide)) (by simp [execOp, resolve, invoke, builtin, Act.eval, e1, e12, hrun13, Result.andThen, vR]) hW'
      · exact Yg hJ rfl rfl rfl (by decide) (by decide) (Zav _ (by decide)) (w' := w') (by simp [execOp, Act.eval, t8, go_sem, vR]) (Yv hW (by decide) (by decide) (by decide))
      · have e13 : a.tmps.getD 92 undef = .slice (some ⟨gF, 0, none⟩) 1 cF := (hJ.sl 13 (by decide) (Zb hi 13 (by kernel_rfl)) (by decide))
        have e14 : a.tmps.getD 93 undef = .pointer (some ⟨P0, 2, none⟩) := (hJ.sl 14 (by decide) (Zb hi 14 (by kernel_rfl)) (by decide))
        obtain ⟨rfl, hW'⟩ := Yvy hW hun (Zb hi 13 (by kernel_rfl))
        exact Zkf hJ rfl rfl rfl (by decide) (by decide) (by simp [execOp, Act.eval, e13, e14, k0', z0', go_sem]) hW'
     case fin =>
      intro l a w' hJ hW hl
      have hw := Ypw hW (hl 15 (by decide))
      subst hw
      have hput := Zzn (aF := Ja _ dR (vR P0 C0 Bd w10.heap.size f.args f.locals.length (.slice pl f.locals.length cl) (.slice (some ⟨g1, 0, none⟩) n1 k1) (.slice (some ⟨gF, 0, none⟩) 1 cF)) 15) hJ hl (Jj rfl 15) (Zbi 15) (fun i hi hd => Zhp rfl 15 (fun i j h1 h2 h3 => Zav j (by omega) i (by omega) h3) i (by by_cases h : i = 15 <;> first | omega | (subst h; exact absurd hd (by decide))) hd) (fun j hj => Zes 15 j (fun i hi => hj i (by omega)))
      subst hput
      clear hJ hW hl
      simp only [Ja, dR, vR, Act.put, Nat.reduceLT, if_true, ite_true, Nat.reduceAdd, List.setIfInBounds_toArray, List.set_cons_zero, List.set_cons_succ]
      have d7 : (w11.setCell ⟨P0, 2, none⟩ (.slice (some ⟨gF, 0, none⟩) 1 cF)).cell? ⟨Bd, 7, none⟩ = some (.slice (some ⟨g2, 0, none⟩) n2 k2) := (Zd w11 P0 2 _).cell (hg11.cell c7 (by simp)) (by simpa using hBP)
      have hlt15 : Bd < (w11.setCell ⟨P0, 2, none⟩ (.slice (some ⟨gF, 0, none⟩) 1 cF)).heap.size := by rw [World.size_setCell]; exact Nat.lt_of_lt_of_le hlt10 hg11.size
      have hb16 : ∀ o, w11.heap.size <= ((w11.setCell ⟨P0, 2, none⟩ (.slice (some ⟨gF, 0, none⟩) 1 cF)).alloc o).heap.size := by intro o; simp
      have O13 := Hq hown13
      have H11 := Hq hg11
      clear hown13 hg11 hrun13 hgr13 k0' hP11 z0'
      go_wp2_with (at_builtin; refine wpList_append_own_at _ rfl _ _ 41 rfl w11.heap.size 47 ii (.slice none 0 0) 1 24 Zjj ii0 ii1 ii2 ii3 rfl (by decide) _ _ _ rfl (World.ownsRow_nil _ _ _ _) ⟨w11.heap.size, 0, none⟩ 1 1 [.slice (some ⟨g2, 0, none⟩) n2 k2] rfl rfl (Zrb w11 P0 2 _ _ _) (Zgr _ _ _) (by decide) (by decide) (hb16 _) ?_; intro v16 w16 hown16 hgr16 hnil16 hat16; obtain ⟨gO, cO, hvO⟩ := Yk hown16; subst hvO; have O16 := Hq hown16; have G16 := Hq hgr16; clear hown16 hgr16 hnil16 hat16)
      go_roundw
      case rel => exact Or.inr ⟨by go_num, Ylx A10.out rfl rfl P3.out R3.out hz2 H11.out O13.out G16.out O16.out⟩
      case measure => simp [intOf]
   · obtain ⟨gF, cF, gO, cO, vout, vorg, rfl, hP, hR, hgr, hne, hP0, hR0, ⟨d1, d2, d3, d4⟩, k0, k1, k2, k3, k4, o1, o2⟩ := hd
     have p0 := Cq wr P0 0 _ _ _ hP
     have p1 := Cq wr P0 1 _ _ _ hP
     have p2 := Cq wr P0 2 _ _ _ hP
     have r0 := Cq wr _ 0 _ _ _ hR
     have r1 := Cq wr _ 1 _ _ _ hR
     have r2 := Cq wr _ 2 _ _ _ hR
     have z0 := frozen_of_row wr _ 0 _ _ hR
     have z1 := frozen_of_row wr _ 1 _ _ hR
     have z2 := frozen_of_row wr _ 2 _ _ hR
     have hlP := (Gs hP)
     have hlR := (Gs hR)
     have HH := Hq (And.intro k0 (And.intro k1 (And.intro k2 (And.intro k3 (And.intro k4 (And.intro o1 o2))))))
     have HGR := Hq hgr
     clear k0 k1 k2 k3 k4 o1 o2 hgr hP hR
     go_wp2
     refine bodyPost_ret (v := .tuple #[.agg #[.int .i64 mem, .slice none 0 0, .slice (some ⟨gF, 0, none⟩) 1 cF], .slice (some ⟨gO, 0, none⟩) 1 cO, .int .i64 0]) ?_ rfl ?_
     · rw [Yu rfl]
       go_simp
     · obtain ⟨k0, k1, k2, k3, k4, o1, o2⟩ := HH.out
       have hT : wr.grownBy (((wr.setCell ⟨w.heap.size + 1, 0, none⟩ (.int .i64 mem)).setCell ⟨w.heap.size + 1, 1, none⟩ (.slice none 0 0)).setCell ⟨w.heap.size + 1, 2, none⟩ (.slice (some ⟨gF, 0, none⟩) 1 cF)) (some (w.heap.size + 1)) :=
        Za (Za (Zd wr _ 0 _) (Zd _ _ 1 _)) (Zd _ _ 2 _)
       exact ⟨gF, cF, gO, cO, vout, vorg, rfl, Jc HGR.out hT (by omega), ⟨by omega, by omega, fun k e => by have := d3 k e; omega, fun k e => by have := d4 k e; omega⟩, hT.cell k0 (by simp; omega), hT.cell k1 (by simp; omega), hT.cell k2 (by simp; omega), hT.cell k3 (by simp; omega), hT.cell k4 (by simp; omega), o1.kept hT (Or.inr (fun e => by have := d3 _ e; omega)), o2.kept hT (Or.inr (fun e => by have := d4 _ e; omega))⟩
end Go.Proofs.Ytecaolkbllbokaa.TG
