import Derived.Test.YtecaolkbllbokaaMT04
import Derived.Deep.RegionHeld3
import Derived.Deep.RegionWith
import Derived.StillTailTactics
import Derived.MapKept
import Derived.MapFrom
set_option linter.unusedSimpArgs false
set_option linter.unusedVariables false
set_option maxRecDepth 100000
set_option maxHeartbeats 16000000
namespace Go.Proofs.Ytecaolkbllbokaa.TG
open Go.RowKit Go.Great
theorem Ylj (n : Int) (w : World) : Calls Try.prog 69 #[.int .i64 n] w fun e w' => e = .returned (.int .i64 n) /\ w = w' := by
 go_enter Try.func69, Try.ntmps69
 go_wp2
 go_ret
 exact ⟨rfl, rfl⟩
theorem Ybz (n : Int) (w : World) : Calls Try.prog 69 #[.int .i64 n] w fun e w' => e = .returned (.int .i64 n) /\ w' = w := (Ylj n w).mono fun e w' h => ⟨h.1, h.2.symm⟩
theorem Zaa {w w' : World} {E Bd : Nat} {vt vf : Value} {nm : ByteArray} {ar : Int} {vl vp vout vorg vlo vk : Value} {out : List (Int × Int)} {org : List Int} (h : Yc w E Bd vt vf nm ar vl vp vout vorg vlo vk out org) (g : w.grownBy w' none) :
 Yc w' E Bd vt vf nm ar vl vp vout vorg vlo vk out org :=
 ⟨Zu h.box g (by simp), h.out.kept g (Classical.em _), h.org.kept g (Classical.em _), h.lt, Nat.le_trans h.le g.size⟩
theorem Zwp {P : Nat -> Prop} {w w' : World} (h : Sp P w.drew w') : Sp P w w' := ⟨h.os, h.tape, h.output, h.size, h.block⟩
structure GN (w w' : World) : Prop where
 out : w.grownBy w' none
theorem Ztb (E Bd b3 b4 bc bp op cp np at_ : Nat) (vt vf : Value) (nm : ByteArray) (ar : Int) (vl vout vorg vlo vk : Value) (out : List (Int × Int)) (org : List Int) (o n : Int) (w : World)
 (hC : Yc w E Bd vt vf nm ar vl (.slice (some ⟨bp, op, none⟩) np cp) vout vorg vlo vk out org) (ho : out.length <= 1000000000000) (hg : org.length <= 1000000000000) (hat : at_ < np) (hnp : np <= 17592186044415)
 (h3 : w.cell? ⟨b3, 0, none⟩ = some (.int .i64 o)) (h4 : w.cell? ⟨b4, 0, none⟩ = some (.func (.func 69) #[] #[])) (hc : w.cell? ⟨bc, 0, none⟩ = some (.pointer (some ⟨Bd, 0, none⟩))) (hn : w.cell? ⟨bp, op + at_ * 3 + 1, none⟩ = some (.int .i64 n))
 (hb : bp < w.heap.size) (hbc : bc < w.heap.size) (hb3 : b3 < w.heap.size) (hb4 : b4 < w.heap.size) :
 Calls Try.prog 68 #[.iface 110 (.pointer (some ⟨Bd, 0, none⟩)), .int .i64 at_, .pointer (some ⟨b3, 0, none⟩), .pointer (some ⟨b4, 0, none⟩), .pointer (some ⟨bc, 0, none⟩)] w (Zia w E Bd vt vf nm ar vl (.slice (some ⟨bp, op, none⟩) np cp) vout vorg vlo vk out org at_ o n) := by
 have hm := Zbc ⟨Bd, 0, none⟩
 have hni := Zlt ⟨Bd, 0, none⟩
 have EM := Hq (Zbq E Bd vt vf nm ar vl (.slice (some ⟨bp, op, none⟩) np cp) vout vorg vlo vk out org at_ o n w.drew (Zaa hC (Zf (Ze w none))) ho hg)
 have hd : w.cell? ⟨Bd, 5, none⟩ = some (.slice (some ⟨bp, op, none⟩) np cp) := Yo hC 5
 have hBd : Bd < w.heap.size := Nat.lt_of_lt_of_le hC.lt hC.le
 have hgn : GN w w := ⟨Ze _ _⟩
 have hai : (at_ : Int) < (np : Int) := by omega
 clear hC
 go_enter Try.func68, Try.ntmps68
 go_wp2
 refine wp_region_still_tail 17 (by kernel_rfl) (by kernel_rfl) ?_
 simp only [List.take_succ_cons, List.take_zero, List.drop_succ_cons, List.drop_zero]
 repeat still_step
 still_call (Ybz _ _)
 repeat still_step
 refine wpStill_nil ?_
 go_wp2_with (go_at_call 44; refine EM.out.mono ?_; intro e w1 hp; obtain ⟨rfl, hsp, hrest⟩ := hp; have SP := Hq hsp; have RS := Hq hrest; clear hsp hrest)
 go_ret
 exact ⟨rfl, Zwp SP.out, RS.out⟩
theorem Zne (E Bd bc bp op cp np at_ : Nat) (vt vf : Value) (nm : ByteArray) (ar : Int) (vl vout vorg vlo vk : Value) (out : List (Int × Int)) (org : List Int) (n : Int) (w : World)
 (hC : Yc w E Bd vt vf nm ar vl (.slice (some ⟨bp, op, none⟩) np cp) vout vorg vlo vk out org) (ho : out.length <= 1000000000000) (hg : org.length <= 1000000000000) (hat : at_ < np) (hnp : np <= 17592186044415)
 (hc : w.cell? ⟨bc, 0, none⟩ = some (.pointer (some ⟨Bd, 0, none⟩))) (hn : w.cell? ⟨bp, op + at_ * 3 + 1, none⟩ = some (.int .i64 n))
 (hb : bp < w.heap.size) (hbc : bc < w.heap.size) :
 Calls Try.prog 70 #[.iface 110 (.pointer (some ⟨Bd, 0, none⟩)), .int .i64 at_, .pointer (some ⟨bc, 0, none⟩)] w (Zia w E Bd vt vf nm ar vl (.slice (some ⟨bp, op, none⟩) np cp) vout vorg vlo vk out org at_ n 0) := by
 have hm := Zbc ⟨Bd, 0, none⟩
 have hni := Zlt ⟨Bd, 0, none⟩
 have EM := Hq (Zbq E Bd vt vf nm ar vl (.slice (some ⟨bp, op, none⟩) np cp) vout vorg vlo vk out org at_ n 0 w.drew (Zaa hC (Zf (Ze w none))) ho hg)
 have hd : w.cell? ⟨Bd, 5, none⟩ = some (.slice (some ⟨bp, op, none⟩) np cp) := Yo hC 5
 have hBd : Bd < w.heap.size := Nat.lt_of_lt_of_le hC.lt hC.le
 have hai : (at_ : Int) < (np : Int) := by omega
 clear hC
 go_enter Try.func70, Try.ntmps70
 go_wp2
 refine wp_region_still_tail 14 (by kernel_rfl) (by kernel_rfl) ?_
 simp only [List.take_succ_cons, List.take_zero, List.drop_succ_cons, List.drop_zero]
 repeat still_step
 refine wpStill_nil ?_
 go_wp2_with (go_at_call 44; refine EM.out.mono ?_; intro e w1 hp; obtain ⟨rfl, hsp, hrest⟩ := hp; have SP := Hq hsp; have RS := Hq hrest; clear hsp hrest)
 go_ret
 exact ⟨rfl, Zwp SP.out, RS.out⟩
section
variable {P : Program} {ops : Array Oper} {Q : Exit -> Act -> World -> Prop}
theorem Zhz (hdag : ∀ (j : Nat) (o : Oper), ops[j]? = some o -> ∀ e ∈ o.after, e.on < j) {l : Array Bool} (h : Region.ready .any ops l = []) (hsz : l.size = ops.size) : ∀ j, j < ops.size -> l.getD j false = true := by
 intro j
 induction j using Nat.strongRecOn with
 | _ j ih =>
   intro hj
   by_cases hl : l.getD j false = true
   · exact hl
   · exfalso
     have hlt : j < l.size := by omega
     have h1 : l.getD j true = false := by
      simp only [Array.getD, hlt, dif_pos] at hl ⊢
      simpa using hl
     have : j ∈ Region.ready .any ops l := mem_ready.2 ⟨h1, ops[j], by simp [hj], fun e he _ => ih e.on (hdag j ops[j] (by simp [hj]) e he) (Nat.lt_trans (hdag j ops[j] (by simp [hj]) e he) hj)⟩
     rw [h] at this
     cases this
theorem Zdj (J : Array Bool -> Act -> World -> Prop)
 (step : ∀ l a w i, J l a w -> i ∈ Region.ready .any ops l -> wpOp P ops Q i (fun a' w' => J (l.setIfInBounds i true) a' w') a w)
 (fin : ∀ l a w, J l a w -> (Region.ready .any ops l = []) -> Q .normal a w) :
 ∀ fuel l a w, J l a w -> l.toList.count false <= fuel -> wpAny P .any ops Q fuel l a w
 | 0, l, a, w, hJ, hc => by
   have hnil : Region.ready .any ops l = [] := by
    cases hr : Region.ready .any ops l with
    | nil => rfl
    | cons i r =>
      exfalso
      have hi : i ∈ Region.ready .any ops l := by rw [hr]; exact List.mem_cons_self ..
      have h1 := (mem_ready.1 hi).1
      have hlt : i < l.size := by
       rcases Nat.lt_or_ge i l.size with h' | h'
       · exact h'
       · simp [Array.getElem?_eq_none h'] at h1
      have hm : false ∈ l.toList := by
       have : l[i] = false := by simpa [hlt] using h1
       rw [<- this]; exact Array.mem_toList_iff.2 (Array.getElem_mem hlt)
      have := List.count_pos_iff.2 hm
      omega
   exact ⟨hnil, fin l a w hJ hnil⟩
 | fuel + 1, l, a, w, hJ, hc => by
   refine ⟨fun h => fin l a w hJ h, fun i hi => wpOp_mono (fun a' w' hJ' => Zdj J step fin fuel _ a' w' hJ' ?_) (step l a w i hJ hi)⟩
   have h1 := (mem_ready.1 hi).1
   have hlt : i < l.size := by
    rcases Nat.lt_or_ge i l.size with h' | h'
    · exact h'
    · simp [Array.getElem?_eq_none h'] at h1
   have hf : l[i] = false := by simpa [hlt] using h1
   have hm : false ∈ l.toList := by rw [<- hf]; exact Array.mem_toList_iff.2 (Array.getElem_mem hlt)
   have hpos := List.count_pos_iff.2 hm
   rw [Array.toList_setIfInBounds, List.count_set (by simpa using hlt)]
   have e1 : (l.toList[i]'(by simpa using hlt) == false) = true := by rw [Array.getElem_toList, hf]; rfl
   rw [if_pos e1, if_neg (by decide)]
   omega
end
def Zdo (b : Nat) : Value := .pointer (some ⟨b, 0, none⟩)
def fnV (f : FuncId) (caps : Array Value) : Value := .func (.func f) #[] caps
inductive KE where
 | mk
 | fn (v : Value)
 | pl (op : Int)
 | wi (op : Int) (fv : Value)
 | ins (k : Int) (s : Nat)
 | fin
def Ybm (lo : Nat) (op : Int) (v : Value) (w : World) : Prop := ∃ b, v = fnV 66 #[Zdo b] /\ lo <= b /\ w.cell? ⟨b, 0, none⟩ = some (.int .i64 op)
def Ypl (lo bc : Nat) (op : Int) (fv v : Value) (w : World) : Prop := ∃ b3 b4, v = fnV 68 #[Zdo b3, Zdo b4, Zdo bc] /\ lo <= b3 /\ lo <= b4 /\ w.cell? ⟨b3, 0, none⟩ = some (.int .i64 op) /\ w.cell? ⟨b4, 0, none⟩ = some fv
def v3E : Value := fnV 65 #[]
def v4E (bc : Nat) : Value := fnV 67 #[Zdo bc]
def v5E : Value := fnV 69 #[]
def vnE (bc : Nat) : Value := fnV 70 #[Zdo bc]
def vaE (bc : Nat) : Value := fnV 71 #[Zdo bc]
def vlE (bc : Nat) : Value := fnV 72 #[Zdo bc]
def vtE (b6 : Nat) : Value := fnV 73 #[Zdo b6]
def voE : Value := fnV 74 #[]
def kE (bc b6 : Nat) : Nat -> KE
 | 0 => .mk
 | 1 => .fn (v4E bc) | 2 => .fn v5E | 3 => .wi 8 v5E | 4 => .ins 2 12
 | 5 => .fn v3E | 6 => .pl 10 | 7 => .ins 3 14
 | 8 => .fn v3E | 9 => .pl 12 | 10 => .ins 4 16
 | 11 => .fn v3E | 12 => .pl 18 | 13 => .ins 9 18
 | 14 => .fn v3E | 15 => .pl 4 | 16 => .ins 10 20
 | 17 => .fn v3E | 18 => .pl 2 | 19 => .ins 11 22
 | 20 => .fn (v4E bc) | 21 => .fn v5E | 22 => .wi 3 v5E | 23 => .ins 12 25
 | 24 => .fn (v4E bc) | 25 => .fn v5E | 26 => .wi 7 v5E | 27 => .ins 13 28
 | 28 => .fn v3E | 29 => .pl 13 | 30 => .ins 16 30
 | 31 => .fn (v4E bc) | 32 => .fn (vaE bc) | 33 => .wi 3 (vaE bc) | 34 => .ins 14 33
 | 35 => .fn (v4E bc) | 36 => .fn (vlE bc) | 37 => .wi 3 (vlE bc) | 38 => .ins 15 36
 | 39 => .fn v3E | 40 => .pl 9 | 41 => .ins 17 38
 | 42 => .fn v3E | 43 => .pl 11 | 44 => .ins 18 40
 | 45 => .fn (vnE bc) | 46 => .ins 19 41
 | 47 => .fn (vnE bc) | 48 => .ins 20 42
 | 49 => .fn (vtE b6) | 50 => .ins 21 43
 | 51 => .ins 22 1000
 | 52 => .fn (v4E bc) | 53 => .fn v5E | 54 => .wi 17 v5E | 55 => .ins 25 46
 | 56 => .fn (v4E bc) | 57 => .fn v5E | 58 => .wi 19 v5E | 59 => .ins 26 49
 | 60 => .fin | 61 => .fin
 | _ => .mk
def dE : Nat -> Nat
 | 0 => 9 | 1 => 10 | 2 => 11 | 3 => 12 | 5 => 13 | 6 => 14 | 8 => 15 | 9 => 16 | 11 => 17 | 12 => 18 | 14 => 19 | 15 => 20 | 17 => 21 | 18 => 22
 | 20 => 23 | 21 => 24 | 22 => 25 | 24 => 26 | 25 => 27 | 26 => 28 | 28 => 29 | 29 => 30 | 31 => 31 | 32 => 32 | 33 => 33 | 35 => 34 | 36 => 35 | 37 => 36
 | 39 => 37 | 40 => 38 | 42 => 39 | 43 => 40 | 45 => 41 | 47 => 42 | 49 => 43 | 52 => 44 | 53 => 45 | 54 => 46 | 56 => 47 | 57 => 48 | 58 => 49 | 60 => 50 | 61 => 2
 | _ => 1000
def Yel (bc b6 : Nat) (k : Int) : KE :=
 if k = 2 then .wi 8 v5E else if k = 3 then .pl 10 else if k = 4 then .pl 12 else if k = 9 then .pl 18 else if k = 10 then .pl 4 else if k = 11 then .pl 2
 else if k = 12 then .wi 3 v5E else if k = 13 then .wi 7 v5E else if k = 16 then .pl 13 else if k = 14 then .wi 3 (vaE bc) else if k = 15 then .wi 3 (vlE bc)
 else if k = 17 then .pl 9 else if k = 18 then .pl 11 else if k = 19 then .fn (vnE bc) else if k = 20 then .fn (vnE bc) else if k = 21 then .fn (vtE b6) else if k = 22 then .fn voE
 else if k = 25 then .wi 17 v5E else if k = 26 then .wi 19 v5E else .mk
def Znp : List Int := [2, 3, 4, 9, 10, 11, 12, 13, 16, 14, 15, 17, 18, 19, 20, 21, 22, 25, 26]
def SlK (lo bc : Nat) (w : World) (v v9 : Value) : KE -> Prop
 | .fn x => v = x
 | .pl op => Ybm lo op v w
 | .wi op fv => Ypl lo bc op fv v w
 | .fin => v = v9
 | _ => True
theorem Zwv {lo : Nat} {op : Int} {v : Value} {w w' : World} (h : Ybm lo op v w) (hk : ∀ b x, w.cell? ⟨b, 0, none⟩ = some x -> w'.cell? ⟨b, 0, none⟩ = some x) : Ybm lo op v w' := by
 obtain ⟨b, e, hl, hc⟩ := h; exact ⟨b, e, hl, hk _ _ hc⟩
theorem Ybr {lo bc : Nat} {op : Int} {fv v : Value} {w w' : World} (h : Ypl lo bc op fv v w) (hk : ∀ b x, w.cell? ⟨b, 0, none⟩ = some x -> w'.cell? ⟨b, 0, none⟩ = some x) : Ypl lo bc op fv v w' := by
 obtain ⟨b3, b4, e, h3, h4, c3, c4⟩ := h; exact ⟨b3, b4, e, h3, h4, hk _ _ c3, hk _ _ c4⟩
theorem Zhn {lo bc : Nat} {w w' : World} {v v9 : Value} {K : KE} (h : SlK lo bc w v v9 K) (hk : ∀ b x, w.cell? ⟨b, 0, none⟩ = some x -> w'.cell? ⟨b, 0, none⟩ = some x) : SlK lo bc w' v v9 K := by
 cases K with
 | pl op => exact Zwv h hk
 | wi op fv => exact Ybr h hk
 | _ => exact h
def Yvo (lo bc b6 : Nat) (l : Array Bool) (es : Array MapEntry) (w : World) : Prop :=
 (∀ x ∈ es.toList, ∃ j k s, j < 62 /\ kE bc b6 j = .ins k s /\ l.getD j false = true /\ x.key = .int .i64 k /\ SlK lo bc w x.val x.val (Yel bc b6 k)) /\
 (∀ j k s, j < 62 -> kE bc b6 j = .ins k s -> l.getD j false = true -> ∃ x ∈ es.toList, x.key = .int .i64 k)
def tm (a : Act) (d : Nat) : Value := a.tmps.getD d undef
theorem Zzh {a : Act} {d : Nat} {v : Value} (hs : a.tmps.size = 51) (hd : d < 51) (e : Nat) : tm (a.put (some d) v) e = if e = d then v else tm a e := by
 unfold tm Act.put
 by_cases h : e = d
 · subst h; simp [hs, hd]
 · rw [if_neg h]; simp [Array.getD_eq_getD_getElem?, Array.getElem?_setIfInBounds_ne (Ne.symm h)]
theorem Zlq {a : Act} {d : Option Tmp} {v : Value} (hs : a.tmps.size = 51) : (a.put d v).tmps.size = 51 := by cases d <;> simp [Act.put, hs]
def Ywd : KE -> Prop
 | .ins _ _ => True
 | .fin => True
 | _ => False
structure EJ (w1 : World) (bc b6 lo : Nat) (l : Array Bool) (a : Act) (w : World) : Prop where
 sz : l.size = 62
 ts : a.tmps.size = 51
 df : a.defers = []
 g : w1.grownBy w none
 hlo : lo = w1.heap.size
 t1 : tm a 1 = Zdo bc
 t3 : tm a 3 = v3E
 t4 : tm a 4 = v4E bc
 t5 : tm a 5 = v5E
 t6 : tm a 6 = Zdo b6
 c6 : w1.cell? ⟨b6, 0, none⟩ = some (vnE bc)
 sl : ∀ j, j < 62 -> l.getD j false = true -> SlK lo bc w (tm a (dE j)) (tm a 9) (kE bc b6 j)
 cl : ∀ j, j < 62 -> Ywd (kE bc b6 j) -> l.getD j false = true -> l.getD 0 false = true
 mp : l.getD 0 false = true -> ∃ M es ck, tm a 9 = .map (some M) /\ lo <= M /\ w.heap[M]? = some (.map es ck) /\ Yvo lo bc b6 l es w
theorem Ybe : ∀ i, i < 62 -> dE i ≠ 1 /\ dE i ≠ 3 /\ dE i ≠ 4 /\ dE i ≠ 5 /\ dE i ≠ 6 /\ (i ≠ 0 -> dE i ≠ 9) /\ (dE i < 51 \/ dE i = 1000) := by decide
theorem Yox : ∀ i, i < 62 -> ∀ j, j < 62 -> i ≠ j -> dE i < 51 -> dE i ≠ dE j := by decide
theorem Zw (l : Array Bool) (i j : Nat) (hi : i < l.size) : (l.setIfInBounds i true).getD j false = if j = i then true else l.getD j false := by
 by_cases h : j = i
 · subst h; simp [hi]
 · rw [if_neg h]; simp [Array.getD_eq_getD_getElem?, Array.getElem?_setIfInBounds_ne (Ne.symm h)]
theorem Yct {lo bc b6 : Nat} {l l' : Array Bool} {es : Array MapEntry} {w w' : World} (h : Yvo lo bc b6 l es w) (hl : ∀ j k s, j < 62 -> kE bc b6 j = .ins k s -> l'.getD j false = l.getD j false)
 (hk : ∀ b x, w.cell? ⟨b, 0, none⟩ = some x -> w'.cell? ⟨b, 0, none⟩ = some x) : Yvo lo bc b6 l' es w' := by
 refine ⟨fun x hx => ?_, fun j k s hj hkj hlj => ?_⟩
 · obtain ⟨j, k, s, hj, hkj, hlj, hkey, hsl⟩ := h.1 x hx
   exact ⟨j, k, s, hj, hkj, by rw [hl j k s hj hkj]; exact hlj, hkey, Zhn hsl hk⟩
 · exact h.2 j k s hj hkj (by rw [<- hl j k s hj hkj]; exact hlj)
theorem Zqb {w1 : World} {bc b6 lo i : Nat} {l : Array Bool} {a : Act} {w w' : World} {v : Value} (h : EJ w1 bc b6 lo l a w) (hi : i < 62) (hd : dE i < 51) (hi0 : i ≠ 0) (hk : ∀ k s, kE bc b6 i ≠ .ins k s) (hf : kE bc b6 i = .fin -> l.getD 0 false = true)
 (g : w.grownBy w' none) (hv : SlK lo bc w' v (tm a 9) (kE bc b6 i)) : EJ w1 bc b6 lo (l.setIfInBounds i true) (a.put (some (dE i)) v) w' := by
 obtain ⟨f1, f3, f4, f5, f6, f9, _⟩ := Ybe i hi
 have h9 := f9 hi0
 have cell : ∀ b x, w.cell? ⟨b, 0, none⟩ = some x -> w'.cell? ⟨b, 0, none⟩ = some x := fun b x hx => g.cell hx (by simp)
 have T : ∀ e, tm (a.put (some (dE i)) v) e = if e = dE i then v else tm a e := fun e => Zzh h.ts hd e
 have hgs : ∀ j, (l.setIfInBounds i true).getD j false = if j = i then true else l.getD j false := fun j => Zw l i j (by rw [h.sz]; exact hi)
 refine ⟨by simp [h.sz], Zlq h.ts, h.df, Za h.g g, h.hlo, by rw [T, if_neg (Ne.symm f1)]; exact h.t1, by rw [T, if_neg (Ne.symm f3)]; exact h.t3, by rw [T, if_neg (Ne.symm f4)]; exact h.t4,
  by rw [T, if_neg (Ne.symm f5)]; exact h.t5, by rw [T, if_neg (Ne.symm f6)]; exact h.t6, h.c6, ?_, ?_, ?_⟩
 · intro j hj hl
   rw [hgs] at hl
   rw [T 9, if_neg (Ne.symm h9)]
   by_cases hji : j = i
   · subst hji
     rw [T, if_pos rfl]
     exact hv
   · rw [if_neg hji] at hl
     rw [T, if_neg (fun e => Yox i hi j hj (Ne.symm hji) hd e.symm)]
     exact Zhn (h.sl j hj hl) cell
 · intro j hj hkj hl
   rw [hgs] at hl
   rw [hgs, if_neg (Ne.symm hi0)]
   by_cases hji : j = i
   · subst hji
     revert hkj hk hf
     generalize kE bc b6 j = K
     intro hkj hk hf
     cases K with
     | ins k s => exact absurd rfl (hk k s)
     | fin => exact hf rfl
     | _ => exact hkj.elim
   · rw [if_neg hji] at hl
     exact h.cl j hj hkj hl
 · intro hl
   rw [hgs, if_neg (Ne.symm hi0)] at hl
   obtain ⟨M, es, ck, hM, hlo, hh, hok⟩ := h.mp hl
   refine ⟨M, es, ck, by rw [T, if_neg (Ne.symm h9)]; exact hM, hlo, Zu hh g (by simp), Yct hok ?_ cell⟩
   intro j k s hj hkj
   rw [hgs, if_neg]
   intro e; subst e; exact hk k s hkj
theorem Xbw {w1 : World} {bc b6 lo : Nat} {l : Array Bool} {a : Act} {w : World} (h : EJ w1 bc b6 lo l a w) (hun : l.getD 0 false = false) :
 EJ w1 bc b6 lo (l.setIfInBounds 0 true) (a.put (some 9) (.map (some w.heap.size))) (w.alloc (.map #[] 0)) := by
 have g : w.grownBy (w.alloc (.map #[] 0)) none := Ga _ _ _
 have cell : ∀ b x, w.cell? ⟨b, 0, none⟩ = some x -> (w.alloc (.map #[] 0)).cell? ⟨b, 0, none⟩ = some x := fun b x hx => g.cell hx (by simp)
 have T : ∀ e, tm (a.put (some 9) (.map (some w.heap.size))) e = if e = 9 then (.map (some w.heap.size)) else tm a e := fun e => Zzh h.ts (by decide) e
 have hgs : ∀ j, (l.setIfInBounds 0 true).getD j false = if j = 0 then true else l.getD j false := fun j => Zw l 0 j (by rw [h.sz]; decide)
 refine ⟨by simp [h.sz], Zlq h.ts, h.df, Za h.g g, h.hlo, by rw [T, if_neg (by decide)]; exact h.t1, by rw [T, if_neg (by decide)]; exact h.t3, by rw [T, if_neg (by decide)]; exact h.t4,
  by rw [T, if_neg (by decide)]; exact h.t5, by rw [T, if_neg (by decide)]; exact h.t6, h.c6, ?_, ?_, ?_⟩
 · intro j hj hl
   by_cases hj0 : j = 0
   · subst hj0; trivial
   · rw [hgs, if_neg hj0] at hl
     have hd9 : dE j ≠ 9 := (Ybe j hj).2.2.2.2.2.1 hj0
     rw [T (dE j), if_neg hd9]
     have hs := Zhn (h.sl j hj hl) cell
     have hfin : kE bc b6 j ≠ .fin := by
      intro e
      have := h.cl j hj (by rw [e]; trivial) hl
      rw [this] at hun
      cases hun
     revert hs hfin
     generalize kE bc b6 j = K
     intro hs hfin
     cases K with
     | fin => exact absurd rfl hfin
     | _ => exact hs
 · intro j hj hkj hl
   rw [hgs, if_pos rfl]
 · intro _
   refine ⟨w.heap.size, #[], 0, by rw [T, if_pos rfl], by rw [h.hlo]; exact h.g.size, heap_alloc_new w _, by simp, fun j k s hj hkj hl => ?_⟩
   exfalso
   have hj0 : j ≠ 0 := by intro e; subst e; cases hkj
   rw [hgs, if_neg hj0] at hl
   rw [h.cl j hj (by rw [hkj]; trivial) hl] at hun
   cases hun
theorem Zyl {w : World} {b o : Nat} {x : Value} {M : Nat} {es : Array MapEntry} {ck : Nat} (h : w.cell? ⟨b, o, none⟩ = some x) (hM : w.heap[M]? = some (.map es ck)) : b ≠ M := by
 intro e; subst e
 simp [World.cell?, hM] at h
theorem Yse {w : World} {M : Nat} {es : Array MapEntry} {ck : Nat} {k : Int} {v : Value} (hM : w.heap[M]? = some (.map es ck)) (hks : ∀ x ∈ es.toList, MapKept.IsKey (.int .i64) x.key) :
 ∃ es' ck', (Instr.mapUpdate 112 (.map (some M)) (.int .i64 k) v).run Try.prog w = .ok () { w with heap := w.heap.setIfInBounds M (.map es' ck') } /\
   (∀ x ∈ es'.toList, x ∈ es.toList \/ (x.key = .int .i64 k /\ x.val = v)) /\ (∃ x ∈ es'.toList, x.key = .int .i64 k) /\ (∀ x ∈ es.toList, ∃ y ∈ es'.toList, y.key = x.key) := by
 have hm : Try.prog.underlying 112 = some (.map 3 145) := by kernel_rfl
 have hd : Try.prog.underlying 3 = some (.int .i64) := by kernel_rfl
 have hk : MapKept.IsKey (.int .i64) (.int .i64 k) := rfl
 rcases MapKept.findNow_spec hk es.toList 0 hks with ⟨h1, _⟩ | ⟨j, e, h1, h2, h3⟩
 · refine ⟨es.push { key := .int .i64 k, val := v, born := ck }, ck + 1, ?_, ?_, ?_, ?_⟩
   · simp [Instr.mapUpdate, run_underlying hm, MapKept.run_getObj_map hM, MapKept.run_checkKey hd hk, MapKept.run_findKey hd h1, MapKept.run_setObj_map _ hM, Result.andThen]
   · intro x hx
     simp only [Array.toList_push, List.mem_append, List.mem_singleton] at hx
     rcases hx with hx | rfl
     · exact Or.inl hx
     · exact Or.inr ⟨rfl, rfl⟩
   · exact ⟨{ key := .int .i64 k, val := v, born := ck }, by simp, rfl⟩
   · intro x hx; exact ⟨x, by simp only [Array.toList_push, List.mem_append]; exact Or.inl hx, rfl⟩
 · have hj : es[j]? = some e := by simpa using h2
   refine ⟨es.modify j fun e => { e with key := .int .i64 k, val := v }, ck, ?_, ?_, ?_, ?_⟩
   · simp [Instr.mapUpdate, run_underlying hm, MapKept.run_getObj_map hM, MapKept.run_checkKey hd hk, MapKept.run_findKey hd h1, hj, h3, MapKept.run_keyThatStays hk, MapKept.run_setObj_map _ hM, Result.andThen]
   · intro x hx
     obtain ⟨i, hi⟩ := List.getElem?_of_mem hx
     rw [Array.getElem?_toList, Array.getElem?_modify] at hi
     by_cases hij : j = i
     · rw [if_pos hij] at hi
       obtain ⟨y, hy, rfl⟩ := Option.map_eq_some_iff.1 hi
       exact Or.inr ⟨rfl, rfl⟩
     · rw [if_neg hij] at hi
       exact Or.inl (MapFrom.at_mem hi)
   · refine ⟨{ e with key := .int .i64 k, val := v }, MapFrom.at_mem (i := j) ?_, rfl⟩
     rw [Array.getElem?_modify, if_pos rfl, hj]; rfl
   · intro x hx
     obtain ⟨i, hi⟩ := List.getElem?_of_mem hx
     rw [Array.getElem?_toList] at hi
     by_cases hij : j = i
     · subst hij
       rw [hi] at hj; injection hj with hj; subst hj
       exact ⟨{ x with key := .int .i64 k, val := v }, MapFrom.at_mem (i := j) (by rw [Array.getElem?_modify, if_pos rfl, hi]; rfl), h3.symm⟩
     · exact ⟨x, MapFrom.at_mem (i := i) (by rw [Array.getElem?_modify, if_neg hij]; exact hi), rfl⟩
theorem Yyy {w1 : World} {bc b6 lo i : Nat} {l : Array Bool} {a : Act} {w : World} {v : Value} {k : Int} {s : Nat} (h : EJ w1 bc b6 lo l a w) (hi : i < 62) (hki : kE bc b6 i = .ins k s) (h0 : l.getD 0 false = true)
 (hv : SlK lo bc w v v (Yel bc b6 k)) : ∃ M w', tm a 9 = .map (some M) /\ (Instr.mapUpdate 112 (.map (some M)) (.int .i64 k) v).run Try.prog w = .ok () w' /\ EJ w1 bc b6 lo (l.setIfInBounds i true) a w' := by
 obtain ⟨M, es, ck, hM, hlo, hh, hok⟩ := h.mp h0
 obtain ⟨es', ck', hrun, he1, he2, he3⟩ := Yse (k := k) (v := v) hh (fun x hx => by obtain ⟨j, k', s', _, _, _, hkey, _⟩ := hok.1 x hx; rw [hkey]; rfl)
 have hset := MapKept.heap_set (o' := .map es' ck') hh
 have cell : ∀ b x, w.cell? ⟨b, 0, none⟩ = some x -> ({ w with heap := w.heap.setIfInBounds M (.map es' ck') } : World).cell? ⟨b, 0, none⟩ = some x := fun b x hx => by
  rw [Ye (hset.2 b (Zyl hx hh))]; exact hx
 have hgs : ∀ j, (l.setIfInBounds i true).getD j false = if j = i then true else l.getD j false := fun j => Zw l i j (by rw [h.sz]; exact hi)
 have hi0 : i ≠ 0 := by intro e; subst e; cases hki
 refine ⟨M, _, hM, hrun, by simp [h.sz], h.ts, h.df, ?_, h.hlo, h.t1, h.t3, h.t4, h.t5, h.t6, h.c6, ?_, ?_, ?_⟩
 · refine ⟨h.g.os, h.g.tape, h.g.output, by simpa using h.g.size, fun b hb hr => ?_⟩
   have hne : b ≠ M := by rw [h.hlo] at hlo; omega
   exact (hset.2 b hne).trans (h.g.block b hb hr)
 · intro j hj hl
   by_cases hji : j = i
   · subst hji; rw [hki]; trivial
   · rw [hgs, if_neg hji] at hl
     exact Zhn (h.sl j hj hl) cell
 · intro j hj hkj hl
   rw [hgs, if_neg (Ne.symm hi0)]; exact h0
 · intro _
   refine ⟨M, es', ck', hM, hlo, hset.1, fun x hx => ?_, fun j k' s' hj hkj hl => ?_⟩
   · rcases he1 x hx with hx | ⟨hx1, hx2⟩
     · obtain ⟨j, k', s', hj, hkj, hlj, hkey, hsl⟩ := hok.1 x hx
       exact ⟨j, k', s', hj, hkj, by rw [hgs]; split <;> first | rfl | exact hlj, hkey, Zhn hsl cell⟩
     · exact ⟨i, k, s, hi, hki, by rw [hgs, if_pos rfl], hx1, by rw [hx2]; exact Zhn hv cell⟩
   · by_cases hji : j = i
     · subst hji
       rw [hki] at hkj; injection hkj with e1 e2; subst e1
       exact he2
     · rw [hgs, if_neg hji] at hl
       obtain ⟨x, hx, hkey⟩ := hok.2 j k' s' hj hkj hl
       obtain ⟨y, hy, hyk⟩ := he3 x hx
       exact ⟨y, hy, hyk.trans hkey⟩
theorem Ycf (op : Int) (w : World) : Calls Try.prog 65 #[.int .i64 op] w fun e w' => ∃ v, e = .returned v /\ w.grownBy w' none /\ ∀ lo, lo <= w.heap.size -> Ybm lo op v w' := by
 go_enter Try.func65, Try.ntmps65
 go_wp2
 go_ret
 exact ⟨_, rfl, Ga _ _ _, fun lo h => ⟨w.heap.size, rfl, h, by simp⟩⟩
theorem Yet (op : Int) (fv : Value) (bc : Nat) (w : World) (f : Fn) (x y : Array Value) (hfv : fv = .func f x y) : Calls Try.prog 67 #[.int .i64 op, fv, Zdo bc] w fun e w' => ∃ v, e = .returned v /\ w.grownBy w' none /\ ∀ lo, lo <= w.heap.size -> Ypl lo bc op fv v w' := by
 subst hfv
 unfold Zdo
 go_enter Try.func67, Try.ntmps67
 go_wp2
 go_ret
 exact ⟨_, rfl, Za (Ga _ _ _) (Ga _ _ _), fun lo h => ⟨w.heap.size, w.heap.size + 1, rfl, h, by omega, by simp, by simp⟩⟩
section
variable {ops : Array Oper} {Q : Exit -> Act -> World -> Prop} {w1 : World} {bc b6 lo i : Nat} {l : Array Bool} {a : Act} {w : World}
theorem Xr {K : Act -> World -> Prop} {o : Oper} {v : Value} {w' : World} (ho : ops[i]? = some o) (hg : o.guard = none) (hrun : (execOp a.eval o).run Try.prog w = .ok (.value v) w') (h : K (a.put o.dst v) w') : wpOp Try.prog ops Q i K a w := by
 unfold wpOp
 simp only [ho, Region.wanted, hg]
 refine Or.inl ?_
 unfold Oper.wp
 rw [hrun, Oper.upon_value]
 exact h
theorem Zcn {K : Act -> World -> Prop} {o : Oper} {w' : World} (ho : ops[i]? = some o) (hg : o.guard = none) (hd : o.dst = none) (hrun : (execOp a.eval o).run Try.prog w = .ok .skip w') (h : K a w') : wpOp Try.prog ops Q i K a w := by
 unfold wpOp
 simp only [ho, Region.wanted, hg]
 refine Or.inl ?_
 unfold Oper.wp
 rw [hrun]
 simp only [Oper.upon, hd]
 exact h
theorem Zhk {K : Act -> World -> Prop} {o : Oper} {f : FuncId} {args : Array Value} (ho : ops[i]? = some o) (hg : o.guard = none) (hrun : (execOp a.eval o).run Try.prog w = .ok (.enter f args) w)
 (h : Calls Try.prog f args w fun e w' => ∃ v, e = .returned v /\ K (a.put o.dst v) w') : wpOp Try.prog ops Q i K a w := by
 unfold wpOp
 simp only [ho, Region.wanted, hg]
 refine Or.inl ?_
 unfold Oper.wp
 rw [hrun]
 simp only [Oper.upon]
 refine h.mono fun e w' he => ?_
 obtain ⟨v, rfl, hK⟩ := he
 exact hK
theorem Xv {o : Oper} {s : Tmp} (hJ : EJ w1 bc b6 lo l a w) (ho : ops[i]? = some o) (hg : o.guard = none) (hop : o.op = .move (.tmp s)) (hdst : o.dst = some (dE i)) (hi : i < 62) (hd : dE i < 51) (hi0 : i ≠ 0)
 (hk : ∀ k s, kE bc b6 i ≠ .ins k s) (hf : kE bc b6 i = .fin -> l.getD 0 false = true) (hv : SlK lo bc w (tm a s) (tm a 9) (kE bc b6 i)) :
 wpOp Try.prog ops Q i (fun a' w' => EJ w1 bc b6 lo (l.setIfInBounds i true) a' w') a w := by
 refine Xr ho hg (v := tm a s) (w' := w) (by simp [execOp, hop, Act.eval, tm]) ?_
 rw [hdst]
 exact Zqb hJ hi hd hi0 hk hf (Ze _ _) hv
theorem Yfr {o : Oper} {s : Tmp} (hJ : EJ w1 bc b6 lo l a w) (ho : ops[i]? = some o) (hg : o.guard = none) (hop : o.op = .assign (.tmp s)) (hdst : o.dst = some (dE i)) (hi : i < 62) (hd : dE i < 51) (hi0 : i ≠ 0)
 (hk : ∀ k s, kE bc b6 i ≠ .ins k s) (hf : kE bc b6 i = .fin -> l.getD 0 false = true) (hv : SlK lo bc w (tm a s) (tm a 9) (kE bc b6 i)) :
 wpOp Try.prog ops Q i (fun a' w' => EJ w1 bc b6 lo (l.setIfInBounds i true) a' w') a w := by
 refine Xr ho hg (v := tm a s) (w' := w) (by simp [execOp, hop, Act.eval, tm]) ?_
 rw [hdst]
 exact Zqb hJ hi hd hi0 hk hf (Ze _ _) hv
theorem Zdz {o : Oper} {s : Tmp} {op : Int} {ts : Array TypeId} (hJ : EJ w1 bc b6 lo l a w) (ho : ops[i]? = some o) (hg : o.guard = none) (hop : o.op = .call { callee := .value (.tmp s), args := #[.const (.int .i64 op)], argTypes := ts }) (hdst : o.dst = some (dE i)) (hi : i < 62) (hd : dE i < 51) (hi0 : i ≠ 0)
 (hki : kE bc b6 i = .pl op) (hs : tm a s = v3E) : wpOp Try.prog ops Q i (fun a' w' => EJ w1 bc b6 lo (l.setIfInBounds i true) a' w') a w := by
 unfold tm at hs
 refine Zhk ho hg (f := 65) (args := #[.int .i64 op]) (by simp [execOp, hop, Act.eval, hs, v3E, fnV, go_sem]) ?_
 refine (Ycf op w).mono fun e w' h => ?_
 obtain ⟨v, rfl, g, hv⟩ := h
 refine ⟨v, rfl, ?_⟩
 rw [hdst]
 exact Zqb hJ hi hd hi0 (by rw [hki]; simp) (by rw [hki]; simp) g (by rw [hki]; exact hv lo (by rw [hJ.hlo]; exact hJ.g.size))
theorem Zil {o : Oper} {s s2 : Tmp} {op : Int} {fv : Value} {f : Fn} {x y : Array Value} {ts : Array TypeId} (hJ : EJ w1 bc b6 lo l a w) (ho : ops[i]? = some o) (hg : o.guard = none) (hop : o.op = .call { callee := .value (.tmp s), args := #[.const (.int .i64 op), .tmp s2], argTypes := ts }) (hdst : o.dst = some (dE i)) (hi : i < 62) (hd : dE i < 51) (hi0 : i ≠ 0)
 (hki : kE bc b6 i = .wi op fv) (hs : tm a s = v4E bc) (hs2 : tm a s2 = fv) (hfv : fv = .func f x y) : wpOp Try.prog ops Q i (fun a' w' => EJ w1 bc b6 lo (l.setIfInBounds i true) a' w') a w := by
 unfold tm at hs hs2
 refine Zhk ho hg (f := 67) (args := #[.int .i64 op, fv, Zdo bc]) (by simp [execOp, hop, Act.eval, hs, hs2, v4E, fnV, go_sem]) ?_
 refine (Yet op fv bc w f x y hfv).mono fun e w' h => ?_
 obtain ⟨v, rfl, g, hv⟩ := h
 refine ⟨v, rfl, ?_⟩
 rw [hdst]
 exact Zqb hJ hi hd hi0 (by rw [hki]; simp) (by rw [hki]; simp) g (by rw [hki]; exact hv lo (by rw [hJ.hlo]; exact hJ.g.size))
theorem Ysa {o : Oper} {s : Tmp} {f : FuncId} (hJ : EJ w1 bc b6 lo l a w) (ho : ops[i]? = some o) (hg : o.guard = none) (hop : o.op = .makeFunc (.func f) #[] #[.tmp s]) (hdst : o.dst = some (dE i)) (hi : i < 62) (hd : dE i < 51) (hi0 : i ≠ 0)
 (hki : kE bc b6 i = .fn (fnV f #[tm a s])) : wpOp Try.prog ops Q i (fun a' w' => EJ w1 bc b6 lo (l.setIfInBounds i true) a' w') a w := by
 refine Xr ho hg (v := fnV f #[tm a s]) (w' := w) (by simp [execOp, hop, Act.eval, tm, fnV, Instr.makeFunc]) ?_
 rw [hdst]
 exact Zqb hJ hi hd hi0 (by rw [hki]; simp) (by rw [hki]; simp) (Ze _ _) (by rw [hki]; rfl)
theorem Yfq {o : Oper} {s : Tmp} {t : TypeId} (hJ : EJ w1 bc b6 lo l a w) (ho : ops[i]? = some o) (hg : o.guard = none) (hop : o.op = .load 145 (.tmp s)) (hdst : o.dst = some (dE i)) (hi : i < 62) (hd : dE i < 51) (hi0 : i ≠ 0)
 (hki : kE bc b6 i = .fn (vnE bc)) (hs : tm a s = Zdo b6) : wpOp Try.prog ops Q i (fun a' w' => EJ w1 bc b6 lo (l.setIfInBounds i true) a' w') a w := by
 have hc : w.cell? ⟨b6, 0, none⟩ = some (vnE bc) := hJ.g.cell hJ.c6 (by simp)
 unfold tm at hs
 refine Xr ho hg (v := vnE bc) (w' := w) (by simp [execOp, hop, Act.eval, hs, Zdo, hc, go_sem]) ?_
 rw [hdst]
 exact Zqb hJ hi hd hi0 (by rw [hki]; simp) (by rw [hki]; simp) (Ze _ _) (by rw [hki]; rfl)
theorem Zbm {o : Oper} {k : Int} {x : Operand} {s : Nat} (hJ : EJ w1 bc b6 lo l a w) (ho : ops[i]? = some o) (hg : o.guard = none) (hop : o.op = .insert 112 (.tmp 9) (.const (.int .i64 k)) x) (hdst : o.dst = none) (hi : i < 62)
 (hki : kE bc b6 i = .ins k s) (h0 : l.getD 0 false = true) (hv : SlK lo bc w (a.eval x) (a.eval x) (Yel bc b6 k)) : wpOp Try.prog ops Q i (fun a' w' => EJ w1 bc b6 lo (l.setIfInBounds i true) a' w') a w := by
 obtain ⟨M, w', hM, hrun, hJ'⟩ := Yyy hJ hi hki h0 hv
 unfold tm at hM
 refine Zcn ho hg hdst (w' := w') ?_ hJ'
 have e9 : a.eval (.tmp 9) = .map (some M) := hM
 have ek : a.eval (.const (.int .i64 k)) = .int .i64 k := rfl
 simp only [execOp, hop, e9, ek, Sem.run_bind, hrun, Result.andThen]
 rfl
theorem Xas {o : Oper} (hJ : EJ w1 bc b6 lo l a w) (ho : ops[0]? = some o) (hg : o.guard = none) (hop : o.op = .makeMap 112 none) (hdst : o.dst = some 9) (hun : l.getD 0 false = false) :
 wpOp Try.prog ops Q 0 (fun a' w' => EJ w1 bc b6 lo (l.setIfInBounds 0 true) a' w') a w := by
 refine Xr ho hg (v := .map (some w.heap.size)) (w' := w.alloc (.map #[] 0)) (by simp [execOp, hop, Instr.makeMap, Result.andThen]) ?_
 rw [hdst]
 exact Xbw hJ hun
end
end Go.Proofs.Ytecaolkbllbokaa.TG
