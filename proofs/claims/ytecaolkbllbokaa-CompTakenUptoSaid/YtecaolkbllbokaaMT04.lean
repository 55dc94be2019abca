import Derived.Test.YtecaolkbllbokaaMT03
import Derived.Maps.AppendAt
set_option linter.unusedSimpArgs false
set_option linter.unusedVariables false
set_option maxRecDepth 100000
set_option maxHeartbeats 16000000
namespace Go.Proofs.Ytecaolkbllbokaa.TG
open Go.RowKit Go.Great
structure Fun where
 name : ByteArray
 args : Int
 locals : List ByteArray
 parts : List (Int × Int × Int)
structure Un where
 texts : List (ByteArray × List Int)
 funcs : List Fun
def Zwe (w : World) (B : Nat) (p : Option Addr) (l : List Int) : Prop := 0 < l.length -> ∃ b off : Nat, p = some ⟨b, off, none⟩ /\ b < B /\ ∀ i, i < l.length -> w.cell? ⟨b, off + i, none⟩ = some (.int .u8 (l.getD i 0))
def Zyw (w : World) (B : Nat) (p : Option Addr) (l : List ByteArray) : Prop := 0 < l.length -> ∃ b off : Nat, p = some ⟨b, off, none⟩ /\ b < B /\ ∀ i (h : i < l.length), w.cell? ⟨b, off + i, none⟩ = some (.string l[i])
def Zap (w : World) (B : Nat) (p : Option Addr) (ts : List (ByteArray × List Int)) : Prop := 0 < ts.length -> ∃ b o : Nat, p = some ⟨b, o, none⟩ /\ b < B /\ ∀ i nm d, ts[i]? = some (nm, d) ->
 w.cell? ⟨b, o + i * 2, none⟩ = some (.string nm) /\ ∃ (pd : Option Addr) (cd : Nat), w.cell? ⟨b, o + i * 2 + 1, none⟩ = some (.slice pd d.length cd) /\ Zwe w B pd d
def Ykg (w : World) (B : Nat) (p : Option Addr) (us : List Fun) : Prop := 0 < us.length -> ∃ b o : Nat, p = some ⟨b, o, none⟩ /\ b < B /\ ∀ i f, us[i]? = some f ->
 w.cell? ⟨b, o + i * 4, none⟩ = some (.string f.name) /\ w.cell? ⟨b, o + i * 4 + 1, none⟩ = some (.int .i64 f.args) /\
 (∃ (pl : Option Addr) (cl : Nat), w.cell? ⟨b, o + i * 4 + 2, none⟩ = some (.slice pl f.locals.length cl) /\ Zyw w B pl f.locals) /\
 (∃ (pp : Option Addr) (cp : Nat), w.cell? ⟨b, o + i * 4 + 3, none⟩ = some (.slice pp f.parts.length cp) /\ Zcw w B pp f.parts)
structure Zab (w : World) (B : Nat) (pt : Option Addr) (pf : Option Addr) (u : Un) : Prop where
 le : B <= w.heap.size
 texts : Zap w B pt u.texts
 funcs : Ykg w B pf u.funcs
structure Yre (u : Un) : Prop where
 nt : u.texts.length <= 17592186044415
 nf : u.funcs.length <= 17592186044415
 text : ∀ x ∈ u.texts, x.1.size <= maxLen /\ x.2.length <= 17592186044415
 name : ∀ f ∈ u.funcs, f.name.size <= maxLen /\ f.locals.length <= 17592186044415 /\ f.parts.length <= 17592186044415 /\ ∀ s ∈ f.locals, s.size <= maxLen
theorem Zx {w w' : World} {row : Option Nat} {B b o : Nat} {v : Value} (g : w.grownBy w' row) (hr : ∀ r, row = some r -> B <= r) (hb : b < B) (h : w.cell? ⟨b, o, none⟩ = some v) : w'.cell? ⟨b, o, none⟩ = some v :=
 g.cell h (by intro e; have := hr b e.symm; omega)
theorem Zym {w w' : World} {row : Option Nat} {B : Nat} {p : Option Addr} {l : List Int} (h : Zwe w B p l) (g : w.grownBy w' row) (hr : ∀ r, row = some r -> B <= r) : Zwe w' B p l := fun h0 => by
 obtain ⟨b, o, e, hb, hc⟩ := h h0
 exact ⟨b, o, e, hb, fun i hi => Zx g hr hb (hc i hi)⟩
theorem Zkb {w w' : World} {row : Option Nat} {B : Nat} {p : Option Addr} {l : List ByteArray} (h : Zyw w B p l) (g : w.grownBy w' row) (hr : ∀ r, row = some r -> B <= r) : Zyw w' B p l := fun h0 => by
 obtain ⟨b, o, e, hb, hc⟩ := h h0
 exact ⟨b, o, e, hb, fun i hi => Zx g hr hb (hc i hi)⟩
theorem Zio {w w' : World} {row : Option Nat} {B : Nat} {p : Option Addr} {l : List (Int × Int × Int)} (h : Zcw w B p l) (g : w.grownBy w' row) (hr : ∀ r, row = some r -> B <= r) : Zcw w' B p l := fun h0 => by
 obtain ⟨b, o, e, hb, hc⟩ := h h0
 refine ⟨b, o, e, hb, fun j k n kc hj => ?_⟩
 obtain ⟨h1, h2, h3⟩ := hc j k n kc hj
 exact ⟨Zx g hr hb h1, Zx g hr hb h2, Zx g hr hb h3⟩
theorem Zdx {w w' : World} {row : Option Nat} {B : Nat} {p : Option Addr} {l : List (ByteArray × List Int)} (h : Zap w B p l) (g : w.grownBy w' row) (hr : ∀ r, row = some r -> B <= r) : Zap w' B p l := fun h0 => by
 obtain ⟨b, o, e, hb, hc⟩ := h h0
 refine ⟨b, o, e, hb, fun i nm d hi => ?_⟩
 obtain ⟨h1, pd, cd, h2, h3⟩ := hc i nm d hi
 exact ⟨Zx g hr hb h1, pd, cd, Zx g hr hb h2, Zym h3 g hr⟩
theorem Zxy {w w' : World} {row : Option Nat} {B : Nat} {p : Option Addr} {l : List Fun} (h : Ykg w B p l) (g : w.grownBy w' row) (hr : ∀ r, row = some r -> B <= r) : Ykg w' B p l := fun h0 => by
 obtain ⟨b, o, e, hb, hc⟩ := h h0
 refine ⟨b, o, e, hb, fun i f hi => ?_⟩
 obtain ⟨h1, h2, ⟨pl, cl, h3, h4⟩, ⟨pp, cp, h5, h6⟩⟩ := hc i f hi
 exact ⟨Zx g hr hb h1, Zx g hr hb h2, ⟨pl, cl, Zx g hr hb h3, Zkb h4 g hr⟩, ⟨pp, cp, Zx g hr hb h5, Zio h6 g hr⟩⟩
theorem Yl {w w' : World} {row : Option Nat} {B : Nat} {pt pf : Option Addr} {u : Un} (h : Zab w B pt pf u) (g : w.grownBy w' row) (hr : ∀ r, row = some r -> B <= r) : Zab w' B pt pf u :=
 ⟨Nat.le_trans h.le g.size, Zdx h.texts g hr, Zxy h.funcs g hr⟩
def Zat (ns : List ByteArray) : List Fun -> Int
 | [] => 0
 | f :: r => if Zid ns f.name f.args f.locals = 0 then Zat (f.name :: ns) r else Zid ns f.name f.args f.locals
def Zjr (nt : Nat) (fs : List Int) : List Fun -> Int
 | [] => 0
 | f :: r => if Zyu f.locals.length nt fs f.parts = 0 then Zjr nt fs r else Zyu f.locals.length nt fs f.parts
def Zy (ts : List (ByteArray × List Int)) : Nat -> Int
 | 0 => 0
 | k + 1 => Zy ts k + ((ts.getD k (ByteArray.empty, [])).2.length : Int)
def Ys (u : Un) : Int :=
 if 64 < u.funcs.length \/ 1024 < u.texts.length \/ 65536 < Zy u.texts u.texts.length then 2
 else if u.funcs.length = 0 \/ (u.funcs.map Fun.args).getD 0 0 ≠ 0 then 171
 else if Zaj [] (u.texts.map Prod.fst) ≠ 0 then Zaj [] (u.texts.map Prod.fst)
 else if Zat [] u.funcs ≠ 0 then Zat [] u.funcs
 else Zjr u.texts.length (u.funcs.map Fun.args) u.funcs
theorem Zxv (us : List Fun) (k : Nat) (f : Fun) (hf : us[k]? = some f) (h : Zid ((us.map Fun.name).take k).reverse f.name f.args f.locals = 0) :
 Zat ((us.map Fun.name).take k).reverse (us.drop k) = Zat ((us.map Fun.name).take (k + 1)).reverse (us.drop (k + 1)) := by
 obtain ⟨hk, rfl⟩ := List.getElem?_eq_some_iff.1 hf
 have e : ((us.map Fun.name).take (k + 1)).reverse = us[k].name :: ((us.map Fun.name).take k).reverse := by
  rw [List.take_succ_eq_append_getElem (by simpa using hk), List.reverse_append]; simp
 rw [e, List.drop_eq_getElem_cons hk, Zat, if_pos h]
theorem Zxu (us : List Fun) (k : Nat) (f : Fun) (hf : us[k]? = some f) (h : Zid ((us.map Fun.name).take k).reverse f.name f.args f.locals ≠ 0) :
 Zat ((us.map Fun.name).take k).reverse (us.drop k) = Zid ((us.map Fun.name).take k).reverse f.name f.args f.locals := by
 obtain ⟨hk, rfl⟩ := List.getElem?_eq_some_iff.1 hf
 rw [List.drop_eq_getElem_cons hk, Zat, if_neg h]
theorem Yed (nt : Nat) (fs : List Int) (us : List Fun) (k : Nat) (f : Fun) (hf : us[k]? = some f) (h : Zyu f.locals.length nt fs f.parts = 0) : Zjr nt fs (us.drop k) = Zjr nt fs (us.drop (k + 1)) := by
 obtain ⟨hk, rfl⟩ := List.getElem?_eq_some_iff.1 hf
 rw [List.drop_eq_getElem_cons hk, Zjr, if_pos h]
theorem Yec (nt : Nat) (fs : List Int) (us : List Fun) (k : Nat) (f : Fun) (hf : us[k]? = some f) (h : Zyu f.locals.length nt fs f.parts ≠ 0) : Zjr nt fs (us.drop k) = Zyu f.locals.length nt fs f.parts := by
 obtain ⟨hk, rfl⟩ := List.getElem?_eq_some_iff.1 hf
 rw [List.drop_eq_getElem_cons hk, Zjr, if_neg h]
theorem Zfq (ts : List (ByteArray × List Int)) (h : ∀ x ∈ ts, x.2.length <= 17592186044415) : ∀ k, 0 <= Zy ts k /\ Zy ts k <= (k : Int) * 17592186044415
 | 0 => by unfold Zy; omega
 | k + 1 => by
   have := Zfq ts h k
   have h2 : ((ts.getD k (ByteArray.empty, [])).2.length : Int) <= 17592186044415 := by
    by_cases hk : k < ts.length
    · have := h ts[k] (List.getElem_mem hk)
      simp only [List.getD, List.getElem?_eq_getElem hk, Option.getD_some]
      omega
    · simp [List.getD, List.getElem?_eq_none (by omega : ts.length <= k)]
   unfold Zy
   push_cast
   omega
open Go.Maps Go.ChangeShapes Go.ChangeMaps Go.WideMaps
def Ykh (w : World) (b : Nat) (vt vf : Value) : Prop := w.heap[b]? = some (.cells #[vt, vf] 25 (0, 0))
theorem Yi {w w' : World} {b : Nat} {vt vf : Value} {row : Option Nat} (h : Ykh w b vt vf) (g : w.grownBy w' row) (hr : row ≠ some b) : Ykh w' b vt vf := by
 unfold Ykh at *
 rw [g.block b ?_ (by intro e; exact hr e.symm)]
 · exact h
 · exact (Gs h)
theorem Zbv {w : World} {b : Nat} {vt vf : Value} (h : Ykh w b vt vf) : w.cell? ⟨b, 0, none⟩ = some vt := Cq w b 0 _ _ _ h
theorem Zbu {w : World} {b : Nat} {vt vf : Value} (h : Ykh w b vt vf) : w.cell? ⟨b, 1, none⟩ = some vf := Cq w b 1 _ _ _ h
theorem Jd {w : World} {b : Nat} {vt vf : Value} (h : Ykh w b vt vf) : b < w.heap.size := (Gs h)
theorem Zhy (w : World) (vt vf : Value) : Ykh (w.alloc (.cells #[vt, vf] 25)) w.heap.size vt vf := heap_alloc_new w _
structure CK (w wr : World) (b : Nat) (vt vf : Value) : Prop where
 box : Ykh wr b vt vf
 gr : w.grownBy wr none
theorem Zbg {w wr w' : World} {b : Nat} {vt vf : Value} {row : Option Nat} (h : CK w wr b vt vf) (g : wr.grownBy w' row) (hr : ∀ r, row = some r -> w.heap.size < r) (hb : b = w.heap.size) : CK w w' b vt vf :=
 ⟨Yi h.box g (by intro e; have := hr _ e; omega), ⟨g.os.trans h.gr.os, g.tape.trans h.gr.tape, g.output.trans h.gr.output, Nat.le_trans h.gr.size g.size, fun k hk hk2 =>
  (g.block k (Nat.lt_of_lt_of_le hk h.gr.size) (by intro e; have := hr k e.symm; omega)).trans (h.gr.block k hk hk2)⟩⟩
theorem Zse (ts : List (ByteArray × List Int)) (k : Nat) (h : k < ts.length) : ∃ nm d, ts[k]? = some (nm, d) /\ (nm, d) ∈ ts := ⟨_, _, List.getElem?_eq_getElem h, List.getElem_mem h⟩
theorem Yrz {w : World} {B : Nat} {p : Option Addr} {l : List ByteArray} {cap : Nat} (h : Zyw w B p l) (hB : B <= w.heap.size) : Xcn w (.slice p l.length cap) l := ⟨p, cap, rfl, fun h0 => by
 obtain ⟨b, o, e, hb, hc⟩ := h h0
 exact ⟨b, o, e, by omega, hc⟩⟩
theorem Yik (us : List Fun) (k : Nat) (h : k < us.length) : ∃ f, us[k]? = some f /\ f ∈ us := ⟨_, List.getElem?_eq_getElem h, List.getElem_mem h⟩
theorem Zkc {r : Nat} {M B0 : Nat} (h : B0 < M) : ∀ k, some M = some k -> B0 < k := by intro k e; injection e with e; omega
theorem Ygt {B0 : Nat} : ∀ k, (none : Option Nat) = some k -> B0 < k := by simp
theorem Yyw {w w' : World} {B bF oF : Nat} {us : List Fun} (hc : ∀ i f, us[i]? = some f ->
 w.cell? ⟨bF, oF + i * 4, none⟩ = some (.string f.name) /\ w.cell? ⟨bF, oF + i * 4 + 1, none⟩ = some (.int .i64 f.args) /\
 (∃ (pl : Option Addr) (cl : Nat), w.cell? ⟨bF, oF + i * 4 + 2, none⟩ = some (.slice pl f.locals.length cl) /\ Zyw w B pl f.locals) /\
 (∃ (pp : Option Addr) (cp : Nat), w.cell? ⟨bF, oF + i * 4 + 3, none⟩ = some (.slice pp f.parts.length cp) /\ Zcw w B pp f.parts))
 (g : w.grownBy w' none) (hb : bF < B) (k : Nat) (f : Fun) (hf : us[k]? = some f) (Bc : Nat) (hBc : B <= Bc) (hlt : Bc < w'.heap.size) :
 ∃ (pl : Option Addr) (cl : Nat) (pp : Option Addr) (cp : Nat), Env w' Bc bF (oF + k * 4) (.slice pl f.locals.length cl) pp cp f.parts (some ⟨bF, oF, none⟩) (us.map Fun.args) := by
 obtain ⟨_, _, ⟨pl, cl, h2, _⟩, ⟨pp, cp, h3, hp⟩⟩ := hc k f hf
 refine ⟨pl, cl, pp, cp, hlt, by omega, g.cell h2 (by simp), g.cell h3 (by simp), fun h0 => ?_, fun _ => ⟨bF, oF, rfl, by omega, fun i hi => ?_⟩⟩
 · obtain ⟨bp, op, e, hbp, hcc⟩ := hp h0
   refine ⟨bp, op, e, by omega, fun j k n kc hj => ?_⟩
   obtain ⟨c0, c1, c2⟩ := hcc j k n kc hj
   exact ⟨g.cell c0 (by simp), g.cell c1 (by simp), g.cell c2 (by simp)⟩
 · rw [List.length_map] at hi
   have h1 := (hc i us[i] (List.getElem?_eq_getElem hi)).2.1
   have e : (us.map Fun.args).getD i 0 = us[i].args := by simp [List.getD, List.getElem?_map, List.getElem?_eq_getElem hi]
   rw [e]
   exact g.cell h1 (by simp)
theorem Zqf (ts : List (ByteArray × List Int)) (k : Nat) (nm : ByteArray) (d : List Int) (h : ts[k]? = some (nm, d)) : Zy ts (k + 1) = Zy ts k + (d.length : Int) := by
 have : ts.getD k (ByteArray.empty, []) = (nm, d) := by simp [List.getD, h]
 rw [Zy, this]
theorem Zhb (u : Un) (hu : Yre u) (pt pf : Option Addr) (ct cf B : Nat) (w : World) (hU : Zab w B pt pf u) :
 Calls Try.prog 22 #[.agg #[.slice pt u.texts.length ct, .slice pf u.funcs.length cf]] w fun e w' => e = .returned (.int .i64 (Ys u)) /\ w.grownBy w' none := by
 have HU := Hq hu
 have UU := Hq hU
 have hnt := hu.nt
 have hnf := hu.nf
 have hle := hU.le
 clear hU
 clear hu
 go_enter Try.func22, Try.ntmps22
 go_wp2
 have K0 := Hq (CK.mk (Zhy w (.slice pt u.texts.length ct) (.slice pf u.funcs.length cf)) (Ga w _ none))
 generalize hw1 : w.alloc (.cells #[.slice pt u.texts.length ct, .slice pf u.funcs.length cf] 25) = w1 at *
 clear hw1
 generalize hB0 : w.heap.size = B0 at *
 go_loopw [3, 20] (fun v i wr => ∃ (k : Nat) (x : Int), k <= u.texts.length /\ i = .int .i64 k /\ v = .int .i64 x /\ (u.texts.length <= 1024 -> x = Zy u.texts k) /\ CK w wr B0 (.slice pt u.texts.length ct) (.slice pf u.funcs.length cf)) (fun _ i _ => u.texts.length - (intOf i).toNat)
 case atStart => exact ⟨0, 0, Nat.zero_le _, rfl, rfl, fun _ => rfl, K0.out⟩
 case round =>
  obtain ⟨k, x, hk, rfl, rfl, hx, hck⟩ := hrel
  have CKr := Hq hck
  have HX := Hq hx
  have b0 := Zbv hck.box
  have b1 := Zbu hck.box
  have hbl := Jd hck.box
  clear hx hck
  by_cases hlt : (k : Int) < (u.texts.length : Int)
  · obtain ⟨nm, d, hg, hmem⟩ := Zse u.texts k (by omega)
    obtain ⟨bt, ot, rfl, hbt, hct⟩ := UU.out.texts (by omega)
    obtain ⟨e0, pd, cd, e1, hbd⟩ := hct k nm d hg
    replace e0 := Zx CKr.out.gr (B := B) (by simp) hbt e0
    replace e1 := Zx CKr.out.gr (B := B) (by simp) hbt e1
    have hdl := (HU.out.text _ hmem).2
    have hbt2 : bt < wr.heap.size := by omega
    have HG := Hq hg
    clear hct hbd hmem hg
    simp only [] at hdl
    go_wp2
    go_roundw
    case rel => exact ⟨k + 1, _, by omega, by go_num, rfl, fun h => by rw [Zqf _ _ _ _ HG.out, <- HX.out h]; have := HX.out h; have := Zfq u.texts (fun x hx => (HU.out.text x hx).2) k; exact IntWalk.wrap64_in _ ⟨by omega, by omega⟩, Zbg CKr.out (Ga _ _ none) (by simp) hB0.symm⟩
    case measure => simp [intOf]; omega
  · have hkn : k = u.texts.length := by omega
    subst hkn
    by_cases c1 : 64 < u.funcs.length
    · have hE : Ys u = 2 := by unfold Ys; rw [if_pos (Or.inl c1)]
      go_wp2
      go_ret
      exact ⟨rfl, CKr.out.gr⟩
    by_cases c2 : 1024 < u.texts.length
    · have hE : Ys u = 2 := by unfold Ys; rw [if_pos (Or.inr (Or.inl c2))]
      go_wp2
      go_ret
      exact ⟨rfl, CKr.out.gr⟩
    have hxe := HX.out (by omega)
    by_cases c3 : 65536 < x
    · have hE : Ys u = 2 := by unfold Ys; rw [if_pos (Or.inr (Or.inr (by omega)))]
      clear hxe
      go_wp2
      go_ret
      exact ⟨rfl, CKr.out.gr⟩
    have hE0 : Ys u = if u.funcs.length = 0 \/ (u.funcs.map Fun.args).getD 0 0 ≠ 0 then 171
     else if Zaj [] (u.texts.map Prod.fst) ≠ 0 then Zaj [] (u.texts.map Prod.fst)
     else if Zat [] u.funcs ≠ 0 then Zat [] u.funcs
     else Zjr u.texts.length (u.funcs.map Fun.args) u.funcs := by unfold Ys; rw [if_neg (by omega)]
    clear hxe HX
    by_cases c4 : u.funcs.length = 0
    · have z0 : ((u.funcs.length : Int) == 0) = true := by rw [c4]; rfl
      rw [if_pos (Or.inl c4)] at hE0
      go_wp2
      go_ret
      exact ⟨rfl, CKr.out.gr⟩
    have z0 : ((u.funcs.length : Int) == 0) = false := beq_eq_false_iff_ne.2 (by omega)
    obtain ⟨bF, oF, rfl, hbF, hcF⟩ := UU.out.funcs (by omega)
    obtain ⟨f0, hf0⟩ : ∃ f0, u.funcs[0]? = some f0 := ⟨_, List.getElem?_eq_getElem (by omega)⟩
    have a1 := (hcF 0 f0 hf0).2.1
    replace a1 := Zx CKr.out.gr (B := B) (by simp) hbF a1
    have hargs : (u.funcs.map Fun.args).getD 0 0 = f0.args := by simp [List.getD, List.getElem?_map, hf0]
    rw [hargs] at hE0
    simp only [Nat.zero_mul, Nat.add_zero] at a1
    have hbF2 : bF < wr.heap.size := by omega
    have hi0 : (0 : Int) < (u.funcs.length : Int) := by omega
    have HF := Hq hcF
    clear hcF hf0 hargs
    by_cases c5 : f0.args = 0
    · have z1 : (f0.args != 0) = false := by simp [c5]
      rw [if_neg (by simp [c4, c5])] at hE0
      have HE0 := Hq hE0
      have hmm := @run_makeMap Try.prog
      clear hE0 c5
      go_wp2
      have Kw := Hq (Zbg CKr.out (Ga wr (.map #[] 0) none) (by simp) hB0.symm)
      have M0 := Hq (Zed wr)
      have hMB : B0 < wr.heap.size := hbl
      clear CKr b0 b1 a1 hi0 z0 z1 hbl hbF2
      generalize hw2 : wr.alloc (.map #[] 0) = w2 at *
      generalize hM : wr.heap.size = M at *
      have hMw : M < w2.heap.size := by rw [<- hw2, World.size_alloc, hM]; omega
      clear hw2 hM
      go_loopw [62] (fun i wr => ∃ k : Nat, k <= u.texts.length /\ i = .int .i64 k /\ Zbt wr M (((u.texts.map Prod.fst).take k).reverse ++ []) /\ CK w wr B0 (.slice pt u.texts.length ct) (.slice (some ⟨bF, oF, none⟩) u.funcs.length cf) /\ Zaj [] (u.texts.map Prod.fst) = Zaj (((u.texts.map Prod.fst).take k).reverse ++ []) ((u.texts.map Prod.fst).drop k)) (fun i _ => u.texts.length - (intOf i).toNat)
      case atStart => exact ⟨0, Nat.zero_le _, rfl, M0.out, Kw.out, rfl⟩
      case round =>
       obtain ⟨k, hk, rfl, hset, hck, hnm⟩ := hrel
       have HT := Hq hset
       have CKr := Hq hck
       have HM := Hq hnm
       have b0 := Zbv hck.box
       have b1 := Zbu hck.box
       have hbl := Jd hck.box
       clear hset hck hnm
       by_cases hlt : (k : Int) < (u.texts.length : Int)
       · obtain ⟨nm, d, hg, hmem⟩ := Zse u.texts k (by omega)
         obtain ⟨bt, ot, rfl, hbt, hct⟩ := UU.out.texts (by omega)
         obtain ⟨e0, pd, cd, e1, hbd⟩ := hct k nm d hg
         replace e0 := Zx CKr.out.gr (B := B) (by simp) hbt e0
         replace e1 := Zx CKr.out.gr (B := B) (by simp) hbt e1
         have hbt2 : bt < wr.heap.size := by omega
         have hks : k < (u.texts.map Prod.fst).length := by simp; omega
         have hsk : (u.texts.map Prod.fst)[k] = nm := by rw [List.getElem_map, (List.getElem?_eq_some_iff.1 hg).2]
         have F := Hq (Znx M (((u.texts.map Prod.fst).take k).reverse ++ []) nm (wr.alloc (.cells #[.string nm, .slice pd d.length cd] 65)) (Jx HT.out (Ga _ _ none) (by simp)) (by simp; omega) (HU.out.text _ hmem).1)
         by_cases c6 : Zak (((u.texts.map Prod.fst).take k).reverse ++ []) nm = 0
         · have HM2 := Hq (HM.out.trans (Znc [] _ k hks (by rw [hsk]; exact c6)))
           have C6 := Hq c6
           have HSK := Hq hsk
           clear c6 hsk hct hbd hmem hg
           go_wp2_with (go_at_call 33; refine F.out.mono ?_; rintro e w3 ⟨rfl, hg3, hn3⟩; have HG3 := Hq hg3; have HN3 := Hq (hn3 C6.out); clear hg3 hn3; rw [C6.out])
           go_roundw
           case rel => exact ⟨k + 1, by omega, by go_num, by rw [List.take_succ_eq_append_getElem hks, List.reverse_append, HSK.out]; exact HN3.out, Zbg (Zbg CKr.out (Ga _ _ none) (by simp) hB0.symm) HG3.out (Zkc (r := 0) (by omega)) hB0.symm, HM2.out⟩
           case measure => simp [intOf]; omega
         · have g6 : (Zak (((u.texts.map Prod.fst).take k).reverse ++ []) nm != 0) = true := by simpa using c6
           have HM2 := HM.out.trans (Znb [] _ k hks (by rw [hsk]; exact c6))
           rw [hsk] at HM2
           have HE1 := Hq (HE0.out.trans (by rw [HM2, if_pos c6]) : Ys u = Zak (((u.texts.map Prod.fst).take k).reverse ++ []) nm)
           clear c6 hsk hct hbd hmem hg hks HM2
           generalize Zak (((u.texts.map Prod.fst).take k).reverse ++ []) nm = v at *
           go_wp2_with (go_at_call 33; refine F.out.mono ?_; rintro e w3 ⟨rfl, hg3, hn3⟩; have HG3 := Hq hg3; clear hg3 hn3)
           go_ret
           exact ⟨Xf HE1.out.symm, (Zbg (Zbg CKr.out (Ga _ _ none) (by simp) hB0.symm) HG3.out (Zkc (r := 0) (by omega)) hB0.symm).gr⟩
       · have hkn : k = u.texts.length := by omega
         have hfin : Zaj [] (u.texts.map Prod.fst) = 0 := by rw [HM.out, hkn, show u.texts.length = (u.texts.map Prod.fst).length by simp, List.drop_length]; rfl
         have HE1 := Hq (HE0.out.trans (by rw [hfin, if_neg (by simp)]) : Ys u = if Zat [] u.funcs ≠ 0 then Zat [] u.funcs else Zjr u.texts.length (u.funcs.map Fun.args) u.funcs)
         clear hfin HM HT HE0
         subst hkn
         go_wp2
         have Kw2 := Hq (Zbg CKr.out (Ga wr (.map #[] 0) none) (by simp) hB0.symm)
         have M02 := Hq (Zed wr)
         clear CKr b0 b1 M0 Kw
         generalize hw3 : wr.alloc (.map #[] 0) = w3 at *
         generalize hM2 : wr.heap.size = M2 at *
         have hMw2 : M2 < w3.heap.size := by rw [<- hw3, World.size_alloc, hM2]; omega
         clear hw3 hM2
         go_loopw [78] (fun i wr => ∃ k : Nat, k <= u.funcs.length /\ i = .int .i64 k /\ Zbt wr M2 ((u.funcs.map Fun.name).take k).reverse /\ CK w wr B0 (.slice pt u.texts.length ct) (.slice (some ⟨bF, oF, none⟩) u.funcs.length cf) /\ Zat [] u.funcs = Zat ((u.funcs.map Fun.name).take k).reverse (u.funcs.drop k)) (fun i _ => u.funcs.length - (intOf i).toNat)
         case atStart => exact ⟨0, Nat.zero_le _, rfl, M02.out, Kw2.out, rfl⟩
         case round =>
          obtain ⟨k, hk, rfl, hset, hck, hnm⟩ := hrel
          have HT := Hq hset
          have CKr := Hq hck
          have HM := Hq hnm
          have b0 := Zbv hck.box
          have b1 := Zbu hck.box
          have hbl := Jd hck.box
          clear hset hck hnm
          by_cases hlt : (k : Int) < (u.funcs.length : Int)
          · obtain ⟨f, hg, hmem⟩ := Yik u.funcs k (by omega)
            obtain ⟨e0, e1, ⟨pl, cl, e2, hl⟩, ⟨pp, cp, e3, hp⟩⟩ := HF.out k f hg
            replace e0 := Zx CKr.out.gr (B := B) (by simp) hbF e0
            replace e1 := Zx CKr.out.gr (B := B) (by simp) hbF e1
            replace e2 := Zx CKr.out.gr (B := B) (by simp) hbF e2
            replace e3 := Zx CKr.out.gr (B := B) (by simp) hbF e3
            have hbF2 : bF < wr.heap.size := by omega
            obtain ⟨hn1, hn2, hn3, hn4⟩ := HU.out.name f hmem
            have hgC : wr.grownBy (wr.alloc (.cells #[.string f.name, .int .i64 f.args, .slice pl f.locals.length cl, .slice pp f.parts.length cp] 69)) none := Ga _ _ none
            have F := Hq (Yoc M2 ((u.funcs.map Fun.name).take k).reverse f.name f.args (.slice pl f.locals.length cl) (.slice pp f.parts.length cp) f.locals (wr.alloc (.cells #[.string f.name, .int .i64 f.args, .slice pl f.locals.length cl, .slice pp f.parts.length cp] 69)) (Jx HT.out hgC (by simp)) (by simp; omega) hn1 (Yrz (Zkb (Zkb hl CKr.out.gr (by simp)) hgC (by simp)) (by have := hgC.size; omega)) (fun i h => hn4 _ (List.getElem_mem h)) (by unfold maxLen; omega))
            have GC := Hq hgC
            by_cases c6 : Zid ((u.funcs.map Fun.name).take k).reverse f.name f.args f.locals = 0
            · have HM2 := Hq (HM.out.trans (Zxv _ k f hg c6))
              have C6 := Hq c6
              have HSK := Hq (show ((u.funcs.map Fun.name).take (k + 1)).reverse = f.name :: ((u.funcs.map Fun.name).take k).reverse by
               obtain ⟨hk', hf'⟩ := List.getElem?_eq_some_iff.1 hg
               rw [List.take_succ_eq_append_getElem (by simpa using hk'), List.reverse_append]; simp [hf'])
              clear c6 hl hp hmem hg hn1 hn2 hn3 hn4 hgC
              go_wp2_with (go_at_call 34; refine F.out.mono ?_; intro e w3 hpost; obtain ⟨rfl, hg3, hn3⟩ := hpost; have HG3 := Hq hg3; have HN3 := Hq (hn3 C6.out); clear hg3 hn3; rw [C6.out])
              go_roundw
              case rel => exact ⟨k + 1, by omega, by go_num, by rw [HSK.out]; exact HN3.out, Zbg (Zbg CKr.out (Ga _ _ none) (by simp) hB0.symm) HG3.out (Zkc (r := 0) (by omega)) hB0.symm, HM2.out⟩
              case measure => simp [intOf]; omega
            · have g6 : (Zid ((u.funcs.map Fun.name).take k).reverse f.name f.args f.locals != 0) = true := by simpa using c6
              have HM2 := HM.out.trans (Zxu _ k f hg c6)
              have HE2 := Hq (HE1.out.trans (by rw [HM2, if_pos c6]) : Ys u = Zid ((u.funcs.map Fun.name).take k).reverse f.name f.args f.locals)
              clear c6 hl hp hmem hg hn1 hn2 hn3 hn4 hgC HM2
              generalize Zid ((u.funcs.map Fun.name).take k).reverse f.name f.args f.locals = v at *
              go_wp2_with (go_at_call 34; refine F.out.mono ?_; intro e w3 hpost; obtain ⟨rfl, hg3, hn3⟩ := hpost; have HG3 := Hq hg3; clear hg3 hn3)
              go_ret
              exact ⟨Xf HE2.out.symm, (Zbg (Zbg CKr.out (Ga _ _ none) (by simp) hB0.symm) HG3.out (Zkc (r := 0) (by omega)) hB0.symm).gr⟩
          · have hkn : k = u.funcs.length := by omega
            have hfin : Zat [] u.funcs = 0 := by rw [HM.out, hkn, List.drop_length]; rfl
            have HE2 := Hq (HE1.out.trans (by rw [hfin, if_neg (by simp)]) : Ys u = Zjr u.texts.length (u.funcs.map Fun.args) u.funcs)
            have K4 := Hq CKr.out
            clear hfin HM HT HE1
            subst hkn
            go_wp2
            clear CKr b0 b1 hbl
            go_loopw [92] (fun i wr => ∃ k : Nat, k <= u.funcs.length /\ i = .int .i64 k /\ CK w wr B0 (.slice pt u.texts.length ct) (.slice (some ⟨bF, oF, none⟩) u.funcs.length cf) /\ Zjr u.texts.length (u.funcs.map Fun.args) u.funcs = Zjr u.texts.length (u.funcs.map Fun.args) (u.funcs.drop k)) (fun i _ => u.funcs.length - (intOf i).toNat)
            case atStart => exact ⟨0, Nat.zero_le _, rfl, K4.out, rfl⟩
            case round =>
             obtain ⟨k, hk, rfl, hck, hnm⟩ := hrel
             have CKr := Hq hck
             have HM := Hq hnm
             have b0 := Zbv hck.box
             have b1 := Zbu hck.box
             have hbl := Jd hck.box
             clear hck hnm
             by_cases hlt : (k : Int) < (u.funcs.length : Int)
             · obtain ⟨f, hg, hmem⟩ := Yik u.funcs k (by omega)
               have hbF2 : bF < wr.heap.size := by omega
               go_wp2
               go_region
               have hgW : wr.grownBy ((wr.alloc (.cells #[.slice pt u.texts.length ct, .slice (some ⟨bF, oF, none⟩) u.funcs.length cf, .pointer (some ⟨bF, oF + k * 4, none⟩), .int .i64 0, .int .i64 0, .int .i64 0] 95)).drew) none := Zf (Ga _ _ none)
               obtain ⟨pl, cl, pp, cp, hE⟩ := Yyw HF.out (Za CKr.out.gr hgW) hbF k f hg wr.heap.size (by omega) (by simp)
               have hBx : Zju 95 ((wr.alloc (.cells #[.slice pt u.texts.length ct, .slice (some ⟨bF, oF, none⟩) u.funcs.length cf, .pointer (some ⟨bF, oF + k * 4, none⟩), .int .i64 0, .int .i64 0, .int .i64 0] 95)).drew) wr.heap.size bF (oF + k * 4) (.slice pt u.texts.length ct) (.slice (some ⟨bF, oF, none⟩) u.funcs.length cf) ⟨0, 0, 0⟩ := heap_alloc_new wr _
               obtain ⟨hn1, hn2, hn3, hn4⟩ := HU.out.name f hmem
               have hAL := Yvj 95 wr.heap.size bF (oF + k * 4) cp cf f.locals.length cl u.texts.length ct pt (some ⟨bF, oF, none⟩) pl pp (u.funcs.map Fun.args) (by simp; omega) f.parts hn3 _ hE (by rw [List.length_map]; exact hBx)
               have AL := Hq hAL
               have GW := Hq hgW
               by_cases c6 : Zyu f.locals.length u.texts.length (u.funcs.map Fun.args) f.parts = 0
               · have HM2 := Hq (HM.out.trans (Yed _ _ _ k f hg c6))
                 have C6 := Hq c6
                 clear c6 hmem hg hn1 hn2 hn3 hn4 hgW hAL hE hBx
                 go_wp2_with (go_at_call 35; refine AL.out.mono ?_; rintro e w3 ⟨rfl, hg3⟩; have HG3 := Hq hg3; clear hg3; rw [C6.out])
                 go_roundw
                 case rel => exact ⟨k + 1, by omega, by go_num, Zbg (Zbg CKr.out GW.out Ygt hB0.symm) HG3.out (Zkc (r := 0) (by omega)) hB0.symm, HM2.out⟩
                 case measure => simp [intOf]; omega
               · have g6 : (Zyu f.locals.length u.texts.length (u.funcs.map Fun.args) f.parts != 0) = true := by simpa using c6
                 have HE3 := Hq (HE2.out.trans (HM.out.trans (Yec _ _ _ k f hg c6)))
                 clear c6 hmem hg hn1 hn2 hn3 hn4 hgW hAL hE hBx
                 generalize Zyu f.locals.length u.texts.length (u.funcs.map Fun.args) f.parts = v at *
                 go_wp2_with (go_at_call 35; refine AL.out.mono ?_; rintro e w3 ⟨rfl, hg3⟩; have HG3 := Hq hg3; clear hg3)
                 go_ret
                 exact ⟨Xf HE3.out.symm, (Zbg (Zbg CKr.out GW.out Ygt hB0.symm) HG3.out (Zkc (r := 0) (by omega)) hB0.symm).gr⟩
             · have hkn : k = u.funcs.length := by omega
               have HE3 := Hq (HE2.out.trans (by rw [HM.out, hkn, List.drop_length]; rfl) : Ys u = 0)
               subst hkn
               go_wp2
               go_ret
               exact ⟨Xf HE3.out.symm, CKr.out.gr⟩
    · have z1 : (f0.args != 0) = true := by simpa using c5
      rw [if_pos (Or.inr c5)] at hE0
      clear c5
      go_wp2
      go_ret
      exact ⟨rfl, CKr.out.gr⟩
structure Sp (P : Nat -> Prop) (w w' : World) : Prop where
 os : w'.os = w.os
 tape : w'.tape = w.tape
 output : w'.output = w.output
 size : w.heap.size <= w'.heap.size
 block : ∀ k, k < w.heap.size -> ¬ P k -> w'.heap[k]? = w.heap[k]?
theorem Zim (P : Nat -> Prop) (w : World) : Sp P w w := ⟨rfl, rfl, rfl, Nat.le_refl _, fun _ _ _ => rfl⟩
theorem Zr {P Q : Nat -> Prop} {w w1 w2 : World} (h : Sp P w w1) (g : Sp Q w1 w2) (hq : ∀ k, k < w.heap.size -> Q k -> P k) : Sp P w w2 :=
 ⟨g.os.trans h.os, g.tape.trans h.tape, g.output.trans h.output, Nat.le_trans h.size g.size, fun k hk hp => (g.block k (Nat.lt_of_lt_of_le hk h.size) (fun hQ => hp (hq k hk hQ))).trans (h.block k hk hp)⟩
theorem Zaq {P Q : Nat -> Prop} {w w1 : World} (h : Sp P w w1) (hq : ∀ k, k < w.heap.size -> P k -> Q k) : Sp Q w w1 :=
 ⟨h.os, h.tape, h.output, h.size, fun k hk hp => h.block k hk (fun hQ => hp (hq k hk hQ))⟩
theorem Zl {P : Nat -> Prop} {w w1 : World} {r : Option Nat} (h : w.grownBy w1 r) (hr : ∀ k, k < w.heap.size -> r = some k -> P k) : Sp P w w1 :=
 ⟨h.os, h.tape, h.output, h.size, fun k hk hp => h.block k hk (fun e => hp (hr k hk e.symm))⟩
theorem Zdm {P : Nat -> Prop} {w w1 : World} (h : Sp P w w1) (hp : ∀ k, k < w.heap.size -> ¬ P k) : w.grownBy w1 none :=
 ⟨h.os, h.tape, h.output, h.size, fun k hk _ => h.block k hk (hp k hk)⟩
theorem Ye {w w' : World} {k : Nat} (h : w'.heap[k]? = w.heap[k]?) (o : Nat) : w'.cell? ⟨k, o, none⟩ = w.cell? ⟨k, o, none⟩ := by
 unfold World.cell?; rw [h]
def Xi : List (Int × Int) -> List Value
 | [] => []
 | x :: r => .int .i64 x.1 :: .int .i64 x.2 :: Xi r
theorem Zgz (a b : List (Int × Int)) : Xi (a ++ b) = Xi a ++ Xi b := by
 induction a with
 | nil => rfl
 | cons x r ih => simp [Xi, ih]
theorem Zld (a : List (Int × Int)) : (Xi a).length = a.length * 2 := by
 induction a with
 | nil => rfl
 | cons x r ih => simp [Xi, ih]; omega
structure Yc (w : World) (E Bd : Nat) (vt vf : Value) (nm : ByteArray) (ar : Int) (vl vp vout vorg vlo vk : Value) (out : List (Int × Int)) (org : List Int) : Prop where
 box : w.heap[Bd]? = some (.cells #[vt, vf, .string nm, .int .i64 ar, vl, vp, vout, vorg, vlo, vk] 114 (0, 0))
 out : w.ownsRow E 75 2 vout out.length (Xi out)
 org : w.ownsRow E 3 1 vorg org.length (org.map (Value.int .i64))
 lt : Bd < E
 le : E <= w.heap.size
theorem Yo {w : World} {E Bd : Nat} {vt vf : Value} {nm : ByteArray} {ar : Int} {vl vp vout vorg vlo vk : Value} {out : List (Int × Int)} {org : List Int} (h : Yc w E Bd vt vf nm ar vl vp vout vorg vlo vk out org) (j : Nat) :
 w.cell? ⟨Bd, j, none⟩ = (#[vt, vf, .string nm, .int .i64 ar, vl, vp, vout, vorg, vlo, vk] : Array Value)[j]? := Cq w Bd j _ _ _ h.box
theorem Zyi {w : World} {E Bd : Nat} {vt vf : Value} {nm : ByteArray} {ar : Int} {vl vp vout vorg vlo vk : Value} {out : List (Int × Int)} {org : List Int} (h : Yc w E Bd vt vf nm ar vl vp vout vorg vlo vk out org) (j : Nat) : w.frozen? ⟨Bd, j, none⟩ = false := frozen_of_row w Bd j _ _ h.box
theorem Yia : Try.prog.underlying 71 = some (.slice 75) := by kernel_rfl
theorem Ydf : (Try.prog.info? 75).map (fun i => (i.zero, i.size, i.bytes)) = some (some (.agg #[.int .i64 0, .int .i64 0]), 2, 16) := by kernel_rfl
theorem Yk {w : World} {base : Nat} {e : TypeId} {size n : Nat} {v : Value} {xs : List Value} (h : w.ownsRow base e size v (n + 1) xs) : ∃ g cap, v = .slice (some ⟨g, 0, none⟩) (n + 1) cap := by
 rcases h.2 with ⟨_, h0⟩ | ⟨g, cap, cur, hv, _⟩
 · omega
 · exact ⟨g, cap, hv⟩
theorem Zjy (w : World) (x y : Value) (t : TypeId) : ∀ j u, [x, y][j]? = some u -> (w.alloc (.cells #[x, y] t)).cell? ((⟨w.heap.size, 0, none⟩ : Addr).add j) = some u := by
 intro j u hj
 match j, hj with
 | 0, hj => simp at hj; subst hj; simp [Addr.add]
 | 1, hj => simp at hj; subst hj; simp [Addr.add]
theorem Zqm (k : IntKind) (x y : Int) : ∀ u ∈ [Value.int k x, Value.int k y], u.oneCell' = true := by
 intro u hu; simp at hu; rcases hu with rfl | rfl <;> rfl
def Yj (Bd : Nat) (vout vorg : Value) (k : Nat) : Prop := k = Bd \/ vout.ownBlock = some k \/ vorg.ownBlock = some k
def Zia (w : World) (E Bd : Nat) (vt vf : Value) (nm : ByteArray) (ar : Int) (vl vp vout vorg vlo vk : Value) (out : List (Int × Int)) (org : List Int) (part op a : Int) (e : Ending) (w' : World) : Prop :=
 e = .returned (.int .i64 out.length) /\ Sp (Yj Bd vout vorg) w w' /\ ∃ vout' vorg', Yc w' E Bd vt vf nm ar vl vp vout' vorg' vlo vk (out ++ [(op, a)]) (org ++ [part]) /\
   (∀ k, k < w.heap.size -> Yj Bd vout' vorg' k -> Yj Bd vout vorg k)
theorem Jw {w : World} {base : Nat} {e : TypeId} {size n : Nat} {v : Value} {xs : List Value} {b o : Nat} {u : Value} (h : w.ownsRow base e size v n xs) (hb : b < base) : (w.setCell ⟨b, o, none⟩ u).ownsRow base e size v n xs :=
 h.kept (Zd w b o u) (Zga h hb)
theorem Zbo {w : World} {base : Nat} {e e' : TypeId} {size size' n n' : Nat} {v v' : Value} {xs xs' : List Value} (h : w.ownsRow base e size v n xs) (h' : w.ownsRow base e' size' v' n' xs') (hne : e ≠ e') : v.ownBlock = none \/ v.ownBlock ≠ v'.ownBlock := by
 rcases h.2 with ⟨rfl, _⟩ | ⟨g, cap, cur, rfl, _, hg, _⟩
 · left; rfl
 · right
   rcases h'.2 with ⟨rfl, _⟩ | ⟨g', cap', cur', rfl, _, hg', _⟩
   · simp [Value.ownBlock]
   · simp only [Value.ownBlock]
     intro heq
     injection heq with heq
     rw [heq] at hg
     rw [hg] at hg'
     injection hg' with hx
     injection hx with _ hx2 _
     exact hne hx2
theorem Zu {w w' : World} {b : Nat} {o : Obj} {row : Option Nat} (h : w.heap[b]? = some o) (g : w.grownBy w' row) (hr : row ≠ some b) : w'.heap[b]? = some o := by
 rw [g.block b (Gs h) (by intro e; exact hr e.symm)]; exact h
theorem Zh {w : World} {b o : Nat} {cs : Array Value} {t : TypeId} {v : Value} (h : w.heap[b]? = some (.cells cs t (0, 0))) : (w.setCell ⟨b, o, none⟩ v).heap[b]? = some (.cells (cs.setIfInBounds o v) t (0, 0)) := heap_setCell_same w b o cs t v h
theorem Zpj {w : World} {base : Nat} {e : TypeId} {size n : Nat} {v : Value} {xs : List Value} (h : w.ownsRow base e size v n xs) {b : Nat} (hb : b < base) : v.ownBlock ≠ some b := Zan h hb
structure Mid (w w1 : World) (E Bd : Nat) (vt vf : Value) (nm : ByteArray) (ar : Int) (vl vp vout vorg vlo vk v1 : Value) (out : List (Int × Int)) (org : List Int) (op a : Int) : Prop where
 c : Yc w E Bd vt vf nm ar vl vp vout vorg vlo vk out org
 box : w1.heap[Bd]? = some (.cells #[vt, vf, .string nm, .int .i64 ar, vl, vp, vout, vorg, vlo, vk] 114 (0, 0))
 out : w1.ownsRow E 75 2 v1 (out.length + 1) (Xi out ++ [.int .i64 op, .int .i64 a])
 org : (w1.setCell ⟨Bd, 6, none⟩ v1).ownsRow E 3 1 vorg org.length (org.map (Value.int .i64))
 d6 : w1.cell? ⟨Bd, 6, none⟩ = some vout
 d7 : w1.cell? ⟨Bd, 7, none⟩ = some vorg
 z6 : w1.frozen? ⟨Bd, 6, none⟩ = false
 lt : Bd < w1.heap.size
 e2 : ∀ part : Int, E <= ((w1.setCell ⟨Bd, 6, none⟩ v1).alloc (.cells #[.int .i64 part] 3)).heap.size
 sp : Sp (Yj Bd vout vorg) w (w1.setCell ⟨Bd, 6, none⟩ v1)
 row : v1.ownBlock = vout.ownBlock \/ ∃ k, v1.ownBlock = some k /\ w.heap.size <= k
theorem Yop {w w1 : World} {E Bd : Nat} {vt vf : Value} {nm : ByteArray} {ar : Int} {vl vp vout vorg vlo vk v1 : Value} {out : List (Int × Int)} {org : List Int} {op a : Int} {o : Obj}
 (h : Yc w E Bd vt vf nm ar vl vp vout vorg vlo vk out org) (own : w1.ownsRow E 75 2 v1 (out.length + 1) (Xi out ++ [.int .i64 op, .int .i64 a])) (g : (w.alloc o).grownBy w1 vout.ownBlock)
 (hat : v1.ownBlock = vout.ownBlock \/ v1.ownBlock = some (w.alloc o).heap.size) : Mid w w1 E Bd vt vf nm ar vl vp vout vorg vlo vk v1 out org op a := by
 have hlt := h.lt
 have hle := h.le
 have hb : w1.heap[Bd]? = some (.cells #[vt, vf, .string nm, .int .i64 ar, vl, vp, vout, vorg, vlo, vk] 114 (0, 0)) := Zu (Zu h.box (Ga w o none) (by simp)) g (Zpj h.out hlt)
 have hsz := g.size
 rw [World.size_alloc] at hsz
 refine ⟨h, hb, own, ?_, Cq w1 Bd 6 _ _ _ hb, Cq w1 Bd 7 _ _ _ hb, frozen_of_row w1 Bd 6 _ _ hb, by omega, fun part => by simp; omega, ?_, ?_⟩
 · exact Jw ((h.org.alloc o).kept g (Zbo (h.org.alloc o) (h.out.alloc o) (by decide))) hlt
 · refine Zr (Zr (Zl (Ga w o none) (by simp)) (Zl (P := Yj Bd vout vorg) g ?_) (fun _ _ h => h)) (Zl (P := Yj Bd vout vorg) (Zd w1 Bd 6 v1) ?_) (fun _ _ h => h)
   · intro k _ e; exact Or.inr (Or.inl e)
   · intro k _ e; injection e with e; exact Or.inl e.symm
 · rcases hat with h1 | h1
   · exact Or.inl h1
   · rw [World.size_alloc] at h1; exact Or.inr ⟨_, h1, by omega⟩
structure Xcz (w w1 w2 : World) (E Bd : Nat) (vt vf : Value) (nm : ByteArray) (ar : Int) (vl vp vout vorg vlo vk v1 v2 : Value) (out : List (Int × Int)) (org : List Int) (part op a : Int) : Prop where
 d6 : w2.cell? ⟨Bd, 6, none⟩ = some v1
 d7 : w2.cell? ⟨Bd, 7, none⟩ = some vorg
 z7 : w2.frozen? ⟨Bd, 7, none⟩ = false
 lt : Bd < w2.heap.size
 sp : Sp (Yj Bd vout vorg) w (w2.setCell ⟨Bd, 7, none⟩ v2)
 code : Yc (w2.setCell ⟨Bd, 7, none⟩ v2) E Bd vt vf nm ar vl vp v1 v2 vlo vk (out ++ [(op, a)]) (org ++ [part])
 rows : ∀ k, k < w.heap.size -> Yj Bd v1 v2 k -> Yj Bd vout vorg k
theorem Yoq {w w1 w2 : World} {E Bd : Nat} {vt vf : Value} {nm : ByteArray} {ar : Int} {vl vp vout vorg vlo vk v1 v2 : Value} {out : List (Int × Int)} {org : List Int} {part op a : Int} {o : Obj}
 (h : Mid w w1 E Bd vt vf nm ar vl vp vout vorg vlo vk v1 out org op a) (own : w2.ownsRow E 3 1 v2 (org.length + 1) (org.map (Value.int .i64) ++ [.int .i64 part])) (g : ((w1.setCell ⟨Bd, 6, none⟩ v1).alloc o).grownBy w2 vorg.ownBlock)
 (hat : v2.ownBlock = vorg.ownBlock \/ v2.ownBlock = some ((w1.setCell ⟨Bd, 6, none⟩ v1).alloc o).heap.size) : Xcz w w1 w2 E Bd vt vf nm ar vl vp vout vorg vlo vk v1 v2 out org part op a := by
 have hlt := h.c.lt
 have hb0 : (w1.setCell ⟨Bd, 6, none⟩ v1).heap[Bd]? = some (.cells #[vt, vf, .string nm, .int .i64 ar, vl, vp, v1, vorg, vlo, vk] 114 (0, 0)) := by rw [Zh h.box]; rfl
 have hb : w2.heap[Bd]? = some (.cells #[vt, vf, .string nm, .int .i64 ar, vl, vp, v1, vorg, vlo, vk] 114 (0, 0)) := Zu (Zu hb0 (Ga _ o none) (by simp)) g (Zpj h.org hlt)
 have hsz := g.size
 rw [World.size_alloc, World.size_setCell] at hsz
 have hwz := h.sp.size
 rw [World.size_setCell] at hwz
 have hle := h.c.le
 have hout : w2.ownsRow E 75 2 v1 (out.length + 1) (Xi out ++ [.int .i64 op, .int .i64 a]) :=
  ((Jw h.out hlt).alloc o).kept g (Zbo ((Jw h.out hlt).alloc o) (h.org.alloc o) (by decide))
 refine ⟨Cq w2 Bd 6 _ _ _ hb, Cq w2 Bd 7 _ _ _ hb, frozen_of_row w2 Bd 7 _ _ hb, by omega, ?_, ⟨?_, ?_, ?_, hlt, ?_⟩, ?_⟩
 · refine Zr (Zr (Zr h.sp (Zl (P := Yj Bd vout vorg) (Ga _ o none) (by simp)) (fun _ _ h => h)) (Zl (P := Yj Bd vout vorg) g ?_) (fun _ _ h => h)) (Zl (P := Yj Bd vout vorg) (Zd w2 Bd 7 v2) ?_) (fun _ _ h => h)
   · intro k _ e; exact Or.inr (Or.inr e)
   · intro k _ e; injection e with e; exact Or.inl e.symm
 · rw [Zh hb]; rfl
 · rw [List.length_append, Zgz]; exact Jw hout hlt
 · rw [List.length_append, List.map_append]; exact Jw own hlt
 · rw [World.size_setCell]; omega
 · intro k hk hp
   rcases hp with e | e | e
   · exact Or.inl e
   · rcases h.row with h1 | ⟨k', h1, h2⟩
     · exact Or.inr (Or.inl (h1 ▸ e))
     · rw [h1] at e; injection e with e; omega
   · rcases hat with h1 | h1
     · exact Or.inr (Or.inr (h1 ▸ e))
     · rw [h1, World.size_alloc, World.size_setCell] at e; injection e with e; omega
theorem Zbq (E Bd : Nat) (vt vf : Value) (nm : ByteArray) (ar : Int) (vl vp vout vorg vlo vk : Value) (out : List (Int × Int)) (org : List Int) (part op a : Int) (w : World)
 (hC : Yc w E Bd vt vf nm ar vl vp vout vorg vlo vk out org) (ho : out.length <= 1000000000000) (hg : org.length <= 1000000000000) :
 Calls Try.prog 44 #[.pointer (some ⟨Bd, 0, none⟩), .int .i64 part, .int .i64 op, .int .i64 a] w (Zia w E Bd vt vf nm ar vl vp vout vorg vlo vk out org part op a) := by
 have C := Hq hC
 have c6 : w.cell? ⟨Bd, 6, none⟩ = some vout := Yo hC 6
 have hlt := hC.lt
 have hle := hC.le
 obtain ⟨i0, hi, hz0, hz1, hz2⟩ := info_parts Ydf
 obtain ⟨j0, hj, hy0, hy1, hy2⟩ := info_parts Zaz
 have hc3 : out.length + 1 <= maxLen := by unfold maxLen; omega
 have hc4 : (out.length + 1) * 16 <= 140737488355328 := by omega
 have hc5 : org.length + 1 <= maxLen := by unfold maxLen; omega
 have hc6 : (org.length + 1) * 8 <= 140737488355328 := by omega
 have hE1 : E <= (w.alloc (.cells #[.int .i64 op, .int .i64 a] 75)).heap.size := by simp; omega
 have hBw : Bd < w.heap.size := by omega
 clear hC
 go_enter Try.func44, Try.ntmps44
 go_wp2_with (first
  | (at_builtin; refine wpList_append_own_at _ rfl _ _ 71 rfl E 75 i0 (.agg #[.int .i64 0, .int .i64 0]) 2 16 Yia hi hz0 hz1 hz2 rfl (by decide) _ _ _ rfl (C.out.out.alloc _) ⟨w.heap.size, 0, none⟩ 1 1 [.int .i64 op, .int .i64 a] rfl rfl (Zjy w _ _ _) (Zqm _ _ _) hc3 hc4 hE1 ?_; intro v1 w1 hown1 hgr1 hnil1 hat1; obtain ⟨g1, k1, hv1⟩ := Yk hown1; subst hv1; have M1 := Hq (Yop C.out hown1 hgr1 hat1); have d6 := M1.out.d6; have d7 := M1.out.d7; have z6 := M1.out.z6; have hl1 := M1.out.lt; have hE2 := M1.out.e2 part; clear hown1 hgr1 hnil1 hat1)
  | (at_builtin; refine wpList_append_own_at _ rfl _ _ 47 rfl E 3 j0 (.int .i64 0) 1 8 Zcd hj hy0 hy1 hy2 rfl (by decide) _ _ _ rfl (M1.out.org.alloc _) ⟨w1.heap.size, 0, none⟩ 1 1 [.int .i64 part] rfl rfl (Zrb w1 Bd 6 _ _ _) (Zae _ _) hc5 hc6 hE2 ?_; intro v2 w2 hown2 hgr2 hnil2 hat2; obtain ⟨g2, k2, hv2⟩ := Yk hown2; subst hv2; have M2 := Hq (Yoq M1.out hown2 hgr2 hat2); have d7' := M2.out.d7; have z7 := M2.out.z7; have d6' := M2.out.d6; have hl2 := M2.out.lt; clear hown2 hgr2 hnil2 hat2))
 go_ret
 exact ⟨Xf (by go_num), M2.out.sp, _, _, M2.out.code, M2.out.rows⟩
theorem Zbc (a : Addr) (w : World) : (Go.method 336 110 (.pointer (some a)) "retort/comp.emit").run Try.prog w = .ok (44, .pointer (some a)) w := by kernel_rfl
theorem Zlt (a : Addr) (w : World) : (Go.nilAhead 336 110 (.pointer (some a)) "retort/comp.emit").run Try.prog w = .ok (some false) w := by kernel_rfl
theorem Ztr (E Bd b : Nat) (vt vf : Value) (nm : ByteArray) (ar : Int) (vl vp vout vorg vlo vk : Value) (out : List (Int × Int)) (org : List Int) (at_ op : Int) (w : World)
 (hC : Yc w E Bd vt vf nm ar vl vp vout vorg vlo vk out org) (ho : out.length <= 1000000000000) (hg : org.length <= 1000000000000) (hb : w.cell? ⟨b, 0, none⟩ = some (.int .i64 op)) :
 Calls Try.prog 66 #[.iface 110 (.pointer (some ⟨Bd, 0, none⟩)), .int .i64 at_, .pointer (some ⟨b, 0, none⟩)] w (Zia w E Bd vt vf nm ar vl vp vout vorg vlo vk out org at_ op 0) := by
 have hm := Zbc ⟨Bd, 0, none⟩
 have EM := Hq (Zbq E Bd vt vf nm ar vl vp vout vorg vlo vk out org at_ op 0 w hC ho hg)
 clear hC
 go_enter Try.func66, Try.ntmps66
 go_wp2_with (go_at_call 44; refine EM.out.mono ?_; intro e w1 hp; obtain ⟨rfl, hsp, hrest⟩ := hp; have SP := Hq hsp; have RS := Hq hrest; clear hsp hrest)
 go_ret
 exact ⟨rfl, SP.out, RS.out⟩
end Go.Proofs.Ytecaolkbllbokaa.TG
