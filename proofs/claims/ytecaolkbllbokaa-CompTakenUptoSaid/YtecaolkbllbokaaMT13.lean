import Derived.Test.YtecaolkbllbokaaMT12
set_option linter.unusedSimpArgs false
set_option linter.unusedVariables false
set_option maxRecDepth 100000
set_option maxHeartbeats 16000000
namespace Go.Proofs.Ytecaolkbllbokaa.TG
open Go.RowKit Go.Great
theorem Zoj (ts : List (ByteArray × List Int)) : ∀ q, q <= ts.length -> Zy ts q = (((ts.take q).flatMap Prod.snd).length : Int)
 | 0, _ => by simp [Zy]
 | q + 1, h => by
   have hq : q < ts.length := h
   rw [Zy, Zoj ts q (by omega), List.take_succ_eq_append_getElem hq, List.flatMap_append, List.length_append]
   have : ts.getD q (ByteArray.empty, []) = ts[q] := by simp [List.getD, List.getElem?_eq_getElem hq]
   rw [this]
   simp
theorem Zli (ts : List (ByteArray × List Int)) (q : Nat) : ∀ k, Zy ts q <= Zy ts (q + k)
 | 0 => Int.le_refl _
 | k + 1 => by
   have := Zli ts q k
   have e : Zy ts (q + (k + 1)) = Zy ts (q + k) + ((ts.getD (q + k) (ByteArray.empty, [])).2.length : Int) := rfl
   rw [e]; omega
structure Zyv (w wr : World) (u : Un) (mem : Int) (vt vf : Value) (P0 q : Nat) (vd : Value) (bs : List Int) : Prop where
 pb : wr.heap[P0]? = some (.cells #[.int .i64 mem, vd, .slice none 0 0] 32 (0, 0))
 rb : wr.heap[w.heap.size + 1]? = some (.cells #[.int .i64 0, .slice none 0 0, .slice none 0 0] 32 (0, 0))
 hP : w.heap.size + 1 < P0
 gr : w.grownBy wr none
 ub : Ykh wr w.heap.size vt vf
 dt : wr.ownsRow w.heap.size 5 1 vd bs.length (bs.map (Value.int .u8))
 eb : bs = (u.texts.take q).flatMap Prod.snd
theorem Zpb {w wr w1 : World} {u : Un} {mem : Int} {vt vf : Value} {P0 q : Nat} {vd v1 : Value} {bs d : List Int} {nm : ByteArray} {o : Obj} (h : Zyv w wr u mem vt vf P0 q vd bs) (hq : u.texts[q]? = some (nm, d)) (g : (wr.alloc o).grownBy w1 vd.ownBlock)
 (own : w1.ownsRow w.heap.size 5 1 v1 (bs.length + d.length) (bs.map (Value.int .u8) ++ d.map (Value.int .u8))) : Zyv w (w1.setCell ⟨P0, 1, none⟩ v1) u mem vt vf P0 (q + 1) v1 (bs ++ d) := by
 have hPw := (Gs h.pb)
 have hgw := h.gr.size
 have hPlt := h.hP
 have s1 : Sp (fun k => vd.ownBlock = some k) wr w1 := Zr (Zl (P := fun k => vd.ownBlock = some k) (Ga wr o none) (by simp)) (Zl (P := fun k => vd.ownBlock = some k) g fun k _ e => e) (fun _ _ h => h)
 have pb1 : w1.heap[P0]? = some (.cells #[.int .i64 mem, vd, .slice none 0 0] 32 (0, 0)) := by
  rw [s1.block P0 hPw (Yh h.dt h.pb (by decide))]; exact h.pb
 have bx : ∀ {b : Nat} {cs : Array Value} {t : TypeId}, wr.heap[b]? = some (.cells cs t (0, 0)) -> t ≠ 5 -> b ≠ P0 -> (w1.setCell ⟨P0, 1, none⟩ v1).heap[b]? = some (.cells cs t (0, 0)) := by
  intro b cs t hb h1 h2
  rw [heap_setCell_other w1 _ b _ (by simpa using h2), s1.block b (Gs hb) (Yh h.dt hb (Ne.symm h1))]
  exact hb
 refine ⟨by rw [Zh pb1]; rfl, bx h.rb (by decide) (by omega), h.hP, ?_, bx h.ub (by decide) (by omega), ?_, ?_⟩
 · refine Zdm (Zr (Zr (Zl (P := fun k => vd.ownBlock = some k \/ k = P0) h.gr (by simp)) (Zaq (Q := fun k => vd.ownBlock = some k \/ k = P0) s1 fun _ _ e => Or.inl e) (fun _ _ h => h)) (Zl (P := fun k => vd.ownBlock = some k \/ k = P0) (Zd w1 P0 1 v1) fun k _ e => by injection e with e; exact Or.inr e.symm) (fun _ _ h => h)) fun k hk hp => ?_
   rcases hp with e | e
   · have := (h.dt.lt k e).1; omega
   · omega
 · rw [List.length_append, List.map_append]
   refine own.kept (Zd w1 P0 1 v1) (Or.inr (Yh own pb1 (by decide)))
 · rw [h.eb]
   obtain ⟨hql, hqe⟩ := List.getElem?_eq_some_iff.1 hq
   rw [List.take_succ_eq_append_getElem hql, List.flatMap_append, hqe]
   simp
theorem Zyk {w wr : World} {u : Un} {mem : Int} {vt vf : Value} {P0 : Nat} {vd : Value} {bs : List Int} (h : Zyv w wr u mem vt vf P0 u.texts.length vd bs) : Zzb w wr u mem vt vf P0 0 (.slice none 0 0) vd (.slice none 0 0) [] := by
 have e : bs = Zfp u := by rw [h.eb, List.take_length]; rfl
 refine ⟨rfl, h.pb, h.rb, h.hP, h.gr, h.ub, ?_, ?_, World.ownsRow_nil _ _ _ _, fun i vo vg f hi => (by cases hi), fun i j a b a' b' _ hi => (by cases hi)⟩
 · rw [<- e]; exact h.dt
 · have : Zjn u.funcs [] = [] := by cases u.funcs <;> rfl
   rw [this]; exact World.ownsRow_nil _ _ _ _
def Ymc (E Bd bc b6 M B cp ct : Nat) (pt pp : Option Addr) (vf vl : Value) (nm : ByteArray) (ar : Int) (ts : List (ByteArray × List Int)) (ps : List (Int × Int × Int)) : Cx := ⟨E, Bd, bc, b6, M, B, cp, ct, pt, pp, vf, vl, nm, ar, ts, ps⟩
theorem Ygp {wr w6 : World} {Bd bc b6 M B cp ct : Nat} {pt pp : Option Addr} {vf vl : Value} {nm : ByteArray} {ar : Int} {ts : List (ByteArray × List Int)} {ps : List (Int × Int × Int)} (hA : AE wr w6 Bd bc b6 M (.slice pt ts.length ct) vf nm ar vl (.slice pp ps.length cp)) (hB : B <= wr.heap.size)
 (hp : Zcw wr B pp ps) (ht : Zap wr B pt ts) (nts : ts.length <= 1024) (nct : ts.length <= ct) (mct : ct <= maxLen) (wf : ∀ x ∈ ts, x.1.size <= maxLen /\ x.2.length <= 17592186044415) (np : ps.length <= 100000000000) (ho : okP ts.length ps 65 0 0) :
 Zhj (Ymc w6.heap.size Bd bc b6 M B cp ct pt pp vf vl nm ar ts ps) /\
 Calls Try.prog 43 #[.pointer (some ⟨Bd, 0, none⟩), .int .i64 0] (w6.setCell ⟨Bd, 9, none⟩ (.map (some M))) fun e w8 => ∃ s8 v, e = .returned v /\
  Go (Ymc w6.heap.size Bd bc b6 M B cp ct pt pp vf vl nm ar ts ps) (w6.setCell ⟨Bd, 9, none⟩ (.map (some M))) Stt.nil w8 s8 /\ s8.abs = (Yx ts ps 65 ⟨[], [], []⟩ 0).1 /\ s8.out.length <= 999999999998 := by
 have heB := hA.eB
 have ok : Zhj (Ymc w6.heap.size Bd bc b6 M B cp ct pt pp vf vl nm ar ts ps) := ⟨by show B <= Bd; omega, nts, nct, mct, wf, by show ps.length <= _; omega⟩
 have h0 := Zpk (c := Ymc w6.heap.size Bd bc b6 M B cp ct pt pp vf vl nm ar ts ps) hA rfl hB hp ht
 refine ⟨ok, ?_⟩
 refine (Xy ok (Zmm _ ok 65) (s := Stt.nil) (at_ := 0) ho h0 (by show 0 + 8 * (ps.length - 0) + 8 <= _; omega)).mono ?_
 intro e w8 hq
 obtain ⟨s8, p8, rfl, g8⟩ := hq
 refine ⟨s8, _, rfl, g8.go, ?_, ?_⟩
 · have := g8.eq
   show s8.abs = (Yx ts ps 65 Stt.nil.abs 0).1
   exact (congrArg Prod.fst this).symm
 · have h1 := g8.hi
   have h2 : p8 <= ps.length := g8.le
   have h3 : Stt.nil.out.length = 0 := rfl
   omega
theorem Yyx {c : Cx} (ok : Zhj c) {w : World} {s : Stt} (h : AtS c w s) (hb : s.out.length <= 1000000000000) (o x : Int) :
 Calls Try.prog 44 #[.pointer (some ⟨c.Bd, 0, none⟩), .int .i64 0, .int .i64 o, .int .i64 x] w fun e w' => e = .returned (.int .i64 s.out.length) /\ ∃ s', Go c w s w' s' /\ s'.abs = s.abs.emit 0 (o, x) /\ s'.L = s.L /\ s'.vlo = s.vlo := Zcy ok h hb 0 o x
theorem Zzx {E Bd bc b6 M B cp ct : Nat} {pt pp : Option Addr} {vf vl : Value} {nm : ByteArray} {ar : Int} {ts : List (ByteArray × List Int)} {ps : List (Int × Int × Int)} (ok : Zhj (Ymc E Bd bc b6 M B cp ct pt pp vf vl nm ar ts ps)) {w : World} {s : Stt} (h : AtS (Ymc E Bd bc b6 M B cp ct pt pp vf vl nm ar ts ps) w s)
 (hb : s.out.length <= 1000000000000) (o x : Int) : Calls Try.prog 44 #[.pointer (some ⟨Bd, 0, none⟩), .int .i64 0, .int .i64 o, .int .i64 x] w fun e w' => e = .returned (.int .i64 s.out.length) /\ ∃ s', Go (Ymc E Bd bc b6 M B cp ct pt pp vf vl nm ar ts ps) w s w' s' /\ s'.abs = s.abs.emit 0 (o, x) := by
 refine (Yyx ok h hb o x).mono ?_
 intro e w' hq
 obtain ⟨rfl, s', g, a, -, -⟩ := hq
 exact ⟨rfl, s', g, a⟩
theorem Yxe {wr w6 w10 : World} {s10 : Stt} {Bd bc b6 M B cp ct : Nat} {pt pp : Option Addr} {vf vl : Value} {nm : ByteArray} {ar : Int} {ts : List (ByteArray × List Int)} {ps : List (Int × Int × Int)} (hA : AE wr w6 Bd bc b6 M (.slice pt ts.length ct) vf nm ar vl (.slice pp ps.length cp))
 (g : Go (Ymc w6.heap.size Bd bc b6 M B cp ct pt pp vf vl nm ar ts ps) (w6.setCell ⟨Bd, 9, none⟩ (.map (some M))) Stt.nil w10 s10) :
 FM wr w10 w6.heap.size wr.heap.size Bd (.slice pt ts.length ct) vf nm ar vl (.slice pp ps.length cp) s10.vout s10.vorg s10.vlo (.map (some M)) s10.out s10.org := Xbv (c := Ymc w6.heap.size Bd bc b6 M B cp ct pt pp vf vl nm ar ts ps) hA rfl g
theorem Yuw {ts : List (ByteArray × List Int)} {ps : List (Int × Int × Int)} {s8 s9 s10 : Stt} (a8 : s8.abs = (Yx ts ps 65 ⟨[], [], []⟩ 0).1) (a9 : s9.abs = s8.abs.emit 0 (3, 0)) (a10 : s10.abs = s9.abs.emit 0 (18, 0)) : s10.out = (Zbf ts ps).out /\ s10.org = (Zbf ts ps).org := by
 have e : s10.abs = Zbf ts ps := by rw [a10, a9, a8]; rfl
 exact ⟨congrArg PS.out e, congrArg PS.org e⟩
theorem Xbn {s8 s9 : Stt} {x : Int × Int} (h : s8.out.length <= 999999999998) (a9 : s9.abs = s8.abs.emit 0 x) : s9.out.length <= 1000000000000 := by
 have := Zee a9; omega
structure Xcy (w wr w10 : World) (P0 C0 Bd : Nat) (f : Fun) (vl vF vo vg : Value) : Prop where
 k0 : w10.cell? ⟨P0, 2, none⟩ = some vF
 z0 : w10.frozen? ⟨P0, 2, none⟩ = false
 k1 : w10.cell? ⟨C0, 1, none⟩ = some (.int .i64 f.args)
 k2 : w10.cell? ⟨C0, 2, none⟩ = some vl
 c6 : w10.cell? ⟨Bd, 6, none⟩ = some vo
 c7 : w10.cell? ⟨Bd, 7, none⟩ = some vg
 lP : P0 < w10.heap.size
 lC : C0 < w10.heap.size
 lB : Bd < w10.heap.size
 r0 : w10.cell? ⟨w.heap.size + 1, 0, none⟩ = some (.int .i64 0)
 r1 : w10.cell? ⟨w.heap.size + 1, 1, none⟩ = some (.slice none 0 0)
 r2 : w10.cell? ⟨w.heap.size + 1, 2, none⟩ = some (.slice none 0 0)
 y0 : w10.frozen? ⟨w.heap.size + 1, 0, none⟩ = false
 y1 : w10.frozen? ⟨w.heap.size + 1, 1, none⟩ = false
 y2 : w10.frozen? ⟨w.heap.size + 1, 2, none⟩ = false
 lR : w.heap.size + 1 < w10.heap.size
 nC : C0 ≠ P0
 nB : Bd ≠ P0
theorem Yxn {w wr w10 : World} {u : Un} {mem : Int} {vt vf : Value} {P0 k : Nat} {v vd vF : Value} {rows : List (Value × Value)} {f : Fun} {E C0 Bd : Nat} {ut uf : Value} {nm : ByteArray} {vl vp vo vg vlo vk : Value} {out : List (Int × Int)} {org : List Int}
 (h : Zzb w wr u mem vt vf P0 k v vd vF rows) (A : FM wr w10 E C0 Bd ut uf nm f.args vl vp vo vg vlo vk out org) : Xcy w wr w10 P0 C0 Bd f vl vF vo vg := by
 have hP := Zu h.pb A.gr (by simp)
 have hR := Zu h.rb A.gr (by simp)
 have hPw := (Gs h.pb)
 have e1 := A.eC
 have e2 := A.eB
 exact ⟨Cq w10 P0 2 _ _ _ hP, frozen_of_row w10 P0 2 _ _ hP, Cq w10 C0 1 _ _ _ A.cp, Cq w10 C0 2 _ _ _ A.cp, Yqz A.code, Yqy A.code, (Gs hP), (Gs A.cp), Nat.lt_of_lt_of_le A.code.lt A.code.le,
  Cq w10 _ 0 _ _ _ hR, Cq w10 _ 1 _ _ _ hR, Cq w10 _ 2 _ _ _ hR, frozen_of_row w10 _ 0 _ _ hR, frozen_of_row w10 _ 1 _ _ hR, frozen_of_row w10 _ 2 _ _ hR, (Gs hR), by omega, by omega⟩
theorem Zit {ops : Array Oper} {rest : List Oper} {o : Oper} {a : Act} {Q : Exit -> Act -> World -> Prop} {w : World} (hgd : o.guard = none) (s x : Operand) (t : TypeId)
 (ho : o.op = .call { callee := .builtin .append, args := #[s, x], argTypes := #[t, t] })
 (base : Nat) (e : TypeId) (i : TypeInfo) (size : Nat) (ht : Try.prog.underlying t = some (.slice e)) (hi : Try.prog.info? e = some i)
 (v : Value) (n : Nat) (xs : List Value) (hs : a.eval s = v) (hown : w.ownsRow base e size v n xs) (hx : a.eval x = .slice none 0 0)
 (h : wpList Try.prog ops Q rest (a.put o.dst v) w) :
 wpList Try.prog ops Q (o :: rest) a w := by
 refine wpList_plain hgd fun K hK => ?_
 have hr := run_append_owned_none (P := Try.prog) (w := w) base t o.type e i size ht hi v n xs hown
 unfold Oper.wp execOp
 simp only [ho, resolve, invoke, builtin, Sem.run_bind, Sem.run_pure, Result.andThen_ok, List.map_toArray, List.map_cons, List.map_nil, hs, hx, hr]
 exact hK _ _ h
theorem Zeg : Try.prog.underlying 29 = some (.slice 5) := by kernel_rfl
theorem Zhc : (Try.prog.info? 5).map (fun i => (i.zero, i.size, i.bytes)) = some (some (.int .u8 0), 1, 1) := by kernel_rfl
def vS (P0 C0 Bd N12 : Nat) (args len : Int) (vF vl vout v13 : Value) : Nat -> Value
 | 1 => vF
 | n => vR P0 C0 Bd N12 args len vl vout v13 n
theorem Yjp {u : Un} {k : Nat} {f : Fun} (hf : u.funcs[k]? = some f) (h : 4096 < (Zbf u.texts f.parts).out.length) : Ypj u = true := by
 unfold Ypj
 rw [List.any_eq_true]
 exact ⟨f, List.mem_of_getElem? hf, by simpa using h⟩
theorem Ydz {u : Un} (h : ∀ (k : Nat) (f : Fun), u.funcs[k]? = some f -> (Zbf u.texts f.parts).out.length <= 4096) : Ypj u = false := by
 unfold Ypj
 rw [List.any_eq_false]
 intro f hf
 obtain ⟨k, hk⟩ := List.mem_iff_getElem?.1 hf
 have := h k f hk
 simp; omega
structure Ykk (w w' : World) (u : Un) (vd vF v : Value) (rows : List (Value × Value)) : Prop where
 len : rows.length = u.funcs.length
 gr : w.grownBy w' none
 dt : w'.ownsRow w.heap.size 5 1 vd (Zfp u).length ((Zfp u).map (Value.int .u8))
 fr : w'.ownsRow w.heap.size 73 4 vF u.funcs.length (Zjn u.funcs rows)
 or : w'.ownsRow w.heap.size 47 1 v u.funcs.length (rows.map Prod.snd)
 each : ∀ (i : Nat) (vo vg : Value) (f : Fun), rows[i]? = some (vo, vg) -> u.funcs[i]? = some f -> w'.ownsRow w.heap.size 75 2 vo (Zbf u.texts f.parts).out.length (Xi (Zbf u.texts f.parts).out) /\
  w'.ownsRow w.heap.size 3 1 vg (Zbf u.texts f.parts).org.length ((Zbf u.texts f.parts).org.map (Value.int .i64))
 ord : ∀ (i j : Nat) (a b a' b' : Value), i < j -> rows[i]? = some (a, b) -> rows[j]? = some (a', b') -> ∀ (x y : Nat), (a.ownBlock = some x \/ b.ownBlock = some x) -> (a'.ownBlock = some y \/ b'.ownBlock = some y) -> x < y
theorem Zvl {w w' w'' : World} {u : Un} {vd vF v : Value} {rows : List (Value × Value)} {P : Nat -> Prop} (h : Ykk w w' u vd vF v rows) (s : Sp P w' w'') (hp : ∀ k, P k -> w.heap.size <= k) (ho : ∀ (e : TypeId) (size n : Nat) (x : Value) (xs : List Value), w'.ownsRow w.heap.size e size x n xs -> (e = 5 \/ e = 73 \/ e = 47 \/ e = 75 \/ e = 3) -> ∀ k, x.ownBlock = some k -> ¬ P k) : Ykk w w'' u vd vF v rows := by
 refine ⟨h.len, ?_, Yz h.dt s (ho _ _ _ _ _ h.dt (by decide)), Yz h.fr s (ho _ _ _ _ _ h.fr (by decide)), Yz h.or s (ho _ _ _ _ _ h.or (by decide)), fun i vo vg f hi hf => ?_, h.ord⟩
 · refine Zdm (Zr (Zl (P := P) h.gr (by simp)) s (fun _ _ h => h)) fun k hk hk2 => ?_
   have := hp k hk2; omega
 · obtain ⟨e1, e2⟩ := h.each i vo vg f hi hf
   exact ⟨Yz e1 s (ho _ _ _ _ _ e1 (by decide)), Yz e2 s (ho _ _ _ _ _ e2 (by decide))⟩
def Zmk (w : World) (u : Un) (mem : Int) (e : Ending) (w' : World) : Prop :=
 if Ypj u = true then Zzc w 181 e w' else ∃ vd vF v rows, e = .returned (.tuple #[.agg #[.int .i64 mem, vd, vF], v, .int .i64 0]) /\ Ykk w w' u vd vF v rows
theorem Ymg {w wr : World} {u : Un} {mem : Int} {vt vf : Value} {P0 : Nat} {v vd vF : Value} {rows : List (Value × Value)} (h : Zzb w wr u mem vt vf P0 u.funcs.length v vd vF rows) (a b c : Value) :
 Ykk w (((wr.setCell ⟨w.heap.size + 1, 0, none⟩ a).setCell ⟨w.heap.size + 1, 1, none⟩ b).setCell ⟨w.heap.size + 1, 2, none⟩ c) u vd vF v rows := by
 have hT : wr.grownBy (((wr.setCell ⟨w.heap.size + 1, 0, none⟩ a).setCell ⟨w.heap.size + 1, 1, none⟩ b).setCell ⟨w.heap.size + 1, 2, none⟩ c) (some (w.heap.size + 1)) := Za (Za (Zd wr _ 0 _) (Zd _ _ 1 _)) (Zd _ _ 2 _)
 refine Zvl (P := fun k => k = w.heap.size + 1) (w' := wr) ⟨h.len, h.gr, h.dt, h.fr, h.or, h.each, h.ord⟩ (Zl hT fun k _ e => by injection e with e; exact e.symm) (fun k e => by omega) ?_
 intro e size n x xs ho he k hk hk2
 refine Yh ho h.rb ?_ (by rw [hk, hk2])
 rcases he with rfl | rfl | rfl | rfl | rfl <;> decide
theorem Ymh {w wr w10 : World} {u : Un} {mem : Int} {vt vf : Value} {P0 k : Nat} {v vd vF : Value} {rows : List (Value × Value)} (h : Zzb w wr u mem vt vf P0 k v vd vF rows) (g : wr.grownBy w10 none) (a b c : Value) :
 w.grownBy (((w10.setCell ⟨w.heap.size + 1, 0, none⟩ a).setCell ⟨w.heap.size + 1, 1, none⟩ b).setCell ⟨w.heap.size + 1, 2, none⟩ c) none := by
 have hT : w10.grownBy (((w10.setCell ⟨w.heap.size + 1, 0, none⟩ a).setCell ⟨w.heap.size + 1, 1, none⟩ b).setCell ⟨w.heap.size + 1, 2, none⟩ c) (some (w.heap.size + 1)) := Za (Za (Zd w10 _ 0 _) (Zd _ _ 1 _)) (Zd _ _ 2 _)
 exact Jc (Za h.gr g) hT (by omega)
def Xaf (w : World) (pt : Option Addr) (u : Un) : Prop := ∀ (i : Nat) (pd : Option Addr) (n cd b o : Nat), pt = some ⟨b, o, none⟩ -> i < u.texts.length -> w.cell? ⟨b, o + i * 2 + 1, none⟩ = some (.slice pd n cd) -> pd = none -> cd = 0
theorem Ydu (d : List Int) : ∀ u ∈ d.map (Value.int .u8), u.oneCell' = true := by
 intro u hu
 obtain ⟨x, _, rfl⟩ := List.mem_map.1 hu
 rfl
theorem Yjm {w : World} {b o : Nat} {d : List Int} (h : ∀ i, i < d.length -> w.cell? ⟨b, o + i, none⟩ = some (.int .u8 (d.getD i 0))) : ∀ j u, (d.map (Value.int .u8))[j]? = some u -> w.cell? ((⟨b, o, none⟩ : Addr).add j) = some u := by
 intro j u hj
 rw [List.getElem?_map] at hj
 cases hd : d[j]? with
 | none => rw [hd] at hj; cases hj
 | some x =>
   rw [hd] at hj
   injection hj with hj; subst hj
   have hjl := (List.getElem?_eq_some_iff.1 hd).1
   have := h j hjl
   simp only [List.getD, hd, Option.getD_some] at this
   unfold Addr.add
   by_cases h0 : j = 0
   · subst h0; simpa using this
   · simpa [h0] using this
theorem Yfd {w wr w1 : World} {u : Un} {mem : Int} {vt vf : Value} {P0 q : Nat} {vd : Value} {bs : List Int} {o : Obj} (h : Zyv w wr u mem vt vf P0 q vd bs) (g : (wr.alloc o).grownBy w1 vd.ownBlock) :
 w1.cell? ⟨P0, 1, none⟩ = some vd /\ w1.frozen? ⟨P0, 1, none⟩ = false /\ P0 < w1.heap.size := by
 have hb := Zu (Zu h.pb (Ga wr o none) (by simp)) g (Yh h.dt h.pb (by decide))
 exact ⟨Cq w1 P0 1 _ _ _ hb, frozen_of_row w1 P0 1 _ _ hb, (Gs hb)⟩
theorem Zwn {w wr : World} {u : Un} {mem : Int} {vt vf : Value} {P0 q : Nat} {vd : Value} {bs d : List Int} {nm : ByteArray} (h : Zyv w wr u mem vt vf P0 q vd bs) (hq : u.texts[q]? = some (nm, d)) (hb : Zy u.texts u.texts.length <= 65536) : bs.length + d.length <= 65536 := by
 obtain ⟨hql, hqe⟩ := List.getElem?_eq_some_iff.1 hq
 have h1 := Zoj u.texts (q + 1) hql
 have h2 := Zli u.texts (q + 1) (u.texts.length - (q + 1))
 rw [show q + 1 + (u.texts.length - (q + 1)) = u.texts.length by omega] at h2
 rw [List.take_succ_eq_append_getElem hql, List.flatMap_append, <- h.eb, hqe] at h1
 simp at h1
 omega
theorem Zvn (u : Un) (hu : Yre u) (hck : Ys u = 0) (mem : Int) (hm0 : 0 <= mem) (hm1 : mem <= 65536) (hm2 : Zy u.texts u.texts.length <= mem) (hnp : ∀ f ∈ u.funcs, f.parts.length <= 100000000000)
 (pt pf : Option Addr) (ct cf B : Nat) (w : World) (hU : Zab w B pt pf u) (nct : u.texts.length <= ct) (mct : ct <= maxLen) (hcap : Xaf w pt u) :
 Calls Try.prog 27 #[.agg #[.slice pt u.texts.length ct, .slice pf u.funcs.length cf], .int .i64 mem] w (Zmk w u mem) := by
 have hr := Zfi hck
 have hcA := fun w' (hU' : Zab w' B pt pf u) => Zhb u hu pt pf ct cf B w' hU'
 rw [hck] at hcA
 have CA := Hq hcA
 have SA := Hq (fun w' (hU' : Zab w' B pt pf u) => Zlr u.texts hr.nt hu.text pt ct B w' hU'.texts hU'.le)
 have UU := Hq hU
 have HR := Hq hr
 have HU := Hq hu
 have HNP := Hq hnp
 have HCAP := Hq hcap
 have HCT := Hq (And.intro nct mct)
 have m0 : ¬ mem < 0 := by omega
 have m1 : ¬ 65536 < mem := by omega
 have m2 : ¬ mem < Zy u.texts u.texts.length := by omega
 have hnt := hr.nt
 have hnf := hr.nf
 clear hcA hU hr hck hu hnp hcap nct mct
 go_enter Try.func27, Try.ntmps27
 go_wp2_with (first
  | (go_at_call 22; refine (CA.out _ (Yl UU.out (Za (Ga w _ none) (Ga _ _ none)) (by simp))).mono ?_; rintro e w1 ⟨rfl, hg1⟩; have hUB := Yi (Yi (Zhy w _ _) (Ga _ _ none) (by simp)) hg1 (by simp); have b0 := Zbv hUB; have b1 := Zbu hUB; have hltB := Jd hUB; have HU1 := Hq (Yl UU.out (Za (Za (Ga w _ none) (Ga _ _ none)) hg1) (by simp)); have HB1 := Hq hUB; have HG1 := Hq hg1; clear hg1 hUB)
  | (go_at_call 41; refine (SA.out _ HU1.out).mono ?_; rintro e w2 ⟨rfl, hg2⟩; have hg3 := Za HG1.out hg2; have hUB2 := Yi HB1.out hg2 (by simp); have d0 := Zbv hUB2; have d1 := Zbu hUB2; have hlt2 := Jd hUB2; have HB2 := Hq hUB2; have HG := Hq hg3; clear hg2 hg3 hUB2))
 have T0 : Zyv w (w2.alloc (.cells #[.int .i64 mem, .slice none 0 0, .slice none 0 0] 32)) u mem (.slice pt u.texts.length ct) (.slice pf u.funcs.length cf) w2.heap.size 0 (.slice none 0 0) [] := by
  have hz := HG.out.size
  rw [World.size_alloc, World.size_alloc] at hz
  refine ⟨heap_alloc_new _ _, Zu (Zu (Zfr w _ _) HG.out (by simp)) (Ga _ _ none) (by simp), by omega, Za (Za (Za (Ga w _ none) (Ga _ _ none)) HG.out) (Ga _ _ none), Yi HB2.out (Ga _ _ none) (by simp), World.ownsRow_nil _ _ _ _, rfl⟩
 have TT := Hq T0
 clear T0 CA SA b0 b1 hltB HU1 HB1 HG1 HG HB2 m0 m1 m2 d0 d1
 generalize w2.heap.size = P0 at *
 obtain ⟨bi, bi0, bi1, bi2, bi3⟩ := info_parts Zhc
 go_loopw [39] (fun i wr => ∃ (q : Nat) (vd : Value) (bs : List Int), i = .int .i64 q /\ q <= u.texts.length /\ Zyv w wr u mem (.slice pt u.texts.length ct) (.slice pf u.funcs.length cf) P0 q vd bs) (fun i _ => u.texts.length - (intOf i).toNat)
 case atStart => exact ⟨0, _, [], rfl, Nat.zero_le _, TT.out⟩
 case round =>
  obtain ⟨q, vd, bs, rfl, hq, hT⟩ := hrel
  obtain ⟨pv, cv, rfl⟩ := Zm hT.dt
  have T := Hq hT
  have k1 := Cq wr P0 1 _ _ _ hT.pb
  have kz := frozen_of_row wr P0 1 _ _ hT.pb
  have kl := (Gs hT.pb)
  by_cases hlt : (q : Int) < (u.texts.length : Int)
  · obtain ⟨bt, ot, rfl, hbt, hct⟩ := UU.out.texts (by omega)
    obtain ⟨⟨nm, d⟩, hqd⟩ : ∃ x, u.texts[q]? = some x := ⟨_, List.getElem?_eq_getElem (by omega)⟩
    obtain ⟨e0, pd, cd, e1, hbd⟩ := hct q nm d hqd
    have HQD := Hq hqd
    have hcd := HCAP.out q pd d.length cd bt ot rfl (by omega) e1
    have hBw := UU.out.le
    have hbw : bt < wr.heap.size := by have := hT.gr.size; omega
    have f0 := hT.gr.cell e0 (by simp)
    have f1 := hT.gr.cell e1 (by simp)
    have hbnd := Zwn hT hqd HR.out.by_
    have hc3 : bs.length + d.length <= maxLen := by unfold maxLen; omega
    have hc4 : (bs.length + d.length) * 1 <= 140737488355328 := by omega
    have hgs := hT.gr.size
    have hE : ∀ o, w.heap.size <= (wr.alloc o).heap.size := fun o => by simp; omega
    cases pd with
    | none =>
      have hd0 : d.length = 0 := by
       rcases Nat.eq_zero_or_pos d.length with h0 | h0
       · exact h0
       · obtain ⟨b', o', e', _⟩ := hbd h0; cases e'
      have hd : d = [] := List.length_eq_zero_iff.1 hd0
      subst hd
      have hcd0 := hcd rfl
      subst hcd0
      clear hct hqd hbd e0 e1 hT
      go_wp2_with (at_builtin; refine Zit rfl _ _ 29 rfl w.heap.size 5 bi 1 Zeg bi0 (.slice pv bs.length cv) bs.length (bs.map (Value.int .u8)) rfl (T.out.dt.alloc _) rfl ?_)
      go_roundw
      case rel =>
       refine ⟨q + 1, .slice pv bs.length cv, bs ++ [], by go_num, by omega, ?_⟩
       rw [<- World.setCell_alloc_past _ _ _ _ kl]
       exact Zpb T.out HQD.out (Jh (Ze _ none)) (by simpa using T.out.dt.alloc _)
      case measure => simp [intOf]; omega
    | some ad =>
      have hnews : ∀ (o : Obj) j x, (d.map (Value.int .u8))[j]? = some x -> (wr.alloc o).cell? (ad.add j) = some x := by
       intro o
       rcases Nat.eq_zero_or_pos d.length with h0 | h0
       · have hd : d = [] := List.length_eq_zero_iff.1 h0
         subst hd
         intro j x hj; simp at hj
       · obtain ⟨b', o', e', hb', hc'⟩ := hbd h0
         injection e' with e'; subst e'
         exact Yjm fun i hi => (Ga wr o none).cell (hT.gr.cell (hc' i hi) (by simp)) (by simp)
      have HN := Hq hnews
      clear hct hqd hbd e0 e1 hT hnews hcd
      go_wp2_with (at_builtin; refine wpList_append_own_at _ rfl _ _ 29 rfl w.heap.size 5 bi (.int .u8 0) 1 1 Zeg bi0 bi1 bi2 bi3 rfl (by decide) _ _ _ rfl (T.out.dt.alloc _) ad d.length cd (d.map (Value.int .u8)) rfl (by simp) (HN.out _) (Ydu d) hc3 hc4 (hE _) ?_; intro v3 w3 hown3 hgr3 hnil3 hat3; obtain ⟨p3, k3, hv3⟩ := Zm hown3; subst hv3; have TM := Yfd T.out hgr3; obtain ⟨t1, t2, t3⟩ := TM; have OW3 := Hq hown3; have GR3 := Hq hgr3; clear hown3 hgr3 hnil3 hat3)
      go_roundw
      case rel => exact ⟨q + 1, _, bs ++ d, by go_num, by omega, Zpb T.out HQD.out GR3.out OW3.out⟩
      case measure => simp [intOf]; omega
  · have hqe : q = u.texts.length := by omega
    subst hqe
    have C0 := Hq (Zyk hT)
    have e1 := Zbu hT.ub
    have hub := Jd hT.ub
    clear hT T k1 kz kl
    go_wp2
    obtain ⟨fi, fi0, fi1, fi2, fi3⟩ := info_parts Zux
    obtain ⟨ii, ii0, ii1, ii2, ii3⟩ := info_parts Zgv
    go_loopw [11, 53] (fun v i wr => ∃ (k : Nat) (vd vF : Value) (rows : List (Value × Value)), i = .int .i64 k /\ k <= u.funcs.length /\ Zzb w wr u mem (.slice pt u.texts.length ct) (.slice pf u.funcs.length cf) P0 k v vd vF rows /\ (∀ (i : Nat) (f : Fun), i < k -> u.funcs[i]? = some f -> (Zbf u.texts f.parts).out.length <= 4096)) (fun _ i _ => u.funcs.length - (intOf i).toNat)
    case atStart => exact ⟨0, _, _, [], rfl, Nat.zero_le _, C0.out, fun i f hi => by omega⟩
    case round =>
     obtain ⟨k, vd', vF, rows, rfl, hk, hL, hsm⟩ := hrel
     obtain ⟨pv', cv', rfl⟩ := Zm hL.or
     obtain ⟨pF, cF, rfl⟩ := Zm hL.fr
     have LL := Hq hL
     have SM := Hq hsm
     clear hsm
     by_cases hlt : (k : Int) < (u.funcs.length : Int)
     · obtain ⟨bF, oF, rfl, hbF, hcF⟩ := UU.out.funcs (by omega)
       obtain ⟨f, hf⟩ : ∃ f, u.funcs[k]? = some f := ⟨_, List.getElem?_eq_getElem (by omega)⟩
       obtain ⟨q0, q1, ⟨pl, cl, q2, _⟩, ⟨pp, cp, q3, hpp⟩⟩ := hcF k f hf
       have HF := Hq hf
       have hmf := List.mem_of_getElem? hf
       have hBw := UU.out.le
       have hgs := hL.gr.size
       replace q0 := hL.gr.cell q0 (by simp)
       replace q1 := hL.gr.cell q1 (by simp)
       replace q2 := hL.gr.cell q2 (by simp)
       replace q3 := hL.gr.cell q3 (by simp)
       have hbF3 : bF < wr.heap.size := by omega
       have hB3 : B <= wr.heap.size := by omega
       have PP := Hq (Zio hpp hL.gr (by simp))
       have TX := Hq (Zdx UU.out.texts hL.gr (by simp))
       have HOK := Hq (HR.out.ok f hmf).1
       have HNF := Hq (HNP.out f hmf)
       have e0' := Zbv hL.ub
       have e1' := Zbu hL.ub
       have hub' := Jd hL.ub
       clear hcF hpp hL e1 hub
       go_wp2_with (first
        | (go_at_call 42; refine (Ybc _ _).mono ?_; intro e w6 hp; obtain ⟨bc, b6, M, rfl, hA⟩ := Yxh hp; have A6 := Hq hA; have OWr := Ygp hA hB3 PP.out TX.out HR.out.nt HCT.out.1 HCT.out.2 HU.out.text HNF.out HOK.out; obtain ⟨ok6, wa6⟩ := OWr; have OK6 := Hq ok6; have WA := Hq wa6; have d9 := Cq w6 _ 9 _ _ _ hA.hb; have z9 := frozen_of_row w6 _ 9 _ _ hA.hb; have hlt6 := (Gs hA.hb); clear hA hp ok6 wa6)
        | (go_at_call 43; refine WA.out.mono ?_; clear WA; intro e w8 hp; obtain ⟨s8, v8, rfl, g8, a8, h8⟩ := hp; have G8 := Hq g8; have A8 := Hq a8; have H8 := Hq h8; have E9 := Hq (Zzx OK6.out g8.at_ (Nat.le_trans h8 (by decide)) 3 0); clear g8 a8 h8)
        | (go_at_call 44; refine E9.out.mono ?_; clear E9; intro e w9 hp; obtain ⟨rfl, s9, g9, a9⟩ := hp; have G9 := Hq g9; have A9 := Hq a9; have E10 := Hq (Zzx OK6.out g9.at_ (Xbn H8.out a9) 18 0); clear g9 a9)
        | (go_at_call 44; refine E10.out.mono ?_; clear E10; intro e w10 hp; obtain ⟨rfl, s10, g10, a10⟩ := hp; have FL := Hq (Yuw A8.out A9.out a10); have F10 := Yxe A6.out (Zo (Zo G8.out G9.out) g10); have FM10 := Hq F10; obtain ⟨po, co, hvo⟩ := Zm F10.code.out; obtain ⟨pg, cg, hvg⟩ := Zm F10.code.org; have MD := Yxn LL.out F10; rw [hvo, hvg] at MD; have HVO := Hq hvo; have HVG := Hq hvg; obtain ⟨k0, z0, k1, k2, c6, c7, lP, lC, lB, r0, r1, r2, y0, y1, y2, lR, nC, nB⟩ := MD; clear g10 a10 F10 hvo hvg))
       rotate_left
       · have hsl : (Zbf u.texts f.parts).out.length <= 4096 := by rw [<- FL.out.1]; omega
         have HSL := Hq hsl
         have fr10 := LL.out.fr.kept FM10.out.gr (Classical.em _)
         have nFC : (Value.slice pF k cF).ownBlock ≠ some wr.heap.size := Yh fr10 FM10.out.cp (by decide)
         have nFB : (Value.slice pF k cF).ownBlock ≠ some (wr.heap.size + 1) := Yh fr10 FM10.out.code.box (by decide)
         have hP10 := Zu LL.out.pb FM10.out.gr (by simp)
         have nFP : (Value.slice pF k cF).ownBlock ≠ some P0 := Yh fr10 hP10 (by decide)
         have hz10 := FM10.out.gr.size
         have or10 := LL.out.or.kept FM10.out.gr (Classical.em _)
         generalize hC0 : wr.heap.size = C0 at *
         generalize hBd : C0 + 1 = Bd at *
         obtain ⟨v13, w11, hrun13, hown13, hgr13, _⟩ := run_append_own (P := Try.prog) (w10.drew.alloc (.cells #[.int .i64 f.args, .int .i64 f.locals.length, .int .i64 1, .slice po s10.out.length co] 73)) w.heap.size 30 30 73 fi (.agg #[.int .i64 0, .int .i64 0, .int .i64 0, .slice none 0 0]) 4 48 Yav fi0 fi1 fi2 fi3 rfl (by decide) (.slice pF k cF) k (Zjn u.funcs rows) (fr10.kept (Zba w10 _) (Classical.em _)) ⟨w10.heap.size, 0, none⟩ 1 1 [.int .i64 f.args, .int .i64 f.locals.length, .int .i64 1, .slice po s10.out.length co] rfl (Yaw w10 _ _ _ _ _) (Zuz _ _ _ _ _ _) (by unfold maxLen; omega) (by omega) (by simp; omega)
         obtain ⟨gF, cF', rfl⟩ := Yk hown13
         have hP11 := Zu (Zu hP10 (Zba w10 _) (by simp)) hgr13 nFP
         have k0' := Cq w11 P0 2 _ _ _ hP11
         have z0' := frozen_of_row w11 P0 2 _ _ hP11
         refine Zto (N := 104) (n := 16) (dst := dR) (val := vS P0 C0 Bd w10.heap.size f.args f.locals.length (.slice pF k cF) (.slice pl f.locals.length cl) (.slice po s10.out.length co) (.slice (some ⟨gF, 0, none⟩) (k + 1) cF')) (WS := Ybl w10.drew (w10.drew.alloc (.cells #[.int .i64 f.args, .int .i64 f.locals.length, .int .i64 1, .slice po s10.out.length co] 73)) w11 (w11.setCell ⟨P0, 2, none⟩ (.slice (some ⟨gF, 0, none⟩) (k + 1) cF'))) (by kernel_rfl) rfl rfl (Zvk (by kernel_rfl)) (Zze _ _ _ _) ?step ?fin
         case step =>
          intro l a w' i hJ hW hi
          have hi16 : i < 16 := by
           obtain ⟨_, o, ho, _⟩ := mem_ready.1 hi
           exact (Gs ho)
          have t8 : a.tmps.getD 8 undef = .pointer (some ⟨P0, 0, none⟩) := hJ.un 8 (fun i _ _ e => by have := Ydq i; omega)
          have t13 : a.tmps.getD 13 undef = .pointer (some ⟨C0, 0, none⟩) := hJ.un 13 (fun i _ _ e => by have := Ydq i; omega)
          have t14 : a.tmps.getD 14 undef = .pointer (some ⟨Bd, 0, none⟩) := hJ.un 14 (fun i _ _ e => by have := Ydq i; omega)
          have keep4 : ∀ b o v, w10.cell? ⟨b, o, none⟩ = some v -> b ≠ P0 -> (Value.slice pF k cF).ownBlock ≠ some b -> w'.cell? ⟨b, o, none⟩ = some v := by
           intro b o v hc hb hb2
           rcases Ypx hW with rfl | rfl | rfl | rfl
           · exact hc
           · exact (Ga w10.drew _ none).cell hc (by simp)
           · exact hgr13.cell ((Ga w10.drew _ none).cell hc (by simp)) (Ne.symm hb2)
           · exact (Zd w11 P0 2 _).cell (hgr13.cell ((Ga w10.drew _ none).cell hc (by simp)) (Ne.symm hb2)) (by simpa using hb)
          have hun : l.getD i false = false := getD_both (mem_ready.1 hi).1
          rcases Yfa i hi16 with rfl | rfl | rfl | rfl | rfl | rfl | rfl | rfl | rfl | rfl | rfl | rfl | rfl | rfl | rfl | rfl
          · exact Yg hJ rfl rfl rfl (by decide) (by decide) (Zav _ (by decide)) (w' := w') (by simp [execOp, Act.eval, t8, go_sem, vS, vR]) (Yv hW (by decide) (by decide) (by decide))
          · have e0 : a.tmps.getD 79 undef = .pointer (some ⟨P0, 2, none⟩) := (hJ.sl 0 (by decide) (Zb hi 0 (by kernel_rfl)) (by decide))
            have hcell : w'.cell? ⟨P0, 2, none⟩ = some (.slice pF k cF) := by
             rcases Ypv hW hun with rfl | rfl
             · exact k0
             · exact (Ga w10.drew _ none).cell k0 (by simp)
            exact Yg hJ rfl rfl rfl (by decide) (by decide) (Zav _ (by decide)) (w' := w') (by simp [execOp, Act.eval, e0, hcell, go_sem, vS]) (Yv hW (by decide) (by decide) (by decide))
          · exact Yg hJ rfl rfl rfl (by decide) (by decide) (Zav _ (by decide)) (w' := w') (by simp [execOp, Act.eval, t13, go_sem, vS, vR]) (Yv hW (by decide) (by decide) (by decide))
          · have e2 : a.tmps.getD 81 undef = .pointer (some ⟨C0, 1, none⟩) := (hJ.sl 2 (by decide) (Zb hi 2 (by kernel_rfl)) (by decide))
            have hcell := keep4 _ _ _ k1 nC nFC
            exact Yg hJ rfl rfl rfl (by decide) (by decide) (Zav _ (by decide)) (w' := w') (by simp [execOp, Act.eval, e2, hcell, go_sem, vS, vR]) (Yv hW (by decide) (by decide) (by decide))
          · exact Yg hJ rfl rfl rfl (by decide) (by decide) (Zav _ (by decide)) (w' := w') (by simp [execOp, Act.eval, t13, go_sem, vS, vR]) (Yv hW (by decide) (by decide) (by decide))
          · have e4 : a.tmps.getD 83 undef = .pointer (some ⟨C0, 2, none⟩) := (hJ.sl 4 (by decide) (Zb hi 4 (by kernel_rfl)) (by decide))
            have hcell := keep4 _ _ _ k2 nC nFC
            exact Yg hJ rfl rfl rfl (by decide) (by decide) (Zav _ (by decide)) (w' := w') (by simp [execOp, Act.eval, e4, hcell, go_sem, vS, vR]) (Yv hW (by decide) (by decide) (by decide))
          · have e5 : a.tmps.getD 84 undef = .slice pl f.locals.length cl := (hJ.sl 5 (by decide) (Zb hi 5 (by kernel_rfl)) (by decide))
            exact Yg hJ rfl rfl rfl (by decide) (by decide) (Zav _ (by decide)) (w' := w') (by simp [execOp, Act.eval, e5, go_sem, vS, vR]) (Yv hW (by decide) (by decide) (by decide))
          · exact Yg hJ rfl rfl rfl (by decide) (by decide) (Zav _ (by decide)) (w' := w') (by simp [execOp, Act.eval, t14, go_sem, vS, vR]) (Yv hW (by decide) (by decide) (by decide))
          · have e7 : a.tmps.getD 86 undef = .pointer (some ⟨Bd, 0, none⟩) := (hJ.sl 7 (by decide) (Zb hi 7 (by kernel_rfl)) (by decide))
            exact Yg hJ rfl rfl rfl (by decide) (by decide) (Zav _ (by decide)) (w' := w') (by simp [execOp, Act.eval, e7, go_sem, vS, vR]) (Yv hW (by decide) (by decide) (by decide))
          · have e8 : a.tmps.getD 87 undef = .pointer (some ⟨Bd, 0, none⟩) := (hJ.sl 8 (by decide) (Zb hi 8 (by kernel_rfl)) (by decide))
            exact Yg hJ rfl rfl rfl (by decide) (by decide) (Zav _ (by decide)) (w' := w') (by simp [execOp, Act.eval, e8, go_sem, vS, vR]) (Yv hW (by decide) (by decide) (by decide))
          · have e9 : a.tmps.getD 88 undef = .pointer (some ⟨Bd, 6, none⟩) := (hJ.sl 9 (by decide) (Zb hi 9 (by kernel_rfl)) (by decide))
            have hcell := keep4 _ _ _ c6 nB nFB
            exact Yg hJ rfl rfl rfl (by decide) (by decide) (Zav _ (by decide)) (w' := w') (by simp [execOp, Act.eval, e9, hcell, go_sem, vS, vR]) (Yv hW (by decide) (by decide) (by decide))
          · have e3 : a.tmps.getD 82 undef = .int .i64 f.args := (hJ.sl 3 (by decide) (Zb hi 3 (by kernel_rfl)) (by decide))
            have e6 : a.tmps.getD 85 undef = .int .i64 f.locals.length := (hJ.sl 6 (by decide) (Zb hi 6 (by kernel_rfl)) (by decide))
            have e10 : a.tmps.getD 89 undef = .slice po s10.out.length co := (hJ.sl 10 (by decide) (Zb hi 10 (by kernel_rfl)) (by decide))
            exact Yg hJ rfl rfl rfl (by decide) (by decide) (Zav _ (by decide)) (w' := w') (by rw [Array.getD_eq_getD_getElem?] at e3 e6 e10; simp [execOp, Act.eval, e3, e6, e10, go_sem, vS, vR]) (Yv hW (by decide) (by decide) (by decide))
          · have e11 : a.tmps.getD 90 undef = .agg #[.int .i64 f.args, .int .i64 f.locals.length, .int .i64 1, .slice po s10.out.length co] := (hJ.sl 11 (by decide) (Zb hi 11 (by kernel_rfl)) (by decide))
            obtain ⟨rfl, hW'⟩ := Ywa hW hun
            exact Yg hJ rfl rfl rfl (by decide) (by decide) (Zav _ (by decide)) (by rw [Array.getD_eq_getD_getElem?] at e11; simp [execOp, Act.eval, e11, go_sem, vS, vR]) hW'
          · have e1' : a.tmps.getD 80 undef = .slice pF k cF := (hJ.sl 1 (by decide) (Zb hi 1 (by kernel_rfl)) (by decide))
            have e12 : a.tmps.getD 91 undef = .slice (some ⟨w10.heap.size, 0, none⟩) 1 1 := (hJ.sl 12 (by decide) (Zb hi 12 (by kernel_rfl)) (by decide))
            obtain ⟨rfl, hW'⟩ := Yvz hW hun (Zb hi 12 (by kernel_rfl)) (Zb hi 1 (by kernel_rfl))
            exact Yg hJ rfl rfl rfl (by decide) (by decide) (Zav _ (by decide)) (by simp [execOp, resolve, invoke, builtin, Act.eval, e1', e12, hrun13, Result.andThen, vS, vR]) hW'
          · exact Yg hJ rfl rfl rfl (by decide) (by decide) (Zav _ (by decide)) (w' := w') (by simp [execOp, Act.eval, t8, go_sem, vS, vR]) (Yv hW (by decide) (by decide) (by decide))
          · have e13 : a.tmps.getD 92 undef = .slice (some ⟨gF, 0, none⟩) (k + 1) cF' := (hJ.sl 13 (by decide) (Zb hi 13 (by kernel_rfl)) (by decide))
            have e14 : a.tmps.getD 93 undef = .pointer (some ⟨P0, 2, none⟩) := (hJ.sl 14 (by decide) (Zb hi 14 (by kernel_rfl)) (by decide))
            obtain ⟨rfl, hW'⟩ := Yvy hW hun (Zb hi 13 (by kernel_rfl))
            exact Zkf hJ rfl rfl rfl (by decide) (by decide) (by simp [execOp, Act.eval, e13, e14, k0', z0', go_sem]) hW'
         case fin =>
          intro l a w' hJ hW hl
          have hw := Ypw hW (hl 15 (by decide))
          subst hw
          have hput := Zzn (aF := Ja _ dR (vS P0 C0 Bd w10.heap.size f.args f.locals.length (.slice pF k cF) (.slice pl f.locals.length cl) (.slice po s10.out.length co) (.slice (some ⟨gF, 0, none⟩) (k + 1) cF')) 15) hJ hl (Jj rfl 15) (Zbi 15) (fun i hi hd => Zhp rfl 15 (fun i j h1 h2 h3 => Zav j (by omega) i (by omega) h3) i (by by_cases h : i = 15 <;> first | omega | (subst h; exact absurd hd (by decide))) hd) (fun j hj => Zes 15 j (fun i hi => hj i (by omega)))
          subst hput
          clear hJ hW hl
          simp only [Ja, dR, vS, vR, Act.put, Nat.reduceLT, if_true, ite_true, Nat.reduceAdd, List.setIfInBounds_toArray, List.set_cons_zero, List.set_cons_succ]
          have d7 : (w11.setCell ⟨P0, 2, none⟩ (.slice (some ⟨gF, 0, none⟩) (k + 1) cF')).cell? ⟨Bd, 7, none⟩ = some (.slice pg s10.org.length cg) := (Zd w11 P0 2 _).cell (hgr13.cell ((Ga w10.drew _ none).cell c7 (by simp)) (Ne.symm nFB)) (by simpa using nB)
          have hz11 := hgr13.size
          rw [World.size_alloc] at hz11
          have hz12 : w10.drew.heap.size = w10.heap.size := rfl
          have hlt15 : Bd < (w11.setCell ⟨P0, 2, none⟩ (.slice (some ⟨gF, 0, none⟩) (k + 1) cF')).heap.size := by rw [World.size_setCell]; omega
          have hb16 : ∀ o, w.heap.size <= ((w11.setCell ⟨P0, 2, none⟩ (.slice (some ⟨gF, 0, none⟩) (k + 1) cF')).alloc o).heap.size := by intro o; simp; omega
          have or15 : (w11.setCell ⟨P0, 2, none⟩ (.slice (some ⟨gF, 0, none⟩) (k + 1) cF')).ownsRow w.heap.size 47 1 (.slice pv' k cv') k (rows.map Prod.snd) := by
           have o1 := (or10.kept (Zba w10 _) (Classical.em _)).kept hgr13 (Zbo or10 fr10 (by decide))
           exact o1.kept (Zd w11 P0 2 _) (Or.inr (Yh o1 hP11 (by decide)))
          have O13 := Hq hown13
          have H13 := Hq hgr13
          have O15 := Hq or15
          have hk64 : k + 1 <= maxLen := by unfold maxLen; omega
          have hk65 : (k + 1) * 24 <= 140737488355328 := by omega
          clear hown13 hrun13 hgr13 k0' hP11 z0' or15 or10 fr10 hP10
          go_wp2_with (at_builtin; refine wpList_append_own_at _ rfl _ _ 41 rfl w.heap.size 47 ii (.slice none 0 0) 1 24 Zjj ii0 ii1 ii2 ii3 rfl (by decide) _ _ _ rfl (O15.out.alloc _) ⟨w11.heap.size, 0, none⟩ 1 1 [.slice pg s10.org.length cg] rfl rfl (Zrb w11 P0 2 _ _ _) (Zgr _ _ _) hk64 hk65 (hb16 _) ?_; intro v16 w16 hown16 hgr16 hnil16 hat16; obtain ⟨gO, cO, hvO⟩ := Yk hown16; subst hvO; have O16 := Hq hown16; have G16 := Hq hgr16; clear hown16 hgr16 hnil16 hat16)
          go_roundw
          case rel => exact ⟨k + 1, vd', _, rows ++ [(.slice po s10.out.length co, .slice pg s10.org.length cg)], by go_num, by omega, Ydt LL.out HF.out (by have := FM10.out; rw [HVO.out, HVG.out] at this; exact this) FL.out.1 FL.out.2 H13.out O13.out G16.out O16.out, fun i f' hi hf' => by
           by_cases hik : i < k
           · exact SM.out i f' hik hf'
           · have : i = k := by omega
             subst this
             have e := HF.out
             rw [hf'] at e; injection e with e; subst e
             exact HSL.out⟩
          case measure => simp [intOf]; omega
       · refine bodyPost_ret (v := .tuple #[.agg #[.int .i64 0, .slice none 0 0, .slice none 0 0], .slice none 0 0, .int .i64 181]) ?_ rfl ?_
         · rw [Yu rfl]
           go_simp
         · unfold Zmk
           rw [if_pos (Yjp HF.out (by rw [<- FL.out.1]; omega))]
           exact ⟨rfl, Ymh LL.out FM10.out.gr _ _ _⟩
     · have hke : k = u.funcs.length := by omega
       have p0 := Cq wr P0 0 _ _ _ hL.pb
       have p1 := Cq wr P0 1 _ _ _ hL.pb
       have p2 := Cq wr P0 2 _ _ _ hL.pb
       have r0 := Cq wr _ 0 _ _ _ hL.rb
       have r1 := Cq wr _ 1 _ _ _ hL.rb
       have r2 := Cq wr _ 2 _ _ _ hL.rb
       have y0 := frozen_of_row wr _ 0 _ _ hL.rb
       have y1 := frozen_of_row wr _ 1 _ _ hL.rb
       have y2 := frozen_of_row wr _ 2 _ _ hL.rb
       have hlP := (Gs hL.pb)
       have hlR := (Gs hL.rb)
       obtain ⟨pd', cd', hvd⟩ := Zm hL.dt
       subst hvd
       clear hL
       go_wp2
       refine bodyPost_ret (v := .tuple #[.agg #[.int .i64 mem, .slice pd' (Zfp u).length cd', .slice pF k cF], .slice pv' k cv', .int .i64 0]) ?_ rfl ?_
       · rw [Yu rfl]
         go_simp
       · unfold Zmk
         rw [if_neg (by rw [Ydz (fun i f hf => SM.out i f (by have := (List.getElem?_eq_some_iff.1 hf).1; omega) hf)]; simp)]
         subst hke
         exact ⟨_, _, _, rows, rfl, Ymg LL.out _ _ _⟩
structure Yzj (w : World) (pt : Option Addr) (ct : Nat) (u : Un) : Prop where
 wf : Yre u
 np : ∀ f ∈ u.funcs, f.parts.length <= 100000000000
 nct : u.texts.length <= ct
 mct : ct <= maxLen
 cap : Xaf w pt u
theorem Yjj {w w' : World} {B : Nat} {pt pf : Option Addr} {u : Un} (h : Xaf w pt u) (hU : Zab w B pt pf u) (g : w.grownBy w' none) : Xaf w' pt u := by
 intro i pd n cd b o hp hi hc hn
 obtain ⟨b', o', e, hb, hcc⟩ := hU.texts (by omega)
 rw [hp] at e
 injection e with e; injection e with e1 e2 _; subst e1; subst e2
 obtain ⟨⟨nm, d⟩, hx⟩ : ∃ x, u.texts[i]? = some x := ⟨_, List.getElem?_eq_getElem hi⟩
 obtain ⟨_, pd', cd', h1, _⟩ := hcc i nm d hx
 have h2 := g.cell h1 (by simp)
 rw [h2] at hc
 injection hc with hc
 injection hc with c1 c2 c3
 subst c1; subst c3
 exact h i pd' d.length cd' b o hp hi h1 hn
theorem Zmr {w w' : World} {B ct : Nat} {pt pf : Option Addr} {u : Un} (h : Yzj w pt ct u) (hU : Zab w B pt pf u) (g : w.grownBy w' none) : Yzj w' pt ct u :=
 ⟨h.wf, h.np, h.nct, h.mct, Yjj h.cap hU g⟩
def Zoo (w : World) (u : Un) (mem : Int) (e : Ending) (w' : World) : Prop :=
 if Jm u mem = 0 then ∃ vd vF v rows, e = .returned (.tuple #[.agg #[.int .i64 mem, vd, vF], v, .int .i64 0]) /\ Ykk w w' u vd vF v rows else Zzc w (Jm u mem) e w'
theorem Zyg (u : Un) (mem : Int) (pt pf : Option Addr) (ct cf B : Nat) (w : World) (hU : Zab w B pt pf u) (hO : Yzj w pt ct u) :
 Calls Try.prog 27 #[.agg #[.slice pt u.texts.length ct, .slice pf u.funcs.length cf], .int .i64 mem] w (Zoo w u mem) := by
 by_cases hb : Ys u ≠ 0 \/ (mem < 0 \/ 65536 < mem) \/ mem < Zy u.texts u.texts.length
 · refine (Zyf u hO.wf mem pt pf ct cf B w hU hb).mono ?_
   intro e w' hp
   have hne : Jm u mem ≠ 0 := by
    unfold Jm
    by_cases h1 : Ys u = 0
    · rw [if_neg (by omega)]
      by_cases h2 : mem < 0 \/ 65536 < mem
      · rw [if_pos h2]; omega
      · rw [if_neg h2, if_pos (by omega)]; omega
    · rw [if_pos h1]; exact h1
   unfold Zoo
   rw [if_neg hne]
   exact hp
 · refine (Zvn u hO.wf (by omega) mem (by omega) (by omega) (by omega) hO.np pt pf ct cf B w hU hO.nct hO.mct hO.cap).mono ?_
   intro e w' hp
   have hce : Jm u mem = if Ypj u then 181 else 0 := by
    unfold Jm
    rw [if_neg (by omega), if_neg (by omega), if_neg (by omega)]
   unfold Zoo
   rw [hce]
   unfold Zmk at hp
   by_cases hbig : Ypj u = true
   · rw [if_pos hbig] at hp ⊢
     rw [if_neg (by decide)]
     exact hp
   · rw [if_neg hbig] at hp ⊢
     rw [if_pos rfl]
     exact hp
def Zjt (w : World) (u : Un) (mem : Int) (e : Ending) (w' : World) : Prop :=
 if Jm u mem = 0 then ∃ vd vF v rows, e = .returned (.tuple #[.agg #[.int .i64 mem, vd, vF], .int .i64 0]) /\ Ykk w w' u vd vF v rows else e = .returned (.tuple #[.agg #[.int .i64 0, .slice none 0 0, .slice none 0 0], .int .i64 (Jm u mem)]) /\ w.grownBy w' none
end Go.Proofs.Ytecaolkbllbokaa.TG
