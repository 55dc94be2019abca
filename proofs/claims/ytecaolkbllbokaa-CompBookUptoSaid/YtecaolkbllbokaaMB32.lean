/-
  What Compile and Origin leave, as programs and lists that can be written over. Conditions: as each theorem states.
  One program grown: its functions' and its data's end. Conditions: as each theorem states.
  CompBook's three lists: programs, lists of numbers, lists of lists. Conditions: as each theorem states.
-/
import Derived.Test.YtecaolkbllbokaaMB31
namespace Go.Proofs.Ytecaolkbllbokaa.TG
open Go.RowKit Go.Great
set_option linter.unusedSimpArgs false
set_option linter.unusedVariables false

def fnvs : List Fun → List (Value × Value) → List FnV
  | [], _ => []
  | _ :: _, [] => []
  | f :: fs, r :: rs => (f.args, (f.locals.length : Int), 1, r.1) :: fnvs fs rs
theorem flatF_fnvs : ∀ (fs : List Fun) (rs : List (Value × Value)), flatF (fnvs fs rs) = flat4 fs rs
  | [], rs => by simp [fnvs, flatF, flat4]
  | _ :: _, [] => by simp [fnvs, flatF, flat4]
  | f :: fs, r :: rs => by simp [fnvs, flatF, flat4, flatF_fnvs fs rs]
theorem fnvs_len : ∀ (fs : List Fun) (rs : List (Value × Value)), rs.length = fs.length → (fnvs fs rs).length = fs.length
  | [], rs, h => by simp [fnvs]
  | _ :: _, [], h => by simp at h
  | f :: fs, r :: rs, h => by simp [fnvs]; exact fnvs_len fs rs (by simpa using h)
theorem fnvs_inv : ∀ (fs : List Fun) (rs : List (Value × Value)) (i : Nat) (x : FnV), (fnvs fs rs)[i]? = some x → ∃ f r, fs[i]? = some f ∧ rs[i]? = some r ∧ x = (f.args, (f.locals.length : Int), 1, r.1)
  | [], rs, i, x, h => by simp [fnvs] at h
  | _ :: _, [], i, x, h => by simp [fnvs] at h
  | f :: fs, r :: rs, 0, x, h => by simp [fnvs] at h; exact ⟨f, r, rfl, rfl, h.symm⟩
  | f :: fs, r :: rs, i + 1, x, h => by
    obtain ⟨f', r', h1, h2, h3⟩ := fnvs_inv fs rs i x (by simpa [fnvs] using h)
    exact ⟨f', r', by simpa using h1, by simpa using h2, h3⟩

noncomputable def ccU (u : Un) (k : Nat) : List (Int × Int) := match u.funcs[k]? with
  | some f => (fullP u.texts f.parts).out
  | none => []
theorem ccU_of {u : Un} {k : Nat} {f : Fun} (h : u.funcs[k]? = some f) : ccU u k = (fullP u.texts f.parts).out := by unfold ccU; rw [h]

/-- The sizes of a program that Compile made. -/
structure LikeU (u : Un) (p : P1) : Prop where
  fl : p.fl.length = u.funcs.length ∧ u.funcs.length ≤ 64
  dl : p.dl.length ≤ 65536
  cc : ∀ k, k < p.fl.length → 0 < (p.cc k).length ∧ (p.cc k).length ≤ 4096

theorem full_pos (ts : List (ByteArray × List Int)) (ps : List (Int × Int × Int)) : 0 < (fullP ts ps).out.length ∧ 0 < (fullP ts ps).org.length := by
  unfold fullP PS.emit
  constructor <;> simp
theorem out_small {u : Un} {mem : Int} (h0 : compE u mem = 0) {f : Fun} (hf : f ∈ u.funcs) : (fullP u.texts f.parts).out.length ≤ 4096 := by
  obtain ⟨_, hall⟩ := comp_ok h0
  obtain ⟨hok, hfo⟩ := hall f hf
  have hl := fun_ok u f hok
  rw [hfo] at hl
  have : ¬ 4096 < (fullP u.texts f.parts).out.length := by
    intro h; rw [decide_eq_true h] at hl; cases hl
  omega

theorem p1_of_comp {w w' : World} {u : Un} {mem : Int} {e : Ending} (h0 : compE u mem = 0) (h : CompileP w u mem e w') : ∃ P : P1, e = .returned (.tuple #[.agg #[.int .i64 (pgU u mem).mem, P.D, P.F], .int .i64 0]) ∧ w.grownBy w' none ∧ ProgAt w' w.heap.size P.D P.F (pgU u mem) ∧ P.at_ w' ∧ (∀ k, P.bl k → w.heap.size ≤ k) ∧ LikeU u P := by
  unfold CompileP at h
  rw [if_pos h0] at h
  obtain ⟨vd, vF, v, rows, he, hC⟩ := h
  have hm : (pgU u mem).mem = mem := by unfold pgU; rw [if_pos h0]
  obtain ⟨hck, hall⟩ := comp_ok h0
  have hr := right_of hck
  have hlen := fnvs_len u.funcs rows hC.len
  have hbl : ∀ k, PB1 vd vF (fnvs u.funcs rows) k → w.heap.size ≤ k := fun k hk => by
    rcases hk with e | e | ⟨x, hx, e⟩
    · exact (hC.dt.lt k e).1
    · exact (hC.fr.lt k e).1
    · obtain ⟨i, hi⟩ := List.mem_iff_getElem?.1 hx
      obtain ⟨f, ⟨vo, vg⟩, h1, h2, rfl⟩ := fnvs_inv _ _ _ _ hi
      exact ((hC.each i vo vg f h2 h1).1.lt k e).1
  refine ⟨⟨vd, dataE u, vF, fnvs u.funcs rows, ccU u⟩, by rw [he, hm], hC.gr, ?_, ⟨hC.dt.base0, ?_, fun k x hx => ?_, fun k l x y b hkl hx hy hb => ?_⟩, hbl, ⟨⟨hlen, hr.nf.2⟩, ?_, fun k hk => ?_⟩⟩
  · refine prog_rows (rows := rows.map Prod.fst) h0 (by rw [List.length_map]; exact hC.len) hC.dt (by rw [← flat4_V]; exact hC.fr) fun i vo f hi hf => ?_
    rw [List.getElem?_map] at hi
    obtain ⟨⟨x, y⟩, hx, rfl⟩ := Option.map_eq_some_iff.1 hi
    exact (hC.each i x y f hx hf).1
  · show World.ownsRow _ 0 _ 4 vF (fnvs u.funcs rows).length (flatF (fnvs u.funcs rows))
    rw [hlen, flatF_fnvs]
    exact hC.fr.base0
  · obtain ⟨f, ⟨vo, vg⟩, h1, h2, rfl⟩ := fnvs_inv _ _ _ _ hx
    show World.ownsRow _ 0 _ 2 vo (ccU u k).length (flat2 (ccU u k))
    rw [ccU_of h1]
    exact (hC.each k vo vg f h2 h1).1.base0
  · obtain ⟨f, ⟨vo, vg⟩, h1, h2, rfl⟩ := fnvs_inv _ _ _ _ hx
    obtain ⟨f', ⟨vo', vg'⟩, h1', h2', rfl⟩ := fnvs_inv _ _ _ _ hy
    intro hb'
    rcases Nat.lt_or_gt_of_ne hkl with hlt | hlt
    · exact absurd (hC.ord k l vo vg vo' vg' hlt h2 h2' b b (Or.inl hb) (Or.inl hb')) (Nat.lt_irrefl _)
    · exact absurd (hC.ord l k vo' vg' vo vg hlt h2' h2 b b (Or.inl hb') (Or.inl hb)) (Nat.lt_irrefl _)
  · have h1 := dataE_len u
    have h2 := hr.by_
    show (dataE u).length ≤ _
    omega
  · have hk2 : k < u.funcs.length := by rw [← hlen]; exact hk
    obtain ⟨f, hf⟩ : ∃ f, u.funcs[k]? = some f := ⟨_, List.getElem?_eq_getElem hk2⟩
    show 0 < (ccU u k).length ∧ (ccU u k).length ≤ 4096
    rw [ccU_of hf]
    exact ⟨(full_pos _ _).1, out_small h0 (List.mem_of_getElem? hf)⟩

theorem org_small {u : Un} (h0 : compE u 65536 = 0) {i : Nat} {l : List Int} (h : (orgsU u)[i]? = some l) : 0 < l.length := by
  unfold orgsU at h
  rw [if_pos h0, List.getElem?_map] at h
  obtain ⟨f, hf, rfl⟩ := Option.map_eq_some_iff.1 h
  exact (full_pos _ _).2

/-- A list of lists that Origin left. -/
structure Lists (lo : Nat) (w : World) (v : Value) (orgs : List (List Int)) (vs : List Value) : Prop where
  ow : w.ownsRow lo 47 1 v orgs.length vs
  len : vs.length = orgs.length
  each : ∀ (i : Nat) (x : Value) (l : List Int), vs[i]? = some x → orgs[i]? = some l → w.ownsRow lo 3 1 x l.length (l.map (Value.int .i64))
  dis : ∀ (i j : Nat) (x y : Value) (k : Nat), i ≠ j → vs[i]? = some x → vs[j]? = some y → x.ownBlock = some k → y.ownBlock ≠ some k

theorem lists_org {lo : Nat} {w : World} {v : Value} {orgs : List (List Int)} {vs : List Value} (h : Lists lo w v orgs vs) : OrgAt w lo v orgs := by
  refine ⟨vs, h.ow, fun i l hi => ?_⟩
  obtain ⟨x, hx⟩ : ∃ x, vs[i]? = some x := ⟨_, List.getElem?_eq_getElem (by rw [h.len]; exact (List.getElem?_eq_some_iff.1 hi).1)⟩
  exact ⟨x, hx, h.each i x l hx hi⟩

theorem lists_of_comp {w w' : World} {u : Un} {e : Ending} (h0 : compE u 65536 = 0) (h : OriginP w u e w') : ∃ v vs, e = .returned (.tuple #[v, .int .i64 0]) ∧ w.grownBy w' none ∧ Lists w.heap.size w' v (orgsU u) vs := by
  unfold OriginP at h
  rw [if_pos h0] at h
  obtain ⟨vd, vF, v, rows, he, hC⟩ := h
  have e1 : orgsU u = u.funcs.map (fun f => (fullP u.texts f.parts).org) := by unfold orgsU; rw [if_pos h0]
  refine ⟨v, rows.map Prod.snd, he, hC.gr, ⟨by rw [e1, List.length_map]; exact hC.or, by rw [e1, List.length_map, List.length_map]; exact hC.len, fun i x l hx hl => ?_, fun i j x y k hij hx hy hk => ?_⟩⟩
  · rw [List.getElem?_map] at hx
    obtain ⟨⟨a, b⟩, hab, rfl⟩ := Option.map_eq_some_iff.1 hx
    rw [e1, List.getElem?_map] at hl
    obtain ⟨f, hf, rfl⟩ := Option.map_eq_some_iff.1 hl
    exact (hC.each i a b f hab hf).2
  · rw [List.getElem?_map] at hx hy
    obtain ⟨⟨a, b⟩, hab, rfl⟩ := Option.map_eq_some_iff.1 hx
    obtain ⟨⟨c, d⟩, hcd, rfl⟩ := Option.map_eq_some_iff.1 hy
    intro hk2
    rcases Nat.lt_or_gt_of_ne hij with hlt | hlt
    · exact absurd (hC.ord i j a b c d hlt hab hcd k k (Or.inr hk) (Or.inr hk2)) (Nat.lt_irrefl _)
    · exact absurd (hC.ord j i c d a b hlt hcd hab k k (Or.inr hk2) (Or.inr hk)) (Nat.lt_irrefl _)

end Go.Proofs.Ytecaolkbllbokaa.TG

namespace Go.Proofs.Ytecaolkbllbokaa.TG
open Go.RowKit Go.Great
set_option linter.unusedSimpArgs false
set_option linter.unusedVariables false

def AllB (A N : Nat) (p : Nat → P1) (k : Nat) : Prop := k = A ∨ ∃ i, i < N ∧ (p i).bl k
theorem set_A {w : World} {p0 : P1} {D F : Value} {dl : List Int} {fl : List FnV} {cc : Nat → List (Int × Int)} {A s i : Nat} {v : Value} (h : Pr1 w D dl F fl cc) (loc : ∀ k, PB1 D F fl k → p0.bl k ∨ s ≤ k) (nA : ¬ p0.bl A) (hA : A < s) : Pr1 (w.setCell ⟨A, i, none⟩ v) D dl F fl cc :=
  pr1_sp (P := fun k => k = A) h (sp_grown (grownBy_set w A i v) fun k _ e => by injection e with e; exact e.symm) fun k hk e => by
    subst e
    rcases loc k hk with h1 | h1
    · exact nA h1
    · omega
theorem fin_done {ws : World} {p0 : P1} {i : Nat} {fl : List FnV} {cc : Nat → List (Int × Int)} {D F : Value} {d : List Int} {w1 : World} (h : GrIn ws w1 p0 i p0.fl.length fl cc) (hd : d = mkD i p0.dl.length) : DoneP i p0 ⟨D, d ++ [lastB i], F, fl ++ [(-1 - (i : Int), 0, 0, .slice none 0 0)], fun m => if m < fl.length then cc m else []⟩ := by
  refine ⟨by rw [hd], by simp [h.len], fun k hk => ?_, ?_⟩
  · obtain ⟨v, h1, h2⟩ := h.done k hk
    have hkl : k < fl.length := by rw [h.len]; exact hk
    exact ⟨v, by simp only []; rw [List.getElem?_append_left hkl]; exact h1, by simp only []; rw [if_pos hkl]; exact h2⟩
  · simp only []
    rw [← h.len, List.getElem?_append_right (Nat.le_refl _)]
    simp
theorem sp_more {P Q : Nat → Prop} {w w' : World} (h : Sp P w w') (e : ∀ k, P k → Q k) : Sp Q w w' := sp_trans (sp_refl _ _) h fun k _ hk => e k hk

theorem fin_f {ws w1 wr w8 : World} {A K N q : Nat} {G' : Nat → Value} {p' : Nat → P1} {fl : List FnV} {cc : Nat → List (Int × Int)} {d : List Int} {o : Obj} {v8 : Value} (HS : GrSt ws A K N G' p') (hq : q < N) (HI : GrIn ws w1 (p' q) q (p' q).fl.length fl cc) (hP : Pr1 wr (p' q).D d (p' q).F fl cc) (hsp : Sp (p' q).bl ws wr)
    (hown : w8.ownsRow 0 73 4 v8 (fl.length + 1) (flatF fl ++ [.int .i64 (-1 - (q : Int)), .int .i64 0, .int .i64 0, .slice none 0 0])) (hg : (wr.alloc o).grownBy w8 (p' q).F.ownBlock) (hat : v8.ownBlock = (p' q).F.ownBlock ∨ v8.ownBlock = some (wr.alloc o).heap.size) :
    Pr1 (w8.setCell ⟨A, q * 3 + 2, none⟩ v8) (p' q).D d v8 (fl ++ [(-1 - (q : Int), 0, 0, .slice none 0 0)]) (fun m => if m < fl.length then cc m else []) ∧ Sp (fun k => (p' q).bl k ∨ k = A) ws (w8.setCell ⟨A, q * 3 + 2, none⟩ v8) ∧ (w8.setCell ⟨A, q * 3 + 2, none⟩ v8).rowIs A 32 K (fun j => if j = q * 3 + 2 then v8 else G' j) ∧
      (∀ k, PB1 (p' q).D v8 (fl ++ [(-1 - (q : Int), 0, 0, .slice none 0 0)]) k → (p' q).bl k ∨ ws.heap.size ≤ k) ∧ w8.rowIs A 32 K G' := by
  have pr8 := pr1_fapp hP hg hown
  have sp8 : Sp (p' q).bl ws w8 := sp_trans (sp_trans hsp (sp_grown (P := (p' q).bl) (World.grownBy_alloc wr o none) (by simp)) (fun _ _ h => h)) (sp_grown (P := (p' q).bl) hg fun b _ e => Or.inr (Or.inl e)) (fun _ _ h => h)
  have row8 := row_sp HS.row sp8 (HS.nA q hq)
  have loc : ∀ k, PB1 (p' q).D v8 (fl ++ [(-1 - (q : Int), 0, 0, .slice none 0 0)]) k → (p' q).bl k ∨ ws.heap.size ≤ k := fun k hk => by
    rcases hk with e | e | ⟨x, hx, e⟩
    · exact Or.inl (Or.inl e)
    · rcases hat with e2 | e2
      · rw [e2] at e; exact Or.inl (Or.inr (Or.inl e))
      · rw [e2] at e; injection e with e
        have := hsp.size
        rw [World.size_alloc] at e
        right; omega
    · rcases List.mem_append.1 hx with hx | hx
      · exact HI.loc x hx k e
      · simp at hx; subst hx; cases e
  exact ⟨set_A pr8 loc (HS.nA q hq) HS.row.lt, sp_set (sp_more sp8 fun _ h => Or.inl h) (Or.inr rfl), row8.set _ _, loc, row8⟩

theorem fin_d {ws w9 wF : World} {A K N q : Nat} {G' G9 : Nat → Value} {p' : Nat → P1} {fl : List FnV} {cc : Nat → List (Int × Int)} {d : List Int} {o : Obj} {v8 vF : Value} {x : Int} (HS : GrSt ws A K N G' p') (hq : q < N) (hP : Pr1 w9 (p' q).D d v8 fl cc) (hsp : Sp (fun k => (p' q).bl k ∨ k = A) ws w9) (hrow : w9.rowIs A 32 K G9) (loc : ∀ k, PB1 (p' q).D v8 fl k → (p' q).bl k ∨ ws.heap.size ≤ k)
    (hown : wF.ownsRow 0 5 1 vF (d.length + 1) (d.map (Value.int .u8) ++ [.int .u8 x])) (hg : (w9.alloc o).grownBy wF (p' q).D.ownBlock) (hat : vF.ownBlock = (p' q).D.ownBlock ∨ vF.ownBlock = some (w9.alloc o).heap.size) :
    Pr1 (wF.setCell ⟨A, q * 3 + 1, none⟩ vF) vF (d ++ [x]) v8 fl cc ∧ Sp (fun k => (p' q).bl k ∨ k = A) ws (wF.setCell ⟨A, q * 3 + 1, none⟩ vF) ∧ (wF.setCell ⟨A, q * 3 + 1, none⟩ vF).rowIs A 32 K (fun j => if j = q * 3 + 1 then vF else G9 j) ∧
      (∀ k, PB1 vF v8 fl k → (p' q).bl k ∨ ws.heap.size ≤ k) ∧ wF.rowIs A 32 K G9 := by
  have pr8 := pr1_dapp hP hg hown
  have sp8 : Sp (fun k => (p' q).bl k ∨ k = A) ws wF := sp_trans (sp_trans hsp (sp_grown (P := fun k => (p' q).bl k ∨ k = A) (World.grownBy_alloc w9 o none) (by simp)) (fun _ _ h => h)) (sp_grown (P := fun k => (p' q).bl k ∨ k = A) hg fun b _ e => Or.inl (Or.inl e)) (fun _ _ h => h)
  have row8 : wF.rowIs A 32 K G9 := by
    have r1 : (w9.alloc o).rowIs A 32 K G9 := row_kept hrow (World.grownBy_alloc w9 o none) (by simp)
    exact row_kept r1 hg fun e => HS.nA q hq (Or.inl e)
  have loc2 : ∀ k, PB1 vF v8 fl k → (p' q).bl k ∨ ws.heap.size ≤ k := fun k hk => by
    rcases hk with e | e
    · rcases hat with e2 | e2
      · rw [e2] at e; exact Or.inl (Or.inl e)
      · rw [e2] at e; injection e with e
        have := hsp.size
        rw [World.size_alloc] at e
        right; omega
    · exact loc k (Or.inr e)
  exact ⟨set_A pr8 loc2 (HS.nA q hq) HS.row.lt, sp_set sp8 (Or.inr rfl), row8.set _ _, loc2, row8⟩

theorem grown_turn {w ws w1 wE : World} {A K N q : Nat} {G' : Nat → Value} {p p' : Nat → P1} {fl : List FnV} {cc : Nat → List (Int × Int)} {D F : Value} (HS : GrSt ws A K N G' p') (hq : q < N) (HD : ∀ m, m < q → DoneP m (p m) (p' m)) (HR : ∀ m, q ≤ m → p' m = p m) (HSP : Sp (AllB A N p) w ws) (HI : GrIn ws w1 (p' q) q (p' q).fl.length fl cc)
    (hP : Pr1 wE D (mkD q (p' q).dl.length ++ [lastB q]) F (fl ++ [(-1 - (q : Int), 0, 0, .slice none 0 0)]) (fun m => if m < fl.length then cc m else [])) (hsp : Sp (fun k => (p' q).bl k ∨ k = A) ws wE) (hrow : wE.rowIs A 32 K (fun j => if j = q * 3 + 1 then D else if j = q * 3 + 2 then F else G' j)) (loc : ∀ k, PB1 D F (fl ++ [(-1 - (q : Int), 0, 0, .slice none 0 0)]) k → (p' q).bl k ∨ ws.heap.size ≤ k) :
    ∃ (G'' : Nat → Value) (p'' : Nat → P1), GrSt wE A K N G'' p'' ∧ (∀ m, m < q + 1 → DoneP m (p m) (p'' m)) ∧ (∀ m, q + 1 ≤ m → p'' m = p m) ∧ Sp (AllB A N p) w wE := by
  have hpq := HR q (Nat.le_refl _)
  obtain ⟨P, hP0⟩ : ∃ P : P1, P = ⟨D, mkD q (p' q).dl.length ++ [lastB q], F, fl ++ [(-1 - (q : Int), 0, 0, Value.slice none 0 0)], fun m => if m < fl.length then cc m else []⟩ := ⟨_, rfl⟩
  have hP2 : P.at_ wE := by rw [hP0]; exact hP
  have hloc2 : ∀ k, P.bl k → (p' q).bl k ∨ ws.heap.size ≤ k := by rw [hP0]; exact loc
  refine ⟨_, fun j => if j = q then P else p' j, gr_upd (p' := P) HS hq hsp hrow (fun j hj hjq => ⟨?_, ?_⟩) ⟨?_, ?_⟩ hP2 hloc2, fun m hm => ?_, fun m hm => ?_, ?_⟩
  · rw [if_neg (by omega), if_neg (by omega)]
  · rw [if_neg (by omega), if_neg (by omega)]
  · rw [if_pos rfl, hP0]
  · rw [if_neg (by omega), if_pos rfl, hP0]
  · simp only []
    by_cases e : m = q
    · subst e
      rw [if_pos rfl, ← hpq, hP0]
      exact fin_done (ws := ws) (w1 := w1) HI rfl
    · rw [if_neg e]; exact HD m (by omega)
  · simp only []
    rw [if_neg (by omega)]; exact HR m (by omega)
  · refine sp_trans HSP hsp fun k _ hk => ?_
    rcases hk with hk | rfl
    · exact Or.inr ⟨q, hq, by rw [← hpq]; exact hk⟩
    · exact Or.inl rfl

/-- What is seen of a program that was grown. -/
theorem done_see {w : World} {p0 P : P1} {i : Nat} (h : P.at_ w) (d : DoneP i p0 P) : ∃ gF cF gD cD, P.F = .slice (some ⟨gF, 0, none⟩) (p0.fl.length + 1) cF ∧ P.D = .slice (some ⟨gD, 0, none⟩) (p0.dl.length + 1) cD ∧ (∀ k, k < p0.dl.length → w.cell? ⟨gD, k, none⟩ = some (.int .u8 (byteD i k))) ∧ w.cell? ⟨gD, p0.dl.length, none⟩ = some (.int .u8 (i : Int)) ∧
    (∀ k, k < p0.fl.length → ∃ gC cC, w.cell? ⟨gF, k * 4, none⟩ = some (.int .i64 (1000 * (i : Int) + (k : Int))) ∧ w.cell? ⟨gF, k * 4 + 3, none⟩ = some (.slice (some ⟨gC, 0, none⟩) ((p0.cc k).length + 1) cC) ∧ (∀ j, j < (p0.cc k).length → w.cell? ⟨gC, j * 2, none⟩ = some (.int .i64 (1000 * (i : Int) + (k : Int))) ∧ w.cell? ⟨gC, j * 2 + 1, none⟩ = some (.int .i64 (j : Int))) ∧ w.cell? ⟨gC, (p0.cc k).length * 2, none⟩ = some (.int .i64 (-(1000 * (i : Int)) - (k : Int) - 1))) ∧
    w.cell? ⟨gF, p0.fl.length * 4, none⟩ = some (.int .i64 (-1 - (i : Int))) := by
  have hdl : P.dl.length = p0.dl.length + 1 := by rw [d.d, List.length_append, mkD_len]; rfl
  have hdt := h.dt
  obtain ⟨gD, cD, eD, lD, hcD⟩ := own_get hdt (by rw [hdl]; omega)
  obtain ⟨gF, cF, eF, hgF, f0, -, -, -, -⟩ := pr1_see h d.last
  rw [hdl] at eD hcD
  rw [d.fl] at eF
  refine ⟨gF, cF, gD, cD, eF, eD, fun k hk => hcD k _ ?_ (by omega), hcD _ _ ?_ (by omega), fun k hk => ?_, f0⟩
  · rw [List.getElem?_map, d.d, List.getElem?_append_left (by rw [mkD_len]; exact hk), mkD_get hk]; rfl
  · rw [List.getElem?_map, d.d, List.getElem?_append_right (by rw [mkD_len]; exact Nat.le_refl _), mkD_len, Nat.sub_self]; rfl
  · obtain ⟨v, h1, h2⟩ := d.code k hk
    obtain ⟨gF2, cF2, eF2, -, g0, -, -, g3, -⟩ := pr1_see h h1
    rw [eF] at eF2
    injection eF2 with e1 e2 e3
    injection e1 with e1; injection e1 with e1
    subst e1
    have ho := h.each k _ h1
    have hl : (P.cc k).length = (p0.cc k).length + 1 := by rw [h2, List.length_append, mkC_len]; rfl
    obtain ⟨gC, cC, eC, hgC, hcc⟩ := own_getN ho (by rw [hl]; omega)
    simp only [] at eC g3
    rw [hl] at eC
    refine ⟨gC, cC, g0, by rw [g3, eC], fun j hj => ?_, ?_⟩
    · have hjj : (P.cc k)[j]? = some (1000 * (i : Int) + (k : Int), (j : Int)) := by rw [h2, List.getElem?_append_left (by rw [mkC_len]; exact hj), mkC_get hj]
      obtain ⟨q1, q2⟩ := flat2_get _ _ _ _ hjj
      exact ⟨hcc _ _ q1 (by omega), hcc _ _ q2 (by omega)⟩
    · have hjj : (P.cc k)[(p0.cc k).length]? = some (-(1000 * (i : Int)) - (k : Int) - 1, 0) := by rw [h2, List.getElem?_append_right (by rw [mkC_len]; exact Nat.le_refl _), mkC_len, Nat.sub_self]; rfl
      obtain ⟨q1, q2⟩ := flat2_get _ _ _ _ hjj
      exact hcc _ _ q1 (by omega)

end Go.Proofs.Ytecaolkbllbokaa.TG

namespace Go.Proofs.Ytecaolkbllbokaa.TG
open Go.RowKit Go.Great
set_option linter.unusedSimpArgs false
set_option linter.unusedVariables false

def flatP (m : Int) : List P1 → List Value
  | [] => []
  | x :: r => .int .i64 m :: x.D :: x.F :: flatP m r
theorem flatP_append (m : Int) : ∀ (l r : List P1), flatP m (l ++ r) = flatP m l ++ flatP m r
  | [], r => rfl
  | x :: l, r => by simp [flatP, flatP_append m l r]
theorem flatP_get (m : Int) : ∀ (l : List P1) (i : Nat) (x : P1), l[i]? = some x → (flatP m l)[i * 3 + 1]? = some x.D ∧ (flatP m l)[i * 3 + 2]? = some x.F
  | [], i, x, h => by simp at h
  | y :: r, 0, x, h => by simp at h; subst h; simp [flatP]
  | y :: r, i + 1, x, h => by
    obtain ⟨h1, h2⟩ := flatP_get m r i x (by simpa using h)
    have e : (i + 1) * 3 = i * 3 + 1 + 1 + 1 := by omega
    rw [e]
    simp only [flatP]
    exact ⟨by simpa using h1, by simpa using h2⟩

structure BkP (lo : Nat) (w : World) (u : Un) (m : Int) (vp : Value) (ps : List P1) : Prop where
  po : w.ownsRow lo 32 3 vp ps.length (flatP m ps)
  pa : ∀ (i : Nat) (p : P1), ps[i]? = some p → p.at_ w ∧ LikeU u p ∧ ∀ k, p.bl k → lo ≤ k
  pd : ∀ (i j : Nat) (p q : P1) (k : Nat), i ≠ j → ps[i]? = some p → ps[j]? = some q → p.bl k → ¬ q.bl k
structure BkI (lo : Nat) (w : World) (vi : Value) (vs : List Value) : Prop where
  io : w.ownsRow lo 47 1 vi vs.length vs
  ie : ∀ (i : Nat) (v : Value), vs[i]? = some v → ∃ l : List Int, (0 < l.length ∧ l.length ≤ 1000000) ∧ w.ownsRow lo 3 1 v l.length (l.map (Value.int .i64))
  id : ∀ (i j : Nat) (x y : Value) (k : Nat), i ≠ j → vs[i]? = some x → vs[j]? = some y → x.ownBlock = some k → y.ownBlock ≠ some k
structure BkL (lo : Nat) (w : World) (n : Nat) (vi vl : Value) (lv : List Value) : Prop where
  lr : w.ownsRow lo 41 1 vl lv.length lv
  le : ∀ (i : Nat) (v : Value), lv[i]? = some v → ∃ rows, w.ownsRow lo 47 1 v n rows
  ne : ∀ (i : Nat) (v : Value) (k : Nat), lv[i]? = some v → v.ownBlock = some k → vi.ownBlock ≠ some k

section
variable {lo : Nat} {w w' : World} {u : Un} {m : Int} {vp vi vl : Value} {ps : List P1} {vs lv : List Value} {n : Nat}

theorem p1_un {p : P1} (h : p.at_ w) {T : TypeId} {size c : Nat} {v : Value} {xs : List Value} (ho : w.ownsRow 0 T size v c xs) (h1 : 5 ≠ T) (h2 : 73 ≠ T) (h3 : 75 ≠ T) (g : w.grownBy w' v.ownBlock) : p.at_ w' :=
  ⟨h.dt.kept g (un_none h.dt ho h1), h.fr.kept g (un_none h.fr ho h2), fun k x hx => (h.each k x hx).kept g (un_none (h.each k x hx) ho h3), h.dis⟩
theorem bkP_un (h : BkP lo w u m vp ps) {T : TypeId} {size c : Nat} {v : Value} {xs : List Value} (ho : w.ownsRow 0 T size v c xs) (h0 : 32 ≠ T) (h1 : 5 ≠ T) (h2 : 73 ≠ T) (h3 : 75 ≠ T) (g : w.grownBy w' v.ownBlock) : BkP lo w' u m vp ps :=
  ⟨h.po.kept g (un_none h.po.base0 ho h0), fun i p hi => ⟨p1_un (h.pa i p hi).1 ho h1 h2 h3 g, (h.pa i p hi).2⟩, h.pd⟩
theorem bkI_un (h : BkI lo w vi vs) {T : TypeId} {size c : Nat} {v : Value} {xs : List Value} (ho : w.ownsRow 0 T size v c xs) (h0 : 47 ≠ T) (h1 : 3 ≠ T) (g : w.grownBy w' v.ownBlock) : BkI lo w' vi vs :=
  ⟨h.io.kept g (un_none h.io.base0 ho h0), fun i x hi => by
    obtain ⟨l, hl, ho2⟩ := h.ie i x hi
    exact ⟨l, hl, ho2.kept g (un_none ho2.base0 ho h1)⟩, h.id⟩
theorem bkL_un (h : BkL lo w n vi vl lv) {T : TypeId} {size c : Nat} {v : Value} {xs : List Value} (ho : w.ownsRow 0 T size v c xs) (h0 : 41 ≠ T) (h1 : 47 ≠ T) (g : w.grownBy w' v.ownBlock) : BkL lo w' n vi vl lv :=
  ⟨h.lr.kept g (un_none h.lr.base0 ho h0), fun i x hi => by
    obtain ⟨l, ho2⟩ := h.le i x hi
    exact ⟨l, ho2.kept g (un_none ho2.base0 ho h1)⟩, h.ne⟩
theorem lists_un {b : Nat} {v0 : Value} {orgs : List (List Int)} (h : Lists b w v0 orgs vs) {T : TypeId} {size c : Nat} {v : Value} {xs : List Value} (ho : w.ownsRow 0 T size v c xs) (h0 : 47 ≠ T) (h1 : 3 ≠ T) (g : w.grownBy w' v.ownBlock) : Lists b w' v0 orgs vs :=
  ⟨h.ow.kept g (un_none h.ow.base0 ho h0), h.len, fun i x l hi hl => (h.each i x l hi hl).kept g (un_none (h.each i x l hi hl).base0 ho h1), h.dis⟩
theorem bkP_kept (h : BkP lo w u m vp ps) (g : w.grownBy w' none) : BkP lo w' u m vp ps := bkP_un (T := 4) h (World.ownsRow_nil _ _ _ 1) (by decide) (by decide) (by decide) (by decide) g
theorem bkI_kept (h : BkI lo w vi vs) (g : w.grownBy w' none) : BkI lo w' vi vs := bkI_un (T := 4) h (World.ownsRow_nil _ _ _ 1) (by decide) (by decide) g
theorem bkL_kept (h : BkL lo w n vi vl lv) (g : w.grownBy w' none) : BkL lo w' n vi vl lv := bkL_un (T := 4) h (World.ownsRow_nil _ _ _ 1) (by decide) (by decide) g
theorem lists_kept {b : Nat} {v0 : Value} {orgs : List (List Int)} (h : Lists b w v0 orgs vs) (g : w.grownBy w' none) : Lists b w' v0 orgs vs := lists_un (T := 4) h (World.ownsRow_nil _ _ _ 1) (by decide) (by decide) g
theorem at_kept {p : P1} (h : p.at_ w) (g : w.grownBy w' none) : p.at_ w' := pr1_kept h g
end

/-- Where one turn of the first loop stands, once Compile and Origin have answered: b is where the turn's blocks begin. -/
structure Turn (lo b : Nat) (w : World) (u : Un) (m : Int) (vp vi vl : Value) (ps : List P1) (vs lv : List Value) (P : P1) (v : Value) (orgs : List (List Int)) (xs : List Value) : Prop where
  p : BkP lo w u m vp ps
  i : BkI lo w vi vs
  l : BkL lo w orgs.length vi vl lv
  at_ : P.at_ w
  like : LikeU u P
  low : ∀ k, P.bl k → b ≤ k
  ls : Lists b w v orgs xs
  lob : lo ≤ b
  oldp : ∀ q ∈ ps, ∀ k, q.bl k → k < b
  oldi : ∀ x ∈ vs, ∀ k, x.ownBlock = some k → k < b
  oldv : ∀ k, vi.ownBlock = some k → k < b
  pos : ∀ l ∈ orgs, 0 < l.length ∧ l.length ≤ 1000000
  bw : b ≤ w.heap.size

section
variable {lo b : Nat} {w w' : World} {u : Un} {m : Int} {vp vi vl : Value} {ps : List P1} {vs lv : List Value} {P : P1} {v : Value} {orgs : List (List Int)} {xs : List Value}

theorem turn_kept (h : Turn lo b w u m vp vi vl ps vs lv P v orgs xs) (g : w.grownBy w' none) : Turn lo b w' u m vp vi vl ps vs lv P v orgs xs :=
  ⟨bkP_kept h.p g, bkI_kept h.i g, bkL_kept h.l g, at_kept h.at_ g, h.like, h.low, lists_kept h.ls g, h.lob, h.oldp, h.oldi, h.oldv, h.pos, Nat.le_trans h.bw g.size⟩

/-- The three lists after a turn, or amid it. -/
structure Book (lo : Nat) (w : World) (u : Un) (m : Int) (n : Nat) (vp vi vl : Value) (ps : List P1) (vs lv : List Value) : Prop where
  p : BkP lo w u m vp ps
  i : BkI lo w vi vs
  l : BkL lo w n vi vl lv
  n1 : vs.length = ps.length * n
  n2 : lv.length = ps.length

theorem turn_a {o : Obj} {vp' : Value} (h : Turn lo b w u m vp vi vl ps vs lv P v orgs xs) (hg : (w.alloc o).grownBy w' vp.ownBlock) (own : w'.ownsRow lo 32 3 vp' (ps.length + 1) (flatP m ps ++ [.int .i64 m, P.D, P.F])) :
    BkP lo w' u m vp' (ps ++ [P]) ∧ BkI lo w' vi vs ∧ BkL lo w' orgs.length vi vl lv ∧ Lists b w' v orgs xs := by
  have hK := turn_kept h (World.grownBy_alloc w o none)
  have ho := hK.p.po.base0
  have hget : ∀ (i : Nat) (q : P1), (ps ++ [P])[i]? = some q → (i < ps.length ∧ ps[i]? = some q) ∨ (i = ps.length ∧ q = P) := fun i q hq => by
    by_cases e : i < ps.length
    · rw [List.getElem?_append_left e] at hq; exact Or.inl ⟨e, hq⟩
    · have hm : i = ps.length := by have := (List.getElem?_eq_some_iff.1 hq).1; simp at this; omega
      subst hm
      rw [List.getElem?_append_right (Nat.le_refl _)] at hq
      simp at hq
      exact Or.inr ⟨rfl, hq.symm⟩
  refine ⟨⟨by rw [List.length_append, flatP_append]; exact own, fun i q hq => ?_, fun i j q r k hij hq hr hk => ?_⟩, bkI_un hK.i ho (by decide) (by decide) hg, bkL_un hK.l ho (by decide) (by decide) hg, lists_un hK.ls ho (by decide) (by decide) hg⟩
  · rcases hget i q hq with ⟨e, hq2⟩ | ⟨e, rfl⟩
    · exact ⟨p1_un (hK.p.pa i q hq2).1 ho (by decide) (by decide) (by decide) hg, (hK.p.pa i q hq2).2⟩
    · exact ⟨p1_un hK.at_ ho (by decide) (by decide) (by decide) hg, h.like, fun k hk => Nat.le_trans h.lob (h.low k hk)⟩
  · rcases hget i q hq with ⟨e, hq2⟩ | ⟨e, rfl⟩
    · rcases hget j r hr with ⟨e2, hr2⟩ | ⟨e2, rfl⟩
      · exact h.p.pd i j q r k hij hq2 hr2 hk
      · intro hk2
        have h1 := h.oldp q (List.mem_of_getElem? hq2) k hk
        have h2 := h.low k hk2
        omega
    · rcases hget j r hr with ⟨e2, hr2⟩ | ⟨e2, rfl⟩
      · intro hk2
        have h1 := h.oldp r (List.mem_of_getElem? hr2) k hk2
        have h2 := h.low k hk
        omega
      · omega

theorem turn_b {vp' vi' : Value} {ps' : List P1} {w0 : World} (h : Turn lo b w0 u m vp vi vl ps vs lv P v orgs xs) (hp : BkP lo w u m vp' ps') (hi : BkI lo w vi vs) (hl : BkL lo w orgs.length vi vl lv) (hs : Lists b w v orgs xs) (hb : b ≤ w.heap.size) (hg : w.grownBy w' vi.ownBlock) (own : w'.ownsRow lo 47 1 vi' (vs.length + orgs.length) (vs ++ xs)) (hat : vi'.ownBlock = vi.ownBlock ∨ vi'.ownBlock = some w.heap.size) :
    BkP lo w' u m vp' ps' ∧ BkI lo w' vi' (vs ++ xs) ∧ BkL lo w' orgs.length vi' vl lv ∧ w'.ownsRow lo 47 1 v orgs.length xs ∧ (∀ k, v.ownBlock = some k → vi'.ownBlock ≠ some k) := by
  have ho := hi.io.base0
  have hvk : ∀ k, v.ownBlock = some k → vi.ownBlock ≠ some k := fun k hk e => by
    have h1 := (hs.ow.lt k hk).1
    have h2 := h.oldv k e
    omega
  have hget : ∀ (i : Nat) (q : Value), (vs ++ xs)[i]? = some q → (i < vs.length ∧ vs[i]? = some q) ∨ (vs.length ≤ i ∧ xs[i - vs.length]? = some q) := fun i q hq => by
    by_cases e : i < vs.length
    · rw [List.getElem?_append_left e] at hq; exact Or.inl ⟨e, hq⟩
    · rw [List.getElem?_append_right (by omega)] at hq; exact Or.inr ⟨by omega, hq⟩
  have hnew : ∀ (j : Nat) (q : Value) (k : Nat), xs[j]? = some q → q.ownBlock = some k → b ≤ k := fun j q k hq hk => by
    obtain ⟨l, hlj⟩ : ∃ l, orgs[j]? = some l := ⟨_, List.getElem?_eq_getElem (by rw [← hs.len]; exact (List.getElem?_eq_some_iff.1 hq).1)⟩
    exact ((hs.each j q l hq hlj).lt k hk).1
  refine ⟨bkP_un hp ho (by decide) (by decide) (by decide) (by decide) hg, ⟨by rw [List.length_append, hs.len]; exact own, fun i q hq => ?_, fun i j q r k hij hq hr hk => ?_⟩, ⟨hl.lr.kept hg (un_none hl.lr.base0 ho (by decide)), fun i x hx => ?_, fun i x k hx hk => ?_⟩, ?_, fun k hk e => ?_⟩
  · rcases hget i q hq with ⟨e, hq2⟩ | ⟨e, hq2⟩
    · obtain ⟨l, hl2, ho2⟩ := hi.ie i q hq2
      exact ⟨l, hl2, ho2.kept hg (un_none ho2.base0 ho (by decide))⟩
    · obtain ⟨l, hlj⟩ : ∃ l, orgs[i - vs.length]? = some l := ⟨_, List.getElem?_eq_getElem (by rw [← hs.len]; exact (List.getElem?_eq_some_iff.1 hq2).1)⟩
      have ho2 := hs.each _ q l hq2 hlj
      exact ⟨l, h.pos l (List.mem_of_getElem? hlj), own_lower (ho2.kept hg (un_none ho2.base0 ho (by decide))) h.lob⟩
  · rcases hget i q hq with ⟨e, hq2⟩ | ⟨e, hq2⟩
    · rcases hget j r hr with ⟨e2, hr2⟩ | ⟨e2, hr2⟩
      · exact hi.id i j q r k hij hq2 hr2 hk
      · intro hk2
        have h1 := h.oldi q (List.mem_of_getElem? hq2) k hk
        have h2 := hnew _ r k hr2 hk2
        omega
    · rcases hget j r hr with ⟨e2, hr2⟩ | ⟨e2, hr2⟩
      · intro hk2
        have h1 := h.oldi r (List.mem_of_getElem? hr2) k hk2
        have h2 := hnew _ q k hq2 hk
        omega
      · exact hs.dis _ _ q r k (by omega) hq2 hr2 hk
  · obtain ⟨rows, ho2⟩ := hl.le i x hx
    refine ⟨rows, ho2.kept hg ?_⟩
    cases e : x.ownBlock with
    | none => exact Or.inl rfl
    | some k => exact Or.inr (fun e2 => hl.ne i x k hx e e2.symm)
  · obtain ⟨rows, ho2⟩ := hl.le i x hx
    rcases hat with e | e
    · rw [e]; exact hl.ne i x k hx hk
    · rw [e]; intro e2; injection e2 with e2
      have := (ho2.lt k hk).2
      omega
  · refine own_lower (hs.ow.kept hg ?_) h.lob
    cases e : v.ownBlock with
    | none => exact Or.inl rfl
    | some k => exact Or.inr (fun e2 => hvk k e e2.symm)
  · rcases hat with e3 | e3
    · rw [e3] at e; exact hvk k hk e
    · rw [e3] at e; injection e with e
      have := (hs.ow.lt k hk).2
      omega

theorem turn_c {o : Obj} {vp' vi' vl' : Value} {ps' : List P1} {vs' : List Value} {n : Nat} (hp : BkP lo w u m vp' ps') (hi : BkI lo w vi' vs') (hl : BkL lo w n vi' vl lv) (hv : w.ownsRow lo 47 1 v n xs) (hne : ∀ k, v.ownBlock = some k → vi'.ownBlock ≠ some k) (hg : (w.alloc o).grownBy w' vl.ownBlock) (own : w'.ownsRow lo 41 1 vl' (lv.length + 1) (lv ++ [v])) :
    BkP lo w' u m vp' ps' ∧ BkI lo w' vi' vs' ∧ BkL lo w' n vi' vl' (lv ++ [v]) := by
  have gA := World.grownBy_alloc w o none
  have hlA := bkL_kept hl gA
  have ho := hlA.lr.base0
  refine ⟨bkP_un (bkP_kept hp gA) ho (by decide) (by decide) (by decide) (by decide) hg, bkI_un (bkI_kept hi gA) ho (by decide) (by decide) hg, ⟨by rw [List.length_append]; exact own, fun i x hx => ?_, fun i x k hx hk => ?_⟩⟩
  · by_cases e : i < lv.length
    · rw [List.getElem?_append_left e] at hx
      obtain ⟨rows, ho2⟩ := hlA.le i x hx
      exact ⟨rows, ho2.kept hg (un_none ho2.base0 ho (by decide))⟩
    · rw [List.getElem?_append_right (by omega)] at hx
      have hx2 : x = v := by
        have := List.mem_of_getElem? hx
        simpa using this
      subst hx2
      have ho2 := hv.kept gA (Classical.em _)
      exact ⟨xs, ho2.kept hg (un_none ho2.base0 ho (by decide))⟩
  · by_cases e : i < lv.length
    · rw [List.getElem?_append_left e] at hx
      exact hl.ne i x k hx hk
    · rw [List.getElem?_append_right (by omega)] at hx
      have hx2 : x = v := by
        have := List.mem_of_getElem? hx
        simpa using this
      subst hx2
      exact hne k hk
end

end Go.Proofs.Ytecaolkbllbokaa.TG
