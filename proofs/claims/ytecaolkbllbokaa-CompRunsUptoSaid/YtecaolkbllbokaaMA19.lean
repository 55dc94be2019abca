/-
  Kept, of a function: SameWords, SameParts, keptFn. Conditions: as each theorem states.
  Regions in whatever order, with guards and one call. Conditions: as each theorem states.
-/
import Derived.Test.YtecaolkbllbokaaMA18
import Derived.Test.YtecaolkbllbokaaMA09
import Derived.Test.YtecaolkbllbokaaMA12
namespace Go.Proofs.Ytecaolkbllbokaa.TG
open Go.RowKit Go.Great
set_option linter.unusedSimpArgs false
set_option linter.unusedVariables false

set_option maxRecDepth 100000 in
set_option maxHeartbeats 4000000 in
theorem same_words (ls : List ByteArray) (pl : Option Addr) (cl B bl : Nat) (w : World) (hl : ls.length ≤ 1000000000000) (hs : StrsB w B pl ls) (hr : w.rowIs bl 9 (ls.length + 5) (lendS ls)) :
    Calls Try.prog 51 #[.slice (some ⟨bl, 0, none⟩) ls.length (ls.length + 5), .slice pl ls.length cl] w fun e w' => e = .returned (.bool true) ∧ w.grownBy w' none := by
  have HR := Lib.hid hr
  have HS := Lib.hid hs
  have hli : (ls.length : Int) ≤ 1000000000000 := by omega
  clear hs hr
  go_enter Try.func51, Try.ntmps51
  go_wp2
  go_loopw [5] (fun i wr => ∃ q : Nat, i = .int .i64 q ∧ q ≤ ls.length ∧ w.grownBy wr none) (fun i _ => ls.length - (intOf i).toNat)
  case atStart => exact ⟨0, rfl, Nat.zero_le _, grownBy_refl _ _⟩
  case round =>
    obtain ⟨q, rfl, hq, hg⟩ := hrel
    have HG := Lib.hid hg
    by_cases hlt : (q : Int) < (ls.length : Int)
    · obtain ⟨s, hqs⟩ : ∃ s, ls[q]? = some s := ⟨_, List.getElem?_eq_getElem (by omega)⟩
      have hr := row_kept HR.out hg (by simp)
      have c0 := hr.cell (i := q) (by omega)
      have e0 : lendS ls q = .string s := by unfold lendS; rw [if_pos (by omega), List.getD_eq_getElem?_getD, hqs]; rfl
      rw [e0] at c0
      have l0 := hr.lt
      obtain ⟨bs, os, rfl, hbs, hcs⟩ := HS.out (by omega)
      have s0 := hg.cell (hcs q (by omega)) (by simp)
      rw [show ls[q] = s from by have := (List.getElem?_eq_some_iff.1 hqs).2; exact this] at s0
      have sl := World.block_lt_of_cell? _ _ s0
      clear hr hg e0 hcs hbs hqs
      go_wp2
      go_quiet (fail)
      go_wp2
      go_roundw
      case rel => exact ⟨q + 1, by go_num, by omega, by first | exact HG.out | exact grownBy_drewN' HG.out _⟩
      case measure => simp [intOf]; omega
    · have hqe : q = ls.length := by omega
      subst hqe
      clear hg
      go_wp2
      go_ret
      exact ⟨rfl, HG.out⟩

set_option maxRecDepth 100000 in
set_option maxHeartbeats 4000000 in
theorem same_parts (ps : List (Int × Int × Int)) (pp : Option Addr) (cp B bp : Nat) (w : World) (hl : ps.length ≤ 1000000000000) (hs : PartsB w B pp ps) (hr : w.rowIs bp 108 ((ps.length + 67) * 3) (lendP ps)) :
    Calls Try.prog 52 #[.slice (some ⟨bp, 0, none⟩) ps.length (ps.length + 67), .slice pp ps.length cp] w fun e w' => e = .returned (.bool true) ∧ w.grownBy w' none := by
  have HR := Lib.hid hr
  have HS := Lib.hid hs
  have hli : (ps.length : Int) ≤ 1000000000000 := by omega
  clear hs hr
  go_enter Try.func52, Try.ntmps52
  go_wp2
  go_loopw [5] (fun i wr => ∃ q : Nat, i = .int .i64 q ∧ q ≤ ps.length ∧ w.grownBy wr none) (fun i _ => ps.length - (intOf i).toNat)
  case atStart => exact ⟨0, rfl, Nat.zero_le _, grownBy_refl _ _⟩
  case round =>
    obtain ⟨q, rfl, hq, hg⟩ := hrel
    have HG := Lib.hid hg
    by_cases hlt : (q : Int) < (ps.length : Int)
    · obtain ⟨⟨k, n, kc⟩, hqs⟩ : ∃ s, ps[q]? = some s := ⟨_, List.getElem?_eq_getElem (by omega)⟩
      have hr := row_kept HR.out hg (by simp)
      obtain ⟨g1, g2, g3⟩ := parts3_get ps q k n kc hqs
      have c0 := hr.cell (i := q * 3) (by omega)
      have c1 := hr.cell (i := q * 3 + 1) (by omega)
      have c2 := hr.cell (i := q * 3 + 2) (by omega)
      have e0 : lendP ps (q * 3) = .int .i64 k := by unfold lendP; rw [if_pos (by omega), List.getD_eq_getElem?_getD, g1]; rfl
      have e1 : lendP ps (q * 3 + 1) = .int .i64 n := by unfold lendP; rw [if_pos (by omega), List.getD_eq_getElem?_getD, g2]; rfl
      have e2 : lendP ps (q * 3 + 2) = .int .i64 kc := by unfold lendP; rw [if_pos (by omega), List.getD_eq_getElem?_getD, g3]; rfl
      rw [e0] at c0
      rw [e1] at c1
      rw [e2] at c2
      have l0 := hr.lt
      obtain ⟨bs, os, rfl, hbs, hcs⟩ := HS.out (by omega)
      obtain ⟨q1, q2, q3⟩ := hcs q k n kc hqs
      have s0 := hg.cell q1 (by simp)
      have s1 := hg.cell q2 (by simp)
      have s2 := hg.cell q3 (by simp)
      have sl := World.block_lt_of_cell? _ _ s0
      clear hr hg e0 e1 e2 hcs hbs hqs q1 q2 q3 g1 g2 g3
      go_wp2
      go_quiet (fail)
      go_wp2
      go_roundw
      case rel => exact ⟨q + 1, by go_num, by omega, by first | exact HG.out | exact grownBy_drewN' HG.out _⟩
      case measure => simp [intOf]; omega
    · have hqe : q = ps.length := by omega
      subst hqe
      clear hg
      go_wp2
      go_ret
      exact ⟨rfl, HG.out⟩

theorem boxF_sp {P : Nat → Prop} {w w' : World} {b : Nat} {nm : ByteArray} {ar : Int} {vl vp : Value} (h : BoxF w b nm ar vl vp) (g : Sp P w w') (hp : ¬ P b) : BoxF w' b nm ar vl vp := by
  unfold BoxF at *
  rw [g.block b (Array.getElem?_eq_some_iff.1 h).1 hp]; exact h
theorem row_sp {P : Nat → Prop} {w w' : World} {b n : Nat} {t : TypeId} {f : Nat → Value} (h : w.rowIs b t n f) (g : Sp P w w') (hp : ¬ P b) : w'.rowIs b t n f := h.of_block (g.block b h.lt hp)
theorem sp_set {P : Nat → Prop} {w wr : World} {b i : Nat} {v : Value} (h : Sp P w wr) (hb : P b) : Sp P w (wr.setCell ⟨b, i, none⟩ v) :=
  sp_trans h (sp_grown (P := P) (grownBy_set wr b i v) fun k _ e => by injection e with e; exact e ▸ hb) (fun _ _ h => h)
theorem sp_drewN' {P : Nat → Prop} {w w' : World} (h : Sp P w w') (n : Nat) : Sp P w (w'.drewN n) := sp_trans h (sp_grown (P := P) (grownBy_drewN w' n none) (by simp)) (fun _ _ h => h)

def PB (bl bp k : Nat) : Prop := k = bl ∨ k = bp
def spoilt : ByteArray := { data := #[115, 112, 111, 105, 108, 116] }

set_option maxRecDepth 100000 in
set_option maxHeartbeats 8000000 in
theorem kept_fn (f : Fun) (pl pp : Option Addr) (cl cp B bl bp : Nat) (w : World) (hl : f.locals.length ≤ 1000000000000) (hp : f.parts.length ≤ 1000000000000) (hs : StrsB w B pl f.locals) (hq : PartsB w B pp f.parts) (hB : B ≤ w.heap.size) (hne : bl ≠ bp) (hr : LentF w f bl bp) :
    Calls Try.prog 32 #[.agg #[.string f.name, .int .i64 f.args, .slice (some ⟨bl, 0, none⟩) f.locals.length (f.locals.length + 5), .slice (some ⟨bp, 0, none⟩) f.parts.length (f.parts.length + 67)], .agg #[.string f.name, .int .i64 f.args, .slice pl f.locals.length cl, .slice pp f.parts.length cp]] w fun e w' => e = .returned (.bool true) ∧ Sp (PB bl bp) w w' := by
  have HR := Lib.hid hr
  have hli : (f.locals.length : Int) ≤ 1000000000000 := by omega
  have hpi : (f.parts.length : Int) ≤ 1000000000000 := by omega
  have SW := Lib.hid (fun (W : World) (g : w.grownBy W none) => same_words f.locals pl cl B bl W hl (strsB_kept hs g (by simp)) (row_kept hr.rl g (by simp)))
  have SP := Lib.hid (fun (W : World) (g : w.grownBy W none) => same_parts f.parts pp cp B bp W hp (partsB_kept hq g (by simp)) (row_kept hr.rp g (by simp)))
  have hbl := hr.rl.lt
  have hbp := hr.rp.lt
  clear hs hq hr
  go_enter Try.func32, Try.ntmps32
  go_wp2_with (first
    | (go_at_call 51; refine (SW.out _ (grownBy_trans (World.grownBy_alloc w _ none) (World.grownBy_alloc _ _ none))).mono ?_; rintro e w1 ⟨rfl, hg1⟩; have X1 := Lib.hid (boxF_kept (boxF_kept (heap_alloc_new w _) (World.grownBy_alloc _ _ none) (by simp)) hg1 (by simp) : BoxF w1 w.heap.size f.name f.args (.slice (some ⟨bl, 0, none⟩) f.locals.length (f.locals.length + 5)) (.slice (some ⟨bp, 0, none⟩) f.parts.length (f.parts.length + 67))); have Y0 : BoxF w1 (w.heap.size + 1) f.name f.args (.slice pl f.locals.length cl) (.slice pp f.parts.length cp) := blk_moved (by have h := heap_alloc_new (w.alloc (.cells #[.string f.name, .int .i64 f.args, .slice (some ⟨bl, 0, none⟩) f.locals.length (f.locals.length + 5), .slice (some ⟨bp, 0, none⟩) f.parts.length (f.parts.length + 67)] 69)) (.cells #[.string f.name, .int .i64 f.args, .slice pl f.locals.length cl, .slice pp f.parts.length cp] 69); rw [World.size_alloc] at h; exact h) hg1 (by simp); have Y1 := Lib.hid Y0; have G1 := Lib.hid (grownBy_trans (grownBy_trans (World.grownBy_alloc w _ none) (World.grownBy_alloc _ _ none)) hg1); have a3 := cell_of_row w1 _ 3 _ _ _ X1.out; have b3 := cell_of_row w1 _ 3 _ _ _ Y0; have al := (Array.getElem?_eq_some_iff.1 X1.out).1; have bbl := (Array.getElem?_eq_some_iff.1 Y0).1; clear hg1 Y0)
    | (go_at_call 52; refine (SP.out _ G1.out).mono ?_; rintro e w2 ⟨rfl, hg2⟩; have X2 := Lib.hid (boxF_kept X1.out hg2 (by simp)); have Y2 := Lib.hid (boxF_kept Y1.out hg2 (by simp)); have G2 := Lib.hid (grownBy_trans G1.out hg2); have a2 := cell_of_row w2 _ 2 _ _ _ X2.out; have b2 := cell_of_row w2 _ 2 _ _ _ Y2.out; have al := (Array.getElem?_eq_some_iff.1 X2.out).1; have bbl := (Array.getElem?_eq_some_iff.1 Y2.out).1; clear hg2))
  clear SW SP X1 Y1 a3 b3
  generalize hb0 : w.heap.size = b0 at *
  have HB0 := Lib.hid hb0
  clear hb0
  go_loopw [5, 7] (fun v i wr => ∃ (q : Nat) (F : Nat → Value), i = .int .i64 q ∧ v = .bool true ∧ q ≤ f.locals.length + 5 ∧ wr.rowIs bl 9 (f.locals.length + 5) F ∧ (∀ c, q ≤ c → F c = lendS f.locals c) ∧ Sp (fun k => k = bl) w2 wr) (fun _ i _ => f.locals.length + 5 - (intOf i).toNat)
  case atStart => exact ⟨0, _, rfl, rfl, Nat.zero_le _, row_kept HR.out.rl G2.out (by simp), fun _ _ => rfl, sp_refl _ _⟩
  case round =>
    obtain ⟨q, F, rfl, rfl, hq, hr, hF, hsp⟩ := hrel
    have R := Lib.hid hr
    have FF := Lib.hid hF
    have S := Lib.hid hsp
    have hy := boxF_sp Y2.out hsp (by omega)
    have hx := boxF_sp X2.out hsp (by omega)
    have b2 := cell_of_row wr _ 2 _ _ _ hy
    have b3 := cell_of_row wr _ 3 _ _ _ hy
    have a3 := cell_of_row wr _ 3 _ _ _ hx
    have al := (Array.getElem?_eq_some_iff.1 hx).1
    have bbl := (Array.getElem?_eq_some_iff.1 hy).1
    have nb : ¬ b0 + 1 = bl := by omega
    have nb2 : ¬ bl = b0 + 1 := fun e => nb e.symm
    by_cases hlt : (q : Int) < (f.locals.length : Int) + 5
    · have c0 := hr.cell (i := q) (by omega)
      rw [hF q (Nat.le_refl _)] at c0
      have z0 := hr.frozen q
      have l0 := hr.lt
      by_cases hlt2 : (q : Int) < (f.locals.length : Int)
      · have e0 : lendS f.locals q = .string (f.locals.getD q markS) := by unfold lendS; rw [if_pos (by omega)]
        rw [e0] at c0
        clear hr hF hsp hx hy e0
        go_wp2
        go_roundw
        case rel => exact ⟨q + 1, _, by go_num, rfl, by omega, R.out.set q _, fun c hc => by rw [if_neg (by omega)]; exact FF.out c (by omega), sp_set S.out rfl⟩
        case measure => simp [intOf]; omega
      · have e0 : lendS f.locals q = .string markS := by unfold lendS; rw [if_neg (by omega)]
        rw [e0] at c0
        clear hr hF hsp hx hy e0
        go_wp2
        go_roundw
        case rel => exact ⟨q + 1, _, by go_num, rfl, by omega, R.out.set q _, fun c hc => by rw [if_neg (by omega)]; exact FF.out c (by omega), sp_set S.out rfl⟩
        case measure => simp [intOf]; omega
    · clear hr hF hsp hx hy
      go_wp2
      obtain ⟨wo, hwo⟩ : ∃ wo, wo = wr := ⟨_, rfl⟩
      subst hwo
      go_loopw [5, 9] (fun v i wr => ∃ (q : Nat) (F : Nat → Value), i = .int .i64 q ∧ v = .bool true ∧ q ≤ f.parts.length + 67 ∧ wr.rowIs bp 108 ((f.parts.length + 67) * 3) F ∧ (∀ c, q * 3 ≤ c → F c = lendP f.parts c) ∧ Sp (PB bl bp) w2 wr) (fun _ i _ => f.parts.length + 67 - (intOf i).toNat)
      case atStart => exact ⟨0, _, rfl, rfl, Nat.zero_le _, row_sp (row_kept HR.out.rp G2.out (by simp)) S.out (fun e => hne e.symm), fun _ _ => rfl, sp_weaken S.out fun _ _ e => Or.inl e⟩
      case round =>
        obtain ⟨q, F2, rfl, rfl, hq, hr, hF, hsp⟩ := hrel
        have R2 := Lib.hid hr
        have FF2 := Lib.hid hF
        have S2 := Lib.hid hsp
        have hy := boxF_sp Y2.out hsp (by unfold PB; omega)
        have b3 := cell_of_row wr _ 3 _ _ _ hy
        have bbl := (Array.getElem?_eq_some_iff.1 hy).1
        have nb : ¬ b0 + 1 = bp := by omega
        have nb2 : ¬ bp = b0 + 1 := fun e => nb e.symm
        by_cases hlt : (q : Int) < (f.parts.length : Int) + 67
        · have c0 := hr.cell (i := q * 3) (by omega)
          have c1 := hr.cell (i := q * 3 + 1) (by omega)
          have c2 := hr.cell (i := q * 3 + 2) (by omega)
          have z0 := hr.frozen (q * 3)
          have z1 := hr.frozen (q * 3 + 1)
          have z2 := hr.frozen (q * 3 + 2)
          have l0 := hr.lt
          by_cases hlt2 : (q : Int) < (f.parts.length : Int)
          · clear hr hF hsp hy
            go_wp2
            go_roundw
            case rel => exact ⟨q + 1, _, by go_num, rfl, by omega, ((R2.out.set (q * 3) _).set (q * 3 + 1) _).set (q * 3 + 2) _, fun c hc => by rw [if_neg (by omega), if_neg (by omega), if_neg (by omega)]; exact FF2.out c (by omega), sp_set (sp_set (sp_set S2.out (Or.inr rfl)) (Or.inr rfl)) (Or.inr rfl)⟩
            case measure => simp [intOf]; omega
          · rw [hF _ (by omega)] at c0 c1 c2
            have e0 : lendP f.parts (q * 3) = .int .i64 (-9) := by unfold lendP markP; rw [if_neg (by omega), if_pos (by omega)]
            have e1 : lendP f.parts (q * 3 + 1) = .int .i64 q := by unfold lendP markP; rw [if_neg (by omega), if_neg (by omega), if_pos (by omega)]; congr 1; omega
            have e2 : lendP f.parts (q * 3 + 2) = .int .i64 0 := by unfold lendP markP; rw [if_neg (by omega), if_neg (by omega), if_neg (by omega)]
            rw [e0] at c0
            rw [e1] at c1
            rw [e2] at c2
            clear hr hF hsp hy e0 e1 e2
            go_wp2
            go_roundw
            case rel => exact ⟨q + 1, _, by go_num, rfl, by omega, ((R2.out.set (q * 3) _).set (q * 3 + 1) _).set (q * 3 + 2) _, fun c hc => by rw [if_neg (by omega), if_neg (by omega), if_neg (by omega)]; exact FF2.out c (by omega), sp_set (sp_set (sp_set S2.out (Or.inr rfl)) (Or.inr rfl)) (Or.inr rfl)⟩
            case measure => simp [intOf]; omega
        · clear hr hF hsp hy
          go_wp2
          go_ret
          exact ⟨rfl, sp_trans (sp_grown (P := PB bl bp) G2.out (by simp)) S2.out (fun _ _ h => h)⟩

end Go.Proofs.Ytecaolkbllbokaa.TG

namespace Go.Proofs.Ytecaolkbllbokaa.TG
open Go.RowKit Go.Great
set_option linter.unusedSimpArgs false
set_option linter.unusedVariables false

theorem slot_of {a : Act} {d : Nat} (hs : d < a.tmps.size) : a.tmps[d]? = some (a.tmps.getD d undef) := by
  rw [Array.getElem?_eq_getElem hs]; simp [hs]

theorem want_on {ops : Array Oper} {o : Oper} {a : Act} {k d : Nat} {b : Bool} (hg : o.guard = some (k, b)) (hk : (ops[k]?).bind (·.dst) = some d) (hs : d < a.tmps.size) (hv : a.tmps.getD d undef = .bool b) : Region.wanted o (yielded ops a.tmps) = true := by
  have h1 := slot_of hs
  rw [hv] at h1
  unfold Region.wanted
  rw [hg]
  simp [yielded, hk, h1]

theorem want_off {ops : Array Oper} {o : Oper} {a : Act} {k d : Nat} {b : Bool} (hg : o.guard = some (k, b)) (hk : (ops[k]?).bind (·.dst) = some d) (hs : d < a.tmps.size) (hv : a.tmps.getD d undef ≠ .bool b) : Region.wanted o (yielded ops a.tmps) = false := by
  have h1 := slot_of hs
  generalize a.tmps.getD d undef = v at *
  unfold Region.wanted
  rw [hg]
  simp only [yielded, hk, Option.bind_some, h1]
  cases v <;> simp
  intro e; exact hv (by rw [e])

section
variable {ops : Array Oper} {Q : Exit → Act → World → Prop} {a0 a : Act} {N n i : Nat} {dst : Nat → Nat} {val : Nat → Value} {l : Array Bool} {w w' : World} {WS : Array Bool → World → Prop} {o : Oper}

theorem rg_on (hJ : RJ a0 N n dst val l a) (ho : ops[i]? = some o) (hw : Region.wanted o (yielded ops a.tmps) = true) (hdst : o.dst = some (dst i)) (hi : i < n) (hd : dst i < N) (hne : ∀ j, j < n → j ≠ i → dst j ≠ dst i) (hrun : (execOp a.eval o).run Try.prog w = .ok (.value (val i)) w') (hW : WS (l.setIfInBounds i true) w') :
    wpOp Try.prog ops Q i (fun a' w'' => RJ a0 N n dst val (l.setIfInBounds i true) a' ∧ WS (l.setIfInBounds i true) w'') a w := by
  unfold wpOp
  simp only [ho]
  rw [if_pos hw]
  refine Or.inl ?_
  unfold Oper.wp
  rw [hrun, Oper.upon_value, hdst]
  exact ⟨rj_put hJ hi hd hne, hW⟩

theorem rg_off (hJ : RJ a0 N n dst val l a) (ho : ops[i]? = some o) (hw : Region.wanted o (yielded ops a.tmps) = false) (hdst : o.dst = some (dst i)) (hi : i < n) (hd : dst i < N) (hne : ∀ j, j < n → j ≠ i → dst j ≠ dst i) (hv : val i = undef) (hW : WS (l.setIfInBounds i true) w) :
    wpOp Try.prog ops Q i (fun a' w'' => RJ a0 N n dst val (l.setIfInBounds i true) a' ∧ WS (l.setIfInBounds i true) w'') a w := by
  unfold wpOp
  simp only [ho]
  rw [if_neg (by rw [hw]; exact Bool.false_ne_true), hdst, ← hv]
  exact ⟨rj_put hJ hi hd hne, hW⟩

theorem rg_call (hJ : RJ a0 N n dst val l a) (ho : ops[i]? = some o) (hw : Region.wanted o (yielded ops a.tmps) = true) (hdst : o.dst = some (dst i)) (hi : i < n) (hd : dst i < N) (hne : ∀ j, j < n → j ≠ i → dst j ≠ dst i) {f : FuncId} {args : Array Value} (hrun : (execOp a.eval o).run Try.prog w = .ok (.enter f args) w)
    (hc : Calls Try.prog f args w fun e w'' => e = .returned (val i) ∧ WS (l.setIfInBounds i true) w'') :
    wpOp Try.prog ops Q i (fun a' w'' => RJ a0 N n dst val (l.setIfInBounds i true) a' ∧ WS (l.setIfInBounds i true) w'') a w := by
  unfold wpOp
  simp only [ho]
  rw [if_pos hw]
  refine Or.inl ?_
  unfold Oper.wp
  rw [hrun]
  simp only [Oper.upon]
  refine hc.mono fun e w' he => ?_
  obtain ⟨rfl, hK⟩ := he
  show _ ∧ _
  rw [hdst]
  exact ⟨rj_put hJ hi hd hne, hK⟩
end

/-- The worlds on the way: ahead of the call number c, and behind it. -/
structure WSc (c n : Nat) (P : Nat → Prop) (W : World) (l : Array Bool) (w : World) : Prop where
  sz : l.size = n
  h0 : l.getD c false = false → w = W
  h1 : l.getD c false = true → Sp P W w

theorem wc_start (c n : Nat) (P : Nat → Prop) (W : World) : WSc c n P W (Array.replicate n false) W :=
  ⟨by simp, fun _ => rfl, (fun h => by rw [getD_replicate_false] at h; cases h)⟩
theorem wc_sp {c n : Nat} {P : Nat → Prop} {W w : World} {l : Array Bool} (h : WSc c n P W l w) : Sp P W w := by
  cases e : l.getD c false with
  | false => rw [h.h0 e]; exact sp_refl _ _
  | true => exact h.h1 e
theorem wc_same {c n i : Nat} {P : Nat → Prop} {W w : World} {l : Array Bool} (h : WSc c n P W l w) (hi : i ≠ c) : WSc c n P W (l.setIfInBounds i true) w := by
  have hg : (l.setIfInBounds i true).getD c false = l.getD c false := by
    simp [Array.getD_eq_getD_getElem?, Array.getElem?_setIfInBounds_ne hi]
  exact ⟨by simp [h.sz], fun e => h.h0 (by rw [← hg]; exact e), fun e => h.h1 (by rw [← hg]; exact e)⟩
theorem wc_call {c n : Nat} {P : Nat → Prop} {W w : World} {l : Array Bool} (hs : l.size = n) (hc : c < n) (h : Sp P W w) : WSc c n P W (l.setIfInBounds c true) w :=
  ⟨by simp [hs], (fun e => by rw [getD_set l c c (by omega), if_pos rfl] at e; cases e), fun _ => h⟩

end Go.Proofs.Ytecaolkbllbokaa.TG
