import Derived.Test.YtecaolkbllbokaaMT10
import Derived.Test.YtecaolkbllbokaaMT04
import Derived.Lib.Hide
import Derived.OwnWalk
import Derived.Laws.CopyRow
import Derived.Deep.OwnRows
import Derived.Laws.ResultCell
import Derived.Deep.RegionHeld3
import Derived.BigQuiet
import Derived.Laws.BytesArg
import Derived.Test.YtecaolkbllbokaaMT09
set_option linter.unusedSimpArgs false
set_option linter.unusedVariables false
set_option maxRecDepth 100000
set_option maxHeartbeats 16000000
namespace Go.Proofs.Ytecaolkbllbokaa.TG
open Go.RowKit Go.Great
theorem Ymt : Try.prog.underlying 111 = some (.slice 180) := by kernel_rfl
theorem Yhe : (Try.prog.info? 180).map (fun i => (i.zero, i.size, i.bytes)) = some (some (.agg #[.int .i64 0, .slice none 0 0]), 2, 32) := by kernel_rfl
theorem Ycw (x : Int) : ∀ u ∈ [Value.int .i64 x, .slice none 0 0], u.oneCell' = true := by
 intro u hu; simp at hu; rcases hu with rfl | rfl <;> rfl
theorem Zm {w : World} {base : Nat} {e : TypeId} {size n : Nat} {v : Value} {xs : List Value} (h : w.ownsRow base e size v n xs) : ∃ (p : Option Addr) (cap : Nat), v = .slice p n cap := by
 rcases h.2 with ⟨rfl, rfl⟩ | ⟨g, cap, cur, hv, _⟩
 · exact ⟨_, _, rfl⟩
 · exact ⟨_, _, hv⟩
theorem Ylo {c : Cx} {w w1 : World} {s : Stt} {o : Obj} (h : AtS c w s) (gr : (w.alloc o).grownBy w1 s.vlo.ownBlock) : w1.cell? ⟨c.Bd, 8, none⟩ = some s.vlo /\ w1.frozen? ⟨c.Bd, 8, none⟩ = false /\ c.Bd < w1.heap.size := by
 have hb := Zu (Zu h.code.box (Ga w o none) (by simp)) gr (Zan h.lrow h.code.lt)
 exact ⟨Cq w1 c.Bd 8 _ _ _ hb, frozen_of_row w1 c.Bd 8 _ _ hb, (Gs hb)⟩
theorem Ypg {c : Cx} {s s' : Stt} {p k b : Nat} (h : Bud c s p k) (e : s'.abs = s.abs.push b) : Bud c s' p k := by
 have := (Zft e).1
 have e2 : (s.abs.push b).out.length = s.out.length := rfl
 unfold Bud at *; omega
theorem Zzp {s s' : Stt} {b : Nat} (e : s'.abs = s.abs.push b) : s'.out.length = s.out.length /\ s'.L.length = s.L.length + 1 := by
 have := Zft e
 have e2 : (s.abs.push b).out.length = s.out.length := rfl
 have e3 : (s.abs.push b).V.length = s.L.length + 1 := by simp [PS.push, Stt.abs]
 omega
theorem Ynx {c : Cx} {g p q a b : Nat} {w w' : World} {x : Int × Int} {s1 s2 s3 s4 : Stt} (e : s2.abs = s1.abs.emit a x) (e2 : s3.abs = s2.abs.push b) (h : Yee c g w s3 p w' s4 q) : s1.out.length < s4.out.length := by
 have := Zee e; have := (Zzp e2).1; have := h.lo; omega
theorem Ytt {α : Type} {L : List α} {n : Nat} (h : L.length = n + 1) : ∃ (L0 : List α) (l : α), L = L0 ++ [l] /\ L0.length = n := by
 have hne : L ≠ [] := by intro e; subst e; cases h
 refine ⟨L.dropLast, L.getLast hne, (List.dropLast_concat_getLast hne).symm, by simp; omega⟩
theorem Zkz : ∀ (l l' : List Nat) (s : PS), PS.marks s (l ++ l') = PS.marks (PS.marks s l) l'
 | [], l', s => rfl
 | x :: r, l', s => Zkz r l' (s.mark x)
theorem Yev {F : Fw} {s s1 s2 s3 s4 s5 s6 s7 s8 : PS} {a p1 p2 : Nat} {b : Nat} {js : List Nat} {r : List (Nat × List Nat)} (h1 : F s (a + 1) = (s1, p1)) (h2 : s2 = s1.emit a (15, 0)) (h3 : s3 = s2.push s.out.length) (h4 : F s3 p1 = (s4, p2)) (h5 : s5 = s4.emit a (14, (s.out.length : Int))) (h6 : s6 = s5.mark s1.out.length)
 (h7 : s7 = s6.pop) (hV : s6.V = (b, js) :: r) (h8 : s8 = PS.marks s7 js) : Ziu F s a = (s8, p2) := by
 subst h2; subst h3; subst h5; subst h6; subst h7; subst h8
 unfold Ziu Yek
 rw [h1, h4]
 have hV' : s4.V = (b, js) :: r := hV
 simp [hV']
structure Ypq (c : Cx) (w9 : World) (s9 : Stt) (l : Lp) (q : Nat) (wr : World) (sr : Stt) : Prop where
 go : Go c w9 s9 wr sr
 eq : sr.abs = PS.marks s9.abs ((l.cls.map fun x => x.2.2).take q)
 ends : Ypr c wr sr l
 jl : ∀ x ∈ l.cls, x.2.2 < sr.out.length
 len : sr.out.length = s9.out.length
 le : q <= l.cls.length
theorem Ydi {c : Cx} {w9 wr w' : World} {s9 sr s' : Stt} {l : Lp} {q : Nat} (h : Ypq c w9 s9 l q wr sr) (hq : q < l.cls.length) (g : Go c wr sr w' s') (e : s'.abs = sr.abs.mark l.cls[q].2.2) (hE : Ypr c w' s' l) : Ypq c w9 s9 l (q + 1) w' s' := by
 have hl := Zrp e
 refine ⟨Zo h.go g, ?_, hE, fun x hx => by rw [hl]; exact h.jl x hx, by rw [hl]; exact h.len, hq⟩
 rw [List.take_succ_eq_append_getElem (by simpa using hq), Zkz, <- h.eq, e]
 simp [PS.marks]
theorem Yiv {c : Cx} {w : World} {s : Stt} {l : Lp} (h : Ypr c w s l) {p : Option Addr} {cap : Nat} (hv : l.ends = .slice p l.cls.length cap) {q : Nat} (hq : q < l.cls.length) : ∃ ge : Nat, p = some ⟨ge, 0, none⟩ /\ w.cell? ⟨ge, q, none⟩ = some (Yen l.cls[q]) /\ ge < w.heap.size := by
 have ho := h.own
 obtain ⟨m, hm⟩ : ∃ m, l.cls.length = m + 1 := ⟨l.cls.length - 1, by omega⟩
 obtain ⟨ge, cap', hv'⟩ := Yk (n := m) (by rw [<- hm]; exact ho)
 rw [hv'] at hv
 injection hv with e1 e2 e3
 subst e1
 refine ⟨ge, rfl, ?_, ?_⟩
 · have := ho.2
   rw [hv', <- hm] at ho
   rw [ho.cellAt q (by omega), List.getElem?_map, List.getElem?_eq_getElem hq]; rfl
 · have := (ho.lt ge (by rw [hv']; rfl)).2; exact this
structure Xcx (c : Cx) (w6 w9 : World) (s6 s7 : Stt) (l : Lp) : Prop where
 go : Go c w6 s6 w9 s7
 abs : s7.abs = s6.abs.pop
 ends : Ypr c w9 s7 l
 jl : ∀ x ∈ l.cls, x.2.2 < s7.out.length
theorem Yeu {c : Cx} (ok : Zhj c) {w : World} {s : Stt} (h : AtS c w s) {L0 : List Lp} {l : Lp} (hL : s.L = L0 ++ [l]) {g cap m : Nat} (hv : s.vlo = .slice (some ⟨g, 0, none⟩) s.L.length cap) (hm : L0.length = m) (o : Obj) :
 ∃ s7, Xcx c w (((w.setCell ⟨c.Bd, 8, none⟩ (.slice (some ⟨g, 0, none⟩) m cap)).alloc o).drew.drew) s s7 l := by
 subst hm
 have hml : l ∈ s.L := by rw [hL]; simp
 obtain ⟨s7, g7, a7, -, e1, e2⟩ := Yyr ok h hL hv (by rw [hL]; simp)
 have gr : (w.setCell ⟨c.Bd, 8, none⟩ (.slice (some ⟨g, 0, none⟩) L0.length cap)).grownBy (((w.setCell ⟨c.Bd, 8, none⟩ (.slice (some ⟨g, 0, none⟩) L0.length cap)).alloc o).drew.drew) none := Zf (Zf (Ga _ o none))
 refine ⟨s7, Zo g7 (Zfo ok g7.at_ gr), a7, ?_, ?_⟩
 · exact Zyd (s := s7) (Yvc h hml _ e1 e2) (Zl gr (by simp)) rfl rfl
 · intro x hx
   have h1 := h.inv.js l.abs (by show l.abs ∈ (s.L.map Lp.abs).reverse; rw [List.mem_reverse]; exact List.mem_map_of_mem hml) x.2.2 (List.mem_map_of_mem hx)
   have h2 := (Zft a7).1
   have h3 : s.abs.pop.out.length = s.out.length := rfl
   have h4 : s.abs.out.length = s.out.length := rfl
   omega
theorem Zki {w : World} {base : Nat} {e : TypeId} {size n g cap : Nat} {xs : List Value} (h : w.ownsRow base e size (.slice (some ⟨g, 0, none⟩) n cap) n xs) : n <= cap /\ cap <= 9223372036854775807 := by
 rcases h.2 with ⟨h1, _⟩ | ⟨g', cap', cur, hv, _, _, hn, hm, _⟩
 · cases h1
 · injection hv with _ _ e3; subst e3; unfold maxLen at hm; exact ⟨hn, hm⟩
theorem Ymz {s2 : Stt} {m : Nat} (h : s2.L.length = m) (hm : m <= 1000) : s2.L.length + 1 <= maxLen /\ (s2.L.length + 1) * 32 <= 140737488355328 := by unfold maxLen; omega
theorem Zfh {E : Nat} {w : World} (h : E <= w.heap.size) (o : Obj) : E <= (w.alloc o).heap.size := by simp; omega
theorem Yew (c : Cx) (ok : Zhj c) (g : Nat) (hI : Yrd c g) (s : Stt) (at_ : Nat) (w : World) (hja : at_ < c.ps.length) (hLm : s.L.length <= 1000) (h1 : okP c.ts.length c.ps g s.L.length (at_ + 1)) (h2 : okP c.ts.length c.ps g (s.L.length + 1) (Xc c.ps g (at_ + 1)))
 (h : AtS c w s) (hb : s.out.length + 8 * (c.ps.length - at_) + 8 <= 1000000000000) :
 Calls Try.prog 76 #[.pointer (some ⟨c.Bd, 0, none⟩), .int .i64 at_] w (WP c w s (Ziu (Yx c.ts c.ps g) s.abs at_)) := by
 have hji : (at_ : Int) < (c.ps.length : Int) := by omega
 have hnp := ok.np
 have B0 := Hq (Zhd hb hja)
 have hw := Xy ok hI h1 h (Zih B0.out)
 rw [show ((at_ + 1 : Nat) : Int) = (at_ : Int) + 1 from rfl] at hw
 have W1 := Hq hw
 have H2 := Hq h2
 have HI := Hq hI
 obtain ⟨po, co, hvo⟩ := Zm h.code.out
 have c6 : w.cell? ⟨c.Bd, 6, none⟩ = some (.slice po s.out.length co) := by have := Yo h.code 6; rw [hvo] at this; exact this
 have ld := Zfs h
 obtain ⟨i0, hi, hz0, hz1, hz2⟩ := info_parts Yhe
 clear hw h1 h2 h hb hI hvo
 go_enter Try.func76, Try.ntmps76
 go_wp2_with (first
  | (go_at_call 43; refine W1.out.mono ?_; clear W1; intro e w1 hq; obtain ⟨s1, q1, rfl, g1⟩ := hq; have G1 := Hq g1; have B1 := Hq (Zaw B0.out g1); have E1 := Hq (Zcy ok g1.go.at_ (Jn B1.out) at_ 15 0); clear g1)
  | (go_at_call 44; refine E1.out.mono ?_; clear E1; intro e w2 hq; obtain ⟨rfl, s2, g2, a2, l2, v2⟩ := hq; have G2 := Hq g2; have A2 := Hq a2; have B2 := Hq (Zbr B1.out a2); have L2 := Hq ((congrArg List.length l2).trans G1.out.L); have c8 : w2.cell? ⟨c.Bd, 8, none⟩ = some s2.vlo := Yo g2.at_.code 8; have ld2 := Zfs g2.at_; have LM := Ymz L2.out hLm; obtain ⟨hc3, hc4⟩ := LM; clear g2 a2 l2 v2)
  | (at_builtin; refine wpList_append_own_at _ rfl _ _ 111 rfl c.E 180 i0 (.agg #[.int .i64 0, .slice none 0 0]) 2 32 Ymt hi hz0 hz1 hz2 rfl (by decide) _ _ _ rfl (G2.out.at_.lrow.alloc _) ⟨w2.heap.size, 0, none⟩ 1 1 [.int .i64 s.out.length, .slice none 0 0] rfl rfl (Zjy w2 _ _ _) (Ycw _) hc3 hc4 (Zfh G2.out.at_.code.le _) ?_; intro v1 w3 hown3 hgr3 hnil3 hat3; obtain ⟨g3, k3, hv3⟩ := Yk hown3; subst hv3; have PM := Ylo G2.out.at_ hgr3; obtain ⟨d8, z8, ld3⟩ := PM; have PU := Yut ok G2.out.at_ hown3 hgr3 hat3; obtain ⟨s3, go3, a3, v3, l3⟩ := PU; have G3 := Hq go3; have A3 := Hq a3; have B3 := Hq (Ypg B2.out a3); have L3 := Hq ((Zzp a3).2.trans (congrArg (· + 1) L2.out)); have W4 := Hq (Xy ok HI.out (Zjf H2.out G1.out.sk L3.out) go3.at_ (Zih B3.out)); clear hown3 hgr3 hnil3 hat3 go3 a3 v3 l3)
  | (go_at_call 43; refine W4.out.mono ?_; clear W4; intro e w4 hq; obtain ⟨s4, q2, rfl, g4⟩ := hq; have G4 := Hq g4; have B4 := Hq (Zaw B3.out g4); have E5 := Hq (Zcy ok g4.go.at_ (Jn B4.out) at_ 14 s.out.length); clear g4)
  | (go_at_call 44; refine E5.out.mono ?_; clear E5; intro e w5 hq; obtain ⟨rfl, s5, g5, a5, l5, v5⟩ := hq; have G5 := Hq g5; have A5 := Hq a5; have B5 := Hq (Zbr B4.out a5); have L5 := Hq ((congrArg List.length l5).trans (G4.out.L.trans L3.out)); have M6 := Hq (Zht ok g5.at_ (Jn B5.out) (Zsa (Ynx A2.out A3.out G4.out) a5)); clear g5 a5 l5 v5)
  | (go_at_call 97; refine M6.out.mono ?_; clear M6; intro e w6 hq; obtain ⟨⟨v6, rfl⟩, s6, g6, a6, l6, v6'⟩ := hq; have G6 := Hq g6; have A6 := Hq a6; have B6 := Hq (Zsm B5.out a6); have L6 := Hq ((congrArg List.length l6).trans L5.out); clear g6 a6 l6 v6'))
 obtain ⟨L0, l, hL6, hL0⟩ := Ytt L6.out
 have HL6 := Hq hL6
 have hl6 : s6.L[s.L.length]? = some l := by rw [hL6, List.getElem?_append_right (by omega)]; simp [hL0]
 obtain ⟨g6, cap6, hv6, -⟩ := Zpr G6.out.at_ (by rw [L6.out]; omega)
 have LC6 := Hq (Zev G6.out.at_ hv6 hl6)
 obtain ⟨c8, m0, m1, mz, mg⟩ := LC6.out
 rw [L6.out] at c8
 have ld6 := Zfs G6.out.at_
 obtain ⟨pe, ce, hve⟩ := Zm (G6.out.at_.lend l (by rw [hL6]; simp))
 rw [hve] at m1
 have HVE := Hq hve
 clear hve
 have z8 := Zyi G6.out.at_.code 8
 have hcl : l.cls.length <= 1000000000000 := Nat.le_trans (Yah G6.out.at_ hl6) (Jn B6.out)
 have hcap := Zki (by have := G6.out.at_.lrow; rw [hv6] at this; exact this)
 rw [L6.out] at hcap
 obtain ⟨hcap1, hcap2⟩ := hcap
 have HV6 := Hq hv6
 clear hL6 hl6 ld hv6
 go_region
 go_wp2
 go_region
 go_wp2
 have PP := Yeu ok G6.out.at_ HL6.out HV6.out hL0 (.cells #[.int .i64 l.beg, .slice pe l.cls.length ce] 180)
 obtain ⟨s7, hpop⟩ := PP
 have P7 := Hq hpop
 have K0 := Hq (show Ypq c _ s7 l 0 _ s7 from ⟨Yii hpop.go.at_, rfl, hpop.ends, hpop.jl, rfl, Nat.zero_le _⟩)
 have B7 := Hq (show s7.out.length <= 1000000000000 by have h1 := Jn B6.out; have h2 := (Zft hpop.abs).1; have h3 : s6.abs.pop.out.length = s6.out.length := rfl; omega)
 clear hpop c8 m0 m1 mz mg ld6 z8
 generalize (((w6.setCell ⟨c.Bd, 8, none⟩ (.slice (some ⟨g6, 0, none⟩) s.L.length cap6)).alloc (.cells #[.int .i64 l.beg, .slice pe l.cls.length ce] 180)).drew.drew) = w9 at *
 go_loopw [74] (fun i wr => ∃ (q : Nat) (sr : Stt), i = .int .i64 q /\ Ypq c w9 s7 l q wr sr) (fun i _ => l.cls.length - (intOf i).toNat)
 case atStart => exact ⟨0, s7, rfl, K0.out⟩
 case round =>
  obtain ⟨q, sr, rfl, hF⟩ := hrel
  have FF := Hq hF
  have hqle := hF.le
  clear hF
  by_cases hlt : (q : Int) < (l.cls.length : Int)
  · have hq : q < l.cls.length := by omega
    obtain ⟨ge, rfl, hce, hge⟩ := Yiv FF.out.ends HVE.out hq
    obtain ⟨pr, cr, hvr⟩ := Zm FF.out.go.at_.code.out
    have c6r : wr.cell? ⟨c.Bd, 6, none⟩ = some (.slice pr sr.out.length cr) := by have := Yo FF.out.go.at_.code 6; rw [hvr] at this; exact this
    have ldr := Zfs FF.out.go.at_
    have FA := Hq (Yvb ok FF.out.go.at_ (by rw [FF.out.len]; exact B7.out) FF.out.ends (List.getElem_mem hq) (FF.out.jl _ (List.getElem_mem hq)))
    unfold Yen at hce
    clear hvr
    go_wp2_with (go_at_call 98; refine FA.out.mono ?_; intro e w7 hp; obtain ⟨⟨v7, rfl⟩, s8, g8, a8, l8, v8, e8⟩ := hp; have G8 := Hq g8; have A8 := Hq a8; have E8 := Hq e8; clear g8 a8 l8 v8 e8)
    go_roundw
    case rel => exact ⟨q + 1, s8, by go_num, Ydi FF.out hq G8.out A8.out E8.out⟩
    case measure => simp [intOf]; omega
  · have hq : q = l.cls.length := by omega
    subst hq
    go_wp2
    go_ret
    have hV : s6.abs.V = (l.beg, l.cls.map fun x => x.2.2) :: (L0.map Lp.abs).reverse := by
     show (s6.L.map Lp.abs).reverse = _
     rw [HL6.out]; simp [Lp.abs]
    have h8 := FF.out.eq
    rw [List.take_of_length_le (by simp)] at h8
    rw [Yev G1.out.eq A2.out A3.out G4.out.eq A5.out A6.out P7.out.abs hV h8]
    exact ⟨rfl, _, Zo (Zo (Zo (Zo (Zo (Zo (Zo G1.out.go G2.out) G3.out) G4.out.go) G5.out) G6.out) P7.out.go) FF.out.go, rfl⟩
theorem Zc {w w' : World} {b : Nat} {o : Obj} {row : Option Nat} (h : w.heap[b]? = some o) (g : w.grownBy w' row) (hr : row ≠ some b) : w'.heap[b]? = some o := by
 rw [g.block b (Gs h) (fun e => hr e.symm)]; exact h
theorem Yjl : Try.prog.underlying 29 = some (.slice 5) := by kernel_rfl
theorem Zvw (b o j : Nat) : (⟨b, o, none⟩ : Addr).add j = ⟨b, o + j, none⟩ := by unfold Addr.add; split <;> simp_all
theorem Ylb : Try.prog.underlying 66 = some (.slice 9) := by kernel_rfl
theorem Ygi : Try.prog.underlying 67 = some (.slice 108) := by kernel_rfl
theorem Yfe : Try.prog.underlying 22 = some (.slice 65) := by kernel_rfl
theorem Yuy : Try.prog.underlying 23 = some (.slice 69) := by kernel_rfl
structure Xcd (u : Un) : Prop where
 nt : u.texts.length <= 1000000000000
 nf : u.funcs.length <= 1000000000000
 t : ∀ x ∈ u.texts, x.2.length <= 1000000000000
 f : ∀ f ∈ u.funcs, f.locals.length <= 1000000000000 /\ f.parts.length <= 1000000000000
theorem Yjk : Try.prog.underlying 5 = some (.int .u8) := by kernel_rfl
theorem Zqr : Try.prog.underlying 9 = some .string := by kernel_rfl
theorem Zvt (c : Cx) (ok : Zhj c) (g : Nat) (hI : Yrd c g) (s : Stt) (at_ : Nat) (w : World) (n : Int) (hp : c.ps[at_]? = some (5, n, 3)) (h1 : okP c.ts.length c.ps g s.L.length (at_ + 1)) (h2 : okP c.ts.length c.ps g s.L.length (Xc c.ps g (at_ + 1)))
 (h3 : okP c.ts.length c.ps g s.L.length (Xc c.ps g (Xc c.ps g (at_ + 1)))) (h : AtS c w s) (hb : s.out.length + 8 * (c.ps.length - at_) + 8 <= 1000000000000) :
 Calls Try.prog 75 #[.pointer (some ⟨c.Bd, 0, none⟩), .int .i64 at_] w (WP c w s (Jo (Yx c.ts c.ps g) 3 s.abs at_)) := by
 have hja : at_ < c.ps.length := (List.getElem?_eq_some_iff.1 hp).1
 obtain ⟨bp, op, hpp⟩ := Zmy h hja
 have hji : (at_ : Int) < (c.ps.length : Int) := by omega
 have hnp := ok.np
 have B0 := Hq (Zhd hb hja)
 have hw := Xy ok hI h1 h (Zih B0.out)
 rw [show ((at_ + 1 : Nat) : Int) = (at_ : Int) + 1 from rfl] at hw
 have W1 := Hq hw
 have HP := Hq hp
 have H2 := Hq h2
 have H3 := Hq h3
 have HI := Hq hI
 clear hw hp h1 h2 h3 h hb hI
 go_enter Try.func75, Try.ntmps75
 go_wp2_with (first
  | (go_at_call 43; refine W1.out.mono ?_; clear W1; intro e w1 hq; obtain ⟨s1, q1, rfl, g1⟩ := hq; have G1 := Hq g1; have B1 := Hq (Zaw B0.out g1); have E1 := Hq (Zcy ok g1.go.at_ (Jn B1.out) at_ 15 0); clear g1)
  | (go_at_call 44; refine E1.out.mono ?_; clear E1; intro e w2 hq; obtain ⟨rfl, s2, g2, a2, l2, v2⟩ := hq; have G2 := Hq g2; have A2 := Hq a2; have B2 := Hq (Zbr B1.out a2); have L2 := Hq ((congrArg List.length l2).trans G1.out.L); have W2 := Hq (Xy ok HI.out (Zjf H2.out G1.out.sk L2.out) g2.at_ (Zih B2.out)); clear g2 a2 l2 v2)
  | (go_at_call 43; refine W2.out.mono ?_; clear W2; intro e w3 hq; obtain ⟨s3, q2, rfl, g3⟩ := hq; have G3 := Hq g3; have B3 := Hq (Zaw B2.out g3); have E4 := Hq (Zcy ok g3.go.at_ (Jn B3.out) at_ 14 0); obtain ⟨c5, p0, p1, p2, lb, ld⟩ := Zde g3.go.at_ hpp HP.out; clear g3 p0 p1)
  | (go_at_call 44; refine E4.out.mono ?_; clear E4; intro e w4 hq; obtain ⟨rfl, s4, g4, a4, l4, v4⟩ := hq; have G4 := Hq g4; have A4 := Hq a4; have B4 := Hq (Zbr B3.out a4); have L4 := Hq ((congrArg List.length l4).trans G3.out.L); have M5 := Hq (Zht ok g4.at_ (Jn B4.out) (Zsa (Zxq A2.out G3.out) a4)); clear g4 a4 l4 v4)
  | (go_at_call 97; refine M5.out.mono ?_; clear M5; intro e w5 hq; obtain ⟨⟨v5, rfl⟩, s5, g5, a5, l5, v5'⟩ := hq; have G5 := Hq g5; have A5 := Hq a5; have B5 := Hq (Zsm B4.out a5); have W6 := Hq (Xy ok HI.out (Zjf H3.out (G3.out.sk.trans (congrArg _ G1.out.sk)) ((congrArg List.length l5).trans (L4.out.trans L2.out))) g5.at_ (Zih B5.out)); clear g5 a5 l5 v5')
  | (go_at_call 43; refine W6.out.mono ?_; clear W6; intro e w6 hq; obtain ⟨s6, q3, rfl, g6⟩ := hq; have G6 := Hq g6; have B6 := Hq (Zaw B5.out g6); have M7 := Hq (Zht ok g6.go.at_ (Jn B6.out) (Ynz A4.out A5.out g6)); clear g6)
  | (go_at_call 97; refine M7.out.mono ?_; clear M7; intro e w7 hq; obtain ⟨⟨v7, rfl⟩, s7, g7, a7, l7, v7'⟩ := hq; have G7 := Hq g7; have A7 := Hq a7; clear g7 a7 l7 v7'))
 go_ret
 rw [Yph G1.out.eq A2.out G3.out.eq A4.out A5.out G6.out.eq A7.out]
 exact ⟨rfl, _, Zo (Zo (Zo (Zo (Zo (Zo G1.out.go G2.out) G3.out.go) G4.out) G5.out) G6.out.go) G7.out, rfl⟩
def Zpi : Nat -> List (Int × Int)
 | 0 => []
 | q + 1 => Zpi q ++ [(3, 0), (31, 0)]
theorem Zlf : ∀ (l l' : List (Int × Int)) (s : PS) (a : Nat), PS.emits s a (l ++ l') = PS.emits (PS.emits s a l) a l'
 | [], l', s, a => rfl
 | x :: r, l', s, a => Zlf r l' (s.emit a x) a
structure Zza (c : Cx) (w3 : World) (s3 : Stt) (p a : Nat) (q : Nat) (wr : World) (sr : Stt) : Prop where
 go : Go c w3 s3 wr sr
 eq : sr.abs = PS.emits s3.abs a (Zpi q)
 bud : Bud c sr p (3 + 2 * (2 - q))
 le : q <= 2
theorem Ydn {c : Cx} {w3 wr w1 w2 : World} {s3 sr s1 s2 : Stt} {p a q : Nat} (h : Zza c w3 s3 p a q wr sr) (hq : q < 2) (g1 : Go c wr sr w1 s1) (e1 : s1.abs = sr.abs.emit a (3, 0)) (g2 : Go c w1 s1 w2 s2) (e2 : s2.abs = s1.abs.emit a (31, 0)) : Zza c w3 s3 p a (q + 1) w2 s2 := by
 refine ⟨Zo (Zo h.go g1) g2, ?_, ?_, by omega⟩
 · rw [Zpi, Zlf, <- h.eq, e2, e1]; rfl
 · have := h.bud
   refine Zbr (Zbr (k := 3 + 2 * (2 - (q + 1)) + 1) ?_ e1) e2
   rw [show 3 + 2 * (2 - (q + 1)) + 1 + 1 = 3 + 2 * (2 - q) by omega]; exact this
theorem Ydo {c : Cx} {w3 wr : World} {s3 sr s1 : Stt} {p a q : Nat} (h : Zza c w3 s3 p a q wr sr) (e1 : s1.abs = sr.abs.emit a (3, 0)) : Bud c s1 p (2 + 2 * (2 - q)) := by
 have := h.bud
 refine Zbr ?_ e1
 rw [show 2 + 2 * (2 - q) + 1 = 3 + 2 * (2 - q) by omega]; exact this
theorem Yos {c : Cx} (ok : Zhj c) {w3 wr w1 : World} {s3 sr s1 : Stt} {p a q : Nat} (h : Zza c w3 s3 p a q wr sr) (g1 : Go c wr sr w1 s1) (e1 : s1.abs = sr.abs.emit a (3, 0)) :
 Calls Try.prog 44 #[.pointer (some ⟨c.Bd, 0, none⟩), .int .i64 a, .int .i64 31, .int .i64 0] w1 fun e w' => e = .returned (.int .i64 s1.out.length) /\ ∃ s', Go c w1 s1 w' s' /\ s'.abs = s1.abs.emit a (31, 0) /\ s'.L = s1.L /\ s'.vlo = s1.vlo :=
 Zcy ok g1.at_ (Jn (Ydo h e1)) a 31 0
theorem Yor {c : Cx} {w3 wr : World} {s3 sr : Stt} {p a q : Nat} (h : Zza c w3 s3 p a q wr sr) {j : Nat} (hj : j < s3.out.length) : j < sr.out.length := by
 have h1 := (Zdu (Zpi q) a (s := s3.abs))
 have h2 := (Zft h.eq).1
 have h3 : ∀ (l : List (Int × Int)) (s : PS), s.out.length <= (PS.emits s a l).out.length := by
  intro l
  induction l with
  | nil => exact fun s => Nat.le_refl _
  | cons x r ih => exact fun s => Nat.le_trans (by simp [PS.emit]) (ih (s.emit a x))
 have h4 := h3 (Zpi q) s3.abs
 have h5 : s3.abs.out.length = s3.out.length := rfl
 omega
theorem Yny {a : Nat} {x y : Int × Int} {s7 s8 s9 s10 : Stt} {j : Nat} (e8 : s8.abs = s7.abs.emit a x) (e9 : s9.abs = s8.abs.mark j) (e10 : s10.abs = s9.abs.emit a y) : s7.out.length < s10.out.length := by
 have := Zee e8; have := Zrp e9; have := Zee e10; omega
theorem Yot {F : Fw} {jump alone : Int} {s s1 s2 s3 s7 s8 s9 s10 s11 : PS} {a p1 p2 : Nat} (h1 : F s (a + 1) = (s1, p1)) (h2 : s2 = s1.emit a (jump, 0)) (h3 : F s2 p1 = (s3, p2)) (h7 : s7 = PS.emits s3 a (Zpi 2))
 (h8 : s8 = s7.emit a (14, 0)) (h9 : s9 = s8.mark s1.out.length) (h10 : s10 = s9.emit a (3, alone)) (h11 : s11 = s10.mark s7.out.length) : Zcg F jump alone s a = (s11, p2) := by
 subst h2; subst h7; subst h8; subst h9; subst h10; subst h11
 unfold Zcg
 rw [h1, h3]
 rfl
theorem Zqc (c : Cx) (ok : Zhj c) (g : Nat) (hI : Yrd c g) (s : Stt) (at_ : Nat) (w : World) (jump alone : Int) (hja : at_ < c.ps.length) (h1 : okP c.ts.length c.ps g s.L.length (at_ + 1)) (h2 : okP c.ts.length c.ps g s.L.length (Xc c.ps g (at_ + 1)))
 (h : AtS c w s) (hb : s.out.length + 8 * (c.ps.length - at_) + 8 <= 1000000000000) :
 Calls Try.prog 78 #[.pointer (some ⟨c.Bd, 0, none⟩), .int .i64 at_, .int .i64 jump, .int .i64 alone] w (WP c w s (Zcg (Yx c.ts c.ps g) jump alone s.abs at_)) := by
 have hji : (at_ : Int) < (c.ps.length : Int) := by omega
 have hnp := ok.np
 have B0 := Hq (Zhd hb hja)
 have hw := Xy ok hI h1 h (Zih B0.out)
 rw [show ((at_ + 1 : Nat) : Int) = (at_ : Int) + 1 from rfl] at hw
 have W1 := Hq hw
 have H2 := Hq h2
 have HI := Hq hI
 clear hw h1 h2 h hb hI
 go_enter Try.func78, Try.ntmps78
 go_wp2_with (first
  | (go_at_call 43; refine W1.out.mono ?_; clear W1; intro e w1 hq; obtain ⟨s1, q1, rfl, g1⟩ := hq; have G1 := Hq g1; have B1 := Hq (Zaw B0.out g1); have E1 := Hq (Zcy ok g1.go.at_ (Jn B1.out) at_ jump 0); clear g1)
  | (go_at_call 44; refine E1.out.mono ?_; clear E1; intro e w2 hq; obtain ⟨rfl, s2, g2, a2, l2, v2⟩ := hq; have G2 := Hq g2; have A2 := Hq a2; have B2 := Hq (Zbr B1.out a2); have W2 := Hq (Xy ok HI.out (Zjf H2.out G1.out.sk ((congrArg List.length l2).trans G1.out.L)) g2.at_ (Zih B2.out)); clear g2 a2 l2 v2)
  | (go_at_call 43; refine W2.out.mono ?_; clear W2; intro e w3 hq; obtain ⟨s3, q2, rfl, g3⟩ := hq; have G3 := Hq g3; have B3 := Hq (Zaw B2.out g3); clear g3))
 have K0 : Zza c w3 s3 q2 at_ 0 w3 s3 := ⟨Yii G3.out.go.at_, rfl, B3.out, by omega⟩
 have KK := Hq K0
 clear K0
 go_loopw [23] (fun i wr => ∃ (q : Nat) (sr : Stt), i = .int .i64 q /\ Zza c w3 s3 q2 at_ q wr sr) (fun i _ => 2 - (intOf i).toNat)
 case atStart => exact ⟨0, s3, rfl, KK.out⟩
 case round =>
  obtain ⟨q, sr, rfl, hL⟩ := hrel
  have LL := Hq hL
  have hq2 := hL.le
  clear hL
  by_cases hlt : (q : Int) < 2
  · have E3 := Hq (Zcy ok LL.out.go.at_ (Jn LL.out.bud) at_ 3 0)
    go_wp2_with (first
     | (go_at_call 44; refine E3.out.mono ?_; clear E3; intro e w4 hq; obtain ⟨rfl, s4, g4, a4, l4, v4⟩ := hq; have G4 := Hq g4; have A4 := Hq a4; have E5 := Hq (Yos ok LL.out g4 a4); clear g4 a4 l4 v4)
     | (go_at_call 44; refine E5.out.mono ?_; clear E5; intro e w5 hq; obtain ⟨rfl, s5, g5, a5, l5, v5⟩ := hq; have G5 := Hq g5; have A5 := Hq a5; clear g5 a5 l5 v5))
    go_roundw
    case rel => exact ⟨q + 1, s5, by go_num, Ydn LL.out (by omega) G4.out A4.out G5.out A5.out⟩
    case measure => simp [intOf]; omega
  · have e2 : q = 2 := by omega
    subst e2
    have E8 := Hq (Zcy ok LL.out.go.at_ (Jn LL.out.bud) at_ 14 0)
    have B7 := Hq (show Bud c sr q2 3 from LL.out.bud)
    have J7 := Hq (Yor LL.out (Zxq A2.out G3.out))
    go_wp2_with (first
     | (go_at_call 44; refine E8.out.mono ?_; clear E8; intro e w8 hq; obtain ⟨rfl, s8, g8, a8, l8, v8⟩ := hq; have G8 := Hq g8; have A8 := Hq a8; have B8 := Hq (Zbr B7.out a8); have M9 := Hq (Zht ok g8.at_ (Jn B8.out) (Zsa J7.out a8)); clear g8 a8 l8 v8)
     | (go_at_call 97; refine M9.out.mono ?_; clear M9; intro e w9 hq; obtain ⟨⟨v9, rfl⟩, s9, g9, a9, l9, v9'⟩ := hq; have G9 := Hq g9; have A9 := Hq a9; have B9 := Hq (Zsm B8.out a9); have E10 := Hq (Zcy ok g9.at_ (Jn B9.out) at_ 3 alone); clear g9 a9 l9 v9')
     | (go_at_call 44; refine E10.out.mono ?_; clear E10; intro e w10 hq; obtain ⟨rfl, s10, g10, a10, l10, v10⟩ := hq; have G10 := Hq g10; have A10 := Hq a10; have B10 := Hq (Zbr B9.out a10); have M11 := Hq (Zht ok g10.at_ (Jn B10.out) (Yny A8.out A9.out a10)); clear g10 a10 l10 v10)
     | (go_at_call 97; refine M11.out.mono ?_; clear M11; intro e w11 hq; obtain ⟨⟨v11, rfl⟩, s11, g11, a11, l11, v11'⟩ := hq; have G11 := Hq g11; have A11 := Hq a11; clear g11 a11 l11 v11'))
    go_ret
    rw [Yot G1.out.eq A2.out G3.out.eq LL.out.eq A8.out A9.out A10.out A11.out]
    exact ⟨rfl, _, Zo (Zo (Zo (Zo (Zo (Zo (Zo G1.out.go G2.out) G3.out.go) LL.out.go) G8.out) G9.out) G10.out) G11.out, rfl⟩
theorem Zfd {ts : List (ByteArray × List Int)} {ps : List (Int × Int × Int)} {g a : Nat} {s : PS} {k n kc : Int} (hp : ps[a]? = some (k, n, kc)) : Yx ts ps (g + 1) s a =
 (if k = 5 then Jo (Yx ts ps g) kc s a else if k = 6 then Ziu (Yx ts ps g) s a else if k = 7 \/ k = 8 then Zgc k n.toNat s a else if k = 23 then Zcg (Yx ts ps g) 15 0 s a else if k = 24 then Zcg (Yx ts ps g) 16 1 s a
   else (PS.emits (Zic (Yx ts ps g) kc.toNat s (a + 1)).1 a (Zwh ts k n), (Zic (Yx ts ps g) kc.toNat s (a + 1)).2)) := by rw [Yx, hp]
structure Zyz (c : Cx) (g : Nat) (w : World) (s : Stt) (at_ : Nat) (k n kc : Int) (q aq : Nat) (wr : World) (sr : Stt) : Prop where
 go : Go c w s wr sr
 copy : Zie wr w.heap.size k n kc
 nb : ¬ c.P sr w.heap.size
 hq : q <= kc.toNat
 eq : Zic (Yx c.ts c.ps g) kc.toNat s.abs (at_ + 1) = Zic (Yx c.ts c.ps g) (kc.toNat - q) sr.abs aq
 ok : Znn (okP c.ts.length c.ps g s.L.length) (Xc c.ps g) (kc.toNat - q) aq
 L : sr.L.length = s.L.length
 bud : Bud c sr aq 8
 ka : at_ + 1 + q <= aq
 le : aq <= c.ps.length
theorem Zxo {c : Cx} (ok : Zhj c) {g : Nat} {w : World} {s : Stt} {at_ : Nat} {k n kc : Int} (h : AtS c w s) (hja : at_ < c.ps.length) (hb : s.out.length + 8 * (c.ps.length - at_) + 8 <= 1000000000000) (ho : Znn (okP c.ts.length c.ps g s.L.length) (Xc c.ps g) kc.toNat (at_ + 1)) :
 Zyz c g w s at_ k n kc 0 (at_ + 1) (w.alloc (.cells #[.int .i64 k, .int .i64 n, .int .i64 kc] 108)) s :=
 ⟨Zlz ok h _, Zmc w k n kc, Ycj h (Nat.le_refl _), Nat.zero_le _, rfl, ho, rfl, Zhd hb hja, Nat.le_refl _, hja⟩
theorem Ycz {c : Cx} {g : Nat} {w wr w' : World} {s sr s' : Stt} {at_ : Nat} {k n kc : Int} {q aq p : Nat} (h : Zyz c g w s at_ k n kc q aq wr sr) (hlt : (q : Int) < kc) (g1 : Yee c g wr sr aq w' s' p) : Zyz c g w s at_ k n kc (q + 1) p w' s' := by
 have e : kc.toNat - q = (kc.toNat - (q + 1)) + 1 := by omega
 have hB := Zod h.copy
 have ho := h.ok
 rw [e] at ho
 refine ⟨Zo h.go g1.go, ?_, fun hp => h.nb (g1.go.row _ hB hp), by have := h.hq; omega, ?_, ?_, g1.L.trans h.L, Zaw h.bud g1, by have := g1.lt; have := h.ka; omega, g1.le⟩
 · unfold Zie; rw [g1.go.sp.block _ hB h.nb]; exact h.copy
 · rw [h.eq, e, Zic, g1.eq]
 · have := ho.2; rw [<- g1.sk] at this; exact this
theorem Ync {c : Cx} {g : Nat} {w wr : World} {s sr : Stt} {at_ : Nat} {k n kc : Int} {q aq : Nat} (h : Zyz c g w s at_ k n kc q aq wr sr) (hlt : (q : Int) < kc) : okP c.ts.length c.ps g sr.L.length aq := by
 have e : kc.toNat - q = (kc.toNat - (q + 1)) + 1 := by omega
 have ho := h.ok
 rw [e] at ho
 rw [h.L]; exact ho.1
theorem Zcs {c : Cx} {g : Nat} {w wr w' : World} {s sr s' : Stt} {at_ : Nat} {k n kc : Int} {q aq : Nat} (h : Zyz c g w s at_ k n kc q aq wr sr) (hlt : ¬ (q : Int) < kc) (hp : c.ps[at_]? = some (k, n, kc)) (hk : k ≠ 5 /\ k ≠ 6 /\ ¬ (k = 7 \/ k = 8) /\ k ≠ 23 /\ k ≠ 24)
 (g1 : Go c wr sr w' s') (e1 : s'.abs = PS.emits sr.abs at_ (Zwh c.ts k n)) : WP c w s (Yx c.ts c.ps (g + 1) s.abs at_) (.returned (.int .i64 aq)) w' := by
 have e : kc.toNat - q = 0 := by omega
 have he := h.eq
 rw [e, Zic] at he
 rw [Zfd hp, if_neg hk.1, if_neg hk.2.1, if_neg hk.2.2.1, if_neg hk.2.2.2.1, if_neg hk.2.2.2.2, he]
 exact ⟨rfl, s', Zo h.go g1, e1⟩
theorem Zxp {c : Cx} {g : Nat} {w wr : World} {s sr : Stt} {at_ : Nat} {k n kc : Int} {q aq : Nat} (h : Zyz c g w s at_ k n kc q aq wr sr) : sr.out.length <= 999999999999 /\ sr.org.length <= 999999999999 := by
 have h1 := h.bud
 have h2 : sr.org.length = sr.out.length := h.go.at_.inv.ol
 unfold Bud at h1
 omega
theorem Yqs {c : Cx} (ok : Zhj c) {w w' : World} {s : Stt} (h : AtS c w s) {a : Nat} {x y : Int × Int} (sp : Sp (Yj c.Bd s.vout s.vorg) w w')
 (hp : ∃ vo vg, Yc w' c.E c.Bd (.slice c.pt c.ts.length c.ct) c.vf c.nm c.ar c.vl (.slice c.pp c.ps.length c.cp) vo vg s.vlo (.map (some c.M)) (s.out ++ [x] ++ [y]) (s.org ++ [(a : Int)] ++ [(a : Int)]) /\ (∀ k, k < w.heap.size -> Yj c.Bd vo vg k -> Yj c.Bd s.vout s.vorg k)) :
 ∃ s', Go c w s w' s' /\ s'.abs = PS.emits s.abs a [x, y] := by
 obtain ⟨vo, vg, hC, hr⟩ := hp
 exact ⟨_, Znu ok h sp hC hr (Zdu [x, y] a h.inv).inv, rfl⟩
theorem Yva (bc b6 : Nat) (ts : List (ByteArray × List Int)) (k n : Int) (h0 : 1 <= k /\ k <= 26) (h1 : k ≠ 1) (hk : k ≠ 5 /\ k ≠ 6 /\ ¬ (k = 7 \/ k = 8) /\ k ≠ 23 /\ k ≠ 24) : k ∈ Znp /\
 ((∃ o, Yel bc b6 k = .pl o /\ Zwh ts k n = [(o, 0)]) \/ (∃ o, Yel bc b6 k = .wi o v5E /\ Zwh ts k n = [(o, n)]) \/ (Yel bc b6 k = .fn (vnE bc) /\ Zwh ts k n = [(n, 0)]) \/
   k = 14 \/ k = 15 \/ k = 21 \/ k = 22) := by
 have : k = 2 \/ k = 3 \/ k = 4 \/ k = 9 \/ k = 10 \/ k = 11 \/ k = 12 \/ k = 13 \/ k = 14 \/ k = 15 \/ k = 16 \/ k = 17 \/ k = 18 \/ k = 19 \/ k = 20 \/ k = 21 \/ k = 22 \/ k = 25 \/ k = 26 := by omega
 rcases this with h | h | h | h | h | h | h | h | h | h | h | h | h | h | h | h | h | h | h
 · subst h; exact ⟨by decide, Or.inr (Or.inl ⟨_, rfl, rfl⟩)⟩
 · subst h; exact ⟨by decide, Or.inl ⟨_, rfl, rfl⟩⟩
 · subst h; exact ⟨by decide, Or.inl ⟨_, rfl, rfl⟩⟩
 · subst h; exact ⟨by decide, Or.inl ⟨_, rfl, rfl⟩⟩
 · subst h; exact ⟨by decide, Or.inl ⟨_, rfl, rfl⟩⟩
 · subst h; exact ⟨by decide, Or.inl ⟨_, rfl, rfl⟩⟩
 · subst h; exact ⟨by decide, Or.inr (Or.inl ⟨_, rfl, rfl⟩)⟩
 · subst h; exact ⟨by decide, Or.inr (Or.inl ⟨_, rfl, rfl⟩)⟩
 · subst h; exact ⟨by decide, by simp⟩
 · subst h; exact ⟨by decide, by simp⟩
 · subst h; exact ⟨by decide, Or.inl ⟨_, rfl, rfl⟩⟩
 · subst h; exact ⟨by decide, Or.inl ⟨_, rfl, rfl⟩⟩
 · subst h; exact ⟨by decide, Or.inl ⟨_, rfl, rfl⟩⟩
 · subst h; exact ⟨by decide, Or.inr (Or.inr (Or.inl ⟨rfl, rfl⟩))⟩
 · subst h; exact ⟨by decide, Or.inr (Or.inr (Or.inl ⟨rfl, rfl⟩))⟩
 · subst h; exact ⟨by decide, by simp⟩
 · subst h; exact ⟨by decide, by simp⟩
 · subst h; exact ⟨by decide, Or.inr (Or.inl ⟨_, rfl, rfl⟩)⟩
 · subst h; exact ⟨by decide, Or.inr (Or.inl ⟨_, rfl, rfl⟩)⟩
end Go.Proofs.Ytecaolkbllbokaa.TG
