import Derived.Test.YtecaolkbllbokaaMT01
import Derived.Deep.QuietTactic
import Derived.BigQuiet
import Derived.Test.YtecaolkbllbokaaMT00
import Derived.Deep.Draws
import Derived.WalkKit
set_option linter.unusedSimpArgs false
set_option linter.unusedVariables false
set_option maxRecDepth 100000
set_option maxHeartbeats 16000000
namespace Go.Proofs.Ytecaolkbllbokaa.TG
open Go.RowKit Go.Great
def Yzr (w : World) (v : Value) (l : List Int) : Prop := ∃ (p : Option Addr) (cap : Nat), v = .slice p l.length cap /\
 (0 < l.length -> ∃ b off : Nat, p = some ⟨b, off, none⟩ /\ b < w.heap.size /\ ∀ i, i < l.length -> w.cell? ⟨b, off + i, none⟩ = some (.int .i64 (l.getD i 0)))
theorem Zdb (w : World) (o : Obj) (n : Nat) : w.grownBy ((w.alloc o).drewN n) none := ⟨rfl, rfl, rfl, by simp, fun k hk _ => (Ga w o none).block k hk (by simp)⟩
def Zcr (ws : List Int) : Nat -> Int
 | 0 => 1
 | k + 1 => max (Zcr ws k) ((k : Int) + ws.getD k 0)
theorem Ywk (k n c : Int) (hk : k = 12 \/ k = 13 \/ k = 14 \/ k = 15 \/ k = 16) (p : Option Addr) (cap L : Nat) (w : World) :
 Calls Try.prog 87 #[.agg #[.int .i64 k, .int .i64 n, .int .i64 c], .slice p L cap] w fun e w' => e = .returned (.int .i64 (1)) /\ w.grownBy w' none := by
 rcases hk with rfl | rfl | rfl | rfl | rfl
 all_goals
  go_enter Try.func87, Try.ntmps87
  go_wp2
  go_ret
  exact ⟨rfl, Ga _ _ _⟩
theorem Ywf (k n c : Int) (hk : k = 1 \/ k = 7 \/ k = 8) (p : Option Addr) (cap L : Nat) (w : World) :
 Calls Try.prog 87 #[.agg #[.int .i64 k, .int .i64 n, .int .i64 c], .slice p L cap] w fun e w' => e = .returned (.int .i64 (0)) /\ w.grownBy w' none := by
 rcases hk with rfl | rfl | rfl
 all_goals
  go_enter Try.func87, Try.ntmps87
  go_wp2
  go_ret
  exact ⟨rfl, Ga _ _ _⟩
theorem Ywj (k n c : Int) (hk : k = 20 \/ k = 21 \/ k = 3 \/ k = 4) (b off cap L : Nat) (x y : Int) (hL : 2 <= L) (hLb : L <= 1000000000000000000) (hy : 0 <= y /\ y <= 1000000000000000000) (w : World) (hb : b < w.heap.size) (h0 : w.cell? ⟨b, off, none⟩ = some (.int .i64 x)) (h1 : w.cell? ⟨b, off + 1, none⟩ = some (.int .i64 y)) :
 Calls Try.prog 87 #[.agg #[.int .i64 k, .int .i64 n, .int .i64 c], .slice (some ⟨b, off, none⟩) L cap] w fun e w' => e = .returned (.int .i64 (max x (y + 1))) /\ w.grownBy w' none := by
 obtain ⟨hy0, hy1⟩ := hy
 have i0 : (0 : Int) < (L : Int) := by omega
 have i1 : (1 : Int) < (L : Int) := by omega
 rcases hk with rfl | rfl | rfl | rfl
 all_goals
  go_enter Try.func87, Try.ntmps87
  go_wp2
  go_quiet (fail)
  go_wp2
  go_ret
  exact ⟨Xf (by omega), Zdb _ _ _⟩
theorem Ywh (k n c : Int) (hk : k = 23 \/ k = 24) (b off cap L : Nat) (x y : Int) (hL : 2 <= L) (hLb : L <= 1000000000000000000) (hy : 0 <= y /\ y <= 1000000000000000000) (w : World) (hb : b < w.heap.size) (h0 : w.cell? ⟨b, off, none⟩ = some (.int .i64 x)) (h1 : w.cell? ⟨b, off + 1, none⟩ = some (.int .i64 y)) :
 Calls Try.prog 87 #[.agg #[.int .i64 k, .int .i64 n, .int .i64 c], .slice (some ⟨b, off, none⟩) L cap] w fun e w' => e = .returned (.int .i64 (max (max x y) 2)) /\ w.grownBy w' none := by
 obtain ⟨hy0, hy1⟩ := hy
 have i0 : (0 : Int) < (L : Int) := by omega
 have i1 : (1 : Int) < (L : Int) := by omega
 rcases hk with rfl | rfl
 all_goals
  go_enter Try.func87, Try.ntmps87
  go_wp2
  go_quiet (fail)
  go_wp2
  all_goals (go_ret; exact ⟨Xf (by omega), Zdb _ _ _⟩)
theorem Ywi (k n c : Int) (hk : k = 22) (b off cap L : Nat) (x : Int) (hL : 1 <= L) (hLb : L <= 1000000000000000000) (w : World) (hb : b < w.heap.size) (h0 : w.cell? ⟨b, off, none⟩ = some (.int .i64 x)) :
 Calls Try.prog 87 #[.agg #[.int .i64 k, .int .i64 n, .int .i64 c], .slice (some ⟨b, off, none⟩) L cap] w fun e w' => e = .returned (.int .i64 (max x 2)) /\ w.grownBy w' none := by
 have i0 : (0 : Int) < (L : Int) := by omega
 rcases hk with rfl
 all_goals
  go_enter Try.func87, Try.ntmps87
  go_wp2
  go_ret
  exact ⟨Xf (by omega), Ga _ _ _⟩
theorem Ywe (k n c : Int) (hk : k = 2 \/ k = 5 \/ k = 6 \/ k = 9 \/ k = 10 \/ k = 11 \/ k = 17 \/ k = 18 \/ k = 19) (b off cap L : Nat) (x : Int) (hL : 1 <= L) (hLb : L <= 1000000000000000000) (w : World) (hb : b < w.heap.size) (h0 : w.cell? ⟨b, off, none⟩ = some (.int .i64 x)) :
 Calls Try.prog 87 #[.agg #[.int .i64 k, .int .i64 n, .int .i64 c], .slice (some ⟨b, off, none⟩) L cap] w fun e w' => e = .returned (.int .i64 (x)) /\ w.grownBy w' none := by
 have i0 : (0 : Int) < (L : Int) := by omega
 rcases hk with rfl | rfl | rfl | rfl | rfl | rfl | rfl | rfl | rfl
 all_goals
  go_enter Try.func87, Try.ntmps87
  go_wp2
  go_ret
  exact ⟨rfl, Ga _ _ _⟩
theorem Zcc (ws : List Int) (k : Nat) : Zcr ws (k + 1) = max (Zcr ws k) ((k : Int) + ws.getD k 0) := rfl
theorem Zuj (ws : List Int) (hws : ∀ i, i < ws.length -> ws.getD i 0 <= 1000000000000000000) : ∀ k, k <= ws.length -> Zcr ws k <= 1000000000000000000 + (k : Int)
 | 0, _ => by unfold Zcr; omega
 | k + 1, h => by
   have := Zuj ws hws k (by omega)
   have := hws k (by omega)
   rw [Zcc]; omega
theorem Ywg (k n c : Int) (hk : k = 25 \/ k = 26) (v : Value) (ws : List Int) (w : World) (hv : Yzr w v ws) (hL : ws.length <= 1000000000000000000) (hws : ∀ i, i < ws.length -> 0 <= ws.getD i 0 /\ ws.getD i 0 <= 1000000000000000000) :
 Calls Try.prog 87 #[.agg #[.int .i64 k, .int .i64 n, .int .i64 c], v] w fun e w' => e = .returned (.int .i64 (Zcr ws ws.length)) /\ w.grownBy w' none := by
 obtain ⟨p, cap, rfl, hel⟩ := hv
 have HW := Hq hws
 clear hws
 rcases Nat.eq_zero_or_pos ws.length with h0 | h0
 · clear hel
   rw [h0]
   have hm : Zcr ws 0 = 1 := rfl
   rw [hm]
   clear h0 hm hL
   rcases hk with rfl | rfl
   all_goals
    go_enter Try.func87, Try.ntmps87
    go_wp2
    go_loop [5, 50] (fun m i => m = .int .i64 1 /\ i = .int .i64 0) (fun m i => 0)
    case atStart => exact ⟨rfl, rfl⟩
    case round =>
     obtain ⟨rfl, rfl⟩ := hrel
     go_wp2
     go_ret
     exact ⟨rfl, Ga _ _ _⟩
 · obtain ⟨b, off, rfl, hb, hcell⟩ := hel h0
   have HC := Hq hcell
   clear hcell hel
   have hlen : ws.length = ws.length := rfl
   generalize hLL : ws.length = L at *
   rcases hk with rfl | rfl
   all_goals
    go_enter Try.func87, Try.ntmps87
    go_wp2
    go_loop [5, 50] (fun m i => ∃ j : Nat, j <= L /\ i = .int .i64 j /\ m = .int .i64 (Zcr ws j)) (fun m i => L - (intOf i).toNat)
    case atStart => exact ⟨0, Nat.zero_le _, rfl, rfl⟩
    case round =>
     obtain ⟨j, hj, rfl, rfl⟩ := hrel
     by_cases hlt : j < L
     · have g := HC.out j hlt
       have HB := HW.out j hlt
       have HM := Hq (Zcc ws j)
       have hmb := Zuj ws (fun i hi => (HW.out i (by omega)).2) j (by omega)
       generalize ws.getD j 0 = x at *
       generalize Zcr ws j = m at *
       obtain ⟨hx0, hx1⟩ := HB
       go_wp2
       all_goals
        go_round
        case rel => exact ⟨j + 1, by omega, by go_num, by rw [HM.out] <;> congr 1 <;> omega⟩
        case measure => simp [intOf]; omega
     · have : j = L := by omega
       subst this
       go_wp2
       go_ret
       exact ⟨rfl, Ga _ _ _⟩
theorem Yry (n : Nat) : ∃ (nm : ByteArray) (tk u : Int) (bb : Bool), ∀ w, Calls Try.prog 128 #[.int .i64 n] w fun e w' => e = .returned (.tuple #[.agg #[.string nm, .int .i64 0, .int .i64 tk, .int .i64 u], .bool bb]) /\ w.grownBy w' none := by
 by_cases h : n < 5
 · exact ⟨_, _, _, _, fun w => Zqo n h w⟩
 · exact ⟨_, _, _, _, fun w => Yrx n (by omega) w⟩
theorem Yne (n : Nat) (kc args : Int) (Bc bF oF nf cf : Nat) (hn : n < nf) (hnf : nf <= 1000000) (w : World) (hlt : Bc < w.heap.size) (hltF : bF < w.heap.size)
 (h1 : w.cell? ⟨Bc, 1, none⟩ = some (.slice (some ⟨bF, oF, none⟩) nf cf)) (ha : w.cell? ⟨bF, oF + n * 4 + 1, none⟩ = some (.int .i64 args)) :
 Calls Try.prog 115 #[.pointer (some ⟨Bc, 0, none⟩), .agg #[.int .i64 25, .int .i64 n, .int .i64 kc]] w fun e w' => e = .returned (.int .i64 (if kc = args then 0 else 174)) /\ w.grownBy w' none := by
 obtain ⟨nm, tk, u, bb, S0⟩ := Yry n
 have S := Hq S0
 clear S0
 have hni : (n : Int) < (nf : Int) := by omega
 by_cases h : kc = args
 · rw [if_pos h]
   subst h
   go_enter Try.func115, Try.ntmps115
   go_wp2_with (go_at_call 128; refine (S.out _).mono ?_; rintro e w1 ⟨rfl, hg⟩; have HG := Hq hg; have z0 := hg.cell (a := ⟨w.heap.size, 0, none⟩) (v := .int .i64 25) (by simp) (by simp); have z1 := hg.cell (a := ⟨w.heap.size, 1, none⟩) (v := .int .i64 n) (by simp) (by simp); have z2 := hg.cell (a := ⟨w.heap.size, 2, none⟩) (v := .int .i64 kc) (by simp) (by simp); have z3 := (Za (Ga w _ none) hg).cell h1 (by simp); have z4 := (Za (Ga w _ none) hg).cell ha (by simp); have hz := Zfg hg; have y1 := Nat.lt_trans hlt hz; have y2 := Nat.lt_trans hltF hz; clear hg)
   go_quiet (fail)
   go_wp2
   go_ret
   exact ⟨rfl, Za (Za (Ga _ _ _) HG.out) (Zdb _ _ _)⟩
 · rw [if_neg h]
   have hb : (kc != args) = true := by simpa using h
   go_enter Try.func115, Try.ntmps115
   go_wp2_with (go_at_call 128; refine (S.out _).mono ?_; rintro e w1 ⟨rfl, hg⟩; have HG := Hq hg; have z0 := hg.cell (a := ⟨w.heap.size, 0, none⟩) (v := .int .i64 25) (by simp) (by simp); have z1 := hg.cell (a := ⟨w.heap.size, 1, none⟩) (v := .int .i64 n) (by simp) (by simp); have z2 := hg.cell (a := ⟨w.heap.size, 2, none⟩) (v := .int .i64 kc) (by simp) (by simp); have z3 := (Za (Ga w _ none) hg).cell h1 (by simp); have z4 := (Za (Ga w _ none) hg).cell ha (by simp); have hz := Zfg hg; have y1 := Nat.lt_trans hlt hz; have y2 := Nat.lt_trans hltF hz; clear hg)
   go_quiet (fail)
   go_wp2
   go_ret
   exact ⟨rfl, Za (Za (Ga _ _ _) HG.out) (Zdb _ _ _)⟩
theorem Zme {P : Program} {f : FuncId} {args : Array Value} {w : World} {a b : Int} (h : a = b) (H : Calls P f args w fun e w' => e = .returned (.int .i64 a) /\ w.grownBy w' none) : Calls P f args w fun e w' => e = .returned (.int .i64 b) /\ w.grownBy w' none := h ▸ H
theorem Ycq (k n kc : Int) (hk : 1 <= k /\ k < 27) (Bc bf of nl cl nt ct nf cf : Nat) (pt pf pl : Option Addr) (vp : Value) (at_ loops most : Int) (w : World)
 (hC : Chk w Bc bf of (.slice pt nt ct) (.slice pf nf cf) (.slice pl nl cl) vp at_ loops most) :
 Calls Try.prog 114 #[.pointer (some ⟨Bc, 0, none⟩), .agg #[.int .i64 k, .int .i64 n, .int .i64 kc]] w fun e w' => e = .returned (.int .i64 (Zpl nl nt nf loops k n)) /\ w.grownBy w' none := by
 have hcases : k = 12 \/ (k = 2 \/ k = 13) \/ (k = 14 \/ k = 15) \/ k = 25 \/ k = 26 \/ (k = 7 \/ k = 8) \/ k = 19 \/ k = 20 \/ k = 21 \/
  (k = 1 \/ k = 3 \/ k = 4 \/ k = 5 \/ k = 6 \/ k = 9 \/ k = 10 \/ k = 11 \/ k = 16 \/ k = 17 \/ k = 18 \/ k = 22 \/ k = 23 \/ k = 24) := by omega
 rcases hcases with h | h | h | h | h | h | h | h | h | h
 · subst h; exact Ycp n kc Bc w
 · refine Zme ?_ (Zuf k n kc h Bc bf of nl cl pl w hC.lt hC.ltf hC.c2 hC.f2)
   unfold Zpl; rw [if_neg (by omega), if_pos h]
 · refine Zme ?_ (Zxc k n kc h Bc nt ct pt w hC.lt hC.c0)
   unfold Zpl; rw [if_neg (by omega), if_neg (by omega), if_pos h]
 · subst h; exact Zxf n kc Bc nf cf pf w hC.lt hC.c1
 · subst h; exact Ycn n kc Bc w
 · refine Zme ?_ (Zxe k n kc loops h Bc w hC.lt hC.c4)
   unfold Zpl; rw [if_neg (by omega), if_neg (by omega), if_neg (by omega), if_neg (by omega), if_neg (by omega), if_pos h]
 · subst h; exact Yco n kc Bc w
 · subst h; exact Ycm n kc Bc w
 · subst h; exact Zxb n kc Bc w
 · refine Zme ?_ (Zxd k n kc h Bc w)
   unfold Zpl; rw [if_neg (by omega), if_neg (by omega), if_neg (by omega), if_neg (by omega), if_neg (by omega), if_neg (by omega), if_neg (by omega), if_neg (by omega), if_neg (by omega)]
def Zex (args : Int) (k n kc : Int) : Int :=
 if k = 1 then (if 0 <= kc then 0 else 171) else if k = 25 then (if kc = args then 0 else 174) else if k = 26 then (if kc = Yy n.toNat then 0 else 174) else
 if k = 5 then (if 2 <= kc /\ kc <= 3 then 0 else 171) else
 if k = 2 \/ k = 9 \/ k = 10 \/ k = 11 \/ k = 17 \/ k = 18 \/ k = 19 \/ k = 22 then (if kc = 1 then 0 else 171) else
 if k = 3 \/ k = 4 \/ k = 6 \/ k = 20 \/ k = 21 \/ k = 23 \/ k = 24 then (if kc = 2 then 0 else 171) else (if kc = 0 then 0 else 171)
theorem Ynv (k n kc args : Int) (hk : 1 <= k /\ k < 27) (Bc nf cf : Nat) (pf : Option Addr) (w : World) (hlt : Bc < w.heap.size) (h1 : w.cell? ⟨Bc, 1, none⟩ = some (.slice pf nf cf))
 (hF : k = 25 -> ∃ bF oF : Nat, pf = some ⟨bF, oF, none⟩ /\ bF < w.heap.size /\ 0 <= n /\ n.toNat < nf /\ nf <= 1000000 /\ w.cell? ⟨bF, oF + n.toNat * 4 + 1, none⟩ = some (.int .i64 args))
 (hS : k = 26 -> 0 <= n /\ n < 5) :
 Calls Try.prog 115 #[.pointer (some ⟨Bc, 0, none⟩), .agg #[.int .i64 k, .int .i64 n, .int .i64 kc]] w fun e w' => e = .returned (.int .i64 (Zex args k n kc)) /\ w.grownBy w' none := by
 have hcases : k = 1 \/ k = 25 \/ k = 26 \/ k = 5 \/ (k = 2 \/ k = 9 \/ k = 10 \/ k = 11 \/ k = 17 \/ k = 18 \/ k = 19 \/ k = 22) \/ (k = 3 \/ k = 4 \/ k = 6 \/ k = 20 \/ k = 21 \/ k = 23 \/ k = 24) \/ (k = 7 \/ k = 8 \/ k = 12 \/ k = 13 \/ k = 14 \/ k = 15 \/ k = 16) := by omega
 rcases hcases with h | h | h | h | h | h | h
 · subst h; exact Yuf n kc Bc w
 · obtain ⟨bF, oF, rfl, hb, h0, hn, hnf, ha⟩ := hF h
   subst h
   have e : ((n.toNat : Nat) : Int) = n := Int.toNat_of_nonneg h0
   have := Yne n.toNat kc args Bc bF oF nf cf hn hnf w hlt hb h1 ha
   rw [e] at this
   exact this
 · obtain ⟨h0, h5⟩ := hS h
   subst h
   have e : ((n.toNat : Nat) : Int) = n := Int.toNat_of_nonneg h0
   have := Ynd n.toNat (by omega) kc Bc w
   rw [e] at this
   exact this
 · subst h; exact Yub n kc Bc w
 · rcases h with rfl | rfl | rfl | rfl | rfl | rfl | rfl | rfl
   · exact Yue n kc Bc w
   · exact Ytx n kc Bc w
   · exact Ynt n kc Bc w
   · exact Yns n kc Bc w
   · exact Ynm n kc Bc w
   · exact Ynl n kc Bc w
   · exact Ynk n kc Bc w
   · exact Ynh n kc Bc w
 · rcases h with rfl | rfl | rfl | rfl | rfl | rfl | rfl
   · exact Yud n kc Bc w
   · exact Yuc n kc Bc w
   · exact Yua n kc Bc w
   · exact Ynj n kc Bc w
   · exact Yni n kc Bc w
   · exact Yng n kc Bc w
   · exact Ynf n kc Bc w
 · rcases h with rfl | rfl | rfl | rfl | rfl | rfl | rfl
   · exact Ytz n kc Bc w
   · exact Yty n kc Bc w
   · exact Ynr n kc Bc w
   · exact Ynq n kc Bc w
   · exact Ynp n kc Bc w
   · exact Yno n kc Bc w
   · exact Ynn n kc Bc w
theorem Zhx {w w' : World} {Bc bf of : Nat} {vt vf vl vp : Value} {a l m : Int} (h : Chk w Bc bf of vt vf vl vp a l m) (g : w.grownBy w' none) : Chk w' Bc bf of vt vf vl vp a l m :=
 ⟨Nat.lt_of_lt_of_le h.lt g.size, Nat.lt_of_lt_of_le h.ltf g.size, h.ne, g.cell h.c0 (by simp), g.cell h.c1 (by simp), g.cell h.c2 (by simp), g.cell h.c3 (by simp), g.cell h.c4 (by simp), g.cell h.c5 (by simp), g.cell h.f2 (by simp), g.cell h.f3 (by simp)⟩
def Yzt (w : World) (pf : Option Addr) (fs : List Int) : Prop := 0 < fs.length -> ∃ bF oF : Nat, pf = some ⟨bF, oF, none⟩ /\ bF < w.heap.size /\ ∀ i, i < fs.length -> w.cell? ⟨bF, oF + i * 4 + 1, none⟩ = some (.int .i64 (fs.getD i 0))
theorem Zjl {w w' : World} {pf : Option Addr} {fs : List Int} (h : Yzt w pf fs) (g : w.grownBy w' none) : Yzt w' pf fs := fun h0 => by
 obtain ⟨bF, oF, e, hb, hc⟩ := h h0
 exact ⟨bF, oF, e, Nat.lt_of_lt_of_le hb g.size, fun i hi => g.cell (hc i hi) (by simp)⟩
theorem Zah {x n e : Int} (he : e ≠ 0) (h : Jb x n e = 0) : 0 <= x /\ x < n := by
 unfold Jb at h
 by_cases c : x < 0 \/ n <= x
 · rw [if_pos c] at h; exact absurd h he
 · omega
theorem Ynu (k n kc : Int) (hk : 1 <= k /\ k < 27) (Bc nl nt cf : Nat) (loops : Int) (pf : Option Addr) (fs : List Int) (hfs : fs.length <= 1000000) (w : World) (hlt : Bc < w.heap.size) (h1 : w.cell? ⟨Bc, 1, none⟩ = some (.slice pf fs.length cf))
 (hF : Yzt w pf fs) (h0 : Zpl nl nt fs.length loops k n = 0) :
 Calls Try.prog 115 #[.pointer (some ⟨Bc, 0, none⟩), .agg #[.int .i64 k, .int .i64 n, .int .i64 kc]] w fun e w' => e = .returned (.int .i64 (Zex (fs.getD n.toNat 0) k n kc)) /\ w.grownBy w' none := by
 refine Ynv k n kc _ hk Bc fs.length cf pf w hlt h1 ?_ ?_
 · intro e
   subst e
   have := Zah (by decide) (show Jb n fs.length 173 = 0 from h0)
   obtain ⟨bF, oF, e, hb, hc⟩ := hF (by omega)
   exact ⟨bF, oF, e, hb, this.1, by omega, hfs, hc _ (by omega)⟩
 · intro e
   subst e
   exact Zah (by decide) (show Jb n 5 171 = 0 from h0)
def Xu (nl nt : Nat) (fs : List Int) (loops k n kc what : Int) : Int :=
 if k < 1 \/ 27 <= k then 171 else if Jz k ≠ what /\ ¬ (Jz k = 0 /\ what = 1) then 171 else
 if Zpl nl nt fs.length loops k n ≠ 0 then Zpl nl nt fs.length loops k n else Zex (fs.getD n.toNat 0) k n kc
theorem Yjt (k n kc what : Int) (hk : k < 1 \/ 27 <= k) (Bc : Nat) (w : World) :
 Calls Try.prog 85 #[.pointer (some ⟨Bc, 0, none⟩), .agg #[.int .i64 k, .int .i64 n, .int .i64 kc], .int .i64 what] w fun e w' => e = .returned (.int .i64 171) /\ w.grownBy w' none := by
 rcases hk with hk | hk
 · go_enter Try.func85, Try.ntmps85
   go_wp2
   go_ret
   exact ⟨rfl, Ga _ _ _⟩
 · have hk1 : ¬ k < 1 := by omega
   go_enter Try.func85, Try.ntmps85
   go_wp2
   go_ret
   exact ⟨rfl, Ga _ _ _⟩
theorem Yju (k n kc what : Int) (hk : 1 <= k /\ k < 27) (hq : Jz k ≠ what /\ ¬ (Jz k = 0 /\ what = 1)) (Bc : Nat) (w : World) :
 Calls Try.prog 85 #[.pointer (some ⟨Bc, 0, none⟩), .agg #[.int .i64 k, .int .i64 n, .int .i64 kc], .int .i64 what] w fun e w' => e = .returned (.int .i64 171) /\ w.grownBy w' none := by
 have K := Hq (Zur k)
 obtain ⟨hk0, hk2⟩ := hk
 have hk1 : ¬ k < 1 := by omega
 have hk3 : ¬ 27 <= k := by omega
 generalize Jz k = q at *
 obtain ⟨hq1, hq2⟩ := hq
 have b1 : (q != what) = true := by simpa using hq1
 by_cases hz : q = 0
 · subst hz
   have b2 : (what == 1) = false := by simp; exact fun h => hq2 ⟨rfl, h⟩
   clear hq2 hq1
   go_enter Try.func85, Try.ntmps85
   go_wp2_with (go_at_call 113; refine (K.out _).mono ?_; rintro e w1 ⟨rfl, rfl⟩)
   go_ret
   exact ⟨rfl, Ga _ _ _⟩
 · have b2 : (q == 0) = false := by simpa using hz
   clear hq2 hq1 hz
   go_enter Try.func85, Try.ntmps85
   go_wp2_with (go_at_call 113; refine (K.out _).mono ?_; rintro e w1 ⟨rfl, rfl⟩)
   go_ret
   exact ⟨rfl, Ga _ _ _⟩
theorem Ypk (k n kc what : Int) (hk : 1 <= k /\ k < 27) (hq : Jz k = what \/ (Jz k = 0 /\ what = 1)) (Bc : Nat) (w : World) (v u : Int)
 (hN : ∀ w1, w.grownBy w1 none -> Calls Try.prog 114 #[.pointer (some ⟨Bc, 0, none⟩), .agg #[.int .i64 k, .int .i64 n, .int .i64 kc]] w1 fun e w' => e = .returned (.int .i64 v) /\ w1.grownBy w' none)
 (hD : v = 0 -> ∀ w1, w.grownBy w1 none -> Calls Try.prog 115 #[.pointer (some ⟨Bc, 0, none⟩), .agg #[.int .i64 k, .int .i64 n, .int .i64 kc]] w1 fun e w' => e = .returned (.int .i64 u) /\ w1.grownBy w' none) :
 Calls Try.prog 85 #[.pointer (some ⟨Bc, 0, none⟩), .agg #[.int .i64 k, .int .i64 n, .int .i64 kc], .int .i64 what] w fun e w' => e = .returned (.int .i64 (if v ≠ 0 then v else u)) /\ w.grownBy w' none := by
 have K := Hq (Zur k)
 have N := Hq hN
 have D := Hq hD
 clear hN hD
 obtain ⟨hk0, hk2⟩ := hk
 have hk1 : ¬ k < 1 := by omega
 have hk3 : ¬ 27 <= k := by omega
 generalize Jz k = q at *
 have hb : ((q != what) = false) \/ ((q != what) = true /\ (q == 0) = true /\ (what == 1) = true) := by
  rcases hq with h | ⟨h1, h2⟩
  · left; simp [h]
  · right; subst h1; subst h2; decide
 clear hq
 by_cases hv : v = 0
 · have V0 := Hq hv
   rw [if_neg (by omega)]
   have b0 : (v != 0) = false := by simpa using hv
   clear hv
   rcases hb with h1 | ⟨h1, h2, h3⟩
   all_goals
    go_enter Try.func85, Try.ntmps85
    go_wp2_with (first | (go_at_call 113; refine (K.out _).mono ?_; rintro e w1 ⟨rfl, rfl⟩) | (go_at_call 114; refine (N.out _ (Ga _ _ _)).mono ?_; rintro e w1 ⟨rfl, hg⟩; have HG := Hq hg; have z0 := hg.cell (a := ⟨w.heap.size, 0, none⟩) (v := .int .i64 k) (by simp) (by simp); have z1 := hg.cell (a := ⟨w.heap.size, 1, none⟩) (v := .int .i64 n) (by simp) (by simp); have z2 := hg.cell (a := ⟨w.heap.size, 2, none⟩) (v := .int .i64 kc) (by simp) (by simp); have hz := Zfg hg; clear hg) | (go_at_call 115; refine (D.out V0.out _ (Za (Ga _ _ _) HG.out)).mono ?_; rintro e w2 ⟨rfl, hg2⟩; have HG2 := Hq hg2; clear hg2))
    go_ret
    exact ⟨rfl, Za (Za (Ga _ _ _) HG.out) HG2.out⟩
 · rw [if_pos hv]
   have b0 : (v != 0) = true := by simpa using hv
   clear hv
   rcases hb with h1 | ⟨h1, h2, h3⟩
   all_goals
    go_enter Try.func85, Try.ntmps85
    go_wp2_with (first | (go_at_call 113; refine (K.out _).mono ?_; rintro e w1 ⟨rfl, rfl⟩) | (go_at_call 114; refine (N.out _ (Ga _ _ _)).mono ?_; rintro e w1 ⟨rfl, hg⟩; have HG := Hq hg; have z0 := hg.cell (a := ⟨w.heap.size, 0, none⟩) (v := .int .i64 k) (by simp) (by simp); have z1 := hg.cell (a := ⟨w.heap.size, 1, none⟩) (v := .int .i64 n) (by simp) (by simp); have z2 := hg.cell (a := ⟨w.heap.size, 2, none⟩) (v := .int .i64 kc) (by simp) (by simp); have hz := Zfg hg; clear hg))
    go_ret
    exact ⟨rfl, Za (Ga _ _ _) HG.out⟩
theorem Zok (k n kc what : Int) (Bc bf of nl cl nt ct cf : Nat) (pt pf pl : Option Addr) (fs : List Int) (hfs : fs.length <= 1000000) (vp : Value) (at_ loops most : Int) (w : World)
 (hC : Chk w Bc bf of (.slice pt nt ct) (.slice pf fs.length cf) (.slice pl nl cl) vp at_ loops most) (hF : Yzt w pf fs) :
 Calls Try.prog 85 #[.pointer (some ⟨Bc, 0, none⟩), .agg #[.int .i64 k, .int .i64 n, .int .i64 kc], .int .i64 what] w fun e w' => e = .returned (.int .i64 (Xu nl nt fs loops k n kc what)) /\ w.grownBy w' none := by
 unfold Xu
 by_cases c1 : k < 1 \/ 27 <= k
 · rw [if_pos c1]; exact Yjt k n kc what c1 Bc w
 rw [if_neg c1]
 by_cases c2 : Jz k ≠ what /\ ¬ (Jz k = 0 /\ what = 1)
 · rw [if_pos c2]; exact Yju k n kc what (by omega) c2 Bc w
 rw [if_neg c2]
 exact Ypk k n kc what (by omega) (by omega) Bc w _ _
  (fun w1 g => Ycq k n kc (by omega) Bc bf of nl cl nt ct fs.length cf pt pf pl vp at_ loops most w1 (Zhx hC g))
  (fun h0 w1 g => Ynu k n kc (by omega) Bc nl nt cf loops pf fs hfs w1 (Zhx hC g).lt (Zhx hC g).c1 (Zjl hF g) h0)
theorem Zzt (what deep : Int) (Bc bf of np cp : Nat) (vt vf vl : Value) (pp : Option Addr) (at_ loops most : Int) (hat : (np : Int) <= at_) (w : World)
 (hC : Chk w Bc bf of vt vf vl (.slice pp np cp) at_ loops most) :
 Calls Try.prog 54 #[.pointer (some ⟨Bc, 0, none⟩), .int .i64 what, .int .i64 deep] w fun e w' => e = .returned (.tuple #[.int .i64 0, .int .i64 171]) /\ w.grownBy w' none := by
 obtain ⟨hlt, hltf, hne, c0, c1, c2, c3, c4, c5, f2, f3⟩ := hC
 go_enter Try.func54, Try.ntmps54
 go_wp2
 go_quiet (fail)
 go_wp2
 (try simp only [Exit.inBlock, Exit.then])
 refine bodyPost_ret (v := .tuple #[.int .i64 0, .int .i64 171]) ?_ rfl ⟨rfl, ?_⟩
 · rw [results_tmp2 rfl]
   go_simp
 · exact ⟨rfl, rfl, rfl, by simp, fun k hk _ => by simp⟩
def Zeh (k : Int) (ws : List Int) : Int :=
 if k = 12 \/ k = 13 \/ k = 14 \/ k = 15 \/ k = 16 then 1
 else if k = 1 \/ k = 7 \/ k = 8 then 0
 else if k = 20 \/ k = 21 \/ k = 3 \/ k = 4 then max (ws.getD 0 0) (ws.getD 1 0 + 1)
 else if k = 23 \/ k = 24 then max (max (ws.getD 0 0) (ws.getD 1 0)) 2
 else if k = 22 then max (ws.getD 0 0) 2
 else if k = 25 \/ k = 26 then Zcr ws ws.length
 else ws.getD 0 0
def Ysz (k : Int) (n : Nat) : Prop :=
 ((k = 20 \/ k = 21 \/ k = 3 \/ k = 4 \/ k = 23 \/ k = 24) -> 2 <= n) /\
 ((k = 2 \/ k = 5 \/ k = 6 \/ k = 9 \/ k = 10 \/ k = 11 \/ k = 17 \/ k = 18 \/ k = 19 \/ k = 22) -> 1 <= n)
theorem Ykt (k n c : Int) (hk : 1 <= k /\ k < 27) (v : Value) (ws : List Int) (w : World) (hv : Yzr w v ws) (hL : ws.length <= 1000000000000000000) (hws : ∀ i, i < ws.length -> 0 <= ws.getD i 0 /\ ws.getD i 0 <= 1000000000000000000) (hn : Ysz k ws.length) :
 Calls Try.prog 87 #[.agg #[.int .i64 k, .int .i64 n, .int .i64 c], v] w fun e w' => e = .returned (.int .i64 (Zeh k ws)) /\ w.grownBy w' none := by
 have hv0 := hv
 obtain ⟨p, cap, rfl, hel⟩ := hv
 obtain ⟨n2, n1⟩ := hn
 unfold Zeh
 by_cases cA : k = 12 \/ k = 13 \/ k = 14 \/ k = 15 \/ k = 16
 · rw [if_pos cA]; exact Ywk k n c cA p cap _ w
 rw [if_neg cA]
 by_cases cF : k = 1 \/ k = 7 \/ k = 8
 · rw [if_pos cF]; exact Ywf k n c cF p cap _ w
 rw [if_neg cF]
 by_cases cB : k = 20 \/ k = 21 \/ k = 3 \/ k = 4
 · rw [if_pos cB]
   have h2 := n2 (by omega)
   obtain ⟨b, off, rfl, hb, hc⟩ := hel (by omega)
   exact Ywj k n c cB b off cap _ _ _ h2 hL (hws 1 (by omega)) w hb (hc 0 (by omega)) (hc 1 (by omega))
 rw [if_neg cB]
 by_cases cD : k = 23 \/ k = 24
 · rw [if_pos cD]
   have h2 := n2 (by omega)
   obtain ⟨b, off, rfl, hb, hc⟩ := hel (by omega)
   exact Ywh k n c cD b off cap _ _ _ h2 hL (hws 1 (by omega)) w hb (hc 0 (by omega)) (hc 1 (by omega))
 rw [if_neg cD]
 by_cases cC : k = 22
 · rw [if_pos cC]
   have h2 := n1 (by omega)
   obtain ⟨b, off, rfl, hb, hc⟩ := hel (by omega)
   exact Ywi k n c cC b off cap _ _ h2 hL w hb (hc 0 (by omega))
 rw [if_neg cC]
 by_cases cE : k = 25 \/ k = 26
 · rw [if_pos cE]
   exact Ywg k n c cE _ ws w hv0 hL hws
 rw [if_neg cE]
 have hkG : k = 2 \/ k = 5 \/ k = 6 \/ k = 9 \/ k = 10 \/ k = 11 \/ k = 17 \/ k = 18 \/ k = 19 := by omega
 have h2 := n1 (by omega)
 obtain ⟨b, off, rfl, hb, hc⟩ := hel (by omega)
 exact Ywe k n c hkG b off cap _ _ h2 hL w hb (hc 0 (by omega))
theorem Zpn (ws : List Int) (hws : ∀ i, i < ws.length -> 0 <= ws.getD i 0) : ∀ k, k <= ws.length -> 1 <= Zcr ws k
 | 0, _ => by unfold Zcr; omega
 | k + 1, h => by
   have := Zpn ws hws k (by omega)
   rw [Zcc]; omega
theorem Zky (ws : List Int) (B : Int) (hB : 0 <= B) (hws : ∀ i, i < ws.length -> ws.getD i 0 <= B) : ∀ k, k <= ws.length -> Zcr ws k <= B + 1 + (k : Int)
 | 0, _ => by unfold Zcr; omega
 | k + 1, h => by
   have := Zky ws B hB hws k (by omega)
   have := hws k (by omega)
   rw [Zcc]; omega
theorem Yil (ws : List Int) (B : Int) (hB : 0 <= B) (hws : ∀ i, i < ws.length -> 0 <= ws.getD i 0 /\ ws.getD i 0 <= B) (i : Nat) : 0 <= ws.getD i 0 /\ ws.getD i 0 <= B := by
 by_cases h : i < ws.length
 · exact hws i h
 · have : ws.getD i 0 = 0 := by simp [List.getD, List.getElem?_eq_none (by omega : ws.length <= i)]
   omega
theorem Zmp (k : Int) (ws : List Int) (B : Int) (hB : 0 <= B) (hws : ∀ i, i < ws.length -> 0 <= ws.getD i 0 /\ ws.getD i 0 <= B) :
 0 <= Zeh k ws /\ Zeh k ws <= B + 2 + (ws.length : Int) := by
 have g0 := Yil ws B hB hws 0
 have g1 := Yil ws B hB hws 1
 have m0 := Zpn ws (fun i h => (hws i h).1) ws.length (Nat.le_refl _)
 have m1 := Zky ws B hB (fun i h => (hws i h).2) ws.length (Nat.le_refl _)
 unfold Zeh
 repeat' split
 all_goals omega
structure St where
 a : Nat
 l : Int
 m : Int
def Zbd (P : Int -> St -> Int × Int × St) (k : Int) : Nat -> Nat -> St -> List Int -> List Int × Int × St
 | 0, _, s, ws => (ws, 0, s)
 | r + 1, i, s, ws =>
   if (P (Zdr k i) (if k = 6 /\ i = 1 then ⟨s.a, s.l + 1, s.m⟩ else s)).2.1 ≠ 0 then (ws, (P (Zdr k i) (if k = 6 /\ i = 1 then ⟨s.a, s.l + 1, s.m⟩ else s)).2.1, (P (Zdr k i) (if k = 6 /\ i = 1 then ⟨s.a, s.l + 1, s.m⟩ else s)).2.2)
   else Zbd P k r (i + 1) (if k = 6 /\ i = 1 then ⟨(P (Zdr k i) (if k = 6 /\ i = 1 then ⟨s.a, s.l + 1, s.m⟩ else s)).2.2.a, (P (Zdr k i) (if k = 6 /\ i = 1 then ⟨s.a, s.l + 1, s.m⟩ else s)).2.2.l - 1, (P (Zdr k i) (if k = 6 /\ i = 1 then ⟨s.a, s.l + 1, s.m⟩ else s)).2.2.m⟩ else (P (Zdr k i) (if k = 6 /\ i = 1 then ⟨s.a, s.l + 1, s.m⟩ else s)).2.2) (ws ++ [(P (Zdr k i) (if k = 6 /\ i = 1 then ⟨s.a, s.l + 1, s.m⟩ else s)).1])
def Zv (k : Int) (i : Nat) (s : St) : St := if k = 6 /\ i = 1 then ⟨s.a, s.l + 1, s.m⟩ else s
def Yd (k : Int) (i : Nat) (s : St) : St := if k = 6 /\ i = 1 then ⟨s.a, s.l - 1, s.m⟩ else s
theorem Zhu (P : Int -> St -> Int × Int × St) (k : Int) (i : Nat) (s : St) (ws : List Int) : Zbd P k 0 i s ws = (ws, 0, s) := rfl
theorem Zew (P : Int -> St -> Int × Int × St) (k : Int) (r i : Nat) (s : St) (ws : List Int) (h : (P (Zdr k i) (Zv k i s)).2.1 ≠ 0) :
 Zbd P k (r + 1) i s ws = (ws, (P (Zdr k i) (Zv k i s)).2.1, (P (Zdr k i) (Zv k i s)).2.2) := by
 unfold Zv at *
 rw [Zbd, if_pos h]
theorem Zdg (P : Int -> St -> Int × Int × St) (k : Int) (r i : Nat) (s : St) (ws : List Int) (h : (P (Zdr k i) (Zv k i s)).2.1 = 0) :
 Zbd P k (r + 1) i s ws = Zbd P k r (i + 1) (Yd k i (P (Zdr k i) (Zv k i s)).2.2) (ws ++ [(P (Zdr k i) (Zv k i s)).1]) := by
 unfold Zv Yd at *
 rw [Zbd, if_neg (by omega)]
def Yp (nl nt : Nat) (fs : List Int) (ps : List (Int × Int × Int)) : Nat -> Int -> St -> Int × Int × St
 | 0, what, s =>
   match ps[s.a]? with
   | none => (0, 171, s)
   | some (k, n, kc) => if Xu nl nt fs s.l k n kc what ≠ 0 then (0, Xu nl nt fs s.l k n kc what, s) else (0, 175, s)
 | g + 1, what, s =>
   match ps[s.a]? with
   | none => (0, 171, s)
   | some (k, n, kc) =>
     if Xu nl nt fs s.l k n kc what ≠ 0 then (0, Xu nl nt fs s.l k n kc what, s) else
     if (Zbd (Yp nl nt fs ps g) k kc.toNat 0 ⟨s.a + 1, s.l, s.m⟩ []).2.1 ≠ 0 then (0, (Zbd (Yp nl nt fs ps g) k kc.toNat 0 ⟨s.a + 1, s.l, s.m⟩ []).2.1, s) else
     (Zeh k (Zbd (Yp nl nt fs ps g) k kc.toNat 0 ⟨s.a + 1, s.l, s.m⟩ []).1, 0,
       ⟨(Zbd (Yp nl nt fs ps g) k kc.toNat 0 ⟨s.a + 1, s.l, s.m⟩ []).2.2.a, (Zbd (Yp nl nt fs ps g) k kc.toNat 0 ⟨s.a + 1, s.l, s.m⟩ []).2.2.l,
         max (Zbd (Yp nl nt fs ps g) k kc.toNat 0 ⟨s.a + 1, s.l, s.m⟩ []).2.2.m (Zeh k (Zbd (Yp nl nt fs ps g) k kc.toNat 0 ⟨s.a + 1, s.l, s.m⟩ []).1)⟩)
theorem Zgp (nl nt : Nat) (fs : List Int) (ps : List (Int × Int × Int)) (g : Nat) (what : Int) (s : St) (h : ps.length <= s.a) : Yp nl nt fs ps g what s = (0, 171, s) := by
 cases g <;> rw [Yp, List.getElem?_eq_none h]
theorem Zet (nl nt : Nat) (fs : List Int) (ps : List (Int × Int × Int)) (g : Nat) (what : Int) (s : St) (k n kc : Int) (h : ps[s.a]? = some (k, n, kc)) (he : Xu nl nt fs s.l k n kc what ≠ 0) :
 Yp nl nt fs ps g what s = (0, Xu nl nt fs s.l k n kc what, s) := by
 cases g <;> rw [Yp, h] <;> simp only [] <;> rw [if_pos he]
theorem Zph (nl nt : Nat) (fs : List Int) (ps : List (Int × Int × Int)) (what : Int) (s : St) (k n kc : Int) (h : ps[s.a]? = some (k, n, kc)) (he : Xu nl nt fs s.l k n kc what = 0) :
 Yp nl nt fs ps 0 what s = (0, 175, s) := by
 rw [Yp, h]; simp only []; rw [if_neg (by omega)]
theorem Zhq (nl nt : Nat) (fs : List Int) (ps : List (Int × Int × Int)) (g : Nat) (what : Int) (s : St) (k n kc : Int) (h : ps[s.a]? = some (k, n, kc)) (he : Xu nl nt fs s.l k n kc what = 0) (r : List Int × Int × St)
 (hr : Zbd (Yp nl nt fs ps g) k kc.toNat 0 ⟨s.a + 1, s.l, s.m⟩ [] = r) :
 Yp nl nt fs ps (g + 1) what s = if r.2.1 ≠ 0 then (0, r.2.1, s) else (Zeh k r.1, 0, ⟨r.2.2.a, r.2.2.l, max r.2.2.m (Zeh k r.1)⟩) := by
 rw [Yp, h]; simp only []; rw [if_neg (by omega), hr]
structure Yvm (np : Nat) (g : Nat) (s : St) (q : Int × Int × St) : Prop where
 a1 : s.a < q.2.2.a
 a2 : q.2.2.a <= np
 l : q.2.2.l = s.l
 w0 : 0 <= q.1
 w1 : q.1 <= ((g : Int) + 1) * 70368744177664
 m : q.2.2.m = max s.m q.2.2.m
 m1 : q.2.2.m <= max s.m (((g : Int) + 1) * 70368744177664)
structure Xce (np : Nat) (g : Nat) (s : St) (i : Nat) (ws : List Int) (r : List Int × Int × St) (n : Nat) : Prop where
 a1 : s.a + n <= r.2.2.a
 a2 : r.2.2.a <= np
 l : r.2.2.l = s.l
 len : r.1.length = ws.length + n
 w : ∀ j, j < r.1.length -> 0 <= r.1.getD j 0 /\ r.1.getD j 0 <= (g : Int) * 70368744177664
 m : r.2.2.m = max s.m r.2.2.m
 m1 : r.2.2.m <= max s.m ((g : Int) * 70368744177664)
theorem Zpd (ws : List Int) (x B : Int) (hws : ∀ j, j < ws.length -> 0 <= ws.getD j 0 /\ ws.getD j 0 <= B) (hx : 0 <= x /\ x <= B) : ∀ j, j < (ws ++ [x]).length -> 0 <= (ws ++ [x]).getD j 0 /\ (ws ++ [x]).getD j 0 <= B := by
 intro j hj
 by_cases h : j < ws.length
 · have : (ws ++ [x]).getD j 0 = ws.getD j 0 := by simp [List.getD, List.getElem?_append_left h]
   rw [this]; exact hws j h
 · have e : j = ws.length := by simp at hj; omega
   have : (ws ++ [x]).getD j 0 = x := by simp [List.getD, e]
   rw [this]; exact hx
theorem Zig (np g : Nat) (P : Int -> St -> Int × Int × St) (k : Int) (hP : ∀ what s, s.a <= np -> (P what s).2.1 = 0 -> Yvm np g s (P what s)) :
 ∀ n i s ws, s.a <= np -> (∀ j, j < ws.length -> 0 <= ws.getD j 0 /\ ws.getD j 0 <= ((g : Int) + 1) * 70368744177664) -> (Zbd P k n i s ws).2.1 = 0 -> Xce np (g + 1) s i ws (Zbd P k n i s ws) n
 | 0, i, s, ws, ha, hws, _ => by
   rw [Zhu]
   refine ⟨by simp, ha, rfl, by simp, ?_, by simp, by simp only []; omega⟩
   intro j hj
   have := hws j hj
   push_cast
   exact this
 | n + 1, i, s, ws, ha, hws, he => by
   by_cases hb : (P (Zdr k i) (Zv k i s)).2.1 = 0
   · rw [Zdg P k n i s ws hb] at he ⊢
     have G := hP _ _ (by unfold Zv; split <;> exact ha) hb
     have hl : (Yd k i (P (Zdr k i) (Zv k i s)).2.2).l = s.l := by
      have := G.l
      generalize P (Zdr k i) (Zv k i s) = q at this
      by_cases c : k = 6 /\ (i : Nat) = 1
      · have e1 : (Zv k i s).l = s.l + 1 := by unfold Zv; rw [if_pos c]
        have e2 : (Yd k i q.2.2).l = q.2.2.l - 1 := by unfold Yd; rw [if_pos c]
        omega
      · have e1 : (Zv k i s).l = s.l := by unfold Zv; rw [if_neg c]
        have e2 : (Yd k i q.2.2).l = q.2.2.l := by unfold Yd; rw [if_neg c]
        omega
     have haS : (Zv k i s).a = s.a := by unfold Zv; split <;> rfl
     have hmS : (Zv k i s).m = s.m := by unfold Zv; split <;> rfl
     have haO : ∀ s, (Yd k i s).a = s.a := by intro s; unfold Yd; split <;> rfl
     have hmO : ∀ s, (Yd k i s).m = s.m := by intro s; unfold Yd; split <;> rfl
     have R := Zig np g P k hP n (i + 1) _ _ (by rw [haO]; exact G.a2) (Zpd ws _ _ hws ⟨G.w0, G.w1⟩) he
     have g1 := G.a1
     have g2 := G.m
     have g3 := G.m1
     obtain ⟨r1, r2, r3, r4, r5, r6, r7⟩ := R
     rw [haO] at r1
     rw [hmO] at r6 r7
     rw [haS] at g1
     rw [hmS] at g2 g3
     generalize Zbd P k n (i + 1) _ _ = r at *
     refine ⟨by omega, r2, by rw [r3, hl], by rw [List.length_append, List.length_singleton] at r4; omega, r5, ?_, ?_⟩
     · omega
     · push_cast at r7 ⊢; omega
   · rw [Zew P k n i s ws hb] at he
     exact absurd he hb
theorem Yma (nl nt : Nat) (fs : List Int) (l k n kc what : Int) (h : Xu nl nt fs l k n kc what = 0) : Ysz k kc.toNat /\ 1 <= k /\ k < 27 := by
 unfold Xu at h
 split at h
 · exact absurd h (by decide)
 split at h
 · exact absurd h (by decide)
 split at h
 · rename_i hx; exact absurd h hx
 refine ⟨?_, by omega, by omega⟩
 unfold Zex at h
 unfold Ysz
 constructor
 · intro hk
   rw [if_neg (by omega), if_neg (by omega), if_neg (by omega), if_neg (by omega), if_neg (by omega), if_pos (by omega)] at h
   split at h
   · omega
   · exact absurd h (by decide)
 · intro hk
   by_cases h5 : k = 5
   · rw [if_neg (by omega), if_neg (by omega), if_neg (by omega), if_pos (by omega)] at h
     split at h
     · omega
     · exact absurd h (by decide)
   · by_cases h6 : k = 6
     · rw [if_neg (by omega), if_neg (by omega), if_neg (by omega), if_neg (by omega), if_neg (by omega), if_pos (by omega)] at h
       split at h
       · omega
       · exact absurd h (by decide)
     · rw [if_neg (by omega), if_neg (by omega), if_neg (by omega), if_neg (by omega), if_pos (by omega)] at h
       split at h
       · omega
       · exact absurd h (by decide)
theorem Zkh (nl nt : Nat) (fs : List Int) (ps : List (Int × Int × Int)) (hps : ps.length <= 17592186044416) : ∀ g what s, s.a <= ps.length -> (Yp nl nt fs ps g what s).2.1 = 0 -> Yvm ps.length g s (Yp nl nt fs ps g what s)
 | 0, what, s, ha, he => by
   by_cases c1 : ps.length <= s.a
   · rw [Zgp nl nt fs ps 0 what s c1] at he; exact absurd he (by simp)
   obtain ⟨⟨k, n, kc⟩, hp⟩ : ∃ x, ps[s.a]? = some x := ⟨_, List.getElem?_eq_getElem (by omega)⟩
   by_cases c2 : Xu nl nt fs s.l k n kc what = 0
   · rw [Zph nl nt fs ps what s k n kc hp c2] at he; exact absurd he (by simp)
   · rw [Zet nl nt fs ps 0 what s k n kc hp c2] at he; exact absurd he c2
 | g + 1, what, s, ha, he => by
   by_cases c1 : ps.length <= s.a
   · rw [Zgp nl nt fs ps _ what s c1] at he; exact absurd he (by simp)
   obtain ⟨⟨k, n, kc⟩, hp⟩ : ∃ x, ps[s.a]? = some x := ⟨_, List.getElem?_eq_getElem (by omega)⟩
   by_cases c2 : Xu nl nt fs s.l k n kc what = 0
   · have L := Zig ps.length g (Yp nl nt fs ps g) k (fun what s h h0 => Zkh nl nt fs ps hps g what s h h0) kc.toNat 0 ⟨s.a + 1, s.l, s.m⟩ [] (by simp only []; omega) (fun j hj => absurd hj (by simp))
     rw [Zhq nl nt fs ps g what s k n kc hp c2 _ rfl] at he ⊢
     generalize Zbd (Yp nl nt fs ps g) k kc.toNat 0 ⟨s.a + 1, s.l, s.m⟩ [] = r at *
     by_cases c3 : r.2.1 = 0
     · rw [if_neg (by omega)]
       obtain ⟨r1, r2, r3, r4, r5, r6, r7⟩ := L c3
       have W := Zmp k r.1 _ (by omega) r5
       simp only [List.length_nil, Nat.zero_add] at r4
       simp only [] at r1 r3 r6 r7
       have hb : r.1.length <= 17592186044416 := by omega
       refine ⟨by simp only []; omega, r2, r3, W.1, ?_, ?_, ?_⟩
       · simp only []; push_cast at W ⊢; omega
       · simp only []; omega
       · simp only []; push_cast at W r7 ⊢; omega
     · rw [if_pos c3] at he; exact absurd he c3
   · rw [Zet nl nt fs ps _ what s k n kc hp c2] at he; exact absurd he c2
end Go.Proofs.Ytecaolkbllbokaa.TG
