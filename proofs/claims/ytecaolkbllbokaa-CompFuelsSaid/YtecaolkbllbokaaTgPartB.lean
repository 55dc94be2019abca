/-
  Walks of the checker's part: where it refuses at the part itself. Conditions: as each theorem states.
-/
import Derived.Test.YtecaolkbllbokaaTgPartS
namespace Go.Proofs.Ytecaolkbllbokaa.TG
open Go.RowKit Go.Great
set_option linter.unusedSimpArgs false
set_option linter.unusedVariables false

set_option maxRecDepth 100000 in
set_option maxHeartbeats 2000000 in
theorem part_bad (deep : Int) (tc : TypeId) (what : Int) (Bc bf of cp cf nl cl nt ct : Nat) (pt pf pl pp : Option Addr) (fs : List Int) (hfs : fs.length ≤ 1000000) (ps : List (Int × Int × Int)) (hnp : ps.length ≤ 17592186044415) (s : St) (k n kc : Int) (hp : ps[s.a]? = some (k, n, kc)) (he : aloneE nl nt fs s.l k n kc what ≠ 0) (w : World)
    (hE : Env w Bc bf of (.slice pl nl cl) pp cp ps pf fs) (hB : BoxW tc w Bc bf of (.slice pt nt ct) (.slice pf fs.length cf) s) :
    Calls Try.prog 54 #[.pointer (some ⟨Bc, 0, none⟩), .int .i64 what, .int .i64 deep] w fun e w' => e = .returned (.tuple #[.int .i64 0, .int .i64 (aloneE nl nt fs s.l k n kc what)]) ∧ w.grownBy w' none := by
  have hja : s.a < ps.length := (List.getElem?_eq_some_iff.1 hp).1
  obtain ⟨bp, op, rfl, hpB, hpc⟩ := hE.pa (by omega)
  obtain ⟨p0, p1, p2⟩ := hpc _ _ _ _ hp
  have hbp : bp < w.heap.size := Nat.lt_trans hpB hE.lt
  have A := Lib.hid (fun w1 (g : w.grownBy w1 none) => alone_any k n kc what Bc bf of nl cl nt ct cf pt pf pl fs hfs _ _ _ _ w1 (chk_kept (env_chk hE hB) g) (funs_kept (env_funs hE) g))
  have EE := Lib.hid hE
  have BB := Lib.hid hB
  obtain ⟨hlt, hltf, hne, c0, c1, c2, c3, c4, c5, f2, f3⟩ := env_chk hE hB
  clear hE hB hpc hp
  have hji : (s.a : Int) < (ps.length : Int) := by omega
  generalize hea : aloneE nl nt fs s.l k n kc what = e0 at *
  go_enter Try.func54, Try.ntmps54
  go_wp2
  go_quiet (fail)
  go_wp2
  have hs : w.heap.size = (w.drewN nq).heap.size := by simp
  have g0 : w.grownBy (w.drewN nq) none := ⟨rfl, rfl, rfl, by simp, fun k hk _ => by simp⟩
  have GG := Lib.hid g0
  replace c0 := g0.cell c0 (by simp)
  replace c1 := g0.cell c1 (by simp)
  replace c2 := g0.cell c2 (by simp)
  replace c3 := g0.cell c3 (by simp)
  replace f3 := g0.cell f3 (by simp)
  replace p0 := g0.cell p0 (by simp)
  replace p1 := g0.cell p1 (by simp)
  replace p2 := g0.cell p2 (by simp)
  have hlt' : Bc < (w.drewN nq).heap.size := by rw [← hs]; exact hlt
  have hltf' : bf < (w.drewN nq).heap.size := by rw [← hs]; exact hltf
  have hbp' : bp < (w.drewN nq).heap.size := by rw [← hs]; exact hbp
  have HS := Lib.hid hs
  clear hs g0
  generalize w.drewN nq = w0 at *
  clear c4 c5 f2
  go_region
  have g1 : w.grownBy ((w0.alloc (.cells #[.int .i64 k, .int .i64 n, .int .i64 kc] 108)).drew) none := grownBy_trans GG.out (grownBy_drew (World.grownBy_alloc w0 _ none))
  have G1 := Lib.hid g1
  clear g1
  have b0 : (e0 != 0) = true := by simpa using he
  clear he
  go_wp2_with (go_at_call 85; refine (A.out _ G1.out).mono ?_; rintro e w1 ⟨rfl, hg⟩; have HG := Lib.hid hg; clear hg)
  refine bodyPost_ret (v := .tuple #[.int .i64 0, .int .i64 e0]) ?_ rfl ⟨rfl, ?_⟩
  · rw [results_tmp2 rfl]
    go_simp
  · exact grownBy_trans G1.out HG.out

set_option maxRecDepth 100000 in
set_option maxHeartbeats 2000000 in
theorem part_deep (deep : Int) (hd : 64 < deep) (tc : TypeId) (what : Int) (Bc bf of cp cf nl cl nt ct : Nat) (pt pf pl pp : Option Addr) (fs : List Int) (hfs : fs.length ≤ 1000000) (ps : List (Int × Int × Int)) (hnp : ps.length ≤ 17592186044415) (s : St) (k n kc : Int) (hp : ps[s.a]? = some (k, n, kc)) (he : aloneE nl nt fs s.l k n kc what = 0) (w : World)
    (hE : Env w Bc bf of (.slice pl nl cl) pp cp ps pf fs) (hB : BoxW tc w Bc bf of (.slice pt nt ct) (.slice pf fs.length cf) s) :
    Calls Try.prog 54 #[.pointer (some ⟨Bc, 0, none⟩), .int .i64 what, .int .i64 deep] w fun e w' => e = .returned (.tuple #[.int .i64 0, .int .i64 175]) ∧ w.grownBy w' none := by
  have hja : s.a < ps.length := (List.getElem?_eq_some_iff.1 hp).1
  obtain ⟨bp, op, rfl, hpB, hpc⟩ := hE.pa (by omega)
  obtain ⟨p0, p1, p2⟩ := hpc _ _ _ _ hp
  have hbp : bp < w.heap.size := Nat.lt_trans hpB hE.lt
  have A := Lib.hid (fun w1 (g : w.grownBy w1 none) => alone_any k n kc what Bc bf of nl cl nt ct cf pt pf pl fs hfs _ _ _ _ w1 (chk_kept (env_chk hE hB) g) (funs_kept (env_funs hE) g))
  have EE := Lib.hid hE
  have BB := Lib.hid hB
  obtain ⟨hlt, hltf, hne, c0, c1, c2, c3, c4, c5, f2, f3⟩ := env_chk hE hB
  clear hE hB hpc hp
  have hji : (s.a : Int) < (ps.length : Int) := by omega
  generalize hea : aloneE nl nt fs s.l k n kc what = e0 at *
  go_enter Try.func54, Try.ntmps54
  go_wp2
  go_quiet (fail)
  go_wp2
  have hs : w.heap.size = (w.drewN nq).heap.size := by simp
  have g0 : w.grownBy (w.drewN nq) none := ⟨rfl, rfl, rfl, by simp, fun k hk _ => by simp⟩
  have GG := Lib.hid g0
  replace c0 := g0.cell c0 (by simp)
  replace c1 := g0.cell c1 (by simp)
  replace c2 := g0.cell c2 (by simp)
  replace c3 := g0.cell c3 (by simp)
  replace f3 := g0.cell f3 (by simp)
  replace p0 := g0.cell p0 (by simp)
  replace p1 := g0.cell p1 (by simp)
  replace p2 := g0.cell p2 (by simp)
  have hlt' : Bc < (w.drewN nq).heap.size := by rw [← hs]; exact hlt
  have hltf' : bf < (w.drewN nq).heap.size := by rw [← hs]; exact hltf
  have hbp' : bp < (w.drewN nq).heap.size := by rw [← hs]; exact hbp
  have HS := Lib.hid hs
  clear hs g0
  generalize w.drewN nq = w0 at *
  clear c4 c5 f2
  go_region
  have g1 : w.grownBy ((w0.alloc (.cells #[.int .i64 k, .int .i64 n, .int .i64 kc] 108)).drew) none := grownBy_trans GG.out (grownBy_drew (World.grownBy_alloc w0 _ none))
  have G1 := Lib.hid g1
  clear g1
  subst he
  go_wp2_with (go_at_call 85; refine (A.out _ G1.out).mono ?_; rintro e w1 ⟨rfl, hg⟩; have HG := Lib.hid hg; clear hg)
  refine bodyPost_ret (v := .tuple #[.int .i64 0, .int .i64 175]) ?_ rfl ⟨rfl, ?_⟩
  · rw [results_tmp2 rfl]
    go_simp
  · exact grownBy_trans G1.out HG.out

end Go.Proofs.Ytecaolkbllbokaa.TG
