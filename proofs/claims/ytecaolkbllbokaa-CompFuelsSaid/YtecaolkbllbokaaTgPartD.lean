/-
  Walks of the checker's part: the whole, by how deep it stands; and all. Conditions: as each theorem states.
-/
import Derived.Test.YtecaolkbllbokaaTgPartB
import Derived.Test.YtecaolkbllbokaaTgPartC
namespace Go.Proofs.Ytecaolkbllbokaa.TG
open Go.RowKit Go.Great
set_option linter.unusedSimpArgs false
set_option linter.unusedVariables false

theorem part_any : ∀ (g : Nat) (hg : g ≤ 65) (tc : TypeId) (what : Int) (Bc bf of cp cf nl cl nt ct : Nat) (pt pf pl pp : Option Addr) (fs : List Int) (hfs : fs.length ≤ 1000000) (ps : List (Int × Int × Int)) (hnp : ps.length ≤ 17592186044415) (s : St)
    (ha : s.a ≤ ps.length) (h0 : 0 ≤ s.l) (h1 : s.l + g ≤ 67) (h2 : 0 ≤ s.m) (h3 : s.m ≤ 10000000000000000) (w : World)
    (hE : Env w Bc bf of (.slice pl nl cl) pp cp ps pf fs) (hB : BoxW tc w Bc bf of (.slice pt nt ct) (.slice pf fs.length cf) s),
    Calls Try.prog 54 #[.pointer (some ⟨Bc, 0, none⟩), .int .i64 what, .int .i64 (65 - (g : Int))] w (PartPost tc w Bc bf of (.slice pt nt ct) (.slice pf fs.length cf) (partE nl nt fs ps g what s)) := by
  intro g
  induction g with
  | zero =>
    intro hg tc what Bc bf of cp cf nl cl nt ct pt pf pl pp fs hfs ps hnp s ha h0 h1 h2 h3 w hE hB
    by_cases c1 : ps.length ≤ s.a
    · rw [partE_end nl nt fs ps 0 what s c1]
      exact (part_end what _ Bc bf of ps.length cp _ _ _ pp s.a s.l s.m (by omega) w (env_chk hE hB)).mono fun e w' h => ⟨h.1, grow_w h.2, fun h => absurd h (by simp)⟩
    obtain ⟨⟨k, n, kc⟩, hp⟩ : ∃ x, ps[s.a]? = some x := ⟨_, List.getElem?_eq_getElem (by omega)⟩
    by_cases c2 : aloneE nl nt fs s.l k n kc what = 0
    · rw [partE_deep nl nt fs ps what s k n kc hp c2]
      exact (part_deep _ (by omega) tc what Bc bf of cp cf nl cl nt ct pt pf pl pp fs hfs ps hnp s k n kc hp c2 w hE hB).mono fun e w' h => ⟨h.1, grow_w h.2, fun h => absurd h (by simp)⟩
    · rw [partE_bad nl nt fs ps 0 what s k n kc hp c2]
      exact (part_bad _ tc what Bc bf of cp cf nl cl nt ct pt pf pl pp fs hfs ps hnp s k n kc hp c2 w hE hB).mono fun e w' h => ⟨h.1, grow_w h.2, fun h => absurd h c2⟩
  | succ g ih =>
    intro hg tc what Bc bf of cp cf nl cl nt ct pt pf pl pp fs hfs ps hnp s ha h0 h1 h2 h3 w hE hB
    by_cases c1 : ps.length ≤ s.a
    · rw [partE_end nl nt fs ps _ what s c1]
      exact (part_end what _ Bc bf of ps.length cp _ _ _ pp s.a s.l s.m (by omega) w (env_chk hE hB)).mono fun e w' h => ⟨h.1, grow_w h.2, fun h => absurd h (by simp)⟩
    obtain ⟨⟨k, n, kc⟩, hp⟩ : ∃ x, ps[s.a]? = some x := ⟨_, List.getElem?_eq_getElem (by omega)⟩
    by_cases c2 : aloneE nl nt fs s.l k n kc what = 0
    · refine part_main g (by omega) _ (by push_cast; omega) tc what Bc bf of cp cf nl cl nt ct pt pf pl pp fs hfs ps hnp s k n kc hp c2 ⟨h0, by push_cast at h1; omega⟩ ⟨h2, h3⟩ ?_ w hE hB
      intro what' s' w' a0 a1 a2 a3 a4 hE' hB'
      have e : (65 : Int) - ((g + 1 : Nat) : Int) + 1 = 65 - (g : Int) := by push_cast; omega
      rw [e]
      exact ih (by omega) tc what' Bc bf of cp cf nl cl nt ct pt pf pl pp fs hfs ps hnp s' a0 a1 a2 a3 a4 w' hE' hB'
    · rw [partE_bad nl nt fs ps _ what s k n kc hp c2]
      exact (part_bad _ tc what Bc bf of cp cf nl cl nt ct pt pf pl pp fs hfs ps hnp s k n kc hp c2 w hE hB).mono fun e w' h => ⟨h.1, grow_w h.2, fun h => absurd h c2⟩

end Go.Proofs.Ytecaolkbllbokaa.TG
