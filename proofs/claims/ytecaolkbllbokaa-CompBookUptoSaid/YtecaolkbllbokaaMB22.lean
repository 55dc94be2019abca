/-
  Walks of the reference checker's number. Conditions: as each theorem states.
-/
import Derived.Test.YtecaolkbllbokaaMB21
import Derived.Deep.QuietTactic
import Derived.BigQuiet
namespace Go.Proofs.Ytecaolkbllbokaa.TG
open Go.RowKit Go.Great
set_option linter.unusedSimpArgs false
set_option linter.unusedVariables false

set_option maxRecDepth 100000 in
set_option maxHeartbeats 2000000 in
theorem rnum_2a (n kc loops : Int) (h0 : n < 0) (Bc nt nf nl ct cf cl a : Nat) (pt pf pl : Option Addr) (nm : ByteArray) (ar e m : Int) (vp : Value) (w : World) (h : CkR w Bc (.slice pt nt ct) (.slice pf nf cf) nm ar (.slice pl nl cl) vp a e m) :
    Calls Try.prog 104 #[.pointer (some ⟨Bc, 0, none⟩), .agg #[.int .i64 2, .int .i64 n, .int .i64 kc], .int .i64 loops] w fun e w' => e = .returned (.int .i64 173) ∧ w.grownBy w' none := by
  have c0 := cell_of_row w Bc 0 _ _ _ h
  have c1 := cell_of_row w Bc 1 _ _ _ h
  have c4 := cell_of_row w Bc 4 _ _ _ h
  have lt := (Array.getElem?_eq_some_iff.1 h).1
  have GA := Lib.hid (World.grownBy_alloc w (.cells #[.int .i64 2, .int .i64 n, .int .i64 kc] 108) none)
  clear h
  go_enter Try.func104, Try.ntmps104
  go_wp2
  go_quiet (fail)
  go_wp2
  go_ret
  exact ⟨rfl, grownBy_trans GA.out (grownBy_drewN _ _ none)⟩

set_option maxRecDepth 100000 in
set_option maxHeartbeats 2000000 in
theorem rnum_2b (n kc loops : Int) (h0 : ¬ n < 0) (Bc nt nf nl ct cf cl a : Nat) (pt pf pl : Option Addr) (nm : ByteArray) (ar e m : Int) (vp : Value) (h1 : (nl : Int) ≤ n) (w : World) (h : CkR w Bc (.slice pt nt ct) (.slice pf nf cf) nm ar (.slice pl nl cl) vp a e m) :
    Calls Try.prog 104 #[.pointer (some ⟨Bc, 0, none⟩), .agg #[.int .i64 2, .int .i64 n, .int .i64 kc], .int .i64 loops] w fun e w' => e = .returned (.int .i64 173) ∧ w.grownBy w' none := by
  have c0 := cell_of_row w Bc 0 _ _ _ h
  have c1 := cell_of_row w Bc 1 _ _ _ h
  have c4 := cell_of_row w Bc 4 _ _ _ h
  have lt := (Array.getElem?_eq_some_iff.1 h).1
  have GA := Lib.hid (World.grownBy_alloc w (.cells #[.int .i64 2, .int .i64 n, .int .i64 kc] 108) none)
  clear h
  go_enter Try.func104, Try.ntmps104
  go_wp2
  go_quiet (fail)
  go_wp2
  go_ret
  exact ⟨rfl, grownBy_trans GA.out (grownBy_drewN _ _ none)⟩

set_option maxRecDepth 100000 in
set_option maxHeartbeats 2000000 in
theorem rnum_2c (n kc loops : Int) (h0 : ¬ n < 0) (Bc nt nf nl ct cf cl a : Nat) (pt pf pl : Option Addr) (nm : ByteArray) (ar e m : Int) (vp : Value) (h1 : ¬ (nl : Int) ≤ n) (w : World) (h : CkR w Bc (.slice pt nt ct) (.slice pf nf cf) nm ar (.slice pl nl cl) vp a e m) :
    Calls Try.prog 104 #[.pointer (some ⟨Bc, 0, none⟩), .agg #[.int .i64 2, .int .i64 n, .int .i64 kc], .int .i64 loops] w fun e w' => e = .returned (.int .i64 0) ∧ w.grownBy w' none := by
  have c0 := cell_of_row w Bc 0 _ _ _ h
  have c1 := cell_of_row w Bc 1 _ _ _ h
  have c4 := cell_of_row w Bc 4 _ _ _ h
  have lt := (Array.getElem?_eq_some_iff.1 h).1
  have GA := Lib.hid (World.grownBy_alloc w (.cells #[.int .i64 2, .int .i64 n, .int .i64 kc] 108) none)
  clear h
  go_enter Try.func104, Try.ntmps104
  go_wp2
  go_quiet (fail)
  go_wp2
  go_ret
  exact ⟨rfl, grownBy_trans GA.out (grownBy_drewN _ _ none)⟩

set_option maxRecDepth 100000 in
set_option maxHeartbeats 2000000 in
theorem rnum_13a (n kc loops : Int) (h0 : n < 0) (Bc nt nf nl ct cf cl a : Nat) (pt pf pl : Option Addr) (nm : ByteArray) (ar e m : Int) (vp : Value) (w : World) (h : CkR w Bc (.slice pt nt ct) (.slice pf nf cf) nm ar (.slice pl nl cl) vp a e m) :
    Calls Try.prog 104 #[.pointer (some ⟨Bc, 0, none⟩), .agg #[.int .i64 13, .int .i64 n, .int .i64 kc], .int .i64 loops] w fun e w' => e = .returned (.int .i64 173) ∧ w.grownBy w' none := by
  have c0 := cell_of_row w Bc 0 _ _ _ h
  have c1 := cell_of_row w Bc 1 _ _ _ h
  have c4 := cell_of_row w Bc 4 _ _ _ h
  have lt := (Array.getElem?_eq_some_iff.1 h).1
  have GA := Lib.hid (World.grownBy_alloc w (.cells #[.int .i64 13, .int .i64 n, .int .i64 kc] 108) none)
  clear h
  go_enter Try.func104, Try.ntmps104
  go_wp2
  go_quiet (fail)
  go_wp2
  go_ret
  exact ⟨rfl, grownBy_trans GA.out (grownBy_drewN _ _ none)⟩

set_option maxRecDepth 100000 in
set_option maxHeartbeats 2000000 in
theorem rnum_13b (n kc loops : Int) (h0 : ¬ n < 0) (Bc nt nf nl ct cf cl a : Nat) (pt pf pl : Option Addr) (nm : ByteArray) (ar e m : Int) (vp : Value) (h1 : (nl : Int) ≤ n) (w : World) (h : CkR w Bc (.slice pt nt ct) (.slice pf nf cf) nm ar (.slice pl nl cl) vp a e m) :
    Calls Try.prog 104 #[.pointer (some ⟨Bc, 0, none⟩), .agg #[.int .i64 13, .int .i64 n, .int .i64 kc], .int .i64 loops] w fun e w' => e = .returned (.int .i64 173) ∧ w.grownBy w' none := by
  have c0 := cell_of_row w Bc 0 _ _ _ h
  have c1 := cell_of_row w Bc 1 _ _ _ h
  have c4 := cell_of_row w Bc 4 _ _ _ h
  have lt := (Array.getElem?_eq_some_iff.1 h).1
  have GA := Lib.hid (World.grownBy_alloc w (.cells #[.int .i64 13, .int .i64 n, .int .i64 kc] 108) none)
  clear h
  go_enter Try.func104, Try.ntmps104
  go_wp2
  go_quiet (fail)
  go_wp2
  go_ret
  exact ⟨rfl, grownBy_trans GA.out (grownBy_drewN _ _ none)⟩

set_option maxRecDepth 100000 in
set_option maxHeartbeats 2000000 in
theorem rnum_13c (n kc loops : Int) (h0 : ¬ n < 0) (Bc nt nf nl ct cf cl a : Nat) (pt pf pl : Option Addr) (nm : ByteArray) (ar e m : Int) (vp : Value) (h1 : ¬ (nl : Int) ≤ n) (w : World) (h : CkR w Bc (.slice pt nt ct) (.slice pf nf cf) nm ar (.slice pl nl cl) vp a e m) :
    Calls Try.prog 104 #[.pointer (some ⟨Bc, 0, none⟩), .agg #[.int .i64 13, .int .i64 n, .int .i64 kc], .int .i64 loops] w fun e w' => e = .returned (.int .i64 0) ∧ w.grownBy w' none := by
  have c0 := cell_of_row w Bc 0 _ _ _ h
  have c1 := cell_of_row w Bc 1 _ _ _ h
  have c4 := cell_of_row w Bc 4 _ _ _ h
  have lt := (Array.getElem?_eq_some_iff.1 h).1
  have GA := Lib.hid (World.grownBy_alloc w (.cells #[.int .i64 13, .int .i64 n, .int .i64 kc] 108) none)
  clear h
  go_enter Try.func104, Try.ntmps104
  go_wp2
  go_quiet (fail)
  go_wp2
  go_ret
  exact ⟨rfl, grownBy_trans GA.out (grownBy_drewN _ _ none)⟩

set_option maxRecDepth 100000 in
set_option maxHeartbeats 2000000 in
theorem rnum_14a (n kc loops : Int) (h0 : n < 0) (Bc nt nf nl ct cf cl a : Nat) (pt pf pl : Option Addr) (nm : ByteArray) (ar e m : Int) (vp : Value) (w : World) (h : CkR w Bc (.slice pt nt ct) (.slice pf nf cf) nm ar (.slice pl nl cl) vp a e m) :
    Calls Try.prog 104 #[.pointer (some ⟨Bc, 0, none⟩), .agg #[.int .i64 14, .int .i64 n, .int .i64 kc], .int .i64 loops] w fun e w' => e = .returned (.int .i64 173) ∧ w.grownBy w' none := by
  have c0 := cell_of_row w Bc 0 _ _ _ h
  have c1 := cell_of_row w Bc 1 _ _ _ h
  have c4 := cell_of_row w Bc 4 _ _ _ h
  have lt := (Array.getElem?_eq_some_iff.1 h).1
  have GA := Lib.hid (World.grownBy_alloc w (.cells #[.int .i64 14, .int .i64 n, .int .i64 kc] 108) none)
  clear h
  go_enter Try.func104, Try.ntmps104
  go_wp2
  go_quiet (fail)
  go_wp2
  go_ret
  exact ⟨rfl, grownBy_trans GA.out (grownBy_drewN _ _ none)⟩

set_option maxRecDepth 100000 in
set_option maxHeartbeats 2000000 in
theorem rnum_14b (n kc loops : Int) (h0 : ¬ n < 0) (Bc nt nf nl ct cf cl a : Nat) (pt pf pl : Option Addr) (nm : ByteArray) (ar e m : Int) (vp : Value) (h1 : (nt : Int) ≤ n) (w : World) (h : CkR w Bc (.slice pt nt ct) (.slice pf nf cf) nm ar (.slice pl nl cl) vp a e m) :
    Calls Try.prog 104 #[.pointer (some ⟨Bc, 0, none⟩), .agg #[.int .i64 14, .int .i64 n, .int .i64 kc], .int .i64 loops] w fun e w' => e = .returned (.int .i64 173) ∧ w.grownBy w' none := by
  have c0 := cell_of_row w Bc 0 _ _ _ h
  have c1 := cell_of_row w Bc 1 _ _ _ h
  have c4 := cell_of_row w Bc 4 _ _ _ h
  have lt := (Array.getElem?_eq_some_iff.1 h).1
  have GA := Lib.hid (World.grownBy_alloc w (.cells #[.int .i64 14, .int .i64 n, .int .i64 kc] 108) none)
  clear h
  go_enter Try.func104, Try.ntmps104
  go_wp2
  go_quiet (fail)
  go_wp2
  go_ret
  exact ⟨rfl, grownBy_trans GA.out (grownBy_drewN _ _ none)⟩

set_option maxRecDepth 100000 in
set_option maxHeartbeats 2000000 in
theorem rnum_14c (n kc loops : Int) (h0 : ¬ n < 0) (Bc nt nf nl ct cf cl a : Nat) (pt pf pl : Option Addr) (nm : ByteArray) (ar e m : Int) (vp : Value) (h1 : ¬ (nt : Int) ≤ n) (w : World) (h : CkR w Bc (.slice pt nt ct) (.slice pf nf cf) nm ar (.slice pl nl cl) vp a e m) :
    Calls Try.prog 104 #[.pointer (some ⟨Bc, 0, none⟩), .agg #[.int .i64 14, .int .i64 n, .int .i64 kc], .int .i64 loops] w fun e w' => e = .returned (.int .i64 0) ∧ w.grownBy w' none := by
  have c0 := cell_of_row w Bc 0 _ _ _ h
  have c1 := cell_of_row w Bc 1 _ _ _ h
  have c4 := cell_of_row w Bc 4 _ _ _ h
  have lt := (Array.getElem?_eq_some_iff.1 h).1
  have GA := Lib.hid (World.grownBy_alloc w (.cells #[.int .i64 14, .int .i64 n, .int .i64 kc] 108) none)
  clear h
  go_enter Try.func104, Try.ntmps104
  go_wp2
  go_quiet (fail)
  go_wp2
  go_ret
  exact ⟨rfl, grownBy_trans GA.out (grownBy_drewN _ _ none)⟩

end Go.Proofs.Ytecaolkbllbokaa.TG
