/-
  Walks of the reference checker's number. Conditions: as each theorem states.
  Walks of the reference checker's number. Conditions: as each theorem states.
-/
import Derived.Test.YtecaolkbllbokaaMA30
import Derived.Deep.QuietTactic
import Derived.BigQuiet
namespace Go.Proofs.Ytecaolkbllbokaa.TG
open Go.RowKit Go.Great
set_option linter.unusedSimpArgs false
set_option linter.unusedVariables false

set_option maxRecDepth 100000 in
set_option maxHeartbeats 2000000 in
theorem rnum_15a (n kc loops : Int) (h0 : n < 0) (Bc nt nf nl ct cf cl a : Nat) (pt pf pl : Option Addr) (nm : ByteArray) (ar e m : Int) (vp : Value) (w : World) (h : CkR w Bc (.slice pt nt ct) (.slice pf nf cf) nm ar (.slice pl nl cl) vp a e m) :
    Calls Try.prog 104 #[.pointer (some ⟨Bc, 0, none⟩), .agg #[.int .i64 15, .int .i64 n, .int .i64 kc], .int .i64 loops] w fun e w' => e = .returned (.int .i64 173) ∧ w.grownBy w' none := by
  have c0 := cell_of_row w Bc 0 _ _ _ h
  have c1 := cell_of_row w Bc 1 _ _ _ h
  have c4 := cell_of_row w Bc 4 _ _ _ h
  have lt := (Array.getElem?_eq_some_iff.1 h).1
  have GA := Lib.hid (World.grownBy_alloc w (.cells #[.int .i64 15, .int .i64 n, .int .i64 kc] 108) none)
  clear h
  go_enter Try.func104, Try.ntmps104
  go_wp2
  go_quiet (fail)
  go_wp2
  go_ret
  exact ⟨rfl, grownBy_trans GA.out (grownBy_drewN _ _ none)⟩

set_option maxRecDepth 100000 in
set_option maxHeartbeats 2000000 in
theorem rnum_15b (n kc loops : Int) (h0 : ¬ n < 0) (Bc nt nf nl ct cf cl a : Nat) (pt pf pl : Option Addr) (nm : ByteArray) (ar e m : Int) (vp : Value) (h1 : (nt : Int) ≤ n) (w : World) (h : CkR w Bc (.slice pt nt ct) (.slice pf nf cf) nm ar (.slice pl nl cl) vp a e m) :
    Calls Try.prog 104 #[.pointer (some ⟨Bc, 0, none⟩), .agg #[.int .i64 15, .int .i64 n, .int .i64 kc], .int .i64 loops] w fun e w' => e = .returned (.int .i64 173) ∧ w.grownBy w' none := by
  have c0 := cell_of_row w Bc 0 _ _ _ h
  have c1 := cell_of_row w Bc 1 _ _ _ h
  have c4 := cell_of_row w Bc 4 _ _ _ h
  have lt := (Array.getElem?_eq_some_iff.1 h).1
  have GA := Lib.hid (World.grownBy_alloc w (.cells #[.int .i64 15, .int .i64 n, .int .i64 kc] 108) none)
  clear h
  go_enter Try.func104, Try.ntmps104
  go_wp2
  go_quiet (fail)
  go_wp2
  go_ret
  exact ⟨rfl, grownBy_trans GA.out (grownBy_drewN _ _ none)⟩

set_option maxRecDepth 100000 in
set_option maxHeartbeats 2000000 in
theorem rnum_15c (n kc loops : Int) (h0 : ¬ n < 0) (Bc nt nf nl ct cf cl a : Nat) (pt pf pl : Option Addr) (nm : ByteArray) (ar e m : Int) (vp : Value) (h1 : ¬ (nt : Int) ≤ n) (w : World) (h : CkR w Bc (.slice pt nt ct) (.slice pf nf cf) nm ar (.slice pl nl cl) vp a e m) :
    Calls Try.prog 104 #[.pointer (some ⟨Bc, 0, none⟩), .agg #[.int .i64 15, .int .i64 n, .int .i64 kc], .int .i64 loops] w fun e w' => e = .returned (.int .i64 0) ∧ w.grownBy w' none := by
  have c0 := cell_of_row w Bc 0 _ _ _ h
  have c1 := cell_of_row w Bc 1 _ _ _ h
  have c4 := cell_of_row w Bc 4 _ _ _ h
  have lt := (Array.getElem?_eq_some_iff.1 h).1
  have GA := Lib.hid (World.grownBy_alloc w (.cells #[.int .i64 15, .int .i64 n, .int .i64 kc] 108) none)
  clear h
  go_enter Try.func104, Try.ntmps104
  go_wp2
  go_quiet (fail)
  go_wp2
  go_ret
  exact ⟨rfl, grownBy_trans GA.out (grownBy_drewN _ _ none)⟩

set_option maxRecDepth 100000 in
set_option maxHeartbeats 2000000 in
theorem rnum_25a (n kc loops : Int) (h0 : n < 0) (Bc nt nf nl ct cf cl a : Nat) (pt pf pl : Option Addr) (nm : ByteArray) (ar e m : Int) (vp : Value) (w : World) (h : CkR w Bc (.slice pt nt ct) (.slice pf nf cf) nm ar (.slice pl nl cl) vp a e m) :
    Calls Try.prog 104 #[.pointer (some ⟨Bc, 0, none⟩), .agg #[.int .i64 25, .int .i64 n, .int .i64 kc], .int .i64 loops] w fun e w' => e = .returned (.int .i64 173) ∧ w.grownBy w' none := by
  have c0 := cell_of_row w Bc 0 _ _ _ h
  have c1 := cell_of_row w Bc 1 _ _ _ h
  have c4 := cell_of_row w Bc 4 _ _ _ h
  have lt := (Array.getElem?_eq_some_iff.1 h).1
  have GA := Lib.hid (World.grownBy_alloc w (.cells #[.int .i64 25, .int .i64 n, .int .i64 kc] 108) none)
  clear h
  go_enter Try.func104, Try.ntmps104
  go_wp2
  go_quiet (fail)
  go_wp2
  go_ret
  exact ⟨rfl, grownBy_trans GA.out (grownBy_drewN _ _ none)⟩

set_option maxRecDepth 100000 in
set_option maxHeartbeats 2000000 in
theorem rnum_25b (n kc loops : Int) (h0 : ¬ n < 0) (Bc nt nf nl ct cf cl a : Nat) (pt pf pl : Option Addr) (nm : ByteArray) (ar e m : Int) (vp : Value) (h1 : (nf : Int) ≤ n) (w : World) (h : CkR w Bc (.slice pt nt ct) (.slice pf nf cf) nm ar (.slice pl nl cl) vp a e m) :
    Calls Try.prog 104 #[.pointer (some ⟨Bc, 0, none⟩), .agg #[.int .i64 25, .int .i64 n, .int .i64 kc], .int .i64 loops] w fun e w' => e = .returned (.int .i64 173) ∧ w.grownBy w' none := by
  have c0 := cell_of_row w Bc 0 _ _ _ h
  have c1 := cell_of_row w Bc 1 _ _ _ h
  have c4 := cell_of_row w Bc 4 _ _ _ h
  have lt := (Array.getElem?_eq_some_iff.1 h).1
  have GA := Lib.hid (World.grownBy_alloc w (.cells #[.int .i64 25, .int .i64 n, .int .i64 kc] 108) none)
  clear h
  go_enter Try.func104, Try.ntmps104
  go_wp2
  go_quiet (fail)
  go_wp2
  go_ret
  exact ⟨rfl, grownBy_trans GA.out (grownBy_drewN _ _ none)⟩

set_option maxRecDepth 100000 in
set_option maxHeartbeats 2000000 in
theorem rnum_25c (n kc loops : Int) (h0 : ¬ n < 0) (Bc nt nf nl ct cf cl a : Nat) (pt pf pl : Option Addr) (nm : ByteArray) (ar e m : Int) (vp : Value) (h1 : ¬ (nf : Int) ≤ n) (w : World) (h : CkR w Bc (.slice pt nt ct) (.slice pf nf cf) nm ar (.slice pl nl cl) vp a e m) :
    Calls Try.prog 104 #[.pointer (some ⟨Bc, 0, none⟩), .agg #[.int .i64 25, .int .i64 n, .int .i64 kc], .int .i64 loops] w fun e w' => e = .returned (.int .i64 0) ∧ w.grownBy w' none := by
  have c0 := cell_of_row w Bc 0 _ _ _ h
  have c1 := cell_of_row w Bc 1 _ _ _ h
  have c4 := cell_of_row w Bc 4 _ _ _ h
  have lt := (Array.getElem?_eq_some_iff.1 h).1
  have GA := Lib.hid (World.grownBy_alloc w (.cells #[.int .i64 25, .int .i64 n, .int .i64 kc] 108) none)
  clear h
  go_enter Try.func104, Try.ntmps104
  go_wp2
  go_quiet (fail)
  go_wp2
  go_ret
  exact ⟨rfl, grownBy_trans GA.out (grownBy_drewN _ _ none)⟩

set_option maxRecDepth 100000 in
set_option maxHeartbeats 2000000 in
theorem rnum_7a (n kc loops : Int) (h0 : ¬ 0 ≤ n) (Bc nt nf nl ct cf cl a : Nat) (pt pf pl : Option Addr) (nm : ByteArray) (ar e m : Int) (vp : Value) (w : World) (h : CkR w Bc (.slice pt nt ct) (.slice pf nf cf) nm ar (.slice pl nl cl) vp a e m) :
    Calls Try.prog 104 #[.pointer (some ⟨Bc, 0, none⟩), .agg #[.int .i64 7, .int .i64 n, .int .i64 kc], .int .i64 loops] w fun e w' => e = .returned (.int .i64 171) ∧ w.grownBy w' none := by
  have c0 := cell_of_row w Bc 0 _ _ _ h
  have c1 := cell_of_row w Bc 1 _ _ _ h
  have c4 := cell_of_row w Bc 4 _ _ _ h
  have lt := (Array.getElem?_eq_some_iff.1 h).1
  have GA := Lib.hid (World.grownBy_alloc w (.cells #[.int .i64 7, .int .i64 n, .int .i64 kc] 108) none)
  clear h
  go_enter Try.func104, Try.ntmps104
  go_wp2
  go_ret
  exact ⟨rfl, GA.out⟩

set_option maxRecDepth 100000 in
set_option maxHeartbeats 2000000 in
theorem rnum_7b (n kc loops : Int) (h0 : 0 ≤ n) (h1 : n < loops) (Bc nt nf nl ct cf cl a : Nat) (pt pf pl : Option Addr) (nm : ByteArray) (ar e m : Int) (vp : Value) (w : World) (h : CkR w Bc (.slice pt nt ct) (.slice pf nf cf) nm ar (.slice pl nl cl) vp a e m) :
    Calls Try.prog 104 #[.pointer (some ⟨Bc, 0, none⟩), .agg #[.int .i64 7, .int .i64 n, .int .i64 kc], .int .i64 loops] w fun e w' => e = .returned (.int .i64 0) ∧ w.grownBy w' none := by
  have c0 := cell_of_row w Bc 0 _ _ _ h
  have c1 := cell_of_row w Bc 1 _ _ _ h
  have c4 := cell_of_row w Bc 4 _ _ _ h
  have lt := (Array.getElem?_eq_some_iff.1 h).1
  have GA := Lib.hid (World.grownBy_alloc w (.cells #[.int .i64 7, .int .i64 n, .int .i64 kc] 108) none)
  clear h
  go_enter Try.func104, Try.ntmps104
  go_wp2
  go_ret
  exact ⟨rfl, GA.out⟩

set_option maxRecDepth 100000 in
set_option maxHeartbeats 2000000 in
theorem rnum_7c (n kc loops : Int) (h0 : 0 ≤ n) (h1 : ¬ n < loops) (Bc nt nf nl ct cf cl a : Nat) (pt pf pl : Option Addr) (nm : ByteArray) (ar e m : Int) (vp : Value) (w : World) (h : CkR w Bc (.slice pt nt ct) (.slice pf nf cf) nm ar (.slice pl nl cl) vp a e m) :
    Calls Try.prog 104 #[.pointer (some ⟨Bc, 0, none⟩), .agg #[.int .i64 7, .int .i64 n, .int .i64 kc], .int .i64 loops] w fun e w' => e = .returned (.int .i64 171) ∧ w.grownBy w' none := by
  have c0 := cell_of_row w Bc 0 _ _ _ h
  have c1 := cell_of_row w Bc 1 _ _ _ h
  have c4 := cell_of_row w Bc 4 _ _ _ h
  have lt := (Array.getElem?_eq_some_iff.1 h).1
  have GA := Lib.hid (World.grownBy_alloc w (.cells #[.int .i64 7, .int .i64 n, .int .i64 kc] 108) none)
  clear h
  go_enter Try.func104, Try.ntmps104
  go_wp2
  go_ret
  exact ⟨rfl, GA.out⟩

end Go.Proofs.Ytecaolkbllbokaa.TG

namespace Go.Proofs.Ytecaolkbllbokaa.TG
open Go.RowKit Go.Great
set_option linter.unusedSimpArgs false
set_option linter.unusedVariables false

set_option maxRecDepth 100000 in
set_option maxHeartbeats 2000000 in
theorem rnum_8a (n kc loops : Int) (h0 : ¬ 0 ≤ n) (Bc nt nf nl ct cf cl a : Nat) (pt pf pl : Option Addr) (nm : ByteArray) (ar e m : Int) (vp : Value) (w : World) (h : CkR w Bc (.slice pt nt ct) (.slice pf nf cf) nm ar (.slice pl nl cl) vp a e m) :
    Calls Try.prog 104 #[.pointer (some ⟨Bc, 0, none⟩), .agg #[.int .i64 8, .int .i64 n, .int .i64 kc], .int .i64 loops] w fun e w' => e = .returned (.int .i64 171) ∧ w.grownBy w' none := by
  have c0 := cell_of_row w Bc 0 _ _ _ h
  have c1 := cell_of_row w Bc 1 _ _ _ h
  have c4 := cell_of_row w Bc 4 _ _ _ h
  have lt := (Array.getElem?_eq_some_iff.1 h).1
  have GA := Lib.hid (World.grownBy_alloc w (.cells #[.int .i64 8, .int .i64 n, .int .i64 kc] 108) none)
  clear h
  go_enter Try.func104, Try.ntmps104
  go_wp2
  go_ret
  exact ⟨rfl, GA.out⟩

set_option maxRecDepth 100000 in
set_option maxHeartbeats 2000000 in
theorem rnum_8b (n kc loops : Int) (h0 : 0 ≤ n) (h1 : n < loops) (Bc nt nf nl ct cf cl a : Nat) (pt pf pl : Option Addr) (nm : ByteArray) (ar e m : Int) (vp : Value) (w : World) (h : CkR w Bc (.slice pt nt ct) (.slice pf nf cf) nm ar (.slice pl nl cl) vp a e m) :
    Calls Try.prog 104 #[.pointer (some ⟨Bc, 0, none⟩), .agg #[.int .i64 8, .int .i64 n, .int .i64 kc], .int .i64 loops] w fun e w' => e = .returned (.int .i64 0) ∧ w.grownBy w' none := by
  have c0 := cell_of_row w Bc 0 _ _ _ h
  have c1 := cell_of_row w Bc 1 _ _ _ h
  have c4 := cell_of_row w Bc 4 _ _ _ h
  have lt := (Array.getElem?_eq_some_iff.1 h).1
  have GA := Lib.hid (World.grownBy_alloc w (.cells #[.int .i64 8, .int .i64 n, .int .i64 kc] 108) none)
  clear h
  go_enter Try.func104, Try.ntmps104
  go_wp2
  go_ret
  exact ⟨rfl, GA.out⟩

set_option maxRecDepth 100000 in
set_option maxHeartbeats 2000000 in
theorem rnum_8c (n kc loops : Int) (h0 : 0 ≤ n) (h1 : ¬ n < loops) (Bc nt nf nl ct cf cl a : Nat) (pt pf pl : Option Addr) (nm : ByteArray) (ar e m : Int) (vp : Value) (w : World) (h : CkR w Bc (.slice pt nt ct) (.slice pf nf cf) nm ar (.slice pl nl cl) vp a e m) :
    Calls Try.prog 104 #[.pointer (some ⟨Bc, 0, none⟩), .agg #[.int .i64 8, .int .i64 n, .int .i64 kc], .int .i64 loops] w fun e w' => e = .returned (.int .i64 171) ∧ w.grownBy w' none := by
  have c0 := cell_of_row w Bc 0 _ _ _ h
  have c1 := cell_of_row w Bc 1 _ _ _ h
  have c4 := cell_of_row w Bc 4 _ _ _ h
  have lt := (Array.getElem?_eq_some_iff.1 h).1
  have GA := Lib.hid (World.grownBy_alloc w (.cells #[.int .i64 8, .int .i64 n, .int .i64 kc] 108) none)
  clear h
  go_enter Try.func104, Try.ntmps104
  go_wp2
  go_ret
  exact ⟨rfl, GA.out⟩

set_option maxRecDepth 100000 in
set_option maxHeartbeats 2000000 in
theorem rnum_12 (n kc loops : Int) (Bc nt nf nl ct cf cl a : Nat) (pt pf pl : Option Addr) (nm : ByteArray) (ar e m : Int) (vp : Value) (w : World) (h : CkR w Bc (.slice pt nt ct) (.slice pf nf cf) nm ar (.slice pl nl cl) vp a e m) :
    Calls Try.prog 104 #[.pointer (some ⟨Bc, 0, none⟩), .agg #[.int .i64 12, .int .i64 n, .int .i64 kc], .int .i64 loops] w fun e w' => e = .returned (.int .i64 0) ∧ w.grownBy w' none := by
  have c0 := cell_of_row w Bc 0 _ _ _ h
  have c1 := cell_of_row w Bc 1 _ _ _ h
  have c4 := cell_of_row w Bc 4 _ _ _ h
  have lt := (Array.getElem?_eq_some_iff.1 h).1
  have GA := Lib.hid (World.grownBy_alloc w (.cells #[.int .i64 12, .int .i64 n, .int .i64 kc] 108) none)
  clear h
  go_enter Try.func104, Try.ntmps104
  go_wp2
  go_ret
  exact ⟨rfl, GA.out⟩

set_option maxRecDepth 100000 in
set_option maxHeartbeats 2000000 in
theorem rnum_19t (n kc loops : Int) (hh : (opn n == 1) = true) (Bc nt nf nl ct cf cl a : Nat) (pt pf pl : Option Addr) (nm : ByteArray) (ar e m : Int) (vp : Value) (w : World) (h : CkR w Bc (.slice pt nt ct) (.slice pf nf cf) nm ar (.slice pl nl cl) vp a e m) :
    Calls Try.prog 104 #[.pointer (some ⟨Bc, 0, none⟩), .agg #[.int .i64 19, .int .i64 n, .int .i64 kc], .int .i64 loops] w fun e w' => e = .returned (.int .i64 0) ∧ w.grownBy w' none := by
  have c0 := cell_of_row w Bc 0 _ _ _ h
  have c1 := cell_of_row w Bc 1 _ _ _ h
  have c4 := cell_of_row w Bc 4 _ _ _ h
  have lt := (Array.getElem?_eq_some_iff.1 h).1
  have GA := Lib.hid (World.grownBy_alloc w (.cells #[.int .i64 19, .int .i64 n, .int .i64 kc] 108) none)
  clear h
  have HH := Lib.hid (fun w' => rhas1_any n w')
  rw [hh] at HH
  clear hh
  go_enter Try.func104, Try.ntmps104
  go_wp2_with (go_at_call 130; refine (HH.out _).mono ?_; rintro e w1 ⟨rfl, rfl⟩)
  go_ret
  exact ⟨rfl, GA.out⟩

set_option maxRecDepth 100000 in
set_option maxHeartbeats 2000000 in
theorem rnum_19f (n kc loops : Int) (hh : (opn n == 1) = false) (Bc nt nf nl ct cf cl a : Nat) (pt pf pl : Option Addr) (nm : ByteArray) (ar e m : Int) (vp : Value) (w : World) (h : CkR w Bc (.slice pt nt ct) (.slice pf nf cf) nm ar (.slice pl nl cl) vp a e m) :
    Calls Try.prog 104 #[.pointer (some ⟨Bc, 0, none⟩), .agg #[.int .i64 19, .int .i64 n, .int .i64 kc], .int .i64 loops] w fun e w' => e = .returned (.int .i64 171) ∧ w.grownBy w' none := by
  have c0 := cell_of_row w Bc 0 _ _ _ h
  have c1 := cell_of_row w Bc 1 _ _ _ h
  have c4 := cell_of_row w Bc 4 _ _ _ h
  have lt := (Array.getElem?_eq_some_iff.1 h).1
  have GA := Lib.hid (World.grownBy_alloc w (.cells #[.int .i64 19, .int .i64 n, .int .i64 kc] 108) none)
  clear h
  have HH := Lib.hid (fun w' => rhas1_any n w')
  rw [hh] at HH
  clear hh
  go_enter Try.func104, Try.ntmps104
  go_wp2_with (go_at_call 130; refine (HH.out _).mono ?_; rintro e w1 ⟨rfl, rfl⟩)
  go_ret
  exact ⟨rfl, GA.out⟩

set_option maxRecDepth 100000 in
set_option maxHeartbeats 2000000 in
theorem rnum_20t (n kc loops : Int) (hh : (opn n == 2) = true) (Bc nt nf nl ct cf cl a : Nat) (pt pf pl : Option Addr) (nm : ByteArray) (ar e m : Int) (vp : Value) (w : World) (h : CkR w Bc (.slice pt nt ct) (.slice pf nf cf) nm ar (.slice pl nl cl) vp a e m) :
    Calls Try.prog 104 #[.pointer (some ⟨Bc, 0, none⟩), .agg #[.int .i64 20, .int .i64 n, .int .i64 kc], .int .i64 loops] w fun e w' => e = .returned (.int .i64 0) ∧ w.grownBy w' none := by
  have c0 := cell_of_row w Bc 0 _ _ _ h
  have c1 := cell_of_row w Bc 1 _ _ _ h
  have c4 := cell_of_row w Bc 4 _ _ _ h
  have lt := (Array.getElem?_eq_some_iff.1 h).1
  have GA := Lib.hid (World.grownBy_alloc w (.cells #[.int .i64 20, .int .i64 n, .int .i64 kc] 108) none)
  clear h
  have HH := Lib.hid (fun w' => rhas2_any n w')
  rw [hh] at HH
  clear hh
  go_enter Try.func104, Try.ntmps104
  go_wp2_with (go_at_call 131; refine (HH.out _).mono ?_; rintro e w1 ⟨rfl, rfl⟩)
  go_ret
  exact ⟨rfl, GA.out⟩

set_option maxRecDepth 100000 in
set_option maxHeartbeats 2000000 in
theorem rnum_20f (n kc loops : Int) (hh : (opn n == 2) = false) (Bc nt nf nl ct cf cl a : Nat) (pt pf pl : Option Addr) (nm : ByteArray) (ar e m : Int) (vp : Value) (w : World) (h : CkR w Bc (.slice pt nt ct) (.slice pf nf cf) nm ar (.slice pl nl cl) vp a e m) :
    Calls Try.prog 104 #[.pointer (some ⟨Bc, 0, none⟩), .agg #[.int .i64 20, .int .i64 n, .int .i64 kc], .int .i64 loops] w fun e w' => e = .returned (.int .i64 171) ∧ w.grownBy w' none := by
  have c0 := cell_of_row w Bc 0 _ _ _ h
  have c1 := cell_of_row w Bc 1 _ _ _ h
  have c4 := cell_of_row w Bc 4 _ _ _ h
  have lt := (Array.getElem?_eq_some_iff.1 h).1
  have GA := Lib.hid (World.grownBy_alloc w (.cells #[.int .i64 20, .int .i64 n, .int .i64 kc] 108) none)
  clear h
  have HH := Lib.hid (fun w' => rhas2_any n w')
  rw [hh] at HH
  clear hh
  go_enter Try.func104, Try.ntmps104
  go_wp2_with (go_at_call 131; refine (HH.out _).mono ?_; rintro e w1 ⟨rfl, rfl⟩)
  go_ret
  exact ⟨rfl, GA.out⟩

set_option maxRecDepth 100000 in
set_option maxHeartbeats 2000000 in
theorem rnum_21_32 (kc loops : Int) (Bc nt nf nl ct cf cl a : Nat) (pt pf pl : Option Addr) (nm : ByteArray) (ar e m : Int) (vp : Value) (w : World) (h : CkR w Bc (.slice pt nt ct) (.slice pf nf cf) nm ar (.slice pl nl cl) vp a e m) :
    Calls Try.prog 104 #[.pointer (some ⟨Bc, 0, none⟩), .agg #[.int .i64 21, .int .i64 32, .int .i64 kc], .int .i64 loops] w fun e w' => e = .returned (.int .i64 0) ∧ w.grownBy w' none := by
  have c0 := cell_of_row w Bc 0 _ _ _ h
  have c1 := cell_of_row w Bc 1 _ _ _ h
  have c4 := cell_of_row w Bc 4 _ _ _ h
  have lt := (Array.getElem?_eq_some_iff.1 h).1
  have GA := Lib.hid (World.grownBy_alloc w (.cells #[.int .i64 21, .int .i64 32, .int .i64 kc] 108) none)
  clear h
  go_enter Try.func104, Try.ntmps104
  go_wp2
  go_ret
  exact ⟨rfl, GA.out⟩

end Go.Proofs.Ytecaolkbllbokaa.TG
