/-
  Walks of the reference checker's number. Conditions: as each theorem states.
  Walks of the reference checker's number. Conditions: as each theorem states.
  Walks of the reference checker's number. Conditions: as each theorem states.
  The reference checker's number, all kinds. Conditions: as each theorem states.
-/
import Derived.Test.YtecaolkbllbokaaMB21
import Derived.Deep.QuietTactic
import Derived.BigQuiet
import Derived.Test.YtecaolkbllbokaaMB22
namespace Go.Proofs.Ytecaolkbllbokaa.TG
open Go.RowKit Go.Great
set_option linter.unusedSimpArgs false
set_option linter.unusedVariables false

set_option maxRecDepth 100000 in
set_option maxHeartbeats 2000000 in
theorem rnum_15a (n kc loops : Int) (h0 : n < 0) (Bc nt nf nl ct cf cl a : Nat) (pt pf pl : Option Addr) (nm : ByteArray) (ar e m : Int) (vp : Value) (w : World) (h : CkR w Bc (.slice pt nt ct) (.slice pf nf cf) nm ar (.slice pl nl cl) vp a e m) :
    Calls Try.prog 104 #[.pointer (some ⟨Bc, 0, none⟩), .agg #[.int .i64 15, .int .i64 n, .int .i64 kc], .int .i64 loops] w fun e w' => e = .returned (.int .i64 173) ∧ w.grownBy w' none := by
  have c0 := cell_of_row w Bc 0 _ _ _ h
  have c1 := cell_of_row w Bc 1 _ _ _ h
  have c4 := cell_of_row w Bc 4 _ _ _ h
  have lt := (Array.getElem?_eq_some_iff.1 h).1
  have GA := Lib.hid (World.grownBy_alloc w (.cells #[.int .i64 15, .int .i64 n, .int .i64 kc] 108) none)
  clear h
  go_enter Try.func104, Try.ntmps104
  go_wp2
  go_quiet (fail)
  go_wp2
  go_ret
  exact ⟨rfl, grownBy_trans GA.out (grownBy_drewN _ _ none)⟩

set_option maxRecDepth 100000 in
set_option maxHeartbeats 2000000 in
theorem rnum_15b (n kc loops : Int) (h0 : ¬ n < 0) (Bc nt nf nl ct cf cl a : Nat) (pt pf pl : Option Addr) (nm : ByteArray) (ar e m : Int) (vp : Value) (h1 : (nt : Int) ≤ n) (w : World) (h : CkR w Bc (.slice pt nt ct) (.slice pf nf cf) nm ar (.slice pl nl cl) vp a e m) :
    Calls Try.prog 104 #[.pointer (some ⟨Bc, 0, none⟩), .agg #[.int .i64 15, .int .i64 n, .int .i64 kc], .int .i64 loops] w fun e w' => e = .returned (.int .i64 173) ∧ w.grownBy w' none := by
  have c0 := cell_of_row w Bc 0 _ _ _ h
  have c1 := cell_of_row w Bc 1 _ _ _ h
  have c4 := cell_of_row w Bc 4 _ _ _ h
  have lt := (Array.getElem?_eq_some_iff.1 h).1
  have GA := Lib.hid (World.grownBy_alloc w (.cells #[.int .i64 15, .int .i64 n, .int .i64 kc] 108) none)
  clear h
  go_enter Try.func104, Try.ntmps104
  go_wp2
  go_quiet (fail)
  go_wp2
  go_ret
  exact ⟨rfl, grownBy_trans GA.out (grownBy_drewN _ _ none)⟩

set_option maxRecDepth 100000 in
set_option maxHeartbeats 2000000 in
theorem rnum_15c (n kc loops : Int) (h0 : ¬ n < 0) (Bc nt nf nl ct cf cl a : Nat) (pt pf pl : Option Addr) (nm : ByteArray) (ar e m : Int) (vp : Value) (h1 : ¬ (nt : Int) ≤ n) (w : World) (h : CkR w Bc (.slice pt nt ct) (.slice pf nf cf) nm ar (.slice pl nl cl) vp a e m) :
    Calls Try.prog 104 #[.pointer (some ⟨Bc, 0, none⟩), .agg #[.int .i64 15, .int .i64 n, .int .i64 kc], .int .i64 loops] w fun e w' => e = .returned (.int .i64 0) ∧ w.grownBy w' none := by
  have c0 := cell_of_row w Bc 0 _ _ _ h
  have c1 := cell_of_row w Bc 1 _ _ _ h
  have c4 := cell_of_row w Bc 4 _ _ _ h
  have lt := (Array.getElem?_eq_some_iff.1 h).1
  have GA := Lib.hid (World.grownBy_alloc w (.cells #[.int .i64 15, .int .i64 n, .int .i64 kc] 108) none)
  clear h
  go_enter Try.func104, Try.ntmps104
  go_wp2
  go_quiet (fail)
  go_wp2
  go_ret
  exact ⟨rfl, grownBy_trans GA.out (grownBy_drewN _ _ none)⟩

set_option maxRecDepth 100000 in
set_option maxHeartbeats 2000000 in
theorem rnum_25a (n kc loops : Int) (h0 : n < 0) (Bc nt nf nl ct cf cl a : Nat) (pt pf pl : Option Addr) (nm : ByteArray) (ar e m : Int) (vp : Value) (w : World) (h : CkR w Bc (.slice pt nt ct) (.slice pf nf cf) nm ar (.slice pl nl cl) vp a e m) :
    Calls Try.prog 104 #[.pointer (some ⟨Bc, 0, none⟩), .agg #[.int .i64 25, .int .i64 n, .int .i64 kc], .int .i64 loops] w fun e w' => e = .returned (.int .i64 173) ∧ w.grownBy w' none := by
  have c0 := cell_of_row w Bc 0 _ _ _ h
  have c1 := cell_of_row w Bc 1 _ _ _ h
  have c4 := cell_of_row w Bc 4 _ _ _ h
  have lt := (Array.getElem?_eq_some_iff.1 h).1
  have GA := Lib.hid (World.grownBy_alloc w (.cells #[.int .i64 25, .int .i64 n, .int .i64 kc] 108) none)
  clear h
  go_enter Try.func104, Try.ntmps104
  go_wp2
  go_quiet (fail)
  go_wp2
  go_ret
  exact ⟨rfl, grownBy_trans GA.out (grownBy_drewN _ _ none)⟩

set_option maxRecDepth 100000 in
set_option maxHeartbeats 2000000 in
theorem rnum_25b (n kc loops : Int) (h0 : ¬ n < 0) (Bc nt nf nl ct cf cl a : Nat) (pt pf pl : Option Addr) (nm : ByteArray) (ar e m : Int) (vp : Value) (h1 : (nf : Int) ≤ n) (w : World) (h : CkR w Bc (.slice pt nt ct) (.slice pf nf cf) nm ar (.slice pl nl cl) vp a e m) :
    Calls Try.prog 104 #[.pointer (some ⟨Bc, 0, none⟩), .agg #[.int .i64 25, .int .i64 n, .int .i64 kc], .int .i64 loops] w fun e w' => e = .returned (.int .i64 173) ∧ w.grownBy w' none := by
  have c0 := cell_of_row w Bc 0 _ _ _ h
  have c1 := cell_of_row w Bc 1 _ _ _ h
  have c4 := cell_of_row w Bc 4 _ _ _ h
  have lt := (Array.getElem?_eq_some_iff.1 h).1
  have GA := Lib.hid (World.grownBy_alloc w (.cells #[.int .i64 25, .int .i64 n, .int .i64 kc] 108) none)
  clear h
  go_enter Try.func104, Try.ntmps104
  go_wp2
  go_quiet (fail)
  go_wp2
  go_ret
  exact ⟨rfl, grownBy_trans GA.out (grownBy_drewN _ _ none)⟩

set_option maxRecDepth 100000 in
set_option maxHeartbeats 2000000 in
theorem rnum_25c (n kc loops : Int) (h0 : ¬ n < 0) (Bc nt nf nl ct cf cl a : Nat) (pt pf pl : Option Addr) (nm : ByteArray) (ar e m : Int) (vp : Value) (h1 : ¬ (nf : Int) ≤ n) (w : World) (h : CkR w Bc (.slice pt nt ct) (.slice pf nf cf) nm ar (.slice pl nl cl) vp a e m) :
    Calls Try.prog 104 #[.pointer (some ⟨Bc, 0, none⟩), .agg #[.int .i64 25, .int .i64 n, .int .i64 kc], .int .i64 loops] w fun e w' => e = .returned (.int .i64 0) ∧ w.grownBy w' none := by
  have c0 := cell_of_row w Bc 0 _ _ _ h
  have c1 := cell_of_row w Bc 1 _ _ _ h
  have c4 := cell_of_row w Bc 4 _ _ _ h
  have lt := (Array.getElem?_eq_some_iff.1 h).1
  have GA := Lib.hid (World.grownBy_alloc w (.cells #[.int .i64 25, .int .i64 n, .int .i64 kc] 108) none)
  clear h
  go_enter Try.func104, Try.ntmps104
  go_wp2
  go_quiet (fail)
  go_wp2
  go_ret
  exact ⟨rfl, grownBy_trans GA.out (grownBy_drewN _ _ none)⟩

set_option maxRecDepth 100000 in
set_option maxHeartbeats 2000000 in
theorem rnum_7a (n kc loops : Int) (h0 : ¬ 0 ≤ n) (Bc nt nf nl ct cf cl a : Nat) (pt pf pl : Option Addr) (nm : ByteArray) (ar e m : Int) (vp : Value) (w : World) (h : CkR w Bc (.slice pt nt ct) (.slice pf nf cf) nm ar (.slice pl nl cl) vp a e m) :
    Calls Try.prog 104 #[.pointer (some ⟨Bc, 0, none⟩), .agg #[.int .i64 7, .int .i64 n, .int .i64 kc], .int .i64 loops] w fun e w' => e = .returned (.int .i64 171) ∧ w.grownBy w' none := by
  have c0 := cell_of_row w Bc 0 _ _ _ h
  have c1 := cell_of_row w Bc 1 _ _ _ h
  have c4 := cell_of_row w Bc 4 _ _ _ h
  have lt := (Array.getElem?_eq_some_iff.1 h).1
  have GA := Lib.hid (World.grownBy_alloc w (.cells #[.int .i64 7, .int .i64 n, .int .i64 kc] 108) none)
  clear h
  go_enter Try.func104, Try.ntmps104
  go_wp2
  go_ret
  exact ⟨rfl, GA.out⟩

set_option maxRecDepth 100000 in
set_option maxHeartbeats 2000000 in
theorem rnum_7b (n kc loops : Int) (h0 : 0 ≤ n) (h1 : n < loops) (Bc nt nf nl ct cf cl a : Nat) (pt pf pl : Option Addr) (nm : ByteArray) (ar e m : Int) (vp : Value) (w : World) (h : CkR w Bc (.slice pt nt ct) (.slice pf nf cf) nm ar (.slice pl nl cl) vp a e m) :
    Calls Try.prog 104 #[.pointer (some ⟨Bc, 0, none⟩), .agg #[.int .i64 7, .int .i64 n, .int .i64 kc], .int .i64 loops] w fun e w' => e = .returned (.int .i64 0) ∧ w.grownBy w' none := by
  have c0 := cell_of_row w Bc 0 _ _ _ h
  have c1 := cell_of_row w Bc 1 _ _ _ h
  have c4 := cell_of_row w Bc 4 _ _ _ h
  have lt := (Array.getElem?_eq_some_iff.1 h).1
  have GA := Lib.hid (World.grownBy_alloc w (.cells #[.int .i64 7, .int .i64 n, .int .i64 kc] 108) none)
  clear h
  go_enter Try.func104, Try.ntmps104
  go_wp2
  go_ret
  exact ⟨rfl, GA.out⟩

set_option maxRecDepth 100000 in
set_option maxHeartbeats 2000000 in
theorem rnum_7c (n kc loops : Int) (h0 : 0 ≤ n) (h1 : ¬ n < loops) (Bc nt nf nl ct cf cl a : Nat) (pt pf pl : Option Addr) (nm : ByteArray) (ar e m : Int) (vp : Value) (w : World) (h : CkR w Bc (.slice pt nt ct) (.slice pf nf cf) nm ar (.slice pl nl cl) vp a e m) :
    Calls Try.prog 104 #[.pointer (some ⟨Bc, 0, none⟩), .agg #[.int .i64 7, .int .i64 n, .int .i64 kc], .int .i64 loops] w fun e w' => e = .returned (.int .i64 171) ∧ w.grownBy w' none := by
  have c0 := cell_of_row w Bc 0 _ _ _ h
  have c1 := cell_of_row w Bc 1 _ _ _ h
  have c4 := cell_of_row w Bc 4 _ _ _ h
  have lt := (Array.getElem?_eq_some_iff.1 h).1
  have GA := Lib.hid (World.grownBy_alloc w (.cells #[.int .i64 7, .int .i64 n, .int .i64 kc] 108) none)
  clear h
  go_enter Try.func104, Try.ntmps104
  go_wp2
  go_ret
  exact ⟨rfl, GA.out⟩

end Go.Proofs.Ytecaolkbllbokaa.TG

namespace Go.Proofs.Ytecaolkbllbokaa.TG
open Go.RowKit Go.Great
set_option linter.unusedSimpArgs false
set_option linter.unusedVariables false

set_option maxRecDepth 100000 in
set_option maxHeartbeats 2000000 in
theorem rnum_8a (n kc loops : Int) (h0 : ¬ 0 ≤ n) (Bc nt nf nl ct cf cl a : Nat) (pt pf pl : Option Addr) (nm : ByteArray) (ar e m : Int) (vp : Value) (w : World) (h : CkR w Bc (.slice pt nt ct) (.slice pf nf cf) nm ar (.slice pl nl cl) vp a e m) :
    Calls Try.prog 104 #[.pointer (some ⟨Bc, 0, none⟩), .agg #[.int .i64 8, .int .i64 n, .int .i64 kc], .int .i64 loops] w fun e w' => e = .returned (.int .i64 171) ∧ w.grownBy w' none := by
  have c0 := cell_of_row w Bc 0 _ _ _ h
  have c1 := cell_of_row w Bc 1 _ _ _ h
  have c4 := cell_of_row w Bc 4 _ _ _ h
  have lt := (Array.getElem?_eq_some_iff.1 h).1
  have GA := Lib.hid (World.grownBy_alloc w (.cells #[.int .i64 8, .int .i64 n, .int .i64 kc] 108) none)
  clear h
  go_enter Try.func104, Try.ntmps104
  go_wp2
  go_ret
  exact ⟨rfl, GA.out⟩

set_option maxRecDepth 100000 in
set_option maxHeartbeats 2000000 in
theorem rnum_8b (n kc loops : Int) (h0 : 0 ≤ n) (h1 : n < loops) (Bc nt nf nl ct cf cl a : Nat) (pt pf pl : Option Addr) (nm : ByteArray) (ar e m : Int) (vp : Value) (w : World) (h : CkR w Bc (.slice pt nt ct) (.slice pf nf cf) nm ar (.slice pl nl cl) vp a e m) :
    Calls Try.prog 104 #[.pointer (some ⟨Bc, 0, none⟩), .agg #[.int .i64 8, .int .i64 n, .int .i64 kc], .int .i64 loops] w fun e w' => e = .returned (.int .i64 0) ∧ w.grownBy w' none := by
  have c0 := cell_of_row w Bc 0 _ _ _ h
  have c1 := cell_of_row w Bc 1 _ _ _ h
  have c4 := cell_of_row w Bc 4 _ _ _ h
  have lt := (Array.getElem?_eq_some_iff.1 h).1
  have GA := Lib.hid (World.grownBy_alloc w (.cells #[.int .i64 8, .int .i64 n, .int .i64 kc] 108) none)
  clear h
  go_enter Try.func104, Try.ntmps104
  go_wp2
  go_ret
  exact ⟨rfl, GA.out⟩

set_option maxRecDepth 100000 in
set_option maxHeartbeats 2000000 in
theorem rnum_8c (n kc loops : Int) (h0 : 0 ≤ n) (h1 : ¬ n < loops) (Bc nt nf nl ct cf cl a : Nat) (pt pf pl : Option Addr) (nm : ByteArray) (ar e m : Int) (vp : Value) (w : World) (h : CkR w Bc (.slice pt nt ct) (.slice pf nf cf) nm ar (.slice pl nl cl) vp a e m) :
    Calls Try.prog 104 #[.pointer (some ⟨Bc, 0, none⟩), .agg #[.int .i64 8, .int .i64 n, .int .i64 kc], .int .i64 loops] w fun e w' => e = .returned (.int .i64 171) ∧ w.grownBy w' none := by
  have c0 := cell_of_row w Bc 0 _ _ _ h
  have c1 := cell_of_row w Bc 1 _ _ _ h
  have c4 := cell_of_row w Bc 4 _ _ _ h
  have lt := (Array.getElem?_eq_some_iff.1 h).1
  have GA := Lib.hid (World.grownBy_alloc w (.cells #[.int .i64 8, .int .i64 n, .int .i64 kc] 108) none)
  clear h
  go_enter Try.func104, Try.ntmps104
  go_wp2
  go_ret
  exact ⟨rfl, GA.out⟩

set_option maxRecDepth 100000 in
set_option maxHeartbeats 2000000 in
theorem rnum_12 (n kc loops : Int) (Bc nt nf nl ct cf cl a : Nat) (pt pf pl : Option Addr) (nm : ByteArray) (ar e m : Int) (vp : Value) (w : World) (h : CkR w Bc (.slice pt nt ct) (.slice pf nf cf) nm ar (.slice pl nl cl) vp a e m) :
    Calls Try.prog 104 #[.pointer (some ⟨Bc, 0, none⟩), .agg #[.int .i64 12, .int .i64 n, .int .i64 kc], .int .i64 loops] w fun e w' => e = .returned (.int .i64 0) ∧ w.grownBy w' none := by
  have c0 := cell_of_row w Bc 0 _ _ _ h
  have c1 := cell_of_row w Bc 1 _ _ _ h
  have c4 := cell_of_row w Bc 4 _ _ _ h
  have lt := (Array.getElem?_eq_some_iff.1 h).1
  have GA := Lib.hid (World.grownBy_alloc w (.cells #[.int .i64 12, .int .i64 n, .int .i64 kc] 108) none)
  clear h
  go_enter Try.func104, Try.ntmps104
  go_wp2
  go_ret
  exact ⟨rfl, GA.out⟩

set_option maxRecDepth 100000 in
set_option maxHeartbeats 2000000 in
theorem rnum_19t (n kc loops : Int) (hh : (opn n == 1) = true) (Bc nt nf nl ct cf cl a : Nat) (pt pf pl : Option Addr) (nm : ByteArray) (ar e m : Int) (vp : Value) (w : World) (h : CkR w Bc (.slice pt nt ct) (.slice pf nf cf) nm ar (.slice pl nl cl) vp a e m) :
    Calls Try.prog 104 #[.pointer (some ⟨Bc, 0, none⟩), .agg #[.int .i64 19, .int .i64 n, .int .i64 kc], .int .i64 loops] w fun e w' => e = .returned (.int .i64 0) ∧ w.grownBy w' none := by
  have c0 := cell_of_row w Bc 0 _ _ _ h
  have c1 := cell_of_row w Bc 1 _ _ _ h
  have c4 := cell_of_row w Bc 4 _ _ _ h
  have lt := (Array.getElem?_eq_some_iff.1 h).1
  have GA := Lib.hid (World.grownBy_alloc w (.cells #[.int .i64 19, .int .i64 n, .int .i64 kc] 108) none)
  clear h
  have HH := Lib.hid (fun w' => rhas1_any n w')
  rw [hh] at HH
  clear hh
  go_enter Try.func104, Try.ntmps104
  go_wp2_with (go_at_call 130; refine (HH.out _).mono ?_; rintro e w1 ⟨rfl, rfl⟩)
  go_ret
  exact ⟨rfl, GA.out⟩

set_option maxRecDepth 100000 in
set_option maxHeartbeats 2000000 in
theorem rnum_19f (n kc loops : Int) (hh : (opn n == 1) = false) (Bc nt nf nl ct cf cl a : Nat) (pt pf pl : Option Addr) (nm : ByteArray) (ar e m : Int) (vp : Value) (w : World) (h : CkR w Bc (.slice pt nt ct) (.slice pf nf cf) nm ar (.slice pl nl cl) vp a e m) :
    Calls Try.prog 104 #[.pointer (some ⟨Bc, 0, none⟩), .agg #[.int .i64 19, .int .i64 n, .int .i64 kc], .int .i64 loops] w fun e w' => e = .returned (.int .i64 171) ∧ w.grownBy w' none := by
  have c0 := cell_of_row w Bc 0 _ _ _ h
  have c1 := cell_of_row w Bc 1 _ _ _ h
  have c4 := cell_of_row w Bc 4 _ _ _ h
  have lt := (Array.getElem?_eq_some_iff.1 h).1
  have GA := Lib.hid (World.grownBy_alloc w (.cells #[.int .i64 19, .int .i64 n, .int .i64 kc] 108) none)
  clear h
  have HH := Lib.hid (fun w' => rhas1_any n w')
  rw [hh] at HH
  clear hh
  go_enter Try.func104, Try.ntmps104
  go_wp2_with (go_at_call 130; refine (HH.out _).mono ?_; rintro e w1 ⟨rfl, rfl⟩)
  go_ret
  exact ⟨rfl, GA.out⟩

set_option maxRecDepth 100000 in
set_option maxHeartbeats 2000000 in
theorem rnum_20t (n kc loops : Int) (hh : (opn n == 2) = true) (Bc nt nf nl ct cf cl a : Nat) (pt pf pl : Option Addr) (nm : ByteArray) (ar e m : Int) (vp : Value) (w : World) (h : CkR w Bc (.slice pt nt ct) (.slice pf nf cf) nm ar (.slice pl nl cl) vp a e m) :
    Calls Try.prog 104 #[.pointer (some ⟨Bc, 0, none⟩), .agg #[.int .i64 20, .int .i64 n, .int .i64 kc], .int .i64 loops] w fun e w' => e = .returned (.int .i64 0) ∧ w.grownBy w' none := by
  have c0 := cell_of_row w Bc 0 _ _ _ h
  have c1 := cell_of_row w Bc 1 _ _ _ h
  have c4 := cell_of_row w Bc 4 _ _ _ h
  have lt := (Array.getElem?_eq_some_iff.1 h).1
  have GA := Lib.hid (World.grownBy_alloc w (.cells #[.int .i64 20, .int .i64 n, .int .i64 kc] 108) none)
  clear h
  have HH := Lib.hid (fun w' => rhas2_any n w')
  rw [hh] at HH
  clear hh
  go_enter Try.func104, Try.ntmps104
  go_wp2_with (go_at_call 131; refine (HH.out _).mono ?_; rintro e w1 ⟨rfl, rfl⟩)
  go_ret
  exact ⟨rfl, GA.out⟩

set_option maxRecDepth 100000 in
set_option maxHeartbeats 2000000 in
theorem rnum_20f (n kc loops : Int) (hh : (opn n == 2) = false) (Bc nt nf nl ct cf cl a : Nat) (pt pf pl : Option Addr) (nm : ByteArray) (ar e m : Int) (vp : Value) (w : World) (h : CkR w Bc (.slice pt nt ct) (.slice pf nf cf) nm ar (.slice pl nl cl) vp a e m) :
    Calls Try.prog 104 #[.pointer (some ⟨Bc, 0, none⟩), .agg #[.int .i64 20, .int .i64 n, .int .i64 kc], .int .i64 loops] w fun e w' => e = .returned (.int .i64 171) ∧ w.grownBy w' none := by
  have c0 := cell_of_row w Bc 0 _ _ _ h
  have c1 := cell_of_row w Bc 1 _ _ _ h
  have c4 := cell_of_row w Bc 4 _ _ _ h
  have lt := (Array.getElem?_eq_some_iff.1 h).1
  have GA := Lib.hid (World.grownBy_alloc w (.cells #[.int .i64 20, .int .i64 n, .int .i64 kc] 108) none)
  clear h
  have HH := Lib.hid (fun w' => rhas2_any n w')
  rw [hh] at HH
  clear hh
  go_enter Try.func104, Try.ntmps104
  go_wp2_with (go_at_call 131; refine (HH.out _).mono ?_; rintro e w1 ⟨rfl, rfl⟩)
  go_ret
  exact ⟨rfl, GA.out⟩

set_option maxRecDepth 100000 in
set_option maxHeartbeats 2000000 in
theorem rnum_21_32 (kc loops : Int) (Bc nt nf nl ct cf cl a : Nat) (pt pf pl : Option Addr) (nm : ByteArray) (ar e m : Int) (vp : Value) (w : World) (h : CkR w Bc (.slice pt nt ct) (.slice pf nf cf) nm ar (.slice pl nl cl) vp a e m) :
    Calls Try.prog 104 #[.pointer (some ⟨Bc, 0, none⟩), .agg #[.int .i64 21, .int .i64 32, .int .i64 kc], .int .i64 loops] w fun e w' => e = .returned (.int .i64 0) ∧ w.grownBy w' none := by
  have c0 := cell_of_row w Bc 0 _ _ _ h
  have c1 := cell_of_row w Bc 1 _ _ _ h
  have c4 := cell_of_row w Bc 4 _ _ _ h
  have lt := (Array.getElem?_eq_some_iff.1 h).1
  have GA := Lib.hid (World.grownBy_alloc w (.cells #[.int .i64 21, .int .i64 32, .int .i64 kc] 108) none)
  clear h
  go_enter Try.func104, Try.ntmps104
  go_wp2
  go_ret
  exact ⟨rfl, GA.out⟩

end Go.Proofs.Ytecaolkbllbokaa.TG

namespace Go.Proofs.Ytecaolkbllbokaa.TG
open Go.RowKit Go.Great
set_option linter.unusedSimpArgs false
set_option linter.unusedVariables false

set_option maxRecDepth 100000 in
set_option maxHeartbeats 2000000 in
theorem rnum_21_33 (kc loops : Int) (Bc nt nf nl ct cf cl a : Nat) (pt pf pl : Option Addr) (nm : ByteArray) (ar e m : Int) (vp : Value) (w : World) (h : CkR w Bc (.slice pt nt ct) (.slice pf nf cf) nm ar (.slice pl nl cl) vp a e m) :
    Calls Try.prog 104 #[.pointer (some ⟨Bc, 0, none⟩), .agg #[.int .i64 21, .int .i64 33, .int .i64 kc], .int .i64 loops] w fun e w' => e = .returned (.int .i64 0) ∧ w.grownBy w' none := by
  have c0 := cell_of_row w Bc 0 _ _ _ h
  have c1 := cell_of_row w Bc 1 _ _ _ h
  have c4 := cell_of_row w Bc 4 _ _ _ h
  have lt := (Array.getElem?_eq_some_iff.1 h).1
  have GA := Lib.hid (World.grownBy_alloc w (.cells #[.int .i64 21, .int .i64 33, .int .i64 kc] 108) none)
  clear h
  go_enter Try.func104, Try.ntmps104
  go_wp2
  go_ret
  exact ⟨rfl, GA.out⟩

set_option maxRecDepth 100000 in
set_option maxHeartbeats 2000000 in
theorem rnum_21_41 (kc loops : Int) (Bc nt nf nl ct cf cl a : Nat) (pt pf pl : Option Addr) (nm : ByteArray) (ar e m : Int) (vp : Value) (w : World) (h : CkR w Bc (.slice pt nt ct) (.slice pf nf cf) nm ar (.slice pl nl cl) vp a e m) :
    Calls Try.prog 104 #[.pointer (some ⟨Bc, 0, none⟩), .agg #[.int .i64 21, .int .i64 41, .int .i64 kc], .int .i64 loops] w fun e w' => e = .returned (.int .i64 0) ∧ w.grownBy w' none := by
  have c0 := cell_of_row w Bc 0 _ _ _ h
  have c1 := cell_of_row w Bc 1 _ _ _ h
  have c4 := cell_of_row w Bc 4 _ _ _ h
  have lt := (Array.getElem?_eq_some_iff.1 h).1
  have GA := Lib.hid (World.grownBy_alloc w (.cells #[.int .i64 21, .int .i64 41, .int .i64 kc] 108) none)
  clear h
  go_enter Try.func104, Try.ntmps104
  go_wp2
  go_ret
  exact ⟨rfl, GA.out⟩

set_option maxRecDepth 100000 in
set_option maxHeartbeats 2000000 in
theorem rnum_21n (n kc loops : Int) (h1 : (n == 32) = false) (h2 : (n == 33) = false) (h3 : (n == 41) = false) (Bc nt nf nl ct cf cl a : Nat) (pt pf pl : Option Addr) (nm : ByteArray) (ar e m : Int) (vp : Value) (w : World) (h : CkR w Bc (.slice pt nt ct) (.slice pf nf cf) nm ar (.slice pl nl cl) vp a e m) :
    Calls Try.prog 104 #[.pointer (some ⟨Bc, 0, none⟩), .agg #[.int .i64 21, .int .i64 n, .int .i64 kc], .int .i64 loops] w fun e w' => e = .returned (.int .i64 171) ∧ w.grownBy w' none := by
  have c0 := cell_of_row w Bc 0 _ _ _ h
  have c1 := cell_of_row w Bc 1 _ _ _ h
  have c4 := cell_of_row w Bc 4 _ _ _ h
  have lt := (Array.getElem?_eq_some_iff.1 h).1
  have GA := Lib.hid (World.grownBy_alloc w (.cells #[.int .i64 21, .int .i64 n, .int .i64 kc] 108) none)
  clear h
  go_enter Try.func104, Try.ntmps104
  go_wp2
  go_ret
  exact ⟨rfl, GA.out⟩

set_option maxRecDepth 100000 in
set_option maxHeartbeats 2000000 in
theorem rnum_26a (n : Nat) (kc loops : Int) (hn : n < 5) (Bc nt nf nl ct cf cl a : Nat) (pt pf pl : Option Addr) (nm : ByteArray) (ar e m : Int) (vp : Value) (w : World) (h : CkR w Bc (.slice pt nt ct) (.slice pf nf cf) nm ar (.slice pl nl cl) vp a e m) :
    Calls Try.prog 104 #[.pointer (some ⟨Bc, 0, none⟩), .agg #[.int .i64 26, .int .i64 n, .int .i64 kc], .int .i64 loops] w fun e w' => e = .returned (.int .i64 0) ∧ w.grownBy w' none := by
  have c0 := cell_of_row w Bc 0 _ _ _ h
  have c1 := cell_of_row w Bc 1 _ _ _ h
  have c4 := cell_of_row w Bc 4 _ _ _ h
  have lt := (Array.getElem?_eq_some_iff.1 h).1
  have GA := Lib.hid (World.grownBy_alloc w (.cells #[.int .i64 26, .int .i64 n, .int .i64 kc] 108) none)
  clear h
  have SS := Lib.hid (fun w' => rsys_any n hn w')
  go_enter Try.func104, Try.ntmps104
  go_wp2_with (go_at_call 132; refine (SS.out _).mono ?_; rintro e w1 ⟨⟨s, x, rfl⟩, hg⟩)
  go_ret
  exact ⟨rfl, grownBy_trans GA.out hg⟩

set_option maxRecDepth 100000 in
set_option maxHeartbeats 2000000 in
theorem rnum_26b (n kc loops : Int) (hn : n < 0 ∨ 5 ≤ n) (Bc nt nf nl ct cf cl a : Nat) (pt pf pl : Option Addr) (nm : ByteArray) (ar e m : Int) (vp : Value) (w : World) (h : CkR w Bc (.slice pt nt ct) (.slice pf nf cf) nm ar (.slice pl nl cl) vp a e m) :
    Calls Try.prog 104 #[.pointer (some ⟨Bc, 0, none⟩), .agg #[.int .i64 26, .int .i64 n, .int .i64 kc], .int .i64 loops] w fun e w' => e = .returned (.int .i64 171) ∧ w.grownBy w' none := by
  have c0 := cell_of_row w Bc 0 _ _ _ h
  have c1 := cell_of_row w Bc 1 _ _ _ h
  have c4 := cell_of_row w Bc 4 _ _ _ h
  have lt := (Array.getElem?_eq_some_iff.1 h).1
  have GA := Lib.hid (World.grownBy_alloc w (.cells #[.int .i64 26, .int .i64 n, .int .i64 kc] 108) none)
  clear h
  have SS := Lib.hid (fun w' => rsys_out n hn w')
  clear hn
  go_enter Try.func104, Try.ntmps104
  go_wp2_with (go_at_call 132; refine (SS.out _).mono ?_; rintro e w1 ⟨⟨v, rfl⟩, hg⟩)
  go_ret
  exact ⟨rfl, grownBy_trans GA.out hg⟩

set_option maxRecDepth 100000 in
set_option maxHeartbeats 2000000 in
theorem rnum_none0 (k : Int) (kc loops : Int) (k2 : (k == 2) = false) (k13 : (k == 13) = false) (k14 : (k == 14) = false) (k15 : (k == 15) = false) (k25 : (k == 25) = false) (k7 : (k == 7) = false) (k8 : (k == 8) = false) (k12 : (k == 12) = false) (k19 : (k == 19) = false) (k20 : (k == 20) = false) (k21 : (k == 21) = false) (k26 : (k == 26) = false) (Bc nt nf nl ct cf cl a : Nat) (pt pf pl : Option Addr) (nm : ByteArray) (ar e m : Int) (vp : Value) (w : World) (h : CkR w Bc (.slice pt nt ct) (.slice pf nf cf) nm ar (.slice pl nl cl) vp a e m) :
    Calls Try.prog 104 #[.pointer (some ⟨Bc, 0, none⟩), .agg #[.int .i64 k, .int .i64 0, .int .i64 kc], .int .i64 loops] w fun e w' => e = .returned (.int .i64 0) ∧ w.grownBy w' none := by
  have c0 := cell_of_row w Bc 0 _ _ _ h
  have c1 := cell_of_row w Bc 1 _ _ _ h
  have c4 := cell_of_row w Bc 4 _ _ _ h
  have lt := (Array.getElem?_eq_some_iff.1 h).1
  have GA := Lib.hid (World.grownBy_alloc w (.cells #[.int .i64 k, .int .i64 0, .int .i64 kc] 108) none)
  clear h
  go_enter Try.func104, Try.ntmps104
  go_wp2
  go_ret
  exact ⟨rfl, GA.out⟩

set_option maxRecDepth 100000 in
set_option maxHeartbeats 2000000 in
theorem rnum_none1 (k : Int) (n kc loops : Int) (hn : (n == 0) = false) (k2 : (k == 2) = false) (k13 : (k == 13) = false) (k14 : (k == 14) = false) (k15 : (k == 15) = false) (k25 : (k == 25) = false) (k7 : (k == 7) = false) (k8 : (k == 8) = false) (k12 : (k == 12) = false) (k19 : (k == 19) = false) (k20 : (k == 20) = false) (k21 : (k == 21) = false) (k26 : (k == 26) = false) (Bc nt nf nl ct cf cl a : Nat) (pt pf pl : Option Addr) (nm : ByteArray) (ar e m : Int) (vp : Value) (w : World) (h : CkR w Bc (.slice pt nt ct) (.slice pf nf cf) nm ar (.slice pl nl cl) vp a e m) :
    Calls Try.prog 104 #[.pointer (some ⟨Bc, 0, none⟩), .agg #[.int .i64 k, .int .i64 n, .int .i64 kc], .int .i64 loops] w fun e w' => e = .returned (.int .i64 171) ∧ w.grownBy w' none := by
  have c0 := cell_of_row w Bc 0 _ _ _ h
  have c1 := cell_of_row w Bc 1 _ _ _ h
  have c4 := cell_of_row w Bc 4 _ _ _ h
  have lt := (Array.getElem?_eq_some_iff.1 h).1
  have GA := Lib.hid (World.grownBy_alloc w (.cells #[.int .i64 k, .int .i64 n, .int .i64 kc] 108) none)
  clear h
  go_enter Try.func104, Try.ntmps104
  go_wp2
  go_ret
  exact ⟨rfl, GA.out⟩

end Go.Proofs.Ytecaolkbllbokaa.TG

namespace Go.Proofs.Ytecaolkbllbokaa.TG
open Go.RowKit Go.Great
set_option linter.unusedSimpArgs false
set_option linter.unusedVariables false

theorem amongE_lt {x b e : Int} (h : x < 0) : amongE x b e = e := by unfold amongE; rw [if_pos (Or.inl h)]
theorem amongE_ge {x b e : Int} (h : b ≤ x) : amongE x b e = e := by unfold amongE; rw [if_pos (Or.inr h)]
theorem amongE_in {x b e : Int} (h : ¬ x < 0) (h2 : ¬ b ≤ x) : amongE x b e = 0 := by unfold amongE; rw [if_neg (by omega)]

theorem rnumber_any (k n kc loops : Int) (hk : 1 ≤ k ∧ k < 27) (Bc nt nf nl ct cf cl a : Nat) (pt pf pl : Option Addr) (nm : ByteArray) (ar e m : Int) (vp : Value) (w : World) (h : CkR w Bc (.slice pt nt ct) (.slice pf nf cf) nm ar (.slice pl nl cl) vp a e m) :
    Calls Try.prog 104 #[.pointer (some ⟨Bc, 0, none⟩), .agg #[.int .i64 k, .int .i64 n, .int .i64 kc], .int .i64 loops] w fun e w' => e = .returned (.int .i64 (numE nl nt nf loops k n)) ∧ w.grownBy w' none := by
  by_cases c12 : k = 12
  · subst c12
    exact rnum_12 n kc loops Bc nt nf nl ct cf cl a pt pf pl nm ar e m vp w h
  by_cases c2 : k = 2 ∨ k = 13
  · have hn : numE nl nt nf loops k n = amongE n nl 173 := by unfold numE; rw [if_neg c12, if_pos c2]
    rw [hn]
    by_cases h0 : n < 0
    · rw [amongE_lt h0]
      rcases c2 with rfl | rfl
      · exact rnum_2a n kc loops h0 Bc nt nf nl ct cf cl a pt pf pl nm ar e m vp w h
      · exact rnum_13a n kc loops h0 Bc nt nf nl ct cf cl a pt pf pl nm ar e m vp w h
    · by_cases h1 : (nl : Int) ≤ n
      · rw [amongE_ge h1]
        rcases c2 with rfl | rfl
        · exact rnum_2b n kc loops h0 Bc nt nf nl ct cf cl a pt pf pl nm ar e m vp h1 w h
        · exact rnum_13b n kc loops h0 Bc nt nf nl ct cf cl a pt pf pl nm ar e m vp h1 w h
      · rw [amongE_in h0 h1]
        rcases c2 with rfl | rfl
        · exact rnum_2c n kc loops h0 Bc nt nf nl ct cf cl a pt pf pl nm ar e m vp h1 w h
        · exact rnum_13c n kc loops h0 Bc nt nf nl ct cf cl a pt pf pl nm ar e m vp h1 w h
  by_cases c14 : k = 14 ∨ k = 15
  · have hn : numE nl nt nf loops k n = amongE n nt 173 := by unfold numE; rw [if_neg c12, if_neg c2, if_pos c14]
    rw [hn]
    by_cases h0 : n < 0
    · rw [amongE_lt h0]
      rcases c14 with rfl | rfl
      · exact rnum_14a n kc loops h0 Bc nt nf nl ct cf cl a pt pf pl nm ar e m vp w h
      · exact rnum_15a n kc loops h0 Bc nt nf nl ct cf cl a pt pf pl nm ar e m vp w h
    · by_cases h1 : (nt : Int) ≤ n
      · rw [amongE_ge h1]
        rcases c14 with rfl | rfl
        · exact rnum_14b n kc loops h0 Bc nt nf nl ct cf cl a pt pf pl nm ar e m vp h1 w h
        · exact rnum_15b n kc loops h0 Bc nt nf nl ct cf cl a pt pf pl nm ar e m vp h1 w h
      · rw [amongE_in h0 h1]
        rcases c14 with rfl | rfl
        · exact rnum_14c n kc loops h0 Bc nt nf nl ct cf cl a pt pf pl nm ar e m vp h1 w h
        · exact rnum_15c n kc loops h0 Bc nt nf nl ct cf cl a pt pf pl nm ar e m vp h1 w h
  by_cases c25 : k = 25
  · have hn : numE nl nt nf loops k n = amongE n nf 173 := by unfold numE; rw [if_neg c12, if_neg c2, if_neg c14, if_pos c25]
    rw [hn]
    subst c25
    by_cases h0 : n < 0
    · rw [amongE_lt h0]
      exact rnum_25a n kc loops h0 Bc nt nf nl ct cf cl a pt pf pl nm ar e m vp w h
    · by_cases h1 : (nf : Int) ≤ n
      · rw [amongE_ge h1]
        exact rnum_25b n kc loops h0 Bc nt nf nl ct cf cl a pt pf pl nm ar e m vp h1 w h
      · rw [amongE_in h0 h1]
        exact rnum_25c n kc loops h0 Bc nt nf nl ct cf cl a pt pf pl nm ar e m vp h1 w h
  by_cases c26 : k = 26
  · have hn : numE nl nt nf loops k n = amongE n 5 171 := by unfold numE; rw [if_neg c12, if_neg c2, if_neg c14, if_neg c25, if_pos c26]
    rw [hn]
    subst c26
    by_cases h0 : n < 0 ∨ 5 ≤ n
    · have : amongE n 5 171 = 171 := by unfold amongE; rw [if_pos h0]
      rw [this]
      exact rnum_26b n kc loops h0 Bc nt nf nl ct cf cl a pt pf pl nm ar e m vp w h
    · rw [amongE_in (by omega) (by omega)]
      obtain ⟨nn, rfl⟩ : ∃ nn : Nat, n = nn := ⟨n.toNat, by omega⟩
      exact rnum_26a nn kc loops (by omega) Bc nt nf nl ct cf cl a pt pf pl nm ar e m vp w h
  by_cases c7 : k = 7 ∨ k = 8
  · have hn : numE nl nt nf loops k n = amongE n loops 171 := by unfold numE; rw [if_neg c12, if_neg c2, if_neg c14, if_neg c25, if_neg c26, if_pos c7]
    rw [hn]
    by_cases h0 : 0 ≤ n
    · by_cases h1 : n < loops
      · rw [amongE_in (by omega) (by omega)]
        rcases c7 with rfl | rfl
        · exact rnum_7b n kc loops h0 h1 Bc nt nf nl ct cf cl a pt pf pl nm ar e m vp w h
        · exact rnum_8b n kc loops h0 h1 Bc nt nf nl ct cf cl a pt pf pl nm ar e m vp w h
      · rw [amongE_ge (by omega)]
        rcases c7 with rfl | rfl
        · exact rnum_7c n kc loops h0 h1 Bc nt nf nl ct cf cl a pt pf pl nm ar e m vp w h
        · exact rnum_8c n kc loops h0 h1 Bc nt nf nl ct cf cl a pt pf pl nm ar e m vp w h
    · rw [amongE_lt (by omega)]
      rcases c7 with rfl | rfl
      · exact rnum_7a n kc loops h0 Bc nt nf nl ct cf cl a pt pf pl nm ar e m vp w h
      · exact rnum_8a n kc loops h0 Bc nt nf nl ct cf cl a pt pf pl nm ar e m vp w h
  by_cases c19 : k = 19
  · have hn : numE nl nt nf loops k n = mayE (opn n == 1) := by unfold numE; rw [if_neg c12, if_neg c2, if_neg c14, if_neg c25, if_neg c26, if_neg c7, if_pos c19]
    rw [hn]
    subst c19
    cases hh : opn n == 1 with
    | true => exact rnum_19t n kc loops hh Bc nt nf nl ct cf cl a pt pf pl nm ar e m vp w h
    | false => exact rnum_19f n kc loops hh Bc nt nf nl ct cf cl a pt pf pl nm ar e m vp w h
  by_cases c20 : k = 20
  · have hn : numE nl nt nf loops k n = mayE (opn n == 2) := by unfold numE; rw [if_neg c12, if_neg c2, if_neg c14, if_neg c25, if_neg c26, if_neg c7, if_neg c19, if_pos c20]
    rw [hn]
    subst c20
    cases hh : opn n == 2 with
    | true => exact rnum_20t n kc loops hh Bc nt nf nl ct cf cl a pt pf pl nm ar e m vp w h
    | false => exact rnum_20f n kc loops hh Bc nt nf nl ct cf cl a pt pf pl nm ar e m vp w h
  by_cases c21 : k = 21
  · have hn : numE nl nt nf loops k n = mayE (n == 32 || n == 33 || n == 41) := by unfold numE; rw [if_neg c12, if_neg c2, if_neg c14, if_neg c25, if_neg c26, if_neg c7, if_neg c19, if_neg c20, if_pos c21]
    rw [hn]
    subst c21
    by_cases h1 : n = 32
    · subst h1; exact rnum_21_32 kc loops Bc nt nf nl ct cf cl a pt pf pl nm ar e m vp w h
    by_cases h2 : n = 33
    · subst h2; exact rnum_21_33 kc loops Bc nt nf nl ct cf cl a pt pf pl nm ar e m vp w h
    by_cases h3 : n = 41
    · subst h3; exact rnum_21_41 kc loops Bc nt nf nl ct cf cl a pt pf pl nm ar e m vp w h
    have e1 : (n == 32) = false := beq_eq_false_iff_ne.2 h1
    have e2 : (n == 33) = false := beq_eq_false_iff_ne.2 h2
    have e3 : (n == 41) = false := beq_eq_false_iff_ne.2 h3
    rw [e1, e2, e3]
    exact rnum_21n n kc loops e1 e2 e3 Bc nt nf nl ct cf cl a pt pf pl nm ar e m vp w h
  · have hn : numE nl nt nf loops k n = mayE (n == 0) := by unfold numE; rw [if_neg c12, if_neg c2, if_neg c14, if_neg c25, if_neg c26, if_neg c7, if_neg c19, if_neg c20, if_neg c21]
    rw [hn]
    have f : ∀ x : Int, k ≠ x → (k == x) = false := fun x hx => beq_eq_false_iff_ne.2 hx
    by_cases h0 : n = 0
    · subst h0
      exact rnum_none0 k kc loops (f _ (by omega)) (f _ (by omega)) (f _ (by omega)) (f _ (by omega)) (f _ (by omega)) (f _ (by omega)) (f _ (by omega)) (f _ (by omega)) (f _ (by omega)) (f _ (by omega)) (f _ (by omega)) (f _ (by omega)) Bc nt nf nl ct cf cl a pt pf pl nm ar e m vp w h
    · have e0 : (n == 0) = false := beq_eq_false_iff_ne.2 h0
      rw [e0]
      exact rnum_none1 k n kc loops e0 (f _ (by omega)) (f _ (by omega)) (f _ (by omega)) (f _ (by omega)) (f _ (by omega)) (f _ (by omega)) (f _ (by omega)) (f _ (by omega)) (f _ (by omega)) (f _ (by omega)) (f _ (by omega)) (f _ (by omega)) Bc nt nf nl ct cf cl a pt pf pl nm ar e m vp w h

end Go.Proofs.Ytecaolkbllbokaa.TG
