/-
  Walks of the reference checker's kids. Conditions: as each theorem states.
  Walks of the reference checker's kids. Conditions: as each theorem states.
  Walks of the reference checker's kids. Conditions: as each theorem states.
  Walks of the reference checker's kids. Conditions: as each theorem states.
  The reference checker's kids, all kinds; what a part wants, as the reference reckons it. Conditions: as each theorem states.
-/
import Derived.Test.YtecaolkbllbokaaMB21
import Derived.Deep.QuietTactic
import Derived.BigQuiet
import Derived.Test.YtecaolkbllbokaaMB05
namespace Go.Proofs.Ytecaolkbllbokaa.TG
open Go.RowKit Go.Great
set_option linter.unusedSimpArgs false
set_option linter.unusedVariables false

set_option maxRecDepth 100000 in
set_option maxHeartbeats 2000000 in
theorem rkids_1a (n kc : Int) (h0 : kc < 0) (Bc nf cf a : Nat) (vt : Value) (pf : Option Addr) (nm : ByteArray) (ar e m : Int) (vl vp : Value) (w : World) (h : CkR w Bc vt (.slice pf nf cf) nm ar vl vp a e m) :
    Calls Try.prog 105 #[.pointer (some ⟨Bc, 0, none⟩), .agg #[.int .i64 1, .int .i64 n, .int .i64 kc]] w fun e w' => e = .returned (.int .i64 171) ∧ w.grownBy w' none := by
  have c1 := cell_of_row w Bc 1 _ _ _ h
  have lt := (Array.getElem?_eq_some_iff.1 h).1
  have GA := Lib.hid (World.grownBy_alloc w (.cells #[.int .i64 1, .int .i64 n, .int .i64 kc] 108) none)
  clear h
  go_enter Try.func105, Try.ntmps105
  go_wp2
  go_ret
  exact ⟨rfl, GA.out⟩

set_option maxRecDepth 100000 in
set_option maxHeartbeats 2000000 in
theorem rkids_1b (n kc : Int) (h0 : ¬ kc < 0) (Bc nf cf a : Nat) (vt : Value) (pf : Option Addr) (nm : ByteArray) (ar e m : Int) (vl vp : Value) (w : World) (h : CkR w Bc vt (.slice pf nf cf) nm ar vl vp a e m) :
    Calls Try.prog 105 #[.pointer (some ⟨Bc, 0, none⟩), .agg #[.int .i64 1, .int .i64 n, .int .i64 kc]] w fun e w' => e = .returned (.int .i64 0) ∧ w.grownBy w' none := by
  have c1 := cell_of_row w Bc 1 _ _ _ h
  have lt := (Array.getElem?_eq_some_iff.1 h).1
  have GA := Lib.hid (World.grownBy_alloc w (.cells #[.int .i64 1, .int .i64 n, .int .i64 kc] 108) none)
  clear h
  go_enter Try.func105, Try.ntmps105
  go_wp2
  go_ret
  exact ⟨rfl, GA.out⟩

set_option maxRecDepth 100000 in
set_option maxHeartbeats 2000000 in
theorem rkids_5b (n : Int) (Bc nf cf a : Nat) (vt : Value) (pf : Option Addr) (nm : ByteArray) (ar e m : Int) (vl vp : Value) (w : World) (h : CkR w Bc vt (.slice pf nf cf) nm ar vl vp a e m) :
    Calls Try.prog 105 #[.pointer (some ⟨Bc, 0, none⟩), .agg #[.int .i64 5, .int .i64 n, .int .i64 3]] w fun e w' => e = .returned (.int .i64 0) ∧ w.grownBy w' none := by
  have c1 := cell_of_row w Bc 1 _ _ _ h
  have lt := (Array.getElem?_eq_some_iff.1 h).1
  have GA := Lib.hid (World.grownBy_alloc w (.cells #[.int .i64 5, .int .i64 n, .int .i64 3] 108) none)
  clear h
  go_enter Try.func105, Try.ntmps105
  go_wp2
  go_ret
  exact ⟨rfl, GA.out⟩

set_option maxRecDepth 100000 in
set_option maxHeartbeats 2000000 in
theorem rkids_5a (n : Int) (Bc nf cf a : Nat) (vt : Value) (pf : Option Addr) (nm : ByteArray) (ar e m : Int) (vl vp : Value) (w : World) (h : CkR w Bc vt (.slice pf nf cf) nm ar vl vp a e m) :
    Calls Try.prog 105 #[.pointer (some ⟨Bc, 0, none⟩), .agg #[.int .i64 5, .int .i64 n, .int .i64 2]] w fun e w' => e = .returned (.int .i64 0) ∧ w.grownBy w' none := by
  have c1 := cell_of_row w Bc 1 _ _ _ h
  have lt := (Array.getElem?_eq_some_iff.1 h).1
  have GA := Lib.hid (World.grownBy_alloc w (.cells #[.int .i64 5, .int .i64 n, .int .i64 2] 108) none)
  clear h
  go_enter Try.func105, Try.ntmps105
  go_wp2
  go_ret
  exact ⟨rfl, GA.out⟩

set_option maxRecDepth 100000 in
set_option maxHeartbeats 2000000 in
theorem rkids_5n (n kc : Int) (h2 : (kc == 3) = false) (h3 : (kc != 2) = true) (Bc nf cf a : Nat) (vt : Value) (pf : Option Addr) (nm : ByteArray) (ar e m : Int) (vl vp : Value) (w : World) (h : CkR w Bc vt (.slice pf nf cf) nm ar vl vp a e m) :
    Calls Try.prog 105 #[.pointer (some ⟨Bc, 0, none⟩), .agg #[.int .i64 5, .int .i64 n, .int .i64 kc]] w fun e w' => e = .returned (.int .i64 171) ∧ w.grownBy w' none := by
  have c1 := cell_of_row w Bc 1 _ _ _ h
  have lt := (Array.getElem?_eq_some_iff.1 h).1
  have GA := Lib.hid (World.grownBy_alloc w (.cells #[.int .i64 5, .int .i64 n, .int .i64 kc] 108) none)
  clear h
  go_enter Try.func105, Try.ntmps105
  go_wp2
  go_ret
  exact ⟨rfl, GA.out⟩

set_option maxRecDepth 100000 in
set_option maxHeartbeats 2000000 in
theorem rkids_3a (n : Int) (Bc nf cf a : Nat) (vt : Value) (pf : Option Addr) (nm : ByteArray) (ar e m : Int) (vl vp : Value) (w : World) (h : CkR w Bc vt (.slice pf nf cf) nm ar vl vp a e m) :
    Calls Try.prog 105 #[.pointer (some ⟨Bc, 0, none⟩), .agg #[.int .i64 3, .int .i64 n, .int .i64 2]] w fun e w' => e = .returned (.int .i64 0) ∧ w.grownBy w' none := by
  have c1 := cell_of_row w Bc 1 _ _ _ h
  have lt := (Array.getElem?_eq_some_iff.1 h).1
  have GA := Lib.hid (World.grownBy_alloc w (.cells #[.int .i64 3, .int .i64 n, .int .i64 2] 108) none)
  clear h
  go_enter Try.func105, Try.ntmps105
  go_wp2
  go_ret
  exact ⟨rfl, GA.out⟩

set_option maxRecDepth 100000 in
set_option maxHeartbeats 2000000 in
theorem rkids_3n (n kc : Int) (h3 : (kc != 2) = true) (Bc nf cf a : Nat) (vt : Value) (pf : Option Addr) (nm : ByteArray) (ar e m : Int) (vl vp : Value) (w : World) (h : CkR w Bc vt (.slice pf nf cf) nm ar vl vp a e m) :
    Calls Try.prog 105 #[.pointer (some ⟨Bc, 0, none⟩), .agg #[.int .i64 3, .int .i64 n, .int .i64 kc]] w fun e w' => e = .returned (.int .i64 171) ∧ w.grownBy w' none := by
  have c1 := cell_of_row w Bc 1 _ _ _ h
  have lt := (Array.getElem?_eq_some_iff.1 h).1
  have GA := Lib.hid (World.grownBy_alloc w (.cells #[.int .i64 3, .int .i64 n, .int .i64 kc] 108) none)
  clear h
  go_enter Try.func105, Try.ntmps105
  go_wp2
  go_ret
  exact ⟨rfl, GA.out⟩

set_option maxRecDepth 100000 in
set_option maxHeartbeats 2000000 in
theorem rkids_4a (n : Int) (Bc nf cf a : Nat) (vt : Value) (pf : Option Addr) (nm : ByteArray) (ar e m : Int) (vl vp : Value) (w : World) (h : CkR w Bc vt (.slice pf nf cf) nm ar vl vp a e m) :
    Calls Try.prog 105 #[.pointer (some ⟨Bc, 0, none⟩), .agg #[.int .i64 4, .int .i64 n, .int .i64 2]] w fun e w' => e = .returned (.int .i64 0) ∧ w.grownBy w' none := by
  have c1 := cell_of_row w Bc 1 _ _ _ h
  have lt := (Array.getElem?_eq_some_iff.1 h).1
  have GA := Lib.hid (World.grownBy_alloc w (.cells #[.int .i64 4, .int .i64 n, .int .i64 2] 108) none)
  clear h
  go_enter Try.func105, Try.ntmps105
  go_wp2
  go_ret
  exact ⟨rfl, GA.out⟩

set_option maxRecDepth 100000 in
set_option maxHeartbeats 2000000 in
theorem rkids_4n (n kc : Int) (h3 : (kc != 2) = true) (Bc nf cf a : Nat) (vt : Value) (pf : Option Addr) (nm : ByteArray) (ar e m : Int) (vl vp : Value) (w : World) (h : CkR w Bc vt (.slice pf nf cf) nm ar vl vp a e m) :
    Calls Try.prog 105 #[.pointer (some ⟨Bc, 0, none⟩), .agg #[.int .i64 4, .int .i64 n, .int .i64 kc]] w fun e w' => e = .returned (.int .i64 171) ∧ w.grownBy w' none := by
  have c1 := cell_of_row w Bc 1 _ _ _ h
  have lt := (Array.getElem?_eq_some_iff.1 h).1
  have GA := Lib.hid (World.grownBy_alloc w (.cells #[.int .i64 4, .int .i64 n, .int .i64 kc] 108) none)
  clear h
  go_enter Try.func105, Try.ntmps105
  go_wp2
  go_ret
  exact ⟨rfl, GA.out⟩

set_option maxRecDepth 100000 in
set_option maxHeartbeats 2000000 in
theorem rkids_6a (n : Int) (Bc nf cf a : Nat) (vt : Value) (pf : Option Addr) (nm : ByteArray) (ar e m : Int) (vl vp : Value) (w : World) (h : CkR w Bc vt (.slice pf nf cf) nm ar vl vp a e m) :
    Calls Try.prog 105 #[.pointer (some ⟨Bc, 0, none⟩), .agg #[.int .i64 6, .int .i64 n, .int .i64 2]] w fun e w' => e = .returned (.int .i64 0) ∧ w.grownBy w' none := by
  have c1 := cell_of_row w Bc 1 _ _ _ h
  have lt := (Array.getElem?_eq_some_iff.1 h).1
  have GA := Lib.hid (World.grownBy_alloc w (.cells #[.int .i64 6, .int .i64 n, .int .i64 2] 108) none)
  clear h
  go_enter Try.func105, Try.ntmps105
  go_wp2
  go_ret
  exact ⟨rfl, GA.out⟩

set_option maxRecDepth 100000 in
set_option maxHeartbeats 2000000 in
theorem rkids_6n (n kc : Int) (h3 : (kc != 2) = true) (Bc nf cf a : Nat) (vt : Value) (pf : Option Addr) (nm : ByteArray) (ar e m : Int) (vl vp : Value) (w : World) (h : CkR w Bc vt (.slice pf nf cf) nm ar vl vp a e m) :
    Calls Try.prog 105 #[.pointer (some ⟨Bc, 0, none⟩), .agg #[.int .i64 6, .int .i64 n, .int .i64 kc]] w fun e w' => e = .returned (.int .i64 171) ∧ w.grownBy w' none := by
  have c1 := cell_of_row w Bc 1 _ _ _ h
  have lt := (Array.getElem?_eq_some_iff.1 h).1
  have GA := Lib.hid (World.grownBy_alloc w (.cells #[.int .i64 6, .int .i64 n, .int .i64 kc] 108) none)
  clear h
  go_enter Try.func105, Try.ntmps105
  go_wp2
  go_ret
  exact ⟨rfl, GA.out⟩

end Go.Proofs.Ytecaolkbllbokaa.TG

namespace Go.Proofs.Ytecaolkbllbokaa.TG
open Go.RowKit Go.Great
set_option linter.unusedSimpArgs false
set_option linter.unusedVariables false

set_option maxRecDepth 100000 in
set_option maxHeartbeats 2000000 in
theorem rkids_20a (n : Int) (Bc nf cf a : Nat) (vt : Value) (pf : Option Addr) (nm : ByteArray) (ar e m : Int) (vl vp : Value) (w : World) (h : CkR w Bc vt (.slice pf nf cf) nm ar vl vp a e m) :
    Calls Try.prog 105 #[.pointer (some ⟨Bc, 0, none⟩), .agg #[.int .i64 20, .int .i64 n, .int .i64 2]] w fun e w' => e = .returned (.int .i64 0) ∧ w.grownBy w' none := by
  have c1 := cell_of_row w Bc 1 _ _ _ h
  have lt := (Array.getElem?_eq_some_iff.1 h).1
  have GA := Lib.hid (World.grownBy_alloc w (.cells #[.int .i64 20, .int .i64 n, .int .i64 2] 108) none)
  clear h
  go_enter Try.func105, Try.ntmps105
  go_wp2
  go_ret
  exact ⟨rfl, GA.out⟩

set_option maxRecDepth 100000 in
set_option maxHeartbeats 2000000 in
theorem rkids_20n (n kc : Int) (h3 : (kc != 2) = true) (Bc nf cf a : Nat) (vt : Value) (pf : Option Addr) (nm : ByteArray) (ar e m : Int) (vl vp : Value) (w : World) (h : CkR w Bc vt (.slice pf nf cf) nm ar vl vp a e m) :
    Calls Try.prog 105 #[.pointer (some ⟨Bc, 0, none⟩), .agg #[.int .i64 20, .int .i64 n, .int .i64 kc]] w fun e w' => e = .returned (.int .i64 171) ∧ w.grownBy w' none := by
  have c1 := cell_of_row w Bc 1 _ _ _ h
  have lt := (Array.getElem?_eq_some_iff.1 h).1
  have GA := Lib.hid (World.grownBy_alloc w (.cells #[.int .i64 20, .int .i64 n, .int .i64 kc] 108) none)
  clear h
  go_enter Try.func105, Try.ntmps105
  go_wp2
  go_ret
  exact ⟨rfl, GA.out⟩

set_option maxRecDepth 100000 in
set_option maxHeartbeats 2000000 in
theorem rkids_21a (n : Int) (Bc nf cf a : Nat) (vt : Value) (pf : Option Addr) (nm : ByteArray) (ar e m : Int) (vl vp : Value) (w : World) (h : CkR w Bc vt (.slice pf nf cf) nm ar vl vp a e m) :
    Calls Try.prog 105 #[.pointer (some ⟨Bc, 0, none⟩), .agg #[.int .i64 21, .int .i64 n, .int .i64 2]] w fun e w' => e = .returned (.int .i64 0) ∧ w.grownBy w' none := by
  have c1 := cell_of_row w Bc 1 _ _ _ h
  have lt := (Array.getElem?_eq_some_iff.1 h).1
  have GA := Lib.hid (World.grownBy_alloc w (.cells #[.int .i64 21, .int .i64 n, .int .i64 2] 108) none)
  clear h
  go_enter Try.func105, Try.ntmps105
  go_wp2
  go_ret
  exact ⟨rfl, GA.out⟩

set_option maxRecDepth 100000 in
set_option maxHeartbeats 2000000 in
theorem rkids_21n (n kc : Int) (h3 : (kc != 2) = true) (Bc nf cf a : Nat) (vt : Value) (pf : Option Addr) (nm : ByteArray) (ar e m : Int) (vl vp : Value) (w : World) (h : CkR w Bc vt (.slice pf nf cf) nm ar vl vp a e m) :
    Calls Try.prog 105 #[.pointer (some ⟨Bc, 0, none⟩), .agg #[.int .i64 21, .int .i64 n, .int .i64 kc]] w fun e w' => e = .returned (.int .i64 171) ∧ w.grownBy w' none := by
  have c1 := cell_of_row w Bc 1 _ _ _ h
  have lt := (Array.getElem?_eq_some_iff.1 h).1
  have GA := Lib.hid (World.grownBy_alloc w (.cells #[.int .i64 21, .int .i64 n, .int .i64 kc] 108) none)
  clear h
  go_enter Try.func105, Try.ntmps105
  go_wp2
  go_ret
  exact ⟨rfl, GA.out⟩

set_option maxRecDepth 100000 in
set_option maxHeartbeats 2000000 in
theorem rkids_23a (n : Int) (Bc nf cf a : Nat) (vt : Value) (pf : Option Addr) (nm : ByteArray) (ar e m : Int) (vl vp : Value) (w : World) (h : CkR w Bc vt (.slice pf nf cf) nm ar vl vp a e m) :
    Calls Try.prog 105 #[.pointer (some ⟨Bc, 0, none⟩), .agg #[.int .i64 23, .int .i64 n, .int .i64 2]] w fun e w' => e = .returned (.int .i64 0) ∧ w.grownBy w' none := by
  have c1 := cell_of_row w Bc 1 _ _ _ h
  have lt := (Array.getElem?_eq_some_iff.1 h).1
  have GA := Lib.hid (World.grownBy_alloc w (.cells #[.int .i64 23, .int .i64 n, .int .i64 2] 108) none)
  clear h
  go_enter Try.func105, Try.ntmps105
  go_wp2
  go_ret
  exact ⟨rfl, GA.out⟩

set_option maxRecDepth 100000 in
set_option maxHeartbeats 2000000 in
theorem rkids_23n (n kc : Int) (h3 : (kc != 2) = true) (Bc nf cf a : Nat) (vt : Value) (pf : Option Addr) (nm : ByteArray) (ar e m : Int) (vl vp : Value) (w : World) (h : CkR w Bc vt (.slice pf nf cf) nm ar vl vp a e m) :
    Calls Try.prog 105 #[.pointer (some ⟨Bc, 0, none⟩), .agg #[.int .i64 23, .int .i64 n, .int .i64 kc]] w fun e w' => e = .returned (.int .i64 171) ∧ w.grownBy w' none := by
  have c1 := cell_of_row w Bc 1 _ _ _ h
  have lt := (Array.getElem?_eq_some_iff.1 h).1
  have GA := Lib.hid (World.grownBy_alloc w (.cells #[.int .i64 23, .int .i64 n, .int .i64 kc] 108) none)
  clear h
  go_enter Try.func105, Try.ntmps105
  go_wp2
  go_ret
  exact ⟨rfl, GA.out⟩

set_option maxRecDepth 100000 in
set_option maxHeartbeats 2000000 in
theorem rkids_24a (n : Int) (Bc nf cf a : Nat) (vt : Value) (pf : Option Addr) (nm : ByteArray) (ar e m : Int) (vl vp : Value) (w : World) (h : CkR w Bc vt (.slice pf nf cf) nm ar vl vp a e m) :
    Calls Try.prog 105 #[.pointer (some ⟨Bc, 0, none⟩), .agg #[.int .i64 24, .int .i64 n, .int .i64 2]] w fun e w' => e = .returned (.int .i64 0) ∧ w.grownBy w' none := by
  have c1 := cell_of_row w Bc 1 _ _ _ h
  have lt := (Array.getElem?_eq_some_iff.1 h).1
  have GA := Lib.hid (World.grownBy_alloc w (.cells #[.int .i64 24, .int .i64 n, .int .i64 2] 108) none)
  clear h
  go_enter Try.func105, Try.ntmps105
  go_wp2
  go_ret
  exact ⟨rfl, GA.out⟩

set_option maxRecDepth 100000 in
set_option maxHeartbeats 2000000 in
theorem rkids_24n (n kc : Int) (h3 : (kc != 2) = true) (Bc nf cf a : Nat) (vt : Value) (pf : Option Addr) (nm : ByteArray) (ar e m : Int) (vl vp : Value) (w : World) (h : CkR w Bc vt (.slice pf nf cf) nm ar vl vp a e m) :
    Calls Try.prog 105 #[.pointer (some ⟨Bc, 0, none⟩), .agg #[.int .i64 24, .int .i64 n, .int .i64 kc]] w fun e w' => e = .returned (.int .i64 171) ∧ w.grownBy w' none := by
  have c1 := cell_of_row w Bc 1 _ _ _ h
  have lt := (Array.getElem?_eq_some_iff.1 h).1
  have GA := Lib.hid (World.grownBy_alloc w (.cells #[.int .i64 24, .int .i64 n, .int .i64 kc] 108) none)
  clear h
  go_enter Try.func105, Try.ntmps105
  go_wp2
  go_ret
  exact ⟨rfl, GA.out⟩

set_option maxRecDepth 100000 in
set_option maxHeartbeats 2000000 in
theorem rkids_2a (n : Int) (Bc nf cf a : Nat) (vt : Value) (pf : Option Addr) (nm : ByteArray) (ar e m : Int) (vl vp : Value) (w : World) (h : CkR w Bc vt (.slice pf nf cf) nm ar vl vp a e m) :
    Calls Try.prog 105 #[.pointer (some ⟨Bc, 0, none⟩), .agg #[.int .i64 2, .int .i64 n, .int .i64 1]] w fun e w' => e = .returned (.int .i64 0) ∧ w.grownBy w' none := by
  have c1 := cell_of_row w Bc 1 _ _ _ h
  have lt := (Array.getElem?_eq_some_iff.1 h).1
  have GA := Lib.hid (World.grownBy_alloc w (.cells #[.int .i64 2, .int .i64 n, .int .i64 1] 108) none)
  clear h
  go_enter Try.func105, Try.ntmps105
  go_wp2
  go_ret
  exact ⟨rfl, GA.out⟩

set_option maxRecDepth 100000 in
set_option maxHeartbeats 2000000 in
theorem rkids_2n (n kc : Int) (h3 : (kc != 1) = true) (Bc nf cf a : Nat) (vt : Value) (pf : Option Addr) (nm : ByteArray) (ar e m : Int) (vl vp : Value) (w : World) (h : CkR w Bc vt (.slice pf nf cf) nm ar vl vp a e m) :
    Calls Try.prog 105 #[.pointer (some ⟨Bc, 0, none⟩), .agg #[.int .i64 2, .int .i64 n, .int .i64 kc]] w fun e w' => e = .returned (.int .i64 171) ∧ w.grownBy w' none := by
  have c1 := cell_of_row w Bc 1 _ _ _ h
  have lt := (Array.getElem?_eq_some_iff.1 h).1
  have GA := Lib.hid (World.grownBy_alloc w (.cells #[.int .i64 2, .int .i64 n, .int .i64 kc] 108) none)
  clear h
  go_enter Try.func105, Try.ntmps105
  go_wp2
  go_ret
  exact ⟨rfl, GA.out⟩

set_option maxRecDepth 100000 in
set_option maxHeartbeats 2000000 in
theorem rkids_9a (n : Int) (Bc nf cf a : Nat) (vt : Value) (pf : Option Addr) (nm : ByteArray) (ar e m : Int) (vl vp : Value) (w : World) (h : CkR w Bc vt (.slice pf nf cf) nm ar vl vp a e m) :
    Calls Try.prog 105 #[.pointer (some ⟨Bc, 0, none⟩), .agg #[.int .i64 9, .int .i64 n, .int .i64 1]] w fun e w' => e = .returned (.int .i64 0) ∧ w.grownBy w' none := by
  have c1 := cell_of_row w Bc 1 _ _ _ h
  have lt := (Array.getElem?_eq_some_iff.1 h).1
  have GA := Lib.hid (World.grownBy_alloc w (.cells #[.int .i64 9, .int .i64 n, .int .i64 1] 108) none)
  clear h
  go_enter Try.func105, Try.ntmps105
  go_wp2
  go_ret
  exact ⟨rfl, GA.out⟩

end Go.Proofs.Ytecaolkbllbokaa.TG

namespace Go.Proofs.Ytecaolkbllbokaa.TG
open Go.RowKit Go.Great
set_option linter.unusedSimpArgs false
set_option linter.unusedVariables false

set_option maxRecDepth 100000 in
set_option maxHeartbeats 2000000 in
theorem rkids_9n (n kc : Int) (h3 : (kc != 1) = true) (Bc nf cf a : Nat) (vt : Value) (pf : Option Addr) (nm : ByteArray) (ar e m : Int) (vl vp : Value) (w : World) (h : CkR w Bc vt (.slice pf nf cf) nm ar vl vp a e m) :
    Calls Try.prog 105 #[.pointer (some ⟨Bc, 0, none⟩), .agg #[.int .i64 9, .int .i64 n, .int .i64 kc]] w fun e w' => e = .returned (.int .i64 171) ∧ w.grownBy w' none := by
  have c1 := cell_of_row w Bc 1 _ _ _ h
  have lt := (Array.getElem?_eq_some_iff.1 h).1
  have GA := Lib.hid (World.grownBy_alloc w (.cells #[.int .i64 9, .int .i64 n, .int .i64 kc] 108) none)
  clear h
  go_enter Try.func105, Try.ntmps105
  go_wp2
  go_ret
  exact ⟨rfl, GA.out⟩

set_option maxRecDepth 100000 in
set_option maxHeartbeats 2000000 in
theorem rkids_10a (n : Int) (Bc nf cf a : Nat) (vt : Value) (pf : Option Addr) (nm : ByteArray) (ar e m : Int) (vl vp : Value) (w : World) (h : CkR w Bc vt (.slice pf nf cf) nm ar vl vp a e m) :
    Calls Try.prog 105 #[.pointer (some ⟨Bc, 0, none⟩), .agg #[.int .i64 10, .int .i64 n, .int .i64 1]] w fun e w' => e = .returned (.int .i64 0) ∧ w.grownBy w' none := by
  have c1 := cell_of_row w Bc 1 _ _ _ h
  have lt := (Array.getElem?_eq_some_iff.1 h).1
  have GA := Lib.hid (World.grownBy_alloc w (.cells #[.int .i64 10, .int .i64 n, .int .i64 1] 108) none)
  clear h
  go_enter Try.func105, Try.ntmps105
  go_wp2
  go_ret
  exact ⟨rfl, GA.out⟩

set_option maxRecDepth 100000 in
set_option maxHeartbeats 2000000 in
theorem rkids_10n (n kc : Int) (h3 : (kc != 1) = true) (Bc nf cf a : Nat) (vt : Value) (pf : Option Addr) (nm : ByteArray) (ar e m : Int) (vl vp : Value) (w : World) (h : CkR w Bc vt (.slice pf nf cf) nm ar vl vp a e m) :
    Calls Try.prog 105 #[.pointer (some ⟨Bc, 0, none⟩), .agg #[.int .i64 10, .int .i64 n, .int .i64 kc]] w fun e w' => e = .returned (.int .i64 171) ∧ w.grownBy w' none := by
  have c1 := cell_of_row w Bc 1 _ _ _ h
  have lt := (Array.getElem?_eq_some_iff.1 h).1
  have GA := Lib.hid (World.grownBy_alloc w (.cells #[.int .i64 10, .int .i64 n, .int .i64 kc] 108) none)
  clear h
  go_enter Try.func105, Try.ntmps105
  go_wp2
  go_ret
  exact ⟨rfl, GA.out⟩

set_option maxRecDepth 100000 in
set_option maxHeartbeats 2000000 in
theorem rkids_11a (n : Int) (Bc nf cf a : Nat) (vt : Value) (pf : Option Addr) (nm : ByteArray) (ar e m : Int) (vl vp : Value) (w : World) (h : CkR w Bc vt (.slice pf nf cf) nm ar vl vp a e m) :
    Calls Try.prog 105 #[.pointer (some ⟨Bc, 0, none⟩), .agg #[.int .i64 11, .int .i64 n, .int .i64 1]] w fun e w' => e = .returned (.int .i64 0) ∧ w.grownBy w' none := by
  have c1 := cell_of_row w Bc 1 _ _ _ h
  have lt := (Array.getElem?_eq_some_iff.1 h).1
  have GA := Lib.hid (World.grownBy_alloc w (.cells #[.int .i64 11, .int .i64 n, .int .i64 1] 108) none)
  clear h
  go_enter Try.func105, Try.ntmps105
  go_wp2
  go_ret
  exact ⟨rfl, GA.out⟩

set_option maxRecDepth 100000 in
set_option maxHeartbeats 2000000 in
theorem rkids_11n (n kc : Int) (h3 : (kc != 1) = true) (Bc nf cf a : Nat) (vt : Value) (pf : Option Addr) (nm : ByteArray) (ar e m : Int) (vl vp : Value) (w : World) (h : CkR w Bc vt (.slice pf nf cf) nm ar vl vp a e m) :
    Calls Try.prog 105 #[.pointer (some ⟨Bc, 0, none⟩), .agg #[.int .i64 11, .int .i64 n, .int .i64 kc]] w fun e w' => e = .returned (.int .i64 171) ∧ w.grownBy w' none := by
  have c1 := cell_of_row w Bc 1 _ _ _ h
  have lt := (Array.getElem?_eq_some_iff.1 h).1
  have GA := Lib.hid (World.grownBy_alloc w (.cells #[.int .i64 11, .int .i64 n, .int .i64 kc] 108) none)
  clear h
  go_enter Try.func105, Try.ntmps105
  go_wp2
  go_ret
  exact ⟨rfl, GA.out⟩

set_option maxRecDepth 100000 in
set_option maxHeartbeats 2000000 in
theorem rkids_17a (n : Int) (Bc nf cf a : Nat) (vt : Value) (pf : Option Addr) (nm : ByteArray) (ar e m : Int) (vl vp : Value) (w : World) (h : CkR w Bc vt (.slice pf nf cf) nm ar vl vp a e m) :
    Calls Try.prog 105 #[.pointer (some ⟨Bc, 0, none⟩), .agg #[.int .i64 17, .int .i64 n, .int .i64 1]] w fun e w' => e = .returned (.int .i64 0) ∧ w.grownBy w' none := by
  have c1 := cell_of_row w Bc 1 _ _ _ h
  have lt := (Array.getElem?_eq_some_iff.1 h).1
  have GA := Lib.hid (World.grownBy_alloc w (.cells #[.int .i64 17, .int .i64 n, .int .i64 1] 108) none)
  clear h
  go_enter Try.func105, Try.ntmps105
  go_wp2
  go_ret
  exact ⟨rfl, GA.out⟩

set_option maxRecDepth 100000 in
set_option maxHeartbeats 2000000 in
theorem rkids_17n (n kc : Int) (h3 : (kc != 1) = true) (Bc nf cf a : Nat) (vt : Value) (pf : Option Addr) (nm : ByteArray) (ar e m : Int) (vl vp : Value) (w : World) (h : CkR w Bc vt (.slice pf nf cf) nm ar vl vp a e m) :
    Calls Try.prog 105 #[.pointer (some ⟨Bc, 0, none⟩), .agg #[.int .i64 17, .int .i64 n, .int .i64 kc]] w fun e w' => e = .returned (.int .i64 171) ∧ w.grownBy w' none := by
  have c1 := cell_of_row w Bc 1 _ _ _ h
  have lt := (Array.getElem?_eq_some_iff.1 h).1
  have GA := Lib.hid (World.grownBy_alloc w (.cells #[.int .i64 17, .int .i64 n, .int .i64 kc] 108) none)
  clear h
  go_enter Try.func105, Try.ntmps105
  go_wp2
  go_ret
  exact ⟨rfl, GA.out⟩

set_option maxRecDepth 100000 in
set_option maxHeartbeats 2000000 in
theorem rkids_18a (n : Int) (Bc nf cf a : Nat) (vt : Value) (pf : Option Addr) (nm : ByteArray) (ar e m : Int) (vl vp : Value) (w : World) (h : CkR w Bc vt (.slice pf nf cf) nm ar vl vp a e m) :
    Calls Try.prog 105 #[.pointer (some ⟨Bc, 0, none⟩), .agg #[.int .i64 18, .int .i64 n, .int .i64 1]] w fun e w' => e = .returned (.int .i64 0) ∧ w.grownBy w' none := by
  have c1 := cell_of_row w Bc 1 _ _ _ h
  have lt := (Array.getElem?_eq_some_iff.1 h).1
  have GA := Lib.hid (World.grownBy_alloc w (.cells #[.int .i64 18, .int .i64 n, .int .i64 1] 108) none)
  clear h
  go_enter Try.func105, Try.ntmps105
  go_wp2
  go_ret
  exact ⟨rfl, GA.out⟩

set_option maxRecDepth 100000 in
set_option maxHeartbeats 2000000 in
theorem rkids_18n (n kc : Int) (h3 : (kc != 1) = true) (Bc nf cf a : Nat) (vt : Value) (pf : Option Addr) (nm : ByteArray) (ar e m : Int) (vl vp : Value) (w : World) (h : CkR w Bc vt (.slice pf nf cf) nm ar vl vp a e m) :
    Calls Try.prog 105 #[.pointer (some ⟨Bc, 0, none⟩), .agg #[.int .i64 18, .int .i64 n, .int .i64 kc]] w fun e w' => e = .returned (.int .i64 171) ∧ w.grownBy w' none := by
  have c1 := cell_of_row w Bc 1 _ _ _ h
  have lt := (Array.getElem?_eq_some_iff.1 h).1
  have GA := Lib.hid (World.grownBy_alloc w (.cells #[.int .i64 18, .int .i64 n, .int .i64 kc] 108) none)
  clear h
  go_enter Try.func105, Try.ntmps105
  go_wp2
  go_ret
  exact ⟨rfl, GA.out⟩

set_option maxRecDepth 100000 in
set_option maxHeartbeats 2000000 in
theorem rkids_19a (n : Int) (Bc nf cf a : Nat) (vt : Value) (pf : Option Addr) (nm : ByteArray) (ar e m : Int) (vl vp : Value) (w : World) (h : CkR w Bc vt (.slice pf nf cf) nm ar vl vp a e m) :
    Calls Try.prog 105 #[.pointer (some ⟨Bc, 0, none⟩), .agg #[.int .i64 19, .int .i64 n, .int .i64 1]] w fun e w' => e = .returned (.int .i64 0) ∧ w.grownBy w' none := by
  have c1 := cell_of_row w Bc 1 _ _ _ h
  have lt := (Array.getElem?_eq_some_iff.1 h).1
  have GA := Lib.hid (World.grownBy_alloc w (.cells #[.int .i64 19, .int .i64 n, .int .i64 1] 108) none)
  clear h
  go_enter Try.func105, Try.ntmps105
  go_wp2
  go_ret
  exact ⟨rfl, GA.out⟩

set_option maxRecDepth 100000 in
set_option maxHeartbeats 2000000 in
theorem rkids_19n (n kc : Int) (h3 : (kc != 1) = true) (Bc nf cf a : Nat) (vt : Value) (pf : Option Addr) (nm : ByteArray) (ar e m : Int) (vl vp : Value) (w : World) (h : CkR w Bc vt (.slice pf nf cf) nm ar vl vp a e m) :
    Calls Try.prog 105 #[.pointer (some ⟨Bc, 0, none⟩), .agg #[.int .i64 19, .int .i64 n, .int .i64 kc]] w fun e w' => e = .returned (.int .i64 171) ∧ w.grownBy w' none := by
  have c1 := cell_of_row w Bc 1 _ _ _ h
  have lt := (Array.getElem?_eq_some_iff.1 h).1
  have GA := Lib.hid (World.grownBy_alloc w (.cells #[.int .i64 19, .int .i64 n, .int .i64 kc] 108) none)
  clear h
  go_enter Try.func105, Try.ntmps105
  go_wp2
  go_ret
  exact ⟨rfl, GA.out⟩

end Go.Proofs.Ytecaolkbllbokaa.TG

namespace Go.Proofs.Ytecaolkbllbokaa.TG
open Go.RowKit Go.Great
set_option linter.unusedSimpArgs false
set_option linter.unusedVariables false

set_option maxRecDepth 100000 in
set_option maxHeartbeats 2000000 in
theorem rkids_22a (n : Int) (Bc nf cf a : Nat) (vt : Value) (pf : Option Addr) (nm : ByteArray) (ar e m : Int) (vl vp : Value) (w : World) (h : CkR w Bc vt (.slice pf nf cf) nm ar vl vp a e m) :
    Calls Try.prog 105 #[.pointer (some ⟨Bc, 0, none⟩), .agg #[.int .i64 22, .int .i64 n, .int .i64 1]] w fun e w' => e = .returned (.int .i64 0) ∧ w.grownBy w' none := by
  have c1 := cell_of_row w Bc 1 _ _ _ h
  have lt := (Array.getElem?_eq_some_iff.1 h).1
  have GA := Lib.hid (World.grownBy_alloc w (.cells #[.int .i64 22, .int .i64 n, .int .i64 1] 108) none)
  clear h
  go_enter Try.func105, Try.ntmps105
  go_wp2
  go_ret
  exact ⟨rfl, GA.out⟩

set_option maxRecDepth 100000 in
set_option maxHeartbeats 2000000 in
theorem rkids_22n (n kc : Int) (h3 : (kc != 1) = true) (Bc nf cf a : Nat) (vt : Value) (pf : Option Addr) (nm : ByteArray) (ar e m : Int) (vl vp : Value) (w : World) (h : CkR w Bc vt (.slice pf nf cf) nm ar vl vp a e m) :
    Calls Try.prog 105 #[.pointer (some ⟨Bc, 0, none⟩), .agg #[.int .i64 22, .int .i64 n, .int .i64 kc]] w fun e w' => e = .returned (.int .i64 171) ∧ w.grownBy w' none := by
  have c1 := cell_of_row w Bc 1 _ _ _ h
  have lt := (Array.getElem?_eq_some_iff.1 h).1
  have GA := Lib.hid (World.grownBy_alloc w (.cells #[.int .i64 22, .int .i64 n, .int .i64 kc] 108) none)
  clear h
  go_enter Try.func105, Try.ntmps105
  go_wp2
  go_ret
  exact ⟨rfl, GA.out⟩

set_option maxRecDepth 100000 in
set_option maxHeartbeats 2000000 in
theorem rkids_25a (n : Nat) (args : Int) (Bc nf cf a : Nat) (hn : n < nf) (hnf : nf ≤ 1000000) (vt : Value) (pf : Option Addr) (nm : ByteArray) (ar e m : Int) (vl vp : Value) (w : World) (h : CkR w Bc vt (.slice pf nf cf) nm ar vl vp a e m) (hF : ∃ bF oF : Nat, pf = some ⟨bF, oF, none⟩ ∧ bF < w.heap.size ∧ w.cell? ⟨bF, oF + n * 4 + 1, none⟩ = some (.int .i64 args)) :
    Calls Try.prog 105 #[.pointer (some ⟨Bc, 0, none⟩), .agg #[.int .i64 25, .int .i64 n, .int .i64 args]] w fun e w' => e = .returned (.int .i64 0) ∧ w.grownBy w' none := by
  have c1 := cell_of_row w Bc 1 _ _ _ h
  have lt := (Array.getElem?_eq_some_iff.1 h).1
  have GA := Lib.hid (World.grownBy_alloc w (.cells #[.int .i64 25, .int .i64 n, .int .i64 args] 108) none)
  clear h
  obtain ⟨bF, oF, rfl, hb, hc⟩ := hF
  have hi : (n : Int) < (nf : Int) := by omega
  go_enter Try.func105, Try.ntmps105
  go_wp2
  go_quiet (fail)
  go_wp2
  go_ret
  exact ⟨rfl, grownBy_trans GA.out (grownBy_drewN _ _ none)⟩

set_option maxRecDepth 100000 in
set_option maxHeartbeats 2000000 in
theorem rkids_25n (n : Nat) (kc args : Int) (h3 : (kc != args) = true) (Bc nf cf a : Nat) (hn : n < nf) (hnf : nf ≤ 1000000) (vt : Value) (pf : Option Addr) (nm : ByteArray) (ar e m : Int) (vl vp : Value) (w : World) (h : CkR w Bc vt (.slice pf nf cf) nm ar vl vp a e m) (hF : ∃ bF oF : Nat, pf = some ⟨bF, oF, none⟩ ∧ bF < w.heap.size ∧ w.cell? ⟨bF, oF + n * 4 + 1, none⟩ = some (.int .i64 args)) :
    Calls Try.prog 105 #[.pointer (some ⟨Bc, 0, none⟩), .agg #[.int .i64 25, .int .i64 n, .int .i64 kc]] w fun e w' => e = .returned (.int .i64 174) ∧ w.grownBy w' none := by
  have c1 := cell_of_row w Bc 1 _ _ _ h
  have lt := (Array.getElem?_eq_some_iff.1 h).1
  have GA := Lib.hid (World.grownBy_alloc w (.cells #[.int .i64 25, .int .i64 n, .int .i64 kc] 108) none)
  clear h
  obtain ⟨bF, oF, rfl, hb, hc⟩ := hF
  have hi : (n : Int) < (nf : Int) := by omega
  go_enter Try.func105, Try.ntmps105
  go_wp2
  go_quiet (fail)
  go_wp2
  go_ret
  exact ⟨rfl, grownBy_trans GA.out (grownBy_drewN _ _ none)⟩

set_option maxRecDepth 100000 in
set_option maxHeartbeats 2000000 in
theorem rkids_26a (n : Nat) (hn : n < 5) (Bc nf cf a : Nat) (vt : Value) (pf : Option Addr) (nm : ByteArray) (ar e m : Int) (vl vp : Value) (w : World) (h : CkR w Bc vt (.slice pf nf cf) nm ar vl vp a e m) :
    Calls Try.prog 105 #[.pointer (some ⟨Bc, 0, none⟩), .agg #[.int .i64 26, .int .i64 n, .int .i64 (sysTakes n)]] w fun e w' => e = .returned (.int .i64 0) ∧ w.grownBy w' none := by
  have c1 := cell_of_row w Bc 1 _ _ _ h
  have lt := (Array.getElem?_eq_some_iff.1 h).1
  have GA := Lib.hid (World.grownBy_alloc w (.cells #[.int .i64 26, .int .i64 n, .int .i64 (sysTakes n)] 108) none)
  clear h
  have SS := Lib.hid (fun w' => rsys_any n hn w')
  go_enter Try.func105, Try.ntmps105
  go_wp2_with (go_at_call 132; refine (SS.out _).mono ?_; rintro e w1 ⟨⟨s, x, rfl⟩, hg⟩; have kx := hg.cell (a := ⟨w.heap.size, 2, none⟩) (v := .int .i64 (sysTakes n)) (by simp) (by simp); have kl := size_lt hg)
  go_ret
  exact ⟨rfl, grownBy_trans (grownBy_trans GA.out hg) (World.grownBy_alloc _ _ none)⟩

set_option maxRecDepth 100000 in
set_option maxHeartbeats 2000000 in
theorem rkids_26n (n : Nat) (kc : Int) (h3 : (kc != sysTakes n) = true) (hn : n < 5) (Bc nf cf a : Nat) (vt : Value) (pf : Option Addr) (nm : ByteArray) (ar e m : Int) (vl vp : Value) (w : World) (h : CkR w Bc vt (.slice pf nf cf) nm ar vl vp a e m) :
    Calls Try.prog 105 #[.pointer (some ⟨Bc, 0, none⟩), .agg #[.int .i64 26, .int .i64 n, .int .i64 kc]] w fun e w' => e = .returned (.int .i64 174) ∧ w.grownBy w' none := by
  have c1 := cell_of_row w Bc 1 _ _ _ h
  have lt := (Array.getElem?_eq_some_iff.1 h).1
  have GA := Lib.hid (World.grownBy_alloc w (.cells #[.int .i64 26, .int .i64 n, .int .i64 kc] 108) none)
  clear h
  have SS := Lib.hid (fun w' => rsys_any n hn w')
  go_enter Try.func105, Try.ntmps105
  go_wp2_with (go_at_call 132; refine (SS.out _).mono ?_; rintro e w1 ⟨⟨s, x, rfl⟩, hg⟩; have kx := hg.cell (a := ⟨w.heap.size, 2, none⟩) (v := .int .i64 kc) (by simp) (by simp); have kl := size_lt hg)
  go_ret
  exact ⟨rfl, grownBy_trans (grownBy_trans GA.out hg) (World.grownBy_alloc _ _ none)⟩

set_option maxRecDepth 100000 in
set_option maxHeartbeats 2000000 in
theorem rkids_none0 (k : Int) (n : Int) (k1 : (k == 1) = false) (k5 : (k == 5) = false) (k3 : (k == 3) = false) (k4 : (k == 4) = false) (k6 : (k == 6) = false) (k20 : (k == 20) = false) (k21 : (k == 21) = false) (k23 : (k == 23) = false) (k24 : (k == 24) = false) (k2 : (k == 2) = false) (k9 : (k == 9) = false) (k10 : (k == 10) = false) (k11 : (k == 11) = false) (k17 : (k == 17) = false) (k18 : (k == 18) = false) (k19 : (k == 19) = false) (k22 : (k == 22) = false) (k25 : (k == 25) = false) (k26 : (k == 26) = false) (Bc nf cf a : Nat) (vt : Value) (pf : Option Addr) (nm : ByteArray) (ar e m : Int) (vl vp : Value) (w : World) (h : CkR w Bc vt (.slice pf nf cf) nm ar vl vp a e m) :
    Calls Try.prog 105 #[.pointer (some ⟨Bc, 0, none⟩), .agg #[.int .i64 k, .int .i64 n, .int .i64 0]] w fun e w' => e = .returned (.int .i64 0) ∧ w.grownBy w' none := by
  have c1 := cell_of_row w Bc 1 _ _ _ h
  have lt := (Array.getElem?_eq_some_iff.1 h).1
  have GA := Lib.hid (World.grownBy_alloc w (.cells #[.int .i64 k, .int .i64 n, .int .i64 0] 108) none)
  clear h
  go_enter Try.func105, Try.ntmps105
  go_wp2
  go_ret
  exact ⟨rfl, GA.out⟩

set_option maxRecDepth 100000 in
set_option maxHeartbeats 2000000 in
theorem rkids_none1 (k : Int) (n kc : Int) (h3 : (kc != 0) = true) (k1 : (k == 1) = false) (k5 : (k == 5) = false) (k3 : (k == 3) = false) (k4 : (k == 4) = false) (k6 : (k == 6) = false) (k20 : (k == 20) = false) (k21 : (k == 21) = false) (k23 : (k == 23) = false) (k24 : (k == 24) = false) (k2 : (k == 2) = false) (k9 : (k == 9) = false) (k10 : (k == 10) = false) (k11 : (k == 11) = false) (k17 : (k == 17) = false) (k18 : (k == 18) = false) (k19 : (k == 19) = false) (k22 : (k == 22) = false) (k25 : (k == 25) = false) (k26 : (k == 26) = false) (Bc nf cf a : Nat) (vt : Value) (pf : Option Addr) (nm : ByteArray) (ar e m : Int) (vl vp : Value) (w : World) (h : CkR w Bc vt (.slice pf nf cf) nm ar vl vp a e m) :
    Calls Try.prog 105 #[.pointer (some ⟨Bc, 0, none⟩), .agg #[.int .i64 k, .int .i64 n, .int .i64 kc]] w fun e w' => e = .returned (.int .i64 171) ∧ w.grownBy w' none := by
  have c1 := cell_of_row w Bc 1 _ _ _ h
  have lt := (Array.getElem?_eq_some_iff.1 h).1
  have GA := Lib.hid (World.grownBy_alloc w (.cells #[.int .i64 k, .int .i64 n, .int .i64 kc] 108) none)
  clear h
  go_enter Try.func105, Try.ntmps105
  go_wp2
  go_ret
  exact ⟨rfl, GA.out⟩

end Go.Proofs.Ytecaolkbllbokaa.TG

namespace Go.Proofs.Ytecaolkbllbokaa.TG
open Go.RowKit Go.Great
set_option linter.unusedSimpArgs false
set_option linter.unusedVariables false

theorem rkids_any (k n kc args : Int) (hk : 1 ≤ k ∧ k < 27) (Bc nf cf a : Nat) (vt : Value) (pf : Option Addr) (nm : ByteArray) (ar e m : Int) (vl vp : Value) (w : World) (h : CkR w Bc vt (.slice pf nf cf) nm ar vl vp a e m)
    (hF : k = 25 → ∃ bF oF : Nat, pf = some ⟨bF, oF, none⟩ ∧ bF < w.heap.size ∧ 0 ≤ n ∧ n.toNat < nf ∧ nf ≤ 1000000 ∧ w.cell? ⟨bF, oF + n.toNat * 4 + 1, none⟩ = some (.int .i64 args)) (hS : k = 26 → 0 ≤ n ∧ n < 5) :
    Calls Try.prog 105 #[.pointer (some ⟨Bc, 0, none⟩), .agg #[.int .i64 k, .int .i64 n, .int .i64 kc]] w fun e w' => e = .returned (.int .i64 (kidsE args k n kc)) ∧ w.grownBy w' none := by
  have ne : ∀ x : Int, kc ≠ x → (kc != x) = true := fun x hx => by simpa using hx
  have eq : ∀ x : Int, kc ≠ x → (kc == x) = false := fun x hx => beq_eq_false_iff_ne.2 hx
  by_cases c1 : k = 1
  · have hv : kidsE args k n kc = if 0 ≤ kc then 0 else 171 := by unfold kidsE; rw [if_pos c1]
    rw [hv]; subst c1
    by_cases h0 : kc < 0
    · rw [if_neg (by omega)]; exact rkids_1a n kc h0 Bc nf cf a vt pf nm ar e m vl vp w h
    · rw [if_pos (by omega)]; exact rkids_1b n kc h0 Bc nf cf a vt pf nm ar e m vl vp w h
  by_cases c25 : k = 25
  · obtain ⟨bF, oF, hp, hb, h0, hn, hnf, hc⟩ := hF c25
    have hv : kidsE args k n kc = if kc = args then 0 else 174 := by unfold kidsE; rw [if_neg c1, if_pos c25]
    rw [hv]; subst c25
    obtain ⟨nn, rfl⟩ : ∃ nn : Nat, n = nn := ⟨n.toNat, (Int.toNat_of_nonneg h0).symm⟩
    rw [Int.toNat_natCast] at hn hc
    by_cases he : kc = args
    · rw [if_pos he]; subst he
      exact rkids_25a nn kc Bc nf cf a hn hnf vt pf nm ar e m vl vp w h ⟨bF, oF, hp, hb, hc⟩
    · rw [if_neg he]
      exact rkids_25n nn kc args (ne _ he) Bc nf cf a hn hnf vt pf nm ar e m vl vp w h ⟨bF, oF, hp, hb, hc⟩
  by_cases c26 : k = 26
  · have h5 := hS c26
    have hv : kidsE args k n kc = if kc = sysTakes n.toNat then 0 else 174 := by unfold kidsE; rw [if_neg c1, if_neg c25, if_pos c26]
    rw [hv]; subst c26
    obtain ⟨nn, rfl⟩ : ∃ nn : Nat, n = nn := ⟨n.toNat, (Int.toNat_of_nonneg h5.1).symm⟩
    rw [Int.toNat_natCast]
    by_cases he : kc = sysTakes nn
    · rw [if_pos he, he]
      exact rkids_26a nn (by omega) Bc nf cf a vt pf nm ar e m vl vp w h
    · rw [if_neg he]
      exact rkids_26n nn kc (ne _ he) (by omega) Bc nf cf a vt pf nm ar e m vl vp w h
  by_cases c5 : k = 5
  · have hv : kidsE args k n kc = if 2 ≤ kc ∧ kc ≤ 3 then 0 else 171 := by unfold kidsE; rw [if_neg c1, if_neg c25, if_neg c26, if_pos c5]
    rw [hv]; subst c5
    by_cases h2 : kc = 2
    · subst h2; rw [if_pos (by decide)]; exact rkids_5a n Bc nf cf a vt pf nm ar e m vl vp w h
    by_cases h3 : kc = 3
    · subst h3; rw [if_pos (by decide)]; exact rkids_5b n Bc nf cf a vt pf nm ar e m vl vp w h
    · rw [if_neg (by omega)]; exact rkids_5n n kc (eq _ h3) (ne _ h2) Bc nf cf a vt pf nm ar e m vl vp w h
  by_cases cA : k = 2 ∨ k = 9 ∨ k = 10 ∨ k = 11 ∨ k = 17 ∨ k = 18 ∨ k = 19 ∨ k = 22
  · have hv : kidsE args k n kc = if kc = 1 then 0 else 171 := by unfold kidsE; rw [if_neg c1, if_neg c25, if_neg c26, if_neg c5, if_pos cA]
    rw [hv]
    by_cases h1 : kc = 1
    · subst h1
      rw [if_pos rfl]
      rcases cA with rfl | rfl | rfl | rfl | rfl | rfl | rfl | rfl
      · exact rkids_2a n Bc nf cf a vt pf nm ar e m vl vp w h
      · exact rkids_9a n Bc nf cf a vt pf nm ar e m vl vp w h
      · exact rkids_10a n Bc nf cf a vt pf nm ar e m vl vp w h
      · exact rkids_11a n Bc nf cf a vt pf nm ar e m vl vp w h
      · exact rkids_17a n Bc nf cf a vt pf nm ar e m vl vp w h
      · exact rkids_18a n Bc nf cf a vt pf nm ar e m vl vp w h
      · exact rkids_19a n Bc nf cf a vt pf nm ar e m vl vp w h
      · exact rkids_22a n Bc nf cf a vt pf nm ar e m vl vp w h
    · rw [if_neg h1]
      rcases cA with rfl | rfl | rfl | rfl | rfl | rfl | rfl | rfl
      · exact rkids_2n n kc (ne _ h1) Bc nf cf a vt pf nm ar e m vl vp w h
      · exact rkids_9n n kc (ne _ h1) Bc nf cf a vt pf nm ar e m vl vp w h
      · exact rkids_10n n kc (ne _ h1) Bc nf cf a vt pf nm ar e m vl vp w h
      · exact rkids_11n n kc (ne _ h1) Bc nf cf a vt pf nm ar e m vl vp w h
      · exact rkids_17n n kc (ne _ h1) Bc nf cf a vt pf nm ar e m vl vp w h
      · exact rkids_18n n kc (ne _ h1) Bc nf cf a vt pf nm ar e m vl vp w h
      · exact rkids_19n n kc (ne _ h1) Bc nf cf a vt pf nm ar e m vl vp w h
      · exact rkids_22n n kc (ne _ h1) Bc nf cf a vt pf nm ar e m vl vp w h
  by_cases cB : k = 3 ∨ k = 4 ∨ k = 6 ∨ k = 20 ∨ k = 21 ∨ k = 23 ∨ k = 24
  · have hv : kidsE args k n kc = if kc = 2 then 0 else 171 := by unfold kidsE; rw [if_neg c1, if_neg c25, if_neg c26, if_neg c5, if_neg cA, if_pos cB]
    rw [hv]
    by_cases h1 : kc = 2
    · subst h1
      rw [if_pos rfl]
      rcases cB with rfl | rfl | rfl | rfl | rfl | rfl | rfl
      · exact rkids_3a n Bc nf cf a vt pf nm ar e m vl vp w h
      · exact rkids_4a n Bc nf cf a vt pf nm ar e m vl vp w h
      · exact rkids_6a n Bc nf cf a vt pf nm ar e m vl vp w h
      · exact rkids_20a n Bc nf cf a vt pf nm ar e m vl vp w h
      · exact rkids_21a n Bc nf cf a vt pf nm ar e m vl vp w h
      · exact rkids_23a n Bc nf cf a vt pf nm ar e m vl vp w h
      · exact rkids_24a n Bc nf cf a vt pf nm ar e m vl vp w h
    · rw [if_neg h1]
      rcases cB with rfl | rfl | rfl | rfl | rfl | rfl | rfl
      · exact rkids_3n n kc (ne _ h1) Bc nf cf a vt pf nm ar e m vl vp w h
      · exact rkids_4n n kc (ne _ h1) Bc nf cf a vt pf nm ar e m vl vp w h
      · exact rkids_6n n kc (ne _ h1) Bc nf cf a vt pf nm ar e m vl vp w h
      · exact rkids_20n n kc (ne _ h1) Bc nf cf a vt pf nm ar e m vl vp w h
      · exact rkids_21n n kc (ne _ h1) Bc nf cf a vt pf nm ar e m vl vp w h
      · exact rkids_23n n kc (ne _ h1) Bc nf cf a vt pf nm ar e m vl vp w h
      · exact rkids_24n n kc (ne _ h1) Bc nf cf a vt pf nm ar e m vl vp w h
  · have hv : kidsE args k n kc = if kc = 0 then 0 else 171 := by unfold kidsE; rw [if_neg c1, if_neg c25, if_neg c26, if_neg c5, if_neg cA, if_neg cB]
    rw [hv]
    have f : ∀ x : Int, k ≠ x → (k == x) = false := fun x hx => beq_eq_false_iff_ne.2 hx
    by_cases h1 : kc = 0
    · subst h1
      rw [if_pos rfl]
      exact rkids_none0 k n (f _ (by omega)) (f _ (by omega)) (f _ (by omega)) (f _ (by omega)) (f _ (by omega)) (f _ (by omega)) (f _ (by omega)) (f _ (by omega)) (f _ (by omega)) (f _ (by omega)) (f _ (by omega)) (f _ (by omega)) (f _ (by omega)) (f _ (by omega)) (f _ (by omega)) (f _ (by omega)) (f _ (by omega)) (f _ (by omega)) (f _ (by omega)) Bc nf cf a vt pf nm ar e m vl vp w h
    · rw [if_neg h1]
      exact rkids_none1 k n kc (ne _ h1) (f _ (by omega)) (f _ (by omega)) (f _ (by omega)) (f _ (by omega)) (f _ (by omega)) (f _ (by omega)) (f _ (by omega)) (f _ (by omega)) (f _ (by omega)) (f _ (by omega)) (f _ (by omega)) (f _ (by omega)) (f _ (by omega)) (f _ (by omega)) (f _ (by omega)) (f _ (by omega)) (f _ (by omega)) (f _ (by omega)) (f _ (by omega)) Bc nf cf a vt pf nm ar e m vl vp w h

/-! ### What a part wants -/

/-- The reference's reckoning over the kids from the i-th on. -/
def rfold (k : Int) : Nat → Int → List Int → Int
  | _, x, [] => x
  | i, x, w :: r => rfold k (i + 1) (if kidE k i ≠ 2 then x else if k = 23 ∨ k = 24 then max x w else max x (w + i)) r
def rlast (k x : Int) : Int := if k = 22 ∨ k = 23 ∨ k = 24 then max x 2 else if k = 12 ∨ k = 13 ∨ k = 14 ∨ k = 15 ∨ k = 16 ∨ k = 25 ∨ k = 26 then max x 1 else x

theorem rfold_snoc (k : Int) : ∀ (ws : List Int) (i : Nat) (x w : Int), rfold k i x (ws ++ [w]) = (if kidE k (i + ws.length : Nat) ≠ 2 then rfold k i x ws else if k = 23 ∨ k = 24 then max (rfold k i x ws) w else max (rfold k i x ws) (w + ((i + ws.length : Nat) : Int)))
  | [], i, x, w => by simp only [List.nil_append, rfold, List.length_nil, Nat.add_zero]
  | v :: r, i, x, w => by
    rw [List.cons_append, rfold, rfold_snoc k r (i + 1), rfold]
    have : i + 1 + r.length = i + (v :: r).length := by simp; omega
    rw [this]

theorem rfold_most (ws : List Int) (k : Int) (hk : k = 25 ∨ k = 26) (h0 : ∀ j, j < ws.length → 0 ≤ ws.getD j 0) : max (rfold k 0 0 ws) 1 = mostTo ws ws.length := by
  have key : ∀ n, n ≤ ws.length → max (rfold k 0 0 (ws.take n)) 1 = mostTo ws n := by
    intro n
    induction n with
    | zero => intro _; rfl
    | succ n ih =>
      intro hn
      have hl : n < ws.length := hn
      rw [List.take_succ_eq_append_getElem hl, rfold_snoc, List.length_take]
      have e1 : kidE k ((0 + min n ws.length : Nat) : Int) = 2 := by unfold kidE; rw [if_neg (by omega), if_neg (by omega)]
      rw [if_neg (by omega), if_neg (by omega), mostTo, ← ih (by omega)]
      have e2 : ws.getD n 0 = ws[n] := by simp [List.getD, List.getElem?_eq_getElem hl]
      rw [e2]
      have e3 : min n ws.length = n := by omega
      rw [e3]
      push_cast
      omega
  have := key ws.length (Nat.le_refl _)
  rw [List.take_length] at this
  exact this

/-- The reference reckons what the checker reckons. -/
theorem rwant_eq {nl nt : Nat} {fs : List Int} {l k n kc what : Int} (h : aloneE nl nt fs l k n kc what = 0) (ws : List Int) (hl : ws.length = kc.toNat) (h0 : ∀ j, j < ws.length → 0 ≤ ws.getD j 0) : rlast k (rfold k 0 0 ws) = wantE k ws := by
  obtain ⟨hn, hk1, hk2⟩ := needs_of nl nt fs l k n kc what h
  have hkids : kidsE (fs.getD n.toNat 0) k n kc = 0 := by
    unfold aloneE at h
    split at h
    · exact absurd h (by decide)
    split at h
    · exact absurd h (by decide)
    split at h
    · rename_i hx; exact absurd h hx
    exact h
  unfold wantE
  by_cases cA : k = 12 ∨ k = 13 ∨ k = 14 ∨ k = 15 ∨ k = 16
  · rw [if_pos cA]
    have hz : kc = 0 := by
      unfold kidsE at hkids
      rw [if_neg (by omega), if_neg (by omega), if_neg (by omega), if_neg (by omega), if_neg (by omega), if_neg (by omega)] at hkids
      split at hkids
      · assumption
      · exact absurd hkids (by decide)
    have he : ws = [] := List.length_eq_zero_iff.1 (by rw [hl, hz]; rfl)
    subst he
    unfold rlast
    rw [if_neg (by omega), if_pos (by omega)]; rfl
  rw [if_neg cA]
  by_cases cF : k = 1 ∨ k = 7 ∨ k = 8
  · rw [if_pos cF]
    unfold rlast
    rw [if_neg (by omega), if_neg (by omega)]
    by_cases k1 : k = 1
    · subst k1
      have : ∀ (ws : List Int) (i : Nat) (x : Int), rfold 1 i x ws = x := by
        intro ws
        induction ws with
        | nil => intro i x; rfl
        | cons w r ih => intro i x; rw [rfold, if_pos (by unfold kidE; rw [if_pos rfl]; decide), ih]
      exact this ws 0 0
    · have hz : kc = 0 := by
        unfold kidsE at hkids
        rw [if_neg (by omega), if_neg (by omega), if_neg (by omega), if_neg (by omega), if_neg (by omega), if_neg (by omega)] at hkids
        split at hkids
        · assumption
        · exact absurd hkids (by decide)
      have he : ws = [] := List.length_eq_zero_iff.1 (by rw [hl, hz]; rfl)
      subst he; rfl
  rw [if_neg cF]
  have kid2 : ∀ i : Nat, (k ≠ 5 ∧ k ≠ 6) → kidE k i = 2 := fun i hk => by unfold kidE; rw [if_neg (by omega), if_neg (by omega)]
  have two : (k = 3 ∨ k = 4 ∨ k = 6 ∨ k = 20 ∨ k = 21 ∨ k = 23 ∨ k = 24) → kc = 2 := fun hc => by
    unfold kidsE at hkids
    rw [if_neg (by omega), if_neg (by omega), if_neg (by omega), if_neg (by omega), if_neg (by omega), if_pos (by omega)] at hkids
    split at hkids
    · assumption
    · exact absurd hkids (by decide)
  have one : (k = 2 ∨ k = 9 ∨ k = 10 ∨ k = 11 ∨ k = 17 ∨ k = 18 ∨ k = 19 ∨ k = 22) → kc = 1 := fun hc => by
    unfold kidsE at hkids
    rw [if_neg (by omega), if_neg (by omega), if_neg (by omega), if_neg (by omega), if_pos (by omega)] at hkids
    split at hkids
    · assumption
    · exact absurd hkids (by decide)
  by_cases cB : k = 20 ∨ k = 21 ∨ k = 3 ∨ k = 4
  · rw [if_pos cB]
    have hz := two (by omega)
    subst hz
    match ws, hl, h0 with
    | [x, y], _, h0 =>
      have hx := h0 0 (by simp)
      have hy := h0 1 (by simp)
      simp at hx hy
      unfold rlast
      rw [if_neg (by omega), if_neg (by omega)]
      rw [rfold, if_neg (by rw [kid2 0 (by omega)]; decide), if_neg (by omega), rfold, if_neg (by rw [kid2 1 (by omega)]; decide), if_neg (by omega), rfold]
      simp [List.getD]
      omega
  rw [if_neg cB]
  by_cases cD : k = 23 ∨ k = 24
  · rw [if_pos cD]
    have hz := two (by omega)
    subst hz
    match ws, hl, h0 with
    | [x, y], _, h0 =>
      have hx := h0 0 (by simp)
      have hy := h0 1 (by simp)
      simp at hx hy
      unfold rlast
      rw [if_pos (by omega)]
      rw [rfold, if_neg (by rw [kid2 0 (by omega)]; decide), if_pos cD, rfold, if_neg (by rw [kid2 1 (by omega)]; decide), if_pos cD, rfold]
      simp [List.getD]
      omega
  rw [if_neg cD]
  by_cases cC : k = 22
  · rw [if_pos cC]
    have hz := one (by omega)
    subst hz
    match ws, hl, h0 with
    | [x], _, h0 =>
      have hx := h0 0 (by simp)
      simp at hx
      unfold rlast
      rw [if_pos (by omega)]
      rw [rfold, if_neg (by rw [kid2 0 (by omega)]; decide), if_neg (by omega), rfold]
      simp [List.getD]
      omega
  rw [if_neg cC]
  by_cases cE : k = 25 ∨ k = 26
  · rw [if_pos cE]
    unfold rlast
    rw [if_neg (by omega), if_pos (by omega)]
    exact rfold_most ws k cE h0
  rw [if_neg cE]
  unfold rlast
  rw [if_neg (by omega), if_neg (by omega)]
  by_cases c5 : k = 5 ∨ k = 6
  · have stay : ∀ (r : List Int) (i : Nat) (x : Int), 0 < i → rfold k i x r = x := by
      intro r
      induction r with
      | nil => intro i x _; rfl
      | cons w r ih => intro i x hi; rw [rfold, if_pos (by unfold kidE; rw [if_neg (by omega), if_pos (by omega)]; decide), ih _ _ (by omega)]
    have hlen : 1 ≤ ws.length := by rw [hl]; exact hn.2 (by omega)
    match ws, hlen, h0 with
    | x :: r, _, h0 =>
      have hx := h0 0 (by simp)
      simp at hx
      rw [rfold, stay r 1 _ (by omega), if_neg (by unfold kidE; rw [if_neg (by omega), if_neg (by simp)]; decide), if_neg (by omega)]
      simp [List.getD]
      omega
  · have hz := one (by omega)
    subst hz
    match ws, hl, h0 with
    | [x], _, h0 =>
      have hx := h0 0 (by simp)
      simp at hx
      rw [rfold, if_neg (by rw [kid2 0 (by omega)]; decide), if_neg (by omega), rfold]
      simp [List.getD]
      omega

end Go.Proofs.Ytecaolkbllbokaa.TG
