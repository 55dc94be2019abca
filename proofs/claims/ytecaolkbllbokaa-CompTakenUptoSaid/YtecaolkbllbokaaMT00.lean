import Derived.Test.YtecaolkbllbokaaProg
import Derived.WalkKit
import Derived.WalkLawsBesides
import Derived.RowKit3
import Derived.Deep.Draws
import Derived.Lib.Hide
import Derived.Great.BuildSlice
import Derived.Great.Walk
import Derived.Outline
import Derived.Laws.AppendOwn
import Derived.Deep.QuietTactic
import Derived.BigQuiet
import Derived.Test.YtecaolkbllbokaaMTSq
set_option linter.unusedSimpArgs false
set_option linter.unusedVariables false
set_option maxRecDepth 100000
set_option maxHeartbeats 16000000
namespace Go.Proofs.Ytecaolkbllbokaa.TG
open Go.RowKit Go.Great
def Zcx (c : Int) : Bool := c == 95 || decide (97 <= c) && decide (c <= 122) || decide (65 <= c) && decide (c <= 90)
def Zoc (c : Int) : Bool := decide (48 <= c) && decide (c <= 57)
theorem Zup (c : Int) :
 (c = 95 /\ Zcx c = true) \/ ((c == 95) = false /\ 97 <= c /\ c <= 122 /\ Zcx c = true) \/ ((c == 95) = false /\ 97 <= c /\ 122 < c /\ Zcx c = false) \/
 ((c == 95) = false /\ c < 97 /\ 65 <= c /\ c <= 90 /\ Zcx c = true) \/ ((c == 95) = false /\ c < 97 /\ 65 <= c /\ 90 < c /\ Zcx c = false) \/ ((c == 95) = false /\ c < 65 /\ Zcx c = false) := by
 unfold Zcx
 by_cases h1 : c = 95
 · left; subst h1; exact ⟨rfl, by decide⟩
 · have e : (c == 95) = false := beq_eq_false_iff_ne.2 h1
   right; rw [e]
   by_cases h2 : 97 <= c
   · have h6 : 65 <= c := by omega
     have h7 : ¬ c <= 90 := by omega
     by_cases h3 : c <= 122
     · left; simp [h2, h3]
     · right; left; refine ⟨rfl, h2, by omega, ?_⟩; simp [h2, h3, h6, h7]
   · right; right
     by_cases h4 : 65 <= c
     · by_cases h5 : c <= 90
       · left; refine ⟨rfl, by omega, h4, h5, ?_⟩; simp [h2, h4, h5]
       · right; left; refine ⟨rfl, by omega, h4, by omega, ?_⟩; simp [h2, h4, h5]
     · right; right; refine ⟨rfl, by omega, ?_⟩; simp [h2, h4]
theorem Xf {k : IntKind} {a b : Int} (h : a = b) : Ending.returned (.int k a) = .returned (.int k b) := by rw [h]
theorem Zdh (c : Int) (w : World) : Calls Try.prog 82 #[.int .u8 c] w fun e w' => e = .returned (.bool (Zcx c)) /\ w = w' := by
 rcases Zup c with ⟨rfl, h⟩ | ⟨h1, h2, h3, h⟩ | ⟨h1, h2, h3, h⟩ | ⟨h1, h2, h3, h4, h⟩ | ⟨h1, h2, h3, h4, h⟩ | ⟨h1, h2, h⟩
 all_goals
  rw [h]; clear h
  go_enter Try.func82, Try.ntmps82
  go_wp2
  go_ret
  first
   | exact ⟨rfl, rfl⟩
   | exact ⟨by simp; omega, rfl⟩
theorem Zvi (c : Int) (w : World) : Calls Try.prog 84 #[.int .u8 c] w fun e w' => e = .returned (.bool (Zoc c)) /\ w = w' := by
 by_cases h1 : 48 <= c
 · have h : Zoc c = decide (c <= 57) := by unfold Zoc; simp [h1]
   rw [h]; clear h
   go_enter Try.func84, Try.ntmps84
   go_wp2
   go_ret
   exact ⟨rfl, rfl⟩
 · have h : Zoc c = false := by unfold Zoc; simp [h1]
   rw [h]; clear h
   go_enter Try.func84, Try.ntmps84
   go_wp2
   go_ret
   first | exact ⟨rfl, rfl⟩ | exact ⟨by simp, rfl⟩ | exact ⟨by simp; omega, rfl⟩
def Zgo (l : List ByteArray) (s : ByteArray) : Int := match l.findIdx? (fun v => s.toList == v.toList) with | some k => (k : Int) | none => -1
def Zkt (l : List ByteArray) (s : ByteArray) : Bool := l.any fun v => s.toList == v.toList
theorem Ych (l : List ByteArray) (s : ByteArray) (k : Nat) (hk : k < l.length) (hs : (s.toList == l[k].toList) = true) (hno : ∀ j (h : j < l.length), j < k -> (s.toList == l[j].toList) = false) : Zgo l s = (k : Int) := by
 unfold Zgo
 rw [List.findIdx?_eq_some_iff_getElem.2 ⟨hk, hs, fun j hj => by have := hno j (by omega) hj; simpa using this⟩]
theorem Zts (l : List ByteArray) (s : ByteArray) (hno : ∀ j (h : j < l.length), (s.toList == l[j].toList) = false) : Zgo l s = -1 := by
 unfold Zgo
 rw [List.findIdx?_eq_none_iff.2 (fun x hx => by obtain ⟨j, h, rfl⟩ := List.getElem_of_mem hx; exact hno j h)]
theorem Zww (l : List ByteArray) (s : ByteArray) : decide (0 <= Zgo l s) = Zkt l s := by
 unfold Zgo Zkt
 cases h : l.findIdx? (fun v => s.toList == v.toList) with
 | none =>
   rw [List.findIdx?_eq_none_iff] at h
   have : l.any (fun v => s.toList == v.toList) = false := by
    rw [List.any_eq_false]; intro x hx; rw [h x hx]; decide
   rw [this]; rfl
 | some k =>
   obtain ⟨hk, hs, _⟩ := List.findIdx?_eq_some_iff_getElem.1 h
   have : l.any (fun v => s.toList == v.toList) = true := List.any_eq_true.2 ⟨l[k], List.getElem_mem hk, hs⟩
   rw [this]; simp
theorem Ybw (b off len cap : Nat) (l : List ByteArray) (s : ByteArray) (w : World) (hl : l.length = len) (hlen : len <= 9223372036854775807)
 (hc : ∀ i (h : i < l.length), w.cell? ⟨b, off + i, none⟩ = some (.string l[i])) :
 Calls Try.prog 134 #[.slice (some ⟨b, off, none⟩) len cap, .string s] w fun e w' => e = .returned (.int .i64 (Zgo l s)) /\ w = w' := by
 have HC := Hq hc
 clear hc
 go_enter Try.func134, Try.ntmps134
 go_wp2
 go_loop [8] (fun i => ∃ k : Nat, k <= len /\ i = .int .i64 k /\ ∀ j (h : j < l.length), j < k -> (s.toList == l[j].toList) = false) (fun i => len - (intOf i).toNat)
 case atStart => exact ⟨0, Nat.zero_le _, rfl, fun j _ h => absurd h (Nat.not_lt_zero _)⟩
 case round =>
  obtain ⟨k, hk, rfl, hno⟩ := hrel
  have HN := Hq hno
  clear hno
  by_cases hlt : k < len
  · have kl : k < l.length := by omega
    have g := HC.out k kl
    clear hl
    cases hs : (s.toList == (l[k]'kl).toList) with
    | true =>
      have HP := Hq (Ych l s k kl hs HN.out)
      go_wp2
      go_ret
      exact ⟨Xf HP.out.symm, rfl⟩
    | false =>
      have HF := Hq hs
      go_wp2
      go_round
      case rel => exact ⟨k + 1, by omega, by go_num, fun j h hj => by
       rcases Nat.lt_or_eq_of_le (Nat.le_of_lt_succ hj) with h1 | h1
       · exact HN.out j h h1
       · subst h1; exact HF.out⟩
      case measure => simp [intOf]; omega
  · have : k = len := by omega
    have HP := Hq (Zts l s (fun j h => HN.out j h (by omega)))
    clear hl
    subst this
    go_wp2
    go_ret
    exact ⟨Xf HP.out.symm, rfl⟩
theorem Zvm (b off len cap : Nat) (l : List ByteArray) (s : ByteArray) (w : World) (hl : l.length = len) (hlen : len <= 9223372036854775807)
 (hc : ∀ i (h : i < l.length), w.cell? ⟨b, off + i, none⟩ = some (.string l[i])) :
 Calls Try.prog 112 #[.slice (some ⟨b, off, none⟩) len cap, .string s] w fun e w' => e = .returned (.bool (Zkt l s)) /\ w = w' := by
 have H := Hq (Ybw b off len cap l s w hl hlen hc)
 have HA := Hq (Zww l s)
 clear hc hl
 generalize Zgo l s = v at *
 go_enter Try.func112, Try.ntmps112
 go_wp2_with (go_at_call 134; refine H.out.mono ?_; rintro e w' ⟨rfl, rfl⟩)
 go_ret
 exact ⟨congrArg (fun b => Ending.returned (Value.bool b)) HA.out, rfl⟩
def tabI : List Int := [0, 0, 0, 0, 0, 0, 0, 0, 0, 0, 0, 0, 0, 0, 0, 0, 0, 0, 0, 0, 2, 2, 2, 2, 2, 2, 2, 2, 2, 2, 2, 2, 2, 2, 1, 1, 2, 2, 2, 2, 2, 2, 1, 1, 1, 1]
def opn (op : Int) : Int := if op < 0 then 0 else tabI.getD op.toNat 0
theorem Zwy (op : Int) (h : op < 0 \/ 46 <= op) : opn op = 0 := by
 unfold opn
 by_cases c : op < 0
 · rw [if_pos c]
 · rw [if_neg c, List.getD_eq_getElem?_getD, List.getElem?_eq_none (by show 46 <= op.toNat; omega)]; rfl
def tab46 : Array Value := (tabI.map (fun n => Value.int .i64 n)).toArray
def Zox : Array Value := (List.replicate 46 (Value.int .i64 0)).toArray
theorem Yky (k : Nat) (hk : k < 46) : tab46[k]? = some (Value.int .i64 (opn k)) := by
 unfold tab46
 have hk2 : k < tabI.length := hk
 rw [List.getElem?_toArray, List.getElem?_map, List.getElem?_eq_getElem hk2]
 unfold opn
 rw [if_neg (by omega), Int.toNat_natCast, List.getD_eq_getElem?_getD, List.getElem?_eq_getElem hk2]; rfl
theorem Zxh (w : World) (c : Array Value) (t : TypeId) : (w.alloc (.cells c t)).heap[w.heap.size]? = some (.cells c t (0, 0)) := by
 rw [show (w.alloc (.cells c t)).heap = w.heap.push (.cells c t) from rfl]; simp
theorem Zke (w : World) (c d : Array Value) (t : TypeId) : (w.alloc (.cells c t)).setRow w.heap.size d = w.alloc (.cells d t) := by
 unfold World.setRow World.alloc
 congr 1
 apply Array.ext_getElem?
 intro i
 rw [Array.getElem?_modify]
 rcases Nat.lt_trichotomy i w.heap.size with h | h | h
 · rw [if_neg (by omega)]; simp [Array.getElem?_push, Nat.ne_of_lt h]
 · subst h; simp
 · rw [if_neg (by omega)]; simp [Array.getElem?_push, Nat.ne_of_gt h]
theorem Ztv (op : Int) (h1 : op < 0) (w : World) : Calls Try.prog 144 #[.int .i64 op] w fun e w' => e = .returned (.int .i64 (opn op)) /\ ∃ c, w' = w.alloc (.cells c 216) := by
 rw [Zwy op (Or.inl h1)]
 go_enter Try.func144, Try.ntmps144
 go_wp2_with (first
  | (refine wpList_buildTo rfl 216 _ rfl (some 4) rfl tab46 (by kernel_rfl) ?_)
  | (refine wpList_allocTo rfl (some 3) rfl (.pointer (some ⟨w.heap.size, 0, none⟩)) (.cells Zox 216) (by kernel_rfl) ?_)
  | (refine wpList_store_rowTo rfl 216 _ _ rfl rfl w.heap.size tab46 rfl rfl 216 Zox (Zxh w _ _) (by kernel_rfl) rfl (by kernel_rfl) ?_; rw [Zke]))
 go_ret
 exact ⟨rfl, _, rfl⟩
theorem Ztx (op : Int) (h1 : 46 <= op) (w : World) : Calls Try.prog 144 #[.int .i64 op] w fun e w' => e = .returned (.int .i64 (opn op)) /\ ∃ c, w' = w.alloc (.cells c 216) := by
 rw [Zwy op (Or.inr h1)]
 go_enter Try.func144, Try.ntmps144
 go_wp2_with (first
  | (refine wpList_buildTo rfl 216 _ rfl (some 4) rfl tab46 (by kernel_rfl) ?_)
  | (refine wpList_allocTo rfl (some 3) rfl (.pointer (some ⟨w.heap.size, 0, none⟩)) (.cells Zox 216) (by kernel_rfl) ?_)
  | (refine wpList_store_rowTo rfl 216 _ _ rfl rfl w.heap.size tab46 rfl rfl 216 Zox (Zxh w _ _) (by kernel_rfl) rfl (by kernel_rfl) ?_; rw [Zke]))
 go_ret
 exact ⟨rfl, _, rfl⟩
theorem Ztw (k : Nat) (hk : k < 46) (w : World) : Calls Try.prog 144 #[.int .i64 (k : Int)] w fun e w' => e = .returned (.int .i64 (opn k)) /\ ∃ c, w' = w.alloc (.cells c 216) := by
 have hc := Yky k hk
 have hsz : tab46.size = 46 := rfl
 have hg : ∀ h, tab46[k]'h = Value.int .i64 (opn k) := fun h => (Array.getElem?_eq_some_iff.1 hc).2
 have HG := Hq hg
 clear hc hg
 go_enter Try.func144, Try.ntmps144
 go_wp2_with (first
  | (refine wpList_buildTo rfl 216 _ rfl (some 4) rfl tab46 (by kernel_rfl) ?_)
  | (refine wpList_allocTo rfl (some 3) rfl (.pointer (some ⟨w.heap.size, 0, none⟩)) (.cells Zox 216) (by kernel_rfl) ?_)
  | (refine wpList_store_rowTo rfl 216 _ _ rfl rfl w.heap.size tab46 rfl rfl 216 Zox (Zxh w _ _) (by kernel_rfl) rfl (by kernel_rfl) ?_; rw [Zke]))
 go_ret
 exact ⟨congrArg Ending.returned (HG.out _), _, rfl⟩
theorem Zec (op : Int) (w : World) : Calls Try.prog 144 #[.int .i64 op] w fun e w' => e = .returned (.int .i64 (opn op)) /\ ∃ c, w' = w.alloc (.cells c 216) := by
 by_cases h1 : op < 0
 · exact Ztv op h1 w
 · by_cases h2 : 46 <= op
   · exact Ztx op h2 w
   · obtain ⟨k, rfl⟩ := Int.eq_ofNat_of_zero_le (show 0 <= op by omega)
     exact Ztw k (by omega) w
theorem Yod (op : Int) (w : World) : Calls Try.prog 138 #[.int .i64 op] w fun e w' => e = .returned (.bool (opn op == 2)) /\ ∃ c, w' = w.alloc (.cells c 216) := by
 have H := Hq (Zec op)
 generalize opn op = v at *
 go_enter Try.func138, Try.ntmps138
 go_wp2_with (go_at_call 144; refine (H.out _).mono ?_; rintro e w' ⟨rfl, c, rfl⟩)
 go_ret
 exact ⟨rfl, _, rfl⟩
theorem Yoe (op : Int) (w : World) : Calls Try.prog 137 #[.int .i64 op] w fun e w' => e = .returned (.bool (opn op == 1)) /\ ∃ c, w' = w.alloc (.cells c 216) := by
 have H := Hq (Zec op)
 generalize opn op = v at *
 go_enter Try.func137, Try.ntmps137
 go_wp2_with (go_at_call 144; refine (H.out _).mono ?_; rintro e w' ⟨rfl, c, rfl⟩)
 go_ret
 exact ⟨rfl, _, rfl⟩
def kwords : List ByteArray := [⟨#[116, 101, 120, 116]⟩, ⟨#[102, 117, 110, 99]⟩, ⟨#[105, 102]⟩, ⟨#[101, 108, 115, 101]⟩, ⟨#[119, 104, 105, 108, 101]⟩, ⟨#[98, 114, 101, 97, 107]⟩, ⟨#[99, 111, 110, 116, 105, 110, 117, 101]⟩, ⟨#[114, 101, 116, 117, 114, 110]⟩, ⟨#[97, 98, 111, 114, 116]⟩, ⟨#[100, 111]⟩, ⟨#[119, 111, 114, 100]⟩, ⟨#[98, 121, 116, 101]⟩, ⟨#[115, 105, 122, 101]⟩, ⟨#[114, 111, 111, 116]⟩, ⟨#[102, 108, 111, 97, 116]⟩, ⟨#[105, 110, 116]⟩, ⟨#[111, 112, 101, 110]⟩, ⟨#[114, 101, 97, 100]⟩, ⟨#[119, 114, 105, 116, 101]⟩, ⟨#[108, 105, 115, 116]⟩, ⟨#[99, 108, 111, 115, 101]⟩]
def Yao : Array Value := (kwords.map Value.string).toArray
theorem Yhw (w : World) (i : Nat) (h : i < kwords.length) : (w.alloc (.cells Yao 9)).cell? ⟨w.heap.size, 0 + i, none⟩ = some (.string kwords[i]) := by
 rw [World.cell?_alloc_at _ _ _ _ rfl, Nat.zero_add]
 unfold Yao
 rw [List.getElem?_toArray, List.getElem?_map, List.getElem?_eq_getElem h]; rfl
theorem Ze (w : World) (r : Option Nat) : w.grownBy w r := ⟨rfl, rfl, rfl, Nat.le_refl _, fun _ _ _ => rfl⟩
theorem Za {a b c : World} {r : Option Nat} (h : a.grownBy b r) (g : b.grownBy c r) : a.grownBy c r :=
 ⟨g.os.trans h.os, g.tape.trans h.tape, g.output.trans h.output, Nat.le_trans h.size g.size, fun k hk hr => (g.block k (Nat.lt_of_lt_of_le hk h.size) hr).trans (h.block k hk hr)⟩
theorem Ynw (s : ByteArray) (w : World) : Calls Try.prog 83 #[.string s] w fun e w' => e = .returned (.bool (Zkt kwords s)) /\ w.grownBy w' none := by
 have H := Hq (Zvm w.heap.size 0 21 21 kwords s (w.alloc (.cells Yao 9)) rfl (by omega) (Yhw w))
 generalize Zkt kwords s = v at *
 go_enter Try.func83, Try.ntmps83
 go_wp2_with (first
  | (refine wpList_buildSliceTo rfl 66 9 21 _ rfl w.heap.size rfl (some 3) rfl Try.underlying66 Yao (by kernel_rfl) ?_)
  | (go_at_call 112; refine H.out.mono ?_; rintro e w' ⟨rfl, rfl⟩))
 go_ret
 exact ⟨rfl, Ga _ _ _⟩
def Zka (c : Int) : Bool := Zcx c || Zoc c
def Zkl (s : ByteArray) : Bool := decide (1 <= s.size) && decide (s.size <= 64) && Zcx ((s.data.toList.headD 0).toNat : Int) && !Zkt kwords s && s.data.toList.all fun c => Zka (c.toNat : Int)
theorem Yzi (s : ByteArray) (h : ∀ j (hj : j < s.size), Zka ((s[j]'hj).toNat : Int) = true) : (s.data.toList.all fun c => Zka (c.toNat : Int)) = true := by
 rw [List.all_eq_true]
 intro x hx
 obtain ⟨j, hj, rfl⟩ := List.getElem_of_mem hx
 exact h j (by simpa using hj)
theorem Ysx (s : ByteArray) (j : Nat) (hj : j < s.size) (h : Zka ((s[j]'hj).toNat : Int) = false) : (s.data.toList.all fun c => Zka (c.toNat : Int)) = false := by
 rw [List.all_eq_false]
 refine ⟨s[j], ?_, by rw [h]; decide⟩
 have : s[j] ∈ s.data.toList := by
  show s.data[j] ∈ s.data.toList
  exact List.getElem_mem (l := s.data.toList) (by simpa using hj)
 exact this
theorem Yif (s : ByteArray) (h : 0 < s.size) : s.data.toList.headD 0 = s[0] := by
 show s.data.toList.headD 0 = s.data[0]
 have h2 : 0 < s.data.toList.length := by simpa using h
 cases hl : s.data.toList with
 | nil => rw [hl] at h2; simp at h2
 | cons a l =>
   have : s.data[0]'(by simpa using h) = s.data.toList[0]'h2 := rfl
   rw [this]; simp [hl]
theorem Ymb (s : ByteArray) (w : World) : Calls Try.prog 53 #[.string s] w fun e w' => e = .returned (.bool (Zkl s)) /\ w.grownBy w' none := by
 by_cases h1 : s.size < 1
 · have hn : Zkl s = false := by unfold Zkl; rw [decide_eq_false (by omega)]; rfl
   rw [hn]; clear hn
   go_enter Try.func53, Try.ntmps53
   go_wp2
   go_ret
   exact ⟨rfl, Ze _ _⟩
 by_cases h2 : 64 < s.size
 · have hn : Zkl s = false := by unfold Zkl; rw [decide_eq_false (show ¬ s.size <= 64 by omega)]; simp
   rw [hn]; clear hn
   go_enter Try.func53, Try.ntmps53
   go_wp2
   go_ret
   exact ⟨rfl, Ze _ _⟩
 have h0 : 0 < s.size := by omega
 cases h3 : Zcx ((s[0]'h0).toNat : Int) with
 | false =>
   have hn : Zkl s = false := by unfold Zkl; rw [Yif s h0, h3]; simp
   rw [hn]; clear hn
   go_enter Try.func53, Try.ntmps53
   go_wp2_with (go_at_call 82; refine (Zdh _ _).mono ?_; rintro e w' ⟨rfl, rfl⟩)
   go_ret
   exact ⟨rfl, Ze _ _⟩
 | true =>
   have K := Hq (Ynw s)
   cases h4 : Zkt kwords s with
   | true =>
     have hn : Zkl s = false := by unfold Zkl; rw [h4]; simp
     rw [hn]; clear hn
     rw [h4] at K
     go_enter Try.func53, Try.ntmps53
     go_wp2_with (first | (go_at_call 82; refine (Zdh _ _).mono ?_; rintro e w' ⟨rfl, rfl⟩) | (go_at_call 83; refine (K.out _).mono ?_; rintro e w' ⟨rfl, hg⟩))
     go_ret
     exact ⟨rfl, hg⟩
   | false =>
     have hn : Zkl s = s.data.toList.all fun c => Zka (c.toNat : Int) := by
      unfold Zkl; rw [Yif s h0, h3, h4, decide_eq_true (by omega), decide_eq_true (by omega)]; rfl
     rw [hn]; clear hn
     rw [h4] at K
     have HA := Hq (Yzi s)
     have HN := Hq (Ysx s)
     generalize (s.data.toList.all fun c => Zka (c.toNat : Int)) = v at *
     go_enter Try.func53, Try.ntmps53
     go_wp2_with (first | (go_at_call 82; refine (Zdh _ _).mono ?_; rintro e w' ⟨rfl, rfl⟩) | (go_at_call 83; refine (K.out _).mono ?_; rintro e w1 ⟨rfl, hg⟩))
     go_loop [24] (fun i => ∃ k : Nat, k <= s.size /\ i = .int .i64 k /\ ∀ j (hj : j < s.size), j < k -> Zka ((s[j]'hj).toNat : Int) = true) (fun i => s.size - (intOf i).toNat)
     case atStart => exact ⟨0, Nat.zero_le _, rfl, fun j _ h => absurd h (Nat.not_lt_zero _)⟩
     case round =>
      obtain ⟨k, hk, rfl, hall⟩ := hrel
      have HL := Hq hall
      clear hall
      by_cases hlt : k < s.size
      · cases c1 : Zcx ((s[k]'hlt).toNat : Int) with
        | true =>
          have ht : Zka ((s[k]'hlt).toNat : Int) = true := by unfold Zka; rw [c1]; rfl
          have HT := Hq ht
          clear ht
          go_wp2_with (go_at_call 82; refine (Zdh _ _).mono ?_; rintro e w' ⟨rfl, rfl⟩)
          go_round
          case rel => exact ⟨k + 1, by omega, by go_num, fun j hj h => by
           rcases Nat.lt_or_eq_of_le (Nat.le_of_lt_succ h) with h5 | h5
           · exact HL.out j hj h5
           · subst h5; exact HT.out⟩
          case measure => simp [intOf]; omega
        | false =>
          cases c2 : Zoc ((s[k]'hlt).toNat : Int) with
          | true =>
            have ht : Zka ((s[k]'hlt).toNat : Int) = true := by unfold Zka; rw [c1, c2]; rfl
            have HT := Hq ht
            clear ht
            go_wp2_with (first | (go_at_call 82; refine (Zdh _ _).mono ?_; rintro e w' ⟨rfl, rfl⟩) | (go_at_call 84; refine (Zvi _ _).mono ?_; rintro e w' ⟨rfl, rfl⟩))
            go_round
            case rel => exact ⟨k + 1, by omega, by go_num, fun j hj h => by
             rcases Nat.lt_or_eq_of_le (Nat.le_of_lt_succ h) with h5 | h5
             · exact HL.out j hj h5
             · subst h5; exact HT.out⟩
            case measure => simp [intOf]; omega
          | false =>
            have ht : v = false := HN.out k hlt (by unfold Zka; rw [c1, c2]; rfl)
            have HT := Hq ht
            clear ht
            go_wp2_with (first | (go_at_call 82; refine (Zdh _ _).mono ?_; rintro e w' ⟨rfl, rfl⟩) | (go_at_call 84; refine (Zvi _ _).mono ?_; rintro e w' ⟨rfl, rfl⟩))
            go_ret
            exact ⟨by rw [HT.out]; rfl, hg⟩
      · have ht : v = true := HA.out (fun j hj => HL.out j hj (by omega))
        have HT := Hq ht
        clear ht
        go_wp2
        go_ret
        exact ⟨by rw [HT.out]; rfl, hg⟩
def Jb (x n e : Int) : Int := if x < 0 \/ n <= x then e else 0
def Zlk (b : Bool) : Int := if b then 0 else 171
theorem Zhe (x n e : Int) (b : Nat) (w : World) (h1 : w.cell? ⟨b, 1, none⟩ = some (.int .i64 x)) :
 Calls Try.prog 135 #[.int .i64 n, .int .i64 e, .pointer (some ⟨b, 0, none⟩)] w fun r w' => r = .returned (.int .i64 (Jb x n e)) /\ w = w' := by
 unfold Jb
 by_cases c1 : x < 0
 · rw [if_pos (Or.inl c1)]
   go_enter Try.func135, Try.ntmps135
   go_wp2
   go_ret
   exact ⟨rfl, rfl⟩
 · by_cases c2 : n <= x
   · rw [if_pos (Or.inr c2)]
     go_enter Try.func135, Try.ntmps135
     go_wp2
     go_ret
     exact ⟨rfl, rfl⟩
   · rw [if_neg (by omega)]
     go_enter Try.func135, Try.ntmps135
     go_wp2
     go_ret
     exact ⟨rfl, rfl⟩
theorem Jy (b : Bool) (w : World) :
 Calls Try.prog 136 #[.bool b] w fun r w' => r = .returned (.int .i64 (Zlk b)) /\ w = w' := by
 cases b
 all_goals
  go_enter Try.func136, Try.ntmps136
  go_wp2
  go_ret
  exact ⟨rfl, rfl⟩
def Zpl (nl nt nf loops k n : Int) : Int :=
 if k = 12 then 0 else if k = 2 \/ k = 13 then Jb n nl 173 else if k = 14 \/ k = 15 then Jb n nt 173 else if k = 25 then Jb n nf 173 else
 if k = 26 then Jb n 5 171 else if k = 7 \/ k = 8 then Jb n loops 171 else if k = 19 then Zlk (opn n == 1) else if k = 20 then Zlk (opn n == 2) else
 if k = 21 then Zlk (n == 32 || n == 33 || n == 41) else Zlk (n == 0)
structure Chk (w : World) (Bc bf of : Nat) (vt vf vl vp : Value) (at_ loops most : Int) : Prop where
 lt : Bc < w.heap.size
 ltf : bf < w.heap.size
 ne : bf ≠ Bc
 c0 : w.cell? ⟨Bc, 0, none⟩ = some vt
 c1 : w.cell? ⟨Bc, 1, none⟩ = some vf
 c2 : w.cell? ⟨Bc, 2, none⟩ = some (.pointer (some ⟨bf, of, none⟩))
 c3 : w.cell? ⟨Bc, 3, none⟩ = some (.int .i64 at_)
 c4 : w.cell? ⟨Bc, 4, none⟩ = some (.int .i64 loops)
 c5 : w.cell? ⟨Bc, 5, none⟩ = some (.int .i64 most)
 f2 : w.cell? ⟨bf, of + 2, none⟩ = some vl
 f3 : w.cell? ⟨bf, of + 3, none⟩ = some vp
theorem Ycp (n kc : Int) (Bc : Nat) (w : World) :
 Calls Try.prog 114 #[.pointer (some ⟨Bc, 0, none⟩), .agg #[.int .i64 12, .int .i64 n, .int .i64 kc]] w fun e w' => e = .returned (.int .i64 0) /\ w.grownBy w' none := by
 go_enter Try.func114, Try.ntmps114
 go_wp2
 go_ret
 exact ⟨rfl, Ga _ _ _⟩
theorem Zuf (k n kc : Int) (hk : k = 2 \/ k = 13) (Bc bf of nl cl : Nat) (pl : Option Addr) (w : World) (hlt : Bc < w.heap.size) (hltf : bf < w.heap.size)
 (h2 : w.cell? ⟨Bc, 2, none⟩ = some (.pointer (some ⟨bf, of, none⟩))) (hf : w.cell? ⟨bf, of + 2, none⟩ = some (.slice pl nl cl)) :
 Calls Try.prog 114 #[.pointer (some ⟨Bc, 0, none⟩), .agg #[.int .i64 k, .int .i64 n, .int .i64 kc]] w fun e w' => e = .returned (.int .i64 (Jb n nl 173)) /\ w.grownBy w' none := by
 rcases hk with rfl | rfl
 all_goals
  go_enter Try.func114, Try.ntmps114
  go_wp2_with (go_at_call 135; refine (Zhe n nl 173 w.heap.size _ (by simp)).mono ?_; rintro e w1 ⟨rfl, rfl⟩)
  go_ret
  exact ⟨rfl, Ga _ _ _⟩
theorem Zxc (k n kc : Int) (hk : k = 14 \/ k = 15) (Bc nl cl : Nat) (pl : Option Addr) (w : World) (hlt : Bc < w.heap.size)
 (h2 : w.cell? ⟨Bc, 0, none⟩ = some (.slice pl nl cl)) :
 Calls Try.prog 114 #[.pointer (some ⟨Bc, 0, none⟩), .agg #[.int .i64 k, .int .i64 n, .int .i64 kc]] w fun e w' => e = .returned (.int .i64 (Jb n nl 173)) /\ w.grownBy w' none := by
 rcases hk with rfl | rfl
 all_goals
  go_enter Try.func114, Try.ntmps114
  go_wp2_with (go_at_call 135; refine (Zhe n nl 173 w.heap.size _ (by simp)).mono ?_; rintro e w1 ⟨rfl, rfl⟩)
  go_ret
  exact ⟨rfl, Ga _ _ _⟩
theorem Zxf (n kc : Int) (Bc nl cl : Nat) (pl : Option Addr) (w : World) (hlt : Bc < w.heap.size)
 (h2 : w.cell? ⟨Bc, 1, none⟩ = some (.slice pl nl cl)) :
 Calls Try.prog 114 #[.pointer (some ⟨Bc, 0, none⟩), .agg #[.int .i64 25, .int .i64 n, .int .i64 kc]] w fun e w' => e = .returned (.int .i64 (Jb n nl 173)) /\ w.grownBy w' none := by
 go_enter Try.func114, Try.ntmps114
 go_wp2_with (go_at_call 135; refine (Zhe n nl 173 w.heap.size _ (by simp)).mono ?_; rintro e w1 ⟨rfl, rfl⟩)
 go_ret
 exact ⟨rfl, Ga _ _ _⟩
theorem Ycn (n kc : Int) (Bc : Nat) (w : World) :
 Calls Try.prog 114 #[.pointer (some ⟨Bc, 0, none⟩), .agg #[.int .i64 26, .int .i64 n, .int .i64 kc]] w fun e w' => e = .returned (.int .i64 (Jb n 5 171)) /\ w.grownBy w' none := by
 go_enter Try.func114, Try.ntmps114
 go_wp2_with (go_at_call 135; refine (Zhe n 5 171 w.heap.size _ (by simp)).mono ?_; rintro e w1 ⟨rfl, rfl⟩)
 go_ret
 exact ⟨rfl, Ga _ _ _⟩
theorem Zxe (k n kc loops : Int) (hk : k = 7 \/ k = 8) (Bc : Nat) (w : World) (hlt : Bc < w.heap.size)
 (h2 : w.cell? ⟨Bc, 4, none⟩ = some (.int .i64 loops)) :
 Calls Try.prog 114 #[.pointer (some ⟨Bc, 0, none⟩), .agg #[.int .i64 k, .int .i64 n, .int .i64 kc]] w fun e w' => e = .returned (.int .i64 (Jb n loops 171)) /\ w.grownBy w' none := by
 rcases hk with rfl | rfl
 all_goals
  go_enter Try.func114, Try.ntmps114
  go_wp2_with (go_at_call 135; refine (Zhe n loops 171 w.heap.size _ (by simp)).mono ?_; rintro e w1 ⟨rfl, rfl⟩)
  go_ret
  exact ⟨rfl, Ga _ _ _⟩
theorem Yco (n kc : Int) (Bc : Nat) (w : World) :
 Calls Try.prog 114 #[.pointer (some ⟨Bc, 0, none⟩), .agg #[.int .i64 19, .int .i64 n, .int .i64 kc]] w fun e w' => e = .returned (.int .i64 (Zlk (opn n == 1))) /\ w.grownBy w' none := by
 have H := Hq (Yoe n)
 have M := Hq Jy
 generalize (opn n == 1) = v at *
 go_enter Try.func114, Try.ntmps114
 go_wp2_with (first | (go_at_call 137; refine (H.out _).mono ?_; rintro e w1 ⟨rfl, c, rfl⟩) | (go_at_call 136; refine (M.out _ _).mono ?_; rintro e w1 ⟨rfl, rfl⟩))
 go_ret
 exact ⟨rfl, Za (Ga _ _ _) (Ga _ _ _)⟩
theorem Ycm (n kc : Int) (Bc : Nat) (w : World) :
 Calls Try.prog 114 #[.pointer (some ⟨Bc, 0, none⟩), .agg #[.int .i64 20, .int .i64 n, .int .i64 kc]] w fun e w' => e = .returned (.int .i64 (Zlk (opn n == 2))) /\ w.grownBy w' none := by
 have H := Hq (Yod n)
 have M := Hq Jy
 generalize (opn n == 2) = v at *
 go_enter Try.func114, Try.ntmps114
 go_wp2_with (first | (go_at_call 138; refine (H.out _).mono ?_; rintro e w1 ⟨rfl, c, rfl⟩) | (go_at_call 136; refine (M.out _ _).mono ?_; rintro e w1 ⟨rfl, rfl⟩))
 go_ret
 exact ⟨rfl, Za (Ga _ _ _) (Ga _ _ _)⟩
theorem Zxb (n kc : Int) (Bc : Nat) (w : World) :
 Calls Try.prog 114 #[.pointer (some ⟨Bc, 0, none⟩), .agg #[.int .i64 21, .int .i64 n, .int .i64 kc]] w fun e w' => e = .returned (.int .i64 (Zlk (n == 32 || n == 33 || n == 41))) /\ w.grownBy w' none := by
 have M := Hq Jy
 cases e1 : (n == 32) <;> cases e2 : (n == 33) <;> cases e3 : (n == 41)
 all_goals
  go_enter Try.func114, Try.ntmps114
  go_wp2_with (go_at_call 136; refine (M.out _ _).mono ?_; rintro e w1 ⟨rfl, rfl⟩)
  go_ret
  exact ⟨rfl, Ga _ _ _⟩
theorem Zue (n kc : Int) (Bc : Nat) (w : World) :
 Calls Try.prog 114 #[.pointer (some ⟨Bc, 0, none⟩), .agg #[.int .i64 1, .int .i64 n, .int .i64 kc]] w fun e w' => e = .returned (.int .i64 (Zlk (n == 0))) /\ w.grownBy w' none := by
 have M := Hq Jy
 go_enter Try.func114, Try.ntmps114
 go_wp2_with (go_at_call 136; refine (M.out _ _).mono ?_; rintro e w1 ⟨rfl, rfl⟩)
 go_ret
 exact ⟨rfl, Ga _ _ _⟩
theorem Zud (n kc : Int) (Bc : Nat) (w : World) :
 Calls Try.prog 114 #[.pointer (some ⟨Bc, 0, none⟩), .agg #[.int .i64 3, .int .i64 n, .int .i64 kc]] w fun e w' => e = .returned (.int .i64 (Zlk (n == 0))) /\ w.grownBy w' none := by
 have M := Hq Jy
 go_enter Try.func114, Try.ntmps114
 go_wp2_with (go_at_call 136; refine (M.out _ _).mono ?_; rintro e w1 ⟨rfl, rfl⟩)
 go_ret
 exact ⟨rfl, Ga _ _ _⟩
theorem Zuc (n kc : Int) (Bc : Nat) (w : World) :
 Calls Try.prog 114 #[.pointer (some ⟨Bc, 0, none⟩), .agg #[.int .i64 4, .int .i64 n, .int .i64 kc]] w fun e w' => e = .returned (.int .i64 (Zlk (n == 0))) /\ w.grownBy w' none := by
 have M := Hq Jy
 go_enter Try.func114, Try.ntmps114
 go_wp2_with (go_at_call 136; refine (M.out _ _).mono ?_; rintro e w1 ⟨rfl, rfl⟩)
 go_ret
 exact ⟨rfl, Ga _ _ _⟩
theorem Zub (n kc : Int) (Bc : Nat) (w : World) :
 Calls Try.prog 114 #[.pointer (some ⟨Bc, 0, none⟩), .agg #[.int .i64 5, .int .i64 n, .int .i64 kc]] w fun e w' => e = .returned (.int .i64 (Zlk (n == 0))) /\ w.grownBy w' none := by
 have M := Hq Jy
 go_enter Try.func114, Try.ntmps114
 go_wp2_with (go_at_call 136; refine (M.out _ _).mono ?_; rintro e w1 ⟨rfl, rfl⟩)
 go_ret
 exact ⟨rfl, Ga _ _ _⟩
theorem Zua (n kc : Int) (Bc : Nat) (w : World) :
 Calls Try.prog 114 #[.pointer (some ⟨Bc, 0, none⟩), .agg #[.int .i64 6, .int .i64 n, .int .i64 kc]] w fun e w' => e = .returned (.int .i64 (Zlk (n == 0))) /\ w.grownBy w' none := by
 have M := Hq Jy
 go_enter Try.func114, Try.ntmps114
 go_wp2_with (go_at_call 136; refine (M.out _ _).mono ?_; rintro e w1 ⟨rfl, rfl⟩)
 go_ret
 exact ⟨rfl, Ga _ _ _⟩
theorem Ztz (n kc : Int) (Bc : Nat) (w : World) :
 Calls Try.prog 114 #[.pointer (some ⟨Bc, 0, none⟩), .agg #[.int .i64 9, .int .i64 n, .int .i64 kc]] w fun e w' => e = .returned (.int .i64 (Zlk (n == 0))) /\ w.grownBy w' none := by
 have M := Hq Jy
 go_enter Try.func114, Try.ntmps114
 go_wp2_with (go_at_call 136; refine (M.out _ _).mono ?_; rintro e w1 ⟨rfl, rfl⟩)
 go_ret
 exact ⟨rfl, Ga _ _ _⟩
theorem Zrk (n kc : Int) (Bc : Nat) (w : World) :
 Calls Try.prog 114 #[.pointer (some ⟨Bc, 0, none⟩), .agg #[.int .i64 10, .int .i64 n, .int .i64 kc]] w fun e w' => e = .returned (.int .i64 (Zlk (n == 0))) /\ w.grownBy w' none := by
 have M := Hq Jy
 go_enter Try.func114, Try.ntmps114
 go_wp2_with (go_at_call 136; refine (M.out _ _).mono ?_; rintro e w1 ⟨rfl, rfl⟩)
 go_ret
 exact ⟨rfl, Ga _ _ _⟩
theorem Zrj (n kc : Int) (Bc : Nat) (w : World) :
 Calls Try.prog 114 #[.pointer (some ⟨Bc, 0, none⟩), .agg #[.int .i64 11, .int .i64 n, .int .i64 kc]] w fun e w' => e = .returned (.int .i64 (Zlk (n == 0))) /\ w.grownBy w' none := by
 have M := Hq Jy
 go_enter Try.func114, Try.ntmps114
 go_wp2_with (go_at_call 136; refine (M.out _ _).mono ?_; rintro e w1 ⟨rfl, rfl⟩)
 go_ret
 exact ⟨rfl, Ga _ _ _⟩
theorem Zri (n kc : Int) (Bc : Nat) (w : World) :
 Calls Try.prog 114 #[.pointer (some ⟨Bc, 0, none⟩), .agg #[.int .i64 16, .int .i64 n, .int .i64 kc]] w fun e w' => e = .returned (.int .i64 (Zlk (n == 0))) /\ w.grownBy w' none := by
 have M := Hq Jy
 go_enter Try.func114, Try.ntmps114
 go_wp2_with (go_at_call 136; refine (M.out _ _).mono ?_; rintro e w1 ⟨rfl, rfl⟩)
 go_ret
 exact ⟨rfl, Ga _ _ _⟩
theorem Zrh (n kc : Int) (Bc : Nat) (w : World) :
 Calls Try.prog 114 #[.pointer (some ⟨Bc, 0, none⟩), .agg #[.int .i64 17, .int .i64 n, .int .i64 kc]] w fun e w' => e = .returned (.int .i64 (Zlk (n == 0))) /\ w.grownBy w' none := by
 have M := Hq Jy
 go_enter Try.func114, Try.ntmps114
 go_wp2_with (go_at_call 136; refine (M.out _ _).mono ?_; rintro e w1 ⟨rfl, rfl⟩)
 go_ret
 exact ⟨rfl, Ga _ _ _⟩
theorem Zrg (n kc : Int) (Bc : Nat) (w : World) :
 Calls Try.prog 114 #[.pointer (some ⟨Bc, 0, none⟩), .agg #[.int .i64 18, .int .i64 n, .int .i64 kc]] w fun e w' => e = .returned (.int .i64 (Zlk (n == 0))) /\ w.grownBy w' none := by
 have M := Hq Jy
 go_enter Try.func114, Try.ntmps114
 go_wp2_with (go_at_call 136; refine (M.out _ _).mono ?_; rintro e w1 ⟨rfl, rfl⟩)
 go_ret
 exact ⟨rfl, Ga _ _ _⟩
theorem Zrf (n kc : Int) (Bc : Nat) (w : World) :
 Calls Try.prog 114 #[.pointer (some ⟨Bc, 0, none⟩), .agg #[.int .i64 22, .int .i64 n, .int .i64 kc]] w fun e w' => e = .returned (.int .i64 (Zlk (n == 0))) /\ w.grownBy w' none := by
 have M := Hq Jy
 go_enter Try.func114, Try.ntmps114
 go_wp2_with (go_at_call 136; refine (M.out _ _).mono ?_; rintro e w1 ⟨rfl, rfl⟩)
 go_ret
 exact ⟨rfl, Ga _ _ _⟩
theorem Zre (n kc : Int) (Bc : Nat) (w : World) :
 Calls Try.prog 114 #[.pointer (some ⟨Bc, 0, none⟩), .agg #[.int .i64 23, .int .i64 n, .int .i64 kc]] w fun e w' => e = .returned (.int .i64 (Zlk (n == 0))) /\ w.grownBy w' none := by
 have M := Hq Jy
 go_enter Try.func114, Try.ntmps114
 go_wp2_with (go_at_call 136; refine (M.out _ _).mono ?_; rintro e w1 ⟨rfl, rfl⟩)
 go_ret
 exact ⟨rfl, Ga _ _ _⟩
theorem Zrd (n kc : Int) (Bc : Nat) (w : World) :
 Calls Try.prog 114 #[.pointer (some ⟨Bc, 0, none⟩), .agg #[.int .i64 24, .int .i64 n, .int .i64 kc]] w fun e w' => e = .returned (.int .i64 (Zlk (n == 0))) /\ w.grownBy w' none := by
 have M := Hq Jy
 go_enter Try.func114, Try.ntmps114
 go_wp2_with (go_at_call 136; refine (M.out _ _).mono ?_; rintro e w1 ⟨rfl, rfl⟩)
 go_ret
 exact ⟨rfl, Ga _ _ _⟩
theorem Zxd (k n kc : Int) (hk : k = 1 \/ k = 3 \/ k = 4 \/ k = 5 \/ k = 6 \/ k = 9 \/ k = 10 \/ k = 11 \/ k = 16 \/ k = 17 \/ k = 18 \/ k = 22 \/ k = 23 \/ k = 24) (Bc : Nat) (w : World) :
 Calls Try.prog 114 #[.pointer (some ⟨Bc, 0, none⟩), .agg #[.int .i64 k, .int .i64 n, .int .i64 kc]] w fun e w' => e = .returned (.int .i64 (Zlk (n == 0))) /\ w.grownBy w' none := by
 rcases hk with rfl | rfl | rfl | rfl | rfl | rfl | rfl | rfl | rfl | rfl | rfl | rfl | rfl | rfl
 · exact Zue n kc Bc w
 · exact Zud n kc Bc w
 · exact Zuc n kc Bc w
 · exact Zub n kc Bc w
 · exact Zua n kc Bc w
 · exact Ztz n kc Bc w
 · exact Zrk n kc Bc w
 · exact Zrj n kc Bc w
 · exact Zri n kc Bc w
 · exact Zrh n kc Bc w
 · exact Zrg n kc Bc w
 · exact Zrf n kc Bc w
 · exact Zre n kc Bc w
 · exact Zrd n kc Bc w
theorem Yue (n kc : Int) (Bc : Nat) (w : World) :
 Calls Try.prog 115 #[.pointer (some ⟨Bc, 0, none⟩), .agg #[.int .i64 2, .int .i64 n, .int .i64 kc]] w fun e w' => e = .returned (.int .i64 (if kc = 1 then 0 else 171)) /\ w.grownBy w' none := by
 by_cases h : kc = 1
 · rw [if_pos h]
   subst h
   go_enter Try.func115, Try.ntmps115
   go_wp2
   go_ret
   exact ⟨rfl, Ga _ _ _⟩
 · rw [if_neg h]
   go_enter Try.func115, Try.ntmps115
   go_wp2
   go_ret
   exact ⟨rfl, Ga _ _ _⟩
theorem Ytx (n kc : Int) (Bc : Nat) (w : World) :
 Calls Try.prog 115 #[.pointer (some ⟨Bc, 0, none⟩), .agg #[.int .i64 9, .int .i64 n, .int .i64 kc]] w fun e w' => e = .returned (.int .i64 (if kc = 1 then 0 else 171)) /\ w.grownBy w' none := by
 by_cases h : kc = 1
 · rw [if_pos h]
   subst h
   go_enter Try.func115, Try.ntmps115
   go_wp2
   go_ret
   exact ⟨rfl, Ga _ _ _⟩
 · rw [if_neg h]
   go_enter Try.func115, Try.ntmps115
   go_wp2
   go_ret
   exact ⟨rfl, Ga _ _ _⟩
theorem Ynt (n kc : Int) (Bc : Nat) (w : World) :
 Calls Try.prog 115 #[.pointer (some ⟨Bc, 0, none⟩), .agg #[.int .i64 10, .int .i64 n, .int .i64 kc]] w fun e w' => e = .returned (.int .i64 (if kc = 1 then 0 else 171)) /\ w.grownBy w' none := by
 by_cases h : kc = 1
 · rw [if_pos h]
   subst h
   go_enter Try.func115, Try.ntmps115
   go_wp2
   go_ret
   exact ⟨rfl, Ga _ _ _⟩
 · rw [if_neg h]
   go_enter Try.func115, Try.ntmps115
   go_wp2
   go_ret
   exact ⟨rfl, Ga _ _ _⟩
theorem Yns (n kc : Int) (Bc : Nat) (w : World) :
 Calls Try.prog 115 #[.pointer (some ⟨Bc, 0, none⟩), .agg #[.int .i64 11, .int .i64 n, .int .i64 kc]] w fun e w' => e = .returned (.int .i64 (if kc = 1 then 0 else 171)) /\ w.grownBy w' none := by
 by_cases h : kc = 1
 · rw [if_pos h]
   subst h
   go_enter Try.func115, Try.ntmps115
   go_wp2
   go_ret
   exact ⟨rfl, Ga _ _ _⟩
 · rw [if_neg h]
   go_enter Try.func115, Try.ntmps115
   go_wp2
   go_ret
   exact ⟨rfl, Ga _ _ _⟩
theorem Ynm (n kc : Int) (Bc : Nat) (w : World) :
 Calls Try.prog 115 #[.pointer (some ⟨Bc, 0, none⟩), .agg #[.int .i64 17, .int .i64 n, .int .i64 kc]] w fun e w' => e = .returned (.int .i64 (if kc = 1 then 0 else 171)) /\ w.grownBy w' none := by
 by_cases h : kc = 1
 · rw [if_pos h]
   subst h
   go_enter Try.func115, Try.ntmps115
   go_wp2
   go_ret
   exact ⟨rfl, Ga _ _ _⟩
 · rw [if_neg h]
   go_enter Try.func115, Try.ntmps115
   go_wp2
   go_ret
   exact ⟨rfl, Ga _ _ _⟩
theorem Ynl (n kc : Int) (Bc : Nat) (w : World) :
 Calls Try.prog 115 #[.pointer (some ⟨Bc, 0, none⟩), .agg #[.int .i64 18, .int .i64 n, .int .i64 kc]] w fun e w' => e = .returned (.int .i64 (if kc = 1 then 0 else 171)) /\ w.grownBy w' none := by
 by_cases h : kc = 1
 · rw [if_pos h]
   subst h
   go_enter Try.func115, Try.ntmps115
   go_wp2
   go_ret
   exact ⟨rfl, Ga _ _ _⟩
 · rw [if_neg h]
   go_enter Try.func115, Try.ntmps115
   go_wp2
   go_ret
   exact ⟨rfl, Ga _ _ _⟩
theorem Ynk (n kc : Int) (Bc : Nat) (w : World) :
 Calls Try.prog 115 #[.pointer (some ⟨Bc, 0, none⟩), .agg #[.int .i64 19, .int .i64 n, .int .i64 kc]] w fun e w' => e = .returned (.int .i64 (if kc = 1 then 0 else 171)) /\ w.grownBy w' none := by
 by_cases h : kc = 1
 · rw [if_pos h]
   subst h
   go_enter Try.func115, Try.ntmps115
   go_wp2
   go_ret
   exact ⟨rfl, Ga _ _ _⟩
 · rw [if_neg h]
   go_enter Try.func115, Try.ntmps115
   go_wp2
   go_ret
   exact ⟨rfl, Ga _ _ _⟩
theorem Ynh (n kc : Int) (Bc : Nat) (w : World) :
 Calls Try.prog 115 #[.pointer (some ⟨Bc, 0, none⟩), .agg #[.int .i64 22, .int .i64 n, .int .i64 kc]] w fun e w' => e = .returned (.int .i64 (if kc = 1 then 0 else 171)) /\ w.grownBy w' none := by
 by_cases h : kc = 1
 · rw [if_pos h]
   subst h
   go_enter Try.func115, Try.ntmps115
   go_wp2
   go_ret
   exact ⟨rfl, Ga _ _ _⟩
 · rw [if_neg h]
   go_enter Try.func115, Try.ntmps115
   go_wp2
   go_ret
   exact ⟨rfl, Ga _ _ _⟩
end Go.Proofs.Ytecaolkbllbokaa.TG
