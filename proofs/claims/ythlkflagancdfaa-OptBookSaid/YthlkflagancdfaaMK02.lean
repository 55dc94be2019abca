/-
  Part of a proof: contracts of functions and lemmas, each stated by its own theorem. Conditions: as each theorem states.
-/
import Derived.Test.YthlkflagancdfaaMK01
import Derived.Laws.FloatArith
import Derived.Great.BuildSlice
import Derived.Great.Walk
import Derived.Outline
import Derived.Test.YthlkflagancdfaaMK00
import Derived.Laws.ResultCell
import Derived.Deep.QuietTactic
import Derived.BigQuiet
import Derived.Laws.StructEq
set_option linter.unusedSimpArgs false
set_option linter.unusedVariables false
set_option maxRecDepth 100000
set_option maxHeartbeats 16000000
namespace Go.Proofs.Ythlkflagancdfaa.CW
open Go.RowKit
def Zar (op:Int):Prop:=∀ (x y:BitVec 64) (w:World),Calls Try.prog 87 #[.int .i64 op,.int .i64 x.toInt,.int .i64 y.toInt] w fun e w'=>e = .returned (.tuple #[.int .i64 (two op x y).1.toInt,.int .i64 (two op x y).2])/\Xcc w w'
theorem Yxu:Zar 20:=by
 intro x y w
 go_enter Try.func87,Try.ntmps87
 go_wp2_with (go_at_call 97;refine (Yx _ _).mono ?_;rintro e w' ⟨rfl,rfl⟩)
 go_ret2
 exact ⟨Yj (Xcw x y) rfl,0,rfl⟩
theorem Yxt:Zar 21:=by
 intro x y w
 go_enter Try.func87,Try.ntmps87
 go_wp2_with (go_at_call 97;refine (Yx _ _).mono ?_;rintro e w' ⟨rfl,rfl⟩)
 go_ret2
 exact ⟨Yj (Xcn x y) rfl,0,rfl⟩
theorem Yxs:Zar 22:=by
 intro x y w
 go_enter Try.func87,Try.ntmps87
 go_wp2_with (go_at_call 97;refine (Yx _ _).mono ?_;rintro e w' ⟨rfl,rfl⟩)
 go_ret2
 exact ⟨Yj (Xcv x y) rfl,0,rfl⟩
theorem Yxp:Zar 25:=by
 intro x y w
 go_enter Try.func87,Try.ntmps87
 go_wp2_with (go_at_call 97;refine (Yx _ _).mono ?_;rintro e w' ⟨rfl,rfl⟩)
 go_ret2
 exact ⟨Yj (Yxe x y) rfl,0,rfl⟩
theorem Yxo:Zar 26:=by
 intro x y w
 go_enter Try.func87,Try.ntmps87
 go_wp2_with (go_at_call 97;refine (Yx _ _).mono ?_;rintro e w' ⟨rfl,rfl⟩)
 go_ret2
 exact ⟨Yj (Xfr x y) rfl,0,rfl⟩
theorem Yxn:Zar 27:=by
 intro x y w
 go_enter Try.func87,Try.ntmps87
 go_wp2_with (go_at_call 97;refine (Yx _ _).mono ?_;rintro e w' ⟨rfl,rfl⟩)
 go_ret2
 exact ⟨Yj (Yxd x y) rfl,0,rfl⟩
theorem Yxj:Zar 31:=by
 intro x y w
 go_enter Try.func87,Try.ntmps87
 go_wp2_with (go_at_call 97;refine (Yx _ _).mono ?_;rintro e w' ⟨rfl,rfl⟩)
 go_ret2
 exact ⟨Yj (by rw [Xft];rfl) rfl,0,rfl⟩
theorem Yxi:Zar 32:=by
 intro x y w
 go_enter Try.func87,Try.ntmps87
 go_wp2_with (go_at_call 97;refine (Yx _ _).mono ?_;rintro e w' ⟨rfl,rfl⟩)
 go_ret2
 exact ⟨Yj (by rw [Xfs];rfl) rfl,0,rfl⟩
theorem Yxh:Zar 33:=by
 intro x y w
 go_enter Try.func87,Try.ntmps87
 go_wp2_with (go_at_call 97;refine (Yx _ _).mono ?_;rintro e w' ⟨rfl,rfl⟩)
 go_ret2
 exact ⟨Yj (by rw [Xcm];rfl) rfl,0,rfl⟩
theorem Yxm:Zar 28:=by
 intro x y w
 have hb:=Ysp y
 have hk:y.toNat % 64<64:=Nat.mod_lt _ (by decide)
 have ht:two 28 x y=(x <<< (y.toNat % 64),0):=rfl
 rw [ht];clear ht
 generalize y.toNat % 64=k at *
 go_enter Try.func87,Try.ntmps87
 go_wp2_with (go_at_call 97;refine (Yx _ _).mono ?_;rintro e w' ⟨rfl,rfl⟩)
 go_ret2
 exact ⟨Yj (Xcp x k hk) rfl,0,rfl⟩
theorem Yxl:Zar 29:=by
 intro x y w
 have hb:=Ysp y
 have hk:y.toNat % 64<64:=Nat.mod_lt _ (by decide)
 have ht:two 29 x y=(x.sshiftRight (y.toNat % 64),0):=rfl
 rw [ht];clear ht
 generalize y.toNat % 64=k at *
 go_enter Try.func87,Try.ntmps87
 go_wp2_with (go_at_call 97;refine (Yx _ _).mono ?_;rintro e w' ⟨rfl,rfl⟩)
 go_ret2
 exact ⟨Yj (Xcq x k hk) rfl,0,rfl⟩
theorem Yxk:Zar 30:=by
 intro x y w
 have hb:=Ysp y
 have hk:y.toNat % 64<64:=Nat.mod_lt _ (by decide)
 have hu:=Zlz x
 have hx:=x.isLt
 have ht:two 30 x y=(x >>> (y.toNat % 64),0):=rfl
 rw [ht];clear ht
 have hfin:=Xco x (y.toNat % 64) hk
 generalize y.toNat % 64=k at *
 generalize x.toNat=n at *
 have hfin:=Hq hfin
 go_enter Try.func87,Try.ntmps87
 go_wp2_with (go_at_call 97;refine (Yx _ _).mono ?_;rintro e w' ⟨rfl,rfl⟩)
 go_ret2
 trace_state
 exact ⟨Yj hfin.out rfl,0,rfl⟩
theorem Yxr:Zar 23:=by
 intro x y w
 by_cases h0:y=0#64
 · subst h0
   have ht:two 23 x 0#64=(0#64,5):=rfl
   rw [ht];clear ht
   have hz:(0#64).toInt=0:=rfl
   rw [hz];clear hz
   go_enter Try.func87,Try.ntmps87
   go_wp2_with (go_at_call 97;refine (Yx _ _).mono ?_;rintro e w' ⟨rfl,rfl⟩)
   go_ret2
   exact ⟨Yj rfl rfl,0,rfl⟩
 · have ht:two 23 x y=(x.sdiv y,0):=by show (if y=0#64 then _ else _)=_;rw [if_neg h0]
   have hz:(y.toInt == 0)=false:=by
    rw [beq_eq_false_iff_ne];intro h;exact h0 (BitVec.toInt_inj.1 (by rw [h];rfl))
   have hne:y.toInt≠0:=by intro h;rw [h] at hz;cases hz
   rw [ht];clear ht h0
   go_enter Try.func87,Try.ntmps87
   go_wp2_with (go_at_call 97;refine (Yx _ _).mono ?_;rintro e w' ⟨rfl,rfl⟩)
   go_ret2
   exact ⟨Yj (Xcs x y) rfl,0,rfl⟩
theorem Yxq:Zar 24:=by
 intro x y w
 by_cases h0:y=0#64
 · subst h0
   have ht:two 24 x 0#64=(0#64,5):=rfl
   rw [ht];clear ht
   have hz:(0#64).toInt=0:=rfl
   rw [hz];clear hz
   go_enter Try.func87,Try.ntmps87
   go_wp2_with (go_at_call 97;refine (Yx _ _).mono ?_;rintro e w' ⟨rfl,rfl⟩)
   go_ret2
   exact ⟨Yj rfl rfl,0,rfl⟩
 · have ht:two 24 x y=(x.srem y,0):=by show (if y=0#64 then _ else _)=_;rw [if_neg h0]
   have hz:(y.toInt == 0)=false:=by
    rw [beq_eq_false_iff_ne];intro h;exact h0 (BitVec.toInt_inj.1 (by rw [h];rfl))
   have hne:y.toInt≠0:=by intro h;rw [h] at hz;cases hz
   rw [ht];clear ht h0
   go_enter Try.func87,Try.ntmps87
   go_wp2_with (go_at_call 97;refine (Yx _ _).mono ?_;rintro e w' ⟨rfl,rfl⟩)
   go_ret2
   exact ⟨Yj (Xcr x y) rfl,0,rfl⟩
theorem Zqg (op:Int):Zar op:=by
 by_cases h20:op=20
 · subst h20;exact Yxu
 by_cases h21:op=21
 · subst h21;exact Yxt
 by_cases h22:op=22
 · subst h22;exact Yxs
 by_cases h23:op=23
 · subst h23;exact Yxr
 by_cases h24:op=24
 · subst h24;exact Yxq
 by_cases h25:op=25
 · subst h25;exact Yxp
 by_cases h26:op=26
 · subst h26;exact Yxo
 by_cases h27:op=27
 · subst h27;exact Yxn
 by_cases h28:op=28
 · subst h28;exact Yxm
 by_cases h29:op=29
 · subst h29;exact Yxl
 by_cases h30:op=30
 · subst h30;exact Yxk
 by_cases h31:op=31
 · subst h31;exact Yxj
 by_cases h32:op=32
 · subst h32;exact Yxi
 by_cases h33:op=33
 · subst h33;exact Yxh
 intro x y w
 have e20:(op == 20)=false:=beq_eq_false_iff_ne.2 h20
 have e21:(op == 21)=false:=beq_eq_false_iff_ne.2 h21
 have e22:(op == 22)=false:=beq_eq_false_iff_ne.2 h22
 have e23:(op == 23)=false:=beq_eq_false_iff_ne.2 h23
 have e24:(op == 24)=false:=beq_eq_false_iff_ne.2 h24
 have e25:(op == 25)=false:=beq_eq_false_iff_ne.2 h25
 have e26:(op == 26)=false:=beq_eq_false_iff_ne.2 h26
 have e27:(op == 27)=false:=beq_eq_false_iff_ne.2 h27
 have e28:(op == 28)=false:=beq_eq_false_iff_ne.2 h28
 have e29:(op == 29)=false:=beq_eq_false_iff_ne.2 h29
 have e30:(op == 30)=false:=beq_eq_false_iff_ne.2 h30
 have e31:(op == 31)=false:=beq_eq_false_iff_ne.2 h31
 have e32:(op == 32)=false:=beq_eq_false_iff_ne.2 h32
 have e33:(op == 33)=false:=beq_eq_false_iff_ne.2 h33
 have hf:two op x y=Zpr op x.toNat y.toNat:=by simp [two,h20,h21,h22,h23,h24,h25,h26,h27,h28,h29,h30,h31,h32,h33]
 rw [hf]
 clear hf h20 h21 h22 h23 h24 h25 h26 h27 h28 h29 h30 h31 h32 h33
 go_enter Try.func87,Try.ntmps87
 go_wp2_with (first|(go_at_call 93;refine (Ju _ _).mono ?_;rintro e w' ⟨rfl,rfl⟩)|(go_at_call 98;refine (Ydj _ _ _ _).mono ?_;rintro e w' ⟨rfl,n,rfl⟩))
 go_ret2
 exact ⟨Yj rfl rfl,n,rfl⟩
open Ieee
theorem Ysc:double.signWeight=9223372036854775808:=by decide
theorem Ybf:double.binade=4503599627370496:=by decide
theorem Xba:double.infRung=9218868437227405312:=by decide
theorem Ykk:double.leastPlace = -1074:=by decide
def val (r:Nat):Nat:=if r<4503599627370496 then r else (4503599627370496+r % 4503599627370496)*2 ^ (r / 4503599627370496 - 1)
theorem Yqz {r s:Nat} (h:r<s):val r<val s:=by
 unfold val
 by_cases h1:s<4503599627370496
 · rw [if_pos (by omega),if_pos h1];exact h
 · rw [if_neg h1]
   have hp:0<2 ^ (s / 4503599627370496 - 1):=Nat.two_pow_pos _
   by_cases h2:r<4503599627370496
   · rw [if_pos h2]
     calc r<4503599627370496+s % 4503599627370496:=by omega
      _=(4503599627370496+s % 4503599627370496)*1:=by omega
      _<=_:=Nat.mul_le_mul_left _ hp
   · rw [if_neg h2]
     by_cases h3:r / 4503599627370496=s / 4503599627370496
     · rw [h3];refine Nat.mul_lt_mul_of_pos_right ?_ hp
       omega
     · have h4:r / 4503599627370496+1<=s / 4503599627370496:=by omega
       have h5:1<=r / 4503599627370496:=by omega
       calc (4503599627370496+r % 4503599627370496)*2 ^ (r / 4503599627370496 - 1)<(4503599627370496*2)*2 ^ (r / 4503599627370496 - 1):=by
             refine Nat.mul_lt_mul_of_pos_right ?_ (Nat.two_pow_pos _)
             have:r % 4503599627370496<4503599627370496:=Nat.mod_lt _ (by decide)
             omega
        _=4503599627370496*2 ^ (r / 4503599627370496):=by rw [Nat.mul_assoc,<- Nat.pow_succ'];congr 2;omega
        _<=4503599627370496*2 ^ (s / 4503599627370496 - 1):=Nat.mul_le_mul_left _ (Nat.pow_le_pow_right (by decide) (by omega))
        _<=_:=Nat.mul_le_mul_right _ (by omega)
theorem Ysq (r s:Nat):compare (val r) (val s)=compare r s:=by
 rcases Nat.lt_trichotomy r s with h|h|h
 · rw [Nat.compare_eq_lt.2 h,Nat.compare_eq_lt.2 (Yqz h)]
 · subst h;simp
 · rw [Nat.compare_eq_gt.2 h,Nat.compare_eq_gt.2 (Yqz h)]
def mg (r:Nat):Nat:=if r<4503599627370496 then r else 4503599627370496+r % 4503599627370496
def pl (r:Nat):Nat:=if r<4503599627370496 then 0 else r / 4503599627370496 - 1
theorem Yqy (r:Nat):val r=mg r*2 ^ pl r:=by
 unfold val mg pl;split <;> simp
def ng (b:Nat):Bool:=b / 9223372036854775808 % 2 == 1
theorem Ziq (b:Nat) (h:b % 9223372036854775808<9218868437227405312):double.read b = .number (ng b) (mg (b % 9223372036854775808)) (-1074+(pl (b % 9223372036854775808):Int)):=by
 unfold Format.read mg pl ng
 rw [Ysc,Ybf,Xba,Ykk]
 dsimp only
 split
 · rename_i h1;rfl
 · rename_i h1;rfl
theorem Zlk (b:Nat) (h:b % 9223372036854775808=9218868437227405312):double.read b = .infinity (ng b):=by
 unfold Format.read ng
 rw [Ysc,Ybf,Xba,Ykk]
 dsimp only
 rw [if_neg (by omega),if_neg (by omega),if_pos h]
def Zde (b:Nat):Int:=if ng b then -((b % 9223372036854775808:Nat):Int) else ((b % 9223372036854775808:Nat):Int)
theorem Zto (s:Bool) (m k:Nat):signed s m k=if s then -((m*2 ^ k:Nat):Int) else ((m*2 ^ k:Nat):Int):=by
 unfold signed;rw [Nat.shiftLeft_eq]
theorem Ydt (s t:Bool) (a b r q:Nat) (h:compare a b=compare r q) (ha:a=0 ↔ r=0) (hb:b=0 ↔ q=0) :
 compare (if s then -(a:Int) else (a:Int)) (if t then -(b:Int) else (b:Int))=compare (if s then -(r:Int) else (r:Int)) (if t then -(q:Int) else (q:Int)):=by
 have h1:a<b ↔ r<q:=by rw [<- Nat.compare_eq_lt,h,Nat.compare_eq_lt]
 have h2:b<a ↔ q<r:=by rw [<- Nat.compare_eq_gt,h,Nat.compare_eq_gt]
 have key:∀ x y u v:Int,(x<y ↔ u<v)->(y<x ↔ v<u)->compare x y=compare u v:=by
  intro x y u v e1 e2
  simp only [compare,compareOfLessAndEq]
  by_cases c1:x<y
  · rw [if_pos c1,if_pos (e1.1 c1)]
  · rw [if_neg c1,if_neg (fun c=>c1 (e1.2 c))]
    by_cases c2:x=y
    · rw [if_pos c2,if_pos (by omega)]
    · rw [if_neg c2,if_neg (by omega)]
 apply key
 · cases s <;> cases t <;> simp <;> omega
 · cases s <;> cases t <;> simp <;> omega
theorem Zvy (a b k:Nat):compare (a*2 ^ k) (b*2 ^ k)=compare a b:=by
 have hp:0<2 ^ k:=Nat.two_pow_pos _
 rcases Nat.lt_trichotomy a b with h|h|h
 · rw [Nat.compare_eq_lt.2 h,Nat.compare_eq_lt.2 (Nat.mul_lt_mul_of_pos_right h hp)]
 · subst h;simp
 · rw [Nat.compare_eq_gt.2 h,Nat.compare_eq_gt.2 (Nat.mul_lt_mul_of_pos_right h hp)]
theorem Yrp (r:Nat) (k:Nat):mg r*2 ^ k=0 ↔ r=0:=by
 have hp:0<2 ^ k:=Nat.two_pow_pos _
 unfold mg;split
 · constructor
   · intro h;rcases Nat.mul_eq_zero.1 h with h|h <;> omega
   · intro h;subst h;simp
 · constructor
   · intro h;rcases Nat.mul_eq_zero.1 h with h|h <;> omega
   · intro h;omega
theorem Ybg {a b:Int} (h:a<b):compare a b = .lt:=by simp only [compare,compareOfLessAndEq];rw [if_pos h]
theorem Ybh {a b:Int} (h:b<a):compare a b = .gt:=by simp only [compare,compareOfLessAndEq];rw [if_neg (by omega),if_neg (by omega)]
theorem Zpf (x y:Nat) (hx:nan x=false) (hy:nan y=false):double.order x y=some (compare (Zde x) (Zde y)):=by
 have hx':x % 9223372036854775808<=9218868437227405312:=by unfold nan at hx;simpa using hx
 have hy':y % 9223372036854775808<=9218868437227405312:=by unfold nan at hy;simpa using hy
 unfold Format.order Zde
 rcases Nat.lt_or_eq_of_le hx' with h1|h1 <;> rcases Nat.lt_or_eq_of_le hy' with h2|h2
 · rw [Ziq x h1,Ziq y h2]
   simp only [Datum.order,Zto]
   congr 1
   refine Ydt _ _ _ _ _ _ ?_ (Yrp _ _) (Yrp _ _)
   rw [<- Ysq (x % 9223372036854775808) (y % 9223372036854775808),Yqy,Yqy]
   generalize pl (x % 9223372036854775808)=i;generalize pl (y % 9223372036854775808)=j
   rcases Nat.le_total i j with hij|hij
   · rw [show ((-1074+(i:Int)) - min (-1074+(i:Int)) (-1074+(j:Int))).toNat=0 from by omega,
      show ((-1074+(j:Int)) - min (-1074+(i:Int)) (-1074+(j:Int))).toNat=j - i from by omega,<- Zvy _ _ i]
     congr 1
     · simp
     · rw [Nat.mul_assoc,<- Nat.pow_add,Nat.sub_add_cancel hij]
   · rw [show ((-1074+(i:Int)) - min (-1074+(i:Int)) (-1074+(j:Int))).toNat=i - j from by omega,
      show ((-1074+(j:Int)) - min (-1074+(i:Int)) (-1074+(j:Int))).toNat=0 from by omega,<- Zvy _ _ j]
     congr 1
     · rw [Nat.mul_assoc,<- Nat.pow_add,Nat.sub_add_cancel hij]
     · simp
 · rw [Ziq x h1,Zlk y h2,h2]
   simp only [Datum.order]
   congr 1
   cases ng y
   · exact (Ybg (by cases ng x <;> simp <;> omega)).symm
   · exact (Ybh (by cases ng x <;> simp <;> omega)).symm
 · rw [Zlk x h1,Ziq y h2,h1]
   simp only [Datum.order]
   congr 1
   cases ng x
   · exact (Ybh (by cases ng y <;> simp <;> omega)).symm
   · exact (Ybg (by cases ng y <;> simp <;> omega)).symm
 · rw [Zlk x h1,Zlk y h2,h1,h2]
   simp only [Datum.order]
   congr 1
   cases ng y <;> cases ng x <;> decide
theorem Yqe (s:Bool) (n d:Nat):Toward.zero.cut s n d=n / 2 ^ d:=by
 unfold Toward.cut
 simp only [Nat.shiftLeft_eq,Nat.one_mul,Bool.toNat_false,Nat.add_zero]
 rcases Nat.le_total d (n.log2+2) with h|h
 · rw [Nat.min_eq_left h]
 · rw [Nat.min_eq_right h]
   have h1:n<2 ^ (n.log2+1):=Nat.lt_log2_self
   have h2:2 ^ (n.log2+1)<=2 ^ (n.log2+2):=Nat.pow_le_pow_right (by decide) (by omega)
   have h3:2 ^ (n.log2+2)<=2 ^ d:=Nat.pow_le_pow_right (by decide) h
   rw [Nat.div_eq_of_lt (by omega),Nat.div_eq_of_lt (by omega)]
def Zwt (r:Nat):Nat:=if 1074<=pl r then mg r*2 ^ (pl r - 1074) else mg r / 2 ^ (1074 - pl r)
def Zby (b:Nat):Int:=if ng b then -(Zwt (b % 9223372036854775808):Int) else (Zwt (b % 9223372036854775808):Int)
theorem Yey (b:Nat) (h:b % 9223372036854775808<9218868437227405312):(double.read b).toInt .zero=some (Zby b):=by
 rw [Ziq b h]
 simp only [Datum.toInt,Datum.integral,Yqe,Zto,Nat.pow_zero,Nat.mul_one]
 congr 1
 have:(mg (b % 9223372036854775808) <<< (-1074+(pl (b % 9223372036854775808):Int)).toNat) / 2 ^ (-(-1074+(pl (b % 9223372036854775808):Int))).toNat=Zwt (b % 9223372036854775808):=by
  unfold Zwt
  generalize pl (b % 9223372036854775808)=k
  rw [Nat.shiftLeft_eq]
  split
  · rw [show (-1074+(k:Int)).toNat=k - 1074 from by omega,show (-(-1074+(k:Int))).toNat=0 from by omega];simp
  · rw [show (-1074+(k:Int)).toNat=0 from by omega,show (-(-1074+(k:Int))).toNat=1074 - k from by omega];simp
 rw [this];rfl
theorem Xej (r:Nat):mg r<9007199254740992:=by
 unfold mg;have:r % 4503599627370496<4503599627370496:=Nat.mod_lt _ (by decide)
 split <;> omega
theorem Zzg (r:Nat) (h:r<4890909195324358656):Zwt r<9223372036854775808:=by
 have h1:=Xej r
 have h2:pl r<=1084:=by unfold pl;split <;> omega
 unfold Zwt
 split
 · calc mg r*2 ^ (pl r - 1074)<9007199254740992*2 ^ (pl r - 1074):=Nat.mul_lt_mul_of_pos_right h1 (Nat.two_pow_pos _)
    _<=9007199254740992*2 ^ 10:=Nat.mul_le_mul_left _ (Nat.pow_le_pow_right (by decide) (by omega))
    _=9223372036854775808:=by decide
 · exact Nat.lt_of_le_of_lt (Nat.div_le_self _ _) (by omega)
theorem Ybr:Zwt 4890909195324358656=9223372036854775808:=by decide
def toI (b:Nat):BitVec 64 × Int :=
 if nan b=true\/4890909195324358656<=Zde b\/Zde b < -4890909195324358656 then (0#64,6) else (BitVec.ofInt 64 (Zby b),0)
theorem Zlw (b:Nat) (h1:Zde b<4890909195324358656) (h2 : -4890909195324358656<=Zde b) :
 -9223372036854775808<=Zby b/\Zby b<=9223372036854775807:=by
 unfold Zde at h1 h2;unfold Zby
 by_cases hs:ng b=true
 · rw [if_pos hs] at h1 h2;rw [if_pos hs]
   rcases Nat.lt_or_eq_of_le (show b % 9223372036854775808<=4890909195324358656 by omega) with h|h
   · have:=Zzg _ h;omega
   · rw [h,Ybr];omega
 · rw [if_neg hs] at h1 h2;rw [if_neg hs]
   have:=Zzg (b % 9223372036854775808) (by omega);omega
theorem fti (b:Nat) (h0:nan b=false) (h1:Zde b<4890909195324358656) (h2 : -4890909195324358656<=Zde b) :
 floatToIntVal .f64 b .i64=some (Zby b):=by
 have hr:b % 9223372036854775808<9218868437227405312:=by
  unfold nan at h0;simp at h0
  unfold Zde at h1 h2;split at h1 <;> split at h2 <;> omega
 unfold floatToIntVal
 rw [show FloatKind.decode .f64 b=double.read b from rfl,Yey b hr]
 have:=Zlw b h1 h2
 dsimp only
 rw [if_pos]
 rw [show IntKind.i64.min = -9223372036854775808 from by decide,show IntKind.i64.max=9223372036854775807 from by decide]
 exact this
theorem Ywb (b:Nat) (h0:nan b=false):double.order b 4890909195324358656=some (compare (Zde b) 4890909195324358656):=by
 rw [Zpf b _ h0 (by decide)];rfl
theorem Yki (b:Nat) (h0:nan b=false):double.order b 14114281232179134464=some (compare (Zde b) (-4890909195324358656)):=by
 rw [Zpf b _ h0 (by decide)];rfl
def Ycq (op:Int) (x:BitVec 64):BitVec 64 × Int :=
 if op=34 then (-x,0)
 else if op=35 then (~~~x,0)
 else if op=42 then (told (Xfm x.toNat),0)
 else if op=43 then (Zbc (double.sqrt x.toNat),0)
 else if op=44 then (told (FloatKind.f64.nearest x.toInt),0)
 else if op=45 then toI x.toNat
 else (0#64,8)
open Go.Op
theorem Zcp (b:Nat) (w:World):Calls Try.prog 95 #[.float .f64 b] w fun e w'=>(∃ r,e = .returned (.float .f64 r)/\told r=Zbc (Ieee.double.sqrt b))/\Xcc w w':=by
 cases hr:Ieee.double.sqrt b with
 | some r =>
   have h:=fun w=>Zqp b r hr w
   clear hr
   go_enter Try.func95,Try.ntmps95
   go_wp2
   go_ret
   exact ⟨⟨r,rfl,rfl⟩,0,rfl⟩
 | none =>
   have h:=fun w=>Zqq b hr w
   clear hr
   go_enter Try.func95,Try.ntmps95
   go_wp2
   go_ret
   exact ⟨⟨_,rfl,Zcd _⟩,1,rfl⟩
def Zhw (op:Int):Prop:=∀ (x:BitVec 64) (w:World),Calls Try.prog 84 #[.int .i64 op,.int .i64 x.toInt] w fun e w'=>e = .returned (.tuple #[.int .i64 (Ycq op x).1.toInt,.int .i64 (Ycq op x).2])/\Xcc w w'
theorem Yzi:Zhw 34:=by
 intro x w
 go_enter Try.func84,Try.ntmps84
 go_wp2_with (first|(go_at_call 93;refine (Ju _ _).mono ?_;rintro e w' ⟨rfl,rfl⟩)|(go_at_call 94;refine (Xw _ _).mono ?_;rintro e w' ⟨rfl,rfl⟩)|(go_at_call 96;refine (Jt _ _).mono ?_;rintro e w' ⟨rfl,rfl⟩)|(go_at_call 95;refine (Zcp _ _).mono ?_;rintro e w' ⟨⟨r,rfl,hr⟩,n,rfl⟩;have Hr:=Hq hr;clear hr))
 go_ret2
 exact ⟨Yj (Xcu x) rfl,0,rfl⟩
theorem Yzh:Zhw 35:=by
 intro x w
 go_enter Try.func84,Try.ntmps84
 go_wp2_with (first|(go_at_call 93;refine (Ju _ _).mono ?_;rintro e w' ⟨rfl,rfl⟩)|(go_at_call 94;refine (Xw _ _).mono ?_;rintro e w' ⟨rfl,rfl⟩)|(go_at_call 96;refine (Jt _ _).mono ?_;rintro e w' ⟨rfl,rfl⟩)|(go_at_call 95;refine (Zcp _ _).mono ?_;rintro e w' ⟨⟨r,rfl,hr⟩,n,rfl⟩;have Hr:=Hq hr;clear hr))
 go_ret2
 exact ⟨Yj (Xct x) rfl,0,rfl⟩
theorem Yzg:Zhw 42:=by
 intro x w
 have h:∀ w,(unary .neg (.float .f64 x.toNat)).run Try.prog w = .ok (.float .f64 (Xfm x.toNat)) w:=fun w=>rfl
 go_enter Try.func84,Try.ntmps84
 go_wp2_with (first|(go_at_call 93;refine (Ju _ _).mono ?_;rintro e w' ⟨rfl,rfl⟩)|(go_at_call 94;refine (Xw _ _).mono ?_;rintro e w' ⟨rfl,rfl⟩)|(go_at_call 96;refine (Jt _ _).mono ?_;rintro e w' ⟨rfl,rfl⟩)|(go_at_call 95;refine (Zcp _ _).mono ?_;rintro e w' ⟨⟨r,rfl,hr⟩,n,rfl⟩;have Hr:=Hq hr;clear hr))
 go_ret2
 exact ⟨Yj (rfl) rfl,0,rfl⟩
theorem Yzf:Zhw 43:=by
 intro x w
 go_enter Try.func84,Try.ntmps84
 go_wp2_with (first|(go_at_call 93;refine (Ju _ _).mono ?_;rintro e w' ⟨rfl,rfl⟩)|(go_at_call 94;refine (Xw _ _).mono ?_;rintro e w' ⟨rfl,rfl⟩)|(go_at_call 96;refine (Jt _ _).mono ?_;rintro e w' ⟨rfl,rfl⟩)|(go_at_call 95;refine (Zcp _ _).mono ?_;rintro e w' ⟨⟨r,rfl,hr⟩,n,rfl⟩;have Hr:=Hq hr;clear hr))
 go_ret2
 exact ⟨Yj (by rw [Hr.out];rfl) rfl,n,rfl⟩
theorem Yze:Zhw 44:=by
 intro x w
 go_enter Try.func84,Try.ntmps84
 go_wp2_with (first|(go_at_call 93;refine (Ju _ _).mono ?_;rintro e w' ⟨rfl,rfl⟩)|(go_at_call 94;refine (Xw _ _).mono ?_;rintro e w' ⟨rfl,rfl⟩)|(go_at_call 96;refine (Jt _ _).mono ?_;rintro e w' ⟨rfl,rfl⟩)|(go_at_call 95;refine (Zcp _ _).mono ?_;rintro e w' ⟨⟨r,rfl,hr⟩,n,rfl⟩;have Hr:=Hq hr;clear hr))
 go_ret2
 exact ⟨Yj (rfl) rfl,0,rfl⟩
theorem Yzd:Zhw 45:=by
 intro x w
 have ht:Ycq 45 x=toI x.toNat:=rfl
 rw [ht];clear ht
 unfold toI
 by_cases h0:nan x.toNat=true
 · rw [if_pos (Or.inl h0)]
   go_enter Try.func84,Try.ntmps84
   go_wp2_with (first|(go_at_call 93;refine (Ju _ _).mono ?_;rintro e w' ⟨rfl,rfl⟩)|(go_at_call 94;refine (Xw _ _).mono ?_;rintro e w' ⟨rfl,rfl⟩)|(go_at_call 96;refine (Jt _ _).mono ?_;rintro e w' ⟨rfl,rfl⟩)|(go_at_call 95;refine (Zcp _ _).mono ?_;rintro e w' ⟨⟨r,rfl,hr⟩,n,rfl⟩;have Hr:=Hq hr;clear hr))
   go_ret2
   exact ⟨Yj rfl rfl,0,rfl⟩
 · have h0:nan x.toNat=false:=by simpa using h0
   have e1:=Ywb x.toNat h0
   have e2:=Yki x.toNat h0
   by_cases h1:4890909195324358656<=Zde x.toNat
   · rw [if_pos (Or.inr (Or.inl h1))]
     have g1:(FloatKind.f64.format.order x.toNat 4890909195324358656 == some .gt || FloatKind.f64.format.order x.toNat 4890909195324358656 == some .eq)=true:=by
      show (Ieee.double.order x.toNat 4890909195324358656 == some .gt || Ieee.double.order x.toNat 4890909195324358656 == some .eq)=true
      rw [e1]
      rcases Int.lt_or_eq_of_le h1 with h|h
      · rw [Ybh h];rfl
      · rw [<- h];decide
     clear e1 e2 h1
     go_enter Try.func84,Try.ntmps84
     go_wp2_with (first|(go_at_call 93;refine (Ju _ _).mono ?_;rintro e w' ⟨rfl,rfl⟩)|(go_at_call 94;refine (Xw _ _).mono ?_;rintro e w' ⟨rfl,rfl⟩)|(go_at_call 96;refine (Jt _ _).mono ?_;rintro e w' ⟨rfl,rfl⟩)|(go_at_call 95;refine (Zcp _ _).mono ?_;rintro e w' ⟨⟨r,rfl,hr⟩,n,rfl⟩;have Hr:=Hq hr;clear hr))
     go_ret2
     exact ⟨Yj rfl rfl,0,rfl⟩
   · have h1:Zde x.toNat<4890909195324358656:=by omega
     have g1:(FloatKind.f64.format.order x.toNat 4890909195324358656 == some .gt || FloatKind.f64.format.order x.toNat 4890909195324358656 == some .eq)=false:=by
      show (Ieee.double.order x.toNat 4890909195324358656 == some .gt || Ieee.double.order x.toNat 4890909195324358656 == some .eq)=false
      rw [e1,Ybg h1];rfl
     by_cases h2:Zde x.toNat < -4890909195324358656
     · rw [if_pos (Or.inr (Or.inr h2))]
       have g2:(FloatKind.f64.format.order x.toNat 14114281232179134464 == some .lt)=true:=by
        show (Ieee.double.order x.toNat 14114281232179134464 == some .lt)=true
        rw [e2,Ybg h2];rfl
       clear e1 e2 h1 h2
       go_enter Try.func84,Try.ntmps84
       go_wp2_with (first|(go_at_call 93;refine (Ju _ _).mono ?_;rintro e w' ⟨rfl,rfl⟩)|(go_at_call 94;refine (Xw _ _).mono ?_;rintro e w' ⟨rfl,rfl⟩)|(go_at_call 96;refine (Jt _ _).mono ?_;rintro e w' ⟨rfl,rfl⟩)|(go_at_call 95;refine (Zcp _ _).mono ?_;rintro e w' ⟨⟨r,rfl,hr⟩,n,rfl⟩;have Hr:=Hq hr;clear hr))
       go_ret2
       exact ⟨Yj rfl rfl,0,rfl⟩
     · have h2 : -4890909195324358656<=Zde x.toNat:=by omega
       rw [if_neg (by rw [h0];simp;omega)]
       have g2:(FloatKind.f64.format.order x.toNat 14114281232179134464 == some .lt)=false:=by
        show (Ieee.double.order x.toNat 14114281232179134464 == some .lt)=false
        rw [e2]
        rcases Int.lt_or_eq_of_le h2 with h|h
        · rw [Ybh h];rfl
        · rw [<- h];decide
       have hin:=Zlw x.toNat h1 h2
       have hc:=fun w=>run_convert_float_int (P:=Try.prog) w 150 3 .f64 .i64 x.toNat (Zby x.toNat) (by rw [Try.underlying150];rfl) Try.underlying3 (fti x.toNat h0 h1 h2)
       have hfin:Zby x.toNat=(BitVec.ofInt 64 (Zby x.toNat)).toInt:=by
        rw [toInt_ofInt];unfold wrap64;omega
       generalize Zby x.toNat=n at *
       have Hfin:=Hq hfin
       clear e1 e2 h1 h2 hfin hin
       go_enter Try.func84,Try.ntmps84
       go_wp2_with (first|(go_at_call 93;refine (Ju _ _).mono ?_;rintro e w' ⟨rfl,rfl⟩)|(go_at_call 94;refine (Xw _ _).mono ?_;rintro e w' ⟨rfl,rfl⟩)|(go_at_call 96;refine (Jt _ _).mono ?_;rintro e w' ⟨rfl,rfl⟩)|(go_at_call 95;refine (Zcp _ _).mono ?_;rintro e w' ⟨⟨r,rfl,hr⟩,n,rfl⟩;have Hr:=Hq hr;clear hr))
       go_ret2
       exact ⟨Yj Hfin.out rfl,0,rfl⟩
theorem Zrj (op:Int):Zhw op:=by
 by_cases h34:op=34
 · subst h34;exact Yzi
 by_cases h35:op=35
 · subst h35;exact Yzh
 by_cases h42:op=42
 · subst h42;exact Yzg
 by_cases h43:op=43
 · subst h43;exact Yzf
 by_cases h44:op=44
 · subst h44;exact Yze
 by_cases h45:op=45
 · subst h45;exact Yzd
 intro x w
 have e34:(op == 34)=false:=beq_eq_false_iff_ne.2 h34
 have e35:(op == 35)=false:=beq_eq_false_iff_ne.2 h35
 have e42:(op == 42)=false:=beq_eq_false_iff_ne.2 h42
 have e43:(op == 43)=false:=beq_eq_false_iff_ne.2 h43
 have e44:(op == 44)=false:=beq_eq_false_iff_ne.2 h44
 have e45:(op == 45)=false:=beq_eq_false_iff_ne.2 h45
 have hf:Ycq op x=(0#64,8):=by simp [Ycq,h34,h35,h42,h43,h44,h45]
 rw [hf]
 clear hf h34 h35 h42 h43 h44 h45
 go_enter Try.func84,Try.ntmps84
 go_wp2_with (go_at_call 93;refine (Ju _ _).mono ?_;rintro e w' ⟨rfl,rfl⟩)
 go_ret2
 exact ⟨Yj rfl rfl,0,rfl⟩
open Go.Great
def tabI:List Int:=[0,0,0,0,0,0,0,0,0,0,0,0,0,0,0,0,0,0,0,0,2,2,2,2,2,2,2,2,2,2,2,2,2,2,1,1,2,2,2,2,2,2,1,1,1,1]
def opn (op:Int):Int:=if op<0 then 0 else tabI.getD op.toNat 0
theorem Zri (op:Int) (h:op<0\/46<=op):opn op=0:=by
 unfold opn
 by_cases c:op<0
 · rw [if_pos c]
 · rw [if_neg c,List.getD_eq_getElem?_getD,List.getElem?_eq_none (by show 46<=op.toNat;omega)];rfl
theorem Yui (op:Int):(opn op == 2)=if 20<=op then (if op<=33 then true else if 36<=op then decide (op<=41) else false) else false:=by
 by_cases h:op<0\/46<=op
 · rw [Zri op h]
   by_cases c1:20<=op
   · rw [if_pos c1,if_neg (by omega),if_pos (by omega),decide_eq_false (by omega)];rfl
   · rw [if_neg c1];rfl
 · obtain ⟨k,rfl⟩:=Int.eq_ofNat_of_zero_le (show 0<=op by omega)
   have hk:k<46:=by omega
   clear h
   revert hk k;decide
theorem Yuj (op:Int):(opn op == 1)=decide (op=34\/op=35\/(42<=op/\op<=45)):=by
 by_cases h:op<0\/46<=op
 · rw [Zri op h,decide_eq_false (by omega)];rfl
 · obtain ⟨k,rfl⟩:=Int.eq_ofNat_of_zero_le (show 0<=op by omega)
   have hk:k<46:=by omega
   clear h
   revert hk k;decide
def tab46:Array Value:=(tabI.map (fun n=>Value.int .i64 n)).toArray
def Zoq:Array Value:=(List.replicate 46 (Value.int .i64 0)).toArray
theorem Ymm (k:Nat) (hk:k<46):tab46[k]? = some (Value.int .i64 (opn k)):=by
 unfold tab46
 have hk2:k<tabI.length:=hk
 rw [List.getElem?_toArray,List.getElem?_map,List.getElem?_eq_getElem hk2]
 unfold opn
 rw [if_neg (by omega),Int.toNat_natCast,List.getD_eq_getElem?_getD,List.getElem?_eq_getElem hk2];rfl
theorem Zxr (w:World) (c:Array Value) (t:TypeId):(w.alloc (.cells c t)).heap[w.heap.size]? = some (.cells c t (0,0)):=by
 rw [show (w.alloc (.cells c t)).heap=w.heap.push (.cells c t) from rfl];simp
theorem Zjx (w:World) (c d:Array Value) (t:TypeId):(w.alloc (.cells c t)).setRow w.heap.size d=w.alloc (.cells d t):=by
 unfold World.setRow World.alloc
 congr 1
 apply Array.ext_getElem?
 intro i
 rw [Array.getElem?_modify]
 rcases Nat.lt_trichotomy i w.heap.size with h|h|h
 · rw [if_neg (by omega)];simp [Array.getElem?_push,Nat.ne_of_lt h]
 · subst h;simp
 · rw [if_neg (by omega)];simp [Array.getElem?_push,Nat.ne_of_gt h]
theorem Zuj (op:Int) (h1:op<0) (w:World):Calls Try.prog 92 #[.int .i64 op] w fun e w'=>e = .returned (.int .i64 (opn op))/\∃ c,w'=w.alloc (.cells c 159):=by
 rw [Zri op (Or.inl h1)]
 go_enter Try.func92,Try.ntmps92
 go_wp2_with (first
  | (refine wpList_buildTo rfl 159 _ rfl (some 4) rfl tab46 (by kernel_rfl) ?_)
  | (refine wpList_allocTo rfl (some 3) rfl (.pointer (some ⟨w.heap.size,0,none⟩)) (.cells Zoq 159) (by kernel_rfl) ?_)
  | (refine wpList_store_rowTo rfl 159 _ _ rfl rfl w.heap.size tab46 rfl rfl 159 Zoq (Zxr w _ _) (by kernel_rfl) rfl (by kernel_rfl) ?_;rw [Zjx]))
 go_ret
 exact ⟨rfl,_,rfl⟩
theorem Zul (op:Int) (h1:46<=op) (w:World):Calls Try.prog 92 #[.int .i64 op] w fun e w'=>e = .returned (.int .i64 (opn op))/\∃ c,w'=w.alloc (.cells c 159):=by
 rw [Zri op (Or.inr h1)]
 go_enter Try.func92,Try.ntmps92
 go_wp2_with (first
  | (refine wpList_buildTo rfl 159 _ rfl (some 4) rfl tab46 (by kernel_rfl) ?_)
  | (refine wpList_allocTo rfl (some 3) rfl (.pointer (some ⟨w.heap.size,0,none⟩)) (.cells Zoq 159) (by kernel_rfl) ?_)
  | (refine wpList_store_rowTo rfl 159 _ _ rfl rfl w.heap.size tab46 rfl rfl 159 Zoq (Zxr w _ _) (by kernel_rfl) rfl (by kernel_rfl) ?_;rw [Zjx]))
 go_ret
 exact ⟨rfl,_,rfl⟩
theorem Zuk (k:Nat) (hk:k<46) (w:World):Calls Try.prog 92 #[.int .i64 (k:Int)] w fun e w'=>e = .returned (.int .i64 (opn k))/\∃ c,w'=w.alloc (.cells c 159):=by
 have hc:=Ymm k hk
 have hsz:tab46.size=46:=rfl
 have hg:∀ h,tab46[k]'h=Value.int .i64 (opn k):=fun h=>(Array.getElem?_eq_some_iff.1 hc).2
 have HG:=Hq hg
 clear hc hg
 go_enter Try.func92,Try.ntmps92
 go_wp2_with (first
  | (refine wpList_buildTo rfl 159 _ rfl (some 4) rfl tab46 (by kernel_rfl) ?_)
  | (refine wpList_allocTo rfl (some 3) rfl (.pointer (some ⟨w.heap.size,0,none⟩)) (.cells Zoq 159) (by kernel_rfl) ?_)
  | (refine wpList_store_rowTo rfl 159 _ _ rfl rfl w.heap.size tab46 rfl rfl 159 Zoq (Zxr w _ _) (by kernel_rfl) rfl (by kernel_rfl) ?_;rw [Zjx]))
 go_ret
 exact ⟨congrArg Ending.returned (HG.out _),_,rfl⟩
theorem Zdp (op:Int) (w:World):Calls Try.prog 92 #[.int .i64 op] w fun e w'=>e = .returned (.int .i64 (opn op))/\∃ c,w'=w.alloc (.cells c 159):=by
 by_cases h1:op<0
 · exact Zuj op h1 w
 · by_cases h2:46<=op
   · exact Zul op h2 w
   · obtain ⟨k,rfl⟩:=Int.eq_ofNat_of_zero_le (show 0<=op by omega)
     exact Zuk k (by omega) w
theorem Zsf (op:Int) (w:World):Calls Try.prog 86 #[.int .i64 op] w fun e w'=>e = .returned (.bool (opn op == 2))/\∃ c,w'=w.alloc (.cells c 159):=by
 have H:=Hq (Zdp op)
 generalize opn op=v at *
 go_enter Try.func86,Try.ntmps86
 go_wp2_with (go_at_call 92;refine (H.out _).mono ?_;rintro e w' ⟨rfl,c,rfl⟩)
 go_ret
 exact ⟨rfl,_,rfl⟩
theorem Zjd (op:Int) (w:World):Calls Try.prog 83 #[.int .i64 op] w fun e w'=>e = .returned (.bool (opn op == 1))/\∃ c,w'=w.alloc (.cells c 159):=by
 have H:=Hq (Zdp op)
 generalize opn op=v at *
 go_enter Try.func83,Try.ntmps83
 go_wp2_with (go_at_call 92;refine (H.out _).mono ?_;rintro e w' ⟨rfl,c,rfl⟩)
 go_ret
 exact ⟨rfl,_,rfl⟩
end Go.Proofs.Ythlkflagancdfaa.CW
namespace Go.Proofs.Ythlkflagancdfaa.OT
open Go.Proofs.Ythlkflagancdfaa.CK (FnP)
structure Jn where
 long:Nat
 put:List Ins
 what:Int
def Zax (c:List Ins) (n:Nat):Option Jn :=
 let x:=Zn c n
 if x.1=0 then some ⟨1,[],2⟩
 else if x.1=14/\x.2=(n:Int)+1 then some ⟨1,[],2⟩
 else if jmp x.1=true/\x.2=(n:Int)+1 then some ⟨1,[(4,0)],2⟩
 else if x.1=14/\((Zn c x.2.toNat).1=18\/(Zn c x.2.toNat).1=1\/(Zn c x.2.toNat).1=2) then some ⟨1,[Zn c x.2.toNat],3⟩
 else none
def wd (a:Int):BitVec 64:=BitVec.ofInt 64 a
def Zau (c:List Ins) (n long:Nat):Option Jn :=
 let x:=Zn c n
 if x.1≠3\/long<2 then none
 else
  let y:=Zn c (n+1)
  let z:=Zn c (n+2)
  if y.1=15\/y.1=16 then (if (x.2=0 ↔ y.1=15) then some ⟨2,[(14,y.2)],4⟩ else some ⟨2,[],4⟩)
  else if CW.opn y.1=1 then (if (CW.Ycq y.1 (wd x.2)).2=0 then some ⟨2,[(3,(CW.Ycq y.1 (wd x.2)).1.toInt)],4⟩ else none)
  else if y.1=3/\3<=long/\CW.opn z.1=2 then (if (CW.two z.1 (wd x.2) (wd y.2)).2=0 then some ⟨3,[(3,(CW.two z.1 (wd x.2) (wd y.2)).1.toInt)],4⟩ else none)
  else if x.2=0/\y.1=31/\3<=long/\(z.1=15\/z.1=16) then some ⟨3,[(if z.1=16 then 15 else 16,z.2)],4⟩
  else if x.2=0/\(y.1=20\/y.1=21\/y.1=26\/y.1=27\/y.1=28\/y.1=29\/y.1=30) then some ⟨2,[],4⟩
  else if x.2=1/\(y.1=22\/y.1=23) then some ⟨2,[],4⟩
  else none
def Zek (c:List Ins) (n long:Nat):Option Jn :=
 if long<2 then none
 else
  let x:=Zn c n
  let y:=Zn c (n+1)
  if (x.1=3\/x.1=13)/\y.1=4 then some ⟨2,[],5⟩
  else if x.1=7/\(y.1=4\/y=(8,x.2)) then some ⟨2,[],5⟩
  else if x.1=5/\x.2=0/\y.1=6 then some ⟨2,[x],5⟩
  else if x.1=5/\y.1=4 then some ⟨2,[],5⟩
  else if (x.1=6\/x.1=34\/x.1=35)/\x=y then some ⟨2,[],5⟩
  else none
def Zce (c:List Ins) (n long:Nat):Option Jn :=
 if 3<=long/\(Zn c n).1=8/\Zn c (n+1)=(7,(Zn c n).2)/\(Zn c (n+2)).1=18 then some ⟨3,[(18,0)],5⟩ else none
def Zaj (c:List Ins) (n long:Nat):Option Jn :=
 (Zax c n).or ((Zau c n long).or ((Zek c n long).or (Zce c n long)))
def Zad (c:List Ins) (k:Nat):Bool:=c.any fun x=>jmp x.1 && x.2 == (k:Int)
def Zba (c:List Ins) (n:Nat):Nat :=
 if n+1<c.length/\Zad c (n+1)=false then (if n+2<c.length/\Zad c (n+2)=false then 3 else 2) else 1
def Zqt (c:List Ins):Nat->Nat->Option (Nat × Jn)
 | 0,_=>none
 | r+1,n=>match Zaj c n (Zba c n) with
   | some x=>some (n,x)
   | none=>Zqt c r (n+1)
def Zqs:List FnP->Nat->Option (Nat × Nat × Jn)
 | [],_=>none
 | f::r,i=>match Zqt f.2.2.2 f.2.2.2.length 0 with
   | some (n,x)=>some (i,n,x)
   | none=>Zqs r (i+1)
def Zbf (at_ long many:Nat) (a:Int):Int:=if a<=at_ then a else if a<(at_:Int)+long then at_ else a - long+many
def Zcy (c:List Ins):List Ins->Nat->Option Nat
 | [],_=>none
 | x::r,n=>if jmp x.1=true/\((Zhk c x.2.toNat:Nat):Int)≠x.2 then some n else Zcy c r (n+1)
def Zed:List FnP->Nat->Option (Nat × Nat)
 | [],_=>none
 | f::r,i=>match Zcy f.2.2.2 f.2.2.2 0 with
   | some n=>some (i,n)
   | none=>Zed r (i+1)
def Zv (f:FnP) (c:List Ins):FnP:=(f.1,f.2.1,f.2.2.1,c)
def Xp (fs:List FnP):List FnP:=fs.map fun f=>Zv f (Yh f.2.2.2)
def Yn (b:Nat->Bool):Nat->Nat
 | 0=>0
 | k+1=>Yn b k+if b k=true then 1 else 0
def Zbk (hs:Nat->List Int) (V:List Bool):Nat->Nat->Option (Nat × Nat)
 | 0,_=>none
 | r+1,i=>if V.getD i false=false then some (i,0) else match (hs i).findIdx? (fun h=>decide (h<0)) with
   | some n=>some (i,n)
   | none=>Zbk hs V r (i+1)
open Go.RowKit Go.Great
open Go.Proofs.Ythlkflagancdfaa.CK
theorem Yu (op:Int) (w:World):Calls Try.prog 52 #[.int .i64 op] w fun e w'=>e = .returned (.bool (jmp op))/\w=w':=by
 by_cases h14:op=14
 · subst h14
   go_enter Try.func52,Try.ntmps52
   go_wp2
   go_ret
   exact ⟨rfl,rfl⟩
 · have e14:(op == 14)=false:=by simp [h14]
   by_cases h15:op=15
   · subst h15
     go_enter Try.func52,Try.ntmps52
     go_wp2
     go_ret
     exact ⟨rfl,rfl⟩
   · have e15:(op == 15)=false:=by simp [h15]
     have e:jmp op=(op == 16):=by unfold jmp;rw [e14,e15];rfl
     rw [e]
     clear e
     go_enter Try.func52,Try.ntmps52
     go_wp2
     go_ret
     first|exact ⟨rfl,rfl⟩|exact ⟨by simp,rfl⟩
theorem Zdf (v:Int) (w:World):Calls Try.prog 85 #[.int .i64 v] w fun e w'=>e = .returned (.slice (some ⟨w.heap.size,0,none⟩) 1 1)/\w'=w.alloc (.cells #[.int .i64 3,.int .i64 v] 49):=by
 go_enter Try.func85,Try.ntmps85
 go_wp2_with (refine wpList_buildSliceTo rfl 50 49 1 _ rfl _ rfl (some 5) rfl Try.underlying50 #[.int .i64 3,.int .i64 v] (by kernel_rfl) ?_)
 go_ret
 exact ⟨rfl,rfl⟩
def Zm (w:World) (o:Option Jn) (e:Ending) (w':World):Prop:=w.grownBy w' none/\match o with
 | none=>∃ (l wt:Int) (q:Option Addr) (m k:Nat),e = .returned (.tuple #[.agg #[.int .i64 l,.slice q m k,.int .i64 wt],.bool false])
 | some x=>∃ (q:Option Addr) (k:Nat),e = .returned (.tuple #[.agg #[.int .i64 x.long,.slice q x.put.length k,.int .i64 x.what],.bool true])/\(q=none->k=0)/\Xz w' w'.heap.size q x.put
theorem Jw {w:World} {B:Nat} {p:Option Addr} {c:List Ins} (hC:Xz w B p c) {n:Nat} (hn:n<c.length):∃ b o:Nat,p=some ⟨b,o,none⟩/\b<B/\w.cell? ⟨b,o+n*2,none⟩=some (.int .i64 (Zn c n).1)/\w.cell? ⟨b,o+n*2+1,none⟩=some (.int .i64 (Zn c n).2):=by
 obtain ⟨b,o,e,hb,h⟩:=hC (by omega)
 have he:c[n]? = some (Zn c n):=by
  unfold Zn
  rw [List.getD_eq_getElem?_getD,List.getElem?_eq_getElem hn];rfl
 obtain ⟨h0,h1⟩:=h n (Zn c n).1 (Zn c n).2 he
 exact ⟨b,o,e,hb,h0,h1⟩
theorem Ywr (c:List Ins) (p:Option Addr) (cap B n:Nat) (long:Int) (w:World) (hB:B<=w.heap.size) (hC:Xz w B p c) (hn:n<c.length) (hl:c.length<=4096) (h0:(Zn c n).1=0) :
 Calls Try.prog 66 #[.slice p c.length cap,.int .i64 n,.int .i64 long] w (Zm w (some ⟨1,[],2⟩)):=by
 obtain ⟨b,o,rfl,hb,c0,c1⟩:=Jw hC hn
 rw [h0] at c0
 generalize (Zn c n).2=a at c1
 have hbw:b<w.heap.size:=by omega
 have q1:(n:Int)<(c.length:Int):=by omega
 have J:=Hq (fun op w=>Yu op w)
 clear hC h0
 go_enter Try.func66,Try.ntmps66
 go_wp2_with (go_at_call 52;refine (J.out _ _).mono ?_;rintro e w' ⟨rfl,rfl⟩)
 refine bodyPost_ret (v := .tuple #[.agg #[.int .i64 1,.slice none 0 0,.int .i64 2],.bool true]) ?_ rfl ⟨?_,none,0,rfl,fun _=>rfl,fun h=>absurd h (by decide)⟩
 · rw [results_cell_tmp rfl]
   go_simp
 · exact Za (Ga _ _ _) (Ga _ _ _)
theorem Ywq (c:List Ins) (p:Option Addr) (cap B n:Nat) (long:Int) (w:World) (hB:B<=w.heap.size) (hC:Xz w B p c) (hn:n<c.length) (hl:c.length<=4096) (h0:(Zn c n).1=14) (h1:(Zn c n).2=(n:Int)+1) :
 Calls Try.prog 66 #[.slice p c.length cap,.int .i64 n,.int .i64 long] w (Zm w (some ⟨1,[],2⟩)):=by
 obtain ⟨b,o,rfl,hb,c0,c1⟩:=Jw hC hn
 rw [h0] at c0
 rw [h1] at c1
 have hbw:b<w.heap.size:=by omega
 have q1:(n:Int)<(c.length:Int):=by omega
 have J:=Hq (fun op w=>Yu op w)
 clear hC h0 h1
 go_enter Try.func66,Try.ntmps66
 go_wp2_with (go_at_call 52;refine (J.out _ _).mono ?_;rintro e w' ⟨rfl,rfl⟩)
 refine bodyPost_ret (v := .tuple #[.agg #[.int .i64 1,.slice none 0 0,.int .i64 2],.bool true]) ?_ rfl ⟨?_,none,0,rfl,fun _=>rfl,fun h=>absurd h (by decide)⟩
 · rw [results_cell_tmp rfl]
   go_simp
 · exact Za (Ga _ _ _) (Ga _ _ _)
theorem Ynw {w:World} {cs:Array Value} {x:Ins} (hx:cs = #[.int .i64 x.1,.int .i64 x.2]):Xz (w.alloc (.cells cs 49)) (w.alloc (.cells cs 49)).heap.size (some ⟨w.heap.size,0,none⟩) [x]:=by
 intro _
 refine ⟨w.heap.size,0,rfl,by rw [World.size_alloc];omega,fun i op a hi => ?_⟩
 cases i with
 | zero =>
   simp at hi
   subst hi
   subst hx
   have h:=heap_alloc_new w (.cells #[.int .i64 op,.int .i64 a] 49)
   exact ⟨Cq _ _ 0 _ _ _ h,Cq _ _ 1 _ _ _ h⟩
 | succ k=>simp at hi
theorem Zuo {w:World} {cs:Array Value} {x:Ins} {g:Nat} (hx:cs = #[.int .i64 x.1,.int .i64 x.2]) (hg:w.heap.size=g):Xz (w.alloc (.cells cs 49)) (w.alloc (.cells cs 49)).heap.size (some ⟨g,0,none⟩) [x]:=hg ▸ Ynw hx
theorem Ywp (c:List Ins) (p:Option Addr) (cap B n:Nat) (long:Int) (w:World) (hB:B<=w.heap.size) (hC:Xz w B p c) (hn:n<c.length) (hl:c.length<=4096) (h0:(Zn c n).1=15\/(Zn c n).1=16) (h1:(Zn c n).2=(n:Int)+1) :
 Calls Try.prog 66 #[.slice p c.length cap,.int .i64 n,.int .i64 long] w (Zm w (some ⟨1,[(4,0)],2⟩)):=by
 obtain ⟨b,o,rfl,hb,c0,c1⟩:=Jw hC hn
 rw [h1] at c1
 have hbw:b<w.heap.size:=by omega
 have q1:(n:Int)<(c.length:Int):=by omega
 have J:=Hq (fun op w=>Yu op w)
 clear hC h1
 rcases h0 with h0|h0
 all_goals
  rw [h0] at c0
  clear h0
  go_enter Try.func66,Try.ntmps66
  go_wp2_with (first
   | (go_at_call 52;refine (J.out _ _).mono ?_;rintro e w' ⟨rfl,rfl⟩)
   | (refine wpList_buildSliceTo rfl 50 49 1 _ rfl _ rfl (some 43) rfl Try.underlying50 #[.int .i64 4,.int .i64 0] (by kernel_rfl) ?_))
  refine bodyPost_ret (v := .tuple #[.agg #[.int .i64 1,.slice (some ⟨w.heap.size+1+1,0,none⟩) 1 1,.int .i64 2],.bool true]) ?_ rfl ⟨?_,some ⟨w.heap.size+1+1,0,none⟩,1,rfl,(fun h=>by cases h),?_⟩
  · rw [results_cell_tmp rfl]
    go_simp
  · exact Za (Za (Ga _ _ _) (Ga _ _ _)) (Ga _ _ _)
  · exact Zuo (x:=(4,0)) rfl (by rw [World.size_alloc,World.size_alloc])
theorem Ywo (c:List Ins) (p:Option Addr) (cap B n m:Nat) (long:Int) (w:World) (hB:B<=w.heap.size) (hC:Xz w B p c) (hn:n<c.length) (hl:c.length<=4096) (h0:(Zn c n).1=14) (h1:(Zn c n).2=(m:Int)) (hm:m<c.length) (hne:(m:Int)≠(n:Int)+1) (he:(Zn c m).1=18\/(Zn c m).1=1\/(Zn c m).1=2) :
 Calls Try.prog 66 #[.slice p c.length cap,.int .i64 n,.int .i64 long] w (Zm w (some ⟨1,[Zn c m],3⟩)):=by
 obtain ⟨b,o,rfl,hb,c0,c1⟩:=Jw hC hn
 obtain ⟨b',o',e2,hb',d0,d1⟩:=Jw hC hm
 injection e2 with e2
 injection e2 with e2 e3 _
 subst e2
 subst e3
 rw [h0] at c0
 rw [h1] at c1
 have hbw:b<w.heap.size:=by omega
 have q1:(n:Int)<(c.length:Int):=by omega
 have q2:(m:Int)<(c.length:Int):=by omega
 have q3:((m:Int) == (n:Int)+1)=false:=by simp [hne]
 have J:=Hq (fun op w=>Yu op w)
 generalize Zn c m=x at *
 obtain ⟨x0,x1⟩:=x
 simp only [] at d0 d1 he
 clear hC h1 h0 hne
 rcases he with rfl|rfl|rfl
 all_goals
  go_enter Try.func66,Try.ntmps66
  go_wp2_with (first
   | (go_at_call 52;refine (J.out _ _).mono ?_;rintro e w' ⟨rfl,rfl⟩)
   | (refine wpList_buildSliceTo rfl 50 49 1 _ rfl _ rfl (some 61) rfl Try.underlying50 #[.int .i64 _,.int .i64 x1] (by kernel_rfl) ?_))
  refine bodyPost_ret (v := .tuple #[.agg #[.int .i64 1,.slice (some ⟨w.heap.size+1+1+1,0,none⟩) 1 1,.int .i64 3],.bool true]) ?_ rfl ⟨?_,some ⟨w.heap.size+1+1+1,0,none⟩,1,rfl,(fun h=>by cases h),?_⟩
  · rw [results_cell_tmp rfl]
    go_simp
  · exact Za (Za (Za (Ga _ _ _) (Ga _ _ _)) (Ga _ _ _)) (Ga _ _ _)
  · exact Zuo (x:=(_,x1)) rfl (by rw [World.size_alloc,World.size_alloc,World.size_alloc])
theorem Ywn (c:List Ins) (p:Option Addr) (cap B n:Nat) (long:Int) (w:World) (hB:B<=w.heap.size) (hC:Xz w B p c) (hn:n<c.length) (hl:c.length<=4096) (h0:(Zn c n).1≠0) (h1:jmp (Zn c n).1=false) :
 Calls Try.prog 66 #[.slice p c.length cap,.int .i64 n,.int .i64 long] w (Zm w none):=by
 obtain ⟨b,o,rfl,hb,c0,c1⟩:=Jw hC hn
 have hbw:b<w.heap.size:=by omega
 have q1:(n:Int)<(c.length:Int):=by omega
 generalize (Zn c n).1=op at *
 generalize (Zn c n).2=a at *
 have z0:(op == 0)=false:=by simp [h0]
 have z1:(op == 14)=false:=by
  simp only [jmp,Bool.or_eq_false_iff] at h1
  exact h1.1.1
 have J:=Hq (show ∀ w,Calls Try.prog 52 #[.int .i64 op] w fun e w'=>e = .returned (.bool false)/\w=w' from fun w=>h1 ▸ Yu op w)
 clear hC h0 h1
 go_enter Try.func66,Try.ntmps66
 go_wp2_with (go_at_call 52;refine (J.out _).mono ?_;rintro e w' ⟨rfl,rfl⟩)
 refine bodyPost_ret (v := .tuple #[.agg #[.int .i64 0,.slice none 0 0,.int .i64 0],.bool false]) ?_ rfl ⟨?_,0,0,none,0,0,rfl⟩
 · rw [results_cell_tmp rfl]
   go_simp
 · exact Za (Ga _ _ _) (Ga _ _ _)
theorem Ywm (c:List Ins) (p:Option Addr) (cap B n:Nat) (long:Int) (w:World) (hB:B<=w.heap.size) (hC:Xz w B p c) (hn:n<c.length) (hl:c.length<=4096) (h0:(Zn c n).1=15\/(Zn c n).1=16) (h1:(Zn c n).2≠(n:Int)+1) :
 Calls Try.prog 66 #[.slice p c.length cap,.int .i64 n,.int .i64 long] w (Zm w none):=by
 obtain ⟨b,o,rfl,hb,c0,c1⟩:=Jw hC hn
 have hbw:b<w.heap.size:=by omega
 have q1:(n:Int)<(c.length:Int):=by omega
 have J:=Hq (fun op w=>Yu op w)
 rcases h0 with h0|h0
 all_goals
  rw [h0] at c0
  generalize (Zn c n).2=a at *
  have q3:(a == (n:Int)+1)=false:=by simp [h1]
  clear hC h0 h1
  go_enter Try.func66,Try.ntmps66
  go_wp2_with (go_at_call 52;refine (J.out _ _).mono ?_;rintro e w' ⟨rfl,rfl⟩)
  refine bodyPost_ret (v := .tuple #[.agg #[.int .i64 0,.slice none 0 0,.int .i64 0],.bool false]) ?_ rfl ⟨?_,0,0,none,0,0,rfl⟩
  · rw [results_cell_tmp rfl]
    go_simp
  · exact Za (Ga _ _ _) (Ga _ _ _)
theorem Ywl (c:List Ins) (p:Option Addr) (cap B n m:Nat) (long:Int) (w:World) (hB:B<=w.heap.size) (hC:Xz w B p c) (hn:n<c.length) (hl:c.length<=4096) (h0:(Zn c n).1=14) (h1:(Zn c n).2=(m:Int)) (hm:m<c.length) (hne:(m:Int)≠(n:Int)+1) (he:¬ ((Zn c m).1=18\/(Zn c m).1=1\/(Zn c m).1=2)) :
 Calls Try.prog 66 #[.slice p c.length cap,.int .i64 n,.int .i64 long] w (Zm w none):=by
 obtain ⟨b,o,rfl,hb,c0,c1⟩:=Jw hC hn
 obtain ⟨b',o',e2,hb',d0,d1⟩:=Jw hC hm
 injection e2 with e2
 injection e2 with e2 e3 _
 subst e2
 subst e3
 rw [h0] at c0
 rw [h1] at c1
 have hbw:b<w.heap.size:=by omega
 have q1:(n:Int)<(c.length:Int):=by omega
 have q2:(m:Int)<(c.length:Int):=by omega
 have q3:((m:Int) == (n:Int)+1)=false:=by simp [hne]
 have J:=Hq (fun op w=>Yu op w)
 generalize Zn c m=x at *
 obtain ⟨x0,x1⟩:=x
 simp only [] at d0 d1 he
 have r1:(x0 == 18)=false:=by simp;omega
 have r2:(x0 == 1)=false:=by simp;omega
 have r3:(x0 == 2)=false:=by simp;omega
 clear hC h1 h0 hne he
 go_enter Try.func66,Try.ntmps66
 go_wp2_with (go_at_call 52;refine (J.out _ _).mono ?_;rintro e w' ⟨rfl,rfl⟩)
 refine bodyPost_ret (v := .tuple #[.agg #[.int .i64 0,.slice none 0 0,.int .i64 0],.bool false]) ?_ rfl ⟨?_,0,0,none,0,0,rfl⟩
 · rw [results_cell_tmp rfl]
   go_simp
 · exact Za (Za (Ga _ _ _) (Ga _ _ _)) (Ga _ _ _)
theorem Ylj (c:List Ins) (p:Option Addr) (cap B n:Nat) (long:Int) (w:World) (hB:B<=w.heap.size) (hC:Xz w B p c) (hn:n<c.length) (hl:c.length<=4096) (hj:(Zn c n).1=14->0<=(Zn c n).2/\(Zn c n).2<c.length) :
 Calls Try.prog 66 #[.slice p c.length cap,.int .i64 n,.int .i64 long] w (Zm w (Zax c n)):=by
 unfold Zax
 simp only []
 by_cases h0:(Zn c n).1=0
 · rw [if_pos h0];exact Ywr c p cap B n long w hB hC hn hl h0
 rw [if_neg h0]
 by_cases h1:(Zn c n).1=14/\(Zn c n).2=(n:Int)+1
 · rw [if_pos h1];exact Ywq c p cap B n long w hB hC hn hl h1.1 h1.2
 rw [if_neg h1]
 by_cases h2:jmp (Zn c n).1=true/\(Zn c n).2=(n:Int)+1
 · rw [if_pos h2]
   refine Ywp c p cap B n long w hB hC hn hl ?_ h2.2
   have:=h2.1
   simp only [jmp,Bool.or_eq_true,beq_iff_eq] at this
   omega
 rw [if_neg h2]
 by_cases h14:(Zn c n).1=14
 · obtain ⟨g0,g1⟩:=hj h14
   obtain ⟨m,hm⟩:=Int.eq_ofNat_of_zero_le g0
   have hml:m<c.length:=by omega
   have hne:(m:Int)≠(n:Int)+1:=fun e=>h1 ⟨h14,by rw [hm,e]⟩
   rw [show (Zn c n).2.toNat=m by omega]
   by_cases h3:(Zn c m).1=18\/(Zn c m).1=1\/(Zn c m).1=2
   · rw [if_pos ⟨h14,h3⟩];exact Ywo c p cap B n m long w hB hC hn hl h14 hm hml hne h3
   · rw [if_neg (fun h=>h3 h.2)];exact Ywl c p cap B n m long w hB hC hn hl h14 hm hml hne h3
 · rw [if_neg (fun h=>h14 h.1)]
   cases hb:jmp (Zn c n).1 with
   | false=>exact Ywn c p cap B n long w hB hC hn hl h0 hb
   | true =>
     refine Ywm c p cap B n long w hB hC hn hl ?_ (fun e=>h2 ⟨hb,e⟩)
     simp only [jmp,Bool.or_eq_true,beq_iff_eq] at hb
     omega
theorem Zdu {w W:World} {cs:Array Value} {t:TypeId} {x:Ins} {g:Nat} (hg:W.heap.size=g) (hw:w=W.alloc (.cells cs t)) (hx:cs = #[.int .i64 x.1,.int .i64 x.2]):Xz w w.heap.size (some ⟨g,0,none⟩) [x]:=by
 subst hw;subst hg;subst hx
 intro _
 refine ⟨W.heap.size,0,rfl,by rw [World.size_alloc];omega,fun i op a hi => ?_⟩
 cases i with
 | zero =>
   simp at hi
   subst hi
   have h:=heap_alloc_new W (.cells #[.int .i64 op,.int .i64 a] t)
   exact ⟨Cq _ _ 0 _ _ _ h,Cq _ _ 1 _ _ _ h⟩
 | succ k=>simp at hi
theorem Zgu (a b c d:Int) (w:World):(binOp .eql 49 (.agg #[.int .i64 a,.int .i64 b]) (.agg #[.int .i64 c,.int .i64 d])).run Try.prog w = .ok (.bool (a == c && b == d)) w:=by
 rw [run_eql_struct]
 cases h1:a == c <;> cases h2:b == d <;> (go_simp;try simp [h1,h2])
theorem Zxs (a b c d:Int) (w:World):(binOp .neq 49 (.agg #[.int .i64 a,.int .i64 b]) (.agg #[.int .i64 c,.int .i64 d])).run Try.prog w = .ok (.bool (!(a == c && b == d))) w:=by
 rw [run_neq_struct]
 cases h1:a == c <;> cases h2:b == d <;> (go_simp;try simp [h1,h2])
section
variable (b o n len cap:Nat) (op a op2 a2 op3 a3 long:Int) (w:World)
theorem Zwz (p:Option Addr) (hl:long<3) :
 Calls Try.prog 69 #[.slice p len cap,.int .i64 n,.int .i64 long] w (Zm w none):=by
 have hd:decide (long<3)=true:=by simpa using hl
 go_enter Try.func69,Try.ntmps69
 go_wp2
 go_quiet (fail)
 go_wp2
 ((refine bodyPost_ret (v := .tuple #[.agg #[.int .i64 0,.slice none 0 0,.int .i64 0],.bool false]) ?_ rfl ⟨?_,0,0,none,0,0,rfl⟩);(focus (rw [results_cell_tmp rfl];go_simp));(repeat (first|exact Zc _ _|exact Ga _ _ _|refine Za ?_ (Ga _ _ _)|refine Zf ?_ _|refine Ze ?_|(refine Zd ?_ (by simp;omega))|(refine Zd ?_ (by simp)))))
theorem Ysz (hbw:b<w.heap.size) (q1:(n:Int)<(len:Int)) (c0:w.cell? ⟨b,o+n*2,none⟩=some (.int .i64 op)) (h3:3<=long) (hx:op≠8) :
 Calls Try.prog 69 #[.slice (some ⟨b,o,none⟩) len cap,.int .i64 n,.int .i64 long] w (Zm w none):=by
 have hd:decide (long<3)=false:=by simpa using h3
 have hx2:(op != 8)=true:=by simpa using hx
 clear hx
 go_enter Try.func69,Try.ntmps69
 go_wp2
 go_quiet (fail)
 go_wp2
 ((refine bodyPost_ret (v := .tuple #[.agg #[.int .i64 0,.slice none 0 0,.int .i64 0],.bool false]) ?_ rfl ⟨?_,0,0,none,0,0,rfl⟩);(focus (rw [results_cell_tmp rfl];go_simp));(repeat (first|exact Zc _ _|exact Ga _ _ _|refine Za ?_ (Ga _ _ _)|refine Zf ?_ _|refine Ze ?_|(refine Zd ?_ (by simp;omega))|(refine Zd ?_ (by simp)))))
theorem Ysy (hbw:b<w.heap.size) (q1:(n:Int)<(len:Int)) (q2:(n:Int)+1<(len:Int)) (ql:(len:Int)<=4096) (c0:w.cell? ⟨b,o+n*2,none⟩=some (.int .i64 8)) (c1:w.cell? ⟨b,o+n*2+1,none⟩=some (.int .i64 a)) (d0:w.cell? ⟨b,o+(n+1)*2,none⟩=some (.int .i64 op2)) (d1:w.cell? ⟨b,o+(n+1)*2+1,none⟩=some (.int .i64 a2)) (h3:3<=long) (hx:op2≠7\/a2≠a) :
 Calls Try.prog 69 #[.slice (some ⟨b,o,none⟩) len cap,.int .i64 n,.int .i64 long] w (Zm w none):=by
 have hd:decide (long<3)=false:=by simpa using h3
 have hw1:IntKind.i64.wrap ((n:Int)+1)=(n:Int)+1:=IntWalk.i64_in _ (by omega)
 have hx2:(op2 == 7 && a2 == a)=false:=by rcases hx with h|h <;> simp [h]
 have hS:=Zxs op2 a2 7 a
 rw [hx2] at hS
 clear hx hx2
 go_enter Try.func69,Try.ntmps69
 go_wp2
 go_quiet (fail)
 go_wp2
 ((refine bodyPost_ret (v := .tuple #[.agg #[.int .i64 0,.slice none 0 0,.int .i64 0],.bool false]) ?_ rfl ⟨?_,0,0,none,0,0,rfl⟩);(focus (rw [results_cell_tmp rfl];go_simp));(repeat (first|exact Zc _ _|exact Ga _ _ _|refine Za ?_ (Ga _ _ _)|refine Zf ?_ _|refine Ze ?_|(refine Zd ?_ (by simp;omega))|(refine Zd ?_ (by simp)))))
theorem Ysx (hbw:b<w.heap.size) (q1:(n:Int)<(len:Int)) (q2:(n:Int)+1<(len:Int)) (q3:(n:Int)+2<(len:Int)) (ql:(len:Int)<=4096) (c0:w.cell? ⟨b,o+n*2,none⟩=some (.int .i64 8)) (c1:w.cell? ⟨b,o+n*2+1,none⟩=some (.int .i64 a)) (d0:w.cell? ⟨b,o+(n+1)*2,none⟩=some (.int .i64 7)) (d1:w.cell? ⟨b,o+(n+1)*2+1,none⟩=some (.int .i64 a)) (e0:w.cell? ⟨b,o+(n+2)*2,none⟩=some (.int .i64 op3)) (h3:3<=long) (hx:op3≠18) :
 Calls Try.prog 69 #[.slice (some ⟨b,o,none⟩) len cap,.int .i64 n,.int .i64 long] w (Zm w none):=by
 have hd:decide (long<3)=false:=by simpa using h3
 have hw1:IntKind.i64.wrap ((n:Int)+1)=(n:Int)+1:=IntWalk.i64_in _ (by omega)
 have hw2:IntKind.i64.wrap ((n:Int)+2)=(n:Int)+2:=IntWalk.i64_in _ (by omega)
 have hx2:(op3 != 18)=true:=by simpa using hx
 have hS:=Zxs 7 a 7 a
 rw [show (7 == (7:Int) && a == a)=true by simp] at hS
 clear hx
 go_enter Try.func69,Try.ntmps69
 go_wp2
 go_quiet (fail)
 go_wp2
 ((refine bodyPost_ret (v := .tuple #[.agg #[.int .i64 0,.slice none 0 0,.int .i64 0],.bool false]) ?_ rfl ⟨?_,0,0,none,0,0,rfl⟩);(focus (rw [results_cell_tmp rfl];go_simp));(repeat (first|exact Zc _ _|exact Ga _ _ _|refine Za ?_ (Ga _ _ _)|refine Zf ?_ _|refine Ze ?_|(refine Zd ?_ (by simp;omega))|(refine Zd ?_ (by simp)))))
theorem Ymj (hbw:b<w.heap.size) (q1:(n:Int)<(len:Int)) (q2:(n:Int)+1<(len:Int)) (q3:(n:Int)+2<(len:Int)) (ql:(len:Int)<=4096) (c0:w.cell? ⟨b,o+n*2,none⟩=some (.int .i64 8)) (c1:w.cell? ⟨b,o+n*2+1,none⟩=some (.int .i64 a)) (d0:w.cell? ⟨b,o+(n+1)*2,none⟩=some (.int .i64 7)) (d1:w.cell? ⟨b,o+(n+1)*2+1,none⟩=some (.int .i64 a)) (e0:w.cell? ⟨b,o+(n+2)*2,none⟩=some (.int .i64 18)) (h3:3<=long) :
 Calls Try.prog 69 #[.slice (some ⟨b,o,none⟩) len cap,.int .i64 n,.int .i64 long] w (Zm w (some ⟨3,[(18,0)],5⟩)):=by
 have hd:decide (long<3)=false:=by simpa using h3
 have hw1:IntKind.i64.wrap ((n:Int)+1)=(n:Int)+1:=IntWalk.i64_in _ (by omega)
 have hw2:IntKind.i64.wrap ((n:Int)+2)=(n:Int)+2:=IntWalk.i64_in _ (by omega)
 have hS:=Zxs 7 a 7 a
 rw [show (7 == (7:Int) && a == a)=true by simp] at hS
 go_enter Try.func69,Try.ntmps69
 go_wp2
 go_quiet (fail)
 go_wp2_with (refine wpList_buildSliceTo rfl 50 49 1 _ rfl _ rfl (some 43) rfl Try.underlying50 #[.int .i64 18,.int .i64 0] (by kernel_rfl) ?_)
 refine bodyPost_ret (v := .tuple #[.agg #[.int .i64 3,.slice (some ⟨w.heap.size+1,0,none⟩) 1 1,.int .i64 5],.bool true]) ?_ rfl ⟨?_,some ⟨w.heap.size+1,0,none⟩,1,rfl,(fun h=>by cases h),?_⟩
 · rw [results_cell_tmp rfl]
   go_simp
 · (repeat (first|exact Zc _ _|exact Ga _ _ _|refine Za ?_ (Ga _ _ _)|refine Zf ?_ _|refine Ze ?_|(refine Zd ?_ (by simp;omega))|(refine Zd ?_ (by simp))))
 · refine Zdu (x:=(18,0)) ?_ rfl rfl
   simp
end
theorem Yfe (c:List Ins) (p:Option Addr) (cap B n lg:Nat) (w:World) (hB:B<=w.heap.size) (hC:Xz w B p c) (hn:n<c.length) (hl:c.length<=4096) (hg:lg<=3) (hlong:n+lg<=c.length) :
 Calls Try.prog 69 #[.slice p c.length cap,.int .i64 n,.int .i64 lg] w (Zm w (Zce c n lg)):=by
 unfold Zce
 by_cases h3:3<=lg
 · obtain ⟨b,o,rfl,hb,c0,c1⟩:=Jw hC hn
   obtain ⟨b',o',e2,-,d0,d1⟩:=Jw hC (n:=n+1) (by omega)
   injection e2 with e2;injection e2 with e2 e3 _;subst e2;subst e3
   obtain ⟨b',o',e2,-,e0,e1⟩:=Jw hC (n:=n+2) (by omega)
   injection e2 with e2;injection e2 with e2 e3 _;subst e2;subst e3
   by_cases hx:(Zn c n).1=8
   · rw [hx] at c0
     by_cases hy:Zn c (n+1)=(7,(Zn c n).2)
     · rw [hy] at d0 d1
       by_cases hz:(Zn c (n+2)).1=18
       · rw [if_pos ⟨h3,hx,hy,hz⟩]
         rw [hz] at e0
         exact Ymj b o n c.length cap _ lg w (by omega) (by omega) (by omega) (by omega) (by omega) c0 c1 d0 d1 e0 (by omega)
       · rw [if_neg (fun h=>hz h.2.2.2)]
         exact Ysx b o n c.length cap _ _ lg w (by omega) (by omega) (by omega) (by omega) (by omega) c0 c1 d0 d1 e0 (by omega) hz
     · rw [if_neg (fun h=>hy h.2.2.1)]
       refine Ysy b o n c.length cap _ _ _ lg w (by omega) (by omega) (by omega) (by omega) c0 c1 d0 d1 (by omega) ?_
       by_cases q:(Zn c (n+1)).1=7
       · exact Or.inr fun e=>hy (by rw [<- e,<- q])
       · exact Or.inl q
   · rw [if_neg (fun h=>hx h.2.1)]
     exact Ysz b o n c.length cap _ lg w (by omega) (by omega) c0 (by omega) hx
 · rw [if_neg (fun h=>h3 h.1)]
   exact Zwz n c.length cap lg w p (by omega)
theorem Xu {b:Nat} {w:World} (h:b<w.heap.size):(b<w.heap.size/\b<w.heap.size+1/\b<w.heap.size+1+1/\b<w.heap.size+1+1+1/\b<w.heap.size+1+1+1+1/\b<w.heap.size+1+1+1+1+1) /\
 (w.heap.size<w.heap.size+1/\w.heap.size<w.heap.size+1+1/\w.heap.size<w.heap.size+1+1+1/\w.heap.size<w.heap.size+1+1+1+1/\w.heap.size<w.heap.size+1+1+1+1+1) /\
 (w.heap.size+1<w.heap.size+1+1/\w.heap.size+1<w.heap.size+1+1+1/\w.heap.size+1<w.heap.size+1+1+1+1/\w.heap.size+1<w.heap.size+1+1+1+1+1) /\
 (w.heap.size+1+1<w.heap.size+1+1+1/\w.heap.size+1+1<w.heap.size+1+1+1+1/\w.heap.size+1+1<w.heap.size+1+1+1+1+1) /\
 w.heap.size+1+1+1<w.heap.size+1+1+1+1/\w.heap.size+1+1+1<w.heap.size+1+1+1+1+1:=by omega
theorem nh1 (v:Int) (h:(CW.opn v == 1)=false):Hid (∀ w,Calls Try.prog 83 #[.int .i64 v] w fun e w'=>e = .returned (.bool false)/\∃ c,w'=w.alloc (.cells c 159)):=Hq fun w=>by
 have:=CW.Zjd v w
 rw [h] at this
 exact this
theorem nh2 (v:Int) (h:(CW.opn v == 2)=false):Hid (∀ w,Calls Try.prog 86 #[.int .i64 v] w fun e w'=>e = .returned (.bool false)/\∃ c,w'=w.alloc (.cells c 159)):=Hq fun w=>by
 have:=CW.Zsf v w
 rw [h] at this
 exact this
end Go.Proofs.Ythlkflagancdfaa.OT
