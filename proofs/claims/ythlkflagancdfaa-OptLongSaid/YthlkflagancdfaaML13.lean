/-
  Part of a proof: contracts of functions and lemmas, each stated by its own theorem. Conditions: as each theorem states.
-/
import Derived.Laws.FloatBits
import Derived.RowKit
import Derived.Laws.BitsAll
import Derived.Test.YthlkflagancdfaaProg
import Derived.WalkKit
import Derived.WalkLawsBesides
import Derived.RowKit3
import Derived.Deep.Draws
import Derived.Lib.Hide
import Derived.Laws.FloatArith
import Derived.Great.BuildSlice
import Derived.Great.Walk
import Derived.Outline
import Derived.Test.YthlkflagancdfaaML12
import Derived.Test.YthlkflagancdfaaML01
import Derived.Test.YthlkflagancdfaaML00
set_option linter.unusedSimpArgs false
set_option linter.unusedVariables false
set_option maxRecDepth 100000
set_option maxHeartbeats 16000000
namespace Go.Proofs.Ythlkflagancdfaa.CW
open Go.RowKit (wrap64)
def Yqu:BitVec 64:=9221120237041090560#64
def nan (b:Nat):Bool:=decide (9218868437227405312<b % 9223372036854775808)
def Zsl (b:Nat):BitVec 64:=if nan b then Yqu else BitVec.ofNat 64 b
def Zbf:Option Nat->BitVec 64
 | some r=>Zsl r
 | none=>Yqu
def one (b:Bool):BitVec 64:=if b then 1#64 else 0#64
def Zpf (op:Int) (x y:Nat):BitVec 64 × Int :=
 if op=36 then (Zbf (Ieee.double.add x y),0)
 else if op=37 then (Zbf (Ieee.double.sub x y),0)
 else if op=38 then (Zbf (Ieee.double.mul x y),0)
 else if op=39 then (Zbf (Ieee.double.div x y),0)
 else if op=40 then (one (Ieee.double.order x y == some .eq),0)
 else if op=41 then (one (Ieee.double.order x y == some .lt),0)
 else (0#64,8)
def two (op:Int) (x y:BitVec 64):BitVec 64 × Int :=
 if op=20 then (x+y,0)
 else if op=21 then (x - y,0)
 else if op=22 then (x*y,0)
 else if op=23 then (if y=0#64 then (0#64,5) else (x.sdiv y,0))
 else if op=24 then (if y=0#64 then (0#64,5) else (x.srem y,0))
 else if op=25 then (x &&& y,0)
 else if op=26 then (x ||| y,0)
 else if op=27 then (x ^^^ y,0)
 else if op=28 then (x <<< (y.toNat % 64),0)
 else if op=29 then (x.sshiftRight (y.toNat % 64),0)
 else if op=30 then (x >>> (y.toNat % 64),0)
 else if op=31 then (one (x == y),0)
 else if op=32 then (one (x.slt y),0)
 else if op=33 then (one (x.ult y),0)
 else Zpf op x.toNat y.toNat
def Xca (b:Nat):Nat:=b ^^^ 9223372036854775808
theorem Jk (n:Int):wrap64 n=n.bmod 18446744073709551616:=by
 unfold wrap64 Int.bmod;dsimp only;split <;> omega
theorem toInt_ofInt (n:Int):(BitVec.ofInt 64 n).toInt=wrap64 n:=by
 rw [Jk,BitVec.toInt_ofInt]
theorem Zlo (n:Nat):(BitVec.ofNat 64 n).toInt=wrap64 n:=by
 rw [Jk,BitVec.toInt_ofNat']
theorem Yzn (x y:BitVec 64):wrap64 (x.toInt+y.toInt)=(x+y).toInt:=by rw [Jk,BitVec.toInt_add]
theorem Yze (x y:BitVec 64):wrap64 (x.toInt - y.toInt)=(x - y).toInt:=by rw [Jk,BitVec.toInt_sub]
theorem Yzm (x y:BitVec 64):wrap64 (x.toInt*y.toInt)=(x*y).toInt:=by rw [Jk,BitVec.toInt_mul]
theorem Yzj (x y:BitVec 64):wrap64 (x.toInt.tdiv y.toInt)=(x.sdiv y).toInt:=by rw [Jk,BitVec.toInt_sdiv]
theorem Yzi (x y:BitVec 64):x.toInt.tmod y.toInt=(x.srem y).toInt:=by rw [BitVec.toInt_srem]
theorem Yjq (n:Int):IntKind.i64.wrap n=wrap64 n:=by
 unfold IntKind.wrap wrap64;simp only [IntKind.bits,IntKind.signed];simp;split <;> omega
theorem Ydb (op:BinOp) (f:BitVec 64->BitVec 64->BitVec 64)
 (h:(op = .and/\f=(· &&& ·))\/(op = .or/\f=(· ||| ·))\/(op = .xor/\f=(· ^^^ ·))\/(op = .andNot/\f=(· &&& ~~~ ·)))
 (x y:BitVec 64):bits op .i64 x.toInt y.toInt=(f x y).toInt:=by
 rcases h with ⟨rfl,rfl⟩|⟨rfl,rfl⟩|⟨rfl,rfl⟩|⟨rfl,rfl⟩
 all_goals
  simp only [bits]
  rw [Yjq,<- Zlo]
  simp only [IntKind.bits,BitVec.ofInt_toInt,BitVec.ofNat_toNat,BitVec.setWidth_eq]
  rfl
theorem Ytv (x y:BitVec 64):bits .and .i64 x.toInt y.toInt=(x &&& y).toInt:=Ydb .and _ (by simp) x y
theorem Xce (x y:BitVec 64):bits .or .i64 x.toInt y.toInt=(x ||| y).toInt:=Ydb .or _ (by simp) x y
theorem Ytu (x y:BitVec 64):bits .xor .i64 x.toInt y.toInt=(x ^^^ y).toInt:=Ydb .xor _ (by simp) x y
theorem Yzl (x:BitVec 64):wrap64 (-x.toInt)=(-x).toInt:=by rw [BitVec.toInt_neg,Jk]
theorem Yzk (x:BitVec 64):bits .xor .i64 (-1) x.toInt=(~~~x).toInt:=by
 have h:=Ytu (BitVec.allOnes 64) x
 rw [show (BitVec.allOnes 64).toInt = -1 from by decide,BitVec.allOnes_xor] at h;exact h
theorem Xcg (x y:BitVec 64):(x.toInt == y.toInt)=(x == y):=by
 rw [Bool.eq_iff_iff];simp [BitVec.toInt_inj]
theorem Xcf (x y:BitVec 64):decide (x.toInt<y.toInt)=x.slt y:=rfl
theorem Zln (x:BitVec 64):IntKind.u64.wrap x.toInt=(x.toNat:Int):=by
 rw [IntKind.wrap_u64,BitVec.toInt_eq_toNat_cond];have:=x.isLt;split <;> omega
theorem Yzd (x y:BitVec 64):decide (IntKind.u64.wrap x.toInt<IntKind.u64.wrap y.toInt)=x.ult y:=by
 rw [Zln,Zln];unfold BitVec.ult;simp
theorem Ypl (y:BitVec 64):bits .and .i64 y.toInt 63=((y.toNat % 64:Nat):Int):=by
 have h:bits .and .i64 y.toInt (63#64).toInt=(y &&& 63#64).toInt:=Ytv y 63#64
 have e:(63#64).toInt=63:=by decide
 rw [e] at h;rw [h]
 have hn:(y &&& 63#64).toNat=y.toNat % 64:=by
  rw [BitVec.toNat_and];exact Nat.and_two_pow_sub_one_eq_mod y.toNat 6
 rw [BitVec.toInt_eq_toNat_cond,hn,if_pos (by omega)]
theorem Yzg (x:BitVec 64) (k:Nat) (hk:k<64):wrap64 (x.toInt*2 ^ k)=(x <<< k).toInt:=by
 rw [Jk,BitVec.toInt_shiftLeft]
 rw [Nat.shiftLeft_eq,BitVec.toInt_eq_toNat_bmod]
 push_cast
 rw [Int.bmod_mul_bmod]
theorem Yzh (x:BitVec 64) (k:Nat) (hk:k<64):x.toInt / 2 ^ k=(x.sshiftRight k).toInt:=by
 rw [BitVec.toInt_sshiftRight,Int.shiftRight_eq_div_pow];rfl
theorem Yzf (x:BitVec 64) (k:Nat) (hk:k<64):wrap64 ((x.toNat:Int) / 2 ^ k)=(x >>> k).toInt:=by
 rw [BitVec.toInt_eq_toNat_bmod,BitVec.toNat_ushiftRight,Nat.shiftRight_eq_div_pow,Jk]
 push_cast;rfl
open Go.RowKit
def Zeu (t:Nat):Nat:=(t % 2)*9223372036854775808+9218868437227405312+1+(t / 2) % 4503599627370495
theorem Zwo (t:Nat):nan (Zeu t)=true:=by
 unfold nan Zeu;simp only [decide_eq_true_eq]
 have h1:t % 2<2:=by omega
 have h2:(t / 2) % 4503599627370495<4503599627370495:=by omega
 generalize t % 2=k at *;generalize (t / 2) % 4503599627370495=m at *;omega
theorem Zce (t:Nat):Zsl (Zeu t)=Yqu:=by
 unfold Zsl;rw [Zwo];rfl
theorem Ztb (n:Int) (w:World):(callFunc 101 #[.int .u64 n]).run Try.prog w = .ok (.value (.float .f64 n.toNat)) w:=by
 rw [run_callFunc_extern Try.func101 (by kernel_rfl) (by kernel_rfl) (by kernel_rfl) (by kernel_rfl:_=some Extern.MathFloatBits.float64frombits)];rfl
theorem Zji (x:BitVec 64) (w:World):(callFunc 101 #[.int .u64 (IntKind.u64.wrap x.toInt)]).run Try.prog w = .ok (.value (.float .f64 x.toNat)) w:=by
 rw [Ztb]
 have:(IntKind.u64.wrap x.toInt).toNat=x.toNat:=by
  rw [IntKind.wrap_u64,BitVec.toInt_eq_toNat_cond];have:=x.isLt;split <;> omega
 rw [this]
theorem Ykk (b:Nat) (w:World):(callFunc 102 #[.float .f64 b]).run Try.prog w = .ok (.value (.int .u64 b)) w:=by
 rw [run_callFunc_extern Try.func102 (by kernel_rfl) (by kernel_rfl) (by kernel_rfl) (by kernel_rfl:_=some Extern.MathFloatBits.float64bits)];rfl
theorem Ydz (b:Nat):Extern.MathSqrt.sqrt #[.float .f64 b]=(match Ieee.double.sqrt b with|some r=>pure (.float .f64 r)|none=>do pure (.float .f64 (<- choose (.nanBits .f64 b b)))):=rfl
theorem Zpz (b r:Nat) (h:Ieee.double.sqrt b=some r) (w:World):(callFunc 103 #[.float .f64 b]).run Try.prog w = .ok (.value (.float .f64 r)) w:=by
 rw [run_callFunc_extern Try.func103 (by kernel_rfl) (by kernel_rfl) (by kernel_rfl) (by kernel_rfl:_=some Extern.MathSqrt.sqrt)]
 rw [Ydz,h];rfl
theorem Zqa (b:Nat) (h:Ieee.double.sqrt b=none) (w:World):(callFunc 103 #[.float .f64 b]).run Try.prog w = .ok (.value (.float .f64 (Zeu (w.tape w.drawn (.nanBits .f64 b b))))) w.drew:=by
 rw [run_callFunc_extern Try.func103 (by kernel_rfl) (by kernel_rfl) (by kernel_rfl) (by kernel_rfl:_=some Extern.MathSqrt.sqrt)]
 rw [Ydz,h];rfl
theorem Zbz (op:BinOp) (t:TypeId) (x y r:Nat) (h:floatBits op .f64 x y=some r) (w:World) :
 (binOp op t (.float .f64 x) (.float .f64 y)).run Try.prog w = .ok (.float .f64 r) w:=run_float_arith w op t .f64 x y r h
theorem Zca (op:BinOp) (t:TypeId) (x y:Nat) (ho:op = .add\/op = .sub\/op = .mul\/op = .quo) (h:floatBits op .f64 x y=none) (w:World) :
 (binOp op t (.float .f64 x) (.float .f64 y)).run Try.prog w = .ok (.float .f64 (Zeu (w.tape w.drawn (.nanBits .f64 x y)))) w.drew:=by
 unfold floatBits at h
 rcases ho with rfl|rfl|rfl|rfl
 all_goals
  simp only at h
  simp only [binOp,Op.floatArith,h];rfl
theorem Zes {k:IntKind} {a b:Int} (h:a=b):Ending.returned (.int k a) = .returned (.int k b):=by rw [h]
theorem Yh {k q:IntKind} {a b c d:Int} (h:a=b) (g:c=d):Ending.returned (.tuple #[.int k a,.int q c]) = .returned (.tuple #[.int k b,.int q d]):=by rw [h,g]
theorem Yw (b:Bool) (w:World):Calls Try.prog 97 #[.bool b] w fun e w'=>e = .returned (.int .i64 (one b).toInt)/\w=w':=by
 cases b
 all_goals
  go_enter Try.func97,Try.ntmps97
  go_wp2
  go_ret
  exact ⟨rfl,rfl⟩
theorem Zac (x:BitVec 64) (w:World):Calls Try.prog 93 #[.int .i64 x.toInt] w fun e w'=>e = .returned (.float .f64 x.toNat)/\w=w':=by
 have h:=fun w=>Zji x w
 go_enter Try.func93,Try.ntmps93
 go_wp2
 go_ret
 exact ⟨rfl,rfl⟩
theorem Ybe (b:Nat):(FloatKind.f64.format.order b b != some Ordering.eq)=nan b:=by
 show (Ieee.double.order b b != some Ordering.eq)=nan b
 unfold Ieee.Format.order Ieee.Format.read nan
 simp only [show Ieee.double.signWeight=9223372036854775808 from by decide,show Ieee.double.binade=4503599627370496 from by decide,show Ieee.double.infRung=9218868437227405312 from by decide]
 split
 · rename_i h;rw [Bool.eq_iff_iff];simp [Ieee.Datum.order];omega
 · split
   · rename_i h;rw [Bool.eq_iff_iff];simp [Ieee.Datum.order];omega
   · split
     · rename_i h;rw [Bool.eq_iff_iff];simp [Ieee.Datum.order];omega
     · rename_i h;rw [Bool.eq_iff_iff];simp [Ieee.Datum.order];omega
theorem Zaa (b:Nat) (w:World):Calls Try.prog 96 #[.float .f64 b] w fun e w'=>e = .returned (.bool (nan b))/\w=w':=by
 go_enter Try.func96,Try.ntmps96
 go_wp2
 go_ret
 exact ⟨by rw [<- Ybe b];rfl,rfl⟩
theorem Xy (b:Nat) (w:World):Calls Try.prog 94 #[.float .f64 b] w fun e w'=>e = .returned (.int .i64 (Zsl b).toInt)/\w=w':=by
 have h:=fun w=>Ykk b w
 by_cases hn:nan b=true
 · go_enter Try.func94,Try.ntmps94
   go_wp2_with (go_at_call 96;refine (Zaa _ _).mono ?_;rintro e w' ⟨rfl,rfl⟩)
   go_ret
   exact ⟨by unfold Zsl;rw [hn];rfl,rfl⟩
 · have hn:nan b=false:=by simpa using hn
   go_enter Try.func94,Try.ntmps94
   go_wp2_with (go_at_call 96;refine (Zaa _ _).mono ?_;rintro e w' ⟨rfl,rfl⟩)
   go_ret
   exact ⟨Zes (by unfold Zsl;rw [hn,if_neg (by decide),Zlo]),rfl⟩
def Yyt (w w':World):Prop:=∃ n,w'=w.drewN n
def Zbx (op:Int):Prop:=∀ (x y:Nat) (w:World),Calls Try.prog 98 #[.int .i64 op,.float .f64 x,.float .f64 y] w fun e w'=>e = .returned (.tuple #[.int .i64 (Zpf op x y).1.toInt,.int .i64 (Zpf op x y).2])/\Yyt w w'
theorem Yhq:Zbx 36:=by
 intro x y w
 cases hr:floatBits .add .f64 x y with
 | some r =>
   have h:=fun t w=>Zbz .add t x y r hr w
   go_enter Try.func98,Try.ntmps98
   go_wp2_with (go_at_call 94;refine (Xy _ _).mono ?_;rintro e w' ⟨rfl,rfl⟩)
   go_ret2
   exact ⟨Yh (by have hr':Ieee.double.add x y=some r:=hr
                 show (Zsl r).toInt=(Zbf (Ieee.double.add x y)).toInt
                 rw [hr'];rfl) rfl,0,rfl⟩
 | none =>
   have h:=fun t w=>Zca .add t x y (by simp) hr w
   go_enter Try.func98,Try.ntmps98
   go_wp2_with (go_at_call 94;refine (Xy _ _).mono ?_;rintro e w' ⟨rfl,rfl⟩)
   go_ret2
   exact ⟨Yh (by have hr':Ieee.double.add x y=none:=hr
                 show (Zsl (Zeu _)).toInt=(Zbf (Ieee.double.add x y)).toInt
                 rw [hr',Zce];rfl) rfl,1,rfl⟩
theorem Yhp:Zbx 37:=by
 intro x y w
 cases hr:floatBits .sub .f64 x y with
 | some r =>
   have h:=fun t w=>Zbz .sub t x y r hr w
   go_enter Try.func98,Try.ntmps98
   go_wp2_with (go_at_call 94;refine (Xy _ _).mono ?_;rintro e w' ⟨rfl,rfl⟩)
   go_ret2
   exact ⟨Yh (by have hr':Ieee.double.sub x y=some r:=hr
                 show (Zsl r).toInt=(Zbf (Ieee.double.sub x y)).toInt
                 rw [hr'];rfl) rfl,0,rfl⟩
 | none =>
   have h:=fun t w=>Zca .sub t x y (by simp) hr w
   go_enter Try.func98,Try.ntmps98
   go_wp2_with (go_at_call 94;refine (Xy _ _).mono ?_;rintro e w' ⟨rfl,rfl⟩)
   go_ret2
   exact ⟨Yh (by have hr':Ieee.double.sub x y=none:=hr
                 show (Zsl (Zeu _)).toInt=(Zbf (Ieee.double.sub x y)).toInt
                 rw [hr',Zce];rfl) rfl,1,rfl⟩
theorem Yho:Zbx 38:=by
 intro x y w
 cases hr:floatBits .mul .f64 x y with
 | some r =>
   have h:=fun t w=>Zbz .mul t x y r hr w
   go_enter Try.func98,Try.ntmps98
   go_wp2_with (go_at_call 94;refine (Xy _ _).mono ?_;rintro e w' ⟨rfl,rfl⟩)
   go_ret2
   exact ⟨Yh (by have hr':Ieee.double.mul x y=some r:=hr
                 show (Zsl r).toInt=(Zbf (Ieee.double.mul x y)).toInt
                 rw [hr'];rfl) rfl,0,rfl⟩
 | none =>
   have h:=fun t w=>Zca .mul t x y (by simp) hr w
   go_enter Try.func98,Try.ntmps98
   go_wp2_with (go_at_call 94;refine (Xy _ _).mono ?_;rintro e w' ⟨rfl,rfl⟩)
   go_ret2
   exact ⟨Yh (by have hr':Ieee.double.mul x y=none:=hr
                 show (Zsl (Zeu _)).toInt=(Zbf (Ieee.double.mul x y)).toInt
                 rw [hr',Zce];rfl) rfl,1,rfl⟩
theorem Yhn:Zbx 39:=by
 intro x y w
 cases hr:floatBits .quo .f64 x y with
 | some r =>
   have h:=fun t w=>Zbz .quo t x y r hr w
   go_enter Try.func98,Try.ntmps98
   go_wp2_with (go_at_call 94;refine (Xy _ _).mono ?_;rintro e w' ⟨rfl,rfl⟩)
   go_ret2
   exact ⟨Yh (by have hr':Ieee.double.div x y=some r:=hr
                 show (Zsl r).toInt=(Zbf (Ieee.double.div x y)).toInt
                 rw [hr'];rfl) rfl,0,rfl⟩
 | none =>
   have h:=fun t w=>Zca .quo t x y (by simp) hr w
   go_enter Try.func98,Try.ntmps98
   go_wp2_with (go_at_call 94;refine (Xy _ _).mono ?_;rintro e w' ⟨rfl,rfl⟩)
   go_ret2
   exact ⟨Yh (by have hr':Ieee.double.div x y=none:=hr
                 show (Zsl (Zeu _)).toInt=(Zbf (Ieee.double.div x y)).toInt
                 rw [hr',Zce];rfl) rfl,1,rfl⟩
theorem Yhm:Zbx 40:=by
 intro x y w
 go_enter Try.func98,Try.ntmps98
 go_wp2_with (go_at_call 97;refine (Yw _ _).mono ?_;rintro e w' ⟨rfl,rfl⟩)
 go_ret2
 exact ⟨Yh rfl rfl,0,rfl⟩
theorem Yhl:Zbx 41:=by
 intro x y w
 go_enter Try.func98,Try.ntmps98
 go_wp2_with (go_at_call 97;refine (Yw _ _).mono ?_;rintro e w' ⟨rfl,rfl⟩)
 go_ret2
 exact ⟨Yh rfl rfl,0,rfl⟩
theorem Ybv (op:Int):Zbx op:=by
 by_cases h36:op=36
 · subst h36;exact Yhq
 by_cases h37:op=37
 · subst h37;exact Yhp
 by_cases h38:op=38
 · subst h38;exact Yho
 by_cases h39:op=39
 · subst h39;exact Yhn
 by_cases h40:op=40
 · subst h40;exact Yhm
 by_cases h41:op=41
 · subst h41;exact Yhl
 intro x y w
 have e1:(op == 36)=false:=beq_eq_false_iff_ne.2 h36
 have e2:(op == 37)=false:=beq_eq_false_iff_ne.2 h37
 have e3:(op == 38)=false:=beq_eq_false_iff_ne.2 h38
 have e4:(op == 39)=false:=beq_eq_false_iff_ne.2 h39
 have e5:(op == 40)=false:=beq_eq_false_iff_ne.2 h40
 have e6:(op == 41)=false:=beq_eq_false_iff_ne.2 h41
 have hf:Zpf op x y=(0#64,8):=by simp [Zpf,h36,h37,h38,h39,h40,h41]
 rw [hf]
 clear hf h36 h37 h38 h39 h40 h41
 go_enter Try.func98,Try.ntmps98
 go_wp2
 go_ret2
 exact ⟨Yh rfl rfl,0,rfl⟩
def Zax (op:Int):Prop:=∀ (x y:BitVec 64) (w:World),Calls Try.prog 87 #[.int .i64 op,.int .i64 x.toInt,.int .i64 y.toInt] w fun e w'=>e = .returned (.tuple #[.int .i64 (two op x y).1.toInt,.int .i64 (two op x y).2])/\Yyt w w'
theorem Yul:Zax 20:=by
 intro x y w
 go_enter Try.func87,Try.ntmps87
 go_wp2_with (go_at_call 97;refine (Yw _ _).mono ?_;rintro e w' ⟨rfl,rfl⟩)
 go_ret2
 exact ⟨Yh (Yzn x y) rfl,0,rfl⟩
theorem Yuk:Zax 21:=by
 intro x y w
 go_enter Try.func87,Try.ntmps87
 go_wp2_with (go_at_call 97;refine (Yw _ _).mono ?_;rintro e w' ⟨rfl,rfl⟩)
 go_ret2
 exact ⟨Yh (Yze x y) rfl,0,rfl⟩
theorem Yuj:Zax 22:=by
 intro x y w
 go_enter Try.func87,Try.ntmps87
 go_wp2_with (go_at_call 97;refine (Yw _ _).mono ?_;rintro e w' ⟨rfl,rfl⟩)
 go_ret2
 exact ⟨Yh (Yzm x y) rfl,0,rfl⟩
theorem Yug:Zax 25:=by
 intro x y w
 go_enter Try.func87,Try.ntmps87
 go_wp2_with (go_at_call 97;refine (Yw _ _).mono ?_;rintro e w' ⟨rfl,rfl⟩)
 go_ret2
 exact ⟨Yh (Ytv x y) rfl,0,rfl⟩
theorem Yuf:Zax 26:=by
 intro x y w
 go_enter Try.func87,Try.ntmps87
 go_wp2_with (go_at_call 97;refine (Yw _ _).mono ?_;rintro e w' ⟨rfl,rfl⟩)
 go_ret2
 exact ⟨Yh (Xce x y) rfl,0,rfl⟩
theorem Yue:Zax 27:=by
 intro x y w
 go_enter Try.func87,Try.ntmps87
 go_wp2_with (go_at_call 97;refine (Yw _ _).mono ?_;rintro e w' ⟨rfl,rfl⟩)
 go_ret2
 exact ⟨Yh (Ytu x y) rfl,0,rfl⟩
theorem Yua:Zax 31:=by
 intro x y w
 go_enter Try.func87,Try.ntmps87
 go_wp2_with (go_at_call 97;refine (Yw _ _).mono ?_;rintro e w' ⟨rfl,rfl⟩)
 go_ret2
 exact ⟨Yh (by rw [Xcg];rfl) rfl,0,rfl⟩
theorem Ytz:Zax 32:=by
 intro x y w
 go_enter Try.func87,Try.ntmps87
 go_wp2_with (go_at_call 97;refine (Yw _ _).mono ?_;rintro e w' ⟨rfl,rfl⟩)
 go_ret2
 exact ⟨Yh (by rw [Xcf];rfl) rfl,0,rfl⟩
theorem Yty:Zax 33:=by
 intro x y w
 go_enter Try.func87,Try.ntmps87
 go_wp2_with (go_at_call 97;refine (Yw _ _).mono ?_;rintro e w' ⟨rfl,rfl⟩)
 go_ret2
 exact ⟨Yh (by rw [Yzd];rfl) rfl,0,rfl⟩
theorem Yud:Zax 28:=by
 intro x y w
 have hb:=Ypl y
 have hk:y.toNat % 64<64:=Nat.mod_lt _ (by decide)
 have ht:two 28 x y=(x <<< (y.toNat % 64),0):=rfl
 rw [ht];clear ht
 generalize y.toNat % 64=k at *
 go_enter Try.func87,Try.ntmps87
 go_wp2_with (go_at_call 97;refine (Yw _ _).mono ?_;rintro e w' ⟨rfl,rfl⟩)
 go_ret2
 exact ⟨Yh (Yzg x k hk) rfl,0,rfl⟩
theorem Yuc:Zax 29:=by
 intro x y w
 have hb:=Ypl y
 have hk:y.toNat % 64<64:=Nat.mod_lt _ (by decide)
 have ht:two 29 x y=(x.sshiftRight (y.toNat % 64),0):=rfl
 rw [ht];clear ht
 generalize y.toNat % 64=k at *
 go_enter Try.func87,Try.ntmps87
 go_wp2_with (go_at_call 97;refine (Yw _ _).mono ?_;rintro e w' ⟨rfl,rfl⟩)
 go_ret2
 exact ⟨Yh (Yzh x k hk) rfl,0,rfl⟩
theorem Yub:Zax 30:=by
 intro x y w
 have hb:=Ypl y
 have hk:y.toNat % 64<64:=Nat.mod_lt _ (by decide)
 have hu:=Zln x
 have hx:=x.isLt
 have ht:two 30 x y=(x >>> (y.toNat % 64),0):=rfl
 rw [ht];clear ht
 have hfin:=Yzf x (y.toNat % 64) hk
 generalize y.toNat % 64=k at *
 generalize x.toNat=n at *
 have hfin:=Hq hfin
 go_enter Try.func87,Try.ntmps87
 go_wp2_with (go_at_call 97;refine (Yw _ _).mono ?_;rintro e w' ⟨rfl,rfl⟩)
 go_ret2
 trace_state
 exact ⟨Yh hfin.out rfl,0,rfl⟩
theorem Yui:Zax 23:=by
 intro x y w
 by_cases h0:y=0#64
 · subst h0
   have ht:two 23 x 0#64=(0#64,5):=rfl
   rw [ht];clear ht
   have hz:(0#64).toInt=0:=rfl
   rw [hz];clear hz
   go_enter Try.func87,Try.ntmps87
   go_wp2_with (go_at_call 97;refine (Yw _ _).mono ?_;rintro e w' ⟨rfl,rfl⟩)
   go_ret2
   exact ⟨Yh rfl rfl,0,rfl⟩
 · have ht:two 23 x y=(x.sdiv y,0):=by show (if y=0#64 then _ else _)=_;rw [if_neg h0]
   have hz:(y.toInt == 0)=false:=by
    rw [beq_eq_false_iff_ne];intro h;exact h0 (BitVec.toInt_inj.1 (by rw [h];rfl))
   have hne:y.toInt≠0:=by intro h;rw [h] at hz;cases hz
   rw [ht];clear ht h0
   go_enter Try.func87,Try.ntmps87
   go_wp2_with (go_at_call 97;refine (Yw _ _).mono ?_;rintro e w' ⟨rfl,rfl⟩)
   go_ret2
   exact ⟨Yh (Yzj x y) rfl,0,rfl⟩
theorem Yuh:Zax 24:=by
 intro x y w
 by_cases h0:y=0#64
 · subst h0
   have ht:two 24 x 0#64=(0#64,5):=rfl
   rw [ht];clear ht
   have hz:(0#64).toInt=0:=rfl
   rw [hz];clear hz
   go_enter Try.func87,Try.ntmps87
   go_wp2_with (go_at_call 97;refine (Yw _ _).mono ?_;rintro e w' ⟨rfl,rfl⟩)
   go_ret2
   exact ⟨Yh rfl rfl,0,rfl⟩
 · have ht:two 24 x y=(x.srem y,0):=by show (if y=0#64 then _ else _)=_;rw [if_neg h0]
   have hz:(y.toInt == 0)=false:=by
    rw [beq_eq_false_iff_ne];intro h;exact h0 (BitVec.toInt_inj.1 (by rw [h];rfl))
   have hne:y.toInt≠0:=by intro h;rw [h] at hz;cases hz
   rw [ht];clear ht h0
   go_enter Try.func87,Try.ntmps87
   go_wp2_with (go_at_call 97;refine (Yw _ _).mono ?_;rintro e w' ⟨rfl,rfl⟩)
   go_ret2
   exact ⟨Yh (Yzi x y) rfl,0,rfl⟩
theorem Zpp (op:Int):Zax op:=by
 by_cases h20:op=20
 · subst h20;exact Yul
 by_cases h21:op=21
 · subst h21;exact Yuk
 by_cases h22:op=22
 · subst h22;exact Yuj
 by_cases h23:op=23
 · subst h23;exact Yui
 by_cases h24:op=24
 · subst h24;exact Yuh
 by_cases h25:op=25
 · subst h25;exact Yug
 by_cases h26:op=26
 · subst h26;exact Yuf
 by_cases h27:op=27
 · subst h27;exact Yue
 by_cases h28:op=28
 · subst h28;exact Yud
 by_cases h29:op=29
 · subst h29;exact Yuc
 by_cases h30:op=30
 · subst h30;exact Yub
 by_cases h31:op=31
 · subst h31;exact Yua
 by_cases h32:op=32
 · subst h32;exact Ytz
 by_cases h33:op=33
 · subst h33;exact Yty
 intro x y w
 have e20:(op == 20)=false:=beq_eq_false_iff_ne.2 h20
 have e21:(op == 21)=false:=beq_eq_false_iff_ne.2 h21
 have e22:(op == 22)=false:=beq_eq_false_iff_ne.2 h22
 have e23:(op == 23)=false:=beq_eq_false_iff_ne.2 h23
 have e24:(op == 24)=false:=beq_eq_false_iff_ne.2 h24
 have e25:(op == 25)=false:=beq_eq_false_iff_ne.2 h25
 have e26:(op == 26)=false:=beq_eq_false_iff_ne.2 h26
 have e27:(op == 27)=false:=beq_eq_false_iff_ne.2 h27
 have e28:(op == 28)=false:=beq_eq_false_iff_ne.2 h28
 have e29:(op == 29)=false:=beq_eq_false_iff_ne.2 h29
 have e30:(op == 30)=false:=beq_eq_false_iff_ne.2 h30
 have e31:(op == 31)=false:=beq_eq_false_iff_ne.2 h31
 have e32:(op == 32)=false:=beq_eq_false_iff_ne.2 h32
 have e33:(op == 33)=false:=beq_eq_false_iff_ne.2 h33
 have hf:two op x y=Zpf op x.toNat y.toNat:=by simp [two,h20,h21,h22,h23,h24,h25,h26,h27,h28,h29,h30,h31,h32,h33]
 rw [hf]
 clear hf h20 h21 h22 h23 h24 h25 h26 h27 h28 h29 h30 h31 h32 h33
 go_enter Try.func87,Try.ntmps87
 go_wp2_with (first|(go_at_call 93;refine (Zac _ _).mono ?_;rintro e w' ⟨rfl,rfl⟩)|(go_at_call 98;refine (Ybv _ _ _ _).mono ?_;rintro e w' ⟨rfl,n,rfl⟩))
 go_ret2
 exact ⟨Yh rfl rfl,n,rfl⟩
open Ieee
theorem Yox:double.signWeight=9223372036854775808:=by decide
theorem Zzy:double.binade=4503599627370496:=by decide
theorem Yxp:double.infRung=9218868437227405312:=by decide
theorem Yic:double.leastPlace = -1074:=by decide
def val (r:Nat):Nat:=if r<4503599627370496 then r else (4503599627370496+r % 4503599627370496)*2 ^ (r / 4503599627370496 - 1)
theorem Yod {r s:Nat} (h:r<s):val r<val s:=by
 unfold val
 by_cases h1:s<4503599627370496
 · rw [if_pos (by omega),if_pos h1];exact h
 · rw [if_neg h1]
   have hp:0<2 ^ (s / 4503599627370496 - 1):=Nat.two_pow_pos _
   by_cases h2:r<4503599627370496
   · rw [if_pos h2]
     calc r<4503599627370496+s % 4503599627370496:=by omega
      _=(4503599627370496+s % 4503599627370496)*1:=by omega
      _<=_:=Nat.mul_le_mul_left _ hp
   · rw [if_neg h2]
     by_cases h3:r / 4503599627370496=s / 4503599627370496
     · rw [h3];refine Nat.mul_lt_mul_of_pos_right ?_ hp
       omega
     · have h4:r / 4503599627370496+1<=s / 4503599627370496:=by omega
       have h5:1<=r / 4503599627370496:=by omega
       calc (4503599627370496+r % 4503599627370496)*2 ^ (r / 4503599627370496 - 1)<(4503599627370496*2)*2 ^ (r / 4503599627370496 - 1):=by
             refine Nat.mul_lt_mul_of_pos_right ?_ (Nat.two_pow_pos _)
             have:r % 4503599627370496<4503599627370496:=Nat.mod_lt _ (by decide)
             omega
        _=4503599627370496*2 ^ (r / 4503599627370496):=by rw [Nat.mul_assoc,<- Nat.pow_succ'];congr 2;omega
        _<=4503599627370496*2 ^ (s / 4503599627370496 - 1):=Nat.mul_le_mul_left _ (Nat.pow_le_pow_right (by decide) (by omega))
        _<=_:=Nat.mul_le_mul_right _ (by omega)
theorem Ypm (r s:Nat):compare (val r) (val s)=compare r s:=by
 rcases Nat.lt_trichotomy r s with h|h|h
 · rw [Nat.compare_eq_lt.2 h,Nat.compare_eq_lt.2 (Yod h)]
 · subst h;simp
 · rw [Nat.compare_eq_gt.2 h,Nat.compare_eq_gt.2 (Yod h)]
def mg (r:Nat):Nat:=if r<4503599627370496 then r else 4503599627370496+r % 4503599627370496
def pl (r:Nat):Nat:=if r<4503599627370496 then 0 else r / 4503599627370496 - 1
theorem Yoc (r:Nat):val r=mg r*2 ^ pl r:=by
 unfold val mg pl;split <;> simp
def ng (b:Nat):Bool:=b / 9223372036854775808 % 2 == 1
theorem Zif (b:Nat) (h:b % 9223372036854775808<9218868437227405312):double.read b = .number (ng b) (mg (b % 9223372036854775808)) (-1074+(pl (b % 9223372036854775808):Int)):=by
 unfold Format.read mg pl ng
 rw [Yox,Zzy,Yxp,Yic]
 dsimp only
 split
 · rename_i h1;rfl
 · rename_i h1;rfl
theorem Zkw (b:Nat) (h:b % 9223372036854775808=9218868437227405312):double.read b = .infinity (ng b):=by
 unfold Format.read ng
 rw [Yox,Zzy,Yxp,Yic]
 dsimp only
 rw [if_neg (by omega),if_neg (by omega),if_pos h]
def Zdd (b:Nat):Int:=if ng b then -((b % 9223372036854775808:Nat):Int) else ((b % 9223372036854775808:Nat):Int)
theorem Zsu (s:Bool) (m k:Nat):signed s m k=if s then -((m*2 ^ k:Nat):Int) else ((m*2 ^ k:Nat):Int):=by
 unfold signed;rw [Nat.shiftLeft_eq]
theorem Ycf (s t:Bool) (a b r q:Nat) (h:compare a b=compare r q) (ha:a=0 ↔ r=0) (hb:b=0 ↔ q=0) :
 compare (if s then -(a:Int) else (a:Int)) (if t then -(b:Int) else (b:Int))=compare (if s then -(r:Int) else (r:Int)) (if t then -(q:Int) else (q:Int)):=by
 have h1:a<b ↔ r<q:=by rw [<- Nat.compare_eq_lt,h,Nat.compare_eq_lt]
 have h2:b<a ↔ q<r:=by rw [<- Nat.compare_eq_gt,h,Nat.compare_eq_gt]
 have key:∀ x y u v:Int,(x<y ↔ u<v)->(y<x ↔ v<u)->compare x y=compare u v:=by
  intro x y u v e1 e2
  simp only [compare,compareOfLessAndEq]
  by_cases c1:x<y
  · rw [if_pos c1,if_pos (e1.1 c1)]
  · rw [if_neg c1,if_neg (fun c=>c1 (e1.2 c))]
    by_cases c2:x=y
    · rw [if_pos c2,if_pos (by omega)]
    · rw [if_neg c2,if_neg (by omega)]
 apply key
 · cases s <;> cases t <;> simp <;> omega
 · cases s <;> cases t <;> simp <;> omega
theorem Zuz (a b k:Nat):compare (a*2 ^ k) (b*2 ^ k)=compare a b:=by
 have hp:0<2 ^ k:=Nat.two_pow_pos _
 rcases Nat.lt_trichotomy a b with h|h|h
 · rw [Nat.compare_eq_lt.2 h,Nat.compare_eq_lt.2 (Nat.mul_lt_mul_of_pos_right h hp)]
 · subst h;simp
 · rw [Nat.compare_eq_gt.2 h,Nat.compare_eq_gt.2 (Nat.mul_lt_mul_of_pos_right h hp)]
theorem Yol (r:Nat) (k:Nat):mg r*2 ^ k=0 ↔ r=0:=by
 have hp:0<2 ^ k:=Nat.two_pow_pos _
 unfold mg;split
 · constructor
   · intro h;rcases Nat.mul_eq_zero.1 h with h|h <;> omega
   · intro h;subst h;simp
 · constructor
   · intro h;rcases Nat.mul_eq_zero.1 h with h|h <;> omega
   · intro h;omega
theorem Zzz {a b:Int} (h:a<b):compare a b = .lt:=by simp only [compare,compareOfLessAndEq];rw [if_pos h]
theorem Yaa {a b:Int} (h:b<a):compare a b = .gt:=by simp only [compare,compareOfLessAndEq];rw [if_neg (by omega),if_neg (by omega)]
theorem Zop (x y:Nat) (hx:nan x=false) (hy:nan y=false):double.order x y=some (compare (Zdd x) (Zdd y)):=by
 have hx':x % 9223372036854775808<=9218868437227405312:=by unfold nan at hx;simpa using hx
 have hy':y % 9223372036854775808<=9218868437227405312:=by unfold nan at hy;simpa using hy
 unfold Format.order Zdd
 rcases Nat.lt_or_eq_of_le hx' with h1|h1 <;> rcases Nat.lt_or_eq_of_le hy' with h2|h2
 · rw [Zif x h1,Zif y h2]
   simp only [Datum.order,Zsu]
   congr 1
   refine Ycf _ _ _ _ _ _ ?_ (Yol _ _) (Yol _ _)
   rw [<- Ypm (x % 9223372036854775808) (y % 9223372036854775808),Yoc,Yoc]
   generalize pl (x % 9223372036854775808)=i;generalize pl (y % 9223372036854775808)=j
   rcases Nat.le_total i j with hij|hij
   · rw [show ((-1074+(i:Int)) - min (-1074+(i:Int)) (-1074+(j:Int))).toNat=0 from by omega,
      show ((-1074+(j:Int)) - min (-1074+(i:Int)) (-1074+(j:Int))).toNat=j - i from by omega,<- Zuz _ _ i]
     congr 1
     · simp
     · rw [Nat.mul_assoc,<- Nat.pow_add,Nat.sub_add_cancel hij]
   · rw [show ((-1074+(i:Int)) - min (-1074+(i:Int)) (-1074+(j:Int))).toNat=i - j from by omega,
      show ((-1074+(j:Int)) - min (-1074+(i:Int)) (-1074+(j:Int))).toNat=0 from by omega,<- Zuz _ _ j]
     congr 1
     · rw [Nat.mul_assoc,<- Nat.pow_add,Nat.sub_add_cancel hij]
     · simp
 · rw [Zif x h1,Zkw y h2,h2]
   simp only [Datum.order]
   congr 1
   cases ng y
   · exact (Zzz (by cases ng x <;> simp <;> omega)).symm
   · exact (Yaa (by cases ng x <;> simp <;> omega)).symm
 · rw [Zkw x h1,Zif y h2,h1]
   simp only [Datum.order]
   congr 1
   cases ng x
   · exact (Yaa (by cases ng y <;> simp <;> omega)).symm
   · exact (Zzz (by cases ng y <;> simp <;> omega)).symm
 · rw [Zkw x h1,Zkw y h2,h1,h2]
   simp only [Datum.order]
   congr 1
   cases ng y <;> cases ng x <;> decide
theorem Yni (s:Bool) (n d:Nat):Toward.zero.cut s n d=n / 2 ^ d:=by
 unfold Toward.cut
 simp only [Nat.shiftLeft_eq,Nat.one_mul,Bool.toNat_false,Nat.add_zero]
 rcases Nat.le_total d (n.log2+2) with h|h
 · rw [Nat.min_eq_left h]
 · rw [Nat.min_eq_right h]
   have h1:n<2 ^ (n.log2+1):=Nat.lt_log2_self
   have h2:2 ^ (n.log2+1)<=2 ^ (n.log2+2):=Nat.pow_le_pow_right (by decide) (by omega)
   have h3:2 ^ (n.log2+2)<=2 ^ d:=Nat.pow_le_pow_right (by decide) h
   rw [Nat.div_eq_of_lt (by omega),Nat.div_eq_of_lt (by omega)]
def Zvv (r:Nat):Nat:=if 1074<=pl r then mg r*2 ^ (pl r - 1074) else mg r / 2 ^ (1074 - pl r)
def Zby (b:Nat):Int:=if ng b then -(Zvv (b % 9223372036854775808):Int) else (Zvv (b % 9223372036854775808):Int)
theorem Ydf (b:Nat) (h:b % 9223372036854775808<9218868437227405312):(double.read b).toInt .zero=some (Zby b):=by
 rw [Zif b h]
 simp only [Datum.toInt,Datum.integral,Yni,Zsu,Nat.pow_zero,Nat.mul_one]
 congr 1
 have:(mg (b % 9223372036854775808) <<< (-1074+(pl (b % 9223372036854775808):Int)).toNat) / 2 ^ (-(-1074+(pl (b % 9223372036854775808):Int))).toNat=Zvv (b % 9223372036854775808):=by
  unfold Zvv
  generalize pl (b % 9223372036854775808)=k
  rw [Nat.shiftLeft_eq]
  split
  · rw [show (-1074+(k:Int)).toNat=k - 1074 from by omega,show (-(-1074+(k:Int))).toNat=0 from by omega];simp
  · rw [show (-1074+(k:Int)).toNat=0 from by omega,show (-(-1074+(k:Int))).toNat=1074 - k from by omega];simp
 rw [this];rfl
theorem Xaz (r:Nat):mg r<9007199254740992:=by
 unfold mg;have:r % 4503599627370496<4503599627370496:=Nat.mod_lt _ (by decide)
 split <;> omega
theorem Zyb (r:Nat) (h:r<4890909195324358656):Zvv r<9223372036854775808:=by
 have h1:=Xaz r
 have h2:pl r<=1084:=by unfold pl;split <;> omega
 unfold Zvv
 split
 · calc mg r*2 ^ (pl r - 1074)<9007199254740992*2 ^ (pl r - 1074):=Nat.mul_lt_mul_of_pos_right h1 (Nat.two_pow_pos _)
    _<=9007199254740992*2 ^ 10:=Nat.mul_le_mul_left _ (Nat.pow_le_pow_right (by decide) (by omega))
    _=9223372036854775808:=by decide
 · exact Nat.lt_of_le_of_lt (Nat.div_le_self _ _) (by omega)
theorem Yam:Zvv 4890909195324358656=9223372036854775808:=by decide
def toI (b:Nat):BitVec 64 × Int :=
 if nan b=true\/4890909195324358656<=Zdd b\/Zdd b < -4890909195324358656 then (0#64,6) else (BitVec.ofInt 64 (Zby b),0)
theorem Zlj (b:Nat) (h1:Zdd b<4890909195324358656) (h2 : -4890909195324358656<=Zdd b) :
 -9223372036854775808<=Zby b/\Zby b<=9223372036854775807:=by
 unfold Zdd at h1 h2;unfold Zby
 by_cases hs:ng b=true
 · rw [if_pos hs] at h1 h2;rw [if_pos hs]
   rcases Nat.lt_or_eq_of_le (show b % 9223372036854775808<=4890909195324358656 by omega) with h|h
   · have:=Zyb _ h;omega
   · rw [h,Yam];omega
 · rw [if_neg hs] at h1 h2;rw [if_neg hs]
   have:=Zyb (b % 9223372036854775808) (by omega);omega
theorem fti (b:Nat) (h0:nan b=false) (h1:Zdd b<4890909195324358656) (h2 : -4890909195324358656<=Zdd b) :
 floatToIntVal .f64 b .i64=some (Zby b):=by
 have hr:b % 9223372036854775808<9218868437227405312:=by
  unfold nan at h0;simp at h0
  unfold Zdd at h1 h2;split at h1 <;> split at h2 <;> omega
 unfold floatToIntVal
 rw [show FloatKind.decode .f64 b=double.read b from rfl,Ydf b hr]
 have:=Zlj b h1 h2
 dsimp only
 rw [if_pos]
 rw [show IntKind.i64.min = -9223372036854775808 from by decide,show IntKind.i64.max=9223372036854775807 from by decide]
 exact this
theorem Ysv (b:Nat) (h0:nan b=false):double.order b 4890909195324358656=some (compare (Zdd b) 4890909195324358656):=by
 rw [Zop b _ h0 (by decide)];rfl
theorem Yhz (b:Nat) (h0:nan b=false):double.order b 14114281232179134464=some (compare (Zdd b) (-4890909195324358656)):=by
 rw [Zop b _ h0 (by decide)];rfl
def Ybf (op:Int) (x:BitVec 64):BitVec 64 × Int :=
 if op=34 then (-x,0)
 else if op=35 then (~~~x,0)
 else if op=42 then (Zsl (Xca x.toNat),0)
 else if op=43 then (Zbf (double.sqrt x.toNat),0)
 else if op=44 then (Zsl (FloatKind.f64.nearest x.toInt),0)
 else if op=45 then toI x.toNat
 else (0#64,8)
open Go.Op
theorem Zcr (b:Nat) (w:World):Calls Try.prog 95 #[.float .f64 b] w fun e w'=>(∃ r,e = .returned (.float .f64 r)/\Zsl r=Zbf (Ieee.double.sqrt b))/\Yyt w w':=by
 cases hr:Ieee.double.sqrt b with
 | some r =>
   have h:=fun w=>Zpz b r hr w
   clear hr
   go_enter Try.func95,Try.ntmps95
   go_wp2
   go_ret
   exact ⟨⟨r,rfl,rfl⟩,0,rfl⟩
 | none =>
   have h:=fun w=>Zqa b hr w
   clear hr
   go_enter Try.func95,Try.ntmps95
   go_wp2
   go_ret
   exact ⟨⟨_,rfl,Zce _⟩,1,rfl⟩
def Zhr (op:Int):Prop:=∀ (x:BitVec 64) (w:World),Calls Try.prog 84 #[.int .i64 op,.int .i64 x.toInt] w fun e w'=>e = .returned (.tuple #[.int .i64 (Ybf op x).1.toInt,.int .i64 (Ybf op x).2])/\Yyt w w'
theorem Yvu:Zhr 34:=by
 intro x w
 go_enter Try.func84,Try.ntmps84
 go_wp2_with (first|(go_at_call 93;refine (Zac _ _).mono ?_;rintro e w' ⟨rfl,rfl⟩)|(go_at_call 94;refine (Xy _ _).mono ?_;rintro e w' ⟨rfl,rfl⟩)|(go_at_call 96;refine (Zaa _ _).mono ?_;rintro e w' ⟨rfl,rfl⟩)|(go_at_call 95;refine (Zcr _ _).mono ?_;rintro e w' ⟨⟨r,rfl,hr⟩,n,rfl⟩;have Hr:=Hq hr;clear hr))
 go_ret2
 exact ⟨Yh (Yzl x) rfl,0,rfl⟩
theorem Yvt:Zhr 35:=by
 intro x w
 go_enter Try.func84,Try.ntmps84
 go_wp2_with (first|(go_at_call 93;refine (Zac _ _).mono ?_;rintro e w' ⟨rfl,rfl⟩)|(go_at_call 94;refine (Xy _ _).mono ?_;rintro e w' ⟨rfl,rfl⟩)|(go_at_call 96;refine (Zaa _ _).mono ?_;rintro e w' ⟨rfl,rfl⟩)|(go_at_call 95;refine (Zcr _ _).mono ?_;rintro e w' ⟨⟨r,rfl,hr⟩,n,rfl⟩;have Hr:=Hq hr;clear hr))
 go_ret2
 exact ⟨Yh (Yzk x) rfl,0,rfl⟩
theorem Yvs:Zhr 42:=by
 intro x w
 have h:∀ w,(unary .neg (.float .f64 x.toNat)).run Try.prog w = .ok (.float .f64 (Xca x.toNat)) w:=fun w=>rfl
 go_enter Try.func84,Try.ntmps84
 go_wp2_with (first|(go_at_call 93;refine (Zac _ _).mono ?_;rintro e w' ⟨rfl,rfl⟩)|(go_at_call 94;refine (Xy _ _).mono ?_;rintro e w' ⟨rfl,rfl⟩)|(go_at_call 96;refine (Zaa _ _).mono ?_;rintro e w' ⟨rfl,rfl⟩)|(go_at_call 95;refine (Zcr _ _).mono ?_;rintro e w' ⟨⟨r,rfl,hr⟩,n,rfl⟩;have Hr:=Hq hr;clear hr))
 go_ret2
 exact ⟨Yh (rfl) rfl,0,rfl⟩
theorem Yvr:Zhr 43:=by
 intro x w
 go_enter Try.func84,Try.ntmps84
 go_wp2_with (first|(go_at_call 93;refine (Zac _ _).mono ?_;rintro e w' ⟨rfl,rfl⟩)|(go_at_call 94;refine (Xy _ _).mono ?_;rintro e w' ⟨rfl,rfl⟩)|(go_at_call 96;refine (Zaa _ _).mono ?_;rintro e w' ⟨rfl,rfl⟩)|(go_at_call 95;refine (Zcr _ _).mono ?_;rintro e w' ⟨⟨r,rfl,hr⟩,n,rfl⟩;have Hr:=Hq hr;clear hr))
 go_ret2
 exact ⟨Yh (by rw [Hr.out];rfl) rfl,n,rfl⟩
theorem Yvq:Zhr 44:=by
 intro x w
 go_enter Try.func84,Try.ntmps84
 go_wp2_with (first|(go_at_call 93;refine (Zac _ _).mono ?_;rintro e w' ⟨rfl,rfl⟩)|(go_at_call 94;refine (Xy _ _).mono ?_;rintro e w' ⟨rfl,rfl⟩)|(go_at_call 96;refine (Zaa _ _).mono ?_;rintro e w' ⟨rfl,rfl⟩)|(go_at_call 95;refine (Zcr _ _).mono ?_;rintro e w' ⟨⟨r,rfl,hr⟩,n,rfl⟩;have Hr:=Hq hr;clear hr))
 go_ret2
 exact ⟨Yh (rfl) rfl,0,rfl⟩
theorem Yvp:Zhr 45:=by
 intro x w
 have ht:Ybf 45 x=toI x.toNat:=rfl
 rw [ht];clear ht
 unfold toI
 by_cases h0:nan x.toNat=true
 · rw [if_pos (Or.inl h0)]
   go_enter Try.func84,Try.ntmps84
   go_wp2_with (first|(go_at_call 93;refine (Zac _ _).mono ?_;rintro e w' ⟨rfl,rfl⟩)|(go_at_call 94;refine (Xy _ _).mono ?_;rintro e w' ⟨rfl,rfl⟩)|(go_at_call 96;refine (Zaa _ _).mono ?_;rintro e w' ⟨rfl,rfl⟩)|(go_at_call 95;refine (Zcr _ _).mono ?_;rintro e w' ⟨⟨r,rfl,hr⟩,n,rfl⟩;have Hr:=Hq hr;clear hr))
   go_ret2
   exact ⟨Yh rfl rfl,0,rfl⟩
 · have h0:nan x.toNat=false:=by simpa using h0
   have e1:=Ysv x.toNat h0
   have e2:=Yhz x.toNat h0
   by_cases h1:4890909195324358656<=Zdd x.toNat
   · rw [if_pos (Or.inr (Or.inl h1))]
     have g1:(FloatKind.f64.format.order x.toNat 4890909195324358656 == some .gt || FloatKind.f64.format.order x.toNat 4890909195324358656 == some .eq)=true:=by
      show (Ieee.double.order x.toNat 4890909195324358656 == some .gt || Ieee.double.order x.toNat 4890909195324358656 == some .eq)=true
      rw [e1]
      rcases Int.lt_or_eq_of_le h1 with h|h
      · rw [Yaa h];rfl
      · rw [<- h];decide
     clear e1 e2 h1
     go_enter Try.func84,Try.ntmps84
     go_wp2_with (first|(go_at_call 93;refine (Zac _ _).mono ?_;rintro e w' ⟨rfl,rfl⟩)|(go_at_call 94;refine (Xy _ _).mono ?_;rintro e w' ⟨rfl,rfl⟩)|(go_at_call 96;refine (Zaa _ _).mono ?_;rintro e w' ⟨rfl,rfl⟩)|(go_at_call 95;refine (Zcr _ _).mono ?_;rintro e w' ⟨⟨r,rfl,hr⟩,n,rfl⟩;have Hr:=Hq hr;clear hr))
     go_ret2
     exact ⟨Yh rfl rfl,0,rfl⟩
   · have h1:Zdd x.toNat<4890909195324358656:=by omega
     have g1:(FloatKind.f64.format.order x.toNat 4890909195324358656 == some .gt || FloatKind.f64.format.order x.toNat 4890909195324358656 == some .eq)=false:=by
      show (Ieee.double.order x.toNat 4890909195324358656 == some .gt || Ieee.double.order x.toNat 4890909195324358656 == some .eq)=false
      rw [e1,Zzz h1];rfl
     by_cases h2:Zdd x.toNat < -4890909195324358656
     · rw [if_pos (Or.inr (Or.inr h2))]
       have g2:(FloatKind.f64.format.order x.toNat 14114281232179134464 == some .lt)=true:=by
        show (Ieee.double.order x.toNat 14114281232179134464 == some .lt)=true
        rw [e2,Zzz h2];rfl
       clear e1 e2 h1 h2
       go_enter Try.func84,Try.ntmps84
       go_wp2_with (first|(go_at_call 93;refine (Zac _ _).mono ?_;rintro e w' ⟨rfl,rfl⟩)|(go_at_call 94;refine (Xy _ _).mono ?_;rintro e w' ⟨rfl,rfl⟩)|(go_at_call 96;refine (Zaa _ _).mono ?_;rintro e w' ⟨rfl,rfl⟩)|(go_at_call 95;refine (Zcr _ _).mono ?_;rintro e w' ⟨⟨r,rfl,hr⟩,n,rfl⟩;have Hr:=Hq hr;clear hr))
       go_ret2
       exact ⟨Yh rfl rfl,0,rfl⟩
     · have h2 : -4890909195324358656<=Zdd x.toNat:=by omega
       rw [if_neg (by rw [h0];simp;omega)]
       have g2:(FloatKind.f64.format.order x.toNat 14114281232179134464 == some .lt)=false:=by
        show (Ieee.double.order x.toNat 14114281232179134464 == some .lt)=false
        rw [e2]
        rcases Int.lt_or_eq_of_le h2 with h|h
        · rw [Yaa h];rfl
        · rw [<- h];decide
       have hin:=Zlj x.toNat h1 h2
       have hc:=fun w=>run_convert_float_int (P:=Try.prog) w 150 3 .f64 .i64 x.toNat (Zby x.toNat) (by rw [Try.underlying150];rfl) Try.underlying3 (fti x.toNat h0 h1 h2)
       have hfin:Zby x.toNat=(BitVec.ofInt 64 (Zby x.toNat)).toInt:=by
        rw [toInt_ofInt];unfold wrap64;omega
       generalize Zby x.toNat=n at *
       have Hfin:=Hq hfin
       clear e1 e2 h1 h2 hfin hin
       go_enter Try.func84,Try.ntmps84
       go_wp2_with (first|(go_at_call 93;refine (Zac _ _).mono ?_;rintro e w' ⟨rfl,rfl⟩)|(go_at_call 94;refine (Xy _ _).mono ?_;rintro e w' ⟨rfl,rfl⟩)|(go_at_call 96;refine (Zaa _ _).mono ?_;rintro e w' ⟨rfl,rfl⟩)|(go_at_call 95;refine (Zcr _ _).mono ?_;rintro e w' ⟨⟨r,rfl,hr⟩,n,rfl⟩;have Hr:=Hq hr;clear hr))
       go_ret2
       exact ⟨Yh Hfin.out rfl,0,rfl⟩
theorem Zqp (op:Int):Zhr op:=by
 by_cases h34:op=34
 · subst h34;exact Yvu
 by_cases h35:op=35
 · subst h35;exact Yvt
 by_cases h42:op=42
 · subst h42;exact Yvs
 by_cases h43:op=43
 · subst h43;exact Yvr
 by_cases h44:op=44
 · subst h44;exact Yvq
 by_cases h45:op=45
 · subst h45;exact Yvp
 intro x w
 have e34:(op == 34)=false:=beq_eq_false_iff_ne.2 h34
 have e35:(op == 35)=false:=beq_eq_false_iff_ne.2 h35
 have e42:(op == 42)=false:=beq_eq_false_iff_ne.2 h42
 have e43:(op == 43)=false:=beq_eq_false_iff_ne.2 h43
 have e44:(op == 44)=false:=beq_eq_false_iff_ne.2 h44
 have e45:(op == 45)=false:=beq_eq_false_iff_ne.2 h45
 have hf:Ybf op x=(0#64,8):=by simp [Ybf,h34,h35,h42,h43,h44,h45]
 rw [hf]
 clear hf h34 h35 h42 h43 h44 h45
 go_enter Try.func84,Try.ntmps84
 go_wp2_with (go_at_call 93;refine (Zac _ _).mono ?_;rintro e w' ⟨rfl,rfl⟩)
 go_ret2
 exact ⟨Yh rfl rfl,0,rfl⟩
open Go.Great
def tabI:List Int:=[0,0,0,0,0,0,0,0,0,0,0,0,0,0,0,0,0,0,0,0,2,2,2,2,2,2,2,2,2,2,2,2,2,2,1,1,2,2,2,2,2,2,1,1,1,1]
def opn (op:Int):Int:=if op<0 then 0 else tabI.getD op.toNat 0
theorem Yeq (op:Int) (h:op<0\/46<=op):opn op=0:=by
 unfold opn
 by_cases c:op<0
 · rw [if_pos c]
 · rw [if_neg c,List.getD_eq_getElem?_getD,List.getElem?_eq_none (by show 46<=op.toNat;omega)];rfl
def tab46:Array Value:=(tabI.map (fun n=>Value.int .i64 n)).toArray
def Zny:Array Value:=(List.replicate 46 (Value.int .i64 0)).toArray
theorem Yka (k:Nat) (hk:k<46):tab46[k]? = some (Value.int .i64 (opn k)):=by
 unfold tab46
 have hk2:k<tabI.length:=hk
 rw [List.getElem?_toArray,List.getElem?_map,List.getElem?_eq_getElem hk2]
 unfold opn
 rw [if_neg (by omega),Int.toNat_natCast,List.getD_eq_getElem?_getD,List.getElem?_eq_getElem hk2];rfl
theorem Zwm (w:World) (c:Array Value) (t:TypeId):(w.alloc (.cells c t)).heap[w.heap.size]? = some (.cells c t (0,0)):=by
 rw [show (w.alloc (.cells c t)).heap=w.heap.push (.cells c t) from rfl];simp
theorem Zjh (w:World) (c d:Array Value) (t:TypeId):(w.alloc (.cells c t)).setRow w.heap.size d=w.alloc (.cells d t):=by
 unfold World.setRow World.alloc
 congr 1
 apply Array.ext_getElem?
 intro i
 rw [Array.getElem?_modify]
 rcases Nat.lt_trichotomy i w.heap.size with h|h|h
 · rw [if_neg (by omega)];simp [Array.getElem?_push,Nat.ne_of_lt h]
 · subst h;simp
 · rw [if_neg (by omega)];simp [Array.getElem?_push,Nat.ne_of_gt h]
theorem Ztk (op:Int) (h1:op<0) (w:World):Calls Try.prog 92 #[.int .i64 op] w fun e w'=>e = .returned (.int .i64 (opn op))/\∃ c,w'=w.alloc (.cells c 159):=by
 rw [Yeq op (Or.inl h1)]
 go_enter Try.func92,Try.ntmps92
 go_wp2_with (first
  | (refine wpList_buildTo rfl 159 _ rfl (some 4) rfl tab46 (by kernel_rfl) ?_)
  | (refine wpList_allocTo rfl (some 3) rfl (.pointer (some ⟨w.heap.size,0,none⟩)) (.cells Zny 159) (by kernel_rfl) ?_)
  | (refine wpList_store_rowTo rfl 159 _ _ rfl rfl w.heap.size tab46 rfl rfl 159 Zny (Zwm w _ _) (by kernel_rfl) rfl (by kernel_rfl) ?_;rw [Zjh]))
 go_ret
 exact ⟨rfl,_,rfl⟩
theorem Ztm (op:Int) (h1:46<=op) (w:World):Calls Try.prog 92 #[.int .i64 op] w fun e w'=>e = .returned (.int .i64 (opn op))/\∃ c,w'=w.alloc (.cells c 159):=by
 rw [Yeq op (Or.inr h1)]
 go_enter Try.func92,Try.ntmps92
 go_wp2_with (first
  | (refine wpList_buildTo rfl 159 _ rfl (some 4) rfl tab46 (by kernel_rfl) ?_)
  | (refine wpList_allocTo rfl (some 3) rfl (.pointer (some ⟨w.heap.size,0,none⟩)) (.cells Zny 159) (by kernel_rfl) ?_)
  | (refine wpList_store_rowTo rfl 159 _ _ rfl rfl w.heap.size tab46 rfl rfl 159 Zny (Zwm w _ _) (by kernel_rfl) rfl (by kernel_rfl) ?_;rw [Zjh]))
 go_ret
 exact ⟨rfl,_,rfl⟩
theorem Ztl (k:Nat) (hk:k<46) (w:World):Calls Try.prog 92 #[.int .i64 (k:Int)] w fun e w'=>e = .returned (.int .i64 (opn k))/\∃ c,w'=w.alloc (.cells c 159):=by
 have hc:=Yka k hk
 have hsz:tab46.size=46:=rfl
 have hg:∀ h,tab46[k]'h=Value.int .i64 (opn k):=fun h=>(Array.getElem?_eq_some_iff.1 hc).2
 have HG:=Hq hg
 clear hc hg
 go_enter Try.func92,Try.ntmps92
 go_wp2_with (first
  | (refine wpList_buildTo rfl 159 _ rfl (some 4) rfl tab46 (by kernel_rfl) ?_)
  | (refine wpList_allocTo rfl (some 3) rfl (.pointer (some ⟨w.heap.size,0,none⟩)) (.cells Zny 159) (by kernel_rfl) ?_)
  | (refine wpList_store_rowTo rfl 159 _ _ rfl rfl w.heap.size tab46 rfl rfl 159 Zny (Zwm w _ _) (by kernel_rfl) rfl (by kernel_rfl) ?_;rw [Zjh]))
 go_ret
 exact ⟨congrArg Ending.returned (HG.out _),_,rfl⟩
theorem Zdp (op:Int) (w:World):Calls Try.prog 92 #[.int .i64 op] w fun e w'=>e = .returned (.int .i64 (opn op))/\∃ c,w'=w.alloc (.cells c 159):=by
 by_cases h1:op<0
 · exact Ztk op h1 w
 · by_cases h2:46<=op
   · exact Ztm op h2 w
   · obtain ⟨k,rfl⟩:=Int.eq_ofNat_of_zero_le (show 0<=op by omega)
     exact Ztl k (by omega) w
theorem Zrh (op:Int) (w:World):Calls Try.prog 86 #[.int .i64 op] w fun e w'=>e = .returned (.bool (opn op == 2))/\∃ c,w'=w.alloc (.cells c 159):=by
 have H:=Hq (Zdp op)
 generalize opn op=v at *
 go_enter Try.func86,Try.ntmps86
 go_wp2_with (go_at_call 92;refine (H.out _).mono ?_;rintro e w' ⟨rfl,c,rfl⟩)
 go_ret
 exact ⟨rfl,_,rfl⟩
theorem Zis (op:Int) (w:World):Calls Try.prog 83 #[.int .i64 op] w fun e w'=>e = .returned (.bool (opn op == 1))/\∃ c,w'=w.alloc (.cells c 159):=by
 have H:=Hq (Zdp op)
 generalize opn op=v at *
 go_enter Try.func83,Try.ntmps83
 go_wp2_with (go_at_call 92;refine (H.out _).mono ?_;rintro e w' ⟨rfl,c,rfl⟩)
 go_ret
 exact ⟨rfl,_,rfl⟩
end Go.Proofs.Ythlkflagancdfaa.CW
namespace Go.Proofs.Ythlkflagancdfaa.OT
open Go.Proofs.Ythlkflagancdfaa.CK (FnP)
structure Zaq where
 long:Nat
 put:List Ins
 what:Int
def Js (c:List Ins) (n:Nat):Option Zaq :=
 let x:=Zu c n
 if x.1=0 then some ⟨1,[],2⟩
 else if x.1=14/\x.2=(n:Int)+1 then some ⟨1,[],2⟩
 else if jmp x.1=true/\x.2=(n:Int)+1 then some ⟨1,[(4,0)],2⟩
 else if x.1=14/\((Zu c x.2.toNat).1=18\/(Zu c x.2.toNat).1=1\/(Zu c x.2.toNat).1=2) then some ⟨1,[Zu c x.2.toNat],3⟩
 else none
def wd (a:Int):BitVec 64:=BitVec.ofInt 64 a
def Jm (c:List Ins) (n long:Nat):Option Zaq :=
 let x:=Zu c n
 if x.1≠3\/long<2 then none
 else
  let y:=Zu c (n+1)
  let z:=Zu c (n+2)
  if y.1=15\/y.1=16 then (if (x.2=0 ↔ y.1=15) then some ⟨2,[(14,y.2)],4⟩ else some ⟨2,[],4⟩)
  else if CW.opn y.1=1 then (if (CW.Ybf y.1 (wd x.2)).2=0 then some ⟨2,[(3,(CW.Ybf y.1 (wd x.2)).1.toInt)],4⟩ else none)
  else if y.1=3/\3<=long/\CW.opn z.1=2 then (if (CW.two z.1 (wd x.2) (wd y.2)).2=0 then some ⟨3,[(3,(CW.two z.1 (wd x.2) (wd y.2)).1.toInt)],4⟩ else none)
  else if x.2=0/\y.1=31/\3<=long/\(z.1=15\/z.1=16) then some ⟨3,[(if z.1=16 then 15 else 16,z.2)],4⟩
  else if x.2=0/\(y.1=20\/y.1=21\/y.1=26\/y.1=27\/y.1=28\/y.1=29\/y.1=30) then some ⟨2,[],4⟩
  else if x.2=1/\(y.1=22\/y.1=23) then some ⟨2,[],4⟩
  else none
def Zde (c:List Ins) (n long:Nat):Option Zaq :=
 if long<2 then none
 else
  let x:=Zu c n
  let y:=Zu c (n+1)
  if (x.1=3\/x.1=13)/\y.1=4 then some ⟨2,[],5⟩
  else if x.1=7/\(y.1=4\/y=(8,x.2)) then some ⟨2,[],5⟩
  else if x.1=5/\x.2=0/\y.1=6 then some ⟨2,[x],5⟩
  else if x.1=5/\y.1=4 then some ⟨2,[],5⟩
  else if (x.1=6\/x.1=34\/x.1=35)/\x=y then some ⟨2,[],5⟩
  else none
def Zaz (c:List Ins) (n long:Nat):Option Zaq :=
 if 3<=long/\(Zu c n).1=8/\Zu c (n+1)=(7,(Zu c n).2)/\(Zu c (n+2)).1=18 then some ⟨3,[(18,0)],5⟩ else none
def Xn (c:List Ins) (n long:Nat):Option Zaq :=
 (Js c n).or ((Jm c n long).or ((Zde c n long).or (Zaz c n long)))
def Zba (c:List Ins) (k:Nat):Bool:=c.any fun x=>jmp x.1 && x.2 == (k:Int)
def Jl (c:List Ins) (n:Nat):Nat :=
 if n+1<c.length/\Zba c (n+1)=false then (if n+2<c.length/\Zba c (n+2)=false then 3 else 2) else 1
def Zid (c:List Ins):Nat->Nat->Option (Nat × Zaq)
 | 0,_=>none
 | r+1,n=>match Xn c n (Jl c n) with
   | some x=>some (n,x)
   | none=>Zid c r (n+1)
def Zqb:List FnP->Nat->Option (Nat × Nat × Zaq)
 | [],_=>none
 | f::r,i=>match Zid f.2.2.2 f.2.2.2.length 0 with
   | some (n,x)=>some (i,n,x)
   | none=>Zqb r (i+1)
def Zdo (at_ long many:Nat) (a:Int):Int:=if a<=at_ then a else if a<(at_:Int)+long then at_ else a - long+many
def Zbo (c:List Ins):List Ins->Nat->Option Nat
 | [],_=>none
 | x::r,n=>if jmp x.1=true/\((Zfm c x.2.toNat:Nat):Int)≠x.2 then some n else Zbo c r (n+1)
def Zcy:List FnP->Nat->Option (Nat × Nat)
 | [],_=>none
 | f::r,i=>match Zbo f.2.2.2 f.2.2.2 0 with
   | some n=>some (i,n)
   | none=>Zcy r (i+1)
def Zy (f:FnP) (c:List Ins):FnP:=(f.1,f.2.1,f.2.2.1,c)
def Zau (fs:List FnP):List FnP:=fs.map fun f=>Zy f (Xb f.2.2.2)
def Yo (b:Nat->Bool):Nat->Nat
 | 0=>0
 | k+1=>Yo b k+if b k=true then 1 else 0
def Zcn (hs:Nat->List Int) (V:List Bool):Nat->Nat->Option (Nat × Nat)
 | 0,_=>none
 | r+1,i=>if V.getD i false=false then some (i,0) else match (hs i).findIdx? (fun h=>decide (h<0)) with
   | some n=>some (i,n)
   | none=>Zcn hs V r (i+1)
open Go.RowKit Go.Great
open Go.Proofs.Ythlkflagancdfaa.CK
theorem Ys (op:Int) (w:World):Calls Try.prog 52 #[.int .i64 op] w fun e w'=>e = .returned (.bool (jmp op))/\w=w':=by
 by_cases h14:op=14
 · subst h14
   go_enter Try.func52,Try.ntmps52
   go_wp2
   go_ret
   exact ⟨rfl,rfl⟩
 · have e14:(op == 14)=false:=by simp [h14]
   by_cases h15:op=15
   · subst h15
     go_enter Try.func52,Try.ntmps52
     go_wp2
     go_ret
     exact ⟨rfl,rfl⟩
   · have e15:(op == 15)=false:=by simp [h15]
     have e:jmp op=(op == 16):=by unfold jmp;rw [e14,e15];rfl
     rw [e]
     clear e
     go_enter Try.func52,Try.ntmps52
     go_wp2
     go_ret
     first|exact ⟨rfl,rfl⟩|exact ⟨by simp,rfl⟩
theorem Zdg (v:Int) (w:World):Calls Try.prog 85 #[.int .i64 v] w fun e w'=>e = .returned (.slice (some ⟨w.heap.size,0,none⟩) 1 1)/\w'=w.alloc (.cells #[.int .i64 3,.int .i64 v] 49):=by
 go_enter Try.func85,Try.ntmps85
 go_wp2_with (refine wpList_buildSliceTo rfl 50 49 1 _ rfl _ rfl (some 5) rfl Try.underlying50 #[.int .i64 3,.int .i64 v] (by kernel_rfl) ?_)
 go_ret
 exact ⟨rfl,rfl⟩
end Go.Proofs.Ythlkflagancdfaa.OT
