/-
  Part of a proof: contracts of functions and lemmas, each stated by its own theorem. Conditions: as each theorem states.
-/
import Derived.Test.YteciblfmgdlipaaGreatDoorMR12
import Derived.Test.YteciblfmgdlipaaGreatDoorMR10
import Derived.Test.YteciblfmgdlipaaGreatDoorMR05
import Derived.Test.YteciblfmgdlipaaGreatDoorMR11
import Derived.Deep.Strs
import Derived.ChangeArms
import Derived.Test.YteciblfmgdlipaaGreatDoorMR03
import Derived.Test.YteciblfmgdlipaaGreatDoorMR04
import Derived.Lib.ItoaLen
set_option linter.unusedSimpArgs false
set_option linter.unusedVariables false
set_option maxRecDepth 100000
set_option maxHeartbeats 16000000
namespace Go.Proofs.YteciblfmgdlipaaGreatDoor.AS
open Go.RowKit Go.Great CK
theorem Ydb {T:Tab} {lb:List Txt} {r:List Pc} {x:Sd} (h:Zld T lb r=some x):∃ ins,x = .code lb ins:=by
 unfold Zld at h
 split at h
 · injection h with h;exact ⟨_,h.symm⟩
 · split at h
   · cases h
   · split at h
     · split at h
       · injection h with h;exact ⟨_,h.symm⟩
       · cases h
     · split at h
       · injection h with h;exact ⟨_,h.symm⟩
       · split at h
         · obtain ⟨y,_,h⟩:=Option.map_eq_some_iff.1 h
           exact ⟨_,h.symm⟩
         · split at h
           · injection h with h;exact ⟨_,h.symm⟩
           · cases h
       · cases h
 · cases h
theorem Ydc {line:Int} {c:CS} {x:Option Int} {ps:List Pc} (h:c.funcs.length=0):Zii line c x ps=none:=by
 unfold Zii
 split
 · split
   · rfl
   · rw [if_pos h]
 · rfl
theorem Zps {s:St} {lb:List Txt} {r:List Pc} {b:Bool} {line:Nat} (h:s.funcs.length=0):(match Zld TT lb r with|none=>(.error 141:Except Int St)|some x=>Zbx TT s x b line) = .error 141:=by
 cases hi:Zld TT lb r with
 | none=>rfl
 | some x =>
   obtain ⟨ins,rfl⟩:=Ydb hi
   have:Zel s (.code lb ins)=false:=by
    unfold Zel
    rw [(Zhf s).2 h];rfl
   simp only [Zbx,this]
   rfl
theorem Ztv {ps:List Pc} (h:∀ t r,ps ≠ .word t :: .colon::r):Yi ps=([],ps):=by
 unfold Yi
 split
 · exact absurd rfl (h _ _)
 · rfl
theorem Ycn (T:Tab) (u:Txt) (r:List Pc) (e:u=Xn):Zmc T (.word u::r)=(match r with|[.num n _]=>some (Sd.mem n)|_=>none):=if_pos e
theorem Zyi (T:Tab) (u:Txt) (r:List Pc) (e1:¬ u=Xn) (e:u=Zdm):Zmc T (.word u::r)=(match r with|[.str b]=>some (Sd.data b)|_=>none):=(if_neg e1).trans (if_pos e)
theorem Yhj (T:Tab) (u:Txt) (r:List Pc) (e1:¬ u=Xn) (e2:¬ u=Zdm) (e:u=Zdy):Zmc T (.word u::r)=(match r with|[.word nm,.num a _,.num l _,.num k _]=>some (Sd.fn nm a l k)|_=>none):=(if_neg e1).trans ((if_neg e2).trans (if_pos e))
theorem Ycm {c:CS} {s:St} (h:Rel c s) (line:Nat) (t:Txt):Zlw line c (lnC line c t) (Zyj TT s t line):=by
 unfold lnC Zyj
 cases hp:Zsn t with
 | none=>exact Or.inl ⟨rfl,rfl⟩
 | some ps =>
   show Zlw line c (Zfj line c none false ps) (match Zkk TT ps with|none => .error 141|some x=>Zbx TT s x (Zgc ps) line)
   cases ps with
   | nil =>
     rw [Jb _ _ _ _ _ (by intro t r e;cases e)]
     exact ⟨c,rfl,h⟩
   | cons q r =>
     by_cases hlab:∃ u r',q::r = .word u :: .colon::r'
     · obtain ⟨u,r',e⟩:=hlab
       rw [e]
       have hsaid:Zkk TT (.word u :: .colon::r')=Zld TT (u::(Yi r').1) (Yi r').2:=rfl
       have hbig:Zgc (.word u :: .colon::r')=Zgc (Yi r').2:=by rw [Zuj r'.length r' (Nat.le_refl _)];simp [Zgc]
       rw [hsaid,hbig]
       by_cases hf:s.funcs.length=0
       · rw [Zdn,if_pos (by rw [h.funcs];exact hf),Zps hf]
         exact Or.inl ⟨rfl,rfl⟩
       · have hb:=Zrz h line (u::(Yi r').1) (Yi r').2 hf (Or.inl (by simp))
         rw [Zsx line (r'.length+2) _ c none false (by simp) (by rw [h.funcs];exact hf)]
         have e2:Yi (.word u :: .colon::r')=(u::(Yi r').1,(Yi r').2):=rfl
         rw [e2]
         simp only [List.isEmpty_cons,Bool.not_false,Bool.or_true]
         cases hr:(Yi r').2 with
         | nil=>rw [hr] at hb;exact hb
         | cons a b=>rw [hr] at hb;rw [Zyk];exact hb
     · have hl0:Yi (q::r)=([],q::r):=by
        exact Ztv (fun t r' e=>hlab ⟨t,r',e⟩)
       have hsaid:Zkk TT (q::r)=Zmc TT (q::r):=by unfold Zkk;simp only [hl0]
       rw [Jb _ _ _ _ _ (fun t r' e=>hlab ⟨t,r',e⟩),hsaid]
       have hins:∀ (q:Pc),Zlw line c (Zii line c none (q::r)) (match Zld TT [] (q::r) with|none => .error 141|some x=>Zbx TT s x (Zgc (q::r)) line):=fun q=>by
        by_cases hf:s.funcs.length=0
        · rw [Ydc (by rw [h.funcs];exact hf),Zps hf]
          exact Or.inl ⟨rfl,rfl⟩
        · exact Zrz h line [] (q::r) hf (Or.inr (by simp))
       cases q with
       | num v b=>exact Or.inl ⟨rfl,rfl⟩
       | str u=>exact Or.inl ⟨rfl,rfl⟩
       | colon=>exact Or.inl ⟨rfl,rfl⟩
       | word u =>
         rw [Zls]
         by_cases e1:u=Xn
         · have a1:Zcm line c none false (.word u::r)=Yex c none r:=if_pos ⟨rfl,e1⟩
           rw [a1,Ycn TT u r e1]
           exact Yhf h line r
         · by_cases e2:u=Zdm
           · have a1:Zcm line c none false (.word u::r)=Zfk c none r:=(if_neg (fun h=>e1 h.2)).trans (if_pos ⟨rfl,e2⟩)
             rw [a1,Zyi TT u r e1 e2]
             exact Ydu h line r
           · by_cases e3:u=Zdy
             · have a1:Zcm line c none false (.word u::r)=Zek c none r:=(if_neg (fun h=>e1 h.2)).trans ((if_neg (fun h=>e2 h.2)).trans (if_pos ⟨rfl,e3⟩))
               rw [a1,Yhj TT u r e1 e2 e3]
               exact Ymf h line r
             · have a1:Zcm line c none false (.word u::r)=Zii line c none (.word u::r):=(if_neg (fun h=>e1 h.2)).trans ((if_neg (fun h=>e2 h.2)).trans (if_neg (fun h=>e3 h.2)))
               have a2:Zmc TT (.word u::r)=Zld TT [] (.word u::r):=(if_neg e1).trans ((if_neg e2).trans (if_neg e3))
               rw [a1,a2]
               have:=hins (.word u)
               rw [Zls] at this
               exact this
theorem Zne:∀ (ls:List Txt) (c:CS) (s:St) (n:Nat),Rel c s->(match Zky TT s n ls with | .ok s'=>∃ c',Zvw c n ls = .ok c'/\Rel c' s' | .error (y,k)=>Zvw c n ls = .error (y,(k:Int)))
 | [],c,s,n,h=>⟨c,rfl,h⟩
 | l::r,c,s,n,h=>by
   have hb:=Ycm h n l
   rw [Zky,Zvw]
   cases he:Zyj TT s l n with
   | error y =>
     rw [he] at hb
     rcases hb with ⟨rfl,hb⟩|⟨c',hb⟩
     · simp only [hb]
     · simp only [hb]
   | ok s' =>
     rw [he] at hb
     obtain ⟨c',hb,hr⟩:=hb
     simp only [hb]
     exact Zne r c' s' (n+1) hr
theorem Ydo {c:CS} {s:St} (h:Rel c s) (w:Zjo):Zph c ⟨w.line,w.fn,w.pl,w.word,!w.jump⟩=(Zud s w).map fun n=>(n:Int):=by
 unfold Zph Zud
 cases w.jump with
 | false=>simp only [Bool.not_false,if_true,Bool.false_eq_true,if_false];exact h.names _
 | true =>
   simp only [Bool.not_true,Bool.false_eq_true,if_false,if_true,Int.toNat_natCast]
   by_cases e:w.fn<c.lm.length
   · have:=h.lm w.fn _ (List.getElem?_eq_getElem e) w.word
     have e9:(c.lm.getD w.fn fun _=>none)=c.lm[w.fn]:=by rw [List.getD_eq_getElem?_getD,List.getElem?_eq_getElem e];rfl
     rw [e9,this]
     cases (s.labels.getD w.fn []).find? (fun x=>x.1 == w.word) <;> rfl
   · rw [List.getD_eq_getElem?_getD,List.getElem?_eq_none (by omega),List.getD_eq_getElem?_getD,List.getElem?_eq_none (by rw [h.slen,<- h.llen];omega)]
     rfl
theorem Zro {c:CS} {s:St} (h:Rel c s):∀ (ws:List Zjo) (fs:List FnR),Zem c fs (ws.map fun w=>⟨w.line,w.fn,w.pl,w.word,!w.jump⟩)=(match Zrp s fs ws with | .ok fs' => .ok fs' | .error n => .error (n:Int))
 | [],fs=>rfl
 | w::r,fs=>by
   rw [List.map_cons,Zem,Zrp,Ydo h w]
   cases hf:Zud s w with
   | none=>rfl
   | some n =>
     simp only [Option.map_some,Int.toNat_natCast]
     exact Zro h r _
theorem Znb (t:Txt):Zbm t=(match Znc TT (fun p=>Xg p.1 p.2.1.length p.2.2) t with | .ok p => .ok p | .error (y,k) => .error (y,(k:Int))):=by
 unfold Zbm Znc
 by_cases hl:65536<t.length
 · rw [if_pos hl,if_pos hl];rfl
 · rw [if_neg hl,if_neg hl]
   have hb:=Zne (Zcr t) C0 St0 1 Ybb
   cases he:Zky TT St0 1 (Zcr t) with
   | error e =>
     rw [he] at hb
     obtain ⟨y,k⟩:=e
     simp only [] at hb
     rw [show ((1:Nat):Int)=1 from rfl] at hb
     rw [hb]
   | ok s =>
     rw [he] at hb
     obtain ⟨c,hb,hr⟩:=hb
     rw [show ((1:Nat):Int)=1 from rfl] at hb
     rw [hb]
     simp only []
     have hf:=Zro hr s.wants c.funcs
     rw [<- hr.blk,hr.funcs] at hf
     rw [hr.funcs,hf]
     cases Zrp s s.funcs s.wants with
     | error n=>rfl
     | ok fs =>
       simp only []
       rw [hr.mem,hr.data]
       by_cases h0:Xg s.mem s.data.length fs=0
       · rw [if_pos h0,if_pos h0]
       · rw [if_neg h0,if_neg h0];rfl
def Ypt:Txt:=[102,117,110,99,32,109,97,105,110,32,48,32,48,32,49,10,114,101,116]
def Yor:Txt:=[109,101,109,111,114,121,32,48,10,102,117,110,99,32,102,48,32,48,32,48,32,49,10,9,114,101,116,10]
theorem Zwa (n:Nat) (h:n<10):Lib.itoa (n:Int)=[UInt8.ofNat (48+n)]:=by
 unfold Lib.itoa
 rw [if_neg (by omega),Int.toNat_natCast,Lib.decDigits,dif_pos h]
theorem Yqk:Lib.itoa 0=[48]:=Zwa 0 (by decide)
theorem Yqj:Lib.itoa 1=[49]:=Zwa 1 (by decide)
theorem Yhm:Zbm Ypt = .ok oneP:=by
 rw [Znb]
 have:Znc TT (fun p=>Xg p.1 p.2.1.length p.2.2) Ypt = .ok oneP:=by kernel_rfl
 rw [this]
theorem Ycs:Zay oneP=Yor:=by
 have k1:Yt 18=0:=rfl
 have k2:Zbp 18=[114,101,116]:=rfl
 simp [Zay,oneP,Zdu,Zba,fnT,Xr,Jz,plT,Zjm,Xp,Zhq,Zcz,Yqk,Yqj,k1,k2,List.range_succ,Yor]
theorem Yhl:Zcw oneP = .ok Yor:=by
 have h0:Xg 0 0 [(0,0,1,[(18,0)])]=0:=by kernel_rfl
 have:=Yjg (mem:=0) (d:=[]) (fs:=[(0,0,1,[(18,0)])]) h0 (by have:=Ycs;unfold oneP at this;rw [this];decide)
 rw [<- Ycs]
 exact this
theorem Ylv (F k:Nat) (w:World) (hW:LibW w) (hF:Zam w w.heap.size (some ⟨F,0,none⟩) oneP.2.2):Calls Tryz.prog 18 #[.agg #[.int .i64 0,.slice none 0 0,.slice (some ⟨F,0,none⟩) 1 k]] w fun e w'=>e = .returned (.tuple #[.string ⟨#[109,101,109,111,114,121,32,48,10,102,117,110,99,32,102,48,32,48,32,48,32,49,10,9,114,101,116,10]⟩,.int .i64 0])/\w.grownBy w' none:=by
 have h:=Zqj 0 [] oneP.2.2 none (some ⟨F,0,none⟩) 0 k w.heap.size w hW (Nat.le_refl _) (fun h0=>absurd h0 (by simp)) hF (by simp) (by
  intro f hf x hx
  simp [oneP] at hf
  subst hf
  simp at hx
  subst hx
  exact ⟨by decide,by decide⟩)
 have e:Zcw (0,[],oneP.2.2) = .ok Yor:=Yhl
 rw [e] at h
 exact h
theorem Ylu (pD pF:Option Addr) (cD cF n m F k:Nat) (w:World) (h:Zam w n pF oneP.2.2) (h2:Zam w m (some ⟨F,0,none⟩) oneP.2.2):Calls Tryz.prog 15 #[.agg #[.int .i64 0,.slice pD 0 cD,.slice pF 1 cF],.agg #[.int .i64 0,.slice none 0 0,.slice (some ⟨F,0,none⟩) 1 k]] w fun e w'=>e = .returned (.bool true)/\w.grownBy w' none:=by
 have:=Zux oneP oneP pD none pF (some ⟨F,0,none⟩) cD 0 cF k n m w (by decide) (by intro x hx;simp [oneP] at hx;subst hx;decide) (fun h0=>absurd h0 (by simp [oneP])) (fun h0=>absurd h0 (by simp [oneP])) h h2
 rw [Zkj] at this
 exact this
def kn3:Nat->Nat
 | 0=>14
 | 1=>15
 | 2=>16
 | 3=>17
 | 4=>18
 | 5=>19
 | 6=>20
 | 7=>21
 | 8=>22
 | 9=>23
 | 10=>24
 | 11=>25
 | 12=>26
 | 13=>27
 | 14=>28
 | 15=>0
 | _=>5000
theorem Zas:∀ i,i<16->∀ j,j<16->j≠i->kn3 j≠kn3 i:=by decide
theorem Zqx (i:Nat) (h:i<16):i=0\/i=1\/i=2\/i=3\/i=4\/i=5\/i=6\/i=7\/i=8\/i=9\/i=10\/i=11\/i=12\/i=13\/i=14\/i=15:=by omega
theorem Zpb (j:Nat) (hj:j∈[1,2,3,4]):∀ i,i<16->kn3 i≠j:=by revert j;decide
def Zlz (q cD cF:Nat) (pD pF:Option Addr) (F2:Nat) (k2:Nat):Nat->Value
 | 0 => .nilIface
 | 1 => .bool true
 | 2 => .bool true
 | 3 => .int .i64 0
 | 4 => .bool true
 | 5 => .bool true
 | 6 => .bool true
 | 7 => .agg #[.int .i64 0,.slice pD 0 cD,.slice pF 1 cF]
 | 8 => .agg #[.int .i64 0,.slice none 0 0,.slice (some ⟨F2,0,none⟩) 1 k2]
 | 9 => .bool true
 | 10 => .bool true
 | 11 => .bool true
 | 12 => .string ⟨#[109,101,109,111,114,121,32,48,10,102,117,110,99,32,102,48,32,48,32,48,32,49,10,9,114,101,116,10]⟩
 | 13 => .bool true
 | 14 => .bool true
 | 15 => .bool true
 | _=>undef
def Yrh (q cD cF:Nat) (pD pF:Option Addr) (F2:Nat) (k2:Nat):Nat->World->Prop
 | 8=>fun w9=>∃ n,Zam w9 n (some ⟨F2,0,none⟩) oneP.2.2
 | 9=>fun _=>True
 | _=>fun _=>True
theorem Yot {q cD cF:Nat} {pD pF:Option Addr} {F2:Nat} {k2:Nat} {F22:Nat} {k22:Nat} {l:Array Bool} (hcl:∀ p∈([(1,0),(2,1),(3,2),(4,3),(4,2),(5,2),(5,4),(6,5),(7,6),(8,6),(9,7),(9,8),(9,6),(10,6),(10,9),(11,10),(12,11),(13,12),(13,11),(14,11),(14,13),(15,14)]:List (Nat × Nat)),l.getD (Prod.fst p) false=true->l.getD (Prod.snd p) false=true) (hun:l.getD 8 false=false):∀ i,i<16->l.getD i false=true->kn3 i<29->Zlz q cD cF pD pF F22 k22 i=Zlz q cD cF pD pF F2 k2 i:=by
 intro i hi hl _
 rcases Zqx i hi with rfl|rfl|rfl|rfl|rfl|rfl|rfl|rfl|rfl|rfl|rfl|rfl|rfl|rfl|rfl|rfl
 · rfl
 · rfl
 · rfl
 · rfl
 · rfl
 · rfl
 · rfl
 · rfl
 · exact Zm (hl) hun
 · rfl
 · rfl
 · rfl
 · rfl
 · rfl
 · rfl
 · rfl
theorem Yos {q cD cF:Nat} {pD pF:Option Addr} {F2:Nat} {k2:Nat}  {l:Array Bool} (hcl:∀ p∈([(1,0),(2,1),(3,2),(4,3),(4,2),(5,2),(5,4),(6,5),(7,6),(8,6),(9,7),(9,8),(9,6),(10,6),(10,9),(11,10),(12,11),(13,12),(13,11),(14,11),(14,13),(15,14)]:List (Nat × Nat)),l.getD (Prod.fst p) false=true->l.getD (Prod.snd p) false=true) (hun:l.getD 9 false=false):∀ i,i<16->l.getD i false=true->kn3 i<29->Zlz q cD cF pD pF F2 k2 i=Zlz q cD cF pD pF F2 k2 i:=by
 intro i hi hl _
 rcases Zqx i hi with rfl|rfl|rfl|rfl|rfl|rfl|rfl|rfl|rfl|rfl|rfl|rfl|rfl|rfl|rfl|rfl
 · rfl
 · rfl
 · rfl
 · rfl
 · rfl
 · rfl
 · rfl
 · rfl
 · rfl
 · rfl
 · rfl
 · rfl
 · rfl
 · rfl
 · rfl
 · rfl
theorem Ycr (w:World) (hW:LibW w):Calls Tryz.prog 11 #[] w fun e w'=>e = .returned (.bool true)/\w.grownBy w' none:=by
 have PA0:=Zqn Ypt w hW
 rw [Yhm] at PA0
 have PA:=Hq PA0
 have LW:=Hq hW
 clear PA0 hW
 have htx:bs Ypt=⟨#[102,117,110,99,32,109,97,105,110,32,48,32,48,32,49,10,114,101,116]⟩:=rfl
 rw [htx] at PA
 go_enter Tryz.func11,Tryz.ntmps11
 go_upto_region 2 with (go_at_call 12;refine PA.out.mono ?_;rintro e w1 ⟨⟨D,F,cv,rfl,hown⟩,hg1⟩;obtain ⟨pD,cD,hvD⟩:=Zk hown.dt;obtain ⟨pF,cF,hvF⟩:=Zk hown.fr;rw [Jk] at hvD;simp only [oneP,List.length_nil,List.length_cons] at hvD hvF;subst hvD;subst hvF;have OW:=Hq hown;have G1:=Hq hg1;clear hown hg1)
 have BX:=Hq (heap_alloc_new w1 (.cells #[.int .i64 0,.slice pD 0 cD,.slice pF 1 cF] 26))
 have FP:=Hq (Xs (Zfa (fs:=oneP.2.2) OW.out) (Ga w1 (.cells #[.int .i64 0,.slice pD 0 cD,.slice pF 1 cF] 26) none) (by simp))
 have G2:=Hq (Za G1.out (Ga w1 (.cells #[.int .i64 0,.slice pD 0 cD,.slice pF 1 cF] 26) none))
 generalize w1.alloc (.cells #[.int .i64 0,.slice pD 0 cD,.slice pF 1 cF] 26)=w2 at BX FP G2 ⊢
 clear OW PA
 obtain ⟨q,hq⟩:∃ x,w1.heap.size=x:=⟨_,rfl⟩
 rw [hq] at BX FP ⊢
 clear hq G1
 have bt:∀ (W:World) (p:Option Addr),Zdi W p []:=fun W p h0=>absurd h0 (by simp)
 have BT:=Hq bt
 have htx2:bs Yor=⟨#[109,101,109,111,114,121,32,48,10,102,117,110,99,32,102,48,32,48,32,48,32,49,10,9,114,101,116,10]⟩:=rfl
 have HT2:=Hq htx2
 clear bt htx2 htx
 go_upto_region 3 with (first
  | (go_at_call 22;refine (Zvo _).mono ?_;rintro e w3 ⟨⟨F1,k1,rfl,hf3⟩,hg3⟩;have F3:=Hq hf3;have G3:=Hq hg3;clear hf3 hg3)
  | (go_at_call 18;refine (Ylv F1 k1 w3 (Zs LW.out (Za G2.out G3.out)) F3.out).mono ?_;rintro e w4 ⟨rfl,hg4⟩;have G4:=Hq hg4;clear hg4))
 have G24:=Hq (Za G3.out G4.out)
 have FP4:=Hq (Xs FP.out G24.out (by simp))
 have BX4:=Hq (Zf BX.out G24.out (by simp))
 (try rename_i K3 hK3)
 refine Xa (n:=16) (J:=fun a0 l a1 w1=>∃ (F2:Nat) (k2:Nat),RJ a0 29 16 kn3 (Zlz q cD cF pD pF F2 k2) l a1/\Zcs 16 16 0 [(1,0),(2,1),(3,2),(4,3),(4,2),(5,2),(5,4),(6,5),(7,6),(8,6),(9,7),(9,8),(9,6),(10,6),(10,9),(11,10),(12,11),(13,12),(13,11),(14,11),(14,13),(15,14)] [] (fun w9=>World.grownBy w4.drew w9 none) (fun _=>True) (Yrh q cD cF pD pF F2 k2) (fun _=>True) l w1) (by kernel_rfl) rfl (Xx (by kernel_rfl)) (fun l a1 w1 h=>by obtain ⟨_,_,h,_⟩:=h;exact h.sz) ⟨0,0,Yz rfl,Yf (Zd _ _) (True.intro)⟩ ?step ?fin
 case step =>
  intro l a1 w' i hJJ hi hin
  obtain ⟨F2,k2,hJ,hW⟩:=hJJ
  have hun:l.getD i false=false:=getD_both (mem_ready.1 hi).1
  have hns:=Jv hW hin hun
  have hg:=hW.g hns
  have BQ':=Zf BX4.out (Za (Zg (Zd w4 none)) hg) (by simp)
  have lq:=(Array.getElem?_eq_some_iff.1 BQ').1
  rcases Zqx i hin with rfl|rfl|rfl|rfl|rfl|rfl|rfl|rfl|rfl|rfl|rfl|rfl|rfl|rfl|rfl|rfl
  · have e2:a1.tmps.getD 2 undef = .nilIface:=hJ.un 2 (fun i hi _=>Zpb 2 (by decide) i hi)
    exact Zh (Zc hJ hW hi hun rfl (by rfl) rfl (by decide) (by decide) (Zas _ (by decide)) (w':=w') (by simp [execOp,resolve,invoke,builtin,Act.eval,e2,lq,go_sem,Zlz]) (⟨by decide,by kernel_rfl,True.intro⟩)) (fun a9 w9 h9=>⟨F2,k2,h9⟩)
  · have e14:a1.tmps.getD 14 undef = .nilIface:=(Ze hJ hi 0 (by kernel_rfl))
    exact Zh (Zc hJ hW hi hun rfl (by rfl) rfl (by decide) (by decide) (Zas _ (by decide)) (w':=w') (by simp [execOp,resolve,invoke,builtin,Act.eval,e14,lq,go_sem,Zlz]) (⟨by decide,by kernel_rfl,True.intro⟩)) (fun a9 w9 h9=>⟨F2,k2,h9⟩)
  · have e15:a1.tmps.getD 15 undef = .bool true:=(Ze hJ hi 1 (by kernel_rfl))
    exact Zh (Zc hJ hW hi hun rfl (by rfl) rfl (by decide) (by decide) (Zas _ (by decide)) (w':=w') (by simp [execOp,resolve,invoke,builtin,Act.eval,e15,lq,go_sem,Zlz]) (⟨by decide,by kernel_rfl,True.intro⟩)) (fun a9 w9 h9=>⟨F2,k2,h9⟩)
  · have e4:a1.tmps.getD 4 undef = .int .i64 0:=hJ.un 4 (fun i hi _=>Zpb 4 (by decide) i hi)
    have eg:a1.tmps.getD 16 undef = .bool true:=(Ze hJ hi 2 (by kernel_rfl))
    exact Zh (Zc hJ hW hi hun rfl (Zfx (k:=2) (d:=16) (b:=true) rfl rfl (by rw [hJ.ts];decide) eg) rfl (by decide) (by decide) (Zas _ (by decide)) (w':=w') (by simp [execOp,resolve,invoke,builtin,Act.eval,e4,lq,go_sem,Zlz]) (⟨by decide,by kernel_rfl,True.intro⟩)) (fun a9 w9 h9=>⟨F2,k2,h9⟩)
  · have e17:a1.tmps.getD 17 undef = .int .i64 0:=(Ze hJ hi 3 (by kernel_rfl))
    have eg:a1.tmps.getD 16 undef = .bool true:=(Ze hJ hi 2 (by kernel_rfl))
    exact Zh (Zc hJ hW hi hun rfl (Zfx (k:=2) (d:=16) (b:=true) rfl rfl (by rw [hJ.ts];decide) eg) rfl (by decide) (by decide) (Zas _ (by decide)) (w':=w') (by simp [execOp,resolve,invoke,builtin,Act.eval,e17,lq,go_sem,Zlz]) (⟨by decide,by kernel_rfl,True.intro⟩)) (fun a9 w9 h9=>⟨F2,k2,h9⟩)
  · have e16:a1.tmps.getD 16 undef = .bool true:=(Ze hJ hi 2 (by kernel_rfl))
    have e18:a1.tmps.getD 18 undef = .bool true:=(Ze hJ hi 4 (by kernel_rfl))
    exact Zh (Zc hJ hW hi hun rfl (by rfl) rfl (by decide) (by decide) (Zas _ (by decide)) (w':=w') (by simp [execOp,resolve,invoke,builtin,Act.eval,e16,e18,lq,go_sem,Zlz]) (⟨by decide,by kernel_rfl,True.intro⟩)) (fun a9 w9 h9=>⟨F2,k2,h9⟩)
  · have e19:a1.tmps.getD 19 undef = .bool true:=(Ze hJ hi 5 (by kernel_rfl))
    exact Zh (Zc hJ hW hi hun rfl (by rfl) rfl (by decide) (by decide) (Zas _ (by decide)) (w':=w') (by simp [execOp,resolve,invoke,builtin,Act.eval,e19,lq,go_sem,Zlz]) (⟨by decide,by kernel_rfl,True.intro⟩)) (fun a9 w9 h9=>⟨F2,k2,h9⟩)
  · have e1:a1.tmps.getD 1 undef = .pointer (some ⟨q,0,none⟩):=hJ.un 1 (fun i hi _=>Zpb 1 (by decide) i hi)
    have eg:a1.tmps.getD 20 undef = .bool true:=(Ze hJ hi 6 (by kernel_rfl))
    have h0:=Cq _ _ 0 _ _ _ BQ'
    have h1:=Cq _ _ 1 _ _ _ BQ'
    have h2:=Cq _ _ 2 _ _ _ BQ'
    exact Zh (Zc hJ hW hi hun rfl (Zfx (k:=6) (d:=20) (b:=true) rfl rfl (by rw [hJ.ts];decide) eg) rfl (by decide) (by decide) (Zas _ (by decide)) (w':=w') (by simp [execOp,resolve,invoke,builtin,Act.eval,e1,h0,h1,h2,lq,go_sem,Zlz]) (⟨by decide,by kernel_rfl,True.intro⟩)) (fun a9 w9 h9=>⟨F2,k2,h9⟩)
  · have eg:a1.tmps.getD 20 undef = .bool true:=(Ze hJ hi 6 (by kernel_rfl))
    refine Zz rfl (Zfx (k:=6) (d:=20) (b:=true) rfl rfl (by rw [hJ.ts];decide) eg) (by simp [execOp,resolve,invoke,Act.eval,go_sem]) (Calls.mono (Zvo w') (fun e w2 he => ?_))
    obtain ⟨⟨F22,k22,rfl,hf2⟩,hg2⟩:=he
    refine ⟨_,rfl,F22,k22,?_,Zv hW (by decide) hun (by decide) (Zj _ hi (by kernel_rfl)) (Za hg hg2) (fun hne0 hun0 hB0=>hB0) (fun j hj hne hl hcu hF => ?_) (⟨_,hf2⟩)⟩
    · exact Xm (val:=Zlz q cD cF pD pF F22 k22) (Xo hJ (Yot hW.cl hun)) (by decide) (by decide) (Zas _ (by decide))
    · rcases Zqx j hj with rfl|rfl|rfl|rfl|rfl|rfl|rfl|rfl|rfl|rfl|rfl|rfl|rfl|rfl|rfl|rfl
      · exact True.intro
      · exact True.intro
      · exact True.intro
      · exact True.intro
      · exact True.intro
      · exact True.intro
      · exact True.intro
      · exact True.intro
      · exact absurd rfl hne
      · exact Zm (hW.cl (9,8) (by decide) (hl)) hun
      · exact True.intro
      · exact True.intro
      · exact True.intro
      · exact True.intro
      · exact True.intro
      · exact True.intro
  · have e21:a1.tmps.getD 21 undef = .agg #[.int .i64 0,.slice pD 0 cD,.slice pF 1 cF]:=(Ze hJ hi 7 (by kernel_rfl))
    have e22:a1.tmps.getD 22 undef = .agg #[.int .i64 0,.slice none 0 0,.slice (some ⟨F2,0,none⟩) 1 k2]:=(Ze hJ hi 8 (by kernel_rfl))
    obtain ⟨nq,hfq⟩:=hW.f hns 8 (by decide) (Zb hi 8 (by kernel_rfl)) (Zdt (by decide))
    have eg:a1.tmps.getD 20 undef = .bool true:=(Ze hJ hi 6 (by kernel_rfl))
    refine Zz rfl (Zfx (k:=6) (d:=20) (b:=true) rfl rfl (by rw [hJ.ts];decide) eg) (by simp [execOp,resolve,invoke,Act.eval,e21,e22,go_sem]) (Calls.mono (Ylu pD pF cD cF _ nq F2 k2 w' (Xs FP4.out (Za (Zg (Zd w4 none)) hg) (by simp)) hfq) (fun e w2 he => ?_))
    obtain ⟨rfl,hg2⟩:=he
    refine ⟨_,rfl,F2,k2,?_,Zv hW (by decide) hun (by decide) (Zj _ hi (by kernel_rfl)) (Za hg hg2) (fun hne0 hun0 hB0=>hB0) (fun j hj hne hl hcu hF => ?_) (True.intro)⟩
    · exact Xm (val:=Zlz q cD cF pD pF F2 k2) (Xo hJ (Yos hW.cl hun)) (by decide) (by decide) (Zas _ (by decide))
    · rcases Zqx j hj with rfl|rfl|rfl|rfl|rfl|rfl|rfl|rfl|rfl|rfl|rfl|rfl|rfl|rfl|rfl|rfl
      · exact True.intro
      · exact True.intro
      · exact True.intro
      · exact True.intro
      · exact True.intro
      · exact True.intro
      · exact True.intro
      · exact True.intro
      · exact hF.imp fun n h=>Xs h hg2 (by simp)
      · exact absurd rfl hne
      · exact True.intro
      · exact True.intro
      · exact True.intro
      · exact True.intro
      · exact True.intro
      · exact True.intro
  · have e20:a1.tmps.getD 20 undef = .bool true:=(Ze hJ hi 6 (by kernel_rfl))
    have e23:a1.tmps.getD 23 undef = .bool true:=(Ze hJ hi 9 (by kernel_rfl))
    exact Zh (Zc hJ hW hi hun rfl (by rfl) rfl (by decide) (by decide) (Zas _ (by decide)) (w':=w') (by simp [execOp,resolve,invoke,builtin,Act.eval,e20,e23,lq,go_sem,Zlz]) (⟨by decide,by kernel_rfl,True.intro⟩)) (fun a9 w9 h9=>⟨F2,k2,h9⟩)
  · have e24:a1.tmps.getD 24 undef = .bool true:=(Ze hJ hi 10 (by kernel_rfl))
    exact Zh (Zc hJ hW hi hun rfl (by rfl) rfl (by decide) (by decide) (Zas _ (by decide)) (w':=w') (by simp [execOp,resolve,invoke,builtin,Act.eval,e24,lq,go_sem,Zlz]) (⟨by decide,by kernel_rfl,True.intro⟩)) (fun a9 w9 h9=>⟨F2,k2,h9⟩)
  · have e3:a1.tmps.getD 3 undef = .string ⟨#[109,101,109,111,114,121,32,48,10,102,117,110,99,32,102,48,32,48,32,48,32,49,10,9,114,101,116,10]⟩:=hJ.un 3 (fun i hi _=>Zpb 3 (by decide) i hi)
    have eg:a1.tmps.getD 25 undef = .bool true:=(Ze hJ hi 11 (by kernel_rfl))
    exact Zh (Zc hJ hW hi hun rfl (Zfx (k:=11) (d:=25) (b:=true) rfl rfl (by rw [hJ.ts];decide) eg) rfl (by decide) (by decide) (Zas _ (by decide)) (w':=w') (by simp [execOp,resolve,invoke,builtin,Act.eval,e3,lq,go_sem,Zlz]) (⟨by decide,by kernel_rfl,True.intro⟩)) (fun a9 w9 h9=>⟨F2,k2,h9⟩)
  · have e26:a1.tmps.getD 26 undef = .string ⟨#[109,101,109,111,114,121,32,48,10,102,117,110,99,32,102,48,32,48,32,48,32,49,10,9,114,101,116,10]⟩:=(Ze hJ hi 12 (by kernel_rfl))
    have eg:a1.tmps.getD 25 undef = .bool true:=(Ze hJ hi 11 (by kernel_rfl))
    exact Zh (Zc hJ hW hi hun rfl (Zfx (k:=11) (d:=25) (b:=true) rfl rfl (by rw [hJ.ts];decide) eg) rfl (by decide) (by decide) (Zas _ (by decide)) (w':=w') (by simp [execOp,resolve,invoke,builtin,Act.eval,e26,lq,go_sem,Zlz]) (⟨by decide,by kernel_rfl,True.intro⟩)) (fun a9 w9 h9=>⟨F2,k2,h9⟩)
  · have e25:a1.tmps.getD 25 undef = .bool true:=(Ze hJ hi 11 (by kernel_rfl))
    have e27:a1.tmps.getD 27 undef = .bool true:=(Ze hJ hi 13 (by kernel_rfl))
    exact Zh (Zc hJ hW hi hun rfl (by rfl) rfl (by decide) (by decide) (Zas _ (by decide)) (w':=w') (by simp [execOp,resolve,invoke,builtin,Act.eval,e25,e27,lq,go_sem,Zlz]) (⟨by decide,by kernel_rfl,True.intro⟩)) (fun a9 w9 h9=>⟨F2,k2,h9⟩)
  · have e28:a1.tmps.getD 28 undef = .bool true:=(Ze hJ hi 14 (by kernel_rfl))
    exact Zh (Zc hJ hW hi hun rfl (by rfl) rfl (by decide) (by decide) (Zas _ (by decide)) (w':=w') (by simp [execOp,resolve,invoke,builtin,Act.eval,e28,lq,go_sem,Zlz]) (⟨by decide,by kernel_rfl,True.intro⟩)) (fun a9 w9 h9=>⟨F2,k2,h9⟩)
 case fin =>
  intro l9 a1 w9 hJJ hl9
  obtain ⟨F2,k2,hJ,hW9⟩:=hJJ
  have hg9:=hW9.g (Zao hW9)
  have hput:=Xw hJ rfl hl9 (fun i j h1 h2 h3=>Zas j h2 i h1 h3)
  subst hput
  clear hJ hW9 hl9
  (try refine hK3 _ _ ?_)
  simp only [Jy,kn3,Zlz,Act.put,List.setIfInBounds_toArray,List.set_cons_zero,List.set_cons_succ]
  have GG:=Hq (Za G2.out (Za G24.out (Za (Zg (Zd w4 none)) hg9)))
  clear hg9
  go_wp2
  go_ret
  exact ⟨rfl,GG.out⟩
open Go.Proofs.YteciblfmgdlipaaGreatDoor.CK
section
variable {H:Type} {enc:TypeId × Value->H} {P:Program} {w:World}
theorem Jx {t:TypeId} {fs:Array Field} {fuel:Nat} {cs:List Value} {x:DataW H × List MemPlace} (ht:P.underlying t=some (.struct fs)) (h:DataW.trod enc P w 0 (fun _=>true) true fuel t cs=some x) (i:Nat) (f:Field) (hf:fs[i]? = some f) (hc:P.cellsOf f.type=1) (k:Nat) (hk:P.cellsOf t=k) (ho:f.offset<k) :
 cs.length=k/\∃ n v y,cs[f.offset]? = some v/\DataW.trod enc P w 0 (fun _=>true) true n f.type [v]=some y:=by
 obtain ⟨xs,n,_,rfl,hl,hlen,hfl⟩:=DataW.trod_struct ht h
 rw [hk] at hl
 have hi:i<xs.length:=by rw [hlen];exact (Gs hf)
 have h1:=hfl i f hf
 have ho':f.offset<cs.length:=by omega
 have hx:(cs.drop f.offset).take (P.cellsOf f.type)=[cs[f.offset]]:=by
  rw [hc,List.drop_eq_getElem_cons ho'];rfl
 rw [hx,List.getElem?_eq_getElem hi] at h1
 exact ⟨hl,n,cs[f.offset],xs[i],List.getElem?_eq_getElem ho',h1⟩
theorem Yer (b o i j:Nat):((⟨b,o,none⟩:Addr).add i).add j=⟨b,o+i+j,none⟩:=by
 by_cases h:i=0 <;> by_cases h2:j=0 <;> simp [Addr.add,h,h2]
theorem Zjr {t e:TypeId} {fuel:Nat} {v:Value} {x:DataW H × List MemPlace} (ht:P.underlying t=some (.slice e)) (k:Nat) (hk:P.cellsOf e=k) (k0:0<k) (h:DataW.trod enc P w 0 (fun _=>true) true fuel t [v]=some x) :
 ∃ (p:Option Addr) (len cap:Nat),v = .slice p len cap/\len<=maxLen/\(0<len->∃ b o,p=some ⟨b,o,none⟩/\b<w.heap.size/\∀ i,i<len->∃ cs' n y,cs'.length=k/\(∀ j,j<k->w.cell? ⟨b,o+i*k+j,none⟩=cs'[j]?)/\DataW.trod enc P w 0 (fun _=>true) true n e cs'=some y):=by
 rcases Deep.open_slice ht h with ⟨hcs,rfl⟩|⟨a,len,cap,m,n,D,Pl,hcs,_,hl,hm,hmm,rfl,hx⟩
 · injection hcs with hcs _
   exact ⟨none,0,0,hcs,Nat.zero_le _,fun h=>absurd h (Nat.lt_irrefl _)⟩
 · injection hcs with hcs _
   simp only [if_true] at hmm
   subst hmm
   refine ⟨some a,len,m,hcs,Nat.le_trans hl hm,fun h0 => ?_⟩
   obtain ⟨b,o,spot⟩:=a
   have hcell:∀ i,i<m->∃ cs',cs'.length=k/\(∀ j,j<k->w.cell? (((⟨b,o,spot⟩:Addr).add (i*k)).add j)=cs'[j]?)/\DataW.trod enc P w 0 (fun _=>true) true n e cs'=some (D i,Pl i):=by
    intro i hi
    obtain ⟨cs',h1,h2⟩:=hx i hi
    rw [hk] at h1
    obtain ⟨_,h3,h4⟩:=World.cells?_some h1
    exact ⟨cs',h3,h4,h2⟩
   have hspot:spot=none:=by
    obtain ⟨cs',h3,h4,_⟩:=hcell 0 (by omega)
    have h5:=h4 0 k0
    rw [List.getElem?_eq_getElem (by omega)] at h5
    have h6:=World.cell?_spot h5
    simpa [Addr.add] using h6
   subst hspot
   refine ⟨b,o,rfl,?_,fun i hi => ?_⟩
   · obtain ⟨cs',h3,h4,_⟩:=hcell 0 (by omega)
     have h5:=h4 0 k0
     rw [List.getElem?_eq_getElem (by omega),Yer] at h5
     exact World.block_lt_of_cell? _ _ h5
   · obtain ⟨cs',h3,h4,h5⟩:=hcell i (by omega)
     exact ⟨cs',n,_,h3,fun j hj=>by rw [<- Yer];exact h4 j hj,h5⟩
theorem Yqg {α:Type} {l:List α} (h:l.length=1):∃ a,l=[a]:=by
 match l,h with
 | [a],_=>exact ⟨a,rfl⟩
theorem Yqf {α:Type} {l:List α} (h:l.length=3):∃ a b c,l=[a,b,c]:=by
 match l,h with
 | [a,b,c],_=>exact ⟨a,b,c,rfl⟩
end
section
variable {H:Type} {enc:TypeId × Value->H} {w:World}
theorem Zte:Tryz.prog.underlying 23=some (.slice 5):=by kernel_rfl
theorem Ype:Tryz.prog.underlying 5=some (.int .u8):=by kernel_rfl
theorem Ymc:Tryz.prog.underlying 3=some (.int .i64):=by kernel_rfl
theorem Zxk:Tryz.prog.underlying 59=some (.slice 58):=by kernel_rfl
theorem Zxl:Tryz.prog.underlying 24=some (.slice 61):=by kernel_rfl
theorem Zxj {fuel:Nat} {v:Value} {x:DataW H × List MemPlace} (h:DataW.trod enc Tryz.prog w 0 (fun _=>true) true fuel 23 [v]=some x) :
 ∃ (p:Option Addr) (d:Txt) (cap:Nat),v = .slice p d.length cap/\Zdi w p d/\d.length<=9223372036854775807:=by
 obtain ⟨p,len,cap,rfl,hm,hx⟩:=Zjr (k:=1) Zte (by kernel_rfl) (by decide) h
 have hex:∃ N:Nat->UInt8,0<len->∃ b o,p=some ⟨b,o,none⟩/\b<w.heap.size/\∀ i,i<len->w.cell? ⟨b,o+i,none⟩=some (.int .u8 ((N i).toNat:Int)):=by
  rcases Nat.eq_zero_or_pos len with h0|h0
  · exact ⟨fun _=>0,fun h=>by omega⟩
  · obtain ⟨b,o,rfl,hbl,hi⟩:=hx h0
    have:∀ i,i<len->∃ N:UInt8,w.cell? ⟨b,o+i,none⟩=some (.int .u8 (N.toNat:Int)):=by
     intro i hil
     obtain ⟨cs',n,y,h3,h4,h5⟩:=hi i hil
     obtain ⟨c,rfl⟩:=Yqg h3
     obtain ⟨N,e,_,hw⟩:=DataW.trod_int Ype h5
     injection e with e;subst e
     have:=h4 0 (by decide)
     rw [Nat.mul_one,Nat.add_zero] at this
     simp only [Lit.wf,Bool.and_eq_true,decide_eq_true_eq] at hw
     have h1:IntKind.u8.min=0:=by decide
     have h2:IntKind.u8.max=255:=by decide
     rw [h1,h2] at hw
     refine ⟨UInt8.ofNat N.toNat,?_⟩
     have e9:((UInt8.ofNat N.toNat).toNat:Int)=N:=by
      rw [UInt8.toNat_ofNat']
      omega
     rw [e9]
     exact this
    obtain ⟨N,hN⟩:=Deep.choose_lt this
    exact ⟨N,fun _=>⟨b,o,rfl,hbl,hN⟩⟩
 obtain ⟨N,hN⟩:=hex
 refine ⟨p,(List.range len).map N,cap,by simp,fun h0 => ?_,by simpa [maxLen] using hm⟩
 simp only [List.length_map,List.length_range] at h0
 obtain ⟨b,o,e,hbl,hi⟩:=hN h0
 refine ⟨b,o,e,hbl,fun j c hj => ?_⟩
 have hl:=(List.getElem?_eq_some_iff.1 hj).1
 simp only [List.length_map,List.length_range] at hl
 rw [hi j hl]
 simp [hl] at hj
 rw [hj]
theorem Zah {fuel:Nat} {v:Value} {x:DataW H × List MemPlace} (h:DataW.trod enc Tryz.prog w 0 (fun _=>true) true fuel 3 [v]=some x):∃ n,v = .int .i64 n/\Zpp n:=by
 obtain ⟨n,e,_,hw⟩:=DataW.trod_int Ymc h
 injection e with e
 refine ⟨n,e,?_⟩
 simp only [Lit.wf,Bool.and_eq_true,decide_eq_true_eq] at hw
 have h1:IntKind.i64.min = -9223372036854775808:=by decide
 have h2:IntKind.i64.max=9223372036854775807:=by decide
 rw [h1,h2] at hw
 exact hw
theorem Ybd {fuel:Nat} {v:Value} {x:DataW H × List MemPlace} (h:DataW.trod enc Tryz.prog w 0 (fun _=>true) true fuel 59 [v]=some x) :
 ∃ (p:Option Addr) (c:List (Int × Int)) (cap:Nat),v = .slice p c.length cap/\Zhp w w.heap.size p c/\(∀ y∈c,Zpp y.2):=by
 obtain ⟨p,len,cap,rfl,hm,hx⟩:=Zjr (k:=2) Zxk (by kernel_rfl) (by decide) h
 have hex:∃ N:Nat->(Int × Int),(∀ i,i<len->Zpp (N i).2)/\(0<len->∃ b o,p=some ⟨b,o,none⟩/\b<w.heap.size/\∀ i,i<len->w.cell? ⟨b,o+i*2,none⟩=some (.int .i64 (N i).1)/\w.cell? ⟨b,o+i*2+1,none⟩=some (.int .i64 (N i).2)):=by
  rcases Nat.eq_zero_or_pos len with h0|h0
  · exact ⟨fun _=>(0,0),fun i h=>by omega,fun h=>by omega⟩
  · obtain ⟨b,o,rfl,hbl,hi⟩:=hx h0
    have:∀ i,i<len->∃ N:(Int × Int),Zpp N.2/\w.cell? ⟨b,o+i*2,none⟩=some (.int .i64 N.1)/\w.cell? ⟨b,o+i*2+1,none⟩=some (.int .i64 N.2):=by
     intro i hil
     obtain ⟨cs',n,y,h3,h4,h5⟩:=hi i hil
     obtain ⟨_,_,v0,y0,g0,t0⟩:=Jx (k:=2) Tryz.underlying58 h5 0 _ rfl (by kernel_rfl) (by kernel_rfl) (by decide)
     obtain ⟨_,_,v1,y1,g1,t1⟩:=Jx (k:=2) Tryz.underlying58 h5 1 _ rfl (by kernel_rfl) (by kernel_rfl) (by decide)
     obtain ⟨op,rfl,_⟩:=Zah t0
     obtain ⟨a,rfl,ha⟩:=Zah t1
     exact ⟨(op,a),ha,(h4 0 (by decide)).trans g0,(h4 1 (by decide)).trans g1⟩
    obtain ⟨N,hN⟩ := @Deep.choose_lt _ ⟨((0,0):(Int × Int))⟩ _ _ this
    exact ⟨N,fun i hi=>(hN i hi).1,fun _=>⟨b,o,rfl,hbl,fun i hi=>(hN i hi).2⟩⟩
 obtain ⟨N,hR,hN⟩:=hex
 refine ⟨p,(List.range len).map N,cap,by simp,fun h0 => ?_,fun y hy => ?_⟩
 · simp only [List.length_map,List.length_range] at h0
   obtain ⟨b,o,e,hbl,hi⟩:=hN h0
   refine ⟨b,o,e,hbl,fun j op a hj => ?_⟩
   have hl:=(List.getElem?_eq_some_iff.1 hj).1
   simp only [List.length_map,List.length_range] at hl
   have:=hi j hl
   have e:N j=(op,a):=by simpa [hl] using hj
   rw [e] at this
   exact this
 · obtain ⟨i,hi,rfl⟩:=List.mem_map.1 hy
   exact hR i (List.mem_range.1 hi)
theorem Yga {fuel:Nat} {v:Value} {x:DataW H × List MemPlace} (h:DataW.trod enc Tryz.prog w 0 (fun _=>true) true fuel 24 [v]=some x) :
 ∃ (p:Option Addr) (fs:List FnP) (cap:Nat),v = .slice p fs.length cap/\Zam w w.heap.size p fs/\∀ f∈fs,(∀ y∈f.2.2.2,Zpp y.2):=by
 obtain ⟨p,len,cap,rfl,hm,hx⟩:=Zjr (k:=4) Zxl (by kernel_rfl) (by decide) h
 have hex:∃ N:Nat->FnP,(∀ i,i<len->(∀ y∈(N i).2.2.2,Zpp y.2))/\(0<len->∃ b o,p=some ⟨b,o,none⟩/\b<w.heap.size/\∀ i,i<len->w.cell? ⟨b,o+i*4,none⟩=some (.int .i64 (N i).1)/\w.cell? ⟨b,o+i*4+1,none⟩=some (.int .i64 (N i).2.1)/\w.cell? ⟨b,o+i*4+2,none⟩=some (.int .i64 (N i).2.2.1)/\∃ (pc:Option Addr) (cc:Nat),w.cell? ⟨b,o+i*4+3,none⟩=some (.slice pc (N i).2.2.2.length cc)/\Zhp w w.heap.size pc (N i).2.2.2):=by
  rcases Nat.eq_zero_or_pos len with h0|h0
  · exact ⟨fun _=>(0,0,0,[]),fun i h=>by omega,fun h=>by omega⟩
  · obtain ⟨b,o,rfl,hbl,hi⟩:=hx h0
    have:∀ i,i<len->∃ N:FnP,(∀ y∈N.2.2.2,Zpp y.2)/\w.cell? ⟨b,o+i*4,none⟩=some (.int .i64 N.1)/\w.cell? ⟨b,o+i*4+1,none⟩=some (.int .i64 N.2.1)/\w.cell? ⟨b,o+i*4+2,none⟩=some (.int .i64 N.2.2.1)/\∃ (pc:Option Addr) (cc:Nat),w.cell? ⟨b,o+i*4+3,none⟩=some (.slice pc N.2.2.2.length cc)/\Zhp w w.heap.size pc N.2.2.2:=by
     intro i hil
     obtain ⟨cs',n,y,h3,h4,h5⟩:=hi i hil
     obtain ⟨_,_,v0,y0,g0,t0⟩:=Jx (k:=4) Tryz.underlying61 h5 0 _ rfl (by kernel_rfl) (by kernel_rfl) (by decide)
     obtain ⟨_,_,v1,y1,g1,t1⟩:=Jx (k:=4) Tryz.underlying61 h5 1 _ rfl (by kernel_rfl) (by kernel_rfl) (by decide)
     obtain ⟨_,_,v2,y2,g2,t2⟩:=Jx (k:=4) Tryz.underlying61 h5 2 _ rfl (by kernel_rfl) (by kernel_rfl) (by decide)
     obtain ⟨_,_,v3,y3,g3,t3⟩:=Jx (k:=4) Tryz.underlying61 h5 3 _ rfl (by kernel_rfl) (by kernel_rfl) (by decide)
     obtain ⟨a,rfl,_⟩:=Zah t0
     obtain ⟨l,rfl,_⟩:=Zah t1
     obtain ⟨r,rfl,_⟩:=Zah t2
     obtain ⟨pc,c,cc,rfl,hc,hr⟩:=Ybd t3
     exact ⟨(a,l,r,c),hr,(h4 0 (by decide)).trans g0,(h4 1 (by decide)).trans g1,(h4 2 (by decide)).trans g2,pc,cc,(h4 3 (by decide)).trans g3,hc⟩
    obtain ⟨N,hN⟩ := @Deep.choose_lt _ ⟨((0,0,0,[]):FnP)⟩ _ _ this
    exact ⟨N,fun i hi=>(hN i hi).1,fun _=>⟨b,o,rfl,hbl,fun i hi=>(hN i hi).2⟩⟩
 obtain ⟨N,hR,hN⟩:=hex
 refine ⟨p,(List.range len).map N,cap,by simp,fun h0 => ?_,fun y hy => ?_⟩
 · simp only [List.length_map,List.length_range] at h0
   obtain ⟨b,o,e,hbl,hi⟩:=hN h0
   refine ⟨b,o,e,hbl,fun j a l r c hj => ?_⟩
   have hl:=(List.getElem?_eq_some_iff.1 hj).1
   simp only [List.length_map,List.length_range] at hl
   have:=hi j hl
   have e:N j=(a,l,r,c):=by simpa [hl] using hj
   rw [e] at this
   exact this
 · obtain ⟨i,hi,rfl⟩:=List.mem_map.1 hy
   exact hR i (List.mem_range.1 hi)
theorem read_prog {v:Value} {d:DataW H} {ps:List MemPlace} (hv:∃ cs,v = .agg cs) (h:DataW.Trod enc Tryz.prog w 0 (fun _=>true) true 26 v d ps) :
 ∃ (mem:Int) (dl:Txt) (fs:List FnP) (pd pF:Option Addr) (cd cF:Nat),v = .agg #[.int .i64 mem,.slice pd dl.length cd,.slice pF fs.length cF]/\Zam w w.heap.size pF fs/\Zdi w pd dl/\dl.length<=9223372036854775807/\∀ f∈fs,(∀ y∈f.2.2.2,Zpp y.2):=by
 obtain ⟨cs,rfl⟩:=hv
 obtain ⟨fuel,h⟩:=h
 have h':DataW.trod enc Tryz.prog w 0 (fun _=>true) true fuel 26 cs.toList=some (d,ps):=h
 obtain ⟨hl,_,v0,y0,g0,t0⟩:=Jx (k:=3) Tryz.underlying26 h' 0 _ rfl (by kernel_rfl) (by kernel_rfl) (by decide)
 obtain ⟨_,_,v1,y1,g1,t1⟩:=Jx (k:=3) Tryz.underlying26 h' 1 _ rfl (by kernel_rfl) (by kernel_rfl) (by decide)
 obtain ⟨_,_,v2,y2,g2,t2⟩:=Jx (k:=3) Tryz.underlying26 h' 2 _ rfl (by kernel_rfl) (by kernel_rfl) (by decide)
 obtain ⟨mem,rfl,_⟩:=Zah t0
 obtain ⟨pd,dl,cd,rfl,hd,hn⟩:=Zxj t1
 obtain ⟨pF,fs,cF,rfl,hF,hR⟩:=Yga t2
 refine ⟨mem,dl,fs,pd,pF,cd,cF,?_,hF,hd,hn,hR⟩
 obtain ⟨a,b,c,e⟩:=Yqf hl
 have:cs = #[a,b,c]:=by
  have:=congrArg List.toArray e
  simpa using this
 subst this
 simp at g0 g1 g2
 rw [g0,g1,g2]
end
def Rdn (ap:Bool) (l:Txt) (ps:List Pc):Prop:=∀ f,l.length<f->Zmb f ap l=some ps
theorem Yog {l:Txt} {ps:List Pc} (h:Rdn true l ps):Zsn l=some ps:=h _ (Nat.lt_succ_self _)
theorem Yjf (ap:Bool):Rdn ap [] []:=by
 intro f hf
 obtain ⟨g,rfl⟩:∃ g,f=g+1:=⟨f - 1,by simp at hf;omega⟩
 rfl
theorem Yks (ap:Bool) {c:UInt8} {r:Txt} (h:c.toNat=59):Rdn ap (c::r) []:=by
 intro f hf
 obtain ⟨g,rfl⟩:∃ g,f=g+1:=⟨f - 1,by simp at hf;omega⟩
 rw [Zmb,if_pos h]
theorem Zgr {ap:Bool} {c:UInt8} {r:Txt} {ps:List Pc} (h:c.toNat=32\/c.toNat=9\/c.toNat=13) (hr:Rdn true r ps):Rdn ap (c::r) ps:=by
 intro f hf
 obtain ⟨g,rfl⟩:∃ g,f=g+1:=⟨f - 1,by simp at hf;omega⟩
 rw [Zmb,if_neg (by omega),if_pos h]
 exact hr g (by simp at hf;omega)
theorem Zvc {ap:Bool} {r:Txt} {ps:List Pc} (hr:Rdn true r ps):Rdn ap (58::r) (.colon::ps):=by
 intro f hf
 obtain ⟨g,rfl⟩:∃ g,f=g+1:=⟨f - 1,by simp at hf;omega⟩
 rw [Zmb,if_neg (by decide),if_neg (by decide),if_pos (by decide),hr g (by simp at hf;omega)]
 rfl
theorem Yje {c:UInt8} {r:Txt} {p:Pc} {k:Nat} {ps:List Pc} (hb:Zly c) (ho:Zso (c::r)=some (p,k)) (hr:Rdn false ((c::r).drop k) ps):Rdn true (c::r) (p::ps):=by
 intro f hf
 obtain ⟨g,rfl⟩:∃ g,f=g+1:=⟨f - 1,by simp at hf;omega⟩
 have hk:=Zfb ho
 obtain ⟨c1,c2,c3,c4,c5⟩:=hb
 rw [Zmb,if_neg c1,if_neg (by omega),if_neg c5,if_neg (by decide),ho]
 show Option.map _ _=_
 rw [hr g (by rw [List.length_drop];omega)]
 rfl
def Blk (b:Txt):Prop:=∀ c∈b,c.toNat=32\/c.toNat=9\/c.toNat=13
theorem Zkl {b r:Txt} {ps:List Pc} (h:Blk b) (hr:Rdn true r ps):Rdn true (b++r) ps:=by
 induction b with
 | nil=>exact hr
 | cons c b ih=>exact Zgr (h c (List.mem_cons_self ..)) (ih fun d hd=>h d (List.mem_cons_of_mem _ hd))
def Zzr (l:Txt):Prop:=∀ c r,l=c::r->tlB c=false
theorem Yax {t l:Txt} (h:∀ c∈t,tlB c=true) (hl:Zzr l):Zdj (t++l)=t.length:=by
 unfold Zdj
 induction t with
 | nil =>
   cases l with
   | nil=>rfl
   | cons c r=>rw [List.nil_append,List.takeWhile_cons,if_neg (by rw [hl c r rfl];decide)]
 | cons c t ih =>
   rw [List.cons_append,List.takeWhile_cons,if_pos (h c (List.mem_cons_self ..)),List.length_cons,ih fun d hd=>h d (List.mem_cons_of_mem _ hd)]
   rfl
def Ziv (t:Txt):Prop:=(∃ c r,t=c::r/\Zoz c=true)/\∀ c∈t,tlB c=true
theorem Zyh {c:UInt8} (h:Zoz c=true):Zly c:=by
 unfold Zoz Zjc at h
 simp at h
 exact ⟨by omega,by omega,by omega,by omega,by omega⟩
theorem Zaw {t l:Txt} {ps:List Pc} (h:Ziv t) (hl:Zzr l) (hr:Rdn false l ps):Rdn true (t++l) (.word t::ps):=by
 obtain ⟨⟨c,r,rfl,hc⟩,ht⟩:=h
 have hn:=Yax ht hl
 rw [List.cons_append] at hn ⊢
 refine Yje (Zyh hc) (by rw [Zso,if_pos hc,hn];rw [<- List.cons_append,List.take_left'];rfl) ?_
 rw [<- List.cons_append,List.drop_left' rfl]
 exact hr
def Yrb (t:Txt) (n:Int):Prop:=(∃ c r,t=c::r/\(c.toNat=45\/Zea c=true)/\∀ d∈r,tlB d=true)/\Zzw t=some (n,false)
theorem Zzg {c:UInt8} (h:c.toNat=45\/Zea c=true):Zly c/\Zoz c=false/\c.toNat≠34:=by
 unfold Zea Zmg at h
 simp at h
 refine ⟨⟨by omega,by omega,by omega,by omega,by omega⟩,?_,by omega⟩
 unfold Zoz Zjc
 simp
 omega
theorem Zqd {t l:Txt} {n:Int} {ps:List Pc} (h:Yrb t n) (hl:Zzr l) (hr:Rdn false l ps):Rdn true (t++l) (.num n false::ps):=by
 obtain ⟨⟨c,r,rfl,hc,ht⟩,hn⟩:=h
 obtain ⟨h1,h2,h3⟩:=Zzg hc
 have hw:=Yax ht hl
 rw [List.cons_append]
 refine Yje (k:=1+r.length) h1 (by
  rw [Zso,if_neg (by rw [h2];decide),if_neg h3,if_pos hc,hw,<- List.cons_append,List.take_left' (by simp;omega),hn];rfl) ?_
 rw [<- List.cons_append,List.drop_left' (by simp;omega)]
 exact hr
theorem Ycb {t:Txt} (hn:t.head? ≠ some 45) (h:¬ ([48,120].isPrefixOf t=true/\2<t.length)):Zzw t=(Lib.decNat t).map fun (v:Nat)=>if v<9223372036854775808 then ((v:Int),false) else (0,true):=by
 by_cases hp:[48,120].isPrefixOf t=true
 · obtain ⟨r,rfl⟩:∃ r,t=48::120::r:=by
    match t,hp with
    | a::b::r,hp =>
      simp at hp
      obtain ⟨rfl,rfl⟩:=hp
      exact ⟨r,rfl⟩
    | [_],hp=>simp at hp
    | [],hp=>simp at hp
   have hr:r=[]:=by
    cases r with
    | nil=>rfl
    | cons a q=>exact absurd ⟨hp,by simp⟩ h
   subst hr
   rfl
 · unfold Zzw
   rw [if_neg hp]
   have:(t.head? == some 45)=false:=by simpa using hn
   simp only [this,Bool.false_eq_true,if_false]
   cases Lib.decNat t with
   | none=>rfl
   | some v =>
     show some (if (v:Int)<9223372036854775808 then ((v:Int),false) else (0,true))=some (if v<9223372036854775808 then ((v:Int),false) else (0,true))
     by_cases hv:v<9223372036854775808
     · rw [if_pos (by omega),if_pos hv]
     · rw [if_neg (by omega),if_neg hv]
theorem Ycc (m:Txt):Zzw (45::m)=(Lib.decNat m).map fun (v:Nat)=>if v<=9223372036854775808 then (-(v:Int),false) else (0,true):=by
 unfold Zzw
 rw [if_neg (by simp)]
 have h45:(((45:UInt8)::m).head? == some 45)=true:=by simp
 simp only [h45,if_true,List.drop_succ_cons,List.drop_zero]
 cases Lib.decNat m with
 | none=>rfl
 | some v =>
   show some (if (v:Int)<=9223372036854775808 then (-(v:Int),false) else (0,true))=some (if v<=9223372036854775808 then (-(v:Int),false) else (0,true))
   by_cases hv:v<=9223372036854775808
   · rw [if_pos (by omega),if_pos hv]
   · rw [if_neg (by omega),if_neg hv]
theorem Xv:∀ (u:Nat),Lib.decDigits u≠[]/\(∀ c∈Lib.decDigits u,Zea c=true):=by
 intro u
 induction u using Nat.strongRecOn with
 | _ u ih =>
   have hd:∀ d:Fin 10,Zea (UInt8.ofNat (48+d.val))=true:=by decide
   by_cases h:u<10
   · rw [Lib.decDigits,dif_pos h]
     refine ⟨by simp,fun c hc => ?_⟩
     rw [List.mem_singleton.1 hc]
     exact hd ⟨u,h⟩
   · rw [Lib.decDigits,dif_neg h]
     refine ⟨by simp,fun c hc => ?_⟩
     rcases List.mem_append.1 hc with hc|hc
     · exact (ih (u / 10) (by omega)).2 c hc
     · rw [List.mem_singleton.1 hc]
       exact hd ⟨u % 10,by omega⟩
theorem Zfu:∀ (a b:Txt) (k m:Nat),Lib.decFrom k a=some m->Lib.decFrom k (a++b)=Lib.decFrom m b
 | [],b,k,m,h=>by injection h with h;subst h;rfl
 | c::a,b,k,m,h=>by
   rw [List.cons_append,Lib.decFrom]
   rw [Lib.decFrom] at h
   cases hc:Lib.digitVal c with
   | none=>rw [hc] at h;cases h
   | some d=>rw [hc] at h;exact Zfu a b _ m h
theorem Zuf (u:Nat):Lib.decFrom 0 (Lib.decDigits u)=some u:=by
 induction u using Nat.strongRecOn with
 | _ u ih =>
   have hd:∀ d:Fin 10,Lib.digitVal (UInt8.ofNat (48+d.val))=some d.val:=by decide
   by_cases h:u<10
   · rw [Lib.decDigits,dif_pos h,Lib.decFrom,hd ⟨u,h⟩]
     show some (0*10+u)=_
     simp
   · rw [Lib.decDigits,dif_neg h,Zfu _ _ _ _ (ih (u / 10) (by omega)),Lib.decFrom,hd ⟨u % 10,by omega⟩]
     show some (u / 10*10+u % 10)=_
     congr 1;omega
theorem Zfe (u:Nat):Lib.decNat (Lib.decDigits u)=some u:=by
 unfold Lib.decNat
 rw [if_neg (by simpa using (Xv u).1)]
 exact Zuf u
theorem Zrt {c:UInt8} (h:Zea c=true):tlB c=true:=by
 unfold tlB tlI
 unfold Zea at h
 rw [h];simp
theorem Zhd (u:Nat):Lib.itoa (u:Int)=Lib.decDigits u:=by unfold Lib.itoa;rw [if_neg (by omega)];simp
theorem Zfv {u:Nat} {c:UInt8} {r:Txt} (h:Lib.decDigits u=c::r):Zea c=true/\∀ d∈r,Zea d=true:=by
 have h1:=(Xv u).2
 rw [h] at h1
 exact ⟨h1 c (List.mem_cons_self ..),fun d hd=>h1 d (List.mem_cons_of_mem _ hd)⟩
theorem Zgx (n:Int) (h1 : -9223372036854775808<=n) (h2:n<9223372036854775808):Yrb (Lib.itoa n) n:=by
 by_cases hn:n<0
 · obtain ⟨u,rfl⟩:∃ u:Nat,n = -(u:Int):=⟨n.natAbs,by omega⟩
   have e:Lib.itoa (-(u:Int))=45::Lib.decDigits u:=by unfold Lib.itoa;rw [if_pos hn];simp
   rw [e]
   refine ⟨⟨45,_,rfl,Or.inl (by decide),fun d hd=>Zrt ((Xv u).2 d hd)⟩,?_⟩
   rw [Ycc,Zfe]
   show some (if u<=9223372036854775808 then (-(u:Int),false) else (0,true))=_
   rw [if_pos (by omega)]
 · obtain ⟨u,rfl⟩:∃ u:Nat,n=(u:Int):=⟨n.toNat,by omega⟩
   rw [Zhd]
   cases hd:Lib.decDigits u with
   | nil=>exact absurd hd (Xv u).1
   | cons c r =>
     obtain ⟨g1,g2⟩:=Zfv hd
     refine ⟨⟨c,r,rfl,Or.inr g1,fun d h=>Zrt (g2 d h)⟩,?_⟩
     have hx:¬ ([48,120].isPrefixOf (c::r)=true):=by
      intro hp
      cases r with
      | nil=>simp at hp
      | cons d r =>
        simp at hp
        have:=g2 d (List.mem_cons_self ..)
        rw [<- hp.2] at this
        exact absurd this (by decide)
     have h45:(c::r:Txt).head? ≠ some 45:=by
      intro h
      injection h with h
      subst h
      exact absurd g1 (by decide)
     rw [Ycb h45 (fun h=>hx h.1),<- hd,Zfe]
     show some (if u<9223372036854775808 then ((u:Int),false) else (0,true))=_
     rw [if_pos (by omega)]
theorem Ydt {a b:Nat} (h:Lib.decDigits a=Lib.decDigits b):a=b:=by
 have h1:=Zfe a
 rw [h,Zfe] at h1
 injection h1 with h1;exact h1.symm
theorem Zrv:∀ (l r:Txt),(∀ c∈l,c.toNat≠10)->Zcr (l++10::r)=l::Zcr r
 | [],r,_=>by rw [List.nil_append,Zcr,if_pos (by decide)]
 | c::l,r,h=>by
   rw [List.cons_append,Zcr,if_neg (h c (List.mem_cons_self ..)),Zrv l r fun d hd=>h d (List.mem_cons_of_mem _ hd)]
def Zqv (T:Tab) (s:St) (ps:List Pc) (line:Nat):Except Int St:=match Zkk T ps with
 | none => .error 141
 | some x=>Zbx T s x (Zgc ps) line
theorem Yhk {T:Tab} {s:St} {l:Txt} {ps:List Pc} (n:Nat) (h:Zsn l=some ps):Zyj T s l n=Zqv T s ps n:=by
 unfold Zyj Zqv;rw [h];rfl
def Zfo (T:Tab):St->Nat->List (List Pc)->Except (Int × Nat) St
 | s,_,[] => .ok s
 | s,n,l::r=>match Zqv T s l n with
   | .error e => .error (e,n)
   | .ok s1=>Zfo T s1 (n+1) r
inductive Al2 (R:Txt->List Pc->Prop):List Txt->List (List Pc)->Prop
 | nil:Al2 R [] []
 | cons {l:Txt} {ps:List Pc} {ls:List Txt} {qs:List (List Pc)}:R l ps->Al2 R ls qs->Al2 R (l::ls) (ps::qs)
theorem Zdh {R:Txt->List Pc->Prop} {a c:List Txt} {b d:List (List Pc)} (h:Al2 R a b) (g:Al2 R c d):Al2 R (a++c) (b++d):=by
 induction h with
 | nil=>exact g
 | cons h _ ih=>exact .cons h ih
theorem Zpk {R:Txt->List Pc->Prop} {f:Nat->List Txt} {g:Nat->List (List Pc)}:∀ (l:List Nat),(∀ k∈l,Al2 R (f k) (g k))->Al2 R (l.flatMap f) (l.flatMap g)
 | [],_ => .nil
 | k::l,h=>by
   rw [List.flatMap_cons,List.flatMap_cons]
   exact Zdh (h k (List.mem_cons_self ..)) (Zpk l fun j hj=>h j (List.mem_cons_of_mem _ hj))
abbrev RdL:=Al2 (Rdn true)
theorem Ycl {T:Tab} {ls:List Txt} {qs:List (List Pc)} (h:RdL ls qs):∀ s n,Zky T s n ls=Zfo T s n qs:=by
 induction h with
 | nil=>intro s n;rfl
 | cons h _ ih =>
   intro s n
   rw [Zky,Zfo,Yhk n (Yog h)]
   split
   · rename_i h2;rw [h2]
   · rename_i h2;rw [h2];exact ih _ _
def Zzq (T:Tab) (s:St) (ls:List (List Pc)) (Q:St->Prop):Prop:=∀ n,∃ s',Zfo T s n ls = .ok s'/\Q s'
theorem Zjw {T:Tab} {s:St} {Q:St->Prop} (h:Q s):Zzq T s [] Q:=fun n=>⟨s,rfl,h⟩
theorem Zfd {T:Tab} {s:St} {l:List Pc} {Q:St->Prop} (h:∀ n,∃ s',Zqv T s l n = .ok s'/\Q s'):Zzq T s [l] Q:=fun n=>by
 obtain ⟨s',h1,h2⟩:=h n
 exact ⟨s',by rw [Zfo,h1];rfl,h2⟩
theorem Zha {T:Tab}:∀ (a b:List (List Pc)) (s s1:St) (n:Nat),Zfo T s n a = .ok s1->Zfo T s n (a++b)=Zfo T s1 (n+a.length) b
 | [],b,s,s1,n,h=>by injection h with h;subst h;rfl
 | l::a,b,s,s1,n,h=>by
   rw [Zfo] at h
   rw [List.cons_append,Zfo]
   cases hl:Zqv T s l n with
   | error e=>rw [hl] at h;cases h
   | ok s2 =>
     rw [hl] at h
     simp only [] at h ⊢
     rw [Zha a b s2 s1 (n+1) h,List.length_cons]
     congr 1;omega
theorem Jl {T:Tab} {s:St} {a b:List (List Pc)} {Q R:St->Prop} (h:Zzq T s a Q) (g:∀ s',Q s'->Zzq T s' b R):Zzq T s (a++b) R:=fun n=>by
 obtain ⟨s',h1,h2⟩:=h n
 obtain ⟨s2,h3,h4⟩:=g s' h2 (n+a.length)
 exact ⟨s2,by rw [Zha a b s s' n h1];exact h3,h4⟩
def fnW (nm:Txt) (k:Nat):Txt:=nm++102::Lib.decDigits k
def lbW (nm:Txt) (k:Nat):Txt:=nm++76::Lib.decDigits k
theorem Ydk {nm:Txt} {a b:Nat} (h:fnW nm a=fnW nm b):a=b:=by
 unfold fnW at h
 have h:=List.append_cancel_left h
 injection h with _ h
 exact Ydt h
theorem Yco {nm:Txt} {a b:Nat} (h:lbW nm a=lbW nm b):a=b:=by
 unfold lbW at h
 have h:=List.append_cancel_left h
 injection h with _ h
 exact Ydt h
def Yey (nm:Txt):Prop:=nm=[]\/Ziv nm
theorem Zuq {nm:Txt} (h:Yey nm) {c:UInt8} (hc:Zoz c=true) (k:Nat):Ziv (nm++c::Lib.decDigits k):=by
 have ht:∀ d∈c::Lib.decDigits k,tlB d=true:=by
  intro d hd
  rcases List.mem_cons.1 hd with rfl|hd
  · exact Yjk hc
  · exact Zrt ((Xv k).2 d hd)
 rcases h with rfl|⟨⟨d,r,rfl,hd⟩,hr⟩
 · exact ⟨⟨c,_,rfl,hc⟩,ht⟩
 · refine ⟨⟨d,_,rfl,hd⟩,fun x hx => ?_⟩
   rcases List.mem_append.1 hx with hx|hx
   · exact hr x hx
   · exact ht x hx
theorem Yaf {nm:Txt} (h:Yey nm) (k:Nat):Ziv (fnW nm k):=Zuq h (by decide) k
theorem Yad {nm:Txt} (h:Yey nm) (k:Nat):Ziv (lbW nm k):=Zuq h (by decide) k
def Zma (t:Txt):Bool:=(match t with|[]=>false|c::_=>Zoz c) && t.all tlB
theorem Zdl {t:Txt} (h:Zma t=true):Ziv t:=by
 unfold Zma at h
 simp only [Bool.and_eq_true,List.all_eq_true] at h
 obtain ⟨h1,h2⟩:=h
 cases t with
 | nil=>cases h1
 | cons c r=>exact ⟨⟨c,r,rfl,h1⟩,h2⟩
def okC (c:UInt8):Bool:=c != 9 && c != 10 && c != 32 && c != 58
def Zef:Txt->Bool
 | []=>true
 | [c]=>okC c
 | c::d::r=>okC c && !((c == 76 || c == 102) && Zea d) && Zef (d::r)
theorem Zkr (T:List ShR) (x:Txt):Xi T x=T.findIdx? fun r=>r.1.data.toList == x:=by
 unfold Xi
 congr 1
 funext r
 rw [Lib.toList_data]
theorem Ylk:∀ n:Fin 46,((shapeT.findIdx? fun r=>r.1.data.toList == Zbp (n.val:Int)) == some n.val && Zma (Zbp (n.val:Int)) && Zef (Zbp (n.val:Int)) && (Zbp (n.val:Int) != Xn) && (Zbp (n.val:Int) != Zdm) && (Zbp (n.val:Int) != Zdy))=true:=by decide +kernel
theorem Ykc:∀ n:Fin 5,((callT.findIdx? fun r=>r.1.data.toList == Zzs (n.val:Int)) == some n.val && Zma (Zzs (n.val:Int)) && Zef (Zzs (n.val:Int)))=true:=by decide +kernel
theorem Yff {t:Txt} {n:Nat} (h:Xi shapeT t=some n):TT.named t=some (n:Int):=by
 have e:TT.named t=(Xi shapeT t).map fun n=>(n:Int):=rfl
 rw [e,h];rfl
theorem Yny {t:Txt} {n:Nat} (h:Xi callT t=some n):TT.sys t=some (n:Int):=by
 have e:TT.sys t=(Xi callT t).map fun n=>(n:Int):=rfl
 rw [e,h];rfl
structure Ypp (op:Int):Prop where
 w:Ziv (Zbp op)
 p:Zef (Zbp op)=true
 named:TT.named (Zbp op)=some op
 m:Zbp op≠Xn
 d:Zbp op≠Zdm
 f:Zbp op≠Zdy
 kind:TT.kind op=Yt op
theorem Zou {op:Int} {s:ByteArray × Int × Int × Int} (h:Zr op=some s):Ypp op:=by
 have hr:0<=op/\op<46:=by
  by_cases hr:0<=op/\op<46
  · exact hr
  · rw [Zaa hr] at h;cases h
 obtain ⟨n,x,rfl,hn,h1,h2⟩:=Zbz hr
 have H:=Ylk ⟨n,hn⟩
 simp only [Bool.and_eq_true,bne_iff_ne,ne_eq,beq_iff_eq] at H
 obtain ⟨⟨⟨⟨⟨a1,a2⟩,a3⟩,a4⟩,a5⟩,a6⟩:=H
 refine ⟨Zdl a2,a3,?_,a4,a5,a6,?_⟩
 · exact Yff (by rw [Zkr,a1])
 · show Zig _=_
   unfold Zig Yt
   rw [h2,Int.toNat_natCast,h1];rfl
theorem Zob {a:Int} (h0:0<=a) (h1:a<5):Ziv (Zzs a)/\Zef (Zzs a)=true/\TT.sys (Zzs a)=some a:=by
 obtain ⟨n,rfl⟩:∃ n:Nat,a=n:=⟨a.toNat,by omega⟩
 have H:=Ykc ⟨n,by omega⟩
 simp only [Bool.and_eq_true,bne_iff_ne,ne_eq,beq_iff_eq] at H
 obtain ⟨⟨a1,a2⟩,a3⟩:=H
 refine ⟨Zdl a2,a3,?_⟩
 exact Yny (by rw [Zkr,a1])
def Yqe (nm:Txt) (nF nC:Nat) (kind a:Int):List Pc :=
 if kind=0 then []
 else if kind=3/\a<=nC then [.word (lbW nm a.toNat)]
 else if kind=4/\a<nF then [.word (fnW nm a.toNat)]
 else if kind=5 then [.word (Zzs a)]
 else [.num a false]
def Yht (nm:Txt) (nF nC:Nat) (x:Int × Int):List Pc := .word (Zbp x.1)::Yqe nm nF nC (Yt x.1) x.2
def plP (nm:Txt) (nF:Nat) (code:List (Int × Int)) (k:Nat):List (List Pc):=(if Xp code k then [[.word (lbW nm k),.colon]] else [])++(match code[k]? with|some x=>[Yht nm nF code.length x]|none=>[])
def Zsb (nm:Txt) (nF:Nat) (code:List (Int × Int)) (n:Nat):List (List Pc):=(List.range n).flatMap (plP nm nF code)
def Zub (nm:Txt) (k:Nat) (f:FnR):List Pc:=[.word Zdy,.word (fnW nm k),.num f.1 false,.num f.2.1 false,.num f.2.2.1 false]
def fnP (nm:Txt) (nF k:Nat) (f:FnR):List (List Pc):=Zub nm k f::Zsb nm nF f.2.2.2 (f.2.2.2.length+1)
def Ynl (nm:Txt) (fs:List FnR) (n:Nat):List (List Pc):=(List.range n).flatMap fun k=>match fs[k]? with|some f=>fnP nm fs.length k f|none=>[]
def Zut (mem:Int) (d:Txt):List (List Pc):=[[.word Xn,.num mem false]]++(if d=[] then [] else [[.word Zdm,.str d]])
def Zxp (nm:Txt) (p:PrP):List (List Pc):=Zut p.1 p.2.1++Ynl nm p.2.2 p.2.2.length
def isW (nF nC:Nat) (x:Int × Int):Bool:=(Yt x.1 == 3 && decide (x.2<=nC)) || (Yt x.1 == 4 && decide (x.2<nF))
def Zzt (nF nC:Nat) (x:Int × Int):Int × Int:=if isW nF nC x then (x.1,0) else x
def Yrd (nF:Nat) (f:FnR):FnR:=(f.1,f.2.1,f.2.2.1,f.2.2.2.map (Zzt nF f.2.2.2.length))
def Zbr (nm:Txt) (code:List (Int × Int)) (n:Nat):List (Txt × Nat):=(List.range n).flatMap fun j=>if Xp code j then [(lbW nm j,j)] else []
theorem Zfz (nm:Txt) (code:List (Int × Int)) (n:Nat):Zbr nm code (n+1)=Zbr nm code n++(if Xp code n then [(lbW nm n,n)] else []):=by
 unfold Zbr;rw [List.range_succ,List.flatMap_append];simp
theorem Znf {nm:Txt} {code:List (Int × Int)} {n:Nat} {x:Txt × Nat} (h:x∈Zbr nm code n):∃ j,j<n/\Xp code j=true/\x=(lbW nm j,j):=by
 unfold Zbr at h
 obtain ⟨j,hj,hx⟩:=List.mem_flatMap.1 h
 split at hx
 · rename_i hg
   exact ⟨j,List.mem_range.1 hj,hg,by simpa using hx⟩
 · simp at hx
theorem Zla {nm:Txt} {code:List (Int × Int)}:∀ {n a:Nat},a<n->Xp code a=true->(Zbr nm code n).find? (fun x=>x.1 == lbW nm a)=some (lbW nm a,a)
 | 0,a,h,_=>absurd h (Nat.not_lt_zero _)
 | n+1,a,h,hg=>by
   rw [Zfz,List.find?_append]
   by_cases ha:a<n
   · rw [Zla ha hg];rfl
   · have:a=n:=by omega
     subst this
     have h1:(Zbr nm code a).find? (fun x=>x.1 == lbW nm a)=none:=by
      rw [List.find?_eq_none]
      intro x hx
      obtain ⟨j,hj,_,rfl⟩:=Znf hx
      simp only [beq_iff_eq]
      intro he
      exact absurd (Yco he) (by omega)
     rw [h1,if_pos hg]
     simp
def Ypw (nm:Txt) (fs:List FnR) (w:Zjo):Prop:=∃ F X,fs[w.fn]? = some F/\F.2.2.2[w.pl]? = some X/\0<=X.2 /\
 ((w.jump=true/\Yt X.1=3/\X.2<=F.2.2.2.length/\w.word=lbW nm X.2.toNat)\/(w.jump=false/\Yt X.1=4/\X.2<fs.length/\w.word=fnW nm X.2.toNat))
structure StI (nm:Txt) (P:PrP) (k:Nat) (F:List FnR) (L:List (List (Txt × Nat))) (done:Nat->Nat->Prop) (s:St):Prop where
 mem:s.mem=P.1
 ms:s.memSet=true
 data:s.data=P.2.1
 funcs:s.funcs=F
 names:s.names=(List.range k).map (fnW nm)
 labels:s.labels=L
 w1:∀ w∈s.wants,Ypw nm P.2.2 w
 w2:∀ i p f x,P.2.2[i]? = some f->f.2.2.2[p]? = some x->done i p->isW P.2.2.length f.2.2.2.length x=true->∃ w∈s.wants,w.fn=i/\w.pl=p
def Zzf (P:PrP) (k:Nat):List FnR:=(P.2.2.take k).map (Yrd P.2.2.length)
def Zze (nm:Txt) (P:PrP) (k:Nat):List (List (Txt × Nat)):=(P.2.2.take k).map fun f=>Zbr nm f.2.2.2 (f.2.2.2.length+1)
def Zlx (nm:Txt) (P:PrP) (k:Nat) (s:St):Prop:=StI nm P k (Zzf P k) (Zze nm P k) (fun i _=>i<k) s
def Yju (nm:Txt) (P:PrP) (k j jl:Nat) (f:FnR) (s:St):Prop :=
 StI nm P (k+1) (Zzf P k++[(f.1,f.2.1,f.2.2.1,(f.2.2.2.take j).map (Zzt P.2.2.length f.2.2.2.length))]) (Zze nm P k++[Zbr nm f.2.2.2 jl]) (fun i p=>i<k\/i=k/\p<j) s
theorem Yfg {α:Type} {l:List α} {k:Nat} {f:α} (h:l[k]? = some f):(l.take k).length=k:=by
 have:=(List.getElem?_eq_some_iff.1 h).1
 rw [List.length_take];omega
theorem Ygp {nm:Txt} {P:PrP} {k:Nat} {f:FnR} {s:St} (hf:P.2.2[k]? = some f) (h:Yju nm P k f.2.2.2.length (f.2.2.2.length+1) f s):Zlx nm P (k+1) s:=by
 obtain ⟨h1,h2,h3,h4,h5,h6,h7,h8⟩:=h
 refine ⟨h1,h2,h3,?_,h5,?_,h7,?_⟩
 · rw [h4,List.take_length]
   unfold Zzf
   rw [List.take_add_one,hf,List.map_append]
   rfl
 · rw [h6]
   unfold Zze
   rw [List.take_add_one,hf,List.map_append]
   rfl
 · intro i p g x hi hp hd hw
   refine h8 i p g x hi hp ?_ hw
   by_cases hik:i<k
   · exact Or.inl hik
   · have:i=k:=by omega
     subst this
     rw [hf] at hi
     injection hi with hi
     subst hi
     exact Or.inr ⟨rfl,(List.getElem?_eq_some_iff.1 hp).1⟩
theorem Zbf (t:Txt) (r:List Pc) (h:∀ q,r ≠ .colon::q):Zkk TT (.word t::r)=Zmc TT (.word t::r):=by
 have e:Yi (.word t::r)=([],.word t::r):=by
  unfold Yi
  split
  · rename_i h'
    injection h' with _ h'
    exact absurd h' (h _)
  · rfl
 unfold Zkk
 simp only [e]
theorem Yat (nm:Txt) (k:Nat) (f:FnR):Zkk TT (Zub nm k f)=some (.fn (fnW nm k) f.1 f.2.1 f.2.2.1):=by
 unfold Zub
 rw [Zbf _ _ (by intro r h;cases h)]
 unfold Zmc
 simp only []
 rw [if_neg (by decide),if_neg (by decide)]
 simp
theorem Yao {nm:Txt} {P:PrP} {k:Nat} {f:FnR} {s:St} (hf:P.2.2[k]? = some f) (h:Zlx nm P k s):Zzq TT s [Zub nm k f] (Yju nm P k 0 0 f):=by
 obtain ⟨h1,h2,h3,h4,h5,h6,h7,h8⟩:=h
 refine Zfd fun n => ?_
 have hc:s.names.contains (fnW nm k)=false:=by
  rw [h5]
  rw [Bool.eq_false_iff]
  intro hm
  have hm:=List.contains_iff_mem.1 hm
  obtain ⟨j,hj,e⟩:=List.mem_map.1 hm
  exact absurd (Ydk e) (by have:=List.mem_range.1 hj;omega)
 refine ⟨{ s with funcs:=s.funcs++[(f.1,f.2.1,f.2.2.1,[])],names:=s.names++[fnW nm k],labels:=s.labels++[[]] },?_,h1,h2,h3,?_,?_,?_,h7,?_⟩
 · unfold Zqv
   rw [Yat]
   show Zbx TT s _ false n=_
   unfold Zbx
   rw [if_neg (by simp [Zel]),if_neg (by decide)]
   simp only [hc,Bool.false_eq_true,if_false]
 · show s.funcs++_=_
   rw [h4];simp
 · show s.names++_=_
   rw [h5,List.range_succ,List.map_append];rfl
 · show s.labels++_=_
   rw [h6];rfl
 · intro i p g x hi hp hd hw
   exact h8 i p g x hi hp (by omega) hw
theorem Yfp (t:Txt):Zkk TT [.word t,.colon]=some (.code [t] none):=rfl
theorem Jm {α:Type} (l:List α) (a d:α):(l++[a]).getLastD d=a:=by simp
theorem Zoe {α:Type} (l:List α) (a b:α):(l++[a]).set ((l++[a]).length - 1) b=l++[b]:=by
 rw [List.length_append,List.length_singleton,Nat.add_sub_cancel];simp [List.set_append]
theorem Zus {nm:Txt} {P:PrP} {k j:Nat} {f:FnR} {s:St} (hf:P.2.2[k]? = some f) (hj:j<=f.2.2.2.length) (h:Yju nm P k j j f s) :
 Zzq TT s (if Xp f.2.2.2 j then [[.word (lbW nm j),.colon]] else []) (Yju nm P k j (j+1) f):=by
 obtain ⟨h1,h2,h3,h4,h5,h6,h7,h8⟩:=h
 by_cases hg:Xp f.2.2.2 j=true
 · rw [if_pos hg]
   refine Zfd fun n => ?_
   have hany:(Zbr nm f.2.2.2 j).any (fun x=>x.1 == lbW nm j)=false:=by
    rw [List.any_eq_false]
    intro x hx
    obtain ⟨i,hi,_,rfl⟩:=Znf hx
    simp only [beq_iff_eq]
    intro he
    exact absurd (Yco he) (by omega)
   have hl:(Zbq s).2.2.2.length=j:=by
    unfold Zbq
    rw [h4,Jm,List.length_map,List.length_take];omega
   have hl2:s.labels.getLastD []=Zbr nm f.2.2.2 j:=by rw [h6,Jm]
   have hadd:Zfw (Zbq s).2.2.2.length (s.labels.getLastD []) [lbW nm j]=some (Zbr nm f.2.2.2 (j+1)):=by
    rw [hl,hl2,Zfz,if_pos hg,Zfw,if_neg (by rw [hany];decide),Zfw]
   refine ⟨{ s with labels:=s.labels.set (s.labels.length - 1) (Zbr nm f.2.2.2 (j+1)) },?_,h1,h2,h3,h4,h5,?_,h7,h8⟩
   · unfold Zqv
     rw [Yfp]
     show Zbx TT s _ false n=_
     unfold Zbx
     rw [if_neg (by simp [Zel,h4]),if_neg (by decide)]
     simp only [hadd]
   · show s.labels.set _ _=_
     rw [h6,Zoe]
 · rw [if_neg hg]
   refine Zjw ⟨h1,h2,h3,h4,h5,?_,h7,h8⟩
   rw [h6,Zfz,if_neg hg,List.append_nil]
def Zsp (nm:Txt) (nF nC:Nat) (x:Int × Int):Option Txt:=if isW nF nC x then some (if Yt x.1=3 then lbW nm x.2.toNat else fnW nm x.2.toNat) else none
theorem Yfq {nm:Txt} {nF nC:Nat} {x:Int × Int} {s:ByteArray × Int × Int × Int} (hs:Zr x.1=some s) (hm:Zdw s.2.1.toNat x.2=true) :
 Zkk TT (Yht nm nF nC x)=some (.code [] (some (x.1,(Zzt nF nC x).2,Zsp nm nF nC x)))/\Zgc (Yht nm nF nC x)=false:=by
 obtain ⟨hw,_,hn,n1,n2,n3,hk⟩:=Zou hs
 have hks:Yt x.1=s.2.1:=by unfold Yt;rw [hs]
 have hk0:0<=s.2.1/\s.2.1<7:=by
  refine Zmo s ?_
  unfold Zr at hs
  split at hs
  · exact List.mem_of_getElem? hs
  · cases hs
 have hline:∀ r:List Pc,Zmc TT (.word (Zbp x.1)::r)=Zld TT [] (.word (Zbp x.1)::r):=fun r=>by
  unfold Zmc
  simp only []
  rw [if_neg n1,if_neg n2,if_neg n3]
 have hbig:∀ r:List Pc,Zgc (.word (Zbp x.1)::r)=Zgc r:=fun r=>by unfold Zgc;rw [List.any_cons];rfl
 have h0:Yt x.1=0->x.2=0:=fun h=>by
  rw [hks] at h;rw [h] at hm;simpa [Zdw] using hm
 have h5:Yt x.1=5->0<=x.2/\x.2<5:=fun h=>by
  rw [hks] at h;rw [h] at hm;simpa [Zdw,bK] using hm
 unfold Yht Yqe Zzt Zsp
 by_cases k0:Yt x.1=0
 · have hw0:isW nF nC x=false:=by unfold isW;rw [k0];rfl
   rw [if_pos k0,if_neg (by rw [hw0];decide),if_neg (by rw [hw0];decide)]
   refine ⟨?_,rfl⟩
   rw [Zbf _ _ (by intro r h;cases h),hline]
   unfold Zld
   simp only [hn,hk,k0,if_true]
   rw [h0 k0]
 · rw [if_neg k0]
   by_cases k3:Yt x.1=3/\x.2<=nC
   · have hw0:isW nF nC x=true:=by unfold isW;rw [k3.1];simp [k3.2]
     rw [if_pos k3,if_pos hw0,if_pos hw0,if_pos k3.1]
     refine ⟨?_,rfl⟩
     rw [Zbf _ _ (by intro r h;cases h),hline]
     unfold Zld
     simp only [hn,hk,k3.1]
     rfl
   · rw [if_neg k3]
     by_cases k4:Yt x.1=4/\x.2<nF
     · have hw0:isW nF nC x=true:=by unfold isW;rw [k4.1];simp [k4.2]
       rw [if_pos k4,if_pos hw0,if_pos hw0,if_neg (by rw [k4.1];decide)]
       refine ⟨?_,rfl⟩
       rw [Zbf _ _ (by intro r h;cases h),hline]
       unfold Zld
       simp only [hn,hk,k4.1]
       rfl
     · rw [if_neg k4]
       have hw0:isW nF nC x=false:=by
        unfold isW
        rw [Bool.or_eq_false_iff,Bool.and_eq_false_iff,Bool.and_eq_false_iff]
        refine ⟨?_,?_⟩
        · by_cases h:Yt x.1=3
          · right;simpa using fun h2=>k3 ⟨h,h2⟩
          · left;simpa using h
        · by_cases h:Yt x.1=4
          · right;simpa using fun h2=>k4 ⟨h,h2⟩
          · left;simpa using h
       have hw1:¬ isW nF nC x=true:=by rw [hw0];decide
       rw [if_neg hw1,if_neg hw1]
       by_cases k5:Yt x.1=5
       · rw [if_pos k5]
         refine ⟨?_,rfl⟩
         obtain ⟨g1,g2⟩:=h5 k5
         obtain ⟨_,_,g3⟩:=Zob g1 g2
         rw [Zbf _ _ (by intro r h;cases h),hline]
         unfold Zld
         simp only [hn,hk,k5,g3]
         rfl
       · rw [if_neg k5]
         refine ⟨?_,rfl⟩
         rw [Zbf _ _ (by intro r h;cases h),hline]
         unfold Zld
         simp only [hn,hk,if_neg k0]
theorem Ydi {code:List (Int × Int)} {x:Int × Int} {k:Nat} (h:x∈code) (hk:Yt x.1=3) (ha:x.2=(k:Int)):Xp code k=true:=by
 unfold Xp
 rw [List.any_eq_true]
 exact ⟨x,h,by simp [hk,ha]⟩
def Zmk (s:St) (n:Nat) (op:Int) (o:Option Txt):List Zjo:=match o with
 | none=>s.wants
 | some t=>s.wants++[⟨s.funcs.length - 1,(Zbq s).2.2.2.length,n,t,TT.kind op == 3⟩]
theorem Yfj {nm:Txt} {P:PrP} {k j:Nat} {f:FnR} {s:St} {x:Int × Int} {sh:ByteArray × Int × Int × Int} (hf:P.2.2[k]? = some f) (hx:f.2.2.2[j]? = some x) (hs:Zr x.1=some sh) (hm:Zdw sh.2.1.toNat x.2=true)
 (h:Yju nm P k j (j+1) f s):Zzq TT s [Yht nm P.2.2.length f.2.2.2.length x] (Yju nm P k (j+1) (j+1) f):=by
 obtain ⟨h1,h2,h3,h4,h5,h6,h7,h8⟩:=h
 obtain ⟨g1,g2⟩:=Yfq (nm:=nm) (nF:=P.2.2.length) (nC:=f.2.2.2.length) hs hm
 have hjl:j<f.2.2.2.length:=(List.getElem?_eq_some_iff.1 hx).1
 have hkl:=Yfg hf
 have hl:(Zbq s).2.2.2.length=j:=by
  unfold Zbq
  rw [h4,Jm,List.length_map,List.length_take];omega
 have hfl:s.funcs.length - 1=k:=by
  rw [h4];unfold Zzf
  rw [List.length_append,List.length_map,hkl];simp
 have h0:isW P.2.2.length f.2.2.2.length x=true->0<=x.2:=fun hw=>by
  unfold isW at hw
  have hks:Yt x.1=sh.2.1:=by unfold Yt;rw [hs]
  simp only [Bool.or_eq_true,Bool.and_eq_true,beq_iff_eq] at hw
  rcases hw with hw|hw
  · have:=hw.1;rw [hks] at this;rw [this] at hm
    simp [Zdw] at hm;exact hm.1
  · have:=hw.1;rw [hks] at this;rw [this] at hm
    simp [Zdw] at hm;exact hm.1
 refine Zfd fun n => ?_
 have hput:Zca s (x.1,(Zzt P.2.2.length f.2.2.2.length x).2)=Zzf P k++[(f.1,f.2.1,f.2.2.1,(f.2.2.2.take (j+1)).map (Zzt P.2.2.length f.2.2.2.length))]:=by
  unfold Zca Zbq
  rw [h4,Zoe,Jm,List.take_add_one,hx,List.map_append]
  have:Zzt P.2.2.length f.2.2.2.length x=(x.1,(Zzt P.2.2.length f.2.2.2.length x).2):=by unfold Zzt;split <;> rfl
  rw [<- this]
  rfl
 have hlab:s.labels.set (s.labels.length - 1) (s.labels.getLastD [])=Zze nm P k++[Zbr nm f.2.2.2 (j+1)]:=by
  rw [h6,Zoe,Jm]
 refine ⟨{ s with labels:=s.labels.set (s.labels.length - 1) (s.labels.getLastD []),wants:=Zmk s n x.1 (Zsp nm P.2.2.length f.2.2.2.length x),funcs:=Zca s (x.1,(Zzt P.2.2.length f.2.2.2.length x).2) },?_,h1,h2,h3,hput,h5,hlab,?_,?_⟩
 · unfold Zqv
   rw [g1,g2]
   show Zbx TT s _ false n=_
   unfold Zbx
   rw [if_neg (by simp [Zel,h4]),if_neg (by decide)]
   rfl
 · intro w hw
   show Ypw nm P.2.2 w
   replace hw:w∈Zmk s n x.1 (Zsp nm P.2.2.length f.2.2.2.length x):=hw
   unfold Zmk Zsp at hw
   by_cases hi:isW P.2.2.length f.2.2.2.length x=true
   · rw [if_pos hi] at hw
     simp only [List.mem_append,List.mem_singleton] at hw
     rcases hw with hw|rfl
     · exact h7 w hw
     · rw [hfl,hl]
       refine ⟨f,x,hf,hx,h0 hi,?_⟩
       have hkd:=(Zou hs).kind
       unfold isW at hi
       simp only [Bool.or_eq_true,Bool.and_eq_true,beq_iff_eq,decide_eq_true_eq] at hi
       by_cases h3:Yt x.1=3
       · left
         refine ⟨by show (TT.kind x.1 == 3)=true;rw [hkd,h3];rfl,h3,?_,if_pos h3⟩
         rcases hi with hi|hi
         · exact hi.2
         · omega
       · right
         rcases hi with hi|hi
         · exact absurd hi.1 h3
         · exact ⟨by show (TT.kind x.1 == 3)=false;rw [hkd,hi.1];rfl,hi.1,hi.2,if_neg h3⟩
   · rw [if_neg hi] at hw
     exact h7 w hw
 · intro i p g y hi hp hd hw
   show ∃ w∈Zmk s n x.1 (Zsp nm P.2.2.length f.2.2.2.length x),w.fn=i/\w.pl=p
   by_cases hn:i<k\/i=k/\p<j
   · obtain ⟨w,hw1,hw2⟩:=h8 i p g y hi hp hn hw
     refine ⟨w,?_,hw2⟩
     unfold Zmk
     split
     · exact hw1
     · exact List.mem_append_left _ hw1
   · obtain ⟨rfl,rfl⟩:i=k/\p=j:=by omega
     rw [hf] at hi
     injection hi with hi
     subst hi
     rw [hx] at hp
     injection hp with hp
     subst hp
     unfold Zmk Zsp
     rw [if_pos hw]
     exact ⟨_,List.mem_append_right _ (List.mem_singleton.2 rfl),hfl,hl⟩
theorem Zip:∀ {l:List (Int × Int)},Zdz l=0->∀ x∈l,∃ s,Zr x.1=some s/\Zdw s.2.1.toNat x.2=true
 | [],_,x,h=>by cases h
 | y::r,h,x,hm=>by
   unfold Zdz at h
   cases hs:Zr y.1 with
   | none=>rw [hs] at h;cases h
   | some s =>
     rw [hs] at h
     simp only [] at h
     by_cases hk:Zdw s.2.1.toNat y.2=true
     · rw [if_pos hk] at h
       rcases List.mem_cons.1 hm with rfl|hm
       · exact ⟨s,hs,hk⟩
       · exact Zip h x hm
     · rw [if_neg hk] at h;cases h
theorem Zmm {nm:Txt} {P:PrP} {k:Nat} {f:FnR} (hf:P.2.2[k]? = some f) (he:Zdz f.2.2.2=0):∀ (j:Nat) (s:St),j<=f.2.2.2.length->Yju nm P k 0 0 f s->Zzq TT s (Zsb nm P.2.2.length f.2.2.2 j) (Yju nm P k j j f)
 | 0,s,_,h=>Zjw h
 | j+1,s,hj,h=>by
   have e:Zsb nm P.2.2.length f.2.2.2 (j+1)=Zsb nm P.2.2.length f.2.2.2 j++plP nm P.2.2.length f.2.2.2 j:=by
    unfold Zsb;rw [List.range_succ,List.flatMap_append];simp
   rw [e]
   refine Jl (Zmm hf he j s (by omega) h) fun s1 h1 => ?_
   unfold plP
   refine Jl (Zus hf (by omega) h1) fun s2 h2 => ?_
   have hx:f.2.2.2[j]? = some f.2.2.2[j]:=List.getElem?_eq_getElem (by omega)
   obtain ⟨sh,g1,g2⟩:=Zip he f.2.2.2[j] (List.getElem_mem _)
   rw [hx]
   exact Yfj hf hx g1 g2 h2
theorem Yfi {nm:Txt} {P:PrP} {k:Nat} {f:FnR} {s:St} (hf:P.2.2[k]? = some f) (he:Zdz f.2.2.2=0) (h:Zlx nm P k s):Zzq TT s (fnP nm P.2.2.length k f) (Zlx nm P (k+1)):=by
 have e:fnP nm P.2.2.length k f=[Zub nm k f]++(Zsb nm P.2.2.length f.2.2.2 f.2.2.2.length++(if Xp f.2.2.2 f.2.2.2.length then [[.word (lbW nm f.2.2.2.length),.colon]] else [])):=by
  unfold fnP Zsb
  rw [List.range_succ,List.flatMap_append]
  have hn:f.2.2.2[f.2.2.2.length]? = none:=List.getElem?_eq_none (Nat.le_refl _)
  have:plP nm P.2.2.length f.2.2.2 f.2.2.2.length=(if Xp f.2.2.2 f.2.2.2.length then [[.word (lbW nm f.2.2.2.length),.colon]] else []):=by
   unfold plP;rw [hn];simp
  simp [this]
 rw [e]
 refine Jl (Yao hf h) fun s1 h1 => ?_
 refine Jl (Zmm hf he _ s1 (Nat.le_refl _) h1) fun s2 h2 => ?_
 have h3:=Zus hf (Nat.le_refl _) h2
 intro n
 obtain ⟨s',a1,a2⟩:=h3 n
 exact ⟨s',a1,Ygp hf a2⟩
theorem Zpv {nm:Txt} {P:PrP} (he:∀ f∈P.2.2,Zdz f.2.2.2=0):∀ (k:Nat) (s:St),k<=P.2.2.length->Zlx nm P 0 s->Zzq TT s (Ynl nm P.2.2 k) (Zlx nm P k)
 | 0,s,_,h=>Zjw h
 | k+1,s,hk,h=>by
   have hf:P.2.2[k]? = some P.2.2[k]:=List.getElem?_eq_getElem (by omega)
   have e:Ynl nm P.2.2 (k+1)=Ynl nm P.2.2 k++fnP nm P.2.2.length k P.2.2[k]:=by
    unfold Ynl;rw [List.range_succ,List.flatMap_append];simp [hf]
   rw [e]
   refine Jl (Zpv he k s (by omega) h) fun s1 h1 => ?_
   exact Yfi hf (he _ (List.getElem_mem _)) h1
theorem Zxd {nm:Txt} (P:PrP):Zzq TT St0 (Zut P.1 P.2.1) (Zlx nm P 0):=by
 unfold Zut
 refine Jl (Q:=fun s=>s={ St0 with mem:=P.1,memSet:=true }) (Zfd fun n=>⟨_,rfl,rfl⟩) ?_
 rintro s rfl
 by_cases hd:P.2.1=[]
 · rw [if_pos hd]
   refine Zjw ⟨rfl,rfl,hd.symm,rfl,rfl,rfl,fun w hw=>absurd hw (List.not_mem_nil),fun i p f x _ _ h _=>absurd h (Nat.not_lt_zero _)⟩
 · rw [if_neg hd]
   refine Zfd fun n=>⟨_,rfl,rfl,rfl,?_,rfl,rfl,rfl,fun w hw=>absurd hw (List.not_mem_nil),fun i p f x _ _ h _=>absurd h (Nat.not_lt_zero _)⟩
   exact List.nil_append _
end Go.Proofs.YteciblfmgdlipaaGreatDoor.AS
