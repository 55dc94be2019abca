/-
  Part of a proof: contracts of functions and lemmas, each stated by its own theorem. Conditions: as each theorem states.
-/
import Derived.Test.YteciblfmgdlipaaGreatDoorMB12
import Derived.Test.YteciblfmgdlipaaGreatDoorMB10
import Derived.Test.YteciblfmgdlipaaGreatDoorMB05
import Derived.Test.YteciblfmgdlipaaGreatDoorMB11
import Derived.Deep.Strs
import Derived.ChangeArms
import Derived.Test.YteciblfmgdlipaaGreatDoorMB03
import Derived.Test.YteciblfmgdlipaaGreatDoorMB04
import Derived.Lib.ItoaLen
set_option linter.unusedSimpArgs false
set_option linter.unusedVariables false
set_option maxRecDepth 100000
set_option maxHeartbeats 16000000
namespace Go.Proofs.YteciblfmgdlipaaGreatDoor.AS
open Go.RowKit Go.Great CK
theorem Ycu {T:Tab} {lb:List Txt} {r:List Pc} {x:Sd} (h:Zjq T lb r=some x):∃ ins,x = .code lb ins:=by
 unfold Zjq at h
 split at h
 · injection h with h;exact ⟨_,h.symm⟩
 · split at h
   · cases h
   · split at h
     · split at h
       · injection h with h;exact ⟨_,h.symm⟩
       · cases h
     · split at h
       · injection h with h;exact ⟨_,h.symm⟩
       · split at h
         · obtain ⟨y,_,h⟩:=Option.map_eq_some_iff.1 h
           exact ⟨_,h.symm⟩
         · split at h
           · injection h with h;exact ⟨_,h.symm⟩
           · cases h
       · cases h
 · cases h
theorem Ycv {line:Int} {c:CS} {x:Option Int} {ps:List Pc} (h:c.funcs.length=0):Ziq line c x ps=none:=by
 unfold Ziq
 split
 · split
   · rfl
   · rw [if_pos h]
 · rfl
theorem Zpq {s:St} {lb:List Txt} {r:List Pc} {b:Bool} {line:Nat} (h:s.funcs.length=0):(match Zjq TT lb r with|none=>(.error 141:Except Int St)|some x=>Zbj TT s x b line) = .error 141:=by
 cases hi:Zjq TT lb r with
 | none=>rfl
 | some x =>
   obtain ⟨ins,rfl⟩:=Ycu hi
   have:Zeb s (.code lb ins)=false:=by
    unfold Zeb
    rw [(Zhh s).2 h];rfl
   simp only [Zbj,this]
   rfl
theorem Ztt {ps:List Pc} (h:∀ t r,ps ≠ .word t :: .colon::r):Yb ps=([],ps):=by
 unfold Yb
 split
 · exact absurd rfl (h _ _)
 · rfl
theorem Ycg (T:Tab) (u:Txt) (r:List Pc) (e:u=Xo):Zjo T (.word u::r)=(match r with|[.num n _]=>some (Sd.mem n)|_=>none):=if_pos e
theorem Zyj (T:Tab) (u:Txt) (r:List Pc) (e1:¬ u=Xo) (e:u=Zdo):Zjo T (.word u::r)=(match r with|[.str b]=>some (Sd.data b)|_=>none):=(if_neg e1).trans (if_pos e)
theorem Ygs (T:Tab) (u:Txt) (r:List Pc) (e1:¬ u=Xo) (e2:¬ u=Zdo) (e:u=Zdz):Zjo T (.word u::r)=(match r with|[.word nm,.num a _,.num l _,.num k _]=>some (Sd.fn nm a l k)|_=>none):=(if_neg e1).trans ((if_neg e2).trans (if_pos e))
theorem Ycf {c:CS} {s:St} (h:Rel c s) (line:Nat) (t:Txt):Zlx line c (lnC line c t) (Zqs TT s t line):=by
 unfold lnC Zqs
 cases hp:Zqh t with
 | none=>exact Or.inl ⟨rfl,rfl⟩
 | some ps =>
   show Zlx line c (Zfi line c none false ps) (match Zgp TT ps with|none => .error 141|some x=>Zbj TT s x (Zgc ps) line)
   cases ps with
   | nil =>
     rw [Je _ _ _ _ _ (by intro t r e;cases e)]
     exact ⟨c,rfl,h⟩
   | cons q r =>
     by_cases hlab:∃ u r',q::r = .word u :: .colon::r'
     · obtain ⟨u,r',e⟩:=hlab
       rw [e]
       have hsaid:Zgp TT (.word u :: .colon::r')=Zjq TT (u::(Yb r').1) (Yb r').2:=rfl
       have hbig:Zgc (.word u :: .colon::r')=Zgc (Yb r').2:=by rw [Zui r'.length r' (Nat.le_refl _)];simp [Zgc]
       rw [hsaid,hbig]
       by_cases hf:s.funcs.length=0
       · rw [Zdp,if_pos (by rw [h.funcs];exact hf),Zpq hf]
         exact Or.inl ⟨rfl,rfl⟩
       · have hb:=Zrx h line (u::(Yb r').1) (Yb r').2 hf (Or.inl (by simp))
         rw [Zsu line (r'.length+2) _ c none false (by simp) (by rw [h.funcs];exact hf)]
         have e2:Yb (.word u :: .colon::r')=(u::(Yb r').1,(Yb r').2):=rfl
         rw [e2]
         simp only [List.isEmpty_cons,Bool.not_false,Bool.or_true]
         cases hr:(Yb r').2 with
         | nil=>rw [hr] at hb;exact hb
         | cons a b=>rw [hr] at hb;rw [Zyk];exact hb
     · have hl0:Yb (q::r)=([],q::r):=by
        exact Ztt (fun t r' e=>hlab ⟨t,r',e⟩)
       have hsaid:Zgp TT (q::r)=Zjo TT (q::r):=by unfold Zgp;simp only [hl0]
       rw [Je _ _ _ _ _ (fun t r' e=>hlab ⟨t,r',e⟩),hsaid]
       have hins:∀ (q:Pc),Zlx line c (Ziq line c none (q::r)) (match Zjq TT [] (q::r) with|none => .error 141|some x=>Zbj TT s x (Zgc (q::r)) line):=fun q=>by
        by_cases hf:s.funcs.length=0
        · rw [Ycv (by rw [h.funcs];exact hf),Zpq hf]
          exact Or.inl ⟨rfl,rfl⟩
        · exact Zrx h line [] (q::r) hf (Or.inr (by simp))
       cases q with
       | num v b=>exact Or.inl ⟨rfl,rfl⟩
       | str u=>exact Or.inl ⟨rfl,rfl⟩
       | colon=>exact Or.inl ⟨rfl,rfl⟩
       | word u =>
         rw [Zlu]
         by_cases e1:u=Xo
         · have a1:Zcs line c none false (.word u::r)=Yep c none r:=if_pos ⟨rfl,e1⟩
           rw [a1,Ycg TT u r e1]
           exact Ygm h line r
         · by_cases e2:u=Zdo
           · have a1:Zcs line c none false (.word u::r)=Zfj c none r:=(if_neg (fun h=>e1 h.2)).trans (if_pos ⟨rfl,e2⟩)
             rw [a1,Zyj TT u r e1 e2]
             exact Ydo h line r
           · by_cases e3:u=Zdz
             · have a1:Zcs line c none false (.word u::r)=Zeo c none r:=(if_neg (fun h=>e1 h.2)).trans ((if_neg (fun h=>e2 h.2)).trans (if_pos ⟨rfl,e3⟩))
               rw [a1,Ygs TT u r e1 e2 e3]
               exact Ylk h line r
             · have a1:Zcs line c none false (.word u::r)=Ziq line c none (.word u::r):=(if_neg (fun h=>e1 h.2)).trans ((if_neg (fun h=>e2 h.2)).trans (if_neg (fun h=>e3 h.2)))
               have a2:Zjo TT (.word u::r)=Zjq TT [] (.word u::r):=(if_neg e1).trans ((if_neg e2).trans (if_neg e3))
               rw [a1,a2]
               have:=hins (.word u)
               rw [Zlu] at this
               exact this
theorem Zna:∀ (ls:List Txt) (c:CS) (s:St) (n:Nat),Rel c s->(match Zfo TT s n ls with | .ok s'=>∃ c',Zvy c n ls = .ok c'/\Rel c' s' | .error (y,k)=>Zvy c n ls = .error (y,(k:Int)))
 | [],c,s,n,h=>⟨c,rfl,h⟩
 | l::r,c,s,n,h=>by
   have hb:=Ycf h n l
   rw [Zfo,Zvy]
   cases he:Zqs TT s l n with
   | error y =>
     rw [he] at hb
     rcases hb with ⟨rfl,hb⟩|⟨c',hb⟩
     · simp only [hb]
     · simp only [hb]
   | ok s' =>
     rw [he] at hb
     obtain ⟨c',hb,hr⟩:=hb
     simp only [hb]
     exact Zna r c' s' (n+1) hr
theorem Ydi {c:CS} {s:St} (h:Rel c s) (w:Zge):Zpf c ⟨w.line,w.fn,w.pl,w.word,!w.jump⟩=(Zrl s w).map fun n=>(n:Int):=by
 unfold Zpf Zrl
 cases w.jump with
 | false=>simp only [Bool.not_false,if_true,Bool.false_eq_true,if_false];exact h.names _
 | true =>
   simp only [Bool.not_true,Bool.false_eq_true,if_false,if_true,Int.toNat_natCast]
   by_cases e:w.fn<c.lm.length
   · have:=h.lm w.fn _ (List.getElem?_eq_getElem e) w.word
     have e9:(c.lm.getD w.fn fun _=>none)=c.lm[w.fn]:=by rw [List.getD_eq_getElem?_getD,List.getElem?_eq_getElem e];rfl
     rw [e9,this]
     cases (s.labels.getD w.fn []).find? (fun x=>x.1 == w.word) <;> rfl
   · rw [List.getD_eq_getElem?_getD,List.getElem?_eq_none (by omega),List.getD_eq_getElem?_getD,List.getElem?_eq_none (by rw [h.slen,<- h.llen];omega)]
     rfl
theorem Zrm {c:CS} {s:St} (h:Rel c s):∀ (ws:List Zge) (fs:List FnR),Zep c fs (ws.map fun w=>⟨w.line,w.fn,w.pl,w.word,!w.jump⟩)=(match Zlo s fs ws with | .ok fs' => .ok fs' | .error n => .error (n:Int))
 | [],fs=>rfl
 | w::r,fs=>by
   rw [List.map_cons,Zep,Zlo,Ydi h w]
   cases hf:Zrl s w with
   | none=>rfl
   | some n =>
     simp only [Option.map_some,Int.toNat_natCast]
     exact Zrm h r _
theorem Zik (t:Txt):Zae t=(match Zgx TT (fun p=>Yy p.1 p.2.1.length p.2.2) t with | .ok p => .ok p | .error (y,k) => .error (y,(k:Int))):=by
 unfold Zae Zgx
 by_cases hl:65536<t.length
 · rw [if_pos hl,if_pos hl];rfl
 · rw [if_neg hl,if_neg hl]
   have hb:=Zna (Zcm t) C0 St0 1 Yat
   cases he:Zfo TT St0 1 (Zcm t) with
   | error e =>
     rw [he] at hb
     obtain ⟨y,k⟩:=e
     simp only [] at hb
     rw [show ((1:Nat):Int)=1 from rfl] at hb
     rw [hb]
   | ok s =>
     rw [he] at hb
     obtain ⟨c,hb,hr⟩:=hb
     rw [show ((1:Nat):Int)=1 from rfl] at hb
     rw [hb]
     simp only []
     have hf:=Zrm hr s.wants c.funcs
     rw [<- hr.blk,hr.funcs] at hf
     rw [hr.funcs,hf]
     cases Zlo s s.funcs s.wants with
     | error n=>rfl
     | ok fs =>
       simp only []
       rw [hr.mem,hr.data]
       by_cases h0:Yy s.mem s.data.length fs=0
       · rw [if_pos h0,if_pos h0]
       · rw [if_neg h0,if_neg h0];rfl
def Yox:Txt:=[102,117,110,99,32,109,97,105,110,32,48,32,48,32,49,10,114,101,116]
def Ynu:Txt:=[109,101,109,111,114,121,32,48,10,102,117,110,99,32,102,48,32,48,32,48,32,49,10,9,114,101,116,10]
theorem Zwc (n:Nat) (h:n<10):Lib.itoa (n:Int)=[UInt8.ofNat (48+n)]:=by
 unfold Lib.itoa
 rw [if_neg (by omega),Int.toNat_natCast,Lib.decDigits,dif_pos h]
theorem Ypo:Lib.itoa 0=[48]:=Zwc 0 (by decide)
theorem Ypn:Lib.itoa 1=[49]:=Zwc 1 (by decide)
theorem Ygv:Zae Yox = .ok oneP:=by
 rw [Zik]
 have:Zgx TT (fun p=>Yy p.1 p.2.1.length p.2.2) Yox = .ok oneP:=by kernel_rfl
 rw [this]
theorem Ycl:Jj oneP=Ynu:=by
 have k1:Ys 18=0:=rfl
 have k2:Zbw 18=[114,101,116]:=rfl
 simp [Jj,oneP,Zdw,Zbi,fnT,Xs,Zaa,plT,Zjp,Xq,Zhu,Zdf,Ypo,Ypn,k1,k2,List.range_succ,Ynu]
theorem Ygu:Zba oneP = .ok Ynu:=by
 have h0:Yy 0 0 [(0,0,1,[(18,0)])]=0:=by kernel_rfl
 have:=Yin (mem:=0) (d:=[]) (fs:=[(0,0,1,[(18,0)])]) h0 (by have:=Ycl;unfold oneP at this;rw [this];decide)
 rw [<- Ycl]
 exact this
theorem Ykz (F k:Nat) (w:World) (hW:LibW w) (hF:Zap w w.heap.size (some ⟨F,0,none⟩) oneP.2.2):Calls Tryz.prog 18 #[.agg #[.int .i64 0,.slice none 0 0,.slice (some ⟨F,0,none⟩) 1 k]] w fun e w'=>e = .returned (.tuple #[.string ⟨#[109,101,109,111,114,121,32,48,10,102,117,110,99,32,102,48,32,48,32,48,32,49,10,9,114,101,116,10]⟩,.int .i64 0])/\w.grownBy w' none:=by
 have h:=Zqd 0 [] oneP.2.2 none (some ⟨F,0,none⟩) 0 k w.heap.size w hW (Nat.le_refl _) (fun h0=>absurd h0 (by simp)) hF (by simp) (by
  intro f hf x hx
  simp [oneP] at hf
  subst hf
  simp at hx
  subst hx
  exact ⟨by decide,by decide⟩)
 have e:Zba (0,[],oneP.2.2) = .ok Ynu:=Ygu
 rw [e] at h
 exact h
theorem Yky (pD pF:Option Addr) (cD cF n m F k:Nat) (w:World) (h:Zap w n pF oneP.2.2) (h2:Zap w m (some ⟨F,0,none⟩) oneP.2.2):Calls Tryz.prog 15 #[.agg #[.int .i64 0,.slice pD 0 cD,.slice pF 1 cF],.agg #[.int .i64 0,.slice none 0 0,.slice (some ⟨F,0,none⟩) 1 k]] w fun e w'=>e = .returned (.bool true)/\w.grownBy w' none:=by
 have:=Zuw oneP oneP pD none pF (some ⟨F,0,none⟩) cD 0 cF k n m w (by decide) (by intro x hx;simp [oneP] at hx;subst hx;decide) (fun h0=>absurd h0 (by simp [oneP])) (fun h0=>absurd h0 (by simp [oneP])) h h2
 rw [Zas] at this
 exact this
def kn3:Nat->Nat
 | 0=>14
 | 1=>15
 | 2=>16
 | 3=>17
 | 4=>18
 | 5=>19
 | 6=>20
 | 7=>21
 | 8=>22
 | 9=>23
 | 10=>24
 | 11=>25
 | 12=>26
 | 13=>27
 | 14=>28
 | 15=>0
 | _=>5000
theorem Zbb:∀ i,i<16->∀ j,j<16->j≠i->kn3 j≠kn3 i:=by decide
theorem Zqu (i:Nat) (h:i<16):i=0\/i=1\/i=2\/i=3\/i=4\/i=5\/i=6\/i=7\/i=8\/i=9\/i=10\/i=11\/i=12\/i=13\/i=14\/i=15:=by omega
theorem Zoz (j:Nat) (hj:j∈[1,2,3,4]):∀ i,i<16->kn3 i≠j:=by revert j;decide
def Zmc (q cD cF:Nat) (pD pF:Option Addr) (F2:Nat) (k2:Nat):Nat->Value
 | 0 => .nilIface
 | 1 => .bool true
 | 2 => .bool true
 | 3 => .int .i64 0
 | 4 => .bool true
 | 5 => .bool true
 | 6 => .bool true
 | 7 => .agg #[.int .i64 0,.slice pD 0 cD,.slice pF 1 cF]
 | 8 => .agg #[.int .i64 0,.slice none 0 0,.slice (some ⟨F2,0,none⟩) 1 k2]
 | 9 => .bool true
 | 10 => .bool true
 | 11 => .bool true
 | 12 => .string ⟨#[109,101,109,111,114,121,32,48,10,102,117,110,99,32,102,48,32,48,32,48,32,49,10,9,114,101,116,10]⟩
 | 13 => .bool true
 | 14 => .bool true
 | 15 => .bool true
 | _=>undef
def Yql (q cD cF:Nat) (pD pF:Option Addr) (F2:Nat) (k2:Nat):Nat->World->Prop
 | 8=>fun w9=>∃ n,Zap w9 n (some ⟨F2,0,none⟩) oneP.2.2
 | 9=>fun _=>True
 | _=>fun _=>True
theorem Ynw {q cD cF:Nat} {pD pF:Option Addr} {F2:Nat} {k2:Nat} {F22:Nat} {k22:Nat} {l:Array Bool} (hcl:∀ p∈([(1,0),(2,1),(3,2),(4,3),(4,2),(5,2),(5,4),(6,5),(7,6),(8,6),(9,7),(9,8),(9,6),(10,6),(10,9),(11,10),(12,11),(13,12),(13,11),(14,11),(14,13),(15,14)]:List (Nat × Nat)),l.getD (Prod.fst p) false=true->l.getD (Prod.snd p) false=true) (hun:l.getD 8 false=false):∀ i,i<16->l.getD i false=true->kn3 i<29->Zmc q cD cF pD pF F22 k22 i=Zmc q cD cF pD pF F2 k2 i:=by
 intro i hi hl _
 rcases Zqu i hi with rfl|rfl|rfl|rfl|rfl|rfl|rfl|rfl|rfl|rfl|rfl|rfl|rfl|rfl|rfl|rfl
 · rfl
 · rfl
 · rfl
 · rfl
 · rfl
 · rfl
 · rfl
 · rfl
 · exact Zp (hl) hun
 · rfl
 · rfl
 · rfl
 · rfl
 · rfl
 · rfl
 · rfl
theorem Ynv {q cD cF:Nat} {pD pF:Option Addr} {F2:Nat} {k2:Nat}  {l:Array Bool} (hcl:∀ p∈([(1,0),(2,1),(3,2),(4,3),(4,2),(5,2),(5,4),(6,5),(7,6),(8,6),(9,7),(9,8),(9,6),(10,6),(10,9),(11,10),(12,11),(13,12),(13,11),(14,11),(14,13),(15,14)]:List (Nat × Nat)),l.getD (Prod.fst p) false=true->l.getD (Prod.snd p) false=true) (hun:l.getD 9 false=false):∀ i,i<16->l.getD i false=true->kn3 i<29->Zmc q cD cF pD pF F2 k2 i=Zmc q cD cF pD pF F2 k2 i:=by
 intro i hi hl _
 rcases Zqu i hi with rfl|rfl|rfl|rfl|rfl|rfl|rfl|rfl|rfl|rfl|rfl|rfl|rfl|rfl|rfl|rfl
 · rfl
 · rfl
 · rfl
 · rfl
 · rfl
 · rfl
 · rfl
 · rfl
 · rfl
 · rfl
 · rfl
 · rfl
 · rfl
 · rfl
 · rfl
 · rfl
theorem Yck (w:World) (hW:LibW w):Calls Tryz.prog 11 #[] w fun e w'=>e = .returned (.bool true)/\w.grownBy w' none:=by
 have PA0:=Zku Yox w hW
 rw [Ygv] at PA0
 have PA:=Hq PA0
 have LW:=Hq hW
 clear PA0 hW
 have htx:bs Yox=⟨#[102,117,110,99,32,109,97,105,110,32,48,32,48,32,49,10,114,101,116]⟩:=rfl
 rw [htx] at PA
 go_enter Tryz.func11,Tryz.ntmps11
 go_upto_region 2 with (go_at_call 12;refine PA.out.mono ?_;rintro e w1 ⟨⟨D,F,cv,rfl,hown⟩,hg1⟩;obtain ⟨pD,cD,hvD⟩:=Zm hown.dt;obtain ⟨pF,cF,hvF⟩:=Zm hown.fr;rw [Jn] at hvD;simp only [oneP,List.length_nil,List.length_cons] at hvD hvF;subst hvD;subst hvF;have OW:=Hq hown;have G1:=Hq hg1;clear hown hg1)
 have BX:=Hq (heap_alloc_new w1 (.cells #[.int .i64 0,.slice pD 0 cD,.slice pF 1 cF] 26))
 have FP:=Hq (Xt (Zez (fs:=oneP.2.2) OW.out) (Ga w1 (.cells #[.int .i64 0,.slice pD 0 cD,.slice pF 1 cF] 26) none) (by simp))
 have G2:=Hq (Za G1.out (Ga w1 (.cells #[.int .i64 0,.slice pD 0 cD,.slice pF 1 cF] 26) none))
 generalize w1.alloc (.cells #[.int .i64 0,.slice pD 0 cD,.slice pF 1 cF] 26)=w2 at BX FP G2 ⊢
 clear OW PA
 obtain ⟨q,hq⟩:∃ x,w1.heap.size=x:=⟨_,rfl⟩
 rw [hq] at BX FP ⊢
 clear hq G1
 have bt:∀ (W:World) (p:Option Addr),Zdm W p []:=fun W p h0=>absurd h0 (by simp)
 have BT:=Hq bt
 have htx2:bs Ynu=⟨#[109,101,109,111,114,121,32,48,10,102,117,110,99,32,102,48,32,48,32,48,32,49,10,9,114,101,116,10]⟩:=rfl
 have HT2:=Hq htx2
 clear bt htx2 htx
 go_upto_region 3 with (first
  | (go_at_call 22;refine (Zvq _).mono ?_;rintro e w3 ⟨⟨F1,k1,rfl,hf3⟩,hg3⟩;have F3:=Hq hf3;have G3:=Hq hg3;clear hf3 hg3)
  | (go_at_call 18;refine (Ykz F1 k1 w3 (Zs LW.out (Za G2.out G3.out)) F3.out).mono ?_;rintro e w4 ⟨rfl,hg4⟩;have G4:=Hq hg4;clear hg4))
 have G24:=Hq (Za G3.out G4.out)
 have FP4:=Hq (Xt FP.out G24.out (by simp))
 have BX4:=Hq (Zf BX.out G24.out (by simp))
 (try rename_i K3 hK3)
 refine Xd (n:=16) (J:=fun a0 l a1 w1=>∃ (F2:Nat) (k2:Nat),RJ a0 29 16 kn3 (Zmc q cD cF pD pF F2 k2) l a1/\Zcx 16 16 0 [(1,0),(2,1),(3,2),(4,3),(4,2),(5,2),(5,4),(6,5),(7,6),(8,6),(9,7),(9,8),(9,6),(10,6),(10,9),(11,10),(12,11),(13,12),(13,11),(14,11),(14,13),(15,14)] [] (fun w9=>World.grownBy w4.drew w9 none) (fun _=>True) (Yql q cD cF pD pF F2 k2) (fun _=>True) l w1) (by kernel_rfl) rfl (Jb (by kernel_rfl)) (fun l a1 w1 h=>by obtain ⟨_,_,h,_⟩:=h;exact h.sz) ⟨0,0,Xc rfl,Yi (Zd _ _) (True.intro)⟩ ?step ?fin
 case step =>
  intro l a1 w' i hJJ hi hin
  obtain ⟨F2,k2,hJ,hW⟩:=hJJ
  have hun:l.getD i false=false:=getD_both (mem_ready.1 hi).1
  have hns:=Jw hW hin hun
  have hg:=hW.g hns
  have BQ':=Zf BX4.out (Za (Zg (Zd w4 none)) hg) (by simp)
  have lq:=(Array.getElem?_eq_some_iff.1 BQ').1
  rcases Zqu i hin with rfl|rfl|rfl|rfl|rfl|rfl|rfl|rfl|rfl|rfl|rfl|rfl|rfl|rfl|rfl|rfl
  · have e2:a1.tmps.getD 2 undef = .nilIface:=hJ.un 2 (fun i hi _=>Zoz 2 (by decide) i hi)
    exact Zh (Zc hJ hW hi hun rfl (by rfl) rfl (by decide) (by decide) (Zbb _ (by decide)) (w':=w') (by simp [execOp,resolve,invoke,builtin,Act.eval,e2,lq,go_sem,Zmc]) (⟨by decide,by kernel_rfl,True.intro⟩)) (fun a9 w9 h9=>⟨F2,k2,h9⟩)
  · have e14:a1.tmps.getD 14 undef = .nilIface:=(Ze hJ hi 0 (by kernel_rfl))
    exact Zh (Zc hJ hW hi hun rfl (by rfl) rfl (by decide) (by decide) (Zbb _ (by decide)) (w':=w') (by simp [execOp,resolve,invoke,builtin,Act.eval,e14,lq,go_sem,Zmc]) (⟨by decide,by kernel_rfl,True.intro⟩)) (fun a9 w9 h9=>⟨F2,k2,h9⟩)
  · have e15:a1.tmps.getD 15 undef = .bool true:=(Ze hJ hi 1 (by kernel_rfl))
    exact Zh (Zc hJ hW hi hun rfl (by rfl) rfl (by decide) (by decide) (Zbb _ (by decide)) (w':=w') (by simp [execOp,resolve,invoke,builtin,Act.eval,e15,lq,go_sem,Zmc]) (⟨by decide,by kernel_rfl,True.intro⟩)) (fun a9 w9 h9=>⟨F2,k2,h9⟩)
  · have e4:a1.tmps.getD 4 undef = .int .i64 0:=hJ.un 4 (fun i hi _=>Zoz 4 (by decide) i hi)
    have eg:a1.tmps.getD 16 undef = .bool true:=(Ze hJ hi 2 (by kernel_rfl))
    exact Zh (Zc hJ hW hi hun rfl (Zfx (k:=2) (d:=16) (b:=true) rfl rfl (by rw [hJ.ts];decide) eg) rfl (by decide) (by decide) (Zbb _ (by decide)) (w':=w') (by simp [execOp,resolve,invoke,builtin,Act.eval,e4,lq,go_sem,Zmc]) (⟨by decide,by kernel_rfl,True.intro⟩)) (fun a9 w9 h9=>⟨F2,k2,h9⟩)
  · have e17:a1.tmps.getD 17 undef = .int .i64 0:=(Ze hJ hi 3 (by kernel_rfl))
    have eg:a1.tmps.getD 16 undef = .bool true:=(Ze hJ hi 2 (by kernel_rfl))
    exact Zh (Zc hJ hW hi hun rfl (Zfx (k:=2) (d:=16) (b:=true) rfl rfl (by rw [hJ.ts];decide) eg) rfl (by decide) (by decide) (Zbb _ (by decide)) (w':=w') (by simp [execOp,resolve,invoke,builtin,Act.eval,e17,lq,go_sem,Zmc]) (⟨by decide,by kernel_rfl,True.intro⟩)) (fun a9 w9 h9=>⟨F2,k2,h9⟩)
  · have e16:a1.tmps.getD 16 undef = .bool true:=(Ze hJ hi 2 (by kernel_rfl))
    have e18:a1.tmps.getD 18 undef = .bool true:=(Ze hJ hi 4 (by kernel_rfl))
    exact Zh (Zc hJ hW hi hun rfl (by rfl) rfl (by decide) (by decide) (Zbb _ (by decide)) (w':=w') (by simp [execOp,resolve,invoke,builtin,Act.eval,e16,e18,lq,go_sem,Zmc]) (⟨by decide,by kernel_rfl,True.intro⟩)) (fun a9 w9 h9=>⟨F2,k2,h9⟩)
  · have e19:a1.tmps.getD 19 undef = .bool true:=(Ze hJ hi 5 (by kernel_rfl))
    exact Zh (Zc hJ hW hi hun rfl (by rfl) rfl (by decide) (by decide) (Zbb _ (by decide)) (w':=w') (by simp [execOp,resolve,invoke,builtin,Act.eval,e19,lq,go_sem,Zmc]) (⟨by decide,by kernel_rfl,True.intro⟩)) (fun a9 w9 h9=>⟨F2,k2,h9⟩)
  · have e1:a1.tmps.getD 1 undef = .pointer (some ⟨q,0,none⟩):=hJ.un 1 (fun i hi _=>Zoz 1 (by decide) i hi)
    have eg:a1.tmps.getD 20 undef = .bool true:=(Ze hJ hi 6 (by kernel_rfl))
    have h0:=Cq _ _ 0 _ _ _ BQ'
    have h1:=Cq _ _ 1 _ _ _ BQ'
    have h2:=Cq _ _ 2 _ _ _ BQ'
    exact Zh (Zc hJ hW hi hun rfl (Zfx (k:=6) (d:=20) (b:=true) rfl rfl (by rw [hJ.ts];decide) eg) rfl (by decide) (by decide) (Zbb _ (by decide)) (w':=w') (by simp [execOp,resolve,invoke,builtin,Act.eval,e1,h0,h1,h2,lq,go_sem,Zmc]) (⟨by decide,by kernel_rfl,True.intro⟩)) (fun a9 w9 h9=>⟨F2,k2,h9⟩)
  · have eg:a1.tmps.getD 20 undef = .bool true:=(Ze hJ hi 6 (by kernel_rfl))
    refine Yc rfl (Zfx (k:=6) (d:=20) (b:=true) rfl rfl (by rw [hJ.ts];decide) eg) (by simp [execOp,resolve,invoke,Act.eval,go_sem]) (Calls.mono (Zvq w') (fun e w2 he => ?_))
    obtain ⟨⟨F22,k22,rfl,hf2⟩,hg2⟩:=he
    refine ⟨_,rfl,F22,k22,?_,Zy hW (by decide) hun (by decide) (Zj _ hi (by kernel_rfl)) (Za hg hg2) (fun hne0 hun0 hB0=>hB0) (fun j hj hne hl hcu hF => ?_) (⟨_,hf2⟩)⟩
    · exact Xn (val:=Zmc q cD cF pD pF F22 k22) (Xp hJ (Ynw hW.cl hun)) (by decide) (by decide) (Zbb _ (by decide))
    · rcases Zqu j hj with rfl|rfl|rfl|rfl|rfl|rfl|rfl|rfl|rfl|rfl|rfl|rfl|rfl|rfl|rfl|rfl
      · exact True.intro
      · exact True.intro
      · exact True.intro
      · exact True.intro
      · exact True.intro
      · exact True.intro
      · exact True.intro
      · exact True.intro
      · exact absurd rfl hne
      · exact Zp (hW.cl (9,8) (by decide) (hl)) hun
      · exact True.intro
      · exact True.intro
      · exact True.intro
      · exact True.intro
      · exact True.intro
      · exact True.intro
  · have e21:a1.tmps.getD 21 undef = .agg #[.int .i64 0,.slice pD 0 cD,.slice pF 1 cF]:=(Ze hJ hi 7 (by kernel_rfl))
    have e22:a1.tmps.getD 22 undef = .agg #[.int .i64 0,.slice none 0 0,.slice (some ⟨F2,0,none⟩) 1 k2]:=(Ze hJ hi 8 (by kernel_rfl))
    obtain ⟨nq,hfq⟩:=hW.f hns 8 (by decide) (Zb hi 8 (by kernel_rfl)) (Zdv (by decide))
    have eg:a1.tmps.getD 20 undef = .bool true:=(Ze hJ hi 6 (by kernel_rfl))
    refine Yc rfl (Zfx (k:=6) (d:=20) (b:=true) rfl rfl (by rw [hJ.ts];decide) eg) (by simp [execOp,resolve,invoke,Act.eval,e21,e22,go_sem]) (Calls.mono (Yky pD pF cD cF _ nq F2 k2 w' (Xt FP4.out (Za (Zg (Zd w4 none)) hg) (by simp)) hfq) (fun e w2 he => ?_))
    obtain ⟨rfl,hg2⟩:=he
    refine ⟨_,rfl,F2,k2,?_,Zy hW (by decide) hun (by decide) (Zj _ hi (by kernel_rfl)) (Za hg hg2) (fun hne0 hun0 hB0=>hB0) (fun j hj hne hl hcu hF => ?_) (True.intro)⟩
    · exact Xn (val:=Zmc q cD cF pD pF F2 k2) (Xp hJ (Ynv hW.cl hun)) (by decide) (by decide) (Zbb _ (by decide))
    · rcases Zqu j hj with rfl|rfl|rfl|rfl|rfl|rfl|rfl|rfl|rfl|rfl|rfl|rfl|rfl|rfl|rfl|rfl
      · exact True.intro
      · exact True.intro
      · exact True.intro
      · exact True.intro
      · exact True.intro
      · exact True.intro
      · exact True.intro
      · exact True.intro
      · exact hF.imp fun n h=>Xt h hg2 (by simp)
      · exact absurd rfl hne
      · exact True.intro
      · exact True.intro
      · exact True.intro
      · exact True.intro
      · exact True.intro
      · exact True.intro
  · have e20:a1.tmps.getD 20 undef = .bool true:=(Ze hJ hi 6 (by kernel_rfl))
    have e23:a1.tmps.getD 23 undef = .bool true:=(Ze hJ hi 9 (by kernel_rfl))
    exact Zh (Zc hJ hW hi hun rfl (by rfl) rfl (by decide) (by decide) (Zbb _ (by decide)) (w':=w') (by simp [execOp,resolve,invoke,builtin,Act.eval,e20,e23,lq,go_sem,Zmc]) (⟨by decide,by kernel_rfl,True.intro⟩)) (fun a9 w9 h9=>⟨F2,k2,h9⟩)
  · have e24:a1.tmps.getD 24 undef = .bool true:=(Ze hJ hi 10 (by kernel_rfl))
    exact Zh (Zc hJ hW hi hun rfl (by rfl) rfl (by decide) (by decide) (Zbb _ (by decide)) (w':=w') (by simp [execOp,resolve,invoke,builtin,Act.eval,e24,lq,go_sem,Zmc]) (⟨by decide,by kernel_rfl,True.intro⟩)) (fun a9 w9 h9=>⟨F2,k2,h9⟩)
  · have e3:a1.tmps.getD 3 undef = .string ⟨#[109,101,109,111,114,121,32,48,10,102,117,110,99,32,102,48,32,48,32,48,32,49,10,9,114,101,116,10]⟩:=hJ.un 3 (fun i hi _=>Zoz 3 (by decide) i hi)
    have eg:a1.tmps.getD 25 undef = .bool true:=(Ze hJ hi 11 (by kernel_rfl))
    exact Zh (Zc hJ hW hi hun rfl (Zfx (k:=11) (d:=25) (b:=true) rfl rfl (by rw [hJ.ts];decide) eg) rfl (by decide) (by decide) (Zbb _ (by decide)) (w':=w') (by simp [execOp,resolve,invoke,builtin,Act.eval,e3,lq,go_sem,Zmc]) (⟨by decide,by kernel_rfl,True.intro⟩)) (fun a9 w9 h9=>⟨F2,k2,h9⟩)
  · have e26:a1.tmps.getD 26 undef = .string ⟨#[109,101,109,111,114,121,32,48,10,102,117,110,99,32,102,48,32,48,32,48,32,49,10,9,114,101,116,10]⟩:=(Ze hJ hi 12 (by kernel_rfl))
    have eg:a1.tmps.getD 25 undef = .bool true:=(Ze hJ hi 11 (by kernel_rfl))
    exact Zh (Zc hJ hW hi hun rfl (Zfx (k:=11) (d:=25) (b:=true) rfl rfl (by rw [hJ.ts];decide) eg) rfl (by decide) (by decide) (Zbb _ (by decide)) (w':=w') (by simp [execOp,resolve,invoke,builtin,Act.eval,e26,lq,go_sem,Zmc]) (⟨by decide,by kernel_rfl,True.intro⟩)) (fun a9 w9 h9=>⟨F2,k2,h9⟩)
  · have e25:a1.tmps.getD 25 undef = .bool true:=(Ze hJ hi 11 (by kernel_rfl))
    have e27:a1.tmps.getD 27 undef = .bool true:=(Ze hJ hi 13 (by kernel_rfl))
    exact Zh (Zc hJ hW hi hun rfl (by rfl) rfl (by decide) (by decide) (Zbb _ (by decide)) (w':=w') (by simp [execOp,resolve,invoke,builtin,Act.eval,e25,e27,lq,go_sem,Zmc]) (⟨by decide,by kernel_rfl,True.intro⟩)) (fun a9 w9 h9=>⟨F2,k2,h9⟩)
  · have e28:a1.tmps.getD 28 undef = .bool true:=(Ze hJ hi 14 (by kernel_rfl))
    exact Zh (Zc hJ hW hi hun rfl (by rfl) rfl (by decide) (by decide) (Zbb _ (by decide)) (w':=w') (by simp [execOp,resolve,invoke,builtin,Act.eval,e28,lq,go_sem,Zmc]) (⟨by decide,by kernel_rfl,True.intro⟩)) (fun a9 w9 h9=>⟨F2,k2,h9⟩)
 case fin =>
  intro l9 a1 w9 hJJ hl9
  obtain ⟨F2,k2,hJ,hW9⟩:=hJJ
  have hg9:=hW9.g (Zar hW9)
  have hput:=Xz hJ rfl hl9 (fun i j h1 h2 h3=>Zbb j h2 i h1 h3)
  subst hput
  clear hJ hW9 hl9
  (try refine hK3 _ _ ?_)
  simp only [Jz,kn3,Zmc,Act.put,List.setIfInBounds_toArray,List.set_cons_zero,List.set_cons_succ]
  have GG:=Hq (Za G2.out (Za G24.out (Za (Zg (Zd w4 none)) hg9)))
  clear hg9
  go_wp2
  go_ret
  exact ⟨rfl,GG.out⟩
open Go.Proofs.YteciblfmgdlipaaGreatDoor.CK
section
variable {H:Type} {enc:TypeId × Value->H} {P:Program} {w:World}
theorem Zbl {t:TypeId} {fs:Array Field} {fuel:Nat} {cs:List Value} {x:DataW H × List MemPlace} (ht:P.underlying t=some (.struct fs)) (h:DataW.trod enc P w 0 (fun _=>true) true fuel t cs=some x) (i:Nat) (f:Field) (hf:fs[i]? = some f) (hc:P.cellsOf f.type=1) (k:Nat) (hk:P.cellsOf t=k) (ho:f.offset<k) :
 cs.length=k/\∃ n v y,cs[f.offset]? = some v/\DataW.trod enc P w 0 (fun _=>true) true n f.type [v]=some y:=by
 obtain ⟨xs,n,_,rfl,hl,hlen,hfl⟩:=DataW.trod_struct ht h
 rw [hk] at hl
 have hi:i<xs.length:=by rw [hlen];exact (Gs hf)
 have h1:=hfl i f hf
 have ho':f.offset<cs.length:=by omega
 have hx:(cs.drop f.offset).take (P.cellsOf f.type)=[cs[f.offset]]:=by
  rw [hc,List.drop_eq_getElem_cons ho'];rfl
 rw [hx,List.getElem?_eq_getElem hi] at h1
 exact ⟨hl,n,cs[f.offset],xs[i],List.getElem?_eq_getElem ho',h1⟩
theorem Yek (b o i j:Nat):((⟨b,o,none⟩:Addr).add i).add j=⟨b,o+i+j,none⟩:=by
 by_cases h:i=0 <;> by_cases h2:j=0 <;> simp [Addr.add,h,h2]
theorem Zoa {t e:TypeId} {fuel:Nat} {v:Value} {x:DataW H × List MemPlace} (ht:P.underlying t=some (.slice e)) (k:Nat) (hk:P.cellsOf e=k) (k0:0<k) (h:DataW.trod enc P w 0 (fun _=>true) true fuel t [v]=some x) :
 ∃ (p:Option Addr) (len cap:Nat),v = .slice p len cap/\len<=maxLen/\(0<len->∃ b o,p=some ⟨b,o,none⟩/\b<w.heap.size/\∀ i,i<len->∃ cs' n y,cs'.length=k/\(∀ j,j<k->w.cell? ⟨b,o+i*k+j,none⟩=cs'[j]?)/\DataW.trod enc P w 0 (fun _=>true) true n e cs'=some y):=by
 rcases Deep.open_slice ht h with ⟨hcs,rfl⟩|⟨a,len,cap,m,n,D,Pl,hcs,_,hl,hm,hmm,rfl,hx⟩
 · injection hcs with hcs _
   exact ⟨none,0,0,hcs,Nat.zero_le _,fun h=>absurd h (Nat.lt_irrefl _)⟩
 · injection hcs with hcs _
   simp only [if_true] at hmm
   subst hmm
   refine ⟨some a,len,m,hcs,Nat.le_trans hl hm,fun h0 => ?_⟩
   obtain ⟨b,o,spot⟩:=a
   have hcell:∀ i,i<m->∃ cs',cs'.length=k/\(∀ j,j<k->w.cell? (((⟨b,o,spot⟩:Addr).add (i*k)).add j)=cs'[j]?)/\DataW.trod enc P w 0 (fun _=>true) true n e cs'=some (D i,Pl i):=by
    intro i hi
    obtain ⟨cs',h1,h2⟩:=hx i hi
    rw [hk] at h1
    obtain ⟨_,h3,h4⟩:=World.cells?_some h1
    exact ⟨cs',h3,h4,h2⟩
   have hspot:spot=none:=by
    obtain ⟨cs',h3,h4,_⟩:=hcell 0 (by omega)
    have h5:=h4 0 k0
    rw [List.getElem?_eq_getElem (by omega)] at h5
    have h6:=World.cell?_spot h5
    simpa [Addr.add] using h6
   subst hspot
   refine ⟨b,o,rfl,?_,fun i hi => ?_⟩
   · obtain ⟨cs',h3,h4,_⟩:=hcell 0 (by omega)
     have h5:=h4 0 k0
     rw [List.getElem?_eq_getElem (by omega),Yek] at h5
     exact World.block_lt_of_cell? _ _ h5
   · obtain ⟨cs',h3,h4,h5⟩:=hcell i (by omega)
     exact ⟨cs',n,_,h3,fun j hj=>by rw [<- Yek];exact h4 j hj,h5⟩
theorem Ypk {α:Type} {l:List α} (h:l.length=1):∃ a,l=[a]:=by
 match l,h with
 | [a],_=>exact ⟨a,rfl⟩
theorem Ypj {α:Type} {l:List α} (h:l.length=3):∃ a b c,l=[a,b,c]:=by
 match l,h with
 | [a,b,c],_=>exact ⟨a,b,c,rfl⟩
end
section
variable {H:Type} {enc:TypeId × Value->H} {w:World}
theorem Ztb:Tryz.prog.underlying 23=some (.slice 5):=by kernel_rfl
theorem Yoi:Tryz.prog.underlying 5=some (.int .u8):=by kernel_rfl
theorem Ylg:Tryz.prog.underlying 3=some (.int .i64):=by kernel_rfl
theorem Zxl:Tryz.prog.underlying 59=some (.slice 58):=by kernel_rfl
theorem Zxm:Tryz.prog.underlying 24=some (.slice 61):=by kernel_rfl
theorem Zxk {fuel:Nat} {v:Value} {x:DataW H × List MemPlace} (h:DataW.trod enc Tryz.prog w 0 (fun _=>true) true fuel 23 [v]=some x) :
 ∃ (p:Option Addr) (d:Txt) (cap:Nat),v = .slice p d.length cap/\Zdm w p d/\d.length<=9223372036854775807:=by
 obtain ⟨p,len,cap,rfl,hm,hx⟩:=Zoa (k:=1) Ztb (by kernel_rfl) (by decide) h
 have hex:∃ N:Nat->UInt8,0<len->∃ b o,p=some ⟨b,o,none⟩/\b<w.heap.size/\∀ i,i<len->w.cell? ⟨b,o+i,none⟩=some (.int .u8 ((N i).toNat:Int)):=by
  rcases Nat.eq_zero_or_pos len with h0|h0
  · exact ⟨fun _=>0,fun h=>by omega⟩
  · obtain ⟨b,o,rfl,hbl,hi⟩:=hx h0
    have:∀ i,i<len->∃ N:UInt8,w.cell? ⟨b,o+i,none⟩=some (.int .u8 (N.toNat:Int)):=by
     intro i hil
     obtain ⟨cs',n,y,h3,h4,h5⟩:=hi i hil
     obtain ⟨c,rfl⟩:=Ypk h3
     obtain ⟨N,e,_,hw⟩:=DataW.trod_int Yoi h5
     injection e with e;subst e
     have:=h4 0 (by decide)
     rw [Nat.mul_one,Nat.add_zero] at this
     simp only [Lit.wf,Bool.and_eq_true,decide_eq_true_eq] at hw
     have h1:IntKind.u8.min=0:=by decide
     have h2:IntKind.u8.max=255:=by decide
     rw [h1,h2] at hw
     refine ⟨UInt8.ofNat N.toNat,?_⟩
     have e9:((UInt8.ofNat N.toNat).toNat:Int)=N:=by
      rw [UInt8.toNat_ofNat']
      omega
     rw [e9]
     exact this
    obtain ⟨N,hN⟩:=Deep.choose_lt this
    exact ⟨N,fun _=>⟨b,o,rfl,hbl,hN⟩⟩
 obtain ⟨N,hN⟩:=hex
 refine ⟨p,(List.range len).map N,cap,by simp,fun h0 => ?_,by simpa [maxLen] using hm⟩
 simp only [List.length_map,List.length_range] at h0
 obtain ⟨b,o,e,hbl,hi⟩:=hN h0
 refine ⟨b,o,e,hbl,fun j c hj => ?_⟩
 have hl:=(List.getElem?_eq_some_iff.1 hj).1
 simp only [List.length_map,List.length_range] at hl
 rw [hi j hl]
 simp [hl] at hj
 rw [hj]
theorem Zdb {fuel:Nat} {v:Value} {x:DataW H × List MemPlace} (h:DataW.trod enc Tryz.prog w 0 (fun _=>true) true fuel 3 [v]=some x):∃ n,v = .int .i64 n/\Zjl n:=by
 obtain ⟨n,e,_,hw⟩:=DataW.trod_int Ylg h
 injection e with e
 refine ⟨n,e,?_⟩
 simp only [Lit.wf,Bool.and_eq_true,decide_eq_true_eq] at hw
 have h1:IntKind.i64.min = -9223372036854775808:=by decide
 have h2:IntKind.i64.max=9223372036854775807:=by decide
 rw [h1,h2] at hw
 exact hw
theorem Yav {fuel:Nat} {v:Value} {x:DataW H × List MemPlace} (h:DataW.trod enc Tryz.prog w 0 (fun _=>true) true fuel 59 [v]=some x) :
 ∃ (p:Option Addr) (c:List (Int × Int)) (cap:Nat),v = .slice p c.length cap/\Zht w w.heap.size p c/\(∀ y∈c,Zjl y.2):=by
 obtain ⟨p,len,cap,rfl,hm,hx⟩:=Zoa (k:=2) Zxl (by kernel_rfl) (by decide) h
 have hex:∃ N:Nat->(Int × Int),(∀ i,i<len->Zjl (N i).2)/\(0<len->∃ b o,p=some ⟨b,o,none⟩/\b<w.heap.size/\∀ i,i<len->w.cell? ⟨b,o+i*2,none⟩=some (.int .i64 (N i).1)/\w.cell? ⟨b,o+i*2+1,none⟩=some (.int .i64 (N i).2)):=by
  rcases Nat.eq_zero_or_pos len with h0|h0
  · exact ⟨fun _=>(0,0),fun i h=>by omega,fun h=>by omega⟩
  · obtain ⟨b,o,rfl,hbl,hi⟩:=hx h0
    have:∀ i,i<len->∃ N:(Int × Int),Zjl N.2/\w.cell? ⟨b,o+i*2,none⟩=some (.int .i64 N.1)/\w.cell? ⟨b,o+i*2+1,none⟩=some (.int .i64 N.2):=by
     intro i hil
     obtain ⟨cs',n,y,h3,h4,h5⟩:=hi i hil
     obtain ⟨_,_,v0,y0,g0,t0⟩:=Zbl (k:=2) Tryz.underlying58 h5 0 _ rfl (by kernel_rfl) (by kernel_rfl) (by decide)
     obtain ⟨_,_,v1,y1,g1,t1⟩:=Zbl (k:=2) Tryz.underlying58 h5 1 _ rfl (by kernel_rfl) (by kernel_rfl) (by decide)
     obtain ⟨op,rfl,_⟩:=Zdb t0
     obtain ⟨a,rfl,ha⟩:=Zdb t1
     exact ⟨(op,a),ha,(h4 0 (by decide)).trans g0,(h4 1 (by decide)).trans g1⟩
    obtain ⟨N,hN⟩ := @Deep.choose_lt _ ⟨((0,0):(Int × Int))⟩ _ _ this
    exact ⟨N,fun i hi=>(hN i hi).1,fun _=>⟨b,o,rfl,hbl,fun i hi=>(hN i hi).2⟩⟩
 obtain ⟨N,hR,hN⟩:=hex
 refine ⟨p,(List.range len).map N,cap,by simp,fun h0 => ?_,fun y hy => ?_⟩
 · simp only [List.length_map,List.length_range] at h0
   obtain ⟨b,o,e,hbl,hi⟩:=hN h0
   refine ⟨b,o,e,hbl,fun j op a hj => ?_⟩
   have hl:=(List.getElem?_eq_some_iff.1 hj).1
   simp only [List.length_map,List.length_range] at hl
   have:=hi j hl
   have e:N j=(op,a):=by simpa [hl] using hj
   rw [e] at this
   exact this
 · obtain ⟨i,hi,rfl⟩:=List.mem_map.1 hy
   exact hR i (List.mem_range.1 hi)
theorem Yfn {fuel:Nat} {v:Value} {x:DataW H × List MemPlace} (h:DataW.trod enc Tryz.prog w 0 (fun _=>true) true fuel 24 [v]=some x) :
 ∃ (p:Option Addr) (fs:List FnP) (cap:Nat),v = .slice p fs.length cap/\Zap w w.heap.size p fs/\∀ f∈fs,(∀ y∈f.2.2.2,Zjl y.2):=by
 obtain ⟨p,len,cap,rfl,hm,hx⟩:=Zoa (k:=4) Zxm (by kernel_rfl) (by decide) h
 have hex:∃ N:Nat->FnP,(∀ i,i<len->(∀ y∈(N i).2.2.2,Zjl y.2))/\(0<len->∃ b o,p=some ⟨b,o,none⟩/\b<w.heap.size/\∀ i,i<len->w.cell? ⟨b,o+i*4,none⟩=some (.int .i64 (N i).1)/\w.cell? ⟨b,o+i*4+1,none⟩=some (.int .i64 (N i).2.1)/\w.cell? ⟨b,o+i*4+2,none⟩=some (.int .i64 (N i).2.2.1)/\∃ (pc:Option Addr) (cc:Nat),w.cell? ⟨b,o+i*4+3,none⟩=some (.slice pc (N i).2.2.2.length cc)/\Zht w w.heap.size pc (N i).2.2.2):=by
  rcases Nat.eq_zero_or_pos len with h0|h0
  · exact ⟨fun _=>(0,0,0,[]),fun i h=>by omega,fun h=>by omega⟩
  · obtain ⟨b,o,rfl,hbl,hi⟩:=hx h0
    have:∀ i,i<len->∃ N:FnP,(∀ y∈N.2.2.2,Zjl y.2)/\w.cell? ⟨b,o+i*4,none⟩=some (.int .i64 N.1)/\w.cell? ⟨b,o+i*4+1,none⟩=some (.int .i64 N.2.1)/\w.cell? ⟨b,o+i*4+2,none⟩=some (.int .i64 N.2.2.1)/\∃ (pc:Option Addr) (cc:Nat),w.cell? ⟨b,o+i*4+3,none⟩=some (.slice pc N.2.2.2.length cc)/\Zht w w.heap.size pc N.2.2.2:=by
     intro i hil
     obtain ⟨cs',n,y,h3,h4,h5⟩:=hi i hil
     obtain ⟨_,_,v0,y0,g0,t0⟩:=Zbl (k:=4) Tryz.underlying61 h5 0 _ rfl (by kernel_rfl) (by kernel_rfl) (by decide)
     obtain ⟨_,_,v1,y1,g1,t1⟩:=Zbl (k:=4) Tryz.underlying61 h5 1 _ rfl (by kernel_rfl) (by kernel_rfl) (by decide)
     obtain ⟨_,_,v2,y2,g2,t2⟩:=Zbl (k:=4) Tryz.underlying61 h5 2 _ rfl (by kernel_rfl) (by kernel_rfl) (by decide)
     obtain ⟨_,_,v3,y3,g3,t3⟩:=Zbl (k:=4) Tryz.underlying61 h5 3 _ rfl (by kernel_rfl) (by kernel_rfl) (by decide)
     obtain ⟨a,rfl,_⟩:=Zdb t0
     obtain ⟨l,rfl,_⟩:=Zdb t1
     obtain ⟨r,rfl,_⟩:=Zdb t2
     obtain ⟨pc,c,cc,rfl,hc,hr⟩:=Yav t3
     exact ⟨(a,l,r,c),hr,(h4 0 (by decide)).trans g0,(h4 1 (by decide)).trans g1,(h4 2 (by decide)).trans g2,pc,cc,(h4 3 (by decide)).trans g3,hc⟩
    obtain ⟨N,hN⟩ := @Deep.choose_lt _ ⟨((0,0,0,[]):FnP)⟩ _ _ this
    exact ⟨N,fun i hi=>(hN i hi).1,fun _=>⟨b,o,rfl,hbl,fun i hi=>(hN i hi).2⟩⟩
 obtain ⟨N,hR,hN⟩:=hex
 refine ⟨p,(List.range len).map N,cap,by simp,fun h0 => ?_,fun y hy => ?_⟩
 · simp only [List.length_map,List.length_range] at h0
   obtain ⟨b,o,e,hbl,hi⟩:=hN h0
   refine ⟨b,o,e,hbl,fun j a l r c hj => ?_⟩
   have hl:=(List.getElem?_eq_some_iff.1 hj).1
   simp only [List.length_map,List.length_range] at hl
   have:=hi j hl
   have e:N j=(a,l,r,c):=by simpa [hl] using hj
   rw [e] at this
   exact this
 · obtain ⟨i,hi,rfl⟩:=List.mem_map.1 hy
   exact hR i (List.mem_range.1 hi)
theorem read_prog {v:Value} {d:DataW H} {ps:List MemPlace} (hv:∃ cs,v = .agg cs) (h:DataW.Trod enc Tryz.prog w 0 (fun _=>true) true 26 v d ps) :
 ∃ (mem:Int) (dl:Txt) (fs:List FnP) (pd pF:Option Addr) (cd cF:Nat),v = .agg #[.int .i64 mem,.slice pd dl.length cd,.slice pF fs.length cF]/\Zap w w.heap.size pF fs/\Zdm w pd dl/\dl.length<=9223372036854775807/\∀ f∈fs,(∀ y∈f.2.2.2,Zjl y.2):=by
 obtain ⟨cs,rfl⟩:=hv
 obtain ⟨fuel,h⟩:=h
 have h':DataW.trod enc Tryz.prog w 0 (fun _=>true) true fuel 26 cs.toList=some (d,ps):=h
 obtain ⟨hl,_,v0,y0,g0,t0⟩:=Zbl (k:=3) Tryz.underlying26 h' 0 _ rfl (by kernel_rfl) (by kernel_rfl) (by decide)
 obtain ⟨_,_,v1,y1,g1,t1⟩:=Zbl (k:=3) Tryz.underlying26 h' 1 _ rfl (by kernel_rfl) (by kernel_rfl) (by decide)
 obtain ⟨_,_,v2,y2,g2,t2⟩:=Zbl (k:=3) Tryz.underlying26 h' 2 _ rfl (by kernel_rfl) (by kernel_rfl) (by decide)
 obtain ⟨mem,rfl,_⟩:=Zdb t0
 obtain ⟨pd,dl,cd,rfl,hd,hn⟩:=Zxk t1
 obtain ⟨pF,fs,cF,rfl,hF,hR⟩:=Yfn t2
 refine ⟨mem,dl,fs,pd,pF,cd,cF,?_,hF,hd,hn,hR⟩
 obtain ⟨a,b,c,e⟩:=Ypj hl
 have:cs = #[a,b,c]:=by
  have:=congrArg List.toArray e
  simpa using this
 subst this
 simp at g0 g1 g2
 rw [g0,g1,g2]
end
def Rdn (ap:Bool) (l:Txt) (ps:List Pc):Prop:=∀ f,l.length<f->Zma f ap l=some ps
theorem Ynj {l:Txt} {ps:List Pc} (h:Rdn true l ps):Zqh l=some ps:=h _ (Nat.lt_succ_self _)
theorem Zuz (ap:Bool):Rdn ap [] []:=by
 intro f hf
 obtain ⟨g,rfl⟩:∃ g,f=g+1:=⟨f - 1,by simp at hf;omega⟩
 rfl
theorem Zjy {ap:Bool} {c:UInt8} {r:Txt} {ps:List Pc} (h:c.toNat=32\/c.toNat=9\/c.toNat=13) (hr:Rdn true r ps):Rdn ap (c::r) ps:=by
 intro f hf
 obtain ⟨g,rfl⟩:∃ g,f=g+1:=⟨f - 1,by simp at hf;omega⟩
 rw [Zma,if_neg (by omega),if_pos h]
 exact hr g (by simp at hf;omega)
theorem Zva {ap:Bool} {r:Txt} {ps:List Pc} (hr:Rdn true r ps):Rdn ap (58::r) (.colon::ps):=by
 intro f hf
 obtain ⟨g,rfl⟩:∃ g,f=g+1:=⟨f - 1,by simp at hf;omega⟩
 rw [Zma,if_neg (by decide),if_neg (by decide),if_pos (by decide),hr g (by simp at hf;omega)]
 rfl
theorem Yaw {c:UInt8} {r:Txt} {p:Pc} {k:Nat} {ps:List Pc} (hb:Zlz c) (ho:Zmz (c::r)=some (p,k)) (hr:Rdn false ((c::r).drop k) ps):Rdn true (c::r) (p::ps):=by
 intro f hf
 obtain ⟨g,rfl⟩:∃ g,f=g+1:=⟨f - 1,by simp at hf;omega⟩
 have hk:=Zfa ho
 obtain ⟨c1,c2,c3,c4,c5⟩:=hb
 rw [Zma,if_neg c1,if_neg (by omega),if_neg c5,if_neg (by decide),ho]
 show Option.map _ _=_
 rw [hr g (by rw [List.length_drop];omega)]
 rfl
def Blk (b:Txt):Prop:=∀ c∈b,c.toNat=32\/c.toNat=9\/c.toNat=13
theorem Ztc {b r:Txt} {ps:List Pc} (h:Blk b) (hr:Rdn true r ps):Rdn true (b++r) ps:=by
 induction b with
 | nil=>exact hr
 | cons c b ih=>exact Zjy (h c (List.mem_cons_self ..)) (ih fun d hd=>h d (List.mem_cons_of_mem _ hd))
def Zzp (l:Txt):Prop:=∀ c r,l=c::r->tlB c=false
theorem Yaq {t l:Txt} (h:∀ c∈t,tlB c=true) (hl:Zzp l):Zdn (t++l)=t.length:=by
 unfold Zdn
 induction t with
 | nil =>
   cases l with
   | nil=>rfl
   | cons c r=>rw [List.nil_append,List.takeWhile_cons,if_neg (by rw [hl c r rfl];decide)]
 | cons c t ih =>
   rw [List.cons_append,List.takeWhile_cons,if_pos (h c (List.mem_cons_self ..)),List.length_cons,ih fun d hd=>h d (List.mem_cons_of_mem _ hd)]
   rfl
def Zjt (t:Txt):Prop:=(∃ c r,t=c::r/\Zvx c=true)/\∀ c∈t,tlB c=true
theorem Zyi {c:UInt8} (h:Zvx c=true):Zlz c:=by
 unfold Zvx Zmb at h
 simp at h
 exact ⟨by omega,by omega,by omega,by omega,by omega⟩
theorem Zat {t l:Txt} {ps:List Pc} (h:Zjt t) (hl:Zzp l) (hr:Rdn false l ps):Rdn true (t++l) (.word t::ps):=by
 obtain ⟨⟨c,r,rfl,hc⟩,ht⟩:=h
 have hn:=Yaq ht hl
 rw [List.cons_append] at hn ⊢
 refine Yaw (Zyi hc) (by rw [Zmz,if_pos hc,hn];rw [<- List.cons_append,List.take_left'];rfl) ?_
 rw [<- List.cons_append,List.drop_left' rfl]
 exact hr
def Yqe (t:Txt) (n:Int):Prop:=(∃ c r,t=c::r/\(c.toNat=45\/Zfd c=true)/\∀ d∈r,tlB d=true)/\Zvs t=some (n,false)
theorem Zze {c:UInt8} (h:c.toNat=45\/Zfd c=true):Zlz c/\Zvx c=false/\c.toNat≠34:=by
 unfold Zfd Zrr at h
 simp at h
 refine ⟨⟨by omega,by omega,by omega,by omega,by omega⟩,?_,by omega⟩
 unfold Zvx Zmb
 simp
 omega
theorem Zpy {t l:Txt} {n:Int} {ps:List Pc} (h:Yqe t n) (hl:Zzp l) (hr:Rdn false l ps):Rdn true (t++l) (.num n false::ps):=by
 obtain ⟨⟨c,r,rfl,hc,ht⟩,hn⟩:=h
 obtain ⟨h1,h2,h3⟩:=Zze hc
 have hw:=Yaq ht hl
 rw [List.cons_append]
 refine Yaw (k:=1+r.length) h1 (by
  rw [Zmz,if_neg (by rw [h2];decide),if_neg h3,if_pos hc,hw,<- List.cons_append,List.take_left' (by simp;omega),hn];rfl) ?_
 rw [<- List.cons_append,List.drop_left' (by simp;omega)]
 exact hr
theorem Ylh:∀ n:Fin 16,Zhv (Yeq n.val)=some n.val:=by decide +kernel
theorem Ycx {n:Nat} (h:n<16):Zhv (Yeq n)=some n:=Ylh ⟨n,h⟩
theorem Yaf:∀ (b l:Txt),unq (b.flatMap Zjz++34::l)=some (b,(b.flatMap Zjz).length+1)
 | [],l=>by rw [List.flatMap_nil,List.nil_append,unq.eq_def];simp
 | c::r,l=>by
   have ih:=Yaf r l
   rw [List.flatMap_cons,List.append_assoc]
   by_cases h1:c.toNat=34\/c.toNat=92
   · rw [Zvd h1]
     rw [unq.eq_def]
     simp [h1,ih]
   · by_cases h2:c.toNat<32\/126<c.toNat
     · rw [Zvc h1 h2]
       have h3:=Ycx (n:=c.toNat / 16) (by have:=c.toNat_lt;omega)
       have h4:=Ycx (n:=c.toNat % 16) (by omega)
       rw [unq.eq_def]
       simp [h3,h4,ih]
       have e:UInt8.ofNat (16*(c.toNat / 16)+c.toNat % 16)=c:=by
        rw [show 16*(c.toNat / 16)+c.toNat % 16=c.toNat by omega];exact UInt8.ofNat_toNat
       simpa using e
     · rw [Zvb h1 h2]
       rw [unq.eq_def]
       obtain ⟨g1,g2⟩:=not_or.1 h1
       simp [g1,g2,h2,ih]
theorem Yni {b l:Txt} {ps:List Pc} (hr:Rdn false l ps):Rdn true (Zoh b++l) (.str b::ps):=by
 have hu:=Yaf b l
 have e:Zoh b++l=34::(b.flatMap Zjz++34::l):=by unfold Zoh;simp
 rw [e]
 refine Yaw (k:=(b.flatMap Zjz).length+1+1) ⟨by decide,by decide,by decide,by decide,by decide⟩ (by
  rw [Zmz,if_neg (by decide),if_pos (by decide),hu];rfl) ?_
 have e2:(34::(b.flatMap Zjz++34::l):Txt).drop ((b.flatMap Zjz).length+1+1)=l:=by
  generalize b.flatMap Zjz=q
  rw [List.drop_succ_cons,show q++34::l=(q++[34])++l by simp,List.drop_left' (by simp)]
 rw [e2]
 exact hr
theorem Zqk {t:Txt} (hn:t.head? ≠ some 45) (h:¬ ([48,120].isPrefixOf t=true/\2<t.length)):Zvs t=(Lib.decNat t).map fun (v:Nat)=>if v<9223372036854775808 then ((v:Int),false) else (0,true):=by
 by_cases hp:[48,120].isPrefixOf t=true
 · obtain ⟨r,rfl⟩:∃ r,t=48::120::r:=by
    match t,hp with
    | a::b::r,hp =>
      simp at hp
      obtain ⟨rfl,rfl⟩:=hp
      exact ⟨r,rfl⟩
    | [_],hp=>simp at hp
    | [],hp=>simp at hp
   have hr:r=[]:=by
    cases r with
    | nil=>rfl
    | cons a q=>exact absurd ⟨hp,by simp⟩ h
   subst hr
   rfl
 · unfold Zvs
   rw [if_neg hp]
   have:(t.head? == some 45)=false:=by simpa using hn
   simp only [this,Bool.false_eq_true,if_false]
   cases Lib.decNat t with
   | none=>rfl
   | some v =>
     show some (if (v:Int)<9223372036854775808 then ((v:Int),false) else (0,true))=some (if v<9223372036854775808 then ((v:Int),false) else (0,true))
     by_cases hv:v<9223372036854775808
     · rw [if_pos (by omega),if_pos hv]
     · rw [if_neg (by omega),if_neg hv]
theorem Zql (m:Txt):Zvs (45::m)=(Lib.decNat m).map fun (v:Nat)=>if v<=9223372036854775808 then (-(v:Int),false) else (0,true):=by
 unfold Zvs
 rw [if_neg (by simp)]
 have h45:(((45:UInt8)::m).head? == some 45)=true:=by simp
 simp only [h45,if_true,List.drop_succ_cons,List.drop_zero]
 cases Lib.decNat m with
 | none=>rfl
 | some v =>
   show some (if (v:Int)<=9223372036854775808 then (-(v:Int),false) else (0,true))=some (if v<=9223372036854775808 then (-(v:Int),false) else (0,true))
   by_cases hv:v<=9223372036854775808
   · rw [if_pos (by omega),if_pos hv]
   · rw [if_neg (by omega),if_neg hv]
theorem Xy:∀ (u:Nat),Lib.decDigits u≠[]/\(∀ c∈Lib.decDigits u,Zfd c=true):=by
 intro u
 induction u using Nat.strongRecOn with
 | _ u ih =>
   have hd:∀ d:Fin 10,Zfd (UInt8.ofNat (48+d.val))=true:=by decide
   by_cases h:u<10
   · rw [Lib.decDigits,dif_pos h]
     refine ⟨by simp,fun c hc => ?_⟩
     rw [List.mem_singleton.1 hc]
     exact hd ⟨u,h⟩
   · rw [Lib.decDigits,dif_neg h]
     refine ⟨by simp,fun c hc => ?_⟩
     rcases List.mem_append.1 hc with hc|hc
     · exact (ih (u / 10) (by omega)).2 c hc
     · rw [List.mem_singleton.1 hc]
       exact hd ⟨u % 10,by omega⟩
theorem Zfu:∀ (a b:Txt) (k m:Nat),Lib.decFrom k a=some m->Lib.decFrom k (a++b)=Lib.decFrom m b
 | [],b,k,m,h=>by injection h with h;subst h;rfl
 | c::a,b,k,m,h=>by
   rw [List.cons_append,Lib.decFrom]
   rw [Lib.decFrom] at h
   cases hc:Lib.digitVal c with
   | none=>rw [hc] at h;cases h
   | some d=>rw [hc] at h;exact Zfu a b _ m h
theorem Zue (u:Nat):Lib.decFrom 0 (Lib.decDigits u)=some u:=by
 induction u using Nat.strongRecOn with
 | _ u ih =>
   have hd:∀ d:Fin 10,Lib.digitVal (UInt8.ofNat (48+d.val))=some d.val:=by decide
   by_cases h:u<10
   · rw [Lib.decDigits,dif_pos h,Lib.decFrom,hd ⟨u,h⟩]
     show some (0*10+u)=_
     simp
   · rw [Lib.decDigits,dif_neg h,Zfu _ _ _ _ (ih (u / 10) (by omega)),Lib.decFrom,hd ⟨u % 10,by omega⟩]
     show some (u / 10*10+u % 10)=_
     congr 1;omega
theorem Zfe (u:Nat):Lib.decNat (Lib.decDigits u)=some u:=by
 unfold Lib.decNat
 rw [if_neg (by simpa using (Xy u).1)]
 exact Zue u
theorem Zrq {c:UInt8} (h:Zfd c=true):tlB c=true:=by
 unfold tlB tlI
 unfold Zfd at h
 rw [h];simp
theorem Zhe (u:Nat):Lib.itoa (u:Int)=Lib.decDigits u:=by unfold Lib.itoa;rw [if_neg (by omega)];simp
theorem Zfv {u:Nat} {c:UInt8} {r:Txt} (h:Lib.decDigits u=c::r):Zfd c=true/\∀ d∈r,Zfd d=true:=by
 have h1:=(Xy u).2
 rw [h] at h1
 exact ⟨h1 c (List.mem_cons_self ..),fun d hd=>h1 d (List.mem_cons_of_mem _ hd)⟩
theorem Zgy (n:Int) (h1 : -9223372036854775808<=n) (h2:n<9223372036854775808):Yqe (Lib.itoa n) n:=by
 by_cases hn:n<0
 · obtain ⟨u,rfl⟩:∃ u:Nat,n = -(u:Int):=⟨n.natAbs,by omega⟩
   have e:Lib.itoa (-(u:Int))=45::Lib.decDigits u:=by unfold Lib.itoa;rw [if_pos hn];simp
   rw [e]
   refine ⟨⟨45,_,rfl,Or.inl (by decide),fun d hd=>Zrq ((Xy u).2 d hd)⟩,?_⟩
   rw [Zql,Zfe]
   show some (if u<=9223372036854775808 then (-(u:Int),false) else (0,true))=_
   rw [if_pos (by omega)]
 · obtain ⟨u,rfl⟩:∃ u:Nat,n=(u:Int):=⟨n.toNat,by omega⟩
   rw [Zhe]
   cases hd:Lib.decDigits u with
   | nil=>exact absurd hd (Xy u).1
   | cons c r =>
     obtain ⟨g1,g2⟩:=Zfv hd
     refine ⟨⟨c,r,rfl,Or.inr g1,fun d h=>Zrq (g2 d h)⟩,?_⟩
     have hx:¬ ([48,120].isPrefixOf (c::r)=true):=by
      intro hp
      cases r with
      | nil=>simp at hp
      | cons d r =>
        simp at hp
        have:=g2 d (List.mem_cons_self ..)
        rw [<- hp.2] at this
        exact absurd this (by decide)
     have h45:(c::r:Txt).head? ≠ some 45:=by
      intro h
      injection h with h
      subst h
      exact absurd g1 (by decide)
     rw [Zqk h45 (fun h=>hx h.1),<- hd,Zfe]
     show some (if u<9223372036854775808 then ((u:Int),false) else (0,true))=_
     rw [if_pos (by omega)]
theorem Ydn {a b:Nat} (h:Lib.decDigits a=Lib.decDigits b):a=b:=by
 have h1:=Zfe a
 rw [h,Zfe] at h1
 injection h1 with h1;exact h1.symm
theorem Zrt:∀ (l r:Txt),(∀ c∈l,c.toNat≠10)->Zcm (l++10::r)=l::Zcm r
 | [],r,_=>by rw [List.nil_append,Zcm,if_pos (by decide)]
 | c::l,r,h=>by
   rw [List.cons_append,Zcm,if_neg (h c (List.mem_cons_self ..)),Zrt l r fun d hd=>h d (List.mem_cons_of_mem _ hd)]
def Zqr (T:Tab) (s:St) (ps:List Pc) (line:Nat):Except Int St:=match Zgp T ps with
 | none => .error 141
 | some x=>Zbj T s x (Zgc ps) line
theorem Ygt {T:Tab} {s:St} {l:Txt} {ps:List Pc} (n:Nat) (h:Zqh l=some ps):Zqs T s l n=Zqr T s ps n:=by
 unfold Zqs Zqr;rw [h];rfl
def Zfn (T:Tab):St->Nat->List (List Pc)->Except (Int × Nat) St
 | s,_,[] => .ok s
 | s,n,l::r=>match Zqr T s l n with
   | .error e => .error (e,n)
   | .ok s1=>Zfn T s1 (n+1) r
inductive Al2 (R:Txt->List Pc->Prop):List Txt->List (List Pc)->Prop
 | nil:Al2 R [] []
 | cons {l:Txt} {ps:List Pc} {ls:List Txt} {qs:List (List Pc)}:R l ps->Al2 R ls qs->Al2 R (l::ls) (ps::qs)
theorem Zdl {R:Txt->List Pc->Prop} {a c:List Txt} {b d:List (List Pc)} (h:Al2 R a b) (g:Al2 R c d):Al2 R (a++c) (b++d):=by
 induction h with
 | nil=>exact g
 | cons h _ ih=>exact .cons h ih
theorem Zpj {R:Txt->List Pc->Prop} {f:Nat->List Txt} {g:Nat->List (List Pc)}:∀ (l:List Nat),(∀ k∈l,Al2 R (f k) (g k))->Al2 R (l.flatMap f) (l.flatMap g)
 | [],_ => .nil
 | k::l,h=>by
   rw [List.flatMap_cons,List.flatMap_cons]
   exact Zdl (h k (List.mem_cons_self ..)) (Zpj l fun j hj=>h j (List.mem_cons_of_mem _ hj))
abbrev RdL:=Al2 (Rdn true)
theorem Yce {T:Tab} {ls:List Txt} {qs:List (List Pc)} (h:RdL ls qs):∀ s n,Zfo T s n ls=Zfn T s n qs:=by
 induction h with
 | nil=>intro s n;rfl
 | cons h _ ih =>
   intro s n
   rw [Zfo,Zfn,Ygt n (Ynj h)]
   split
   · rename_i h2;rw [h2]
   · rename_i h2;rw [h2];exact ih _ _
def Zzo (T:Tab) (s:St) (ls:List (List Pc)) (Q:St->Prop):Prop:=∀ n,∃ s',Zfn T s n ls = .ok s'/\Q s'
theorem Zkb {T:Tab} {s:St} {Q:St->Prop} (h:Q s):Zzo T s [] Q:=fun n=>⟨s,rfl,h⟩
theorem Zfb {T:Tab} {s:St} {l:List Pc} {Q:St->Prop} (h:∀ n,∃ s',Zqr T s l n = .ok s'/\Q s'):Zzo T s [l] Q:=fun n=>by
 obtain ⟨s',h1,h2⟩:=h n
 exact ⟨s',by rw [Zfn,h1];rfl,h2⟩
theorem Zhb {T:Tab}:∀ (a b:List (List Pc)) (s s1:St) (n:Nat),Zfn T s n a = .ok s1->Zfn T s n (a++b)=Zfn T s1 (n+a.length) b
 | [],b,s,s1,n,h=>by injection h with h;subst h;rfl
 | l::a,b,s,s1,n,h=>by
   rw [Zfn] at h
   rw [List.cons_append,Zfn]
   cases hl:Zqr T s l n with
   | error e=>rw [hl] at h;cases h
   | ok s2 =>
     rw [hl] at h
     simp only [] at h ⊢
     rw [Zhb a b s2 s1 (n+1) h,List.length_cons]
     congr 1;omega
theorem Jo {T:Tab} {s:St} {a b:List (List Pc)} {Q R:St->Prop} (h:Zzo T s a Q) (g:∀ s',Q s'->Zzo T s' b R):Zzo T s (a++b) R:=fun n=>by
 obtain ⟨s',h1,h2⟩:=h n
 obtain ⟨s2,h3,h4⟩:=g s' h2 (n+a.length)
 exact ⟨s2,by rw [Zhb a b s s' n h1];exact h3,h4⟩
def fnW (nm:Txt) (k:Nat):Txt:=nm++102::Lib.decDigits k
def lbW (nm:Txt) (k:Nat):Txt:=nm++76::Lib.decDigits k
theorem Yde {nm:Txt} {a b:Nat} (h:fnW nm a=fnW nm b):a=b:=by
 unfold fnW at h
 have h:=List.append_cancel_left h
 injection h with _ h
 exact Ydn h
theorem Ych {nm:Txt} {a b:Nat} (h:lbW nm a=lbW nm b):a=b:=by
 unfold lbW at h
 have h:=List.append_cancel_left h
 injection h with _ h
 exact Ydn h
def Ymp (nm:Txt):Prop:=nm=[]\/Zjt nm
theorem Zup {nm:Txt} (h:Ymp nm) {c:UInt8} (hc:Zvx c=true) (k:Nat):Zjt (nm++c::Lib.decDigits k):=by
 have ht:∀ d∈c::Lib.decDigits k,tlB d=true:=by
  intro d hd
  rcases List.mem_cons.1 hd with rfl|hd
  · exact Yir hc
  · exact Zrq ((Xy k).2 d hd)
 rcases h with rfl|⟨⟨d,r,rfl,hd⟩,hr⟩
 · exact ⟨⟨c,_,rfl,hc⟩,ht⟩
 · refine ⟨⟨d,_,rfl,hd⟩,fun x hx => ?_⟩
   rcases List.mem_append.1 hx with hx|hx
   · exact hr x hx
   · exact ht x hx
theorem Yab {nm:Txt} (h:Ymp nm) (k:Nat):Zjt (fnW nm k):=Zup h (by decide) k
theorem Zzz {nm:Txt} (h:Ymp nm) (k:Nat):Zjt (lbW nm k):=Zup h (by decide) k
def Yet (t:Txt):Bool:=(match t with|[]=>false|c::_=>Zvx c) && t.all tlB
theorem Zgj {t:Txt} (h:Yet t=true):Zjt t:=by
 unfold Yet at h
 simp only [Bool.and_eq_true,List.all_eq_true] at h
 obtain ⟨h1,h2⟩:=h
 cases t with
 | nil=>cases h1
 | cons c r=>exact ⟨⟨c,r,rfl,h1⟩,h2⟩
def okC (c:UInt8):Bool:=c != 9 && c != 10 && c != 32 && c != 58
def Zei:Txt->Bool
 | []=>true
 | [c]=>okC c
 | c::d::r=>okC c && !((c == 76 || c == 102) && Zfd d) && Zei (d::r)
theorem Zkr (T:List ShR) (x:Txt):Xj T x=T.findIdx? fun r=>r.1.data.toList == x:=by
 unfold Xj
 congr 1
 funext r
 rw [Lib.toList_data]
theorem Yko:∀ n:Fin 46,((shapeT.findIdx? fun r=>r.1.data.toList == Zbw (n.val:Int)) == some n.val && Yet (Zbw (n.val:Int)) && Zei (Zbw (n.val:Int)) && (Zbw (n.val:Int) != Xo) && (Zbw (n.val:Int) != Zdo) && (Zbw (n.val:Int) != Zdz))=true:=by decide +kernel
theorem Yjj:∀ n:Fin 5,((callT.findIdx? fun r=>r.1.data.toList == Zzq (n.val:Int)) == some n.val && Yet (Zzq (n.val:Int)) && Zei (Zzq (n.val:Int)))=true:=by decide +kernel
theorem Yex {t:Txt} {n:Nat} (h:Xj shapeT t=some n):TT.named t=some (n:Int):=by
 have e:TT.named t=(Xj shapeT t).map fun n=>(n:Int):=rfl
 rw [e,h];rfl
theorem Ynb {t:Txt} {n:Nat} (h:Xj callT t=some n):TT.sys t=some (n:Int):=by
 have e:TT.sys t=(Xj callT t).map fun n=>(n:Int):=rfl
 rw [e,h];rfl
structure Yos (op:Int):Prop where
 w:Zjt (Zbw op)
 p:Zei (Zbw op)=true
 named:TT.named (Zbw op)=some op
 m:Zbw op≠Xo
 d:Zbw op≠Zdo
 f:Zbw op≠Zdz
 kind:TT.kind op=Ys op
theorem Zky {op:Int} {s:ByteArray × Int × Int × Int} (h:Zv op=some s):Yos op:=by
 have hr:0<=op/\op<46:=by
  by_cases hr:0<=op/\op<46
  · exact hr
  · rw [Zab hr] at h;cases h
 obtain ⟨n,x,rfl,hn,h1,h2⟩:=Zce hr
 have H:=Yko ⟨n,hn⟩
 simp only [Bool.and_eq_true,bne_iff_ne,ne_eq,beq_iff_eq] at H
 obtain ⟨⟨⟨⟨⟨a1,a2⟩,a3⟩,a4⟩,a5⟩,a6⟩:=H
 refine ⟨Zgj a2,a3,?_,a4,a5,a6,?_⟩
 · exact Yex (by rw [Zkr,a1])
 · show Zio _=_
   unfold Zio Ys
   rw [h2,Int.toNat_natCast,h1];rfl
theorem Zny {a:Int} (h0:0<=a) (h1:a<5):Zjt (Zzq a)/\Zei (Zzq a)=true/\TT.sys (Zzq a)=some a:=by
 obtain ⟨n,rfl⟩:∃ n:Nat,a=n:=⟨a.toNat,by omega⟩
 have H:=Yjj ⟨n,by omega⟩
 simp only [Bool.and_eq_true,bne_iff_ne,ne_eq,beq_iff_eq] at H
 obtain ⟨⟨a1,a2⟩,a3⟩:=H
 refine ⟨Zgj a2,a3,?_⟩
 exact Ynb (by rw [Zkr,a1])
def Ypi (nm:Txt) (nF nC:Nat) (kind a:Int):List Pc :=
 if kind=0 then []
 else if kind=3/\a<=nC then [.word (lbW nm a.toNat)]
 else if kind=4/\a<nF then [.word (fnW nm a.toNat)]
 else if kind=5 then [.word (Zzq a)]
 else [.num a false]
def Yhc (nm:Txt) (nF nC:Nat) (x:Int × Int):List Pc := .word (Zbw x.1)::Ypi nm nF nC (Ys x.1) x.2
def plP (nm:Txt) (nF:Nat) (code:List (Int × Int)) (k:Nat):List (List Pc):=(if Xq code k then [[.word (lbW nm k),.colon]] else [])++(match code[k]? with|some x=>[Yhc nm nF code.length x]|none=>[])
def Zrz (nm:Txt) (nF:Nat) (code:List (Int × Int)) (n:Nat):List (List Pc):=(List.range n).flatMap (plP nm nF code)
def Zub (nm:Txt) (k:Nat) (f:FnR):List Pc:=[.word Zdz,.word (fnW nm k),.num f.1 false,.num f.2.1 false,.num f.2.2.1 false]
def fnP (nm:Txt) (nF k:Nat) (f:FnR):List (List Pc):=Zub nm k f::Zrz nm nF f.2.2.2 (f.2.2.2.length+1)
def Ymn (nm:Txt) (fs:List FnR) (n:Nat):List (List Pc):=(List.range n).flatMap fun k=>match fs[k]? with|some f=>fnP nm fs.length k f|none=>[]
def Zus (mem:Int) (d:Txt):List (List Pc):=[[.word Xo,.num mem false]]++(if d=[] then [] else [[.word Zdo,.str d]])
def Zxq (nm:Txt) (p:PrP):List (List Pc):=Zus p.1 p.2.1++Ymn nm p.2.2 p.2.2.length
def isW (nF nC:Nat) (x:Int × Int):Bool:=(Ys x.1 == 3 && decide (x.2<=nC)) || (Ys x.1 == 4 && decide (x.2<nF))
def Zzr (nF nC:Nat) (x:Int × Int):Int × Int:=if isW nF nC x then (x.1,0) else x
def Yqh (nF:Nat) (f:FnR):FnR:=(f.1,f.2.1,f.2.2.1,f.2.2.2.map (Zzr nF f.2.2.2.length))
def Zbx (nm:Txt) (code:List (Int × Int)) (n:Nat):List (Txt × Nat):=(List.range n).flatMap fun j=>if Xq code j then [(lbW nm j,j)] else []
theorem Zfz (nm:Txt) (code:List (Int × Int)) (n:Nat):Zbx nm code (n+1)=Zbx nm code n++(if Xq code n then [(lbW nm n,n)] else []):=by
 unfold Zbx;rw [List.range_succ,List.flatMap_append];simp
theorem Znb {nm:Txt} {code:List (Int × Int)} {n:Nat} {x:Txt × Nat} (h:x∈Zbx nm code n):∃ j,j<n/\Xq code j=true/\x=(lbW nm j,j):=by
 unfold Zbx at h
 obtain ⟨j,hj,hx⟩:=List.mem_flatMap.1 h
 split at hx
 · rename_i hg
   exact ⟨j,List.mem_range.1 hj,hg,by simpa using hx⟩
 · simp at hx
theorem Zlb {nm:Txt} {code:List (Int × Int)}:∀ {n a:Nat},a<n->Xq code a=true->(Zbx nm code n).find? (fun x=>x.1 == lbW nm a)=some (lbW nm a,a)
 | 0,a,h,_=>absurd h (Nat.not_lt_zero _)
 | n+1,a,h,hg=>by
   rw [Zfz,List.find?_append]
   by_cases ha:a<n
   · rw [Zlb ha hg];rfl
   · have:a=n:=by omega
     subst this
     have h1:(Zbx nm code a).find? (fun x=>x.1 == lbW nm a)=none:=by
      rw [List.find?_eq_none]
      intro x hx
      obtain ⟨j,hj,_,rfl⟩:=Znb hx
      simp only [beq_iff_eq]
      intro he
      exact absurd (Ych he) (by omega)
     rw [h1,if_pos hg]
     simp
def Ypb (nm:Txt) (fs:List FnR) (w:Zge):Prop:=∃ F X,fs[w.fn]? = some F/\F.2.2.2[w.pl]? = some X/\0<=X.2 /\
 ((w.jump=true/\Ys X.1=3/\X.2<=F.2.2.2.length/\w.word=lbW nm X.2.toNat)\/(w.jump=false/\Ys X.1=4/\X.2<fs.length/\w.word=fnW nm X.2.toNat))
structure StI (nm:Txt) (P:PrP) (k:Nat) (F:List FnR) (L:List (List (Txt × Nat))) (done:Nat->Nat->Prop) (s:St):Prop where
 mem:s.mem=P.1
 ms:s.memSet=true
 data:s.data=P.2.1
 funcs:s.funcs=F
 names:s.names=(List.range k).map (fnW nm)
 labels:s.labels=L
 w1:∀ w∈s.wants,Ypb nm P.2.2 w
 w2:∀ i p f x,P.2.2[i]? = some f->f.2.2.2[p]? = some x->done i p->isW P.2.2.length f.2.2.2.length x=true->∃ w∈s.wants,w.fn=i/\w.pl=p
def Zzd (P:PrP) (k:Nat):List FnR:=(P.2.2.take k).map (Yqh P.2.2.length)
def Zzc (nm:Txt) (P:PrP) (k:Nat):List (List (Txt × Nat)):=(P.2.2.take k).map fun f=>Zbx nm f.2.2.2 (f.2.2.2.length+1)
def Zly (nm:Txt) (P:PrP) (k:Nat) (s:St):Prop:=StI nm P k (Zzd P k) (Zzc nm P k) (fun i _=>i<k) s
def Yja (nm:Txt) (P:PrP) (k j jl:Nat) (f:FnR) (s:St):Prop :=
 StI nm P (k+1) (Zzd P k++[(f.1,f.2.1,f.2.2.1,(f.2.2.2.take j).map (Zzr P.2.2.length f.2.2.2.length))]) (Zzc nm P k++[Zbx nm f.2.2.2 jl]) (fun i p=>i<k\/i=k/\p<j) s
theorem Yey {α:Type} {l:List α} {k:Nat} {f:α} (h:l[k]? = some f):(l.take k).length=k:=by
 have:=(List.getElem?_eq_some_iff.1 h).1
 rw [List.length_take];omega
theorem Yfy {nm:Txt} {P:PrP} {k:Nat} {f:FnR} {s:St} (hf:P.2.2[k]? = some f) (h:Yja nm P k f.2.2.2.length (f.2.2.2.length+1) f s):Zly nm P (k+1) s:=by
 obtain ⟨h1,h2,h3,h4,h5,h6,h7,h8⟩:=h
 refine ⟨h1,h2,h3,?_,h5,?_,h7,?_⟩
 · rw [h4,List.take_length]
   unfold Zzd
   rw [List.take_add_one,hf,List.map_append]
   rfl
 · rw [h6]
   unfold Zzc
   rw [List.take_add_one,hf,List.map_append]
   rfl
 · intro i p g x hi hp hd hw
   refine h8 i p g x hi hp ?_ hw
   by_cases hik:i<k
   · exact Or.inl hik
   · have:i=k:=by omega
     subst this
     rw [hf] at hi
     injection hi with hi
     subst hi
     exact Or.inr ⟨rfl,(List.getElem?_eq_some_iff.1 hp).1⟩
theorem Zbm (t:Txt) (r:List Pc) (h:∀ q,r ≠ .colon::q):Zgp TT (.word t::r)=Zjo TT (.word t::r):=by
 have e:Yb (.word t::r)=([],.word t::r):=by
  unfold Yb
  split
  · rename_i h'
    injection h' with _ h'
    exact absurd h' (h _)
  · rfl
 unfold Zgp
 simp only [e]
theorem Yam (nm:Txt) (k:Nat) (f:FnR):Zgp TT (Zub nm k f)=some (.fn (fnW nm k) f.1 f.2.1 f.2.2.1):=by
 unfold Zub
 rw [Zbm _ _ (by intro r h;cases h)]
 unfold Zjo
 simp only []
 rw [if_neg (by decide),if_neg (by decide)]
 simp
theorem Yah {nm:Txt} {P:PrP} {k:Nat} {f:FnR} {s:St} (hf:P.2.2[k]? = some f) (h:Zly nm P k s):Zzo TT s [Zub nm k f] (Yja nm P k 0 0 f):=by
 obtain ⟨h1,h2,h3,h4,h5,h6,h7,h8⟩:=h
 refine Zfb fun n => ?_
 have hc:s.names.contains (fnW nm k)=false:=by
  rw [h5]
  rw [Bool.eq_false_iff]
  intro hm
  have hm:=List.contains_iff_mem.1 hm
  obtain ⟨j,hj,e⟩:=List.mem_map.1 hm
  exact absurd (Yde e) (by have:=List.mem_range.1 hj;omega)
 refine ⟨{ s with funcs:=s.funcs++[(f.1,f.2.1,f.2.2.1,[])],names:=s.names++[fnW nm k],labels:=s.labels++[[]] },?_,h1,h2,h3,?_,?_,?_,h7,?_⟩
 · unfold Zqr
   rw [Yam]
   show Zbj TT s _ false n=_
   unfold Zbj
   rw [if_neg (by simp [Zeb]),if_neg (by decide)]
   simp only [hc,Bool.false_eq_true,if_false]
 · show s.funcs++_=_
   rw [h4];simp
 · show s.names++_=_
   rw [h5,List.range_succ,List.map_append];rfl
 · show s.labels++_=_
   rw [h6];rfl
 · intro i p g x hi hp hd hw
   exact h8 i p g x hi hp (by omega) hw
theorem Yfh (t:Txt):Zgp TT [.word t,.colon]=some (.code [t] none):=rfl
theorem Xx {α:Type} (l:List α) (a d:α):(l++[a]).getLastD d=a:=by simp
theorem Zjw {α:Type} (l:List α) (a b:α):(l++[a]).set ((l++[a]).length - 1) b=l++[b]:=by
 rw [List.length_append,List.length_singleton,Nat.add_sub_cancel];simp [List.set_append]
theorem Zur {nm:Txt} {P:PrP} {k j:Nat} {f:FnR} {s:St} (hf:P.2.2[k]? = some f) (hj:j<=f.2.2.2.length) (h:Yja nm P k j j f s) :
 Zzo TT s (if Xq f.2.2.2 j then [[.word (lbW nm j),.colon]] else []) (Yja nm P k j (j+1) f):=by
 obtain ⟨h1,h2,h3,h4,h5,h6,h7,h8⟩:=h
 by_cases hg:Xq f.2.2.2 j=true
 · rw [if_pos hg]
   refine Zfb fun n => ?_
   have hany:(Zbx nm f.2.2.2 j).any (fun x=>x.1 == lbW nm j)=false:=by
    rw [List.any_eq_false]
    intro x hx
    obtain ⟨i,hi,_,rfl⟩:=Znb hx
    simp only [beq_iff_eq]
    intro he
    exact absurd (Ych he) (by omega)
   have hl:(Zao s).2.2.2.length=j:=by
    unfold Zao
    rw [h4,Xx,List.length_map,List.length_take];omega
   have hl2:s.labels.getLastD []=Zbx nm f.2.2.2 j:=by rw [h6,Xx]
   have hadd:Zfw (Zao s).2.2.2.length (s.labels.getLastD []) [lbW nm j]=some (Zbx nm f.2.2.2 (j+1)):=by
    rw [hl,hl2,Zfz,if_pos hg,Zfw,if_neg (by rw [hany];decide),Zfw]
   refine ⟨{ s with labels:=s.labels.set (s.labels.length - 1) (Zbx nm f.2.2.2 (j+1)) },?_,h1,h2,h3,h4,h5,?_,h7,h8⟩
   · unfold Zqr
     rw [Yfh]
     show Zbj TT s _ false n=_
     unfold Zbj
     rw [if_neg (by simp [Zeb,h4]),if_neg (by decide)]
     simp only [hadd]
   · show s.labels.set _ _=_
     rw [h6,Zjw]
 · rw [if_neg hg]
   refine Zkb ⟨h1,h2,h3,h4,h5,?_,h7,h8⟩
   rw [h6,Zfz,if_neg hg,List.append_nil]
def Zsn (nm:Txt) (nF nC:Nat) (x:Int × Int):Option Txt:=if isW nF nC x then some (if Ys x.1=3 then lbW nm x.2.toNat else fnW nm x.2.toNat) else none
theorem Yfi {nm:Txt} {nF nC:Nat} {x:Int × Int} {s:ByteArray × Int × Int × Int} (hs:Zv x.1=some s) (hm:Zdr s.2.1.toNat x.2=true) :
 Zgp TT (Yhc nm nF nC x)=some (.code [] (some (x.1,(Zzr nF nC x).2,Zsn nm nF nC x)))/\Zgc (Yhc nm nF nC x)=false:=by
 obtain ⟨hw,_,hn,n1,n2,n3,hk⟩:=Zky hs
 have hks:Ys x.1=s.2.1:=by unfold Ys;rw [hs]
 have hk0:0<=s.2.1/\s.2.1<7:=by
  refine Zib s ?_
  unfold Zv at hs
  split at hs
  · exact List.mem_of_getElem? hs
  · cases hs
 have hline:∀ r:List Pc,Zjo TT (.word (Zbw x.1)::r)=Zjq TT [] (.word (Zbw x.1)::r):=fun r=>by
  unfold Zjo
  simp only []
  rw [if_neg n1,if_neg n2,if_neg n3]
 have hbig:∀ r:List Pc,Zgc (.word (Zbw x.1)::r)=Zgc r:=fun r=>by unfold Zgc;rw [List.any_cons];rfl
 have h0:Ys x.1=0->x.2=0:=fun h=>by
  rw [hks] at h;rw [h] at hm;simpa [Zdr] using hm
 have h5:Ys x.1=5->0<=x.2/\x.2<5:=fun h=>by
  rw [hks] at h;rw [h] at hm;simpa [Zdr,bK] using hm
 unfold Yhc Ypi Zzr Zsn
 by_cases k0:Ys x.1=0
 · have hw0:isW nF nC x=false:=by unfold isW;rw [k0];rfl
   rw [if_pos k0,if_neg (by rw [hw0];decide),if_neg (by rw [hw0];decide)]
   refine ⟨?_,rfl⟩
   rw [Zbm _ _ (by intro r h;cases h),hline]
   unfold Zjq
   simp only [hn,hk,k0,if_true]
   rw [h0 k0]
 · rw [if_neg k0]
   by_cases k3:Ys x.1=3/\x.2<=nC
   · have hw0:isW nF nC x=true:=by unfold isW;rw [k3.1];simp [k3.2]
     rw [if_pos k3,if_pos hw0,if_pos hw0,if_pos k3.1]
     refine ⟨?_,rfl⟩
     rw [Zbm _ _ (by intro r h;cases h),hline]
     unfold Zjq
     simp only [hn,hk,k3.1]
     rfl
   · rw [if_neg k3]
     by_cases k4:Ys x.1=4/\x.2<nF
     · have hw0:isW nF nC x=true:=by unfold isW;rw [k4.1];simp [k4.2]
       rw [if_pos k4,if_pos hw0,if_pos hw0,if_neg (by rw [k4.1];decide)]
       refine ⟨?_,rfl⟩
       rw [Zbm _ _ (by intro r h;cases h),hline]
       unfold Zjq
       simp only [hn,hk,k4.1]
       rfl
     · rw [if_neg k4]
       have hw0:isW nF nC x=false:=by
        unfold isW
        rw [Bool.or_eq_false_iff,Bool.and_eq_false_iff,Bool.and_eq_false_iff]
        refine ⟨?_,?_⟩
        · by_cases h:Ys x.1=3
          · right;simpa using fun h2=>k3 ⟨h,h2⟩
          · left;simpa using h
        · by_cases h:Ys x.1=4
          · right;simpa using fun h2=>k4 ⟨h,h2⟩
          · left;simpa using h
       have hw1:¬ isW nF nC x=true:=by rw [hw0];decide
       rw [if_neg hw1,if_neg hw1]
       by_cases k5:Ys x.1=5
       · rw [if_pos k5]
         refine ⟨?_,rfl⟩
         obtain ⟨g1,g2⟩:=h5 k5
         obtain ⟨_,_,g3⟩:=Zny g1 g2
         rw [Zbm _ _ (by intro r h;cases h),hline]
         unfold Zjq
         simp only [hn,hk,k5,g3]
         rfl
       · rw [if_neg k5]
         refine ⟨?_,rfl⟩
         rw [Zbm _ _ (by intro r h;cases h),hline]
         unfold Zjq
         simp only [hn,hk,if_neg k0]
theorem Ydc {code:List (Int × Int)} {x:Int × Int} {k:Nat} (h:x∈code) (hk:Ys x.1=3) (ha:x.2=(k:Int)):Xq code k=true:=by
 unfold Xq
 rw [List.any_eq_true]
 exact ⟨x,h,by simp [hk,ha]⟩
def Zmj (s:St) (n:Nat) (op:Int) (o:Option Txt):List Zge:=match o with
 | none=>s.wants
 | some t=>s.wants++[⟨s.funcs.length - 1,(Zao s).2.2.2.length,n,t,TT.kind op == 3⟩]
theorem Yfb {nm:Txt} {P:PrP} {k j:Nat} {f:FnR} {s:St} {x:Int × Int} {sh:ByteArray × Int × Int × Int} (hf:P.2.2[k]? = some f) (hx:f.2.2.2[j]? = some x) (hs:Zv x.1=some sh) (hm:Zdr sh.2.1.toNat x.2=true)
 (h:Yja nm P k j (j+1) f s):Zzo TT s [Yhc nm P.2.2.length f.2.2.2.length x] (Yja nm P k (j+1) (j+1) f):=by
 obtain ⟨h1,h2,h3,h4,h5,h6,h7,h8⟩:=h
 obtain ⟨g1,g2⟩:=Yfi (nm:=nm) (nF:=P.2.2.length) (nC:=f.2.2.2.length) hs hm
 have hjl:j<f.2.2.2.length:=(List.getElem?_eq_some_iff.1 hx).1
 have hkl:=Yey hf
 have hl:(Zao s).2.2.2.length=j:=by
  unfold Zao
  rw [h4,Xx,List.length_map,List.length_take];omega
 have hfl:s.funcs.length - 1=k:=by
  rw [h4];unfold Zzd
  rw [List.length_append,List.length_map,hkl];simp
 have h0:isW P.2.2.length f.2.2.2.length x=true->0<=x.2:=fun hw=>by
  unfold isW at hw
  have hks:Ys x.1=sh.2.1:=by unfold Ys;rw [hs]
  simp only [Bool.or_eq_true,Bool.and_eq_true,beq_iff_eq] at hw
  rcases hw with hw|hw
  · have:=hw.1;rw [hks] at this;rw [this] at hm
    simp [Zdr] at hm;exact hm.1
  · have:=hw.1;rw [hks] at this;rw [this] at hm
    simp [Zdr] at hm;exact hm.1
 refine Zfb fun n => ?_
 have hput:Zai s (x.1,(Zzr P.2.2.length f.2.2.2.length x).2)=Zzd P k++[(f.1,f.2.1,f.2.2.1,(f.2.2.2.take (j+1)).map (Zzr P.2.2.length f.2.2.2.length))]:=by
  unfold Zai Zao
  rw [h4,Zjw,Xx,List.take_add_one,hx,List.map_append]
  have:Zzr P.2.2.length f.2.2.2.length x=(x.1,(Zzr P.2.2.length f.2.2.2.length x).2):=by unfold Zzr;split <;> rfl
  rw [<- this]
  rfl
 have hlab:s.labels.set (s.labels.length - 1) (s.labels.getLastD [])=Zzc nm P k++[Zbx nm f.2.2.2 (j+1)]:=by
  rw [h6,Zjw,Xx]
 refine ⟨{ s with labels:=s.labels.set (s.labels.length - 1) (s.labels.getLastD []),wants:=Zmj s n x.1 (Zsn nm P.2.2.length f.2.2.2.length x),funcs:=Zai s (x.1,(Zzr P.2.2.length f.2.2.2.length x).2) },?_,h1,h2,h3,hput,h5,hlab,?_,?_⟩
 · unfold Zqr
   rw [g1,g2]
   show Zbj TT s _ false n=_
   unfold Zbj
   rw [if_neg (by simp [Zeb,h4]),if_neg (by decide)]
   rfl
 · intro w hw
   show Ypb nm P.2.2 w
   replace hw:w∈Zmj s n x.1 (Zsn nm P.2.2.length f.2.2.2.length x):=hw
   unfold Zmj Zsn at hw
   by_cases hi:isW P.2.2.length f.2.2.2.length x=true
   · rw [if_pos hi] at hw
     simp only [List.mem_append,List.mem_singleton] at hw
     rcases hw with hw|rfl
     · exact h7 w hw
     · rw [hfl,hl]
       refine ⟨f,x,hf,hx,h0 hi,?_⟩
       have hkd:=(Zky hs).kind
       unfold isW at hi
       simp only [Bool.or_eq_true,Bool.and_eq_true,beq_iff_eq,decide_eq_true_eq] at hi
       by_cases h3:Ys x.1=3
       · left
         refine ⟨by show (TT.kind x.1 == 3)=true;rw [hkd,h3];rfl,h3,?_,if_pos h3⟩
         rcases hi with hi|hi
         · exact hi.2
         · omega
       · right
         rcases hi with hi|hi
         · exact absurd hi.1 h3
         · exact ⟨by show (TT.kind x.1 == 3)=false;rw [hkd,hi.1];rfl,hi.1,hi.2,if_neg h3⟩
   · rw [if_neg hi] at hw
     exact h7 w hw
 · intro i p g y hi hp hd hw
   show ∃ w∈Zmj s n x.1 (Zsn nm P.2.2.length f.2.2.2.length x),w.fn=i/\w.pl=p
   by_cases hn:i<k\/i=k/\p<j
   · obtain ⟨w,hw1,hw2⟩:=h8 i p g y hi hp hn hw
     refine ⟨w,?_,hw2⟩
     unfold Zmj
     split
     · exact hw1
     · exact List.mem_append_left _ hw1
   · obtain ⟨rfl,rfl⟩:i=k/\p=j:=by omega
     rw [hf] at hi
     injection hi with hi
     subst hi
     rw [hx] at hp
     injection hp with hp
     subst hp
     unfold Zmj Zsn
     rw [if_pos hw]
     exact ⟨_,List.mem_append_right _ (List.mem_singleton.2 rfl),hfl,hl⟩
theorem Zfc:∀ {l:List (Int × Int)},Zec l=0->∀ x∈l,∃ s,Zv x.1=some s/\Zdr s.2.1.toNat x.2=true
 | [],_,x,h=>by cases h
 | y::r,h,x,hm=>by
   unfold Zec at h
   cases hs:Zv y.1 with
   | none=>rw [hs] at h;cases h
   | some s =>
     rw [hs] at h
     simp only [] at h
     by_cases hk:Zdr s.2.1.toNat y.2=true
     · rw [if_pos hk] at h
       rcases List.mem_cons.1 hm with rfl|hm
       · exact ⟨s,hs,hk⟩
       · exact Zfc h x hm
     · rw [if_neg hk] at h;cases h
theorem Zml {nm:Txt} {P:PrP} {k:Nat} {f:FnR} (hf:P.2.2[k]? = some f) (he:Zec f.2.2.2=0):∀ (j:Nat) (s:St),j<=f.2.2.2.length->Yja nm P k 0 0 f s->Zzo TT s (Zrz nm P.2.2.length f.2.2.2 j) (Yja nm P k j j f)
 | 0,s,_,h=>Zkb h
 | j+1,s,hj,h=>by
   have e:Zrz nm P.2.2.length f.2.2.2 (j+1)=Zrz nm P.2.2.length f.2.2.2 j++plP nm P.2.2.length f.2.2.2 j:=by
    unfold Zrz;rw [List.range_succ,List.flatMap_append];simp
   rw [e]
   refine Jo (Zml hf he j s (by omega) h) fun s1 h1 => ?_
   unfold plP
   refine Jo (Zur hf (by omega) h1) fun s2 h2 => ?_
   have hx:f.2.2.2[j]? = some f.2.2.2[j]:=List.getElem?_eq_getElem (by omega)
   obtain ⟨sh,g1,g2⟩:=Zfc he f.2.2.2[j] (List.getElem_mem _)
   rw [hx]
   exact Yfb hf hx g1 g2 h2
theorem Yfa {nm:Txt} {P:PrP} {k:Nat} {f:FnR} {s:St} (hf:P.2.2[k]? = some f) (he:Zec f.2.2.2=0) (h:Zly nm P k s):Zzo TT s (fnP nm P.2.2.length k f) (Zly nm P (k+1)):=by
 have e:fnP nm P.2.2.length k f=[Zub nm k f]++(Zrz nm P.2.2.length f.2.2.2 f.2.2.2.length++(if Xq f.2.2.2 f.2.2.2.length then [[.word (lbW nm f.2.2.2.length),.colon]] else [])):=by
  unfold fnP Zrz
  rw [List.range_succ,List.flatMap_append]
  have hn:f.2.2.2[f.2.2.2.length]? = none:=List.getElem?_eq_none (Nat.le_refl _)
  have:plP nm P.2.2.length f.2.2.2 f.2.2.2.length=(if Xq f.2.2.2 f.2.2.2.length then [[.word (lbW nm f.2.2.2.length),.colon]] else []):=by
   unfold plP;rw [hn];simp
  simp [this]
 rw [e]
 refine Jo (Yah hf h) fun s1 h1 => ?_
 refine Jo (Zml hf he _ s1 (Nat.le_refl _) h1) fun s2 h2 => ?_
 have h3:=Zur hf (Nat.le_refl _) h2
 intro n
 obtain ⟨s',a1,a2⟩:=h3 n
 exact ⟨s',a1,Yfy hf a2⟩
theorem Zps {nm:Txt} {P:PrP} (he:∀ f∈P.2.2,Zec f.2.2.2=0):∀ (k:Nat) (s:St),k<=P.2.2.length->Zly nm P 0 s->Zzo TT s (Ymn nm P.2.2 k) (Zly nm P k)
 | 0,s,_,h=>Zkb h
 | k+1,s,hk,h=>by
   have hf:P.2.2[k]? = some P.2.2[k]:=List.getElem?_eq_getElem (by omega)
   have e:Ymn nm P.2.2 (k+1)=Ymn nm P.2.2 k++fnP nm P.2.2.length k P.2.2[k]:=by
    unfold Ymn;rw [List.range_succ,List.flatMap_append];simp [hf]
   rw [e]
   refine Jo (Zps he k s (by omega) h) fun s1 h1 => ?_
   exact Yfa hf (he _ (List.getElem_mem _)) h1
theorem Zxf {nm:Txt} (P:PrP):Zzo TT St0 (Zus P.1 P.2.1) (Zly nm P 0):=by
 unfold Zus
 refine Jo (Q:=fun s=>s={ St0 with mem:=P.1,memSet:=true }) (Zfb fun n=>⟨_,rfl,rfl⟩) ?_
 rintro s rfl
 by_cases hd:P.2.1=[]
 · rw [if_pos hd]
   refine Zkb ⟨rfl,rfl,hd.symm,rfl,rfl,rfl,fun w hw=>absurd hw (List.not_mem_nil),fun i p f x _ _ h _=>absurd h (Nat.not_lt_zero _)⟩
 · rw [if_neg hd]
   refine Zfb fun n=>⟨_,rfl,rfl,rfl,?_,rfl,rfl,rfl,fun w hw=>absurd hw (List.not_mem_nil),fun i p f x _ _ h _=>absurd h (Nat.not_lt_zero _)⟩
   exact List.nil_append _
end Go.Proofs.YteciblfmgdlipaaGreatDoor.AS
