/-
  Part of a proof: contracts of functions and lemmas, each stated by its own theorem. Conditions: as each theorem states.
-/
import Derived.Test.YteciblfmgdlipaaGreatDoorMI11
import Derived.Test.YteciblfmgdlipaaGreatDoorMI05
set_option linter.unusedSimpArgs false
set_option linter.unusedVariables false
set_option maxRecDepth 100000
set_option maxHeartbeats 16000000
namespace Go.Proofs.YteciblfmgdlipaaGreatDoor.AS
open Go.RowKit Go.Great CK
def Yoc:Nat->Nat
 | 0=>78
 | 1=>79
 | 2=>80
 | 3=>81
 | 4=>82
 | 5=>83
 | 6=>84
 | 7=>85
 | 8=>86
 | 9=>87
 | 10=>88
 | 11=>89
 | 12=>90
 | 13=>91
 | 14=>92
 | 15=>93
 | 16=>94
 | 17=>95
 | _=>5000
theorem Yo:∀ i,i<18->∀ j,j<18->j≠i->Yoc j≠Yoc i:=by decide
theorem Zhf (i:Nat) (h:i<18):i=0\/i=1\/i=2\/i=3\/i=4\/i=5\/i=6\/i=7\/i=8\/i=9\/i=10\/i=11\/i=12\/i=13\/i=14\/i=15\/i=16\/i=17:=by omega
theorem Zar (j:Nat) (hj:j∈[0,4,5,11,12]):∀ i,i<18->Yoc i≠j:=by revert j;decide
def Jt (B b q bP bF cb co nd cd nF cF nC cc k:Nat) (mem fa0 fl0 fr0 o a nw:Int) (pd pF:Option Addr) (nm s2:ByteArray) (L9:Txt):Nat->Value
 | 0 => .pointer (some ⟨b,0,none⟩)
 | 1 => .pointer (some ⟨q,0,none⟩)
 | 2 => .string nm
 | 3 => .string (⟨#[9]⟩++nm)
 | 4 => .agg #[.int .i64 mem,.slice pd nd cd,.slice pF nF cF]
 | 5 => .agg #[.int .i64 fa0,.int .i64 fl0,.int .i64 fr0,.slice (some ⟨cb,co,none⟩) nC cc]
 | 6 => .pointer (some ⟨q,1,none⟩)
 | 7 => .int .i64 o
 | 8 => .pointer (some ⟨bF,3,none⟩)
 | 9 => .slice (some ⟨cb,co,none⟩) nC cc
 | 10 => .int .i64 (k:Int)
 | 11 => .pointer (some ⟨cb,co+k*2,none⟩)
 | 12 => .pointer (some ⟨cb,co+k*2+1,none⟩)
 | 13 => .int .i64 a
 | 14 => .string s2
 | 15 => .string (⟨#[9]⟩++nm++s2)
 | 16 => .string (⟨#[9]⟩++nm++s2++⟨#[10]⟩)
 | 17 => .tuple #[.int .i64 nw,.nilIface]
 | _=>undef
def Yvu (B b q bP bF cb co nd cd nF cF nC cc k:Nat) (mem fa0 fl0 fr0 o a nw:Int) (pd pF:Option Addr) (nm s2:ByteArray) (L9:Txt)  : Nat->World->Prop
 | 14=>fun _=>True
 | 17=>fun w9=>Bld B b L9 w9
 | _=>fun _=>True
theorem Yaz {B b q bP bF cb co nd cd nF cF nC cc k:Nat} {mem fa0 fl0 fr0 o a nw:Int} {pd pF:Option Addr} {nm s2:ByteArray} {L9:Txt}   {l:Array Bool} (hcl:∀ p∈([(2,1),(3,2),(7,6),(9,8),(11,9),(11,10),(12,11),(13,12),(14,4),(14,5),(14,7),(14,13),(15,3),(15,14),(16,15),(17,0),(17,16)]:List (Nat × Nat)),l.getD (Prod.fst p) false=true->l.getD (Prod.snd p) false=true) (hun:l.getD 14 false=false):∀ i,i<18->l.getD i false=true->Yoc i<97->Jt B b q bP bF cb co nd cd nF cF nC cc k mem fa0 fl0 fr0 o a nw pd pF nm s2 L9  i=Jt B b q bP bF cb co nd cd nF cF nC cc k mem fa0 fl0 fr0 o a nw pd pF nm s2 L9  i:=by
 intro i hi hl _
 rcases Zhf i hi with rfl|rfl|rfl|rfl|rfl|rfl|rfl|rfl|rfl|rfl|rfl|rfl|rfl|rfl|rfl|rfl|rfl|rfl <;> rfl
theorem Yay {B b q bP bF cb co nd cd nF cF nC cc k:Nat} {mem fa0 fl0 fr0 o a nw:Int} {pd pF:Option Addr} {nm s2:ByteArray} {L9:Txt}   {l:Array Bool} (hcl:∀ p∈([(2,1),(3,2),(7,6),(9,8),(11,9),(11,10),(12,11),(13,12),(14,4),(14,5),(14,7),(14,13),(15,3),(15,14),(16,15),(17,0),(17,16)]:List (Nat × Nat)),l.getD (Prod.fst p) false=true->l.getD (Prod.snd p) false=true) (hun:l.getD 17 false=false):∀ i,i<18->l.getD i false=true->Yoc i<97->Jt B b q bP bF cb co nd cd nF cF nC cc k mem fa0 fl0 fr0 o a nw pd pF nm s2 L9  i=Jt B b q bP bF cb co nd cd nF cF nC cc k mem fa0 fl0 fr0 o a nw pd pF nm s2 L9  i:=by
 intro i hi hl _
 rcases Zhf i hi with rfl|rfl|rfl|rfl|rfl|rfl|rfl|rfl|rfl|rfl|rfl|rfl|rfl|rfl|rfl|rfl|rfl|rfl <;> rfl
structure CdR (w0 w:World) (bP bF g:Nat) (vP vF:Array Value) (code:List (Int × Int)) (k:Nat):Prop where
 box:CdB w bP bF g vP vF (code.length+1) (Zdd (code.take k))
 gr:w0.grownBy w none
structure CdS (w0 w:World) (B b bP bF g nF:Nat) (vP vF:Array Value) (code:List (Int × Int)) (l:Txt) (k:Nat):Prop where
 box:CdB w bP bF g vP vF (code.length+1) (Zdd code)
 bld:Bld B b (l++Zby nF code k) w
 fr:BFr B b w0 w
 lib:LibW w
theorem Zxl {op:Int} {nm:ByteArray} {o t g:Int} (h:Yx op=some (nm,o,t,g)) (w:World):Calls Tryz.prog 66 #[.int .i64 op] w fun e w'=>e = .returned (.tuple #[.agg #[.string nm,.int .i64 o,.int .i64 t,.int .i64 g],.bool true])/\w.grownBy w' none:=by
 have:=Ypi op w
 rw [h] at this
 exact this
structure CdT (w0 w:World) (B b bP bF g:Nat) (vP vF:Array Value) (code:List (Int × Int)) (l:Txt):Prop where
 box:CdB w bP bF g vP vF (code.length+1) (Zdd code)
 bld:Bld B b l w
 fr:BFr B b w0 w
 lib:LibW w
theorem Zvn {w0 w w':World} {B b bP bF g:Nat} {vP vF:Array Value} {code:List (Int × Int)} {l:Txt} (h:CdT w0 w B b bP bF g vP vF code l) (hg:w.grownBy w' none) (hB:B<=w.heap.size):CdT w0 w' B b bP bF g vP vF code l :=
 ⟨Zdx h.box hg,Zcw h.bld hg,Yn h.fr (Xk hg hB),Ym h.lib hg⟩
theorem Zig (a b:Txt) {x y:ByteArray} (hx:x=bs a) (hy:y=bs b):x++y=bs (a++b):=by subst hx;subst hy;exact Zbo a b
theorem Yhq (B b:Nat) (l:Txt) (k:Nat) (w:World) (h:Bld B b l w) (hl:l.length<=200000000) (hk:k<=5000) (hBw:B<=w.heap.size) :
 Calls Tryz.prog 38 #[.pointer (some ⟨b,0,none⟩),.string (⟨#[76]⟩++bs (Lib.itoa k)++⟨#[58,10]⟩)] w fun e w'=>e = .returned (.tuple #[.int .i64 (76::(Lib.itoa k++[58,10])).length,.nilIface])/\Bld B b (l++(76::(Lib.itoa k++[58,10]))) w'/\BFr B b w w':=by
 have hz:=Lib.itoa_length_le k (by omega) (by omega)
 have e:(⟨#[76]⟩++bs (Lib.itoa k)++⟨#[58,10]⟩:ByteArray)=bs (76::(Lib.itoa k++[58,10])):=by
  refine (congrArg (·++_) (Zig [76] (Lib.itoa k) rfl rfl)).trans ((Zig _ [58,10] rfl rfl).trans ?_)
  simp
 rw [e]
 exact Zhg B b l (76::(Lib.itoa k++[58,10])) w h (by simp only [List.length_cons,List.length_append,List.length_nil];omega) hBw
theorem Zuv (B b:Nat) (l:Txt) (nF nC:Nat) (op a:Int) (nm:ByteArray) (o t g:Int) (hs:Yx op=some (nm,o,t,g)) (ha:Zki a) (w:World) (h:Bld B b l w) (hl:l.length<=200000000) (hBw:B<=w.heap.size) :
 Calls Tryz.prog 38 #[.pointer (some ⟨b,0,none⟩),.string (⟨#[9]⟩++nm++bs (Zgg nF nC o a)++⟨#[10]⟩)] w fun e w'=>e = .returned (.tuple #[.int .i64 (Zmb nF nC (op,a)).length,.nilIface])/\Bld B b (l++Zmb nF nC (op,a)) w'/\BFr B b w w':=by
 have hz:=Yam (x:=(op,a)) ha nF nC
 have e:(⟨#[9]⟩++nm++bs (Zgg nF nC o a)++⟨#[10]⟩:ByteArray)=bs (Zmb nF nC (op,a)):=by
  refine (congrArg (fun x=>x++_++_) (Zig [9] nm.data.toList rfl rfl)).trans ((congrArg (·++_) (Zig _ (Zgg nF nC o a) rfl rfl)).trans ((Zig _ [10] rfl rfl).trans ?_))
  unfold Zmb
  rw [Yaj hs,Ymp hs]
  simp
 rw [e]
 exact Zhg B b l _ w h (by omega) hBw
theorem Yjb (w:World) (vP vF:Array Value) (code:List (Int × Int)):CdR w (((w.alloc (.cells vP 26)).alloc (.cells vF 61)).alloc (.cells (madeCells #[.bool false] (code.length+1)) 4)) w.heap.size (w.heap.size+1) (w.heap.size+1+1) vP vF code 0:=by
 have h1:=heap_alloc_new w (.cells vP 26)
 have h2:=heap_alloc_new (w.alloc (.cells vP 26)) (.cells vF 61)
 have h3:=Ycq ((w.alloc (.cells vP 26)).alloc (.cells vF 61)) (code.length+1)
 rw [World.size_alloc] at h2
 rw [World.size_alloc,World.size_alloc] at h3
 have ga:=Ga (w.alloc (.cells vP 26)) (.cells vF 61) none
 have gb:=Ga ((w.alloc (.cells vP 26)).alloc (.cells vF 61)) (.cells (madeCells #[.bool false] (code.length+1)) 4) none
 exact ⟨⟨Zf h1 (Za ga gb) (by simp),Zf h2 gb (by simp),h3⟩,Za (Ga _ _ none) (Za ga gb)⟩
theorem Yax (mem fa0 fl0 fr0:Int) (pd pF pc:Option Addr) (nd cd nF cF cc:Nat) (code:List (Int × Int)) (B b D:Nat) (L0:Txt) (w:World) (hW:LibW w) (hb:Bld B b L0 w) (hB:B<=w.heap.size) (h8:8<=B) (hD:D<=B) (hC:Zpj w D pc code) (hok:Zkb code=0) (hr:∀ x∈code,Zki x.2) (hn:code.length<=4096) (hl:L0.length<=100000000) :
 Calls Tryz.prog 41 #[.pointer (some ⟨b,0,none⟩),.agg #[.int .i64 mem,.slice pd nd cd,.slice pF nF cF],.agg #[.int .i64 fa0,.int .i64 fl0,.int .i64 fr0,.slice pc code.length cc]] w fun e w'=>e = .returned (.tuple #[])/\Bld B b (L0++Zby nF code (code.length+1)) w'/\BFr B b w w':=by
 have hbs:=(Zvs hb).2
 have CC:=Hq hC
 have RR:=Hq hr
 have BL:=Hq hb
 have LW:=Hq hW
 have HE:=Hq hok
 have MB:=Hq (fun w=>Ycp code.length (by omega) w)
 clear hC hr hb hW hok
 have mbw:=MB.out
 go_enter Tryz.func41,Tryz.ntmps41
 go_wp2
 have R0:=Hq (Yjb w #[.int .i64 mem,.slice pd nd cd,.slice pF nF cF] #[.int .i64 fa0,.int .i64 fl0,.int .i64 fr0,.slice pc code.length cc] code)
 have BX:=Hq hbs
 have hsz:=Hq hB
 clear mbw MB
 generalize ((w.alloc (.cells #[.int .i64 mem,.slice pd nd cd,.slice pF nF cF] 26)).alloc (.cells #[.int .i64 fa0,.int .i64 fl0,.int .i64 fr0,.slice pc code.length cc] 61)).alloc (.cells (madeCells #[.bool false] (code.length+1)) 4)=w3 at R0 ⊢
 have N1:=Hq (show w.heap.size≠w.heap.size+1+1/\w.heap.size+1≠w.heap.size+1+1/\w.heap.size≠b/\w.heap.size+1≠b/\w.heap.size+1+1≠b by omega)
 clear hbs
 obtain ⟨bP,hbP⟩:∃ x,w.heap.size=x:=⟨_,rfl⟩
 have HBP:=Hq hbP
 rw [hbP] at R0 N1 ⊢
 clear hbP hB
 obtain ⟨bF,hbF⟩:∃ x,bP+1=x:=⟨_,rfl⟩
 rw [hbF] at R0 N1 ⊢
 have HBF:=Hq hbF
 clear hbF
 obtain ⟨g,hg⟩:∃ x,bF+1=x:=⟨_,rfl⟩
 rw [hg] at R0 N1 ⊢
 have HBG:=Hq hg
 clear hg
 go_loopw [22] (fun i wr=>∃ k:Nat,i = .int .i64 k/\k<=code.length/\CdR w wr bP bF g #[.int .i64 mem,.slice pd nd cd,.slice pF nF cF] #[.int .i64 fa0,.int .i64 fl0,.int .i64 fr0,.slice pc code.length cc] code k) (fun i _=>code.length - (intOf i).toNat)
 case atStart=>exact ⟨0,rfl,Nat.zero_le _,R0.out⟩
 case round =>
  obtain ⟨k,rfl,hk,hR⟩:=hrel
  have R:=Hq hR
  have y3:=Cq wr bF 3 _ _ _ hR.box.bf
  have lF:=(Gs hR.box.bf)
  clear hR
  by_cases hlt:k<code.length
  · obtain ⟨⟨op,a⟩,hx⟩:∃ x,code[k]? = some x:=⟨_,List.getElem?_eq_getElem hlt⟩
    obtain ⟨nm,o,t,gv,hs,hm⟩:=Yav (code:=code) (k:=k) k code HE.out hx
    obtain ⟨cb,co,rfl,hcb,hcc⟩:=CC.out (by omega)
    have x0:=R.out.gr.cell (hcc k op a hx).1 (by simp)
    have x1:=R.out.gr.cell (hcc k op a hx).2 (by simp)
    have lc:=Nat.lt_of_lt_of_le (Nat.lt_of_lt_of_le hcb (Nat.le_trans hD hsz.out)) R.out.gr.size
    have OF:=Hq (fun W=>Zxl hs W)
    have HX:=Hq hx
    have HO:=Hq (Yaj hs)
    have HM:=Hq hm
    clear hx hs hm hcc
    by_cases ho:o=3
    · have ha0:0<=a:=Ymr (by rw [<- ho];exact HM.out)
      obtain ⟨m,rfl⟩:=Int.eq_ofNat_of_zero_le ha0
      subst ho
      by_cases hfa:(m:Int)<=code.length
      · have NX:=Hq (Yik HX.out HO.out)
        have hmn:m<code.length+1:=by omega
        clear ha0
        go_wp2_with (go_at_call 66;refine (OF.out _).mono ?_;rintro e w1 ⟨rfl,hg1⟩;have R1:=Hq (Zdx R.out.box (Za (Ga wr _ none) hg1));have G1:=Hq (Za R.out.gr (Za (Ga wr _ none) hg1));have hq:=Zf (heap_alloc_new wr (.cells #[.int .i64 op,.int .i64 (m:Int)] 58)) hg1 (by simp);have d0:=Cq w1 _ 0 _ _ _ hq;have d1:=Cq w1 _ 1 _ _ _ hq;have ld:=(Gs hq);have e3:=Cq w1 bF 3 _ _ _ R1.out.bf;have lF1:=(Gs R1.out.bf);have eg:=R1.out.rw.cell hmn;have zg:=R1.out.rw.frozen m;have lg:=R1.out.rw.lt;clear hg1 hq)
        exact ⟨⟨k+1,by go_num,by omega,Zdx (Ytl R1.out N1.out.1 N1.out.2.1 (fun i _=>NX.out i)) (Ga _ _ none),Za (Zy G1.out (by have:=HBP.out;have:=HBF.out;have:=HBG.out;omega)) (Ga _ _ none)⟩,by simp [intOf];omega⟩
      · have NX:=Hq (Ynr (n:=code.length) HX.out hfa)
        clear ha0
        go_wp2_with (go_at_call 66;refine (OF.out _).mono ?_;rintro e w1 ⟨rfl,hg1⟩;have R1:=Hq (Zdx R.out.box (Za (Ga wr _ none) hg1));have G1:=Hq (Za R.out.gr (Za (Ga wr _ none) hg1));have hq:=Zf (heap_alloc_new wr (.cells #[.int .i64 op,.int .i64 (m:Int)] 58)) hg1 (by simp);have d0:=Cq w1 _ 0 _ _ _ hq;have d1:=Cq w1 _ 1 _ _ _ hq;have ld:=(Gs hq);have e3:=Cq w1 bF 3 _ _ _ R1.out.bf;have lF1:=(Gs R1.out.bf);clear hg1 hq)
        exact ⟨⟨k+1,by go_num,by omega,Zoz (Zdx R1.out (Ga _ _ none)) NX.out,Za G1.out (Ga _ _ none)⟩,by simp [intOf];omega⟩
    · have hob:(o == 3)=false:=beq_eq_false_iff_ne.2 ho
      have NX:=Hq (Ytd HX.out HO.out hob)
      clear ho
      go_wp2_with (go_at_call 66;refine (OF.out _).mono ?_;rintro e w1 ⟨rfl,hg1⟩;have R1:=Hq (Zdx R.out.box (Za (Ga wr _ none) hg1));have G1:=Hq (Za R.out.gr (Za (Ga wr _ none) hg1));have hq:=Zf (heap_alloc_new wr (.cells #[.int .i64 op,.int .i64 a] 58)) hg1 (by simp);have d0:=Cq w1 _ 0 _ _ _ hq;have d1:=Cq w1 _ 1 _ _ _ hq;have ld:=(Gs hq);have e3:=Cq w1 bF 3 _ _ _ R1.out.bf;have lF1:=(Gs R1.out.bf);clear hg1 hq)
      exact ⟨⟨k+1,by go_num,by omega,Zoz (Zdx R1.out (Ga _ _ none)) (fun i _=>NX.out i),Za G1.out (Ga _ _ none)⟩,by simp [intOf];omega⟩
  · have hkn:k=code.length:=by omega
    subst hkn
    obtain ⟨wo,hwo⟩:∃ wo,wo=wr:=⟨_,rfl⟩
    subst hwo
    have S0:=Hq (show CdS w wo B b bP bF g nF _ _ code L0 0 from ⟨Zoz R.out.box (fun i _=>Yns code i),by have:=Zcw BL.out R.out.gr;simpa [Zby] using this,Xk R.out.gr hsz.out,Ym LW.out R.out.gr⟩)
    clear hlt y3 lF
    go_wp2
    go_loopw [50] (fun i wr2=>∃ k:Nat,i = .int .i64 k/\k<=code.length+1/\CdS w wr2 B b bP bF g nF #[.int .i64 mem,.slice pd nd cd,.slice pF nF cF] #[.int .i64 fa0,.int .i64 fl0,.int .i64 fr0,.slice pc code.length cc] code L0 k) (fun i _=>code.length+1 - (intOf i).toNat)
    case atStart=>exact ⟨0,rfl,Nat.zero_le _,S0.out⟩
    case round =>
     obtain ⟨k,rfl,hk,hS⟩:=hrel
     have S:=Hq hS
     have ll:=Hq (Zvm RR.out nF k (by omega))
     clear hS
     by_cases hkn:k<code.length+1
     · have y3:=Cq wr bF 3 _ _ _ S.out.box.bf
       have lF:=(Gs S.out.box.bf)
       have eg0:=S.out.box.rw.cell hkn
       have lg:=S.out.box.rw.lt
       obtain ⟨gb,hgb⟩:∃ x,Zdd code k=x:=⟨_,rfl⟩
       rw [hgb] at eg0
       have HG:=Hq hgb
       clear hgb
       cases gb with
       | true =>
         have LT:=Hq (show Zmu code k=76::(Lib.itoa k++[58,10]) from if_pos HG.out)
         have IT:=Hq (Zce k (by omega) (by omega) wr S.out.lib)
         have hz:=Lib.itoa_length_le k (by omega) (by omega)
         have hc1:¬ 9223372036854775807<1+(bs (Lib.itoa k)).size:=by rw [Zl];omega
         have hc2:¬ 9223372036854775807<1+(bs (Lib.itoa k)).size+2:=by rw [Zl];omega
         have WB:=Hq (fun W (hbl:Bld B b (L0++Zby nF code k) W) (hBW:B<=W.heap.size)=>Yhq B b (L0++Zby nF code k) k W hbl (by rw [List.length_append];have:=ll.out;omega) (by omega) hBW)
         clear hz
         go_upto_region 14 with (first
          | (go_at_call 39;refine IT.out.mono ?_;rintro e w4 ⟨rfl,hg4⟩;have G4:=Hq hg4;clear hg4)
          | (go_at_call 38;refine (WB.out _ (Zcw S.out.bld G4.out) (Nat.le_trans hsz.out (Nat.le_trans S.out.fr.below.size G4.out.size))).mono ?_;rintro e w5 ⟨rfl,hb5,hf5⟩;have F5:=Hq (Yn (Xk G4.out (Nat.le_trans hsz.out S.out.fr.below.size)) hf5);have S5:=Hq (show CdT w w5 B b bP bF g _ _ code (L0++Zby nF code k++Zmu code k) from ⟨Zyi S.out.box F5.out N1.out.2.2.1 N1.out.2.2.2.1 N1.out.2.2.2.2,by rw [LT.out];exact hb5,Yn S.out.fr F5.out,Zcg F5.out h8 S.out.lib⟩);have y35:=Cq w5 bF 3 _ _ _ S5.out.box.bf;have lF5:=(Gs S5.out.box.bf);clear hb5 hf5 IT WB))
         by_cases hlt:k<code.length
         · obtain ⟨⟨op,a⟩,hx⟩:∃ x,code[k]? = some x:=⟨_,List.getElem?_eq_getElem hlt⟩
           obtain ⟨nm,o,t,gv,hs,hm⟩:=Yav (code:=code) (k:=k) k code HE.out hx
           have HA:=Hq (RR.out (op,a) (List.mem_of_getElem? hx))
           obtain ⟨cb,co,rfl,hcb,hcc⟩:=CC.out (by omega)
           have hcB:cb<B:=by omega
           have x0:=Xo S5.out.fr hcB (hcc k op a hx).1
           have x1:=Xo S5.out.fr hcB (hcc k op a hx).2
           have lc:cb<w5.heap.size:=Nat.lt_of_lt_of_le hcB (Nat.le_trans hsz.out S5.out.fr.below.size)
           have OF:=Hq (fun W=>Zxl hs W)
           have HX:=Hq hx
           have XC:=Hq (hcc k op a hx)
           have HS:=Hq hs
           have HM:=Hq hm
           have hnz:nm.size<=10:=Znz _ (Zru hs)
           clear hx hs hm hcc
           go_upto_region 16 with (go_at_call 66;refine (OF.out _).mono ?_;rintro e w6 ⟨rfl,hg6⟩;have G6:=Hq hg6;have hlt6:=hg6.size;clear hg6)
           have hB5:=Nat.le_trans hsz.out S5.out.fr.below.size
           have S7:=Hq (Zvn S5.out (Za G6.out (Ga w6 (.cells #[.string nm,.int .i64 o,.int .i64 t,.int .i64 gv] 144) none)) hB5)
           have BQ:=Hq (heap_alloc_new w6 (.cells #[.string nm,.int .i64 o,.int .i64 t,.int .i64 gv] 144))
           have hB7:=Hq (show B<=(w6.alloc (.cells #[.string nm,.int .i64 o,.int .i64 t,.int .i64 gv] 144)).heap.size by rw [World.size_alloc];omega)
           have HQ:=Hq (show w6.heap.size≠b by have:=(Zvs S5.out.bld).2;omega)
           generalize w6.alloc (.cells #[.string nm,.int .i64 o,.int .i64 t,.int .i64 gv] 144)=w7 at S7 BQ hB7 ⊢
           clear hlt6
           obtain ⟨q,hq⟩:∃ x,w6.heap.size=x:=⟨_,rfl⟩
           rw [hq] at BQ HQ ⊢
           clear hq x0 x1 lc y35 lF5
           have x1:=Xo S7.out.fr hcB XC.out.2
           have hkc:(k:Int)<(code.length:Int):=by omega
           have hop:=Zsi HA.out nF code.length o
           have z1:¬ 9223372036854775807<1+nm.size:=by omega
           have z2:¬ 9223372036854775807<1+nm.size+(bs (Zgg nF code.length o a)).size:=by rw [Zl];omega
           have z3:¬ 9223372036854775807<1+nm.size+(bs (Zgg nF code.length o a)).size+1:=by rw [Zl];omega
           have LL:=Hq (show (L0++Zby nF code k++Zmu code k).length<=200000000 by have h1:=ll.out;have h2:=Zsp code (k:=k) (by omega);simp only [List.length_append];omega)
           have OP:=Hq (fun W (hW:LibW W)=>Znx mem fa0 fl0 fr0 o a pd pF (some ⟨cb,co,none⟩) nd cd nF cF code.length cc W hW HA.out.1 HA.out.2 (Yhh HM.out))
           have IW:=Hq (fun W h hBW=>Zuv B b (L0++Zby nF code k++Zmu code k) nF code.length op a nm o t gv HS.out HA.out W h LL.out hBW)
           (try rename_i K16 hK16)
           refine Yd (n:=18) (J:=fun a0 l a1 w1=>RJ a0 97 18 Yoc (Jt B b q bP bF cb co nd cd nF cF code.length cc k mem fa0 fl0 fr0 o a (Zmb nF code.length (op,a)).length pd pF nm (bs (Zgg nF code.length o a)) (L0++Zby nF code k++Zmu code k++Zmb nF code.length (op,a)) ) l a1/\Zas 18 18 17 [(2,1),(3,2),(7,6),(9,8),(11,9),(11,10),(12,11),(13,12),(14,4),(14,5),(14,7),(14,13),(15,3),(15,14),(16,15),(17,0),(17,16)] [] (fun w9=>BFr B b w7.drew w9) (fun w9=>World.grownBy w7.drew w9 none) (Yvu B b q bP bF cb co nd cd nF cF code.length cc k mem fa0 fl0 fr0 o a (Zmb nF code.length (op,a)).length pd pF nm (bs (Zgg nF code.length o a)) (L0++Zby nF code k++Zmu code k++Zmb nF code.length (op,a)) ) (fun _=>True) l w1) (by kernel_rfl) rfl (Yt (by kernel_rfl)) (fun l a1 w1 h=>by obtain ⟨h,_⟩:=h;exact h.sz) ⟨Yc rfl,Zu (Zhr _ _ _) (Zb _ _)⟩ ?step ?fin
           case step =>
            intro l a1 w' i hJJ hi hin
            obtain ⟨hJ,hW⟩:=hJJ
            have hun:l.getD i false=false:=getD_both (mem_ready.1 hi).1
            have hns:=Xe hW hin hun
            have hg:=hW.g hns
            have BQ':=Zcs (w:=w7.drew) hg BQ.out (by decide) HQ.out
            have BP':=Zcs (w:=w7.drew) hg S7.out.box.bp (by decide) N1.out.2.2.1
            have BF':=Zcs (w:=w7.drew) hg S7.out.box.bf (by decide) N1.out.2.2.2.1
            have lq:=(Array.getElem?_eq_some_iff.1 BQ').1
            have lP:=(Array.getElem?_eq_some_iff.1 BP').1
            have lF:=(Array.getElem?_eq_some_iff.1 BF').1
            have lc:cb<w'.heap.size:=Nat.lt_of_lt_of_le hcB (Nat.le_trans hB7.out hg.below.size)
            rcases Zhf i hin with rfl|rfl|rfl|rfl|rfl|rfl|rfl|rfl|rfl|rfl|rfl|rfl|rfl|rfl|rfl|rfl|rfl|rfl
            · have e0:a1.tmps.getD 0 undef = .pointer (some ⟨b,0,none⟩):=hJ.un 0 (fun i hi _=>Zar 0 (by decide) i hi)
              exact Zd hJ hW hi hun (hne:=Yo _ (by decide)) (hrun:=by simp [execOp,Act.eval,e0,lq,lP,lF,lc,z1,z2,z3,hkc,go_sem,Jt])
            · have e12:a1.tmps.getD 12 undef = .pointer (some ⟨q,0,none⟩):=hJ.un 12 (fun i hi _=>Zar 12 (by decide) i hi)
              exact Zd hJ hW hi hun (hne:=Yo _ (by decide)) (hrun:=by simp [execOp,Act.eval,e12,lq,lP,lF,lc,z1,z2,z3,hkc,go_sem,Jt])
            · have e79:a1.tmps.getD 79 undef = .pointer (some ⟨q,0,none⟩):=rjt hJ hi 1
              have h0:=Cq _ _ 0 _ _ _ BQ'
              exact Zd hJ hW hi hun (hne:=Yo _ (by decide)) (hrun:=by simp [execOp,Act.eval,e79,h0,lq,lP,lF,lc,z1,z2,z3,hkc,go_sem,Jt])
            · have e80:a1.tmps.getD 80 undef = .string nm:=rjt hJ hi 2
              exact Zd hJ hW hi hun (hne:=Yo _ (by decide)) (hrun:=by simp [execOp,Act.eval,e80,lq,lP,lF,lc,z1,z2,z3,hkc,go_sem,Jt])
            · have e4:a1.tmps.getD 4 undef = .pointer (some ⟨bP,0,none⟩):=hJ.un 4 (fun i hi _=>Zar 4 (by decide) i hi)
              have h0:=Cq _ _ 0 _ _ _ BP'
              have h1:=Cq _ _ 1 _ _ _ BP'
              have h2:=Cq _ _ 2 _ _ _ BP'
              exact Zd hJ hW hi hun (hne:=Yo _ (by decide)) (hrun:=by simp [execOp,Act.eval,e4,h0,h1,h2,lq,lP,lF,lc,z1,z2,z3,hkc,go_sem,Jt])
            · have e5:a1.tmps.getD 5 undef = .pointer (some ⟨bF,0,none⟩):=hJ.un 5 (fun i hi _=>Zar 5 (by decide) i hi)
              have h0:=Cq _ _ 0 _ _ _ BF'
              have h1:=Cq _ _ 1 _ _ _ BF'
              have h2:=Cq _ _ 2 _ _ _ BF'
              have h3:=Cq _ _ 3 _ _ _ BF'
              exact Zd hJ hW hi hun (hne:=Yo _ (by decide)) (hrun:=by simp [execOp,Act.eval,e5,h0,h1,h2,h3,lq,lP,lF,lc,z1,z2,z3,hkc,go_sem,Jt])
            · have e12:a1.tmps.getD 12 undef = .pointer (some ⟨q,0,none⟩):=hJ.un 12 (fun i hi _=>Zar 12 (by decide) i hi)
              exact Zd hJ hW hi hun (hne:=Yo _ (by decide)) (hrun:=by simp [execOp,Act.eval,e12,lq,lP,lF,lc,z1,z2,z3,hkc,go_sem,Jt])
            · have e84:a1.tmps.getD 84 undef = .pointer (some ⟨q,1,none⟩):=rjt hJ hi 6
              have h0:=Cq _ _ 1 _ _ _ BQ'
              exact Zd hJ hW hi hun (hne:=Yo _ (by decide)) (hrun:=by simp [execOp,Act.eval,e84,h0,lq,lP,lF,lc,z1,z2,z3,hkc,go_sem,Jt])
            · have e5:a1.tmps.getD 5 undef = .pointer (some ⟨bF,0,none⟩):=hJ.un 5 (fun i hi _=>Zar 5 (by decide) i hi)
              exact Zd hJ hW hi hun (hne:=Yo _ (by decide)) (hrun:=by simp [execOp,Act.eval,e5,lq,lP,lF,lc,z1,z2,z3,hkc,go_sem,Jt])
            · have e86:a1.tmps.getD 86 undef = .pointer (some ⟨bF,3,none⟩):=rjt hJ hi 8
              have h0:=Cq _ _ 3 _ _ _ BF'
              exact Zd hJ hW hi hun (hne:=Yo _ (by decide)) (hrun:=by simp [execOp,Act.eval,e86,h0,lq,lP,lF,lc,z1,z2,z3,hkc,go_sem,Jt])
            · have e11:a1.tmps.getD 11 undef = .int .i64 (k:Int):=hJ.un 11 (fun i hi _=>Zar 11 (by decide) i hi)
              exact Zd hJ hW hi hun (hne:=Yo _ (by decide)) (hrun:=by simp [execOp,Act.eval,e11,lq,lP,lF,lc,z1,z2,z3,hkc,go_sem,Jt])
            · have e87:a1.tmps.getD 87 undef = .slice (some ⟨cb,co,none⟩) code.length cc:=rjt hJ hi 9
              have e88:a1.tmps.getD 88 undef = .int .i64 (k:Int):=rjt hJ hi 10
              exact Zd hJ hW hi hun (hne:=Yo _ (by decide)) (hrun:=by simp [execOp,Act.eval,e87,e88,lq,lP,lF,lc,z1,z2,z3,hkc,go_sem,Jt] <;> (intros;omega))
            · have e89:a1.tmps.getD 89 undef = .pointer (some ⟨cb,co+k*2,none⟩):=rjt hJ hi 11
              exact Zd hJ hW hi hun (hne:=Yo _ (by decide)) (hrun:=by simp [execOp,Act.eval,e89,lq,lP,lF,lc,z1,z2,z3,hkc,go_sem,Jt])
            · have e90:a1.tmps.getD 90 undef = .pointer (some ⟨cb,co+k*2+1,none⟩):=rjt hJ hi 12
              have h0:=Xo (w:=w7.drew) hg hcB x1
              exact Zd hJ hW hi hun (hne:=Yo _ (by decide)) (hrun:=by simp [execOp,Act.eval,e90,h0,lq,lP,lF,lc,z1,z2,z3,hkc,go_sem,Jt])
            · have e82:a1.tmps.getD 82 undef = .agg #[.int .i64 mem,.slice pd nd cd,.slice pF nF cF]:=rjt hJ hi 4
              have e83:a1.tmps.getD 83 undef = .agg #[.int .i64 fa0,.int .i64 fl0,.int .i64 fr0,.slice (some ⟨cb,co,none⟩) code.length cc]:=rjt hJ hi 5
              have e85:a1.tmps.getD 85 undef = .int .i64 o:=rjt hJ hi 7
              have e91:a1.tmps.getD 91 undef = .int .i64 a:=rjt hJ hi 13
              refine Ya rfl (by rfl) (by simp [execOp,resolve,invoke,Act.eval,e82,e83,e85,e91,go_sem]) (Calls.mono (OP.out w' (Zcg hg h8 (Ym S7.out.lib (Ze (Zb w7 none))))) (fun e w2 he => ?_))
              obtain ⟨rfl,hg2⟩:=he
              refine ⟨_,rfl,?_,Zo hW (by decide) hun (by decide) (Zg _ hi (by kernel_rfl)) (Yn hg (Xk hg2 (Nat.le_trans hB7.out hg.below.size))) (fun hne0 hun0 hB0=>Za hB0 hg2) (fun j hj hne hl hcu hF => ?_) (True.intro)⟩
              · exact Yg (val:=Jt B b q bP bF cb co nd cd nF cF code.length cc k mem fa0 fl0 fr0 o a (Zmb nF code.length (op,a)).length pd pF nm (bs (Zgg nF code.length o a)) (L0++Zby nF code k++Zmu code k++Zmb nF code.length (op,a)) ) (Yj hJ (Yaz hW.cl hun)) (by decide) (by decide) (Yo _ (by decide))
              · rcases Zhf j hj with rfl|rfl|rfl|rfl|rfl|rfl|rfl|rfl|rfl|rfl|rfl|rfl|rfl|rfl|rfl|rfl|rfl|rfl <;> first|exact True.intro|exact absurd rfl hne|exact Zk (hW.cl (15,14) (by decide) (hW.cl (16,15) (by decide) (hW.cl (17,16) (by decide) (hl)))) hun
            · have e81:a1.tmps.getD 81 undef = .string (⟨#[9]⟩++nm):=rjt hJ hi 3
              have e92:a1.tmps.getD 92 undef = .string (bs (Zgg nF code.length o a)):=rjt hJ hi 14
              exact Zd hJ hW hi hun (hne:=Yo _ (by decide)) (hrun:=by simp [execOp,Act.eval,e81,e92,lq,lP,lF,lc,z1,z2,z3,hkc,go_sem,Jt])
            · have e93:a1.tmps.getD 93 undef = .string (⟨#[9]⟩++nm++(bs (Zgg nF code.length o a))):=rjt hJ hi 15
              exact Zd hJ hW hi hun (hne:=Yo _ (by decide)) (hrun:=by simp [execOp,Act.eval,e93,lq,lP,lF,lc,z1,z2,z3,hkc,go_sem,Jt])
            · have e78:a1.tmps.getD 78 undef = .pointer (some ⟨b,0,none⟩):=rjt hJ hi 0
              have e94:a1.tmps.getD 94 undef = .string (⟨#[9]⟩++nm++bs (Zgg nF code.length o a)++⟨#[10]⟩):=rjt hJ hi 16
              have own:=hW.u hun
              refine Ya rfl (by rfl) (by simp [execOp,resolve,invoke,Act.eval,e78,e94,go_sem]) (Calls.mono (IW.out w' (Zcw S7.out.bld (Za (Ze (Zb w7 none)) own)) (Nat.le_trans hB7.out hg.below.size)) (fun e w2 he => ?_))
              obtain ⟨rfl,hb2,hf2⟩:=he
              refine ⟨_,rfl,?_,Zo hW (by decide) hun (by decide) (Zg _ hi (by kernel_rfl)) (Yn hg hf2) (fun hne0 hun0 hB0=>absurd rfl hne0) (fun j hj hne hl hcu hF => ?_) (hb2)⟩
              · exact Yg (val:=Jt B b q bP bF cb co nd cd nF cF code.length cc k mem fa0 fl0 fr0 o a (Zmb nF code.length (op,a)).length pd pF nm (bs (Zgg nF code.length o a)) (L0++Zby nF code k++Zmu code k++Zmb nF code.length (op,a)) ) (Yj hJ (Yay hW.cl hun)) (by decide) (by decide) (Yo _ (by decide))
              · rcases Zhf j hj with rfl|rfl|rfl|rfl|rfl|rfl|rfl|rfl|rfl|rfl|rfl|rfl|rfl|rfl|rfl|rfl|rfl|rfl <;> first|exact True.intro|exact hF|exact absurd rfl hne
           case fin =>
            intro l9 a1 w9 hJJ hl9
            obtain ⟨hJ,hW9⟩:=hJJ
            have hg9:=hW9.g (Ju hW9)
            have F17:=hW9.f (Ju hW9) 17 (by decide) (hl9 17 (by decide)) (Zat (by decide))
            have hput:=Ys hJ rfl hl9 (fun i j h1 h2 h3=>Yo j h2 i h1 h3)
            subst hput
            clear hJ hW9 hl9
            (try refine hK16 _ _ ?_)
            simp only [Ja,Yoc,Jt,Act.put,List.setIfInBounds_toArray,List.set_cons_zero,List.set_cons_succ]
            have F7:=Hq (show BFr B b w7 w9 from Yn (Xk (Ze (Zb w7 none)) hB7.out) hg9)
            have NB:=Hq (show Bld B b (L0++Zby nF code (k+1)) w9 by
             have e9:plT nF code k=Zmu code k++Zmb nF code.length (op,a):=by unfold plT;rw [HX.out]
             rw [Zfi,e9,<- List.append_assoc,<- List.append_assoc]
             exact F17)
            clear hg9 F17
            go_wp2
            exact ⟨⟨k+1,by go_num,by omega,Zyi S7.out.box F7.out N1.out.2.2.1 N1.out.2.2.2.1 N1.out.2.2.2.2,NB.out,Yn S7.out.fr F7.out,Zcg F7.out h8 S7.out.lib⟩,by simp [intOf];omega⟩
         · go_wp2
           refine ⟨⟨k+1,by go_num,by omega,S5.out.box,?_,S5.out.fr,S5.out.lib⟩,by simp [intOf];omega⟩
           have e9:plT nF code k=Zmu code k:=by
            unfold plT
            rw [List.getElem?_eq_none (by omega),List.append_nil]
           rw [Zfi,e9,<- List.append_assoc]
           exact S5.out.bld
       | false =>
         have S5:=Hq (show CdT w wr B b bP bF g _ _ code (L0++Zby nF code k++Zmu code k) from ⟨S.out.box,by rw [show Zmu code k=[] from if_neg (by rw [HG.out];decide),List.append_nil];exact S.out.bld,S.out.fr,S.out.lib⟩)
         go_upto_region 14 with fail
         obtain ⟨w5,hw5⟩:∃ w5,w5=wr:=⟨_,rfl⟩
         subst hw5
         have y35:=y3
         have lF5:=lF
         by_cases hlt:k<code.length
         · obtain ⟨⟨op,a⟩,hx⟩:∃ x,code[k]? = some x:=⟨_,List.getElem?_eq_getElem hlt⟩
           obtain ⟨nm,o,t,gv,hs,hm⟩:=Yav (code:=code) (k:=k) k code HE.out hx
           have HA:=Hq (RR.out (op,a) (List.mem_of_getElem? hx))
           obtain ⟨cb,co,rfl,hcb,hcc⟩:=CC.out (by omega)
           have hcB:cb<B:=by omega
           have x0:=Xo S5.out.fr hcB (hcc k op a hx).1
           have x1:=Xo S5.out.fr hcB (hcc k op a hx).2
           have lc:cb<w5.heap.size:=Nat.lt_of_lt_of_le hcB (Nat.le_trans hsz.out S5.out.fr.below.size)
           have OF:=Hq (fun W=>Zxl hs W)
           have HX:=Hq hx
           have XC:=Hq (hcc k op a hx)
           have HS:=Hq hs
           have HM:=Hq hm
           have hnz:nm.size<=10:=Znz _ (Zru hs)
           clear hx hs hm hcc
           go_upto_region 16 with (go_at_call 66;refine (OF.out _).mono ?_;rintro e w6 ⟨rfl,hg6⟩;have G6:=Hq hg6;have hlt6:=hg6.size;clear hg6)
           have hB5:=Nat.le_trans hsz.out S5.out.fr.below.size
           have S7:=Hq (Zvn S5.out (Za G6.out (Ga w6 (.cells #[.string nm,.int .i64 o,.int .i64 t,.int .i64 gv] 144) none)) hB5)
           have BQ:=Hq (heap_alloc_new w6 (.cells #[.string nm,.int .i64 o,.int .i64 t,.int .i64 gv] 144))
           have hB7:=Hq (show B<=(w6.alloc (.cells #[.string nm,.int .i64 o,.int .i64 t,.int .i64 gv] 144)).heap.size by rw [World.size_alloc];omega)
           have HQ:=Hq (show w6.heap.size≠b by have:=(Zvs S5.out.bld).2;omega)
           generalize w6.alloc (.cells #[.string nm,.int .i64 o,.int .i64 t,.int .i64 gv] 144)=w7 at S7 BQ hB7 ⊢
           clear hlt6
           obtain ⟨q,hq⟩:∃ x,w6.heap.size=x:=⟨_,rfl⟩
           rw [hq] at BQ HQ ⊢
           clear hq x0 x1 lc y35 lF5
           have x1:=Xo S7.out.fr hcB XC.out.2
           have hkc:(k:Int)<(code.length:Int):=by omega
           have hop:=Zsi HA.out nF code.length o
           have z1:¬ 9223372036854775807<1+nm.size:=by omega
           have z2:¬ 9223372036854775807<1+nm.size+(bs (Zgg nF code.length o a)).size:=by rw [Zl];omega
           have z3:¬ 9223372036854775807<1+nm.size+(bs (Zgg nF code.length o a)).size+1:=by rw [Zl];omega
           have LL:=Hq (show (L0++Zby nF code k++Zmu code k).length<=200000000 by have h1:=ll.out;have h2:=Zsp code (k:=k) (by omega);simp only [List.length_append];omega)
           have OP:=Hq (fun W (hW:LibW W)=>Znx mem fa0 fl0 fr0 o a pd pF (some ⟨cb,co,none⟩) nd cd nF cF code.length cc W hW HA.out.1 HA.out.2 (Yhh HM.out))
           have IW:=Hq (fun W h hBW=>Zuv B b (L0++Zby nF code k++Zmu code k) nF code.length op a nm o t gv HS.out HA.out W h LL.out hBW)
           (try rename_i K16 hK16)
           refine Yd (n:=18) (J:=fun a0 l a1 w1=>RJ a0 97 18 Yoc (Jt B b q bP bF cb co nd cd nF cF code.length cc k mem fa0 fl0 fr0 o a (Zmb nF code.length (op,a)).length pd pF nm (bs (Zgg nF code.length o a)) (L0++Zby nF code k++Zmu code k++Zmb nF code.length (op,a)) ) l a1/\Zas 18 18 17 [(2,1),(3,2),(7,6),(9,8),(11,9),(11,10),(12,11),(13,12),(14,4),(14,5),(14,7),(14,13),(15,3),(15,14),(16,15),(17,0),(17,16)] [] (fun w9=>BFr B b w7.drew w9) (fun w9=>World.grownBy w7.drew w9 none) (Yvu B b q bP bF cb co nd cd nF cF code.length cc k mem fa0 fl0 fr0 o a (Zmb nF code.length (op,a)).length pd pF nm (bs (Zgg nF code.length o a)) (L0++Zby nF code k++Zmu code k++Zmb nF code.length (op,a)) ) (fun _=>True) l w1) (by kernel_rfl) rfl (Yt (by kernel_rfl)) (fun l a1 w1 h=>by obtain ⟨h,_⟩:=h;exact h.sz) ⟨Yc rfl,Zu (Zhr _ _ _) (Zb _ _)⟩ ?step ?fin
           case step =>
            intro l a1 w' i hJJ hi hin
            obtain ⟨hJ,hW⟩:=hJJ
            have hun:l.getD i false=false:=getD_both (mem_ready.1 hi).1
            have hns:=Xe hW hin hun
            have hg:=hW.g hns
            have BQ':=Zcs (w:=w7.drew) hg BQ.out (by decide) HQ.out
            have BP':=Zcs (w:=w7.drew) hg S7.out.box.bp (by decide) N1.out.2.2.1
            have BF':=Zcs (w:=w7.drew) hg S7.out.box.bf (by decide) N1.out.2.2.2.1
            have lq:=(Array.getElem?_eq_some_iff.1 BQ').1
            have lP:=(Array.getElem?_eq_some_iff.1 BP').1
            have lF:=(Array.getElem?_eq_some_iff.1 BF').1
            have lc:cb<w'.heap.size:=Nat.lt_of_lt_of_le hcB (Nat.le_trans hB7.out hg.below.size)
            rcases Zhf i hin with rfl|rfl|rfl|rfl|rfl|rfl|rfl|rfl|rfl|rfl|rfl|rfl|rfl|rfl|rfl|rfl|rfl|rfl
            · have e0:a1.tmps.getD 0 undef = .pointer (some ⟨b,0,none⟩):=hJ.un 0 (fun i hi _=>Zar 0 (by decide) i hi)
              exact Zd hJ hW hi hun (hne:=Yo _ (by decide)) (hrun:=by simp [execOp,Act.eval,e0,lq,lP,lF,lc,z1,z2,z3,hkc,go_sem,Jt])
            · have e12:a1.tmps.getD 12 undef = .pointer (some ⟨q,0,none⟩):=hJ.un 12 (fun i hi _=>Zar 12 (by decide) i hi)
              exact Zd hJ hW hi hun (hne:=Yo _ (by decide)) (hrun:=by simp [execOp,Act.eval,e12,lq,lP,lF,lc,z1,z2,z3,hkc,go_sem,Jt])
            · have e79:a1.tmps.getD 79 undef = .pointer (some ⟨q,0,none⟩):=rjt hJ hi 1
              have h0:=Cq _ _ 0 _ _ _ BQ'
              exact Zd hJ hW hi hun (hne:=Yo _ (by decide)) (hrun:=by simp [execOp,Act.eval,e79,h0,lq,lP,lF,lc,z1,z2,z3,hkc,go_sem,Jt])
            · have e80:a1.tmps.getD 80 undef = .string nm:=rjt hJ hi 2
              exact Zd hJ hW hi hun (hne:=Yo _ (by decide)) (hrun:=by simp [execOp,Act.eval,e80,lq,lP,lF,lc,z1,z2,z3,hkc,go_sem,Jt])
            · have e4:a1.tmps.getD 4 undef = .pointer (some ⟨bP,0,none⟩):=hJ.un 4 (fun i hi _=>Zar 4 (by decide) i hi)
              have h0:=Cq _ _ 0 _ _ _ BP'
              have h1:=Cq _ _ 1 _ _ _ BP'
              have h2:=Cq _ _ 2 _ _ _ BP'
              exact Zd hJ hW hi hun (hne:=Yo _ (by decide)) (hrun:=by simp [execOp,Act.eval,e4,h0,h1,h2,lq,lP,lF,lc,z1,z2,z3,hkc,go_sem,Jt])
            · have e5:a1.tmps.getD 5 undef = .pointer (some ⟨bF,0,none⟩):=hJ.un 5 (fun i hi _=>Zar 5 (by decide) i hi)
              have h0:=Cq _ _ 0 _ _ _ BF'
              have h1:=Cq _ _ 1 _ _ _ BF'
              have h2:=Cq _ _ 2 _ _ _ BF'
              have h3:=Cq _ _ 3 _ _ _ BF'
              exact Zd hJ hW hi hun (hne:=Yo _ (by decide)) (hrun:=by simp [execOp,Act.eval,e5,h0,h1,h2,h3,lq,lP,lF,lc,z1,z2,z3,hkc,go_sem,Jt])
            · have e12:a1.tmps.getD 12 undef = .pointer (some ⟨q,0,none⟩):=hJ.un 12 (fun i hi _=>Zar 12 (by decide) i hi)
              exact Zd hJ hW hi hun (hne:=Yo _ (by decide)) (hrun:=by simp [execOp,Act.eval,e12,lq,lP,lF,lc,z1,z2,z3,hkc,go_sem,Jt])
            · have e84:a1.tmps.getD 84 undef = .pointer (some ⟨q,1,none⟩):=rjt hJ hi 6
              have h0:=Cq _ _ 1 _ _ _ BQ'
              exact Zd hJ hW hi hun (hne:=Yo _ (by decide)) (hrun:=by simp [execOp,Act.eval,e84,h0,lq,lP,lF,lc,z1,z2,z3,hkc,go_sem,Jt])
            · have e5:a1.tmps.getD 5 undef = .pointer (some ⟨bF,0,none⟩):=hJ.un 5 (fun i hi _=>Zar 5 (by decide) i hi)
              exact Zd hJ hW hi hun (hne:=Yo _ (by decide)) (hrun:=by simp [execOp,Act.eval,e5,lq,lP,lF,lc,z1,z2,z3,hkc,go_sem,Jt])
            · have e86:a1.tmps.getD 86 undef = .pointer (some ⟨bF,3,none⟩):=rjt hJ hi 8
              have h0:=Cq _ _ 3 _ _ _ BF'
              exact Zd hJ hW hi hun (hne:=Yo _ (by decide)) (hrun:=by simp [execOp,Act.eval,e86,h0,lq,lP,lF,lc,z1,z2,z3,hkc,go_sem,Jt])
            · have e11:a1.tmps.getD 11 undef = .int .i64 (k:Int):=hJ.un 11 (fun i hi _=>Zar 11 (by decide) i hi)
              exact Zd hJ hW hi hun (hne:=Yo _ (by decide)) (hrun:=by simp [execOp,Act.eval,e11,lq,lP,lF,lc,z1,z2,z3,hkc,go_sem,Jt])
            · have e87:a1.tmps.getD 87 undef = .slice (some ⟨cb,co,none⟩) code.length cc:=rjt hJ hi 9
              have e88:a1.tmps.getD 88 undef = .int .i64 (k:Int):=rjt hJ hi 10
              exact Zd hJ hW hi hun (hne:=Yo _ (by decide)) (hrun:=by simp [execOp,Act.eval,e87,e88,lq,lP,lF,lc,z1,z2,z3,hkc,go_sem,Jt] <;> (intros;omega))
            · have e89:a1.tmps.getD 89 undef = .pointer (some ⟨cb,co+k*2,none⟩):=rjt hJ hi 11
              exact Zd hJ hW hi hun (hne:=Yo _ (by decide)) (hrun:=by simp [execOp,Act.eval,e89,lq,lP,lF,lc,z1,z2,z3,hkc,go_sem,Jt])
            · have e90:a1.tmps.getD 90 undef = .pointer (some ⟨cb,co+k*2+1,none⟩):=rjt hJ hi 12
              have h0:=Xo (w:=w7.drew) hg hcB x1
              exact Zd hJ hW hi hun (hne:=Yo _ (by decide)) (hrun:=by simp [execOp,Act.eval,e90,h0,lq,lP,lF,lc,z1,z2,z3,hkc,go_sem,Jt])
            · have e82:a1.tmps.getD 82 undef = .agg #[.int .i64 mem,.slice pd nd cd,.slice pF nF cF]:=rjt hJ hi 4
              have e83:a1.tmps.getD 83 undef = .agg #[.int .i64 fa0,.int .i64 fl0,.int .i64 fr0,.slice (some ⟨cb,co,none⟩) code.length cc]:=rjt hJ hi 5
              have e85:a1.tmps.getD 85 undef = .int .i64 o:=rjt hJ hi 7
              have e91:a1.tmps.getD 91 undef = .int .i64 a:=rjt hJ hi 13
              refine Ya rfl (by rfl) (by simp [execOp,resolve,invoke,Act.eval,e82,e83,e85,e91,go_sem]) (Calls.mono (OP.out w' (Zcg hg h8 (Ym S7.out.lib (Ze (Zb w7 none))))) (fun e w2 he => ?_))
              obtain ⟨rfl,hg2⟩:=he
              refine ⟨_,rfl,?_,Zo hW (by decide) hun (by decide) (Zg _ hi (by kernel_rfl)) (Yn hg (Xk hg2 (Nat.le_trans hB7.out hg.below.size))) (fun hne0 hun0 hB0=>Za hB0 hg2) (fun j hj hne hl hcu hF => ?_) (True.intro)⟩
              · exact Yg (val:=Jt B b q bP bF cb co nd cd nF cF code.length cc k mem fa0 fl0 fr0 o a (Zmb nF code.length (op,a)).length pd pF nm (bs (Zgg nF code.length o a)) (L0++Zby nF code k++Zmu code k++Zmb nF code.length (op,a)) ) (Yj hJ (Yaz hW.cl hun)) (by decide) (by decide) (Yo _ (by decide))
              · rcases Zhf j hj with rfl|rfl|rfl|rfl|rfl|rfl|rfl|rfl|rfl|rfl|rfl|rfl|rfl|rfl|rfl|rfl|rfl|rfl <;> first|exact True.intro|exact absurd rfl hne|exact Zk (hW.cl (15,14) (by decide) (hW.cl (16,15) (by decide) (hW.cl (17,16) (by decide) (hl)))) hun
            · have e81:a1.tmps.getD 81 undef = .string (⟨#[9]⟩++nm):=rjt hJ hi 3
              have e92:a1.tmps.getD 92 undef = .string (bs (Zgg nF code.length o a)):=rjt hJ hi 14
              exact Zd hJ hW hi hun (hne:=Yo _ (by decide)) (hrun:=by simp [execOp,Act.eval,e81,e92,lq,lP,lF,lc,z1,z2,z3,hkc,go_sem,Jt])
            · have e93:a1.tmps.getD 93 undef = .string (⟨#[9]⟩++nm++(bs (Zgg nF code.length o a))):=rjt hJ hi 15
              exact Zd hJ hW hi hun (hne:=Yo _ (by decide)) (hrun:=by simp [execOp,Act.eval,e93,lq,lP,lF,lc,z1,z2,z3,hkc,go_sem,Jt])
            · have e78:a1.tmps.getD 78 undef = .pointer (some ⟨b,0,none⟩):=rjt hJ hi 0
              have e94:a1.tmps.getD 94 undef = .string (⟨#[9]⟩++nm++bs (Zgg nF code.length o a)++⟨#[10]⟩):=rjt hJ hi 16
              have own:=hW.u hun
              refine Ya rfl (by rfl) (by simp [execOp,resolve,invoke,Act.eval,e78,e94,go_sem]) (Calls.mono (IW.out w' (Zcw S7.out.bld (Za (Ze (Zb w7 none)) own)) (Nat.le_trans hB7.out hg.below.size)) (fun e w2 he => ?_))
              obtain ⟨rfl,hb2,hf2⟩:=he
              refine ⟨_,rfl,?_,Zo hW (by decide) hun (by decide) (Zg _ hi (by kernel_rfl)) (Yn hg hf2) (fun hne0 hun0 hB0=>absurd rfl hne0) (fun j hj hne hl hcu hF => ?_) (hb2)⟩
              · exact Yg (val:=Jt B b q bP bF cb co nd cd nF cF code.length cc k mem fa0 fl0 fr0 o a (Zmb nF code.length (op,a)).length pd pF nm (bs (Zgg nF code.length o a)) (L0++Zby nF code k++Zmu code k++Zmb nF code.length (op,a)) ) (Yj hJ (Yay hW.cl hun)) (by decide) (by decide) (Yo _ (by decide))
              · rcases Zhf j hj with rfl|rfl|rfl|rfl|rfl|rfl|rfl|rfl|rfl|rfl|rfl|rfl|rfl|rfl|rfl|rfl|rfl|rfl <;> first|exact True.intro|exact hF|exact absurd rfl hne
           case fin =>
            intro l9 a1 w9 hJJ hl9
            obtain ⟨hJ,hW9⟩:=hJJ
            have hg9:=hW9.g (Ju hW9)
            have F17:=hW9.f (Ju hW9) 17 (by decide) (hl9 17 (by decide)) (Zat (by decide))
            have hput:=Ys hJ rfl hl9 (fun i j h1 h2 h3=>Yo j h2 i h1 h3)
            subst hput
            clear hJ hW9 hl9
            (try refine hK16 _ _ ?_)
            simp only [Ja,Yoc,Jt,Act.put,List.setIfInBounds_toArray,List.set_cons_zero,List.set_cons_succ]
            have F7:=Hq (show BFr B b w7 w9 from Yn (Xk (Ze (Zb w7 none)) hB7.out) hg9)
            have NB:=Hq (show Bld B b (L0++Zby nF code (k+1)) w9 by
             have e9:plT nF code k=Zmu code k++Zmb nF code.length (op,a):=by unfold plT;rw [HX.out]
             rw [Zfi,e9,<- List.append_assoc,<- List.append_assoc]
             exact F17)
            clear hg9 F17
            go_wp2
            exact ⟨⟨k+1,by go_num,by omega,Zyi S7.out.box F7.out N1.out.2.2.1 N1.out.2.2.2.1 N1.out.2.2.2.2,NB.out,Yn S7.out.fr F7.out,Zcg F7.out h8 S7.out.lib⟩,by simp [intOf];omega⟩
         · go_wp2
           refine ⟨⟨k+1,by go_num,by omega,S5.out.box,?_,S5.out.fr,S5.out.lib⟩,by simp [intOf];omega⟩
           have e9:plT nF code k=Zmu code k:=by
            unfold plT
            rw [List.getElem?_eq_none (by omega),List.append_nil]
           rw [Zfi,e9,<- List.append_assoc]
           exact S5.out.bld
     · have hkn2:k=code.length+1:=by omega
       subst hkn2
       clear hkn
       go_wp2
       go_end0
       exact ⟨rfl,S.out.bld,S.out.fr⟩
end Go.Proofs.YteciblfmgdlipaaGreatDoor.AS
