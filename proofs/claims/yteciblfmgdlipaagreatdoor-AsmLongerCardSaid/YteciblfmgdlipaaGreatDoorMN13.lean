/-
  Part of a proof: contracts of functions and lemmas, each stated by its own theorem. Conditions: as each theorem states.
-/
import Derived.Test.YteciblfmgdlipaaGreatDoorMN12
import Derived.Test.YteciblfmgdlipaaGreatDoorMN04
set_option linter.unusedSimpArgs false
set_option linter.unusedVariables false
set_option maxRecDepth 100000
set_option maxHeartbeats 16000000
namespace Go.Proofs.YteciblfmgdlipaaGreatDoor.AS
open Go.RowKit Go.Great CK
def Yad:Nat->Nat
 | 0=>78
 | 1=>79
 | 2=>80
 | 3=>81
 | 4=>82
 | 5=>83
 | 6=>84
 | 7=>85
 | 8=>86
 | 9=>87
 | 10=>88
 | 11=>89
 | 12=>90
 | 13=>91
 | 14=>92
 | 15=>93
 | 16=>94
 | 17=>95
 | _=>5000
theorem Zt:∀ i,i<18->∀ j,j<18->j≠i->Yad j≠Yad i:=by decide
theorem Zcw (i:Nat) (h:i<18):i=0\/i=1\/i=2\/i=3\/i=4\/i=5\/i=6\/i=7\/i=8\/i=9\/i=10\/i=11\/i=12\/i=13\/i=14\/i=15\/i=16\/i=17:=by omega
theorem Xt (j:Nat) (hj:j∈[0,4,5,11,12]):∀ i,i<18->Yad i≠j:=by revert j;decide
def Ys (B b q bP bF cb co nd cd nF cF nC cc k:Nat) (mem fa0 fl0 fr0 o a nw:Int) (pd pF:Option Addr) (nm s2:ByteArray) (L9:Txt):Nat->Value
 | 0 => .pointer (some ⟨b,0,none⟩)
 | 1 => .pointer (some ⟨q,0,none⟩)
 | 2 => .string nm
 | 3 => .string (⟨#[9]⟩++nm)
 | 4 => .agg #[.int .i64 mem,.slice pd nd cd,.slice pF nF cF]
 | 5 => .agg #[.int .i64 fa0,.int .i64 fl0,.int .i64 fr0,.slice (some ⟨cb,co,none⟩) nC cc]
 | 6 => .pointer (some ⟨q,1,none⟩)
 | 7 => .int .i64 o
 | 8 => .pointer (some ⟨bF,3,none⟩)
 | 9 => .slice (some ⟨cb,co,none⟩) nC cc
 | 10 => .int .i64 (k:Int)
 | 11 => .pointer (some ⟨cb,co+k*2,none⟩)
 | 12 => .pointer (some ⟨cb,co+k*2+1,none⟩)
 | 13 => .int .i64 a
 | 14 => .string s2
 | 15 => .string (⟨#[9]⟩++nm++s2)
 | 16 => .string (⟨#[9]⟩++nm++s2++⟨#[10]⟩)
 | 17 => .tuple #[.int .i64 nw,.nilIface]
 | _=>undef
def Yfp (B b q bP bF cb co nd cd nF cF nC cc k:Nat) (mem fa0 fl0 fr0 o a nw:Int) (pd pF:Option Addr) (nm s2:ByteArray) (L9:Txt)  : Nat->World->Prop
 | 14=>fun _=>True
 | 17=>fun w9=>Bld B b L9 w9
 | _=>fun _=>True
theorem Zro {B b q bP bF cb co nd cd nF cF nC cc k:Nat} {mem fa0 fl0 fr0 o a nw:Int} {pd pF:Option Addr} {nm s2:ByteArray} {L9:Txt}   {l:Array Bool} (hcl:∀ p∈([(2,1),(3,2),(7,6),(9,8),(11,9),(11,10),(12,11),(13,12),(14,4),(14,5),(14,7),(14,13),(15,3),(15,14),(16,15),(17,0),(17,16)]:List (Nat × Nat)),l.getD (Prod.fst p) false=true->l.getD (Prod.snd p) false=true) (hun:l.getD 14 false=false):∀ i,i<18->l.getD i false=true->Yad i<97->Ys B b q bP bF cb co nd cd nF cF nC cc k mem fa0 fl0 fr0 o a nw pd pF nm s2 L9  i=Ys B b q bP bF cb co nd cd nF cF nC cc k mem fa0 fl0 fr0 o a nw pd pF nm s2 L9  i:=by
 intro i hi hl _
 rcases Zcw i hi with rfl|rfl|rfl|rfl|rfl|rfl|rfl|rfl|rfl|rfl|rfl|rfl|rfl|rfl|rfl|rfl|rfl|rfl
 · rfl
 · rfl
 · rfl
 · rfl
 · rfl
 · rfl
 · rfl
 · rfl
 · rfl
 · rfl
 · rfl
 · rfl
 · rfl
 · rfl
 · rfl
 · rfl
 · rfl
 · rfl
theorem Zrn {B b q bP bF cb co nd cd nF cF nC cc k:Nat} {mem fa0 fl0 fr0 o a nw:Int} {pd pF:Option Addr} {nm s2:ByteArray} {L9:Txt}   {l:Array Bool} (hcl:∀ p∈([(2,1),(3,2),(7,6),(9,8),(11,9),(11,10),(12,11),(13,12),(14,4),(14,5),(14,7),(14,13),(15,3),(15,14),(16,15),(17,0),(17,16)]:List (Nat × Nat)),l.getD (Prod.fst p) false=true->l.getD (Prod.snd p) false=true) (hun:l.getD 17 false=false):∀ i,i<18->l.getD i false=true->Yad i<97->Ys B b q bP bF cb co nd cd nF cF nC cc k mem fa0 fl0 fr0 o a nw pd pF nm s2 L9  i=Ys B b q bP bF cb co nd cd nF cF nC cc k mem fa0 fl0 fr0 o a nw pd pF nm s2 L9  i:=by
 intro i hi hl _
 rcases Zcw i hi with rfl|rfl|rfl|rfl|rfl|rfl|rfl|rfl|rfl|rfl|rfl|rfl|rfl|rfl|rfl|rfl|rfl|rfl
 · rfl
 · rfl
 · rfl
 · rfl
 · rfl
 · rfl
 · rfl
 · rfl
 · rfl
 · rfl
 · rfl
 · rfl
 · rfl
 · rfl
 · rfl
 · rfl
 · rfl
 · rfl
structure CdR (w0 w:World) (bP bF g:Nat) (vP vF:Array Value) (code:List (Int × Int)) (k:Nat):Prop where
 box:CdB w bP bF g vP vF (code.length+1) (Zad (code.take k))
 gr:w0.grownBy w none
structure CdS (w0 w:World) (B b bP bF g nF:Nat) (vP vF:Array Value) (code:List (Int × Int)) (l:Txt) (k:Nat):Prop where
 box:CdB w bP bF g vP vF (code.length+1) (Zad code)
 bld:Bld B b (l++Jl nF code k) w
 fr:BFr B b w0 w
 lib:LibW w
theorem Zox {op:Int} {nm:ByteArray} {o t g:Int} (h:Yu op=some (nm,o,t,g)) (w:World):Calls Tryz.prog 66 #[.int .i64 op] w fun e w'=>e = .returned (.tuple #[.agg #[.string nm,.int .i64 o,.int .i64 t,.int .i64 g],.bool true])/\w.grownBy w' none:=by
 have:=Yay op w
 rw [h] at this
 exact this
structure CdT (w0 w:World) (B b bP bF g:Nat) (vP vF:Array Value) (code:List (Int × Int)) (l:Txt):Prop where
 box:CdB w bP bF g vP vF (code.length+1) (Zad code)
 bld:Bld B b l w
 fr:BFr B b w0 w
 lib:LibW w
theorem Znr {w0 w w':World} {B b bP bF g:Nat} {vP vF:Array Value} {code:List (Int × Int)} {l:Txt} (h:CdT w0 w B b bP bF g vP vF code l) (hg:w.grownBy w' none) (hB:B<=w.heap.size):CdT w0 w' B b bP bF g vP vF code l :=
 ⟨Zaq h.box hg,Zab h.bld hg,Zs h.fr (Yg hg hB),Zq h.lib hg⟩
theorem Zdp (a b:Txt) {x y:ByteArray} (hx:x=bs a) (hy:y=bs b):x++y=bs (a++b):=by subst hx;subst hy;exact Jt a b
theorem Zwb (B b:Nat) (l:Txt) (k:Nat) (w:World) (h:Bld B b l w) (hl:l.length<=200000000) (hk:k<=5000) (hBw:B<=w.heap.size) :
 Calls Tryz.prog 38 #[.pointer (some ⟨b,0,none⟩),.string (⟨#[76]⟩++bs (Lib.itoa k)++⟨#[58,10]⟩)] w fun e w'=>e = .returned (.tuple #[.int .i64 (76::(Lib.itoa k++[58,10])).length,.nilIface])/\Bld B b (l++(76::(Lib.itoa k++[58,10]))) w'/\BFr B b w w':=by
 have hz:=Lib.itoa_length_le k (by omega) (by omega)
 have e:(⟨#[76]⟩++bs (Lib.itoa k)++⟨#[58,10]⟩:ByteArray)=bs (76::(Lib.itoa k++[58,10])):=by
  refine (congrArg (·++_) (Zdp [76] (Lib.itoa k) rfl rfl)).trans ((Zdp _ [58,10] rfl rfl).trans ?_)
  simp
 rw [e]
 exact Zcy B b l (76::(Lib.itoa k++[58,10])) w h (by simp only [List.length_cons,List.length_append,List.length_nil];omega) hBw
theorem Zmy (B b:Nat) (l:Txt) (nF nC:Nat) (op a:Int) (nm:ByteArray) (o t g:Int) (hs:Yu op=some (nm,o,t,g)) (ha:Yeb a) (w:World) (h:Bld B b l w) (hl:l.length<=200000000) (hBw:B<=w.heap.size) :
 Calls Tryz.prog 38 #[.pointer (some ⟨b,0,none⟩),.string (⟨#[9]⟩++nm++bs (Zch nF nC o a)++⟨#[10]⟩)] w fun e w'=>e = .returned (.tuple #[.int .i64 (Zgj nF nC (op,a)).length,.nilIface])/\Bld B b (l++Zgj nF nC (op,a)) w'/\BFr B b w w':=by
 have hz:=Zrb (x:=(op,a)) ha nF nC
 have e:(⟨#[9]⟩++nm++bs (Zch nF nC o a)++⟨#[10]⟩:ByteArray)=bs (Zgj nF nC (op,a)):=by
  refine (congrArg (fun x=>x++_++_) (Zdp [9] nm.data.toList rfl rfl)).trans ((congrArg (·++_) (Zdp _ (Zch nF nC o a) rfl rfl)).trans ((Zdp _ [10] rfl rfl).trans ?_))
  unfold Zgj
  rw [Zqy hs,Zzd hs]
  simp
 rw [e]
 exact Zcy B b l _ w h (by omega) hBw
theorem Zxc (w:World) (vP vF:Array Value) (code:List (Int × Int)):CdR w (((w.alloc (.cells vP 26)).alloc (.cells vF 61)).alloc (.cells (madeCells #[.bool false] (code.length+1)) 4)) w.heap.size (w.heap.size+1) (w.heap.size+1+1) vP vF code 0:=by
 have h1:=heap_alloc_new w (.cells vP 26)
 have h2:=heap_alloc_new (w.alloc (.cells vP 26)) (.cells vF 61)
 have h3:=Zsz ((w.alloc (.cells vP 26)).alloc (.cells vF 61)) (code.length+1)
 rw [World.size_alloc] at h2
 rw [World.size_alloc,World.size_alloc] at h3
 have ga:=Ga (w.alloc (.cells vP 26)) (.cells vF 61) none
 have gb:=Ga ((w.alloc (.cells vP 26)).alloc (.cells vF 61)) (.cells (madeCells #[.bool false] (code.length+1)) 4) none
 exact ⟨⟨Zh h1 (Za ga gb) (by simp),Zh h2 gb (by simp),h3⟩,Za (Ga _ _ none) (Za ga gb)⟩
theorem Zrm (mem fa0 fl0 fr0:Int) (pd pF pc:Option Addr) (nd cd nF cF cc:Nat) (code:List (Int × Int)) (B b D:Nat) (L0:Txt) (w:World) (hW:LibW w) (hb:Bld B b L0 w) (hB:B<=w.heap.size) (h8:8<=B) (hD:D<=B) (hC:Ziy w D pc code) (hok:Zlr code=0) (hr:∀ x∈code,Yeb x.2) (hn:code.length<=4096) (hl:L0.length<=100000000) :
 Calls Tryz.prog 41 #[.pointer (some ⟨b,0,none⟩),.agg #[.int .i64 mem,.slice pd nd cd,.slice pF nF cF],.agg #[.int .i64 fa0,.int .i64 fl0,.int .i64 fr0,.slice pc code.length cc]] w fun e w'=>e = .returned (.tuple #[])/\Bld B b (L0++Jl nF code (code.length+1)) w'/\BFr B b w w':=by
 have hbs:=(Znv hb).2
 have CC:=Hq hC
 have RR:=Hq hr
 have BL:=Hq hb
 have LW:=Hq hW
 have HE:=Hq hok
 have MB:=Hq (fun w=>Zsy code.length (by omega) w)
 clear hC hr hb hW hok
 have mbw:=MB.out
 go_enter Tryz.func41,Tryz.ntmps41
 go_wp2
 have R0:=Hq (Zxc w #[.int .i64 mem,.slice pd nd cd,.slice pF nF cF] #[.int .i64 fa0,.int .i64 fl0,.int .i64 fr0,.slice pc code.length cc] code)
 have BX:=Hq hbs
 have hsz:=Hq hB
 clear mbw MB
 generalize ((w.alloc (.cells #[.int .i64 mem,.slice pd nd cd,.slice pF nF cF] 26)).alloc (.cells #[.int .i64 fa0,.int .i64 fl0,.int .i64 fr0,.slice pc code.length cc] 61)).alloc (.cells (madeCells #[.bool false] (code.length+1)) 4)=w3 at R0 ⊢
 have N1:=Hq (show w.heap.size≠w.heap.size+1+1/\w.heap.size+1≠w.heap.size+1+1/\w.heap.size≠b/\w.heap.size+1≠b/\w.heap.size+1+1≠b by omega)
 clear hbs
 obtain ⟨bP,hbP⟩:∃ x,w.heap.size=x:=⟨_,rfl⟩
 have HBP:=Hq hbP
 rw [hbP] at R0 N1 ⊢
 clear hbP hB
 obtain ⟨bF,hbF⟩:∃ x,bP+1=x:=⟨_,rfl⟩
 rw [hbF] at R0 N1 ⊢
 have HBF:=Hq hbF
 clear hbF
 obtain ⟨g,hg⟩:∃ x,bF+1=x:=⟨_,rfl⟩
 rw [hg] at R0 N1 ⊢
 have HBG:=Hq hg
 clear hg
 go_loopw [22] (fun i wr=>∃ k:Nat,i = .int .i64 k/\k<=code.length/\CdR w wr bP bF g #[.int .i64 mem,.slice pd nd cd,.slice pF nF cF] #[.int .i64 fa0,.int .i64 fl0,.int .i64 fr0,.slice pc code.length cc] code k) (fun i _=>code.length - (intOf i).toNat)
 case atStart=>exact ⟨0,rfl,Nat.zero_le _,R0.out⟩
 case round =>
  obtain ⟨k,rfl,hk,hR⟩:=hrel
  have R:=Hq hR
  have y3:=Cq wr bF 3 _ _ _ hR.box.bf
  have lF:=(Gs hR.box.bf)
  clear hR
  by_cases hlt:k<code.length
  · obtain ⟨⟨op,a⟩,hx⟩:∃ x,code[k]? = some x:=⟨_,List.getElem?_eq_getElem hlt⟩
    obtain ⟨nm,o,t,gv,hs,hm⟩:=Zri (code:=code) (k:=k) k code HE.out hx
    obtain ⟨cb,co,rfl,hcb,hcc⟩:=CC.out (by omega)
    have x0:=R.out.gr.cell (hcc k op a hx).1 (by simp)
    have x1:=R.out.gr.cell (hcc k op a hx).2 (by simp)
    have lc:=Nat.lt_of_lt_of_le (Nat.lt_of_lt_of_le hcb (Nat.le_trans hD hsz.out)) R.out.gr.size
    have OF:=Hq (fun W=>Zox hs W)
    have HX:=Hq hx
    have HO:=Hq (Zqy hs)
    have HM:=Hq hm
    clear hx hs hm hcc
    by_cases ho:o=3
    · have ha0:0<=a:=Zzf (by rw [<- ho];exact HM.out)
      obtain ⟨m,rfl⟩:=Int.eq_ofNat_of_zero_le ha0
      subst ho
      by_cases hfa:(m:Int)<=code.length
      · have NX:=Hq (Zwq HX.out HO.out)
        have hmn:m<code.length+1:=by omega
        clear ha0
        go_wp2_with (go_at_call 66;refine (OF.out _).mono ?_;rintro e w1 ⟨rfl,hg1⟩;have R1:=Hq (Zaq R.out.box (Za (Ga wr _ none) hg1));have G1:=Hq (Za R.out.gr (Za (Ga wr _ none) hg1));have hq:=Zh (heap_alloc_new wr (.cells #[.int .i64 op,.int .i64 (m:Int)] 58)) hg1 (by simp);have d0:=Cq w1 _ 0 _ _ _ hq;have d1:=Cq w1 _ 1 _ _ _ hq;have ld:=(Gs hq);have e3:=Cq w1 bF 3 _ _ _ R1.out.bf;have lF1:=(Gs R1.out.bf);have eg:=R1.out.rw.cell hmn;have zg:=R1.out.rw.frozen m;have lg:=R1.out.rw.lt;clear hg1 hq)
        exact ⟨⟨k+1,by go_num,by omega,Zaq (Ydm R1.out N1.out.1 N1.out.2.1 (fun i _=>NX.out i)) (Ga _ _ none),Za (Ya G1.out (by have:=HBP.out;have:=HBF.out;have:=HBG.out;omega)) (Ga _ _ none)⟩,by simp [intOf];omega⟩
      · have NX:=Hq (Zzt (n:=code.length) HX.out hfa)
        clear ha0
        go_wp2_with (go_at_call 66;refine (OF.out _).mono ?_;rintro e w1 ⟨rfl,hg1⟩;have R1:=Hq (Zaq R.out.box (Za (Ga wr _ none) hg1));have G1:=Hq (Za R.out.gr (Za (Ga wr _ none) hg1));have hq:=Zh (heap_alloc_new wr (.cells #[.int .i64 op,.int .i64 (m:Int)] 58)) hg1 (by simp);have d0:=Cq w1 _ 0 _ _ _ hq;have d1:=Cq w1 _ 1 _ _ _ hq;have ld:=(Gs hq);have e3:=Cq w1 bF 3 _ _ _ R1.out.bf;have lF1:=(Gs R1.out.bf);clear hg1 hq)
        exact ⟨⟨k+1,by go_num,by omega,Zij (Zaq R1.out (Ga _ _ none)) NX.out,Za G1.out (Ga _ _ none)⟩,by simp [intOf];omega⟩
    · have hob:(o == 3)=false:=beq_eq_false_iff_ne.2 ho
      have NX:=Hq (Ydg HX.out HO.out hob)
      clear ho
      go_wp2_with (go_at_call 66;refine (OF.out _).mono ?_;rintro e w1 ⟨rfl,hg1⟩;have R1:=Hq (Zaq R.out.box (Za (Ga wr _ none) hg1));have G1:=Hq (Za R.out.gr (Za (Ga wr _ none) hg1));have hq:=Zh (heap_alloc_new wr (.cells #[.int .i64 op,.int .i64 a] 58)) hg1 (by simp);have d0:=Cq w1 _ 0 _ _ _ hq;have d1:=Cq w1 _ 1 _ _ _ hq;have ld:=(Gs hq);have e3:=Cq w1 bF 3 _ _ _ R1.out.bf;have lF1:=(Gs R1.out.bf);clear hg1 hq)
      exact ⟨⟨k+1,by go_num,by omega,Zij (Zaq R1.out (Ga _ _ none)) (fun i _=>NX.out i),Za G1.out (Ga _ _ none)⟩,by simp [intOf];omega⟩
  · have hkn:k=code.length:=by omega
    subst hkn
    obtain ⟨wo,hwo⟩:∃ wo,wo=wr:=⟨_,rfl⟩
    subst hwo
    have S0:=Hq (show CdS w wo B b bP bF g nF _ _ code L0 0 from ⟨Zij R.out.box (fun i _=>Zzu code i),by have:=Zab BL.out R.out.gr;simpa [Jl] using this,Yg R.out.gr hsz.out,Zq LW.out R.out.gr⟩)
    clear hlt y3 lF
    go_wp2
    go_loopw [50] (fun i wr2=>∃ k:Nat,i = .int .i64 k/\k<=code.length+1/\CdS w wr2 B b bP bF g nF #[.int .i64 mem,.slice pd nd cd,.slice pF nF cF] #[.int .i64 fa0,.int .i64 fl0,.int .i64 fr0,.slice pc code.length cc] code L0 k) (fun i _=>code.length+1 - (intOf i).toNat)
    case atStart=>exact ⟨0,rfl,Nat.zero_le _,S0.out⟩
    case round =>
     obtain ⟨k,rfl,hk,hS⟩:=hrel
     have S:=Hq hS
     have ll:=Hq (Znq RR.out nF k (by omega))
     clear hS
     by_cases hkn:k<code.length+1
     · have y3:=Cq wr bF 3 _ _ _ S.out.box.bf
       have lF:=(Gs S.out.box.bf)
       have eg0:=S.out.box.rw.cell hkn
       have lg:=S.out.box.rw.lt
       obtain ⟨gb,hgb⟩:∃ x,Zad code k=x:=⟨_,rfl⟩
       rw [hgb] at eg0
       have HG:=Hq hgb
       clear hgb
       cases gb with
       | true =>
         have LT:=Hq (show Zgw code k=76::(Lib.itoa k++[58,10]) from if_pos HG.out)
         have IT:=Hq (Jr k (by omega) (by omega) wr S.out.lib)
         have hz:=Lib.itoa_length_le k (by omega) (by omega)
         have hc1:¬ 9223372036854775807<1+(bs (Lib.itoa k)).size:=by rw [Zj];omega
         have hc2:¬ 9223372036854775807<1+(bs (Lib.itoa k)).size+2:=by rw [Zj];omega
         have WB:=Hq (fun W (hbl:Bld B b (L0++Jl nF code k) W) (hBW:B<=W.heap.size)=>Zwb B b (L0++Jl nF code k) k W hbl (by rw [List.length_append];have:=ll.out;omega) (by omega) hBW)
         clear hz
         go_upto_region 14 with (first
          | (go_at_call 39;refine IT.out.mono ?_;rintro e w4 ⟨rfl,hg4⟩;have G4:=Hq hg4;clear hg4)
          | (go_at_call 38;refine (WB.out _ (Zab S.out.bld G4.out) (Nat.le_trans hsz.out (Nat.le_trans S.out.fr.below.size G4.out.size))).mono ?_;rintro e w5 ⟨rfl,hb5,hf5⟩;have F5:=Hq (Zs (Yg G4.out (Nat.le_trans hsz.out S.out.fr.below.size)) hf5);have S5:=Hq (show CdT w w5 B b bP bF g _ _ code (L0++Jl nF code k++Zgw code k) from ⟨Zpp S.out.box F5.out N1.out.2.2.1 N1.out.2.2.2.1 N1.out.2.2.2.2,by rw [LT.out];exact hb5,Zs S.out.fr F5.out,Ju F5.out h8 S.out.lib⟩);have y35:=Cq w5 bF 3 _ _ _ S5.out.box.bf;have lF5:=(Gs S5.out.box.bf);clear hb5 hf5 IT WB))
         by_cases hlt:k<code.length
         · obtain ⟨⟨op,a⟩,hx⟩:∃ x,code[k]? = some x:=⟨_,List.getElem?_eq_getElem hlt⟩
           obtain ⟨nm,o,t,gv,hs,hm⟩:=Zri (code:=code) (k:=k) k code HE.out hx
           have HA:=Hq (RR.out (op,a) (List.mem_of_getElem? hx))
           obtain ⟨cb,co,rfl,hcb,hcc⟩:=CC.out (by omega)
           have hcB:cb<B:=by omega
           have x0:=Ym S5.out.fr hcB (hcc k op a hx).1
           have x1:=Ym S5.out.fr hcB (hcc k op a hx).2
           have lc:cb<w5.heap.size:=Nat.lt_of_lt_of_le hcB (Nat.le_trans hsz.out S5.out.fr.below.size)
           have OF:=Hq (fun W=>Zox hs W)
           have HX:=Hq hx
           have XC:=Hq (hcc k op a hx)
           have HS:=Hq hs
           have HM:=Hq hm
           have hnz:nm.size<=10:=Zht _ (Zkp hs)
           clear hx hs hm hcc
           go_upto_region 16 with (go_at_call 66;refine (OF.out _).mono ?_;rintro e w6 ⟨rfl,hg6⟩;have G6:=Hq hg6;have hlt6:=hg6.size;clear hg6)
           have hB5:=Nat.le_trans hsz.out S5.out.fr.below.size
           have S7:=Hq (Znr S5.out (Za G6.out (Ga w6 (.cells #[.string nm,.int .i64 o,.int .i64 t,.int .i64 gv] 144) none)) hB5)
           have BQ:=Hq (heap_alloc_new w6 (.cells #[.string nm,.int .i64 o,.int .i64 t,.int .i64 gv] 144))
           have hB7:=Hq (show B<=(w6.alloc (.cells #[.string nm,.int .i64 o,.int .i64 t,.int .i64 gv] 144)).heap.size by rw [World.size_alloc];omega)
           have HQ:=Hq (show w6.heap.size≠b by have:=(Znv S5.out.bld).2;omega)
           generalize w6.alloc (.cells #[.string nm,.int .i64 o,.int .i64 t,.int .i64 gv] 144)=w7 at S7 BQ hB7 ⊢
           clear hlt6
           obtain ⟨q,hq⟩:∃ x,w6.heap.size=x:=⟨_,rfl⟩
           rw [hq] at BQ HQ ⊢
           clear hq x0 x1 lc y35 lF5
           have x1:=Ym S7.out.fr hcB XC.out.2
           have hkc:(k:Int)<(code.length:Int):=by omega
           have hop:=Zla HA.out nF code.length o
           have z1:¬ 9223372036854775807<1+nm.size:=by omega
           have z2:¬ 9223372036854775807<1+nm.size+(bs (Zch nF code.length o a)).size:=by rw [Zj];omega
           have z3:¬ 9223372036854775807<1+nm.size+(bs (Zch nF code.length o a)).size+1:=by rw [Zj];omega
           have LL:=Hq (show (L0++Jl nF code k++Zgw code k).length<=200000000 by have h1:=ll.out;have h2:=Zlh code (k:=k) (by omega);simp only [List.length_append];omega)
           have OP:=Hq (fun W (hW:LibW W)=>Zhr mem fa0 fl0 fr0 o a pd pF (some ⟨cb,co,none⟩) nd cd nF cF code.length cc W hW HA.out.1 HA.out.2 (Zvu HM.out))
           have IW:=Hq (fun W h hBW=>Zmy B b (L0++Jl nF code k++Zgw code k) nF code.length op a nm o t gv HS.out HA.out W h LL.out hBW)
           (try rename_i K16 hK16)
           refine Yw (n:=18) (J:=fun a0 l a1 w1=>RJ a0 97 18 Yad (Ys B b q bP bF cb co nd cd nF cF code.length cc k mem fa0 fl0 fr0 o a (Zgj nF code.length (op,a)).length pd pF nm (bs (Zch nF code.length o a)) (L0++Jl nF code k++Zgw code k++Zgj nF code.length (op,a)) ) l a1/\Zbj 18 18 17 [(2,1),(3,2),(7,6),(9,8),(11,9),(11,10),(12,11),(13,12),(14,4),(14,5),(14,7),(14,13),(15,3),(15,14),(16,15),(17,0),(17,16)] [] (fun w9=>BFr B b w7.drew w9) (fun w9=>World.grownBy w7.drew w9 none) (Yfp B b q bP bF cb co nd cd nF cF code.length cc k mem fa0 fl0 fr0 o a (Zgj nF code.length (op,a)).length pd pF nm (bs (Zch nF code.length o a)) (L0++Jl nF code k++Zgw code k++Zgj nF code.length (op,a)) ) (fun _=>True) l w1) (by kernel_rfl) rfl (Xm (by kernel_rfl)) (fun l a1 w1 h=>by obtain ⟨h,_⟩:=h;exact h.sz) ⟨Yv rfl,Yb (Zde _ _ _) (Zd _ _)⟩ ?step ?fin
           case step =>
            intro l a1 w' i hJJ hi hin
            obtain ⟨hJ,hW⟩:=hJJ
            have hun:l.getD i false=false:=getD_both (mem_ready.1 hi).1
            have hns:=Jb hW hin hun
            have hg:=hW.g hns
            have BQ':=Jy (w:=w7.drew) hg BQ.out (by decide) HQ.out
            have BP':=Jy (w:=w7.drew) hg S7.out.box.bp (by decide) N1.out.2.2.1
            have BF':=Jy (w:=w7.drew) hg S7.out.box.bf (by decide) N1.out.2.2.2.1
            have lq:=(Array.getElem?_eq_some_iff.1 BQ').1
            have lP:=(Array.getElem?_eq_some_iff.1 BP').1
            have lF:=(Array.getElem?_eq_some_iff.1 BF').1
            have lc:cb<w'.heap.size:=Nat.lt_of_lt_of_le hcB (Nat.le_trans hB7.out hg.below.size)
            rcases Zcw i hin with rfl|rfl|rfl|rfl|rfl|rfl|rfl|rfl|rfl|rfl|rfl|rfl|rfl|rfl|rfl|rfl|rfl|rfl
            · have e0:a1.tmps.getD 0 undef = .pointer (some ⟨b,0,none⟩):=hJ.un 0 (fun i hi _=>Xt 0 (by decide) i hi)
              exact Zc hJ hW hi hun rfl (by rfl) rfl (by decide) (by decide) (Zt _ (by decide)) (w':=w') (by simp [execOp,resolve,invoke,builtin,Act.eval,e0,lq,lP,lF,lc,z1,z2,z3,hkc,go_sem,Ys]) (⟨by decide,by kernel_rfl,True.intro⟩)
            · have e12:a1.tmps.getD 12 undef = .pointer (some ⟨q,0,none⟩):=hJ.un 12 (fun i hi _=>Xt 12 (by decide) i hi)
              exact Zc hJ hW hi hun rfl (by rfl) rfl (by decide) (by decide) (Zt _ (by decide)) (w':=w') (by simp [execOp,resolve,invoke,builtin,Act.eval,e12,lq,lP,lF,lc,z1,z2,z3,hkc,go_sem,Ys]) (⟨by decide,by kernel_rfl,True.intro⟩)
            · have e79:a1.tmps.getD 79 undef = .pointer (some ⟨q,0,none⟩):=(Ze hJ hi 1 (by kernel_rfl))
              have h0:=Cq _ _ 0 _ _ _ BQ'
              exact Zc hJ hW hi hun rfl (by rfl) rfl (by decide) (by decide) (Zt _ (by decide)) (w':=w') (by simp [execOp,resolve,invoke,builtin,Act.eval,e79,h0,lq,lP,lF,lc,z1,z2,z3,hkc,go_sem,Ys]) (⟨by decide,by kernel_rfl,True.intro⟩)
            · have e80:a1.tmps.getD 80 undef = .string nm:=(Ze hJ hi 2 (by kernel_rfl))
              exact Zc hJ hW hi hun rfl (by rfl) rfl (by decide) (by decide) (Zt _ (by decide)) (w':=w') (by simp [execOp,resolve,invoke,builtin,Act.eval,e80,lq,lP,lF,lc,z1,z2,z3,hkc,go_sem,Ys]) (⟨by decide,by kernel_rfl,True.intro⟩)
            · have e4:a1.tmps.getD 4 undef = .pointer (some ⟨bP,0,none⟩):=hJ.un 4 (fun i hi _=>Xt 4 (by decide) i hi)
              have h0:=Cq _ _ 0 _ _ _ BP'
              have h1:=Cq _ _ 1 _ _ _ BP'
              have h2:=Cq _ _ 2 _ _ _ BP'
              exact Zc hJ hW hi hun rfl (by rfl) rfl (by decide) (by decide) (Zt _ (by decide)) (w':=w') (by simp [execOp,resolve,invoke,builtin,Act.eval,e4,h0,h1,h2,lq,lP,lF,lc,z1,z2,z3,hkc,go_sem,Ys]) (⟨by decide,by kernel_rfl,True.intro⟩)
            · have e5:a1.tmps.getD 5 undef = .pointer (some ⟨bF,0,none⟩):=hJ.un 5 (fun i hi _=>Xt 5 (by decide) i hi)
              have h0:=Cq _ _ 0 _ _ _ BF'
              have h1:=Cq _ _ 1 _ _ _ BF'
              have h2:=Cq _ _ 2 _ _ _ BF'
              have h3:=Cq _ _ 3 _ _ _ BF'
              exact Zc hJ hW hi hun rfl (by rfl) rfl (by decide) (by decide) (Zt _ (by decide)) (w':=w') (by simp [execOp,resolve,invoke,builtin,Act.eval,e5,h0,h1,h2,h3,lq,lP,lF,lc,z1,z2,z3,hkc,go_sem,Ys]) (⟨by decide,by kernel_rfl,True.intro⟩)
            · have e12:a1.tmps.getD 12 undef = .pointer (some ⟨q,0,none⟩):=hJ.un 12 (fun i hi _=>Xt 12 (by decide) i hi)
              exact Zc hJ hW hi hun rfl (by rfl) rfl (by decide) (by decide) (Zt _ (by decide)) (w':=w') (by simp [execOp,resolve,invoke,builtin,Act.eval,e12,lq,lP,lF,lc,z1,z2,z3,hkc,go_sem,Ys]) (⟨by decide,by kernel_rfl,True.intro⟩)
            · have e84:a1.tmps.getD 84 undef = .pointer (some ⟨q,1,none⟩):=(Ze hJ hi 6 (by kernel_rfl))
              have h0:=Cq _ _ 1 _ _ _ BQ'
              exact Zc hJ hW hi hun rfl (by rfl) rfl (by decide) (by decide) (Zt _ (by decide)) (w':=w') (by simp [execOp,resolve,invoke,builtin,Act.eval,e84,h0,lq,lP,lF,lc,z1,z2,z3,hkc,go_sem,Ys]) (⟨by decide,by kernel_rfl,True.intro⟩)
            · have e5:a1.tmps.getD 5 undef = .pointer (some ⟨bF,0,none⟩):=hJ.un 5 (fun i hi _=>Xt 5 (by decide) i hi)
              exact Zc hJ hW hi hun rfl (by rfl) rfl (by decide) (by decide) (Zt _ (by decide)) (w':=w') (by simp [execOp,resolve,invoke,builtin,Act.eval,e5,lq,lP,lF,lc,z1,z2,z3,hkc,go_sem,Ys]) (⟨by decide,by kernel_rfl,True.intro⟩)
            · have e86:a1.tmps.getD 86 undef = .pointer (some ⟨bF,3,none⟩):=(Ze hJ hi 8 (by kernel_rfl))
              have h0:=Cq _ _ 3 _ _ _ BF'
              exact Zc hJ hW hi hun rfl (by rfl) rfl (by decide) (by decide) (Zt _ (by decide)) (w':=w') (by simp [execOp,resolve,invoke,builtin,Act.eval,e86,h0,lq,lP,lF,lc,z1,z2,z3,hkc,go_sem,Ys]) (⟨by decide,by kernel_rfl,True.intro⟩)
            · have e11:a1.tmps.getD 11 undef = .int .i64 (k:Int):=hJ.un 11 (fun i hi _=>Xt 11 (by decide) i hi)
              exact Zc hJ hW hi hun rfl (by rfl) rfl (by decide) (by decide) (Zt _ (by decide)) (w':=w') (by simp [execOp,resolve,invoke,builtin,Act.eval,e11,lq,lP,lF,lc,z1,z2,z3,hkc,go_sem,Ys]) (⟨by decide,by kernel_rfl,True.intro⟩)
            · have e87:a1.tmps.getD 87 undef = .slice (some ⟨cb,co,none⟩) code.length cc:=(Ze hJ hi 9 (by kernel_rfl))
              have e88:a1.tmps.getD 88 undef = .int .i64 (k:Int):=(Ze hJ hi 10 (by kernel_rfl))
              exact Zc hJ hW hi hun rfl (by rfl) rfl (by decide) (by decide) (Zt _ (by decide)) (w':=w') (by first|(simp [execOp,resolve,invoke,builtin,Act.eval,e87,e88,lq,lP,lF,lc,z1,z2,z3,hkc,go_sem,Ys];done)|(simp [execOp,resolve,invoke,builtin,Act.eval,e87,e88,lq,lP,lF,lc,z1,z2,z3,hkc,go_sem,Ys];omega)|(simp [execOp,resolve,invoke,builtin,Act.eval,e87,e88,lq,lP,lF,lc,z1,z2,z3,hkc,go_sem,Ys];intro h;omega)|(simp [execOp,resolve,invoke,builtin,Act.eval,e87,e88,lq,lP,lF,lc,z1,z2,z3,hkc,go_sem,Ys];intros;omega)) (⟨by decide,by kernel_rfl,True.intro⟩)
            · have e89:a1.tmps.getD 89 undef = .pointer (some ⟨cb,co+k*2,none⟩):=(Ze hJ hi 11 (by kernel_rfl))
              exact Zc hJ hW hi hun rfl (by rfl) rfl (by decide) (by decide) (Zt _ (by decide)) (w':=w') (by simp [execOp,resolve,invoke,builtin,Act.eval,e89,lq,lP,lF,lc,z1,z2,z3,hkc,go_sem,Ys]) (⟨by decide,by kernel_rfl,True.intro⟩)
            · have e90:a1.tmps.getD 90 undef = .pointer (some ⟨cb,co+k*2+1,none⟩):=(Ze hJ hi 12 (by kernel_rfl))
              have h0:=Ym (w:=w7.drew) hg hcB x1
              exact Zc hJ hW hi hun rfl (by rfl) rfl (by decide) (by decide) (Zt _ (by decide)) (w':=w') (by simp [execOp,resolve,invoke,builtin,Act.eval,e90,h0,lq,lP,lF,lc,z1,z2,z3,hkc,go_sem,Ys]) (⟨by decide,by kernel_rfl,True.intro⟩)
            · have e82:a1.tmps.getD 82 undef = .agg #[.int .i64 mem,.slice pd nd cd,.slice pF nF cF]:=(Ze hJ hi 4 (by kernel_rfl))
              have e83:a1.tmps.getD 83 undef = .agg #[.int .i64 fa0,.int .i64 fl0,.int .i64 fr0,.slice (some ⟨cb,co,none⟩) code.length cc]:=(Ze hJ hi 5 (by kernel_rfl))
              have e85:a1.tmps.getD 85 undef = .int .i64 o:=(Ze hJ hi 7 (by kernel_rfl))
              have e91:a1.tmps.getD 91 undef = .int .i64 a:=(Ze hJ hi 13 (by kernel_rfl))
              refine Zx rfl (by rfl) (by simp [execOp,resolve,invoke,Act.eval,e82,e83,e85,e91,go_sem]) (Calls.mono (OP.out w' (Ju hg h8 (Zq S7.out.lib (Zf (Zd w7 none))))) (fun e w2 he => ?_))
              obtain ⟨rfl,hg2⟩:=he
              refine ⟨_,rfl,?_,Zu hW (by decide) hun (by decide) (Zi _ hi (by kernel_rfl)) (Zs hg (Yg hg2 (Nat.le_trans hB7.out hg.below.size))) (fun hne0 hun0 hB0=>Za hB0 hg2) (fun j hj hne hl hcu hF => ?_) (True.intro)⟩
              · exact Xd (val:=Ys B b q bP bF cb co nd cd nF cF code.length cc k mem fa0 fl0 fr0 o a (Zgj nF code.length (op,a)).length pd pF nm (bs (Zch nF code.length o a)) (L0++Jl nF code k++Zgw code k++Zgj nF code.length (op,a)) ) (Xf hJ (Zro hW.cl hun)) (by decide) (by decide) (Zt _ (by decide))
              · rcases Zcw j hj with rfl|rfl|rfl|rfl|rfl|rfl|rfl|rfl|rfl|rfl|rfl|rfl|rfl|rfl|rfl|rfl|rfl|rfl
                · exact True.intro
                · exact True.intro
                · exact True.intro
                · exact True.intro
                · exact True.intro
                · exact True.intro
                · exact True.intro
                · exact True.intro
                · exact True.intro
                · exact True.intro
                · exact True.intro
                · exact True.intro
                · exact True.intro
                · exact True.intro
                · exact absurd rfl hne
                · exact True.intro
                · exact True.intro
                · exact Zm (hW.cl (15,14) (by decide) (hW.cl (16,15) (by decide) (hW.cl (17,16) (by decide) (hl)))) hun
            · have e81:a1.tmps.getD 81 undef = .string (⟨#[9]⟩++nm):=(Ze hJ hi 3 (by kernel_rfl))
              have e92:a1.tmps.getD 92 undef = .string (bs (Zch nF code.length o a)):=(Ze hJ hi 14 (by kernel_rfl))
              exact Zc hJ hW hi hun rfl (by rfl) rfl (by decide) (by decide) (Zt _ (by decide)) (w':=w') (by simp [execOp,resolve,invoke,builtin,Act.eval,e81,e92,lq,lP,lF,lc,z1,z2,z3,hkc,go_sem,Ys]) (⟨by decide,by kernel_rfl,True.intro⟩)
            · have e93:a1.tmps.getD 93 undef = .string (⟨#[9]⟩++nm++(bs (Zch nF code.length o a))):=(Ze hJ hi 15 (by kernel_rfl))
              exact Zc hJ hW hi hun rfl (by rfl) rfl (by decide) (by decide) (Zt _ (by decide)) (w':=w') (by simp [execOp,resolve,invoke,builtin,Act.eval,e93,lq,lP,lF,lc,z1,z2,z3,hkc,go_sem,Ys]) (⟨by decide,by kernel_rfl,True.intro⟩)
            · have e78:a1.tmps.getD 78 undef = .pointer (some ⟨b,0,none⟩):=(Ze hJ hi 0 (by kernel_rfl))
              have e94:a1.tmps.getD 94 undef = .string (⟨#[9]⟩++nm++bs (Zch nF code.length o a)++⟨#[10]⟩):=(Ze hJ hi 16 (by kernel_rfl))
              have own:=hW.u hun
              refine Zx rfl (by rfl) (by simp [execOp,resolve,invoke,Act.eval,e78,e94,go_sem]) (Calls.mono (IW.out w' (Zab S7.out.bld (Za (Zf (Zd w7 none)) own)) (Nat.le_trans hB7.out hg.below.size)) (fun e w2 he => ?_))
              obtain ⟨rfl,hb2,hf2⟩:=he
              refine ⟨_,rfl,?_,Zu hW (by decide) hun (by decide) (Zi _ hi (by kernel_rfl)) (Zs hg hf2) (fun hne0 hun0 hB0=>absurd rfl hne0) (fun j hj hne hl hcu hF => ?_) (hb2)⟩
              · exact Xd (val:=Ys B b q bP bF cb co nd cd nF cF code.length cc k mem fa0 fl0 fr0 o a (Zgj nF code.length (op,a)).length pd pF nm (bs (Zch nF code.length o a)) (L0++Jl nF code k++Zgw code k++Zgj nF code.length (op,a)) ) (Xf hJ (Zrn hW.cl hun)) (by decide) (by decide) (Zt _ (by decide))
              · rcases Zcw j hj with rfl|rfl|rfl|rfl|rfl|rfl|rfl|rfl|rfl|rfl|rfl|rfl|rfl|rfl|rfl|rfl|rfl|rfl
                · exact True.intro
                · exact True.intro
                · exact True.intro
                · exact True.intro
                · exact True.intro
                · exact True.intro
                · exact True.intro
                · exact True.intro
                · exact True.intro
                · exact True.intro
                · exact True.intro
                · exact True.intro
                · exact True.intro
                · exact True.intro
                · exact hF
                · exact True.intro
                · exact True.intro
                · exact absurd rfl hne
           case fin =>
            intro l9 a1 w9 hJJ hl9
            obtain ⟨hJ,hW9⟩:=hJJ
            have hg9:=hW9.g (Jx hW9)
            have F17:=hW9.f (Jx hW9) 17 (by decide) (hl9 17 (by decide)) (Zcc (by decide))
            have hput:=Xk hJ rfl hl9 (fun i j h1 h2 h3=>Zt j h2 i h1 h3)
            subst hput
            clear hJ hW9 hl9
            (try refine hK16 _ _ ?_)
            simp only [Je,Yad,Ys,Act.put,List.setIfInBounds_toArray,List.set_cons_zero,List.set_cons_succ]
            have F7:=Hq (show BFr B b w7 w9 from Zs (Yg (Zf (Zd w7 none)) hB7.out) hg9)
            have NB:=Hq (show Bld B b (L0++Jl nF code (k+1)) w9 by
             have e9:plT nF code k=Zgw code k++Zgj nF code.length (op,a):=by unfold plT;rw [HX.out]
             rw [Zbq,e9,<- List.append_assoc,<- List.append_assoc]
             exact F17)
            clear hg9 F17
            go_wp2
            exact ⟨⟨k+1,by go_num,by omega,Zpp S7.out.box F7.out N1.out.2.2.1 N1.out.2.2.2.1 N1.out.2.2.2.2,NB.out,Zs S7.out.fr F7.out,Ju F7.out h8 S7.out.lib⟩,by simp [intOf];omega⟩
         · go_wp2
           refine ⟨⟨k+1,by go_num,by omega,S5.out.box,?_,S5.out.fr,S5.out.lib⟩,by simp [intOf];omega⟩
           have e9:plT nF code k=Zgw code k:=by
            unfold plT
            rw [List.getElem?_eq_none (by omega),List.append_nil]
           rw [Zbq,e9,<- List.append_assoc]
           exact S5.out.bld
       | false =>
         have S5:=Hq (show CdT w wr B b bP bF g _ _ code (L0++Jl nF code k++Zgw code k) from ⟨S.out.box,by rw [show Zgw code k=[] from if_neg (by rw [HG.out];decide),List.append_nil];exact S.out.bld,S.out.fr,S.out.lib⟩)
         go_upto_region 14 with fail
         obtain ⟨w5,hw5⟩:∃ w5,w5=wr:=⟨_,rfl⟩
         subst hw5
         have y35:=y3
         have lF5:=lF
         by_cases hlt:k<code.length
         · obtain ⟨⟨op,a⟩,hx⟩:∃ x,code[k]? = some x:=⟨_,List.getElem?_eq_getElem hlt⟩
           obtain ⟨nm,o,t,gv,hs,hm⟩:=Zri (code:=code) (k:=k) k code HE.out hx
           have HA:=Hq (RR.out (op,a) (List.mem_of_getElem? hx))
           obtain ⟨cb,co,rfl,hcb,hcc⟩:=CC.out (by omega)
           have hcB:cb<B:=by omega
           have x0:=Ym S5.out.fr hcB (hcc k op a hx).1
           have x1:=Ym S5.out.fr hcB (hcc k op a hx).2
           have lc:cb<w5.heap.size:=Nat.lt_of_lt_of_le hcB (Nat.le_trans hsz.out S5.out.fr.below.size)
           have OF:=Hq (fun W=>Zox hs W)
           have HX:=Hq hx
           have XC:=Hq (hcc k op a hx)
           have HS:=Hq hs
           have HM:=Hq hm
           have hnz:nm.size<=10:=Zht _ (Zkp hs)
           clear hx hs hm hcc
           go_upto_region 16 with (go_at_call 66;refine (OF.out _).mono ?_;rintro e w6 ⟨rfl,hg6⟩;have G6:=Hq hg6;have hlt6:=hg6.size;clear hg6)
           have hB5:=Nat.le_trans hsz.out S5.out.fr.below.size
           have S7:=Hq (Znr S5.out (Za G6.out (Ga w6 (.cells #[.string nm,.int .i64 o,.int .i64 t,.int .i64 gv] 144) none)) hB5)
           have BQ:=Hq (heap_alloc_new w6 (.cells #[.string nm,.int .i64 o,.int .i64 t,.int .i64 gv] 144))
           have hB7:=Hq (show B<=(w6.alloc (.cells #[.string nm,.int .i64 o,.int .i64 t,.int .i64 gv] 144)).heap.size by rw [World.size_alloc];omega)
           have HQ:=Hq (show w6.heap.size≠b by have:=(Znv S5.out.bld).2;omega)
           generalize w6.alloc (.cells #[.string nm,.int .i64 o,.int .i64 t,.int .i64 gv] 144)=w7 at S7 BQ hB7 ⊢
           clear hlt6
           obtain ⟨q,hq⟩:∃ x,w6.heap.size=x:=⟨_,rfl⟩
           rw [hq] at BQ HQ ⊢
           clear hq x0 x1 lc y35 lF5
           have x1:=Ym S7.out.fr hcB XC.out.2
           have hkc:(k:Int)<(code.length:Int):=by omega
           have hop:=Zla HA.out nF code.length o
           have z1:¬ 9223372036854775807<1+nm.size:=by omega
           have z2:¬ 9223372036854775807<1+nm.size+(bs (Zch nF code.length o a)).size:=by rw [Zj];omega
           have z3:¬ 9223372036854775807<1+nm.size+(bs (Zch nF code.length o a)).size+1:=by rw [Zj];omega
           have LL:=Hq (show (L0++Jl nF code k++Zgw code k).length<=200000000 by have h1:=ll.out;have h2:=Zlh code (k:=k) (by omega);simp only [List.length_append];omega)
           have OP:=Hq (fun W (hW:LibW W)=>Zhr mem fa0 fl0 fr0 o a pd pF (some ⟨cb,co,none⟩) nd cd nF cF code.length cc W hW HA.out.1 HA.out.2 (Zvu HM.out))
           have IW:=Hq (fun W h hBW=>Zmy B b (L0++Jl nF code k++Zgw code k) nF code.length op a nm o t gv HS.out HA.out W h LL.out hBW)
           (try rename_i K16 hK16)
           refine Yw (n:=18) (J:=fun a0 l a1 w1=>RJ a0 97 18 Yad (Ys B b q bP bF cb co nd cd nF cF code.length cc k mem fa0 fl0 fr0 o a (Zgj nF code.length (op,a)).length pd pF nm (bs (Zch nF code.length o a)) (L0++Jl nF code k++Zgw code k++Zgj nF code.length (op,a)) ) l a1/\Zbj 18 18 17 [(2,1),(3,2),(7,6),(9,8),(11,9),(11,10),(12,11),(13,12),(14,4),(14,5),(14,7),(14,13),(15,3),(15,14),(16,15),(17,0),(17,16)] [] (fun w9=>BFr B b w7.drew w9) (fun w9=>World.grownBy w7.drew w9 none) (Yfp B b q bP bF cb co nd cd nF cF code.length cc k mem fa0 fl0 fr0 o a (Zgj nF code.length (op,a)).length pd pF nm (bs (Zch nF code.length o a)) (L0++Jl nF code k++Zgw code k++Zgj nF code.length (op,a)) ) (fun _=>True) l w1) (by kernel_rfl) rfl (Xm (by kernel_rfl)) (fun l a1 w1 h=>by obtain ⟨h,_⟩:=h;exact h.sz) ⟨Yv rfl,Yb (Zde _ _ _) (Zd _ _)⟩ ?step ?fin
           case step =>
            intro l a1 w' i hJJ hi hin
            obtain ⟨hJ,hW⟩:=hJJ
            have hun:l.getD i false=false:=getD_both (mem_ready.1 hi).1
            have hns:=Jb hW hin hun
            have hg:=hW.g hns
            have BQ':=Jy (w:=w7.drew) hg BQ.out (by decide) HQ.out
            have BP':=Jy (w:=w7.drew) hg S7.out.box.bp (by decide) N1.out.2.2.1
            have BF':=Jy (w:=w7.drew) hg S7.out.box.bf (by decide) N1.out.2.2.2.1
            have lq:=(Array.getElem?_eq_some_iff.1 BQ').1
            have lP:=(Array.getElem?_eq_some_iff.1 BP').1
            have lF:=(Array.getElem?_eq_some_iff.1 BF').1
            have lc:cb<w'.heap.size:=Nat.lt_of_lt_of_le hcB (Nat.le_trans hB7.out hg.below.size)
            rcases Zcw i hin with rfl|rfl|rfl|rfl|rfl|rfl|rfl|rfl|rfl|rfl|rfl|rfl|rfl|rfl|rfl|rfl|rfl|rfl
            · have e0:a1.tmps.getD 0 undef = .pointer (some ⟨b,0,none⟩):=hJ.un 0 (fun i hi _=>Xt 0 (by decide) i hi)
              exact Zc hJ hW hi hun rfl (by rfl) rfl (by decide) (by decide) (Zt _ (by decide)) (w':=w') (by simp [execOp,resolve,invoke,builtin,Act.eval,e0,lq,lP,lF,lc,z1,z2,z3,hkc,go_sem,Ys]) (⟨by decide,by kernel_rfl,True.intro⟩)
            · have e12:a1.tmps.getD 12 undef = .pointer (some ⟨q,0,none⟩):=hJ.un 12 (fun i hi _=>Xt 12 (by decide) i hi)
              exact Zc hJ hW hi hun rfl (by rfl) rfl (by decide) (by decide) (Zt _ (by decide)) (w':=w') (by simp [execOp,resolve,invoke,builtin,Act.eval,e12,lq,lP,lF,lc,z1,z2,z3,hkc,go_sem,Ys]) (⟨by decide,by kernel_rfl,True.intro⟩)
            · have e79:a1.tmps.getD 79 undef = .pointer (some ⟨q,0,none⟩):=(Ze hJ hi 1 (by kernel_rfl))
              have h0:=Cq _ _ 0 _ _ _ BQ'
              exact Zc hJ hW hi hun rfl (by rfl) rfl (by decide) (by decide) (Zt _ (by decide)) (w':=w') (by simp [execOp,resolve,invoke,builtin,Act.eval,e79,h0,lq,lP,lF,lc,z1,z2,z3,hkc,go_sem,Ys]) (⟨by decide,by kernel_rfl,True.intro⟩)
            · have e80:a1.tmps.getD 80 undef = .string nm:=(Ze hJ hi 2 (by kernel_rfl))
              exact Zc hJ hW hi hun rfl (by rfl) rfl (by decide) (by decide) (Zt _ (by decide)) (w':=w') (by simp [execOp,resolve,invoke,builtin,Act.eval,e80,lq,lP,lF,lc,z1,z2,z3,hkc,go_sem,Ys]) (⟨by decide,by kernel_rfl,True.intro⟩)
            · have e4:a1.tmps.getD 4 undef = .pointer (some ⟨bP,0,none⟩):=hJ.un 4 (fun i hi _=>Xt 4 (by decide) i hi)
              have h0:=Cq _ _ 0 _ _ _ BP'
              have h1:=Cq _ _ 1 _ _ _ BP'
              have h2:=Cq _ _ 2 _ _ _ BP'
              exact Zc hJ hW hi hun rfl (by rfl) rfl (by decide) (by decide) (Zt _ (by decide)) (w':=w') (by simp [execOp,resolve,invoke,builtin,Act.eval,e4,h0,h1,h2,lq,lP,lF,lc,z1,z2,z3,hkc,go_sem,Ys]) (⟨by decide,by kernel_rfl,True.intro⟩)
            · have e5:a1.tmps.getD 5 undef = .pointer (some ⟨bF,0,none⟩):=hJ.un 5 (fun i hi _=>Xt 5 (by decide) i hi)
              have h0:=Cq _ _ 0 _ _ _ BF'
              have h1:=Cq _ _ 1 _ _ _ BF'
              have h2:=Cq _ _ 2 _ _ _ BF'
              have h3:=Cq _ _ 3 _ _ _ BF'
              exact Zc hJ hW hi hun rfl (by rfl) rfl (by decide) (by decide) (Zt _ (by decide)) (w':=w') (by simp [execOp,resolve,invoke,builtin,Act.eval,e5,h0,h1,h2,h3,lq,lP,lF,lc,z1,z2,z3,hkc,go_sem,Ys]) (⟨by decide,by kernel_rfl,True.intro⟩)
            · have e12:a1.tmps.getD 12 undef = .pointer (some ⟨q,0,none⟩):=hJ.un 12 (fun i hi _=>Xt 12 (by decide) i hi)
              exact Zc hJ hW hi hun rfl (by rfl) rfl (by decide) (by decide) (Zt _ (by decide)) (w':=w') (by simp [execOp,resolve,invoke,builtin,Act.eval,e12,lq,lP,lF,lc,z1,z2,z3,hkc,go_sem,Ys]) (⟨by decide,by kernel_rfl,True.intro⟩)
            · have e84:a1.tmps.getD 84 undef = .pointer (some ⟨q,1,none⟩):=(Ze hJ hi 6 (by kernel_rfl))
              have h0:=Cq _ _ 1 _ _ _ BQ'
              exact Zc hJ hW hi hun rfl (by rfl) rfl (by decide) (by decide) (Zt _ (by decide)) (w':=w') (by simp [execOp,resolve,invoke,builtin,Act.eval,e84,h0,lq,lP,lF,lc,z1,z2,z3,hkc,go_sem,Ys]) (⟨by decide,by kernel_rfl,True.intro⟩)
            · have e5:a1.tmps.getD 5 undef = .pointer (some ⟨bF,0,none⟩):=hJ.un 5 (fun i hi _=>Xt 5 (by decide) i hi)
              exact Zc hJ hW hi hun rfl (by rfl) rfl (by decide) (by decide) (Zt _ (by decide)) (w':=w') (by simp [execOp,resolve,invoke,builtin,Act.eval,e5,lq,lP,lF,lc,z1,z2,z3,hkc,go_sem,Ys]) (⟨by decide,by kernel_rfl,True.intro⟩)
            · have e86:a1.tmps.getD 86 undef = .pointer (some ⟨bF,3,none⟩):=(Ze hJ hi 8 (by kernel_rfl))
              have h0:=Cq _ _ 3 _ _ _ BF'
              exact Zc hJ hW hi hun rfl (by rfl) rfl (by decide) (by decide) (Zt _ (by decide)) (w':=w') (by simp [execOp,resolve,invoke,builtin,Act.eval,e86,h0,lq,lP,lF,lc,z1,z2,z3,hkc,go_sem,Ys]) (⟨by decide,by kernel_rfl,True.intro⟩)
            · have e11:a1.tmps.getD 11 undef = .int .i64 (k:Int):=hJ.un 11 (fun i hi _=>Xt 11 (by decide) i hi)
              exact Zc hJ hW hi hun rfl (by rfl) rfl (by decide) (by decide) (Zt _ (by decide)) (w':=w') (by simp [execOp,resolve,invoke,builtin,Act.eval,e11,lq,lP,lF,lc,z1,z2,z3,hkc,go_sem,Ys]) (⟨by decide,by kernel_rfl,True.intro⟩)
            · have e87:a1.tmps.getD 87 undef = .slice (some ⟨cb,co,none⟩) code.length cc:=(Ze hJ hi 9 (by kernel_rfl))
              have e88:a1.tmps.getD 88 undef = .int .i64 (k:Int):=(Ze hJ hi 10 (by kernel_rfl))
              exact Zc hJ hW hi hun rfl (by rfl) rfl (by decide) (by decide) (Zt _ (by decide)) (w':=w') (by first|(simp [execOp,resolve,invoke,builtin,Act.eval,e87,e88,lq,lP,lF,lc,z1,z2,z3,hkc,go_sem,Ys];done)|(simp [execOp,resolve,invoke,builtin,Act.eval,e87,e88,lq,lP,lF,lc,z1,z2,z3,hkc,go_sem,Ys];omega)|(simp [execOp,resolve,invoke,builtin,Act.eval,e87,e88,lq,lP,lF,lc,z1,z2,z3,hkc,go_sem,Ys];intro h;omega)|(simp [execOp,resolve,invoke,builtin,Act.eval,e87,e88,lq,lP,lF,lc,z1,z2,z3,hkc,go_sem,Ys];intros;omega)) (⟨by decide,by kernel_rfl,True.intro⟩)
            · have e89:a1.tmps.getD 89 undef = .pointer (some ⟨cb,co+k*2,none⟩):=(Ze hJ hi 11 (by kernel_rfl))
              exact Zc hJ hW hi hun rfl (by rfl) rfl (by decide) (by decide) (Zt _ (by decide)) (w':=w') (by simp [execOp,resolve,invoke,builtin,Act.eval,e89,lq,lP,lF,lc,z1,z2,z3,hkc,go_sem,Ys]) (⟨by decide,by kernel_rfl,True.intro⟩)
            · have e90:a1.tmps.getD 90 undef = .pointer (some ⟨cb,co+k*2+1,none⟩):=(Ze hJ hi 12 (by kernel_rfl))
              have h0:=Ym (w:=w7.drew) hg hcB x1
              exact Zc hJ hW hi hun rfl (by rfl) rfl (by decide) (by decide) (Zt _ (by decide)) (w':=w') (by simp [execOp,resolve,invoke,builtin,Act.eval,e90,h0,lq,lP,lF,lc,z1,z2,z3,hkc,go_sem,Ys]) (⟨by decide,by kernel_rfl,True.intro⟩)
            · have e82:a1.tmps.getD 82 undef = .agg #[.int .i64 mem,.slice pd nd cd,.slice pF nF cF]:=(Ze hJ hi 4 (by kernel_rfl))
              have e83:a1.tmps.getD 83 undef = .agg #[.int .i64 fa0,.int .i64 fl0,.int .i64 fr0,.slice (some ⟨cb,co,none⟩) code.length cc]:=(Ze hJ hi 5 (by kernel_rfl))
              have e85:a1.tmps.getD 85 undef = .int .i64 o:=(Ze hJ hi 7 (by kernel_rfl))
              have e91:a1.tmps.getD 91 undef = .int .i64 a:=(Ze hJ hi 13 (by kernel_rfl))
              refine Zx rfl (by rfl) (by simp [execOp,resolve,invoke,Act.eval,e82,e83,e85,e91,go_sem]) (Calls.mono (OP.out w' (Ju hg h8 (Zq S7.out.lib (Zf (Zd w7 none))))) (fun e w2 he => ?_))
              obtain ⟨rfl,hg2⟩:=he
              refine ⟨_,rfl,?_,Zu hW (by decide) hun (by decide) (Zi _ hi (by kernel_rfl)) (Zs hg (Yg hg2 (Nat.le_trans hB7.out hg.below.size))) (fun hne0 hun0 hB0=>Za hB0 hg2) (fun j hj hne hl hcu hF => ?_) (True.intro)⟩
              · exact Xd (val:=Ys B b q bP bF cb co nd cd nF cF code.length cc k mem fa0 fl0 fr0 o a (Zgj nF code.length (op,a)).length pd pF nm (bs (Zch nF code.length o a)) (L0++Jl nF code k++Zgw code k++Zgj nF code.length (op,a)) ) (Xf hJ (Zro hW.cl hun)) (by decide) (by decide) (Zt _ (by decide))
              · rcases Zcw j hj with rfl|rfl|rfl|rfl|rfl|rfl|rfl|rfl|rfl|rfl|rfl|rfl|rfl|rfl|rfl|rfl|rfl|rfl
                · exact True.intro
                · exact True.intro
                · exact True.intro
                · exact True.intro
                · exact True.intro
                · exact True.intro
                · exact True.intro
                · exact True.intro
                · exact True.intro
                · exact True.intro
                · exact True.intro
                · exact True.intro
                · exact True.intro
                · exact True.intro
                · exact absurd rfl hne
                · exact True.intro
                · exact True.intro
                · exact Zm (hW.cl (15,14) (by decide) (hW.cl (16,15) (by decide) (hW.cl (17,16) (by decide) (hl)))) hun
            · have e81:a1.tmps.getD 81 undef = .string (⟨#[9]⟩++nm):=(Ze hJ hi 3 (by kernel_rfl))
              have e92:a1.tmps.getD 92 undef = .string (bs (Zch nF code.length o a)):=(Ze hJ hi 14 (by kernel_rfl))
              exact Zc hJ hW hi hun rfl (by rfl) rfl (by decide) (by decide) (Zt _ (by decide)) (w':=w') (by simp [execOp,resolve,invoke,builtin,Act.eval,e81,e92,lq,lP,lF,lc,z1,z2,z3,hkc,go_sem,Ys]) (⟨by decide,by kernel_rfl,True.intro⟩)
            · have e93:a1.tmps.getD 93 undef = .string (⟨#[9]⟩++nm++(bs (Zch nF code.length o a))):=(Ze hJ hi 15 (by kernel_rfl))
              exact Zc hJ hW hi hun rfl (by rfl) rfl (by decide) (by decide) (Zt _ (by decide)) (w':=w') (by simp [execOp,resolve,invoke,builtin,Act.eval,e93,lq,lP,lF,lc,z1,z2,z3,hkc,go_sem,Ys]) (⟨by decide,by kernel_rfl,True.intro⟩)
            · have e78:a1.tmps.getD 78 undef = .pointer (some ⟨b,0,none⟩):=(Ze hJ hi 0 (by kernel_rfl))
              have e94:a1.tmps.getD 94 undef = .string (⟨#[9]⟩++nm++bs (Zch nF code.length o a)++⟨#[10]⟩):=(Ze hJ hi 16 (by kernel_rfl))
              have own:=hW.u hun
              refine Zx rfl (by rfl) (by simp [execOp,resolve,invoke,Act.eval,e78,e94,go_sem]) (Calls.mono (IW.out w' (Zab S7.out.bld (Za (Zf (Zd w7 none)) own)) (Nat.le_trans hB7.out hg.below.size)) (fun e w2 he => ?_))
              obtain ⟨rfl,hb2,hf2⟩:=he
              refine ⟨_,rfl,?_,Zu hW (by decide) hun (by decide) (Zi _ hi (by kernel_rfl)) (Zs hg hf2) (fun hne0 hun0 hB0=>absurd rfl hne0) (fun j hj hne hl hcu hF => ?_) (hb2)⟩
              · exact Xd (val:=Ys B b q bP bF cb co nd cd nF cF code.length cc k mem fa0 fl0 fr0 o a (Zgj nF code.length (op,a)).length pd pF nm (bs (Zch nF code.length o a)) (L0++Jl nF code k++Zgw code k++Zgj nF code.length (op,a)) ) (Xf hJ (Zrn hW.cl hun)) (by decide) (by decide) (Zt _ (by decide))
              · rcases Zcw j hj with rfl|rfl|rfl|rfl|rfl|rfl|rfl|rfl|rfl|rfl|rfl|rfl|rfl|rfl|rfl|rfl|rfl|rfl
                · exact True.intro
                · exact True.intro
                · exact True.intro
                · exact True.intro
                · exact True.intro
                · exact True.intro
                · exact True.intro
                · exact True.intro
                · exact True.intro
                · exact True.intro
                · exact True.intro
                · exact True.intro
                · exact True.intro
                · exact True.intro
                · exact hF
                · exact True.intro
                · exact True.intro
                · exact absurd rfl hne
           case fin =>
            intro l9 a1 w9 hJJ hl9
            obtain ⟨hJ,hW9⟩:=hJJ
            have hg9:=hW9.g (Jx hW9)
            have F17:=hW9.f (Jx hW9) 17 (by decide) (hl9 17 (by decide)) (Zcc (by decide))
            have hput:=Xk hJ rfl hl9 (fun i j h1 h2 h3=>Zt j h2 i h1 h3)
            subst hput
            clear hJ hW9 hl9
            (try refine hK16 _ _ ?_)
            simp only [Je,Yad,Ys,Act.put,List.setIfInBounds_toArray,List.set_cons_zero,List.set_cons_succ]
            have F7:=Hq (show BFr B b w7 w9 from Zs (Yg (Zf (Zd w7 none)) hB7.out) hg9)
            have NB:=Hq (show Bld B b (L0++Jl nF code (k+1)) w9 by
             have e9:plT nF code k=Zgw code k++Zgj nF code.length (op,a):=by unfold plT;rw [HX.out]
             rw [Zbq,e9,<- List.append_assoc,<- List.append_assoc]
             exact F17)
            clear hg9 F17
            go_wp2
            exact ⟨⟨k+1,by go_num,by omega,Zpp S7.out.box F7.out N1.out.2.2.1 N1.out.2.2.2.1 N1.out.2.2.2.2,NB.out,Zs S7.out.fr F7.out,Ju F7.out h8 S7.out.lib⟩,by simp [intOf];omega⟩
         · go_wp2
           refine ⟨⟨k+1,by go_num,by omega,S5.out.box,?_,S5.out.fr,S5.out.lib⟩,by simp [intOf];omega⟩
           have e9:plT nF code k=Zgw code k:=by
            unfold plT
            rw [List.getElem?_eq_none (by omega),List.append_nil]
           rw [Zbq,e9,<- List.append_assoc]
           exact S5.out.bld
     · have hkn2:k=code.length+1:=by omega
       subst hkn2
       clear hkn
       go_wp2
       go_end0
       exact ⟨rfl,S.out.bld,S.out.fr⟩
end Go.Proofs.YteciblfmgdlipaaGreatDoor.AS
