/-
  Part of a proof: contracts of functions and lemmas, each stated by its own theorem. Conditions: as each theorem states.
-/
import Derived.Test.YteciblfmgdlipaaGreatDoorMR10
import Derived.Lib.ItoaLen
import Derived.Test.YteciblfmgdlipaaGreatDoorMR04
set_option linter.unusedSimpArgs false
set_option linter.unusedVariables false
set_option maxRecDepth 100000
set_option maxHeartbeats 16000000
namespace Go.Proofs.YteciblfmgdlipaaGreatDoor.AS
open Go.RowKit Go.Great CK
structure CdB (w:World) (bP bF g:Nat) (vP vF:Array Value) (n:Nat) (f:Nat->Bool):Prop where
 bp:w.heap[bP]? = some (.cells vP 26 (0,0))
 bf:w.heap[bF]? = some (.cells vF 61 (0,0))
 rw:w.rowIs g 4 n (fun k => .bool (f k))
theorem Zbv {w w':World} {bP bF g:Nat} {vP vF:Array Value} {n:Nat} {f:Nat->Bool} (h:CdB w bP bF g vP vF n f) (hg:w.grownBy w' none):CdB w' bP bF g vP vF n f :=
 ⟨Zf h.bp hg (by simp),Zf h.bf hg (by simp),h.rw.of_block (hg.block g h.rw.lt (by simp))⟩
theorem Zuh {w w':World} {B b bP bF g:Nat} {vP vF:Array Value} {n:Nat} {f:Nat->Bool} (h:CdB w bP bF g vP vF n f) (hg:BFr B b w w') (h1:bP≠b) (h2:bF≠b) (h3:g≠b):CdB w' bP bF g vP vF n f:=by
 obtain ⟨c,hb,hn,hc⟩:=h.rw
 exact ⟨Zap hg h.bp (by decide) h1,Zap hg h.bf (by decide) h2,c,Zap hg hb (by decide) h3,hn,hc⟩
theorem Zlo {w:World} {bP bF g:Nat} {vP vF:Array Value} {n:Nat} {f f':Nat->Bool} (h:CdB w bP bF g vP vF n f) (e:∀ i,i<n->f i=f' i):CdB w bP bF g vP vF n f':=⟨h.bp,h.bf,h.rw.congr fun i hi=>by rw [e i hi]⟩
theorem Ymo {w:World} {bP bF g a:Nat} {vP vF:Array Value} {n:Nat} {f f':Nat->Bool} (h:CdB w bP bF g vP vF n f) (h1:bP≠g) (h2:bF≠g) (e:∀ i,i<n->f' i=if i=a then true else f i):CdB (w.setCell ⟨g,a,none⟩ (.bool true)) bP bF g vP vF n f':=by
 refine ⟨?_,?_,(h.rw.set a (.bool true)).congr fun i hi => ?_⟩
 · exact (Below.heap_setCell _ _ _ _ h1).trans h.bp
 · exact (Below.heap_setCell _ _ _ _ h2).trans h.bf
 · rw [e i hi];split <;> rfl
theorem Zwi {code:List (Int × Int)} {k:Nat} {op a:Int}:∀ (m:Nat) (code:List (Int × Int)),Zdz code=0->code[m]? = some (op,a)->∃ nm o t g,Zr op=some (nm,o,t,g)/\Zdw o.toNat a=true
 | m,[],_,h=>by simp at h
 | 0,x::r,he,h=>by
   simp at h
   subst h
   unfold Zdz at he
   cases hs:Zr op with
   | none=>rw [hs] at he;simp at he
   | some s =>
     rw [hs] at he
     obtain ⟨nm,o,t,g⟩:=s
     by_cases hm:Zdw o.toNat a=true
     · exact ⟨nm,o,t,g,rfl,hm⟩
     · simp only [if_neg hm] at he;cases he
 | m+1,x::r,he,h=>by
   have:Zdz r=0:=by
    unfold Zdz at he
    split at he
    · cases he
    · split at he
      · exact he
      · cases he
   exact Zwi (code:=code) (k:=k) m r this (by simpa using h)
theorem Zvz {op:Int} {nm:ByteArray} {o t g:Int} (h:Zr op=some (nm,o,t,g)):Yt op=o:=by unfold Yt;rw [h]
theorem Yhe {op:Int} {nm:ByteArray} {o t g:Int} (h:Zr op=some (nm,o,t,g)):Zbp op=nm.data.toList:=by unfold Zbp;rw [h]
theorem Yhg {a:Int} (h:Zdw (3:Int).toNat a=true):0<=a:=by
 have:Zdw 3 a=true:=h
 unfold Zdw at this
 simp at this
 exact this.1
theorem Yci {o a:Int} (h:Zdw o.toNat a=true) (ho:o=5):0<=a/\a<5:=by
 subst ho
 have:Zdw 5 a=true:=h
 unfold Zdw bK at this
 simp at this
 exact this
theorem Zlj {code:List (Int × Int)} {i:Nat} {op a:Int} (h:code[i]? = some (op,a)) (k:Nat):Xp (code.take (i+1)) k=(Xp (code.take i) k || (Yt op == 3 && a == (k:Int))):=by
 unfold Xp
 rw [List.take_add_one,h,List.any_append]
 simp
theorem Yhx (code:List (Int × Int)) (k:Nat):Xp (code.take code.length) k=Xp code k:=by rw [List.take_length]
theorem Ymd {code:List (Int × Int)} {i:Nat} {op a:Int} (h:code[i]? = some (op,a)) {o:Int} (ho:Yt op=o) (hne:(o == 3)=false):∀ k,Xp (code.take i) k=Xp (code.take (i+1)) k:=fun k=>by
 rw [Zlj h,ho,hne];simp
theorem Yhw {code:List (Int × Int)} {i n:Nat} {op a:Int} (h:code[i]? = some (op,a)) (hf:¬ a<=(n:Int)):∀ k,k<n+1->Xp (code.take i) k=Xp (code.take (i+1)) k:=fun k hk=>by
 rw [Zlj h]
 have:(a == (k:Int))=false:=beq_eq_false_iff_ne.2 (by omega)
 rw [this];simp
theorem Ydh {code:List (Int × Int)} {i m:Nat} {op:Int} (h:code[i]? = some (op,(m:Int))) (ho:Yt op=3):∀ k,Xp (code.take (i+1)) k=if k=m then true else Xp (code.take i) k:=fun k=>by
 rw [Zlj h,ho]
 by_cases e:k=m
 · subst e;simp
 · rw [if_neg e]
   have:(((m:Int)) == (k:Int))=false:=beq_eq_false_iff_ne.2 (by omega)
   rw [this];simp
theorem Zkw:∀ s∈shapeT,s.1.data.toList.length<=10:=by decide
theorem Zod {op:Int} {s:ByteArray × Int × Int × Int} (h:Zr op=some s):s∈shapeT:=by
 unfold Zr at h
 split at h
 · exact List.mem_of_getElem? h
 · cases h
theorem Yce (op:Int):(Zbp op).length<=10:=by
 unfold Zbp
 split
 · rename_i s h
   exact Zkw s (Zod h)
 · simp
theorem Yea:∀ s∈callT,s.1.data.toList.length<=10:=by decide
theorem Yfh (a:Int):(Zzs a).length<=10:=by
 unfold Zzs
 split
 · rename_i s h
   exact Yea s (List.mem_of_getElem? h)
 · simp
def Zpp (a:Int):Prop := -9223372036854775808<=a/\a<=9223372036854775807
theorem Zor {a:Int} (h:Zpp a) (nF nC:Nat) (k:Int):(Zcz nF nC k a).length<=23:=by
 have h1:=Lib.itoa_length_le a h.1 h.2
 have h2:=Yfh a
 unfold Zcz
 split
 · simp
 · split
   · simp only [List.length_cons];omega
   · split
     · simp only [List.length_cons];omega
     · split
       · simp only [List.length_cons];omega
       · simp only [List.length_cons];omega
theorem Zpa (code:List (Int × Int)) {k:Nat} (hk:k<=5000):(Zjm code k).length<=24:=by
 unfold Zjm
 split
 · have h1:=Lib.itoa_length_le k (by omega) (by omega)
   simp only [List.length_cons,List.length_append,List.length_nil];omega
 · simp
theorem Zwc {x:Int × Int} (h:Zpp x.2) (nF nC:Nat):(Zhq nF nC x).length<=36:=by
 have h1:=Yce x.1
 have h2:=Zor h nF nC (Yt x.1)
 unfold Zhq
 simp only [List.length_cons,List.length_append,List.length_nil];omega
theorem Yld {code:List (Int × Int)} (hr:∀ x∈code,Zpp x.2) (nF:Nat) {k:Nat} (hk:k<=5000):(plT nF code k).length<=60:=by
 have h1:=Zpa code hk
 unfold plT
 rw [List.length_append]
 split
 · rename_i x hx
   have h2:=Zwc (hr x (List.mem_of_getElem? hx)) nF code.length
   omega
 · simp only [List.length_nil];omega
theorem Zsa {code:List (Int × Int)} (hr:∀ x∈code,Zpp x.2) (nF:Nat):∀ (n:Nat),n<=5000->(Jz nF code n).length<=60*n
 | 0,_=>by simp [Jz]
 | n+1,hn=>by
   have h1:=Zsa hr nF n (by omega)
   have h2:=Yld hr nF (k:=n) (by omega)
   rw [Zdc,List.length_append];omega
theorem Yin:Tryz.prog.underlying 107=some (.slice 4):=by kernel_rfl
theorem Yef:(Tryz.prog.info? 4).map (fun i=>(i.zero,i.size,i.bytes))=some (some (.bool false),1,1):=by kernel_rfl
theorem Zyf (n:Nat) (hn:n<=5000) (w:World):(Instr.makeSlice 107 (.int .i64 ((n:Int)+1)) (.int .i64 ((n:Int)+1))).run Tryz.prog w = .ok (.slice (some ⟨w.heap.size,0,none⟩) (n+1) (n+1)) (w.alloc (.cells (madeCells #[.bool false] (n+1)) 4)):=by
 have:=run_make_row' (P:=Tryz.prog) 107 4 (.bool false) 1 Yin Yef rfl .i64 .i64 (n+1) (by omega) (by omega) w
 rw [Int.natCast_add] at this
 exact this
theorem Zyg (w:World) (n:Nat):(w.alloc (.cells (madeCells #[.bool false] n) 4)).rowIs w.heap.size 4 n (fun _ => .bool false):=World.rowIs_made w (.bool false) n 4
def Yil:Nat->Nat
 | 0=>78
 | 1=>79
 | 2=>80
 | 3=>81
 | 4=>82
 | 5=>83
 | 6=>84
 | 7=>85
 | 8=>86
 | 9=>87
 | 10=>88
 | 11=>89
 | 12=>90
 | 13=>91
 | 14=>92
 | 15=>93
 | 16=>94
 | 17=>95
 | _=>5000
theorem Zu:∀ i,i<18->∀ j,j<18->j≠i->Yil j≠Yil i:=by decide
theorem Zen (i:Nat) (h:i<18):i=0\/i=1\/i=2\/i=3\/i=4\/i=5\/i=6\/i=7\/i=8\/i=9\/i=10\/i=11\/i=12\/i=13\/i=14\/i=15\/i=16\/i=17:=by omega
theorem Jg (j:Nat) (hj:j∈[0,4,5,11,12]):∀ i,i<18->Yil i≠j:=by revert j;decide
def Yx (B b q bP bF cb co nd cd nF cF nC cc k:Nat) (mem fa0 fl0 fr0 o a nw:Int) (pd pF:Option Addr) (nm s2:ByteArray) (L9:Txt):Nat->Value
 | 0 => .pointer (some ⟨b,0,none⟩)
 | 1 => .pointer (some ⟨q,0,none⟩)
 | 2 => .string nm
 | 3 => .string (⟨#[9]⟩++nm)
 | 4 => .agg #[.int .i64 mem,.slice pd nd cd,.slice pF nF cF]
 | 5 => .agg #[.int .i64 fa0,.int .i64 fl0,.int .i64 fr0,.slice (some ⟨cb,co,none⟩) nC cc]
 | 6 => .pointer (some ⟨q,1,none⟩)
 | 7 => .int .i64 o
 | 8 => .pointer (some ⟨bF,3,none⟩)
 | 9 => .slice (some ⟨cb,co,none⟩) nC cc
 | 10 => .int .i64 (k:Int)
 | 11 => .pointer (some ⟨cb,co+k*2,none⟩)
 | 12 => .pointer (some ⟨cb,co+k*2+1,none⟩)
 | 13 => .int .i64 a
 | 14 => .string s2
 | 15 => .string (⟨#[9]⟩++nm++s2)
 | 16 => .string (⟨#[9]⟩++nm++s2++⟨#[10]⟩)
 | 17 => .tuple #[.int .i64 nw,.nilIface]
 | _=>undef
def Ypd (B b q bP bF cb co nd cd nF cF nC cc k:Nat) (mem fa0 fl0 fr0 o a nw:Int) (pd pF:Option Addr) (nm s2:ByteArray) (L9:Txt)  : Nat->World->Prop
 | 14=>fun _=>True
 | 17=>fun w9=>Bld B b L9 w9
 | _=>fun _=>True
theorem Zwo {B b q bP bF cb co nd cd nF cF nC cc k:Nat} {mem fa0 fl0 fr0 o a nw:Int} {pd pF:Option Addr} {nm s2:ByteArray} {L9:Txt}   {l:Array Bool} (hcl:∀ p∈([(2,1),(3,2),(7,6),(9,8),(11,9),(11,10),(12,11),(13,12),(14,4),(14,5),(14,7),(14,13),(15,3),(15,14),(16,15),(17,0),(17,16)]:List (Nat × Nat)),l.getD (Prod.fst p) false=true->l.getD (Prod.snd p) false=true) (hun:l.getD 14 false=false):∀ i,i<18->l.getD i false=true->Yil i<97->Yx B b q bP bF cb co nd cd nF cF nC cc k mem fa0 fl0 fr0 o a nw pd pF nm s2 L9  i=Yx B b q bP bF cb co nd cd nF cF nC cc k mem fa0 fl0 fr0 o a nw pd pF nm s2 L9  i:=by
 intro i hi hl _
 rcases Zen i hi with rfl|rfl|rfl|rfl|rfl|rfl|rfl|rfl|rfl|rfl|rfl|rfl|rfl|rfl|rfl|rfl|rfl|rfl
 · rfl
 · rfl
 · rfl
 · rfl
 · rfl
 · rfl
 · rfl
 · rfl
 · rfl
 · rfl
 · rfl
 · rfl
 · rfl
 · rfl
 · rfl
 · rfl
 · rfl
 · rfl
theorem Zwn {B b q bP bF cb co nd cd nF cF nC cc k:Nat} {mem fa0 fl0 fr0 o a nw:Int} {pd pF:Option Addr} {nm s2:ByteArray} {L9:Txt}   {l:Array Bool} (hcl:∀ p∈([(2,1),(3,2),(7,6),(9,8),(11,9),(11,10),(12,11),(13,12),(14,4),(14,5),(14,7),(14,13),(15,3),(15,14),(16,15),(17,0),(17,16)]:List (Nat × Nat)),l.getD (Prod.fst p) false=true->l.getD (Prod.snd p) false=true) (hun:l.getD 17 false=false):∀ i,i<18->l.getD i false=true->Yil i<97->Yx B b q bP bF cb co nd cd nF cF nC cc k mem fa0 fl0 fr0 o a nw pd pF nm s2 L9  i=Yx B b q bP bF cb co nd cd nF cF nC cc k mem fa0 fl0 fr0 o a nw pd pF nm s2 L9  i:=by
 intro i hi hl _
 rcases Zen i hi with rfl|rfl|rfl|rfl|rfl|rfl|rfl|rfl|rfl|rfl|rfl|rfl|rfl|rfl|rfl|rfl|rfl|rfl
 · rfl
 · rfl
 · rfl
 · rfl
 · rfl
 · rfl
 · rfl
 · rfl
 · rfl
 · rfl
 · rfl
 · rfl
 · rfl
 · rfl
 · rfl
 · rfl
 · rfl
 · rfl
structure CdR (w0 w:World) (bP bF g:Nat) (vP vF:Array Value) (code:List (Int × Int)) (k:Nat):Prop where
 box:CdB w bP bF g vP vF (code.length+1) (Xp (code.take k))
 gr:w0.grownBy w none
structure CdS (w0 w:World) (B b bP bF g nF:Nat) (vP vF:Array Value) (code:List (Int × Int)) (l:Txt) (k:Nat):Prop where
 box:CdB w bP bF g vP vF (code.length+1) (Xp code)
 bld:Bld B b (l++Jz nF code k) w
 fr:BFr B b w0 w
 lib:LibW w
theorem Ztm {op:Int} {nm:ByteArray} {o t g:Int} (h:Zr op=some (nm,o,t,g)) (w:World):Calls Tryz.prog 66 #[.int .i64 op] w fun e w'=>e = .returned (.tuple #[.agg #[.string nm,.int .i64 o,.int .i64 t,.int .i64 g],.bool true])/\w.grownBy w' none:=by
 have:=Yjj op w
 rw [h] at this
 exact this
structure CdT (w0 w:World) (B b bP bF g:Nat) (vP vF:Array Value) (code:List (Int × Int)) (l:Txt):Prop where
 box:CdB w bP bF g vP vF (code.length+1) (Xp code)
 bld:Bld B b l w
 fr:BFr B b w0 w
 lib:LibW w
theorem Zsc {w0 w w':World} {B b bP bF g:Nat} {vP vF:Array Value} {code:List (Int × Int)} {l:Txt} (h:CdT w0 w B b bP bF g vP vF code l) (hg:w.grownBy w' none) (hB:B<=w.heap.size):CdT w0 w' B b bP bF g vP vF code l :=
 ⟨Zbv h.box hg,Zar h.bld hg,Zt h.fr (Ym hg hB),Zs h.lib hg⟩
theorem Zhl (a b:Txt) {x y:ByteArray} (hx:x=bs a) (hy:y=bs b):x++y=bs (a++b):=by subst hx;subst hy;exact Zau a b
theorem Ycq (B b:Nat) (l:Txt) (k:Nat) (w:World) (h:Bld B b l w) (hl:l.length<=200000000) (hk:k<=5000) (hBw:B<=w.heap.size) :
 Calls Tryz.prog 38 #[.pointer (some ⟨b,0,none⟩),.string (⟨#[76]⟩++bs (Lib.itoa k)++⟨#[58,10]⟩)] w fun e w'=>e = .returned (.tuple #[.int .i64 (76::(Lib.itoa k++[58,10])).length,.nilIface])/\Bld B b (l++(76::(Lib.itoa k++[58,10]))) w'/\BFr B b w w':=by
 have hz:=Lib.itoa_length_le k (by omega) (by omega)
 have e:(⟨#[76]⟩++bs (Lib.itoa k)++⟨#[58,10]⟩:ByteArray)=bs (76::(Lib.itoa k++[58,10])):=by
  refine (congrArg (·++_) (Zhl [76] (Lib.itoa k) rfl rfl)).trans ((Zhl _ [58,10] rfl rfl).trans ?_)
  simp
 rw [e]
 exact Zer B b l (76::(Lib.itoa k++[58,10])) w h (by simp only [List.length_cons,List.length_append,List.length_nil];omega) hBw
theorem Zra (B b:Nat) (l:Txt) (nF nC:Nat) (op a:Int) (nm:ByteArray) (o t g:Int) (hs:Zr op=some (nm,o,t,g)) (ha:Zpp a) (w:World) (h:Bld B b l w) (hl:l.length<=200000000) (hBw:B<=w.heap.size) :
 Calls Tryz.prog 38 #[.pointer (some ⟨b,0,none⟩),.string (⟨#[9]⟩++nm++bs (Zcz nF nC o a)++⟨#[10]⟩)] w fun e w'=>e = .returned (.tuple #[.int .i64 (Zhq nF nC (op,a)).length,.nilIface])/\Bld B b (l++Zhq nF nC (op,a)) w'/\BFr B b w w':=by
 have hz:=Zwc (x:=(op,a)) ha nF nC
 have e:(⟨#[9]⟩++nm++bs (Zcz nF nC o a)++⟨#[10]⟩:ByteArray)=bs (Zhq nF nC (op,a)):=by
  refine (congrArg (fun x=>x++_++_) (Zhl [9] nm.data.toList rfl rfl)).trans ((congrArg (·++_) (Zhl _ (Zcz nF nC o a) rfl rfl)).trans ((Zhl _ [10] rfl rfl).trans ?_))
  unfold Zhq
  rw [Zvz hs,Yhe hs]
  simp
 rw [e]
 exact Zer B b l _ w h (by omega) hBw
theorem Ydz (w:World) (vP vF:Array Value) (code:List (Int × Int)):CdR w (((w.alloc (.cells vP 26)).alloc (.cells vF 61)).alloc (.cells (madeCells #[.bool false] (code.length+1)) 4)) w.heap.size (w.heap.size+1) (w.heap.size+1+1) vP vF code 0:=by
 have h1:=heap_alloc_new w (.cells vP 26)
 have h2:=heap_alloc_new (w.alloc (.cells vP 26)) (.cells vF 61)
 have h3:=Zyg ((w.alloc (.cells vP 26)).alloc (.cells vF 61)) (code.length+1)
 rw [World.size_alloc] at h2
 rw [World.size_alloc,World.size_alloc] at h3
 have ga:=Ga (w.alloc (.cells vP 26)) (.cells vF 61) none
 have gb:=Ga ((w.alloc (.cells vP 26)).alloc (.cells vF 61)) (.cells (madeCells #[.bool false] (code.length+1)) 4) none
 exact ⟨⟨Zf h1 (Za ga gb) (by simp),Zf h2 gb (by simp),h3⟩,Za (Ga _ _ none) (Za ga gb)⟩
theorem Zwm (mem fa0 fl0 fr0:Int) (pd pF pc:Option Addr) (nd cd nF cF cc:Nat) (code:List (Int × Int)) (B b D:Nat) (L0:Txt) (w:World) (hW:LibW w) (hb:Bld B b L0 w) (hB:B<=w.heap.size) (h8:8<=B) (hD:D<=B) (hC:Zhp w D pc code) (hok:Zdz code=0) (hr:∀ x∈code,Zpp x.2) (hn:code.length<=4096) (hl:L0.length<=100000000) :
 Calls Tryz.prog 41 #[.pointer (some ⟨b,0,none⟩),.agg #[.int .i64 mem,.slice pd nd cd,.slice pF nF cF],.agg #[.int .i64 fa0,.int .i64 fl0,.int .i64 fr0,.slice pc code.length cc]] w fun e w'=>e = .returned (.tuple #[])/\Bld B b (L0++Jz nF code (code.length+1)) w'/\BFr B b w w':=by
 have hbs:=(Zsg hb).2
 have CC:=Hq hC
 have RR:=Hq hr
 have BL:=Hq hb
 have LW:=Hq hW
 have HE:=Hq hok
 have MB:=Hq (fun w=>Zyf code.length (by omega) w)
 clear hC hr hb hW hok
 have mbw:=MB.out
 go_enter Tryz.func41,Tryz.ntmps41
 go_wp2
 have R0:=Hq (Ydz w #[.int .i64 mem,.slice pd nd cd,.slice pF nF cF] #[.int .i64 fa0,.int .i64 fl0,.int .i64 fr0,.slice pc code.length cc] code)
 have BX:=Hq hbs
 have hsz:=Hq hB
 clear mbw MB
 generalize ((w.alloc (.cells #[.int .i64 mem,.slice pd nd cd,.slice pF nF cF] 26)).alloc (.cells #[.int .i64 fa0,.int .i64 fl0,.int .i64 fr0,.slice pc code.length cc] 61)).alloc (.cells (madeCells #[.bool false] (code.length+1)) 4)=w3 at R0 ⊢
 have N1:=Hq (show w.heap.size≠w.heap.size+1+1/\w.heap.size+1≠w.heap.size+1+1/\w.heap.size≠b/\w.heap.size+1≠b/\w.heap.size+1+1≠b by omega)
 clear hbs
 obtain ⟨bP,hbP⟩:∃ x,w.heap.size=x:=⟨_,rfl⟩
 have HBP:=Hq hbP
 rw [hbP] at R0 N1 ⊢
 clear hbP hB
 obtain ⟨bF,hbF⟩:∃ x,bP+1=x:=⟨_,rfl⟩
 rw [hbF] at R0 N1 ⊢
 have HBF:=Hq hbF
 clear hbF
 obtain ⟨g,hg⟩:∃ x,bF+1=x:=⟨_,rfl⟩
 rw [hg] at R0 N1 ⊢
 have HBG:=Hq hg
 clear hg
 go_loopw [22] (fun i wr=>∃ k:Nat,i = .int .i64 k/\k<=code.length/\CdR w wr bP bF g #[.int .i64 mem,.slice pd nd cd,.slice pF nF cF] #[.int .i64 fa0,.int .i64 fl0,.int .i64 fr0,.slice pc code.length cc] code k) (fun i _=>code.length - (intOf i).toNat)
 case atStart=>exact ⟨0,rfl,Nat.zero_le _,R0.out⟩
 case round =>
  obtain ⟨k,rfl,hk,hR⟩:=hrel
  have R:=Hq hR
  have y3:=Cq wr bF 3 _ _ _ hR.box.bf
  have lF:=(Gs hR.box.bf)
  clear hR
  by_cases hlt:k<code.length
  · obtain ⟨⟨op,a⟩,hx⟩:∃ x,code[k]? = some x:=⟨_,List.getElem?_eq_getElem hlt⟩
    obtain ⟨nm,o,t,gv,hs,hm⟩:=Zwi (code:=code) (k:=k) k code HE.out hx
    obtain ⟨cb,co,rfl,hcb,hcc⟩:=CC.out (by omega)
    have x0:=R.out.gr.cell (hcc k op a hx).1 (by simp)
    have x1:=R.out.gr.cell (hcc k op a hx).2 (by simp)
    have lc:=Nat.lt_of_lt_of_le (Nat.lt_of_lt_of_le hcb (Nat.le_trans hD hsz.out)) R.out.gr.size
    have OF:=Hq (fun W=>Ztm hs W)
    have HX:=Hq hx
    have HO:=Hq (Zvz hs)
    have HM:=Hq hm
    clear hx hs hm hcc
    by_cases ho:o=3
    · have ha0:0<=a:=Yhg (by rw [<- ho];exact HM.out)
      obtain ⟨m,rfl⟩:=Int.eq_ofNat_of_zero_le ha0
      subst ho
      by_cases hfa:(m:Int)<=code.length
      · have NX:=Hq (Ydh HX.out HO.out)
        have hmn:m<code.length+1:=by omega
        clear ha0
        go_wp2_with (go_at_call 66;refine (OF.out _).mono ?_;rintro e w1 ⟨rfl,hg1⟩;have R1:=Hq (Zbv R.out.box (Za (Ga wr _ none) hg1));have G1:=Hq (Za R.out.gr (Za (Ga wr _ none) hg1));have hq:=Zf (heap_alloc_new wr (.cells #[.int .i64 op,.int .i64 (m:Int)] 58)) hg1 (by simp);have d0:=Cq w1 _ 0 _ _ _ hq;have d1:=Cq w1 _ 1 _ _ _ hq;have ld:=(Gs hq);have e3:=Cq w1 bF 3 _ _ _ R1.out.bf;have lF1:=(Gs R1.out.bf);have eg:=R1.out.rw.cell hmn;have zg:=R1.out.rw.frozen m;have lg:=R1.out.rw.lt;clear hg1 hq)
        exact ⟨⟨k+1,by go_num,by omega,Zbv (Ymo R1.out N1.out.1 N1.out.2.1 (fun i _=>NX.out i)) (Ga _ _ none),Za (Yd G1.out (by have:=HBP.out;have:=HBF.out;have:=HBG.out;omega)) (Ga _ _ none)⟩,by simp [intOf];omega⟩
      · have NX:=Hq (Yhw (n:=code.length) HX.out hfa)
        clear ha0
        go_wp2_with (go_at_call 66;refine (OF.out _).mono ?_;rintro e w1 ⟨rfl,hg1⟩;have R1:=Hq (Zbv R.out.box (Za (Ga wr _ none) hg1));have G1:=Hq (Za R.out.gr (Za (Ga wr _ none) hg1));have hq:=Zf (heap_alloc_new wr (.cells #[.int .i64 op,.int .i64 (m:Int)] 58)) hg1 (by simp);have d0:=Cq w1 _ 0 _ _ _ hq;have d1:=Cq w1 _ 1 _ _ _ hq;have ld:=(Gs hq);have e3:=Cq w1 bF 3 _ _ _ R1.out.bf;have lF1:=(Gs R1.out.bf);clear hg1 hq)
        exact ⟨⟨k+1,by go_num,by omega,Zlo (Zbv R1.out (Ga _ _ none)) NX.out,Za G1.out (Ga _ _ none)⟩,by simp [intOf];omega⟩
    · have hob:(o == 3)=false:=beq_eq_false_iff_ne.2 ho
      have NX:=Hq (Ymd HX.out HO.out hob)
      clear ho
      go_wp2_with (go_at_call 66;refine (OF.out _).mono ?_;rintro e w1 ⟨rfl,hg1⟩;have R1:=Hq (Zbv R.out.box (Za (Ga wr _ none) hg1));have G1:=Hq (Za R.out.gr (Za (Ga wr _ none) hg1));have hq:=Zf (heap_alloc_new wr (.cells #[.int .i64 op,.int .i64 a] 58)) hg1 (by simp);have d0:=Cq w1 _ 0 _ _ _ hq;have d1:=Cq w1 _ 1 _ _ _ hq;have ld:=(Gs hq);have e3:=Cq w1 bF 3 _ _ _ R1.out.bf;have lF1:=(Gs R1.out.bf);clear hg1 hq)
      exact ⟨⟨k+1,by go_num,by omega,Zlo (Zbv R1.out (Ga _ _ none)) (fun i _=>NX.out i),Za G1.out (Ga _ _ none)⟩,by simp [intOf];omega⟩
  · have hkn:k=code.length:=by omega
    subst hkn
    obtain ⟨wo,hwo⟩:∃ wo,wo=wr:=⟨_,rfl⟩
    subst hwo
    have S0:=Hq (show CdS w wo B b bP bF g nF _ _ code L0 0 from ⟨Zlo R.out.box (fun i _=>Yhx code i),by have:=Zar BL.out R.out.gr;simpa [Jz] using this,Ym R.out.gr hsz.out,Zs LW.out R.out.gr⟩)
    clear hlt y3 lF
    go_wp2
    go_loopw [50] (fun i wr2=>∃ k:Nat,i = .int .i64 k/\k<=code.length+1/\CdS w wr2 B b bP bF g nF #[.int .i64 mem,.slice pd nd cd,.slice pF nF cF] #[.int .i64 fa0,.int .i64 fl0,.int .i64 fr0,.slice pc code.length cc] code L0 k) (fun i _=>code.length+1 - (intOf i).toNat)
    case atStart=>exact ⟨0,rfl,Nat.zero_le _,S0.out⟩
    case round =>
     obtain ⟨k,rfl,hk,hS⟩:=hrel
     have S:=Hq hS
     have ll:=Hq (Zsa RR.out nF k (by omega))
     clear hS
     by_cases hkn:k<code.length+1
     · have y3:=Cq wr bF 3 _ _ _ S.out.box.bf
       have lF:=(Gs S.out.box.bf)
       have eg0:=S.out.box.rw.cell hkn
       have lg:=S.out.box.rw.lt
       obtain ⟨gb,hgb⟩:∃ x,Xp code k=x:=⟨_,rfl⟩
       rw [hgb] at eg0
       have HG:=Hq hgb
       clear hgb
       cases gb with
       | true =>
         have LT:=Hq (show Zjm code k=76::(Lib.itoa k++[58,10]) from if_pos HG.out)
         have IT:=Hq (Zaj k (by omega) (by omega) wr S.out.lib)
         have hz:=Lib.itoa_length_le k (by omega) (by omega)
         have hc1:¬ 9223372036854775807<1+(bs (Lib.itoa k)).size:=by rw [Zi];omega
         have hc2:¬ 9223372036854775807<1+(bs (Lib.itoa k)).size+2:=by rw [Zi];omega
         have WB:=Hq (fun W (hbl:Bld B b (L0++Jz nF code k) W) (hBW:B<=W.heap.size)=>Ycq B b (L0++Jz nF code k) k W hbl (by rw [List.length_append];have:=ll.out;omega) (by omega) hBW)
         clear hz
         go_upto_region 14 with (first
          | (go_at_call 39;refine IT.out.mono ?_;rintro e w4 ⟨rfl,hg4⟩;have G4:=Hq hg4;clear hg4)
          | (go_at_call 38;refine (WB.out _ (Zar S.out.bld G4.out) (Nat.le_trans hsz.out (Nat.le_trans S.out.fr.below.size G4.out.size))).mono ?_;rintro e w5 ⟨rfl,hb5,hf5⟩;have F5:=Hq (Zt (Ym G4.out (Nat.le_trans hsz.out S.out.fr.below.size)) hf5);have S5:=Hq (show CdT w w5 B b bP bF g _ _ code (L0++Jz nF code k++Zjm code k) from ⟨Zuh S.out.box F5.out N1.out.2.2.1 N1.out.2.2.2.1 N1.out.2.2.2.2,by rw [LT.out];exact hb5,Zt S.out.fr F5.out,Zal F5.out h8 S.out.lib⟩);have y35:=Cq w5 bF 3 _ _ _ S5.out.box.bf;have lF5:=(Gs S5.out.box.bf);clear hb5 hf5 IT WB))
         by_cases hlt:k<code.length
         · obtain ⟨⟨op,a⟩,hx⟩:∃ x,code[k]? = some x:=⟨_,List.getElem?_eq_getElem hlt⟩
           obtain ⟨nm,o,t,gv,hs,hm⟩:=Zwi (code:=code) (k:=k) k code HE.out hx
           have HA:=Hq (RR.out (op,a) (List.mem_of_getElem? hx))
           obtain ⟨cb,co,rfl,hcb,hcc⟩:=CC.out (by omega)
           have hcB:cb<B:=by omega
           have x0:=Yq S5.out.fr hcB (hcc k op a hx).1
           have x1:=Yq S5.out.fr hcB (hcc k op a hx).2
           have lc:cb<w5.heap.size:=Nat.lt_of_lt_of_le hcB (Nat.le_trans hsz.out S5.out.fr.below.size)
           have OF:=Hq (fun W=>Ztm hs W)
           have HX:=Hq hx
           have XC:=Hq (hcc k op a hx)
           have HS:=Hq hs
           have HM:=Hq hm
           have hnz:nm.size<=10:=Zkw _ (Zod hs)
           clear hx hs hm hcc
           go_upto_region 16 with (go_at_call 66;refine (OF.out _).mono ?_;rintro e w6 ⟨rfl,hg6⟩;have G6:=Hq hg6;have hlt6:=hg6.size;clear hg6)
           have hB5:=Nat.le_trans hsz.out S5.out.fr.below.size
           have S7:=Hq (Zsc S5.out (Za G6.out (Ga w6 (.cells #[.string nm,.int .i64 o,.int .i64 t,.int .i64 gv] 144) none)) hB5)
           have BQ:=Hq (heap_alloc_new w6 (.cells #[.string nm,.int .i64 o,.int .i64 t,.int .i64 gv] 144))
           have hB7:=Hq (show B<=(w6.alloc (.cells #[.string nm,.int .i64 o,.int .i64 t,.int .i64 gv] 144)).heap.size by rw [World.size_alloc];omega)
           have HQ:=Hq (show w6.heap.size≠b by have:=(Zsg S5.out.bld).2;omega)
           generalize w6.alloc (.cells #[.string nm,.int .i64 o,.int .i64 t,.int .i64 gv] 144)=w7 at S7 BQ hB7 ⊢
           clear hlt6
           obtain ⟨q,hq⟩:∃ x,w6.heap.size=x:=⟨_,rfl⟩
           rw [hq] at BQ HQ ⊢
           clear hq x0 x1 lc y35 lF5
           have x1:=Yq S7.out.fr hcB XC.out.2
           have hkc:(k:Int)<(code.length:Int):=by omega
           have hop:=Zor HA.out nF code.length o
           have z1:¬ 9223372036854775807<1+nm.size:=by omega
           have z2:¬ 9223372036854775807<1+nm.size+(bs (Zcz nF code.length o a)).size:=by rw [Zi];omega
           have z3:¬ 9223372036854775807<1+nm.size+(bs (Zcz nF code.length o a)).size+1:=by rw [Zi];omega
           have LL:=Hq (show (L0++Jz nF code k++Zjm code k).length<=200000000 by have h1:=ll.out;have h2:=Zpa code (k:=k) (by omega);simp only [List.length_append];omega)
           have OP:=Hq (fun W (hW:LibW W)=>Zku mem fa0 fl0 fr0 o a pd pF (some ⟨cb,co,none⟩) nd cd nF cF code.length cc W hW HA.out.1 HA.out.2 (Yci HM.out))
           have IW:=Hq (fun W h hBW=>Zra B b (L0++Jz nF code k++Zjm code k) nF code.length op a nm o t gv HS.out HA.out W h LL.out hBW)
           (try rename_i K16 hK16)
           refine Xa (n:=18) (J:=fun a0 l a1 w1=>RJ a0 97 18 Yil (Yx B b q bP bF cb co nd cd nF cF code.length cc k mem fa0 fl0 fr0 o a (Zhq nF code.length (op,a)).length pd pF nm (bs (Zcz nF code.length o a)) (L0++Jz nF code k++Zjm code k++Zhq nF code.length (op,a)) ) l a1/\Zcs 18 18 17 [(2,1),(3,2),(7,6),(9,8),(11,9),(11,10),(12,11),(13,12),(14,4),(14,5),(14,7),(14,13),(15,3),(15,14),(16,15),(17,0),(17,16)] [] (fun w9=>BFr B b w7.drew w9) (fun w9=>World.grownBy w7.drew w9 none) (Ypd B b q bP bF cb co nd cd nF cF code.length cc k mem fa0 fl0 fr0 o a (Zhq nF code.length (op,a)).length pd pF nm (bs (Zcz nF code.length o a)) (L0++Jz nF code k++Zjm code k++Zhq nF code.length (op,a)) ) (fun _=>True) l w1) (by kernel_rfl) rfl (Xx (by kernel_rfl)) (fun l a1 w1 h=>by obtain ⟨h,_⟩:=h;exact h.sz) ⟨Yz rfl,Yf (Zfh _ _ _) (Zd _ _)⟩ ?step ?fin
           case step =>
            intro l a1 w' i hJJ hi hin
            obtain ⟨hJ,hW⟩:=hJJ
            have hun:l.getD i false=false:=getD_both (mem_ready.1 hi).1
            have hns:=Jv hW hin hun
            have hg:=hW.g hns
            have BQ':=Zap (w:=w7.drew) hg BQ.out (by decide) HQ.out
            have BP':=Zap (w:=w7.drew) hg S7.out.box.bp (by decide) N1.out.2.2.1
            have BF':=Zap (w:=w7.drew) hg S7.out.box.bf (by decide) N1.out.2.2.2.1
            have lq:=(Array.getElem?_eq_some_iff.1 BQ').1
            have lP:=(Array.getElem?_eq_some_iff.1 BP').1
            have lF:=(Array.getElem?_eq_some_iff.1 BF').1
            have lc:cb<w'.heap.size:=Nat.lt_of_lt_of_le hcB (Nat.le_trans hB7.out hg.below.size)
            rcases Zen i hin with rfl|rfl|rfl|rfl|rfl|rfl|rfl|rfl|rfl|rfl|rfl|rfl|rfl|rfl|rfl|rfl|rfl|rfl
            · have e0:a1.tmps.getD 0 undef = .pointer (some ⟨b,0,none⟩):=hJ.un 0 (fun i hi _=>Jg 0 (by decide) i hi)
              exact Zc hJ hW hi hun rfl (by rfl) rfl (by decide) (by decide) (Zu _ (by decide)) (w':=w') (by simp [execOp,resolve,invoke,builtin,Act.eval,e0,lq,lP,lF,lc,z1,z2,z3,hkc,go_sem,Yx]) (⟨by decide,by kernel_rfl,True.intro⟩)
            · have e12:a1.tmps.getD 12 undef = .pointer (some ⟨q,0,none⟩):=hJ.un 12 (fun i hi _=>Jg 12 (by decide) i hi)
              exact Zc hJ hW hi hun rfl (by rfl) rfl (by decide) (by decide) (Zu _ (by decide)) (w':=w') (by simp [execOp,resolve,invoke,builtin,Act.eval,e12,lq,lP,lF,lc,z1,z2,z3,hkc,go_sem,Yx]) (⟨by decide,by kernel_rfl,True.intro⟩)
            · have e79:a1.tmps.getD 79 undef = .pointer (some ⟨q,0,none⟩):=(Ze hJ hi 1 (by kernel_rfl))
              have h0:=Cq _ _ 0 _ _ _ BQ'
              exact Zc hJ hW hi hun rfl (by rfl) rfl (by decide) (by decide) (Zu _ (by decide)) (w':=w') (by simp [execOp,resolve,invoke,builtin,Act.eval,e79,h0,lq,lP,lF,lc,z1,z2,z3,hkc,go_sem,Yx]) (⟨by decide,by kernel_rfl,True.intro⟩)
            · have e80:a1.tmps.getD 80 undef = .string nm:=(Ze hJ hi 2 (by kernel_rfl))
              exact Zc hJ hW hi hun rfl (by rfl) rfl (by decide) (by decide) (Zu _ (by decide)) (w':=w') (by simp [execOp,resolve,invoke,builtin,Act.eval,e80,lq,lP,lF,lc,z1,z2,z3,hkc,go_sem,Yx]) (⟨by decide,by kernel_rfl,True.intro⟩)
            · have e4:a1.tmps.getD 4 undef = .pointer (some ⟨bP,0,none⟩):=hJ.un 4 (fun i hi _=>Jg 4 (by decide) i hi)
              have h0:=Cq _ _ 0 _ _ _ BP'
              have h1:=Cq _ _ 1 _ _ _ BP'
              have h2:=Cq _ _ 2 _ _ _ BP'
              exact Zc hJ hW hi hun rfl (by rfl) rfl (by decide) (by decide) (Zu _ (by decide)) (w':=w') (by simp [execOp,resolve,invoke,builtin,Act.eval,e4,h0,h1,h2,lq,lP,lF,lc,z1,z2,z3,hkc,go_sem,Yx]) (⟨by decide,by kernel_rfl,True.intro⟩)
            · have e5:a1.tmps.getD 5 undef = .pointer (some ⟨bF,0,none⟩):=hJ.un 5 (fun i hi _=>Jg 5 (by decide) i hi)
              have h0:=Cq _ _ 0 _ _ _ BF'
              have h1:=Cq _ _ 1 _ _ _ BF'
              have h2:=Cq _ _ 2 _ _ _ BF'
              have h3:=Cq _ _ 3 _ _ _ BF'
              exact Zc hJ hW hi hun rfl (by rfl) rfl (by decide) (by decide) (Zu _ (by decide)) (w':=w') (by simp [execOp,resolve,invoke,builtin,Act.eval,e5,h0,h1,h2,h3,lq,lP,lF,lc,z1,z2,z3,hkc,go_sem,Yx]) (⟨by decide,by kernel_rfl,True.intro⟩)
            · have e12:a1.tmps.getD 12 undef = .pointer (some ⟨q,0,none⟩):=hJ.un 12 (fun i hi _=>Jg 12 (by decide) i hi)
              exact Zc hJ hW hi hun rfl (by rfl) rfl (by decide) (by decide) (Zu _ (by decide)) (w':=w') (by simp [execOp,resolve,invoke,builtin,Act.eval,e12,lq,lP,lF,lc,z1,z2,z3,hkc,go_sem,Yx]) (⟨by decide,by kernel_rfl,True.intro⟩)
            · have e84:a1.tmps.getD 84 undef = .pointer (some ⟨q,1,none⟩):=(Ze hJ hi 6 (by kernel_rfl))
              have h0:=Cq _ _ 1 _ _ _ BQ'
              exact Zc hJ hW hi hun rfl (by rfl) rfl (by decide) (by decide) (Zu _ (by decide)) (w':=w') (by simp [execOp,resolve,invoke,builtin,Act.eval,e84,h0,lq,lP,lF,lc,z1,z2,z3,hkc,go_sem,Yx]) (⟨by decide,by kernel_rfl,True.intro⟩)
            · have e5:a1.tmps.getD 5 undef = .pointer (some ⟨bF,0,none⟩):=hJ.un 5 (fun i hi _=>Jg 5 (by decide) i hi)
              exact Zc hJ hW hi hun rfl (by rfl) rfl (by decide) (by decide) (Zu _ (by decide)) (w':=w') (by simp [execOp,resolve,invoke,builtin,Act.eval,e5,lq,lP,lF,lc,z1,z2,z3,hkc,go_sem,Yx]) (⟨by decide,by kernel_rfl,True.intro⟩)
            · have e86:a1.tmps.getD 86 undef = .pointer (some ⟨bF,3,none⟩):=(Ze hJ hi 8 (by kernel_rfl))
              have h0:=Cq _ _ 3 _ _ _ BF'
              exact Zc hJ hW hi hun rfl (by rfl) rfl (by decide) (by decide) (Zu _ (by decide)) (w':=w') (by simp [execOp,resolve,invoke,builtin,Act.eval,e86,h0,lq,lP,lF,lc,z1,z2,z3,hkc,go_sem,Yx]) (⟨by decide,by kernel_rfl,True.intro⟩)
            · have e11:a1.tmps.getD 11 undef = .int .i64 (k:Int):=hJ.un 11 (fun i hi _=>Jg 11 (by decide) i hi)
              exact Zc hJ hW hi hun rfl (by rfl) rfl (by decide) (by decide) (Zu _ (by decide)) (w':=w') (by simp [execOp,resolve,invoke,builtin,Act.eval,e11,lq,lP,lF,lc,z1,z2,z3,hkc,go_sem,Yx]) (⟨by decide,by kernel_rfl,True.intro⟩)
            · have e87:a1.tmps.getD 87 undef = .slice (some ⟨cb,co,none⟩) code.length cc:=(Ze hJ hi 9 (by kernel_rfl))
              have e88:a1.tmps.getD 88 undef = .int .i64 (k:Int):=(Ze hJ hi 10 (by kernel_rfl))
              exact Zc hJ hW hi hun rfl (by rfl) rfl (by decide) (by decide) (Zu _ (by decide)) (w':=w') (by first|(simp [execOp,resolve,invoke,builtin,Act.eval,e87,e88,lq,lP,lF,lc,z1,z2,z3,hkc,go_sem,Yx];done)|(simp [execOp,resolve,invoke,builtin,Act.eval,e87,e88,lq,lP,lF,lc,z1,z2,z3,hkc,go_sem,Yx];omega)|(simp [execOp,resolve,invoke,builtin,Act.eval,e87,e88,lq,lP,lF,lc,z1,z2,z3,hkc,go_sem,Yx];intro h;omega)|(simp [execOp,resolve,invoke,builtin,Act.eval,e87,e88,lq,lP,lF,lc,z1,z2,z3,hkc,go_sem,Yx];intros;omega)) (⟨by decide,by kernel_rfl,True.intro⟩)
            · have e89:a1.tmps.getD 89 undef = .pointer (some ⟨cb,co+k*2,none⟩):=(Ze hJ hi 11 (by kernel_rfl))
              exact Zc hJ hW hi hun rfl (by rfl) rfl (by decide) (by decide) (Zu _ (by decide)) (w':=w') (by simp [execOp,resolve,invoke,builtin,Act.eval,e89,lq,lP,lF,lc,z1,z2,z3,hkc,go_sem,Yx]) (⟨by decide,by kernel_rfl,True.intro⟩)
            · have e90:a1.tmps.getD 90 undef = .pointer (some ⟨cb,co+k*2+1,none⟩):=(Ze hJ hi 12 (by kernel_rfl))
              have h0:=Yq (w:=w7.drew) hg hcB x1
              exact Zc hJ hW hi hun rfl (by rfl) rfl (by decide) (by decide) (Zu _ (by decide)) (w':=w') (by simp [execOp,resolve,invoke,builtin,Act.eval,e90,h0,lq,lP,lF,lc,z1,z2,z3,hkc,go_sem,Yx]) (⟨by decide,by kernel_rfl,True.intro⟩)
            · have e82:a1.tmps.getD 82 undef = .agg #[.int .i64 mem,.slice pd nd cd,.slice pF nF cF]:=(Ze hJ hi 4 (by kernel_rfl))
              have e83:a1.tmps.getD 83 undef = .agg #[.int .i64 fa0,.int .i64 fl0,.int .i64 fr0,.slice (some ⟨cb,co,none⟩) code.length cc]:=(Ze hJ hi 5 (by kernel_rfl))
              have e85:a1.tmps.getD 85 undef = .int .i64 o:=(Ze hJ hi 7 (by kernel_rfl))
              have e91:a1.tmps.getD 91 undef = .int .i64 a:=(Ze hJ hi 13 (by kernel_rfl))
              refine Zz rfl (by rfl) (by simp [execOp,resolve,invoke,Act.eval,e82,e83,e85,e91,go_sem]) (Calls.mono (OP.out w' (Zal hg h8 (Zs S7.out.lib (Zg (Zd w7 none))))) (fun e w2 he => ?_))
              obtain ⟨rfl,hg2⟩:=he
              refine ⟨_,rfl,?_,Zv hW (by decide) hun (by decide) (Zj _ hi (by kernel_rfl)) (Zt hg (Ym hg2 (Nat.le_trans hB7.out hg.below.size))) (fun hne0 hun0 hB0=>Za hB0 hg2) (fun j hj hne hl hcu hF => ?_) (True.intro)⟩
              · exact Xm (val:=Yx B b q bP bF cb co nd cd nF cF code.length cc k mem fa0 fl0 fr0 o a (Zhq nF code.length (op,a)).length pd pF nm (bs (Zcz nF code.length o a)) (L0++Jz nF code k++Zjm code k++Zhq nF code.length (op,a)) ) (Xo hJ (Zwo hW.cl hun)) (by decide) (by decide) (Zu _ (by decide))
              · rcases Zen j hj with rfl|rfl|rfl|rfl|rfl|rfl|rfl|rfl|rfl|rfl|rfl|rfl|rfl|rfl|rfl|rfl|rfl|rfl
                · exact True.intro
                · exact True.intro
                · exact True.intro
                · exact True.intro
                · exact True.intro
                · exact True.intro
                · exact True.intro
                · exact True.intro
                · exact True.intro
                · exact True.intro
                · exact True.intro
                · exact True.intro
                · exact True.intro
                · exact True.intro
                · exact absurd rfl hne
                · exact True.intro
                · exact True.intro
                · exact Zm (hW.cl (15,14) (by decide) (hW.cl (16,15) (by decide) (hW.cl (17,16) (by decide) (hl)))) hun
            · have e81:a1.tmps.getD 81 undef = .string (⟨#[9]⟩++nm):=(Ze hJ hi 3 (by kernel_rfl))
              have e92:a1.tmps.getD 92 undef = .string (bs (Zcz nF code.length o a)):=(Ze hJ hi 14 (by kernel_rfl))
              exact Zc hJ hW hi hun rfl (by rfl) rfl (by decide) (by decide) (Zu _ (by decide)) (w':=w') (by simp [execOp,resolve,invoke,builtin,Act.eval,e81,e92,lq,lP,lF,lc,z1,z2,z3,hkc,go_sem,Yx]) (⟨by decide,by kernel_rfl,True.intro⟩)
            · have e93:a1.tmps.getD 93 undef = .string (⟨#[9]⟩++nm++(bs (Zcz nF code.length o a))):=(Ze hJ hi 15 (by kernel_rfl))
              exact Zc hJ hW hi hun rfl (by rfl) rfl (by decide) (by decide) (Zu _ (by decide)) (w':=w') (by simp [execOp,resolve,invoke,builtin,Act.eval,e93,lq,lP,lF,lc,z1,z2,z3,hkc,go_sem,Yx]) (⟨by decide,by kernel_rfl,True.intro⟩)
            · have e78:a1.tmps.getD 78 undef = .pointer (some ⟨b,0,none⟩):=(Ze hJ hi 0 (by kernel_rfl))
              have e94:a1.tmps.getD 94 undef = .string (⟨#[9]⟩++nm++bs (Zcz nF code.length o a)++⟨#[10]⟩):=(Ze hJ hi 16 (by kernel_rfl))
              have own:=hW.u hun
              refine Zz rfl (by rfl) (by simp [execOp,resolve,invoke,Act.eval,e78,e94,go_sem]) (Calls.mono (IW.out w' (Zar S7.out.bld (Za (Zg (Zd w7 none)) own)) (Nat.le_trans hB7.out hg.below.size)) (fun e w2 he => ?_))
              obtain ⟨rfl,hb2,hf2⟩:=he
              refine ⟨_,rfl,?_,Zv hW (by decide) hun (by decide) (Zj _ hi (by kernel_rfl)) (Zt hg hf2) (fun hne0 hun0 hB0=>absurd rfl hne0) (fun j hj hne hl hcu hF => ?_) (hb2)⟩
              · exact Xm (val:=Yx B b q bP bF cb co nd cd nF cF code.length cc k mem fa0 fl0 fr0 o a (Zhq nF code.length (op,a)).length pd pF nm (bs (Zcz nF code.length o a)) (L0++Jz nF code k++Zjm code k++Zhq nF code.length (op,a)) ) (Xo hJ (Zwn hW.cl hun)) (by decide) (by decide) (Zu _ (by decide))
              · rcases Zen j hj with rfl|rfl|rfl|rfl|rfl|rfl|rfl|rfl|rfl|rfl|rfl|rfl|rfl|rfl|rfl|rfl|rfl|rfl
                · exact True.intro
                · exact True.intro
                · exact True.intro
                · exact True.intro
                · exact True.intro
                · exact True.intro
                · exact True.intro
                · exact True.intro
                · exact True.intro
                · exact True.intro
                · exact True.intro
                · exact True.intro
                · exact True.intro
                · exact True.intro
                · exact hF
                · exact True.intro
                · exact True.intro
                · exact absurd rfl hne
           case fin =>
            intro l9 a1 w9 hJJ hl9
            obtain ⟨hJ,hW9⟩:=hJJ
            have hg9:=hW9.g (Zao hW9)
            have F17:=hW9.f (Zao hW9) 17 (by decide) (hl9 17 (by decide)) (Zdt (by decide))
            have hput:=Xw hJ rfl hl9 (fun i j h1 h2 h3=>Zu j h2 i h1 h3)
            subst hput
            clear hJ hW9 hl9
            (try refine hK16 _ _ ?_)
            simp only [Jy,Yil,Yx,Act.put,List.setIfInBounds_toArray,List.set_cons_zero,List.set_cons_succ]
            have F7:=Hq (show BFr B b w7 w9 from Zt (Ym (Zg (Zd w7 none)) hB7.out) hg9)
            have NB:=Hq (show Bld B b (L0++Jz nF code (k+1)) w9 by
             have e9:plT nF code k=Zjm code k++Zhq nF code.length (op,a):=by unfold plT;rw [HX.out]
             rw [Zdc,e9,<- List.append_assoc,<- List.append_assoc]
             exact F17)
            clear hg9 F17
            go_wp2
            exact ⟨⟨k+1,by go_num,by omega,Zuh S7.out.box F7.out N1.out.2.2.1 N1.out.2.2.2.1 N1.out.2.2.2.2,NB.out,Zt S7.out.fr F7.out,Zal F7.out h8 S7.out.lib⟩,by simp [intOf];omega⟩
         · go_wp2
           refine ⟨⟨k+1,by go_num,by omega,S5.out.box,?_,S5.out.fr,S5.out.lib⟩,by simp [intOf];omega⟩
           have e9:plT nF code k=Zjm code k:=by
            unfold plT
            rw [List.getElem?_eq_none (by omega),List.append_nil]
           rw [Zdc,e9,<- List.append_assoc]
           exact S5.out.bld
       | false =>
         have S5:=Hq (show CdT w wr B b bP bF g _ _ code (L0++Jz nF code k++Zjm code k) from ⟨S.out.box,by rw [show Zjm code k=[] from if_neg (by rw [HG.out];decide),List.append_nil];exact S.out.bld,S.out.fr,S.out.lib⟩)
         go_upto_region 14 with fail
         obtain ⟨w5,hw5⟩:∃ w5,w5=wr:=⟨_,rfl⟩
         subst hw5
         have y35:=y3
         have lF5:=lF
         by_cases hlt:k<code.length
         · obtain ⟨⟨op,a⟩,hx⟩:∃ x,code[k]? = some x:=⟨_,List.getElem?_eq_getElem hlt⟩
           obtain ⟨nm,o,t,gv,hs,hm⟩:=Zwi (code:=code) (k:=k) k code HE.out hx
           have HA:=Hq (RR.out (op,a) (List.mem_of_getElem? hx))
           obtain ⟨cb,co,rfl,hcb,hcc⟩:=CC.out (by omega)
           have hcB:cb<B:=by omega
           have x0:=Yq S5.out.fr hcB (hcc k op a hx).1
           have x1:=Yq S5.out.fr hcB (hcc k op a hx).2
           have lc:cb<w5.heap.size:=Nat.lt_of_lt_of_le hcB (Nat.le_trans hsz.out S5.out.fr.below.size)
           have OF:=Hq (fun W=>Ztm hs W)
           have HX:=Hq hx
           have XC:=Hq (hcc k op a hx)
           have HS:=Hq hs
           have HM:=Hq hm
           have hnz:nm.size<=10:=Zkw _ (Zod hs)
           clear hx hs hm hcc
           go_upto_region 16 with (go_at_call 66;refine (OF.out _).mono ?_;rintro e w6 ⟨rfl,hg6⟩;have G6:=Hq hg6;have hlt6:=hg6.size;clear hg6)
           have hB5:=Nat.le_trans hsz.out S5.out.fr.below.size
           have S7:=Hq (Zsc S5.out (Za G6.out (Ga w6 (.cells #[.string nm,.int .i64 o,.int .i64 t,.int .i64 gv] 144) none)) hB5)
           have BQ:=Hq (heap_alloc_new w6 (.cells #[.string nm,.int .i64 o,.int .i64 t,.int .i64 gv] 144))
           have hB7:=Hq (show B<=(w6.alloc (.cells #[.string nm,.int .i64 o,.int .i64 t,.int .i64 gv] 144)).heap.size by rw [World.size_alloc];omega)
           have HQ:=Hq (show w6.heap.size≠b by have:=(Zsg S5.out.bld).2;omega)
           generalize w6.alloc (.cells #[.string nm,.int .i64 o,.int .i64 t,.int .i64 gv] 144)=w7 at S7 BQ hB7 ⊢
           clear hlt6
           obtain ⟨q,hq⟩:∃ x,w6.heap.size=x:=⟨_,rfl⟩
           rw [hq] at BQ HQ ⊢
           clear hq x0 x1 lc y35 lF5
           have x1:=Yq S7.out.fr hcB XC.out.2
           have hkc:(k:Int)<(code.length:Int):=by omega
           have hop:=Zor HA.out nF code.length o
           have z1:¬ 9223372036854775807<1+nm.size:=by omega
           have z2:¬ 9223372036854775807<1+nm.size+(bs (Zcz nF code.length o a)).size:=by rw [Zi];omega
           have z3:¬ 9223372036854775807<1+nm.size+(bs (Zcz nF code.length o a)).size+1:=by rw [Zi];omega
           have LL:=Hq (show (L0++Jz nF code k++Zjm code k).length<=200000000 by have h1:=ll.out;have h2:=Zpa code (k:=k) (by omega);simp only [List.length_append];omega)
           have OP:=Hq (fun W (hW:LibW W)=>Zku mem fa0 fl0 fr0 o a pd pF (some ⟨cb,co,none⟩) nd cd nF cF code.length cc W hW HA.out.1 HA.out.2 (Yci HM.out))
           have IW:=Hq (fun W h hBW=>Zra B b (L0++Jz nF code k++Zjm code k) nF code.length op a nm o t gv HS.out HA.out W h LL.out hBW)
           (try rename_i K16 hK16)
           refine Xa (n:=18) (J:=fun a0 l a1 w1=>RJ a0 97 18 Yil (Yx B b q bP bF cb co nd cd nF cF code.length cc k mem fa0 fl0 fr0 o a (Zhq nF code.length (op,a)).length pd pF nm (bs (Zcz nF code.length o a)) (L0++Jz nF code k++Zjm code k++Zhq nF code.length (op,a)) ) l a1/\Zcs 18 18 17 [(2,1),(3,2),(7,6),(9,8),(11,9),(11,10),(12,11),(13,12),(14,4),(14,5),(14,7),(14,13),(15,3),(15,14),(16,15),(17,0),(17,16)] [] (fun w9=>BFr B b w7.drew w9) (fun w9=>World.grownBy w7.drew w9 none) (Ypd B b q bP bF cb co nd cd nF cF code.length cc k mem fa0 fl0 fr0 o a (Zhq nF code.length (op,a)).length pd pF nm (bs (Zcz nF code.length o a)) (L0++Jz nF code k++Zjm code k++Zhq nF code.length (op,a)) ) (fun _=>True) l w1) (by kernel_rfl) rfl (Xx (by kernel_rfl)) (fun l a1 w1 h=>by obtain ⟨h,_⟩:=h;exact h.sz) ⟨Yz rfl,Yf (Zfh _ _ _) (Zd _ _)⟩ ?step ?fin
           case step =>
            intro l a1 w' i hJJ hi hin
            obtain ⟨hJ,hW⟩:=hJJ
            have hun:l.getD i false=false:=getD_both (mem_ready.1 hi).1
            have hns:=Jv hW hin hun
            have hg:=hW.g hns
            have BQ':=Zap (w:=w7.drew) hg BQ.out (by decide) HQ.out
            have BP':=Zap (w:=w7.drew) hg S7.out.box.bp (by decide) N1.out.2.2.1
            have BF':=Zap (w:=w7.drew) hg S7.out.box.bf (by decide) N1.out.2.2.2.1
            have lq:=(Array.getElem?_eq_some_iff.1 BQ').1
            have lP:=(Array.getElem?_eq_some_iff.1 BP').1
            have lF:=(Array.getElem?_eq_some_iff.1 BF').1
            have lc:cb<w'.heap.size:=Nat.lt_of_lt_of_le hcB (Nat.le_trans hB7.out hg.below.size)
            rcases Zen i hin with rfl|rfl|rfl|rfl|rfl|rfl|rfl|rfl|rfl|rfl|rfl|rfl|rfl|rfl|rfl|rfl|rfl|rfl
            · have e0:a1.tmps.getD 0 undef = .pointer (some ⟨b,0,none⟩):=hJ.un 0 (fun i hi _=>Jg 0 (by decide) i hi)
              exact Zc hJ hW hi hun rfl (by rfl) rfl (by decide) (by decide) (Zu _ (by decide)) (w':=w') (by simp [execOp,resolve,invoke,builtin,Act.eval,e0,lq,lP,lF,lc,z1,z2,z3,hkc,go_sem,Yx]) (⟨by decide,by kernel_rfl,True.intro⟩)
            · have e12:a1.tmps.getD 12 undef = .pointer (some ⟨q,0,none⟩):=hJ.un 12 (fun i hi _=>Jg 12 (by decide) i hi)
              exact Zc hJ hW hi hun rfl (by rfl) rfl (by decide) (by decide) (Zu _ (by decide)) (w':=w') (by simp [execOp,resolve,invoke,builtin,Act.eval,e12,lq,lP,lF,lc,z1,z2,z3,hkc,go_sem,Yx]) (⟨by decide,by kernel_rfl,True.intro⟩)
            · have e79:a1.tmps.getD 79 undef = .pointer (some ⟨q,0,none⟩):=(Ze hJ hi 1 (by kernel_rfl))
              have h0:=Cq _ _ 0 _ _ _ BQ'
              exact Zc hJ hW hi hun rfl (by rfl) rfl (by decide) (by decide) (Zu _ (by decide)) (w':=w') (by simp [execOp,resolve,invoke,builtin,Act.eval,e79,h0,lq,lP,lF,lc,z1,z2,z3,hkc,go_sem,Yx]) (⟨by decide,by kernel_rfl,True.intro⟩)
            · have e80:a1.tmps.getD 80 undef = .string nm:=(Ze hJ hi 2 (by kernel_rfl))
              exact Zc hJ hW hi hun rfl (by rfl) rfl (by decide) (by decide) (Zu _ (by decide)) (w':=w') (by simp [execOp,resolve,invoke,builtin,Act.eval,e80,lq,lP,lF,lc,z1,z2,z3,hkc,go_sem,Yx]) (⟨by decide,by kernel_rfl,True.intro⟩)
            · have e4:a1.tmps.getD 4 undef = .pointer (some ⟨bP,0,none⟩):=hJ.un 4 (fun i hi _=>Jg 4 (by decide) i hi)
              have h0:=Cq _ _ 0 _ _ _ BP'
              have h1:=Cq _ _ 1 _ _ _ BP'
              have h2:=Cq _ _ 2 _ _ _ BP'
              exact Zc hJ hW hi hun rfl (by rfl) rfl (by decide) (by decide) (Zu _ (by decide)) (w':=w') (by simp [execOp,resolve,invoke,builtin,Act.eval,e4,h0,h1,h2,lq,lP,lF,lc,z1,z2,z3,hkc,go_sem,Yx]) (⟨by decide,by kernel_rfl,True.intro⟩)
            · have e5:a1.tmps.getD 5 undef = .pointer (some ⟨bF,0,none⟩):=hJ.un 5 (fun i hi _=>Jg 5 (by decide) i hi)
              have h0:=Cq _ _ 0 _ _ _ BF'
              have h1:=Cq _ _ 1 _ _ _ BF'
              have h2:=Cq _ _ 2 _ _ _ BF'
              have h3:=Cq _ _ 3 _ _ _ BF'
              exact Zc hJ hW hi hun rfl (by rfl) rfl (by decide) (by decide) (Zu _ (by decide)) (w':=w') (by simp [execOp,resolve,invoke,builtin,Act.eval,e5,h0,h1,h2,h3,lq,lP,lF,lc,z1,z2,z3,hkc,go_sem,Yx]) (⟨by decide,by kernel_rfl,True.intro⟩)
            · have e12:a1.tmps.getD 12 undef = .pointer (some ⟨q,0,none⟩):=hJ.un 12 (fun i hi _=>Jg 12 (by decide) i hi)
              exact Zc hJ hW hi hun rfl (by rfl) rfl (by decide) (by decide) (Zu _ (by decide)) (w':=w') (by simp [execOp,resolve,invoke,builtin,Act.eval,e12,lq,lP,lF,lc,z1,z2,z3,hkc,go_sem,Yx]) (⟨by decide,by kernel_rfl,True.intro⟩)
            · have e84:a1.tmps.getD 84 undef = .pointer (some ⟨q,1,none⟩):=(Ze hJ hi 6 (by kernel_rfl))
              have h0:=Cq _ _ 1 _ _ _ BQ'
              exact Zc hJ hW hi hun rfl (by rfl) rfl (by decide) (by decide) (Zu _ (by decide)) (w':=w') (by simp [execOp,resolve,invoke,builtin,Act.eval,e84,h0,lq,lP,lF,lc,z1,z2,z3,hkc,go_sem,Yx]) (⟨by decide,by kernel_rfl,True.intro⟩)
            · have e5:a1.tmps.getD 5 undef = .pointer (some ⟨bF,0,none⟩):=hJ.un 5 (fun i hi _=>Jg 5 (by decide) i hi)
              exact Zc hJ hW hi hun rfl (by rfl) rfl (by decide) (by decide) (Zu _ (by decide)) (w':=w') (by simp [execOp,resolve,invoke,builtin,Act.eval,e5,lq,lP,lF,lc,z1,z2,z3,hkc,go_sem,Yx]) (⟨by decide,by kernel_rfl,True.intro⟩)
            · have e86:a1.tmps.getD 86 undef = .pointer (some ⟨bF,3,none⟩):=(Ze hJ hi 8 (by kernel_rfl))
              have h0:=Cq _ _ 3 _ _ _ BF'
              exact Zc hJ hW hi hun rfl (by rfl) rfl (by decide) (by decide) (Zu _ (by decide)) (w':=w') (by simp [execOp,resolve,invoke,builtin,Act.eval,e86,h0,lq,lP,lF,lc,z1,z2,z3,hkc,go_sem,Yx]) (⟨by decide,by kernel_rfl,True.intro⟩)
            · have e11:a1.tmps.getD 11 undef = .int .i64 (k:Int):=hJ.un 11 (fun i hi _=>Jg 11 (by decide) i hi)
              exact Zc hJ hW hi hun rfl (by rfl) rfl (by decide) (by decide) (Zu _ (by decide)) (w':=w') (by simp [execOp,resolve,invoke,builtin,Act.eval,e11,lq,lP,lF,lc,z1,z2,z3,hkc,go_sem,Yx]) (⟨by decide,by kernel_rfl,True.intro⟩)
            · have e87:a1.tmps.getD 87 undef = .slice (some ⟨cb,co,none⟩) code.length cc:=(Ze hJ hi 9 (by kernel_rfl))
              have e88:a1.tmps.getD 88 undef = .int .i64 (k:Int):=(Ze hJ hi 10 (by kernel_rfl))
              exact Zc hJ hW hi hun rfl (by rfl) rfl (by decide) (by decide) (Zu _ (by decide)) (w':=w') (by first|(simp [execOp,resolve,invoke,builtin,Act.eval,e87,e88,lq,lP,lF,lc,z1,z2,z3,hkc,go_sem,Yx];done)|(simp [execOp,resolve,invoke,builtin,Act.eval,e87,e88,lq,lP,lF,lc,z1,z2,z3,hkc,go_sem,Yx];omega)|(simp [execOp,resolve,invoke,builtin,Act.eval,e87,e88,lq,lP,lF,lc,z1,z2,z3,hkc,go_sem,Yx];intro h;omega)|(simp [execOp,resolve,invoke,builtin,Act.eval,e87,e88,lq,lP,lF,lc,z1,z2,z3,hkc,go_sem,Yx];intros;omega)) (⟨by decide,by kernel_rfl,True.intro⟩)
            · have e89:a1.tmps.getD 89 undef = .pointer (some ⟨cb,co+k*2,none⟩):=(Ze hJ hi 11 (by kernel_rfl))
              exact Zc hJ hW hi hun rfl (by rfl) rfl (by decide) (by decide) (Zu _ (by decide)) (w':=w') (by simp [execOp,resolve,invoke,builtin,Act.eval,e89,lq,lP,lF,lc,z1,z2,z3,hkc,go_sem,Yx]) (⟨by decide,by kernel_rfl,True.intro⟩)
            · have e90:a1.tmps.getD 90 undef = .pointer (some ⟨cb,co+k*2+1,none⟩):=(Ze hJ hi 12 (by kernel_rfl))
              have h0:=Yq (w:=w7.drew) hg hcB x1
              exact Zc hJ hW hi hun rfl (by rfl) rfl (by decide) (by decide) (Zu _ (by decide)) (w':=w') (by simp [execOp,resolve,invoke,builtin,Act.eval,e90,h0,lq,lP,lF,lc,z1,z2,z3,hkc,go_sem,Yx]) (⟨by decide,by kernel_rfl,True.intro⟩)
            · have e82:a1.tmps.getD 82 undef = .agg #[.int .i64 mem,.slice pd nd cd,.slice pF nF cF]:=(Ze hJ hi 4 (by kernel_rfl))
              have e83:a1.tmps.getD 83 undef = .agg #[.int .i64 fa0,.int .i64 fl0,.int .i64 fr0,.slice (some ⟨cb,co,none⟩) code.length cc]:=(Ze hJ hi 5 (by kernel_rfl))
              have e85:a1.tmps.getD 85 undef = .int .i64 o:=(Ze hJ hi 7 (by kernel_rfl))
              have e91:a1.tmps.getD 91 undef = .int .i64 a:=(Ze hJ hi 13 (by kernel_rfl))
              refine Zz rfl (by rfl) (by simp [execOp,resolve,invoke,Act.eval,e82,e83,e85,e91,go_sem]) (Calls.mono (OP.out w' (Zal hg h8 (Zs S7.out.lib (Zg (Zd w7 none))))) (fun e w2 he => ?_))
              obtain ⟨rfl,hg2⟩:=he
              refine ⟨_,rfl,?_,Zv hW (by decide) hun (by decide) (Zj _ hi (by kernel_rfl)) (Zt hg (Ym hg2 (Nat.le_trans hB7.out hg.below.size))) (fun hne0 hun0 hB0=>Za hB0 hg2) (fun j hj hne hl hcu hF => ?_) (True.intro)⟩
              · exact Xm (val:=Yx B b q bP bF cb co nd cd nF cF code.length cc k mem fa0 fl0 fr0 o a (Zhq nF code.length (op,a)).length pd pF nm (bs (Zcz nF code.length o a)) (L0++Jz nF code k++Zjm code k++Zhq nF code.length (op,a)) ) (Xo hJ (Zwo hW.cl hun)) (by decide) (by decide) (Zu _ (by decide))
              · rcases Zen j hj with rfl|rfl|rfl|rfl|rfl|rfl|rfl|rfl|rfl|rfl|rfl|rfl|rfl|rfl|rfl|rfl|rfl|rfl
                · exact True.intro
                · exact True.intro
                · exact True.intro
                · exact True.intro
                · exact True.intro
                · exact True.intro
                · exact True.intro
                · exact True.intro
                · exact True.intro
                · exact True.intro
                · exact True.intro
                · exact True.intro
                · exact True.intro
                · exact True.intro
                · exact absurd rfl hne
                · exact True.intro
                · exact True.intro
                · exact Zm (hW.cl (15,14) (by decide) (hW.cl (16,15) (by decide) (hW.cl (17,16) (by decide) (hl)))) hun
            · have e81:a1.tmps.getD 81 undef = .string (⟨#[9]⟩++nm):=(Ze hJ hi 3 (by kernel_rfl))
              have e92:a1.tmps.getD 92 undef = .string (bs (Zcz nF code.length o a)):=(Ze hJ hi 14 (by kernel_rfl))
              exact Zc hJ hW hi hun rfl (by rfl) rfl (by decide) (by decide) (Zu _ (by decide)) (w':=w') (by simp [execOp,resolve,invoke,builtin,Act.eval,e81,e92,lq,lP,lF,lc,z1,z2,z3,hkc,go_sem,Yx]) (⟨by decide,by kernel_rfl,True.intro⟩)
            · have e93:a1.tmps.getD 93 undef = .string (⟨#[9]⟩++nm++(bs (Zcz nF code.length o a))):=(Ze hJ hi 15 (by kernel_rfl))
              exact Zc hJ hW hi hun rfl (by rfl) rfl (by decide) (by decide) (Zu _ (by decide)) (w':=w') (by simp [execOp,resolve,invoke,builtin,Act.eval,e93,lq,lP,lF,lc,z1,z2,z3,hkc,go_sem,Yx]) (⟨by decide,by kernel_rfl,True.intro⟩)
            · have e78:a1.tmps.getD 78 undef = .pointer (some ⟨b,0,none⟩):=(Ze hJ hi 0 (by kernel_rfl))
              have e94:a1.tmps.getD 94 undef = .string (⟨#[9]⟩++nm++bs (Zcz nF code.length o a)++⟨#[10]⟩):=(Ze hJ hi 16 (by kernel_rfl))
              have own:=hW.u hun
              refine Zz rfl (by rfl) (by simp [execOp,resolve,invoke,Act.eval,e78,e94,go_sem]) (Calls.mono (IW.out w' (Zar S7.out.bld (Za (Zg (Zd w7 none)) own)) (Nat.le_trans hB7.out hg.below.size)) (fun e w2 he => ?_))
              obtain ⟨rfl,hb2,hf2⟩:=he
              refine ⟨_,rfl,?_,Zv hW (by decide) hun (by decide) (Zj _ hi (by kernel_rfl)) (Zt hg hf2) (fun hne0 hun0 hB0=>absurd rfl hne0) (fun j hj hne hl hcu hF => ?_) (hb2)⟩
              · exact Xm (val:=Yx B b q bP bF cb co nd cd nF cF code.length cc k mem fa0 fl0 fr0 o a (Zhq nF code.length (op,a)).length pd pF nm (bs (Zcz nF code.length o a)) (L0++Jz nF code k++Zjm code k++Zhq nF code.length (op,a)) ) (Xo hJ (Zwn hW.cl hun)) (by decide) (by decide) (Zu _ (by decide))
              · rcases Zen j hj with rfl|rfl|rfl|rfl|rfl|rfl|rfl|rfl|rfl|rfl|rfl|rfl|rfl|rfl|rfl|rfl|rfl|rfl
                · exact True.intro
                · exact True.intro
                · exact True.intro
                · exact True.intro
                · exact True.intro
                · exact True.intro
                · exact True.intro
                · exact True.intro
                · exact True.intro
                · exact True.intro
                · exact True.intro
                · exact True.intro
                · exact True.intro
                · exact True.intro
                · exact hF
                · exact True.intro
                · exact True.intro
                · exact absurd rfl hne
           case fin =>
            intro l9 a1 w9 hJJ hl9
            obtain ⟨hJ,hW9⟩:=hJJ
            have hg9:=hW9.g (Zao hW9)
            have F17:=hW9.f (Zao hW9) 17 (by decide) (hl9 17 (by decide)) (Zdt (by decide))
            have hput:=Xw hJ rfl hl9 (fun i j h1 h2 h3=>Zu j h2 i h1 h3)
            subst hput
            clear hJ hW9 hl9
            (try refine hK16 _ _ ?_)
            simp only [Jy,Yil,Yx,Act.put,List.setIfInBounds_toArray,List.set_cons_zero,List.set_cons_succ]
            have F7:=Hq (show BFr B b w7 w9 from Zt (Ym (Zg (Zd w7 none)) hB7.out) hg9)
            have NB:=Hq (show Bld B b (L0++Jz nF code (k+1)) w9 by
             have e9:plT nF code k=Zjm code k++Zhq nF code.length (op,a):=by unfold plT;rw [HX.out]
             rw [Zdc,e9,<- List.append_assoc,<- List.append_assoc]
             exact F17)
            clear hg9 F17
            go_wp2
            exact ⟨⟨k+1,by go_num,by omega,Zuh S7.out.box F7.out N1.out.2.2.1 N1.out.2.2.2.1 N1.out.2.2.2.2,NB.out,Zt S7.out.fr F7.out,Zal F7.out h8 S7.out.lib⟩,by simp [intOf];omega⟩
         · go_wp2
           refine ⟨⟨k+1,by go_num,by omega,S5.out.box,?_,S5.out.fr,S5.out.lib⟩,by simp [intOf];omega⟩
           have e9:plT nF code k=Zjm code k:=by
            unfold plT
            rw [List.getElem?_eq_none (by omega),List.append_nil]
           rw [Zdc,e9,<- List.append_assoc]
           exact S5.out.bld
     · have hkn2:k=code.length+1:=by omega
       subst hkn2
       clear hkn
       go_wp2
       go_end0
       exact ⟨rfl,S.out.bld,S.out.fr⟩
end Go.Proofs.YteciblfmgdlipaaGreatDoor.AS
