/-
  Part of a proof: contracts of functions and lemmas, each stated by its own theorem. Conditions: as each theorem states.
-/
import Derived.Test.YteciblfmgdlipaaGreatDoorMI12
import Derived.Test.YteciblfmgdlipaaGreatDoorMI05
import Derived.Test.YteciblfmgdlipaaGreatDoorMI11
set_option linter.unusedSimpArgs false
set_option linter.unusedVariables false
set_option maxRecDepth 100000
set_option maxHeartbeats 16000000
namespace Go.Proofs.YteciblfmgdlipaaGreatDoor.AS
open Go.RowKit Go.Great CK
def Ydz:Nat->Nat
 | 0=>37
 | 1=>38
 | 2=>39
 | 3=>40
 | 4=>41
 | 5=>42
 | 6=>43
 | 7=>44
 | 8=>45
 | 9=>46
 | 10=>47
 | 11=>48
 | 12=>49
 | 13=>50
 | 14=>51
 | 15=>52
 | 16=>53
 | 17=>54
 | 18=>55
 | 19=>56
 | _=>5000
theorem Yk:∀ i,i<20->∀ j,j<20->j≠i->Ydz j≠Ydz i:=by decide
theorem Zav (i:Nat) (h:i<20):i=0\/i=1\/i=2\/i=3\/i=4\/i=5\/i=6\/i=7\/i=8\/i=9\/i=10\/i=11\/i=12\/i=13\/i=14\/i=15\/i=16\/i=17\/i=18\/i=19:=by omega
theorem Zcu (j:Nat) (hj:j∈[5,6,7]):∀ i,i<20->Ydz i≠j:=by revert j;decide
def Xm (b q k:Nat) (fa fl fr nw:Int) (sk sa sl sr:ByteArray) (L9:Txt):Nat->Value
 | 0 => .int .i64 (k:Int)
 | 1 => .string sk
 | 2 => .string (⟨#[102,117,110,99,32,102]⟩++sk)
 | 3 => .string (⟨#[102,117,110,99,32,102]⟩++sk++⟨#[32]⟩)
 | 4 => .pointer (some ⟨q,0,none⟩)
 | 5 => .int .i64 fa
 | 6 => .string sa
 | 7 => .string (⟨#[102,117,110,99,32,102]⟩++sk++⟨#[32]⟩++sa)
 | 8 => .string (⟨#[102,117,110,99,32,102]⟩++sk++⟨#[32]⟩++sa++⟨#[32]⟩)
 | 9 => .pointer (some ⟨q,1,none⟩)
 | 10 => .int .i64 fl
 | 11 => .string sl
 | 12 => .string (⟨#[102,117,110,99,32,102]⟩++sk++⟨#[32]⟩++sa++⟨#[32]⟩++sl)
 | 13 => .string (⟨#[102,117,110,99,32,102]⟩++sk++⟨#[32]⟩++sa++⟨#[32]⟩++sl++⟨#[32]⟩)
 | 14 => .pointer (some ⟨q,2,none⟩)
 | 15 => .int .i64 fr
 | 16 => .string sr
 | 17 => .string (⟨#[102,117,110,99,32,102]⟩++sk++⟨#[32]⟩++sa++⟨#[32]⟩++sl++⟨#[32]⟩++sr)
 | 18 => .string (⟨#[102,117,110,99,32,102]⟩++sk++⟨#[32]⟩++sa++⟨#[32]⟩++sl++⟨#[32]⟩++sr++⟨#[10]⟩)
 | 19 => .tuple #[.int .i64 nw,.nilIface]
 | _=>undef
def Yuv (b q k:Nat) (fa fl fr nw:Int) (sk sa sl sr:ByteArray) (L9:Txt)  : Nat->World->Prop
 | 1=>fun _=>True
 | 6=>fun _=>True
 | 11=>fun _=>True
 | 16=>fun _=>True
 | 19=>fun w9=>Bld b b L9 w9
 | _=>fun _=>True
theorem Ygi {b q k:Nat} {fa fl fr nw:Int} {sk sa sl sr:ByteArray} {L9:Txt}   {l:Array Bool} (hcl:∀ p∈([(1,0),(2,1),(3,2),(5,4),(6,5),(7,3),(7,6),(8,7),(10,9),(11,10),(12,8),(12,11),(13,12),(15,14),(16,15),(17,13),(17,16),(18,17),(19,18)]:List (Nat × Nat)),l.getD (Prod.fst p) false=true->l.getD (Prod.snd p) false=true) (hun:l.getD 1 false=false):∀ i,i<20->l.getD i false=true->Ydz i<66->Xm b q k fa fl fr nw sk sa sl sr L9  i=Xm b q k fa fl fr nw sk sa sl sr L9  i:=by
 intro i hi hl _
 rcases Zav i hi with rfl|rfl|rfl|rfl|rfl|rfl|rfl|rfl|rfl|rfl|rfl|rfl|rfl|rfl|rfl|rfl|rfl|rfl|rfl|rfl <;> rfl
theorem Ygh {b q k:Nat} {fa fl fr nw:Int} {sk sa sl sr:ByteArray} {L9:Txt}   {l:Array Bool} (hcl:∀ p∈([(1,0),(2,1),(3,2),(5,4),(6,5),(7,3),(7,6),(8,7),(10,9),(11,10),(12,8),(12,11),(13,12),(15,14),(16,15),(17,13),(17,16),(18,17),(19,18)]:List (Nat × Nat)),l.getD (Prod.fst p) false=true->l.getD (Prod.snd p) false=true) (hun:l.getD 6 false=false):∀ i,i<20->l.getD i false=true->Ydz i<66->Xm b q k fa fl fr nw sk sa sl sr L9  i=Xm b q k fa fl fr nw sk sa sl sr L9  i:=by
 intro i hi hl _
 rcases Zav i hi with rfl|rfl|rfl|rfl|rfl|rfl|rfl|rfl|rfl|rfl|rfl|rfl|rfl|rfl|rfl|rfl|rfl|rfl|rfl|rfl <;> rfl
theorem Zzo {b q k:Nat} {fa fl fr nw:Int} {sk sa sl sr:ByteArray} {L9:Txt}   {l:Array Bool} (hcl:∀ p∈([(1,0),(2,1),(3,2),(5,4),(6,5),(7,3),(7,6),(8,7),(10,9),(11,10),(12,8),(12,11),(13,12),(15,14),(16,15),(17,13),(17,16),(18,17),(19,18)]:List (Nat × Nat)),l.getD (Prod.fst p) false=true->l.getD (Prod.snd p) false=true) (hun:l.getD 11 false=false):∀ i,i<20->l.getD i false=true->Ydz i<66->Xm b q k fa fl fr nw sk sa sl sr L9  i=Xm b q k fa fl fr nw sk sa sl sr L9  i:=by
 intro i hi hl _
 rcases Zav i hi with rfl|rfl|rfl|rfl|rfl|rfl|rfl|rfl|rfl|rfl|rfl|rfl|rfl|rfl|rfl|rfl|rfl|rfl|rfl|rfl <;> rfl
theorem Zzn {b q k:Nat} {fa fl fr nw:Int} {sk sa sl sr:ByteArray} {L9:Txt}   {l:Array Bool} (hcl:∀ p∈([(1,0),(2,1),(3,2),(5,4),(6,5),(7,3),(7,6),(8,7),(10,9),(11,10),(12,8),(12,11),(13,12),(15,14),(16,15),(17,13),(17,16),(18,17),(19,18)]:List (Nat × Nat)),l.getD (Prod.fst p) false=true->l.getD (Prod.snd p) false=true) (hun:l.getD 16 false=false):∀ i,i<20->l.getD i false=true->Ydz i<66->Xm b q k fa fl fr nw sk sa sl sr L9  i=Xm b q k fa fl fr nw sk sa sl sr L9  i:=by
 intro i hi hl _
 rcases Zav i hi with rfl|rfl|rfl|rfl|rfl|rfl|rfl|rfl|rfl|rfl|rfl|rfl|rfl|rfl|rfl|rfl|rfl|rfl|rfl|rfl <;> rfl
theorem Zzm {b q k:Nat} {fa fl fr nw:Int} {sk sa sl sr:ByteArray} {L9:Txt}   {l:Array Bool} (hcl:∀ p∈([(1,0),(2,1),(3,2),(5,4),(6,5),(7,3),(7,6),(8,7),(10,9),(11,10),(12,8),(12,11),(13,12),(15,14),(16,15),(17,13),(17,16),(18,17),(19,18)]:List (Nat × Nat)),l.getD (Prod.fst p) false=true->l.getD (Prod.snd p) false=true) (hun:l.getD 19 false=false):∀ i,i<20->l.getD i false=true->Ydz i<66->Xm b q k fa fl fr nw sk sa sl sr L9  i=Xm b q k fa fl fr nw sk sa sl sr L9  i:=by
 intro i hi hl _
 rcases Zav i hi with rfl|rfl|rfl|rfl|rfl|rfl|rfl|rfl|rfl|rfl|rfl|rfl|rfl|rfl|rfl|rfl|rfl|rfl|rfl|rfl <;> rfl
theorem Ypq:∀ (fs:List FnP),Zwe fs=0->∀ f∈fs,fnE f=0
 | [],_,f,h=>by cases h
 | x::r,he,f,h=>by
   rw [Zwe] at he
   split at he
   · rename_i hx
     rcases List.mem_cons.1 h with rfl|h
     · exact hx
     · exact Ypq r he f h
   · rename_i hx;exact absurd he hx
structure Ywq (f:FnP):Prop where
 a:0<=f.1/\f.1<=16
 l:0<=f.2.1/\f.2.1<=64
 r:0<=f.2.2.1/\f.2.2.1<=1
 c:1<=f.2.2.2.length/\f.2.2.2.length<=4096
 e:Zkb f.2.2.2=0
theorem Yvn {f:FnP} (h:fnE f=0):Ywq f:=by
 unfold fnE at h
 split at h
 · cases h
 · rename_i hc
   exact ⟨by omega,by omega,by omega,by omega,h⟩
theorem Yro {mem:Int} {nd:Nat} {fs:List FnP} (h:Jl mem nd fs=0):0<=mem/\mem<=65536/\(nd:Int)<=mem/\fs.length<=64/\∀ f∈fs,Ywq f:=by
 unfold Jl at h
 split at h
 · cases h
 · exact ⟨by omega,by omega,by omega,by omega,fun f hf=>Yvn (Ypq fs h f hf)⟩
theorem Zok {k:Nat} {f:FnP} (hk:k<=5000) (h:Ywq f):(Jy k f).length<=100:=by
 have h0:=Lib.itoa_length_le k (by omega) (by omega)
 have h1:=Lib.itoa_length_le f.1 (by have:=h.a;omega) (by have:=h.a;omega)
 have h2:=Lib.itoa_length_le f.2.1 (by have:=h.l;omega) (by have:=h.l;omega)
 have h3:=Lib.itoa_length_le f.2.2.1 (by have:=h.r;omega) (by have:=h.r;omega)
 unfold Jy
 simp only [List.length_append,List.length_cons,List.length_nil];omega
theorem Ybs {mem:Int} {d:Txt} (h0:0<=mem) (h1:mem<=65536) (h2:(d.length:Int)<=mem):(Zgn mem d).length<=300000:=by
 have h3:=Lib.itoa_length_le mem (by omega) (by omega)
 have h4:=Znp d
 unfold Zgn Yce
 split
 · simp only [List.length_append,List.length_cons,List.length_nil];omega
 · simp only [List.length_append,List.length_cons,List.length_nil];omega
def Zlb (mem:Int):Txt:=[109,101,109,111,114,121,32]++Lib.itoa mem++[10]
def Zyh (d:Txt):Txt:=[100,97,116,97,32]++Yce d++[10]
theorem Zpy (mem:Int):Zgn mem []=Zlb mem:=by simp [Zgn,Zlb]
theorem Znk (mem:Int) {d:Txt} (h:d≠[]):Zgn mem d=Zlb mem++Zyh d:=by unfold Zgn;rw [if_neg h];rfl
theorem Yhf (B b:Nat) (l:Txt) (mem:Int) (h0:0<=mem) (h1:mem<=65536) (w:World) (h:Bld B b l w) (hl:l.length<=200000000) (hBw:B<=w.heap.size) :
 Calls Tryz.prog 38 #[.pointer (some ⟨b,0,none⟩),.string (⟨#[109,101,109,111,114,121,32]⟩++bs (Lib.itoa mem)++⟨#[10]⟩)] w fun e w'=>e = .returned (.tuple #[.int .i64 (Zlb mem).length,.nilIface])/\Bld B b (l++Zlb mem) w'/\BFr B b w w':=by
 have hz:=Lib.itoa_length_le mem (by omega) (by omega)
 have e:(⟨#[109,101,109,111,114,121,32]⟩++bs (Lib.itoa mem)++⟨#[10]⟩:ByteArray)=bs (Zlb mem) :=
  (congrArg (·++_) (Zig [109,101,109,111,114,121,32] (Lib.itoa mem) rfl rfl)).trans (Zig _ [10] rfl rfl)
 rw [e]
 exact Zhg B b l (Zlb mem) w h (by unfold Zlb;simp only [List.length_cons,List.length_append,List.length_nil];omega) hBw
theorem Yiw (B b:Nat) (l d:Txt) (hd:d.length<=65536) (w:World) (h:Bld B b l w) (hl:l.length<=200000000) (hBw:B<=w.heap.size) :
 Calls Tryz.prog 38 #[.pointer (some ⟨b,0,none⟩),.string (⟨#[100,97,116,97,32]⟩++bs (Yce d)++⟨#[10]⟩)] w fun e w'=>e = .returned (.tuple #[.int .i64 (Zyh d).length,.nilIface])/\Bld B b (l++Zyh d) w'/\BFr B b w w':=by
 have hz:=Znp d
 have e:(⟨#[100,97,116,97,32]⟩++bs (Yce d)++⟨#[10]⟩:ByteArray)=bs (Zyh d) :=
  (congrArg (·++_) (Zig [100,97,116,97,32] (Yce d) rfl rfl)).trans (Zig _ [10] rfl rfl)
 rw [e]
 exact Zhg B b l (Zyh d) w h (by unfold Zyh Yce;simp only [List.length_cons,List.length_append,List.length_nil];omega) hBw
theorem Zrc (B b:Nat) (l:Txt) (k:Nat) (fa fl fr:Int) (c:List (Int × Int)) (hk:k<=5000) (ho:Ywq (fa,fl,fr,c)) (w:World) (h:Bld B b l w) (hl:l.length<=200000000) (hBw:B<=w.heap.size) :
 Calls Tryz.prog 38 #[.pointer (some ⟨b,0,none⟩),.string (⟨#[102,117,110,99,32,102]⟩++bs (Lib.itoa k)++⟨#[32]⟩++bs (Lib.itoa fa)++⟨#[32]⟩++bs (Lib.itoa fl)++⟨#[32]⟩++bs (Lib.itoa fr)++⟨#[10]⟩)] w fun e w'=>e = .returned (.tuple #[.int .i64 (Jy k (fa,fl,fr,c)).length,.nilIface])/\Bld B b (l++Jy k (fa,fl,fr,c)) w'/\BFr B b w w':=by
 have hz:=Zok hk ho
 have e:(⟨#[102,117,110,99,32,102]⟩++bs (Lib.itoa k)++⟨#[32]⟩++bs (Lib.itoa fa)++⟨#[32]⟩++bs (Lib.itoa fl)++⟨#[32]⟩++bs (Lib.itoa fr)++⟨#[10]⟩:ByteArray)=bs (Jy k (fa,fl,fr,c)):=by
  unfold Jy
  simp only [<- Zbo]
  rfl
 rw [e]
 exact Zhg B b l _ w h (by omega) hBw
def Ytz (w:World) (r:Except Int Txt) (e:Ending) (w':World):Prop :=
 (match r with
   | .ok t=>e = .returned (.tuple #[.string (bs t),.int .i64 0])
   | .error y=>e = .returned (.tuple #[.string ⟨#[]⟩,.int .i64 y]))/\w.grownBy w' none
theorem Yrn {mem:Int} {d:Txt} {fs:List FnR} (h:Jl mem d.length fs≠0):Zqn (mem,d,fs) = .error (Jl mem d.length fs):=if_pos h
theorem Ylz {mem:Int} {d:Txt} {fs:List FnR} (h:Jl mem d.length fs=0) (hl:65536<(Zky (mem,d,fs)).length):Zqn (mem,d,fs) = .error 2:=(if_neg (by simpa using h)).trans (if_pos hl)
theorem Ypg {mem:Int} {d:Txt} {fs:List FnR} (h:Jl mem d.length fs=0) (hl:¬ 65536<(Zky (mem,d,fs)).length):Zqn (mem,d,fs) = .ok (Zky (mem,d,fs)):=(if_neg (by simpa using h)).trans (if_neg hl)
theorem Zql (mem:Int) (d:Txt) (fs:List FnR) {k:Nat} (hk:k<=fs.length):(Zgn mem d++Zdn fs k).length<=(Zky (mem,d,fs)).length:=by
 have h:=Zvd fs (fs.length - k) k
 rw [show k+(fs.length - k)=fs.length by omega] at h
 unfold Zky
 simp only [List.length_append];omega
structure PtS (w2 w:World) (B b bx:Nat) (vP:Array Value) (l:Txt):Prop where
 box:w.heap[bx]? = some (.cells vP 26 (0,0))
 bld:Bld B b l w
 fr:BFr B b w2 w
 lib:LibW w
theorem Zeq {w2 w w':World} {B b bx:Nat} {vP:Array Value} {l l':Txt} (h:PtS w2 w B b bx vP l) (hg:BFr B b w w') (hb:Bld B b l' w') (h8:8<=B) (hx:bx<B):PtS w2 w' B b bx vP l' :=
 ⟨(hg.below.block bx hx).trans h.box,hb,Yn h.fr hg,Zcg hg h8 h.lib⟩
theorem Zgu {w2 w w':World} {B b bx:Nat} {vP:Array Value} {l:Txt} (h:PtS w2 w B b bx vP l) (hg:w.grownBy w' none) (hB:B<=w.heap.size) (h8:8<=B) (hx:bx<B):PtS w2 w' B b bx vP l:=Zeq h (Xk hg hB) (Zcw h.bld hg) h8 hx
theorem Ydp {w w2 w':World} {B b:Nat} {p:Option Addr} {d:Txt} (h:Zhl w p d) (g:w.grownBy w2 none) (hf:BFr B b w2 w') (hB:w.heap.size<=B):Zhl w' p d:=fun h0=>by
 obtain ⟨k,o,e,hk,hc⟩:=h h0
 exact ⟨k,o,e,Nat.lt_of_lt_of_le hk (Nat.le_trans g.size hf.below.size),fun i c hi=>Xo hf (by omega) (g.cell (hc i c hi) (by simp))⟩
theorem Zjx {w w2 w':World} {B b:Nat} (g:w.grownBy w2 none) (hf:BFr B b w2 w') (hB:w.heap.size<=B):w.grownBy w' none :=
 ⟨hf.below.os.trans g.os,hf.below.tape.trans g.tape,hf.below.output.trans g.output,Nat.le_trans g.size hf.below.size,fun k hk _=>(hf.below.block k (by omega)).trans (g.block k hk (by simp))⟩
theorem Zom {w w2 w':World} {B:Nat} (g:w.grownBy w2 none) (hf:Below B w2 w') (hB:w.heap.size<=B):w.grownBy w' none :=
 ⟨hf.os.trans g.os,hf.tape.trans g.tape,hf.output.trans g.output,Nat.le_trans g.size hf.size,fun k hk _=>(hf.block k (by omega)).trans (g.block k hk (by simp))⟩
theorem Zhz {w2 w:World} {B b bx:Nat} {vP:Array Value} {l:Txt} (h:PtS w2 w B b bx vP l) (hB:B<=w2.heap.size):B<=w.heap.size:=Nat.le_trans hB h.fr.below.size
theorem Ygn (mem:Int) (d:Txt) (fs:List FnR) (pd pF:Option Addr) (cd cF D:Nat) (w:World) (hW:LibW w) (hD:D<=w.heap.size) (hd:Zhl w pd d) (hF:Zdi w D pF fs) (hdl:d.length<=9223372036854775807) (hI:∀ f∈fs,∀ x∈f.2.2.2,Zki x.2) :
 Calls Tryz.prog 18 #[.agg #[.int .i64 mem,.slice pd d.length cd,.slice pF fs.length cF]] w (Ytz w (Zqn (mem,d,fs))):=by
 have CK:=Hq (Zkx mem d.length fs pd pF cd cF D (w.alloc (.cells #[.int .i64 mem,.slice pd d.length cd,.slice pF fs.length cF] 26)) (by rw [World.size_alloc];omega) (Jx hF (Ga w _ none) (by simp)) hdl)
 have LW:=Hq hW
 have HD:=Hq hd
 have HF:=Hq hF
 have HI:=Hq hI
 have h8:=hW.big
 clear hW hd hF hI
 by_cases he:Jl mem d.length fs=0
 · obtain ⟨m0,m1,m2,f64,fok⟩:=Yro he
   have FK:=Hq fok
   rw [he] at CK
   have PL:=Hq (fun hl=>Ylz (mem:=mem) (d:=d) (fs:=fs) he hl)
   have PO:=Hq (fun hl=>Ypg (mem:=mem) (d:=d) (fs:=fs) he hl)
   have ST:=Hq (Ybs (d:=d) m0 m1 m2)
   have hd6:d.length<=65536:=by omega
   clear he fok hdl
   have hz:=Lib.itoa_length_le mem (by omega) (by omega)
   have hc1:¬ 9223372036854775807<7+(bs (Lib.itoa mem)).size:=by rw [Zl];omega
   have hc2:¬ 9223372036854775807<7+(bs (Lib.itoa mem)).size+1:=by rw [Zl];omega
   have hqz:=Znp d
   have hq1:¬ 9223372036854775807<5+(bs (Yce d)).size:=by rw [Zl];unfold Yce;simp only [List.length_append,List.length_cons,List.length_nil];omega
   have hq2:¬ 9223372036854775807<5+(bs (Yce d)).size+1:=by rw [Zl];unfold Yce;simp only [List.length_append,List.length_cons,List.length_nil];omega
   clear hz hqz
   go_enter Tryz.func18,Tryz.ntmps18
   go_upto_region 5 with (go_at_call 30;refine CK.out.mono ?_;rintro e w1 ⟨rfl,hg1⟩;have G1:=Hq (Za (Ga w (.cells #[.int .i64 mem,.slice pd d.length cd,.slice pF fs.length cF] 26) none) hg1);have BX:=Hq (Zf (heap_alloc_new w (.cells #[.int .i64 mem,.slice pd d.length cd,.slice pF fs.length cF] 26)) hg1 (by simp));clear hg1)
   have hxw:=Hq (show w.heap.size<w1.heap.size from (Gs BX.out))
   have S2:=Hq (show PtS (w1.alloc (.cells #[.pointer none,.slice none 0 0] 99)) (w1.alloc (.cells #[.pointer none,.slice none 0 0] 99)) w1.heap.size w1.heap.size w.heap.size _ [] from ⟨Zf BX.out (Ga w1 _ none) (by simp),Ytp w1,Zhr _ _ _,Ym LW.out (Za G1.out (Ga w1 _ none))⟩)
   have G2:=Hq (Za G1.out (Ga w1 (.cells #[.pointer none,.slice none 0 0] 99) none))
   have B2:=Hq (show w1.heap.size<=(w1.alloc (.cells #[.pointer none,.slice none 0 0] 99)).heap.size by rw [World.size_alloc];omega)
   generalize w1.alloc (.cells #[.pointer none,.slice none 0 0] 99)=w2 at S2 G2 B2 ⊢
   clear CK BX
   obtain ⟨b,hb⟩:∃ x,w1.heap.size=x:=⟨_,rfl⟩
   rw [hb] at S2 B2 hxw ⊢
   clear hb G1
   obtain ⟨bx,hbx⟩:∃ x,w.heap.size=x:=⟨_,rfl⟩
   have HBX:=Hq hbx
   rw [hbx] at S2 hxw h8 hD ⊢
   clear hbx
   have h8b:=Hq (show 8<=b by have:=hxw.out;omega)
   have y0:=Cq w2 bx 0 _ _ _ S2.out.box
   have lx:=(Gs S2.out.box)
   have IT:=Hq (Zce mem (by omega) (by omega) w2 S2.out.lib)
   have WM:=Hq (fun W h hBW=>Yhf b b [] mem m0 m1 W h (by simp) hBW)
   by_cases hd0:d=[]
   · subst hd0
     rw [Zpy] at ST
     simp only [List.length_nil] at S2 ⊢
     go_wp2_with (first
      | (go_at_call 39;refine IT.out.mono ?_;rintro e w3 ⟨rfl,hg3⟩;have G3:=Hq hg3;clear hg3 IT)
      | (go_at_call 38;refine (WM.out _ (Zcw S2.out.bld G3.out) (Nat.le_trans B2.out G3.out.size)).mono ?_;rintro e w4 ⟨rfl,hb4,hf4⟩;have S4:=Hq (Zeq (Zgu S2.out G3.out B2.out h8b.out hxw.out) hf4 hb4 h8b.out hxw.out);have y1:=Cq w4 bx 1 _ _ _ S4.out.box;have y2:=Cq w4 bx 2 _ _ _ S4.out.box;have lx4:=(Gs S4.out.box);clear hb4 hf4 WM))
     have S6:=Hq (show PtS w2 w4 b b bx _ (Zlb mem) from S4.out)
     clear S4 y0 lx y1 y2 lx4 hd6
     obtain ⟨td,htd⟩:∃ x,Zlb mem=x:=⟨_,rfl⟩
     have HT:=Hq (show Zgn mem []=td by rw [Zpy];exact htd)
     rw [htd] at S6 ST
     clear htd
     go_loopw [32] (fun i wr=>∃ k:Nat,i = .int .i64 k/\k<=fs.length/\(td++Zdn fs k).length<=300000/\PtS w2 wr b b bx #[.int .i64 mem,.slice pd 0 cd,.slice pF fs.length cF] (td++Zdn fs k)) (fun i _=>fs.length - (intOf i).toNat)
     case atStart=>exact ⟨0,rfl,Nat.zero_le _,by simpa [Zdn] using ST.out,by simpa [Zdn] using S6.out⟩
     case round =>
      obtain ⟨k,rfl,hk,hlk,hS⟩:=hrel
      have S:=Hq hS
      have LK:=Hq hlk
      clear hS hlk
      by_cases hlt:k<fs.length
      · obtain ⟨⟨fa,fl,fr,c⟩,hx⟩:∃ x,fs[k]? = some x:=⟨_,List.getElem?_eq_getElem hlt⟩
        have FO:=Hq (FK.out _ (List.mem_of_getElem? hx))
        have II:=Hq (HI.out _ (List.mem_of_getElem? hx))
        have HX:=Hq hx
        obtain ⟨fb,fo,rfl,hfb,hfc⟩:=HF.out (by omega)
        obtain ⟨h0,h1,h2,pc,cc,h3,h4⟩:=hfc k fa fl fr c hx
        have hfB:fb<b:=by have:=hxw.out;omega
        have x0:=Xo S.out.fr hfB (G2.out.cell h0 (by simp))
        have x1:=Xo S.out.fr hfB (G2.out.cell h1 (by simp))
        have x2:=Xo S.out.fr hfB (G2.out.cell h2 (by simp))
        have x3:=Xo S.out.fr hfB (G2.out.cell h3 (by simp))
        have lf:fb<wr.heap.size:=Nat.lt_of_lt_of_le hfB (Zhz S.out B2.out)
        have CB:=Hq (Zbi h4 G2.out (by simp))
        clear h0 h1 h2 h3 h4 hfc hx
        go_upto_region 11 with fail
        have hBr:=Zhz S.out B2.out
        have S7:=Hq (Zgu S.out (Ga wr (.cells #[.int .i64 fa,.int .i64 fl,.int .i64 fr,.slice pc c.length cc] 61) none) hBr h8b.out hxw.out)
        have BQ:=Hq (heap_alloc_new wr (.cells #[.int .i64 fa,.int .i64 fl,.int .i64 fr,.slice pc c.length cc] 61))
        have B7:=Hq (show b<=(wr.alloc (.cells #[.int .i64 fa,.int .i64 fl,.int .i64 fr,.slice pc c.length cc] 61)).heap.size by rw [World.size_alloc];omega)
        have HQ:=Hq (show wr.heap.size≠b by have:=(Zvs S.out.bld).2;omega)
        generalize wr.alloc (.cells #[.int .i64 fa,.int .i64 fl,.int .i64 fr,.slice pc c.length cc] 61)=w7 at S7 BQ B7 ⊢
        obtain ⟨q,hq⟩:∃ x,wr.heap.size=x:=⟨_,rfl⟩
        rw [hq] at BQ HQ ⊢
        clear hq x0 x1 x2 x3 lf hBr
        have ja:=FO.out.a
        have jl:=FO.out.l
        have jr:=FO.out.r
        simp only at ja jl jr
        have za:=Lib.itoa_length_le fa (by omega) (by omega)
        have zl:=Lib.itoa_length_le fl (by omega) (by omega)
        have zr:=Lib.itoa_length_le fr (by omega) (by omega)
        have zk:=Lib.itoa_length_le k (by omega) (by omega)
        have IK:=Hq (fun W (hW:LibW W)=>Zce k (by omega) (by omega) W hW)
        have IA:=Hq (fun W (hW:LibW W)=>Zce fa (by omega) (by omega) W hW)
        have IL:=Hq (fun W (hW:LibW W)=>Zce fl (by omega) (by omega) W hW)
        have IR:=Hq (fun W (hW:LibW W)=>Zce fr (by omega) (by omega) W hW)
        have HW:=Hq (fun W h hBW=>Zrc b b (td++Zdn fs k) k fa fl fr c (by omega) FO.out W h (by have:=LK.out;omega) hBW)
        have u1:¬ 9223372036854775807<6+(bs (Lib.itoa k)).size:=by rw [Zl];omega
        have u2:¬ 9223372036854775807<6+(bs (Lib.itoa k)).size+1:=by rw [Zl];omega
        have u3:¬ 9223372036854775807<6+(bs (Lib.itoa k)).size+1+(bs (Lib.itoa fa)).size:=by rw [Zl,Zl];omega
        have u4:¬ 9223372036854775807<6+(bs (Lib.itoa k)).size+1+(bs (Lib.itoa fa)).size+1:=by rw [Zl,Zl];omega
        have u5:¬ 9223372036854775807<6+(bs (Lib.itoa k)).size+1+(bs (Lib.itoa fa)).size+1+(bs (Lib.itoa fl)).size:=by rw [Zl,Zl,Zl];omega
        have u6:¬ 9223372036854775807<6+(bs (Lib.itoa k)).size+1+(bs (Lib.itoa fa)).size+1+(bs (Lib.itoa fl)).size+1:=by rw [Zl,Zl,Zl];omega
        have u7:¬ 9223372036854775807<6+(bs (Lib.itoa k)).size+1+(bs (Lib.itoa fa)).size+1+(bs (Lib.itoa fl)).size+1+(bs (Lib.itoa fr)).size:=by rw [Zl,Zl,Zl,Zl];omega
        have u8:¬ 9223372036854775807<6+(bs (Lib.itoa k)).size+1+(bs (Lib.itoa fa)).size+1+(bs (Lib.itoa fl)).size+1+(bs (Lib.itoa fr)).size+1:=by rw [Zl,Zl,Zl,Zl];omega
        (try rename_i K11 hK11)
        refine Yd (n:=20) (J:=fun a0 l a1 w1=>RJ a0 66 20 Ydz (Xm b q k fa fl fr ((Jy k (fa,fl,fr,c)).length:Int) (bs (Lib.itoa k)) (bs (Lib.itoa fa)) (bs (Lib.itoa fl)) (bs (Lib.itoa fr)) (td++Zdn fs k++Jy k (fa,fl,fr,c)) ) l a1/\Zas 20 20 19 [(1,0),(2,1),(3,2),(5,4),(6,5),(7,3),(7,6),(8,7),(10,9),(11,10),(12,8),(12,11),(13,12),(15,14),(16,15),(17,13),(17,16),(18,17),(19,18)] [] (fun w9=>BFr b b w7.drew w9) (fun w9=>World.grownBy w7.drew w9 none) (Yuv b q k fa fl fr ((Jy k (fa,fl,fr,c)).length:Int) (bs (Lib.itoa k)) (bs (Lib.itoa fa)) (bs (Lib.itoa fl)) (bs (Lib.itoa fr)) (td++Zdn fs k++Jy k (fa,fl,fr,c)) ) (fun _=>True) l w1) (by kernel_rfl) rfl (Yt (by kernel_rfl)) (fun l a1 w1 h=>by obtain ⟨h,_⟩:=h;exact h.sz) ⟨Yc rfl,Zu (Zhr _ _ _) (Zb _ _)⟩ ?step ?fin
        case step =>
         intro l a1 w' i hJJ hi hin
         obtain ⟨hJ,hW⟩:=hJJ
         have hun:l.getD i false=false:=getD_both (mem_ready.1 hi).1
         have hns:=Xe hW hin hun
         have hg:=hW.g hns
         have BQ':=Zcs (w:=w7.drew) hg BQ.out (by decide) HQ.out
         have lq:=(Array.getElem?_eq_some_iff.1 BQ').1
         rcases Zav i hin with rfl|rfl|rfl|rfl|rfl|rfl|rfl|rfl|rfl|rfl|rfl|rfl|rfl|rfl|rfl|rfl|rfl|rfl|rfl|rfl
         · have e6:a1.tmps.getD 6 undef = .int .i64 (k:Int):=hJ.un 6 (fun i hi _=>Zcu 6 (by decide) i hi)
           exact Zd hJ hW hi hun (hne:=Yk _ (by decide)) (hrun:=by simp [execOp,Act.eval,e6,lq,u1,u2,u3,u4,u5,u6,u7,u8,go_sem,Xm])
         · have e37:a1.tmps.getD 37 undef = .int .i64 (k:Int):=rjt hJ hi 0
           refine Ya rfl (by rfl) (by simp [execOp,resolve,invoke,Act.eval,e37,go_sem]) (Calls.mono (IK.out w' (Zcg hg h8b.out (Ym S7.out.lib (Ze (Zb w7 none))))) (fun e w2 he => ?_))
           obtain ⟨rfl,hg2⟩:=he
           refine ⟨_,rfl,?_,Zo hW (by decide) hun (by decide) (Zg _ hi (by kernel_rfl)) (Yn hg (Xk hg2 (Nat.le_trans B7.out hg.below.size))) (fun hne0 hun0 hB0=>Za hB0 hg2) (fun j hj hne hl hcu hF => ?_) (True.intro)⟩
           · exact Yg (val:=Xm b q k fa fl fr ((Jy k (fa,fl,fr,c)).length:Int) (bs (Lib.itoa k)) (bs (Lib.itoa fa)) (bs (Lib.itoa fl)) (bs (Lib.itoa fr)) (td++Zdn fs k++Jy k (fa,fl,fr,c)) ) (Yj hJ (Ygi hW.cl hun)) (by decide) (by decide) (Yk _ (by decide))
           · rcases Zav j hj with rfl|rfl|rfl|rfl|rfl|rfl|rfl|rfl|rfl|rfl|rfl|rfl|rfl|rfl|rfl|rfl|rfl|rfl|rfl|rfl <;> first|exact True.intro|exact absurd rfl hne|exact hF|exact Zk (hW.cl (2,1) (by decide) (hW.cl (3,2) (by decide) (hW.cl (7,3) (by decide) (hW.cl (8,7) (by decide) (hW.cl (12,8) (by decide) (hW.cl (13,12) (by decide) (hW.cl (17,13) (by decide) (hW.cl (18,17) (by decide) (hW.cl (19,18) (by decide) (hl)))))))))) hun
         · have e38:a1.tmps.getD 38 undef = .string (bs (Lib.itoa k)):=rjt hJ hi 1
           exact Zd hJ hW hi hun (hne:=Yk _ (by decide)) (hrun:=by simp [execOp,Act.eval,e38,lq,u1,u2,u3,u4,u5,u6,u7,u8,go_sem,Xm])
         · have e39:a1.tmps.getD 39 undef = .string (⟨#[102,117,110,99,32,102]⟩++(bs (Lib.itoa k))):=rjt hJ hi 2
           exact Zd hJ hW hi hun (hne:=Yk _ (by decide)) (hrun:=by simp [execOp,Act.eval,e39,lq,u1,u2,u3,u4,u5,u6,u7,u8,go_sem,Xm])
         · have e7:a1.tmps.getD 7 undef = .pointer (some ⟨q,0,none⟩):=hJ.un 7 (fun i hi _=>Zcu 7 (by decide) i hi)
           exact Zd hJ hW hi hun (hne:=Yk _ (by decide)) (hrun:=by simp [execOp,Act.eval,e7,lq,u1,u2,u3,u4,u5,u6,u7,u8,go_sem,Xm])
         · have e41:a1.tmps.getD 41 undef = .pointer (some ⟨q,0,none⟩):=rjt hJ hi 4
           have h0:=Cq _ _ 0 _ _ _ BQ'
           exact Zd hJ hW hi hun (hne:=Yk _ (by decide)) (hrun:=by simp [execOp,Act.eval,e41,h0,lq,u1,u2,u3,u4,u5,u6,u7,u8,go_sem,Xm])
         · have e42:a1.tmps.getD 42 undef = .int .i64 fa:=rjt hJ hi 5
           refine Ya rfl (by rfl) (by simp [execOp,resolve,invoke,Act.eval,e42,go_sem]) (Calls.mono (IA.out w' (Zcg hg h8b.out (Ym S7.out.lib (Ze (Zb w7 none))))) (fun e w2 he => ?_))
           obtain ⟨rfl,hg2⟩:=he
           refine ⟨_,rfl,?_,Zo hW (by decide) hun (by decide) (Zg _ hi (by kernel_rfl)) (Yn hg (Xk hg2 (Nat.le_trans B7.out hg.below.size))) (fun hne0 hun0 hB0=>Za hB0 hg2) (fun j hj hne hl hcu hF => ?_) (True.intro)⟩
           · exact Yg (val:=Xm b q k fa fl fr ((Jy k (fa,fl,fr,c)).length:Int) (bs (Lib.itoa k)) (bs (Lib.itoa fa)) (bs (Lib.itoa fl)) (bs (Lib.itoa fr)) (td++Zdn fs k++Jy k (fa,fl,fr,c)) ) (Yj hJ (Ygh hW.cl hun)) (by decide) (by decide) (Yk _ (by decide))
           · rcases Zav j hj with rfl|rfl|rfl|rfl|rfl|rfl|rfl|rfl|rfl|rfl|rfl|rfl|rfl|rfl|rfl|rfl|rfl|rfl|rfl|rfl <;> first|exact True.intro|exact hF|exact absurd rfl hne|exact Zk (hW.cl (7,6) (by decide) (hW.cl (8,7) (by decide) (hW.cl (12,8) (by decide) (hW.cl (13,12) (by decide) (hW.cl (17,13) (by decide) (hW.cl (18,17) (by decide) (hW.cl (19,18) (by decide) (hl)))))))) hun
         · have e40:a1.tmps.getD 40 undef = .string (⟨#[102,117,110,99,32,102]⟩++(bs (Lib.itoa k))++⟨#[32]⟩):=rjt hJ hi 3
           have e43:a1.tmps.getD 43 undef = .string (bs (Lib.itoa fa)):=rjt hJ hi 6
           exact Zd hJ hW hi hun (hne:=Yk _ (by decide)) (hrun:=by simp [execOp,Act.eval,e40,e43,lq,u1,u2,u3,u4,u5,u6,u7,u8,go_sem,Xm])
         · have e44:a1.tmps.getD 44 undef = .string (⟨#[102,117,110,99,32,102]⟩++(bs (Lib.itoa k))++⟨#[32]⟩++(bs (Lib.itoa fa))):=rjt hJ hi 7
           exact Zd hJ hW hi hun (hne:=Yk _ (by decide)) (hrun:=by simp [execOp,Act.eval,e44,lq,u1,u2,u3,u4,u5,u6,u7,u8,go_sem,Xm])
         · have e7:a1.tmps.getD 7 undef = .pointer (some ⟨q,0,none⟩):=hJ.un 7 (fun i hi _=>Zcu 7 (by decide) i hi)
           exact Zd hJ hW hi hun (hne:=Yk _ (by decide)) (hrun:=by simp [execOp,Act.eval,e7,lq,u1,u2,u3,u4,u5,u6,u7,u8,go_sem,Xm])
         · have e46:a1.tmps.getD 46 undef = .pointer (some ⟨q,1,none⟩):=rjt hJ hi 9
           have h0:=Cq _ _ 1 _ _ _ BQ'
           exact Zd hJ hW hi hun (hne:=Yk _ (by decide)) (hrun:=by simp [execOp,Act.eval,e46,h0,lq,u1,u2,u3,u4,u5,u6,u7,u8,go_sem,Xm])
         · have e47:a1.tmps.getD 47 undef = .int .i64 fl:=rjt hJ hi 10
           refine Ya rfl (by rfl) (by simp [execOp,resolve,invoke,Act.eval,e47,go_sem]) (Calls.mono (IL.out w' (Zcg hg h8b.out (Ym S7.out.lib (Ze (Zb w7 none))))) (fun e w2 he => ?_))
           obtain ⟨rfl,hg2⟩:=he
           refine ⟨_,rfl,?_,Zo hW (by decide) hun (by decide) (Zg _ hi (by kernel_rfl)) (Yn hg (Xk hg2 (Nat.le_trans B7.out hg.below.size))) (fun hne0 hun0 hB0=>Za hB0 hg2) (fun j hj hne hl hcu hF => ?_) (True.intro)⟩
           · exact Yg (val:=Xm b q k fa fl fr ((Jy k (fa,fl,fr,c)).length:Int) (bs (Lib.itoa k)) (bs (Lib.itoa fa)) (bs (Lib.itoa fl)) (bs (Lib.itoa fr)) (td++Zdn fs k++Jy k (fa,fl,fr,c)) ) (Yj hJ (Zzo hW.cl hun)) (by decide) (by decide) (Yk _ (by decide))
           · rcases Zav j hj with rfl|rfl|rfl|rfl|rfl|rfl|rfl|rfl|rfl|rfl|rfl|rfl|rfl|rfl|rfl|rfl|rfl|rfl|rfl|rfl <;> first|exact True.intro|exact hF|exact absurd rfl hne|exact Zk (hW.cl (12,11) (by decide) (hW.cl (13,12) (by decide) (hW.cl (17,13) (by decide) (hW.cl (18,17) (by decide) (hW.cl (19,18) (by decide) (hl)))))) hun
         · have e45:a1.tmps.getD 45 undef = .string (⟨#[102,117,110,99,32,102]⟩++(bs (Lib.itoa k))++⟨#[32]⟩++(bs (Lib.itoa fa))++⟨#[32]⟩):=rjt hJ hi 8
           have e48:a1.tmps.getD 48 undef = .string (bs (Lib.itoa fl)):=rjt hJ hi 11
           exact Zd hJ hW hi hun (hne:=Yk _ (by decide)) (hrun:=by simp [execOp,Act.eval,e45,e48,lq,u1,u2,u3,u4,u5,u6,u7,u8,go_sem,Xm])
         · have e49:a1.tmps.getD 49 undef = .string (⟨#[102,117,110,99,32,102]⟩++(bs (Lib.itoa k))++⟨#[32]⟩++(bs (Lib.itoa fa))++⟨#[32]⟩++(bs (Lib.itoa fl))):=rjt hJ hi 12
           exact Zd hJ hW hi hun (hne:=Yk _ (by decide)) (hrun:=by simp [execOp,Act.eval,e49,lq,u1,u2,u3,u4,u5,u6,u7,u8,go_sem,Xm])
         · have e7:a1.tmps.getD 7 undef = .pointer (some ⟨q,0,none⟩):=hJ.un 7 (fun i hi _=>Zcu 7 (by decide) i hi)
           exact Zd hJ hW hi hun (hne:=Yk _ (by decide)) (hrun:=by simp [execOp,Act.eval,e7,lq,u1,u2,u3,u4,u5,u6,u7,u8,go_sem,Xm])
         · have e51:a1.tmps.getD 51 undef = .pointer (some ⟨q,2,none⟩):=rjt hJ hi 14
           have h0:=Cq _ _ 2 _ _ _ BQ'
           exact Zd hJ hW hi hun (hne:=Yk _ (by decide)) (hrun:=by simp [execOp,Act.eval,e51,h0,lq,u1,u2,u3,u4,u5,u6,u7,u8,go_sem,Xm])
         · have e52:a1.tmps.getD 52 undef = .int .i64 fr:=rjt hJ hi 15
           refine Ya rfl (by rfl) (by simp [execOp,resolve,invoke,Act.eval,e52,go_sem]) (Calls.mono (IR.out w' (Zcg hg h8b.out (Ym S7.out.lib (Ze (Zb w7 none))))) (fun e w2 he => ?_))
           obtain ⟨rfl,hg2⟩:=he
           refine ⟨_,rfl,?_,Zo hW (by decide) hun (by decide) (Zg _ hi (by kernel_rfl)) (Yn hg (Xk hg2 (Nat.le_trans B7.out hg.below.size))) (fun hne0 hun0 hB0=>Za hB0 hg2) (fun j hj hne hl hcu hF => ?_) (True.intro)⟩
           · exact Yg (val:=Xm b q k fa fl fr ((Jy k (fa,fl,fr,c)).length:Int) (bs (Lib.itoa k)) (bs (Lib.itoa fa)) (bs (Lib.itoa fl)) (bs (Lib.itoa fr)) (td++Zdn fs k++Jy k (fa,fl,fr,c)) ) (Yj hJ (Zzn hW.cl hun)) (by decide) (by decide) (Yk _ (by decide))
           · rcases Zav j hj with rfl|rfl|rfl|rfl|rfl|rfl|rfl|rfl|rfl|rfl|rfl|rfl|rfl|rfl|rfl|rfl|rfl|rfl|rfl|rfl <;> first|exact True.intro|exact hF|exact absurd rfl hne|exact Zk (hW.cl (17,16) (by decide) (hW.cl (18,17) (by decide) (hW.cl (19,18) (by decide) (hl)))) hun
         · have e50:a1.tmps.getD 50 undef = .string (⟨#[102,117,110,99,32,102]⟩++(bs (Lib.itoa k))++⟨#[32]⟩++(bs (Lib.itoa fa))++⟨#[32]⟩++(bs (Lib.itoa fl))++⟨#[32]⟩):=rjt hJ hi 13
           have e53:a1.tmps.getD 53 undef = .string (bs (Lib.itoa fr)):=rjt hJ hi 16
           exact Zd hJ hW hi hun (hne:=Yk _ (by decide)) (hrun:=by simp [execOp,Act.eval,e50,e53,lq,u1,u2,u3,u4,u5,u6,u7,u8,go_sem,Xm])
         · have e54:a1.tmps.getD 54 undef = .string (⟨#[102,117,110,99,32,102]⟩++(bs (Lib.itoa k))++⟨#[32]⟩++(bs (Lib.itoa fa))++⟨#[32]⟩++(bs (Lib.itoa fl))++⟨#[32]⟩++(bs (Lib.itoa fr))):=rjt hJ hi 17
           exact Zd hJ hW hi hun (hne:=Yk _ (by decide)) (hrun:=by simp [execOp,Act.eval,e54,lq,u1,u2,u3,u4,u5,u6,u7,u8,go_sem,Xm])
         · have e5:a1.tmps.getD 5 undef = .pointer (some ⟨b,0,none⟩):=hJ.un 5 (fun i hi _=>Zcu 5 (by decide) i hi)
           have e55:a1.tmps.getD 55 undef = .string (⟨#[102,117,110,99,32,102]⟩++bs (Lib.itoa k)++⟨#[32]⟩++bs (Lib.itoa fa)++⟨#[32]⟩++bs (Lib.itoa fl)++⟨#[32]⟩++bs (Lib.itoa fr)++⟨#[10]⟩):=rjt hJ hi 18
           have own:=hW.u hun
           refine Ya rfl (by rfl) (by simp [execOp,resolve,invoke,Act.eval,e5,e55,go_sem]) (Calls.mono (HW.out w' (Zcw S7.out.bld (Za (Ze (Zb w7 none)) own)) (Nat.le_trans B7.out hg.below.size)) (fun e w2 he => ?_))
           obtain ⟨rfl,hb2,hf2⟩:=he
           refine ⟨_,rfl,?_,Zo hW (by decide) hun (by decide) (Zg _ hi (by kernel_rfl)) (Yn hg hf2) (fun hne0 hun0 hB0=>absurd rfl hne0) (fun j hj hne hl hcu hF => ?_) (hb2)⟩
           · exact Yg (val:=Xm b q k fa fl fr ((Jy k (fa,fl,fr,c)).length:Int) (bs (Lib.itoa k)) (bs (Lib.itoa fa)) (bs (Lib.itoa fl)) (bs (Lib.itoa fr)) (td++Zdn fs k++Jy k (fa,fl,fr,c)) ) (Yj hJ (Zzm hW.cl hun)) (by decide) (by decide) (Yk _ (by decide))
           · rcases Zav j hj with rfl|rfl|rfl|rfl|rfl|rfl|rfl|rfl|rfl|rfl|rfl|rfl|rfl|rfl|rfl|rfl|rfl|rfl|rfl|rfl <;> first|exact True.intro|exact hF|exact absurd rfl hne
        case fin =>
         intro l9 a1 w9 hJJ hl9
         obtain ⟨hJ,hW9⟩:=hJJ
         have hg9:=hW9.g (Ju hW9)
         have F19:=hW9.f (Ju hW9) 19 (by decide) (hl9 19 (by decide)) (Zat (by decide))
         have hput:=Ys hJ rfl hl9 (fun i j h1 h2 h3=>Yk j h2 i h1 h3)
         subst hput
         clear hJ hW9 hl9
         (try refine hK11 _ _ ?_)
         simp only [Ja,Ydz,Xm,Act.put,List.setIfInBounds_toArray,List.set_cons_zero,List.set_cons_succ]
         have F7:=Hq (show BFr b b w7 w9 from Yn (Xk (Ze (Zb w7 none)) B7.out) hg9)
         have S9:=Hq (Zeq S7.out F7.out F19 h8b.out hxw.out)
         have BQ9:=Zcs F7.out BQ.out (by decide) HQ.out
         clear hg9 F19
         have y0:=Cq w9 bx 0 _ _ _ S9.out.box
         have y1:=Cq w9 bx 1 _ _ _ S9.out.box
         have y2:=Cq w9 bx 2 _ _ _ S9.out.box
         have lx9:=(Gs S9.out.box)
         have d0:=Cq w9 q 0 _ _ _ BQ9
         have d1:=Cq w9 q 1 _ _ _ BQ9
         have d2:=Cq w9 q 2 _ _ _ BQ9
         have d3:=Cq w9 q 3 _ _ _ BQ9
         have lq9:=(Gs BQ9)
         clear BQ9
         have hl1:(td++Zdn fs k++Jy k (fa,fl,fr,c)).length<=400000:=by have h1:=LK.out;have h2:=Zok (k:=k) (by omega) FO.out;rw [List.length_append];omega
         have CD:=Hq (Yax mem fa fl fr pd (some ⟨fb,fo,none⟩) pc 0 cd fs.length cF cc c b b D (td++Zdn fs k++Jy k (fa,fl,fr,c)) w9 S9.out.lib S9.out.bld (Zhz S9.out B2.out) h8b.out (by have:=hxw.out;omega) (Ybg S9.out.fr (by have:=hxw.out;omega) CB.out) FO.out.e II.out FO.out.c.2 (by omega))
         have NL:=Hq (show td++Zdn fs k++Jy k (fa,fl,fr,c)++Zby fs.length c (c.length+1)=td++Zdn fs (k+1) by rw [Zvc HX.out,List.append_assoc,List.append_assoc];rfl)
         rw [NL.out] at CD
         clear hl1
         obtain ⟨tl,htl⟩:∃ x,td++Zdn fs (k+1)=x:=⟨_,rfl⟩
         rw [htl] at CD
         have HTL:=Hq htl
         have PP:=Hq (show tl.length<=(Zky (mem,[],fs)).length by have:=Zql mem [] fs (k:=k+1) (by omega);rw [HT.out,htl] at this;exact this)
         clear htl NL
         by_cases hbig:65536<tl.length
         · have hbi:65536<(tl.length:Int):=by omega
           have PE:=Hq (PL.out (Nat.lt_of_lt_of_le hbig PP.out))
           clear hbig
           go_wp2_with (first
            | (go_at_call 41;refine CD.out.mono ?_;rintro e w10 ⟨rfl,hb10,hf10⟩;have S10:=Hq (Zeq S9.out hf10 hb10 h8b.out hxw.out);clear hb10 hf10)
            | (go_at_call 42;refine (Zhh b b _ _ S10.out.bld).mono ?_;rintro e w11 ⟨rfl,rfl⟩))
           go_ret2
           rw [PE.out]
           exact ⟨rfl,Zjx G2.out S10.out.fr (by have:=HBX.out;have:=hxw.out;omega)⟩
         · have hbi:¬ 65536<(tl.length:Int):=by omega
           go_wp2_with (first
            | (go_at_call 41;refine CD.out.mono ?_;rintro e w10 ⟨rfl,hb10,hf10⟩;have S10:=Hq (Zeq S9.out hf10 hb10 h8b.out hxw.out);clear hb10 hf10)
            | (go_at_call 42;refine (Zhh b b _ _ S10.out.bld).mono ?_;rintro e w11 ⟨rfl,rfl⟩))
           exact ⟨⟨k+1,by go_num,by omega,by rw [HTL.out];omega,by rw [HTL.out];exact S10.out⟩,by simp [intOf];omega⟩
      · have hkn:k=fs.length:=by omega
        subst hkn
        clear hlt
        have PT:=Hq (show Zky (mem,[],fs)=td++Zdn fs fs.length by rw [<- HT.out];rfl)
        have S10':=S.out
        obtain ⟨tl,htl⟩:∃ x,td++Zdn fs fs.length=x:=⟨_,rfl⟩
        rw [htl] at S10' PT
        have S10:=Hq S10'
        clear S10' htl S
        by_cases hbig:65536<tl.length
        · have hbi:65536<(tl.length:Int):=by omega
          have PE:=Hq (PL.out (by rw [PT.out];exact hbig))
          clear hbig
          go_wp2_with (go_at_call 42;refine (Zhh b b _ _ S10.out.bld).mono ?_;rintro e w11 ⟨rfl,rfl⟩)
          go_ret2
          rw [PE.out]
          exact ⟨rfl,Zjx G2.out S10.out.fr (by have:=HBX.out;have:=hxw.out;omega)⟩
        · have hbi:¬ 65536<(tl.length:Int):=by omega
          have PE:=Hq (PO.out (by rw [PT.out];exact hbig))
          clear hbig
          go_wp2_with (first
           | (go_at_call 42;refine (Zhh b b _ _ S10.out.bld).mono ?_;rintro e w11 ⟨rfl,rfl⟩)
           | (go_at_call 43;refine (Zrm b b _ _ S10.out.bld (Zhz S10.out B2.out)).mono ?_;rintro e w12 ⟨rfl,hbel⟩;have BB:=Hq hbel;clear hbel))
          go_ret2
          rw [PE.out,PT.out]
          exact ⟨rfl,Zom G2.out (Zhi S10.out.fr.below BB.out) (by have:=HBX.out;have:=hxw.out;omega)⟩
   · have WD:=Hq (fun W h hBW=>Yiw b b (Zlb mem) d hd6 W h (by unfold Zlb;have:=Lib.itoa_length_le mem (by omega) (by omega);simp only [List.length_append,List.length_cons,List.length_nil];omega) hBW)
     have hdi:0<(d.length:Int):=by
      cases d with
      | nil=>exact absurd rfl hd0
      | cons a r=>simp only [List.length_cons];omega
     rw [Znk mem hd0] at ST
     go_wp2_with (first
      | (go_at_call 39;refine IT.out.mono ?_;rintro e w3 ⟨rfl,hg3⟩;have G3:=Hq hg3;clear hg3 IT)
      | (go_at_call 38;refine (WM.out _ (Zcw S2.out.bld G3.out) (Nat.le_trans B2.out G3.out.size)).mono ?_;rintro e w4 ⟨rfl,hb4,hf4⟩;have S4:=Hq (Zeq (Zgu S2.out G3.out B2.out h8b.out hxw.out) hf4 hb4 h8b.out hxw.out);have y1:=Cq w4 bx 1 _ _ _ S4.out.box;have lx4:=(Gs S4.out.box);clear hb4 hf4 WM)
      | (go_at_call 40;refine (Ygd d pd cd _ (Ydp HD.out G2.out S4.out.fr (by have:=HBX.out;have:=hxw.out;omega)) (by omega)).mono ?_;rintro e w5 ⟨rfl,hg5⟩;have S5:=Hq (Zgu S4.out hg5 (Zhz S4.out B2.out) h8b.out hxw.out);clear hg5)
      | (go_at_call 38;refine (WD.out _ S5.out.bld (Zhz S5.out B2.out)).mono ?_;rintro e w6 ⟨rfl,hb6,hf6⟩;have S6:=Hq (Zeq S5.out hf6 hb6 h8b.out hxw.out);have y2:=Cq w6 bx 2 _ _ _ S6.out.box;have lx6:=(Gs S6.out.box);clear hb6 hf6 WD))
     clear S4 S5 y0 lx y1 y2 lx4 lx6 hd6 hdi
     obtain ⟨td,htd⟩:∃ x,Zlb mem++Zyh d=x:=⟨_,rfl⟩
     have HT:=Hq (show Zgn mem d=td by rw [Znk mem hd0];exact htd)
     have S6':=S6.out
     clear S6
     rw [htd] at S6' ST
     have S6:=Hq S6'
     clear S6' htd hd0
     go_loopw [32] (fun i wr=>∃ k:Nat,i = .int .i64 k/\k<=fs.length/\(td++Zdn fs k).length<=300000/\PtS w2 wr b b bx #[.int .i64 mem,.slice pd d.length cd,.slice pF fs.length cF] (td++Zdn fs k)) (fun i _=>fs.length - (intOf i).toNat)
     case atStart=>exact ⟨0,rfl,Nat.zero_le _,by simpa [Zdn] using ST.out,by simpa [Zdn] using S6.out⟩
     case round =>
      obtain ⟨k,rfl,hk,hlk,hS⟩:=hrel
      have S:=Hq hS
      have LK:=Hq hlk
      clear hS hlk
      by_cases hlt:k<fs.length
      · obtain ⟨⟨fa,fl,fr,c⟩,hx⟩:∃ x,fs[k]? = some x:=⟨_,List.getElem?_eq_getElem hlt⟩
        have FO:=Hq (FK.out _ (List.mem_of_getElem? hx))
        have II:=Hq (HI.out _ (List.mem_of_getElem? hx))
        have HX:=Hq hx
        obtain ⟨fb,fo,rfl,hfb,hfc⟩:=HF.out (by omega)
        obtain ⟨h0,h1,h2,pc,cc,h3,h4⟩:=hfc k fa fl fr c hx
        have hfB:fb<b:=by have:=hxw.out;omega
        have x0:=Xo S.out.fr hfB (G2.out.cell h0 (by simp))
        have x1:=Xo S.out.fr hfB (G2.out.cell h1 (by simp))
        have x2:=Xo S.out.fr hfB (G2.out.cell h2 (by simp))
        have x3:=Xo S.out.fr hfB (G2.out.cell h3 (by simp))
        have lf:fb<wr.heap.size:=Nat.lt_of_lt_of_le hfB (Zhz S.out B2.out)
        have CB:=Hq (Zbi h4 G2.out (by simp))
        clear h0 h1 h2 h3 h4 hfc hx
        go_upto_region 11 with fail
        have hBr:=Zhz S.out B2.out
        have S7:=Hq (Zgu S.out (Ga wr (.cells #[.int .i64 fa,.int .i64 fl,.int .i64 fr,.slice pc c.length cc] 61) none) hBr h8b.out hxw.out)
        have BQ:=Hq (heap_alloc_new wr (.cells #[.int .i64 fa,.int .i64 fl,.int .i64 fr,.slice pc c.length cc] 61))
        have B7:=Hq (show b<=(wr.alloc (.cells #[.int .i64 fa,.int .i64 fl,.int .i64 fr,.slice pc c.length cc] 61)).heap.size by rw [World.size_alloc];omega)
        have HQ:=Hq (show wr.heap.size≠b by have:=(Zvs S.out.bld).2;omega)
        generalize wr.alloc (.cells #[.int .i64 fa,.int .i64 fl,.int .i64 fr,.slice pc c.length cc] 61)=w7 at S7 BQ B7 ⊢
        obtain ⟨q,hq⟩:∃ x,wr.heap.size=x:=⟨_,rfl⟩
        rw [hq] at BQ HQ ⊢
        clear hq x0 x1 x2 x3 lf hBr
        have ja:=FO.out.a
        have jl:=FO.out.l
        have jr:=FO.out.r
        simp only at ja jl jr
        have za:=Lib.itoa_length_le fa (by omega) (by omega)
        have zl:=Lib.itoa_length_le fl (by omega) (by omega)
        have zr:=Lib.itoa_length_le fr (by omega) (by omega)
        have zk:=Lib.itoa_length_le k (by omega) (by omega)
        have IK:=Hq (fun W (hW:LibW W)=>Zce k (by omega) (by omega) W hW)
        have IA:=Hq (fun W (hW:LibW W)=>Zce fa (by omega) (by omega) W hW)
        have IL:=Hq (fun W (hW:LibW W)=>Zce fl (by omega) (by omega) W hW)
        have IR:=Hq (fun W (hW:LibW W)=>Zce fr (by omega) (by omega) W hW)
        have HW:=Hq (fun W h hBW=>Zrc b b (td++Zdn fs k) k fa fl fr c (by omega) FO.out W h (by have:=LK.out;omega) hBW)
        have u1:¬ 9223372036854775807<6+(bs (Lib.itoa k)).size:=by rw [Zl];omega
        have u2:¬ 9223372036854775807<6+(bs (Lib.itoa k)).size+1:=by rw [Zl];omega
        have u3:¬ 9223372036854775807<6+(bs (Lib.itoa k)).size+1+(bs (Lib.itoa fa)).size:=by rw [Zl,Zl];omega
        have u4:¬ 9223372036854775807<6+(bs (Lib.itoa k)).size+1+(bs (Lib.itoa fa)).size+1:=by rw [Zl,Zl];omega
        have u5:¬ 9223372036854775807<6+(bs (Lib.itoa k)).size+1+(bs (Lib.itoa fa)).size+1+(bs (Lib.itoa fl)).size:=by rw [Zl,Zl,Zl];omega
        have u6:¬ 9223372036854775807<6+(bs (Lib.itoa k)).size+1+(bs (Lib.itoa fa)).size+1+(bs (Lib.itoa fl)).size+1:=by rw [Zl,Zl,Zl];omega
        have u7:¬ 9223372036854775807<6+(bs (Lib.itoa k)).size+1+(bs (Lib.itoa fa)).size+1+(bs (Lib.itoa fl)).size+1+(bs (Lib.itoa fr)).size:=by rw [Zl,Zl,Zl,Zl];omega
        have u8:¬ 9223372036854775807<6+(bs (Lib.itoa k)).size+1+(bs (Lib.itoa fa)).size+1+(bs (Lib.itoa fl)).size+1+(bs (Lib.itoa fr)).size+1:=by rw [Zl,Zl,Zl,Zl];omega
        (try rename_i K11 hK11)
        refine Yd (n:=20) (J:=fun a0 l a1 w1=>RJ a0 66 20 Ydz (Xm b q k fa fl fr ((Jy k (fa,fl,fr,c)).length:Int) (bs (Lib.itoa k)) (bs (Lib.itoa fa)) (bs (Lib.itoa fl)) (bs (Lib.itoa fr)) (td++Zdn fs k++Jy k (fa,fl,fr,c)) ) l a1/\Zas 20 20 19 [(1,0),(2,1),(3,2),(5,4),(6,5),(7,3),(7,6),(8,7),(10,9),(11,10),(12,8),(12,11),(13,12),(15,14),(16,15),(17,13),(17,16),(18,17),(19,18)] [] (fun w9=>BFr b b w7.drew w9) (fun w9=>World.grownBy w7.drew w9 none) (Yuv b q k fa fl fr ((Jy k (fa,fl,fr,c)).length:Int) (bs (Lib.itoa k)) (bs (Lib.itoa fa)) (bs (Lib.itoa fl)) (bs (Lib.itoa fr)) (td++Zdn fs k++Jy k (fa,fl,fr,c)) ) (fun _=>True) l w1) (by kernel_rfl) rfl (Yt (by kernel_rfl)) (fun l a1 w1 h=>by obtain ⟨h,_⟩:=h;exact h.sz) ⟨Yc rfl,Zu (Zhr _ _ _) (Zb _ _)⟩ ?step ?fin
        case step =>
         intro l a1 w' i hJJ hi hin
         obtain ⟨hJ,hW⟩:=hJJ
         have hun:l.getD i false=false:=getD_both (mem_ready.1 hi).1
         have hns:=Xe hW hin hun
         have hg:=hW.g hns
         have BQ':=Zcs (w:=w7.drew) hg BQ.out (by decide) HQ.out
         have lq:=(Array.getElem?_eq_some_iff.1 BQ').1
         rcases Zav i hin with rfl|rfl|rfl|rfl|rfl|rfl|rfl|rfl|rfl|rfl|rfl|rfl|rfl|rfl|rfl|rfl|rfl|rfl|rfl|rfl
         · have e6:a1.tmps.getD 6 undef = .int .i64 (k:Int):=hJ.un 6 (fun i hi _=>Zcu 6 (by decide) i hi)
           exact Zd hJ hW hi hun (hne:=Yk _ (by decide)) (hrun:=by simp [execOp,Act.eval,e6,lq,u1,u2,u3,u4,u5,u6,u7,u8,go_sem,Xm])
         · have e37:a1.tmps.getD 37 undef = .int .i64 (k:Int):=rjt hJ hi 0
           refine Ya rfl (by rfl) (by simp [execOp,resolve,invoke,Act.eval,e37,go_sem]) (Calls.mono (IK.out w' (Zcg hg h8b.out (Ym S7.out.lib (Ze (Zb w7 none))))) (fun e w2 he => ?_))
           obtain ⟨rfl,hg2⟩:=he
           refine ⟨_,rfl,?_,Zo hW (by decide) hun (by decide) (Zg _ hi (by kernel_rfl)) (Yn hg (Xk hg2 (Nat.le_trans B7.out hg.below.size))) (fun hne0 hun0 hB0=>Za hB0 hg2) (fun j hj hne hl hcu hF => ?_) (True.intro)⟩
           · exact Yg (val:=Xm b q k fa fl fr ((Jy k (fa,fl,fr,c)).length:Int) (bs (Lib.itoa k)) (bs (Lib.itoa fa)) (bs (Lib.itoa fl)) (bs (Lib.itoa fr)) (td++Zdn fs k++Jy k (fa,fl,fr,c)) ) (Yj hJ (Ygi hW.cl hun)) (by decide) (by decide) (Yk _ (by decide))
           · rcases Zav j hj with rfl|rfl|rfl|rfl|rfl|rfl|rfl|rfl|rfl|rfl|rfl|rfl|rfl|rfl|rfl|rfl|rfl|rfl|rfl|rfl <;> first|exact True.intro|exact absurd rfl hne|exact hF|exact Zk (hW.cl (2,1) (by decide) (hW.cl (3,2) (by decide) (hW.cl (7,3) (by decide) (hW.cl (8,7) (by decide) (hW.cl (12,8) (by decide) (hW.cl (13,12) (by decide) (hW.cl (17,13) (by decide) (hW.cl (18,17) (by decide) (hW.cl (19,18) (by decide) (hl)))))))))) hun
         · have e38:a1.tmps.getD 38 undef = .string (bs (Lib.itoa k)):=rjt hJ hi 1
           exact Zd hJ hW hi hun (hne:=Yk _ (by decide)) (hrun:=by simp [execOp,Act.eval,e38,lq,u1,u2,u3,u4,u5,u6,u7,u8,go_sem,Xm])
         · have e39:a1.tmps.getD 39 undef = .string (⟨#[102,117,110,99,32,102]⟩++(bs (Lib.itoa k))):=rjt hJ hi 2
           exact Zd hJ hW hi hun (hne:=Yk _ (by decide)) (hrun:=by simp [execOp,Act.eval,e39,lq,u1,u2,u3,u4,u5,u6,u7,u8,go_sem,Xm])
         · have e7:a1.tmps.getD 7 undef = .pointer (some ⟨q,0,none⟩):=hJ.un 7 (fun i hi _=>Zcu 7 (by decide) i hi)
           exact Zd hJ hW hi hun (hne:=Yk _ (by decide)) (hrun:=by simp [execOp,Act.eval,e7,lq,u1,u2,u3,u4,u5,u6,u7,u8,go_sem,Xm])
         · have e41:a1.tmps.getD 41 undef = .pointer (some ⟨q,0,none⟩):=rjt hJ hi 4
           have h0:=Cq _ _ 0 _ _ _ BQ'
           exact Zd hJ hW hi hun (hne:=Yk _ (by decide)) (hrun:=by simp [execOp,Act.eval,e41,h0,lq,u1,u2,u3,u4,u5,u6,u7,u8,go_sem,Xm])
         · have e42:a1.tmps.getD 42 undef = .int .i64 fa:=rjt hJ hi 5
           refine Ya rfl (by rfl) (by simp [execOp,resolve,invoke,Act.eval,e42,go_sem]) (Calls.mono (IA.out w' (Zcg hg h8b.out (Ym S7.out.lib (Ze (Zb w7 none))))) (fun e w2 he => ?_))
           obtain ⟨rfl,hg2⟩:=he
           refine ⟨_,rfl,?_,Zo hW (by decide) hun (by decide) (Zg _ hi (by kernel_rfl)) (Yn hg (Xk hg2 (Nat.le_trans B7.out hg.below.size))) (fun hne0 hun0 hB0=>Za hB0 hg2) (fun j hj hne hl hcu hF => ?_) (True.intro)⟩
           · exact Yg (val:=Xm b q k fa fl fr ((Jy k (fa,fl,fr,c)).length:Int) (bs (Lib.itoa k)) (bs (Lib.itoa fa)) (bs (Lib.itoa fl)) (bs (Lib.itoa fr)) (td++Zdn fs k++Jy k (fa,fl,fr,c)) ) (Yj hJ (Ygh hW.cl hun)) (by decide) (by decide) (Yk _ (by decide))
           · rcases Zav j hj with rfl|rfl|rfl|rfl|rfl|rfl|rfl|rfl|rfl|rfl|rfl|rfl|rfl|rfl|rfl|rfl|rfl|rfl|rfl|rfl <;> first|exact True.intro|exact hF|exact absurd rfl hne|exact Zk (hW.cl (7,6) (by decide) (hW.cl (8,7) (by decide) (hW.cl (12,8) (by decide) (hW.cl (13,12) (by decide) (hW.cl (17,13) (by decide) (hW.cl (18,17) (by decide) (hW.cl (19,18) (by decide) (hl)))))))) hun
         · have e40:a1.tmps.getD 40 undef = .string (⟨#[102,117,110,99,32,102]⟩++(bs (Lib.itoa k))++⟨#[32]⟩):=rjt hJ hi 3
           have e43:a1.tmps.getD 43 undef = .string (bs (Lib.itoa fa)):=rjt hJ hi 6
           exact Zd hJ hW hi hun (hne:=Yk _ (by decide)) (hrun:=by simp [execOp,Act.eval,e40,e43,lq,u1,u2,u3,u4,u5,u6,u7,u8,go_sem,Xm])
         · have e44:a1.tmps.getD 44 undef = .string (⟨#[102,117,110,99,32,102]⟩++(bs (Lib.itoa k))++⟨#[32]⟩++(bs (Lib.itoa fa))):=rjt hJ hi 7
           exact Zd hJ hW hi hun (hne:=Yk _ (by decide)) (hrun:=by simp [execOp,Act.eval,e44,lq,u1,u2,u3,u4,u5,u6,u7,u8,go_sem,Xm])
         · have e7:a1.tmps.getD 7 undef = .pointer (some ⟨q,0,none⟩):=hJ.un 7 (fun i hi _=>Zcu 7 (by decide) i hi)
           exact Zd hJ hW hi hun (hne:=Yk _ (by decide)) (hrun:=by simp [execOp,Act.eval,e7,lq,u1,u2,u3,u4,u5,u6,u7,u8,go_sem,Xm])
         · have e46:a1.tmps.getD 46 undef = .pointer (some ⟨q,1,none⟩):=rjt hJ hi 9
           have h0:=Cq _ _ 1 _ _ _ BQ'
           exact Zd hJ hW hi hun (hne:=Yk _ (by decide)) (hrun:=by simp [execOp,Act.eval,e46,h0,lq,u1,u2,u3,u4,u5,u6,u7,u8,go_sem,Xm])
         · have e47:a1.tmps.getD 47 undef = .int .i64 fl:=rjt hJ hi 10
           refine Ya rfl (by rfl) (by simp [execOp,resolve,invoke,Act.eval,e47,go_sem]) (Calls.mono (IL.out w' (Zcg hg h8b.out (Ym S7.out.lib (Ze (Zb w7 none))))) (fun e w2 he => ?_))
           obtain ⟨rfl,hg2⟩:=he
           refine ⟨_,rfl,?_,Zo hW (by decide) hun (by decide) (Zg _ hi (by kernel_rfl)) (Yn hg (Xk hg2 (Nat.le_trans B7.out hg.below.size))) (fun hne0 hun0 hB0=>Za hB0 hg2) (fun j hj hne hl hcu hF => ?_) (True.intro)⟩
           · exact Yg (val:=Xm b q k fa fl fr ((Jy k (fa,fl,fr,c)).length:Int) (bs (Lib.itoa k)) (bs (Lib.itoa fa)) (bs (Lib.itoa fl)) (bs (Lib.itoa fr)) (td++Zdn fs k++Jy k (fa,fl,fr,c)) ) (Yj hJ (Zzo hW.cl hun)) (by decide) (by decide) (Yk _ (by decide))
           · rcases Zav j hj with rfl|rfl|rfl|rfl|rfl|rfl|rfl|rfl|rfl|rfl|rfl|rfl|rfl|rfl|rfl|rfl|rfl|rfl|rfl|rfl <;> first|exact True.intro|exact hF|exact absurd rfl hne|exact Zk (hW.cl (12,11) (by decide) (hW.cl (13,12) (by decide) (hW.cl (17,13) (by decide) (hW.cl (18,17) (by decide) (hW.cl (19,18) (by decide) (hl)))))) hun
         · have e45:a1.tmps.getD 45 undef = .string (⟨#[102,117,110,99,32,102]⟩++(bs (Lib.itoa k))++⟨#[32]⟩++(bs (Lib.itoa fa))++⟨#[32]⟩):=rjt hJ hi 8
           have e48:a1.tmps.getD 48 undef = .string (bs (Lib.itoa fl)):=rjt hJ hi 11
           exact Zd hJ hW hi hun (hne:=Yk _ (by decide)) (hrun:=by simp [execOp,Act.eval,e45,e48,lq,u1,u2,u3,u4,u5,u6,u7,u8,go_sem,Xm])
         · have e49:a1.tmps.getD 49 undef = .string (⟨#[102,117,110,99,32,102]⟩++(bs (Lib.itoa k))++⟨#[32]⟩++(bs (Lib.itoa fa))++⟨#[32]⟩++(bs (Lib.itoa fl))):=rjt hJ hi 12
           exact Zd hJ hW hi hun (hne:=Yk _ (by decide)) (hrun:=by simp [execOp,Act.eval,e49,lq,u1,u2,u3,u4,u5,u6,u7,u8,go_sem,Xm])
         · have e7:a1.tmps.getD 7 undef = .pointer (some ⟨q,0,none⟩):=hJ.un 7 (fun i hi _=>Zcu 7 (by decide) i hi)
           exact Zd hJ hW hi hun (hne:=Yk _ (by decide)) (hrun:=by simp [execOp,Act.eval,e7,lq,u1,u2,u3,u4,u5,u6,u7,u8,go_sem,Xm])
         · have e51:a1.tmps.getD 51 undef = .pointer (some ⟨q,2,none⟩):=rjt hJ hi 14
           have h0:=Cq _ _ 2 _ _ _ BQ'
           exact Zd hJ hW hi hun (hne:=Yk _ (by decide)) (hrun:=by simp [execOp,Act.eval,e51,h0,lq,u1,u2,u3,u4,u5,u6,u7,u8,go_sem,Xm])
         · have e52:a1.tmps.getD 52 undef = .int .i64 fr:=rjt hJ hi 15
           refine Ya rfl (by rfl) (by simp [execOp,resolve,invoke,Act.eval,e52,go_sem]) (Calls.mono (IR.out w' (Zcg hg h8b.out (Ym S7.out.lib (Ze (Zb w7 none))))) (fun e w2 he => ?_))
           obtain ⟨rfl,hg2⟩:=he
           refine ⟨_,rfl,?_,Zo hW (by decide) hun (by decide) (Zg _ hi (by kernel_rfl)) (Yn hg (Xk hg2 (Nat.le_trans B7.out hg.below.size))) (fun hne0 hun0 hB0=>Za hB0 hg2) (fun j hj hne hl hcu hF => ?_) (True.intro)⟩
           · exact Yg (val:=Xm b q k fa fl fr ((Jy k (fa,fl,fr,c)).length:Int) (bs (Lib.itoa k)) (bs (Lib.itoa fa)) (bs (Lib.itoa fl)) (bs (Lib.itoa fr)) (td++Zdn fs k++Jy k (fa,fl,fr,c)) ) (Yj hJ (Zzn hW.cl hun)) (by decide) (by decide) (Yk _ (by decide))
           · rcases Zav j hj with rfl|rfl|rfl|rfl|rfl|rfl|rfl|rfl|rfl|rfl|rfl|rfl|rfl|rfl|rfl|rfl|rfl|rfl|rfl|rfl <;> first|exact True.intro|exact hF|exact absurd rfl hne|exact Zk (hW.cl (17,16) (by decide) (hW.cl (18,17) (by decide) (hW.cl (19,18) (by decide) (hl)))) hun
         · have e50:a1.tmps.getD 50 undef = .string (⟨#[102,117,110,99,32,102]⟩++(bs (Lib.itoa k))++⟨#[32]⟩++(bs (Lib.itoa fa))++⟨#[32]⟩++(bs (Lib.itoa fl))++⟨#[32]⟩):=rjt hJ hi 13
           have e53:a1.tmps.getD 53 undef = .string (bs (Lib.itoa fr)):=rjt hJ hi 16
           exact Zd hJ hW hi hun (hne:=Yk _ (by decide)) (hrun:=by simp [execOp,Act.eval,e50,e53,lq,u1,u2,u3,u4,u5,u6,u7,u8,go_sem,Xm])
         · have e54:a1.tmps.getD 54 undef = .string (⟨#[102,117,110,99,32,102]⟩++(bs (Lib.itoa k))++⟨#[32]⟩++(bs (Lib.itoa fa))++⟨#[32]⟩++(bs (Lib.itoa fl))++⟨#[32]⟩++(bs (Lib.itoa fr))):=rjt hJ hi 17
           exact Zd hJ hW hi hun (hne:=Yk _ (by decide)) (hrun:=by simp [execOp,Act.eval,e54,lq,u1,u2,u3,u4,u5,u6,u7,u8,go_sem,Xm])
         · have e5:a1.tmps.getD 5 undef = .pointer (some ⟨b,0,none⟩):=hJ.un 5 (fun i hi _=>Zcu 5 (by decide) i hi)
           have e55:a1.tmps.getD 55 undef = .string (⟨#[102,117,110,99,32,102]⟩++bs (Lib.itoa k)++⟨#[32]⟩++bs (Lib.itoa fa)++⟨#[32]⟩++bs (Lib.itoa fl)++⟨#[32]⟩++bs (Lib.itoa fr)++⟨#[10]⟩):=rjt hJ hi 18
           have own:=hW.u hun
           refine Ya rfl (by rfl) (by simp [execOp,resolve,invoke,Act.eval,e5,e55,go_sem]) (Calls.mono (HW.out w' (Zcw S7.out.bld (Za (Ze (Zb w7 none)) own)) (Nat.le_trans B7.out hg.below.size)) (fun e w2 he => ?_))
           obtain ⟨rfl,hb2,hf2⟩:=he
           refine ⟨_,rfl,?_,Zo hW (by decide) hun (by decide) (Zg _ hi (by kernel_rfl)) (Yn hg hf2) (fun hne0 hun0 hB0=>absurd rfl hne0) (fun j hj hne hl hcu hF => ?_) (hb2)⟩
           · exact Yg (val:=Xm b q k fa fl fr ((Jy k (fa,fl,fr,c)).length:Int) (bs (Lib.itoa k)) (bs (Lib.itoa fa)) (bs (Lib.itoa fl)) (bs (Lib.itoa fr)) (td++Zdn fs k++Jy k (fa,fl,fr,c)) ) (Yj hJ (Zzm hW.cl hun)) (by decide) (by decide) (Yk _ (by decide))
           · rcases Zav j hj with rfl|rfl|rfl|rfl|rfl|rfl|rfl|rfl|rfl|rfl|rfl|rfl|rfl|rfl|rfl|rfl|rfl|rfl|rfl|rfl <;> first|exact True.intro|exact hF|exact absurd rfl hne
        case fin =>
         intro l9 a1 w9 hJJ hl9
         obtain ⟨hJ,hW9⟩:=hJJ
         have hg9:=hW9.g (Ju hW9)
         have F19:=hW9.f (Ju hW9) 19 (by decide) (hl9 19 (by decide)) (Zat (by decide))
         have hput:=Ys hJ rfl hl9 (fun i j h1 h2 h3=>Yk j h2 i h1 h3)
         subst hput
         clear hJ hW9 hl9
         (try refine hK11 _ _ ?_)
         simp only [Ja,Ydz,Xm,Act.put,List.setIfInBounds_toArray,List.set_cons_zero,List.set_cons_succ]
         have F7:=Hq (show BFr b b w7 w9 from Yn (Xk (Ze (Zb w7 none)) B7.out) hg9)
         have S9:=Hq (Zeq S7.out F7.out F19 h8b.out hxw.out)
         have BQ9:=Zcs F7.out BQ.out (by decide) HQ.out
         clear hg9 F19
         have y0:=Cq w9 bx 0 _ _ _ S9.out.box
         have y1:=Cq w9 bx 1 _ _ _ S9.out.box
         have y2:=Cq w9 bx 2 _ _ _ S9.out.box
         have lx9:=(Gs S9.out.box)
         have d0:=Cq w9 q 0 _ _ _ BQ9
         have d1:=Cq w9 q 1 _ _ _ BQ9
         have d2:=Cq w9 q 2 _ _ _ BQ9
         have d3:=Cq w9 q 3 _ _ _ BQ9
         have lq9:=(Gs BQ9)
         clear BQ9
         have hl1:(td++Zdn fs k++Jy k (fa,fl,fr,c)).length<=400000:=by have h1:=LK.out;have h2:=Zok (k:=k) (by omega) FO.out;rw [List.length_append];omega
         have CD:=Hq (Yax mem fa fl fr pd (some ⟨fb,fo,none⟩) pc d.length cd fs.length cF cc c b b D (td++Zdn fs k++Jy k (fa,fl,fr,c)) w9 S9.out.lib S9.out.bld (Zhz S9.out B2.out) h8b.out (by have:=hxw.out;omega) (Ybg S9.out.fr (by have:=hxw.out;omega) CB.out) FO.out.e II.out FO.out.c.2 (by omega))
         have NL:=Hq (show td++Zdn fs k++Jy k (fa,fl,fr,c)++Zby fs.length c (c.length+1)=td++Zdn fs (k+1) by rw [Zvc HX.out,List.append_assoc,List.append_assoc];rfl)
         rw [NL.out] at CD
         clear hl1
         obtain ⟨tl,htl⟩:∃ x,td++Zdn fs (k+1)=x:=⟨_,rfl⟩
         rw [htl] at CD
         have HTL:=Hq htl
         have PP:=Hq (show tl.length<=(Zky (mem,d,fs)).length by have:=Zql mem d fs (k:=k+1) (by omega);rw [HT.out,htl] at this;exact this)
         clear htl NL
         by_cases hbig:65536<tl.length
         · have hbi:65536<(tl.length:Int):=by omega
           have PE:=Hq (PL.out (Nat.lt_of_lt_of_le hbig PP.out))
           clear hbig
           go_wp2_with (first
            | (go_at_call 41;refine CD.out.mono ?_;rintro e w10 ⟨rfl,hb10,hf10⟩;have S10:=Hq (Zeq S9.out hf10 hb10 h8b.out hxw.out);clear hb10 hf10)
            | (go_at_call 42;refine (Zhh b b _ _ S10.out.bld).mono ?_;rintro e w11 ⟨rfl,rfl⟩))
           go_ret2
           rw [PE.out]
           exact ⟨rfl,Zjx G2.out S10.out.fr (by have:=HBX.out;have:=hxw.out;omega)⟩
         · have hbi:¬ 65536<(tl.length:Int):=by omega
           go_wp2_with (first
            | (go_at_call 41;refine CD.out.mono ?_;rintro e w10 ⟨rfl,hb10,hf10⟩;have S10:=Hq (Zeq S9.out hf10 hb10 h8b.out hxw.out);clear hb10 hf10)
            | (go_at_call 42;refine (Zhh b b _ _ S10.out.bld).mono ?_;rintro e w11 ⟨rfl,rfl⟩))
           exact ⟨⟨k+1,by go_num,by omega,by rw [HTL.out];omega,by rw [HTL.out];exact S10.out⟩,by simp [intOf];omega⟩
      · have hkn:k=fs.length:=by omega
        subst hkn
        clear hlt
        have PT:=Hq (show Zky (mem,d,fs)=td++Zdn fs fs.length by rw [<- HT.out];rfl)
        have S10':=S.out
        obtain ⟨tl,htl⟩:∃ x,td++Zdn fs fs.length=x:=⟨_,rfl⟩
        rw [htl] at S10' PT
        have S10:=Hq S10'
        clear S10' htl S
        by_cases hbig:65536<tl.length
        · have hbi:65536<(tl.length:Int):=by omega
          have PE:=Hq (PL.out (by rw [PT.out];exact hbig))
          clear hbig
          go_wp2_with (go_at_call 42;refine (Zhh b b _ _ S10.out.bld).mono ?_;rintro e w11 ⟨rfl,rfl⟩)
          go_ret2
          rw [PE.out]
          exact ⟨rfl,Zjx G2.out S10.out.fr (by have:=HBX.out;have:=hxw.out;omega)⟩
        · have hbi:¬ 65536<(tl.length:Int):=by omega
          have PE:=Hq (PO.out (by rw [PT.out];exact hbig))
          clear hbig
          go_wp2_with (first
           | (go_at_call 42;refine (Zhh b b _ _ S10.out.bld).mono ?_;rintro e w11 ⟨rfl,rfl⟩)
           | (go_at_call 43;refine (Zrm b b _ _ S10.out.bld (Zhz S10.out B2.out)).mono ?_;rintro e w12 ⟨rfl,hbel⟩;have BB:=Hq hbel;clear hbel))
          go_ret2
          rw [PE.out,PT.out]
          exact ⟨rfl,Zom G2.out (Zhi S10.out.fr.below BB.out) (by have:=HBX.out;have:=hxw.out;omega)⟩
 · have PB:=Hq (Yrn (mem:=mem) (d:=d) (fs:=fs) he)
   obtain ⟨ev,hev⟩:∃ x,Jl mem d.length fs=x:=⟨_,rfl⟩
   rw [hev] at PB CK he
   have hne:(ev != 0)=true:=by rw [bne_iff_ne];exact he
   clear hev he
   go_enter Tryz.func18,Tryz.ntmps18
   go_wp2_with (go_at_call 30;refine CK.out.mono ?_;rintro e w1 ⟨rfl,hg1⟩;have G1:=Hq (Za (Ga w (.cells #[.int .i64 mem,.slice pd d.length cd,.slice pF fs.length cF] 26) none) hg1);clear hg1)
   go_ret2
   rw [PB.out]
   exact ⟨rfl,G1.out⟩
def TT:Tab:=⟨fun t=>(Xb shapeT t).map fun n=>(n:Int),fun n=>Zir n.toNat,fun t=>(Xb callT t).map fun n=>(n:Int)⟩
structure Rel (c:CS) (s:St):Prop where
 mem:c.mem=s.mem
 ms:c.ms=s.memSet
 data:c.data=s.data
 funcs:c.funcs=s.funcs
 names:∀ u,c.fm u=(s.names.findIdx? (· == u)).map fun n=>(n:Int)
 nlen:s.names.length=s.funcs.length
 llen:c.lm.length=s.funcs.length
 slen:s.labels.length=s.funcs.length
 lm:∀ (k:Nat) (f:Txt->Option Int),c.lm[k]? = some f->∀ u,f u=((s.labels.getD k []).find? fun x=>x.1 == u).map fun x=>(x.2:Int)
 blk:c.blk=s.wants.map fun w=>⟨w.line,w.fn,w.pl,w.word,!w.jump⟩
theorem Yfv:Rel C0 St0:=⟨rfl,rfl,rfl,rfl,fun u=>rfl,rfl,rfl,rfl,fun k f h=>by simp [C0] at h,rfl⟩
def Zes (c:CS) (x:Option Int):List Txt->CS × Option Int
 | []=>(c,x)
 | t::r=>Zes (Zlf c x t).1 (Zlf c x t).2 r
theorem Ycy (c:CS) (x:Option Int) (t:Txt):(Zlf c x t).1.funcs=c.funcs:=by
 unfold Zlf
 simp only []
 split <;> rfl
theorem Zwq (line:Int):∀ (n:Nat) (ps:List Pc) (c:CS) (x:Option Int) (lab:Bool),ps.length<=n->c.funcs.length≠0 ->
 Zht line c x lab ps=Zer line (Zes c x (Yb ps).1).1 (Zes c x (Yb ps).1).2 (lab || !(Yb ps).1.isEmpty) (Yb ps).2:=by
 intro n
 induction n with
 | zero =>
   intro ps c x lab hn hf
   have:ps=[]:=List.eq_nil_of_length_eq_zero (by omega)
   subst this
   rw [Zam _ _ _ _ _ (by intro t r e;cases e)]
   simp [Yb,Zes]
 | succ n ih =>
   intro ps c x lab hn hf
   by_cases hp:∃ t r,ps = .word t :: .colon::r
   · obtain ⟨t,r,rfl⟩:=hp
     rw [Zfn,if_neg hf,ih r _ _ true (by simp only [List.length_cons] at hn;omega) (by rw [Ycy];exact hf)]
     simp [Yb,Zes]
   · rw [Zam _ _ _ _ _ (fun t r e=>hp ⟨t,r,e⟩)]
     have:Yb ps=([],ps):=by
      unfold Yb
      split
      · exact absurd ⟨_,_,rfl⟩ hp
      · rfl
     rw [this]
     simp [Zes]
theorem Yio (l:List (Txt × Nat)) (t:Txt) (a:Nat) (u:Txt) (h:(l.any fun x=>x.1 == t)=false) :
 ((l++[(t,a)]).find? fun x=>x.1 == u)=if u=t then some (t,a) else l.find? fun x=>x.1 == u:=by
 rw [List.find?_append]
 by_cases e:u=t
 · subst e
   rw [if_pos rfl]
   have:l.find? (fun x=>x.1 == u)=none:=by
    rw [List.find?_eq_none]
    intro x hx hxu
    rw [List.any_eq_false] at h
    exact h x hx hxu
   rw [this]
   simp
 · rw [if_neg e]
   have:([(t,a)]:List (Txt × Nat)).find? (fun x=>x.1 == u)=none:=by
    simp [List.find?,beq_eq_false_iff_ne.2 (Ne.symm e)]
   rw [this]
   simp
theorem Ybh (l:List (Txt × Nat)) (t:Txt):(l.any fun x=>x.1 == t)=(l.find? fun x=>x.1 == t).isSome:=by
 induction l with
 | nil=>rfl
 | cons a r ih =>
   rw [List.any_cons,List.find?_cons]
   cases h:a.1 == t
   · simpa using ih
   · simp
theorem Yag:∀ (lb:List Txt) (c:CS),(Zes c (some 142) lb).2=some 142
 | [],c=>rfl
 | t::r,c=>by
   rw [Zes]
   have:(Zlf c (some 142) t).2=some 142:=by
    unfold Zlf
    simp only []
    split <;> rfl
   rw [this]
   exact Yag r _
theorem Ypd {c:CS} {s:St} {k:Nat} (h:Rel c s) (hk:s.funcs.length=k+1):∃ f,c.lm[k]? = some f/\c.lm.getD k (fun _=>none)=f/\c.funcs.length - 1=k/\∀ u,f u=((s.labels.getD k []).find? fun x=>x.1 == u).map fun x=>(x.2:Int):=by
 have hl:k<c.lm.length:=by rw [h.llen];omega
 refine ⟨c.lm[k],List.getElem?_eq_getElem hl,by rw [List.getD_eq_getElem?_getD,List.getElem?_eq_getElem hl];rfl,by rw [h.funcs];omega,h.lm k _ (List.getElem?_eq_getElem hl)⟩
theorem Zxb {c:CS} {s:St} {k:Nat} (h:Rel c s) (hk:s.funcs.length=k+1) (x:Option Int) (t:Txt) (ha:((s.labels.getD k []).any fun x=>x.1 == t)=true):Zlf c x t=(c,amV x 142):=by
 obtain ⟨f,h1,h2,h3,h4⟩:=Ypd h hk
 unfold Zlf
 simp only [h3,h2]
 rw [if_pos]
 rw [h4 t,Option.isSome_map,<- Ybh]
 exact ha
theorem Zoq {α:Type} (l:List α) (k:Nat) (v d:α) (h:k<l.length):(l.set k v).getD k d=v:=by
 rw [List.getD_eq_getElem?_getD,List.getElem?_set_self h];rfl
theorem Zye {α:Type} (l:List α) (j k:Nat) (v d:α) (h:j≠k):(l.set k v).getD j d=l.getD j d:=by
 rw [List.getD_eq_getElem?_getD,List.getElem?_set_ne (Ne.symm h),<- List.getD_eq_getElem?_getD]
theorem Zxa {c:CS} {s:St} {k:Nat} (h:Rel c s) (hk:s.funcs.length=k+1) (x:Option Int) (t:Txt) (ha:((s.labels.getD k []).any fun x=>x.1 == t)=false) :
 (Zlf c x t).2=x/\Rel (Zlf c x t).1 { s with labels:=s.labels.set k (s.labels.getD k []++[(t,(s.funcs.getD k (0,0,0,[])).2.2.2.length)]) }:=by
 obtain ⟨f,h1,h2,h3,h4⟩:=Ypd h hk
 have hno:(f t).isSome=false:=by rw [h4 t,Option.isSome_map,<- Ybh];exact ha
 have e:Zlf c x t=({ c with lm:=c.lm.set k fun u=>if u=t then some ((c.funcs.getD k (0,0,0,[])).2.2.2.length:Int) else f u },x):=by
  unfold Zlf
  simp only [h3,h2,hno]
  rfl
 rw [e]
 refine ⟨rfl,h.mem,h.ms,h.data,h.funcs,h.names,h.nlen,by simp only [List.length_set];exact h.llen,by simp only [List.length_set];exact h.slen,fun j g hj u => ?_,h.blk⟩
 have hsl:k<s.labels.length:=by rw [h.slen];omega
 have hcl:k<c.lm.length:=(List.getElem?_eq_some_iff.1 h1).1
 by_cases ej:j=k
 · subst ej
   rw [List.getElem?_set_self hcl] at hj
   injection hj with hj
   subst hj
   simp only []
   rw [Zoq _ _ _ _ hsl,Yio _ _ _ _ ha]
   split
   · rw [h.funcs];rfl
   · exact h4 u
 · rw [List.getElem?_set_ne (Ne.symm ej)] at hj
   rw [Zye _ _ _ _ _ ej]
   exact h.lm j g hj u
theorem Yku {α:Type} (l:List α) (k:Nat) (d:α) (h:k<l.length):l.set k (l.getD k d)=l:=by
 rw [List.getD_eq_getElem?_getD,List.getElem?_eq_getElem h]
 simp
theorem Zzk {k:Nat}:∀ (lb:List Txt) (c:CS) (s:St),Rel c s->s.funcs.length=k+1 ->
 (match Zae (s.funcs.getD k (0,0,0,[])).2.2.2.length (s.labels.getD k []) lb with
   | none=>(Zes c none lb).2=some 142
   | some m=>(Zes c none lb).2=none/\Rel (Zes c none lb).1 { s with labels:=s.labels.set k m })
 | [],c,s,h,hk=>by
   have hsl:k<s.labels.length:=by rw [h.slen];omega
   simp only [Zae,Zes]
   rw [Yku _ _ _ hsl]
   exact ⟨trivial,h⟩
 | t::r,c,s,h,hk=>by
   have hsl:k<s.labels.length:=by rw [h.slen];omega
   rw [Zae]
   cases ha:(s.labels.getD k []).any fun x=>x.1 == t with
   | true =>
     simp only [if_true,Zes]
     rw [Zxb h hk none t ha]
     exact Yag r c
   | false =>
     obtain ⟨e1,h1⟩:=Zxa h hk none t ha
     have ih:=Zzk r _ _ h1 hk
     simp only [Zes,e1]
     simp only [Zoq _ _ _ _ hsl,List.set_set] at ih
     simpa using ih
theorem Yaa (t:Txt):TT.named t=(Xb shapeT t).map fun n=>(n:Int):=rfl
theorem Ypb (t:Txt):TT.sys t=(Xb callT t).map fun n=>(n:Int):=rfl
theorem Zuq {s:St} {k:Nat} (hk:s.funcs.length=k+1):Xr s=s.funcs.getD k (0,0,0,[]):=by
 unfold Xr
 rw [List.getD_eq_getElem?_getD,List.getLastD_eq_getLast?,List.getLast?_eq_getElem?,hk]
 rfl
theorem Yfw {c:CS} {s:St} {k:Nat} (h:Rel c s) (hk:s.funcs.length=k+1) (i:Int × Int):Rel (Zjq c i) { s with funcs:=Jr s i }:=by
 have hc:c.funcs.length - 1=k:=by rw [h.funcs];omega
 refine ⟨h.mem,h.ms,h.data,?_,h.names,?_,?_,?_,h.lm,h.blk⟩
 · show c.funcs.set _ _=Jr s i
   unfold Jr
   rw [Zuq hk,hk,Nat.add_sub_cancel]
   simp only [hc]
   rw [h.funcs]
 · show s.names.length=(Jr s i).length
   unfold Jr;rw [List.length_set];exact h.nlen
 · show c.lm.length=(Jr s i).length
   unfold Jr;rw [List.length_set];exact h.llen
 · show s.labels.length=(Jr s i).length
   unfold Jr;rw [List.length_set];exact h.slen
theorem Yrf {c:CS} {s:St} {k:Nat} (h:Rel c s) (hk:s.funcs.length=k+1) (line:Nat) (t:Txt) (j:Bool):Rel (Ybd c line t (!j)) { s with wants:=s.wants++[⟨k,(s.funcs.getD k (0,0,0,[])).2.2.2.length,line,t,j⟩] }:=by
 have hc:c.funcs.length - 1=k:=by rw [h.funcs];omega
 refine ⟨h.mem,h.ms,h.data,h.funcs,h.names,h.nlen,h.llen,h.slen,h.lm,?_⟩
 unfold Ybd
 simp only [hc,List.map_append,List.map_cons,List.map_nil]
 rw [h.blk,h.funcs]
def Ywk (s:St) (k line:Nat) (n a:Int) (w:Option Txt):St :=
 { s with wants:=(match w with|none=>s.wants|some t=>s.wants++[⟨k,(s.funcs.getD k (0,0,0,[])).2.2.2.length,line,t,TT.kind n == 3⟩]),funcs:=Jr s (n,a) }
theorem Zxc {c:CS} {s:St} {k:Nat} (h:Rel c s) (hk:s.funcs.length=k+1) (line n:Nat) (a:Int):Rel (Zjq c (n,a)) (Ywk s k line n a none):=Yfw h hk _
theorem Yli {c:CS} {s:St} {k:Nat} (h:Rel c s) (hk:s.funcs.length=k+1) (line n:Nat) (t:Txt) (kd:Int) (hkd:Zir n=kd) (h34:kd=3\/kd=4):Rel (Zjq (Ybd c line t (kd == 4)) (n,0)) (Ywk s k line n 0 (some t)):=by
 have e:(kd == 4) = !(kd == 3):=by rcases h34 with e|e <;> subst e <;> rfl
 have e2:(TT.kind (n:Int) == 3)=(kd == 3):=by show (Zir (n:Int).toNat == 3)=_;rw [Int.toNat_natCast,hkd]
 rw [e]
 have h1:=Yfw (Yrf h hk line t (kd == 3)) hk ((n:Int),0)
 unfold Ywk
 simp only [e2]
 exact h1
theorem Yal {c:CS} {s:St} {k:Nat} (h:Rel c s) (hk:s.funcs.length=k+1) (line:Nat) (x:Option Int) (lb:List Txt) (q:Pc) (rest:List Pc) :
 (match Zfu TT lb (q::rest) with
   | none=>Zli line c x (q::rest)=none
   | some y=>∃ n a w c',y = .code lb (some (n,a,w))/\Zli line c x (q::rest)=some (c',if Ziz (q::rest)=true then amV x 143 else x)/\Rel c' (Ywk s k line n a w)):=by
 have hf:c.funcs.length≠0:=by rw [h.funcs];omega
 cases q with
 | num v b=>rfl
 | str t=>rfl
 | colon=>rfl
 | word t =>
   cases hn:Xb shapeT t with
   | none =>
     have e:TT.named t=none:=by rw [Yaa,hn];rfl
     simp only [Zfu,e]
     unfold Zli
     simp only [hn]
   | some n =>
     have e:TT.named t=some (n:Int):=by rw [Yaa,hn];rfl
     have ek:TT.kind (n:Int)=Zir n:=by show Zir (n:Int).toNat=_;rw [Int.toNat_natCast]
     have ei:Zli line c x (.word t::rest)=Zje line c x n (Zir n) rest:=by unfold Zli;simp only [hn,if_neg hf]
     rw [ei]
     clear ei
     simp only [Zfu,e,ek]
     generalize hkd:Zir n=kd
     by_cases h0:kd=0
     · rw [if_pos h0]
       cases rest with
       | nil=>exact ⟨n,0,none,_,rfl,by unfold Zje;rw [if_pos h0];rfl,Zxc h hk line n 0⟩
       | cons r rs=>unfold Zje;rw [if_pos h0]
     · rw [if_neg h0]
       have hins:Zje line c x n kd rest=(match rest with
        | [.num v big]=>some (Zjq c (n,v),if big then amV x 143 else x)
        | [.word s] =>
          if kd=3\/kd=4 then some (Zjq (Ybd c line s (kd == 4)) (n,0),x)
          else if kd=5 then (match Xb callT s with|none=>none|some j=>some (Zjq c (n,j),x))
          else none
        | _=>none):=by unfold Zje;rw [if_neg h0];first|rfl|(split <;> rfl)
       rw [hins]
       match rest with
       | []=>rfl
       | [.num v b]=>exact ⟨n,v,none,_,rfl,by cases b <;> rfl,Zxc h hk line n v⟩
       | [.str u]=>rfl
       | [.colon]=>rfl
       | [.word u] =>
         by_cases h34:kd=3\/kd=4
         · have h5:¬ kd=5:=by omega
           simp only [if_neg h5,if_pos h34]
           exact ⟨n,0,some u,_,rfl,rfl,Yli h hk line n u kd hkd h34⟩
         · by_cases h5:kd=5
           · simp only [if_pos h5,if_neg h34]
             cases hj:Xb callT u with
             | none =>
               have e:TT.sys u=none:=by rw [Ypb,hj];rfl
               rw [e];rfl
             | some j =>
               have e:TT.sys u=some (j:Int):=by rw [Ypb,hj];rfl
               rw [e]
               exact ⟨n,j,none,_,rfl,rfl,Zxc h hk line n j⟩
           · simp only [if_neg h5,if_neg h34]
       | _::_::_=>simp
end Go.Proofs.YteciblfmgdlipaaGreatDoor.AS
