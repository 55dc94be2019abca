/-
  Part of a proof: contracts of functions and lemmas, each stated by its own theorem. Conditions: as each theorem states.
-/
import Derived.Test.YteciblfmgdlipaaGreatDoorMN13
import Derived.Test.YteciblfmgdlipaaGreatDoorMN04
set_option linter.unusedSimpArgs false
set_option linter.unusedVariables false
set_option maxRecDepth 100000
set_option maxHeartbeats 16000000
namespace Go.Proofs.YteciblfmgdlipaaGreatDoor.AS
open Go.RowKit Go.Great CK
def Zud:Nat->Nat
 | 0=>37
 | 1=>38
 | 2=>39
 | 3=>40
 | 4=>41
 | 5=>42
 | 6=>43
 | 7=>44
 | 8=>45
 | 9=>46
 | 10=>47
 | 11=>48
 | 12=>49
 | 13=>50
 | 14=>51
 | 15=>52
 | 16=>53
 | 17=>54
 | 18=>55
 | 19=>56
 | _=>5000
theorem Zr:∀ i,i<20->∀ j,j<20->j≠i->Zud j≠Zud i:=by decide
theorem Xw (i:Nat) (h:i<20):i=0\/i=1\/i=2\/i=3\/i=4\/i=5\/i=6\/i=7\/i=8\/i=9\/i=10\/i=11\/i=12\/i=13\/i=14\/i=15\/i=16\/i=17\/i=18\/i=19:=by omega
theorem Jz (j:Nat) (hj:j∈[5,6,7]):∀ i,i<20->Zud i≠j:=by revert j;decide
def Yj (b q k:Nat) (fa fl fr nw:Int) (sk sa sl sr:ByteArray) (L9:Txt):Nat->Value
 | 0 => .int .i64 (k:Int)
 | 1 => .string sk
 | 2 => .string (⟨#[102,117,110,99,32,102]⟩++sk)
 | 3 => .string (⟨#[102,117,110,99,32,102]⟩++sk++⟨#[32]⟩)
 | 4 => .pointer (some ⟨q,0,none⟩)
 | 5 => .int .i64 fa
 | 6 => .string sa
 | 7 => .string (⟨#[102,117,110,99,32,102]⟩++sk++⟨#[32]⟩++sa)
 | 8 => .string (⟨#[102,117,110,99,32,102]⟩++sk++⟨#[32]⟩++sa++⟨#[32]⟩)
 | 9 => .pointer (some ⟨q,1,none⟩)
 | 10 => .int .i64 fl
 | 11 => .string sl
 | 12 => .string (⟨#[102,117,110,99,32,102]⟩++sk++⟨#[32]⟩++sa++⟨#[32]⟩++sl)
 | 13 => .string (⟨#[102,117,110,99,32,102]⟩++sk++⟨#[32]⟩++sa++⟨#[32]⟩++sl++⟨#[32]⟩)
 | 14 => .pointer (some ⟨q,2,none⟩)
 | 15 => .int .i64 fr
 | 16 => .string sr
 | 17 => .string (⟨#[102,117,110,99,32,102]⟩++sk++⟨#[32]⟩++sa++⟨#[32]⟩++sl++⟨#[32]⟩++sr)
 | 18 => .string (⟨#[102,117,110,99,32,102]⟩++sk++⟨#[32]⟩++sa++⟨#[32]⟩++sl++⟨#[32]⟩++sr++⟨#[10]⟩)
 | 19 => .tuple #[.int .i64 nw,.nilIface]
 | _=>undef
def Yew (b q k:Nat) (fa fl fr nw:Int) (sk sa sl sr:ByteArray) (L9:Txt)  : Nat->World->Prop
 | 1=>fun _=>True
 | 6=>fun _=>True
 | 11=>fun _=>True
 | 16=>fun _=>True
 | 19=>fun w9=>Bld b b L9 w9
 | _=>fun _=>True
theorem Zuz {b q k:Nat} {fa fl fr nw:Int} {sk sa sl sr:ByteArray} {L9:Txt}   {l:Array Bool} (hcl:∀ p∈([(1,0),(2,1),(3,2),(5,4),(6,5),(7,3),(7,6),(8,7),(10,9),(11,10),(12,8),(12,11),(13,12),(15,14),(16,15),(17,13),(17,16),(18,17),(19,18)]:List (Nat × Nat)),l.getD (Prod.fst p) false=true->l.getD (Prod.snd p) false=true) (hun:l.getD 1 false=false):∀ i,i<20->l.getD i false=true->Zud i<66->Yj b q k fa fl fr nw sk sa sl sr L9  i=Yj b q k fa fl fr nw sk sa sl sr L9  i:=by
 intro i hi hl _
 rcases Xw i hi with rfl|rfl|rfl|rfl|rfl|rfl|rfl|rfl|rfl|rfl|rfl|rfl|rfl|rfl|rfl|rfl|rfl|rfl|rfl|rfl
 · rfl
 · rfl
 · rfl
 · rfl
 · rfl
 · rfl
 · rfl
 · rfl
 · rfl
 · rfl
 · rfl
 · rfl
 · rfl
 · rfl
 · rfl
 · rfl
 · rfl
 · rfl
 · rfl
 · rfl
theorem Zuy {b q k:Nat} {fa fl fr nw:Int} {sk sa sl sr:ByteArray} {L9:Txt}   {l:Array Bool} (hcl:∀ p∈([(1,0),(2,1),(3,2),(5,4),(6,5),(7,3),(7,6),(8,7),(10,9),(11,10),(12,8),(12,11),(13,12),(15,14),(16,15),(17,13),(17,16),(18,17),(19,18)]:List (Nat × Nat)),l.getD (Prod.fst p) false=true->l.getD (Prod.snd p) false=true) (hun:l.getD 6 false=false):∀ i,i<20->l.getD i false=true->Zud i<66->Yj b q k fa fl fr nw sk sa sl sr L9  i=Yj b q k fa fl fr nw sk sa sl sr L9  i:=by
 intro i hi hl _
 rcases Xw i hi with rfl|rfl|rfl|rfl|rfl|rfl|rfl|rfl|rfl|rfl|rfl|rfl|rfl|rfl|rfl|rfl|rfl|rfl|rfl|rfl
 · rfl
 · rfl
 · rfl
 · rfl
 · rfl
 · rfl
 · rfl
 · rfl
 · rfl
 · rfl
 · rfl
 · rfl
 · rfl
 · rfl
 · rfl
 · rfl
 · rfl
 · rfl
 · rfl
 · rfl
theorem Zqf {b q k:Nat} {fa fl fr nw:Int} {sk sa sl sr:ByteArray} {L9:Txt}   {l:Array Bool} (hcl:∀ p∈([(1,0),(2,1),(3,2),(5,4),(6,5),(7,3),(7,6),(8,7),(10,9),(11,10),(12,8),(12,11),(13,12),(15,14),(16,15),(17,13),(17,16),(18,17),(19,18)]:List (Nat × Nat)),l.getD (Prod.fst p) false=true->l.getD (Prod.snd p) false=true) (hun:l.getD 11 false=false):∀ i,i<20->l.getD i false=true->Zud i<66->Yj b q k fa fl fr nw sk sa sl sr L9  i=Yj b q k fa fl fr nw sk sa sl sr L9  i:=by
 intro i hi hl _
 rcases Xw i hi with rfl|rfl|rfl|rfl|rfl|rfl|rfl|rfl|rfl|rfl|rfl|rfl|rfl|rfl|rfl|rfl|rfl|rfl|rfl|rfl
 · rfl
 · rfl
 · rfl
 · rfl
 · rfl
 · rfl
 · rfl
 · rfl
 · rfl
 · rfl
 · rfl
 · rfl
 · rfl
 · rfl
 · rfl
 · rfl
 · rfl
 · rfl
 · rfl
 · rfl
theorem Zqe {b q k:Nat} {fa fl fr nw:Int} {sk sa sl sr:ByteArray} {L9:Txt}   {l:Array Bool} (hcl:∀ p∈([(1,0),(2,1),(3,2),(5,4),(6,5),(7,3),(7,6),(8,7),(10,9),(11,10),(12,8),(12,11),(13,12),(15,14),(16,15),(17,13),(17,16),(18,17),(19,18)]:List (Nat × Nat)),l.getD (Prod.fst p) false=true->l.getD (Prod.snd p) false=true) (hun:l.getD 16 false=false):∀ i,i<20->l.getD i false=true->Zud i<66->Yj b q k fa fl fr nw sk sa sl sr L9  i=Yj b q k fa fl fr nw sk sa sl sr L9  i:=by
 intro i hi hl _
 rcases Xw i hi with rfl|rfl|rfl|rfl|rfl|rfl|rfl|rfl|rfl|rfl|rfl|rfl|rfl|rfl|rfl|rfl|rfl|rfl|rfl|rfl
 · rfl
 · rfl
 · rfl
 · rfl
 · rfl
 · rfl
 · rfl
 · rfl
 · rfl
 · rfl
 · rfl
 · rfl
 · rfl
 · rfl
 · rfl
 · rfl
 · rfl
 · rfl
 · rfl
 · rfl
theorem Zqd {b q k:Nat} {fa fl fr nw:Int} {sk sa sl sr:ByteArray} {L9:Txt}   {l:Array Bool} (hcl:∀ p∈([(1,0),(2,1),(3,2),(5,4),(6,5),(7,3),(7,6),(8,7),(10,9),(11,10),(12,8),(12,11),(13,12),(15,14),(16,15),(17,13),(17,16),(18,17),(19,18)]:List (Nat × Nat)),l.getD (Prod.fst p) false=true->l.getD (Prod.snd p) false=true) (hun:l.getD 19 false=false):∀ i,i<20->l.getD i false=true->Zud i<66->Yj b q k fa fl fr nw sk sa sl sr L9  i=Yj b q k fa fl fr nw sk sa sl sr L9  i:=by
 intro i hi hl _
 rcases Xw i hi with rfl|rfl|rfl|rfl|rfl|rfl|rfl|rfl|rfl|rfl|rfl|rfl|rfl|rfl|rfl|rfl|rfl|rfl|rfl|rfl
 · rfl
 · rfl
 · rfl
 · rfl
 · rfl
 · rfl
 · rfl
 · rfl
 · rfl
 · rfl
 · rfl
 · rfl
 · rfl
 · rfl
 · rfl
 · rfl
 · rfl
 · rfl
 · rfl
 · rfl
theorem Ybf:∀ (fs:List FnP),Zxt fs=0->∀ f∈fs,fnE f=0
 | [],_,f,h=>by cases h
 | x::r,he,f,h=>by
   rw [Zxt] at he
   split at he
   · rename_i hx
     rcases List.mem_cons.1 h with rfl|h
     · exact hx
     · exact Ybf r he f h
   · rename_i hx;exact absurd he hx
structure Ygb (f:FnP):Prop where
 a:0<=f.1/\f.1<=16
 l:0<=f.2.1/\f.2.1<=64
 r:0<=f.2.2.1/\f.2.2.1<=1
 c:1<=f.2.2.2.length/\f.2.2.2.length<=4096
 e:Zlr f.2.2.2=0
theorem Yfl {f:FnP} (h:fnE f=0):Ygb f:=by
 unfold fnE at h
 split at h
 · cases h
 · rename_i hc
   exact ⟨by omega,by omega,by omega,by omega,h⟩
theorem Yce {mem:Int} {nd:Nat} {fs:List FnP} (h:Jv mem nd fs=0):0<=mem/\mem<=65536/\(nd:Int)<=mem/\fs.length<=64/\∀ f∈fs,Ygb f:=by
 unfold Jv at h
 split at h
 · cases h
 · exact ⟨by omega,by omega,by omega,by omega,fun f hf=>Yfl (Ybf fs h f hf)⟩
theorem Zib {k:Nat} {f:FnP} (hk:k<=5000) (h:Ygb f):(Xi k f).length<=100:=by
 have h0:=Lib.itoa_length_le k (by omega) (by omega)
 have h1:=Lib.itoa_length_le f.1 (by have:=h.a;omega) (by have:=h.a;omega)
 have h2:=Lib.itoa_length_le f.2.1 (by have:=h.l;omega) (by have:=h.l;omega)
 have h3:=Lib.itoa_length_le f.2.2.1 (by have:=h.r;omega) (by have:=h.r;omega)
 unfold Xi
 simp only [List.length_append,List.length_cons,List.length_nil];omega
theorem Zsc {mem:Int} {d:Txt} (h0:0<=mem) (h1:mem<=65536) (h2:(d.length:Int)<=mem):(Zci mem d).length<=300000:=by
 have h3:=Lib.itoa_length_le mem (by omega) (by omega)
 have h4:=Zhi d
 unfold Zci Zsi
 split
 · simp only [List.length_append,List.length_cons,List.length_nil];omega
 · simp only [List.length_append,List.length_cons,List.length_nil];omega
def Zfn (mem:Int):Txt:=[109,101,109,111,114,121,32]++Lib.itoa mem++[10]
def Zpm (d:Txt):Txt:=[100,97,116,97,32]++Zsi d++[10]
theorem Zja (mem:Int):Zci mem []=Zfn mem:=by simp [Zci,Zfn]
theorem Zhf (mem:Int) {d:Txt} (h:d≠[]):Zci mem d=Zfn mem++Zpm d:=by unfold Zci;rw [if_neg h];rfl
theorem Zvt (B b:Nat) (l:Txt) (mem:Int) (h0:0<=mem) (h1:mem<=65536) (w:World) (h:Bld B b l w) (hl:l.length<=200000000) (hBw:B<=w.heap.size) :
 Calls Tryz.prog 38 #[.pointer (some ⟨b,0,none⟩),.string (⟨#[109,101,109,111,114,121,32]⟩++bs (Lib.itoa mem)++⟨#[10]⟩)] w fun e w'=>e = .returned (.tuple #[.int .i64 (Zfn mem).length,.nilIface])/\Bld B b (l++Zfn mem) w'/\BFr B b w w':=by
 have hz:=Lib.itoa_length_le mem (by omega) (by omega)
 have e:(⟨#[109,101,109,111,114,121,32]⟩++bs (Lib.itoa mem)++⟨#[10]⟩:ByteArray)=bs (Zfn mem) :=
  (congrArg (·++_) (Zdp [109,101,109,111,114,121,32] (Lib.itoa mem) rfl rfl)).trans (Zdp _ [10] rfl rfl)
 rw [e]
 exact Zcy B b l (Zfn mem) w h (by unfold Zfn;simp only [List.length_cons,List.length_append,List.length_nil];omega) hBw
theorem Zwz (B b:Nat) (l d:Txt) (hd:d.length<=65536) (w:World) (h:Bld B b l w) (hl:l.length<=200000000) (hBw:B<=w.heap.size) :
 Calls Tryz.prog 38 #[.pointer (some ⟨b,0,none⟩),.string (⟨#[100,97,116,97,32]⟩++bs (Zsi d)++⟨#[10]⟩)] w fun e w'=>e = .returned (.tuple #[.int .i64 (Zpm d).length,.nilIface])/\Bld B b (l++Zpm d) w'/\BFr B b w w':=by
 have hz:=Zhi d
 have e:(⟨#[100,97,116,97,32]⟩++bs (Zsi d)++⟨#[10]⟩:ByteArray)=bs (Zpm d) :=
  (congrArg (·++_) (Zdp [100,97,116,97,32] (Zsi d) rfl rfl)).trans (Zdp _ [10] rfl rfl)
 rw [e]
 exact Zcy B b l (Zpm d) w h (by unfold Zpm Zsi;simp only [List.length_cons,List.length_append,List.length_nil];omega) hBw
theorem Zjx (B b:Nat) (l:Txt) (k:Nat) (fa fl fr:Int) (c:List (Int × Int)) (hk:k<=5000) (ho:Ygb (fa,fl,fr,c)) (w:World) (h:Bld B b l w) (hl:l.length<=200000000) (hBw:B<=w.heap.size) :
 Calls Tryz.prog 38 #[.pointer (some ⟨b,0,none⟩),.string (⟨#[102,117,110,99,32,102]⟩++bs (Lib.itoa k)++⟨#[32]⟩++bs (Lib.itoa fa)++⟨#[32]⟩++bs (Lib.itoa fl)++⟨#[32]⟩++bs (Lib.itoa fr)++⟨#[10]⟩)] w fun e w'=>e = .returned (.tuple #[.int .i64 (Xi k (fa,fl,fr,c)).length,.nilIface])/\Bld B b (l++Xi k (fa,fl,fr,c)) w'/\BFr B b w w':=by
 have hz:=Zib hk ho
 have e:(⟨#[102,117,110,99,32,102]⟩++bs (Lib.itoa k)++⟨#[32]⟩++bs (Lib.itoa fa)++⟨#[32]⟩++bs (Lib.itoa fl)++⟨#[32]⟩++bs (Lib.itoa fr)++⟨#[10]⟩:ByteArray)=bs (Xi k (fa,fl,fr,c)):=by
  unfold Xi
  simp only [<- Jt]
  rfl
 rw [e]
 exact Zcy B b l _ w h (by omega) hBw
def Ydv (w:World) (r:Except Int Txt) (e:Ending) (w':World):Prop :=
 (match r with
   | .ok t=>e = .returned (.tuple #[.string (bs t),.int .i64 0])
   | .error y=>e = .returned (.tuple #[.string ⟨#[]⟩,.int .i64 y]))/\w.grownBy w' none
theorem Ycd {mem:Int} {d:Txt} {fs:List FnR} (h:Jv mem d.length fs≠0):Zjl (mem,d,fs) = .error (Jv mem d.length fs):=if_pos h
theorem Zyt {mem:Int} {d:Txt} {fs:List FnR} (h:Jv mem d.length fs=0) (hl:65536<(Zfi (mem,d,fs)).length):Zjl (mem,d,fs) = .error 2:=(if_neg (by simpa using h)).trans (if_pos hl)
theorem Yaw {mem:Int} {d:Txt} {fs:List FnR} (h:Jv mem d.length fs=0) (hl:¬ 65536<(Zfi (mem,d,fs)).length):Zjl (mem,d,fs) = .ok (Zfi (mem,d,fs)):=(if_neg (by simpa using h)).trans (if_neg hl)
theorem Zjk (mem:Int) (d:Txt) (fs:List FnR) {k:Nat} (hk:k<=fs.length):(Zci mem d++Zaj fs k).length<=(Zfi (mem,d,fs)).length:=by
 have h:=Zng fs (fs.length - k) k
 rw [show k+(fs.length - k)=fs.length by omega] at h
 unfold Zfi
 simp only [List.length_append];omega
structure PtS (w2 w:World) (B b bx:Nat) (vP:Array Value) (l:Txt):Prop where
 box:w.heap[bx]? = some (.cells vP 26 (0,0))
 bld:Bld B b l w
 fr:BFr B b w2 w
 lib:LibW w
theorem Zbd {w2 w w':World} {B b bx:Nat} {vP:Array Value} {l l':Txt} (h:PtS w2 w B b bx vP l) (hg:BFr B b w w') (hb:Bld B b l' w') (h8:8<=B) (hx:bx<B):PtS w2 w' B b bx vP l' :=
 ⟨(hg.below.block bx hx).trans h.box,hb,Zs h.fr hg,Ju hg h8 h.lib⟩
theorem Zcn {w2 w w':World} {B b bx:Nat} {vP:Array Value} {l:Txt} (h:PtS w2 w B b bx vP l) (hg:w.grownBy w' none) (hB:B<=w.heap.size) (h8:8<=B) (hx:bx<B):PtS w2 w' B b bx vP l:=Zbd h (Yg hg hB) (Zab h.bld hg) h8 hx
theorem Ztt {w w2 w':World} {B b:Nat} {p:Option Addr} {d:Txt} (h:Zdq w p d) (g:w.grownBy w2 none) (hf:BFr B b w2 w') (hB:w.heap.size<=B):Zdq w' p d:=fun h0=>by
 obtain ⟨k,o,e,hk,hc⟩:=h h0
 exact ⟨k,o,e,Nat.lt_of_lt_of_le hk (Nat.le_trans g.size hf.below.size),fun i c hi=>Ym hf (by omega) (g.cell (hc i c hi) (by simp))⟩
theorem Zen {w w2 w':World} {B b:Nat} (g:w.grownBy w2 none) (hf:BFr B b w2 w') (hB:w.heap.size<=B):w.grownBy w' none :=
 ⟨hf.below.os.trans g.os,hf.below.tape.trans g.tape,hf.below.output.trans g.output,Nat.le_trans g.size hf.below.size,fun k hk _=>(hf.below.block k (by omega)).trans (g.block k hk (by simp))⟩
theorem Zic {w w2 w':World} {B:Nat} (g:w.grownBy w2 none) (hf:Below B w2 w') (hB:w.heap.size<=B):w.grownBy w' none :=
 ⟨hf.os.trans g.os,hf.tape.trans g.tape,hf.output.trans g.output,Nat.le_trans g.size hf.size,fun k hk _=>(hf.block k (by omega)).trans (g.block k hk (by simp))⟩
theorem Zdi {w2 w:World} {B b bx:Nat} {vP:Array Value} {l:Txt} (h:PtS w2 w B b bx vP l) (hB:B<=w2.heap.size):B<=w.heap.size:=Nat.le_trans hB h.fr.below.size
theorem Zve (mem:Int) (d:Txt) (fs:List FnR) (pd pF:Option Addr) (cd cF D:Nat) (w:World) (hW:LibW w) (hD:D<=w.heap.size) (hd:Zdq w pd d) (hF:Zcg w D pF fs) (hdl:d.length<=9223372036854775807) (hI:∀ f∈fs,∀ x∈f.2.2.2,Yeb x.2) :
 Calls Tryz.prog 18 #[.agg #[.int .i64 mem,.slice pd d.length cd,.slice pF fs.length cF]] w (Ydv w (Zjl (mem,d,fs))):=by
 have CK:=Hq (Zfh mem d.length fs pd pF cd cF D (w.alloc (.cells #[.int .i64 mem,.slice pd d.length cd,.slice pF fs.length cF] 26)) (by rw [World.size_alloc];omega) (Xl hF (Ga w _ none) (by simp)) hdl)
 have LW:=Hq hW
 have HD:=Hq hd
 have HF:=Hq hF
 have HI:=Hq hI
 have h8:=hW.big
 clear hW hd hF hI
 by_cases he:Jv mem d.length fs=0
 · obtain ⟨m0,m1,m2,f64,fok⟩:=Yce he
   have FK:=Hq fok
   rw [he] at CK
   have PL:=Hq (fun hl=>Zyt (mem:=mem) (d:=d) (fs:=fs) he hl)
   have PO:=Hq (fun hl=>Yaw (mem:=mem) (d:=d) (fs:=fs) he hl)
   have ST:=Hq (Zsc (d:=d) m0 m1 m2)
   have hd6:d.length<=65536:=by omega
   clear he fok hdl
   have hz:=Lib.itoa_length_le mem (by omega) (by omega)
   have hc1:¬ 9223372036854775807<7+(bs (Lib.itoa mem)).size:=by rw [Zj];omega
   have hc2:¬ 9223372036854775807<7+(bs (Lib.itoa mem)).size+1:=by rw [Zj];omega
   have hqz:=Zhi d
   have hq1:¬ 9223372036854775807<5+(bs (Zsi d)).size:=by rw [Zj];unfold Zsi;simp only [List.length_append,List.length_cons,List.length_nil];omega
   have hq2:¬ 9223372036854775807<5+(bs (Zsi d)).size+1:=by rw [Zj];unfold Zsi;simp only [List.length_append,List.length_cons,List.length_nil];omega
   clear hz hqz
   go_enter Tryz.func18,Tryz.ntmps18
   go_upto_region 5 with (go_at_call 30;refine CK.out.mono ?_;rintro e w1 ⟨rfl,hg1⟩;have G1:=Hq (Za (Ga w (.cells #[.int .i64 mem,.slice pd d.length cd,.slice pF fs.length cF] 26) none) hg1);have BX:=Hq (Zh (heap_alloc_new w (.cells #[.int .i64 mem,.slice pd d.length cd,.slice pF fs.length cF] 26)) hg1 (by simp));clear hg1)
   have hxw:=Hq (show w.heap.size<w1.heap.size from (Gs BX.out))
   have S2:=Hq (show PtS (w1.alloc (.cells #[.pointer none,.slice none 0 0] 99)) (w1.alloc (.cells #[.pointer none,.slice none 0 0] 99)) w1.heap.size w1.heap.size w.heap.size _ [] from ⟨Zh BX.out (Ga w1 _ none) (by simp),Ydr w1,Zde _ _ _,Zq LW.out (Za G1.out (Ga w1 _ none))⟩)
   have G2:=Hq (Za G1.out (Ga w1 (.cells #[.pointer none,.slice none 0 0] 99) none))
   have B2:=Hq (show w1.heap.size<=(w1.alloc (.cells #[.pointer none,.slice none 0 0] 99)).heap.size by rw [World.size_alloc];omega)
   generalize w1.alloc (.cells #[.pointer none,.slice none 0 0] 99)=w2 at S2 G2 B2 ⊢
   clear CK BX
   obtain ⟨b,hb⟩:∃ x,w1.heap.size=x:=⟨_,rfl⟩
   rw [hb] at S2 B2 hxw ⊢
   clear hb G1
   obtain ⟨bx,hbx⟩:∃ x,w.heap.size=x:=⟨_,rfl⟩
   have HBX:=Hq hbx
   rw [hbx] at S2 hxw h8 hD ⊢
   clear hbx
   have h8b:=Hq (show 8<=b by have:=hxw.out;omega)
   have y0:=Cq w2 bx 0 _ _ _ S2.out.box
   have lx:=(Gs S2.out.box)
   have IT:=Hq (Jr mem (by omega) (by omega) w2 S2.out.lib)
   have WM:=Hq (fun W h hBW=>Zvt b b [] mem m0 m1 W h (by simp) hBW)
   by_cases hd0:d=[]
   · subst hd0
     rw [Zja] at ST
     simp only [List.length_nil] at S2 ⊢
     go_wp2_with (first
      | (go_at_call 39;refine IT.out.mono ?_;rintro e w3 ⟨rfl,hg3⟩;have G3:=Hq hg3;clear hg3 IT)
      | (go_at_call 38;refine (WM.out _ (Zab S2.out.bld G3.out) (Nat.le_trans B2.out G3.out.size)).mono ?_;rintro e w4 ⟨rfl,hb4,hf4⟩;have S4:=Hq (Zbd (Zcn S2.out G3.out B2.out h8b.out hxw.out) hf4 hb4 h8b.out hxw.out);have y1:=Cq w4 bx 1 _ _ _ S4.out.box;have y2:=Cq w4 bx 2 _ _ _ S4.out.box;have lx4:=(Gs S4.out.box);clear hb4 hf4 WM))
     have S6:=Hq (show PtS w2 w4 b b bx _ (Zfn mem) from S4.out)
     clear S4 y0 lx y1 y2 lx4 hd6
     obtain ⟨td,htd⟩:∃ x,Zfn mem=x:=⟨_,rfl⟩
     have HT:=Hq (show Zci mem []=td by rw [Zja];exact htd)
     rw [htd] at S6 ST
     clear htd
     go_loopw [32] (fun i wr=>∃ k:Nat,i = .int .i64 k/\k<=fs.length/\(td++Zaj fs k).length<=300000/\PtS w2 wr b b bx #[.int .i64 mem,.slice pd 0 cd,.slice pF fs.length cF] (td++Zaj fs k)) (fun i _=>fs.length - (intOf i).toNat)
     case atStart=>exact ⟨0,rfl,Nat.zero_le _,by simpa [Zaj] using ST.out,by simpa [Zaj] using S6.out⟩
     case round =>
      obtain ⟨k,rfl,hk,hlk,hS⟩:=hrel
      have S:=Hq hS
      have LK:=Hq hlk
      clear hS hlk
      by_cases hlt:k<fs.length
      · obtain ⟨⟨fa,fl,fr,c⟩,hx⟩:∃ x,fs[k]? = some x:=⟨_,List.getElem?_eq_getElem hlt⟩
        have FO:=Hq (FK.out _ (List.mem_of_getElem? hx))
        have II:=Hq (HI.out _ (List.mem_of_getElem? hx))
        have HX:=Hq hx
        obtain ⟨fb,fo,rfl,hfb,hfc⟩:=HF.out (by omega)
        obtain ⟨h0,h1,h2,pc,cc,h3,h4⟩:=hfc k fa fl fr c hx
        have hfB:fb<b:=by have:=hxw.out;omega
        have x0:=Ym S.out.fr hfB (G2.out.cell h0 (by simp))
        have x1:=Ym S.out.fr hfB (G2.out.cell h1 (by simp))
        have x2:=Ym S.out.fr hfB (G2.out.cell h2 (by simp))
        have x3:=Ym S.out.fr hfB (G2.out.cell h3 (by simp))
        have lf:fb<wr.heap.size:=Nat.lt_of_lt_of_le hfB (Zdi S.out B2.out)
        have CB:=Hq (Ji h4 G2.out (by simp))
        clear h0 h1 h2 h3 h4 hfc hx
        go_upto_region 11 with fail
        have hBr:=Zdi S.out B2.out
        have S7:=Hq (Zcn S.out (Ga wr (.cells #[.int .i64 fa,.int .i64 fl,.int .i64 fr,.slice pc c.length cc] 61) none) hBr h8b.out hxw.out)
        have BQ:=Hq (heap_alloc_new wr (.cells #[.int .i64 fa,.int .i64 fl,.int .i64 fr,.slice pc c.length cc] 61))
        have B7:=Hq (show b<=(wr.alloc (.cells #[.int .i64 fa,.int .i64 fl,.int .i64 fr,.slice pc c.length cc] 61)).heap.size by rw [World.size_alloc];omega)
        have HQ:=Hq (show wr.heap.size≠b by have:=(Znv S.out.bld).2;omega)
        generalize wr.alloc (.cells #[.int .i64 fa,.int .i64 fl,.int .i64 fr,.slice pc c.length cc] 61)=w7 at S7 BQ B7 ⊢
        obtain ⟨q,hq⟩:∃ x,wr.heap.size=x:=⟨_,rfl⟩
        rw [hq] at BQ HQ ⊢
        clear hq x0 x1 x2 x3 lf hBr
        have ja:=FO.out.a
        have jl:=FO.out.l
        have jr:=FO.out.r
        simp only at ja jl jr
        have za:=Lib.itoa_length_le fa (by omega) (by omega)
        have zl:=Lib.itoa_length_le fl (by omega) (by omega)
        have zr:=Lib.itoa_length_le fr (by omega) (by omega)
        have zk:=Lib.itoa_length_le k (by omega) (by omega)
        have IK:=Hq (fun W (hW:LibW W)=>Jr k (by omega) (by omega) W hW)
        have IA:=Hq (fun W (hW:LibW W)=>Jr fa (by omega) (by omega) W hW)
        have IL:=Hq (fun W (hW:LibW W)=>Jr fl (by omega) (by omega) W hW)
        have IR:=Hq (fun W (hW:LibW W)=>Jr fr (by omega) (by omega) W hW)
        have HW:=Hq (fun W h hBW=>Zjx b b (td++Zaj fs k) k fa fl fr c (by omega) FO.out W h (by have:=LK.out;omega) hBW)
        have u1:¬ 9223372036854775807<6+(bs (Lib.itoa k)).size:=by rw [Zj];omega
        have u2:¬ 9223372036854775807<6+(bs (Lib.itoa k)).size+1:=by rw [Zj];omega
        have u3:¬ 9223372036854775807<6+(bs (Lib.itoa k)).size+1+(bs (Lib.itoa fa)).size:=by rw [Zj,Zj];omega
        have u4:¬ 9223372036854775807<6+(bs (Lib.itoa k)).size+1+(bs (Lib.itoa fa)).size+1:=by rw [Zj,Zj];omega
        have u5:¬ 9223372036854775807<6+(bs (Lib.itoa k)).size+1+(bs (Lib.itoa fa)).size+1+(bs (Lib.itoa fl)).size:=by rw [Zj,Zj,Zj];omega
        have u6:¬ 9223372036854775807<6+(bs (Lib.itoa k)).size+1+(bs (Lib.itoa fa)).size+1+(bs (Lib.itoa fl)).size+1:=by rw [Zj,Zj,Zj];omega
        have u7:¬ 9223372036854775807<6+(bs (Lib.itoa k)).size+1+(bs (Lib.itoa fa)).size+1+(bs (Lib.itoa fl)).size+1+(bs (Lib.itoa fr)).size:=by rw [Zj,Zj,Zj,Zj];omega
        have u8:¬ 9223372036854775807<6+(bs (Lib.itoa k)).size+1+(bs (Lib.itoa fa)).size+1+(bs (Lib.itoa fl)).size+1+(bs (Lib.itoa fr)).size+1:=by rw [Zj,Zj,Zj,Zj];omega
        (try rename_i K11 hK11)
        refine Yw (n:=20) (J:=fun a0 l a1 w1=>RJ a0 66 20 Zud (Yj b q k fa fl fr ((Xi k (fa,fl,fr,c)).length:Int) (bs (Lib.itoa k)) (bs (Lib.itoa fa)) (bs (Lib.itoa fl)) (bs (Lib.itoa fr)) (td++Zaj fs k++Xi k (fa,fl,fr,c)) ) l a1/\Zbj 20 20 19 [(1,0),(2,1),(3,2),(5,4),(6,5),(7,3),(7,6),(8,7),(10,9),(11,10),(12,8),(12,11),(13,12),(15,14),(16,15),(17,13),(17,16),(18,17),(19,18)] [] (fun w9=>BFr b b w7.drew w9) (fun w9=>World.grownBy w7.drew w9 none) (Yew b q k fa fl fr ((Xi k (fa,fl,fr,c)).length:Int) (bs (Lib.itoa k)) (bs (Lib.itoa fa)) (bs (Lib.itoa fl)) (bs (Lib.itoa fr)) (td++Zaj fs k++Xi k (fa,fl,fr,c)) ) (fun _=>True) l w1) (by kernel_rfl) rfl (Xm (by kernel_rfl)) (fun l a1 w1 h=>by obtain ⟨h,_⟩:=h;exact h.sz) ⟨Yv rfl,Yb (Zde _ _ _) (Zd _ _)⟩ ?step ?fin
        case step =>
         intro l a1 w' i hJJ hi hin
         obtain ⟨hJ,hW⟩:=hJJ
         have hun:l.getD i false=false:=getD_both (mem_ready.1 hi).1
         have hns:=Jb hW hin hun
         have hg:=hW.g hns
         have BQ':=Jy (w:=w7.drew) hg BQ.out (by decide) HQ.out
         have lq:=(Array.getElem?_eq_some_iff.1 BQ').1
         rcases Xw i hin with rfl|rfl|rfl|rfl|rfl|rfl|rfl|rfl|rfl|rfl|rfl|rfl|rfl|rfl|rfl|rfl|rfl|rfl|rfl|rfl
         · have e6:a1.tmps.getD 6 undef = .int .i64 (k:Int):=hJ.un 6 (fun i hi _=>Jz 6 (by decide) i hi)
           exact Zc hJ hW hi hun rfl (by rfl) rfl (by decide) (by decide) (Zr _ (by decide)) (w':=w') (by simp [execOp,resolve,invoke,builtin,Act.eval,e6,lq,u1,u2,u3,u4,u5,u6,u7,u8,go_sem,Yj]) (⟨by decide,by kernel_rfl,True.intro⟩)
         · have e37:a1.tmps.getD 37 undef = .int .i64 (k:Int):=(Ze hJ hi 0 (by kernel_rfl))
           refine Zx rfl (by rfl) (by simp [execOp,resolve,invoke,Act.eval,e37,go_sem]) (Calls.mono (IK.out w' (Ju hg h8b.out (Zq S7.out.lib (Zf (Zd w7 none))))) (fun e w2 he => ?_))
           obtain ⟨rfl,hg2⟩:=he
           refine ⟨_,rfl,?_,Zu hW (by decide) hun (by decide) (Zi _ hi (by kernel_rfl)) (Zs hg (Yg hg2 (Nat.le_trans B7.out hg.below.size))) (fun hne0 hun0 hB0=>Za hB0 hg2) (fun j hj hne hl hcu hF => ?_) (True.intro)⟩
           · exact Xd (val:=Yj b q k fa fl fr ((Xi k (fa,fl,fr,c)).length:Int) (bs (Lib.itoa k)) (bs (Lib.itoa fa)) (bs (Lib.itoa fl)) (bs (Lib.itoa fr)) (td++Zaj fs k++Xi k (fa,fl,fr,c)) ) (Xf hJ (Zuz hW.cl hun)) (by decide) (by decide) (Zr _ (by decide))
           · rcases Xw j hj with rfl|rfl|rfl|rfl|rfl|rfl|rfl|rfl|rfl|rfl|rfl|rfl|rfl|rfl|rfl|rfl|rfl|rfl|rfl|rfl
             · exact True.intro
             · exact absurd rfl hne
             · exact True.intro
             · exact True.intro
             · exact True.intro
             · exact True.intro
             · exact hF
             · exact True.intro
             · exact True.intro
             · exact True.intro
             · exact True.intro
             · exact hF
             · exact True.intro
             · exact True.intro
             · exact True.intro
             · exact True.intro
             · exact hF
             · exact True.intro
             · exact True.intro
             · exact Zm (hW.cl (2,1) (by decide) (hW.cl (3,2) (by decide) (hW.cl (7,3) (by decide) (hW.cl (8,7) (by decide) (hW.cl (12,8) (by decide) (hW.cl (13,12) (by decide) (hW.cl (17,13) (by decide) (hW.cl (18,17) (by decide) (hW.cl (19,18) (by decide) (hl)))))))))) hun
         · have e38:a1.tmps.getD 38 undef = .string (bs (Lib.itoa k)):=(Ze hJ hi 1 (by kernel_rfl))
           exact Zc hJ hW hi hun rfl (by rfl) rfl (by decide) (by decide) (Zr _ (by decide)) (w':=w') (by simp [execOp,resolve,invoke,builtin,Act.eval,e38,lq,u1,u2,u3,u4,u5,u6,u7,u8,go_sem,Yj]) (⟨by decide,by kernel_rfl,True.intro⟩)
         · have e39:a1.tmps.getD 39 undef = .string (⟨#[102,117,110,99,32,102]⟩++(bs (Lib.itoa k))):=(Ze hJ hi 2 (by kernel_rfl))
           exact Zc hJ hW hi hun rfl (by rfl) rfl (by decide) (by decide) (Zr _ (by decide)) (w':=w') (by simp [execOp,resolve,invoke,builtin,Act.eval,e39,lq,u1,u2,u3,u4,u5,u6,u7,u8,go_sem,Yj]) (⟨by decide,by kernel_rfl,True.intro⟩)
         · have e7:a1.tmps.getD 7 undef = .pointer (some ⟨q,0,none⟩):=hJ.un 7 (fun i hi _=>Jz 7 (by decide) i hi)
           exact Zc hJ hW hi hun rfl (by rfl) rfl (by decide) (by decide) (Zr _ (by decide)) (w':=w') (by simp [execOp,resolve,invoke,builtin,Act.eval,e7,lq,u1,u2,u3,u4,u5,u6,u7,u8,go_sem,Yj]) (⟨by decide,by kernel_rfl,True.intro⟩)
         · have e41:a1.tmps.getD 41 undef = .pointer (some ⟨q,0,none⟩):=(Ze hJ hi 4 (by kernel_rfl))
           have h0:=Cq _ _ 0 _ _ _ BQ'
           exact Zc hJ hW hi hun rfl (by rfl) rfl (by decide) (by decide) (Zr _ (by decide)) (w':=w') (by simp [execOp,resolve,invoke,builtin,Act.eval,e41,h0,lq,u1,u2,u3,u4,u5,u6,u7,u8,go_sem,Yj]) (⟨by decide,by kernel_rfl,True.intro⟩)
         · have e42:a1.tmps.getD 42 undef = .int .i64 fa:=(Ze hJ hi 5 (by kernel_rfl))
           refine Zx rfl (by rfl) (by simp [execOp,resolve,invoke,Act.eval,e42,go_sem]) (Calls.mono (IA.out w' (Ju hg h8b.out (Zq S7.out.lib (Zf (Zd w7 none))))) (fun e w2 he => ?_))
           obtain ⟨rfl,hg2⟩:=he
           refine ⟨_,rfl,?_,Zu hW (by decide) hun (by decide) (Zi _ hi (by kernel_rfl)) (Zs hg (Yg hg2 (Nat.le_trans B7.out hg.below.size))) (fun hne0 hun0 hB0=>Za hB0 hg2) (fun j hj hne hl hcu hF => ?_) (True.intro)⟩
           · exact Xd (val:=Yj b q k fa fl fr ((Xi k (fa,fl,fr,c)).length:Int) (bs (Lib.itoa k)) (bs (Lib.itoa fa)) (bs (Lib.itoa fl)) (bs (Lib.itoa fr)) (td++Zaj fs k++Xi k (fa,fl,fr,c)) ) (Xf hJ (Zuy hW.cl hun)) (by decide) (by decide) (Zr _ (by decide))
           · rcases Xw j hj with rfl|rfl|rfl|rfl|rfl|rfl|rfl|rfl|rfl|rfl|rfl|rfl|rfl|rfl|rfl|rfl|rfl|rfl|rfl|rfl
             · exact True.intro
             · exact hF
             · exact True.intro
             · exact True.intro
             · exact True.intro
             · exact True.intro
             · exact absurd rfl hne
             · exact True.intro
             · exact True.intro
             · exact True.intro
             · exact True.intro
             · exact hF
             · exact True.intro
             · exact True.intro
             · exact True.intro
             · exact True.intro
             · exact hF
             · exact True.intro
             · exact True.intro
             · exact Zm (hW.cl (7,6) (by decide) (hW.cl (8,7) (by decide) (hW.cl (12,8) (by decide) (hW.cl (13,12) (by decide) (hW.cl (17,13) (by decide) (hW.cl (18,17) (by decide) (hW.cl (19,18) (by decide) (hl)))))))) hun
         · have e40:a1.tmps.getD 40 undef = .string (⟨#[102,117,110,99,32,102]⟩++(bs (Lib.itoa k))++⟨#[32]⟩):=(Ze hJ hi 3 (by kernel_rfl))
           have e43:a1.tmps.getD 43 undef = .string (bs (Lib.itoa fa)):=(Ze hJ hi 6 (by kernel_rfl))
           exact Zc hJ hW hi hun rfl (by rfl) rfl (by decide) (by decide) (Zr _ (by decide)) (w':=w') (by simp [execOp,resolve,invoke,builtin,Act.eval,e40,e43,lq,u1,u2,u3,u4,u5,u6,u7,u8,go_sem,Yj]) (⟨by decide,by kernel_rfl,True.intro⟩)
         · have e44:a1.tmps.getD 44 undef = .string (⟨#[102,117,110,99,32,102]⟩++(bs (Lib.itoa k))++⟨#[32]⟩++(bs (Lib.itoa fa))):=(Ze hJ hi 7 (by kernel_rfl))
           exact Zc hJ hW hi hun rfl (by rfl) rfl (by decide) (by decide) (Zr _ (by decide)) (w':=w') (by simp [execOp,resolve,invoke,builtin,Act.eval,e44,lq,u1,u2,u3,u4,u5,u6,u7,u8,go_sem,Yj]) (⟨by decide,by kernel_rfl,True.intro⟩)
         · have e7:a1.tmps.getD 7 undef = .pointer (some ⟨q,0,none⟩):=hJ.un 7 (fun i hi _=>Jz 7 (by decide) i hi)
           exact Zc hJ hW hi hun rfl (by rfl) rfl (by decide) (by decide) (Zr _ (by decide)) (w':=w') (by simp [execOp,resolve,invoke,builtin,Act.eval,e7,lq,u1,u2,u3,u4,u5,u6,u7,u8,go_sem,Yj]) (⟨by decide,by kernel_rfl,True.intro⟩)
         · have e46:a1.tmps.getD 46 undef = .pointer (some ⟨q,1,none⟩):=(Ze hJ hi 9 (by kernel_rfl))
           have h0:=Cq _ _ 1 _ _ _ BQ'
           exact Zc hJ hW hi hun rfl (by rfl) rfl (by decide) (by decide) (Zr _ (by decide)) (w':=w') (by simp [execOp,resolve,invoke,builtin,Act.eval,e46,h0,lq,u1,u2,u3,u4,u5,u6,u7,u8,go_sem,Yj]) (⟨by decide,by kernel_rfl,True.intro⟩)
         · have e47:a1.tmps.getD 47 undef = .int .i64 fl:=(Ze hJ hi 10 (by kernel_rfl))
           refine Zx rfl (by rfl) (by simp [execOp,resolve,invoke,Act.eval,e47,go_sem]) (Calls.mono (IL.out w' (Ju hg h8b.out (Zq S7.out.lib (Zf (Zd w7 none))))) (fun e w2 he => ?_))
           obtain ⟨rfl,hg2⟩:=he
           refine ⟨_,rfl,?_,Zu hW (by decide) hun (by decide) (Zi _ hi (by kernel_rfl)) (Zs hg (Yg hg2 (Nat.le_trans B7.out hg.below.size))) (fun hne0 hun0 hB0=>Za hB0 hg2) (fun j hj hne hl hcu hF => ?_) (True.intro)⟩
           · exact Xd (val:=Yj b q k fa fl fr ((Xi k (fa,fl,fr,c)).length:Int) (bs (Lib.itoa k)) (bs (Lib.itoa fa)) (bs (Lib.itoa fl)) (bs (Lib.itoa fr)) (td++Zaj fs k++Xi k (fa,fl,fr,c)) ) (Xf hJ (Zqf hW.cl hun)) (by decide) (by decide) (Zr _ (by decide))
           · rcases Xw j hj with rfl|rfl|rfl|rfl|rfl|rfl|rfl|rfl|rfl|rfl|rfl|rfl|rfl|rfl|rfl|rfl|rfl|rfl|rfl|rfl
             · exact True.intro
             · exact hF
             · exact True.intro
             · exact True.intro
             · exact True.intro
             · exact True.intro
             · exact hF
             · exact True.intro
             · exact True.intro
             · exact True.intro
             · exact True.intro
             · exact absurd rfl hne
             · exact True.intro
             · exact True.intro
             · exact True.intro
             · exact True.intro
             · exact hF
             · exact True.intro
             · exact True.intro
             · exact Zm (hW.cl (12,11) (by decide) (hW.cl (13,12) (by decide) (hW.cl (17,13) (by decide) (hW.cl (18,17) (by decide) (hW.cl (19,18) (by decide) (hl)))))) hun
         · have e45:a1.tmps.getD 45 undef = .string (⟨#[102,117,110,99,32,102]⟩++(bs (Lib.itoa k))++⟨#[32]⟩++(bs (Lib.itoa fa))++⟨#[32]⟩):=(Ze hJ hi 8 (by kernel_rfl))
           have e48:a1.tmps.getD 48 undef = .string (bs (Lib.itoa fl)):=(Ze hJ hi 11 (by kernel_rfl))
           exact Zc hJ hW hi hun rfl (by rfl) rfl (by decide) (by decide) (Zr _ (by decide)) (w':=w') (by simp [execOp,resolve,invoke,builtin,Act.eval,e45,e48,lq,u1,u2,u3,u4,u5,u6,u7,u8,go_sem,Yj]) (⟨by decide,by kernel_rfl,True.intro⟩)
         · have e49:a1.tmps.getD 49 undef = .string (⟨#[102,117,110,99,32,102]⟩++(bs (Lib.itoa k))++⟨#[32]⟩++(bs (Lib.itoa fa))++⟨#[32]⟩++(bs (Lib.itoa fl))):=(Ze hJ hi 12 (by kernel_rfl))
           exact Zc hJ hW hi hun rfl (by rfl) rfl (by decide) (by decide) (Zr _ (by decide)) (w':=w') (by simp [execOp,resolve,invoke,builtin,Act.eval,e49,lq,u1,u2,u3,u4,u5,u6,u7,u8,go_sem,Yj]) (⟨by decide,by kernel_rfl,True.intro⟩)
         · have e7:a1.tmps.getD 7 undef = .pointer (some ⟨q,0,none⟩):=hJ.un 7 (fun i hi _=>Jz 7 (by decide) i hi)
           exact Zc hJ hW hi hun rfl (by rfl) rfl (by decide) (by decide) (Zr _ (by decide)) (w':=w') (by simp [execOp,resolve,invoke,builtin,Act.eval,e7,lq,u1,u2,u3,u4,u5,u6,u7,u8,go_sem,Yj]) (⟨by decide,by kernel_rfl,True.intro⟩)
         · have e51:a1.tmps.getD 51 undef = .pointer (some ⟨q,2,none⟩):=(Ze hJ hi 14 (by kernel_rfl))
           have h0:=Cq _ _ 2 _ _ _ BQ'
           exact Zc hJ hW hi hun rfl (by rfl) rfl (by decide) (by decide) (Zr _ (by decide)) (w':=w') (by simp [execOp,resolve,invoke,builtin,Act.eval,e51,h0,lq,u1,u2,u3,u4,u5,u6,u7,u8,go_sem,Yj]) (⟨by decide,by kernel_rfl,True.intro⟩)
         · have e52:a1.tmps.getD 52 undef = .int .i64 fr:=(Ze hJ hi 15 (by kernel_rfl))
           refine Zx rfl (by rfl) (by simp [execOp,resolve,invoke,Act.eval,e52,go_sem]) (Calls.mono (IR.out w' (Ju hg h8b.out (Zq S7.out.lib (Zf (Zd w7 none))))) (fun e w2 he => ?_))
           obtain ⟨rfl,hg2⟩:=he
           refine ⟨_,rfl,?_,Zu hW (by decide) hun (by decide) (Zi _ hi (by kernel_rfl)) (Zs hg (Yg hg2 (Nat.le_trans B7.out hg.below.size))) (fun hne0 hun0 hB0=>Za hB0 hg2) (fun j hj hne hl hcu hF => ?_) (True.intro)⟩
           · exact Xd (val:=Yj b q k fa fl fr ((Xi k (fa,fl,fr,c)).length:Int) (bs (Lib.itoa k)) (bs (Lib.itoa fa)) (bs (Lib.itoa fl)) (bs (Lib.itoa fr)) (td++Zaj fs k++Xi k (fa,fl,fr,c)) ) (Xf hJ (Zqe hW.cl hun)) (by decide) (by decide) (Zr _ (by decide))
           · rcases Xw j hj with rfl|rfl|rfl|rfl|rfl|rfl|rfl|rfl|rfl|rfl|rfl|rfl|rfl|rfl|rfl|rfl|rfl|rfl|rfl|rfl
             · exact True.intro
             · exact hF
             · exact True.intro
             · exact True.intro
             · exact True.intro
             · exact True.intro
             · exact hF
             · exact True.intro
             · exact True.intro
             · exact True.intro
             · exact True.intro
             · exact hF
             · exact True.intro
             · exact True.intro
             · exact True.intro
             · exact True.intro
             · exact absurd rfl hne
             · exact True.intro
             · exact True.intro
             · exact Zm (hW.cl (17,16) (by decide) (hW.cl (18,17) (by decide) (hW.cl (19,18) (by decide) (hl)))) hun
         · have e50:a1.tmps.getD 50 undef = .string (⟨#[102,117,110,99,32,102]⟩++(bs (Lib.itoa k))++⟨#[32]⟩++(bs (Lib.itoa fa))++⟨#[32]⟩++(bs (Lib.itoa fl))++⟨#[32]⟩):=(Ze hJ hi 13 (by kernel_rfl))
           have e53:a1.tmps.getD 53 undef = .string (bs (Lib.itoa fr)):=(Ze hJ hi 16 (by kernel_rfl))
           exact Zc hJ hW hi hun rfl (by rfl) rfl (by decide) (by decide) (Zr _ (by decide)) (w':=w') (by simp [execOp,resolve,invoke,builtin,Act.eval,e50,e53,lq,u1,u2,u3,u4,u5,u6,u7,u8,go_sem,Yj]) (⟨by decide,by kernel_rfl,True.intro⟩)
         · have e54:a1.tmps.getD 54 undef = .string (⟨#[102,117,110,99,32,102]⟩++(bs (Lib.itoa k))++⟨#[32]⟩++(bs (Lib.itoa fa))++⟨#[32]⟩++(bs (Lib.itoa fl))++⟨#[32]⟩++(bs (Lib.itoa fr))):=(Ze hJ hi 17 (by kernel_rfl))
           exact Zc hJ hW hi hun rfl (by rfl) rfl (by decide) (by decide) (Zr _ (by decide)) (w':=w') (by simp [execOp,resolve,invoke,builtin,Act.eval,e54,lq,u1,u2,u3,u4,u5,u6,u7,u8,go_sem,Yj]) (⟨by decide,by kernel_rfl,True.intro⟩)
         · have e5:a1.tmps.getD 5 undef = .pointer (some ⟨b,0,none⟩):=hJ.un 5 (fun i hi _=>Jz 5 (by decide) i hi)
           have e55:a1.tmps.getD 55 undef = .string (⟨#[102,117,110,99,32,102]⟩++bs (Lib.itoa k)++⟨#[32]⟩++bs (Lib.itoa fa)++⟨#[32]⟩++bs (Lib.itoa fl)++⟨#[32]⟩++bs (Lib.itoa fr)++⟨#[10]⟩):=(Ze hJ hi 18 (by kernel_rfl))
           have own:=hW.u hun
           refine Zx rfl (by rfl) (by simp [execOp,resolve,invoke,Act.eval,e5,e55,go_sem]) (Calls.mono (HW.out w' (Zab S7.out.bld (Za (Zf (Zd w7 none)) own)) (Nat.le_trans B7.out hg.below.size)) (fun e w2 he => ?_))
           obtain ⟨rfl,hb2,hf2⟩:=he
           refine ⟨_,rfl,?_,Zu hW (by decide) hun (by decide) (Zi _ hi (by kernel_rfl)) (Zs hg hf2) (fun hne0 hun0 hB0=>absurd rfl hne0) (fun j hj hne hl hcu hF => ?_) (hb2)⟩
           · exact Xd (val:=Yj b q k fa fl fr ((Xi k (fa,fl,fr,c)).length:Int) (bs (Lib.itoa k)) (bs (Lib.itoa fa)) (bs (Lib.itoa fl)) (bs (Lib.itoa fr)) (td++Zaj fs k++Xi k (fa,fl,fr,c)) ) (Xf hJ (Zqd hW.cl hun)) (by decide) (by decide) (Zr _ (by decide))
           · rcases Xw j hj with rfl|rfl|rfl|rfl|rfl|rfl|rfl|rfl|rfl|rfl|rfl|rfl|rfl|rfl|rfl|rfl|rfl|rfl|rfl|rfl
             · exact True.intro
             · exact hF
             · exact True.intro
             · exact True.intro
             · exact True.intro
             · exact True.intro
             · exact hF
             · exact True.intro
             · exact True.intro
             · exact True.intro
             · exact True.intro
             · exact hF
             · exact True.intro
             · exact True.intro
             · exact True.intro
             · exact True.intro
             · exact hF
             · exact True.intro
             · exact True.intro
             · exact absurd rfl hne
        case fin =>
         intro l9 a1 w9 hJJ hl9
         obtain ⟨hJ,hW9⟩:=hJJ
         have hg9:=hW9.g (Jx hW9)
         have F19:=hW9.f (Jx hW9) 19 (by decide) (hl9 19 (by decide)) (Zcc (by decide))
         have hput:=Xk hJ rfl hl9 (fun i j h1 h2 h3=>Zr j h2 i h1 h3)
         subst hput
         clear hJ hW9 hl9
         (try refine hK11 _ _ ?_)
         simp only [Je,Zud,Yj,Act.put,List.setIfInBounds_toArray,List.set_cons_zero,List.set_cons_succ]
         have F7:=Hq (show BFr b b w7 w9 from Zs (Yg (Zf (Zd w7 none)) B7.out) hg9)
         have S9:=Hq (Zbd S7.out F7.out F19 h8b.out hxw.out)
         have BQ9:=Jy F7.out BQ.out (by decide) HQ.out
         clear hg9 F19
         have y0:=Cq w9 bx 0 _ _ _ S9.out.box
         have y1:=Cq w9 bx 1 _ _ _ S9.out.box
         have y2:=Cq w9 bx 2 _ _ _ S9.out.box
         have lx9:=(Gs S9.out.box)
         have d0:=Cq w9 q 0 _ _ _ BQ9
         have d1:=Cq w9 q 1 _ _ _ BQ9
         have d2:=Cq w9 q 2 _ _ _ BQ9
         have d3:=Cq w9 q 3 _ _ _ BQ9
         have lq9:=(Gs BQ9)
         clear BQ9
         have hl1:(td++Zaj fs k++Xi k (fa,fl,fr,c)).length<=400000:=by have h1:=LK.out;have h2:=Zib (k:=k) (by omega) FO.out;rw [List.length_append];omega
         have CD:=Hq (Zrm mem fa fl fr pd (some ⟨fb,fo,none⟩) pc 0 cd fs.length cF cc c b b D (td++Zaj fs k++Xi k (fa,fl,fr,c)) w9 S9.out.lib S9.out.bld (Zdi S9.out B2.out) h8b.out (by have:=hxw.out;omega) (Zrs S9.out.fr (by have:=hxw.out;omega) CB.out) FO.out.e II.out FO.out.c.2 (by omega))
         have NL:=Hq (show td++Zaj fs k++Xi k (fa,fl,fr,c)++Jl fs.length c (c.length+1)=td++Zaj fs (k+1) by rw [Znf HX.out,List.append_assoc,List.append_assoc];rfl)
         rw [NL.out] at CD
         clear hl1
         obtain ⟨tl,htl⟩:∃ x,td++Zaj fs (k+1)=x:=⟨_,rfl⟩
         rw [htl] at CD
         have HTL:=Hq htl
         have PP:=Hq (show tl.length<=(Zfi (mem,[],fs)).length by have:=Zjk mem [] fs (k:=k+1) (by omega);rw [HT.out,htl] at this;exact this)
         clear htl NL
         by_cases hbig:65536<tl.length
         · have hbi:65536<(tl.length:Int):=by omega
           have PE:=Hq (PL.out (Nat.lt_of_lt_of_le hbig PP.out))
           clear hbig
           go_wp2_with (first
            | (go_at_call 41;refine CD.out.mono ?_;rintro e w10 ⟨rfl,hb10,hf10⟩;have S10:=Hq (Zbd S9.out hf10 hb10 h8b.out hxw.out);clear hb10 hf10)
            | (go_at_call 42;refine (Zcz b b _ _ S10.out.bld).mono ?_;rintro e w11 ⟨rfl,rfl⟩))
           go_ret2
           rw [PE.out]
           exact ⟨rfl,Zen G2.out S10.out.fr (by have:=HBX.out;have:=hxw.out;omega)⟩
         · have hbi:¬ 65536<(tl.length:Int):=by omega
           go_wp2_with (first
            | (go_at_call 41;refine CD.out.mono ?_;rintro e w10 ⟨rfl,hb10,hf10⟩;have S10:=Hq (Zbd S9.out hf10 hb10 h8b.out hxw.out);clear hb10 hf10)
            | (go_at_call 42;refine (Zcz b b _ _ S10.out.bld).mono ?_;rintro e w11 ⟨rfl,rfl⟩))
           exact ⟨⟨k+1,by go_num,by omega,by rw [HTL.out];omega,by rw [HTL.out];exact S10.out⟩,by simp [intOf];omega⟩
      · have hkn:k=fs.length:=by omega
        subst hkn
        clear hlt
        have PT:=Hq (show Zfi (mem,[],fs)=td++Zaj fs fs.length by rw [<- HT.out];rfl)
        have S10':=S.out
        obtain ⟨tl,htl⟩:∃ x,td++Zaj fs fs.length=x:=⟨_,rfl⟩
        rw [htl] at S10' PT
        have S10:=Hq S10'
        clear S10' htl S
        by_cases hbig:65536<tl.length
        · have hbi:65536<(tl.length:Int):=by omega
          have PE:=Hq (PL.out (by rw [PT.out];exact hbig))
          clear hbig
          go_wp2_with (go_at_call 42;refine (Zcz b b _ _ S10.out.bld).mono ?_;rintro e w11 ⟨rfl,rfl⟩)
          go_ret2
          rw [PE.out]
          exact ⟨rfl,Zen G2.out S10.out.fr (by have:=HBX.out;have:=hxw.out;omega)⟩
        · have hbi:¬ 65536<(tl.length:Int):=by omega
          have PE:=Hq (PO.out (by rw [PT.out];exact hbig))
          clear hbig
          go_wp2_with (first
           | (go_at_call 42;refine (Zcz b b _ _ S10.out.bld).mono ?_;rintro e w11 ⟨rfl,rfl⟩)
           | (go_at_call 43;refine (Zkl b b _ _ S10.out.bld (Zdi S10.out B2.out)).mono ?_;rintro e w12 ⟨rfl,hbel⟩;have BB:=Hq hbel;clear hbel))
          go_ret2
          rw [PE.out,PT.out]
          exact ⟨rfl,Zic G2.out (Zda S10.out.fr.below BB.out) (by have:=HBX.out;have:=hxw.out;omega)⟩
   · have WD:=Hq (fun W h hBW=>Zwz b b (Zfn mem) d hd6 W h (by unfold Zfn;have:=Lib.itoa_length_le mem (by omega) (by omega);simp only [List.length_append,List.length_cons,List.length_nil];omega) hBW)
     have hdi:0<(d.length:Int):=by
      cases d with
      | nil=>exact absurd rfl hd0
      | cons a r=>simp only [List.length_cons];omega
     rw [Zhf mem hd0] at ST
     go_wp2_with (first
      | (go_at_call 39;refine IT.out.mono ?_;rintro e w3 ⟨rfl,hg3⟩;have G3:=Hq hg3;clear hg3 IT)
      | (go_at_call 38;refine (WM.out _ (Zab S2.out.bld G3.out) (Nat.le_trans B2.out G3.out.size)).mono ?_;rintro e w4 ⟨rfl,hb4,hf4⟩;have S4:=Hq (Zbd (Zcn S2.out G3.out B2.out h8b.out hxw.out) hf4 hb4 h8b.out hxw.out);have y1:=Cq w4 bx 1 _ _ _ S4.out.box;have lx4:=(Gs S4.out.box);clear hb4 hf4 WM)
      | (go_at_call 40;refine (Zuw d pd cd _ (Ztt HD.out G2.out S4.out.fr (by have:=HBX.out;have:=hxw.out;omega)) (by omega)).mono ?_;rintro e w5 ⟨rfl,hg5⟩;have S5:=Hq (Zcn S4.out hg5 (Zdi S4.out B2.out) h8b.out hxw.out);clear hg5)
      | (go_at_call 38;refine (WD.out _ S5.out.bld (Zdi S5.out B2.out)).mono ?_;rintro e w6 ⟨rfl,hb6,hf6⟩;have S6:=Hq (Zbd S5.out hf6 hb6 h8b.out hxw.out);have y2:=Cq w6 bx 2 _ _ _ S6.out.box;have lx6:=(Gs S6.out.box);clear hb6 hf6 WD))
     clear S4 S5 y0 lx y1 y2 lx4 lx6 hd6 hdi
     obtain ⟨td,htd⟩:∃ x,Zfn mem++Zpm d=x:=⟨_,rfl⟩
     have HT:=Hq (show Zci mem d=td by rw [Zhf mem hd0];exact htd)
     have S6':=S6.out
     clear S6
     rw [htd] at S6' ST
     have S6:=Hq S6'
     clear S6' htd hd0
     go_loopw [32] (fun i wr=>∃ k:Nat,i = .int .i64 k/\k<=fs.length/\(td++Zaj fs k).length<=300000/\PtS w2 wr b b bx #[.int .i64 mem,.slice pd d.length cd,.slice pF fs.length cF] (td++Zaj fs k)) (fun i _=>fs.length - (intOf i).toNat)
     case atStart=>exact ⟨0,rfl,Nat.zero_le _,by simpa [Zaj] using ST.out,by simpa [Zaj] using S6.out⟩
     case round =>
      obtain ⟨k,rfl,hk,hlk,hS⟩:=hrel
      have S:=Hq hS
      have LK:=Hq hlk
      clear hS hlk
      by_cases hlt:k<fs.length
      · obtain ⟨⟨fa,fl,fr,c⟩,hx⟩:∃ x,fs[k]? = some x:=⟨_,List.getElem?_eq_getElem hlt⟩
        have FO:=Hq (FK.out _ (List.mem_of_getElem? hx))
        have II:=Hq (HI.out _ (List.mem_of_getElem? hx))
        have HX:=Hq hx
        obtain ⟨fb,fo,rfl,hfb,hfc⟩:=HF.out (by omega)
        obtain ⟨h0,h1,h2,pc,cc,h3,h4⟩:=hfc k fa fl fr c hx
        have hfB:fb<b:=by have:=hxw.out;omega
        have x0:=Ym S.out.fr hfB (G2.out.cell h0 (by simp))
        have x1:=Ym S.out.fr hfB (G2.out.cell h1 (by simp))
        have x2:=Ym S.out.fr hfB (G2.out.cell h2 (by simp))
        have x3:=Ym S.out.fr hfB (G2.out.cell h3 (by simp))
        have lf:fb<wr.heap.size:=Nat.lt_of_lt_of_le hfB (Zdi S.out B2.out)
        have CB:=Hq (Ji h4 G2.out (by simp))
        clear h0 h1 h2 h3 h4 hfc hx
        go_upto_region 11 with fail
        have hBr:=Zdi S.out B2.out
        have S7:=Hq (Zcn S.out (Ga wr (.cells #[.int .i64 fa,.int .i64 fl,.int .i64 fr,.slice pc c.length cc] 61) none) hBr h8b.out hxw.out)
        have BQ:=Hq (heap_alloc_new wr (.cells #[.int .i64 fa,.int .i64 fl,.int .i64 fr,.slice pc c.length cc] 61))
        have B7:=Hq (show b<=(wr.alloc (.cells #[.int .i64 fa,.int .i64 fl,.int .i64 fr,.slice pc c.length cc] 61)).heap.size by rw [World.size_alloc];omega)
        have HQ:=Hq (show wr.heap.size≠b by have:=(Znv S.out.bld).2;omega)
        generalize wr.alloc (.cells #[.int .i64 fa,.int .i64 fl,.int .i64 fr,.slice pc c.length cc] 61)=w7 at S7 BQ B7 ⊢
        obtain ⟨q,hq⟩:∃ x,wr.heap.size=x:=⟨_,rfl⟩
        rw [hq] at BQ HQ ⊢
        clear hq x0 x1 x2 x3 lf hBr
        have ja:=FO.out.a
        have jl:=FO.out.l
        have jr:=FO.out.r
        simp only at ja jl jr
        have za:=Lib.itoa_length_le fa (by omega) (by omega)
        have zl:=Lib.itoa_length_le fl (by omega) (by omega)
        have zr:=Lib.itoa_length_le fr (by omega) (by omega)
        have zk:=Lib.itoa_length_le k (by omega) (by omega)
        have IK:=Hq (fun W (hW:LibW W)=>Jr k (by omega) (by omega) W hW)
        have IA:=Hq (fun W (hW:LibW W)=>Jr fa (by omega) (by omega) W hW)
        have IL:=Hq (fun W (hW:LibW W)=>Jr fl (by omega) (by omega) W hW)
        have IR:=Hq (fun W (hW:LibW W)=>Jr fr (by omega) (by omega) W hW)
        have HW:=Hq (fun W h hBW=>Zjx b b (td++Zaj fs k) k fa fl fr c (by omega) FO.out W h (by have:=LK.out;omega) hBW)
        have u1:¬ 9223372036854775807<6+(bs (Lib.itoa k)).size:=by rw [Zj];omega
        have u2:¬ 9223372036854775807<6+(bs (Lib.itoa k)).size+1:=by rw [Zj];omega
        have u3:¬ 9223372036854775807<6+(bs (Lib.itoa k)).size+1+(bs (Lib.itoa fa)).size:=by rw [Zj,Zj];omega
        have u4:¬ 9223372036854775807<6+(bs (Lib.itoa k)).size+1+(bs (Lib.itoa fa)).size+1:=by rw [Zj,Zj];omega
        have u5:¬ 9223372036854775807<6+(bs (Lib.itoa k)).size+1+(bs (Lib.itoa fa)).size+1+(bs (Lib.itoa fl)).size:=by rw [Zj,Zj,Zj];omega
        have u6:¬ 9223372036854775807<6+(bs (Lib.itoa k)).size+1+(bs (Lib.itoa fa)).size+1+(bs (Lib.itoa fl)).size+1:=by rw [Zj,Zj,Zj];omega
        have u7:¬ 9223372036854775807<6+(bs (Lib.itoa k)).size+1+(bs (Lib.itoa fa)).size+1+(bs (Lib.itoa fl)).size+1+(bs (Lib.itoa fr)).size:=by rw [Zj,Zj,Zj,Zj];omega
        have u8:¬ 9223372036854775807<6+(bs (Lib.itoa k)).size+1+(bs (Lib.itoa fa)).size+1+(bs (Lib.itoa fl)).size+1+(bs (Lib.itoa fr)).size+1:=by rw [Zj,Zj,Zj,Zj];omega
        (try rename_i K11 hK11)
        refine Yw (n:=20) (J:=fun a0 l a1 w1=>RJ a0 66 20 Zud (Yj b q k fa fl fr ((Xi k (fa,fl,fr,c)).length:Int) (bs (Lib.itoa k)) (bs (Lib.itoa fa)) (bs (Lib.itoa fl)) (bs (Lib.itoa fr)) (td++Zaj fs k++Xi k (fa,fl,fr,c)) ) l a1/\Zbj 20 20 19 [(1,0),(2,1),(3,2),(5,4),(6,5),(7,3),(7,6),(8,7),(10,9),(11,10),(12,8),(12,11),(13,12),(15,14),(16,15),(17,13),(17,16),(18,17),(19,18)] [] (fun w9=>BFr b b w7.drew w9) (fun w9=>World.grownBy w7.drew w9 none) (Yew b q k fa fl fr ((Xi k (fa,fl,fr,c)).length:Int) (bs (Lib.itoa k)) (bs (Lib.itoa fa)) (bs (Lib.itoa fl)) (bs (Lib.itoa fr)) (td++Zaj fs k++Xi k (fa,fl,fr,c)) ) (fun _=>True) l w1) (by kernel_rfl) rfl (Xm (by kernel_rfl)) (fun l a1 w1 h=>by obtain ⟨h,_⟩:=h;exact h.sz) ⟨Yv rfl,Yb (Zde _ _ _) (Zd _ _)⟩ ?step ?fin
        case step =>
         intro l a1 w' i hJJ hi hin
         obtain ⟨hJ,hW⟩:=hJJ
         have hun:l.getD i false=false:=getD_both (mem_ready.1 hi).1
         have hns:=Jb hW hin hun
         have hg:=hW.g hns
         have BQ':=Jy (w:=w7.drew) hg BQ.out (by decide) HQ.out
         have lq:=(Array.getElem?_eq_some_iff.1 BQ').1
         rcases Xw i hin with rfl|rfl|rfl|rfl|rfl|rfl|rfl|rfl|rfl|rfl|rfl|rfl|rfl|rfl|rfl|rfl|rfl|rfl|rfl|rfl
         · have e6:a1.tmps.getD 6 undef = .int .i64 (k:Int):=hJ.un 6 (fun i hi _=>Jz 6 (by decide) i hi)
           exact Zc hJ hW hi hun rfl (by rfl) rfl (by decide) (by decide) (Zr _ (by decide)) (w':=w') (by simp [execOp,resolve,invoke,builtin,Act.eval,e6,lq,u1,u2,u3,u4,u5,u6,u7,u8,go_sem,Yj]) (⟨by decide,by kernel_rfl,True.intro⟩)
         · have e37:a1.tmps.getD 37 undef = .int .i64 (k:Int):=(Ze hJ hi 0 (by kernel_rfl))
           refine Zx rfl (by rfl) (by simp [execOp,resolve,invoke,Act.eval,e37,go_sem]) (Calls.mono (IK.out w' (Ju hg h8b.out (Zq S7.out.lib (Zf (Zd w7 none))))) (fun e w2 he => ?_))
           obtain ⟨rfl,hg2⟩:=he
           refine ⟨_,rfl,?_,Zu hW (by decide) hun (by decide) (Zi _ hi (by kernel_rfl)) (Zs hg (Yg hg2 (Nat.le_trans B7.out hg.below.size))) (fun hne0 hun0 hB0=>Za hB0 hg2) (fun j hj hne hl hcu hF => ?_) (True.intro)⟩
           · exact Xd (val:=Yj b q k fa fl fr ((Xi k (fa,fl,fr,c)).length:Int) (bs (Lib.itoa k)) (bs (Lib.itoa fa)) (bs (Lib.itoa fl)) (bs (Lib.itoa fr)) (td++Zaj fs k++Xi k (fa,fl,fr,c)) ) (Xf hJ (Zuz hW.cl hun)) (by decide) (by decide) (Zr _ (by decide))
           · rcases Xw j hj with rfl|rfl|rfl|rfl|rfl|rfl|rfl|rfl|rfl|rfl|rfl|rfl|rfl|rfl|rfl|rfl|rfl|rfl|rfl|rfl
             · exact True.intro
             · exact absurd rfl hne
             · exact True.intro
             · exact True.intro
             · exact True.intro
             · exact True.intro
             · exact hF
             · exact True.intro
             · exact True.intro
             · exact True.intro
             · exact True.intro
             · exact hF
             · exact True.intro
             · exact True.intro
             · exact True.intro
             · exact True.intro
             · exact hF
             · exact True.intro
             · exact True.intro
             · exact Zm (hW.cl (2,1) (by decide) (hW.cl (3,2) (by decide) (hW.cl (7,3) (by decide) (hW.cl (8,7) (by decide) (hW.cl (12,8) (by decide) (hW.cl (13,12) (by decide) (hW.cl (17,13) (by decide) (hW.cl (18,17) (by decide) (hW.cl (19,18) (by decide) (hl)))))))))) hun
         · have e38:a1.tmps.getD 38 undef = .string (bs (Lib.itoa k)):=(Ze hJ hi 1 (by kernel_rfl))
           exact Zc hJ hW hi hun rfl (by rfl) rfl (by decide) (by decide) (Zr _ (by decide)) (w':=w') (by simp [execOp,resolve,invoke,builtin,Act.eval,e38,lq,u1,u2,u3,u4,u5,u6,u7,u8,go_sem,Yj]) (⟨by decide,by kernel_rfl,True.intro⟩)
         · have e39:a1.tmps.getD 39 undef = .string (⟨#[102,117,110,99,32,102]⟩++(bs (Lib.itoa k))):=(Ze hJ hi 2 (by kernel_rfl))
           exact Zc hJ hW hi hun rfl (by rfl) rfl (by decide) (by decide) (Zr _ (by decide)) (w':=w') (by simp [execOp,resolve,invoke,builtin,Act.eval,e39,lq,u1,u2,u3,u4,u5,u6,u7,u8,go_sem,Yj]) (⟨by decide,by kernel_rfl,True.intro⟩)
         · have e7:a1.tmps.getD 7 undef = .pointer (some ⟨q,0,none⟩):=hJ.un 7 (fun i hi _=>Jz 7 (by decide) i hi)
           exact Zc hJ hW hi hun rfl (by rfl) rfl (by decide) (by decide) (Zr _ (by decide)) (w':=w') (by simp [execOp,resolve,invoke,builtin,Act.eval,e7,lq,u1,u2,u3,u4,u5,u6,u7,u8,go_sem,Yj]) (⟨by decide,by kernel_rfl,True.intro⟩)
         · have e41:a1.tmps.getD 41 undef = .pointer (some ⟨q,0,none⟩):=(Ze hJ hi 4 (by kernel_rfl))
           have h0:=Cq _ _ 0 _ _ _ BQ'
           exact Zc hJ hW hi hun rfl (by rfl) rfl (by decide) (by decide) (Zr _ (by decide)) (w':=w') (by simp [execOp,resolve,invoke,builtin,Act.eval,e41,h0,lq,u1,u2,u3,u4,u5,u6,u7,u8,go_sem,Yj]) (⟨by decide,by kernel_rfl,True.intro⟩)
         · have e42:a1.tmps.getD 42 undef = .int .i64 fa:=(Ze hJ hi 5 (by kernel_rfl))
           refine Zx rfl (by rfl) (by simp [execOp,resolve,invoke,Act.eval,e42,go_sem]) (Calls.mono (IA.out w' (Ju hg h8b.out (Zq S7.out.lib (Zf (Zd w7 none))))) (fun e w2 he => ?_))
           obtain ⟨rfl,hg2⟩:=he
           refine ⟨_,rfl,?_,Zu hW (by decide) hun (by decide) (Zi _ hi (by kernel_rfl)) (Zs hg (Yg hg2 (Nat.le_trans B7.out hg.below.size))) (fun hne0 hun0 hB0=>Za hB0 hg2) (fun j hj hne hl hcu hF => ?_) (True.intro)⟩
           · exact Xd (val:=Yj b q k fa fl fr ((Xi k (fa,fl,fr,c)).length:Int) (bs (Lib.itoa k)) (bs (Lib.itoa fa)) (bs (Lib.itoa fl)) (bs (Lib.itoa fr)) (td++Zaj fs k++Xi k (fa,fl,fr,c)) ) (Xf hJ (Zuy hW.cl hun)) (by decide) (by decide) (Zr _ (by decide))
           · rcases Xw j hj with rfl|rfl|rfl|rfl|rfl|rfl|rfl|rfl|rfl|rfl|rfl|rfl|rfl|rfl|rfl|rfl|rfl|rfl|rfl|rfl
             · exact True.intro
             · exact hF
             · exact True.intro
             · exact True.intro
             · exact True.intro
             · exact True.intro
             · exact absurd rfl hne
             · exact True.intro
             · exact True.intro
             · exact True.intro
             · exact True.intro
             · exact hF
             · exact True.intro
             · exact True.intro
             · exact True.intro
             · exact True.intro
             · exact hF
             · exact True.intro
             · exact True.intro
             · exact Zm (hW.cl (7,6) (by decide) (hW.cl (8,7) (by decide) (hW.cl (12,8) (by decide) (hW.cl (13,12) (by decide) (hW.cl (17,13) (by decide) (hW.cl (18,17) (by decide) (hW.cl (19,18) (by decide) (hl)))))))) hun
         · have e40:a1.tmps.getD 40 undef = .string (⟨#[102,117,110,99,32,102]⟩++(bs (Lib.itoa k))++⟨#[32]⟩):=(Ze hJ hi 3 (by kernel_rfl))
           have e43:a1.tmps.getD 43 undef = .string (bs (Lib.itoa fa)):=(Ze hJ hi 6 (by kernel_rfl))
           exact Zc hJ hW hi hun rfl (by rfl) rfl (by decide) (by decide) (Zr _ (by decide)) (w':=w') (by simp [execOp,resolve,invoke,builtin,Act.eval,e40,e43,lq,u1,u2,u3,u4,u5,u6,u7,u8,go_sem,Yj]) (⟨by decide,by kernel_rfl,True.intro⟩)
         · have e44:a1.tmps.getD 44 undef = .string (⟨#[102,117,110,99,32,102]⟩++(bs (Lib.itoa k))++⟨#[32]⟩++(bs (Lib.itoa fa))):=(Ze hJ hi 7 (by kernel_rfl))
           exact Zc hJ hW hi hun rfl (by rfl) rfl (by decide) (by decide) (Zr _ (by decide)) (w':=w') (by simp [execOp,resolve,invoke,builtin,Act.eval,e44,lq,u1,u2,u3,u4,u5,u6,u7,u8,go_sem,Yj]) (⟨by decide,by kernel_rfl,True.intro⟩)
         · have e7:a1.tmps.getD 7 undef = .pointer (some ⟨q,0,none⟩):=hJ.un 7 (fun i hi _=>Jz 7 (by decide) i hi)
           exact Zc hJ hW hi hun rfl (by rfl) rfl (by decide) (by decide) (Zr _ (by decide)) (w':=w') (by simp [execOp,resolve,invoke,builtin,Act.eval,e7,lq,u1,u2,u3,u4,u5,u6,u7,u8,go_sem,Yj]) (⟨by decide,by kernel_rfl,True.intro⟩)
         · have e46:a1.tmps.getD 46 undef = .pointer (some ⟨q,1,none⟩):=(Ze hJ hi 9 (by kernel_rfl))
           have h0:=Cq _ _ 1 _ _ _ BQ'
           exact Zc hJ hW hi hun rfl (by rfl) rfl (by decide) (by decide) (Zr _ (by decide)) (w':=w') (by simp [execOp,resolve,invoke,builtin,Act.eval,e46,h0,lq,u1,u2,u3,u4,u5,u6,u7,u8,go_sem,Yj]) (⟨by decide,by kernel_rfl,True.intro⟩)
         · have e47:a1.tmps.getD 47 undef = .int .i64 fl:=(Ze hJ hi 10 (by kernel_rfl))
           refine Zx rfl (by rfl) (by simp [execOp,resolve,invoke,Act.eval,e47,go_sem]) (Calls.mono (IL.out w' (Ju hg h8b.out (Zq S7.out.lib (Zf (Zd w7 none))))) (fun e w2 he => ?_))
           obtain ⟨rfl,hg2⟩:=he
           refine ⟨_,rfl,?_,Zu hW (by decide) hun (by decide) (Zi _ hi (by kernel_rfl)) (Zs hg (Yg hg2 (Nat.le_trans B7.out hg.below.size))) (fun hne0 hun0 hB0=>Za hB0 hg2) (fun j hj hne hl hcu hF => ?_) (True.intro)⟩
           · exact Xd (val:=Yj b q k fa fl fr ((Xi k (fa,fl,fr,c)).length:Int) (bs (Lib.itoa k)) (bs (Lib.itoa fa)) (bs (Lib.itoa fl)) (bs (Lib.itoa fr)) (td++Zaj fs k++Xi k (fa,fl,fr,c)) ) (Xf hJ (Zqf hW.cl hun)) (by decide) (by decide) (Zr _ (by decide))
           · rcases Xw j hj with rfl|rfl|rfl|rfl|rfl|rfl|rfl|rfl|rfl|rfl|rfl|rfl|rfl|rfl|rfl|rfl|rfl|rfl|rfl|rfl
             · exact True.intro
             · exact hF
             · exact True.intro
             · exact True.intro
             · exact True.intro
             · exact True.intro
             · exact hF
             · exact True.intro
             · exact True.intro
             · exact True.intro
             · exact True.intro
             · exact absurd rfl hne
             · exact True.intro
             · exact True.intro
             · exact True.intro
             · exact True.intro
             · exact hF
             · exact True.intro
             · exact True.intro
             · exact Zm (hW.cl (12,11) (by decide) (hW.cl (13,12) (by decide) (hW.cl (17,13) (by decide) (hW.cl (18,17) (by decide) (hW.cl (19,18) (by decide) (hl)))))) hun
         · have e45:a1.tmps.getD 45 undef = .string (⟨#[102,117,110,99,32,102]⟩++(bs (Lib.itoa k))++⟨#[32]⟩++(bs (Lib.itoa fa))++⟨#[32]⟩):=(Ze hJ hi 8 (by kernel_rfl))
           have e48:a1.tmps.getD 48 undef = .string (bs (Lib.itoa fl)):=(Ze hJ hi 11 (by kernel_rfl))
           exact Zc hJ hW hi hun rfl (by rfl) rfl (by decide) (by decide) (Zr _ (by decide)) (w':=w') (by simp [execOp,resolve,invoke,builtin,Act.eval,e45,e48,lq,u1,u2,u3,u4,u5,u6,u7,u8,go_sem,Yj]) (⟨by decide,by kernel_rfl,True.intro⟩)
         · have e49:a1.tmps.getD 49 undef = .string (⟨#[102,117,110,99,32,102]⟩++(bs (Lib.itoa k))++⟨#[32]⟩++(bs (Lib.itoa fa))++⟨#[32]⟩++(bs (Lib.itoa fl))):=(Ze hJ hi 12 (by kernel_rfl))
           exact Zc hJ hW hi hun rfl (by rfl) rfl (by decide) (by decide) (Zr _ (by decide)) (w':=w') (by simp [execOp,resolve,invoke,builtin,Act.eval,e49,lq,u1,u2,u3,u4,u5,u6,u7,u8,go_sem,Yj]) (⟨by decide,by kernel_rfl,True.intro⟩)
         · have e7:a1.tmps.getD 7 undef = .pointer (some ⟨q,0,none⟩):=hJ.un 7 (fun i hi _=>Jz 7 (by decide) i hi)
           exact Zc hJ hW hi hun rfl (by rfl) rfl (by decide) (by decide) (Zr _ (by decide)) (w':=w') (by simp [execOp,resolve,invoke,builtin,Act.eval,e7,lq,u1,u2,u3,u4,u5,u6,u7,u8,go_sem,Yj]) (⟨by decide,by kernel_rfl,True.intro⟩)
         · have e51:a1.tmps.getD 51 undef = .pointer (some ⟨q,2,none⟩):=(Ze hJ hi 14 (by kernel_rfl))
           have h0:=Cq _ _ 2 _ _ _ BQ'
           exact Zc hJ hW hi hun rfl (by rfl) rfl (by decide) (by decide) (Zr _ (by decide)) (w':=w') (by simp [execOp,resolve,invoke,builtin,Act.eval,e51,h0,lq,u1,u2,u3,u4,u5,u6,u7,u8,go_sem,Yj]) (⟨by decide,by kernel_rfl,True.intro⟩)
         · have e52:a1.tmps.getD 52 undef = .int .i64 fr:=(Ze hJ hi 15 (by kernel_rfl))
           refine Zx rfl (by rfl) (by simp [execOp,resolve,invoke,Act.eval,e52,go_sem]) (Calls.mono (IR.out w' (Ju hg h8b.out (Zq S7.out.lib (Zf (Zd w7 none))))) (fun e w2 he => ?_))
           obtain ⟨rfl,hg2⟩:=he
           refine ⟨_,rfl,?_,Zu hW (by decide) hun (by decide) (Zi _ hi (by kernel_rfl)) (Zs hg (Yg hg2 (Nat.le_trans B7.out hg.below.size))) (fun hne0 hun0 hB0=>Za hB0 hg2) (fun j hj hne hl hcu hF => ?_) (True.intro)⟩
           · exact Xd (val:=Yj b q k fa fl fr ((Xi k (fa,fl,fr,c)).length:Int) (bs (Lib.itoa k)) (bs (Lib.itoa fa)) (bs (Lib.itoa fl)) (bs (Lib.itoa fr)) (td++Zaj fs k++Xi k (fa,fl,fr,c)) ) (Xf hJ (Zqe hW.cl hun)) (by decide) (by decide) (Zr _ (by decide))
           · rcases Xw j hj with rfl|rfl|rfl|rfl|rfl|rfl|rfl|rfl|rfl|rfl|rfl|rfl|rfl|rfl|rfl|rfl|rfl|rfl|rfl|rfl
             · exact True.intro
             · exact hF
             · exact True.intro
             · exact True.intro
             · exact True.intro
             · exact True.intro
             · exact hF
             · exact True.intro
             · exact True.intro
             · exact True.intro
             · exact True.intro
             · exact hF
             · exact True.intro
             · exact True.intro
             · exact True.intro
             · exact True.intro
             · exact absurd rfl hne
             · exact True.intro
             · exact True.intro
             · exact Zm (hW.cl (17,16) (by decide) (hW.cl (18,17) (by decide) (hW.cl (19,18) (by decide) (hl)))) hun
         · have e50:a1.tmps.getD 50 undef = .string (⟨#[102,117,110,99,32,102]⟩++(bs (Lib.itoa k))++⟨#[32]⟩++(bs (Lib.itoa fa))++⟨#[32]⟩++(bs (Lib.itoa fl))++⟨#[32]⟩):=(Ze hJ hi 13 (by kernel_rfl))
           have e53:a1.tmps.getD 53 undef = .string (bs (Lib.itoa fr)):=(Ze hJ hi 16 (by kernel_rfl))
           exact Zc hJ hW hi hun rfl (by rfl) rfl (by decide) (by decide) (Zr _ (by decide)) (w':=w') (by simp [execOp,resolve,invoke,builtin,Act.eval,e50,e53,lq,u1,u2,u3,u4,u5,u6,u7,u8,go_sem,Yj]) (⟨by decide,by kernel_rfl,True.intro⟩)
         · have e54:a1.tmps.getD 54 undef = .string (⟨#[102,117,110,99,32,102]⟩++(bs (Lib.itoa k))++⟨#[32]⟩++(bs (Lib.itoa fa))++⟨#[32]⟩++(bs (Lib.itoa fl))++⟨#[32]⟩++(bs (Lib.itoa fr))):=(Ze hJ hi 17 (by kernel_rfl))
           exact Zc hJ hW hi hun rfl (by rfl) rfl (by decide) (by decide) (Zr _ (by decide)) (w':=w') (by simp [execOp,resolve,invoke,builtin,Act.eval,e54,lq,u1,u2,u3,u4,u5,u6,u7,u8,go_sem,Yj]) (⟨by decide,by kernel_rfl,True.intro⟩)
         · have e5:a1.tmps.getD 5 undef = .pointer (some ⟨b,0,none⟩):=hJ.un 5 (fun i hi _=>Jz 5 (by decide) i hi)
           have e55:a1.tmps.getD 55 undef = .string (⟨#[102,117,110,99,32,102]⟩++bs (Lib.itoa k)++⟨#[32]⟩++bs (Lib.itoa fa)++⟨#[32]⟩++bs (Lib.itoa fl)++⟨#[32]⟩++bs (Lib.itoa fr)++⟨#[10]⟩):=(Ze hJ hi 18 (by kernel_rfl))
           have own:=hW.u hun
           refine Zx rfl (by rfl) (by simp [execOp,resolve,invoke,Act.eval,e5,e55,go_sem]) (Calls.mono (HW.out w' (Zab S7.out.bld (Za (Zf (Zd w7 none)) own)) (Nat.le_trans B7.out hg.below.size)) (fun e w2 he => ?_))
           obtain ⟨rfl,hb2,hf2⟩:=he
           refine ⟨_,rfl,?_,Zu hW (by decide) hun (by decide) (Zi _ hi (by kernel_rfl)) (Zs hg hf2) (fun hne0 hun0 hB0=>absurd rfl hne0) (fun j hj hne hl hcu hF => ?_) (hb2)⟩
           · exact Xd (val:=Yj b q k fa fl fr ((Xi k (fa,fl,fr,c)).length:Int) (bs (Lib.itoa k)) (bs (Lib.itoa fa)) (bs (Lib.itoa fl)) (bs (Lib.itoa fr)) (td++Zaj fs k++Xi k (fa,fl,fr,c)) ) (Xf hJ (Zqd hW.cl hun)) (by decide) (by decide) (Zr _ (by decide))
           · rcases Xw j hj with rfl|rfl|rfl|rfl|rfl|rfl|rfl|rfl|rfl|rfl|rfl|rfl|rfl|rfl|rfl|rfl|rfl|rfl|rfl|rfl
             · exact True.intro
             · exact hF
             · exact True.intro
             · exact True.intro
             · exact True.intro
             · exact True.intro
             · exact hF
             · exact True.intro
             · exact True.intro
             · exact True.intro
             · exact True.intro
             · exact hF
             · exact True.intro
             · exact True.intro
             · exact True.intro
             · exact True.intro
             · exact hF
             · exact True.intro
             · exact True.intro
             · exact absurd rfl hne
        case fin =>
         intro l9 a1 w9 hJJ hl9
         obtain ⟨hJ,hW9⟩:=hJJ
         have hg9:=hW9.g (Jx hW9)
         have F19:=hW9.f (Jx hW9) 19 (by decide) (hl9 19 (by decide)) (Zcc (by decide))
         have hput:=Xk hJ rfl hl9 (fun i j h1 h2 h3=>Zr j h2 i h1 h3)
         subst hput
         clear hJ hW9 hl9
         (try refine hK11 _ _ ?_)
         simp only [Je,Zud,Yj,Act.put,List.setIfInBounds_toArray,List.set_cons_zero,List.set_cons_succ]
         have F7:=Hq (show BFr b b w7 w9 from Zs (Yg (Zf (Zd w7 none)) B7.out) hg9)
         have S9:=Hq (Zbd S7.out F7.out F19 h8b.out hxw.out)
         have BQ9:=Jy F7.out BQ.out (by decide) HQ.out
         clear hg9 F19
         have y0:=Cq w9 bx 0 _ _ _ S9.out.box
         have y1:=Cq w9 bx 1 _ _ _ S9.out.box
         have y2:=Cq w9 bx 2 _ _ _ S9.out.box
         have lx9:=(Gs S9.out.box)
         have d0:=Cq w9 q 0 _ _ _ BQ9
         have d1:=Cq w9 q 1 _ _ _ BQ9
         have d2:=Cq w9 q 2 _ _ _ BQ9
         have d3:=Cq w9 q 3 _ _ _ BQ9
         have lq9:=(Gs BQ9)
         clear BQ9
         have hl1:(td++Zaj fs k++Xi k (fa,fl,fr,c)).length<=400000:=by have h1:=LK.out;have h2:=Zib (k:=k) (by omega) FO.out;rw [List.length_append];omega
         have CD:=Hq (Zrm mem fa fl fr pd (some ⟨fb,fo,none⟩) pc d.length cd fs.length cF cc c b b D (td++Zaj fs k++Xi k (fa,fl,fr,c)) w9 S9.out.lib S9.out.bld (Zdi S9.out B2.out) h8b.out (by have:=hxw.out;omega) (Zrs S9.out.fr (by have:=hxw.out;omega) CB.out) FO.out.e II.out FO.out.c.2 (by omega))
         have NL:=Hq (show td++Zaj fs k++Xi k (fa,fl,fr,c)++Jl fs.length c (c.length+1)=td++Zaj fs (k+1) by rw [Znf HX.out,List.append_assoc,List.append_assoc];rfl)
         rw [NL.out] at CD
         clear hl1
         obtain ⟨tl,htl⟩:∃ x,td++Zaj fs (k+1)=x:=⟨_,rfl⟩
         rw [htl] at CD
         have HTL:=Hq htl
         have PP:=Hq (show tl.length<=(Zfi (mem,d,fs)).length by have:=Zjk mem d fs (k:=k+1) (by omega);rw [HT.out,htl] at this;exact this)
         clear htl NL
         by_cases hbig:65536<tl.length
         · have hbi:65536<(tl.length:Int):=by omega
           have PE:=Hq (PL.out (Nat.lt_of_lt_of_le hbig PP.out))
           clear hbig
           go_wp2_with (first
            | (go_at_call 41;refine CD.out.mono ?_;rintro e w10 ⟨rfl,hb10,hf10⟩;have S10:=Hq (Zbd S9.out hf10 hb10 h8b.out hxw.out);clear hb10 hf10)
            | (go_at_call 42;refine (Zcz b b _ _ S10.out.bld).mono ?_;rintro e w11 ⟨rfl,rfl⟩))
           go_ret2
           rw [PE.out]
           exact ⟨rfl,Zen G2.out S10.out.fr (by have:=HBX.out;have:=hxw.out;omega)⟩
         · have hbi:¬ 65536<(tl.length:Int):=by omega
           go_wp2_with (first
            | (go_at_call 41;refine CD.out.mono ?_;rintro e w10 ⟨rfl,hb10,hf10⟩;have S10:=Hq (Zbd S9.out hf10 hb10 h8b.out hxw.out);clear hb10 hf10)
            | (go_at_call 42;refine (Zcz b b _ _ S10.out.bld).mono ?_;rintro e w11 ⟨rfl,rfl⟩))
           exact ⟨⟨k+1,by go_num,by omega,by rw [HTL.out];omega,by rw [HTL.out];exact S10.out⟩,by simp [intOf];omega⟩
      · have hkn:k=fs.length:=by omega
        subst hkn
        clear hlt
        have PT:=Hq (show Zfi (mem,d,fs)=td++Zaj fs fs.length by rw [<- HT.out];rfl)
        have S10':=S.out
        obtain ⟨tl,htl⟩:∃ x,td++Zaj fs fs.length=x:=⟨_,rfl⟩
        rw [htl] at S10' PT
        have S10:=Hq S10'
        clear S10' htl S
        by_cases hbig:65536<tl.length
        · have hbi:65536<(tl.length:Int):=by omega
          have PE:=Hq (PL.out (by rw [PT.out];exact hbig))
          clear hbig
          go_wp2_with (go_at_call 42;refine (Zcz b b _ _ S10.out.bld).mono ?_;rintro e w11 ⟨rfl,rfl⟩)
          go_ret2
          rw [PE.out]
          exact ⟨rfl,Zen G2.out S10.out.fr (by have:=HBX.out;have:=hxw.out;omega)⟩
        · have hbi:¬ 65536<(tl.length:Int):=by omega
          have PE:=Hq (PO.out (by rw [PT.out];exact hbig))
          clear hbig
          go_wp2_with (first
           | (go_at_call 42;refine (Zcz b b _ _ S10.out.bld).mono ?_;rintro e w11 ⟨rfl,rfl⟩)
           | (go_at_call 43;refine (Zkl b b _ _ S10.out.bld (Zdi S10.out B2.out)).mono ?_;rintro e w12 ⟨rfl,hbel⟩;have BB:=Hq hbel;clear hbel))
          go_ret2
          rw [PE.out,PT.out]
          exact ⟨rfl,Zic G2.out (Zda S10.out.fr.below BB.out) (by have:=HBX.out;have:=hxw.out;omega)⟩
 · have PB:=Hq (Ycd (mem:=mem) (d:=d) (fs:=fs) he)
   obtain ⟨ev,hev⟩:∃ x,Jv mem d.length fs=x:=⟨_,rfl⟩
   rw [hev] at PB CK he
   have hne:(ev != 0)=true:=by rw [bne_iff_ne];exact he
   clear hev he
   go_enter Tryz.func18,Tryz.ntmps18
   go_wp2_with (go_at_call 30;refine CK.out.mono ?_;rintro e w1 ⟨rfl,hg1⟩;have G1:=Hq (Za (Ga w (.cells #[.int .i64 mem,.slice pd d.length cd,.slice pF fs.length cF] 26) none) hg1);clear hg1)
   go_ret2
   rw [PB.out]
   exact ⟨rfl,G1.out⟩
end Go.Proofs.YteciblfmgdlipaaGreatDoor.AS
