/-
  Part of a proof: contracts of functions and lemmas, each stated by its own theorem. Conditions: as each theorem states.
-/
import Derived.Test.YthlkflagancdfaaML30
import Derived.Deep.Cut
import Derived.Outline
set_option linter.unusedSimpArgs false
set_option linter.unusedVariables false
set_option maxRecDepth 100000
set_option maxHeartbeats 16000000
namespace Go.Proofs.Ythlkflagancdfaa.OT
open Go.RowKit Go.Great
open Go.Proofs.Ythlkflagancdfaa.CK
theorem Yvi {w:World} {e:Nat} {x:Value} {t:TypeId} (h:w.heap[e]? = some (.cells #[x] t (0,0))):Rd w (some ⟨e,0,none⟩) [x]:=fun _=>⟨e,0,rfl,fun j u hj=>by
 rw [Nat.zero_add]
 match j,hj with
 | 0,hj=>injection hj with hj;subst hj;exact Cq _ _ 0 _ _ _ h⟩
theorem Zyo {w:World} {e:Nat} {x y:Value} {t:TypeId} (h:w.heap[e]? = some (.cells #[x,y] t (0,0))):Rd w (some ⟨e,0,none⟩) [x,y]:=fun _=>⟨e,0,rfl,fun j u hj=>by
 rw [Nat.zero_add]
 match j,hj with
 | 0,hj=>injection hj with hj;subst hj;exact Cq _ _ 0 _ _ _ h
 | 1,hj=>injection hj with hj;subst hj;exact Cq _ _ 1 _ _ _ h⟩
theorem Yqt {w:World} {e:Nat} {x y z u:Value} {t:TypeId} (h:w.heap[e]? = some (.cells #[x,y,z,u] t (0,0))):Rd w (some ⟨e,0,none⟩) [x,y,z,u]:=fun _=>⟨e,0,rfl,fun j u hj=>by
 rw [Nat.zero_add]
 match j,hj with
 | 0,hj=>injection hj with hj;subst hj;exact Cq _ _ 0 _ _ _ h
 | 1,hj=>injection hj with hj;subst hj;exact Cq _ _ 1 _ _ _ h
 | 2,hj=>injection hj with hj;subst hj;exact Cq _ _ 2 _ _ _ h
 | 3,hj=>injection hj with hj;subst hj;exact Cq _ _ 3 _ _ _ h⟩
theorem Ysp (w:World):(Instr.buildSlice 23 1 #[(0,.agg #[.int .i64 (-7),.int .i64 0,.int .i64 0,.slice none 0 0])]).run Try.prog w = .ok (.slice (some ⟨w.heap.size,0,none⟩) 1 1) (w.alloc (.cells #[.int .i64 (-7),.int .i64 0,.int .i64 0,.slice none 0 0] 52)):=by kernel_rfl
theorem Yso (w:World):(Instr.buildSlice 50 1 #[(0,.agg #[.int .i64 (-7),.int .i64 0])]).run Try.prog w = .ok (.slice (some ⟨w.heap.size,0,none⟩) 1 1) (w.alloc (.cells #[.int .i64 (-7),.int .i64 0] 49)):=by kernel_rfl
theorem Znc {cv:List Value} {S:Nat->Prop}:∀ k v,S k->cv[k]? = some v->v.ownBlock=none\/v.ownBlock≠none:=fun _ _ _ _=>Classical.em _
def ld2:Nat->Nat
 | 0=>7
 | 1=>8
 | 2=>9
 | 3=>10
 | 4=>11
 | 5=>12
 | 6=>13
 | 7=>14
 | 8=>15
 | 9=>1009
 | _=>5000
theorem Zhd:∀ i,i<10->∀ j,j<10->j≠i->ld2 j≠ld2 i:=by decide
theorem Zpd (i:Nat) (h:i<10):i=0\/i=1\/i=2\/i=3\/i=4\/i=5\/i=6\/i=7\/i=8\/i=9:=by omega
theorem Zwy (j:Nat) (hj:j∈[1,3]):∀ i,i<10->ld2 i≠j:=by revert j;decide
def Znt (bs b1 b3 nd cd cD:Nat) (pd pD:Option Addr) (xs:List Value) (q2:Nat) (gv:Nat) (cv9:Nat):Nat->Value
 | 0 => .pointer (some ⟨b3,1,none⟩)
 | 1 => .slice pD nd cD
 | 2 => .slice (some ⟨q2,0,none⟩) 1 1
 | 3 => .slice (some ⟨gv,0,none⟩) (nd+1) cv9
 | 4 => .pointer (some ⟨b1,1,none⟩)
 | 5 => .slice pd nd cd
 | 6 => .int .i64 nd
 | 7 => .slice (some ⟨gv,0,none⟩) nd cv9
 | 8 => .pointer (some ⟨b3,1,none⟩)
 | 9=>undef
 | _=>undef
def Xcw (bs b1 b3 nd cd cD:Nat) (pd pD:Option Addr) (xs:List Value) (q2:Nat) (gv:Nat) (cv9:Nat):Nat->World->Prop
 | 2=>fun w9=>w9.heap[q2]? = some (.cells #[.int .u8 169] 5 (0,0))
 | 3=>fun w9=>w9.ownsRow bs 5 1 (.slice (some ⟨gv,0,none⟩) (nd+1) cv9) (nd+1) (xs++[.int .u8 169])
 | _=>fun _=>True
theorem Yxf {bs b1 b3 nd cd cD:Nat} {pd pD:Option Addr} {xs:List Value} {q2:Nat} {gv:Nat} {cv9:Nat} {q22:Nat} {l:Array Bool} (hcl:∀ p∈([(1,0),(3,1),(3,2),(5,4),(6,5),(7,3),(7,6),(9,8),(9,7)]:List (Nat × Nat)),l.getD (Prod.fst p) false=true->l.getD (Prod.snd p) false=true) (hun:l.getD 2 false=false):∀ i,i<10->l.getD i false=true->ld2 i<56->Znt bs b1 b3 nd cd cD pd pD xs q22 gv cv9 i=Znt bs b1 b3 nd cd cD pd pD xs q2 gv cv9 i:=by
 intro i hi hl _
 rcases Zpd i hi with rfl|rfl|rfl|rfl|rfl|rfl|rfl|rfl|rfl|rfl
 · rfl
 · rfl
 · exact Yq (hl) hun
 · rfl
 · rfl
 · rfl
 · rfl
 · rfl
 · rfl
 · rfl
theorem Yxe {bs b1 b3 nd cd cD:Nat} {pd pD:Option Addr} {xs:List Value} {q2:Nat} {gv:Nat} {cv9:Nat} {gv2:Nat} {cv92:Nat} {l:Array Bool} (hcl:∀ p∈([(1,0),(3,1),(3,2),(5,4),(6,5),(7,3),(7,6),(9,8),(9,7)]:List (Nat × Nat)),l.getD (Prod.fst p) false=true->l.getD (Prod.snd p) false=true) (hun:l.getD 3 false=false):∀ i,i<10->l.getD i false=true->ld2 i<56->Znt bs b1 b3 nd cd cD pd pD xs q2 gv2 cv92 i=Znt bs b1 b3 nd cd cD pd pD xs q2 gv cv9 i:=by
 intro i hi hl _
 rcases Zpd i hi with rfl|rfl|rfl|rfl|rfl|rfl|rfl|rfl|rfl|rfl
 · rfl
 · rfl
 · rfl
 · exact Yq (hl) hun
 · rfl
 · rfl
 · rfl
 · exact Yq (hcl (7,3) (by decide) (hl)) hun
 · rfl
 · rfl
def ld3:Nat->Nat
 | 0=>16
 | 1=>17
 | 2=>18
 | 3=>19
 | 4=>20
 | 5=>21
 | 6=>22
 | 7=>23
 | 8=>24
 | 9=>25
 | 10=>1010
 | _=>5000
theorem Zgc:∀ i,i<11->∀ j,j<11->j≠i->ld3 j≠ld3 i:=by decide
theorem Zpc (i:Nat) (h:i<11):i=0\/i=1\/i=2\/i=3\/i=4\/i=5\/i=6\/i=7\/i=8\/i=9\/i=10:=by omega
theorem Zwx (j:Nat) (hj:j∈[1,3]):∀ i,i<11->ld3 i≠j:=by revert j;decide
def Zmr (bs b1 b3 nf cF cF3:Nat) (pF pF3:Option Addr) (xs:List Value) (q3:Nat) (gF:Nat) (cF9:Nat):Nat->Value
 | 0 => .pointer (some ⟨b3,2,none⟩)
 | 1 => .slice pF3 nf cF3
 | 2 => .agg #[.int .i64 (-7),.int .i64 0,.int .i64 0,.slice none 0 0]
 | 3 => .slice (some ⟨q3,0,none⟩) 1 1
 | 4 => .slice (some ⟨gF,0,none⟩) (nf+1) cF9
 | 5 => .pointer (some ⟨b1,2,none⟩)
 | 6 => .slice pF nf cF
 | 7 => .int .i64 nf
 | 8 => .slice (some ⟨gF,0,none⟩) nf cF9
 | 9 => .pointer (some ⟨b3,2,none⟩)
 | 10=>undef
 | _=>undef
def Xcv (bs b1 b3 nf cF cF3:Nat) (pF pF3:Option Addr) (xs:List Value) (q3:Nat) (gF:Nat) (cF9:Nat):Nat->World->Prop
 | 3=>fun w9=>w9.heap[q3]? = some (.cells #[.int .i64 (-7),.int .i64 0,.int .i64 0,.slice none 0 0] 52 (0,0))
 | 4=>fun w9=>w9.ownsRow bs 52 4 (.slice (some ⟨gF,0,none⟩) (nf+1) cF9) (nf+1) (xs++[.int .i64 (-7),.int .i64 0,.int .i64 0,.slice none 0 0])
 | _=>fun _=>True
theorem Yxd {bs b1 b3 nf cF cF3:Nat} {pF pF3:Option Addr} {xs:List Value} {q3:Nat} {gF:Nat} {cF9:Nat} {q32:Nat} {l:Array Bool} (hcl:∀ p∈([(1,0),(3,2),(4,1),(4,3),(6,5),(7,6),(8,4),(8,7),(10,9),(10,8)]:List (Nat × Nat)),l.getD (Prod.fst p) false=true->l.getD (Prod.snd p) false=true) (hun:l.getD 3 false=false):∀ i,i<11->l.getD i false=true->ld3 i<56->Zmr bs b1 b3 nf cF cF3 pF pF3 xs q32 gF cF9 i=Zmr bs b1 b3 nf cF cF3 pF pF3 xs q3 gF cF9 i:=by
 intro i hi hl _
 rcases Zpc i hi with rfl|rfl|rfl|rfl|rfl|rfl|rfl|rfl|rfl|rfl|rfl
 · rfl
 · rfl
 · rfl
 · exact Yq (hl) hun
 · rfl
 · rfl
 · rfl
 · rfl
 · rfl
 · rfl
 · rfl
theorem Yxc {bs b1 b3 nf cF cF3:Nat} {pF pF3:Option Addr} {xs:List Value} {q3:Nat} {gF:Nat} {cF9:Nat} {gF2:Nat} {cF92:Nat} {l:Array Bool} (hcl:∀ p∈([(1,0),(3,2),(4,1),(4,3),(6,5),(7,6),(8,4),(8,7),(10,9),(10,8)]:List (Nat × Nat)),l.getD (Prod.fst p) false=true->l.getD (Prod.snd p) false=true) (hun:l.getD 4 false=false):∀ i,i<11->l.getD i false=true->ld3 i<56->Zmr bs b1 b3 nf cF cF3 pF pF3 xs q3 gF2 cF92 i=Zmr bs b1 b3 nf cF cF3 pF pF3 xs q3 gF cF9 i:=by
 intro i hi hl _
 rcases Zpc i hi with rfl|rfl|rfl|rfl|rfl|rfl|rfl|rfl|rfl|rfl|rfl
 · rfl
 · rfl
 · rfl
 · rfl
 · exact Yq (hl) hun
 · rfl
 · rfl
 · rfl
 · exact Yq (hcl (8,4) (by decide) (hl)) hun
 · rfl
 · rfl
def ld7:Nat->Nat
 | 0=>33
 | 1=>34
 | 2=>35
 | 3=>36
 | 4=>37
 | 5=>38
 | 6=>39
 | 7=>40
 | 8=>41
 | 9=>42
 | 10=>43
 | 11=>44
 | 12=>45
 | 13=>46
 | 14=>47
 | 15=>48
 | 16=>49
 | 17=>50
 | 18=>51
 | 19=>52
 | 20=>53
 | 21=>54
 | 22=>1022
 | _=>5000
theorem Jz:∀ i,i<23->∀ j,j<23->j≠i->ld7 j≠ld7 i:=by decide
theorem Zpb (i:Nat) (h:i<23):i=0\/i=1\/i=2\/i=3\/i=4\/i=5\/i=6\/i=7\/i=8\/i=9\/i=10\/i=11\/i=12\/i=13\/i=14\/i=15\/i=16\/i=17\/i=18\/i=19\/i=20\/i=21\/i=22:=by omega
theorem Zjo (j:Nat) (hj:j∈[1,3,4]):∀ i,i<23->ld7 i≠j:=by revert j;decide
def Zds (bs b1 b3 k nf gF cF9 gb ob cF nc cc cc0:Nat) (pc pc0:Option Addr) (xs cvl:List Value) (q7:Nat) (gn:Nat) (cn:Nat):Nat->Value
 | 0 => .pointer (some ⟨b3,2,none⟩)
 | 1 => .slice (some ⟨gF,0,none⟩) nf cF9
 | 2 => .int .i64 k
 | 3 => .pointer (some ⟨b3,2,none⟩)
 | 4 => .slice (some ⟨gF,0,none⟩) nf cF9
 | 5 => .int .i64 k
 | 6 => .pointer (some ⟨gF,k*4,none⟩)
 | 7 => .pointer (some ⟨gF,k*4+3,none⟩)
 | 8 => .slice pc nc cc
 | 9 => .agg #[.int .i64 (-7),.int .i64 0]
 | 10 => .slice (some ⟨q7,0,none⟩) 1 1
 | 11 => .slice (some ⟨gn,0,none⟩) (nc+1) cn
 | 12 => .pointer (some ⟨b1,2,none⟩)
 | 13 => .slice (some ⟨gb,ob,none⟩) nf cF
 | 14 => .int .i64 k
 | 15 => .pointer (some ⟨gb,ob+k*4,none⟩)
 | 16 => .pointer (some ⟨gb,ob+k*4+3,none⟩)
 | 17 => .slice pc0 nc cc0
 | 18 => .int .i64 nc
 | 19 => .slice (some ⟨gn,0,none⟩) nc cn
 | 20 => .pointer (some ⟨gF,k*4,none⟩)
 | 21 => .pointer (some ⟨gF,k*4+3,none⟩)
 | 22=>undef
 | _=>undef
def Xcu (bs b1 b3 k nf gF cF9 gb ob cF nc cc cc0:Nat) (pc pc0:Option Addr) (xs cvl:List Value) (q7:Nat) (gn:Nat) (cn:Nat):Nat->World->Prop
 | 10=>fun w9=>w9.heap[q7]? = some (.cells #[.int .i64 (-7),.int .i64 0] 49 (0,0))
 | 11=>fun w9=>w9.ownsRow bs 49 2 (.slice (some ⟨gn,0,none⟩) (nc+1) cn) (nc+1) xs/\∀ j u,j≠k->cvl[j]? = some u->u.ownBlock=none\/u.ownBlock≠some gn
 | _=>fun _=>True
theorem Ysb {bs b1 b3 k nf gF cF9 gb ob cF nc cc cc0:Nat} {pc pc0:Option Addr} {xs cvl:List Value} {q7:Nat} {gn:Nat} {cn:Nat} {q72:Nat} {l:Array Bool} (hcl:∀ p∈([(1,0),(4,3),(6,4),(6,5),(7,6),(8,7),(10,9),(11,8),(11,10),(13,12),(15,13),(15,14),(16,15),(17,16),(18,17),(19,11),(19,18),(20,1),(20,2),(21,20),(22,21),(22,19)]:List (Nat × Nat)),l.getD (Prod.fst p) false=true->l.getD (Prod.snd p) false=true) (hun:l.getD 10 false=false):∀ i,i<23->l.getD i false=true->ld7 i<56->Zds bs b1 b3 k nf gF cF9 gb ob cF nc cc cc0 pc pc0 xs cvl q72 gn cn i=Zds bs b1 b3 k nf gF cF9 gb ob cF nc cc cc0 pc pc0 xs cvl q7 gn cn i:=by
 intro i hi hl _
 rcases Zpb i hi with rfl|rfl|rfl|rfl|rfl|rfl|rfl|rfl|rfl|rfl|rfl|rfl|rfl|rfl|rfl|rfl|rfl|rfl|rfl|rfl|rfl|rfl|rfl
 · rfl
 · rfl
 · rfl
 · rfl
 · rfl
 · rfl
 · rfl
 · rfl
 · rfl
 · rfl
 · exact Yq (hl) hun
 · rfl
 · rfl
 · rfl
 · rfl
 · rfl
 · rfl
 · rfl
 · rfl
 · rfl
 · rfl
 · rfl
 · rfl
theorem Ysa {bs b1 b3 k nf gF cF9 gb ob cF nc cc cc0:Nat} {pc pc0:Option Addr} {xs cvl:List Value} {q7:Nat} {gn:Nat} {cn:Nat} {gn2:Nat} {cn2:Nat} {l:Array Bool} (hcl:∀ p∈([(1,0),(4,3),(6,4),(6,5),(7,6),(8,7),(10,9),(11,8),(11,10),(13,12),(15,13),(15,14),(16,15),(17,16),(18,17),(19,11),(19,18),(20,1),(20,2),(21,20),(22,21),(22,19)]:List (Nat × Nat)),l.getD (Prod.fst p) false=true->l.getD (Prod.snd p) false=true) (hun:l.getD 11 false=false):∀ i,i<23->l.getD i false=true->ld7 i<56->Zds bs b1 b3 k nf gF cF9 gb ob cF nc cc cc0 pc pc0 xs cvl q7 gn2 cn2 i=Zds bs b1 b3 k nf gF cF9 gb ob cF nc cc cc0 pc pc0 xs cvl q7 gn cn i:=by
 intro i hi hl _
 rcases Zpb i hi with rfl|rfl|rfl|rfl|rfl|rfl|rfl|rfl|rfl|rfl|rfl|rfl|rfl|rfl|rfl|rfl|rfl|rfl|rfl|rfl|rfl|rfl|rfl
 · rfl
 · rfl
 · rfl
 · rfl
 · rfl
 · rfl
 · rfl
 · rfl
 · rfl
 · rfl
 · rfl
 · exact Yq (hl) hun
 · rfl
 · rfl
 · rfl
 · rfl
 · rfl
 · rfl
 · rfl
 · exact Yq (hcl (19,11) (by decide) (hl)) hun
 · rfl
 · rfl
 · rfl
theorem Ymk (mem:Int) (dl:List Int) (fs:List FnP) (pd pF:Option Addr) (cd cF B:Nat) (w:World) (hB:B<=w.heap.size) (hF:Yk w B pF fs) (hD:Rd w pd (dl.map (Value.int .u8))) (hd:dl.length<=4194304) (hn:fs.length<=2097151) (hc:∀ f∈fs,f.2.2.2.length<=4194304) :
 Calls Try.prog 15 #[.agg #[.int .i64 mem,.slice pd dl.length cd,.slice pF fs.length cF]] w (Ynv w mem dl fs):=by
 obtain ⟨bi,bi0,bi1,bi2,bi3⟩:=info_parts Yab
 obtain ⟨ni,ni0,ni1,ni2,ni3⟩:=info_parts Zgv
 obtain ⟨fi,fi0,fi1,fi2,fi3⟩:=info_parts Zlc
 have T0:=Hq (Yt w (.cells #[.int .i64 mem,.slice pd dl.length cd,.slice pF fs.length cF] 25) (.cells #[.int .i64 0,.slice none 0 0,.slice none 0 0] 25))
 have T1:=Hq (Yi w (.cells #[.int .i64 mem,.slice pd dl.length cd,.slice pF fs.length cF] 25) (.cells #[.int .i64 0,.slice none 0 0,.slice none 0 0] 25))
 have G0:=Hq (Za (Ga w (.cells #[.int .i64 mem,.slice pd dl.length cd,.slice pF fs.length cF] 25) none) (Ga _ (.cells #[.int .i64 0,.slice none 0 0,.slice none 0 0] 25) none))
 have hz2:((w.alloc (.cells #[.int .i64 mem,.slice pd dl.length cd,.slice pF fs.length cF] 25)).alloc (.cells #[.int .i64 0,.slice none 0 0,.slice none 0 0] 25)).heap.size=w.heap.size+1+1:=by rw [World.size_alloc,World.size_alloc]
 have HZ2:=Hq hz2
 have TW:=Hq (fun W (g:w.grownBy W none)=>Yeg mem dl fs pd pF cd cF B W (Nat.le_trans hB g.size) (Zs hF g (by simp)) (Yy hD g) hd (by omega) hc)
 have HF:=Hq hF
 have HC:=Hq hc
 clear hF hD hc hz2
 go_enter Try.func15,Try.ntmps15
 go_wp2_with fail
 generalize (w.alloc (.cells #[.int .i64 mem,.slice pd dl.length cd,.slice pF fs.length cF] 25)).alloc (.cells #[.int .i64 0,.slice none 0 0,.slice none 0 0] 25)=w2 at *
 refine (TW.out w2 G0.out).mono ?_
 rintro e w3 ⟨D,F,cv,rfl,g3,o3⟩
 obtain ⟨pD,pF3,cD,cF3,rfl,rfl⟩:=Jc o3
 have hz3:=g3.size
 have GA:=Ga w3 (.cells #[.int .i64 mem,.slice pD dl.length cD,.slice pF3 fs.length cF3] 25) none
 have LB:=Hq (show LnB w (w3.alloc (.cells #[.int .i64 mem,.slice pD dl.length cD,.slice pF3 fs.length cF3] 25)) w.heap.size (w.heap.size+1) w3.heap.size mem pd pF dl.length cd fs.length cF (.slice pD dl.length cD) (.slice pF3 fs.length cF3) from
  ⟨Za (Za G0.out g3) GA,Zb (Zb T0.out g3 (by simp)) GA (by simp),Zb (Zb T1.out g3 (by simp)) GA (by simp),heap_alloc_new w3 _,by have:=HZ2.out;omega,by have:=HZ2.out;omega,by have:=HZ2.out;omega⟩)
 have O4:=Hq (Zaj (Xj o3 GA) (by have:=HZ2.out;omega:w.heap.size<=w2.heap.size))
 clear g3 o3 GA hz3
 go_upto_region 2 with fail
 rename_i K hK
 generalize w3.heap.size=b3 at *
 generalize w3.alloc (.cells #[.int .i64 mem,.slice pD dl.length cD,.slice pF3 fs.length cF3] 25)=w4 at *
 refine Xe (n:=10) (J:=fun a0 l a1 w1=>∃ (q2:Nat) (gv:Nat) (cv9:Nat),RJ a0 56 10 ld2 (Znt w.heap.size w.heap.size b3 dl.length cd cD pd pD (dl.map (Value.int .u8)) q2 gv cv9) l a1/\Zvn 9 10 3 [(1,0),(3,1),(3,2),(5,4),(6,5),(7,3),(7,6),(9,8),(9,7)] [(2,3)] (fun w9=>LnB w w9 w.heap.size (w.heap.size+1) b3 mem pd pF dl.length cd fs.length cF (.slice pD dl.length cD) (.slice pF3 fs.length cF3)/\FrX w9 w.heap.size (.slice pF3 fs.length cF3) fs cv [] 0/\CsX w9 w.heap.size fs cv (fun _=>[]) (fun _=>True)) (fun w9=>w9.ownsRow w.heap.size 5 1 (.slice pD dl.length cD) dl.length (dl.map (Value.int .u8))) (Xcw w.heap.size w.heap.size b3 dl.length cd cD pd pD (dl.map (Value.int .u8)) q2 gv cv9) (fun w9=>LnB w w9 w.heap.size (w.heap.size+1) b3 mem pd pF dl.length cd fs.length cF (.slice (some ⟨gv,0,none⟩) dl.length cv9) (.slice pF3 fs.length cF3)/\FrX w9 w.heap.size (.slice pF3 fs.length cF3) fs cv [] 0/\CsX w9 w.heap.size fs cv (fun _=>[]) (fun _=>True)/\DtX w9 w.heap.size (.slice (some ⟨gv,0,none⟩) dl.length cv9) dl [169]) l w1) (by kernel_rfl) rfl (Jh (by kernel_rfl)) (fun l a1 w1 h=>by obtain ⟨_,_,_,h,_⟩:=h;exact h.sz) ⟨0,0,0,Xd rfl,Zfq (⟨Zek LB.out (Zd (Zc w4 none)),⟨pF3,cF3,rfl,by simpa using O4.out.fr.kept (Zd (Zc w4 none)) (Classical.em _)⟩,Jr (Yxu O4.out) (Zd (Zc w4 none)) Znc⟩) (O4.out.dt.kept (Zd (Zc w4 none)) (Classical.em _))⟩ ?step ?fin
 case step =>
  intro l a1 w' i hJJ hi hin
  obtain ⟨q2,gv,cv9,hJ,hW⟩:=hJJ
  have hun:l.getD i false=false:=getD_both (mem_ready.1 hi).1
  have hns:=Zlk hW hin hun
  have hg:=hW.g hns
  have l1:=(Gs hg.1.x1)
  have l3:=(Gs hg.1.x3)
  have hcap:=True.intro
  rcases Zpd i hin with rfl|rfl|rfl|rfl|rfl|rfl|rfl|rfl|rfl|rfl
  · have e3:a1.tmps.getD 3 undef = .pointer (some ⟨b3,0,none⟩):=hJ.un 3 (fun i hi _=>Zwy 3 (by decide) i hi)
    exact Zj (Ya hJ hW hi hun rfl (by rfl) rfl (by decide) (by decide) (Zhd _ (by decide)) (w':=w') (by simp [execOp,resolve,invoke,builtin,Act.eval,e3,l1,l3,hcap,go_sem,Znt]) (⟨by decide,by kernel_rfl,True.intro⟩)) (fun a9 w9 h9=>⟨q2,gv,cv9,h9⟩)
  · have e7:a1.tmps.getD 7 undef = .pointer (some ⟨b3,1,none⟩):=(Zm hJ hi 0 (by kernel_rfl))
    have h0:=Cq _ _ 1 _ _ _ hg.1.x3
    exact Zj (Ya hJ hW hi hun rfl (by rfl) rfl (by decide) (by decide) (Zhd _ (by decide)) (w':=w') (by simp [execOp,resolve,invoke,builtin,Act.eval,e7,h0,l1,l3,hcap,go_sem,Znt]) (⟨by decide,by kernel_rfl,True.intro⟩)) (fun a9 w9 h9=>⟨q2,gv,cv9,h9⟩)
  · refine Zah (v:=Znt w.heap.size w.heap.size b3 dl.length cd cD pd pD (dl.map (Value.int .u8)) w'.heap.size gv cv9 2) (w':=w'.alloc (.cells #[.int .u8 169] 5)) rfl (by rfl) (by kernel_rfl) ⟨w'.heap.size,gv,cv9,?_,Zbe hW (by decide) hun (by decide) (Zn _ hi (by kernel_rfl)) (⟨Zek hg.1 (Ga _ _ none),Zfa hg.2.1 (Ga _ _ none) (Classical.em _),Jr hg.2.2 (Ga _ _ none) Znc⟩) (fun hne0 hun0 hB0=>hB0.alloc _) (fun j hj hne hl hcu hF => ?_) (heap_alloc_new w' _)⟩
    · exact Jq (val:=Znt w.heap.size w.heap.size b3 dl.length cd cD pd pD (dl.map (Value.int .u8)) w'.heap.size gv cv9) (Jj hJ (Yxf hW.cl hun)) (by decide) (by decide) (Zhd _ (by decide))
    · rcases Zpd j hj with rfl|rfl|rfl|rfl|rfl|rfl|rfl|rfl|rfl|rfl
      · exact True.intro
      · exact True.intro
      · exact absurd rfl hne
      · exact Yq (hW.cl (3,2) (by decide) (hl)) hun
      · exact True.intro
      · exact True.intro
      · exact True.intro
      · exact True.intro
      · exact True.intro
      · exact True.intro
  · have e8:a1.tmps.getD 8 undef = .slice pD dl.length cD:=(Zm hJ hi 1 (by kernel_rfl))
    have e9:a1.tmps.getD 9 undef = .slice (some ⟨q2,0,none⟩) 1 1:=(Zm hJ hi 2 (by kernel_rfl))
    have F2:=hW.f hns 2 (by decide) (Zf hi 2 (by kernel_rfl)) (Zhw (c:=3) (by decide) hun)
    have own:=hW.u hun
    obtain ⟨pv2,cv92,w8,hap,hown,hgr,-⟩:=Zdw (P:=Try.prog) w' w.heap.size 22 22 5 bi (.int .u8 0) 1 1 Zgk bi0 bi1 bi2 bi3 rfl (by decide) _ dl.length (dl.map (Value.int .u8)) own (some ⟨q2,0,none⟩) 1 1 [.int .u8 169] rfl (Yvi F2) (Zcb _ _) (by unfold maxLen;omega) (by omega) hg.1.g.size
    obtain ⟨gv2,cv93,hv⟩:=Xv hown
    injection hv with hv1 _ _
    subst hv1
    refine Zah (v:=Znt w.heap.size w.heap.size b3 dl.length cd cD pd pD (dl.map (Value.int .u8)) q2 gv2 cv92 3) (w':=w8) rfl (by rfl) (by simp [execOp,resolve,invoke,builtin,Act.eval,e8,e9,hap,Result.andThen,Znt]) ⟨q2,gv2,cv92,?_,Zbe hW (by decide) hun (by decide) (Zn _ hi (by kernel_rfl)) (⟨Zqx hg.1 own (by decide) hgr,Zfa hg.2.1 hgr (Zzp hg.2.1 own (by decide)),Jr hg.2.2 hgr (Zrq hg.2.2 own (by decide))⟩) (fun hne0 hun0 hB0=>absurd rfl hne0) (fun j hj hne hl hcu hF => ?_) (hown)⟩
    · exact Jq (val:=Znt w.heap.size w.heap.size b3 dl.length cd cD pd pD (dl.map (Value.int .u8)) q2 gv2 cv92) (Jj hJ (Yxe hW.cl hun)) (by decide) (by decide) (Zhd _ (by decide))
    · rcases Zpd j hj with rfl|rfl|rfl|rfl|rfl|rfl|rfl|rfl|rfl|rfl
      · exact True.intro
      · exact True.intro
      · exact absurd rfl (hcu (2,3) (by decide) rfl).1
      · exact absurd rfl hne
      · exact True.intro
      · exact True.intro
      · exact True.intro
      · exact True.intro
      · exact True.intro
      · exact True.intro
  · have e1:a1.tmps.getD 1 undef = .pointer (some ⟨w.heap.size,0,none⟩):=hJ.un 1 (fun i hi _=>Zwy 1 (by decide) i hi)
    exact Zj (Ya hJ hW hi hun rfl (by rfl) rfl (by decide) (by decide) (Zhd _ (by decide)) (w':=w') (by simp [execOp,resolve,invoke,builtin,Act.eval,e1,l1,l3,hcap,go_sem,Znt]) (⟨by decide,by kernel_rfl,True.intro⟩)) (fun a9 w9 h9=>⟨q2,gv,cv9,h9⟩)
  · have e11:a1.tmps.getD 11 undef = .pointer (some ⟨w.heap.size,1,none⟩):=(Zm hJ hi 4 (by kernel_rfl))
    have h0:=Cq _ _ 1 _ _ _ hg.1.x1
    exact Zj (Ya hJ hW hi hun rfl (by rfl) rfl (by decide) (by decide) (Zhd _ (by decide)) (w':=w') (by simp [execOp,resolve,invoke,builtin,Act.eval,e11,h0,l1,l3,hcap,go_sem,Znt]) (⟨by decide,by kernel_rfl,True.intro⟩)) (fun a9 w9 h9=>⟨q2,gv,cv9,h9⟩)
  · have e12:a1.tmps.getD 12 undef = .slice pd dl.length cd:=(Zm hJ hi 5 (by kernel_rfl))
    exact Zj (Ya hJ hW hi hun rfl (by rfl) rfl (by decide) (by decide) (Zhd _ (by decide)) (w':=w') (by simp [execOp,resolve,invoke,builtin,Act.eval,e12,l1,l3,hcap,go_sem,Znt]) (⟨by decide,by kernel_rfl,True.intro⟩)) (fun a9 w9 h9=>⟨q2,gv,cv9,h9⟩)
  · have hcap:(dl.length:Int)<=(cv9:Int):=by have:=(Zdf (hW.f hns 3 (by decide) (Zf hi 3 (by kernel_rfl)) (Zjy (by decide)))).1;omega
    have e10:a1.tmps.getD 10 undef = .slice (some ⟨gv,0,none⟩) (dl.length+1) cv9:=(Zm hJ hi 3 (by kernel_rfl))
    have e13:a1.tmps.getD 13 undef = .int .i64 dl.length:=(Zm hJ hi 6 (by kernel_rfl))
    exact Zj (Ya hJ hW hi hun rfl (by rfl) rfl (by decide) (by decide) (Zhd _ (by decide)) (w':=w') (by first|(simp [execOp,resolve,invoke,builtin,Act.eval,e10,e13,l1,l3,hcap,go_sem,Znt];done)|(simp [execOp,resolve,invoke,builtin,Act.eval,e10,e13,l1,l3,hcap,go_sem,Znt];omega)|(simp [execOp,resolve,invoke,builtin,Act.eval,e10,e13,l1,l3,hcap,go_sem,Znt];intro h;omega)|(simp [execOp,resolve,invoke,builtin,Act.eval,e10,e13,l1,l3,hcap,go_sem,Znt];intros;omega)) (⟨by decide,by kernel_rfl,True.intro⟩)) (fun a9 w9 h9=>⟨q2,gv,cv9,h9⟩)
  · have e3:a1.tmps.getD 3 undef = .pointer (some ⟨b3,0,none⟩):=hJ.un 3 (fun i hi _=>Zwy 3 (by decide) i hi)
    exact Zj (Ya hJ hW hi hun rfl (by rfl) rfl (by decide) (by decide) (Zhd _ (by decide)) (w':=w') (by simp [execOp,resolve,invoke,builtin,Act.eval,e3,l1,l3,hcap,go_sem,Znt]) (⟨by decide,by kernel_rfl,True.intro⟩)) (fun a9 w9 h9=>⟨q2,gv,cv9,h9⟩)
  · have e15:a1.tmps.getD 15 undef = .pointer (some ⟨b3,1,none⟩):=(Zm hJ hi 8 (by kernel_rfl))
    have e14:a1.tmps.getD 14 undef = .slice (some ⟨gv,0,none⟩) dl.length cv9:=(Zm hJ hi 7 (by kernel_rfl))
    have F3:=hW.f hns 3 (by decide) (hW.cl (7,3) (by decide) (Zf hi 7 (by kernel_rfl))) (Zjy (by decide))
    have k1:=Cq _ _ 1 _ _ _ hg.1.x3
    have j1:=frozen_of_row _ _ 1 _ _ hg.1.x3
    have lb:=(Gs hg.1.x3)
    have hall:∀ j,j<10->j≠9->l.getD j false=true:=by
     intro j hj hne
     rcases Zpd j hj with rfl|rfl|rfl|rfl|rfl|rfl|rfl|rfl|rfl|rfl
     · exact hW.cl (1,0) (by decide) (hW.cl (3,1) (by decide) (hW.cl (7,3) (by decide) (Zf hi 7 (by kernel_rfl))))
     · exact hW.cl (3,1) (by decide) (hW.cl (7,3) (by decide) (Zf hi 7 (by kernel_rfl)))
     · exact hW.cl (3,2) (by decide) (hW.cl (7,3) (by decide) (Zf hi 7 (by kernel_rfl)))
     · exact hW.cl (7,3) (by decide) (Zf hi 7 (by kernel_rfl))
     · exact hW.cl (5,4) (by decide) (hW.cl (6,5) (by decide) (hW.cl (7,6) (by decide) (Zf hi 7 (by kernel_rfl))))
     · exact hW.cl (6,5) (by decide) (hW.cl (7,6) (by decide) (Zf hi 7 (by kernel_rfl)))
     · exact hW.cl (7,6) (by decide) (Zf hi 7 (by kernel_rfl))
     · exact Zf hi 7 (by kernel_rfl)
     · exact Zf hi 8 (by kernel_rfl)
     · exact absurd rfl hne
    exact Zj (Zbh hW hJ rfl rfl rfl (by decide) (by decide) (w':=w'.setCell ⟨b3,1,none⟩ (.slice (some ⟨gv,0,none⟩) dl.length cv9)) (by simp [execOp,Act.eval,e15,e14,k1,j1,lb,go_sem]) (Zht hW (by decide) (by decide) hall (Zn _ hi (by kernel_rfl)) (⟨Ymc hg.1 _,Zfa hg.2.1 (Zg _ _ _ _) (Yhf hg.2.1 hg.1.x3 (by decide)),Jr hg.2.2 (Zg _ _ _ _) (Zxj hg.2.2 hg.1.x3 (by decide)),_,_,rfl,by simpa using F3.kept (Zg w' b3 1 (.slice (some ⟨gv,0,none⟩) dl.length cv9)) (Or.inr (Yd F3 hg.1.x3 (by decide)))⟩))) (fun a9 w9 h9=>⟨q2,gv,cv9,h9⟩)
 case fin =>
  intro l a1 w9 hJJ hl
  obtain ⟨q2,gv,cv9,hJ,hW⟩:=hJJ
  have hq:=Hq (hW.q (hl 9 (by decide)))
  have hput:=Jf hJ rfl hl (fun i j h1 h2 h3=>Zhd j h2 i h1 h3)
  subst hput
  clear hJ hW hl
  refine hK _ _ ?_
  simp only [Zai,ld2,Znt,Act.put,List.setIfInBounds_toArray,List.set_cons_zero,List.set_cons_succ]
  clear hK K
  have Q2:=hq
  have FR3:=Hq (show w9.ownsRow w.heap.size 52 4 (.slice pF3 fs.length cF3) fs.length (Xa fs cv) from by
   obtain ⟨p,c,e,h⟩:=hq.out.2.1
   injection e with e1 _ e3
   subst e1;subst e3
   simpa using h)
  obtain ⟨w5,hw5⟩:∃ w5,w5=w9:=⟨_,rfl⟩
  subst hw5
  clear hq
  go_upto_region 3 with fail
  rename_i K hK
  refine Xe (n:=11) (J:=fun a0 l a1 w1=>∃ (q3:Nat) (gF:Nat) (cF9:Nat),RJ a0 56 11 ld3 (Zmr w.heap.size w.heap.size b3 fs.length cF cF3 pF pF3 (Xa fs cv) q3 gF cF9) l a1/\Zvn 10 11 4 [(1,0),(3,2),(4,1),(4,3),(6,5),(7,6),(8,4),(8,7),(10,9),(10,8)] [(3,4)] (fun w9=>LnB w w9 w.heap.size (w.heap.size+1) b3 mem pd pF dl.length cd fs.length cF (.slice (some ⟨gv,0,none⟩) dl.length cv9) (.slice pF3 fs.length cF3)/\DtX w9 w.heap.size (.slice (some ⟨gv,0,none⟩) dl.length cv9) dl [169]/\CsX w9 w.heap.size fs cv (fun _=>[]) (fun _=>True)) (fun w9=>w9.ownsRow w.heap.size 52 4 (.slice pF3 fs.length cF3) fs.length (Xa fs cv)) (Xcv w.heap.size w.heap.size b3 fs.length cF cF3 pF pF3 (Xa fs cv) q3 gF cF9) (fun w9=>LnB w w9 w.heap.size (w.heap.size+1) b3 mem pd pF dl.length cd fs.length cF (.slice (some ⟨gv,0,none⟩) dl.length cv9) (.slice (some ⟨gF,0,none⟩) fs.length cF9)/\DtX w9 w.heap.size (.slice (some ⟨gv,0,none⟩) dl.length cv9) dl [169]/\CsX w9 w.heap.size fs cv (fun _=>[]) (fun _=>True)/\FrX w9 w.heap.size (.slice (some ⟨gF,0,none⟩) fs.length cF9) fs cv [.int .i64 (-7),.int .i64 0,.int .i64 0,.slice none 0 0] 1) l w1) (by kernel_rfl) rfl (Jh (by kernel_rfl)) (fun l a1 w1 h=>by obtain ⟨_,_,_,h,_⟩:=h;exact h.sz) ⟨0,0,0,Xd rfl,Zfq (⟨Zek Q2.out.1 (Zd (Zc w5 none)),Zct Q2.out.2.2.2 (Zd (Zc w5 none)) (Classical.em _),Jr Q2.out.2.2.1 (Zd (Zc w5 none)) Znc⟩) (FR3.out.kept (Zd (Zc w5 none)) (Classical.em _))⟩ ?step ?fin
  case step =>
   intro l a1 w' i hJJ hi hin
   obtain ⟨q3,gF,cF9,hJ,hW⟩:=hJJ
   have hun:l.getD i false=false:=getD_both (mem_ready.1 hi).1
   have hns:=Zlk hW hin hun
   have hg:=hW.g hns
   have l1:=(Gs hg.1.x1)
   have l3:=(Gs hg.1.x3)
   have hcap:=True.intro
   rcases Zpc i hin with rfl|rfl|rfl|rfl|rfl|rfl|rfl|rfl|rfl|rfl|rfl
   · have e3:a1.tmps.getD 3 undef = .pointer (some ⟨b3,0,none⟩):=hJ.un 3 (fun i hi _=>Zwx 3 (by decide) i hi)
     exact Zj (Ya hJ hW hi hun rfl (by rfl) rfl (by decide) (by decide) (Zgc _ (by decide)) (w':=w') (by simp [execOp,resolve,invoke,builtin,Act.eval,e3,l1,l3,hcap,go_sem,Zmr]) (⟨by decide,by kernel_rfl,True.intro⟩)) (fun a9 w9 h9=>⟨q3,gF,cF9,h9⟩)
   · have e16:a1.tmps.getD 16 undef = .pointer (some ⟨b3,2,none⟩):=(Zm hJ hi 0 (by kernel_rfl))
     have h0:=Cq _ _ 2 _ _ _ hg.1.x3
     exact Zj (Ya hJ hW hi hun rfl (by rfl) rfl (by decide) (by decide) (Zgc _ (by decide)) (w':=w') (by simp [execOp,resolve,invoke,builtin,Act.eval,e16,h0,l1,l3,hcap,go_sem,Zmr]) (⟨by decide,by kernel_rfl,True.intro⟩)) (fun a9 w9 h9=>⟨q3,gF,cF9,h9⟩)
   · exact Zj (Ya hJ hW hi hun rfl (by rfl) rfl (by decide) (by decide) (Zgc _ (by decide)) (w':=w') (by simp [execOp,resolve,invoke,builtin,Act.eval,l1,l3,hcap,go_sem,Zmr]) (⟨by decide,by kernel_rfl,True.intro⟩)) (fun a9 w9 h9=>⟨q3,gF,cF9,h9⟩)
   · have e18:a1.tmps.getD 18 undef = .agg #[.int .i64 (-7),.int .i64 0,.int .i64 0,.slice none 0 0]:=(Zm hJ hi 2 (by kernel_rfl))
     have f18:=e18
     rw [Array.getD_eq_getD_getElem?] at f18
     refine Zah (v:=Zmr w.heap.size w.heap.size b3 fs.length cF cF3 pF pF3 (Xa fs cv) w'.heap.size gF cF9 3) (w':=w'.alloc (.cells #[.int .i64 (-7),.int .i64 0,.int .i64 0,.slice none 0 0] 52)) rfl (by rfl) (by simp [execOp,Act.eval,e18,f18,Ysp,Result.andThen,Zmr]) ⟨w'.heap.size,gF,cF9,?_,Zbe hW (by decide) hun (by decide) (Zn _ hi (by kernel_rfl)) (⟨Zek hg.1 (Ga _ _ none),Zct hg.2.1 (Ga _ _ none) (Classical.em _),Jr hg.2.2 (Ga _ _ none) Znc⟩) (fun hne0 hun0 hB0=>hB0.alloc _) (fun j hj hne hl hcu hF => ?_) (heap_alloc_new w' _)⟩
     · exact Jq (val:=Zmr w.heap.size w.heap.size b3 fs.length cF cF3 pF pF3 (Xa fs cv) w'.heap.size gF cF9) (Jj hJ (Yxd hW.cl hun)) (by decide) (by decide) (Zgc _ (by decide))
     · rcases Zpc j hj with rfl|rfl|rfl|rfl|rfl|rfl|rfl|rfl|rfl|rfl|rfl
       · exact True.intro
       · exact True.intro
       · exact True.intro
       · exact absurd rfl hne
       · exact Yq (hW.cl (4,3) (by decide) (hl)) hun
       · exact True.intro
       · exact True.intro
       · exact True.intro
       · exact True.intro
       · exact True.intro
       · exact True.intro
   · have e17:a1.tmps.getD 17 undef = .slice pF3 fs.length cF3:=(Zm hJ hi 1 (by kernel_rfl))
     have e19:a1.tmps.getD 19 undef = .slice (some ⟨q3,0,none⟩) 1 1:=(Zm hJ hi 3 (by kernel_rfl))
     have F3:=hW.f hns 3 (by decide) (Zf hi 3 (by kernel_rfl)) (Zhw (c:=4) (by decide) hun)
     have own:=hW.u hun
     obtain ⟨pv2,cF92,w8,hap,hown,hgr,-⟩:=Zdw (P:=Try.prog) w' w.heap.size 23 23 52 fi (.agg #[.int .i64 0,.int .i64 0,.int .i64 0,.slice none 0 0]) 4 48 Zjp fi0 fi1 fi2 fi3 rfl (by decide) _ fs.length (Xa fs cv) own (some ⟨q3,0,none⟩) 1 1 [.int .i64 (-7),.int .i64 0,.int .i64 0,.slice none 0 0] rfl (Yqt F3) (Zys _ _ _ _ _ _) (by unfold maxLen;omega) (by omega) hg.1.g.size
     obtain ⟨gF2,cF93,hv⟩:=Xv hown
     injection hv with hv1 _ _
     subst hv1
     refine Zah (v:=Zmr w.heap.size w.heap.size b3 fs.length cF cF3 pF pF3 (Xa fs cv) q3 gF2 cF92 4) (w':=w8) rfl (by rfl) (by simp [execOp,resolve,invoke,builtin,Act.eval,e17,e19,hap,Result.andThen,Zmr]) ⟨q3,gF2,cF92,?_,Zbe hW (by decide) hun (by decide) (Zn _ hi (by kernel_rfl)) (⟨Zqx hg.1 own (by decide) hgr,Zct hg.2.1 hgr (Zrp hg.2.1 own (by decide)),Jr hg.2.2 hgr (Zrq hg.2.2 own (by decide))⟩) (fun hne0 hun0 hB0=>absurd rfl hne0) (fun j hj hne hl hcu hF => ?_) (hown)⟩
     · exact Jq (val:=Zmr w.heap.size w.heap.size b3 fs.length cF cF3 pF pF3 (Xa fs cv) q3 gF2 cF92) (Jj hJ (Yxc hW.cl hun)) (by decide) (by decide) (Zgc _ (by decide))
     · rcases Zpc j hj with rfl|rfl|rfl|rfl|rfl|rfl|rfl|rfl|rfl|rfl|rfl
       · exact True.intro
       · exact True.intro
       · exact True.intro
       · exact absurd rfl (hcu (3,4) (by decide) rfl).1
       · exact absurd rfl hne
       · exact True.intro
       · exact True.intro
       · exact True.intro
       · exact True.intro
       · exact True.intro
       · exact True.intro
   · have e1:a1.tmps.getD 1 undef = .pointer (some ⟨w.heap.size,0,none⟩):=hJ.un 1 (fun i hi _=>Zwx 1 (by decide) i hi)
     exact Zj (Ya hJ hW hi hun rfl (by rfl) rfl (by decide) (by decide) (Zgc _ (by decide)) (w':=w') (by simp [execOp,resolve,invoke,builtin,Act.eval,e1,l1,l3,hcap,go_sem,Zmr]) (⟨by decide,by kernel_rfl,True.intro⟩)) (fun a9 w9 h9=>⟨q3,gF,cF9,h9⟩)
   · have e21:a1.tmps.getD 21 undef = .pointer (some ⟨w.heap.size,2,none⟩):=(Zm hJ hi 5 (by kernel_rfl))
     have h0:=Cq _ _ 2 _ _ _ hg.1.x1
     exact Zj (Ya hJ hW hi hun rfl (by rfl) rfl (by decide) (by decide) (Zgc _ (by decide)) (w':=w') (by simp [execOp,resolve,invoke,builtin,Act.eval,e21,h0,l1,l3,hcap,go_sem,Zmr]) (⟨by decide,by kernel_rfl,True.intro⟩)) (fun a9 w9 h9=>⟨q3,gF,cF9,h9⟩)
   · have e22:a1.tmps.getD 22 undef = .slice pF fs.length cF:=(Zm hJ hi 6 (by kernel_rfl))
     exact Zj (Ya hJ hW hi hun rfl (by rfl) rfl (by decide) (by decide) (Zgc _ (by decide)) (w':=w') (by simp [execOp,resolve,invoke,builtin,Act.eval,e22,l1,l3,hcap,go_sem,Zmr]) (⟨by decide,by kernel_rfl,True.intro⟩)) (fun a9 w9 h9=>⟨q3,gF,cF9,h9⟩)
   · have hcap:(fs.length:Int)<=(cF9:Int):=by have:=(Zdf (hW.f hns 4 (by decide) (Zf hi 4 (by kernel_rfl)) (Zjy (by decide)))).1;omega
     have e20:a1.tmps.getD 20 undef = .slice (some ⟨gF,0,none⟩) (fs.length+1) cF9:=(Zm hJ hi 4 (by kernel_rfl))
     have e23:a1.tmps.getD 23 undef = .int .i64 fs.length:=(Zm hJ hi 7 (by kernel_rfl))
     exact Zj (Ya hJ hW hi hun rfl (by rfl) rfl (by decide) (by decide) (Zgc _ (by decide)) (w':=w') (by first|(simp [execOp,resolve,invoke,builtin,Act.eval,e20,e23,l1,l3,hcap,go_sem,Zmr];done)|(simp [execOp,resolve,invoke,builtin,Act.eval,e20,e23,l1,l3,hcap,go_sem,Zmr];omega)|(simp [execOp,resolve,invoke,builtin,Act.eval,e20,e23,l1,l3,hcap,go_sem,Zmr];intro h;omega)|(simp [execOp,resolve,invoke,builtin,Act.eval,e20,e23,l1,l3,hcap,go_sem,Zmr];intros;omega)) (⟨by decide,by kernel_rfl,True.intro⟩)) (fun a9 w9 h9=>⟨q3,gF,cF9,h9⟩)
   · have e3:a1.tmps.getD 3 undef = .pointer (some ⟨b3,0,none⟩):=hJ.un 3 (fun i hi _=>Zwx 3 (by decide) i hi)
     exact Zj (Ya hJ hW hi hun rfl (by rfl) rfl (by decide) (by decide) (Zgc _ (by decide)) (w':=w') (by simp [execOp,resolve,invoke,builtin,Act.eval,e3,l1,l3,hcap,go_sem,Zmr]) (⟨by decide,by kernel_rfl,True.intro⟩)) (fun a9 w9 h9=>⟨q3,gF,cF9,h9⟩)
   · have e25:a1.tmps.getD 25 undef = .pointer (some ⟨b3,2,none⟩):=(Zm hJ hi 9 (by kernel_rfl))
     have e24:a1.tmps.getD 24 undef = .slice (some ⟨gF,0,none⟩) fs.length cF9:=(Zm hJ hi 8 (by kernel_rfl))
     have F4:=hW.f hns 4 (by decide) (hW.cl (8,4) (by decide) (Zf hi 8 (by kernel_rfl))) (Zjy (by decide))
     have k1:=Cq _ _ 2 _ _ _ hg.1.x3
     have j1:=frozen_of_row _ _ 2 _ _ hg.1.x3
     have lb:=(Gs hg.1.x3)
     have hall:∀ j,j<11->j≠10->l.getD j false=true:=by
      intro j hj hne
      rcases Zpc j hj with rfl|rfl|rfl|rfl|rfl|rfl|rfl|rfl|rfl|rfl|rfl
      · exact hW.cl (1,0) (by decide) (hW.cl (4,1) (by decide) (hW.cl (8,4) (by decide) (Zf hi 8 (by kernel_rfl))))
      · exact hW.cl (4,1) (by decide) (hW.cl (8,4) (by decide) (Zf hi 8 (by kernel_rfl)))
      · exact hW.cl (3,2) (by decide) (hW.cl (4,3) (by decide) (hW.cl (8,4) (by decide) (Zf hi 8 (by kernel_rfl))))
      · exact hW.cl (4,3) (by decide) (hW.cl (8,4) (by decide) (Zf hi 8 (by kernel_rfl)))
      · exact hW.cl (8,4) (by decide) (Zf hi 8 (by kernel_rfl))
      · exact hW.cl (6,5) (by decide) (hW.cl (7,6) (by decide) (hW.cl (8,7) (by decide) (Zf hi 8 (by kernel_rfl))))
      · exact hW.cl (7,6) (by decide) (hW.cl (8,7) (by decide) (Zf hi 8 (by kernel_rfl)))
      · exact hW.cl (8,7) (by decide) (Zf hi 8 (by kernel_rfl))
      · exact Zf hi 8 (by kernel_rfl)
      · exact Zf hi 9 (by kernel_rfl)
      · exact absurd rfl hne
     exact Zj (Zbh hW hJ rfl rfl rfl (by decide) (by decide) (w':=w'.setCell ⟨b3,2,none⟩ (.slice (some ⟨gF,0,none⟩) fs.length cF9)) (by simp [execOp,Act.eval,e25,e24,k1,j1,lb,go_sem]) (Zht hW (by decide) (by decide) hall (Zn _ hi (by kernel_rfl)) (⟨Ymb hg.1 _,Zct hg.2.1 (Zg _ _ _ _) (Yia hg.2.1 hg.1.x3 (by decide)),Jr hg.2.2 (Zg _ _ _ _) (Zxj hg.2.2 hg.1.x3 (by decide)),_,_,rfl,by simpa using F4.kept (Zg w' b3 2 (.slice (some ⟨gF,0,none⟩) fs.length cF9)) (Or.inr (Yd F4 hg.1.x3 (by decide)))⟩))) (fun a9 w9 h9=>⟨q3,gF,cF9,h9⟩)
  case fin =>
   intro l a1 w9 hJJ hl
   obtain ⟨q3,gF,cF9,hJ,hW⟩:=hJJ
   have Q3:=Hq (hW.q (hl 10 (by decide)))
   have hput:=Jf hJ rfl hl (fun i j h1 h2 h3=>Zgc j h2 i h1 h3)
   subst hput
   clear hJ hW hl
   refine hK _ _ ?_
   simp only [Zai,ld3,Zmr,Act.put,List.setIfInBounds_toArray,List.set_cons_zero,List.set_cons_succ]
   clear hK K Q2 FR3
   go_wp2
   have hni:(fs.length:Int)<=2097151:=by omega
   go_loopw [4] (fun i wr=>∃ (k:Nat) (cvl:List Value),i = .int .i64 k/\k<=fs.length/\LnB w wr w.heap.size (w.heap.size+1) b3 mem pd pF dl.length cd fs.length cF (.slice (some ⟨gv,0,none⟩) dl.length cv9) (.slice (some ⟨gF,0,none⟩) fs.length cF9)/\DtX wr w.heap.size (.slice (some ⟨gv,0,none⟩) dl.length cv9) dl [169]/\FrX wr w.heap.size (.slice (some ⟨gF,0,none⟩) fs.length cF9) fs cvl [.int .i64 (-7),.int .i64 0,.int .i64 0,.slice none 0 0] 1/\CsX wr w.heap.size fs cvl (xcK k) (fun _=>True)) (fun i _=>fs.length - (intOf i).toNat)
   case atStart=>exact ⟨0,cv,rfl,Nat.zero_le _,Q3.out.1,Q3.out.2.1,Q3.out.2.2.2,Ysx Q3.out.2.2.1⟩
   case round =>
    obtain ⟨k,cvl,rfl,hk,hl,hd9,hfr,hcs⟩:=hrel
    have HL:=Hq hl
    have HD9:=Hq hd9
    have HFR:=Hq hfr
    have HCS:=Hq hcs
    have x2:=Cq _ _ 2 _ _ _ hl.x3
    have xl:=(Gs hl.x3)
    by_cases hlt:(k:Int)<(fs.length:Int)
    · obtain ⟨⟨a,lo,r,c⟩,hkf⟩:∃ x,fs[k]? = some x:=⟨_,List.getElem?_eq_getElem (by omega)⟩
      have hcl:=hcs.cl
      have hkl:k<fs.length:=by omega
      obtain ⟨v,hvk⟩:∃ v,cvl[k]? = some v:=⟨_,List.getElem?_eq_getElem (by omega)⟩
      obtain ⟨gb,ob,eb,lb,cb⟩:=HF.out (by omega)
      subst eb
      obtain ⟨-,-,-,pc0,cc0,f3,-⟩:=cb k a lo r c hkf
      have lb:=Nat.lt_of_lt_of_le lb hB
      have own:=Yxq hcs hkf hvk
      obtain ⟨pc,cc,rfl⟩:=Zq own
      have OWK:=Hq own
      have HK:=Hq hkf
      have HV:=Hq hvk
      have hcl9:=HC.out _ (List.mem_of_getElem? hkf)
      simp only [] at hcl9 OWK
      clear hl hd9 hfr hcs hkf hvk own cb
      go_upto_region 7 with fail
      rename_i K hK
      refine Xe (n:=23) (J:=fun a0 l a1 w1=>∃ (q7:Nat) (gn:Nat) (cn:Nat),RJ a0 56 23 ld7 (Zds w.heap.size w.heap.size b3 k fs.length gF cF9 gb ob cF c.length cc cc0 pc pc0 (Zw (c++[(-7,0)])) cvl q7 gn cn) l a1/\Zvn 22 23 11 [(1,0),(4,3),(6,4),(6,5),(7,6),(8,7),(10,9),(11,8),(11,10),(13,12),(15,13),(15,14),(16,15),(17,16),(18,17),(19,11),(19,18),(20,1),(20,2),(21,20),(22,21),(22,19)] [(10,11)] (fun w9=>LnB w w9 w.heap.size (w.heap.size+1) b3 mem pd (some ⟨gb,ob,none⟩) dl.length cd fs.length cF (.slice (some ⟨gv,0,none⟩) dl.length cv9) (.slice (some ⟨gF,0,none⟩) fs.length cF9)/\DtX w9 w.heap.size (.slice (some ⟨gv,0,none⟩) dl.length cv9) dl [169]/\FrX w9 w.heap.size (.slice (some ⟨gF,0,none⟩) fs.length cF9) fs cvl [.int .i64 (-7),.int .i64 0,.int .i64 0,.slice none 0 0] 1/\CsX w9 w.heap.size fs cvl (xcK k) (fun j=>j≠k)) (fun w9=>w9.ownsRow w.heap.size 49 2 (.slice pc c.length cc) c.length (Zw c)) (Xcu w.heap.size w.heap.size b3 k fs.length gF cF9 gb ob cF c.length cc cc0 pc pc0 (Zw (c++[(-7,0)])) cvl q7 gn cn) (fun w9=>LnB w w9 w.heap.size (w.heap.size+1) b3 mem pd (some ⟨gb,ob,none⟩) dl.length cd fs.length cF (.slice (some ⟨gv,0,none⟩) dl.length cv9) (.slice (some ⟨gF,0,none⟩) fs.length cF9)/\DtX w9 w.heap.size (.slice (some ⟨gv,0,none⟩) dl.length cv9) dl [169]/\FrX w9 w.heap.size (.slice (some ⟨gF,0,none⟩) fs.length cF9) fs (cvl.set k (.slice (some ⟨gn,0,none⟩) c.length cn)) [.int .i64 (-7),.int .i64 0,.int .i64 0,.slice none 0 0] 1/\CsX w9 w.heap.size fs (cvl.set k (.slice (some ⟨gn,0,none⟩) c.length cn)) (xcK (k+1)) (fun _=>True)) l w1) (by kernel_rfl) rfl (Jh (by kernel_rfl)) (fun l a1 w1 h=>by obtain ⟨_,_,_,h,_⟩:=h;exact h.sz) ⟨0,0,0,Xd rfl,Zfq (⟨Zek HL.out (Zd (Zc wr none)),Zct HD9.out (Zd (Zc wr none)) (Classical.em _),Zfa HFR.out (Zd (Zc wr none)) (Classical.em _),Yxt (Jr HCS.out (Zd (Zc wr none)) Znc)⟩) (OWK.out.kept (Zd (Zc wr none)) (Classical.em _))⟩ ?step ?fin
      case step =>
       intro l a1 w' i hJJ hi hin
       obtain ⟨q7,gn,cn,hJ,hW⟩:=hJJ
       have hun:l.getD i false=false:=getD_both (mem_ready.1 hi).1
       have hns:=Zlk hW hin hun
       have hg:=hW.g hns
       have l1:=(Gs hg.1.x1)
       have l3:=(Gs hg.1.x3)
       have l7:=(Zit hg.2.2.1 hcl HK.out HV.out).2.2
       have l8:=Nat.lt_of_lt_of_le lb hg.1.g.size
       have hcap:=True.intro
       rcases Zpb i hin with rfl|rfl|rfl|rfl|rfl|rfl|rfl|rfl|rfl|rfl|rfl|rfl|rfl|rfl|rfl|rfl|rfl|rfl|rfl|rfl|rfl|rfl|rfl
       · have e3:a1.tmps.getD 3 undef = .pointer (some ⟨b3,0,none⟩):=hJ.un 3 (fun i hi _=>Zjo 3 (by decide) i hi)
         exact Zj (Ya hJ hW hi hun rfl (by rfl) rfl (by decide) (by decide) (Jz _ (by decide)) (w':=w') (by simp [execOp,resolve,invoke,builtin,Act.eval,e3,l1,l3,l7,l8,hlt,hcap,go_sem,Zds]) (⟨by decide,by kernel_rfl,True.intro⟩)) (fun a9 w9 h9=>⟨q7,gn,cn,h9⟩)
       · have e33:a1.tmps.getD 33 undef = .pointer (some ⟨b3,2,none⟩):=(Zm hJ hi 0 (by kernel_rfl))
         have h0:=Cq _ _ 2 _ _ _ hg.1.x3
         exact Zj (Ya hJ hW hi hun rfl (by rfl) rfl (by decide) (by decide) (Jz _ (by decide)) (w':=w') (by simp [execOp,resolve,invoke,builtin,Act.eval,e33,h0,l1,l3,l7,l8,hlt,hcap,go_sem,Zds]) (⟨by decide,by kernel_rfl,True.intro⟩)) (fun a9 w9 h9=>⟨q7,gn,cn,h9⟩)
       · have e4:a1.tmps.getD 4 undef = .int .i64 k:=hJ.un 4 (fun i hi _=>Zjo 4 (by decide) i hi)
         exact Zj (Ya hJ hW hi hun rfl (by rfl) rfl (by decide) (by decide) (Jz _ (by decide)) (w':=w') (by simp [execOp,resolve,invoke,builtin,Act.eval,e4,l1,l3,l7,l8,hlt,hcap,go_sem,Zds]) (⟨by decide,by kernel_rfl,True.intro⟩)) (fun a9 w9 h9=>⟨q7,gn,cn,h9⟩)
       · have e3:a1.tmps.getD 3 undef = .pointer (some ⟨b3,0,none⟩):=hJ.un 3 (fun i hi _=>Zjo 3 (by decide) i hi)
         exact Zj (Ya hJ hW hi hun rfl (by rfl) rfl (by decide) (by decide) (Jz _ (by decide)) (w':=w') (by simp [execOp,resolve,invoke,builtin,Act.eval,e3,l1,l3,l7,l8,hlt,hcap,go_sem,Zds]) (⟨by decide,by kernel_rfl,True.intro⟩)) (fun a9 w9 h9=>⟨q7,gn,cn,h9⟩)
       · have e36:a1.tmps.getD 36 undef = .pointer (some ⟨b3,2,none⟩):=(Zm hJ hi 3 (by kernel_rfl))
         have h0:=Cq _ _ 2 _ _ _ hg.1.x3
         exact Zj (Ya hJ hW hi hun rfl (by rfl) rfl (by decide) (by decide) (Jz _ (by decide)) (w':=w') (by simp [execOp,resolve,invoke,builtin,Act.eval,e36,h0,l1,l3,l7,l8,hlt,hcap,go_sem,Zds]) (⟨by decide,by kernel_rfl,True.intro⟩)) (fun a9 w9 h9=>⟨q7,gn,cn,h9⟩)
       · have e4:a1.tmps.getD 4 undef = .int .i64 k:=hJ.un 4 (fun i hi _=>Zjo 4 (by decide) i hi)
         exact Zj (Ya hJ hW hi hun rfl (by rfl) rfl (by decide) (by decide) (Jz _ (by decide)) (w':=w') (by simp [execOp,resolve,invoke,builtin,Act.eval,e4,l1,l3,l7,l8,hlt,hcap,go_sem,Zds]) (⟨by decide,by kernel_rfl,True.intro⟩)) (fun a9 w9 h9=>⟨q7,gn,cn,h9⟩)
       · have e37:a1.tmps.getD 37 undef = .slice (some ⟨gF,0,none⟩) fs.length cF9:=(Zm hJ hi 4 (by kernel_rfl))
         have e38:a1.tmps.getD 38 undef = .int .i64 k:=(Zm hJ hi 5 (by kernel_rfl))
         exact Zj (Ya hJ hW hi hun rfl (by rfl) rfl (by decide) (by decide) (Jz _ (by decide)) (w':=w') (by first|(simp [execOp,resolve,invoke,builtin,Act.eval,e37,e38,l1,l3,l7,l8,hlt,hcap,go_sem,Zds];done)|(simp [execOp,resolve,invoke,builtin,Act.eval,e37,e38,l1,l3,l7,l8,hlt,hcap,go_sem,Zds];omega)|(simp [execOp,resolve,invoke,builtin,Act.eval,e37,e38,l1,l3,l7,l8,hlt,hcap,go_sem,Zds];intro h;omega)|(simp [execOp,resolve,invoke,builtin,Act.eval,e37,e38,l1,l3,l7,l8,hlt,hcap,go_sem,Zds];intros;omega)) (⟨by decide,by kernel_rfl,True.intro⟩)) (fun a9 w9 h9=>⟨q7,gn,cn,h9⟩)
       · have e39:a1.tmps.getD 39 undef = .pointer (some ⟨gF,k*4,none⟩):=(Zm hJ hi 6 (by kernel_rfl))
         exact Zj (Ya hJ hW hi hun rfl (by rfl) rfl (by decide) (by decide) (Jz _ (by decide)) (w':=w') (by simp [execOp,resolve,invoke,builtin,Act.eval,e39,l1,l3,l7,l8,hlt,hcap,go_sem,Zds]) (⟨by decide,by kernel_rfl,True.intro⟩)) (fun a9 w9 h9=>⟨q7,gn,cn,h9⟩)
       · have e40:a1.tmps.getD 40 undef = .pointer (some ⟨gF,k*4+3,none⟩):=(Zm hJ hi 7 (by kernel_rfl))
         have h0:=(Zit hg.2.2.1 hcl HK.out HV.out).1
         exact Zj (Ya hJ hW hi hun rfl (by rfl) rfl (by decide) (by decide) (Jz _ (by decide)) (w':=w') (by simp [execOp,resolve,invoke,builtin,Act.eval,e40,h0,l1,l3,l7,l8,hlt,hcap,go_sem,Zds]) (⟨by decide,by kernel_rfl,True.intro⟩)) (fun a9 w9 h9=>⟨q7,gn,cn,h9⟩)
       · exact Zj (Ya hJ hW hi hun rfl (by rfl) rfl (by decide) (by decide) (Jz _ (by decide)) (w':=w') (by simp [execOp,resolve,invoke,builtin,Act.eval,l1,l3,l7,l8,hlt,hcap,go_sem,Zds]) (⟨by decide,by kernel_rfl,True.intro⟩)) (fun a9 w9 h9=>⟨q7,gn,cn,h9⟩)
       · have e42:a1.tmps.getD 42 undef = .agg #[.int .i64 (-7),.int .i64 0]:=(Zm hJ hi 9 (by kernel_rfl))
         have f42:=e42
         rw [Array.getD_eq_getD_getElem?] at f42
         refine Zah (v:=Zds w.heap.size w.heap.size b3 k fs.length gF cF9 gb ob cF c.length cc cc0 pc pc0 (Zw (c++[(-7,0)])) cvl w'.heap.size gn cn 10) (w':=w'.alloc (.cells #[.int .i64 (-7),.int .i64 0] 49)) rfl (by rfl) (by simp [execOp,Act.eval,e42,f42,Yso,Result.andThen,Zds]) ⟨w'.heap.size,gn,cn,?_,Zbe hW (by decide) hun (by decide) (Zn _ hi (by kernel_rfl)) (⟨Zek hg.1 (Ga _ _ none),Zct hg.2.1 (Ga _ _ none) (Classical.em _),Zfa hg.2.2.1 (Ga _ _ none) (Classical.em _),Jr hg.2.2.2 (Ga _ _ none) Znc⟩) (fun hne0 hun0 hB0=>hB0.alloc _) (fun j hj hne hl hcu hF => ?_) (heap_alloc_new w' _)⟩
         · exact Jq (val:=Zds w.heap.size w.heap.size b3 k fs.length gF cF9 gb ob cF c.length cc cc0 pc pc0 (Zw (c++[(-7,0)])) cvl w'.heap.size gn cn) (Jj hJ (Ysb hW.cl hun)) (by decide) (by decide) (Jz _ (by decide))
         · rcases Zpb j hj with rfl|rfl|rfl|rfl|rfl|rfl|rfl|rfl|rfl|rfl|rfl|rfl|rfl|rfl|rfl|rfl|rfl|rfl|rfl|rfl|rfl|rfl|rfl
           · exact True.intro
           · exact True.intro
           · exact True.intro
           · exact True.intro
           · exact True.intro
           · exact True.intro
           · exact True.intro
           · exact True.intro
           · exact True.intro
           · exact True.intro
           · exact absurd rfl hne
           · exact Yq (hW.cl (11,10) (by decide) (hl)) hun
           · exact True.intro
           · exact True.intro
           · exact True.intro
           · exact True.intro
           · exact True.intro
           · exact True.intro
           · exact True.intro
           · exact True.intro
           · exact True.intro
           · exact True.intro
           · exact True.intro
       · have e41:a1.tmps.getD 41 undef = .slice pc c.length cc:=(Zm hJ hi 8 (by kernel_rfl))
         have e43:a1.tmps.getD 43 undef = .slice (some ⟨q7,0,none⟩) 1 1:=(Zm hJ hi 10 (by kernel_rfl))
         have F10:=hW.f hns 10 (by decide) (Zf hi 10 (by kernel_rfl)) (Zhw (c:=11) (by decide) hun)
         have own:=hW.u hun
         obtain ⟨pv2,cn2,w8,hap,hown,hgr,hloc⟩:=Zdw (P:=Try.prog) w' w.heap.size 50 50 49 ni (.agg #[.int .i64 0,.int .i64 0]) 2 16 Zab ni0 ni1 ni2 ni3 rfl (by decide) _ c.length (Zw c) own (some ⟨q7,0,none⟩) 1 1 [.int .i64 (-7),.int .i64 0] rfl (Zyo F10) (Zpo _ _ _) (by unfold maxLen;omega) (by omega) hg.1.g.size
         obtain ⟨gn2,cn3,hv⟩:=Xv hown
         injection hv with hv1 _ _
         subst hv1
         refine Zah (v:=Zds w.heap.size w.heap.size b3 k fs.length gF cF9 gb ob cF c.length cc cc0 pc pc0 (Zw (c++[(-7,0)])) cvl q7 gn2 cn2 11) (w':=w8) rfl (by rfl) (by simp [execOp,resolve,invoke,builtin,Act.eval,e41,e43,hap,Result.andThen,Zds]) ⟨q7,gn2,cn2,?_,Zbe hW (by decide) hun (by decide) (Zn _ hi (by kernel_rfl)) (⟨Zqx hg.1 own (by decide) hgr,Zct hg.2.1 hgr (Zrp hg.2.1 own (by decide)),Zfa hg.2.2.1 hgr (Zzp hg.2.2.1 own (by decide)),Jr hg.2.2.2 hgr (Zus hg.2.2.2 HV.out)⟩) (fun hne0 hun0 hB0=>absurd rfl hne0) (fun j hj hne hl hcu hF => ?_) (⟨by rw [Yv];exact hown,Yxs hg.2.2.2 HV.out hloc⟩)⟩
         · exact Jq (val:=Zds w.heap.size w.heap.size b3 k fs.length gF cF9 gb ob cF c.length cc cc0 pc pc0 (Zw (c++[(-7,0)])) cvl q7 gn2 cn2) (Jj hJ (Ysa hW.cl hun)) (by decide) (by decide) (Jz _ (by decide))
         · rcases Zpb j hj with rfl|rfl|rfl|rfl|rfl|rfl|rfl|rfl|rfl|rfl|rfl|rfl|rfl|rfl|rfl|rfl|rfl|rfl|rfl|rfl|rfl|rfl|rfl
           · exact True.intro
           · exact True.intro
           · exact True.intro
           · exact True.intro
           · exact True.intro
           · exact True.intro
           · exact True.intro
           · exact True.intro
           · exact True.intro
           · exact True.intro
           · exact absurd rfl (hcu (10,11) (by decide) rfl).1
           · exact absurd rfl hne
           · exact True.intro
           · exact True.intro
           · exact True.intro
           · exact True.intro
           · exact True.intro
           · exact True.intro
           · exact True.intro
           · exact True.intro
           · exact True.intro
           · exact True.intro
           · exact True.intro
       · have e1:a1.tmps.getD 1 undef = .pointer (some ⟨w.heap.size,0,none⟩):=hJ.un 1 (fun i hi _=>Zjo 1 (by decide) i hi)
         exact Zj (Ya hJ hW hi hun rfl (by rfl) rfl (by decide) (by decide) (Jz _ (by decide)) (w':=w') (by simp [execOp,resolve,invoke,builtin,Act.eval,e1,l1,l3,l7,l8,hlt,hcap,go_sem,Zds]) (⟨by decide,by kernel_rfl,True.intro⟩)) (fun a9 w9 h9=>⟨q7,gn,cn,h9⟩)
       · have e45:a1.tmps.getD 45 undef = .pointer (some ⟨w.heap.size,2,none⟩):=(Zm hJ hi 12 (by kernel_rfl))
         have h0:=Cq _ _ 2 _ _ _ hg.1.x1
         exact Zj (Ya hJ hW hi hun rfl (by rfl) rfl (by decide) (by decide) (Jz _ (by decide)) (w':=w') (by simp [execOp,resolve,invoke,builtin,Act.eval,e45,h0,l1,l3,l7,l8,hlt,hcap,go_sem,Zds]) (⟨by decide,by kernel_rfl,True.intro⟩)) (fun a9 w9 h9=>⟨q7,gn,cn,h9⟩)
       · have e4:a1.tmps.getD 4 undef = .int .i64 k:=hJ.un 4 (fun i hi _=>Zjo 4 (by decide) i hi)
         exact Zj (Ya hJ hW hi hun rfl (by rfl) rfl (by decide) (by decide) (Jz _ (by decide)) (w':=w') (by simp [execOp,resolve,invoke,builtin,Act.eval,e4,l1,l3,l7,l8,hlt,hcap,go_sem,Zds]) (⟨by decide,by kernel_rfl,True.intro⟩)) (fun a9 w9 h9=>⟨q7,gn,cn,h9⟩)
       · have e46:a1.tmps.getD 46 undef = .slice (some ⟨gb,ob,none⟩) fs.length cF:=(Zm hJ hi 13 (by kernel_rfl))
         have e47:a1.tmps.getD 47 undef = .int .i64 k:=(Zm hJ hi 14 (by kernel_rfl))
         exact Zj (Ya hJ hW hi hun rfl (by rfl) rfl (by decide) (by decide) (Jz _ (by decide)) (w':=w') (by first|(simp [execOp,resolve,invoke,builtin,Act.eval,e46,e47,l1,l3,l7,l8,hlt,hcap,go_sem,Zds];done)|(simp [execOp,resolve,invoke,builtin,Act.eval,e46,e47,l1,l3,l7,l8,hlt,hcap,go_sem,Zds];omega)|(simp [execOp,resolve,invoke,builtin,Act.eval,e46,e47,l1,l3,l7,l8,hlt,hcap,go_sem,Zds];intro h;omega)|(simp [execOp,resolve,invoke,builtin,Act.eval,e46,e47,l1,l3,l7,l8,hlt,hcap,go_sem,Zds];intros;omega)) (⟨by decide,by kernel_rfl,True.intro⟩)) (fun a9 w9 h9=>⟨q7,gn,cn,h9⟩)
       · have e48:a1.tmps.getD 48 undef = .pointer (some ⟨gb,ob+k*4,none⟩):=(Zm hJ hi 15 (by kernel_rfl))
         exact Zj (Ya hJ hW hi hun rfl (by rfl) rfl (by decide) (by decide) (Jz _ (by decide)) (w':=w') (by simp [execOp,resolve,invoke,builtin,Act.eval,e48,l1,l3,l7,l8,hlt,hcap,go_sem,Zds]) (⟨by decide,by kernel_rfl,True.intro⟩)) (fun a9 w9 h9=>⟨q7,gn,cn,h9⟩)
       · have e49:a1.tmps.getD 49 undef = .pointer (some ⟨gb,ob+k*4+3,none⟩):=(Zm hJ hi 16 (by kernel_rfl))
         have h0:=hg.1.g.cell f3 (by simp)
         exact Zj (Ya hJ hW hi hun rfl (by rfl) rfl (by decide) (by decide) (Jz _ (by decide)) (w':=w') (by simp [execOp,resolve,invoke,builtin,Act.eval,e49,h0,l1,l3,l7,l8,hlt,hcap,go_sem,Zds]) (⟨by decide,by kernel_rfl,True.intro⟩)) (fun a9 w9 h9=>⟨q7,gn,cn,h9⟩)
       · have e50:a1.tmps.getD 50 undef = .slice pc0 c.length cc0:=(Zm hJ hi 17 (by kernel_rfl))
         exact Zj (Ya hJ hW hi hun rfl (by rfl) rfl (by decide) (by decide) (Jz _ (by decide)) (w':=w') (by simp [execOp,resolve,invoke,builtin,Act.eval,e50,l1,l3,l7,l8,hlt,hcap,go_sem,Zds]) (⟨by decide,by kernel_rfl,True.intro⟩)) (fun a9 w9 h9=>⟨q7,gn,cn,h9⟩)
       · have hcap:(c.length:Int)<=(cn:Int):=by have:=(Zdf (hW.f hns 11 (by decide) (Zf hi 11 (by kernel_rfl)) (Zjy (by decide))).1).1;omega
         have e44:a1.tmps.getD 44 undef = .slice (some ⟨gn,0,none⟩) (c.length+1) cn:=(Zm hJ hi 11 (by kernel_rfl))
         have e51:a1.tmps.getD 51 undef = .int .i64 c.length:=(Zm hJ hi 18 (by kernel_rfl))
         exact Zj (Ya hJ hW hi hun rfl (by rfl) rfl (by decide) (by decide) (Jz _ (by decide)) (w':=w') (by first|(simp [execOp,resolve,invoke,builtin,Act.eval,e44,e51,l1,l3,l7,l8,hlt,hcap,go_sem,Zds];done)|(simp [execOp,resolve,invoke,builtin,Act.eval,e44,e51,l1,l3,l7,l8,hlt,hcap,go_sem,Zds];omega)|(simp [execOp,resolve,invoke,builtin,Act.eval,e44,e51,l1,l3,l7,l8,hlt,hcap,go_sem,Zds];intro h;omega)|(simp [execOp,resolve,invoke,builtin,Act.eval,e44,e51,l1,l3,l7,l8,hlt,hcap,go_sem,Zds];intros;omega)) (⟨by decide,by kernel_rfl,True.intro⟩)) (fun a9 w9 h9=>⟨q7,gn,cn,h9⟩)
       · have e34:a1.tmps.getD 34 undef = .slice (some ⟨gF,0,none⟩) fs.length cF9:=(Zm hJ hi 1 (by kernel_rfl))
         have e35:a1.tmps.getD 35 undef = .int .i64 k:=(Zm hJ hi 2 (by kernel_rfl))
         exact Zj (Ya hJ hW hi hun rfl (by rfl) rfl (by decide) (by decide) (Jz _ (by decide)) (w':=w') (by first|(simp [execOp,resolve,invoke,builtin,Act.eval,e34,e35,l1,l3,l7,l8,hlt,hcap,go_sem,Zds];done)|(simp [execOp,resolve,invoke,builtin,Act.eval,e34,e35,l1,l3,l7,l8,hlt,hcap,go_sem,Zds];omega)|(simp [execOp,resolve,invoke,builtin,Act.eval,e34,e35,l1,l3,l7,l8,hlt,hcap,go_sem,Zds];intro h;omega)|(simp [execOp,resolve,invoke,builtin,Act.eval,e34,e35,l1,l3,l7,l8,hlt,hcap,go_sem,Zds];intros;omega)) (⟨by decide,by kernel_rfl,True.intro⟩)) (fun a9 w9 h9=>⟨q7,gn,cn,h9⟩)
       · have e53:a1.tmps.getD 53 undef = .pointer (some ⟨gF,k*4,none⟩):=(Zm hJ hi 20 (by kernel_rfl))
         exact Zj (Ya hJ hW hi hun rfl (by rfl) rfl (by decide) (by decide) (Jz _ (by decide)) (w':=w') (by simp [execOp,resolve,invoke,builtin,Act.eval,e53,l1,l3,l7,l8,hlt,hcap,go_sem,Zds]) (⟨by decide,by kernel_rfl,True.intro⟩)) (fun a9 w9 h9=>⟨q7,gn,cn,h9⟩)
       · have e54:a1.tmps.getD 54 undef = .pointer (some ⟨gF,k*4+3,none⟩):=(Zm hJ hi 21 (by kernel_rfl))
         have e52:a1.tmps.getD 52 undef = .slice (some ⟨gn,0,none⟩) c.length cn:=(Zm hJ hi 19 (by kernel_rfl))
         have F11:=hW.f hns 11 (by decide) (hW.cl (19,11) (by decide) (Zf hi 19 (by kernel_rfl))) (Zjy (by decide))
         have k1:=(Zit hg.2.2.1 hcl HK.out HV.out).1
         have j1:=(Zit hg.2.2.1 hcl HK.out HV.out).2.1
         have lb:=(Zit hg.2.2.1 hcl HK.out HV.out).2.2
         have gs:=Zg w' gF (k*4+3) (.slice (some ⟨gn,0,none⟩) c.length cn)
         have rw7:=Yst hg.2.2.1
         have hall:∀ j,j<23->j≠22->l.getD j false=true:=by
          intro j hj hne
          rcases Zpb j hj with rfl|rfl|rfl|rfl|rfl|rfl|rfl|rfl|rfl|rfl|rfl|rfl|rfl|rfl|rfl|rfl|rfl|rfl|rfl|rfl|rfl|rfl|rfl
          · exact hW.cl (1,0) (by decide) (hW.cl (20,1) (by decide) (hW.cl (21,20) (by decide) (Zf hi 21 (by kernel_rfl))))
          · exact hW.cl (20,1) (by decide) (hW.cl (21,20) (by decide) (Zf hi 21 (by kernel_rfl)))
          · exact hW.cl (20,2) (by decide) (hW.cl (21,20) (by decide) (Zf hi 21 (by kernel_rfl)))
          · exact hW.cl (4,3) (by decide) (hW.cl (6,4) (by decide) (hW.cl (7,6) (by decide) (hW.cl (8,7) (by decide) (hW.cl (11,8) (by decide) (hW.cl (19,11) (by decide) (Zf hi 19 (by kernel_rfl)))))))
          · exact hW.cl (6,4) (by decide) (hW.cl (7,6) (by decide) (hW.cl (8,7) (by decide) (hW.cl (11,8) (by decide) (hW.cl (19,11) (by decide) (Zf hi 19 (by kernel_rfl))))))
          · exact hW.cl (6,5) (by decide) (hW.cl (7,6) (by decide) (hW.cl (8,7) (by decide) (hW.cl (11,8) (by decide) (hW.cl (19,11) (by decide) (Zf hi 19 (by kernel_rfl))))))
          · exact hW.cl (7,6) (by decide) (hW.cl (8,7) (by decide) (hW.cl (11,8) (by decide) (hW.cl (19,11) (by decide) (Zf hi 19 (by kernel_rfl)))))
          · exact hW.cl (8,7) (by decide) (hW.cl (11,8) (by decide) (hW.cl (19,11) (by decide) (Zf hi 19 (by kernel_rfl))))
          · exact hW.cl (11,8) (by decide) (hW.cl (19,11) (by decide) (Zf hi 19 (by kernel_rfl)))
          · exact hW.cl (10,9) (by decide) (hW.cl (11,10) (by decide) (hW.cl (19,11) (by decide) (Zf hi 19 (by kernel_rfl))))
          · exact hW.cl (11,10) (by decide) (hW.cl (19,11) (by decide) (Zf hi 19 (by kernel_rfl)))
          · exact hW.cl (19,11) (by decide) (Zf hi 19 (by kernel_rfl))
          · exact hW.cl (13,12) (by decide) (hW.cl (15,13) (by decide) (hW.cl (16,15) (by decide) (hW.cl (17,16) (by decide) (hW.cl (18,17) (by decide) (hW.cl (19,18) (by decide) (Zf hi 19 (by kernel_rfl)))))))
          · exact hW.cl (15,13) (by decide) (hW.cl (16,15) (by decide) (hW.cl (17,16) (by decide) (hW.cl (18,17) (by decide) (hW.cl (19,18) (by decide) (Zf hi 19 (by kernel_rfl))))))
          · exact hW.cl (15,14) (by decide) (hW.cl (16,15) (by decide) (hW.cl (17,16) (by decide) (hW.cl (18,17) (by decide) (hW.cl (19,18) (by decide) (Zf hi 19 (by kernel_rfl))))))
          · exact hW.cl (16,15) (by decide) (hW.cl (17,16) (by decide) (hW.cl (18,17) (by decide) (hW.cl (19,18) (by decide) (Zf hi 19 (by kernel_rfl)))))
          · exact hW.cl (17,16) (by decide) (hW.cl (18,17) (by decide) (hW.cl (19,18) (by decide) (Zf hi 19 (by kernel_rfl))))
          · exact hW.cl (18,17) (by decide) (hW.cl (19,18) (by decide) (Zf hi 19 (by kernel_rfl)))
          · exact hW.cl (19,18) (by decide) (Zf hi 19 (by kernel_rfl))
          · exact Zf hi 19 (by kernel_rfl)
          · exact hW.cl (21,20) (by decide) (Zf hi 21 (by kernel_rfl))
          · exact Zf hi 21 (by kernel_rfl)
          · exact absurd rfl hne
         exact Zj (Zbh hW hJ rfl rfl rfl (by decide) (by decide) (w':=w'.setCell ⟨gF,k*4+3,none⟩ (.slice (some ⟨gn,0,none⟩) c.length cn)) (by simp [execOp,Act.eval,e54,e52,k1,j1,lb,go_sem]) (Zht hW (by decide) (by decide) hall (Zn _ hi (by kernel_rfl)) (⟨Zqx hg.1 rw7 (by decide) gs,Zct hg.2.1 gs (Zrp hg.2.1 rw7 (by decide)),Ysu hg.2.2.1 hcl hkl _,Yxr (Jr hg.2.2.2 gs (Zrq hg.2.2.2 rw7 (by decide))) HK.out ⟨_,_,rfl,by simpa using F11.1.kept gs (Zii F11.1 rw7 (by decide))⟩ F11.2⟩))) (fun a9 w9 h9=>⟨q7,gn,cn,h9⟩)
      case fin =>
       intro l a1 w9 hJJ hl
       obtain ⟨q7,gn,cn,hJ,hW⟩:=hJJ
       have Q7:=Hq (hW.q (hl 22 (by decide)))
       have hput:=Jf hJ rfl hl (fun i j h1 h2 h3=>Jz j h2 i h1 h3)
       subst hput
       clear hJ hW hl
       refine hK _ _ ?_
       simp only [Zai,ld7,Zds,Act.put,List.setIfInBounds_toArray,List.set_cons_zero,List.set_cons_succ]
       clear hK K
       go_wp2
       go_roundw
       case rel=>exact ⟨k+1,_,by go_num,by omega,Q7.out.1,Q7.out.2.1,Q7.out.2.2.1,Q7.out.2.2.2⟩
       case measure=>simp [intOf];omega
    · have hkn:k=fs.length:=by omega
      subst hkn
      have y0:=Cq _ _ 0 _ _ _ hl.x2
      have y1:=Cq _ _ 1 _ _ _ hl.x2
      have y2:=Cq _ _ 2 _ _ _ hl.x2
      have q0:=frozen_of_row _ _ 0 _ _ hl.x2
      have q1:=frozen_of_row _ _ 1 _ _ hl.x2
      have q2:=frozen_of_row _ _ 2 _ _ hl.x2
      have yl:=(Gs hl.x2)
      have x0:=Cq _ _ 0 _ _ _ hl.x3
      have x1:=Cq _ _ 1 _ _ _ hl.x3
      have nb:=hl.n2
      clear hl hd9 hfr hcs
      go_wp2
      refine bodyPost_ret (v := .agg #[.int .i64 mem,.slice (some ⟨gv,0,none⟩) dl.length cv9,.slice (some ⟨gF,0,none⟩) fs.length cF9]) ?_ rfl ⟨_,_,cvl,rfl,Ze (Ze (Ze HL.out.g (by omega)) (by omega)) (by omega),?_⟩
      · rw [Ym rfl]
        go_simp
      · have gs:wr.grownBy (((wr.setCell ⟨w.heap.size+1,0,none⟩ (.int .i64 mem)).setCell ⟨w.heap.size+1,1,none⟩ (.slice (some ⟨gv,0,none⟩) dl.length cv9)).setCell ⟨w.heap.size+1,2,none⟩ (.slice (some ⟨gF,0,none⟩) fs.length cF9)) (some (w.heap.size+1)):=Za (Za (Zg _ _ _ _) (Zg _ _ _ _)) (Zg _ _ _ _)
        exact ⟨Zct HD9.out gs (Yia HD9.out HL.out.x2 (by decide)),Zfa HFR.out gs (Yhf HFR.out HL.out.x2 (by decide)),Jr (Yoy HCS.out) gs (Zxj (Yoy HCS.out) HL.out.x2 (by decide))⟩
structure Znl (w:World) (base hi gD cD gF cF:Nat) (dl:List Int) (fs:List FnP) (cv:List Value):Prop where
 d:w.ownsRow base 5 1 (.slice (some ⟨gD,0,none⟩) (dl.length+1) cD) (dl.length+1) ((dl++[169]).map (Value.int .u8))
 f:w.ownsRow base 52 4 (.slice (some ⟨gF,0,none⟩) (fs.length+1) cF) (fs.length+1) (Xa fs cv++[.int .i64 (-7),.int .i64 0,.int .i64 0,.slice none 0 0])
 c:CsX w base fs cv (fun _=>[(-7,0)]) (fun _=>True)
 hd:gD<hi
 hf:gF<hi
 hc:∀ (k:Nat) (v:Value) (b:Nat),cv[k]? = some v->v.ownBlock=some b->b<hi
theorem Ymj {w:World} {base:Nat} {D F:Value} {dl:List Int} {fs:List FnP} {cv:List Value} (h:Yyh w base D F dl fs cv):∃ gD cD gF cF,D = .slice (some ⟨gD,0,none⟩) dl.length cD/\F = .slice (some ⟨gF,0,none⟩) fs.length cF/\Znl w base w.heap.size gD cD gF cF dl fs cv:=by
 obtain ⟨pD,cD,rfl,h1⟩:=h.d
 obtain ⟨pF,cF,rfl,h2⟩:=h.f
 obtain ⟨gD,cD',e⟩:=Xv h1
 injection e with e1 _ e3
 obtain ⟨gF,cF',e⟩:=Xv h2
 injection e with e4 _ e6
 subst e1;subst e4
 refine ⟨gD,cD,gF,cF,rfl,rfl,h1,h2,h.c,(h1.lt gD rfl).2,(h2.lt gF rfl).2,fun k v b hv hb => ?_⟩
 obtain ⟨p,c,hu',ho⟩:=h.c.each k _ v trivial (List.getElem?_eq_getElem (by rw [<- h.c.cl];exact (List.getElem?_eq_some_iff.1 hv).1)) hv
 rw [hu',Zdj p _ (_+_) c c] at hb
 exact (ho.lt b hb).2
section
variable {w w':World} {base hi gD cD gF cF:Nat} {dl:List Int} {fs:List FnP} {cv:List Value}
theorem Zbv (h:Znl w base hi gD cD gF cF dl fs cv) (g:w.grownBy w' none):Znl w' base hi gD cD gF cF dl fs cv :=
 ⟨h.d.kept g (Classical.em _),h.f.kept g (Classical.em _),Jr h.c g Znc,h.hd,h.hf,h.hc⟩
theorem Zjm (h:Znl w base hi gD cD gF cF dl fs cv):w.cell? ⟨gD,dl.length,none⟩=some (.int .u8 169)/\dl.length+1<=cD/\gD<w.heap.size:=by
 refine ⟨?_,(Zdf h.d).1,(h.d.lt gD rfl).2⟩
 rw [h.d.cellAt _ (by omega),List.map_append,List.getElem?_append_right (by simp)]
 simp
theorem Zez (h:Znl w base hi gD cD gF cF dl fs cv):w.cell? ⟨gF,fs.length*4,none⟩=some (.int .i64 (-7))/\fs.length+1<=cF/\gF<w.heap.size:=by
 have hl:=Ja fs cv h.c.cl
 refine ⟨?_,(Zdf h.f).1,(h.f.lt gF rfl).2⟩
 rw [h.f.cellAt _ (by omega),List.getElem?_append_right (by omega),hl,Nat.sub_self]
 rfl
theorem Zwv (h:Znl w base hi gD cD gF cF dl fs cv) {k:Nat} {f:FnP} {v:Value} (hf:fs[k]? = some f) (hv:cv[k]? = some v):w.cell? ⟨gF,k*4+3,none⟩=some v:=by
 have hk:=(List.getElem?_eq_some_iff.1 hf).1
 have hl:=Ja fs cv h.c.cl
 obtain ⟨_,_,_,q3⟩:=Xs fs cv k f v hf hv
 rw [h.f.cellAt _ (by omega),List.getElem?_append_left (by omega)]
 exact q3
theorem Zjn (h:Znl w base hi gD cD gF cF dl fs cv) {k:Nat} {f:FnP} (hf:fs[k]? = some f):∃ g c,cv[k]? = some (.slice (some ⟨g,0,none⟩) f.2.2.2.length c)/\w.ownsRow base 49 2 (.slice (some ⟨g,0,none⟩) (f.2.2.2.length+1) c) (f.2.2.2.length+1) (Zw (f.2.2.2++[(-7,0)]))/\w.cell? ⟨g,f.2.2.2.length*2,none⟩=some (.int .i64 (-7))/\f.2.2.2.length+1<=c/\g<w.heap.size:=by
 have hk:=(List.getElem?_eq_some_iff.1 hf).1
 obtain ⟨v,hv⟩:∃ v,cv[k]? = some v:=⟨_,List.getElem?_eq_getElem (by rw [h.c.cl];exact hk)⟩
 obtain ⟨p,c,e,ho⟩:=h.c.each k f v trivial hf hv
 obtain ⟨g,c',e2⟩:=Xv ho
 injection e2 with e3 _ e4
 subst e3;subst e
 refine ⟨g,c,hv,ho,?_,(Zdf ho).1,(ho.lt g rfl).2⟩
 have hx:(f.2.2.2++[((-7:Int),(0:Int))])[f.2.2.2.length]? = some (-7,0):=by rw [List.getElem?_append_right (Nat.le_refl _),Nat.sub_self];rfl
 rw [ho.cellAt _ (by omega)]
 exact (Zad _ _ _ _ hx).1
theorem Zmp (h:Znl w base hi gD cD gF cF dl fs cv):Yk w w.heap.size (some ⟨gF,0,none⟩) fs:=fun h0=>by
 have hl:=Ja fs cv h.c.cl
 refine ⟨gF,0,rfl,(h.f.lt gF rfl).2,fun i a l r c hi => ?_⟩
 have hil:=(List.getElem?_eq_some_iff.1 hi).1
 obtain ⟨g,k,hv,ho,_⟩:=Zjn h hi
 obtain ⟨q0,q1,q2,q3⟩:=Xs fs cv i _ _ hi hv
 rw [Nat.zero_add]
 refine ⟨?_,?_,?_,some ⟨g,0,none⟩,k,?_,fun h1=>⟨g,0,rfl,(ho.lt g rfl).2,fun j op a hj => ?_⟩⟩
 · rw [h.f.cellAt _ (by omega),List.getElem?_append_left (by omega)];exact q0
 · rw [h.f.cellAt _ (by omega),List.getElem?_append_left (by omega)];exact q1
 · rw [h.f.cellAt _ (by omega),List.getElem?_append_left (by omega)];exact q2
 · rw [h.f.cellAt _ (by omega),List.getElem?_append_left (by omega)];exact q3
 · have hjl:=(List.getElem?_eq_some_iff.1 hj).1
   have hx:(c++[((-7:Int),(0:Int))])[j]? = some (op,a):=by rw [List.getElem?_append_left hjl];exact hj
   obtain ⟨p0,p1⟩:=Zad _ _ _ _ hx
   rw [Nat.zero_add]
   simp only [] at ho
   exact ⟨by rw [ho.cellAt _ (by omega)];exact p0,by rw [ho.cellAt _ (by omega)];exact p1⟩
theorem Zmq (h:Znl w base hi gD cD gF cF dl fs cv):Rd w (some ⟨gD,0,none⟩) (dl.map (Value.int .u8)):=fun h0=>⟨gD,0,rfl,fun j u hj=>by
 have hjl:=(List.getElem?_eq_some_iff.1 hj).1
 rw [List.length_map] at hjl
 rw [Nat.zero_add,h.d.cellAt _ (by omega),List.map_append,List.getElem?_append_left (by simpa using hjl)]
 exact hj⟩
end
structure KpS (w0 wr:World) (base hi bL bP gD cD nD gF cF i:Nat) (xL xP:Array Value) (fs:List FnP) (cv:List Value):Prop where
 sp:Sp (fun k=>base<=k/\k<hi) w0 wr
 l:wr.heap[bL]? = some (.cells xL 25 (0,0))
 p:wr.heap[bP]? = some (.cells xP 25 (0,0))
 d:∃ ys,wr.ownsRow base 5 1 (.slice (some ⟨gD,0,none⟩) (nD+1) cD) (nD+1) ys
 f:∃ zs,wr.ownsRow base 52 4 (.slice (some ⟨gF,0,none⟩) (fs.length+1) cF) (fs.length+1) zs/\∀ j,i<=j->j<fs.length->zs[j*4+3]? = cv[j]?
 c:∀ (j:Nat) (f:FnP),i<=j->fs[j]? = some f->∃ g c ys,cv[j]? = some (.slice (some ⟨g,0,none⟩) f.2.2.2.length c)/\wr.ownsRow base 49 2 (.slice (some ⟨g,0,none⟩) (f.2.2.2.length+1) c) (f.2.2.2.length+1) ys
 dis:∀ (k l:Nat) (v v':Value) (b:Nat),k≠l->cv[k]? = some v->cv[l]? = some v'->v.ownBlock=some b->v'.ownBlock≠some b
 hd:gD<hi
 hf:gF<hi
 hc:∀ (k:Nat) (v:Value) (b:Nat),cv[k]? = some v->v.ownBlock=some b->b<hi
theorem Yxg {w0 wr:World} {base hi bL bP gD cD gF cF:Nat} {xL xP:Array Value} {dl:List Int} {fs:List FnP} {cv:List Value} (h:Znl wr base hi gD cD gF cF dl fs cv) (g:w0.grownBy wr none) (hl:wr.heap[bL]? = some (.cells xL 25 (0,0))) (hp:wr.heap[bP]? = some (.cells xP 25 (0,0))) :
 KpS w0 wr base hi bL bP gD cD dl.length gF cF 0 xL xP fs cv:=by
 have hll:=Ja fs cv h.c.cl
 refine ⟨Yl g (by simp),hl,hp,⟨_,h.d⟩,⟨_,h.f,fun j _ hj => ?_⟩,fun j f _ hf => ?_,h.c.dis,h.hd,h.hf,h.hc⟩
 · obtain ⟨f,hf⟩:∃ f,fs[j]? = some f:=⟨_,List.getElem?_eq_getElem hj⟩
   obtain ⟨v,hv⟩:∃ v,cv[j]? = some v:=⟨_,List.getElem?_eq_getElem (by rw [h.c.cl];exact hj)⟩
   rw [List.getElem?_append_left (by omega),(Xs fs cv j f v hf hv).2.2.2,hv]
 · obtain ⟨g,c,h1,h2,_⟩:=Zjn h hf
   exact ⟨g,c,_,h1,h2⟩
section
variable {w0 wr w':World} {base hi bL bP gD cD nD gF cF i:Nat} {xL xP:Array Value} {fs:List FnP} {cv:List Value}
theorem Zin {E:TypeId} {sz n m c g o:Nat} {xs:List Value} (h:KpS w0 wr base hi bL bP gD cD nD gF cF i xL xP fs cv) (ho:wr.ownsRow base E sz (.slice (some ⟨g,0,none⟩) n c) m xs) (hE:E≠25) (hg:g<hi) (u:Value)
 (hf:E=52->g=gF/\o / 4<i):KpS w0 (wr.setCell ⟨g,o,none⟩ u) base hi bL bP gD cD nD gF cF i xL xP fs cv:=by
 have gs:=Zg wr g o u
 have hb:=(ho.lt g rfl).1
 have ow:∀ {E':TypeId} {sz' n' m' c' g':Nat} {ys:List Value},wr.ownsRow base E' sz' (.slice (some ⟨g',0,none⟩) n' c') m' ys->∃ zs,(wr.setCell ⟨g,o,none⟩ u).ownsRow base E' sz' (.slice (some ⟨g',0,none⟩) n' c') m' zs/\(g'≠g->zs=ys)/\(g'=g->zs=ys.set o u):=fun {E' sz' n' m' c' g' ys} hy=>by
  have hn:n'=m':=by
   obtain ⟨p,c,e⟩:=Zq hy
   injection e
  subst hn
  by_cases e:g'=g
  · subst e
    exact ⟨_,(hy.stored o u).1,fun h=>absurd rfl h,fun _=>rfl⟩
  · exact ⟨_,hy.kept gs (Or.inr (by intro e2;injection e2 with e2;exact e e2)),fun _=>rfl,fun h=>absurd h e⟩
 refine ⟨Xc h.sp (Yl (P:=fun k=>base<=k/\k<hi) gs (fun k _ e=>by injection e with e;subst e;exact ⟨hb,hg⟩)) (fun _ _ h=>h),Zb h.l gs (by intro e;exact Yd ho h.l hE e),Zb h.p gs (by intro e;exact Yd ho h.p hE e),?_,?_,fun j f hj hfj => ?_,h.dis,h.hd,h.hf,h.hc⟩
 · obtain ⟨ys,hy⟩:=h.d
   obtain ⟨zs,hz,_⟩:=ow hy
   exact ⟨zs,hz⟩
 · obtain ⟨ys,hy,hj⟩:=h.f
   obtain ⟨zs,hz,h1,h2⟩:=ow hy
   refine ⟨zs,hz,fun j a b => ?_⟩
   by_cases e:gF=g
   · subst e
     have hEF:E=52:=by
      by_cases e2:E=52
      · exact e2
      · rcases Zii ho hy e2 with h3|h3
        · cases h3
        · exact absurd rfl h3
     have:=(hf hEF).2
     rw [h2 rfl,List.getElem?_set_ne (by omega)]
     exact hj j a b
   · rw [h1 e];exact hj j a b
 · obtain ⟨g',c',ys,h1,h2⟩:=h.c j f hj hfj
   obtain ⟨zs,hz,_⟩:=ow h2
   exact ⟨g',c',zs,h1,hz⟩
theorem Ymo (h:KpS w0 wr base hi bL bP gD cD nD gF cF i xL xP fs cv):KpS w0 wr base hi bL bP gD cD nD gF cF (i+1) xL xP fs cv :=
 ⟨h.sp,h.l,h.p,h.d,by obtain ⟨zs,h1,h2⟩:=h.f;exact ⟨zs,h1,fun j a b=>h2 j (by omega) b⟩,fun j f hj hf=>h.c j f (by omega) hf,h.dis,h.hd,h.hf,h.hc⟩
theorem Zwz (h:KpS w0 wr base hi bL bP gD cD nD gF cF i xL xP fs cv) {f:FnP} {g c n:Nat} (hf:fs[i]? = some f) (hv:cv[i]? = some (.slice (some ⟨g,0,none⟩) n c)):∃ ys,wr.ownsRow base 49 2 (.slice (some ⟨g,0,none⟩) (f.2.2.2.length+1) c) (f.2.2.2.length+1) ys:=by
 obtain ⟨g',c',ys,h1,h2⟩:=h.c i f (Nat.le_refl _) hf
 rw [hv] at h1
 injection h1 with h1;injection h1 with e1 e2 e3
 injection e1 with e1;injection e1 with e1 _ _
 subst e1;subst e3
 exact ⟨ys,h2⟩
theorem Zok {w:World} {b:Nat} {E:TypeId} {sz g n c j:Nat} {xs:List Value} (h:w.ownsRow b E sz (.slice (some ⟨g,0,none⟩) n c) n xs) (hj:j<n*sz):∃ x,w.cell? ⟨g,j,none⟩=some x/\w.frozen? ⟨g,j,none⟩=false/\g<w.heap.size:=by
 have hl:=h.1
 exact ⟨xs[j]'(by omega),by rw [h.cellAt _ hj];exact List.getElem?_eq_getElem _,Yf h j,(h.lt g rfl).2⟩
theorem Ysc (h:KpS w0 wr base hi bL bP gD cD nD gF cF i xL xP fs cv) {f:FnP} {g c n o0 o1:Nat} (hf:fs[i]? = some f) (hv:cv[i]? = some (.slice (some ⟨g,0,none⟩) n c)) (u0 u1:Value):KpS w0 ((wr.setCell ⟨g,o0,none⟩ u0).setCell ⟨g,o1,none⟩ u1) base hi bL bP gD cD nD gF cF i xL xP fs cv:=by
 obtain ⟨ys,hy⟩:=Zwz h hf hv
 have hg:=h.hc i _ g hv rfl
 have h1:=Zin (o:=o0) h hy (by decide) hg u0 (fun e=>absurd e (by decide))
 obtain ⟨zs,hz⟩:=Zwz h1 hf hv
 exact Zin h1 hz (by decide) hg u1 (fun e=>absurd e (by decide))
theorem Ysd (h:KpS w0 wr base hi bL bP gD cD nD gF cF i xL xP fs cv) (u0 u1 u2 u3:Value):KpS w0 ((((wr.setCell ⟨gF,i*4,none⟩ u0).setCell ⟨gF,i*4+1,none⟩ u1).setCell ⟨gF,i*4+2,none⟩ u2).setCell ⟨gF,i*4+3,none⟩ u3) base hi bL bP gD cD nD gF cF (i+1) xL xP fs cv:=by
 have one:∀ {w:World} (o:Nat) (u:Value),o / 4<i+1->KpS w0 w base hi bL bP gD cD nD gF cF (i+1) xL xP fs cv->KpS w0 (w.setCell ⟨gF,o,none⟩ u) base hi bL bP gD cD nD gF cF (i+1) xL xP fs cv:=fun o u ho h=>by
  obtain ⟨zs,hz,_⟩:=h.f
  exact Zin h hz (by decide) h.hf u (fun _=>⟨rfl,ho⟩)
 exact one _ _ (by omega) (one _ _ (by omega) (one _ _ (by omega) (one _ _ (by omega) (Ymo h))))
theorem Ymp (h:KpS w0 wr base hi bL bP gD cD nD gF cF i xL xP fs cv) (o:Nat) (u:Value):KpS w0 (wr.setCell ⟨gD,o,none⟩ u) base hi bL bP gD cD nD gF cF i xL xP fs cv:=by
 obtain ⟨ys,hy⟩:=h.d
 exact Zin h hy (by decide) h.hd u (fun e=>absurd e (by decide))
theorem Ymn (h:KpS w0 wr base hi bL bP gD cD nD gF cF i xL xP fs cv) (hi2:i<fs.length) {v:Value} (hv:cv[i]? = some v):wr.cell? ⟨gF,i*4+3,none⟩=some v:=by
 obtain ⟨zs,hz,hj⟩:=h.f
 rw [hz.cellAt _ (by omega),hj i (Nat.le_refl _) hi2,hv]
end
end Go.Proofs.Ythlkflagancdfaa.OT
