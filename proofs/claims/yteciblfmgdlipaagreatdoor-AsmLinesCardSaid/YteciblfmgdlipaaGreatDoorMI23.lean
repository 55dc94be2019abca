/-
  Part of a proof: contracts of functions and lemmas, each stated by its own theorem. Conditions: as each theorem states.
-/
import Derived.Test.YteciblfmgdlipaaGreatDoorMI22
import Derived.Test.YteciblfmgdlipaaGreatDoorMI15
set_option linter.unusedSimpArgs false
set_option linter.unusedVariables false
set_option maxRecDepth 100000
set_option maxHeartbeats 16000000
namespace Go.Proofs.YteciblfmgdlipaaGreatDoor.AS
open Go.RowKit Go.Great CK
theorem Yvl (w:World) (a:Int):(Instr.buildSlice 93 1 #[(0,.int .i64 a)]).run Tryz.prog w = .ok (.slice (some ⟨w.heap.size,0,none⟩) 1 1) (w.alloc (.cells #[.int .i64 a] 3)):=by kernel_rfl
theorem Yvk (w:World) (a b c:Int) (s:ByteArray) (j:Bool):(Instr.buildSlice 81 1 #[(0,.agg #[.int .i64 a,.int .i64 b,.int .i64 c,.string s,.bool j])]).run Tryz.prog w = .ok (.slice (some ⟨w.heap.size,0,none⟩) 1 1) (w.alloc (.cells #[.int .i64 a,.int .i64 b,.int .i64 c,.string s,.bool j] 91)):=by kernel_rfl
theorem Ykd:Tryz.prog.underlying 81=some (.slice 91):=by kernel_rfl
theorem Yej:(Tryz.prog.info? 91).map (fun i=>(i.zero,i.size,i.bytes))=some (some (.agg #[.int .i64 0,.int .i64 0,.int .i64 0,.string ⟨#[]⟩,.bool false]),5,48):=by kernel_rfl
theorem Ynd:Tryz.prog.underlying 93=some (.slice 3):=by kernel_rfl
theorem Yib:(Tryz.prog.info? 3).map (fun i=>(i.zero,i.size,i.bytes))=some (some (.int .i64 0),1,8):=by kernel_rfl
theorem Yss (x:Int):∀ u∈[Value.int .i64 x],u.oneCell'=true:=by intro u hu;simp at hu;subst hu;rfl
def rsL (s:St) (k:Nat) (m:List (Txt × Nat)):RS:={ Zgb s with labs:=(s.labels.map Jc).set k (Jc m),plcs:=(s.labels.map Zba).set k (Zba m) }
theorem Yfn (s:St) (k:Nat) (m:List (Txt × Nat)):rsL s k m=Zgb { s with labels:=s.labels.set k m }:=by
 simp [rsL,Zgb,List.map_set]
theorem Ylb {s:St} {k:Nat} {m:List (Txt × Nat)} (h:s.labels[k]? = some m):rsL s k m=Zgb s:=by
 rw [Yfn]
 congr 1
 obtain ⟨hl,e⟩:=List.getElem?_eq_some_iff.1 h
 rw [<- e,List.set_getElem_self]
structure LbI (w0 wr:World) (p bx k at_ j:Nat) (s:St) (m0 m:List (Txt × Nat)) (lb:List Txt) (lp:Option Addr) (lc:Nat) (xo xa:Int) (xw:Txt) (pD:Option Addr) (cD gF cF gL nL cL gP nP cP:Nat) (vN vW:Value) (cv lv pv:List Value):Prop where
 ad:Zae at_ m0 lb=Zae at_ m (lb.drop j)
 ml:m.length=m0.length+j
 at':Zkg w0 wr p (rsL s k m) (.slice pD s.data.length cD) (.slice (some ⟨gF,0,none⟩) s.funcs.length cF) vN (.slice (some ⟨gL,0,none⟩) nL cL) (.slice (some ⟨gP,0,none⟩) nP cP) vW cv lv pv
 ln:LnB wr bx (.int .i64 4) (.slice lp lb.length lc) (.string (bs [])) (.int .i64 0) (.int .i64 0) (.int .i64 0) (.string (bs [])) (.int .i64 xo) (.int .i64 xa) (.string (bs xw)) (.bool false)
 tx:wr.ownsRow w0.heap.size 9 1 (.slice lp lb.length lc) lb.length (Zcj lb)
 ap:∀ v∈lv,∀ b o,lp=some ⟨b,o,none⟩->v.ownBlock≠some b
 l1:lv.length=nL
 l2:pv.length=nP
def tfH:Nat->Nat
 | 0=>119
 | 1=>120
 | 2=>121
 | 3=>122
 | 4=>123
 | 5=>124
 | 6=>125
 | 7=>126
 | 8=>127
 | 9=>128
 | 10=>129
 | 11=>130
 | 12=>131
 | 13=>132
 | _=>5000
theorem Jm:∀ i,i<14->∀ j,j<14->j≠i->tfH j≠tfH i:=by decide
theorem Ztk (i:Nat) (h:i<14):i=0\/i=1\/i=2\/i=3\/i=4\/i=5\/i=6\/i=7\/i=8\/i=9\/i=10\/i=11\/i=12\/i=13:=by omega
theorem Zgk (j:Nat) (hj:j∈[0,4,7,8]):∀ i,i<14->tfH i≠j:=by revert j;decide
def Zhn (p bx k j gL nL cL nl cl b nb lc:Nat) (pl:Option Addr) (tx:ByteArray) (hv:Int) (ge:Bool):Nat->Value
 | 0 => .pointer (some ⟨p,0,none⟩)
 | 1 => .pointer (some ⟨p,0,none⟩)
 | 2 => .pointer (some ⟨p,5,none⟩)
 | 3 => .slice (some ⟨gL,0,none⟩) nL cL
 | 4 => .int .i64 (k:Int)
 | 5 => .pointer (some ⟨gL,k,none⟩)
 | 6 => .slice pl nl cl
 | 7 => .pointer (some ⟨bx,1,none⟩)
 | 8 => .slice (some ⟨b,0,none⟩) nb lc
 | 9 => .int .i64 (j:Int)
 | 10 => .pointer (some ⟨b,j,none⟩)
 | 11 => .string tx
 | 12 => .int .i64 hv
 | 13 => .bool ge
 | _=>undef
def Yxr (p bx k j gL nL cL nl cl b nb lc:Nat) (pl:Option Addr) (tx:ByteArray) (hv:Int) (ge:Bool)  : Nat->World->Prop
 | 12=>fun _=>True
 | _=>fun _=>True
theorem Yep {p bx k j gL nL cL nl cl b nb lc:Nat} {pl:Option Addr} {tx:ByteArray} {hv:Int} {ge:Bool}   {l:Array Bool} (hcl:∀ p∈([(1,0),(2,1),(3,2),(5,3),(5,4),(6,5),(8,7),(10,8),(10,9),(11,10),(12,6),(12,11),(13,12)]:List (Nat × Nat)),l.getD (Prod.fst p) false=true->l.getD (Prod.snd p) false=true) (hun:l.getD 12 false=false):∀ i,i<14->l.getD i false=true->tfH i<236->Zhn p bx k j gL nL cL nl cl b nb lc pl tx hv ge  i=Zhn p bx k j gL nL cL nl cl b nb lc pl tx hv ge  i:=by
 intro i hi hl _
 rcases Ztk i hi with rfl|rfl|rfl|rfl|rfl|rfl|rfl|rfl|rfl|rfl|rfl|rfl|rfl|rfl <;> rfl
def tfA:Nat->Nat
 | 0=>133
 | 1=>134
 | 2=>135
 | 3=>136
 | 4=>137
 | 5=>138
 | 6=>139
 | 7=>140
 | 8=>141
 | 9=>142
 | 10=>143
 | 11=>144
 | 12=>145
 | 13=>146
 | 14=>147
 | 15=>148
 | 16=>149
 | 17=>150
 | 18=>151
 | 19=>152
 | 20=>1020
 | _=>5000
theorem Zbl:∀ i,i<21->∀ j,j<21->j≠i->tfA j≠tfA i:=by decide
theorem Ztm (i:Nat) (h:i<21):i=0\/i=1\/i=2\/i=3\/i=4\/i=5\/i=6\/i=7\/i=8\/i=9\/i=10\/i=11\/i=12\/i=13\/i=14\/i=15\/i=16\/i=17\/i=18\/i=19\/i=20:=by omega
theorem Zkl (j:Nat) (hj:j∈[0,4,7,8]):∀ i,i<21->tfA i≠j:=by revert j;decide
def Zjd (E sz nr cr:Nat) (pr:Option Addr) (ys:List Value) (vb:Option Nat) (p bx k j gL nL cL b nb lc:Nat) (tx:ByteArray) (q2:Nat) (gC:Nat) (cC9:Nat):Nat->Value
 | 0 => .pointer (some ⟨p,0,none⟩)
 | 1 => .pointer (some ⟨p,0,none⟩)
 | 2 => .pointer (some ⟨p,5,none⟩)
 | 3 => .slice (some ⟨gL,0,none⟩) nL cL
 | 4 => .int .i64 (k:Int)
 | 5 => .pointer (some ⟨p,0,none⟩)
 | 6 => .pointer (some ⟨p,0,none⟩)
 | 7 => .pointer (some ⟨p,5,none⟩)
 | 8 => .slice (some ⟨gL,0,none⟩) nL cL
 | 9 => .int .i64 (k:Int)
 | 10 => .pointer (some ⟨gL,k,none⟩)
 | 11 => .slice pr nr cr
 | 12 => .pointer (some ⟨bx,1,none⟩)
 | 13 => .slice (some ⟨b,0,none⟩) nb lc
 | 14 => .int .i64 (j:Int)
 | 15 => .pointer (some ⟨b,j,none⟩)
 | 16 => .string tx
 | 17 => .slice (some ⟨q2,0,none⟩) 1 1
 | 18 => .slice (some ⟨gC,0,none⟩) (nr+1) cC9
 | 19 => .pointer (some ⟨gL,k,none⟩)
 | 20=>undef
 | _=>undef
def Yxu (E sz nr cr:Nat) (pr:Option Addr) (ys:List Value) (vb:Option Nat) (p bx k j gL nL cL b nb lc:Nat) (tx:ByteArray) (q2:Nat) (gC:Nat) (cC9:Nat):Nat->World->Prop
 | 17=>fun w9=>w9.heap[q2]? = some (.cells #[.string tx] 9 (0,0))
 | 18=>fun w9=>w9.ownsRow E 9 1 (.slice (some ⟨gC,0,none⟩) (nr+1) cC9) (nr+1) (ys++[.string tx])/\(some gC=vb\/sz<=gC)
 | _=>fun _=>True
theorem Yqm {E sz nr cr:Nat} {pr:Option Addr} {ys:List Value} {vb:Option Nat} {p bx k j gL nL cL b nb lc:Nat} {tx:ByteArray} {q2:Nat} {gC:Nat} {cC9:Nat} {q22:Nat} {l:Array Bool} (hcl:∀ p∈([(1,0),(2,1),(3,2),(6,5),(7,6),(8,7),(10,8),(10,9),(11,10),(13,12),(15,13),(15,14),(16,15),(17,16),(18,11),(18,17),(19,3),(19,4),(20,19),(20,18)]:List (Nat × Nat)),l.getD (Prod.fst p) false=true->l.getD (Prod.snd p) false=true) (hun:l.getD 17 false=false):∀ i,i<21->l.getD i false=true->tfA i<236->Zjd E sz nr cr pr ys vb p bx k j gL nL cL b nb lc tx q22 gC cC9 i=Zjd E sz nr cr pr ys vb p bx k j gL nL cL b nb lc tx q2 gC cC9 i:=by
 intro i hi hl _
 rcases Ztm i hi with rfl|rfl|rfl|rfl|rfl|rfl|rfl|rfl|rfl|rfl|rfl|rfl|rfl|rfl|rfl|rfl|rfl|rfl|rfl|rfl|rfl <;> first|rfl|exact Zk (hl) hun
theorem Yql {E sz nr cr:Nat} {pr:Option Addr} {ys:List Value} {vb:Option Nat} {p bx k j gL nL cL b nb lc:Nat} {tx:ByteArray} {q2:Nat} {gC:Nat} {cC9:Nat} {gC2:Nat} {cC92:Nat} {l:Array Bool} (hcl:∀ p∈([(1,0),(2,1),(3,2),(6,5),(7,6),(8,7),(10,8),(10,9),(11,10),(13,12),(15,13),(15,14),(16,15),(17,16),(18,11),(18,17),(19,3),(19,4),(20,19),(20,18)]:List (Nat × Nat)),l.getD (Prod.fst p) false=true->l.getD (Prod.snd p) false=true) (hun:l.getD 18 false=false):∀ i,i<21->l.getD i false=true->tfA i<236->Zjd E sz nr cr pr ys vb p bx k j gL nL cL b nb lc tx q2 gC2 cC92 i=Zjd E sz nr cr pr ys vb p bx k j gL nL cL b nb lc tx q2 gC cC9 i:=by
 intro i hi hl _
 rcases Ztm i hi with rfl|rfl|rfl|rfl|rfl|rfl|rfl|rfl|rfl|rfl|rfl|rfl|rfl|rfl|rfl|rfl|rfl|rfl|rfl|rfl|rfl <;> first|rfl|exact Zk (hl) hun
def tfB:Nat->Nat
 | 0=>153
 | 1=>154
 | 2=>155
 | 3=>156
 | 4=>157
 | 5=>158
 | 6=>159
 | 7=>160
 | 8=>161
 | 9=>162
 | 10=>163
 | 11=>164
 | 12=>165
 | 13=>166
 | 14=>167
 | 15=>168
 | 16=>169
 | 17=>170
 | 18=>171
 | 19=>172
 | 20=>173
 | 21=>174
 | 22=>175
 | 23=>176
 | 24=>177
 | 25=>1025
 | _=>5000
theorem Zaf:∀ i,i<26->∀ j,j<26->j≠i->tfB j≠tfB i:=by decide
theorem Ztl (i:Nat) (h:i<26):i=0\/i=1\/i=2\/i=3\/i=4\/i=5\/i=6\/i=7\/i=8\/i=9\/i=10\/i=11\/i=12\/i=13\/i=14\/i=15\/i=16\/i=17\/i=18\/i=19\/i=20\/i=21\/i=22\/i=23\/i=24\/i=25:=by omega
theorem Zkk (j:Nat) (hj:j∈[0,7]):∀ i,i<26->tfB i≠j:=by revert j;decide
def Zgm (E sz nr cr:Nat) (pr:Option Addr) (ys:List Value) (vb:Option Nat) (p bx k gP nP cP gF nF cF nc cc:Nat) (pc:Option Addr) (q2:Nat) (gC:Nat) (cC9:Nat):Nat->Value
 | 0 => .pointer (some ⟨p,0,none⟩)
 | 1 => .pointer (some ⟨p,0,none⟩)
 | 2 => .pointer (some ⟨p,6,none⟩)
 | 3 => .slice (some ⟨gP,0,none⟩) nP cP
 | 4 => .int .i64 (k:Int)
 | 5 => .pointer (some ⟨p,0,none⟩)
 | 6 => .pointer (some ⟨p,0,none⟩)
 | 7 => .pointer (some ⟨p,6,none⟩)
 | 8 => .slice (some ⟨gP,0,none⟩) nP cP
 | 9 => .int .i64 (k:Int)
 | 10 => .pointer (some ⟨gP,k,none⟩)
 | 11 => .slice pr nr cr
 | 12 => .pointer (some ⟨p,0,none⟩)
 | 13 => .pointer (some ⟨p,0,none⟩)
 | 14 => .pointer (some ⟨p,0,none⟩)
 | 15 => .pointer (some ⟨p,2,none⟩)
 | 16 => .slice (some ⟨gF,0,none⟩) nF cF
 | 17 => .int .i64 (k:Int)
 | 18 => .pointer (some ⟨gF,k*4,none⟩)
 | 19 => .pointer (some ⟨gF,k*4+3,none⟩)
 | 20 => .slice pc nc cc
 | 21 => .int .i64 nc
 | 22 => .slice (some ⟨q2,0,none⟩) 1 1
 | 23 => .slice (some ⟨gC,0,none⟩) (nr+1) cC9
 | 24 => .pointer (some ⟨gP,k,none⟩)
 | 25=>undef
 | _=>undef
def Yxt (E sz nr cr:Nat) (pr:Option Addr) (ys:List Value) (vb:Option Nat) (p bx k gP nP cP gF nF cF nc cc:Nat) (pc:Option Addr) (q2:Nat) (gC:Nat) (cC9:Nat):Nat->World->Prop
 | 22=>fun w9=>w9.heap[q2]? = some (.cells #[.int .i64 (nc:Int)] 3 (0,0))
 | 23=>fun w9=>w9.ownsRow E 3 1 (.slice (some ⟨gC,0,none⟩) (nr+1) cC9) (nr+1) (ys++[.int .i64 (nc:Int)])/\(some gC=vb\/sz<=gC)
 | _=>fun _=>True
theorem Yqk {E sz nr cr:Nat} {pr:Option Addr} {ys:List Value} {vb:Option Nat} {p bx k gP nP cP gF nF cF nc cc:Nat} {pc:Option Addr} {q2:Nat} {gC:Nat} {cC9:Nat} {q22:Nat} {l:Array Bool} (hcl:∀ p∈([(1,0),(2,1),(3,2),(6,5),(7,6),(8,7),(10,8),(10,9),(11,10),(13,12),(14,13),(15,14),(16,15),(18,16),(18,17),(19,18),(20,19),(21,20),(22,21),(23,11),(23,22),(24,3),(24,4),(25,24),(25,23)]:List (Nat × Nat)),l.getD (Prod.fst p) false=true->l.getD (Prod.snd p) false=true) (hun:l.getD 22 false=false):∀ i,i<26->l.getD i false=true->tfB i<236->Zgm E sz nr cr pr ys vb p bx k gP nP cP gF nF cF nc cc pc q22 gC cC9 i=Zgm E sz nr cr pr ys vb p bx k gP nP cP gF nF cF nc cc pc q2 gC cC9 i:=by
 intro i hi hl _
 rcases Ztl i hi with rfl|rfl|rfl|rfl|rfl|rfl|rfl|rfl|rfl|rfl|rfl|rfl|rfl|rfl|rfl|rfl|rfl|rfl|rfl|rfl|rfl|rfl|rfl|rfl|rfl|rfl <;> first|rfl|exact Zk (hl) hun
theorem Yqj {E sz nr cr:Nat} {pr:Option Addr} {ys:List Value} {vb:Option Nat} {p bx k gP nP cP gF nF cF nc cc:Nat} {pc:Option Addr} {q2:Nat} {gC:Nat} {cC9:Nat} {gC2:Nat} {cC92:Nat} {l:Array Bool} (hcl:∀ p∈([(1,0),(2,1),(3,2),(6,5),(7,6),(8,7),(10,8),(10,9),(11,10),(13,12),(14,13),(15,14),(16,15),(18,16),(18,17),(19,18),(20,19),(21,20),(22,21),(23,11),(23,22),(24,3),(24,4),(25,24),(25,23)]:List (Nat × Nat)),l.getD (Prod.fst p) false=true->l.getD (Prod.snd p) false=true) (hun:l.getD 23 false=false):∀ i,i<26->l.getD i false=true->tfB i<236->Zgm E sz nr cr pr ys vb p bx k gP nP cP gF nF cF nc cc pc q2 gC2 cC92 i=Zgm E sz nr cr pr ys vb p bx k gP nP cP gF nF cF nc cc pc q2 gC cC9 i:=by
 intro i hi hl _
 rcases Ztl i hi with rfl|rfl|rfl|rfl|rfl|rfl|rfl|rfl|rfl|rfl|rfl|rfl|rfl|rfl|rfl|rfl|rfl|rfl|rfl|rfl|rfl|rfl|rfl|rfl|rfl|rfl <;> first|rfl|exact Zk (hl) hun
def tfC:Nat->Nat
 | 0=>184
 | 1=>185
 | 2=>186
 | 3=>187
 | 4=>188
 | 5=>189
 | 6=>190
 | 7=>191
 | 8=>192
 | 9=>193
 | 10=>194
 | 11=>195
 | 12=>196
 | 13=>197
 | 14=>198
 | 15=>199
 | 16=>200
 | 17=>201
 | 18=>202
 | 19=>203
 | 20=>204
 | 21=>205
 | 22=>206
 | 23=>207
 | 24=>208
 | 25=>209
 | 26=>210
 | 27=>211
 | 28=>1028
 | _=>5000
theorem Jq:∀ i,i<29->∀ j,j<29->j≠i->tfC j≠tfC i:=by decide
theorem Znf (i:Nat) (h:i<29):i=0\/i=1\/i=2\/i=3\/i=4\/i=5\/i=6\/i=7\/i=8\/i=9\/i=10\/i=11\/i=12\/i=13\/i=14\/i=15\/i=16\/i=17\/i=18\/i=19\/i=20\/i=21\/i=22\/i=23\/i=24\/i=25\/i=26\/i=27\/i=28:=by omega
theorem Zgl (j:Nat) (hj:j∈[0,2,4,7]):∀ i,i<29->tfC i≠j:=by revert j;decide
def Zfm (E sz nr cr:Nat) (pr:Option Addr) (ys:List Value) (vb:Option Nat) (p bx k gF nF cF nc cc:Nat) (line xo kd:Int) (tw:ByteArray) (pc:Option Addr) (q2:Nat) (gC:Nat) (cC9:Nat):Nat->Value
 | 0 => .pointer (some ⟨p,0,none⟩)
 | 1 => .pointer (some ⟨p,0,none⟩)
 | 2 => .pointer (some ⟨p,0,none⟩)
 | 3 => .pointer (some ⟨p,7,none⟩)
 | 4 => .slice pr nr cr
 | 5 => .int .i64 (k:Int)
 | 6 => .pointer (some ⟨p,0,none⟩)
 | 7 => .pointer (some ⟨p,0,none⟩)
 | 8 => .pointer (some ⟨p,0,none⟩)
 | 9 => .pointer (some ⟨p,2,none⟩)
 | 10 => .slice (some ⟨gF,0,none⟩) nF cF
 | 11 => .int .i64 (k:Int)
 | 12 => .pointer (some ⟨gF,k*4,none⟩)
 | 13 => .pointer (some ⟨gF,k*4+3,none⟩)
 | 14 => .slice pc nc cc
 | 15 => .int .i64 nc
 | 16 => .int .i64 line
 | 17 => .pointer (some ⟨bx,9,none⟩)
 | 18 => .string tw
 | 19 => .pointer (some ⟨bx,7,none⟩)
 | 20 => .int .i64 xo
 | 21 => .int .i64 kd
 | 22 => .bool (kd == 3)
 | 23 => .agg #[.int .i64 (k:Int),.int .i64 (nc:Int),.int .i64 line,.string tw,.bool (kd == 3)]
 | 24 => .slice (some ⟨q2,0,none⟩) 1 1
 | 25 => .slice (some ⟨gC,0,none⟩) (nr+1) cC9
 | 26 => .pointer (some ⟨p,0,none⟩)
 | 27 => .pointer (some ⟨p,7,none⟩)
 | 28=>undef
 | _=>undef
def Yxs (E sz nr cr:Nat) (pr:Option Addr) (ys:List Value) (vb:Option Nat) (p bx k gF nF cF nc cc:Nat) (line xo kd:Int) (tw:ByteArray) (pc:Option Addr) (q2:Nat) (gC:Nat) (cC9:Nat):Nat->World->Prop
 | 21=>fun _=>True
 | 24=>fun w9=>w9.heap[q2]? = some (.cells #[.int .i64 (k:Int),.int .i64 (nc:Int),.int .i64 line,.string tw,.bool (kd == 3)] 91 (0,0))
 | 25=>fun w9=>w9.ownsRow E 91 5 (.slice (some ⟨gC,0,none⟩) (nr+1) cC9) (nr+1) (ys++[.int .i64 (k:Int),.int .i64 (nc:Int),.int .i64 line,.string tw,.bool (kd == 3)])/\(some gC=vb\/sz<=gC)
 | _=>fun _=>True
theorem Yqi {E sz nr cr:Nat} {pr:Option Addr} {ys:List Value} {vb:Option Nat} {p bx k gF nF cF nc cc:Nat} {line xo kd:Int} {tw:ByteArray} {pc:Option Addr} {q2:Nat} {gC:Nat} {cC9:Nat}  {l:Array Bool} (hcl:∀ p∈([(2,1),(3,2),(4,3),(7,6),(8,7),(9,8),(10,9),(12,10),(12,11),(13,12),(14,13),(15,14),(18,17),(20,19),(21,20),(22,21),(23,5),(23,15),(23,16),(23,18),(23,22),(24,23),(25,4),(25,24),(26,0),(27,26),(28,27),(28,25)]:List (Nat × Nat)),l.getD (Prod.fst p) false=true->l.getD (Prod.snd p) false=true) (hun:l.getD 21 false=false):∀ i,i<29->l.getD i false=true->tfC i<236->Zfm E sz nr cr pr ys vb p bx k gF nF cF nc cc line xo kd tw pc q2 gC cC9 i=Zfm E sz nr cr pr ys vb p bx k gF nF cF nc cc line xo kd tw pc q2 gC cC9 i:=by
 intro i hi hl _
 rcases Znf i hi with rfl|rfl|rfl|rfl|rfl|rfl|rfl|rfl|rfl|rfl|rfl|rfl|rfl|rfl|rfl|rfl|rfl|rfl|rfl|rfl|rfl|rfl|rfl|rfl|rfl|rfl|rfl|rfl|rfl <;> rfl
theorem Yqh {E sz nr cr:Nat} {pr:Option Addr} {ys:List Value} {vb:Option Nat} {p bx k gF nF cF nc cc:Nat} {line xo kd:Int} {tw:ByteArray} {pc:Option Addr} {q2:Nat} {gC:Nat} {cC9:Nat} {q22:Nat} {l:Array Bool} (hcl:∀ p∈([(2,1),(3,2),(4,3),(7,6),(8,7),(9,8),(10,9),(12,10),(12,11),(13,12),(14,13),(15,14),(18,17),(20,19),(21,20),(22,21),(23,5),(23,15),(23,16),(23,18),(23,22),(24,23),(25,4),(25,24),(26,0),(27,26),(28,27),(28,25)]:List (Nat × Nat)),l.getD (Prod.fst p) false=true->l.getD (Prod.snd p) false=true) (hun:l.getD 24 false=false):∀ i,i<29->l.getD i false=true->tfC i<236->Zfm E sz nr cr pr ys vb p bx k gF nF cF nc cc line xo kd tw pc q22 gC cC9 i=Zfm E sz nr cr pr ys vb p bx k gF nF cF nc cc line xo kd tw pc q2 gC cC9 i:=by
 intro i hi hl _
 rcases Znf i hi with rfl|rfl|rfl|rfl|rfl|rfl|rfl|rfl|rfl|rfl|rfl|rfl|rfl|rfl|rfl|rfl|rfl|rfl|rfl|rfl|rfl|rfl|rfl|rfl|rfl|rfl|rfl|rfl|rfl <;> first|rfl|exact Zk (hl) hun
theorem Yqg {E sz nr cr:Nat} {pr:Option Addr} {ys:List Value} {vb:Option Nat} {p bx k gF nF cF nc cc:Nat} {line xo kd:Int} {tw:ByteArray} {pc:Option Addr} {q2:Nat} {gC:Nat} {cC9:Nat} {gC2:Nat} {cC92:Nat} {l:Array Bool} (hcl:∀ p∈([(2,1),(3,2),(4,3),(7,6),(8,7),(9,8),(10,9),(12,10),(12,11),(13,12),(14,13),(15,14),(18,17),(20,19),(21,20),(22,21),(23,5),(23,15),(23,16),(23,18),(23,22),(24,23),(25,4),(25,24),(26,0),(27,26),(28,27),(28,25)]:List (Nat × Nat)),l.getD (Prod.fst p) false=true->l.getD (Prod.snd p) false=true) (hun:l.getD 25 false=false):∀ i,i<29->l.getD i false=true->tfC i<236->Zfm E sz nr cr pr ys vb p bx k gF nF cF nc cc line xo kd tw pc q2 gC2 cC92 i=Zfm E sz nr cr pr ys vb p bx k gF nF cF nc cc line xo kd tw pc q2 gC cC9 i:=by
 intro i hi hl _
 rcases Znf i hi with rfl|rfl|rfl|rfl|rfl|rfl|rfl|rfl|rfl|rfl|rfl|rfl|rfl|rfl|rfl|rfl|rfl|rfl|rfl|rfl|rfl|rfl|rfl|rfl|rfl|rfl|rfl|rfl|rfl <;> first|rfl|exact Zk (hl) hun
def tfD:Nat->Nat
 | 0=>212
 | 1=>213
 | 2=>214
 | 3=>215
 | 4=>216
 | 5=>217
 | 6=>218
 | 7=>219
 | 8=>220
 | 9=>221
 | 10=>222
 | 11=>223
 | 12=>224
 | 13=>225
 | 14=>226
 | 15=>227
 | 16=>228
 | 17=>229
 | 18=>230
 | 19=>231
 | 20=>232
 | 21=>233
 | 22=>234
 | 23=>235
 | 24=>1024
 | _=>5000
theorem Yr:∀ i,i<25->∀ j,j<25->j≠i->tfD j≠tfD i:=by decide
theorem Zlw (i:Nat) (h:i<25):i=0\/i=1\/i=2\/i=3\/i=4\/i=5\/i=6\/i=7\/i=8\/i=9\/i=10\/i=11\/i=12\/i=13\/i=14\/i=15\/i=16\/i=17\/i=18\/i=19\/i=20\/i=21\/i=22\/i=23\/i=24:=by omega
theorem Zdf (j:Nat) (hj:j∈[0,4,7]):∀ i,i<25->tfD i≠j:=by revert j;decide
def Zbp (E sz nr cr:Nat) (pr:Option Addr) (ys:List Value) (vb:Option Nat) (p bx k gF nF cF:Nat) (xo xa:Int) (q2:Nat) (gC:Nat) (cC9:Nat):Nat->Value
 | 0 => .pointer (some ⟨p,0,none⟩)
 | 1 => .pointer (some ⟨p,0,none⟩)
 | 2 => .pointer (some ⟨p,0,none⟩)
 | 3 => .pointer (some ⟨p,2,none⟩)
 | 4 => .slice (some ⟨gF,0,none⟩) nF cF
 | 5 => .int .i64 (k:Int)
 | 6 => .pointer (some ⟨p,0,none⟩)
 | 7 => .pointer (some ⟨p,0,none⟩)
 | 8 => .pointer (some ⟨p,0,none⟩)
 | 9 => .pointer (some ⟨p,2,none⟩)
 | 10 => .slice (some ⟨gF,0,none⟩) nF cF
 | 11 => .int .i64 (k:Int)
 | 12 => .pointer (some ⟨gF,k*4,none⟩)
 | 13 => .pointer (some ⟨gF,k*4+3,none⟩)
 | 14 => .slice pr nr cr
 | 15 => .pointer (some ⟨bx,7,none⟩)
 | 16 => .int .i64 xo
 | 17 => .pointer (some ⟨bx,8,none⟩)
 | 18 => .int .i64 xa
 | 19 => .agg #[.int .i64 xo,.int .i64 xa]
 | 20 => .slice (some ⟨q2,0,none⟩) 1 1
 | 21 => .slice (some ⟨gC,0,none⟩) (nr+1) cC9
 | 22 => .pointer (some ⟨gF,k*4,none⟩)
 | 23 => .pointer (some ⟨gF,k*4+3,none⟩)
 | 24=>undef
 | _=>undef
def Ywh (E sz nr cr:Nat) (pr:Option Addr) (ys:List Value) (vb:Option Nat) (p bx k gF nF cF:Nat) (xo xa:Int) (q2:Nat) (gC:Nat) (cC9:Nat):Nat->World->Prop
 | 20=>fun w9=>w9.heap[q2]? = some (.cells #[.int .i64 xo,.int .i64 xa] 58 (0,0))
 | 21=>fun w9=>w9.ownsRow E 58 2 (.slice (some ⟨gC,0,none⟩) (nr+1) cC9) (nr+1) (ys++[.int .i64 xo,.int .i64 xa])/\(some gC=vb\/sz<=gC)
 | _=>fun _=>True
theorem Yer {E sz nr cr:Nat} {pr:Option Addr} {ys:List Value} {vb:Option Nat} {p bx k gF nF cF:Nat} {xo xa:Int} {q2:Nat} {gC:Nat} {cC9:Nat} {q22:Nat} {l:Array Bool} (hcl:∀ p∈([(1,0),(2,1),(3,2),(4,3),(7,6),(8,7),(9,8),(10,9),(12,10),(12,11),(13,12),(14,13),(16,15),(18,17),(19,16),(19,18),(20,19),(21,14),(21,20),(22,4),(22,5),(23,22),(24,23),(24,21)]:List (Nat × Nat)),l.getD (Prod.fst p) false=true->l.getD (Prod.snd p) false=true) (hun:l.getD 20 false=false):∀ i,i<25->l.getD i false=true->tfD i<236->Zbp E sz nr cr pr ys vb p bx k gF nF cF xo xa q22 gC cC9 i=Zbp E sz nr cr pr ys vb p bx k gF nF cF xo xa q2 gC cC9 i:=by
 intro i hi hl _
 rcases Zlw i hi with rfl|rfl|rfl|rfl|rfl|rfl|rfl|rfl|rfl|rfl|rfl|rfl|rfl|rfl|rfl|rfl|rfl|rfl|rfl|rfl|rfl|rfl|rfl|rfl|rfl <;> first|rfl|exact Zk (hl) hun
theorem Yeq {E sz nr cr:Nat} {pr:Option Addr} {ys:List Value} {vb:Option Nat} {p bx k gF nF cF:Nat} {xo xa:Int} {q2:Nat} {gC:Nat} {cC9:Nat} {gC2:Nat} {cC92:Nat} {l:Array Bool} (hcl:∀ p∈([(1,0),(2,1),(3,2),(4,3),(7,6),(8,7),(9,8),(10,9),(12,10),(12,11),(13,12),(14,13),(16,15),(18,17),(19,16),(19,18),(20,19),(21,14),(21,20),(22,4),(22,5),(23,22),(24,23),(24,21)]:List (Nat × Nat)),l.getD (Prod.fst p) false=true->l.getD (Prod.snd p) false=true) (hun:l.getD 21 false=false):∀ i,i<25->l.getD i false=true->tfD i<236->Zbp E sz nr cr pr ys vb p bx k gF nF cF xo xa q2 gC2 cC92 i=Zbp E sz nr cr pr ys vb p bx k gF nF cF xo xa q2 gC cC9 i:=by
 intro i hi hl _
 rcases Zlw i hi with rfl|rfl|rfl|rfl|rfl|rfl|rfl|rfl|rfl|rfl|rfl|rfl|rfl|rfl|rfl|rfl|rfl|rfl|rfl|rfl|rfl|rfl|rfl|rfl|rfl <;> first|rfl|exact Zk (hl) hun
def CdP (w0:World) (p:Nat) (s:St) (k:Nat) (f:FnR) (r:Option (List (Txt × Nat))) (xo xa:Int) (xw:Txt) (line:Nat) (e:Ending) (w':World):Prop:=match r with
 | none=>e = .returned (.int .i64 142)/\w0.grownBy w' none
 | some m=>e = .returned (.int .i64 0)/\RDA w0 w' p (if xo<0 then rsL s k m else { rsL s k m with wants:=(if xw=[] then s.wants else s.wants++[⟨k,f.2.2.2.length,line,xw,Zai xo == 3⟩]),funcs:=s.funcs.set k (f.1,f.2.1,f.2.2.1,f.2.2.2++[(xo,xa)]) })
theorem Yvt {w0 w':World} {p k line:Nat} {s:St} {f:FnR} {r:Option (List (Txt × Nat))} {xo xa:Int} {xw:Txt} {e:Ending} (hr:r=none) (he:e = .returned (.int .i64 142)) (hg:w0.grownBy w' none):CdP w0 p s k f r xo xa xw line e w':=by subst hr;exact ⟨he,hg⟩
theorem Ysk {s:St} {k:Nat} {m:List (Txt × Nat)} {t:Txt} {n:Nat}:({ { rsL s k m with labs:=(rsL s k m).labs.set k (Jc m++[t]) } with plcs:=(rsL s k m).plcs.set k (Zba m++[(n:Int)]) }:RS)=rsL s k (m++[(t,n)]):=by
 simp [rsL,Jc,Zba,List.set_set]
theorem Yex (lb:List Txt) (lp:Option Addr) (lc:Nat) (xo xa:Int) (xw:Txt) (w0 w1 w:World) (p k m9 line:Nat) (s:St) (h:RDA w0 w1 p (Zgb s)) (g1:w1.grownBy w none) (hs:Zih w w1.heap.size (.slice lp lb.length lc) lb) (hf:Zhv s.memSet s.funcs.length 4=true) (hk:s.funcs.length=k+1) (hS:Yom s m9) (hm9:m9+lb.length<=900000) :
 Calls Tryz.prog 33 #[.pointer (some ⟨p,0,none⟩),lnA ⟨4,lp,lb.length,lc,[],0,0,0,[],xo,xa,xw,false⟩,.int .i64 (line:Int)] w (CdP w0 p s k (s.funcs[k]?.getD (0,0,0,[])) (Zae ((s.funcs[k]?.getD (0,0,0,[])).2.2.2.length) (s.labels[k]?.getD []) lb) xo xa xw line):=by
 obtain ⟨⟨fa,fl,fr,fc⟩,hfk⟩:∃ f,s.funcs[k]? = some f:=⟨_,List.getElem?_eq_getElem (by omega)⟩
 obtain ⟨m0,hm0⟩:∃ m0,s.labels[k]? = some m0:=⟨_,List.getElem?_eq_getElem (by rw [hS.e1];omega)⟩
 rw [hfk,hm0]
 simp only [Option.getD_some]
 obtain ⟨R,hR⟩:∃ R,Zae fc.length m0 lb=R:=⟨_,rfl⟩
 rw [hR]
 have HR:=Hq hR
 clear hR
 have hkL:k<s.labels.length:=by rw [hS.e1];omega
 have hkF:k<s.funcs.length:=by omega
 have hm0l:=hS.z5 _ (List.mem_of_getElem? hm0)
 have hfcl:=hS.z3 _ (List.mem_of_getElem? hfk)
 simp only [] at hfcl
 have hwl:=hS.z7
 have hfl:s.funcs.length<=900000:=Nat.le_trans hS.z2 (by omega)
 have HS:=Hq hS
 have HK:=Hq hk
 clear hS hk
 obtain ⟨vD,vF,vN,vL,vP,vW,cv,lv,pv,hA⟩:=h
 obtain ⟨pD,pF,cD,cF,e1,e2⟩:=Zax hA.ins.own
 rw [Yh] at e1
 replace e1:vD = .slice pD s.data.length cD:=e1
 replace e2:vF = .slice pF s.funcs.length cF:=e2
 subst e1 e2
 go_enter Tryz.func33,Tryz.ntmps33
 go_upto_region 1 with fail
 have gA:=Ga w (.cells #[.int .i64 4,.slice lp lb.length lc,.string (bs []),.int .i64 0,.int .i64 0,.int .i64 0,.string (bs []),.int .i64 xo,.int .i64 xa,.string (bs xw),.bool false] 86 (0,0)) none
 have A:=Hq (Zs hA (Za g1 gA))
 have LB:=Hq (Zcp w (.int .i64 4) (.slice lp lb.length lc) (.string (bs [])) (.int .i64 0) (.int .i64 0) (.int .i64 0) (.string (bs [])) (.int .i64 xo) (.int .i64 xa) (.string (bs xw)) (.bool false))
 have SR:=Hq (World.ownsRow.kept (show w.ownsRow w1.heap.size 9 1 (.slice lp lb.length lc) lb.length (Zcj lb) from hs) gA (Yw (show w.ownsRow w1.heap.size 9 1 (.slice lp lb.length lc) lb.length (Zcj lb) from hs)))
 have AP:=Hq (show ∀ v∈lv,∀ b o,lp=some ⟨b,o,none⟩->v.ownBlock≠some b from fun v hv b o e e2=>by
  obtain ⟨i,hi⟩:=List.getElem?_of_mem hv
  have hli:=hA.ins.str.len
  have hil:=(List.getElem?_eq_some_iff.1 hi).1
  simp only [List.length_cons,List.length_map,Zgb] at hli
  have ho:=hA.ins.str.each (i+1) v _ (by simpa using hi) (List.getElem?_eq_getElem (by simp [Zgb];omega))
  have h1:=(World.ownsRow.lt ho b e2).2
  have h2:=(World.ownsRow.lt (show w.ownsRow w1.heap.size 9 1 (.slice lp lb.length lc) lb.length (Zcj lb) from hs) b (by rw [e];rfl)).1
  omega)
 have GE:=Hq hA.gr.size
 clear hs
 generalize w.alloc (.cells #[.int .i64 4,.slice lp lb.length lc,.string (bs []),.int .i64 0,.int .i64 0,.int .i64 0,.string (bs []),.int .i64 xo,.int .i64 xa,.string (bs xw),.bool false] 86 (0,0))=W1 at *
 generalize w.heap.size=bx at *
 clear hA gA g1
 have FT:=Hq (Zcz ⟨4,lp,lb.length,lc,[],0,0,0,[],xo,xa,xw,false⟩ p s.mem (.slice pD s.data.length cD) pF s.funcs.length cF s.memSet vN vL vP vW W1 A.out.box)
 rw [hf] at FT
 obtain ⟨d0,d1,d2,d3,d4,d5,d6,d7,d8,d9,d10,dz,hlb⟩:=Zr LB.out
 go_upto_region 3 with (go_at_call 63;refine FT.out.mono ?_;rintro e W2 ⟨rfl,hg2⟩;have A:=Hq (Zs A.out hg2);have LB:=Hq (Yp LB.out hg2 (by simp));have SR:=Hq (World.ownsRow.kept SR.out hg2 (Yw SR.out));clear hg2 d0 d1 d2 d3 d4 d5 d6 d7 d8 d9 d10 dz hlb)
 have hll:lv.length=s.labels.length:=by
  have:=A.out.ins.str.len
  simpa [Zgb] using this
 have hpl:pv.length=s.labels.length:=by
  have:=A.out.ins.int.len
  simpa [Zgb] using this
 obtain ⟨vc,hv⟩:∃ vc,cv[k]? = some vc:=⟨_,List.getElem?_eq_getElem (by rw [A.out.ins.own.cl];show k<s.funcs.length;omega)⟩
 obtain ⟨pc,cc,ec⟩:=Zi (A.out.ins.own.each k _ _ hfk hv)
 replace ec:vc = .slice pc fc.length cc:=ec
 subst ec
 obtain ⟨gF,cF',eF,hgF,-⟩:=Zv A.out.ins.own.fr (show 0<s.funcs.length by omega)
 injection eF with eF eL9 eC
 clear eL9
 subst eF eC
 obtain ⟨gL,cL,eL,hgL,-⟩:=Zv A.out.ins.lrow (by omega)
 subst eL
 obtain ⟨gP,cP,eP,hgP,-⟩:=Zv A.out.ins.prow (by omega)
 subst eP
 have I0:LbI w0 W2 p bx k fc.length 0 s m0 m0 lb lp lc xo xa xw pD cD gF cF gL lv.length cL gP pv.length cP vN vW cv lv pv :=
  ⟨by rw [List.drop_zero],rfl,by rw [Ylb hm0];exact A.out,LB.out,Zcc SR.out GE.out,AP.out,rfl,rfl⟩
 have II0:=Hq I0
 obtain ⟨nL,hnL⟩:∃ nL,lv.length=nL:=⟨_,rfl⟩
 obtain ⟨nP,hnP⟩:∃ nP,pv.length=nP:=⟨_,rfl⟩
 rw [hnL] at hll
 rw [hnP] at hpl
 obtain ⟨c0,c1,c2,c3,c4,c5,c6,c7,z0,z1,z2,z3,z4,z5,z6,z7,hlt⟩:=Zbn (show RdB W2 p s.mem (.slice pD s.data.length cD) (.slice (some ⟨gF,0,none⟩) s.funcs.length cF) s.memSet vN (.slice (some ⟨gL,0,none⟩) lv.length cL) (.slice (some ⟨gP,0,none⟩) pv.length cP) vW from A.out.box)
 obtain ⟨d0,d1,d2,d3,d4,d5,d6,d7,d8,d9,d10,dz,hlb⟩:=Zr LB.out
 clear I0 AP SR
 rw [hnL,hnP] at II0
 go_upto_region 6 with fail
 rw [show (s.funcs.length:Int) - 1=(k:Int) by have:=HK.out;omega]
 clear A LB hgF hgL hgP
 go_wp2
 go_loopw [8] (fun v8 wr=>∃ (j:Nat) (m:List (Txt × Nat)) (lv pv:List Value),v8 = .int .i64 j/\j<=lb.length/\LbI w0 wr p bx k fc.length j s m0 m lb lp lc xo xa xw pD cD gF cF gL nL cL gP nP cP vN vW cv lv pv) (fun i _=>lb.length - (intOf i).toNat)
 case atStart=>exact ⟨0,m0,lv,pv,rfl,Nat.zero_le _,II0.out⟩
 case round =>
  clear c0 c1 c2 c3 c4 c5 c6 c7 z0 z1 z2 z3 z4 z5 z6 z7 hlt d0 d1 d2 d3 d4 d5 d6 d7 d8 d9 d10 dz hlb
  clear hnL hnP II0
  obtain ⟨j,m,lv,pv,rfl,hj,hI⟩:=hrel
  have e1:=hI.l1
  have e2:=hI.l2
  subst e1 e2
  have hml:=hI.ml
  have HI:=Hq hI
  clear hI
  obtain ⟨vl,hvl⟩:∃ vl,lv[k]? = some vl:=⟨_,List.getElem?_eq_getElem (by omega)⟩
  obtain ⟨pl,cl,el⟩:=Zi (HI.out.at'.ins.str.each (k+1) vl (Zcj (Jc m)) (by simpa using hvl) (by simp [rsL,hkL]))
  rw [Jh] at el
  subst el
  by_cases hjl:j<lb.length
  · have hlm:(Jc m).length<=900000:=by rw [Ziq];omega
    obtain ⟨t,ht⟩:∃ t,lb[j]? = some t:=⟨_,List.getElem?_eq_getElem hjl⟩
    have hdr:lb.drop j=t::lb.drop (j+1):=by rw [List.drop_eq_getElem_cons hjl];congr 1;exact (List.getElem?_eq_some_iff.1 ht).2
    have hjli:(j:Int)<(lb.length:Int):=by omega
    have OR:wr.ownsRow w0.heap.size 9 1 (.slice pl (Jc m).length cl) (Jc m).length (Zcj (Jc m)):=by
     have:=HI.out.at'.ins.str.each (k+1) _ (Zcj (Jc m)) (by simpa using hvl) (by simp [rsL,hkL])
     rw [Jh] at this
     exact this
    obtain ⟨c0,c1,c2,c3,c4,c5,c6,c7,z0,z1,z2,z3,z4,z5,z6,z7,hlt⟩:=Zbn (show RdB wr p s.mem (.slice pD s.data.length cD) (.slice (some ⟨gF,0,none⟩) s.funcs.length cF) s.memSet vN (.slice (some ⟨gL,0,none⟩) lv.length cL) (.slice (some ⟨gP,0,none⟩) pv.length cP) vW from HI.out.at'.box)
    obtain ⟨d0,d1,d2,d3,d4,d5,d6,d7,d8,d9,d10,dz,hlb⟩:=Zr HI.out.ln
    have HC:=Hq (fun w' (g:wr.grownBy w' none)=>Zol (Jc m) t pl cl w' (Zez (Zgi OR) g) (by rw [Ziq];omega))
    obtain ⟨gL',cL',eL',hgL,hcL⟩:=Zv HI.out.at'.ins.lrow (by omega)
    injection eL' with eL' eL9 eC9
    (try clear eL9)
    (try clear eC9)
    injection eL' with eL'
    injection eL' with eL' _
    subst eL'
    have xl:wr.cell? ⟨gL,k,none⟩=some (.slice pl (Jc m).length cl):=hcL k _ hvl (by omega)
    obtain ⟨b,c3',e3,hb3,hc3'⟩:=Zv HI.out.tx (by omega)
    injection e3 with e3 eL9 eC9
    (try clear eL9)
    (try clear eC9)
    subst e3
    have xt:wr.cell? ⟨b,j,none⟩=some (.string (bs t)):=hc3' j _ (by unfold Zcj;rw [List.getElem?_map,ht];rfl) (by omega)
    have AD:=Hq (Zs HI.out.at' (Ze (Zb wr none)))
    have LD:=Hq (Yp HI.out.ln (Ze (Zb wr none)) (by simp))
    clear hcL hc3' OR
    cases hany:m.any (fun x=>x.1 == t) with
    | true =>
      obtain ⟨nn,HV⟩:=Ynp hany
      replace HV:Zmd (Jc m) t=(nn:Int):=HV
      rw [HV] at HC
      have HR2:=Hq (show R=none by rw [<- HR.out,HI.out.ad,hdr,Zae,hany];rfl)
      clear HV hany hdr ht
      go_upto_region 23 with fail
      (try rename_i K23 hK23)
      refine Yd (n:=14) (J:=fun a0 l a1 w1=>RJ a0 236 14 tfH (Zhn p bx k j gL lv.length cL (Jc m).length cl b lb.length lc pl (bs t) (nn:Int) true ) l a1/\Zas 14 14 12 [(1,0),(2,1),(3,2),(5,3),(5,4),(6,5),(8,7),(10,8),(10,9),(11,10),(12,6),(12,11),(13,12)] [] (fun w9=>World.grownBy wr.drew w9 none) (fun _=>True) (Yxr p bx k j gL lv.length cL (Jc m).length cl b lb.length lc pl (bs t) (nn:Int) true ) (fun _=>True) l w1) (by kernel_rfl) rfl (Yt (by kernel_rfl)) (fun l a1 w1 h=>by obtain ⟨h,_⟩:=h;exact h.sz) ⟨Yc rfl,Zu (Zb _ _) (True.intro)⟩ ?step ?fin
      case step =>
       intro l a1 w' i hJJ hi hin
       obtain ⟨hJ,hW⟩:=hJJ
       have hun:l.getD i false=false:=getD_both (mem_ready.1 hi).1
       have hns:=Xe hW hin hun
       have hg:=hW.g hns
       have l0:=Nat.lt_of_lt_of_le hlt hg.size
       have l1:=Nat.lt_of_lt_of_le hlb hg.size
       have l2:=Nat.lt_of_lt_of_le hgL hg.size
       have l3:=Nat.lt_of_lt_of_le hb3 hg.size
       rcases Ztk i hin with rfl|rfl|rfl|rfl|rfl|rfl|rfl|rfl|rfl|rfl|rfl|rfl|rfl|rfl
       · have e0:a1.tmps.getD 0 undef = .pointer (some ⟨p,0,none⟩):=hJ.un 0 (fun i hi _=>Zgk 0 (by decide) i hi)
         exact Zd hJ hW hi hun (hne:=Jm _ (by decide)) (hrun:=by simp [execOp,Act.eval,e0,go_sem,Zhn])
       · have e119:a1.tmps.getD 119 undef = .pointer (some ⟨p,0,none⟩):=rjt hJ hi 0
         exact Zd hJ hW hi hun (hne:=Jm _ (by decide)) (hrun:=by simp [execOp,Act.eval,e119,go_sem,Zhn])
       · have e120:a1.tmps.getD 120 undef = .pointer (some ⟨p,0,none⟩):=rjt hJ hi 1
         exact Zd hJ hW hi hun (hne:=Jm _ (by decide)) (hrun:=by simp [execOp,Act.eval,e120,go_sem,Zhn])
       · have e121:a1.tmps.getD 121 undef = .pointer (some ⟨p,5,none⟩):=rjt hJ hi 2
         have h0:=hg.cell c5 (by simp)
         exact Zd hJ hW hi hun (hne:=Jm _ (by decide)) (hrun:=by simp [execOp,Act.eval,e121,h0,l0,l1,l2,l3,go_sem,Zhn])
       · have e7:a1.tmps.getD 7 undef = .int .i64 (k:Int):=hJ.un 7 (fun i hi _=>Zgk 7 (by decide) i hi)
         exact Zd hJ hW hi hun (hne:=Jm _ (by decide)) (hrun:=by simp [execOp,Act.eval,e7,l0,l1,l2,l3,go_sem,Zhn])
       · have e122:a1.tmps.getD 122 undef = .slice (some ⟨gL,0,none⟩) lv.length cL:=rjt hJ hi 3
         have e123:a1.tmps.getD 123 undef = .int .i64 (k:Int):=rjt hJ hi 4
         exact Zd hJ hW hi hun (hne:=Jm _ (by decide)) (hrun:=by simp [execOp,Act.eval,e122,e123,l0,l1,l2,l3,go_sem,Zhn] <;> (intros;omega))
       · have e124:a1.tmps.getD 124 undef = .pointer (some ⟨gL,k,none⟩):=rjt hJ hi 5
         have h0:=hg.cell xl (by simp)
         exact Zd hJ hW hi hun (hne:=Jm _ (by decide)) (hrun:=by simp [execOp,Act.eval,e124,h0,l0,l1,l2,l3,go_sem,Zhn])
       · have e4:a1.tmps.getD 4 undef = .pointer (some ⟨bx,0,none⟩):=hJ.un 4 (fun i hi _=>Zgk 4 (by decide) i hi)
         exact Zd hJ hW hi hun (hne:=Jm _ (by decide)) (hrun:=by simp [execOp,Act.eval,e4,go_sem,Zhn])
       · have e126:a1.tmps.getD 126 undef = .pointer (some ⟨bx,1,none⟩):=rjt hJ hi 7
         have h0:=hg.cell d1 (by simp)
         exact Zd hJ hW hi hun (hne:=Jm _ (by decide)) (hrun:=by simp [execOp,Act.eval,e126,h0,l0,l1,l2,l3,go_sem,Zhn])
       · have e8:a1.tmps.getD 8 undef = .int .i64 (j:Int):=hJ.un 8 (fun i hi _=>Zgk 8 (by decide) i hi)
         exact Zd hJ hW hi hun (hne:=Jm _ (by decide)) (hrun:=by simp [execOp,Act.eval,e8,l0,l1,l2,l3,go_sem,Zhn])
       · have e127:a1.tmps.getD 127 undef = .slice (some ⟨b,0,none⟩) lb.length lc:=rjt hJ hi 8
         have e128:a1.tmps.getD 128 undef = .int .i64 (j:Int):=rjt hJ hi 9
         exact Zd hJ hW hi hun (hne:=Jm _ (by decide)) (hrun:=by simp [execOp,Act.eval,e127,e128,l0,l1,l2,l3,go_sem,Zhn] <;> (intros;omega))
       · have e129:a1.tmps.getD 129 undef = .pointer (some ⟨b,j,none⟩):=rjt hJ hi 10
         have h0:=hg.cell xt (by simp)
         exact Zd hJ hW hi hun (hne:=Jm _ (by decide)) (hrun:=by simp [execOp,Act.eval,e129,h0,l0,l1,l2,l3,go_sem,Zhn])
       · have e125:a1.tmps.getD 125 undef = .slice pl (Jc m).length cl:=rjt hJ hi 6
         have e130:a1.tmps.getD 130 undef = .string (bs t):=rjt hJ hi 11
         refine Ya rfl (by rfl) (by simp [execOp,resolve,invoke,Act.eval,e125,e130,go_sem]) (Calls.mono (HC.out w' (Za (Ze (Zb wr none)) hg)) (fun e w2 he => ?_))
         obtain ⟨rfl,hg2⟩:=he
         refine ⟨_,rfl,?_,Zo hW (by decide) hun (by decide) (Zg _ hi (by kernel_rfl)) (Za hg hg2) (fun hne0 hun0 hB0=>True.intro) (fun j hj hne hl hcu hF => ?_) (True.intro)⟩
         · exact Yg (val:=Zhn p bx k j gL lv.length cL (Jc m).length cl b lb.length lc pl (bs t) (nn:Int) true ) (Yj hJ (Yep hW.cl hun)) (by decide) (by decide) (Jm _ (by decide))
         · rcases Ztk j hj with rfl|rfl|rfl|rfl|rfl|rfl|rfl|rfl|rfl|rfl|rfl|rfl|rfl|rfl <;> first|exact True.intro|exact absurd rfl hne
       · have e131:a1.tmps.getD 131 undef = .int .i64 (nn:Int):=rjt hJ hi 12
         exact Zd hJ hW hi hun (hne:=Jm _ (by decide)) (hrun:=by simp [execOp,Act.eval,e131,l0,l1,l2,l3,go_sem,Zhn])
      case fin =>
       intro l9 a1 w9 hJJ hl9
       obtain ⟨hJ,hW⟩:=hJJ
       have hg9:=hW.g (Ju hW)
       have hput:=Ys hJ rfl hl9 (fun i j h1 h2 h3=>Jm j h2 i h1 h3)
       subst hput
       clear hJ hW hl9
       (try refine hK23 _ _ ?_)
       simp only [Ja,tfH,Zhn,Act.put,List.setIfInBounds_toArray,List.set_cons_zero,List.set_cons_succ]
       have A:=Hq (Zs AD.out hg9)
       have LB:=Hq (Yp LD.out hg9 (by simp))
       go_wp2
       go_ret
       exact Yvt HR2.out rfl A.out.gr
    | false =>
      have HV:=Ytb hany
      replace HV:Zmd (Jc m) t = -1:=HV
      rw [HV] at HC
      have HA2:=Hq (show Zae fc.length m0 lb=Zae fc.length (m++[(t,fc.length)]) (lb.drop (j+1)) by rw [HI.out.ad,hdr,Zae,hany];rfl)
      clear HV hany hdr
      go_upto_region 23 with fail
      (try rename_i K23 hK23)
      refine Yd (n:=14) (J:=fun a0 l a1 w1=>RJ a0 236 14 tfH (Zhn p bx k j gL lv.length cL (Jc m).length cl b lb.length lc pl (bs t) (-1) false ) l a1/\Zas 14 14 12 [(1,0),(2,1),(3,2),(5,3),(5,4),(6,5),(8,7),(10,8),(10,9),(11,10),(12,6),(12,11),(13,12)] [] (fun w9=>World.grownBy wr.drew w9 none) (fun _=>True) (Yxr p bx k j gL lv.length cL (Jc m).length cl b lb.length lc pl (bs t) (-1) false ) (fun _=>True) l w1) (by kernel_rfl) rfl (Yt (by kernel_rfl)) (fun l a1 w1 h=>by obtain ⟨h,_⟩:=h;exact h.sz) ⟨Yc rfl,Zu (Zb _ _) (True.intro)⟩ ?step ?fin
      case step =>
       intro l a1 w' i hJJ hi hin
       obtain ⟨hJ,hW⟩:=hJJ
       have hun:l.getD i false=false:=getD_both (mem_ready.1 hi).1
       have hns:=Xe hW hin hun
       have hg:=hW.g hns
       have l0:=Nat.lt_of_lt_of_le hlt hg.size
       have l1:=Nat.lt_of_lt_of_le hlb hg.size
       have l2:=Nat.lt_of_lt_of_le hgL hg.size
       have l3:=Nat.lt_of_lt_of_le hb3 hg.size
       rcases Ztk i hin with rfl|rfl|rfl|rfl|rfl|rfl|rfl|rfl|rfl|rfl|rfl|rfl|rfl|rfl
       · have e0:a1.tmps.getD 0 undef = .pointer (some ⟨p,0,none⟩):=hJ.un 0 (fun i hi _=>Zgk 0 (by decide) i hi)
         exact Zd hJ hW hi hun (hne:=Jm _ (by decide)) (hrun:=by simp [execOp,Act.eval,e0,go_sem,Zhn])
       · have e119:a1.tmps.getD 119 undef = .pointer (some ⟨p,0,none⟩):=rjt hJ hi 0
         exact Zd hJ hW hi hun (hne:=Jm _ (by decide)) (hrun:=by simp [execOp,Act.eval,e119,go_sem,Zhn])
       · have e120:a1.tmps.getD 120 undef = .pointer (some ⟨p,0,none⟩):=rjt hJ hi 1
         exact Zd hJ hW hi hun (hne:=Jm _ (by decide)) (hrun:=by simp [execOp,Act.eval,e120,go_sem,Zhn])
       · have e121:a1.tmps.getD 121 undef = .pointer (some ⟨p,5,none⟩):=rjt hJ hi 2
         have h0:=hg.cell c5 (by simp)
         exact Zd hJ hW hi hun (hne:=Jm _ (by decide)) (hrun:=by simp [execOp,Act.eval,e121,h0,l0,l1,l2,l3,go_sem,Zhn])
       · have e7:a1.tmps.getD 7 undef = .int .i64 (k:Int):=hJ.un 7 (fun i hi _=>Zgk 7 (by decide) i hi)
         exact Zd hJ hW hi hun (hne:=Jm _ (by decide)) (hrun:=by simp [execOp,Act.eval,e7,l0,l1,l2,l3,go_sem,Zhn])
       · have e122:a1.tmps.getD 122 undef = .slice (some ⟨gL,0,none⟩) lv.length cL:=rjt hJ hi 3
         have e123:a1.tmps.getD 123 undef = .int .i64 (k:Int):=rjt hJ hi 4
         exact Zd hJ hW hi hun (hne:=Jm _ (by decide)) (hrun:=by simp [execOp,Act.eval,e122,e123,l0,l1,l2,l3,go_sem,Zhn] <;> (intros;omega))
       · have e124:a1.tmps.getD 124 undef = .pointer (some ⟨gL,k,none⟩):=rjt hJ hi 5
         have h0:=hg.cell xl (by simp)
         exact Zd hJ hW hi hun (hne:=Jm _ (by decide)) (hrun:=by simp [execOp,Act.eval,e124,h0,l0,l1,l2,l3,go_sem,Zhn])
       · have e4:a1.tmps.getD 4 undef = .pointer (some ⟨bx,0,none⟩):=hJ.un 4 (fun i hi _=>Zgk 4 (by decide) i hi)
         exact Zd hJ hW hi hun (hne:=Jm _ (by decide)) (hrun:=by simp [execOp,Act.eval,e4,go_sem,Zhn])
       · have e126:a1.tmps.getD 126 undef = .pointer (some ⟨bx,1,none⟩):=rjt hJ hi 7
         have h0:=hg.cell d1 (by simp)
         exact Zd hJ hW hi hun (hne:=Jm _ (by decide)) (hrun:=by simp [execOp,Act.eval,e126,h0,l0,l1,l2,l3,go_sem,Zhn])
       · have e8:a1.tmps.getD 8 undef = .int .i64 (j:Int):=hJ.un 8 (fun i hi _=>Zgk 8 (by decide) i hi)
         exact Zd hJ hW hi hun (hne:=Jm _ (by decide)) (hrun:=by simp [execOp,Act.eval,e8,l0,l1,l2,l3,go_sem,Zhn])
       · have e127:a1.tmps.getD 127 undef = .slice (some ⟨b,0,none⟩) lb.length lc:=rjt hJ hi 8
         have e128:a1.tmps.getD 128 undef = .int .i64 (j:Int):=rjt hJ hi 9
         exact Zd hJ hW hi hun (hne:=Jm _ (by decide)) (hrun:=by simp [execOp,Act.eval,e127,e128,l0,l1,l2,l3,go_sem,Zhn] <;> (intros;omega))
       · have e129:a1.tmps.getD 129 undef = .pointer (some ⟨b,j,none⟩):=rjt hJ hi 10
         have h0:=hg.cell xt (by simp)
         exact Zd hJ hW hi hun (hne:=Jm _ (by decide)) (hrun:=by simp [execOp,Act.eval,e129,h0,l0,l1,l2,l3,go_sem,Zhn])
       · have e125:a1.tmps.getD 125 undef = .slice pl (Jc m).length cl:=rjt hJ hi 6
         have e130:a1.tmps.getD 130 undef = .string (bs t):=rjt hJ hi 11
         refine Ya rfl (by rfl) (by simp [execOp,resolve,invoke,Act.eval,e125,e130,go_sem]) (Calls.mono (HC.out w' (Za (Ze (Zb wr none)) hg)) (fun e w2 he => ?_))
         obtain ⟨rfl,hg2⟩:=he
         refine ⟨_,rfl,?_,Zo hW (by decide) hun (by decide) (Zg _ hi (by kernel_rfl)) (Za hg hg2) (fun hne0 hun0 hB0=>True.intro) (fun j hj hne hl hcu hF => ?_) (True.intro)⟩
         · exact Yg (val:=Zhn p bx k j gL lv.length cL (Jc m).length cl b lb.length lc pl (bs t) (-1) false ) (Yj hJ (Yep hW.cl hun)) (by decide) (by decide) (Jm _ (by decide))
         · rcases Ztk j hj with rfl|rfl|rfl|rfl|rfl|rfl|rfl|rfl|rfl|rfl|rfl|rfl|rfl|rfl <;> first|exact True.intro|exact absurd rfl hne
       · have e131:a1.tmps.getD 131 undef = .int .i64 (-1):=rjt hJ hi 12
         exact Zd hJ hW hi hun (hne:=Jm _ (by decide)) (hrun:=by simp [execOp,Act.eval,e131,l0,l1,l2,l3,go_sem,Zhn])
      case fin =>
       intro l9 a1 w9 hJJ hl9
       obtain ⟨hJ,hW⟩:=hJJ
       have hg9:=hW.g (Ju hW)
       have hput:=Ys hJ rfl hl9 (fun i j h1 h2 h3=>Jm j h2 i h1 h3)
       subst hput
       clear hJ hW hl9
       (try refine hK23 _ _ ?_)
       simp only [Ja,tfH,Zhn,Act.put,List.setIfInBounds_toArray,List.set_cons_zero,List.set_cons_succ]
       have A:=Hq (Zs AD.out hg9)
       have LB:=Hq (Yp LD.out hg9 (by simp))
       have TX:=HI.out.tx.kept (Za (Ze (Zb wr none)) hg9) (Yw HI.out.tx)
       clear hg9 AD LD HC xl xt
       clear c0 c1 c2 c3 c4 c5 c6 c7 z0 z1 z2 z3 z4 z5 z6 z7 hlt d0 d1 d2 d3 d4 d5 d6 d7 d8 d9 d10 dz hlb
       clear hgL hb3
       try clear K23
       conv=>arg 2;whnf
       go_upto_region 25 with fail
       (try rename_i K25 hK25)
       generalize w9=W4 at A LB TX ⊢
       have OR:W4.ownsRow w0.heap.size 9 1 (.slice pl (Jc m).length cl) (Jc m).length (Zcj (Jc m)):=by
        have:=A.out.ins.str.each (k+1) _ (Zcj (Jc m)) (by simpa using hvl) (by simp [rsL,hkL])
        rw [Jh] at this
        exact this
       obtain ⟨c0,c1,c2,c3,c4,c5,c6,c7,z0,z1,z2,z3,z4,z5,z6,z7,hlt⟩:=Zbn (show RdB W4 p s.mem (.slice pD s.data.length cD) (.slice (some ⟨gF,0,none⟩) s.funcs.length cF) s.memSet vN (.slice (some ⟨gL,0,none⟩) lv.length cL) (.slice (some ⟨gP,0,none⟩) pv.length cP) vW from A.out.box)
       obtain ⟨d0,d1,d2,d3,d4,d5,d6,d7,d8,d9,d10,dz,hlb⟩:=Zr LB.out
       obtain ⟨gL',cL',eL',hgL,hcL⟩:=Zv A.out.ins.lrow (by omega)
       injection eL' with eL' eL9 eC9
       (try clear eL9)
       (try clear eC9)
       injection eL' with eL'
       injection eL' with eL' _
       subst eL'
       have xl:W4.cell? ⟨gL,k,none⟩=some (.slice pl (Jc m).length cl):=hcL k _ hvl (by omega)
       have zl:W4.frozen? ⟨gL,k,none⟩=false:=Zbe A.out.ins.lrow _
       obtain ⟨g4,c4',e4,hb3,hc4'⟩:=Zv TX (by omega)
       injection e4 with e4 eL9 eC9
       (try clear eL9)
       (try clear eC9)
       injection e4 with e4
       injection e4 with e4 _
       subst e4
       have xt:W4.cell? ⟨b,j,none⟩=some (.string (bs t)):=hc4' j _ (by unfold Zcj;rw [List.getElem?_map,ht];rfl) (by omega)
       have HAPL:=HI.out.ap _ (List.mem_of_getElem? hvl) b 0 rfl
       have HNE:some p≠(Value.slice pl (Jc m).length cl).ownBlock:=fun e=>Zn OR A.out.box (by decide) e.symm
       have HNB:some bx≠(Value.slice pl (Jc m).length cl).ownBlock:=fun e=>Zn OR LB.out (by decide) e.symm
       have HNL:some gL≠(Value.slice pl (Jc m).length cl).ownBlock:=fun e=>(Zh A.out.ins.lrow OR (by decide)).elim (fun q=>by cases q) (fun q=>q e)
       have HNT:some b≠(Value.slice pl (Jc m).length cl).ownBlock:=fun e=>HAPL e.symm
       have hE:=A.out.gr.size
       have AD:=Hq (Zs A.out (Ze (Zb W4 none)))
       have LD:=Hq (Yp LB.out (Ze (Zb W4 none)) (by simp))
       have ORD:=OR.kept (Ze (Zb W4 none)) (Yw OR)
       have OWN:=Hq ORD
       obtain ⟨vb,hvb⟩:∃ vb,(Value.slice pl (Jc m).length cl).ownBlock=vb:=⟨_,rfl⟩
       rw [hvb] at HNE HNB HNL HNT
       obtain ⟨ni,ni0,ni1,ni2,ni3⟩:=info_parts Znh
       have TXD:=TX.kept (Ze (Zb W4 none)) (Yw TX)
       clear OR hcL hc4' HAPL
       refine Yd (n:=21) (J:=fun a0 l a1 w1=>∃ (q2:Nat) (gC:Nat) (cC9:Nat),RJ a0 236 21 tfA (Zjd w0.heap.size W4.heap.size (Jc m).length cl pl (Zcj (Jc m)) vb p bx k j gL lv.length cL b lb.length lc (bs t) q2 gC cC9) l a1/\Zas 20 21 18 [(1,0),(2,1),(3,2),(6,5),(7,6),(8,7),(10,8),(10,9),(11,10),(13,12),(15,13),(15,14),(16,15),(17,16),(18,11),(18,17),(19,3),(19,4),(20,19),(20,18)] [(17,18)] (fun w9=>World.grownBy W4.drew w9 vb) (fun w9=>w9.ownsRow w0.heap.size 9 1 (.slice pl (Jc m).length cl) (Jc m).length (Zcj (Jc m))) (Yxu w0.heap.size W4.heap.size (Jc m).length cl pl (Zcj (Jc m)) vb p bx k j gL lv.length cL b lb.length lc (bs t) q2 gC cC9) (fun w9=>∃ (w8:World),World.grownBy W4.drew w8 vb/\w8.ownsRow w0.heap.size 9 1 (.slice (some ⟨gC,0,none⟩) ((Jc m).length+1) cC9) ((Jc m).length+1) ((Zcj (Jc m))++[.string (bs t)])/\(some gC=vb\/∀ b,(Value.slice (some ⟨gC,0,none⟩) ((Jc m).length+1) cC9).ownBlock=some b->W4.drew.heap.size<=b)/\w9=w8.setCell ⟨gL,k,none⟩ (.slice (some ⟨gC,0,none⟩) ((Jc m).length+1) cC9)) l w1) (by kernel_rfl) rfl (Yt (by kernel_rfl)) (fun l a1 w1 h=>by obtain ⟨_,_,_,h,_⟩:=h;exact h.sz) ⟨0,0,0,Yc rfl,Zu (Zb _ _) (OWN.out)⟩ ?step ?fin
       case step =>
        intro l a1 w' i hJJ hi hin
        obtain ⟨q2,gC,cC9,hJ,hW⟩:=hJJ
        have hun:l.getD i false=false:=getD_both (mem_ready.1 hi).1
        have hns:=Xe hW hin hun
        have hg:=hW.g hns
        have l0:=Nat.lt_of_lt_of_le hlt hg.size
        have l1:=Nat.lt_of_lt_of_le hlb hg.size
        have l2:=Nat.lt_of_lt_of_le hgL hg.size
        have l3:=Nat.lt_of_lt_of_le hb3 hg.size
        rcases Ztm i hin with rfl|rfl|rfl|rfl|rfl|rfl|rfl|rfl|rfl|rfl|rfl|rfl|rfl|rfl|rfl|rfl|rfl|rfl|rfl|rfl|rfl
        · have e0:a1.tmps.getD 0 undef = .pointer (some ⟨p,0,none⟩):=hJ.un 0 (fun i hi _=>Zkl 0 (by decide) i hi)
          exact Zc (Zd hJ hW hi hun (hne:=Zbl _ (by decide)) (hrun:=by simp [execOp,Act.eval,e0,go_sem,Zjd])) (fun a9 w9 h9=>⟨q2,gC,cC9,h9⟩)
        · have e133:a1.tmps.getD 133 undef = .pointer (some ⟨p,0,none⟩):=rjt hJ hi 0
          exact Zc (Zd hJ hW hi hun (hne:=Zbl _ (by decide)) (hrun:=by simp [execOp,Act.eval,e133,go_sem,Zjd])) (fun a9 w9 h9=>⟨q2,gC,cC9,h9⟩)
        · have e134:a1.tmps.getD 134 undef = .pointer (some ⟨p,0,none⟩):=rjt hJ hi 1
          exact Zc (Zd hJ hW hi hun (hne:=Zbl _ (by decide)) (hrun:=by simp [execOp,Act.eval,e134,go_sem,Zjd])) (fun a9 w9 h9=>⟨q2,gC,cC9,h9⟩)
        · have e135:a1.tmps.getD 135 undef = .pointer (some ⟨p,5,none⟩):=rjt hJ hi 2
          have h0:=hg.cell c5 HNE
          exact Zc (Zd hJ hW hi hun (hne:=Zbl _ (by decide)) (hrun:=by simp [execOp,Act.eval,e135,h0,l0,l1,l2,l3,go_sem,Zjd])) (fun a9 w9 h9=>⟨q2,gC,cC9,h9⟩)
        · have e7:a1.tmps.getD 7 undef = .int .i64 (k:Int):=hJ.un 7 (fun i hi _=>Zkl 7 (by decide) i hi)
          exact Zc (Zd hJ hW hi hun (hne:=Zbl _ (by decide)) (hrun:=by simp [execOp,Act.eval,e7,l0,l1,l2,l3,go_sem,Zjd])) (fun a9 w9 h9=>⟨q2,gC,cC9,h9⟩)
        · have e0:a1.tmps.getD 0 undef = .pointer (some ⟨p,0,none⟩):=hJ.un 0 (fun i hi _=>Zkl 0 (by decide) i hi)
          exact Zc (Zd hJ hW hi hun (hne:=Zbl _ (by decide)) (hrun:=by simp [execOp,Act.eval,e0,go_sem,Zjd])) (fun a9 w9 h9=>⟨q2,gC,cC9,h9⟩)
        · have e138:a1.tmps.getD 138 undef = .pointer (some ⟨p,0,none⟩):=rjt hJ hi 5
          exact Zc (Zd hJ hW hi hun (hne:=Zbl _ (by decide)) (hrun:=by simp [execOp,Act.eval,e138,go_sem,Zjd])) (fun a9 w9 h9=>⟨q2,gC,cC9,h9⟩)
        · have e139:a1.tmps.getD 139 undef = .pointer (some ⟨p,0,none⟩):=rjt hJ hi 6
          exact Zc (Zd hJ hW hi hun (hne:=Zbl _ (by decide)) (hrun:=by simp [execOp,Act.eval,e139,go_sem,Zjd])) (fun a9 w9 h9=>⟨q2,gC,cC9,h9⟩)
        · have e140:a1.tmps.getD 140 undef = .pointer (some ⟨p,5,none⟩):=rjt hJ hi 7
          have h0:=hg.cell c5 HNE
          exact Zc (Zd hJ hW hi hun (hne:=Zbl _ (by decide)) (hrun:=by simp [execOp,Act.eval,e140,h0,l0,l1,l2,l3,go_sem,Zjd])) (fun a9 w9 h9=>⟨q2,gC,cC9,h9⟩)
        · have e7:a1.tmps.getD 7 undef = .int .i64 (k:Int):=hJ.un 7 (fun i hi _=>Zkl 7 (by decide) i hi)
          exact Zc (Zd hJ hW hi hun (hne:=Zbl _ (by decide)) (hrun:=by simp [execOp,Act.eval,e7,l0,l1,l2,l3,go_sem,Zjd])) (fun a9 w9 h9=>⟨q2,gC,cC9,h9⟩)
        · have e141:a1.tmps.getD 141 undef = .slice (some ⟨gL,0,none⟩) lv.length cL:=rjt hJ hi 8
          have e142:a1.tmps.getD 142 undef = .int .i64 (k:Int):=rjt hJ hi 9
          exact Zc (Zd hJ hW hi hun (hne:=Zbl _ (by decide)) (hrun:=by simp [execOp,Act.eval,e141,e142,l0,l1,l2,l3,go_sem,Zjd] <;> (intros;omega))) (fun a9 w9 h9=>⟨q2,gC,cC9,h9⟩)
        · have e143:a1.tmps.getD 143 undef = .pointer (some ⟨gL,k,none⟩):=rjt hJ hi 10
          have h0:=hg.cell xl HNL
          exact Zc (Zd hJ hW hi hun (hne:=Zbl _ (by decide)) (hrun:=by simp [execOp,Act.eval,e143,h0,l0,l1,l2,l3,go_sem,Zjd])) (fun a9 w9 h9=>⟨q2,gC,cC9,h9⟩)
        · have e4:a1.tmps.getD 4 undef = .pointer (some ⟨bx,0,none⟩):=hJ.un 4 (fun i hi _=>Zkl 4 (by decide) i hi)
          exact Zc (Zd hJ hW hi hun (hne:=Zbl _ (by decide)) (hrun:=by simp [execOp,Act.eval,e4,go_sem,Zjd])) (fun a9 w9 h9=>⟨q2,gC,cC9,h9⟩)
        · have e145:a1.tmps.getD 145 undef = .pointer (some ⟨bx,1,none⟩):=rjt hJ hi 12
          have h0:=hg.cell d1 HNB
          exact Zc (Zd hJ hW hi hun (hne:=Zbl _ (by decide)) (hrun:=by simp [execOp,Act.eval,e145,h0,l0,l1,l2,l3,go_sem,Zjd])) (fun a9 w9 h9=>⟨q2,gC,cC9,h9⟩)
        · have e8:a1.tmps.getD 8 undef = .int .i64 (j:Int):=hJ.un 8 (fun i hi _=>Zkl 8 (by decide) i hi)
          exact Zc (Zd hJ hW hi hun (hne:=Zbl _ (by decide)) (hrun:=by simp [execOp,Act.eval,e8,l0,l1,l2,l3,go_sem,Zjd])) (fun a9 w9 h9=>⟨q2,gC,cC9,h9⟩)
        · have e146:a1.tmps.getD 146 undef = .slice (some ⟨b,0,none⟩) lb.length lc:=rjt hJ hi 13
          have e147:a1.tmps.getD 147 undef = .int .i64 (j:Int):=rjt hJ hi 14
          exact Zc (Zd hJ hW hi hun (hne:=Zbl _ (by decide)) (hrun:=by simp [execOp,Act.eval,e146,e147,l0,l1,l2,l3,go_sem,Zjd] <;> (intros;omega))) (fun a9 w9 h9=>⟨q2,gC,cC9,h9⟩)
        · have e148:a1.tmps.getD 148 undef = .pointer (some ⟨b,j,none⟩):=rjt hJ hi 15
          have h0:=hg.cell xt HNT
          exact Zc (Zd hJ hW hi hun (hne:=Zbl _ (by decide)) (hrun:=by simp [execOp,Act.eval,e148,h0,l0,l1,l2,l3,go_sem,Zjd])) (fun a9 w9 h9=>⟨q2,gC,cC9,h9⟩)
        · have e149:a1.tmps.getD 149 undef = .string (bs t):=rjt hJ hi 16
          have f149:=e149
          rw [Array.getD_eq_getD_getElem?] at f149
          refine Zt (v:=Zjd w0.heap.size W4.heap.size (Jc m).length cl pl (Zcj (Jc m)) vb p bx k j gL lv.length cL b lb.length lc (bs t) w'.heap.size gC cC9 17) (w':=w'.alloc (.cells #[.string (bs t)] 9)) rfl (by rfl) (by simp [execOp,Act.eval,e149,f149,Yii,Result.andThen,Zjd]) ⟨w'.heap.size,gC,cC9,?_,Zo hW (by decide) hun (by decide) (Zg _ hi (by kernel_rfl)) (Za hg (Ga _ _ _)) (fun hne0 hun0 hB0=>hB0.alloc _) (fun j hj hne hl hcu hF => ?_) (heap_alloc_new w' _)⟩
          · exact Yg (val:=Zjd w0.heap.size W4.heap.size (Jc m).length cl pl (Zcj (Jc m)) vb p bx k j gL lv.length cL b lb.length lc (bs t) w'.heap.size gC cC9) (Yj hJ (Yqm hW.cl hun)) (by decide) (by decide) (Zbl _ (by decide))
          · rcases Ztm j hj with rfl|rfl|rfl|rfl|rfl|rfl|rfl|rfl|rfl|rfl|rfl|rfl|rfl|rfl|rfl|rfl|rfl|rfl|rfl|rfl|rfl <;> first|exact True.intro|exact absurd rfl hne|exact Zk (hW.cl (18,17) (by decide) (hl)) hun
        · have e144:a1.tmps.getD 144 undef = .slice pl (Jc m).length cl:=rjt hJ hi 11
          have e150:a1.tmps.getD 150 undef = .slice (some ⟨q2,0,none⟩) 1 1:=rjt hJ hi 17
          have FB:=hW.f hns 17 (by decide) (Zq hi 17 (by kernel_rfl)) (Jg (c:=18) (by decide) hun)
          have own:=hW.u hun
          obtain ⟨v8,w8,hap,hown,hgr,-,hat⟩:=run_append_own_at (P:=Tryz.prog) w' w0.heap.size 37 37 9 ni (.string ⟨#[]⟩) 1 16 Zrt ni0 ni1 ni2 ni3 rfl (by decide) _ (Jc m).length (Zcj (Jc m)) own ⟨q2,0,none⟩ 1 1 [.string (bs t)] rfl (Zbj FB) (Zwm _) (by unfold maxLen;omega) (by omega) (Nat.le_trans hE hg.size)
          rw [hvb] at hgr hat
          obtain ⟨gC2,cC92,hv⟩:=Js hown
          subst hv
          have hgs:=hg.size
          have hat2:some gC2=vb\/W4.heap.size<=gC2:=hat.imp id (fun e=>by injection e with e;simp only at e;first|omega|(rw [e];exact hgs))
          refine Zt (v:=Zjd w0.heap.size W4.heap.size (Jc m).length cl pl (Zcj (Jc m)) vb p bx k j gL lv.length cL b lb.length lc (bs t) q2 gC2 cC92 18) (w':=w8) rfl (by rfl) (by simp [execOp,resolve,invoke,builtin,Act.eval,e144,e150,hap,Result.andThen,Zjd]) ⟨q2,gC2,cC92,?_,Zo hW (by decide) hun (by decide) (Zg _ hi (by kernel_rfl)) (Za hg hgr) (fun hne0 hun0 hB0=>absurd rfl hne0) (fun j hj hne hl hcu hF => ?_) (⟨hown,hat2⟩)⟩
          · exact Yg (val:=Zjd w0.heap.size W4.heap.size (Jc m).length cl pl (Zcj (Jc m)) vb p bx k j gL lv.length cL b lb.length lc (bs t) q2 gC2 cC92) (Yj hJ (Yql hW.cl hun)) (by decide) (by decide) (Zbl _ (by decide))
          · rcases Ztm j hj with rfl|rfl|rfl|rfl|rfl|rfl|rfl|rfl|rfl|rfl|rfl|rfl|rfl|rfl|rfl|rfl|rfl|rfl|rfl|rfl|rfl <;> first|exact True.intro|exact absurd rfl (hcu (17,18) (by decide) rfl).1|exact absurd rfl hne
        · have e136:a1.tmps.getD 136 undef = .slice (some ⟨gL,0,none⟩) lv.length cL:=rjt hJ hi 3
          have e137:a1.tmps.getD 137 undef = .int .i64 (k:Int):=rjt hJ hi 4
          exact Zc (Zd hJ hW hi hun (hne:=Zbl _ (by decide)) (hrun:=by simp [execOp,Act.eval,e136,e137,l0,l1,l2,l3,go_sem,Zjd] <;> (intros;omega))) (fun a9 w9 h9=>⟨q2,gC,cC9,h9⟩)
        · have e152:a1.tmps.getD 152 undef = .pointer (some ⟨gL,k,none⟩):=rjt hJ hi 19
          have e151:a1.tmps.getD 151 undef = .slice (some ⟨gC,0,none⟩) ((Jc m).length+1) cC9:=rjt hJ hi 18
          have F18:=hW.f hns 18 (by decide) (Zq hi 18 (by kernel_rfl)) (Zat (by decide))
          have k1:=hg.cell xl HNL
          have bx2:=hg.block gL hgL HNL
          have j1:w'.frozen? ⟨gL,k,none⟩=false:=(World.frozen?_of_block bx2).trans zl
          have lb2:=Nat.lt_of_lt_of_le hgL hg.size
          have O7:w'.ownsRow w0.heap.size 9 1 (.slice (some ⟨gC,0,none⟩) ((Jc m).length+1) cC9) ((Jc m).length+1) ((Zcj (Jc m))++[.string (bs t)]):=F18.1
          have L7:some gC=vb\/W4.heap.size<=gC:=F18.2
          have hall:∀ j,j<21->j≠20->l.getD j false=true:=Jp hi hW.cl (by kernel_rfl)
          exact Zc (Jo (WS:=fun l9 w9=>Zas 20 21 18 [(1,0),(2,1),(3,2),(6,5),(7,6),(8,7),(10,8),(10,9),(11,10),(13,12),(15,13),(15,14),(16,15),(17,16),(18,11),(18,17),(19,3),(19,4),(20,19),(20,18)] [(17,18)] (fun w9=>World.grownBy W4.drew w9 vb) (fun w9=>w9.ownsRow w0.heap.size 9 1 (.slice pl (Jc m).length cl) (Jc m).length (Zcj (Jc m))) (Yxu w0.heap.size W4.heap.size (Jc m).length cl pl (Zcj (Jc m)) vb p bx k j gL lv.length cL b lb.length lc (bs t) q2 gC cC9) (fun w9=>∃ (w8:World),World.grownBy W4.drew w8 vb/\w8.ownsRow w0.heap.size 9 1 (.slice (some ⟨gC,0,none⟩) ((Jc m).length+1) cC9) ((Jc m).length+1) ((Zcj (Jc m))++[.string (bs t)])/\(some gC=vb\/∀ b,(Value.slice (some ⟨gC,0,none⟩) ((Jc m).length+1) cC9).ownBlock=some b->W4.drew.heap.size<=b)/\w9=w8.setCell ⟨gL,k,none⟩ (.slice (some ⟨gC,0,none⟩) ((Jc m).length+1) cC9)) l9 w9) hJ rfl rfl rfl (by decide) (by decide) (w':=w'.setCell ⟨gL,k,none⟩ (.slice (some ⟨gC,0,none⟩) ((Jc m).length+1) cC9)) (by simp [execOp,Act.eval,e152,e151,k1,j1,lb2,go_sem]) (Xa hW (by decide) (by decide) hall (Zg _ hi (by kernel_rfl)) (⟨w',hg,O7,L7.imp id (fun h7 b hb7=>by injection hb7 with hb7;simp only at hb7;subst hb7;exact h7),rfl⟩))) (fun a9 w9 h9=>⟨q2,gC,cC9,h9⟩)
       case fin =>
        intro l9 a1 w9 hJJ hl9
        obtain ⟨q2,gC,cC9,hJ,hW⟩:=hJJ
        have hq:=hW.q (hl9 20 (by decide))
        have hput:=Ys hJ rfl hl9 (fun i j h1 h2 h3=>Zbl j h2 i h1 h3)
        subst hput
        clear hJ hW hl9
        obtain ⟨w8,q1,q4,q5,rfl⟩:=hq
        (try refine hK25 _ _ ?_)
        simp only [Ja,tfA,Zjd,Act.put,List.setIfInBounds_toArray,List.set_cons_zero,List.set_cons_succ]
        have LR8:=AD.out.ins.lrow.kept q1 ((Zh AD.out.ins.lrow ORD (by decide)).imp id (fun h=>by rw [hvb] at h;exact h))
        have TX8:=TXD.kept q1 (Or.inr HNT)
        have TX9:=TX8.kept (Zm w8 gL k (.slice (some ⟨gC,0,none⟩) ((Jc m).length+1) cC9)) (Zh TX8 LR8 (by decide))
        have M:=Hq (Ylm (t:=t) AD.out hvl (by simp [rsL,hkL]) q4 (by rw [hvb];exact q1) (by rw [hvb];exact q5))
        have LM:=Hq (Zld (Zld LD.out ORD (by decide) (by rw [hvb];exact q1)) LR8 (by decide) (Zm w8 gL k (.slice (some ⟨gC,0,none⟩) ((Jc m).length+1) cC9)))
        have AP9:∀ v∈lv.set k (.slice (some ⟨gC,0,none⟩) ((Jc m).length+1) cC9),∀ b' o',(some ⟨b,0,none⟩:Option Addr)=some ⟨b',o',none⟩->v.ownBlock≠some b':=fun v hv9 b' o' e9 e10=>by
         rcases List.mem_or_eq_of_mem_set hv9 with hv9|hv9
         · exact HI.out.ap v hv9 b' o' e9 e10
         · subst hv9
           injection e9 with e9
           injection e9 with e9 _
           subst e9
           rcases q5 with q5|q5
           · exact HNT (e10.symm.trans q5)
           · have h9:=q5 b e10
             have h10:W4.drew.heap.size=W4.heap.size:=rfl
             omega
        clear q1 q4 q5 LR8 TX8 TXD TX ORD
        generalize (Value.slice (some ⟨gC,0,none⟩) ((Jc m).length+1) cC9)=vlN at M LM AP9 TX9 ⊢
        generalize w8.setCell ⟨gL,k,none⟩ vlN=W5 at M LM TX9 ⊢
        clear A LB
        have A:=M
        have LB:=LM
        have TX5:=Hq TX9
        have AP5:=Hq AP9
        clear M LM TX9 AP9 xl xt zl hgL hb3 HNL HNT
        clear c0 c1 c2 c3 c4 c5 c6 c7 z0 z1 z2 z3 z4 z5 z6 z7 hlt d0 d1 d2 d3 d4 d5 d6 d7 d8 d9 d10 dz hlb
        clear HNE HNB OWN hvb ni0 ni1 ni2 ni3 AD LD
        try clear K25
        conv=>arg 2;whnf
        go_upto_region 26 with fail
        (try rename_i K26 hK26)
        obtain ⟨vp,hvp⟩:∃ vp,pv[k]? = some vp:=⟨_,List.getElem?_eq_getElem (by omega)⟩
        have OR0:W5.ownsRow w0.heap.size 3 1 vp (Zba m).length (Zmn (Zba m)):=by
         have:=A.out.ins.int.each k vp (Zmn (Zba m)) hvp (by simp [rsL,hkL])
         rw [Zis] at this
         exact this
        obtain ⟨pl2,cl2,el2⟩:=Zi OR0
        subst el2
        have OR:=OR0
        clear OR0
        obtain ⟨c0,c1,c2,c3,c4,c5,c6,c7,z0,z1,z2,z3,z4,z5,z6,z7,hlt⟩:=Zbn (show RdB W5 p s.mem (.slice pD s.data.length cD) (.slice (some ⟨gF,0,none⟩) s.funcs.length cF) s.memSet vN (.slice (some ⟨gL,0,none⟩) lv.length cL) (.slice (some ⟨gP,0,none⟩) pv.length cP) vW from A.out.box)
        obtain ⟨d0,d1,d2,d3,d4,d5,d6,d7,d8,d9,d10,dz,hlb⟩:=Zr LB.out
        obtain ⟨gP',cP',eP',hgP,hcP⟩:=Zv A.out.ins.prow (by omega)
        injection eP' with eP' eL9 eC9
        (try clear eL9)
        (try clear eC9)
        injection eP' with eP'
        injection eP' with eP' _
        subst eP'
        have xp:W5.cell? ⟨gP,k,none⟩=some (.slice pl2 (Zba m).length cl2):=hcP k _ hvp (by omega)
        have zp:W5.frozen? ⟨gP,k,none⟩=false:=Zbe A.out.ins.prow _
        obtain ⟨gF',cF',eF',hgF,hcF⟩:=Zv A.out.ins.own.fr (show 0<s.funcs.length by omega)
        injection eF' with eF' eL9 eC9
        (try clear eL9)
        (try clear eC9)
        injection eF' with eF'
        injection eF' with eF' _
        subst eF'
        have xc:W5.cell? ⟨gF,k*4+3,none⟩=some (.slice pc fc.length cc):=hcF _ _ (Zad s.funcs cv k _ _ hfk hv).2.2.2 (show k*4+3<s.funcs.length*4 by omega)
        have hpll:(Zba m).length<=900000:=by rw [Zxe];omega
        have HNE:some p≠(Value.slice pl2 (Zba m).length cl2).ownBlock:=fun e=>Zn OR A.out.box (by decide) e.symm
        have HNB:some bx≠(Value.slice pl2 (Zba m).length cl2).ownBlock:=fun e=>Zn OR LB.out (by decide) e.symm
        have HNP:some gP≠(Value.slice pl2 (Zba m).length cl2).ownBlock:=fun e=>(Zh A.out.ins.prow OR (by decide)).elim (fun q=>by cases q) (fun q=>q e)
        have HNF:some gF≠(Value.slice pl2 (Zba m).length cl2).ownBlock:=fun e=>(Zh A.out.ins.own.fr OR (by decide)).elim (fun q=>by cases q) (fun q=>q e)
        have hE:=A.out.gr.size
        have AD:=Hq (Zs A.out (Ze (Zb W5 none)))
        have LD:=Hq (Yp LB.out (Ze (Zb W5 none)) (by simp))
        have ORD:=OR.kept (Ze (Zb W5 none)) (Yw OR)
        have OWN:=Hq ORD
        obtain ⟨vb,hvb⟩:∃ vb,(Value.slice pl2 (Zba m).length cl2).ownBlock=vb:=⟨_,rfl⟩
        rw [hvb] at HNE HNB HNP HNF
        obtain ⟨ni,ni0,ni1,ni2,ni3⟩:=info_parts Yib
        have HNX:(Value.slice (some ⟨b,0,none⟩) lb.length lc).ownBlock=none\/(Value.slice (some ⟨b,0,none⟩) lb.length lc).ownBlock≠vb:=by
         rw [<- hvb];exact Zh TX5.out OR (by decide)
        clear OR hcP hcF
        refine Yd (n:=26) (J:=fun a0 l a1 w1=>∃ (q2:Nat) (gC:Nat) (cC9:Nat),RJ a0 236 26 tfB (Zgm w0.heap.size W5.heap.size (Zba m).length cl2 pl2 (Zmn (Zba m)) vb p bx k gP pv.length cP gF s.funcs.length cF fc.length cc pc q2 gC cC9) l a1/\Zas 25 26 23 [(1,0),(2,1),(3,2),(6,5),(7,6),(8,7),(10,8),(10,9),(11,10),(13,12),(14,13),(15,14),(16,15),(18,16),(18,17),(19,18),(20,19),(21,20),(22,21),(23,11),(23,22),(24,3),(24,4),(25,24),(25,23)] [(22,23)] (fun w9=>World.grownBy W5.drew w9 vb) (fun w9=>w9.ownsRow w0.heap.size 3 1 (.slice pl2 (Zba m).length cl2) (Zba m).length (Zmn (Zba m))) (Yxt w0.heap.size W5.heap.size (Zba m).length cl2 pl2 (Zmn (Zba m)) vb p bx k gP pv.length cP gF s.funcs.length cF fc.length cc pc q2 gC cC9) (fun w9=>∃ (w8:World),World.grownBy W5.drew w8 vb/\w8.ownsRow w0.heap.size 3 1 (.slice (some ⟨gC,0,none⟩) ((Zba m).length+1) cC9) ((Zba m).length+1) ((Zmn (Zba m))++[.int .i64 (fc.length:Int)])/\(some gC=vb\/∀ b,(Value.slice (some ⟨gC,0,none⟩) ((Zba m).length+1) cC9).ownBlock=some b->W5.drew.heap.size<=b)/\w9=w8.setCell ⟨gP,k,none⟩ (.slice (some ⟨gC,0,none⟩) ((Zba m).length+1) cC9)) l w1) (by kernel_rfl) rfl (Yt (by kernel_rfl)) (fun l a1 w1 h=>by obtain ⟨_,_,_,h,_⟩:=h;exact h.sz) ⟨0,0,0,Yc rfl,Zu (Zb _ _) (OWN.out)⟩ ?step ?fin
        case step =>
         intro l a1 w' i hJJ hi hin
         obtain ⟨q2,gC,cC9,hJ,hW⟩:=hJJ
         have hun:l.getD i false=false:=getD_both (mem_ready.1 hi).1
         have hns:=Xe hW hin hun
         have hg:=hW.g hns
         have l0:=Nat.lt_of_lt_of_le hlt hg.size
         have l1:=Nat.lt_of_lt_of_le hlb hg.size
         have l2:=Nat.lt_of_lt_of_le hgP hg.size
         have l3:=Nat.lt_of_lt_of_le hgF hg.size
         rcases Ztl i hin with rfl|rfl|rfl|rfl|rfl|rfl|rfl|rfl|rfl|rfl|rfl|rfl|rfl|rfl|rfl|rfl|rfl|rfl|rfl|rfl|rfl|rfl|rfl|rfl|rfl|rfl
         · have e0:a1.tmps.getD 0 undef = .pointer (some ⟨p,0,none⟩):=hJ.un 0 (fun i hi _=>Zkk 0 (by decide) i hi)
           exact Zc (Zd hJ hW hi hun (hne:=Zaf _ (by decide)) (hrun:=by simp [execOp,Act.eval,e0,go_sem,Zgm])) (fun a9 w9 h9=>⟨q2,gC,cC9,h9⟩)
         · have e153:a1.tmps.getD 153 undef = .pointer (some ⟨p,0,none⟩):=rjt hJ hi 0
           exact Zc (Zd hJ hW hi hun (hne:=Zaf _ (by decide)) (hrun:=by simp [execOp,Act.eval,e153,go_sem,Zgm])) (fun a9 w9 h9=>⟨q2,gC,cC9,h9⟩)
         · have e154:a1.tmps.getD 154 undef = .pointer (some ⟨p,0,none⟩):=rjt hJ hi 1
           exact Zc (Zd hJ hW hi hun (hne:=Zaf _ (by decide)) (hrun:=by simp [execOp,Act.eval,e154,go_sem,Zgm])) (fun a9 w9 h9=>⟨q2,gC,cC9,h9⟩)
         · have e155:a1.tmps.getD 155 undef = .pointer (some ⟨p,6,none⟩):=rjt hJ hi 2
           have h0:=hg.cell c6 HNE
           exact Zc (Zd hJ hW hi hun (hne:=Zaf _ (by decide)) (hrun:=by simp [execOp,Act.eval,e155,h0,l0,l1,l2,l3,go_sem,Zgm])) (fun a9 w9 h9=>⟨q2,gC,cC9,h9⟩)
         · have e7:a1.tmps.getD 7 undef = .int .i64 (k:Int):=hJ.un 7 (fun i hi _=>Zkk 7 (by decide) i hi)
           exact Zc (Zd hJ hW hi hun (hne:=Zaf _ (by decide)) (hrun:=by simp [execOp,Act.eval,e7,l0,l1,l2,l3,go_sem,Zgm])) (fun a9 w9 h9=>⟨q2,gC,cC9,h9⟩)
         · have e0:a1.tmps.getD 0 undef = .pointer (some ⟨p,0,none⟩):=hJ.un 0 (fun i hi _=>Zkk 0 (by decide) i hi)
           exact Zc (Zd hJ hW hi hun (hne:=Zaf _ (by decide)) (hrun:=by simp [execOp,Act.eval,e0,go_sem,Zgm])) (fun a9 w9 h9=>⟨q2,gC,cC9,h9⟩)
         · have e158:a1.tmps.getD 158 undef = .pointer (some ⟨p,0,none⟩):=rjt hJ hi 5
           exact Zc (Zd hJ hW hi hun (hne:=Zaf _ (by decide)) (hrun:=by simp [execOp,Act.eval,e158,go_sem,Zgm])) (fun a9 w9 h9=>⟨q2,gC,cC9,h9⟩)
         · have e159:a1.tmps.getD 159 undef = .pointer (some ⟨p,0,none⟩):=rjt hJ hi 6
           exact Zc (Zd hJ hW hi hun (hne:=Zaf _ (by decide)) (hrun:=by simp [execOp,Act.eval,e159,go_sem,Zgm])) (fun a9 w9 h9=>⟨q2,gC,cC9,h9⟩)
         · have e160:a1.tmps.getD 160 undef = .pointer (some ⟨p,6,none⟩):=rjt hJ hi 7
           have h0:=hg.cell c6 HNE
           exact Zc (Zd hJ hW hi hun (hne:=Zaf _ (by decide)) (hrun:=by simp [execOp,Act.eval,e160,h0,l0,l1,l2,l3,go_sem,Zgm])) (fun a9 w9 h9=>⟨q2,gC,cC9,h9⟩)
         · have e7:a1.tmps.getD 7 undef = .int .i64 (k:Int):=hJ.un 7 (fun i hi _=>Zkk 7 (by decide) i hi)
           exact Zc (Zd hJ hW hi hun (hne:=Zaf _ (by decide)) (hrun:=by simp [execOp,Act.eval,e7,l0,l1,l2,l3,go_sem,Zgm])) (fun a9 w9 h9=>⟨q2,gC,cC9,h9⟩)
         · have e161:a1.tmps.getD 161 undef = .slice (some ⟨gP,0,none⟩) pv.length cP:=rjt hJ hi 8
           have e162:a1.tmps.getD 162 undef = .int .i64 (k:Int):=rjt hJ hi 9
           exact Zc (Zd hJ hW hi hun (hne:=Zaf _ (by decide)) (hrun:=by simp [execOp,Act.eval,e161,e162,l0,l1,l2,l3,go_sem,Zgm] <;> (intros;omega))) (fun a9 w9 h9=>⟨q2,gC,cC9,h9⟩)
         · have e163:a1.tmps.getD 163 undef = .pointer (some ⟨gP,k,none⟩):=rjt hJ hi 10
           have h0:=hg.cell xp HNP
           exact Zc (Zd hJ hW hi hun (hne:=Zaf _ (by decide)) (hrun:=by simp [execOp,Act.eval,e163,h0,l0,l1,l2,l3,go_sem,Zgm])) (fun a9 w9 h9=>⟨q2,gC,cC9,h9⟩)
         · have e0:a1.tmps.getD 0 undef = .pointer (some ⟨p,0,none⟩):=hJ.un 0 (fun i hi _=>Zkk 0 (by decide) i hi)
           exact Zc (Zd hJ hW hi hun (hne:=Zaf _ (by decide)) (hrun:=by simp [execOp,Act.eval,e0,go_sem,Zgm])) (fun a9 w9 h9=>⟨q2,gC,cC9,h9⟩)
         · have e165:a1.tmps.getD 165 undef = .pointer (some ⟨p,0,none⟩):=rjt hJ hi 12
           exact Zc (Zd hJ hW hi hun (hne:=Zaf _ (by decide)) (hrun:=by simp [execOp,Act.eval,e165,go_sem,Zgm])) (fun a9 w9 h9=>⟨q2,gC,cC9,h9⟩)
         · have e166:a1.tmps.getD 166 undef = .pointer (some ⟨p,0,none⟩):=rjt hJ hi 13
           exact Zc (Zd hJ hW hi hun (hne:=Zaf _ (by decide)) (hrun:=by simp [execOp,Act.eval,e166,go_sem,Zgm])) (fun a9 w9 h9=>⟨q2,gC,cC9,h9⟩)
         · have e167:a1.tmps.getD 167 undef = .pointer (some ⟨p,0,none⟩):=rjt hJ hi 14
           exact Zc (Zd hJ hW hi hun (hne:=Zaf _ (by decide)) (hrun:=by simp [execOp,Act.eval,e167,go_sem,Zgm])) (fun a9 w9 h9=>⟨q2,gC,cC9,h9⟩)
         · have e168:a1.tmps.getD 168 undef = .pointer (some ⟨p,2,none⟩):=rjt hJ hi 15
           have h0:=hg.cell c2 HNE
           exact Zc (Zd hJ hW hi hun (hne:=Zaf _ (by decide)) (hrun:=by simp [execOp,Act.eval,e168,h0,l0,l1,l2,l3,go_sem,Zgm])) (fun a9 w9 h9=>⟨q2,gC,cC9,h9⟩)
         · have e7:a1.tmps.getD 7 undef = .int .i64 (k:Int):=hJ.un 7 (fun i hi _=>Zkk 7 (by decide) i hi)
           exact Zc (Zd hJ hW hi hun (hne:=Zaf _ (by decide)) (hrun:=by simp [execOp,Act.eval,e7,l0,l1,l2,l3,go_sem,Zgm])) (fun a9 w9 h9=>⟨q2,gC,cC9,h9⟩)
         · have e169:a1.tmps.getD 169 undef = .slice (some ⟨gF,0,none⟩) s.funcs.length cF:=rjt hJ hi 16
           have e170:a1.tmps.getD 170 undef = .int .i64 (k:Int):=rjt hJ hi 17
           exact Zc (Zd hJ hW hi hun (hne:=Zaf _ (by decide)) (hrun:=by simp [execOp,Act.eval,e169,e170,l0,l1,l2,l3,go_sem,Zgm] <;> (intros;omega))) (fun a9 w9 h9=>⟨q2,gC,cC9,h9⟩)
         · have e171:a1.tmps.getD 171 undef = .pointer (some ⟨gF,k*4,none⟩):=rjt hJ hi 18
           exact Zc (Zd hJ hW hi hun (hne:=Zaf _ (by decide)) (hrun:=by simp [execOp,Act.eval,e171,go_sem,Zgm])) (fun a9 w9 h9=>⟨q2,gC,cC9,h9⟩)
         · have e172:a1.tmps.getD 172 undef = .pointer (some ⟨gF,k*4+3,none⟩):=rjt hJ hi 19
           have h0:=hg.cell xc HNF
           exact Zc (Zd hJ hW hi hun (hne:=Zaf _ (by decide)) (hrun:=by simp [execOp,Act.eval,e172,h0,l0,l1,l2,l3,go_sem,Zgm])) (fun a9 w9 h9=>⟨q2,gC,cC9,h9⟩)
         · have e173:a1.tmps.getD 173 undef = .slice pc fc.length cc:=rjt hJ hi 20
           exact Zc (Zd hJ hW hi hun (hne:=Zaf _ (by decide)) (hrun:=by simp [execOp,resolve,invoke,builtin,Act.eval,e173,l0,l1,l2,l3,go_sem,Zgm])) (fun a9 w9 h9=>⟨q2,gC,cC9,h9⟩)
         · have e174:a1.tmps.getD 174 undef = .int .i64 (fc.length:Int):=rjt hJ hi 21
           have f174:=e174
           rw [Array.getD_eq_getD_getElem?] at f174
           refine Zt (v:=Zgm w0.heap.size W5.heap.size (Zba m).length cl2 pl2 (Zmn (Zba m)) vb p bx k gP pv.length cP gF s.funcs.length cF fc.length cc pc w'.heap.size gC cC9 22) (w':=w'.alloc (.cells #[.int .i64 (fc.length:Int)] 3)) rfl (by rfl) (by simp [execOp,Act.eval,e174,f174,Yvl,Result.andThen,Zgm]) ⟨w'.heap.size,gC,cC9,?_,Zo hW (by decide) hun (by decide) (Zg _ hi (by kernel_rfl)) (Za hg (Ga _ _ _)) (fun hne0 hun0 hB0=>hB0.alloc _) (fun j hj hne hl hcu hF => ?_) (heap_alloc_new w' _)⟩
           · exact Yg (val:=Zgm w0.heap.size W5.heap.size (Zba m).length cl2 pl2 (Zmn (Zba m)) vb p bx k gP pv.length cP gF s.funcs.length cF fc.length cc pc w'.heap.size gC cC9) (Yj hJ (Yqk hW.cl hun)) (by decide) (by decide) (Zaf _ (by decide))
           · rcases Ztl j hj with rfl|rfl|rfl|rfl|rfl|rfl|rfl|rfl|rfl|rfl|rfl|rfl|rfl|rfl|rfl|rfl|rfl|rfl|rfl|rfl|rfl|rfl|rfl|rfl|rfl|rfl <;> first|exact True.intro|exact absurd rfl hne|exact Zk (hW.cl (23,22) (by decide) (hl)) hun
         · have e164:a1.tmps.getD 164 undef = .slice pl2 (Zba m).length cl2:=rjt hJ hi 11
           have e175:a1.tmps.getD 175 undef = .slice (some ⟨q2,0,none⟩) 1 1:=rjt hJ hi 22
           have FB:=hW.f hns 22 (by decide) (Zq hi 22 (by kernel_rfl)) (Jg (c:=23) (by decide) hun)
           have own:=hW.u hun
           obtain ⟨v8,w8,hap,hown,hgr,-,hat⟩:=run_append_own_at (P:=Tryz.prog) w' w0.heap.size 93 93 3 ni (.int .i64 0) 1 8 Ynd ni0 ni1 ni2 ni3 rfl (by decide) _ (Zba m).length (Zmn (Zba m)) own ⟨q2,0,none⟩ 1 1 [.int .i64 (fc.length:Int)] rfl (Zbj FB) (Yss _) (by unfold maxLen;omega) (by omega) (Nat.le_trans hE hg.size)
           rw [hvb] at hgr hat
           obtain ⟨gC2,cC92,hv⟩:=Js hown
           subst hv
           have hgs:=hg.size
           have hat2:some gC2=vb\/W5.heap.size<=gC2:=hat.imp id (fun e=>by injection e with e;simp only at e;first|omega|(rw [e];exact hgs))
           refine Zt (v:=Zgm w0.heap.size W5.heap.size (Zba m).length cl2 pl2 (Zmn (Zba m)) vb p bx k gP pv.length cP gF s.funcs.length cF fc.length cc pc q2 gC2 cC92 23) (w':=w8) rfl (by rfl) (by simp [execOp,resolve,invoke,builtin,Act.eval,e164,e175,hap,Result.andThen,Zgm]) ⟨q2,gC2,cC92,?_,Zo hW (by decide) hun (by decide) (Zg _ hi (by kernel_rfl)) (Za hg hgr) (fun hne0 hun0 hB0=>absurd rfl hne0) (fun j hj hne hl hcu hF => ?_) (⟨hown,hat2⟩)⟩
           · exact Yg (val:=Zgm w0.heap.size W5.heap.size (Zba m).length cl2 pl2 (Zmn (Zba m)) vb p bx k gP pv.length cP gF s.funcs.length cF fc.length cc pc q2 gC2 cC92) (Yj hJ (Yqj hW.cl hun)) (by decide) (by decide) (Zaf _ (by decide))
           · rcases Ztl j hj with rfl|rfl|rfl|rfl|rfl|rfl|rfl|rfl|rfl|rfl|rfl|rfl|rfl|rfl|rfl|rfl|rfl|rfl|rfl|rfl|rfl|rfl|rfl|rfl|rfl|rfl <;> first|exact True.intro|exact absurd rfl (hcu (22,23) (by decide) rfl).1|exact absurd rfl hne
         · have e156:a1.tmps.getD 156 undef = .slice (some ⟨gP,0,none⟩) pv.length cP:=rjt hJ hi 3
           have e157:a1.tmps.getD 157 undef = .int .i64 (k:Int):=rjt hJ hi 4
           exact Zc (Zd hJ hW hi hun (hne:=Zaf _ (by decide)) (hrun:=by simp [execOp,Act.eval,e156,e157,l0,l1,l2,l3,go_sem,Zgm] <;> (intros;omega))) (fun a9 w9 h9=>⟨q2,gC,cC9,h9⟩)
         · have e177:a1.tmps.getD 177 undef = .pointer (some ⟨gP,k,none⟩):=rjt hJ hi 24
           have e176:a1.tmps.getD 176 undef = .slice (some ⟨gC,0,none⟩) ((Zba m).length+1) cC9:=rjt hJ hi 23
           have F23:=hW.f hns 23 (by decide) (Zq hi 23 (by kernel_rfl)) (Zat (by decide))
           have k1:=hg.cell xp HNP
           have bx2:=hg.block gP hgP HNP
           have j1:w'.frozen? ⟨gP,k,none⟩=false:=(World.frozen?_of_block bx2).trans zp
           have lb2:=Nat.lt_of_lt_of_le hgP hg.size
           have O7:w'.ownsRow w0.heap.size 3 1 (.slice (some ⟨gC,0,none⟩) ((Zba m).length+1) cC9) ((Zba m).length+1) ((Zmn (Zba m))++[.int .i64 (fc.length:Int)]):=F23.1
           have L7:some gC=vb\/W5.heap.size<=gC:=F23.2
           have hall:∀ j,j<26->j≠25->l.getD j false=true:=Jp hi hW.cl (by kernel_rfl)
           exact Zc (Jo (WS:=fun l9 w9=>Zas 25 26 23 [(1,0),(2,1),(3,2),(6,5),(7,6),(8,7),(10,8),(10,9),(11,10),(13,12),(14,13),(15,14),(16,15),(18,16),(18,17),(19,18),(20,19),(21,20),(22,21),(23,11),(23,22),(24,3),(24,4),(25,24),(25,23)] [(22,23)] (fun w9=>World.grownBy W5.drew w9 vb) (fun w9=>w9.ownsRow w0.heap.size 3 1 (.slice pl2 (Zba m).length cl2) (Zba m).length (Zmn (Zba m))) (Yxt w0.heap.size W5.heap.size (Zba m).length cl2 pl2 (Zmn (Zba m)) vb p bx k gP pv.length cP gF s.funcs.length cF fc.length cc pc q2 gC cC9) (fun w9=>∃ (w8:World),World.grownBy W5.drew w8 vb/\w8.ownsRow w0.heap.size 3 1 (.slice (some ⟨gC,0,none⟩) ((Zba m).length+1) cC9) ((Zba m).length+1) ((Zmn (Zba m))++[.int .i64 (fc.length:Int)])/\(some gC=vb\/∀ b,(Value.slice (some ⟨gC,0,none⟩) ((Zba m).length+1) cC9).ownBlock=some b->W5.drew.heap.size<=b)/\w9=w8.setCell ⟨gP,k,none⟩ (.slice (some ⟨gC,0,none⟩) ((Zba m).length+1) cC9)) l9 w9) hJ rfl rfl rfl (by decide) (by decide) (w':=w'.setCell ⟨gP,k,none⟩ (.slice (some ⟨gC,0,none⟩) ((Zba m).length+1) cC9)) (by simp [execOp,Act.eval,e177,e176,k1,j1,lb2,go_sem]) (Xa hW (by decide) (by decide) hall (Zg _ hi (by kernel_rfl)) (⟨w',hg,O7,L7.imp id (fun h7 b hb7=>by injection hb7 with hb7;simp only at hb7;subst hb7;exact h7),rfl⟩))) (fun a9 w9 h9=>⟨q2,gC,cC9,h9⟩)
        case fin =>
         intro l9 a1 w9 hJJ hl9
         obtain ⟨q2,gC,cC9,hJ,hW⟩:=hJJ
         have hq:=hW.q (hl9 25 (by decide))
         have hput:=Ys hJ rfl hl9 (fun i j h1 h2 h3=>Zaf j h2 i h1 h3)
         subst hput
         clear hJ hW hl9
         obtain ⟨w8,q1,q4,q5,rfl⟩:=hq
         (try refine hK26 _ _ ?_)
         simp only [Ja,tfB,Zgm,Act.put,List.setIfInBounds_toArray,List.set_cons_zero,List.set_cons_succ]
         have LR8:=AD.out.ins.prow.kept q1 ((Zh AD.out.ins.prow ORD (by decide)).imp id (fun h=>by rw [hvb] at h;exact h))
         have TX8:=(TX5.out.kept (Ze (Zb W5 none)) (Yw TX5.out)).kept q1 HNX
         have TX9:=TX8.kept (Zm w8 gP k (.slice (some ⟨gC,0,none⟩) ((Zba m).length+1) cC9)) (Zh TX8 LR8 (by decide))
         have M:=Ylk (t:=(fc.length:Int)) AD.out hvp (by simp [rsL,hkL]) q4 (by rw [hvb];exact q1) (by rw [hvb];exact q5)
         rw [show ({ ({ rsL s k m with labs:=(rsL s k m).labs.set k (Jc m++[t]) }:RS) with plcs:=(rsL s k m).plcs.set k (Zba m++[(fc.length:Int)]) }:RS)=rsL s k (m++[(t,fc.length)]) from Ysk] at M
         have LM:=Zld (Zld LD.out ORD (by decide) (by rw [hvb];exact q1)) LR8 (by decide) (Zm w8 gP k (.slice (some ⟨gC,0,none⟩) ((Zba m).length+1) cC9))
         have N:=Hq (show LbI w0 _ p bx k fc.length (j+1) s m0 (m++[(t,fc.length)]) lb _ lc xo xa xw pD cD gF cF gL lv.length cL gP pv.length cP vN vW cv _ _ from ⟨HA2.out,by rw [List.length_append];simp only [List.length_singleton];omega,M,LM,TX9,AP5.out,by simp,by simp⟩)
         clear q1 q4 q5 LR8 TX8 TX9 ORD M LM
         clear A LB xp xc zp hgP hgF HNP HNF HNX
         clear c0 c1 c2 c3 c4 c5 c6 c7 z0 z1 z2 z3 z4 z5 z6 z7 hlt d0 d1 d2 d3 d4 d5 d6 d7 d8 d9 d10 dz hlb
         clear HNE HNB OWN hvb ni0 ni1 ni2 ni3 AD LD
         try clear K26
         conv=>arg 2;whnf
         go_wp2
         exact ⟨⟨j+1,_,_,_,by go_num,by omega,N.out⟩,by simp [intOf];omega⟩
  · have hje:j=lb.length:=by omega
    subst hje
    have HRS:R=some m:=by rw [<- HR.out,HI.out.ad,List.drop_length];rfl
    subst HRS
    obtain ⟨c0,c1,c2,c3,c4,c5,c6,c7,z0,z1,z2,z3,z4,z5,z6,z7,hlt⟩:=Zbn (show RdB wr p s.mem (.slice pD s.data.length cD) (.slice (some ⟨gF,0,none⟩) s.funcs.length cF) s.memSet vN (.slice (some ⟨gL,0,none⟩) lv.length cL) (.slice (some ⟨gP,0,none⟩) pv.length cP) vW from HI.out.at'.box)
    obtain ⟨d0,d1,d2,d3,d4,d5,d6,d7,d8,d9,d10,dz,hlb⟩:=Zr HI.out.ln
    have A:=Hq HI.out.at'
    have LB:=Hq HI.out.ln
    by_cases hx:xo<0
    · have HX:=Hq (show (if xo<0 then rsL s k m else { rsL s k m with wants:=(if xw=[] then s.wants else s.wants++[⟨k,fc.length,line,xw,Zai xo == 3⟩]),funcs:=s.funcs.set k (fa,fl,fr,fc++[(xo,xa)]) })=rsL s k m by rw [if_pos hx])
      clear hjl
      go_wp2
      go_ret
      refine ⟨rfl,?_⟩
      show RDA w0 _ p (if xo<0 then _ else _)
      rw [HX.out]
      exact ⟨_,_,_,_,_,_,_,_,_,A.out⟩
    · have hx2:¬ xo<0:=hx
      by_cases hxw:xw=[]
      · have hw0:((bs xw).toList == [])=true:=by rw [hxw,Jk];rfl
        have HX:=Hq (show (if xo<0 then rsL s k m else { rsL s k m with wants:=(if xw=[] then s.wants else s.wants++[⟨k,fc.length,line,xw,Zai xo == 3⟩]),funcs:=s.funcs.set k (fa,fl,fr,fc++[(xo,xa)]) })={ rsL s k m with funcs:=s.funcs.set k (fa,fl,fr,fc++[(xo,xa)]) } by rw [if_neg hx,if_pos hxw];rfl)
        subst hxw
        clear hjl hx
        go_upto_region 31 with fail
        (try rename_i K31 hK31)
        clear c0 c1 c2 c3 c4 c5 c6 c7 z0 z1 z2 z3 z4 z5 z6 z7 hlt d0 d1 d2 d3 d4 d5 d6 d7 d8 d9 d10 dz hlb
        obtain ⟨gF',cF',eF',hgF,hcF⟩:=Zv A.out.ins.own.fr (show 0<s.funcs.length by omega)
        injection eF' with eF' eL9 eC9
        (try clear eL9)
        (try clear eC9)
        injection eF' with eF'
        injection eF' with eF' _
        subst eF'
        have xc:wr.cell? ⟨gF,k*4+3,none⟩=some (.slice pc fc.length cc):=hcF _ _ (Zad s.funcs cv k _ _ hfk hv).2.2.2 (show k*4+3<s.funcs.length*4 by omega)
        have zc:wr.frozen? ⟨gF,k*4+3,none⟩=false:=Zbe A.out.ins.own.fr _
        have OR:wr.ownsRow w0.heap.size 58 2 (.slice pc fc.length cc) fc.length (Xh fc):=A.out.ins.own.each k _ _ hfk hv
        obtain ⟨c0,c1,c2,c3,c4,c5,c6,c7,z0,z1,z2,z3,z4,z5,z6,z7,hlt⟩:=Zbn (show RdB wr p s.mem (.slice pD s.data.length cD) (.slice (some ⟨gF,0,none⟩) s.funcs.length cF) s.memSet vN (.slice (some ⟨gL,0,none⟩) lv.length cL) (.slice (some ⟨gP,0,none⟩) pv.length cP) vW from A.out.box)
        obtain ⟨d0,d1,d2,d3,d4,d5,d6,d7,d8,d9,d10,dz,hlb⟩:=Zr LB.out
        have HNE:some p≠(Value.slice pc fc.length cc).ownBlock:=fun e=>Zn OR A.out.box (by decide) e.symm
        have HNB:some bx≠(Value.slice pc fc.length cc).ownBlock:=fun e=>Zn OR LB.out (by decide) e.symm
        have HNF:some gF≠(Value.slice pc fc.length cc).ownBlock:=fun e=>(Zh A.out.ins.own.fr OR (by decide)).elim (fun q=>by cases q) (fun q=>q e)
        have hE:=A.out.gr.size
        have AD:=Hq (Zs A.out (Ze (Zb wr none)))
        have LD:=Hq (Yp LB.out (Ze (Zb wr none)) (by simp))
        have ORD:=OR.kept (Ze (Zb wr none)) (Yw OR)
        have OWN:=Hq ORD
        obtain ⟨vb,hvb⟩:∃ vb,(Value.slice pc fc.length cc).ownBlock=vb:=⟨_,rfl⟩
        rw [hvb] at HNE HNB HNF
        obtain ⟨ni,ni0,ni1,ni2,ni3⟩:=info_parts Zlg
        clear OR ORD hcF
        refine Yd (n:=25) (J:=fun a0 l a1 w1=>∃ (q2:Nat) (gC:Nat) (cC9:Nat),RJ a0 236 25 tfD (Zbp w0.heap.size wr.heap.size fc.length cc pc (Xh fc) vb p bx k gF s.funcs.length cF xo xa q2 gC cC9) l a1/\Zas 24 25 21 [(1,0),(2,1),(3,2),(4,3),(7,6),(8,7),(9,8),(10,9),(12,10),(12,11),(13,12),(14,13),(16,15),(18,17),(19,16),(19,18),(20,19),(21,14),(21,20),(22,4),(22,5),(23,22),(24,23),(24,21)] [(20,21)] (fun w9=>World.grownBy wr.drew w9 vb) (fun w9=>w9.ownsRow w0.heap.size 58 2 (.slice pc fc.length cc) fc.length (Xh fc)) (Ywh w0.heap.size wr.heap.size fc.length cc pc (Xh fc) vb p bx k gF s.funcs.length cF xo xa q2 gC cC9) (fun w9=>∃ (w8:World),World.grownBy wr.drew w8 vb/\w8.ownsRow w0.heap.size 58 2 (.slice (some ⟨gC,0,none⟩) (fc.length+1) cC9) (fc.length+1) ((Xh fc)++[.int .i64 xo,.int .i64 xa])/\(some gC=vb\/∀ b,(Value.slice (some ⟨gC,0,none⟩) (fc.length+1) cC9).ownBlock=some b->wr.drew.heap.size<=b)/\w9=w8.setCell ⟨gF,k*4+3,none⟩ (.slice (some ⟨gC,0,none⟩) (fc.length+1) cC9)) l w1) (by kernel_rfl) rfl (Yt (by kernel_rfl)) (fun l a1 w1 h=>by obtain ⟨_,_,_,h,_⟩:=h;exact h.sz) ⟨0,0,0,Yc rfl,Zu (Zb _ _) (OWN.out)⟩ ?step ?fin
        case step =>
         intro l a1 w' i hJJ hi hin
         obtain ⟨q2,gC,cC9,hJ,hW⟩:=hJJ
         have hun:l.getD i false=false:=getD_both (mem_ready.1 hi).1
         have hns:=Xe hW hin hun
         have hg:=hW.g hns
         have l0:=Nat.lt_of_lt_of_le hlt hg.size
         have l1:=Nat.lt_of_lt_of_le hlb hg.size
         have l3:=Nat.lt_of_lt_of_le hgF hg.size
         rcases Zlw i hin with rfl|rfl|rfl|rfl|rfl|rfl|rfl|rfl|rfl|rfl|rfl|rfl|rfl|rfl|rfl|rfl|rfl|rfl|rfl|rfl|rfl|rfl|rfl|rfl|rfl
         · have e0:a1.tmps.getD 0 undef = .pointer (some ⟨p,0,none⟩):=hJ.un 0 (fun i hi _=>Zdf 0 (by decide) i hi)
           exact Zc (Zd hJ hW hi hun (hne:=Yr _ (by decide)) (hrun:=by simp [execOp,Act.eval,e0,go_sem,Zbp])) (fun a9 w9 h9=>⟨q2,gC,cC9,h9⟩)
         · have e212:a1.tmps.getD 212 undef = .pointer (some ⟨p,0,none⟩):=rjt hJ hi 0
           exact Zc (Zd hJ hW hi hun (hne:=Yr _ (by decide)) (hrun:=by simp [execOp,Act.eval,e212,go_sem,Zbp])) (fun a9 w9 h9=>⟨q2,gC,cC9,h9⟩)
         · have e213:a1.tmps.getD 213 undef = .pointer (some ⟨p,0,none⟩):=rjt hJ hi 1
           exact Zc (Zd hJ hW hi hun (hne:=Yr _ (by decide)) (hrun:=by simp [execOp,Act.eval,e213,go_sem,Zbp])) (fun a9 w9 h9=>⟨q2,gC,cC9,h9⟩)
         · have e214:a1.tmps.getD 214 undef = .pointer (some ⟨p,0,none⟩):=rjt hJ hi 2
           exact Zc (Zd hJ hW hi hun (hne:=Yr _ (by decide)) (hrun:=by simp [execOp,Act.eval,e214,go_sem,Zbp])) (fun a9 w9 h9=>⟨q2,gC,cC9,h9⟩)
         · have e215:a1.tmps.getD 215 undef = .pointer (some ⟨p,2,none⟩):=rjt hJ hi 3
           have h0:=hg.cell c2 HNE
           exact Zc (Zd hJ hW hi hun (hne:=Yr _ (by decide)) (hrun:=by simp [execOp,Act.eval,e215,h0,l0,l1,l3,go_sem,Zbp])) (fun a9 w9 h9=>⟨q2,gC,cC9,h9⟩)
         · have e7:a1.tmps.getD 7 undef = .int .i64 (k:Int):=hJ.un 7 (fun i hi _=>Zdf 7 (by decide) i hi)
           exact Zc (Zd hJ hW hi hun (hne:=Yr _ (by decide)) (hrun:=by simp [execOp,Act.eval,e7,l0,l1,l3,go_sem,Zbp])) (fun a9 w9 h9=>⟨q2,gC,cC9,h9⟩)
         · have e0:a1.tmps.getD 0 undef = .pointer (some ⟨p,0,none⟩):=hJ.un 0 (fun i hi _=>Zdf 0 (by decide) i hi)
           exact Zc (Zd hJ hW hi hun (hne:=Yr _ (by decide)) (hrun:=by simp [execOp,Act.eval,e0,go_sem,Zbp])) (fun a9 w9 h9=>⟨q2,gC,cC9,h9⟩)
         · have e218:a1.tmps.getD 218 undef = .pointer (some ⟨p,0,none⟩):=rjt hJ hi 6
           exact Zc (Zd hJ hW hi hun (hne:=Yr _ (by decide)) (hrun:=by simp [execOp,Act.eval,e218,go_sem,Zbp])) (fun a9 w9 h9=>⟨q2,gC,cC9,h9⟩)
         · have e219:a1.tmps.getD 219 undef = .pointer (some ⟨p,0,none⟩):=rjt hJ hi 7
           exact Zc (Zd hJ hW hi hun (hne:=Yr _ (by decide)) (hrun:=by simp [execOp,Act.eval,e219,go_sem,Zbp])) (fun a9 w9 h9=>⟨q2,gC,cC9,h9⟩)
         · have e220:a1.tmps.getD 220 undef = .pointer (some ⟨p,0,none⟩):=rjt hJ hi 8
           exact Zc (Zd hJ hW hi hun (hne:=Yr _ (by decide)) (hrun:=by simp [execOp,Act.eval,e220,go_sem,Zbp])) (fun a9 w9 h9=>⟨q2,gC,cC9,h9⟩)
         · have e221:a1.tmps.getD 221 undef = .pointer (some ⟨p,2,none⟩):=rjt hJ hi 9
           have h0:=hg.cell c2 HNE
           exact Zc (Zd hJ hW hi hun (hne:=Yr _ (by decide)) (hrun:=by simp [execOp,Act.eval,e221,h0,l0,l1,l3,go_sem,Zbp])) (fun a9 w9 h9=>⟨q2,gC,cC9,h9⟩)
         · have e7:a1.tmps.getD 7 undef = .int .i64 (k:Int):=hJ.un 7 (fun i hi _=>Zdf 7 (by decide) i hi)
           exact Zc (Zd hJ hW hi hun (hne:=Yr _ (by decide)) (hrun:=by simp [execOp,Act.eval,e7,l0,l1,l3,go_sem,Zbp])) (fun a9 w9 h9=>⟨q2,gC,cC9,h9⟩)
         · have e222:a1.tmps.getD 222 undef = .slice (some ⟨gF,0,none⟩) s.funcs.length cF:=rjt hJ hi 10
           have e223:a1.tmps.getD 223 undef = .int .i64 (k:Int):=rjt hJ hi 11
           exact Zc (Zd hJ hW hi hun (hne:=Yr _ (by decide)) (hrun:=by simp [execOp,Act.eval,e222,e223,l0,l1,l3,go_sem,Zbp] <;> (intros;omega))) (fun a9 w9 h9=>⟨q2,gC,cC9,h9⟩)
         · have e224:a1.tmps.getD 224 undef = .pointer (some ⟨gF,k*4,none⟩):=rjt hJ hi 12
           exact Zc (Zd hJ hW hi hun (hne:=Yr _ (by decide)) (hrun:=by simp [execOp,Act.eval,e224,go_sem,Zbp])) (fun a9 w9 h9=>⟨q2,gC,cC9,h9⟩)
         · have e225:a1.tmps.getD 225 undef = .pointer (some ⟨gF,k*4+3,none⟩):=rjt hJ hi 13
           have h0:=hg.cell xc HNF
           exact Zc (Zd hJ hW hi hun (hne:=Yr _ (by decide)) (hrun:=by simp [execOp,Act.eval,e225,h0,l0,l1,l3,go_sem,Zbp])) (fun a9 w9 h9=>⟨q2,gC,cC9,h9⟩)
         · have e4:a1.tmps.getD 4 undef = .pointer (some ⟨bx,0,none⟩):=hJ.un 4 (fun i hi _=>Zdf 4 (by decide) i hi)
           exact Zc (Zd hJ hW hi hun (hne:=Yr _ (by decide)) (hrun:=by simp [execOp,Act.eval,e4,go_sem,Zbp])) (fun a9 w9 h9=>⟨q2,gC,cC9,h9⟩)
         · have e227:a1.tmps.getD 227 undef = .pointer (some ⟨bx,7,none⟩):=rjt hJ hi 15
           have h0:=hg.cell d7 HNB
           exact Zc (Zd hJ hW hi hun (hne:=Yr _ (by decide)) (hrun:=by simp [execOp,Act.eval,e227,h0,l0,l1,l3,go_sem,Zbp])) (fun a9 w9 h9=>⟨q2,gC,cC9,h9⟩)
         · have e4:a1.tmps.getD 4 undef = .pointer (some ⟨bx,0,none⟩):=hJ.un 4 (fun i hi _=>Zdf 4 (by decide) i hi)
           exact Zc (Zd hJ hW hi hun (hne:=Yr _ (by decide)) (hrun:=by simp [execOp,Act.eval,e4,go_sem,Zbp])) (fun a9 w9 h9=>⟨q2,gC,cC9,h9⟩)
         · have e229:a1.tmps.getD 229 undef = .pointer (some ⟨bx,8,none⟩):=rjt hJ hi 17
           have h0:=hg.cell d8 HNB
           exact Zc (Zd hJ hW hi hun (hne:=Yr _ (by decide)) (hrun:=by simp [execOp,Act.eval,e229,h0,l0,l1,l3,go_sem,Zbp])) (fun a9 w9 h9=>⟨q2,gC,cC9,h9⟩)
         · have e228:a1.tmps.getD 228 undef = .int .i64 xo:=rjt hJ hi 16
           have f228:=e228
           rw [Array.getD_eq_getD_getElem?] at f228
           have e230:a1.tmps.getD 230 undef = .int .i64 xa:=rjt hJ hi 18
           have f230:=e230
           rw [Array.getD_eq_getD_getElem?] at f230
           exact Zc (Zd hJ hW hi hun (hne:=Yr _ (by decide)) (hrun:=by simp [execOp,Act.eval,e228,f228,e230,f230,l0,l1,l3,go_sem,Zbp])) (fun a9 w9 h9=>⟨q2,gC,cC9,h9⟩)
         · have e231:a1.tmps.getD 231 undef = .agg #[.int .i64 xo,.int .i64 xa]:=rjt hJ hi 19
           have f231:=e231
           rw [Array.getD_eq_getD_getElem?] at f231
           refine Zt (v:=Zbp w0.heap.size wr.heap.size fc.length cc pc (Xh fc) vb p bx k gF s.funcs.length cF xo xa w'.heap.size gC cC9 20) (w':=w'.alloc (.cells #[.int .i64 xo,.int .i64 xa] 58)) rfl (by rfl) (by simp [execOp,Act.eval,e231,f231,Yij,Result.andThen,Zbp]) ⟨w'.heap.size,gC,cC9,?_,Zo hW (by decide) hun (by decide) (Zg _ hi (by kernel_rfl)) (Za hg (Ga _ _ _)) (fun hne0 hun0 hB0=>hB0.alloc _) (fun j hj hne hl hcu hF => ?_) (heap_alloc_new w' _)⟩
           · exact Yg (val:=Zbp w0.heap.size wr.heap.size fc.length cc pc (Xh fc) vb p bx k gF s.funcs.length cF xo xa w'.heap.size gC cC9) (Yj hJ (Yer hW.cl hun)) (by decide) (by decide) (Yr _ (by decide))
           · rcases Zlw j hj with rfl|rfl|rfl|rfl|rfl|rfl|rfl|rfl|rfl|rfl|rfl|rfl|rfl|rfl|rfl|rfl|rfl|rfl|rfl|rfl|rfl|rfl|rfl|rfl|rfl <;> first|exact True.intro|exact absurd rfl hne|exact Zk (hW.cl (21,20) (by decide) (hl)) hun
         · have e226:a1.tmps.getD 226 undef = .slice pc fc.length cc:=rjt hJ hi 14
           have e232:a1.tmps.getD 232 undef = .slice (some ⟨q2,0,none⟩) 1 1:=rjt hJ hi 20
           have FB:=hW.f hns 20 (by decide) (Zq hi 20 (by kernel_rfl)) (Jg (c:=21) (by decide) hun)
           have own:=hW.u hun
           obtain ⟨v8,w8,hap,hown,hgr,-,hat⟩:=run_append_own_at (P:=Tryz.prog) w' w0.heap.size 59 59 58 ni (.agg #[.int .i64 0,.int .i64 0]) 2 16 Zoh ni0 ni1 ni2 ni3 rfl (by decide) _ fc.length (Xh fc) own ⟨q2,0,none⟩ 1 1 [.int .i64 xo,.int .i64 xa] rfl (Zbj FB) (Yws _ _) (by unfold maxLen;omega) (by omega) (Nat.le_trans hE hg.size)
           rw [hvb] at hgr hat
           obtain ⟨gC2,cC92,hv⟩:=Js hown
           subst hv
           have hgs:=hg.size
           have hat2:some gC2=vb\/wr.heap.size<=gC2:=hat.imp id (fun e=>by injection e with e;simp only at e;first|omega|(rw [e];exact hgs))
           refine Zt (v:=Zbp w0.heap.size wr.heap.size fc.length cc pc (Xh fc) vb p bx k gF s.funcs.length cF xo xa q2 gC2 cC92 21) (w':=w8) rfl (by rfl) (by simp [execOp,resolve,invoke,builtin,Act.eval,e226,e232,hap,Result.andThen,Zbp]) ⟨q2,gC2,cC92,?_,Zo hW (by decide) hun (by decide) (Zg _ hi (by kernel_rfl)) (Za hg hgr) (fun hne0 hun0 hB0=>absurd rfl hne0) (fun j hj hne hl hcu hF => ?_) (⟨hown,hat2⟩)⟩
           · exact Yg (val:=Zbp w0.heap.size wr.heap.size fc.length cc pc (Xh fc) vb p bx k gF s.funcs.length cF xo xa q2 gC2 cC92) (Yj hJ (Yeq hW.cl hun)) (by decide) (by decide) (Yr _ (by decide))
           · rcases Zlw j hj with rfl|rfl|rfl|rfl|rfl|rfl|rfl|rfl|rfl|rfl|rfl|rfl|rfl|rfl|rfl|rfl|rfl|rfl|rfl|rfl|rfl|rfl|rfl|rfl|rfl <;> first|exact True.intro|exact absurd rfl (hcu (20,21) (by decide) rfl).1|exact absurd rfl hne
         · have e216:a1.tmps.getD 216 undef = .slice (some ⟨gF,0,none⟩) s.funcs.length cF:=rjt hJ hi 4
           have e217:a1.tmps.getD 217 undef = .int .i64 (k:Int):=rjt hJ hi 5
           exact Zc (Zd hJ hW hi hun (hne:=Yr _ (by decide)) (hrun:=by simp [execOp,Act.eval,e216,e217,l0,l1,l3,go_sem,Zbp] <;> (intros;omega))) (fun a9 w9 h9=>⟨q2,gC,cC9,h9⟩)
         · have e234:a1.tmps.getD 234 undef = .pointer (some ⟨gF,k*4,none⟩):=rjt hJ hi 22
           exact Zc (Zd hJ hW hi hun (hne:=Yr _ (by decide)) (hrun:=by simp [execOp,Act.eval,e234,go_sem,Zbp])) (fun a9 w9 h9=>⟨q2,gC,cC9,h9⟩)
         · have e235:a1.tmps.getD 235 undef = .pointer (some ⟨gF,k*4+3,none⟩):=rjt hJ hi 23
           have e233:a1.tmps.getD 233 undef = .slice (some ⟨gC,0,none⟩) (fc.length+1) cC9:=rjt hJ hi 21
           have F21:=hW.f hns 21 (by decide) (Zq hi 21 (by kernel_rfl)) (Zat (by decide))
           have k1:=hg.cell xc HNF
           have bx2:=hg.block gF hgF HNF
           have j1:w'.frozen? ⟨gF,k*4+3,none⟩=false:=(World.frozen?_of_block bx2).trans zc
           have lb2:=Nat.lt_of_lt_of_le hgF hg.size
           have O7:w'.ownsRow w0.heap.size 58 2 (.slice (some ⟨gC,0,none⟩) (fc.length+1) cC9) (fc.length+1) ((Xh fc)++[.int .i64 xo,.int .i64 xa]):=F21.1
           have L7:some gC=vb\/wr.heap.size<=gC:=F21.2
           have hall:∀ j,j<25->j≠24->l.getD j false=true:=Jp hi hW.cl (by kernel_rfl)
           exact Zc (Jo (WS:=fun l9 w9=>Zas 24 25 21 [(1,0),(2,1),(3,2),(4,3),(7,6),(8,7),(9,8),(10,9),(12,10),(12,11),(13,12),(14,13),(16,15),(18,17),(19,16),(19,18),(20,19),(21,14),(21,20),(22,4),(22,5),(23,22),(24,23),(24,21)] [(20,21)] (fun w9=>World.grownBy wr.drew w9 vb) (fun w9=>w9.ownsRow w0.heap.size 58 2 (.slice pc fc.length cc) fc.length (Xh fc)) (Ywh w0.heap.size wr.heap.size fc.length cc pc (Xh fc) vb p bx k gF s.funcs.length cF xo xa q2 gC cC9) (fun w9=>∃ (w8:World),World.grownBy wr.drew w8 vb/\w8.ownsRow w0.heap.size 58 2 (.slice (some ⟨gC,0,none⟩) (fc.length+1) cC9) (fc.length+1) ((Xh fc)++[.int .i64 xo,.int .i64 xa])/\(some gC=vb\/∀ b,(Value.slice (some ⟨gC,0,none⟩) (fc.length+1) cC9).ownBlock=some b->wr.drew.heap.size<=b)/\w9=w8.setCell ⟨gF,k*4+3,none⟩ (.slice (some ⟨gC,0,none⟩) (fc.length+1) cC9)) l9 w9) hJ rfl rfl rfl (by decide) (by decide) (w':=w'.setCell ⟨gF,k*4+3,none⟩ (.slice (some ⟨gC,0,none⟩) (fc.length+1) cC9)) (by simp [execOp,Act.eval,e235,e233,k1,j1,lb2,go_sem]) (Xa hW (by decide) (by decide) hall (Zg _ hi (by kernel_rfl)) (⟨w',hg,O7,L7.imp id (fun h7 b hb7=>by injection hb7 with hb7;simp only at hb7;subst hb7;exact h7),rfl⟩))) (fun a9 w9 h9=>⟨q2,gC,cC9,h9⟩)
        case fin =>
         intro l9 a1 w9 hJJ hl9
         obtain ⟨q2,gC,cC9,hJ,hW⟩:=hJJ
         have hq:=hW.q (hl9 24 (by decide))
         have hput:=Ys hJ rfl hl9 (fun i j h1 h2 h3=>Yr j h2 i h1 h3)
         subst hput
         clear hJ hW hl9
         obtain ⟨w8,q1,q4,q5,rfl⟩:=hq
         (try refine hK31 _ _ ?_)
         simp only [Ja,tfD,Zbp,Act.put,List.setIfInBounds_toArray,List.set_cons_zero,List.set_cons_succ]
         have M:=Hq (Ztx (f':=(fa,fl,fr,fc++[(xo,xa)])) AD.out hfk hv ⟨rfl,rfl,rfl⟩ (by rw [List.length_append,Zhd];exact q4) (by rw [hvb];exact q1) (by rw [hvb];exact q5))
         clear q1 q4 q5
         clear c0 c1 c2 c3 c4 c5 c6 c7 z0 z1 z2 z3 z4 z5 z6 z7 hlt d0 d1 d2 d3 d4 d5 d6 d7 d8 d9 d10 dz hlb
         clear HNE HNB OWN hvb ni0 ni1 ni2 ni3 AD LD
         try clear K31
         conv=>arg 2;whnf
         go_wp2
         go_ret
         have FIN:RDA w0 _ p ({ rsL s k m with funcs:=s.funcs.set k (fa,fl,fr,fc++[(xo,xa)]) }:RS):=⟨_,_,_,_,_,_,_,_,_,M.out⟩
         rw [<- HX.out] at FIN
         exact ⟨rfl,FIN⟩
      · have hw0:((bs xw).toList == [])=false:=by
         rw [Jk]
         cases xw with
         | nil=>exact absurd rfl hxw
         | cons a r=>rfl
        have HX:=Hq (show (if xo<0 then rsL s k m else { rsL s k m with wants:=(if xw=[] then s.wants else s.wants++[⟨k,fc.length,line,xw,Zai xo == 3⟩]),funcs:=s.funcs.set k (fa,fl,fr,fc++[(xo,xa)]) })={ rsL s k m with wants:=s.wants++[⟨k,fc.length,line,xw,Zai xo == 3⟩],funcs:=s.funcs.set k (fa,fl,fr,fc++[(xo,xa)]) } by rw [if_neg hx,if_neg hxw])
        clear hjl hx
        obtain ⟨kd,hkd⟩:∃ kd,Zai xo=kd:=⟨_,rfl⟩
        rw [hkd] at HX
        have RO:=Hq (fun W=>Zgq xo W)
        rw [hkd] at RO
        have HKD:=Hq hkd
        clear hkd hxw
        go_upto_region 30 with fail
        (try rename_i K30 hK30)
        clear c0 c1 c2 c3 c4 c5 c6 c7 z0 z1 z2 z3 z4 z5 z6 z7 hlt d0 d1 d2 d3 d4 d5 d6 d7 d8 d9 d10 dz hlb
        obtain ⟨gF',cF',eF',hgF,hcF⟩:=Zv A.out.ins.own.fr (show 0<s.funcs.length by omega)
        injection eF' with eF' eL9 eC9
        (try clear eL9)
        (try clear eC9)
        injection eF' with eF'
        injection eF' with eF' _
        subst eF'
        have xc:wr.cell? ⟨gF,k*4+3,none⟩=some (.slice pc fc.length cc):=hcF _ _ (Zad s.funcs cv k _ _ hfk hv).2.2.2 (show k*4+3<s.funcs.length*4 by omega)
        have OR:=A.out.ins.wrow
        replace OR:wr.ownsRow w0.heap.size 91 5 vW s.wants.length (wtV s.wants):=OR
        obtain ⟨pW,cW,eW⟩:=Zi OR
        subst eW
        obtain ⟨c0,c1,c2,c3,c4,c5,c6,c7,z0,z1,z2,z3,z4,z5,z6,z7,hlt⟩:=Zbn (show RdB wr p s.mem (.slice pD s.data.length cD) (.slice (some ⟨gF,0,none⟩) s.funcs.length cF) s.memSet vN (.slice (some ⟨gL,0,none⟩) lv.length cL) (.slice (some ⟨gP,0,none⟩) pv.length cP) (.slice pW s.wants.length cW) from A.out.box)
        obtain ⟨d0,d1,d2,d3,d4,d5,d6,d7,d8,d9,d10,dz,hlb⟩:=Zr LB.out
        have HNE:some p≠(Value.slice pW s.wants.length cW).ownBlock:=fun e=>Zn OR A.out.box (by decide) e.symm
        have HNB:some bx≠(Value.slice pW s.wants.length cW).ownBlock:=fun e=>Zn OR LB.out (by decide) e.symm
        have HNF:some gF≠(Value.slice pW s.wants.length cW).ownBlock:=fun e=>(Zh A.out.ins.own.fr OR (by decide)).elim (fun q=>by cases q) (fun q=>q e)
        have hE:=A.out.gr.size
        have AD:=Hq (Zs A.out (Ze (Zb wr none)))
        have LD:=Hq (Yp LB.out (Ze (Zb wr none)) (by simp))
        have ORD:=OR.kept (Ze (Zb wr none)) (Yw OR)
        have OWN:=Hq ORD
        obtain ⟨vb,hvb⟩:∃ vb,(Value.slice pW s.wants.length cW).ownBlock=vb:=⟨_,rfl⟩
        rw [hvb] at HNE HNB HNF
        obtain ⟨ni,ni0,ni1,ni2,ni3⟩:=info_parts Yej
        clear OR hcF
        refine Yd (n:=29) (J:=fun a0 l a1 w1=>∃ (q2:Nat) (gC:Nat) (cC9:Nat),RJ a0 236 29 tfC (Zfm w0.heap.size wr.heap.size s.wants.length cW pW (wtV s.wants) vb p bx k gF s.funcs.length cF fc.length cc line xo kd (bs xw) pc q2 gC cC9) l a1/\Zas 28 29 25 [(2,1),(3,2),(4,3),(7,6),(8,7),(9,8),(10,9),(12,10),(12,11),(13,12),(14,13),(15,14),(18,17),(20,19),(21,20),(22,21),(23,5),(23,15),(23,16),(23,18),(23,22),(24,23),(25,4),(25,24),(26,0),(27,26),(28,27),(28,25)] [(24,25)] (fun w9=>World.grownBy wr.drew w9 vb) (fun w9=>w9.ownsRow w0.heap.size 91 5 (.slice pW s.wants.length cW) s.wants.length (wtV s.wants)) (Yxs w0.heap.size wr.heap.size s.wants.length cW pW (wtV s.wants) vb p bx k gF s.funcs.length cF fc.length cc line xo kd (bs xw) pc q2 gC cC9) (fun w9=>∃ (w8:World),World.grownBy wr.drew w8 vb/\w8.ownsRow w0.heap.size 91 5 (.slice (some ⟨gC,0,none⟩) (s.wants.length+1) cC9) (s.wants.length+1) ((wtV s.wants)++[.int .i64 (k:Int),.int .i64 (fc.length:Int),.int .i64 line,.string (bs xw),.bool (kd == 3)])/\(some gC=vb\/∀ b,(Value.slice (some ⟨gC,0,none⟩) (s.wants.length+1) cC9).ownBlock=some b->wr.drew.heap.size<=b)/\w9=w8.setCell ⟨p,7,none⟩ (.slice (some ⟨gC,0,none⟩) (s.wants.length+1) cC9)) l w1) (by kernel_rfl) rfl (Yt (by kernel_rfl)) (fun l a1 w1 h=>by obtain ⟨_,_,_,h,_⟩:=h;exact h.sz) ⟨0,0,0,Yc rfl,Zu (Zb _ _) (OWN.out)⟩ ?step ?fin
        case step =>
         intro l a1 w' i hJJ hi hin
         obtain ⟨q2,gC,cC9,hJ,hW⟩:=hJJ
         have hun:l.getD i false=false:=getD_both (mem_ready.1 hi).1
         have hns:=Xe hW hin hun
         have hg:=hW.g hns
         have l0:=Nat.lt_of_lt_of_le hlt hg.size
         have l1:=Nat.lt_of_lt_of_le hlb hg.size
         have l3:=Nat.lt_of_lt_of_le hgF hg.size
         rcases Znf i hin with rfl|rfl|rfl|rfl|rfl|rfl|rfl|rfl|rfl|rfl|rfl|rfl|rfl|rfl|rfl|rfl|rfl|rfl|rfl|rfl|rfl|rfl|rfl|rfl|rfl|rfl|rfl|rfl|rfl
         · have e0:a1.tmps.getD 0 undef = .pointer (some ⟨p,0,none⟩):=hJ.un 0 (fun i hi _=>Zgl 0 (by decide) i hi)
           exact Zc (Zd hJ hW hi hun (hne:=Jq _ (by decide)) (hrun:=by simp [execOp,Act.eval,e0,go_sem,Zfm])) (fun a9 w9 h9=>⟨q2,gC,cC9,h9⟩)
         · have e0:a1.tmps.getD 0 undef = .pointer (some ⟨p,0,none⟩):=hJ.un 0 (fun i hi _=>Zgl 0 (by decide) i hi)
           exact Zc (Zd hJ hW hi hun (hne:=Jq _ (by decide)) (hrun:=by simp [execOp,Act.eval,e0,go_sem,Zfm])) (fun a9 w9 h9=>⟨q2,gC,cC9,h9⟩)
         · have e185:a1.tmps.getD 185 undef = .pointer (some ⟨p,0,none⟩):=rjt hJ hi 1
           exact Zc (Zd hJ hW hi hun (hne:=Jq _ (by decide)) (hrun:=by simp [execOp,Act.eval,e185,go_sem,Zfm])) (fun a9 w9 h9=>⟨q2,gC,cC9,h9⟩)
         · have e186:a1.tmps.getD 186 undef = .pointer (some ⟨p,0,none⟩):=rjt hJ hi 2
           exact Zc (Zd hJ hW hi hun (hne:=Jq _ (by decide)) (hrun:=by simp [execOp,Act.eval,e186,go_sem,Zfm])) (fun a9 w9 h9=>⟨q2,gC,cC9,h9⟩)
         · have e187:a1.tmps.getD 187 undef = .pointer (some ⟨p,7,none⟩):=rjt hJ hi 3
           have h0:=hg.cell c7 HNE
           exact Zc (Zd hJ hW hi hun (hne:=Jq _ (by decide)) (hrun:=by simp [execOp,Act.eval,e187,h0,l0,l1,l3,go_sem,Zfm])) (fun a9 w9 h9=>⟨q2,gC,cC9,h9⟩)
         · have e7:a1.tmps.getD 7 undef = .int .i64 (k:Int):=hJ.un 7 (fun i hi _=>Zgl 7 (by decide) i hi)
           exact Zc (Zd hJ hW hi hun (hne:=Jq _ (by decide)) (hrun:=by simp [execOp,Act.eval,e7,l0,l1,l3,go_sem,Zfm])) (fun a9 w9 h9=>⟨q2,gC,cC9,h9⟩)
         · have e0:a1.tmps.getD 0 undef = .pointer (some ⟨p,0,none⟩):=hJ.un 0 (fun i hi _=>Zgl 0 (by decide) i hi)
           exact Zc (Zd hJ hW hi hun (hne:=Jq _ (by decide)) (hrun:=by simp [execOp,Act.eval,e0,go_sem,Zfm])) (fun a9 w9 h9=>⟨q2,gC,cC9,h9⟩)
         · have e190:a1.tmps.getD 190 undef = .pointer (some ⟨p,0,none⟩):=rjt hJ hi 6
           exact Zc (Zd hJ hW hi hun (hne:=Jq _ (by decide)) (hrun:=by simp [execOp,Act.eval,e190,go_sem,Zfm])) (fun a9 w9 h9=>⟨q2,gC,cC9,h9⟩)
         · have e191:a1.tmps.getD 191 undef = .pointer (some ⟨p,0,none⟩):=rjt hJ hi 7
           exact Zc (Zd hJ hW hi hun (hne:=Jq _ (by decide)) (hrun:=by simp [execOp,Act.eval,e191,go_sem,Zfm])) (fun a9 w9 h9=>⟨q2,gC,cC9,h9⟩)
         · have e192:a1.tmps.getD 192 undef = .pointer (some ⟨p,0,none⟩):=rjt hJ hi 8
           exact Zc (Zd hJ hW hi hun (hne:=Jq _ (by decide)) (hrun:=by simp [execOp,Act.eval,e192,go_sem,Zfm])) (fun a9 w9 h9=>⟨q2,gC,cC9,h9⟩)
         · have e193:a1.tmps.getD 193 undef = .pointer (some ⟨p,2,none⟩):=rjt hJ hi 9
           have h0:=hg.cell c2 HNE
           exact Zc (Zd hJ hW hi hun (hne:=Jq _ (by decide)) (hrun:=by simp [execOp,Act.eval,e193,h0,l0,l1,l3,go_sem,Zfm])) (fun a9 w9 h9=>⟨q2,gC,cC9,h9⟩)
         · have e7:a1.tmps.getD 7 undef = .int .i64 (k:Int):=hJ.un 7 (fun i hi _=>Zgl 7 (by decide) i hi)
           exact Zc (Zd hJ hW hi hun (hne:=Jq _ (by decide)) (hrun:=by simp [execOp,Act.eval,e7,l0,l1,l3,go_sem,Zfm])) (fun a9 w9 h9=>⟨q2,gC,cC9,h9⟩)
         · have e194:a1.tmps.getD 194 undef = .slice (some ⟨gF,0,none⟩) s.funcs.length cF:=rjt hJ hi 10
           have e195:a1.tmps.getD 195 undef = .int .i64 (k:Int):=rjt hJ hi 11
           exact Zc (Zd hJ hW hi hun (hne:=Jq _ (by decide)) (hrun:=by simp [execOp,Act.eval,e194,e195,l0,l1,l3,go_sem,Zfm] <;> (intros;omega))) (fun a9 w9 h9=>⟨q2,gC,cC9,h9⟩)
         · have e196:a1.tmps.getD 196 undef = .pointer (some ⟨gF,k*4,none⟩):=rjt hJ hi 12
           exact Zc (Zd hJ hW hi hun (hne:=Jq _ (by decide)) (hrun:=by simp [execOp,Act.eval,e196,go_sem,Zfm])) (fun a9 w9 h9=>⟨q2,gC,cC9,h9⟩)
         · have e197:a1.tmps.getD 197 undef = .pointer (some ⟨gF,k*4+3,none⟩):=rjt hJ hi 13
           have h0:=hg.cell xc HNF
           exact Zc (Zd hJ hW hi hun (hne:=Jq _ (by decide)) (hrun:=by simp [execOp,Act.eval,e197,h0,l0,l1,l3,go_sem,Zfm])) (fun a9 w9 h9=>⟨q2,gC,cC9,h9⟩)
         · have e198:a1.tmps.getD 198 undef = .slice pc fc.length cc:=rjt hJ hi 14
           exact Zc (Zd hJ hW hi hun (hne:=Jq _ (by decide)) (hrun:=by simp [execOp,resolve,invoke,builtin,Act.eval,e198,l0,l1,l3,go_sem,Zfm])) (fun a9 w9 h9=>⟨q2,gC,cC9,h9⟩)
         · have e2:a1.tmps.getD 2 undef = .int .i64 line:=hJ.un 2 (fun i hi _=>Zgl 2 (by decide) i hi)
           exact Zc (Zd hJ hW hi hun (hne:=Jq _ (by decide)) (hrun:=by simp [execOp,Act.eval,e2,l0,l1,l3,go_sem,Zfm])) (fun a9 w9 h9=>⟨q2,gC,cC9,h9⟩)
         · have e4:a1.tmps.getD 4 undef = .pointer (some ⟨bx,0,none⟩):=hJ.un 4 (fun i hi _=>Zgl 4 (by decide) i hi)
           exact Zc (Zd hJ hW hi hun (hne:=Jq _ (by decide)) (hrun:=by simp [execOp,Act.eval,e4,go_sem,Zfm])) (fun a9 w9 h9=>⟨q2,gC,cC9,h9⟩)
         · have e201:a1.tmps.getD 201 undef = .pointer (some ⟨bx,9,none⟩):=rjt hJ hi 17
           have h0:=hg.cell d9 HNB
           exact Zc (Zd hJ hW hi hun (hne:=Jq _ (by decide)) (hrun:=by simp [execOp,Act.eval,e201,h0,l0,l1,l3,go_sem,Zfm])) (fun a9 w9 h9=>⟨q2,gC,cC9,h9⟩)
         · have e4:a1.tmps.getD 4 undef = .pointer (some ⟨bx,0,none⟩):=hJ.un 4 (fun i hi _=>Zgl 4 (by decide) i hi)
           exact Zc (Zd hJ hW hi hun (hne:=Jq _ (by decide)) (hrun:=by simp [execOp,Act.eval,e4,go_sem,Zfm])) (fun a9 w9 h9=>⟨q2,gC,cC9,h9⟩)
         · have e203:a1.tmps.getD 203 undef = .pointer (some ⟨bx,7,none⟩):=rjt hJ hi 19
           have h0:=hg.cell d7 HNB
           exact Zc (Zd hJ hW hi hun (hne:=Jq _ (by decide)) (hrun:=by simp [execOp,Act.eval,e203,h0,l0,l1,l3,go_sem,Zfm])) (fun a9 w9 h9=>⟨q2,gC,cC9,h9⟩)
         · have e204:a1.tmps.getD 204 undef = .int .i64 xo:=rjt hJ hi 20
           refine Ya rfl (by rfl) (by simp [execOp,resolve,invoke,Act.eval,e204,go_sem]) (Calls.mono (RO.out w') (fun e w2 he => ?_))
           obtain ⟨rfl,hw2⟩:=he
           subst hw2
           refine ⟨_,rfl,q2,gC,cC9,?_,Zo hW (by decide) hun (by decide) (Zg _ hi (by kernel_rfl)) (hg) (fun hne0 hun0 hB0=>hB0) (fun j hj hne hl hcu hF => ?_) (True.intro)⟩
           · exact Yg (val:=Zfm w0.heap.size wr.heap.size s.wants.length cW pW (wtV s.wants) vb p bx k gF s.funcs.length cF fc.length cc line xo kd (bs xw) pc q2 gC cC9) (Yj hJ (Yqi hW.cl hun)) (by decide) (by decide) (Jq _ (by decide))
           · rcases Znf j hj with rfl|rfl|rfl|rfl|rfl|rfl|rfl|rfl|rfl|rfl|rfl|rfl|rfl|rfl|rfl|rfl|rfl|rfl|rfl|rfl|rfl|rfl|rfl|rfl|rfl|rfl|rfl|rfl|rfl <;> first|exact True.intro|exact absurd rfl hne|exact Zk (hW.cl (22,21) (by decide) (hW.cl (23,22) (by decide) (hW.cl (24,23) (by decide) (hl)))) hun|exact Zk (hW.cl (22,21) (by decide) (hW.cl (23,22) (by decide) (hW.cl (24,23) (by decide) (hW.cl (25,24) (by decide) (hl))))) hun
         · have e205:a1.tmps.getD 205 undef = .int .i64 kd:=rjt hJ hi 21
           exact Zc (Zd hJ hW hi hun (hne:=Jq _ (by decide)) (hrun:=by simp [execOp,Act.eval,e205,l0,l1,l3,go_sem,Zfm])) (fun a9 w9 h9=>⟨q2,gC,cC9,h9⟩)
         · have e189:a1.tmps.getD 189 undef = .int .i64 (k:Int):=rjt hJ hi 5
           have f189:=e189
           rw [Array.getD_eq_getD_getElem?] at f189
           have e199:a1.tmps.getD 199 undef = .int .i64 fc.length:=rjt hJ hi 15
           have f199:=e199
           rw [Array.getD_eq_getD_getElem?] at f199
           have e200:a1.tmps.getD 200 undef = .int .i64 line:=rjt hJ hi 16
           have f200:=e200
           rw [Array.getD_eq_getD_getElem?] at f200
           have e202:a1.tmps.getD 202 undef = .string (bs xw):=rjt hJ hi 18
           have f202:=e202
           rw [Array.getD_eq_getD_getElem?] at f202
           have e206:a1.tmps.getD 206 undef = .bool (kd == 3):=rjt hJ hi 22
           have f206:=e206
           rw [Array.getD_eq_getD_getElem?] at f206
           exact Zc (Zd hJ hW hi hun (hne:=Jq _ (by decide)) (hrun:=by simp [execOp,Act.eval,e189,f189,e199,f199,e200,f200,e202,f202,e206,f206,l0,l1,l3,go_sem,Zfm])) (fun a9 w9 h9=>⟨q2,gC,cC9,h9⟩)
         · have e207:a1.tmps.getD 207 undef = .agg #[.int .i64 (k:Int),.int .i64 (fc.length:Int),.int .i64 line,.string (bs xw),.bool (kd == 3)]:=rjt hJ hi 23
           have f207:=e207
           rw [Array.getD_eq_getD_getElem?] at f207
           refine Zt (v:=Zfm w0.heap.size wr.heap.size s.wants.length cW pW (wtV s.wants) vb p bx k gF s.funcs.length cF fc.length cc line xo kd (bs xw) pc w'.heap.size gC cC9 24) (w':=w'.alloc (.cells #[.int .i64 (k:Int),.int .i64 (fc.length:Int),.int .i64 line,.string (bs xw),.bool (kd == 3)] 91)) rfl (by rfl) (by simp [execOp,Act.eval,e207,f207,Yvk,Result.andThen,Zfm]) ⟨w'.heap.size,gC,cC9,?_,Zo hW (by decide) hun (by decide) (Zg _ hi (by kernel_rfl)) (Za hg (Ga _ _ _)) (fun hne0 hun0 hB0=>hB0.alloc _) (fun j hj hne hl hcu hF => ?_) (heap_alloc_new w' _)⟩
           · exact Yg (val:=Zfm w0.heap.size wr.heap.size s.wants.length cW pW (wtV s.wants) vb p bx k gF s.funcs.length cF fc.length cc line xo kd (bs xw) pc w'.heap.size gC cC9) (Yj hJ (Yqh hW.cl hun)) (by decide) (by decide) (Jq _ (by decide))
           · rcases Znf j hj with rfl|rfl|rfl|rfl|rfl|rfl|rfl|rfl|rfl|rfl|rfl|rfl|rfl|rfl|rfl|rfl|rfl|rfl|rfl|rfl|rfl|rfl|rfl|rfl|rfl|rfl|rfl|rfl|rfl <;> first|exact True.intro|exact hF|exact absurd rfl hne|exact Zk (hW.cl (25,24) (by decide) (hl)) hun
         · have e188:a1.tmps.getD 188 undef = .slice pW s.wants.length cW:=rjt hJ hi 4
           have e208:a1.tmps.getD 208 undef = .slice (some ⟨q2,0,none⟩) 1 1:=rjt hJ hi 24
           have FB:=hW.f hns 24 (by decide) (Zq hi 24 (by kernel_rfl)) (Jg (c:=25) (by decide) hun)
           have own:=hW.u hun
           obtain ⟨v8,w8,hap,hown,hgr,-,hat⟩:=run_append_own_at (P:=Tryz.prog) w' w0.heap.size 81 81 91 ni (.agg #[.int .i64 0,.int .i64 0,.int .i64 0,.string ⟨#[]⟩,.bool false]) 5 48 Ykd ni0 ni1 ni2 ni3 rfl (by decide) _ s.wants.length (wtV s.wants) own ⟨q2,0,none⟩ 1 1 [.int .i64 (k:Int),.int .i64 (fc.length:Int),.int .i64 line,.string (bs xw),.bool (kd == 3)] rfl (Zbj FB) (Ytg _ _ _ _ _) (by unfold maxLen;omega) (by omega) (Nat.le_trans hE hg.size)
           rw [hvb] at hgr hat
           obtain ⟨gC2,cC92,hv⟩:=Js hown
           subst hv
           have hgs:=hg.size
           have hat2:some gC2=vb\/wr.heap.size<=gC2:=hat.imp id (fun e=>by injection e with e;simp only at e;first|omega|(rw [e];exact hgs))
           refine Zt (v:=Zfm w0.heap.size wr.heap.size s.wants.length cW pW (wtV s.wants) vb p bx k gF s.funcs.length cF fc.length cc line xo kd (bs xw) pc q2 gC2 cC92 25) (w':=w8) rfl (by rfl) (by simp [execOp,resolve,invoke,builtin,Act.eval,e188,e208,hap,Result.andThen,Zfm]) ⟨q2,gC2,cC92,?_,Zo hW (by decide) hun (by decide) (Zg _ hi (by kernel_rfl)) (Za hg hgr) (fun hne0 hun0 hB0=>absurd rfl hne0) (fun j hj hne hl hcu hF => ?_) (⟨hown,hat2⟩)⟩
           · exact Yg (val:=Zfm w0.heap.size wr.heap.size s.wants.length cW pW (wtV s.wants) vb p bx k gF s.funcs.length cF fc.length cc line xo kd (bs xw) pc q2 gC2 cC92) (Yj hJ (Yqg hW.cl hun)) (by decide) (by decide) (Jq _ (by decide))
           · rcases Znf j hj with rfl|rfl|rfl|rfl|rfl|rfl|rfl|rfl|rfl|rfl|rfl|rfl|rfl|rfl|rfl|rfl|rfl|rfl|rfl|rfl|rfl|rfl|rfl|rfl|rfl|rfl|rfl|rfl|rfl <;> first|exact True.intro|exact hF|exact absurd rfl (hcu (24,25) (by decide) rfl).1|exact absurd rfl hne
         · have e184:a1.tmps.getD 184 undef = .pointer (some ⟨p,0,none⟩):=rjt hJ hi 0
           exact Zc (Zd hJ hW hi hun (hne:=Jq _ (by decide)) (hrun:=by simp [execOp,Act.eval,e184,go_sem,Zfm])) (fun a9 w9 h9=>⟨q2,gC,cC9,h9⟩)
         · have e210:a1.tmps.getD 210 undef = .pointer (some ⟨p,0,none⟩):=rjt hJ hi 26
           exact Zc (Zd hJ hW hi hun (hne:=Jq _ (by decide)) (hrun:=by simp [execOp,Act.eval,e210,go_sem,Zfm])) (fun a9 w9 h9=>⟨q2,gC,cC9,h9⟩)
         · have e211:a1.tmps.getD 211 undef = .pointer (some ⟨p,7,none⟩):=rjt hJ hi 27
           have e209:a1.tmps.getD 209 undef = .slice (some ⟨gC,0,none⟩) (s.wants.length+1) cC9:=rjt hJ hi 25
           have F21:=hW.f hns 21 (by decide) (hW.cl (22,21) (by decide) (hW.cl (23,22) (by decide) (hW.cl (24,23) (by decide) (hW.cl (25,24) (by decide) (Zq hi 25 (by kernel_rfl)))))) (Zat (by decide))
           have F25:=hW.f hns 25 (by decide) (Zq hi 25 (by kernel_rfl)) (Zat (by decide))
           have k1:=hg.cell c7 HNE
           have bx2:=hg.block p hlt HNE
           have j1:w'.frozen? ⟨p,7,none⟩=false:=(World.frozen?_of_block bx2).trans z7
           have lb2:=Nat.lt_of_lt_of_le hlt hg.size
           have O7:w'.ownsRow w0.heap.size 91 5 (.slice (some ⟨gC,0,none⟩) (s.wants.length+1) cC9) (s.wants.length+1) ((wtV s.wants)++[.int .i64 (k:Int),.int .i64 (fc.length:Int),.int .i64 line,.string (bs xw),.bool (kd == 3)]):=F25.1
           have L7:some gC=vb\/wr.heap.size<=gC:=F25.2
           have hall:∀ j,j<29->j≠28->l.getD j false=true:=Jp hi hW.cl (by kernel_rfl)
           exact Zc (Jo (WS:=fun l9 w9=>Zas 28 29 25 [(2,1),(3,2),(4,3),(7,6),(8,7),(9,8),(10,9),(12,10),(12,11),(13,12),(14,13),(15,14),(18,17),(20,19),(21,20),(22,21),(23,5),(23,15),(23,16),(23,18),(23,22),(24,23),(25,4),(25,24),(26,0),(27,26),(28,27),(28,25)] [(24,25)] (fun w9=>World.grownBy wr.drew w9 vb) (fun w9=>w9.ownsRow w0.heap.size 91 5 (.slice pW s.wants.length cW) s.wants.length (wtV s.wants)) (Yxs w0.heap.size wr.heap.size s.wants.length cW pW (wtV s.wants) vb p bx k gF s.funcs.length cF fc.length cc line xo kd (bs xw) pc q2 gC cC9) (fun w9=>∃ (w8:World),World.grownBy wr.drew w8 vb/\w8.ownsRow w0.heap.size 91 5 (.slice (some ⟨gC,0,none⟩) (s.wants.length+1) cC9) (s.wants.length+1) ((wtV s.wants)++[.int .i64 (k:Int),.int .i64 (fc.length:Int),.int .i64 line,.string (bs xw),.bool (kd == 3)])/\(some gC=vb\/∀ b,(Value.slice (some ⟨gC,0,none⟩) (s.wants.length+1) cC9).ownBlock=some b->wr.drew.heap.size<=b)/\w9=w8.setCell ⟨p,7,none⟩ (.slice (some ⟨gC,0,none⟩) (s.wants.length+1) cC9)) l9 w9) hJ rfl rfl rfl (by decide) (by decide) (w':=w'.setCell ⟨p,7,none⟩ (.slice (some ⟨gC,0,none⟩) (s.wants.length+1) cC9)) (by simp [execOp,Act.eval,e211,e209,k1,j1,lb2,go_sem]) (Xa hW (by decide) (by decide) hall (Zg _ hi (by kernel_rfl)) (⟨w',hg,O7,L7.imp id (fun h7 b hb7=>by injection hb7 with hb7;simp only at hb7;subst hb7;exact h7),rfl⟩))) (fun a9 w9 h9=>⟨q2,gC,cC9,h9⟩)
        case fin =>
         intro l9 a1 w9 hJJ hl9
         obtain ⟨q2,gC,cC9,hJ,hW⟩:=hJJ
         have hq:=hW.q (hl9 28 (by decide))
         have hput:=Ys hJ rfl hl9 (fun i j h1 h2 h3=>Jq j h2 i h1 h3)
         subst hput
         clear hJ hW hl9
         obtain ⟨w8,q1,q4,q5,rfl⟩:=hq
         (try refine hK30 _ _ ?_)
         simp only [Ja,tfC,Zfm,Act.put,List.setIfInBounds_toArray,List.set_cons_zero,List.set_cons_succ]
         have M:=Hq (Yfz (x:=⟨k,fc.length,line,xw,kd == 3⟩) AD.out q4 (by rw [hvb];exact q1))
         have LM:=Hq (Yhk (Zld LD.out ORD (by decide) (by rw [hvb];exact q1)) (Zf AD.out.box q1 (fun e=>HNE e.symm)) (Zm w8 p 7 (.slice (some ⟨gC,0,none⟩) (s.wants.length+1) cC9)))
         clear q1 q4 q5 ORD
         generalize (Value.slice (some ⟨gC,0,none⟩) (s.wants.length+1) cC9)=vW2 at M LM ⊢
         generalize w8.setCell ⟨p,7,none⟩ vW2=W7 at M LM ⊢
         clear A LB xc hgF HNF RO
         have A:=M
         have LB:=LM
         clear M LM
         clear c0 c1 c2 c3 c4 c5 c6 c7 z0 z1 z2 z3 z4 z5 z6 z7 hlt d0 d1 d2 d3 d4 d5 d6 d7 d8 d9 d10 dz hlb
         clear HNE HNB OWN hvb ni0 ni1 ni2 ni3 AD LD
         try clear K30
         conv=>arg 2;whnf
         go_upto_region 31 with fail
         (try rename_i K31 hK31)
         obtain ⟨gF',cF',eF',hgF,hcF⟩:=Zv A.out.ins.own.fr (show 0<s.funcs.length by omega)
         injection eF' with eF' eL9 eC9
         (try clear eL9)
         (try clear eC9)
         injection eF' with eF'
         injection eF' with eF' _
         subst eF'
         have xc:W7.cell? ⟨gF,k*4+3,none⟩=some (.slice pc fc.length cc):=hcF _ _ (Zad s.funcs cv k _ _ hfk hv).2.2.2 (show k*4+3<s.funcs.length*4 by omega)
         have zc:W7.frozen? ⟨gF,k*4+3,none⟩=false:=Zbe A.out.ins.own.fr _
         have OR:W7.ownsRow w0.heap.size 58 2 (.slice pc fc.length cc) fc.length (Xh fc):=A.out.ins.own.each k _ _ hfk hv
         obtain ⟨c0,c1,c2,c3,c4,c5,c6,c7,z0,z1,z2,z3,z4,z5,z6,z7,hlt⟩:=Zbn (show RdB W7 p s.mem (.slice pD s.data.length cD) (.slice (some ⟨gF,0,none⟩) s.funcs.length cF) s.memSet vN (.slice (some ⟨gL,0,none⟩) lv.length cL) (.slice (some ⟨gP,0,none⟩) pv.length cP) vW2 from A.out.box)
         obtain ⟨d0,d1,d2,d3,d4,d5,d6,d7,d8,d9,d10,dz,hlb⟩:=Zr LB.out
         have HNE:some p≠(Value.slice pc fc.length cc).ownBlock:=fun e=>Zn OR A.out.box (by decide) e.symm
         have HNB:some bx≠(Value.slice pc fc.length cc).ownBlock:=fun e=>Zn OR LB.out (by decide) e.symm
         have HNF:some gF≠(Value.slice pc fc.length cc).ownBlock:=fun e=>(Zh A.out.ins.own.fr OR (by decide)).elim (fun q=>by cases q) (fun q=>q e)
         have hE:=A.out.gr.size
         have AD:=Hq (Zs A.out (Ze (Zb W7 none)))
         have LD:=Hq (Yp LB.out (Ze (Zb W7 none)) (by simp))
         have ORD:=OR.kept (Ze (Zb W7 none)) (Yw OR)
         have OWN:=Hq ORD
         obtain ⟨vb,hvb⟩:∃ vb,(Value.slice pc fc.length cc).ownBlock=vb:=⟨_,rfl⟩
         rw [hvb] at HNE HNB HNF
         obtain ⟨ni,ni0,ni1,ni2,ni3⟩:=info_parts Zlg
         clear OR ORD hcF
         refine Yd (n:=25) (J:=fun a0 l a1 w1=>∃ (q2:Nat) (gC:Nat) (cC9:Nat),RJ a0 236 25 tfD (Zbp w0.heap.size W7.heap.size fc.length cc pc (Xh fc) vb p bx k gF s.funcs.length cF xo xa q2 gC cC9) l a1/\Zas 24 25 21 [(1,0),(2,1),(3,2),(4,3),(7,6),(8,7),(9,8),(10,9),(12,10),(12,11),(13,12),(14,13),(16,15),(18,17),(19,16),(19,18),(20,19),(21,14),(21,20),(22,4),(22,5),(23,22),(24,23),(24,21)] [(20,21)] (fun w9=>World.grownBy W7.drew w9 vb) (fun w9=>w9.ownsRow w0.heap.size 58 2 (.slice pc fc.length cc) fc.length (Xh fc)) (Ywh w0.heap.size W7.heap.size fc.length cc pc (Xh fc) vb p bx k gF s.funcs.length cF xo xa q2 gC cC9) (fun w9=>∃ (w8:World),World.grownBy W7.drew w8 vb/\w8.ownsRow w0.heap.size 58 2 (.slice (some ⟨gC,0,none⟩) (fc.length+1) cC9) (fc.length+1) ((Xh fc)++[.int .i64 xo,.int .i64 xa])/\(some gC=vb\/∀ b,(Value.slice (some ⟨gC,0,none⟩) (fc.length+1) cC9).ownBlock=some b->W7.drew.heap.size<=b)/\w9=w8.setCell ⟨gF,k*4+3,none⟩ (.slice (some ⟨gC,0,none⟩) (fc.length+1) cC9)) l w1) (by kernel_rfl) rfl (Yt (by kernel_rfl)) (fun l a1 w1 h=>by obtain ⟨_,_,_,h,_⟩:=h;exact h.sz) ⟨0,0,0,Yc rfl,Zu (Zb _ _) (OWN.out)⟩ ?step ?fin
         case step =>
          intro l a1 w' i hJJ hi hin
          obtain ⟨q2,gC,cC9,hJ,hW⟩:=hJJ
          have hun:l.getD i false=false:=getD_both (mem_ready.1 hi).1
          have hns:=Xe hW hin hun
          have hg:=hW.g hns
          have l0:=Nat.lt_of_lt_of_le hlt hg.size
          have l1:=Nat.lt_of_lt_of_le hlb hg.size
          have l3:=Nat.lt_of_lt_of_le hgF hg.size
          rcases Zlw i hin with rfl|rfl|rfl|rfl|rfl|rfl|rfl|rfl|rfl|rfl|rfl|rfl|rfl|rfl|rfl|rfl|rfl|rfl|rfl|rfl|rfl|rfl|rfl|rfl|rfl
          · have e0:a1.tmps.getD 0 undef = .pointer (some ⟨p,0,none⟩):=hJ.un 0 (fun i hi _=>Zdf 0 (by decide) i hi)
            exact Zc (Zd hJ hW hi hun (hne:=Yr _ (by decide)) (hrun:=by simp [execOp,Act.eval,e0,go_sem,Zbp])) (fun a9 w9 h9=>⟨q2,gC,cC9,h9⟩)
          · have e212:a1.tmps.getD 212 undef = .pointer (some ⟨p,0,none⟩):=rjt hJ hi 0
            exact Zc (Zd hJ hW hi hun (hne:=Yr _ (by decide)) (hrun:=by simp [execOp,Act.eval,e212,go_sem,Zbp])) (fun a9 w9 h9=>⟨q2,gC,cC9,h9⟩)
          · have e213:a1.tmps.getD 213 undef = .pointer (some ⟨p,0,none⟩):=rjt hJ hi 1
            exact Zc (Zd hJ hW hi hun (hne:=Yr _ (by decide)) (hrun:=by simp [execOp,Act.eval,e213,go_sem,Zbp])) (fun a9 w9 h9=>⟨q2,gC,cC9,h9⟩)
          · have e214:a1.tmps.getD 214 undef = .pointer (some ⟨p,0,none⟩):=rjt hJ hi 2
            exact Zc (Zd hJ hW hi hun (hne:=Yr _ (by decide)) (hrun:=by simp [execOp,Act.eval,e214,go_sem,Zbp])) (fun a9 w9 h9=>⟨q2,gC,cC9,h9⟩)
          · have e215:a1.tmps.getD 215 undef = .pointer (some ⟨p,2,none⟩):=rjt hJ hi 3
            have h0:=hg.cell c2 HNE
            exact Zc (Zd hJ hW hi hun (hne:=Yr _ (by decide)) (hrun:=by simp [execOp,Act.eval,e215,h0,l0,l1,l3,go_sem,Zbp])) (fun a9 w9 h9=>⟨q2,gC,cC9,h9⟩)
          · have e7:a1.tmps.getD 7 undef = .int .i64 (k:Int):=hJ.un 7 (fun i hi _=>Zdf 7 (by decide) i hi)
            exact Zc (Zd hJ hW hi hun (hne:=Yr _ (by decide)) (hrun:=by simp [execOp,Act.eval,e7,l0,l1,l3,go_sem,Zbp])) (fun a9 w9 h9=>⟨q2,gC,cC9,h9⟩)
          · have e0:a1.tmps.getD 0 undef = .pointer (some ⟨p,0,none⟩):=hJ.un 0 (fun i hi _=>Zdf 0 (by decide) i hi)
            exact Zc (Zd hJ hW hi hun (hne:=Yr _ (by decide)) (hrun:=by simp [execOp,Act.eval,e0,go_sem,Zbp])) (fun a9 w9 h9=>⟨q2,gC,cC9,h9⟩)
          · have e218:a1.tmps.getD 218 undef = .pointer (some ⟨p,0,none⟩):=rjt hJ hi 6
            exact Zc (Zd hJ hW hi hun (hne:=Yr _ (by decide)) (hrun:=by simp [execOp,Act.eval,e218,go_sem,Zbp])) (fun a9 w9 h9=>⟨q2,gC,cC9,h9⟩)
          · have e219:a1.tmps.getD 219 undef = .pointer (some ⟨p,0,none⟩):=rjt hJ hi 7
            exact Zc (Zd hJ hW hi hun (hne:=Yr _ (by decide)) (hrun:=by simp [execOp,Act.eval,e219,go_sem,Zbp])) (fun a9 w9 h9=>⟨q2,gC,cC9,h9⟩)
          · have e220:a1.tmps.getD 220 undef = .pointer (some ⟨p,0,none⟩):=rjt hJ hi 8
            exact Zc (Zd hJ hW hi hun (hne:=Yr _ (by decide)) (hrun:=by simp [execOp,Act.eval,e220,go_sem,Zbp])) (fun a9 w9 h9=>⟨q2,gC,cC9,h9⟩)
          · have e221:a1.tmps.getD 221 undef = .pointer (some ⟨p,2,none⟩):=rjt hJ hi 9
            have h0:=hg.cell c2 HNE
            exact Zc (Zd hJ hW hi hun (hne:=Yr _ (by decide)) (hrun:=by simp [execOp,Act.eval,e221,h0,l0,l1,l3,go_sem,Zbp])) (fun a9 w9 h9=>⟨q2,gC,cC9,h9⟩)
          · have e7:a1.tmps.getD 7 undef = .int .i64 (k:Int):=hJ.un 7 (fun i hi _=>Zdf 7 (by decide) i hi)
            exact Zc (Zd hJ hW hi hun (hne:=Yr _ (by decide)) (hrun:=by simp [execOp,Act.eval,e7,l0,l1,l3,go_sem,Zbp])) (fun a9 w9 h9=>⟨q2,gC,cC9,h9⟩)
          · have e222:a1.tmps.getD 222 undef = .slice (some ⟨gF,0,none⟩) s.funcs.length cF:=rjt hJ hi 10
            have e223:a1.tmps.getD 223 undef = .int .i64 (k:Int):=rjt hJ hi 11
            exact Zc (Zd hJ hW hi hun (hne:=Yr _ (by decide)) (hrun:=by simp [execOp,Act.eval,e222,e223,l0,l1,l3,go_sem,Zbp] <;> (intros;omega))) (fun a9 w9 h9=>⟨q2,gC,cC9,h9⟩)
          · have e224:a1.tmps.getD 224 undef = .pointer (some ⟨gF,k*4,none⟩):=rjt hJ hi 12
            exact Zc (Zd hJ hW hi hun (hne:=Yr _ (by decide)) (hrun:=by simp [execOp,Act.eval,e224,go_sem,Zbp])) (fun a9 w9 h9=>⟨q2,gC,cC9,h9⟩)
          · have e225:a1.tmps.getD 225 undef = .pointer (some ⟨gF,k*4+3,none⟩):=rjt hJ hi 13
            have h0:=hg.cell xc HNF
            exact Zc (Zd hJ hW hi hun (hne:=Yr _ (by decide)) (hrun:=by simp [execOp,Act.eval,e225,h0,l0,l1,l3,go_sem,Zbp])) (fun a9 w9 h9=>⟨q2,gC,cC9,h9⟩)
          · have e4:a1.tmps.getD 4 undef = .pointer (some ⟨bx,0,none⟩):=hJ.un 4 (fun i hi _=>Zdf 4 (by decide) i hi)
            exact Zc (Zd hJ hW hi hun (hne:=Yr _ (by decide)) (hrun:=by simp [execOp,Act.eval,e4,go_sem,Zbp])) (fun a9 w9 h9=>⟨q2,gC,cC9,h9⟩)
          · have e227:a1.tmps.getD 227 undef = .pointer (some ⟨bx,7,none⟩):=rjt hJ hi 15
            have h0:=hg.cell d7 HNB
            exact Zc (Zd hJ hW hi hun (hne:=Yr _ (by decide)) (hrun:=by simp [execOp,Act.eval,e227,h0,l0,l1,l3,go_sem,Zbp])) (fun a9 w9 h9=>⟨q2,gC,cC9,h9⟩)
          · have e4:a1.tmps.getD 4 undef = .pointer (some ⟨bx,0,none⟩):=hJ.un 4 (fun i hi _=>Zdf 4 (by decide) i hi)
            exact Zc (Zd hJ hW hi hun (hne:=Yr _ (by decide)) (hrun:=by simp [execOp,Act.eval,e4,go_sem,Zbp])) (fun a9 w9 h9=>⟨q2,gC,cC9,h9⟩)
          · have e229:a1.tmps.getD 229 undef = .pointer (some ⟨bx,8,none⟩):=rjt hJ hi 17
            have h0:=hg.cell d8 HNB
            exact Zc (Zd hJ hW hi hun (hne:=Yr _ (by decide)) (hrun:=by simp [execOp,Act.eval,e229,h0,l0,l1,l3,go_sem,Zbp])) (fun a9 w9 h9=>⟨q2,gC,cC9,h9⟩)
          · have e228:a1.tmps.getD 228 undef = .int .i64 xo:=rjt hJ hi 16
            have f228:=e228
            rw [Array.getD_eq_getD_getElem?] at f228
            have e230:a1.tmps.getD 230 undef = .int .i64 xa:=rjt hJ hi 18
            have f230:=e230
            rw [Array.getD_eq_getD_getElem?] at f230
            exact Zc (Zd hJ hW hi hun (hne:=Yr _ (by decide)) (hrun:=by simp [execOp,Act.eval,e228,f228,e230,f230,l0,l1,l3,go_sem,Zbp])) (fun a9 w9 h9=>⟨q2,gC,cC9,h9⟩)
          · have e231:a1.tmps.getD 231 undef = .agg #[.int .i64 xo,.int .i64 xa]:=rjt hJ hi 19
            have f231:=e231
            rw [Array.getD_eq_getD_getElem?] at f231
            refine Zt (v:=Zbp w0.heap.size W7.heap.size fc.length cc pc (Xh fc) vb p bx k gF s.funcs.length cF xo xa w'.heap.size gC cC9 20) (w':=w'.alloc (.cells #[.int .i64 xo,.int .i64 xa] 58)) rfl (by rfl) (by simp [execOp,Act.eval,e231,f231,Yij,Result.andThen,Zbp]) ⟨w'.heap.size,gC,cC9,?_,Zo hW (by decide) hun (by decide) (Zg _ hi (by kernel_rfl)) (Za hg (Ga _ _ _)) (fun hne0 hun0 hB0=>hB0.alloc _) (fun j hj hne hl hcu hF => ?_) (heap_alloc_new w' _)⟩
            · exact Yg (val:=Zbp w0.heap.size W7.heap.size fc.length cc pc (Xh fc) vb p bx k gF s.funcs.length cF xo xa w'.heap.size gC cC9) (Yj hJ (Yer hW.cl hun)) (by decide) (by decide) (Yr _ (by decide))
            · rcases Zlw j hj with rfl|rfl|rfl|rfl|rfl|rfl|rfl|rfl|rfl|rfl|rfl|rfl|rfl|rfl|rfl|rfl|rfl|rfl|rfl|rfl|rfl|rfl|rfl|rfl|rfl <;> first|exact True.intro|exact absurd rfl hne|exact Zk (hW.cl (21,20) (by decide) (hl)) hun
          · have e226:a1.tmps.getD 226 undef = .slice pc fc.length cc:=rjt hJ hi 14
            have e232:a1.tmps.getD 232 undef = .slice (some ⟨q2,0,none⟩) 1 1:=rjt hJ hi 20
            have FB:=hW.f hns 20 (by decide) (Zq hi 20 (by kernel_rfl)) (Jg (c:=21) (by decide) hun)
            have own:=hW.u hun
            obtain ⟨v8,w8,hap,hown,hgr,-,hat⟩:=run_append_own_at (P:=Tryz.prog) w' w0.heap.size 59 59 58 ni (.agg #[.int .i64 0,.int .i64 0]) 2 16 Zoh ni0 ni1 ni2 ni3 rfl (by decide) _ fc.length (Xh fc) own ⟨q2,0,none⟩ 1 1 [.int .i64 xo,.int .i64 xa] rfl (Zbj FB) (Yws _ _) (by unfold maxLen;omega) (by omega) (Nat.le_trans hE hg.size)
            rw [hvb] at hgr hat
            obtain ⟨gC2,cC92,hv⟩:=Js hown
            subst hv
            have hgs:=hg.size
            have hat2:some gC2=vb\/W7.heap.size<=gC2:=hat.imp id (fun e=>by injection e with e;simp only at e;first|omega|(rw [e];exact hgs))
            refine Zt (v:=Zbp w0.heap.size W7.heap.size fc.length cc pc (Xh fc) vb p bx k gF s.funcs.length cF xo xa q2 gC2 cC92 21) (w':=w8) rfl (by rfl) (by simp [execOp,resolve,invoke,builtin,Act.eval,e226,e232,hap,Result.andThen,Zbp]) ⟨q2,gC2,cC92,?_,Zo hW (by decide) hun (by decide) (Zg _ hi (by kernel_rfl)) (Za hg hgr) (fun hne0 hun0 hB0=>absurd rfl hne0) (fun j hj hne hl hcu hF => ?_) (⟨hown,hat2⟩)⟩
            · exact Yg (val:=Zbp w0.heap.size W7.heap.size fc.length cc pc (Xh fc) vb p bx k gF s.funcs.length cF xo xa q2 gC2 cC92) (Yj hJ (Yeq hW.cl hun)) (by decide) (by decide) (Yr _ (by decide))
            · rcases Zlw j hj with rfl|rfl|rfl|rfl|rfl|rfl|rfl|rfl|rfl|rfl|rfl|rfl|rfl|rfl|rfl|rfl|rfl|rfl|rfl|rfl|rfl|rfl|rfl|rfl|rfl <;> first|exact True.intro|exact absurd rfl (hcu (20,21) (by decide) rfl).1|exact absurd rfl hne
          · have e216:a1.tmps.getD 216 undef = .slice (some ⟨gF,0,none⟩) s.funcs.length cF:=rjt hJ hi 4
            have e217:a1.tmps.getD 217 undef = .int .i64 (k:Int):=rjt hJ hi 5
            exact Zc (Zd hJ hW hi hun (hne:=Yr _ (by decide)) (hrun:=by simp [execOp,Act.eval,e216,e217,l0,l1,l3,go_sem,Zbp] <;> (intros;omega))) (fun a9 w9 h9=>⟨q2,gC,cC9,h9⟩)
          · have e234:a1.tmps.getD 234 undef = .pointer (some ⟨gF,k*4,none⟩):=rjt hJ hi 22
            exact Zc (Zd hJ hW hi hun (hne:=Yr _ (by decide)) (hrun:=by simp [execOp,Act.eval,e234,go_sem,Zbp])) (fun a9 w9 h9=>⟨q2,gC,cC9,h9⟩)
          · have e235:a1.tmps.getD 235 undef = .pointer (some ⟨gF,k*4+3,none⟩):=rjt hJ hi 23
            have e233:a1.tmps.getD 233 undef = .slice (some ⟨gC,0,none⟩) (fc.length+1) cC9:=rjt hJ hi 21
            have F21:=hW.f hns 21 (by decide) (Zq hi 21 (by kernel_rfl)) (Zat (by decide))
            have k1:=hg.cell xc HNF
            have bx2:=hg.block gF hgF HNF
            have j1:w'.frozen? ⟨gF,k*4+3,none⟩=false:=(World.frozen?_of_block bx2).trans zc
            have lb2:=Nat.lt_of_lt_of_le hgF hg.size
            have O7:w'.ownsRow w0.heap.size 58 2 (.slice (some ⟨gC,0,none⟩) (fc.length+1) cC9) (fc.length+1) ((Xh fc)++[.int .i64 xo,.int .i64 xa]):=F21.1
            have L7:some gC=vb\/W7.heap.size<=gC:=F21.2
            have hall:∀ j,j<25->j≠24->l.getD j false=true:=Jp hi hW.cl (by kernel_rfl)
            exact Zc (Jo (WS:=fun l9 w9=>Zas 24 25 21 [(1,0),(2,1),(3,2),(4,3),(7,6),(8,7),(9,8),(10,9),(12,10),(12,11),(13,12),(14,13),(16,15),(18,17),(19,16),(19,18),(20,19),(21,14),(21,20),(22,4),(22,5),(23,22),(24,23),(24,21)] [(20,21)] (fun w9=>World.grownBy W7.drew w9 vb) (fun w9=>w9.ownsRow w0.heap.size 58 2 (.slice pc fc.length cc) fc.length (Xh fc)) (Ywh w0.heap.size W7.heap.size fc.length cc pc (Xh fc) vb p bx k gF s.funcs.length cF xo xa q2 gC cC9) (fun w9=>∃ (w8:World),World.grownBy W7.drew w8 vb/\w8.ownsRow w0.heap.size 58 2 (.slice (some ⟨gC,0,none⟩) (fc.length+1) cC9) (fc.length+1) ((Xh fc)++[.int .i64 xo,.int .i64 xa])/\(some gC=vb\/∀ b,(Value.slice (some ⟨gC,0,none⟩) (fc.length+1) cC9).ownBlock=some b->W7.drew.heap.size<=b)/\w9=w8.setCell ⟨gF,k*4+3,none⟩ (.slice (some ⟨gC,0,none⟩) (fc.length+1) cC9)) l9 w9) hJ rfl rfl rfl (by decide) (by decide) (w':=w'.setCell ⟨gF,k*4+3,none⟩ (.slice (some ⟨gC,0,none⟩) (fc.length+1) cC9)) (by simp [execOp,Act.eval,e235,e233,k1,j1,lb2,go_sem]) (Xa hW (by decide) (by decide) hall (Zg _ hi (by kernel_rfl)) (⟨w',hg,O7,L7.imp id (fun h7 b hb7=>by injection hb7 with hb7;simp only at hb7;subst hb7;exact h7),rfl⟩))) (fun a9 w9 h9=>⟨q2,gC,cC9,h9⟩)
         case fin =>
          intro l9 a1 w9 hJJ hl9
          obtain ⟨q2,gC,cC9,hJ,hW⟩:=hJJ
          have hq:=hW.q (hl9 24 (by decide))
          have hput:=Ys hJ rfl hl9 (fun i j h1 h2 h3=>Yr j h2 i h1 h3)
          subst hput
          clear hJ hW hl9
          obtain ⟨w8,q1,q4,q5,rfl⟩:=hq
          (try refine hK31 _ _ ?_)
          simp only [Ja,tfD,Zbp,Act.put,List.setIfInBounds_toArray,List.set_cons_zero,List.set_cons_succ]
          have M:=Hq (Ztx (f':=(fa,fl,fr,fc++[(xo,xa)])) AD.out hfk hv ⟨rfl,rfl,rfl⟩ (by rw [List.length_append,Zhd];exact q4) (by rw [hvb];exact q1) (by rw [hvb];exact q5))
          clear q1 q4 q5
          clear c0 c1 c2 c3 c4 c5 c6 c7 z0 z1 z2 z3 z4 z5 z6 z7 hlt d0 d1 d2 d3 d4 d5 d6 d7 d8 d9 d10 dz hlb
          clear HNE HNB OWN hvb ni0 ni1 ni2 ni3 AD LD
          try clear K31
          conv=>arg 2;whnf
          go_wp2
          go_ret
          have FIN:RDA w0 _ p ({ rsL s k m with wants:=s.wants++[⟨k,fc.length,line,xw,kd == 3⟩],funcs:=s.funcs.set k (fa,fl,fr,fc++[(xo,xa)]) }:RS):=⟨_,_,_,_,_,_,_,_,_,M.out⟩
          rw [<- HX.out,<- HKD.out] at FIN
          exact ⟨rfl,FIN⟩
end Go.Proofs.YteciblfmgdlipaaGreatDoor.AS
