/-
  Part of a proof: contracts of functions and lemmas, each stated by its own theorem. Conditions: as each theorem states.
-/
import Derived.Test.YteciblfmgdlipaaGreatDoorMR06
import Derived.Test.YteciblfmgdlipaaGreatDoorMR07
set_option linter.unusedSimpArgs false
set_option linter.unusedVariables false
set_option maxRecDepth 100000
set_option maxHeartbeats 16000000
namespace Go.Proofs.YteciblfmgdlipaaGreatDoor.AS
open Go.RowKit Go.Great CK
def Zek (c:CS) (x:Option Int) (ps:List Pc):Option (CS × Option Int) :=
 match ps with
 | .word nm::rest=>match Zda rest 3 with
   | some [a,l,r]=>some ({ c with funcs:=c.funcs++[(a,l,r,[])],fm:=fun u=>if u=nm then some (c.funcs.length:Int) else c.fm u,lm:=c.lm++[fun _=>none] },if (c.fm nm).isSome then amV (Zlr x rest) 142 else Zlr x rest)
   | _=>none
 | _=>none
theorem Zog {w:World} {b o:Nat} {q:Pc} {rest:List Pc} (h:Zhr w (some ⟨b,o,none⟩) (q::rest)):Zhr w (some ⟨b,o+4,none⟩) rest:=by
 have:=Zqm (k:=1) h
 simpa using this
theorem Yby (b:Nat):∀ u∈[Value.map (some b)],u.oneCell'=true:=by
 intro u hu
 simp only [List.mem_cons,List.not_mem_nil,or_false] at hu
 subst hu;rfl
theorem Zpz {w:World} {E E':Nat} {t t':TypeId} {sz sz' n n' g k:Nat} {v:Value} {xs xs':List Value} (h:w.ownsRow E t sz v n xs) (h':w.ownsRow E' t' sz' (.slice (some ⟨g,0,none⟩) n' k) n' xs') (_:E<=w.heap.size) (hne:t≠t'):some g≠v.ownBlock:=by
 have h1:=Zbn h (Nat.zero_le _)
 have h2:=Zbn h' (Nat.zero_le _)
 intro e
 rcases Zx h1 h2 hne with q|q
 · rw [q] at e;cases e
 · exact q e.symm
def f6:Nat->Nat
 | 0=>31
 | 1=>32
 | 2=>33
 | 3=>34
 | 4=>35
 | 5=>36
 | 6=>37
 | 7=>38
 | 8=>39
 | 9=>30
 | 10=>40
 | 11=>41
 | 12=>7
 | 13=>8
 | _=>5000
theorem Zga:∀ i,i<14->∀ j,j<14->j≠i->f6 j≠f6 i:=by decide
theorem Yqp (i:Nat) (h:i<14):i=0\/i=1\/i=2\/i=3\/i=4\/i=5\/i=6\/i=7\/i=8\/i=9\/i=10\/i=11\/i=12\/i=13:=by omega
theorem Yjs (j:Nat) (hj:j∈[0,1]):∀ i,i<14->f6 i≠j:=by revert j;decide
def f6v (p b o cc bm:Nat) (tx:ByteArray) (vn:Int) (bt:Bool):Nat->Value
 | 0 => .pointer (some ⟨p,0,none⟩)
 | 1 => .pointer (some ⟨p,0,none⟩)
 | 2 => .pointer (some ⟨p,4,none⟩)
 | 3 => .map (some bm)
 | 4 => .slice (some ⟨b,o,none⟩) 4 cc
 | 5 => .pointer (some ⟨b,o,none⟩)
 | 6 => .pointer (some ⟨b,o+1,none⟩)
 | 7 => .string tx
 | 8 => .tuple #[.int .i64 vn,.bool bt]
 | 9 => .tuple #[.int .i64 vn,.bool bt]
 | 10 => .int .i64 vn
 | 11 => .bool bt
 | 12 => .int .i64 vn
 | 13 => .bool bt
 | _=>undef
def f6F (p b o cc bm:Nat) (tx:ByteArray) (vn:Int) (bt:Bool)  : Nat->World->Prop
 | _=>fun _=>True
def f9:Nat->Nat
 | 0=>45
 | 1=>46
 | 2=>47
 | 3=>48
 | 4=>49
 | 5=>50
 | 6=>51
 | 7=>52
 | 8=>53
 | 9=>54
 | 10=>55
 | 11=>56
 | 12=>57
 | 13=>58
 | 14=>1014
 | _=>5000
theorem Zae:∀ i,i<15->∀ j,j<15->j≠i->f9 j≠f9 i:=by decide
theorem Yic (i:Nat) (h:i<15):i=0\/i=1\/i=2\/i=3\/i=4\/i=5\/i=6\/i=7\/i=8\/i=9\/i=10\/i=11\/i=12\/i=13\/i=14:=by omega
theorem Znr (j:Nat) (hj:j∈[0,1]):∀ i,i<15->f9 i≠j:=by revert j;decide
def f9v (p b o cc bm nF cF:Nat) (pF:Option Addr) (tx:ByteArray):Nat->Value
 | 0 => .pointer (some ⟨p,0,none⟩)
 | 1 => .pointer (some ⟨p,0,none⟩)
 | 2 => .pointer (some ⟨p,4,none⟩)
 | 3 => .map (some bm)
 | 4 => .slice (some ⟨b,o,none⟩) 4 cc
 | 5 => .pointer (some ⟨b,o,none⟩)
 | 6 => .pointer (some ⟨b,o+1,none⟩)
 | 7 => .string tx
 | 8 => .pointer (some ⟨p,0,none⟩)
 | 9 => .pointer (some ⟨p,0,none⟩)
 | 10 => .pointer (some ⟨p,0,none⟩)
 | 11 => .pointer (some ⟨p,2,none⟩)
 | 12 => .slice pF nF cF
 | 13 => .int .i64 nF
 | 14=>undef
 | _=>undef
def f9F (p b o cc bm nF cF:Nat) (pF:Option Addr) (tx:ByteArray)  : Nat->World->Prop
 | _=>fun _=>True
def fnA:Nat->Nat
 | 0=>59
 | 1=>60
 | 2=>61
 | 3=>62
 | 4=>63
 | 5=>64
 | 6=>65
 | 7=>66
 | 8=>67
 | 9=>68
 | 10=>69
 | 11=>70
 | 12=>71
 | 13=>72
 | 14=>73
 | 15=>74
 | 16=>75
 | 17=>76
 | 18=>77
 | 19=>78
 | 20=>79
 | 21=>1021
 | _=>5000
theorem Ya:∀ i,i<22->∀ j,j<22->j≠i->fnA j≠fnA i:=by decide
theorem Zfr (i:Nat) (h:i<22):i=0\/i=1\/i=2\/i=3\/i=4\/i=5\/i=6\/i=7\/i=8\/i=9\/i=10\/i=11\/i=12\/i=13\/i=14\/i=15\/i=16\/i=17\/i=18\/i=19\/i=20\/i=21:=by omega
theorem Zcp (j:Nat) (hj:j∈[0,5]):∀ i,i<22->fnA i≠j:=by revert j;decide
def Je (E p g k3 nF cF:Nat) (na nl nr:Int) (pF:Option Addr) (ys:List Value) (q2:Nat) (gF:Nat) (cF9:Nat):Nat->Value
 | 0 => .pointer (some ⟨p,0,none⟩)
 | 1 => .pointer (some ⟨p,0,none⟩)
 | 2 => .pointer (some ⟨p,0,none⟩)
 | 3 => .pointer (some ⟨p,0,none⟩)
 | 4 => .pointer (some ⟨p,2,none⟩)
 | 5 => .slice pF nF cF
 | 6 => .slice (some ⟨g,0,none⟩) 3 k3
 | 7 => .pointer (some ⟨g,0,none⟩)
 | 8 => .int .i64 na
 | 9 => .slice (some ⟨g,0,none⟩) 3 k3
 | 10 => .pointer (some ⟨g,1,none⟩)
 | 11 => .int .i64 nl
 | 12 => .slice (some ⟨g,0,none⟩) 3 k3
 | 13 => .pointer (some ⟨g,2,none⟩)
 | 14 => .int .i64 nr
 | 15 => .agg #[.int .i64 na,.int .i64 nl,.int .i64 nr,.slice none 0 0]
 | 16 => .slice (some ⟨q2,0,none⟩) 1 1
 | 17 => .slice (some ⟨gF,0,none⟩) (nF+1) cF9
 | 18 => .pointer (some ⟨p,0,none⟩)
 | 19 => .pointer (some ⟨p,0,none⟩)
 | 20 => .pointer (some ⟨p,2,none⟩)
 | 21=>undef
 | _=>undef
def Ypv (E p g k3 nF cF:Nat) (na nl nr:Int) (pF:Option Addr) (ys:List Value) (q2:Nat) (gF:Nat) (cF9:Nat):Nat->World->Prop
 | 16=>fun w9=>w9.heap[q2]? = some (.cells #[.int .i64 na,.int .i64 nl,.int .i64 nr,.slice none 0 0] 61 (0,0))
 | 17=>fun w9=>w9.ownsRow E 61 4 (.slice (some ⟨gF,0,none⟩) (nF+1) cF9) (nF+1) (ys++[.int .i64 na,.int .i64 nl,.int .i64 nr,.slice none 0 0])
 | _=>fun _=>True
theorem Ydm {E p g k3 nF cF:Nat} {na nl nr:Int} {pF:Option Addr} {ys:List Value} {q2:Nat} {gF:Nat} {cF9:Nat} {q22:Nat} {l:Array Bool} (hcl:∀ p∈([(2,1),(3,2),(4,3),(5,4),(7,6),(8,7),(10,9),(11,10),(13,12),(14,13),(15,8),(15,11),(15,14),(16,15),(17,5),(17,16),(18,0),(19,18),(20,19),(21,20),(21,17)]:List (Nat × Nat)),l.getD (Prod.fst p) false=true->l.getD (Prod.snd p) false=true) (hun:l.getD 16 false=false):∀ i,i<22->l.getD i false=true->fnA i<90->Je E p g k3 nF cF na nl nr pF ys q22 gF cF9 i=Je E p g k3 nF cF na nl nr pF ys q2 gF cF9 i:=by
 intro i hi hl _
 rcases Zfr i hi with rfl|rfl|rfl|rfl|rfl|rfl|rfl|rfl|rfl|rfl|rfl|rfl|rfl|rfl|rfl|rfl|rfl|rfl|rfl|rfl|rfl|rfl
 · rfl
 · rfl
 · rfl
 · rfl
 · rfl
 · rfl
 · rfl
 · rfl
 · rfl
 · rfl
 · rfl
 · rfl
 · rfl
 · rfl
 · rfl
 · rfl
 · exact Zm (hl) hun
 · rfl
 · rfl
 · rfl
 · rfl
 · rfl
theorem Ydl {E p g k3 nF cF:Nat} {na nl nr:Int} {pF:Option Addr} {ys:List Value} {q2:Nat} {gF:Nat} {cF9:Nat} {gF2:Nat} {cF92:Nat} {l:Array Bool} (hcl:∀ p∈([(2,1),(3,2),(4,3),(5,4),(7,6),(8,7),(10,9),(11,10),(13,12),(14,13),(15,8),(15,11),(15,14),(16,15),(17,5),(17,16),(18,0),(19,18),(20,19),(21,20),(21,17)]:List (Nat × Nat)),l.getD (Prod.fst p) false=true->l.getD (Prod.snd p) false=true) (hun:l.getD 17 false=false):∀ i,i<22->l.getD i false=true->fnA i<90->Je E p g k3 nF cF na nl nr pF ys q2 gF2 cF92 i=Je E p g k3 nF cF na nl nr pF ys q2 gF cF9 i:=by
 intro i hi hl _
 rcases Zfr i hi with rfl|rfl|rfl|rfl|rfl|rfl|rfl|rfl|rfl|rfl|rfl|rfl|rfl|rfl|rfl|rfl|rfl|rfl|rfl|rfl|rfl|rfl
 · rfl
 · rfl
 · rfl
 · rfl
 · rfl
 · rfl
 · rfl
 · rfl
 · rfl
 · rfl
 · rfl
 · rfl
 · rfl
 · rfl
 · rfl
 · rfl
 · rfl
 · exact Zm (hl) hun
 · rfl
 · rfl
 · rfl
 · rfl
theorem Yqn (w0 w:World) (p m:Nat) (c:CS) (x:Option Int) (nm:Txt) (rest:List Pc) (na nl nr:Int) (b o cc:Nat) (h:PS w0 w p m c (Zeg x)) (hp:Zhr w (some ⟨b,o,none⟩) (.word nm::rest)) (hl:rest.length=3) (hcc:4<=cc) (hnum:Zda rest 3=some [na,nl,nr])
 (ht:nm.length<=1000000) (hm:m+2<=1000000) :
 Calls Tryz.prog 79 #[.pointer (some ⟨p,0,none⟩),.slice (some ⟨b,o,none⟩) 4 cc] w (Zp w0 w p (m+2) (Zek c x (.word nm::rest))):=by
 have HR:=Hq (show Zek c x (.word nm::rest)=some ({ c with funcs:=c.funcs++[(na,nl,nr,[])],fm:=fun u=>if u=nm then some (c.funcs.length:Int) else c.fm u,lm:=c.lm++[fun _=>none] },if (c.fm nm).isSome then amV (Zlr x rest) 142 else Zlr x rest) by unfold Zek;simp only [];rw [hnum])
 have HS:=Hq h
 have HP:=Hq hp
 have NM:=Hq (show ∀ cc',Calls Tryz.prog 113 #[.pointer (some ⟨p,0,none⟩),.slice (some ⟨b,o+4,none⟩) 3 cc',.int .i64 3] w fun e w' =>
  (∃ q k,e = .returned (.tuple #[.slice q 3 k,.nilIface])/\Zwy w' w.heap.size (.slice q 3 k) [na,nl,nr]/\PS w0 w' p m c (Zeg (Zlr x rest)))/\w.grownBy w' (some p) from fun cc'=>by
  have:=Zfy w0 w p m c x rest (some ⟨b,o+4,none⟩) cc' 3 h (Zog hp) (by omega) (by decide)
  rw [hl] at this
  unfold Zho at this
  rw [hnum] at this
  exact this)
 obtain ⟨b',o',e,hb,d0,d1,d2,d3⟩:=Xb hp (i:=0) (q := .word nm) rfl
 injection e with e;injection e with e1 e2
 subst e1;subst e2
 simp only [Nat.zero_mul,Nat.add_zero,pcK,pcT,pcN,pcF] at d0 d1 d2 d3
 have hci:(4:Int)<=cc:=by omega
 clear h hp hnum hl
 go_enter Tryz.func79,Tryz.ntmps79
 go_upto_region 6 with (go_at_call 113;refine (NM.out _).mono ?_;rintro e w2 ⟨⟨q,k3,rfl,hrow,hps⟩,hg⟩)
 rename_i K hK
 have S2:=Hq hps
 have G2:=Hq hg
 have RW2:=Hq hrow
 have AM:=Hq (fun wr h=>Zlt w0 wr p m c (Zlr x rest) 142 h)
 obtain ⟨g,cap,hv,hg1,hc1⟩:=Xc hrow (by simp)
 injection hv with hv _ hk3
 subst hv;subst hk3
 have hgw:=(World.ownsRow.lt hrow g rfl).1
 have hpw:=(Ygg HS.out).2
 have PT2:=Hq (Xz HP.out (Zby HS.out hg))
 obtain ⟨vd,vF,vL,vB,bm,cv,lb,hA⟩:=hps
 obtain ⟨b',o',e,hb2,x0,x1,x2,x3⟩:=Xb PT2.out (i:=0) (q := .word nm) rfl
 injection e with e;injection e with e1 e2
 subst e1;subst e2
 simp only [Nat.zero_mul,Nat.add_zero,pcK,pcT,pcN,pcF] at x0 x1 x2 x3
 have c4:w2.cell? ⟨p,4,none⟩=some (.map (some bm)):=Cq w2 p 4 _ _ _ hA.box
 have hlt2:p<w2.heap.size:=(Gs hA.box)
 have hok:=Zox (Zw hA.ins.fm (Zg (Zd w2 none)) (by simp)) nm ht
 obtain ⟨bt,hbt⟩:∃ bt,(c.fm nm).isSome=bt:=⟨_,rfl⟩
 obtain ⟨vn,hvn⟩:∃ vn,(c.fm nm).getD 0=vn:=⟨_,rfl⟩
 rw [hbt,hvn] at hok
 rw [hbt] at HR
 clear hA hg hrow hc1 d0 d1 d2 d3 hbt hvn
 refine Xa (n:=14) (J:=fun a0 l a1 w1=>RJ a0 90 14 f6 (f6v p b o cc bm (bs nm) vn bt ) l a1/\Zcs 14 14 0 [(1,0),(2,1),(3,2),(5,4),(6,5),(7,6),(8,3),(8,7),(9,8),(10,9),(11,9),(12,10),(13,11)] [] (fun w9=>w9=w2.drew) (fun _=>True) (f6F p b o cc bm (bs nm) vn bt ) (fun _=>True) l w1) (by kernel_rfl) rfl (Xx (by kernel_rfl)) (fun l a1 w1 h=>by obtain ⟨h,_⟩:=h;exact h.sz) ⟨Yz rfl,Yf (rfl) (True.intro)⟩ ?step ?fin
 case step =>
  intro l a1 w' i hJJ hi hin
  obtain ⟨hJ,hW⟩:=hJJ
  have hun:l.getD i false=false:=getD_both (mem_ready.1 hi).1
  have hns:=Jv hW hin hun
  have hg:=hW.g hns
  have l0:p<w'.heap.size:=by rw [hg];exact hlt2
  have l1:b<w'.heap.size:=by rw [hg];exact hb2
  have hok2:=(by rw [hg];exact hok:(Instr.lookup 66 (.map (some bm)) (.string (bs nm)) true).run Tryz.prog w' = .ok (.tuple #[.int .i64 vn,.bool bt]) w')
  rcases Yqp i hin with rfl|rfl|rfl|rfl|rfl|rfl|rfl|rfl|rfl|rfl|rfl|rfl|rfl|rfl
  · have e0:a1.tmps.getD 0 undef = .pointer (some ⟨p,0,none⟩):=hJ.un 0 (fun i hi _=>Yjs 0 (by decide) i hi)
    exact Zc hJ hW hi hun rfl (by rfl) rfl (by decide) (by decide) (Zga _ (by decide)) (w':=w') (by simp [execOp,resolve,invoke,builtin,Act.eval,e0,l0,l1,hok2,go_sem,f6v]) (⟨by decide,by kernel_rfl,True.intro⟩)
  · have e31:a1.tmps.getD 31 undef = .pointer (some ⟨p,0,none⟩):=(Ze hJ hi 0 (by kernel_rfl))
    exact Zc hJ hW hi hun rfl (by rfl) rfl (by decide) (by decide) (Zga _ (by decide)) (w':=w') (by simp [execOp,resolve,invoke,builtin,Act.eval,e31,l0,l1,hok2,go_sem,f6v]) (⟨by decide,by kernel_rfl,True.intro⟩)
  · have e32:a1.tmps.getD 32 undef = .pointer (some ⟨p,0,none⟩):=(Ze hJ hi 1 (by kernel_rfl))
    exact Zc hJ hW hi hun rfl (by rfl) rfl (by decide) (by decide) (Zga _ (by decide)) (w':=w') (by simp [execOp,resolve,invoke,builtin,Act.eval,e32,l0,l1,hok2,go_sem,f6v]) (⟨by decide,by kernel_rfl,True.intro⟩)
  · have e33:a1.tmps.getD 33 undef = .pointer (some ⟨p,4,none⟩):=(Ze hJ hi 2 (by kernel_rfl))
    have h0:=Yv c4 hg
    exact Zc hJ hW hi hun rfl (by rfl) rfl (by decide) (by decide) (Zga _ (by decide)) (w':=w') (by simp [execOp,resolve,invoke,builtin,Act.eval,e33,h0,l0,l1,hok2,go_sem,f6v]) (⟨by decide,by kernel_rfl,True.intro⟩)
  · have e1:a1.tmps.getD 1 undef = .slice (some ⟨b,o,none⟩) 4 cc:=hJ.un 1 (fun i hi _=>Yjs 1 (by decide) i hi)
    exact Zc hJ hW hi hun rfl (by rfl) rfl (by decide) (by decide) (Zga _ (by decide)) (w':=w') (by simp [execOp,resolve,invoke,builtin,Act.eval,e1,l0,l1,hok2,go_sem,f6v]) (⟨by decide,by kernel_rfl,True.intro⟩)
  · have e35:a1.tmps.getD 35 undef = .slice (some ⟨b,o,none⟩) 4 cc:=(Ze hJ hi 4 (by kernel_rfl))
    exact Zc hJ hW hi hun rfl (by rfl) rfl (by decide) (by decide) (Zga _ (by decide)) (w':=w') (by first|(simp [execOp,resolve,invoke,builtin,Act.eval,e35,l0,l1,hok2,go_sem,f6v];done)|(simp [execOp,resolve,invoke,builtin,Act.eval,e35,l0,l1,hok2,go_sem,f6v];omega)|(simp [execOp,resolve,invoke,builtin,Act.eval,e35,l0,l1,hok2,go_sem,f6v];intro h;omega)|(simp [execOp,resolve,invoke,builtin,Act.eval,e35,l0,l1,hok2,go_sem,f6v];intros;omega)) (⟨by decide,by kernel_rfl,True.intro⟩)
  · have e36:a1.tmps.getD 36 undef = .pointer (some ⟨b,o,none⟩):=(Ze hJ hi 5 (by kernel_rfl))
    exact Zc hJ hW hi hun rfl (by rfl) rfl (by decide) (by decide) (Zga _ (by decide)) (w':=w') (by simp [execOp,resolve,invoke,builtin,Act.eval,e36,l0,l1,hok2,go_sem,f6v]) (⟨by decide,by kernel_rfl,True.intro⟩)
  · have e37:a1.tmps.getD 37 undef = .pointer (some ⟨b,o+1,none⟩):=(Ze hJ hi 6 (by kernel_rfl))
    have h0:=Yv x1 hg
    exact Zc hJ hW hi hun rfl (by rfl) rfl (by decide) (by decide) (Zga _ (by decide)) (w':=w') (by simp [execOp,resolve,invoke,builtin,Act.eval,e37,h0,l0,l1,hok2,go_sem,f6v]) (⟨by decide,by kernel_rfl,True.intro⟩)
  · have e34:a1.tmps.getD 34 undef = .map (some bm):=(Ze hJ hi 3 (by kernel_rfl))
    have e38:a1.tmps.getD 38 undef = .string (bs nm):=(Ze hJ hi 7 (by kernel_rfl))
    exact Zc hJ hW hi hun rfl (by rfl) rfl (by decide) (by decide) (Zga _ (by decide)) (w':=w') (by simp [execOp,resolve,invoke,builtin,Act.eval,e34,e38,l0,l1,hok2,go_sem,f6v]) (⟨by decide,by kernel_rfl,True.intro⟩)
  · have e39:a1.tmps.getD 39 undef = .tuple #[.int .i64 vn,.bool bt]:=(Ze hJ hi 8 (by kernel_rfl))
    exact Zc hJ hW hi hun rfl (by rfl) rfl (by decide) (by decide) (Zga _ (by decide)) (w':=w') (by simp [execOp,resolve,invoke,builtin,Act.eval,e39,l0,l1,hok2,go_sem,f6v]) (⟨by decide,by kernel_rfl,True.intro⟩)
  · have e30:a1.tmps.getD 30 undef = .tuple #[.int .i64 vn,.bool bt]:=(Ze hJ hi 9 (by kernel_rfl))
    exact Zc hJ hW hi hun rfl (by rfl) rfl (by decide) (by decide) (Zga _ (by decide)) (w':=w') (by simp [execOp,resolve,invoke,builtin,Act.eval,e30,l0,l1,hok2,go_sem,f6v]) (⟨by decide,by kernel_rfl,True.intro⟩)
  · have e30:a1.tmps.getD 30 undef = .tuple #[.int .i64 vn,.bool bt]:=(Ze hJ hi 9 (by kernel_rfl))
    exact Zc hJ hW hi hun rfl (by rfl) rfl (by decide) (by decide) (Zga _ (by decide)) (w':=w') (by simp [execOp,resolve,invoke,builtin,Act.eval,e30,l0,l1,hok2,go_sem,f6v]) (⟨by decide,by kernel_rfl,True.intro⟩)
  · have e40:a1.tmps.getD 40 undef = .int .i64 vn:=(Ze hJ hi 10 (by kernel_rfl))
    exact Zc hJ hW hi hun rfl (by rfl) rfl (by decide) (by decide) (Zga _ (by decide)) (w':=w') (by simp [execOp,resolve,invoke,builtin,Act.eval,e40,l0,l1,hok2,go_sem,f6v]) (⟨by decide,by kernel_rfl,True.intro⟩)
  · have e41:a1.tmps.getD 41 undef = .bool bt:=(Ze hJ hi 11 (by kernel_rfl))
    exact Zc hJ hW hi hun rfl (by rfl) rfl (by decide) (by decide) (Zga _ (by decide)) (w':=w') (by simp [execOp,resolve,invoke,builtin,Act.eval,e41,l0,l1,hok2,go_sem,f6v]) (⟨by decide,by kernel_rfl,True.intro⟩)
 case fin =>
  intro l9 a1 w9 hJJ hl9
  obtain ⟨hJ,hW⟩:=hJJ
  have hq:w9=w2.drew:=hW.g (Zao hW)
  have hput:=Xw hJ rfl hl9 (fun i j h1 h2 h3=>Zga j h2 i h1 h3)
  subst hput;subst hq
  clear hJ hW hl9 hok c4 x0 x1 x2 x3
  (try refine hK _ _ ?_)
  simp only [Jy,f6,f6v,Act.put,List.setIfInBounds_toArray,List.set_cons_zero,List.set_cons_succ]
  cases bt with
  | true =>
    go_upto_region 9 with (go_at_call 112;refine (AM.out _ (Zai S2.out (Zg (Zd w2 none)))).mono ?_;rintro e w3 ⟨rfl,hps3,hg3⟩)
    have S3:=Hq hps3
    have G3:=Hq (Za (Zli (Zg (Zd w2 none))) hg3)
    clear hps3 hg3
    rename_i K9 hK9
    obtain ⟨vd,vF,vL,vB,bm,cv,lb,hA⟩:=S3.out
    obtain ⟨pF,cF,hvF⟩:=Jc hA
    subst hvF
    have RW3:=Hq (RW2.out.kept G3.out (Znd RW2.out hpw))
    have PT3:=Hq (Xz PT2.out (Zby S2.out G3.out))
    have MM:=Hq hA.ins.fm
    have A3:=Hq (Yr hA (Zg (Zd w3 none)))
    have FR3:=Hq (Zn (Zn (Zby HS.out G2.out) (Zby S2.out G3.out)) (Yk (Zg (Zd w3 none))))
    obtain ⟨b',o',e,hb3,x0,x1,x2,x3⟩:=Xb PT3.out (i:=0) (q := .word nm) rfl
    injection e with e;injection e with e1 e2
    subst e1;subst e2
    simp only [Nat.zero_mul,Nat.add_zero,pcK,pcT,pcN,pcF] at x0 x1 x2 x3
    have c2:w3.cell? ⟨p,2,none⟩=some (.slice pF c.funcs.length cF):=Cq w3 p 2 _ _ _ hA.box
    have c4:w3.cell? ⟨p,4,none⟩=some (.map (some bm)):=Cq w3 p 4 _ _ _ hA.box
    have hlt3:p<w3.heap.size:=(Gs hA.box)
    have hz2:=hA.ins.z2
    clear hA
    refine Xa (n:=15) (J:=fun a0 l a1 w1=>RJ a0 90 15 f9 (f9v p b o cc bm c.funcs.length cF pF (bs nm) ) l a1/\Zcs 14 15 0 [(1,0),(2,1),(3,2),(5,4),(6,5),(7,6),(9,8),(10,9),(11,10),(12,11),(13,12),(14,3),(14,7),(14,13)] [] (fun w9=>w9=w3.drew) (fun _=>True) (f9F p b o cc bm c.funcs.length cF pF (bs nm) ) (fun w9=>Zfi w9 bm (m+1) (fun u=>if u=nm then some (c.funcs.length:Int) else c.fm u)/\World.grownBy w3.drew w9 (some bm)) l w1) (by kernel_rfl) rfl (Xx (by kernel_rfl)) (fun l a1 w1 h=>by obtain ⟨h,_⟩:=h;exact h.sz) ⟨Yz rfl,Yf (rfl) (True.intro)⟩ ?step ?fin
    case step =>
     intro l a1 w' i hJJ hi hin
     obtain ⟨hJ,hW⟩:=hJJ
     have hun:l.getD i false=false:=getD_both (mem_ready.1 hi).1
     have hns:=Jv hW hin hun
     have hg:=hW.g hns
     have l0:p<w'.heap.size:=by rw [hg];exact hlt3
     have l1:b<w'.heap.size:=by rw [hg];exact hb3
     rcases Yic i hin with rfl|rfl|rfl|rfl|rfl|rfl|rfl|rfl|rfl|rfl|rfl|rfl|rfl|rfl|rfl
     · have e0:a1.tmps.getD 0 undef = .pointer (some ⟨p,0,none⟩):=hJ.un 0 (fun i hi _=>Znr 0 (by decide) i hi)
       exact Zc hJ hW hi hun rfl (by rfl) rfl (by decide) (by decide) (Zae _ (by decide)) (w':=w') (by simp [execOp,resolve,invoke,builtin,Act.eval,e0,l0,l1,go_sem,f9v]) (⟨by decide,by kernel_rfl,True.intro⟩)
     · have e45:a1.tmps.getD 45 undef = .pointer (some ⟨p,0,none⟩):=(Ze hJ hi 0 (by kernel_rfl))
       exact Zc hJ hW hi hun rfl (by rfl) rfl (by decide) (by decide) (Zae _ (by decide)) (w':=w') (by simp [execOp,resolve,invoke,builtin,Act.eval,e45,l0,l1,go_sem,f9v]) (⟨by decide,by kernel_rfl,True.intro⟩)
     · have e46:a1.tmps.getD 46 undef = .pointer (some ⟨p,0,none⟩):=(Ze hJ hi 1 (by kernel_rfl))
       exact Zc hJ hW hi hun rfl (by rfl) rfl (by decide) (by decide) (Zae _ (by decide)) (w':=w') (by simp [execOp,resolve,invoke,builtin,Act.eval,e46,l0,l1,go_sem,f9v]) (⟨by decide,by kernel_rfl,True.intro⟩)
     · have e47:a1.tmps.getD 47 undef = .pointer (some ⟨p,4,none⟩):=(Ze hJ hi 2 (by kernel_rfl))
       have h0:=Yv c4 hg
       exact Zc hJ hW hi hun rfl (by rfl) rfl (by decide) (by decide) (Zae _ (by decide)) (w':=w') (by simp [execOp,resolve,invoke,builtin,Act.eval,e47,h0,l0,l1,go_sem,f9v]) (⟨by decide,by kernel_rfl,True.intro⟩)
     · have e1:a1.tmps.getD 1 undef = .slice (some ⟨b,o,none⟩) 4 cc:=hJ.un 1 (fun i hi _=>Znr 1 (by decide) i hi)
       exact Zc hJ hW hi hun rfl (by rfl) rfl (by decide) (by decide) (Zae _ (by decide)) (w':=w') (by simp [execOp,resolve,invoke,builtin,Act.eval,e1,l0,l1,go_sem,f9v]) (⟨by decide,by kernel_rfl,True.intro⟩)
     · have e49:a1.tmps.getD 49 undef = .slice (some ⟨b,o,none⟩) 4 cc:=(Ze hJ hi 4 (by kernel_rfl))
       exact Zc hJ hW hi hun rfl (by rfl) rfl (by decide) (by decide) (Zae _ (by decide)) (w':=w') (by first|(simp [execOp,resolve,invoke,builtin,Act.eval,e49,l0,l1,go_sem,f9v];done)|(simp [execOp,resolve,invoke,builtin,Act.eval,e49,l0,l1,go_sem,f9v];omega)|(simp [execOp,resolve,invoke,builtin,Act.eval,e49,l0,l1,go_sem,f9v];intro h;omega)|(simp [execOp,resolve,invoke,builtin,Act.eval,e49,l0,l1,go_sem,f9v];intros;omega)) (⟨by decide,by kernel_rfl,True.intro⟩)
     · have e50:a1.tmps.getD 50 undef = .pointer (some ⟨b,o,none⟩):=(Ze hJ hi 5 (by kernel_rfl))
       exact Zc hJ hW hi hun rfl (by rfl) rfl (by decide) (by decide) (Zae _ (by decide)) (w':=w') (by simp [execOp,resolve,invoke,builtin,Act.eval,e50,l0,l1,go_sem,f9v]) (⟨by decide,by kernel_rfl,True.intro⟩)
     · have e51:a1.tmps.getD 51 undef = .pointer (some ⟨b,o+1,none⟩):=(Ze hJ hi 6 (by kernel_rfl))
       have h0:=Yv x1 hg
       exact Zc hJ hW hi hun rfl (by rfl) rfl (by decide) (by decide) (Zae _ (by decide)) (w':=w') (by simp [execOp,resolve,invoke,builtin,Act.eval,e51,h0,l0,l1,go_sem,f9v]) (⟨by decide,by kernel_rfl,True.intro⟩)
     · have e0:a1.tmps.getD 0 undef = .pointer (some ⟨p,0,none⟩):=hJ.un 0 (fun i hi _=>Znr 0 (by decide) i hi)
       exact Zc hJ hW hi hun rfl (by rfl) rfl (by decide) (by decide) (Zae _ (by decide)) (w':=w') (by simp [execOp,resolve,invoke,builtin,Act.eval,e0,l0,l1,go_sem,f9v]) (⟨by decide,by kernel_rfl,True.intro⟩)
     · have e53:a1.tmps.getD 53 undef = .pointer (some ⟨p,0,none⟩):=(Ze hJ hi 8 (by kernel_rfl))
       exact Zc hJ hW hi hun rfl (by rfl) rfl (by decide) (by decide) (Zae _ (by decide)) (w':=w') (by simp [execOp,resolve,invoke,builtin,Act.eval,e53,l0,l1,go_sem,f9v]) (⟨by decide,by kernel_rfl,True.intro⟩)
     · have e54:a1.tmps.getD 54 undef = .pointer (some ⟨p,0,none⟩):=(Ze hJ hi 9 (by kernel_rfl))
       exact Zc hJ hW hi hun rfl (by rfl) rfl (by decide) (by decide) (Zae _ (by decide)) (w':=w') (by simp [execOp,resolve,invoke,builtin,Act.eval,e54,l0,l1,go_sem,f9v]) (⟨by decide,by kernel_rfl,True.intro⟩)
     · have e55:a1.tmps.getD 55 undef = .pointer (some ⟨p,0,none⟩):=(Ze hJ hi 10 (by kernel_rfl))
       exact Zc hJ hW hi hun rfl (by rfl) rfl (by decide) (by decide) (Zae _ (by decide)) (w':=w') (by simp [execOp,resolve,invoke,builtin,Act.eval,e55,l0,l1,go_sem,f9v]) (⟨by decide,by kernel_rfl,True.intro⟩)
     · have e56:a1.tmps.getD 56 undef = .pointer (some ⟨p,2,none⟩):=(Ze hJ hi 11 (by kernel_rfl))
       have h0:=Yv c2 hg
       exact Zc hJ hW hi hun rfl (by rfl) rfl (by decide) (by decide) (Zae _ (by decide)) (w':=w') (by simp [execOp,resolve,invoke,builtin,Act.eval,e56,h0,l0,l1,go_sem,f9v]) (⟨by decide,by kernel_rfl,True.intro⟩)
     · have e57:a1.tmps.getD 57 undef = .slice pF c.funcs.length cF:=(Ze hJ hi 12 (by kernel_rfl))
       exact Zc hJ hW hi hun rfl (by rfl) rfl (by decide) (by decide) (Zae _ (by decide)) (w':=w') (by simp [execOp,resolve,invoke,builtin,Act.eval,e57,l0,l1,go_sem,f9v]) (⟨by decide,by kernel_rfl,True.intro⟩)
     · have e48:a1.tmps.getD 48 undef = .map (some bm):=(Ze hJ hi 3 (by kernel_rfl))
       have e52:a1.tmps.getD 52 undef = .string (bs nm):=(Ze hJ hi 7 (by kernel_rfl))
       have e58:a1.tmps.getD 58 undef = .int .i64 (c.funcs.length:Int):=(Ze hJ hi 13 (by kernel_rfl))
       obtain ⟨w8,hmu,hM8,hg8⟩:=Zow (w:=w') (by rw [hg];exact Zw MM.out (Zg (Zd w3 none)) (by simp)) (by omega) nm ht (c.funcs.length:Int) (by omega)
       rw [hg] at hg8
       have hall:∀ j,j<15->j≠14->l.getD j false=true:=by
        intro j hj hne
        rcases Yic j hj with rfl|rfl|rfl|rfl|rfl|rfl|rfl|rfl|rfl|rfl|rfl|rfl|rfl|rfl|rfl
        · exact hW.cl (1,0) (by decide) (hW.cl (2,1) (by decide) (hW.cl (3,2) (by decide) (Zb hi 3 (by kernel_rfl))))
        · exact hW.cl (2,1) (by decide) (hW.cl (3,2) (by decide) (Zb hi 3 (by kernel_rfl)))
        · exact hW.cl (3,2) (by decide) (Zb hi 3 (by kernel_rfl))
        · exact Zb hi 3 (by kernel_rfl)
        · exact hW.cl (5,4) (by decide) (hW.cl (6,5) (by decide) (hW.cl (7,6) (by decide) (Zb hi 7 (by kernel_rfl))))
        · exact hW.cl (6,5) (by decide) (hW.cl (7,6) (by decide) (Zb hi 7 (by kernel_rfl)))
        · exact hW.cl (7,6) (by decide) (Zb hi 7 (by kernel_rfl))
        · exact Zb hi 7 (by kernel_rfl)
        · exact hW.cl (9,8) (by decide) (hW.cl (10,9) (by decide) (hW.cl (11,10) (by decide) (hW.cl (12,11) (by decide) (hW.cl (13,12) (by decide) (Zb hi 13 (by kernel_rfl))))))
        · exact hW.cl (10,9) (by decide) (hW.cl (11,10) (by decide) (hW.cl (12,11) (by decide) (hW.cl (13,12) (by decide) (Zb hi 13 (by kernel_rfl)))))
        · exact hW.cl (11,10) (by decide) (hW.cl (12,11) (by decide) (hW.cl (13,12) (by decide) (Zb hi 13 (by kernel_rfl))))
        · exact hW.cl (12,11) (by decide) (hW.cl (13,12) (by decide) (Zb hi 13 (by kernel_rfl)))
        · exact hW.cl (13,12) (by decide) (Zb hi 13 (by kernel_rfl))
        · exact Zb hi 13 (by kernel_rfl)
        · exact absurd rfl hne
       exact Zbk (WS:=fun l9 w9=>Zcs 14 15 0 [(1,0),(2,1),(3,2),(5,4),(6,5),(7,6),(9,8),(10,9),(11,10),(12,11),(13,12),(14,3),(14,7),(14,13)] [] (fun w9=>w9=w3.drew) (fun _=>True) (f9F p b o cc bm c.funcs.length cF pF (bs nm) ) (fun w9=>Zfi w9 bm (m+1) (fun u=>if u=nm then some (c.funcs.length:Int) else c.fm u)/\World.grownBy w3.drew w9 (some bm)) l9 w9) hJ rfl rfl rfl (by decide) (by decide) (w':=w8) (by simp [execOp,Act.eval,e48,e52,e58,hmu,go_sem]) (Jh hW (by decide) (by decide) hall (Zj _ hi (by kernel_rfl)) (⟨hM8,hg8⟩))
    case fin =>
     intro l9 a1 w4 hJJ hl9
     obtain ⟨hJ,hW⟩:=hJJ
     have hq:=hW.q (hl9 14 (by decide))
     have hput:=Xw hJ rfl hl9 (fun i j h1 h2 h3=>Zae j h2 i h1 h3)
     subst hput
     clear hJ hW hl9 c2 c4 x0 x1 x2 x3
     obtain ⟨q1,q2⟩:=hq
     (try refine hK9 _ _ ?_)
     simp only [Jy,f9,f9v,Act.put,List.setIfInBounds_toArray,List.set_cons_zero,List.set_cons_succ]
     have M4:=Ybm A3.out q1 q2
     have RW4:=Hq ((RW3.out.kept (Zg (Zd w3 none)) (Jw RW3.out)).kept q2 (Zab RW3.out MM.out))
     have A4:=Hq M4.1
     have FR4:=Hq (Zn FR3.out M4.2)
     clear q1 q2 M4
     obtain ⟨g4,cap4,hv4,hg4,hc4⟩:=Xc RW4.out (by simp)
     injection hv4 with hv4 _ hk4
     injection hv4 with hv4;injection hv4 with hv4
     subst hv4
     have d0:w4.cell? ⟨g,0,none⟩=some (.int .i64 na):=hc4 0 _ rfl (by simp)
     have d1:w4.cell? ⟨g,1,none⟩=some (.int .i64 nl):=hc4 1 _ rfl (by simp)
     have d2:w4.cell? ⟨g,2,none⟩=some (.int .i64 nr):=hc4 2 _ rfl (by simp)
     have c2:w4.cell? ⟨p,2,none⟩=some (.slice pF c.funcs.length cF):=Cq w4 p 2 _ _ _ A4.out.box
     have z2:=frozen_of_row w4 p 2 _ _ A4.out.box
     have hlt4:p<w4.heap.size:=(Gs A4.out.box)
     have HNE:some p≠(Value.slice pF c.funcs.length cF).ownBlock:=fun e=>Ye A4.out.ins.own.fr A4.out.box (by decide) e.symm
     have HNG:some g≠(Value.slice pF c.funcs.length cF).ownBlock:=Zpz A4.out.ins.own.fr RW4.out A4.out.gr.size (by decide)
     have hE4:=A4.out.gr.size
     have OWN4:=Hq (World.ownsRow.kept A4.out.ins.own.fr (Zg (Zd w4 none)) (Jw A4.out.ins.own.fr))
     have AD4:=Hq (Yr A4.out (Zg (Zd w4 none)))
     have FD4:=Hq (Zn FR4.out (Yk (Zg (Zd w4 none))))
     obtain ⟨fi,fi0,fi1,fi2,fi3⟩:=info_parts Zrf
     obtain ⟨vb,hvb⟩:∃ vb,(Value.slice pF c.funcs.length cF).ownBlock=vb:=⟨_,rfl⟩
     rw [hvb] at HNE HNG
     clear hc4 hk4
     go_upto_region 10 with fail
     rename_i KA hKA
     refine Xa (n:=22) (J:=fun a0 l a1 w1=>∃ (q2:Nat) (gF:Nat) (cF9:Nat),RJ a0 90 22 fnA (Je w0.heap.size p g k3 c.funcs.length cF na nl nr pF (Yp c.funcs cv) q2 gF cF9) l a1/\Zcs 21 22 17 [(2,1),(3,2),(4,3),(5,4),(7,6),(8,7),(10,9),(11,10),(13,12),(14,13),(15,8),(15,11),(15,14),(16,15),(17,5),(17,16),(18,0),(19,18),(20,19),(21,20),(21,17)] [(16,17)] (fun w9=>World.grownBy w4.drew w9 vb) (fun w9=>w9.ownsRow w0.heap.size 61 4 (.slice pF c.funcs.length cF) c.funcs.length (Yp c.funcs cv)) (Ypv w0.heap.size p g k3 c.funcs.length cF na nl nr pF (Yp c.funcs cv) q2 gF cF9) (fun w9=>∃ (w8:World),World.grownBy w4.drew w8 vb/\w8.ownsRow w0.heap.size 61 4 (.slice (some ⟨gF,0,none⟩) (c.funcs.length+1) cF9) (c.funcs.length+1) (Yp c.funcs cv++[.int .i64 na,.int .i64 nl,.int .i64 nr,.slice none 0 0])/\w9=w8.setCell ⟨p,2,none⟩ (.slice (some ⟨gF,0,none⟩) (c.funcs.length+1) cF9)) l w1) (by kernel_rfl) rfl (Xx (by kernel_rfl)) (fun l a1 w1 h=>by obtain ⟨_,_,_,h,_⟩:=h;exact h.sz) ⟨0,0,0,Yz rfl,Yf (Zd _ _) (OWN4.out)⟩ ?step ?fin
     case step =>
      intro l a1 w' i hJJ hi hin
      obtain ⟨q2,gF,cF9,hJ,hW⟩:=hJJ
      have hun:l.getD i false=false:=getD_both (mem_ready.1 hi).1
      have hns:=Jv hW hin hun
      have hg:=hW.g hns
      have l0:=Nat.lt_of_lt_of_le hlt4 hg.size
      have l1:=Nat.lt_of_lt_of_le hg4 hg.size
      rcases Zfr i hin with rfl|rfl|rfl|rfl|rfl|rfl|rfl|rfl|rfl|rfl|rfl|rfl|rfl|rfl|rfl|rfl|rfl|rfl|rfl|rfl|rfl|rfl
      · have e0:a1.tmps.getD 0 undef = .pointer (some ⟨p,0,none⟩):=hJ.un 0 (fun i hi _=>Zcp 0 (by decide) i hi)
        exact Zh (Zc hJ hW hi hun rfl (by rfl) rfl (by decide) (by decide) (Ya _ (by decide)) (w':=w') (by simp [execOp,resolve,invoke,builtin,Act.eval,e0,l0,l1,go_sem,Je]) (⟨by decide,by kernel_rfl,True.intro⟩)) (fun a9 w9 h9=>⟨q2,gF,cF9,h9⟩)
      · have e0:a1.tmps.getD 0 undef = .pointer (some ⟨p,0,none⟩):=hJ.un 0 (fun i hi _=>Zcp 0 (by decide) i hi)
        exact Zh (Zc hJ hW hi hun rfl (by rfl) rfl (by decide) (by decide) (Ya _ (by decide)) (w':=w') (by simp [execOp,resolve,invoke,builtin,Act.eval,e0,l0,l1,go_sem,Je]) (⟨by decide,by kernel_rfl,True.intro⟩)) (fun a9 w9 h9=>⟨q2,gF,cF9,h9⟩)
      · have e60:a1.tmps.getD 60 undef = .pointer (some ⟨p,0,none⟩):=(Ze hJ hi 1 (by kernel_rfl))
        exact Zh (Zc hJ hW hi hun rfl (by rfl) rfl (by decide) (by decide) (Ya _ (by decide)) (w':=w') (by simp [execOp,resolve,invoke,builtin,Act.eval,e60,l0,l1,go_sem,Je]) (⟨by decide,by kernel_rfl,True.intro⟩)) (fun a9 w9 h9=>⟨q2,gF,cF9,h9⟩)
      · have e61:a1.tmps.getD 61 undef = .pointer (some ⟨p,0,none⟩):=(Ze hJ hi 2 (by kernel_rfl))
        exact Zh (Zc hJ hW hi hun rfl (by rfl) rfl (by decide) (by decide) (Ya _ (by decide)) (w':=w') (by simp [execOp,resolve,invoke,builtin,Act.eval,e61,l0,l1,go_sem,Je]) (⟨by decide,by kernel_rfl,True.intro⟩)) (fun a9 w9 h9=>⟨q2,gF,cF9,h9⟩)
      · have e62:a1.tmps.getD 62 undef = .pointer (some ⟨p,0,none⟩):=(Ze hJ hi 3 (by kernel_rfl))
        exact Zh (Zc hJ hW hi hun rfl (by rfl) rfl (by decide) (by decide) (Ya _ (by decide)) (w':=w') (by simp [execOp,resolve,invoke,builtin,Act.eval,e62,l0,l1,go_sem,Je]) (⟨by decide,by kernel_rfl,True.intro⟩)) (fun a9 w9 h9=>⟨q2,gF,cF9,h9⟩)
      · have e63:a1.tmps.getD 63 undef = .pointer (some ⟨p,2,none⟩):=(Ze hJ hi 4 (by kernel_rfl))
        have h0:=hg.cell c2 HNE
        exact Zh (Zc hJ hW hi hun rfl (by rfl) rfl (by decide) (by decide) (Ya _ (by decide)) (w':=w') (by simp [execOp,resolve,invoke,builtin,Act.eval,e63,h0,l0,l1,go_sem,Je]) (⟨by decide,by kernel_rfl,True.intro⟩)) (fun a9 w9 h9=>⟨q2,gF,cF9,h9⟩)
      · have e5:a1.tmps.getD 5 undef = .slice (some ⟨g,0,none⟩) 3 k3:=hJ.un 5 (fun i hi _=>Zcp 5 (by decide) i hi)
        exact Zh (Zc hJ hW hi hun rfl (by rfl) rfl (by decide) (by decide) (Ya _ (by decide)) (w':=w') (by simp [execOp,resolve,invoke,builtin,Act.eval,e5,l0,l1,go_sem,Je]) (⟨by decide,by kernel_rfl,True.intro⟩)) (fun a9 w9 h9=>⟨q2,gF,cF9,h9⟩)
      · have e65:a1.tmps.getD 65 undef = .slice (some ⟨g,0,none⟩) 3 k3:=(Ze hJ hi 6 (by kernel_rfl))
        exact Zh (Zc hJ hW hi hun rfl (by rfl) rfl (by decide) (by decide) (Ya _ (by decide)) (w':=w') (by first|(simp [execOp,resolve,invoke,builtin,Act.eval,e65,l0,l1,go_sem,Je];done)|(simp [execOp,resolve,invoke,builtin,Act.eval,e65,l0,l1,go_sem,Je];omega)|(simp [execOp,resolve,invoke,builtin,Act.eval,e65,l0,l1,go_sem,Je];intro h;omega)|(simp [execOp,resolve,invoke,builtin,Act.eval,e65,l0,l1,go_sem,Je];intros;omega)) (⟨by decide,by kernel_rfl,True.intro⟩)) (fun a9 w9 h9=>⟨q2,gF,cF9,h9⟩)
      · have e66:a1.tmps.getD 66 undef = .pointer (some ⟨g,0,none⟩):=(Ze hJ hi 7 (by kernel_rfl))
        have h0:=hg.cell d0 HNG
        exact Zh (Zc hJ hW hi hun rfl (by rfl) rfl (by decide) (by decide) (Ya _ (by decide)) (w':=w') (by simp [execOp,resolve,invoke,builtin,Act.eval,e66,h0,l0,l1,go_sem,Je]) (⟨by decide,by kernel_rfl,True.intro⟩)) (fun a9 w9 h9=>⟨q2,gF,cF9,h9⟩)
      · have e5:a1.tmps.getD 5 undef = .slice (some ⟨g,0,none⟩) 3 k3:=hJ.un 5 (fun i hi _=>Zcp 5 (by decide) i hi)
        exact Zh (Zc hJ hW hi hun rfl (by rfl) rfl (by decide) (by decide) (Ya _ (by decide)) (w':=w') (by simp [execOp,resolve,invoke,builtin,Act.eval,e5,l0,l1,go_sem,Je]) (⟨by decide,by kernel_rfl,True.intro⟩)) (fun a9 w9 h9=>⟨q2,gF,cF9,h9⟩)
      · have e68:a1.tmps.getD 68 undef = .slice (some ⟨g,0,none⟩) 3 k3:=(Ze hJ hi 9 (by kernel_rfl))
        exact Zh (Zc hJ hW hi hun rfl (by rfl) rfl (by decide) (by decide) (Ya _ (by decide)) (w':=w') (by first|(simp [execOp,resolve,invoke,builtin,Act.eval,e68,l0,l1,go_sem,Je];done)|(simp [execOp,resolve,invoke,builtin,Act.eval,e68,l0,l1,go_sem,Je];omega)|(simp [execOp,resolve,invoke,builtin,Act.eval,e68,l0,l1,go_sem,Je];intro h;omega)|(simp [execOp,resolve,invoke,builtin,Act.eval,e68,l0,l1,go_sem,Je];intros;omega)) (⟨by decide,by kernel_rfl,True.intro⟩)) (fun a9 w9 h9=>⟨q2,gF,cF9,h9⟩)
      · have e69:a1.tmps.getD 69 undef = .pointer (some ⟨g,1,none⟩):=(Ze hJ hi 10 (by kernel_rfl))
        have h0:=hg.cell d1 HNG
        exact Zh (Zc hJ hW hi hun rfl (by rfl) rfl (by decide) (by decide) (Ya _ (by decide)) (w':=w') (by simp [execOp,resolve,invoke,builtin,Act.eval,e69,h0,l0,l1,go_sem,Je]) (⟨by decide,by kernel_rfl,True.intro⟩)) (fun a9 w9 h9=>⟨q2,gF,cF9,h9⟩)
      · have e5:a1.tmps.getD 5 undef = .slice (some ⟨g,0,none⟩) 3 k3:=hJ.un 5 (fun i hi _=>Zcp 5 (by decide) i hi)
        exact Zh (Zc hJ hW hi hun rfl (by rfl) rfl (by decide) (by decide) (Ya _ (by decide)) (w':=w') (by simp [execOp,resolve,invoke,builtin,Act.eval,e5,l0,l1,go_sem,Je]) (⟨by decide,by kernel_rfl,True.intro⟩)) (fun a9 w9 h9=>⟨q2,gF,cF9,h9⟩)
      · have e71:a1.tmps.getD 71 undef = .slice (some ⟨g,0,none⟩) 3 k3:=(Ze hJ hi 12 (by kernel_rfl))
        exact Zh (Zc hJ hW hi hun rfl (by rfl) rfl (by decide) (by decide) (Ya _ (by decide)) (w':=w') (by first|(simp [execOp,resolve,invoke,builtin,Act.eval,e71,l0,l1,go_sem,Je];done)|(simp [execOp,resolve,invoke,builtin,Act.eval,e71,l0,l1,go_sem,Je];omega)|(simp [execOp,resolve,invoke,builtin,Act.eval,e71,l0,l1,go_sem,Je];intro h;omega)|(simp [execOp,resolve,invoke,builtin,Act.eval,e71,l0,l1,go_sem,Je];intros;omega)) (⟨by decide,by kernel_rfl,True.intro⟩)) (fun a9 w9 h9=>⟨q2,gF,cF9,h9⟩)
      · have e72:a1.tmps.getD 72 undef = .pointer (some ⟨g,2,none⟩):=(Ze hJ hi 13 (by kernel_rfl))
        have h0:=hg.cell d2 HNG
        exact Zh (Zc hJ hW hi hun rfl (by rfl) rfl (by decide) (by decide) (Ya _ (by decide)) (w':=w') (by simp [execOp,resolve,invoke,builtin,Act.eval,e72,h0,l0,l1,go_sem,Je]) (⟨by decide,by kernel_rfl,True.intro⟩)) (fun a9 w9 h9=>⟨q2,gF,cF9,h9⟩)
      · have e67:a1.tmps.getD 67 undef = .int .i64 na:=(Ze hJ hi 8 (by kernel_rfl))
        have f67:=e67
        rw [Array.getD_eq_getD_getElem?] at f67
        have e70:a1.tmps.getD 70 undef = .int .i64 nl:=(Ze hJ hi 11 (by kernel_rfl))
        have f70:=e70
        rw [Array.getD_eq_getD_getElem?] at f70
        have e73:a1.tmps.getD 73 undef = .int .i64 nr:=(Ze hJ hi 14 (by kernel_rfl))
        have f73:=e73
        rw [Array.getD_eq_getD_getElem?] at f73
        exact Zh (Zc hJ hW hi hun rfl (by rfl) rfl (by decide) (by decide) (Ya _ (by decide)) (w':=w') (by simp [execOp,resolve,invoke,builtin,Act.eval,e67,f67,e70,f70,e73,f73,l0,l1,go_sem,Je]) (⟨by decide,by kernel_rfl,True.intro⟩)) (fun a9 w9 h9=>⟨q2,gF,cF9,h9⟩)
      · have e74:a1.tmps.getD 74 undef = .agg #[.int .i64 na,.int .i64 nl,.int .i64 nr,.slice none 0 0]:=(Ze hJ hi 15 (by kernel_rfl))
        have f74:=e74
        rw [Array.getD_eq_getD_getElem?] at f74
        refine Xf (v:=Je w0.heap.size p g k3 c.funcs.length cF na nl nr pF (Yp c.funcs cv) w'.heap.size gF cF9 16) (w':=w'.alloc (.cells #[.int .i64 na,.int .i64 nl,.int .i64 nr,.slice none 0 0] 61)) rfl (by rfl) (by simp [execOp,Act.eval,e74,f74,Ydg,Result.andThen,Je]) ⟨w'.heap.size,gF,cF9,?_,Zv hW (by decide) hun (by decide) (Zj _ hi (by kernel_rfl)) (Za hg (Ga _ _ _)) (fun hne0 hun0 hB0=>hB0.alloc _) (fun j hj hne hl hcu hF => ?_) (heap_alloc_new w' _)⟩
        · exact Xm (val:=Je w0.heap.size p g k3 c.funcs.length cF na nl nr pF (Yp c.funcs cv) w'.heap.size gF cF9) (Xo hJ (Ydm hW.cl hun)) (by decide) (by decide) (Ya _ (by decide))
        · rcases Zfr j hj with rfl|rfl|rfl|rfl|rfl|rfl|rfl|rfl|rfl|rfl|rfl|rfl|rfl|rfl|rfl|rfl|rfl|rfl|rfl|rfl|rfl|rfl
          · exact True.intro
          · exact True.intro
          · exact True.intro
          · exact True.intro
          · exact True.intro
          · exact True.intro
          · exact True.intro
          · exact True.intro
          · exact True.intro
          · exact True.intro
          · exact True.intro
          · exact True.intro
          · exact True.intro
          · exact True.intro
          · exact True.intro
          · exact True.intro
          · exact absurd rfl hne
          · exact Zm (hW.cl (17,16) (by decide) (hl)) hun
          · exact True.intro
          · exact True.intro
          · exact True.intro
          · exact True.intro
      · have e64:a1.tmps.getD 64 undef = .slice pF c.funcs.length cF:=(Ze hJ hi 5 (by kernel_rfl))
        have e75:a1.tmps.getD 75 undef = .slice (some ⟨q2,0,none⟩) 1 1:=(Ze hJ hi 16 (by kernel_rfl))
        have F16:=hW.f hns 16 (by decide) (Zb hi 16 (by kernel_rfl)) (Zcu (c:=17) (by decide) hun)
        have own:=hW.u hun
        obtain ⟨v8,w8,hap,hown,hgr,-⟩:=run_append_own_at (P:=Tryz.prog) w' w0.heap.size 24 24 61 fi (.agg #[.int .i64 0,.int .i64 0,.int .i64 0,.slice none 0 0]) 4 48 Zwf fi0 fi1 fi2 fi3 rfl (by decide) _ c.funcs.length (Yp c.funcs cv) own ⟨q2,0,none⟩ 1 1 [.int .i64 na,.int .i64 nl,.int .i64 nr,.slice none 0 0] rfl (Zhk F16) (Yqw _ _ _ _ _ _) (by unfold maxLen;omega) (by omega) (Nat.le_trans hE4 hg.size)
        rw [hvb] at hgr
        obtain ⟨gF2,cF92,hv⟩:=Zcc hown
        subst hv
        refine Xf (v:=Je w0.heap.size p g k3 c.funcs.length cF na nl nr pF (Yp c.funcs cv) q2 gF2 cF92 17) (w':=w8) rfl (by rfl) (by simp [execOp,resolve,invoke,builtin,Act.eval,e64,e75,hap,Result.andThen,Je]) ⟨q2,gF2,cF92,?_,Zv hW (by decide) hun (by decide) (Zj _ hi (by kernel_rfl)) (Za hg hgr) (fun hne0 hun0 hB0=>absurd rfl hne0) (fun j hj hne hl hcu hF => ?_) (hown)⟩
        · exact Xm (val:=Je w0.heap.size p g k3 c.funcs.length cF na nl nr pF (Yp c.funcs cv) q2 gF2 cF92) (Xo hJ (Ydl hW.cl hun)) (by decide) (by decide) (Ya _ (by decide))
        · rcases Zfr j hj with rfl|rfl|rfl|rfl|rfl|rfl|rfl|rfl|rfl|rfl|rfl|rfl|rfl|rfl|rfl|rfl|rfl|rfl|rfl|rfl|rfl|rfl
          · exact True.intro
          · exact True.intro
          · exact True.intro
          · exact True.intro
          · exact True.intro
          · exact True.intro
          · exact True.intro
          · exact True.intro
          · exact True.intro
          · exact True.intro
          · exact True.intro
          · exact True.intro
          · exact True.intro
          · exact True.intro
          · exact True.intro
          · exact True.intro
          · exact absurd rfl (hcu (16,17) (by decide) rfl).1
          · exact absurd rfl hne
          · exact True.intro
          · exact True.intro
          · exact True.intro
          · exact True.intro
      · have e59:a1.tmps.getD 59 undef = .pointer (some ⟨p,0,none⟩):=(Ze hJ hi 0 (by kernel_rfl))
        exact Zh (Zc hJ hW hi hun rfl (by rfl) rfl (by decide) (by decide) (Ya _ (by decide)) (w':=w') (by simp [execOp,resolve,invoke,builtin,Act.eval,e59,l0,l1,go_sem,Je]) (⟨by decide,by kernel_rfl,True.intro⟩)) (fun a9 w9 h9=>⟨q2,gF,cF9,h9⟩)
      · have e77:a1.tmps.getD 77 undef = .pointer (some ⟨p,0,none⟩):=(Ze hJ hi 18 (by kernel_rfl))
        exact Zh (Zc hJ hW hi hun rfl (by rfl) rfl (by decide) (by decide) (Ya _ (by decide)) (w':=w') (by simp [execOp,resolve,invoke,builtin,Act.eval,e77,l0,l1,go_sem,Je]) (⟨by decide,by kernel_rfl,True.intro⟩)) (fun a9 w9 h9=>⟨q2,gF,cF9,h9⟩)
      · have e78:a1.tmps.getD 78 undef = .pointer (some ⟨p,0,none⟩):=(Ze hJ hi 19 (by kernel_rfl))
        exact Zh (Zc hJ hW hi hun rfl (by rfl) rfl (by decide) (by decide) (Ya _ (by decide)) (w':=w') (by simp [execOp,resolve,invoke,builtin,Act.eval,e78,l0,l1,go_sem,Je]) (⟨by decide,by kernel_rfl,True.intro⟩)) (fun a9 w9 h9=>⟨q2,gF,cF9,h9⟩)
      · have e79:a1.tmps.getD 79 undef = .pointer (some ⟨p,2,none⟩):=(Ze hJ hi 20 (by kernel_rfl))
        have e76:a1.tmps.getD 76 undef = .slice (some ⟨gF,0,none⟩) (c.funcs.length+1) cF9:=(Ze hJ hi 17 (by kernel_rfl))
        have F17:=hW.f hns 17 (by decide) (Zb hi 17 (by kernel_rfl)) (Zdt (by decide))
        have bx2:=hg.block p hlt4 HNE
        have k1:=hg.cell c2 HNE
        have j1:w'.frozen? ⟨p,2,none⟩=false:=(World.frozen?_of_block bx2).trans z2
        have lb2:=Nat.lt_of_lt_of_le hlt4 hg.size
        have O17:w'.ownsRow w0.heap.size 61 4 (.slice (some ⟨gF,0,none⟩) (c.funcs.length+1) cF9) (c.funcs.length+1) (Yp c.funcs cv++[.int .i64 na,.int .i64 nl,.int .i64 nr,.slice none 0 0]):=F17
        have hall:∀ j,j<22->j≠21->l.getD j false=true:=by
         intro j hj hne
         rcases Zfr j hj with rfl|rfl|rfl|rfl|rfl|rfl|rfl|rfl|rfl|rfl|rfl|rfl|rfl|rfl|rfl|rfl|rfl|rfl|rfl|rfl|rfl|rfl
         · exact hW.cl (18,0) (by decide) (hW.cl (19,18) (by decide) (hW.cl (20,19) (by decide) (Zb hi 20 (by kernel_rfl))))
         · exact hW.cl (2,1) (by decide) (hW.cl (3,2) (by decide) (hW.cl (4,3) (by decide) (hW.cl (5,4) (by decide) (hW.cl (17,5) (by decide) (Zb hi 17 (by kernel_rfl))))))
         · exact hW.cl (3,2) (by decide) (hW.cl (4,3) (by decide) (hW.cl (5,4) (by decide) (hW.cl (17,5) (by decide) (Zb hi 17 (by kernel_rfl)))))
         · exact hW.cl (4,3) (by decide) (hW.cl (5,4) (by decide) (hW.cl (17,5) (by decide) (Zb hi 17 (by kernel_rfl))))
         · exact hW.cl (5,4) (by decide) (hW.cl (17,5) (by decide) (Zb hi 17 (by kernel_rfl)))
         · exact hW.cl (17,5) (by decide) (Zb hi 17 (by kernel_rfl))
         · exact hW.cl (7,6) (by decide) (hW.cl (8,7) (by decide) (hW.cl (15,8) (by decide) (hW.cl (16,15) (by decide) (hW.cl (17,16) (by decide) (Zb hi 17 (by kernel_rfl))))))
         · exact hW.cl (8,7) (by decide) (hW.cl (15,8) (by decide) (hW.cl (16,15) (by decide) (hW.cl (17,16) (by decide) (Zb hi 17 (by kernel_rfl)))))
         · exact hW.cl (15,8) (by decide) (hW.cl (16,15) (by decide) (hW.cl (17,16) (by decide) (Zb hi 17 (by kernel_rfl))))
         · exact hW.cl (10,9) (by decide) (hW.cl (11,10) (by decide) (hW.cl (15,11) (by decide) (hW.cl (16,15) (by decide) (hW.cl (17,16) (by decide) (Zb hi 17 (by kernel_rfl))))))
         · exact hW.cl (11,10) (by decide) (hW.cl (15,11) (by decide) (hW.cl (16,15) (by decide) (hW.cl (17,16) (by decide) (Zb hi 17 (by kernel_rfl)))))
         · exact hW.cl (15,11) (by decide) (hW.cl (16,15) (by decide) (hW.cl (17,16) (by decide) (Zb hi 17 (by kernel_rfl))))
         · exact hW.cl (13,12) (by decide) (hW.cl (14,13) (by decide) (hW.cl (15,14) (by decide) (hW.cl (16,15) (by decide) (hW.cl (17,16) (by decide) (Zb hi 17 (by kernel_rfl))))))
         · exact hW.cl (14,13) (by decide) (hW.cl (15,14) (by decide) (hW.cl (16,15) (by decide) (hW.cl (17,16) (by decide) (Zb hi 17 (by kernel_rfl)))))
         · exact hW.cl (15,14) (by decide) (hW.cl (16,15) (by decide) (hW.cl (17,16) (by decide) (Zb hi 17 (by kernel_rfl))))
         · exact hW.cl (16,15) (by decide) (hW.cl (17,16) (by decide) (Zb hi 17 (by kernel_rfl)))
         · exact hW.cl (17,16) (by decide) (Zb hi 17 (by kernel_rfl))
         · exact Zb hi 17 (by kernel_rfl)
         · exact hW.cl (19,18) (by decide) (hW.cl (20,19) (by decide) (Zb hi 20 (by kernel_rfl)))
         · exact hW.cl (20,19) (by decide) (Zb hi 20 (by kernel_rfl))
         · exact Zb hi 20 (by kernel_rfl)
         · exact absurd rfl hne
        exact Zh (Zbk (WS:=fun l9 w9=>Zcs 21 22 17 [(2,1),(3,2),(4,3),(5,4),(7,6),(8,7),(10,9),(11,10),(13,12),(14,13),(15,8),(15,11),(15,14),(16,15),(17,5),(17,16),(18,0),(19,18),(20,19),(21,20),(21,17)] [(16,17)] (fun w9=>World.grownBy w4.drew w9 vb) (fun w9=>w9.ownsRow w0.heap.size 61 4 (.slice pF c.funcs.length cF) c.funcs.length (Yp c.funcs cv)) (Ypv w0.heap.size p g k3 c.funcs.length cF na nl nr pF (Yp c.funcs cv) q2 gF cF9) (fun w9=>∃ (w8:World),World.grownBy w4.drew w8 vb/\w8.ownsRow w0.heap.size 61 4 (.slice (some ⟨gF,0,none⟩) (c.funcs.length+1) cF9) (c.funcs.length+1) (Yp c.funcs cv++[.int .i64 na,.int .i64 nl,.int .i64 nr,.slice none 0 0])/\w9=w8.setCell ⟨p,2,none⟩ (.slice (some ⟨gF,0,none⟩) (c.funcs.length+1) cF9)) l9 w9) hJ rfl rfl rfl (by decide) (by decide) (w':=w'.setCell ⟨p,2,none⟩ (.slice (some ⟨gF,0,none⟩) (c.funcs.length+1) cF9)) (by simp [execOp,Act.eval,e79,e76,k1,j1,lb2,go_sem]) (Jh hW (by decide) (by decide) hall (Zj _ hi (by kernel_rfl)) (⟨w',hg,O17,rfl⟩))) (fun a9 w9 h9=>⟨q2,gF,cF9,h9⟩)
     case fin =>
      intro l9 a1 w9 hJJ hl9
      obtain ⟨q2,gF,cF9,hJ,hW⟩:=hJJ
      have hq:=hW.q (hl9 21 (by decide))
      have hput:=Xw hJ rfl hl9 (fun i j h1 h2 h3=>Ya j h2 i h1 h3)
      subst hput
      clear hJ hW hl9 c2 d0 d1 d2
      obtain ⟨w8,q1,q2,rfl⟩:=hq
      (try refine hKA _ _ ?_)
      simp only [Jy,fnA,Je,Act.put,List.setIfInBounds_toArray,List.set_cons_zero,List.set_cons_succ]
      have M5:=Zvj AD4.out q2 (by rw [hvb];exact q1)
      generalize w8.setCell ⟨p,2,none⟩ (.slice (some ⟨gF,0,none⟩) (c.funcs.length+1) cF9)=w5 at *
      have A5:=Hq M5.1
      have FR5:=Hq (Zn FD4.out M5.2)
      clear q1 q2 M5
      obtain ⟨pL,cL,hvL⟩:=Zk A5.out.ins.lrow
      subst hvL
      have HL5:=Hq A5.out.ins.lrow
      have c5:w5.cell? ⟨p,5,none⟩=some (.slice pL lb.length cL):=Cq w5 p 5 _ _ _ A5.out.box
      have hlt5:p<w5.heap.size:=(Gs A5.out.box)
      have hlb:lb.length<=1000000:=by have:=A5.out.ins.len1;have:=A5.out.lens;have:=A5.out.ins.z2;simp only [] at *;omega
      have hE5:∀ o' o'',w0.heap.size<=((w5.alloc o').alloc o'').heap.size:=fun o' o''=>Yy (Yy A5.out.gr.size o') o''
      obtain ⟨mi,mi0,mi1,mi2,mi3⟩:=info_parts Zqr
      have hmm := @run_makeMap Tryz.prog
      have hc3:lb.length+1<=maxLen:=by unfold maxLen;omega
      have hc4:(lb.length+1)*8<=140737488355328:=by omega
      go_wp2_with (at_builtin;refine wpList_append_own_at _ rfl _ _ 67 rfl w0.heap.size 66 mi (.map none) 1 8 Zvv mi0 mi1 mi2 mi3 rfl (by decide) (.slice pL lb.length cL) _ _ rfl (World.ownsRow.alloc (World.ownsRow.alloc HL5.out _) _) ⟨w5.heap.size+1,0,none⟩ 1 1 [.map (some w5.heap.size)] rfl rfl (Zos w5 _ _ _) (Yby _) hc3 hc4 (hE5 _ _) ?_;intro v3 w6 hown3 hgr3 hnil3 hat3;obtain ⟨p3,kk3,hv3⟩:=Zk hown3;subst hv3;have LL:=Hq (Zqh A5.out (Ga _ _ none) hown3 hgr3);have B6:=Zmw A5.out (Za (Ga w5 (.map #[] 0) none) (Ga _ _ none)) hgr3;obtain ⟨k6,j6,l6⟩:=B6;clear hown3 hgr3 hnil3 hat3)
      clear hKA KA
      go_ret
      refine ⟨?_,Zn FR5.out LL.out.2,Zax LL.out.1⟩
      rw [HR.out]
      exact ⟨rfl,LL.out.1⟩
  | false =>
    go_upto_region 9 with fail
    have S3:=Hq (Zai S2.out (Zg (Zd w2 none)))
    have G3:=Hq (show w2.grownBy w2.drew (some p) from Zli (Zg (Zd w2 none)))
    generalize w2.drew=w3 at *
    rename_i K9 hK9
    obtain ⟨vd,vF,vL,vB,bm,cv,lb,hA⟩:=S3.out
    obtain ⟨pF,cF,hvF⟩:=Jc hA
    subst hvF
    have RW3:=Hq (RW2.out.kept G3.out (Znd RW2.out hpw))
    have PT3:=Hq (Xz PT2.out (Zby S2.out G3.out))
    have MM:=Hq hA.ins.fm
    have A3:=Hq (Yr hA (Zg (Zd w3 none)))
    have FR3:=Hq (Zn (Zn (Zby HS.out G2.out) (Zby S2.out G3.out)) (Yk (Zg (Zd w3 none))))
    obtain ⟨b',o',e,hb3,x0,x1,x2,x3⟩:=Xb PT3.out (i:=0) (q := .word nm) rfl
    injection e with e;injection e with e1 e2
    subst e1;subst e2
    simp only [Nat.zero_mul,Nat.add_zero,pcK,pcT,pcN,pcF] at x0 x1 x2 x3
    have c2:w3.cell? ⟨p,2,none⟩=some (.slice pF c.funcs.length cF):=Cq w3 p 2 _ _ _ hA.box
    have c4:w3.cell? ⟨p,4,none⟩=some (.map (some bm)):=Cq w3 p 4 _ _ _ hA.box
    have hlt3:p<w3.heap.size:=(Gs hA.box)
    have hz2:=hA.ins.z2
    clear hA
    refine Xa (n:=15) (J:=fun a0 l a1 w1=>RJ a0 90 15 f9 (f9v p b o cc bm c.funcs.length cF pF (bs nm) ) l a1/\Zcs 14 15 0 [(1,0),(2,1),(3,2),(5,4),(6,5),(7,6),(9,8),(10,9),(11,10),(12,11),(13,12),(14,3),(14,7),(14,13)] [] (fun w9=>w9=w3.drew) (fun _=>True) (f9F p b o cc bm c.funcs.length cF pF (bs nm) ) (fun w9=>Zfi w9 bm (m+1) (fun u=>if u=nm then some (c.funcs.length:Int) else c.fm u)/\World.grownBy w3.drew w9 (some bm)) l w1) (by kernel_rfl) rfl (Xx (by kernel_rfl)) (fun l a1 w1 h=>by obtain ⟨h,_⟩:=h;exact h.sz) ⟨Yz rfl,Yf (rfl) (True.intro)⟩ ?step ?fin
    case step =>
     intro l a1 w' i hJJ hi hin
     obtain ⟨hJ,hW⟩:=hJJ
     have hun:l.getD i false=false:=getD_both (mem_ready.1 hi).1
     have hns:=Jv hW hin hun
     have hg:=hW.g hns
     have l0:p<w'.heap.size:=by rw [hg];exact hlt3
     have l1:b<w'.heap.size:=by rw [hg];exact hb3
     rcases Yic i hin with rfl|rfl|rfl|rfl|rfl|rfl|rfl|rfl|rfl|rfl|rfl|rfl|rfl|rfl|rfl
     · have e0:a1.tmps.getD 0 undef = .pointer (some ⟨p,0,none⟩):=hJ.un 0 (fun i hi _=>Znr 0 (by decide) i hi)
       exact Zc hJ hW hi hun rfl (by rfl) rfl (by decide) (by decide) (Zae _ (by decide)) (w':=w') (by simp [execOp,resolve,invoke,builtin,Act.eval,e0,l0,l1,go_sem,f9v]) (⟨by decide,by kernel_rfl,True.intro⟩)
     · have e45:a1.tmps.getD 45 undef = .pointer (some ⟨p,0,none⟩):=(Ze hJ hi 0 (by kernel_rfl))
       exact Zc hJ hW hi hun rfl (by rfl) rfl (by decide) (by decide) (Zae _ (by decide)) (w':=w') (by simp [execOp,resolve,invoke,builtin,Act.eval,e45,l0,l1,go_sem,f9v]) (⟨by decide,by kernel_rfl,True.intro⟩)
     · have e46:a1.tmps.getD 46 undef = .pointer (some ⟨p,0,none⟩):=(Ze hJ hi 1 (by kernel_rfl))
       exact Zc hJ hW hi hun rfl (by rfl) rfl (by decide) (by decide) (Zae _ (by decide)) (w':=w') (by simp [execOp,resolve,invoke,builtin,Act.eval,e46,l0,l1,go_sem,f9v]) (⟨by decide,by kernel_rfl,True.intro⟩)
     · have e47:a1.tmps.getD 47 undef = .pointer (some ⟨p,4,none⟩):=(Ze hJ hi 2 (by kernel_rfl))
       have h0:=Yv c4 hg
       exact Zc hJ hW hi hun rfl (by rfl) rfl (by decide) (by decide) (Zae _ (by decide)) (w':=w') (by simp [execOp,resolve,invoke,builtin,Act.eval,e47,h0,l0,l1,go_sem,f9v]) (⟨by decide,by kernel_rfl,True.intro⟩)
     · have e1:a1.tmps.getD 1 undef = .slice (some ⟨b,o,none⟩) 4 cc:=hJ.un 1 (fun i hi _=>Znr 1 (by decide) i hi)
       exact Zc hJ hW hi hun rfl (by rfl) rfl (by decide) (by decide) (Zae _ (by decide)) (w':=w') (by simp [execOp,resolve,invoke,builtin,Act.eval,e1,l0,l1,go_sem,f9v]) (⟨by decide,by kernel_rfl,True.intro⟩)
     · have e49:a1.tmps.getD 49 undef = .slice (some ⟨b,o,none⟩) 4 cc:=(Ze hJ hi 4 (by kernel_rfl))
       exact Zc hJ hW hi hun rfl (by rfl) rfl (by decide) (by decide) (Zae _ (by decide)) (w':=w') (by first|(simp [execOp,resolve,invoke,builtin,Act.eval,e49,l0,l1,go_sem,f9v];done)|(simp [execOp,resolve,invoke,builtin,Act.eval,e49,l0,l1,go_sem,f9v];omega)|(simp [execOp,resolve,invoke,builtin,Act.eval,e49,l0,l1,go_sem,f9v];intro h;omega)|(simp [execOp,resolve,invoke,builtin,Act.eval,e49,l0,l1,go_sem,f9v];intros;omega)) (⟨by decide,by kernel_rfl,True.intro⟩)
     · have e50:a1.tmps.getD 50 undef = .pointer (some ⟨b,o,none⟩):=(Ze hJ hi 5 (by kernel_rfl))
       exact Zc hJ hW hi hun rfl (by rfl) rfl (by decide) (by decide) (Zae _ (by decide)) (w':=w') (by simp [execOp,resolve,invoke,builtin,Act.eval,e50,l0,l1,go_sem,f9v]) (⟨by decide,by kernel_rfl,True.intro⟩)
     · have e51:a1.tmps.getD 51 undef = .pointer (some ⟨b,o+1,none⟩):=(Ze hJ hi 6 (by kernel_rfl))
       have h0:=Yv x1 hg
       exact Zc hJ hW hi hun rfl (by rfl) rfl (by decide) (by decide) (Zae _ (by decide)) (w':=w') (by simp [execOp,resolve,invoke,builtin,Act.eval,e51,h0,l0,l1,go_sem,f9v]) (⟨by decide,by kernel_rfl,True.intro⟩)
     · have e0:a1.tmps.getD 0 undef = .pointer (some ⟨p,0,none⟩):=hJ.un 0 (fun i hi _=>Znr 0 (by decide) i hi)
       exact Zc hJ hW hi hun rfl (by rfl) rfl (by decide) (by decide) (Zae _ (by decide)) (w':=w') (by simp [execOp,resolve,invoke,builtin,Act.eval,e0,l0,l1,go_sem,f9v]) (⟨by decide,by kernel_rfl,True.intro⟩)
     · have e53:a1.tmps.getD 53 undef = .pointer (some ⟨p,0,none⟩):=(Ze hJ hi 8 (by kernel_rfl))
       exact Zc hJ hW hi hun rfl (by rfl) rfl (by decide) (by decide) (Zae _ (by decide)) (w':=w') (by simp [execOp,resolve,invoke,builtin,Act.eval,e53,l0,l1,go_sem,f9v]) (⟨by decide,by kernel_rfl,True.intro⟩)
     · have e54:a1.tmps.getD 54 undef = .pointer (some ⟨p,0,none⟩):=(Ze hJ hi 9 (by kernel_rfl))
       exact Zc hJ hW hi hun rfl (by rfl) rfl (by decide) (by decide) (Zae _ (by decide)) (w':=w') (by simp [execOp,resolve,invoke,builtin,Act.eval,e54,l0,l1,go_sem,f9v]) (⟨by decide,by kernel_rfl,True.intro⟩)
     · have e55:a1.tmps.getD 55 undef = .pointer (some ⟨p,0,none⟩):=(Ze hJ hi 10 (by kernel_rfl))
       exact Zc hJ hW hi hun rfl (by rfl) rfl (by decide) (by decide) (Zae _ (by decide)) (w':=w') (by simp [execOp,resolve,invoke,builtin,Act.eval,e55,l0,l1,go_sem,f9v]) (⟨by decide,by kernel_rfl,True.intro⟩)
     · have e56:a1.tmps.getD 56 undef = .pointer (some ⟨p,2,none⟩):=(Ze hJ hi 11 (by kernel_rfl))
       have h0:=Yv c2 hg
       exact Zc hJ hW hi hun rfl (by rfl) rfl (by decide) (by decide) (Zae _ (by decide)) (w':=w') (by simp [execOp,resolve,invoke,builtin,Act.eval,e56,h0,l0,l1,go_sem,f9v]) (⟨by decide,by kernel_rfl,True.intro⟩)
     · have e57:a1.tmps.getD 57 undef = .slice pF c.funcs.length cF:=(Ze hJ hi 12 (by kernel_rfl))
       exact Zc hJ hW hi hun rfl (by rfl) rfl (by decide) (by decide) (Zae _ (by decide)) (w':=w') (by simp [execOp,resolve,invoke,builtin,Act.eval,e57,l0,l1,go_sem,f9v]) (⟨by decide,by kernel_rfl,True.intro⟩)
     · have e48:a1.tmps.getD 48 undef = .map (some bm):=(Ze hJ hi 3 (by kernel_rfl))
       have e52:a1.tmps.getD 52 undef = .string (bs nm):=(Ze hJ hi 7 (by kernel_rfl))
       have e58:a1.tmps.getD 58 undef = .int .i64 (c.funcs.length:Int):=(Ze hJ hi 13 (by kernel_rfl))
       obtain ⟨w8,hmu,hM8,hg8⟩:=Zow (w:=w') (by rw [hg];exact Zw MM.out (Zg (Zd w3 none)) (by simp)) (by omega) nm ht (c.funcs.length:Int) (by omega)
       rw [hg] at hg8
       have hall:∀ j,j<15->j≠14->l.getD j false=true:=by
        intro j hj hne
        rcases Yic j hj with rfl|rfl|rfl|rfl|rfl|rfl|rfl|rfl|rfl|rfl|rfl|rfl|rfl|rfl|rfl
        · exact hW.cl (1,0) (by decide) (hW.cl (2,1) (by decide) (hW.cl (3,2) (by decide) (Zb hi 3 (by kernel_rfl))))
        · exact hW.cl (2,1) (by decide) (hW.cl (3,2) (by decide) (Zb hi 3 (by kernel_rfl)))
        · exact hW.cl (3,2) (by decide) (Zb hi 3 (by kernel_rfl))
        · exact Zb hi 3 (by kernel_rfl)
        · exact hW.cl (5,4) (by decide) (hW.cl (6,5) (by decide) (hW.cl (7,6) (by decide) (Zb hi 7 (by kernel_rfl))))
        · exact hW.cl (6,5) (by decide) (hW.cl (7,6) (by decide) (Zb hi 7 (by kernel_rfl)))
        · exact hW.cl (7,6) (by decide) (Zb hi 7 (by kernel_rfl))
        · exact Zb hi 7 (by kernel_rfl)
        · exact hW.cl (9,8) (by decide) (hW.cl (10,9) (by decide) (hW.cl (11,10) (by decide) (hW.cl (12,11) (by decide) (hW.cl (13,12) (by decide) (Zb hi 13 (by kernel_rfl))))))
        · exact hW.cl (10,9) (by decide) (hW.cl (11,10) (by decide) (hW.cl (12,11) (by decide) (hW.cl (13,12) (by decide) (Zb hi 13 (by kernel_rfl)))))
        · exact hW.cl (11,10) (by decide) (hW.cl (12,11) (by decide) (hW.cl (13,12) (by decide) (Zb hi 13 (by kernel_rfl))))
        · exact hW.cl (12,11) (by decide) (hW.cl (13,12) (by decide) (Zb hi 13 (by kernel_rfl)))
        · exact hW.cl (13,12) (by decide) (Zb hi 13 (by kernel_rfl))
        · exact Zb hi 13 (by kernel_rfl)
        · exact absurd rfl hne
       exact Zbk (WS:=fun l9 w9=>Zcs 14 15 0 [(1,0),(2,1),(3,2),(5,4),(6,5),(7,6),(9,8),(10,9),(11,10),(12,11),(13,12),(14,3),(14,7),(14,13)] [] (fun w9=>w9=w3.drew) (fun _=>True) (f9F p b o cc bm c.funcs.length cF pF (bs nm) ) (fun w9=>Zfi w9 bm (m+1) (fun u=>if u=nm then some (c.funcs.length:Int) else c.fm u)/\World.grownBy w3.drew w9 (some bm)) l9 w9) hJ rfl rfl rfl (by decide) (by decide) (w':=w8) (by simp [execOp,Act.eval,e48,e52,e58,hmu,go_sem]) (Jh hW (by decide) (by decide) hall (Zj _ hi (by kernel_rfl)) (⟨hM8,hg8⟩))
    case fin =>
     intro l9 a1 w4 hJJ hl9
     obtain ⟨hJ,hW⟩:=hJJ
     have hq:=hW.q (hl9 14 (by decide))
     have hput:=Xw hJ rfl hl9 (fun i j h1 h2 h3=>Zae j h2 i h1 h3)
     subst hput
     clear hJ hW hl9 c2 c4 x0 x1 x2 x3
     obtain ⟨q1,q2⟩:=hq
     (try refine hK9 _ _ ?_)
     simp only [Jy,f9,f9v,Act.put,List.setIfInBounds_toArray,List.set_cons_zero,List.set_cons_succ]
     have M4:=Ybm A3.out q1 q2
     have RW4:=Hq ((RW3.out.kept (Zg (Zd w3 none)) (Jw RW3.out)).kept q2 (Zab RW3.out MM.out))
     have A4:=Hq M4.1
     have FR4:=Hq (Zn FR3.out M4.2)
     clear q1 q2 M4
     obtain ⟨g4,cap4,hv4,hg4,hc4⟩:=Xc RW4.out (by simp)
     injection hv4 with hv4 _ hk4
     injection hv4 with hv4;injection hv4 with hv4
     subst hv4
     have d0:w4.cell? ⟨g,0,none⟩=some (.int .i64 na):=hc4 0 _ rfl (by simp)
     have d1:w4.cell? ⟨g,1,none⟩=some (.int .i64 nl):=hc4 1 _ rfl (by simp)
     have d2:w4.cell? ⟨g,2,none⟩=some (.int .i64 nr):=hc4 2 _ rfl (by simp)
     have c2:w4.cell? ⟨p,2,none⟩=some (.slice pF c.funcs.length cF):=Cq w4 p 2 _ _ _ A4.out.box
     have z2:=frozen_of_row w4 p 2 _ _ A4.out.box
     have hlt4:p<w4.heap.size:=(Gs A4.out.box)
     have HNE:some p≠(Value.slice pF c.funcs.length cF).ownBlock:=fun e=>Ye A4.out.ins.own.fr A4.out.box (by decide) e.symm
     have HNG:some g≠(Value.slice pF c.funcs.length cF).ownBlock:=Zpz A4.out.ins.own.fr RW4.out A4.out.gr.size (by decide)
     have hE4:=A4.out.gr.size
     have OWN4:=Hq (World.ownsRow.kept A4.out.ins.own.fr (Zg (Zd w4 none)) (Jw A4.out.ins.own.fr))
     have AD4:=Hq (Yr A4.out (Zg (Zd w4 none)))
     have FD4:=Hq (Zn FR4.out (Yk (Zg (Zd w4 none))))
     obtain ⟨fi,fi0,fi1,fi2,fi3⟩:=info_parts Zrf
     obtain ⟨vb,hvb⟩:∃ vb,(Value.slice pF c.funcs.length cF).ownBlock=vb:=⟨_,rfl⟩
     rw [hvb] at HNE HNG
     clear hc4 hk4
     go_upto_region 10 with fail
     rename_i KA hKA
     refine Xa (n:=22) (J:=fun a0 l a1 w1=>∃ (q2:Nat) (gF:Nat) (cF9:Nat),RJ a0 90 22 fnA (Je w0.heap.size p g k3 c.funcs.length cF na nl nr pF (Yp c.funcs cv) q2 gF cF9) l a1/\Zcs 21 22 17 [(2,1),(3,2),(4,3),(5,4),(7,6),(8,7),(10,9),(11,10),(13,12),(14,13),(15,8),(15,11),(15,14),(16,15),(17,5),(17,16),(18,0),(19,18),(20,19),(21,20),(21,17)] [(16,17)] (fun w9=>World.grownBy w4.drew w9 vb) (fun w9=>w9.ownsRow w0.heap.size 61 4 (.slice pF c.funcs.length cF) c.funcs.length (Yp c.funcs cv)) (Ypv w0.heap.size p g k3 c.funcs.length cF na nl nr pF (Yp c.funcs cv) q2 gF cF9) (fun w9=>∃ (w8:World),World.grownBy w4.drew w8 vb/\w8.ownsRow w0.heap.size 61 4 (.slice (some ⟨gF,0,none⟩) (c.funcs.length+1) cF9) (c.funcs.length+1) (Yp c.funcs cv++[.int .i64 na,.int .i64 nl,.int .i64 nr,.slice none 0 0])/\w9=w8.setCell ⟨p,2,none⟩ (.slice (some ⟨gF,0,none⟩) (c.funcs.length+1) cF9)) l w1) (by kernel_rfl) rfl (Xx (by kernel_rfl)) (fun l a1 w1 h=>by obtain ⟨_,_,_,h,_⟩:=h;exact h.sz) ⟨0,0,0,Yz rfl,Yf (Zd _ _) (OWN4.out)⟩ ?step ?fin
     case step =>
      intro l a1 w' i hJJ hi hin
      obtain ⟨q2,gF,cF9,hJ,hW⟩:=hJJ
      have hun:l.getD i false=false:=getD_both (mem_ready.1 hi).1
      have hns:=Jv hW hin hun
      have hg:=hW.g hns
      have l0:=Nat.lt_of_lt_of_le hlt4 hg.size
      have l1:=Nat.lt_of_lt_of_le hg4 hg.size
      rcases Zfr i hin with rfl|rfl|rfl|rfl|rfl|rfl|rfl|rfl|rfl|rfl|rfl|rfl|rfl|rfl|rfl|rfl|rfl|rfl|rfl|rfl|rfl|rfl
      · have e0:a1.tmps.getD 0 undef = .pointer (some ⟨p,0,none⟩):=hJ.un 0 (fun i hi _=>Zcp 0 (by decide) i hi)
        exact Zh (Zc hJ hW hi hun rfl (by rfl) rfl (by decide) (by decide) (Ya _ (by decide)) (w':=w') (by simp [execOp,resolve,invoke,builtin,Act.eval,e0,l0,l1,go_sem,Je]) (⟨by decide,by kernel_rfl,True.intro⟩)) (fun a9 w9 h9=>⟨q2,gF,cF9,h9⟩)
      · have e0:a1.tmps.getD 0 undef = .pointer (some ⟨p,0,none⟩):=hJ.un 0 (fun i hi _=>Zcp 0 (by decide) i hi)
        exact Zh (Zc hJ hW hi hun rfl (by rfl) rfl (by decide) (by decide) (Ya _ (by decide)) (w':=w') (by simp [execOp,resolve,invoke,builtin,Act.eval,e0,l0,l1,go_sem,Je]) (⟨by decide,by kernel_rfl,True.intro⟩)) (fun a9 w9 h9=>⟨q2,gF,cF9,h9⟩)
      · have e60:a1.tmps.getD 60 undef = .pointer (some ⟨p,0,none⟩):=(Ze hJ hi 1 (by kernel_rfl))
        exact Zh (Zc hJ hW hi hun rfl (by rfl) rfl (by decide) (by decide) (Ya _ (by decide)) (w':=w') (by simp [execOp,resolve,invoke,builtin,Act.eval,e60,l0,l1,go_sem,Je]) (⟨by decide,by kernel_rfl,True.intro⟩)) (fun a9 w9 h9=>⟨q2,gF,cF9,h9⟩)
      · have e61:a1.tmps.getD 61 undef = .pointer (some ⟨p,0,none⟩):=(Ze hJ hi 2 (by kernel_rfl))
        exact Zh (Zc hJ hW hi hun rfl (by rfl) rfl (by decide) (by decide) (Ya _ (by decide)) (w':=w') (by simp [execOp,resolve,invoke,builtin,Act.eval,e61,l0,l1,go_sem,Je]) (⟨by decide,by kernel_rfl,True.intro⟩)) (fun a9 w9 h9=>⟨q2,gF,cF9,h9⟩)
      · have e62:a1.tmps.getD 62 undef = .pointer (some ⟨p,0,none⟩):=(Ze hJ hi 3 (by kernel_rfl))
        exact Zh (Zc hJ hW hi hun rfl (by rfl) rfl (by decide) (by decide) (Ya _ (by decide)) (w':=w') (by simp [execOp,resolve,invoke,builtin,Act.eval,e62,l0,l1,go_sem,Je]) (⟨by decide,by kernel_rfl,True.intro⟩)) (fun a9 w9 h9=>⟨q2,gF,cF9,h9⟩)
      · have e63:a1.tmps.getD 63 undef = .pointer (some ⟨p,2,none⟩):=(Ze hJ hi 4 (by kernel_rfl))
        have h0:=hg.cell c2 HNE
        exact Zh (Zc hJ hW hi hun rfl (by rfl) rfl (by decide) (by decide) (Ya _ (by decide)) (w':=w') (by simp [execOp,resolve,invoke,builtin,Act.eval,e63,h0,l0,l1,go_sem,Je]) (⟨by decide,by kernel_rfl,True.intro⟩)) (fun a9 w9 h9=>⟨q2,gF,cF9,h9⟩)
      · have e5:a1.tmps.getD 5 undef = .slice (some ⟨g,0,none⟩) 3 k3:=hJ.un 5 (fun i hi _=>Zcp 5 (by decide) i hi)
        exact Zh (Zc hJ hW hi hun rfl (by rfl) rfl (by decide) (by decide) (Ya _ (by decide)) (w':=w') (by simp [execOp,resolve,invoke,builtin,Act.eval,e5,l0,l1,go_sem,Je]) (⟨by decide,by kernel_rfl,True.intro⟩)) (fun a9 w9 h9=>⟨q2,gF,cF9,h9⟩)
      · have e65:a1.tmps.getD 65 undef = .slice (some ⟨g,0,none⟩) 3 k3:=(Ze hJ hi 6 (by kernel_rfl))
        exact Zh (Zc hJ hW hi hun rfl (by rfl) rfl (by decide) (by decide) (Ya _ (by decide)) (w':=w') (by first|(simp [execOp,resolve,invoke,builtin,Act.eval,e65,l0,l1,go_sem,Je];done)|(simp [execOp,resolve,invoke,builtin,Act.eval,e65,l0,l1,go_sem,Je];omega)|(simp [execOp,resolve,invoke,builtin,Act.eval,e65,l0,l1,go_sem,Je];intro h;omega)|(simp [execOp,resolve,invoke,builtin,Act.eval,e65,l0,l1,go_sem,Je];intros;omega)) (⟨by decide,by kernel_rfl,True.intro⟩)) (fun a9 w9 h9=>⟨q2,gF,cF9,h9⟩)
      · have e66:a1.tmps.getD 66 undef = .pointer (some ⟨g,0,none⟩):=(Ze hJ hi 7 (by kernel_rfl))
        have h0:=hg.cell d0 HNG
        exact Zh (Zc hJ hW hi hun rfl (by rfl) rfl (by decide) (by decide) (Ya _ (by decide)) (w':=w') (by simp [execOp,resolve,invoke,builtin,Act.eval,e66,h0,l0,l1,go_sem,Je]) (⟨by decide,by kernel_rfl,True.intro⟩)) (fun a9 w9 h9=>⟨q2,gF,cF9,h9⟩)
      · have e5:a1.tmps.getD 5 undef = .slice (some ⟨g,0,none⟩) 3 k3:=hJ.un 5 (fun i hi _=>Zcp 5 (by decide) i hi)
        exact Zh (Zc hJ hW hi hun rfl (by rfl) rfl (by decide) (by decide) (Ya _ (by decide)) (w':=w') (by simp [execOp,resolve,invoke,builtin,Act.eval,e5,l0,l1,go_sem,Je]) (⟨by decide,by kernel_rfl,True.intro⟩)) (fun a9 w9 h9=>⟨q2,gF,cF9,h9⟩)
      · have e68:a1.tmps.getD 68 undef = .slice (some ⟨g,0,none⟩) 3 k3:=(Ze hJ hi 9 (by kernel_rfl))
        exact Zh (Zc hJ hW hi hun rfl (by rfl) rfl (by decide) (by decide) (Ya _ (by decide)) (w':=w') (by first|(simp [execOp,resolve,invoke,builtin,Act.eval,e68,l0,l1,go_sem,Je];done)|(simp [execOp,resolve,invoke,builtin,Act.eval,e68,l0,l1,go_sem,Je];omega)|(simp [execOp,resolve,invoke,builtin,Act.eval,e68,l0,l1,go_sem,Je];intro h;omega)|(simp [execOp,resolve,invoke,builtin,Act.eval,e68,l0,l1,go_sem,Je];intros;omega)) (⟨by decide,by kernel_rfl,True.intro⟩)) (fun a9 w9 h9=>⟨q2,gF,cF9,h9⟩)
      · have e69:a1.tmps.getD 69 undef = .pointer (some ⟨g,1,none⟩):=(Ze hJ hi 10 (by kernel_rfl))
        have h0:=hg.cell d1 HNG
        exact Zh (Zc hJ hW hi hun rfl (by rfl) rfl (by decide) (by decide) (Ya _ (by decide)) (w':=w') (by simp [execOp,resolve,invoke,builtin,Act.eval,e69,h0,l0,l1,go_sem,Je]) (⟨by decide,by kernel_rfl,True.intro⟩)) (fun a9 w9 h9=>⟨q2,gF,cF9,h9⟩)
      · have e5:a1.tmps.getD 5 undef = .slice (some ⟨g,0,none⟩) 3 k3:=hJ.un 5 (fun i hi _=>Zcp 5 (by decide) i hi)
        exact Zh (Zc hJ hW hi hun rfl (by rfl) rfl (by decide) (by decide) (Ya _ (by decide)) (w':=w') (by simp [execOp,resolve,invoke,builtin,Act.eval,e5,l0,l1,go_sem,Je]) (⟨by decide,by kernel_rfl,True.intro⟩)) (fun a9 w9 h9=>⟨q2,gF,cF9,h9⟩)
      · have e71:a1.tmps.getD 71 undef = .slice (some ⟨g,0,none⟩) 3 k3:=(Ze hJ hi 12 (by kernel_rfl))
        exact Zh (Zc hJ hW hi hun rfl (by rfl) rfl (by decide) (by decide) (Ya _ (by decide)) (w':=w') (by first|(simp [execOp,resolve,invoke,builtin,Act.eval,e71,l0,l1,go_sem,Je];done)|(simp [execOp,resolve,invoke,builtin,Act.eval,e71,l0,l1,go_sem,Je];omega)|(simp [execOp,resolve,invoke,builtin,Act.eval,e71,l0,l1,go_sem,Je];intro h;omega)|(simp [execOp,resolve,invoke,builtin,Act.eval,e71,l0,l1,go_sem,Je];intros;omega)) (⟨by decide,by kernel_rfl,True.intro⟩)) (fun a9 w9 h9=>⟨q2,gF,cF9,h9⟩)
      · have e72:a1.tmps.getD 72 undef = .pointer (some ⟨g,2,none⟩):=(Ze hJ hi 13 (by kernel_rfl))
        have h0:=hg.cell d2 HNG
        exact Zh (Zc hJ hW hi hun rfl (by rfl) rfl (by decide) (by decide) (Ya _ (by decide)) (w':=w') (by simp [execOp,resolve,invoke,builtin,Act.eval,e72,h0,l0,l1,go_sem,Je]) (⟨by decide,by kernel_rfl,True.intro⟩)) (fun a9 w9 h9=>⟨q2,gF,cF9,h9⟩)
      · have e67:a1.tmps.getD 67 undef = .int .i64 na:=(Ze hJ hi 8 (by kernel_rfl))
        have f67:=e67
        rw [Array.getD_eq_getD_getElem?] at f67
        have e70:a1.tmps.getD 70 undef = .int .i64 nl:=(Ze hJ hi 11 (by kernel_rfl))
        have f70:=e70
        rw [Array.getD_eq_getD_getElem?] at f70
        have e73:a1.tmps.getD 73 undef = .int .i64 nr:=(Ze hJ hi 14 (by kernel_rfl))
        have f73:=e73
        rw [Array.getD_eq_getD_getElem?] at f73
        exact Zh (Zc hJ hW hi hun rfl (by rfl) rfl (by decide) (by decide) (Ya _ (by decide)) (w':=w') (by simp [execOp,resolve,invoke,builtin,Act.eval,e67,f67,e70,f70,e73,f73,l0,l1,go_sem,Je]) (⟨by decide,by kernel_rfl,True.intro⟩)) (fun a9 w9 h9=>⟨q2,gF,cF9,h9⟩)
      · have e74:a1.tmps.getD 74 undef = .agg #[.int .i64 na,.int .i64 nl,.int .i64 nr,.slice none 0 0]:=(Ze hJ hi 15 (by kernel_rfl))
        have f74:=e74
        rw [Array.getD_eq_getD_getElem?] at f74
        refine Xf (v:=Je w0.heap.size p g k3 c.funcs.length cF na nl nr pF (Yp c.funcs cv) w'.heap.size gF cF9 16) (w':=w'.alloc (.cells #[.int .i64 na,.int .i64 nl,.int .i64 nr,.slice none 0 0] 61)) rfl (by rfl) (by simp [execOp,Act.eval,e74,f74,Ydg,Result.andThen,Je]) ⟨w'.heap.size,gF,cF9,?_,Zv hW (by decide) hun (by decide) (Zj _ hi (by kernel_rfl)) (Za hg (Ga _ _ _)) (fun hne0 hun0 hB0=>hB0.alloc _) (fun j hj hne hl hcu hF => ?_) (heap_alloc_new w' _)⟩
        · exact Xm (val:=Je w0.heap.size p g k3 c.funcs.length cF na nl nr pF (Yp c.funcs cv) w'.heap.size gF cF9) (Xo hJ (Ydm hW.cl hun)) (by decide) (by decide) (Ya _ (by decide))
        · rcases Zfr j hj with rfl|rfl|rfl|rfl|rfl|rfl|rfl|rfl|rfl|rfl|rfl|rfl|rfl|rfl|rfl|rfl|rfl|rfl|rfl|rfl|rfl|rfl
          · exact True.intro
          · exact True.intro
          · exact True.intro
          · exact True.intro
          · exact True.intro
          · exact True.intro
          · exact True.intro
          · exact True.intro
          · exact True.intro
          · exact True.intro
          · exact True.intro
          · exact True.intro
          · exact True.intro
          · exact True.intro
          · exact True.intro
          · exact True.intro
          · exact absurd rfl hne
          · exact Zm (hW.cl (17,16) (by decide) (hl)) hun
          · exact True.intro
          · exact True.intro
          · exact True.intro
          · exact True.intro
      · have e64:a1.tmps.getD 64 undef = .slice pF c.funcs.length cF:=(Ze hJ hi 5 (by kernel_rfl))
        have e75:a1.tmps.getD 75 undef = .slice (some ⟨q2,0,none⟩) 1 1:=(Ze hJ hi 16 (by kernel_rfl))
        have F16:=hW.f hns 16 (by decide) (Zb hi 16 (by kernel_rfl)) (Zcu (c:=17) (by decide) hun)
        have own:=hW.u hun
        obtain ⟨v8,w8,hap,hown,hgr,-⟩:=run_append_own_at (P:=Tryz.prog) w' w0.heap.size 24 24 61 fi (.agg #[.int .i64 0,.int .i64 0,.int .i64 0,.slice none 0 0]) 4 48 Zwf fi0 fi1 fi2 fi3 rfl (by decide) _ c.funcs.length (Yp c.funcs cv) own ⟨q2,0,none⟩ 1 1 [.int .i64 na,.int .i64 nl,.int .i64 nr,.slice none 0 0] rfl (Zhk F16) (Yqw _ _ _ _ _ _) (by unfold maxLen;omega) (by omega) (Nat.le_trans hE4 hg.size)
        rw [hvb] at hgr
        obtain ⟨gF2,cF92,hv⟩:=Zcc hown
        subst hv
        refine Xf (v:=Je w0.heap.size p g k3 c.funcs.length cF na nl nr pF (Yp c.funcs cv) q2 gF2 cF92 17) (w':=w8) rfl (by rfl) (by simp [execOp,resolve,invoke,builtin,Act.eval,e64,e75,hap,Result.andThen,Je]) ⟨q2,gF2,cF92,?_,Zv hW (by decide) hun (by decide) (Zj _ hi (by kernel_rfl)) (Za hg hgr) (fun hne0 hun0 hB0=>absurd rfl hne0) (fun j hj hne hl hcu hF => ?_) (hown)⟩
        · exact Xm (val:=Je w0.heap.size p g k3 c.funcs.length cF na nl nr pF (Yp c.funcs cv) q2 gF2 cF92) (Xo hJ (Ydl hW.cl hun)) (by decide) (by decide) (Ya _ (by decide))
        · rcases Zfr j hj with rfl|rfl|rfl|rfl|rfl|rfl|rfl|rfl|rfl|rfl|rfl|rfl|rfl|rfl|rfl|rfl|rfl|rfl|rfl|rfl|rfl|rfl
          · exact True.intro
          · exact True.intro
          · exact True.intro
          · exact True.intro
          · exact True.intro
          · exact True.intro
          · exact True.intro
          · exact True.intro
          · exact True.intro
          · exact True.intro
          · exact True.intro
          · exact True.intro
          · exact True.intro
          · exact True.intro
          · exact True.intro
          · exact True.intro
          · exact absurd rfl (hcu (16,17) (by decide) rfl).1
          · exact absurd rfl hne
          · exact True.intro
          · exact True.intro
          · exact True.intro
          · exact True.intro
      · have e59:a1.tmps.getD 59 undef = .pointer (some ⟨p,0,none⟩):=(Ze hJ hi 0 (by kernel_rfl))
        exact Zh (Zc hJ hW hi hun rfl (by rfl) rfl (by decide) (by decide) (Ya _ (by decide)) (w':=w') (by simp [execOp,resolve,invoke,builtin,Act.eval,e59,l0,l1,go_sem,Je]) (⟨by decide,by kernel_rfl,True.intro⟩)) (fun a9 w9 h9=>⟨q2,gF,cF9,h9⟩)
      · have e77:a1.tmps.getD 77 undef = .pointer (some ⟨p,0,none⟩):=(Ze hJ hi 18 (by kernel_rfl))
        exact Zh (Zc hJ hW hi hun rfl (by rfl) rfl (by decide) (by decide) (Ya _ (by decide)) (w':=w') (by simp [execOp,resolve,invoke,builtin,Act.eval,e77,l0,l1,go_sem,Je]) (⟨by decide,by kernel_rfl,True.intro⟩)) (fun a9 w9 h9=>⟨q2,gF,cF9,h9⟩)
      · have e78:a1.tmps.getD 78 undef = .pointer (some ⟨p,0,none⟩):=(Ze hJ hi 19 (by kernel_rfl))
        exact Zh (Zc hJ hW hi hun rfl (by rfl) rfl (by decide) (by decide) (Ya _ (by decide)) (w':=w') (by simp [execOp,resolve,invoke,builtin,Act.eval,e78,l0,l1,go_sem,Je]) (⟨by decide,by kernel_rfl,True.intro⟩)) (fun a9 w9 h9=>⟨q2,gF,cF9,h9⟩)
      · have e79:a1.tmps.getD 79 undef = .pointer (some ⟨p,2,none⟩):=(Ze hJ hi 20 (by kernel_rfl))
        have e76:a1.tmps.getD 76 undef = .slice (some ⟨gF,0,none⟩) (c.funcs.length+1) cF9:=(Ze hJ hi 17 (by kernel_rfl))
        have F17:=hW.f hns 17 (by decide) (Zb hi 17 (by kernel_rfl)) (Zdt (by decide))
        have bx2:=hg.block p hlt4 HNE
        have k1:=hg.cell c2 HNE
        have j1:w'.frozen? ⟨p,2,none⟩=false:=(World.frozen?_of_block bx2).trans z2
        have lb2:=Nat.lt_of_lt_of_le hlt4 hg.size
        have O17:w'.ownsRow w0.heap.size 61 4 (.slice (some ⟨gF,0,none⟩) (c.funcs.length+1) cF9) (c.funcs.length+1) (Yp c.funcs cv++[.int .i64 na,.int .i64 nl,.int .i64 nr,.slice none 0 0]):=F17
        have hall:∀ j,j<22->j≠21->l.getD j false=true:=by
         intro j hj hne
         rcases Zfr j hj with rfl|rfl|rfl|rfl|rfl|rfl|rfl|rfl|rfl|rfl|rfl|rfl|rfl|rfl|rfl|rfl|rfl|rfl|rfl|rfl|rfl|rfl
         · exact hW.cl (18,0) (by decide) (hW.cl (19,18) (by decide) (hW.cl (20,19) (by decide) (Zb hi 20 (by kernel_rfl))))
         · exact hW.cl (2,1) (by decide) (hW.cl (3,2) (by decide) (hW.cl (4,3) (by decide) (hW.cl (5,4) (by decide) (hW.cl (17,5) (by decide) (Zb hi 17 (by kernel_rfl))))))
         · exact hW.cl (3,2) (by decide) (hW.cl (4,3) (by decide) (hW.cl (5,4) (by decide) (hW.cl (17,5) (by decide) (Zb hi 17 (by kernel_rfl)))))
         · exact hW.cl (4,3) (by decide) (hW.cl (5,4) (by decide) (hW.cl (17,5) (by decide) (Zb hi 17 (by kernel_rfl))))
         · exact hW.cl (5,4) (by decide) (hW.cl (17,5) (by decide) (Zb hi 17 (by kernel_rfl)))
         · exact hW.cl (17,5) (by decide) (Zb hi 17 (by kernel_rfl))
         · exact hW.cl (7,6) (by decide) (hW.cl (8,7) (by decide) (hW.cl (15,8) (by decide) (hW.cl (16,15) (by decide) (hW.cl (17,16) (by decide) (Zb hi 17 (by kernel_rfl))))))
         · exact hW.cl (8,7) (by decide) (hW.cl (15,8) (by decide) (hW.cl (16,15) (by decide) (hW.cl (17,16) (by decide) (Zb hi 17 (by kernel_rfl)))))
         · exact hW.cl (15,8) (by decide) (hW.cl (16,15) (by decide) (hW.cl (17,16) (by decide) (Zb hi 17 (by kernel_rfl))))
         · exact hW.cl (10,9) (by decide) (hW.cl (11,10) (by decide) (hW.cl (15,11) (by decide) (hW.cl (16,15) (by decide) (hW.cl (17,16) (by decide) (Zb hi 17 (by kernel_rfl))))))
         · exact hW.cl (11,10) (by decide) (hW.cl (15,11) (by decide) (hW.cl (16,15) (by decide) (hW.cl (17,16) (by decide) (Zb hi 17 (by kernel_rfl)))))
         · exact hW.cl (15,11) (by decide) (hW.cl (16,15) (by decide) (hW.cl (17,16) (by decide) (Zb hi 17 (by kernel_rfl))))
         · exact hW.cl (13,12) (by decide) (hW.cl (14,13) (by decide) (hW.cl (15,14) (by decide) (hW.cl (16,15) (by decide) (hW.cl (17,16) (by decide) (Zb hi 17 (by kernel_rfl))))))
         · exact hW.cl (14,13) (by decide) (hW.cl (15,14) (by decide) (hW.cl (16,15) (by decide) (hW.cl (17,16) (by decide) (Zb hi 17 (by kernel_rfl)))))
         · exact hW.cl (15,14) (by decide) (hW.cl (16,15) (by decide) (hW.cl (17,16) (by decide) (Zb hi 17 (by kernel_rfl))))
         · exact hW.cl (16,15) (by decide) (hW.cl (17,16) (by decide) (Zb hi 17 (by kernel_rfl)))
         · exact hW.cl (17,16) (by decide) (Zb hi 17 (by kernel_rfl))
         · exact Zb hi 17 (by kernel_rfl)
         · exact hW.cl (19,18) (by decide) (hW.cl (20,19) (by decide) (Zb hi 20 (by kernel_rfl)))
         · exact hW.cl (20,19) (by decide) (Zb hi 20 (by kernel_rfl))
         · exact Zb hi 20 (by kernel_rfl)
         · exact absurd rfl hne
        exact Zh (Zbk (WS:=fun l9 w9=>Zcs 21 22 17 [(2,1),(3,2),(4,3),(5,4),(7,6),(8,7),(10,9),(11,10),(13,12),(14,13),(15,8),(15,11),(15,14),(16,15),(17,5),(17,16),(18,0),(19,18),(20,19),(21,20),(21,17)] [(16,17)] (fun w9=>World.grownBy w4.drew w9 vb) (fun w9=>w9.ownsRow w0.heap.size 61 4 (.slice pF c.funcs.length cF) c.funcs.length (Yp c.funcs cv)) (Ypv w0.heap.size p g k3 c.funcs.length cF na nl nr pF (Yp c.funcs cv) q2 gF cF9) (fun w9=>∃ (w8:World),World.grownBy w4.drew w8 vb/\w8.ownsRow w0.heap.size 61 4 (.slice (some ⟨gF,0,none⟩) (c.funcs.length+1) cF9) (c.funcs.length+1) (Yp c.funcs cv++[.int .i64 na,.int .i64 nl,.int .i64 nr,.slice none 0 0])/\w9=w8.setCell ⟨p,2,none⟩ (.slice (some ⟨gF,0,none⟩) (c.funcs.length+1) cF9)) l9 w9) hJ rfl rfl rfl (by decide) (by decide) (w':=w'.setCell ⟨p,2,none⟩ (.slice (some ⟨gF,0,none⟩) (c.funcs.length+1) cF9)) (by simp [execOp,Act.eval,e79,e76,k1,j1,lb2,go_sem]) (Jh hW (by decide) (by decide) hall (Zj _ hi (by kernel_rfl)) (⟨w',hg,O17,rfl⟩))) (fun a9 w9 h9=>⟨q2,gF,cF9,h9⟩)
     case fin =>
      intro l9 a1 w9 hJJ hl9
      obtain ⟨q2,gF,cF9,hJ,hW⟩:=hJJ
      have hq:=hW.q (hl9 21 (by decide))
      have hput:=Xw hJ rfl hl9 (fun i j h1 h2 h3=>Ya j h2 i h1 h3)
      subst hput
      clear hJ hW hl9 c2 d0 d1 d2
      obtain ⟨w8,q1,q2,rfl⟩:=hq
      (try refine hKA _ _ ?_)
      simp only [Jy,fnA,Je,Act.put,List.setIfInBounds_toArray,List.set_cons_zero,List.set_cons_succ]
      have M5:=Zvj AD4.out q2 (by rw [hvb];exact q1)
      generalize w8.setCell ⟨p,2,none⟩ (.slice (some ⟨gF,0,none⟩) (c.funcs.length+1) cF9)=w5 at *
      have A5:=Hq M5.1
      have FR5:=Hq (Zn FD4.out M5.2)
      clear q1 q2 M5
      obtain ⟨pL,cL,hvL⟩:=Zk A5.out.ins.lrow
      subst hvL
      have HL5:=Hq A5.out.ins.lrow
      have c5:w5.cell? ⟨p,5,none⟩=some (.slice pL lb.length cL):=Cq w5 p 5 _ _ _ A5.out.box
      have hlt5:p<w5.heap.size:=(Gs A5.out.box)
      have hlb:lb.length<=1000000:=by have:=A5.out.ins.len1;have:=A5.out.lens;have:=A5.out.ins.z2;simp only [] at *;omega
      have hE5:∀ o' o'',w0.heap.size<=((w5.alloc o').alloc o'').heap.size:=fun o' o''=>Yy (Yy A5.out.gr.size o') o''
      obtain ⟨mi,mi0,mi1,mi2,mi3⟩:=info_parts Zqr
      have hmm := @run_makeMap Tryz.prog
      have hc3:lb.length+1<=maxLen:=by unfold maxLen;omega
      have hc4:(lb.length+1)*8<=140737488355328:=by omega
      go_wp2_with (at_builtin;refine wpList_append_own_at _ rfl _ _ 67 rfl w0.heap.size 66 mi (.map none) 1 8 Zvv mi0 mi1 mi2 mi3 rfl (by decide) (.slice pL lb.length cL) _ _ rfl (World.ownsRow.alloc (World.ownsRow.alloc HL5.out _) _) ⟨w5.heap.size+1,0,none⟩ 1 1 [.map (some w5.heap.size)] rfl rfl (Zos w5 _ _ _) (Yby _) hc3 hc4 (hE5 _ _) ?_;intro v3 w6 hown3 hgr3 hnil3 hat3;obtain ⟨p3,kk3,hv3⟩:=Zk hown3;subst hv3;have LL:=Hq (Zqh A5.out (Ga _ _ none) hown3 hgr3);have B6:=Zmw A5.out (Za (Ga w5 (.map #[] 0) none) (Ga _ _ none)) hgr3;obtain ⟨k6,j6,l6⟩:=B6;clear hown3 hgr3 hnil3 hat3)
      clear hKA KA
      go_ret
      refine ⟨?_,Zn FR5.out LL.out.2,Zax LL.out.1⟩
      rw [HR.out]
      exact ⟨rfl,LL.out.1⟩
theorem Yae {q:Pc} (h:pcK q=0):∃ t,q = .word t:=by cases q <;> simp [pcK] at h;exact ⟨_,rfl⟩
theorem Yjx {q:Pc} (h:pcK q≠0) (c:CS) (x:Option Int) (rest:List Pc):Zek c x (q::rest)=none:=by
 cases q <;> first|rfl|(simp [pcK] at h)
theorem Zjg (w0 w:World) (p m:Nat) (c:CS) (x:Option Int) (ps:List Pc) (pp:Option Addr) (cc:Nat) (h:PS w0 w p m c (Zeg x)) (hp:Zhr w pp ps) (hn:ps.length<=70000) (hcc:ps.length<=cc) (hN:∀ t,.word t∈ps->t.length<=1000000) (hm:m+2<=1000000) :
 Calls Tryz.prog 79 #[.pointer (some ⟨p,0,none⟩),.slice pp ps.length cc] w (Zp w0 w p (m+2) (Zek c x ps)):=by
 have HS:=Hq h
 by_cases hl:ps.length=4
 · obtain ⟨q,rest,rfl⟩:∃ q rest,ps=q::rest:=by
    cases ps with
    | nil=>simp at hl
    | cons a r=>exact ⟨a,r,rfl⟩
   have hl3:rest.length=3:=by simpa using hl
   obtain ⟨b,o,rfl,hb,d0,d1,d2,d3⟩:=Xb hp (i:=0) (q:=q) rfl
   simp only [Nat.zero_mul,Nat.add_zero] at d0 d1 d2 d3
   by_cases hk:pcK q=0
   · obtain ⟨nm,rfl⟩:=Yae hk
     rw [hl]
     cases hnum:Zda rest 3 with
     | some xs =>
       have hx:xs.length=3:=by
        unfold Zda at hnum
        split at hnum
        · injection hnum with hnum
          subst hnum;rw [List.length_map];omega
        · cases hnum
       match xs,hx with
       | [na,nl,nr],_=>exact Yqn w0 w p m c x nm rest na nl nr b o cc h hp hl3 (by omega) hnum (hN nm (by simp)) hm
     | none =>
       have HR:=Hq (show Zek c x (.word nm::rest)=none by unfold Zek;simp only [hnum])
       have NM:=Hq (show ∀ cc',Calls Tryz.prog 113 #[.pointer (some ⟨p,0,none⟩),.slice (some ⟨b,o+4,none⟩) 3 cc',.int .i64 3] w fun e w' =>
        (e = .returned (.tuple #[.slice none 0 0,Zzc 141])/\∃ x',PS w0 w' p m c (Zeg x'))/\w.grownBy w' (some p) from fun cc'=>by
        have:=Zfy w0 w p m c x rest (some ⟨b,o+4,none⟩) cc' 3 h (Zog hp) (by omega) (by decide)
        rw [hl3] at this
        unfold Zho at this
        rw [hnum] at this
        exact this)
       have hci:(4:Int)<=cc:=by omega
       simp only [pcK,pcT,pcN,pcF] at d0 d1 d2 d3
       clear h hp hnum hl hl3 hk hcc
       go_enter Tryz.func79,Tryz.ntmps79
       go_wp2_with (go_at_call 113;refine (NM.out _).mono ?_;rintro e w2 ⟨⟨rfl,x',hps⟩,hg⟩;have S2:=Hq hps;have G2:=Hq hg;clear hps hg)
       go_ret
       rw [HR.out]
       exact ⟨rfl,Zby HS.out G2.out,Zax S2.out⟩
   · have HR:=Hq (Yjx hk c x rest)
     have hb2:(pcK q != 0)=true:=by rw [bne_iff_ne];exact hk
     rw [hl]
     generalize pcK q=v0 at *
     generalize bs (pcT q)=v1 at *
     generalize pcN q=v2 at *
     generalize pcF q=v3 at *
     clear hp hk h hl hl3
     go_enter Tryz.func79,Tryz.ntmps79
     go_wp2
     go_ret
     rw [HR.out]
     exact ⟨rfl,Zim _,Zax HS.out⟩
 · have HR:=Hq (show Zek c x ps=none by
    unfold Zek
    split
    · rename_i nm rest
      have:Zda rest 3=none:=by
       unfold Zda
       rw [if_neg]
       rintro ⟨h1,_⟩
       simp at hl;omega
      simp only [this]
    · rfl)
   have hb:((ps.length:Int) != 4)=true:=by rw [bne_iff_ne];omega
   clear hl hp h
   go_enter Tryz.func79,Tryz.ntmps79
   go_wp2
   go_ret
   rw [HR.out]
   exact ⟨rfl,Zim _,Zax HS.out⟩
theorem Yca {q:Pc} (h:pcK q=1):∃ v b,q = .num v b:=by cases q <;> simp [pcK] at h;exact ⟨_,_,rfl⟩
theorem Yqm (w0 ww w:World) (p m k gF cF b o b9 bi cc:Nat) (line:Int) (c:CS) (x:Option Int) (n:Nat) (kd:Int) (q0:Pc) (vd vL vB:Value) (bm:Nat) (cv:List Value) (lb:List Nat) (vc:Value) (rest:List Pc)
 (h:Zev w0 ww w p m k gF cF b o b9 bi c x n kd q0 rest vd vL vB bm cv lb vc) (hcc:rest.length+1<=cc) (hl:rest.length<=70000) (hm:m+2<=1000000) (R:Option (CS × Option Int)) (hR:R=Zgi line c x n kd rest) (a:Act) (ha:Zzx p b o rest.length cc b9 k gF bi line a) (K:Act->World->Prop) (hK:∀ a w,Code.wp Tryz.prog (Zdv Tryz.f80 8) (bodyPost Tryz.prog Tryz.f80 (Zp w0 ww p (m+2) R)) a w->K a w) :
 Code.wp Tryz.prog (Zjl Tryz.f80 8) (Exit.then K (bodyPost Tryz.prog Tryz.f80 (Zp w0 ww p (m+2) R))) a w:=by
 subst hR
 by_cases h0:kd=0
 · cases rest with
   | nil =>
     rw [show Zgi line c x n kd []=some (Zgt c (n,0),x) by unfold Zgi;rw [if_pos h0]]  at hK ⊢
     exact Yhq w0 ww w p m k gF cF b o b9 bi cc line c x n kd q0 vd vL vB bm cv lb vc h0 h hcc hl hm _ rfl a ha K hK
   | cons r rs =>
     rw [show Zgi line c x n kd (r::rs)=none by unfold Zgi;rw [if_pos h0]] at hK ⊢
     exact Zrb w0 ww w p m k gF cF b o b9 bi cc line c x n kd q0 vd vL vB bm cv lb vc r rs h0 h hcc hl hm _ rfl a ha K hK
 · by_cases h1:rest.length=1
   · obtain ⟨q,rfl⟩:∃ q,rest=[q]:=by
      cases rest with
      | nil=>simp at h1
      | cons a r=>cases r with|nil=>exact ⟨a,rfl⟩|cons b r=>simp at h1
     by_cases k1:pcK q=1
     · obtain ⟨v,bg,rfl⟩:=Yca k1
       cases bg with
       | false =>
         rw [show Zgi line c x n kd [.num v false]=some (Zgt c (n,v),x) by unfold Zgi;rw [if_neg h0];rfl] at hK ⊢
         exact Yly w0 ww w p m k gF cF b o b9 bi cc line c x n kd q0 vd vL vB bm cv lb vc v h0 h hcc hl hm _ rfl a ha K hK
       | true =>
         rw [show Zgi line c x n kd [.num v true]=some (Zgt c (n,v),amV x 143) by unfold Zgi;rw [if_neg h0];rfl] at hK ⊢
         exact Yma w0 ww w p m k gF cF b o b9 bi cc line c x n kd q0 vd vL vB bm cv lb vc v h0 h hcc hl hm _ rfl a ha K hK
     · by_cases k0:pcK q=0
       · obtain ⟨s,rfl⟩:=Yae k0
         by_cases h34:kd=3\/kd=4
         · rw [show Zgi line c x n kd [.word s]=some (Zgt (Zws c line s (kd == 4)) (n,0),x) by unfold Zgi;rw [if_neg h0];simp only [if_pos h34]] at hK ⊢
           exact Ylz w0 ww w p m k gF cF b o b9 bi cc line c x n kd q0 vd vL vB bm cv lb vc s h34 h hcc hl hm _ rfl a ha K hK
         · by_cases h5:kd=5
           · cases hj:Xi callT s with
             | none =>
               rw [show Zgi line c x n kd [.word s]=none by unfold Zgi;rw [if_neg h0];simp only [if_neg h34,if_pos h5,hj]] at hK ⊢
               exact Ztz w0 ww w p m k gF cF b o b9 bi cc line c x n kd q0 vd vL vB bm cv lb vc s h5 hj h hcc hl hm _ rfl a ha K hK
             | some j =>
               rw [show Zgi line c x n kd [.word s]=some (Zgt c (n,(j:Int)),x) by unfold Zgi;rw [if_neg h0];simp only [if_neg h34,if_pos h5,hj]] at hK ⊢
               exact Ylx w0 ww w p m k gF cF b o b9 bi cc line c x n kd q0 vd vL vB bm cv lb vc s j h5 hj h hcc hl hm _ rfl a ha K hK
           · rw [show Zgi line c x n kd [.word s]=none by unfold Zgi;rw [if_neg h0];simp only [if_neg h34,if_neg h5]] at hK ⊢
             exact Yhp w0 ww w p m k gF cF b o b9 bi cc line c x n kd q0 vd vL vB bm cv lb vc s h0 (fun e=>h34 (Or.inl e)) (fun e=>h34 (Or.inr e)) h5 h hcc hl hm _ rfl a ha K hK
       · rw [show Zgi line c x n kd [q]=none by
          unfold Zgi
          rw [if_neg h0]
          cases q <;> first|rfl|(exact absurd rfl k1)|(exact absurd rfl k0)] at hK ⊢
         exact Yhs w0 ww w p m k gF cF b o b9 bi cc line c x n kd q0 vd vL vB bm cv lb vc q h0 k1 k0 h hcc hl hm _ rfl a ha K hK
   · rw [show Zgi line c x n kd rest=none by
      unfold Zgi
      rw [if_neg h0]
      match rest,h1 with
      | [],_=>rfl
      | [_],h=>exact absurd rfl h
      | _::_::_,_=>simp] at hK ⊢
     exact Yhr w0 ww w p m k gF cF b o b9 bi cc line c x n kd q0 vd vL vB bm cv lb vc rest h0 h1 h hcc hl hm _ rfl a ha K hK
theorem Ydd {w0 ww w:World} {p m k gF cF b o:Nat} {c:CS} {x:Option Int} {n:Nat} {kd tk gv:Int} {nm:ByteArray} {q0:Pc} {rest:List Pc} {vd vL vB:Value} {bm:Nat} {cv:List Value} {lb:List Nat} {vc:Value} (h:Zge w0 w p m c (Zeg x) vd (.slice (some ⟨gF,0,none⟩) c.funcs.length cF) vL vB bm cv lb)
 (hk:c.funcs.length=k+1) (hv:cv[k]? = some vc) (hp:Zhr w (some ⟨b,o,none⟩) (q0::rest)) (hf:Fr ww w) :
 Zev w0 ww ((w.alloc (.cells #[.string nm,.int .i64 kd,.int .i64 tk,.int .i64 gv] 144)).alloc (.cells #[.int .i64 n,.int .i64 0] 58)) p m k gF cF b o w.heap.size (w.heap.size+1) c x n kd q0 rest vd vL vB bm cv lb vc:=by
 have g1:=Ga w (.cells #[.string nm,.int .i64 kd,.int .i64 tk,.int .i64 gv] 144) none
 have g2:=Ga (w.alloc (.cells #[.string nm,.int .i64 kd,.int .i64 tk,.int .i64 gv] 144)) (.cells #[.int .i64 n,.int .i64 0] 58) none
 have g:=Za g1 g2
 have h2:=heap_alloc_new (w.alloc (.cells #[.string nm,.int .i64 kd,.int .i64 tk,.int .i64 gv] 144)) (.cells #[.int .i64 n,.int .i64 0] 58)
 rw [World.size_alloc] at h2
 have hE:=h.gr.size
 refine ⟨Yr h g,hk,hv,Xz hp (Yk g),⟨nm,tk,gv,Zf (heap_alloc_new w _) g2 (by simp)⟩,h2,by omega,fun j v hj e => ?_,Zn hf (Yk g)⟩
 have hjl:j<c.funcs.length:=by rw [<- h.ins.own.cl];exact (List.getElem?_eq_some_iff.1 hj).1
 have:=(World.ownsRow.lt (h.ins.own.each j _ v (List.getElem?_eq_getElem hjl) hj) _ e).2
 omega
theorem Zqz (w0 w:World) (p m:Nat) (line:Int) (c:CS) (x:Option Int) (t:Txt) (rest:List Pc) (b o cc:Nat) (h:PS w0 w p m c (Zeg x)) (hp:Zhr w (some ⟨b,o,none⟩) (.word t::rest)) (hcc:rest.length+1<=cc) (hl:rest.length<=70000) (hm:m+2<=1000000) :
 Calls Tryz.prog 80 #[.pointer (some ⟨p,0,none⟩),.int .i64 line,.slice (some ⟨b,o,none⟩) (rest.length+1) cc] w (Zp w0 w p (m+2) (Zii line c x (.word t::rest))):=by
 have HS:=Hq h
 have HP:=Hq hp
 have NM0:=Ycd (bs t) w
 rw [Zep] at NM0
 obtain ⟨b',o',e,hb,d0,d1,d2,d3⟩:=Xb hp (i:=0) (q := .word t) rfl
 injection e with e;injection e with e1 e2
 subst e1;subst e2
 simp only [Nat.zero_mul,Nat.add_zero,pcK,pcT,pcN,pcF] at d0 d1 d2 d3
 cases hn:Xi shapeT t with
 | none =>
   have HR:=Hq (show Zii line c x (.word t::rest)=none by unfold Zii;simp only [hn])
   rw [hn] at NM0
   simp only [Zgw] at NM0
   have NM:=Hq NM0
   clear NM0 hn h hp
   go_enter Tryz.func80,Tryz.ntmps80
   go_wp2_with (go_at_call 114;refine NM.out.mono ?_;rintro e w2 ⟨rfl,hg⟩;have G2:=Hq hg;clear hg)
   go_ret
   rw [HR.out]
   exact ⟨rfl,Yk G2.out,Za (Zax HS.out) G2.out⟩
 | some n =>
   rw [hn] at NM0
   simp only [Zgw] at NM0
   have NM:=Hq NM0
   clear NM0
   by_cases hk0:c.funcs.length=0
   · have HR:=Hq (show Zii line c x (.word t::rest)=none by unfold Zii;simp only [hn,if_pos hk0])
     have hki:(c.funcs.length:Int)=0:=by omega
     clear hn h hp hk0
     go_enter Tryz.func80,Tryz.ntmps80
     go_wp2_with (go_at_call 114;refine NM.out.mono ?_;rintro e w2 ⟨rfl,hg⟩;have G2:=Hq hg;clear hg;obtain ⟨vd,vF,vL,vB,bm,cv,lb,hA⟩:=Zai HS.out G2.out;obtain ⟨pF,cF,hvF⟩:=Jc hA;subst hvF;have c2:w2.cell? ⟨p,2,none⟩=some (.slice pF c.funcs.length cF):=Cq w2 p 2 _ _ _ hA.box;have hlt:p<w2.heap.size:=(Gs hA.box);clear hA)
     go_ret
     rw [HR.out]
     exact ⟨rfl,Yk G2.out,Za (Zax HS.out) G2.out⟩
   · obtain ⟨k,hk⟩:∃ k,c.funcs.length=k+1:=⟨c.funcs.length - 1,by omega⟩
     have hkd:Zii line c x (.word t::rest)=Zgi line c x n (Zig n) rest:=by unfold Zii;simp only [hn,if_neg hk0]
     rw [hkd]
     have hn46:n<46:=by
      unfold Xi at hn
      rw [List.findIdx?_eq_some_iff_getElem] at hn
      have:=hn.1
      rwa [Zbj] at this
     obtain ⟨⟨nm,kd,tk,gv⟩,hr⟩:∃ r,shapeT[n]? = some r:=⟨_,List.getElem?_eq_getElem (by rw [Zbj];exact hn46)⟩
     have hkn:Zig n=kd:=by unfold Zig;rw [hr];rfl
     rw [hkn]
     have OF0:=Yjj n
     rw [show Zr (n:Int)=some (nm,kd,tk,gv) by unfold Zr;rw [if_pos ⟨by omega,by omega⟩,Int.toNat_natCast];exact hr] at OF0
     simp only [Zmq] at OF0
     have OF:=Hq OF0
     have HK:=Hq hk
     have hki:(k:Int)<=1000000:=by obtain ⟨vd,vF,vL,vB,bm,cv,lb,hA⟩:=h;have:=hA.ins.z2;omega
     have HI:=Hq (fun (ww w:World) (gF cF b9 bi:Nat) (vd vL vB:Value) (bm:Nat) (cv:List Value) (lb:List Nat) (vc:Value) h a ha K hK=>Yqm w0 ww w p m k gF cF b o b9 bi cc line c x n kd (.word t) vd vL vB bm cv lb vc rest h hcc hl hm _ rfl a ha K hK)
     clear OF0 hkd hr hkn h hp hn hk0
     go_enter Tryz.func80,Tryz.ntmps80
     go_upto_region 8 with (first
      | (go_at_call 114;refine NM.out.mono ?_;rintro e w2 ⟨rfl,hg⟩;have G2:=Hq hg;clear hg;obtain ⟨vd,vF,vL,vB,bm,cv,lb,hA⟩:=Zai HS.out G2.out;obtain ⟨pF,cF,hvF⟩:=Jc hA;have A2:=Hq hA;rw [hvF,HK.out] at hA;have c2:w2.cell? ⟨p,2,none⟩=some (.slice pF (k+1) cF):=Cq w2 p 2 _ _ _ hA.box;have hlt:p<w2.heap.size:=(Gs hA.box);clear hA)
      | (go_at_call 66;refine (OF.out _).mono ?_;rintro e w3 ⟨rfl,hg⟩;have G3:=Hq hg;have A3:=Hq (Yr A2.out hg);clear hg;obtain ⟨gF,cF',hvF3,hgF,-⟩:=Xc A3.out.ins.own.fr (by have:=HK.out;omega);rw [hvF] at hvF3;injection hvF3 with hvF3 _ hcc3;subst hvF3;subst hcc3;have c2:w3.cell? ⟨p,2,none⟩=some (.slice (some ⟨gF,0,none⟩) (k+1) cF):=(by have:=Cq w3 p 2 _ _ _ A3.out.box;rw [hvF,HK.out] at this;exact this);have hlt3:p<w3.heap.size:=(Gs A3.out.box)))
     rename_i K8 hK8
     obtain ⟨vc,hvc⟩:∃ v,cv[k]? = some v:=⟨_,List.getElem?_eq_getElem (by rw [A3.out.ins.own.cl,HK.out];omega)⟩
     have IA:=Ydd (kd:=kd) (nm:=nm) (tk:=tk) (gv:=gv) (n:=n) (hvF ▸ A3.out) HK.out hvc (Xz HP.out (Yk (Za G2.out G3.out))) (Yk (Za G2.out G3.out))
     exact HI.out w _ gF cF _ _ vd vL vB bm cv lb vc IA _ ⟨rfl,rfl,rfl,rfl,rfl,rfl,rfl,rfl,rfl⟩ K8 hK8
def Zcm (line:Int) (c:CS) (x:Option Int) (lab:Bool) (l:List Pc):Option (CS × Option Int) :=
 match l with
 | []=>some (c,x)
 | .word t::r =>
   if lab=false/\t=Xn then Yex c x r
   else if lab=false/\t=Zdm then Zfk c x r
   else if lab=false/\t=Zdy then Zek c x r
   else Zii line c x (.word t::r)
 | _=>none
theorem Zkz (line:Int) (c:CS) (x:Option Int) (t:Txt) (r:List Pc):Zcm line c x true (.word t::r)=Zii line c x (.word t::r):=by
 unfold Zcm
 simp
def Zfj (line:Int):CS->Option Int->Bool->List Pc->Option (CS × Option Int)
 | c,x,lab,.word t :: .colon::r=>if c.funcs.length=0 then none else Zfj line (Zif c x t).1 (Zif c x t).2 true r
 | c,x,lab,l=>Zcm line c x lab l
theorem Zdn (line:Int) (c:CS) (x:Option Int) (lab:Bool) (t:Txt) (r:List Pc):Zfj line c x lab (.word t :: .colon::r)=if c.funcs.length=0 then none else Zfj line (Zif c x t).1 (Zif c x t).2 true r:=by rw [Zfj]
theorem Jb (line:Int) (c:CS) (x:Option Int) (lab:Bool) (l:List Pc) (h:∀ t r,l ≠ .word t :: .colon::r):Zfj line c x lab l=Zcm line c x lab l:=by
 unfold Zfj
 split
 · exact absurd rfl (h _ _)
 · rfl
theorem Xe {w0 w:World} {p m:Nat} {r:Option (CS × Option Int)} {e:Ending} {w':World} (h:Zp w0 w p m r e w'):∃ v,e = .returned v:=by
 obtain ⟨h,_,_⟩:=h
 cases r with
 | none=>exact ⟨_,h⟩
 | some c=>exact ⟨_,h.1⟩
theorem Xq {w0 w wr w':World} {p m m':Nat} {r R:Option (CS × Option Int)} {e:Ending} (h:Zp w0 wr p m r e w') (f:Fr w wr) (hm:m<=m') (hr:R=r):Zp w0 w p m' R e w':=by
 subst hr
 obtain ⟨h1,h2,h3⟩:=h
 refine ⟨?_,Zn f h2,h3⟩
 cases R with
 | none=>exact h1
 | some c=>exact ⟨h1.1,Zia h1.2 hm⟩
structure SaI (w0 w wr:World) (p m M:Nat) (line:Int) (R:Option (CS × Option Int)) (lab:Bool) (pp:Option Addr) (cc:Nat) (l:List Pc) (c:CS) (x:Option Int) (k:Nat):Prop where
 ps:PS w0 wr p k c (Zeg x)
 eq:R=Zfj line c x lab l
 pt:Zhr wr pp l
 fr:Fr w wr
 hk:k+l.length<=m
 ws:∀ t,(Pc.word t∈l\/Pc.str t∈l)->t.length<=M
 cap:l.length<=cc
end Go.Proofs.YteciblfmgdlipaaGreatDoor.AS
