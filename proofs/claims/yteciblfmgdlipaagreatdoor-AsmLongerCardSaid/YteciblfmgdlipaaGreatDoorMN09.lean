/-
  Part of a proof: contracts of functions and lemmas, each stated by its own theorem. Conditions: as each theorem states.
-/
import Derived.Test.YteciblfmgdlipaaGreatDoorMN06
set_option linter.unusedSimpArgs false
set_option linter.unusedVariables false
set_option maxRecDepth 100000
set_option maxHeartbeats 16000000
namespace Go.Proofs.YteciblfmgdlipaaGreatDoor.AS
open Go.RowKit Go.Great CK
def Zcu (c:CS) (x:Option Int) (ps:List Pc):Option (CS × Option Int) :=
 match ps with
 | .word nm::rest=>match Zbo rest 3 with
   | some [a,l,r]=>some ({ c with funcs:=c.funcs++[(a,l,r,[])],fm:=fun u=>if u=nm then some (c.funcs.length:Int) else c.fm u,lm:=c.lm++[fun _=>none] },if (c.fm nm).isSome then amV (Zil x rest) 142 else Zil x rest)
   | _=>none
 | _=>none
theorem Zkq {w:World} {b o:Nat} {q:Pc} {rest:List Pc} (h:Zey w (some ⟨b,o,none⟩) (q::rest)):Zey w (some ⟨b,o+4,none⟩) rest:=by
 have:=Zmm (k:=1) h
 simpa using this
theorem Zvo (b:Nat):∀ u∈[Value.map (some b)],u.oneCell'=true:=by
 intro u hu
 simp only [List.mem_cons,List.not_mem_nil,or_false] at hu
 subst hu;rfl
theorem Zmf {w:World} {E E':Nat} {t t':TypeId} {sz sz' n n' g k:Nat} {v:Value} {xs xs':List Value} (h:w.ownsRow E t sz v n xs) (h':w.ownsRow E' t' sz' (.slice (some ⟨g,0,none⟩) n' k) n' xs') (_:E<=w.heap.size) (hne:t≠t'):some g≠v.ownBlock:=by
 have h1:=Zbn h (Nat.zero_le _)
 have h2:=Zbn h' (Nat.zero_le _)
 intro e
 rcases Zw h1 h2 hne with q|q
 · rw [q] at e;cases e
 · exact q e.symm
def f6:Nat->Nat
 | 0=>31
 | 1=>32
 | 2=>33
 | 3=>34
 | 4=>35
 | 5=>36
 | 6=>37
 | 7=>38
 | 8=>39
 | 9=>30
 | 10=>40
 | 11=>41
 | 12=>7
 | 13=>8
 | _=>5000
theorem Zdt:∀ i,i<14->∀ j,j<14->j≠i->f6 j≠f6 i:=by decide
theorem Ygm (i:Nat) (h:i<14):i=0\/i=1\/i=2\/i=3\/i=4\/i=5\/i=6\/i=7\/i=8\/i=9\/i=10\/i=11\/i=12\/i=13:=by omega
theorem Ybg (j:Nat) (hj:j∈[0,1]):∀ i,i<14->f6 i≠j:=by revert j;decide
def f6v (p b o cc bm:Nat) (tx:ByteArray) (vn:Int) (bt:Bool):Nat->Value
 | 0 => .pointer (some ⟨p,0,none⟩)
 | 1 => .pointer (some ⟨p,0,none⟩)
 | 2 => .pointer (some ⟨p,4,none⟩)
 | 3 => .map (some bm)
 | 4 => .slice (some ⟨b,o,none⟩) 4 cc
 | 5 => .pointer (some ⟨b,o,none⟩)
 | 6 => .pointer (some ⟨b,o+1,none⟩)
 | 7 => .string tx
 | 8 => .tuple #[.int .i64 vn,.bool bt]
 | 9 => .tuple #[.int .i64 vn,.bool bt]
 | 10 => .int .i64 vn
 | 11 => .bool bt
 | 12 => .int .i64 vn
 | 13 => .bool bt
 | _=>undef
def f6F (p b o cc bm:Nat) (tx:ByteArray) (vn:Int) (bt:Bool)  : Nat->World->Prop
 | _=>fun _=>True
def f9:Nat->Nat
 | 0=>45
 | 1=>46
 | 2=>47
 | 3=>48
 | 4=>49
 | 5=>50
 | 6=>51
 | 7=>52
 | 8=>53
 | 9=>54
 | 10=>55
 | 11=>56
 | 12=>57
 | 13=>58
 | 14=>1014
 | _=>5000
theorem Jk:∀ i,i<15->∀ j,j<15->j≠i->f9 j≠f9 i:=by decide
theorem Zzy (i:Nat) (h:i<15):i=0\/i=1\/i=2\/i=3\/i=4\/i=5\/i=6\/i=7\/i=8\/i=9\/i=10\/i=11\/i=12\/i=13\/i=14:=by omega
theorem Zkd (j:Nat) (hj:j∈[0,1]):∀ i,i<15->f9 i≠j:=by revert j;decide
def f9v (p b o cc bm nF cF:Nat) (pF:Option Addr) (tx:ByteArray):Nat->Value
 | 0 => .pointer (some ⟨p,0,none⟩)
 | 1 => .pointer (some ⟨p,0,none⟩)
 | 2 => .pointer (some ⟨p,4,none⟩)
 | 3 => .map (some bm)
 | 4 => .slice (some ⟨b,o,none⟩) 4 cc
 | 5 => .pointer (some ⟨b,o,none⟩)
 | 6 => .pointer (some ⟨b,o+1,none⟩)
 | 7 => .string tx
 | 8 => .pointer (some ⟨p,0,none⟩)
 | 9 => .pointer (some ⟨p,0,none⟩)
 | 10 => .pointer (some ⟨p,0,none⟩)
 | 11 => .pointer (some ⟨p,2,none⟩)
 | 12 => .slice pF nF cF
 | 13 => .int .i64 nF
 | 14=>undef
 | _=>undef
def f9F (p b o cc bm nF cF:Nat) (pF:Option Addr) (tx:ByteArray)  : Nat->World->Prop
 | _=>fun _=>True
def fnA:Nat->Nat
 | 0=>59
 | 1=>60
 | 2=>61
 | 3=>62
 | 4=>63
 | 5=>64
 | 6=>65
 | 7=>66
 | 8=>67
 | 9=>68
 | 10=>69
 | 11=>70
 | 12=>71
 | 13=>72
 | 14=>73
 | 15=>74
 | 16=>75
 | 17=>76
 | 18=>77
 | 19=>78
 | 20=>79
 | 21=>1021
 | _=>5000
theorem Zy:∀ i,i<22->∀ j,j<22->j≠i->fnA j≠fnA i:=by decide
theorem Zdm (i:Nat) (h:i<22):i=0\/i=1\/i=2\/i=3\/i=4\/i=5\/i=6\/i=7\/i=8\/i=9\/i=10\/i=11\/i=12\/i=13\/i=14\/i=15\/i=16\/i=17\/i=18\/i=19\/i=20\/i=21:=by omega
theorem Zbh (j:Nat) (hj:j∈[0,5]):∀ i,i<22->fnA i≠j:=by revert j;decide
def Xs (E p g k3 nF cF:Nat) (na nl nr:Int) (pF:Option Addr) (ys:List Value) (q2:Nat) (gF:Nat) (cF9:Nat):Nat->Value
 | 0 => .pointer (some ⟨p,0,none⟩)
 | 1 => .pointer (some ⟨p,0,none⟩)
 | 2 => .pointer (some ⟨p,0,none⟩)
 | 3 => .pointer (some ⟨p,0,none⟩)
 | 4 => .pointer (some ⟨p,2,none⟩)
 | 5 => .slice pF nF cF
 | 6 => .slice (some ⟨g,0,none⟩) 3 k3
 | 7 => .pointer (some ⟨g,0,none⟩)
 | 8 => .int .i64 na
 | 9 => .slice (some ⟨g,0,none⟩) 3 k3
 | 10 => .pointer (some ⟨g,1,none⟩)
 | 11 => .int .i64 nl
 | 12 => .slice (some ⟨g,0,none⟩) 3 k3
 | 13 => .pointer (some ⟨g,2,none⟩)
 | 14 => .int .i64 nr
 | 15 => .agg #[.int .i64 na,.int .i64 nl,.int .i64 nr,.slice none 0 0]
 | 16 => .slice (some ⟨q2,0,none⟩) 1 1
 | 17 => .slice (some ⟨gF,0,none⟩) (nF+1) cF9
 | 18 => .pointer (some ⟨p,0,none⟩)
 | 19 => .pointer (some ⟨p,0,none⟩)
 | 20 => .pointer (some ⟨p,2,none⟩)
 | 21=>undef
 | _=>undef
def Yga (E p g k3 nF cF:Nat) (na nl nr:Int) (pF:Option Addr) (ys:List Value) (q2:Nat) (gF:Nat) (cF9:Nat):Nat->World->Prop
 | 16=>fun w9=>w9.heap[q2]? = some (.cells #[.int .i64 na,.int .i64 nl,.int .i64 nr,.slice none 0 0] 61 (0,0))
 | 17=>fun w9=>w9.ownsRow E 61 4 (.slice (some ⟨gF,0,none⟩) (nF+1) cF9) (nF+1) (ys++[.int .i64 na,.int .i64 nl,.int .i64 nr,.slice none 0 0])
 | _=>fun _=>True
theorem Zwt {E p g k3 nF cF:Nat} {na nl nr:Int} {pF:Option Addr} {ys:List Value} {q2:Nat} {gF:Nat} {cF9:Nat} {q22:Nat} {l:Array Bool} (hcl:∀ p∈([(2,1),(3,2),(4,3),(5,4),(7,6),(8,7),(10,9),(11,10),(13,12),(14,13),(15,8),(15,11),(15,14),(16,15),(17,5),(17,16),(18,0),(19,18),(20,19),(21,20),(21,17)]:List (Nat × Nat)),l.getD (Prod.fst p) false=true->l.getD (Prod.snd p) false=true) (hun:l.getD 16 false=false):∀ i,i<22->l.getD i false=true->fnA i<90->Xs E p g k3 nF cF na nl nr pF ys q22 gF cF9 i=Xs E p g k3 nF cF na nl nr pF ys q2 gF cF9 i:=by
 intro i hi hl _
 rcases Zdm i hi with rfl|rfl|rfl|rfl|rfl|rfl|rfl|rfl|rfl|rfl|rfl|rfl|rfl|rfl|rfl|rfl|rfl|rfl|rfl|rfl|rfl|rfl
 · rfl
 · rfl
 · rfl
 · rfl
 · rfl
 · rfl
 · rfl
 · rfl
 · rfl
 · rfl
 · rfl
 · rfl
 · rfl
 · rfl
 · rfl
 · rfl
 · exact Zm (hl) hun
 · rfl
 · rfl
 · rfl
 · rfl
 · rfl
theorem Zws {E p g k3 nF cF:Nat} {na nl nr:Int} {pF:Option Addr} {ys:List Value} {q2:Nat} {gF:Nat} {cF9:Nat} {gF2:Nat} {cF92:Nat} {l:Array Bool} (hcl:∀ p∈([(2,1),(3,2),(4,3),(5,4),(7,6),(8,7),(10,9),(11,10),(13,12),(14,13),(15,8),(15,11),(15,14),(16,15),(17,5),(17,16),(18,0),(19,18),(20,19),(21,20),(21,17)]:List (Nat × Nat)),l.getD (Prod.fst p) false=true->l.getD (Prod.snd p) false=true) (hun:l.getD 17 false=false):∀ i,i<22->l.getD i false=true->fnA i<90->Xs E p g k3 nF cF na nl nr pF ys q2 gF2 cF92 i=Xs E p g k3 nF cF na nl nr pF ys q2 gF cF9 i:=by
 intro i hi hl _
 rcases Zdm i hi with rfl|rfl|rfl|rfl|rfl|rfl|rfl|rfl|rfl|rfl|rfl|rfl|rfl|rfl|rfl|rfl|rfl|rfl|rfl|rfl|rfl|rfl
 · rfl
 · rfl
 · rfl
 · rfl
 · rfl
 · rfl
 · rfl
 · rfl
 · rfl
 · rfl
 · rfl
 · rfl
 · rfl
 · rfl
 · rfl
 · rfl
 · rfl
 · exact Zm (hl) hun
 · rfl
 · rfl
 · rfl
 · rfl
theorem Ygl (w0 w:World) (p m:Nat) (c:CS) (x:Option Int) (nm:Txt) (rest:List Pc) (na nl nr:Int) (b o cc:Nat) (h:PS w0 w p m c (Zcp x)) (hp:Zey w (some ⟨b,o,none⟩) (.word nm::rest)) (hl:rest.length=3) (hcc:4<=cc) (hnum:Zbo rest 3=some [na,nl,nr])
 (ht:nm.length<=1000000) (hm:m+2<=1000000) :
 Calls Tryz.prog 79 #[.pointer (some ⟨p,0,none⟩),.slice (some ⟨b,o,none⟩) 4 cc] w (Zp w0 w p (m+2) (Zcu c x (.word nm::rest))):=by
 have HR:=Hq (show Zcu c x (.word nm::rest)=some ({ c with funcs:=c.funcs++[(na,nl,nr,[])],fm:=fun u=>if u=nm then some (c.funcs.length:Int) else c.fm u,lm:=c.lm++[fun _=>none] },if (c.fm nm).isSome then amV (Zil x rest) 142 else Zil x rest) by unfold Zcu;simp only [];rw [hnum])
 have HS:=Hq h
 have HP:=Hq hp
 have NM:=Hq (show ∀ cc',Calls Tryz.prog 113 #[.pointer (some ⟨p,0,none⟩),.slice (some ⟨b,o+4,none⟩) 3 cc',.int .i64 3] w fun e w' =>
  (∃ q k,e = .returned (.tuple #[.slice q 3 k,.nilIface])/\Zrx w' w.heap.size (.slice q 3 k) [na,nl,nr]/\PS w0 w' p m c (Zcp (Zil x rest)))/\w.grownBy w' (some p) from fun cc'=>by
  have:=Zds w0 w p m c x rest (some ⟨b,o+4,none⟩) cc' 3 h (Zkq hp) (by omega) (by decide)
  rw [hl] at this
  unfold Zex at this
  rw [hnum] at this
  exact this)
 obtain ⟨b',o',e,hb,d0,d1,d2,d3⟩:=Yx hp (i:=0) (q := .word nm) rfl
 injection e with e;injection e with e1 e2
 subst e1;subst e2
 simp only [Nat.zero_mul,Nat.add_zero,pcK,pcT,pcN,pcF] at d0 d1 d2 d3
 have hci:(4:Int)<=cc:=by omega
 clear h hp hnum hl
 go_enter Tryz.func79,Tryz.ntmps79
 go_upto_region 6 with (go_at_call 113;refine (NM.out _).mono ?_;rintro e w2 ⟨⟨q,k3,rfl,hrow,hps⟩,hg⟩)
 rename_i K hK
 have S2:=Hq hps
 have G2:=Hq hg
 have RW2:=Hq hrow
 have AM:=Hq (fun wr h=>Zin w0 wr p m c (Zil x rest) 142 h)
 obtain ⟨g,cap,hv,hg1,hc1⟩:=Xb hrow (by simp)
 injection hv with hv _ hk3
 subst hv;subst hk3
 have hgw:=(World.ownsRow.lt hrow g rfl).1
 have hpw:=(Zym HS.out).2
 have PT2:=Hq (Xo HP.out (Zau HS.out hg))
 obtain ⟨vd,vF,vL,vB,bm,cv,lb,hA⟩:=hps
 obtain ⟨b',o',e,hb2,x0,x1,x2,x3⟩:=Yx PT2.out (i:=0) (q := .word nm) rfl
 injection e with e;injection e with e1 e2
 subst e1;subst e2
 simp only [Nat.zero_mul,Nat.add_zero,pcK,pcT,pcN,pcF] at x0 x1 x2 x3
 have c4:w2.cell? ⟨p,4,none⟩=some (.map (some bm)):=Cq w2 p 4 _ _ _ hA.box
 have hlt2:p<w2.heap.size:=(Gs hA.box)
 have hok:=Zlf (Zv hA.ins.fm (Zf (Zd w2 none)) (by simp)) nm ht
 obtain ⟨bt,hbt⟩:∃ bt,(c.fm nm).isSome=bt:=⟨_,rfl⟩
 obtain ⟨vn,hvn⟩:∃ vn,(c.fm nm).getD 0=vn:=⟨_,rfl⟩
 rw [hbt,hvn] at hok
 rw [hbt] at HR
 clear hA hg hrow hc1 d0 d1 d2 d3 hbt hvn
 refine Yw (n:=14) (J:=fun a0 l a1 w1=>RJ a0 90 14 f6 (f6v p b o cc bm (bs nm) vn bt ) l a1/\Zbj 14 14 0 [(1,0),(2,1),(3,2),(5,4),(6,5),(7,6),(8,3),(8,7),(9,8),(10,9),(11,9),(12,10),(13,11)] [] (fun w9=>w9=w2.drew) (fun _=>True) (f6F p b o cc bm (bs nm) vn bt ) (fun _=>True) l w1) (by kernel_rfl) rfl (Xm (by kernel_rfl)) (fun l a1 w1 h=>by obtain ⟨h,_⟩:=h;exact h.sz) ⟨Yv rfl,Yb (rfl) (True.intro)⟩ ?step ?fin
 case step =>
  intro l a1 w' i hJJ hi hin
  obtain ⟨hJ,hW⟩:=hJJ
  have hun:l.getD i false=false:=getD_both (mem_ready.1 hi).1
  have hns:=Jb hW hin hun
  have hg:=hW.g hns
  have l0:p<w'.heap.size:=by rw [hg];exact hlt2
  have l1:b<w'.heap.size:=by rw [hg];exact hb2
  have hok2:=(by rw [hg];exact hok:(Instr.lookup 66 (.map (some bm)) (.string (bs nm)) true).run Tryz.prog w' = .ok (.tuple #[.int .i64 vn,.bool bt]) w')
  rcases Ygm i hin with rfl|rfl|rfl|rfl|rfl|rfl|rfl|rfl|rfl|rfl|rfl|rfl|rfl|rfl
  · have e0:a1.tmps.getD 0 undef = .pointer (some ⟨p,0,none⟩):=hJ.un 0 (fun i hi _=>Ybg 0 (by decide) i hi)
    exact Zc hJ hW hi hun rfl (by rfl) rfl (by decide) (by decide) (Zdt _ (by decide)) (w':=w') (by simp [execOp,resolve,invoke,builtin,Act.eval,e0,l0,l1,hok2,go_sem,f6v]) (⟨by decide,by kernel_rfl,True.intro⟩)
  · have e31:a1.tmps.getD 31 undef = .pointer (some ⟨p,0,none⟩):=(Ze hJ hi 0 (by kernel_rfl))
    exact Zc hJ hW hi hun rfl (by rfl) rfl (by decide) (by decide) (Zdt _ (by decide)) (w':=w') (by simp [execOp,resolve,invoke,builtin,Act.eval,e31,l0,l1,hok2,go_sem,f6v]) (⟨by decide,by kernel_rfl,True.intro⟩)
  · have e32:a1.tmps.getD 32 undef = .pointer (some ⟨p,0,none⟩):=(Ze hJ hi 1 (by kernel_rfl))
    exact Zc hJ hW hi hun rfl (by rfl) rfl (by decide) (by decide) (Zdt _ (by decide)) (w':=w') (by simp [execOp,resolve,invoke,builtin,Act.eval,e32,l0,l1,hok2,go_sem,f6v]) (⟨by decide,by kernel_rfl,True.intro⟩)
  · have e33:a1.tmps.getD 33 undef = .pointer (some ⟨p,4,none⟩):=(Ze hJ hi 2 (by kernel_rfl))
    have h0:=Yq c4 hg
    exact Zc hJ hW hi hun rfl (by rfl) rfl (by decide) (by decide) (Zdt _ (by decide)) (w':=w') (by simp [execOp,resolve,invoke,builtin,Act.eval,e33,h0,l0,l1,hok2,go_sem,f6v]) (⟨by decide,by kernel_rfl,True.intro⟩)
  · have e1:a1.tmps.getD 1 undef = .slice (some ⟨b,o,none⟩) 4 cc:=hJ.un 1 (fun i hi _=>Ybg 1 (by decide) i hi)
    exact Zc hJ hW hi hun rfl (by rfl) rfl (by decide) (by decide) (Zdt _ (by decide)) (w':=w') (by simp [execOp,resolve,invoke,builtin,Act.eval,e1,l0,l1,hok2,go_sem,f6v]) (⟨by decide,by kernel_rfl,True.intro⟩)
  · have e35:a1.tmps.getD 35 undef = .slice (some ⟨b,o,none⟩) 4 cc:=(Ze hJ hi 4 (by kernel_rfl))
    exact Zc hJ hW hi hun rfl (by rfl) rfl (by decide) (by decide) (Zdt _ (by decide)) (w':=w') (by first|(simp [execOp,resolve,invoke,builtin,Act.eval,e35,l0,l1,hok2,go_sem,f6v];done)|(simp [execOp,resolve,invoke,builtin,Act.eval,e35,l0,l1,hok2,go_sem,f6v];omega)|(simp [execOp,resolve,invoke,builtin,Act.eval,e35,l0,l1,hok2,go_sem,f6v];intro h;omega)|(simp [execOp,resolve,invoke,builtin,Act.eval,e35,l0,l1,hok2,go_sem,f6v];intros;omega)) (⟨by decide,by kernel_rfl,True.intro⟩)
  · have e36:a1.tmps.getD 36 undef = .pointer (some ⟨b,o,none⟩):=(Ze hJ hi 5 (by kernel_rfl))
    exact Zc hJ hW hi hun rfl (by rfl) rfl (by decide) (by decide) (Zdt _ (by decide)) (w':=w') (by simp [execOp,resolve,invoke,builtin,Act.eval,e36,l0,l1,hok2,go_sem,f6v]) (⟨by decide,by kernel_rfl,True.intro⟩)
  · have e37:a1.tmps.getD 37 undef = .pointer (some ⟨b,o+1,none⟩):=(Ze hJ hi 6 (by kernel_rfl))
    have h0:=Yq x1 hg
    exact Zc hJ hW hi hun rfl (by rfl) rfl (by decide) (by decide) (Zdt _ (by decide)) (w':=w') (by simp [execOp,resolve,invoke,builtin,Act.eval,e37,h0,l0,l1,hok2,go_sem,f6v]) (⟨by decide,by kernel_rfl,True.intro⟩)
  · have e34:a1.tmps.getD 34 undef = .map (some bm):=(Ze hJ hi 3 (by kernel_rfl))
    have e38:a1.tmps.getD 38 undef = .string (bs nm):=(Ze hJ hi 7 (by kernel_rfl))
    exact Zc hJ hW hi hun rfl (by rfl) rfl (by decide) (by decide) (Zdt _ (by decide)) (w':=w') (by simp [execOp,resolve,invoke,builtin,Act.eval,e34,e38,l0,l1,hok2,go_sem,f6v]) (⟨by decide,by kernel_rfl,True.intro⟩)
  · have e39:a1.tmps.getD 39 undef = .tuple #[.int .i64 vn,.bool bt]:=(Ze hJ hi 8 (by kernel_rfl))
    exact Zc hJ hW hi hun rfl (by rfl) rfl (by decide) (by decide) (Zdt _ (by decide)) (w':=w') (by simp [execOp,resolve,invoke,builtin,Act.eval,e39,l0,l1,hok2,go_sem,f6v]) (⟨by decide,by kernel_rfl,True.intro⟩)
  · have e30:a1.tmps.getD 30 undef = .tuple #[.int .i64 vn,.bool bt]:=(Ze hJ hi 9 (by kernel_rfl))
    exact Zc hJ hW hi hun rfl (by rfl) rfl (by decide) (by decide) (Zdt _ (by decide)) (w':=w') (by simp [execOp,resolve,invoke,builtin,Act.eval,e30,l0,l1,hok2,go_sem,f6v]) (⟨by decide,by kernel_rfl,True.intro⟩)
  · have e30:a1.tmps.getD 30 undef = .tuple #[.int .i64 vn,.bool bt]:=(Ze hJ hi 9 (by kernel_rfl))
    exact Zc hJ hW hi hun rfl (by rfl) rfl (by decide) (by decide) (Zdt _ (by decide)) (w':=w') (by simp [execOp,resolve,invoke,builtin,Act.eval,e30,l0,l1,hok2,go_sem,f6v]) (⟨by decide,by kernel_rfl,True.intro⟩)
  · have e40:a1.tmps.getD 40 undef = .int .i64 vn:=(Ze hJ hi 10 (by kernel_rfl))
    exact Zc hJ hW hi hun rfl (by rfl) rfl (by decide) (by decide) (Zdt _ (by decide)) (w':=w') (by simp [execOp,resolve,invoke,builtin,Act.eval,e40,l0,l1,hok2,go_sem,f6v]) (⟨by decide,by kernel_rfl,True.intro⟩)
  · have e41:a1.tmps.getD 41 undef = .bool bt:=(Ze hJ hi 11 (by kernel_rfl))
    exact Zc hJ hW hi hun rfl (by rfl) rfl (by decide) (by decide) (Zdt _ (by decide)) (w':=w') (by simp [execOp,resolve,invoke,builtin,Act.eval,e41,l0,l1,hok2,go_sem,f6v]) (⟨by decide,by kernel_rfl,True.intro⟩)
 case fin =>
  intro l9 a1 w9 hJJ hl9
  obtain ⟨hJ,hW⟩:=hJJ
  have hq:w9=w2.drew:=hW.g (Jx hW)
  have hput:=Xk hJ rfl hl9 (fun i j h1 h2 h3=>Zdt j h2 i h1 h3)
  subst hput;subst hq
  clear hJ hW hl9 hok c4 x0 x1 x2 x3
  (try refine hK _ _ ?_)
  simp only [Je,f6,f6v,Act.put,List.setIfInBounds_toArray,List.set_cons_zero,List.set_cons_succ]
  cases bt with
  | true =>
    go_upto_region 9 with (go_at_call 112;refine (AM.out _ (Jn S2.out (Zf (Zd w2 none)))).mono ?_;rintro e w3 ⟨rfl,hps3,hg3⟩)
    have S3:=Hq hps3
    have G3:=Hq (Za (Zjy (Zf (Zd w2 none))) hg3)
    clear hps3 hg3
    rename_i K9 hK9
    obtain ⟨vd,vF,vL,vB,bm,cv,lb,hA⟩:=S3.out
    obtain ⟨pF,cF,hvF⟩:=Xr hA
    subst hvF
    have RW3:=Hq (RW2.out.kept G3.out (Zjo RW2.out hpw))
    have PT3:=Hq (Xo PT2.out (Zau S2.out G3.out))
    have MM:=Hq hA.ins.fm
    have A3:=Hq (Yn hA (Zf (Zd w3 none)))
    have FR3:=Hq (Zn (Zn (Zau HS.out G2.out) (Zau S2.out G3.out)) (Ye (Zf (Zd w3 none))))
    obtain ⟨b',o',e,hb3,x0,x1,x2,x3⟩:=Yx PT3.out (i:=0) (q := .word nm) rfl
    injection e with e;injection e with e1 e2
    subst e1;subst e2
    simp only [Nat.zero_mul,Nat.add_zero,pcK,pcT,pcN,pcF] at x0 x1 x2 x3
    have c2:w3.cell? ⟨p,2,none⟩=some (.slice pF c.funcs.length cF):=Cq w3 p 2 _ _ _ hA.box
    have c4:w3.cell? ⟨p,4,none⟩=some (.map (some bm)):=Cq w3 p 4 _ _ _ hA.box
    have hlt3:p<w3.heap.size:=(Gs hA.box)
    have hz2:=hA.ins.z2
    clear hA
    refine Yw (n:=15) (J:=fun a0 l a1 w1=>RJ a0 90 15 f9 (f9v p b o cc bm c.funcs.length cF pF (bs nm) ) l a1/\Zbj 14 15 0 [(1,0),(2,1),(3,2),(5,4),(6,5),(7,6),(9,8),(10,9),(11,10),(12,11),(13,12),(14,3),(14,7),(14,13)] [] (fun w9=>w9=w3.drew) (fun _=>True) (f9F p b o cc bm c.funcs.length cF pF (bs nm) ) (fun w9=>Zdf w9 bm (m+1) (fun u=>if u=nm then some (c.funcs.length:Int) else c.fm u)/\World.grownBy w3.drew w9 (some bm)) l w1) (by kernel_rfl) rfl (Xm (by kernel_rfl)) (fun l a1 w1 h=>by obtain ⟨h,_⟩:=h;exact h.sz) ⟨Yv rfl,Yb (rfl) (True.intro)⟩ ?step ?fin
    case step =>
     intro l a1 w' i hJJ hi hin
     obtain ⟨hJ,hW⟩:=hJJ
     have hun:l.getD i false=false:=getD_both (mem_ready.1 hi).1
     have hns:=Jb hW hin hun
     have hg:=hW.g hns
     have l0:p<w'.heap.size:=by rw [hg];exact hlt3
     have l1:b<w'.heap.size:=by rw [hg];exact hb3
     rcases Zzy i hin with rfl|rfl|rfl|rfl|rfl|rfl|rfl|rfl|rfl|rfl|rfl|rfl|rfl|rfl|rfl
     · have e0:a1.tmps.getD 0 undef = .pointer (some ⟨p,0,none⟩):=hJ.un 0 (fun i hi _=>Zkd 0 (by decide) i hi)
       exact Zc hJ hW hi hun rfl (by rfl) rfl (by decide) (by decide) (Jk _ (by decide)) (w':=w') (by simp [execOp,resolve,invoke,builtin,Act.eval,e0,l0,l1,go_sem,f9v]) (⟨by decide,by kernel_rfl,True.intro⟩)
     · have e45:a1.tmps.getD 45 undef = .pointer (some ⟨p,0,none⟩):=(Ze hJ hi 0 (by kernel_rfl))
       exact Zc hJ hW hi hun rfl (by rfl) rfl (by decide) (by decide) (Jk _ (by decide)) (w':=w') (by simp [execOp,resolve,invoke,builtin,Act.eval,e45,l0,l1,go_sem,f9v]) (⟨by decide,by kernel_rfl,True.intro⟩)
     · have e46:a1.tmps.getD 46 undef = .pointer (some ⟨p,0,none⟩):=(Ze hJ hi 1 (by kernel_rfl))
       exact Zc hJ hW hi hun rfl (by rfl) rfl (by decide) (by decide) (Jk _ (by decide)) (w':=w') (by simp [execOp,resolve,invoke,builtin,Act.eval,e46,l0,l1,go_sem,f9v]) (⟨by decide,by kernel_rfl,True.intro⟩)
     · have e47:a1.tmps.getD 47 undef = .pointer (some ⟨p,4,none⟩):=(Ze hJ hi 2 (by kernel_rfl))
       have h0:=Yq c4 hg
       exact Zc hJ hW hi hun rfl (by rfl) rfl (by decide) (by decide) (Jk _ (by decide)) (w':=w') (by simp [execOp,resolve,invoke,builtin,Act.eval,e47,h0,l0,l1,go_sem,f9v]) (⟨by decide,by kernel_rfl,True.intro⟩)
     · have e1:a1.tmps.getD 1 undef = .slice (some ⟨b,o,none⟩) 4 cc:=hJ.un 1 (fun i hi _=>Zkd 1 (by decide) i hi)
       exact Zc hJ hW hi hun rfl (by rfl) rfl (by decide) (by decide) (Jk _ (by decide)) (w':=w') (by simp [execOp,resolve,invoke,builtin,Act.eval,e1,l0,l1,go_sem,f9v]) (⟨by decide,by kernel_rfl,True.intro⟩)
     · have e49:a1.tmps.getD 49 undef = .slice (some ⟨b,o,none⟩) 4 cc:=(Ze hJ hi 4 (by kernel_rfl))
       exact Zc hJ hW hi hun rfl (by rfl) rfl (by decide) (by decide) (Jk _ (by decide)) (w':=w') (by first|(simp [execOp,resolve,invoke,builtin,Act.eval,e49,l0,l1,go_sem,f9v];done)|(simp [execOp,resolve,invoke,builtin,Act.eval,e49,l0,l1,go_sem,f9v];omega)|(simp [execOp,resolve,invoke,builtin,Act.eval,e49,l0,l1,go_sem,f9v];intro h;omega)|(simp [execOp,resolve,invoke,builtin,Act.eval,e49,l0,l1,go_sem,f9v];intros;omega)) (⟨by decide,by kernel_rfl,True.intro⟩)
     · have e50:a1.tmps.getD 50 undef = .pointer (some ⟨b,o,none⟩):=(Ze hJ hi 5 (by kernel_rfl))
       exact Zc hJ hW hi hun rfl (by rfl) rfl (by decide) (by decide) (Jk _ (by decide)) (w':=w') (by simp [execOp,resolve,invoke,builtin,Act.eval,e50,l0,l1,go_sem,f9v]) (⟨by decide,by kernel_rfl,True.intro⟩)
     · have e51:a1.tmps.getD 51 undef = .pointer (some ⟨b,o+1,none⟩):=(Ze hJ hi 6 (by kernel_rfl))
       have h0:=Yq x1 hg
       exact Zc hJ hW hi hun rfl (by rfl) rfl (by decide) (by decide) (Jk _ (by decide)) (w':=w') (by simp [execOp,resolve,invoke,builtin,Act.eval,e51,h0,l0,l1,go_sem,f9v]) (⟨by decide,by kernel_rfl,True.intro⟩)
     · have e0:a1.tmps.getD 0 undef = .pointer (some ⟨p,0,none⟩):=hJ.un 0 (fun i hi _=>Zkd 0 (by decide) i hi)
       exact Zc hJ hW hi hun rfl (by rfl) rfl (by decide) (by decide) (Jk _ (by decide)) (w':=w') (by simp [execOp,resolve,invoke,builtin,Act.eval,e0,l0,l1,go_sem,f9v]) (⟨by decide,by kernel_rfl,True.intro⟩)
     · have e53:a1.tmps.getD 53 undef = .pointer (some ⟨p,0,none⟩):=(Ze hJ hi 8 (by kernel_rfl))
       exact Zc hJ hW hi hun rfl (by rfl) rfl (by decide) (by decide) (Jk _ (by decide)) (w':=w') (by simp [execOp,resolve,invoke,builtin,Act.eval,e53,l0,l1,go_sem,f9v]) (⟨by decide,by kernel_rfl,True.intro⟩)
     · have e54:a1.tmps.getD 54 undef = .pointer (some ⟨p,0,none⟩):=(Ze hJ hi 9 (by kernel_rfl))
       exact Zc hJ hW hi hun rfl (by rfl) rfl (by decide) (by decide) (Jk _ (by decide)) (w':=w') (by simp [execOp,resolve,invoke,builtin,Act.eval,e54,l0,l1,go_sem,f9v]) (⟨by decide,by kernel_rfl,True.intro⟩)
     · have e55:a1.tmps.getD 55 undef = .pointer (some ⟨p,0,none⟩):=(Ze hJ hi 10 (by kernel_rfl))
       exact Zc hJ hW hi hun rfl (by rfl) rfl (by decide) (by decide) (Jk _ (by decide)) (w':=w') (by simp [execOp,resolve,invoke,builtin,Act.eval,e55,l0,l1,go_sem,f9v]) (⟨by decide,by kernel_rfl,True.intro⟩)
     · have e56:a1.tmps.getD 56 undef = .pointer (some ⟨p,2,none⟩):=(Ze hJ hi 11 (by kernel_rfl))
       have h0:=Yq c2 hg
       exact Zc hJ hW hi hun rfl (by rfl) rfl (by decide) (by decide) (Jk _ (by decide)) (w':=w') (by simp [execOp,resolve,invoke,builtin,Act.eval,e56,h0,l0,l1,go_sem,f9v]) (⟨by decide,by kernel_rfl,True.intro⟩)
     · have e57:a1.tmps.getD 57 undef = .slice pF c.funcs.length cF:=(Ze hJ hi 12 (by kernel_rfl))
       exact Zc hJ hW hi hun rfl (by rfl) rfl (by decide) (by decide) (Jk _ (by decide)) (w':=w') (by simp [execOp,resolve,invoke,builtin,Act.eval,e57,l0,l1,go_sem,f9v]) (⟨by decide,by kernel_rfl,True.intro⟩)
     · have e48:a1.tmps.getD 48 undef = .map (some bm):=(Ze hJ hi 3 (by kernel_rfl))
       have e52:a1.tmps.getD 52 undef = .string (bs nm):=(Ze hJ hi 7 (by kernel_rfl))
       have e58:a1.tmps.getD 58 undef = .int .i64 (c.funcs.length:Int):=(Ze hJ hi 13 (by kernel_rfl))
       obtain ⟨w8,hmu,hM8,hg8⟩:=Zle (w:=w') (by rw [hg];exact Zv MM.out (Zf (Zd w3 none)) (by simp)) (by omega) nm ht (c.funcs.length:Int) (by omega)
       rw [hg] at hg8
       have hall:∀ j,j<15->j≠14->l.getD j false=true:=by
        intro j hj hne
        rcases Zzy j hj with rfl|rfl|rfl|rfl|rfl|rfl|rfl|rfl|rfl|rfl|rfl|rfl|rfl|rfl|rfl
        · exact hW.cl (1,0) (by decide) (hW.cl (2,1) (by decide) (hW.cl (3,2) (by decide) (Zb hi 3 (by kernel_rfl))))
        · exact hW.cl (2,1) (by decide) (hW.cl (3,2) (by decide) (Zb hi 3 (by kernel_rfl)))
        · exact hW.cl (3,2) (by decide) (Zb hi 3 (by kernel_rfl))
        · exact Zb hi 3 (by kernel_rfl)
        · exact hW.cl (5,4) (by decide) (hW.cl (6,5) (by decide) (hW.cl (7,6) (by decide) (Zb hi 7 (by kernel_rfl))))
        · exact hW.cl (6,5) (by decide) (hW.cl (7,6) (by decide) (Zb hi 7 (by kernel_rfl)))
        · exact hW.cl (7,6) (by decide) (Zb hi 7 (by kernel_rfl))
        · exact Zb hi 7 (by kernel_rfl)
        · exact hW.cl (9,8) (by decide) (hW.cl (10,9) (by decide) (hW.cl (11,10) (by decide) (hW.cl (12,11) (by decide) (hW.cl (13,12) (by decide) (Zb hi 13 (by kernel_rfl))))))
        · exact hW.cl (10,9) (by decide) (hW.cl (11,10) (by decide) (hW.cl (12,11) (by decide) (hW.cl (13,12) (by decide) (Zb hi 13 (by kernel_rfl)))))
        · exact hW.cl (11,10) (by decide) (hW.cl (12,11) (by decide) (hW.cl (13,12) (by decide) (Zb hi 13 (by kernel_rfl))))
        · exact hW.cl (12,11) (by decide) (hW.cl (13,12) (by decide) (Zb hi 13 (by kernel_rfl)))
        · exact hW.cl (13,12) (by decide) (Zb hi 13 (by kernel_rfl))
        · exact Zb hi 13 (by kernel_rfl)
        · exact absurd rfl hne
       exact Zam (WS:=fun l9 w9=>Zbj 14 15 0 [(1,0),(2,1),(3,2),(5,4),(6,5),(7,6),(9,8),(10,9),(11,10),(12,11),(13,12),(14,3),(14,7),(14,13)] [] (fun w9=>w9=w3.drew) (fun _=>True) (f9F p b o cc bm c.funcs.length cF pF (bs nm) ) (fun w9=>Zdf w9 bm (m+1) (fun u=>if u=nm then some (c.funcs.length:Int) else c.fm u)/\World.grownBy w3.drew w9 (some bm)) l9 w9) hJ rfl rfl rfl (by decide) (by decide) (w':=w8) (by simp [execOp,Act.eval,e48,e52,e58,hmu,go_sem]) (Xv hW (by decide) (by decide) hall (Zi _ hi (by kernel_rfl)) (⟨hM8,hg8⟩))
    case fin =>
     intro l9 a1 w4 hJJ hl9
     obtain ⟨hJ,hW⟩:=hJJ
     have hq:=hW.q (hl9 14 (by decide))
     have hput:=Xk hJ rfl hl9 (fun i j h1 h2 h3=>Jk j h2 i h1 h3)
     subst hput
     clear hJ hW hl9 c2 c4 x0 x1 x2 x3
     obtain ⟨q1,q2⟩:=hq
     (try refine hK9 _ _ ?_)
     simp only [Je,f9,f9v,Act.put,List.setIfInBounds_toArray,List.set_cons_zero,List.set_cons_succ]
     have M4:=Zvc A3.out q1 q2
     have RW4:=Hq ((RW3.out.kept (Zf (Zd w3 none)) (Jp RW3.out)).kept q2 (Jg RW3.out MM.out))
     have A4:=Hq M4.1
     have FR4:=Hq (Zn FR3.out M4.2)
     clear q1 q2 M4
     obtain ⟨g4,cap4,hv4,hg4,hc4⟩:=Xb RW4.out (by simp)
     injection hv4 with hv4 _ hk4
     injection hv4 with hv4;injection hv4 with hv4
     subst hv4
     have d0:w4.cell? ⟨g,0,none⟩=some (.int .i64 na):=hc4 0 _ rfl (by simp)
     have d1:w4.cell? ⟨g,1,none⟩=some (.int .i64 nl):=hc4 1 _ rfl (by simp)
     have d2:w4.cell? ⟨g,2,none⟩=some (.int .i64 nr):=hc4 2 _ rfl (by simp)
     have c2:w4.cell? ⟨p,2,none⟩=some (.slice pF c.funcs.length cF):=Cq w4 p 2 _ _ _ A4.out.box
     have z2:=frozen_of_row w4 p 2 _ _ A4.out.box
     have hlt4:p<w4.heap.size:=(Gs A4.out.box)
     have HNE:some p≠(Value.slice pF c.funcs.length cF).ownBlock:=fun e=>Yc A4.out.ins.own.fr A4.out.box (by decide) e.symm
     have HNG:some g≠(Value.slice pF c.funcs.length cF).ownBlock:=Zmf A4.out.ins.own.fr RW4.out A4.out.gr.size (by decide)
     have hE4:=A4.out.gr.size
     have OWN4:=Hq (World.ownsRow.kept A4.out.ins.own.fr (Zf (Zd w4 none)) (Jp A4.out.ins.own.fr))
     have AD4:=Hq (Yn A4.out (Zf (Zd w4 none)))
     have FD4:=Hq (Zn FR4.out (Ye (Zf (Zd w4 none))))
     obtain ⟨fi,fi0,fi1,fi2,fi3⟩:=info_parts Znd
     obtain ⟨vb,hvb⟩:∃ vb,(Value.slice pF c.funcs.length cF).ownBlock=vb:=⟨_,rfl⟩
     rw [hvb] at HNE HNG
     clear hc4 hk4
     go_upto_region 10 with fail
     rename_i KA hKA
     refine Yw (n:=22) (J:=fun a0 l a1 w1=>∃ (q2:Nat) (gF:Nat) (cF9:Nat),RJ a0 90 22 fnA (Xs w0.heap.size p g k3 c.funcs.length cF na nl nr pF (Yk c.funcs cv) q2 gF cF9) l a1/\Zbj 21 22 17 [(2,1),(3,2),(4,3),(5,4),(7,6),(8,7),(10,9),(11,10),(13,12),(14,13),(15,8),(15,11),(15,14),(16,15),(17,5),(17,16),(18,0),(19,18),(20,19),(21,20),(21,17)] [(16,17)] (fun w9=>World.grownBy w4.drew w9 vb) (fun w9=>w9.ownsRow w0.heap.size 61 4 (.slice pF c.funcs.length cF) c.funcs.length (Yk c.funcs cv)) (Yga w0.heap.size p g k3 c.funcs.length cF na nl nr pF (Yk c.funcs cv) q2 gF cF9) (fun w9=>∃ (w8:World),World.grownBy w4.drew w8 vb/\w8.ownsRow w0.heap.size 61 4 (.slice (some ⟨gF,0,none⟩) (c.funcs.length+1) cF9) (c.funcs.length+1) (Yk c.funcs cv++[.int .i64 na,.int .i64 nl,.int .i64 nr,.slice none 0 0])/\w9=w8.setCell ⟨p,2,none⟩ (.slice (some ⟨gF,0,none⟩) (c.funcs.length+1) cF9)) l w1) (by kernel_rfl) rfl (Xm (by kernel_rfl)) (fun l a1 w1 h=>by obtain ⟨_,_,_,h,_⟩:=h;exact h.sz) ⟨0,0,0,Yv rfl,Yb (Zd _ _) (OWN4.out)⟩ ?step ?fin
     case step =>
      intro l a1 w' i hJJ hi hin
      obtain ⟨q2,gF,cF9,hJ,hW⟩:=hJJ
      have hun:l.getD i false=false:=getD_both (mem_ready.1 hi).1
      have hns:=Jb hW hin hun
      have hg:=hW.g hns
      have l0:=Nat.lt_of_lt_of_le hlt4 hg.size
      have l1:=Nat.lt_of_lt_of_le hg4 hg.size
      rcases Zdm i hin with rfl|rfl|rfl|rfl|rfl|rfl|rfl|rfl|rfl|rfl|rfl|rfl|rfl|rfl|rfl|rfl|rfl|rfl|rfl|rfl|rfl|rfl
      · have e0:a1.tmps.getD 0 undef = .pointer (some ⟨p,0,none⟩):=hJ.un 0 (fun i hi _=>Zbh 0 (by decide) i hi)
        exact Zg (Zc hJ hW hi hun rfl (by rfl) rfl (by decide) (by decide) (Zy _ (by decide)) (w':=w') (by simp [execOp,resolve,invoke,builtin,Act.eval,e0,l0,l1,go_sem,Xs]) (⟨by decide,by kernel_rfl,True.intro⟩)) (fun a9 w9 h9=>⟨q2,gF,cF9,h9⟩)
      · have e0:a1.tmps.getD 0 undef = .pointer (some ⟨p,0,none⟩):=hJ.un 0 (fun i hi _=>Zbh 0 (by decide) i hi)
        exact Zg (Zc hJ hW hi hun rfl (by rfl) rfl (by decide) (by decide) (Zy _ (by decide)) (w':=w') (by simp [execOp,resolve,invoke,builtin,Act.eval,e0,l0,l1,go_sem,Xs]) (⟨by decide,by kernel_rfl,True.intro⟩)) (fun a9 w9 h9=>⟨q2,gF,cF9,h9⟩)
      · have e60:a1.tmps.getD 60 undef = .pointer (some ⟨p,0,none⟩):=(Ze hJ hi 1 (by kernel_rfl))
        exact Zg (Zc hJ hW hi hun rfl (by rfl) rfl (by decide) (by decide) (Zy _ (by decide)) (w':=w') (by simp [execOp,resolve,invoke,builtin,Act.eval,e60,l0,l1,go_sem,Xs]) (⟨by decide,by kernel_rfl,True.intro⟩)) (fun a9 w9 h9=>⟨q2,gF,cF9,h9⟩)
      · have e61:a1.tmps.getD 61 undef = .pointer (some ⟨p,0,none⟩):=(Ze hJ hi 2 (by kernel_rfl))
        exact Zg (Zc hJ hW hi hun rfl (by rfl) rfl (by decide) (by decide) (Zy _ (by decide)) (w':=w') (by simp [execOp,resolve,invoke,builtin,Act.eval,e61,l0,l1,go_sem,Xs]) (⟨by decide,by kernel_rfl,True.intro⟩)) (fun a9 w9 h9=>⟨q2,gF,cF9,h9⟩)
      · have e62:a1.tmps.getD 62 undef = .pointer (some ⟨p,0,none⟩):=(Ze hJ hi 3 (by kernel_rfl))
        exact Zg (Zc hJ hW hi hun rfl (by rfl) rfl (by decide) (by decide) (Zy _ (by decide)) (w':=w') (by simp [execOp,resolve,invoke,builtin,Act.eval,e62,l0,l1,go_sem,Xs]) (⟨by decide,by kernel_rfl,True.intro⟩)) (fun a9 w9 h9=>⟨q2,gF,cF9,h9⟩)
      · have e63:a1.tmps.getD 63 undef = .pointer (some ⟨p,2,none⟩):=(Ze hJ hi 4 (by kernel_rfl))
        have h0:=hg.cell c2 HNE
        exact Zg (Zc hJ hW hi hun rfl (by rfl) rfl (by decide) (by decide) (Zy _ (by decide)) (w':=w') (by simp [execOp,resolve,invoke,builtin,Act.eval,e63,h0,l0,l1,go_sem,Xs]) (⟨by decide,by kernel_rfl,True.intro⟩)) (fun a9 w9 h9=>⟨q2,gF,cF9,h9⟩)
      · have e5:a1.tmps.getD 5 undef = .slice (some ⟨g,0,none⟩) 3 k3:=hJ.un 5 (fun i hi _=>Zbh 5 (by decide) i hi)
        exact Zg (Zc hJ hW hi hun rfl (by rfl) rfl (by decide) (by decide) (Zy _ (by decide)) (w':=w') (by simp [execOp,resolve,invoke,builtin,Act.eval,e5,l0,l1,go_sem,Xs]) (⟨by decide,by kernel_rfl,True.intro⟩)) (fun a9 w9 h9=>⟨q2,gF,cF9,h9⟩)
      · have e65:a1.tmps.getD 65 undef = .slice (some ⟨g,0,none⟩) 3 k3:=(Ze hJ hi 6 (by kernel_rfl))
        exact Zg (Zc hJ hW hi hun rfl (by rfl) rfl (by decide) (by decide) (Zy _ (by decide)) (w':=w') (by first|(simp [execOp,resolve,invoke,builtin,Act.eval,e65,l0,l1,go_sem,Xs];done)|(simp [execOp,resolve,invoke,builtin,Act.eval,e65,l0,l1,go_sem,Xs];omega)|(simp [execOp,resolve,invoke,builtin,Act.eval,e65,l0,l1,go_sem,Xs];intro h;omega)|(simp [execOp,resolve,invoke,builtin,Act.eval,e65,l0,l1,go_sem,Xs];intros;omega)) (⟨by decide,by kernel_rfl,True.intro⟩)) (fun a9 w9 h9=>⟨q2,gF,cF9,h9⟩)
      · have e66:a1.tmps.getD 66 undef = .pointer (some ⟨g,0,none⟩):=(Ze hJ hi 7 (by kernel_rfl))
        have h0:=hg.cell d0 HNG
        exact Zg (Zc hJ hW hi hun rfl (by rfl) rfl (by decide) (by decide) (Zy _ (by decide)) (w':=w') (by simp [execOp,resolve,invoke,builtin,Act.eval,e66,h0,l0,l1,go_sem,Xs]) (⟨by decide,by kernel_rfl,True.intro⟩)) (fun a9 w9 h9=>⟨q2,gF,cF9,h9⟩)
      · have e5:a1.tmps.getD 5 undef = .slice (some ⟨g,0,none⟩) 3 k3:=hJ.un 5 (fun i hi _=>Zbh 5 (by decide) i hi)
        exact Zg (Zc hJ hW hi hun rfl (by rfl) rfl (by decide) (by decide) (Zy _ (by decide)) (w':=w') (by simp [execOp,resolve,invoke,builtin,Act.eval,e5,l0,l1,go_sem,Xs]) (⟨by decide,by kernel_rfl,True.intro⟩)) (fun a9 w9 h9=>⟨q2,gF,cF9,h9⟩)
      · have e68:a1.tmps.getD 68 undef = .slice (some ⟨g,0,none⟩) 3 k3:=(Ze hJ hi 9 (by kernel_rfl))
        exact Zg (Zc hJ hW hi hun rfl (by rfl) rfl (by decide) (by decide) (Zy _ (by decide)) (w':=w') (by first|(simp [execOp,resolve,invoke,builtin,Act.eval,e68,l0,l1,go_sem,Xs];done)|(simp [execOp,resolve,invoke,builtin,Act.eval,e68,l0,l1,go_sem,Xs];omega)|(simp [execOp,resolve,invoke,builtin,Act.eval,e68,l0,l1,go_sem,Xs];intro h;omega)|(simp [execOp,resolve,invoke,builtin,Act.eval,e68,l0,l1,go_sem,Xs];intros;omega)) (⟨by decide,by kernel_rfl,True.intro⟩)) (fun a9 w9 h9=>⟨q2,gF,cF9,h9⟩)
      · have e69:a1.tmps.getD 69 undef = .pointer (some ⟨g,1,none⟩):=(Ze hJ hi 10 (by kernel_rfl))
        have h0:=hg.cell d1 HNG
        exact Zg (Zc hJ hW hi hun rfl (by rfl) rfl (by decide) (by decide) (Zy _ (by decide)) (w':=w') (by simp [execOp,resolve,invoke,builtin,Act.eval,e69,h0,l0,l1,go_sem,Xs]) (⟨by decide,by kernel_rfl,True.intro⟩)) (fun a9 w9 h9=>⟨q2,gF,cF9,h9⟩)
      · have e5:a1.tmps.getD 5 undef = .slice (some ⟨g,0,none⟩) 3 k3:=hJ.un 5 (fun i hi _=>Zbh 5 (by decide) i hi)
        exact Zg (Zc hJ hW hi hun rfl (by rfl) rfl (by decide) (by decide) (Zy _ (by decide)) (w':=w') (by simp [execOp,resolve,invoke,builtin,Act.eval,e5,l0,l1,go_sem,Xs]) (⟨by decide,by kernel_rfl,True.intro⟩)) (fun a9 w9 h9=>⟨q2,gF,cF9,h9⟩)
      · have e71:a1.tmps.getD 71 undef = .slice (some ⟨g,0,none⟩) 3 k3:=(Ze hJ hi 12 (by kernel_rfl))
        exact Zg (Zc hJ hW hi hun rfl (by rfl) rfl (by decide) (by decide) (Zy _ (by decide)) (w':=w') (by first|(simp [execOp,resolve,invoke,builtin,Act.eval,e71,l0,l1,go_sem,Xs];done)|(simp [execOp,resolve,invoke,builtin,Act.eval,e71,l0,l1,go_sem,Xs];omega)|(simp [execOp,resolve,invoke,builtin,Act.eval,e71,l0,l1,go_sem,Xs];intro h;omega)|(simp [execOp,resolve,invoke,builtin,Act.eval,e71,l0,l1,go_sem,Xs];intros;omega)) (⟨by decide,by kernel_rfl,True.intro⟩)) (fun a9 w9 h9=>⟨q2,gF,cF9,h9⟩)
      · have e72:a1.tmps.getD 72 undef = .pointer (some ⟨g,2,none⟩):=(Ze hJ hi 13 (by kernel_rfl))
        have h0:=hg.cell d2 HNG
        exact Zg (Zc hJ hW hi hun rfl (by rfl) rfl (by decide) (by decide) (Zy _ (by decide)) (w':=w') (by simp [execOp,resolve,invoke,builtin,Act.eval,e72,h0,l0,l1,go_sem,Xs]) (⟨by decide,by kernel_rfl,True.intro⟩)) (fun a9 w9 h9=>⟨q2,gF,cF9,h9⟩)
      · have e67:a1.tmps.getD 67 undef = .int .i64 na:=(Ze hJ hi 8 (by kernel_rfl))
        have f67:=e67
        rw [Array.getD_eq_getD_getElem?] at f67
        have e70:a1.tmps.getD 70 undef = .int .i64 nl:=(Ze hJ hi 11 (by kernel_rfl))
        have f70:=e70
        rw [Array.getD_eq_getD_getElem?] at f70
        have e73:a1.tmps.getD 73 undef = .int .i64 nr:=(Ze hJ hi 14 (by kernel_rfl))
        have f73:=e73
        rw [Array.getD_eq_getD_getElem?] at f73
        exact Zg (Zc hJ hW hi hun rfl (by rfl) rfl (by decide) (by decide) (Zy _ (by decide)) (w':=w') (by simp [execOp,resolve,invoke,builtin,Act.eval,e67,f67,e70,f70,e73,f73,l0,l1,go_sem,Xs]) (⟨by decide,by kernel_rfl,True.intro⟩)) (fun a9 w9 h9=>⟨q2,gF,cF9,h9⟩)
      · have e74:a1.tmps.getD 74 undef = .agg #[.int .i64 na,.int .i64 nl,.int .i64 nr,.slice none 0 0]:=(Ze hJ hi 15 (by kernel_rfl))
        have f74:=e74
        rw [Array.getD_eq_getD_getElem?] at f74
        refine Yz (v:=Xs w0.heap.size p g k3 c.funcs.length cF na nl nr pF (Yk c.funcs cv) w'.heap.size gF cF9 16) (w':=w'.alloc (.cells #[.int .i64 na,.int .i64 nl,.int .i64 nr,.slice none 0 0] 61)) rfl (by rfl) (by simp [execOp,Act.eval,e74,f74,Zwp,Result.andThen,Xs]) ⟨w'.heap.size,gF,cF9,?_,Zu hW (by decide) hun (by decide) (Zi _ hi (by kernel_rfl)) (Za hg (Ga _ _ _)) (fun hne0 hun0 hB0=>hB0.alloc _) (fun j hj hne hl hcu hF => ?_) (heap_alloc_new w' _)⟩
        · exact Xd (val:=Xs w0.heap.size p g k3 c.funcs.length cF na nl nr pF (Yk c.funcs cv) w'.heap.size gF cF9) (Xf hJ (Zwt hW.cl hun)) (by decide) (by decide) (Zy _ (by decide))
        · rcases Zdm j hj with rfl|rfl|rfl|rfl|rfl|rfl|rfl|rfl|rfl|rfl|rfl|rfl|rfl|rfl|rfl|rfl|rfl|rfl|rfl|rfl|rfl|rfl
          · exact True.intro
          · exact True.intro
          · exact True.intro
          · exact True.intro
          · exact True.intro
          · exact True.intro
          · exact True.intro
          · exact True.intro
          · exact True.intro
          · exact True.intro
          · exact True.intro
          · exact True.intro
          · exact True.intro
          · exact True.intro
          · exact True.intro
          · exact True.intro
          · exact absurd rfl hne
          · exact Zm (hW.cl (17,16) (by decide) (hl)) hun
          · exact True.intro
          · exact True.intro
          · exact True.intro
          · exact True.intro
      · have e64:a1.tmps.getD 64 undef = .slice pF c.funcs.length cF:=(Ze hJ hi 5 (by kernel_rfl))
        have e75:a1.tmps.getD 75 undef = .slice (some ⟨q2,0,none⟩) 1 1:=(Ze hJ hi 16 (by kernel_rfl))
        have F16:=hW.f hns 16 (by decide) (Zb hi 16 (by kernel_rfl)) (Zbl (c:=17) (by decide) hun)
        have own:=hW.u hun
        obtain ⟨v8,w8,hap,hown,hgr,-⟩:=run_append_own_at (P:=Tryz.prog) w' w0.heap.size 24 24 61 fi (.agg #[.int .i64 0,.int .i64 0,.int .i64 0,.slice none 0 0]) 4 48 Zre fi0 fi1 fi2 fi3 rfl (by decide) _ c.funcs.length (Yk c.funcs cv) own ⟨q2,0,none⟩ 1 1 [.int .i64 na,.int .i64 nl,.int .i64 nr,.slice none 0 0] rfl (Zeu F16) (Ygt _ _ _ _ _ _) (by unfold maxLen;omega) (by omega) (Nat.le_trans hE4 hg.size)
        rw [hvb] at hgr
        obtain ⟨gF2,cF92,hv⟩:=Zaw hown
        subst hv
        refine Yz (v:=Xs w0.heap.size p g k3 c.funcs.length cF na nl nr pF (Yk c.funcs cv) q2 gF2 cF92 17) (w':=w8) rfl (by rfl) (by simp [execOp,resolve,invoke,builtin,Act.eval,e64,e75,hap,Result.andThen,Xs]) ⟨q2,gF2,cF92,?_,Zu hW (by decide) hun (by decide) (Zi _ hi (by kernel_rfl)) (Za hg hgr) (fun hne0 hun0 hB0=>absurd rfl hne0) (fun j hj hne hl hcu hF => ?_) (hown)⟩
        · exact Xd (val:=Xs w0.heap.size p g k3 c.funcs.length cF na nl nr pF (Yk c.funcs cv) q2 gF2 cF92) (Xf hJ (Zws hW.cl hun)) (by decide) (by decide) (Zy _ (by decide))
        · rcases Zdm j hj with rfl|rfl|rfl|rfl|rfl|rfl|rfl|rfl|rfl|rfl|rfl|rfl|rfl|rfl|rfl|rfl|rfl|rfl|rfl|rfl|rfl|rfl
          · exact True.intro
          · exact True.intro
          · exact True.intro
          · exact True.intro
          · exact True.intro
          · exact True.intro
          · exact True.intro
          · exact True.intro
          · exact True.intro
          · exact True.intro
          · exact True.intro
          · exact True.intro
          · exact True.intro
          · exact True.intro
          · exact True.intro
          · exact True.intro
          · exact absurd rfl (hcu (16,17) (by decide) rfl).1
          · exact absurd rfl hne
          · exact True.intro
          · exact True.intro
          · exact True.intro
          · exact True.intro
      · have e59:a1.tmps.getD 59 undef = .pointer (some ⟨p,0,none⟩):=(Ze hJ hi 0 (by kernel_rfl))
        exact Zg (Zc hJ hW hi hun rfl (by rfl) rfl (by decide) (by decide) (Zy _ (by decide)) (w':=w') (by simp [execOp,resolve,invoke,builtin,Act.eval,e59,l0,l1,go_sem,Xs]) (⟨by decide,by kernel_rfl,True.intro⟩)) (fun a9 w9 h9=>⟨q2,gF,cF9,h9⟩)
      · have e77:a1.tmps.getD 77 undef = .pointer (some ⟨p,0,none⟩):=(Ze hJ hi 18 (by kernel_rfl))
        exact Zg (Zc hJ hW hi hun rfl (by rfl) rfl (by decide) (by decide) (Zy _ (by decide)) (w':=w') (by simp [execOp,resolve,invoke,builtin,Act.eval,e77,l0,l1,go_sem,Xs]) (⟨by decide,by kernel_rfl,True.intro⟩)) (fun a9 w9 h9=>⟨q2,gF,cF9,h9⟩)
      · have e78:a1.tmps.getD 78 undef = .pointer (some ⟨p,0,none⟩):=(Ze hJ hi 19 (by kernel_rfl))
        exact Zg (Zc hJ hW hi hun rfl (by rfl) rfl (by decide) (by decide) (Zy _ (by decide)) (w':=w') (by simp [execOp,resolve,invoke,builtin,Act.eval,e78,l0,l1,go_sem,Xs]) (⟨by decide,by kernel_rfl,True.intro⟩)) (fun a9 w9 h9=>⟨q2,gF,cF9,h9⟩)
      · have e79:a1.tmps.getD 79 undef = .pointer (some ⟨p,2,none⟩):=(Ze hJ hi 20 (by kernel_rfl))
        have e76:a1.tmps.getD 76 undef = .slice (some ⟨gF,0,none⟩) (c.funcs.length+1) cF9:=(Ze hJ hi 17 (by kernel_rfl))
        have F17:=hW.f hns 17 (by decide) (Zb hi 17 (by kernel_rfl)) (Zcc (by decide))
        have bx2:=hg.block p hlt4 HNE
        have k1:=hg.cell c2 HNE
        have j1:w'.frozen? ⟨p,2,none⟩=false:=(World.frozen?_of_block bx2).trans z2
        have lb2:=Nat.lt_of_lt_of_le hlt4 hg.size
        have O17:w'.ownsRow w0.heap.size 61 4 (.slice (some ⟨gF,0,none⟩) (c.funcs.length+1) cF9) (c.funcs.length+1) (Yk c.funcs cv++[.int .i64 na,.int .i64 nl,.int .i64 nr,.slice none 0 0]):=F17
        have hall:∀ j,j<22->j≠21->l.getD j false=true:=by
         intro j hj hne
         rcases Zdm j hj with rfl|rfl|rfl|rfl|rfl|rfl|rfl|rfl|rfl|rfl|rfl|rfl|rfl|rfl|rfl|rfl|rfl|rfl|rfl|rfl|rfl|rfl
         · exact hW.cl (18,0) (by decide) (hW.cl (19,18) (by decide) (hW.cl (20,19) (by decide) (Zb hi 20 (by kernel_rfl))))
         · exact hW.cl (2,1) (by decide) (hW.cl (3,2) (by decide) (hW.cl (4,3) (by decide) (hW.cl (5,4) (by decide) (hW.cl (17,5) (by decide) (Zb hi 17 (by kernel_rfl))))))
         · exact hW.cl (3,2) (by decide) (hW.cl (4,3) (by decide) (hW.cl (5,4) (by decide) (hW.cl (17,5) (by decide) (Zb hi 17 (by kernel_rfl)))))
         · exact hW.cl (4,3) (by decide) (hW.cl (5,4) (by decide) (hW.cl (17,5) (by decide) (Zb hi 17 (by kernel_rfl))))
         · exact hW.cl (5,4) (by decide) (hW.cl (17,5) (by decide) (Zb hi 17 (by kernel_rfl)))
         · exact hW.cl (17,5) (by decide) (Zb hi 17 (by kernel_rfl))
         · exact hW.cl (7,6) (by decide) (hW.cl (8,7) (by decide) (hW.cl (15,8) (by decide) (hW.cl (16,15) (by decide) (hW.cl (17,16) (by decide) (Zb hi 17 (by kernel_rfl))))))
         · exact hW.cl (8,7) (by decide) (hW.cl (15,8) (by decide) (hW.cl (16,15) (by decide) (hW.cl (17,16) (by decide) (Zb hi 17 (by kernel_rfl)))))
         · exact hW.cl (15,8) (by decide) (hW.cl (16,15) (by decide) (hW.cl (17,16) (by decide) (Zb hi 17 (by kernel_rfl))))
         · exact hW.cl (10,9) (by decide) (hW.cl (11,10) (by decide) (hW.cl (15,11) (by decide) (hW.cl (16,15) (by decide) (hW.cl (17,16) (by decide) (Zb hi 17 (by kernel_rfl))))))
         · exact hW.cl (11,10) (by decide) (hW.cl (15,11) (by decide) (hW.cl (16,15) (by decide) (hW.cl (17,16) (by decide) (Zb hi 17 (by kernel_rfl)))))
         · exact hW.cl (15,11) (by decide) (hW.cl (16,15) (by decide) (hW.cl (17,16) (by decide) (Zb hi 17 (by kernel_rfl))))
         · exact hW.cl (13,12) (by decide) (hW.cl (14,13) (by decide) (hW.cl (15,14) (by decide) (hW.cl (16,15) (by decide) (hW.cl (17,16) (by decide) (Zb hi 17 (by kernel_rfl))))))
         · exact hW.cl (14,13) (by decide) (hW.cl (15,14) (by decide) (hW.cl (16,15) (by decide) (hW.cl (17,16) (by decide) (Zb hi 17 (by kernel_rfl)))))
         · exact hW.cl (15,14) (by decide) (hW.cl (16,15) (by decide) (hW.cl (17,16) (by decide) (Zb hi 17 (by kernel_rfl))))
         · exact hW.cl (16,15) (by decide) (hW.cl (17,16) (by decide) (Zb hi 17 (by kernel_rfl)))
         · exact hW.cl (17,16) (by decide) (Zb hi 17 (by kernel_rfl))
         · exact Zb hi 17 (by kernel_rfl)
         · exact hW.cl (19,18) (by decide) (hW.cl (20,19) (by decide) (Zb hi 20 (by kernel_rfl)))
         · exact hW.cl (20,19) (by decide) (Zb hi 20 (by kernel_rfl))
         · exact Zb hi 20 (by kernel_rfl)
         · exact absurd rfl hne
        exact Zg (Zam (WS:=fun l9 w9=>Zbj 21 22 17 [(2,1),(3,2),(4,3),(5,4),(7,6),(8,7),(10,9),(11,10),(13,12),(14,13),(15,8),(15,11),(15,14),(16,15),(17,5),(17,16),(18,0),(19,18),(20,19),(21,20),(21,17)] [(16,17)] (fun w9=>World.grownBy w4.drew w9 vb) (fun w9=>w9.ownsRow w0.heap.size 61 4 (.slice pF c.funcs.length cF) c.funcs.length (Yk c.funcs cv)) (Yga w0.heap.size p g k3 c.funcs.length cF na nl nr pF (Yk c.funcs cv) q2 gF cF9) (fun w9=>∃ (w8:World),World.grownBy w4.drew w8 vb/\w8.ownsRow w0.heap.size 61 4 (.slice (some ⟨gF,0,none⟩) (c.funcs.length+1) cF9) (c.funcs.length+1) (Yk c.funcs cv++[.int .i64 na,.int .i64 nl,.int .i64 nr,.slice none 0 0])/\w9=w8.setCell ⟨p,2,none⟩ (.slice (some ⟨gF,0,none⟩) (c.funcs.length+1) cF9)) l9 w9) hJ rfl rfl rfl (by decide) (by decide) (w':=w'.setCell ⟨p,2,none⟩ (.slice (some ⟨gF,0,none⟩) (c.funcs.length+1) cF9)) (by simp [execOp,Act.eval,e79,e76,k1,j1,lb2,go_sem]) (Xv hW (by decide) (by decide) hall (Zi _ hi (by kernel_rfl)) (⟨w',hg,O17,rfl⟩))) (fun a9 w9 h9=>⟨q2,gF,cF9,h9⟩)
     case fin =>
      intro l9 a1 w9 hJJ hl9
      obtain ⟨q2,gF,cF9,hJ,hW⟩:=hJJ
      have hq:=hW.q (hl9 21 (by decide))
      have hput:=Xk hJ rfl hl9 (fun i j h1 h2 h3=>Zy j h2 i h1 h3)
      subst hput
      clear hJ hW hl9 c2 d0 d1 d2
      obtain ⟨w8,q1,q2,rfl⟩:=hq
      (try refine hKA _ _ ?_)
      simp only [Je,fnA,Xs,Act.put,List.setIfInBounds_toArray,List.set_cons_zero,List.set_cons_succ]
      have M5:=Zqi AD4.out q2 (by rw [hvb];exact q1)
      generalize w8.setCell ⟨p,2,none⟩ (.slice (some ⟨gF,0,none⟩) (c.funcs.length+1) cF9)=w5 at *
      have A5:=Hq M5.1
      have FR5:=Hq (Zn FD4.out M5.2)
      clear q1 q2 M5
      obtain ⟨pL,cL,hvL⟩:=Zk A5.out.ins.lrow
      subst hvL
      have HL5:=Hq A5.out.ins.lrow
      have c5:w5.cell? ⟨p,5,none⟩=some (.slice pL lb.length cL):=Cq w5 p 5 _ _ _ A5.out.box
      have hlt5:p<w5.heap.size:=(Gs A5.out.box)
      have hlb:lb.length<=1000000:=by have:=A5.out.ins.len1;have:=A5.out.lens;have:=A5.out.ins.z2;simp only [] at *;omega
      have hE5:∀ o' o'',w0.heap.size<=((w5.alloc o').alloc o'').heap.size:=fun o' o''=>Yt (Yt A5.out.gr.size o') o''
      obtain ⟨mi,mi0,mi1,mi2,mi3⟩:=info_parts Zmr
      have hmm := @run_makeMap Tryz.prog
      have hc3:lb.length+1<=maxLen:=by unfold maxLen;omega
      have hc4:(lb.length+1)*8<=140737488355328:=by omega
      go_wp2_with (at_builtin;refine wpList_append_own_at _ rfl _ _ 67 rfl w0.heap.size 66 mi (.map none) 1 8 Zqu mi0 mi1 mi2 mi3 rfl (by decide) (.slice pL lb.length cL) _ _ rfl (World.ownsRow.alloc (World.ownsRow.alloc HL5.out _) _) ⟨w5.heap.size+1,0,none⟩ 1 1 [.map (some w5.heap.size)] rfl rfl (Zlb w5 _ _ _) (Zvo _) hc3 hc4 (hE5 _ _) ?_;intro v3 w6 hown3 hgr3 hnil3 hat3;obtain ⟨p3,kk3,hv3⟩:=Zk hown3;subst hv3;have LL:=Hq (Zmi A5.out (Ga _ _ none) hown3 hgr3);have B6:=Zji A5.out (Za (Ga w5 (.map #[] 0) none) (Ga _ _ none)) hgr3;obtain ⟨k6,j6,l6⟩:=B6;clear hown3 hgr3 hnil3 hat3)
      clear hKA KA
      go_ret
      refine ⟨?_,Zn FR5.out LL.out.2,Zag LL.out.1⟩
      rw [HR.out]
      exact ⟨rfl,LL.out.1⟩
  | false =>
    go_upto_region 9 with fail
    have S3:=Hq (Jn S2.out (Zf (Zd w2 none)))
    have G3:=Hq (show w2.grownBy w2.drew (some p) from Zjy (Zf (Zd w2 none)))
    generalize w2.drew=w3 at *
    rename_i K9 hK9
    obtain ⟨vd,vF,vL,vB,bm,cv,lb,hA⟩:=S3.out
    obtain ⟨pF,cF,hvF⟩:=Xr hA
    subst hvF
    have RW3:=Hq (RW2.out.kept G3.out (Zjo RW2.out hpw))
    have PT3:=Hq (Xo PT2.out (Zau S2.out G3.out))
    have MM:=Hq hA.ins.fm
    have A3:=Hq (Yn hA (Zf (Zd w3 none)))
    have FR3:=Hq (Zn (Zn (Zau HS.out G2.out) (Zau S2.out G3.out)) (Ye (Zf (Zd w3 none))))
    obtain ⟨b',o',e,hb3,x0,x1,x2,x3⟩:=Yx PT3.out (i:=0) (q := .word nm) rfl
    injection e with e;injection e with e1 e2
    subst e1;subst e2
    simp only [Nat.zero_mul,Nat.add_zero,pcK,pcT,pcN,pcF] at x0 x1 x2 x3
    have c2:w3.cell? ⟨p,2,none⟩=some (.slice pF c.funcs.length cF):=Cq w3 p 2 _ _ _ hA.box
    have c4:w3.cell? ⟨p,4,none⟩=some (.map (some bm)):=Cq w3 p 4 _ _ _ hA.box
    have hlt3:p<w3.heap.size:=(Gs hA.box)
    have hz2:=hA.ins.z2
    clear hA
    refine Yw (n:=15) (J:=fun a0 l a1 w1=>RJ a0 90 15 f9 (f9v p b o cc bm c.funcs.length cF pF (bs nm) ) l a1/\Zbj 14 15 0 [(1,0),(2,1),(3,2),(5,4),(6,5),(7,6),(9,8),(10,9),(11,10),(12,11),(13,12),(14,3),(14,7),(14,13)] [] (fun w9=>w9=w3.drew) (fun _=>True) (f9F p b o cc bm c.funcs.length cF pF (bs nm) ) (fun w9=>Zdf w9 bm (m+1) (fun u=>if u=nm then some (c.funcs.length:Int) else c.fm u)/\World.grownBy w3.drew w9 (some bm)) l w1) (by kernel_rfl) rfl (Xm (by kernel_rfl)) (fun l a1 w1 h=>by obtain ⟨h,_⟩:=h;exact h.sz) ⟨Yv rfl,Yb (rfl) (True.intro)⟩ ?step ?fin
    case step =>
     intro l a1 w' i hJJ hi hin
     obtain ⟨hJ,hW⟩:=hJJ
     have hun:l.getD i false=false:=getD_both (mem_ready.1 hi).1
     have hns:=Jb hW hin hun
     have hg:=hW.g hns
     have l0:p<w'.heap.size:=by rw [hg];exact hlt3
     have l1:b<w'.heap.size:=by rw [hg];exact hb3
     rcases Zzy i hin with rfl|rfl|rfl|rfl|rfl|rfl|rfl|rfl|rfl|rfl|rfl|rfl|rfl|rfl|rfl
     · have e0:a1.tmps.getD 0 undef = .pointer (some ⟨p,0,none⟩):=hJ.un 0 (fun i hi _=>Zkd 0 (by decide) i hi)
       exact Zc hJ hW hi hun rfl (by rfl) rfl (by decide) (by decide) (Jk _ (by decide)) (w':=w') (by simp [execOp,resolve,invoke,builtin,Act.eval,e0,l0,l1,go_sem,f9v]) (⟨by decide,by kernel_rfl,True.intro⟩)
     · have e45:a1.tmps.getD 45 undef = .pointer (some ⟨p,0,none⟩):=(Ze hJ hi 0 (by kernel_rfl))
       exact Zc hJ hW hi hun rfl (by rfl) rfl (by decide) (by decide) (Jk _ (by decide)) (w':=w') (by simp [execOp,resolve,invoke,builtin,Act.eval,e45,l0,l1,go_sem,f9v]) (⟨by decide,by kernel_rfl,True.intro⟩)
     · have e46:a1.tmps.getD 46 undef = .pointer (some ⟨p,0,none⟩):=(Ze hJ hi 1 (by kernel_rfl))
       exact Zc hJ hW hi hun rfl (by rfl) rfl (by decide) (by decide) (Jk _ (by decide)) (w':=w') (by simp [execOp,resolve,invoke,builtin,Act.eval,e46,l0,l1,go_sem,f9v]) (⟨by decide,by kernel_rfl,True.intro⟩)
     · have e47:a1.tmps.getD 47 undef = .pointer (some ⟨p,4,none⟩):=(Ze hJ hi 2 (by kernel_rfl))
       have h0:=Yq c4 hg
       exact Zc hJ hW hi hun rfl (by rfl) rfl (by decide) (by decide) (Jk _ (by decide)) (w':=w') (by simp [execOp,resolve,invoke,builtin,Act.eval,e47,h0,l0,l1,go_sem,f9v]) (⟨by decide,by kernel_rfl,True.intro⟩)
     · have e1:a1.tmps.getD 1 undef = .slice (some ⟨b,o,none⟩) 4 cc:=hJ.un 1 (fun i hi _=>Zkd 1 (by decide) i hi)
       exact Zc hJ hW hi hun rfl (by rfl) rfl (by decide) (by decide) (Jk _ (by decide)) (w':=w') (by simp [execOp,resolve,invoke,builtin,Act.eval,e1,l0,l1,go_sem,f9v]) (⟨by decide,by kernel_rfl,True.intro⟩)
     · have e49:a1.tmps.getD 49 undef = .slice (some ⟨b,o,none⟩) 4 cc:=(Ze hJ hi 4 (by kernel_rfl))
       exact Zc hJ hW hi hun rfl (by rfl) rfl (by decide) (by decide) (Jk _ (by decide)) (w':=w') (by first|(simp [execOp,resolve,invoke,builtin,Act.eval,e49,l0,l1,go_sem,f9v];done)|(simp [execOp,resolve,invoke,builtin,Act.eval,e49,l0,l1,go_sem,f9v];omega)|(simp [execOp,resolve,invoke,builtin,Act.eval,e49,l0,l1,go_sem,f9v];intro h;omega)|(simp [execOp,resolve,invoke,builtin,Act.eval,e49,l0,l1,go_sem,f9v];intros;omega)) (⟨by decide,by kernel_rfl,True.intro⟩)
     · have e50:a1.tmps.getD 50 undef = .pointer (some ⟨b,o,none⟩):=(Ze hJ hi 5 (by kernel_rfl))
       exact Zc hJ hW hi hun rfl (by rfl) rfl (by decide) (by decide) (Jk _ (by decide)) (w':=w') (by simp [execOp,resolve,invoke,builtin,Act.eval,e50,l0,l1,go_sem,f9v]) (⟨by decide,by kernel_rfl,True.intro⟩)
     · have e51:a1.tmps.getD 51 undef = .pointer (some ⟨b,o+1,none⟩):=(Ze hJ hi 6 (by kernel_rfl))
       have h0:=Yq x1 hg
       exact Zc hJ hW hi hun rfl (by rfl) rfl (by decide) (by decide) (Jk _ (by decide)) (w':=w') (by simp [execOp,resolve,invoke,builtin,Act.eval,e51,h0,l0,l1,go_sem,f9v]) (⟨by decide,by kernel_rfl,True.intro⟩)
     · have e0:a1.tmps.getD 0 undef = .pointer (some ⟨p,0,none⟩):=hJ.un 0 (fun i hi _=>Zkd 0 (by decide) i hi)
       exact Zc hJ hW hi hun rfl (by rfl) rfl (by decide) (by decide) (Jk _ (by decide)) (w':=w') (by simp [execOp,resolve,invoke,builtin,Act.eval,e0,l0,l1,go_sem,f9v]) (⟨by decide,by kernel_rfl,True.intro⟩)
     · have e53:a1.tmps.getD 53 undef = .pointer (some ⟨p,0,none⟩):=(Ze hJ hi 8 (by kernel_rfl))
       exact Zc hJ hW hi hun rfl (by rfl) rfl (by decide) (by decide) (Jk _ (by decide)) (w':=w') (by simp [execOp,resolve,invoke,builtin,Act.eval,e53,l0,l1,go_sem,f9v]) (⟨by decide,by kernel_rfl,True.intro⟩)
     · have e54:a1.tmps.getD 54 undef = .pointer (some ⟨p,0,none⟩):=(Ze hJ hi 9 (by kernel_rfl))
       exact Zc hJ hW hi hun rfl (by rfl) rfl (by decide) (by decide) (Jk _ (by decide)) (w':=w') (by simp [execOp,resolve,invoke,builtin,Act.eval,e54,l0,l1,go_sem,f9v]) (⟨by decide,by kernel_rfl,True.intro⟩)
     · have e55:a1.tmps.getD 55 undef = .pointer (some ⟨p,0,none⟩):=(Ze hJ hi 10 (by kernel_rfl))
       exact Zc hJ hW hi hun rfl (by rfl) rfl (by decide) (by decide) (Jk _ (by decide)) (w':=w') (by simp [execOp,resolve,invoke,builtin,Act.eval,e55,l0,l1,go_sem,f9v]) (⟨by decide,by kernel_rfl,True.intro⟩)
     · have e56:a1.tmps.getD 56 undef = .pointer (some ⟨p,2,none⟩):=(Ze hJ hi 11 (by kernel_rfl))
       have h0:=Yq c2 hg
       exact Zc hJ hW hi hun rfl (by rfl) rfl (by decide) (by decide) (Jk _ (by decide)) (w':=w') (by simp [execOp,resolve,invoke,builtin,Act.eval,e56,h0,l0,l1,go_sem,f9v]) (⟨by decide,by kernel_rfl,True.intro⟩)
     · have e57:a1.tmps.getD 57 undef = .slice pF c.funcs.length cF:=(Ze hJ hi 12 (by kernel_rfl))
       exact Zc hJ hW hi hun rfl (by rfl) rfl (by decide) (by decide) (Jk _ (by decide)) (w':=w') (by simp [execOp,resolve,invoke,builtin,Act.eval,e57,l0,l1,go_sem,f9v]) (⟨by decide,by kernel_rfl,True.intro⟩)
     · have e48:a1.tmps.getD 48 undef = .map (some bm):=(Ze hJ hi 3 (by kernel_rfl))
       have e52:a1.tmps.getD 52 undef = .string (bs nm):=(Ze hJ hi 7 (by kernel_rfl))
       have e58:a1.tmps.getD 58 undef = .int .i64 (c.funcs.length:Int):=(Ze hJ hi 13 (by kernel_rfl))
       obtain ⟨w8,hmu,hM8,hg8⟩:=Zle (w:=w') (by rw [hg];exact Zv MM.out (Zf (Zd w3 none)) (by simp)) (by omega) nm ht (c.funcs.length:Int) (by omega)
       rw [hg] at hg8
       have hall:∀ j,j<15->j≠14->l.getD j false=true:=by
        intro j hj hne
        rcases Zzy j hj with rfl|rfl|rfl|rfl|rfl|rfl|rfl|rfl|rfl|rfl|rfl|rfl|rfl|rfl|rfl
        · exact hW.cl (1,0) (by decide) (hW.cl (2,1) (by decide) (hW.cl (3,2) (by decide) (Zb hi 3 (by kernel_rfl))))
        · exact hW.cl (2,1) (by decide) (hW.cl (3,2) (by decide) (Zb hi 3 (by kernel_rfl)))
        · exact hW.cl (3,2) (by decide) (Zb hi 3 (by kernel_rfl))
        · exact Zb hi 3 (by kernel_rfl)
        · exact hW.cl (5,4) (by decide) (hW.cl (6,5) (by decide) (hW.cl (7,6) (by decide) (Zb hi 7 (by kernel_rfl))))
        · exact hW.cl (6,5) (by decide) (hW.cl (7,6) (by decide) (Zb hi 7 (by kernel_rfl)))
        · exact hW.cl (7,6) (by decide) (Zb hi 7 (by kernel_rfl))
        · exact Zb hi 7 (by kernel_rfl)
        · exact hW.cl (9,8) (by decide) (hW.cl (10,9) (by decide) (hW.cl (11,10) (by decide) (hW.cl (12,11) (by decide) (hW.cl (13,12) (by decide) (Zb hi 13 (by kernel_rfl))))))
        · exact hW.cl (10,9) (by decide) (hW.cl (11,10) (by decide) (hW.cl (12,11) (by decide) (hW.cl (13,12) (by decide) (Zb hi 13 (by kernel_rfl)))))
        · exact hW.cl (11,10) (by decide) (hW.cl (12,11) (by decide) (hW.cl (13,12) (by decide) (Zb hi 13 (by kernel_rfl))))
        · exact hW.cl (12,11) (by decide) (hW.cl (13,12) (by decide) (Zb hi 13 (by kernel_rfl)))
        · exact hW.cl (13,12) (by decide) (Zb hi 13 (by kernel_rfl))
        · exact Zb hi 13 (by kernel_rfl)
        · exact absurd rfl hne
       exact Zam (WS:=fun l9 w9=>Zbj 14 15 0 [(1,0),(2,1),(3,2),(5,4),(6,5),(7,6),(9,8),(10,9),(11,10),(12,11),(13,12),(14,3),(14,7),(14,13)] [] (fun w9=>w9=w3.drew) (fun _=>True) (f9F p b o cc bm c.funcs.length cF pF (bs nm) ) (fun w9=>Zdf w9 bm (m+1) (fun u=>if u=nm then some (c.funcs.length:Int) else c.fm u)/\World.grownBy w3.drew w9 (some bm)) l9 w9) hJ rfl rfl rfl (by decide) (by decide) (w':=w8) (by simp [execOp,Act.eval,e48,e52,e58,hmu,go_sem]) (Xv hW (by decide) (by decide) hall (Zi _ hi (by kernel_rfl)) (⟨hM8,hg8⟩))
    case fin =>
     intro l9 a1 w4 hJJ hl9
     obtain ⟨hJ,hW⟩:=hJJ
     have hq:=hW.q (hl9 14 (by decide))
     have hput:=Xk hJ rfl hl9 (fun i j h1 h2 h3=>Jk j h2 i h1 h3)
     subst hput
     clear hJ hW hl9 c2 c4 x0 x1 x2 x3
     obtain ⟨q1,q2⟩:=hq
     (try refine hK9 _ _ ?_)
     simp only [Je,f9,f9v,Act.put,List.setIfInBounds_toArray,List.set_cons_zero,List.set_cons_succ]
     have M4:=Zvc A3.out q1 q2
     have RW4:=Hq ((RW3.out.kept (Zf (Zd w3 none)) (Jp RW3.out)).kept q2 (Jg RW3.out MM.out))
     have A4:=Hq M4.1
     have FR4:=Hq (Zn FR3.out M4.2)
     clear q1 q2 M4
     obtain ⟨g4,cap4,hv4,hg4,hc4⟩:=Xb RW4.out (by simp)
     injection hv4 with hv4 _ hk4
     injection hv4 with hv4;injection hv4 with hv4
     subst hv4
     have d0:w4.cell? ⟨g,0,none⟩=some (.int .i64 na):=hc4 0 _ rfl (by simp)
     have d1:w4.cell? ⟨g,1,none⟩=some (.int .i64 nl):=hc4 1 _ rfl (by simp)
     have d2:w4.cell? ⟨g,2,none⟩=some (.int .i64 nr):=hc4 2 _ rfl (by simp)
     have c2:w4.cell? ⟨p,2,none⟩=some (.slice pF c.funcs.length cF):=Cq w4 p 2 _ _ _ A4.out.box
     have z2:=frozen_of_row w4 p 2 _ _ A4.out.box
     have hlt4:p<w4.heap.size:=(Gs A4.out.box)
     have HNE:some p≠(Value.slice pF c.funcs.length cF).ownBlock:=fun e=>Yc A4.out.ins.own.fr A4.out.box (by decide) e.symm
     have HNG:some g≠(Value.slice pF c.funcs.length cF).ownBlock:=Zmf A4.out.ins.own.fr RW4.out A4.out.gr.size (by decide)
     have hE4:=A4.out.gr.size
     have OWN4:=Hq (World.ownsRow.kept A4.out.ins.own.fr (Zf (Zd w4 none)) (Jp A4.out.ins.own.fr))
     have AD4:=Hq (Yn A4.out (Zf (Zd w4 none)))
     have FD4:=Hq (Zn FR4.out (Ye (Zf (Zd w4 none))))
     obtain ⟨fi,fi0,fi1,fi2,fi3⟩:=info_parts Znd
     obtain ⟨vb,hvb⟩:∃ vb,(Value.slice pF c.funcs.length cF).ownBlock=vb:=⟨_,rfl⟩
     rw [hvb] at HNE HNG
     clear hc4 hk4
     go_upto_region 10 with fail
     rename_i KA hKA
     refine Yw (n:=22) (J:=fun a0 l a1 w1=>∃ (q2:Nat) (gF:Nat) (cF9:Nat),RJ a0 90 22 fnA (Xs w0.heap.size p g k3 c.funcs.length cF na nl nr pF (Yk c.funcs cv) q2 gF cF9) l a1/\Zbj 21 22 17 [(2,1),(3,2),(4,3),(5,4),(7,6),(8,7),(10,9),(11,10),(13,12),(14,13),(15,8),(15,11),(15,14),(16,15),(17,5),(17,16),(18,0),(19,18),(20,19),(21,20),(21,17)] [(16,17)] (fun w9=>World.grownBy w4.drew w9 vb) (fun w9=>w9.ownsRow w0.heap.size 61 4 (.slice pF c.funcs.length cF) c.funcs.length (Yk c.funcs cv)) (Yga w0.heap.size p g k3 c.funcs.length cF na nl nr pF (Yk c.funcs cv) q2 gF cF9) (fun w9=>∃ (w8:World),World.grownBy w4.drew w8 vb/\w8.ownsRow w0.heap.size 61 4 (.slice (some ⟨gF,0,none⟩) (c.funcs.length+1) cF9) (c.funcs.length+1) (Yk c.funcs cv++[.int .i64 na,.int .i64 nl,.int .i64 nr,.slice none 0 0])/\w9=w8.setCell ⟨p,2,none⟩ (.slice (some ⟨gF,0,none⟩) (c.funcs.length+1) cF9)) l w1) (by kernel_rfl) rfl (Xm (by kernel_rfl)) (fun l a1 w1 h=>by obtain ⟨_,_,_,h,_⟩:=h;exact h.sz) ⟨0,0,0,Yv rfl,Yb (Zd _ _) (OWN4.out)⟩ ?step ?fin
     case step =>
      intro l a1 w' i hJJ hi hin
      obtain ⟨q2,gF,cF9,hJ,hW⟩:=hJJ
      have hun:l.getD i false=false:=getD_both (mem_ready.1 hi).1
      have hns:=Jb hW hin hun
      have hg:=hW.g hns
      have l0:=Nat.lt_of_lt_of_le hlt4 hg.size
      have l1:=Nat.lt_of_lt_of_le hg4 hg.size
      rcases Zdm i hin with rfl|rfl|rfl|rfl|rfl|rfl|rfl|rfl|rfl|rfl|rfl|rfl|rfl|rfl|rfl|rfl|rfl|rfl|rfl|rfl|rfl|rfl
      · have e0:a1.tmps.getD 0 undef = .pointer (some ⟨p,0,none⟩):=hJ.un 0 (fun i hi _=>Zbh 0 (by decide) i hi)
        exact Zg (Zc hJ hW hi hun rfl (by rfl) rfl (by decide) (by decide) (Zy _ (by decide)) (w':=w') (by simp [execOp,resolve,invoke,builtin,Act.eval,e0,l0,l1,go_sem,Xs]) (⟨by decide,by kernel_rfl,True.intro⟩)) (fun a9 w9 h9=>⟨q2,gF,cF9,h9⟩)
      · have e0:a1.tmps.getD 0 undef = .pointer (some ⟨p,0,none⟩):=hJ.un 0 (fun i hi _=>Zbh 0 (by decide) i hi)
        exact Zg (Zc hJ hW hi hun rfl (by rfl) rfl (by decide) (by decide) (Zy _ (by decide)) (w':=w') (by simp [execOp,resolve,invoke,builtin,Act.eval,e0,l0,l1,go_sem,Xs]) (⟨by decide,by kernel_rfl,True.intro⟩)) (fun a9 w9 h9=>⟨q2,gF,cF9,h9⟩)
      · have e60:a1.tmps.getD 60 undef = .pointer (some ⟨p,0,none⟩):=(Ze hJ hi 1 (by kernel_rfl))
        exact Zg (Zc hJ hW hi hun rfl (by rfl) rfl (by decide) (by decide) (Zy _ (by decide)) (w':=w') (by simp [execOp,resolve,invoke,builtin,Act.eval,e60,l0,l1,go_sem,Xs]) (⟨by decide,by kernel_rfl,True.intro⟩)) (fun a9 w9 h9=>⟨q2,gF,cF9,h9⟩)
      · have e61:a1.tmps.getD 61 undef = .pointer (some ⟨p,0,none⟩):=(Ze hJ hi 2 (by kernel_rfl))
        exact Zg (Zc hJ hW hi hun rfl (by rfl) rfl (by decide) (by decide) (Zy _ (by decide)) (w':=w') (by simp [execOp,resolve,invoke,builtin,Act.eval,e61,l0,l1,go_sem,Xs]) (⟨by decide,by kernel_rfl,True.intro⟩)) (fun a9 w9 h9=>⟨q2,gF,cF9,h9⟩)
      · have e62:a1.tmps.getD 62 undef = .pointer (some ⟨p,0,none⟩):=(Ze hJ hi 3 (by kernel_rfl))
        exact Zg (Zc hJ hW hi hun rfl (by rfl) rfl (by decide) (by decide) (Zy _ (by decide)) (w':=w') (by simp [execOp,resolve,invoke,builtin,Act.eval,e62,l0,l1,go_sem,Xs]) (⟨by decide,by kernel_rfl,True.intro⟩)) (fun a9 w9 h9=>⟨q2,gF,cF9,h9⟩)
      · have e63:a1.tmps.getD 63 undef = .pointer (some ⟨p,2,none⟩):=(Ze hJ hi 4 (by kernel_rfl))
        have h0:=hg.cell c2 HNE
        exact Zg (Zc hJ hW hi hun rfl (by rfl) rfl (by decide) (by decide) (Zy _ (by decide)) (w':=w') (by simp [execOp,resolve,invoke,builtin,Act.eval,e63,h0,l0,l1,go_sem,Xs]) (⟨by decide,by kernel_rfl,True.intro⟩)) (fun a9 w9 h9=>⟨q2,gF,cF9,h9⟩)
      · have e5:a1.tmps.getD 5 undef = .slice (some ⟨g,0,none⟩) 3 k3:=hJ.un 5 (fun i hi _=>Zbh 5 (by decide) i hi)
        exact Zg (Zc hJ hW hi hun rfl (by rfl) rfl (by decide) (by decide) (Zy _ (by decide)) (w':=w') (by simp [execOp,resolve,invoke,builtin,Act.eval,e5,l0,l1,go_sem,Xs]) (⟨by decide,by kernel_rfl,True.intro⟩)) (fun a9 w9 h9=>⟨q2,gF,cF9,h9⟩)
      · have e65:a1.tmps.getD 65 undef = .slice (some ⟨g,0,none⟩) 3 k3:=(Ze hJ hi 6 (by kernel_rfl))
        exact Zg (Zc hJ hW hi hun rfl (by rfl) rfl (by decide) (by decide) (Zy _ (by decide)) (w':=w') (by first|(simp [execOp,resolve,invoke,builtin,Act.eval,e65,l0,l1,go_sem,Xs];done)|(simp [execOp,resolve,invoke,builtin,Act.eval,e65,l0,l1,go_sem,Xs];omega)|(simp [execOp,resolve,invoke,builtin,Act.eval,e65,l0,l1,go_sem,Xs];intro h;omega)|(simp [execOp,resolve,invoke,builtin,Act.eval,e65,l0,l1,go_sem,Xs];intros;omega)) (⟨by decide,by kernel_rfl,True.intro⟩)) (fun a9 w9 h9=>⟨q2,gF,cF9,h9⟩)
      · have e66:a1.tmps.getD 66 undef = .pointer (some ⟨g,0,none⟩):=(Ze hJ hi 7 (by kernel_rfl))
        have h0:=hg.cell d0 HNG
        exact Zg (Zc hJ hW hi hun rfl (by rfl) rfl (by decide) (by decide) (Zy _ (by decide)) (w':=w') (by simp [execOp,resolve,invoke,builtin,Act.eval,e66,h0,l0,l1,go_sem,Xs]) (⟨by decide,by kernel_rfl,True.intro⟩)) (fun a9 w9 h9=>⟨q2,gF,cF9,h9⟩)
      · have e5:a1.tmps.getD 5 undef = .slice (some ⟨g,0,none⟩) 3 k3:=hJ.un 5 (fun i hi _=>Zbh 5 (by decide) i hi)
        exact Zg (Zc hJ hW hi hun rfl (by rfl) rfl (by decide) (by decide) (Zy _ (by decide)) (w':=w') (by simp [execOp,resolve,invoke,builtin,Act.eval,e5,l0,l1,go_sem,Xs]) (⟨by decide,by kernel_rfl,True.intro⟩)) (fun a9 w9 h9=>⟨q2,gF,cF9,h9⟩)
      · have e68:a1.tmps.getD 68 undef = .slice (some ⟨g,0,none⟩) 3 k3:=(Ze hJ hi 9 (by kernel_rfl))
        exact Zg (Zc hJ hW hi hun rfl (by rfl) rfl (by decide) (by decide) (Zy _ (by decide)) (w':=w') (by first|(simp [execOp,resolve,invoke,builtin,Act.eval,e68,l0,l1,go_sem,Xs];done)|(simp [execOp,resolve,invoke,builtin,Act.eval,e68,l0,l1,go_sem,Xs];omega)|(simp [execOp,resolve,invoke,builtin,Act.eval,e68,l0,l1,go_sem,Xs];intro h;omega)|(simp [execOp,resolve,invoke,builtin,Act.eval,e68,l0,l1,go_sem,Xs];intros;omega)) (⟨by decide,by kernel_rfl,True.intro⟩)) (fun a9 w9 h9=>⟨q2,gF,cF9,h9⟩)
      · have e69:a1.tmps.getD 69 undef = .pointer (some ⟨g,1,none⟩):=(Ze hJ hi 10 (by kernel_rfl))
        have h0:=hg.cell d1 HNG
        exact Zg (Zc hJ hW hi hun rfl (by rfl) rfl (by decide) (by decide) (Zy _ (by decide)) (w':=w') (by simp [execOp,resolve,invoke,builtin,Act.eval,e69,h0,l0,l1,go_sem,Xs]) (⟨by decide,by kernel_rfl,True.intro⟩)) (fun a9 w9 h9=>⟨q2,gF,cF9,h9⟩)
      · have e5:a1.tmps.getD 5 undef = .slice (some ⟨g,0,none⟩) 3 k3:=hJ.un 5 (fun i hi _=>Zbh 5 (by decide) i hi)
        exact Zg (Zc hJ hW hi hun rfl (by rfl) rfl (by decide) (by decide) (Zy _ (by decide)) (w':=w') (by simp [execOp,resolve,invoke,builtin,Act.eval,e5,l0,l1,go_sem,Xs]) (⟨by decide,by kernel_rfl,True.intro⟩)) (fun a9 w9 h9=>⟨q2,gF,cF9,h9⟩)
      · have e71:a1.tmps.getD 71 undef = .slice (some ⟨g,0,none⟩) 3 k3:=(Ze hJ hi 12 (by kernel_rfl))
        exact Zg (Zc hJ hW hi hun rfl (by rfl) rfl (by decide) (by decide) (Zy _ (by decide)) (w':=w') (by first|(simp [execOp,resolve,invoke,builtin,Act.eval,e71,l0,l1,go_sem,Xs];done)|(simp [execOp,resolve,invoke,builtin,Act.eval,e71,l0,l1,go_sem,Xs];omega)|(simp [execOp,resolve,invoke,builtin,Act.eval,e71,l0,l1,go_sem,Xs];intro h;omega)|(simp [execOp,resolve,invoke,builtin,Act.eval,e71,l0,l1,go_sem,Xs];intros;omega)) (⟨by decide,by kernel_rfl,True.intro⟩)) (fun a9 w9 h9=>⟨q2,gF,cF9,h9⟩)
      · have e72:a1.tmps.getD 72 undef = .pointer (some ⟨g,2,none⟩):=(Ze hJ hi 13 (by kernel_rfl))
        have h0:=hg.cell d2 HNG
        exact Zg (Zc hJ hW hi hun rfl (by rfl) rfl (by decide) (by decide) (Zy _ (by decide)) (w':=w') (by simp [execOp,resolve,invoke,builtin,Act.eval,e72,h0,l0,l1,go_sem,Xs]) (⟨by decide,by kernel_rfl,True.intro⟩)) (fun a9 w9 h9=>⟨q2,gF,cF9,h9⟩)
      · have e67:a1.tmps.getD 67 undef = .int .i64 na:=(Ze hJ hi 8 (by kernel_rfl))
        have f67:=e67
        rw [Array.getD_eq_getD_getElem?] at f67
        have e70:a1.tmps.getD 70 undef = .int .i64 nl:=(Ze hJ hi 11 (by kernel_rfl))
        have f70:=e70
        rw [Array.getD_eq_getD_getElem?] at f70
        have e73:a1.tmps.getD 73 undef = .int .i64 nr:=(Ze hJ hi 14 (by kernel_rfl))
        have f73:=e73
        rw [Array.getD_eq_getD_getElem?] at f73
        exact Zg (Zc hJ hW hi hun rfl (by rfl) rfl (by decide) (by decide) (Zy _ (by decide)) (w':=w') (by simp [execOp,resolve,invoke,builtin,Act.eval,e67,f67,e70,f70,e73,f73,l0,l1,go_sem,Xs]) (⟨by decide,by kernel_rfl,True.intro⟩)) (fun a9 w9 h9=>⟨q2,gF,cF9,h9⟩)
      · have e74:a1.tmps.getD 74 undef = .agg #[.int .i64 na,.int .i64 nl,.int .i64 nr,.slice none 0 0]:=(Ze hJ hi 15 (by kernel_rfl))
        have f74:=e74
        rw [Array.getD_eq_getD_getElem?] at f74
        refine Yz (v:=Xs w0.heap.size p g k3 c.funcs.length cF na nl nr pF (Yk c.funcs cv) w'.heap.size gF cF9 16) (w':=w'.alloc (.cells #[.int .i64 na,.int .i64 nl,.int .i64 nr,.slice none 0 0] 61)) rfl (by rfl) (by simp [execOp,Act.eval,e74,f74,Zwp,Result.andThen,Xs]) ⟨w'.heap.size,gF,cF9,?_,Zu hW (by decide) hun (by decide) (Zi _ hi (by kernel_rfl)) (Za hg (Ga _ _ _)) (fun hne0 hun0 hB0=>hB0.alloc _) (fun j hj hne hl hcu hF => ?_) (heap_alloc_new w' _)⟩
        · exact Xd (val:=Xs w0.heap.size p g k3 c.funcs.length cF na nl nr pF (Yk c.funcs cv) w'.heap.size gF cF9) (Xf hJ (Zwt hW.cl hun)) (by decide) (by decide) (Zy _ (by decide))
        · rcases Zdm j hj with rfl|rfl|rfl|rfl|rfl|rfl|rfl|rfl|rfl|rfl|rfl|rfl|rfl|rfl|rfl|rfl|rfl|rfl|rfl|rfl|rfl|rfl
          · exact True.intro
          · exact True.intro
          · exact True.intro
          · exact True.intro
          · exact True.intro
          · exact True.intro
          · exact True.intro
          · exact True.intro
          · exact True.intro
          · exact True.intro
          · exact True.intro
          · exact True.intro
          · exact True.intro
          · exact True.intro
          · exact True.intro
          · exact True.intro
          · exact absurd rfl hne
          · exact Zm (hW.cl (17,16) (by decide) (hl)) hun
          · exact True.intro
          · exact True.intro
          · exact True.intro
          · exact True.intro
      · have e64:a1.tmps.getD 64 undef = .slice pF c.funcs.length cF:=(Ze hJ hi 5 (by kernel_rfl))
        have e75:a1.tmps.getD 75 undef = .slice (some ⟨q2,0,none⟩) 1 1:=(Ze hJ hi 16 (by kernel_rfl))
        have F16:=hW.f hns 16 (by decide) (Zb hi 16 (by kernel_rfl)) (Zbl (c:=17) (by decide) hun)
        have own:=hW.u hun
        obtain ⟨v8,w8,hap,hown,hgr,-⟩:=run_append_own_at (P:=Tryz.prog) w' w0.heap.size 24 24 61 fi (.agg #[.int .i64 0,.int .i64 0,.int .i64 0,.slice none 0 0]) 4 48 Zre fi0 fi1 fi2 fi3 rfl (by decide) _ c.funcs.length (Yk c.funcs cv) own ⟨q2,0,none⟩ 1 1 [.int .i64 na,.int .i64 nl,.int .i64 nr,.slice none 0 0] rfl (Zeu F16) (Ygt _ _ _ _ _ _) (by unfold maxLen;omega) (by omega) (Nat.le_trans hE4 hg.size)
        rw [hvb] at hgr
        obtain ⟨gF2,cF92,hv⟩:=Zaw hown
        subst hv
        refine Yz (v:=Xs w0.heap.size p g k3 c.funcs.length cF na nl nr pF (Yk c.funcs cv) q2 gF2 cF92 17) (w':=w8) rfl (by rfl) (by simp [execOp,resolve,invoke,builtin,Act.eval,e64,e75,hap,Result.andThen,Xs]) ⟨q2,gF2,cF92,?_,Zu hW (by decide) hun (by decide) (Zi _ hi (by kernel_rfl)) (Za hg hgr) (fun hne0 hun0 hB0=>absurd rfl hne0) (fun j hj hne hl hcu hF => ?_) (hown)⟩
        · exact Xd (val:=Xs w0.heap.size p g k3 c.funcs.length cF na nl nr pF (Yk c.funcs cv) q2 gF2 cF92) (Xf hJ (Zws hW.cl hun)) (by decide) (by decide) (Zy _ (by decide))
        · rcases Zdm j hj with rfl|rfl|rfl|rfl|rfl|rfl|rfl|rfl|rfl|rfl|rfl|rfl|rfl|rfl|rfl|rfl|rfl|rfl|rfl|rfl|rfl|rfl
          · exact True.intro
          · exact True.intro
          · exact True.intro
          · exact True.intro
          · exact True.intro
          · exact True.intro
          · exact True.intro
          · exact True.intro
          · exact True.intro
          · exact True.intro
          · exact True.intro
          · exact True.intro
          · exact True.intro
          · exact True.intro
          · exact True.intro
          · exact True.intro
          · exact absurd rfl (hcu (16,17) (by decide) rfl).1
          · exact absurd rfl hne
          · exact True.intro
          · exact True.intro
          · exact True.intro
          · exact True.intro
      · have e59:a1.tmps.getD 59 undef = .pointer (some ⟨p,0,none⟩):=(Ze hJ hi 0 (by kernel_rfl))
        exact Zg (Zc hJ hW hi hun rfl (by rfl) rfl (by decide) (by decide) (Zy _ (by decide)) (w':=w') (by simp [execOp,resolve,invoke,builtin,Act.eval,e59,l0,l1,go_sem,Xs]) (⟨by decide,by kernel_rfl,True.intro⟩)) (fun a9 w9 h9=>⟨q2,gF,cF9,h9⟩)
      · have e77:a1.tmps.getD 77 undef = .pointer (some ⟨p,0,none⟩):=(Ze hJ hi 18 (by kernel_rfl))
        exact Zg (Zc hJ hW hi hun rfl (by rfl) rfl (by decide) (by decide) (Zy _ (by decide)) (w':=w') (by simp [execOp,resolve,invoke,builtin,Act.eval,e77,l0,l1,go_sem,Xs]) (⟨by decide,by kernel_rfl,True.intro⟩)) (fun a9 w9 h9=>⟨q2,gF,cF9,h9⟩)
      · have e78:a1.tmps.getD 78 undef = .pointer (some ⟨p,0,none⟩):=(Ze hJ hi 19 (by kernel_rfl))
        exact Zg (Zc hJ hW hi hun rfl (by rfl) rfl (by decide) (by decide) (Zy _ (by decide)) (w':=w') (by simp [execOp,resolve,invoke,builtin,Act.eval,e78,l0,l1,go_sem,Xs]) (⟨by decide,by kernel_rfl,True.intro⟩)) (fun a9 w9 h9=>⟨q2,gF,cF9,h9⟩)
      · have e79:a1.tmps.getD 79 undef = .pointer (some ⟨p,2,none⟩):=(Ze hJ hi 20 (by kernel_rfl))
        have e76:a1.tmps.getD 76 undef = .slice (some ⟨gF,0,none⟩) (c.funcs.length+1) cF9:=(Ze hJ hi 17 (by kernel_rfl))
        have F17:=hW.f hns 17 (by decide) (Zb hi 17 (by kernel_rfl)) (Zcc (by decide))
        have bx2:=hg.block p hlt4 HNE
        have k1:=hg.cell c2 HNE
        have j1:w'.frozen? ⟨p,2,none⟩=false:=(World.frozen?_of_block bx2).trans z2
        have lb2:=Nat.lt_of_lt_of_le hlt4 hg.size
        have O17:w'.ownsRow w0.heap.size 61 4 (.slice (some ⟨gF,0,none⟩) (c.funcs.length+1) cF9) (c.funcs.length+1) (Yk c.funcs cv++[.int .i64 na,.int .i64 nl,.int .i64 nr,.slice none 0 0]):=F17
        have hall:∀ j,j<22->j≠21->l.getD j false=true:=by
         intro j hj hne
         rcases Zdm j hj with rfl|rfl|rfl|rfl|rfl|rfl|rfl|rfl|rfl|rfl|rfl|rfl|rfl|rfl|rfl|rfl|rfl|rfl|rfl|rfl|rfl|rfl
         · exact hW.cl (18,0) (by decide) (hW.cl (19,18) (by decide) (hW.cl (20,19) (by decide) (Zb hi 20 (by kernel_rfl))))
         · exact hW.cl (2,1) (by decide) (hW.cl (3,2) (by decide) (hW.cl (4,3) (by decide) (hW.cl (5,4) (by decide) (hW.cl (17,5) (by decide) (Zb hi 17 (by kernel_rfl))))))
         · exact hW.cl (3,2) (by decide) (hW.cl (4,3) (by decide) (hW.cl (5,4) (by decide) (hW.cl (17,5) (by decide) (Zb hi 17 (by kernel_rfl)))))
         · exact hW.cl (4,3) (by decide) (hW.cl (5,4) (by decide) (hW.cl (17,5) (by decide) (Zb hi 17 (by kernel_rfl))))
         · exact hW.cl (5,4) (by decide) (hW.cl (17,5) (by decide) (Zb hi 17 (by kernel_rfl)))
         · exact hW.cl (17,5) (by decide) (Zb hi 17 (by kernel_rfl))
         · exact hW.cl (7,6) (by decide) (hW.cl (8,7) (by decide) (hW.cl (15,8) (by decide) (hW.cl (16,15) (by decide) (hW.cl (17,16) (by decide) (Zb hi 17 (by kernel_rfl))))))
         · exact hW.cl (8,7) (by decide) (hW.cl (15,8) (by decide) (hW.cl (16,15) (by decide) (hW.cl (17,16) (by decide) (Zb hi 17 (by kernel_rfl)))))
         · exact hW.cl (15,8) (by decide) (hW.cl (16,15) (by decide) (hW.cl (17,16) (by decide) (Zb hi 17 (by kernel_rfl))))
         · exact hW.cl (10,9) (by decide) (hW.cl (11,10) (by decide) (hW.cl (15,11) (by decide) (hW.cl (16,15) (by decide) (hW.cl (17,16) (by decide) (Zb hi 17 (by kernel_rfl))))))
         · exact hW.cl (11,10) (by decide) (hW.cl (15,11) (by decide) (hW.cl (16,15) (by decide) (hW.cl (17,16) (by decide) (Zb hi 17 (by kernel_rfl)))))
         · exact hW.cl (15,11) (by decide) (hW.cl (16,15) (by decide) (hW.cl (17,16) (by decide) (Zb hi 17 (by kernel_rfl))))
         · exact hW.cl (13,12) (by decide) (hW.cl (14,13) (by decide) (hW.cl (15,14) (by decide) (hW.cl (16,15) (by decide) (hW.cl (17,16) (by decide) (Zb hi 17 (by kernel_rfl))))))
         · exact hW.cl (14,13) (by decide) (hW.cl (15,14) (by decide) (hW.cl (16,15) (by decide) (hW.cl (17,16) (by decide) (Zb hi 17 (by kernel_rfl)))))
         · exact hW.cl (15,14) (by decide) (hW.cl (16,15) (by decide) (hW.cl (17,16) (by decide) (Zb hi 17 (by kernel_rfl))))
         · exact hW.cl (16,15) (by decide) (hW.cl (17,16) (by decide) (Zb hi 17 (by kernel_rfl)))
         · exact hW.cl (17,16) (by decide) (Zb hi 17 (by kernel_rfl))
         · exact Zb hi 17 (by kernel_rfl)
         · exact hW.cl (19,18) (by decide) (hW.cl (20,19) (by decide) (Zb hi 20 (by kernel_rfl)))
         · exact hW.cl (20,19) (by decide) (Zb hi 20 (by kernel_rfl))
         · exact Zb hi 20 (by kernel_rfl)
         · exact absurd rfl hne
        exact Zg (Zam (WS:=fun l9 w9=>Zbj 21 22 17 [(2,1),(3,2),(4,3),(5,4),(7,6),(8,7),(10,9),(11,10),(13,12),(14,13),(15,8),(15,11),(15,14),(16,15),(17,5),(17,16),(18,0),(19,18),(20,19),(21,20),(21,17)] [(16,17)] (fun w9=>World.grownBy w4.drew w9 vb) (fun w9=>w9.ownsRow w0.heap.size 61 4 (.slice pF c.funcs.length cF) c.funcs.length (Yk c.funcs cv)) (Yga w0.heap.size p g k3 c.funcs.length cF na nl nr pF (Yk c.funcs cv) q2 gF cF9) (fun w9=>∃ (w8:World),World.grownBy w4.drew w8 vb/\w8.ownsRow w0.heap.size 61 4 (.slice (some ⟨gF,0,none⟩) (c.funcs.length+1) cF9) (c.funcs.length+1) (Yk c.funcs cv++[.int .i64 na,.int .i64 nl,.int .i64 nr,.slice none 0 0])/\w9=w8.setCell ⟨p,2,none⟩ (.slice (some ⟨gF,0,none⟩) (c.funcs.length+1) cF9)) l9 w9) hJ rfl rfl rfl (by decide) (by decide) (w':=w'.setCell ⟨p,2,none⟩ (.slice (some ⟨gF,0,none⟩) (c.funcs.length+1) cF9)) (by simp [execOp,Act.eval,e79,e76,k1,j1,lb2,go_sem]) (Xv hW (by decide) (by decide) hall (Zi _ hi (by kernel_rfl)) (⟨w',hg,O17,rfl⟩))) (fun a9 w9 h9=>⟨q2,gF,cF9,h9⟩)
     case fin =>
      intro l9 a1 w9 hJJ hl9
      obtain ⟨q2,gF,cF9,hJ,hW⟩:=hJJ
      have hq:=hW.q (hl9 21 (by decide))
      have hput:=Xk hJ rfl hl9 (fun i j h1 h2 h3=>Zy j h2 i h1 h3)
      subst hput
      clear hJ hW hl9 c2 d0 d1 d2
      obtain ⟨w8,q1,q2,rfl⟩:=hq
      (try refine hKA _ _ ?_)
      simp only [Je,fnA,Xs,Act.put,List.setIfInBounds_toArray,List.set_cons_zero,List.set_cons_succ]
      have M5:=Zqi AD4.out q2 (by rw [hvb];exact q1)
      generalize w8.setCell ⟨p,2,none⟩ (.slice (some ⟨gF,0,none⟩) (c.funcs.length+1) cF9)=w5 at *
      have A5:=Hq M5.1
      have FR5:=Hq (Zn FD4.out M5.2)
      clear q1 q2 M5
      obtain ⟨pL,cL,hvL⟩:=Zk A5.out.ins.lrow
      subst hvL
      have HL5:=Hq A5.out.ins.lrow
      have c5:w5.cell? ⟨p,5,none⟩=some (.slice pL lb.length cL):=Cq w5 p 5 _ _ _ A5.out.box
      have hlt5:p<w5.heap.size:=(Gs A5.out.box)
      have hlb:lb.length<=1000000:=by have:=A5.out.ins.len1;have:=A5.out.lens;have:=A5.out.ins.z2;simp only [] at *;omega
      have hE5:∀ o' o'',w0.heap.size<=((w5.alloc o').alloc o'').heap.size:=fun o' o''=>Yt (Yt A5.out.gr.size o') o''
      obtain ⟨mi,mi0,mi1,mi2,mi3⟩:=info_parts Zmr
      have hmm := @run_makeMap Tryz.prog
      have hc3:lb.length+1<=maxLen:=by unfold maxLen;omega
      have hc4:(lb.length+1)*8<=140737488355328:=by omega
      go_wp2_with (at_builtin;refine wpList_append_own_at _ rfl _ _ 67 rfl w0.heap.size 66 mi (.map none) 1 8 Zqu mi0 mi1 mi2 mi3 rfl (by decide) (.slice pL lb.length cL) _ _ rfl (World.ownsRow.alloc (World.ownsRow.alloc HL5.out _) _) ⟨w5.heap.size+1,0,none⟩ 1 1 [.map (some w5.heap.size)] rfl rfl (Zlb w5 _ _ _) (Zvo _) hc3 hc4 (hE5 _ _) ?_;intro v3 w6 hown3 hgr3 hnil3 hat3;obtain ⟨p3,kk3,hv3⟩:=Zk hown3;subst hv3;have LL:=Hq (Zmi A5.out (Ga _ _ none) hown3 hgr3);have B6:=Zji A5.out (Za (Ga w5 (.map #[] 0) none) (Ga _ _ none)) hgr3;obtain ⟨k6,j6,l6⟩:=B6;clear hown3 hgr3 hnil3 hat3)
      clear hKA KA
      go_ret
      refine ⟨?_,Zn FR5.out LL.out.2,Zag LL.out.1⟩
      rw [HR.out]
      exact ⟨rfl,LL.out.1⟩
end Go.Proofs.YteciblfmgdlipaaGreatDoor.AS
