/-
  Part of a proof: contracts of functions and lemmas, each stated by its own theorem. Conditions: as each theorem states.
-/
import Derived.Test.YteciblfmgdlipaaGreatDoorMI06
import Derived.Test.YteciblfmgdlipaaGreatDoorMI08
set_option linter.unusedSimpArgs false
set_option linter.unusedVariables false
set_option maxRecDepth 100000
set_option maxHeartbeats 16000000
namespace Go.Proofs.YteciblfmgdlipaaGreatDoor.AS
open Go.RowKit Go.Great CK
def Zhb (c:CS) (x:Option Int) (ps:List Pc):Option (CS × Option Int) :=
 match ps with
 | .word nm::rest=>match Zff rest 3 with
   | some [a,l,r]=>some ({ c with funcs:=c.funcs++[(a,l,r,[])],fm:=fun u=>if u=nm then some (c.funcs.length:Int) else c.fm u,lm:=c.lm++[fun _=>none] },if (c.fm nm).isSome then amV (Zpe x rest) 142 else Zpe x rest)
   | _=>none
 | _=>none
theorem Zry {w:World} {b o:Nat} {q:Pc} {rest:List Pc} (h:Zkh w (some ⟨b,o,none⟩) (q::rest)):Zkh w (some ⟨b,o+4,none⟩) rest:=by
 have:=Zue (k:=1) h
 simpa using this
theorem Ygw (b:Nat):∀ u∈[Value.map (some b)],u.oneCell'=true:=by
 intro u hu
 simp only [List.mem_cons,List.not_mem_nil,or_false] at hu
 subst hu;rfl
theorem Ztv {w:World} {E E':Nat} {t t':TypeId} {sz sz' n n' g k:Nat} {v:Value} {xs xs':List Value} (h:w.ownsRow E t sz v n xs) (h':w.ownsRow E' t' sz' (.slice (some ⟨g,0,none⟩) n' k) n' xs') (_:E<=w.heap.size) (hne:t≠t'):some g≠v.ownBlock:=by
 have h1:=Zcc h (Nat.zero_le _)
 have h2:=Zcc h' (Nat.zero_le _)
 intro e
 rcases Zh h1 h2 hne with q|q
 · rw [q] at e;cases e
 · exact q e.symm
def f6:Nat->Nat
 | 0=>31
 | 1=>32
 | 2=>33
 | 3=>34
 | 4=>35
 | 5=>36
 | 6=>37
 | 7=>38
 | 8=>39
 | 9=>30
 | 10=>40
 | 11=>41
 | 12=>7
 | 13=>8
 | _=>5000
theorem Zit:∀ i,i<14->∀ j,j<14->j≠i->f6 j≠f6 i:=by decide
theorem Yxj (i:Nat) (h:i<14):i=0\/i=1\/i=2\/i=3\/i=4\/i=5\/i=6\/i=7\/i=8\/i=9\/i=10\/i=11\/i=12\/i=13:=by omega
theorem Ypr (j:Nat) (hj:j∈[0,1]):∀ i,i<14->f6 i≠j:=by revert j;decide
def f6v (p b o cc bm:Nat) (tx:ByteArray) (vn:Int) (bt:Bool):Nat->Value
 | 0 => .pointer (some ⟨p,0,none⟩)
 | 1 => .pointer (some ⟨p,0,none⟩)
 | 2 => .pointer (some ⟨p,4,none⟩)
 | 3 => .map (some bm)
 | 4 => .slice (some ⟨b,o,none⟩) 4 cc
 | 5 => .pointer (some ⟨b,o,none⟩)
 | 6 => .pointer (some ⟨b,o+1,none⟩)
 | 7 => .string tx
 | 8 => .tuple #[.int .i64 vn,.bool bt]
 | 9 => .tuple #[.int .i64 vn,.bool bt]
 | 10 => .int .i64 vn
 | 11 => .bool bt
 | 12 => .int .i64 vn
 | 13 => .bool bt
 | _=>undef
def f6F (p b o cc bm:Nat) (tx:ByteArray) (vn:Int) (bt:Bool)  : Nat->World->Prop
 | _=>fun _=>True
def f9:Nat->Nat
 | 0=>45
 | 1=>46
 | 2=>47
 | 3=>48
 | 4=>49
 | 5=>50
 | 6=>51
 | 7=>52
 | 8=>53
 | 9=>54
 | 10=>55
 | 11=>56
 | 12=>57
 | 13=>58
 | 14=>1014
 | _=>5000
theorem Zbx:∀ i,i<15->∀ j,j<15->j≠i->f9 j≠f9 i:=by decide
theorem Yvp (i:Nat) (h:i<15):i=0\/i=1\/i=2\/i=3\/i=4\/i=5\/i=6\/i=7\/i=8\/i=9\/i=10\/i=11\/i=12\/i=13\/i=14:=by omega
theorem Zrf (j:Nat) (hj:j∈[0,1]):∀ i,i<15->f9 i≠j:=by revert j;decide
def f9v (p b o cc bm nF cF:Nat) (pF:Option Addr) (tx:ByteArray):Nat->Value
 | 0 => .pointer (some ⟨p,0,none⟩)
 | 1 => .pointer (some ⟨p,0,none⟩)
 | 2 => .pointer (some ⟨p,4,none⟩)
 | 3 => .map (some bm)
 | 4 => .slice (some ⟨b,o,none⟩) 4 cc
 | 5 => .pointer (some ⟨b,o,none⟩)
 | 6 => .pointer (some ⟨b,o+1,none⟩)
 | 7 => .string tx
 | 8 => .pointer (some ⟨p,0,none⟩)
 | 9 => .pointer (some ⟨p,0,none⟩)
 | 10 => .pointer (some ⟨p,0,none⟩)
 | 11 => .pointer (some ⟨p,2,none⟩)
 | 12 => .slice pF nF cF
 | 13 => .int .i64 nF
 | 14=>undef
 | _=>undef
def f9F (p b o cc bm nF cF:Nat) (pF:Option Addr) (tx:ByteArray)  : Nat->World->Prop
 | _=>fun _=>True
def fnA:Nat->Nat
 | 0=>59
 | 1=>60
 | 2=>61
 | 3=>62
 | 4=>63
 | 5=>64
 | 6=>65
 | 7=>66
 | 8=>67
 | 9=>68
 | 10=>69
 | 11=>70
 | 12=>71
 | 13=>72
 | 14=>73
 | 15=>74
 | 16=>75
 | 17=>76
 | 18=>77
 | 19=>78
 | 20=>79
 | 21=>1021
 | _=>5000
theorem Xc:∀ i,i<22->∀ j,j<22->j≠i->fnA j≠fnA i:=by decide
theorem Zmf (i:Nat) (h:i<22):i=0\/i=1\/i=2\/i=3\/i=4\/i=5\/i=6\/i=7\/i=8\/i=9\/i=10\/i=11\/i=12\/i=13\/i=14\/i=15\/i=16\/i=17\/i=18\/i=19\/i=20\/i=21:=by omega
theorem Zeu (j:Nat) (hj:j∈[0,5]):∀ i,i<22->fnA i≠j:=by revert j;decide
def Zch (E p g k3 nF cF:Nat) (na nl nr:Int) (pF:Option Addr) (ys:List Value) (q2:Nat) (gF:Nat) (cF9:Nat):Nat->Value
 | 0 => .pointer (some ⟨p,0,none⟩)
 | 1 => .pointer (some ⟨p,0,none⟩)
 | 2 => .pointer (some ⟨p,0,none⟩)
 | 3 => .pointer (some ⟨p,0,none⟩)
 | 4 => .pointer (some ⟨p,2,none⟩)
 | 5 => .slice pF nF cF
 | 6 => .slice (some ⟨g,0,none⟩) 3 k3
 | 7 => .pointer (some ⟨g,0,none⟩)
 | 8 => .int .i64 na
 | 9 => .slice (some ⟨g,0,none⟩) 3 k3
 | 10 => .pointer (some ⟨g,1,none⟩)
 | 11 => .int .i64 nl
 | 12 => .slice (some ⟨g,0,none⟩) 3 k3
 | 13 => .pointer (some ⟨g,2,none⟩)
 | 14 => .int .i64 nr
 | 15 => .agg #[.int .i64 na,.int .i64 nl,.int .i64 nr,.slice none 0 0]
 | 16 => .slice (some ⟨q2,0,none⟩) 1 1
 | 17 => .slice (some ⟨gF,0,none⟩) (nF+1) cF9
 | 18 => .pointer (some ⟨p,0,none⟩)
 | 19 => .pointer (some ⟨p,0,none⟩)
 | 20 => .pointer (some ⟨p,2,none⟩)
 | 21=>undef
 | _=>undef
def Ywl (E p g k3 nF cF:Nat) (na nl nr:Int) (pF:Option Addr) (ys:List Value) (q2:Nat) (gF:Nat) (cF9:Nat):Nat->World->Prop
 | 16=>fun w9=>w9.heap[q2]? = some (.cells #[.int .i64 na,.int .i64 nl,.int .i64 nr,.slice none 0 0] 61 (0,0))
 | 17=>fun w9=>w9.ownsRow E 61 4 (.slice (some ⟨gF,0,none⟩) (nF+1) cF9) (nF+1) (ys++[.int .i64 na,.int .i64 nl,.int .i64 nr,.slice none 0 0])
 | _=>fun _=>True
theorem Yin {E p g k3 nF cF:Nat} {na nl nr:Int} {pF:Option Addr} {ys:List Value} {q2:Nat} {gF:Nat} {cF9:Nat} {q22:Nat} {l:Array Bool} (hcl:∀ p∈([(2,1),(3,2),(4,3),(5,4),(7,6),(8,7),(10,9),(11,10),(13,12),(14,13),(15,8),(15,11),(15,14),(16,15),(17,5),(17,16),(18,0),(19,18),(20,19),(21,20),(21,17)]:List (Nat × Nat)),l.getD (Prod.fst p) false=true->l.getD (Prod.snd p) false=true) (hun:l.getD 16 false=false):∀ i,i<22->l.getD i false=true->fnA i<90->Zch E p g k3 nF cF na nl nr pF ys q22 gF cF9 i=Zch E p g k3 nF cF na nl nr pF ys q2 gF cF9 i:=by
 intro i hi hl _
 rcases Zmf i hi with rfl|rfl|rfl|rfl|rfl|rfl|rfl|rfl|rfl|rfl|rfl|rfl|rfl|rfl|rfl|rfl|rfl|rfl|rfl|rfl|rfl|rfl <;> first|rfl|exact Zk (hl) hun
theorem Yim {E p g k3 nF cF:Nat} {na nl nr:Int} {pF:Option Addr} {ys:List Value} {q2:Nat} {gF:Nat} {cF9:Nat} {gF2:Nat} {cF92:Nat} {l:Array Bool} (hcl:∀ p∈([(2,1),(3,2),(4,3),(5,4),(7,6),(8,7),(10,9),(11,10),(13,12),(14,13),(15,8),(15,11),(15,14),(16,15),(17,5),(17,16),(18,0),(19,18),(20,19),(21,20),(21,17)]:List (Nat × Nat)),l.getD (Prod.fst p) false=true->l.getD (Prod.snd p) false=true) (hun:l.getD 17 false=false):∀ i,i<22->l.getD i false=true->fnA i<90->Zch E p g k3 nF cF na nl nr pF ys q2 gF2 cF92 i=Zch E p g k3 nF cF na nl nr pF ys q2 gF cF9 i:=by
 intro i hi hl _
 rcases Zmf i hi with rfl|rfl|rfl|rfl|rfl|rfl|rfl|rfl|rfl|rfl|rfl|rfl|rfl|rfl|rfl|rfl|rfl|rfl|rfl|rfl|rfl|rfl <;> first|rfl|exact Zk (hl) hun
theorem Yxi (w0 w:World) (p m:Nat) (c:CS) (x:Option Int) (nm:Txt) (rest:List Pc) (na nl nr:Int) (b o cc:Nat) (h:PS w0 w p m c (Zgw x)) (hp:Zkh w (some ⟨b,o,none⟩) (.word nm::rest)) (hl:rest.length=3) (hcc:4<=cc) (hnum:Zff rest 3=some [na,nl,nr])
 (ht:nm.length<=1000000) (hm:m+2<=1000000) :
 Calls Tryz.prog 79 #[.pointer (some ⟨p,0,none⟩),.slice (some ⟨b,o,none⟩) 4 cc] w (Yi w0 w p (m+2) (Zhb c x (.word nm::rest))):=by
 have HR:=Hq (show Zhb c x (.word nm::rest)=some ({ c with funcs:=c.funcs++[(na,nl,nr,[])],fm:=fun u=>if u=nm then some (c.funcs.length:Int) else c.fm u,lm:=c.lm++[fun _=>none] },if (c.fm nm).isSome then amV (Zpe x rest) 142 else Zpe x rest) by unfold Zhb;simp only [];rw [hnum])
 have HS:=Hq h
 have HP:=Hq hp
 have NM:=Hq (show ∀ cc',Calls Tryz.prog 113 #[.pointer (some ⟨p,0,none⟩),.slice (some ⟨b,o+4,none⟩) 3 cc',.int .i64 3] w fun e w' =>
  (∃ q k,e = .returned (.tuple #[.slice q 3 k,.nilIface])/\Ybm w' w.heap.size (.slice q 3 k) [na,nl,nr]/\PS w0 w' p m c (Zgw (Zpe x rest)))/\w.grownBy w' (some p) from fun cc'=>by
  have:=Zio w0 w p m c x rest (some ⟨b,o+4,none⟩) cc' 3 h (Zry hp) (by omega) (by decide)
  rw [hl] at this
  unfold Zkf at this
  rw [hnum] at this
  exact this)
 obtain ⟨b',o',e,hb,d0,d1,d2,d3⟩:=Jb hp (i:=0) (q := .word nm) rfl
 injection e with e;injection e with e1 e2
 subst e1;subst e2
 simp only [Nat.zero_mul,Nat.add_zero,pcK,pcT,pcN,pcF] at d0 d1 d2 d3
 have hci:(4:Int)<=cc:=by omega
 clear h hp hnum hl
 go_enter Tryz.func79,Tryz.ntmps79
 go_upto_region 6 with (go_at_call 113;refine (NM.out _).mono ?_;rintro e w2 ⟨⟨q,k3,rfl,hrow,hps⟩,hg⟩)
 rename_i K hK
 have S2:=Hq hps
 have G2:=Hq hg
 have RW2:=Hq hrow
 have AM:=Hq (fun wr h=>Zpg w0 wr p m c (Zpe x rest) 142 h)
 obtain ⟨g,cap,hv,hg1,hc1⟩:=Zv hrow (by simp)
 injection hv with hv _ hk3
 subst hv;subst hk3
 have hgw:=(World.ownsRow.lt hrow g rfl).1
 have hpw:=(Yls HS.out).2
 have PT2:=Hq (Zak HP.out (Zea HS.out hg))
 obtain ⟨vd,vF,vL,vB,bm,cv,lb,hA⟩:=hps
 obtain ⟨b',o',e,hb2,x0,x1,x2,x3⟩:=Jb PT2.out (i:=0) (q := .word nm) rfl
 injection e with e;injection e with e1 e2
 subst e1;subst e2
 simp only [Nat.zero_mul,Nat.add_zero,pcK,pcT,pcN,pcF] at x0 x1 x2 x3
 have c4:w2.cell? ⟨p,4,none⟩=some (.map (some bm)):=Cq w2 p 4 _ _ _ hA.box
 have hlt2:p<w2.heap.size:=(Gs hA.box)
 have hok:=Zsm (Yu hA.ins.fm (Ze (Zb w2 none)) (by simp)) nm ht
 obtain ⟨bt,hbt⟩:∃ bt,(c.fm nm).isSome=bt:=⟨_,rfl⟩
 obtain ⟨vn,hvn⟩:∃ vn,(c.fm nm).getD 0=vn:=⟨_,rfl⟩
 rw [hbt,hvn] at hok
 rw [hbt] at HR
 clear hA hg hrow hc1 d0 d1 d2 d3 hbt hvn
 refine Yd (n:=14) (J:=fun a0 l a1 w1=>RJ a0 90 14 f6 (f6v p b o cc bm (bs nm) vn bt ) l a1/\Zas 14 14 0 [(1,0),(2,1),(3,2),(5,4),(6,5),(7,6),(8,3),(8,7),(9,8),(10,9),(11,9),(12,10),(13,11)] [] (fun w9=>w9=w2.drew) (fun _=>True) (f6F p b o cc bm (bs nm) vn bt ) (fun _=>True) l w1) (by kernel_rfl) rfl (Yt (by kernel_rfl)) (fun l a1 w1 h=>by obtain ⟨h,_⟩:=h;exact h.sz) ⟨Yc rfl,Zu (rfl) (True.intro)⟩ ?step ?fin
 case step =>
  intro l a1 w' i hJJ hi hin
  obtain ⟨hJ,hW⟩:=hJJ
  have hun:l.getD i false=false:=getD_both (mem_ready.1 hi).1
  have hns:=Xe hW hin hun
  have hg:=hW.g hns
  have l0:p<w'.heap.size:=by rw [hg];exact hlt2
  have l1:b<w'.heap.size:=by rw [hg];exact hb2
  have hok2:=(by rw [hg];exact hok:(Instr.lookup 66 (.map (some bm)) (.string (bs nm)) true).run Tryz.prog w' = .ok (.tuple #[.int .i64 vn,.bool bt]) w')
  rcases Yxj i hin with rfl|rfl|rfl|rfl|rfl|rfl|rfl|rfl|rfl|rfl|rfl|rfl|rfl|rfl
  · have e0:a1.tmps.getD 0 undef = .pointer (some ⟨p,0,none⟩):=hJ.un 0 (fun i hi _=>Ypr 0 (by decide) i hi)
    exact Zd hJ hW hi hun (hne:=Zit _ (by decide)) (hrun:=by simp [execOp,Act.eval,e0,hok2,go_sem,f6v])
  · have e31:a1.tmps.getD 31 undef = .pointer (some ⟨p,0,none⟩):=rjt hJ hi 0
    exact Zd hJ hW hi hun (hne:=Zit _ (by decide)) (hrun:=by simp [execOp,Act.eval,e31,hok2,go_sem,f6v])
  · have e32:a1.tmps.getD 32 undef = .pointer (some ⟨p,0,none⟩):=rjt hJ hi 1
    exact Zd hJ hW hi hun (hne:=Zit _ (by decide)) (hrun:=by simp [execOp,Act.eval,e32,hok2,go_sem,f6v])
  · have e33:a1.tmps.getD 33 undef = .pointer (some ⟨p,4,none⟩):=rjt hJ hi 2
    have h0:=Xy c4 hg
    exact Zd hJ hW hi hun (hne:=Zit _ (by decide)) (hrun:=by simp [execOp,Act.eval,e33,h0,l0,l1,hok2,go_sem,f6v])
  · have e1:a1.tmps.getD 1 undef = .slice (some ⟨b,o,none⟩) 4 cc:=hJ.un 1 (fun i hi _=>Ypr 1 (by decide) i hi)
    exact Zd hJ hW hi hun (hne:=Zit _ (by decide)) (hrun:=by simp [execOp,resolve,invoke,builtin,Act.eval,e1,l0,l1,hok2,go_sem,f6v])
  · have e35:a1.tmps.getD 35 undef = .slice (some ⟨b,o,none⟩) 4 cc:=rjt hJ hi 4
    exact Zd hJ hW hi hun (hne:=Zit _ (by decide)) (hrun:=by simp [execOp,resolve,invoke,builtin,Act.eval,e35,l0,l1,hok2,go_sem,f6v] <;> (intros;omega))
  · have e36:a1.tmps.getD 36 undef = .pointer (some ⟨b,o,none⟩):=rjt hJ hi 5
    exact Zd hJ hW hi hun (hne:=Zit _ (by decide)) (hrun:=by simp [execOp,Act.eval,e36,hok2,go_sem,f6v])
  · have e37:a1.tmps.getD 37 undef = .pointer (some ⟨b,o+1,none⟩):=rjt hJ hi 6
    have h0:=Xy x1 hg
    exact Zd hJ hW hi hun (hne:=Zit _ (by decide)) (hrun:=by simp [execOp,Act.eval,e37,h0,l0,l1,hok2,go_sem,f6v])
  · have e34:a1.tmps.getD 34 undef = .map (some bm):=rjt hJ hi 3
    have e38:a1.tmps.getD 38 undef = .string (bs nm):=rjt hJ hi 7
    exact Zd hJ hW hi hun (hne:=Zit _ (by decide)) (hrun:=by simp [execOp,Act.eval,e34,e38,l0,l1,hok2,go_sem,f6v])
  · have e39:a1.tmps.getD 39 undef = .tuple #[.int .i64 vn,.bool bt]:=rjt hJ hi 8
    exact Zd hJ hW hi hun (hne:=Zit _ (by decide)) (hrun:=by simp [execOp,Act.eval,e39,l0,l1,hok2,go_sem,f6v])
  · have e30:a1.tmps.getD 30 undef = .tuple #[.int .i64 vn,.bool bt]:=rjt hJ hi 9
    exact Zd hJ hW hi hun (hne:=Zit _ (by decide)) (hrun:=by simp [execOp,Act.eval,e30,l0,l1,hok2,go_sem,f6v])
  · have e30:a1.tmps.getD 30 undef = .tuple #[.int .i64 vn,.bool bt]:=rjt hJ hi 9
    exact Zd hJ hW hi hun (hne:=Zit _ (by decide)) (hrun:=by simp [execOp,Act.eval,e30,l0,l1,hok2,go_sem,f6v])
  · have e40:a1.tmps.getD 40 undef = .int .i64 vn:=rjt hJ hi 10
    exact Zd hJ hW hi hun (hne:=Zit _ (by decide)) (hrun:=by simp [execOp,Act.eval,e40,l0,l1,hok2,go_sem,f6v])
  · have e41:a1.tmps.getD 41 undef = .bool bt:=rjt hJ hi 11
    exact Zd hJ hW hi hun (hne:=Zit _ (by decide)) (hrun:=by simp [execOp,Act.eval,e41,l0,l1,hok2,go_sem,f6v])
 case fin =>
  intro l9 a1 w9 hJJ hl9
  obtain ⟨hJ,hW⟩:=hJJ
  have hq:w9=w2.drew:=hW.g (Ju hW)
  have hput:=Ys hJ rfl hl9 (fun i j h1 h2 h3=>Zit j h2 i h1 h3)
  subst hput;subst hq
  clear hJ hW hl9 hok c4 x0 x1 x2 x3
  (try refine hK _ _ ?_)
  simp only [Ja,f6,f6v,Act.put,List.setIfInBounds_toArray,List.set_cons_zero,List.set_cons_succ]
  cases bt with
  | true =>
    go_upto_region 9 with (go_at_call 112;refine (AM.out _ (Zcb S2.out (Ze (Zb w2 none)))).mono ?_;rintro e w3 ⟨rfl,hps3,hg3⟩)
    have S3:=Hq hps3
    have G3:=Hq (Za (Zon (Ze (Zb w2 none))) hg3)
    clear hps3 hg3
    rename_i K9 hK9
    obtain ⟨vd,vF,vL,vB,bm,cv,lb,hA⟩:=S3.out
    obtain ⟨pF,cF,hvF⟩:=Zan hA
    subst hvF
    have RW3:=Hq (RW2.out.kept G3.out (Znw RW2.out hpw))
    have PT3:=Hq (Zak PT2.out (Zea S2.out G3.out))
    have MM:=Hq hA.ins.fm
    have A3:=Hq (Xp hA (Ze (Zb w3 none)))
    have FR3:=Hq (Zz (Zz (Zea HS.out G2.out) (Zea S2.out G3.out)) (Xg (Ze (Zb w3 none))))
    obtain ⟨b',o',e,hb3,x0,x1,x2,x3⟩:=Jb PT3.out (i:=0) (q := .word nm) rfl
    injection e with e;injection e with e1 e2
    subst e1;subst e2
    simp only [Nat.zero_mul,Nat.add_zero,pcK,pcT,pcN,pcF] at x0 x1 x2 x3
    have c2:w3.cell? ⟨p,2,none⟩=some (.slice pF c.funcs.length cF):=Cq w3 p 2 _ _ _ hA.box
    have c4:w3.cell? ⟨p,4,none⟩=some (.map (some bm)):=Cq w3 p 4 _ _ _ hA.box
    have hlt3:p<w3.heap.size:=(Gs hA.box)
    have hz2:=hA.ins.z2
    clear hA
    refine Yd (n:=15) (J:=fun a0 l a1 w1=>RJ a0 90 15 f9 (f9v p b o cc bm c.funcs.length cF pF (bs nm) ) l a1/\Zas 14 15 0 [(1,0),(2,1),(3,2),(5,4),(6,5),(7,6),(9,8),(10,9),(11,10),(12,11),(13,12),(14,3),(14,7),(14,13)] [] (fun w9=>w9=w3.drew) (fun _=>True) (f9F p b o cc bm c.funcs.length cF pF (bs nm) ) (fun w9=>Zhs w9 bm (m+1) (fun u=>if u=nm then some (c.funcs.length:Int) else c.fm u)/\World.grownBy w3.drew w9 (some bm)) l w1) (by kernel_rfl) rfl (Yt (by kernel_rfl)) (fun l a1 w1 h=>by obtain ⟨h,_⟩:=h;exact h.sz) ⟨Yc rfl,Zu (rfl) (True.intro)⟩ ?step ?fin
    case step =>
     intro l a1 w' i hJJ hi hin
     obtain ⟨hJ,hW⟩:=hJJ
     have hun:l.getD i false=false:=getD_both (mem_ready.1 hi).1
     have hns:=Xe hW hin hun
     have hg:=hW.g hns
     have l0:p<w'.heap.size:=by rw [hg];exact hlt3
     have l1:b<w'.heap.size:=by rw [hg];exact hb3
     rcases Yvp i hin with rfl|rfl|rfl|rfl|rfl|rfl|rfl|rfl|rfl|rfl|rfl|rfl|rfl|rfl|rfl
     · have e0:a1.tmps.getD 0 undef = .pointer (some ⟨p,0,none⟩):=hJ.un 0 (fun i hi _=>Zrf 0 (by decide) i hi)
       exact Zd hJ hW hi hun (hne:=Zbx _ (by decide)) (hrun:=by simp [execOp,Act.eval,e0,go_sem,f9v])
     · have e45:a1.tmps.getD 45 undef = .pointer (some ⟨p,0,none⟩):=rjt hJ hi 0
       exact Zd hJ hW hi hun (hne:=Zbx _ (by decide)) (hrun:=by simp [execOp,Act.eval,e45,go_sem,f9v])
     · have e46:a1.tmps.getD 46 undef = .pointer (some ⟨p,0,none⟩):=rjt hJ hi 1
       exact Zd hJ hW hi hun (hne:=Zbx _ (by decide)) (hrun:=by simp [execOp,Act.eval,e46,go_sem,f9v])
     · have e47:a1.tmps.getD 47 undef = .pointer (some ⟨p,4,none⟩):=rjt hJ hi 2
       have h0:=Xy c4 hg
       exact Zd hJ hW hi hun (hne:=Zbx _ (by decide)) (hrun:=by simp [execOp,Act.eval,e47,h0,l0,l1,go_sem,f9v])
     · have e1:a1.tmps.getD 1 undef = .slice (some ⟨b,o,none⟩) 4 cc:=hJ.un 1 (fun i hi _=>Zrf 1 (by decide) i hi)
       exact Zd hJ hW hi hun (hne:=Zbx _ (by decide)) (hrun:=by simp [execOp,resolve,invoke,builtin,Act.eval,e1,l0,l1,go_sem,f9v])
     · have e49:a1.tmps.getD 49 undef = .slice (some ⟨b,o,none⟩) 4 cc:=rjt hJ hi 4
       exact Zd hJ hW hi hun (hne:=Zbx _ (by decide)) (hrun:=by simp [execOp,resolve,invoke,builtin,Act.eval,e49,l0,l1,go_sem,f9v] <;> (intros;omega))
     · have e50:a1.tmps.getD 50 undef = .pointer (some ⟨b,o,none⟩):=rjt hJ hi 5
       exact Zd hJ hW hi hun (hne:=Zbx _ (by decide)) (hrun:=by simp [execOp,Act.eval,e50,go_sem,f9v])
     · have e51:a1.tmps.getD 51 undef = .pointer (some ⟨b,o+1,none⟩):=rjt hJ hi 6
       have h0:=Xy x1 hg
       exact Zd hJ hW hi hun (hne:=Zbx _ (by decide)) (hrun:=by simp [execOp,Act.eval,e51,h0,l0,l1,go_sem,f9v])
     · have e0:a1.tmps.getD 0 undef = .pointer (some ⟨p,0,none⟩):=hJ.un 0 (fun i hi _=>Zrf 0 (by decide) i hi)
       exact Zd hJ hW hi hun (hne:=Zbx _ (by decide)) (hrun:=by simp [execOp,Act.eval,e0,go_sem,f9v])
     · have e53:a1.tmps.getD 53 undef = .pointer (some ⟨p,0,none⟩):=rjt hJ hi 8
       exact Zd hJ hW hi hun (hne:=Zbx _ (by decide)) (hrun:=by simp [execOp,Act.eval,e53,go_sem,f9v])
     · have e54:a1.tmps.getD 54 undef = .pointer (some ⟨p,0,none⟩):=rjt hJ hi 9
       exact Zd hJ hW hi hun (hne:=Zbx _ (by decide)) (hrun:=by simp [execOp,Act.eval,e54,go_sem,f9v])
     · have e55:a1.tmps.getD 55 undef = .pointer (some ⟨p,0,none⟩):=rjt hJ hi 10
       exact Zd hJ hW hi hun (hne:=Zbx _ (by decide)) (hrun:=by simp [execOp,Act.eval,e55,go_sem,f9v])
     · have e56:a1.tmps.getD 56 undef = .pointer (some ⟨p,2,none⟩):=rjt hJ hi 11
       have h0:=Xy c2 hg
       exact Zd hJ hW hi hun (hne:=Zbx _ (by decide)) (hrun:=by simp [execOp,Act.eval,e56,h0,l0,l1,go_sem,f9v])
     · have e57:a1.tmps.getD 57 undef = .slice pF c.funcs.length cF:=rjt hJ hi 12
       exact Zd hJ hW hi hun (hne:=Zbx _ (by decide)) (hrun:=by simp [execOp,resolve,invoke,builtin,Act.eval,e57,l0,l1,go_sem,f9v])
     · have e48:a1.tmps.getD 48 undef = .map (some bm):=rjt hJ hi 3
       have e52:a1.tmps.getD 52 undef = .string (bs nm):=rjt hJ hi 7
       have e58:a1.tmps.getD 58 undef = .int .i64 (c.funcs.length:Int):=rjt hJ hi 13
       obtain ⟨w8,hmu,hM8,hg8⟩:=Zsl (w:=w') (by rw [hg];exact Yu MM.out (Ze (Zb w3 none)) (by simp)) (by omega) nm ht (c.funcs.length:Int) (by omega)
       rw [hg] at hg8
       have hall:∀ j,j<15->j≠14->l.getD j false=true:=Jp hi hW.cl (by kernel_rfl)
       exact Jo (WS:=fun l9 w9=>Zas 14 15 0 [(1,0),(2,1),(3,2),(5,4),(6,5),(7,6),(9,8),(10,9),(11,10),(12,11),(13,12),(14,3),(14,7),(14,13)] [] (fun w9=>w9=w3.drew) (fun _=>True) (f9F p b o cc bm c.funcs.length cF pF (bs nm) ) (fun w9=>Zhs w9 bm (m+1) (fun u=>if u=nm then some (c.funcs.length:Int) else c.fm u)/\World.grownBy w3.drew w9 (some bm)) l9 w9) hJ rfl rfl rfl (by decide) (by decide) (w':=w8) (by simp [execOp,Act.eval,e48,e52,e58,hmu,go_sem]) (Xa hW (by decide) (by decide) hall (Zg _ hi (by kernel_rfl)) (⟨hM8,hg8⟩))
    case fin =>
     intro l9 a1 w4 hJJ hl9
     obtain ⟨hJ,hW⟩:=hJJ
     have hq:=hW.q (hl9 14 (by decide))
     have hput:=Ys hJ rfl hl9 (fun i j h1 h2 h3=>Zbx j h2 i h1 h3)
     subst hput
     clear hJ hW hl9 c2 c4 x0 x1 x2 x3
     obtain ⟨q1,q2⟩:=hq
     (try refine hK9 _ _ ?_)
     simp only [Ja,f9,f9v,Act.put,List.setIfInBounds_toArray,List.set_cons_zero,List.set_cons_succ]
     have M4:=Ygl A3.out q1 q2
     have RW4:=Hq ((RW3.out.kept (Ze (Zb w3 none)) (Yw RW3.out)).kept q2 (Zbt RW3.out MM.out))
     have A4:=Hq M4.1
     have FR4:=Hq (Zz FR3.out M4.2)
     clear q1 q2 M4
     obtain ⟨g4,cap4,hv4,hg4,hc4⟩:=Zv RW4.out (by simp)
     injection hv4 with hv4 _ hk4
     injection hv4 with hv4;injection hv4 with hv4
     subst hv4
     have d0:w4.cell? ⟨g,0,none⟩=some (.int .i64 na):=hc4 0 _ rfl (by simp)
     have d1:w4.cell? ⟨g,1,none⟩=some (.int .i64 nl):=hc4 1 _ rfl (by simp)
     have d2:w4.cell? ⟨g,2,none⟩=some (.int .i64 nr):=hc4 2 _ rfl (by simp)
     have c2:w4.cell? ⟨p,2,none⟩=some (.slice pF c.funcs.length cF):=Cq w4 p 2 _ _ _ A4.out.box
     have z2:=frozen_of_row w4 p 2 _ _ A4.out.box
     have hlt4:p<w4.heap.size:=(Gs A4.out.box)
     have HNE:some p≠(Value.slice pF c.funcs.length cF).ownBlock:=fun e=>Zn A4.out.ins.own.fr A4.out.box (by decide) e.symm
     have HNG:some g≠(Value.slice pF c.funcs.length cF).ownBlock:=Ztv A4.out.ins.own.fr RW4.out A4.out.gr.size (by decide)
     have hE4:=A4.out.gr.size
     have OWN4:=Hq (World.ownsRow.kept A4.out.ins.own.fr (Ze (Zb w4 none)) (Yw A4.out.ins.own.fr))
     have AD4:=Hq (Xp A4.out (Ze (Zb w4 none)))
     have FD4:=Hq (Zz FR4.out (Xg (Ze (Zb w4 none))))
     obtain ⟨fi,fi0,fi1,fi2,fi3⟩:=info_parts Zor
     obtain ⟨vb,hvb⟩:∃ vb,(Value.slice pF c.funcs.length cF).ownBlock=vb:=⟨_,rfl⟩
     rw [hvb] at HNE HNG
     clear hc4 hk4
     go_upto_region 10 with fail
     rename_i KA hKA
     refine Yd (n:=22) (J:=fun a0 l a1 w1=>∃ (q2:Nat) (gF:Nat) (cF9:Nat),RJ a0 90 22 fnA (Zch w0.heap.size p g k3 c.funcs.length cF na nl nr pF (Yv c.funcs cv) q2 gF cF9) l a1/\Zas 21 22 17 [(2,1),(3,2),(4,3),(5,4),(7,6),(8,7),(10,9),(11,10),(13,12),(14,13),(15,8),(15,11),(15,14),(16,15),(17,5),(17,16),(18,0),(19,18),(20,19),(21,20),(21,17)] [(16,17)] (fun w9=>World.grownBy w4.drew w9 vb) (fun w9=>w9.ownsRow w0.heap.size 61 4 (.slice pF c.funcs.length cF) c.funcs.length (Yv c.funcs cv)) (Ywl w0.heap.size p g k3 c.funcs.length cF na nl nr pF (Yv c.funcs cv) q2 gF cF9) (fun w9=>∃ (w8:World),World.grownBy w4.drew w8 vb/\w8.ownsRow w0.heap.size 61 4 (.slice (some ⟨gF,0,none⟩) (c.funcs.length+1) cF9) (c.funcs.length+1) (Yv c.funcs cv++[.int .i64 na,.int .i64 nl,.int .i64 nr,.slice none 0 0])/\w9=w8.setCell ⟨p,2,none⟩ (.slice (some ⟨gF,0,none⟩) (c.funcs.length+1) cF9)) l w1) (by kernel_rfl) rfl (Yt (by kernel_rfl)) (fun l a1 w1 h=>by obtain ⟨_,_,_,h,_⟩:=h;exact h.sz) ⟨0,0,0,Yc rfl,Zu (Zb _ _) (OWN4.out)⟩ ?step ?fin
     case step =>
      intro l a1 w' i hJJ hi hin
      obtain ⟨q2,gF,cF9,hJ,hW⟩:=hJJ
      have hun:l.getD i false=false:=getD_both (mem_ready.1 hi).1
      have hns:=Xe hW hin hun
      have hg:=hW.g hns
      have l0:=Nat.lt_of_lt_of_le hlt4 hg.size
      have l1:=Nat.lt_of_lt_of_le hg4 hg.size
      rcases Zmf i hin with rfl|rfl|rfl|rfl|rfl|rfl|rfl|rfl|rfl|rfl|rfl|rfl|rfl|rfl|rfl|rfl|rfl|rfl|rfl|rfl|rfl|rfl
      · have e0:a1.tmps.getD 0 undef = .pointer (some ⟨p,0,none⟩):=hJ.un 0 (fun i hi _=>Zeu 0 (by decide) i hi)
        exact Zc (Zd hJ hW hi hun (hne:=Xc _ (by decide)) (hrun:=by simp [execOp,Act.eval,e0,go_sem,Zch])) (fun a9 w9 h9=>⟨q2,gF,cF9,h9⟩)
      · have e0:a1.tmps.getD 0 undef = .pointer (some ⟨p,0,none⟩):=hJ.un 0 (fun i hi _=>Zeu 0 (by decide) i hi)
        exact Zc (Zd hJ hW hi hun (hne:=Xc _ (by decide)) (hrun:=by simp [execOp,Act.eval,e0,go_sem,Zch])) (fun a9 w9 h9=>⟨q2,gF,cF9,h9⟩)
      · have e60:a1.tmps.getD 60 undef = .pointer (some ⟨p,0,none⟩):=rjt hJ hi 1
        exact Zc (Zd hJ hW hi hun (hne:=Xc _ (by decide)) (hrun:=by simp [execOp,Act.eval,e60,go_sem,Zch])) (fun a9 w9 h9=>⟨q2,gF,cF9,h9⟩)
      · have e61:a1.tmps.getD 61 undef = .pointer (some ⟨p,0,none⟩):=rjt hJ hi 2
        exact Zc (Zd hJ hW hi hun (hne:=Xc _ (by decide)) (hrun:=by simp [execOp,Act.eval,e61,go_sem,Zch])) (fun a9 w9 h9=>⟨q2,gF,cF9,h9⟩)
      · have e62:a1.tmps.getD 62 undef = .pointer (some ⟨p,0,none⟩):=rjt hJ hi 3
        exact Zc (Zd hJ hW hi hun (hne:=Xc _ (by decide)) (hrun:=by simp [execOp,Act.eval,e62,go_sem,Zch])) (fun a9 w9 h9=>⟨q2,gF,cF9,h9⟩)
      · have e63:a1.tmps.getD 63 undef = .pointer (some ⟨p,2,none⟩):=rjt hJ hi 4
        have h0:=hg.cell c2 HNE
        exact Zc (Zd hJ hW hi hun (hne:=Xc _ (by decide)) (hrun:=by simp [execOp,Act.eval,e63,h0,l0,l1,go_sem,Zch])) (fun a9 w9 h9=>⟨q2,gF,cF9,h9⟩)
      · have e5:a1.tmps.getD 5 undef = .slice (some ⟨g,0,none⟩) 3 k3:=hJ.un 5 (fun i hi _=>Zeu 5 (by decide) i hi)
        exact Zc (Zd hJ hW hi hun (hne:=Xc _ (by decide)) (hrun:=by simp [execOp,resolve,invoke,builtin,Act.eval,e5,l0,l1,go_sem,Zch])) (fun a9 w9 h9=>⟨q2,gF,cF9,h9⟩)
      · have e65:a1.tmps.getD 65 undef = .slice (some ⟨g,0,none⟩) 3 k3:=rjt hJ hi 6
        exact Zc (Zd hJ hW hi hun (hne:=Xc _ (by decide)) (hrun:=by simp [execOp,resolve,invoke,builtin,Act.eval,e65,l0,l1,go_sem,Zch] <;> (intros;omega))) (fun a9 w9 h9=>⟨q2,gF,cF9,h9⟩)
      · have e66:a1.tmps.getD 66 undef = .pointer (some ⟨g,0,none⟩):=rjt hJ hi 7
        have h0:=hg.cell d0 HNG
        exact Zc (Zd hJ hW hi hun (hne:=Xc _ (by decide)) (hrun:=by simp [execOp,Act.eval,e66,h0,l0,l1,go_sem,Zch])) (fun a9 w9 h9=>⟨q2,gF,cF9,h9⟩)
      · have e5:a1.tmps.getD 5 undef = .slice (some ⟨g,0,none⟩) 3 k3:=hJ.un 5 (fun i hi _=>Zeu 5 (by decide) i hi)
        exact Zc (Zd hJ hW hi hun (hne:=Xc _ (by decide)) (hrun:=by simp [execOp,resolve,invoke,builtin,Act.eval,e5,l0,l1,go_sem,Zch])) (fun a9 w9 h9=>⟨q2,gF,cF9,h9⟩)
      · have e68:a1.tmps.getD 68 undef = .slice (some ⟨g,0,none⟩) 3 k3:=rjt hJ hi 9
        exact Zc (Zd hJ hW hi hun (hne:=Xc _ (by decide)) (hrun:=by simp [execOp,resolve,invoke,builtin,Act.eval,e68,l0,l1,go_sem,Zch] <;> (intros;omega))) (fun a9 w9 h9=>⟨q2,gF,cF9,h9⟩)
      · have e69:a1.tmps.getD 69 undef = .pointer (some ⟨g,1,none⟩):=rjt hJ hi 10
        have h0:=hg.cell d1 HNG
        exact Zc (Zd hJ hW hi hun (hne:=Xc _ (by decide)) (hrun:=by simp [execOp,Act.eval,e69,h0,l0,l1,go_sem,Zch])) (fun a9 w9 h9=>⟨q2,gF,cF9,h9⟩)
      · have e5:a1.tmps.getD 5 undef = .slice (some ⟨g,0,none⟩) 3 k3:=hJ.un 5 (fun i hi _=>Zeu 5 (by decide) i hi)
        exact Zc (Zd hJ hW hi hun (hne:=Xc _ (by decide)) (hrun:=by simp [execOp,resolve,invoke,builtin,Act.eval,e5,l0,l1,go_sem,Zch])) (fun a9 w9 h9=>⟨q2,gF,cF9,h9⟩)
      · have e71:a1.tmps.getD 71 undef = .slice (some ⟨g,0,none⟩) 3 k3:=rjt hJ hi 12
        exact Zc (Zd hJ hW hi hun (hne:=Xc _ (by decide)) (hrun:=by simp [execOp,resolve,invoke,builtin,Act.eval,e71,l0,l1,go_sem,Zch] <;> (intros;omega))) (fun a9 w9 h9=>⟨q2,gF,cF9,h9⟩)
      · have e72:a1.tmps.getD 72 undef = .pointer (some ⟨g,2,none⟩):=rjt hJ hi 13
        have h0:=hg.cell d2 HNG
        exact Zc (Zd hJ hW hi hun (hne:=Xc _ (by decide)) (hrun:=by simp [execOp,Act.eval,e72,h0,l0,l1,go_sem,Zch])) (fun a9 w9 h9=>⟨q2,gF,cF9,h9⟩)
      · have e67:a1.tmps.getD 67 undef = .int .i64 na:=rjt hJ hi 8
        have f67:=e67
        rw [Array.getD_eq_getD_getElem?] at f67
        have e70:a1.tmps.getD 70 undef = .int .i64 nl:=rjt hJ hi 11
        have f70:=e70
        rw [Array.getD_eq_getD_getElem?] at f70
        have e73:a1.tmps.getD 73 undef = .int .i64 nr:=rjt hJ hi 14
        have f73:=e73
        rw [Array.getD_eq_getD_getElem?] at f73
        exact Zc (Zd hJ hW hi hun (hne:=Xc _ (by decide)) (hrun:=by simp [execOp,Act.eval,e67,f67,e70,f70,e73,f73,l0,l1,go_sem,Zch])) (fun a9 w9 h9=>⟨q2,gF,cF9,h9⟩)
      · have e74:a1.tmps.getD 74 undef = .agg #[.int .i64 na,.int .i64 nl,.int .i64 nr,.slice none 0 0]:=rjt hJ hi 15
        have f74:=e74
        rw [Array.getD_eq_getD_getElem?] at f74
        refine Zt (v:=Zch w0.heap.size p g k3 c.funcs.length cF na nl nr pF (Yv c.funcs cv) w'.heap.size gF cF9 16) (w':=w'.alloc (.cells #[.int .i64 na,.int .i64 nl,.int .i64 nr,.slice none 0 0] 61)) rfl (by rfl) (by simp [execOp,Act.eval,e74,f74,Zyd,Result.andThen,Zch]) ⟨w'.heap.size,gF,cF9,?_,Zo hW (by decide) hun (by decide) (Zg _ hi (by kernel_rfl)) (Za hg (Ga _ _ _)) (fun hne0 hun0 hB0=>hB0.alloc _) (fun j hj hne hl hcu hF => ?_) (heap_alloc_new w' _)⟩
        · exact Yg (val:=Zch w0.heap.size p g k3 c.funcs.length cF na nl nr pF (Yv c.funcs cv) w'.heap.size gF cF9) (Yj hJ (Yin hW.cl hun)) (by decide) (by decide) (Xc _ (by decide))
        · rcases Zmf j hj with rfl|rfl|rfl|rfl|rfl|rfl|rfl|rfl|rfl|rfl|rfl|rfl|rfl|rfl|rfl|rfl|rfl|rfl|rfl|rfl|rfl|rfl <;> first|exact True.intro|exact absurd rfl hne|exact Zk (hW.cl (17,16) (by decide) (hl)) hun
      · have e64:a1.tmps.getD 64 undef = .slice pF c.funcs.length cF:=rjt hJ hi 5
        have e75:a1.tmps.getD 75 undef = .slice (some ⟨q2,0,none⟩) 1 1:=rjt hJ hi 16
        have F16:=hW.f hns 16 (by decide) (Zq hi 16 (by kernel_rfl)) (Jg (c:=17) (by decide) hun)
        have own:=hW.u hun
        obtain ⟨v8,w8,hap,hown,hgr,-⟩:=run_append_own_at (P:=Tryz.prog) w' w0.heap.size 24 24 61 fi (.agg #[.int .i64 0,.int .i64 0,.int .i64 0,.slice none 0 0]) 4 48 Zsw fi0 fi1 fi2 fi3 rfl (by decide) _ c.funcs.length (Yv c.funcs cv) own ⟨q2,0,none⟩ 1 1 [.int .i64 na,.int .i64 nl,.int .i64 nr,.slice none 0 0] rfl (Zbj F16) (Yxb _ _ _ _ _ _) (by unfold maxLen;omega) (by omega) (Nat.le_trans hE4 hg.size)
        rw [hvb] at hgr
        obtain ⟨gF2,cF92,hv⟩:=Js hown
        subst hv
        refine Zt (v:=Zch w0.heap.size p g k3 c.funcs.length cF na nl nr pF (Yv c.funcs cv) q2 gF2 cF92 17) (w':=w8) rfl (by rfl) (by simp [execOp,resolve,invoke,builtin,Act.eval,e64,e75,hap,Result.andThen,Zch]) ⟨q2,gF2,cF92,?_,Zo hW (by decide) hun (by decide) (Zg _ hi (by kernel_rfl)) (Za hg hgr) (fun hne0 hun0 hB0=>absurd rfl hne0) (fun j hj hne hl hcu hF => ?_) (hown)⟩
        · exact Yg (val:=Zch w0.heap.size p g k3 c.funcs.length cF na nl nr pF (Yv c.funcs cv) q2 gF2 cF92) (Yj hJ (Yim hW.cl hun)) (by decide) (by decide) (Xc _ (by decide))
        · rcases Zmf j hj with rfl|rfl|rfl|rfl|rfl|rfl|rfl|rfl|rfl|rfl|rfl|rfl|rfl|rfl|rfl|rfl|rfl|rfl|rfl|rfl|rfl|rfl <;> first|exact True.intro|exact absurd rfl (hcu (16,17) (by decide) rfl).1|exact absurd rfl hne
      · have e59:a1.tmps.getD 59 undef = .pointer (some ⟨p,0,none⟩):=rjt hJ hi 0
        exact Zc (Zd hJ hW hi hun (hne:=Xc _ (by decide)) (hrun:=by simp [execOp,Act.eval,e59,go_sem,Zch])) (fun a9 w9 h9=>⟨q2,gF,cF9,h9⟩)
      · have e77:a1.tmps.getD 77 undef = .pointer (some ⟨p,0,none⟩):=rjt hJ hi 18
        exact Zc (Zd hJ hW hi hun (hne:=Xc _ (by decide)) (hrun:=by simp [execOp,Act.eval,e77,go_sem,Zch])) (fun a9 w9 h9=>⟨q2,gF,cF9,h9⟩)
      · have e78:a1.tmps.getD 78 undef = .pointer (some ⟨p,0,none⟩):=rjt hJ hi 19
        exact Zc (Zd hJ hW hi hun (hne:=Xc _ (by decide)) (hrun:=by simp [execOp,Act.eval,e78,go_sem,Zch])) (fun a9 w9 h9=>⟨q2,gF,cF9,h9⟩)
      · have e79:a1.tmps.getD 79 undef = .pointer (some ⟨p,2,none⟩):=rjt hJ hi 20
        have e76:a1.tmps.getD 76 undef = .slice (some ⟨gF,0,none⟩) (c.funcs.length+1) cF9:=rjt hJ hi 17
        have F17:=hW.f hns 17 (by decide) (Zq hi 17 (by kernel_rfl)) (Zat (by decide))
        have bx2:=hg.block p hlt4 HNE
        have k1:=hg.cell c2 HNE
        have j1:w'.frozen? ⟨p,2,none⟩=false:=(World.frozen?_of_block bx2).trans z2
        have lb2:=Nat.lt_of_lt_of_le hlt4 hg.size
        have O17:w'.ownsRow w0.heap.size 61 4 (.slice (some ⟨gF,0,none⟩) (c.funcs.length+1) cF9) (c.funcs.length+1) (Yv c.funcs cv++[.int .i64 na,.int .i64 nl,.int .i64 nr,.slice none 0 0]):=F17
        have hall:∀ j,j<22->j≠21->l.getD j false=true:=Jp hi hW.cl (by kernel_rfl)
        exact Zc (Jo (WS:=fun l9 w9=>Zas 21 22 17 [(2,1),(3,2),(4,3),(5,4),(7,6),(8,7),(10,9),(11,10),(13,12),(14,13),(15,8),(15,11),(15,14),(16,15),(17,5),(17,16),(18,0),(19,18),(20,19),(21,20),(21,17)] [(16,17)] (fun w9=>World.grownBy w4.drew w9 vb) (fun w9=>w9.ownsRow w0.heap.size 61 4 (.slice pF c.funcs.length cF) c.funcs.length (Yv c.funcs cv)) (Ywl w0.heap.size p g k3 c.funcs.length cF na nl nr pF (Yv c.funcs cv) q2 gF cF9) (fun w9=>∃ (w8:World),World.grownBy w4.drew w8 vb/\w8.ownsRow w0.heap.size 61 4 (.slice (some ⟨gF,0,none⟩) (c.funcs.length+1) cF9) (c.funcs.length+1) (Yv c.funcs cv++[.int .i64 na,.int .i64 nl,.int .i64 nr,.slice none 0 0])/\w9=w8.setCell ⟨p,2,none⟩ (.slice (some ⟨gF,0,none⟩) (c.funcs.length+1) cF9)) l9 w9) hJ rfl rfl rfl (by decide) (by decide) (w':=w'.setCell ⟨p,2,none⟩ (.slice (some ⟨gF,0,none⟩) (c.funcs.length+1) cF9)) (by simp [execOp,Act.eval,e79,e76,k1,j1,lb2,go_sem]) (Xa hW (by decide) (by decide) hall (Zg _ hi (by kernel_rfl)) (⟨w',hg,O17,rfl⟩))) (fun a9 w9 h9=>⟨q2,gF,cF9,h9⟩)
     case fin =>
      intro l9 a1 w9 hJJ hl9
      obtain ⟨q2,gF,cF9,hJ,hW⟩:=hJJ
      have hq:=hW.q (hl9 21 (by decide))
      have hput:=Ys hJ rfl hl9 (fun i j h1 h2 h3=>Xc j h2 i h1 h3)
      subst hput
      clear hJ hW hl9 c2 d0 d1 d2
      obtain ⟨w8,q1,q2,rfl⟩:=hq
      (try refine hKA _ _ ?_)
      simp only [Ja,fnA,Zch,Act.put,List.setIfInBounds_toArray,List.set_cons_zero,List.set_cons_succ]
      have M5:=Zzr AD4.out q2 (by rw [hvb];exact q1)
      generalize w8.setCell ⟨p,2,none⟩ (.slice (some ⟨gF,0,none⟩) (c.funcs.length+1) cF9)=w5 at *
      have A5:=Hq M5.1
      have FR5:=Hq (Zz FD4.out M5.2)
      clear q1 q2 M5
      obtain ⟨pL,cL,hvL⟩:=Zi A5.out.ins.lrow
      subst hvL
      have HL5:=Hq A5.out.ins.lrow
      have c5:w5.cell? ⟨p,5,none⟩=some (.slice pL lb.length cL):=Cq w5 p 5 _ _ _ A5.out.box
      have hlt5:p<w5.heap.size:=(Gs A5.out.box)
      have hlb:lb.length<=1000000:=by have:=A5.out.ins.len1;have:=A5.out.lens;have:=A5.out.ins.z2;simp only [] at *;omega
      have hE5:∀ o' o'',w0.heap.size<=((w5.alloc o').alloc o'').heap.size:=fun o' o''=>Zw (Zw A5.out.gr.size o') o''
      obtain ⟨mi,mi0,mi1,mi2,mi3⟩:=info_parts Zuk
      have hmm := @run_makeMap Tryz.prog
      have hc3:lb.length+1<=maxLen:=by unfold maxLen;omega
      have hc4:(lb.length+1)*8<=140737488355328:=by omega
      go_wp2_with (at_builtin;refine wpList_append_own_at _ rfl _ _ 67 rfl w0.heap.size 66 mi (.map none) 1 8 Yad mi0 mi1 mi2 mi3 rfl (by decide) (.slice pL lb.length cL) _ _ rfl (World.ownsRow.alloc (World.ownsRow.alloc HL5.out _) _) ⟨w5.heap.size+1,0,none⟩ 1 1 [.map (some w5.heap.size)] rfl rfl (Zsj w5 _ _ _) (Ygw _) hc3 hc4 (hE5 _ _) ?_;intro v3 w6 hown3 hgr3 hnil3 hat3;obtain ⟨p3,kk3,hv3⟩:=Zi hown3;subst hv3;have LL:=Hq (Zua A5.out (Ga _ _ none) hown3 hgr3);have B6:=Zqj A5.out (Za (Ga w5 (.map #[] 0) none) (Ga _ _ none)) hgr3;obtain ⟨k6,j6,l6⟩:=B6;clear hown3 hgr3 hnil3 hat3)
      clear hKA KA
      go_ret
      refine ⟨?_,Zz FR5.out LL.out.2,Zdg LL.out.1⟩
      rw [HR.out]
      exact ⟨rfl,LL.out.1⟩
  | false =>
    go_upto_region 9 with fail
    have S3:=Hq (Zcb S2.out (Ze (Zb w2 none)))
    have G3:=Hq (show w2.grownBy w2.drew (some p) from Zon (Ze (Zb w2 none)))
    generalize w2.drew=w3 at *
    rename_i K9 hK9
    obtain ⟨vd,vF,vL,vB,bm,cv,lb,hA⟩:=S3.out
    obtain ⟨pF,cF,hvF⟩:=Zan hA
    subst hvF
    have RW3:=Hq (RW2.out.kept G3.out (Znw RW2.out hpw))
    have PT3:=Hq (Zak PT2.out (Zea S2.out G3.out))
    have MM:=Hq hA.ins.fm
    have A3:=Hq (Xp hA (Ze (Zb w3 none)))
    have FR3:=Hq (Zz (Zz (Zea HS.out G2.out) (Zea S2.out G3.out)) (Xg (Ze (Zb w3 none))))
    obtain ⟨b',o',e,hb3,x0,x1,x2,x3⟩:=Jb PT3.out (i:=0) (q := .word nm) rfl
    injection e with e;injection e with e1 e2
    subst e1;subst e2
    simp only [Nat.zero_mul,Nat.add_zero,pcK,pcT,pcN,pcF] at x0 x1 x2 x3
    have c2:w3.cell? ⟨p,2,none⟩=some (.slice pF c.funcs.length cF):=Cq w3 p 2 _ _ _ hA.box
    have c4:w3.cell? ⟨p,4,none⟩=some (.map (some bm)):=Cq w3 p 4 _ _ _ hA.box
    have hlt3:p<w3.heap.size:=(Gs hA.box)
    have hz2:=hA.ins.z2
    clear hA
    refine Yd (n:=15) (J:=fun a0 l a1 w1=>RJ a0 90 15 f9 (f9v p b o cc bm c.funcs.length cF pF (bs nm) ) l a1/\Zas 14 15 0 [(1,0),(2,1),(3,2),(5,4),(6,5),(7,6),(9,8),(10,9),(11,10),(12,11),(13,12),(14,3),(14,7),(14,13)] [] (fun w9=>w9=w3.drew) (fun _=>True) (f9F p b o cc bm c.funcs.length cF pF (bs nm) ) (fun w9=>Zhs w9 bm (m+1) (fun u=>if u=nm then some (c.funcs.length:Int) else c.fm u)/\World.grownBy w3.drew w9 (some bm)) l w1) (by kernel_rfl) rfl (Yt (by kernel_rfl)) (fun l a1 w1 h=>by obtain ⟨h,_⟩:=h;exact h.sz) ⟨Yc rfl,Zu (rfl) (True.intro)⟩ ?step ?fin
    case step =>
     intro l a1 w' i hJJ hi hin
     obtain ⟨hJ,hW⟩:=hJJ
     have hun:l.getD i false=false:=getD_both (mem_ready.1 hi).1
     have hns:=Xe hW hin hun
     have hg:=hW.g hns
     have l0:p<w'.heap.size:=by rw [hg];exact hlt3
     have l1:b<w'.heap.size:=by rw [hg];exact hb3
     rcases Yvp i hin with rfl|rfl|rfl|rfl|rfl|rfl|rfl|rfl|rfl|rfl|rfl|rfl|rfl|rfl|rfl
     · have e0:a1.tmps.getD 0 undef = .pointer (some ⟨p,0,none⟩):=hJ.un 0 (fun i hi _=>Zrf 0 (by decide) i hi)
       exact Zd hJ hW hi hun (hne:=Zbx _ (by decide)) (hrun:=by simp [execOp,Act.eval,e0,go_sem,f9v])
     · have e45:a1.tmps.getD 45 undef = .pointer (some ⟨p,0,none⟩):=rjt hJ hi 0
       exact Zd hJ hW hi hun (hne:=Zbx _ (by decide)) (hrun:=by simp [execOp,Act.eval,e45,go_sem,f9v])
     · have e46:a1.tmps.getD 46 undef = .pointer (some ⟨p,0,none⟩):=rjt hJ hi 1
       exact Zd hJ hW hi hun (hne:=Zbx _ (by decide)) (hrun:=by simp [execOp,Act.eval,e46,go_sem,f9v])
     · have e47:a1.tmps.getD 47 undef = .pointer (some ⟨p,4,none⟩):=rjt hJ hi 2
       have h0:=Xy c4 hg
       exact Zd hJ hW hi hun (hne:=Zbx _ (by decide)) (hrun:=by simp [execOp,Act.eval,e47,h0,l0,l1,go_sem,f9v])
     · have e1:a1.tmps.getD 1 undef = .slice (some ⟨b,o,none⟩) 4 cc:=hJ.un 1 (fun i hi _=>Zrf 1 (by decide) i hi)
       exact Zd hJ hW hi hun (hne:=Zbx _ (by decide)) (hrun:=by simp [execOp,resolve,invoke,builtin,Act.eval,e1,l0,l1,go_sem,f9v])
     · have e49:a1.tmps.getD 49 undef = .slice (some ⟨b,o,none⟩) 4 cc:=rjt hJ hi 4
       exact Zd hJ hW hi hun (hne:=Zbx _ (by decide)) (hrun:=by simp [execOp,resolve,invoke,builtin,Act.eval,e49,l0,l1,go_sem,f9v] <;> (intros;omega))
     · have e50:a1.tmps.getD 50 undef = .pointer (some ⟨b,o,none⟩):=rjt hJ hi 5
       exact Zd hJ hW hi hun (hne:=Zbx _ (by decide)) (hrun:=by simp [execOp,Act.eval,e50,go_sem,f9v])
     · have e51:a1.tmps.getD 51 undef = .pointer (some ⟨b,o+1,none⟩):=rjt hJ hi 6
       have h0:=Xy x1 hg
       exact Zd hJ hW hi hun (hne:=Zbx _ (by decide)) (hrun:=by simp [execOp,Act.eval,e51,h0,l0,l1,go_sem,f9v])
     · have e0:a1.tmps.getD 0 undef = .pointer (some ⟨p,0,none⟩):=hJ.un 0 (fun i hi _=>Zrf 0 (by decide) i hi)
       exact Zd hJ hW hi hun (hne:=Zbx _ (by decide)) (hrun:=by simp [execOp,Act.eval,e0,go_sem,f9v])
     · have e53:a1.tmps.getD 53 undef = .pointer (some ⟨p,0,none⟩):=rjt hJ hi 8
       exact Zd hJ hW hi hun (hne:=Zbx _ (by decide)) (hrun:=by simp [execOp,Act.eval,e53,go_sem,f9v])
     · have e54:a1.tmps.getD 54 undef = .pointer (some ⟨p,0,none⟩):=rjt hJ hi 9
       exact Zd hJ hW hi hun (hne:=Zbx _ (by decide)) (hrun:=by simp [execOp,Act.eval,e54,go_sem,f9v])
     · have e55:a1.tmps.getD 55 undef = .pointer (some ⟨p,0,none⟩):=rjt hJ hi 10
       exact Zd hJ hW hi hun (hne:=Zbx _ (by decide)) (hrun:=by simp [execOp,Act.eval,e55,go_sem,f9v])
     · have e56:a1.tmps.getD 56 undef = .pointer (some ⟨p,2,none⟩):=rjt hJ hi 11
       have h0:=Xy c2 hg
       exact Zd hJ hW hi hun (hne:=Zbx _ (by decide)) (hrun:=by simp [execOp,Act.eval,e56,h0,l0,l1,go_sem,f9v])
     · have e57:a1.tmps.getD 57 undef = .slice pF c.funcs.length cF:=rjt hJ hi 12
       exact Zd hJ hW hi hun (hne:=Zbx _ (by decide)) (hrun:=by simp [execOp,resolve,invoke,builtin,Act.eval,e57,l0,l1,go_sem,f9v])
     · have e48:a1.tmps.getD 48 undef = .map (some bm):=rjt hJ hi 3
       have e52:a1.tmps.getD 52 undef = .string (bs nm):=rjt hJ hi 7
       have e58:a1.tmps.getD 58 undef = .int .i64 (c.funcs.length:Int):=rjt hJ hi 13
       obtain ⟨w8,hmu,hM8,hg8⟩:=Zsl (w:=w') (by rw [hg];exact Yu MM.out (Ze (Zb w3 none)) (by simp)) (by omega) nm ht (c.funcs.length:Int) (by omega)
       rw [hg] at hg8
       have hall:∀ j,j<15->j≠14->l.getD j false=true:=Jp hi hW.cl (by kernel_rfl)
       exact Jo (WS:=fun l9 w9=>Zas 14 15 0 [(1,0),(2,1),(3,2),(5,4),(6,5),(7,6),(9,8),(10,9),(11,10),(12,11),(13,12),(14,3),(14,7),(14,13)] [] (fun w9=>w9=w3.drew) (fun _=>True) (f9F p b o cc bm c.funcs.length cF pF (bs nm) ) (fun w9=>Zhs w9 bm (m+1) (fun u=>if u=nm then some (c.funcs.length:Int) else c.fm u)/\World.grownBy w3.drew w9 (some bm)) l9 w9) hJ rfl rfl rfl (by decide) (by decide) (w':=w8) (by simp [execOp,Act.eval,e48,e52,e58,hmu,go_sem]) (Xa hW (by decide) (by decide) hall (Zg _ hi (by kernel_rfl)) (⟨hM8,hg8⟩))
    case fin =>
     intro l9 a1 w4 hJJ hl9
     obtain ⟨hJ,hW⟩:=hJJ
     have hq:=hW.q (hl9 14 (by decide))
     have hput:=Ys hJ rfl hl9 (fun i j h1 h2 h3=>Zbx j h2 i h1 h3)
     subst hput
     clear hJ hW hl9 c2 c4 x0 x1 x2 x3
     obtain ⟨q1,q2⟩:=hq
     (try refine hK9 _ _ ?_)
     simp only [Ja,f9,f9v,Act.put,List.setIfInBounds_toArray,List.set_cons_zero,List.set_cons_succ]
     have M4:=Ygl A3.out q1 q2
     have RW4:=Hq ((RW3.out.kept (Ze (Zb w3 none)) (Yw RW3.out)).kept q2 (Zbt RW3.out MM.out))
     have A4:=Hq M4.1
     have FR4:=Hq (Zz FR3.out M4.2)
     clear q1 q2 M4
     obtain ⟨g4,cap4,hv4,hg4,hc4⟩:=Zv RW4.out (by simp)
     injection hv4 with hv4 _ hk4
     injection hv4 with hv4;injection hv4 with hv4
     subst hv4
     have d0:w4.cell? ⟨g,0,none⟩=some (.int .i64 na):=hc4 0 _ rfl (by simp)
     have d1:w4.cell? ⟨g,1,none⟩=some (.int .i64 nl):=hc4 1 _ rfl (by simp)
     have d2:w4.cell? ⟨g,2,none⟩=some (.int .i64 nr):=hc4 2 _ rfl (by simp)
     have c2:w4.cell? ⟨p,2,none⟩=some (.slice pF c.funcs.length cF):=Cq w4 p 2 _ _ _ A4.out.box
     have z2:=frozen_of_row w4 p 2 _ _ A4.out.box
     have hlt4:p<w4.heap.size:=(Gs A4.out.box)
     have HNE:some p≠(Value.slice pF c.funcs.length cF).ownBlock:=fun e=>Zn A4.out.ins.own.fr A4.out.box (by decide) e.symm
     have HNG:some g≠(Value.slice pF c.funcs.length cF).ownBlock:=Ztv A4.out.ins.own.fr RW4.out A4.out.gr.size (by decide)
     have hE4:=A4.out.gr.size
     have OWN4:=Hq (World.ownsRow.kept A4.out.ins.own.fr (Ze (Zb w4 none)) (Yw A4.out.ins.own.fr))
     have AD4:=Hq (Xp A4.out (Ze (Zb w4 none)))
     have FD4:=Hq (Zz FR4.out (Xg (Ze (Zb w4 none))))
     obtain ⟨fi,fi0,fi1,fi2,fi3⟩:=info_parts Zor
     obtain ⟨vb,hvb⟩:∃ vb,(Value.slice pF c.funcs.length cF).ownBlock=vb:=⟨_,rfl⟩
     rw [hvb] at HNE HNG
     clear hc4 hk4
     go_upto_region 10 with fail
     rename_i KA hKA
     refine Yd (n:=22) (J:=fun a0 l a1 w1=>∃ (q2:Nat) (gF:Nat) (cF9:Nat),RJ a0 90 22 fnA (Zch w0.heap.size p g k3 c.funcs.length cF na nl nr pF (Yv c.funcs cv) q2 gF cF9) l a1/\Zas 21 22 17 [(2,1),(3,2),(4,3),(5,4),(7,6),(8,7),(10,9),(11,10),(13,12),(14,13),(15,8),(15,11),(15,14),(16,15),(17,5),(17,16),(18,0),(19,18),(20,19),(21,20),(21,17)] [(16,17)] (fun w9=>World.grownBy w4.drew w9 vb) (fun w9=>w9.ownsRow w0.heap.size 61 4 (.slice pF c.funcs.length cF) c.funcs.length (Yv c.funcs cv)) (Ywl w0.heap.size p g k3 c.funcs.length cF na nl nr pF (Yv c.funcs cv) q2 gF cF9) (fun w9=>∃ (w8:World),World.grownBy w4.drew w8 vb/\w8.ownsRow w0.heap.size 61 4 (.slice (some ⟨gF,0,none⟩) (c.funcs.length+1) cF9) (c.funcs.length+1) (Yv c.funcs cv++[.int .i64 na,.int .i64 nl,.int .i64 nr,.slice none 0 0])/\w9=w8.setCell ⟨p,2,none⟩ (.slice (some ⟨gF,0,none⟩) (c.funcs.length+1) cF9)) l w1) (by kernel_rfl) rfl (Yt (by kernel_rfl)) (fun l a1 w1 h=>by obtain ⟨_,_,_,h,_⟩:=h;exact h.sz) ⟨0,0,0,Yc rfl,Zu (Zb _ _) (OWN4.out)⟩ ?step ?fin
     case step =>
      intro l a1 w' i hJJ hi hin
      obtain ⟨q2,gF,cF9,hJ,hW⟩:=hJJ
      have hun:l.getD i false=false:=getD_both (mem_ready.1 hi).1
      have hns:=Xe hW hin hun
      have hg:=hW.g hns
      have l0:=Nat.lt_of_lt_of_le hlt4 hg.size
      have l1:=Nat.lt_of_lt_of_le hg4 hg.size
      rcases Zmf i hin with rfl|rfl|rfl|rfl|rfl|rfl|rfl|rfl|rfl|rfl|rfl|rfl|rfl|rfl|rfl|rfl|rfl|rfl|rfl|rfl|rfl|rfl
      · have e0:a1.tmps.getD 0 undef = .pointer (some ⟨p,0,none⟩):=hJ.un 0 (fun i hi _=>Zeu 0 (by decide) i hi)
        exact Zc (Zd hJ hW hi hun (hne:=Xc _ (by decide)) (hrun:=by simp [execOp,Act.eval,e0,go_sem,Zch])) (fun a9 w9 h9=>⟨q2,gF,cF9,h9⟩)
      · have e0:a1.tmps.getD 0 undef = .pointer (some ⟨p,0,none⟩):=hJ.un 0 (fun i hi _=>Zeu 0 (by decide) i hi)
        exact Zc (Zd hJ hW hi hun (hne:=Xc _ (by decide)) (hrun:=by simp [execOp,Act.eval,e0,go_sem,Zch])) (fun a9 w9 h9=>⟨q2,gF,cF9,h9⟩)
      · have e60:a1.tmps.getD 60 undef = .pointer (some ⟨p,0,none⟩):=rjt hJ hi 1
        exact Zc (Zd hJ hW hi hun (hne:=Xc _ (by decide)) (hrun:=by simp [execOp,Act.eval,e60,go_sem,Zch])) (fun a9 w9 h9=>⟨q2,gF,cF9,h9⟩)
      · have e61:a1.tmps.getD 61 undef = .pointer (some ⟨p,0,none⟩):=rjt hJ hi 2
        exact Zc (Zd hJ hW hi hun (hne:=Xc _ (by decide)) (hrun:=by simp [execOp,Act.eval,e61,go_sem,Zch])) (fun a9 w9 h9=>⟨q2,gF,cF9,h9⟩)
      · have e62:a1.tmps.getD 62 undef = .pointer (some ⟨p,0,none⟩):=rjt hJ hi 3
        exact Zc (Zd hJ hW hi hun (hne:=Xc _ (by decide)) (hrun:=by simp [execOp,Act.eval,e62,go_sem,Zch])) (fun a9 w9 h9=>⟨q2,gF,cF9,h9⟩)
      · have e63:a1.tmps.getD 63 undef = .pointer (some ⟨p,2,none⟩):=rjt hJ hi 4
        have h0:=hg.cell c2 HNE
        exact Zc (Zd hJ hW hi hun (hne:=Xc _ (by decide)) (hrun:=by simp [execOp,Act.eval,e63,h0,l0,l1,go_sem,Zch])) (fun a9 w9 h9=>⟨q2,gF,cF9,h9⟩)
      · have e5:a1.tmps.getD 5 undef = .slice (some ⟨g,0,none⟩) 3 k3:=hJ.un 5 (fun i hi _=>Zeu 5 (by decide) i hi)
        exact Zc (Zd hJ hW hi hun (hne:=Xc _ (by decide)) (hrun:=by simp [execOp,resolve,invoke,builtin,Act.eval,e5,l0,l1,go_sem,Zch])) (fun a9 w9 h9=>⟨q2,gF,cF9,h9⟩)
      · have e65:a1.tmps.getD 65 undef = .slice (some ⟨g,0,none⟩) 3 k3:=rjt hJ hi 6
        exact Zc (Zd hJ hW hi hun (hne:=Xc _ (by decide)) (hrun:=by simp [execOp,resolve,invoke,builtin,Act.eval,e65,l0,l1,go_sem,Zch] <;> (intros;omega))) (fun a9 w9 h9=>⟨q2,gF,cF9,h9⟩)
      · have e66:a1.tmps.getD 66 undef = .pointer (some ⟨g,0,none⟩):=rjt hJ hi 7
        have h0:=hg.cell d0 HNG
        exact Zc (Zd hJ hW hi hun (hne:=Xc _ (by decide)) (hrun:=by simp [execOp,Act.eval,e66,h0,l0,l1,go_sem,Zch])) (fun a9 w9 h9=>⟨q2,gF,cF9,h9⟩)
      · have e5:a1.tmps.getD 5 undef = .slice (some ⟨g,0,none⟩) 3 k3:=hJ.un 5 (fun i hi _=>Zeu 5 (by decide) i hi)
        exact Zc (Zd hJ hW hi hun (hne:=Xc _ (by decide)) (hrun:=by simp [execOp,resolve,invoke,builtin,Act.eval,e5,l0,l1,go_sem,Zch])) (fun a9 w9 h9=>⟨q2,gF,cF9,h9⟩)
      · have e68:a1.tmps.getD 68 undef = .slice (some ⟨g,0,none⟩) 3 k3:=rjt hJ hi 9
        exact Zc (Zd hJ hW hi hun (hne:=Xc _ (by decide)) (hrun:=by simp [execOp,resolve,invoke,builtin,Act.eval,e68,l0,l1,go_sem,Zch] <;> (intros;omega))) (fun a9 w9 h9=>⟨q2,gF,cF9,h9⟩)
      · have e69:a1.tmps.getD 69 undef = .pointer (some ⟨g,1,none⟩):=rjt hJ hi 10
        have h0:=hg.cell d1 HNG
        exact Zc (Zd hJ hW hi hun (hne:=Xc _ (by decide)) (hrun:=by simp [execOp,Act.eval,e69,h0,l0,l1,go_sem,Zch])) (fun a9 w9 h9=>⟨q2,gF,cF9,h9⟩)
      · have e5:a1.tmps.getD 5 undef = .slice (some ⟨g,0,none⟩) 3 k3:=hJ.un 5 (fun i hi _=>Zeu 5 (by decide) i hi)
        exact Zc (Zd hJ hW hi hun (hne:=Xc _ (by decide)) (hrun:=by simp [execOp,resolve,invoke,builtin,Act.eval,e5,l0,l1,go_sem,Zch])) (fun a9 w9 h9=>⟨q2,gF,cF9,h9⟩)
      · have e71:a1.tmps.getD 71 undef = .slice (some ⟨g,0,none⟩) 3 k3:=rjt hJ hi 12
        exact Zc (Zd hJ hW hi hun (hne:=Xc _ (by decide)) (hrun:=by simp [execOp,resolve,invoke,builtin,Act.eval,e71,l0,l1,go_sem,Zch] <;> (intros;omega))) (fun a9 w9 h9=>⟨q2,gF,cF9,h9⟩)
      · have e72:a1.tmps.getD 72 undef = .pointer (some ⟨g,2,none⟩):=rjt hJ hi 13
        have h0:=hg.cell d2 HNG
        exact Zc (Zd hJ hW hi hun (hne:=Xc _ (by decide)) (hrun:=by simp [execOp,Act.eval,e72,h0,l0,l1,go_sem,Zch])) (fun a9 w9 h9=>⟨q2,gF,cF9,h9⟩)
      · have e67:a1.tmps.getD 67 undef = .int .i64 na:=rjt hJ hi 8
        have f67:=e67
        rw [Array.getD_eq_getD_getElem?] at f67
        have e70:a1.tmps.getD 70 undef = .int .i64 nl:=rjt hJ hi 11
        have f70:=e70
        rw [Array.getD_eq_getD_getElem?] at f70
        have e73:a1.tmps.getD 73 undef = .int .i64 nr:=rjt hJ hi 14
        have f73:=e73
        rw [Array.getD_eq_getD_getElem?] at f73
        exact Zc (Zd hJ hW hi hun (hne:=Xc _ (by decide)) (hrun:=by simp [execOp,Act.eval,e67,f67,e70,f70,e73,f73,l0,l1,go_sem,Zch])) (fun a9 w9 h9=>⟨q2,gF,cF9,h9⟩)
      · have e74:a1.tmps.getD 74 undef = .agg #[.int .i64 na,.int .i64 nl,.int .i64 nr,.slice none 0 0]:=rjt hJ hi 15
        have f74:=e74
        rw [Array.getD_eq_getD_getElem?] at f74
        refine Zt (v:=Zch w0.heap.size p g k3 c.funcs.length cF na nl nr pF (Yv c.funcs cv) w'.heap.size gF cF9 16) (w':=w'.alloc (.cells #[.int .i64 na,.int .i64 nl,.int .i64 nr,.slice none 0 0] 61)) rfl (by rfl) (by simp [execOp,Act.eval,e74,f74,Zyd,Result.andThen,Zch]) ⟨w'.heap.size,gF,cF9,?_,Zo hW (by decide) hun (by decide) (Zg _ hi (by kernel_rfl)) (Za hg (Ga _ _ _)) (fun hne0 hun0 hB0=>hB0.alloc _) (fun j hj hne hl hcu hF => ?_) (heap_alloc_new w' _)⟩
        · exact Yg (val:=Zch w0.heap.size p g k3 c.funcs.length cF na nl nr pF (Yv c.funcs cv) w'.heap.size gF cF9) (Yj hJ (Yin hW.cl hun)) (by decide) (by decide) (Xc _ (by decide))
        · rcases Zmf j hj with rfl|rfl|rfl|rfl|rfl|rfl|rfl|rfl|rfl|rfl|rfl|rfl|rfl|rfl|rfl|rfl|rfl|rfl|rfl|rfl|rfl|rfl <;> first|exact True.intro|exact absurd rfl hne|exact Zk (hW.cl (17,16) (by decide) (hl)) hun
      · have e64:a1.tmps.getD 64 undef = .slice pF c.funcs.length cF:=rjt hJ hi 5
        have e75:a1.tmps.getD 75 undef = .slice (some ⟨q2,0,none⟩) 1 1:=rjt hJ hi 16
        have F16:=hW.f hns 16 (by decide) (Zq hi 16 (by kernel_rfl)) (Jg (c:=17) (by decide) hun)
        have own:=hW.u hun
        obtain ⟨v8,w8,hap,hown,hgr,-⟩:=run_append_own_at (P:=Tryz.prog) w' w0.heap.size 24 24 61 fi (.agg #[.int .i64 0,.int .i64 0,.int .i64 0,.slice none 0 0]) 4 48 Zsw fi0 fi1 fi2 fi3 rfl (by decide) _ c.funcs.length (Yv c.funcs cv) own ⟨q2,0,none⟩ 1 1 [.int .i64 na,.int .i64 nl,.int .i64 nr,.slice none 0 0] rfl (Zbj F16) (Yxb _ _ _ _ _ _) (by unfold maxLen;omega) (by omega) (Nat.le_trans hE4 hg.size)
        rw [hvb] at hgr
        obtain ⟨gF2,cF92,hv⟩:=Js hown
        subst hv
        refine Zt (v:=Zch w0.heap.size p g k3 c.funcs.length cF na nl nr pF (Yv c.funcs cv) q2 gF2 cF92 17) (w':=w8) rfl (by rfl) (by simp [execOp,resolve,invoke,builtin,Act.eval,e64,e75,hap,Result.andThen,Zch]) ⟨q2,gF2,cF92,?_,Zo hW (by decide) hun (by decide) (Zg _ hi (by kernel_rfl)) (Za hg hgr) (fun hne0 hun0 hB0=>absurd rfl hne0) (fun j hj hne hl hcu hF => ?_) (hown)⟩
        · exact Yg (val:=Zch w0.heap.size p g k3 c.funcs.length cF na nl nr pF (Yv c.funcs cv) q2 gF2 cF92) (Yj hJ (Yim hW.cl hun)) (by decide) (by decide) (Xc _ (by decide))
        · rcases Zmf j hj with rfl|rfl|rfl|rfl|rfl|rfl|rfl|rfl|rfl|rfl|rfl|rfl|rfl|rfl|rfl|rfl|rfl|rfl|rfl|rfl|rfl|rfl <;> first|exact True.intro|exact absurd rfl (hcu (16,17) (by decide) rfl).1|exact absurd rfl hne
      · have e59:a1.tmps.getD 59 undef = .pointer (some ⟨p,0,none⟩):=rjt hJ hi 0
        exact Zc (Zd hJ hW hi hun (hne:=Xc _ (by decide)) (hrun:=by simp [execOp,Act.eval,e59,go_sem,Zch])) (fun a9 w9 h9=>⟨q2,gF,cF9,h9⟩)
      · have e77:a1.tmps.getD 77 undef = .pointer (some ⟨p,0,none⟩):=rjt hJ hi 18
        exact Zc (Zd hJ hW hi hun (hne:=Xc _ (by decide)) (hrun:=by simp [execOp,Act.eval,e77,go_sem,Zch])) (fun a9 w9 h9=>⟨q2,gF,cF9,h9⟩)
      · have e78:a1.tmps.getD 78 undef = .pointer (some ⟨p,0,none⟩):=rjt hJ hi 19
        exact Zc (Zd hJ hW hi hun (hne:=Xc _ (by decide)) (hrun:=by simp [execOp,Act.eval,e78,go_sem,Zch])) (fun a9 w9 h9=>⟨q2,gF,cF9,h9⟩)
      · have e79:a1.tmps.getD 79 undef = .pointer (some ⟨p,2,none⟩):=rjt hJ hi 20
        have e76:a1.tmps.getD 76 undef = .slice (some ⟨gF,0,none⟩) (c.funcs.length+1) cF9:=rjt hJ hi 17
        have F17:=hW.f hns 17 (by decide) (Zq hi 17 (by kernel_rfl)) (Zat (by decide))
        have bx2:=hg.block p hlt4 HNE
        have k1:=hg.cell c2 HNE
        have j1:w'.frozen? ⟨p,2,none⟩=false:=(World.frozen?_of_block bx2).trans z2
        have lb2:=Nat.lt_of_lt_of_le hlt4 hg.size
        have O17:w'.ownsRow w0.heap.size 61 4 (.slice (some ⟨gF,0,none⟩) (c.funcs.length+1) cF9) (c.funcs.length+1) (Yv c.funcs cv++[.int .i64 na,.int .i64 nl,.int .i64 nr,.slice none 0 0]):=F17
        have hall:∀ j,j<22->j≠21->l.getD j false=true:=Jp hi hW.cl (by kernel_rfl)
        exact Zc (Jo (WS:=fun l9 w9=>Zas 21 22 17 [(2,1),(3,2),(4,3),(5,4),(7,6),(8,7),(10,9),(11,10),(13,12),(14,13),(15,8),(15,11),(15,14),(16,15),(17,5),(17,16),(18,0),(19,18),(20,19),(21,20),(21,17)] [(16,17)] (fun w9=>World.grownBy w4.drew w9 vb) (fun w9=>w9.ownsRow w0.heap.size 61 4 (.slice pF c.funcs.length cF) c.funcs.length (Yv c.funcs cv)) (Ywl w0.heap.size p g k3 c.funcs.length cF na nl nr pF (Yv c.funcs cv) q2 gF cF9) (fun w9=>∃ (w8:World),World.grownBy w4.drew w8 vb/\w8.ownsRow w0.heap.size 61 4 (.slice (some ⟨gF,0,none⟩) (c.funcs.length+1) cF9) (c.funcs.length+1) (Yv c.funcs cv++[.int .i64 na,.int .i64 nl,.int .i64 nr,.slice none 0 0])/\w9=w8.setCell ⟨p,2,none⟩ (.slice (some ⟨gF,0,none⟩) (c.funcs.length+1) cF9)) l9 w9) hJ rfl rfl rfl (by decide) (by decide) (w':=w'.setCell ⟨p,2,none⟩ (.slice (some ⟨gF,0,none⟩) (c.funcs.length+1) cF9)) (by simp [execOp,Act.eval,e79,e76,k1,j1,lb2,go_sem]) (Xa hW (by decide) (by decide) hall (Zg _ hi (by kernel_rfl)) (⟨w',hg,O17,rfl⟩))) (fun a9 w9 h9=>⟨q2,gF,cF9,h9⟩)
     case fin =>
      intro l9 a1 w9 hJJ hl9
      obtain ⟨q2,gF,cF9,hJ,hW⟩:=hJJ
      have hq:=hW.q (hl9 21 (by decide))
      have hput:=Ys hJ rfl hl9 (fun i j h1 h2 h3=>Xc j h2 i h1 h3)
      subst hput
      clear hJ hW hl9 c2 d0 d1 d2
      obtain ⟨w8,q1,q2,rfl⟩:=hq
      (try refine hKA _ _ ?_)
      simp only [Ja,fnA,Zch,Act.put,List.setIfInBounds_toArray,List.set_cons_zero,List.set_cons_succ]
      have M5:=Zzr AD4.out q2 (by rw [hvb];exact q1)
      generalize w8.setCell ⟨p,2,none⟩ (.slice (some ⟨gF,0,none⟩) (c.funcs.length+1) cF9)=w5 at *
      have A5:=Hq M5.1
      have FR5:=Hq (Zz FD4.out M5.2)
      clear q1 q2 M5
      obtain ⟨pL,cL,hvL⟩:=Zi A5.out.ins.lrow
      subst hvL
      have HL5:=Hq A5.out.ins.lrow
      have c5:w5.cell? ⟨p,5,none⟩=some (.slice pL lb.length cL):=Cq w5 p 5 _ _ _ A5.out.box
      have hlt5:p<w5.heap.size:=(Gs A5.out.box)
      have hlb:lb.length<=1000000:=by have:=A5.out.ins.len1;have:=A5.out.lens;have:=A5.out.ins.z2;simp only [] at *;omega
      have hE5:∀ o' o'',w0.heap.size<=((w5.alloc o').alloc o'').heap.size:=fun o' o''=>Zw (Zw A5.out.gr.size o') o''
      obtain ⟨mi,mi0,mi1,mi2,mi3⟩:=info_parts Zuk
      have hmm := @run_makeMap Tryz.prog
      have hc3:lb.length+1<=maxLen:=by unfold maxLen;omega
      have hc4:(lb.length+1)*8<=140737488355328:=by omega
      go_wp2_with (at_builtin;refine wpList_append_own_at _ rfl _ _ 67 rfl w0.heap.size 66 mi (.map none) 1 8 Yad mi0 mi1 mi2 mi3 rfl (by decide) (.slice pL lb.length cL) _ _ rfl (World.ownsRow.alloc (World.ownsRow.alloc HL5.out _) _) ⟨w5.heap.size+1,0,none⟩ 1 1 [.map (some w5.heap.size)] rfl rfl (Zsj w5 _ _ _) (Ygw _) hc3 hc4 (hE5 _ _) ?_;intro v3 w6 hown3 hgr3 hnil3 hat3;obtain ⟨p3,kk3,hv3⟩:=Zi hown3;subst hv3;have LL:=Hq (Zua A5.out (Ga _ _ none) hown3 hgr3);have B6:=Zqj A5.out (Za (Ga w5 (.map #[] 0) none) (Ga _ _ none)) hgr3;obtain ⟨k6,j6,l6⟩:=B6;clear hown3 hgr3 hnil3 hat3)
      clear hKA KA
      go_ret
      refine ⟨?_,Zz FR5.out LL.out.2,Zdg LL.out.1⟩
      rw [HR.out]
      exact ⟨rfl,LL.out.1⟩
theorem Yeg {q:Pc} (h:pcK q=0):∃ t,q = .word t:=by cases q <;> simp [pcK] at h;exact ⟨_,rfl⟩
theorem Ypx {q:Pc} (h:pcK q≠0) (c:CS) (x:Option Int) (rest:List Pc):Zhb c x (q::rest)=none:=by
 cases q <;> first|rfl|(simp [pcK] at h)
theorem Zme (w0 w:World) (p m:Nat) (c:CS) (x:Option Int) (ps:List Pc) (pp:Option Addr) (cc:Nat) (h:PS w0 w p m c (Zgw x)) (hp:Zkh w pp ps) (hn:ps.length<=70000) (hcc:ps.length<=cc) (hN:∀ t,.word t∈ps->t.length<=1000000) (hm:m+2<=1000000) :
 Calls Tryz.prog 79 #[.pointer (some ⟨p,0,none⟩),.slice pp ps.length cc] w (Yi w0 w p (m+2) (Zhb c x ps)):=by
 have HS:=Hq h
 by_cases hl:ps.length=4
 · obtain ⟨q,rest,rfl⟩:∃ q rest,ps=q::rest:=by
    cases ps with
    | nil=>simp at hl
    | cons a r=>exact ⟨a,r,rfl⟩
   have hl3:rest.length=3:=by simpa using hl
   obtain ⟨b,o,rfl,hb,d0,d1,d2,d3⟩:=Jb hp (i:=0) (q:=q) rfl
   simp only [Nat.zero_mul,Nat.add_zero] at d0 d1 d2 d3
   by_cases hk:pcK q=0
   · obtain ⟨nm,rfl⟩:=Yeg hk
     rw [hl]
     cases hnum:Zff rest 3 with
     | some xs =>
       have hx:xs.length=3:=by
        unfold Zff at hnum
        split at hnum
        · injection hnum with hnum
          subst hnum;rw [List.length_map];omega
        · cases hnum
       match xs,hx with
       | [na,nl,nr],_=>exact Yxi w0 w p m c x nm rest na nl nr b o cc h hp hl3 (by omega) hnum (hN nm (by simp)) hm
     | none =>
       have HR:=Hq (show Zhb c x (.word nm::rest)=none by unfold Zhb;simp only [hnum])
       have NM:=Hq (show ∀ cc',Calls Tryz.prog 113 #[.pointer (some ⟨p,0,none⟩),.slice (some ⟨b,o+4,none⟩) 3 cc',.int .i64 3] w fun e w' =>
        (e = .returned (.tuple #[.slice none 0 0,Zwf 141])/\∃ x',PS w0 w' p m c (Zgw x'))/\w.grownBy w' (some p) from fun cc'=>by
        have:=Zio w0 w p m c x rest (some ⟨b,o+4,none⟩) cc' 3 h (Zry hp) (by omega) (by decide)
        rw [hl3] at this
        unfold Zkf at this
        rw [hnum] at this
        exact this)
       have hci:(4:Int)<=cc:=by omega
       simp only [pcK,pcT,pcN,pcF] at d0 d1 d2 d3
       clear h hp hnum hl hl3 hk hcc
       go_enter Tryz.func79,Tryz.ntmps79
       go_wp2_with (go_at_call 113;refine (NM.out _).mono ?_;rintro e w2 ⟨⟨rfl,x',hps⟩,hg⟩;have S2:=Hq hps;have G2:=Hq hg;clear hps hg)
       go_ret
       rw [HR.out]
       exact ⟨rfl,Zea HS.out G2.out,Zdg S2.out⟩
   · have HR:=Hq (Ypx hk c x rest)
     have hb2:(pcK q != 0)=true:=by rw [bne_iff_ne];exact hk
     rw [hl]
     generalize pcK q=v0 at *
     generalize bs (pcT q)=v1 at *
     generalize pcN q=v2 at *
     generalize pcF q=v3 at *
     clear hp hk h hl hl3
     go_enter Tryz.func79,Tryz.ntmps79
     go_wp2
     go_ret
     rw [HR.out]
     exact ⟨rfl,Zlm _,Zdg HS.out⟩
 · have HR:=Hq (show Zhb c x ps=none by
    unfold Zhb
    split
    · rename_i nm rest
      have:Zff rest 3=none:=by
       unfold Zff
       rw [if_neg]
       rintro ⟨h1,_⟩
       simp at hl;omega
      simp only [this]
    · rfl)
   have hb:((ps.length:Int) != 4)=true:=by rw [bne_iff_ne];omega
   clear hl hp h
   go_enter Tryz.func79,Tryz.ntmps79
   go_wp2
   go_ret
   rw [HR.out]
   exact ⟨rfl,Zlm _,Zdg HS.out⟩
theorem Ygx {q:Pc} (h:pcK q=1):∃ v b,q = .num v b:=by cases q <;> simp [pcK] at h;exact ⟨_,_,rfl⟩
theorem Yxh (w0 ww w:World) (p m k gF cF b o b9 bi cc:Nat) (line:Int) (c:CS) (x:Option Int) (n:Nat) (kd:Int) (q0:Pc) (vd vL vB:Value) (bm:Nat) (cv:List Value) (lb:List Nat) (vc:Value) (rest:List Pc)
 (h:Zhk w0 ww w p m k gF cF b o b9 bi c x n kd q0 rest vd vL vB bm cv lb vc) (hcc:rest.length+1<=cc) (hl:rest.length<=70000) (hm:m+2<=1000000) (R:Option (CS × Option Int)) (hR:R=Zje line c x n kd rest) (a:Act) (ha:Yea p b o rest.length cc b9 k gF bi line a) (K:Act->World->Prop) (hK:∀ a w,Code.wp Tryz.prog (Zgc Tryz.f80 8) (bodyPost Tryz.prog Tryz.f80 (Yi w0 ww p (m+2) R)) a w->K a w) :
 Code.wp Tryz.prog (Zml Tryz.f80 8) (Exit.then K (bodyPost Tryz.prog Tryz.f80 (Yi w0 ww p (m+2) R))) a w:=by
 subst hR
 by_cases h0:kd=0
 · cases rest with
   | nil =>
     rw [show Zje line c x n kd []=some (Zjq c (n,0),x) by unfold Zje;rw [if_pos h0]]  at hK ⊢
     exact Yng w0 ww w p m k gF cF b o b9 bi cc line c x n kd q0 vd vL vB bm cv lb vc h0 h hcc hl hm _ rfl a ha K hK
   | cons r rs =>
     rw [show Zje line c x n kd (r::rs)=none by unfold Zje;rw [if_pos h0]] at hK ⊢
     exact Zuw w0 ww w p m k gF cF b o b9 bi cc line c x n kd q0 vd vL vB bm cv lb vc r rs h0 h hcc hl hm _ rfl a ha K hK
 · by_cases h1:rest.length=1
   · obtain ⟨q,rfl⟩:∃ q,rest=[q]:=by
      cases rest with
      | nil=>simp at h1
      | cons a r=>cases r with|nil=>exact ⟨a,rfl⟩|cons b r=>simp at h1
     by_cases k1:pcK q=1
     · obtain ⟨v,bg,rfl⟩:=Ygx k1
       cases bg with
       | false =>
         rw [show Zje line c x n kd [.num v false]=some (Zjq c (n,v),x) by unfold Zje;rw [if_neg h0];rfl] at hK ⊢
         exact Ysu w0 ww w p m k gF cF b o b9 bi cc line c x n kd q0 vd vL vB bm cv lb vc v h0 h hcc hl hm _ rfl a ha K hK
       | true =>
         rw [show Zje line c x n kd [.num v true]=some (Zjq c (n,v),amV x 143) by unfold Zje;rw [if_neg h0];rfl] at hK ⊢
         exact Ysw w0 ww w p m k gF cF b o b9 bi cc line c x n kd q0 vd vL vB bm cv lb vc v h0 h hcc hl hm _ rfl a ha K hK
     · by_cases k0:pcK q=0
       · obtain ⟨s,rfl⟩:=Yeg k0
         by_cases h34:kd=3\/kd=4
         · rw [show Zje line c x n kd [.word s]=some (Zjq (Ybd c line s (kd == 4)) (n,0),x) by unfold Zje;rw [if_neg h0];simp only [if_pos h34]] at hK ⊢
           exact Ysv w0 ww w p m k gF cF b o b9 bi cc line c x n kd q0 vd vL vB bm cv lb vc s h34 h hcc hl hm _ rfl a ha K hK
         · by_cases h5:kd=5
           · cases hj:Xb callT s with
             | none =>
               rw [show Zje line c x n kd [.word s]=none by unfold Zje;rw [if_neg h0];simp only [if_neg h34,if_pos h5,hj]] at hK ⊢
               exact Zxy w0 ww w p m k gF cF b o b9 bi cc line c x n kd q0 vd vL vB bm cv lb vc s h5 hj h hcc hl hm _ rfl a ha K hK
             | some j =>
               rw [show Zje line c x n kd [.word s]=some (Zjq c (n,(j:Int)),x) by unfold Zje;rw [if_neg h0];simp only [if_neg h34,if_pos h5,hj]] at hK ⊢
               exact Yst w0 ww w p m k gF cF b o b9 bi cc line c x n kd q0 vd vL vB bm cv lb vc s j h5 hj h hcc hl hm _ rfl a ha K hK
           · rw [show Zje line c x n kd [.word s]=none by unfold Zje;rw [if_neg h0];simp only [if_neg h34,if_neg h5]] at hK ⊢
             exact Ynf w0 ww w p m k gF cF b o b9 bi cc line c x n kd q0 vd vL vB bm cv lb vc s h0 (fun e=>h34 (Or.inl e)) (fun e=>h34 (Or.inr e)) h5 h hcc hl hm _ rfl a ha K hK
       · rw [show Zje line c x n kd [q]=none by
          unfold Zje
          rw [if_neg h0]
          cases q <;> first|rfl|(exact absurd rfl k1)|(exact absurd rfl k0)] at hK ⊢
         exact Yni w0 ww w p m k gF cF b o b9 bi cc line c x n kd q0 vd vL vB bm cv lb vc q h0 k1 k0 h hcc hl hm _ rfl a ha K hK
   · rw [show Zje line c x n kd rest=none by
      unfold Zje
      rw [if_neg h0]
      match rest,h1 with
      | [],_=>rfl
      | [_],h=>exact absurd rfl h
      | _::_::_,_=>simp] at hK ⊢
     exact Ynh w0 ww w p m k gF cF b o b9 bi cc line c x n kd q0 vd vL vB bm cv lb vc rest h0 h1 h hcc hl hm _ rfl a ha K hK
theorem Yif {w0 ww w:World} {p m k gF cF b o:Nat} {c:CS} {x:Option Int} {n:Nat} {kd tk gv:Int} {nm:ByteArray} {q0:Pc} {rest:List Pc} {vd vL vB:Value} {bm:Nat} {cv:List Value} {lb:List Nat} {vc:Value} (h:Zjb w0 w p m c (Zgw x) vd (.slice (some ⟨gF,0,none⟩) c.funcs.length cF) vL vB bm cv lb)
 (hk:c.funcs.length=k+1) (hv:cv[k]? = some vc) (hp:Zkh w (some ⟨b,o,none⟩) (q0::rest)) (hf:Fr ww w) :
 Zhk w0 ww ((w.alloc (.cells #[.string nm,.int .i64 kd,.int .i64 tk,.int .i64 gv] 144)).alloc (.cells #[.int .i64 n,.int .i64 0] 58)) p m k gF cF b o w.heap.size (w.heap.size+1) c x n kd q0 rest vd vL vB bm cv lb vc:=by
 have g1:=Ga w (.cells #[.string nm,.int .i64 kd,.int .i64 tk,.int .i64 gv] 144) none
 have g2:=Ga (w.alloc (.cells #[.string nm,.int .i64 kd,.int .i64 tk,.int .i64 gv] 144)) (.cells #[.int .i64 n,.int .i64 0] 58) none
 have g:=Za g1 g2
 have h2:=heap_alloc_new (w.alloc (.cells #[.string nm,.int .i64 kd,.int .i64 tk,.int .i64 gv] 144)) (.cells #[.int .i64 n,.int .i64 0] 58)
 rw [World.size_alloc] at h2
 have hE:=h.gr.size
 refine ⟨Xp h g,hk,hv,Zak hp (Xg g),⟨nm,tk,gv,Zf (heap_alloc_new w _) g2 (by simp)⟩,h2,by omega,fun j v hj e => ?_,Zz hf (Xg g)⟩
 have hjl:j<c.funcs.length:=by rw [<- h.ins.own.cl];exact (List.getElem?_eq_some_iff.1 hj).1
 have:=(World.ownsRow.lt (h.ins.own.each j _ v (List.getElem?_eq_getElem hjl) hj) _ e).2
 omega
theorem Zuu (w0 w:World) (p m:Nat) (line:Int) (c:CS) (x:Option Int) (t:Txt) (rest:List Pc) (b o cc:Nat) (h:PS w0 w p m c (Zgw x)) (hp:Zkh w (some ⟨b,o,none⟩) (.word t::rest)) (hcc:rest.length+1<=cc) (hl:rest.length<=70000) (hm:m+2<=1000000) :
 Calls Tryz.prog 80 #[.pointer (some ⟨p,0,none⟩),.int .i64 line,.slice (some ⟨b,o,none⟩) (rest.length+1) cc] w (Yi w0 w p (m+2) (Zli line c x (.word t::rest))):=by
 have HS:=Hq h
 have HP:=Hq hp
 have NM0:=Yhc (bs t) w
 rw [Jk] at NM0
 obtain ⟨b',o',e,hb,d0,d1,d2,d3⟩:=Jb hp (i:=0) (q := .word t) rfl
 injection e with e;injection e with e1 e2
 subst e1;subst e2
 simp only [Nat.zero_mul,Nat.add_zero,pcK,pcT,pcN,pcF] at d0 d1 d2 d3
 cases hn:Xb shapeT t with
 | none =>
   have HR:=Hq (show Zli line c x (.word t::rest)=none by unfold Zli;simp only [hn])
   rw [hn] at NM0
   simp only [Zgd] at NM0
   have NM:=Hq NM0
   clear NM0 hn h hp
   go_enter Tryz.func80,Tryz.ntmps80
   go_wp2_with (go_at_call 114;refine NM.out.mono ?_;rintro e w2 ⟨rfl,hg⟩;have G2:=Hq hg;clear hg)
   go_ret
   rw [HR.out]
   exact ⟨rfl,Xg G2.out,Za (Zdg HS.out) G2.out⟩
 | some n =>
   rw [hn] at NM0
   simp only [Zgd] at NM0
   have NM:=Hq NM0
   clear NM0
   by_cases hk0:c.funcs.length=0
   · have HR:=Hq (show Zli line c x (.word t::rest)=none by unfold Zli;simp only [hn,if_pos hk0])
     have hki:(c.funcs.length:Int)=0:=by omega
     clear hn h hp hk0
     go_enter Tryz.func80,Tryz.ntmps80
     go_wp2_with (go_at_call 114;refine NM.out.mono ?_;rintro e w2 ⟨rfl,hg⟩;have G2:=Hq hg;clear hg;obtain ⟨vd,vF,vL,vB,bm,cv,lb,hA⟩:=Zcb HS.out G2.out;obtain ⟨pF,cF,hvF⟩:=Zan hA;subst hvF;have c2:w2.cell? ⟨p,2,none⟩=some (.slice pF c.funcs.length cF):=Cq w2 p 2 _ _ _ hA.box;have hlt:p<w2.heap.size:=(Gs hA.box);clear hA)
     go_ret
     rw [HR.out]
     exact ⟨rfl,Xg G2.out,Za (Zdg HS.out) G2.out⟩
   · obtain ⟨k,hk⟩:∃ k,c.funcs.length=k+1:=⟨c.funcs.length - 1,by omega⟩
     have hkd:Zli line c x (.word t::rest)=Zje line c x n (Zir n) rest:=by unfold Zli;simp only [hn,if_neg hk0]
     rw [hkd]
     have hn46:n<46:=by
      unfold Xb at hn
      rw [List.findIdx?_eq_some_iff_getElem] at hn
      have:=hn.1
      rwa [Zbm] at this
     obtain ⟨⟨nm,kd,tk,gv⟩,hr⟩:∃ r,shapeT[n]? = some r:=⟨_,List.getElem?_eq_getElem (by rw [Zbm];exact hn46)⟩
     have hkn:Zir n=kd:=by unfold Zir;rw [hr];rfl
     rw [hkn]
     have OF0:=Ypi n
     rw [show Yx (n:Int)=some (nm,kd,tk,gv) by unfold Yx;rw [if_pos ⟨by omega,by omega⟩,Int.toNat_natCast];exact hr] at OF0
     simp only [Zqb] at OF0
     have OF:=Hq OF0
     have HK:=Hq hk
     have hki:(k:Int)<=1000000:=by obtain ⟨vd,vF,vL,vB,bm,cv,lb,hA⟩:=h;have:=hA.ins.z2;omega
     have HI:=Hq (fun (ww w:World) (gF cF b9 bi:Nat) (vd vL vB:Value) (bm:Nat) (cv:List Value) (lb:List Nat) (vc:Value) h a ha K hK=>Yxh w0 ww w p m k gF cF b o b9 bi cc line c x n kd (.word t) vd vL vB bm cv lb vc rest h hcc hl hm _ rfl a ha K hK)
     clear OF0 hkd hr hkn h hp hn hk0
     go_enter Tryz.func80,Tryz.ntmps80
     go_upto_region 8 with (first
      | (go_at_call 114;refine NM.out.mono ?_;rintro e w2 ⟨rfl,hg⟩;have G2:=Hq hg;clear hg;obtain ⟨vd,vF,vL,vB,bm,cv,lb,hA⟩:=Zcb HS.out G2.out;obtain ⟨pF,cF,hvF⟩:=Zan hA;have A2:=Hq hA;rw [hvF,HK.out] at hA;have c2:w2.cell? ⟨p,2,none⟩=some (.slice pF (k+1) cF):=Cq w2 p 2 _ _ _ hA.box;have hlt:p<w2.heap.size:=(Gs hA.box);clear hA)
      | (go_at_call 66;refine (OF.out _).mono ?_;rintro e w3 ⟨rfl,hg⟩;have G3:=Hq hg;have A3:=Hq (Xp A2.out hg);clear hg;obtain ⟨gF,cF',hvF3,hgF,-⟩:=Zv A3.out.ins.own.fr (by have:=HK.out;omega);rw [hvF] at hvF3;injection hvF3 with hvF3 _ hcc3;subst hvF3;subst hcc3;have c2:w3.cell? ⟨p,2,none⟩=some (.slice (some ⟨gF,0,none⟩) (k+1) cF):=(by have:=Cq w3 p 2 _ _ _ A3.out.box;rw [hvF,HK.out] at this;exact this);have hlt3:p<w3.heap.size:=(Gs A3.out.box)))
     rename_i K8 hK8
     obtain ⟨vc,hvc⟩:∃ v,cv[k]? = some v:=⟨_,List.getElem?_eq_getElem (by rw [A3.out.ins.own.cl,HK.out];omega)⟩
     have IA:=Yif (kd:=kd) (nm:=nm) (tk:=tk) (gv:=gv) (n:=n) (hvF ▸ A3.out) HK.out hvc (Zak HP.out (Xg (Za G2.out G3.out))) (Xg (Za G2.out G3.out))
     exact HI.out w _ gF cF _ _ vd vL vB bm cv lb vc IA _ ⟨rfl,rfl,rfl,rfl,rfl,rfl,rfl,rfl,rfl⟩ K8 hK8
end Go.Proofs.YteciblfmgdlipaaGreatDoor.AS
