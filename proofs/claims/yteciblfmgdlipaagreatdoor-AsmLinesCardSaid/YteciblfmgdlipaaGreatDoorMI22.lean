/-
  Part of a proof: contracts of functions and lemmas, each stated by its own theorem. Conditions: as each theorem states.
-/
import Derived.Test.YteciblfmgdlipaaGreatDoorMI20
import Derived.Test.YteciblfmgdlipaaGreatDoorMI21
import Derived.Test.YteciblfmgdlipaaGreatDoorMI06
import Derived.Test.YteciblfmgdlipaaGreatDoorMI09
set_option linter.unusedSimpArgs false
set_option linter.unusedVariables false
set_option maxRecDepth 100000
set_option maxHeartbeats 16000000
namespace Go.Proofs.YteciblfmgdlipaaGreatDoor.AS
open Go.RowKit Go.Great CK
theorem Ysf:Tryz.prog.underlying 79=some (.slice 37):=by kernel_rfl
theorem Yms:(Tryz.prog.info? 37).map (fun i=>(i.zero,i.size,i.bytes))=some (some (.slice none 0 0),1,24):=by kernel_rfl
theorem Ysj:Tryz.prog.underlying 80=some (.slice 93):=by kernel_rfl
theorem Ymy:(Tryz.prog.info? 93).map (fun i=>(i.zero,i.size,i.bytes))=some (some (.slice none 0 0),1,24):=by kernel_rfl
theorem Yhb:∀ u∈[Value.slice none 0 0],u.oneCell'=true:=by intro u hu;simp at hu;subst hu;rfl
theorem Zgi {w:World} {E:Nat} {p:Option Addr} {c:Nat} {ls:List Txt} (h:w.ownsRow E 9 1 (.slice p ls.length c) ls.length (Zcj ls)):Ydu w p ls:=fun h0=>by
 obtain ⟨g,cap,hv,hg,hc⟩:=Zv h h0
 injection hv with hv _ _
 refine ⟨g,0,hv,hg,fun i l hi => ?_⟩
 have hil:=(List.getElem?_eq_some_iff.1 hi).1
 rw [Nat.zero_add]
 exact hc i _ (by unfold Zcj;rw [List.getElem?_map,hi];rfl) (by omega)
theorem Zez {w w':World} {p:Option Addr} {ls:List Txt} (h:Ydu w p ls) (g:w.grownBy w' none):Ydu w' p ls:=fun h0=>by
 obtain ⟨b,o,e,hb,hc⟩:=h h0
 exact ⟨b,o,e,Nat.lt_of_lt_of_le hb g.size,fun i l hi=>g.cell (hc i l hi) (by simp)⟩
def teH:Nat->Nat
 | 0=>52
 | 1=>53
 | 2=>54
 | 3=>55
 | 4=>56
 | 5=>57
 | 6=>58
 | 7=>59
 | _=>5000
theorem Zcl:∀ i,i<8->∀ j,j<8->j≠i->teH j≠teH i:=by decide
theorem Ztn (i:Nat) (h:i<8):i=0\/i=1\/i=2\/i=3\/i=4\/i=5\/i=6\/i=7:=by omega
theorem Zrs (j:Nat) (hj:j∈[0,4]):∀ i,i<8->teH i≠j:=by revert j;decide
def Zpk (p bx nN cN:Nat) (pN:Option Addr) (tx:ByteArray) (hv:Int) (ge:Bool):Nat->Value
 | 0 => .pointer (some ⟨p,0,none⟩)
 | 1 => .pointer (some ⟨p,0,none⟩)
 | 2 => .pointer (some ⟨p,4,none⟩)
 | 3 => .slice pN nN cN
 | 4 => .pointer (some ⟨bx,2,none⟩)
 | 5 => .string tx
 | 6 => .int .i64 hv
 | 7 => .bool ge
 | _=>undef
def Yxv (p bx nN cN:Nat) (pN:Option Addr) (tx:ByteArray) (hv:Int) (ge:Bool)  : Nat->World->Prop
 | 6=>fun _=>True
 | _=>fun _=>True
theorem Ypa {p bx nN cN:Nat} {pN:Option Addr} {tx:ByteArray} {hv:Int} {ge:Bool}   {l:Array Bool} (hcl:∀ p∈([(1,0),(2,1),(3,2),(5,4),(6,3),(6,5),(7,6)]:List (Nat × Nat)),l.getD (Prod.fst p) false=true->l.getD (Prod.snd p) false=true) (hun:l.getD 6 false=false):∀ i,i<8->l.getD i false=true->teH i<236->Zpk p bx nN cN pN tx hv ge  i=Zpk p bx nN cN pN tx hv ge  i:=by
 intro i hi hl _
 rcases Ztn i hi with rfl|rfl|rfl|rfl|rfl|rfl|rfl|rfl <;> rfl
def teA:Nat->Nat
 | 0=>60
 | 1=>61
 | 2=>62
 | 3=>63
 | 4=>64
 | 5=>65
 | 6=>66
 | 7=>67
 | 8=>68
 | 9=>69
 | 10=>70
 | 11=>1011
 | _=>5000
theorem Zga:∀ i,i<12->∀ j,j<12->j≠i->teA j≠teA i:=by decide
theorem Ztp (i:Nat) (h:i<12):i=0\/i=1\/i=2\/i=3\/i=4\/i=5\/i=6\/i=7\/i=8\/i=9\/i=10\/i=11:=by omega
theorem Zwk (j:Nat) (hj:j∈[0,4]):∀ i,i<12->teA i≠j:=by revert j;decide
def Zpp (E sz nr cr:Nat) (pr:Option Addr) (ys:List Value) (vb:Option Nat) (p bx:Nat) (tx:ByteArray) (q2:Nat) (gC:Nat) (cC9:Nat):Nat->Value
 | 0 => .pointer (some ⟨p,0,none⟩)
 | 1 => .pointer (some ⟨p,0,none⟩)
 | 2 => .pointer (some ⟨p,0,none⟩)
 | 3 => .pointer (some ⟨p,4,none⟩)
 | 4 => .slice pr nr cr
 | 5 => .pointer (some ⟨bx,2,none⟩)
 | 6 => .string tx
 | 7 => .slice (some ⟨q2,0,none⟩) 1 1
 | 8 => .slice (some ⟨gC,0,none⟩) (nr+1) cC9
 | 9 => .pointer (some ⟨p,0,none⟩)
 | 10 => .pointer (some ⟨p,4,none⟩)
 | 11=>undef
 | _=>undef
def Yxx (E sz nr cr:Nat) (pr:Option Addr) (ys:List Value) (vb:Option Nat) (p bx:Nat) (tx:ByteArray) (q2:Nat) (gC:Nat) (cC9:Nat):Nat->World->Prop
 | 7=>fun w9=>w9.heap[q2]? = some (.cells #[.string tx] 9 (0,0))
 | 8=>fun w9=>w9.ownsRow E 9 1 (.slice (some ⟨gC,0,none⟩) (nr+1) cC9) (nr+1) (ys++[.string tx])/\(some gC=vb\/sz<=gC)
 | _=>fun _=>True
theorem Yun {E sz nr cr:Nat} {pr:Option Addr} {ys:List Value} {vb:Option Nat} {p bx:Nat} {tx:ByteArray} {q2:Nat} {gC:Nat} {cC9:Nat} {q22:Nat} {l:Array Bool} (hcl:∀ p∈([(2,1),(3,2),(4,3),(6,5),(7,6),(8,4),(8,7),(9,0),(10,9),(11,10),(11,8)]:List (Nat × Nat)),l.getD (Prod.fst p) false=true->l.getD (Prod.snd p) false=true) (hun:l.getD 7 false=false):∀ i,i<12->l.getD i false=true->teA i<236->Zpp E sz nr cr pr ys vb p bx tx q22 gC cC9 i=Zpp E sz nr cr pr ys vb p bx tx q2 gC cC9 i:=by
 intro i hi hl _
 rcases Ztp i hi with rfl|rfl|rfl|rfl|rfl|rfl|rfl|rfl|rfl|rfl|rfl|rfl <;> first|rfl|exact Zk (hl) hun
theorem Yum {E sz nr cr:Nat} {pr:Option Addr} {ys:List Value} {vb:Option Nat} {p bx:Nat} {tx:ByteArray} {q2:Nat} {gC:Nat} {cC9:Nat} {gC2:Nat} {cC92:Nat} {l:Array Bool} (hcl:∀ p∈([(2,1),(3,2),(4,3),(6,5),(7,6),(8,4),(8,7),(9,0),(10,9),(11,10),(11,8)]:List (Nat × Nat)),l.getD (Prod.fst p) false=true->l.getD (Prod.snd p) false=true) (hun:l.getD 8 false=false):∀ i,i<12->l.getD i false=true->teA i<236->Zpp E sz nr cr pr ys vb p bx tx q2 gC2 cC92 i=Zpp E sz nr cr pr ys vb p bx tx q2 gC cC9 i:=by
 intro i hi hl _
 rcases Ztp i hi with rfl|rfl|rfl|rfl|rfl|rfl|rfl|rfl|rfl|rfl|rfl|rfl <;> first|rfl|exact Zk (hl) hun
def teB:Nat->Nat
 | 0=>71
 | 1=>72
 | 2=>73
 | 3=>74
 | 4=>75
 | 5=>76
 | 6=>77
 | 7=>78
 | 8=>79
 | 9=>80
 | 10=>81
 | 11=>82
 | 12=>83
 | 13=>84
 | 14=>85
 | 15=>86
 | 16=>87
 | 17=>88
 | 18=>89
 | 19=>90
 | 20=>91
 | 21=>1021
 | _=>5000
theorem Zbk:∀ i,i<22->∀ j,j<22->j≠i->teB j≠teB i:=by decide
theorem Zto (i:Nat) (h:i<22):i=0\/i=1\/i=2\/i=3\/i=4\/i=5\/i=6\/i=7\/i=8\/i=9\/i=10\/i=11\/i=12\/i=13\/i=14\/i=15\/i=16\/i=17\/i=18\/i=19\/i=20\/i=21:=by omega
theorem Zng (j:Nat) (hj:j∈[0,4]):∀ i,i<22->teB i≠j:=by revert j;decide
def Zij (E sz nr cr:Nat) (pr:Option Addr) (ys:List Value) (vb:Option Nat) (p bx:Nat) (ka kl kr:Int) (q2:Nat) (gC:Nat) (cC9:Nat):Nat->Value
 | 0 => .pointer (some ⟨p,0,none⟩)
 | 1 => .pointer (some ⟨p,0,none⟩)
 | 2 => .pointer (some ⟨p,0,none⟩)
 | 3 => .pointer (some ⟨p,0,none⟩)
 | 4 => .pointer (some ⟨p,2,none⟩)
 | 5 => .slice pr nr cr
 | 6 => .pointer (some ⟨bx,3,none⟩)
 | 7 => .pointer (some ⟨bx,3,none⟩)
 | 8 => .int .i64 ka
 | 9 => .pointer (some ⟨bx,3,none⟩)
 | 10 => .pointer (some ⟨bx,3+1,none⟩)
 | 11 => .int .i64 kl
 | 12 => .pointer (some ⟨bx,3,none⟩)
 | 13 => .pointer (some ⟨bx,3+2,none⟩)
 | 14 => .int .i64 kr
 | 15 => .agg #[.int .i64 ka,.int .i64 kl,.int .i64 kr,.slice none 0 0]
 | 16 => .slice (some ⟨q2,0,none⟩) 1 1
 | 17 => .slice (some ⟨gC,0,none⟩) (nr+1) cC9
 | 18 => .pointer (some ⟨p,0,none⟩)
 | 19 => .pointer (some ⟨p,0,none⟩)
 | 20 => .pointer (some ⟨p,2,none⟩)
 | 21=>undef
 | _=>undef
def Yxw (E sz nr cr:Nat) (pr:Option Addr) (ys:List Value) (vb:Option Nat) (p bx:Nat) (ka kl kr:Int) (q2:Nat) (gC:Nat) (cC9:Nat):Nat->World->Prop
 | 16=>fun w9=>w9.heap[q2]? = some (.cells #[.int .i64 ka,.int .i64 kl,.int .i64 kr,.slice none 0 0] 61 (0,0))
 | 17=>fun w9=>w9.ownsRow E 61 4 (.slice (some ⟨gC,0,none⟩) (nr+1) cC9) (nr+1) (ys++[.int .i64 ka,.int .i64 kl,.int .i64 kr,.slice none 0 0])/\(some gC=vb\/sz<=gC)
 | _=>fun _=>True
theorem Yqo {E sz nr cr:Nat} {pr:Option Addr} {ys:List Value} {vb:Option Nat} {p bx:Nat} {ka kl kr:Int} {q2:Nat} {gC:Nat} {cC9:Nat} {q22:Nat} {l:Array Bool} (hcl:∀ p∈([(2,1),(3,2),(4,3),(5,4),(7,6),(8,7),(10,9),(11,10),(13,12),(14,13),(15,8),(15,11),(15,14),(16,15),(17,5),(17,16),(18,0),(19,18),(20,19),(21,20),(21,17)]:List (Nat × Nat)),l.getD (Prod.fst p) false=true->l.getD (Prod.snd p) false=true) (hun:l.getD 16 false=false):∀ i,i<22->l.getD i false=true->teB i<236->Zij E sz nr cr pr ys vb p bx ka kl kr q22 gC cC9 i=Zij E sz nr cr pr ys vb p bx ka kl kr q2 gC cC9 i:=by
 intro i hi hl _
 rcases Zto i hi with rfl|rfl|rfl|rfl|rfl|rfl|rfl|rfl|rfl|rfl|rfl|rfl|rfl|rfl|rfl|rfl|rfl|rfl|rfl|rfl|rfl|rfl <;> first|rfl|exact Zk (hl) hun
theorem Yqn {E sz nr cr:Nat} {pr:Option Addr} {ys:List Value} {vb:Option Nat} {p bx:Nat} {ka kl kr:Int} {q2:Nat} {gC:Nat} {cC9:Nat} {gC2:Nat} {cC92:Nat} {l:Array Bool} (hcl:∀ p∈([(2,1),(3,2),(4,3),(5,4),(7,6),(8,7),(10,9),(11,10),(13,12),(14,13),(15,8),(15,11),(15,14),(16,15),(17,5),(17,16),(18,0),(19,18),(20,19),(21,20),(21,17)]:List (Nat × Nat)),l.getD (Prod.fst p) false=true->l.getD (Prod.snd p) false=true) (hun:l.getD 17 false=false):∀ i,i<22->l.getD i false=true->teB i<236->Zij E sz nr cr pr ys vb p bx ka kl kr q2 gC2 cC92 i=Zij E sz nr cr pr ys vb p bx ka kl kr q2 gC cC9 i:=by
 intro i hi hl _
 rcases Zto i hi with rfl|rfl|rfl|rfl|rfl|rfl|rfl|rfl|rfl|rfl|rfl|rfl|rfl|rfl|rfl|rfl|rfl|rfl|rfl|rfl|rfl|rfl <;> first|rfl|exact Zk (hl) hun
theorem Yrb (s:St) (nm:Txt) (f:FnR):Zgb { s with funcs:=s.funcs++[f],names:=s.names++[nm],labels:=s.labels++[[]] }={ Zgb s with names:=s.names++[nm],funcs:=s.funcs++[f],labs:=s.labels.map Jc++[[]],plcs:=s.labels.map Zba++[[]] }:=by
 simp [Zgb,Jc,Zba]
theorem Yev (nm:Txt) (ka kl kr:Int) (nn:Nat) (w0 w1 w:World) (p:Nat) (s:St) (line:Int) (h:RDA w0 w1 p (Zgb s)) (g1:w1.grownBy w none) (hf:Zhv s.memSet s.funcs.length 3=true) (hm:s.names.length<=1000000) (HV:Zmd s.names nm=(nn:Int)) :
 Calls Tryz.prog 33 #[.pointer (some ⟨p,0,none⟩),lnA ⟨3,none,0,0,nm,ka,kl,kr,[],0,0,[],false⟩,.int .i64 line] w fun e w'=>e = .returned (.int .i64 142)/\w0.grownBy w' none:=by
 obtain ⟨vD,vF,vN,vL,vP,vW,cv,lv,pv,hA⟩:=h
 obtain ⟨pD,pF,cD,cF,e1,e2⟩:=Zax hA.ins.own
 rw [Yh] at e1
 replace e1:vD = .slice pD s.data.length cD:=e1
 replace e2:vF = .slice pF s.funcs.length cF:=e2
 subst e1 e2
 go_enter Tryz.func33,Tryz.ntmps33
 go_upto_region 1 with fail
 have gA:=Ga w (.cells #[.int .i64 3,.slice none 0 0,.string (bs nm),.int .i64 ka,.int .i64 kl,.int .i64 kr,.string (bs []),.int .i64 0,.int .i64 0,.string (bs []),.bool false] 86 (0,0)) none
 have A:=Hq (Zs hA (Za g1 gA))
 have LB:=Hq (Zcp w (.int .i64 3) (.slice none 0 0) (.string (bs nm)) (.int .i64 ka) (.int .i64 kl) (.int .i64 kr) (.string (bs [])) (.int .i64 0) (.int .i64 0) (.string (bs [])) (.bool false))
 generalize w.alloc (.cells #[.int .i64 3,.slice none 0 0,.string (bs nm),.int .i64 ka,.int .i64 kl,.int .i64 kr,.string (bs []),.int .i64 0,.int .i64 0,.string (bs []),.bool false] 86 (0,0))=W1 at *
 generalize w.heap.size=bx at *
 clear hA gA g1
 have FT:=Hq (Zcz ⟨3,none,0,0,nm,ka,kl,kr,[],0,0,[],false⟩ p s.mem (.slice pD s.data.length cD) pF s.funcs.length cF s.memSet vN vL vP vW W1 A.out.box)
 rw [hf] at FT
 obtain ⟨d0,d1,d2,d3,d4,d5,d6,d7,d8,d9,d10,dz,hlb⟩:=Zr LB.out
 go_upto_region 3 with (go_at_call 63;refine FT.out.mono ?_;rintro e W2 ⟨rfl,hg2⟩;have A:=Hq (Zs A.out hg2);have LB:=Hq (Yp LB.out hg2 (by simp));skip;clear hg2 d0 d1 d2 d3 d4 d5 d6 d7 d8 d9 d10 dz hlb)
 have hE:=A.out.gr.size
 have ON:W2.ownsRow w0.heap.size 9 1 vN s.names.length (Zcj s.names):=by
  have:=A.out.ins.str.each 0 vN _ rfl rfl
  rw [Jh] at this
  exact this
 obtain ⟨pN,cN,eN⟩:=Zi ON
 subst eN
 have HC:=Hq (fun w' (g:W2.grownBy w' none)=>Zol s.names nm pN cN w' (Zez (Zgi ON) g) (by omega))
 rw [HV] at HC
 have AD:=Hq (Zs A.out (Ze (Zb W2 none)))
 have LD:=Hq (Yp LB.out (Ze (Zb W2 none)) (by simp))
 clear ON
 obtain ⟨c0,c1,c2,c3,c4,c5,c6,c7,z0,z1,z2,z3,z4,z5,z6,z7,hlt⟩:=Zbn (show RdB W2 p s.mem (.slice pD s.data.length cD) (.slice pF s.funcs.length cF) s.memSet (.slice pN s.names.length cN) vL vP vW from A.out.box)
 obtain ⟨d0,d1,d2,d3,d4,d5,d6,d7,d8,d9,d10,dz,hlb⟩:=Zr LB.out
 go_upto_region 13 with fail
 (try rename_i K13 hK13)
 refine Yd (n:=8) (J:=fun a0 l a1 w1=>RJ a0 236 8 teH (Zpk p bx s.names.length cN pN (bs nm) (nn:Int) true ) l a1/\Zas 8 8 6 [(1,0),(2,1),(3,2),(5,4),(6,3),(6,5),(7,6)] [] (fun w9=>World.grownBy W2.drew w9 none) (fun _=>True) (Yxv p bx s.names.length cN pN (bs nm) (nn:Int) true ) (fun _=>True) l w1) (by kernel_rfl) rfl (Yt (by kernel_rfl)) (fun l a1 w1 h=>by obtain ⟨h,_⟩:=h;exact h.sz) ⟨Yc rfl,Zu (Zb _ _) (True.intro)⟩ ?step ?fin
 case step =>
  intro l a1 w' i hJJ hi hin
  obtain ⟨hJ,hW⟩:=hJJ
  have hun:l.getD i false=false:=getD_both (mem_ready.1 hi).1
  have hns:=Xe hW hin hun
  have hg:=hW.g hns
  have l0:=Nat.lt_of_lt_of_le hlt hg.size
  have l1:=Nat.lt_of_lt_of_le hlb hg.size
  rcases Ztn i hin with rfl|rfl|rfl|rfl|rfl|rfl|rfl|rfl
  · have e0:a1.tmps.getD 0 undef = .pointer (some ⟨p,0,none⟩):=hJ.un 0 (fun i hi _=>Zrs 0 (by decide) i hi)
    exact Zd hJ hW hi hun (hne:=Zcl _ (by decide)) (hrun:=by simp [execOp,Act.eval,e0,go_sem,Zpk])
  · have e52:a1.tmps.getD 52 undef = .pointer (some ⟨p,0,none⟩):=rjt hJ hi 0
    exact Zd hJ hW hi hun (hne:=Zcl _ (by decide)) (hrun:=by simp [execOp,Act.eval,e52,go_sem,Zpk])
  · have e53:a1.tmps.getD 53 undef = .pointer (some ⟨p,0,none⟩):=rjt hJ hi 1
    exact Zd hJ hW hi hun (hne:=Zcl _ (by decide)) (hrun:=by simp [execOp,Act.eval,e53,go_sem,Zpk])
  · have e54:a1.tmps.getD 54 undef = .pointer (some ⟨p,4,none⟩):=rjt hJ hi 2
    have h0:=hg.cell c4 (by simp)
    exact Zd hJ hW hi hun (hne:=Zcl _ (by decide)) (hrun:=by simp [execOp,Act.eval,e54,h0,l0,l1,go_sem,Zpk])
  · have e4:a1.tmps.getD 4 undef = .pointer (some ⟨bx,0,none⟩):=hJ.un 4 (fun i hi _=>Zrs 4 (by decide) i hi)
    exact Zd hJ hW hi hun (hne:=Zcl _ (by decide)) (hrun:=by simp [execOp,Act.eval,e4,go_sem,Zpk])
  · have e56:a1.tmps.getD 56 undef = .pointer (some ⟨bx,2,none⟩):=rjt hJ hi 4
    have h0:=hg.cell d2 (by simp)
    exact Zd hJ hW hi hun (hne:=Zcl _ (by decide)) (hrun:=by simp [execOp,Act.eval,e56,h0,l0,l1,go_sem,Zpk])
  · have e55:a1.tmps.getD 55 undef = .slice pN s.names.length cN:=rjt hJ hi 3
    have e57:a1.tmps.getD 57 undef = .string (bs nm):=rjt hJ hi 5
    refine Ya rfl (by rfl) (by simp [execOp,resolve,invoke,Act.eval,e55,e57,go_sem]) (Calls.mono (HC.out w' (Za (Ze (Zb W2 none)) hg)) (fun e w2 he => ?_))
    obtain ⟨rfl,hg2⟩:=he
    refine ⟨_,rfl,?_,Zo hW (by decide) hun (by decide) (Zg _ hi (by kernel_rfl)) (Za hg hg2) (fun hne0 hun0 hB0=>True.intro) (fun j hj hne hl hcu hF => ?_) (True.intro)⟩
    · exact Yg (val:=Zpk p bx s.names.length cN pN (bs nm) (nn:Int) true ) (Yj hJ (Ypa hW.cl hun)) (by decide) (by decide) (Zcl _ (by decide))
    · rcases Ztn j hj with rfl|rfl|rfl|rfl|rfl|rfl|rfl|rfl <;> first|exact True.intro|exact absurd rfl hne
  · have e58:a1.tmps.getD 58 undef = .int .i64 (nn:Int):=rjt hJ hi 6
    exact Zd hJ hW hi hun (hne:=Zcl _ (by decide)) (hrun:=by simp [execOp,Act.eval,e58,l0,l1,go_sem,Zpk])
 case fin =>
  intro l9 a1 w9 hJJ hl9
  obtain ⟨hJ,hW⟩:=hJJ
  have hg9:=hW.g (Ju hW)
  have hput:=Ys hJ rfl hl9 (fun i j h1 h2 h3=>Zcl j h2 i h1 h3)
  subst hput
  clear hJ hW hl9
  (try refine hK13 _ _ ?_)
  simp only [Ja,teH,Zpk,Act.put,List.setIfInBounds_toArray,List.set_cons_zero,List.set_cons_succ]
  have A:=Hq (Zs AD.out hg9)
  have LB:=Hq (Yp LD.out hg9 (by simp))
  clear hg9
  go_wp2
  go_ret
  exact ⟨rfl,A.out.gr⟩
theorem Yqr (nm:Txt) (ka kl kr:Int) (w0 w1 w:World) (p:Nat) (s:St) (line:Int) (h:RDA w0 w1 p (Zgb s)) (g1:w1.grownBy w none) (hf:Zhv s.memSet s.funcs.length 3=true) (hm:s.names.length<=1000000) (hmf:s.funcs.length<=1000000) (hml:s.labels.length<=1000000) (HV:Zmd s.names nm = -1) :
 Calls Tryz.prog 33 #[.pointer (some ⟨p,0,none⟩),lnA ⟨3,none,0,0,nm,ka,kl,kr,[],0,0,[],false⟩,.int .i64 line] w fun e w'=>e = .returned (.int .i64 0)/\RDA w0 w' p (Zgb { s with funcs:=s.funcs++[(ka,kl,kr,[])],names:=s.names++[nm],labels:=s.labels++[[]] }):=by
 obtain ⟨vD,vF,vN,vL,vP,vW,cv,lv,pv,hA⟩:=h
 obtain ⟨pD,pF,cD,cF,e1,e2⟩:=Zax hA.ins.own
 rw [Yh] at e1
 replace e1:vD = .slice pD s.data.length cD:=e1
 replace e2:vF = .slice pF s.funcs.length cF:=e2
 subst e1 e2
 go_enter Tryz.func33,Tryz.ntmps33
 go_upto_region 1 with fail
 have gA:=Ga w (.cells #[.int .i64 3,.slice none 0 0,.string (bs nm),.int .i64 ka,.int .i64 kl,.int .i64 kr,.string (bs []),.int .i64 0,.int .i64 0,.string (bs []),.bool false] 86 (0,0)) none
 have A:=Hq (Zs hA (Za g1 gA))
 have LB:=Hq (Zcp w (.int .i64 3) (.slice none 0 0) (.string (bs nm)) (.int .i64 ka) (.int .i64 kl) (.int .i64 kr) (.string (bs [])) (.int .i64 0) (.int .i64 0) (.string (bs [])) (.bool false))
 generalize w.alloc (.cells #[.int .i64 3,.slice none 0 0,.string (bs nm),.int .i64 ka,.int .i64 kl,.int .i64 kr,.string (bs []),.int .i64 0,.int .i64 0,.string (bs []),.bool false] 86 (0,0))=W1 at *
 generalize w.heap.size=bx at *
 clear hA gA g1
 have FT:=Hq (Zcz ⟨3,none,0,0,nm,ka,kl,kr,[],0,0,[],false⟩ p s.mem (.slice pD s.data.length cD) pF s.funcs.length cF s.memSet vN vL vP vW W1 A.out.box)
 rw [hf] at FT
 obtain ⟨d0,d1,d2,d3,d4,d5,d6,d7,d8,d9,d10,dz,hlb⟩:=Zr LB.out
 go_upto_region 3 with (go_at_call 63;refine FT.out.mono ?_;rintro e W2 ⟨rfl,hg2⟩;have A:=Hq (Zs A.out hg2);have LB:=Hq (Yp LB.out hg2 (by simp));skip;clear hg2 d0 d1 d2 d3 d4 d5 d6 d7 d8 d9 d10 dz hlb)
 have hE:=A.out.gr.size
 have ON:W2.ownsRow w0.heap.size 9 1 vN s.names.length (Zcj s.names):=by
  have:=A.out.ins.str.each 0 vN _ rfl rfl
  rw [Jh] at this
  exact this
 obtain ⟨pN,cN,eN⟩:=Zi ON
 subst eN
 have HC:=Hq (fun w' (g:W2.grownBy w' none)=>Zol s.names nm pN cN w' (Zez (Zgi ON) g) (by omega))
 rw [HV] at HC
 have AD:=Hq (Zs A.out (Ze (Zb W2 none)))
 have LD:=Hq (Yp LB.out (Ze (Zb W2 none)) (by simp))
 clear ON
 obtain ⟨c0,c1,c2,c3,c4,c5,c6,c7,z0,z1,z2,z3,z4,z5,z6,z7,hlt⟩:=Zbn (show RdB W2 p s.mem (.slice pD s.data.length cD) (.slice pF s.funcs.length cF) s.memSet (.slice pN s.names.length cN) vL vP vW from A.out.box)
 obtain ⟨d0,d1,d2,d3,d4,d5,d6,d7,d8,d9,d10,dz,hlb⟩:=Zr LB.out
 go_upto_region 13 with fail
 (try rename_i K13 hK13)
 refine Yd (n:=8) (J:=fun a0 l a1 w1=>RJ a0 236 8 teH (Zpk p bx s.names.length cN pN (bs nm) (-1) false ) l a1/\Zas 8 8 6 [(1,0),(2,1),(3,2),(5,4),(6,3),(6,5),(7,6)] [] (fun w9=>World.grownBy W2.drew w9 none) (fun _=>True) (Yxv p bx s.names.length cN pN (bs nm) (-1) false ) (fun _=>True) l w1) (by kernel_rfl) rfl (Yt (by kernel_rfl)) (fun l a1 w1 h=>by obtain ⟨h,_⟩:=h;exact h.sz) ⟨Yc rfl,Zu (Zb _ _) (True.intro)⟩ ?step ?fin
 case step =>
  intro l a1 w' i hJJ hi hin
  obtain ⟨hJ,hW⟩:=hJJ
  have hun:l.getD i false=false:=getD_both (mem_ready.1 hi).1
  have hns:=Xe hW hin hun
  have hg:=hW.g hns
  have l0:=Nat.lt_of_lt_of_le hlt hg.size
  have l1:=Nat.lt_of_lt_of_le hlb hg.size
  rcases Ztn i hin with rfl|rfl|rfl|rfl|rfl|rfl|rfl|rfl
  · have e0:a1.tmps.getD 0 undef = .pointer (some ⟨p,0,none⟩):=hJ.un 0 (fun i hi _=>Zrs 0 (by decide) i hi)
    exact Zd hJ hW hi hun (hne:=Zcl _ (by decide)) (hrun:=by simp [execOp,Act.eval,e0,go_sem,Zpk])
  · have e52:a1.tmps.getD 52 undef = .pointer (some ⟨p,0,none⟩):=rjt hJ hi 0
    exact Zd hJ hW hi hun (hne:=Zcl _ (by decide)) (hrun:=by simp [execOp,Act.eval,e52,go_sem,Zpk])
  · have e53:a1.tmps.getD 53 undef = .pointer (some ⟨p,0,none⟩):=rjt hJ hi 1
    exact Zd hJ hW hi hun (hne:=Zcl _ (by decide)) (hrun:=by simp [execOp,Act.eval,e53,go_sem,Zpk])
  · have e54:a1.tmps.getD 54 undef = .pointer (some ⟨p,4,none⟩):=rjt hJ hi 2
    have h0:=hg.cell c4 (by simp)
    exact Zd hJ hW hi hun (hne:=Zcl _ (by decide)) (hrun:=by simp [execOp,Act.eval,e54,h0,l0,l1,go_sem,Zpk])
  · have e4:a1.tmps.getD 4 undef = .pointer (some ⟨bx,0,none⟩):=hJ.un 4 (fun i hi _=>Zrs 4 (by decide) i hi)
    exact Zd hJ hW hi hun (hne:=Zcl _ (by decide)) (hrun:=by simp [execOp,Act.eval,e4,go_sem,Zpk])
  · have e56:a1.tmps.getD 56 undef = .pointer (some ⟨bx,2,none⟩):=rjt hJ hi 4
    have h0:=hg.cell d2 (by simp)
    exact Zd hJ hW hi hun (hne:=Zcl _ (by decide)) (hrun:=by simp [execOp,Act.eval,e56,h0,l0,l1,go_sem,Zpk])
  · have e55:a1.tmps.getD 55 undef = .slice pN s.names.length cN:=rjt hJ hi 3
    have e57:a1.tmps.getD 57 undef = .string (bs nm):=rjt hJ hi 5
    refine Ya rfl (by rfl) (by simp [execOp,resolve,invoke,Act.eval,e55,e57,go_sem]) (Calls.mono (HC.out w' (Za (Ze (Zb W2 none)) hg)) (fun e w2 he => ?_))
    obtain ⟨rfl,hg2⟩:=he
    refine ⟨_,rfl,?_,Zo hW (by decide) hun (by decide) (Zg _ hi (by kernel_rfl)) (Za hg hg2) (fun hne0 hun0 hB0=>True.intro) (fun j hj hne hl hcu hF => ?_) (True.intro)⟩
    · exact Yg (val:=Zpk p bx s.names.length cN pN (bs nm) (-1) false ) (Yj hJ (Ypa hW.cl hun)) (by decide) (by decide) (Zcl _ (by decide))
    · rcases Ztn j hj with rfl|rfl|rfl|rfl|rfl|rfl|rfl|rfl <;> first|exact True.intro|exact absurd rfl hne
  · have e58:a1.tmps.getD 58 undef = .int .i64 (-1):=rjt hJ hi 6
    exact Zd hJ hW hi hun (hne:=Zcl _ (by decide)) (hrun:=by simp [execOp,Act.eval,e58,l0,l1,go_sem,Zpk])
 case fin =>
  intro l9 a1 w9 hJJ hl9
  obtain ⟨hJ,hW⟩:=hJJ
  have hg9:=hW.g (Ju hW)
  have hput:=Ys hJ rfl hl9 (fun i j h1 h2 h3=>Zcl j h2 i h1 h3)
  subst hput
  clear hJ hW hl9
  (try refine hK13 _ _ ?_)
  simp only [Ja,teH,Zpk,Act.put,List.setIfInBounds_toArray,List.set_cons_zero,List.set_cons_succ]
  have A:=Hq (Zs AD.out hg9)
  have LB:=Hq (Yp LD.out hg9 (by simp))
  clear hg9 AD LD HC
  clear c0 c1 c2 c3 c4 c5 c6 c7 z0 z1 z2 z3 z4 z5 z6 z7 hlt d0 d1 d2 d3 d4 d5 d6 d7 d8 d9 d10 dz hlb
  try clear K13
  conv=>arg 2;whnf
  go_upto_region 15 with fail
  (try rename_i K15 hK15)
  generalize w9=W3 at A LB ⊢
  have OR:W3.ownsRow w0.heap.size 9 1 (.slice pN s.names.length cN) s.names.length (Zcj s.names):=by
   have:=A.out.ins.str.each 0 _ _ rfl rfl
   rw [Jh] at this
   exact this
  obtain ⟨c0,c1,c2,c3,c4,c5,c6,c7,z0,z1,z2,z3,z4,z5,z6,z7,hlt⟩:=Zbn (show RdB W3 p s.mem (.slice pD s.data.length cD) (.slice pF s.funcs.length cF) s.memSet (.slice pN s.names.length cN) vL vP vW from A.out.box)
  obtain ⟨d0,d1,d2,d3,d4,d5,d6,d7,d8,d9,d10,dz,hlb⟩:=Zr LB.out
  have HNE:some p≠(Value.slice pN s.names.length cN).ownBlock:=fun e=>Zn OR A.out.box (by decide) e.symm
  have HNB:some bx≠(Value.slice pN s.names.length cN).ownBlock:=fun e=>Zn OR LB.out (by decide) e.symm
  have hE:=A.out.gr.size
  have AD:=Hq (Zs A.out (Ze (Zb W3 none)))
  have LD:=Hq (Yp LB.out (Ze (Zb W3 none)) (by simp))
  have OWN:=Hq (OR.kept (Ze (Zb W3 none)) (Yw OR))
  obtain ⟨vb,hvb⟩:∃ vb,(Value.slice pN s.names.length cN).ownBlock=vb:=⟨_,rfl⟩
  rw [hvb] at HNE HNB
  obtain ⟨ni,ni0,ni1,ni2,ni3⟩:=info_parts Znh
  clear OR
  refine Yd (n:=12) (J:=fun a0 l a1 w1=>∃ (q2:Nat) (gC:Nat) (cC9:Nat),RJ a0 236 12 teA (Zpp w0.heap.size W3.heap.size s.names.length cN pN (Zcj s.names) vb p bx (bs nm) q2 gC cC9) l a1/\Zas 11 12 8 [(2,1),(3,2),(4,3),(6,5),(7,6),(8,4),(8,7),(9,0),(10,9),(11,10),(11,8)] [(7,8)] (fun w9=>World.grownBy W3.drew w9 vb) (fun w9=>w9.ownsRow w0.heap.size 9 1 (.slice pN s.names.length cN) s.names.length (Zcj s.names)) (Yxx w0.heap.size W3.heap.size s.names.length cN pN (Zcj s.names) vb p bx (bs nm) q2 gC cC9) (fun w9=>∃ (w8:World),World.grownBy W3.drew w8 vb/\w8.ownsRow w0.heap.size 9 1 (.slice (some ⟨gC,0,none⟩) (s.names.length+1) cC9) (s.names.length+1) ((Zcj s.names)++[.string (bs nm)])/\(some gC=vb\/∀ b,(Value.slice (some ⟨gC,0,none⟩) (s.names.length+1) cC9).ownBlock=some b->W3.drew.heap.size<=b)/\w9=w8.setCell ⟨p,4,none⟩ (.slice (some ⟨gC,0,none⟩) (s.names.length+1) cC9)) l w1) (by kernel_rfl) rfl (Yt (by kernel_rfl)) (fun l a1 w1 h=>by obtain ⟨_,_,_,h,_⟩:=h;exact h.sz) ⟨0,0,0,Yc rfl,Zu (Zb _ _) (OWN.out)⟩ ?step ?fin
  case step =>
   intro l a1 w' i hJJ hi hin
   obtain ⟨q2,gC,cC9,hJ,hW⟩:=hJJ
   have hun:l.getD i false=false:=getD_both (mem_ready.1 hi).1
   have hns:=Xe hW hin hun
   have hg:=hW.g hns
   have l0:=Nat.lt_of_lt_of_le hlt hg.size
   have l1:=Nat.lt_of_lt_of_le hlb hg.size
   rcases Ztp i hin with rfl|rfl|rfl|rfl|rfl|rfl|rfl|rfl|rfl|rfl|rfl|rfl
   · have e0:a1.tmps.getD 0 undef = .pointer (some ⟨p,0,none⟩):=hJ.un 0 (fun i hi _=>Zwk 0 (by decide) i hi)
     exact Zc (Zd hJ hW hi hun (hne:=Zga _ (by decide)) (hrun:=by simp [execOp,Act.eval,e0,go_sem,Zpp])) (fun a9 w9 h9=>⟨q2,gC,cC9,h9⟩)
   · have e0:a1.tmps.getD 0 undef = .pointer (some ⟨p,0,none⟩):=hJ.un 0 (fun i hi _=>Zwk 0 (by decide) i hi)
     exact Zc (Zd hJ hW hi hun (hne:=Zga _ (by decide)) (hrun:=by simp [execOp,Act.eval,e0,go_sem,Zpp])) (fun a9 w9 h9=>⟨q2,gC,cC9,h9⟩)
   · have e61:a1.tmps.getD 61 undef = .pointer (some ⟨p,0,none⟩):=rjt hJ hi 1
     exact Zc (Zd hJ hW hi hun (hne:=Zga _ (by decide)) (hrun:=by simp [execOp,Act.eval,e61,go_sem,Zpp])) (fun a9 w9 h9=>⟨q2,gC,cC9,h9⟩)
   · have e62:a1.tmps.getD 62 undef = .pointer (some ⟨p,0,none⟩):=rjt hJ hi 2
     exact Zc (Zd hJ hW hi hun (hne:=Zga _ (by decide)) (hrun:=by simp [execOp,Act.eval,e62,go_sem,Zpp])) (fun a9 w9 h9=>⟨q2,gC,cC9,h9⟩)
   · have e63:a1.tmps.getD 63 undef = .pointer (some ⟨p,4,none⟩):=rjt hJ hi 3
     have h0:=hg.cell c4 HNE
     exact Zc (Zd hJ hW hi hun (hne:=Zga _ (by decide)) (hrun:=by simp [execOp,Act.eval,e63,h0,l0,l1,go_sem,Zpp])) (fun a9 w9 h9=>⟨q2,gC,cC9,h9⟩)
   · have e4:a1.tmps.getD 4 undef = .pointer (some ⟨bx,0,none⟩):=hJ.un 4 (fun i hi _=>Zwk 4 (by decide) i hi)
     exact Zc (Zd hJ hW hi hun (hne:=Zga _ (by decide)) (hrun:=by simp [execOp,Act.eval,e4,go_sem,Zpp])) (fun a9 w9 h9=>⟨q2,gC,cC9,h9⟩)
   · have e65:a1.tmps.getD 65 undef = .pointer (some ⟨bx,2,none⟩):=rjt hJ hi 5
     have h0:=hg.cell d2 HNB
     exact Zc (Zd hJ hW hi hun (hne:=Zga _ (by decide)) (hrun:=by simp [execOp,Act.eval,e65,h0,l0,l1,go_sem,Zpp])) (fun a9 w9 h9=>⟨q2,gC,cC9,h9⟩)
   · have e66:a1.tmps.getD 66 undef = .string (bs nm):=rjt hJ hi 6
     have f66:=e66
     rw [Array.getD_eq_getD_getElem?] at f66
     refine Zt (v:=Zpp w0.heap.size W3.heap.size s.names.length cN pN (Zcj s.names) vb p bx (bs nm) w'.heap.size gC cC9 7) (w':=w'.alloc (.cells #[.string (bs nm)] 9)) rfl (by rfl) (by simp [execOp,Act.eval,e66,f66,Yii,Result.andThen,Zpp]) ⟨w'.heap.size,gC,cC9,?_,Zo hW (by decide) hun (by decide) (Zg _ hi (by kernel_rfl)) (Za hg (Ga _ _ _)) (fun hne0 hun0 hB0=>hB0.alloc _) (fun j hj hne hl hcu hF => ?_) (heap_alloc_new w' _)⟩
     · exact Yg (val:=Zpp w0.heap.size W3.heap.size s.names.length cN pN (Zcj s.names) vb p bx (bs nm) w'.heap.size gC cC9) (Yj hJ (Yun hW.cl hun)) (by decide) (by decide) (Zga _ (by decide))
     · rcases Ztp j hj with rfl|rfl|rfl|rfl|rfl|rfl|rfl|rfl|rfl|rfl|rfl|rfl <;> first|exact True.intro|exact absurd rfl hne|exact Zk (hW.cl (8,7) (by decide) (hl)) hun
   · have e64:a1.tmps.getD 64 undef = .slice pN s.names.length cN:=rjt hJ hi 4
     have e67:a1.tmps.getD 67 undef = .slice (some ⟨q2,0,none⟩) 1 1:=rjt hJ hi 7
     have FB:=hW.f hns 7 (by decide) (Zq hi 7 (by kernel_rfl)) (Jg (c:=8) (by decide) hun)
     have own:=hW.u hun
     obtain ⟨v8,w8,hap,hown,hgr,-,hat⟩:=run_append_own_at (P:=Tryz.prog) w' w0.heap.size 37 37 9 ni (.string ⟨#[]⟩) 1 16 Zrt ni0 ni1 ni2 ni3 rfl (by decide) _ s.names.length (Zcj s.names) own ⟨q2,0,none⟩ 1 1 [.string (bs nm)] rfl (Zbj FB) (Zwm _) (by unfold maxLen;omega) (by omega) (Nat.le_trans hE hg.size)
     rw [hvb] at hgr hat
     obtain ⟨gC2,cC92,hv⟩:=Js hown
     subst hv
     have hgs:=hg.size
     have hat2:some gC2=vb\/W3.heap.size<=gC2:=hat.imp id (fun e=>by injection e with e;simp only at e;first|omega|(rw [e];exact hgs))
     refine Zt (v:=Zpp w0.heap.size W3.heap.size s.names.length cN pN (Zcj s.names) vb p bx (bs nm) q2 gC2 cC92 8) (w':=w8) rfl (by rfl) (by simp [execOp,resolve,invoke,builtin,Act.eval,e64,e67,hap,Result.andThen,Zpp]) ⟨q2,gC2,cC92,?_,Zo hW (by decide) hun (by decide) (Zg _ hi (by kernel_rfl)) (Za hg hgr) (fun hne0 hun0 hB0=>absurd rfl hne0) (fun j hj hne hl hcu hF => ?_) (⟨hown,hat2⟩)⟩
     · exact Yg (val:=Zpp w0.heap.size W3.heap.size s.names.length cN pN (Zcj s.names) vb p bx (bs nm) q2 gC2 cC92) (Yj hJ (Yum hW.cl hun)) (by decide) (by decide) (Zga _ (by decide))
     · rcases Ztp j hj with rfl|rfl|rfl|rfl|rfl|rfl|rfl|rfl|rfl|rfl|rfl|rfl <;> first|exact True.intro|exact absurd rfl (hcu (7,8) (by decide) rfl).1|exact absurd rfl hne
   · have e60:a1.tmps.getD 60 undef = .pointer (some ⟨p,0,none⟩):=rjt hJ hi 0
     exact Zc (Zd hJ hW hi hun (hne:=Zga _ (by decide)) (hrun:=by simp [execOp,Act.eval,e60,go_sem,Zpp])) (fun a9 w9 h9=>⟨q2,gC,cC9,h9⟩)
   · have e69:a1.tmps.getD 69 undef = .pointer (some ⟨p,0,none⟩):=rjt hJ hi 9
     exact Zc (Zd hJ hW hi hun (hne:=Zga _ (by decide)) (hrun:=by simp [execOp,Act.eval,e69,go_sem,Zpp])) (fun a9 w9 h9=>⟨q2,gC,cC9,h9⟩)
   · have e70:a1.tmps.getD 70 undef = .pointer (some ⟨p,4,none⟩):=rjt hJ hi 10
     have e68:a1.tmps.getD 68 undef = .slice (some ⟨gC,0,none⟩) (s.names.length+1) cC9:=rjt hJ hi 8
     have F8:=hW.f hns 8 (by decide) (Zq hi 8 (by kernel_rfl)) (Zat (by decide))
     have k1:=hg.cell c4 HNE
     have bx2:=hg.block p hlt HNE
     have j1:w'.frozen? ⟨p,4,none⟩=false:=(World.frozen?_of_block bx2).trans z4
     have lb2:=Nat.lt_of_lt_of_le hlt hg.size
     have O7:w'.ownsRow w0.heap.size 9 1 (.slice (some ⟨gC,0,none⟩) (s.names.length+1) cC9) (s.names.length+1) ((Zcj s.names)++[.string (bs nm)]):=F8.1
     have L7:some gC=vb\/W3.heap.size<=gC:=F8.2
     have hall:∀ j,j<12->j≠11->l.getD j false=true:=Jp hi hW.cl (by kernel_rfl)
     exact Zc (Jo (WS:=fun l9 w9=>Zas 11 12 8 [(2,1),(3,2),(4,3),(6,5),(7,6),(8,4),(8,7),(9,0),(10,9),(11,10),(11,8)] [(7,8)] (fun w9=>World.grownBy W3.drew w9 vb) (fun w9=>w9.ownsRow w0.heap.size 9 1 (.slice pN s.names.length cN) s.names.length (Zcj s.names)) (Yxx w0.heap.size W3.heap.size s.names.length cN pN (Zcj s.names) vb p bx (bs nm) q2 gC cC9) (fun w9=>∃ (w8:World),World.grownBy W3.drew w8 vb/\w8.ownsRow w0.heap.size 9 1 (.slice (some ⟨gC,0,none⟩) (s.names.length+1) cC9) (s.names.length+1) ((Zcj s.names)++[.string (bs nm)])/\(some gC=vb\/∀ b,(Value.slice (some ⟨gC,0,none⟩) (s.names.length+1) cC9).ownBlock=some b->W3.drew.heap.size<=b)/\w9=w8.setCell ⟨p,4,none⟩ (.slice (some ⟨gC,0,none⟩) (s.names.length+1) cC9)) l9 w9) hJ rfl rfl rfl (by decide) (by decide) (w':=w'.setCell ⟨p,4,none⟩ (.slice (some ⟨gC,0,none⟩) (s.names.length+1) cC9)) (by simp [execOp,Act.eval,e70,e68,k1,j1,lb2,go_sem]) (Xa hW (by decide) (by decide) hall (Zg _ hi (by kernel_rfl)) (⟨w',hg,O7,L7.imp id (fun h7 b hb7=>by injection hb7 with hb7;simp only at hb7;subst hb7;exact h7),rfl⟩))) (fun a9 w9 h9=>⟨q2,gC,cC9,h9⟩)
  case fin =>
   intro l9 a1 w9 hJJ hl9
   obtain ⟨q2,gC,cC9,hJ,hW⟩:=hJJ
   have hq:=hW.q (hl9 11 (by decide))
   have hput:=Ys hJ rfl hl9 (fun i j h1 h2 h3=>Zga j h2 i h1 h3)
   subst hput
   clear hJ hW hl9
   obtain ⟨w8,q1,q4,q5,rfl⟩:=hq
   (try refine hK15 _ _ ?_)
   simp only [Ja,teA,Zpp,Act.put,List.setIfInBounds_toArray,List.set_cons_zero,List.set_cons_succ]
   have M:=Hq (Ycb (t:=nm) AD.out q4 (by rw [hvb];exact q1) (by rw [hvb];exact q5))
   have LM:=Hq (Yhk (Zld LD.out (AD.out.ins.str.each 0 _ _ rfl rfl) (by decide) (by rw [hvb];exact q1)) (Zf AD.out.box q1 (fun e=>HNE e.symm)) (Zm w8 p 4 (.slice (some ⟨gC,0,none⟩) (s.names.length+1) cC9)))
   clear q1 q4 q5
   generalize w8.setCell ⟨p,4,none⟩ (.slice (some ⟨gC,0,none⟩) (s.names.length+1) cC9)=W4 at M LM ⊢
   clear A LB
   have A:=M
   have LB:=LM
   clear M LM
   clear c0 c1 c2 c3 c4 c5 c6 c7 z0 z1 z2 z3 z4 z5 z6 z7 hlt d0 d1 d2 d3 d4 d5 d6 d7 d8 d9 d10 dz hlb
   clear HNE HNB OWN hvb ni0 ni1 ni2 ni3 AD LD
   try clear K15
   conv=>arg 2;whnf
   go_upto_region 16 with fail
   (try rename_i K16 hK16)
   have OR:=A.out.ins.own.fr
   replace OR:W4.ownsRow w0.heap.size 61 4 (.slice pF s.funcs.length cF) s.funcs.length (Yv s.funcs cv):=OR
   obtain ⟨c0,c1,c2,c3,c4,c5,c6,c7,z0,z1,z2,z3,z4,z5,z6,z7,hlt⟩:=Zbn (show RdB W4 p s.mem (.slice pD s.data.length cD) (.slice pF s.funcs.length cF) s.memSet (.slice (some ⟨gC,0,none⟩) (s.names.length+1) cC9) vL vP vW from A.out.box)
   obtain ⟨d0,d1,d2,d3,d4,d5,d6,d7,d8,d9,d10,dz,hlb⟩:=Zr LB.out
   have HNE:some p≠(Value.slice pF s.funcs.length cF).ownBlock:=fun e=>Zn OR A.out.box (by decide) e.symm
   have HNB:some bx≠(Value.slice pF s.funcs.length cF).ownBlock:=fun e=>Zn OR LB.out (by decide) e.symm
   have hE:=A.out.gr.size
   have AD:=Hq (Zs A.out (Ze (Zb W4 none)))
   have LD:=Hq (Yp LB.out (Ze (Zb W4 none)) (by simp))
   have OWN:=Hq (OR.kept (Ze (Zb W4 none)) (Yw OR))
   obtain ⟨vb,hvb⟩:∃ vb,(Value.slice pF s.funcs.length cF).ownBlock=vb:=⟨_,rfl⟩
   rw [hvb] at HNE HNB
   obtain ⟨ni,ni0,ni1,ni2,ni3⟩:=info_parts Zor
   clear OR
   generalize gC=gN at *
   generalize cC9=cN9 at *
   refine Yd (n:=22) (J:=fun a0 l a1 w1=>∃ (q2:Nat) (gC:Nat) (cC9:Nat),RJ a0 236 22 teB (Zij w0.heap.size W4.heap.size s.funcs.length cF pF (Yv s.funcs cv) vb p bx ka kl kr q2 gC cC9) l a1/\Zas 21 22 17 [(2,1),(3,2),(4,3),(5,4),(7,6),(8,7),(10,9),(11,10),(13,12),(14,13),(15,8),(15,11),(15,14),(16,15),(17,5),(17,16),(18,0),(19,18),(20,19),(21,20),(21,17)] [(16,17)] (fun w9=>World.grownBy W4.drew w9 vb) (fun w9=>w9.ownsRow w0.heap.size 61 4 (.slice pF s.funcs.length cF) s.funcs.length (Yv s.funcs cv)) (Yxw w0.heap.size W4.heap.size s.funcs.length cF pF (Yv s.funcs cv) vb p bx ka kl kr q2 gC cC9) (fun w9=>∃ (w8:World),World.grownBy W4.drew w8 vb/\w8.ownsRow w0.heap.size 61 4 (.slice (some ⟨gC,0,none⟩) (s.funcs.length+1) cC9) (s.funcs.length+1) ((Yv s.funcs cv)++[.int .i64 ka,.int .i64 kl,.int .i64 kr,.slice none 0 0])/\(some gC=vb\/∀ b,(Value.slice (some ⟨gC,0,none⟩) (s.funcs.length+1) cC9).ownBlock=some b->W4.drew.heap.size<=b)/\w9=w8.setCell ⟨p,2,none⟩ (.slice (some ⟨gC,0,none⟩) (s.funcs.length+1) cC9)) l w1) (by kernel_rfl) rfl (Yt (by kernel_rfl)) (fun l a1 w1 h=>by obtain ⟨_,_,_,h,_⟩:=h;exact h.sz) ⟨0,0,0,Yc rfl,Zu (Zb _ _) (OWN.out)⟩ ?step ?fin
   case step =>
    intro l a1 w' i hJJ hi hin
    obtain ⟨q2,gC,cC9,hJ,hW⟩:=hJJ
    have hun:l.getD i false=false:=getD_both (mem_ready.1 hi).1
    have hns:=Xe hW hin hun
    have hg:=hW.g hns
    have l0:=Nat.lt_of_lt_of_le hlt hg.size
    have l1:=Nat.lt_of_lt_of_le hlb hg.size
    rcases Zto i hin with rfl|rfl|rfl|rfl|rfl|rfl|rfl|rfl|rfl|rfl|rfl|rfl|rfl|rfl|rfl|rfl|rfl|rfl|rfl|rfl|rfl|rfl
    · have e0:a1.tmps.getD 0 undef = .pointer (some ⟨p,0,none⟩):=hJ.un 0 (fun i hi _=>Zng 0 (by decide) i hi)
      exact Zc (Zd hJ hW hi hun (hne:=Zbk _ (by decide)) (hrun:=by simp [execOp,Act.eval,e0,go_sem,Zij])) (fun a9 w9 h9=>⟨q2,gC,cC9,h9⟩)
    · have e0:a1.tmps.getD 0 undef = .pointer (some ⟨p,0,none⟩):=hJ.un 0 (fun i hi _=>Zng 0 (by decide) i hi)
      exact Zc (Zd hJ hW hi hun (hne:=Zbk _ (by decide)) (hrun:=by simp [execOp,Act.eval,e0,go_sem,Zij])) (fun a9 w9 h9=>⟨q2,gC,cC9,h9⟩)
    · have e72:a1.tmps.getD 72 undef = .pointer (some ⟨p,0,none⟩):=rjt hJ hi 1
      exact Zc (Zd hJ hW hi hun (hne:=Zbk _ (by decide)) (hrun:=by simp [execOp,Act.eval,e72,go_sem,Zij])) (fun a9 w9 h9=>⟨q2,gC,cC9,h9⟩)
    · have e73:a1.tmps.getD 73 undef = .pointer (some ⟨p,0,none⟩):=rjt hJ hi 2
      exact Zc (Zd hJ hW hi hun (hne:=Zbk _ (by decide)) (hrun:=by simp [execOp,Act.eval,e73,go_sem,Zij])) (fun a9 w9 h9=>⟨q2,gC,cC9,h9⟩)
    · have e74:a1.tmps.getD 74 undef = .pointer (some ⟨p,0,none⟩):=rjt hJ hi 3
      exact Zc (Zd hJ hW hi hun (hne:=Zbk _ (by decide)) (hrun:=by simp [execOp,Act.eval,e74,go_sem,Zij])) (fun a9 w9 h9=>⟨q2,gC,cC9,h9⟩)
    · have e75:a1.tmps.getD 75 undef = .pointer (some ⟨p,2,none⟩):=rjt hJ hi 4
      have h0:=hg.cell c2 HNE
      exact Zc (Zd hJ hW hi hun (hne:=Zbk _ (by decide)) (hrun:=by simp [execOp,Act.eval,e75,h0,l0,l1,go_sem,Zij])) (fun a9 w9 h9=>⟨q2,gC,cC9,h9⟩)
    · have e4:a1.tmps.getD 4 undef = .pointer (some ⟨bx,0,none⟩):=hJ.un 4 (fun i hi _=>Zng 4 (by decide) i hi)
      exact Zc (Zd hJ hW hi hun (hne:=Zbk _ (by decide)) (hrun:=by simp [execOp,Act.eval,e4,go_sem,Zij])) (fun a9 w9 h9=>⟨q2,gC,cC9,h9⟩)
    · have e77:a1.tmps.getD 77 undef = .pointer (some ⟨bx,3,none⟩):=rjt hJ hi 6
      exact Zc (Zd hJ hW hi hun (hne:=Zbk _ (by decide)) (hrun:=by simp [execOp,Act.eval,e77,go_sem,Zij] <;> (intros;omega))) (fun a9 w9 h9=>⟨q2,gC,cC9,h9⟩)
    · have e78:a1.tmps.getD 78 undef = .pointer (some ⟨bx,3,none⟩):=rjt hJ hi 7
      have h0:=hg.cell d3 HNB
      exact Zc (Zd hJ hW hi hun (hne:=Zbk _ (by decide)) (hrun:=by simp [execOp,Act.eval,e78,h0,l0,l1,go_sem,Zij])) (fun a9 w9 h9=>⟨q2,gC,cC9,h9⟩)
    · have e4:a1.tmps.getD 4 undef = .pointer (some ⟨bx,0,none⟩):=hJ.un 4 (fun i hi _=>Zng 4 (by decide) i hi)
      exact Zc (Zd hJ hW hi hun (hne:=Zbk _ (by decide)) (hrun:=by simp [execOp,Act.eval,e4,go_sem,Zij])) (fun a9 w9 h9=>⟨q2,gC,cC9,h9⟩)
    · have e80:a1.tmps.getD 80 undef = .pointer (some ⟨bx,3,none⟩):=rjt hJ hi 9
      exact Zc (Zd hJ hW hi hun (hne:=Zbk _ (by decide)) (hrun:=by simp [execOp,Act.eval,e80,go_sem,Zij] <;> (intros;omega))) (fun a9 w9 h9=>⟨q2,gC,cC9,h9⟩)
    · have e81:a1.tmps.getD 81 undef = .pointer (some ⟨bx,3+1,none⟩):=rjt hJ hi 10
      have h0:=hg.cell d4 HNB
      exact Zc (Zd hJ hW hi hun (hne:=Zbk _ (by decide)) (hrun:=by simp [execOp,Act.eval,e81,h0,l0,l1,go_sem,Zij])) (fun a9 w9 h9=>⟨q2,gC,cC9,h9⟩)
    · have e4:a1.tmps.getD 4 undef = .pointer (some ⟨bx,0,none⟩):=hJ.un 4 (fun i hi _=>Zng 4 (by decide) i hi)
      exact Zc (Zd hJ hW hi hun (hne:=Zbk _ (by decide)) (hrun:=by simp [execOp,Act.eval,e4,go_sem,Zij])) (fun a9 w9 h9=>⟨q2,gC,cC9,h9⟩)
    · have e83:a1.tmps.getD 83 undef = .pointer (some ⟨bx,3,none⟩):=rjt hJ hi 12
      exact Zc (Zd hJ hW hi hun (hne:=Zbk _ (by decide)) (hrun:=by simp [execOp,Act.eval,e83,go_sem,Zij] <;> (intros;omega))) (fun a9 w9 h9=>⟨q2,gC,cC9,h9⟩)
    · have e84:a1.tmps.getD 84 undef = .pointer (some ⟨bx,3+2,none⟩):=rjt hJ hi 13
      have h0:=hg.cell d5 HNB
      exact Zc (Zd hJ hW hi hun (hne:=Zbk _ (by decide)) (hrun:=by simp [execOp,Act.eval,e84,h0,l0,l1,go_sem,Zij])) (fun a9 w9 h9=>⟨q2,gC,cC9,h9⟩)
    · have e79:a1.tmps.getD 79 undef = .int .i64 ka:=rjt hJ hi 8
      have f79:=e79
      rw [Array.getD_eq_getD_getElem?] at f79
      have e82:a1.tmps.getD 82 undef = .int .i64 kl:=rjt hJ hi 11
      have f82:=e82
      rw [Array.getD_eq_getD_getElem?] at f82
      have e85:a1.tmps.getD 85 undef = .int .i64 kr:=rjt hJ hi 14
      have f85:=e85
      rw [Array.getD_eq_getD_getElem?] at f85
      exact Zc (Zd hJ hW hi hun (hne:=Zbk _ (by decide)) (hrun:=by simp [execOp,Act.eval,e79,f79,e82,f82,e85,f85,l0,l1,go_sem,Zij])) (fun a9 w9 h9=>⟨q2,gC,cC9,h9⟩)
    · have e86:a1.tmps.getD 86 undef = .agg #[.int .i64 ka,.int .i64 kl,.int .i64 kr,.slice none 0 0]:=rjt hJ hi 15
      have f86:=e86
      rw [Array.getD_eq_getD_getElem?] at f86
      refine Zt (v:=Zij w0.heap.size W4.heap.size s.funcs.length cF pF (Yv s.funcs cv) vb p bx ka kl kr w'.heap.size gC cC9 16) (w':=w'.alloc (.cells #[.int .i64 ka,.int .i64 kl,.int .i64 kr,.slice none 0 0] 61)) rfl (by rfl) (by simp [execOp,Act.eval,e86,f86,Zyd,Result.andThen,Zij]) ⟨w'.heap.size,gC,cC9,?_,Zo hW (by decide) hun (by decide) (Zg _ hi (by kernel_rfl)) (Za hg (Ga _ _ _)) (fun hne0 hun0 hB0=>hB0.alloc _) (fun j hj hne hl hcu hF => ?_) (heap_alloc_new w' _)⟩
      · exact Yg (val:=Zij w0.heap.size W4.heap.size s.funcs.length cF pF (Yv s.funcs cv) vb p bx ka kl kr w'.heap.size gC cC9) (Yj hJ (Yqo hW.cl hun)) (by decide) (by decide) (Zbk _ (by decide))
      · rcases Zto j hj with rfl|rfl|rfl|rfl|rfl|rfl|rfl|rfl|rfl|rfl|rfl|rfl|rfl|rfl|rfl|rfl|rfl|rfl|rfl|rfl|rfl|rfl <;> first|exact True.intro|exact absurd rfl hne|exact Zk (hW.cl (17,16) (by decide) (hl)) hun
    · have e76:a1.tmps.getD 76 undef = .slice pF s.funcs.length cF:=rjt hJ hi 5
      have e87:a1.tmps.getD 87 undef = .slice (some ⟨q2,0,none⟩) 1 1:=rjt hJ hi 16
      have FB:=hW.f hns 16 (by decide) (Zq hi 16 (by kernel_rfl)) (Jg (c:=17) (by decide) hun)
      have own:=hW.u hun
      obtain ⟨v8,w8,hap,hown,hgr,-,hat⟩:=run_append_own_at (P:=Tryz.prog) w' w0.heap.size 24 24 61 ni (.agg #[.int .i64 0,.int .i64 0,.int .i64 0,.slice none 0 0]) 4 48 Zsw ni0 ni1 ni2 ni3 rfl (by decide) _ s.funcs.length (Yv s.funcs cv) own ⟨q2,0,none⟩ 1 1 [.int .i64 ka,.int .i64 kl,.int .i64 kr,.slice none 0 0] rfl (Zbj FB) (Yxb _ _ _ _ _ _) (by unfold maxLen;omega) (by omega) (Nat.le_trans hE hg.size)
      rw [hvb] at hgr hat
      obtain ⟨gC2,cC92,hv⟩:=Js hown
      subst hv
      have hgs:=hg.size
      have hat2:some gC2=vb\/W4.heap.size<=gC2:=hat.imp id (fun e=>by injection e with e;simp only at e;first|omega|(rw [e];exact hgs))
      refine Zt (v:=Zij w0.heap.size W4.heap.size s.funcs.length cF pF (Yv s.funcs cv) vb p bx ka kl kr q2 gC2 cC92 17) (w':=w8) rfl (by rfl) (by simp [execOp,resolve,invoke,builtin,Act.eval,e76,e87,hap,Result.andThen,Zij]) ⟨q2,gC2,cC92,?_,Zo hW (by decide) hun (by decide) (Zg _ hi (by kernel_rfl)) (Za hg hgr) (fun hne0 hun0 hB0=>absurd rfl hne0) (fun j hj hne hl hcu hF => ?_) (⟨hown,hat2⟩)⟩
      · exact Yg (val:=Zij w0.heap.size W4.heap.size s.funcs.length cF pF (Yv s.funcs cv) vb p bx ka kl kr q2 gC2 cC92) (Yj hJ (Yqn hW.cl hun)) (by decide) (by decide) (Zbk _ (by decide))
      · rcases Zto j hj with rfl|rfl|rfl|rfl|rfl|rfl|rfl|rfl|rfl|rfl|rfl|rfl|rfl|rfl|rfl|rfl|rfl|rfl|rfl|rfl|rfl|rfl <;> first|exact True.intro|exact absurd rfl (hcu (16,17) (by decide) rfl).1|exact absurd rfl hne
    · have e71:a1.tmps.getD 71 undef = .pointer (some ⟨p,0,none⟩):=rjt hJ hi 0
      exact Zc (Zd hJ hW hi hun (hne:=Zbk _ (by decide)) (hrun:=by simp [execOp,Act.eval,e71,go_sem,Zij])) (fun a9 w9 h9=>⟨q2,gC,cC9,h9⟩)
    · have e89:a1.tmps.getD 89 undef = .pointer (some ⟨p,0,none⟩):=rjt hJ hi 18
      exact Zc (Zd hJ hW hi hun (hne:=Zbk _ (by decide)) (hrun:=by simp [execOp,Act.eval,e89,go_sem,Zij])) (fun a9 w9 h9=>⟨q2,gC,cC9,h9⟩)
    · have e90:a1.tmps.getD 90 undef = .pointer (some ⟨p,0,none⟩):=rjt hJ hi 19
      exact Zc (Zd hJ hW hi hun (hne:=Zbk _ (by decide)) (hrun:=by simp [execOp,Act.eval,e90,go_sem,Zij])) (fun a9 w9 h9=>⟨q2,gC,cC9,h9⟩)
    · have e91:a1.tmps.getD 91 undef = .pointer (some ⟨p,2,none⟩):=rjt hJ hi 20
      have e88:a1.tmps.getD 88 undef = .slice (some ⟨gC,0,none⟩) (s.funcs.length+1) cC9:=rjt hJ hi 17
      have F17:=hW.f hns 17 (by decide) (Zq hi 17 (by kernel_rfl)) (Zat (by decide))
      have k1:=hg.cell c2 HNE
      have bx2:=hg.block p hlt HNE
      have j1:w'.frozen? ⟨p,2,none⟩=false:=(World.frozen?_of_block bx2).trans z2
      have lb2:=Nat.lt_of_lt_of_le hlt hg.size
      have O7:w'.ownsRow w0.heap.size 61 4 (.slice (some ⟨gC,0,none⟩) (s.funcs.length+1) cC9) (s.funcs.length+1) ((Yv s.funcs cv)++[.int .i64 ka,.int .i64 kl,.int .i64 kr,.slice none 0 0]):=F17.1
      have L7:some gC=vb\/W4.heap.size<=gC:=F17.2
      have hall:∀ j,j<22->j≠21->l.getD j false=true:=Jp hi hW.cl (by kernel_rfl)
      exact Zc (Jo (WS:=fun l9 w9=>Zas 21 22 17 [(2,1),(3,2),(4,3),(5,4),(7,6),(8,7),(10,9),(11,10),(13,12),(14,13),(15,8),(15,11),(15,14),(16,15),(17,5),(17,16),(18,0),(19,18),(20,19),(21,20),(21,17)] [(16,17)] (fun w9=>World.grownBy W4.drew w9 vb) (fun w9=>w9.ownsRow w0.heap.size 61 4 (.slice pF s.funcs.length cF) s.funcs.length (Yv s.funcs cv)) (Yxw w0.heap.size W4.heap.size s.funcs.length cF pF (Yv s.funcs cv) vb p bx ka kl kr q2 gC cC9) (fun w9=>∃ (w8:World),World.grownBy W4.drew w8 vb/\w8.ownsRow w0.heap.size 61 4 (.slice (some ⟨gC,0,none⟩) (s.funcs.length+1) cC9) (s.funcs.length+1) ((Yv s.funcs cv)++[.int .i64 ka,.int .i64 kl,.int .i64 kr,.slice none 0 0])/\(some gC=vb\/∀ b,(Value.slice (some ⟨gC,0,none⟩) (s.funcs.length+1) cC9).ownBlock=some b->W4.drew.heap.size<=b)/\w9=w8.setCell ⟨p,2,none⟩ (.slice (some ⟨gC,0,none⟩) (s.funcs.length+1) cC9)) l9 w9) hJ rfl rfl rfl (by decide) (by decide) (w':=w'.setCell ⟨p,2,none⟩ (.slice (some ⟨gC,0,none⟩) (s.funcs.length+1) cC9)) (by simp [execOp,Act.eval,e91,e88,k1,j1,lb2,go_sem]) (Xa hW (by decide) (by decide) hall (Zg _ hi (by kernel_rfl)) (⟨w',hg,O7,L7.imp id (fun h7 b hb7=>by injection hb7 with hb7;simp only at hb7;subst hb7;exact h7),rfl⟩))) (fun a9 w9 h9=>⟨q2,gC,cC9,h9⟩)
   case fin =>
    intro l9 a1 w9 hJJ hl9
    obtain ⟨q2,gC,cC9,hJ,hW⟩:=hJJ
    have hq:=hW.q (hl9 21 (by decide))
    have hput:=Ys hJ rfl hl9 (fun i j h1 h2 h3=>Zbk j h2 i h1 h3)
    subst hput
    clear hJ hW hl9
    obtain ⟨w8,q1,q4,q5,rfl⟩:=hq
    (try refine hK16 _ _ ?_)
    simp only [Ja,teB,Zij,Act.put,List.setIfInBounds_toArray,List.set_cons_zero,List.set_cons_succ]
    have M:=Hq (Yrh AD.out q4 (by rw [hvb];exact q1))
    clear q1 q4 q5
    generalize w8.setCell ⟨p,2,none⟩ (.slice (some ⟨gC,0,none⟩) (s.funcs.length+1) cC9)=W5 at M ⊢
    clear A LB
    have A:=M
    clear M
    clear c0 c1 c2 c3 c4 c5 c6 c7 z0 z1 z2 z3 z4 z5 z6 z7 hlt d0 d1 d2 d3 d4 d5 d6 d7 d8 d9 d10 dz hlb
    clear HNE HNB OWN hvb ni0 ni1 ni2 ni3 AD LD
    try clear K16
    conv=>arg 2;whnf
    have hll:lv.length<=1000000:=by
     have:=A.out.ins.str.len
     simp [Zgb] at this
     omega
    have hpl:pv.length<=1000000:=by
     have:=A.out.ins.int.len
     simp [Zgb] at this
     omega
    obtain ⟨pL,cL,eL⟩:=Zi A.out.ins.lrow
    subst eL
    obtain ⟨ni,ni0,ni1,ni2,ni3⟩:=info_parts Yms
    have OR:=Hq A.out.ins.lrow
    have hc3:lv.length+1<=maxLen:=by unfold maxLen;omega
    have hc4:(lv.length+1)*24<=140737488355328:=by omega
    obtain ⟨c0,c1,c2,c3,c4,c5,c6,c7,z0,z1,z2,z3,z4,z5,z6,z7,hlt⟩:=Zbn (show RdB W5 p s.mem _ _ s.memSet _ _ _ _ from A.out.box)
    go_upto_region 18 with (at_builtin;refine wpList_append_own_at _ rfl _ _ 79 rfl w0.heap.size 37 ni (.slice none 0 0) 1 24 Ysf ni0 ni1 ni2 ni3 rfl (by decide) (.slice pL lv.length cL) _ _ rfl (World.ownsRow.alloc OR.out _) ⟨W5.heap.size,0,none⟩ 1 1 [.slice none 0 0] rfl rfl (Zcd W5 _ _) Yhb hc3 hc4 (Zw A.out.gr.size _) ?_;intro v3 w6 hown3 hgr3 hnil3 hat3;obtain ⟨p3,kk3,hv3⟩:=Zi hown3;subst hv3;have AK:=Zs A.out (Ga W5 (.cells #[.slice none 0 0] 37 (0,0)) none);have BK:=Zf AK.box hgr3 (Zn AK.ins.lrow AK.box (by decide));have AL:=Hq (Ygb AK hown3 hgr3);obtain ⟨c0,c1,c2,c3,c4,c5,c6,c7,z0,z1,z2,z3,z4,z5,z6,z7,hlt⟩:=Zbn (show RdB w6 p _ _ _ _ _ _ _ _ from BK);clear AK BK hown3 hgr3 hnil3 hat3)
    generalize w6.setCell ⟨p,5,none⟩ (.slice p3 (lv.length+1) kk3)=W6 at AL ⊢
    clear A OR ni0 ni1 ni2 ni3 c0 c1 c2 c3 c4 c5 c6 c7 z0 z1 z2 z3 z4 z5 z6 z7 hlt hc3 hc4
    have A:=AL
    clear AL
    obtain ⟨pP,cP,eP⟩:=Zi A.out.ins.prow
    subst eP
    obtain ⟨ni,ni0,ni1,ni2,ni3⟩:=info_parts Ymy
    have OR:=Hq A.out.ins.prow
    have hc3:pv.length+1<=maxLen:=by unfold maxLen;omega
    have hc4:(pv.length+1)*24<=140737488355328:=by omega
    obtain ⟨c0,c1,c2,c3,c4,c5,c6,c7,z0,z1,z2,z3,z4,z5,z6,z7,hlt⟩:=Zbn (show RdB W6 p s.mem _ _ s.memSet _ _ _ _ from A.out.box)
    go_wp2_with (at_builtin;refine wpList_append_own_at _ rfl _ _ 80 rfl w0.heap.size 93 ni (.slice none 0 0) 1 24 Ysj ni0 ni1 ni2 ni3 rfl (by decide) (.slice pP pv.length cP) _ _ rfl (World.ownsRow.alloc OR.out _) ⟨W6.heap.size,0,none⟩ 1 1 [.slice none 0 0] rfl rfl (Zcd W6 _ _) Yhb hc3 hc4 (Zw A.out.gr.size _) ?_;intro v3 w6 hown3 hgr3 hnil3 hat3;obtain ⟨p3,kk3,hv3⟩:=Zi hown3;subst hv3;have AK:=Zs A.out (Ga W6 (.cells #[.slice none 0 0] 93 (0,0)) none);have BK:=Zf AK.box hgr3 (Zn AK.ins.prow AK.box (by decide));have AL:=Hq (Yga AK hown3 hgr3);obtain ⟨c0,c1,c2,c3,c4,c5,c6,c7,z0,z1,z2,z3,z4,z5,z6,z7,hlt⟩:=Zbn (show RdB w6 p _ _ _ _ _ _ _ _ from BK);clear AK BK hown3 hgr3 hnil3 hat3)
    go_ret
    refine ⟨rfl,?_⟩
    rw [Yrb]
    exact ⟨_,_,_,_,_,_,_,_,_,AL.out⟩
end Go.Proofs.YteciblfmgdlipaaGreatDoor.AS
