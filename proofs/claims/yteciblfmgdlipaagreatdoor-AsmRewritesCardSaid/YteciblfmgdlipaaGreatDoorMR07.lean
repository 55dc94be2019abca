/-
  Part of a proof: contracts of functions and lemmas, each stated by its own theorem. Conditions: as each theorem states.
-/
import Derived.Test.YteciblfmgdlipaaGreatDoorMR06
set_option linter.unusedSimpArgs false
set_option linter.unusedVariables false
set_option maxRecDepth 100000
set_option maxHeartbeats 16000000
namespace Go.Proofs.YteciblfmgdlipaaGreatDoor.AS
open Go.RowKit Go.Great CK
theorem Zmx {w0 w:World} {p m:Nat} {c:CS} {pend pend' vd vF vL vB:Value} {bm:Nat} {cv:List Value} {lb:List Nat} (h:Zge w0 w p m c pend vd vF vL vB bm cv lb) :
 Zge w0 (w.setCell ⟨p,7,none⟩ pend') p m c pend' vd vF vL vB bm cv lb/\w.grownBy (w.setCell ⟨p,7,none⟩ pend') (some p) :=
 ⟨⟨Yd h.gr h.ge,h.ge,by rw [Zl h.box];rfl,Zdo h.ins h.box (Zo w p 7 pend'),h.lens⟩,Zo w p 7 pend'⟩
theorem Yit (w0 w:World) (p m:Nat) (c:CS) (x:Option Int) (e:Int) (vd vF vL vB:Value) (bm:Nat) (cv:List Value) (lb:List Nat) (h:Zge w0 w p m c (Zeg x) vd vF vL vB bm cv lb) :
 Calls Tryz.prog 112 #[.pointer (some ⟨p,0,none⟩),.int .i64 e] w fun e' w'=>e' = .returned (.tuple #[])/\Zge w0 w' p m c (Zeg (amV x e)) vd vF vL vB bm cv lb/\w.grownBy w' (some p):=by
 have A:=Hq h
 have c7:=Cq w p 7 _ _ _ h.box
 have z7:=frozen_of_row w p 7 _ _ h.box
 have hlt:p<w.heap.size:=(Gs h.box)
 clear h
 cases x with
 | none =>
   simp only [Zeg] at c7
   have E1:=Hq (Zmx (pend' := .iface 41 (.int .i64 e)) A.out)
   go_enter Tryz.func112,Tryz.ntmps112
   go_wp2
   go_end0
   exact ⟨rfl,E1.out.1,E1.out.2⟩
 | some y =>
   simp only [Zeg] at c7
   by_cases h3:e=143
   · have E1:=Hq (Zmx (pend' := .iface 41 (.int .i64 143)) A.out)
     subst h3
     go_enter Tryz.func112,Tryz.ntmps112
     go_wp2
     go_end0
     exact ⟨rfl,E1.out.1,E1.out.2⟩
   · have b3:(e == 143)=false:=beq_eq_false_iff_ne.2 h3
     have hv:amV (some y) e=some y:=by simp [amV,h3]
     rw [hv]
     clear h3 hv
     go_enter Tryz.func112,Tryz.ntmps112
     go_wp2
     go_end0
     exact ⟨rfl,A.out,Zd _ _⟩
def imF (p b o ln cc b9 k gF bi:Nat) (line:Int) (t:Nat->Value):Act:=⟨#[.pointer (some ⟨p,0,none⟩),.int .i64 line,.slice (some ⟨b,o,none⟩) (ln+1) cc,t 3,t 4,t 5,t 6,t 7,t 8,.pointer (some ⟨b9,0,none⟩),t 10,.int .i64 (k:Int),.pointer (some ⟨gF,k*4,none⟩),.pointer (some ⟨bi,0,none⟩),t 14,t 15,t 16,t 17,t 18,t 19,t 20,t 21,t 22,t 23,t 24,t 25,t 26,t 27,t 28,t 29,t 30,t 31,t 32,t 33,t 34,t 35,t 36,t 37,t 38,t 39,t 40,t 41,t 42,t 43,t 44,t 45,t 46,t 47,t 48,t 49,t 50,t 51,t 52,t 53,t 54,t 55,t 56,t 57,t 58,t 59,t 60,t 61,t 62,t 63,t 64,t 65,t 66,t 67,t 68,t 69,t 70,t 71,t 72,t 73,t 74,t 75,t 76,t 77,t 78,t 79,t 80,t 81,t 82,t 83,t 84,t 85,t 86,t 87,t 88,t 89,t 90,t 91,t 92,t 93,t 94,t 95,t 96,t 97,t 98,t 99,t 100,t 101,t 102,t 103,t 104,t 105,t 106,t 107,t 108,t 109,t 110,t 111,t 112,t 113,t 114,t 115,t 116,t 117,t 118,t 119,t 120,t 121,t 122,t 123,t 124,t 125,t 126,t 127,t 128,t 129,t 130,t 131,t 132,t 133,t 134,t 135,t 136,t 137,t 138,t 139,t 140,t 141,t 142,t 143,t 144,t 145,t 146,t 147,t 148,t 149,t 150,t 151,t 152,t 153,t 154,t 155,t 156,t 157],[]⟩
structure Zzx (p b o ln cc b9 k gF bi:Nat) (line:Int) (a:Act):Prop where
 sz:a.tmps.size=158
 df:a.defers=[]
 s0:a.tmps.getD 0 undef = .pointer (some ⟨p,0,none⟩)
 s1:a.tmps.getD 1 undef = .int .i64 line
 s2:a.tmps.getD 2 undef = .slice (some ⟨b,o,none⟩) (ln+1) cc
 s9:a.tmps.getD 9 undef = .pointer (some ⟨b9,0,none⟩)
 s11:a.tmps.getD 11 undef = .int .i64 (k:Int)
 s12:a.tmps.getD 12 undef = .pointer (some ⟨gF,k*4,none⟩)
 s13:a.tmps.getD 13 undef = .pointer (some ⟨bi,0,none⟩)
theorem Zfq {p b o ln cc b9 k gF bi:Nat} {line:Int} {a:Act} (H:Zzx p b o ln cc b9 k gF bi line a):a=imF p b o ln cc b9 k gF bi line (fun i=>a.tmps.getD i undef):=by
 refine Zum H.sz H.df fun j hj => ?_
 have hs:=H.sz
 rw [hs] at hj
 unfold tm
 rcases j with _|j
 · exact H.s0
 rcases j with _|j
 · exact H.s1
 rcases j with _|j
 · exact H.s2
 iterate 6 (rcases j with _|j;· rfl)
 rcases j with _|j
 · exact H.s9
 iterate 1 (rcases j with _|j;· rfl)
 rcases j with _|j
 · exact H.s11
 rcases j with _|j
 · exact H.s12
 rcases j with _|j
 · exact H.s13
 iterate 144 (rcases j with _|j;· rfl)
 omega
structure Zev (w0 ww w:World) (p m k gF cF b o b9 bi:Nat) (c:CS) (x:Option Int) (n:Nat) (kd:Int) (q0:Pc) (rest:List Pc) (vd vL vB:Value) (bm:Nat) (cv:List Value) (lb:List Nat) (vc:Value):Prop where
 ps:Zge w0 w p m c (Zeg x) vd (.slice (some ⟨gF,0,none⟩) c.funcs.length cF) vL vB bm cv lb
 hk:c.funcs.length=k+1
 hv:cv[k]? = some vc
 hp:Zhr w (some ⟨b,o,none⟩) (q0::rest)
 h9:∃ nm tk gv,w.heap[b9]? = some (.cells #[.string nm,.int .i64 kd,.int .i64 tk,.int .i64 gv] 144 (0,0))
 hi:w.heap[bi]? = some (.cells #[.int .i64 n,.int .i64 0] 58 (0,0))
 hE:w0.heap.size<=bi
 ne:∀ (k:Nat) (v:Value),cv[k]? = some v->v.ownBlock≠some bi
 fr:Fr ww w
theorem Znl {w0 ww w w':World} {p m k gF cF b o b9 bi:Nat} {c:CS} {x:Option Int} {n:Nat} {kd:Int} {q0:Pc} {rest:List Pc} {vd vL vB:Value} {bm:Nat} {cv:List Value} {lb:List Nat} {vc:Value} (h:Zev w0 ww w p m k gF cF b o b9 bi c x n kd q0 rest vd vL vB bm cv lb vc) (g:w.grownBy w' none) :
 Zev w0 ww w' p m k gF cF b o b9 bi c x n kd q0 rest vd vL vB bm cv lb vc:=by
 obtain ⟨nm,tk,gv,h9⟩:=h.h9
 exact ⟨Yr h.ps g,h.hk,h.hv,Xz h.hp (Yk g),⟨nm,tk,gv,Zf h9 g (by simp)⟩,Zf h.hi g (by simp),h.hE,h.ne,Zn h.fr (Yk g)⟩
theorem Zle {w0 ww w:World} {p m k gF cF b o b9 bi:Nat} {c:CS} {x:Option Int} {n:Nat} {kd:Int} {q0:Pc} {rest:List Pc} {vd vL vB:Value} {bm:Nat} {cv:List Value} {lb:List Nat} {vc:Value} (h:Zev w0 ww w p m k gF cF b o b9 bi c x n kd q0 rest vd vL vB bm cv lb vc) (a:Int) :
 Zge w0 (w.setCell ⟨bi,1,none⟩ (.int .i64 a)) p m c (Zeg x) vd (.slice (some ⟨gF,0,none⟩) c.funcs.length cF) vL vB bm cv lb/\(w.setCell ⟨bi,1,none⟩ (.int .i64 a)).heap[bi]? = some (.cells #[.int .i64 n,.int .i64 a] 58 (0,0))/\Fr ww (w.setCell ⟨bi,1,none⟩ (.int .i64 a)) :=
 ⟨Ybl h.ps h.hi (Or.inl rfl) h.ne h.hE (Zo _ _ _ _),by rw [Zl h.hi];rfl,Zn h.fr (Zlm h.hi (by decide) (Zo _ _ _ _))⟩
theorem Yqc {w0 w:World} {p m:Nat} {c:CS} {pend vd vF vL vB:Value} {bm:Nat} {cv:List Value} {lb:List Nat} (h:Zge w0 w p m c pend vd vF vL vB bm cv lb):PS w0 w p m c pend:=⟨vd,vF,vL,vB,bm,cv,lb,h⟩
theorem Zgu {w0 w:World} {p m m':Nat} {c:CS} {pend vd vF vL vB:Value} {bm:Nat} {cv:List Value} {lb:List Nat} (h:Zge w0 w p m c pend vd vF vL vB bm cv lb) (hm:m<=m'):Zge w0 w p m' c pend vd vF vL vB bm cv lb :=
 ⟨h.gr,h.ge,h.box,Zko h.ins hm,h.lens⟩
theorem Zep (s:Txt):(bs s).toList=s:=by rw [Lib.toList_data,Xd]
theorem Yhu {w0 ww w w':World} {p m k gF cF b o b9 bi:Nat} {c:CS} {x y:Option Int} {n:Nat} {kd:Int} {q0:Pc} {rest:List Pc} {vd vL vB:Value} {bm:Nat} {cv:List Value} {lb:List Nat} {vc:Value} (h:Zev w0 ww w p m k gF cF b o b9 bi c x n kd q0 rest vd vL vB bm cv lb vc)
 (hps:Zge w0 w' p m c (Zeg y) vd (.slice (some ⟨gF,0,none⟩) c.funcs.length cF) vL vB bm cv lb) (g:w.grownBy w' (some p)) (hne:some p≠some bi) :
 Zev w0 ww w' p m k gF cF b o b9 bi c y n kd q0 rest vd vL vB bm cv lb vc:=by
 obtain ⟨nm,tk,gv,h9⟩:=h.h9
 have h2:=Zlm h.ps.box (by decide) g
 refine ⟨hps,h.hk,h.hv,Xz h.hp h2,⟨nm,tk,gv,Zf h9 g (fun e => ?_)⟩,Zf h.hi g (fun e=>hne e),h.hE,h.ne,Zn h.fr h2⟩
 injection e with e
 have h1:=h.ps.box
 rw [<- e,h1] at h9
 injection h9 with h9;injection h9 with _ h9 _;revert h9;decide
theorem Yhq (w0 ww w:World) (p m k gF cF b o b9 bi cc:Nat) (line:Int) (c:CS) (x:Option Int) (n:Nat) (kd:Int) (q0:Pc) (vd vL vB:Value) (bm:Nat) (cv:List Value) (lb:List Nat) (vc:Value) (h0:kd=0)
 (h:Zev w0 ww w p m k gF cF b o b9 bi c x n kd q0 ([]:List Pc) vd vL vB bm cv lb vc) (hcc:([]:List Pc).length+1<=cc) (hl:([]:List Pc).length<=70000) (hm:m+2<=1000000) (R:Option (CS × Option Int)) (hR:R=some (Zgt c (n,0),x)) (a:Act) (ha:Zzx p b o ([]:List Pc).length cc b9 k gF bi line a) (K:Act->World->Prop) (hK:∀ a w,Code.wp Tryz.prog (Zdv Tryz.f80 8) (bodyPost Tryz.prog Tryz.f80 (Zp w0 ww p (m+2) R)) a w->K a w) :
 Code.wp Tryz.prog (Zjl Tryz.f80 8) (Exit.then K (bodyPost Tryz.prog Tryz.f80 (Zp w0 ww p (m+2) R))) a w:=by
 subst hR
 rw [Zfq ha]
 generalize (fun i=>a.tmps.getD i undef)=t
 clear ha
 have HA:=Hq h
 obtain ⟨nm,tk,gv,h9⟩:=h.h9
 have e9:w.cell? ⟨b9,1,none⟩=some (.int .i64 kd):=Cq _ _ 1 _ _ _ h9
 have l9:=(Gs h9)
 have li:=(Gs h.hi)
 have hci:((([]:List Pc).length:Int)+1)<=cc:=by omega
 clear h9 h
 unfold imF
 generalize t 3=u,t 4=u,t 5=u,t 6=u,t 7=u,t 8=u,t 10=u,t 14=u,t 15=u,t 16=u,t 17=u,t 18=u,t 19=u,t 20=u,t 21=u,t 22=u,t 23=u,t 24=u,t 25=u,t 26=u,t 27=u,t 28=u,t 29=u,t 30=u,t 31=u,t 32=u,t 33=u,t 34=u,t 35=u,t 36=u,t 37=u,t 38=u,t 39=u,t 40=u,t 41=u,t 42=u,t 43=u,t 44=u,t 45=u,t 46=u,t 47=u,t 48=u,t 49=u,t 50=u,t 51=u,t 52=u,t 53=u,t 54=u,t 55=u,t 56=u,t 57=u,t 58=u,t 59=u,t 60=u,t 61=u,t 62=u,t 63=u,t 64=u,t 65=u,t 66=u,t 67=u,t 68=u,t 69=u,t 70=u,t 71=u,t 72=u,t 73=u,t 74=u,t 75=u,t 76=u,t 77=u,t 78=u,t 79=u,t 80=u,t 81=u,t 82=u,t 83=u,t 84=u,t 85=u,t 86=u,t 87=u,t 88=u,t 89=u,t 90=u,t 91=u,t 92=u,t 93=u,t 94=u,t 95=u,t 96=u,t 97=u,t 98=u,t 99=u,t 100=u,t 101=u,t 102=u,t 103=u,t 104=u,t 105=u,t 106=u,t 107=u,t 108=u,t 109=u,t 110=u,t 111=u,t 112=u,t 113=u,t 114=u,t 115=u,t 116=u,t 117=u,t 118=u,t 119=u,t 120=u,t 121=u,t 122=u,t 123=u,t 124=u,t 125=u,t 126=u,t 127=u,t 128=u,t 129=u,t 130=u,t 131=u,t 132=u,t 133=u,t 134=u,t 135=u,t 136=u,t 137=u,t 138=u,t 139=u,t 140=u,t 141=u,t 142=u,t 143=u,t 144=u,t 145=u,t 146=u,t 147=u,t 148=u,t 149=u,t 150=u,t 151=u,t 152=u,t 153=u,t 154=u,t 155=u,t 156=u,t 157=u
 clear t
 conv=>arg 2;whnf
 subst h0
 by_cases hc1:cc=1
 all_goals
  go_wp2
  try clear K
  conv=>arg 2;whnf
  go_upto_region 28 with fail
  rename_i K28 hK28
  exact Znk w0 ww w p (m+1) k gF cF bi c x n 0 vd vL vB bm cv lb vc (Zgu HA.out.ps (by omega)) HA.out.hk HA.out.hv HA.out.hi (HA.out.ne _ _ HA.out.hv) HA.out.fr hm _ rfl _ ⟨rfl,rfl,rfl,rfl⟩ _ hK28
theorem Zrb (w0 ww w:World) (p m k gF cF b o b9 bi cc:Nat) (line:Int) (c:CS) (x:Option Int) (n:Nat) (kd:Int) (q0:Pc) (vd vL vB:Value) (bm:Nat) (cv:List Value) (lb:List Nat) (vc:Value) (r:Pc) (rs:List Pc) (h0:kd=0)
 (h:Zev w0 ww w p m k gF cF b o b9 bi c x n kd q0 (r::rs) vd vL vB bm cv lb vc) (hcc:(r::rs).length+1<=cc) (hl:(r::rs).length<=70000) (hm:m+2<=1000000) (R:Option (CS × Option Int)) (hR:R=none) (a:Act) (ha:Zzx p b o (r::rs).length cc b9 k gF bi line a) (K:Act->World->Prop) (hK:∀ a w,Code.wp Tryz.prog (Zdv Tryz.f80 8) (bodyPost Tryz.prog Tryz.f80 (Zp w0 ww p (m+2) R)) a w->K a w) :
 Code.wp Tryz.prog (Zjl Tryz.f80 8) (Exit.then K (bodyPost Tryz.prog Tryz.f80 (Zp w0 ww p (m+2) R))) a w:=by
 subst hR
 rw [Zfq ha]
 generalize (fun i=>a.tmps.getD i undef)=t
 clear ha
 have HA:=Hq h
 obtain ⟨nm,tk,gv,h9⟩:=h.h9
 have e9:w.cell? ⟨b9,1,none⟩=some (.int .i64 kd):=Cq _ _ 1 _ _ _ h9
 have l9:=(Gs h9)
 have li:=(Gs h.hi)
 have hci:(((r::rs).length:Int)+1)<=cc:=by omega
 clear h9 h
 unfold imF
 generalize t 3=u,t 4=u,t 5=u,t 6=u,t 7=u,t 8=u,t 10=u,t 14=u,t 15=u,t 16=u,t 17=u,t 18=u,t 19=u,t 20=u,t 21=u,t 22=u,t 23=u,t 24=u,t 25=u,t 26=u,t 27=u,t 28=u,t 29=u,t 30=u,t 31=u,t 32=u,t 33=u,t 34=u,t 35=u,t 36=u,t 37=u,t 38=u,t 39=u,t 40=u,t 41=u,t 42=u,t 43=u,t 44=u,t 45=u,t 46=u,t 47=u,t 48=u,t 49=u,t 50=u,t 51=u,t 52=u,t 53=u,t 54=u,t 55=u,t 56=u,t 57=u,t 58=u,t 59=u,t 60=u,t 61=u,t 62=u,t 63=u,t 64=u,t 65=u,t 66=u,t 67=u,t 68=u,t 69=u,t 70=u,t 71=u,t 72=u,t 73=u,t 74=u,t 75=u,t 76=u,t 77=u,t 78=u,t 79=u,t 80=u,t 81=u,t 82=u,t 83=u,t 84=u,t 85=u,t 86=u,t 87=u,t 88=u,t 89=u,t 90=u,t 91=u,t 92=u,t 93=u,t 94=u,t 95=u,t 96=u,t 97=u,t 98=u,t 99=u,t 100=u,t 101=u,t 102=u,t 103=u,t 104=u,t 105=u,t 106=u,t 107=u,t 108=u,t 109=u,t 110=u,t 111=u,t 112=u,t 113=u,t 114=u,t 115=u,t 116=u,t 117=u,t 118=u,t 119=u,t 120=u,t 121=u,t 122=u,t 123=u,t 124=u,t 125=u,t 126=u,t 127=u,t 128=u,t 129=u,t 130=u,t 131=u,t 132=u,t 133=u,t 134=u,t 135=u,t 136=u,t 137=u,t 138=u,t 139=u,t 140=u,t 141=u,t 142=u,t 143=u,t 144=u,t 145=u,t 146=u,t 147=u,t 148=u,t 149=u,t 150=u,t 151=u,t 152=u,t 153=u,t 154=u,t 155=u,t 156=u,t 157=u
 clear t
 conv=>arg 2;whnf
 subst h0
 have hc1:¬ cc=1:=by simp at hcc;omega
 simp only [List.length_cons] at hcc hci hl
 go_wp2
 try clear K
 conv=>arg 2;whnf
 go_wp2
 go_ret
 exact ⟨rfl,HA.out.fr,HA.out.ps.gr⟩
theorem Yhr (w0 ww w:World) (p m k gF cF b o b9 bi cc:Nat) (line:Int) (c:CS) (x:Option Int) (n:Nat) (kd:Int) (q0:Pc) (vd vL vB:Value) (bm:Nat) (cv:List Value) (lb:List Nat) (vc:Value) (rest:List Pc) (h0:kd≠0) (h1:rest.length≠1)
 (h:Zev w0 ww w p m k gF cF b o b9 bi c x n kd q0 rest vd vL vB bm cv lb vc) (hcc:rest.length+1<=cc) (hl:rest.length<=70000) (hm:m+2<=1000000) (R:Option (CS × Option Int)) (hR:R=none) (a:Act) (ha:Zzx p b o rest.length cc b9 k gF bi line a) (K:Act->World->Prop) (hK:∀ a w,Code.wp Tryz.prog (Zdv Tryz.f80 8) (bodyPost Tryz.prog Tryz.f80 (Zp w0 ww p (m+2) R)) a w->K a w) :
 Code.wp Tryz.prog (Zjl Tryz.f80 8) (Exit.then K (bodyPost Tryz.prog Tryz.f80 (Zp w0 ww p (m+2) R))) a w:=by
 subst hR
 rw [Zfq ha]
 generalize (fun i=>a.tmps.getD i undef)=t
 clear ha
 have HA:=Hq h
 obtain ⟨nm,tk,gv,h9⟩:=h.h9
 have e9:w.cell? ⟨b9,1,none⟩=some (.int .i64 kd):=Cq _ _ 1 _ _ _ h9
 have l9:=(Gs h9)
 have li:=(Gs h.hi)
 have hci:((rest.length:Int)+1)<=cc:=by omega
 clear h9 h
 unfold imF
 generalize t 3=u,t 4=u,t 5=u,t 6=u,t 7=u,t 8=u,t 10=u,t 14=u,t 15=u,t 16=u,t 17=u,t 18=u,t 19=u,t 20=u,t 21=u,t 22=u,t 23=u,t 24=u,t 25=u,t 26=u,t 27=u,t 28=u,t 29=u,t 30=u,t 31=u,t 32=u,t 33=u,t 34=u,t 35=u,t 36=u,t 37=u,t 38=u,t 39=u,t 40=u,t 41=u,t 42=u,t 43=u,t 44=u,t 45=u,t 46=u,t 47=u,t 48=u,t 49=u,t 50=u,t 51=u,t 52=u,t 53=u,t 54=u,t 55=u,t 56=u,t 57=u,t 58=u,t 59=u,t 60=u,t 61=u,t 62=u,t 63=u,t 64=u,t 65=u,t 66=u,t 67=u,t 68=u,t 69=u,t 70=u,t 71=u,t 72=u,t 73=u,t 74=u,t 75=u,t 76=u,t 77=u,t 78=u,t 79=u,t 80=u,t 81=u,t 82=u,t 83=u,t 84=u,t 85=u,t 86=u,t 87=u,t 88=u,t 89=u,t 90=u,t 91=u,t 92=u,t 93=u,t 94=u,t 95=u,t 96=u,t 97=u,t 98=u,t 99=u,t 100=u,t 101=u,t 102=u,t 103=u,t 104=u,t 105=u,t 106=u,t 107=u,t 108=u,t 109=u,t 110=u,t 111=u,t 112=u,t 113=u,t 114=u,t 115=u,t 116=u,t 117=u,t 118=u,t 119=u,t 120=u,t 121=u,t 122=u,t 123=u,t 124=u,t 125=u,t 126=u,t 127=u,t 128=u,t 129=u,t 130=u,t 131=u,t 132=u,t 133=u,t 134=u,t 135=u,t 136=u,t 137=u,t 138=u,t 139=u,t 140=u,t 141=u,t 142=u,t 143=u,t 144=u,t 145=u,t 146=u,t 147=u,t 148=u,t 149=u,t 150=u,t 151=u,t 152=u,t 153=u,t 154=u,t 155=u,t 156=u,t 157=u
 clear t
 conv=>arg 2;whnf
 have b0:(kd == 0)=false:=beq_eq_false_iff_ne.2 h0
 have b1:((rest.length:Int) != 1)=true:=by rw [bne_iff_ne];omega
 by_cases hc1:cc=1
 all_goals
  go_wp2
  try clear K
  conv=>arg 2;whnf
  go_wp2
  go_ret
  exact ⟨rfl,HA.out.fr,HA.out.ps.gr⟩
theorem Yhs (w0 ww w:World) (p m k gF cF b o b9 bi cc:Nat) (line:Int) (c:CS) (x:Option Int) (n:Nat) (kd:Int) (q0:Pc) (vd vL vB:Value) (bm:Nat) (cv:List Value) (lb:List Nat) (vc:Value) (q:Pc) (h0:kd≠0) (h1:pcK q≠1) (h2:pcK q≠0)
 (h:Zev w0 ww w p m k gF cF b o b9 bi c x n kd q0 [q] vd vL vB bm cv lb vc) (hcc:[q].length+1<=cc) (hl:[q].length<=70000) (hm:m+2<=1000000) (R:Option (CS × Option Int)) (hR:R=none) (a:Act) (ha:Zzx p b o [q].length cc b9 k gF bi line a) (K:Act->World->Prop) (hK:∀ a w,Code.wp Tryz.prog (Zdv Tryz.f80 8) (bodyPost Tryz.prog Tryz.f80 (Zp w0 ww p (m+2) R)) a w->K a w) :
 Code.wp Tryz.prog (Zjl Tryz.f80 8) (Exit.then K (bodyPost Tryz.prog Tryz.f80 (Zp w0 ww p (m+2) R))) a w:=by
 subst hR
 rw [Zfq ha]
 generalize (fun i=>a.tmps.getD i undef)=t
 clear ha
 have HA:=Hq h
 obtain ⟨nm,tk,gv,h9⟩:=h.h9
 have e9:w.cell? ⟨b9,1,none⟩=some (.int .i64 kd):=Cq _ _ 1 _ _ _ h9
 have l9:=(Gs h9)
 have li:=(Gs h.hi)
 have hci:(([q].length:Int)+1)<=cc:=by omega
 clear h9 h
 unfold imF
 generalize t 3=u,t 4=u,t 5=u,t 6=u,t 7=u,t 8=u,t 10=u,t 14=u,t 15=u,t 16=u,t 17=u,t 18=u,t 19=u,t 20=u,t 21=u,t 22=u,t 23=u,t 24=u,t 25=u,t 26=u,t 27=u,t 28=u,t 29=u,t 30=u,t 31=u,t 32=u,t 33=u,t 34=u,t 35=u,t 36=u,t 37=u,t 38=u,t 39=u,t 40=u,t 41=u,t 42=u,t 43=u,t 44=u,t 45=u,t 46=u,t 47=u,t 48=u,t 49=u,t 50=u,t 51=u,t 52=u,t 53=u,t 54=u,t 55=u,t 56=u,t 57=u,t 58=u,t 59=u,t 60=u,t 61=u,t 62=u,t 63=u,t 64=u,t 65=u,t 66=u,t 67=u,t 68=u,t 69=u,t 70=u,t 71=u,t 72=u,t 73=u,t 74=u,t 75=u,t 76=u,t 77=u,t 78=u,t 79=u,t 80=u,t 81=u,t 82=u,t 83=u,t 84=u,t 85=u,t 86=u,t 87=u,t 88=u,t 89=u,t 90=u,t 91=u,t 92=u,t 93=u,t 94=u,t 95=u,t 96=u,t 97=u,t 98=u,t 99=u,t 100=u,t 101=u,t 102=u,t 103=u,t 104=u,t 105=u,t 106=u,t 107=u,t 108=u,t 109=u,t 110=u,t 111=u,t 112=u,t 113=u,t 114=u,t 115=u,t 116=u,t 117=u,t 118=u,t 119=u,t 120=u,t 121=u,t 122=u,t 123=u,t 124=u,t 125=u,t 126=u,t 127=u,t 128=u,t 129=u,t 130=u,t 131=u,t 132=u,t 133=u,t 134=u,t 135=u,t 136=u,t 137=u,t 138=u,t 139=u,t 140=u,t 141=u,t 142=u,t 143=u,t 144=u,t 145=u,t 146=u,t 147=u,t 148=u,t 149=u,t 150=u,t 151=u,t 152=u,t 153=u,t 154=u,t 155=u,t 156=u,t 157=u
 clear t
 conv=>arg 2;whnf
 have b0:(kd == 0)=false:=beq_eq_false_iff_ne.2 h0
 have b1:(pcK q == 1)=false:=beq_eq_false_iff_ne.2 h1
 have b2:(pcK q != 0)=true:=by rw [bne_iff_ne];exact h2
 obtain ⟨b',o',e,hb2,x0,x1,x2,x3⟩:=Xb HA.out.hp (i:=1) (q:=q) rfl
 injection e with e;injection e with e1 e2
 subst e1;subst e2
 simp only [Nat.one_mul] at x0 x1 x2 x3
 have hc1:¬ cc=1:=by simp at hcc;omega
 simp only [List.length_cons,List.length_nil] at hcc hci hl
 go_wp2
 try clear K
 conv=>arg 2;whnf
 go_wp2
 go_ret
 exact ⟨rfl,HA.out.fr,HA.out.ps.gr⟩
theorem Yly (w0 ww w:World) (p m k gF cF b o b9 bi cc:Nat) (line:Int) (c:CS) (x:Option Int) (n:Nat) (kd:Int) (q0:Pc) (vd vL vB:Value) (bm:Nat) (cv:List Value) (lb:List Nat) (vc:Value) (v:Int) (h0:kd≠0)
 (h:Zev w0 ww w p m k gF cF b o b9 bi c x n kd q0 [Pc.num v false] vd vL vB bm cv lb vc) (hcc:[Pc.num v false].length+1<=cc) (hl:[Pc.num v false].length<=70000) (hm:m+2<=1000000) (R:Option (CS × Option Int)) (hR:R=some (Zgt c (n,v),x)) (a:Act) (ha:Zzx p b o [Pc.num v false].length cc b9 k gF bi line a) (K:Act->World->Prop) (hK:∀ a w,Code.wp Tryz.prog (Zdv Tryz.f80 8) (bodyPost Tryz.prog Tryz.f80 (Zp w0 ww p (m+2) R)) a w->K a w) :
 Code.wp Tryz.prog (Zjl Tryz.f80 8) (Exit.then K (bodyPost Tryz.prog Tryz.f80 (Zp w0 ww p (m+2) R))) a w:=by
 subst hR
 rw [Zfq ha]
 generalize (fun i=>a.tmps.getD i undef)=t
 clear ha
 have HA:=Hq h
 obtain ⟨nm,tk,gv,h9⟩:=h.h9
 have e9:w.cell? ⟨b9,1,none⟩=some (.int .i64 kd):=Cq _ _ 1 _ _ _ h9
 have l9:=(Gs h9)
 have li:=(Gs h.hi)
 have hci:(([Pc.num v false].length:Int)+1)<=cc:=by omega
 clear h9 h
 unfold imF
 generalize t 3=u,t 4=u,t 5=u,t 6=u,t 7=u,t 8=u,t 10=u,t 14=u,t 15=u,t 16=u,t 17=u,t 18=u,t 19=u,t 20=u,t 21=u,t 22=u,t 23=u,t 24=u,t 25=u,t 26=u,t 27=u,t 28=u,t 29=u,t 30=u,t 31=u,t 32=u,t 33=u,t 34=u,t 35=u,t 36=u,t 37=u,t 38=u,t 39=u,t 40=u,t 41=u,t 42=u,t 43=u,t 44=u,t 45=u,t 46=u,t 47=u,t 48=u,t 49=u,t 50=u,t 51=u,t 52=u,t 53=u,t 54=u,t 55=u,t 56=u,t 57=u,t 58=u,t 59=u,t 60=u,t 61=u,t 62=u,t 63=u,t 64=u,t 65=u,t 66=u,t 67=u,t 68=u,t 69=u,t 70=u,t 71=u,t 72=u,t 73=u,t 74=u,t 75=u,t 76=u,t 77=u,t 78=u,t 79=u,t 80=u,t 81=u,t 82=u,t 83=u,t 84=u,t 85=u,t 86=u,t 87=u,t 88=u,t 89=u,t 90=u,t 91=u,t 92=u,t 93=u,t 94=u,t 95=u,t 96=u,t 97=u,t 98=u,t 99=u,t 100=u,t 101=u,t 102=u,t 103=u,t 104=u,t 105=u,t 106=u,t 107=u,t 108=u,t 109=u,t 110=u,t 111=u,t 112=u,t 113=u,t 114=u,t 115=u,t 116=u,t 117=u,t 118=u,t 119=u,t 120=u,t 121=u,t 122=u,t 123=u,t 124=u,t 125=u,t 126=u,t 127=u,t 128=u,t 129=u,t 130=u,t 131=u,t 132=u,t 133=u,t 134=u,t 135=u,t 136=u,t 137=u,t 138=u,t 139=u,t 140=u,t 141=u,t 142=u,t 143=u,t 144=u,t 145=u,t 146=u,t 147=u,t 148=u,t 149=u,t 150=u,t 151=u,t 152=u,t 153=u,t 154=u,t 155=u,t 156=u,t 157=u
 clear t
 conv=>arg 2;whnf
 have b0:(kd == 0)=false:=beq_eq_false_iff_ne.2 h0
 obtain ⟨b',o',e,hb2,x0,x1,x2,x3⟩:=Xb HA.out.hp (i:=1) (q := .num v false) rfl
 injection e with e;injection e with e1 e2
 subst e1;subst e2
 simp only [Nat.one_mul,pcK,pcT,pcN,pcF] at x0 x1 x2 x3
 have hc1:¬ cc=1:=by simp at hcc;omega
 simp only [List.length_cons,List.length_nil] at hcc hci hl
 have y1:=Cq _ _ 1 _ _ _ HA.out.hi
 have z1:=frozen_of_row _ _ 1 _ _ HA.out.hi
 have ST:=Hq (Zle HA.out v)
 go_wp2
 try clear K
 conv=>arg 2;whnf
 go_upto_region 28 with fail
 rename_i K28 hK28
 exact Znk w0 ww _ p (m+1) k gF cF bi c x n v vd vL vB bm cv lb vc (Zgu ST.out.1 (by omega)) HA.out.hk HA.out.hv ST.out.2.1 (HA.out.ne _ _ HA.out.hv) ST.out.2.2 hm _ rfl _ ⟨rfl,rfl,rfl,rfl⟩ _ hK28
theorem Yma (w0 ww w:World) (p m k gF cF b o b9 bi cc:Nat) (line:Int) (c:CS) (x:Option Int) (n:Nat) (kd:Int) (q0:Pc) (vd vL vB:Value) (bm:Nat) (cv:List Value) (lb:List Nat) (vc:Value) (v:Int) (h0:kd≠0)
 (h:Zev w0 ww w p m k gF cF b o b9 bi c x n kd q0 [Pc.num v true] vd vL vB bm cv lb vc) (hcc:[Pc.num v true].length+1<=cc) (hl:[Pc.num v true].length<=70000) (hm:m+2<=1000000) (R:Option (CS × Option Int)) (hR:R=some (Zgt c (n,v),amV x 143)) (a:Act) (ha:Zzx p b o [Pc.num v true].length cc b9 k gF bi line a) (K:Act->World->Prop) (hK:∀ a w,Code.wp Tryz.prog (Zdv Tryz.f80 8) (bodyPost Tryz.prog Tryz.f80 (Zp w0 ww p (m+2) R)) a w->K a w) :
 Code.wp Tryz.prog (Zjl Tryz.f80 8) (Exit.then K (bodyPost Tryz.prog Tryz.f80 (Zp w0 ww p (m+2) R))) a w:=by
 subst hR
 rw [Zfq ha]
 generalize (fun i=>a.tmps.getD i undef)=t
 clear ha
 have HA:=Hq h
 obtain ⟨nm,tk,gv,h9⟩:=h.h9
 have e9:w.cell? ⟨b9,1,none⟩=some (.int .i64 kd):=Cq _ _ 1 _ _ _ h9
 have l9:=(Gs h9)
 have li:=(Gs h.hi)
 have hci:(([Pc.num v true].length:Int)+1)<=cc:=by omega
 clear h9 h
 unfold imF
 generalize t 3=u,t 4=u,t 5=u,t 6=u,t 7=u,t 8=u,t 10=u,t 14=u,t 15=u,t 16=u,t 17=u,t 18=u,t 19=u,t 20=u,t 21=u,t 22=u,t 23=u,t 24=u,t 25=u,t 26=u,t 27=u,t 28=u,t 29=u,t 30=u,t 31=u,t 32=u,t 33=u,t 34=u,t 35=u,t 36=u,t 37=u,t 38=u,t 39=u,t 40=u,t 41=u,t 42=u,t 43=u,t 44=u,t 45=u,t 46=u,t 47=u,t 48=u,t 49=u,t 50=u,t 51=u,t 52=u,t 53=u,t 54=u,t 55=u,t 56=u,t 57=u,t 58=u,t 59=u,t 60=u,t 61=u,t 62=u,t 63=u,t 64=u,t 65=u,t 66=u,t 67=u,t 68=u,t 69=u,t 70=u,t 71=u,t 72=u,t 73=u,t 74=u,t 75=u,t 76=u,t 77=u,t 78=u,t 79=u,t 80=u,t 81=u,t 82=u,t 83=u,t 84=u,t 85=u,t 86=u,t 87=u,t 88=u,t 89=u,t 90=u,t 91=u,t 92=u,t 93=u,t 94=u,t 95=u,t 96=u,t 97=u,t 98=u,t 99=u,t 100=u,t 101=u,t 102=u,t 103=u,t 104=u,t 105=u,t 106=u,t 107=u,t 108=u,t 109=u,t 110=u,t 111=u,t 112=u,t 113=u,t 114=u,t 115=u,t 116=u,t 117=u,t 118=u,t 119=u,t 120=u,t 121=u,t 122=u,t 123=u,t 124=u,t 125=u,t 126=u,t 127=u,t 128=u,t 129=u,t 130=u,t 131=u,t 132=u,t 133=u,t 134=u,t 135=u,t 136=u,t 137=u,t 138=u,t 139=u,t 140=u,t 141=u,t 142=u,t 143=u,t 144=u,t 145=u,t 146=u,t 147=u,t 148=u,t 149=u,t 150=u,t 151=u,t 152=u,t 153=u,t 154=u,t 155=u,t 156=u,t 157=u
 clear t
 conv=>arg 2;whnf
 have b0:(kd == 0)=false:=beq_eq_false_iff_ne.2 h0
 obtain ⟨b',o',e,hb2,x0,x1,x2,x3⟩:=Xb HA.out.hp (i:=1) (q := .num v true) rfl
 injection e with e;injection e with e1 e2
 subst e1;subst e2
 simp only [Nat.one_mul,pcK,pcT,pcN,pcF] at x0 x1 x2 x3
 have hc1:¬ cc=1:=by simp at hcc;omega
 simp only [List.length_cons,List.length_nil] at hcc hci hl
 have AM:=Hq (Yit w0 w p m c x 143 vd _ vL vB bm cv lb HA.out.ps)
 have HPI:some p≠some bi:=fun e=>by injection e with e;have h1:=HA.out.ps.box;have h2:=HA.out.hi;rw [<- e,h1] at h2;injection h2 with h2;injection h2 with _ h2 _;revert h2;decide
 go_wp2
 try clear K
 conv=>arg 2;whnf
 go_upto_region 28 with (go_at_call 112;refine AM.out.mono ?_;rintro e w2 ⟨rfl,hps,hg⟩;have IA:=Hq (Yhu HA.out hps hg HPI);clear hps hg;obtain ⟨b',o',e,hb2,x0,x1,x2,x3⟩:=Xb IA.out.hp (i:=1) (q := .num v true) rfl;injection e with e;injection e with e1 e2;subst e1;subst e2;simp only [Nat.one_mul,pcK,pcT,pcN,pcF] at x0 x1 x2 x3;have y1:=Cq _ _ 1 _ _ _ IA.out.hi;have z1:=frozen_of_row _ _ 1 _ _ IA.out.hi;have li2:=(Gs IA.out.hi);have ST:=Hq (Zle IA.out v))
 rename_i K28 hK28
 exact Znk w0 ww _ p (m+1) k gF cF bi c (amV x 143) n v vd vL vB bm cv lb vc (Zgu ST.out.1 (by omega)) HA.out.hk HA.out.hv ST.out.2.1 (HA.out.ne _ _ HA.out.hv) ST.out.2.2 hm _ rfl _ ⟨rfl,rfl,rfl,rfl⟩ _ hK28
theorem Yhp (w0 ww w:World) (p m k gF cF b o b9 bi cc:Nat) (line:Int) (c:CS) (x:Option Int) (n:Nat) (kd:Int) (q0:Pc) (vd vL vB:Value) (bm:Nat) (cv:List Value) (lb:List Nat) (vc:Value) (s:Txt) (h0:kd≠0) (h3:kd≠3) (h4:kd≠4) (h5:kd≠5)
 (h:Zev w0 ww w p m k gF cF b o b9 bi c x n kd q0 [Pc.word s] vd vL vB bm cv lb vc) (hcc:[Pc.word s].length+1<=cc) (hl:[Pc.word s].length<=70000) (hm:m+2<=1000000) (R:Option (CS × Option Int)) (hR:R=none) (a:Act) (ha:Zzx p b o [Pc.word s].length cc b9 k gF bi line a) (K:Act->World->Prop) (hK:∀ a w,Code.wp Tryz.prog (Zdv Tryz.f80 8) (bodyPost Tryz.prog Tryz.f80 (Zp w0 ww p (m+2) R)) a w->K a w) :
 Code.wp Tryz.prog (Zjl Tryz.f80 8) (Exit.then K (bodyPost Tryz.prog Tryz.f80 (Zp w0 ww p (m+2) R))) a w:=by
 subst hR
 rw [Zfq ha]
 generalize (fun i=>a.tmps.getD i undef)=t
 clear ha
 have HA:=Hq h
 obtain ⟨nm,tk,gv,h9⟩:=h.h9
 have e9:w.cell? ⟨b9,1,none⟩=some (.int .i64 kd):=Cq _ _ 1 _ _ _ h9
 have l9:=(Gs h9)
 have li:=(Gs h.hi)
 have hci:(([Pc.word s].length:Int)+1)<=cc:=by omega
 clear h9 h
 unfold imF
 generalize t 3=u,t 4=u,t 5=u,t 6=u,t 7=u,t 8=u,t 10=u,t 14=u,t 15=u,t 16=u,t 17=u,t 18=u,t 19=u,t 20=u,t 21=u,t 22=u,t 23=u,t 24=u,t 25=u,t 26=u,t 27=u,t 28=u,t 29=u,t 30=u,t 31=u,t 32=u,t 33=u,t 34=u,t 35=u,t 36=u,t 37=u,t 38=u,t 39=u,t 40=u,t 41=u,t 42=u,t 43=u,t 44=u,t 45=u,t 46=u,t 47=u,t 48=u,t 49=u,t 50=u,t 51=u,t 52=u,t 53=u,t 54=u,t 55=u,t 56=u,t 57=u,t 58=u,t 59=u,t 60=u,t 61=u,t 62=u,t 63=u,t 64=u,t 65=u,t 66=u,t 67=u,t 68=u,t 69=u,t 70=u,t 71=u,t 72=u,t 73=u,t 74=u,t 75=u,t 76=u,t 77=u,t 78=u,t 79=u,t 80=u,t 81=u,t 82=u,t 83=u,t 84=u,t 85=u,t 86=u,t 87=u,t 88=u,t 89=u,t 90=u,t 91=u,t 92=u,t 93=u,t 94=u,t 95=u,t 96=u,t 97=u,t 98=u,t 99=u,t 100=u,t 101=u,t 102=u,t 103=u,t 104=u,t 105=u,t 106=u,t 107=u,t 108=u,t 109=u,t 110=u,t 111=u,t 112=u,t 113=u,t 114=u,t 115=u,t 116=u,t 117=u,t 118=u,t 119=u,t 120=u,t 121=u,t 122=u,t 123=u,t 124=u,t 125=u,t 126=u,t 127=u,t 128=u,t 129=u,t 130=u,t 131=u,t 132=u,t 133=u,t 134=u,t 135=u,t 136=u,t 137=u,t 138=u,t 139=u,t 140=u,t 141=u,t 142=u,t 143=u,t 144=u,t 145=u,t 146=u,t 147=u,t 148=u,t 149=u,t 150=u,t 151=u,t 152=u,t 153=u,t 154=u,t 155=u,t 156=u,t 157=u
 clear t
 conv=>arg 2;whnf
 have b0:(kd == 0)=false:=beq_eq_false_iff_ne.2 h0
 have b3:(kd == 3)=false:=beq_eq_false_iff_ne.2 h3
 have b4:(kd == 4)=false:=beq_eq_false_iff_ne.2 h4
 have b5:(kd == 5)=false:=beq_eq_false_iff_ne.2 h5
 obtain ⟨b',o',e,hb2,x0,x1,x2,x3⟩:=Xb HA.out.hp (i:=1) (q := .word s) rfl
 injection e with e;injection e with e1 e2
 subst e1;subst e2
 simp only [Nat.one_mul,pcK,pcT,pcN,pcF] at x0 x1 x2 x3
 have hc1:¬ cc=1:=by simp at hcc;omega
 simp only [List.length_cons,List.length_nil] at hcc hci hl
 go_wp2
 try clear K
 conv=>arg 2;whnf
 go_wp2
 go_ret
 exact ⟨rfl,HA.out.fr,HA.out.ps.gr⟩
theorem Ylx (w0 ww w:World) (p m k gF cF b o b9 bi cc:Nat) (line:Int) (c:CS) (x:Option Int) (n:Nat) (kd:Int) (q0:Pc) (vd vL vB:Value) (bm:Nat) (cv:List Value) (lb:List Nat) (vc:Value) (s:Txt) (j:Nat) (h0:kd=5) (hj:Xi callT s=some j)
 (h:Zev w0 ww w p m k gF cF b o b9 bi c x n kd q0 [Pc.word s] vd vL vB bm cv lb vc) (hcc:[Pc.word s].length+1<=cc) (hl:[Pc.word s].length<=70000) (hm:m+2<=1000000) (R:Option (CS × Option Int)) (hR:R=some (Zgt c (n,(j:Int)),x)) (a:Act) (ha:Zzx p b o [Pc.word s].length cc b9 k gF bi line a) (K:Act->World->Prop) (hK:∀ a w,Code.wp Tryz.prog (Zdv Tryz.f80 8) (bodyPost Tryz.prog Tryz.f80 (Zp w0 ww p (m+2) R)) a w->K a w) :
 Code.wp Tryz.prog (Zjl Tryz.f80 8) (Exit.then K (bodyPost Tryz.prog Tryz.f80 (Zp w0 ww p (m+2) R))) a w:=by
 subst hR
 rw [Zfq ha]
 generalize (fun i=>a.tmps.getD i undef)=t
 clear ha
 have HA:=Hq h
 obtain ⟨nm,tk,gv,h9⟩:=h.h9
 have e9:w.cell? ⟨b9,1,none⟩=some (.int .i64 kd):=Cq _ _ 1 _ _ _ h9
 have l9:=(Gs h9)
 have li:=(Gs h.hi)
 have hci:(([Pc.word s].length:Int)+1)<=cc:=by omega
 clear h9 h
 unfold imF
 generalize t 3=u,t 4=u,t 5=u,t 6=u,t 7=u,t 8=u,t 10=u,t 14=u,t 15=u,t 16=u,t 17=u,t 18=u,t 19=u,t 20=u,t 21=u,t 22=u,t 23=u,t 24=u,t 25=u,t 26=u,t 27=u,t 28=u,t 29=u,t 30=u,t 31=u,t 32=u,t 33=u,t 34=u,t 35=u,t 36=u,t 37=u,t 38=u,t 39=u,t 40=u,t 41=u,t 42=u,t 43=u,t 44=u,t 45=u,t 46=u,t 47=u,t 48=u,t 49=u,t 50=u,t 51=u,t 52=u,t 53=u,t 54=u,t 55=u,t 56=u,t 57=u,t 58=u,t 59=u,t 60=u,t 61=u,t 62=u,t 63=u,t 64=u,t 65=u,t 66=u,t 67=u,t 68=u,t 69=u,t 70=u,t 71=u,t 72=u,t 73=u,t 74=u,t 75=u,t 76=u,t 77=u,t 78=u,t 79=u,t 80=u,t 81=u,t 82=u,t 83=u,t 84=u,t 85=u,t 86=u,t 87=u,t 88=u,t 89=u,t 90=u,t 91=u,t 92=u,t 93=u,t 94=u,t 95=u,t 96=u,t 97=u,t 98=u,t 99=u,t 100=u,t 101=u,t 102=u,t 103=u,t 104=u,t 105=u,t 106=u,t 107=u,t 108=u,t 109=u,t 110=u,t 111=u,t 112=u,t 113=u,t 114=u,t 115=u,t 116=u,t 117=u,t 118=u,t 119=u,t 120=u,t 121=u,t 122=u,t 123=u,t 124=u,t 125=u,t 126=u,t 127=u,t 128=u,t 129=u,t 130=u,t 131=u,t 132=u,t 133=u,t 134=u,t 135=u,t 136=u,t 137=u,t 138=u,t 139=u,t 140=u,t 141=u,t 142=u,t 143=u,t 144=u,t 145=u,t 146=u,t 147=u,t 148=u,t 149=u,t 150=u,t 151=u,t 152=u,t 153=u,t 154=u,t 155=u,t 156=u,t 157=u
 clear t
 conv=>arg 2;whnf
 subst h0
 obtain ⟨b',o',e,hb2,x0,x1,x2,x3⟩:=Xb HA.out.hp (i:=1) (q := .word s) rfl
 injection e with e;injection e with e1 e2
 subst e1;subst e2
 simp only [Nat.one_mul,pcK,pcT,pcN,pcF] at x0 x1 x2 x3
 have hc1:¬ cc=1:=by simp at hcc;omega
 simp only [List.length_cons,List.length_nil] at hcc hci hl
 have SN0:=Ziy (bs s) w
 rw [Zep,hj] at SN0
 simp only [Zgw] at SN0
 have SN:=Hq SN0
 clear hj SN0
 go_wp2
 try clear K
 conv=>arg 2;whnf
 go_upto_region 28 with (go_at_call 115;refine SN.out.mono ?_;rintro e w2 ⟨rfl,hg⟩;have IA:=Hq (Znl HA.out hg);clear hg;have y1:=Cq _ _ 1 _ _ _ IA.out.hi;have z1:=frozen_of_row _ _ 1 _ _ IA.out.hi;have li2:=(Gs IA.out.hi);have ST:=Hq (Zle IA.out j))
 rename_i K28 hK28
 exact Znk w0 ww _ p (m+1) k gF cF bi c x n j vd vL vB bm cv lb vc (Zgu ST.out.1 (by omega)) HA.out.hk HA.out.hv ST.out.2.1 (HA.out.ne _ _ HA.out.hv) ST.out.2.2 hm _ rfl _ ⟨rfl,rfl,rfl,rfl⟩ _ hK28
theorem Ztz (w0 ww w:World) (p m k gF cF b o b9 bi cc:Nat) (line:Int) (c:CS) (x:Option Int) (n:Nat) (kd:Int) (q0:Pc) (vd vL vB:Value) (bm:Nat) (cv:List Value) (lb:List Nat) (vc:Value) (s:Txt) (h0:kd=5) (hj:Xi callT s=none)
 (h:Zev w0 ww w p m k gF cF b o b9 bi c x n kd q0 [Pc.word s] vd vL vB bm cv lb vc) (hcc:[Pc.word s].length+1<=cc) (hl:[Pc.word s].length<=70000) (hm:m+2<=1000000) (R:Option (CS × Option Int)) (hR:R=none) (a:Act) (ha:Zzx p b o [Pc.word s].length cc b9 k gF bi line a) (K:Act->World->Prop) (hK:∀ a w,Code.wp Tryz.prog (Zdv Tryz.f80 8) (bodyPost Tryz.prog Tryz.f80 (Zp w0 ww p (m+2) R)) a w->K a w) :
 Code.wp Tryz.prog (Zjl Tryz.f80 8) (Exit.then K (bodyPost Tryz.prog Tryz.f80 (Zp w0 ww p (m+2) R))) a w:=by
 subst hR
 rw [Zfq ha]
 generalize (fun i=>a.tmps.getD i undef)=t
 clear ha
 have HA:=Hq h
 obtain ⟨nm,tk,gv,h9⟩:=h.h9
 have e9:w.cell? ⟨b9,1,none⟩=some (.int .i64 kd):=Cq _ _ 1 _ _ _ h9
 have l9:=(Gs h9)
 have li:=(Gs h.hi)
 have hci:(([Pc.word s].length:Int)+1)<=cc:=by omega
 clear h9 h
 unfold imF
 generalize t 3=u,t 4=u,t 5=u,t 6=u,t 7=u,t 8=u,t 10=u,t 14=u,t 15=u,t 16=u,t 17=u,t 18=u,t 19=u,t 20=u,t 21=u,t 22=u,t 23=u,t 24=u,t 25=u,t 26=u,t 27=u,t 28=u,t 29=u,t 30=u,t 31=u,t 32=u,t 33=u,t 34=u,t 35=u,t 36=u,t 37=u,t 38=u,t 39=u,t 40=u,t 41=u,t 42=u,t 43=u,t 44=u,t 45=u,t 46=u,t 47=u,t 48=u,t 49=u,t 50=u,t 51=u,t 52=u,t 53=u,t 54=u,t 55=u,t 56=u,t 57=u,t 58=u,t 59=u,t 60=u,t 61=u,t 62=u,t 63=u,t 64=u,t 65=u,t 66=u,t 67=u,t 68=u,t 69=u,t 70=u,t 71=u,t 72=u,t 73=u,t 74=u,t 75=u,t 76=u,t 77=u,t 78=u,t 79=u,t 80=u,t 81=u,t 82=u,t 83=u,t 84=u,t 85=u,t 86=u,t 87=u,t 88=u,t 89=u,t 90=u,t 91=u,t 92=u,t 93=u,t 94=u,t 95=u,t 96=u,t 97=u,t 98=u,t 99=u,t 100=u,t 101=u,t 102=u,t 103=u,t 104=u,t 105=u,t 106=u,t 107=u,t 108=u,t 109=u,t 110=u,t 111=u,t 112=u,t 113=u,t 114=u,t 115=u,t 116=u,t 117=u,t 118=u,t 119=u,t 120=u,t 121=u,t 122=u,t 123=u,t 124=u,t 125=u,t 126=u,t 127=u,t 128=u,t 129=u,t 130=u,t 131=u,t 132=u,t 133=u,t 134=u,t 135=u,t 136=u,t 137=u,t 138=u,t 139=u,t 140=u,t 141=u,t 142=u,t 143=u,t 144=u,t 145=u,t 146=u,t 147=u,t 148=u,t 149=u,t 150=u,t 151=u,t 152=u,t 153=u,t 154=u,t 155=u,t 156=u,t 157=u
 clear t
 conv=>arg 2;whnf
 subst h0
 obtain ⟨b',o',e,hb2,x0,x1,x2,x3⟩:=Xb HA.out.hp (i:=1) (q := .word s) rfl
 injection e with e;injection e with e1 e2
 subst e1;subst e2
 simp only [Nat.one_mul,pcK,pcT,pcN,pcF] at x0 x1 x2 x3
 have hc1:¬ cc=1:=by simp at hcc;omega
 simp only [List.length_cons,List.length_nil] at hcc hci hl
 have SN0:=Ziy (bs s) w
 rw [Zep,hj] at SN0
 simp only [Zgw] at SN0
 have SN:=Hq SN0
 clear hj SN0
 go_wp2
 try clear K
 conv=>arg 2;whnf
 go_wp2_with (go_at_call 115;refine SN.out.mono ?_;rintro e w2 ⟨rfl,hg⟩;have IA:=Hq (Znl HA.out hg);clear hg)
 go_ret
 exact ⟨rfl,IA.out.fr,IA.out.ps.gr⟩
theorem Ypa (a b c:Int) (t:ByteArray) (f:Bool):∀ u∈[Value.int .i64 a,.int .i64 b,.int .i64 c,.string t,.bool f],u.oneCell'=true:=by
 intro u hu
 simp only [List.mem_cons,List.not_mem_nil,or_false] at hu
 rcases hu with rfl|rfl|rfl|rfl|rfl <;> rfl
theorem Yle {w:World} {E b o:Nat} {t:TypeId} {sz n:Nat} {v:Value} {xs:List Value} {q:Pc} {r:List Pc} (h:Zhr w (some ⟨b,o,none⟩) (q::r)) (ho:w.ownsRow E t sz v n xs) (ht:t≠158):some b≠v.ownBlock:=by
 obtain ⟨b',o',cs,fz,e,hb,_⟩:=h (by simp)
 injection e with e;injection e with e1 e2
 subst e1
 intro e3
 rcases ho.2 with ⟨rfl,_⟩|⟨g0,cap,cur,rfl,_,hg,_⟩
 · cases e3
 · injection e3 with e3
   simp only at e3
   subst e3
   rw [hb] at hg;injection hg with hg;injection hg with _ h2 _
   exact ht h2.symm
theorem Yed {w:World} {E b:Nat} {t t':TypeId} {sz n:Nat} {v:Value} {xs:List Value} {cs:Array Value} (ho:w.ownsRow E t sz v n xs) (hb:w.heap[b]? = some (.cells cs t' (0,0))) (ht:t≠t'):some b≠v.ownBlock:=fun e=>Ye ho hb ht e.symm
def ib:Nat->Nat
 | 0=>107
 | 1=>108
 | 2=>109
 | 3=>110
 | 4=>111
 | 5=>112
 | 6=>113
 | 7=>114
 | 8=>115
 | 9=>116
 | 10=>117
 | 11=>118
 | 12=>119
 | 13=>120
 | 14=>121
 | 15=>122
 | 16=>123
 | 17=>124
 | 18=>125
 | 19=>126
 | 20=>127
 | 21=>128
 | 22=>129
 | 23=>130
 | 24=>1024
 | _=>5000
theorem Yw:∀ i,i<25->∀ j,j<25->j≠i->ib j≠ib i:=by decide
theorem Zme (i:Nat) (h:i<25):i=0\/i=1\/i=2\/i=3\/i=4\/i=5\/i=6\/i=7\/i=8\/i=9\/i=10\/i=11\/i=12\/i=13\/i=14\/i=15\/i=16\/i=17\/i=18\/i=19\/i=20\/i=21\/i=22\/i=23\/i=24:=by omega
theorem Zce (j:Nat) (hj:j∈[0,1,2,9,11,12]):∀ i,i<25->ib i≠j:=by revert j;decide
def ibv (E p k gF b o b9 cc lc c0 nB cB:Nat) (line kd:Int) (pB pc:Option Addr) (tx:ByteArray) (ys:List Value) (q2:Nat) (gB:Nat) (cB9:Nat):Nat->Value
 | 0 => .pointer (some ⟨p,0,none⟩)
 | 1 => .pointer (some ⟨p,0,none⟩)
 | 2 => .pointer (some ⟨p,0,none⟩)
 | 3 => .pointer (some ⟨p,6,none⟩)
 | 4 => .slice pB nB cB
 | 5 => .int .i64 line
 | 6 => .int .i64 (k:Int)
 | 7 => .pointer (some ⟨gF,k*4,none⟩)
 | 8 => .pointer (some ⟨gF,k*4,none⟩)
 | 9 => .pointer (some ⟨gF,k*4+3,none⟩)
 | 10 => .slice pc lc c0
 | 11 => .int .i64 lc
 | 12 => .slice (some ⟨b,o+4,none⟩) 1 (cc - 1)
 | 13 => .pointer (some ⟨b,o+4,none⟩)
 | 14 => .pointer (some ⟨b,o+4+1,none⟩)
 | 15 => .string tx
 | 16 => .pointer (some ⟨b9,1,none⟩)
 | 17 => .int .i64 kd
 | 18 => .bool (kd == 4)
 | 19 => .agg #[.int .i64 line,.int .i64 (k:Int),.int .i64 (lc:Int),.string tx,.bool (kd == 4)]
 | 20 => .slice (some ⟨q2,0,none⟩) 1 1
 | 21 => .slice (some ⟨gB,0,none⟩) (nB+1) cB9
 | 22 => .pointer (some ⟨p,0,none⟩)
 | 23 => .pointer (some ⟨p,6,none⟩)
 | 24=>undef
 | _=>undef
def ibF (E p k gF b o b9 cc lc c0 nB cB:Nat) (line kd:Int) (pB pc:Option Addr) (tx:ByteArray) (ys:List Value) (q2:Nat) (gB:Nat) (cB9:Nat):Nat->World->Prop
 | 20=>fun w9=>w9.heap[q2]? = some (.cells #[.int .i64 line,.int .i64 (k:Int),.int .i64 (lc:Int),.string tx,.bool (kd == 4)] 131 (0,0))
 | 21=>fun w9=>w9.ownsRow E 131 5 (.slice (some ⟨gB,0,none⟩) (nB+1) cB9) (nB+1) (ys++[.int .i64 line,.int .i64 (k:Int),.int .i64 (lc:Int),.string tx,.bool (kd == 4)])
 | _=>fun _=>True
theorem Yjm {E p k gF b o b9 cc lc c0 nB cB:Nat} {line kd:Int} {pB pc:Option Addr} {tx:ByteArray} {ys:List Value} {q2:Nat} {gB:Nat} {cB9:Nat} {q22:Nat} {l:Array Bool} (hcl:∀ p∈([(2,1),(3,2),(4,3),(8,7),(9,8),(10,9),(11,10),(13,12),(14,13),(15,14),(17,16),(18,17),(19,5),(19,6),(19,11),(19,15),(19,18),(20,19),(21,4),(21,20),(22,0),(23,22),(24,23),(24,21)]:List (Nat × Nat)),l.getD (Prod.fst p) false=true->l.getD (Prod.snd p) false=true) (hun:l.getD 20 false=false):∀ i,i<25->l.getD i false=true->ib i<158->ibv E p k gF b o b9 cc lc c0 nB cB line kd pB pc tx ys q22 gB cB9 i=ibv E p k gF b o b9 cc lc c0 nB cB line kd pB pc tx ys q2 gB cB9 i:=by
 intro i hi hl _
 rcases Zme i hi with rfl|rfl|rfl|rfl|rfl|rfl|rfl|rfl|rfl|rfl|rfl|rfl|rfl|rfl|rfl|rfl|rfl|rfl|rfl|rfl|rfl|rfl|rfl|rfl|rfl
 · rfl
 · rfl
 · rfl
 · rfl
 · rfl
 · rfl
 · rfl
 · rfl
 · rfl
 · rfl
 · rfl
 · rfl
 · rfl
 · rfl
 · rfl
 · rfl
 · rfl
 · rfl
 · rfl
 · rfl
 · exact Zm (hl) hun
 · rfl
 · rfl
 · rfl
 · rfl
theorem Yjl {E p k gF b o b9 cc lc c0 nB cB:Nat} {line kd:Int} {pB pc:Option Addr} {tx:ByteArray} {ys:List Value} {q2:Nat} {gB:Nat} {cB9:Nat} {gB2:Nat} {cB92:Nat} {l:Array Bool} (hcl:∀ p∈([(2,1),(3,2),(4,3),(8,7),(9,8),(10,9),(11,10),(13,12),(14,13),(15,14),(17,16),(18,17),(19,5),(19,6),(19,11),(19,15),(19,18),(20,19),(21,4),(21,20),(22,0),(23,22),(24,23),(24,21)]:List (Nat × Nat)),l.getD (Prod.fst p) false=true->l.getD (Prod.snd p) false=true) (hun:l.getD 21 false=false):∀ i,i<25->l.getD i false=true->ib i<158->ibv E p k gF b o b9 cc lc c0 nB cB line kd pB pc tx ys q2 gB2 cB92 i=ibv E p k gF b o b9 cc lc c0 nB cB line kd pB pc tx ys q2 gB cB9 i:=by
 intro i hi hl _
 rcases Zme i hi with rfl|rfl|rfl|rfl|rfl|rfl|rfl|rfl|rfl|rfl|rfl|rfl|rfl|rfl|rfl|rfl|rfl|rfl|rfl|rfl|rfl|rfl|rfl|rfl|rfl
 · rfl
 · rfl
 · rfl
 · rfl
 · rfl
 · rfl
 · rfl
 · rfl
 · rfl
 · rfl
 · rfl
 · rfl
 · rfl
 · rfl
 · rfl
 · rfl
 · rfl
 · rfl
 · rfl
 · rfl
 · rfl
 · exact Zm (hl) hun
 · rfl
 · rfl
 · rfl
theorem Ylz (w0 ww w:World) (p m k gF cF b o b9 bi cc:Nat) (line:Int) (c:CS) (x:Option Int) (n:Nat) (kd:Int) (q0:Pc) (vd vL vB:Value) (bm:Nat) (cv:List Value) (lb:List Nat) (vc:Value) (s:Txt) (hkd:kd=3\/kd=4)
 (h:Zev w0 ww w p m k gF cF b o b9 bi c x n kd q0 [Pc.word s] vd vL vB bm cv lb vc) (hcc:[Pc.word s].length+1<=cc) (hl:[Pc.word s].length<=70000) (hm:m+2<=1000000) (R:Option (CS × Option Int)) (hR:R=some (Zgt (Zws c line s (kd == 4)) (n,0),x)) (a:Act) (ha:Zzx p b o [Pc.word s].length cc b9 k gF bi line a) (K:Act->World->Prop) (hK:∀ a w,Code.wp Tryz.prog (Zdv Tryz.f80 8) (bodyPost Tryz.prog Tryz.f80 (Zp w0 ww p (m+2) R)) a w->K a w) :
 Code.wp Tryz.prog (Zjl Tryz.f80 8) (Exit.then K (bodyPost Tryz.prog Tryz.f80 (Zp w0 ww p (m+2) R))) a w:=by
 subst hR
 rw [Zfq ha]
 generalize (fun i=>a.tmps.getD i undef)=t
 clear ha
 have HA:=Hq h
 obtain ⟨nm,tk,gv,h9⟩:=h.h9
 have e9:w.cell? ⟨b9,1,none⟩=some (.int .i64 kd):=Cq _ _ 1 _ _ _ h9
 have l9:=(Gs h9)
 have li:=(Gs h.hi)
 have hci:(([Pc.word s].length:Int)+1)<=cc:=by omega
 have h99:=h9
 clear h9 h
 unfold imF
 generalize t 3=u,t 4=u,t 5=u,t 6=u,t 7=u,t 8=u,t 10=u,t 14=u,t 15=u,t 16=u,t 17=u,t 18=u,t 19=u,t 20=u,t 21=u,t 22=u,t 23=u,t 24=u,t 25=u,t 26=u,t 27=u,t 28=u,t 29=u,t 30=u,t 31=u,t 32=u,t 33=u,t 34=u,t 35=u,t 36=u,t 37=u,t 38=u,t 39=u,t 40=u,t 41=u,t 42=u,t 43=u,t 44=u,t 45=u,t 46=u,t 47=u,t 48=u,t 49=u,t 50=u,t 51=u,t 52=u,t 53=u,t 54=u,t 55=u,t 56=u,t 57=u,t 58=u,t 59=u,t 60=u,t 61=u,t 62=u,t 63=u,t 64=u,t 65=u,t 66=u,t 67=u,t 68=u,t 69=u,t 70=u,t 71=u,t 72=u,t 73=u,t 74=u,t 75=u,t 76=u,t 77=u,t 78=u,t 79=u,t 80=u,t 81=u,t 82=u,t 83=u,t 84=u,t 85=u,t 86=u,t 87=u,t 88=u,t 89=u,t 90=u,t 91=u,t 92=u,t 93=u,t 94=u,t 95=u,t 96=u,t 97=u,t 98=u,t 99=u,t 100=u,t 101=u,t 102=u,t 103=u,t 104=u,t 105=u,t 106=u,t 107=u,t 108=u,t 109=u,t 110=u,t 111=u,t 112=u,t 113=u,t 114=u,t 115=u,t 116=u,t 117=u,t 118=u,t 119=u,t 120=u,t 121=u,t 122=u,t 123=u,t 124=u,t 125=u,t 126=u,t 127=u,t 128=u,t 129=u,t 130=u,t 131=u,t 132=u,t 133=u,t 134=u,t 135=u,t 136=u,t 137=u,t 138=u,t 139=u,t 140=u,t 141=u,t 142=u,t 143=u,t 144=u,t 145=u,t 146=u,t 147=u,t 148=u,t 149=u,t 150=u,t 151=u,t 152=u,t 153=u,t 154=u,t 155=u,t 156=u,t 157=u
 clear t
 conv=>arg 2;whnf
 have b0:(kd == 0)=false:=beq_eq_false_iff_ne.2 (by omega)
 obtain ⟨b',o',e,hb2,x0,x1,x2,x3⟩:=Xb HA.out.hp (i:=1) (q:=Pc.word s) rfl
 injection e with e;injection e with e1 e2
 subst e1;subst e2
 simp only [Nat.one_mul,pcK,pcT,pcN,pcF] at x0 x1 x2 x3
 have hc1:¬ cc=1:=by simp at hcc;omega
 simp only [List.length_cons,List.length_nil] at hcc hci hl
 have hf:c.funcs[k]? = some (c.funcs.getD k (0,0,0,[])):=by
  have:=HA.out.hk
  rw [List.getD_eq_getElem?_getD,List.getElem?_eq_getElem (by omega:k<c.funcs.length)];rfl
 have I:=HA.out.ps.ins
 have ho:=I.own.each k _ vc hf HA.out.hv
 obtain ⟨g',cap',hvF,hgF,hcF⟩:=Xc I.own.fr (by have:=HA.out.hk;omega)
 injection hvF with hvF _ _
 injection hvF with hvF;injection hvF with hvF
 subst hvF
 obtain ⟨-,-,-,q3⟩:=Zbu c.funcs cv k _ _ hf HA.out.hv
 have c3:=hcF _ _ q3 (by have:=HA.out.hk;omega)
 obtain ⟨pB,cB,hvB⟩:=Zk I.brow
 obtain ⟨pc,c0,hvc⟩:=Zk ho
 generalize hfe:c.funcs.getD k (0,0,0,[])=f at *
 obtain ⟨fa,fl,fr,fc⟩:=f
 simp only [] at hvc
 subst hvc;subst hvB
 have HFE:=Hq hfe
 have hz:=I.z4
 have HNE:=Yed I.brow HA.out.ps.box (by decide)
 have HNF:some gF≠(Value.slice pB c.blk.length cB).ownBlock:=by
  intro e
  rcases Zx I.own.fr I.brow (by decide) with q|q
  · cases q
  · exact q e
 have HNX:=Yle HA.out.hp I.brow (by decide)
 have HN9:=Yed I.brow h99 (by decide)
 have HNI:=Yed I.brow HA.out.hi (by decide)
 have OWN:=Hq (I.brow.kept (Zg (Zd w none)) (Jw I.brow))
 have c6:=Cq _ _ 6 _ _ _ HA.out.ps.box
 have z6:=frozen_of_row _ _ 6 _ _ HA.out.ps.box
 have hlt:=(Gs HA.out.ps.box)
 have hE:=HA.out.ps.gr.size
 have HPI:some p≠some bi:=fun e=>by injection e with e;have h1:=HA.out.ps.box;have h2:=HA.out.hi;rw [<- e,h1] at h2;injection h2 with h2;injection h2 with _ h2 _;revert h2;decide
 obtain ⟨vb,hvb⟩:∃ vb,(Value.slice pB c.blk.length cB).ownBlock=vb:=⟨_,rfl⟩
 rw [hvb] at HNE HNF HNX HN9
 obtain ⟨ni,ni0,ni1,ni2,ni3⟩:=info_parts Zzl
 clear I hf ho hcF q3 hfe h99
 rcases hkd with h3|h4
 · subst h3
   go_wp2
   try clear K
   conv=>arg 2;whnf
   go_upto_region 22 with fail
   (try rename_i K22 hK22)
   refine Xa (n:=25) (J:=fun a0 l a1 w1=>∃ (q2:Nat) (gB:Nat) (cB9:Nat),RJ a0 158 25 ib (ibv w0.heap.size p k gF b o b9 cc fc.length c0 c.blk.length cB line (3:Int) pB pc (bs s) (blV c.blk) q2 gB cB9) l a1/\Zcs 24 25 21 [(2,1),(3,2),(4,3),(8,7),(9,8),(10,9),(11,10),(13,12),(14,13),(15,14),(17,16),(18,17),(19,5),(19,6),(19,11),(19,15),(19,18),(20,19),(21,4),(21,20),(22,0),(23,22),(24,23),(24,21)] [(20,21)] (fun w9=>World.grownBy w.drew w9 vb) (fun w9=>w9.ownsRow w0.heap.size 131 5 (.slice pB c.blk.length cB) c.blk.length (blV c.blk)) (ibF w0.heap.size p k gF b o b9 cc fc.length c0 c.blk.length cB line (3:Int) pB pc (bs s) (blV c.blk) q2 gB cB9) (fun w9=>∃ (w8:World),World.grownBy w.drew w8 vb/\w8.ownsRow w0.heap.size 131 5 (.slice (some ⟨gB,0,none⟩) (c.blk.length+1) cB9) (c.blk.length+1) (blV c.blk++[.int .i64 line,.int .i64 (k:Int),.int .i64 (fc.length:Int),.string (bs s),.bool ((3:Int) == 4)])/\w9=w8.setCell ⟨p,6,none⟩ (.slice (some ⟨gB,0,none⟩) (c.blk.length+1) cB9)) l w1) (by kernel_rfl) rfl (Xx (by kernel_rfl)) (fun l a1 w1 h=>by obtain ⟨_,_,_,h,_⟩:=h;exact h.sz) ⟨0,0,0,Yz rfl,Yf (Zd _ _) (OWN.out)⟩ ?step ?fin
   case step =>
    intro l a1 w' i hJJ hi hin
    obtain ⟨q2,gB,cB9,hJ,hW⟩:=hJJ
    have hun:l.getD i false=false:=getD_both (mem_ready.1 hi).1
    have hns:=Jv hW hin hun
    have hg:=hW.g hns
    have l0:=Nat.lt_of_lt_of_le hlt hg.size
    have l1:=Nat.lt_of_lt_of_le hgF hg.size
    have l2:=Nat.lt_of_lt_of_le hb2 hg.size
    have l3:=Nat.lt_of_lt_of_le l9 hg.size
    rcases Zme i hin with rfl|rfl|rfl|rfl|rfl|rfl|rfl|rfl|rfl|rfl|rfl|rfl|rfl|rfl|rfl|rfl|rfl|rfl|rfl|rfl|rfl|rfl|rfl|rfl|rfl
    · have e0:a1.tmps.getD 0 undef = .pointer (some ⟨p,0,none⟩):=hJ.un 0 (fun i hi _=>Zce 0 (by decide) i hi)
      exact Zh (Zc hJ hW hi hun rfl (by rfl) rfl (by decide) (by decide) (Yw _ (by decide)) (w':=w') (by simp [execOp,resolve,invoke,builtin,Act.eval,e0,l0,l1,l2,l3,go_sem,ibv]) (⟨by decide,by kernel_rfl,True.intro⟩)) (fun a9 w9 h9=>⟨q2,gB,cB9,h9⟩)
    · have e0:a1.tmps.getD 0 undef = .pointer (some ⟨p,0,none⟩):=hJ.un 0 (fun i hi _=>Zce 0 (by decide) i hi)
      exact Zh (Zc hJ hW hi hun rfl (by rfl) rfl (by decide) (by decide) (Yw _ (by decide)) (w':=w') (by simp [execOp,resolve,invoke,builtin,Act.eval,e0,l0,l1,l2,l3,go_sem,ibv]) (⟨by decide,by kernel_rfl,True.intro⟩)) (fun a9 w9 h9=>⟨q2,gB,cB9,h9⟩)
    · have e108:a1.tmps.getD 108 undef = .pointer (some ⟨p,0,none⟩):=(Ze hJ hi 1 (by kernel_rfl))
      exact Zh (Zc hJ hW hi hun rfl (by rfl) rfl (by decide) (by decide) (Yw _ (by decide)) (w':=w') (by simp [execOp,resolve,invoke,builtin,Act.eval,e108,l0,l1,l2,l3,go_sem,ibv]) (⟨by decide,by kernel_rfl,True.intro⟩)) (fun a9 w9 h9=>⟨q2,gB,cB9,h9⟩)
    · have e109:a1.tmps.getD 109 undef = .pointer (some ⟨p,0,none⟩):=(Ze hJ hi 2 (by kernel_rfl))
      exact Zh (Zc hJ hW hi hun rfl (by rfl) rfl (by decide) (by decide) (Yw _ (by decide)) (w':=w') (by simp [execOp,resolve,invoke,builtin,Act.eval,e109,l0,l1,l2,l3,go_sem,ibv]) (⟨by decide,by kernel_rfl,True.intro⟩)) (fun a9 w9 h9=>⟨q2,gB,cB9,h9⟩)
    · have e110:a1.tmps.getD 110 undef = .pointer (some ⟨p,6,none⟩):=(Ze hJ hi 3 (by kernel_rfl))
      have h0:=hg.cell c6 HNE
      exact Zh (Zc hJ hW hi hun rfl (by rfl) rfl (by decide) (by decide) (Yw _ (by decide)) (w':=w') (by simp [execOp,resolve,invoke,builtin,Act.eval,e110,h0,l0,l1,l2,l3,go_sem,ibv]) (⟨by decide,by kernel_rfl,True.intro⟩)) (fun a9 w9 h9=>⟨q2,gB,cB9,h9⟩)
    · have e1:a1.tmps.getD 1 undef = .int .i64 line:=hJ.un 1 (fun i hi _=>Zce 1 (by decide) i hi)
      exact Zh (Zc hJ hW hi hun rfl (by rfl) rfl (by decide) (by decide) (Yw _ (by decide)) (w':=w') (by simp [execOp,resolve,invoke,builtin,Act.eval,e1,l0,l1,l2,l3,go_sem,ibv]) (⟨by decide,by kernel_rfl,True.intro⟩)) (fun a9 w9 h9=>⟨q2,gB,cB9,h9⟩)
    · have e11:a1.tmps.getD 11 undef = .int .i64 (k:Int):=hJ.un 11 (fun i hi _=>Zce 11 (by decide) i hi)
      exact Zh (Zc hJ hW hi hun rfl (by rfl) rfl (by decide) (by decide) (Yw _ (by decide)) (w':=w') (by simp [execOp,resolve,invoke,builtin,Act.eval,e11,l0,l1,l2,l3,go_sem,ibv]) (⟨by decide,by kernel_rfl,True.intro⟩)) (fun a9 w9 h9=>⟨q2,gB,cB9,h9⟩)
    · have e12:a1.tmps.getD 12 undef = .pointer (some ⟨gF,k*4,none⟩):=hJ.un 12 (fun i hi _=>Zce 12 (by decide) i hi)
      exact Zh (Zc hJ hW hi hun rfl (by rfl) rfl (by decide) (by decide) (Yw _ (by decide)) (w':=w') (by simp [execOp,resolve,invoke,builtin,Act.eval,e12,l0,l1,l2,l3,go_sem,ibv]) (⟨by decide,by kernel_rfl,True.intro⟩)) (fun a9 w9 h9=>⟨q2,gB,cB9,h9⟩)
    · have e114:a1.tmps.getD 114 undef = .pointer (some ⟨gF,k*4,none⟩):=(Ze hJ hi 7 (by kernel_rfl))
      exact Zh (Zc hJ hW hi hun rfl (by rfl) rfl (by decide) (by decide) (Yw _ (by decide)) (w':=w') (by simp [execOp,resolve,invoke,builtin,Act.eval,e114,l0,l1,l2,l3,go_sem,ibv]) (⟨by decide,by kernel_rfl,True.intro⟩)) (fun a9 w9 h9=>⟨q2,gB,cB9,h9⟩)
    · have e115:a1.tmps.getD 115 undef = .pointer (some ⟨gF,k*4,none⟩):=(Ze hJ hi 8 (by kernel_rfl))
      exact Zh (Zc hJ hW hi hun rfl (by rfl) rfl (by decide) (by decide) (Yw _ (by decide)) (w':=w') (by simp [execOp,resolve,invoke,builtin,Act.eval,e115,l0,l1,l2,l3,go_sem,ibv]) (⟨by decide,by kernel_rfl,True.intro⟩)) (fun a9 w9 h9=>⟨q2,gB,cB9,h9⟩)
    · have e116:a1.tmps.getD 116 undef = .pointer (some ⟨gF,k*4+3,none⟩):=(Ze hJ hi 9 (by kernel_rfl))
      have h0:=hg.cell c3 HNF
      exact Zh (Zc hJ hW hi hun rfl (by rfl) rfl (by decide) (by decide) (Yw _ (by decide)) (w':=w') (by simp [execOp,resolve,invoke,builtin,Act.eval,e116,h0,l0,l1,l2,l3,go_sem,ibv]) (⟨by decide,by kernel_rfl,True.intro⟩)) (fun a9 w9 h9=>⟨q2,gB,cB9,h9⟩)
    · have e117:a1.tmps.getD 117 undef = .slice pc fc.length c0:=(Ze hJ hi 10 (by kernel_rfl))
      exact Zh (Zc hJ hW hi hun rfl (by rfl) rfl (by decide) (by decide) (Yw _ (by decide)) (w':=w') (by simp [execOp,resolve,invoke,builtin,Act.eval,e117,l0,l1,l2,l3,go_sem,ibv]) (⟨by decide,by kernel_rfl,True.intro⟩)) (fun a9 w9 h9=>⟨q2,gB,cB9,h9⟩)
    · have e2:a1.tmps.getD 2 undef = .slice (some ⟨b,o+4,none⟩) 1 (cc - 1):=hJ.un 2 (fun i hi _=>Zce 2 (by decide) i hi)
      exact Zh (Zc hJ hW hi hun rfl (by rfl) rfl (by decide) (by decide) (Yw _ (by decide)) (w':=w') (by simp [execOp,resolve,invoke,builtin,Act.eval,e2,l0,l1,l2,l3,go_sem,ibv]) (⟨by decide,by kernel_rfl,True.intro⟩)) (fun a9 w9 h9=>⟨q2,gB,cB9,h9⟩)
    · have e119:a1.tmps.getD 119 undef = .slice (some ⟨b,o+4,none⟩) 1 (cc - 1):=(Ze hJ hi 12 (by kernel_rfl))
      exact Zh (Zc hJ hW hi hun rfl (by rfl) rfl (by decide) (by decide) (Yw _ (by decide)) (w':=w') (by first|(simp [execOp,resolve,invoke,builtin,Act.eval,e119,l0,l1,l2,l3,go_sem,ibv];done)|(simp [execOp,resolve,invoke,builtin,Act.eval,e119,l0,l1,l2,l3,go_sem,ibv];omega)|(simp [execOp,resolve,invoke,builtin,Act.eval,e119,l0,l1,l2,l3,go_sem,ibv];intro h;omega)|(simp [execOp,resolve,invoke,builtin,Act.eval,e119,l0,l1,l2,l3,go_sem,ibv];intros;omega)) (⟨by decide,by kernel_rfl,True.intro⟩)) (fun a9 w9 h9=>⟨q2,gB,cB9,h9⟩)
    · have e120:a1.tmps.getD 120 undef = .pointer (some ⟨b,o+4,none⟩):=(Ze hJ hi 13 (by kernel_rfl))
      exact Zh (Zc hJ hW hi hun rfl (by rfl) rfl (by decide) (by decide) (Yw _ (by decide)) (w':=w') (by simp [execOp,resolve,invoke,builtin,Act.eval,e120,l0,l1,l2,l3,go_sem,ibv]) (⟨by decide,by kernel_rfl,True.intro⟩)) (fun a9 w9 h9=>⟨q2,gB,cB9,h9⟩)
    · have e121:a1.tmps.getD 121 undef = .pointer (some ⟨b,o+4+1,none⟩):=(Ze hJ hi 14 (by kernel_rfl))
      have h0:=hg.cell x1 HNX
      exact Zh (Zc hJ hW hi hun rfl (by rfl) rfl (by decide) (by decide) (Yw _ (by decide)) (w':=w') (by simp [execOp,resolve,invoke,builtin,Act.eval,e121,h0,l0,l1,l2,l3,go_sem,ibv]) (⟨by decide,by kernel_rfl,True.intro⟩)) (fun a9 w9 h9=>⟨q2,gB,cB9,h9⟩)
    · have e9:a1.tmps.getD 9 undef = .pointer (some ⟨b9,0,none⟩):=hJ.un 9 (fun i hi _=>Zce 9 (by decide) i hi)
      exact Zh (Zc hJ hW hi hun rfl (by rfl) rfl (by decide) (by decide) (Yw _ (by decide)) (w':=w') (by simp [execOp,resolve,invoke,builtin,Act.eval,e9,l0,l1,l2,l3,go_sem,ibv]) (⟨by decide,by kernel_rfl,True.intro⟩)) (fun a9 w9 h9=>⟨q2,gB,cB9,h9⟩)
    · have e123:a1.tmps.getD 123 undef = .pointer (some ⟨b9,1,none⟩):=(Ze hJ hi 16 (by kernel_rfl))
      have h0:=hg.cell e9 HN9
      exact Zh (Zc hJ hW hi hun rfl (by rfl) rfl (by decide) (by decide) (Yw _ (by decide)) (w':=w') (by simp [execOp,resolve,invoke,builtin,Act.eval,e123,h0,l0,l1,l2,l3,go_sem,ibv]) (⟨by decide,by kernel_rfl,True.intro⟩)) (fun a9 w9 h9=>⟨q2,gB,cB9,h9⟩)
    · have e124:a1.tmps.getD 124 undef = .int .i64 (3:Int):=(Ze hJ hi 17 (by kernel_rfl))
      exact Zh (Zc hJ hW hi hun rfl (by rfl) rfl (by decide) (by decide) (Yw _ (by decide)) (w':=w') (by simp [execOp,resolve,invoke,builtin,Act.eval,e124,l0,l1,l2,l3,go_sem,ibv]) (⟨by decide,by kernel_rfl,True.intro⟩)) (fun a9 w9 h9=>⟨q2,gB,cB9,h9⟩)
    · have e112:a1.tmps.getD 112 undef = .int .i64 line:=(Ze hJ hi 5 (by kernel_rfl))
      have f112:=e112
      rw [Array.getD_eq_getD_getElem?] at f112
      have e113:a1.tmps.getD 113 undef = .int .i64 (k:Int):=(Ze hJ hi 6 (by kernel_rfl))
      have f113:=e113
      rw [Array.getD_eq_getD_getElem?] at f113
      have e118:a1.tmps.getD 118 undef = .int .i64 fc.length:=(Ze hJ hi 11 (by kernel_rfl))
      have f118:=e118
      rw [Array.getD_eq_getD_getElem?] at f118
      have e122:a1.tmps.getD 122 undef = .string (bs s):=(Ze hJ hi 15 (by kernel_rfl))
      have f122:=e122
      rw [Array.getD_eq_getD_getElem?] at f122
      have e125:a1.tmps.getD 125 undef = .bool ((3:Int) == 4):=(Ze hJ hi 18 (by kernel_rfl))
      have f125:=e125
      rw [Array.getD_eq_getD_getElem?] at f125
      exact Zh (Zc hJ hW hi hun rfl (by rfl) rfl (by decide) (by decide) (Yw _ (by decide)) (w':=w') (by simp [execOp,resolve,invoke,builtin,Act.eval,e112,f112,e113,f113,e118,f118,e122,f122,e125,f125,l0,l1,l2,l3,go_sem,ibv]) (⟨by decide,by kernel_rfl,True.intro⟩)) (fun a9 w9 h9=>⟨q2,gB,cB9,h9⟩)
    · have e126:a1.tmps.getD 126 undef = .agg #[.int .i64 line,.int .i64 (k:Int),.int .i64 (fc.length:Int),.string (bs s),.bool ((3:Int) == 4)]:=(Ze hJ hi 19 (by kernel_rfl))
      have f126:=e126
      rw [Array.getD_eq_getD_getElem?] at f126
      refine Xf (v:=ibv w0.heap.size p k gF b o b9 cc fc.length c0 c.blk.length cB line (3:Int) pB pc (bs s) (blV c.blk) w'.heap.size gB cB9 20) (w':=w'.alloc (.cells #[.int .i64 line,.int .i64 (k:Int),.int .i64 (fc.length:Int),.string (bs s),.bool ((3:Int) == 4)] 131)) rfl (by rfl) (by simp [execOp,Act.eval,e126,f126,Yjp,Result.andThen,ibv]) ⟨w'.heap.size,gB,cB9,?_,Zv hW (by decide) hun (by decide) (Zj _ hi (by kernel_rfl)) (Za hg (Ga _ _ _)) (fun hne0 hun0 hB0=>hB0.alloc _) (fun j hj hne hl hcu hF => ?_) (heap_alloc_new w' _)⟩
      · exact Xm (val:=ibv w0.heap.size p k gF b o b9 cc fc.length c0 c.blk.length cB line (3:Int) pB pc (bs s) (blV c.blk) w'.heap.size gB cB9) (Xo hJ (Yjm hW.cl hun)) (by decide) (by decide) (Yw _ (by decide))
      · rcases Zme j hj with rfl|rfl|rfl|rfl|rfl|rfl|rfl|rfl|rfl|rfl|rfl|rfl|rfl|rfl|rfl|rfl|rfl|rfl|rfl|rfl|rfl|rfl|rfl|rfl|rfl
        · exact True.intro
        · exact True.intro
        · exact True.intro
        · exact True.intro
        · exact True.intro
        · exact True.intro
        · exact True.intro
        · exact True.intro
        · exact True.intro
        · exact True.intro
        · exact True.intro
        · exact True.intro
        · exact True.intro
        · exact True.intro
        · exact True.intro
        · exact True.intro
        · exact True.intro
        · exact True.intro
        · exact True.intro
        · exact True.intro
        · exact absurd rfl hne
        · exact Zm (hW.cl (21,20) (by decide) (hl)) hun
        · exact True.intro
        · exact True.intro
        · exact True.intro
    · have e111:a1.tmps.getD 111 undef = .slice pB c.blk.length cB:=(Ze hJ hi 4 (by kernel_rfl))
      have e127:a1.tmps.getD 127 undef = .slice (some ⟨q2,0,none⟩) 1 1:=(Ze hJ hi 20 (by kernel_rfl))
      have F20:=hW.f hns 20 (by decide) (Zb hi 20 (by kernel_rfl)) (Zcu (c:=21) (by decide) hun)
      have own:=hW.u hun
      obtain ⟨v8,w8,hap,hown,hgr,-⟩:=run_append_own_at (P:=Tryz.prog) w' w0.heap.size 68 68 131 ni (.agg #[.int .i64 0,.int .i64 0,.int .i64 0,.string ⟨#[]⟩,.bool false]) 5 48 Zsh ni0 ni1 ni2 ni3 rfl (by decide) _ c.blk.length (blV c.blk) own ⟨q2,0,none⟩ 1 1 [.int .i64 line,.int .i64 (k:Int),.int .i64 (fc.length:Int),.string (bs s),.bool ((3:Int) == 4)] rfl (Zhk F20) (Ypa _ _ _ _ _) (by unfold maxLen;omega) (by omega) (Nat.le_trans hE hg.size)
      rw [hvb] at hgr
      obtain ⟨gB2,cB92,hv⟩:=Zcc hown
      subst hv
      refine Xf (v:=ibv w0.heap.size p k gF b o b9 cc fc.length c0 c.blk.length cB line (3:Int) pB pc (bs s) (blV c.blk) q2 gB2 cB92 21) (w':=w8) rfl (by rfl) (by simp [execOp,resolve,invoke,builtin,Act.eval,e111,e127,hap,Result.andThen,ibv]) ⟨q2,gB2,cB92,?_,Zv hW (by decide) hun (by decide) (Zj _ hi (by kernel_rfl)) (Za hg hgr) (fun hne0 hun0 hB0=>absurd rfl hne0) (fun j hj hne hl hcu hF => ?_) (hown)⟩
      · exact Xm (val:=ibv w0.heap.size p k gF b o b9 cc fc.length c0 c.blk.length cB line (3:Int) pB pc (bs s) (blV c.blk) q2 gB2 cB92) (Xo hJ (Yjl hW.cl hun)) (by decide) (by decide) (Yw _ (by decide))
      · rcases Zme j hj with rfl|rfl|rfl|rfl|rfl|rfl|rfl|rfl|rfl|rfl|rfl|rfl|rfl|rfl|rfl|rfl|rfl|rfl|rfl|rfl|rfl|rfl|rfl|rfl|rfl
        · exact True.intro
        · exact True.intro
        · exact True.intro
        · exact True.intro
        · exact True.intro
        · exact True.intro
        · exact True.intro
        · exact True.intro
        · exact True.intro
        · exact True.intro
        · exact True.intro
        · exact True.intro
        · exact True.intro
        · exact True.intro
        · exact True.intro
        · exact True.intro
        · exact True.intro
        · exact True.intro
        · exact True.intro
        · exact True.intro
        · exact absurd rfl (hcu (20,21) (by decide) rfl).1
        · exact absurd rfl hne
        · exact True.intro
        · exact True.intro
        · exact True.intro
    · have e107:a1.tmps.getD 107 undef = .pointer (some ⟨p,0,none⟩):=(Ze hJ hi 0 (by kernel_rfl))
      exact Zh (Zc hJ hW hi hun rfl (by rfl) rfl (by decide) (by decide) (Yw _ (by decide)) (w':=w') (by simp [execOp,resolve,invoke,builtin,Act.eval,e107,l0,l1,l2,l3,go_sem,ibv]) (⟨by decide,by kernel_rfl,True.intro⟩)) (fun a9 w9 h9=>⟨q2,gB,cB9,h9⟩)
    · have e129:a1.tmps.getD 129 undef = .pointer (some ⟨p,0,none⟩):=(Ze hJ hi 22 (by kernel_rfl))
      exact Zh (Zc hJ hW hi hun rfl (by rfl) rfl (by decide) (by decide) (Yw _ (by decide)) (w':=w') (by simp [execOp,resolve,invoke,builtin,Act.eval,e129,l0,l1,l2,l3,go_sem,ibv]) (⟨by decide,by kernel_rfl,True.intro⟩)) (fun a9 w9 h9=>⟨q2,gB,cB9,h9⟩)
    · have e130:a1.tmps.getD 130 undef = .pointer (some ⟨p,6,none⟩):=(Ze hJ hi 23 (by kernel_rfl))
      have e128:a1.tmps.getD 128 undef = .slice (some ⟨gB,0,none⟩) (c.blk.length+1) cB9:=(Ze hJ hi 21 (by kernel_rfl))
      have F21:=hW.f hns 21 (by decide) (Zb hi 21 (by kernel_rfl)) (Zdt (by decide))
      have k1:=hg.cell c6 HNE
      have bx2:=hg.block p hlt HNE
      have j1:w'.frozen? ⟨p,6,none⟩=false:=(World.frozen?_of_block bx2).trans z6
      have lb2:=Nat.lt_of_lt_of_le hlt hg.size
      have O21:w'.ownsRow w0.heap.size 131 5 (.slice (some ⟨gB,0,none⟩) (c.blk.length+1) cB9) (c.blk.length+1) (blV c.blk++[.int .i64 line,.int .i64 (k:Int),.int .i64 (fc.length:Int),.string (bs s),.bool ((3:Int) == 4)]):=F21
      have hall:∀ j,j<25->j≠24->l.getD j false=true:=by
       intro j hj hne
       rcases Zme j hj with rfl|rfl|rfl|rfl|rfl|rfl|rfl|rfl|rfl|rfl|rfl|rfl|rfl|rfl|rfl|rfl|rfl|rfl|rfl|rfl|rfl|rfl|rfl|rfl|rfl
       · exact hW.cl (22,0) (by decide) (hW.cl (23,22) (by decide) (Zb hi 23 (by kernel_rfl)))
       · exact hW.cl (2,1) (by decide) (hW.cl (3,2) (by decide) (hW.cl (4,3) (by decide) (hW.cl (21,4) (by decide) (Zb hi 21 (by kernel_rfl)))))
       · exact hW.cl (3,2) (by decide) (hW.cl (4,3) (by decide) (hW.cl (21,4) (by decide) (Zb hi 21 (by kernel_rfl))))
       · exact hW.cl (4,3) (by decide) (hW.cl (21,4) (by decide) (Zb hi 21 (by kernel_rfl)))
       · exact hW.cl (21,4) (by decide) (Zb hi 21 (by kernel_rfl))
       · exact hW.cl (19,5) (by decide) (hW.cl (20,19) (by decide) (hW.cl (21,20) (by decide) (Zb hi 21 (by kernel_rfl))))
       · exact hW.cl (19,6) (by decide) (hW.cl (20,19) (by decide) (hW.cl (21,20) (by decide) (Zb hi 21 (by kernel_rfl))))
       · exact hW.cl (8,7) (by decide) (hW.cl (9,8) (by decide) (hW.cl (10,9) (by decide) (hW.cl (11,10) (by decide) (hW.cl (19,11) (by decide) (hW.cl (20,19) (by decide) (hW.cl (21,20) (by decide) (Zb hi 21 (by kernel_rfl))))))))
       · exact hW.cl (9,8) (by decide) (hW.cl (10,9) (by decide) (hW.cl (11,10) (by decide) (hW.cl (19,11) (by decide) (hW.cl (20,19) (by decide) (hW.cl (21,20) (by decide) (Zb hi 21 (by kernel_rfl)))))))
       · exact hW.cl (10,9) (by decide) (hW.cl (11,10) (by decide) (hW.cl (19,11) (by decide) (hW.cl (20,19) (by decide) (hW.cl (21,20) (by decide) (Zb hi 21 (by kernel_rfl))))))
       · exact hW.cl (11,10) (by decide) (hW.cl (19,11) (by decide) (hW.cl (20,19) (by decide) (hW.cl (21,20) (by decide) (Zb hi 21 (by kernel_rfl)))))
       · exact hW.cl (19,11) (by decide) (hW.cl (20,19) (by decide) (hW.cl (21,20) (by decide) (Zb hi 21 (by kernel_rfl))))
       · exact hW.cl (13,12) (by decide) (hW.cl (14,13) (by decide) (hW.cl (15,14) (by decide) (hW.cl (19,15) (by decide) (hW.cl (20,19) (by decide) (hW.cl (21,20) (by decide) (Zb hi 21 (by kernel_rfl)))))))
       · exact hW.cl (14,13) (by decide) (hW.cl (15,14) (by decide) (hW.cl (19,15) (by decide) (hW.cl (20,19) (by decide) (hW.cl (21,20) (by decide) (Zb hi 21 (by kernel_rfl))))))
       · exact hW.cl (15,14) (by decide) (hW.cl (19,15) (by decide) (hW.cl (20,19) (by decide) (hW.cl (21,20) (by decide) (Zb hi 21 (by kernel_rfl)))))
       · exact hW.cl (19,15) (by decide) (hW.cl (20,19) (by decide) (hW.cl (21,20) (by decide) (Zb hi 21 (by kernel_rfl))))
       · exact hW.cl (17,16) (by decide) (hW.cl (18,17) (by decide) (hW.cl (19,18) (by decide) (hW.cl (20,19) (by decide) (hW.cl (21,20) (by decide) (Zb hi 21 (by kernel_rfl))))))
       · exact hW.cl (18,17) (by decide) (hW.cl (19,18) (by decide) (hW.cl (20,19) (by decide) (hW.cl (21,20) (by decide) (Zb hi 21 (by kernel_rfl)))))
       · exact hW.cl (19,18) (by decide) (hW.cl (20,19) (by decide) (hW.cl (21,20) (by decide) (Zb hi 21 (by kernel_rfl))))
       · exact hW.cl (20,19) (by decide) (hW.cl (21,20) (by decide) (Zb hi 21 (by kernel_rfl)))
       · exact hW.cl (21,20) (by decide) (Zb hi 21 (by kernel_rfl))
       · exact Zb hi 21 (by kernel_rfl)
       · exact hW.cl (23,22) (by decide) (Zb hi 23 (by kernel_rfl))
       · exact Zb hi 23 (by kernel_rfl)
       · exact absurd rfl hne
      exact Zh (Zbk (WS:=fun l9 w9=>Zcs 24 25 21 [(2,1),(3,2),(4,3),(8,7),(9,8),(10,9),(11,10),(13,12),(14,13),(15,14),(17,16),(18,17),(19,5),(19,6),(19,11),(19,15),(19,18),(20,19),(21,4),(21,20),(22,0),(23,22),(24,23),(24,21)] [(20,21)] (fun w9=>World.grownBy w.drew w9 vb) (fun w9=>w9.ownsRow w0.heap.size 131 5 (.slice pB c.blk.length cB) c.blk.length (blV c.blk)) (ibF w0.heap.size p k gF b o b9 cc fc.length c0 c.blk.length cB line (3:Int) pB pc (bs s) (blV c.blk) q2 gB cB9) (fun w9=>∃ (w8:World),World.grownBy w.drew w8 vb/\w8.ownsRow w0.heap.size 131 5 (.slice (some ⟨gB,0,none⟩) (c.blk.length+1) cB9) (c.blk.length+1) (blV c.blk++[.int .i64 line,.int .i64 (k:Int),.int .i64 (fc.length:Int),.string (bs s),.bool ((3:Int) == 4)])/\w9=w8.setCell ⟨p,6,none⟩ (.slice (some ⟨gB,0,none⟩) (c.blk.length+1) cB9)) l9 w9) hJ rfl rfl rfl (by decide) (by decide) (w':=w'.setCell ⟨p,6,none⟩ (.slice (some ⟨gB,0,none⟩) (c.blk.length+1) cB9)) (by simp [execOp,Act.eval,e130,e128,k1,j1,lb2,go_sem]) (Jh hW (by decide) (by decide) hall (Zj _ hi (by kernel_rfl)) (⟨w',hg,O21,rfl⟩))) (fun a9 w9 h9=>⟨q2,gB,cB9,h9⟩)
   case fin =>
    intro l9 a1 w9 hJJ hl9
    obtain ⟨q2,gB,cB9,hJ,hW⟩:=hJJ
    have hq:=hW.q (hl9 24 (by decide))
    have hput:=Xw hJ rfl hl9 (fun i j h1 h2 h3=>Yw j h2 i h1 h3)
    subst hput
    clear hJ hW hl9 c3 c6 x0 x1 x2 x3 e9
    obtain ⟨w8,q1,q4,rfl⟩:=hq
    (try refine hK22 _ _ ?_)
    simp only [Jy,ib,ibv,Act.put,List.setIfInBounds_toArray,List.set_cons_zero,List.set_cons_succ]
    have M:=Zvk (x:=⟨line,(k:Int),(fc.length:Int),s,(3:Int) == 4⟩) (Yr HA.out.ps (Zg (Zd w none))) q4 (by rw [hvb];exact q1)
    have HB:=Zf (Zf (Zf HA.out.hi (Zg (Zd w none)) (by simp)) q1 (fun e=>HNI (by rw [hvb];exact e.symm))) (Zo w8 p 6 (.slice (some ⟨gB,0,none⟩) (c.blk.length+1) cB9)) (fun e=>HPI e)
    have MM:=Hq M
    have HBB:=Hq HB
    clear q1 q4 M HB
    have HBC:=Hq (show Zws c line s ((3:Int) == 4)={ c with blk:=c.blk++[⟨line,(k:Int),(fc.length:Int),s,(3:Int) == 4⟩] } by
     unfold Zws
     simp only [HA.out.hk,Nat.add_sub_cancel,HFE.out])
    generalize w8.setCell ⟨p,6,none⟩ (.slice (some ⟨gB,0,none⟩) (c.blk.length+1) cB9)=w5 at *
    go_upto_region 28 with fail
    rename_i K28 hK28
    exact Znk w0 ww w5 p (m+1) k gF cF bi _ x n 0 vd vL _ bm cv lb _ MM.out.1 HA.out.hk HA.out.hv HBB.out (HA.out.ne _ _ HA.out.hv) (Zn (Zn HA.out.fr (Yk (Zg (Zd w none)))) MM.out.2) hm _ (by rw [<- HBC.out];rfl) _ ⟨rfl,rfl,rfl,rfl⟩ _ hK28
 · subst h4
   go_wp2
   try clear K
   conv=>arg 2;whnf
   go_upto_region 22 with fail
   (try rename_i K22 hK22)
   refine Xa (n:=25) (J:=fun a0 l a1 w1=>∃ (q2:Nat) (gB:Nat) (cB9:Nat),RJ a0 158 25 ib (ibv w0.heap.size p k gF b o b9 cc fc.length c0 c.blk.length cB line (4:Int) pB pc (bs s) (blV c.blk) q2 gB cB9) l a1/\Zcs 24 25 21 [(2,1),(3,2),(4,3),(8,7),(9,8),(10,9),(11,10),(13,12),(14,13),(15,14),(17,16),(18,17),(19,5),(19,6),(19,11),(19,15),(19,18),(20,19),(21,4),(21,20),(22,0),(23,22),(24,23),(24,21)] [(20,21)] (fun w9=>World.grownBy w.drew w9 vb) (fun w9=>w9.ownsRow w0.heap.size 131 5 (.slice pB c.blk.length cB) c.blk.length (blV c.blk)) (ibF w0.heap.size p k gF b o b9 cc fc.length c0 c.blk.length cB line (4:Int) pB pc (bs s) (blV c.blk) q2 gB cB9) (fun w9=>∃ (w8:World),World.grownBy w.drew w8 vb/\w8.ownsRow w0.heap.size 131 5 (.slice (some ⟨gB,0,none⟩) (c.blk.length+1) cB9) (c.blk.length+1) (blV c.blk++[.int .i64 line,.int .i64 (k:Int),.int .i64 (fc.length:Int),.string (bs s),.bool ((4:Int) == 4)])/\w9=w8.setCell ⟨p,6,none⟩ (.slice (some ⟨gB,0,none⟩) (c.blk.length+1) cB9)) l w1) (by kernel_rfl) rfl (Xx (by kernel_rfl)) (fun l a1 w1 h=>by obtain ⟨_,_,_,h,_⟩:=h;exact h.sz) ⟨0,0,0,Yz rfl,Yf (Zd _ _) (OWN.out)⟩ ?step ?fin
   case step =>
    intro l a1 w' i hJJ hi hin
    obtain ⟨q2,gB,cB9,hJ,hW⟩:=hJJ
    have hun:l.getD i false=false:=getD_both (mem_ready.1 hi).1
    have hns:=Jv hW hin hun
    have hg:=hW.g hns
    have l0:=Nat.lt_of_lt_of_le hlt hg.size
    have l1:=Nat.lt_of_lt_of_le hgF hg.size
    have l2:=Nat.lt_of_lt_of_le hb2 hg.size
    have l3:=Nat.lt_of_lt_of_le l9 hg.size
    rcases Zme i hin with rfl|rfl|rfl|rfl|rfl|rfl|rfl|rfl|rfl|rfl|rfl|rfl|rfl|rfl|rfl|rfl|rfl|rfl|rfl|rfl|rfl|rfl|rfl|rfl|rfl
    · have e0:a1.tmps.getD 0 undef = .pointer (some ⟨p,0,none⟩):=hJ.un 0 (fun i hi _=>Zce 0 (by decide) i hi)
      exact Zh (Zc hJ hW hi hun rfl (by rfl) rfl (by decide) (by decide) (Yw _ (by decide)) (w':=w') (by simp [execOp,resolve,invoke,builtin,Act.eval,e0,l0,l1,l2,l3,go_sem,ibv]) (⟨by decide,by kernel_rfl,True.intro⟩)) (fun a9 w9 h9=>⟨q2,gB,cB9,h9⟩)
    · have e0:a1.tmps.getD 0 undef = .pointer (some ⟨p,0,none⟩):=hJ.un 0 (fun i hi _=>Zce 0 (by decide) i hi)
      exact Zh (Zc hJ hW hi hun rfl (by rfl) rfl (by decide) (by decide) (Yw _ (by decide)) (w':=w') (by simp [execOp,resolve,invoke,builtin,Act.eval,e0,l0,l1,l2,l3,go_sem,ibv]) (⟨by decide,by kernel_rfl,True.intro⟩)) (fun a9 w9 h9=>⟨q2,gB,cB9,h9⟩)
    · have e108:a1.tmps.getD 108 undef = .pointer (some ⟨p,0,none⟩):=(Ze hJ hi 1 (by kernel_rfl))
      exact Zh (Zc hJ hW hi hun rfl (by rfl) rfl (by decide) (by decide) (Yw _ (by decide)) (w':=w') (by simp [execOp,resolve,invoke,builtin,Act.eval,e108,l0,l1,l2,l3,go_sem,ibv]) (⟨by decide,by kernel_rfl,True.intro⟩)) (fun a9 w9 h9=>⟨q2,gB,cB9,h9⟩)
    · have e109:a1.tmps.getD 109 undef = .pointer (some ⟨p,0,none⟩):=(Ze hJ hi 2 (by kernel_rfl))
      exact Zh (Zc hJ hW hi hun rfl (by rfl) rfl (by decide) (by decide) (Yw _ (by decide)) (w':=w') (by simp [execOp,resolve,invoke,builtin,Act.eval,e109,l0,l1,l2,l3,go_sem,ibv]) (⟨by decide,by kernel_rfl,True.intro⟩)) (fun a9 w9 h9=>⟨q2,gB,cB9,h9⟩)
    · have e110:a1.tmps.getD 110 undef = .pointer (some ⟨p,6,none⟩):=(Ze hJ hi 3 (by kernel_rfl))
      have h0:=hg.cell c6 HNE
      exact Zh (Zc hJ hW hi hun rfl (by rfl) rfl (by decide) (by decide) (Yw _ (by decide)) (w':=w') (by simp [execOp,resolve,invoke,builtin,Act.eval,e110,h0,l0,l1,l2,l3,go_sem,ibv]) (⟨by decide,by kernel_rfl,True.intro⟩)) (fun a9 w9 h9=>⟨q2,gB,cB9,h9⟩)
    · have e1:a1.tmps.getD 1 undef = .int .i64 line:=hJ.un 1 (fun i hi _=>Zce 1 (by decide) i hi)
      exact Zh (Zc hJ hW hi hun rfl (by rfl) rfl (by decide) (by decide) (Yw _ (by decide)) (w':=w') (by simp [execOp,resolve,invoke,builtin,Act.eval,e1,l0,l1,l2,l3,go_sem,ibv]) (⟨by decide,by kernel_rfl,True.intro⟩)) (fun a9 w9 h9=>⟨q2,gB,cB9,h9⟩)
    · have e11:a1.tmps.getD 11 undef = .int .i64 (k:Int):=hJ.un 11 (fun i hi _=>Zce 11 (by decide) i hi)
      exact Zh (Zc hJ hW hi hun rfl (by rfl) rfl (by decide) (by decide) (Yw _ (by decide)) (w':=w') (by simp [execOp,resolve,invoke,builtin,Act.eval,e11,l0,l1,l2,l3,go_sem,ibv]) (⟨by decide,by kernel_rfl,True.intro⟩)) (fun a9 w9 h9=>⟨q2,gB,cB9,h9⟩)
    · have e12:a1.tmps.getD 12 undef = .pointer (some ⟨gF,k*4,none⟩):=hJ.un 12 (fun i hi _=>Zce 12 (by decide) i hi)
      exact Zh (Zc hJ hW hi hun rfl (by rfl) rfl (by decide) (by decide) (Yw _ (by decide)) (w':=w') (by simp [execOp,resolve,invoke,builtin,Act.eval,e12,l0,l1,l2,l3,go_sem,ibv]) (⟨by decide,by kernel_rfl,True.intro⟩)) (fun a9 w9 h9=>⟨q2,gB,cB9,h9⟩)
    · have e114:a1.tmps.getD 114 undef = .pointer (some ⟨gF,k*4,none⟩):=(Ze hJ hi 7 (by kernel_rfl))
      exact Zh (Zc hJ hW hi hun rfl (by rfl) rfl (by decide) (by decide) (Yw _ (by decide)) (w':=w') (by simp [execOp,resolve,invoke,builtin,Act.eval,e114,l0,l1,l2,l3,go_sem,ibv]) (⟨by decide,by kernel_rfl,True.intro⟩)) (fun a9 w9 h9=>⟨q2,gB,cB9,h9⟩)
    · have e115:a1.tmps.getD 115 undef = .pointer (some ⟨gF,k*4,none⟩):=(Ze hJ hi 8 (by kernel_rfl))
      exact Zh (Zc hJ hW hi hun rfl (by rfl) rfl (by decide) (by decide) (Yw _ (by decide)) (w':=w') (by simp [execOp,resolve,invoke,builtin,Act.eval,e115,l0,l1,l2,l3,go_sem,ibv]) (⟨by decide,by kernel_rfl,True.intro⟩)) (fun a9 w9 h9=>⟨q2,gB,cB9,h9⟩)
    · have e116:a1.tmps.getD 116 undef = .pointer (some ⟨gF,k*4+3,none⟩):=(Ze hJ hi 9 (by kernel_rfl))
      have h0:=hg.cell c3 HNF
      exact Zh (Zc hJ hW hi hun rfl (by rfl) rfl (by decide) (by decide) (Yw _ (by decide)) (w':=w') (by simp [execOp,resolve,invoke,builtin,Act.eval,e116,h0,l0,l1,l2,l3,go_sem,ibv]) (⟨by decide,by kernel_rfl,True.intro⟩)) (fun a9 w9 h9=>⟨q2,gB,cB9,h9⟩)
    · have e117:a1.tmps.getD 117 undef = .slice pc fc.length c0:=(Ze hJ hi 10 (by kernel_rfl))
      exact Zh (Zc hJ hW hi hun rfl (by rfl) rfl (by decide) (by decide) (Yw _ (by decide)) (w':=w') (by simp [execOp,resolve,invoke,builtin,Act.eval,e117,l0,l1,l2,l3,go_sem,ibv]) (⟨by decide,by kernel_rfl,True.intro⟩)) (fun a9 w9 h9=>⟨q2,gB,cB9,h9⟩)
    · have e2:a1.tmps.getD 2 undef = .slice (some ⟨b,o+4,none⟩) 1 (cc - 1):=hJ.un 2 (fun i hi _=>Zce 2 (by decide) i hi)
      exact Zh (Zc hJ hW hi hun rfl (by rfl) rfl (by decide) (by decide) (Yw _ (by decide)) (w':=w') (by simp [execOp,resolve,invoke,builtin,Act.eval,e2,l0,l1,l2,l3,go_sem,ibv]) (⟨by decide,by kernel_rfl,True.intro⟩)) (fun a9 w9 h9=>⟨q2,gB,cB9,h9⟩)
    · have e119:a1.tmps.getD 119 undef = .slice (some ⟨b,o+4,none⟩) 1 (cc - 1):=(Ze hJ hi 12 (by kernel_rfl))
      exact Zh (Zc hJ hW hi hun rfl (by rfl) rfl (by decide) (by decide) (Yw _ (by decide)) (w':=w') (by first|(simp [execOp,resolve,invoke,builtin,Act.eval,e119,l0,l1,l2,l3,go_sem,ibv];done)|(simp [execOp,resolve,invoke,builtin,Act.eval,e119,l0,l1,l2,l3,go_sem,ibv];omega)|(simp [execOp,resolve,invoke,builtin,Act.eval,e119,l0,l1,l2,l3,go_sem,ibv];intro h;omega)|(simp [execOp,resolve,invoke,builtin,Act.eval,e119,l0,l1,l2,l3,go_sem,ibv];intros;omega)) (⟨by decide,by kernel_rfl,True.intro⟩)) (fun a9 w9 h9=>⟨q2,gB,cB9,h9⟩)
    · have e120:a1.tmps.getD 120 undef = .pointer (some ⟨b,o+4,none⟩):=(Ze hJ hi 13 (by kernel_rfl))
      exact Zh (Zc hJ hW hi hun rfl (by rfl) rfl (by decide) (by decide) (Yw _ (by decide)) (w':=w') (by simp [execOp,resolve,invoke,builtin,Act.eval,e120,l0,l1,l2,l3,go_sem,ibv]) (⟨by decide,by kernel_rfl,True.intro⟩)) (fun a9 w9 h9=>⟨q2,gB,cB9,h9⟩)
    · have e121:a1.tmps.getD 121 undef = .pointer (some ⟨b,o+4+1,none⟩):=(Ze hJ hi 14 (by kernel_rfl))
      have h0:=hg.cell x1 HNX
      exact Zh (Zc hJ hW hi hun rfl (by rfl) rfl (by decide) (by decide) (Yw _ (by decide)) (w':=w') (by simp [execOp,resolve,invoke,builtin,Act.eval,e121,h0,l0,l1,l2,l3,go_sem,ibv]) (⟨by decide,by kernel_rfl,True.intro⟩)) (fun a9 w9 h9=>⟨q2,gB,cB9,h9⟩)
    · have e9:a1.tmps.getD 9 undef = .pointer (some ⟨b9,0,none⟩):=hJ.un 9 (fun i hi _=>Zce 9 (by decide) i hi)
      exact Zh (Zc hJ hW hi hun rfl (by rfl) rfl (by decide) (by decide) (Yw _ (by decide)) (w':=w') (by simp [execOp,resolve,invoke,builtin,Act.eval,e9,l0,l1,l2,l3,go_sem,ibv]) (⟨by decide,by kernel_rfl,True.intro⟩)) (fun a9 w9 h9=>⟨q2,gB,cB9,h9⟩)
    · have e123:a1.tmps.getD 123 undef = .pointer (some ⟨b9,1,none⟩):=(Ze hJ hi 16 (by kernel_rfl))
      have h0:=hg.cell e9 HN9
      exact Zh (Zc hJ hW hi hun rfl (by rfl) rfl (by decide) (by decide) (Yw _ (by decide)) (w':=w') (by simp [execOp,resolve,invoke,builtin,Act.eval,e123,h0,l0,l1,l2,l3,go_sem,ibv]) (⟨by decide,by kernel_rfl,True.intro⟩)) (fun a9 w9 h9=>⟨q2,gB,cB9,h9⟩)
    · have e124:a1.tmps.getD 124 undef = .int .i64 (4:Int):=(Ze hJ hi 17 (by kernel_rfl))
      exact Zh (Zc hJ hW hi hun rfl (by rfl) rfl (by decide) (by decide) (Yw _ (by decide)) (w':=w') (by simp [execOp,resolve,invoke,builtin,Act.eval,e124,l0,l1,l2,l3,go_sem,ibv]) (⟨by decide,by kernel_rfl,True.intro⟩)) (fun a9 w9 h9=>⟨q2,gB,cB9,h9⟩)
    · have e112:a1.tmps.getD 112 undef = .int .i64 line:=(Ze hJ hi 5 (by kernel_rfl))
      have f112:=e112
      rw [Array.getD_eq_getD_getElem?] at f112
      have e113:a1.tmps.getD 113 undef = .int .i64 (k:Int):=(Ze hJ hi 6 (by kernel_rfl))
      have f113:=e113
      rw [Array.getD_eq_getD_getElem?] at f113
      have e118:a1.tmps.getD 118 undef = .int .i64 fc.length:=(Ze hJ hi 11 (by kernel_rfl))
      have f118:=e118
      rw [Array.getD_eq_getD_getElem?] at f118
      have e122:a1.tmps.getD 122 undef = .string (bs s):=(Ze hJ hi 15 (by kernel_rfl))
      have f122:=e122
      rw [Array.getD_eq_getD_getElem?] at f122
      have e125:a1.tmps.getD 125 undef = .bool ((4:Int) == 4):=(Ze hJ hi 18 (by kernel_rfl))
      have f125:=e125
      rw [Array.getD_eq_getD_getElem?] at f125
      exact Zh (Zc hJ hW hi hun rfl (by rfl) rfl (by decide) (by decide) (Yw _ (by decide)) (w':=w') (by simp [execOp,resolve,invoke,builtin,Act.eval,e112,f112,e113,f113,e118,f118,e122,f122,e125,f125,l0,l1,l2,l3,go_sem,ibv]) (⟨by decide,by kernel_rfl,True.intro⟩)) (fun a9 w9 h9=>⟨q2,gB,cB9,h9⟩)
    · have e126:a1.tmps.getD 126 undef = .agg #[.int .i64 line,.int .i64 (k:Int),.int .i64 (fc.length:Int),.string (bs s),.bool ((4:Int) == 4)]:=(Ze hJ hi 19 (by kernel_rfl))
      have f126:=e126
      rw [Array.getD_eq_getD_getElem?] at f126
      refine Xf (v:=ibv w0.heap.size p k gF b o b9 cc fc.length c0 c.blk.length cB line (4:Int) pB pc (bs s) (blV c.blk) w'.heap.size gB cB9 20) (w':=w'.alloc (.cells #[.int .i64 line,.int .i64 (k:Int),.int .i64 (fc.length:Int),.string (bs s),.bool ((4:Int) == 4)] 131)) rfl (by rfl) (by simp [execOp,Act.eval,e126,f126,Yjp,Result.andThen,ibv]) ⟨w'.heap.size,gB,cB9,?_,Zv hW (by decide) hun (by decide) (Zj _ hi (by kernel_rfl)) (Za hg (Ga _ _ _)) (fun hne0 hun0 hB0=>hB0.alloc _) (fun j hj hne hl hcu hF => ?_) (heap_alloc_new w' _)⟩
      · exact Xm (val:=ibv w0.heap.size p k gF b o b9 cc fc.length c0 c.blk.length cB line (4:Int) pB pc (bs s) (blV c.blk) w'.heap.size gB cB9) (Xo hJ (Yjm hW.cl hun)) (by decide) (by decide) (Yw _ (by decide))
      · rcases Zme j hj with rfl|rfl|rfl|rfl|rfl|rfl|rfl|rfl|rfl|rfl|rfl|rfl|rfl|rfl|rfl|rfl|rfl|rfl|rfl|rfl|rfl|rfl|rfl|rfl|rfl
        · exact True.intro
        · exact True.intro
        · exact True.intro
        · exact True.intro
        · exact True.intro
        · exact True.intro
        · exact True.intro
        · exact True.intro
        · exact True.intro
        · exact True.intro
        · exact True.intro
        · exact True.intro
        · exact True.intro
        · exact True.intro
        · exact True.intro
        · exact True.intro
        · exact True.intro
        · exact True.intro
        · exact True.intro
        · exact True.intro
        · exact absurd rfl hne
        · exact Zm (hW.cl (21,20) (by decide) (hl)) hun
        · exact True.intro
        · exact True.intro
        · exact True.intro
    · have e111:a1.tmps.getD 111 undef = .slice pB c.blk.length cB:=(Ze hJ hi 4 (by kernel_rfl))
      have e127:a1.tmps.getD 127 undef = .slice (some ⟨q2,0,none⟩) 1 1:=(Ze hJ hi 20 (by kernel_rfl))
      have F20:=hW.f hns 20 (by decide) (Zb hi 20 (by kernel_rfl)) (Zcu (c:=21) (by decide) hun)
      have own:=hW.u hun
      obtain ⟨v8,w8,hap,hown,hgr,-⟩:=run_append_own_at (P:=Tryz.prog) w' w0.heap.size 68 68 131 ni (.agg #[.int .i64 0,.int .i64 0,.int .i64 0,.string ⟨#[]⟩,.bool false]) 5 48 Zsh ni0 ni1 ni2 ni3 rfl (by decide) _ c.blk.length (blV c.blk) own ⟨q2,0,none⟩ 1 1 [.int .i64 line,.int .i64 (k:Int),.int .i64 (fc.length:Int),.string (bs s),.bool ((4:Int) == 4)] rfl (Zhk F20) (Ypa _ _ _ _ _) (by unfold maxLen;omega) (by omega) (Nat.le_trans hE hg.size)
      rw [hvb] at hgr
      obtain ⟨gB2,cB92,hv⟩:=Zcc hown
      subst hv
      refine Xf (v:=ibv w0.heap.size p k gF b o b9 cc fc.length c0 c.blk.length cB line (4:Int) pB pc (bs s) (blV c.blk) q2 gB2 cB92 21) (w':=w8) rfl (by rfl) (by simp [execOp,resolve,invoke,builtin,Act.eval,e111,e127,hap,Result.andThen,ibv]) ⟨q2,gB2,cB92,?_,Zv hW (by decide) hun (by decide) (Zj _ hi (by kernel_rfl)) (Za hg hgr) (fun hne0 hun0 hB0=>absurd rfl hne0) (fun j hj hne hl hcu hF => ?_) (hown)⟩
      · exact Xm (val:=ibv w0.heap.size p k gF b o b9 cc fc.length c0 c.blk.length cB line (4:Int) pB pc (bs s) (blV c.blk) q2 gB2 cB92) (Xo hJ (Yjl hW.cl hun)) (by decide) (by decide) (Yw _ (by decide))
      · rcases Zme j hj with rfl|rfl|rfl|rfl|rfl|rfl|rfl|rfl|rfl|rfl|rfl|rfl|rfl|rfl|rfl|rfl|rfl|rfl|rfl|rfl|rfl|rfl|rfl|rfl|rfl
        · exact True.intro
        · exact True.intro
        · exact True.intro
        · exact True.intro
        · exact True.intro
        · exact True.intro
        · exact True.intro
        · exact True.intro
        · exact True.intro
        · exact True.intro
        · exact True.intro
        · exact True.intro
        · exact True.intro
        · exact True.intro
        · exact True.intro
        · exact True.intro
        · exact True.intro
        · exact True.intro
        · exact True.intro
        · exact True.intro
        · exact absurd rfl (hcu (20,21) (by decide) rfl).1
        · exact absurd rfl hne
        · exact True.intro
        · exact True.intro
        · exact True.intro
    · have e107:a1.tmps.getD 107 undef = .pointer (some ⟨p,0,none⟩):=(Ze hJ hi 0 (by kernel_rfl))
      exact Zh (Zc hJ hW hi hun rfl (by rfl) rfl (by decide) (by decide) (Yw _ (by decide)) (w':=w') (by simp [execOp,resolve,invoke,builtin,Act.eval,e107,l0,l1,l2,l3,go_sem,ibv]) (⟨by decide,by kernel_rfl,True.intro⟩)) (fun a9 w9 h9=>⟨q2,gB,cB9,h9⟩)
    · have e129:a1.tmps.getD 129 undef = .pointer (some ⟨p,0,none⟩):=(Ze hJ hi 22 (by kernel_rfl))
      exact Zh (Zc hJ hW hi hun rfl (by rfl) rfl (by decide) (by decide) (Yw _ (by decide)) (w':=w') (by simp [execOp,resolve,invoke,builtin,Act.eval,e129,l0,l1,l2,l3,go_sem,ibv]) (⟨by decide,by kernel_rfl,True.intro⟩)) (fun a9 w9 h9=>⟨q2,gB,cB9,h9⟩)
    · have e130:a1.tmps.getD 130 undef = .pointer (some ⟨p,6,none⟩):=(Ze hJ hi 23 (by kernel_rfl))
      have e128:a1.tmps.getD 128 undef = .slice (some ⟨gB,0,none⟩) (c.blk.length+1) cB9:=(Ze hJ hi 21 (by kernel_rfl))
      have F21:=hW.f hns 21 (by decide) (Zb hi 21 (by kernel_rfl)) (Zdt (by decide))
      have k1:=hg.cell c6 HNE
      have bx2:=hg.block p hlt HNE
      have j1:w'.frozen? ⟨p,6,none⟩=false:=(World.frozen?_of_block bx2).trans z6
      have lb2:=Nat.lt_of_lt_of_le hlt hg.size
      have O21:w'.ownsRow w0.heap.size 131 5 (.slice (some ⟨gB,0,none⟩) (c.blk.length+1) cB9) (c.blk.length+1) (blV c.blk++[.int .i64 line,.int .i64 (k:Int),.int .i64 (fc.length:Int),.string (bs s),.bool ((4:Int) == 4)]):=F21
      have hall:∀ j,j<25->j≠24->l.getD j false=true:=by
       intro j hj hne
       rcases Zme j hj with rfl|rfl|rfl|rfl|rfl|rfl|rfl|rfl|rfl|rfl|rfl|rfl|rfl|rfl|rfl|rfl|rfl|rfl|rfl|rfl|rfl|rfl|rfl|rfl|rfl
       · exact hW.cl (22,0) (by decide) (hW.cl (23,22) (by decide) (Zb hi 23 (by kernel_rfl)))
       · exact hW.cl (2,1) (by decide) (hW.cl (3,2) (by decide) (hW.cl (4,3) (by decide) (hW.cl (21,4) (by decide) (Zb hi 21 (by kernel_rfl)))))
       · exact hW.cl (3,2) (by decide) (hW.cl (4,3) (by decide) (hW.cl (21,4) (by decide) (Zb hi 21 (by kernel_rfl))))
       · exact hW.cl (4,3) (by decide) (hW.cl (21,4) (by decide) (Zb hi 21 (by kernel_rfl)))
       · exact hW.cl (21,4) (by decide) (Zb hi 21 (by kernel_rfl))
       · exact hW.cl (19,5) (by decide) (hW.cl (20,19) (by decide) (hW.cl (21,20) (by decide) (Zb hi 21 (by kernel_rfl))))
       · exact hW.cl (19,6) (by decide) (hW.cl (20,19) (by decide) (hW.cl (21,20) (by decide) (Zb hi 21 (by kernel_rfl))))
       · exact hW.cl (8,7) (by decide) (hW.cl (9,8) (by decide) (hW.cl (10,9) (by decide) (hW.cl (11,10) (by decide) (hW.cl (19,11) (by decide) (hW.cl (20,19) (by decide) (hW.cl (21,20) (by decide) (Zb hi 21 (by kernel_rfl))))))))
       · exact hW.cl (9,8) (by decide) (hW.cl (10,9) (by decide) (hW.cl (11,10) (by decide) (hW.cl (19,11) (by decide) (hW.cl (20,19) (by decide) (hW.cl (21,20) (by decide) (Zb hi 21 (by kernel_rfl)))))))
       · exact hW.cl (10,9) (by decide) (hW.cl (11,10) (by decide) (hW.cl (19,11) (by decide) (hW.cl (20,19) (by decide) (hW.cl (21,20) (by decide) (Zb hi 21 (by kernel_rfl))))))
       · exact hW.cl (11,10) (by decide) (hW.cl (19,11) (by decide) (hW.cl (20,19) (by decide) (hW.cl (21,20) (by decide) (Zb hi 21 (by kernel_rfl)))))
       · exact hW.cl (19,11) (by decide) (hW.cl (20,19) (by decide) (hW.cl (21,20) (by decide) (Zb hi 21 (by kernel_rfl))))
       · exact hW.cl (13,12) (by decide) (hW.cl (14,13) (by decide) (hW.cl (15,14) (by decide) (hW.cl (19,15) (by decide) (hW.cl (20,19) (by decide) (hW.cl (21,20) (by decide) (Zb hi 21 (by kernel_rfl)))))))
       · exact hW.cl (14,13) (by decide) (hW.cl (15,14) (by decide) (hW.cl (19,15) (by decide) (hW.cl (20,19) (by decide) (hW.cl (21,20) (by decide) (Zb hi 21 (by kernel_rfl))))))
       · exact hW.cl (15,14) (by decide) (hW.cl (19,15) (by decide) (hW.cl (20,19) (by decide) (hW.cl (21,20) (by decide) (Zb hi 21 (by kernel_rfl)))))
       · exact hW.cl (19,15) (by decide) (hW.cl (20,19) (by decide) (hW.cl (21,20) (by decide) (Zb hi 21 (by kernel_rfl))))
       · exact hW.cl (17,16) (by decide) (hW.cl (18,17) (by decide) (hW.cl (19,18) (by decide) (hW.cl (20,19) (by decide) (hW.cl (21,20) (by decide) (Zb hi 21 (by kernel_rfl))))))
       · exact hW.cl (18,17) (by decide) (hW.cl (19,18) (by decide) (hW.cl (20,19) (by decide) (hW.cl (21,20) (by decide) (Zb hi 21 (by kernel_rfl)))))
       · exact hW.cl (19,18) (by decide) (hW.cl (20,19) (by decide) (hW.cl (21,20) (by decide) (Zb hi 21 (by kernel_rfl))))
       · exact hW.cl (20,19) (by decide) (hW.cl (21,20) (by decide) (Zb hi 21 (by kernel_rfl)))
       · exact hW.cl (21,20) (by decide) (Zb hi 21 (by kernel_rfl))
       · exact Zb hi 21 (by kernel_rfl)
       · exact hW.cl (23,22) (by decide) (Zb hi 23 (by kernel_rfl))
       · exact Zb hi 23 (by kernel_rfl)
       · exact absurd rfl hne
      exact Zh (Zbk (WS:=fun l9 w9=>Zcs 24 25 21 [(2,1),(3,2),(4,3),(8,7),(9,8),(10,9),(11,10),(13,12),(14,13),(15,14),(17,16),(18,17),(19,5),(19,6),(19,11),(19,15),(19,18),(20,19),(21,4),(21,20),(22,0),(23,22),(24,23),(24,21)] [(20,21)] (fun w9=>World.grownBy w.drew w9 vb) (fun w9=>w9.ownsRow w0.heap.size 131 5 (.slice pB c.blk.length cB) c.blk.length (blV c.blk)) (ibF w0.heap.size p k gF b o b9 cc fc.length c0 c.blk.length cB line (4:Int) pB pc (bs s) (blV c.blk) q2 gB cB9) (fun w9=>∃ (w8:World),World.grownBy w.drew w8 vb/\w8.ownsRow w0.heap.size 131 5 (.slice (some ⟨gB,0,none⟩) (c.blk.length+1) cB9) (c.blk.length+1) (blV c.blk++[.int .i64 line,.int .i64 (k:Int),.int .i64 (fc.length:Int),.string (bs s),.bool ((4:Int) == 4)])/\w9=w8.setCell ⟨p,6,none⟩ (.slice (some ⟨gB,0,none⟩) (c.blk.length+1) cB9)) l9 w9) hJ rfl rfl rfl (by decide) (by decide) (w':=w'.setCell ⟨p,6,none⟩ (.slice (some ⟨gB,0,none⟩) (c.blk.length+1) cB9)) (by simp [execOp,Act.eval,e130,e128,k1,j1,lb2,go_sem]) (Jh hW (by decide) (by decide) hall (Zj _ hi (by kernel_rfl)) (⟨w',hg,O21,rfl⟩))) (fun a9 w9 h9=>⟨q2,gB,cB9,h9⟩)
   case fin =>
    intro l9 a1 w9 hJJ hl9
    obtain ⟨q2,gB,cB9,hJ,hW⟩:=hJJ
    have hq:=hW.q (hl9 24 (by decide))
    have hput:=Xw hJ rfl hl9 (fun i j h1 h2 h3=>Yw j h2 i h1 h3)
    subst hput
    clear hJ hW hl9 c3 c6 x0 x1 x2 x3 e9
    obtain ⟨w8,q1,q4,rfl⟩:=hq
    (try refine hK22 _ _ ?_)
    simp only [Jy,ib,ibv,Act.put,List.setIfInBounds_toArray,List.set_cons_zero,List.set_cons_succ]
    have M:=Zvk (x:=⟨line,(k:Int),(fc.length:Int),s,(4:Int) == 4⟩) (Yr HA.out.ps (Zg (Zd w none))) q4 (by rw [hvb];exact q1)
    have HB:=Zf (Zf (Zf HA.out.hi (Zg (Zd w none)) (by simp)) q1 (fun e=>HNI (by rw [hvb];exact e.symm))) (Zo w8 p 6 (.slice (some ⟨gB,0,none⟩) (c.blk.length+1) cB9)) (fun e=>HPI e)
    have MM:=Hq M
    have HBB:=Hq HB
    clear q1 q4 M HB
    have HBC:=Hq (show Zws c line s ((4:Int) == 4)={ c with blk:=c.blk++[⟨line,(k:Int),(fc.length:Int),s,(4:Int) == 4⟩] } by
     unfold Zws
     simp only [HA.out.hk,Nat.add_sub_cancel,HFE.out])
    generalize w8.setCell ⟨p,6,none⟩ (.slice (some ⟨gB,0,none⟩) (c.blk.length+1) cB9)=w5 at *
    go_upto_region 28 with fail
    rename_i K28 hK28
    exact Znk w0 ww w5 p (m+1) k gF cF bi _ x n 0 vd vL _ bm cv lb _ MM.out.1 HA.out.hk HA.out.hv HBB.out (HA.out.ne _ _ HA.out.hv) (Zn (Zn HA.out.fr (Yk (Zg (Zd w none)))) MM.out.2) hm _ (by rw [<- HBC.out];rfl) _ ⟨rfl,rfl,rfl,rfl⟩ _ hK28
end Go.Proofs.YteciblfmgdlipaaGreatDoor.AS
