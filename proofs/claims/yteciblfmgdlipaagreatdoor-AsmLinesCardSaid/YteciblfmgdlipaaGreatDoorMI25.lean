/-
  Part of a proof: contracts of functions and lemmas, each stated by its own theorem. Conditions: as each theorem states.
-/
import Derived.Test.YteciblfmgdlipaaGreatDoorMI24
import Derived.Test.YteciblfmgdlipaaGreatDoorMI16
import Derived.Test.YteciblfmgdlipaaGreatDoorMI15
import Derived.Deep.QuietTactic
import Derived.BigQuiet
set_option linter.unusedSimpArgs false
set_option linter.unusedVariables false
set_option maxRecDepth 100000
set_option maxHeartbeats 16000000
namespace Go.Proofs.YteciblfmgdlipaaGreatDoor.AS
open Go.RowKit Go.Great CK
def Ybl (w:World) (r:Except (Int × Nat) PrP) (e:Ending) (w':World):Prop :=
 (match r with
   | .ok (mem,d,fs)=>∃ D F cv,e = .returned (.tuple #[.agg #[.int .i64 mem,D,F],.int .i64 0,.int .i64 0])/\Ztd w' w.heap.size D F (Zcq d) fs cv
   | .error (y,n)=>e = .returned (.tuple #[.agg #[.int .i64 0,.slice none 0 0,.slice none 0 0],.int .i64 y,.int .i64 (n:Int)]))/\w.grownBy w' none
theorem Zqf {w w':World} {r:Except (Int × Nat) PrP} {y:Int} {n:Nat} {e:Ending} (hr:r = .error (y,n)) (he:e = .returned (.tuple #[.agg #[.int .i64 0,.slice none 0 0,.slice none 0 0],.int .i64 y,.int .i64 (n:Int)])) (hg:w.grownBy w' none):Ybl w r e w':=by subst hr;exact ⟨he,hg⟩
theorem Zno {fn:Func} {p u v:Tmp} (hf:fn.results = #[.cell p 26,.tmp u,.tmp v]) {tmps:Array Value} {w:World} {b:Nat} {v0 v1 v2 f g:Value}
 (hp:tmps.getD p undef = .pointer (some ⟨b,0,none⟩)) (hu:tmps.getD u undef=f) (hv:tmps.getD v undef=g) (h:Zck w b v0 v1 v2) :
 (results fn tmps).run Tryz.prog w = .ok (.tuple #[.agg #[v0,v1,v2],f,g]) w:=by
 rw [Zfc hf,hp,hu,hv]
 have:(asAddr (.pointer (some ⟨b,0,none⟩))).run Tryz.prog w = .ok (⟨b,0,none⟩:Addr) w:=rfl
 rw [this]
 simp only [Result.andThen]
 rw [Zxd h]
abbrev Yeb:PrP->Int:=fun p=>Jl p.1 p.2.1.length p.2.2
theorem Ymd {t:Txt} {e:Int × Nat} (hl:¬ 65536<t.length) (h:Zcm TT St0 1 (Zci t) = .error e):Zaq TT Yeb t = .error e:=by
 unfold Zaq;rw [if_neg hl,h]
theorem Ygr {t:Txt} {s:St} {n:Nat} (hl:¬ 65536<t.length) (h:Zcm TT St0 1 (Zci t) = .ok s) (hf:Zhw s s.funcs s.wants = .error n):Zaq TT Yeb t = .error (142,n):=by
 unfold Zaq;rw [if_neg hl,h];simp only [hf]
theorem Yme {t:Txt} {s:St} {fs:List FnR} (hl:¬ 65536<t.length) (h:Zcm TT St0 1 (Zci t) = .ok s) (hf:Zhw s s.funcs s.wants = .ok fs) (he:Jl s.mem s.data.length fs≠0):Zaq TT Yeb t = .error (Jl s.mem s.data.length fs,0):=by
 unfold Zaq;rw [if_neg hl,h];simp only [hf,Yeb,if_neg he]
theorem Yru {t:Txt} {s:St} {fs:List FnR} (hl:¬ 65536<t.length) (h:Zcm TT St0 1 (Zci t) = .ok s) (hf:Zhw s s.funcs s.wants = .ok fs) (he:Jl s.mem s.data.length fs=0):Zaq TT Yeb t = .ok (s.mem,s.data,fs):=by
 unfold Zaq;rw [if_neg hl,h];simp only [hf,Yeb,if_pos he]
theorem Ycv (s:St) (l:Txt) (n:Nat):Zjv TT s l n=match Znn l with|none => .error 141|some (sd,big)=>Jv TT s sd big n:=by
 unfold Zjv Znn
 cases Zpm l with
 | none=>rfl
 | some ps =>
   simp only []
   cases Zdj TT ps <;> rfl
theorem Ybr {s:St} {sd:Sd} {big:Bool} {n:Nat} {y:Int} (h:Jv TT s sd big n = .error y):(y != 0)=true:=by
 have:y=141\/y=142\/y=143:=by
  unfold Jv at h
  split at h
  · injection h with h;omega
  · split at h
    · injection h with h;omega
    · cases sd with
      | nothing=>cases h
      | mem n=>cases h
      | data t=>cases h
      | fn nm a l r =>
        simp only [] at h
        split at h
        · injection h with h;omega
        · cases h
      | code lb ins =>
        simp only [] at h
        split at h
        · injection h with h;omega
        · split at h <;> cases h
 rcases this with rfl|rfl|rfl <;> rfl
theorem Yfx (w:World):RDA w (w.alloc (.cells #[.int .i64 0,.slice none 0 0,.slice none 0 0,.bool false,.slice none 0 0,.slice none 0 0,.slice none 0 0,.slice none 0 0] 83)) w.heap.size (Zgb St0):=by
 have nilr:∀ (t:TypeId) (sz:Nat) (w:World) (E:Nat),w.ownsRow E t sz (.slice none 0 0) 0 []:=fun t sz w E=>World.ownsRow_nil _ _ _ _
 refine ⟨.slice none 0 0,.slice none 0 0,.slice none 0 0,.slice none 0 0,.slice none 0 0,.slice none 0 0,[],[],[],Ga _ _ _,Nat.le_refl _,heap_alloc_new w _,⟨⟨nilr _ _ _ _,nilr _ _ _ _,rfl,?_,?_⟩,⟨rfl,?_,?_⟩,⟨rfl,?_,?_⟩,nilr _ _ _ _,nilr _ _ _ _,nilr _ _ _ _⟩⟩
 · intro k f v hf hv;simp at hv
 · intro k l v v' b hkl hv;simp at hv
 · intro i v x hv hx
   match i,hv,hx with
   | 0,hv,hx=>simp at hv;simp [Zgb,St0,Zcj] at hx;subst hv;subst hx;exact nilr _ _ _ _
 · intro i j v v' b hij hv hv' hb
   match i,hv with
   | 0,hv=>simp at hv;subst hv;cases hb
 · intro i v x hv;simp at hv
 · intro i j v v' b hij hv;simp at hv
theorem Ztw {w0 w:World} {p kf kp gC cC:Nat} {r:RS} {vD vF vN vL vP vW:Value} {cv lv pv:List Value} {a l k n:Int} {code:List (Int × Int)} (h:Zkg w0 w p r vD vF vN vL vP vW cv lv pv)
 (hf:r.funcs[kf]? = some (a,l,k,code)) (hv:cv[kf]? = some (.slice (some ⟨gC,0,none⟩) code.length cC)) (hp:kp<code.length) :
 Zkg w0 (w.setCell ⟨gC,kp*2+1,none⟩ (.int .i64 n)) p { r with funcs:=Zpl r.funcs kf kp n } vD vF vN vL vP vW cv lv pv:=by
 have I:=h.ins
 have ho:=I.own.each kf _ _ hf hv
 obtain ⟨⟨o,x⟩,hpx⟩:∃ z,code[kp]? = some z:=⟨_,List.getElem?_eq_getElem hp⟩
 rw [Yfi hf hpx]
 have hil:=(List.getElem?_eq_some_iff.1 hf).1
 obtain ⟨s1,g⟩:=ho.stored (kp*2+1) (.int .i64 n)
 simp only [] at s1
 rw [Zlp code kp o x n hpx] at s1
 have row:∀ {t:TypeId} {sz n':Nat} {v2:Value} {xs:List Value},w.ownsRow w0.heap.size t sz v2 n' xs->t≠58->(w.setCell ⟨gC,kp*2+1,none⟩ (.int .i64 n)).ownsRow w0.heap.size t sz v2 n' xs:=fun ho' t1=>ho'.kept g (Zh ho' ho t1)
 have fam:∀ {t:TypeId} {vs:List Value} {xs:List (List Value)},Fam w w0.heap.size t vs xs->t≠58->Fam (w.setCell ⟨gC,kp*2+1,none⟩ (.int .i64 n)) w0.heap.size t vs xs:=fun hF t1 =>
  ⟨hF.len,fun i v x hv hx=>row (hF.each i v x hv hx) t1,hF.dis⟩
 have hb:=Zf h.box g (Zn ho h.box (by decide))
 have hfl:Yv r.funcs cv=Yv (r.funcs.set kf (a,l,k,code.set kp (o,n))) cv:=by
  refine Zhp _ _ _ (by simp) fun j a' b' ha hb => ?_
  by_cases e:j=kf
  · subst e
    rw [hf] at ha
    rw [List.getElem?_set_self hil] at hb
    injection ha with ha;injection hb with hb
    subst ha;subst hb
    exact ⟨rfl,rfl,rfl⟩
  · rw [List.getElem?_set_ne (Ne.symm e)] at hb
    rw [ha] at hb
    injection hb with hb
    subst hb
    exact ⟨rfl,rfl,rfl⟩
 refine ⟨Yf h.gr g (fun b hb=>(World.ownsRow.lt ho b hb).1),h.ge,hb,⟨⟨row I.own.dt (by decide),by simp only [List.length_set];rw [<- hfl];exact row I.own.fr (by decide),by simp only [List.length_set];exact I.own.cl,fun j f v hj hjv => ?_,I.own.dis⟩,fam I.str (by decide),fam I.int (by decide),row I.lrow (by decide),row I.prow (by decide),row I.wrow (by decide)⟩⟩
 by_cases e:j=kf
 · subst e
   rw [List.getElem?_set_self hil] at hj
   injection hj with hj
   rw [hv] at hjv
   injection hjv with hjv
   subst hj;subst hjv
   simp only [List.length_set]
   exact s1
 · rw [List.getElem?_set_ne (Ne.symm e)] at hj
   have h1:=I.own.each j f v hj hjv
   refine h1.kept g ?_
   cases hb:v.ownBlock with
   | none=>exact Or.inl rfl
   | some q=>exact Or.inr (fun e2=>I.own.dis j kf v _ q e hjv hv hb e2.symm)
def WtB (w:World) (b:Nat) (x:Zdz):Prop:=w.heap[b]? = some (.cells #[.int .i64 (x.fn:Int),.int .i64 (x.pl:Int),.int .i64 (x.line:Int),.string (bs x.word),.bool x.jump] 91 (0,0))
structure WtC (w:World) (b:Nat) (x:Zdz):Prop where
 c0:w.cell? ⟨b,0,none⟩=some (.int .i64 (x.fn:Int))
 c1:w.cell? ⟨b,1,none⟩=some (.int .i64 (x.pl:Int))
 c2:w.cell? ⟨b,2,none⟩=some (.int .i64 (x.line:Int))
 c3:w.cell? ⟨b,3,none⟩=some (.string (bs x.word))
 c4:w.cell? ⟨b,4,none⟩=some (.bool x.jump)
 lt:b<w.heap.size
theorem Zyt {w:World} {b:Nat} {x:Zdz} (h:WtB w b x):WtC w b x:=⟨Cq w _ 0 _ _ _ h,Cq w _ 1 _ _ _ h,Cq w _ 2 _ _ _ h,Cq w _ 3 _ _ _ h,Cq w _ 4 _ _ _ h,(Gs h)⟩
theorem Zhy {w0 w:World} {p:Nat} {s:St} {fs:List FnR} {vD vF vN vL vP vW:Value} {cv lv pv:List Value} (h:Zkg w0 w p (Zgb { s with funcs:=fs }) vD vF vN vL vP vW cv lv pv):RdC w p s.mem vD vF s.memSet vN vL vP vW:=Zbn h.box
def tpA:Nat->Nat
 | 0=>69
 | 1=>70
 | 2=>71
 | 3=>72
 | 4=>73
 | 5=>74
 | 6=>75
 | 7=>13
 | _=>5000
theorem Zjg:∀ i,i<8->∀ j,j<8->j≠i->tpA j≠tpA i:=by decide
theorem Yen (i:Nat) (h:i<8):i=0\/i=1\/i=2\/i=3\/i=4\/i=5\/i=6\/i=7:=by omega
theorem Yeo (j:Nat) (hj:j∈[6,12]):∀ i,i<8->tpA i≠j:=by revert j;decide
def Ydx (p b12 nN cN:Nat) (pN:Option Addr) (tx:ByteArray) (hv:Int):Nat->Value
 | 0 => .pointer (some ⟨p,0,none⟩)
 | 1 => .pointer (some ⟨p,0,none⟩)
 | 2 => .pointer (some ⟨p,4,none⟩)
 | 3 => .slice pN nN cN
 | 4 => .pointer (some ⟨b12,3,none⟩)
 | 5 => .string tx
 | 6 => .int .i64 hv
 | 7 => .int .i64 hv
 | _=>undef
def Yye (p b12 nN cN:Nat) (pN:Option Addr) (tx:ByteArray) (hv:Int)  : Nat->World->Prop
 | 6=>fun _=>True
 | _=>fun _=>True
theorem Yuk {p b12 nN cN:Nat} {pN:Option Addr} {tx:ByteArray} {hv:Int}   {l:Array Bool} (hcl:∀ p∈([(1,0),(2,1),(3,2),(5,4),(6,3),(6,5),(7,6)]:List (Nat × Nat)),l.getD (Prod.fst p) false=true->l.getD (Prod.snd p) false=true) (hun:l.getD 6 false=false):∀ i,i<8->l.getD i false=true->tpA i<135->Ydx p b12 nN cN pN tx hv  i=Ydx p b12 nN cN pN tx hv  i:=by
 intro i hi hl _
 rcases Yen i hi with rfl|rfl|rfl|rfl|rfl|rfl|rfl|rfl <;> rfl
def tpB:Nat->Nat
 | 0=>78
 | 1=>79
 | 2=>80
 | 3=>81
 | 4=>82
 | 5=>83
 | 6=>84
 | 7=>85
 | 8=>86
 | 9=>87
 | 10=>88
 | 11=>13
 | _=>5000
theorem Zfa:∀ i,i<12->∀ j,j<12->j≠i->tpB j≠tpB i:=by decide
theorem Yem (i:Nat) (h:i<12):i=0\/i=1\/i=2\/i=3\/i=4\/i=5\/i=6\/i=7\/i=8\/i=9\/i=10\/i=11:=by omega
theorem Zwi (j:Nat) (hj:j∈[6,12]):∀ i,i<12->tpB i≠j:=by revert j;decide
def Zwc (p b12 kf gL nL cL nl cl:Nat) (pl:Option Addr) (tx:ByteArray) (hv:Int):Nat->Value
 | 0 => .pointer (some ⟨p,0,none⟩)
 | 1 => .pointer (some ⟨p,0,none⟩)
 | 2 => .pointer (some ⟨p,5,none⟩)
 | 3 => .slice (some ⟨gL,0,none⟩) nL cL
 | 4 => .pointer (some ⟨b12,0,none⟩)
 | 5 => .int .i64 (kf:Int)
 | 6 => .pointer (some ⟨gL,kf,none⟩)
 | 7 => .slice pl nl cl
 | 8 => .pointer (some ⟨b12,3,none⟩)
 | 9 => .string tx
 | 10 => .int .i64 hv
 | 11 => .int .i64 hv
 | _=>undef
def Yyd (p b12 kf gL nL cL nl cl:Nat) (pl:Option Addr) (tx:ByteArray) (hv:Int)  : Nat->World->Prop
 | 10=>fun _=>True
 | _=>fun _=>True
theorem Yqf {p b12 kf gL nL cL nl cl:Nat} {pl:Option Addr} {tx:ByteArray} {hv:Int}   {l:Array Bool} (hcl:∀ p∈([(1,0),(2,1),(3,2),(5,4),(6,3),(6,5),(7,6),(9,8),(10,7),(10,9),(11,10)]:List (Nat × Nat)),l.getD (Prod.fst p) false=true->l.getD (Prod.snd p) false=true) (hun:l.getD 10 false=false):∀ i,i<12->l.getD i false=true->tpB i<135->Zwc p b12 kf gL nL cL nl cl pl tx hv  i=Zwc p b12 kf gL nL cL nl cl pl tx hv  i:=by
 intro i hi hl _
 rcases Yem i hi with rfl|rfl|rfl|rfl|rfl|rfl|rfl|rfl|rfl|rfl|rfl|rfl <;> rfl
def tpC:Nat->Nat
 | 0=>107
 | 1=>108
 | 2=>109
 | 3=>110
 | 4=>111
 | 5=>112
 | 6=>113
 | 7=>114
 | 8=>115
 | 9=>116
 | 10=>117
 | 11=>118
 | 12=>119
 | 13=>120
 | 14=>121
 | 15=>1015
 | _=>5000
theorem Je:∀ i,i<16->∀ j,j<16->j≠i->tpC j≠tpC i:=by decide
theorem Yoy (i:Nat) (h:i<16):i=0\/i=1\/i=2\/i=3\/i=4\/i=5\/i=6\/i=7\/i=8\/i=9\/i=10\/i=11\/i=12\/i=13\/i=14\/i=15:=by omega
theorem Zgj (j:Nat) (hj:j∈[6,12,13]):∀ i,i<16->tpC i≠j:=by revert j;decide
def Zhm (p b12 kf kp gF nF cF gC nc cc n:Nat):Nat->Value
 | 0 => .pointer (some ⟨p,0,none⟩)
 | 1 => .pointer (some ⟨p,0,none⟩)
 | 2 => .pointer (some ⟨p,0,none⟩)
 | 3 => .pointer (some ⟨p,2,none⟩)
 | 4 => .slice (some ⟨gF,0,none⟩) nF cF
 | 5 => .pointer (some ⟨b12,0,none⟩)
 | 6 => .int .i64 (kf:Int)
 | 7 => .pointer (some ⟨gF,kf*4,none⟩)
 | 8 => .pointer (some ⟨gF,kf*4+3,none⟩)
 | 9 => .slice (some ⟨gC,0,none⟩) nc cc
 | 10 => .pointer (some ⟨b12,1,none⟩)
 | 11 => .int .i64 (kp:Int)
 | 12 => .int .i64 (n:Int)
 | 13 => .pointer (some ⟨gC,kp*2,none⟩)
 | 14 => .pointer (some ⟨gC,kp*2+1,none⟩)
 | 15=>undef
 | _=>undef
def Ywg (p b12 kf kp gF nF cF gC nc cc n:Nat)  : Nat->World->Prop
 | _=>fun _=>True
theorem Ybz (t:Txt) (w:World):Calls Tryz.prog 14 #[.string (bs t)] w (Ybl w (Zaq TT Yeb t)):=by
 have hz:=Zl t
 by_cases hl:65536<t.length
 · have HR:=Hq (show Zaq TT Yeb t = .error (2,0) by unfold Zaq;rw [if_pos hl])
   have hi:(t.length:Int)>65536:=by omega
   clear hl
   go_enter Tryz.func14,Tryz.ntmps14
   go_wp2
   have hb:=heap_alloc_new w (.cells #[.int .i64 0,.slice none 0 0,.slice none 0 0] 26)
   refine bodyPost_ret (Zno rfl rfl rfl rfl (show Zck _ _ _ _ _ from hb)) rfl ?_
   exact Zqf HR.out rfl (Ga _ _ _)
 · have hi:¬ (t.length:Int)>65536:=by omega
   obtain ⟨L,hL⟩:∃ L,Zcm TT St0 1 (Zci t)=L:=⟨_,rfl⟩
   have PE:=Hq (fun e (h:L = .error e)=>Ymd hl (hL.trans h))
   have PF:=Hq (fun s n (h:L = .ok s)=>Ygr (n:=n) hl (hL.trans h))
   have PC:=Hq (fun s fs (h:L = .ok s)=>Yme (fs:=fs) hl (hL.trans h))
   have PO:=Hq (fun s fs (h:L = .ok s)=>Yru (fs:=fs) hl (hL.trans h))
   have HL:=Hq hL
   have hct:=Zoy t
   have hcl:=Zox (Zci t)
   clear hL
   obtain ⟨RR,hRR⟩:∃ RR,Zaq TT Yeb t=RR:=⟨_,rfl⟩
   rw [hRR] at PE PF PC PO ⊢
   clear hRR
   have LN0:=Yhl t (by omega) (w.alloc (.cells #[.int .i64 0,.slice none 0 0,.slice none 0 0] 26))
   go_enter Tryz.func14,Tryz.ntmps14
   go_upto_region 3 with fail
   have B1:=heap_alloc_new w (.cells #[.int .i64 0,.slice none 0 0,.slice none 0 0] 26)
   have g1:=Ga w (.cells #[.int .i64 0,.slice none 0 0,.slice none 0 0] 26) none
   have hs1:=World.size_alloc w (.cells #[.int .i64 0,.slice none 0 0,.slice none 0 0] 26)
   have LC:=Hq LN0
   clear LN0
   generalize w.alloc (.cells #[.int .i64 0,.slice none 0 0,.slice none 0 0] 26)=w1 at *
   obtain ⟨r0,hr0⟩:∃ r0,w.heap.size=r0:=⟨_,rfl⟩
   rw [hr0] at B1 hs1 ⊢
   have hr0':w.heap.size<=r0:=by omega
   clear hr0
   have BX1:=Hq (show Zck w1 r0 _ _ _ from B1)
   have G01:=Hq g1
   clear B1 g1
   obtain ⟨ls,hls⟩:∃ ls,Zci t=ls:=⟨_,rfl⟩
   rw [hls] at LC HL hct hcl
   clear hls
   have hn70:(ls.length:Int)<=70000:=by omega
   go_upto_region 4 with (go_at_call 31;refine LC.out.mono ?_;rintro e w2 ⟨⟨lsp,lsk,rfl,hrow⟩,hg2⟩;have RW:=Hq hrow;have G1:=Hq (Za G01.out hg2);have BX:=Hq (show Zck w2 r0 _ _ _ from Zf BX1.out hg2 (by simp));have hr1:=Nat.lt_of_lt_of_le (show r0<w1.heap.size by omega) hg2.size;clear hg2 hrow)
   clear LC BX1 G01
   have P2:=Hq (Yfx w2)
   go_upto_region 5 with fail
   generalize w2.alloc (.cells #[.int .i64 0,.slice none 0 0,.slice none 0 0,.bool false,.slice none 0 0,.slice none 0 0,.slice none 0 0,.slice none 0 0] 83)=w3 at P2 ⊢
   obtain ⟨p,hp⟩:∃ p,w2.heap.size=p:=⟨_,rfl⟩
   rw [hp] at P2 ⊢
   clear hp hs1
   go_wp2
   go_loopw [7] (fun i wr=>∃ (k:Nat) (s:St) (m:Nat),i = .int .i64 k/\k<=ls.length/\Zcm TT s (k+1) (ls.drop k)=L/\Yom s m/\Ywm s m/\m+Zls (ls.drop k)<=262146/\RDA w2 wr p (Zgb s)) (fun i _=>ls.length - (intOf i).toNat)
   case atStart=>exact ⟨0,St0,0,rfl,Nat.zero_le _,HL.out,Ybt,Ybu,by simp only [List.drop_zero];omega,P2.out⟩
   case round =>
    obtain ⟨k,s,m,rfl,hk,hln,hS,hI,hcost,hps⟩:=hrel
    have LN:=Hq hln
    have HS:=Hq hS
    have HI:=Hq hI
    have PR:=Hq hps
    have hgr:w2.grownBy wr none:=by obtain ⟨_,_,_,_,_,_,_,_,_,h⟩:=hps;exact h.gr
    have GR:=Hq hgr
    clear hln hS hI hps
    by_cases hkl:k<ls.length
    · obtain ⟨l,hkk⟩:∃ l,ls[k]? = some l:=⟨_,List.getElem?_eq_getElem hkl⟩
      obtain ⟨bl,cl,el,hbl,hcl9⟩:=Zv RW.out (by omega)
      injection el with el eL9 eC9
      (try clear eL9)
      (try clear eC9)
      subst el
      have x0:wr.cell? ⟨bl,k,none⟩=some (.string (bs l)):=GR.out.cell (hcl9 k _ (by rw [List.getElem?_map,hkk];rfl) (by omega)) (by simp)
      have hbl2:bl<wr.heap.size:=Nat.lt_of_lt_of_le hbl GR.out.size
      have hcd:=Zlr ls k l hkk
      have hcle:=Zta ls k
      have hdr:ls.drop k=l::ls.drop (k+1):=by rw [List.drop_eq_getElem_cons hkl];congr 1;exact (List.getElem?_eq_some_iff.1 hkk).2
      have HST:=Hq (show (match Zjv TT s l (k+1) with | .error e => .error (e,k+1) | .ok s1=>Zcm TT s1 (k+1+1) (ls.drop (k+1)))=L by rw [<- LN.out,hdr];rfl)
      rw [Ycv] at HST
      have SA:=Hq (Yfm l (by omega) wr)
      have BX4:=Hq (show Zck wr r0 _ _ _ from Zf BX.out GR.out (by simp))
      clear hkk hdr hcl9 hgr
      cases hsp:Znn l with
      | none =>
        rw [hsp] at HST SA
        have HE:=Hq (PE.out _ HST.out.symm)
        clear hsp
        go_wp2_with (go_at_call 32;refine SA.out.mono ?_;rintro e w4 ⟨⟨v9,⟨q1,q2,q3,q4,q5,q6,q7,q8,q9,q10,q11,q12,q13,rfl⟩,rfl⟩,hg4⟩;have G4:=Hq (Za G1.out (Za GR.out hg4));have B4:=Hq (show Zck w4 r0 _ _ _ from Zf BX4.out hg4 (by simp));obtain ⟨k0,k1,k2,z0,z1,z2,hlt4⟩:=Zab B4.out;clear hg4)
        refine bodyPost_ret (Zno rfl rfl rfl rfl (Zf (Zaw B4.out) (Ga _ _ none) (by simp))) rfl ?_
        exact Zqf HE.out rfl (Za (Zrv G4.out (by omega)) (Ga _ _ none))
      | some sb =>
        obtain ⟨sd,big⟩:=sb
        rw [hsp] at HST SA
        obtain ⟨hok,hcs⟩:=Yky hsp
        have hin:=Ykz hsp
        simp only [] at HST
        clear hsp
        go_upto_region 11 with (go_at_call 32;refine SA.out.mono ?_;rintro e w4 ⟨⟨lp,lc,rfl,hrow⟩,hg4⟩;have G4:=Hq hg4;have ROW:=Hq hrow;clear hg4 hrow)
        generalize hx9:sdF sd lp lc big=x9 at *
        have B6:=Zcp w4 (.int .i64 x9.kind) (.slice x9.lp x9.ln x9.lc) (.string (bs x9.name)) (.int .i64 x9.n0) (.int .i64 x9.n1) (.int .i64 x9.n2) (.string (bs x9.data)) (.int .i64 x9.op) (.int .i64 x9.a) (.string (bs x9.word)) (.bool x9.big)
        have gA:=Ga w4 (.cells #[.int .i64 x9.kind,.slice x9.lp x9.ln x9.lc,.string (bs x9.name),.int .i64 x9.n0,.int .i64 x9.n1,.int .i64 x9.n2,.string (bs x9.data),.int .i64 x9.op,.int .i64 x9.a,.string (bs x9.word),.bool x9.big] 86 (0,0)) none
        have TK0:=Ykp w2 wr (w4.alloc (.cells #[.int .i64 x9.kind,.slice x9.lp x9.ln x9.lc,.string (bs x9.name),.int .i64 x9.n0,.int .i64 x9.n1,.int .i64 x9.n2,.string (bs x9.data),.int .i64 x9.op,.int .i64 x9.a,.string (bs x9.word),.bool x9.big] 86 (0,0))) p m (k+1) s sd big lp lc PR.out (Za G4.out gA) (World.ownsRow.kept ROW.out gA (Yw ROW.out)) hok HS.out (by omega)
        rw [hx9] at TK0
        have TK:=Hq TK0
        obtain ⟨d0,d1,d2,d3,d4,d5,d6,d7,d8,d9,d10,dz,hlb⟩:=Zr B6
        have BX6:=Hq (show Zck _ r0 _ _ _ from Zf BX4.out (Za G4.out gA) (by simp))
        generalize w4.alloc (.cells #[.int .i64 x9.kind,.slice x9.lp x9.ln x9.lc,.string (bs x9.name),.int .i64 x9.n0,.int .i64 x9.n1,.int .i64 x9.n2,.string (bs x9.data),.int .i64 x9.op,.int .i64 x9.a,.string (bs x9.word),.bool x9.big] 86 (0,0))=w6 at *
        clear TK0 B6 gA hx9 ROW SA
        have hc1:((k+1:Nat):Int)=(k:Int)+1:=by omega
        rw [hc1] at TK
        cases hte:Jv TT s sd big (k+1) with
        | error y =>
          have hy:=Ybr hte
          rw [hte] at HST TK
          have HE:=Hq (PE.out _ HST.out.symm)
          clear hte
          go_wp2_with (go_at_call 33;refine TK.out.mono ?_;rintro e w7 ⟨rfl,hg7⟩;have G7:=Hq (Za G1.out hg7);have B4:=Hq (show Zck w7 r0 _ _ _ from Zf BX.out hg7 (by simp));obtain ⟨k0,k1,k2,z0,z1,z2,hlt4⟩:=Zab B4.out;clear hg7)
          refine bodyPost_ret (Zno rfl rfl rfl rfl (Zaw B4.out)) rfl ?_
          exact Zqf HE.out rfl (Zrv G7.out (by omega))
        | ok s' =>
          have HS2:=Hq (Yfa HS.out hte)
          have HI2:=Hq (Yfb HI.out HS.out hin (show m<=m+sdC sd by omega) hte)
          rw [hte] at HST TK
          clear hte
          go_wp2_with (go_at_call 33;refine TK.out.mono ?_;rintro e w7 ⟨rfl,hr7⟩;have R7:=Hq hr7;clear hr7)
          exact ⟨⟨k+1,s',_,by go_num,by omega,HST.out,HS2.out,HI2.out,by omega,R7.out⟩,by simp [intOf];omega⟩
    · have hkn:k=ls.length:=by omega
      subst hkn
      have HOK:=Hq (show L = .ok s by have:=LN.out;rw [List.drop_length] at this;exact this.symm)
      obtain ⟨FL,hFL⟩:∃ FL,Zhw s s.funcs s.wants=FL:=⟨_,rfl⟩
      have HFL:=Hq hFL
      have hwl:=HS.out.z7
      have hcost':m<=262146:=by omega
      have hz2:=HS.out.z2
      have he1:=Nat.le_of_eq HS.out.e1
      have he1b:=Nat.le_of_eq HS.out.e1.symm
      have he2:=Nat.le_of_eq HS.out.e2
      have he2b:=Nat.le_of_eq HS.out.e2.symm
      clear hFL hkl hk hgr GR
      go_wp2
      go_loopw [11] (fun i wr=>∃ (j:Nat) (fs:List FnR),i = .int .i64 j/\j<=s.wants.length/\Zhw s fs (s.wants.drop j)=FL/\Zvx s.funcs fs/\InF fs/\RDA w2 wr p (Zgb { s with funcs:=fs })) (fun i _=>s.wants.length - (intOf i).toNat)
      case atStart=>exact ⟨0,s.funcs,rfl,Nat.zero_le _,HFL.out,Znm _,HI.out.inf,PR.out⟩
      case round =>
       obtain ⟨j,fs,rfl,hj,hfl,hsh,hin,hps⟩:=hrel
       have FF:=Hq hfl
       have SH:=Hq hsh
       have IN:=Hq hin
       obtain ⟨vD,vF,vN,vL,vP,vW,cv,lv,pv,hA⟩:=hps
       have A:=Hq hA
       clear hfl hsh hin hA
       have hfsl:fs.length<=s.funcs.length:=Nat.le_of_eq SH.out.1.symm
       have hfsl2:s.funcs.length<=fs.length:=Nat.le_of_eq SH.out.1
       obtain ⟨pW,cW,eW⟩:=Zi A.out.ins.wrow
       replace eW:vW = .slice pW s.wants.length cW:=eW
       subst eW
       obtain ⟨c0,c1,c2,c3,c4,c5,c6,c7,zr0,zr1,zr2,zr3,zr4,zr5,zr6,zr7,hlt⟩:=Zhy A.out
       by_cases hjl:j<s.wants.length
       · obtain ⟨x,hx⟩:∃ x,s.wants[j]? = some x:=⟨_,List.getElem?_eq_getElem hjl⟩
         obtain ⟨gW,cW',eW,hgW,hcW⟩:=Zv A.out.ins.wrow (show 0<s.wants.length by omega)
         injection eW with eW eL9 eC9
         (try clear eL9)
         (try clear eC9)
         subst eW
         obtain ⟨w0',w1',w2',w3',w4'⟩:=Yec s.wants j x hx
         have x0:wr.cell? ⟨gW,j*5,none⟩=some (.int .i64 (x.fn:Int)):=hcW _ _ w0' (show j*5<s.wants.length*5 by omega)
         have x1:wr.cell? ⟨gW,j*5+1,none⟩=some (.int .i64 (x.pl:Int)):=hcW _ _ w1' (show j*5+1<s.wants.length*5 by omega)
         have x2:wr.cell? ⟨gW,j*5+2,none⟩=some (.int .i64 (x.line:Int)):=hcW _ _ w2' (show j*5+2<s.wants.length*5 by omega)
         have x3:wr.cell? ⟨gW,j*5+3,none⟩=some (.string (bs x.word)):=hcW _ _ w3' (show j*5+3<s.wants.length*5 by omega)
         have x4:wr.cell? ⟨gW,j*5+4,none⟩=some (.bool x.jump):=hcW _ _ w4' (show j*5+4<s.wants.length*5 by omega)
         have hjli:(j:Int)<(s.wants.length:Int):=by omega
         have hdr:s.wants.drop j=x::s.wants.drop (j+1):=by rw [List.drop_eq_getElem_cons hjl];congr 1;exact (List.getElem?_eq_some_iff.1 hx).2
         obtain ⟨f0,hf0,hpl0⟩:=HS.out.wt x (List.mem_of_getElem? hx)
         have hxf:x.fn<fs.length:=Nat.lt_of_lt_of_le (List.getElem?_eq_some_iff.1 hf0).1 hfsl2
         obtain ⟨⟨fa,fl,fr,code⟩,hfk⟩:∃ f,fs[x.fn]? = some f:=⟨_,List.getElem?_eq_getElem hxf⟩
         have hcl:=SH.out.2 _ _ _ hf0 hfk
         simp only [] at hcl
         have hplc:x.pl<code.length:=by omega
         have FX:=Hq (show (match Zmo s x with|none => .error x.line|some n=>Zhw s (Zpl fs x.fn x.pl n) (s.wants.drop (j+1)))=FL by rw [<- FF.out,hdr];rfl)
         clear w0' w1' w2' w3' w4' hcW hx hdr hf0 hpl0 hcl f0
         go_upto_region 18 with fail
         (try rename_i K18 hK18)
         have WB:=Hq (show WtB (wr.alloc (.cells #[.int .i64 (x.fn:Int),.int .i64 (x.pl:Int),.int .i64 (x.line:Int),.string (bs x.word),.bool x.jump] 91 (0,0))) wr.heap.size x from heap_alloc_new wr _)
         have A2:=Hq (Zs A.out (Ga wr (.cells #[.int .i64 (x.fn:Int),.int .i64 (x.pl:Int),.int .i64 (x.line:Int),.string (bs x.word),.bool x.jump] 91 (0,0)) none))
         generalize wr.alloc (.cells #[.int .i64 (x.fn:Int),.int .i64 (x.pl:Int),.int .i64 (x.line:Int),.string (bs x.word),.bool x.jump] 91 (0,0))=W5 at WB A2 ⊢
         have hb12:r0≠wr.heap.size:=by have:=A.out.gr.size;omega
         have hb21:wr.heap.size≠r0:=Ne.symm hb12
         generalize wr.heap.size=b12 at WB hb12 hb21 ⊢
         clear A x0 x1 x2 x3 x4 hgW
         have A:=A2
         clear A2
         clear c0 c1 c2 c3 c4 c5 c6 c7 zr0 zr1 zr2 zr3 zr4 zr5 zr6 zr7 hlt
         obtain ⟨pN,cN,eN⟩:=Zi (A.out.ins.str.each 0 vN _ rfl rfl)
         rw [Jh] at eN
         replace eN:vN = .slice pN s.names.length cN:=eN
         subst eN
         obtain ⟨c0,c1,c2,c3,c4,c5,c6,c7,zr0,zr1,zr2,zr3,zr4,zr5,zr6,zr7,hlt⟩:=Zhy A.out
         obtain ⟨y0,y1,y2,y3,y4,hlb⟩:=Zyt WB.out
         obtain ⟨hv1,hhv1⟩:∃ hv1,Zmd s.names x.word=hv1:=⟨_,rfl⟩
         have ON:W5.ownsRow w2.heap.size 9 1 (.slice pN s.names.length cN) s.names.length (Zcj s.names):=by
          have:=A.out.ins.str.each 0 _ _ rfl rfl
          rw [Jh] at this
          exact this
         have HC:=Hq (fun w' (g:W5.grownBy w' none)=>Zol s.names x.word pN cN w' (Zez (Zgi ON) g) (by omega))
         rw [hhv1] at HC
         have HV1:=Hq hhv1
         clear ON hhv1
         refine Yd (n:=8) (J:=fun a0 l a1 w1=>RJ a0 135 8 tpA (Ydx p b12 s.names.length cN pN (bs x.word) hv1 ) l a1/\Zas 8 8 6 [(1,0),(2,1),(3,2),(5,4),(6,3),(6,5),(7,6)] [] (fun w9=>World.grownBy W5.drew w9 none) (fun _=>True) (Yye p b12 s.names.length cN pN (bs x.word) hv1 ) (fun _=>True) l w1) (by kernel_rfl) rfl (Yt (by kernel_rfl)) (fun l a1 w1 h=>by obtain ⟨h,_⟩:=h;exact h.sz) ⟨Yc rfl,Zu (Zb _ _) (True.intro)⟩ ?step ?fin
         case step =>
          intro l a1 w' i hJJ hi hin
          obtain ⟨hJ,hW⟩:=hJJ
          have hun:l.getD i false=false:=getD_both (mem_ready.1 hi).1
          have hns:=Xe hW hin hun
          have hg:=hW.g hns
          have l0:=Nat.lt_of_lt_of_le hlt hg.size
          have l1:=Nat.lt_of_lt_of_le hlb hg.size
          rcases Yen i hin with rfl|rfl|rfl|rfl|rfl|rfl|rfl|rfl
          · have e6:a1.tmps.getD 6 undef = .pointer (some ⟨p,0,none⟩):=hJ.un 6 (fun i hi _=>Yeo 6 (by decide) i hi)
            exact Zd hJ hW hi hun (hne:=Zjg _ (by decide)) (hrun:=by simp [execOp,Act.eval,e6,go_sem,Ydx])
          · have e69:a1.tmps.getD 69 undef = .pointer (some ⟨p,0,none⟩):=rjt hJ hi 0
            exact Zd hJ hW hi hun (hne:=Zjg _ (by decide)) (hrun:=by simp [execOp,Act.eval,e69,go_sem,Ydx])
          · have e70:a1.tmps.getD 70 undef = .pointer (some ⟨p,0,none⟩):=rjt hJ hi 1
            exact Zd hJ hW hi hun (hne:=Zjg _ (by decide)) (hrun:=by simp [execOp,Act.eval,e70,go_sem,Ydx])
          · have e71:a1.tmps.getD 71 undef = .pointer (some ⟨p,4,none⟩):=rjt hJ hi 2
            have h0:=hg.cell c4 (by simp)
            exact Zd hJ hW hi hun (hne:=Zjg _ (by decide)) (hrun:=by simp [execOp,Act.eval,e71,h0,l0,l1,go_sem,Ydx])
          · have e12:a1.tmps.getD 12 undef = .pointer (some ⟨b12,0,none⟩):=hJ.un 12 (fun i hi _=>Yeo 12 (by decide) i hi)
            exact Zd hJ hW hi hun (hne:=Zjg _ (by decide)) (hrun:=by simp [execOp,Act.eval,e12,go_sem,Ydx])
          · have e73:a1.tmps.getD 73 undef = .pointer (some ⟨b12,3,none⟩):=rjt hJ hi 4
            have h0:=hg.cell y3 (by simp)
            exact Zd hJ hW hi hun (hne:=Zjg _ (by decide)) (hrun:=by simp [execOp,Act.eval,e73,h0,l0,l1,go_sem,Ydx])
          · have e72:a1.tmps.getD 72 undef = .slice pN s.names.length cN:=rjt hJ hi 3
            have e74:a1.tmps.getD 74 undef = .string (bs x.word):=rjt hJ hi 5
            refine Ya rfl (by rfl) (by simp [execOp,resolve,invoke,Act.eval,e72,e74,go_sem]) (Calls.mono (HC.out w' (Za (Ze (Zb W5 none)) hg)) (fun e w2 he => ?_))
            obtain ⟨rfl,hg2⟩:=he
            refine ⟨_,rfl,?_,Zo hW (by decide) hun (by decide) (Zg _ hi (by kernel_rfl)) (Za hg hg2) (fun hne0 hun0 hB0=>True.intro) (fun j hj hne hl hcu hF => ?_) (True.intro)⟩
            · exact Yg (val:=Ydx p b12 s.names.length cN pN (bs x.word) hv1 ) (Yj hJ (Yuk hW.cl hun)) (by decide) (by decide) (Zjg _ (by decide))
            · rcases Yen j hj with rfl|rfl|rfl|rfl|rfl|rfl|rfl|rfl <;> first|exact True.intro|exact absurd rfl hne
          · have e75:a1.tmps.getD 75 undef = .int .i64 hv1:=rjt hJ hi 6
            exact Zd hJ hW hi hun (hne:=Zjg _ (by decide)) (hrun:=by simp [execOp,Act.eval,e75,l0,l1,go_sem,Ydx])
         case fin =>
          intro l9 a1 w9 hJJ hl9
          obtain ⟨hJ,hW⟩:=hJJ
          have hg9:=Za (Ze (Zb W5 none)) (hW.g (Ju hW))
          have hput:=Ys hJ rfl hl9 (fun i j h1 h2 h3=>Zjg j h2 i h1 h3)
          subst hput
          clear hJ hW hl9
          (try refine hK18 _ _ ?_)
          simp only [Ja,tpA,Ydx,Act.put,List.setIfInBounds_toArray,List.set_cons_zero,List.set_cons_succ]
          have A:=Hq (Zs A.out hg9)
          have WB:=Hq (show WtB w9 b12 x from Zf WB.out hg9 (by simp))
          clear hg9 HC
          clear c0 c1 c2 c3 c4 c5 c6 c7 zr0 zr1 zr2 zr3 zr4 zr5 zr6 zr7 hlt
          clear y0 y1 y2 y3 y4 hlb
          generalize w9=W6 at A WB ⊢
          obtain ⟨c0,c1,c2,c3,c4,c5,c6,c7,zr0,zr1,zr2,zr3,zr4,zr5,zr6,zr7,hlt⟩:=Zhy A.out
          obtain ⟨y0,y1,y2,y3,y4,hlb⟩:=Zyt WB.out
          try clear K18
          conv=>arg 2;whnf
          cases hjump:x.jump with
          | false =>
            rw [hjump] at y4
            rcases Yip (s:=s) hjump with ⟨f1,f2⟩|⟨n,f1,f2,f3⟩
            · rw [f1] at FX
              have f4:=HV1.out.symm.trans f2
              subst f4
              have HE:=Hq (PF.out s _ HOK.out (HFL.out.trans FX.out.symm))
              clear f1 f2
              go_upto_region 24 with fail
              have B4:=Hq (show Zck W6 r0 _ _ _ from Zf BX.out A.out.gr (by simp))
              obtain ⟨k0,k1,k2,z0,z1,z2,hlt4⟩:=Zab B4.out
              go_region
              go_wp2
              refine bodyPost_ret (Zno rfl rfl rfl rfl (Zaw B4.out)) rfl ?_
              exact Zqf HE.out rfl (Ze (Zrv (Za G1.out A.out.gr) (by omega)))
            · rw [f1] at FX
              have f4:=HV1.out.symm.trans f2
              subst f4
              have hn64:n<=1000000:=by omega
              have hn0:¬ ((n:Int)<0):=by omega
              clear f1 f2 f3
              go_upto_region 25 with fail
              (try rename_i K25 hK25)
              obtain ⟨W7,hW7⟩:∃ W7,W7=W6:=⟨_,rfl⟩
              subst hW7
              obtain ⟨vc,hvc⟩:∃ vc,cv[x.fn]? = some vc:=⟨_,List.getElem?_eq_getElem (by rw [A.out.ins.own.cl];exact hxf)⟩
              have OC:=A.out.ins.own.each x.fn _ _ hfk hvc
              obtain ⟨gC,cc,ec,hgC,hcC⟩:=Zv OC (show 0<code.length by omega)
              replace ec:vc = .slice (some ⟨gC,0,none⟩) code.length cc:=ec
              subst ec
              obtain ⟨⟨co,ca⟩,hcp⟩:∃ z,code[x.pl]? = some z:=⟨_,List.getElem?_eq_getElem hplc⟩
              have xk:W7.cell? ⟨gC,x.pl*2+1,none⟩=some (.int .i64 ca):=hcC _ _ (Zfg code x.pl co ca hcp).2 (show x.pl*2+1<code.length*2 by omega)
              have zk:W7.frozen? ⟨gC,x.pl*2+1,none⟩=false:=Zbe OC _
              obtain ⟨gF,cF,eF,hgF,hcF⟩:=Zv A.out.ins.own.fr (show 0<fs.length by omega)
              replace eF:vF = .slice (some ⟨gF,0,none⟩) fs.length cF:=eF
              subst eF
              have xc:W7.cell? ⟨gF,x.fn*4+3,none⟩=some (.slice (some ⟨gC,0,none⟩) code.length cc):=hcF _ _ (Zad fs cv x.fn _ _ hfk hvc).2.2.2 (show x.fn*4+3<fs.length*4 by omega)
              clear c0 c1 c2 c3 c4 c5 c6 c7 zr0 zr1 zr2 zr3 zr4 zr5 zr6 zr7 hlt
              obtain ⟨c0,c1,c2,c3,c4,c5,c6,c7,zr0,zr1,zr2,zr3,zr4,zr5,zr6,zr7,hlt⟩:=Zhy A.out
              have AD:=Hq (Zs A.out (Ze (Zb W7 none)))
              clear hcC hcF OC
              refine Yd (n:=16) (J:=fun a0 l a1 w1=>RJ a0 135 16 tpC (Zhm p b12 x.fn x.pl gF fs.length cF gC code.length cc n ) l a1/\Zas 15 16 0 [(1,0),(2,1),(3,2),(4,3),(6,5),(7,4),(7,6),(8,7),(9,8),(11,10),(13,9),(13,11),(14,13),(15,14),(15,12)] [] (fun w9=>w9=W7.drew) (fun _=>True) (Ywg p b12 x.fn x.pl gF fs.length cF gC code.length cc n ) (fun w9=>w9=W7.drew.setCell ⟨gC,x.pl*2+1,none⟩ (.int .i64 (n:Int))) l w1) (by kernel_rfl) rfl (Yt (by kernel_rfl)) (fun l a1 w1 h=>by obtain ⟨h,_⟩:=h;exact h.sz) ⟨Yc rfl,Zu (rfl) (True.intro)⟩ ?step ?fin
              case step =>
               intro l a1 w' i hJJ hi hin
               obtain ⟨hJ,hW⟩:=hJJ
               have hun:l.getD i false=false:=getD_both (mem_ready.1 hi).1
               have hns:=Xe hW hin hun
               have hg:w'=W7.drew:=hW.g hns
               have hc2:w'.cell? ⟨p,2,none⟩=some (.slice (some ⟨gF,0,none⟩) fs.length cF):=by rw [hg];exact c2
               have hy0:w'.cell? ⟨b12,0,none⟩=some (.int .i64 (x.fn:Int)):=by rw [hg];exact y0
               have hy1:w'.cell? ⟨b12,1,none⟩=some (.int .i64 (x.pl:Int)):=by rw [hg];exact y1
               have hxc:w'.cell? ⟨gF,x.fn*4+3,none⟩=some (.slice (some ⟨gC,0,none⟩) code.length cc):=by rw [hg];exact xc
               have k1:w'.cell? ⟨gC,x.pl*2+1,none⟩=some (.int .i64 ca):=by rw [hg];exact xk
               have j1:w'.frozen? ⟨gC,x.pl*2+1,none⟩=false:=by rw [hg];exact zk
               have l0:p<w'.heap.size:=by rw [hg];exact hlt
               have l1:b12<w'.heap.size:=by rw [hg];exact hlb
               have l2:gF<w'.heap.size:=by rw [hg];exact hgF
               have l3:gC<w'.heap.size:=by rw [hg];exact hgC
               rcases Yoy i hin with rfl|rfl|rfl|rfl|rfl|rfl|rfl|rfl|rfl|rfl|rfl|rfl|rfl|rfl|rfl|rfl
               · have e6:a1.tmps.getD 6 undef = .pointer (some ⟨p,0,none⟩):=hJ.un 6 (fun i hi _=>Zgj 6 (by decide) i hi)
                 exact Zd hJ hW hi hun (hne:=Je _ (by decide)) (hrun:=by simp [execOp,Act.eval,e6,go_sem,Zhm])
               · have e107:a1.tmps.getD 107 undef = .pointer (some ⟨p,0,none⟩):=rjt hJ hi 0
                 exact Zd hJ hW hi hun (hne:=Je _ (by decide)) (hrun:=by simp [execOp,Act.eval,e107,go_sem,Zhm])
               · have e108:a1.tmps.getD 108 undef = .pointer (some ⟨p,0,none⟩):=rjt hJ hi 1
                 exact Zd hJ hW hi hun (hne:=Je _ (by decide)) (hrun:=by simp [execOp,Act.eval,e108,go_sem,Zhm])
               · have e109:a1.tmps.getD 109 undef = .pointer (some ⟨p,0,none⟩):=rjt hJ hi 2
                 exact Zd hJ hW hi hun (hne:=Je _ (by decide)) (hrun:=by simp [execOp,Act.eval,e109,go_sem,Zhm])
               · have e110:a1.tmps.getD 110 undef = .pointer (some ⟨p,2,none⟩):=rjt hJ hi 3
                 have h0:=hc2
                 exact Zd hJ hW hi hun (hne:=Je _ (by decide)) (hrun:=by simp [execOp,Act.eval,e110,h0,l0,l1,l2,l3,go_sem,Zhm])
               · have e12:a1.tmps.getD 12 undef = .pointer (some ⟨b12,0,none⟩):=hJ.un 12 (fun i hi _=>Zgj 12 (by decide) i hi)
                 exact Zd hJ hW hi hun (hne:=Je _ (by decide)) (hrun:=by simp [execOp,Act.eval,e12,go_sem,Zhm])
               · have e112:a1.tmps.getD 112 undef = .pointer (some ⟨b12,0,none⟩):=rjt hJ hi 5
                 have h0:=hy0
                 exact Zd hJ hW hi hun (hne:=Je _ (by decide)) (hrun:=by simp [execOp,Act.eval,e112,h0,l0,l1,l2,l3,go_sem,Zhm])
               · have e111:a1.tmps.getD 111 undef = .slice (some ⟨gF,0,none⟩) fs.length cF:=rjt hJ hi 4
                 have e113:a1.tmps.getD 113 undef = .int .i64 (x.fn:Int):=rjt hJ hi 6
                 exact Zd hJ hW hi hun (hne:=Je _ (by decide)) (hrun:=by simp [execOp,Act.eval,e111,e113,l0,l1,l2,l3,go_sem,Zhm] <;> (intros;omega))
               · have e114:a1.tmps.getD 114 undef = .pointer (some ⟨gF,x.fn*4,none⟩):=rjt hJ hi 7
                 exact Zd hJ hW hi hun (hne:=Je _ (by decide)) (hrun:=by simp [execOp,Act.eval,e114,go_sem,Zhm])
               · have e115:a1.tmps.getD 115 undef = .pointer (some ⟨gF,x.fn*4+3,none⟩):=rjt hJ hi 8
                 have h0:=hxc
                 exact Zd hJ hW hi hun (hne:=Je _ (by decide)) (hrun:=by simp [execOp,Act.eval,e115,h0,l0,l1,l2,l3,go_sem,Zhm])
               · have e12:a1.tmps.getD 12 undef = .pointer (some ⟨b12,0,none⟩):=hJ.un 12 (fun i hi _=>Zgj 12 (by decide) i hi)
                 exact Zd hJ hW hi hun (hne:=Je _ (by decide)) (hrun:=by simp [execOp,Act.eval,e12,go_sem,Zhm])
               · have e117:a1.tmps.getD 117 undef = .pointer (some ⟨b12,1,none⟩):=rjt hJ hi 10
                 have h0:=hy1
                 exact Zd hJ hW hi hun (hne:=Je _ (by decide)) (hrun:=by simp [execOp,Act.eval,e117,h0,l0,l1,l2,l3,go_sem,Zhm])
               · have e13:a1.tmps.getD 13 undef = .int .i64 (n:Int):=hJ.un 13 (fun i hi _=>Zgj 13 (by decide) i hi)
                 exact Zd hJ hW hi hun (hne:=Je _ (by decide)) (hrun:=by simp [execOp,Act.eval,e13,l0,l1,l2,l3,go_sem,Zhm])
               · have e116:a1.tmps.getD 116 undef = .slice (some ⟨gC,0,none⟩) code.length cc:=rjt hJ hi 9
                 have e118:a1.tmps.getD 118 undef = .int .i64 (x.pl:Int):=rjt hJ hi 11
                 exact Zd hJ hW hi hun (hne:=Je _ (by decide)) (hrun:=by simp [execOp,Act.eval,e116,e118,l0,l1,l2,l3,go_sem,Zhm] <;> (intros;omega))
               · have e120:a1.tmps.getD 120 undef = .pointer (some ⟨gC,x.pl*2,none⟩):=rjt hJ hi 13
                 exact Zd hJ hW hi hun (hne:=Je _ (by decide)) (hrun:=by simp [execOp,Act.eval,e120,go_sem,Zhm])
               · have e121:a1.tmps.getD 121 undef = .pointer (some ⟨gC,x.pl*2+1,none⟩):=rjt hJ hi 14
                 have e119:a1.tmps.getD 119 undef = .int .i64 (n:Int):=rjt hJ hi 12
                 have lb2:=l3
                 have hall:∀ j,j<16->j≠15->l.getD j false=true:=Jp hi hW.cl (by kernel_rfl)
                 exact Jo (WS:=fun l9 w9=>Zas 15 16 0 [(1,0),(2,1),(3,2),(4,3),(6,5),(7,4),(7,6),(8,7),(9,8),(11,10),(13,9),(13,11),(14,13),(15,14),(15,12)] [] (fun w9=>w9=W7.drew) (fun _=>True) (Ywg p b12 x.fn x.pl gF fs.length cF gC code.length cc n ) (fun w9=>w9=W7.drew.setCell ⟨gC,x.pl*2+1,none⟩ (.int .i64 (n:Int))) l9 w9) hJ rfl rfl rfl (by decide) (by decide) (w':=w'.setCell ⟨gC,x.pl*2+1,none⟩ (.int .i64 (n:Int))) (by simp [execOp,Act.eval,e121,e119,k1,j1,lb2,go_sem]) (Xa hW (by decide) (by decide) hall (Zg _ hi (by kernel_rfl)) (by show w'.setCell _ _=_;rw [hg]))
              case fin =>
               intro l9 a1 w9 hJJ hl9
               obtain ⟨hJ,hW⟩:=hJJ
               have hq:=hW.q (hl9 15 (by decide))
               have hput:=Ys hJ rfl hl9 (fun i j h1 h2 h3=>Je j h2 i h1 h3)
               subst hput
               clear hJ hW hl9
               replace hq:w9=W7.drew.setCell ⟨gC,x.pl*2+1,none⟩ (.int .i64 (n:Int)):=hq
               subst hq
               (try refine hK25 _ _ ?_)
               simp only [Ja,tpC,Zhm,Act.put,List.setIfInBounds_toArray,List.set_cons_zero,List.set_cons_succ]
               have M:=Hq (Ztw (n:=(n:Int)) AD.out hfk hvc hplc)
               have IN2:=Hq (Yao (f:=x.fn) (p:=x.pl) IN.out (show Zki (n:Int) by unfold Zki;omega))
               have SH2:=Hq (Zfo SH.out x.fn x.pl (n:Int))
               clear c0 c1 c2 c3 c4 c5 c6 c7 zr0 zr1 zr2 zr3 zr4 zr5 zr6 zr7 hlt
               clear y0 y1 y2 y3 y4 hlb
               clear xk zk xc hgC hgF AD A WB
               generalize W7.drew.setCell ⟨gC,x.pl*2+1,none⟩ (.int .i64 (n:Int))=W8 at M ⊢
               try clear K25
               conv=>arg 2;whnf
               go_wp2
               exact ⟨⟨j+1,Zpl fs x.fn x.pl (n:Int),by go_num,by omega,FX.out,SH2.out,IN2.out,_,_,_,_,_,_,_,_,_,M.out⟩,by simp [intOf];omega⟩
          | true =>
            rw [hjump] at y4
            obtain ⟨ml,hml⟩:∃ ml,s.labels[x.fn]? = some ml:=⟨_,List.getElem?_eq_getElem (by omega)⟩
            have hmll:=HS.out.z5 _ (List.mem_of_getElem? hml)
            have hmlin:=HI.out.plc _ (List.mem_of_getElem? hml)
            have hlvl:lv.length=s.labels.length:=by
             have:=A.out.ins.str.len
             simpa [Zgb] using this
            have hpvl:pv.length=s.labels.length:=by
             have:=A.out.ins.int.len
             simpa [Zgb] using this
            have hxl:x.fn<lv.length:=by omega
            have hxp:x.fn<pv.length:=by omega
            obtain ⟨vl,hvl⟩:∃ vl,lv[x.fn]? = some vl:=⟨_,List.getElem?_eq_getElem hxl⟩
            obtain ⟨vp,hvp⟩:∃ vp,pv[x.fn]? = some vp:=⟨_,List.getElem?_eq_getElem hxp⟩
            clear hlvl hpvl
            have OL:W6.ownsRow w2.heap.size 9 1 vl (Jc ml).length (Zcj (Jc ml)):=by
             have:=A.out.ins.str.each (x.fn+1) vl (Zcj (Jc ml)) (by simpa using hvl) (by simp [Zgb,hml])
             rw [Jh] at this
             exact this
            obtain ⟨pl,cl,el⟩:=Zi OL
            subst el
            obtain ⟨gL,cL,eL,hgL,hcL⟩:=Zv A.out.ins.lrow (show 0<lv.length by omega)
            subst eL
            have xl:W6.cell? ⟨gL,x.fn,none⟩=some (.slice pl (Jc ml).length cl):=hcL _ _ hvl (by omega)
            clear c0 c1 c2 c3 c4 c5 c6 c7 zr0 zr1 zr2 zr3 zr4 zr5 zr6 zr7 hlt
            obtain ⟨c0,c1,c2,c3,c4,c5,c6,c7,zr0,zr1,zr2,zr3,zr4,zr5,zr6,zr7,hlt⟩:=Zhy A.out
            obtain ⟨hv2,hhv2⟩:∃ hv2,Zmd (Jc ml) x.word=hv2:=⟨_,rfl⟩
            have HC:=Hq (fun w' (g:W6.grownBy w' none)=>Zol (Jc ml) x.word pl cl w' (Zez (Zgi OL) g) (by rw [Ziq];omega))
            rw [hhv2] at HC
            have HV2:=Hq hhv2
            clear OL hhv2 hcL
            go_upto_region 20 with fail
            (try rename_i K20 hK20)
            refine Yd (n:=12) (J:=fun a0 l a1 w1=>RJ a0 135 12 tpB (Zwc p b12 x.fn gL lv.length cL (Jc ml).length cl pl (bs x.word) hv2 ) l a1/\Zas 12 12 10 [(1,0),(2,1),(3,2),(5,4),(6,3),(6,5),(7,6),(9,8),(10,7),(10,9),(11,10)] [] (fun w9=>World.grownBy W6.drew w9 none) (fun _=>True) (Yyd p b12 x.fn gL lv.length cL (Jc ml).length cl pl (bs x.word) hv2 ) (fun _=>True) l w1) (by kernel_rfl) rfl (Yt (by kernel_rfl)) (fun l a1 w1 h=>by obtain ⟨h,_⟩:=h;exact h.sz) ⟨Yc rfl,Zu (Zb _ _) (True.intro)⟩ ?step ?fin
            case step =>
             intro l a1 w' i hJJ hi hin
             obtain ⟨hJ,hW⟩:=hJJ
             have hun:l.getD i false=false:=getD_both (mem_ready.1 hi).1
             have hns:=Xe hW hin hun
             have hg:=hW.g hns
             have l0:=Nat.lt_of_lt_of_le hlt hg.size
             have l1:=Nat.lt_of_lt_of_le hlb hg.size
             have l2:=Nat.lt_of_lt_of_le hgL hg.size
             rcases Yem i hin with rfl|rfl|rfl|rfl|rfl|rfl|rfl|rfl|rfl|rfl|rfl|rfl
             · have e6:a1.tmps.getD 6 undef = .pointer (some ⟨p,0,none⟩):=hJ.un 6 (fun i hi _=>Zwi 6 (by decide) i hi)
               exact Zd hJ hW hi hun (hne:=Zfa _ (by decide)) (hrun:=by simp [execOp,Act.eval,e6,go_sem,Zwc])
             · have e78:a1.tmps.getD 78 undef = .pointer (some ⟨p,0,none⟩):=rjt hJ hi 0
               exact Zd hJ hW hi hun (hne:=Zfa _ (by decide)) (hrun:=by simp [execOp,Act.eval,e78,go_sem,Zwc])
             · have e79:a1.tmps.getD 79 undef = .pointer (some ⟨p,0,none⟩):=rjt hJ hi 1
               exact Zd hJ hW hi hun (hne:=Zfa _ (by decide)) (hrun:=by simp [execOp,Act.eval,e79,go_sem,Zwc])
             · have e80:a1.tmps.getD 80 undef = .pointer (some ⟨p,5,none⟩):=rjt hJ hi 2
               have h0:=hg.cell c5 (by simp)
               exact Zd hJ hW hi hun (hne:=Zfa _ (by decide)) (hrun:=by simp [execOp,Act.eval,e80,h0,l0,l1,l2,go_sem,Zwc])
             · have e12:a1.tmps.getD 12 undef = .pointer (some ⟨b12,0,none⟩):=hJ.un 12 (fun i hi _=>Zwi 12 (by decide) i hi)
               exact Zd hJ hW hi hun (hne:=Zfa _ (by decide)) (hrun:=by simp [execOp,Act.eval,e12,go_sem,Zwc])
             · have e82:a1.tmps.getD 82 undef = .pointer (some ⟨b12,0,none⟩):=rjt hJ hi 4
               have h0:=hg.cell y0 (by simp)
               exact Zd hJ hW hi hun (hne:=Zfa _ (by decide)) (hrun:=by simp [execOp,Act.eval,e82,h0,l0,l1,l2,go_sem,Zwc])
             · have e81:a1.tmps.getD 81 undef = .slice (some ⟨gL,0,none⟩) lv.length cL:=rjt hJ hi 3
               have e83:a1.tmps.getD 83 undef = .int .i64 (x.fn:Int):=rjt hJ hi 5
               exact Zd hJ hW hi hun (hne:=Zfa _ (by decide)) (hrun:=by simp [execOp,Act.eval,e81,e83,l0,l1,l2,go_sem,Zwc] <;> (intros;omega))
             · have e84:a1.tmps.getD 84 undef = .pointer (some ⟨gL,x.fn,none⟩):=rjt hJ hi 6
               have h0:=hg.cell xl (by simp)
               exact Zd hJ hW hi hun (hne:=Zfa _ (by decide)) (hrun:=by simp [execOp,Act.eval,e84,h0,l0,l1,l2,go_sem,Zwc])
             · have e12:a1.tmps.getD 12 undef = .pointer (some ⟨b12,0,none⟩):=hJ.un 12 (fun i hi _=>Zwi 12 (by decide) i hi)
               exact Zd hJ hW hi hun (hne:=Zfa _ (by decide)) (hrun:=by simp [execOp,Act.eval,e12,go_sem,Zwc])
             · have e86:a1.tmps.getD 86 undef = .pointer (some ⟨b12,3,none⟩):=rjt hJ hi 8
               have h0:=hg.cell y3 (by simp)
               exact Zd hJ hW hi hun (hne:=Zfa _ (by decide)) (hrun:=by simp [execOp,Act.eval,e86,h0,l0,l1,l2,go_sem,Zwc])
             · have e85:a1.tmps.getD 85 undef = .slice pl (Jc ml).length cl:=rjt hJ hi 7
               have e87:a1.tmps.getD 87 undef = .string (bs x.word):=rjt hJ hi 9
               refine Ya rfl (by rfl) (by simp [execOp,resolve,invoke,Act.eval,e85,e87,go_sem]) (Calls.mono (HC.out w' (Za (Ze (Zb W6 none)) hg)) (fun e w2 he => ?_))
               obtain ⟨rfl,hg2⟩:=he
               refine ⟨_,rfl,?_,Zo hW (by decide) hun (by decide) (Zg _ hi (by kernel_rfl)) (Za hg hg2) (fun hne0 hun0 hB0=>True.intro) (fun j hj hne hl hcu hF => ?_) (True.intro)⟩
               · exact Yg (val:=Zwc p b12 x.fn gL lv.length cL (Jc ml).length cl pl (bs x.word) hv2 ) (Yj hJ (Yqf hW.cl hun)) (by decide) (by decide) (Zfa _ (by decide))
               · rcases Yem j hj with rfl|rfl|rfl|rfl|rfl|rfl|rfl|rfl|rfl|rfl|rfl|rfl <;> first|exact True.intro|exact absurd rfl hne
             · have e88:a1.tmps.getD 88 undef = .int .i64 hv2:=rjt hJ hi 10
               exact Zd hJ hW hi hun (hne:=Zfa _ (by decide)) (hrun:=by simp [execOp,Act.eval,e88,l0,l1,l2,go_sem,Zwc])
            case fin =>
             intro l9 a1 w9 hJJ hl9
             obtain ⟨hJ,hW⟩:=hJJ
             have hg9:=Za (Ze (Zb W6 none)) (hW.g (Ju hW))
             have hput:=Ys hJ rfl hl9 (fun i j h1 h2 h3=>Zfa j h2 i h1 h3)
             subst hput
             clear hJ hW hl9
             (try refine hK20 _ _ ?_)
             simp only [Ja,tpB,Zwc,Act.put,List.setIfInBounds_toArray,List.set_cons_zero,List.set_cons_succ]
             have A:=Hq (Zs A.out hg9)
             have WB:=Hq (show WtB w9 b12 x from Zf WB.out hg9 (by simp))
             clear hg9 HC
             clear c0 c1 c2 c3 c4 c5 c6 c7 zr0 zr1 zr2 zr3 zr4 zr5 zr6 zr7 hlt
             clear y0 y1 y2 y3 y4 hlb
             clear xl hgL
             generalize w9=W7 at A WB ⊢
             obtain ⟨c0,c1,c2,c3,c4,c5,c6,c7,zr0,zr1,zr2,zr3,zr4,zr5,zr6,zr7,hlt⟩:=Zhy A.out
             obtain ⟨y0,y1,y2,y3,y4,hlb⟩:=Zyt WB.out
             try clear K20
             conv=>arg 2;whnf
             rcases Yiq hml hjump with ⟨f1,f2⟩|⟨i9,n,f1,f2,f3,f4⟩
             · rw [f1] at FX
               have f5:=HV2.out.symm.trans f2
               subst f5
               have HE:=Hq (PF.out s _ HOK.out (HFL.out.trans FX.out.symm))
               clear f1 f2
               go_upto_region 24 with fail
               have B4:=Hq (show Zck W7 r0 _ _ _ from Zf BX.out A.out.gr (by simp))
               obtain ⟨k0,k1,k2,z0,z1,z2,hlt4⟩:=Zab B4.out
               go_region
               go_wp2
               refine bodyPost_ret (Zno rfl rfl rfl rfl (Zaw B4.out)) rfl ?_
               exact Zqf HE.out rfl (Ze (Zrv (Za G1.out A.out.gr) (by omega)))
             · rw [f1] at FX
               have f5:=HV2.out.symm.trans f2
               subst f5
               have hnm:=hmlin _ f4
               simp only [] at hnm
               have hn64:n<=1000000:=by omega
               have hn0:¬ ((n:Int)<0):=by omega
               have hi0:(0:Int)<=(i9:Int):=by omega
               have OP:W7.ownsRow w2.heap.size 3 1 vp (Zba ml).length (Zmn (Zba ml)):=by
                have:=A.out.ins.int.each x.fn vp (Zmn (Zba ml)) hvp (by simp [Zgb,hml])
                rw [Zis] at this
                exact this
               obtain ⟨gp9,cp9,ep9,hgp9,hcp9⟩:=Zv OP (by have:=(List.getElem?_eq_some_iff.1 f3).1;omega)
               subst ep9
               have hi9:i9<(Zba ml).length:=(List.getElem?_eq_some_iff.1 f3).1
               have hi9i:(i9:Int)<((Zba ml).length:Int):=by omega
               have xi:W7.cell? ⟨gp9,i9,none⟩=some (.int .i64 (n:Int)):=hcp9 _ _ (by unfold Zmn;rw [List.getElem?_map,f3];rfl) (by omega)
               obtain ⟨gP,cP,eP,hgP,hcP⟩:=Zv A.out.ins.prow (show 0<pv.length by omega)
               subst eP
               have xp:W7.cell? ⟨gP,x.fn,none⟩=some (.slice (some ⟨gp9,0,none⟩) (Zba ml).length cp9):=hcP _ _ hvp (by omega)
               have hxpi:(x.fn:Int)<(pv.length:Int):=by omega
               clear c0 c1 c2 c3 c4 c5 c6 c7 zr0 zr1 zr2 zr3 zr4 zr5 zr6 zr7 hlt
               obtain ⟨c0,c1,c2,c3,c4,c5,c6,c7,zr0,zr1,zr2,zr3,zr4,zr5,zr6,zr7,hlt⟩:=Zhy A.out
               clear OP hcp9 hcP f1 f2 f3 f4
               go_upto_region 22 with fail
               go_quiet (fail)
               go_upto_region 25 with fail
               (try rename_i K25 hK25)
               have A3:=Hq (Zs A.out (Xn (Zb W7 none) nq))
               have WB3:=Hq (show WtB (W7.drewN nq) b12 x from Zf WB.out (Xn (Zb W7 none) nq) (by simp))
               generalize W7.drewN nq=W9 at A3 WB3 ⊢
               clear xi xp hgp9 hgP A WB
               clear c0 c1 c2 c3 c4 c5 c6 c7 zr0 zr1 zr2 zr3 zr4 zr5 zr6 zr7 hlt
               clear y0 y1 y2 y3 y4 hlb
               have A:=A3
               have WB:=WB3
               clear A3 WB3
               obtain ⟨c0,c1,c2,c3,c4,c5,c6,c7,zr0,zr1,zr2,zr3,zr4,zr5,zr6,zr7,hlt⟩:=Zhy A.out
               obtain ⟨y0,y1,y2,y3,y4,hlb⟩:=Zyt WB.out
               obtain ⟨vc,hvc⟩:∃ vc,cv[x.fn]? = some vc:=⟨_,List.getElem?_eq_getElem (by rw [A.out.ins.own.cl];exact hxf)⟩
               have OC:=A.out.ins.own.each x.fn _ _ hfk hvc
               obtain ⟨gC,cc,ec,hgC,hcC⟩:=Zv OC (show 0<code.length by omega)
               replace ec:vc = .slice (some ⟨gC,0,none⟩) code.length cc:=ec
               subst ec
               obtain ⟨⟨co,ca⟩,hcp⟩:∃ z,code[x.pl]? = some z:=⟨_,List.getElem?_eq_getElem hplc⟩
               have xk:W9.cell? ⟨gC,x.pl*2+1,none⟩=some (.int .i64 ca):=hcC _ _ (Zfg code x.pl co ca hcp).2 (show x.pl*2+1<code.length*2 by omega)
               have zk:W9.frozen? ⟨gC,x.pl*2+1,none⟩=false:=Zbe OC _
               obtain ⟨gF,cF,eF,hgF,hcF⟩:=Zv A.out.ins.own.fr (show 0<fs.length by omega)
               replace eF:vF = .slice (some ⟨gF,0,none⟩) fs.length cF:=eF
               subst eF
               have xc:W9.cell? ⟨gF,x.fn*4+3,none⟩=some (.slice (some ⟨gC,0,none⟩) code.length cc):=hcF _ _ (Zad fs cv x.fn _ _ hfk hvc).2.2.2 (show x.fn*4+3<fs.length*4 by omega)
               clear c0 c1 c2 c3 c4 c5 c6 c7 zr0 zr1 zr2 zr3 zr4 zr5 zr6 zr7 hlt
               obtain ⟨c0,c1,c2,c3,c4,c5,c6,c7,zr0,zr1,zr2,zr3,zr4,zr5,zr6,zr7,hlt⟩:=Zhy A.out
               have AD:=Hq (Zs A.out (Ze (Zb W9 none)))
               clear hcC hcF OC
               refine Yd (n:=16) (J:=fun a0 l a1 w1=>RJ a0 135 16 tpC (Zhm p b12 x.fn x.pl gF fs.length cF gC code.length cc n ) l a1/\Zas 15 16 0 [(1,0),(2,1),(3,2),(4,3),(6,5),(7,4),(7,6),(8,7),(9,8),(11,10),(13,9),(13,11),(14,13),(15,14),(15,12)] [] (fun w9=>w9=W9.drew) (fun _=>True) (Ywg p b12 x.fn x.pl gF fs.length cF gC code.length cc n ) (fun w9=>w9=W9.drew.setCell ⟨gC,x.pl*2+1,none⟩ (.int .i64 (n:Int))) l w1) (by kernel_rfl) rfl (Yt (by kernel_rfl)) (fun l a1 w1 h=>by obtain ⟨h,_⟩:=h;exact h.sz) ⟨Yc rfl,Zu (rfl) (True.intro)⟩ ?step ?fin
               case step =>
                intro l a1 w' i hJJ hi hin
                obtain ⟨hJ,hW⟩:=hJJ
                have hun:l.getD i false=false:=getD_both (mem_ready.1 hi).1
                have hns:=Xe hW hin hun
                have hg:w'=W9.drew:=hW.g hns
                have hc2:w'.cell? ⟨p,2,none⟩=some (.slice (some ⟨gF,0,none⟩) fs.length cF):=by rw [hg];exact c2
                have hy0:w'.cell? ⟨b12,0,none⟩=some (.int .i64 (x.fn:Int)):=by rw [hg];exact y0
                have hy1:w'.cell? ⟨b12,1,none⟩=some (.int .i64 (x.pl:Int)):=by rw [hg];exact y1
                have hxc:w'.cell? ⟨gF,x.fn*4+3,none⟩=some (.slice (some ⟨gC,0,none⟩) code.length cc):=by rw [hg];exact xc
                have k1:w'.cell? ⟨gC,x.pl*2+1,none⟩=some (.int .i64 ca):=by rw [hg];exact xk
                have j1:w'.frozen? ⟨gC,x.pl*2+1,none⟩=false:=by rw [hg];exact zk
                have l0:p<w'.heap.size:=by rw [hg];exact hlt
                have l1:b12<w'.heap.size:=by rw [hg];exact hlb
                have l2:gF<w'.heap.size:=by rw [hg];exact hgF
                have l3:gC<w'.heap.size:=by rw [hg];exact hgC
                rcases Yoy i hin with rfl|rfl|rfl|rfl|rfl|rfl|rfl|rfl|rfl|rfl|rfl|rfl|rfl|rfl|rfl|rfl
                · have e6:a1.tmps.getD 6 undef = .pointer (some ⟨p,0,none⟩):=hJ.un 6 (fun i hi _=>Zgj 6 (by decide) i hi)
                  exact Zd hJ hW hi hun (hne:=Je _ (by decide)) (hrun:=by simp [execOp,Act.eval,e6,go_sem,Zhm])
                · have e107:a1.tmps.getD 107 undef = .pointer (some ⟨p,0,none⟩):=rjt hJ hi 0
                  exact Zd hJ hW hi hun (hne:=Je _ (by decide)) (hrun:=by simp [execOp,Act.eval,e107,go_sem,Zhm])
                · have e108:a1.tmps.getD 108 undef = .pointer (some ⟨p,0,none⟩):=rjt hJ hi 1
                  exact Zd hJ hW hi hun (hne:=Je _ (by decide)) (hrun:=by simp [execOp,Act.eval,e108,go_sem,Zhm])
                · have e109:a1.tmps.getD 109 undef = .pointer (some ⟨p,0,none⟩):=rjt hJ hi 2
                  exact Zd hJ hW hi hun (hne:=Je _ (by decide)) (hrun:=by simp [execOp,Act.eval,e109,go_sem,Zhm])
                · have e110:a1.tmps.getD 110 undef = .pointer (some ⟨p,2,none⟩):=rjt hJ hi 3
                  have h0:=hc2
                  exact Zd hJ hW hi hun (hne:=Je _ (by decide)) (hrun:=by simp [execOp,Act.eval,e110,h0,l0,l1,l2,l3,go_sem,Zhm])
                · have e12:a1.tmps.getD 12 undef = .pointer (some ⟨b12,0,none⟩):=hJ.un 12 (fun i hi _=>Zgj 12 (by decide) i hi)
                  exact Zd hJ hW hi hun (hne:=Je _ (by decide)) (hrun:=by simp [execOp,Act.eval,e12,go_sem,Zhm])
                · have e112:a1.tmps.getD 112 undef = .pointer (some ⟨b12,0,none⟩):=rjt hJ hi 5
                  have h0:=hy0
                  exact Zd hJ hW hi hun (hne:=Je _ (by decide)) (hrun:=by simp [execOp,Act.eval,e112,h0,l0,l1,l2,l3,go_sem,Zhm])
                · have e111:a1.tmps.getD 111 undef = .slice (some ⟨gF,0,none⟩) fs.length cF:=rjt hJ hi 4
                  have e113:a1.tmps.getD 113 undef = .int .i64 (x.fn:Int):=rjt hJ hi 6
                  exact Zd hJ hW hi hun (hne:=Je _ (by decide)) (hrun:=by simp [execOp,Act.eval,e111,e113,l0,l1,l2,l3,go_sem,Zhm] <;> (intros;omega))
                · have e114:a1.tmps.getD 114 undef = .pointer (some ⟨gF,x.fn*4,none⟩):=rjt hJ hi 7
                  exact Zd hJ hW hi hun (hne:=Je _ (by decide)) (hrun:=by simp [execOp,Act.eval,e114,go_sem,Zhm])
                · have e115:a1.tmps.getD 115 undef = .pointer (some ⟨gF,x.fn*4+3,none⟩):=rjt hJ hi 8
                  have h0:=hxc
                  exact Zd hJ hW hi hun (hne:=Je _ (by decide)) (hrun:=by simp [execOp,Act.eval,e115,h0,l0,l1,l2,l3,go_sem,Zhm])
                · have e12:a1.tmps.getD 12 undef = .pointer (some ⟨b12,0,none⟩):=hJ.un 12 (fun i hi _=>Zgj 12 (by decide) i hi)
                  exact Zd hJ hW hi hun (hne:=Je _ (by decide)) (hrun:=by simp [execOp,Act.eval,e12,go_sem,Zhm])
                · have e117:a1.tmps.getD 117 undef = .pointer (some ⟨b12,1,none⟩):=rjt hJ hi 10
                  have h0:=hy1
                  exact Zd hJ hW hi hun (hne:=Je _ (by decide)) (hrun:=by simp [execOp,Act.eval,e117,h0,l0,l1,l2,l3,go_sem,Zhm])
                · have e13:a1.tmps.getD 13 undef = .int .i64 (n:Int):=hJ.un 13 (fun i hi _=>Zgj 13 (by decide) i hi)
                  exact Zd hJ hW hi hun (hne:=Je _ (by decide)) (hrun:=by simp [execOp,Act.eval,e13,l0,l1,l2,l3,go_sem,Zhm])
                · have e116:a1.tmps.getD 116 undef = .slice (some ⟨gC,0,none⟩) code.length cc:=rjt hJ hi 9
                  have e118:a1.tmps.getD 118 undef = .int .i64 (x.pl:Int):=rjt hJ hi 11
                  exact Zd hJ hW hi hun (hne:=Je _ (by decide)) (hrun:=by simp [execOp,Act.eval,e116,e118,l0,l1,l2,l3,go_sem,Zhm] <;> (intros;omega))
                · have e120:a1.tmps.getD 120 undef = .pointer (some ⟨gC,x.pl*2,none⟩):=rjt hJ hi 13
                  exact Zd hJ hW hi hun (hne:=Je _ (by decide)) (hrun:=by simp [execOp,Act.eval,e120,go_sem,Zhm])
                · have e121:a1.tmps.getD 121 undef = .pointer (some ⟨gC,x.pl*2+1,none⟩):=rjt hJ hi 14
                  have e119:a1.tmps.getD 119 undef = .int .i64 (n:Int):=rjt hJ hi 12
                  have lb2:=l3
                  have hall:∀ j,j<16->j≠15->l.getD j false=true:=Jp hi hW.cl (by kernel_rfl)
                  exact Jo (WS:=fun l9 w9=>Zas 15 16 0 [(1,0),(2,1),(3,2),(4,3),(6,5),(7,4),(7,6),(8,7),(9,8),(11,10),(13,9),(13,11),(14,13),(15,14),(15,12)] [] (fun w9=>w9=W9.drew) (fun _=>True) (Ywg p b12 x.fn x.pl gF fs.length cF gC code.length cc n ) (fun w9=>w9=W9.drew.setCell ⟨gC,x.pl*2+1,none⟩ (.int .i64 (n:Int))) l9 w9) hJ rfl rfl rfl (by decide) (by decide) (w':=w'.setCell ⟨gC,x.pl*2+1,none⟩ (.int .i64 (n:Int))) (by simp [execOp,Act.eval,e121,e119,k1,j1,lb2,go_sem]) (Xa hW (by decide) (by decide) hall (Zg _ hi (by kernel_rfl)) (by show w'.setCell _ _=_;rw [hg]))
               case fin =>
                intro l9 a1 w9 hJJ hl9
                obtain ⟨hJ,hW⟩:=hJJ
                have hq:=hW.q (hl9 15 (by decide))
                have hput:=Ys hJ rfl hl9 (fun i j h1 h2 h3=>Je j h2 i h1 h3)
                subst hput
                clear hJ hW hl9
                replace hq:w9=W9.drew.setCell ⟨gC,x.pl*2+1,none⟩ (.int .i64 (n:Int)):=hq
                subst hq
                (try refine hK25 _ _ ?_)
                simp only [Ja,tpC,Zhm,Act.put,List.setIfInBounds_toArray,List.set_cons_zero,List.set_cons_succ]
                have M:=Hq (Ztw (n:=(n:Int)) AD.out hfk hvc hplc)
                have IN2:=Hq (Yao (f:=x.fn) (p:=x.pl) IN.out (show Zki (n:Int) by unfold Zki;omega))
                have SH2:=Hq (Zfo SH.out x.fn x.pl (n:Int))
                clear c0 c1 c2 c3 c4 c5 c6 c7 zr0 zr1 zr2 zr3 zr4 zr5 zr6 zr7 hlt
                clear y0 y1 y2 y3 y4 hlb
                clear xk zk xc hgC hgF AD A WB
                generalize W9.drew.setCell ⟨gC,x.pl*2+1,none⟩ (.int .i64 (n:Int))=W8 at M ⊢
                try clear K25
                conv=>arg 2;whnf
                go_wp2
                exact ⟨⟨j+1,Zpl fs x.fn x.pl (n:Int),by go_num,by omega,FX.out,SH2.out,IN2.out,_,_,_,_,_,_,_,_,_,M.out⟩,by simp [intOf];omega⟩
       · have hje:j=s.wants.length:=by omega
         subst hje
         have HFO:=Hq (show FL = .ok fs by rw [<- FF.out,List.drop_length];rfl)
         clear hjl
         obtain ⟨pD,cD,eD⟩:=Zi A.out.ins.own.dt
         rw [Yh] at eD
         replace eD:vD = .slice pD s.data.length cD:=eD
         obtain ⟨pF,cF,eF⟩:=Zi A.out.ins.own.fr
         replace eF:vF = .slice pF fs.length cF:=eF
         subst eD eF
         have CK:=Hq (Ycc s.mem s.data.length fs pD pF cD cF wr.heap.size wr (Nat.le_refl _) (Zdp A.out.ins.own) (by have:=HS.out.z1;omega) (fun f hf y hy=>IN.out f hf y hy))
         have HR1:26=26:=rfl
         by_cases he:Jl s.mem s.data.length fs=0
         · have HE:=Hq (PO.out s fs HOK.out (HFL.out.trans HFO.out) he)
           rw [he] at CK
           clear he
           go_wp2_with (go_at_call 23;refine CK.out.mono ?_;rintro e w5 ⟨rfl,hg5⟩;have A5:=Hq (Zs A.out hg5);have B5:=Hq (show Zck w5 r0 _ _ _ from Zf BX.out A5.out.gr (by simp));clear hg5 c0 c1 c2 c3 c4 c5 c6 c7 zr0 zr1 zr2 zr3 zr4 zr5 zr6 zr7 hlt;obtain ⟨c0,c1,c2,c3,c4,c5,c6,c7,zr0,zr1,zr2,zr3,zr4,zr5,zr6,zr7,hlt⟩:=Zhy A5.out;obtain ⟨k0,k1,k2,z0,z1,z2,hlt5⟩:=Zab B5.out)
           have hq:Zck _ r0 (.int .i64 s.mem) (.slice pD s.data.length cD) (.slice pF fs.length cF):=Zaw B5.out
           refine bodyPost_ret (Zno rfl rfl rfl rfl hq) rfl ?_
           rw [HE.out]
           refine ⟨⟨_,_,cv,rfl,?_⟩,Zrv (Za G1.out A5.out.gr) (by omega)⟩
           have O6:=Xj A5.out.ins.own (Zkq (b:=r0) (x0 := .int .i64 s.mem) (x1 := .slice pD s.data.length cD) (x2 := .slice pF fs.length cF)) (fun t sz v n xs ho ht=>Znw ho hr1)
           exact Zqt O6 G1.out.size
         · have HE:=Hq (PC.out s fs HOK.out (HFL.out.trans HFO.out) he)
           obtain ⟨ev,hev⟩:∃ ev,Jl s.mem s.data.length fs=ev:=⟨_,rfl⟩
           have hne:(ev != 0)=true:=by rw [<- hev,bne_iff_ne];exact he
           rw [hev] at HE CK
           clear he hev
           go_wp2_with (go_at_call 23;refine CK.out.mono ?_;rintro e w5 ⟨rfl,hg5⟩;have A5:=Hq (Zs A.out hg5);have B5:=Hq (show Zck w5 r0 _ _ _ from Zf BX.out A5.out.gr (by simp));clear hg5;obtain ⟨k0,k1,k2,z0,z1,z2,hlt5⟩:=Zab B5.out)
           refine bodyPost_ret (Zno rfl rfl rfl rfl (Zaw B5.out)) rfl ?_
           exact Zqf HE.out rfl (Zrv (Za G1.out A5.out.gr) (by omega))
theorem Yma {w w':World} {P:PrP} {pD pF:Option Addr} {cD cF E:Nat} {cv:List Value} (ho:Ztd w' E (.slice pD P.2.1.length cD) (.slice pF P.2.2.length cF) (Zcq P.2.1) P.2.2 cv):Yka w' P pD pF:=by
 have hl:(Zcq P.2.1).length=P.2.1.length:=Yh _
 refine ⟨fun h0 => ?_,Zdp ho⟩
 have hb:=Zqu ho
 obtain ⟨b,o,e,hc⟩:=hb (by
  intro h1
  have:=congrArg List.length h1
  simp only [List.length_map,hl,List.length_nil] at this
  omega)
 have hcell:∀ (i:Nat) (c:UInt8),P.2.1[i]? = some c->w'.cell? ⟨b,o+i,none⟩=some (.int .u8 (c.toNat:Int)):=fun i c hi=>hc i _ (by
  unfold Zcq
  simp [hi])
 have h9:P.2.1[0]? = some P.2.1[0]:=List.getElem?_eq_getElem h0
 exact ⟨b,o,e,World.block_lt_of_cell? _ _ (hcell 0 _ h9),hcell⟩
theorem Yfo {w w':World} {P:PrP} {e:Ending} (h:Ybl w (.ok P) e w'):∃ pd cd pF cF,e = .returned (.tuple #[prV P pd pF cd cF,.int .i64 0,.int .i64 0])/\w.grownBy w' none/\Yka w' P pd pF:=by
 obtain ⟨h1,h2⟩:=h
 obtain ⟨mem,d,fs⟩:=P
 obtain ⟨D,F,cv,rfl,ho⟩:=h1
 obtain ⟨pD,cD,rfl⟩:=Zi ho.dt
 obtain ⟨pF,cF,rfl⟩:=Zi ho.fr
 rw [Yh] at ho ⊢
 exact ⟨_,_,_,_,rfl,h2,Yma (w:=w) (P:=(mem,d,fs)) ho⟩
theorem Yby {w w':World} {y:Int} {n:Nat} {e:Ending} (h:Ybl w (.error (y,n)) e w'):e = .returned (.tuple #[prV (0,[],[]) none none 0 0,.int .i64 y,.int .i64 (n:Int)])/\w.grownBy w' none:=h
theorem Yci (t:Txt) (w:World) (hW:LibW w):Calls Tryz.prog 3 #[.string (bs t)] w fun e w'=>e = .returned (.bool true)/\w.grownBy w' none:=by
 have LW:=Hq hW
 have KN:=Hq (Yhr w hW)
 have PA:=Hq (fun W (h:LibW W)=>Zug t W h)
 have PB:=Hq (fun W=>Ybz t W)
 clear hW
 rw [Zdo] at PA
 cases hr:Zaq TT Yeb t with
 | ok P =>
   have hok:=Yrg (t:=t) (P:=P) (by rw [Zdo];show (match Zaq TT Yeb t with | .ok p=>Except.ok p | .error (y,k)=>Except.error (y,(k:Int)))=_;rw [hr])
   obtain ⟨hs1,hs2⟩:=Yqu hok.e
   rw [show Zaq TT (fun p=>Jl p.1 p.2.1.length p.2.2) t = .ok P from hr] at PA
   rw [hr] at PB
   clear hr hok
   go_enter Tryz.func3,Tryz.ntmps3
   go_upto_region 4 with (first
    | (go_at_call 11;refine KN.out.mono ?_;rintro e w1 ⟨rfl,hg1⟩;have G1:=Hq hg1;clear hg1)
    | (go_at_call 12;refine (PA.out _ (Ym LW.out G1.out)).mono ?_;intro e w2 hp2;obtain ⟨pd,cd,pF,cF,rfl,hg2,hi2⟩:=Ymb hp2;have G2:=Hq (Za G1.out hg2);have I2:=Hq hi2;clear hp2 hg2 hi2))
   have BA:=heap_alloc_new w2 (prO P pd pF cd cF)
   have gA:=Ga w2 (prO P pd pF cd cF) none
   have G3:=Hq (Za G2.out gA)
   have I3:=Hq (Zgv I2.out gA)
   have A3:=Hq BA
   clear BA gA G2 I2 PA
   generalize w2.alloc (prO P pd pF cd cF)=w3 at G3 I3 A3 ⊢
   generalize w2.heap.size=a3 at A3 ⊢
   go_upto_region 5 with (go_at_call 13;refine (Ykk _).mono ?_;rintro e w4 ⟨rfl,hg4⟩;have G4:=Hq (Za G3.out hg4);have I4:=Hq (Zgv I3.out hg4);have A4:=Hq (Zf A3.out hg4 (by simp));clear hg4)
   clear G3 I3 A3
   go_upto_region 6 with (go_at_call 14;refine (PB.out _).mono ?_;intro e w5 hp5;obtain ⟨qd,ed,qF,eF,rfl,hg5,hi5⟩:=Yfo hp5;have G5:=Hq (Za G4.out hg5);have J5:=Hq hi5;have I5:=Hq (Zgv I4.out hg5);have A5:=Hq (Zf A4.out hg5 (by simp));clear hp5 hg5 hi5)
   clear G4 I4 A4 PB
   have BB:=heap_alloc_new w5 (prO P qd qF ed eF)
   have gB:=Ga w5 (prO P qd qF ed eF) none
   have G6:=Hq (Za G5.out gB)
   have I6:=Zgv I5.out gB
   have J6:=Zgv J5.out gB
   obtain ⟨x0,x1,x2⟩:=Ybf (Zf A5.out gB (by simp))
   obtain ⟨y0,y1,y2⟩:=Ybf BB
   have lx:=World.block_lt_of_cell? _ _ x0
   have ly:=World.block_lt_of_cell? _ _ y0
   have SM0:=fun W (h:Yka W P pd pF) (h2:Yka W P qd qF)=>Yfj h h2 hs1 hs2 cd cF ed eF
   rw [Zik] at SM0
   clear BB gB G5 I5 J5 A5
   generalize w5.alloc (prO P qd qF ed eF)=w6 at *
   generalize w5.heap.size=b6 at *
   have SM:=Hq (SM0 w6 I6 J6)
   clear SM0 I6 J6 hs1 hs2
   go_wp2_with (go_at_call 15;refine SM.out.mono ?_;rintro e w7 ⟨rfl,hg7⟩;have G7:=Hq (Za G6.out hg7);clear hg7)
   go_ret
   exact ⟨rfl,G7.out⟩
 | error x =>
   obtain ⟨y,n⟩:=x
   have hpc:Zda t = .error (y,(n:Int)):=by rw [Zdo];show (match Zaq TT Yeb t with | .ok p=>Except.ok p | .error (y,k)=>Except.error (y,(k:Int)))=_;rw [hr]
   have hy:=(Zxj hpc).1
   rw [show Zaq TT (fun p=>Jl p.1 p.2.1.length p.2.2) t = .error (y,n) from hr] at PA
   rw [hr] at PB
   clear hr hpc
   have HY:=Hq hy
   clear hy
   go_enter Tryz.func3,Tryz.ntmps3
   go_upto_region 4 with (first
    | (go_at_call 11;refine KN.out.mono ?_;rintro e w1 ⟨rfl,hg1⟩;have G1:=Hq hg1;clear hg1)
    | (go_at_call 12;refine (PA.out _ (Ym LW.out G1.out)).mono ?_;intro e w2 hp2;obtain ⟨a,rfl,hg2,hb2⟩:=Yuw hp2;have G2:=Hq (Za G1.out hg2);have TE:=Hq (fun o=>Ykl a n y HY.out (w2.alloc o) (Zf hb2 (Ga w2 o none) (by simp)));clear hp2 hg2 hb2))
   have BA:=heap_alloc_new w2 (prO (0,[],[]) none none 0 0)
   have gA:=Ga w2 (prO (0,[],[]) none none 0 0) none
   have G3:=Hq (Za G2.out gA)
   have TL:=Hq (TE.out (prO (0,[],[]) none none 0 0))
   have A3:=Hq BA
   clear BA gA G2 PA TE
   generalize w2.alloc (prO (0,[],[]) none none 0 0)=w3 at G3 A3 TL ⊢
   generalize w2.heap.size=a3 at A3 ⊢
   go_upto_region 5 with (go_at_call 13;refine TL.out.mono ?_;rintro e w4 ⟨rfl,hg4⟩;have G4:=Hq (Za G3.out hg4);have A4:=Hq (Zf A3.out hg4 (by simp));clear hg4)
   clear G3 A3 TL
   go_upto_region 6 with (go_at_call 14;refine (PB.out _).mono ?_;intro e w5 hp5;obtain ⟨rfl,hg5⟩:=Yby hp5;have G5:=Hq (Za G4.out hg5);have A5:=Hq (Zf A4.out hg5 (by simp));clear hp5 hg5)
   clear G4 A4 PB
   have BB:=heap_alloc_new w5 (prO (0,[],[]) none none 0 0)
   have gB:=Ga w5 (prO (0,[],[]) none none 0 0) none
   have G6:=Hq (Za G5.out gB)
   obtain ⟨x0,x1,x2⟩:=Ybf (Zf A5.out gB (by simp))
   obtain ⟨y0,y1,y2⟩:=Ybf BB
   have lx:=World.block_lt_of_cell? _ _ x0
   have ly:=World.block_lt_of_cell? _ _ y0
   clear BB gB G5 A5
   generalize w5.alloc (prO (0,[],[]) none none 0 0)=w6 at *
   generalize w5.heap.size=b6 at *
   have SM0:=Yfj (Zzt w6 none none) (Zzt w6 none none) (by simp) (by simp) 0 0 0 0
   rw [Zik] at SM0
   have SM:=Hq SM0
   clear SM0
   go_wp2_with (go_at_call 15;refine SM.out.mono ?_;rintro e w7 ⟨rfl,hg7⟩;have G7:=Hq (Za G6.out hg7);clear hg7)
   go_ret
   exact ⟨rfl,G7.out⟩
end Go.Proofs.YteciblfmgdlipaaGreatDoor.AS
