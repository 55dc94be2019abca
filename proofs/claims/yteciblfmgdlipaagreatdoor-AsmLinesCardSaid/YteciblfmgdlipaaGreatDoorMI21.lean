/-
  Part of a proof: contracts of functions and lemmas, each stated by its own theorem. Conditions: as each theorem states.
-/
import Derived.Test.YteciblfmgdlipaaGreatDoorMI19
set_option linter.unusedSimpArgs false
set_option linter.unusedVariables false
set_option maxRecDepth 100000
set_option maxHeartbeats 16000000
namespace Go.Proofs.YteciblfmgdlipaaGreatDoor.AS
open Go.RowKit Go.Great CK
theorem Xx {w w':World} {r:Option (Sd × Bool)} {k:Int} {p:Option Addr} {n c:Nat} {t1:ByteArray} {n0 n1 n2:Int} {t2:ByteArray} {o a:Int} {t3:ByteArray} {b:Bool} {e:Ending} (hr:r=none) (he:e = .returned (.tuple #[.agg #[.int .i64 k,.slice p n c,.string t1,.int .i64 n0,.int .i64 n1,.int .i64 n2,.string t2,.int .i64 o,.int .i64 a,.string t3,.bool b],.bool false])) (hg:w.grownBy w' none):Ybj w r e w':=by subst hr;exact ⟨⟨_,⟨k,p,n,c,t1,n0,n1,n2,t2,o,a,t3,b,rfl⟩,he⟩,hg⟩
theorem Yup {w:World} {E:Nat} {p:Option Addr} {n c:Nat} {rs:List RPc} (h:Ydv w E (.slice p n c) rs):rs.length<=c/\c<=maxLen:=by
 rcases h.2 with ⟨h1,h2⟩|⟨g,cap,cur,h1,_,_,h2,h3,_⟩
 · injection h1 with _ _ h1
   exact ⟨by omega,by rw [h1];exact Nat.zero_le _⟩
 · injection h1 with _ h0 h1
   subst h1
   exact ⟨h2,h3⟩
structure SdL (rs:List RPc) (big:Bool) (w wr:World) (b2 b6:Nat) (pp:Option Addr) (cur:List RPc) (cc:Nat) (lbs:List Txt) (lp:Option Addr) (lc:Nat):Prop where
 sw:SdW w wr b2 b6 b6 pp cur (.int .i64 0) ((.slice lp lbs.length lc)) (.string ⟨#[]⟩) (.int .i64 0) (.int .i64 0) (.int .i64 0) (.string ⟨#[]⟩) (.int .i64 0) (.int .i64 0) (.string ⟨#[]⟩) (.bool big)
 lab:Yjw wr b6 (.slice lp lbs.length lc) lbs
 cap:cur.length<=cc
 cm:cc<=maxLen
 eq:Yb (Zhc rs)=(lbs++(Yb (Zhc cur)).1,(Yb (Zhc cur)).2)
 len:lbs.length+cur.length<=70000
 nil:lbs=[]->lp=none/\lc=0
theorem Yob {q:RPc} (h:rpK q=4):∃ z,q=(.colon,z):=by
 obtain ⟨q,z⟩:=q
 cases q with
 | word t=>exact absurd (show (1:Int)=4 from h) (by decide)
 | num n b=>exact absurd (show (2:Int)=4 from h) (by decide)
 | str t=>exact absurd (show (3:Int)=4 from h) (by decide)
 | colon=>exact ⟨z,rfl⟩
theorem Ymz {cur:List RPc} (h:∀ q0 q1 rest,cur=q0::q1::rest->¬ (rpK q0=1/\rpK q1=4)):Yb (Zhc cur)=([],Zhc cur):=by
 match cur,h with
 | [],_=>rfl
 | [(.word t,_)],_=>rfl
 | [(.num _ _,_)],_=>rfl
 | [(.str _,_)],_=>rfl
 | [(.colon,_)],_=>rfl
 | (.word t,_)::(.colon,_)::r,h=>exact absurd ⟨rfl,rfl⟩ (h _ _ _ rfl)
 | (.word t,_)::(.word _,_)::r,_=>rfl
 | (.word t,_)::(.num _ _,_)::r,_=>rfl
 | (.word t,_)::(.str _,_)::r,_=>rfl
 | (.num _ _,_)::_::r,_=>rfl
 | (.str _,_)::_::r,_=>rfl
 | (.colon,_)::_::r,_=>rfl
theorem Zzd {rs:List RPc} {big:Bool} {w wr w5:World} {b2 b6 b o:Nat} {tt:Txt} {z0 z1:Txt} {rest:List RPc} {cc:Nat} {lbs:List Txt} {lp lp':Option Addr} {lc lc':Nat}
 (h:SdL rs big w wr b2 b6 (some ⟨b,o,none⟩) ((.word tt,z0)::(.colon,z1)::rest) cc lbs lp lc) (pp:Option Addr) (hsw:SdW w w5 b2 b6 b6 pp rest (.int .i64 0) ((.slice lp' (lbs.length+1) lc')) (.string ⟨#[]⟩) (.int .i64 0) (.int .i64 0) (.int .i64 0) (.string ⟨#[]⟩) (.int .i64 0) (.int .i64 0) (.string ⟨#[]⟩) (.bool big)) (hl:Yjw w5 b6 (.slice lp' (lbs.length+1) lc') (lbs++[tt])) :
 SdL rs big w w5 b2 b6 pp rest (cc - 2) (lbs++[tt]) lp' lc':=by
 have h1:=h.cap
 have h2:=h.cm
 have h3:=h.len
 simp only [List.length_cons] at h1 h3
 refine ⟨by rw [List.length_append];exact hsw,by rw [List.length_append];exact hl,by omega,by omega,?_,by rw [List.length_append];simp only [List.length_cons,List.length_nil];omega,fun e=>absurd e (by simp)⟩
 rw [h.eq]
 show (lbs++(tt::(Yb (Zhc rest)).1),(Yb (Zhc rest)).2)=_
 simp
theorem Yfl {ps r:List Pc} {lb:List Txt} (h0:ps≠[]) (h:Yb ps=(lb,r)) (hl:lb≠[]):Zdj TT ps=Zfu TT lb r:=by
 unfold Zdj
 cases ps with
 | nil=>exact absurd rfl h0
 | cons a q =>
   simp only [h]
theorem Yfk {ps r:List Pc} (h0:ps≠[]) (h:Yb ps=([],r)):Zdj TT ps=Zdl TT r:=by
 unfold Zdj
 cases ps with
 | nil=>exact absurd rfl h0
 | cons a q=>simp only [h]
theorem Yct {t:Txt} {r:List Pc} (h1:t≠Jn) (h2:t≠Zey) (h3:t≠Zgf):Zdl TT (.word t::r)=Zfu TT [] (.word t::r):=by
 unfold Zdl
 simp only []
 rw [if_neg h1,if_neg h2,if_neg h3]
theorem Zxt {q:RPc} {r:List RPc} (h:rpK q≠1):Zdl TT (Zhc (q::r))=Zfu TT [] (Zhc (q::r)):=by
 obtain ⟨q,z⟩:=q
 cases q with
 | word t=>exact absurd rfl h
 | num n b=>rfl
 | str t=>rfl
 | colon=>rfl
theorem Ysn {ps r:List Pc} (h:Yb ps=([],r)):r=ps:=by
 unfold Yb at h
 split at h
 · injection h with h _;cases h
 · injection h with _ h;exact h.symm
theorem Ymk {rest:List RPc} (h:Zfr rest 1=true):∃ v bg z,rest=[(.num v bg,z)]:=by
 unfold Zfr at h
 simp only [Bool.and_eq_true,decide_eq_true_eq,List.all_eq_true,beq_iff_eq] at h
 obtain ⟨h1,h2⟩:=h
 match rest,h1,h2 with
 | [q],_,h2 =>
   obtain ⟨v,bg,z,rfl⟩:=Zui (h2 q (List.mem_cons_self ..))
   exact ⟨v,bg,z,rfl⟩
theorem Ypj {rest:List RPc} (h:Zfr rest 1=false):Zdl TT (.word Jn::Zhc rest)=none:=by
 unfold Zdl
 simp only []
 rw [if_pos trivial]
 match rest,h with
 | [],_=>rfl
 | [(.num v b,z)],h=>exact absurd (show true=false from h) (by decide)
 | [(.word t,_)],_=>rfl
 | [(.str t,_)],_=>rfl
 | [(.colon,_)],_=>rfl
 | (.num _ _,_)::_::_,_=>rfl
 | (.word _,_)::_::_,_=>rfl
 | (.str _,_)::_::_,_=>rfl
 | (.colon,_)::_::_,_=>rfl
theorem Yps {rest:List RPc} (h:∀ t z,rest≠[(.str t,z)]):Zdl TT (.word Zey::Zhc rest)=none:=by
 unfold Zdl
 simp only []
 rw [if_neg (by decide),if_pos trivial]
 match rest,h with
 | [],_=>rfl
 | [(.num v b,_)],_=>rfl
 | [(.word t,_)],_=>rfl
 | [(.str t,z)],h=>exact absurd rfl (h t z)
 | [(.colon,_)],_=>rfl
 | (.num _ _,_)::_::_,_=>rfl
 | (.word _,_)::_::_,_=>rfl
 | (.str _,_)::_::_,_=>rfl
 | (.colon,_)::_::_,_=>rfl
theorem Ycj {r3:List RPc} (h:Zfr r3 3=true):∃ a ba za l bl zl k bk zk,r3=[(.num a ba,za),(.num l bl,zl),(.num k bk,zk)]:=by
 unfold Zfr at h
 simp only [Bool.and_eq_true,decide_eq_true_eq,List.all_eq_true,beq_iff_eq] at h
 obtain ⟨h1,h2⟩:=h
 match r3,h1,h2 with
 | [q,q',q''],_,h2 =>
   obtain ⟨a,ba,za,rfl⟩:=Zui (h2 q (by simp))
   obtain ⟨l,bl,zl,rfl⟩:=Zui (h2 q' (by simp))
   obtain ⟨k,bk,zk,rfl⟩:=Zui (h2 q'' (by simp))
   exact ⟨a,ba,za,l,bl,zl,k,bk,zk,rfl⟩
theorem Yck (a l k:Int) (x y z:Bool) (za zb zc:Txt):Zfr [(.num a x,za),(.num l y,zb),(.num k z,zc)] 3=true:=rfl
theorem Yte {rest:List RPc} (h:∀ nm zn r3,rest=(.word nm,zn)::r3->Zfr r3 3=false):Zdl TT (.word Zgf::Zhc rest)=none:=by
 unfold Zdl
 simp only []
 rw [if_neg (by decide),if_neg (by decide),if_pos trivial]
 split
 · rename_i nm a x l y k z e
   exfalso
   match rest,e,h with
   | [(q1,z1),(q2,z2),(q3,z3),(q4,z4)],e,h =>
     simp only [Zhc,List.map_cons,List.map_nil] at e
     injection e with e1 e
     injection e with e2 e
     injection e with e3 e
     injection e with e4 e
     subst e1 e2 e3 e4
     have:=h nm z1 _ rfl
     rw [Yck] at this
     cases this
 · rfl
theorem Ycs {w:World} {b:Nat} {x0 x1 x2 x3 x4 x5 x6 x7 x8 x9 x10:Value}:w.grownBy (((((((((((w.setCell ⟨b,0,none⟩ x0).setCell ⟨b,1,none⟩ x1).setCell ⟨b,2,none⟩ x2).setCell ⟨b,3,none⟩ x3).setCell ⟨b,4,none⟩ x4).setCell ⟨b,5,none⟩ x5).setCell ⟨b,6,none⟩ x6).setCell ⟨b,7,none⟩ x7).setCell ⟨b,8,none⟩ x8).setCell ⟨b,9,none⟩ x9).setCell ⟨b,10,none⟩ x10) (some b) :=
 Za (Za (Za (Za (Za (Za (Za (Za (Za (Za (Zm _ _ _ _) (Zm _ _ _ _)) (Zm _ _ _ _)) (Zm _ _ _ _)) (Zm _ _ _ _)) (Zm _ _ _ _)) (Zm _ _ _ _)) (Zm _ _ _ _)) (Zm _ _ _ _)) (Zm _ _ _ _)) (Zm _ _ _ _)
theorem Zle {w W:World} {b2 b6:Nat} {v:Value} {lbs:List Txt} {x0 x1 x2 x3 x4 x5 x6 x7 x8 x9 x10:Value} (h:Yjw W b6 v lbs) (h2:w.heap.size<=b2) (hlt:b2<b6):Zih (((((((((((W.setCell ⟨b2,0,none⟩ x0).setCell ⟨b2,1,none⟩ x1).setCell ⟨b2,2,none⟩ x2).setCell ⟨b2,3,none⟩ x3).setCell ⟨b2,4,none⟩ x4).setCell ⟨b2,5,none⟩ x5).setCell ⟨b2,6,none⟩ x6).setCell ⟨b2,7,none⟩ x7).setCell ⟨b2,8,none⟩ x8).setCell ⟨b2,9,none⟩ x9).setCell ⟨b2,10,none⟩ x10) w.heap.size v lbs:=by
 refine World.ownsRow.kept (Zcc h (by omega)) (Ycs (w:=W) (b:=b2)) ?_
 cases hv:v.ownBlock with
 | none=>exact Or.inl rfl
 | some k =>
   refine Or.inr fun e => ?_
   injection e with e
   have:=(World.ownsRow.lt h k hv).1
   omega
theorem Yii (w:World) (a:ByteArray):(Instr.buildSlice 37 1 #[(0,.string a)]).run Tryz.prog w = .ok (.slice (some ⟨w.heap.size,0,none⟩) 1 1) (w.alloc (.cells #[.string a] 9)):=by kernel_rfl
theorem Zrt:Tryz.prog.underlying 37=some (.slice 9):=by kernel_rfl
theorem Znh:(Tryz.prog.info? 9).map (fun i=>(i.zero,i.size,i.bytes))=some (some (.string ⟨#[]⟩),1,16):=by kernel_rfl
theorem Zwm (x:ByteArray):∀ u∈[Value.string x],u.oneCell'=true:=by intro u hu;simp at hu;subst hu;rfl
def sl:Nat->Nat
 | 0=>55
 | 1=>56
 | 2=>57
 | 3=>58
 | 4=>59
 | 5=>60
 | 6=>61
 | 7=>62
 | 8=>63
 | 9=>1009
 | _=>5000
theorem Zpq:∀ i,i<10->∀ j,j<10->j≠i->sl j≠sl i:=by decide
theorem Yfe (i:Nat) (h:i<10):i=0\/i=1\/i=2\/i=3\/i=4\/i=5\/i=6\/i=7\/i=8\/i=9:=by omega
theorem Yff (j:Nat) (hj:j∈[4,6]):∀ i,i<10->sl i≠j:=by revert j;decide
def slv (E b6 b o m cc ln lc:Nat) (lp:Option Addr) (tx:ByteArray) (ys:List Value) (q2:Nat) (gB:Nat) (cB9:Nat):Nat->Value
 | 0 => .pointer (some ⟨b6,1,none⟩)
 | 1 => .slice lp ln lc
 | 2 => .slice (some ⟨b,o,none⟩) (m+2) cc
 | 3 => .pointer (some ⟨b,o,none⟩)
 | 4 => .pointer (some ⟨b,o+1,none⟩)
 | 5 => .string tx
 | 6 => .slice (some ⟨q2,0,none⟩) 1 1
 | 7 => .slice (some ⟨gB,0,none⟩) (ln+1) cB9
 | 8 => .pointer (some ⟨b6,1,none⟩)
 | 9=>undef
 | _=>undef
def slF (E b6 b o m cc ln lc:Nat) (lp:Option Addr) (tx:ByteArray) (ys:List Value) (q2:Nat) (gB:Nat) (cB9:Nat):Nat->World->Prop
 | 6=>fun w9=>w9.heap[q2]? = some (.cells #[.string tx] 9 (0,0))
 | 7=>fun w9=>w9.ownsRow E 9 1 (.slice (some ⟨gB,0,none⟩) (ln+1) cB9) (ln+1) (ys++[.string tx])
 | _=>fun _=>True
theorem Yww {E b6 b o m cc ln lc:Nat} {lp:Option Addr} {tx:ByteArray} {ys:List Value} {q2:Nat} {gB:Nat} {cB9:Nat} {q22:Nat} {l:Array Bool} (hcl:∀ p∈([(1,0),(3,2),(4,3),(5,4),(6,5),(7,1),(7,6),(9,8),(9,7)]:List (Nat × Nat)),l.getD (Prod.fst p) false=true->l.getD (Prod.snd p) false=true) (hun:l.getD 6 false=false):∀ i,i<10->l.getD i false=true->sl i<161->slv E b6 b o m cc ln lc lp tx ys q22 gB cB9 i=slv E b6 b o m cc ln lc lp tx ys q2 gB cB9 i:=by
 intro i hi hl _
 rcases Yfe i hi with rfl|rfl|rfl|rfl|rfl|rfl|rfl|rfl|rfl|rfl <;> first|rfl|exact Zk (hl) hun
theorem Ywv {E b6 b o m cc ln lc:Nat} {lp:Option Addr} {tx:ByteArray} {ys:List Value} {q2:Nat} {gB:Nat} {cB9:Nat} {gB2:Nat} {cB92:Nat} {l:Array Bool} (hcl:∀ p∈([(1,0),(3,2),(4,3),(5,4),(6,5),(7,1),(7,6),(9,8),(9,7)]:List (Nat × Nat)),l.getD (Prod.fst p) false=true->l.getD (Prod.snd p) false=true) (hun:l.getD 7 false=false):∀ i,i<10->l.getD i false=true->sl i<161->slv E b6 b o m cc ln lc lp tx ys q2 gB2 cB92 i=slv E b6 b o m cc ln lc lp tx ys q2 gB cB9 i:=by
 intro i hi hl _
 rcases Yfe i hi with rfl|rfl|rfl|rfl|rfl|rfl|rfl|rfl|rfl|rfl <;> first|rfl|exact Zk (hl) hun
theorem Yfm (t:Txt) (ht:t.length<=70000) (w:World):Calls Tryz.prog 32 #[.string (bs t)] w (Ybj w (Znn t)):=by
 have RP:=Hq (fun W=>Zwu (bs t) (by rw [Zl];exact ht) W)
 rw [show (bs t).data.toList=t by simp [bs]] at RP
 obtain ⟨r,hr⟩:∃ r,Znn t=r:=⟨_,rfl⟩
 have HF:=Hq hr
 rw [hr]
 clear hr
 go_enter Tryz.func32,Tryz.ntmps32
 go_upto_region 1 with fail
 have BZ:=Hq (Zcp w (.int .i64 0) (.slice none 0 0) (.string ⟨#[]⟩) (.int .i64 0) (.int .i64 0) (.int .i64 0) (.string ⟨#[]⟩) (.int .i64 0) (.int .i64 0) (.string ⟨#[]⟩) (.bool false))
 have G0:=Hq (Ga w (.cells #[.int .i64 0,.slice none 0 0,.string ⟨#[]⟩,.int .i64 0,.int .i64 0,.int .i64 0,.string ⟨#[]⟩,.int .i64 0,.int .i64 0,.string ⟨#[]⟩,.bool false] 86 (0,0)) none)
 have S0:=Hq (show w.heap.size<(w.alloc (.cells #[.int .i64 0,.slice none 0 0,.string ⟨#[]⟩,.int .i64 0,.int .i64 0,.int .i64 0,.string ⟨#[]⟩,.int .i64 0,.int .i64 0,.string ⟨#[]⟩,.bool false] 86 (0,0))).heap.size by rw [World.size_alloc];omega)
 generalize w.alloc (.cells #[.int .i64 0,.slice none 0 0,.string ⟨#[]⟩,.int .i64 0,.int .i64 0,.int .i64 0,.string ⟨#[]⟩,.int .i64 0,.int .i64 0,.string ⟨#[]⟩,.bool false] 86 (0,0))=W0 at BZ G0 S0 ⊢
 obtain ⟨b2,hb2⟩:∃ b2,w.heap.size=b2:=⟨_,rfl⟩
 have HB2:=Hq (Nat.le_of_eq hb2)
 rw [hb2] at BZ S0 ⊢
 clear hb2
 cases hp:Zpm t with
 | none =>
   rw [hp] at RP
   have HR:=Hq (show r=none by rw [<- HF.out];unfold Znn;rw [hp])
   clear hp
   go_upto_region 3 with (go_at_call 60;refine (RP.out _).mono ?_;rintro e w5 ⟨rfl,hg5⟩;have G5:=Hq (Za G0.out hg5);have B5:=Hq (Yp BZ.out hg5 (by simp));clear hg5)
   obtain ⟨z0,z1,z2,z3,z4,z5,z6,z7,z8,z9,z10,gz,lt2⟩:=Zr B5.out
   have g0:=gz 0
   have g1:=gz 1
   have g2:=gz 2
   have g3:=gz 3
   have g4:=gz 4
   have g5:=gz 5
   have g6:=gz 6
   have g7:=gz 7
   have g8:=gz 8
   have g9:=gz 9
   have g10:=gz 10
   go_wp2
   refine bodyPost_ret (Xq rfl rfl rfl (Yy B5.out)) rfl ?_
   exact Xx HR.out rfl (Zp G5.out HB2.out)
 | some ps =>
   rw [hp] at RP
   have HL:=Zms hp
   have HF:=Hq (show r=(Zdj TT ps).map fun sd=>(sd,Ziz ps) by rw [<- HF.out];unfold Znn;rw [hp])
   clear hp
   go_upto_region 4 with (go_at_call 60;refine (RP.out _).mono ?_;rintro e w5 ⟨⟨rs,hrs,htx,p,c,rfl,hrow⟩,hg5⟩;have G5:=Hq (Za G0.out hg5);have B5:=Hq (Yp BZ.out hg5 (by simp));have RW:=Hq hrow;have HRS:=Hq hrs;have HTX:=Hq htx;have S5:=Hq (Nat.lt_of_lt_of_le S0.out hg5.size);clear hg5 hrow hrs htx)
   obtain ⟨hcap,hcm⟩:=Yup RW.out
   have hrl:rs.length<=70000:=by
    have h1:=HL.1
    rw [<- HRS.out,List.length_map] at h1
    omega
   go_upto_region 5 with fail
   have gA:=Ga w5 (.cells #[.int .i64 0,.slice none 0 0,.string ⟨#[]⟩,.int .i64 0,.int .i64 0,.int .i64 0,.string ⟨#[]⟩,.int .i64 0,.int .i64 0,.string ⟨#[]⟩,.bool false] 86 (0,0)) none
   have SW:=Hq (show SdW w (w5.alloc (.cells #[.int .i64 0,.slice none 0 0,.string ⟨#[]⟩,.int .i64 0,.int .i64 0,.int .i64 0,.string ⟨#[]⟩,.int .i64 0,.int .i64 0,.string ⟨#[]⟩,.bool false] 86 (0,0))) b2 w5.heap.size w5.heap.size p rs (.int .i64 0) (.slice none 0 0) (.string ⟨#[]⟩) (.int .i64 0) (.int .i64 0) (.int .i64 0) (.string ⟨#[]⟩) (.int .i64 0) (.int .i64 0) (.string ⟨#[]⟩) (.bool false) from ⟨Za G5.out gA,Zcp w5 (.int .i64 0) (.slice none 0 0) (.string ⟨#[]⟩) (.int .i64 0) (.int .i64 0) (.int .i64 0) (.string ⟨#[]⟩) (.int .i64 0) (.int .i64 0) (.string ⟨#[]⟩) (.bool false),Yp B5.out gA (by simp),Zgp (Zwt RW.out) gA (by simp),HB2.out,S5.out,Nat.le_refl _⟩)
   generalize w5.alloc (.cells #[.int .i64 0,.slice none 0 0,.string ⟨#[]⟩,.int .i64 0,.int .i64 0,.int .i64 0,.string ⟨#[]⟩,.int .i64 0,.int .i64 0,.string ⟨#[]⟩,.bool false] 86 (0,0))=W1 at SW ⊢
   generalize w5.heap.size=b6 at SW ⊢
   clear gA HL
   go_wp2
   go_loopw [7] (fun i wr=>∃ k:Nat,i = .int .i64 k/\k<=rs.length/\SdW w wr b2 b6 b6 p rs (.int .i64 0) (.slice none 0 0) (.string ⟨#[]⟩) (.int .i64 0) (.int .i64 0) (.int .i64 0) (.string ⟨#[]⟩) (.int .i64 0) (.int .i64 0) (.string ⟨#[]⟩) (.bool (Ypu (rs.take k)))) (fun i _=>rs.length - (intOf i).toNat)
   case atStart=>exact ⟨0,rfl,Nat.zero_le _,SW.out⟩
   case round =>
    obtain ⟨k,rfl,hk,hSW⟩:=hrel
    have SW:=Hq hSW
    clear hSW
    by_cases hlt:k<rs.length
    · obtain ⟨q,hq⟩:∃ q,rs[k]? = some q:=⟨_,List.getElem?_eq_getElem hlt⟩
      obtain ⟨b,o,rfl,hb,d0,d1,d2,d3⟩:=Zag SW.out.pc hq
      have BT:=Hq (Yjp hq)
      clear hq d0 d1 d2
      generalize rpF q=fb at d3 BT
      generalize Ypu (rs.take k)=bk at SW BT
      obtain ⟨c0,c1,c2,c3,c4,c5,c6,c7,c8,c9,c10,fz,lt6⟩:=Zr SW.out.bx
      have f0:=fz 0
      have f1:=fz 1
      have f2:=fz 2
      have f3:=fz 3
      have f4:=fz 4
      have f5:=fz 5
      have f6:=fz 6
      have f7:=fz 7
      have f8:=fz 8
      have f9:=fz 9
      have f10:=fz 10
      cases bk with
      | true =>
        go_wp2
        exact ⟨⟨k+1,by go_num,by omega,by rw [BT.out];exact Zap SW.out rfl⟩,by simp [intOf];omega⟩
      | false =>
        go_wp2
        exact ⟨⟨k+1,by go_num,by omega,by rw [BT.out];exact Zap SW.out rfl⟩,by simp [intOf];omega⟩
    · have hkk:k=rs.length:=by omega
      subst hkk
      rw [List.take_length] at SW
      obtain ⟨big,hbig⟩:∃ big,Ypu rs=big:=⟨_,rfl⟩
      have HBG:=Hq (show Ziz ps=big by rw [<- HRS.out,<- hbig];exact Ytq rs)
      rw [hbig] at SW
      clear hbig hk
      by_cases h0:rs.length=0
      · have h0i:((rs.length:Int) == 0)=true:=by rw [h0];rfl
        have HR:=Hq (show r=some (.nothing,big) by
         rw [HF.out,HBG.out,<- HRS.out,List.eq_nil_of_length_eq_zero h0];rfl)
        clear h0
        obtain ⟨c0,c1,c2,c3,c4,c5,c6,c7,c8,c9,c10,fz,lt6⟩:=Zr SW.out.bx
        have f0:=fz 0
        have f1:=fz 1
        have f2:=fz 2
        have f3:=fz 3
        have f4:=fz 4
        have f5:=fz 5
        have f6:=fz 6
        have f7:=fz 7
        have f8:=fz 8
        have f9:=fz 9
        have f10:=fz 10
        obtain ⟨z0,z1,z2,z3,z4,z5,z6,z7,z8,z9,z10,gz,lt2⟩:=Zr SW.out.bz
        have g0:=gz 0
        have g1:=gz 1
        have g2:=gz 2
        have g3:=gz 3
        have g4:=gz 4
        have g5:=gz 5
        have g6:=gz 6
        have g7:=gz 7
        have g8:=gz 8
        have g9:=gz 9
        have g10:=gz 10
        go_wp2
        refine bodyPost_ret (Xq rfl rfl rfl (Yy SW.out.bz)) rfl ?_
        rw [HR.out]
        exact ⟨⟨none,0,rfl,World.ownsRow_nil _ _ _ _⟩,Zp SW.out.gr SW.out.h2⟩
      · have h0i:((rs.length:Int) == 0)=false:=beq_eq_false_iff_ne.2 (by omega)
        go_wp2
        go_loopw [4] (fun l wr=>∃ pp cur cc lbs lp lc,l = .slice pp (List.length cur) cc/\SdL rs big w wr b2 b6 pp cur cc lbs lp lc) (fun l _=>slen l)
        case atStart=>exact ⟨p,rs,c,[],none,0,rfl,SW.out,Zso _ _,hcap,hcm,by simp,by simpa using hrl,fun _=>⟨rfl,rfl⟩⟩
        case round =>
         obtain ⟨pp,cur,cc,lbs,lp,lc,rfl,hSL⟩:=hrel
         have SL:=Hq hSL
         have SW:=Hq hSL.sw
         have hcp:=hSL.cap
         have hcm2:=hSL.cm
         have hle:=hSL.len
         clear hSL
         by_cases hA:∃ q0 q1 rest,cur=q0::q1::rest/\rpK q0=1/\rpK q1=4
         · obtain ⟨q0,q1,rest,rfl,k0,k1⟩:=hA
           obtain ⟨tt,z0,rfl⟩:=Znc k0
           obtain ⟨z1,rfl⟩:=Yob k1
           obtain ⟨b,o,rfl,hb,d0,d1,-,-⟩:=Zag SW.out.pc (i:=0) (q:=(.word tt,z0)) rfl
           obtain ⟨b',o',hpb,hb',y0,-,-,-⟩:=Zag SW.out.pc (i:=1) (q:=(.colon,z1)) rfl
           injection hpb with hpb
           injection hpb with e1 e2 _
           subst e1 e2
           simp only [Nat.zero_mul,Nat.add_zero,Nat.one_mul] at d0 d1 y0
           replace d0:wr.cell? ⟨b,o,none⟩=some (.int .i64 1):=d0
           replace d1:wr.cell? ⟨b,o+1,none⟩=some (.string (bs tt)):=d1
           replace y0:wr.cell? ⟨b,o+4,none⟩=some (.int .i64 4):=y0
           obtain ⟨m,hm⟩:∃ m,rest.length=m:=⟨_,rfl⟩
           have hlen:(List.length (((Pc.word tt,z0):RPc)::(Pc.colon,z1)::rest))=m+2:=by simp [hm]
           rw [hlen] at hcp hle ⊢
           have HM:=Hq hm
           clear hlen k0 k1 hb' hm
           have hm2:(2:Int)<=(m:Int)+2:=by omega
           have hm1:(1:Int)<(m:Int)+2:=by omega
           have hm0:(0:Int)<(m:Int)+2:=by omega
           obtain ⟨c0,c1,c2,c3,c4,c5,c6,c7,c8,c9,c10,fz,lt6⟩:=Zr SW.out.bx
           have f0:=fz 0
           have f1:=fz 1
           have f2:=fz 2
           have f3:=fz 3
           have f4:=fz 4
           have f5:=fz 5
           have f6:=fz 6
           have f7:=fz 7
           have f8:=fz 8
           have f9:=fz 9
           have f10:=fz 10
           have c0b:=SW.out.bx
           go_upto_region 12 with fail
           (try rename_i K12 hK12)
           have HNE:some b6≠(Value.slice lp lbs.length lc).ownBlock:=fun e=>by have:=(World.ownsRow.lt SL.out.lab b6 e.symm).1;omega
           have HNX:some b≠(Value.slice lp lbs.length lc).ownBlock:=fun e=>by have:=(World.ownsRow.lt SL.out.lab b e.symm).1;omega
           have OWN:=Hq (Zdu SL.out.lab (Ze (Zb wr none)))
           have hlt:=lt6
           have hbl:b<wr.heap.size:=by omega
           have hE:b6+1<=wr.heap.size:=lt6
           obtain ⟨vb,hvb⟩:∃ vb,(Value.slice lp lbs.length lc).ownBlock=vb:=⟨_,rfl⟩
           rw [hvb] at HNE HNX
           obtain ⟨ni,ni0,ni1,ni2,ni3⟩:=info_parts Znh
           have hlb:lbs.length<=70000:=by omega
           refine Yd (n:=10) (J:=fun a0 l a1 w1=>∃ (q2:Nat) (gB:Nat) (cB9:Nat),RJ a0 161 10 sl (slv (b6+1) b6 b o m cc lbs.length lc lp (bs tt) (lbs.map fun l => .string (bs l)) q2 gB cB9) l a1/\Zas 9 10 7 [(1,0),(3,2),(4,3),(5,4),(6,5),(7,1),(7,6),(9,8),(9,7)] [(6,7)] (fun w9=>World.grownBy wr.drew w9 vb) (fun w9=>w9.ownsRow (b6+1) 9 1 (.slice lp lbs.length lc) lbs.length (lbs.map fun l => .string (bs l))) (slF (b6+1) b6 b o m cc lbs.length lc lp (bs tt) (lbs.map fun l => .string (bs l)) q2 gB cB9) (fun w9=>∃ (w8:World),World.grownBy wr.drew w8 vb/\w8.ownsRow (b6+1) 9 1 (.slice (some ⟨gB,0,none⟩) (lbs.length+1) cB9) (lbs.length+1) ((lbs.map fun l => .string (bs l))++[.string (bs tt)])/\w9=w8.setCell ⟨b6,1,none⟩ (.slice (some ⟨gB,0,none⟩) (lbs.length+1) cB9)) l w1) (by kernel_rfl) rfl (Yt (by kernel_rfl)) (fun l a1 w1 h=>by obtain ⟨_,_,_,h,_⟩:=h;exact h.sz) ⟨0,0,0,Yc rfl,Zu (Zb _ _) (OWN.out)⟩ ?step ?fin
           case step =>
            intro l a1 w' i hJJ hi hin
            obtain ⟨q2,gB,cB9,hJ,hW⟩:=hJJ
            have hun:l.getD i false=false:=getD_both (mem_ready.1 hi).1
            have hns:=Xe hW hin hun
            have hg:=hW.g hns
            have l0:=Nat.lt_of_lt_of_le hlt hg.size
            have l1:=Nat.lt_of_lt_of_le hbl hg.size
            rcases Yfe i hin with rfl|rfl|rfl|rfl|rfl|rfl|rfl|rfl|rfl|rfl
            · have e6:a1.tmps.getD 6 undef = .pointer (some ⟨b6,0,none⟩):=hJ.un 6 (fun i hi _=>Yff 6 (by decide) i hi)
              exact Zc (Zd hJ hW hi hun (hne:=Zpq _ (by decide)) (hrun:=by simp [execOp,Act.eval,e6,go_sem,slv])) (fun a9 w9 h9=>⟨q2,gB,cB9,h9⟩)
            · have e55:a1.tmps.getD 55 undef = .pointer (some ⟨b6,1,none⟩):=rjt hJ hi 0
              have h0:=hg.cell c1 HNE
              exact Zc (Zd hJ hW hi hun (hne:=Zpq _ (by decide)) (hrun:=by simp [execOp,Act.eval,e55,h0,l0,l1,go_sem,slv])) (fun a9 w9 h9=>⟨q2,gB,cB9,h9⟩)
            · have e4:a1.tmps.getD 4 undef = .slice (some ⟨b,o,none⟩) (m+2) cc:=hJ.un 4 (fun i hi _=>Yff 4 (by decide) i hi)
              exact Zc (Zd hJ hW hi hun (hne:=Zpq _ (by decide)) (hrun:=by simp [execOp,resolve,invoke,builtin,Act.eval,e4,l0,l1,go_sem,slv])) (fun a9 w9 h9=>⟨q2,gB,cB9,h9⟩)
            · have e57:a1.tmps.getD 57 undef = .slice (some ⟨b,o,none⟩) (m+2) cc:=rjt hJ hi 2
              exact Zc (Zd hJ hW hi hun (hne:=Zpq _ (by decide)) (hrun:=by simp [execOp,resolve,invoke,builtin,Act.eval,e57,l0,l1,go_sem,slv] <;> (intros;omega))) (fun a9 w9 h9=>⟨q2,gB,cB9,h9⟩)
            · have e58:a1.tmps.getD 58 undef = .pointer (some ⟨b,o,none⟩):=rjt hJ hi 3
              exact Zc (Zd hJ hW hi hun (hne:=Zpq _ (by decide)) (hrun:=by simp [execOp,Act.eval,e58,go_sem,slv])) (fun a9 w9 h9=>⟨q2,gB,cB9,h9⟩)
            · have e59:a1.tmps.getD 59 undef = .pointer (some ⟨b,o+1,none⟩):=rjt hJ hi 4
              have h0:=hg.cell d1 HNX
              exact Zc (Zd hJ hW hi hun (hne:=Zpq _ (by decide)) (hrun:=by simp [execOp,Act.eval,e59,h0,l0,l1,go_sem,slv])) (fun a9 w9 h9=>⟨q2,gB,cB9,h9⟩)
            · have e60:a1.tmps.getD 60 undef = .string (bs tt):=rjt hJ hi 5
              have f60:=e60
              rw [Array.getD_eq_getD_getElem?] at f60
              refine Zt (v:=slv (b6+1) b6 b o m cc lbs.length lc lp (bs tt) (lbs.map fun l => .string (bs l)) w'.heap.size gB cB9 6) (w':=w'.alloc (.cells #[.string (bs tt)] 9)) rfl (by rfl) (by simp [execOp,Act.eval,e60,f60,Yii,Result.andThen,slv]) ⟨w'.heap.size,gB,cB9,?_,Zo hW (by decide) hun (by decide) (Zg _ hi (by kernel_rfl)) (Za hg (Ga _ _ _)) (fun hne0 hun0 hB0=>hB0.alloc _) (fun j hj hne hl hcu hF => ?_) (heap_alloc_new w' _)⟩
              · exact Yg (val:=slv (b6+1) b6 b o m cc lbs.length lc lp (bs tt) (lbs.map fun l => .string (bs l)) w'.heap.size gB cB9) (Yj hJ (Yww hW.cl hun)) (by decide) (by decide) (Zpq _ (by decide))
              · rcases Yfe j hj with rfl|rfl|rfl|rfl|rfl|rfl|rfl|rfl|rfl|rfl <;> first|exact True.intro|exact absurd rfl hne|exact Zk (hW.cl (7,6) (by decide) (hl)) hun
            · have e56:a1.tmps.getD 56 undef = .slice lp lbs.length lc:=rjt hJ hi 1
              have e61:a1.tmps.getD 61 undef = .slice (some ⟨q2,0,none⟩) 1 1:=rjt hJ hi 6
              have F6:=hW.f hns 6 (by decide) (Zq hi 6 (by kernel_rfl)) (Jg (c:=7) (by decide) hun)
              have own:=hW.u hun
              obtain ⟨v8,w8,hap,hown,hgr,-⟩:=run_append_own_at (P:=Tryz.prog) w' (b6+1) 37 37 9 ni (.string ⟨#[]⟩) 1 16 Zrt ni0 ni1 ni2 ni3 rfl (by decide) _ lbs.length (lbs.map fun l => .string (bs l)) own ⟨q2,0,none⟩ 1 1 [.string (bs tt)] rfl (Zbj F6) (Zwm _) (by unfold maxLen;omega) (by omega) (Nat.le_trans hE hg.size)
              rw [hvb] at hgr
              obtain ⟨gB2,cB92,hv⟩:=Js hown
              subst hv
              refine Zt (v:=slv (b6+1) b6 b o m cc lbs.length lc lp (bs tt) (lbs.map fun l => .string (bs l)) q2 gB2 cB92 7) (w':=w8) rfl (by rfl) (by simp [execOp,resolve,invoke,builtin,Act.eval,e56,e61,hap,Result.andThen,slv]) ⟨q2,gB2,cB92,?_,Zo hW (by decide) hun (by decide) (Zg _ hi (by kernel_rfl)) (Za hg hgr) (fun hne0 hun0 hB0=>absurd rfl hne0) (fun j hj hne hl hcu hF => ?_) (hown)⟩
              · exact Yg (val:=slv (b6+1) b6 b o m cc lbs.length lc lp (bs tt) (lbs.map fun l => .string (bs l)) q2 gB2 cB92) (Yj hJ (Ywv hW.cl hun)) (by decide) (by decide) (Zpq _ (by decide))
              · rcases Yfe j hj with rfl|rfl|rfl|rfl|rfl|rfl|rfl|rfl|rfl|rfl <;> first|exact True.intro|exact absurd rfl (hcu (6,7) (by decide) rfl).1|exact absurd rfl hne
            · have e6:a1.tmps.getD 6 undef = .pointer (some ⟨b6,0,none⟩):=hJ.un 6 (fun i hi _=>Yff 6 (by decide) i hi)
              exact Zc (Zd hJ hW hi hun (hne:=Zpq _ (by decide)) (hrun:=by simp [execOp,Act.eval,e6,go_sem,slv])) (fun a9 w9 h9=>⟨q2,gB,cB9,h9⟩)
            · have e63:a1.tmps.getD 63 undef = .pointer (some ⟨b6,1,none⟩):=rjt hJ hi 8
              have e62:a1.tmps.getD 62 undef = .slice (some ⟨gB,0,none⟩) (lbs.length+1) cB9:=rjt hJ hi 7
              have F7:=hW.f hns 7 (by decide) (Zq hi 7 (by kernel_rfl)) (Zat (by decide))
              have k1:=hg.cell c1 HNE
              have bx2:=hg.block b6 hlt HNE
              have j1:w'.frozen? ⟨b6,1,none⟩=false:=(World.frozen?_of_block bx2).trans f1
              have lb2:=Nat.lt_of_lt_of_le hlt hg.size
              have O7:w'.ownsRow (b6+1) 9 1 (.slice (some ⟨gB,0,none⟩) (lbs.length+1) cB9) (lbs.length+1) ((lbs.map fun l => .string (bs l))++[.string (bs tt)]):=F7
              have hall:∀ j,j<10->j≠9->l.getD j false=true:=Jp hi hW.cl (by kernel_rfl)
              exact Zc (Jo (WS:=fun l9 w9=>Zas 9 10 7 [(1,0),(3,2),(4,3),(5,4),(6,5),(7,1),(7,6),(9,8),(9,7)] [(6,7)] (fun w9=>World.grownBy wr.drew w9 vb) (fun w9=>w9.ownsRow (b6+1) 9 1 (.slice lp lbs.length lc) lbs.length (lbs.map fun l => .string (bs l))) (slF (b6+1) b6 b o m cc lbs.length lc lp (bs tt) (lbs.map fun l => .string (bs l)) q2 gB cB9) (fun w9=>∃ (w8:World),World.grownBy wr.drew w8 vb/\w8.ownsRow (b6+1) 9 1 (.slice (some ⟨gB,0,none⟩) (lbs.length+1) cB9) (lbs.length+1) ((lbs.map fun l => .string (bs l))++[.string (bs tt)])/\w9=w8.setCell ⟨b6,1,none⟩ (.slice (some ⟨gB,0,none⟩) (lbs.length+1) cB9)) l9 w9) hJ rfl rfl rfl (by decide) (by decide) (w':=w'.setCell ⟨b6,1,none⟩ (.slice (some ⟨gB,0,none⟩) (lbs.length+1) cB9)) (by simp [execOp,Act.eval,e63,e62,k1,j1,lb2,go_sem]) (Xa hW (by decide) (by decide) hall (Zg _ hi (by kernel_rfl)) (⟨w',hg,O7,rfl⟩))) (fun a9 w9 h9=>⟨q2,gB,cB9,h9⟩)
           case fin =>
            intro l9 a1 w9 hJJ hl9
            obtain ⟨q2,gB,cB9,hJ,hW⟩:=hJJ
            have hq:=hW.q (hl9 9 (by decide))
            have hput:=Ys hJ rfl hl9 (fun i j h1 h2 h3=>Zpq j h2 i h1 h3)
            subst hput
            clear hJ hW hl9
            obtain ⟨w8,q1,q4,rfl⟩:=hq
            (try refine hK12 _ _ ?_)
            simp only [Ja,sl,slv,Act.put,List.setIfInBounds_toArray,List.set_cons_zero,List.set_cons_succ]
            have SW:=Hq (Zap (o:=1) (x := .slice (some ⟨gB,0,none⟩) (lbs.length+1) cB9) (Zbz (Zbz SW.out (Ze (Zb wr none)) (by simp)) q1 (fun k hk=>by have:=(World.ownsRow.lt SL.out.lab k (hvb.trans hk)).1;omega)) rfl)
            have LB:=Hq (show Yjw (w8.setCell ⟨b6,1,none⟩ (.slice (some ⟨gB,0,none⟩) (lbs.length+1) cB9)) b6 (.slice (some ⟨gB,0,none⟩) (lbs.length+1) cB9) (lbs++[tt]) from Yai (by unfold Yjw Zih;rw [List.length_append,List.map_append];exact q4))
            generalize w8.setCell ⟨b6,1,none⟩ (.slice (some ⟨gB,0,none⟩) (lbs.length+1) cB9)=w5 at SW LB ⊢
            clear q1 q4 hvb OWN c0b c0 c1 c2 c3 c4 c5 c6 c7 c8 c9 c10 fz lt6 f0 f1 f2 f3 f4 f5 f6 f7 f8 f9 f10 d0 d1 y0
            go_wp2
            by_cases h9:cc=2
            · have hr0:rest=[]:=List.eq_nil_of_length_eq_zero (by rw [HM.out];omega)
              rw [if_pos h9]
              exact ⟨⟨some ⟨b,o,none⟩,rest,cc - 2,lbs++[tt],_,_,by rw [HM.out],Zzd SL.out _ (by rw [hr0];exact Yqz SW.out) LB.out⟩,by simp [slen]⟩
            · rw [if_neg h9]
              exact ⟨⟨some ⟨b,o+8,none⟩,rest,cc - 2,lbs++[tt],_,_,by rw [HM.out],Zzd SL.out _ (Ykw SW.out 2) LB.out⟩,by simp [slen]⟩
         · have hst:=Ymz (cur:=cur) (fun q0 q1 rest e k=>hA ⟨q0,q1,rest,e,k⟩)
           have EQ:=Hq (show Yb (Zhc rs)=(lbs,Zhc cur) by rw [SL.out.eq,hst];simp)
           have LB:=Hq SL.out.lab
           have hps:Zhc rs≠[]:=fun e=>h0 (by have:=congrArg List.length e;unfold Zhc at this;rw [List.length_map] at this;exact this)
           obtain ⟨n,hn⟩:∃ n,cur.length=n:=⟨_,rfl⟩
           have HN:=Hq hn
           rw [hn] at hcp hle ⊢
           have HPS:=Hq hps
           have HAN:=Hq hA
           clear hst hn hA hps
           have EX:¬ (2:Int)<=(n:Int)\/((2:Int)<=(n:Int)/\∃ b o k0,pp=some ⟨b,o,none⟩/\wr.cell? ⟨b,o,none⟩=some (.int .i64 k0)/\(k0 == 1)=false)\/((2:Int)<=(n:Int)/\∃ b o k1,pp=some ⟨b,o,none⟩/\wr.cell? ⟨b,o,none⟩=some (.int .i64 1)/\wr.cell? ⟨b,o+4,none⟩=some (.int .i64 k1)/\(k1 == 4)=false):=by
            have hlen:=HN.out
            cases cur with
            | nil=>exact Or.inl (by simp at hlen;omega)
            | cons q0 t1 =>
              cases t1 with
              | nil=>exact Or.inl (by simp at hlen;omega)
              | cons q1 rest =>
                have h2:(2:Int)<=(n:Int):=by simp only [List.length_cons] at hlen;omega
                obtain ⟨b,o,e,hb,d0,-,-,-⟩:=Zag SW.out.pc (i:=0) (q:=q0) rfl
                obtain ⟨b',o',e',hb',y0,-,-,-⟩:=Zag SW.out.pc (i:=1) (q:=q1) rfl
                rw [e] at e'
                injection e' with e'
                injection e' with e1 e2 _
                subst e1 e2
                simp only [Nat.zero_mul,Nat.add_zero,Nat.one_mul] at d0 y0
                by_cases k0:rpK q0=1
                · rw [k0] at d0
                  exact Or.inr (Or.inr ⟨h2,b,o,rpK q1,e,d0,y0,beq_eq_false_iff_ne.2 fun k1=>HAN.out ⟨q0,q1,rest,rfl,k0,k1⟩⟩)
                · exact Or.inr (Or.inl ⟨h2,b,o,rpK q0,e,d0,beq_eq_false_iff_ne.2 k0⟩)
           obtain ⟨c0,c1,c2,c3,c4,c5,c6,c7,c8,c9,c10,fz,lt6⟩:=Zr SW.out.bx
           have f0:=fz 0
           have f1:=fz 1
           have f2:=fz 2
           have f3:=fz 3
           have f4:=fz 4
           have f5:=fz 5
           have f6:=fz 6
           have f7:=fz 7
           have f8:=fz 8
           have f9:=fz 9
           have f10:=fz 10
           by_cases hl0:lbs.length=0
           · have hl0i:(((0:Nat):Int) == 0)=true:=rfl
             have e0:lbs=[]:=List.eq_nil_of_length_eq_zero hl0
             have hlp:=SL.out.nil e0
             have EQ0:=Hq (show Yb (Zhc rs)=([],Zhc cur) by rw [EQ.out,e0])
             have SL0:=Hq (show Zdj TT ps=Zdl TT (Zhc cur) by rw [<- HRS.out];exact Yfk HPS.out EQ0.out)
             obtain ⟨q0,rest,hcur⟩:∃ q0 rest,cur=q0::rest:=by
              cases cur with
              | nil=>exact absurd (Ysn EQ0.out).symm HPS.out
              | cons a r=>exact ⟨a,r,rfl⟩
             obtain ⟨e1,e2⟩:=hlp
             subst e1 e2
             rw [hl0] at SW c1
             clear e0 hl0 LB SL EQ EQ0
             subst hcur
             obtain ⟨b,o,hpb,hb9,d0,d1,-,-⟩:=Zag SW.out.pc (i:=0) (q:=q0) rfl
             subst hpb
             simp only [Nat.zero_mul,Nat.add_zero] at d0 d1
             have hrl:rest.length=n - 1:=by have:=HN.out;simp at this;omega
             have hn0:(0:Int)<(n:Int):=by have:=HN.out;simp at this;omega
             by_cases k0:rpK q0=1
             · obtain ⟨tt,zw,rfl⟩:=Znc k0
               replace d0:wr.cell? ⟨b,o,none⟩=some (.int .i64 1):=d0
               replace d1:wr.cell? ⟨b,o+1,none⟩=some (.string (bs tt)):=d1
               have EX2:¬ (2:Int)<=(n:Int)\/((2:Int)<=(n:Int)/\∃ k1,wr.cell? ⟨b,o+4,none⟩=some (.int .i64 k1)/\(k1 == 4)=false):=by
                rcases EX with hE|⟨hE,b',o',k0',e,x0,x1⟩|⟨hE,b',o',k1',e,x0,x1,x2⟩
                · exact Or.inl hE
                · injection e with e
                  injection e with e1 e2 _
                  subst e1 e2
                  rw [d0] at x0
                  injection x0 with x0
                  injection x0 with _ x0
                  subst x0
                  exact absurd x1 (by decide)
                · injection e with e
                  injection e with e1 e2 _
                  subst e1 e2
                  exact Or.inr ⟨hE,k1',x1,x2⟩
               clear EX k0
               by_cases hm1:tt=Jn
               · have g1:=Zfy hm1
                 have SLW:=Hq (show Zdj TT ps=Zdl TT (.word Jn::Zhc rest) by rw [SL0.out,<- hm1];rfl)
                 clear hm1
                 simp only [Jn] at g1
                 have NU:=Hq (show ∀ W p',Ybk W b6 p' rest->Calls Tryz.prog 61 #[.slice p' (n - 1) (cc - 1),.int .i64 1] W fun e w'=>e = .returned (.bool (Zfr rest 1))/\W=w' from fun W p' h=>by
                  have:=Zly rest 1 b6 p' (cc - 1) W h (by omega) (by omega)
                  rw [hrl] at this
                  exact this)
                 by_cases hn2:n=2
                 · obtain ⟨hE,k1,y0,e1⟩:=EX2.resolve_left (by omega)
                   have hc1:¬ cc=1:=by omega
                   have hn1:(1:Int)<(n:Int):=by omega
                   go_upto_region 18 with fail
                   have SW:Hid (SdW w (wr.setCell ⟨b6,0,none⟩ (.int .i64 1)) b2 b6 b6 (some ⟨b,o,none⟩) ((.word tt,zw)::rest) (.int .i64 1) ((.slice none 0 0)) (.string ⟨#[]⟩) (.int .i64 0) (.int .i64 0) (.int .i64 0) (.string ⟨#[]⟩) (.int .i64 0) (.int .i64 0) (.string ⟨#[]⟩) (.bool big)):=Hq (Zap SW.out rfl)
                   generalize wr.setCell ⟨b6,0,none⟩ (.int .i64 1)=W2 at SW ⊢
                   obtain ⟨c0,c1,c2,c3,c4,c5,c6,c7,c8,c9,c10,fz,lt6⟩:=Zr SW.out.bx
                   have f0:=fz 0
                   have f1:=fz 1
                   have f2:=fz 2
                   have f3:=fz 3
                   have f4:=fz 4
                   have f5:=fz 5
                   have f6:=fz 6
                   have f7:=fz 7
                   have f8:=fz 8
                   have f9:=fz 9
                   have f10:=fz 10
                   obtain ⟨z0,z1,z2,z3,z4,z5,z6,z7,z8,z9,z10,gz,lt2⟩:=Zr SW.out.bz
                   have g0:=gz 0
                   have g1:=gz 1
                   have g2:=gz 2
                   have g3:=gz 3
                   have g4:=gz 4
                   have g5:=gz 5
                   have g6:=gz 6
                   have g7:=gz 7
                   have g8:=gz 8
                   have g9:=gz 9
                   have g10:=gz 10
                   cases hb:Zfr rest 1 with
                   | false =>
                     have HR:=Hq (show r=none by rw [HF.out,SLW.out,Ypj hb];rfl)
                     rw [hb] at NU
                     clear hb hn2
                     go_upto_region 19 with (go_at_call 61;refine (NU.out _ _ (Zfb SW.out.pc 1)).mono ?_;rintro e w9 ⟨rfl,rfl⟩)
                     go_wp2
                     refine bodyPost_ret (Xq rfl rfl rfl (Yy SW.out.bz)) rfl ?_
                     exact Xx HR.out rfl (Zp SW.out.gr SW.out.h2)
                   | true =>
                     obtain ⟨v,bg,z,hv⟩:=Ymk hb
                     have HR:=Hq (show r=some (.mem v,big) by rw [HF.out,SLW.out,hv,HBG.out];rfl)
                     obtain ⟨b',o',e',-,-,-,y2,-⟩:=Zag SW.out.pc (i:=1) (q:=(.num v bg,z)) (by rw [hv];rfl)
                     injection e' with e'
                     injection e' with e1 e2 _
                     subst e1 e2
                     simp only [Nat.one_mul] at y2
                     replace y2:W2.cell? ⟨b,o+4+2,none⟩=some (.int .i64 v):=y2
                     rw [hb] at NU
                     clear hb hv hn2
                     go_upto_region 21 with (go_at_call 61;refine (NU.out _ _ (Zfb SW.out.pc 1)).mono ?_;rintro e w9 ⟨rfl,rfl⟩)
                     have SW:Hid (SdW w (W2.setCell ⟨b6,3,none⟩ (.int .i64 v)) b2 b6 b6 (some ⟨b,o,none⟩) ((.word tt,zw)::rest) (.int .i64 1) ((.slice none 0 0)) (.string ⟨#[]⟩) (.int .i64 v) (.int .i64 0) (.int .i64 0) (.string ⟨#[]⟩) (.int .i64 0) (.int .i64 0) (.string ⟨#[]⟩) (.bool big)):=Hq (Zap SW.out rfl)
                     generalize W2.setCell ⟨b6,3,none⟩ (.int .i64 v)=W3 at SW ⊢
                     clear c0 c1 c2 c3 c4 c5 c6 c7 c8 c9 c10 fz lt6 f0 f1 f2 f3 f4 f5 f6 f7 f8 f9 f10
                     obtain ⟨c0,c1,c2,c3,c4,c5,c6,c7,c8,c9,c10,fz,lt6⟩:=Zr SW.out.bx
                     have f0:=fz 0
                     have f1:=fz 1
                     have f2:=fz 2
                     have f3:=fz 3
                     have f4:=fz 4
                     have f5:=fz 5
                     have f6:=fz 6
                     have f7:=fz 7
                     have f8:=fz 8
                     have f9:=fz 9
                     have f10:=fz 10
                     clear z0 z1 z2 z3 z4 z5 z6 z7 z8 z9 z10 gz lt2 g0 g1 g2 g3 g4 g5 g6 g7 g8 g9 g10
                     obtain ⟨z0,z1,z2,z3,z4,z5,z6,z7,z8,z9,z10,gz,lt2⟩:=Zr SW.out.bz
                     have g0:=gz 0
                     have g1:=gz 1
                     have g2:=gz 2
                     have g3:=gz 3
                     have g4:=gz 4
                     have g5:=gz 5
                     have g6:=gz 6
                     have g7:=gz 7
                     have g8:=gz 8
                     have g9:=gz 9
                     have g10:=gz 10
                     go_wp2
                     refine bodyPost_ret (Xq rfl rfl rfl (Yy SW.out.bz)) rfl ?_
                     rw [HR.out]
                     exact ⟨⟨none,0,rfl,World.ownsRow_nil _ _ _ _⟩,Zp SW.out.gr SW.out.h2⟩
                 · have hb:Zfr rest 1=false:=by unfold Zfr;rw [decide_eq_false (by omega)];rfl
                   have HR:=Hq (show r=none by rw [HF.out,SLW.out,Ypj hb];rfl)
                   rw [hb] at NU
                   have hr0:cc=1->rest=[]:=fun h=>List.eq_nil_of_length_eq_zero (by omega)
                   have HR0:=Hq hr0
                   have HN2:=Hq hn2
                   clear hb hn2 hr0
                   rcases EX2 with hE|⟨hE,k1,y0,e1⟩
                   all_goals (
                    go_upto_region 18 with fail
                    have SW:Hid (SdW w (wr.setCell ⟨b6,0,none⟩ (.int .i64 1)) b2 b6 b6 (some ⟨b,o,none⟩) ((.word tt,zw)::rest) (.int .i64 1) ((.slice none 0 0)) (.string ⟨#[]⟩) (.int .i64 0) (.int .i64 0) (.int .i64 0) (.string ⟨#[]⟩) (.int .i64 0) (.int .i64 0) (.string ⟨#[]⟩) (.bool big)):=Hq (Zap SW.out rfl)
                    generalize wr.setCell ⟨b6,0,none⟩ (.int .i64 1)=W2 at SW ⊢
                    obtain ⟨c0,c1,c2,c3,c4,c5,c6,c7,c8,c9,c10,fz,lt6⟩:=Zr SW.out.bx
                    have f0:=fz 0
                    have f1:=fz 1
                    have f2:=fz 2
                    have f3:=fz 3
                    have f4:=fz 4
                    have f5:=fz 5
                    have f6:=fz 6
                    have f7:=fz 7
                    have f8:=fz 8
                    have f9:=fz 9
                    have f10:=fz 10
                    obtain ⟨z0,z1,z2,z3,z4,z5,z6,z7,z8,z9,z10,gz,lt2⟩:=Zr SW.out.bz
                    have g0:=gz 0
                    have g1:=gz 1
                    have g2:=gz 2
                    have g3:=gz 3
                    have g4:=gz 4
                    have g5:=gz 5
                    have g6:=gz 6
                    have g7:=gz 7
                    have g8:=gz 8
                    have g9:=gz 9
                    have g10:=gz 10
                    by_cases hc1:cc=1
                    · first
                       | (exfalso;omega)
                       | (have hr0:=HR0.out hc1
                          have hn1e:n=1:=by omega
                          subst hc1
                          subst hn1e
                          have NU0:=Hq (fun W p'=>show Calls Tryz.prog 61 #[.slice p' 0 0,.int .i64 1] W fun e w'=>e = .returned (.bool false)/\W=w' from NU.out W p' (by rw [hr0];exact Zzh _ _ _))
                          clear hr0 NU HR0 hcp hle hcm2 hrl HN2
                          go_upto_region 19 with (go_at_call 61;refine (NU0.out _ _).mono ?_;rintro e w9 ⟨rfl,rfl⟩)
                          go_wp2
                          refine bodyPost_ret (Xq rfl rfl rfl (Yy SW.out.bz)) rfl ?_
                          exact Xx HR.out rfl (Zp SW.out.gr SW.out.h2))
                    · go_upto_region 19 with (go_at_call 61;refine (NU.out _ _ (Zfb SW.out.pc 1)).mono ?_;rintro e w9 ⟨rfl,rfl⟩)
                      go_wp2
                      refine bodyPost_ret (Xq rfl rfl rfl (Yy SW.out.bz)) rfl ?_
                      exact Xx HR.out rfl (Zp SW.out.gr SW.out.h2))
               · have g1:=Zfx hm1
                 by_cases hm2:tt=Zey
                 · have g2:=Zfy hm2
                   have SLW:=Hq (show Zdj TT ps=Zdl TT (.word Zey::Zhc rest) by rw [SL0.out,<- hm2];rfl)
                   clear hm1 hm2
                   simp only [Jn] at g1
                   simp only [Zey] at g2
                   by_cases hn2:n=2
                   · obtain ⟨hE,k1,y0,e1⟩:=EX2.resolve_left (by omega)
                     have hn2i:((n:Int) != 2)=false:=by simp;omega
                     have hn1:(1:Int)<(n:Int):=by omega
                     go_upto_region 24 with fail
                     have SW:Hid (SdW w (wr.setCell ⟨b6,0,none⟩ (.int .i64 2)) b2 b6 b6 (some ⟨b,o,none⟩) ((.word tt,zw)::rest) (.int .i64 2) ((.slice none 0 0)) (.string ⟨#[]⟩) (.int .i64 0) (.int .i64 0) (.int .i64 0) (.string ⟨#[]⟩) (.int .i64 0) (.int .i64 0) (.string ⟨#[]⟩) (.bool big)):=Hq (Zap SW.out rfl)
                     generalize wr.setCell ⟨b6,0,none⟩ (.int .i64 2)=W2 at SW ⊢
                     obtain ⟨c0,c1,c2,c3,c4,c5,c6,c7,c8,c9,c10,fz,lt6⟩:=Zr SW.out.bx
                     have f0:=fz 0
                     have f1:=fz 1
                     have f2:=fz 2
                     have f3:=fz 3
                     have f4:=fz 4
                     have f5:=fz 5
                     have f6:=fz 6
                     have f7:=fz 7
                     have f8:=fz 8
                     have f9:=fz 9
                     have f10:=fz 10
                     obtain ⟨z0,z1,z2,z3,z4,z5,z6,z7,z8,z9,z10,gz,lt2⟩:=Zr SW.out.bz
                     have g0:=gz 0
                     have g1:=gz 1
                     have g2:=gz 2
                     have g3:=gz 3
                     have g4:=gz 4
                     have g5:=gz 5
                     have g6:=gz 6
                     have g7:=gz 7
                     have g8:=gz 8
                     have g9:=gz 9
                     have g10:=gz 10
                     obtain ⟨q1,hq1⟩:∃ q1,rest=[q1]:=by
                      match rest,hrl with
                      | [a],_=>exact ⟨a,rfl⟩
                      | [],h=>exact absurd h (by simp;omega)
                      | _::_::_,h=>exact absurd h (by simp;omega)
                     obtain ⟨b',o',e',-,y0',y1,-,-⟩:=Zag SW.out.pc (i:=1) (q:=q1) (by rw [hq1];rfl)
                     injection e' with e'
                     injection e' with e1 e2 _
                     subst e1 e2
                     simp only [Nat.one_mul] at y0' y1
                     by_cases k3:rpK q1=3
                     · obtain ⟨tx,z,hqs⟩:∃ tx z,q1=(.str tx,z):=by
                        obtain ⟨qa,z⟩:=q1
                        cases qa with
                        | word t=>exact absurd (show (1:Int)=3 from k3) (by decide)
                        | num n b=>exact absurd (show (2:Int)=3 from k3) (by decide)
                        | str t=>exact ⟨t,z,rfl⟩
                        | colon=>exact absurd (show (4:Int)=3 from k3) (by decide)
                       have HR:=Hq (show r=some (.data tx,big) by rw [HF.out,SLW.out,hq1,hqs,HBG.out];rfl)
                       rw [k3] at y0'
                       have htx:bs (rpT q1)=bs tx:=by rw [hqs];rfl
                       rw [htx] at y1
                       clear k3 hqs htx hq1 hn2
                       go_upto_region 27 with fail
                       have SW:Hid (SdW w (W2.setCell ⟨b6,6,none⟩ (.string (bs tx))) b2 b6 b6 (some ⟨b,o,none⟩) ((.word tt,zw)::rest) (.int .i64 2) ((.slice none 0 0)) (.string ⟨#[]⟩) (.int .i64 0) (.int .i64 0) (.int .i64 0) (.string (bs tx)) (.int .i64 0) (.int .i64 0) (.string ⟨#[]⟩) (.bool big)):=Hq (Zap SW.out rfl)
                       generalize W2.setCell ⟨b6,6,none⟩ (.string (bs tx))=W3 at SW ⊢
                       clear c0 c1 c2 c3 c4 c5 c6 c7 c8 c9 c10 fz lt6 f0 f1 f2 f3 f4 f5 f6 f7 f8 f9 f10
                       obtain ⟨c0,c1,c2,c3,c4,c5,c6,c7,c8,c9,c10,fz,lt6⟩:=Zr SW.out.bx
                       have f0:=fz 0
                       have f1:=fz 1
                       have f2:=fz 2
                       have f3:=fz 3
                       have f4:=fz 4
                       have f5:=fz 5
                       have f6:=fz 6
                       have f7:=fz 7
                       have f8:=fz 8
                       have f9:=fz 9
                       have f10:=fz 10
                       clear z0 z1 z2 z3 z4 z5 z6 z7 z8 z9 z10 gz lt2 g0 g1 g2 g3 g4 g5 g6 g7 g8 g9 g10
                       obtain ⟨z0,z1,z2,z3,z4,z5,z6,z7,z8,z9,z10,gz,lt2⟩:=Zr SW.out.bz
                       have g0:=gz 0
                       have g1:=gz 1
                       have g2:=gz 2
                       have g3:=gz 3
                       have g4:=gz 4
                       have g5:=gz 5
                       have g6:=gz 6
                       have g7:=gz 7
                       have g8:=gz 8
                       have g9:=gz 9
                       have g10:=gz 10
                       go_wp2
                       refine bodyPost_ret (Xq rfl rfl rfl (Yy SW.out.bz)) rfl ?_
                       rw [HR.out]
                       exact ⟨⟨none,0,rfl,World.ownsRow_nil _ _ _ _⟩,Zp SW.out.gr SW.out.h2⟩
                     · have k3i:(rpK q1 != 3)=true:=by simpa using k3
                       have HR:=Hq (show r=none by
                        rw [HF.out,SLW.out,Yps (by intro t z e;rw [hq1] at e;injection e with e _;rw [e] at k3;exact k3 rfl)];rfl)
                       clear k3 hq1 hn2
                       go_upto_region 25 with fail
                       go_wp2
                       refine bodyPost_ret (Xq rfl rfl rfl (Yy SW.out.bz)) rfl ?_
                       exact Xx HR.out rfl (Zp SW.out.gr SW.out.h2)
                   · have hn2i:((n:Int) != 2)=true:=by simp;omega
                     have HR:=Hq (show r=none by
                      rw [HF.out,SLW.out,Yps (by intro t z e;rw [e] at hrl;simp at hrl;omega)];rfl)
                     clear hn2
                     rcases EX2 with hE|⟨hE,k1,y0,e1⟩
                     all_goals (
                      go_upto_region 25 with fail
                      have SW:Hid (SdW w (wr.setCell ⟨b6,0,none⟩ (.int .i64 2)) b2 b6 b6 (some ⟨b,o,none⟩) ((.word tt,zw)::rest) (.int .i64 2) ((.slice none 0 0)) (.string ⟨#[]⟩) (.int .i64 0) (.int .i64 0) (.int .i64 0) (.string ⟨#[]⟩) (.int .i64 0) (.int .i64 0) (.string ⟨#[]⟩) (.bool big)):=Hq (Zap SW.out rfl)
                      generalize wr.setCell ⟨b6,0,none⟩ (.int .i64 2)=W2 at SW ⊢
                      obtain ⟨c0,c1,c2,c3,c4,c5,c6,c7,c8,c9,c10,fz,lt6⟩:=Zr SW.out.bx
                      have f0:=fz 0
                      have f1:=fz 1
                      have f2:=fz 2
                      have f3:=fz 3
                      have f4:=fz 4
                      have f5:=fz 5
                      have f6:=fz 6
                      have f7:=fz 7
                      have f8:=fz 8
                      have f9:=fz 9
                      have f10:=fz 10
                      obtain ⟨z0,z1,z2,z3,z4,z5,z6,z7,z8,z9,z10,gz,lt2⟩:=Zr SW.out.bz
                      have g0:=gz 0
                      have g1:=gz 1
                      have g2:=gz 2
                      have g3:=gz 3
                      have g4:=gz 4
                      have g5:=gz 5
                      have g6:=gz 6
                      have g7:=gz 7
                      have g8:=gz 8
                      have g9:=gz 9
                      have g10:=gz 10
                      go_wp2
                      refine bodyPost_ret (Xq rfl rfl rfl (Yy SW.out.bz)) rfl ?_
                      exact Xx HR.out rfl (Zp SW.out.gr SW.out.h2))
                 · have g2:=Zfx hm2
                   by_cases hm3:tt=Zgf
                   · have g3:=Zfy hm3
                     have SLW:=Hq (show Zdj TT ps=Zdl TT (.word Zgf::Zhc rest) by rw [SL0.out,<- hm3];rfl)
                     clear hm1 hm2 hm3
                     simp only [Jn] at g1
                     simp only [Zey] at g2
                     simp only [Zgf] at g3
                     by_cases hn5:n=5
                     · obtain ⟨hE,k1,y0,e1⟩:=EX2.resolve_left (by omega)
                       have hn5i:((n:Int) != 5)=false:=by simp;omega
                       have hn1:(1:Int)<(n:Int):=by omega
                       have hn2:(2:Int)<(n:Int):=by omega
                       have hn3:(3:Int)<(n:Int):=by omega
                       have hn4:(4:Int)<(n:Int):=by omega
                       have hc2:¬ cc=2:=by omega
                       obtain ⟨q1,r3,hq1⟩:∃ q1 r3,rest=q1::r3:=by
                        cases rest with
                        | nil=>exact absurd hrl (by simp;omega)
                        | cons x y=>exact ⟨x,y,rfl⟩
                       have hr3:r3.length=n - 2:=by rw [hq1] at hrl;simp at hrl;omega
                       subst hq1
                       have NU:=Hq (show ∀ W p',Ybk W b6 p' r3->Calls Tryz.prog 61 #[.slice p' (n - 2) (cc - 2),.int .i64 3] W fun e w'=>e = .returned (.bool (Zfr r3 3))/\W=w' from fun W p' h=>by
                        have:=Zly r3 3 b6 p' (cc - 2) W h (by omega) (by omega)
                        rw [hr3] at this
                        exact this)
                       go_upto_region 30 with fail
                       have SW:Hid (SdW w (wr.setCell ⟨b6,0,none⟩ (.int .i64 3)) b2 b6 b6 (some ⟨b,o,none⟩) ((.word tt,zw)::q1::r3) (.int .i64 3) ((.slice none 0 0)) (.string ⟨#[]⟩) (.int .i64 0) (.int .i64 0) (.int .i64 0) (.string ⟨#[]⟩) (.int .i64 0) (.int .i64 0) (.string ⟨#[]⟩) (.bool big)):=Hq (Zap SW.out rfl)
                       generalize wr.setCell ⟨b6,0,none⟩ (.int .i64 3)=W2 at SW ⊢
                       obtain ⟨c0,c1,c2,c3,c4,c5,c6,c7,c8,c9,c10,fz,lt6⟩:=Zr SW.out.bx
                       have f0:=fz 0
                       have f1:=fz 1
                       have f2:=fz 2
                       have f3:=fz 3
                       have f4:=fz 4
                       have f5:=fz 5
                       have f6:=fz 6
                       have f7:=fz 7
                       have f8:=fz 8
                       have f9:=fz 9
                       have f10:=fz 10
                       obtain ⟨z0,z1,z2,z3,z4,z5,z6,z7,z8,z9,z10,gz,lt2⟩:=Zr SW.out.bz
                       have g0:=gz 0
                       have g1:=gz 1
                       have g2:=gz 2
                       have g3:=gz 3
                       have g4:=gz 4
                       have g5:=gz 5
                       have g6:=gz 6
                       have g7:=gz 7
                       have g8:=gz 8
                       have g9:=gz 9
                       have g10:=gz 10
                       obtain ⟨b',o',e',-,y0',y1,-,-⟩:=Zag SW.out.pc (i:=1) (q:=q1) rfl
                       injection e' with e'
                       injection e' with e1 e2 _
                       subst e1 e2
                       simp only [Nat.one_mul] at y0' y1
                       clear hn5
                       by_cases kw:rpK q1=1
                       · obtain ⟨nm,zn,rfl⟩:=Znc kw
                         replace y0':W2.cell? ⟨b,o+4,none⟩=some (.int .i64 1):=y0'
                         replace y1:W2.cell? ⟨b,o+4+1,none⟩=some (.string (bs nm)):=y1
                         clear kw
                         cases hb:Zfr r3 3 with
                         | false =>
                           have HR:=Hq (show r=none by
                            rw [HF.out,SLW.out,Yte (by intro nm' zn' r3' e;injection e with _ e;rw [<- e];exact hb)];rfl)
                           rw [hb] at NU
                           clear hb
                           go_upto_region 31 with (go_at_call 61;refine (NU.out _ _ (Zfb SW.out.pc 2)).mono ?_;rintro e w9 ⟨rfl,rfl⟩)
                           go_wp2
                           refine bodyPost_ret (Xq rfl rfl rfl (Yy SW.out.bz)) rfl ?_
                           exact Xx HR.out rfl (Zp SW.out.gr SW.out.h2)
                         | true =>
                           rw [hb] at NU
                           obtain ⟨a,ba,za,l,bl,zl,kk,bk,zk,hv⟩:=Ycj hb
                           have HR:=Hq (show r=some (.fn nm a l kk,big) by rw [HF.out,SLW.out,hv,HBG.out];rfl)
                           clear hb
                           go_upto_region 33 with (go_at_call 61;refine (NU.out _ _ (Zfb SW.out.pc 2)).mono ?_;rintro e w9 ⟨rfl,rfl⟩)
                           have SW:Hid (SdW w (W2.setCell ⟨b6,2,none⟩ (.string (bs nm))) b2 b6 b6 (some ⟨b,o,none⟩) ((.word tt,zw)::(.word nm,zn)::r3) (.int .i64 3) ((.slice none 0 0)) (.string (bs nm)) (.int .i64 0) (.int .i64 0) (.int .i64 0) (.string ⟨#[]⟩) (.int .i64 0) (.int .i64 0) (.string ⟨#[]⟩) (.bool big)):=Hq (Zap SW.out rfl)
                           generalize W2.setCell ⟨b6,2,none⟩ (.string (bs nm))=W3 at SW ⊢
                           go_wp2
                           go_loopw [8] (fun i wr9=>∃ k:Nat,i = .int .i64 k/\∃ n0 n1 n2:Int,SdW w wr9 b2 b6 b6 (some ⟨b,o,none⟩) ((.word tt,zw)::(.word nm,zn)::r3) (.int .i64 3) ((.slice none 0 0)) (.string (bs nm)) (.int .i64 n0) (.int .i64 n1) (.int .i64 n2) (.string ⟨#[]⟩) (.int .i64 0) (.int .i64 0) (.string ⟨#[]⟩) (.bool big)/\((k=0/\n0=0/\n1=0/\n2=0)\/(k=1/\n0=a/\n1=0/\n2=0)\/(k=2/\n0=a/\n1=l/\n2=0)\/(k=3/\n0=a/\n1=l/\n2=kk))) (fun i _=>3 - (intOf i).toNat)
                           case atStart=>exact ⟨0,rfl,0,0,0,SW.out,Or.inl ⟨rfl,rfl,rfl,rfl⟩⟩
                           case round =>
                            obtain ⟨k,rfl,n0,n1,n2,hSW,hk⟩:=hrel
                            rcases hk with ⟨rfl,rfl,rfl,rfl⟩|⟨rfl,rfl,rfl,rfl⟩|⟨rfl,rfl,rfl,rfl⟩|⟨rfl,rfl,rfl,rfl⟩
                            · have SW:=Hq hSW
                              clear hSW
                              obtain ⟨b',o',e',-,-,-,y2,-⟩:=Zag SW.out.pc (i:=2) (q:=(.num a ba,za)) (by rw [hv];rfl)
                              injection e' with e'
                              injection e' with e1 e2 _
                              subst e1 e2
                              replace y2:wr.cell? ⟨b,o+10,none⟩=some (.int .i64 a):=y2
                              obtain ⟨c0,c1,c2,c3,c4,c5,c6,c7,c8,c9,c10,fz,lt6⟩:=Zr SW.out.bx
                              have f0:=fz 0
                              have f1:=fz 1
                              have f2:=fz 2
                              have f3:=fz 3
                              have f4:=fz 4
                              have f5:=fz 5
                              have f6:=fz 6
                              have f7:=fz 7
                              have f8:=fz 8
                              have f9:=fz 9
                              have f10:=fz 10
                              go_wp2
                              exact ⟨⟨1,by go_num,_,_,_,Zap SW.out rfl,Or.inr (Or.inl ⟨rfl,rfl,rfl,rfl⟩)⟩,by simp [intOf]⟩
                            · have SW:=Hq hSW
                              clear hSW
                              obtain ⟨b',o',e',-,-,-,y2,-⟩:=Zag SW.out.pc (i:=3) (q:=(.num l bl,zl)) (by rw [hv];rfl)
                              injection e' with e'
                              injection e' with e1 e2 _
                              subst e1 e2
                              replace y2:wr.cell? ⟨b,o+14,none⟩=some (.int .i64 l):=y2
                              obtain ⟨c0,c1,c2,c3,c4,c5,c6,c7,c8,c9,c10,fz,lt6⟩:=Zr SW.out.bx
                              have f0:=fz 0
                              have f1:=fz 1
                              have f2:=fz 2
                              have f3:=fz 3
                              have f4:=fz 4
                              have f5:=fz 5
                              have f6:=fz 6
                              have f7:=fz 7
                              have f8:=fz 8
                              have f9:=fz 9
                              have f10:=fz 10
                              go_wp2
                              exact ⟨⟨2,by go_num,_,_,_,Zap SW.out rfl,Or.inr (Or.inr (Or.inl ⟨rfl,rfl,rfl,rfl⟩))⟩,by simp [intOf]⟩
                            · have SW:=Hq hSW
                              clear hSW
                              obtain ⟨b',o',e',-,-,-,y2,-⟩:=Zag SW.out.pc (i:=4) (q:=(.num kk bk,zk)) (by rw [hv];rfl)
                              injection e' with e'
                              injection e' with e1 e2 _
                              subst e1 e2
                              replace y2:wr.cell? ⟨b,o+18,none⟩=some (.int .i64 kk):=y2
                              obtain ⟨c0,c1,c2,c3,c4,c5,c6,c7,c8,c9,c10,fz,lt6⟩:=Zr SW.out.bx
                              have f0:=fz 0
                              have f1:=fz 1
                              have f2:=fz 2
                              have f3:=fz 3
                              have f4:=fz 4
                              have f5:=fz 5
                              have f6:=fz 6
                              have f7:=fz 7
                              have f8:=fz 8
                              have f9:=fz 9
                              have f10:=fz 10
                              go_wp2
                              exact ⟨⟨3,by go_num,_,_,_,Zap SW.out rfl,Or.inr (Or.inr (Or.inr ⟨rfl,rfl,rfl,rfl⟩))⟩,by simp [intOf]⟩
                            · have SW:=Hq hSW
                              clear hSW
                              obtain ⟨c0,c1,c2,c3,c4,c5,c6,c7,c8,c9,c10,fz,lt6⟩:=Zr SW.out.bx
                              have f0:=fz 0
                              have f1:=fz 1
                              have f2:=fz 2
                              have f3:=fz 3
                              have f4:=fz 4
                              have f5:=fz 5
                              have f6:=fz 6
                              have f7:=fz 7
                              have f8:=fz 8
                              have f9:=fz 9
                              have f10:=fz 10
                              obtain ⟨z0,z1,z2,z3,z4,z5,z6,z7,z8,z9,z10,gz,lt2⟩:=Zr SW.out.bz
                              have g0:=gz 0
                              have g1:=gz 1
                              have g2:=gz 2
                              have g3:=gz 3
                              have g4:=gz 4
                              have g5:=gz 5
                              have g6:=gz 6
                              have g7:=gz 7
                              have g8:=gz 8
                              have g9:=gz 9
                              have g10:=gz 10
                              go_wp2
                              refine bodyPost_ret (Xq rfl rfl rfl (Yy SW.out.bz)) rfl ?_
                              rw [HR.out]
                              exact ⟨⟨none,0,rfl,World.ownsRow_nil _ _ _ _⟩,Zp SW.out.gr SW.out.h2⟩
                       · have kwi:(rpK q1 != 1)=true:=by simpa using kw
                         have HR:=Hq (show r=none by
                          rw [HF.out,SLW.out,Yte (by intro nm' zn' r3' e;injection e with e _;rw [e] at kw;exact absurd rfl kw)];rfl)
                         clear kw
                         go_upto_region 31 with fail
                         go_wp2
                         refine bodyPost_ret (Xq rfl rfl rfl (Yy SW.out.bz)) rfl ?_
                         exact Xx HR.out rfl (Zp SW.out.gr SW.out.h2)
                     · have hn5i:((n:Int) != 5)=true:=by simp;omega
                       have HR:=Hq (show r=none by
                        rw [HF.out,SLW.out,Yte (by
                         intro nm' zn' r3' e
                         unfold Zfr
                         rw [e] at hrl
                         rw [decide_eq_false (by simp at hrl;omega)];rfl)];rfl)
                       clear hn5
                       rcases EX2 with hE|⟨hE,k1,y0,e1⟩
                       all_goals (
                        go_upto_region 31 with fail
                        have SW:Hid (SdW w (wr.setCell ⟨b6,0,none⟩ (.int .i64 3)) b2 b6 b6 (some ⟨b,o,none⟩) ((.word tt,zw)::rest) (.int .i64 3) ((.slice none 0 0)) (.string ⟨#[]⟩) (.int .i64 0) (.int .i64 0) (.int .i64 0) (.string ⟨#[]⟩) (.int .i64 0) (.int .i64 0) (.string ⟨#[]⟩) (.bool big)):=Hq (Zap SW.out rfl)
                        generalize wr.setCell ⟨b6,0,none⟩ (.int .i64 3)=W2 at SW ⊢
                        obtain ⟨c0,c1,c2,c3,c4,c5,c6,c7,c8,c9,c10,fz,lt6⟩:=Zr SW.out.bx
                        have f0:=fz 0
                        have f1:=fz 1
                        have f2:=fz 2
                        have f3:=fz 3
                        have f4:=fz 4
                        have f5:=fz 5
                        have f6:=fz 6
                        have f7:=fz 7
                        have f8:=fz 8
                        have f9:=fz 9
                        have f10:=fz 10
                        obtain ⟨z0,z1,z2,z3,z4,z5,z6,z7,z8,z9,z10,gz,lt2⟩:=Zr SW.out.bz
                        have g0:=gz 0
                        have g1:=gz 1
                        have g2:=gz 2
                        have g3:=gz 3
                        have g4:=gz 4
                        have g5:=gz 5
                        have g6:=gz 6
                        have g7:=gz 7
                        have g8:=gz 8
                        have g9:=gz 9
                        have g10:=gz 10
                        go_wp2
                        refine bodyPost_ret (Xq rfl rfl rfl (Yy SW.out.bz)) rfl ?_
                        exact Xx HR.out rfl (Zp SW.out.gr SW.out.h2))
                   · have g3:=Zfx hm3
                     have SAID:=Hq (show Zdj TT ps=Zfu TT [] (Zhc ((.word tt,zw)::rest)) by rw [SL0.out];exact Yct hm1 hm2 hm3)
                     simp only [Jn] at g1
                     simp only [Zey] at g2
                     simp only [Zgf] at g3
                     clear hm1 hm2 hm3
                     rcases EX2 with hE|⟨hE,k1,y0,e1⟩
                     all_goals (
                      go_upto_region 39 with fail
                      have SW:Hid (SdW w (wr.setCell ⟨b6,0,none⟩ (.int .i64 4)) b2 b6 b6 (some ⟨b,o,none⟩) ((.word tt,zw)::rest) (.int .i64 4) ((.slice none 0 0)) (.string ⟨#[]⟩) (.int .i64 0) (.int .i64 0) (.int .i64 0) (.string ⟨#[]⟩) (.int .i64 0) (.int .i64 0) (.string ⟨#[]⟩) (.bool big)):=Hq (Zap SW.out rfl)
                      generalize wr.setCell ⟨b6,0,none⟩ (.int .i64 4)=W2 at SW ⊢
                      have LB:=Hq (Zso W2 b6)
                      clear c0 c1 c2 c3 c4 c5 c6 c7 c8 c9 c10 fz lt6 f0 f1 f2 f3 f4 f5 f6 f7 f8 f9 f10
                      obtain ⟨c0,c1,c2,c3,c4,c5,c6,c7,c8,c9,c10,fz,lt6⟩:=Zr SW.out.bx
                      have f0:=fz 0
                      have f1:=fz 1
                      have f2:=fz 2
                      have f3:=fz 3
                      have f4:=fz 4
                      have f5:=fz 5
                      have f6:=fz 6
                      have f7:=fz 7
                      have f8:=fz 8
                      have f9:=fz 9
                      have f10:=fz 10
                      obtain ⟨z0,z1,z2,z3,z4,z5,z6,z7,z8,z9,z10,gz,lt2⟩:=Zr SW.out.bz
                      have g0:=gz 0
                      have g1:=gz 1
                      have g2:=gz 2
                      have g3:=gz 3
                      have g4:=gz 4
                      have g5:=gz 5
                      have g6:=gz 6
                      have g7:=gz 7
                      have g8:=gz 8
                      have g9:=gz 9
                      have g10:=gz 10
                      have II:=Hq (Zrx ⟨4,none,0,0,[],0,0,0,[],0,0,[],big⟩ ((.word tt,zw)::rest) b6 (some ⟨b,o,none⟩) cc W2 SW.out.pc (Nat.le_of_lt lt6) (by rw [HN.out];omega) (by rw [HN.out];exact hcp) hcm2)
                      rw [HN.out,Zoi _ [] ((.word tt,zw)::rest) rfl rfl] at II
                      cases hi:Zfu TT [] (Zhc ((.word tt,zw)::rest)) with
                      | none =>
                        have HR:=Hq (show r=none by rw [HF.out,SAID.out,hi];rfl)
                        rw [hi] at II
                        clear hi
                        go_wp2_with (go_at_call 62;refine II.out.mono ?_;rintro e w9 ⟨⟨y,rfl⟩,hg⟩;have SW:=Hq (Zbz SW.out hg (by simp));clear z0 z1 z2 z3 z4 z5 z6 z7 z8 z9 z10 gz lt2 g0 g1 g2 g3 g4 g5 g6 g7 g8 g9 g10;obtain ⟨z0,z1,z2,z3,z4,z5,z6,z7,z8,z9,z10,gz,lt2⟩:=Zr SW.out.bz;have g0:=gz 0;have g1:=gz 1;have g2:=gz 2;have g3:=gz 3;have g4:=gz 4;have g5:=gz 5;have g6:=gz 6;have g7:=gz 7;have g8:=gz 8;have g9:=gz 9;have g10:=gz 10;clear hg)
                        refine bodyPost_ret (Xq rfl rfl rfl (Yy SW.out.bz)) rfl ?_
                        exact Xx HR.out rfl (Zp SW.out.gr SW.out.h2)
                      | some sd =>
                        obtain ⟨i,rfl⟩:=Zlh hi
                        have HR:=Hq (show r=some (.code [] i,big) by rw [HF.out,SAID.out,hi,HBG.out];rfl)
                        rw [hi] at II
                        clear hi
                        cases i with
                        | none =>
                          go_wp2_with (go_at_call 62;refine II.out.mono ?_;rintro e w9 ⟨rfl,hg⟩;have LB:=Hq (Zdu LB.out hg);have SW:=Hq (Zbz SW.out hg (by simp));clear z0 z1 z2 z3 z4 z5 z6 z7 z8 z9 z10 gz lt2 g0 g1 g2 g3 g4 g5 g6 g7 g8 g9 g10;obtain ⟨z0,z1,z2,z3,z4,z5,z6,z7,z8,z9,z10,gz,lt2⟩:=Zr SW.out.bz;have g0:=gz 0;have g1:=gz 1;have g2:=gz 2;have g3:=gz 3;have g4:=gz 4;have g5:=gz 5;have g6:=gz 6;have g7:=gz 7;have g8:=gz 8;have g9:=gz 9;have g10:=gz 10;clear hg)
                          refine bodyPost_ret (Xq rfl rfl rfl (Yy SW.out.bz)) rfl ?_
                          rw [HR.out]
                          exact ⟨⟨none,0,rfl,Zle LB.out SW.out.h2 (by have:=SW.out.lt;omega)⟩,Zp SW.out.gr SW.out.h2⟩
                        | some q =>
                          obtain ⟨q1,q2,q3⟩:=q
                          go_wp2_with (go_at_call 62;refine II.out.mono ?_;rintro e w9 ⟨rfl,hg⟩;have LB:=Hq (Zdu LB.out hg);have SW:=Hq (Zbz SW.out hg (by simp));clear z0 z1 z2 z3 z4 z5 z6 z7 z8 z9 z10 gz lt2 g0 g1 g2 g3 g4 g5 g6 g7 g8 g9 g10;obtain ⟨z0,z1,z2,z3,z4,z5,z6,z7,z8,z9,z10,gz,lt2⟩:=Zr SW.out.bz;have g0:=gz 0;have g1:=gz 1;have g2:=gz 2;have g3:=gz 3;have g4:=gz 4;have g5:=gz 5;have g6:=gz 6;have g7:=gz 7;have g8:=gz 8;have g9:=gz 9;have g10:=gz 10;clear hg)
                          refine bodyPost_ret (Xq rfl rfl rfl (Yy SW.out.bz)) rfl ?_
                          rw [HR.out]
                          exact ⟨⟨none,0,rfl,Zle LB.out SW.out.h2 (by have:=SW.out.lt;omega)⟩,Zp SW.out.gr SW.out.h2⟩)
             · have k0i:(rpK q0 == 1)=false:=beq_eq_false_iff_ne.2 k0
               have SAID:=Hq (show Zdj TT ps=Zfu TT [] (Zhc (q0::rest)) by rw [SL0.out];exact Zxt k0)
               have EX2:¬ (2:Int)<=(n:Int)\/(2:Int)<=(n:Int):=by omega
               clear EX k0
               rcases EX2 with hE|hE
               all_goals (
                go_upto_region 39 with fail
                have SW:Hid (SdW w (wr.setCell ⟨b6,0,none⟩ (.int .i64 4)) b2 b6 b6 (some ⟨b,o,none⟩) (q0::rest) (.int .i64 4) ((.slice none 0 0)) (.string ⟨#[]⟩) (.int .i64 0) (.int .i64 0) (.int .i64 0) (.string ⟨#[]⟩) (.int .i64 0) (.int .i64 0) (.string ⟨#[]⟩) (.bool big)):=Hq (Zap SW.out rfl)
                generalize wr.setCell ⟨b6,0,none⟩ (.int .i64 4)=W2 at SW ⊢
                have LB:=Hq (Zso W2 b6)
                clear c0 c1 c2 c3 c4 c5 c6 c7 c8 c9 c10 fz lt6 f0 f1 f2 f3 f4 f5 f6 f7 f8 f9 f10
                obtain ⟨c0,c1,c2,c3,c4,c5,c6,c7,c8,c9,c10,fz,lt6⟩:=Zr SW.out.bx
                have f0:=fz 0
                have f1:=fz 1
                have f2:=fz 2
                have f3:=fz 3
                have f4:=fz 4
                have f5:=fz 5
                have f6:=fz 6
                have f7:=fz 7
                have f8:=fz 8
                have f9:=fz 9
                have f10:=fz 10
                obtain ⟨z0,z1,z2,z3,z4,z5,z6,z7,z8,z9,z10,gz,lt2⟩:=Zr SW.out.bz
                have g0:=gz 0
                have g1:=gz 1
                have g2:=gz 2
                have g3:=gz 3
                have g4:=gz 4
                have g5:=gz 5
                have g6:=gz 6
                have g7:=gz 7
                have g8:=gz 8
                have g9:=gz 9
                have g10:=gz 10
                have II:=Hq (Zrx ⟨4,none,0,0,[],0,0,0,[],0,0,[],big⟩ (q0::rest) b6 (some ⟨b,o,none⟩) cc W2 SW.out.pc (Nat.le_of_lt lt6) (by rw [HN.out];omega) (by rw [HN.out];exact hcp) hcm2)
                rw [HN.out,Zoi _ [] (q0::rest) rfl rfl] at II
                cases hi:Zfu TT [] (Zhc (q0::rest)) with
                | none =>
                  have HR:=Hq (show r=none by rw [HF.out,SAID.out,hi];rfl)
                  rw [hi] at II
                  clear hi
                  go_wp2_with (go_at_call 62;refine II.out.mono ?_;rintro e w9 ⟨⟨y,rfl⟩,hg⟩;have SW:=Hq (Zbz SW.out hg (by simp));clear z0 z1 z2 z3 z4 z5 z6 z7 z8 z9 z10 gz lt2 g0 g1 g2 g3 g4 g5 g6 g7 g8 g9 g10;obtain ⟨z0,z1,z2,z3,z4,z5,z6,z7,z8,z9,z10,gz,lt2⟩:=Zr SW.out.bz;have g0:=gz 0;have g1:=gz 1;have g2:=gz 2;have g3:=gz 3;have g4:=gz 4;have g5:=gz 5;have g6:=gz 6;have g7:=gz 7;have g8:=gz 8;have g9:=gz 9;have g10:=gz 10;clear hg)
                  refine bodyPost_ret (Xq rfl rfl rfl (Yy SW.out.bz)) rfl ?_
                  exact Xx HR.out rfl (Zp SW.out.gr SW.out.h2)
                | some sd =>
                  obtain ⟨i,rfl⟩:=Zlh hi
                  have HR:=Hq (show r=some (.code [] i,big) by rw [HF.out,SAID.out,hi,HBG.out];rfl)
                  rw [hi] at II
                  clear hi
                  cases i with
                  | none =>
                    go_wp2_with (go_at_call 62;refine II.out.mono ?_;rintro e w9 ⟨rfl,hg⟩;have LB:=Hq (Zdu LB.out hg);have SW:=Hq (Zbz SW.out hg (by simp));clear z0 z1 z2 z3 z4 z5 z6 z7 z8 z9 z10 gz lt2 g0 g1 g2 g3 g4 g5 g6 g7 g8 g9 g10;obtain ⟨z0,z1,z2,z3,z4,z5,z6,z7,z8,z9,z10,gz,lt2⟩:=Zr SW.out.bz;have g0:=gz 0;have g1:=gz 1;have g2:=gz 2;have g3:=gz 3;have g4:=gz 4;have g5:=gz 5;have g6:=gz 6;have g7:=gz 7;have g8:=gz 8;have g9:=gz 9;have g10:=gz 10;clear hg)
                    refine bodyPost_ret (Xq rfl rfl rfl (Yy SW.out.bz)) rfl ?_
                    rw [HR.out]
                    exact ⟨⟨none,0,rfl,Zle LB.out SW.out.h2 (by have:=SW.out.lt;omega)⟩,Zp SW.out.gr SW.out.h2⟩
                  | some q =>
                    obtain ⟨q1,q2,q3⟩:=q
                    go_wp2_with (go_at_call 62;refine II.out.mono ?_;rintro e w9 ⟨rfl,hg⟩;have LB:=Hq (Zdu LB.out hg);have SW:=Hq (Zbz SW.out hg (by simp));clear z0 z1 z2 z3 z4 z5 z6 z7 z8 z9 z10 gz lt2 g0 g1 g2 g3 g4 g5 g6 g7 g8 g9 g10;obtain ⟨z0,z1,z2,z3,z4,z5,z6,z7,z8,z9,z10,gz,lt2⟩:=Zr SW.out.bz;have g0:=gz 0;have g1:=gz 1;have g2:=gz 2;have g3:=gz 3;have g4:=gz 4;have g5:=gz 5;have g6:=gz 6;have g7:=gz 7;have g8:=gz 8;have g9:=gz 9;have g10:=gz 10;clear hg)
                    refine bodyPost_ret (Xq rfl rfl rfl (Yy SW.out.bz)) rfl ?_
                    rw [HR.out]
                    exact ⟨⟨none,0,rfl,Zle LB.out SW.out.h2 (by have:=SW.out.lt;omega)⟩,Zp SW.out.gr SW.out.h2⟩)
           · have hl0i:((lbs.length:Int) == 0)=false:=beq_eq_false_iff_ne.2 (by omega)
             have SAID:=Hq (show Zdj TT ps=Zfu TT lbs (Zhc cur) by
              rw [<- HRS.out];exact Yfl HPS.out EQ.out (fun e=>hl0 (by rw [e];rfl)))
             clear hl0
             rcases EX with hE|⟨hE,b,o,k0,rfl,d0,e0⟩|⟨hE,b,o,k1,rfl,d0,y0,e1⟩
             all_goals (
              go_upto_region 39 with fail
              have SW:Hid (SdW w (wr.setCell ⟨b6,0,none⟩ (.int .i64 4)) b2 b6 b6 _ cur (.int .i64 4) ((.slice lp lbs.length lc)) (.string ⟨#[]⟩) (.int .i64 0) (.int .i64 0) (.int .i64 0) (.string ⟨#[]⟩) (.int .i64 0) (.int .i64 0) (.string ⟨#[]⟩) (.bool big)):=Hq (Zap SW.out rfl)
              have LB:Hid (Yjw (wr.setCell ⟨b6,0,none⟩ (.int .i64 4)) b6 (.slice lp lbs.length lc) lbs):=Hq (Yai LB.out)
              generalize wr.setCell ⟨b6,0,none⟩ (.int .i64 4)=W2 at SW LB ⊢
              clear c0 c1 c2 c3 c4 c5 c6 c7 c8 c9 c10 fz lt6 f0 f1 f2 f3 f4 f5 f6 f7 f8 f9 f10
              obtain ⟨c0,c1,c2,c3,c4,c5,c6,c7,c8,c9,c10,fz,lt6⟩:=Zr SW.out.bx
              have f0:=fz 0
              have f1:=fz 1
              have f2:=fz 2
              have f3:=fz 3
              have f4:=fz 4
              have f5:=fz 5
              have f6:=fz 6
              have f7:=fz 7
              have f8:=fz 8
              have f9:=fz 9
              have f10:=fz 10
              obtain ⟨z0,z1,z2,z3,z4,z5,z6,z7,z8,z9,z10,gz,lt2⟩:=Zr SW.out.bz
              have g0:=gz 0
              have g1:=gz 1
              have g2:=gz 2
              have g3:=gz 3
              have g4:=gz 4
              have g5:=gz 5
              have g6:=gz 6
              have g7:=gz 7
              have g8:=gz 8
              have g9:=gz 9
              have g10:=gz 10
              have II:=Hq (Zrx ⟨4,lp,lbs.length,lc,[],0,0,0,[],0,0,[],big⟩ cur b6 _ cc W2 SW.out.pc (Nat.le_of_lt lt6) (by rw [HN.out];omega) (by rw [HN.out];exact hcp) hcm2)
              rw [HN.out,Zoi _ lbs cur rfl rfl] at II
              cases hi:Zfu TT lbs (Zhc cur) with
              | none =>
                have HR:=Hq (show r=none by rw [HF.out,SAID.out,hi];rfl)
                rw [hi] at II
                clear hi
                go_wp2_with (go_at_call 62;refine II.out.mono ?_;rintro e w9 ⟨⟨y,rfl⟩,hg⟩;have SW:=Hq (Zbz SW.out hg (by simp));clear z0 z1 z2 z3 z4 z5 z6 z7 z8 z9 z10 gz lt2 g0 g1 g2 g3 g4 g5 g6 g7 g8 g9 g10;obtain ⟨z0,z1,z2,z3,z4,z5,z6,z7,z8,z9,z10,gz,lt2⟩:=Zr SW.out.bz;have g0:=gz 0;have g1:=gz 1;have g2:=gz 2;have g3:=gz 3;have g4:=gz 4;have g5:=gz 5;have g6:=gz 6;have g7:=gz 7;have g8:=gz 8;have g9:=gz 9;have g10:=gz 10;clear hg)
                refine bodyPost_ret (Xq rfl rfl rfl (Yy SW.out.bz)) rfl ?_
                exact Xx HR.out rfl (Zp SW.out.gr SW.out.h2)
              | some sd =>
                obtain ⟨i,rfl⟩:=Zlh hi
                have HR:=Hq (show r=some (.code lbs i,big) by rw [HF.out,SAID.out,hi,HBG.out];rfl)
                rw [hi] at II
                clear hi
                cases i with
                | none =>
                  go_wp2_with (go_at_call 62;refine II.out.mono ?_;rintro e w9 ⟨rfl,hg⟩;have LB:=Hq (Zdu LB.out hg);have SW:=Hq (Zbz SW.out hg (by simp));clear z0 z1 z2 z3 z4 z5 z6 z7 z8 z9 z10 gz lt2 g0 g1 g2 g3 g4 g5 g6 g7 g8 g9 g10;obtain ⟨z0,z1,z2,z3,z4,z5,z6,z7,z8,z9,z10,gz,lt2⟩:=Zr SW.out.bz;have g0:=gz 0;have g1:=gz 1;have g2:=gz 2;have g3:=gz 3;have g4:=gz 4;have g5:=gz 5;have g6:=gz 6;have g7:=gz 7;have g8:=gz 8;have g9:=gz 9;have g10:=gz 10;clear hg)
                  refine bodyPost_ret (Xq rfl rfl rfl (Yy SW.out.bz)) rfl ?_
                  rw [HR.out]
                  exact ⟨⟨lp,lc,rfl,Zle LB.out SW.out.h2 (by have:=SW.out.lt;omega)⟩,Zp SW.out.gr SW.out.h2⟩
                | some q =>
                  obtain ⟨q1,q2,q3⟩:=q
                  go_wp2_with (go_at_call 62;refine II.out.mono ?_;rintro e w9 ⟨rfl,hg⟩;have LB:=Hq (Zdu LB.out hg);have SW:=Hq (Zbz SW.out hg (by simp));clear z0 z1 z2 z3 z4 z5 z6 z7 z8 z9 z10 gz lt2 g0 g1 g2 g3 g4 g5 g6 g7 g8 g9 g10;obtain ⟨z0,z1,z2,z3,z4,z5,z6,z7,z8,z9,z10,gz,lt2⟩:=Zr SW.out.bz;have g0:=gz 0;have g1:=gz 1;have g2:=gz 2;have g3:=gz 3;have g4:=gz 4;have g5:=gz 5;have g6:=gz 6;have g7:=gz 7;have g8:=gz 8;have g9:=gz 9;have g10:=gz 10;clear hg)
                  refine bodyPost_ret (Xq rfl rfl rfl (Yy SW.out.bz)) rfl ?_
                  rw [HR.out]
                  exact ⟨⟨lp,lc,rfl,Zle LB.out SW.out.h2 (by have:=SW.out.lt;omega)⟩,Zp SW.out.gr SW.out.h2⟩)
end Go.Proofs.YteciblfmgdlipaaGreatDoor.AS
