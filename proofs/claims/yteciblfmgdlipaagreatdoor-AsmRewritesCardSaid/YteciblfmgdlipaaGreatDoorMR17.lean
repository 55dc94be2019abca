/-
  Part of a proof: contracts of functions and lemmas, each stated by its own theorem. Conditions: as each theorem states.
-/
import Derived.Test.YteciblfmgdlipaaGreatDoorMR13
import Derived.Test.YteciblfmgdlipaaGreatDoorMR14
import Derived.Test.YteciblfmgdlipaaGreatDoorMR16
import Derived.Lib.AppendStr
set_option linter.unusedSimpArgs false
set_option linter.unusedVariables false
set_option maxRecDepth 100000
set_option maxHeartbeats 16000000
namespace Go.Proofs.YteciblfmgdlipaaGreatDoor.AS
open Go.RowKit Go.Great CK
theorem Yqd {w w':World} {p:PrP} {e:Ending} (h:Zwx w (.ok p) e w'):∃ pD cD pF cF,e = .returned (.tuple #[.agg #[.int .i64 p.1,.slice pD p.2.1.length cD,.slice pF p.2.2.length cF],.nilIface])/\w.grownBy w' none/\∃ cv,Zuo w' w.heap.size (.slice pD p.2.1.length cD) (.slice pF p.2.2.length cF) (Zfp p.2.1) p.2.2 cv:=by
 obtain ⟨h1,h2⟩:=h
 obtain ⟨mem,d,fs⟩:=p
 obtain ⟨D,F,cv,rfl,ho⟩:=h1
 obtain ⟨pD,cD,rfl⟩:=Zk ho.dt
 obtain ⟨pF,cF,rfl⟩:=Zk ho.fr
 rw [Jk] at ho ⊢
 exact ⟨_,_,_,_,rfl,h2,cv,ho⟩
abbrev prV (P:PrP) (pd pF:Option Addr) (cd cF:Nat):Value := .agg #[.int .i64 P.1,.slice pd P.2.1.length cd,.slice pF P.2.2.length cF]
structure Yez (W:World) (P:PrP) (pd pF:Option Addr):Prop where
 by_:Zdi W pd P.2.1
 fn:Zam W W.heap.size pF P.2.2
theorem Ydj {w:World} {A B:Nat} {p:Option Addr} {fs:List FnP} (h:Zam w A p fs) (hb:A<=B):Zam w B p fs:=fun h0=>by
 obtain ⟨b,o,e,hlt,hc⟩:=h h0
 refine ⟨b,o,e,Nat.lt_of_lt_of_le hlt hb,fun i a l r c hi => ?_⟩
 obtain ⟨h1,h2,h3,pc,cc,h4,h5⟩:=hc i a l r c hi
 refine ⟨h1,h2,h3,pc,cc,h4,fun h0 => ?_⟩
 obtain ⟨b',o',e',hlt',hc'⟩:=h5 h0
 exact ⟨b',o',e',Nat.lt_of_lt_of_le hlt' hb,hc'⟩
theorem Zgv {W W':World} {P:PrP} {pd pF:Option Addr} (h:Yez W P pd pF) (g:W.grownBy W' none):Yez W' P pd pF :=
 ⟨Zgb h.by_ g,Ydj (Xs h.fn g (by simp)) g.size⟩
structure Ypy (P:PrP):Prop where
 n:P.2.1.length<=9223372036854775807
 r:∀ f∈P.2.2,∀ x∈f.2.2.2,Zpp x.2
theorem Ygo {W:World} {P:PrP} {pd pF:Option Addr} (h:Yez W P pd pF) (a:Ypy P) (hW:LibW W) (cd cF:Nat):Calls Tryz.prog 18 #[prV P pd pF cd cF] W (Yeu W (Zcw P)) :=
 Zqj P.1 P.2.1 P.2.2 pd pF cd cF W.heap.size W hW (Nat.le_refl _) h.by_ h.fn a.n a.r
theorem Yik {W:World} {P:PrP} {pd pF:Option Addr} (h:Yez W P pd pF) (a:Ypy P) (cd cF:Nat):Calls Tryz.prog 23 #[prV P pd pF cd cF] W fun e w'=>e = .returned (.int .i64 (Xg P.1 P.2.1.length P.2.2))/\W.grownBy w' none :=
 Zxm P.1 P.2.1.length P.2.2 pd pF cd cF W.heap.size W (Nat.le_refl _) h.fn a.n a.r
theorem Ykl {W:World} {P Q:PrP} {pd pF qd qF:Option Addr} (h:Yez W P pd pF) (g:Yez W Q qd qF) (hn:P.2.2.length<=1000000000000) (hc:∀ x∈P.2.2,x.2.2.2.length<=1000000000000) (cd cF ed eF:Nat) :
 Calls Tryz.prog 15 #[prV P pd pF cd cF,prV Q qd qF ed eF] W fun e w'=>e = .returned (.bool (Zgo P Q))/\W.grownBy w' none :=
 Zux P Q pd qd pF qF cd ed cF eF W.heap.size W.heap.size W hn hc h.by_ g.by_ h.fn g.fn
theorem Ykf {P:PrP} (h:Xg P.1 P.2.1.length P.2.2=0):P.2.2.length<=1000000000000/\∀ x∈P.2.2,x.2.2.2.length<=1000000000000:=by
 obtain ⟨h1,h2⟩:=Zey h
 exact ⟨by omega,fun x hx=>by have:=(Zjx (h2 x hx)).1;omega⟩
theorem Ygs {w w':World} {P:PrP} {e:Ending} (h:Zwx w (.ok P) e w'):∃ pd cd pF cF,e = .returned (.tuple #[prV P pd pF cd cF,.nilIface])/\w.grownBy w' none/\Yez w' P pd pF:=by
 obtain ⟨pD,cD,pF,cF,rfl,hg,cv,ho⟩:=Yqd h
 have hl:(Zfp P.2.1).length=P.2.1.length:=Jk _
 refine ⟨pD,cD,pF,cF,rfl,hg,⟨fun h0 => ?_,Zfa ho⟩⟩
 have hb:=Zxz ho
 obtain ⟨b,o,e,hc⟩:=hb (by
  intro h1
  have:=congrArg List.length h1
  simp only [List.length_map,hl,List.length_nil] at this
  omega)
 have hcell:∀ (i:Nat) (c:UInt8),P.2.1[i]? = some c->w'.cell? ⟨b,o+i,none⟩=some (.int .u8 (c.toNat:Int)):=fun i c hi=>hc i _ (by
  unfold Zfp
  simp [hi])
 have h9:P.2.1[0]? = some P.2.1[0]:=List.getElem?_eq_getElem h0
 exact ⟨b,o,e,World.block_lt_of_cell? _ _ (hcell 0 _ h9),hcell⟩
structure Bk3 (W:World) (a:Nat) (x y z:Value):Prop where
 c0:W.cell? ⟨a,0,none⟩=some x
 c1:W.cell? ⟨a,1,none⟩=some y
 c2:W.cell? ⟨a,2,none⟩=some z
theorem Zbb {W:World} {a:Nat} {x y z:Value} (h:W.heap[a]? = some (.cells #[x,y,z] 26 (0,0))):Bk3 W a x y z :=
 ⟨Cq W _ 0 _ _ _ h,Cq W _ 1 _ _ _ h,Cq W _ 2 _ _ _ h⟩
theorem Ypz (n:Int):n % 6=if n.tmod 6<0 then n.tmod 6+6 else n.tmod 6:=by
 by_cases h:0<=n
 · rw [Int.tmod_eq_emod_of_nonneg h,if_neg (by omega)]
 · obtain ⟨k,rfl⟩:∃ k,n = -k:=⟨-n,by omega⟩
   rw [Int.neg_tmod,Int.tmod_eq_emod_of_nonneg (by omega)]
   split <;> omega
theorem Yaz (n:Int) (w:World):Calls Tryz.prog 21 #[.int .i64 n,.int .i64 6] w fun e w'=>e = .returned (.int .i64 (n % 6))/\w=w':=by
 have h6:=Ypz n
 have HM:=Hq h6
 by_cases h:n.tmod 6<0
 · rw [if_pos h] at HM
   have h1 : -6<=n.tmod 6:=by
    rw [if_pos h] at h6
    have h9:0<=n % 6:=by omega
    rw [h6] at h9
    generalize n.tmod 6=t at h9
    omega
   clear h6
   go_enter Tryz.func21,Tryz.ntmps21
   go_wp2
   go_ret
   rw [HM.out]
   exact ⟨by trivial,rfl⟩
 · rw [if_neg h] at HM
   clear h6
   go_enter Tryz.func21,Tryz.ntmps21
   go_wp2
   go_ret
   rw [HM.out]
   exact ⟨by trivial,rfl⟩
def blkR:List Txt:=[[],[32],[9],[32,32],[13],[32,9,32,13]]
theorem Ymt (n:Int):blkR[(n % 6).toNat]? = some (Zeq n):=by
 have h:(n % 6).toNat<6:=by omega
 unfold Zeq blkR
 generalize (n % 6).toNat=k at h
 match k,h with
 | 0,_=>rfl
 | 1,_=>rfl
 | 2,_=>rfl
 | 3,_=>rfl
 | 4,_=>rfl
 | 5,_=>rfl
theorem Zdf (n:Int) (w:World):Calls Tryz.prog 52 #[.int .i64 n] w fun e w'=>e = .returned (.string (bs (Zeq n)))/\w.grownBy w' none:=by
 have hb:=Ymt n
 have RD:=Hq (Yaz n)
 obtain ⟨k,hk⟩:∃ k:Nat,n % 6=k:=⟨(n % 6).toNat,by omega⟩
 have h6:k<6:=by omega
 rw [hk,Int.toNat_natCast] at hb
 rw [hk] at RD
 clear hk
 go_enter Tryz.func52,Tryz.ntmps52
 go_wp2_with (first
  | (refine wpList_buildSliceTo rfl 37 9 6 _ rfl w.heap.size rfl (some 1) rfl (by kernel_rfl) ((blkR.map fun t=>Value.string (bs t)).toArray) (by kernel_rfl) ?_)
  | (go_at_call 21;refine (RD.out _).mono ?_;rintro e w9 ⟨rfl,rfl⟩))
 have e9:(blkR.map fun t=>Value.string (bs t))[k]? = some (.string (bs (Zeq n))):=by rw [List.getElem?_map,hb];rfl
 go_ret
 refine ⟨?_,Ga _ _ _⟩
 have e8:=(List.getElem?_eq_some_iff.1 e9).2
 rw [<- e8]
 rfl
def Ypm (t:Txt) (k:Nat):Prop:=∀ j c,j<k->t[j]? = some c->tlB c=true/\(j=0->Zoz c=true)
theorem Yak {t:Txt} {k:Nat} {c:UInt8} (h:Ypm t k) (hc:t[k]? = some c) (ht:tlB c=true) (h0:k=0->Zoz c=true):Ypm t (k+1):=fun j d hj hd=>by
 by_cases hjk:j<k
 · exact h j d hjk hd
 · have:j=k:=by omega
   subst this
   rw [hc] at hd
   injection hd with hd
   subst hd
   exact ⟨ht,h0⟩
theorem Yaj {t:Txt} (h:Ypm t t.length) (h0:0<t.length):Ziv t:=by
 cases t with
 | nil=>simp at h0
 | cons c r =>
   refine ⟨⟨c,r,rfl,(h 0 c (by simp) rfl).2 rfl⟩,fun d hd => ?_⟩
   obtain ⟨j,hj⟩:=List.getElem?_of_mem hd
   exact (h j d (List.getElem?_eq_some_iff.1 hj).1 hj).1
theorem Yah {t:Txt} {k:Nat} {c:UInt8} (hq:t[k]? = some c) (h:¬ (tlB c=true/\(k=0->Zoz c=true))):Zma t=false:=by
 rw [Bool.eq_false_iff]
 intro hw
 obtain ⟨⟨d,r,rfl,hd⟩,ht⟩:=Zdl hw
 refine h ⟨ht c (List.mem_of_getElem? hq),fun h0 => ?_⟩
 subst h0
 simp at hq
 rw [<- hq]
 exact hd
theorem Yag {t:Txt} (h:Ypm t t.length):Zma t=decide (0<t.length):=by
 cases t with
 | nil=>rfl
 | cons c r =>
   obtain ⟨⟨d,r',e,hd⟩,ht⟩:=Yaj h (by simp)
   rw [decide_eq_true (by simp)]
   unfold Zma
   simp only [Bool.and_eq_true,List.all_eq_true]
   injection e with e1 e2
   subst e1
   exact ⟨hd,ht⟩
def Ypn (t:Txt) (w:World) (e:Ending) (w':World):Prop:=e = .returned (.bool (Zma t))/\w=w'
theorem Zyv (t:Txt) (hn:t.length<=1000000000000000) (w:World):Calls Tryz.prog 24 #[.string (bs t)] w (Ypn t w):=by
 have hz:=Zi t
 have hti:(t.length:Int)<=1000000000000000:=by omega
 go_enter Tryz.func24,Tryz.ntmps24
 go_wp2
 go_loopw [3] (fun i wr=>∃ k:Nat,i = .int .i64 k/\k<=t.length/\Ypm t k/\w=wr) (fun i _=>t.length - (intOf i).toNat)
 case atStart=>exact ⟨0,rfl,Nat.zero_le _,fun j c hj=>absurd hj (Nat.not_lt_zero _),rfl⟩
 case round =>
  obtain ⟨k,rfl,hk,hW,hwr⟩:=hrel
  subst hwr
  have HW:=Hq hW
  clear hW
  by_cases hlt:k<t.length
  · obtain ⟨c,hq⟩:∃ c,t[k]? = some c:=⟨_,List.getElem?_eq_getElem hlt⟩
    have hkb:k<(bs t).size:=by rw [Zi];exact hlt
    have hbk:(bs t)[k]'hkb=c:=by
     have:=(List.getElem?_eq_some_iff.1 hq).2
     rw [<- this]
     rfl
    have NX:=Hq (fun ht h0=>Yak HW.out hq ht h0)
    have WB:=Hq (fun h=>Yah hq h)
    obtain ⟨n,hn9⟩:∃ n:Int,(c.toNat:Int)=n:=⟨_,rfl⟩
    have hbn:(((bs t)[k]'hkb).toNat:Int)=n:=by rw [hbk];exact hn9
    have hT:tlB c=true ↔ (97<=n/\n<=122\/65<=n/\n<=90\/n=95\/48<=n/\n<=57):=by unfold tlB tlI Zjc Zmg;rw [hn9];simp;omega
    have hL:Zoz c=true ↔ (97<=n/\n<=122\/65<=n/\n<=90\/n=95):=by unfold Zoz Zjc;rw [hn9];simp;omega
    have TT9:=Hq hT
    have LL9:=Hq hL
    clear hbk hq hT hL hn9
    have hk0:((k:Int) == 0)=true\/((k:Int) == 0)=false:=by cases ((k:Int) == 0) <;> simp
    have h95:(n != 95)=true\/(n != 95)=false:=by cases (n != 95) <;> simp
    by_cases h97:n<97 <;> by_cases h122:n>122 <;> by_cases h65:n<65 <;> by_cases h90:n>90 <;> by_cases h48:n<48 <;> by_cases h57:n>57
    all_goals first|(exfalso;omega)|skip
    all_goals (
     rcases hk0 with hk0|hk0 <;> rcases h95 with h95|h95
     all_goals (
      have g0:=hk0
      have g95:=h95
      simp at g0 g95
      first
      | (exfalso;omega)
      | (clear g0 g95;go_wp2;first
        | (simp at hk0 h95;exact ⟨⟨k+1,by go_num,by omega,NX.out (TT9.out.2 (by omega)) (fun h=>LL9.out.2 (by omega)),trivial⟩,by simp [intOf];omega⟩)
        | (have W0:=WB.out (fun h=>by have h1:=TT9.out.1 h.1;have h2:=fun h0=>LL9.out.1 (h.2 h0);simp at hk0 h95;omega)
           go_ret;exact ⟨(by rw [W0];rfl),rfl⟩))))
  · have hkn:k=t.length:=by omega
    subst hkn
    have WW:=Hq (Yag HW.out)
    go_wp2
    go_ret
    exact ⟨by rw [WW.out];rfl,rfl⟩
def Yet (w:World) (p:Option Addr) (ways:List Zlu):Prop:=0<ways.length->∃ b o:Nat,p=some ⟨b,o,none⟩/\b<w.heap.size/\∀ i x y z,ways[i]? = some (x,y,z) ->
 w.cell? ⟨b,o+i*3,none⟩=some (.int .i64 x)/\w.cell? ⟨b,o+i*3+1,none⟩=some (.int .i64 y)/\w.cell? ⟨b,o+i*3+2,none⟩=some (.int .i64 z)
theorem Zmj {w w':World} {p:Option Addr} {ways:List Zlu} (h:Yet w p ways) (g:w.grownBy w' none):Yet w' p ways:=fun h0=>by
 obtain ⟨b,o,e,hb,hc⟩:=h h0
 refine ⟨b,o,e,Nat.lt_of_lt_of_le hb g.size,fun i x y z hi => ?_⟩
 obtain ⟨h1,h2,h3⟩:=hc i x y z hi
 exact ⟨g.cell h1 (by simp),g.cell h2 (by simp),g.cell h3 (by simp)⟩
structure RwB (w W:World) (v:Value) (acc:Txt):Prop where
 buf:Buf W w.heap.size v acc
 gr:w.grownBy W none
theorem Zew {w W W':World} {v:Value} {acc:Txt} (h:RwB w W v acc) (g:W.grownBy W' none):RwB w W' v acc:=⟨Zwq h.buf g,Za h.gr g⟩
theorem Zpu (s:Txt):Lib.strCells (bs s)=bvs s:=by
 unfold Lib.strCells bvs
 rw [Xd,List.map_map];rfl
theorem Zuy {w W W':World} {v v':Value} {acc s:Txt} (h:RwB w W v acc) (ho:W'.ownsRow w.heap.size 5 1 v' (acc.length+s.length) (bvs acc++bvs s)) (g:W.grownBy W' v.ownBlock):RwB w W' v' (acc++s) :=
 ⟨by unfold Buf;rw [List.length_append,Zir];exact ho,Zfc h.gr g fun k hk=>(World.ownsRow.lt h.buf k hk).1⟩
theorem Ziz {ops:Array Oper} {rest:List Oper} {o:Oper} {a:Act} {Q:Exit->Act->World->Prop} (hgd:o.guard=none) (sl x:Operand) (ho:o.op = .call { callee := .builtin .append,args := #[sl,x],argTypes := #[23,9] })
 (w W:World) (v:Value) (acc s:Txt) (hs:a.eval sl=v) (hb:RwB w W v acc) (hx:a.eval x = .string (bs s)) (hl:acc.length+s.length<=100000000)
 (h:∀ p c n W',RwB w W' (.slice p n c) (acc++s)->W.grownBy W' v.ownBlock->wpList Tryz.prog ops Q rest (a.put o.dst (.slice p n c)) W'):wpList Tryz.prog ops Q (o::rest) a W:=by
 obtain ⟨bi,bi0,bi1,bi2,bi3⟩:=info_parts Jn
 have hz:=Zi s
 refine Lib.wpList_append_own_string W hgd sl x _ _ ho w.heap.size 5 bi Xk Jf bi0 bi1 bi2 bi3 v acc.length (bvs acc) hs hb.buf (bs s) hx (by unfold maxLen;omega) (by omega) hb.gr.size ?_
 intro v' W' hown hg _
 rw [hz,Zpu] at hown
 have hm:=Zuy hb hown hg
 obtain ⟨p,c,rfl⟩:=Zeo hm.buf
 exact h p c _ W' hm hg
theorem Zcj {ops:Array Oper} {rest:List Oper} {o:Oper} {a:Act} {Q:Exit->Act->World->Prop} (hgd:o.guard=none) (sl x:Operand) (ho:o.op = .call { callee := .builtin .append,args := #[sl,x],argTypes := #[23,23] })
 (w W:World) (v:Value) (acc:Txt) (c:UInt8) (n:Int) (hn:(c.toNat:Int)=n) (hs:a.eval sl=v) (hb:RwB w W v acc) (hx:a.eval x = .slice (some ⟨W.heap.size,0,none⟩) 1 1) (hl:acc.length+1<=100000000)
 (h:∀ p k m W',RwB w W' (.slice p m k) (acc++[c])->W.grownBy W' v.ownBlock->wpList Tryz.prog ops Q rest (a.put o.dst (.slice p m k)) W'):wpList Tryz.prog ops Q (o::rest) a (W.alloc (.cells #[.int .u8 n] 5)):=by
 obtain ⟨bi,bi0,bi1,bi2,bi3⟩:=info_parts Jn
 subst hn
 refine wpList_append_own_at (W.alloc (.cells #[.int .u8 (c.toNat:Int)] 5)) hgd sl x _ ho w.heap.size 5 bi (.int .u8 0) 1 1 Xk bi0 bi1 bi2 bi3 rfl (by decide) v acc.length (bvs acc) hs (World.ownsRow.alloc hb.buf _) ⟨W.heap.size,0,none⟩ 1 1 [.int .u8 (c.toNat:Int)] hx rfl (Zdp W _ _) (Jq _ _) (by unfold maxLen;omega) (by omega) (Nat.le_trans hb.gr.size (Ga W _ none).size) ?_
 intro v' W' hown hg _ _
 have hg':=World.grownBy.trans (Ga W (.cells #[.int .u8 (c.toNat:Int)] 5) v.ownBlock) hg
 have hm:=Zuy (s:=[c]) hb hown hg'
 obtain ⟨p,k,rfl⟩:=Zeo hm.buf
 exact h p k _ W' hm hg'
structure Yrk (W:World) (a:Nat) (x y z:Value):Prop where
 c0:W.cell? ⟨a,0,none⟩=some x
 c1:W.cell? ⟨a,1,none⟩=some y
 c2:W.cell? ⟨a,2,none⟩=some z
theorem Zav {W:World} {a:Nat} {x y z:Value} (h:W.heap[a]? = some (.cells #[x,y,z] 118 (0,0))):Yrk W a x y z :=
 ⟨Cq W _ 0 _ _ _ h,Cq W _ 1 _ _ _ h,Cq W _ 2 _ _ _ h⟩
structure RwR (s:Txt) (ways:List Zlu) (nm:Txt) (w W:World) (v:Value) (n k:Nat) (acc:Txt):Prop where
 eq:Zdk ways nm 0 s=acc++Zdk ways nm n (s.drop k)
 b:RwB w W v acc
 len:acc.length<=40*k
 hk:k<=s.length
 hn:n<=k
theorem Zaf {s:Txt} {ways:List Zlu} {nm:Txt} {w W W':World} {v v':Value} {n n' k:Nat} {acc add:Txt} {c:UInt8} (h:RwR s ways nm w W v n k acc) (hd:s.drop k=c::s.drop (k+1)) (he:Zdk ways nm n (c::s.drop (k+1))=add++Zdk ways nm n' (s.drop (k+1)))
 (hb:RwB w W' v' (acc++add)) (hl:add.length<=40) (hn:n'<=n+1) (hk:k<s.length):RwR s ways nm w W' v' n' (k+1) (acc++add):=by
 have h1:=h.len
 have h2:=h.hn
 refine ⟨?_,hb,by rw [List.length_append];omega,by omega,by omega⟩
 rw [h.eq,hd,he,List.append_assoc]
theorem Ykm {s:Txt} {ways:List Zlu} {nm:Txt} {w W:World} {v:Value} {n k:Nat} {acc:Txt} (h:RwR s ways nm w W v n k acc) (hk:s.length<=k):Zdk ways nm 0 s=acc:=by
 rw [h.eq,List.drop_eq_nil_of_le hk]
 simp [Zdk]
theorem Zkc (n:Int):(Zeq n).length<=4:=by unfold Zeq;split <;> decide
theorem Ynz (n:Int):(n.tmod 2=0) ↔ (n % 2=0):=by
 by_cases h:0<=n
 · rw [Int.tmod_eq_emod_of_nonneg h]
 · obtain ⟨k,rfl⟩:∃ k,n = -k:=⟨-n,by omega⟩
   rw [Int.neg_tmod,Int.tmod_eq_emod_of_nonneg (by omega)]
   omega
section
variable {ways:List Zlu} {nm:Txt} {n:Nat} {c:UInt8} {r:Txt} {x y z:Int} (hx:Zht ways n=(x,y,z))
include hx
theorem Yfv (hc:c.toNat=10) (hz:z % 2=0):Zdk ways nm n (c::r)=(Zeq z++[10])++Zdk ways nm (n+1) r:=by
 rw [Zdk,if_pos hc,hx];unfold Ymv;rw [if_pos hz];simp
theorem Yfu (hc:c.toNat=10) (hz:¬ z % 2=0):Zdk ways nm n (c::r)=(Zeq z++Yfx++[10])++Zdk ways nm (n+1) r:=by
 rw [Zdk,if_pos hc,hx];unfold Ymv;rw [if_neg hz];simp
theorem Yfs (hc:c.toNat=9):Zdk ways nm n (c::r)=Zeq x++Zdk ways nm n r:=by
 rw [Zdk,if_neg (by omega),if_pos hc,hx]
theorem Yft (hc:c.toNat=32):Zdk ways nm n (c::r)=([32]++Zeq y)++Zdk ways nm n r:=by
 rw [Zdk,if_neg (by omega),if_neg (by omega),if_pos hc,hx];simp
theorem Yfw (hc:c.toNat=58):Zdk ways nm n (c::r)=(Zeq y++[c])++Zdk ways nm n r:=by
 have:c=58:=UInt8.toNat_inj.1 hc
 rw [Zdk,if_neg (by omega),if_neg (by omega),if_neg (by omega),if_pos hc,hx,this]
end
theorem Zva {ways:List Zlu} {nm:Txt} {n:Nat} {c:UInt8} {r:Txt} (hc:(c.toNat=76\/c.toNat=102)/\Zpo r=true):Zdk ways nm n (c::r)=(nm++[c])++Zdk ways nm n r:=by
 rw [Zdk,if_neg (by omega),if_neg (by omega),if_neg (by omega),if_neg (by omega),if_pos hc]
theorem Zjt {ways:List Zlu} {nm:Txt} {n:Nat} {c:UInt8} {r:Txt} (h1:c.toNat≠10) (h2:c.toNat≠9) (h3:c.toNat≠32) (h4:c.toNat≠58) (hc:¬ ((c.toNat=76\/c.toNat=102)/\Zpo r=true)):Zdk ways nm n (c::r)=[c]++Zdk ways nm n r:=by
 rw [Zdk,if_neg h1,if_neg h2,if_neg h3,if_neg h4,if_neg hc]
theorem Zof (s nm:Txt) (ways:List Zlu) (pw:Option Addr) (cw:Nat) (hs:s.length<=65536) (hm:nm.length<=20) (h0:0<ways.length) (hL:ways.length<=maxLen) (w:World) (hW:Yet w pw ways) :
 Calls Tryz.prog 25 #[.string (bs s),.slice pw ways.length cw,.string (bs nm)] w fun e w'=>e = .returned (.string (bs (Zdk ways nm 0 s)))/\w.grownBy w' none:=by
 have hz:=Zi s
 have hzi:((bs s).size:Int)<=65536:=by omega
 have WT:=Hq hW
 have L0:=Hq h0
 obtain ⟨L,hLe⟩:∃ L,ways.length=L:=⟨_,rfl⟩
 rw [hLe]
 have hL1:¬ (L:Int)=0:=by omega
 have HLe:=Hq hLe
 clear hW hLe
 go_enter Tryz.func25,Tryz.ntmps25
 go_wp2
 go_loopw [7,8,9] (fun v l i wr=>∃ (n k:Nat) (acc:Txt),l = .int .i64 n/\i = .int .i64 k/\RwR s ways nm w wr v n k acc) (fun _ _ i _=>s.length - (intOf i).toNat)
 case atStart=>exact ⟨0,0,[],rfl,rfl,rfl,⟨Yec _ _,Zd _ _⟩,Nat.zero_le _,Nat.zero_le _,Nat.le_refl _⟩
 case round =>
  obtain ⟨n,k,acc,rfl,rfl,hR⟩:=hrel
  have RR:=Hq hR
  obtain ⟨p,c0,rfl⟩:=Zeo hR.b.buf
  have hlen:=hR.len
  have hk:=hR.hk
  have hn:=hR.hn
  clear hR
  by_cases hlt:k<s.length
  · obtain ⟨c,hq⟩:∃ c,s[k]? = some c:=⟨_,List.getElem?_eq_getElem hlt⟩
    have hkb:k<(bs s).size:=by rw [Zi];exact hlt
    have hbk:(bs s)[k]'hkb=c:=by
     have:=(List.getElem?_eq_some_iff.1 hq).2
     rw [<- this]
     rfl
    have DR:=Hq (Yb hq)
    obtain ⟨m,hmm⟩:∃ m,n % L=m:=⟨_,rfl⟩
    have hml:m<L:=by rw [<- hmm];exact Nat.mod_lt _ (by omega)
    have hmod:(n:Int).tmod (L:Int)=(m:Int):=by
     rw [Int.tmod_eq_emod_of_nonneg (by omega),<- hmm];rfl
    obtain ⟨⟨x,y,z⟩,hxyz⟩:∃ x,ways[m]? = some x:=⟨_,List.getElem?_eq_getElem (by rw [HLe.out];exact hml)⟩
    have HX:=Hq (show Zht ways n=(x,y,z) by
     unfold Zht
     rw [HLe.out,hmm,List.getD_eq_getElem?_getD,hxyz];rfl)
    obtain ⟨b,o,rfl,hb,hcell⟩:=Zmj WT.out RR.out.b.gr L0.out
    obtain ⟨e0,e1,e2⟩:=hcell m x y z hxyz
    have HC:=Hq hbk
    obtain ⟨ci,hci⟩:∃ ci:Int,(c.toNat:Int)=ci:=⟨_,rfl⟩
    have hbn:(((bs s)[k]'hkb).toNat:Int)=ci:=by rw [hbk];exact hci
    have HCI:=Hq hci
    clear hcell hmm hq hxyz hbk hci
    go_upto_region 7 with fail
    have G1:=Ga wr (.cells #[.int .i64 x,.int .i64 y,.int .i64 z] 118) none
    have RB:=Hq (Zew RR.out.b G1)
    have BX:=Hq (heap_alloc_new wr (.cells #[.int .i64 x,.int .i64 y,.int .i64 z] 118 (0,0)))
    have NB:=Hq (show (Value.slice p acc.length c0).ownBlock≠some wr.heap.size from fun h=>by have:=(World.ownsRow.lt RR.out.b.buf _ h).2;omega)
    generalize wr.alloc (.cells #[.int .i64 x,.int .i64 y,.int .i64 z] 118 (0,0))=W1 at RB BX ⊢
    generalize wr.heap.size=bx at BX NB ⊢
    obtain ⟨x0,x1,x2⟩:=Zav BX.out
    clear G1 e0 e1 e2 hb hmod hml hL1
    by_cases h10:c.toNat=10
    · have b10:(ci == 10)=true:=by have:=HCI.out;simp;omega
      have hbl:=Zkc z
      by_cases hz2:z.tmod 2=0
      · have ZE:=Hq ((Ynz z).1 hz2)
        have H10:=Hq h10
        clear h10
        go_wp2_with (first
         | (go_at_call 52;refine (Zdf z _).mono ?_;rintro e w9 ⟨rfl,hg⟩;have RB:=Hq (Zew RB.out hg);have BX:=Hq (Zf BX.out hg (by simp));clear x0 x1 x2;obtain ⟨x0,x1,x2⟩:=Zav BX.out;clear hg)
         | (at_builtin;refine Ziz rfl _ _ rfl w _ (.slice p acc.length c0) (acc) (Zeq z) rfl RB.out rfl (by first|omega|(simp only [List.length_append,List.length_cons,List.length_nil];omega)) ?_;intro p2 c2 n2 W2 hr2 hg2;have BX:=Hq (Zf BX.out hg2 NB.out);clear x0 x1 x2;obtain ⟨x0,x1,x2⟩:=Zav BX.out;have RB:=Hq hr2;clear hr2 hg2)
         | (at_builtin;refine Zcj rfl _ _ rfl w _ (.slice p2 n2 c2) (acc++Zeq z) 10 _ rfl rfl RB.out rfl (by first|omega|(simp only [List.length_append,List.length_cons,List.length_nil];omega)) ?_;intro p2 c2 n2 W2 hr2 hg2;have RB:=Hq hr2;clear hr2 hg2))
        exact ⟨⟨n+1,k+1,acc++(Zeq z++[10]),by go_num,by go_num,Zaf RR.out DR.out (Yfv HX.out H10.out ZE.out) (by simpa only [List.append_assoc] using RB.out) (by first|omega|(simp only [List.length_append,List.length_cons,List.length_nil];omega)) (by omega) hlt⟩,by simp [intOf];omega⟩
      · have ZE:=Hq (fun h=>hz2 ((Ynz z).2 h))
        have H10:=Hq h10
        clear h10
        go_wp2_with (first
         | (go_at_call 52;refine (Zdf z _).mono ?_;rintro e w9 ⟨rfl,hg⟩;have RB:=Hq (Zew RB.out hg);have BX:=Hq (Zf BX.out hg (by simp));clear x0 x1 x2;obtain ⟨x0,x1,x2⟩:=Zav BX.out;clear hg)
         | (at_builtin;refine Ziz rfl _ _ rfl w _ (.slice p acc.length c0) (acc) (Zeq z) rfl RB.out rfl (by first|omega|(simp only [Yfx,List.length_append,List.length_cons,List.length_nil];omega)) ?_;intro p2 c2 n2 W2 hr2 hg2;have BX:=Hq (Zf BX.out hg2 NB.out);clear x0 x1 x2;obtain ⟨x0,x1,x2⟩:=Zav BX.out;have RB:=Hq hr2;clear hr2 hg2)
         | (at_builtin;refine Ziz rfl _ _ rfl w _ (.slice p2 n2 c2) (acc++Zeq z) (Yfx) rfl RB.out rfl (by first|omega|(simp only [Yfx,List.length_append,List.length_cons,List.length_nil];omega)) ?_;intro p2 c2 n2 W2 hr2 hg2;have RB:=Hq hr2;clear hr2 hg2)
         | (at_builtin;refine Zcj rfl _ _ rfl w _ (.slice p2 n2 c2) (acc++Zeq z++Yfx) 10 _ rfl rfl RB.out rfl (by first|omega|(simp only [Yfx,List.length_append,List.length_cons,List.length_nil];omega)) ?_;intro p2 c2 n2 W2 hr2 hg2;have RB:=Hq hr2;clear hr2 hg2))
        exact ⟨⟨n+1,k+1,acc++(Zeq z++Yfx++[10]),by go_num,by go_num,Zaf RR.out DR.out (Yfu HX.out H10.out ZE.out) (by simpa only [List.append_assoc] using RB.out) (by first|omega|(simp only [Yfx,List.length_append,List.length_cons,List.length_nil];omega)) (by omega) hlt⟩,by simp [intOf];omega⟩
    have b10:(ci == 10)=false:=by have:=HCI.out;simp;omega
    by_cases h9:c.toNat=9
    · have b9:(ci == 9)=true:=by have:=HCI.out;simp;omega
      have hbl:=Zkc x
      have H9:=Hq h9
      clear h9 h10
      go_wp2_with (first
       | (go_at_call 52;refine (Zdf x _).mono ?_;rintro e w9 ⟨rfl,hg⟩;have RB:=Hq (Zew RB.out hg);have BX:=Hq (Zf BX.out hg (by simp));clear x0 x1 x2;obtain ⟨x0,x1,x2⟩:=Zav BX.out;clear hg)
       | (at_builtin;refine Ziz rfl _ _ rfl w _ (.slice p acc.length c0) (acc) (Zeq x) rfl RB.out rfl (by first|omega|(simp only [List.length_append,List.length_cons,List.length_nil];omega)) ?_;intro p2 c2 n2 W2 hr2 hg2;have RB:=Hq hr2;clear hr2 hg2))
      exact ⟨⟨n,k+1,acc++(Zeq x),by go_num,by go_num,Zaf RR.out DR.out (Yfs HX.out H9.out) (by simpa only [List.append_assoc] using RB.out) (by omega) (by omega) hlt⟩,by simp [intOf];omega⟩
    have b9:(ci == 9)=false:=by have:=HCI.out;simp;omega
    by_cases h32:c.toNat=32
    · have b32:(ci == 32)=true:=by have:=HCI.out;simp;omega
      have hbl:=Zkc y
      have H32:=Hq h32
      clear h32 h9 h10
      go_wp2_with (first
       | (go_at_call 52;refine (Zdf y _).mono ?_;rintro e w9 ⟨rfl,hg⟩;have RB:=Hq (Zew RB.out hg);have BX:=Hq (Zf BX.out hg (by simp));clear x0 x1 x2;obtain ⟨x0,x1,x2⟩:=Zav BX.out;clear hg)
       | (at_builtin;refine Zcj rfl _ _ rfl w _ (.slice p acc.length c0) (acc) 32 _ rfl rfl RB.out rfl (by first|omega|(simp only [List.length_append,List.length_cons,List.length_nil];omega)) ?_;intro p2 c2 n2 W2 hr2 hg2;have BX:=Hq (Zf BX.out hg2 NB.out);clear x0 x1 x2;obtain ⟨x0,x1,x2⟩:=Zav BX.out;have RB:=Hq hr2;clear hr2 hg2)
       | (at_builtin;refine Ziz rfl _ _ rfl w _ (.slice p2 n2 c2) (acc++[32]) (Zeq y) rfl RB.out rfl (by first|omega|(simp only [List.length_append,List.length_cons,List.length_nil];omega)) ?_;intro p2 c2 n2 W2 hr2 hg2;have RB:=Hq hr2;clear hr2 hg2))
      exact ⟨⟨n,k+1,acc++([32]++Zeq y),by go_num,by go_num,Zaf RR.out DR.out (Yft HX.out H32.out) (by simpa only [List.append_assoc] using RB.out) (by first|omega|(simp only [List.length_append,List.length_cons,List.length_nil];omega)) (by omega) hlt⟩,by simp [intOf];omega⟩
    have b32:(ci == 32)=false:=by have:=HCI.out;simp;omega
    by_cases h58:c.toNat=58
    · have b58:(ci == 58)=true:=by have:=HCI.out;simp;omega
      have hbl:=Zkc y
      have H58:=Hq h58
      clear h58 h32 h9 h10
      go_wp2_with (first
       | (go_at_call 52;refine (Zdf y _).mono ?_;rintro e w9 ⟨rfl,hg⟩;have RB:=Hq (Zew RB.out hg);have BX:=Hq (Zf BX.out hg (by simp));clear x0 x1 x2;obtain ⟨x0,x1,x2⟩:=Zav BX.out;clear hg)
       | (at_builtin;refine Ziz rfl _ _ rfl w _ (.slice p acc.length c0) (acc) (Zeq y) rfl RB.out rfl (by first|omega|(simp only [List.length_append,List.length_cons,List.length_nil];omega)) ?_;intro p2 c2 n2 W2 hr2 hg2;have BX:=Hq (Zf BX.out hg2 NB.out);clear x0 x1 x2;obtain ⟨x0,x1,x2⟩:=Zav BX.out;have RB:=Hq hr2;clear hr2 hg2)
       | (at_builtin;refine Zcj rfl _ _ rfl w _ (.slice p2 n2 c2) (acc++Zeq y) c _ HCI.out rfl RB.out rfl (by first|omega|(simp only [List.length_append,List.length_cons,List.length_nil];omega)) ?_;intro p2 c2 n2 W2 hr2 hg2;have RB:=Hq hr2;clear hr2 hg2))
      exact ⟨⟨n,k+1,acc++(Zeq y++[c]),by go_num,by go_num,Zaf RR.out DR.out (Yfw HX.out H58.out) (by simpa only [List.append_assoc] using RB.out) (by first|omega|(simp only [List.length_append,List.length_cons,List.length_nil];omega)) (by omega) hlt⟩,by simp [intOf];omega⟩
    have b58:(ci == 58)=false:=by have:=HCI.out;simp;omega
    have H1:=Hq (show c.toNat≠10/\c.toNat≠9/\c.toNat≠32/\c.toNat≠58 from ⟨h10,h9,h32,h58⟩)
    clear h10 h9 h32 h58
    have two:∀ (P:Prop),(c.toNat=76->(ci == 76)=true->P)->(c.toNat=102->(ci == 76)=false->(ci == 102)=true->P)->(¬ (c.toNat=76\/c.toNat=102)->(ci == 76)=false->(ci == 102)=false->P)->P:=fun P f g h=>by
     have:=HCI.out
     by_cases h76:c.toNat=76
     · exact f h76 (by simp;omega)
     · by_cases h102:c.toNat=102
       · exact g h102 (by simp;omega) (by simp;omega)
       · exact h (by omega) (by simp;omega) (by simp;omega)
    have hkk:(k:Int)+1<s.length\/¬ (k:Int)+1<s.length:=Classical.em _
    have NEXT:(∃ d,s.drop (k+1)=d::s.drop (k+2)/\∃ (h:k+1<(bs s).size),(bs s)[k+1]'h=d)\/s.drop (k+1)=[]:=by
     by_cases h:k+1<s.length
     · have hq2:s[k+1]? = some (s[k+1]'h):=List.getElem?_eq_getElem h
       refine Or.inl ⟨_,Yb hq2,by rw [Zi];exact h,rfl⟩
     · exact Or.inr (List.drop_eq_nil_of_le (by omega))
    rcases NEXT with ⟨d,hd,hkb2,hd2⟩|hnil
    · obtain ⟨di,hdi⟩:∃ di:Int,(d.toNat:Int)=di:=⟨_,rfl⟩
      have hdn:(((bs s)[k+1]'hkb2).toNat:Int)=di:=by rw [hd2];exact hdi
      have hk1:(k:Int)+1<s.length:=by rw [Zi] at hkb2;omega
      have hdg:Zpo (s.drop (k+1))=true ↔ (48<=di/\di<=57):=by rw [hd];show Zea d=true ↔ _;unfold Zea Zmg;rw [hdi];simp
      have DG:=Hq hdg
      clear hd hd2 hdi hdg hkk
      by_cases hge:di ≥ 48
      · by_cases hle:di<=57
        · have DH:=Hq (DG.out.2 ⟨hge,hle⟩)
          refine two _ (fun h b76 => ?_) (fun h b76 b102 => ?_) (fun h b76 b102 => ?_)
          · have OW:=Hq (show (c.toNat=76\/c.toNat=102)/\Zpo (s.drop (k+1))=true from ⟨Or.inl h,DH.out⟩)
            clear h two
            go_wp2_with (first
             | (at_builtin;refine Ziz rfl _ _ rfl w _ (.slice p acc.length c0) (acc) (nm) rfl RB.out rfl (by first|omega|(simp only [List.length_append,List.length_cons,List.length_nil];omega)) ?_;intro p2 c2 n2 W2 hr2 hg2;have BX:=Hq (Zf BX.out hg2 NB.out);clear x0 x1 x2;obtain ⟨x0,x1,x2⟩:=Zav BX.out;have RB:=Hq hr2;clear hr2 hg2)
             | (at_builtin;refine Zcj rfl _ _ rfl w _ (.slice p2 n2 c2) (acc++nm) c _ HCI.out rfl RB.out rfl (by first|omega|(simp only [List.length_append,List.length_cons,List.length_nil];omega)) ?_;intro p2 c2 n2 W2 hr2 hg2;have RB:=Hq hr2;clear hr2 hg2))
            exact ⟨⟨n,k+1,acc++(nm++[c]),by go_num,by go_num,Zaf RR.out DR.out (Zva OW.out) (by simpa only [List.append_assoc] using RB.out) (by first|omega|(simp only [List.length_append,List.length_cons,List.length_nil];omega)) (by omega) hlt⟩,by simp [intOf];omega⟩
          · have OW:=Hq (show (c.toNat=76\/c.toNat=102)/\Zpo (s.drop (k+1))=true from ⟨Or.inr h,DH.out⟩)
            clear h two
            go_wp2_with (first
             | (at_builtin;refine Ziz rfl _ _ rfl w _ (.slice p acc.length c0) (acc) (nm) rfl RB.out rfl (by first|omega|(simp only [List.length_append,List.length_cons,List.length_nil];omega)) ?_;intro p2 c2 n2 W2 hr2 hg2;have BX:=Hq (Zf BX.out hg2 NB.out);clear x0 x1 x2;obtain ⟨x0,x1,x2⟩:=Zav BX.out;have RB:=Hq hr2;clear hr2 hg2)
             | (at_builtin;refine Zcj rfl _ _ rfl w _ (.slice p2 n2 c2) (acc++nm) c _ HCI.out rfl RB.out rfl (by first|omega|(simp only [List.length_append,List.length_cons,List.length_nil];omega)) ?_;intro p2 c2 n2 W2 hr2 hg2;have RB:=Hq hr2;clear hr2 hg2))
            exact ⟨⟨n,k+1,acc++(nm++[c]),by go_num,by go_num,Zaf RR.out DR.out (Zva OW.out) (by simpa only [List.append_assoc] using RB.out) (by first|omega|(simp only [List.length_append,List.length_cons,List.length_nil];omega)) (by omega) hlt⟩,by simp [intOf];omega⟩
          · have OW:=Hq (show ¬ ((c.toNat=76\/c.toNat=102)/\Zpo (s.drop (k+1))=true) from fun x=>h x.1)
            clear h two
            go_wp2_with (at_builtin;refine Zcj rfl _ _ rfl w _ (.slice p acc.length c0) (acc) c _ HCI.out rfl RB.out rfl (by first|omega|(simp only [List.length_append,List.length_cons,List.length_nil];omega)) ?_;intro p2 c2 n2 W2 hr2 hg2;have RB:=Hq hr2;clear hr2 hg2)
            exact ⟨⟨n,k+1,acc++([c]),by go_num,by go_num,Zaf RR.out DR.out (Zjt H1.out.1 H1.out.2.1 H1.out.2.2.1 H1.out.2.2.2 OW.out) (by simpa only [List.append_assoc] using RB.out) (by simp) (by omega) hlt⟩,by simp [intOf];omega⟩
        · have DH:=Hq (show ¬ Zpo (s.drop (k+1))=true from fun x=>hle (DG.out.1 x).2)
          have OW:=Hq (show ¬ ((c.toNat=76\/c.toNat=102)/\Zpo (s.drop (k+1))=true) from fun x=>DH.out x.2)
          refine two _ (fun h b76 => ?_) (fun h b76 b102 => ?_) (fun h b76 b102 => ?_)
          all_goals clear h two
          all_goals (
           go_wp2_with (at_builtin;refine Zcj rfl _ _ rfl w _ (.slice p acc.length c0) (acc) c _ HCI.out rfl RB.out rfl (by first|omega|(simp only [List.length_append,List.length_cons,List.length_nil];omega)) ?_;intro p2 c2 n2 W2 hr2 hg2;have RB:=Hq hr2;clear hr2 hg2)
           exact ⟨⟨n,k+1,acc++([c]),by go_num,by go_num,Zaf RR.out DR.out (Zjt H1.out.1 H1.out.2.1 H1.out.2.2.1 H1.out.2.2.2 OW.out) (by simpa only [List.append_assoc] using RB.out) (by simp) (by omega) hlt⟩,by simp [intOf];omega⟩)
      · have DH:=Hq (show ¬ Zpo (s.drop (k+1))=true from fun x=>hge (DG.out.1 x).1)
        have OW:=Hq (show ¬ ((c.toNat=76\/c.toNat=102)/\Zpo (s.drop (k+1))=true) from fun x=>DH.out x.2)
        refine two _ (fun h b76 => ?_) (fun h b76 b102 => ?_) (fun h b76 b102 => ?_)
        all_goals clear h two
        all_goals (
         go_wp2_with (at_builtin;refine Zcj rfl _ _ rfl w _ (.slice p acc.length c0) (acc) c _ HCI.out rfl RB.out rfl (by first|omega|(simp only [List.length_append,List.length_cons,List.length_nil];omega)) ?_;intro p2 c2 n2 W2 hr2 hg2;have RB:=Hq hr2;clear hr2 hg2)
         exact ⟨⟨n,k+1,acc++([c]),by go_num,by go_num,Zaf RR.out DR.out (Zjt H1.out.1 H1.out.2.1 H1.out.2.2.1 H1.out.2.2.2 OW.out) (by simpa only [List.append_assoc] using RB.out) (by simp) (by omega) hlt⟩,by simp [intOf];omega⟩)
    · have OW:=Hq (show ¬ ((c.toNat=76\/c.toNat=102)/\Zpo (s.drop (k+1))=true) from fun x=>by rw [hnil] at x;exact absurd x.2 (by decide))
      have hk1:¬ (k:Int)+1<s.length:=by
       have:=congrArg List.length hnil
       rw [List.length_drop,List.length_nil] at this
       omega
      clear hnil hkk
      refine two _ (fun h b76 => ?_) (fun h b76 b102 => ?_) (fun h b76 b102 => ?_)
      all_goals clear h two
      all_goals (
       go_wp2_with (at_builtin;refine Zcj rfl _ _ rfl w _ (.slice p acc.length c0) (acc) c _ HCI.out rfl RB.out rfl (by first|omega|(simp only [List.length_append,List.length_cons,List.length_nil];omega)) ?_;intro p2 c2 n2 W2 hr2 hg2;have RB:=Hq hr2;clear hr2 hg2)
       exact ⟨⟨n,k+1,acc++([c]),by go_num,by go_num,Zaf RR.out DR.out (Zjt H1.out.1 H1.out.2.1 H1.out.2.2.1 H1.out.2.2.2 OW.out) (by simpa only [List.append_assoc] using RB.out) (by simp) (by omega) hlt⟩,by simp [intOf];omega⟩)
  · have hkn:k=s.length:=by omega
    have HE:=Hq (Ykm RR.out (by omega))
    have cv:=Zkb RR.out.b.buf
    clear hkn
    go_wp2
    go_ret
    rw [HE.out]
    exact ⟨rfl,RR.out.b.gr⟩
section
variable {H:Type} {enc:TypeId × Value->H} {w:World}
theorem rd_way_und:Tryz.prog.underlying 51=some (.slice 118):=by kernel_rfl
theorem read_ways {v:Value} {d:DataW H} {ps:List MemPlace} (hv:∃ a len cap,v = .slice a len cap) (h:DataW.Trod enc Tryz.prog w 0 (fun _=>true) true 51 v d ps) :
 ∃ (p:Option Addr) (ways:List Zlu) (cap:Nat),v = .slice p ways.length cap/\Yet w p ways/\ways.length<=maxLen:=by
 obtain ⟨a0,l0,c0,rfl⟩:=hv
 obtain ⟨fuel,h⟩:=h
 have h':DataW.trod enc Tryz.prog w 0 (fun _=>true) true fuel 51 [.slice a0 l0 c0]=some (d,ps):=h
 obtain ⟨p,len,cap,hv,hm,hx⟩:=Zjr (k:=3) rd_way_und (by kernel_rfl) (by decide) h'
 have hex:∃ N:Nat->Zlu,0<len->∃ b o,p=some ⟨b,o,none⟩/\b<w.heap.size/\∀ i,i<len->w.cell? ⟨b,o+i*3,none⟩=some (.int .i64 (N i).1)/\w.cell? ⟨b,o+i*3+1,none⟩=some (.int .i64 (N i).2.1)/\w.cell? ⟨b,o+i*3+2,none⟩=some (.int .i64 (N i).2.2):=by
  rcases Nat.eq_zero_or_pos len with h0|h0
  · exact ⟨fun _=>(0,0,0),fun h=>by omega⟩
  · obtain ⟨b,o,rfl,hbl,hi⟩:=hx h0
    have:∀ i,i<len->∃ N:Zlu,w.cell? ⟨b,o+i*3,none⟩=some (.int .i64 N.1)/\w.cell? ⟨b,o+i*3+1,none⟩=some (.int .i64 N.2.1)/\w.cell? ⟨b,o+i*3+2,none⟩=some (.int .i64 N.2.2):=by
     intro i hil
     obtain ⟨cs',n,y,h3,h4,h5⟩:=hi i hil
     obtain ⟨_,_,v0,y0,g0,t0⟩:=Jx (k:=3) Tryz.underlying118 h5 0 _ rfl (by kernel_rfl) (by kernel_rfl) (by decide)
     obtain ⟨_,_,v1,y1,g1,t1⟩:=Jx (k:=3) Tryz.underlying118 h5 1 _ rfl (by kernel_rfl) (by kernel_rfl) (by decide)
     obtain ⟨_,_,v2,y2,g2,t2⟩:=Jx (k:=3) Tryz.underlying118 h5 2 _ rfl (by kernel_rfl) (by kernel_rfl) (by decide)
     obtain ⟨a,rfl,_⟩:=Zah t0
     obtain ⟨b',rfl,_⟩:=Zah t1
     obtain ⟨c,rfl,_⟩:=Zah t2
     exact ⟨(a,b',c),(h4 0 (by decide)).trans g0,(h4 1 (by decide)).trans g1,(h4 2 (by decide)).trans g2⟩
    obtain ⟨N,hN⟩ := @Deep.choose_lt _ ⟨((0,0,0):Zlu)⟩ _ _ this
    exact ⟨N,fun _=>⟨b,o,rfl,hbl,hN⟩⟩
 obtain ⟨N,hN⟩:=hex
 refine ⟨p,(List.range len).map N,cap,by rw [hv];simp,fun h0 => ?_,by simpa using hm⟩
 simp only [List.length_map,List.length_range] at h0
 obtain ⟨b,o,e,hbl,hi⟩:=hN h0
 refine ⟨b,o,e,hbl,fun j x y z hj => ?_⟩
 have hl:=(List.getElem?_eq_some_iff.1 hj).1
 simp only [List.length_map,List.length_range] at hl
 have:=hi j hl
 have e:N j=(x,y,z):=by simpa [hl] using hj
 rw [e] at this
 exact this
end
structure BkO (w W:World) (a:Nat) (va:Array Value):Prop where
 gr:w.grownBy W none
 ba:W.heap[a]? = some (.cells va 26 (0,0))
theorem Xy {w W W':World} {a:Nat} {va:Array Value} (h:BkO w W a va) (g:W.grownBy W' none):BkO w W' a va :=
 ⟨Za h.gr g,Zf h.ba g (by simp)⟩
theorem Yel (w:World) (va:Array Value):BkO w (w.alloc (.cells va 26 (0,0))) w.heap.size va:=⟨Ga _ _ _,heap_alloc_new w _⟩
theorem rewrites_any (p:PrP) (pd pF pw:Option Addr) (cd cF cw:Nat) (ways:List Zlu) (nm:Txt) (w:World) (hW:LibW w) (hp:Yez w p pd pF) (hpa:Ypy p) (hw:Yet w pw ways) (hL:ways.length<=maxLen) (hn:nm.length<=1000000000000000) :
 Calls Tryz.prog 8 #[prV p pd pF cd cF,.slice pw ways.length cw,.string (bs nm)] w fun e w'=>e = .returned (.bool true)/\w.grownBy w' none:=by
 obtain ⟨q,hq⟩:∃ q:PrP,q=(p.1,[],p.2.2):=⟨_,rfl⟩
 have hqI:Yez w q none pF:=by rw [hq];exact ⟨fun h=>absurd h (by simp),hp.fn⟩
 have hqa:Ypy q:=by rw [hq];exact ⟨by simp,hpa.r⟩
 have PP:=Hq (fun W (g:w.grownBy W none)=>Ygo (Zgv hqI g) hqa (Zs hW g) 0 cF)
 have CP:=Hq (fun W (g:w.grownBy W none)=>Yik (Zgv hqI g) hqa 0 cF)
 have KN:=Hq (fun W (g:w.grownBy W none)=>Ycr W (Zs hW g))
 have PA:=Hq (fun s W (g:w.grownBy W none)=>Zqn s W (Zs hW g))
 have PK:=Hq (fun W (g:w.grownBy W none)=>Zgv hqI g)
 have PO:=Hq (show Xg q.1 q.2.1.length q.2.2=0->OkP q from fun h=>⟨h,hqa.r⟩)
 have WK:=Hq (fun W (g:w.grownBy W none)=>Zmj hw g)
 have HL:=Hq hL
 have ISW:=Hq (fun W=>show Calls Tryz.prog 24 #[.string (bs nm)] W fun e w'=>e = .returned (.bool (Zma nm))/\W=w' from Zyv nm hn W)
 have hzn:=Zi nm
 clear hqI hqa hpa hW hw hL
 have hq1:p.1=q.1:=by rw [hq]
 have hq2:p.2.2=q.2.2:=by rw [hq]
 have QD:=Hq (show q.2.1=[] by rw [hq])
 have QL:q.2.1.length=0:=by rw [hq];rfl
 clear hq hp
 show Calls _ _ #[.agg #[.int .i64 p.1,.slice pd p.2.1.length cd,.slice pF p.2.2.length cF],_,_] _ _
 rw [hq1,hq2]
 clear hq1 hq2
 generalize p.2.1.length=dl
 obtain ⟨L,hLe⟩:∃ L,ways.length=L:=⟨_,rfl⟩
 rw [hLe]
 have HLE:=Hq hLe
 clear hLe
 go_enter Tryz.func8,Tryz.ntmps8
 go_upto_region 1 with fail
 have SS:=Hq (Yel w #[.int .i64 q.1,.slice pd dl cd,.slice pF q.2.2.length cF])
 generalize w.alloc (.cells #[.int .i64 q.1,.slice pd dl cd,.slice pF q.2.2.length cF] 26 (0,0))=W0 at SS ⊢
 obtain ⟨bp,hbp⟩:∃ bp,w.heap.size=bp:=⟨_,rfl⟩
 have HB:=Hq hbp
 rw [hbp] at SS ⊢
 clear hbp
 go_upto_region 3 with (go_at_call 11;refine (KN.out _ SS.out.gr).mono ?_;rintro e w9 ⟨rfl,hg⟩;have SS:=Hq (Xy SS.out hg);clear hg)
 obtain ⟨c0,c1,c2⟩:=Zbb SS.out.ba
 have z1:=frozen_of_row w9 _ 1 _ _ SS.out.ba
 go_upto_region 4 with fail
 have SS:=Hq (show BkO w (w9.setCell ⟨bp,1,none⟩ (.slice none 0 0)) bp #[.int .i64 q.1,.slice none 0 0,.slice pF q.2.2.length cF] from ⟨Yd SS.out.gr (Nat.le_of_eq HB.out),by rw [Zl SS.out.ba];rfl⟩)
 generalize w9.setCell ⟨bp,1,none⟩ (.slice none 0 0)=W1 at SS ⊢
 clear c0 c1 c2 z1
 obtain ⟨c0,c1,c2⟩:=Zbb SS.out.ba
 rw [show prV q none pF 0 cF = .agg #[.int .i64 q.1,.slice none 0 0,.slice pF q.2.2.length cF] by unfold prV;rw [QL]] at PP CP
 have PV:=Hq (show prV q none pF 0 cF = .agg #[.int .i64 q.1,.slice none 0 0,.slice pF q.2.2.length cF] by unfold prV;rw [QL])
 clear QL
 cases Ybo q with
 | bad y h e h0 h2 =>
   rw [h] at PP
   rw [e] at CP
   have b0:(y == 0)=false:=beq_eq_false_iff_ne.2 h0
   have n0:(y != 0)=true:=bne_iff_ne.2 h0
   have b2:(y == 2)=false:=beq_eq_false_iff_ne.2 h2
   clear h e h0 h2
   go_wp2_with (first
    | (go_at_call 18;refine (PP.out _ SS.out.gr).mono ?_;rintro e w9 ⟨rfl,hg⟩;have SS:=Hq (Xy SS.out hg);clear c0 c1 c2;obtain ⟨c0,c1,c2⟩:=Zbb SS.out.ba;clear hg)
    | (go_at_call 23;refine (CP.out _ SS.out.gr).mono ?_;rintro e w9 ⟨rfl,hg⟩;have SS:=Hq (Xy SS.out hg);clear c0 c1 c2;obtain ⟨c0,c1,c2⟩:=Zbb SS.out.ba;clear hg))
   go_ret
   exact ⟨rfl,SS.out.gr⟩
 | long h e =>
   rw [h] at PP
   rw [e] at CP
   clear h e
   go_wp2_with (first
    | (go_at_call 18;refine (PP.out _ SS.out.gr).mono ?_;rintro e w9 ⟨rfl,hg⟩;have SS:=Hq (Xy SS.out hg);clear c0 c1 c2;obtain ⟨c0,c1,c2⟩:=Zbb SS.out.ba;clear hg)
    | (go_at_call 23;refine (CP.out _ SS.out.gr).mono ?_;rintro e w9 ⟨rfl,hg⟩;have SS:=Hq (Xy SS.out hg);clear c0 c1 c2;obtain ⟨c0,c1,c2⟩:=Zbb SS.out.ba;clear hg))
   go_ret
   exact ⟨rfl,SS.out.gr⟩
 | ok h e l =>
   rw [h] at PP
   have QO:=Hq (PO.out e)
   have QS:=Hq (Ykf e)
   have LN:=Hq l
   clear h e l
   by_cases h0:L=0
   · have h0i:((L:Int) == 0)=true:=by simp;omega
     clear h0
     go_wp2_with (go_at_call 18;refine (PP.out _ SS.out.gr).mono ?_;rintro e w9 ⟨rfl,hg⟩;have SS:=Hq (Xy SS.out hg);clear c0 c1 c2;obtain ⟨c0,c1,c2⟩:=Zbb SS.out.ba;clear hg)
     go_ret
     exact ⟨rfl,SS.out.gr⟩
   · have h0i:((L:Int) == 0)=false:=by simp;omega
     cases hwd:Zma nm with
     | false =>
       rw [hwd] at ISW
       clear hwd
       go_wp2_with (first
        | (go_at_call 18;refine (PP.out _ SS.out.gr).mono ?_;rintro e w9 ⟨rfl,hg⟩;have SS:=Hq (Xy SS.out hg);clear c0 c1 c2;obtain ⟨c0,c1,c2⟩:=Zbb SS.out.ba;clear hg)
        | (go_at_call 24;refine (ISW.out _).mono ?_;rintro e w8 ⟨rfl,rfl⟩))
       go_ret
       exact ⟨rfl,SS.out.gr⟩
     | true =>
       rw [hwd] at ISW
       have PRE:=Hq (show Yey nm from Or.inr (Zdl hwd))
       clear hwd
       by_cases h20:(nm.length:Int)>20
       · go_wp2_with (first
          | (go_at_call 18;refine (PP.out _ SS.out.gr).mono ?_;rintro e w9 ⟨rfl,hg⟩;have SS:=Hq (Xy SS.out hg);clear c0 c1 c2;obtain ⟨c0,c1,c2⟩:=Zbb SS.out.ba;clear hg)
          | (go_at_call 24;refine (ISW.out _).mono ?_;rintro e w8 ⟨rfl,rfl⟩))
         go_ret
         exact ⟨rfl,SS.out.gr⟩
       · have h20n:nm.length<=20:=by omega
         have LP:0<ways.length:=by rw [HLE.out];omega
         have RWC:=Hq (fun W (g:w.grownBy W none)=>Zof (Zay q) nm ways pw cw LN.out h20n LP HL.out W (WK.out W g))
         rw [HLE.out] at RWC
         have RO:=Hq (show (Zdk ways nm 0 (Zay q)).length<=65536->Zbm (Zdk ways nm 0 (Zay q)) = .ok q from fun h=>by rw [Znb,Yoe QO.out QD.out ways PRE.out h])
         clear LN LP h20n
         generalize Zdk ways nm 0 (Zay q)=T at RWC RO
         generalize Zay q=s at PP RWC
         have hzT:=Zi T
         by_cases hT:(T.length:Int)>65536
         · go_wp2_with (first
            | (go_at_call 18;refine (PP.out _ SS.out.gr).mono ?_;rintro e w9 ⟨rfl,hg⟩;have SS:=Hq (Xy SS.out hg);clear c0 c1 c2;obtain ⟨c0,c1,c2⟩:=Zbb SS.out.ba;clear hg)
            | (go_at_call 24;refine (ISW.out _).mono ?_;rintro e w8 ⟨rfl,rfl⟩)
            | (go_at_call 25;refine (RWC.out _ SS.out.gr).mono ?_;rintro e w9 ⟨rfl,hg⟩;have SS:=Hq (Xy SS.out hg);clear c0 c1 c2;obtain ⟨c0,c1,c2⟩:=Zbb SS.out.ba;clear hg))
           go_ret
           exact ⟨rfl,SS.out.gr⟩
         · have PS:=Hq (fun W (g:w.grownBy W none)=>PA.out T W g)
           rw [RO.out (by omega)] at PS
           go_upto_region 11 with (first
            | (go_at_call 18;refine (PP.out _ SS.out.gr).mono ?_;rintro e w9 ⟨rfl,hg⟩;have SS:=Hq (Xy SS.out hg);clear c0 c1 c2;obtain ⟨c0,c1,c2⟩:=Zbb SS.out.ba;clear hg)
            | (go_at_call 24;refine (ISW.out _).mono ?_;rintro e w8 ⟨rfl,rfl⟩)
            | (go_at_call 25;refine (RWC.out _ SS.out.gr).mono ?_;rintro e w9 ⟨rfl,hg⟩;have SS:=Hq (Xy SS.out hg);clear c0 c1 c2;obtain ⟨c0,c1,c2⟩:=Zbb SS.out.ba;clear hg)
            | (go_at_call 12;refine (PS.out _ SS.out.gr).mono ?_;intro e w8 hp8;obtain ⟨sd,cs,sF,cs2,rfl,hg,hin⟩:=Ygs hp8;have SI:=Hq hin;have SS:=Hq (Xy SS.out hg);clear c0 c1 c2;obtain ⟨c0,c1,c2⟩:=Zbb SS.out.ba;clear hg;clear hp8 hin))
           have hg:=Ga w8 (.cells #[.int .i64 q.1,.slice sd q.2.1.length cs,.slice sF q.2.2.length cs2] 26 (0,0)) none
           have S0:=Hq (heap_alloc_new w8 (.cells #[.int .i64 q.1,.slice sd q.2.1.length cs,.slice sF q.2.2.length cs2] 26 (0,0)))
           have SI:=Hq (Zgv SI.out hg)
           have SS:=Hq (Xy SS.out hg)
           clear hg c0 c1 c2
           generalize w8.alloc (.cells #[.int .i64 q.1,.slice sd q.2.1.length cs,.slice sF q.2.2.length cs2] 26 (0,0))=w10 at SS S0 SI ⊢
           generalize w8.heap.size=bs0 at S0 ⊢
           obtain ⟨c0,c1,c2⟩:=Zbb SS.out.ba
           obtain ⟨s0,s1,s2⟩:=Zbb S0.out
           have SM:=Hq (fun W (g:w.grownBy W none) (h:Yez W q sd sF)=>Ykl h (PK.out W g) QS.out.1 QS.out.2 cs cs2 0 cF)
           rw [Zkj,PV.out] at SM
           go_wp2_with (go_at_call 15;refine (SM.out _ SS.out.gr SI.out).mono ?_;rintro e w9 ⟨rfl,hg⟩;have SS:=Hq (Xy SS.out hg);clear hg)
           go_ret
           exact ⟨rfl,SS.out.gr⟩
end Go.Proofs.YteciblfmgdlipaaGreatDoor.AS
