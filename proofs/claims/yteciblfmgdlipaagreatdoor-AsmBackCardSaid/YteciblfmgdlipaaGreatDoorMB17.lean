/-
  Part of a proof: contracts of functions and lemmas, each stated by its own theorem. Conditions: as each theorem states.
-/
import Derived.Test.YteciblfmgdlipaaGreatDoorMB13
import Derived.Test.YteciblfmgdlipaaGreatDoorMB14
import Derived.Test.YteciblfmgdlipaaGreatDoorMB16
set_option linter.unusedSimpArgs false
set_option linter.unusedVariables false
set_option maxRecDepth 100000
set_option maxHeartbeats 16000000
namespace Go.Proofs.YteciblfmgdlipaaGreatDoor.AS
open Go.RowKit Go.Great CK
theorem Yph {w w':World} {p:PrP} {e:Ending} (h:Zsj w (.ok p) e w'):∃ pD cD pF cF,e = .returned (.tuple #[.agg #[.int .i64 p.1,.slice pD p.2.1.length cD,.slice pF p.2.2.length cF],.nilIface])/\w.grownBy w' none/\∃ cv,Zun w' w.heap.size (.slice pD p.2.1.length cD) (.slice pF p.2.2.length cF) (Zfp p.2.1) p.2.2 cv:=by
 obtain ⟨h1,h2⟩:=h
 obtain ⟨mem,d,fs⟩:=p
 obtain ⟨D,F,cv,rfl,ho⟩:=h1
 obtain ⟨pD,cD,rfl⟩:=Zm ho.dt
 obtain ⟨pF,cF,rfl⟩:=Zm ho.fr
 rw [Jn] at ho ⊢
 exact ⟨_,_,_,_,rfl,h2,cv,ho⟩
theorem Zvm {w w':World} {y n:Int} {e:Ending} (h:Zsj w (.error (y,n)) e w'):∃ a,e = .returned (.tuple #[.agg #[.int .i64 0,.slice none 0 0,.slice none 0 0],.iface 62 (.pointer (some ⟨a,0,none⟩))])/\w.grownBy w' none/\w'.heap[a]? = some (.cells #[.int .i64 n,Zwl y] 64 (0,0)):=by
 obtain ⟨h1,h2⟩:=h
 obtain ⟨a,rfl,ha,hb⟩:=h1
 exact ⟨a,rfl,h2,hb⟩
abbrev prV (P:PrP) (pd pF:Option Addr) (cd cF:Nat):Value := .agg #[.int .i64 P.1,.slice pd P.2.1.length cd,.slice pF P.2.2.length cF]
structure Zhw (W:World) (P:PrP) (pd pF:Option Addr):Prop where
 by_:Zdm W pd P.2.1
 fn:Zap W W.heap.size pF P.2.2
theorem Ydd {w:World} {A B:Nat} {p:Option Addr} {fs:List FnP} (h:Zap w A p fs) (hb:A<=B):Zap w B p fs:=fun h0=>by
 obtain ⟨b,o,e,hlt,hc⟩:=h h0
 refine ⟨b,o,e,Nat.lt_of_lt_of_le hlt hb,fun i a l r c hi => ?_⟩
 obtain ⟨h1,h2,h3,pc,cc,h4,h5⟩:=hc i a l r c hi
 refine ⟨h1,h2,h3,pc,cc,h4,fun h0 => ?_⟩
 obtain ⟨b',o',e',hlt',hc'⟩:=h5 h0
 exact ⟨b',o',e',Nat.lt_of_lt_of_le hlt' hb,hc'⟩
theorem Zo {W W':World} {P:PrP} {pd pF:Option Addr} (h:Zhw W P pd pF) (g:W.grownBy W' none):Zhw W' P pd pF :=
 ⟨Zgb h.by_ g,Ydd (Xt h.fn g (by simp)) g.size⟩
structure Ymq (P:PrP):Prop where
 n:P.2.1.length<=9223372036854775807
 r:∀ f∈P.2.2,∀ x∈f.2.2.2,Zjl x.2
theorem Zeu {P:PrP} (h:OkP P):Ymq P:=⟨by have:=(Zbn h.e).1;omega,h.r⟩
theorem Zok {W:World} {P:PrP} {pd pF:Option Addr} (h:Zhw W P pd pF) (a:Ymq P) (hW:LibW W) (cd cF:Nat):Calls Tryz.prog 18 #[prV P pd pF cd cF] W (Yem W (Zba P)) :=
 Zqd P.1 P.2.1 P.2.2 pd pF cd cF W.heap.size W hW (Nat.le_refl _) h.by_ h.fn a.n a.r
theorem Zhn {W:World} {P:PrP} {pd pF:Option Addr} (h:Zhw W P pd pF) (a:Ymq P) (cd cF:Nat):Calls Tryz.prog 23 #[prV P pd pF cd cF] W fun e w'=>e = .returned (.int .i64 (Yy P.1 P.2.1.length P.2.2))/\W.grownBy w' none :=
 Zxn P.1 P.2.1.length P.2.2 pd pF cd cF W.heap.size W (Nat.le_refl _) h.fn a.n a.r
theorem Zcp {W:World} {P Q:PrP} {pd pF qd qF:Option Addr} (h:Zhw W P pd pF) (g:Zhw W Q qd qF) (hn:P.2.2.length<=1000000000000) (hc:∀ x∈P.2.2,x.2.2.2.length<=1000000000000) (cd cF ed eF:Nat) :
 Calls Tryz.prog 15 #[prV P pd pF cd cF,prV Q qd qF ed eF] W fun e w'=>e = .returned (.bool (Zed P Q))/\W.grownBy w' none :=
 Zuw P Q pd qd pF qF cd ed cF eF W.heap.size W.heap.size W hn hc h.by_ g.by_ h.fn g.fn
theorem Zbf {P:PrP} (h:Yy P.1 P.2.1.length P.2.2=0):P.2.2.length<=1000000000000/\∀ x∈P.2.2,x.2.2.2.length<=1000000000000:=by
 obtain ⟨h1,h2⟩:=Zbn h
 exact ⟨by omega,fun x hx=>by have:=(Zhj (h2 x hx)).1;omega⟩
theorem Zcg (W:World) (pd pF:Option Addr):Zhw W (0,[],[]) pd pF:=⟨fun h=>absurd h (by simp),fun h=>absurd h (by simp)⟩
theorem Zax {w w':World} {P:PrP} {e:Ending} (h:Zsj w (.ok P) e w'):∃ pd cd pF cF,e = .returned (.tuple #[prV P pd pF cd cF,.nilIface])/\w.grownBy w' none/\Zhw w' P pd pF:=by
 obtain ⟨pD,cD,pF,cF,rfl,hg,cv,ho⟩:=Yph h
 have hl:(Zfp P.2.1).length=P.2.1.length:=Jn _
 refine ⟨pD,cD,pF,cF,rfl,hg,⟨fun h0 => ?_,Zez ho⟩⟩
 have hb:=Zya ho
 obtain ⟨b,o,e,hc⟩:=hb (by
  intro h1
  have:=congrArg List.length h1
  simp only [List.length_map,hl,List.length_nil] at this
  omega)
 have hcell:∀ (i:Nat) (c:UInt8),P.2.1[i]? = some c->w'.cell? ⟨b,o+i,none⟩=some (.int .u8 (c.toNat:Int)):=fun i c hi=>hc i _ (by
  unfold Zfp
  simp [hi])
 have h9:P.2.1[0]? = some P.2.1[0]:=List.getElem?_eq_getElem h0
 exact ⟨b,o,e,World.block_lt_of_cell? _ _ (hcell 0 _ h9),hcell⟩
structure BkS (w W:World) (a b:Nat) (va vb:Array Value):Prop where
 gr:w.grownBy W none
 ba:W.heap[a]? = some (.cells va 26 (0,0))
 bb:W.heap[b]? = some (.cells vb 26 (0,0))
theorem Zi {w W W':World} {a b:Nat} {va vb:Array Value} (h:BkS w W a b va vb) (g:W.grownBy W' none):BkS w W' a b va vb :=
 ⟨Za h.gr g,Zf h.ba g (by simp),Zf h.bb g (by simp)⟩
theorem Yee (w:World) (x0 x1 x2 y0 y1 y2:Value):BkS w ((w.alloc (.cells #[x0,x1,x2] 26 (0,0))).alloc (.cells #[y0,y1,y2] 26 (0,0))) w.heap.size (w.heap.size+1) #[x0,x1,x2] #[y0,y1,y2]:=by
 have h1:=heap_alloc_new w (.cells #[x0,x1,x2] 26 (0,0))
 have h2:=heap_alloc_new (w.alloc (.cells #[x0,x1,x2] 26 (0,0))) (.cells #[y0,y1,y2] 26 (0,0))
 rw [World.size_alloc] at h2
 exact ⟨Za (Ga _ _ _) (Ga _ _ _),Zf h1 (Ga _ _ none) (by simp),h2⟩
structure Bk3 (W:World) (a:Nat) (x y z:Value):Prop where
 c0:W.cell? ⟨a,0,none⟩=some x
 c1:W.cell? ⟨a,1,none⟩=some y
 c2:W.cell? ⟨a,2,none⟩=some z
theorem Zl {W:World} {a:Nat} {x y z:Value} (h:W.heap[a]? = some (.cells #[x,y,z] 26 (0,0))):Bk3 W a x y z :=
 ⟨Cq W _ 0 _ _ _ h,Cq W _ 1 _ _ _ h,Cq W _ 2 _ _ _ h⟩
theorem Yok (s t:Txt):((bs s).toList == (bs t).toList)=decide (s=t):=by
 rw [Zcb,Zcb]
 by_cases h:s=t
 · subst h;simp
 · rw [decide_eq_false h,beq_eq_false_iff_ne];exact h
theorem back_any (p q:PrP) (pd pF qd qF:Option Addr) (cd cF ed eF:Nat) (t:Txt) (w:World) (hW:LibW w) (hp:Zhw w p pd pF) (hq:Zhw w q qd qF) (hpa:Ymq p) (hqa:Ymq q) :
 Calls Tryz.prog 7 #[prV p pd pF cd cF,prV q qd qF ed eF,.string (bs t)] w fun e w'=>e = .returned (.bool true)/\w.grownBy w' none:=by
 have PP:=Hq (fun W (g:w.grownBy W none)=>Zok (Zo hp g) hpa (Zs hW g) cd cF)
 have PQ:=Hq (fun W (g:w.grownBy W none)=>Zok (Zo hq g) hqa (Zs hW g) ed eF)
 have CP:=Hq (fun W (g:w.grownBy W none)=>Zhn (Zo hp g) hpa cd cF)
 have KN:=Hq (fun W (g:w.grownBy W none)=>Yck W (Zs hW g))
 have PA:=Hq (fun s W (g:w.grownBy W none)=>Zku s W (Zs hW g))
 have PT:=Hq (fun W (g:w.grownBy W none)=>Zku t W (Zs hW g))
 have PK:=Hq (fun W (g:w.grownBy W none)=>Zo hp g)
 have QK:=Hq (fun W (g:w.grownBy W none)=>Zo hq g)
 have PX:=Hq (fun W (g:w.grownBy W none) (x:PrP) (xd xF:Option Addr) (cx cy:Nat) (h:Zhw W x xd xF) (a:Ymq x)=>Zok h a (Zs hW g) cx cy)
 have PO:=Hq (show Yy p.1 p.2.1.length p.2.2=0->OkP p from fun h=>⟨h,hpa.r⟩)
 have QO:=Hq (show Yy q.1 q.2.1.length q.2.2=0->OkP q from fun h=>⟨h,hqa.r⟩)
 clear hp hq hpa hqa hW
 go_enter Tryz.func7,Tryz.ntmps7
 go_upto_region 1 with fail
 have SS:=Hq (Yee w (.int .i64 p.1) (.slice pd p.2.1.length cd) (.slice pF p.2.2.length cF) (.int .i64 q.1) (.slice qd q.2.1.length ed) (.slice qF q.2.2.length eF))
 generalize (w.alloc (.cells #[.int .i64 p.1,.slice pd p.2.1.length cd,.slice pF p.2.2.length cF] 26 (0,0))).alloc (.cells #[.int .i64 q.1,.slice qd q.2.1.length ed,.slice qF q.2.2.length eF] 26 (0,0))=W0 at SS ⊢
 generalize w.heap.size+1=bq at SS ⊢
 generalize w.heap.size=bp at SS ⊢
 obtain ⟨c0,c1,c2⟩:=Zl SS.out.ba
 obtain ⟨d0,d1,d2⟩:=Zl SS.out.bb
 cases Zdc p with
 | bad y h e h0 h2 =>
   rw [h] at PP
   rw [e] at CP
   have b0:(y == 0)=false:=beq_eq_false_iff_ne.2 h0
   have b2:(y == 2)=false:=beq_eq_false_iff_ne.2 h2
   obtain ⟨t2,f,PQ⟩:∃ (t2:ByteArray) (f:Int),Hid (∀ W,w.grownBy W none->Calls Tryz.prog 18 #[prV q qd qF ed eF] W fun e w'=>e = .returned (.tuple #[.string t2,.int .i64 f])/\W.grownBy w' none):=by
    cases hq:Zba q with
    | ok u=>exact ⟨bs u,0,Hq fun W g=>by have:=PQ.out W g;rw [hq] at this;exact this⟩
    | error y=>exact ⟨⟨#[]⟩,y,Hq fun W g=>by have:=PQ.out W g;rw [hq] at this;exact this⟩
   clear h e h0 h2
   go_upto_region 4 with (first
    | (go_at_call 11;refine (KN.out _ SS.out.gr).mono ?_;rintro e w9 ⟨rfl,hg⟩;have SS:=Hq (Zi SS.out hg);clear c0 c1 c2 d0 d1 d2;obtain ⟨c0,c1,c2⟩:=Zl SS.out.ba;obtain ⟨d0,d1,d2⟩:=Zl SS.out.bb;clear hg)
    | (go_at_call 18;refine (PP.out _ SS.out.gr).mono ?_;rintro e w9 ⟨rfl,hg⟩;have SS:=Hq (Zi SS.out hg);clear c0 c1 c2 d0 d1 d2;obtain ⟨c0,c1,c2⟩:=Zl SS.out.ba;obtain ⟨d0,d1,d2⟩:=Zl SS.out.bb;clear hg))
   go_upto_region 5 with (go_at_call 18;refine (PQ.out _ SS.out.gr).mono ?_;rintro e w9 ⟨rfl,hg⟩;have SS:=Hq (Zi SS.out hg);clear c0 c1 c2 d0 d1 d2;obtain ⟨c0,c1,c2⟩:=Zl SS.out.ba;obtain ⟨d0,d1,d2⟩:=Zl SS.out.bb;clear hg)
   go_upto_region 13 with (go_at_call 23;refine (CP.out _ SS.out.gr).mono ?_;rintro e w9 ⟨rfl,hg⟩;have SS:=Hq (Zi SS.out hg);clear c0 c1 c2 d0 d1 d2;obtain ⟨c0,c1,c2⟩:=Zl SS.out.ba;obtain ⟨d0,d1,d2⟩:=Zl SS.out.bb;clear hg)
   cases hr:Zae t with
   | error yn =>
     obtain ⟨y,n⟩:=yn
     rw [hr] at PT
     clear hr
     go_upto_region 14 with (go_at_call 12;refine (PT.out _ SS.out.gr).mono ?_;intro e w5 hp5;obtain ⟨a5,rfl,hg,-⟩:=Zvm hp5;have SS:=Hq (Zi SS.out hg);clear c0 c1 c2 d0 d1 d2;obtain ⟨c0,c1,c2⟩:=Zl SS.out.ba;obtain ⟨d0,d1,d2⟩:=Zl SS.out.bb;clear hp5 hg)
     have X0:=Hq (heap_alloc_new w5 (.cells #[.int .i64 0,.slice none 0 0,.slice none 0 0] 26 (0,0)))
     have SS:=Hq (Zi SS.out (Ga w5 (.cells #[.int .i64 0,.slice none 0 0,.slice none 0 0] 26 (0,0)) none))
     generalize w5.alloc (.cells #[.int .i64 0,.slice none 0 0,.slice none 0 0] 26 (0,0))=w6 at X0 SS ⊢
     generalize w5.heap.size=bx at X0 ⊢
     clear c0 c1 c2 d0 d1 d2
     obtain ⟨x0,x1,x2⟩:=Zl X0.out
     go_wp2_with (go_at_call 15;refine (Zcp (P:=(0,[],[])) (Q:=(0,[],[])) (Zcg _ none none) (Zcg _ none none) (by decide) (by intro x hx;cases hx) 0 0 0 0).mono ?_;rintro e w9 ⟨rfl,hg⟩;have SS:=Hq (Zi SS.out hg);clear hg)
     go_ret
     exact ⟨rfl,SS.out.gr⟩
   | ok x =>
     have XO:=Hq (Zof hr)
     rw [hr] at PT
     clear hr
     go_upto_region 14 with (go_at_call 12;refine (PT.out _ SS.out.gr).mono ?_;intro e w5 hp5;obtain ⟨xd,cx,xF,cy,rfl,hg,hin⟩:=Zax hp5;have XI:=Hq hin;have SS:=Hq (Zi SS.out hg);clear c0 c1 c2 d0 d1 d2;obtain ⟨c0,c1,c2⟩:=Zl SS.out.ba;obtain ⟨d0,d1,d2⟩:=Zl SS.out.bb;clear hp5 hg hin)
     have X0:=Hq (heap_alloc_new w5 (.cells #[.int .i64 x.1,.slice xd x.2.1.length cx,.slice xF x.2.2.length cy] 26 (0,0)))
     have XI:=Hq (Zo XI.out (Ga w5 (.cells #[.int .i64 x.1,.slice xd x.2.1.length cx,.slice xF x.2.2.length cy] 26 (0,0)) none))
     have SS:=Hq (Zi SS.out (Ga w5 (.cells #[.int .i64 x.1,.slice xd x.2.1.length cx,.slice xF x.2.2.length cy] 26 (0,0)) none))
     generalize w5.alloc (.cells #[.int .i64 x.1,.slice xd x.2.1.length cx,.slice xF x.2.2.length cy] 26 (0,0))=w6 at X0 XI SS ⊢
     generalize w5.heap.size=bx at X0 ⊢
     clear c0 c1 c2 d0 d1 d2
     obtain ⟨x0,x1,x2⟩:=Zl X0.out
     have PXX:=Hq (fun W (g:w.grownBy W none) (h:Zhw W x xd xF)=>PX.out W g x xd xF cx cy h (Zeu XO.out))
     have CXX:=Hq (fun W (h:Zhw W x xd xF)=>Zhn h (Zeu XO.out) cx cy)
     rw [XO.out.e] at CXX
     have XE:=Hq XO.out.e
     cases Zdc x with
     | bad y h e h0 h2=>exact absurd (e.symm.trans XE.out) h0
     | long h e =>
       rw [h] at PXX
       clear h e
       go_wp2_with (first
        | (go_at_call 18;refine (PXX.out _ SS.out.gr XI.out).mono ?_;rintro e w9 ⟨rfl,hg⟩;have SS:=Hq (Zi SS.out hg);have X0:=Hq (Zf X0.out hg (by simp));have XI:=Hq (Zo XI.out hg);clear x0 x1 x2;obtain ⟨x0,x1,x2⟩:=Zl X0.out;clear hg)
        | (go_at_call 23;refine (CXX.out _ XI.out).mono ?_;rintro e w9 ⟨rfl,hg⟩;have SS:=Hq (Zi SS.out hg);have X0:=Hq (Zf X0.out hg (by simp));have XI:=Hq (Zo XI.out hg);clear x0 x1 x2;obtain ⟨x0,x1,x2⟩:=Zl X0.out;clear hg))
       go_ret
       exact ⟨rfl,SS.out.gr⟩
     | ok h e l =>
       rw [h] at PXX
       have PU:=Hq (fun W (g:w.grownBy W none)=>PA.out (Jj x) W g)
       rw [Zau XO.out l] at PU
       clear h e l
       generalize Jj x=u at PXX PU
       go_upto_region 20 with (first
        | (go_at_call 18;refine (PXX.out _ SS.out.gr XI.out).mono ?_;rintro e w9 ⟨rfl,hg⟩;have SS:=Hq (Zi SS.out hg);have X0:=Hq (Zf X0.out hg (by simp));have XI:=Hq (Zo XI.out hg);clear x0 x1 x2;obtain ⟨x0,x1,x2⟩:=Zl X0.out;clear hg)
        | (go_at_call 12;refine (PU.out _ SS.out.gr).mono ?_;intro e w8 hp8;obtain ⟨zd,cz,zF,cy8,rfl,hg,hin⟩:=Zax hp8;have ZI:=Hq hin;have SS:=Hq (Zi SS.out hg);have X0:=Hq (Zf X0.out hg (by simp));have XI:=Hq (Zo XI.out hg);clear x0 x1 x2;obtain ⟨x0,x1,x2⟩:=Zl X0.out;clear hp8 hg hin))
       have hg:=Ga w8 (.cells #[.int .i64 x.1,.slice zd x.2.1.length cz,.slice zF x.2.2.length cy8] 26 (0,0)) none
       have Z0:=Hq (heap_alloc_new w8 (.cells #[.int .i64 x.1,.slice zd x.2.1.length cz,.slice zF x.2.2.length cy8] 26 (0,0)))
       have ZI:=Hq (Zo ZI.out hg)
       have XI:=Hq (Zo XI.out hg)
       have X0:=Hq (Zf X0.out hg (by simp))
       have SS:=Hq (Zi SS.out hg)
       clear hg x0 x1 x2
       generalize w8.alloc (.cells #[.int .i64 x.1,.slice zd x.2.1.length cz,.slice zF x.2.2.length cy8] 26 (0,0))=w10 at X0 XI SS Z0 ZI ⊢
       generalize w8.heap.size=bz at Z0 ⊢
       obtain ⟨x0,x1,x2⟩:=Zl X0.out
       obtain ⟨z0,z1,z2⟩:=Zl Z0.out
       have SM:=Hq (fun W (h:Zhw W x xd xF) (g:Zhw W x zd zF)=>Zcp h g (Zbf XE.out).1 (Zbf XE.out).2 cx cy cz cy8)
       rw [Zas] at SM
       go_wp2_with (go_at_call 15;refine (SM.out _ XI.out ZI.out).mono ?_;rintro e w9 ⟨rfl,hg⟩;have SS:=Hq (Zi SS.out hg);clear hg)
       go_ret
       exact ⟨rfl,SS.out.gr⟩
 | long h e =>
   rw [h] at PP
   rw [e] at CP
   obtain ⟨t2,f,PQ⟩:∃ (t2:ByteArray) (f:Int),Hid (∀ W,w.grownBy W none->Calls Tryz.prog 18 #[prV q qd qF ed eF] W fun e w'=>e = .returned (.tuple #[.string t2,.int .i64 f])/\W.grownBy w' none):=by
    cases hq:Zba q with
    | ok u=>exact ⟨bs u,0,Hq fun W g=>by have:=PQ.out W g;rw [hq] at this;exact this⟩
    | error y=>exact ⟨⟨#[]⟩,y,Hq fun W g=>by have:=PQ.out W g;rw [hq] at this;exact this⟩
   clear h e
   go_upto_region 4 with (first
    | (go_at_call 11;refine (KN.out _ SS.out.gr).mono ?_;rintro e w9 ⟨rfl,hg⟩;have SS:=Hq (Zi SS.out hg);clear c0 c1 c2 d0 d1 d2;obtain ⟨c0,c1,c2⟩:=Zl SS.out.ba;obtain ⟨d0,d1,d2⟩:=Zl SS.out.bb;clear hg)
    | (go_at_call 18;refine (PP.out _ SS.out.gr).mono ?_;rintro e w9 ⟨rfl,hg⟩;have SS:=Hq (Zi SS.out hg);clear c0 c1 c2 d0 d1 d2;obtain ⟨c0,c1,c2⟩:=Zl SS.out.ba;obtain ⟨d0,d1,d2⟩:=Zl SS.out.bb;clear hg))
   go_upto_region 5 with (go_at_call 18;refine (PQ.out _ SS.out.gr).mono ?_;rintro e w9 ⟨rfl,hg⟩;have SS:=Hq (Zi SS.out hg);clear c0 c1 c2 d0 d1 d2;obtain ⟨c0,c1,c2⟩:=Zl SS.out.ba;obtain ⟨d0,d1,d2⟩:=Zl SS.out.bb;clear hg)
   go_upto_region 13 with (go_at_call 23;refine (CP.out _ SS.out.gr).mono ?_;rintro e w9 ⟨rfl,hg⟩;have SS:=Hq (Zi SS.out hg);clear c0 c1 c2 d0 d1 d2;obtain ⟨c0,c1,c2⟩:=Zl SS.out.ba;obtain ⟨d0,d1,d2⟩:=Zl SS.out.bb;clear hg)
   cases hr:Zae t with
   | error yn =>
     obtain ⟨y,n⟩:=yn
     rw [hr] at PT
     clear hr
     go_upto_region 14 with (go_at_call 12;refine (PT.out _ SS.out.gr).mono ?_;intro e w5 hp5;obtain ⟨a5,rfl,hg,-⟩:=Zvm hp5;have SS:=Hq (Zi SS.out hg);clear c0 c1 c2 d0 d1 d2;obtain ⟨c0,c1,c2⟩:=Zl SS.out.ba;obtain ⟨d0,d1,d2⟩:=Zl SS.out.bb;clear hp5 hg)
     have X0:=Hq (heap_alloc_new w5 (.cells #[.int .i64 0,.slice none 0 0,.slice none 0 0] 26 (0,0)))
     have SS:=Hq (Zi SS.out (Ga w5 (.cells #[.int .i64 0,.slice none 0 0,.slice none 0 0] 26 (0,0)) none))
     generalize w5.alloc (.cells #[.int .i64 0,.slice none 0 0,.slice none 0 0] 26 (0,0))=w6 at X0 SS ⊢
     generalize w5.heap.size=bx at X0 ⊢
     clear c0 c1 c2 d0 d1 d2
     obtain ⟨x0,x1,x2⟩:=Zl X0.out
     go_wp2_with (go_at_call 15;refine (Zcp (P:=(0,[],[])) (Q:=(0,[],[])) (Zcg _ none none) (Zcg _ none none) (by decide) (by intro x hx;cases hx) 0 0 0 0).mono ?_;rintro e w9 ⟨rfl,hg⟩;have SS:=Hq (Zi SS.out hg);clear hg)
     go_ret
     exact ⟨rfl,SS.out.gr⟩
   | ok x =>
     have XO:=Hq (Zof hr)
     rw [hr] at PT
     clear hr
     go_upto_region 14 with (go_at_call 12;refine (PT.out _ SS.out.gr).mono ?_;intro e w5 hp5;obtain ⟨xd,cx,xF,cy,rfl,hg,hin⟩:=Zax hp5;have XI:=Hq hin;have SS:=Hq (Zi SS.out hg);clear c0 c1 c2 d0 d1 d2;obtain ⟨c0,c1,c2⟩:=Zl SS.out.ba;obtain ⟨d0,d1,d2⟩:=Zl SS.out.bb;clear hp5 hg hin)
     have X0:=Hq (heap_alloc_new w5 (.cells #[.int .i64 x.1,.slice xd x.2.1.length cx,.slice xF x.2.2.length cy] 26 (0,0)))
     have XI:=Hq (Zo XI.out (Ga w5 (.cells #[.int .i64 x.1,.slice xd x.2.1.length cx,.slice xF x.2.2.length cy] 26 (0,0)) none))
     have SS:=Hq (Zi SS.out (Ga w5 (.cells #[.int .i64 x.1,.slice xd x.2.1.length cx,.slice xF x.2.2.length cy] 26 (0,0)) none))
     generalize w5.alloc (.cells #[.int .i64 x.1,.slice xd x.2.1.length cx,.slice xF x.2.2.length cy] 26 (0,0))=w6 at X0 XI SS ⊢
     generalize w5.heap.size=bx at X0 ⊢
     clear c0 c1 c2 d0 d1 d2
     obtain ⟨x0,x1,x2⟩:=Zl X0.out
     have PXX:=Hq (fun W (g:w.grownBy W none) (h:Zhw W x xd xF)=>PX.out W g x xd xF cx cy h (Zeu XO.out))
     have CXX:=Hq (fun W (h:Zhw W x xd xF)=>Zhn h (Zeu XO.out) cx cy)
     rw [XO.out.e] at CXX
     have XE:=Hq XO.out.e
     cases Zdc x with
     | bad y h e h0 h2=>exact absurd (e.symm.trans XE.out) h0
     | long h e =>
       rw [h] at PXX
       clear h e
       go_wp2_with (first
        | (go_at_call 18;refine (PXX.out _ SS.out.gr XI.out).mono ?_;rintro e w9 ⟨rfl,hg⟩;have SS:=Hq (Zi SS.out hg);have X0:=Hq (Zf X0.out hg (by simp));have XI:=Hq (Zo XI.out hg);clear x0 x1 x2;obtain ⟨x0,x1,x2⟩:=Zl X0.out;clear hg)
        | (go_at_call 23;refine (CXX.out _ XI.out).mono ?_;rintro e w9 ⟨rfl,hg⟩;have SS:=Hq (Zi SS.out hg);have X0:=Hq (Zf X0.out hg (by simp));have XI:=Hq (Zo XI.out hg);clear x0 x1 x2;obtain ⟨x0,x1,x2⟩:=Zl X0.out;clear hg))
       go_ret
       exact ⟨rfl,SS.out.gr⟩
     | ok h e l =>
       rw [h] at PXX
       have PU:=Hq (fun W (g:w.grownBy W none)=>PA.out (Jj x) W g)
       rw [Zau XO.out l] at PU
       clear h e l
       generalize Jj x=u at PXX PU
       go_upto_region 20 with (first
        | (go_at_call 18;refine (PXX.out _ SS.out.gr XI.out).mono ?_;rintro e w9 ⟨rfl,hg⟩;have SS:=Hq (Zi SS.out hg);have X0:=Hq (Zf X0.out hg (by simp));have XI:=Hq (Zo XI.out hg);clear x0 x1 x2;obtain ⟨x0,x1,x2⟩:=Zl X0.out;clear hg)
        | (go_at_call 12;refine (PU.out _ SS.out.gr).mono ?_;intro e w8 hp8;obtain ⟨zd,cz,zF,cy8,rfl,hg,hin⟩:=Zax hp8;have ZI:=Hq hin;have SS:=Hq (Zi SS.out hg);have X0:=Hq (Zf X0.out hg (by simp));have XI:=Hq (Zo XI.out hg);clear x0 x1 x2;obtain ⟨x0,x1,x2⟩:=Zl X0.out;clear hp8 hg hin))
       have hg:=Ga w8 (.cells #[.int .i64 x.1,.slice zd x.2.1.length cz,.slice zF x.2.2.length cy8] 26 (0,0)) none
       have Z0:=Hq (heap_alloc_new w8 (.cells #[.int .i64 x.1,.slice zd x.2.1.length cz,.slice zF x.2.2.length cy8] 26 (0,0)))
       have ZI:=Hq (Zo ZI.out hg)
       have XI:=Hq (Zo XI.out hg)
       have X0:=Hq (Zf X0.out hg (by simp))
       have SS:=Hq (Zi SS.out hg)
       clear hg x0 x1 x2
       generalize w8.alloc (.cells #[.int .i64 x.1,.slice zd x.2.1.length cz,.slice zF x.2.2.length cy8] 26 (0,0))=w10 at X0 XI SS Z0 ZI ⊢
       generalize w8.heap.size=bz at Z0 ⊢
       obtain ⟨x0,x1,x2⟩:=Zl X0.out
       obtain ⟨z0,z1,z2⟩:=Zl Z0.out
       have SM:=Hq (fun W (h:Zhw W x xd xF) (g:Zhw W x zd zF)=>Zcp h g (Zbf XE.out).1 (Zbf XE.out).2 cx cy cz cy8)
       rw [Zas] at SM
       go_wp2_with (go_at_call 15;refine (SM.out _ XI.out ZI.out).mono ?_;rintro e w9 ⟨rfl,hg⟩;have SS:=Hq (Zi SS.out hg);clear hg)
       go_ret
       exact ⟨rfl,SS.out.gr⟩
 | ok h e l =>
   rw [h] at PP
   rw [e] at CP
   have PE:=Hq e
   have PS:=Hq (fun W (g:w.grownBy W none)=>PA.out (Jj p) W g)
   rw [Zau (PO.out e) l] at PS
   have hst:(∃ u,Zba q = .ok u/\((bs (Jj p)).toList == (bs u).toList)=Zed p q)\/∃ y,Zba q = .error y/\y≠0:=by
    cases Zdc q with
    | ok h' e' l' =>
      refine Or.inl ⟨_,h',?_⟩
      rw [Yok,Bool.eq_iff_iff,decide_eq_true_eq,Zie]
      exact ⟨fun he=>Ybi (PO.out e) (QO.out e') l he,fun he=>by rw [he]⟩
    | long h' e'=>exact Or.inr ⟨2,h',by decide⟩
    | bad y h' e' h0 h2=>exact Or.inr ⟨y,h',h0⟩
   clear h e l
   generalize Jj p=s at PP PS hst
   generalize hbb:Zed p q=bb at hst
   have SPQ:=Hq (fun W (g:w.grownBy W none)=>Zcp (PK.out W g) (QK.out W g) (Zbf PE.out).1 (Zbf PE.out).2 cd cF ed eF)
   rw [hbb] at SPQ
   clear hbb
   have SPP:=Hq (fun W (g:w.grownBy W none) (xd xF:Option Addr) (cx cy:Nat) (h:Zhw W p xd xF)=>Zcp h (PK.out W g) (Zbf PE.out).1 (Zbf PE.out).2 cx cy cd cF)
   rw [Zas] at SPP
   rcases hst with ⟨u,hu,hst⟩|⟨y,hu,hy⟩
   · rw [hu] at PQ
     clear hu
     go_upto_region 4 with (first
      | (go_at_call 11;refine (KN.out _ SS.out.gr).mono ?_;rintro e w9 ⟨rfl,hg⟩;have SS:=Hq (Zi SS.out hg);clear c0 c1 c2 d0 d1 d2;obtain ⟨c0,c1,c2⟩:=Zl SS.out.ba;obtain ⟨d0,d1,d2⟩:=Zl SS.out.bb;clear hg)
      | (go_at_call 18;refine (PP.out _ SS.out.gr).mono ?_;rintro e w9 ⟨rfl,hg⟩;have SS:=Hq (Zi SS.out hg);clear c0 c1 c2 d0 d1 d2;obtain ⟨c0,c1,c2⟩:=Zl SS.out.ba;obtain ⟨d0,d1,d2⟩:=Zl SS.out.bb;clear hg))
     go_upto_region 5 with (go_at_call 18;refine (PQ.out _ SS.out.gr).mono ?_;rintro e w9 ⟨rfl,hg⟩;have SS:=Hq (Zi SS.out hg);clear c0 c1 c2 d0 d1 d2;obtain ⟨c0,c1,c2⟩:=Zl SS.out.ba;obtain ⟨d0,d1,d2⟩:=Zl SS.out.bb;clear hg)
     go_upto_region 9 with (first
      | (go_at_call 23;refine (CP.out _ SS.out.gr).mono ?_;rintro e w9 ⟨rfl,hg⟩;have SS:=Hq (Zi SS.out hg);clear c0 c1 c2 d0 d1 d2;obtain ⟨c0,c1,c2⟩:=Zl SS.out.ba;obtain ⟨d0,d1,d2⟩:=Zl SS.out.bb;clear hg)
      | (go_at_call 12;refine (PS.out _ SS.out.gr).mono ?_;intro e w8 hp8;obtain ⟨sd,cs,sF,cs2,rfl,hg,hin⟩:=Zax hp8;have SI:=Hq hin;have SS:=Hq (Zi SS.out hg);clear c0 c1 c2 d0 d1 d2;obtain ⟨c0,c1,c2⟩:=Zl SS.out.ba;obtain ⟨d0,d1,d2⟩:=Zl SS.out.bb;clear hp8 hg hin))
     have hg:=Ga w8 (.cells #[.int .i64 p.1,.slice sd p.2.1.length cs,.slice sF p.2.2.length cs2] 26 (0,0)) none
     have S0:=Hq (heap_alloc_new w8 (.cells #[.int .i64 p.1,.slice sd p.2.1.length cs,.slice sF p.2.2.length cs2] 26 (0,0)))
     have SI:=Hq (Zo SI.out hg)
     have SS:=Hq (Zi SS.out hg)
     clear hg c0 c1 c2 d0 d1 d2
     generalize w8.alloc (.cells #[.int .i64 p.1,.slice sd p.2.1.length cs,.slice sF p.2.2.length cs2] 26 (0,0))=w10 at SS S0 SI ⊢
     generalize w8.heap.size=bs0 at S0 ⊢
     obtain ⟨c0,c1,c2⟩:=Zl SS.out.ba
     obtain ⟨d0,d1,d2⟩:=Zl SS.out.bb
     obtain ⟨s0,s1,s2⟩:=Zl S0.out
     go_upto_region 11 with (go_at_call 15;refine (SPP.out _ SS.out.gr sd sF cs cs2 SI.out).mono ?_;rintro e w9 ⟨rfl,hg⟩;clear s0 s1 s2;have SS:=Hq (Zi SS.out hg);clear c0 c1 c2 d0 d1 d2;obtain ⟨c0,c1,c2⟩:=Zl SS.out.ba;obtain ⟨d0,d1,d2⟩:=Zl SS.out.bb;clear hg)
     go_upto_region 13 with (go_at_call 15;refine (SPQ.out _ SS.out.gr).mono ?_;rintro e w9 ⟨rfl,hg⟩;have SS:=Hq (Zi SS.out hg);clear c0 c1 c2 d0 d1 d2;obtain ⟨c0,c1,c2⟩:=Zl SS.out.ba;obtain ⟨d0,d1,d2⟩:=Zl SS.out.bb;clear hg)
     clear hst
     cases hr:Zae t with
     | error yn =>
       obtain ⟨y,n⟩:=yn
       rw [hr] at PT
       clear hr
       go_upto_region 14 with (go_at_call 12;refine (PT.out _ SS.out.gr).mono ?_;intro e w5 hp5;obtain ⟨a5,rfl,hg,-⟩:=Zvm hp5;have SS:=Hq (Zi SS.out hg);clear c0 c1 c2 d0 d1 d2;obtain ⟨c0,c1,c2⟩:=Zl SS.out.ba;obtain ⟨d0,d1,d2⟩:=Zl SS.out.bb;clear hp5 hg)
       have X0:=Hq (heap_alloc_new w5 (.cells #[.int .i64 0,.slice none 0 0,.slice none 0 0] 26 (0,0)))
       have SS:=Hq (Zi SS.out (Ga w5 (.cells #[.int .i64 0,.slice none 0 0,.slice none 0 0] 26 (0,0)) none))
       generalize w5.alloc (.cells #[.int .i64 0,.slice none 0 0,.slice none 0 0] 26 (0,0))=w6 at X0 SS ⊢
       generalize w5.heap.size=bx at X0 ⊢
       clear c0 c1 c2 d0 d1 d2
       obtain ⟨x0,x1,x2⟩:=Zl X0.out
       go_wp2_with (go_at_call 15;refine (Zcp (P:=(0,[],[])) (Q:=(0,[],[])) (Zcg _ none none) (Zcg _ none none) (by decide) (by intro x hx;cases hx) 0 0 0 0).mono ?_;rintro e w9 ⟨rfl,hg⟩;have SS:=Hq (Zi SS.out hg);clear hg)
       go_ret
       exact ⟨rfl,SS.out.gr⟩
     | ok x =>
       have XO:=Hq (Zof hr)
       rw [hr] at PT
       clear hr
       go_upto_region 14 with (go_at_call 12;refine (PT.out _ SS.out.gr).mono ?_;intro e w5 hp5;obtain ⟨xd,cx,xF,cy,rfl,hg,hin⟩:=Zax hp5;have XI:=Hq hin;have SS:=Hq (Zi SS.out hg);clear c0 c1 c2 d0 d1 d2;obtain ⟨c0,c1,c2⟩:=Zl SS.out.ba;obtain ⟨d0,d1,d2⟩:=Zl SS.out.bb;clear hp5 hg hin)
       have X0:=Hq (heap_alloc_new w5 (.cells #[.int .i64 x.1,.slice xd x.2.1.length cx,.slice xF x.2.2.length cy] 26 (0,0)))
       have XI:=Hq (Zo XI.out (Ga w5 (.cells #[.int .i64 x.1,.slice xd x.2.1.length cx,.slice xF x.2.2.length cy] 26 (0,0)) none))
       have SS:=Hq (Zi SS.out (Ga w5 (.cells #[.int .i64 x.1,.slice xd x.2.1.length cx,.slice xF x.2.2.length cy] 26 (0,0)) none))
       generalize w5.alloc (.cells #[.int .i64 x.1,.slice xd x.2.1.length cx,.slice xF x.2.2.length cy] 26 (0,0))=w6 at X0 XI SS ⊢
       generalize w5.heap.size=bx at X0 ⊢
       clear c0 c1 c2 d0 d1 d2
       obtain ⟨x0,x1,x2⟩:=Zl X0.out
       have PXX:=Hq (fun W (g:w.grownBy W none) (h:Zhw W x xd xF)=>PX.out W g x xd xF cx cy h (Zeu XO.out))
       have CXX:=Hq (fun W (h:Zhw W x xd xF)=>Zhn h (Zeu XO.out) cx cy)
       rw [XO.out.e] at CXX
       have XE:=Hq XO.out.e
       cases Zdc x with
       | bad y h e h0 h2=>exact absurd (e.symm.trans XE.out) h0
       | long h e =>
         rw [h] at PXX
         clear h e
         go_wp2_with (first
          | (go_at_call 18;refine (PXX.out _ SS.out.gr XI.out).mono ?_;rintro e w9 ⟨rfl,hg⟩;have SS:=Hq (Zi SS.out hg);have X0:=Hq (Zf X0.out hg (by simp));have XI:=Hq (Zo XI.out hg);clear x0 x1 x2;obtain ⟨x0,x1,x2⟩:=Zl X0.out;clear hg)
          | (go_at_call 23;refine (CXX.out _ XI.out).mono ?_;rintro e w9 ⟨rfl,hg⟩;have SS:=Hq (Zi SS.out hg);have X0:=Hq (Zf X0.out hg (by simp));have XI:=Hq (Zo XI.out hg);clear x0 x1 x2;obtain ⟨x0,x1,x2⟩:=Zl X0.out;clear hg))
         go_ret
         exact ⟨rfl,SS.out.gr⟩
       | ok h e l =>
         rw [h] at PXX
         have PU:=Hq (fun W (g:w.grownBy W none)=>PA.out (Jj x) W g)
         rw [Zau XO.out l] at PU
         clear h e l
         generalize Jj x=u at PXX PU
         go_upto_region 20 with (first
          | (go_at_call 18;refine (PXX.out _ SS.out.gr XI.out).mono ?_;rintro e w9 ⟨rfl,hg⟩;have SS:=Hq (Zi SS.out hg);have X0:=Hq (Zf X0.out hg (by simp));have XI:=Hq (Zo XI.out hg);clear x0 x1 x2;obtain ⟨x0,x1,x2⟩:=Zl X0.out;clear hg)
          | (go_at_call 12;refine (PU.out _ SS.out.gr).mono ?_;intro e w8 hp8;obtain ⟨zd,cz,zF,cy8,rfl,hg,hin⟩:=Zax hp8;have ZI:=Hq hin;have SS:=Hq (Zi SS.out hg);have X0:=Hq (Zf X0.out hg (by simp));have XI:=Hq (Zo XI.out hg);clear x0 x1 x2;obtain ⟨x0,x1,x2⟩:=Zl X0.out;clear hp8 hg hin))
         have hg:=Ga w8 (.cells #[.int .i64 x.1,.slice zd x.2.1.length cz,.slice zF x.2.2.length cy8] 26 (0,0)) none
         have Z0:=Hq (heap_alloc_new w8 (.cells #[.int .i64 x.1,.slice zd x.2.1.length cz,.slice zF x.2.2.length cy8] 26 (0,0)))
         have ZI:=Hq (Zo ZI.out hg)
         have XI:=Hq (Zo XI.out hg)
         have X0:=Hq (Zf X0.out hg (by simp))
         have SS:=Hq (Zi SS.out hg)
         clear hg x0 x1 x2
         generalize w8.alloc (.cells #[.int .i64 x.1,.slice zd x.2.1.length cz,.slice zF x.2.2.length cy8] 26 (0,0))=w10 at X0 XI SS Z0 ZI ⊢
         generalize w8.heap.size=bz at Z0 ⊢
         obtain ⟨x0,x1,x2⟩:=Zl X0.out
         obtain ⟨z0,z1,z2⟩:=Zl Z0.out
         have SM:=Hq (fun W (h:Zhw W x xd xF) (g:Zhw W x zd zF)=>Zcp h g (Zbf XE.out).1 (Zbf XE.out).2 cx cy cz cy8)
         rw [Zas] at SM
         go_wp2_with (go_at_call 15;refine (SM.out _ XI.out ZI.out).mono ?_;rintro e w9 ⟨rfl,hg⟩;have SS:=Hq (Zi SS.out hg);clear hg)
         go_ret
         exact ⟨rfl,SS.out.gr⟩
   · rw [hu] at PQ
     have y0:(y == 0)=false:=beq_eq_false_iff_ne.2 hy
     clear hu hy
     go_upto_region 4 with (first
      | (go_at_call 11;refine (KN.out _ SS.out.gr).mono ?_;rintro e w9 ⟨rfl,hg⟩;have SS:=Hq (Zi SS.out hg);clear c0 c1 c2 d0 d1 d2;obtain ⟨c0,c1,c2⟩:=Zl SS.out.ba;obtain ⟨d0,d1,d2⟩:=Zl SS.out.bb;clear hg)
      | (go_at_call 18;refine (PP.out _ SS.out.gr).mono ?_;rintro e w9 ⟨rfl,hg⟩;have SS:=Hq (Zi SS.out hg);clear c0 c1 c2 d0 d1 d2;obtain ⟨c0,c1,c2⟩:=Zl SS.out.ba;obtain ⟨d0,d1,d2⟩:=Zl SS.out.bb;clear hg))
     go_upto_region 5 with (go_at_call 18;refine (PQ.out _ SS.out.gr).mono ?_;rintro e w9 ⟨rfl,hg⟩;have SS:=Hq (Zi SS.out hg);clear c0 c1 c2 d0 d1 d2;obtain ⟨c0,c1,c2⟩:=Zl SS.out.ba;obtain ⟨d0,d1,d2⟩:=Zl SS.out.bb;clear hg)
     go_upto_region 9 with (first
      | (go_at_call 23;refine (CP.out _ SS.out.gr).mono ?_;rintro e w9 ⟨rfl,hg⟩;have SS:=Hq (Zi SS.out hg);clear c0 c1 c2 d0 d1 d2;obtain ⟨c0,c1,c2⟩:=Zl SS.out.ba;obtain ⟨d0,d1,d2⟩:=Zl SS.out.bb;clear hg)
      | (go_at_call 12;refine (PS.out _ SS.out.gr).mono ?_;intro e w8 hp8;obtain ⟨sd,cs,sF,cs2,rfl,hg,hin⟩:=Zax hp8;have SI:=Hq hin;have SS:=Hq (Zi SS.out hg);clear c0 c1 c2 d0 d1 d2;obtain ⟨c0,c1,c2⟩:=Zl SS.out.ba;obtain ⟨d0,d1,d2⟩:=Zl SS.out.bb;clear hp8 hg hin))
     have hg:=Ga w8 (.cells #[.int .i64 p.1,.slice sd p.2.1.length cs,.slice sF p.2.2.length cs2] 26 (0,0)) none
     have S0:=Hq (heap_alloc_new w8 (.cells #[.int .i64 p.1,.slice sd p.2.1.length cs,.slice sF p.2.2.length cs2] 26 (0,0)))
     have SI:=Hq (Zo SI.out hg)
     have SS:=Hq (Zi SS.out hg)
     clear hg c0 c1 c2 d0 d1 d2
     generalize w8.alloc (.cells #[.int .i64 p.1,.slice sd p.2.1.length cs,.slice sF p.2.2.length cs2] 26 (0,0))=w10 at SS S0 SI ⊢
     generalize w8.heap.size=bs0 at S0 ⊢
     obtain ⟨c0,c1,c2⟩:=Zl SS.out.ba
     obtain ⟨d0,d1,d2⟩:=Zl SS.out.bb
     obtain ⟨s0,s1,s2⟩:=Zl S0.out
     go_upto_region 11 with (go_at_call 15;refine (SPP.out _ SS.out.gr sd sF cs cs2 SI.out).mono ?_;rintro e w9 ⟨rfl,hg⟩;clear s0 s1 s2;have SS:=Hq (Zi SS.out hg);clear c0 c1 c2 d0 d1 d2;obtain ⟨c0,c1,c2⟩:=Zl SS.out.ba;obtain ⟨d0,d1,d2⟩:=Zl SS.out.bb;clear hg)
     go_upto_region 13 with fail
     cases hr:Zae t with
     | error yn =>
       obtain ⟨y,n⟩:=yn
       rw [hr] at PT
       clear hr
       go_upto_region 14 with (go_at_call 12;refine (PT.out _ SS.out.gr).mono ?_;intro e w5 hp5;obtain ⟨a5,rfl,hg,-⟩:=Zvm hp5;have SS:=Hq (Zi SS.out hg);clear c0 c1 c2 d0 d1 d2;obtain ⟨c0,c1,c2⟩:=Zl SS.out.ba;obtain ⟨d0,d1,d2⟩:=Zl SS.out.bb;clear hp5 hg)
       have X0:=Hq (heap_alloc_new w5 (.cells #[.int .i64 0,.slice none 0 0,.slice none 0 0] 26 (0,0)))
       have SS:=Hq (Zi SS.out (Ga w5 (.cells #[.int .i64 0,.slice none 0 0,.slice none 0 0] 26 (0,0)) none))
       generalize w5.alloc (.cells #[.int .i64 0,.slice none 0 0,.slice none 0 0] 26 (0,0))=w6 at X0 SS ⊢
       generalize w5.heap.size=bx at X0 ⊢
       clear c0 c1 c2 d0 d1 d2
       obtain ⟨x0,x1,x2⟩:=Zl X0.out
       go_wp2_with (go_at_call 15;refine (Zcp (P:=(0,[],[])) (Q:=(0,[],[])) (Zcg _ none none) (Zcg _ none none) (by decide) (by intro x hx;cases hx) 0 0 0 0).mono ?_;rintro e w9 ⟨rfl,hg⟩;have SS:=Hq (Zi SS.out hg);clear hg)
       go_ret
       exact ⟨rfl,SS.out.gr⟩
     | ok x =>
       have XO:=Hq (Zof hr)
       rw [hr] at PT
       clear hr
       go_upto_region 14 with (go_at_call 12;refine (PT.out _ SS.out.gr).mono ?_;intro e w5 hp5;obtain ⟨xd,cx,xF,cy,rfl,hg,hin⟩:=Zax hp5;have XI:=Hq hin;have SS:=Hq (Zi SS.out hg);clear c0 c1 c2 d0 d1 d2;obtain ⟨c0,c1,c2⟩:=Zl SS.out.ba;obtain ⟨d0,d1,d2⟩:=Zl SS.out.bb;clear hp5 hg hin)
       have X0:=Hq (heap_alloc_new w5 (.cells #[.int .i64 x.1,.slice xd x.2.1.length cx,.slice xF x.2.2.length cy] 26 (0,0)))
       have XI:=Hq (Zo XI.out (Ga w5 (.cells #[.int .i64 x.1,.slice xd x.2.1.length cx,.slice xF x.2.2.length cy] 26 (0,0)) none))
       have SS:=Hq (Zi SS.out (Ga w5 (.cells #[.int .i64 x.1,.slice xd x.2.1.length cx,.slice xF x.2.2.length cy] 26 (0,0)) none))
       generalize w5.alloc (.cells #[.int .i64 x.1,.slice xd x.2.1.length cx,.slice xF x.2.2.length cy] 26 (0,0))=w6 at X0 XI SS ⊢
       generalize w5.heap.size=bx at X0 ⊢
       clear c0 c1 c2 d0 d1 d2
       obtain ⟨x0,x1,x2⟩:=Zl X0.out
       have PXX:=Hq (fun W (g:w.grownBy W none) (h:Zhw W x xd xF)=>PX.out W g x xd xF cx cy h (Zeu XO.out))
       have CXX:=Hq (fun W (h:Zhw W x xd xF)=>Zhn h (Zeu XO.out) cx cy)
       rw [XO.out.e] at CXX
       have XE:=Hq XO.out.e
       cases Zdc x with
       | bad y h e h0 h2=>exact absurd (e.symm.trans XE.out) h0
       | long h e =>
         rw [h] at PXX
         clear h e
         go_wp2_with (first
          | (go_at_call 18;refine (PXX.out _ SS.out.gr XI.out).mono ?_;rintro e w9 ⟨rfl,hg⟩;have SS:=Hq (Zi SS.out hg);have X0:=Hq (Zf X0.out hg (by simp));have XI:=Hq (Zo XI.out hg);clear x0 x1 x2;obtain ⟨x0,x1,x2⟩:=Zl X0.out;clear hg)
          | (go_at_call 23;refine (CXX.out _ XI.out).mono ?_;rintro e w9 ⟨rfl,hg⟩;have SS:=Hq (Zi SS.out hg);have X0:=Hq (Zf X0.out hg (by simp));have XI:=Hq (Zo XI.out hg);clear x0 x1 x2;obtain ⟨x0,x1,x2⟩:=Zl X0.out;clear hg))
         go_ret
         exact ⟨rfl,SS.out.gr⟩
       | ok h e l =>
         rw [h] at PXX
         have PU:=Hq (fun W (g:w.grownBy W none)=>PA.out (Jj x) W g)
         rw [Zau XO.out l] at PU
         clear h e l
         generalize Jj x=u at PXX PU
         go_upto_region 20 with (first
          | (go_at_call 18;refine (PXX.out _ SS.out.gr XI.out).mono ?_;rintro e w9 ⟨rfl,hg⟩;have SS:=Hq (Zi SS.out hg);have X0:=Hq (Zf X0.out hg (by simp));have XI:=Hq (Zo XI.out hg);clear x0 x1 x2;obtain ⟨x0,x1,x2⟩:=Zl X0.out;clear hg)
          | (go_at_call 12;refine (PU.out _ SS.out.gr).mono ?_;intro e w8 hp8;obtain ⟨zd,cz,zF,cy8,rfl,hg,hin⟩:=Zax hp8;have ZI:=Hq hin;have SS:=Hq (Zi SS.out hg);have X0:=Hq (Zf X0.out hg (by simp));have XI:=Hq (Zo XI.out hg);clear x0 x1 x2;obtain ⟨x0,x1,x2⟩:=Zl X0.out;clear hp8 hg hin))
         have hg:=Ga w8 (.cells #[.int .i64 x.1,.slice zd x.2.1.length cz,.slice zF x.2.2.length cy8] 26 (0,0)) none
         have Z0:=Hq (heap_alloc_new w8 (.cells #[.int .i64 x.1,.slice zd x.2.1.length cz,.slice zF x.2.2.length cy8] 26 (0,0)))
         have ZI:=Hq (Zo ZI.out hg)
         have XI:=Hq (Zo XI.out hg)
         have X0:=Hq (Zf X0.out hg (by simp))
         have SS:=Hq (Zi SS.out hg)
         clear hg x0 x1 x2
         generalize w8.alloc (.cells #[.int .i64 x.1,.slice zd x.2.1.length cz,.slice zF x.2.2.length cy8] 26 (0,0))=w10 at X0 XI SS Z0 ZI ⊢
         generalize w8.heap.size=bz at Z0 ⊢
         obtain ⟨x0,x1,x2⟩:=Zl X0.out
         obtain ⟨z0,z1,z2⟩:=Zl Z0.out
         have SM:=Hq (fun W (h:Zhw W x xd xF) (g:Zhw W x zd zF)=>Zcp h g (Zbf XE.out).1 (Zbf XE.out).2 cx cy cz cy8)
         rw [Zas] at SM
         go_wp2_with (go_at_call 15;refine (SM.out _ XI.out ZI.out).mono ?_;rintro e w9 ⟨rfl,hg⟩;have SS:=Hq (Zi SS.out hg);clear hg)
         go_ret
         exact ⟨rfl,SS.out.gr⟩
end Go.Proofs.YteciblfmgdlipaaGreatDoor.AS
