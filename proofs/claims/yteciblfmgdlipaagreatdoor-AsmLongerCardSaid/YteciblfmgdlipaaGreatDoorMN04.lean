/-
  Part of a proof: contracts of functions and lemmas, each stated by its own theorem. Conditions: as each theorem states.
-/
import Derived.Test.YteciblfmgdlipaaGreatDoorMN03
import Derived.Test.YteciblfmgdlipaaGreatDoorMN01
set_option linter.unusedSimpArgs false
set_option linter.unusedVariables false
set_option maxRecDepth 100000
set_option maxHeartbeats 16000000
namespace Go.Proofs.YteciblfmgdlipaaGreatDoor.AS
open Go.RowKit Go.Great CK
structure Zdv (w0 w:World) (p m:Nat) (c:CS) (pend:Value) (vd vF vL vB:Value) (bm:Nat) (cv:List Value) (lb:List Nat):Prop where
 gr:w0.grownBy w none
 ge:w0.heap.size<=p
 box:w.heap[p]? = some (.cells #[.int .i64 c.mem,vd,vF,.bool c.ms,.map (some bm),vL,vB,pend] 70 (0,0))
 ins:Zhb w w0.heap.size c vd vF vL vB bm cv lb m
 lens:c.lm.length=c.funcs.length
def PS (w0 w:World) (p m:Nat) (c:CS) (pend:Value):Prop:=∃ vd vF vL vB bm cv lb,Zdv w0 w p m c pend vd vF vL vB bm cv lb
abbrev Zod (e:Int):Value := .iface 41 (.int .i64 e)
def Zcp:Option Int->Value
 | none => .nilIface
 | some e => .iface 41 (.int .i64 e)
def amV (x:Option Int) (e:Int):Option Int:=match x with|none=>some e|some y=>if e=143 then some e else some y
theorem Jn {w0 w w':World} {p m:Nat} {c:CS} {pend:Value} (h:PS w0 w p m c pend) (g:w.grownBy w' none):PS w0 w' p m c pend:=by
 obtain ⟨vd,vF,vL,vB,bm,cv,lb,h1,h2,h3,h4,h5⟩:=h
 exact ⟨vd,vF,vL,vB,bm,cv,lb,Za h1 g,h2,Zh h3 g (by simp),Zhl h4 g,h5⟩
theorem Zff {w0 w:World} {p m m':Nat} {c:CS} {pend:Value} (h:PS w0 w p m c pend) (hm:m<=m'):PS w0 w p m' c pend:=by
 obtain ⟨vd,vF,vL,vB,bm,cv,lb,h1,h2,h3,h4,h5⟩:=h
 exact ⟨vd,vF,vL,vB,bm,cv,lb,h1,h2,h3,Zhk h4 hm,h5⟩
theorem Zhm {w0 w:World} {p m:Nat} {c:CS} {pend pend' vd vF vL vB:Value} {bm:Nat} {cv:List Value} {lb:List Nat} (h:Zdv w0 w p m c pend vd vF vL vB bm cv lb) :
 PS w0 (w.setCell ⟨p,7,none⟩ pend') p m c pend'/\w.grownBy (w.setCell ⟨p,7,none⟩ pend') (some p) :=
 ⟨⟨vd,vF,vL,vB,bm,cv,lb,Ya h.gr h.ge,h.ge,by rw [Zl h.box];rfl,Zby h.ins h.box (Zo w p 7 pend'),h.lens⟩,Zo w p 7 pend'⟩
def Yfw (w0 w:World) (p m:Nat) (c:CS) (x:Option Int) (e:Ending) (w':World):Prop:=e = .returned (.tuple #[])/\PS w0 w' p m c (Zcp x)/\w.grownBy w' (some p)
theorem Zin (w0 w:World) (p m:Nat) (c:CS) (x:Option Int) (e:Int) (h:PS w0 w p m c (Zcp x)):Calls Tryz.prog 112 #[.pointer (some ⟨p,0,none⟩),.int .i64 e] w (Yfw w0 w p m c (amV x e)):=by
 have HS:=Hq h
 obtain ⟨vd,vF,vL,vB,bm,cv,lb,hA⟩:=h
 have A:=Hq hA
 have c7:=Cq w p 7 _ _ _ hA.box
 have z7:=frozen_of_row w p 7 _ _ hA.box
 have hlt:p<w.heap.size:=(Gs hA.box)
 clear hA
 cases x with
 | none =>
   simp only [Zcp] at c7
   have E1:=Hq (Zhm (pend' := .iface 41 (.int .i64 e)) A.out)
   go_enter Tryz.func112,Tryz.ntmps112
   go_wp2
   go_end0
   exact ⟨rfl,E1.out.1,E1.out.2⟩
 | some y =>
   simp only [Zcp] at c7
   by_cases h3:e=143
   · have E1:=Hq (Zhm (pend' := .iface 41 (.int .i64 143)) A.out)
     subst h3
     go_enter Tryz.func112,Tryz.ntmps112
     go_wp2
     go_end0
     exact ⟨rfl,E1.out.1,E1.out.2⟩
   · have b3:(e == 143)=false:=beq_eq_false_iff_ne.2 h3
     have hv:amV (some y) e=some y:=by simp [amV,h3]
     rw [hv]
     clear h3 hv
     go_enter Tryz.func112,Tryz.ntmps112
     go_wp2
     go_end0
     exact ⟨rfl,HS.out,Zd _ _⟩
theorem Zau {w0 w w':World} {p m:Nat} {c:CS} {pend:Value} (h:PS w0 w p m c pend) (g:w.grownBy w' (some p)):Fr w w':=by
 obtain ⟨vd,vF,vL,vB,bm,cv,lb,hA⟩:=h
 exact Zig hA.box (by decide) g
theorem Zym {w0 w:World} {p m:Nat} {c:CS} {pend:Value} (h:PS w0 w p m c pend):w0.heap.size<=p/\p<w.heap.size:=by
 obtain ⟨vd,vF,vL,vB,bm,cv,lb,hA⟩:=h
 exact ⟨hA.ge,(Gs hA.box)⟩
theorem Zag {w0 w:World} {p m:Nat} {c:CS} {pend:Value} (h:PS w0 w p m c pend):w0.grownBy w none:=by
 obtain ⟨vd,vF,vL,vB,bm,cv,lb,hA⟩:=h
 exact hA.gr
theorem Xg {w w1 w2:World} {r r2:Option Nat} (h:w.grownBy w1 r) (g:w1.grownBy w2 r2) (hb:∀ k,r2=some k->w.heap.size<=k):w.grownBy w2 r :=
 ⟨g.os.trans h.os,g.tape.trans h.tape,g.output.trans h.output,Nat.le_trans h.size g.size,fun k hk hr=>(g.block k (Nat.lt_of_lt_of_le hk h.size) (fun e=>by have:=hb k e.symm;omega)).trans (h.block k hk hr)⟩
theorem Zqg {w0 w w':World} {p m:Nat} {c:CS} {pend:Value} {E':Nat} {t:TypeId} {sz n:Nat} {v:Value} {xs:List Value} (h:PS w0 w p m c pend) (ho:w.ownsRow E' t sz v n xs) (hE:w0.heap.size<=E')
 (ht:t≠5/\t≠61/\t≠58/\t≠66/\t≠131/\t≠70) (g:w.grownBy w' v.ownBlock):PS w0 w' p m c pend:=by
 obtain ⟨vd,vF,vL,vB,bm,cv,lb,h1,h2,h3,h4,h5⟩:=h
 obtain ⟨t1,t2,t3,t4,t5,t6⟩:=ht
 refine ⟨vd,vF,vL,vB,bm,cv,lb,Xg h1 g (fun k hk=>Nat.le_trans hE (ho.lt k hk).1),h2,?_,Zfg h4 g (fun t' sz v n xs ho' ht'=>Zw ho' (Zbn ho hE) (by intro e;rw [e] at ht';rcases ht' with h|h|h|h|h <;> contradiction)) (fun b f hm=>Yd hm ho),h5⟩
 exact Zh h3 g (Yc ho h3 t6)
def Zey (w:World) (p:Option Addr) (ps:List Pc):Prop:=0<ps.length->∃ (b o:Nat) (cs:Array Value) (fz:Nat × Nat),p=some ⟨b,o,none⟩/\w.heap[b]? = some (.cells cs 158 fz)/\∀ (i:Nat) (q:Pc),ps[i]? = some q ->
 cs[o+i*4]? = some (.int .i64 (pcK q))/\cs[o+i*4+1]? = some (.string (bs (pcT q)))/\cs[o+i*4+2]? = some (.int .i64 (pcN q))/\cs[o+i*4+3]? = some (.bool (pcF q))
theorem Xo {w w':World} {p:Option Addr} {ps:List Pc} (h:Zey w p ps) (g:Fr w w'):Zey w' p ps:=fun h0=>by
 obtain ⟨b,o,cs,fz,e,hb,hc⟩:=h h0
 exact ⟨b,o,cs,fz,e,(g.keep b _ _ _ hb (Or.inl rfl)).trans hb,hc⟩
theorem Yx {w:World} {p:Option Addr} {ps:List Pc} (h:Zey w p ps) {i:Nat} {q:Pc} (hi:ps[i]? = some q):∃ b o,p=some ⟨b,o,none⟩/\b<w.heap.size /\
 w.cell? ⟨b,o+i*4,none⟩=some (.int .i64 (pcK q))/\w.cell? ⟨b,o+i*4+1,none⟩=some (.string (bs (pcT q)))/\w.cell? ⟨b,o+i*4+2,none⟩=some (.int .i64 (pcN q))/\w.cell? ⟨b,o+i*4+3,none⟩=some (.bool (pcF q)):=by
 obtain ⟨b,o,cs,fz,e,hb,hc⟩:=h (by have:=(List.getElem?_eq_some_iff.1 hi).1;omega)
 obtain ⟨h0,h1,h2,h3⟩:=hc i q hi
 have key:∀ j,w.cell? ⟨b,j,none⟩=cs[j]? := fun j=>by unfold World.cell?;simp [hb]
 exact ⟨b,o,e,(Gs hb),(key _).trans h0,(key _).trans h1,(key _).trans h2,(key _).trans h3⟩
theorem Zmm {w:World} {b o k:Nat} {ps:List Pc} (h:Zey w (some ⟨b,o,none⟩) ps):Zey w (some ⟨b,o+k*4,none⟩) (ps.drop k):=fun h0=>by
 rw [List.length_drop] at h0
 obtain ⟨b',o',cs,fz,e,hb,hc⟩:=h (by omega)
 injection e with e;injection e with e1 e2
 subst e1;subst e2
 refine ⟨b,_,cs,fz,rfl,hb,fun i q hi => ?_⟩
 rw [List.getElem?_drop] at hi
 have:=hc (k+i) q hi
 rw [show o+k*4+i*4=o+(k+i)*4 by omega]
 exact this
theorem Zkv {w:World} {E:Nat} {p:Option Addr} {c:Nat} {ps:List Pc} (h:Ztz w E (.slice p ps.length c) ps):Zey w p ps:=fun h0=>by
 rcases h.2 with ⟨_,h1⟩|⟨g,cap,cur,hv,_,hg,hn,hm,hs,ht⟩
 · omega
 · injection hv with hv _ _
   refine ⟨g,0,cur,_,hv,hg,fun i q hi => ?_⟩
   have hil:=(List.getElem?_eq_some_iff.1 hi).1
   obtain ⟨a0,a1,a2,a3⟩:=Zqk ps i q hi
   have key:∀ j v,(Zou ps)[j]? = some v->cur[j]? = some v:=fun j v hj=>by
    rw [<- ht] at hj
    rw [List.getElem?_take] at hj
    split at hj
    · rw [<- Array.getElem?_toList];exact hj
    · cases hj
   rw [Nat.zero_add]
   exact ⟨key _ _ a0,key _ _ a1,key _ _ a2,key _ _ a3⟩
def Ziu:Pc->Bool
 | .num _ _=>true
 | _=>false
def Ztj:Pc->Bool
 | .num _ b=>b
 | _=>false
def Zbo (ps:List Pc) (n:Nat):Option (List Int):=if ps.length=n/\ps.all Ziu=true then some (ps.map pcN) else none
def Zil (x:Option Int) (ps:List Pc):Option Int:=if ps.any Ztj=true then some 143 else x
theorem Ydt (x:Option Int):amV x 143=some 143:=by cases x <;> rfl
theorem Zxl {x:Option Int} {ps:List Pc} {k:Nat} {q:Pc} (h:ps[k]? = some q):Zil x (ps.take (k+1))=if Ztj q then some 143 else Zil x (ps.take k):=by
 unfold Zil
 rw [List.take_add_one,h,List.any_append]
 cases hq:Ztj q <;> simp [hq]
def Zrx (w:World) (E:Nat) (v:Value) (xs:List Int):Prop:=w.ownsRow E 3 1 v xs.length (xs.map (Value.int .i64))
def Zex (w0 w:World) (p m:Nat) (c:CS) (x:Option Int) (ps:List Pc) (n:Nat) (e:Ending) (w':World):Prop :=
 (match Zbo ps n with
   | some xs=>∃ q k,e = .returned (.tuple #[.slice q xs.length k,.nilIface])/\Zrx w' w.heap.size (.slice q xs.length k) xs/\PS w0 w' p m c (Zcp (Zil x ps))
   | none=>e = .returned (.tuple #[.slice none 0 0,Zod 141])/\∃ x',PS w0 w' p m c (Zcp x'))/\w.grownBy w' (some p)
theorem Zlb (w:World) (o:Obj) (x:Value) (t:TypeId):∀ j u,[x][j]? = some u->((w.alloc o).alloc (.cells #[x] t)).cell? ((⟨w.heap.size+1,0,none⟩:Addr).add j)=some u:=by
 have h:=Zcq (w.alloc o) x t
 rw [World.size_alloc] at h
 exact h
theorem Zhx {q:Pc} (h:Ziu q=true):pcK q=1:=by cases q <;> simp [Ziu] at h <;> rfl
theorem Zzl {q:Pc} (h:Ziu q=false):(pcK q != 1)=true:=by cases q <;> simp [Ziu] at h <;> rfl
theorem Zwi {q:Pc} (h:Ziu q=true):pcF q = !Ztj q:=by cases q <;> simp [Ziu] at h <;> rfl
theorem Zds (w0 w:World) (p m:Nat) (c:CS) (x:Option Int) (ps:List Pc) (pp:Option Addr) (cc n:Nat) (h:PS w0 w p m c (Zcp x)) (hp:Zey w pp ps) (hn:ps.length<=70000) (hn2:n<=10) :
 Calls Tryz.prog 113 #[.pointer (some ⟨p,0,none⟩),.slice pp ps.length cc,.int .i64 n] w (Zex w0 w p m c x ps n):=by
 have HS:=Hq h
 have HP:=Hq hp
 clear h hp
 by_cases hl:ps.length=n
 · have AM:=Hq (fun (wr:World) x'=>Zin w0 wr p m c x' 143)
   obtain ⟨ni,ni0,ni1,ni2,ni3⟩:=info_parts Zzm
   have hni:(ps.length:Int)=n:=by omega
   go_enter Tryz.func113,Tryz.ntmps113
   subst hl
   go_wp2
   go_loopw [8,18] (fun v i wr=>∃ k:Nat,i = .int .i64 k/\k<=ps.length/\(ps.take k).all Ziu=true/\wr.ownsRow w.heap.size 3 1 v k (((ps.take k).map pcN).map (Value.int .i64))/\PS w0 wr p m c (Zcp (Zil x (ps.take k)))/\w.grownBy wr (some p)) (fun _ i _=>ps.length - (intOf i).toNat)
   case atStart=>exact ⟨0,rfl,Nat.zero_le _,rfl,World.ownsRow_nil _ _ _ _,by simpa [Zil] using HS.out,Zd _ _⟩
   case round =>
    obtain ⟨k,rfl,hk,hall,ho,hps,hg⟩:=hrel
    obtain ⟨q1,k1,rfl⟩:=Zk ho
    have OW:=Hq ho
    have SP:=Hq hps
    have GR:=Hq hg
    have AL:=Hq hall
    have PT:=Hq (Xo HP.out (Zau HS.out hg))
    clear hall ho hps hg
    by_cases hlt:k<ps.length
    · obtain ⟨q,hq⟩:∃ q,ps[k]? = some q:=⟨_,List.getElem?_eq_getElem hlt⟩
      obtain ⟨b,o,rfl,hb,c0,c1,c2,c3⟩:=Yx PT.out hq
      have HQ:=Hq hq
      clear hq
      cases hnum:Ziu q with
      | false =>
        have hk1:=Zzl hnum
        have HN:=Hq (show Zbo ps ps.length=none by
         unfold Zbo
         rw [if_neg]
         rintro ⟨_,h2⟩
         rw [List.all_eq_true] at h2
         have:=h2 q (List.mem_of_getElem? HQ.out)
         rw [hnum] at this;cases this)
        generalize pcK q=v0 at *
        generalize bs (pcT q)=v1 at *
        generalize pcN q=v2 at *
        generalize pcF q=v3 at *
        clear hnum
        go_wp2
        go_ret2
        refine ⟨?_,Za GR.out (Ga _ _ _)⟩
        rw [HN.out]
        exact ⟨rfl,_,Jn SP.out (Ga _ _ _)⟩
      | true =>
        have hk1:=Zhx hnum
        have hk3:=Zwi hnum
        have hst:=Zxl (x:=x) HQ.out
        have HX:=Hq hst
        have HALL:=Hq (show (ps.take (k+1)).all Ziu=true by
         rw [List.take_add_one,HQ.out,List.all_append,AL.out]
         simp [hnum])
        have HVAL:=Hq (show ((ps.take (k+1)).map pcN).map (Value.int .i64)=((ps.take k).map pcN).map (Value.int .i64)++[.int .i64 (pcN q)] by
         rw [List.take_add_one,HQ.out];simp)
        have hpl:=Zym HS.out
        have hpl2:=Zym SP.out
        have hgs:=GR.out.size
        have hc3:k+1<=maxLen:=by unfold maxLen;omega
        have hc4:(k+1)*8<=140737488355328:=by omega
        clear hst
        cases hbig:Ztj q with
        | false =>
          rw [hbig] at hk3
          have HX2:=Hq (show Zil x (ps.take (k+1))=Zil x (ps.take k) by rw [HX.out,hbig];rfl)
          rw [hk1] at c0
          rw [hk3] at c3
          have hE:∀ o' o'',w.heap.size<=((wr.alloc o').alloc o'').heap.size:=fun o' o''=>by simp;omega
          generalize bs (pcT q)=v1 at *
          generalize pcN q=v2 at *
          clear hnum hk1 hk3 hbig HX
          go_wp2_with (at_builtin;refine wpList_append_own_at _ rfl _ _ 93 rfl w.heap.size 3 ni (.int .i64 0) 1 8 Zwj ni0 ni1 ni2 ni3 rfl (by decide) (.slice q1 k k1) _ _ rfl (World.ownsRow.alloc (World.ownsRow.alloc OW.out _) _) ⟨wr.heap.size+1,0,none⟩ 1 1 [.int .i64 _] rfl rfl (Zlb wr _ _ _) (Jq _ _) hc3 hc4 (hE _ _) ?_;intro v3 w5 hown3 hgr3 hnil3 hat3;obtain ⟨p3,k3,hv3⟩:=Zk hown3;subst hv3;have OW3:=Hq hown3;have GR3:=Hq hgr3;clear hown3 hgr3 hnil3 hat3)
          exact ⟨⟨k+1,by go_num,by omega,HALL.out,by rw [HVAL.out];exact OW3.out,by rw [HX2.out];exact Zqg (Jn SP.out (Za (Ga wr _ none) (Ga _ _ none))) (World.ownsRow.alloc (World.ownsRow.alloc OW.out _) _) (Zag HS.out).size (by decide) GR3.out,Xg (Za GR.out (Zjy (Za (Ga wr _ none) (Ga _ _ none)))) GR3.out (fun q hq=>(World.ownsRow.lt OW.out q hq).1)⟩,by simp [intOf];omega⟩
        | true =>
          rw [hbig] at hk3
          have HX2:=Hq (show Zcp (amV (Zil x (ps.take k)) 143)=Zcp (Zil x (ps.take (k+1))) by rw [HX.out,hbig,Ydt];rfl)
          rw [hk1] at c0
          rw [hk3] at c3
          have hpne:(some p:Option Nat)≠some wr.heap.size:=by intro e;injection e with e;omega
          have HPN:=Hq hpne
          generalize bs (pcT q)=v1 at *
          generalize pcN q=v2 at *
          clear hnum hk1 hk3 hbig HX hpne
          go_wp2_with (first
           | (go_at_call 112;refine (AM.out _ _ (Jn SP.out (Ga wr _ none))).mono ?_;rintro e w2 ⟨rfl,hps2,hg2⟩;have S2:=Hq (HX2.out ▸ hps2);have G2:=Hq hg2;have B2:=Hq (Yf (Xp wr _ _ _ _) hg2 HPN.out);have O2:=Hq ((World.ownsRow.alloc OW.out _).kept hg2 (Zjo OW.out hpl.2));obtain ⟨d0,d1,d2,d3,y0,y1,y2,y3⟩:=Yp B2.out;have hl2:=Zkw B2.out;have hE2:∀ o',w.heap.size<=(w2.alloc o').heap.size:=(fun o'=>Yt (by omega) o');clear hps2 hg2)
           | (at_builtin;refine wpList_append_own_at _ rfl _ _ 93 rfl w.heap.size 3 ni (.int .i64 0) 1 8 Zwj ni0 ni1 ni2 ni3 rfl (by decide) (.slice q1 k k1) _ _ rfl (World.ownsRow.alloc O2.out _) ⟨w2.heap.size,0,none⟩ 1 1 [.int .i64 _] rfl rfl (Zcq w2 _ _) (Jq _ _) hc3 hc4 (hE2 _) ?_;intro v3 w5 hown3 hgr3 hnil3 hat3;obtain ⟨p3,k3,hv3⟩:=Zk hown3;subst hv3;have OW3:=Hq hown3;have GR3:=Hq hgr3;clear hown3 hgr3 hnil3 hat3))
          exact ⟨⟨k+1,by go_num,by omega,HALL.out,by rw [HVAL.out];exact OW3.out,Zqg (Jn S2.out (Ga w2 _ none)) (World.ownsRow.alloc O2.out _) (Zag HS.out).size (by decide) GR3.out,Xg (Za (Za (Za GR.out (Zjy (Ga wr _ none))) G2.out) (Zjy (Ga _ _ none))) GR3.out (fun q hq=>(World.ownsRow.lt OW.out q hq).1)⟩,by simp [intOf];omega⟩
    · have hkn:k=ps.length:=by omega
      subst hkn
      have HN:=Hq (show Zbo ps ps.length=some (ps.map pcN) by
       unfold Zbo
       have:=AL.out
       rw [List.take_length] at this
       rw [if_pos ⟨rfl,this⟩])
      have HO:=Hq (show Zrx wr w.heap.size (.slice q1 (ps.map pcN).length k1) (ps.map pcN) by
       have:=OW.out
       rw [List.take_length] at this
       unfold Zrx
       rw [List.length_map];exact this)
      have HB:=Hq (show PS w0 wr p m c (Zcp (Zil x ps)) by have:=SP.out;rw [List.take_length] at this;exact this)
      clear hlt
      go_wp2
      go_ret2
      refine ⟨?_,GR.out⟩
      rw [HN.out]
      exact ⟨q1,k1,by rw [List.length_map];rfl,HO.out,HB.out⟩
 · have HN:=Hq (show Zbo ps n=none by unfold Zbo;rw [if_neg (fun h=>hl h.1)])
   have hb:((ps.length:Int) != (n:Int))=true:=by rw [bne_iff_ne];omega
   clear hl
   go_enter Tryz.func113,Tryz.ntmps113
   go_wp2
   go_ret2
   refine ⟨?_,Zd _ _⟩
   rw [HN.out]
   exact ⟨rfl,x,HS.out⟩
def Ydf (n:Nat):UInt8:=if n<10 then UInt8.ofNat (48+n) else UInt8.ofNat (87+n)
def Zob (c:UInt8):Txt:=if c.toNat=34\/c.toNat=92 then [92,c] else if c.toNat<32\/126<c.toNat then [92,120,Ydf (c.toNat / 16),Ydf (c.toNat % 16)] else [c]
def Zsi (b:Txt):Txt:=34::(b.flatMap Zob++[34])
def Zsx (op:Int):Txt:=match Yu op with|some s=>s.1.data.toList|none=>[]
def Zlj (op:Int):Int:=match Yu op with|some s=>s.2.1|none=>0
def Yfx (a:Int):Txt:=match callT[a.toNat]? with|some r=>r.1.data.toList|none=>[]
def Zch (nF nC:Nat) (kind a:Int):Txt :=
 if kind=0 then []
 else if kind=3/\a<=nC then 32::76::Lib.itoa a
 else if kind=4/\a<nF then 32::102::Lib.itoa a
 else if kind=5 then 32::Yfx a
 else 32::Lib.itoa a
def Zad (code:List (Int × Int)) (k:Nat):Bool:=code.any fun x=>Zlj x.1 == 3 && x.2 == (k:Int)
def Zgw (code:List (Int × Int)) (k:Nat):Txt:=if Zad code k then 76::(Lib.itoa k++[58,10]) else []
def Zgj (nF nC:Nat) (x:Int × Int):Txt:=9::(Zsx x.1++Zch nF nC (Zlj x.1) x.2++[10])
def plT (nF:Nat) (code:List (Int × Int)) (k:Nat):Txt:=Zgw code k++(match code[k]? with|some x=>Zgj nF code.length x|none=>[])
def Jl (nF:Nat) (code:List (Int × Int)) (n:Nat):Txt:=(List.range n).flatMap (plT nF code)
def Xi (k:Nat) (f:FnR):Txt:=[102,117,110,99,32,102]++Lib.itoa k++[32]++Lib.itoa f.1++[32]++Lib.itoa f.2.1++[32]++Lib.itoa f.2.2.1++[10]
def fnT (nF k:Nat) (f:FnR):Txt:=Xi k f++Jl nF f.2.2.2 (f.2.2.2.length+1)
def Zaj (fs:List FnR) (n:Nat):Txt:=(List.range n).flatMap fun k=>match fs[k]? with|some f=>fnT fs.length k f|none=>[]
def Zci (mem:Int) (d:Txt):Txt:=[109,101,109,111,114,121,32]++Lib.itoa mem++[10]++(if d=[] then [] else [100,97,116,97,32]++Zsi d++[10])
def Zfi (p:PrP):Txt:=Zci p.1 p.2.1++Zaj p.2.2 p.2.2.length
def Zjl (p:PrP):Except Int Txt :=
 if Jv p.1 p.2.1.length p.2.2≠0 then .error (Jv p.1 p.2.1.length p.2.2)
 else if 65536<(Zfi p).length then .error 2
 else .ok (Zfi p)
theorem Zbq (nF:Nat) (code:List (Int × Int)) (n:Nat):Jl nF code (n+1)=Jl nF code n++plT nF code n:=by
 unfold Jl;rw [List.range_succ,List.flatMap_append];simp
theorem Znf {fs:List FnR} {n:Nat} {f:FnR} (h:fs[n]? = some f):Zaj fs (n+1)=Zaj fs n++fnT fs.length n f:=by
 unfold Zaj;rw [List.range_succ,List.flatMap_append];simp [h]
theorem Zng (fs:List FnR):∀ (m n:Nat),(Zaj fs n).length<=(Zaj fs (n+m)).length
 | 0,n=>Nat.le_refl _
 | m+1,n=>by
   have h:=Zng fs m n
   have e:Zaj fs (n+(m+1))=Zaj fs (n+m)++(match fs[n+m]? with|some f=>fnT fs.length (n+m) f|none=>[]):=by
    unfold Zaj;rw [<- Nat.add_assoc,List.range_succ,List.flatMap_append];simp
   rw [e,List.length_append];omega
theorem Zyk {c:UInt8} (h:c.toNat=34\/c.toNat=92):Zob c=[92,c]:=if_pos h
theorem Zyj {c:UInt8} (h:¬ (c.toNat=34\/c.toNat=92)) (h2:c.toNat<32\/126<c.toNat):Zob c=[92,120,Ydf (c.toNat / 16),Ydf (c.toNat % 16)]:=(if_neg h).trans (if_pos h2)
theorem Zyh {c:UInt8} (h:¬ (c.toNat=34\/c.toNat=92)) (h2:¬ (c.toNat<32\/126<c.toNat)):Zob c=[c]:=(if_neg h).trans (if_neg h2)
theorem Zyi (c:UInt8):(Zob c).length<=4:=by
 unfold Zob
 split
 · simp
 · split <;> simp
theorem Zhi:∀ (b:Txt),(b.flatMap Zob).length<=4*b.length
 | []=>Nat.le_refl _
 | c::r=>by
   have h1:=Zyi c
   have h2:=Zhi r
   rw [List.flatMap_cons,List.length_append,List.length_cons];omega
theorem Zul (b:Txt) (k:Nat) (c:UInt8) (h:b[k]? = some c):(b.take (k+1)).flatMap Zob=(b.take k).flatMap Zob++Zob c:=by
 rw [List.take_add_one,h,List.flatMap_append];simp
theorem Zvm (nF nC:Nat) (a:Int):Zch nF nC 0 a=[]:=if_pos rfl
theorem Zvn {nF nC:Nat} {a:Int} (h:a<=nC):Zch nF nC 3 a=[32,76]++Lib.itoa a:=(if_neg (by decide)).trans (if_pos ⟨rfl,h⟩)
theorem Ycn {nF nC:Nat} {a:Int} (h:a<nF):Zch nF nC 4 a=[32,102]++Lib.itoa a:=(if_neg (by decide)).trans ((if_neg (fun h=>absurd h.1 (by decide))).trans (if_pos ⟨rfl,h⟩))
theorem Zyz {nF nC n:Nat} {r:ShR} (h:callT[n]? = some r):Zch nF nC 5 n=[32]++r.1.data.toList:=by
 refine (if_neg (by decide)).trans ((if_neg (fun h=>absurd h.1 (by decide))).trans ((if_neg (fun h=>absurd h.1 (by decide))).trans ((if_pos rfl).trans ?_)))
 unfold Yfx
 rw [Int.toNat_natCast,h];rfl
theorem Zkz {nF nC:Nat} {k a:Int} (h0:k≠0) (h3:k=3->¬ a<=nC) (h4:k=4->¬ a<nF) (h5:k≠5):Zch nF nC k a=[32]++Lib.itoa a :=
 (if_neg h0).trans ((if_neg (fun h=>h3 h.1 h.2)).trans ((if_neg (fun h=>h4 h.1 h.2)).trans (if_neg h5)))
end Go.Proofs.YteciblfmgdlipaaGreatDoor.AS
namespace Go.Proofs.YteciblfmgdlipaaGreatDoor.CK
open Go.RowKit Go.Great
theorem Zoe {a:Act} {N d:Nat} {v:Value} (hs:a.tmps.size=N) (hd:d<N) (e:Nat):tm (a.put (some d) v) e=if e=d then v else tm a e:=by
 unfold tm Act.put
 by_cases h:e=d
 · subst h;simp [hs,hd]
 · rw [if_neg h];simp [Array.getD_eq_getD_getElem?,Array.getElem?_setIfInBounds_ne (Ne.symm h)]
theorem Zmc {a:Act} {N:Nat} {d:Option Tmp} {v:Value} (hs:a.tmps.size=N):(a.put d v).tmps.size=N:=by cases d <;> simp [Act.put,hs]
structure RJ (a0:Act) (N n:Nat) (dst:Nat->Nat) (val:Nat->Value) (l:Array Bool) (a:Act):Prop where
 sz:l.size=n
 ts:a.tmps.size=N
 df:a.defers=a0.defers
 sl:∀ i,i<n->l.getD i false=true->dst i<N->tm a (dst i)=val i
 un:∀ j,(∀ i,i<n->l.getD i false=true->dst i≠j)->tm a j=tm a0 j
theorem Xd {a0 a:Act} {N n i:Nat} {dst:Nat->Nat} {val:Nat->Value} {l:Array Bool} (h:RJ a0 N n dst val l a) (hi:i<n) (hd:dst i<N) (hne:∀ j,j<n->j≠i->dst j≠dst i) :
 RJ a0 N n dst val (l.setIfInBounds i true) (a.put (some (dst i)) (val i)):=by
 have hgs:∀ j,(l.setIfInBounds i true).getD j false=if j=i then true else l.getD j false:=fun j=>Zai l i j (by rw [h.sz];exact hi)
 have T:∀ e,tm (a.put (some (dst i)) (val i)) e=if e=dst i then val i else tm a e:=fun e=>Zoe h.ts hd e
 refine ⟨by simp [h.sz],Zmc h.ts,h.df,fun j hj hl hdj => ?_,fun j hj => ?_⟩
 · rw [hgs] at hl
   by_cases hji:j=i
   · subst hji;rw [T,if_pos rfl]
   · rw [if_neg hji] at hl
     rw [T,if_neg (hne j hj hji)]
     exact h.sl j hj hl hdj
 · have h1:=hj i hi (by rw [hgs,if_pos rfl])
   rw [T,if_neg (Ne.symm h1)]
   refine h.un j fun i' hi' hl'=>hj i' hi' ?_
   rw [hgs]
   by_cases e:i'=i
   · rw [if_pos e]
   · rw [if_neg e];exact hl'
theorem Ybw {a0 a:Act} {N n i:Nat} {dst:Nat->Nat} {val:Nat->Value} {l:Array Bool} (h:RJ a0 N n dst val l a) (hi:i<n) (hd:N<=dst i):RJ a0 N n dst val (l.setIfInBounds i true) a:=by
 have hgs:∀ j,(l.setIfInBounds i true).getD j false=if j=i then true else l.getD j false:=fun j=>Zai l i j (by rw [h.sz];exact hi)
 refine ⟨by simp [h.sz],h.ts,h.df,fun j hj hl hdj => ?_,fun j hj => ?_⟩
 · rw [hgs] at hl
   by_cases hji:j=i
   · subst hji;omega
   · rw [if_neg hji] at hl;exact h.sl j hj hl hdj
 · refine h.un j fun i' hi' hl'=>hj i' hi' ?_
   rw [hgs]
   by_cases e:i'=i
   · rw [if_pos e]
   · rw [if_neg e];exact hl'
theorem Yv {a0:Act} {N n:Nat} {dst:Nat->Nat} {val:Nat->Value} (hs:a0.tmps.size=N):RJ a0 N n dst val (Array.replicate n false) a0 :=
 ⟨by simp,hs,rfl,fun i hi hl _=>(by rw [getD_replicate_false] at hl;cases hl),fun j _=>rfl⟩
theorem Zpt {a b:Act} (hs:a.tmps.size=b.tmps.size) (hd:a.defers=b.defers) (ht:∀ j,j<a.tmps.size->tm a j=tm b j):a=b:=by
 obtain ⟨ta,da⟩:=a
 obtain ⟨tb,db⟩:=b
 simp only at hs hd
 subst hd
 congr 1
 refine Array.ext hs fun j h1 h2 => ?_
 have:=ht j h1
 simpa [tm,h1,h2] using this
theorem Yes {a0 a aF:Act} {N n:Nat} {dst:Nat->Nat} {val:Nat->Value} {l:Array Bool} (h:RJ a0 N n dst val l a) (hl:∀ j,j<n->l.getD j false=true) (hs:aF.tmps.size=N) (hd:aF.defers=a0.defers)
 (hv:∀ i,i<n->dst i<N->tm aF (dst i)=val i) (hu:∀ j,(∀ i,i<n->dst i≠j)->tm aF j=tm a0 j):a=aF:=by
 refine Zpt (h.ts.trans hs.symm) (h.df.trans hd.symm) fun j hj => ?_
 by_cases he:∃ i,i<n/\dst i=j
 · obtain ⟨i,hi,rfl⟩:=he
   have hN:dst i<N:=by rw [<- h.ts];exact hj
   rw [h.sl i hi (hl i hi) hN,hv i hi hN]
 · have hne:∀ i,i<n->dst i≠j:=fun i hi e=>he ⟨i,hi,e⟩
   rw [h.un j (fun i hi _=>hne i hi),hu j hne]
def Je (a0:Act) (dst:Nat->Nat) (val:Nat->Value):Nat->Act
 | 0=>a0
 | n+1=>(Je a0 dst val n).put (some (dst n)) (val n)
theorem Zdd {a0:Act} {N:Nat} {dst:Nat->Nat} {val:Nat->Value} (hs:a0.tmps.size=N):∀ n,(Je a0 dst val n).tmps.size=N
 | 0=>hs
 | n+1=>Zmc (Zdd hs n)
theorem Zgg {a0:Act} {dst:Nat->Nat} {val:Nat->Value}:∀ n,(Je a0 dst val n).defers=a0.defers
 | 0=>rfl
 | n+1=>Zgg n
theorem Zqc {a0:Act} {N:Nat} {dst:Nat->Nat} {val:Nat->Value} (hs:a0.tmps.size=N):∀ n,(∀ i j,i<n->j<n->i≠j->dst i≠dst j)->∀ i,i<n->dst i<N->tm (Je a0 dst val n) (dst i)=val i
 | 0,_,i,hi,_=>by omega
 | n+1,hne,i,hi,hd=>by
   rw [Je]
   by_cases e:i=n
   · subst e;rw [Zoe (Zdd hs i) hd,if_pos rfl]
   · have h1:=Zqc (a0:=a0) (val:=val) hs n (fun i j h1 h2=>hne i j (by omega) (by omega)) i (by omega) hd
     by_cases hn:dst n<N
     · rw [Zoe (Zdd hs n) hn,if_neg (hne i n (by omega) (by omega) e)];exact h1
     · have:∀ v,tm ((Je a0 dst val n).put (some (dst n)) v) (dst i)=tm (Je a0 dst val n) (dst i):=by
        intro v
        unfold tm Act.put
        simp [Array.getD_eq_getD_getElem?,Array.getElem?_setIfInBounds_ne (hne n i (by omega) (by omega) (Ne.symm e))]
       rw [this];exact h1
theorem Zmh {a0:Act} {dst:Nat->Nat} {val:Nat->Value}:∀ n j,(∀ i,i<n->dst i≠j)->tm (Je a0 dst val n) j=tm a0 j
 | 0,_,_=>rfl
 | n+1,j,h=>by
   rw [Je]
   have:tm ((Je a0 dst val n).put (some (dst n)) (val n)) j=tm (Je a0 dst val n) j:=by
    unfold tm Act.put
    simp [Array.getD_eq_getD_getElem?,Array.getElem?_setIfInBounds_ne (h n (by omega))]
   rw [this]
   exact Zmh n j (fun i hi=>h i (by omega))
theorem Xk {a0 a:Act} {N n:Nat} {dst:Nat->Nat} {val:Nat->Value} {l:Array Bool} (h:RJ a0 N n dst val l a) (h0:a0.tmps.size=N) (hl:∀ j,j<n->l.getD j false=true) (hne:∀ i j,i<n->j<n->i≠j->dst i≠dst j):a=Je a0 dst val n :=
 Yes h hl (Zdd h0 n) (Zgg n) (Zqc h0 n hne) (Zmh n)
theorem Ybr {a:Act} {d:Nat} (hs:d<a.tmps.size):a.tmps[d]? = some (a.tmps.getD d undef):=by
 rw [Array.getElem?_eq_getElem hs];simp [hs]
theorem Zdr {ops:Array Oper} {o:Oper} {a:Act} {k d:Nat} {b:Bool} (hg:o.guard=some (k,b)) (hk:(ops[k]?).bind (·.dst)=some d) (hs:d<a.tmps.size) (hv:a.tmps.getD d undef = .bool b):Region.wanted o (yielded ops a.tmps)=true:=by
 have h1:=Ybr hs
 rw [hv] at h1
 unfold Region.wanted
 rw [hg]
 simp [yielded,hk,h1]
theorem Ze {ops:Array Oper} {a0 a:Act} {N n i:Nat} {dst:Nat->Nat} {val:Nat->Value} {l:Array Bool} (h:RJ a0 N n dst val l a) (hi:i∈Region.ready .any ops l) (j:Nat) (hc:(decide (j<n) && decide (dst j<N) && ((ops[i]?).any fun o=>o.after.any fun e=>e.on == j && Region.binds .any e))=true):a.tmps.getD (dst j) undef=val j:=by
 simp only [Bool.and_eq_true,decide_eq_true_eq] at hc
 exact h.sl j hc.1.1 (Zb hi j hc.2) hc.1.2
theorem Xf {a0 a:Act} {N n:Nat} {dst:Nat->Nat} {val val':Nat->Value} {l:Array Bool} (h:RJ a0 N n dst val l a) (hv:∀ i,i<n->l.getD i false=true->dst i<N->val' i=val i):RJ a0 N n dst val' l a :=
 ⟨h.sz,h.ts,h.df,fun i hi hl hd=>by rw [hv i hi hl hd];exact h.sl i hi hl hd,h.un⟩
section
variable {ops:Array Oper} {Q:Exit->Act->World->Prop} {a0 a:Act} {N n i:Nat} {dst:Nat->Nat} {val:Nat->Value} {l:Array Bool} {w w':World} {WS:Array Bool->World->Prop} {o:Oper}
theorem Zam (hJ:RJ a0 N n dst val l a) (ho:ops[i]? = some o) (hg:o.guard=none) (hdst:o.dst=none) (hi:i<n) (hd:N<=dst i) (hrun:(execOp a.eval o).run Tryz.prog w = .ok .skip w') (hW:WS (l.setIfInBounds i true) w') :
 wpOp Tryz.prog ops Q i (fun a' w''=>RJ a0 N n dst val (l.setIfInBounds i true) a'/\WS (l.setIfInBounds i true) w'') a w :=
 Zug ho hg hdst hrun ⟨Ybw hJ hi hd,hW⟩
theorem Ygd (hJ:RJ a0 N n dst val l a) (ho:ops[i]? = some o) (hw:Region.wanted o (yielded ops a.tmps)=true) (hdst:o.dst=some (dst i)) (hi:i<n) (hd:dst i<N) (hne:∀ j,j<n->j≠i->dst j≠dst i) (hrun:(execOp a.eval o).run Tryz.prog w = .ok (.value (val i)) w') (hW:WS (l.setIfInBounds i true) w') :
 wpOp Tryz.prog ops Q i (fun a' w''=>RJ a0 N n dst val (l.setIfInBounds i true) a'/\WS (l.setIfInBounds i true) w'') a w:=by
 unfold wpOp
 simp only [ho]
 rw [if_pos hw]
 refine Or.inl ?_
 unfold Oper.wp
 rw [hrun,Oper.upon_value,hdst]
 exact ⟨Xd hJ hi hd hne,hW⟩
theorem Zg {K K':Act->World->Prop} (h:wpOp Tryz.prog ops Q i K a w) (hk:∀ a' w',K a' w'->K' a' w'):wpOp Tryz.prog ops Q i K' a w:=wpOp_mono hk h
end
theorem Zps {ops:Array Oper} (hdag:∀ (j:Nat) (o:Oper),ops[j]? = some o->∀ e∈o.after,Region.binds .any e=true->e.on<j) {l:Array Bool} (h:Region.ready .any ops l=[]) (hsz:l.size=ops.size):∀ j,j<ops.size->l.getD j false=true:=by
 intro j
 induction j using Nat.strongRecOn with
 | _ j ih =>
   intro hj
   by_cases hl:l.getD j false=true
   · exact hl
   · exfalso
     have hlt:j<l.size:=by omega
     have h1:l.getD j true=false:=by
      simp only [Array.getD,hlt,dif_pos] at hl ⊢
      simpa using hl
     have:j∈Region.ready .any ops l:=mem_ready.2 ⟨h1,ops[j],by simp [hj],fun e he hb=>ih e.on (hdag j ops[j] (by simp [hj]) e he hb) (Nat.lt_trans (hdag j ops[j] (by simp [hj]) e he hb) hj)⟩
     rw [h] at this
     cases this
theorem Xm {ops:Array Oper} (h:((List.range ops.size).all fun j=>(ops[j]?).all fun o=>o.after.all fun e => !(Region.binds .any e) || decide (e.on<j))=true):∀ (j:Nat) (o:Oper),ops[j]? = some o->∀ e∈o.after,Region.binds .any e=true->e.on<j:=by
 intro j o ho e he hb
 have hj:j<ops.size:=(Gs ho)
 have h1:=List.all_eq_true.1 h j (List.mem_range.2 hj)
 rw [ho] at h1
 have h2:=Array.all_eq_true'.1 (show o.after.all (fun e => !(Region.binds .any e) || decide (e.on<j))=true from h1) e he
 rw [hb] at h2
 exact of_decide_eq_true (by simpa using h2)
theorem Yw {id:Nat} {ops:Array Oper} {Q:Exit->Act->World->Prop} {a0:Act} {w:World} {n:Nat} (J:Act->Array Bool->Act->World->Prop)
 (hm:Tryz.prog.follows .mixedOrders=true) (hn:ops.size=n) (hdag:∀ (j:Nat) (o:Oper),ops[j]? = some o->∀ e∈o.after,Region.binds .any e=true->e.on<j) (hsz:∀ l a w,J a0 l a w->l.size=n) (hW:J a0 (Array.replicate n false) a0 w.drew)
 (step:∀ l a w i,J a0 l a w->i∈Region.ready .any ops l->i<n->wpOp Tryz.prog ops Q i (fun a' w'=>J a0 (l.setIfInBounds i true) a' w') a w)
 (fin:∀ l a w,J a0 l a w->(∀ j,j<n->l.getD j false=true)->Q .normal a w):(Code.region id ops true).wp Tryz.prog Q a0 w:=by
 subst hn
 refine wp_region_any hm ?_
 refine Zhd (J a0) (fun l a w i hJ hi=>step l a w i hJ hi ?_) (fun l a w hJ hr=>fin l a w hJ (Zps hdag hr (hsz l a w hJ))) _ _ _ _ hW (by simp)
 obtain ⟨_,o,ho,_⟩:=mem_ready.1 hi
 exact (Gs ho)
theorem Zx {ops:Array Oper} {Q:Exit->Act->World->Prop} {a:Act} {i:Nat} {w:World} {o:Oper} {K:Act->World->Prop} (ho:ops[i]? = some o) (hw:Region.wanted o (yielded ops a.tmps)=true) {f:FuncId} {args:Array Value} (hrun:(execOp a.eval o).run Tryz.prog w = .ok (.enter f args) w)
 (hc:Calls Tryz.prog f args w fun e w''=>∃ v,e = .returned v/\K (a.put o.dst v) w''):wpOp Tryz.prog ops Q i K a w:=by
 unfold wpOp
 simp only [ho]
 rw [if_pos hw]
 refine Or.inl ?_
 unfold Oper.wp
 rw [hrun]
 simp only [Oper.upon]
 refine hc.mono fun e w' he => ?_
 obtain ⟨v,rfl,hK⟩:=he
 exact hK
theorem Ygr {D:List (Nat × Nat)} {n i:Nat} {l:Array Bool} (hs:l.size=n) (hin:i<n) (hx:∀ p∈D,l.getD p.1 false=true->l.getD p.2 false=true) (hp:∀ p∈D,p.1=i->l.getD p.2 false=true) :
 ∀ p∈D,(l.setIfInBounds i true).getD p.1 false=true->(l.setIfInBounds i true).getD p.2 false=true:=fun p hpD e=>by
 rw [Zai l i _ (by omega)] at e ⊢
 by_cases h2:p.2=i
 · rw [if_pos h2]
 · rw [if_neg h2]
   by_cases h1:p.1=i
   · exact hp p hpD h1
   · rw [if_neg h1] at e;exact hx p hpD e
theorem Zi {ops:Array Oper} {l:Array Bool} {i:Nat} (D:List (Nat × Nat)) (hi:i∈Region.ready .any ops l) (h:(D.all fun p=>p.1 != i || ((ops[i]?).any fun o=>o.after.any fun e=>e.on == p.2 && Region.binds .any e))=true):∀ p∈D,p.1=i->l.getD p.2 false=true:=fun p hp e=>by
 have h1:=List.all_eq_true.1 h p hp
 rw [e] at h1
 simp only [bne_self_eq_false,Bool.false_or] at h1
 exact Zb hi p.2 h1
theorem Yz {ops:Array Oper} {Q:Exit->Act->World->Prop} {a:Act} {i:Nat} {w w':World} {o:Oper} {K:Act->World->Prop} {v:Value} (ho:ops[i]? = some o) (hw:Region.wanted o (yielded ops a.tmps)=true) (hrun:(execOp a.eval o).run Tryz.prog w = .ok (.value v) w')
 (hK:K (a.put o.dst v) w'):wpOp Tryz.prog ops Q i K a w:=by
 unfold wpOp
 simp only [ho]
 rw [if_pos hw]
 refine Or.inl ?_
 unfold Oper.wp
 rw [hrun,Oper.upon_value]
 exact hK
structure Zbj (s n c0:Nat) (D C:List (Nat × Nat)) (B B0:World->Prop) (F:Nat->World->Prop) (R:World->Prop) (l:Array Bool) (w:World):Prop where
 sz:l.size=n
 g:l.getD s false=false->B w
 u:l.getD c0 false=false->B0 w
 f:l.getD s false=false->∀ i,i<n->l.getD i false=true->(∀ p∈C,p.1=i->l.getD p.2 false=false)->F i w
 q:l.getD s false=true->R w
 x:l.getD s false=true->∀ j,j<n->l.getD j false=true
 cl:∀ p∈D,l.getD p.1 false=true->l.getD p.2 false=true
section
variable {s n c0 i:Nat} {D C:List (Nat × Nat)} {w w':World} {B B0:World->Prop} {F F':Nat->World->Prop} {R R':World->Prop} {l:Array Bool}
theorem Yb (hb:B w) (h0:B0 w):Zbj s n c0 D C B B0 F R (Array.replicate n false) w :=
 ⟨by simp,fun _=>hb,fun _=>h0,fun _ i _ h=>(by rw [getD_replicate_false] at h;cases h),fun h=>(by rw [getD_replicate_false] at h;cases h),fun h=>(by rw [getD_replicate_false] at h;cases h),fun p _ h=>(by rw [getD_replicate_false] at h;cases h)⟩
theorem Jb (h:Zbj s n c0 D C B B0 F R l w) (hin:i<n) (hun:l.getD i false=false):l.getD s false=false:=by
 cases e:l.getD s false with
 | false=>rfl
 | true=>rw [h.x e i hin] at hun;cases hun
theorem Jx (h:Zbj n n c0 D C B B0 F R l w):l.getD n false=false:=by
 have:=h.sz
 rw [Array.getD_eq_getD_getElem?,Array.getElem?_eq_none (by omega)];rfl
theorem Zu (h:Zbj s n c0 D C B B0 F R l w) (hin:i<n) (hun:l.getD i false=false) (hs:i≠s) (hp:∀ p∈D,p.1=i->l.getD p.2 false=true) (g:B w') (h0:i≠c0->l.getD c0 false=false->B0 w->B0 w') (hk:∀ j,j<n->j≠i->l.getD j false=true->(∀ p∈C,p.1=j->p.2≠i/\l.getD p.2 false=false)->F j w->F' j w') (hF:F' i w'):Zbj s n c0 D C B B0 F' R' (l.setIfInBounds i true) w':=by
 have gs:(l.setIfInBounds i true).getD s false=l.getD s false:=by rw [Zai l i s (by rw [h.sz];exact hin),if_neg (Ne.symm hs)]
 have ns:=Jb h hin hun
 refine ⟨by simp [h.sz],fun _=>g,fun e => ?_,fun _ j hj e hc => ?_,fun e => ?_,fun e => ?_,Ygr h.sz hin h.cl hp⟩
 · rw [Zai l i c0 (by rw [h.sz];exact hin)] at e
   by_cases c:c0=i
   · rw [if_pos c] at e;cases e
   · rw [if_neg c] at e;exact h0 (Ne.symm c) e (h.u e)
 · have hc':∀ p∈C,p.1=j->p.2≠i/\l.getD p.2 false=false:=fun p hp e1=>by
    have h1:=hc p hp e1
    rw [Zai l i p.2 (by rw [h.sz];exact hin)] at h1
    by_cases e2:p.2=i
    · rw [if_pos e2] at h1;cases h1
    · rw [if_neg e2] at h1;exact ⟨e2,h1⟩
   rw [Zai l i j (by rw [h.sz];exact hin)] at e
   by_cases c:j=i
   · subst c;exact hF
   · rw [if_neg c] at e;exact hk j hj c e hc' (h.f ns j hj e fun p hp e1=>(hc' p hp e1).2)
 · rw [gs,ns] at e;cases e
 · rw [gs,ns] at e;cases e
theorem Zxv (h:Zbj s n c0 D C B B0 F R l w) (hin:i<n) (hun:l.getD i false=false) (hs:i≠s) (hp:∀ p∈D,p.1=i->l.getD p.2 false=true) (hF:F i w):Zbj s n c0 D C B B0 F R (l.setIfInBounds i true) w :=
 Zu h hin hun hs hp (h.g (Jb h hin hun)) (fun _ _ h0=>h0) (fun j _ _ _ _ hj=>hj) hF
theorem Xv (h:Zbj s n c0 D C B B0 F R l w) (hin:s<n) (hc0:c0<n) (hall:∀ j,j<n->j≠s->l.getD j false=true) (hp:∀ p∈D,p.1=s->l.getD p.2 false=true) (hq:R w'):Zbj s n c0 D C B B0 F R (l.setIfInBounds s true) w':=by
 have gj:∀ j,j<n->(l.setIfInBounds s true).getD j false=true:=fun j hj=>by
  rw [Zai l s j (by rw [h.sz];exact hin)]
  by_cases e:j=s
  · rw [if_pos e]
  · rw [if_neg e];exact hall j hj e
 refine ⟨by simp [h.sz],fun e => ?_,fun e => ?_,fun e => ?_,fun _=>hq,fun _=>gj,Ygr h.sz hin h.cl hp⟩
 · rw [gj s hin] at e;cases e
 · rw [gj c0 hc0] at e;cases e
 · rw [gj s hin] at e;cases e
end
section
variable {ops:Array Oper} {Q:Exit->Act->World->Prop} {a0 a:Act} {s n c0 i N:Nat} {dst:Nat->Nat} {val:Nat->Value} {D C:List (Nat × Nat)} {B B0:World->Prop} {F:Nat->World->Prop} {R:World->Prop} {l:Array Bool} {w':World} {o:Oper}
theorem Zc (hJ:RJ a0 N n dst val l a) (hW:Zbj s n c0 D C B B0 F R l w') (hR:i∈Region.ready .any ops l) (hun:l.getD i false=false) (ho:ops[i]? = some o) (hw:Region.wanted o (yielded ops a.tmps)=true) (hdst:o.dst=some (dst i)) (hi:i<n) (hd:dst i<N) (hne:∀ j,j<n->j≠i->dst j≠dst i) (hrun:(execOp a.eval o).run Tryz.prog w' = .ok (.value (val i)) w')
 (h:i≠s/\(D.all fun p=>p.1 != i || ((ops[i]?).any fun o=>o.after.any fun e=>e.on == p.2 && Region.binds .any e))=true/\F i w') :
 wpOp Tryz.prog ops Q i (fun a' w''=>RJ a0 N n dst val (l.setIfInBounds i true) a'/\Zbj s n c0 D C B B0 F R (l.setIfInBounds i true) w'') a w' :=
 Ygd (WS:=fun l w=>Zbj s n c0 D C B B0 F R l w) hJ ho hw hdst hi hd hne hrun (Zxv hW hi hun h.1 (Zi D hR h.2.1) h.2.2)
end
theorem Zcc {l:Array Bool} {C:List (Nat × Nat)} {i:Nat} (h:i ∉ C.map Prod.fst):∀ p∈C,p.1=i->l.getD p.2 false=false:=fun p hp e=>absurd (List.mem_map.2 ⟨p,hp,e⟩) h
theorem Zbl {l:Array Bool} {C:List (Nat × Nat)} {i c:Nat} (h:∀ p∈C,p.1=i->p.2=c) (hun:l.getD c false=false):∀ p∈C,p.1=i->l.getD p.2 false=false:=fun p hp e=>by rw [h p hp e];exact hun
theorem Zm {l:Array Bool} {c:Nat} {P:Prop} (h:l.getD c false=true) (hun:l.getD c false=false):P:=by rw [hun] at h;cases h
end Go.Proofs.YteciblfmgdlipaaGreatDoor.CK
namespace Go.Proofs.YteciblfmgdlipaaGreatDoor.AS
open Go.RowKit Go.Great CK
def Zdq (w:World) (p:Option Addr) (d:Txt):Prop:=0<d.length->∃ b o,p=some ⟨b,o,none⟩/\b<w.heap.size/\∀ (i:Nat) (c:UInt8),d[i]? = some c->w.cell? ⟨b,o+i,none⟩=some (.int .u8 (c.toNat:Int))
theorem Zik {w w':World} {p:Option Addr} {d:Txt} (h:Zdq w p d) (g:w.grownBy w' none):Zdq w' p d:=fun h0=>by
 obtain ⟨b,o,e,hb,hc⟩:=h h0
 exact ⟨b,o,e,Nat.lt_of_lt_of_le hb g.size,fun i c hi=>g.cell (hc i c hi) (by simp)⟩
theorem Ydq (w:World) (c:UInt8):Buf (w.alloc (.cells #[.int .u8 (c.toNat:Int)] 5)) w.heap.size (.slice (some ⟨w.heap.size,0,none⟩) 1 1) [c] :=
 World.ownsRow_lit (e:=5) (size:=1) w #[.int .u8 (c.toNat:Int)] 1 (Nat.le_refl _) (by decide) rfl
theorem Zsj (k:IntKind) (x y z u:Int):∀ v∈[Value.int k x,Value.int k y,Value.int k z,Value.int k u],v.oneCell'=true:=by
 intro v hv
 simp at hv
 rcases hv with rfl|rfl|rfl|rfl <;> rfl
theorem Zha {w2:World} {E:Nat} {v:Value} {acc s:Txt} (h:w2.ownsRow E 5 1 v (acc.length+s.length) (bvs acc++bvs s)):Buf w2 E v (acc++s):=by
 unfold Buf
 rw [Zkj,List.length_append]
 exact h
theorem Zbw {E:Nat} {wr:World} (h:E<=wr.heap.size) (o:Obj):E<=(wr.alloc o).heap.size:=by simp;omega
def qt9:Nat->Nat
 | 0=>35
 | 1=>36
 | 2=>37
 | 3=>38
 | 4=>39
 | 5=>40
 | 6=>41
 | 7=>42
 | 8=>43
 | 9=>3
 | _=>5000
theorem Zck:∀ i,i<10->∀ j,j<10->j≠i->qt9 j≠qt9 i:=by decide
theorem Zjh (i:Nat) (h:i<10):i=0\/i=1\/i=2\/i=3\/i=4\/i=5\/i=6\/i=7\/i=8\/i=9:=by omega
theorem Zux (j:Nat) (hj:j∈[5]):∀ i,i<10->qt9 i≠j:=by revert j;decide
def Zjg (E na c0:Nat) (cv h1 h2 d1 d2:Int) (p0:Option Addr) (ys:List Value) (q2:Nat) (gv:Nat) (cv9:Nat):Nat->Value
 | 0 => .slice p0 na c0
 | 1 => .int .u8 cv
 | 2 => .int .u8 h1
 | 3 => .int .u8 d1
 | 4 => .int .u8 cv
 | 5 => .int .u8 h2
 | 6 => .int .u8 d2
 | 7 => .slice (some ⟨q2,0,none⟩) 4 4
 | 8 => .slice (some ⟨gv,0,none⟩) (na+4) cv9
 | 9 => .slice (some ⟨gv,0,none⟩) (na+4) cv9
 | _=>undef
def Ygz (E na c0:Nat) (cv h1 h2 d1 d2:Int) (p0:Option Addr) (ys:List Value) (q2:Nat) (gv:Nat) (cv9:Nat):Nat->World->Prop
 | 7=>fun w9=>w9.heap[q2]? = some (.cells #[.int .u8 92,.int .u8 120,.int .u8 d1,.int .u8 d2] 5 (0,0))
 | 8=>fun w9=>w9.ownsRow E 5 1 (.slice (some ⟨gv,0,none⟩) (na+4) cv9) (na+4) (ys++[.int .u8 92,.int .u8 120,.int .u8 d1,.int .u8 d2])
 | _=>fun _=>True
theorem Yev {E na c0:Nat} {cv h1 h2 d1 d2:Int} {p0:Option Addr} {ys:List Value} {q2:Nat} {gv:Nat} {cv9:Nat} {q22:Nat} {l:Array Bool} (hcl:∀ p∈([(2,1),(3,2),(5,4),(6,5),(7,3),(7,6),(8,0),(8,7),(9,8)]:List (Nat × Nat)),l.getD (Prod.fst p) false=true->l.getD (Prod.snd p) false=true) (hun:l.getD 7 false=false):∀ i,i<10->l.getD i false=true->qt9 i<49->Zjg E na c0 cv h1 h2 d1 d2 p0 ys q22 gv cv9 i=Zjg E na c0 cv h1 h2 d1 d2 p0 ys q2 gv cv9 i:=by
 intro i hi hl _
 rcases Zjh i hi with rfl|rfl|rfl|rfl|rfl|rfl|rfl|rfl|rfl|rfl
 · rfl
 · rfl
 · rfl
 · rfl
 · rfl
 · rfl
 · rfl
 · exact Zm (hl) hun
 · rfl
 · rfl
theorem Yeu {E na c0:Nat} {cv h1 h2 d1 d2:Int} {p0:Option Addr} {ys:List Value} {q2:Nat} {gv:Nat} {cv9:Nat} {gv2:Nat} {cv92:Nat} {l:Array Bool} (hcl:∀ p∈([(2,1),(3,2),(5,4),(6,5),(7,3),(7,6),(8,0),(8,7),(9,8)]:List (Nat × Nat)),l.getD (Prod.fst p) false=true->l.getD (Prod.snd p) false=true) (hun:l.getD 8 false=false):∀ i,i<10->l.getD i false=true->qt9 i<49->Zjg E na c0 cv h1 h2 d1 d2 p0 ys q2 gv2 cv92 i=Zjg E na c0 cv h1 h2 d1 d2 p0 ys q2 gv cv9 i:=by
 intro i hi hl _
 rcases Zjh i hi with rfl|rfl|rfl|rfl|rfl|rfl|rfl|rfl|rfl|rfl
 · rfl
 · rfl
 · rfl
 · rfl
 · rfl
 · rfl
 · rfl
 · rfl
 · exact Zm (hl) hun
 · exact Zm (hcl (9,8) (by decide) (hl)) hun
theorem Ybc (h:Nat) (hh:h<16):∀ (h2:h<(⟨#[48,49,50,51,52,53,54,55,56,57,97,98,99,100,101,102]⟩:ByteArray).size),(⟨#[48,49,50,51,52,53,54,55,56,57,97,98,99,100,101,102]⟩:ByteArray)[h]'h2=Ydf h:=by
 have:h=0\/h=1\/h=2\/h=3\/h=4\/h=5\/h=6\/h=7\/h=8\/h=9\/h=10\/h=11\/h=12\/h=13\/h=14\/h=15:=by omega
 rcases this with rfl|rfl|rfl|rfl|rfl|rfl|rfl|rfl|rfl|rfl|rfl|rfl|rfl|rfl|rfl|rfl <;> (intro h2;rfl)
theorem Yfs:∀ (x:Fin 256),bits BinOp.and IntKind.u8 (x.val:Int) 15=((x.val % 16:Nat):Int):=by decide
theorem Yds (c:UInt8):bits BinOp.and IntKind.u8 (c.toNat:Int) 15=((c.toNat % 16:Nat):Int):=Yfs ⟨c.toNat,c.toNat_lt⟩
theorem Zzs (w:World) (a b:Int):(Instr.buildSlice 23 4 #[(0,.int .u8 92),(1,.int .u8 120),(2,.int .u8 a),(3,.int .u8 b)]).run Tryz.prog w = .ok (.slice (some ⟨w.heap.size,0,none⟩) 4 4) (w.alloc (.cells #[.int .u8 92,.int .u8 120,.int .u8 a,.int .u8 b] 5)):=by kernel_rfl
theorem Yby {w:World} {e:Nat} {cs:List Value} {t:TypeId} (h:w.heap[e]? = some (.cells cs.toArray t (0,0))):∀ j u,cs[j]? = some u->w.cell? ((⟨e,0,none⟩:Addr).add j)=some u:=fun j u hj=>by
 have e1:((⟨e,0,none⟩:Addr).add j)=⟨e,j,none⟩:=by
  unfold Addr.add
  by_cases h0:j=0 <;> simp [h0]
 rw [e1]
 simp [World.cell?,h,hj]
theorem Ziw {a b c:World} {r:Option Nat} (h:a.grownBy b none) (g:b.grownBy c r):a.grownBy c r:=Za (Zjy h) g
theorem Zuw (d:Txt) (p:Option Addr) (cc:Nat) (w:World) (h:Zdq w p d) (hl:d.length<=70000):Calls Tryz.prog 40 #[.slice p d.length cc] w fun e w'=>e = .returned (.string (bs (Zsi d)))/\w.grownBy w' none:=by
 have HB:=Hq h
 clear h
 obtain ⟨bi,bi0,bi1,bi2,bi3⟩:=info_parts Zar
 go_enter Tryz.func40,Tryz.ntmps40
 go_wp2
 go_loopw [3,9] (fun v i wr=>∃ k:Nat,i = .int .i64 k/\k<=d.length/\Buf wr w.heap.size v (34::(d.take k).flatMap Zob)/\w.grownBy wr none) (fun _ i _=>d.length - (intOf i).toNat)
 case atStart=>exact ⟨0,rfl,Nat.zero_le _,Ydq w 34,Ga _ _ _⟩
 case round =>
  obtain ⟨k,rfl,hk,ho,hg⟩:=hrel
  obtain ⟨acc,hacc⟩:∃ acc,acc=34::(d.take k).flatMap Zob:=⟨_,rfl⟩
  rw [<- hacc] at ho
  have hal:acc.length<=280001:=by
   rw [hacc,List.length_cons]
   have:=Zhi (d.take k)
   have:(d.take k).length<=d.length:=by rw [List.length_take];omega
   omega
  obtain ⟨p0,c0,rfl⟩:=Znt ho
  have OW:=Hq ho
  have GR:=Hq hg
  have hgs:=hg.size
  have cv:=Zlu ho
  have HA:=Hq hacc
  clear ho hg hacc
  by_cases hlt:k<d.length
  · obtain ⟨c,hq⟩:∃ c,d[k]? = some c:=⟨_,List.getElem?_eq_getElem hlt⟩
    obtain ⟨b,o,rfl,hb,hc⟩:=HB.out (by omega)
    have x0:=GR.out.cell (hc k c hq) (by simp)
    have hb2:=Nat.lt_of_lt_of_le hb GR.out.size
    have NX:=Hq (show acc++Zob c=34::(d.take (k+1)).flatMap Zob by rw [HA.out,Zul d k c hq];rfl)
    have c255:=c.toNat_lt
    clear hc hq
    by_cases he:c.toNat=34\/c.toNat=92
    · have QC:=Hq (Zyk he)
      have fin:∀ (v:Value) (w5:World),w5.ownsRow w.heap.size 5 1 v (acc.length+2) (bvs acc++[.int .u8 92,.int .u8 (c.toNat:Int)])->Buf w5 w.heap.size v (34::(d.take (k+1)).flatMap Zob):=fun v w5 h=>by
       rw [<- NX.out,QC.out];exact Zha h
      have FI:=Hq fin
      clear fin
      rcases (by omega:(c.toNat:Int)=34\/(c.toNat:Int)=92) with e1|e1
      all_goals
       clear he
       rw [e1] at x0 FI
       go_wp2_with (at_builtin;refine wpList_append_own_at _ rfl _ _ 23 rfl w.heap.size 5 bi (.int .u8 0) 1 1 Xu bi0 bi1 bi2 bi3 rfl (by decide) (.slice p0 acc.length c0) _ _ rfl (World.ownsRow.alloc OW.out _) ⟨wr.heap.size,0,none⟩ 2 2 _ rfl rfl (Ybm _ _ _ _) (Zxx _ _ _) (by unfold maxLen;omega) (by omega) (Zbw hgs _) ?_;intro v3 w5 hown3 hgr3 hnil3 hat3;obtain ⟨p3,k3,hv3⟩:=Zk hown3;subst hv3;have OW3:=Hq hown3;have GR3:=Hq hgr3;clear hown3 hgr3 hnil3 hat3)
       exact ⟨⟨k+1,by go_num,by omega,FI.out _ _ OW3.out,Xg (Za GR.out (Ga _ _ none)) GR3.out (fun q hq=>(World.ownsRow.lt OW.out q hq).1)⟩,by simp [intOf];omega⟩
    · have e34:((c.toNat:Int) == 34)=false:=beq_eq_false_iff_ne.2 (by omega)
      have e92:((c.toNat:Int) == 92)=false:=beq_eq_false_iff_ne.2 (by omega)
      by_cases h2:c.toNat<32\/126<c.toNat
      · obtain ⟨x1,hx1⟩:∃ x,x=c.toNat / 16:=⟨_,rfl⟩
        obtain ⟨x2,hx2⟩:∃ x,x=c.toNat % 16:=⟨_,rfl⟩
        have hsh:(c.toNat:Int) / 16=(x1:Int):=by omega
        have han:=Yds c
        have hlt1:(x1:Int)<16:=by omega
        have hlt2:(x2:Int)<16:=by omega
        have hy1:=Ybc x1 (by omega)
        have hy2:=Ybc x2 (by omega)
        have QC0:=Zyj he h2
        rw [<- hx2] at han QC0
        rw [<- hx1] at QC0
        generalize Ydf x1=y1 at *
        generalize Ydf x2=y2 at *
        have QC:=Hq QC0
        clear QC0 hx1 hx2
        rcases (by omega:(c.toNat:Int)<32\/(¬ (c.toNat:Int)<32/\126<(c.toNat:Int))) with e1|⟨e1,e2⟩
        all_goals
         clear h2
         go_upto_region 9 with fail
         refine Yw (n:=10) (J:=fun a0 l a1 w1=>∃ (q2:Nat) (gv:Nat) (cv9:Nat),RJ a0 49 10 qt9 (Zjg w.heap.size acc.length c0 (c.toNat:Int) (x1:Int) (x2:Int) (y1.toNat:Int) (y2.toNat:Int) p0 (bvs acc) q2 gv cv9) l a1/\Zbj 10 10 8 [(2,1),(3,2),(5,4),(6,5),(7,3),(7,6),(8,0),(8,7),(9,8)] [(7,8)] (fun w9=>World.grownBy wr.drew w9 (Value.slice p0 acc.length c0).ownBlock) (fun w9=>w9.ownsRow w.heap.size 5 1 (.slice p0 acc.length c0) acc.length (bvs acc)) (Ygz w.heap.size acc.length c0 (c.toNat:Int) (x1:Int) (x2:Int) (y1.toNat:Int) (y2.toNat:Int) p0 (bvs acc) q2 gv cv9) (fun _=>True) l w1) (by kernel_rfl) rfl (Xm (by kernel_rfl)) (fun l a1 w1 h=>by obtain ⟨_,_,_,h,_⟩:=h;exact h.sz) ⟨0,0,0,Yv rfl,Yb (Zd _ _) (OW.out.drew)⟩ ?step ?fin
         case step =>
          intro l a1 w' i hJJ hi hin
          obtain ⟨q2,gv,cv9,hJ,hW⟩:=hJJ
          have hun:l.getD i false=false:=getD_both (mem_ready.1 hi).1
          have hns:=Jb hW hin hun
          have hg:=hW.g hns
          rcases Zjh i hin with rfl|rfl|rfl|rfl|rfl|rfl|rfl|rfl|rfl|rfl
          · have e3:a1.tmps.getD 3 undef = .slice p0 acc.length c0:=hJ.un 3 (fun i9 hi9 hl9 e9=>by rcases Zjh i9 hi9 with rfl|rfl|rfl|rfl|rfl|rfl|rfl|rfl|rfl|rfl <;> first|exact absurd e9 (by decide)|exact Zm (hW.cl (8,0) (by decide) (hW.cl (9,8) (by decide) (hl9))) hun)
            exact Zg (Zc hJ hW hi hun rfl (by rfl) rfl (by decide) (by decide) (Zck _ (by decide)) (w':=w') (by simp [execOp,resolve,invoke,builtin,Act.eval,e3,hsh,han,hlt1,hlt2,hy1,hy2,go_sem,Zjg]) (⟨by decide,by kernel_rfl,True.intro⟩)) (fun a9 w9 h9=>⟨q2,gv,cv9,h9⟩)
          · have e5:a1.tmps.getD 5 undef = .int .u8 (c.toNat:Int):=hJ.un 5 (fun i hi _=>Zux 5 (by decide) i hi)
            exact Zg (Zc hJ hW hi hun rfl (by rfl) rfl (by decide) (by decide) (Zck _ (by decide)) (w':=w') (by simp [execOp,resolve,invoke,builtin,Act.eval,e5,hsh,han,hlt1,hlt2,hy1,hy2,go_sem,Zjg]) (⟨by decide,by kernel_rfl,True.intro⟩)) (fun a9 w9 h9=>⟨q2,gv,cv9,h9⟩)
          · have e36:a1.tmps.getD 36 undef = .int .u8 (c.toNat:Int):=(Ze hJ hi 1 (by kernel_rfl))
            exact Zg (Zc hJ hW hi hun rfl (by rfl) rfl (by decide) (by decide) (Zck _ (by decide)) (w':=w') (by simp [execOp,resolve,invoke,builtin,Act.eval,e36,hsh,han,hlt1,hlt2,hy1,hy2,go_sem,Zjg]) (⟨by decide,by kernel_rfl,True.intro⟩)) (fun a9 w9 h9=>⟨q2,gv,cv9,h9⟩)
          · have e37:a1.tmps.getD 37 undef = .int .u8 (x1:Int):=(Ze hJ hi 2 (by kernel_rfl))
            exact Zg (Zc hJ hW hi hun rfl (by rfl) rfl (by decide) (by decide) (Zck _ (by decide)) (w':=w') (by simp [execOp,resolve,invoke,builtin,Act.eval,e37,hsh,han,hlt1,hlt2,hy1,hy2,go_sem,Zjg]) (⟨by decide,by kernel_rfl,True.intro⟩)) (fun a9 w9 h9=>⟨q2,gv,cv9,h9⟩)
          · have e5:a1.tmps.getD 5 undef = .int .u8 (c.toNat:Int):=hJ.un 5 (fun i hi _=>Zux 5 (by decide) i hi)
            exact Zg (Zc hJ hW hi hun rfl (by rfl) rfl (by decide) (by decide) (Zck _ (by decide)) (w':=w') (by simp [execOp,resolve,invoke,builtin,Act.eval,e5,hsh,han,hlt1,hlt2,hy1,hy2,go_sem,Zjg]) (⟨by decide,by kernel_rfl,True.intro⟩)) (fun a9 w9 h9=>⟨q2,gv,cv9,h9⟩)
          · have e39:a1.tmps.getD 39 undef = .int .u8 (c.toNat:Int):=(Ze hJ hi 4 (by kernel_rfl))
            exact Zg (Zc hJ hW hi hun rfl (by rfl) rfl (by decide) (by decide) (Zck _ (by decide)) (w':=w') (by simp [execOp,resolve,invoke,builtin,Act.eval,e39,hsh,han,hlt1,hlt2,hy1,hy2,go_sem,Zjg]) (⟨by decide,by kernel_rfl,True.intro⟩)) (fun a9 w9 h9=>⟨q2,gv,cv9,h9⟩)
          · have e40:a1.tmps.getD 40 undef = .int .u8 (x2:Int):=(Ze hJ hi 5 (by kernel_rfl))
            exact Zg (Zc hJ hW hi hun rfl (by rfl) rfl (by decide) (by decide) (Zck _ (by decide)) (w':=w') (by simp [execOp,resolve,invoke,builtin,Act.eval,e40,hsh,han,hlt1,hlt2,hy1,hy2,go_sem,Zjg]) (⟨by decide,by kernel_rfl,True.intro⟩)) (fun a9 w9 h9=>⟨q2,gv,cv9,h9⟩)
          · have e38:a1.tmps.getD 38 undef = .int .u8 (y1.toNat:Int):=(Ze hJ hi 3 (by kernel_rfl))
            have e41:a1.tmps.getD 41 undef = .int .u8 (y2.toNat:Int):=(Ze hJ hi 6 (by kernel_rfl))
            have f38:=e38
            rw [Array.getD_eq_getD_getElem?] at f38
            have f41:=e41
            rw [Array.getD_eq_getD_getElem?] at f41
            refine Yz (v:=Zjg w.heap.size acc.length c0 (c.toNat:Int) (x1:Int) (x2:Int) (y1.toNat:Int) (y2.toNat:Int) p0 (bvs acc) w'.heap.size gv cv9 7) (w':=w'.alloc (.cells #[.int .u8 92,.int .u8 120,.int .u8 (y1.toNat:Int),.int .u8 (y2.toNat:Int)] 5)) rfl (by rfl) (by simp [execOp,Act.eval,e38,f38,e41,f41,Zzs,Result.andThen,Zjg]) ⟨w'.heap.size,gv,cv9,?_,Zu hW (by decide) hun (by decide) (Zi _ hi (by kernel_rfl)) (Za hg (Ga _ _ _)) (fun hne0 hun0 hB0=>hB0.alloc _) (fun j hj hne hl hcu hF => ?_) (heap_alloc_new w' _)⟩
            · exact Xd (val:=Zjg w.heap.size acc.length c0 (c.toNat:Int) (x1:Int) (x2:Int) (y1.toNat:Int) (y2.toNat:Int) p0 (bvs acc) w'.heap.size gv cv9) (Xf hJ (Yev hW.cl hun)) (by decide) (by decide) (Zck _ (by decide))
            · rcases Zjh j hj with rfl|rfl|rfl|rfl|rfl|rfl|rfl|rfl|rfl|rfl
              · exact True.intro
              · exact True.intro
              · exact True.intro
              · exact True.intro
              · exact True.intro
              · exact True.intro
              · exact True.intro
              · exact absurd rfl hne
              · exact Zm (hW.cl (8,7) (by decide) (hl)) hun
              · exact True.intro
          · have e35:a1.tmps.getD 35 undef = .slice p0 acc.length c0:=(Ze hJ hi 0 (by kernel_rfl))
            have e42:a1.tmps.getD 42 undef = .slice (some ⟨q2,0,none⟩) 4 4:=(Ze hJ hi 7 (by kernel_rfl))
            have F7:=hW.f hns 7 (by decide) (Zb hi 7 (by kernel_rfl)) (Zbl (c:=8) (by decide) hun)
            have own:=hW.u hun
            obtain ⟨v8,w8,hap,hown,hgr,-⟩:=run_append_own_at (P:=Tryz.prog) w' w.heap.size 23 23 5 bi (.int .u8 0) 1 1 Xu bi0 bi1 bi2 bi3 rfl (by decide) _ acc.length (bvs acc) own ⟨q2,0,none⟩ 4 4 [.int .u8 92,.int .u8 120,.int .u8 (y1.toNat:Int),.int .u8 (y2.toNat:Int)] rfl (Yby F7) (Zsj _ _ _ _ _) (by unfold maxLen;omega) (by omega) (Nat.le_trans hgs hg.size)
            obtain ⟨gv2,cv92,hv⟩:=Zaw (n:=acc.length+3) hown
            subst hv
            refine Yz (v:=Zjg w.heap.size acc.length c0 (c.toNat:Int) (x1:Int) (x2:Int) (y1.toNat:Int) (y2.toNat:Int) p0 (bvs acc) q2 gv2 cv92 8) (w':=w8) rfl (by rfl) (by simp [execOp,resolve,invoke,builtin,Act.eval,e35,e42,hap,Result.andThen,Zjg]) ⟨q2,gv2,cv92,?_,Zu hW (by decide) hun (by decide) (Zi _ hi (by kernel_rfl)) (Za hg hgr) (fun hne0 hun0 hB0=>absurd rfl hne0) (fun j hj hne hl hcu hF => ?_) (hown)⟩
            · exact Xd (val:=Zjg w.heap.size acc.length c0 (c.toNat:Int) (x1:Int) (x2:Int) (y1.toNat:Int) (y2.toNat:Int) p0 (bvs acc) q2 gv2 cv92) (Xf hJ (Yeu hW.cl hun)) (by decide) (by decide) (Zck _ (by decide))
            · rcases Zjh j hj with rfl|rfl|rfl|rfl|rfl|rfl|rfl|rfl|rfl|rfl
              · exact True.intro
              · exact True.intro
              · exact True.intro
              · exact True.intro
              · exact True.intro
              · exact True.intro
              · exact True.intro
              · exact absurd rfl (hcu (7,8) (by decide) rfl).1
              · exact absurd rfl hne
              · exact True.intro
          · have e43:a1.tmps.getD 43 undef = .slice (some ⟨gv,0,none⟩) (acc.length+4) cv9:=(Ze hJ hi 8 (by kernel_rfl))
            exact Zg (Zc hJ hW hi hun rfl (by rfl) rfl (by decide) (by decide) (Zck _ (by decide)) (w':=w') (by simp [execOp,resolve,invoke,builtin,Act.eval,e43,hsh,han,hlt1,hlt2,hy1,hy2,go_sem,Zjg]) (⟨by decide,by kernel_rfl,True.intro⟩)) (fun a9 w9 h9=>⟨q2,gv,cv9,h9⟩)
         case fin =>
          intro l9 a1 w9 hJJ hl9
          obtain ⟨q2,gv,cv9,hJ,hW⟩:=hJJ
          have hg9:=hW.g (Jx hW)
          have F8:=hW.f (Jx hW) 8 (by decide) (hl9 8 (by decide)) (Zcc (by decide))
          have hput:=Xk hJ rfl hl9 (fun i j h1 h2 h3=>Zck j h2 i h1 h3)
          subst hput
          clear hJ hW hl9
          (try refine hK _ _ ?_)
          simp only [Je,qt9,Zjg,Act.put,List.setIfInBounds_toArray,List.set_cons_zero,List.set_cons_succ]
          have F9:=Hq (show Buf w9 w.heap.size (.slice (some ⟨gv,0,none⟩) (acc.length+4) cv9) (acc++Zob c) by rw [QC.out];exact Zha (s:=[92,120,y1,y2]) F8)
          have GG:=Hq (Xg GR.out (Ziw (Zf (Zd wr none)) hg9) (fun q hq=>(World.ownsRow.lt OW.out q hq).1))
          clear hg9 F8
          go_wp2
          exact ⟨⟨k+1,by go_num,by omega,by rw [<- NX.out];exact F9.out,GG.out⟩,by simp [intOf];omega⟩
      · have QC:=Hq (Zyh he h2)
        have i1:¬ (c.toNat:Int)<32:=by omega
        have i2:¬ 126<(c.toNat:Int):=by omega
        clear he h2
        go_wp2_with (at_builtin;refine wpList_append_own_at _ rfl _ _ 23 rfl w.heap.size 5 bi (.int .u8 0) 1 1 Xu bi0 bi1 bi2 bi3 rfl (by decide) (.slice p0 acc.length c0) _ _ rfl (World.ownsRow.alloc OW.out _) ⟨wr.heap.size,0,none⟩ 1 1 _ rfl rfl (Zcq _ _ _) (Jq _ _) (by unfold maxLen;omega) (by omega) (Zbw hgs _) ?_;intro v3 w5 hown3 hgr3 hnil3 hat3;obtain ⟨p3,k3,hv3⟩:=Zk hown3;subst hv3;have OW3:=Hq hown3;have GR3:=Hq hgr3;clear hown3 hgr3 hnil3 hat3)
        exact ⟨⟨k+1,by go_num,by omega,by rw [<- NX.out,QC.out];exact Zha OW3.out,Xg (Za GR.out (Ga _ _ none)) GR3.out (fun q hq=>(World.ownsRow.lt OW.out q hq).1)⟩,by simp [intOf];omega⟩
  · have hkn:k=d.length:=by omega
    subst hkn
    have HQ:=Hq (show Zsi d=acc++[34] by rw [HA.out,List.take_length];rfl)
    clear hlt
    go_wp2_with (first|(at_builtin;refine wpList_append_own_at _ rfl _ _ 23 rfl w.heap.size 5 bi (.int .u8 0) 1 1 Xu bi0 bi1 bi2 bi3 rfl (by decide) (.slice p0 acc.length c0) _ _ rfl (World.ownsRow.alloc OW.out _) ⟨wr.heap.size,0,none⟩ 1 1 _ rfl rfl (Zcq _ _ _) (Jq _ _) (by unfold maxLen;omega) (by omega) (Zbw hgs _) ?_;intro v3 w5 hown3 hgr3 hnil3 hat3;obtain ⟨p3,k3,hv3⟩:=Zk hown3;subst hv3;have OW3:=Hq hown3;have GR3:=Hq hgr3;clear hown3 hgr3 hnil3 hat3;have cv3:=Zlu (show Buf w5 w.heap.size (.slice p3 (acc++[34]).length k3) (acc++[34]) from by rw [List.length_append];exact Zha OW3.out);rw [List.length_append] at cv3;simp only [List.length_cons,List.length_nil,Nat.zero_add] at cv3))
    go_ret
    rw [HQ.out]
    exact ⟨rfl,Xg (Za GR.out (Ga _ _ none)) GR3.out (fun q hq=>(World.ownsRow.lt OW.out q hq).1)⟩
end Go.Proofs.YteciblfmgdlipaaGreatDoor.AS
