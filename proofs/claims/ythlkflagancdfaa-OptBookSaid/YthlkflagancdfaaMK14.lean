/-
  Part of a proof: contracts of functions and lemmas, each stated by its own theorem. Conditions: as each theorem states.
-/
import Derived.Test.YthlkflagancdfaaMK13
import Derived.Test.YthlkflagancdfaaMK01
import Derived.Deep.QuietTactic
import Derived.BigQuiet
import Derived.Test.YthlkflagancdfaaMK00
set_option linter.unusedSimpArgs false
set_option linter.unusedVariables false
set_option maxRecDepth 100000
set_option maxHeartbeats 16000000
namespace Go.Proofs.Ythlkflagancdfaa.OT
open Go.RowKit Go.Great
open Go.Proofs.Ythlkflagancdfaa.CK
structure P1 where
 D:Value
 dl:List Int
 F:Value
 fl:List FnV
 cc:Nat->List (Int × Int)
def P1.at_ (p:P1) (w:World):Prop:=Pr1 w p.D p.dl p.F p.fl p.cc
def P1.bl (p:P1) (k:Nat):Prop:=PB1 p.D p.F p.fl k
structure Yec (w:World) (A K N:Nat) (G:Nat->Value) (p:Nat->P1):Prop where
 row:w.rowIs A 25 K G
 le:N*3<=K
 g:∀ i,i<N->G (i*3+1)=(p i).D/\G (i*3+2)=(p i).F
 pr:∀ i,i<N->(p i).at_ w
 dj:∀ i j k,i<N->j<N->i≠j->(p i).bl k->¬ (p j).bl k
 nA:∀ i,i<N->¬ (p i).bl A
theorem Xax {w w':World} {A K N:Nat} {G G':Nat->Value} {p:Nat->P1} {i:Nat} {p':P1} (h:Yec w A K N G p) (hi:i<N) (s:Sp (fun k=>(p i).bl k\/k=A) w w') (hr:w'.rowIs A 25 K G') (hG:∀ j,j<N->j≠i->G' (j*3+1)=G (j*3+1)/\G' (j*3+2)=G (j*3+2))
 (hGi:G' (i*3+1)=p'.D/\G' (i*3+2)=p'.F) (hp:p'.at_ w') (loc:∀ k,p'.bl k->(p i).bl k\/w.heap.size<=k):Yec w' A K N G' (fun j=>if j=i then p' else p j):=by
 have hAl:=h.row.lt
 have hlt:∀ j,j<N->∀ k,(p j).bl k->k<w.heap.size:=fun j hj k hk=>Yza (h.pr j hj) hk
 refine ⟨hr,h.le,fun j hj => ?_,fun j hj => ?_,fun a b k ha hb hab hk => ?_,fun j hj => ?_⟩
 · by_cases e:j=i
   · subst e;rw [if_pos rfl];exact hGi
   · rw [if_neg e]
     obtain ⟨q1,q2⟩:=hG j hj e
     rw [q1,q2];exact h.g j hj
 · by_cases e:j=i
   · subst e;rw [if_pos rfl];exact hp
   · rw [if_neg e]
     refine Ygr (h.pr j hj) s fun k hk hk2 => ?_
     rcases hk2 with hk2|rfl
     · exact h.dj j i k hj hi e hk hk2
     · exact h.nA j hj hk
 · by_cases e:a=i
   · subst e
     rw [if_pos rfl] at hk
     rw [if_neg (fun e=>hab e.symm)]
     intro hk2
     rcases loc k hk with h1|h1
     · exact h.dj a b k ha hb hab h1 hk2
     · have:=hlt b hb k hk2;omega
   · rw [if_neg e] at hk
     by_cases e2:b=i
     · subst e2
       rw [if_pos rfl]
       intro hk2
       rcases loc k hk2 with h1|h1
       · exact h.dj a b k ha hb hab hk h1
       · have:=hlt a ha k hk;omega
     · rw [if_neg e2]
       exact h.dj a b k ha hb hab hk
 · by_cases e:j=i
   · subst e;rw [if_pos rfl]
     intro hk
     rcases loc A hk with h1|h1
     · exact h.nA j hj h1
     · omega
   · rw [if_neg e];exact h.nA j hj
def mkC (i k n:Nat):List (Int × Int):=(List.range n).map fun j:Nat=>(1000*(i:Int)+(k:Int),(j:Int))
theorem Zfd (i k n:Nat):(mkC i k n).length=n:=by simp [mkC]
theorem Yhw {i k n j:Nat} (h:j<n):(mkC i k n)[j]? = some (1000*(i:Int)+(k:Int),(j:Int)):=by simp [mkC,h]
theorem Yzu {l:List (Int × Int)} {i k n:Nat} (hl:l.length=n) (h:∀ j,j<n->l[j]? = some (1000*(i:Int)+(k:Int),(j:Int))):l=mkC i k n:=by
 apply List.ext_getElem?
 intro j
 by_cases hj:j<n
 · rw [h j hj,Yhw hj]
 · rw [List.getElem?_eq_none (by omega),List.getElem?_eq_none (by rw [Zfd];omega)]
def Yda (i k:Nat):List (Int × Int):=[(-(1000*(i:Int)) - (k:Int) - 1,0),(-(1000*(i:Int)) - (k:Int) - 1,0)]
def Zok (i j:Nat):Int:=((i:Int)*37+(j:Int)) % 256
def Yiu (i:Nat):List Int:=[(i:Int),(i:Int)+1]
def mkD (i n:Nat):List Int:=(List.range n).map (Zok i)
theorem Zdz (i n:Nat):(mkD i n).length=n:=by simp [mkD]
theorem Yhv {i n j:Nat} (h:j<n):(mkD i n)[j]? = some (Zok i j):=by simp [mkD,h]
theorem Yzt {l:List Int} {i n:Nat} (hl:l.length=n) (h:∀ j,j<n->l[j]? = some (Zok i j)):l=mkD i n:=by
 apply List.ext_getElem?
 intro j
 by_cases hj:j<n
 · rw [h j hj,Yhv hj]
 · rw [List.getElem?_eq_none (by omega),List.getElem?_eq_none (by rw [Zdz];omega)]
structure Zzd (i:Nat) (p0 p:P1):Prop where
 d:p.dl=mkD i p0.dl.length++Yiu i
 fl:p.fl.length=p0.fl.length+1
 code:∀ k,k<p0.fl.length->∃ v,p.fl[k]? = some (1000*(i:Int)+(k:Int),0,0,v)/\p.cc k=mkC i k (p0.cc k).length++Yda i k
 last:p.fl[p0.fl.length]? = some (-1 - (i:Int),0,0,.slice none 0 0)
structure Ysk (ws wr:World) (p0:P1) (i k:Nat) (fl:List FnV) (cc:Nat->List (Int × Int)):Prop where
 pr:Pr1 wr p0.D p0.dl p0.F fl cc
 sp:Sp p0.bl ws wr
 len:fl.length=p0.fl.length
 done:∀ m,m<k->∃ v,fl[m]? = some (1000*(i:Int)+(m:Int),0,0,v)/\cc m=mkC i m (p0.cc m).length++Yda i m
 rest:∀ m,k<=m->fl[m]? = p0.fl[m]? /\ cc m=p0.cc m
 loc:∀ x∈fl,∀ b,x.2.2.2.ownBlock=some b->p0.bl b\/ws.heap.size<=b
theorem Ydg {ws:World} {p0:P1} (i:Nat) (h:p0.at_ ws):Ysk ws ws p0 i 0 p0.fl p0.cc :=
 ⟨h,Zez _ _,rfl,fun m hm=>absurd hm (Nat.not_lt_zero _),fun m _=>⟨rfl,rfl⟩,fun x hx b hb=>Or.inl (Or.inr (Or.inr ⟨x,hx,hb⟩))⟩
theorem Yjl {ws w1 w':World} {p0:P1} {i k gF nF cF:Nat} {fl:List FnV} {cc cc':Nat->List (Int × Int)} {old v':Value} {a l r:Int} (h:Ysk ws w1 p0 i k fl cc) (hk:k<p0.fl.length) (hpr:Pr1 w' p0.D p0.dl p0.F fl cc') (hcc:∀ m,m≠k->cc' m=cc m) (hs:Sp p0.bl ws w') (hold:fl[k]? = some (a,l,r,old))
 (hF:p0.F = .slice (some ⟨gF,0,none⟩) nF cF) (hX:Yqv w' fl k ws.heap.size old v' (mkC i k (p0.cc k).length++Yda i k)) :
 Ysk ws ((((w'.setCell ⟨gF,k*4,none⟩ (.int .i64 (1000*(i:Int)+(k:Int)))).setCell ⟨gF,k*4+1,none⟩ (.int .i64 0)).setCell ⟨gF,k*4+2,none⟩ (.int .i64 0)).setCell ⟨gF,k*4+3,none⟩ v') p0 i (k+1) (fl.set k (1000*(i:Int)+(k:Int),0,0,v')) (fun m=>if m=k then mkC i k (p0.cc k).length++Yda i k else cc' m):=by
 have hb:p0.bl gF:=Or.inr (Or.inl (by rw [hF];rfl))
 have hkl:k<fl.length:=by rw [h.len];exact hk
 refine ⟨Yud hpr hF hX,Zih (Zih (Zih (Zih hs hb) hb) hb) hb,by rw [List.length_set];exact h.len,fun m hm => ?_,fun m hm => ?_,fun x hx b hxb => ?_⟩
 · by_cases e:m=k
   · subst e
     exact ⟨v',by rw [List.getElem?_set,if_pos rfl,if_pos hkl],by rw [if_pos rfl]⟩
   · rw [List.getElem?_set,if_neg (fun e2=>e e2.symm),if_neg e,hcc m e]
     exact h.done m (by omega)
 · have e:m≠k:=by omega
   rw [List.getElem?_set,if_neg (fun e2=>e e2.symm),if_neg e,hcc m e]
   exact h.rest m (by omega)
 · obtain ⟨m,hm⟩:=List.mem_iff_getElem?.1 hx
   rw [List.getElem?_set] at hm
   by_cases e:k=m
   · rw [if_pos e,if_pos hkl] at hm
     injection hm with hm;subst hm
     rcases hX.loc b hxb with h1|h1
     · exact h.loc _ (List.mem_of_getElem? hold) b h1
     · exact Or.inr h1
   · rw [if_neg e] at hm
     exact h.loc x (List.mem_of_getElem? hm) b hxb
def Yly (A N:Nat) (p:Nat->P1) (k:Nat):Prop:=k=A\/∃ i,i<N/\(p i).bl k
theorem Yyc {w:World} {p0:P1} {D F:Value} {dl:List Int} {fl:List FnV} {cc:Nat->List (Int × Int)} {A s i:Nat} {v:Value} (h:Pr1 w D dl F fl cc) (loc:∀ k,PB1 D F fl k->p0.bl k\/s<=k) (nA:¬ p0.bl A) (hA:A<s):Pr1 (w.setCell ⟨A,i,none⟩ v) D dl F fl cc :=
 Ygr (P:=fun k=>k=A) h (Yf (Zh w A i v) fun k _ e=>by injection e with e;exact e.symm) fun k hk e=>by
  subst e
  rcases loc k hk with h1|h1
  · exact nA h1
  · omega
theorem Ypw {ws:World} {p0:P1} {i:Nat} {fl:List FnV} {cc:Nat->List (Int × Int)} {D F:Value} {d:List Int} {w1:World} (h:Ysk ws w1 p0 i p0.fl.length fl cc) (hd:d=mkD i p0.dl.length):Zzd i p0 ⟨D,d++Yiu i,F,fl++[(-1 - (i:Int),0,0,.slice none 0 0)],fun m=>if m<fl.length then cc m else []⟩:=by
 refine ⟨by rw [hd],by simp [h.len],fun k hk => ?_,?_⟩
 · obtain ⟨v,h1,h2⟩:=h.done k hk
   have hkl:k<fl.length:=by rw [h.len];exact hk
   exact ⟨v,by simp only [];rw [List.getElem?_append_left hkl];exact h1,by simp only [];rw [if_pos hkl];exact h2⟩
 · simp only []
   rw [<- h.len,List.getElem?_append_right (Nat.le_refl _)]
   simp
theorem Ytj {P Q:Nat->Prop} {w w':World} (h:Sp P w w') (e:∀ k,P k->Q k):Sp Q w w':=Yo (Zez _ _) h fun k _ hk=>e k hk
theorem Xeu {ws w1 wr w8:World} {A K N q:Nat} {G':Nat->Value} {p':Nat->P1} {fl:List FnV} {cc:Nat->List (Int × Int)} {d:List Int} {o:Obj} {v8:Value} (HS:Yec ws A K N G' p') (hq:q<N) (HI:Ysk ws w1 (p' q) q (p' q).fl.length fl cc) (hP:Pr1 wr (p' q).D d (p' q).F fl cc) (hsp:Sp (p' q).bl ws wr)
 (hown:w8.ownsRow 0 52 4 v8 (fl.length+1) (Zcr fl++[.int .i64 (-1 - (q:Int)),.int .i64 0,.int .i64 0,.slice none 0 0])) (hg:(wr.alloc o).grownBy w8 (p' q).F.ownBlock) (hat:v8.ownBlock=(p' q).F.ownBlock\/v8.ownBlock=some (wr.alloc o).heap.size) :
 Pr1 (w8.setCell ⟨A,q*3+2,none⟩ v8) (p' q).D d v8 (fl++[(-1 - (q:Int),0,0,.slice none 0 0)]) (fun m=>if m<fl.length then cc m else [])/\Sp (fun k=>(p' q).bl k\/k=A) ws (w8.setCell ⟨A,q*3+2,none⟩ v8)/\(w8.setCell ⟨A,q*3+2,none⟩ v8).rowIs A 25 K (fun j=>if j=q*3+2 then v8 else G' j) /\
  (∀ k,PB1 (p' q).D v8 (fl++[(-1 - (q:Int),0,0,.slice none 0 0)]) k->(p' q).bl k\/ws.heap.size<=k)/\w8.rowIs A 25 K G':=by
 have pr8:=Ynk hP hg hown
 have sp8:Sp (p' q).bl ws w8:=Yo (Yo hsp (Yf (P:=(p' q).bl) (Ga wr o none) (by simp)) (fun _ _ h=>h)) (Yf (P:=(p' q).bl) hg fun b _ e=>Or.inr (Or.inl e)) (fun _ _ h=>h)
 have row8:=Yrh HS.row sp8 (HS.nA q hq)
 have loc:∀ k,PB1 (p' q).D v8 (fl++[(-1 - (q:Int),0,0,.slice none 0 0)]) k->(p' q).bl k\/ws.heap.size<=k:=fun k hk=>by
  rcases hk with e|e|⟨x,hx,e⟩
  · exact Or.inl (Or.inl e)
  · rcases hat with e2|e2
    · rw [e2] at e;exact Or.inl (Or.inr (Or.inl e))
    · rw [e2] at e;injection e with e
      have:=hsp.size
      rw [World.size_alloc] at e
      right;omega
  · rcases List.mem_append.1 hx with hx|hx
    · exact HI.loc x hx k e
    · simp at hx;subst hx;cases e
 exact ⟨Yyc pr8 loc (HS.nA q hq) HS.row.lt,Zih (Ytj sp8 fun _ h=>Or.inl h) (Or.inr rfl),row8.set _ _,loc,row8⟩
theorem Xev {ws w9 wF:World} {A K N q:Nat} {G' G9:Nat->Value} {p':Nat->P1} {fl:List FnV} {cc:Nat->List (Int × Int)} {d:List Int} {o:Obj} {v8 vF:Value} {zs:List Int} (HS:Yec ws A K N G' p') (hq:q<N) (hP:Pr1 w9 (p' q).D d v8 fl cc) (hsp:Sp (fun k=>(p' q).bl k\/k=A) ws w9) (hrow:w9.rowIs A 25 K G9) (loc:∀ k,PB1 (p' q).D v8 fl k->(p' q).bl k\/ws.heap.size<=k)
 (hown:wF.ownsRow 0 5 1 vF (d.length+zs.length) (d.map (Value.int .u8)++zs.map (Value.int .u8))) (hg:(w9.alloc o).grownBy wF (p' q).D.ownBlock) (hat:vF.ownBlock=(p' q).D.ownBlock\/vF.ownBlock=some (w9.alloc o).heap.size) :
 Pr1 (wF.setCell ⟨A,q*3+1,none⟩ vF) vF (d++zs) v8 fl cc/\Sp (fun k=>(p' q).bl k\/k=A) ws (wF.setCell ⟨A,q*3+1,none⟩ vF)/\(wF.setCell ⟨A,q*3+1,none⟩ vF).rowIs A 25 K (fun j=>if j=q*3+1 then vF else G9 j) /\
  (∀ k,PB1 vF v8 fl k->(p' q).bl k\/ws.heap.size<=k)/\wF.rowIs A 25 K G9:=by
 have pr8:=Ynm hP hg hown
 have sp8:Sp (fun k=>(p' q).bl k\/k=A) ws wF:=Yo (Yo hsp (Yf (P:=fun k=>(p' q).bl k\/k=A) (Ga w9 o none) (by simp)) (fun _ _ h=>h)) (Yf (P:=fun k=>(p' q).bl k\/k=A) hg fun b _ e=>Or.inl (Or.inl e)) (fun _ _ h=>h)
 have row8:wF.rowIs A 25 K G9:=by
  have r1:(w9.alloc o).rowIs A 25 K G9:=Zzm hrow (Ga w9 o none) (by simp)
  exact Zzm r1 hg fun e=>HS.nA q hq (Or.inl e)
 have loc2:∀ k,PB1 vF v8 fl k->(p' q).bl k\/ws.heap.size<=k:=fun k hk=>by
  rcases hk with e|e
  · rcases hat with e2|e2
    · rw [e2] at e;exact Or.inl (Or.inl e)
    · rw [e2] at e;injection e with e
      have:=hsp.size
      rw [World.size_alloc] at e
      right;omega
  · exact loc k (Or.inr e)
 exact ⟨Yyc pr8 loc2 (HS.nA q hq) HS.row.lt,Zih sp8 (Or.inr rfl),row8.set _ _,loc2,row8⟩
theorem Ydf {w ws w1 wE:World} {A K N q:Nat} {G':Nat->Value} {p p':Nat->P1} {fl:List FnV} {cc:Nat->List (Int × Int)} {D F:Value} (HS:Yec ws A K N G' p') (hq:q<N) (HD:∀ m,m<q->Zzd m (p m) (p' m)) (HR:∀ m,q<=m->p' m=p m) (HSP:Sp (Yly A N p) w ws) (HI:Ysk ws w1 (p' q) q (p' q).fl.length fl cc)
 (hP:Pr1 wE D (mkD q (p' q).dl.length++Yiu q) F (fl++[(-1 - (q:Int),0,0,.slice none 0 0)]) (fun m=>if m<fl.length then cc m else [])) (hsp:Sp (fun k=>(p' q).bl k\/k=A) ws wE) (hrow:wE.rowIs A 25 K (fun j=>if j=q*3+1 then D else if j=q*3+2 then F else G' j)) (loc:∀ k,PB1 D F (fl++[(-1 - (q:Int),0,0,.slice none 0 0)]) k->(p' q).bl k\/ws.heap.size<=k) :
 ∃ (G'':Nat->Value) (p'':Nat->P1),Yec wE A K N G'' p''/\(∀ m,m<q+1->Zzd m (p m) (p'' m))/\(∀ m,q+1<=m->p'' m=p m)/\Sp (Yly A N p) w wE:=by
 have hpq:=HR q (Nat.le_refl _)
 obtain ⟨P,hP0⟩:∃ P:P1,P=⟨D,mkD q (p' q).dl.length++Yiu q,F,fl++[(-1 - (q:Int),0,0,Value.slice none 0 0)],fun m=>if m<fl.length then cc m else []⟩:=⟨_,rfl⟩
 have hP2:P.at_ wE:=by rw [hP0];exact hP
 have hloc2:∀ k,P.bl k->(p' q).bl k\/ws.heap.size<=k:=by rw [hP0];exact loc
 refine ⟨_,fun j=>if j=q then P else p' j,Xax (p':=P) HS hq hsp hrow (fun j hj hjq=>⟨?_,?_⟩) ⟨?_,?_⟩ hP2 hloc2,fun m hm => ?_,fun m hm => ?_,?_⟩
 · rw [if_neg (by omega),if_neg (by omega)]
 · rw [if_neg (by omega),if_neg (by omega)]
 · rw [if_pos rfl,hP0]
 · rw [if_neg (by omega),if_pos rfl,hP0]
 · simp only []
   by_cases e:m=q
   · subst e
     rw [if_pos rfl,<- hpq,hP0]
     exact Ypw (ws:=ws) (w1:=w1) HI rfl
   · rw [if_neg e];exact HD m (by omega)
 · simp only []
   rw [if_neg (by omega)];exact HR m (by omega)
 · refine Yo HSP hsp fun k _ hk => ?_
   rcases hk with hk|rfl
   · exact Or.inr ⟨q,hq,by rw [<- hpq];exact hk⟩
   · exact Or.inl rfl
structure Xgl (w:World) (i:Nat) (p0 P:P1) (gF cF gD cD:Nat):Prop where
 F:P.F = .slice (some ⟨gF,0,none⟩) (p0.fl.length+1) cF
 D:P.D = .slice (some ⟨gD,0,none⟩) (p0.dl.length+2) cD
 d:∀ k,k<p0.dl.length->w.cell? ⟨gD,k,none⟩=some (.int .u8 (Zok i k))
 d1:w.cell? ⟨gD,p0.dl.length,none⟩=some (.int .u8 (i:Int))
 d2:w.cell? ⟨gD,p0.dl.length+1,none⟩=some (.int .u8 ((i:Int)+1))
 c:∀ k,k<p0.fl.length->∃ gC cC,w.cell? ⟨gF,k*4,none⟩=some (.int .i64 (1000*(i:Int)+(k:Int)))/\w.cell? ⟨gF,k*4+3,none⟩=some (.slice (some ⟨gC,0,none⟩) ((p0.cc k).length+2) cC)/\(∀ j,j<(p0.cc k).length->w.cell? ⟨gC,j*2,none⟩=some (.int .i64 (1000*(i:Int)+(k:Int)))/\w.cell? ⟨gC,j*2+1,none⟩=some (.int .i64 (j:Int)))/\w.cell? ⟨gC,(p0.cc k).length*2,none⟩=some (.int .i64 (-(1000*(i:Int)) - (k:Int) - 1))/\w.cell? ⟨gC,((p0.cc k).length+1)*2,none⟩=some (.int .i64 (-(1000*(i:Int)) - (k:Int) - 1))
 l:w.cell? ⟨gF,p0.fl.length*4,none⟩=some (.int .i64 (-1 - (i:Int)))
theorem Ypy {w:World} {p0 P:P1} {i:Nat} (h:P.at_ w) (d:Zzd i p0 P):∃ gF cF gD cD,Xgl w i p0 P gF cF gD cD:=by
 have hdl:P.dl.length=p0.dl.length+2:=by rw [d.d,List.length_append,Zdz];rfl
 have hdt:=h.dt
 obtain ⟨gD,cD,eD,lD,hcD⟩:=Ygt hdt (by rw [hdl];omega)
 obtain ⟨gF,cF,eF,hgF,f0,-,-,-,-⟩:=Zrc h d.last
 rw [hdl] at eD hcD
 rw [d.fl] at eF
 refine ⟨gF,cF,gD,cD,eF,eD,fun k hk=>hcD k _ ?_ (by omega),hcD _ _ ?_ (by omega),hcD _ _ ?_ (by omega),fun k hk => ?_,f0⟩
 · rw [List.getElem?_map,d.d,List.getElem?_append_left (by rw [Zdz];exact hk),Yhv hk];rfl
 · rw [List.getElem?_map,d.d,List.getElem?_append_right (by rw [Zdz];exact Nat.le_refl _),Zdz,Nat.sub_self];rfl
 · rw [List.getElem?_map,d.d,List.getElem?_append_right (by rw [Zdz];omega),Zdz,Nat.add_sub_cancel_left];rfl
 · obtain ⟨v,h1,h2⟩:=d.code k hk
   obtain ⟨gF2,cF2,eF2,-,g0,-,-,g3,-⟩:=Zrc h h1
   rw [eF] at eF2
   injection eF2 with e1 e2 e3
   injection e1 with e1;injection e1 with e1
   subst e1
   have ho:=h.each k _ h1
   have hl:(P.cc k).length=(p0.cc k).length+2:=by rw [h2,List.length_append,Zfd];rfl
   obtain ⟨gC,cC,eC,hgC,hcc⟩:=Zx ho (by rw [hl];omega)
   simp only [] at eC g3
   rw [hl] at eC
   refine ⟨gC,cC,g0,by rw [g3,eC],fun j hj => ?_,?_,?_⟩
   · have hjj:(P.cc k)[j]? = some (1000*(i:Int)+(k:Int),(j:Int)):=by rw [h2,List.getElem?_append_left (by rw [Zfd];exact hj),Yhw hj]
     obtain ⟨q1,q2⟩:=Xy _ _ _ _ hjj
     exact ⟨hcc _ _ q1 (by omega),hcc _ _ q2 (by omega)⟩
   · have hjj:(P.cc k)[(p0.cc k).length]? = some (-(1000*(i:Int)) - (k:Int) - 1,0):=by rw [h2,List.getElem?_append_right (by rw [Zfd];exact Nat.le_refl _),Zfd,Nat.sub_self];rfl
     obtain ⟨q1,q2⟩:=Xy _ _ _ _ hjj
     exact hcc _ _ q1 (by omega)
   · have hjj:(P.cc k)[(p0.cc k).length+1]? = some (-(1000*(i:Int)) - (k:Int) - 1,0):=by rw [h2,List.getElem?_append_right (by rw [Zfd];omega),Zfd,Nat.add_sub_cancel_left];rfl
     obtain ⟨q1,q2⟩:=Xy _ _ _ _ hjj
     exact hcc _ _ q1 (by omega)
structure Xfq (N:Nat) (p:Nat->P1):Prop where
 n:N<=100
 fl:∀ i,i<N->(p i).fl.length<=1000
 dl:∀ i,i<N->(p i).dl.length<=1000000
 cc:∀ i,i<N->∀ k,k<(p i).fl.length->0<((p i).cc k).length/\((p i).cc k).length<=1000000
theorem Ymp {w:World} {A K N q:Nat} {G:Nat->Value} {p:Nat->P1} (h:Yec w A K N G p) (hq:q<N):w.cell? ⟨A,q*3+1,none⟩=some (p q).D/\w.cell? ⟨A,q*3+2,none⟩=some (p q).F/\A<w.heap.size:=by
 have hle:=h.le
 obtain ⟨g1,g2⟩:=h.g q hq
 exact ⟨by rw [h.row.cell (by omega),g1],by rw [h.row.cell (by omega),g2],h.row.lt⟩
theorem Zyv {w wr:World} {A K N q:Nat} {G:Nat->Value} {p:Nat->P1} (h:Yec w A K N G p) (hq:q<N) (s:Sp (p q).bl w wr):wr.rowIs A 25 K G:=Yrh h.row s (h.nA q hq)
theorem Zmk {w:World} {A K N q:Nat} {G:Nat->Value} {D F:Value} (h:w.rowIs A 25 K G) (hle:N*3<=K) (hq:q<N) (hD:G (q*3+1)=D) (hF:G (q*3+2)=F):w.cell? ⟨A,q*3+1,none⟩=some D/\w.cell? ⟨A,q*3+2,none⟩=some F/\A<w.heap.size :=
 ⟨by rw [h.cell (by omega),hD],by rw [h.cell (by omega),hF],h.lt⟩
theorem Yro {w:World} {D F:Value} {dl:List Int} {fl:List FnV} {cc cc':Nat->List (Int × Int)} (h:Pr1 w D dl F fl cc) (e:∀ m,cc m=cc' m):Pr1 w D dl F fl cc':=by
 have:cc=cc':=funext e
 rw [<- this];exact h
theorem Yqh {w:World} {D F:Value} {dl:List Int} {fl:List FnV} {cc:Nat->List (Int × Int)} {k g n c:Nat} {a l r:Int} (h:Pr1 w D dl F fl cc) (hk:fl[k]? = some (a,l,r,.slice (some ⟨g,0,none⟩) n c)):n=(cc k).length/\(∀ j x y,(cc k)[j]? = some (x,y)->w.cell? ⟨g,j*2,none⟩=some (.int .i64 x)/\w.cell? ⟨g,j*2+1,none⟩=some (.int .i64 y))/\(∀ j,w.frozen? ⟨g,j,none⟩=false):=by
 have ho:=h.each k _ hk
 obtain ⟨p,c',e⟩:=Zp ho
 injection e with e1 e2 e3
 refine ⟨e2,fun j x y hj => ?_,Ye ho⟩
 have hl:=(List.getElem?_eq_some_iff.1 hj).1
 obtain ⟨g',k',e,-,hc⟩:=Zx ho (by omega)
 simp only [] at e
 injection e with d1 d2 d3
 injection d1 with d1;injection d1 with d1
 subst d1
 obtain ⟨q1,q2⟩:=Xy _ _ _ _ hj
 exact ⟨hc _ _ q1 (by omega),hc _ _ q2 (by omega)⟩
theorem Ynj {w:World} {D F:Value} {dl:List Int} {fl:List FnV} {cc:Nat->List (Int × Int)} {k g n c j:Nat} {a l r x y:Int} {d:List (Int × Int)} (h:Pr1 w D dl F fl (fun m=>if m=k then d else cc m)) (hk:fl[k]? = some (a,l,r,.slice (some ⟨g,0,none⟩) n c)):Pr1 ((w.setCell ⟨g,j*2,none⟩ (.int .i64 x)).setCell ⟨g,j*2+1,none⟩ (.int .i64 y)) D dl F fl (fun m=>if m=k then d.set j (x,y) else cc m):=by
 refine Yro (Ynn (j:=j) (x:=x) (y:=y) h hk) fun m => ?_
 by_cases e:m=k
 · rw [if_pos e,if_pos e,if_pos rfl]
 · rw [if_neg e,if_neg e,if_neg e]
theorem Ycg {l:List (Int × Int)} {q k j n:Nat} (hl:l.length=n) (hj:j<n) (h:∀ i,i<j->l[i]? = some (1000*(q:Int)+(k:Int),(i:Int))):∀ i,i<j+1->(l.set j (1000*(q:Int)+(k:Int),(j:Int)))[i]? = some (1000*(q:Int)+(k:Int),(i:Int)):=fun i hi=>by
 rw [List.getElem?_set]
 by_cases e:j=i
 · subst e
   rw [if_pos rfl,if_pos (by omega)]
 · rw [if_neg e];exact h i (by omega)
theorem Ycf {l:List Int} {q j n:Nat} (hl:l.length=n) (hj:j<n) (h:∀ i,i<j->l[i]? = some (Zok q i)):∀ i,i<j+1->(l.set j (Zok q j))[i]? = some (Zok q i):=fun i hi=>by
 rw [List.getElem?_set]
 by_cases e:j=i
 · subst e
   rw [if_pos rfl,if_pos (by omega)]
 · rw [if_neg e];exact h i (by omega)
theorem Yqd {w:World} {fl:List FnV} {k s i j:Nat} {old v:Value} {c:List (Int × Int)} (h:Yqv w fl k s old v (c++Yda i j)):∃ p n,v = .slice p (c.length+2) n:=by
 obtain ⟨p,n,e⟩:=Zp h.own
 exact ⟨p,n,by rw [e,List.length_append];rfl⟩
theorem Ywe {ws w1:World} {p0:P1} {i k:Nat} {fl:List FnV} {cc:Nat->List (Int × Int)} {x:FnV} (h:Ysk ws w1 p0 i k fl cc) (hk:fl[k]? = some x) {b:Nat} (hb:x.2.2.2.ownBlock=some b):p0.bl b:=by
 have:=(h.rest k (Nat.le_refl _)).1
 rw [hk] at this
 exact Or.inr (Or.inr ⟨x,List.mem_of_getElem? this.symm,hb⟩)
theorem Ywa {A K N q:Nat} {p:Nat->P1} {w wE:World} {i:Value} (h:∃ (G'':Nat->Value) (p'':Nat->P1),Yec wE A K N G'' p''/\(∀ m,m<q+1->Zzd m (p m) (p'' m))/\(∀ m,q+1<=m->p'' m=p m)/\Sp (Yly A N p) w wE) (hi:i = .int .i64 (q+1:Nat)) (hq:q<N) :
 ∃ (q:Nat) (G':Nat->Value) (p':Nat->P1),i = .int .i64 q/\q<=N/\Yec wE A K N G' p'/\(∀ m,m<q->Zzd m (p m) (p' m))/\(∀ m,q<=m->p' m=p m)/\Sp (Yly A N p) w wE:=by
 obtain ⟨G'',p'',h1,h2,h3,h4⟩:=h
 exact ⟨q+1,G'',p'',hi,hq,h1,h2,h3,h4⟩
theorem Zoi (A cA K N:Nat) (G:Nat->Value) (p:Nat->P1) (w:World) (hN:0<N) (hok:Xfq N p) (h:Yec w A K N G p) :
 Calls Try.prog 19 #[.slice (some ⟨A,0,none⟩) N cA] w fun e w'=>e = .returned (.bool true)/\Sp (Yly A N p) w w':=by
 have H0:=Hq h
 have OK:=Hq hok
 have hn:=hok.n
 have hni:(N:Int)<=100:=by omega
 obtain ⟨ii,ii0,ii1,ii2,ii3⟩:=info_parts Zjb
 obtain ⟨fi,fi0,fi1,fi2,fi3⟩:=info_parts Zlr
 obtain ⟨bi,bi0,bi1,bi2,bi3⟩:=info_parts Zjl
 clear h hok
 go_enter Try.func19,Try.ntmps19
 go_wp2
 go_loopw [3] (fun i wr=>∃ (q:Nat) (G':Nat->Value) (p':Nat->P1),i = .int .i64 q/\q<=N/\Yec wr A K N G' p'/\(∀ m,m<q->Zzd m (p m) (p' m))/\(∀ m,q<=m->p' m=p m)/\Sp (Yly A N p) w wr) (fun i _=>N - (intOf i).toNat)
 case atStart=>exact ⟨0,G,p,rfl,Nat.zero_le _,H0.out,fun m hm=>absurd hm (Nat.not_lt_zero _),fun m _=>rfl,Zez _ _⟩
 case round =>
  obtain ⟨q,G',p',rfl,hq,hS,hdone,hrest,hsp⟩:=hrel
  have HS:=Hq hS
  have HD:=Hq hdone
  have HR:=Hq hrest
  have HSP:=Hq hsp
  by_cases hlt:(q:Int)<(N:Int)
  · have hqN:q<N:=by omega
    have hpq:=hrest q (Nat.le_refl _)
    have hflq:=OK.out.fl q hqN
    have hdlq:=OK.out.dl q hqN
    have hcq:=OK.out.cc q hqN
    rw [<- hpq] at hflq hdlq hcq
    have hfli:((p' q).fl.length:Int)<=1000:=by omega
    have hdli:((p' q).dl.length:Int)<=1000000:=by omega
    have HC:=Hq hcq
    have HP:=Hq hpq
    have hg:=hS.g q hqN
    have HG:=Hq hg
    have hpr:=hS.pr q hqN
    have HPR:=Hq hpr
    obtain ⟨pF,cF,eF⟩:=Zp hpr.fr
    obtain ⟨pD,cD,eD⟩:=Zp hpr.dt
    have EF:=Hq eF
    have ED:=Hq eD
    have g0:=Hq (Ydg q hpr)
    have hqi:(q:Int)<=100:=by omega
    clear hS hdone hrest hsp hcq hg hpr eF eD hpq
    go_wp2
    obtain ⟨ws,hws⟩:∃ ws,ws=wr:=⟨_,rfl⟩
    subst hws
    go_loopw [4] (fun i wr=>∃ (k:Nat) (fl:List FnV) (cc:Nat->List (Int × Int)),i = .int .i64 k/\k<=(p' q).fl.length/\Ysk ws wr (p' q) q k fl cc) (fun i _=>(p' q).fl.length - (intOf i).toNat)
    case atStart=>exact ⟨0,_,_,rfl,Nat.zero_le _,g0.out⟩
    case round =>
     clear g0
     obtain ⟨k,fl,cc,rfl,hk,hI⟩:=hrel
     have HI:=Hq hI
     obtain ⟨c1,c2,lA⟩:=Zmk (Zyv HS.out hqN hI.sp) HS.out.le hqN HG.out.1 HG.out.2
     rw [EF.out] at c2
     by_cases hlt2:(k:Int)<((p' q).fl.length:Int)
     · obtain ⟨⟨a,l,r,old⟩,hkf⟩:∃ x,fl[k]? = some x:=⟨_,List.getElem?_eq_getElem (by rw [hI.len];omega)⟩
       obtain ⟨gF,cF',eF2,hgF,f0,f1,f2,f3,hfz⟩:=Zrc hI.pr hkf
       have HKF:=Hq hkf
       have ho:=hI.pr.each k _ hkf
       have hcck:=(hI.rest k (Nat.le_refl _)).2
       have hcl:=HC.out k (by omega)
       rw [<- hcck] at hcl
       have HCC:=Hq hcck
       obtain ⟨gC,cC,eC,hgC,hcc⟩:=Zx ho hcl.1
       simp only [] at eC f3
       subst eC
       rw [EF.out] at eF2
       injection eF2 with eF3 eF4 eF5
       subst eF3;subst eF5
       have hci:((cc k).length:Int)<=1000000:=by omega
       have HPC:=Hq hI.pr
       have HSC:=Hq hI.sp
       have HBC:=Hq (Ywe hI hkf (b:=gC) rfl)
       clear hI hkf ho hcck hcc eF4
       go_wp2
       clear c1 c2 lA f0 f1 f2 f3 hfz hgF hgC
       go_loopw [6] (fun i wr=>∃ (j:Nat) (d:List (Int × Int)),i = .int .i64 j/\j<=(cc k).length/\d.length=(cc k).length/\(∀ m,m<j->d[m]? = some (1000*(q:Int)+(k:Int),(m:Int)))/\Pr1 wr (p' q).D (p' q).dl (p' q).F fl (fun m=>if m=k then d else cc m)/\Sp (p' q).bl ws wr) (fun i _=>(cc k).length - (intOf i).toNat)
       case atStart=>exact ⟨0,cc k,rfl,Nat.zero_le _,rfl,fun m hm=>absurd hm (Nat.not_lt_zero _),Yro HPC.out fun m=>by by_cases e:m=k <;> simp [e],HSC.out⟩
       case round =>
        clear HPC HSC
        obtain ⟨j,d,rfl,hj,hdl,hmk,hP,hsp⟩:=hrel
        have HP2:=Hq hP
        have HM2:=Hq hmk
        have HS2:=Hq hsp
        by_cases hlt3:(j:Int)<((cc k).length:Int)
        · obtain ⟨⟨x,y⟩,hxy⟩:∃ x,d[j]? = some x:=⟨_,List.getElem?_eq_getElem (by omega)⟩
          obtain ⟨-,hcell,hfz⟩:=Yqh hP HKF.out
          obtain ⟨x0,x1⟩:=hcell j x y (by rw [if_pos rfl];exact hxy)
          have z0:=hfz (j*2)
          have z1:=hfz (j*2+1)
          have l0:=World.block_lt_of_cell? _ _ x0
          clear hP hmk hsp hcell hfz hxy
          go_wp2
          go_roundw
          case rel=>exact ⟨j+1,d.set j (1000*(q:Int)+(k:Int),(j:Int)),by go_num,by omega,by rw [List.length_set];exact hdl,Ycg hdl (by omega) HM2.out,Ynj HP2.out HKF.out,Zih (Zih HS2.out HBC.out) HBC.out⟩
          case measure=>simp [intOf];omega
        · have hd:=Yzu hdl fun m hm=>hmk m (by omega)
          have hP3:Pr1 wr (p' q).D (p' q).dl (p' q).F fl (fun m=>if m=k then mkC q k (cc k).length else cc m):=by rw [<- hd];exact hP
          have HP3:=Hq hP3
          have OWN:=Hq (show wr.ownsRow 0 49 2 (.slice (some ⟨gC,0,none⟩) (cc k).length cC) (cc k).length (Yc (mkC q k (cc k).length)) from by have:=hP3.each k _ HKF.out;rw [if_pos rfl,Zfd] at this;exact this)
          have hc3:(cc k).length+2<=maxLen:=by unfold maxLen;omega
          have hc4:((cc k).length+2)*16<=140737488355328:=by omega
          have hki:(k:Int)<=1000:=by omega
          clear hP hmk hsp hd hP3
          go_wp2_with (at_builtin;refine Zhz rfl _ _ 50 rfl 0 49 ii (.agg #[.int .i64 0,.int .i64 0]) 2 16 Zbw ii0 ii1 ii2 ii3 rfl (by decide) (.slice (some ⟨gC,0,none⟩) (cc k).length cC) _ _ rfl (OWN.out.alloc _) ⟨wr.heap.size,0,none⟩ 2 2 [.int .i64 _,.int .i64 _,.int .i64 _,.int .i64 _] rfl rfl (Zni wr _ _ _ _ _) (Yjo _ _ _ _) hc3 hc4 (by decide) 0 (Nat.zero_le _) (Nat.le_refl _) ?_;intro v9 w9 hr9;have R9:=Yue (zs:=Yda q k) (s:=ws.heap.size) HP3.out HKF.out HS2.out.size (by rw [if_pos rfl,Zfd];exact hr9);obtain ⟨pr9,cx9,g9⟩:=R9;rw [if_pos rfl] at cx9;have PR9:=Hq pr9;have CX9:=Hq cx9;have SP9:=Hq (Yo (Yo HS2.out (Yf (P:=(p' q).bl) (Ga wr _ none) (by simp)) (fun _ _ h=>h)) (Yf (P:=(p' q).bl) g9 fun b _ e=>by injection e with e;subst e;exact HBC.out) (fun _ _ h=>h));have RC:=Zmk (Zyv HS.out hqN SP9.out) HS.out.le hqN HG.out.1 HG.out.2;obtain ⟨c1,c2,lA⟩:=RC;rw [EF.out] at c2;have SEE:=Zrc pr9 HKF.out;obtain ⟨gF2,cF2,eF2,hgF,f0,f1,f2,f3,hfz⟩:=SEE;rw [EF.out] at eF2;injection eF2 with d1 d2 d3;injection d1 with d1;injection d1 with d1;subst d1;have z0:=hfz (k*4);have z1:=hfz (k*4+1);have z2:=hfz (k*4+2);have z3:=hfz (k*4+3);have SL:=Yqd cx9;obtain ⟨p9,c9,e9⟩:=SL;subst e9;clear hr9 pr9 cx9 g9 hfz d2 d3)
          go_roundw
          case rel=>exact ⟨k+1,_,_,by go_num,by omega,Yjl HI.out (by omega) PR9.out (fun m hm=>if_neg hm) SP9.out HKF.out EF.out (by rw [<- HCC.out];exact CX9.out)⟩
          case measure=>simp [intOf];omega
     · have hke:k=(p' q).fl.length:=by omega
       subst hke
       have HPC:=Hq hI.pr
       have HSC:=Hq hI.sp
       rw [ED.out] at c1
       clear hI
       go_wp2
       clear c1 c2 lA
       go_loopw [8] (fun i wr=>∃ (j:Nat) (d:List Int),i = .int .i64 j/\j<=(p' q).dl.length/\d.length=(p' q).dl.length/\(∀ m,m<j->d[m]? = some (Zok q m))/\Pr1 wr (p' q).D d (p' q).F fl cc/\Sp (p' q).bl ws wr) (fun i _=>(p' q).dl.length - (intOf i).toNat)
       case atStart=>exact ⟨0,(p' q).dl,rfl,Nat.zero_le _,rfl,fun m hm=>absurd hm (Nat.not_lt_zero _),HPC.out,HSC.out⟩
       case round =>
        clear HPC HSC
        obtain ⟨j,d,rfl,hj,hdl,hmk,hP,hsp⟩:=hrel
        have HP2:=Hq hP
        have HM2:=Hq hmk
        have HS2:=Hq hsp
        obtain ⟨c1,c2,lA⟩:=Zmk (Zyv HS.out hqN hsp) HS.out.le hqN HG.out.1 HG.out.2
        rw [ED.out] at c1
        rw [EF.out] at c2
        by_cases hlt3:(j:Int)<((p' q).dl.length:Int)
        · obtain ⟨gD,kD,eD,lD,cD2⟩:=Ygt hP.dt (by omega)
          rw [ED.out] at eD
          injection eD with d1 d2 d3
          subst d1
          have hdt:=hP.dt
          rw [ED.out] at hdt
          have z0:=Ye hdt j
          obtain ⟨y,hy⟩:∃ y,d[j]? = some y:=⟨_,List.getElem?_eq_getElem (by omega)⟩
          have x0:=cD2 j (.int .u8 y) (by rw [List.getElem?_map,hy];rfl) (by omega)
          have HBD:=Hq (show (p' q).bl gD from Or.inl (by rw [ED.out];rfl))
          clear hP hmk hsp cD2 hdt d2 d3 hy
          go_wp2
          go_roundw
          case rel=>exact ⟨j+1,d.set j (Zok q j),by go_num,by omega,by rw [List.length_set];exact hdl,Ycf hdl (by omega) HM2.out,Ynl HP2.out ED.out,Zih HS2.out HBD.out⟩
          case measure=>simp [intOf];omega
        · have hd:=Yzt hdl fun m hm=>hmk m (by omega)
          subst hd
          rw [Zdz] at hdl
          have OF:=Hq (show wr.ownsRow 0 52 4 (.slice pF (p' q).fl.length cF) fl.length (Zcr fl) from by rw [<- EF.out];exact hP.fr)
          have hfl:=HI.out.len
          have hc3:fl.length+1<=maxLen:=by unfold maxLen;omega
          have hc4:(fl.length+1)*48<=140737488355328:=by omega
          clear hP hmk hsp hfl
          have hc5:(mkD q (p' q).dl.length).length+2<=maxLen:=by rw [Zdz];unfold maxLen;omega
          have hc6:((mkD q (p' q).dl.length).length+2)*1<=140737488355328:=by rw [Zdz];omega
          go_wp2_with (at_builtin;first|(refine wpList_append_own_at _ rfl _ _ 23 rfl 0 52 fi (.agg #[.int .i64 0,.int .i64 0,.int .i64 0,.slice none 0 0]) 4 48 Zhv fi0 fi1 fi2 fi3 rfl (by decide) (.slice pF (p' q).fl.length cF) _ _ rfl (OF.out.alloc _) ⟨wr.heap.size,0,none⟩ 1 1 [.int .i64 _,.int .i64 0,.int .i64 0,.slice none 0 0] rfl rfl (Zni wr _ _ _ _ _) (Zpq _ _ _ _ _ _) hc3 hc4 (Nat.zero_le _) ?_;intro v8 w8 hown8 hgr8 hnil8 hat8;obtain ⟨p8,k8,hv8⟩:=Zp hown8;subst hv8;have FF:=Xeu HS.out hqN HI.out HP2.out HS2.out hown8 (by rw [EF.out];exact hgr8) (by rw [EF.out];exact hat8);obtain ⟨ff1,ff2,ff3,ff4,ff5⟩:=FF;have FP:=Hq ff1;have FS:=Hq ff2;have FR:=Hq ff3;have FL:=Hq ff4;have hle:=HS.out.le;have od1:=ff1.dt;rw [ED.out] at od1;have OD:=Hq od1;have c9:=ff5.cell (i:=q*3+1) (by omega);rw [HG.out.1,ED.out] at c9;have c8:=ff5.cell (i:=q*3+2) (by omega);rw [HG.out.2,EF.out] at c8;have z9:=ff5.frozen (q*3+2);have l8:=ff5.lt;clear hown8 hgr8 hnil8 hat8 ff1 ff2 ff3 ff4 ff5 od1)|(refine wpList_append_own_at _ rfl _ _ 22 rfl 0 5 bi (.int .u8 0) 1 1 Zfl bi0 bi1 bi2 bi3 rfl (by decide) (.slice pD (p' q).dl.length cD) _ _ rfl (OD.out.alloc _) ⟨w8.heap.size,0,none⟩ 2 2 [.int .u8 (q:Int),.int .u8 ((q:Int)+1)] rfl rfl (Zwu w8 A (q*3+2) _ _ _ _) (Zqf _ _ _) hc5 hc6 (Nat.zero_le _) ?_;intro v9 w9 hown9 hgr9 hnil9 hat9;obtain ⟨p9,k9,hv9⟩:=Zp hown9;subst hv9;have F2:=Xev (zs:=Yiu q) HS.out hqN FP.out FS.out FR.out FL.out hown9 (by rw [ED.out];exact hgr9) (by rw [ED.out];exact hat9);obtain ⟨gg1,gg2,gg3,gg4,gg5⟩:=F2;have GP:=Hq gg1;have GS:=Hq gg2;have GR:=Hq gg3;have GL:=Hq gg4;have c10:=gg5.cell (i:=q*3+1) (by omega);have z10:=gg5.frozen (q*3+1);have l10:=gg5.lt;clear hown9 hgr9 hnil9 hat9 gg1 gg2 gg3 gg4 gg5))
          go_roundw
          case rel=>exact Ywa (Ydf HS.out hqN HD.out HR.out HSP.out HI.out GP.out GS.out GR.out GL.out) (by go_num) hqN
          case measure=>simp [intOf];omega
  · have hqe:N=q:=by omega
    subst hqe
    clear hS hdone hrest hsp H0 HR
    go_wp2
    obtain ⟨w3,hw3⟩:∃ w3,w3=wr:=⟨_,rfl⟩
    subst hw3
    go_loopw [9] (fun i wr=>∃ q:Nat,i = .int .i64 q/\q<=N/\w3.grownBy wr none) (fun i _=>N - (intOf i).toNat)
    case atStart=>exact ⟨0,rfl,Nat.zero_le _,Zc _ _⟩
    case round =>
     obtain ⟨q,rfl,hq2,hg⟩:=hrel
     have HG:=Hq hg
     by_cases hlt2:(q:Int)<(N:Int)
     · have hqN:q<N:=by omega
       obtain ⟨gF,cF,gD,cD,se⟩:=Ypy (HS.out.pr q hqN) (HD.out q hqN)
       have SE:=Hq se
       obtain ⟨b1,b2,lA⟩:=Ymp HS.out hqN
       rw [se.D] at b1
       rw [se.F] at b2
       have hflq:=OK.out.fl q hqN
       have hdlq:=OK.out.dl q hqN
       have hfli:((p q).fl.length:Int)<=1000:=by omega
       have hdli:((p q).dl.length:Int)<=1000000:=by omega
       have HCC:=Hq (OK.out.cc q hqN)
       have B1:=Hq b1
       have B2:=Hq b2
       have c2:=hg.cell b2 (by simp)
       have x2:=hg.cell se.l (by simp)
       have l1:=World.block_lt_of_cell? _ _ c2
       have l3:=World.block_lt_of_cell? _ _ x2
       have hqi:(q:Int)<=100:=by omega
       clear hg se b1 b2 lA
       go_wp2
       clear c2 x2 l1 l3
       obtain ⟨w4,hw4⟩:∃ w4,w4=wr:=⟨_,rfl⟩
       subst hw4
       go_loopw [11] (fun k wr=>∃ j:Nat,k = .int .i64 j/\j<=(p q).fl.length/\w3.grownBy wr none) (fun k _=>(p q).fl.length - (intOf k).toNat)
       case atStart=>exact ⟨0,rfl,Nat.zero_le _,HG.out⟩
       case round =>
        clear HG
        obtain ⟨k,rfl,hk,hg⟩:=hrel
        have HG:=Hq hg
        by_cases hlt3:(k:Int)<((p q).fl.length:Int)
        · obtain ⟨gC,cC,a1,a2,a3,a4,a5⟩:=SE.out.c k (by omega)
          have hcl:=HCC.out k (by omega)
          have hci:(((p q).cc k).length:Int)<=1000000:=by omega
          have A1:=Hq a1
          have A3:=Hq a3
          have A4:=Hq a4
          have A5:=Hq a5
          have c2:=hg.cell B2.out (by simp)
          have x1:=hg.cell a2 (by simp)
          have l1:=World.block_lt_of_cell? _ _ c2
          have l2:=World.block_lt_of_cell? _ _ x1
          have hki:(k:Int)<=1000:=by omega
          clear hg a1 a2 a3 a4 a5
          go_wp2
          clear c2 x1 l1 l2
          obtain ⟨w6,hw6⟩:∃ w6,w6=wr:=⟨_,rfl⟩
          subst hw6
          go_loopw [13] (fun i wr=>∃ j:Nat,i = .int .i64 j/\j<=((p q).cc k).length/\w3.grownBy wr none) (fun i _=>((p q).cc k).length - (intOf i).toNat)
          case atStart=>exact ⟨0,rfl,Nat.zero_le _,HG.out⟩
          case round =>
           clear HG
           obtain ⟨j,rfl,hj2,hg⟩:=hrel
           have HG:=Hq hg
           by_cases hlt5:(j:Int)<(((p q).cc k).length:Int)
           · obtain ⟨y1,y2⟩:=A3.out j (by omega)
             have x1:=hg.cell y1 (by simp)
             have x2:=hg.cell y2 (by simp)
             have l1:=World.block_lt_of_cell? _ _ x1
             clear hg y1 y2
             go_wp2
             go_roundw
             case rel=>exact ⟨j+1,by go_num,by omega,HG.out⟩
             case measure=>simp [intOf];omega
           · have c2:=hg.cell B2.out (by simp)
             have x1:=hg.cell A1.out (by simp)
             have x2:=hg.cell A4.out (by simp)
             have x3:=hg.cell A5.out (by simp)
             have l1:=World.block_lt_of_cell? _ _ c2
             have l2:=World.block_lt_of_cell? _ _ x1
             have l3:=World.block_lt_of_cell? _ _ x2
             clear hg
             go_wp2
             go_roundw
             case rel=>exact ⟨k+1,by go_num,by omega,HG.out⟩
             case measure=>simp [intOf];omega
        · have c1:=hg.cell B1.out (by simp)
          have l1:=World.block_lt_of_cell? _ _ c1
          clear hg
          go_wp2
          clear c1 l1
          obtain ⟨w5,hw5⟩:∃ w5,w5=wr:=⟨_,rfl⟩
          subst hw5
          go_loopw [15] (fun k wr=>∃ j:Nat,k = .int .i64 j/\j<=(p q).dl.length/\w3.grownBy wr none) (fun k _=>(p q).dl.length - (intOf k).toNat)
          case atStart=>exact ⟨0,rfl,Nat.zero_le _,HG.out⟩
          case round =>
           clear HG
           obtain ⟨j,rfl,hj,hg⟩:=hrel
           have HG:=Hq hg
           by_cases hlt4:(j:Int)<((p q).dl.length:Int)
           · have x1:=hg.cell (SE.out.d j (by omega)) (by simp)
             unfold Zok at x1
             have l1:=World.block_lt_of_cell? _ _ x1
             clear hg
             go_wp2
             go_roundw
             case rel=>exact ⟨j+1,by go_num,by omega,HG.out⟩
             case measure=>simp [intOf];omega
           · have x1:=hg.cell SE.out.d1 (by simp)
             have x2:=hg.cell SE.out.d2 (by simp)
             have l1:=World.block_lt_of_cell? _ _ x1
             clear hg
             go_wp2
             go_roundw
             case rel=>exact ⟨q+1,by go_num,by omega,HG.out⟩
             case measure=>simp [intOf];omega
     · clear hg
       go_wp2
       go_ret
       exact ⟨rfl,Yo HSP.out (Yf (P:=Yly A N p) HG.out (by simp)) (fun _ _ h=>h)⟩
end Go.Proofs.Ythlkflagancdfaa.OT
namespace Go.Proofs.Ythlkflagancdfaa.CK
open Go.RowKit Go.Great
structure Znz (fs:List FnP) (f at_:Nat) (fn:FnP) (op a:Int):Prop where
 isf:fs[f]? = some fn
 ins:fn.2.2.2[at_]? = some (op,a)
 nf:fs.length<=64
 nc:fn.2.2.2.length<=4096
theorem Zva (mem:Int) (vd:Value) (fs:List FnP) (pF:Option Addr) (cF B f at_:Nat) (fn:FnP) (op a:Int) (w:World) (hvd:∃ p n c,vd = .slice p n c) (hB:B<=w.heap.size) (hF:Yl w B pF fs) (hS:Znz fs f at_ fn op a) :
 Calls Try.prog 64 #[.agg #[.int .i64 mem,vd,.slice pF fs.length cF],.agg #[.int .i64 f,.int .i64 at_]] w fun e w'=>e = .returned (.tuple #[.agg #[.int .i64 op,.int .i64 a],.bool true])/\w.grownBy w' none:=by
 obtain ⟨pd,nd,cd,rfl⟩:=hvd
 obtain ⟨ar,lo,r,c⟩:=fn
 have hf1:=(List.getElem?_eq_some_iff.1 hS.isf).1
 have ha1:=(List.getElem?_eq_some_iff.1 hS.ins).1
 have hnf:=hS.nf
 have hnc:=hS.nc
 simp only [] at ha1 hnc
 obtain ⟨b,o,rfl,hb,hc⟩:=hF (by omega)
 obtain ⟨c0,c1,c2,pc,cc,c3,hcode⟩:=hc f ar lo r c hS.isf
 obtain ⟨b',o',rfl,hb',hc'⟩:=hcode (by omega)
 obtain ⟨d0,d1⟩:=hc' at_ op a hS.ins
 have hb2:b<w.heap.size:=by omega
 have hb2':b'<w.heap.size:=by omega
 have q1:(f:Int)<(fs.length:Int):=by omega
 have q2:(at_:Int)<(c.length:Int):=by omega
 have e1:decide ((f:Int)<0)=false:=decide_eq_false (by omega)
 have e2:decide ((fs.length:Int)<=(f:Int))=false:=decide_eq_false (by omega)
 have e2':decide (fs.length<=f)=false:=decide_eq_false (by omega)
 have e4':decide (c.length<=at_)=false:=decide_eq_false (by omega)
 have e3:decide ((at_:Int)<0)=false:=decide_eq_false (by omega)
 have e4:decide ((c.length:Int)<=(at_:Int))=false:=decide_eq_false (by omega)
 clear hF hc hcode hc' hS
 go_enter Try.func64,Try.ntmps64
 go_wp2
 have H3:=Xl w (.cells #[.int .i64 mem,.slice pd nd cd,.slice (some ⟨b,o,none⟩) fs.length cF] 25) (.cells #[.int .i64 f,.int .i64 at_] 37) (.cells #[.int .i64 0,.int .i64 0] 49)
 have g3:=Xm w (.cells #[.int .i64 mem,.slice pd nd cd,.slice (some ⟨b,o,none⟩) fs.length cF] 25) (.cells #[.int .i64 f,.int .i64 at_] 37) (.cells #[.int .i64 0,.int .i64 0] 49)
 generalize ((w.alloc (.cells #[.int .i64 mem,.slice pd nd cd,.slice (some ⟨b,o,none⟩) fs.length cF] 25)).alloc (.cells #[.int .i64 f,.int .i64 at_] 37)).alloc (.cells #[.int .i64 0,.int .i64 0] 49)=W at *
 obtain ⟨h1,h2,h3⟩:=H3
 have x2:=Cq _ _ 2 _ _ _ h1
 have y0:=Cq _ _ 0 _ _ _ h2
 have y1:=Cq _ _ 1 _ _ _ h2
 have z0:=Cq _ _ 0 _ _ _ h3
 have z1:=Cq _ _ 1 _ _ _ h3
 have v0:=frozen_of_row _ _ 0 _ _ h3
 have v1:=frozen_of_row _ _ 1 _ _ h3
 have s1:=(Gs h1)
 have s2:=(Gs h2)
 have s3:=(Gs h3)
 replace c3:=g3.cell c3 (by simp)
 replace d0:=g3.cell d0 (by simp)
 replace d1:=g3.cell d1 (by simp)
 replace hb2:b<W.heap.size:=by omega
 replace hb2':b'<W.heap.size:=by omega
 have HX:=Hq h3
 have G3:=Hq g3
 clear h1 h2 h3 g3 c0 c1 c2
 generalize hn0:w.heap.size=n0 at *
 go_quiet (fail)
 go_wp2
 go_region
 go_wp2
 (try simp only [Exit.inBlock,Exit.then])
 have hq:(((W.drewN (nq+1)).setCell ⟨n0+1+1,0,none⟩ (.int .i64 op)).setCell ⟨n0+1+1,1,none⟩ (.int .i64 a)).heap[n0+1+1]? = some (.cells #[.int .i64 op,.int .i64 a] 49 (0,0)):=by
  rw [Zg (Zg (show (W.drewN (nq+1)).heap[n0+1+1]? = some (.cells #[.int .i64 0,.int .i64 0] 49 (0,0)) by simpa using HX.out))];rfl
 refine bodyPost_ret (v := .tuple #[.agg #[.int .i64 op,.int .i64 a],.bool true]) ?_ rfl ⟨rfl,Zd (Zd (Zf G3.out _) (by omega)) (by omega)⟩
 have k0:=Cq _ _ 0 _ _ _ hq
 have k1:=Cq _ _ 1 _ _ _ hq
 clear hq
 generalize ((W.drewN (nq+1)).setCell ⟨n0+1+1,0,none⟩ (.int .i64 op)).setCell ⟨n0+1+1,1,none⟩ (.int .i64 a)=w9 at *
 rw [results_cell_tmp rfl]
 go_simp
def Yy (op a pl:Int):List Int :=
 if op=1\/op=2\/op=18 then [] else if op=14 then [a] else if (op=15\/op=16)/\a≠pl+1 then [min a (pl+1),max a (pl+1)] else [pl+1]
theorem Zgp (op a pl:Int):(Yy op a pl).length<=2:=by
 unfold Yy
 split
 · simp
 · split
   · simp
   · split <;> simp
def Zfp (w:World) (l:List Int) (e:Ending) (w':World):Prop:=∃ v,e = .returned v/\w.grownBy w' none/\w'.ownsRow w.heap.size 3 1 v l.length (l.map (Value.int .i64))
theorem Zsh {w:World} {o:Obj} {x:Int} {l:List Int} (h:l=[x]):Zfp w l (.returned (.slice (some ⟨w.heap.size+1,0,none⟩) 1 1)) ((w.alloc o).alloc (.cells #[.int .i64 x] 3)):=by
 subst h
 have h:=World.ownsRow_lit (base:=w.heap.size) (e:=3) (size:=1) (w.alloc o) #[.int .i64 x] 1 (by simp) (by decide) rfl
 rw [World.size_alloc] at h
 exact ⟨_,rfl,Za (Ga _ _ _) (Ga _ _ _),h⟩
theorem Ypt {w:World} {o:Obj} {x y:Int} {l:List Int} (h:l=[x,y]):Zfp w l (.returned (.slice (some ⟨w.heap.size+1,0,none⟩) 2 2)) ((w.alloc o).alloc (.cells #[.int .i64 x,.int .i64 y] 3)):=by
 subst h
 have h:=World.ownsRow_lit (base:=w.heap.size) (e:=3) (size:=1) (w.alloc o) #[.int .i64 x,.int .i64 y] 2 (by simp) (by decide) rfl
 rw [World.size_alloc] at h
 exact ⟨_,rfl,Za (Ga _ _ _) (Ga _ _ _),h⟩
theorem Zsi (op a pl:Int) (w:World) (h0:0<=pl) (h1:pl<1000000000000):Calls Try.prog 39 #[.agg #[.int .i64 op,.int .i64 a],.int .i64 pl] w (Zfp w (Yy op a pl)):=by
 rcases (by omega:(op=1\/op=2\/op=18)\/op=14\/((op=15\/op=16)/\a=pl+1)\/((op=15\/op=16)/\a≠pl+1)\/(op≠1/\op≠2/\op≠18/\op≠14/\op≠15/\op≠16)) with h|h|⟨h,ha⟩|⟨h,ha⟩|h
 · have hE:Yy op a pl=[]:=by unfold Yy;rw [if_pos h]
   rw [hE]
   rcases h with rfl|rfl|rfl
   all_goals
    clear hE
    go_enter Try.func39,Try.ntmps39
    go_wp2
    go_ret
    exact ⟨_,rfl,Ga _ _ _,World.ownsRow_nil _ _ _ _⟩
 · have hE:Yy op a pl=[a]:=by unfold Yy;rw [if_neg (by omega),if_pos h]
   subst h
   go_enter Try.func39,Try.ntmps39
   go_wp2
   go_ret
   exact Zsh hE
 · have hE:Yy op a pl=[pl+1]:=by unfold Yy;rw [if_neg (by omega),if_neg (by omega),if_neg (by omega)]
   have hq:(a == pl+1)=true:=by simp [ha]
   rcases h with rfl|rfl
   all_goals
    clear ha
    go_enter Try.func39,Try.ntmps39
    go_wp2
    go_ret
    exact Zsh hE
 · have hE:Yy op a pl=[min a (pl+1),max a (pl+1)]:=by unfold Yy;rw [if_neg (by omega),if_neg (by omega),if_pos (by omega)]
   have hq:(a == pl+1)=false:=beq_eq_false_iff_ne.2 ha
   rcases h with rfl|rfl
   all_goals
    clear ha
    go_enter Try.func39,Try.ntmps39
    go_wp2
    go_ret
    exact Ypt hE
 · have hE:Yy op a pl=[pl+1]:=by unfold Yy;rw [if_neg (by omega),if_neg (by omega),if_neg (by omega)]
   have b1:(op == 1)=false:=beq_eq_false_iff_ne.2 h.1
   have b2:(op == 2)=false:=beq_eq_false_iff_ne.2 h.2.1
   have b3:(op == 18)=false:=beq_eq_false_iff_ne.2 h.2.2.1
   have b4:(op == 14)=false:=beq_eq_false_iff_ne.2 h.2.2.2.1
   have b5:(op == 15)=false:=beq_eq_false_iff_ne.2 h.2.2.2.2.1
   have b6:(op == 16)=false:=beq_eq_false_iff_ne.2 h.2.2.2.2.2
   clear h
   go_enter Try.func39,Try.ntmps39
   go_wp2
   go_ret
   exact Zsh hE
def Yto:ByteArray:=⟨#[111,112,101,110]⟩
def Yye:ByteArray:=⟨#[114,101,97,100]⟩
def Yrf:ByteArray:=⟨#[119,114,105,116,101]⟩
def Yyf:ByteArray:=⟨#[108,105,115,116]⟩
def Yrg:ByteArray:=⟨#[99,108,111,115,101]⟩
def Zbm:Array Value := #[.string Yto,.int .i64 0,.int .i64 3,.int .i64 1,.string Yye,.int .i64 0,.int .i64 3,.int .i64 1,.string Yrf,.int .i64 0,.int .i64 3,.int .i64 1,
 .string Yyf,.int .i64 0,.int .i64 4,.int .i64 1,.string Yrg,.int .i64 0,.int .i64 1,.int .i64 1]
theorem Ykx (w:World):Calls Try.prog 91 #[] w fun e w'=>e = .returned (.slice (some ⟨w.heap.size,0,none⟩) 5 5)/\w'=w.alloc (.cells Zbm 115):=by
 go_enter Try.func91,Try.ntmps91
 go_wp2_with (refine wpList_buildSliceTo rfl 112 115 5 _ rfl w.heap.size rfl (some 6) rfl Try.underlying112 Zbm (by kernel_rfl) ?_)
 go_ret
 exact ⟨rfl,rfl⟩
theorem Zdv (w:World) (g:Nat) (hg:g=w.heap.size) (i:Nat) (v:Value) (h:Zbm[i]? = some v):(w.alloc (.cells Zbm 115)).cell? ⟨g,i,none⟩=some v:=by
 subst hg
 rw [World.cell?_alloc_at (hn:=rfl)]
 exact h
def Zme (n:Nat):ByteArray:=[Yto,Yye,Yrf,Yyf,Yrg].getD n Yto
def Zco (n:Nat):Int:=[3,3,3,4,1].getD n 0
theorem Yti (n:Nat) (hn:n<5) (w:World) :
 Calls Try.prog 81 #[.int .i64 n] w fun e w'=>e = .returned (.tuple #[.agg #[.string (Zme n),.int .i64 0,.int .i64 (Zco n),.int .i64 1],.bool true])/\w.grownBy w' none:=by
 have C:=Hq Ykx
 have T0:Zbm[n*4]? = some (.string (Zme n)):=by rcases (by omega:n=0\/n=1\/n=2\/n=3\/n=4) with rfl|rfl|rfl|rfl|rfl <;> rfl
 have T1:Zbm[n*4+1]? = some (.int .i64 0):=by rcases (by omega:n=0\/n=1\/n=2\/n=3\/n=4) with rfl|rfl|rfl|rfl|rfl <;> rfl
 have T2:Zbm[n*4+2]? = some (.int .i64 (Zco n)):=by rcases (by omega:n=0\/n=1\/n=2\/n=3\/n=4) with rfl|rfl|rfl|rfl|rfl <;> rfl
 have T3:Zbm[n*4+3]? = some (.int .i64 1):=by rcases (by omega:n=0\/n=1\/n=2\/n=3\/n=4) with rfl|rfl|rfl|rfl|rfl <;> rfl
 have R0:=Yri 5 n hn (by decide) (w.alloc (.cells #[.string ⟨#[]⟩,.int .i64 0,.int .i64 0,.int .i64 0] 115)).heap.size (Zme n) 0 (Zco n) 1 ((w.alloc (.cells #[.string ⟨#[]⟩,.int .i64 0,.int .i64 0,.int .i64 0] 115)).alloc (.cells Zbm 115)) (by simp) (Zdv _ _ rfl _ _ T0) (Zdv _ _ rfl _ _ T1) (Zdv _ _ rfl _ _ T2) (Zdv _ _ rfl _ _ T3)
 rw [World.size_alloc] at R0
 have R:=Hq R0
 clear R0
 clear T0 T1 T2 T3
 generalize Zme n=nm at *
 generalize Zco n=tk at *
 go_enter Try.func81,Try.ntmps81
 go_wp2_with (first
  | (go_at_call 91;refine (C.out _).mono ?_;rintro e w1 ⟨rfl,rfl⟩)
  | (go_at_call 60;refine R.out.mono ?_;rintro e w2 ⟨rfl,hg2⟩;have hb:=Zb (Zb (heap_alloc_new w (.cells #[.string ⟨#[]⟩,.int .i64 0,.int .i64 0,.int .i64 0] 115)) (Ga _ _ none) (by simp)) hg2 (by simp);have G2:=Hq hg2;have c0:=Cq w2 _ 0 _ _ _ hb;have c1:=Cq w2 _ 1 _ _ _ hb;have c2:=Cq w2 _ 2 _ _ _ hb;have c3:=Cq w2 _ 3 _ _ _ hb;have z0:=frozen_of_row w2 _ 0 _ _ hb;have z1:=frozen_of_row w2 _ 1 _ _ hb;have z2:=frozen_of_row w2 _ 2 _ _ hb;have z3:=frozen_of_row w2 _ 3 _ _ hb;have HB:=Hq hb;clear hg2 hb))
 (try simp only [Exit.inBlock,Exit.then])
 have hq:((((w2.setCell ⟨w.heap.size,0,none⟩ (.string nm)).setCell ⟨w.heap.size,1,none⟩ (.int .i64 0)).setCell ⟨w.heap.size,2,none⟩ (.int .i64 tk)).setCell ⟨w.heap.size,3,none⟩ (.int .i64 1)).heap[w.heap.size]? = some (.cells #[.string nm,.int .i64 0,.int .i64 tk,.int .i64 1] 115 (0,0)):=by
  rw [Zg (Zg (Zg (Zg HB.out)))];rfl
 refine bodyPost_ret (v := .tuple #[.agg #[.string nm,.int .i64 0,.int .i64 tk,.int .i64 1],.bool true]) ?_ rfl ⟨rfl,Zd (Zd (Zd (Zd (Za (Ga _ _ _) (Za (Ga _ _ _) G2.out)) (Nat.le_refl _)) (Nat.le_refl _)) (Nat.le_refl _)) (Nat.le_refl _)⟩
 clear c0 c1 c2 c3 z0 z1 z2 z3
 have d0:=Cq _ _ 0 _ _ _ hq
 have d1:=Cq _ _ 1 _ _ _ hq
 have d2:=Cq _ _ 2 _ _ _ hq
 have d3:=Cq _ _ 3 _ _ _ hq
 clear hq
 generalize (((w2.setCell ⟨w.heap.size,0,none⟩ (.string nm)).setCell ⟨w.heap.size,1,none⟩ (.int .i64 0)).setCell ⟨w.heap.size,2,none⟩ (.int .i64 tk)).setCell ⟨w.heap.size,3,none⟩ (.int .i64 1)=w9 at *
 rw [results_cell_tmp rfl]
 go_simp
structure Xfb (fs:List FnP) (op a:Int):Prop where
 sh:∃ s,Ja op=some s
 call:op=17->0<=a/\a<fs.length
 sys:op=19->0<=a/\a<5
def Zt (fs:List FnP) (res op a:Int):Int × Int :=
 if op=17 then (match fs[a.toNat]? with|some g=>(g.1,g.2.2.1)|none=>(0,0))
 else if op=18 then (res,0) else if op=19 then (Zco a.toNat,1)
 else match Ja op with|some s=>(s.2.2.1,s.2.2.2)|none=>(0,0)
def Zwn (w:World) (x:Int × Int) (e:Ending) (w':World):Prop:=e = .returned (.tuple #[.int .i64 x.1,.int .i64 x.2])/\w.grownBy w' none
theorem Yfl (mem:Int) (vd:Value) (fs:List FnP) (pF:Option Addr) (cF B f at_:Nat) (fn:FnP) (op a:Int) (w:World) (hvd:∃ p n c,vd = .slice p n c) (hB:B<=w.heap.size) (hF:Yl w B pF fs) (hS:Znz fs f at_ fn op a) (hO:Xfb fs op a) :
 Calls Try.prog 63 #[.agg #[.int .i64 mem,vd,.slice pF fs.length cF],.agg #[.int .i64 f,.int .i64 at_]] w (Zwn w (Zt fs fn.2.2.1 op a)):=by
 obtain ⟨pd,nd,cd,rfl⟩:=hvd
 have g2:=Za (Ga w (.cells #[.int .i64 mem,.slice pd nd cd,.slice pF fs.length cF] 25) none) (Ga _ (.cells #[.int .i64 f,.int .i64 at_] 37) none)
 have I:=Hq (Zva mem (.slice pd nd cd) fs pF cF B f at_ fn op a _ ⟨_,_,_,rfl⟩ (Nat.le_trans hB g2.size) (Zq hF g2 (by simp)) hS)
 obtain ⟨ar,lo,r,c⟩:=fn
 have hf1:=(List.getElem?_eq_some_iff.1 hS.isf).1
 have hnf:=hS.nf
 obtain ⟨b,o,rfl,hb,hc⟩:=hF (by omega)
 have hb2:b<w.heap.size:=by omega
 have q1:(f:Int)<(fs.length:Int):=by omega
 by_cases h17:op=17
 · obtain ⟨ha0,han⟩:=hO.call h17
   obtain ⟨k,rfl⟩:=Int.eq_ofNat_of_zero_le ha0
   obtain ⟨⟨ga,gl,gr,gc⟩,hg⟩:∃ x,fs[k]? = some x:=⟨_,List.getElem?_eq_getElem (by omega)⟩
   obtain ⟨c0,c1,c2,-⟩:=hc k ga gl gr gc hg
   have hE:Zt fs r op k=(ga,gr):=by unfold Zt;rw [if_pos h17,Int.toNat_natCast,hg]
   simp only [] at hE ⊢
   rw [hE]
   subst h17
   have e1:decide ((k:Int)<0)=false:=decide_eq_false (by omega)
   have e2:decide ((fs.length:Int)<=(k:Int))=false:=decide_eq_false (by omega)
   have e2':decide (fs.length<=k)=false:=decide_eq_false (by omega)
   clear hc hS hO hE hg
   go_enter Try.func63,Try.ntmps63
   go_wp2_with (go_at_call 64;(refine I.out.mono ?_;rintro e w3 ⟨rfl,hg3⟩;have hb0:=Zb (Xc w (.cells #[.int .i64 mem,.slice pd nd cd,.slice (some ⟨b,o,none⟩) fs.length cF] 25) (.cells #[.int .i64 f,.int .i64 at_] 37)) hg3 (by simp);have hb1:=Zb (Yr w (.cells #[.int .i64 mem,.slice pd nd cd,.slice (some ⟨b,o,none⟩) fs.length cF] 25) (.cells #[.int .i64 f,.int .i64 at_] 37)) hg3 (by simp);have G3:=Hq (Za (Ga w _ none) (Za (Ga _ _ none) hg3));have x2:=Cq _ _ 2 _ _ _ hb0;have y0:=Cq _ _ 0 _ _ _ hb1;have s0:=(Gs hb0);have s1:=(Gs hb1);clear hb0 hb1 hg3);have hb3:b<w3.heap.size:=Nat.lt_of_lt_of_le hb2 G3.out.size;replace c0:=G3.out.cell c0 (by simp);replace c2:=G3.out.cell c2 (by simp))
   go_quiet (fail)
   go_wp2
   go_ret2
   exact ⟨rfl,Zf (Za G3.out (Ga _ _ none)) _⟩
 · have b17:(op == 17)=false:=beq_eq_false_iff_ne.2 h17
   by_cases h18:op=18
   · obtain ⟨-,-,c2,-⟩:=hc f ar lo r c hS.isf
     have hE:Zt fs r op a=(r,0):=by unfold Zt;rw [if_neg h17,if_pos h18]
     simp only [] at hE ⊢
     rw [hE]
     subst h18
     clear hc hS hO hE b17 h17
     go_enter Try.func63,Try.ntmps63
     go_wp2_with (go_at_call 64;(refine I.out.mono ?_;rintro e w3 ⟨rfl,hg3⟩;have hb0:=Zb (Xc w (.cells #[.int .i64 mem,.slice pd nd cd,.slice (some ⟨b,o,none⟩) fs.length cF] 25) (.cells #[.int .i64 f,.int .i64 at_] 37)) hg3 (by simp);have hb1:=Zb (Yr w (.cells #[.int .i64 mem,.slice pd nd cd,.slice (some ⟨b,o,none⟩) fs.length cF] 25) (.cells #[.int .i64 f,.int .i64 at_] 37)) hg3 (by simp);have G3:=Hq (Za (Ga w _ none) (Za (Ga _ _ none) hg3));have x2:=Cq _ _ 2 _ _ _ hb0;have y0:=Cq _ _ 0 _ _ _ hb1;have s0:=(Gs hb0);have s1:=(Gs hb1);clear hb0 hb1 hg3);have hb3:b<w3.heap.size:=Nat.lt_of_lt_of_le hb2 G3.out.size;replace c2:=G3.out.cell c2 (by simp))
     go_ret2
     exact ⟨rfl,Za G3.out (Ga _ _ none)⟩
   · have b18:(op == 18)=false:=beq_eq_false_iff_ne.2 h18
     by_cases h19:op=19
     · obtain ⟨ha0,ha5⟩:=hO.sys h19
       obtain ⟨k,rfl⟩:=Int.eq_ofNat_of_zero_le ha0
       have S:=Hq (Yti k (by omega))
       have hE:Zt fs r op k=(Zco k,1):=by unfold Zt;rw [if_neg h17,if_neg h18,if_pos h19,Int.toNat_natCast]
       simp only [] at hE ⊢
       rw [hE]
       subst h19
       clear hc hS hO hE b17 h17 b18 h18
       generalize Zco k=tk at *
       generalize Zme k=nm at *
       go_enter Try.func63,Try.ntmps63
       go_wp2_with (first
        | (go_at_call 64;(
            refine I.out.mono ?_;rintro e w3 ⟨rfl,hg3⟩
            have hb0:=Zb (Xc w (.cells #[.int .i64 mem,.slice pd nd cd,.slice (some ⟨b,o,none⟩) fs.length cF] 25) (.cells #[.int .i64 f,.int .i64 at_] 37)) hg3 (by simp)
            have hb1:=Zb (Yr w (.cells #[.int .i64 mem,.slice pd nd cd,.slice (some ⟨b,o,none⟩) fs.length cF] 25) (.cells #[.int .i64 f,.int .i64 at_] 37)) hg3 (by simp)
            have G3:=Hq (Za (Ga w _ none) (Za (Ga _ _ none) hg3))
            have x2:=Cq _ _ 2 _ _ _ hb0
            have y0:=Cq _ _ 0 _ _ _ hb1
            have s0:=(Gs hb0)
            have s1:=(Gs hb1)
            clear hb0 hb1 hg3))
        | (go_at_call 81;refine (S.out _).mono ?_;rintro e w4 ⟨rfl,hg4⟩;have G4:=Hq hg4;clear hg4))
       go_quiet (fail)
       go_wp2
       go_ret2
       first
        | exact ⟨rfl,Zf (Za G3.out (Za (Ga _ _ none) (Za G4.out (Ga _ _ none)))) _⟩
        | exact ⟨rfl,Za G3.out (Za (Ga _ _ none) (Za G4.out (Ga _ _ none)))⟩
     · have b19:(op == 19)=false:=beq_eq_false_iff_ne.2 h19
       obtain ⟨⟨nm,ok,tk,gk⟩,hs⟩:=hO.sh
       have OF:=Yzq op
       rw [hs] at OF
       simp only [Zoy] at OF
       have O:=Hq OF
       have hE:Zt fs r op a=(tk,gk):=by unfold Zt;rw [if_neg h17,if_neg h18,if_neg h19,hs]
       simp only [] at hE ⊢
       rw [hE]
       clear hc hS hO hE h17 h18 h19 hs OF
       go_enter Try.func63,Try.ntmps63
       go_wp2_with (first
        | (go_at_call 64;(
            refine I.out.mono ?_;rintro e w3 ⟨rfl,hg3⟩
            have hb0:=Zb (Xc w (.cells #[.int .i64 mem,.slice pd nd cd,.slice (some ⟨b,o,none⟩) fs.length cF] 25) (.cells #[.int .i64 f,.int .i64 at_] 37)) hg3 (by simp)
            have hb1:=Zb (Yr w (.cells #[.int .i64 mem,.slice pd nd cd,.slice (some ⟨b,o,none⟩) fs.length cF] 25) (.cells #[.int .i64 f,.int .i64 at_] 37)) hg3 (by simp)
            have G3:=Hq (Za (Ga w _ none) (Za (Ga _ _ none) hg3))
            have x2:=Cq _ _ 2 _ _ _ hb0
            have y0:=Cq _ _ 0 _ _ _ hb1
            have s0:=(Gs hb0)
            have s1:=(Gs hb1)
            clear hb0 hb1 hg3))
        | (go_at_call 82;refine (O.out _).mono ?_;rintro e w4 ⟨rfl,hg4⟩;have G4:=Hq hg4;clear hg4))
       (try go_quiet (fail))
       (try go_wp2)
       go_ret2
       first
        | exact ⟨rfl,Zf (Za G3.out (Za (Ga _ _ none) (Za G4.out (Ga _ _ none)))) _⟩
        | exact ⟨rfl,Za G3.out (Za (Ga _ _ none) (Za G4.out (Ga _ _ none)))⟩
end Go.Proofs.Ythlkflagancdfaa.CK
