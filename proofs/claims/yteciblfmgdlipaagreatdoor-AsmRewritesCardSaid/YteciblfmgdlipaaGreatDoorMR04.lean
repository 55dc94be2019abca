/-
  Part of a proof: contracts of functions and lemmas, each stated by its own theorem. Conditions: as each theorem states.
-/
import Derived.Test.YteciblfmgdlipaaGreatDoorMR03
import Derived.Test.YteciblfmgdlipaaGreatDoorMR01
set_option linter.unusedSimpArgs false
set_option linter.unusedVariables false
set_option maxRecDepth 100000
set_option maxHeartbeats 16000000
namespace Go.Proofs.YteciblfmgdlipaaGreatDoor.AS
open Go.RowKit Go.Great CK
def pc4 (p:Pc):List Value:=[.int .i64 (pcK p),.string (bs (pcT p)),.int .i64 (pcN p),.bool (pcF p)]
def Zti:List Pc->List Value
 | []=>[]
 | p::r=>pc4 p++Zti r
theorem Zth (a b:List Pc):Zti (a++b)=Zti a++Zti b:=by
 induction a with
 | nil=>rfl
 | cons p r ih=>simp [Zti,ih]
theorem Zvl:∀ (l:List Pc) (i:Nat) (p:Pc),l[i]? = some p->(Zti l)[i*4]? = some (.int .i64 (pcK p))/\(Zti l)[i*4+1]? = some (.string (bs (pcT p)))/\(Zti l)[i*4+2]? = some (.int .i64 (pcN p))/\(Zti l)[i*4+3]? = some (.bool (pcF p))
 | [],i,p,h=>by simp at h
 | x::r,0,p,h=>by simp at h;subst h;simp [Zti,pc4]
 | x::r,i+1,p,h=>by
   obtain ⟨h1,h2,h3,h4⟩:=Zvl r i p (by simpa using h)
   have e:(i+1)*4=i*4+4:=by omega
   rw [e]
   refine ⟨?_,?_,?_,?_⟩ <;> (simp only [Zti,pc4,List.cons_append,List.nil_append]) <;> simpa using by assumption
def Zzo (w:World) (E:Nat) (v:Value) (ps:List Pc):Prop:=w.ownsRow E 158 4 v ps.length (Zti ps)
theorem Ztj {w:World} {E:Nat} {v:Value} {ps:List Pc} (h:Zzo w E v ps):∃ p c,v = .slice p ps.length c:=Zk h
theorem Zql:Tryz.prog.underlying 125=some (.slice 158):=by kernel_rfl
theorem Zxt:(Tryz.prog.info? 158).map (fun i=>(i.zero,i.size,i.bytes))=some (some (.agg #[.int .i64 0,.string ⟨#[]⟩,.int .i64 0,.bool false]),4,40):=by kernel_rfl
theorem Zwg (w:World) (x y z u0:Value) (t:TypeId):∀ j u,[x,y,z,u0][j]? = some u->(w.alloc (.cells #[x,y,z,u0] t)).cell? ((⟨w.heap.size,0,none⟩:Addr).add j)=some u:=by
 intro j u hj
 match j,hj with
 | 0,hj=>simp at hj;subst hj;simp [Addr.add]
 | 1,hj=>simp at hj;subst hj;simp [Addr.add]
 | 2,hj=>simp at hj;subst hj;simp [Addr.add]
 | 3,hj=>simp at hj;subst hj;simp [Addr.add]
theorem Zvn (p:Pc):∀ u∈pc4 p,u.oneCell'=true:=by intro u hu;simp [pc4] at hu;rcases hu with rfl|rfl|rfl|rfl <;> rfl
def Zml:Value->Nat
 | .string s=>s.size
 | _=>0
def Yne (w:World) (r:Option (List Pc)) (e:Ending) (w':World):Prop :=
 (match r with
   | some ps=>∃ p c,e = .returned (.tuple #[.slice p ps.length c,.nilIface])/\Zzo w' w.heap.size (.slice p ps.length c) ps
   | none=>e = .returned (.tuple #[.slice none 0 0,.iface 41 (.int .i64 141)]))/\w.grownBy w' none
structure PsR (l0:Txt) (w wr:World) (s:ByteArray) (v:Value) (ap:Bool) (f:Nat) (acc:List Pc):Prop where
 at_:Zzp l0 f ap s.data.toList acc
 sz:s.size<=70000
 row:Zzo wr w.heap.size v acc
 gr:w.grownBy wr none
 len:acc.length+s.size<=70000
theorem Ygh {l0:Txt} {w wr w2:World} {s:ByteArray} {v:Value} {ap:Bool} {f:Nat} {acc:List Pc} (h:PsR l0 w wr s v ap f acc) (g:wr.grownBy w2 none):PsR l0 w w2 s v ap f acc :=
 ⟨h.at_,h.sz,h.row.kept g (Jw h.row),Za h.gr g,h.len⟩
theorem Zvi {l0:Txt} {w wr w2:World} {s s2:ByteArray} {v v2:Value} {ap ap2:Bool} {f f2:Nat} {acc:List Pc} {p:Pc} (h:PsR l0 w wr s v ap f acc) (h2:Zzp l0 f2 ap2 s2.data.toList (acc++[p])) (hs:s2.size+1<=s.size)
 (ho:w2.ownsRow w.heap.size 158 4 v2 (acc.length+1) (Zti acc++pc4 p)) (g:wr.grownBy w2 v.ownBlock):PsR l0 w w2 s2 v2 ap2 f2 (acc++[p]):=by
 have hsz:=h.sz
 have hlen:=h.len
 refine ⟨h2,by omega,?_,Zfc h.gr g (fun q hq=>(World.ownsRow.lt h.row q hq).1),by simp;omega⟩
 unfold Zzo
 rw [Zth,List.length_append]
 simpa [Zti] using ho
theorem Zjy (s:ByteArray) (n:Nat):s.extract n s.size=bs (s.data.toList.drop n):=by
 rw [Zbh,List.take_of_length_le (by rw [List.length_drop,Ju];exact Nat.le_refl _)]
theorem Zxs (s0:ByteArray) (hs:s0.size<=70000) (w:World) (hW:LibW w):Calls Tryz.prog 56 #[.string s0] w (Yne w (Zsn s0.data.toList)):=by
 have START:=Hq (Zxu s0.data.toList)
 obtain ⟨r,hr⟩:∃ r,r=Zsn s0.data.toList:=⟨_,rfl⟩
 rw [<- hr]
 have HR:=Hq hr
 have LW:=Hq hW
 clear hr hW
 obtain ⟨pi,pi0,pi1,pi2,pi3⟩:=info_parts Zxt
 go_enter Tryz.func56,Tryz.ntmps56
 go_wp2
 go_loopw [0,4,5] (fun vl v va wr=>∃ s ap f acc,vl = .string s/\va = .bool ap/\PsR s0.data.toList w wr s v ap f acc) (fun vl _ _ _=>Zml vl)
 case atStart=>exact ⟨s0,true,_,[],rfl,rfl,START.out,hs,World.ownsRow_nil _ _ _ _,Zd _ _,by simpa using hs⟩
 case round =>
  obtain ⟨s,ap,f,acc,rfl,rfl,hq⟩:=hrel
  obtain ⟨p,c,rfl⟩:=Ztj hq.row
  have hsz:=hq.sz
  have hlen:=hq.len
  have hsize:=hq.gr.size
  have Q:=Hq hq
  have hc3:acc.length+1<=maxLen:=by unfold maxLen;omega
  have hc4:(acc.length+1)*40<=140737488355328:=by omega
  clear hq
  by_cases h0:0<s.size
  · have hl:=Zqu s h0
    have AT:=Hq (hl ▸ Q.out.at_)
    have he:s.toList.isEmpty=false:=by rw [Lib.toList_data,hl];rfl
    have hw32:=Zbi (s[0]'h0)
    have hd1:(s.extract 1 s.size).data.toList=s.data.toList.drop 1:=by rw [Zjy,Xd]
    have hd2:(s.extract 1 s.size).size+1=s.size:=by rw [Zjy,Zi,List.length_drop,Ju];omega
    have b59:(((s[0]'h0).toNat:Int) == 59)=decide ((s[0]'h0).toNat=59):=by rw [Bool.eq_iff_iff];simp;omega
    have b32:(((s[0]'h0).toNat:Int) == 32)=decide ((s[0]'h0).toNat=32):=by rw [Bool.eq_iff_iff];simp;omega
    have b9:(((s[0]'h0).toNat:Int) == 9)=decide ((s[0]'h0).toNat=9):=by rw [Bool.eq_iff_iff];simp;omega
    have b13:(((s[0]'h0).toNat:Int) == 13)=decide ((s[0]'h0).toNat=13):=by rw [Bool.eq_iff_iff];simp;omega
    have b58:(((s[0]'h0).toNat:Int) == 58)=decide ((s[0]'h0).toNat=58):=by rw [Bool.eq_iff_iff];simp;omega
    by_cases h59:(s[0]'h0).toNat=59
    · have HU:=Hq (HR.out.trans (Ybt AT.out h59))
      rw [decide_eq_true h59] at b59
      clear b32 b9 b13 b58 h59
      go_wp2
      go_ret2
      refine ⟨?_,Q.out.gr⟩
      rw [HU.out]
      exact ⟨p,c,rfl,Q.out.row⟩
    rw [decide_eq_false h59] at b59
    by_cases hbl:(s[0]'h0).toNat=32\/(s[0]'h0).toNat=9\/(s[0]'h0).toNat=13
    · obtain ⟨g,hg⟩:=Zxx AT.out hbl
      have AN:=Hq (hd1.symm ▸ hg)
      rcases (by omega:(s[0]'h0).toNat=32\/((s[0]'h0).toNat≠32/\(s[0]'h0).toNat=9)\/((s[0]'h0).toNat≠32/\(s[0]'h0).toNat≠9/\(s[0]'h0).toNat=13)) with h|⟨h,h'⟩|⟨h,h',h''⟩
      · rw [decide_eq_true h] at b32
        clear b9 b13 b58 h59 hbl h hg hd1
        go_wp2
        exact ⟨⟨s.extract 1 s.size,true,g,acc,rfl,rfl,AN.out,by omega,Q.out.row,Q.out.gr,by omega⟩,by simp only [Zml];omega⟩
      · rw [decide_eq_false h] at b32
        rw [decide_eq_true h'] at b9
        clear b13 b58 h59 hbl h h' hg hd1
        go_wp2
        exact ⟨⟨s.extract 1 s.size,true,g,acc,rfl,rfl,AN.out,by omega,Q.out.row,Q.out.gr,by omega⟩,by simp only [Zml];omega⟩
      · rw [decide_eq_false h] at b32
        rw [decide_eq_false h'] at b9
        rw [decide_eq_true h''] at b13
        clear b58 h59 hbl h h' h'' hg hd1
        go_wp2
        exact ⟨⟨s.extract 1 s.size,true,g,acc,rfl,rfl,AN.out,by omega,Q.out.row,Q.out.gr,by omega⟩,by simp only [Zml];omega⟩
    rw [decide_eq_false (show ¬ (s[0]'h0).toNat=32 by omega)] at b32
    rw [decide_eq_false (show ¬ (s[0]'h0).toNat=9 by omega)] at b9
    rw [decide_eq_false (show ¬ (s[0]'h0).toNat=13 by omega)] at b13
    by_cases h58:(s[0]'h0).toNat=58
    · obtain ⟨g,hg⟩:=Zxw AT.out h58
      have AN:=Hq (hd1.symm ▸ hg)
      rw [decide_eq_true h58] at b58
      have hE:∀ o,w.heap.size<=(wr.alloc o).heap.size:=fun o=>Yy hsize o
      clear h59 hbl h58 hg hd1
      go_wp2_with (at_builtin;refine wpList_append_own_at _ rfl _ _ 125 rfl w.heap.size 158 pi (.agg #[.int .i64 0,.string ⟨#[]⟩,.int .i64 0,.bool false]) 4 40 Zql pi0 pi1 pi2 pi3 rfl (by decide) (.slice p acc.length c) _ _ rfl (World.ownsRow.alloc Q.out.row _) ⟨wr.heap.size,0,none⟩ 1 1 (pc4 .colon) rfl rfl (Zwg wr _ _ _ _ _) (Zvn _) hc3 hc4 (hE _) ?_;intro v3 w5 hown3 hgr3 hnil3 hat3;obtain ⟨p3,k3,hv3⟩:=Zk hown3;subst hv3;have OW3:=Hq hown3;have GR3:=Hq hgr3;clear hown3 hgr3 hnil3 hat3)
      exact ⟨⟨s.extract 1 s.size,true,g,_,rfl,rfl,Zvi Q.out AN.out (by omega) OW3.out (Za (Ga _ _ _) GR3.out)⟩,by simp only [Zml];omega⟩
    rw [decide_eq_false h58] at b58
    have BG:Zly (s[0]'h0):=⟨h59,by omega,by omega,by omega,h58⟩
    have BEG:=Hq BG
    clear h59 hbl h58 BG hd1 hd2
    cases ap with
    | false =>
      have HU:=Hq (HR.out.trans (Zxv AT.out BEG.out))
      go_wp2
      go_ret2
      refine ⟨?_,Q.out.gr⟩
      rw [HU.out];rfl
    | true =>
      have O:=Hq (Ztl s Q.out.sz h0 wr (Zs LW.out Q.out.gr))
      cases ho:Zso s.data.toList with
      | none =>
        rw [ho] at O
        have HU:=Hq (HR.out.trans (Ylf AT.out BEG.out (by rw [<- hl];exact ho)))
        clear ho hl
        go_wp2_with (go_at_call 75;refine O.out.mono ?_;rintro e w2 ⟨⟨k1,t1,n1,f1,m1,rfl⟩,hg⟩;have G:=Hq hg;clear hg)
        go_ret2
        refine ⟨?_,Za Q.out.gr (Za G.out (Ga _ _ _))⟩
        rw [HU.out];rfl
      | some x =>
        obtain ⟨q,k⟩:=x
        rw [ho] at O
        have hb:=Zfb ho
        rw [Ju] at hb
        obtain ⟨g,hg⟩:=Ygq AT.out BEG.out (by rw [<- hl];exact ho)
        rw [<- hl] at hg
        have hd1:(s.extract k s.size).data.toList=s.data.toList.drop k:=by rw [Zjy,Xd]
        have AN:=Hq (hd1.symm ▸ hg)
        have hd2:(s.extract k s.size).size+1<=s.size:=by rw [Zjy,Zi,List.length_drop,Ju];omega
        have hk1:(k:Int)<=s.size:=by omega
        clear ho hl hg hb hd1
        go_upto_region 9 with (go_at_call 75;refine O.out.mono ?_;rintro e w2 ⟨rfl,hg⟩;have G:=Hq hg;clear hg)
        have G4:=Hq (Za G.out (Ga w2 (.cells #[.int .i64 (pcK q),.string (bs (pcT q)),.int .i64 (pcN q),.bool (pcF q)] 158) none))
        have B4:=Hq (Ja w2 (.int .i64 (pcK q)) (.string (bs (pcT q))) (.int .i64 (pcN q)) (.bool (pcF q)))
        generalize w2.alloc (.cells #[.int .i64 (pcK q),.string (bs (pcT q)),.int .i64 (pcN q),.bool (pcF q)] 158)=w4 at *
        generalize w2.heap.size=b4 at *
        obtain ⟨c0,c1,c2,c3,z0,z1,z2,z3⟩:=Yu B4.out
        have Q4:=Hq (Ygh Q.out G4.out)
        have hsize4:=Q4.out.gr.size
        have hE:∀ o,w.heap.size<=(w4.alloc o).heap.size:=fun o=>Yy hsize4 o
        go_wp2_with (at_builtin;refine wpList_append_own_at _ rfl _ _ 125 rfl w.heap.size 158 pi (.agg #[.int .i64 0,.string ⟨#[]⟩,.int .i64 0,.bool false]) 4 40 Zql pi0 pi1 pi2 pi3 rfl (by decide) (.slice p acc.length c) _ _ rfl (World.ownsRow.alloc Q4.out.row _) ⟨w4.heap.size,0,none⟩ 1 1 (pc4 q) rfl rfl (Zwg w4 _ _ _ _ _) (Zvn _) hc3 hc4 (hE _) ?_;intro v3 w5 hown3 hgr3 hnil3 hat3;obtain ⟨p3,k3,hv3⟩:=Zk hown3;subst hv3;have OW3:=Hq hown3;have GR3:=Hq hgr3;clear hown3 hgr3 hnil3 hat3)
        exact ⟨⟨s.extract k s.size,false,g,_,rfl,rfl,Zvi Q4.out AN.out (by omega) OW3.out (Za (Ga _ _ _) GR3.out)⟩,by simp only [Zml];omega⟩
  · have hnil:s.data.toList=[]:=List.eq_nil_of_length_eq_zero (by rw [Ju];omega)
    have HU:=Hq (HR.out.trans (Ygr Q.out.at_ hnil))
    have he:s.toList.isEmpty=true:=by rw [Lib.toList_data,hnil];rfl
    clear hnil
    go_wp2
    go_ret2
    refine ⟨?_,Q.out.gr⟩
    rw [HU.out]
    exact ⟨p,c,rfl,Q.out.row⟩
structure Zge (w0 w:World) (p m:Nat) (c:CS) (pend:Value) (vd vF vL vB:Value) (bm:Nat) (cv:List Value) (lb:List Nat):Prop where
 gr:w0.grownBy w none
 ge:w0.heap.size<=p
 box:w.heap[p]? = some (.cells #[.int .i64 c.mem,vd,vF,.bool c.ms,.map (some bm),vL,vB,pend] 70 (0,0))
 ins:Zkd w w0.heap.size c vd vF vL vB bm cv lb m
 lens:c.lm.length=c.funcs.length
def PS (w0 w:World) (p m:Nat) (c:CS) (pend:Value):Prop:=∃ vd vF vL vB bm cv lb,Zge w0 w p m c pend vd vF vL vB bm cv lb
abbrev Zzc (e:Int):Value := .iface 41 (.int .i64 e)
def Zeg:Option Int->Value
 | none => .nilIface
 | some e => .iface 41 (.int .i64 e)
def amV (x:Option Int) (e:Int):Option Int:=match x with|none=>some e|some y=>if e=143 then some e else some y
theorem Zai {w0 w w':World} {p m:Nat} {c:CS} {pend:Value} (h:PS w0 w p m c pend) (g:w.grownBy w' none):PS w0 w' p m c pend:=by
 obtain ⟨vd,vF,vL,vB,bm,cv,lb,h1,h2,h3,h4,h5⟩:=h
 exact ⟨vd,vF,vL,vB,bm,cv,lb,Za h1 g,h2,Zf h3 g (by simp),Zkp h4 g,h5⟩
theorem Zia {w0 w:World} {p m m':Nat} {c:CS} {pend:Value} (h:PS w0 w p m c pend) (hm:m<=m'):PS w0 w p m' c pend:=by
 obtain ⟨vd,vF,vL,vB,bm,cv,lb,h1,h2,h3,h4,h5⟩:=h
 exact ⟨vd,vF,vL,vB,bm,cv,lb,h1,h2,h3,Zko h4 hm,h5⟩
theorem Zkq {w0 w:World} {p m:Nat} {c:CS} {pend pend' vd vF vL vB:Value} {bm:Nat} {cv:List Value} {lb:List Nat} (h:Zge w0 w p m c pend vd vF vL vB bm cv lb) :
 PS w0 (w.setCell ⟨p,7,none⟩ pend') p m c pend'/\w.grownBy (w.setCell ⟨p,7,none⟩ pend') (some p) :=
 ⟨⟨vd,vF,vL,vB,bm,cv,lb,Yd h.gr h.ge,h.ge,by rw [Zl h.box];rfl,Zdo h.ins h.box (Zo w p 7 pend'),h.lens⟩,Zo w p 7 pend'⟩
def Yps (w0 w:World) (p m:Nat) (c:CS) (x:Option Int) (e:Ending) (w':World):Prop:=e = .returned (.tuple #[])/\PS w0 w' p m c (Zeg x)/\w.grownBy w' (some p)
theorem Zlt (w0 w:World) (p m:Nat) (c:CS) (x:Option Int) (e:Int) (h:PS w0 w p m c (Zeg x)):Calls Tryz.prog 112 #[.pointer (some ⟨p,0,none⟩),.int .i64 e] w (Yps w0 w p m c (amV x e)):=by
 have HS:=Hq h
 obtain ⟨vd,vF,vL,vB,bm,cv,lb,hA⟩:=h
 have A:=Hq hA
 have c7:=Cq w p 7 _ _ _ hA.box
 have z7:=frozen_of_row w p 7 _ _ hA.box
 have hlt:p<w.heap.size:=(Gs hA.box)
 clear hA
 cases x with
 | none =>
   simp only [Zeg] at c7
   have E1:=Hq (Zkq (pend' := .iface 41 (.int .i64 e)) A.out)
   go_enter Tryz.func112,Tryz.ntmps112
   go_wp2
   go_end0
   exact ⟨rfl,E1.out.1,E1.out.2⟩
 | some y =>
   simp only [Zeg] at c7
   by_cases h3:e=143
   · have E1:=Hq (Zkq (pend' := .iface 41 (.int .i64 143)) A.out)
     subst h3
     go_enter Tryz.func112,Tryz.ntmps112
     go_wp2
     go_end0
     exact ⟨rfl,E1.out.1,E1.out.2⟩
   · have b3:(e == 143)=false:=beq_eq_false_iff_ne.2 h3
     have hv:amV (some y) e=some y:=by simp [amV,h3]
     rw [hv]
     clear h3 hv
     go_enter Tryz.func112,Tryz.ntmps112
     go_wp2
     go_end0
     exact ⟨rfl,HS.out,Zd _ _⟩
theorem Zby {w0 w w':World} {p m:Nat} {c:CS} {pend:Value} (h:PS w0 w p m c pend) (g:w.grownBy w' (some p)):Fr w w':=by
 obtain ⟨vd,vF,vL,vB,bm,cv,lb,hA⟩:=h
 exact Zlm hA.box (by decide) g
theorem Ygg {w0 w:World} {p m:Nat} {c:CS} {pend:Value} (h:PS w0 w p m c pend):w0.heap.size<=p/\p<w.heap.size:=by
 obtain ⟨vd,vF,vL,vB,bm,cv,lb,hA⟩:=h
 exact ⟨hA.ge,(Gs hA.box)⟩
theorem Zax {w0 w:World} {p m:Nat} {c:CS} {pend:Value} (h:PS w0 w p m c pend):w0.grownBy w none:=by
 obtain ⟨vd,vF,vL,vB,bm,cv,lb,hA⟩:=h
 exact hA.gr
theorem Yj {w w1 w2:World} {r r2:Option Nat} (h:w.grownBy w1 r) (g:w1.grownBy w2 r2) (hb:∀ k,r2=some k->w.heap.size<=k):w.grownBy w2 r :=
 ⟨g.os.trans h.os,g.tape.trans h.tape,g.output.trans h.output,Nat.le_trans h.size g.size,fun k hk hr=>(g.block k (Nat.lt_of_lt_of_le hk h.size) (fun e=>by have:=hb k e.symm;omega)).trans (h.block k hk hr)⟩
theorem Zvh {w0 w w':World} {p m:Nat} {c:CS} {pend:Value} {E':Nat} {t:TypeId} {sz n:Nat} {v:Value} {xs:List Value} (h:PS w0 w p m c pend) (ho:w.ownsRow E' t sz v n xs) (hE:w0.heap.size<=E')
 (ht:t≠5/\t≠61/\t≠58/\t≠66/\t≠131/\t≠70) (g:w.grownBy w' v.ownBlock):PS w0 w' p m c pend:=by
 obtain ⟨vd,vF,vL,vB,bm,cv,lb,h1,h2,h3,h4,h5⟩:=h
 obtain ⟨t1,t2,t3,t4,t5,t6⟩:=ht
 refine ⟨vd,vF,vL,vB,bm,cv,lb,Yj h1 g (fun k hk=>Nat.le_trans hE (ho.lt k hk).1),h2,?_,Zib h4 g (fun t' sz v n xs ho' ht'=>Zx ho' (Zbn ho hE) (by intro e;rw [e] at ht';rcases ht' with h|h|h|h|h <;> contradiction)) (fun b f hm=>Yh hm ho),h5⟩
 exact Zf h3 g (Ye ho h3 t6)
def Zhr (w:World) (p:Option Addr) (ps:List Pc):Prop:=0<ps.length->∃ (b o:Nat) (cs:Array Value) (fz:Nat × Nat),p=some ⟨b,o,none⟩/\w.heap[b]? = some (.cells cs 158 fz)/\∀ (i:Nat) (q:Pc),ps[i]? = some q ->
 cs[o+i*4]? = some (.int .i64 (pcK q))/\cs[o+i*4+1]? = some (.string (bs (pcT q)))/\cs[o+i*4+2]? = some (.int .i64 (pcN q))/\cs[o+i*4+3]? = some (.bool (pcF q))
theorem Xz {w w':World} {p:Option Addr} {ps:List Pc} (h:Zhr w p ps) (g:Fr w w'):Zhr w' p ps:=fun h0=>by
 obtain ⟨b,o,cs,fz,e,hb,hc⟩:=h h0
 exact ⟨b,o,cs,fz,e,(g.keep b _ _ _ hb (Or.inl rfl)).trans hb,hc⟩
theorem Xb {w:World} {p:Option Addr} {ps:List Pc} (h:Zhr w p ps) {i:Nat} {q:Pc} (hi:ps[i]? = some q):∃ b o,p=some ⟨b,o,none⟩/\b<w.heap.size /\
 w.cell? ⟨b,o+i*4,none⟩=some (.int .i64 (pcK q))/\w.cell? ⟨b,o+i*4+1,none⟩=some (.string (bs (pcT q)))/\w.cell? ⟨b,o+i*4+2,none⟩=some (.int .i64 (pcN q))/\w.cell? ⟨b,o+i*4+3,none⟩=some (.bool (pcF q)):=by
 obtain ⟨b,o,cs,fz,e,hb,hc⟩:=h (by have:=(List.getElem?_eq_some_iff.1 hi).1;omega)
 obtain ⟨h0,h1,h2,h3⟩:=hc i q hi
 have key:∀ j,w.cell? ⟨b,j,none⟩=cs[j]? := fun j=>by unfold World.cell?;simp [hb]
 exact ⟨b,o,e,(Gs hb),(key _).trans h0,(key _).trans h1,(key _).trans h2,(key _).trans h3⟩
theorem Zqm {w:World} {b o k:Nat} {ps:List Pc} (h:Zhr w (some ⟨b,o,none⟩) ps):Zhr w (some ⟨b,o+k*4,none⟩) (ps.drop k):=fun h0=>by
 rw [List.length_drop] at h0
 obtain ⟨b',o',cs,fz,e,hb,hc⟩:=h (by omega)
 injection e with e;injection e with e1 e2
 subst e1;subst e2
 refine ⟨b,_,cs,fz,rfl,hb,fun i q hi => ?_⟩
 rw [List.getElem?_drop] at hi
 have:=hc (k+i) q hi
 rw [show o+k*4+i*4=o+(k+i)*4 by omega]
 exact this
theorem Zom {w:World} {E:Nat} {p:Option Addr} {c:Nat} {ps:List Pc} (h:Zzo w E (.slice p ps.length c) ps):Zhr w p ps:=fun h0=>by
 rcases h.2 with ⟨_,h1⟩|⟨g,cap,cur,hv,_,hg,hn,hm,hs,ht⟩
 · omega
 · injection hv with hv _ _
   refine ⟨g,0,cur,_,hv,hg,fun i q hi => ?_⟩
   have hil:=(List.getElem?_eq_some_iff.1 hi).1
   obtain ⟨a0,a1,a2,a3⟩:=Zvl ps i q hi
   have key:∀ j v,(Zti ps)[j]? = some v->cur[j]? = some v:=fun j v hj=>by
    rw [<- ht] at hj
    rw [List.getElem?_take] at hj
    split at hj
    · rw [<- Array.getElem?_toList];exact hj
    · cases hj
   rw [Nat.zero_add]
   exact ⟨key _ _ a0,key _ _ a1,key _ _ a2,key _ _ a3⟩
def Zmd:Pc->Bool
 | .num _ _=>true
 | _=>false
def Zyw:Pc->Bool
 | .num _ b=>b
 | _=>false
def Zda (ps:List Pc) (n:Nat):Option (List Int):=if ps.length=n/\ps.all Zmd=true then some (ps.map pcN) else none
def Zlr (x:Option Int) (ps:List Pc):Option Int:=if ps.any Zyw=true then some 143 else x
theorem Yna (x:Option Int):amV x 143=some 143:=by cases x <;> rfl
theorem Yem {x:Option Int} {ps:List Pc} {k:Nat} {q:Pc} (h:ps[k]? = some q):Zlr x (ps.take (k+1))=if Zyw q then some 143 else Zlr x (ps.take k):=by
 unfold Zlr
 rw [List.take_add_one,h,List.any_append]
 cases hq:Zyw q <;> simp [hq]
def Zwy (w:World) (E:Nat) (v:Value) (xs:List Int):Prop:=w.ownsRow E 3 1 v xs.length (xs.map (Value.int .i64))
def Zho (w0 w:World) (p m:Nat) (c:CS) (x:Option Int) (ps:List Pc) (n:Nat) (e:Ending) (w':World):Prop :=
 (match Zda ps n with
   | some xs=>∃ q k,e = .returned (.tuple #[.slice q xs.length k,.nilIface])/\Zwy w' w.heap.size (.slice q xs.length k) xs/\PS w0 w' p m c (Zeg (Zlr x ps))
   | none=>e = .returned (.tuple #[.slice none 0 0,Zzc 141])/\∃ x',PS w0 w' p m c (Zeg x'))/\w.grownBy w' (some p)
theorem Zos (w:World) (o:Obj) (x:Value) (t:TypeId):∀ j u,[x][j]? = some u->((w.alloc o).alloc (.cells #[x] t)).cell? ((⟨w.heap.size+1,0,none⟩:Addr).add j)=some u:=by
 have h:=Zdp (w.alloc o) x t
 rw [World.size_alloc] at h
 exact h
theorem Zlb {q:Pc} (h:Zmd q=true):pcK q=1:=by cases q <;> simp [Zmd] at h <;> rfl
theorem Yhn {q:Pc} (h:Zmd q=false):(pcK q != 1)=true:=by cases q <;> simp [Zmd] at h <;> rfl
theorem Ycy {q:Pc} (h:Zmd q=true):pcF q = !Zyw q:=by cases q <;> simp [Zmd] at h <;> rfl
theorem Zfy (w0 w:World) (p m:Nat) (c:CS) (x:Option Int) (ps:List Pc) (pp:Option Addr) (cc n:Nat) (h:PS w0 w p m c (Zeg x)) (hp:Zhr w pp ps) (hn:ps.length<=70000) (hn2:n<=10) :
 Calls Tryz.prog 113 #[.pointer (some ⟨p,0,none⟩),.slice pp ps.length cc,.int .i64 n] w (Zho w0 w p m c x ps n):=by
 have HS:=Hq h
 have HP:=Hq hp
 clear h hp
 by_cases hl:ps.length=n
 · have AM:=Hq (fun (wr:World) x'=>Zlt w0 wr p m c x' 143)
   obtain ⟨ni,ni0,ni1,ni2,ni3⟩:=info_parts Yho
   have hni:(ps.length:Int)=n:=by omega
   go_enter Tryz.func113,Tryz.ntmps113
   subst hl
   go_wp2
   go_loopw [8,18] (fun v i wr=>∃ k:Nat,i = .int .i64 k/\k<=ps.length/\(ps.take k).all Zmd=true/\wr.ownsRow w.heap.size 3 1 v k (((ps.take k).map pcN).map (Value.int .i64))/\PS w0 wr p m c (Zeg (Zlr x (ps.take k)))/\w.grownBy wr (some p)) (fun _ i _=>ps.length - (intOf i).toNat)
   case atStart=>exact ⟨0,rfl,Nat.zero_le _,rfl,World.ownsRow_nil _ _ _ _,by simpa [Zlr] using HS.out,Zd _ _⟩
   case round =>
    obtain ⟨k,rfl,hk,hall,ho,hps,hg⟩:=hrel
    obtain ⟨q1,k1,rfl⟩:=Zk ho
    have OW:=Hq ho
    have SP:=Hq hps
    have GR:=Hq hg
    have AL:=Hq hall
    have PT:=Hq (Xz HP.out (Zby HS.out hg))
    clear hall ho hps hg
    by_cases hlt:k<ps.length
    · obtain ⟨q,hq⟩:∃ q,ps[k]? = some q:=⟨_,List.getElem?_eq_getElem hlt⟩
      obtain ⟨b,o,rfl,hb,c0,c1,c2,c3⟩:=Xb PT.out hq
      have HQ:=Hq hq
      clear hq
      cases hnum:Zmd q with
      | false =>
        have hk1:=Yhn hnum
        have HN:=Hq (show Zda ps ps.length=none by
         unfold Zda
         rw [if_neg]
         rintro ⟨_,h2⟩
         rw [List.all_eq_true] at h2
         have:=h2 q (List.mem_of_getElem? HQ.out)
         rw [hnum] at this;cases this)
        generalize pcK q=v0 at *
        generalize bs (pcT q)=v1 at *
        generalize pcN q=v2 at *
        generalize pcF q=v3 at *
        clear hnum
        go_wp2
        go_ret2
        refine ⟨?_,Za GR.out (Ga _ _ _)⟩
        rw [HN.out]
        exact ⟨rfl,_,Zai SP.out (Ga _ _ _)⟩
      | true =>
        have hk1:=Zlb hnum
        have hk3:=Ycy hnum
        have hst:=Yem (x:=x) HQ.out
        have HX:=Hq hst
        have HALL:=Hq (show (ps.take (k+1)).all Zmd=true by
         rw [List.take_add_one,HQ.out,List.all_append,AL.out]
         simp [hnum])
        have HVAL:=Hq (show ((ps.take (k+1)).map pcN).map (Value.int .i64)=((ps.take k).map pcN).map (Value.int .i64)++[.int .i64 (pcN q)] by
         rw [List.take_add_one,HQ.out];simp)
        have hpl:=Ygg HS.out
        have hpl2:=Ygg SP.out
        have hgs:=GR.out.size
        have hc3:k+1<=maxLen:=by unfold maxLen;omega
        have hc4:(k+1)*8<=140737488355328:=by omega
        clear hst
        cases hbig:Zyw q with
        | false =>
          rw [hbig] at hk3
          have HX2:=Hq (show Zlr x (ps.take (k+1))=Zlr x (ps.take k) by rw [HX.out,hbig];rfl)
          rw [hk1] at c0
          rw [hk3] at c3
          have hE:∀ o' o'',w.heap.size<=((wr.alloc o').alloc o'').heap.size:=fun o' o''=>by simp;omega
          generalize bs (pcT q)=v1 at *
          generalize pcN q=v2 at *
          clear hnum hk1 hk3 hbig HX
          go_wp2_with (at_builtin;refine wpList_append_own_at _ rfl _ _ 93 rfl w.heap.size 3 ni (.int .i64 0) 1 8 Ycz ni0 ni1 ni2 ni3 rfl (by decide) (.slice q1 k k1) _ _ rfl (World.ownsRow.alloc (World.ownsRow.alloc OW.out _) _) ⟨wr.heap.size+1,0,none⟩ 1 1 [.int .i64 _] rfl rfl (Zos wr _ _ _) (Jq _ _) hc3 hc4 (hE _ _) ?_;intro v3 w5 hown3 hgr3 hnil3 hat3;obtain ⟨p3,k3,hv3⟩:=Zk hown3;subst hv3;have OW3:=Hq hown3;have GR3:=Hq hgr3;clear hown3 hgr3 hnil3 hat3)
          exact ⟨⟨k+1,by go_num,by omega,HALL.out,by rw [HVAL.out];exact OW3.out,by rw [HX2.out];exact Zvh (Zai SP.out (Za (Ga wr _ none) (Ga _ _ none))) (World.ownsRow.alloc (World.ownsRow.alloc OW.out _) _) (Zax HS.out).size (by decide) GR3.out,Yj (Za GR.out (Zli (Za (Ga wr _ none) (Ga _ _ none)))) GR3.out (fun q hq=>(World.ownsRow.lt OW.out q hq).1)⟩,by simp [intOf];omega⟩
        | true =>
          rw [hbig] at hk3
          have HX2:=Hq (show Zeg (amV (Zlr x (ps.take k)) 143)=Zeg (Zlr x (ps.take (k+1))) by rw [HX.out,hbig,Yna];rfl)
          rw [hk1] at c0
          rw [hk3] at c3
          have hpne:(some p:Option Nat)≠some wr.heap.size:=by intro e;injection e with e;omega
          have HPN:=Hq hpne
          generalize bs (pcT q)=v1 at *
          generalize pcN q=v2 at *
          clear hnum hk1 hk3 hbig HX hpne
          go_wp2_with (first
           | (go_at_call 112;refine (AM.out _ _ (Zai SP.out (Ga wr _ none))).mono ?_;rintro e w2 ⟨rfl,hps2,hg2⟩;have S2:=Hq (HX2.out ▸ hps2);have G2:=Hq hg2;have B2:=Hq (Yl (Ja wr _ _ _ _) hg2 HPN.out);have O2:=Hq ((World.ownsRow.alloc OW.out _).kept hg2 (Znd OW.out hpl.2));obtain ⟨d0,d1,d2,d3,y0,y1,y2,y3⟩:=Yu B2.out;have hl2:=Zon B2.out;have hE2:∀ o',w.heap.size<=(w2.alloc o').heap.size:=(fun o'=>Yy (by omega) o');clear hps2 hg2)
           | (at_builtin;refine wpList_append_own_at _ rfl _ _ 93 rfl w.heap.size 3 ni (.int .i64 0) 1 8 Ycz ni0 ni1 ni2 ni3 rfl (by decide) (.slice q1 k k1) _ _ rfl (World.ownsRow.alloc O2.out _) ⟨w2.heap.size,0,none⟩ 1 1 [.int .i64 _] rfl rfl (Zdp w2 _ _) (Jq _ _) hc3 hc4 (hE2 _) ?_;intro v3 w5 hown3 hgr3 hnil3 hat3;obtain ⟨p3,k3,hv3⟩:=Zk hown3;subst hv3;have OW3:=Hq hown3;have GR3:=Hq hgr3;clear hown3 hgr3 hnil3 hat3))
          exact ⟨⟨k+1,by go_num,by omega,HALL.out,by rw [HVAL.out];exact OW3.out,Zvh (Zai S2.out (Ga w2 _ none)) (World.ownsRow.alloc O2.out _) (Zax HS.out).size (by decide) GR3.out,Yj (Za (Za (Za GR.out (Zli (Ga wr _ none))) G2.out) (Zli (Ga _ _ none))) GR3.out (fun q hq=>(World.ownsRow.lt OW.out q hq).1)⟩,by simp [intOf];omega⟩
    · have hkn:k=ps.length:=by omega
      subst hkn
      have HN:=Hq (show Zda ps ps.length=some (ps.map pcN) by
       unfold Zda
       have:=AL.out
       rw [List.take_length] at this
       rw [if_pos ⟨rfl,this⟩])
      have HO:=Hq (show Zwy wr w.heap.size (.slice q1 (ps.map pcN).length k1) (ps.map pcN) by
       have:=OW.out
       rw [List.take_length] at this
       unfold Zwy
       rw [List.length_map];exact this)
      have HB:=Hq (show PS w0 wr p m c (Zeg (Zlr x ps)) by have:=SP.out;rw [List.take_length] at this;exact this)
      clear hlt
      go_wp2
      go_ret2
      refine ⟨?_,GR.out⟩
      rw [HN.out]
      exact ⟨q1,k1,by rw [List.length_map];rfl,HO.out,HB.out⟩
 · have HN:=Hq (show Zda ps n=none by unfold Zda;rw [if_neg (fun h=>hl h.1)])
   have hb:((ps.length:Int) != (n:Int))=true:=by rw [bne_iff_ne];omega
   clear hl
   go_enter Tryz.func113,Tryz.ntmps113
   go_wp2
   go_ret2
   refine ⟨?_,Zd _ _⟩
   rw [HN.out]
   exact ⟨rfl,x,HS.out⟩
def Yjo (n:Nat):UInt8:=if n<10 then UInt8.ofNat (48+n) else UInt8.ofNat (87+n)
def Zqf (c:UInt8):Txt:=if c.toNat=34\/c.toNat=92 then [92,c] else if c.toNat<32\/126<c.toNat then [92,120,Yjo (c.toNat / 16),Yjo (c.toNat % 16)] else [c]
def Zsm (b:Txt):Txt:=34::(b.flatMap Zqf++[34])
def Zbp (op:Int):Txt:=match Zr op with|some s=>s.1.data.toList|none=>[]
def Yt (op:Int):Int:=match Zr op with|some s=>s.2.1|none=>0
def Zzs (a:Int):Txt:=match callT[a.toNat]? with|some r=>r.1.data.toList|none=>[]
def Zcz (nF nC:Nat) (kind a:Int):Txt :=
 if kind=0 then []
 else if kind=3/\a<=nC then 32::76::Lib.itoa a
 else if kind=4/\a<nF then 32::102::Lib.itoa a
 else if kind=5 then 32::Zzs a
 else 32::Lib.itoa a
def Xp (code:List (Int × Int)) (k:Nat):Bool:=code.any fun x=>Yt x.1 == 3 && x.2 == (k:Int)
def Zjm (code:List (Int × Int)) (k:Nat):Txt:=if Xp code k then 76::(Lib.itoa k++[58,10]) else []
def Zhq (nF nC:Nat) (x:Int × Int):Txt:=9::(Zbp x.1++Zcz nF nC (Yt x.1) x.2++[10])
def plT (nF:Nat) (code:List (Int × Int)) (k:Nat):Txt:=Zjm code k++(match code[k]? with|some x=>Zhq nF code.length x|none=>[])
def Jz (nF:Nat) (code:List (Int × Int)) (n:Nat):Txt:=(List.range n).flatMap (plT nF code)
def Xr (k:Nat) (f:FnR):Txt:=[102,117,110,99,32,102]++Lib.itoa k++[32]++Lib.itoa f.1++[32]++Lib.itoa f.2.1++[32]++Lib.itoa f.2.2.1++[10]
def fnT (nF k:Nat) (f:FnR):Txt:=Xr k f++Jz nF f.2.2.2 (f.2.2.2.length+1)
def Zba (fs:List FnR) (n:Nat):Txt:=(List.range n).flatMap fun k=>match fs[k]? with|some f=>fnT fs.length k f|none=>[]
def Zdu (mem:Int) (d:Txt):Txt:=[109,101,109,111,114,121,32]++Lib.itoa mem++[10]++(if d=[] then [] else [100,97,116,97,32]++Zsm d++[10])
def Zay (p:PrP):Txt:=Zdu p.1 p.2.1++Zba p.2.2 p.2.2.length
def Zcw (p:PrP):Except Int Txt :=
 if Xg p.1 p.2.1.length p.2.2≠0 then .error (Xg p.1 p.2.1.length p.2.2)
 else if 65536<(Zay p).length then .error 2
 else .ok (Zay p)
theorem Zdc (nF:Nat) (code:List (Int × Int)) (n:Nat):Jz nF code (n+1)=Jz nF code n++plT nF code n:=by
 unfold Jz;rw [List.range_succ,List.flatMap_append];simp
theorem Zrh {fs:List FnR} {n:Nat} {f:FnR} (h:fs[n]? = some f):Zba fs (n+1)=Zba fs n++fnT fs.length n f:=by
 unfold Zba;rw [List.range_succ,List.flatMap_append];simp [h]
theorem Zri (fs:List FnR):∀ (m n:Nat),(Zba fs n).length<=(Zba fs (n+m)).length
 | 0,n=>Nat.le_refl _
 | m+1,n=>by
   have h:=Zri fs m n
   have e:Zba fs (n+(m+1))=Zba fs (n+m)++(match fs[n+m]? with|some f=>fnT fs.length (n+m) f|none=>[]):=by
    unfold Zba;rw [<- Nat.add_assoc,List.range_succ,List.flatMap_append];simp
   rw [e,List.length_append];omega
theorem Yge {c:UInt8} (h:c.toNat=34\/c.toNat=92):Zqf c=[92,c]:=if_pos h
theorem Ygd {c:UInt8} (h:¬ (c.toNat=34\/c.toNat=92)) (h2:c.toNat<32\/126<c.toNat):Zqf c=[92,120,Yjo (c.toNat / 16),Yjo (c.toNat % 16)]:=(if_neg h).trans (if_pos h2)
theorem Ygb {c:UInt8} (h:¬ (c.toNat=34\/c.toNat=92)) (h2:¬ (c.toNat<32\/126<c.toNat)):Zqf c=[c]:=(if_neg h).trans (if_neg h2)
theorem Ygc (c:UInt8):(Zqf c).length<=4:=by
 unfold Zqf
 split
 · simp
 · split <;> simp
theorem Zkm:∀ (b:Txt),(b.flatMap Zqf).length<=4*b.length
 | []=>Nat.le_refl _
 | c::r=>by
   have h1:=Ygc c
   have h2:=Zkm r
   rw [List.flatMap_cons,List.length_append,List.length_cons];omega
theorem Yan (b:Txt) (k:Nat) (c:UInt8) (h:b[k]? = some c):(b.take (k+1)).flatMap Zqf=(b.take k).flatMap Zqf++Zqf c:=by
 rw [List.take_add_one,h,List.flatMap_append];simp
theorem Ybw (nF nC:Nat) (a:Int):Zcz nF nC 0 a=[]:=if_pos rfl
theorem Ybx {nF nC:Nat} {a:Int} (h:a<=nC):Zcz nF nC 3 a=[32,76]++Lib.itoa a:=(if_neg (by decide)).trans (if_pos ⟨rfl,h⟩)
theorem Yll {nF nC:Nat} {a:Int} (h:a<nF):Zcz nF nC 4 a=[32,102]++Lib.itoa a:=(if_neg (by decide)).trans ((if_neg (fun h=>absurd h.1 (by decide))).trans (if_pos ⟨rfl,h⟩))
theorem Ygw {nF nC n:Nat} {r:ShR} (h:callT[n]? = some r):Zcz nF nC 5 n=[32]++r.1.data.toList:=by
 refine (if_neg (by decide)).trans ((if_neg (fun h=>absurd h.1 (by decide))).trans ((if_neg (fun h=>absurd h.1 (by decide))).trans ((if_pos rfl).trans ?_)))
 unfold Zzs
 rw [Int.toNat_natCast,h];rfl
theorem Zoq {nF nC:Nat} {k a:Int} (h0:k≠0) (h3:k=3->¬ a<=nC) (h4:k=4->¬ a<nF) (h5:k≠5):Zcz nF nC k a=[32]++Lib.itoa a :=
 (if_neg h0).trans ((if_neg (fun h=>h3 h.1 h.2)).trans ((if_neg (fun h=>h4 h.1 h.2)).trans (if_neg h5)))
end Go.Proofs.YteciblfmgdlipaaGreatDoor.AS
namespace Go.Proofs.YteciblfmgdlipaaGreatDoor.CK
open Go.RowKit Go.Great
theorem Zsr {a:Act} {N d:Nat} {v:Value} (hs:a.tmps.size=N) (hd:d<N) (e:Nat):tm (a.put (some d) v) e=if e=d then v else tm a e:=by
 unfold tm Act.put
 by_cases h:e=d
 · subst h;simp [hs,hd]
 · rw [if_neg h];simp [Array.getD_eq_getD_getElem?,Array.getElem?_setIfInBounds_ne (Ne.symm h)]
theorem Zpw {a:Act} {N:Nat} {d:Option Tmp} {v:Value} (hs:a.tmps.size=N):(a.put d v).tmps.size=N:=by cases d <;> simp [Act.put,hs]
structure RJ (a0:Act) (N n:Nat) (dst:Nat->Nat) (val:Nat->Value) (l:Array Bool) (a:Act):Prop where
 sz:l.size=n
 ts:a.tmps.size=N
 df:a.defers=a0.defers
 sl:∀ i,i<n->l.getD i false=true->dst i<N->tm a (dst i)=val i
 un:∀ j,(∀ i,i<n->l.getD i false=true->dst i≠j)->tm a j=tm a0 j
theorem Xm {a0 a:Act} {N n i:Nat} {dst:Nat->Nat} {val:Nat->Value} {l:Array Bool} (h:RJ a0 N n dst val l a) (hi:i<n) (hd:dst i<N) (hne:∀ j,j<n->j≠i->dst j≠dst i) :
 RJ a0 N n dst val (l.setIfInBounds i true) (a.put (some (dst i)) (val i)):=by
 have hgs:∀ j,(l.setIfInBounds i true).getD j false=if j=i then true else l.getD j false:=fun j=>Zbd l i j (by rw [h.sz];exact hi)
 have T:∀ e,tm (a.put (some (dst i)) (val i)) e=if e=dst i then val i else tm a e:=fun e=>Zsr h.ts hd e
 refine ⟨by simp [h.sz],Zpw h.ts,h.df,fun j hj hl hdj => ?_,fun j hj => ?_⟩
 · rw [hgs] at hl
   by_cases hji:j=i
   · subst hji;rw [T,if_pos rfl]
   · rw [if_neg hji] at hl
     rw [T,if_neg (hne j hj hji)]
     exact h.sl j hj hl hdj
 · have h1:=hj i hi (by rw [hgs,if_pos rfl])
   rw [T,if_neg (Ne.symm h1)]
   refine h.un j fun i' hi' hl'=>hj i' hi' ?_
   rw [hgs]
   by_cases e:i'=i
   · rw [if_pos e]
   · rw [if_neg e];exact hl'
theorem Ykq {a0 a:Act} {N n i:Nat} {dst:Nat->Nat} {val:Nat->Value} {l:Array Bool} (h:RJ a0 N n dst val l a) (hi:i<n) (hd:N<=dst i):RJ a0 N n dst val (l.setIfInBounds i true) a:=by
 have hgs:∀ j,(l.setIfInBounds i true).getD j false=if j=i then true else l.getD j false:=fun j=>Zbd l i j (by rw [h.sz];exact hi)
 refine ⟨by simp [h.sz],h.ts,h.df,fun j hj hl hdj => ?_,fun j hj => ?_⟩
 · rw [hgs] at hl
   by_cases hji:j=i
   · subst hji;omega
   · rw [if_neg hji] at hl;exact h.sl j hj hl hdj
 · refine h.un j fun i' hi' hl'=>hj i' hi' ?_
   rw [hgs]
   by_cases e:i'=i
   · rw [if_pos e]
   · rw [if_neg e];exact hl'
theorem Yz {a0:Act} {N n:Nat} {dst:Nat->Nat} {val:Nat->Value} (hs:a0.tmps.size=N):RJ a0 N n dst val (Array.replicate n false) a0 :=
 ⟨by simp,hs,rfl,fun i hi hl _=>(by rw [getD_replicate_false] at hl;cases hl),fun j _=>rfl⟩
theorem Zum {a b:Act} (hs:a.tmps.size=b.tmps.size) (hd:a.defers=b.defers) (ht:∀ j,j<a.tmps.size->tm a j=tm b j):a=b:=by
 obtain ⟨ta,da⟩:=a
 obtain ⟨tb,db⟩:=b
 simp only at hs hd
 subst hd
 congr 1
 refine Array.ext hs fun j h1 h2 => ?_
 have:=ht j h1
 simpa [tm,h1,h2] using this
theorem Yod {a0 a aF:Act} {N n:Nat} {dst:Nat->Nat} {val:Nat->Value} {l:Array Bool} (h:RJ a0 N n dst val l a) (hl:∀ j,j<n->l.getD j false=true) (hs:aF.tmps.size=N) (hd:aF.defers=a0.defers)
 (hv:∀ i,i<n->dst i<N->tm aF (dst i)=val i) (hu:∀ j,(∀ i,i<n->dst i≠j)->tm aF j=tm a0 j):a=aF:=by
 refine Zum (h.ts.trans hs.symm) (h.df.trans hd.symm) fun j hj => ?_
 by_cases he:∃ i,i<n/\dst i=j
 · obtain ⟨i,hi,rfl⟩:=he
   have hN:dst i<N:=by rw [<- h.ts];exact hj
   rw [h.sl i hi (hl i hi) hN,hv i hi hN]
 · have hne:∀ i,i<n->dst i≠j:=fun i hi e=>he ⟨i,hi,e⟩
   rw [h.un j (fun i hi _=>hne i hi),hu j hne]
def Jy (a0:Act) (dst:Nat->Nat) (val:Nat->Value):Nat->Act
 | 0=>a0
 | n+1=>(Jy a0 dst val n).put (some (dst n)) (val n)
theorem Zex {a0:Act} {N:Nat} {dst:Nat->Nat} {val:Nat->Value} (hs:a0.tmps.size=N):∀ n,(Jy a0 dst val n).tmps.size=N
 | 0=>hs
 | n+1=>Zpw (Zex hs n)
theorem Zja {a0:Act} {dst:Nat->Nat} {val:Nat->Value}:∀ n,(Jy a0 dst val n).defers=a0.defers
 | 0=>rfl
 | n+1=>Zja n
theorem Zvd {a0:Act} {N:Nat} {dst:Nat->Nat} {val:Nat->Value} (hs:a0.tmps.size=N):∀ n,(∀ i j,i<n->j<n->i≠j->dst i≠dst j)->∀ i,i<n->dst i<N->tm (Jy a0 dst val n) (dst i)=val i
 | 0,_,i,hi,_=>by omega
 | n+1,hne,i,hi,hd=>by
   rw [Jy]
   by_cases e:i=n
   · subst e;rw [Zsr (Zex hs i) hd,if_pos rfl]
   · have h1:=Zvd (a0:=a0) (val:=val) hs n (fun i j h1 h2=>hne i j (by omega) (by omega)) i (by omega) hd
     by_cases hn:dst n<N
     · rw [Zsr (Zex hs n) hn,if_neg (hne i n (by omega) (by omega) e)];exact h1
     · have:∀ v,tm ((Jy a0 dst val n).put (some (dst n)) v) (dst i)=tm (Jy a0 dst val n) (dst i):=by
        intro v
        unfold tm Act.put
        simp [Array.getD_eq_getD_getElem?,Array.getElem?_setIfInBounds_ne (hne n i (by omega) (by omega) (Ne.symm e))]
       rw [this];exact h1
theorem Zqg {a0:Act} {dst:Nat->Nat} {val:Nat->Value}:∀ n j,(∀ i,i<n->dst i≠j)->tm (Jy a0 dst val n) j=tm a0 j
 | 0,_,_=>rfl
 | n+1,j,h=>by
   rw [Jy]
   have:tm ((Jy a0 dst val n).put (some (dst n)) (val n)) j=tm (Jy a0 dst val n) j:=by
    unfold tm Act.put
    simp [Array.getD_eq_getD_getElem?,Array.getElem?_setIfInBounds_ne (h n (by omega))]
   rw [this]
   exact Zqg n j (fun i hi=>h i (by omega))
theorem Xw {a0 a:Act} {N n:Nat} {dst:Nat->Nat} {val:Nat->Value} {l:Array Bool} (h:RJ a0 N n dst val l a) (h0:a0.tmps.size=N) (hl:∀ j,j<n->l.getD j false=true) (hne:∀ i j,i<n->j<n->i≠j->dst i≠dst j):a=Jy a0 dst val n :=
 Yod h hl (Zex h0 n) (Zja n) (Zvd h0 n hne) (Zqg n)
theorem Ykh {a:Act} {d:Nat} (hs:d<a.tmps.size):a.tmps[d]? = some (a.tmps.getD d undef):=by
 rw [Array.getElem?_eq_getElem hs];simp [hs]
theorem Zfx {ops:Array Oper} {o:Oper} {a:Act} {k d:Nat} {b:Bool} (hg:o.guard=some (k,b)) (hk:(ops[k]?).bind (·.dst)=some d) (hs:d<a.tmps.size) (hv:a.tmps.getD d undef = .bool b):Region.wanted o (yielded ops a.tmps)=true:=by
 have h1:=Ykh hs
 rw [hv] at h1
 unfold Region.wanted
 rw [hg]
 simp [yielded,hk,h1]
theorem Ze {ops:Array Oper} {a0 a:Act} {N n i:Nat} {dst:Nat->Nat} {val:Nat->Value} {l:Array Bool} (h:RJ a0 N n dst val l a) (hi:i∈Region.ready .any ops l) (j:Nat) (hc:(decide (j<n) && decide (dst j<N) && ((ops[i]?).any fun o=>o.after.any fun e=>e.on == j && Region.binds .any e))=true):a.tmps.getD (dst j) undef=val j:=by
 simp only [Bool.and_eq_true,decide_eq_true_eq] at hc
 exact h.sl j hc.1.1 (Zb hi j hc.2) hc.1.2
theorem Xo {a0 a:Act} {N n:Nat} {dst:Nat->Nat} {val val':Nat->Value} {l:Array Bool} (h:RJ a0 N n dst val l a) (hv:∀ i,i<n->l.getD i false=true->dst i<N->val' i=val i):RJ a0 N n dst val' l a :=
 ⟨h.sz,h.ts,h.df,fun i hi hl hd=>by rw [hv i hi hl hd];exact h.sl i hi hl hd,h.un⟩
section
variable {ops:Array Oper} {Q:Exit->Act->World->Prop} {a0 a:Act} {N n i:Nat} {dst:Nat->Nat} {val:Nat->Value} {l:Array Bool} {w w':World} {WS:Array Bool->World->Prop} {o:Oper}
theorem Zbk (hJ:RJ a0 N n dst val l a) (ho:ops[i]? = some o) (hg:o.guard=none) (hdst:o.dst=none) (hi:i<n) (hd:N<=dst i) (hrun:(execOp a.eval o).run Tryz.prog w = .ok .skip w') (hW:WS (l.setIfInBounds i true) w') :
 wpOp Tryz.prog ops Q i (fun a' w''=>RJ a0 N n dst val (l.setIfInBounds i true) a'/\WS (l.setIfInBounds i true) w'') a w :=
 Zzz ho hg hdst hrun ⟨Ykq hJ hi hd,hW⟩
theorem Yqb (hJ:RJ a0 N n dst val l a) (ho:ops[i]? = some o) (hw:Region.wanted o (yielded ops a.tmps)=true) (hdst:o.dst=some (dst i)) (hi:i<n) (hd:dst i<N) (hne:∀ j,j<n->j≠i->dst j≠dst i) (hrun:(execOp a.eval o).run Tryz.prog w = .ok (.value (val i)) w') (hW:WS (l.setIfInBounds i true) w') :
 wpOp Tryz.prog ops Q i (fun a' w''=>RJ a0 N n dst val (l.setIfInBounds i true) a'/\WS (l.setIfInBounds i true) w'') a w:=by
 unfold wpOp
 simp only [ho]
 rw [if_pos hw]
 refine Or.inl ?_
 unfold Oper.wp
 rw [hrun,Oper.upon_value,hdst]
 exact ⟨Xm hJ hi hd hne,hW⟩
theorem Zh {K K':Act->World->Prop} (h:wpOp Tryz.prog ops Q i K a w) (hk:∀ a' w',K a' w'->K' a' w'):wpOp Tryz.prog ops Q i K' a w:=wpOp_mono hk h
end
theorem Zul {ops:Array Oper} (hdag:∀ (j:Nat) (o:Oper),ops[j]? = some o->∀ e∈o.after,Region.binds .any e=true->e.on<j) {l:Array Bool} (h:Region.ready .any ops l=[]) (hsz:l.size=ops.size):∀ j,j<ops.size->l.getD j false=true:=by
 intro j
 induction j using Nat.strongRecOn with
 | _ j ih =>
   intro hj
   by_cases hl:l.getD j false=true
   · exact hl
   · exfalso
     have hlt:j<l.size:=by omega
     have h1:l.getD j true=false:=by
      simp only [Array.getD,hlt,dif_pos] at hl ⊢
      simpa using hl
     have:j∈Region.ready .any ops l:=mem_ready.2 ⟨h1,ops[j],by simp [hj],fun e he hb=>ih e.on (hdag j ops[j] (by simp [hj]) e he hb) (Nat.lt_trans (hdag j ops[j] (by simp [hj]) e he hb) hj)⟩
     rw [h] at this
     cases this
theorem Xx {ops:Array Oper} (h:((List.range ops.size).all fun j=>(ops[j]?).all fun o=>o.after.all fun e => !(Region.binds .any e) || decide (e.on<j))=true):∀ (j:Nat) (o:Oper),ops[j]? = some o->∀ e∈o.after,Region.binds .any e=true->e.on<j:=by
 intro j o ho e he hb
 have hj:j<ops.size:=(Gs ho)
 have h1:=List.all_eq_true.1 h j (List.mem_range.2 hj)
 rw [ho] at h1
 have h2:=Array.all_eq_true'.1 (show o.after.all (fun e => !(Region.binds .any e) || decide (e.on<j))=true from h1) e he
 rw [hb] at h2
 exact of_decide_eq_true (by simpa using h2)
theorem Xa {id:Nat} {ops:Array Oper} {Q:Exit->Act->World->Prop} {a0:Act} {w:World} {n:Nat} (J:Act->Array Bool->Act->World->Prop)
 (hm:Tryz.prog.follows .mixedOrders=true) (hn:ops.size=n) (hdag:∀ (j:Nat) (o:Oper),ops[j]? = some o->∀ e∈o.after,Region.binds .any e=true->e.on<j) (hsz:∀ l a w,J a0 l a w->l.size=n) (hW:J a0 (Array.replicate n false) a0 w.drew)
 (step:∀ l a w i,J a0 l a w->i∈Region.ready .any ops l->i<n->wpOp Tryz.prog ops Q i (fun a' w'=>J a0 (l.setIfInBounds i true) a' w') a w)
 (fin:∀ l a w,J a0 l a w->(∀ j,j<n->l.getD j false=true)->Q .normal a w):(Code.region id ops true).wp Tryz.prog Q a0 w:=by
 subst hn
 refine wp_region_any hm ?_
 refine Zkf (J a0) (fun l a w i hJ hi=>step l a w i hJ hi ?_) (fun l a w hJ hr=>fin l a w hJ (Zul hdag hr (hsz l a w hJ))) _ _ _ _ hW (by simp)
 obtain ⟨_,o,ho,_⟩:=mem_ready.1 hi
 exact (Gs ho)
theorem Zz {ops:Array Oper} {Q:Exit->Act->World->Prop} {a:Act} {i:Nat} {w:World} {o:Oper} {K:Act->World->Prop} (ho:ops[i]? = some o) (hw:Region.wanted o (yielded ops a.tmps)=true) {f:FuncId} {args:Array Value} (hrun:(execOp a.eval o).run Tryz.prog w = .ok (.enter f args) w)
 (hc:Calls Tryz.prog f args w fun e w''=>∃ v,e = .returned v/\K (a.put o.dst v) w''):wpOp Tryz.prog ops Q i K a w:=by
 unfold wpOp
 simp only [ho]
 rw [if_pos hw]
 refine Or.inl ?_
 unfold Oper.wp
 rw [hrun]
 simp only [Oper.upon]
 refine hc.mono fun e w' he => ?_
 obtain ⟨v,rfl,hK⟩:=he
 exact hK
theorem Yqu {D:List (Nat × Nat)} {n i:Nat} {l:Array Bool} (hs:l.size=n) (hin:i<n) (hx:∀ p∈D,l.getD p.1 false=true->l.getD p.2 false=true) (hp:∀ p∈D,p.1=i->l.getD p.2 false=true) :
 ∀ p∈D,(l.setIfInBounds i true).getD p.1 false=true->(l.setIfInBounds i true).getD p.2 false=true:=fun p hpD e=>by
 rw [Zbd l i _ (by omega)] at e ⊢
 by_cases h2:p.2=i
 · rw [if_pos h2]
 · rw [if_neg h2]
   by_cases h1:p.1=i
   · exact hp p hpD h1
   · rw [if_neg h1] at e;exact hx p hpD e
theorem Zj {ops:Array Oper} {l:Array Bool} {i:Nat} (D:List (Nat × Nat)) (hi:i∈Region.ready .any ops l) (h:(D.all fun p=>p.1 != i || ((ops[i]?).any fun o=>o.after.any fun e=>e.on == p.2 && Region.binds .any e))=true):∀ p∈D,p.1=i->l.getD p.2 false=true:=fun p hp e=>by
 have h1:=List.all_eq_true.1 h p hp
 rw [e] at h1
 simp only [bne_self_eq_false,Bool.false_or] at h1
 exact Zb hi p.2 h1
theorem Xf {ops:Array Oper} {Q:Exit->Act->World->Prop} {a:Act} {i:Nat} {w w':World} {o:Oper} {K:Act->World->Prop} {v:Value} (ho:ops[i]? = some o) (hw:Region.wanted o (yielded ops a.tmps)=true) (hrun:(execOp a.eval o).run Tryz.prog w = .ok (.value v) w')
 (hK:K (a.put o.dst v) w'):wpOp Tryz.prog ops Q i K a w:=by
 unfold wpOp
 simp only [ho]
 rw [if_pos hw]
 refine Or.inl ?_
 unfold Oper.wp
 rw [hrun,Oper.upon_value]
 exact hK
structure Zcs (s n c0:Nat) (D C:List (Nat × Nat)) (B B0:World->Prop) (F:Nat->World->Prop) (R:World->Prop) (l:Array Bool) (w:World):Prop where
 sz:l.size=n
 g:l.getD s false=false->B w
 u:l.getD c0 false=false->B0 w
 f:l.getD s false=false->∀ i,i<n->l.getD i false=true->(∀ p∈C,p.1=i->l.getD p.2 false=false)->F i w
 q:l.getD s false=true->R w
 x:l.getD s false=true->∀ j,j<n->l.getD j false=true
 cl:∀ p∈D,l.getD p.1 false=true->l.getD p.2 false=true
section
variable {s n c0 i:Nat} {D C:List (Nat × Nat)} {w w':World} {B B0:World->Prop} {F F':Nat->World->Prop} {R R':World->Prop} {l:Array Bool}
theorem Yf (hb:B w) (h0:B0 w):Zcs s n c0 D C B B0 F R (Array.replicate n false) w :=
 ⟨by simp,fun _=>hb,fun _=>h0,fun _ i _ h=>(by rw [getD_replicate_false] at h;cases h),fun h=>(by rw [getD_replicate_false] at h;cases h),fun h=>(by rw [getD_replicate_false] at h;cases h),fun p _ h=>(by rw [getD_replicate_false] at h;cases h)⟩
theorem Jv (h:Zcs s n c0 D C B B0 F R l w) (hin:i<n) (hun:l.getD i false=false):l.getD s false=false:=by
 cases e:l.getD s false with
 | false=>rfl
 | true=>rw [h.x e i hin] at hun;cases hun
theorem Zao (h:Zcs n n c0 D C B B0 F R l w):l.getD n false=false:=by
 have:=h.sz
 rw [Array.getD_eq_getD_getElem?,Array.getElem?_eq_none (by omega)];rfl
theorem Zv (h:Zcs s n c0 D C B B0 F R l w) (hin:i<n) (hun:l.getD i false=false) (hs:i≠s) (hp:∀ p∈D,p.1=i->l.getD p.2 false=true) (g:B w') (h0:i≠c0->l.getD c0 false=false->B0 w->B0 w') (hk:∀ j,j<n->j≠i->l.getD j false=true->(∀ p∈C,p.1=j->p.2≠i/\l.getD p.2 false=false)->F j w->F' j w') (hF:F' i w'):Zcs s n c0 D C B B0 F' R' (l.setIfInBounds i true) w':=by
 have gs:(l.setIfInBounds i true).getD s false=l.getD s false:=by rw [Zbd l i s (by rw [h.sz];exact hin),if_neg (Ne.symm hs)]
 have ns:=Jv h hin hun
 refine ⟨by simp [h.sz],fun _=>g,fun e => ?_,fun _ j hj e hc => ?_,fun e => ?_,fun e => ?_,Yqu h.sz hin h.cl hp⟩
 · rw [Zbd l i c0 (by rw [h.sz];exact hin)] at e
   by_cases c:c0=i
   · rw [if_pos c] at e;cases e
   · rw [if_neg c] at e;exact h0 (Ne.symm c) e (h.u e)
 · have hc':∀ p∈C,p.1=j->p.2≠i/\l.getD p.2 false=false:=fun p hp e1=>by
    have h1:=hc p hp e1
    rw [Zbd l i p.2 (by rw [h.sz];exact hin)] at h1
    by_cases e2:p.2=i
    · rw [if_pos e2] at h1;cases h1
    · rw [if_neg e2] at h1;exact ⟨e2,h1⟩
   rw [Zbd l i j (by rw [h.sz];exact hin)] at e
   by_cases c:j=i
   · subst c;exact hF
   · rw [if_neg c] at e;exact hk j hj c e hc' (h.f ns j hj e fun p hp e1=>(hc' p hp e1).2)
 · rw [gs,ns] at e;cases e
 · rw [gs,ns] at e;cases e
theorem Yfc (h:Zcs s n c0 D C B B0 F R l w) (hin:i<n) (hun:l.getD i false=false) (hs:i≠s) (hp:∀ p∈D,p.1=i->l.getD p.2 false=true) (hF:F i w):Zcs s n c0 D C B B0 F R (l.setIfInBounds i true) w :=
 Zv h hin hun hs hp (h.g (Jv h hin hun)) (fun _ _ h0=>h0) (fun j _ _ _ _ hj=>hj) hF
theorem Jh (h:Zcs s n c0 D C B B0 F R l w) (hin:s<n) (hc0:c0<n) (hall:∀ j,j<n->j≠s->l.getD j false=true) (hp:∀ p∈D,p.1=s->l.getD p.2 false=true) (hq:R w'):Zcs s n c0 D C B B0 F R (l.setIfInBounds s true) w':=by
 have gj:∀ j,j<n->(l.setIfInBounds s true).getD j false=true:=fun j hj=>by
  rw [Zbd l s j (by rw [h.sz];exact hin)]
  by_cases e:j=s
  · rw [if_pos e]
  · rw [if_neg e];exact hall j hj e
 refine ⟨by simp [h.sz],fun e => ?_,fun e => ?_,fun e => ?_,fun _=>hq,fun _=>gj,Yqu h.sz hin h.cl hp⟩
 · rw [gj s hin] at e;cases e
 · rw [gj c0 hc0] at e;cases e
 · rw [gj s hin] at e;cases e
end
section
variable {ops:Array Oper} {Q:Exit->Act->World->Prop} {a0 a:Act} {s n c0 i N:Nat} {dst:Nat->Nat} {val:Nat->Value} {D C:List (Nat × Nat)} {B B0:World->Prop} {F:Nat->World->Prop} {R:World->Prop} {l:Array Bool} {w':World} {o:Oper}
theorem Zc (hJ:RJ a0 N n dst val l a) (hW:Zcs s n c0 D C B B0 F R l w') (hR:i∈Region.ready .any ops l) (hun:l.getD i false=false) (ho:ops[i]? = some o) (hw:Region.wanted o (yielded ops a.tmps)=true) (hdst:o.dst=some (dst i)) (hi:i<n) (hd:dst i<N) (hne:∀ j,j<n->j≠i->dst j≠dst i) (hrun:(execOp a.eval o).run Tryz.prog w' = .ok (.value (val i)) w')
 (h:i≠s/\(D.all fun p=>p.1 != i || ((ops[i]?).any fun o=>o.after.any fun e=>e.on == p.2 && Region.binds .any e))=true/\F i w') :
 wpOp Tryz.prog ops Q i (fun a' w''=>RJ a0 N n dst val (l.setIfInBounds i true) a'/\Zcs s n c0 D C B B0 F R (l.setIfInBounds i true) w'') a w' :=
 Yqb (WS:=fun l w=>Zcs s n c0 D C B B0 F R l w) hJ ho hw hdst hi hd hne hrun (Yfc hW hi hun h.1 (Zj D hR h.2.1) h.2.2)
end
theorem Zdt {l:Array Bool} {C:List (Nat × Nat)} {i:Nat} (h:i ∉ C.map Prod.fst):∀ p∈C,p.1=i->l.getD p.2 false=false:=fun p hp e=>absurd (List.mem_map.2 ⟨p,hp,e⟩) h
theorem Zcu {l:Array Bool} {C:List (Nat × Nat)} {i c:Nat} (h:∀ p∈C,p.1=i->p.2=c) (hun:l.getD c false=false):∀ p∈C,p.1=i->l.getD p.2 false=false:=fun p hp e=>by rw [h p hp e];exact hun
theorem Zm {l:Array Bool} {c:Nat} {P:Prop} (h:l.getD c false=true) (hun:l.getD c false=false):P:=by rw [hun] at h;cases h
end Go.Proofs.YteciblfmgdlipaaGreatDoor.CK
