/-
  Part of a proof: contracts of functions and lemmas, each stated by its own theorem. Conditions: as each theorem states.
-/
import Derived.Test.YteciblfmgdlipaaGreatDoorMN04
import Derived.Test.YteciblfmgdlipaaGreatDoorMN02
import Derived.Deep.QuietTactic
import Derived.BigQuiet
set_option linter.unusedSimpArgs false
set_option linter.unusedVariables false
set_option maxRecDepth 100000
set_option maxHeartbeats 16000000
namespace Go.Proofs.YteciblfmgdlipaaGreatDoor.AS
open Go.RowKit Go.Great CK
theorem Zek {α:Type} {l m:List α} (hn:l.length=m.length) (h:l.take l.length=m.take l.length):l=m:=by
 rw [List.take_length,hn,List.take_length] at h;exact h
theorem Zmb {α:Type} {l m:List α} {k:Nat} {x:α} (h:l.take k=m.take k) (h1:l[k]? = some x) (h2:m[k]? = some x):l.take (k+1)=m.take (k+1):=by
 rw [List.take_add_one,List.take_add_one,h,h1,h2]
theorem Zsw {α:Type} {l m:List α} {k:Nat} {x y:α} (h1:l[k]? = some x) (h2:m[k]? = some y) (h:x≠y):l≠m:=fun e=>by
 subst e
 rw [h1] at h2
 injection h2 with h2
 exact h h2
theorem Zae {p:Prop} [Decidable p] (h:¬ p):decide p=false:=decide_eq_false h
theorem Zom (a b:List (Int × Int)) (pa pb:Option Addr) (ca cb A B:Nat) (w:World) (hA:Ziy w A pa a) (hB:Ziy w B pb b) (hn:a.length<=1000000000000) :
 Calls Tryz.prog 35 #[.slice pa a.length ca,.slice pb b.length cb] w fun e w'=>e = .returned (.bool (decide (a=b)))/\w.grownBy w' none:=by
 by_cases hl:a.length=b.length
 · have CA:=Hq hA
   have CB:=Hq hB
   have HL:=Hq hl
   clear hA hB
   rw [<- hl]
   clear hl
   go_enter Tryz.func35,Tryz.ntmps35
   go_wp2
   go_loopw [5] (fun i wr=>∃ k:Nat,i = .int .i64 k/\k<=a.length/\a.take k=b.take k/\w.grownBy wr none) (fun i _=>a.length - (intOf i).toNat)
   case atStart=>exact ⟨0,rfl,Nat.zero_le _,rfl,Zd _ _⟩
   case round =>
    obtain ⟨k,rfl,hk,ht,hg⟩:=hrel
    have HG:=Hq hg
    have HT:=Hq ht
    clear ht
    by_cases hlt:k<a.length
    · obtain ⟨⟨x,y⟩,hx⟩:∃ x,a[k]? = some x:=⟨_,List.getElem?_eq_getElem hlt⟩
      obtain ⟨⟨x',y'⟩,hx'⟩:∃ x,b[k]? = some x:=⟨_,List.getElem?_eq_getElem (by rw [<- HL.out];exact hlt)⟩
      obtain ⟨ga,oa,ea,la,fa⟩:=Ji CA.out hg (by simp) (by omega)
      obtain ⟨gb,ob,eb,lb,fb⟩:=Ji CB.out hg (by simp) (by rw [<- HL.out];omega)
      subst ea;subst eb
      obtain ⟨f0,f1⟩:=fa k x y hx
      obtain ⟨f2,f3⟩:=fb k x' y' hx'
      have la2:=World.block_lt_of_cell? _ _ f0
      have lb2:=World.block_lt_of_cell? _ _ f2
      have HX:=Hq hx
      have HX':=Hq hx'
      clear hg fa fb hx hx' la lb
      by_cases e1:x=x'
      · by_cases e2:y=y'
        · subst e1;subst e2
          go_wp2
          go_quiet (fail)
          go_wp2
          go_roundw
          case rel =>
           exact ⟨k+1,by go_num,by omega,Zmb HT.out HX.out HX'.out,Zaa HG.out _⟩
          case measure=>simp [intOf];omega
        · subst e1
          have b2:(y == y')=false:=beq_eq_false_iff_ne.2 e2
          have HN:=Hq (Zae (Zsw HX.out HX'.out (fun e=>e2 (congrArg Prod.snd e))))
          go_wp2
          go_quiet (fail)
          go_wp2
          go_ret
          rw [HN.out]
          exact ⟨rfl,Zaa HG.out _⟩
      · have b1:(x == x')=false:=beq_eq_false_iff_ne.2 e1
        have HN:=Hq (Zae (Zsw HX.out HX'.out (fun e=>e1 (congrArg Prod.fst e))))
        go_wp2
        go_quiet (fail)
        go_wp2
        go_ret
        rw [HN.out]
        exact ⟨rfl,Zaa HG.out _⟩
    · have hkn:k=a.length:=by omega
      subst hkn
      have HE:=Hq (show decide (a=b)=true from decide_eq_true (Zek HL.out HT.out))
      clear hg hlt
      go_wp2
      go_ret
      rw [HE.out]
      exact ⟨rfl,HG.out⟩
 · have HN:=Hq (Zae (fun e:a=b=>hl (by rw [e])))
   have hb:((a.length:Int) == (b.length:Int))=false:=beq_eq_false_iff_ne.2 (by omega)
   have hb2:((a.length:Int) != (b.length:Int))=true:=by rw [bne_iff_ne];omega
   clear hl
   go_enter Tryz.func35,Tryz.ntmps35
   go_wp2
   go_ret
   rw [HN.out]
   exact ⟨rfl,Zd _ _⟩
theorem Zki {w:World} {p:Option Addr} {d:Txt} (h:Zdq w p d) (c:Nat):(convert 23 9 (.slice p d.length c)).run Tryz.prog w = .ok (.string (bs d)) w:=by
 cases d with
 | nil =>
   cases p with
   | none=>exact run_convert_bytes_nil w _ _ Zbs Zbr _ _ _ Jc
   | some ad =>
     have hl:(loadCells ad 0).run Tryz.prog w = .ok (([]:List Int).map (Value.int .u8)).toArray w:=by simpa using run_loadCells_list (P:=Tryz.prog) w ad [] (by simp)
     rw [show ([]:Txt).length=0 from rfl,run_convert_bytes_string w _ _ _ _ _ c Zbs Zbr Jc]
     rw [run_bytesToString w ad 0 c [] hl]
     rfl
 | cons a r =>
   obtain ⟨b,o,rfl,hb,hc⟩:=h (by simp)
   rw [<- Zeb]
   refine run_convert_bytes_arg w _ _ Zbs Zbr b o (a::r).length c _ (by simp) (fun i hi => ?_) _ Jc
   have hd:((a::r).map fun c=>(c.toNat:Int)).getD i 0=(((a::r)[i]'hi).toNat:Int):=by
    rw [List.getD_eq_getElem?_getD,List.getElem?_map,List.getElem?_eq_getElem hi];rfl
   rw [hd]
   exact hc i _ (List.getElem?_eq_getElem hi)
def Zgf (p q:PrP):Bool:=decide (p.1=q.1) && decide (p.2.1=q.2.1) && decide (p.2.2=q.2.2)
theorem Zje (p q:PrP):Zgf p q=true ↔ p=q:=by
 obtain ⟨a,b,c⟩:=p
 obtain ⟨a',b',c'⟩:=q
 simp [Zgf,and_assoc]
theorem Zol (p:PrP):Zgf p p=true:=(Zje p p).2 rfl
theorem Zfd {p q:PrP} (h:p≠q):Zgf p q=false:=by
 cases e:Zgf p q
 · rfl
 · exact absurd ((Zje p q).1 e) h
theorem Zsg (mem:Int) (d:Txt) (fs fs':List FnR):Zgf (mem,d,fs) (mem,d,fs')=decide (fs=fs'):=by simp [Zgf]
theorem Ybh (s:Txt):(bs s).toList=s:=by rw [Lib.toList_data,Xe]
structure SmB (w:World) (b1 b2:Nat) (v1 v2:Array Value):Prop where
 h1:w.heap[b1]? = some (.cells v1 26 (0,0))
 h2:w.heap[b2]? = some (.cells v2 26 (0,0))
theorem Zpy {w w':World} {b1 b2:Nat} {v1 v2:Array Value} (h:SmB w b1 b2 v1 v2) (g:w.grownBy w' none):SmB w' b1 b2 v1 v2:=⟨Zh h.h1 g (by simp),Zh h.h2 g (by simp)⟩
theorem Ybq (w:World) (v1 v2:Array Value):SmB ((w.alloc (.cells v1 26)).alloc (.cells v2 26)) w.heap.size (w.heap.size+1) v1 v2:=by
 have h:=heap_alloc_new (w.alloc (.cells v1 26)) (.cells v2 26)
 rw [World.size_alloc] at h
 exact ⟨Zh (heap_alloc_new w _) (Ga _ _ none) (by simp),h⟩
theorem Yfr {d d':Txt} (h:d≠d'):((bs d).toList == (bs d').toList)=false:=by rw [Ybh,Ybh];exact beq_eq_false_iff_ne.2 h
theorem Zye (p p':PrP) (pd pd' pF pF':Option Addr) (cd cd' cF cF' B B':Nat) (w:World) (hn:p.2.2.length<=1000000000000) (hc:∀ x∈p.2.2,x.2.2.2.length<=1000000000000)
 (hD:Zdq w pd p.2.1) (hD':Zdq w pd' p'.2.1) (hF:Zcg w B pF p.2.2) (hF':Zcg w B' pF' p'.2.2) :
 Calls Tryz.prog 15 #[.agg #[.int .i64 p.1,.slice pd p.2.1.length cd,.slice pF p.2.2.length cF],.agg #[.int .i64 p'.1,.slice pd' p'.2.1.length cd',.slice pF' p'.2.2.length cF']] w fun e w'=>e = .returned (.bool (Zgf p p'))/\w.grownBy w' none:=by
 obtain ⟨mem,d,fs⟩:=p
 obtain ⟨mem',d',fs'⟩:=p'
 simp only at hn hc hD hD' hF hF' ⊢
 have G2:=Za (Ga w (.cells #[.int .i64 mem,.slice pd d.length cd,.slice pF fs.length cF] 26) none) (Ga _ (.cells #[.int .i64 mem',.slice pd' d'.length cd',.slice pF' fs'.length cF'] 26) none)
 have PA:=Hq (Xl hF G2 (by simp))
 have PB:=Hq (Xl hF' G2 (by simp))
 have k1:=Zki (Zik hD G2) cd
 have k2:=Zki (Zik hD' G2) cd'
 have GB:=Hq G2
 have BX:=Hq (Ybq w #[.int .i64 mem,.slice pd d.length cd,.slice pF fs.length cF] #[.int .i64 mem',.slice pd' d'.length cd',.slice pF' fs'.length cF'])
 have HC:=Hq hc
 clear hD hD' hF hF' G2 hc
 by_cases em:mem=mem'
 · by_cases ed:d=d'
   · by_cases en:fs.length=fs'.length
     · subst em;subst ed
       have HL:=Hq en
       have hni:(fs.length:Int)<=1000000000000:=by omega
       have HT0:=Hq (Zsg mem d fs fs')
       go_enter Tryz.func15,Tryz.ntmps15
       rw [<- en] at BX k1 k2 GB PA PB ⊢
       clear en
       go_wp2
       clear k1 k2
       generalize (w.alloc (.cells #[.int .i64 mem,.slice pd d.length cd,.slice pF fs.length cF] 26)).alloc (.cells #[.int .i64 mem,.slice pd' d.length cd',.slice pF' fs.length cF'] 26)=w2 at *
       go_loopw [5] (fun i wr=>∃ k:Nat,i = .int .i64 k/\k<=fs.length/\fs.take k=fs'.take k/\w2.grownBy wr none) (fun i _=>fs.length - (intOf i).toNat)
       case atStart=>exact ⟨0,rfl,Nat.zero_le _,rfl,Zd _ _⟩
       case round =>
        obtain ⟨k,rfl,hk,ht,hg⟩:=hrel
        have HG:=Hq hg
        have HT:=Hq ht
        have hx1:=(Zpy BX.out hg).h1
        have hx2:=(Zpy BX.out hg).h2
        have a2:=Cq wr _ 2 _ _ _ hx1
        have b2:=Cq wr _ 2 _ _ _ hx2
        have al:=(Gs hx1)
        have bbl:=(Gs hx2)
        clear ht hx1 hx2
        by_cases hlt:k<fs.length
        · obtain ⟨⟨a,l,r,c⟩,hx⟩:∃ x,fs[k]? = some x:=⟨_,List.getElem?_eq_getElem hlt⟩
          obtain ⟨⟨a',l',r',c'⟩,hx'⟩:∃ x,fs'[k]? = some x:=⟨_,List.getElem?_eq_getElem (by rw [<- HL.out];exact hlt)⟩
          obtain ⟨ga,oa,ea,la,ca⟩:=Xl PA.out hg (by simp) (by omega)
          obtain ⟨gb,ob,eb,lb,cb⟩:=Xl PB.out hg (by simp) (by rw [<- HL.out];omega)
          subst ea;subst eb
          obtain ⟨f0,f1,f2,pc,cc,f3,q4⟩:=ca k a l r c hx
          obtain ⟨f4,f5,f6,pc',cc',f7,t4⟩:=cb k a' l' r' c' hx'
          have la2:=World.block_lt_of_cell? _ _ f0
          have lb2:=World.block_lt_of_cell? _ _ f4
          have hcl:=HC.out _ (List.mem_of_getElem? hx)
          simp only [] at hcl
          have GW:=Za (Ga wr (.cells #[.int .i64 a,.int .i64 l,.int .i64 r,.slice pc c.length cc] 61) none) (Ga _ (.cells #[.int .i64 a',.int .i64 l',.int .i64 r',.slice pc' c'.length cc'] 61) none)
          have SI:=Hq (Zom c c' pc pc' cc cc' B B' _ (Ji q4 GW (by simp)) (Ji t4 GW (by simp)) hcl)
          have HGW:=Hq (Za hg GW)
          have HX:=Hq hx
          have HX':=Hq hx'
          clear hg ca cb hx hx' q4 t4 GW la lb hcl
          by_cases e1:a=a'
          · by_cases e2:l=l'
            · by_cases e3:r=r'
              · subst e1;subst e2;subst e3
                by_cases e4:c=c'
                · subst e4
                  have TR:=Hq (show decide (c=c)=true by simp)
                  rw [TR.out] at SI
                  go_wp2_with (go_at_call 35;refine SI.out.mono ?_;rintro e w5 ⟨rfl,hg5⟩;have G5:=Hq hg5;clear hg5)
                  exact ⟨⟨k+1,by go_num,by omega,Zmb HT.out HX.out HX'.out,Za HGW.out G5.out⟩,by simp [intOf];omega⟩
                · rw [Zae e4] at SI
                  have HN:=Hq (HT0.out.trans (Zae (Zsw HX.out HX'.out (fun e=>e4 (congrArg (fun x=>x.2.2.2) e)))))
                  go_wp2_with (go_at_call 35;refine SI.out.mono ?_;rintro e w5 ⟨rfl,hg5⟩;have G5:=Hq hg5;clear hg5)
                  go_ret
                  rw [HN.out]
                  exact ⟨rfl,Za GB.out (Za HGW.out G5.out)⟩
              · have b3:(r == r')=false:=beq_eq_false_iff_ne.2 e3
                have b3':(r != r')=true:=by rw [bne_iff_ne];exact e3
                have HN:=Hq (HT0.out.trans (Zae (Zsw HX.out HX'.out (fun e=>e3 (congrArg (fun x=>x.2.2.1) e)))))
                subst e1;subst e2
                go_wp2
                go_ret
                rw [HN.out]
                exact ⟨rfl,Za GB.out HGW.out⟩
            · have b3:(l == l')=false:=beq_eq_false_iff_ne.2 e2
              have b3':(l != l')=true:=by rw [bne_iff_ne];exact e2
              have HN:=Hq (HT0.out.trans (Zae (Zsw HX.out HX'.out (fun e=>e2 (congrArg (fun x=>x.2.1) e)))))
              subst e1
              go_wp2
              go_ret
              rw [HN.out]
              exact ⟨rfl,Za GB.out HGW.out⟩
          · have b3:(a == a')=false:=beq_eq_false_iff_ne.2 e1
            have b3':(a != a')=true:=by rw [bne_iff_ne];exact e1
            have HN:=Hq (HT0.out.trans (Zae (Zsw HX.out HX'.out (fun e=>e1 (congrArg (fun x=>x.1) e)))))
            go_wp2
            go_ret
            rw [HN.out]
            exact ⟨rfl,Za GB.out HGW.out⟩
        · have hkn:k=fs.length:=by omega
          subst hkn
          have HE:=Hq (HT0.out.trans (decide_eq_true (Zek HL.out HT.out)))
          clear hg hlt
          go_wp2
          go_ret
          rw [HE.out]
          exact ⟨rfl,Za GB.out HG.out⟩
     · have HN:=Hq (Zfd (fun e:(mem,d,fs)=(mem',d',fs')=>en (congrArg (fun x:PrP=>x.2.2.length) e)))
       have hb:((fs.length:Int) == (fs'.length:Int))=false:=beq_eq_false_iff_ne.2 (by omega)
       have hb2:((fs.length:Int) != (fs'.length:Int))=true:=by rw [bne_iff_ne];omega
       subst em;subst ed
       go_enter Tryz.func15,Tryz.ntmps15
       go_wp2
       go_ret
       rw [HN.out]
       exact ⟨rfl,GB.out⟩
   · have HN:=Hq (Zfd (fun e:(mem,d,fs)=(mem',d',fs')=>ed (congrArg (fun x:PrP=>x.2.1) e)))
     have hb:=Yfr ed
     subst em
     go_enter Tryz.func15,Tryz.ntmps15
     go_wp2
     go_ret
     rw [HN.out]
     exact ⟨rfl,GB.out⟩
 · have HN:=Hq (Zfd (fun e:(mem,d,fs)=(mem',d',fs')=>em (congrArg (fun x:PrP=>x.1) e)))
   have hb:(mem == mem')=false:=beq_eq_false_iff_ne.2 em
   have hb2:(mem != mem')=true:=by rw [bne_iff_ne];exact em
   go_enter Tryz.func15,Tryz.ntmps15
   go_wp2
   go_ret
   rw [HN.out]
   exact ⟨rfl,GB.out⟩
def Zp (w0 w:World) (p m:Nat) (r:Option (CS × Option Int)) (e:Ending) (w':World):Prop :=
 (match r with
   | some (c,x)=>e = .returned .nilIface/\PS w0 w' p m c (Zcp x)
   | none=>e = .returned (Zod 141))/\Fr w w'/\w0.grownBy w' none
theorem Xr {w0 w:World} {p m:Nat} {c:CS} {pend vd vF vL vB:Value} {bm:Nat} {cv:List Value} {lb:List Nat} (h:Zdv w0 w p m c pend vd vF vL vB bm cv lb):∃ pF cF,vF = .slice pF c.funcs.length cF:=Zk h.ins.own.fr
theorem Zyr {w0 w:World} {p m:Nat} {c:CS} {pend vd vF vL vB:Value} {bm:Nat} {cv:List Value} {lb:List Nat} (h:Zdv w0 w p m c pend vd vF vL vB bm cv lb) (n:Int) :
 PS w0 ((w.setCell ⟨p,3,none⟩ (.bool true)).setCell ⟨p,0,none⟩ (.int .i64 n)) p m { c with mem:=n,ms:=true } pend/\w.grownBy ((w.setCell ⟨p,3,none⟩ (.bool true)).setCell ⟨p,0,none⟩ (.int .i64 n)) (some p):=by
 have g:=Za (Zo w p 3 (.bool true)) (Zo (w.setCell ⟨p,3,none⟩ (.bool true)) p 0 (.int .i64 n))
 refine ⟨⟨vd,vF,vL,vB,bm,cv,lb,Ya (Ya h.gr h.ge) h.ge,h.ge,?_,Zyo (Zby h.ins h.box g) n true,h.lens⟩,g⟩
 rw [Zl (Zl h.box)];rfl
def Zxs (c:CS) (x:Option Int) (ps:List Pc):Option (CS × Option Int) :=
 match Zbo ps 1 with
 | none=>none
 | some xs=>if c.ms=true\/0<c.funcs.length then none else some ({ c with mem:=xs.headD 0,ms:=true },Zil x ps)
theorem Zdk (w0 w:World) (p m:Nat) (c:CS) (x:Option Int) (ps:List Pc) (pp:Option Addr) (cc:Nat) (h:PS w0 w p m c (Zcp x)) (hp:Zey w pp ps) (hn:ps.length<=70000) :
 Calls Tryz.prog 77 #[.pointer (some ⟨p,0,none⟩),.slice pp ps.length cc] w (Zp w0 w p m (Zxs c x ps)):=by
 have HS:=Hq h
 have NM:=Hq (Zds w0 w p m c x ps pp cc 1 h hp hn (by decide))
 clear h hp
 unfold Zxs
 cases hnum:Zbo ps 1 with
 | none =>
   have NN:=NM.out
   unfold Zex at NN
   rw [hnum] at NN
   have N2:=Hq NN
   clear NN NM hnum
   go_enter Tryz.func77,Tryz.ntmps77
   go_wp2_with (go_at_call 113;refine N2.out.mono ?_;rintro e w2 ⟨⟨rfl,x',hps⟩,hg⟩;have S2:=Hq hps;have G2:=Hq hg;clear hps hg)
   go_ret
   exact ⟨rfl,Zau HS.out G2.out,Zag S2.out⟩
 | some xs =>
   have hxs:xs.length=1/\xs=ps.map pcN:=by
    unfold Zbo at hnum
    split at hnum
    · rename_i h1
      injection hnum with hnum
      subst hnum
      exact ⟨by simpa using h1.1,rfl⟩
    · cases hnum
   obtain ⟨n,rfl⟩:∃ n,xs=[n]:=by
    cases xs with
    | nil=>simp at hxs
    | cons a r=>cases r with|nil=>exact ⟨a,rfl⟩|cons b r=>simp at hxs
   have NN:=NM.out
   unfold Zex at NN
   rw [hnum] at NN
   have N2:=Hq NN
   clear NN NM hnum hxs
   by_cases hbad:c.ms=true\/0<c.funcs.length
   · rw [show (match some [n] with|none=>none|some xs=>if c.ms=true\/0<c.funcs.length then none else some (({ c with mem:=xs.headD 0,ms:=true }:CS),Zil x ps))=none by simp [hbad]]
     have HB:c.ms=true\/(c.ms=false/\0<(c.funcs.length:Int)):=by
      rcases hbad with h|h
      · exact Or.inl h
      · cases hm:c.ms with
        | true=>exact Or.inl rfl
        | false=>exact Or.inr ⟨rfl,by omega⟩
     clear hbad
     rcases HB with hm|⟨hm,hf⟩
     all_goals
      go_enter Tryz.func77,Tryz.ntmps77
      go_wp2_with (go_at_call 113;refine N2.out.mono ?_;rintro e w2 ⟨⟨q,k,rfl,hrow,hps⟩,hg⟩;have S2:=Hq hps;have G2:=Hq hg;obtain ⟨vd,vF,vL,vB,bm,cv,lb,hA⟩:=hps;have A:=Hq hA;obtain ⟨pF,cF,hvF⟩:=Xr hA;have bx:=hA.box;rw [hvF,hm] at bx;have c2:=Cq w2 p 2 _ _ _ bx;have c3:=Cq w2 p 3 _ _ _ bx;have hlt:p<w2.heap.size:=(Gs bx);clear hA bx hg hrow hvF)
      go_ret
      exact ⟨rfl,Zau HS.out G2.out,Zag S2.out⟩
   · rw [show (match some [n] with|none=>none|some xs=>if c.ms=true\/0<c.funcs.length then none else some (({ c with mem:=xs.headD 0,ms:=true }:CS),Zil x ps))=some ({ c with mem:=n,ms:=true },Zil x ps) by simp [hbad]]
     have hm:c.ms=false:=by cases h:c.ms with|true=>exact absurd (Or.inl h) hbad|false=>rfl
     have hf:(c.funcs.length:Int)=0:=by omega
     clear hbad
     go_enter Tryz.func77,Tryz.ntmps77
     go_wp2_with (go_at_call 113;refine N2.out.mono ?_;rintro e w2 ⟨⟨q,k,rfl,hrow,hps⟩,hg⟩;have S2:=Hq hps;have G2:=Hq hg;obtain ⟨vd,vF,vL,vB,bm,cv,lb,hA⟩:=hps;have A:=Hq hA;obtain ⟨pF,cF,hvF⟩:=Xr hA;have bx:=hA.box;rw [hvF,hm] at bx;have c0:=Cq w2 p 0 _ _ _ bx;have c2:=Cq w2 p 2 _ _ _ bx;have c3:=Cq w2 p 3 _ _ _ bx;have z0:=frozen_of_row w2 p 0 _ _ bx;have z3:=frozen_of_row w2 p 3 _ _ bx;have hlt:p<w2.heap.size:=(Gs bx);obtain ⟨g,cap,hv,hg1,hc1⟩:=Xb hrow (by simp);injection hv with hv _ _;subst hv;have d0:=hc1 0 (.int .i64 n) rfl (by simp);have hgp:g≠p:=(fun e=>by have:=(World.ownsRow.lt hrow g rfl).1;have:=(Zym HS.out).2;omega);clear hA bx hg hrow hvF hc1)
     go_ret
     have M:=Zyr A.out n
     exact ⟨⟨rfl,M.1⟩,Zn (Zau HS.out G2.out) (Zau S2.out M.2),Zag M.1⟩
end Go.Proofs.YteciblfmgdlipaaGreatDoor.AS
