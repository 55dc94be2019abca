/-
  Part of a proof: contracts of functions and lemmas, each stated by its own theorem. Conditions: as each theorem states.
-/
import Derived.Test.YthlkflagancdfaaML02
import Derived.Maps.Own
import Derived.Maps.OwnOps
import Derived.Maps.OwnSet
set_option linter.unusedSimpArgs false
set_option linter.unusedVariables false
set_option maxRecDepth 100000
set_option maxHeartbeats 16000000
namespace Go.Proofs.Ythlkflagancdfaa.CK
open Go.RowKit Go.Great
structure AgW (w0 w:World) (bx gU n:Nat) (U:List Int):Prop where
 g:w0.grownBy w (some bx)
 r:w.ownsRow w0.heap.size 3 1 (.slice (some ⟨gU,0,none⟩) n n) n (U.map (Value.int .i64))
 v:∀ x,U.getD x 0=0\/U.getD x 0=1\/U.getD x 0=2
section
variable {w0 w w':World} {bx gU n:Nat} {U:List Int}
theorem Zvm (H:AgW w0 w bx gU n U):w0.heap.size<=gU/\gU<w.heap.size:=H.r.lt gU rfl
theorem Zry (H:AgW w0 w bx gU n U):U.length=n:=by have:=H.r.1;simpa using this
theorem Yac (H:AgW w0 w bx gU n U) (k:Nat) (hk:k<n):w.cell? ⟨gU,k,none⟩=some (.int .i64 (U.getD k 0)):=by
 have hl:=Zry H
 rw [H.r.cellAt k (by omega),List.getElem?_map,List.getD_eq_getElem?_getD,List.getElem?_eq_getElem (by omega:k<U.length)]
 rfl
theorem Yjf (H:AgW w0 w bx gU n U) (k:Nat) (hk:k<n) (b:Int) (hb:b=1\/b=2):AgW w0 (w.setCell ⟨gU,k,none⟩ (.int .i64 b)) bx gU n (U.set k b):=by
 have hl:=Zvm H
 have hn:=Zry H
 refine ⟨Zcs H.g (Zg _ _ _ _) hl.1,?_,fun x => ?_⟩
 · rw [List.map_set]
   exact (H.r.stored k (.int .i64 b)).1
 · rw [Zr _ _ _ _ _ (by omega)]
   split
   · omega
   · exact H.v x
end
def zer (U:List Int):Nat:=(U.filter fun b=>b == 0).length
theorem Ycw:∀ (U:List Int) (k:Nat),k<U.length->U.getD k 0=0->zer (U.set k 1)+1=zer U
 | [],k,h,_=>by simp at h
 | b::r,0,_,h=>by simp at h;subst h;simp [zer]
 | b::r,k+1,hl,h=>by
   have ih:=Ycw r k (by simpa using hl) (by simpa using h)
   unfold zer at ih ⊢
   rw [List.set_cons_succ]
   by_cases hb:b=0
   · subst hb;simp;omega
   · have e:(b == 0)=false:=by simpa using hb
     simp [List.filter_cons,e];omega
theorem Yoa:∀ (U:List Int) (k:Nat) (v:Int),v≠0->zer (U.set k v)<=zer U
 | [],k,v,_=>by simp
 | b::r,0,v,h=>by
   have e:(v == 0)=false:=by simpa using h
   simp [zer,List.filter_cons,e]
   split <;> simp
 | b::r,k+1,v,h=>by
   have ih:=Yoa r k v h
   unfold zer at ih ⊢
   rw [List.set_cons_succ]
   simp only [List.filter_cons]
   split
   · simp only [List.length_cons];omega
   · exact ih
def Ycq (fs:List FnP) (cl:Nat->List Nat) (U:List Int) (fin:List Nat):Prop:=Zse (Je fs cl) fin/\(∀ x,x<fs.length->(U.getD x 0=2 ↔ x∈fin))/\(∀ x∈fin,x<fs.length)/\fin.Nodup
def Yyn (w0 w:World) (bx gU:Nat) (fs:List FnP) (cl:Nat->List Nat) (U:List Int) (fin:List Nat) (f:Nat) (e:Ending) (w':World):Prop :=
 ∃ b,e = .returned (.bool b)/\w.grownBy w' (some gU)/\(b=false->∃ U' fin',AgW w0 w' bx gU fs.length U'/\Ycq fs cl U' fin'/\(∀ x∈fin,x∈fin')/\f∈fin'/\(∀ x,x<fs.length->(U'.getD x 0=1 ↔ U.getD x 0=1))/\zer U'<=zer U)
theorem Yje (N:Nat):∀ (w0 w:World) (bw bx bm B:Nat) (mem:Int) (pd:Option Addr) (nd cd:Nat) (pF:Option Addr) (cF:Nat) (fs:List FnP) (cl:Nat->List Nat) (gU:Nat) (U:List Int) (fin:List Nat) (f:Nat)
 (S:St w0 bw bx bm B mem pd nd cd pF cF fs cl) (H:AgW w0 w bx gU fs.length U) (hI:Ycq fs cl U fin) (hf:f<fs.length) (hN:zer U<N),
 Calls Try.prog 44 #[.pointer (some ⟨bw,0,none⟩),.int .i64 f,.slice (some ⟨gU,0,none⟩) fs.length fs.length] w (Yyn w0 w bx gU fs cl U fin f):=by
 induction N with
 | zero=>intro w0 w bw bx bm B mem pd nd cd pF cF fs cl gU U fin f S H hI hf hN;omega
 | succ N ih =>
   intro w0 w bw bx bm B mem pd nd cd pF cF fs cl gU U fin f S H hI hf hN
   have hlw:=Zvm H
   have vf:=Yac H f hf
   have zf:=Yf H.r f
   have hfi:(f:Int)<(fs.length:Int):=by omega
   have sgU:=hlw.2
   rcases H.v f with hV|hV|hV
   · rw [hV] at vf
     have H1:=Yjf H f hf 1 (Or.inl rfl)
     obtain ⟨w1,hw1⟩:∃ w1,w1=w.setCell ⟨gU,f,none⟩ (.int .i64 1):=⟨_,rfl⟩
     have hg1:w.grownBy w1 (some gU):=by rw [hw1];exact Zg _ _ _ _
     rw [<- hw1] at H1
     have hl:=Zry H
     have hd:=Ycw U f (by omega) hV
     have hI1:Ycq fs cl (U.set f 1) fin:=by
      refine ⟨hI.1,fun x hx => ?_,hI.2.2⟩
      rw [Zr _ _ _ _ _ (by omega)]
      by_cases e:x=f
      · subst e
        rw [if_pos rfl]
        constructor
        · intro h;omega
        · intro h
          have:=(hI.2.1 x hx).2 h
          omega
      · rw [if_neg e];exact hI.2.1 x hx
     have HW1:=Hq hw1
     have HG1:=Hq hg1
     have HH1:=Hq H1
     have HI1:=Hq hI1
     have SS:=Hq S
     have HF:=Hq hf
     have IH:=Hq ih
     have HVV:=Hq hV
     have HLN:=Hq hl
     obtain ⟨pc,cc,hrun,hcells⟩:=S.calls f hf
     have HRUN:=Hq hrun
     have HCE:=Hq hcells
     obtain ⟨⟨ar,lo,r,c⟩,hfn⟩:∃ fn,fs[f]? = some fn:=⟨_,List.getElem?_eq_getElem hf⟩
     obtain ⟨hcl,hok⟩:=S.ok f ar lo r c hfn
     have HFN:=Hq hfn
     have HOK:=Hq hok
     have HD:=Hq (show zer (U.set f 1)<N by omega)
     have HZ:=Hq (show zer (U.set f 1)<=zer U by omega)
     clear S H hg1 hw1 H1 hrun hcells hfn hok hd ih hV hN hI hI1 hl
     go_enter Try.func44,Try.ntmps44
     go_upto_region 4 with fail
     clear vf zf
     rw [<- HW1.out]
     have kb:=Zb SS.out.bwc HH1.out.g (by intro e;injection e with e;exact SS.out.ne1 e.symm)
     have k4:=Cq _ _ 4 _ _ _ kb
     have s1:=(Gs kb)
     have hr1:=HRUN.out w1 (HH1.out.g.block bm SS.out.lm (by intro e;injection e with e;exact SS.out.ne2 e))
     have hci:((cl f).length:Int)<=4096:=by omega
     clear kb
     go_wp2_with (at_lookup;refine Zbs rfl _ _ 69 rfl rfl rfl hr1 ?_)
     clear k4 s1 hr1 sgU
     go_loopw [29] (fun i wr=>∃ (k:Nat) (Uk:List Int) (fink:List Nat),i = .int .i64 k/\k<=(cl f).length/\w.grownBy wr (some gU)/\AgW w0 wr bx gU fs.length Uk/\Ycq fs cl Uk fink/\(∀ x∈fin,x∈fink) /\
      (∀ x,x<fs.length->(Uk.getD x 0=1 ↔ (U.set f 1).getD x 0=1))/\zer Uk<=zer (U.set f 1)/\(∀ j:Nat,j<k->∀ y,(Zhq c (cl f))[j]? = some y->y∈fink)) (fun i _=>(cl f).length - (intOf i).toNat)
     case atStart =>
      exact ⟨0,U.set f 1,fin,rfl,Nat.zero_le _,HG1.out,HH1.out,HI1.out,fun x h=>h,fun x _=>Iff.rfl,Nat.le_refl _,fun j hj=>absurd hj (Nat.not_lt_zero _)⟩
     case round =>
      obtain ⟨k,Uk,fink,rfl,hk,hgk,hW,hInv,hsub,hone,hzer,hdone⟩:=hrel
      by_cases hlt:(k:Int)<((cl f).length:Int)
      · obtain ⟨at_,hat⟩:∃ a,(cl f)[k]? = some a:=⟨_,List.getElem?_eq_getElem (by omega)⟩
        obtain ⟨bc,hpc,hbx,hcell⟩:=HCE.out k at_ hat
        obtain ⟨a,hins,ha⟩:=HOK.out at_ (List.mem_of_getElem? hat)
        have ec:=hW.g.cell hcell (by intro e;injection e with e;exact hbx e)
        subst hpc
        have sc:=World.block_lt_of_cell? _ _ ec
        have kb:=Zb SS.out.bwc hW.g (by intro e;injection e with e;exact SS.out.ne1 e.symm)
        have k2:=Cq _ _ 2 _ _ _ kb
        have s1:=(Gs kb)
        have hFr:=Zs SS.out.hF hW.g (fun r e=>by injection e with e;rw [<- e];exact SS.out.bx_)
        obtain ⟨bF,oF,hpF,hbF,hcF⟩:=hFr (by omega)
        obtain ⟨-,-,-,pc',cc',e3,hcode⟩:=hcF f ar lo r c HFN.out
        have hat2:=(List.getElem?_eq_some_iff.1 hins).1
        obtain ⟨b',o',hpc',hb',hcc⟩:=hcode (by omega)
        subst hpc'
        obtain ⟨d0,d1⟩:=hcc at_ 17 a hins
        have sF:=World.block_lt_of_cell? _ _ e3
        have sb:=World.block_lt_of_cell? _ _ d1
        have hai:(at_:Int)<(c.length:Int):=by omega
        have CA:=Hq (IH.out _ _ _ _ _ _ _ _ _ _ _ _ _ _ _ _ fink _ SS.out hW hInv ha (by have:=HD.out;omega))
        have HSUB:=Hq hsub
        have HONE:=Hq hone
        have HZER:=Hq hzer
        have HDN:=Hq hdone
        have HGK:=Hq hgk
        have HAT:=Hq hat
        have HINS:=Hq hins
        clear hW hsub hone hzer hInv hdone hgk hat hins hcell hcc hcode hcF hFr hbx kb ha
        go_upto_region 9 with (go_at_call 44;refine CA.out.mono ?_;rintro e w5 ⟨b5,rfl,g5,h5⟩;have HG5:=Hq g5;have HH5:=Hq h5;clear g5 h5;cases b5)
        · obtain ⟨U5,fin5,hw5,hi5,hs5,hin5,ho5,hz5⟩:=HH5.out (by trivial)
          have A1:=Hq hw5
          have A2:=Hq hi5
          have A3:=Hq hs5
          have A4:=Hq hin5
          have A5:=Hq ho5
          have A6:=Hq hz5
          clear hw5 hi5 hs5 hin5 ho5 hz5
          go_wp2
          refine ⟨⟨k+1,U5,fin5,by go_num,by omega,Za HGK.out HG5.out,A1.out,A2.out,fun x hx=>A3.out x (HSUB.out x hx),fun x hx=>(A5.out x hx).trans (HONE.out x hx),Nat.le_trans A6.out HZER.out,fun j hj y hy => ?_⟩,by simp [intOf];omega⟩
          by_cases e:j=k
          · subst e
            unfold Zhq at hy
            rw [List.getElem?_map,HAT.out] at hy
            simp only [Option.map_some,HINS.out,Option.some.injEq] at hy
            rw [<- hy]
            exact A4.out
          · exact A3.out y (HDN.out j (by omega) y hy)
        · go_ret
          exact ⟨true,rfl,Za HGK.out HG5.out,fun h=>by cases h⟩
      · have hkn:k=(cl f).length:=by omega
        have hcw:=Zvm hW
        have zf:=Yf hW.r f
        have vf:=Yac hW f HF.out
        have H9:=Yjf hW f HF.out 2 (Or.inr rfl)
        have hcg:=hcw.2
        have HHW:=Hq hW
        have HH9:=Hq H9
        have HINV:=Hq hInv
        have HSUB:=Hq hsub
        have HONE:=Hq hone
        have HZER:=Hq hzer
        have HDN:=Hq hdone
        have HGK:=Hq hgk
        have hlk:=Zry hW
        have HLK:=Hq hlk
        clear hW hsub hone hzer hInv hdone hgk H9 hcw hlk
        go_wp2
        go_ret
        refine ⟨false,rfl,Za HGK.out (Zg _ _ _ _),fun _=>⟨Uk.set f 2,f::fink,HH9.out,⟨⟨fun y hy => ?_,HINV.out.1⟩,fun x hx => ?_,fun x hx => ?_,List.nodup_cons.2 ⟨fun h => ?_,HINV.out.2.2.2⟩⟩,fun x hx=>List.mem_cons_of_mem _ (HSUB.out x hx),List.mem_cons_self ..,fun x hx => ?_,Nat.le_trans (Yoa _ _ _ (by decide)) (Nat.le_trans HZER.out HZ.out)⟩⟩
        · unfold Je at hy
          simp only [HFN.out] at hy
          obtain ⟨j,hj,rfl⟩:=List.getElem_of_mem hy
          refine HDN.out j ?_ _ (List.getElem?_eq_getElem hj)
          unfold Zhq at hj
          rw [List.length_map] at hj
          omega
        · rw [Zr _ _ _ _ _ (by rw [HLK.out];exact HF.out)]
          by_cases e:x=f
          · subst e;simp
          · rw [if_neg e,HINV.out.2.1 x hx]
            simp [e]
        · rcases List.mem_cons.1 hx with rfl|hx
          · exact HF.out
          · exact HINV.out.2.2.1 x hx
        · have h1:=(HINV.out.2.1 f HF.out).2 h
          have h2:=(HONE.out f HF.out).2 (by rw [Zr _ _ _ _ _ (by rw [HLN.out];exact HF.out),if_pos rfl])
          omega
        · rw [Zr _ _ _ _ _ (by rw [HLK.out];exact HF.out)]
          by_cases e:x=f
          · subst e
            rw [if_pos rfl]
            have:=HVV.out
            omega
          · rw [if_neg e,HONE.out x hx,Zr _ _ _ _ _ (by rw [HLN.out];exact HF.out),if_neg e]
   · rw [hV] at vf
     have HG:=Hq (Zc w (some gU))
     clear S H ih hI
     go_enter Try.func44,Try.ntmps44
     go_wp2
     go_ret
     exact ⟨true,rfl,HG.out,fun h=>by cases h⟩
   · rw [hV] at vf
     have HH:=Hq H
     have HI:=Hq hI
     have hff:=(hI.2.1 f hf).1 hV
     have HFF:=Hq hff
     clear S H ih hI hff
     go_enter Try.func44,Try.ntmps44
     go_wp2
     go_ret
     exact ⟨false,rfl,Zc _ _,fun _=>⟨U,fin,HH.out,HI.out,fun x h=>h,HFF.out,fun x _=>Iff.rfl,Nat.le_refl _⟩⟩
open Go.Maps
theorem Ymv:Keyed Try.prog 3:=int_keyed Try.underlying3
theorem Ysg (w:World):(zeroValue 3).run Try.prog w = .ok (.int .i64 0) w:=by kernel_rfl
theorem Ygf {v:Int} (h : -1000000000000000000<=v/\v<=1000000000000000000):(Lit.int .i64 v).wf=true:=by
 have e1:IntKind.i64.min = -9223372036854775808:=by decide
 have e2:IntKind.i64.max=9223372036854775807:=by decide
 simp only [Lit.wf,e1,e2,Bool.and_eq_true,decide_eq_true_eq]
 omega
theorem Zmt {f:Nat} (h:f<1000000000):keyOf Try.prog 3 (.int .i64 (f:Int))=some (.int .i64 (f:Int)):=keyOf_int_mk Try.underlying3 (Ygf (by omega))
def Yys (kn:Nat->Option Int) (nf:Nat):Nat:=((List.range nf).filter fun f=>(kn f).isSome).length
def Zhv (kn:Nat->Option Int) (f:Nat) (v:Int):Nat->Option Int:=fun x=>if x=f then some v else kn x
def KnW (w:World) (bk nf:Nat) (kn:Nat->Option Int):Prop:=nf<=64/\∃ (n:Nat) (D:DataW Unit),w.ownsMap Try.prog 3 (plainElem Try.prog 3) bk n D/\n<=Yys kn nf/\IsMap D /\
 ∀ f:Nat,f<nf->has D (.int .i64 (f:Int))=(kn f).isSome/\∀ v,kn f=some v->∀ z,D.atKey (.int .i64 (f:Int)) z = .lit (.int .i64 v)
theorem Yta (kn:Nat->Option Int) (nf:Nat):Yys kn nf<=nf:=by
 unfold Yys
 have:=List.length_filter_le (fun f=>(kn f).isSome) (List.range nf)
 rwa [List.length_range] at this
theorem Zzg (w:World) {nf:Nat} (h:nf<=64):KnW (w.alloc (.map #[] 0)) w.heap.size nf fun _=>none :=
 ⟨h,0,.map [],World.ownsMap_made _ _ _ _,Nat.zero_le _,⟨[],rfl⟩,fun f _=>⟨rfl,fun v hv=>by cases hv⟩⟩
theorem Zcc {w w':World} {bk nf:Nat} {kn:Nat->Option Int} {r:Option Nat} (h:KnW w bk nf kn) (g:w.grownBy w' r) (hr:some bk≠r):KnW w' bk nf kn:=by
 obtain ⟨h0,n,D,h1,h2⟩:=h
 exact ⟨h0,n,D,h1.kept g hr,h2⟩
theorem Yxi {w:World} {bk nf:Nat} {kn:Nat->Option Int} (h:KnW w bk nf kn):bk<w.heap.size:=by
 obtain ⟨_,n,D,h1,_⟩:=h
 exact h1.lt
theorem Zrc {a b:Int} (h:(DataW.lit (.int .i64 a):DataW Unit) = .lit (.int .i64 b)):a=b:=by
 simpa only [DataW.lit.injEq,Lit.int.injEq,true_and] using h
theorem Zos {D:DataW Unit} {k:Lit} (h:has D k=false) (z:DataW Unit):D.atKey k z=z:=atKey_of_not_has h z
theorem Yop {w:World} {bk nf f:Nat} {kn:Nat->Option Int} (h:KnW w bk nf kn) (hf:f<nf) :
 (Instr.lookup 94 (.map (some bk)) (.int .i64 f) true).run Try.prog w = .ok (.tuple #[.int .i64 ((kn f).getD 0),.bool (kn f).isSome]) w:=by
 obtain ⟨h0,n,D,h1,h2,h3,h4⟩:=h
 obtain ⟨v,ps,hrun,hv⟩:=h1.look_ok Ymv Try.underlying94 (Ysg w) (plainElem_int Try.underlying3 (by decide)) (Zmt (f:=f) (by omega))
 obtain ⟨c,rfl,hc,_⟩:=plainElem_int_inv Try.underlying3 hv
 simp only [Prod.mk.injEq] at hc
 obtain ⟨h5,h6⟩:=h4 f hf
 rw [hrun,h5]
 cases hk:kn f with
 | none =>
   rw [hk] at h5
   have h7:=Zos (by simpa using h5) (.lit (.int .i64 0))
   rw [h7] at hc
   have e:=Zrc hc.1
   rw [<- e];rfl
 | some v =>
   have h7:=h6 v hk (.lit (.int .i64 0))
   rw [h7] at hc
   have e:=Zrc hc.1
   rw [<- e];rfl
theorem Yoq {w:World} {bk nf f:Nat} {v:Int} {kn:Nat->Option Int} (h:KnW w bk nf kn) (hf:f<nf) (hv:kn f=some v) :
 (Instr.lookup 94 (.map (some bk)) (.int .i64 f) false).run Try.prog w = .ok (.int .i64 v) w:=by
 obtain ⟨h0,n,D,h1,h2,h3,h4⟩:=h
 obtain ⟨c,hrun,hc,_⟩:=h1.lookup_int Ymv Try.underlying94 Try.underlying3 (Ysg w) (Zmt (f:=f) (by omega))
 obtain ⟨h5,h6⟩:=h4 f hf
 rw [h6 v hv] at hc
 rw [hrun,<- Zrc hc]
theorem Ygn {w:World} {bk nf f:Nat} {v:Int} {kn:Nat->Option Int} (h:KnW w bk nf kn) (hf:f<nf) (hn:kn f=none) (hv : -1000000000000000000<=v/\v<=1000000000000000000) :
 ∃ w',(Instr.mapUpdate 94 (.map (some bk)) (.int .i64 f) (.int .i64 v)).run Try.prog w = .ok () w'/\KnW w' bk nf (Zhv kn f v)/\w.grownBy w' (some bk):=by
 obtain ⟨h0,n,D,h1,h2,h3,h4⟩:=h
 have hc:=Yta kn nf
 obtain ⟨w',hrun,h5,h6⟩:=h1.update Ymv Try.underlying94 (by unfold maxLen;omega) (Zmt (f:=f) (by omega)) (plainElem_int Try.underlying3 (Ygf hv))
 refine ⟨w',hrun,⟨h0,n+1,_,h5,?_,h3.put _ _,fun x hx => ?_⟩,h6⟩
 · have key:∀ l:List Nat,l.Nodup->f∈l->(l.filter fun x=>(Zhv kn f v x).isSome).length=(l.filter fun x=>(kn x).isSome).length+1:=by
    intro l
    induction l with
    | nil=>intro _ h;cases h
    | cons x r ih =>
      intro hnd hm
      obtain ⟨n1,n2⟩:=List.nodup_cons.1 hnd
      by_cases e:x=f
      · subst e
        have hsame:(r.filter fun y=>(Zhv kn x v y).isSome)=r.filter fun y=>(kn y).isSome:=by
         refine List.filter_congr fun y hy => ?_
         unfold Zhv
         rw [if_neg (fun e=>n1 (by rw [<- e];exact hy))]
        simp only [List.filter_cons,hsame]
        rw [if_pos (by simp [Zhv]),if_neg (by simp [hn])]
        rfl
      · have hm2:=(List.mem_cons.1 hm).resolve_left (fun h=>e h.symm)
        have:=ih n2 hm2
        simp only [List.filter_cons]
        have e2:Zhv kn f v x=kn x:=by unfold Zhv;rw [if_neg e]
        rw [e2]
        split
        · simp only [List.length_cons,this]
        · exact this
   unfold Yys at h2 ⊢
   rw [key _ List.nodup_range (List.mem_range.2 hf)]
   omega
 · obtain ⟨h7,h8⟩:=h4 x hx
   by_cases e:x=f
   · subst e
     refine ⟨?_,fun u hu z => ?_⟩
     · rw [has_put_same h3 (by trivial)];simp [Zhv]
     · have:u=v:=by simpa [Zhv] using hu.symm
       subst this
       exact atKey_put_same h3 (by trivial) _ _
   · have hne:(Lit.int .i64 (x:Int)) ≠ .int .i64 (f:Int):=fun h=>by injection h with _ h;omega
     refine ⟨?_,fun u hu z => ?_⟩
     · rw [has_put_other hne,h7];simp [Zhv,e]
     · rw [atKey_put_other hne]
       exact h8 u (by simpa [Zhv,e] using hu) z
theorem Xq {ops:Array Oper} {Q:Exit->Act->World->Prop} {a:Act} {i:Nat} {w:World} {o:Oper} {K:Act->World->Prop} (ho:ops[i]? = some o) (hw:Region.wanted o (yielded ops a.tmps)=true) {f:FuncId} {args:Array Value} (hrun:(execOp a.eval o).run Try.prog w = .ok (.enter f args) w)
 (hc:Calls Try.prog f args w fun e w''=>∃ v,e = .returned v/\K (a.put o.dst v) w''):wpOp Try.prog ops Q i K a w:=by
 unfold wpOp
 simp only [ho]
 rw [if_pos hw]
 refine Or.inl ?_
 unfold Oper.wp
 rw [hrun]
 simp only [Oper.upon]
 refine hc.mono fun e w' he => ?_
 obtain ⟨v,rfl,hK⟩:=he
 exact hK
structure WX (c n:Nat) (D:List (Nat × Nat)) (W:World) (row:Option Nat) (P:World->Prop) (l:Array Bool) (w:World):Prop where
 sz:l.size=n
 h0:l.getD c false=false->w=W
 h1:l.getD c false=true->P w
 g:W.grownBy w row
 x:∀ p∈D,l.getD p.1 false=true->l.getD p.2 false=true
theorem Zkr (c n:Nat) (D:List (Nat × Nat)) (W:World) (row:Option Nat) (P:World->Prop):WX c n D W row P (Array.replicate n false) W :=
 ⟨by simp,fun _=>rfl,fun h=>(by rw [getD_replicate_false] at h;cases h),Zc _ _,fun p _ h=>(by rw [getD_replicate_false] at h;cases h)⟩
theorem Yjp {D:List (Nat × Nat)} {n i:Nat} {l:Array Bool} (hs:l.size=n) (hin:i<n) (hx:∀ p∈D,l.getD p.1 false=true->l.getD p.2 false=true) (hp:∀ p∈D,p.1=i->l.getD p.2 false=true) :
 ∀ p∈D,(l.setIfInBounds i true).getD p.1 false=true->(l.setIfInBounds i true).getD p.2 false=true:=fun p hpD e=>by
 rw [Yc l i _ (by omega)] at e ⊢
 by_cases h2:p.2=i
 · rw [if_pos h2]
 · rw [if_neg h2]
   by_cases h1:p.1=i
   · exact hp p hpD h1
   · rw [if_neg h1] at e;exact hx p hpD e
theorem Zx {c n i:Nat} {D:List (Nat × Nat)} {W w:World} {row:Option Nat} {P:World->Prop} {l:Array Bool} (h:WX c n D W row P l w) (hi:i≠c) (hin:i<n) (hp:∀ p∈D,p.1=i->l.getD p.2 false=true):WX c n D W row P (l.setIfInBounds i true) w:=by
 have hg:(l.setIfInBounds i true).getD c false=l.getD c false:=by rw [Yc l i c (by rw [h.sz];exact hin),if_neg (Ne.symm hi)]
 exact ⟨by simp [h.sz],fun e=>h.h0 (by rw [<- hg];exact e),fun e=>h.h1 (by rw [<- hg];exact e),h.g,Yjp h.sz hin h.x hp⟩
theorem Zpm {c n:Nat} {D:List (Nat × Nat)} {W w w':World} {row:Option Nat} {P P':World->Prop} {l:Array Bool} (h:WX c n D W row P l w) (hin:c<n) (hp:∀ p∈D,p.1=c->l.getD p.2 false=true) (hP:P' w') (g:W.grownBy w' row):WX c n D W row P' (l.setIfInBounds c true) w' :=
 ⟨by simp [h.sz],fun e=>(by rw [Yc l c c (by rw [h.sz];exact hin),if_pos rfl] at e;cases e),fun _=>hP,g,Yjp h.sz hin h.x hp⟩
theorem Zv {D:List (Nat × Nat)} {i:Nat} {l:Array Bool} (h:i ∉ D.map Prod.fst):∀ p∈D,p.1=i->l.getD p.2 false=true:=fun p hp e=>absurd (List.mem_map.2 ⟨p,hp,e⟩) h
structure St2 (w0:World) (bx gH gT:Nat) (fs:List FnP) (hs:Nat->List Int) (tops:Nat->Int):Prop where
 n1:gH≠bx
 n2:gT≠bx
 h:∀ (f:Nat) (ar lo r:Int) (c:List (Int × Int)),fs[f]? = some (ar,lo,r,c)->∃ (gh ch:Nat),w0.cell? ⟨gH,f,none⟩=some (.slice (some ⟨gh,0,none⟩) c.length ch)/\gh≠bx /\
   ∀ i:Nat,i<c.length->w0.cell? ⟨gh,i,none⟩=some (.int .i64 ((hs f).getD i 0)) /\ -1<=(hs f).getD i 0/\(hs f).getD i 0<=256
 t:∀ f:Nat,f<fs.length->w0.cell? ⟨gT,f,none⟩=some (.int .i64 (tops f))/\0<=tops f/\tops f<=256
 ar:∀ (f:Nat) (ar lo r:Int) (c:List (Int × Int)),fs[f]? = some (ar,lo,r,c)->0<=ar/\ar<=16/\0<=lo/\lo<=64
structure XW (w0 w:World) (bx gH gT nf cH cT bk:Nat) (x2 x3 x4 x5:Value) (kn:Nat->Option Int):Prop where
 g:w0.grownBy w (some bx)
 xc:w.heap[bx]? = some (.cells #[.slice (some ⟨gH,0,none⟩) nf cH,.slice (some ⟨gT,0,none⟩) nf cT,x2,x3,x4,x5] 35 (0,0))
 lk:w0.heap.size<=bk
 kw:KnW w bk nf kn
theorem Zya {w0 w w':World} {bx gH gT nf cH cT bk:Nat} {x2 x3 x4 x5:Value} {kn kn':Nat->Option Int} (H:XW w0 w bx gH gT nf cH cT bk x2 x3 x4 x5 kn) (hx:bx<w0.heap.size) (g:w.grownBy w' (some bk)) (k:KnW w' bk nf kn'):XW w0 w' bx gH gT nf cH cT bk x2 x3 x4 x5 kn' :=
 ⟨Zcs H.g g H.lk,Zb H.xc g (by intro e;injection e with e;have:=H.lk;omega),H.lk,k⟩
def KnB (fin:List Nat) (nf:Nat) (kn:Nat->Option Int):Prop:=∀ f,f<nf->∀ v,kn f=some v->0<=v/\v<=1000*((rk fin f:Int)+1)
def KnM (fin:List Nat) (nf:Nat) (kn kn':Nat->Option Int) (r:Nat):Prop:=(∀ x v,kn x=some v->kn' x=some v)/\∀ x,x<nf->kn' x≠none->kn x≠none\/rk fin x<r
def Yym (w0 w:World) (bx gH gT nf cH cT bk:Nat) (x2 x3 x4 x5:Value) (fin:List Nat) (kn:Nat->Option Int) (f:Nat) (e:Ending) (w':World):Prop :=
 ∃ v kn',e = .returned (.int .i64 v)/\w.grownBy w' (some bk)/\KnW w' bk nf kn'/\kn' f=some v/\KnB fin nf kn'/\KnM fin nf kn kn' (rk fin f+1)
def cq9:Nat->Nat
 | 0=>55
 | 1=>56
 | 2=>57
 | 3=>58
 | 4=>59
 | 5=>60
 | 6=>61
 | 7=>62
 | 8=>63
 | 9=>64
 | 10=>65
 | 11=>66
 | 12=>67
 | 13=>68
 | 14=>69
 | 15=>70
 | 16=>71
 | 17=>72
 | 18=>73
 | 19=>74
 | 20=>75
 | 21=>76
 | 22=>77
 | 23=>78
 | 24=>79
 | 25=>80
 | 26=>81
 | 27=>82
 | 28=>83
 | 29=>84
 | 30=>9
 | _=>5000
theorem Xp:∀ i,i<31->∀ j,j<31->j≠i->cq9 j≠cq9 i:=by decide
theorem Ypc (i:Nat) (h:i<31):i=0\/i=1\/i=2\/i=3\/i=4\/i=5\/i=6\/i=7\/i=8\/i=9\/i=10\/i=11\/i=12\/i=13\/i=14\/i=15\/i=16\/i=17\/i=18\/i=19\/i=20\/i=21\/i=22\/i=23\/i=24\/i=25\/i=26\/i=27\/i=28\/i=29\/i=30:=by omega
theorem Zgj (j:Nat) (hj:j∈[0,1,2,11,12]):∀ i,i<31->cq9 i≠j:=by revert j;decide
def Zdt (bw bx gH nF cH f gh nC ch at_ bF oF cF ca bk:Nat) (most hv ga v9:Int):Nat->Value
 | 0 => .int .i64 most
 | 1 => .pointer (some ⟨bw,0,none⟩)
 | 2 => .pointer (some ⟨bw,0,none⟩)
 | 3 => .pointer (some ⟨bw,3,none⟩)
 | 4 => .pointer (some ⟨bx,0,none⟩)
 | 5 => .pointer (some ⟨bx,0,none⟩)
 | 6 => .pointer (some ⟨bx,0,none⟩)
 | 7 => .slice (some ⟨gH,0,none⟩) nF cH
 | 8 => .int .i64 f
 | 9 => .pointer (some ⟨gH,f,none⟩)
 | 10 => .slice (some ⟨gh,0,none⟩) nC ch
 | 11 => .int .i64 at_
 | 12 => .pointer (some ⟨gh,at_,none⟩)
 | 13 => .int .i64 hv
 | 14 => .pointer (some ⟨bw,0,none⟩)
 | 15 => .pointer (some ⟨bw,0,none⟩)
 | 16 => .pointer (some ⟨bw,0,none⟩)
 | 17 => .pointer (some ⟨bw,2,none⟩)
 | 18 => .slice (some ⟨bF,oF,none⟩) nF cF
 | 19 => .int .i64 ca
 | 20 => .pointer (some ⟨bF,oF+ca*4,none⟩)
 | 21 => .pointer (some ⟨bF,oF+ca*4,none⟩)
 | 22 => .int .i64 ga
 | 23 => .int .i64 (hv - ga)
 | 24 => .pointer (some ⟨bw,0,none⟩)
 | 25 => .int .i64 ca
 | 26 => .map (some bk)
 | 27 => .int .i64 v9
 | 28 => .int .i64 (hv - ga+v9)
 | 29 => .int .i64 (max most (hv - ga+v9))
 | 30 => .int .i64 (max most (hv - ga+v9))
 | _=>undef
theorem d28 {l:Array Bool} (h:l.getD 27 false=true):∀ p∈[(30,0),(28,27),(29,27),(30,27)],p.1=28->l.getD p.2 false=true:=by
 intro p hp e
 simp only [List.mem_cons,List.not_mem_nil,or_false] at hp
 rcases hp with rfl|rfl|rfl|rfl <;> simp only [] at e ⊢ <;> first|exact h|omega
theorem d29 {l:Array Bool} (h:l.getD 27 false=true):∀ p∈[(30,0),(28,27),(29,27),(30,27)],p.1=29->l.getD p.2 false=true:=by
 intro p hp e
 simp only [List.mem_cons,List.not_mem_nil,or_false] at hp
 rcases hp with rfl|rfl|rfl|rfl <;> simp only [] at e ⊢ <;> first|exact h|omega
theorem d30 {l:Array Bool} (h0:l.getD 0 false=true) (h:l.getD 27 false=true):∀ p∈[(30,0),(28,27),(29,27),(30,27)],p.1=30->l.getD p.2 false=true:=by
 intro p hp e
 simp only [List.mem_cons,List.not_mem_nil,or_false] at hp
 rcases hp with rfl|rfl|rfl|rfl <;> simp only [] at e ⊢ <;> first|exact h|exact h0|omega
theorem Xbo:∀ i,i<31->cq9 i=9->i=30:=by decide
theorem Yxx {bw bx gH nF cH f gh nC ch at_ bF oF cF ca bk:Nat} {most hv ga v9 v8:Int} (l:Array Bool) (hun:l.getD 27 false=false) (h28:l.getD 28 false=false) (h29:l.getD 29 false=false) (h30:l.getD 30 false=false) :
 ∀ i,i<31->l.getD i false=true->cq9 i<103->Zdt bw bx gH nF cH f gh nC ch at_ bF oF cF ca bk most hv ga v8 i=Zdt bw bx gH nF cH f gh nC ch at_ bF oF cF ca bk most hv ga v9 i:=by
 intro i hi hl _
 rcases Ypc i hi with rfl|rfl|rfl|rfl|rfl|rfl|rfl|rfl|rfl|rfl|rfl|rfl|rfl|rfl|rfl|rfl|rfl|rfl|rfl|rfl|rfl|rfl|rfl|rfl|rfl|rfl|rfl|rfl|rfl|rfl|rfl <;> first|rfl|(rw [hun] at hl;cases hl)|(rw [h28] at hl;cases hl)|(rw [h29] at hl;cases hl)|(rw [h30] at hl;cases hl)
theorem Yio (N:Nat):∀ (w0 w:World) (bw bx bm B:Nat) (mem:Int) (pd:Option Addr) (nd cd:Nat) (pF:Option Addr) (cF:Nat) (fs:List FnP) (cl:Nat->List Nat) (gH gT cH cT bk:Nat) (x2 x3 x4 x5:Value) (hs:Nat->List Int) (tops:Nat->Int) (kn:Nat->Option Int) (fin:List Nat) (f:Nat)
 (S:St w0 bw bx bm B mem pd nd cd pF cF fs cl) (S2:St2 w0 bx gH gT fs hs tops) (H:XW w0 w bx gH gT fs.length cH cT bk x2 x3 x4 x5 kn) (hKB:KnB fin fs.length kn) (hfin:Zse (Je fs cl) fin) (hlt:∀ x∈fin,x<fs.length) (hfl:fin.length<=64) (hff:f∈fin) (hN:rk fin f<N),
 Calls Try.prog 45 #[.pointer (some ⟨bw,0,none⟩),.int .i64 f,.map (some bk)] w (Yym w0 w bx gH gT fs.length cH cT bk x2 x3 x4 x5 fin kn f):=by
 induction N with
 | zero=>intro w0 w bw bx bm B mem pd nd cd pF cF fs cl gH gT cH cT bk x2 x3 x4 x5 hs tops kn fin f S S2 H hKB hfin hlt hfl hff hN;omega
 | succ N ih =>
   intro w0 w bw bx bm B mem pd nd cd pF cF fs cl gH gT cH cT bk x2 x3 x4 x5 hs tops kn fin f S S2 H hKB hfin hlt hfl hff hN
   have hf:=hlt f hff
   have hlook:=Yop H.kw hf
   have hrk:=Ykq fin f hff
   cases hk:kn f with
   | some v =>
     rw [hk] at hlook
     simp only [Option.getD_some,Option.isSome_some] at hlook
     have HH:=Hq H
     have HK:=Hq hk
     have HB:=Hq hKB
     clear S S2 H hKB ih hk hfin hlt
     go_enter Try.func45,Try.ntmps45
     go_wp2
     go_ret
     exact ⟨v,kn,rfl,Zc _ _,HH.out.kw,HK.out,HB.out,fun x u h=>h,fun x _ h=>Or.inl h⟩
   | none =>
     rw [hk] at hlook
     simp only [Option.getD_none,Option.isSome_none] at hlook
     have hlx:=S.lx
     have kb:=Zb S.bwc H.g (by intro e;injection e with e;exact S.ne1 e.symm)
     have b3:=Cq _ _ 3 _ _ _ kb
     have b4:=Cq _ _ 4 _ _ _ kb
     have j1:=Cq _ _ 1 _ _ _ H.xc
     have s1:=(Gs kb)
     have s2:=(Gs H.xc)
     obtain ⟨ht0,ht1,ht2⟩:=S2.t f hf
     have ct:=H.g.cell ht0 (by intro e;injection e with e;exact S2.n2 e)
     have sT:=World.block_lt_of_cell? _ _ ct
     have hfi:(f:Int)<(fs.length:Int):=by omega
     obtain ⟨pc,cc,hrun,hcells⟩:=S.calls f hf
     have hr1:=hrun w (H.g.block bm S.lm (by intro e;injection e with e;exact S.ne2 e))
     obtain ⟨⟨ar,lo,r,c⟩,hfn⟩:∃ fn,fs[f]? = some fn:=⟨_,List.getElem?_eq_getElem hf⟩
     obtain ⟨hcl,hok⟩:=S.ok f ar lo r c hfn
     have hci:((cl f).length:Int)<=4096:=by omega
     have SS:=Hq S
     have SS2:=Hq S2
     have HH:=Hq H
     have IH:=Hq ih
     have HKN:=Hq hk
     have HCE:=Hq hcells
     have HFN:=Hq hfn
     have HOK:=Hq hok
     have HB:=Hq hKB
     have HFIN:=Hq hfin
     have HLT:=Hq hlt
     have HFF:=Hq hff
     have HNN:=Hq hN
     clear S S2 H ih hk hcells hfn hok hKB hfin hlt hff hN hrun kb ht0
     go_enter Try.func45,Try.ntmps45
     go_wp2_with (at_lookup;refine Zbs rfl _ _ 69 rfl rfl rfl hr1 ?_)
     clear b3 b4 j1 s1 s2 ct sT hr1 hlook
     go_loopw [9,38] (fun m i wr=>∃ (k:Nat) (most:Int) (knk:Nat->Option Int),m = .int .i64 most/\i = .int .i64 k/\k<=(cl f).length/\w.grownBy wr (some bk)/\XW w0 wr bx gH gT fs.length cH cT bk x2 x3 x4 x5 knk/\KnB fin fs.length knk/\KnM fin fs.length kn knk (rk fin f)/\0<=most/\most<=256+1000*(rk fin f:Int)) (fun _ i _=>(cl f).length - (intOf i).toNat)
     case atStart=>exact ⟨0,tops f,kn,rfl,rfl,Nat.zero_le _,Zc _ _,HH.out,HB.out,⟨fun x u h=>h,fun x _ h=>Or.inl h⟩,ht1,by omega⟩
     case round =>
      obtain ⟨k,most,knk,rfl,rfl,hk,hgk,hW,hkb,hkm,hm0,hm1⟩:=hrel
      obtain ⟨wo,hwo⟩:∃ wo,wo=wr:=⟨_,rfl⟩
      subst hwo
      by_cases hlt:(k:Int)<((cl f).length:Int)
      · obtain ⟨at_,hat⟩:∃ a,(cl f)[k]? = some a:=⟨_,List.getElem?_eq_getElem (by omega)⟩
        obtain ⟨bc,hpc,hbx,hcell⟩:=HCE.out k at_ hat
        obtain ⟨ca,hins,hca2⟩:=HOK.out at_ (List.mem_of_getElem? hat)
        have ec:=hW.g.cell hcell (by intro e;injection e with e;exact hbx e)
        subst hpc
        have sc:=World.block_lt_of_cell? _ _ ec
        have kb:=Zb SS.out.bwc hW.g (by intro e;injection e with e;exact SS.out.ne1 e.symm)
        have b2:=Cq _ _ 2 _ _ _ kb
        have b3:=Cq _ _ 3 _ _ _ kb
        have y0:=Cq _ _ 0 _ _ _ hW.xc
        have s1:=(Gs kb)
        have lbw:=(Gs SS.out.bwc)
        have hFr:=Zs SS.out.hF hW.g (fun r e=>by injection e with e;rw [<- e];exact SS.out.bx_)
        obtain ⟨bF,oF,hpF,hbF,hcF⟩:=hFr (by omega)
        obtain ⟨-,-,-,pc',cc',e3,hcode⟩:=hcF f ar lo r c HFN.out
        have hat2:=(List.getElem?_eq_some_iff.1 hins).1
        obtain ⟨b',o',hpc',hb',hcc⟩:=hcode (by omega)
        subst hpc' hpF
        obtain ⟨d0,d1⟩:=hcc at_ 17 ca hins
        have sF:=World.block_lt_of_cell? _ _ e3
        have sb:=World.block_lt_of_cell? _ _ d1
        have hai:(at_:Int)<(c.length:Int):=by omega
        obtain ⟨gh,ch,eH0,hghx,hhv⟩:=SS2.out.h f ar lo r c HFN.out
        obtain ⟨eh0,hv0,hv1⟩:=hhv at_ hat2
        have c1:=hW.g.cell eH0 (by intro e;injection e with e;exact SS2.out.n1 e)
        have c2:=hW.g.cell eh0 (by intro e;injection e with e;exact hghx e)
        have lgH:gH<w0.heap.size:=World.block_lt_of_cell? _ _ eH0
        have lgh:gh<w0.heap.size:=World.block_lt_of_cell? _ _ eh0
        obtain ⟨⟨ga,lo',r',c'⟩,hfa⟩:∃ fn,fs[ca]? = some fn:=⟨_,List.getElem?_eq_getElem hca2⟩
        obtain ⟨c4,-,-,-⟩:=hcF ca ga lo' r' c' hfa
        obtain ⟨hga0,hga1,-,-⟩:=SS2.out.ar ca ga lo' r' c' hfa
        have hbk:=hW.lk
        have hBw:=SS.out.hB
        have eb:¬ bw=bk:=by omega
        have ex:¬ bx=bk:=by omega
        have eH:¬ gH=bk:=by omega
        have eh:¬ gh=bk:=by omega
        have eF:¬ bF=bk:=by omega
        have hf2:=hf
        generalize hhv2:(hs f).getD at_ 0=hv at c2 hv0 hv1
        have hsub:IntKind.i64.wrap (hv - ga)=hv - ga:=IntWalk.i64_in _ (by omega)
        have hmem:ca∈Je fs cl f:=by
         unfold Je
         simp only [HFN.out]
         refine List.mem_map.2 ⟨at_,List.mem_of_getElem? hat,?_⟩
         simp only [hins]
         exact Int.toNat_natCast ca
        obtain ⟨hcf,hcr⟩:=Zqd HFIN.out f HFF.out ca hmem
        have hXd:XW w0 wo.drew bx gH gT fs.length cH cT bk x2 x3 x4 x5 knk:=⟨Zd hW.g,hW.xc,hW.lk,Zcc hW.kw (Zd (Zc wo none)) (by simp)⟩
        have CA:=Hq (IH.out w0 wo.drew bw bx bm B mem pd nd cd _ cF fs cl gH gT cH cT bk x2 x3 x4 x5 hs tops knk fin ca SS.out SS2.out hXd hkb HFIN.out HLT.out hfl hcf (by have:=HNN.out;omega))
        have hrc:=Ykq fin ca hcf
        have HHW:=Hq hW
        have HXD:=Hq hXd
        have HKM:=Hq hkm
        have HGK:=Hq hgk
        have HCR:=Hq hcr
        clear hW hkb hkm hgk hat hins hcell hcc hcode hcF hFr hbx kb hXd hcr hhv eH0 eh0 hhv2 hfa hmem
        go_upto_region 9 with fail
        rename_i K hK
        refine Xe (n:=31) (J:=fun a0 l a1 w1=>∃ v9 kn9,RJ a0 103 31 cq9 (Zdt bw bx gH fs.length cH f gh c.length ch at_ bF oF cF ca bk most hv ga v9) l a1/\WX 27 31 [(30,0),(28,27),(29,27),(30,27)] wo.drew (some bk) (fun w9=>KnW w9 bk fs.length kn9/\kn9 ca=some v9/\KnB fin fs.length kn9/\KnM fin fs.length knk kn9 (rk fin ca+1)) l w1) (by kernel_rfl) rfl (Jh (by kernel_rfl)) (fun l a1 w1 h=>by obtain ⟨_,_,_,h⟩:=h;exact h.sz) ⟨0,knk,Xd rfl,Zkr _ _ _ _ _ _⟩ ?step ?fin
        case step =>
         intro l a1 w' i hJJ hi hin
         obtain ⟨v9,kn9,hJ,hW⟩:=hJJ
         have hun:l.getD i false=false:=getD_both (mem_ready.1 hi).1
         have gW:wo.grownBy w' (some bk):=Za (Zd (Zc wo _)) hW.g
         rcases Ypc i hin with rfl|rfl|rfl|rfl|rfl|rfl|rfl|rfl|rfl|rfl|rfl|rfl|rfl|rfl|rfl|rfl|rfl|rfl|rfl|rfl|rfl|rfl|rfl|rfl|rfl|rfl|rfl|rfl|rfl|rfl|rfl
         · have e9:a1.tmps.getD 9 undef = .int .i64 most:=hJ.un 9 (fun i hi hl he=>by
            have h30:i=30:=Xbo i hi he
            subst h30
            have:=hW.x (30,0) (by decide) hl
            rw [hun] at this;cases this)
           exact Zj (Zp hW hJ rfl (by rfl) rfl (by decide) (by decide) (Xp _ (by decide)) (w':=w') (by simp [execOp,Act.eval,e9,go_sem,Zdt]) (Zx hW (by decide) (by decide) (Zv (by decide)))) (fun a9 w9 h9=>⟨v9,kn9,h9⟩)
         · have e0:a1.tmps.getD 0 undef = .pointer (some ⟨bw,0,none⟩):=hJ.un 0 (fun i hi _=>Zgj 0 (by decide) i hi)
           exact Zj (Zp hW hJ rfl (by rfl) rfl (by decide) (by decide) (Xp _ (by decide)) (w':=w') (by simp [execOp,resolve,invoke,builtin,Act.eval,e0,hat2,hf2,hca2,hsub,go_sem,Zdt]) (Zx hW (by decide) (by decide) (Zv (by decide)))) (fun a9 w9 h9=>⟨v9,kn9,h9⟩)
         · have e56:a1.tmps.getD 56 undef = .pointer (some ⟨bw,0,none⟩):=(Zm hJ hi 1 (by kernel_rfl))
           exact Zj (Zp hW hJ rfl (by rfl) rfl (by decide) (by decide) (Xp _ (by decide)) (w':=w') (by simp [execOp,resolve,invoke,builtin,Act.eval,e56,hat2,hf2,hca2,hsub,go_sem,Zdt]) (Zx hW (by decide) (by decide) (Zv (by decide)))) (fun a9 w9 h9=>⟨v9,kn9,h9⟩)
         · have e57:a1.tmps.getD 57 undef = .pointer (some ⟨bw,0,none⟩):=(Zm hJ hi 2 (by kernel_rfl))
           exact Zj (Zp hW hJ rfl (by rfl) rfl (by decide) (by decide) (Xp _ (by decide)) (w':=w') (by simp [execOp,resolve,invoke,builtin,Act.eval,e57,hat2,hf2,hca2,hsub,go_sem,Zdt]) (Zx hW (by decide) (by decide) (Zv (by decide)))) (fun a9 w9 h9=>⟨v9,kn9,h9⟩)
         · have e58:a1.tmps.getD 58 undef = .pointer (some ⟨bw,3,none⟩):=(Zm hJ hi 3 (by kernel_rfl))
           have h0:=gW.cell b3 (by simpa using eb)
           exact Zj (Zp hW hJ rfl (by rfl) rfl (by decide) (by decide) (Xp _ (by decide)) (w':=w') (by simp [execOp,resolve,invoke,builtin,Act.eval,e58,h0,hat2,hf2,hca2,hsub,go_sem,Zdt]) (Zx hW (by decide) (by decide) (Zv (by decide)))) (fun a9 w9 h9=>⟨v9,kn9,h9⟩)
         · have e59:a1.tmps.getD 59 undef = .pointer (some ⟨bx,0,none⟩):=(Zm hJ hi 4 (by kernel_rfl))
           exact Zj (Zp hW hJ rfl (by rfl) rfl (by decide) (by decide) (Xp _ (by decide)) (w':=w') (by simp [execOp,resolve,invoke,builtin,Act.eval,e59,hat2,hf2,hca2,hsub,go_sem,Zdt]) (Zx hW (by decide) (by decide) (Zv (by decide)))) (fun a9 w9 h9=>⟨v9,kn9,h9⟩)
         · have e60:a1.tmps.getD 60 undef = .pointer (some ⟨bx,0,none⟩):=(Zm hJ hi 5 (by kernel_rfl))
           exact Zj (Zp hW hJ rfl (by rfl) rfl (by decide) (by decide) (Xp _ (by decide)) (w':=w') (by simp [execOp,resolve,invoke,builtin,Act.eval,e60,hat2,hf2,hca2,hsub,go_sem,Zdt]) (Zx hW (by decide) (by decide) (Zv (by decide)))) (fun a9 w9 h9=>⟨v9,kn9,h9⟩)
         · have e61:a1.tmps.getD 61 undef = .pointer (some ⟨bx,0,none⟩):=(Zm hJ hi 6 (by kernel_rfl))
           have h0:=gW.cell y0 (by simpa using ex)
           exact Zj (Zp hW hJ rfl (by rfl) rfl (by decide) (by decide) (Xp _ (by decide)) (w':=w') (by simp [execOp,resolve,invoke,builtin,Act.eval,e61,h0,hat2,hf2,hca2,hsub,go_sem,Zdt]) (Zx hW (by decide) (by decide) (Zv (by decide)))) (fun a9 w9 h9=>⟨v9,kn9,h9⟩)
         · have e1:a1.tmps.getD 1 undef = .int .i64 f:=hJ.un 1 (fun i hi _=>Zgj 1 (by decide) i hi)
           exact Zj (Zp hW hJ rfl (by rfl) rfl (by decide) (by decide) (Xp _ (by decide)) (w':=w') (by simp [execOp,resolve,invoke,builtin,Act.eval,e1,hat2,hf2,hca2,hsub,go_sem,Zdt]) (Zx hW (by decide) (by decide) (Zv (by decide)))) (fun a9 w9 h9=>⟨v9,kn9,h9⟩)
         · have e62:a1.tmps.getD 62 undef = .slice (some ⟨gH,0,none⟩) fs.length cH:=(Zm hJ hi 7 (by kernel_rfl))
           have e63:a1.tmps.getD 63 undef = .int .i64 f:=(Zm hJ hi 8 (by kernel_rfl))
           exact Zj (Zp hW hJ rfl (by rfl) rfl (by decide) (by decide) (Xp _ (by decide)) (w':=w') (by first|(simp [execOp,resolve,invoke,builtin,Act.eval,e62,e63,hat2,hf2,hca2,hsub,go_sem,Zdt];done)|(simp [execOp,resolve,invoke,builtin,Act.eval,e62,e63,hat2,hf2,hca2,hsub,go_sem,Zdt];omega)|(simp [execOp,resolve,invoke,builtin,Act.eval,e62,e63,hat2,hf2,hca2,hsub,go_sem,Zdt];intro h;omega)|(simp [execOp,resolve,invoke,builtin,Act.eval,e62,e63,hat2,hf2,hca2,hsub,go_sem,Zdt];intros;omega)) (Zx hW (by decide) (by decide) (Zv (by decide)))) (fun a9 w9 h9=>⟨v9,kn9,h9⟩)
         · have e64:a1.tmps.getD 64 undef = .pointer (some ⟨gH,f,none⟩):=(Zm hJ hi 9 (by kernel_rfl))
           have h0:=gW.cell c1 (by simpa using eH)
           exact Zj (Zp hW hJ rfl (by rfl) rfl (by decide) (by decide) (Xp _ (by decide)) (w':=w') (by simp [execOp,resolve,invoke,builtin,Act.eval,e64,h0,hat2,hf2,hca2,hsub,go_sem,Zdt]) (Zx hW (by decide) (by decide) (Zv (by decide)))) (fun a9 w9 h9=>⟨v9,kn9,h9⟩)
         · have e11:a1.tmps.getD 11 undef = .int .i64 at_:=hJ.un 11 (fun i hi _=>Zgj 11 (by decide) i hi)
           exact Zj (Zp hW hJ rfl (by rfl) rfl (by decide) (by decide) (Xp _ (by decide)) (w':=w') (by simp [execOp,resolve,invoke,builtin,Act.eval,e11,hat2,hf2,hca2,hsub,go_sem,Zdt]) (Zx hW (by decide) (by decide) (Zv (by decide)))) (fun a9 w9 h9=>⟨v9,kn9,h9⟩)
         · have e65:a1.tmps.getD 65 undef = .slice (some ⟨gh,0,none⟩) c.length ch:=(Zm hJ hi 10 (by kernel_rfl))
           have e66:a1.tmps.getD 66 undef = .int .i64 at_:=(Zm hJ hi 11 (by kernel_rfl))
           exact Zj (Zp hW hJ rfl (by rfl) rfl (by decide) (by decide) (Xp _ (by decide)) (w':=w') (by first|(simp [execOp,resolve,invoke,builtin,Act.eval,e65,e66,hat2,hf2,hca2,hsub,go_sem,Zdt];done)|(simp [execOp,resolve,invoke,builtin,Act.eval,e65,e66,hat2,hf2,hca2,hsub,go_sem,Zdt];omega)|(simp [execOp,resolve,invoke,builtin,Act.eval,e65,e66,hat2,hf2,hca2,hsub,go_sem,Zdt];intro h;omega)|(simp [execOp,resolve,invoke,builtin,Act.eval,e65,e66,hat2,hf2,hca2,hsub,go_sem,Zdt];intros;omega)) (Zx hW (by decide) (by decide) (Zv (by decide)))) (fun a9 w9 h9=>⟨v9,kn9,h9⟩)
         · have e67:a1.tmps.getD 67 undef = .pointer (some ⟨gh,at_,none⟩):=(Zm hJ hi 12 (by kernel_rfl))
           have h0:=gW.cell c2 (by simpa using eh)
           exact Zj (Zp hW hJ rfl (by rfl) rfl (by decide) (by decide) (Xp _ (by decide)) (w':=w') (by simp [execOp,resolve,invoke,builtin,Act.eval,e67,h0,hat2,hf2,hca2,hsub,go_sem,Zdt]) (Zx hW (by decide) (by decide) (Zv (by decide)))) (fun a9 w9 h9=>⟨v9,kn9,h9⟩)
         · have e0:a1.tmps.getD 0 undef = .pointer (some ⟨bw,0,none⟩):=hJ.un 0 (fun i hi _=>Zgj 0 (by decide) i hi)
           exact Zj (Zp hW hJ rfl (by rfl) rfl (by decide) (by decide) (Xp _ (by decide)) (w':=w') (by simp [execOp,resolve,invoke,builtin,Act.eval,e0,hat2,hf2,hca2,hsub,go_sem,Zdt]) (Zx hW (by decide) (by decide) (Zv (by decide)))) (fun a9 w9 h9=>⟨v9,kn9,h9⟩)
         · have e69:a1.tmps.getD 69 undef = .pointer (some ⟨bw,0,none⟩):=(Zm hJ hi 14 (by kernel_rfl))
           exact Zj (Zp hW hJ rfl (by rfl) rfl (by decide) (by decide) (Xp _ (by decide)) (w':=w') (by simp [execOp,resolve,invoke,builtin,Act.eval,e69,hat2,hf2,hca2,hsub,go_sem,Zdt]) (Zx hW (by decide) (by decide) (Zv (by decide)))) (fun a9 w9 h9=>⟨v9,kn9,h9⟩)
         · have e70:a1.tmps.getD 70 undef = .pointer (some ⟨bw,0,none⟩):=(Zm hJ hi 15 (by kernel_rfl))
           exact Zj (Zp hW hJ rfl (by rfl) rfl (by decide) (by decide) (Xp _ (by decide)) (w':=w') (by simp [execOp,resolve,invoke,builtin,Act.eval,e70,hat2,hf2,hca2,hsub,go_sem,Zdt]) (Zx hW (by decide) (by decide) (Zv (by decide)))) (fun a9 w9 h9=>⟨v9,kn9,h9⟩)
         · have e71:a1.tmps.getD 71 undef = .pointer (some ⟨bw,0,none⟩):=(Zm hJ hi 16 (by kernel_rfl))
           exact Zj (Zp hW hJ rfl (by rfl) rfl (by decide) (by decide) (Xp _ (by decide)) (w':=w') (by simp [execOp,resolve,invoke,builtin,Act.eval,e71,hat2,hf2,hca2,hsub,go_sem,Zdt]) (Zx hW (by decide) (by decide) (Zv (by decide)))) (fun a9 w9 h9=>⟨v9,kn9,h9⟩)
         · have e72:a1.tmps.getD 72 undef = .pointer (some ⟨bw,2,none⟩):=(Zm hJ hi 17 (by kernel_rfl))
           have h0:=gW.cell b2 (by simpa using eb)
           exact Zj (Zp hW hJ rfl (by rfl) rfl (by decide) (by decide) (Xp _ (by decide)) (w':=w') (by simp [execOp,resolve,invoke,builtin,Act.eval,e72,h0,hat2,hf2,hca2,hsub,go_sem,Zdt]) (Zx hW (by decide) (by decide) (Zv (by decide)))) (fun a9 w9 h9=>⟨v9,kn9,h9⟩)
         · have e12:a1.tmps.getD 12 undef = .int .i64 ca:=hJ.un 12 (fun i hi _=>Zgj 12 (by decide) i hi)
           exact Zj (Zp hW hJ rfl (by rfl) rfl (by decide) (by decide) (Xp _ (by decide)) (w':=w') (by simp [execOp,resolve,invoke,builtin,Act.eval,e12,hat2,hf2,hca2,hsub,go_sem,Zdt]) (Zx hW (by decide) (by decide) (Zv (by decide)))) (fun a9 w9 h9=>⟨v9,kn9,h9⟩)
         · have e73:a1.tmps.getD 73 undef = .slice (some ⟨bF,oF,none⟩) fs.length cF:=(Zm hJ hi 18 (by kernel_rfl))
           have e74:a1.tmps.getD 74 undef = .int .i64 ca:=(Zm hJ hi 19 (by kernel_rfl))
           exact Zj (Zp hW hJ rfl (by rfl) rfl (by decide) (by decide) (Xp _ (by decide)) (w':=w') (by first|(simp [execOp,resolve,invoke,builtin,Act.eval,e73,e74,hat2,hf2,hca2,hsub,go_sem,Zdt];done)|(simp [execOp,resolve,invoke,builtin,Act.eval,e73,e74,hat2,hf2,hca2,hsub,go_sem,Zdt];omega)|(simp [execOp,resolve,invoke,builtin,Act.eval,e73,e74,hat2,hf2,hca2,hsub,go_sem,Zdt];intro h;omega)|(simp [execOp,resolve,invoke,builtin,Act.eval,e73,e74,hat2,hf2,hca2,hsub,go_sem,Zdt];intros;omega)) (Zx hW (by decide) (by decide) (Zv (by decide)))) (fun a9 w9 h9=>⟨v9,kn9,h9⟩)
         · have e75:a1.tmps.getD 75 undef = .pointer (some ⟨bF,oF+ca*4,none⟩):=(Zm hJ hi 20 (by kernel_rfl))
           exact Zj (Zp hW hJ rfl (by rfl) rfl (by decide) (by decide) (Xp _ (by decide)) (w':=w') (by simp [execOp,resolve,invoke,builtin,Act.eval,e75,hat2,hf2,hca2,hsub,go_sem,Zdt]) (Zx hW (by decide) (by decide) (Zv (by decide)))) (fun a9 w9 h9=>⟨v9,kn9,h9⟩)
         · have e76:a1.tmps.getD 76 undef = .pointer (some ⟨bF,oF+ca*4,none⟩):=(Zm hJ hi 21 (by kernel_rfl))
           have h0:=gW.cell c4 (by simpa using eF)
           exact Zj (Zp hW hJ rfl (by rfl) rfl (by decide) (by decide) (Xp _ (by decide)) (w':=w') (by simp [execOp,resolve,invoke,builtin,Act.eval,e76,h0,hat2,hf2,hca2,hsub,go_sem,Zdt]) (Zx hW (by decide) (by decide) (Zv (by decide)))) (fun a9 w9 h9=>⟨v9,kn9,h9⟩)
         · have e68:a1.tmps.getD 68 undef = .int .i64 hv:=(Zm hJ hi 13 (by kernel_rfl))
           have e77:a1.tmps.getD 77 undef = .int .i64 ga:=(Zm hJ hi 22 (by kernel_rfl))
           exact Zj (Zp hW hJ rfl (by rfl) rfl (by decide) (by decide) (Xp _ (by decide)) (w':=w') (by simp [execOp,resolve,invoke,builtin,Act.eval,e68,e77,hat2,hf2,hca2,hsub,go_sem,Zdt]) (Zx hW (by decide) (by decide) (Zv (by decide)))) (fun a9 w9 h9=>⟨v9,kn9,h9⟩)
         · have e0:a1.tmps.getD 0 undef = .pointer (some ⟨bw,0,none⟩):=hJ.un 0 (fun i hi _=>Zgj 0 (by decide) i hi)
           exact Zj (Zp hW hJ rfl (by rfl) rfl (by decide) (by decide) (Xp _ (by decide)) (w':=w') (by simp [execOp,resolve,invoke,builtin,Act.eval,e0,hat2,hf2,hca2,hsub,go_sem,Zdt]) (Zx hW (by decide) (by decide) (Zv (by decide)))) (fun a9 w9 h9=>⟨v9,kn9,h9⟩)
         · have e12:a1.tmps.getD 12 undef = .int .i64 ca:=hJ.un 12 (fun i hi _=>Zgj 12 (by decide) i hi)
           exact Zj (Zp hW hJ rfl (by rfl) rfl (by decide) (by decide) (Xp _ (by decide)) (w':=w') (by simp [execOp,resolve,invoke,builtin,Act.eval,e12,hat2,hf2,hca2,hsub,go_sem,Zdt]) (Zx hW (by decide) (by decide) (Zv (by decide)))) (fun a9 w9 h9=>⟨v9,kn9,h9⟩)
         · have e2:a1.tmps.getD 2 undef = .map (some bk):=hJ.un 2 (fun i hi _=>Zgj 2 (by decide) i hi)
           exact Zj (Zp hW hJ rfl (by rfl) rfl (by decide) (by decide) (Xp _ (by decide)) (w':=w') (by simp [execOp,resolve,invoke,builtin,Act.eval,e2,hat2,hf2,hca2,hsub,go_sem,Zdt]) (Zx hW (by decide) (by decide) (Zv (by decide)))) (fun a9 w9 h9=>⟨v9,kn9,h9⟩)
         · have e79:a1.tmps.getD 79 undef = .pointer (some ⟨bw,0,none⟩):=(Zm hJ hi 24 (by kernel_rfl))
           have e80:a1.tmps.getD 80 undef = .int .i64 ca:=(Zm hJ hi 25 (by kernel_rfl))
           have e81:a1.tmps.getD 81 undef = .map (some bk):=(Zm hJ hi 26 (by kernel_rfl))
           have no27:∀ j,(j,27)∈[(30,0),(28,27),(29,27),(30,27)]->l.getD j false=false:=fun j hj=>(by
            rcases Bool.eq_false_or_eq_true (l.getD j false) with e|e
            · have:=hW.x (j,27) hj e;rw [hun] at this;cases this
            · exact e)
           have hw0:=hW.h0 hun
           subst hw0
           refine Xq rfl (by rfl) (by simp [execOp,resolve,invoke,Act.eval,e79,e80,e81,go_sem]) (CA.out.mono fun e w2 he => ?_)
           obtain ⟨v8,kn8,rfl,g8,k8,k8f,kb8,km8⟩:=he
           refine ⟨_,rfl,v8,kn8,?_,Zpm hW (by decide) (Zv (by decide)) ⟨k8,k8f,kb8,km8⟩ (Za (hW.g) g8)⟩
           exact Jq (val:=Zdt bw bx gH fs.length cH f gh c.length ch at_ bF oF cF ca bk most hv ga v8) (Jj hJ (Yxx l hun (no27 28 (by simp)) (no27 29 (by simp)) (no27 30 (by simp)))) (by decide) (by decide) (Xp _ (by decide))
         · have e78:a1.tmps.getD 78 undef = .int .i64 (hv - ga):=(Zm hJ hi 23 (by kernel_rfl))
           have e82:a1.tmps.getD 82 undef = .int .i64 v9:=(Zm hJ hi 27 (by kernel_rfl))
           have l27:l.getD 27 false=true:=Zf hi 27 (by kernel_rfl)
           obtain ⟨-,hk9,hb9,-⟩:=hW.h1 l27
           have hv9:=hb9 ca hca2 v9 hk9
           have hw2:IntKind.i64.wrap (hv - ga+v9)=hv - ga+v9:=IntWalk.i64_in _ (by omega)
           exact Zj (Zp hW hJ rfl (by rfl) rfl (by decide) (by decide) (Xp _ (by decide)) (w':=w') (by simp [execOp,Act.eval,e78,e82,hw2,go_sem,Zdt]) (Zx hW (by decide) (by decide) (d28 l27))) (fun a9 w9 h9=>⟨v9,kn9,h9⟩)
         · have e55:a1.tmps.getD 55 undef = .int .i64 most:=(Zm hJ hi 0 (by kernel_rfl))
           have e83:a1.tmps.getD 83 undef = .int .i64 (hv - ga+v9):=(Zm hJ hi 28 (by kernel_rfl))
           have l28:l.getD 28 false=true:=Zf hi 28 (by kernel_rfl)
           exact Zj (Zp hW hJ rfl (by rfl) rfl (by decide) (by decide) (Xp _ (by decide)) (w':=w') (by simp [execOp,resolve,invoke,builtin,Act.eval,e55,e83,go_sem,Zdt]) (Zx hW (by decide) (by decide) (d29 (hW.x (28,27) (by decide) l28)))) (fun a9 w9 h9=>⟨v9,kn9,h9⟩)
         · have e84:a1.tmps.getD 84 undef = .int .i64 (max most (hv - ga+v9)):=(Zm hJ hi 29 (by kernel_rfl))
           have l0:l.getD 0 false=true:=Zf hi 0 (by kernel_rfl)
           have l29:l.getD 29 false=true:=Zf hi 29 (by kernel_rfl)
           exact Zj (Zp hW hJ rfl (by rfl) rfl (by decide) (by decide) (Xp _ (by decide)) (w':=w') (by simp [execOp,Act.eval,e84,go_sem,Zdt]) (Zx hW (by decide) (by decide) (d30 l0 (hW.x (29,27) (by decide) l29)))) (fun a9 w9 h9=>⟨v9,kn9,h9⟩)
        intro l a1 w9 hJJ hl
        obtain ⟨v9,kn9,hJ,hW⟩:=hJJ
        obtain ⟨k9,k9f,kb9,km9⟩:=hW.h1 (hl 27 (by decide))
        have hput:=Jf hJ rfl hl (fun i j h1 h2 h3=>Xp j h2 i h1 h3)
        subst hput
        have X9:=Zya HXD.out SS.out.lx hW.g k9
        have g9:w.grownBy w9 (some bk):=Za HGK.out (Za (Zd (Zc wo _)) hW.g)
        have hv9:=kb9 ca hca2 v9 k9f
        have hcr:=HCR.out
        have hmx:0<=max most (hv - ga+v9)/\max most (hv - ga+v9)<=256+1000*(rk fin f:Int):=by omega
        have hkm9:KnM fin fs.length kn kn9 (rk fin f):=⟨fun x u h=>km9.1 x u (HKM.out.1 x u h),fun x hx h=>by
         rcases km9.2 x hx h with h1|h1
         · exact HKM.out.2 x hx h1
         · exact Or.inr (by omega)⟩
        have HX9:=Hq X9
        have HG9:=Hq g9
        have HB9:=Hq kb9
        have HM9:=Hq hkm9
        have HMX:=Hq hmx
        clear hJ hW hl k9 k9f kb9 km9 X9 g9 hmx hkm9 HXD HKM HGK HHW CA
        refine hK _ _ ?_
        simp only [Zai,cq9,Zdt,Act.put,List.setIfInBounds_toArray,List.set_cons_zero,List.set_cons_succ]
        clear hK K
        go_wp2
        refine ⟨⟨k+1,max most (hv - ga+v9),kn9,rfl,by go_num,by omega,HG9.out,HX9.out,HB9.out,HM9.out,HMX.out.1,HMX.out.2⟩,by simp [intOf];omega⟩
      · have hkn:k=(cl f).length:=by omega
        have hkf:knk f=none:=by
         cases h:knk f with
         | none=>rfl
         | some v =>
           rcases hkm.2 f hf (by rw [h];simp) with h1|h1
           · exact absurd HKN.out h1
           · omega
        obtain ⟨-,-,hlo0,hlo1⟩:=SS2.out.ar f ar lo r c HFN.out
        have kb:=Zb SS.out.bwc hW.g (by intro e;injection e with e;exact SS.out.ne1 e.symm)
        have k2:=Cq _ _ 2 _ _ _ kb
        have s1:=(Gs kb)
        have hFr:=Zs SS.out.hF hW.g (fun r e=>by injection e with e;rw [<- e];exact SS.out.bx_)
        obtain ⟨bF,oF,hpF,hbF,hcF⟩:=hFr (by omega)
        obtain ⟨-,e1,-,-⟩:=hcF f ar lo r c HFN.out
        have sF:=World.block_lt_of_cell? _ _ e1
        have hb1:0<=1+lo+most/\1+lo+most<=1000*((rk fin f:Int)+1):=by omega
        obtain ⟨w9,hput,hk9,hg9⟩:=Ygn (v:=1+lo+most) hW.kw hf hkf (by omega)
        have hat9:=Yoq hk9 hf (v:=1+lo+most) (by simp [Zhv])
        have HK9:=Hq hk9
        have HG9:=Hq hg9
        have HKB:=Hq hkb
        have HKM:=Hq hkm
        have HGK:=Hq hgk
        have HB1:=Hq hb1
        clear hW hkb hkm hgk hk9 hg9 hkf hFr hcF kb hb1
        go_wp2
        go_ret
        refine ⟨1+lo+most,Zhv knk f (1+lo+most),rfl,Za HGK.out HG9.out,HK9.out,by simp [Zhv],fun x hx u hu => ?_,fun x u hu => ?_,fun x hx hne => ?_⟩
        · by_cases e:x=f
          · subst e
            have:u=1+lo+most:=by simpa [Zhv] using hu.symm
            rw [this];exact HB1.out
          · exact HKB.out x hx u (by simpa [Zhv,e] using hu)
        · by_cases e:x=f
          · subst e;rw [HKN.out] at hu;cases hu
          · have:=HKM.out.1 x u hu
            simpa [Zhv,e] using this
        · by_cases e:x=f
          · subst e;right;omega
          · rcases HKM.out.2 x hx (by simpa [Zhv,e] using hne) with h|h
            · exact Or.inl h
            · exact Or.inr (by omega)
def Zkl (len:Nat) (op a pl:Int):List Int:=(Xm op a pl).filter fun n=>decide (0<=n) && decide (n<len)
theorem Zxg {L:List Int} {q:Int->Bool} {k:Nat} {n:Int} (h:L[k]? = some n):(L.take (k+1)).filter q=if q n=true then (L.take k).filter q++[n] else (L.take k).filter q:=by
 obtain ⟨hk,e⟩:=List.getElem?_eq_some_iff.1 h
 rw [List.take_succ_eq_append_getElem hk,List.filter_append,e]
 by_cases hq:q n=true
 · rw [if_pos hq];simp [hq]
 · rw [if_neg hq];simp [hq]
theorem Zyu (mem:Int) (vd:Value) (fs:List FnP) (pF:Option Addr) (cF B f at_:Nat) (fn:FnP) (op a:Int) (w:World) (hvd:∃ p n c,vd = .slice p n c) (hB:B<=w.heap.size) (hF:Yk w B pF fs) (hS:Znk fs f at_ fn op a) :
 Calls Try.prog 41 #[.agg #[.int .i64 mem,vd,.slice pF fs.length cF],.agg #[.int .i64 f,.int .i64 at_]] w (Zfd w (Zkl fn.2.2.2.length op a at_)):=by
 obtain ⟨pd,nd,cd,rfl⟩:=hvd
 have g2:=Za (Ga w (.cells #[.int .i64 mem,.slice pd nd cd,.slice pF fs.length cF] 25) none) (Ga _ (.cells #[.int .i64 f,.int .i64 at_] 37) none)
 have I:=Hq (Zud mem (.slice pd nd cd) fs pF cF B f at_ fn op a _ ⟨_,_,_,rfl⟩ (Nat.le_trans hB g2.size) (Zs hF g2 (by simp)) hS)
 obtain ⟨ar,lo,r,c⟩:=fn
 have hf1:=(List.getElem?_eq_some_iff.1 hS.isf).1
 have ha1:=(List.getElem?_eq_some_iff.1 hS.ins).1
 have hnf:=hS.nf
 have hnc:=hS.nc
 simp only [] at ha1 hnc
 obtain ⟨b,o,rfl,hb,hc⟩:=hF (by omega)
 obtain ⟨-,-,-,pc,cc,c3,-⟩:=hc f ar lo r c hS.isf
 have hb2:b<w.heap.size:=by omega
 have q1:(f:Int)<(fs.length:Int):=by omega
 have hci:(c.length:Int)<=4096:=by omega
 have GO:=Hq (fun (W:World)=>Zrk op a at_ W (by omega) (by omega))
 obtain ⟨ii,ii0,ii1,ii2,ii3⟩:=info_parts Zat
 have hb0:=Yt w (.cells #[.int .i64 mem,.slice pd nd cd,.slice (some ⟨b,o,none⟩) fs.length cF] 25) (.cells #[.int .i64 f,.int .i64 at_] 37)
 have hb1:=Yi w (.cells #[.int .i64 mem,.slice pd nd cd,.slice (some ⟨b,o,none⟩) fs.length cF] 25) (.cells #[.int .i64 f,.int .i64 at_] 37)
 have HB0:=Hq hb0
 have HB1:=Hq hb1
 have G2:=Hq g2
 have hLi:((Xm op a at_).length:Int)<=2:=by have:=Zgf op a at_;omega
 simp only []
 unfold Zkl
 clear hc hS hF hb0 hb1 g2
 generalize Xm op a at_=L at *
 go_enter Try.func41,Try.ntmps41
 go_wp2_with (first
  | (go_at_call 64;refine I.out.mono ?_;rintro e w3 ⟨rfl,hg3⟩;have k0:=Zb HB0.out hg3 (by simp);have k1:=Zb HB1.out hg3 (by simp);have K0:=Hq k0;have K1:=Hq k1;have G3:=Hq (Za G2.out hg3);have y1:=Cq _ _ 1 _ _ _ k1;have s1:=(Gs k1);clear k0 k1 hg3)
  | (go_at_call 39;refine (GO.out _).mono ?_;rintro e w4 ⟨v4,rfl,hg4,ho4⟩;obtain ⟨p4,k4,hv4⟩:=Zq ho4;subst hv4;have hgA:=Za (Ga w3 (.cells #[.int .i64 op,.int .i64 a] 49) none) hg4;have HG0:=Hq (Zb K0.out hgA (by simp));have HG1:=Hq (Zb K1.out hgA (by simp));have G4:=Hq (Za G3.out hgA);have O4:=Hq ho4;clear y1 s1 hg4 ho4 hgA))
 replace c3:=G4.out.cell c3 (by simp)
 have hb4:b<w4.heap.size:=by have:=G4.out.size;omega
 clear K0 K1 G3 G2 HB0 HB1 I GO
 go_loopw [7,23] (fun v i wr=>∃ k:Nat,i = .int .i64 k/\k<=L.length/\wr.ownsRow w4.heap.size 3 1 v ((L.take k).filter fun n=>decide (0<=n) && decide (n<(c.length:Int))).length (((L.take k).filter fun n=>decide (0<=n) && decide (n<(c.length:Int))).map (Value.int .i64))/\w4.grownBy wr none) (fun _ i _=>L.length - (intOf i).toNat)
 case atStart=>exact ⟨0,rfl,Nat.zero_le _,World.ownsRow_nil _ _ _ _,Zc _ _⟩
 case round =>
  obtain ⟨k,rfl,hk,hown,hg⟩:=hrel
  obtain ⟨pv,cv,hv⟩:=Zq hown
  subst hv
  have OV:=Hq hown
  have GV:=Hq hg
  by_cases hlt:(k:Int)<(L.length:Int)
  · obtain ⟨n,hn⟩:∃ n,L[k]? = some n:=⟨_,List.getElem?_eq_getElem (by omega)⟩
    obtain ⟨gL,kL,eL,lL,cL⟩:=Yb (O4.out.kept hg (Classical.em _)) (by omega)
    injection eL with eL1 eL2 eL3
    subst eL1
    have cn:=cL k (.int .i64 n) (by rw [List.getElem?_map,hn];rfl) (by omega)
    have k0:=Zb HG0.out hg (by simp)
    have k1:=Zb HG1.out hg (by simp)
    have x2:=Cq _ _ 2 _ _ _ k0
    have y0:=Cq _ _ 0 _ _ _ k1
    have s0:=(Gs k0)
    have s1:=(Gs k1)
    have e3:=hg.cell c3 (by simp)
    have hb5:b<wr.heap.size:=by have:=hg.size;omega
    have HFT:=Hq (Zxg (q:=fun n=>decide (0<=n) && decide (n<(c.length:Int))) hn)
    have hml:(((L.take k).filter fun n=>decide (0<=n) && decide (n<(c.length:Int))).length:Int)<=2:=by
     have h1:=List.length_filter_le (fun n=>decide (0<=n) && decide (n<(c.length:Int))) (L.take k)
     have h2:=List.length_take_le k L
     omega
    clear cL hown hg k0 k1 hn
    generalize (L.take k).filter (fun n=>decide (0<=n) && decide (n<(c.length:Int)))=M at *
    have hc3:M.length+1<=maxLen:=by unfold maxLen;omega
    have hc4:(M.length+1)*8<=140737488355328:=by omega
    by_cases h0:0<=n
    · by_cases h1:n<(c.length:Int)
      · have hq:=HFT.out
        rw [if_pos (by simp [h0,h1])] at hq
        have HQ:=Hq hq
        have hE:w4.heap.size<=(wr.alloc (.cells #[.int .i64 n] 3)).heap.size:=by have:=GV.out.size;simp;omega
        clear hq HFT
        go_wp2_with (at_builtin;refine wpList_append_own_at _ rfl _ _ 32 rfl w4.heap.size 3 ii (.int .i64 0) 1 8 Zbw ii0 ii1 ii2 ii3 rfl (by decide) (.slice pv M.length cv) _ _ rfl (OV.out.alloc _) ⟨wr.heap.size,0,none⟩ 1 1 [.int .i64 n] rfl rfl (Zfz wr _ _) (Zcb _ _) hc3 hc4 hE ?_;intro v3 w5 hown3 hgr3 hnil3 hat3;obtain ⟨p3,k3,hv3⟩:=Zq hown3;subst hv3;have OW3:=Hq hown3;have GR3:=Hq hgr3;clear hown3 hgr3 hnil3 hat3)
        refine ⟨⟨_,_,_,⟨k+1,rfl,by omega,?_,Yu (Za GV.out (Ga _ _ none)) GR3.out fun q hq=>(OV.out.lt q hq).1⟩,rfl,rfl,by go_num⟩,by simp [intOf];omega⟩
        rw [HQ.out,List.length_append,List.map_append]
        exact OW3.out
      · have hq:=HFT.out
        rw [if_neg (by simp;omega)] at hq
        have HQ:=Hq hq
        clear hq HFT
        go_wp2
        refine ⟨⟨k+1,by go_num,by omega,?_,GV.out⟩,by simp [intOf];omega⟩
        rw [HQ.out]
        exact OV.out
    · have hq:=HFT.out
      rw [if_neg (by simp;omega)] at hq
      have HQ:=Hq hq
      clear hq HFT
      go_wp2
      refine ⟨⟨k+1,by go_num,by omega,?_,GV.out⟩,by simp [intOf];omega⟩
      rw [HQ.out]
      exact OV.out
  · have hkn:L.take k=L:=List.take_of_length_le (by omega)
    rw [hkn] at hown ⊢
    have OF:=Hq hown
    clear hown hg OV hkn
    go_wp2
    go_ret
    have:=GV.out.size
    have:=G4.out.size
    exact ⟨_,rfl,Za G4.out GV.out,Ye (base:=w4.heap.size) OF.out (by omega)⟩
theorem Zl {l:List Nat} (h:l.Nodup) (i j:Nat) {x y:Nat} (hi:l[i]? = some x) (hj:l[j]? = some y) (hij:i≠j):x≠y:=by
 obtain ⟨a1,a2⟩:=List.getElem?_eq_some_iff.1 hi
 obtain ⟨b1,b2⟩:=List.getElem?_eq_some_iff.1 hj
 have hp:=List.pairwise_iff_getElem.1 h
 rcases Nat.lt_or_gt_of_ne hij with c|c
 · have:=hp i j a1 b1 c;rw [a2,b2] at this;exact this
 · have:=hp j i b1 a1 c;rw [a2,b2] at this;exact fun e=>this e.symm
structure LA where
 p:Nat
 f:Nat
 h:Nat
 n:Nat
 b:Nat
 o:Nat
 r:Nat
 w:Nat
 m:Nat
 gn:Nat
 gb:Nat
 go:Nat
 gi:Nat
def LA.all (A:LA):List Nat:=[A.p,A.f,A.h,A.n,A.b,A.o,A.r,A.w,A.m,A.gn,A.gb,A.go,A.gi]
structure LC where
 mem:Int
 vd:Value
 vF:Value
 f:Nat
 vh:Value
 n:Nat
structure LS where
 num:List Nat
 back:List Nat
 on:List Bool
 inn:List Bool
 row:List Nat
 way:List (Int × Int)
 met:Nat
def Zeq (l:List Nat):List Value:=l.map fun (x:Nat)=>Value.int .i64 (x:Int)
def Bx (w:World) (b:Nat) (t:TypeId) (v:Value):Prop:=w.heap[b]? = some (.cells #[v] t (0,0))
theorem Zt {w:World} {b:Nat} {t:TypeId} {v:Value} (h:Bx w b t v):w.cell? ⟨b,0,none⟩=some v:=Cq _ _ 0 _ _ _ h
theorem Zdi {w:World} {b:Nat} {t:TypeId} {v:Value} (h:Bx w b t v):w.frozen? ⟨b,0,none⟩=false:=frozen_of_row _ _ 0 _ _ h
theorem Zvc {w:World} {b:Nat} {t:TypeId} {v u:Value} (h:Bx w b t v):Bx (w.setCell ⟨b,0,none⟩ u) b t u:=by
 unfold Bx;rw [Zi h];rfl
theorem Znv {P:Nat->Prop} {w w':World} {b:Nat} {t:TypeId} {v:Value} (h:Bx w b t v) (g:Sp P w w') (hp:¬ P b):Bx w' b t v:=by
 unfold Bx;rw [g.block b (Gs h) hp];exact h
structure LpW (w0:World) (R:Nat) (A:LA) (C:LC) (vr vw:Value) (s:LS) (wr:World):Prop where
 gr:w0.grownBy wr none
 nd:A.all.Nodup
 lo:∀ a∈A.all,w0.heap.size<=a
 hi:∀ a∈A.all,a<R
 rs:R<=wr.heap.size
 bp:Ycv wr A.p C.mem C.vd C.vF
 bf:Bx wr A.f 3 (.int .i64 C.f)
 bh:Bx wr A.h 32 C.vh
 bn:Bx wr A.n 32 (.slice (some ⟨A.gn,0,none⟩) C.n C.n)
 bb:Bx wr A.b 32 (.slice (some ⟨A.gb,0,none⟩) C.n C.n)
 bo:Bx wr A.o 33 (.slice (some ⟨A.go,0,none⟩) C.n C.n)
 br:Bx wr A.r 32 vr
 bw:Bx wr A.w 88 vw
 bm:Bx wr A.m 3 (.int .i64 (s.met:Int))
 rn:wr.ownsRow w0.heap.size 3 1 (.slice (some ⟨A.gn,0,none⟩) C.n C.n) C.n (Zeq s.num)
 rb:wr.ownsRow w0.heap.size 3 1 (.slice (some ⟨A.gb,0,none⟩) C.n C.n) C.n (Zeq s.back)
 ro:wr.ownsRow w0.heap.size 4 1 (.slice (some ⟨A.go,0,none⟩) C.n C.n) C.n (s.on.map Value.bool)
 ri:wr.ownsRow w0.heap.size 4 1 (.slice (some ⟨A.gi,0,none⟩) C.n C.n) C.n (s.inn.map Value.bool)
 rr:wr.ownsRow R 3 1 vr s.row.length (Zeq s.row)
 rw_:wr.ownsRow R 90 2 vw s.way.length (Zw s.way)
section
variable {w0 wr wr':World} {R:Nat} {A:LA} {C:LC} {vr vw:Value} {s:LS}
structure LpF (P:Nat->Prop) (w0:World) (R:Nat) (A:LA) (C:LC) (vr vw:Value) (s:LS) (wr:World):Prop where
 gr:w0.grownBy wr none
 rs:R<=wr.heap.size
 bp:¬ P A.p->Ycv wr A.p C.mem C.vd C.vF
 bf:¬ P A.f->Bx wr A.f 3 (.int .i64 C.f)
 bh:¬ P A.h->Bx wr A.h 32 C.vh
 bn:¬ P A.n->Bx wr A.n 32 (.slice (some ⟨A.gn,0,none⟩) C.n C.n)
 bb:¬ P A.b->Bx wr A.b 32 (.slice (some ⟨A.gb,0,none⟩) C.n C.n)
 bo:¬ P A.o->Bx wr A.o 33 (.slice (some ⟨A.go,0,none⟩) C.n C.n)
 br:¬ P A.r->Bx wr A.r 32 vr
 bw:¬ P A.w->Bx wr A.w 88 vw
 bm:¬ P A.m->Bx wr A.m 3 (.int .i64 (s.met:Int))
 rn:¬ P A.gn->wr.ownsRow w0.heap.size 3 1 (.slice (some ⟨A.gn,0,none⟩) C.n C.n) C.n (Zeq s.num)
 rb:¬ P A.gb->wr.ownsRow w0.heap.size 3 1 (.slice (some ⟨A.gb,0,none⟩) C.n C.n) C.n (Zeq s.back)
 ro:¬ P A.go->wr.ownsRow w0.heap.size 4 1 (.slice (some ⟨A.go,0,none⟩) C.n C.n) C.n (s.on.map Value.bool)
 ri:¬ P A.gi->wr.ownsRow w0.heap.size 4 1 (.slice (some ⟨A.gi,0,none⟩) C.n C.n) C.n (s.inn.map Value.bool)
 rr:(∀ k,vr.ownBlock=some k->¬ P k)->wr.ownsRow R 3 1 vr s.row.length (Zeq s.row)
 rw_:(∀ k,vw.ownBlock=some k->¬ P k)->wr.ownsRow R 90 2 vw s.way.length (Zw s.way)
theorem Zqn {a k:Nat} {P:Nat->Prop} {n c:Nat} (h:¬ P a) (e:(Value.slice (some ⟨a,0,none⟩) n c).ownBlock=some k):¬ P k:=by
 simp only [Value.ownBlock] at e;injection e with e;subst e;exact h
theorem Zmm {P:Nat->Prop} (H:LpW w0 R A C vr vw s wr) (g:Sp P wr wr') (hp:∀ k,k<w0.heap.size->¬ P k):LpF P w0 R A C vr vw s wr' :=
 ⟨Zlu (Xc (Yl (P:=fun _=>False) H.gr (fun _ _ e=>by cases e)) (Yea g fun _ _ h=>h) (fun k hk h=>hp k hk h)) (fun _ _ h=>h),
  Nat.le_trans H.rs g.size,fun h=>by unfold Ycv;rw [g.block _ (Gs H.bp) h];exact H.bp,Znv H.bf g,Znv H.bh g,Znv H.bn g,Znv H.bb g,Znv H.bo g,Znv H.br g,Znv H.bw g,Znv H.bm g,
  fun h=>Zfy H.rn g (fun _=>Zqn h),fun h=>Zfy H.rb g (fun _=>Zqn h),fun h=>Zfy H.ro g (fun _=>Zqn h),fun h=>Zfy H.ri g (fun _=>Zqn h),fun h=>Zfy H.rr g h,fun h=>Zfy H.rw_ g h⟩
theorem Jo (H:LpW w0 R A C vr vw s wr) {k:Nat} (h:vr.ownBlock=some k):R<=k/\k<wr.heap.size:=H.rr.lt k h
theorem Yr (H:LpW w0 R A C vr vw s wr) {k:Nat} (h:vw.ownBlock=some k):R<=k/\k<wr.heap.size:=H.rw_.lt k h
theorem Zfg (w:World) (b o:Nat) (v:Value):Sp (fun k=>k=b) w (w.setCell ⟨b,o,none⟩ v):=Yl (Zg w b o v) (fun k _ e=>by injection e with e;exact e.symm)
theorem Zyv (l:List Nat) (i v:Nat):(Zeq l).set i (.int .i64 (v:Int))=Zeq (l.set i v):=by unfold Zeq;rw [List.map_set]
theorem Zhn (l m:List Nat):Zeq (l++m)=Zeq l++Zeq m:=by unfold Zeq;rw [List.map_append]
theorem Yfj (l:List Nat) (k:Nat):(Zeq l).take k=Zeq (l.take k):=by unfold Zeq;rw [List.map_take]
theorem Zuj:∀ (l:List (Int × Int)) (k:Nat) (a d0 d:Int),l[k]? = some (a,d0)->(Zw l).set (k*2+1) (.int .i64 d)=Zw (l.set k (a,d))
 | [],k,a,d0,d,h=>by simp at h
 | x::r,0,a,d0,d,h=>by simp at h;subst h;simp [Zw]
 | x::r,k+1,a,d0,d,h=>by
   have ih:=Zuj r k a d0 d (by simpa using h)
   have e:(k+1)*2+1=(k*2+1)+1+1:=by omega
   rw [e]
   simp only [Zw,List.set_cons_succ]
   rw [ih]
theorem Zjs (l:List (Int × Int)) (k:Nat):(Zw l).take (k*2)=Zw (l.take k):=by
 induction l generalizing k with
 | nil=>simp [Zw]
 | cons x r ih =>
   cases k with
   | zero=>simp [Zw]
   | succ k=>have e:(k+1)*2=k*2+1+1:=by omega
             rw [e];simp [Zw,ih]
theorem Ywl (H:LpW w0 R A C vr vw s wr) (m:Nat) (v:Nat) :
 LpW w0 R A C vr vw { s with num:=(s.num.set m v) } (wr.setCell ⟨A.gn,m,none⟩ (.int .i64 (v:Int))):=by
 have F:=Zmm H (Zfg wr A.gn m (.int .i64 (v:Int))) (fun k hk e=>by have:=H.lo A.gn (by simp [LA.all]);omega)
 exact ⟨F.gr,H.nd,H.lo,H.hi,F.rs,F.bp (fun e=>Zl H.nd 0 9 rfl rfl (by decide) e),F.bf (fun e=>Zl H.nd 1 9 rfl rfl (by decide) e),F.bh (fun e=>Zl H.nd 2 9 rfl rfl (by decide) e),F.bn (fun e=>Zl H.nd 3 9 rfl rfl (by decide) e),F.bb (fun e=>Zl H.nd 4 9 rfl rfl (by decide) e),F.bo (fun e=>Zl H.nd 5 9 rfl rfl (by decide) e),F.br (fun e=>Zl H.nd 6 9 rfl rfl (by decide) e),F.bw (fun e=>Zl H.nd 7 9 rfl rfl (by decide) e),F.bm (fun e=>Zl H.nd 8 9 rfl rfl (by decide) e),(by rw [<- Zyv];exact (H.rn.stored m (.int .i64 (v:Int))).1),F.rb (fun e=>Zl H.nd 10 9 rfl rfl (by decide) e),F.ro (fun e=>Zl H.nd 11 9 rfl rfl (by decide) e),F.ri (fun e=>Zl H.nd 12 9 rfl rfl (by decide) e),F.rr (fun k hk e=>by have h1:=Jo H hk;have h2:=H.hi A.gn (by simp [LA.all]);omega),F.rw_ (fun k hk e=>by have h1:=Yr H hk;have h2:=H.hi A.gn (by simp [LA.all]);omega)⟩
theorem Zmn (H:LpW w0 R A C vr vw s wr) (m:Nat) (v:Nat) :
 LpW w0 R A C vr vw { s with back:=(s.back.set m v) } (wr.setCell ⟨A.gb,m,none⟩ (.int .i64 (v:Int))):=by
 have F:=Zmm H (Zfg wr A.gb m (.int .i64 (v:Int))) (fun k hk e=>by have:=H.lo A.gb (by simp [LA.all]);omega)
 exact ⟨F.gr,H.nd,H.lo,H.hi,F.rs,F.bp (fun e=>Zl H.nd 0 10 rfl rfl (by decide) e),F.bf (fun e=>Zl H.nd 1 10 rfl rfl (by decide) e),F.bh (fun e=>Zl H.nd 2 10 rfl rfl (by decide) e),F.bn (fun e=>Zl H.nd 3 10 rfl rfl (by decide) e),F.bb (fun e=>Zl H.nd 4 10 rfl rfl (by decide) e),F.bo (fun e=>Zl H.nd 5 10 rfl rfl (by decide) e),F.br (fun e=>Zl H.nd 6 10 rfl rfl (by decide) e),F.bw (fun e=>Zl H.nd 7 10 rfl rfl (by decide) e),F.bm (fun e=>Zl H.nd 8 10 rfl rfl (by decide) e),F.rn (fun e=>Zl H.nd 9 10 rfl rfl (by decide) e),(by rw [<- Zyv];exact (H.rb.stored m (.int .i64 (v:Int))).1),F.ro (fun e=>Zl H.nd 11 10 rfl rfl (by decide) e),F.ri (fun e=>Zl H.nd 12 10 rfl rfl (by decide) e),F.rr (fun k hk e=>by have h1:=Jo H hk;have h2:=H.hi A.gb (by simp [LA.all]);omega),F.rw_ (fun k hk e=>by have h1:=Yr H hk;have h2:=H.hi A.gb (by simp [LA.all]);omega)⟩
theorem Ywk (H:LpW w0 R A C vr vw s wr) (m:Nat) (v:Bool) :
 LpW w0 R A C vr vw { s with on:=(s.on.set m v) } (wr.setCell ⟨A.go,m,none⟩ (.bool v)):=by
 have F:=Zmm H (Zfg wr A.go m (.bool v)) (fun k hk e=>by have:=H.lo A.go (by simp [LA.all]);omega)
 exact ⟨F.gr,H.nd,H.lo,H.hi,F.rs,F.bp (fun e=>Zl H.nd 0 11 rfl rfl (by decide) e),F.bf (fun e=>Zl H.nd 1 11 rfl rfl (by decide) e),F.bh (fun e=>Zl H.nd 2 11 rfl rfl (by decide) e),F.bn (fun e=>Zl H.nd 3 11 rfl rfl (by decide) e),F.bb (fun e=>Zl H.nd 4 11 rfl rfl (by decide) e),F.bo (fun e=>Zl H.nd 5 11 rfl rfl (by decide) e),F.br (fun e=>Zl H.nd 6 11 rfl rfl (by decide) e),F.bw (fun e=>Zl H.nd 7 11 rfl rfl (by decide) e),F.bm (fun e=>Zl H.nd 8 11 rfl rfl (by decide) e),F.rn (fun e=>Zl H.nd 9 11 rfl rfl (by decide) e),F.rb (fun e=>Zl H.nd 10 11 rfl rfl (by decide) e),(by rw [List.map_set];exact (H.ro.stored m (.bool v)).1),F.ri (fun e=>Zl H.nd 12 11 rfl rfl (by decide) e),F.rr (fun k hk e=>by have h1:=Jo H hk;have h2:=H.hi A.go (by simp [LA.all]);omega),F.rw_ (fun k hk e=>by have h1:=Yr H hk;have h2:=H.hi A.go (by simp [LA.all]);omega)⟩
theorem Yon (H:LpW w0 R A C vr vw s wr) (m:Nat) (v:Bool) :
 LpW w0 R A C vr vw { s with inn:=(s.inn.set m v) } (wr.setCell ⟨A.gi,m,none⟩ (.bool v)):=by
 have F:=Zmm H (Zfg wr A.gi m (.bool v)) (fun k hk e=>by have:=H.lo A.gi (by simp [LA.all]);omega)
 exact ⟨F.gr,H.nd,H.lo,H.hi,F.rs,F.bp (fun e=>Zl H.nd 0 12 rfl rfl (by decide) e),F.bf (fun e=>Zl H.nd 1 12 rfl rfl (by decide) e),F.bh (fun e=>Zl H.nd 2 12 rfl rfl (by decide) e),F.bn (fun e=>Zl H.nd 3 12 rfl rfl (by decide) e),F.bb (fun e=>Zl H.nd 4 12 rfl rfl (by decide) e),F.bo (fun e=>Zl H.nd 5 12 rfl rfl (by decide) e),F.br (fun e=>Zl H.nd 6 12 rfl rfl (by decide) e),F.bw (fun e=>Zl H.nd 7 12 rfl rfl (by decide) e),F.bm (fun e=>Zl H.nd 8 12 rfl rfl (by decide) e),F.rn (fun e=>Zl H.nd 9 12 rfl rfl (by decide) e),F.rb (fun e=>Zl H.nd 10 12 rfl rfl (by decide) e),F.ro (fun e=>Zl H.nd 11 12 rfl rfl (by decide) e),(by rw [List.map_set];exact (H.ri.stored m (.bool v)).1),F.rr (fun k hk e=>by have h1:=Jo H hk;have h2:=H.hi A.gi (by simp [LA.all]);omega),F.rw_ (fun k hk e=>by have h1:=Yr H hk;have h2:=H.hi A.gi (by simp [LA.all]);omega)⟩
theorem Ywn (H:LpW w0 R A C vr vw s wr) (v:Nat) :
 LpW w0 R A C vr vw { s with met:=v } (wr.setCell ⟨A.m,0,none⟩ (.int .i64 (v:Int))):=by
 have F:=Zmm H (Zfg wr A.m 0 (.int .i64 (v:Int))) (fun k hk e=>by have:=H.lo A.m (by simp [LA.all]);omega)
 exact ⟨F.gr,H.nd,H.lo,H.hi,F.rs,F.bp (fun e=>Zl H.nd 0 8 rfl rfl (by decide) e),F.bf (fun e=>Zl H.nd 1 8 rfl rfl (by decide) e),F.bh (fun e=>Zl H.nd 2 8 rfl rfl (by decide) e),F.bn (fun e=>Zl H.nd 3 8 rfl rfl (by decide) e),F.bb (fun e=>Zl H.nd 4 8 rfl rfl (by decide) e),F.bo (fun e=>Zl H.nd 5 8 rfl rfl (by decide) e),F.br (fun e=>Zl H.nd 6 8 rfl rfl (by decide) e),F.bw (fun e=>Zl H.nd 7 8 rfl rfl (by decide) e),Zvc H.bm,F.rn (fun e=>Zl H.nd 9 8 rfl rfl (by decide) e),F.rb (fun e=>Zl H.nd 10 8 rfl rfl (by decide) e),F.ro (fun e=>Zl H.nd 11 8 rfl rfl (by decide) e),F.ri (fun e=>Zl H.nd 12 8 rfl rfl (by decide) e),F.rr (fun k hk e=>by have h1:=Jo H hk;have h2:=H.hi A.m (by simp [LA.all]);omega),F.rw_ (fun k hk e=>by have h1:=Yr H hk;have h2:=H.hi A.m (by simp [LA.all]);omega)⟩
theorem Yrj (H:LpW w0 R A C vr vw s wr) {g c k:Nat} (hv:vr = .slice (some ⟨g,0,none⟩) s.row.length c) (hk:k<=s.row.length) :
 LpW w0 R A C (.slice (some ⟨g,0,none⟩) k c) vw { s with row:=s.row.take k } (wr.setCell ⟨A.r,0,none⟩ (.slice (some ⟨g,0,none⟩) k c)):=by
 subst hv
 have F:=Zmm H (Zfg wr A.r 0 (.slice (some ⟨g,0,none⟩) k c)) (fun k hk e=>by have:=H.lo A.r (by simp [LA.all]);omega)
 exact ⟨F.gr,H.nd,H.lo,H.hi,F.rs,F.bp (fun e=>Zl H.nd 0 6 rfl rfl (by decide) e),F.bf (fun e=>Zl H.nd 1 6 rfl rfl (by decide) e),F.bh (fun e=>Zl H.nd 2 6 rfl rfl (by decide) e),F.bn (fun e=>Zl H.nd 3 6 rfl rfl (by decide) e),F.bb (fun e=>Zl H.nd 4 6 rfl rfl (by decide) e),F.bo (fun e=>Zl H.nd 5 6 rfl rfl (by decide) e),Zvc H.br,F.bw (fun e=>Zl H.nd 7 6 rfl rfl (by decide) e),F.bm (fun e=>Zl H.nd 8 6 rfl rfl (by decide) e),F.rn (fun e=>Zl H.nd 9 6 rfl rfl (by decide) e),F.rb (fun e=>Zl H.nd 10 6 rfl rfl (by decide) e),F.ro (fun e=>Zl H.nd 11 6 rfl rfl (by decide) e),F.ri (fun e=>Zl H.nd 12 6 rfl rfl (by decide) e),(by simp only [List.length_take,Nat.min_eq_left hk];rw [<- Yfj];have:=Zme (F.rr (fun k hk e=>by have h1:=Jo H hk;have h2:=H.hi A.r (by simp [LA.all]);omega)) hk;rwa [Nat.mul_one] at this),F.rw_ (fun k hk e=>by have h1:=Yr H hk;have h2:=H.hi A.r (by simp [LA.all]);omega)⟩
theorem Zwq (H:LpW w0 R A C vr vw s wr) {g c k:Nat} (hv:vw = .slice (some ⟨g,0,none⟩) s.way.length c) (hk:k<=s.way.length) :
 LpW w0 R A C vr (.slice (some ⟨g,0,none⟩) k c) { s with way:=s.way.take k } (wr.setCell ⟨A.w,0,none⟩ (.slice (some ⟨g,0,none⟩) k c)):=by
 subst hv
 have F:=Zmm H (Zfg wr A.w 0 (.slice (some ⟨g,0,none⟩) k c)) (fun k hk e=>by have:=H.lo A.w (by simp [LA.all]);omega)
 exact ⟨F.gr,H.nd,H.lo,H.hi,F.rs,F.bp (fun e=>Zl H.nd 0 7 rfl rfl (by decide) e),F.bf (fun e=>Zl H.nd 1 7 rfl rfl (by decide) e),F.bh (fun e=>Zl H.nd 2 7 rfl rfl (by decide) e),F.bn (fun e=>Zl H.nd 3 7 rfl rfl (by decide) e),F.bb (fun e=>Zl H.nd 4 7 rfl rfl (by decide) e),F.bo (fun e=>Zl H.nd 5 7 rfl rfl (by decide) e),F.br (fun e=>Zl H.nd 6 7 rfl rfl (by decide) e),Zvc H.bw,F.bm (fun e=>Zl H.nd 8 7 rfl rfl (by decide) e),F.rn (fun e=>Zl H.nd 9 7 rfl rfl (by decide) e),F.rb (fun e=>Zl H.nd 10 7 rfl rfl (by decide) e),F.ro (fun e=>Zl H.nd 11 7 rfl rfl (by decide) e),F.ri (fun e=>Zl H.nd 12 7 rfl rfl (by decide) e),F.rr (fun k hk e=>by have h1:=Jo H hk;have h2:=H.hi A.w (by simp [LA.all]);omega),(by simp only [List.length_take,Nat.min_eq_left hk];rw [<- Zjs];exact Zme (F.rw_ (fun k hk e=>by have h1:=Yr H hk;have h2:=H.hi A.w (by simp [LA.all]);omega)) hk)⟩
theorem Zqw (H:LpW w0 R A C vr vw s wr) {g c k:Nat} {a d0:Int} (d:Int) (hv:vw = .slice (some ⟨g,0,none⟩) s.way.length c) (hk:s.way[k]? = some (a,d0)) :
 LpW w0 R A C vr vw { s with way:=s.way.set k (a,d) } (wr.setCell ⟨g,k*2+1,none⟩ (.int .i64 d)):=by
 subst hv
 have F:=Zmm H (Zfg wr g (k*2+1) (.int .i64 d)) (fun k hk e=>by have h1:=Yr H (k:=g) rfl;have h2:=H.lo A.p (by simp [LA.all]);have h3:=H.hi A.p (by simp [LA.all]);omega)
 exact ⟨F.gr,H.nd,H.lo,H.hi,F.rs,F.bp (fun e=>by have h1:=Yr H (k:=g) rfl;have h2:=H.hi A.p (by simp [LA.all]);omega),F.bf (fun e=>by have h1:=Yr H (k:=g) rfl;have h2:=H.hi A.f (by simp [LA.all]);omega),F.bh (fun e=>by have h1:=Yr H (k:=g) rfl;have h2:=H.hi A.h (by simp [LA.all]);omega),F.bn (fun e=>by have h1:=Yr H (k:=g) rfl;have h2:=H.hi A.n (by simp [LA.all]);omega),F.bb (fun e=>by have h1:=Yr H (k:=g) rfl;have h2:=H.hi A.b (by simp [LA.all]);omega),F.bo (fun e=>by have h1:=Yr H (k:=g) rfl;have h2:=H.hi A.o (by simp [LA.all]);omega),F.br (fun e=>by have h1:=Yr H (k:=g) rfl;have h2:=H.hi A.r (by simp [LA.all]);omega),F.bw (fun e=>by have h1:=Yr H (k:=g) rfl;have h2:=H.hi A.w (by simp [LA.all]);omega),F.bm (fun e=>by have h1:=Yr H (k:=g) rfl;have h2:=H.hi A.m (by simp [LA.all]);omega),F.rn (fun e=>by have h1:=Yr H (k:=g) rfl;have h2:=H.hi A.gn (by simp [LA.all]);omega),F.rb (fun e=>by have h1:=Yr H (k:=g) rfl;have h2:=H.hi A.gb (by simp [LA.all]);omega),F.ro (fun e=>by have h1:=Yr H (k:=g) rfl;have h2:=H.hi A.go (by simp [LA.all]);omega),F.ri (fun e=>by have h1:=Yr H (k:=g) rfl;have h2:=H.hi A.gi (by simp [LA.all]);omega),F.rr (fun k hk e=>Jg H.rw_ H.rr (by decide) (k:=g) rfl (e ▸ hk)),(by simp only [List.length_set];rw [<- Zuj _ _ _ _ _ hk];exact (H.rw_.stored (k*2+1) (.int .i64 d)).1)⟩
theorem Xl (H:LpW w0 R A C vr vw s wr) (g:wr.grownBy wr' none) :
 LpW w0 R A C vr vw s wr':=by
 have F:=Zmm H (Yl (P:=fun _=>False) g (fun _ _ e=>by cases e)) (fun _ _ e=>e)
 exact ⟨F.gr,H.nd,H.lo,H.hi,F.rs,F.bp (fun e=>e),F.bf (fun e=>e),F.bh (fun e=>e),F.bn (fun e=>e),F.bb (fun e=>e),F.bo (fun e=>e),F.br (fun e=>e),F.bw (fun e=>e),F.bm (fun e=>e),F.rn (fun e=>e),F.rb (fun e=>e),F.ro (fun e=>e),F.ri (fun e=>e),F.rr (fun k hk e=>e),F.rw_ (fun k hk e=>e)⟩
theorem Ywj (H:LpW w0 R A C vr vw s wr) {m:Nat} {w5:World} {vr':Value} (ho:w5.ownsRow R 3 1 vr' (s.row.length+1) (Zeq s.row++[.int .i64 (m:Int)])) (hg:(wr.alloc (.cells #[.int .i64 (m:Int)] 3)).grownBy w5 vr.ownBlock) :
 LpW w0 R A C vr' vw { s with row:=s.row++[m] } (w5.setCell ⟨A.r,0,none⟩ vr'):=by
 have hsp:Sp (fun k=>k=A.r\/vr.ownBlock=some k) wr (w5.setCell ⟨A.r,0,none⟩ vr'):=Xc (Xc (Yl (Ga wr _ none) (fun _ _ e=>by cases e)) (Yl (P:=fun k=>k=A.r\/vr.ownBlock=some k) hg (fun k _ e=>Or.inr e)) (fun k _ h=>h)) (Zfg w5 A.r 0 vr') (fun k _ h=>Or.inl h)
 have hbx:Bx w5 A.r 32 vr:=Znv (P:=fun k=>vr.ownBlock=some k) H.br (Xc (Yl (P:=fun k=>vr.ownBlock=some k) (Ga wr _ none) (fun _ _ e=>by cases e)) (Yl (P:=fun k=>vr.ownBlock=some k) hg (fun k _ e=>e)) (fun k _ h=>h)) (fun e=>by have h1:=Jo H e;have h2:=H.hi A.r (by simp [LA.all]);omega)
 have F:=Zmm H hsp (fun k hk e=>e.elim (fun e=>by have:=H.lo A.r (by simp [LA.all]);omega) (fun e=>by have h1:=Jo H e;have h2:=H.lo A.p (by simp [LA.all]);have h3:=H.hi A.p (by simp [LA.all]);omega))
 exact ⟨F.gr,H.nd,H.lo,H.hi,F.rs,F.bp (fun e=>e.elim (Zl H.nd 0 6 rfl rfl (by decide)) (fun e=>by have h1:=Jo H e;have h2:=H.hi A.p (by simp [LA.all]);omega)),F.bf (fun e=>e.elim (Zl H.nd 1 6 rfl rfl (by decide)) (fun e=>by have h1:=Jo H e;have h2:=H.hi A.f (by simp [LA.all]);omega)),F.bh (fun e=>e.elim (Zl H.nd 2 6 rfl rfl (by decide)) (fun e=>by have h1:=Jo H e;have h2:=H.hi A.h (by simp [LA.all]);omega)),F.bn (fun e=>e.elim (Zl H.nd 3 6 rfl rfl (by decide)) (fun e=>by have h1:=Jo H e;have h2:=H.hi A.n (by simp [LA.all]);omega)),F.bb (fun e=>e.elim (Zl H.nd 4 6 rfl rfl (by decide)) (fun e=>by have h1:=Jo H e;have h2:=H.hi A.b (by simp [LA.all]);omega)),F.bo (fun e=>e.elim (Zl H.nd 5 6 rfl rfl (by decide)) (fun e=>by have h1:=Jo H e;have h2:=H.hi A.o (by simp [LA.all]);omega)),Zvc hbx,F.bw (fun e=>e.elim (Zl H.nd 7 6 rfl rfl (by decide)) (fun e=>by have h1:=Jo H e;have h2:=H.hi A.w (by simp [LA.all]);omega)),F.bm (fun e=>e.elim (Zl H.nd 8 6 rfl rfl (by decide)) (fun e=>by have h1:=Jo H e;have h2:=H.hi A.m (by simp [LA.all]);omega)),F.rn (fun e=>e.elim (Zl H.nd 9 6 rfl rfl (by decide)) (fun e=>by have h1:=Jo H e;have h2:=H.hi A.gn (by simp [LA.all]);omega)),F.rb (fun e=>e.elim (Zl H.nd 10 6 rfl rfl (by decide)) (fun e=>by have h1:=Jo H e;have h2:=H.hi A.gb (by simp [LA.all]);omega)),F.ro (fun e=>e.elim (Zl H.nd 11 6 rfl rfl (by decide)) (fun e=>by have h1:=Jo H e;have h2:=H.hi A.go (by simp [LA.all]);omega)),F.ri (fun e=>e.elim (Zl H.nd 12 6 rfl rfl (by decide)) (fun e=>by have h1:=Jo H e;have h2:=H.hi A.gi (by simp [LA.all]);omega)),(by rw [List.length_append,Zhn];exact Zdy ho (H.hi A.r (by simp [LA.all]))),F.rw_ (fun k hk e=>e.elim (fun e=>by have h1:=Yr H hk;have h2:=H.hi A.r (by simp [LA.all]);omega) (fun e=>Jg H.rw_ H.rr (by decide) hk e))⟩
theorem Ywi (H:LpW w0 R A C vr vw s wr) {m:Nat} {w5:World} {vw':Value} (ho:w5.ownsRow R 90 2 vw' (s.way.length+1) (Zw s.way++[.int .i64 (m:Int),.int .i64 0])) (hg:(wr.alloc (.cells #[.int .i64 (m:Int),.int .i64 0] 90)).grownBy w5 vw.ownBlock) :
 LpW w0 R A C vr vw' { s with way:=s.way++[((m:Int),0)] } (w5.setCell ⟨A.w,0,none⟩ vw'):=by
 have hsp:Sp (fun k=>k=A.w\/vw.ownBlock=some k) wr (w5.setCell ⟨A.w,0,none⟩ vw'):=Xc (Xc (Yl (Ga wr _ none) (fun _ _ e=>by cases e)) (Yl (P:=fun k=>k=A.w\/vw.ownBlock=some k) hg (fun k _ e=>Or.inr e)) (fun k _ h=>h)) (Zfg w5 A.w 0 vw') (fun k _ h=>Or.inl h)
 have hbx:Bx w5 A.w 88 vw:=Znv (P:=fun k=>vw.ownBlock=some k) H.bw (Xc (Yl (P:=fun k=>vw.ownBlock=some k) (Ga wr _ none) (fun _ _ e=>by cases e)) (Yl (P:=fun k=>vw.ownBlock=some k) hg (fun k _ e=>e)) (fun k _ h=>h)) (fun e=>by have h1:=Yr H e;have h2:=H.hi A.w (by simp [LA.all]);omega)
 have F:=Zmm H hsp (fun k hk e=>e.elim (fun e=>by have:=H.lo A.w (by simp [LA.all]);omega) (fun e=>by have h1:=Yr H e;have h2:=H.lo A.p (by simp [LA.all]);have h3:=H.hi A.p (by simp [LA.all]);omega))
 exact ⟨F.gr,H.nd,H.lo,H.hi,F.rs,F.bp (fun e=>e.elim (Zl H.nd 0 7 rfl rfl (by decide)) (fun e=>by have h1:=Yr H e;have h2:=H.hi A.p (by simp [LA.all]);omega)),F.bf (fun e=>e.elim (Zl H.nd 1 7 rfl rfl (by decide)) (fun e=>by have h1:=Yr H e;have h2:=H.hi A.f (by simp [LA.all]);omega)),F.bh (fun e=>e.elim (Zl H.nd 2 7 rfl rfl (by decide)) (fun e=>by have h1:=Yr H e;have h2:=H.hi A.h (by simp [LA.all]);omega)),F.bn (fun e=>e.elim (Zl H.nd 3 7 rfl rfl (by decide)) (fun e=>by have h1:=Yr H e;have h2:=H.hi A.n (by simp [LA.all]);omega)),F.bb (fun e=>e.elim (Zl H.nd 4 7 rfl rfl (by decide)) (fun e=>by have h1:=Yr H e;have h2:=H.hi A.b (by simp [LA.all]);omega)),F.bo (fun e=>e.elim (Zl H.nd 5 7 rfl rfl (by decide)) (fun e=>by have h1:=Yr H e;have h2:=H.hi A.o (by simp [LA.all]);omega)),F.br (fun e=>e.elim (Zl H.nd 6 7 rfl rfl (by decide)) (fun e=>by have h1:=Yr H e;have h2:=H.hi A.r (by simp [LA.all]);omega)),Zvc hbx,F.bm (fun e=>e.elim (Zl H.nd 8 7 rfl rfl (by decide)) (fun e=>by have h1:=Yr H e;have h2:=H.hi A.m (by simp [LA.all]);omega)),F.rn (fun e=>e.elim (Zl H.nd 9 7 rfl rfl (by decide)) (fun e=>by have h1:=Yr H e;have h2:=H.hi A.gn (by simp [LA.all]);omega)),F.rb (fun e=>e.elim (Zl H.nd 10 7 rfl rfl (by decide)) (fun e=>by have h1:=Yr H e;have h2:=H.hi A.gb (by simp [LA.all]);omega)),F.ro (fun e=>e.elim (Zl H.nd 11 7 rfl rfl (by decide)) (fun e=>by have h1:=Yr H e;have h2:=H.hi A.go (by simp [LA.all]);omega)),F.ri (fun e=>e.elim (Zl H.nd 12 7 rfl rfl (by decide)) (fun e=>by have h1:=Yr H e;have h2:=H.hi A.gi (by simp [LA.all]);omega)),F.rr (fun k hk e=>e.elim (fun e=>by have h1:=Jo H hk;have h2:=H.hi A.w (by simp [LA.all]);omega) (fun e=>Jg H.rr H.rw_ (by decide) hk e)),(by rw [List.length_append,Yv];exact Zdy ho (H.hi A.w (by simp [LA.all])))⟩
theorem Ztw (H:LpW w0 R A C vr vw s wr) (k:Nat) (hk:k<C.n):wr.cell? ⟨A.gn,k,none⟩=some (.int .i64 (s.num.getD k 0:Nat))/\wr.frozen? ⟨A.gn,k,none⟩=false:=by
 have hl:s.num.length=C.n:=by have:=H.rn.1;simpa [Zeq] using this
 refine ⟨?_,H.rn.frozenAt k⟩
 rw [H.rn.cellAt k (by omega),Zeq,List.getElem?_map,List.getD_eq_getElem?_getD,List.getElem?_eq_getElem (by omega:k<s.num.length)]
 rfl
theorem Zkm (H:LpW w0 R A C vr vw s wr) (k:Nat) (hk:k<C.n):wr.cell? ⟨A.gb,k,none⟩=some (.int .i64 (s.back.getD k 0:Nat))/\wr.frozen? ⟨A.gb,k,none⟩=false:=by
 have hl:s.back.length=C.n:=by have:=H.rb.1;simpa [Zeq] using this
 refine ⟨?_,H.rb.frozenAt k⟩
 rw [H.rb.cellAt k (by omega),Zeq,List.getElem?_map,List.getD_eq_getElem?_getD,List.getElem?_eq_getElem (by omega:k<s.back.length)]
 rfl
theorem Ybm (H:LpW w0 R A C vr vw s wr) (k:Nat) (hk:k<C.n):wr.cell? ⟨A.go,k,none⟩=some (.bool (s.on.getD k false))/\wr.frozen? ⟨A.go,k,none⟩=false:=by
 have hl:s.on.length=C.n:=by have:=H.ro.1;simpa using this
 refine ⟨?_,H.ro.frozenAt k⟩
 rw [H.ro.cellAt k (by omega),List.getElem?_map,List.getD_eq_getElem?_getD,List.getElem?_eq_getElem (by omega:k<s.on.length)]
 rfl
theorem Ylx (H:LpW w0 R A C vr vw s wr) (k:Nat) (hk:k<C.n):wr.cell? ⟨A.gi,k,none⟩=some (.bool (s.inn.getD k false))/\wr.frozen? ⟨A.gi,k,none⟩=false:=by
 have hl:s.inn.length=C.n:=by have:=H.ri.1;simpa using this
 refine ⟨?_,H.ri.frozenAt k⟩
 rw [H.ri.cellAt k (by omega),List.getElem?_map,List.getD_eq_getElem?_getD,List.getElem?_eq_getElem (by omega:k<s.inn.length)]
 rfl
theorem Yrl (H:LpW w0 R A C vr vw s wr):s.num.length=C.n/\s.back.length=C.n/\s.on.length=C.n/\s.inn.length=C.n:=by
 have h1:=H.rn.1
 have h2:=H.rb.1
 have h3:=H.ro.1
 have h4:=H.ri.1
 simp [Zeq] at h1 h2 h3 h4
 exact ⟨h1,h2,h3,h4⟩
end
theorem Ycn {P:Program} {w:World} {base:Nat} {t ty e:TypeId} {i:TypeInfo} {z:Value} {size bytes:Nat} (ht:P.underlying t=some (.slice e)) (hi:P.info? e=some i) (hz:i.zero=some z)
 (hsize:i.size=size) (hby:i.bytes=bytes) {g n cap:Nat} {xs:List Value} (hown:w.ownsRow base e size (.slice (some ⟨g,0,none⟩) n cap) n xs)
 {a:Addr} {m c:Nat} {news:List Value} (hl:news.length=m*size) (hnews:∀ j u,news[j]? = some u->w.cell? (a.add j)=some u) (h1:∀ u∈news,u.oneCell'=true)
 (h63:n+m<=maxLen) (hbytes:(n+m)*bytes<=140737488355328) {v':Value} {w':World}
 (hr:(Builtin.append_ #[t,t] ty #[.slice (some ⟨g,0,none⟩) n cap,.slice (some a) m c]).run P w = .ok v' w'):v'.ownBlock=some g\/w.grownBy w' none:=by
 subst hsize
 subst hby
 have hsmall:n+m<=9223372036854775807:=by simp only [maxLen] at h63;omega
 have holds:=hown.cells (g:=g) rfl
 have hlen:=hown.1
 rcases hown.2 with ⟨h0,_⟩|⟨g',cap',cur,hv,_,hg,hnc,hcm,hcs,htake⟩
 · cases h0
 · injection hv with e1 e2 e3
   injection e1 with e1
   injection e1 with e1
   subst e1 e3
   by_cases hroom:n+m<=cap
   · have hfit:n*i.size+news.length<=cur.size:=by rw [hl,hcs,<- Nat.add_mul];exact Nat.mul_le_mul_right _ hroom
     rw [run_append_room (P:=P) w t ty e i ht hi g n cap cur hg a m c news hl hnews h1 hroom hfit] at hr
     injection hr with hr
     left;rw [<- hr];rfl
   · rw [run_append_grow (P:=P) w t ty e i z ht hi hz ⟨g,0,none⟩ n cap xs hlen holds a m c news hl hnews (by omega) (by omega) (growslice_fits (by omega) hbytes)] at hr
     injection hr with _ hr
     right
     rw [<- hr]
     exact ⟨rfl,rfl,rfl,by simp,fun k hk _=>heap_alloc_old w.drew _ hk⟩
end Go.Proofs.Ythlkflagancdfaa.CK
