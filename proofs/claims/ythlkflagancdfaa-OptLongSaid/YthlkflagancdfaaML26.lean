/-
  Part of a proof: contracts of functions and lemmas, each stated by its own theorem. Conditions: as each theorem states.
-/
import Derived.Test.YthlkflagancdfaaML25
import Derived.Laws.AppendOwnNone
set_option linter.unusedSimpArgs false
set_option linter.unusedVariables false
set_option maxRecDepth 100000
set_option maxHeartbeats 16000000
namespace Go.Proofs.Ythlkflagancdfaa.OT
open Go.RowKit Go.Great
open Go.Proofs.Ythlkflagancdfaa.CK
structure Zhs (w:World) (fs:List FnP) (F:Value) (gH cH gV:Nat) (gh:Nat->Nat) (hs:Nat->List Int) (V:List Bool):Prop where
 f:∃ (q1 q2:Option Addr) (n1 n2 k1 k2:Nat) (ce co:Int),F = .agg #[.slice (some ⟨gH,0,none⟩) fs.length cH,.slice q1 n1 k1,.slice q2 n2 k2,.slice (some ⟨gV,0,none⟩) fs.length fs.length,.int .i64 ce,.int .i64 co]
 h:∀ (f:Nat) (fn:FnP),fs[f]? = some fn->w.cell? ⟨gH,f,none⟩=some (.slice (some ⟨gh f,0,none⟩) fn.2.2.2.length fn.2.2.2.length)/\∀ i:Nat,i<fn.2.2.2.length->w.cell? ⟨gh f,i,none⟩=some (.int .i64 ((hs f).getD i 0))
 v:∀ f:Nat,f<fs.length->w.cell? ⟨gV,f,none⟩=some (.bool (V.getD f false))
 l:∀ (f:Nat) (fn:FnP),fs[f]? = some fn->(hs f).length=fn.2.2.2.length
theorem Zci {w w':World} {fs:List FnP} {F:Value} {gH cH gV:Nat} {gh:Nat->Nat} {hs:Nat->List Int} {V:List Bool} (h:Zhs w fs F gH cH gV gh hs V) (g:w.grownBy w' none):Zhs w' fs F gH cH gV gh hs V :=
 ⟨h.f,fun f fn hf=>⟨g.cell (h.h f fn hf).1 (by simp),fun i hi=>g.cell ((h.h f fn hf).2 i hi) (by simp)⟩,fun f hf=>g.cell (h.v f hf) (by simp),h.l⟩
theorem Yus (bx bf gH gh f i nf nh cH ch:Nat) (hv:Int) (w:World) (c0:w.cell? ⟨bx,0,none⟩=some (.slice (some ⟨gH,0,none⟩) nf cH)) (c1:w.cell? ⟨bf,0,none⟩=some (.int .i64 f)) (c2:w.cell? ⟨gH,f,none⟩=some (.slice (some ⟨gh,0,none⟩) nh ch)) (c3:w.cell? ⟨gh,i,none⟩=some (.int .i64 hv)) (hf:f<nf) (hi:i<nh) :
 Calls Try.prog 48 #[.int .i64 i,.pointer (some ⟨bx,0,none⟩),.pointer (some ⟨bf,0,none⟩)] w fun e w'=>e = .returned (.bool (decide (0<=hv)))/\w=w':=by
 have l0:=World.block_lt_of_cell? _ _ c0
 have l1:=World.block_lt_of_cell? _ _ c1
 have l2:=World.block_lt_of_cell? _ _ c2
 have l3:=World.block_lt_of_cell? _ _ c3
 have hf2:(f:Int)<(nf:Int):=by omega
 have hi2:(i:Int)<(nh:Int):=by omega
 simp only [] at l0 l1 l2 l3
 go_enter Try.func48,Try.ntmps48
 go_wp2
 go_ret
 exact ⟨rfl,rfl⟩
theorem Yur (bx gV i nf cV:Nat) (b:Bool) (w:World) (c0:w.cell? ⟨bx,3,none⟩=some (.slice (some ⟨gV,0,none⟩) nf cV)) (c1:w.cell? ⟨gV,i,none⟩=some (.bool b)) (hi:i<nf) :
 Calls Try.prog 51 #[.int .i64 i,.pointer (some ⟨bx,0,none⟩)] w fun e w'=>e = .returned (.bool b)/\w=w':=by
 have l0:=World.block_lt_of_cell? _ _ c0
 have l1:=World.block_lt_of_cell? _ _ c1
 have hi2:(i:Int)<(nf:Int):=by omega
 simp only [] at l0 l1
 go_enter Try.func51,Try.ntmps51
 go_wp2
 go_ret
 exact ⟨rfl,rfl⟩
theorem Yhu {l:List Int} {j:Nat} (hj:j<l.length) (h:l.getD j 0<0) (hb:∀ i,i<j->0<=l.getD i 0):l.findIdx? (fun h=>decide (h<0))=some j:=by
 rw [List.findIdx?_eq_some_iff_getElem]
 refine ⟨hj,?_,fun i hi => ?_⟩
 · rw [List.getD_eq_getElem?_getD,List.getElem?_eq_getElem hj] at h
   simpa using h
 · have:=hb i hi
   rw [List.getD_eq_getElem?_getD,List.getElem?_eq_getElem (by omega)] at this
   simpa using this
theorem Yhv {l:List Int} (hb:∀ i,i<l.length->0<=l.getD i 0):l.findIdx? (fun h=>decide (h<0))=none:=by
 rw [List.findIdx?_eq_none_iff]
 intro x hx
 obtain ⟨i,hi,e⟩:=List.getElem_of_mem hx
 have:=hb i hi
 rw [List.getD_eq_getElem?_getD,List.getElem?_eq_getElem hi,e] at this
 simpa using this
theorem Ynf (P:Value) (m0:Int) (p1 p2:Option Addr) (n1 n2 k1 k2:Nat) (fs:List FnP) (F:Value) (gH cH gV:Nat) (gh:Nat->Nat) (hs:Nat->List Int) (V:List Bool) (w:World) (hP:P = .agg #[.int .i64 m0,.slice p1 n1 k1,.slice p2 n2 k2]) (hF:Zhs w fs F gH cH gV gh hs V) (hn:fs.length<=64) (hc:∀ f∈fs,f.2.2.2.length<=4096) :
 Calls Try.prog 30 #[P,F] w (Yaf w (Zcn hs V fs.length 0)):=by
 subst hP
 obtain ⟨q1,q2,m1,m2,j1,j2,ce,co,rfl⟩:=hF.f
 have FA:=Hq hF
 have hni:(fs.length:Int)<=64:=by omega
 have HC:=Hq hc
 have GZ:=Xf w (.cells #[.int .i64 m0,.slice p1 n1 k1,.slice p2 n2 k2] 25) (.cells #[.slice (some ⟨gH,0,none⟩) fs.length cH,.slice q1 m1 j1,.slice q2 m2 j2,.slice (some ⟨gV,0,none⟩) fs.length fs.length,.int .i64 ce,.int .i64 co] 35) (.cells #[.int .i64 0,.int .i64 0] 37)
 have T1:=Hq GZ.2.1
 have T2:=Hq GZ.2.2
 have G0:=Hq (Xg w (.cells #[.int .i64 m0,.slice p1 n1 k1,.slice p2 n2 k2] 25) (.cells #[.slice (some ⟨gH,0,none⟩) fs.length cH,.slice q1 m1 j1,.slice q2 m2 j2,.slice (some ⟨gV,0,none⟩) fs.length fs.length,.int .i64 ce,.int .i64 co] 35) (.cells #[.int .i64 0,.int .i64 0] 37))
 clear GZ hF hc
 go_enter Try.func30,Try.ntmps30
 go_wp2
 generalize ((w.alloc (.cells #[.int .i64 m0,.slice p1 n1 k1,.slice p2 n2 k2] 25)).alloc (.cells #[.slice (some ⟨gH,0,none⟩) fs.length cH,.slice q1 m1 j1,.slice q2 m2 j2,.slice (some ⟨gV,0,none⟩) fs.length fs.length,.int .i64 ce,.int .i64 co] 35)).alloc (.cells #[.int .i64 0,.int .i64 0] 37)=w2 at *
 have x3:=Cq _ _ 3 _ _ _ T1.out
 have lx:=(Gs T1.out)
 have v0:=Cq _ _ 0 _ _ _ T2.out
 have v1:=Cq _ _ 1 _ _ _ T2.out
 have z0:=frozen_of_row _ _ 0 _ _ T2.out
 have z1:=frozen_of_row _ _ 1 _ _ T2.out
 have lv:=(Gs T2.out)
 go_loop [13] (fun i=>∃ k:Nat,i = .int .i64 k/\k<=fs.length/\Zcn hs V fs.length 0=Zcn hs V (fs.length - k) k) (fun i=>fs.length - (intOf i).toNat)
 case atStart=>exact ⟨0,rfl,Nat.zero_le _,rfl⟩
 case round =>
  obtain ⟨k,rfl,hk,he⟩:=hrel
  by_cases hlt:(k:Int)<(fs.length:Int)
  · obtain ⟨fn,hf⟩:∃ f,fs[k]? = some f:=⟨_,List.getElem?_eq_getElem (by omega)⟩
    obtain ⟨h0,h1⟩:=FA.out.h k fn hf
    have c0:=G0.out.cell h0 (by simp)
    have c1:=G0.out.cell (FA.out.v k (by omega)) (by simp)
    have l0:=World.block_lt_of_cell? _ _ c0
    have l1:=World.block_lt_of_cell? _ _ c1
    simp only [] at l0 l1
    obtain ⟨r,hr⟩:∃ r,fs.length - k=r+1:=⟨fs.length - k - 1,by omega⟩
    rw [hr,Zcn] at he
    have HR:=Hq hr
    have hl:=FA.out.l k fn hf
    have hcl:=HC.out fn (List.mem_of_getElem? hf)
    have H1:=Hq (fun i hi=>G0.out.cell (h1 i hi) (by simp))
    cases hb:V.getD k false with
    | false =>
      rw [hb] at c1
      rw [if_pos hb] at he
      have HE:=Hq he
      clear he hf h0 h1 hl hr hb
      go_wp2
      refine bodyPost_ret (v:=Zhl (some (k,0))) ?_ rfl ⟨by rw [HE.out],Ze (Ze G0.out (by omega)) (by omega)⟩
      rw [results_cell_tmp rfl]
      unfold Zhl
      go_simp
    | true =>
      rw [hb] at c1
      rw [if_neg (by rw [hb];decide)] at he
      have HE:=Hq he
      have HL:=Hq hl
      clear he hf h0 h1 hl hr hb
      generalize hnn:fn.2.2.2.length=nn at *
      have hnni:(nn:Int)<=4096:=by omega
      clear hnn
      go_wp2
      go_loop [28] (fun i=>∃ j:Nat,i = .int .i64 j/\j<=nn/\∀ i,i<j->0<=(hs k).getD i 0) (fun i=>nn - (intOf i).toNat)
      case atStart=>exact ⟨0,rfl,Nat.zero_le _,fun i h=>absurd h (Nat.not_lt_zero _)⟩
      case round =>
       obtain ⟨j,rfl,hj,hno⟩:=hrel
       have HN:=Hq hno
       clear hno
       by_cases hlj:(j:Int)<(nn:Int)
       · have d0:=H1.out j (by omega)
         have ld:=World.block_lt_of_cell? _ _ d0
         simp only [] at ld
         by_cases hneg:(hs k).getD j 0<0
         · have HU:=Hq (show Zcn hs V fs.length 0=some (k,j) by rw [HE.out,Yhu (by rw [HL.out];omega) hneg HN.out])
           generalize (hs k).getD j 0=hv at *
           go_wp2
           refine bodyPost_ret (v:=Zhl (some (k,j))) ?_ rfl ⟨by rw [HU.out],Ze (Ze G0.out (by omega)) (by omega)⟩
           rw [results_cell_tmp rfl]
           unfold Zhl
           go_simp
         · have HN2:=Hq (show ∀ i,i<j+1->0<=(hs k).getD i 0 from fun i hi=>by
            by_cases e:i=j
            · subst e;omega
            · exact HN.out i (by omega))
           generalize (hs k).getD j 0=hv at *
           go_wp2
           go_round
           case rel=>exact ⟨j+1,by go_num,by omega,HN2.out⟩
           case measure=>simp [intOf];omega
       · have hjn:j=nn:=by omega
         have HU:=Hq (show Zcn hs V fs.length 0=Zcn hs V (fs.length - (k+1)) (k+1) by
          rw [HE.out,Yhv (fun i hi=>HN.out i (by rw [HL.out] at hi;omega))]
          have:=HR.out
          rw [show fs.length - (k+1)=r by omega])
         go_wp2
         go_round
         case rel=>exact ⟨k+1,by go_num,by omega,HU.out⟩
         case measure=>simp [intOf];omega
  · have hkn:k=fs.length:=by omega
    have HU:=Hq (show Zcn hs V fs.length 0=none by rw [he,hkn,Nat.sub_self];rfl)
    clear he
    go_wp2
    refine bodyPost_ret (v:=Zhl none) ?_ rfl ⟨by rw [HU.out],Ze (Ze G0.out (by omega)) (by omega)⟩
    rw [results_cell_tmp rfl]
    unfold Zhl
    go_simp
def hB (h:List Int) (n:Nat):Bool:=decide (0<=h.getD n 0)
def vB (V:List Bool) (f:Nat):Bool:=V.getD f false
theorem Zte {g g':Int->Int} {c:List Ins} (h:∀ x∈c,jmp x.1=true->g x.2=g' x.2):reJ g c=reJ g' c:=by
 unfold reJ
 refine List.map_congr_left fun x hx => ?_
 by_cases e:jmp x.1=true
 · rw [if_pos e,if_pos e,h x hx e]
 · rw [if_neg e,if_neg e]
theorem Ylj (b:Nat->Bool) (n i:Nat) (h:i<=n):(Zbj b (n+1) (n+1)).getD i 0=Yo b i:=by
 unfold Zbj
 rw [List.getD_eq_getElem?_getD,List.getElem?_map,List.getElem?_range (by omega)]
 simp
 omega
theorem Zel {α:Type} {l:List α} {b:Nat->Bool} {k:Nat} {x:α} (h:x∈Jd l b k):x∈l:=by
 unfold Jd at h
 obtain ⟨i,_,hi⟩:=List.mem_filterMap.1 h
 by_cases e:b i=true
 · rw [if_pos e] at hi;exact List.mem_of_getElem? hi
 · rw [if_neg e] at hi;cases hi
theorem Zgu {α:Type} (l:List α) (b:Nat->Bool):∀ (k:Nat),k<=l.length->∀ (i:Nat) (x:α),(Jd l b k)[i]? = some x->∃ j,j<k/\b j=true/\l[j]? = some x/\Yo b j=i
 | 0,_,i,x,h=>by simp [Jd] at h
 | k+1,hk,i,x,h=>by
   obtain ⟨y,hy⟩:∃ y,l[k]? = some y:=⟨_,List.getElem?_eq_getElem (by omega)⟩
   rw [Zak l b k y hy] at h
   have hl:=Yn l b k (by omega)
   by_cases hi:i<(Jd l b k).length
   · rw [List.getElem?_append_left hi] at h
     obtain ⟨j,h1,h2,h3,h4⟩:=Zgu l b k (by omega) i x h
     exact ⟨j,by omega,h2,h3,h4⟩
   · rw [List.getElem?_append_right (by omega)] at h
     cases hb:b k with
     | false=>rw [hb] at h;simp at h
     | true =>
       rw [hb] at h
       simp only [if_true] at h
       have h0:=(List.getElem?_eq_some_iff.1 h).1
       simp at h0
       have:i=(Jd l b k).length:=by omega
       subst this
       rw [Nat.sub_self] at h
       simp at h
       subst h
       exact ⟨k,by omega,hb,hy,hl.symm⟩
theorem Zub {α:Type} (l:List α) (b:Nat->Bool):∀ (k:Nat),k<=l.length->∀ (j:Nat) (x:α),j<k->b j=true->l[j]? = some x->(Jd l b k)[Yo b j]? = some x
 | 0,_,j,x,h,_,_=>absurd h (Nat.not_lt_zero _)
 | k+1,hk,j,x,h,hb,hx=>by
   obtain ⟨y,hy⟩:∃ y,l[k]? = some y:=⟨_,List.getElem?_eq_getElem (by omega)⟩
   have hl:=Yn l b k (by omega)
   rw [Zak l b k y hy]
   by_cases e:j=k
   · subst e
     rw [List.getElem?_append_right (by omega),hl,Nat.sub_self,hb]
     rw [hy] at hx
     simpa using hx
   · have h1:=Zub l b k (by omega) j x (by omega) hb hx
     rw [List.getElem?_append_left (List.getElem?_eq_some_iff.1 h1).1]
     exact h1
theorem Zoe (b:Nat->Bool):∀ {i j:Nat},i<=j->Yo b i<=Yo b j
 | i,0,h=>by rw [Nat.le_zero.1 h];exact Nat.le_refl _
 | i,j+1,h=>by
   by_cases e:i=j+1
   · rw [e];exact Nat.le_refl _
   · have:=Zoe b (show i<=j by omega)
     simp only [Yo]
     omega
theorem Zpw {b:Nat->Bool} {i j:Nat} (h:i<j) (hb:b i=true):Yo b i<Yo b j:=by
 have:=Zoe b (show i+1<=j from h)
 simp only [Yo,hb,if_true] at this
 omega
def Zaw (c:List Ins) (h:List Int):List Ins:=reJ (fun a=>(Yo (hB h) a.toNat:Nat)) (Jd c (hB h) c.length)
def Zhe (fs:List FnP) (hs:Nat->List Int) (k:Nat):List FnP:=fs.mapIdx fun i f=>if i<k then Zy f (Zaw f.2.2.2 (hs i)) else f
theorem Jb (fs:List FnP) (hs:Nat->List Int) (k:Nat):(Zhe fs hs k).length=fs.length:=by simp [Zhe]
theorem Zve (fs:List FnP) (hs:Nat->List Int):Zhe fs hs 0=fs:=by
 apply List.ext_getElem?
 intro i
 simp [Zhe,List.getElem?_mapIdx]
theorem Zha {fs:List FnP} {hs:Nat->List Int} {k i:Nat} {f:FnP} (h:fs[i]? = some f):(Zhe fs hs k)[i]? = some (if i<k then Zy f (Zaw f.2.2.2 (hs i)) else f):=by
 simp [Zhe,List.getElem?_mapIdx,h]
theorem Zvg {fs:List FnP} {hs:Nat->List Int} {k:Nat} {f:FnP} (h:fs[k]? = some f):Zhe fs hs (k+1)=(Zhe fs hs k).set k (Zy f (Zaw f.2.2.2 (hs k))):=by
 have hk:=(List.getElem?_eq_some_iff.1 h).1
 apply List.ext_getElem?
 intro i
 by_cases e:i=k
 · subst e
   rw [List.getElem?_set_self (by rw [Jb];exact hk),Zha h,if_pos (by omega)]
 · rw [List.getElem?_set_ne (Ne.symm e)]
   cases hf:fs[i]? with
   | none =>
     have:fs.length<=i:=by rw [List.getElem?_eq_none_iff] at hf;exact hf
     rw [List.getElem?_eq_none (by rw [Jb];exact this),List.getElem?_eq_none (by rw [Jb];exact this)]
   | some g =>
     rw [Zha hf,Zha hf]
     by_cases h1:i<k
     · rw [if_pos h1,if_pos (by omega)]
     · rw [if_neg h1,if_neg (by omega)]
def Zfb (V:List Bool) (c:List Ins):List Ins:=c.map fun x=>if x.1=17 then (x.1,(Yo (vB V) x.2.toNat:Nat)) else x
def Zal (V:List Bool) (c:List Ins) (k:Nat):List Ins:=Zfb V (c.take k)++c.drop k
theorem Ziw (V:List Bool) (c:List Ins) (k:Nat):(Zal V c k).length=c.length:=by simp [Zal,Zfb];omega
theorem Zng {V:List Bool} {c:List Ins} {k:Nat} {x:Ins} (h:c[k]? = some x):(Zal V c k)[k]? = some x:=by
 have hk:=(List.getElem?_eq_some_iff.1 h).1
 unfold Zal Zfb
 rw [List.getElem?_append_right (by simp;omega)]
 simp [Nat.min_eq_left (by omega:k<=c.length),h]
theorem Zpi {V:List Bool} {c:List Ins} {k:Nat} {x:Ins} (h:c[k]? = some x):Zal V c (k+1)=(Zal V c k).set k (if x.1=17 then (x.1,((Yo (vB V) x.2.toNat:Nat):Int)) else x):=by
 have hk:=(List.getElem?_eq_some_iff.1 h).1
 have hx:x=c[k]:=by rw [List.getElem?_eq_getElem hk] at h;injection h with h;exact h.symm
 unfold Zal Zfb
 rw [List.take_succ_eq_append_getElem hk,List.map_append,List.set_append_right _ _ (by simp;omega)]
 have e:k - (List.map (fun x:Ins=>if x.fst=17 then (x.fst,((Yo (vB V) x.snd.toNat:Nat):Int)) else x) (List.take k c)).length=0:=by simp;omega
 rw [e,List.drop_eq_getElem_cons hk,List.set_cons_zero,<- hx]
 simp
theorem Ych {V:List Bool} {c:List Ins} {k:Nat} {x:Ins} (h:c[k]? = some x) (hj:x.1≠17):Zal V c (k+1)=Zal V c k:=by
 rw [Zpi h,if_neg hj]
 obtain ⟨h1,h2⟩:=List.getElem?_eq_some_iff.1 (Zng (V:=V) h)
 rw [<- h2]
 exact List.set_getElem_self h1
theorem Yiq (V:List Bool) (c:List Ins):Zal V c c.length=Zfb V c:=by simp [Zal]
theorem Ycg (V:List Bool) (c:List Ins):Zal V c 0=c:=by simp [Zal,Zfb]
def Zpj (V:List Bool) (fs:List FnP) (k:Nat):List FnP:=fs.mapIdx fun i f=>if i<k then Zy f (Zfb V f.2.2.2) else f
theorem Zbn (V:List Bool) (fs:List FnP) (k:Nat):(Zpj V fs k).length=fs.length:=by simp [Zpj]
theorem Yir (V:List Bool) (fs:List FnP):Zpj V fs 0=fs:=by
 apply List.ext_getElem?
 intro i
 simp [Zpj,List.getElem?_mapIdx]
theorem Zix {V:List Bool} {fs:List FnP} {k i:Nat} {f:FnP} (h:fs[i]? = some f):(Zpj V fs k)[i]? = some (if i<k then Zy f (Zfb V f.2.2.2) else f):=by
 simp [Zpj,List.getElem?_mapIdx,h]
theorem Yis {V:List Bool} {fs:List FnP} {k:Nat} {f:FnP} (h:fs[k]? = some f):Zpj V fs (k+1)=(Zpj V fs k).set k (Zy f (Zfb V f.2.2.2)):=by
 have hk:=(List.getElem?_eq_some_iff.1 h).1
 apply List.ext_getElem?
 intro i
 by_cases e:i=k
 · subst e
   rw [List.getElem?_set_self (by rw [Zbn];exact hk),Zix h,if_pos (by omega)]
 · rw [List.getElem?_set_ne (Ne.symm e)]
   cases hf:fs[i]? with
   | none =>
     have:fs.length<=i:=by rw [List.getElem?_eq_none_iff] at hf;exact hf
     rw [List.getElem?_eq_none (by rw [Zbn];exact this),List.getElem?_eq_none (by rw [Zbn];exact this)]
   | some g =>
     rw [Zix hf,Zix hf]
     by_cases h1:i<k
     · rw [if_pos h1,if_pos (by omega)]
     · rw [if_neg h1,if_neg (by omega)]
def Zfo (fs:List FnP) (hs:Nat->List Int) (V:List Bool):List FnP:=(Jd (Zhe fs hs fs.length) (vB V) fs.length).map fun f=>Zy f (Zfb V f.2.2.2)
theorem Yno (V:List Bool) (fs:List FnP):Zpj V fs fs.length=fs.map fun f=>Zy f (Zfb V f.2.2.2):=by
 apply List.ext_getElem?
 intro i
 cases hf:fs[i]? with
 | none=>simp [Zpj,List.getElem?_mapIdx,hf]
 | some g =>
   have:=(List.getElem?_eq_some_iff.1 hf).1
   rw [Zix hf,if_pos this]
   simp [hf]
def Znx (fs:List FnP) (cv:List Value):List FnQ:=List.zipWith (fun f v=>(f.1,f.2.1,f.2.2.1,v)) fs cv
theorem Zui:∀ (fs:List FnP) (cv:List Value),Zjr (Znx fs cv)=Xa fs cv
 | [],_=>by simp [Znx,Zjr,Xa]
 | _::_,[]=>by simp [Znx,Zjr,Xa]
 | f::r,v::s=>by
   have:=Zui r s
   unfold Znx at this ⊢
   simp [Zjr,Xa,this]
theorem Zxz {fs:List FnP} {cv:List Value} {i:Nat} {f:FnP} {v:Value} (hf:fs[i]? = some f) (hv:cv[i]? = some v):(Znx fs cv)[i]? = some (f.1,f.2.1,f.2.2.1,v):=by
 unfold Znx;rw [List.getElem?_zipWith,hf,hv]
theorem Zko {fs:List FnP} {cv:List Value} (h:cv.length=fs.length):(Znx fs cv).length=fs.length:=by simp [Znx,h]
theorem Zzh (fs:List FnP) (cv:List Value) (b:Nat->Bool) (h:cv.length=fs.length):∀ k,k<=fs.length->Jd (Znx fs cv) b k=Znx (Jd fs b k) (Jd cv b k)
 | 0,_=>by simp [Jd,Znx]
 | k+1,hk=>by
   obtain ⟨f,hf⟩:∃ f,fs[k]? = some f:=⟨_,List.getElem?_eq_getElem (by omega)⟩
   obtain ⟨v,hv⟩:∃ v,cv[k]? = some v:=⟨_,List.getElem?_eq_getElem (by omega)⟩
   rw [Zak _ b k _ (Zxz hf hv),Zak _ b k _ hf,Zak _ b k _ hv,Zzh fs cv b h k (by omega)]
   have hl:(Jd fs b k).length=(Jd cv b k).length:=by rw [Yn _ _ _ (by omega),Yn _ _ _ (by omega)]
   unfold Znx
   cases b k with
   | false=>simp
   | true=>simp [List.zipWith_append hl]
theorem Yep {w w':World} {base base':Nat} {D F vo:Value} {dl:List Int} {fs:List FnP} {cv:List Value} {b:Nat->Bool} (h:Zco w base D F dl fs cv) (g:w.grownBy w' none) (hb:base<=base')
 (ho:w'.ownsRow base' 52 4 vo (Jd (Znx fs cv) b (Znx fs cv).length).length (Zjr (Jd (Znx fs cv) b (Znx fs cv).length))):Zco w' base D vo dl (Jd fs b fs.length) (Jd cv b fs.length):=by
 have h':=Xj h g
 have hz:=Zko h.cl
 rw [hz,Zzh fs cv b h.cl _ (Nat.le_refl _),Zui,Zko (by rw [Yn _ _ _ (by rw [h.cl];exact Nat.le_refl _),Yn _ _ _ (Nat.le_refl _)])] at ho
 refine ⟨h'.dt,Ye ho hb,by rw [Yn _ _ _ (by rw [h.cl];exact Nat.le_refl _),Yn _ _ _ (Nat.le_refl _)],fun k f v hf hv => ?_,fun k l v v' q hkl hv hv' hq => ?_⟩
 · obtain ⟨j,h1,h2,h3,h4⟩:=Zgu fs b _ (Nat.le_refl _) k f hf
   obtain ⟨j',h1',h2',h3',h4'⟩:=Zgu cv b _ (by rw [h.cl];exact Nat.le_refl _) k v hv
   have e:j=j':=by
    rcases Nat.lt_trichotomy j j' with e|e|e
    · have:=Zpw e h2;omega
    · exact e
    · have:=Zpw e h2';omega
   subst e
   exact h'.each j f v h3 h3'
 · obtain ⟨j,h1,h2,h3,h4⟩:=Zgu cv b _ (by rw [h.cl];exact Nat.le_refl _) k v hv
   obtain ⟨j',h1',h2',h3',h4'⟩:=Zgu cv b _ (by rw [h.cl];exact Nat.le_refl _) l v' hv'
   exact h'.dis j j' v v' q (by intro e;subst e;omega) h3 h3' hq
theorem Yhe {w:World} {base:Nat} {D:Value} {p:Option Addr} {cap:Nat} {dl:List Int} {fs:List FnP} {cv:List Value} (h:Zco w base D (.slice p fs.length cap) dl fs cv):Ynw w p (Znx fs cv):=by
 intro i x hx
 have hi:=(List.getElem?_eq_some_iff.1 hx).1
 rw [Zko h.cl] at hi
 obtain ⟨f,hf⟩:∃ f,fs[i]? = some f:=⟨_,List.getElem?_eq_getElem hi⟩
 obtain ⟨v,hv⟩:∃ v,cv[i]? = some v:=⟨_,List.getElem?_eq_getElem (by rw [h.cl];exact hi)⟩
 rw [Zxz hf hv] at hx
 injection hx with hx
 subst hx
 obtain ⟨g,cap',e,hg,hc⟩:=Yb h.fr (by omega)
 injection e with e1 e2 e3
 obtain ⟨q0,q1,q2,q3⟩:=Xs fs cv i f v hf hv
 obtain ⟨pc,kc,e4⟩:=Zq (h.each i f v hf hv)
 refine ⟨g,0,e1,hg,?_,?_,?_,?_,_,_,_,e4⟩ <;> rw [Nat.zero_add]
 · exact hc _ _ q0 (by omega)
 · exact hc _ _ q1 (by omega)
 · exact hc _ _ q2 (by omega)
 · exact hc _ _ q3 (by omega)
structure Ytq (nf:Nat) (c:List Ins):Prop where
 l:c.length<=4096
 n:1<=c.length
 j:∀ x∈c,jmp x.1=true->0<=x.2/\x.2<c.length
 k:∀ x∈c,x.1=17->0<=x.2/\x.2<nf
theorem Yfg (b:Nat->Bool) (n i:Nat) (h:i<=n):((Zbj b (n+1) (n+1)).map (Value.int .i64))[i]? = some (.int .i64 (Yo b i)):=by
 unfold Zbj
 rw [List.getElem?_map,List.getElem?_map,List.getElem?_range (by omega)]
 simp only [Option.map_some]
 rw [if_pos (by omega)]
theorem Ykw {w:World} {base b o:Nat} {D F v:Value} {dl:List Int} {fs:List FnP} {cv:List Value} {cs:Array Value} (h:Zco w base D F dl fs cv) (hb:w.heap[b]? = some (.cells cs 25 (0,0))):Zco (w.setCell ⟨b,o,none⟩ v) base D F dl fs cv:=by
 have g:=Zg w b o v
 have n:∀ {base:Nat} {e:TypeId} {size n:Nat} {v:Value} {xs:List Value},w.ownsRow base e size v n xs->e≠25->v.ownBlock=none\/v.ownBlock≠some b:=fun ho he=>Or.inr (Yd ho hb he)
 exact ⟨h.dt.kept g (n h.dt (by decide)),h.fr.kept g (n h.fr (by decide)),h.cl,fun k f v hf hv=>(h.each k f v hf hv).kept g (n (h.each k f v hf hv) (by decide)),h.dis⟩
theorem Ytb {w:World} {base:Nat} {D F:Value} {g cap:Nat} {dl:List Int} {KL:List FnP} {V:List Bool} {cv:List Value} {k j:Nat} {a lo r ei x op:Int} {c:List Ins} (h:Zco w base D F dl ((Zpj V KL k).set k (Zy (a,lo,r,c) (Zal V c j))) cv) (hkl:k<KL.length) (hv:cv[k]? = some (.slice (some ⟨g,0,none⟩) c.length cap))
 (hn:Zal V c (j+1)=(Zal V c j).set j (op,ei)) (hs:∀ u:Int,(Zw (Zal V c j)).set (j*2+1) (.int .i64 u)=Zw ((Zal V c j).set j ((op,x).1,u))) :
 Zco (w.setCell ⟨g,j*2+1,none⟩ (.int .i64 ei)) base D F dl ((Zpj V KL k).set k (Zy (a,lo,r,c) (Zal V c (j+1)))) cv:=by
 have hfk:((Zpj V KL k).set k (Zy (a,lo,r,c) (Zal V c j)))[k]? = some (Zy (a,lo,r,c) (Zal V c j)):=List.getElem?_set_self (by rw [Zbn];exact hkl)
 have h1:=Zti (i:=j*2+1) (u := .int .i64 ei) (c':=Zal V c (j+1)) h hfk (by show cv[k]? = some (.slice _ (Zal V c j).length cap);rw [Ziw];exact hv) (by show (Zal V c (j+1)).length=(Zal V c j).length;rw [Ziw,Ziw]) (by show (Zw (Zal V c j)).set _ _=_;rw [hs,hn])
 rw [List.set_set] at h1
 exact h1
theorem Yvg {g:Int->Int} {c:List Ins} {x:Ins} (h:x∈reJ g c) (e:x.1=17):x∈c:=by
 unfold reJ at h
 obtain ⟨y,hy,rfl⟩:=List.mem_map.1 h
 by_cases hj:jmp y.1=true
 · rw [if_pos hj] at e
   rw [show y.1=17 from e] at hj
   exact absurd hj (by decide)
 · rw [if_neg hj];exact hy
structure Zkn (w:World) (b:Nat) (mem:Int) (D F FA:Value) (fa:Array Value):Prop where
 p:w.heap[b]? = some (.cells #[.int .i64 mem,D,F] 25 (0,0))
 x:w.heap[b+1]? = some (.cells fa 35 (0,0))
 r:w.heap[b+1+1]? = some (.cells #[.int .i64 0,.slice none 0 0,.slice none 0 0] 25 (0,0))
theorem Zbc {w w':World} {b:Nat} {mem:Int} {D F FA:Value} {fa:Array Value} {r:Option Nat} (h:Zkn w b mem D F FA fa) (g:w.grownBy w' r) (h0:r≠some b) (h1:r≠some (b+1)) (h2:r≠some (b+1+1)):Zkn w' b mem D F FA fa :=
 ⟨Zb h.p g h0,Zb h.x g h1,Zb h.r g h2⟩
theorem Zvh {w w':World} {b base:Nat} {mem:Int} {D F FA:Value} {fa:Array Value} {E:TypeId} {sz n:Nat} {v:Value} {xs:List Value} (h:Zkn w b mem D F FA fa) (ho:w.ownsRow base E sz v n xs) (hp:E≠25) (hx:E≠35) (g:w.grownBy w' v.ownBlock):Zkn w' b mem D F FA fa :=
 Zbc h g (Yd ho h.p hp) (Yd ho h.x hx) (Yd ho h.r hp)
theorem Yyb {w:World} {b:Nat} {mem:Int} {D F F' FA:Value} {fa:Array Value} (h:Zkn w b mem D F FA fa):Zkn (w.setCell ⟨b,2,none⟩ F') b mem D F' FA fa:=by
 have g:=Zg w b 2 F'
 exact ⟨by rw [Zi h.p];rfl,Zb h.x g (by simp),Zb h.r g (by simp;omega)⟩
theorem Yya {w:World} {b:Nat} {mem:Int} {D F FA x1 x2:Value} {x0:Value} {m:Int} {fa:Array Value} (h:Zkn w b mem D F FA fa) (e:x0 = .int .i64 m:=by rfl):Zkn (((w.setCell ⟨b,0,none⟩ x0).setCell ⟨b,1,none⟩ x1).setCell ⟨b,2,none⟩ x2) b m x1 x2 FA fa:=by
 subst e
 have g:w.grownBy (((w.setCell ⟨b,0,none⟩ (.int .i64 m)).setCell ⟨b,1,none⟩ x1).setCell ⟨b,2,none⟩ x2) (some b):=Za (Za (Zg _ _ _ _) (Zg _ _ _ _)) (Zg _ _ _ _)
 exact ⟨Zxs h.p,Zb h.x g (by simp),Zb h.r g (by simp;omega)⟩
def bu6:Nat->Nat
 | 0=>32
 | 1=>33
 | 2=>34
 | 3=>35
 | 4=>36
 | 5=>37
 | 6=>38
 | 7=>39
 | 8=>1008
 | _=>5000
theorem Ziz:∀ i,i<9->∀ j,j<9->j≠i->bu6 j≠bu6 i:=by decide
theorem Yiz (i:Nat) (h:i<9):i=0\/i=1\/i=2\/i=3\/i=4\/i=5\/i=6\/i=7\/i=8:=by omega
theorem Zrv (j:Nat) (hj:j∈[2,5,6,7]):∀ i,i<9->bu6 i≠j:=by revert j;decide
def Zxr (bp bi gF nF cF3 k mm nc ko kn:Nat) (po pn:Option Addr) (kk9:Nat):Nat->Value
 | 0 => .pointer (some ⟨bp,2,none⟩)
 | 1 => .slice (some ⟨gF,0,none⟩) nF cF3
 | 2 => .int .i64 k
 | 3 => .slice po mm ko
 | 4 => .slice pn (nc+1) kn
 | 5 => .slice po mm kk9
 | 6 => .pointer (some ⟨gF,k*4,none⟩)
 | 7 => .pointer (some ⟨gF,k*4+3,none⟩)
 | 8=>undef
 | _=>undef
theorem Yyc {bp bi gF nF cF3 k mm nc ko kn:Nat} {po pn:Option Addr} {kk9:Nat} {kk92:Nat} (l:Array Bool) (hun:l.getD 5 false=false):∀ i,i<9->l.getD i false=true->bu6 i<85->Zxr bp bi gF nF cF3 k mm nc ko kn po pn kk92 i=Zxr bp bi gF nF cF3 k mm nc ko kn po pn kk9 i:=by
 intro i hi hl _
 rcases Yiz i hi with rfl|rfl|rfl|rfl|rfl|rfl|rfl|rfl|rfl <;> first|rfl|(rw [hun] at hl;cases hl)
theorem Ycl (mem:Int) (dl:List Int) (fs:List FnP) (pd pF:Option Addr) (cd cF B:Nat) (FA:Value) (gH cH gV:Nat) (gh:Nat->Nat) (hs:Nat->List Int) (V:List Bool) (w:World) (hBw:B<=w.heap.size) (hF:Yk w B pF fs) (hD:Rd w pd (dl.map (Value.int .u8))) (hd:dl.length<=4194304) (hn:fs.length<=64) (hok:∀ f∈fs,Ytq fs.length f.2.2.2) (hFA:Zhs w fs FA gH cH gV gh hs V) :
 Calls Try.prog 32 #[.agg #[.int .i64 mem,.slice pd dl.length cd,.slice pF fs.length cF],FA] w (Zfc w mem dl (Zfo fs hs V)):=by
 obtain ⟨q1,q2,m1,m2,j1,j2,ce,co,rfl⟩:=hFA.f
 have XF:=Hq hFA
 have OK:=Hq hok
 have hni:(fs.length:Int)<=64:=by omega
 have GZ:=Xf w (.cells #[.int .i64 mem,.slice pd dl.length cd,.slice pF fs.length cF] 25) (.cells #[.slice (some ⟨gH,0,none⟩) fs.length cH,.slice q1 m1 j1,.slice q2 m2 j2,.slice (some ⟨gV,0,none⟩) fs.length fs.length,.int .i64 ce,.int .i64 co] 35) (.cells #[.int .i64 0,.slice none 0 0,.slice none 0 0] 25)
 have BX:=Hq (show Zkn _ w.heap.size mem (.slice pd dl.length cd) (.slice pF fs.length cF) undef #[.slice (some ⟨gH,0,none⟩) fs.length cH,.slice q1 m1 j1,.slice q2 m2 j2,.slice (some ⟨gV,0,none⟩) fs.length fs.length,.int .i64 ce,.int .i64 co] from ⟨GZ.1,GZ.2.1,GZ.2.2⟩)
 have G0:=Hq (Xg w (.cells #[.int .i64 mem,.slice pd dl.length cd,.slice pF fs.length cF] 25) (.cells #[.slice (some ⟨gH,0,none⟩) fs.length cH,.slice q1 m1 j1,.slice q2 m2 j2,.slice (some ⟨gV,0,none⟩) fs.length fs.length,.int .i64 ce,.int .i64 co] 35) (.cells #[.int .i64 0,.slice none 0 0,.slice none 0 0] 25))
 have TW:=Hq (fun W (g:w.grownBy W none)=>Zkt mem dl fs pd pF cd cF B W (Nat.le_trans hBw g.size) (Zs hF g (by simp)) (Yy hD g) hd (by omega) (fun f hf=>by have:=(hok f hf).l;omega))
 clear hF hok hD hFA GZ
 go_enter Try.func32,Try.ntmps32
 go_wp2_with fail
 have sz2:w.heap.size+1+1+1=(((w.alloc (.cells #[.int .i64 mem,.slice pd dl.length cd,.slice pF fs.length cF] 25)).alloc (.cells #[.slice (some ⟨gH,0,none⟩) fs.length cH,.slice q1 m1 j1,.slice q2 m2 j2,.slice (some ⟨gV,0,none⟩) fs.length fs.length,.int .i64 ce,.int .i64 co] 35)).alloc (.cells #[.int .i64 0,.slice none 0 0,.slice none 0 0] 25)).heap.size:=by simp
 generalize ((w.alloc (.cells #[.int .i64 mem,.slice pd dl.length cd,.slice pF fs.length cF] 25)).alloc (.cells #[.slice (some ⟨gH,0,none⟩) fs.length cH,.slice q1 m1 j1,.slice q2 m2 j2,.slice (some ⟨gV,0,none⟩) fs.length fs.length,.int .i64 ce,.int .i64 co] 35)).alloc (.cells #[.int .i64 0,.slice none 0 0,.slice none 0 0] 25)=w2 at *
 have SZ2:=Hq sz2
 clear sz2
 refine (TW.out w2 G0.out).mono ?_
 rintro e w3 ⟨D,F,cv,rfl,g3,o3⟩
 obtain ⟨pD,pF3,cD,cF3,rfl,rfl⟩:=Jc o3
 have G3:=Hq (Za G0.out g3)
 have BX3:=Hq (Zbc BX.out g3 (by simp) (by simp) (by simp))
 have O3:=Hq (Zaj o3 (show w.heap.size<=w2.heap.size by have:=SZ2.out;omega))
 have a0:=Cq _ _ 0 _ _ _ BX3.out.p
 have a1:=Cq _ _ 1 _ _ _ BX3.out.p
 have a2:=Cq _ _ 2 _ _ _ BX3.out.p
 have z0:=frozen_of_row _ _ 0 _ _ BX3.out.p
 have z1:=frozen_of_row _ _ 1 _ _ BX3.out.p
 have z2:=frozen_of_row _ _ 2 _ _ BX3.out.p
 have la:=(Gs BX3.out.p)
 clear g3 o3
 go_wp2
 clear a0 a1 a2 z0 z1 z2 la
 have GS:=Ze (Ze (Ze (b:=w.heap.size) (o:=0) (v := .int .i64 mem) G3.out (Nat.le_refl _)) (b:=w.heap.size) (o:=1) (v := .slice pD dl.length cD) (Nat.le_refl _)) (b:=w.heap.size) (o:=2) (v := .slice pF3 fs.length cF3) (Nat.le_refl _)
 have G4:=Hq GS
 have BX4:=Hq (Yya (x0 := .int .i64 mem) (x1 := .slice pD dl.length cD) (x2 := .slice pF3 fs.length cF3) BX3.out)
 have O4:=Hq (Zag (mem:=mem) O3.out BX3.out.p)
 clear GS
 generalize ((w3.setCell ⟨w.heap.size,0,none⟩ (.int .i64 mem)).setCell ⟨w.heap.size,1,none⟩ (.slice pD dl.length cD)).setCell ⟨w.heap.size,2,none⟩ (.slice pF3 fs.length cF3)=w4 at *
 have p2:=Cq _ _ 2 _ _ _ BX4.out.p
 have lp:=(Gs BX4.out.p)
 go_loopw [18] (fun i wr=>∃ (k:Nat) (cv:List Value),i = .int .i64 k/\k<=fs.length/\w.grownBy wr none/\Zkn wr w.heap.size mem (.slice pD dl.length cD) (.slice pF3 fs.length cF3) undef #[.slice (some ⟨gH,0,none⟩) fs.length cH,.slice q1 m1 j1,.slice q2 m2 j2,.slice (some ⟨gV,0,none⟩) fs.length fs.length,.int .i64 ce,.int .i64 co]/\Zco wr w.heap.size (.slice pD dl.length cD) (.slice pF3 fs.length cF3) dl (Zhe fs hs k) cv) (fun i _=>fs.length - (intOf i).toNat)
 case atStart=>exact ⟨0,cv,rfl,Nat.zero_le _,G4.out,BX4.out,by rw [Zve];exact O4.out⟩
 case round =>
  clear p2 lp
  obtain ⟨k,cvk,rfl,hk,hg,hbx,ho⟩:=hrel
  have HG:=Hq hg
  have HX:=Hq hbx
  have HO:=Hq ho
  by_cases hlt:(k:Int)<(fs.length:Int)
  · obtain ⟨⟨a,lo,r,c⟩,hf⟩:∃ f,fs[k]? = some f:=⟨_,List.getElem?_eq_getElem (by omega)⟩
    have hkf:(Zhe fs hs k)[k]? = some (a,lo,r,c):=by rw [Zha hf,if_neg (by omega)]
    have hbk:=OK.out _ (List.mem_of_getElem? hf)
    simp only [] at hbk
    obtain ⟨v,hv⟩:∃ v,cvk[k]? = some v:=⟨_,List.getElem?_eq_getElem (by rw [ho.cl,Jb];omega)⟩
    have hrow:=ho.each k _ v hkf hv
    obtain ⟨gk,kk,hvv,hgk,-⟩:=Yb hrow (show 0<c.length from hbk.n)
    subst hvv
    obtain ⟨gF,kF,hFv,hgF,hcF⟩:=Yb ho.fr (by rw [Jb];omega)
    rw [Jb] at hFv
    injection hFv with q1 q2 q3
    subst q1;subst q3
    obtain ⟨-,-,-,q3⟩:=Xs _ cvk k _ _ hkf hv
    have cF:=hcF _ _ q3 (by rw [Jb];omega)
    have GB:=Ga wr (.cells #[.int .i64 (k:Int)] 3) none
    have e3:=GB.cell cF (by simp)
    have x2:=Cq _ _ 2 _ _ _ (Zb hbx.p GB (by simp))
    have lx2:=(Array.getElem?_eq_some_iff.1 (Zb hbx.p GB (by simp))).1
    have x0:=Cq _ _ 0 _ _ _ (Zb hbx.x GB (by simp))
    have XI:=heap_alloc_new wr (.cells #[.int .i64 (k:Int)] 3)
    have i0:=Cq _ _ 0 _ _ _ XI
    have li:=(Gs XI)
    have lF:=Nat.lt_of_lt_of_le hgF GB.size
    have hfa:=Zci XF.out (Za hg GB)
    obtain ⟨hh0,hh1⟩:=hfa.h k _ hf
    have KI:=Hq (Ymr c (some ⟨gk,0,none⟩) kk (hB (hs k)) (wr.alloc (.cells #[.int .i64 (k:Int)] 3)) hbk.l (Zmw (Zne (hrow.kept GB (Classical.em _))).2 (Nat.le_refl _)) ⟨w.heap.size+1,0,none⟩ ⟨wr.heap.size,0,none⟩ (fun W g i hi=>Yus (w.heap.size+1) wr.heap.size gH (gh k) k i fs.length c.length cH c.length _ W (g.cell x0 (by simp)) (g.cell i0 (by simp)) (g.cell hh0 (by simp)) (g.cell (hh1 i hi) (by simp)) (by omega) hi))
    have G5:=Hq (Za hg GB)
    have B5:=Hq (Zbc hbx GB (by simp) (by simp) (by simp))
    have O5:=Hq (Xj ho GB)
    have XI5:=Hq XI
    have HF:=Hq hf
    have HV:=Hq hv
    have HKF:=Hq hkf
    have BK:=Hq hbk
    have hcl:(c.length:Int)<=4096:=by have:=hbk.l;omega
    clear hf hkf hbk hv hrow hcF q3 cF GB XI hfa hh0 hh1 hg hbx ho q2 x0 i0
    go_wp2_with fail
    generalize hbi:wr.heap.size=bi at *
    have HBI:=Hq hbi
    clear hbi
    generalize wr.alloc (.cells #[.int .i64 (k:Int)] 3)=w5 at *
    refine KI.out.mono ?_
    rintro e w6 ⟨vo,vn,rfl,g6,o6,n6⟩
    obtain ⟨po,ko,rfl⟩:=Zq o6
    obtain ⟨pn,kn,rfl⟩:=Zq n6
    have HM:=Yn c (hB (hs k)) c.length (Nat.le_refl _)
    have hml:=Zcq (hB (hs k)) c.length
    rw [<- HM] at hml
    have RN:=Hq (fun W (g:w6.grownBy W none)=>Zmb (Jd c (hB (hs k)) c.length) (Zbj (hB (hs k)) (c.length+1) (c.length+1)) w5.heap.size w5.heap.size _ _ W (by omega) (o6.kept g (Classical.em _)) (by rw [Zmh];exact n6.kept g (Classical.em _)) (fun x hx hj=>by rw [Zmh];have:=BK.out.j x (Zel hx) hj;omega))
    have RC:=Hq (show reJ (fun a=>(Zbj (hB (hs k)) (c.length+1) (c.length+1)).getD a.toNat 0) (Jd c (hB (hs k)) c.length)=Zaw c (hs k) from Zte fun x hx hj=>by
     have:=BK.out.j x (Zel hx) hj
     exact Ylj _ _ _ (by omega))
    have bL:=(Gs B5.out.p)
    have s2:=g6.cell x2 (by simp)
    have s3:=g6.cell e3 (by simp)
    have si:=g6.cell (Cq _ _ 0 _ _ _ XI5.out) (by simp)
    have m2:=Nat.lt_of_lt_of_le lx2 g6.size
    have mi:=Nat.lt_of_lt_of_le li g6.size
    have mF:=Nat.lt_of_lt_of_le lF g6.size
    have G6:=Hq g6
    have OO:=Hq o6
    have HMM:=Hq hml
    have t2:=x2
    have t3:=e3
    have ti:=Cq _ _ 0 _ _ _ XI5.out
    have y2:=lx2
    have yi:=li
    have yF:=lF
    have TT:=Hq (And.intro t2 (And.intro t3 (And.intro ti (And.intro y2 (And.intro yi yF)))))
    clear g6 o6 n6 x2 e3 lx2 li lF HM hml bL t2 t3 ti y2 yi yF
    generalize hmm:(Jd c (hB (hs k)) c.length).length=mm at *
    have HMM2:=Hq hmm
    clear hmm
    go_wp2
    obtain ⟨t2,t3,ti,y2,yi,yF⟩:=TT.out
    go_upto_region 6 with fail
    rename (∀ (a:Act) (w:World),Code.wp _ _ _ a w->_)=>hK
    refine Xe (n:=9) (J:=fun a0 l a1 w1=>∃ kk9,RJ a0 85 9 bu6 (Zxr w.heap.size bi gF fs.length cF3 k mm c.length ko kn po pn kk9) l a1/\WY 5 8 9 [(1,0),(5,3),(5,4),(6,1),(6,2),(7,6),(8,7),(8,5)] (w6.drew) (fun W'=>w5.grownBy W' none) (fun W'=>w5.grownBy W' none/\kk9=ko/\W'.ownsRow w5.heap.size 49 2 (.slice po mm kk9) mm (Zw (Zaw c (hs k)))) (fun W'=>∃ w7:World,W'=w7.setCell ⟨gF,k*4+3,none⟩ (.slice po mm kk9)/\w5.grownBy w7 none/\kk9=ko/\w7.ownsRow w5.heap.size 49 2 (.slice po mm kk9) mm (Zw (Zaw c (hs k)))) l w1) (by kernel_rfl) rfl (Jh (by kernel_rfl)) (fun l a1 w1 h=>by obtain ⟨_,_,h⟩:=h;exact h.sz) ⟨0,Xd rfl,Zkq (Zd G6.out)⟩ ?step ?fin
    case step =>
     intro l a1 w' i hJJ hi hin
     obtain ⟨kk9,hJ,hW⟩:=hJJ
     have hun:l.getD i false=false:=getD_both (mem_ready.1 hi).1
     have hns:=Yak hW hin hun
     have hb:=hW.b hns
     have l0:=Nat.lt_of_lt_of_le y2 hb.size
     have l1:=Nat.lt_of_lt_of_le yi hb.size
     have l2:=Nat.lt_of_lt_of_le yF hb.size
     rcases Yiz i hin with rfl|rfl|rfl|rfl|rfl|rfl|rfl|rfl|rfl
     · have e2:a1.tmps.getD 2 undef = .pointer (some ⟨w.heap.size,0,none⟩):=hJ.un 2 (fun i hi _=>Zrv 2 (by decide) i hi)
       exact Zj (Zp hW hJ rfl (by rfl) rfl (by decide) (by decide) (Ziz _ (by decide)) (w':=w') (by simp [execOp,resolve,invoke,builtin,Act.eval,e2,hlt,l0,l1,l2,go_sem,Zxr]) (Yg hW (by decide) hun (by decide) (by decide) (Zn _ hi (by kernel_rfl)))) (fun a9 w9 h9=>⟨kk9,h9⟩)
     · have e32:a1.tmps.getD 32 undef = .pointer (some ⟨w.heap.size,2,none⟩):=(Zm hJ hi 0 (by kernel_rfl))
       have h0:=hb.cell t2 (by simp)
       exact Zj (Zp hW hJ rfl (by rfl) rfl (by decide) (by decide) (Ziz _ (by decide)) (w':=w') (by simp [execOp,resolve,invoke,builtin,Act.eval,e32,h0,hlt,l0,l1,l2,go_sem,Zxr]) (Yg hW (by decide) hun (by decide) (by decide) (Zn _ hi (by kernel_rfl)))) (fun a9 w9 h9=>⟨kk9,h9⟩)
     · have e5:a1.tmps.getD 5 undef = .pointer (some ⟨bi,0,none⟩):=hJ.un 5 (fun i hi _=>Zrv 5 (by decide) i hi)
       have h0:=hb.cell ti (by simp)
       exact Zj (Zp hW hJ rfl (by rfl) rfl (by decide) (by decide) (Ziz _ (by decide)) (w':=w') (by simp [execOp,resolve,invoke,builtin,Act.eval,e5,h0,hlt,l0,l1,l2,go_sem,Zxr]) (Yg hW (by decide) hun (by decide) (by decide) (Zn _ hi (by kernel_rfl)))) (fun a9 w9 h9=>⟨kk9,h9⟩)
     · have e6:a1.tmps.getD 6 undef = .slice po mm ko:=hJ.un 6 (fun i hi _=>Zrv 6 (by decide) i hi)
       exact Zj (Zp hW hJ rfl (by rfl) rfl (by decide) (by decide) (Ziz _ (by decide)) (w':=w') (by simp [execOp,resolve,invoke,builtin,Act.eval,e6,hlt,l0,l1,l2,go_sem,Zxr]) (Yg hW (by decide) hun (by decide) (by decide) (Zn _ hi (by kernel_rfl)))) (fun a9 w9 h9=>⟨kk9,h9⟩)
     · have e7:a1.tmps.getD 7 undef = .slice pn (c.length+1) kn:=hJ.un 7 (fun i hi _=>Zrv 7 (by decide) i hi)
       exact Zj (Zp hW hJ rfl (by rfl) rfl (by decide) (by decide) (Ziz _ (by decide)) (w':=w') (by simp [execOp,resolve,invoke,builtin,Act.eval,e7,hlt,l0,l1,l2,go_sem,Zxr]) (Yg hW (by decide) hun (by decide) (by decide) (Zn _ hi (by kernel_rfl)))) (fun a9 w9 h9=>⟨kk9,h9⟩)
     · have e35:a1.tmps.getD 35 undef = .slice po mm ko:=(Zm hJ hi 3 (by kernel_rfl))
       have e36:a1.tmps.getD 36 undef = .slice pn (c.length+1) kn:=(Zm hJ hi 4 (by kernel_rfl))
       have hw0:=hW.h0 hun
       subst hw0
       refine Xq rfl (by rfl) (by simp [execOp,resolve,invoke,Act.eval,e35,e36,go_sem]) (Calls.mono (RN.out w6.drew (Zd (Zc w6 none))) (fun e w2 he => ?_))
       obtain ⟨he1,g6,o9⟩:=he
       obtain ⟨kk92,hkk92⟩:∃ x:Nat,x=ko:=⟨_,rfl⟩
       rw [RC.out,HMM2.out,<- hkk92] at o9
       rw [<- hkk92] at he1
       subst he1
       have g7:w5.grownBy w2 none:=Yu (Za G6.out (Zd (Zc w6 none))) g6 (fun q hq=>(OO.out.lt q hq).1)
       refine ⟨_,rfl,kk92,?_,Zpl hW (by decide) hun (by decide) (Zn _ hi (by kernel_rfl)) (g7) (⟨g7,hkk92,o9⟩)⟩
       exact Jq (val:=Zxr w.heap.size bi gF fs.length cF3 k mm c.length ko kn po pn kk92) (Jj hJ (Yyc l hun)) (by decide) (by decide) (Ziz _ (by decide))
     · have e33:a1.tmps.getD 33 undef = .slice (some ⟨gF,0,none⟩) fs.length cF3:=(Zm hJ hi 1 (by kernel_rfl))
       have e34:a1.tmps.getD 34 undef = .int .i64 k:=(Zm hJ hi 2 (by kernel_rfl))
       exact Zj (Zp hW hJ rfl (by rfl) rfl (by decide) (by decide) (Ziz _ (by decide)) (w':=w') (by first|(simp [execOp,resolve,invoke,builtin,Act.eval,e33,e34,hlt,l0,l1,l2,go_sem,Zxr];done)|(simp [execOp,resolve,invoke,builtin,Act.eval,e33,e34,hlt,l0,l1,l2,go_sem,Zxr];omega)|(simp [execOp,resolve,invoke,builtin,Act.eval,e33,e34,hlt,l0,l1,l2,go_sem,Zxr];intro h;omega)|(simp [execOp,resolve,invoke,builtin,Act.eval,e33,e34,hlt,l0,l1,l2,go_sem,Zxr];intros;omega)) (Yg hW (by decide) hun (by decide) (by decide) (Zn _ hi (by kernel_rfl)))) (fun a9 w9 h9=>⟨kk9,h9⟩)
     · have e38:a1.tmps.getD 38 undef = .pointer (some ⟨gF,k*4,none⟩):=(Zm hJ hi 6 (by kernel_rfl))
       exact Zj (Zp hW hJ rfl (by rfl) rfl (by decide) (by decide) (Ziz _ (by decide)) (w':=w') (by simp [execOp,resolve,invoke,builtin,Act.eval,e38,hlt,l0,l1,l2,go_sem,Zxr]) (Yg hW (by decide) hun (by decide) (by decide) (Zn _ hi (by kernel_rfl)))) (fun a9 w9 h9=>⟨kk9,h9⟩)
     · have e39:a1.tmps.getD 39 undef = .pointer (some ⟨gF,k*4+3,none⟩):=(Zm hJ hi 7 (by kernel_rfl))
       have e37:a1.tmps.getD 37 undef = .slice po mm kk9:=(Zm hJ hi 5 (by kernel_rfl))
       have hpw:=hW.h1 (Zf hi 5 (by kernel_rfl)) hun
       have hc9:=hb.cell t3 (by simp)
       have hfz9:w'.frozen? ⟨gF,k*4+3,none⟩=false:=Yf (O5.out.fr.kept hb (Classical.em _)) (k*4+3)
       exact Zj (Zbh hW hJ rfl rfl rfl (by decide) (by decide) (w':=w'.setCell ⟨gF,k*4+3,none⟩ (.slice po mm kk9)) (by simp [execOp,Act.eval,e39,e37,hfz9,hc9,go_sem]) (Zkp hW (by decide) (by decide) (by decide) (fun j hj hne=>by
        rcases Yiz j hj with rfl|rfl|rfl|rfl|rfl|rfl|rfl|rfl|rfl
        · exact hW.cl (1,0) (by decide) (hW.cl (6,1) (by decide) (hW.cl (7,6) (by decide) (Zf hi 7 (by kernel_rfl))))
        · exact hW.cl (6,1) (by decide) (hW.cl (7,6) (by decide) (Zf hi 7 (by kernel_rfl)))
        · exact hW.cl (6,2) (by decide) (hW.cl (7,6) (by decide) (Zf hi 7 (by kernel_rfl)))
        · exact hW.cl (5,3) (by decide) (Zf hi 5 (by kernel_rfl))
        · exact hW.cl (5,4) (by decide) (Zf hi 5 (by kernel_rfl))
        · exact Zf hi 5 (by kernel_rfl)
        · exact hW.cl (7,6) (by decide) (Zf hi 7 (by kernel_rfl))
        · exact Zf hi 7 (by kernel_rfl)
        · exact absurd rfl hne) (Zn _ hi (by kernel_rfl)) (⟨w',rfl,hpw.1,hpw.2.1,hpw.2.2⟩))) (fun a9 w9 h9=>⟨kk9,h9⟩)
    intro l a1 w9 hJJ hl
    obtain ⟨kk9,hJ,hW⟩:=hJJ
    obtain ⟨w7,rfl,g7,hkk,o7⟩:=hW.h2 (hl 8 (by decide))
    subst hkk
    have hput:=Jf hJ rfl hl (fun i j h1 h2 h3=>Ziz j h2 i h1 h3)
    subst hput
    have O7:=Xj O5.out g7
    have hbF:=(O7.fr.lt gF rfl).1
    have hil:=(List.getElem?_eq_some_iff.1 HKF.out).1
    have OP:=Zyr (w':=w7) (f':=Zy (a,lo,r,c) (Zaw c (hs k))) (v := .slice po mm kk9) (by rw [Jb];exact O7) HKF.out ⟨rfl,rfl,rfl⟩ (by
     show World.ownsRow _ _ _ _ _ (Zaw c (hs k)).length (Zw (Zaw c (hs k)))
     rw [show (Zaw c (hs k)).length=mm by rw [<- HMM2.out];simp [Zaw,reJ]]
     exact Ye o7 G5.out.size) (fun k' v' b hne hv' hb hb2=>by
     have hk'l:=(List.getElem?_eq_some_iff.1 hv').1
     rw [O5.out.cl] at hk'l
     have h1:=((O5.out.each k' _ v' (List.getElem?_eq_getElem hk'l) hv').lt b hb).2
     have h2:=(o7.lt b hb2).1
     omega)
    rw [<- Zvg HF.out,Jb] at OP
    have ON:=Hq OP
    have GN:=Hq (Ze (b:=gF) (o:=k*4+3) (v := .slice po mm kk9) (Za G5.out g7) hbF)
    have BN:=Hq (Zvh (Zbc B5.out g7 (by simp) (by simp) (by simp)) O7.fr (by decide) (by decide) (Zg w7 gF (k*4+3) (.slice po mm kk9)))
    clear hJ hW hl g7 o7 O7 OP hbF hil
    refine hK _ _ ?_
    simp only [Zai,bu6,Zxr,Act.put,List.setIfInBounds_toArray,List.set_cons_zero,List.set_cons_succ]
    clear hK s2 s3 si m2 mi mF t2 t3 ti y2 yi yF
    go_wp2
    go_roundw
    case rel=>exact ⟨k+1,_,by go_num,by omega,GN.out,BN.out,ON.out⟩
    case measure=>simp [intOf];omega
  · have hkn:k=fs.length:=by omega
    subst hkn
    have hz:(Znx (Zhe fs hs fs.length) cvk).length=fs.length:=by rw [Zko ho.cl,Jb]
    have hq0:=ho
    rw [show (Value.slice pF3 fs.length cF3) = .slice pF3 (Zhe fs hs fs.length).length cF3 by rw [Jb]] at hq0
    have x3:=Cq _ _ 3 _ _ _ hbx.x
    have hfa:=Zci XF.out hg
    have KF:=Yms (Znx (Zhe fs hs fs.length) cvk) pF3 cF3 (vB V) wr (by rw [hz];omega) (Yhe hq0) ⟨w.heap.size+1,0,none⟩ (fun W g i hi=>Yur (w.heap.size+1) gV i fs.length fs.length (vB V i) W (g.cell x3 (by simp)) (g.cell (hfa.v i (by rw [hz] at hi;exact hi)) (by simp)) (by rw [hz] at hi;exact hi))
    rw [hz] at KF
    have KI:=Hq KF
    have p2:=Cq _ _ 2 _ _ _ hbx.p
    have lp:=(Gs hbx.p)
    clear KF hq0 x3 hfa hg hbx ho
    go_wp2_with fail
    clear p2 lp
    refine KI.out.mono ?_
    rintro e w6 ⟨vo,vn,rfl,g6,o6,n6⟩
    obtain ⟨po,ko,rfl⟩:=Zq o6
    obtain ⟨pn,kn,rfl⟩:=Zq n6
    have hKl:=Yn (Znx (Zhe fs hs fs.length) cvk) (vB V) fs.length (by rw [hz];exact Nat.le_refl _)
    have hKl2:=Yn (Zhe fs hs fs.length) (vB V) fs.length (by rw [Jb];exact Nat.le_refl _)
    have hKl3:=Zcq (vB V) fs.length
    have OK6:=Yep (b:=vB V) HO.out g6 HG.out.size (by rw [hz];exact o6)
    rw [Jb] at OK6
    rw [hKl,<- hKl2]
    rw [hKl,<- hKl2] at OK6
    have O6:=Hq OK6
    have G6:=Hq (Za HG.out g6)
    have B6:=Hq (Zbc HX.out g6 (by simp) (by simp) (by simp))
    have N6:=Hq (Ye n6 HG.out.size)
    have CR:=Hq (show ∀ f∈Jd (Zhe fs hs fs.length) (vB V) fs.length,f.2.2.2.length<=4096/\∀ x∈f.2.2.2,x.1=17->0<=x.2/\x.2<fs.length from fun f hf=>by
     have h1:=Zel hf
     obtain ⟨i,hi⟩:=List.getElem?_of_mem h1
     have hil:=(List.getElem?_eq_some_iff.1 hi).1
     rw [Jb] at hil
     rw [Zha (List.getElem?_eq_getElem hil),if_pos hil] at hi
     injection hi with hi
     subst hi
     have hb0:=OK.out _ (List.getElem_mem hil)
     refine ⟨?_,fun x hx e => ?_⟩
     · show (Zaw (fs[i]).2.2.2 (hs i)).length<=4096
       have h2:=Yn (fs[i]).2.2.2 (hB (hs i)) _ (Nat.le_refl _)
       have h3:=Zcq (hB (hs i)) (fs[i]).2.2.2.length
       have h4:=hb0.l
       simp only [Zaw,reJ,List.length_map]
       omega
     · have hx2:x∈Zaw (fs[i]).2.2.2 (hs i):=hx
       unfold Zaw at hx2
       exact hb0.k x (Zel (Yvg hx2 e)) e)
    have hML:((Jd (Zhe fs hs fs.length) (vB V) fs.length).length:Int)<=64:=by omega
    have EQ:=Hq (show Zfo fs hs V=Zpj V (Jd (Zhe fs hs fs.length) (vB V) fs.length) (Jd (Zhe fs hs fs.length) (vB V) fs.length).length from (Yno _ _).symm)
    clear OK6 g6 o6 n6 hKl hKl2 hKl3 hz
    generalize Jd (Zhe fs hs fs.length) (vB V) fs.length=KL at *
    generalize Jd cvk (vB V) fs.length=CV at *
    go_wp2
    go_loopw [50] (fun i wr=>∃ k:Nat,i = .int .i64 k/\k<=KL.length/\w.grownBy wr none/\Zkn wr w.heap.size mem (.slice pD dl.length cD) (.slice pF3 fs.length cF3) undef #[.slice (some ⟨gH,0,none⟩) fs.length cH,.slice q1 m1 j1,.slice q2 m2 j2,.slice (some ⟨gV,0,none⟩) fs.length fs.length,.int .i64 ce,.int .i64 co] /\
     Zco wr w.heap.size (.slice pD dl.length cD) (.slice po KL.length ko) dl (Zpj V KL k) CV/\wr.ownsRow w.heap.size 3 1 (.slice pn (fs.length+1) kn) (fs.length+1) ((Zbj (vB V) (fs.length+1) (fs.length+1)).map (Value.int .i64))) (fun i _=>KL.length - (intOf i).toNat)
    case atStart=>exact ⟨0,rfl,Nat.zero_le _,G6.out,B6.out,by rw [Yir];exact O6.out,N6.out⟩
    case round =>
     obtain ⟨k,rfl,hk,hg,hbx,ho,hnum⟩:=hrel
     have HG2:=Hq hg
     have HX2:=Hq hbx
     have HO2:=Hq ho
     have HN2:=Hq hnum
     by_cases hlt:(k:Int)<(KL.length:Int)
     · obtain ⟨⟨a,lo,r,c⟩,hf⟩:∃ f,KL[k]? = some f:=⟨_,List.getElem?_eq_getElem (by omega)⟩
       obtain ⟨v,hv⟩:∃ v,CV[k]? = some v:=⟨_,List.getElem?_eq_getElem (by rw [ho.cl,Zbn];omega)⟩
       have hkf:(Zpj V KL k)[k]? = some (a,lo,r,c):=by rw [Zix hf,if_neg (by omega)]
       have hrow:=ho.each k _ v hkf hv
       obtain ⟨pv,kv,rfl⟩:=Zq hrow
       obtain ⟨gF,kF,hFv,hgF,hcF⟩:=Yb ho.fr (by rw [Zbn];omega)
       rw [Zbn] at hFv
       injection hFv with e1 e2 e3
       subst e1;subst e3
       obtain ⟨-,-,-,q3⟩:=Xs _ CV k _ _ hkf hv
       have cF:=hcF _ _ q3 (by rw [Zbn];omega)
       obtain ⟨hcl,hc17⟩:=CR.out _ (List.mem_of_getElem? hf)
       simp only [] at hcl hc17
       have hcli:(c.length:Int)<=4096:=by omega
       have C17:=Hq hc17
       have HF:=Hq hf
       have HV:=Hq hv
       have OZ:=Hq (show Zco wr w.heap.size (.slice pD dl.length cD) (.slice (some ⟨gF,0,none⟩) KL.length ko) dl ((Zpj V KL k).set k (Zy (a,lo,r,c) (Zal V c 0))) CV by
        rw [Ycg,show Zy (a,lo,r,c) c=(a,lo,r,c) from rfl]
        obtain ⟨h3,h4⟩:=List.getElem?_eq_some_iff.1 hkf
        rw [<- h4,List.set_getElem_self h3]
        exact ho)
       clear hg hbx ho hnum hf hv hkf hrow hcF q3 hc17 e2
       obtain ⟨wo,hwo⟩:∃ wo,wo=wr:=⟨_,rfl⟩
       subst hwo
       go_wp2
       clear cF hgF
       go_loopw [59] (fun i wr=>∃ j:Nat,i = .int .i64 j/\j<=c.length/\w.grownBy wr none/\Zkn wr w.heap.size mem (.slice pD dl.length cD) (.slice pF3 fs.length cF3) undef #[.slice (some ⟨gH,0,none⟩) fs.length cH,.slice q1 m1 j1,.slice q2 m2 j2,.slice (some ⟨gV,0,none⟩) fs.length fs.length,.int .i64 ce,.int .i64 co] /\
        Zco wr w.heap.size (.slice pD dl.length cD) (.slice (some ⟨gF,0,none⟩) KL.length ko) dl ((Zpj V KL k).set k (Zy (a,lo,r,c) (Zal V c j))) CV/\wr.ownsRow w.heap.size 3 1 (.slice pn (fs.length+1) kn) (fs.length+1) ((Zbj (vB V) (fs.length+1) (fs.length+1)).map (Value.int .i64))) (fun i _=>c.length - (intOf i).toNat)
       case atStart=>exact ⟨0,rfl,Nat.zero_le _,HG2.out,HX2.out,OZ.out,HN2.out⟩
       case round =>
        obtain ⟨j,rfl,hj,hg,hbx,ho,hnum⟩:=hrel
        have IG:=Hq hg
        have IX:=Hq hbx
        have IO:=Hq ho
        have IN:=Hq hnum
        clear OZ
        have hfk:((Zpj V KL k).set k (Zy (a,lo,r,c) (Zal V c j)))[k]? = some (Zy (a,lo,r,c) (Zal V c j)):=List.getElem?_set_self (by rw [Zbn];omega)
        by_cases hlj:(j:Int)<(c.length:Int)
        · obtain ⟨⟨op,x⟩,hx⟩:∃ x,c[j]? = some x:=⟨_,List.getElem?_eq_getElem (by omega)⟩
          have hrow:=ho.each k _ _ hfk HV.out
          have rl:(Zy (a,lo,r,c) (Zal V c j)).2.2.2.length=c.length:=Ziw _ _ _
          rw [rl] at hrow
          obtain ⟨gk,kk,ek,hgk,hck⟩:=Yb hrow (by omega)
          injection ek with e4 e5 e6
          subst e4;subst e6
          obtain ⟨qk0,qk1⟩:=Zad (Zal V c j) j op x (Zng hx)
          have d0:=hck _ _ qk0 (by omega)
          have d1:=hck _ _ qk1 (by omega)
          have GX:=Ga wr (.cells #[.int .i64 op,.int .i64 x] 49) none
          by_cases h17:op=17
          · subst h17
            obtain ⟨hx0,hx1⟩:=C17.out _ (List.mem_of_getElem? hx) rfl
            simp only [] at hx0 hx1
            obtain ⟨m,rfl⟩:=Int.eq_ofNat_of_zero_le hx0
            obtain ⟨gF',cap',eF',hgF,hcF⟩:=Yb ho.fr (by rw [List.length_set,Zbn];omega)
            injection eF' with e1 e2 e3
            injection e1 with e1;injection e1 with e1 _ _;subst e1
            obtain ⟨-,-,-,q3⟩:=Xs _ CV k _ _ hfk HV.out
            have f3:=GX.cell (hcF _ _ q3 (by rw [List.length_set,Zbn];omega)) (by simp)
            have k1:=GX.cell d1 (by simp)
            have kz:=Yf (hrow.kept GX (Classical.em _)) (j*2+1)
            obtain ⟨gn,kn',en,hgn,hcn⟩:=Yb hnum (by omega)
            injection en with en1 en2 en3
            subst en1;subst en3
            have n1:=GX.cell (hcn m (.int .i64 (Yo (vB V) m)) (Yfg _ _ _ (by omega)) (by omega)) (by simp)
            have lFx:=Nat.lt_of_lt_of_le hgF GX.size
            have lkx:=Nat.lt_of_lt_of_le hgk GX.size
            have lnx:=Nat.lt_of_lt_of_le hgn GX.size
            have XX:=heap_alloc_new wr (.cells #[.int .i64 17,.int .i64 (m:Int)] 49)
            have y1:=Cq _ _ 1 _ _ _ XX
            have ly:=(Gs XX)
            have O8:=Hq (Xj ho GX)
            have G8:=Hq (Za hg GX)
            have X8:=Hq (Zbc hbx GX (by simp) (by simp) (by simp))
            have N8:=Hq (hnum.kept GX (Classical.em _))
            have R8:=Hq (hrow.kept GX (Classical.em _))
            have hm1:(m:Int)<(fs.length:Int)+1:=by omega
            have KN:=Hq (Zpi (V:=V) hx)
            have FS:=Hq (fun u=>Zgy (Zal V c j) j (17,(m:Int)) u (Zng hx))
            have HFK:=Hq hfk
            clear hg hbx ho hnum hfk hx hrow rl hck qk0 qk1 GX hx0 hx1 hcF q3 hcn e2 e3 e5 en2 XX
            go_wp2
            clear d0 d1
            generalize hwx:wr.heap.size=bx at *
            have HBX:=Hq hwx
            clear hwx
            generalize wr.alloc (.cells #[.int .i64 17,.int .i64 (m:Int)] 49)=w8 at *
            generalize hst:((Yo (vB V) m:Nat):Int)=st at *
            have HST:=Hq hst
            clear hst
            go_region
            clear f3 k1 kz n1 lFx lkx lnx y1 ly
            have hbs:=(R8.out.lt gk rfl).1
            have NO:=Hq (Ytb (ei:=st) (x:=(m:Int)) O8.out (by omega) HV.out (by have:=KN.out;rw [this];simp only [if_true];rw [show ((m:Int)).toNat=m by simp,HST.out]) FS.out)
            have NG:=Hq (Ze (b:=gk) (o:=j*2+1) (v := .int .i64 st) G8.out hbs)
            have NX:=Hq (Zvh X8.out R8.out (by decide) (by decide) (Zg w8 gk (j*2+1) (.int .i64 st)))
            have NN:=Hq (N8.out.kept (Zg w8 gk (j*2+1) (.int .i64 st)) (Xr N8.out R8.out (by decide)))
            clear hbs
            go_wp2
            go_roundw
            case rel=>exact ⟨j+1,by go_num,by omega,Zd NG.out,Zbc NX.out (Zd (Zc _ none)) (by simp) (by simp) (by simp),Xj NO.out (Zd (Zc _ none)),NN.out.kept (Zd (Zc _ none)) (Classical.em _)⟩
            case measure=>simp [intOf];omega
          · have z17:(op == 17)=false:=by simpa using h17
            have KS:=Hq (Ych (V:=V) hx h17)
            have O8:=Hq (Xj ho GX)
            have G8:=Hq (Za hg GX)
            have X8:=Hq (Zbc hbx GX (by simp) (by simp) (by simp))
            have N8:=Hq (hnum.kept GX (Classical.em _))
            clear hg hbx ho hnum hfk hx hrow rl hck qk0 qk1 GX h17 e5
            go_wp2
            go_roundw
            case rel=>exact ⟨j+1,by go_num,by omega,G8.out,X8.out,by rw [KS.out];exact O8.out,N8.out⟩
            case measure=>simp [intOf];omega
        · have hjn:j=c.length:=by omega
          subst hjn
          have OE:=Hq (show Zco wr w.heap.size (.slice pD dl.length cD) (.slice (some ⟨gF,0,none⟩) KL.length ko) dl (Zpj V KL (k+1)) CV by
           rw [Yis HF.out,show Zfb V (a,lo,r,c).2.2.2=Zal V c c.length from (Yiq V c).symm]
           exact ho)
          clear hg hbx ho hnum hfk
          go_wp2
          go_roundw
          case rel=>exact ⟨k+1,by go_num,by omega,IG.out,IX.out,OE.out,IN.out⟩
          case measure=>simp [intOf];omega
     · have hkn:k=KL.length:=by omega
       subst hkn
       have OE:=Hq (show Zco wr w.heap.size (.slice pD dl.length cD) (.slice po KL.length ko) dl (Zfo fs hs V) CV by rw [EQ.out];exact ho)
       have BP:=Yyb (F' := .slice po KL.length ko) hbx
       have BH:=Hq BP
       have u0:=Cq _ _ 0 _ _ _ hbx.p
       have u1:=Cq _ _ 1 _ _ _ hbx.p
       have u2:=Cq _ _ 2 _ _ _ hbx.p
       have u2z:=frozen_of_row _ _ 2 _ _ hbx.p
       have lu:=(Gs hbx.p)
       have v0:=Cq _ _ 0 _ _ _ hbx.r
       have v1:=Cq _ _ 1 _ _ _ hbx.r
       have v2:=Cq _ _ 2 _ _ _ hbx.r
       have z0:=frozen_of_row _ _ 0 _ _ hbx.r
       have z1:=frozen_of_row _ _ 1 _ _ hbx.r
       have z2:=frozen_of_row _ _ 2 _ _ hbx.r
       have lv:=(Gs hbx.r)
       clear hg hbx ho hnum BP
       go_wp2
       have OF:=Ykw (b:=w.heap.size) (o:=2) (v := .slice po KL.length ko) OE.out HX2.out.p
       refine bodyPost_ret (v := .agg #[.int .i64 mem,.slice pD dl.length cD,.slice po KL.length ko]) ?_ rfl ⟨_,_,CV,rfl,Ze (Ze (Ze (Ze HG2.out (Nat.le_refl _)) (by omega)) (by omega)) (by omega),Zag OF BH.out.r⟩
       rw [Ym rfl]
       go_simp
def Zdz (g:Nat->Int) (n k:Nat):List Int:=(List.range n).map fun j=>if j<k then g j else 0
theorem Zmi (g:Nat->Int) (n k:Nat):(Zdz g n k).length=n:=by simp [Zdz]
theorem Yfh (g:Nat->Int) (n k:Nat) (h:k<n):((Zdz g n k).map (Value.int .i64)).set k (.int .i64 (g k))=(Zdz g n (k+1)).map (Value.int .i64):=by
 apply List.ext_getElem?
 intro j
 by_cases e:j=k
 · subst e
   rw [List.getElem?_set_self (by simp [Zmi];exact h)]
   simp [Zdz,h]
 · rw [List.getElem?_set_ne (Ne.symm e)]
   by_cases hj:j<n
   · simp only [Zdz,List.map_map,List.getElem?_map,List.getElem?_range,hj,if_true]
     simp only [Option.map_some,Function.comp]
     by_cases h1:j<k
     · rw [if_pos h1,if_pos (by omega)]
     · rw [if_neg h1,if_neg (by omega)]
   · simp [Zdz,hj]
theorem Ybj (g:Nat->Int) (n:Nat):(Zdz g n 0).map (Value.int .i64)=List.replicate n (.int .i64 0):=by
 apply List.ext_getElem?
 intro j
 by_cases hj:j<n
 · simp [Zdz,hj]
 · simp [Zdz,hj]
theorem Yfi (g:Nat->Int) (n k:Nat) (h:k<n):((Zdz g n k).map (Value.int .i64))[k]? = some (.int .i64 0):=by simp [Zdz,h]
theorem Ylk (g:Nat->Int) (n i:Nat) (h:i<n):(Zdz g n n).getD i 0=g i:=by
 unfold Zdz
 rw [List.getD_eq_getElem?_getD,List.getElem?_map,List.getElem?_range h]
 simp
 omega
theorem Ybw (c:List Ins) (k:Nat):∀ (j:Nat) (u:Value),(Zw (c.drop k))[j]? = some u->(Zw c)[k*2+j]? = some u:=by
 intro j u h
 by_cases hk:k<=c.length
 · have e:Zw c=Zw (c.take k)++Zw (c.drop k):=by rw [<- Yv,List.take_append_drop]
   rw [e,List.getElem?_append_right (by rw [Xo,List.length_take];omega),Xo,List.length_take,Nat.min_eq_left hk]
   rw [show k*2+j - k*2=j by omega]
   exact h
 · rw [List.drop_eq_nil_of_le (by omega)] at h
   simp [Zw] at h
theorem Zjs (c:List Ins) (k:Nat):∀ (j:Nat) (u:Value),(Zw (c.take k))[j]? = some u->(Zw c)[j]? = some u:=by
 intro j u h
 have e:Zw c=Zw (c.take k)++Zw (c.drop k):=by rw [<- Yv,List.take_append_drop]
 have:=(List.getElem?_eq_some_iff.1 h).1
 rw [e,List.getElem?_append_left this]
 exact h
structure Ynu (c:List Ins) (n long:Nat) (put:List Ins):Prop where
 l:c.length<=4096
 b:n<c.length
 g:1<=long
 t:n+long<=c.length
 p:put.length<=4096
 j:∀ x∈c,jmp x.1=true->0<=x.2/\x.2<c.length
 k:∀ x∈put,jmp x.1=true->0<=x.2/\x.2<c.length
def Zbi (c:List Ins) (n long:Nat) (put:List Ins):List Ins:=reJ (Zdo n long put.length) (c.take n++put++c.drop (n+long))
def plG (n long many:Nat) (a:Nat):Int:=Zdo n long many a
theorem Yad {w:World} {b o j:Nat} {u:Value} (h:w.cell? ⟨b,o+j,none⟩=some u):w.cell? ((⟨b,o,none⟩:Addr).add j)=some u:=by
 by_cases e0:j=0
 · subst e0;simpa [Addr.add] using h
 · simpa [Addr.add,e0] using h
section
variable {P:Program} {w:World}
theorem Zfe {ops:Array Oper} {rest:List Oper} {o:Oper} {a:Act} {Q:Exit->Act->World->Prop} (hgd:o.guard=none) (s x:Operand) (t:TypeId)
 (ho:o.op = .call { callee := .builtin .append,args := #[s,x],argTypes := #[t,t] })
 (base:Nat) (e:TypeId) (i:TypeInfo) (z:Value) (size bytes:Nat) (ht:P.underlying t=some (.slice e)) (hi:P.info? e=some i) (hz:i.zero=some z)
 (hsize:i.size=size) (hby:i.bytes=bytes) (hzs:z.cells.size=size) (hsz:0<size)
 (v:Value) (n:Nat) (xs:List Value) (hs:a.eval s=v) (hown:w.ownsRow base e size v n xs)
 (q:Option Addr) (m c:Nat) (news:List Value) (hx:a.eval x = .slice q m c) (hl:news.length=m*size) (hq:Rd w q news) (hqk:q=none->c=0) (h1:∀ u∈news,u.oneCell'=true)
 (h63:n+m<=maxLen) (hbytes:(n+m)*bytes<=140737488355328) (hbase:base<=w.heap.size)
 (h:∀ v' w',w'.ownsRow base e size v' (n+m) (xs++news)->w.grownBy w' v.ownBlock->wpList P ops Q rest (a.put o.dst v') w') :
 wpList P ops Q (o::rest) a w:=by
 cases q with
 | some ad=>exact wpList_append_own_at _ hgd s x t ho base e i z size bytes ht hi hz hsize hby hzs hsz v n xs hs hown ad m c news hx hl (Zgq hq) h1 h63 hbytes hbase (fun v' w' h2 h3 _ _=>h v' w' h2 h3)
 | none =>
   have e0:=Zjk hq
   subst e0
   have hm:m=0:=by
    have h2:m*size=0:=by simpa using hl.symm
    rcases Nat.mul_eq_zero.1 h2 with h3|h3
    · exact h3
    · omega
   subst hm
   rw [hqk rfl] at hx
   refine wpList_append_own_none hgd s x t ho base e i size ht hi v n xs hs hown hx ?_
   exact h v w (by rw [List.append_nil];exact hown) (Zc _ _)
end
def re7:Nat->Nat
 | 0=>78
 | 1=>79
 | 2=>80
 | 3=>81
 | 4=>82
 | 5=>83
 | 6=>84
 | 7=>85
 | 8=>1008
 | _=>5000
theorem Zig:∀ i,i<9->∀ j,j<9->j≠i->re7 j≠re7 i:=by decide
theorem Yek (i:Nat) (h:i<9):i=0\/i=1\/i=2\/i=3\/i=4\/i=5\/i=6\/i=7\/i=8:=by omega
theorem Zqi (j:Nat) (hj:j∈[1,4,10,11]):∀ i,i<9->re7 i≠j:=by revert j;decide
def Zwi (bp gF nF cF3 k oc k7 gN nc:Nat) (p7:Option Addr) (kk9:Nat):Nat->Value
 | 0 => .pointer (some ⟨bp,2,none⟩)
 | 1 => .slice (some ⟨gF,0,none⟩) nF cF3
 | 2 => .int .i64 k
 | 3 => .slice p7 oc k7
 | 4 => .slice (some ⟨gN,0,none⟩) (nc+1) (nc+1)
 | 5 => .slice p7 oc kk9
 | 6 => .pointer (some ⟨gF,k*4,none⟩)
 | 7 => .pointer (some ⟨gF,k*4+3,none⟩)
 | 8=>undef
 | _=>undef
theorem Yvh {bp gF nF cF3 k oc k7 gN nc:Nat} {p7:Option Addr} {kk9:Nat} {kk92:Nat} (l:Array Bool) (hun:l.getD 5 false=false):∀ i,i<9->l.getD i false=true->re7 i<87->Zwi bp gF nF cF3 k oc k7 gN nc p7 kk92 i=Zwi bp gF nF cF3 k oc k7 gN nc p7 kk9 i:=by
 intro i hi hl _
 rcases Yek i hi with rfl|rfl|rfl|rfl|rfl|rfl|rfl|rfl|rfl <;> first|rfl|(rw [hun] at hl;cases hl)
theorem Ztd (mem:Int) (dl:List Int) (fs:List FnP) (pd pF q:Option Addr) (cd cF kq B k n long:Nat) (what:Int) (put:List Ins) (a lo r:Int) (c:List Ins) (w:World) (hBw:B<=w.heap.size) (hF:Yk w B pF fs) (hD:Rd w pd (dl.map (Value.int .u8))) (hd:dl.length<=4194304) (hn:fs.length<=64) (hls:∀ f∈fs,f.2.2.2.length<=4096) (hf:fs[k]? = some (a,lo,r,c)) (hok:Ynu c n long put) (hq:Rd w q (Zw put)) (hqk:q=none->kq=0) :
 Calls Try.prog 56 #[.agg #[.int .i64 mem,.slice pd dl.length cd,.slice pF fs.length cF],.int .i64 k,.int .i64 n,.agg #[.int .i64 long,.slice q put.length kq,.int .i64 what]] w (Zfc w mem dl (fs.set k (Zy (a,lo,r,c) (Zbi c n long put)))):=by
 have HF:=Hq hf
 have RK:=Hq hok
 have hkl:=(List.getElem?_eq_some_iff.1 hf).1
 have hki:(k:Int)<(fs.length:Int):=by omega
 have hni:(fs.length:Int)<=64:=by omega
 have hcl:(c.length:Int)<=4096:=by have:=hok.l;omega
 have hnl:(n:Int)<(c.length:Int):=by have:=hok.b;omega
 have htl:(n:Int)+(long:Int)<=(c.length:Int):=by have:=hok.t;omega
 have hpl:(put.length:Int)<=4096:=by have:=hok.p;omega
 have hlg:1<=(long:Int):=by have:=hok.g;omega
 have GZ:=Xf w (.cells #[.int .i64 mem,.slice pd dl.length cd,.slice pF fs.length cF] 25) (.cells #[.int .i64 long,.slice q put.length kq,.int .i64 what] 104) (.cells #[.int .i64 0,.slice none 0 0,.slice none 0 0] 25)
 have T0:=Hq GZ.1
 have T1:=Hq GZ.2.1
 have T2:=Hq GZ.2.2
 have G0:=Hq (Xg w (.cells #[.int .i64 mem,.slice pd dl.length cd,.slice pF fs.length cF] 25) (.cells #[.int .i64 long,.slice q put.length kq,.int .i64 what] 104) (.cells #[.int .i64 0,.slice none 0 0,.slice none 0 0] 25))
 have TW:=Hq (fun W (g:w.grownBy W none)=>Zkt mem dl fs pd pF cd cF B W (Nat.le_trans hBw g.size) (Zs hF g (by simp)) (Yy hD g) hd (by omega) (fun f hf=>by have:=hls f hf;omega))
 have RQ:=Hq hq
 clear hF hok hD hf hls GZ hq
 go_enter Try.func56,Try.ntmps56
 go_wp2_with fail
 have sz2:w.heap.size+1+1+1=(((w.alloc (.cells #[.int .i64 mem,.slice pd dl.length cd,.slice pF fs.length cF] 25)).alloc (.cells #[.int .i64 long,.slice q put.length kq,.int .i64 what] 104)).alloc (.cells #[.int .i64 0,.slice none 0 0,.slice none 0 0] 25)).heap.size:=by simp
 generalize ((w.alloc (.cells #[.int .i64 mem,.slice pd dl.length cd,.slice pF fs.length cF] 25)).alloc (.cells #[.int .i64 long,.slice q put.length kq,.int .i64 what] 104)).alloc (.cells #[.int .i64 0,.slice none 0 0,.slice none 0 0] 25)=w2 at *
 have SZ2:=Hq sz2
 clear sz2
 refine (TW.out w2 G0.out).mono ?_
 rintro e w3 ⟨D,F,cv,rfl,g3,o3⟩
 obtain ⟨pD,pF3,cD,cF3,rfl,rfl⟩:=Jc o3
 obtain ⟨v,hv⟩:∃ v,cv[k]? = some v:=⟨_,List.getElem?_eq_getElem (by rw [o3.cl];exact hkl)⟩
 have hrow:=o3.each k _ v HF.out hv
 obtain ⟨gk,kk,hvv,hgk,hck⟩:=Yb hrow (show 0<c.length by omega)
 subst hvv
 have hcap:c.length<=kk/\kk<=9223372036854775807:=Zdf hrow
 obtain ⟨gF,kF,hFv,hgF,hcF⟩:=Yb o3.fr (by omega)
 injection hFv with q1 q2 q3
 subst q1;subst q3
 obtain ⟨-,-,-,q3⟩:=Xs _ cv k _ _ HF.out hv
 have cFk:=hcF _ _ q3 (by omega)
 have a0:=Cq _ _ 0 _ _ _ (Zb T0.out g3 (by simp))
 have a1:=Cq _ _ 1 _ _ _ (Zb T0.out g3 (by simp))
 have a2:=Cq _ _ 2 _ _ _ (Zb T0.out g3 (by simp))
 have z0:=frozen_of_row _ _ 0 _ _ (Zb T0.out g3 (by simp))
 have z1:=frozen_of_row _ _ 1 _ _ (Zb T0.out g3 (by simp))
 have z2:=frozen_of_row _ _ 2 _ _ (Zb T0.out g3 (by simp))
 have la:=(Array.getElem?_eq_some_iff.1 (Zb T0.out g3 (by simp))).1
 have nF:gF≠w.heap.size:=by intro e;have:=(o3.fr.lt gF rfl).1;have:=SZ2.out;omega
 have G3:=Hq (Za G0.out g3)
 have X0:=Hq (Zb T0.out g3 (by simp))
 have X1:=Hq (Zb T1.out g3 (by simp))
 have X2:=Hq (Zb T2.out g3 (by simp))
 have O3:=Hq (Zaj o3 (show w.heap.size<=w2.heap.size by have:=SZ2.out;omega))
 have HV:=Hq hv
 have hc1:(n:Int)<=(kk:Int):=by omega
 have hc2:(0:Int)<=(n:Int):=by omega
 have hc3:n<=kk:=by omega
 clear g3 o3 hv hrow hck hcF q3 q2
 go_upto_region 4 with fail
 clear a0 a1 a2 z0 z1 z2 la cFk hgk hgF hc1 hc2 hc3
 have gT:w3.grownBy (((w3.setCell ⟨w.heap.size,0,none⟩ (.int .i64 mem)).setCell ⟨w.heap.size,1,none⟩ (.slice pD dl.length cD)).setCell ⟨w.heap.size,2,none⟩ (.slice (some ⟨gF,0,none⟩) fs.length cF3)) (some w.heap.size):=Za (Za (Zg _ _ _ _) (Zg _ _ _ _)) (Zg _ _ _ _)
 have G4:=Hq (Yu G3.out gT (fun k hk=>by injection hk with hk;omega))
 have Y0:=Hq (Zxs (x0 := .int .i64 mem) (x1 := .slice pD dl.length cD) (x2 := .slice (some ⟨gF,0,none⟩) fs.length cF3) X0.out)
 have Y1:=Hq (Zb X1.out gT (by simp))
 have Y2:=Hq (Zb X2.out gT (by simp;omega))
 have O4:=Hq (Zag (mem:=mem) O3.out X0.out)
 clear gT
 generalize ((w3.setCell ⟨w.heap.size,0,none⟩ (.int .i64 mem)).setCell ⟨w.heap.size,1,none⟩ (.slice pD dl.length cD)).setCell ⟨w.heap.size,2,none⟩ (.slice (some ⟨gF,0,none⟩) fs.length cF3)=w4 at *
 obtain ⟨bi,bi0,bi1,bi2,bi3⟩:=info_parts Zgv
 obtain ⟨ii,ii0,ii1,ii2,ii3⟩:=info_parts Zat
 have RW:=Hq (O4.out.each k _ _ HF.out HV.out)
 obtain ⟨gk',kk',e9,hgk,hck⟩:=Yb RW.out (show 0<c.length by omega)
 injection e9 with e10 e11 e12
 injection e10 with e10;injection e10 with e10 _ _;subst e10
 have CK:=Hq (fun (W:World) (g:w4.grownBy W none) (j:Nat) (u:Value) (h:(Zw c)[j]? = some u)=>g.cell (hck j u h (by have:=(List.getElem?_eq_some_iff.1 h).1;rw [Xo] at this;exact this)) (by simp))
 have hc1:(n:Int)<=(kk:Int):=by omega
 have hc2:(0:Int)<=(n:Int):=by omega
 have hc3:n<=kk:=by omega
 have hc4:(n:Int)+(long:Int)<=(kk:Int):=by omega
 have hc5:(0:Int)<=(n:Int)+(long:Int):=by omega
 have hc6:IntKind.i64.wrap ((n:Int)+(long:Int))=(n:Int)+(long:Int):=IntWalk.i64_in _ (by omega)
 have hc7:n+long<=kk:=by omega
 have hc8:n+long<=c.length:=by omega
 have b1:0+n<=maxLen:=by unfold maxLen;omega
 have b2:(0+n)*16<=140737488355328:=by omega
 have b3:n+put.length<=maxLen:=by unfold maxLen;omega
 have b4:(n+put.length)*16<=140737488355328:=by omega
 have b5:n+put.length+(c.length - (n+long))<=maxLen:=by unfold maxLen;omega
 have b6:(n+put.length+(c.length - (n+long)))*16<=140737488355328:=by omega
 have hk1:ii.bytes*(c.length+1)<=281474976710656:=by rw [ii3];omega
 have hk3:c.length+1<=maxLen:=by unfold maxLen;omega
 have hw1:IntKind.i64.wrap ((c.length:Int)+1)=(c.length:Int)+1:=IntWalk.i64_in _ (by omega)
 have x1:=Cq _ _ 1 _ _ _ Y1.out
 have x0:=Cq _ _ 0 _ _ _ Y1.out
 have lx:=(Gs Y1.out)
 have CN:=Hq (fun (W:World) (g:w4.grownBy W none) j u (h:(Zw (c.take n))[j]? = some u)=>Yad (b:=gk) (o:=0) (by rw [Nat.zero_add];exact CK.out W g j u (Zjs c n j u h)))
 have CD:=Hq (fun (W:World) (g:w4.grownBy W none) j u (h:(Zw (c.drop (n+long)))[j]? = some u)=>Yad (b:=gk) (o:=(n+long)*2) (CK.out W g _ u (Ybw c (n+long) j u h)))
 have RQ4:=Hq (fun (W:World) (g:w4.grownBy W none)=>Yy RQ.out (Za G4.out g))
 have LN:=Hq (show (Zw (c.take n)).length=n*2 by rw [Xo,List.length_take,Nat.min_eq_left (by omega)])
 have LD:=Hq (show (Zw (c.drop (n+long))).length=(c.length - (n+long))*2 by rw [Xo,List.length_drop])
 clear hck e11 e12
 obtain ⟨ad3,had3⟩:∃ ad:Addr,ad=if kk=n+long then ⟨gk,0,none⟩ else ⟨gk,(n+long)*2,none⟩:=⟨_,rfl⟩
 have CE:=Hq (show ∀ (W:World) (g:w4.grownBy W none) (j:Nat) (u:Value),(Zw (c.drop (n+long)))[j]? = some u->W.cell? (ad3.add j)=some u from fun W g j u h=>by
  rw [had3]
  by_cases e:kk=n+long
  · rw [List.drop_eq_nil_of_le (by omega)] at h;simp [Zw] at h
  · rw [if_neg e];exact CD.out W g j u h)
 by_cases hcap:kk=n+long
 case' pos =>
  rw [if_pos hcap] at had3
  subst had3
  go_wp2_with (first
   | (at_builtin;refine wpList_append_own_at _ rfl (.tmp 21) (.tmp 24) 50 rfl w4.heap.size 49 bi (.agg #[.int .i64 0,.int .i64 0]) 2 16 Zab bi0 bi1 bi2 bi3 rfl (by decide) (.slice none 0 0) 0 [] rfl (World.ownsRow_nil _ _ _ _) ⟨gk,0,none⟩ n _ (Zw (c.take n)) rfl LN.out (CN.out w4 (Zc _ _)) (Zbl _) b1 b2 (Nat.le_refl _) ?_;intro v5 w5 hown5 hgr5 hnil5 hat5;simp only [Nat.zero_add,List.nil_append] at hown5;obtain ⟨p5,k5,hv5⟩:=Zq hown5;subst hv5;have O5:=Hq hown5;have G5:=Hq (show w4.grownBy w5 none from hgr5);have x15:=G5.out.cell x1 (by simp);have x05:=G5.out.cell x0 (by simp);have lx5:=Nat.lt_of_lt_of_le lx G5.out.size;clear hown5 hgr5 hnil5 hat5)
   | (at_builtin;refine Zfe rfl (.tmp 26) (.tmp 28) 50 rfl w4.heap.size 49 bi (.agg #[.int .i64 0,.int .i64 0]) 2 16 Zab bi0 bi1 bi2 bi3 rfl (by decide) _ n _ rfl O5.out q put.length kq (Zw put) rfl (Xo _) (RQ4.out _ G5.out) hqk (Zbl _) b3 b4 G5.out.size ?_;intro v6 w6 hown6 hgr6;obtain ⟨p6,k6,hv6⟩:=Zq hown6;subst hv6;have G6:=Hq (Yu G5.out hgr6 (fun z hz=>(O5.out.lt z hz).1));have x06:=G6.out.cell x0 (by simp);have x16:=G6.out.cell x1 (by simp);have lx6:=Nat.lt_of_lt_of_le lx G6.out.size;have O6:=Hq hown6;clear hown6 hgr6)
   | (at_builtin;refine wpList_append_own_at _ rfl (.tmp 30) (.tmp 36) 50 rfl w4.heap.size 49 bi (.agg #[.int .i64 0,.int .i64 0]) 2 16 Zab bi0 bi1 bi2 bi3 rfl (by decide) _ (n+put.length) _ rfl O6.out ⟨gk,0,none⟩ (c.length - (n+long)) _ (Zw (c.drop (n+long))) rfl LD.out (CE.out _ G6.out) (Zbl _) b5 b6 G6.out.size ?_;intro v7 w7 hown7 hgr7 hnil7 hat7;obtain ⟨p7,k7,hv7⟩:=Zq hown7;subst hv7;have G7:=Hq (Yu G6.out hgr7 (fun z hz=>(O6.out.lt z hz).1));have x07:=G7.out.cell x0 (by simp);have x17:=G7.out.cell x1 (by simp);have lx7:=Nat.lt_of_lt_of_le lx G7.out.size;have O7:=Hq hown7;clear hown7 hgr7 hnil7 hat7)
   | (refine wpList_make_full _ rfl _ _ 32 rfl w7.heap.size 3 ii (.int .i64 0) 1 Zbw ii0 ii1 ii2 .i64 .i64 _ _ (c.length+1) rfl rfl rfl rfl hk1 hk3 (Nat.le_refl _) ?_;intro w8 hr8 hg8;have R8:=Hq hr8;have G8:=Hq (Za G7.out hg8);have O8:=Hq (O7.out.kept hg8 (Classical.em _));clear hr8 hg8))
 case' neg =>
  rw [if_neg hcap] at had3
  subst had3
  go_wp2_with (first
   | (at_builtin;refine wpList_append_own_at _ rfl (.tmp 21) (.tmp 24) 50 rfl w4.heap.size 49 bi (.agg #[.int .i64 0,.int .i64 0]) 2 16 Zab bi0 bi1 bi2 bi3 rfl (by decide) (.slice none 0 0) 0 [] rfl (World.ownsRow_nil _ _ _ _) ⟨gk,0,none⟩ n _ (Zw (c.take n)) rfl LN.out (CN.out w4 (Zc _ _)) (Zbl _) b1 b2 (Nat.le_refl _) ?_;intro v5 w5 hown5 hgr5 hnil5 hat5;simp only [Nat.zero_add,List.nil_append] at hown5;obtain ⟨p5,k5,hv5⟩:=Zq hown5;subst hv5;have O5:=Hq hown5;have G5:=Hq (show w4.grownBy w5 none from hgr5);have x15:=G5.out.cell x1 (by simp);have x05:=G5.out.cell x0 (by simp);have lx5:=Nat.lt_of_lt_of_le lx G5.out.size;clear hown5 hgr5 hnil5 hat5)
   | (at_builtin;refine Zfe rfl (.tmp 26) (.tmp 28) 50 rfl w4.heap.size 49 bi (.agg #[.int .i64 0,.int .i64 0]) 2 16 Zab bi0 bi1 bi2 bi3 rfl (by decide) _ n _ rfl O5.out q put.length kq (Zw put) rfl (Xo _) (RQ4.out _ G5.out) hqk (Zbl _) b3 b4 G5.out.size ?_;intro v6 w6 hown6 hgr6;obtain ⟨p6,k6,hv6⟩:=Zq hown6;subst hv6;have G6:=Hq (Yu G5.out hgr6 (fun z hz=>(O5.out.lt z hz).1));have x06:=G6.out.cell x0 (by simp);have x16:=G6.out.cell x1 (by simp);have lx6:=Nat.lt_of_lt_of_le lx G6.out.size;have O6:=Hq hown6;clear hown6 hgr6)
   | (at_builtin;refine wpList_append_own_at _ rfl (.tmp 30) (.tmp 36) 50 rfl w4.heap.size 49 bi (.agg #[.int .i64 0,.int .i64 0]) 2 16 Zab bi0 bi1 bi2 bi3 rfl (by decide) _ (n+put.length) _ rfl O6.out ⟨gk,(n+long)*2,none⟩ (c.length - (n+long)) _ (Zw (c.drop (n+long))) rfl LD.out (CE.out _ G6.out) (Zbl _) b5 b6 G6.out.size ?_;intro v7 w7 hown7 hgr7 hnil7 hat7;obtain ⟨p7,k7,hv7⟩:=Zq hown7;subst hv7;have G7:=Hq (Yu G6.out hgr7 (fun z hz=>(O6.out.lt z hz).1));have x07:=G7.out.cell x0 (by simp);have x17:=G7.out.cell x1 (by simp);have lx7:=Nat.lt_of_lt_of_le lx G7.out.size;have O7:=Hq hown7;clear hown7 hgr7 hnil7 hat7)
   | (refine wpList_make_full _ rfl _ _ 32 rfl w7.heap.size 3 ii (.int .i64 0) 1 Zbw ii0 ii1 ii2 .i64 .i64 _ _ (c.length+1) rfl rfl rfl rfl hk1 hk3 (Nat.le_refl _) ?_;intro w8 hr8 hg8;have R8:=Hq hr8;have G8:=Hq (Za G7.out hg8);have O8:=Hq (O7.out.kept hg8 (Classical.em _));clear hr8 hg8))
 all_goals
  have OUT:=Hq (show w8.ownsRow w4.heap.size 49 2 (.slice p7 (n+put.length+(c.length - (n+long))) k7) (n+put.length+(c.length - (n+long))) (Zw (c.take n++put++c.drop (n+long))) by
   rw [Yv,Yv];exact O8.out)
  have NZ:=Hq (show w8.ownsRow w4.heap.size 3 1 (.slice (some ⟨w7.heap.size,0,none⟩) (c.length+1) (c.length+1)) (c.length+1) ((Zdz (plG n long put.length) (c.length+1) 0).map (Value.int .i64)) by
   have h:=R8.out
   rw [show (madeCells (Value.int .i64 0).cells ((c.length+1)*1)).toList=(Zdz (plG n long put.length) (c.length+1) 0).map (Value.int .i64) by rw [Ybj,Nat.mul_one];exact toList_madeCells_one _ _] at h
   exact Ye h G7.out.size)
  clear x1 x0 lx x15 x05 lx5 x06 x16 lx6 x07 x17 lx7 b1 b2 b3 b4 b5 b6 hk1 hk3
  generalize w7.heap.size=gN at *
  generalize hM:n+put.length+(c.length - (n+long))=M at *
  have HM:=Hq hM
  clear hM
  go_loopw [44] (fun i wr=>∃ j:Nat,i = .int .i64 j/\j<=c.length+1/\w4.grownBy wr none/\wr.ownsRow w4.heap.size 49 2 (.slice p7 M k7) M (Zw (c.take n++put++c.drop (n+long)))/\wr.ownsRow w4.heap.size 3 1 (.slice (some ⟨gN,0,none⟩) (c.length+1) (c.length+1)) (c.length+1) ((Zdz (plG n long put.length) (c.length+1) j).map (Value.int .i64))) (fun i _=>c.length+1 - (intOf i).toNat)
  case atStart=>exact ⟨0,rfl,Nat.zero_le _,G8.out,OUT.out,NZ.out⟩
  case round =>
   obtain ⟨j,rfl,hj,hg,ho,hnum⟩:=hrel
   have IG:=Hq hg
   have IO:=Hq ho
   have IN:=Hq hnum
   by_cases hlj:(j:Int)<(c.length:Int)+1
   · have y1:=Cq _ _ 1 _ _ _ (Zb Y1.out hg (by simp))
     have y0:=Cq _ _ 0 _ _ _ (Zb Y1.out hg (by simp))
     have ly:=(Array.getElem?_eq_some_iff.1 (Zb Y1.out hg (by simp))).1
     obtain ⟨gN',cN,eN,hgN,hcN⟩:=Yb hnum (by omega)
     injection eN with e1 e2 e3
     injection e1 with e1;injection e1 with e1 _ _;subst e1
     have cN:=hcN j _ (Yfi _ _ _ (by omega)) (by omega)
     have zN:=Yf hnum j
     have NS:=Hq (fun u (e:u=plG n long put.length j)=>show (wr.setCell ⟨gN,j,none⟩ (.int .i64 u)).ownsRow w4.heap.size 3 1 (.slice (some ⟨gN,0,none⟩) (c.length+1) (c.length+1)) (c.length+1) ((Zdz (plG n long put.length) (c.length+1) (j+1)).map (Value.int .i64)) by
      have h:=(hnum.stored j (.int .i64 u)).1
      rw [e,Yfh _ _ _ (by omega)] at h
      rw [e]
      exact h)
     have GS:=Hq (fun u=>Ze (b:=gN) (o:=j) (v := .int .i64 u) hg (hnum.lt gN rfl).1)
     have OS:=Hq (fun u=>ho.kept (Zg wr gN j (.int .i64 u)) (Xr ho hnum (by decide)))
     have hj2:(0:Int)<=(j:Int):=by omega
     clear hg ho hnum hcN e2 e3
     by_cases hj1:(j:Int)<=(n:Int)
     · go_wp2
       go_roundw
       case rel=>exact ⟨j+1,by go_num,by omega,GS.out _,OS.out _,NS.out _ (by unfold plG Zdo;rw [if_pos (by omega)])⟩
       case measure=>simp [intOf];omega
     · by_cases hj3:(j:Int)<(n:Int)+(long:Int)
       · go_wp2
         go_roundw
         case rel=>exact ⟨j+1,by go_num,by omega,GS.out _,OS.out _,NS.out _ (by unfold plG Zdo;rw [if_neg (by omega),if_pos (by omega)])⟩
         case measure=>simp [intOf];omega
       · go_wp2
         go_roundw
         case rel=>exact ⟨j+1,by go_num,by omega,GS.out _,OS.out _,NS.out _ (by unfold plG Zdo;rw [if_neg (by omega),if_neg (by omega)])⟩
         case measure=>simp [intOf];omega
   · have hjn:j=c.length+1:=by omega
     subst hjn
     have HL:=Hq (show (c.take n++put++c.drop (n+long)).length=M by have:=HM.out;rw [List.length_append,List.length_append,List.length_take,List.length_drop];omega)
     have JO:=Hq (show ∀ x∈c.take n++put++c.drop (n+long),jmp x.1=true->0<=x.2/\x.2<c.length from fun x hx hj=>by
      rcases List.mem_append.1 hx with h|h
      · rcases List.mem_append.1 h with h|h
        · exact RK.out.j x (List.mem_of_mem_take h) hj
        · exact RK.out.k x h hj
      · exact RK.out.j x (List.mem_of_mem_drop h) hj)
     have RC:=Hq (show reJ (fun a=>(Zdz (plG n long put.length) (c.length+1) (c.length+1)).getD a.toNat 0) (c.take n++put++c.drop (n+long))=Zbi c n long put from Zte fun x hx hj=>by
      obtain ⟨h0,h1⟩:=JO.out x hx hj
      show (Zdz (plG n long put.length) (c.length+1) (c.length+1)).getD x.2.toNat 0=Zdo n long put.length x.2
      rw [Ylk _ _ _ (by omega)]
      unfold plG
      rw [show ((x.2.toNat:Nat):Int)=x.2 by omega])
     have RL:=Hq (show (Zbi c n long put).length=(c.take n++put++c.drop (n+long)).length by simp [Zbi,reJ])
     have hMb:M<=1000000:=by have:=HM.out;omega
     clear hg ho hnum
     generalize c.take n++put++c.drop (n+long)=OC at *
     obtain rfl:=HL.out
     have RN:=Hq (fun W (g:wr.grownBy W none)=>Zmb OC (Zdz (plG n long put.length) (c.length+1) (c.length+1)) w4.heap.size w4.heap.size _ _ W hMb (IO.out.kept g (Classical.em _)) (by rw [Zmi];exact IN.out.kept g (Classical.em _)) (fun x hx hj=>by rw [Zmi];have:=JO.out x hx hj;omega))
     obtain ⟨gF',cap',eF',hgF,hcF⟩:=Yb O4.out.fr (by omega)
     injection eF' with e1 e2 e3
     injection e1 with e1;injection e1 with e1 _ _;subst e1
     obtain ⟨-,-,-,q3⟩:=Xs _ cv k _ _ HF.out HV.out
     have t3:=hcF _ _ q3 (by omega)
     have t2:=Cq _ _ 2 _ _ _ Y0.out
     have yp:=(Gs Y0.out)
     have yF:=hgF
     have TT:=Hq (And.intro t2 (And.intro t3 (And.intro yp yF)))
     clear hcF q3 e2 e3 t2 t3 yp yF hgF
     go_wp2
     obtain ⟨t2,t3,yp,yF⟩:=TT.out
     go_upto_region 17 with fail
     rename (∀ (a:Act) (w:World),Code.wp _ _ _ a w->_)=>hK
     refine Xe (n:=9) (J:=fun a0 l a1 w1=>∃ kk9,RJ a0 87 9 re7 (Zwi w.heap.size gF fs.length cF3 k OC.length k7 gN c.length p7 kk9) l a1/\WY 5 8 9 [(1,0),(5,3),(5,4),(6,1),(6,2),(7,6),(8,7),(8,5)] (wr.drew) (fun W'=>w4.grownBy W' none) (fun W'=>w4.grownBy W' none/\kk9=k7/\W'.ownsRow w4.heap.size 49 2 (.slice p7 OC.length kk9) OC.length (Zw (Zbi c n long put))) (fun W'=>∃ w7:World,W'=w7.setCell ⟨gF,k*4+3,none⟩ (.slice p7 OC.length kk9)/\w4.grownBy w7 none/\kk9=k7/\w7.ownsRow w4.heap.size 49 2 (.slice p7 OC.length kk9) OC.length (Zw (Zbi c n long put))) l w1) (by kernel_rfl) rfl (Jh (by kernel_rfl)) (fun l a1 w1 h=>by obtain ⟨_,_,h⟩:=h;exact h.sz) ⟨0,Xd rfl,Zkq (Zd IG.out)⟩ ?_ ?_
     ·
      intro l a1 w' i hJJ hi hin
      obtain ⟨kk9,hJ,hW⟩:=hJJ
      have hun:l.getD i false=false:=getD_both (mem_ready.1 hi).1
      have hns:=Yak hW hin hun
      have hb:=hW.b hns
      have l0:=Nat.lt_of_lt_of_le yp hb.size
      have l1:=Nat.lt_of_lt_of_le yF hb.size
      rcases Yek i hin with rfl|rfl|rfl|rfl|rfl|rfl|rfl|rfl|rfl
      · have e4:a1.tmps.getD 4 undef = .pointer (some ⟨w.heap.size,0,none⟩):=hJ.un 4 (fun i hi _=>Zqi 4 (by decide) i hi)
        exact Zj (Zp hW hJ rfl (by rfl) rfl (by decide) (by decide) (Zig _ (by decide)) (w':=w') (by simp [execOp,resolve,invoke,builtin,Act.eval,e4,hki,l0,l1,go_sem,Zwi]) (Yg hW (by decide) hun (by decide) (by decide) (Zn _ hi (by kernel_rfl)))) (fun a9 w9 h9=>⟨kk9,h9⟩)
      · have e78:a1.tmps.getD 78 undef = .pointer (some ⟨w.heap.size,2,none⟩):=(Zm hJ hi 0 (by kernel_rfl))
        have h0:=hb.cell t2 (by simp)
        exact Zj (Zp hW hJ rfl (by rfl) rfl (by decide) (by decide) (Zig _ (by decide)) (w':=w') (by simp [execOp,resolve,invoke,builtin,Act.eval,e78,h0,hki,l0,l1,go_sem,Zwi]) (Yg hW (by decide) hun (by decide) (by decide) (Zn _ hi (by kernel_rfl)))) (fun a9 w9 h9=>⟨kk9,h9⟩)
      · have e1:a1.tmps.getD 1 undef = .int .i64 k:=hJ.un 1 (fun i hi _=>Zqi 1 (by decide) i hi)
        exact Zj (Zp hW hJ rfl (by rfl) rfl (by decide) (by decide) (Zig _ (by decide)) (w':=w') (by simp [execOp,resolve,invoke,builtin,Act.eval,e1,hki,l0,l1,go_sem,Zwi]) (Yg hW (by decide) hun (by decide) (by decide) (Zn _ hi (by kernel_rfl)))) (fun a9 w9 h9=>⟨kk9,h9⟩)
      · have e10:a1.tmps.getD 10 undef = .slice p7 OC.length k7:=hJ.un 10 (fun i hi _=>Zqi 10 (by decide) i hi)
        exact Zj (Zp hW hJ rfl (by rfl) rfl (by decide) (by decide) (Zig _ (by decide)) (w':=w') (by simp [execOp,resolve,invoke,builtin,Act.eval,e10,hki,l0,l1,go_sem,Zwi]) (Yg hW (by decide) hun (by decide) (by decide) (Zn _ hi (by kernel_rfl)))) (fun a9 w9 h9=>⟨kk9,h9⟩)
      · have e11:a1.tmps.getD 11 undef = .slice (some ⟨gN,0,none⟩) (c.length+1) (c.length+1):=hJ.un 11 (fun i hi _=>Zqi 11 (by decide) i hi)
        exact Zj (Zp hW hJ rfl (by rfl) rfl (by decide) (by decide) (Zig _ (by decide)) (w':=w') (by simp [execOp,resolve,invoke,builtin,Act.eval,e11,hki,l0,l1,go_sem,Zwi]) (Yg hW (by decide) hun (by decide) (by decide) (Zn _ hi (by kernel_rfl)))) (fun a9 w9 h9=>⟨kk9,h9⟩)
      · have e81:a1.tmps.getD 81 undef = .slice p7 OC.length k7:=(Zm hJ hi 3 (by kernel_rfl))
        have e82:a1.tmps.getD 82 undef = .slice (some ⟨gN,0,none⟩) (c.length+1) (c.length+1):=(Zm hJ hi 4 (by kernel_rfl))
        have hw0:=hW.h0 hun
        subst hw0
        refine Xq rfl (by rfl) (by simp [execOp,resolve,invoke,Act.eval,e81,e82,go_sem]) (Calls.mono (RN.out wr.drew (Zd (Zc wr none))) (fun e w2 he => ?_))
        obtain ⟨he1,g6,o9⟩:=he
        obtain ⟨kk92,hkk92⟩:∃ x:Nat,x=k7:=⟨_,rfl⟩
        rw [RC.out,<- hkk92] at o9
        rw [<- hkk92] at he1
        subst he1
        have g7:w4.grownBy w2 none:=Yu (Za IG.out (Zd (Zc wr none))) g6 (fun q hq=>(IO.out.lt q hq).1)
        refine ⟨_,rfl,kk92,?_,Zpl hW (by decide) hun (by decide) (Zn _ hi (by kernel_rfl)) (g7) (⟨g7,hkk92,o9⟩)⟩
        exact Jq (val:=Zwi w.heap.size gF fs.length cF3 k OC.length k7 gN c.length p7 kk92) (Jj hJ (Yvh l hun)) (by decide) (by decide) (Zig _ (by decide))
      · have e79:a1.tmps.getD 79 undef = .slice (some ⟨gF,0,none⟩) fs.length cF3:=(Zm hJ hi 1 (by kernel_rfl))
        have e80:a1.tmps.getD 80 undef = .int .i64 k:=(Zm hJ hi 2 (by kernel_rfl))
        exact Zj (Zp hW hJ rfl (by rfl) rfl (by decide) (by decide) (Zig _ (by decide)) (w':=w') (by first|(simp [execOp,resolve,invoke,builtin,Act.eval,e79,e80,hki,l0,l1,go_sem,Zwi];done)|(simp [execOp,resolve,invoke,builtin,Act.eval,e79,e80,hki,l0,l1,go_sem,Zwi];omega)|(simp [execOp,resolve,invoke,builtin,Act.eval,e79,e80,hki,l0,l1,go_sem,Zwi];intro h;omega)|(simp [execOp,resolve,invoke,builtin,Act.eval,e79,e80,hki,l0,l1,go_sem,Zwi];intros;omega)) (Yg hW (by decide) hun (by decide) (by decide) (Zn _ hi (by kernel_rfl)))) (fun a9 w9 h9=>⟨kk9,h9⟩)
      · have e84:a1.tmps.getD 84 undef = .pointer (some ⟨gF,k*4,none⟩):=(Zm hJ hi 6 (by kernel_rfl))
        exact Zj (Zp hW hJ rfl (by rfl) rfl (by decide) (by decide) (Zig _ (by decide)) (w':=w') (by simp [execOp,resolve,invoke,builtin,Act.eval,e84,hki,l0,l1,go_sem,Zwi]) (Yg hW (by decide) hun (by decide) (by decide) (Zn _ hi (by kernel_rfl)))) (fun a9 w9 h9=>⟨kk9,h9⟩)
      · have e85:a1.tmps.getD 85 undef = .pointer (some ⟨gF,k*4+3,none⟩):=(Zm hJ hi 7 (by kernel_rfl))
        have e83:a1.tmps.getD 83 undef = .slice p7 OC.length kk9:=(Zm hJ hi 5 (by kernel_rfl))
        have hpw:=hW.h1 (Zf hi 5 (by kernel_rfl)) hun
        have hc9:=hb.cell t3 (by simp)
        have hfz9:w'.frozen? ⟨gF,k*4+3,none⟩=false:=Yf (O4.out.fr.kept hb (Classical.em _)) (k*4+3)
        exact Zj (Zbh hW hJ rfl rfl rfl (by decide) (by decide) (w':=w'.setCell ⟨gF,k*4+3,none⟩ (.slice p7 OC.length kk9)) (by simp [execOp,Act.eval,e85,e83,hfz9,hc9,go_sem]) (Zkp hW (by decide) (by decide) (by decide) (fun j hj hne=>by
         rcases Yek j hj with rfl|rfl|rfl|rfl|rfl|rfl|rfl|rfl|rfl
         · exact hW.cl (1,0) (by decide) (hW.cl (6,1) (by decide) (hW.cl (7,6) (by decide) (Zf hi 7 (by kernel_rfl))))
         · exact hW.cl (6,1) (by decide) (hW.cl (7,6) (by decide) (Zf hi 7 (by kernel_rfl)))
         · exact hW.cl (6,2) (by decide) (hW.cl (7,6) (by decide) (Zf hi 7 (by kernel_rfl)))
         · exact hW.cl (5,3) (by decide) (Zf hi 5 (by kernel_rfl))
         · exact hW.cl (5,4) (by decide) (Zf hi 5 (by kernel_rfl))
         · exact Zf hi 5 (by kernel_rfl)
         · exact hW.cl (7,6) (by decide) (Zf hi 7 (by kernel_rfl))
         · exact Zf hi 7 (by kernel_rfl)
         · exact absurd rfl hne) (Zn _ hi (by kernel_rfl)) (⟨w',rfl,hpw.1,hpw.2.1,hpw.2.2⟩))) (fun a9 w9 h9=>⟨kk9,h9⟩)
     intro l a1 w9 hJJ hl
     obtain ⟨kk9,hJ,hW⟩:=hJJ
     obtain ⟨w7',rfl,g7,hkk,o7⟩:=hW.h2 (hl 8 (by decide))
     subst hkk
     have hput:=Jf hJ rfl hl (fun i j h1 h2 h3=>Zig j h2 i h1 h3)
     subst hput
     have O7':=Xj O4.out g7
     have hbF:=(O7'.fr.lt gF rfl).1
     have OP:=Zyr (w':=w7') (f':=Zy (a,lo,r,c) (Zbi c n long put)) (v := .slice p7 OC.length kk9) O7' HF.out ⟨rfl,rfl,rfl⟩ (by
      show World.ownsRow _ _ _ _ _ (Zbi c n long put).length (Zw (Zbi c n long put))
      rw [RL.out]
      exact Ye o7 G4.out.size) (fun k' v' b hne hv' hb hb2=>by
      have hk'l:=(List.getElem?_eq_some_iff.1 hv').1
      rw [O4.out.cl] at hk'l
      have h1:=((O4.out.each k' _ v' (List.getElem?_eq_getElem hk'l) hv').lt b hb).2
      have h2:=(o7.lt b hb2).1
      omega)
     have nf0:=Yd O7'.fr (Zb Y0.out g7 (by simp)) (by decide)
     have nf2:=Yd O7'.fr (Zb Y2.out g7 (by simp)) (by decide)
     have ON:=Hq OP
     have GN:=Hq (Ze (b:=gF) (o:=k*4+3) (v := .slice p7 OC.length kk9) (Za G4.out g7) hbF)
     have B0:=Zb (Zb Y0.out g7 (by simp)) (Zg w7' gF (k*4+3) (.slice p7 OC.length kk9)) nf0
     have B2:=Zb (Zb Y2.out g7 (by simp)) (Zg w7' gF (k*4+3) (.slice p7 OC.length kk9)) nf2
     have BR:=Hq B2
     clear hJ hW hl g7 o7 O7' OP hbF nf0 nf2 t2 t3 yp yF
     refine hK _ _ ?_
     simp only [Zai,re7,Zwi,Act.put,List.setIfInBounds_toArray,List.set_cons_zero,List.set_cons_succ]
     clear hK
     generalize w7'.setCell ⟨gF,k*4+3,none⟩ (.slice p7 OC.length kk9)=w10 at *
     have u0:=Cq _ _ 0 _ _ _ B0
     have u1:=Cq _ _ 1 _ _ _ B0
     have u2:=Cq _ _ 2 _ _ _ B0
     have lu:=(Gs B0)
     have v0:=Cq _ _ 0 _ _ _ B2
     have v1:=Cq _ _ 1 _ _ _ B2
     have v2:=Cq _ _ 2 _ _ _ B2
     have z0:=frozen_of_row _ _ 0 _ _ B2
     have z1:=frozen_of_row _ _ 1 _ _ B2
     have z2:=frozen_of_row _ _ 2 _ _ B2
     have lv:=(Gs B2)
     clear B0 B2
     go_wp2
     refine bodyPost_ret (v := .agg #[.int .i64 mem,.slice pD dl.length cD,.slice (some ⟨gF,0,none⟩) fs.length cF3]) ?_ rfl ⟨_,_,_,rfl,Ze (Ze (Ze GN.out (by omega)) (by omega)) (by omega),Zag ON.out BR.out⟩
     rw [Ym rfl]
     go_simp
end Go.Proofs.Ythlkflagancdfaa.OT
