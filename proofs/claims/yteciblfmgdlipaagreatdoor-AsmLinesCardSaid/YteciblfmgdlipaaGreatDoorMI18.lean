/-
  Part of a proof: contracts of functions and lemmas, each stated by its own theorem. Conditions: as each theorem states.
-/
import Derived.Test.YteciblfmgdlipaaGreatDoorMI17
import Derived.Test.YteciblfmgdlipaaGreatDoorMI15
import Derived.Test.YteciblfmgdlipaaGreatDoorMI13
set_option linter.unusedSimpArgs false
set_option linter.unusedVariables false
set_option maxRecDepth 100000
set_option maxHeartbeats 16000000
namespace Go.Proofs.YteciblfmgdlipaaGreatDoor.AS
open Go.RowKit Go.Great CK
def Zpt (w:World) (b:Nat) (v0 v1 v2 v3:Value):Prop:=w.heap[b]? = some (.cells #[v0,v1,v2,v3] 139 (0,0))
theorem Yfp (w:World) (v0 v1 v2 v3:Value):Zpt (w.alloc (.cells #[v0,v1,v2,v3] 139)) w.heap.size v0 v1 v2 v3:=heap_alloc_new w _
theorem Zqd {w w':World} {b:Nat} {v0 v1 v2 v3:Value} {row:Option Nat} (h:Zpt w b v0 v1 v2 v3) (g:w.grownBy w' row) (hr:row≠some b):Zpt w' b v0 v1 v2 v3:=Zf h g hr
theorem Zds {w:World} {b:Nat} {v0 v1 v2 v3 x0 x1 x2 x3:Value} (h:Zpt w b v0 v1 v2 v3) :
 Zpt ((((w.setCell ⟨b,0,none⟩ x0).setCell ⟨b,1,none⟩ x1).setCell ⟨b,2,none⟩ x2).setCell ⟨b,3,none⟩ x3) b x0 x1 x2 x3:=by
 unfold Zpt
 rw [Zj (Zj (Zj (Zj h)))];rfl
structure Ytx (w:World) (b:Nat) (v0 v1 v2 v3:Value):Prop where
 c0:w.cell? ⟨b,0,none⟩=some v0
 c1:w.cell? ⟨b,1,none⟩=some v1
 c2:w.cell? ⟨b,2,none⟩=some v2
 c3:w.cell? ⟨b,3,none⟩=some v3
 z0:w.frozen? ⟨b,0,none⟩=false
 z1:w.frozen? ⟨b,1,none⟩=false
 z2:w.frozen? ⟨b,2,none⟩=false
 z3:w.frozen? ⟨b,3,none⟩=false
theorem Zaa {w:World} {b:Nat} {v0 v1 v2 v3:Value} (h:Zpt w b v0 v1 v2 v3):Ytx w b v0 v1 v2 v3 :=
 ⟨Cq w _ 0 _ _ _ h,Cq w _ 1 _ _ _ h,Cq w _ 2 _ _ _ h,Cq w _ 3 _ _ _ h,frozen_of_row w _ 0 _ _ h,frozen_of_row w _ 1 _ _ h,frozen_of_row w _ 2 _ _ h,frozen_of_row w _ 3 _ _ h⟩
theorem Yqa:∀ (n:Nat) (l:Txt) (b:Txt) (k:Nat),l.length<=n->unq l=some (b,k)->b.length<=k:=by
 intro n
 induction n with
 | zero =>
   intro l b k hl h
   have:l=[]:=List.eq_nil_of_length_eq_zero (by omega)
   subst this;cases h
 | succ n ih =>
   intro l b k hl h
   cases l with
   | nil=>cases h
   | cons c r =>
     rw [unq.eq_def] at h
     simp only [] at h
     simp only [List.length_cons] at hl ⊢
     split at h
     · injection h with h;injection h with h1 h2;subst h1;simp
     · split at h
       · cases h
       · split at h
         · obtain ⟨x,hx,h⟩:=Option.map_eq_some_iff.1 h
           have:=ih r x.1 x.2 (by omega) hx
           injection h with h1 h2;subst h1;simp only [List.length_cons];omega
         · split at h
           · cases h
           · rename_i d r2
             simp only [List.length_cons] at hl ⊢
             split at h
             · obtain ⟨x,hx,h⟩:=Option.map_eq_some_iff.1 h
               have:=ih r2 x.1 x.2 (by omega) hx
               injection h with h1 h2;subst h1;simp only [List.length_cons];omega
             · split at h
               · split at h
                 · rename_i x y r3
                   simp only [List.length_cons] at hl ⊢
                   split at h
                   · obtain ⟨z,hz,h⟩:=Option.map_eq_some_iff.1 h
                     have:=ih r3 z.1 z.2 (by omega) hz
                     injection h with h1 h2;subst h1;simp only [List.length_cons];omega
                   · cases h
                 · cases h
               · cases h
structure RL (l:Txt) (a j:Nat):Prop where
 lo:a<=j
 hi:j<=l.length
 eq:Zcy (l.drop a)=(j - a)+Zcy (l.drop j)
theorem Zzj {l:Txt} {a:Nat} (h:a<=l.length):RL l a a:=⟨Nat.le_refl _,h,by omega⟩
theorem Zwy {l:Txt} {a j:Nat} {c:UInt8} (h:RL l a j) (hc:l[j]? = some c) (ht:tlB c=true):RL l a (j+1):=by
 have h1:=h.lo
 have h2:=h.eq
 refine ⟨by omega,(List.getElem?_eq_some_iff.1 hc).1,?_⟩
 rw [h2,Yq hc]
 unfold Zcy
 rw [List.takeWhile_cons,if_pos ht]
 simp only [List.length_cons]
 omega
theorem Zwx {l:Txt} {a j:Nat} {c:UInt8} (h:RL l a j) (hc:l[j]? = some c) (ht:tlB c=false):j=a+Zcy (l.drop a):=by
 have h1:=h.lo
 have h2:=h.eq
 rw [Yq hc] at h2
 unfold Zcy at h2 ⊢
 rw [List.takeWhile_cons,if_neg (by rw [ht];decide)] at h2
 simp at h2
 omega
theorem Yfu {l:Txt} {a j:Nat} (h:RL l a j) (hj:l.length<=j):j=a+Zcy (l.drop a):=by
 have h1:=h.lo
 have h2:=h.eq
 rw [List.drop_eq_nil_of_le hj] at h2
 have h3:Zcy []=0:=rfl
 omega
theorem Yca {w:World} {b:Nat} {v0 v1 v2 v3 x:Value} (h:Zpt w b v0 v1 v2 v3):Zpt (w.setCell ⟨b,0,none⟩ x) b x v1 v2 v3:=by
 unfold Zpt
 rw [Zj h];rfl
theorem Zwu (s:ByteArray) (hs:s.size<=70000) (w:World):Calls Tryz.prog 60 #[.string s] w (Ytw w (Zpm s.data.toList)):=by
 have START:=Hq (Zqp s.data.toList)
 obtain ⟨r,hr⟩:∃ r,r=Zpm s.data.toList:=⟨_,rfl⟩
 rw [<- hr]
 have HR:=Hq hr
 clear hr
 obtain ⟨pi,pi0,pi1,pi2,pi3⟩:=info_parts Zwv
 have hsi:(s.size:Int)<=70000:=by omega
 go_enter Tryz.func60,Tryz.ntmps60
 go_wp2
 go_loopw [4,5,6] (fun v vl va wr=>∃ (last:Int) (k f:Nat) (rs:List RPc),vl = .int .i64 last/\va = .int .i64 k/\RpR s.data.toList w wr v last k f rs) (fun _ _ va _=>s.size - (intOf va).toNat)
 case atStart=>exact ⟨0,0,_,[],rfl,rfl,START.out,Nat.zero_le _,World.ownsRow_nil _ _ _ _,Zb _ _,Nat.zero_le _,by simp⟩
 case round =>
  obtain ⟨last,k,f,rs,rfl,rfl,hq⟩:=hrel
  obtain ⟨p,c,rfl⟩:=Zww hq.row
  have hle:=hq.le
  rw [Ye] at hle
  have hlen:=hq.len
  have hsize:=hq.gr.size
  have Q:=Hq hq
  have hc3:rs.length+1<=maxLen:=by unfold maxLen;omega
  have hc4:(rs.length+1)*40<=140737488355328:=by omega
  clear hq
  by_cases hlt:k<s.size
  · have hgt:s.data.toList[k]? = some (s[k]'hlt):=by
     rw [List.getElem?_eq_getElem (by rw [Ye];exact hlt)];rfl
    have hd:=Yq hgt
    have AT:=Hq (hd ▸ Q.out.at_)
    have b59:(((s[k]'hlt).toNat:Int) == 59)=decide ((s[k]'hlt).toNat=59):=by rw [Bool.eq_iff_iff];simp;omega
    have b58:(((s[k]'hlt).toNat:Int) == 58)=decide ((s[k]'hlt).toNat=58):=by rw [Bool.eq_iff_iff];simp;omega
    have b34:(((s[k]'hlt).toNat:Int) == 34)=decide ((s[k]'hlt).toNat=34):=by rw [Bool.eq_iff_iff];simp;omega
    have b45:(((s[k]'hlt).toNat:Int) == 45)=decide ((s[k]'hlt).toNat=45):=by rw [Bool.eq_iff_iff];simp;omega
    go_upto_region 9 with (fail)
    have G4:=Hq (Ga wr (.cells #[.int .i64 0,.string ⟨#[]⟩,.int .i64 0,.bool false] 139) none)
    have B4:=Hq (Yfp wr (.int .i64 0) (.string ⟨#[]⟩) (.int .i64 0) (.bool false))
    generalize wr.alloc (.cells #[.int .i64 0,.string ⟨#[]⟩,.int .i64 0,.bool false] 139)=w4 at *
    generalize hb4:wr.heap.size=b4 at *
    have HB4:=Hq (Nat.le_of_eq hb4)
    clear hb4
    obtain ⟨c0,c1,c2,c3,z0,z1,z2,z3⟩:=Zaa B4.out
    have Q4:=Hq (Zdk Q.out G4.out)
    by_cases h59:(s[k]'hlt).toNat=59
    · have HU:=Hq (HR.out.trans (Zuf AT.out h59))
      rw [decide_eq_true h59] at b59
      clear b58 b34 b45 h59 hd hgt
      go_wp2
      go_ret2
      refine ⟨?_,Q4.out.gr⟩
      rw [HU.out]
      exact ⟨rs,rfl,Q4.out.txt,p,c,rfl,Q4.out.row⟩
    rw [decide_eq_false h59] at b59
    by_cases hbl:(s[k]'hlt).toNat=32\/(s[k]'hlt).toNat=9\/(s[k]'hlt).toNat=13
    · obtain ⟨g,hg⟩:=Zqr AT.out hbl
      have AN:=Hq hg
      have BL:=Hq (show Yui ((s[k]'hlt).toNat:Int)=true by unfold Yui;simp;omega)
      clear b58 b34 b45 h59 hbl hg hd hgt
      go_wp2_with (go_at_call 89;refine (Zbd _ _).mono ?_;rintro e w9 ⟨rfl,rfl⟩;rw [BL.out])
      exact ⟨⟨0,k+1,g,rs,rfl,by go_num,AN.out,by rw [Ye];omega,Q4.out.row,Q4.out.gr,by omega,Q4.out.txt⟩,by simp [intOf];omega⟩
    have BL:=Hq (show Yui ((s[k]'hlt).toNat:Int)=false by unfold Yui;simp;omega)
    by_cases h58:(s[k]'hlt).toNat=58
    · obtain ⟨g,hg⟩:=Zqq AT.out h58
      have AN:=Hq hg
      rw [decide_eq_true h58] at b58
      have GL:=Hq (show ∀ W,Calls Tryz.prog 95 #[.int .i64 last,.int .i64 4] W fun e w'=>e = .returned (.bool false)/\W=w' from fun W=>by
       have:=Jj last 4 W
       rw [show (last != 4 && (4:Int) != 4 && last != 0)=false by simp] at this
       exact this)
      have HT:=Hq (show (rpT ((.colon,[]):RPc)).length<=70000 by decide)
      clear b34 b45 h59 hbl h58 hg hd hgt
      go_upto_region 35 with (go_at_call 89;refine (Zbd _ _).mono ?_;rintro e w9 ⟨rfl,rfl⟩;rw [BL.out])
      have Q5:=Hq (Zdk Q.out (Zy (o:=0) (v := .int .i64 4) G4.out HB4.out))
      have B5:=Hq (Yca (x := .int .i64 4) B4.out)
      generalize w4.setCell ⟨b4,0,none⟩ (.int .i64 4)=w5 at *
      clear c0 c1 c2 c3 z0 z1 z2 z3
      obtain ⟨c0,c1,c2,c3,z0,z1,z2,z3⟩:=Zaa B5.out
      have hsize5:=Q5.out.gr.size
      have hE:∀ o,w.heap.size<=(w5.alloc o).heap.size:=fun o=>Zw hsize5 o
      go_wp2_with (first
       | (go_at_call 95;refine (GL.out _).mono ?_;rintro e w9 ⟨rfl,rfl⟩)
       | (at_builtin;refine wpList_append_own_at _ rfl _ _ 135 rfl w.heap.size 139 pi (.agg #[.int .i64 0,.string ⟨#[]⟩,.int .i64 0,.bool false]) 4 40 Zbs pi0 pi1 pi2 pi3 rfl (by decide) (.slice p rs.length c) _ _ rfl (World.ownsRow.alloc Q5.out.row _) ⟨w5.heap.size,0,none⟩ 1 1 (rp4 (.colon,[])) rfl rfl (Zcv w5 _ _ _ _ _) (Zed _) hc3 hc4 (hE _) ?_;intro v3 w6 hown3 hgr3 hnil3 hat3;obtain ⟨p3,k3,hv3⟩:=Zi hown3;subst hv3;have OW3:=Hq hown3;have GR3:=Hq hgr3;clear hown3 hgr3 hnil3 hat3))
      exact ⟨⟨4,k+1,g,_,rfl,by go_num,Zec (q:=(.colon,[])) Q5.out AN.out (by omega) (by rw [Ye];omega) HT.out OW3.out (Za (Ga _ _ _) GR3.out)⟩,by simp [intOf];omega⟩
    rw [decide_eq_false h58] at b58
    have BEG:=Hq (show Zwb (s[k]'hlt) from ⟨h59,by omega,by omega,by omega,h58⟩)
    by_cases h34:(s[k]'hlt).toNat=34
    · have ho:Zmm ((s[k]'hlt)::s.data.toList.drop (k+1))=(unq (s.data.toList.drop (k+1))).map fun x=>(.str x.1,x.2+1):=by
       rw [Zmm,if_neg (by show ¬ Zob ((s[k]'hlt).toNat:Int)=true;rw [h34];decide),if_pos h34]
      rw [decide_eq_true h34] at b34
      have UN:=Hq (Zwg s hs k hlt w4)
      cases hu:unq (s.data.toList.drop (k+1)) with
      | none =>
        rw [hu] at UN ho
        have HU:=Hq (HR.out.trans (Zin AT.out BEG.out ho))
        clear b45 h59 hbl h58 h34 hd hgt ho hu
        go_wp2_with (first
         | (go_at_call 89;refine (Zbd _ _).mono ?_;rintro e w9 ⟨rfl,rfl⟩;rw [BL.out])
         | (go_at_call 90;refine UN.out.mono ?_;rintro e w2 ⟨rfl,hg⟩;have G:=Hq hg;clear hg))
        go_ret2
        refine ⟨?_,Za Q4.out.gr G.out⟩
        rw [HU.out]
        rfl
      | some x =>
        obtain ⟨b,n⟩:=x
        rw [hu] at UN ho
        have hb:=Zne _ _ b n (Nat.le_refl _) hu
        have ht:=Yqa _ _ b n (Nat.le_refl _) hu
        rw [List.length_drop,Ye] at hb
        have HT:=Hq (show (rpT ((.str b,[]):RPc)).length<=70000 by show b.length<=70000;omega)
        cases hap:(last == 0 || last == 4) with
        | false =>
          have AT2:=AT.out
          rw [hap] at AT2
          have HU:=Hq (HR.out.trans (Zbv AT2 BEG.out))
          have GL:=Hq (show ∀ W,Calls Tryz.prog 95 #[.int .i64 last,.int .i64 3] W fun e w'=>e = .returned (.bool true)/\W=w' from fun W=>by
           have:=Jj last 3 W
           rw [show (last != 4 && (3:Int) != 4 && last != 0)=true by simp at hap;simp [hap]] at this
           exact this)
          clear b45 h59 hbl h58 h34 hd hgt ho hu hap AT2
          go_wp2_with (first
           | (go_at_call 89;refine (Zbd _ _).mono ?_;rintro e w9 ⟨rfl,rfl⟩;rw [BL.out])
           | (go_at_call 95;refine (GL.out _).mono ?_;rintro e w9 ⟨rfl,rfl⟩)
           | (go_at_call 90;refine UN.out.mono ?_;rintro e w2 ⟨rfl,hg⟩;have G:=Hq hg;have B:=Hq (Zqd B4.out hg (by simp));clear c0 c1 c2 c3 z0 z1 z2 z3;obtain ⟨c0,c1,c2,c3,z0,z1,z2,z3⟩:=Zaa B.out;clear hg))
          go_ret2
          refine ⟨?_,Zx (Za Q4.out.gr G.out) hsize⟩
          rw [HU.out]
          rfl
        | true =>
          have AT2:=AT.out
          rw [hap] at AT2
          obtain ⟨g,hg⟩:=Zeg AT2 BEG.out ho
          rw [<- hd,List.drop_drop] at hg
          have AN:=Hq (show Zmj s.data.toList g ((3:Int) == 0 || (3:Int) == 4) (s.data.toList.drop (k+1+n)) (rs.map (·.1)++[.str b]) from (by rw [show k+1+n=k+(n+1) by omega];exact hg))
          have GL:=Hq (show ∀ W,Calls Tryz.prog 95 #[.int .i64 last,.int .i64 3] W fun e w'=>e = .returned (.bool false)/\W=w' from fun W=>by
           have:=Jj last 3 W
           rw [show (last != 4 && (3:Int) != 4 && last != 0)=false by (simp at hap;rcases hap with rfl|rfl <;> rfl)] at this
           exact this)
          clear b45 h59 hbl h58 h34 hd hgt ho hu hap AT2 hg
          go_upto_region 35 with (first
           | (go_at_call 89;refine (Zbd _ _).mono ?_;rintro e w9 ⟨rfl,rfl⟩;rw [BL.out])
           | (go_at_call 90;refine UN.out.mono ?_;rintro e w2 ⟨rfl,hg⟩;have G:=Hq hg;have B:=Hq (Zqd B4.out hg (by simp));clear c0 c1 c2 c3 z0 z1 z2 z3;obtain ⟨c0,c1,c2,c3,z0,z1,z2,z3⟩:=Zaa B.out;clear hg))
          have Q5:=Hq (Zdk Q.out (Zx (x0 := .int .i64 3) (x1 := .string (bs b)) (x2 := .int .i64 0) (x3 := .bool false) (Za G4.out G.out) HB4.out))
          have B5:=Hq (Zds (x0 := .int .i64 3) (x1 := .string (bs b)) (x2 := .int .i64 0) (x3 := .bool false) B.out)
          generalize (((w2.setCell ⟨b4,0,none⟩ (.int .i64 3)).setCell ⟨b4,1,none⟩ (.string (bs b))).setCell ⟨b4,2,none⟩ (.int .i64 0)).setCell ⟨b4,3,none⟩ (.bool false)=w5 at *
          clear c0 c1 c2 c3 z0 z1 z2 z3
          obtain ⟨c0,c1,c2,c3,z0,z1,z2,z3⟩:=Zaa B5.out
          have hsize5:=Q5.out.gr.size
          have hE:∀ o,w.heap.size<=(w5.alloc o).heap.size:=fun o=>Zw hsize5 o
          go_wp2_with (first
           | (go_at_call 95;refine (GL.out _).mono ?_;rintro e w9 ⟨rfl,rfl⟩)
           | (at_builtin;refine wpList_append_own_at _ rfl _ _ 135 rfl w.heap.size 139 pi (.agg #[.int .i64 0,.string ⟨#[]⟩,.int .i64 0,.bool false]) 4 40 Zbs pi0 pi1 pi2 pi3 rfl (by decide) (.slice p rs.length c) _ _ rfl (World.ownsRow.alloc Q5.out.row _) ⟨w5.heap.size,0,none⟩ 1 1 (rp4 (.str b,[])) rfl rfl (Zcv w5 _ _ _ _ _) (Zed _) hc3 hc4 (hE _) ?_;intro v3 w6 hown3 hgr3 hnil3 hat3;obtain ⟨p3,k3,hv3⟩:=Zi hown3;subst hv3;have OW3:=Hq hown3;have GR3:=Hq hgr3;clear hown3 hgr3 hnil3 hat3))
          exact ⟨⟨3,k+1+n,g,_,rfl,by go_num,Zec (q:=(.str b,[])) Q5.out AN.out (by omega) (by rw [Ye];omega) HT.out OW3.out (Za (Ga _ _ _) GR3.out)⟩,by simp [intOf];omega⟩
    rw [decide_eq_false h34] at b34
    by_cases hlt2:Ycr (s[k]'hlt)=true
    · have LT:=Hq (show Zob ((s[k]'hlt).toNat:Int)=true from hlt2)
      have ho:Zmm ((s[k]'hlt)::s.data.toList.drop (k+1))=some (.word ((s.data.toList.drop k).take (Zcy (s.data.toList.drop k))),Zcy (s.data.toList.drop k)):=by
       rw [Zmm,if_pos hlt2,<- hd]
      have hk9:k<=s.data.toList.length:=by rw [Ye];exact hle
      have RS:=Hq (Zzj hk9)
      have HD:=Hq hd
      clear b45 h59 hbl h58 h34 hgt hlt2 hk9 hd
      go_upto_region 24 with (first
       | (go_at_call 89;refine (Zbd _ _).mono ?_;rintro e w9 ⟨rfl,rfl⟩;rw [BL.out])
       | (go_at_call 91;refine (Zco _ _).mono ?_;rintro e w9 ⟨rfl,rfl⟩;rw [LT.out]))
      go_loopw [6] (fun va wr2=>∃ j:Nat,va = .int .i64 j/\RL s.data.toList k j/\w4=wr2) (fun va _=>s.size - (intOf va).toNat)
      case atStart=>exact ⟨k,rfl,RS.out,rfl⟩
      case round =>
       obtain ⟨j,rfl,hR,hwr⟩:=hrel
       subst hwr
       have R:=Hq hR
       have hj1:=hR.lo
       have hj2:=hR.hi
       rw [Ye] at hj2
       clear hR
       by_cases hlt3:j<s.size
       · have hgj:s.data.toList[j]? = some (s[j]'hlt3):=by
          rw [List.getElem?_eq_getElem (by rw [Ye];exact hlt3)];rfl
         cases htl:tlB (s[j]'hlt3) with
         | true =>
           have TL:=Hq (show tlI ((s[j]'hlt3).toNat:Int)=true from htl)
           have NX:=Hq (Zwy R.out hgj htl)
           clear htl hgj
           go_wp2_with (go_at_call 92;refine (Zau _ _).mono ?_;rintro e w9 ⟨rfl,rfl⟩;rw [TL.out])
           exact ⟨⟨j+1,by go_num,NX.out,trivial⟩,by simp [intOf];omega⟩
         | false =>
           have TL:=Hq (show tlI ((s[j]'hlt3).toNat:Int)=false from htl)
           have HJ:=Hq (Zwx R.out hgj htl)
           clear htl hgj
           have hsl:∀ W:World,(Instr.slice 9 (.string s) (some (.int .i64 (k:Int))) (some (.int .i64 (j:Int))) none).run Tryz.prog W = .ok (.string (bs ((s.data.toList.drop k).take (j - k)))) W:=fun W=>by
            rw [run_slice_string (h:=Xl) (h0:=by omega) (h1:=by omega) (h2:=by omega),Xw]
            simp
           have HT:=Hq (show (rpT ((.word ((s.data.toList.drop k).take (j - k)),[]):RPc)).length<=70000 by
            show ((s.data.toList.drop k).take (j - k)).length<=70000
            rw [List.length_take];omega)
           have hjk:Zcy (s.data.toList.drop k)=j - k:=by have:=HJ.out;omega
           rw [hjk] at ho
           have HK:=Hq (show k<j by have:=Zfe ho;omega)
           cases hap:(last == 0 || last == 4) with
           | false =>
             have AT2:=AT.out
             rw [hap] at AT2
             have HU:=Hq (HR.out.trans (Zbv AT2 BEG.out))
             have GL:=Hq (show ∀ W,Calls Tryz.prog 95 #[.int .i64 last,.int .i64 1] W fun e w'=>e = .returned (.bool true)/\W=w' from fun W=>by
              have:=Jj last 1 W
              rw [show (last != 4 && (1:Int) != 4 && last != 0)=true by simp at hap;simp [hap]] at this
              exact this)
             clear ho hap AT2 hjk
             generalize (s.data.toList.drop k).take (j - k)=x at *
             go_wp2_with (first|(go_at_call 95;refine (GL.out _).mono ?_;rintro e w9 ⟨rfl,rfl⟩)|(go_at_call 92;refine (Zau _ _).mono ?_;rintro e w9 ⟨rfl,rfl⟩;rw [TL.out]))
             go_ret2
             refine ⟨?_,Zx Q4.out.gr hsize⟩
             rw [HU.out]
             rfl
           | true =>
             have AT2:=AT.out
             rw [hap] at AT2
             obtain ⟨g,hg⟩:=Zeg AT2 BEG.out ho
             rw [<- HD.out,List.drop_drop] at hg
             have AN:=Hq (show Zmj s.data.toList g ((1:Int) == 0 || (1:Int) == 4) (s.data.toList.drop j) (rs.map (·.1)++[.word ((s.data.toList.drop k).take (j - k))]) from (by
              have e9:k+(j - k)=j:=by omega
              rw [e9] at hg;exact hg))
             have GL:=Hq (show ∀ W,Calls Tryz.prog 95 #[.int .i64 last,.int .i64 1] W fun e w'=>e = .returned (.bool false)/\W=w' from fun W=>by
              have:=Jj last 1 W
              rw [show (last != 4 && (1:Int) != 4 && last != 0)=false by (simp at hap;rcases hap with rfl|rfl <;> rfl)] at this
              exact this)
             clear ho hap AT2 hg hjk
             generalize (s.data.toList.drop k).take (j - k)=x at *
             go_upto_region 35 with (go_at_call 92;refine (Zau _ _).mono ?_;rintro e w9 ⟨rfl,rfl⟩;rw [TL.out])
             have Q5:=Hq (Zdk Q.out (Zx (x0 := .int .i64 1) (x1 := .string (bs x)) (x2 := .int .i64 0) (x3 := .bool false) G4.out HB4.out))
             have B5:=Hq (Zds (x0 := .int .i64 1) (x1 := .string (bs x)) (x2 := .int .i64 0) (x3 := .bool false) B4.out)
             generalize (((w4.setCell ⟨b4,0,none⟩ (.int .i64 1)).setCell ⟨b4,1,none⟩ (.string (bs x))).setCell ⟨b4,2,none⟩ (.int .i64 0)).setCell ⟨b4,3,none⟩ (.bool false)=w5 at *
             clear c0 c1 c2 c3 z0 z1 z2 z3
             obtain ⟨c0,c1,c2,c3,z0,z1,z2,z3⟩:=Zaa B5.out
             have hsize5:=Q5.out.gr.size
             have hE:∀ o,w.heap.size<=(w5.alloc o).heap.size:=fun o=>Zw hsize5 o
             go_wp2_with (first
              | (go_at_call 95;refine (GL.out _).mono ?_;rintro e w9 ⟨rfl,rfl⟩)
              | (at_builtin;refine wpList_append_own_at _ rfl _ _ 135 rfl w.heap.size 139 pi (.agg #[.int .i64 0,.string ⟨#[]⟩,.int .i64 0,.bool false]) 4 40 Zbs pi0 pi1 pi2 pi3 rfl (by decide) (.slice p rs.length c) _ _ rfl (World.ownsRow.alloc Q5.out.row _) ⟨w5.heap.size,0,none⟩ 1 1 (rp4 (.word (x),[])) rfl rfl (Zcv w5 _ _ _ _ _) (Zed _) hc3 hc4 (hE _) ?_;intro v3 w6 hown3 hgr3 hnil3 hat3;obtain ⟨p3,k3,hv3⟩:=Zi hown3;subst hv3;have OW3:=Hq hown3;have GR3:=Hq hgr3;clear hown3 hgr3 hnil3 hat3))
             have hkj:=HK.out
             exact ⟨⟨1,j,g,_,rfl,by go_num,Zec (q:=(.word (x),[])) Q5.out AN.out HK.out (by rw [Ye];exact hj2) HT.out OW3.out (Za (Ga _ _ _) GR3.out)⟩,by simp [intOf];omega⟩
       · have HJ:=Hq (Yfu R.out (by rw [Ye];omega))
         have hsl:∀ W:World,(Instr.slice 9 (.string s) (some (.int .i64 (k:Int))) (some (.int .i64 (j:Int))) none).run Tryz.prog W = .ok (.string (bs ((s.data.toList.drop k).take (j - k)))) W:=fun W=>by
          rw [run_slice_string (h:=Xl) (h0:=by omega) (h1:=by omega) (h2:=by omega),Xw]
          simp
         have HT:=Hq (show (rpT ((.word ((s.data.toList.drop k).take (j - k)),[]):RPc)).length<=70000 by
          show ((s.data.toList.drop k).take (j - k)).length<=70000
          rw [List.length_take];omega)
         have hjk:Zcy (s.data.toList.drop k)=j - k:=by have:=HJ.out;omega
         rw [hjk] at ho
         have HK:=Hq (show k<j by have:=Zfe ho;omega)
         cases hap:(last == 0 || last == 4) with
         | false =>
           have AT2:=AT.out
           rw [hap] at AT2
           have HU:=Hq (HR.out.trans (Zbv AT2 BEG.out))
           have GL:=Hq (show ∀ W,Calls Tryz.prog 95 #[.int .i64 last,.int .i64 1] W fun e w'=>e = .returned (.bool true)/\W=w' from fun W=>by
            have:=Jj last 1 W
            rw [show (last != 4 && (1:Int) != 4 && last != 0)=true by simp at hap;simp [hap]] at this
            exact this)
           clear ho hap AT2 hjk
           generalize (s.data.toList.drop k).take (j - k)=x at *
           go_wp2_with (go_at_call 95;refine (GL.out _).mono ?_;rintro e w9 ⟨rfl,rfl⟩)
           go_ret2
           refine ⟨?_,Zx Q4.out.gr hsize⟩
           rw [HU.out]
           rfl
         | true =>
           have AT2:=AT.out
           rw [hap] at AT2
           obtain ⟨g,hg⟩:=Zeg AT2 BEG.out ho
           rw [<- HD.out,List.drop_drop] at hg
           have AN:=Hq (show Zmj s.data.toList g ((1:Int) == 0 || (1:Int) == 4) (s.data.toList.drop j) (rs.map (·.1)++[.word ((s.data.toList.drop k).take (j - k))]) from (by
            have e9:k+(j - k)=j:=by omega
            rw [e9] at hg;exact hg))
           have GL:=Hq (show ∀ W,Calls Tryz.prog 95 #[.int .i64 last,.int .i64 1] W fun e w'=>e = .returned (.bool false)/\W=w' from fun W=>by
            have:=Jj last 1 W
            rw [show (last != 4 && (1:Int) != 4 && last != 0)=false by (simp at hap;rcases hap with rfl|rfl <;> rfl)] at this
            exact this)
           clear ho hap AT2 hg hjk
           generalize (s.data.toList.drop k).take (j - k)=x at *
           go_upto_region 35 with fail
           have Q5:=Hq (Zdk Q.out (Zx (x0 := .int .i64 1) (x1 := .string (bs x)) (x2 := .int .i64 0) (x3 := .bool false) G4.out HB4.out))
           have B5:=Hq (Zds (x0 := .int .i64 1) (x1 := .string (bs x)) (x2 := .int .i64 0) (x3 := .bool false) B4.out)
           generalize (((w4.setCell ⟨b4,0,none⟩ (.int .i64 1)).setCell ⟨b4,1,none⟩ (.string (bs x))).setCell ⟨b4,2,none⟩ (.int .i64 0)).setCell ⟨b4,3,none⟩ (.bool false)=w5 at *
           clear c0 c1 c2 c3 z0 z1 z2 z3
           obtain ⟨c0,c1,c2,c3,z0,z1,z2,z3⟩:=Zaa B5.out
           have hsize5:=Q5.out.gr.size
           have hE:∀ o,w.heap.size<=(w5.alloc o).heap.size:=fun o=>Zw hsize5 o
           go_wp2_with (first
            | (go_at_call 95;refine (GL.out _).mono ?_;rintro e w9 ⟨rfl,rfl⟩)
            | (at_builtin;refine wpList_append_own_at _ rfl _ _ 135 rfl w.heap.size 139 pi (.agg #[.int .i64 0,.string ⟨#[]⟩,.int .i64 0,.bool false]) 4 40 Zbs pi0 pi1 pi2 pi3 rfl (by decide) (.slice p rs.length c) _ _ rfl (World.ownsRow.alloc Q5.out.row _) ⟨w5.heap.size,0,none⟩ 1 1 (rp4 (.word (x),[])) rfl rfl (Zcv w5 _ _ _ _ _) (Zed _) hc3 hc4 (hE _) ?_;intro v3 w6 hown3 hgr3 hnil3 hat3;obtain ⟨p3,k3,hv3⟩:=Zi hown3;subst hv3;have OW3:=Hq hown3;have GR3:=Hq hgr3;clear hown3 hgr3 hnil3 hat3))
           exact ⟨⟨1,j,g,_,rfl,by go_num,Zec (q:=(.word (x),[])) Q5.out AN.out HK.out (by rw [Ye];exact hj2) HT.out OW3.out (Za (Ga _ _ _) GR3.out)⟩,by simp [intOf];omega⟩
    have LT:=Hq (show Zob ((s[k]'hlt).toNat:Int)=false from by
     have h:=hlt2;unfold Ycr at h;simpa using h)
    by_cases hdg:(s[k]'hlt).toNat=45\/Zpo (s[k]'hlt)=true
    · have HO:=Hq (show ∀ j,j=k+1+Zcy (s.data.toList.drop (k+1))->Zmm (s[k]'hlt::s.data.toList.drop (k+1))=(Zex ((s.data.toList.drop k).take (j - k))).map fun x=>(.num x.1 x.2,j - k) from fun j hj=>by
       rw [Zmm,if_neg hlt2,if_neg h34,if_pos hdg,<- hd,show 1+Zcy (s.data.toList.drop (k+1))=j - k by omega])
      have hk9:k+1<=s.data.toList.length:=by rw [Ye];omega
      have RS:=Hq (Zzj hk9)
      have HD:=Hq hd
      have DG:=Hq (show Zeb ((s[k]'hlt).toNat:Int)=true\/Zeb ((s[k]'hlt).toNat:Int)=false/\(((s[k]'hlt).toNat:Int) == 45)=true from by
       rcases hdg with h|h
       · right;rw [h];decide
       · left;exact h)
      clear b45 h59 hbl h58 h34 hgt hlt2 hk9 hd hdg
      rcases DG.out with DT|⟨DT,b45⟩
      · clear DG
        go_upto_region 29 with (first
         | (go_at_call 89;refine (Zbd _ _).mono ?_;rintro e w9 ⟨rfl,rfl⟩;rw [BL.out])
         | (go_at_call 93;refine (Yl _ _).mono ?_;rintro e w9 ⟨rfl,rfl⟩;rw [DT])
         | (go_at_call 91;refine (Zco _ _).mono ?_;rintro e w9 ⟨rfl,rfl⟩;rw [LT.out]))
        clear DT
        go_loopw [6] (fun va wr2=>∃ j:Nat,va = .int .i64 j/\RL s.data.toList (k+1) j/\w4=wr2) (fun va _=>s.size - (intOf va).toNat)
        case atStart=>exact ⟨k+1,by go_num,RS.out,rfl⟩
        case round =>
         obtain ⟨j,rfl,hR,hwr⟩:=hrel
         subst hwr
         have R:=Hq hR
         have hj1:=hR.lo
         have hj2:=hR.hi
         rw [Ye] at hj2
         clear hR
         by_cases hlt3:j<s.size
         · have hgj:s.data.toList[j]? = some (s[j]'hlt3):=by
            rw [List.getElem?_eq_getElem (by rw [Ye];exact hlt3)];rfl
           cases htl:tlB (s[j]'hlt3) with
           | true =>
             have TL:=Hq (show tlI ((s[j]'hlt3).toNat:Int)=true from htl)
             have NX:=Hq (Zwy R.out hgj htl)
             clear htl hgj
             go_wp2_with (go_at_call 92;refine (Zau _ _).mono ?_;rintro e w9 ⟨rfl,rfl⟩;rw [TL.out])
             exact ⟨⟨j+1,by go_num,NX.out,trivial⟩,by simp [intOf];omega⟩
           | false =>
             have TL:=Hq (show tlI ((s[j]'hlt3).toNat:Int)=false from htl)
             have HJ:=Hq (Zwx R.out hgj htl)
             clear htl hgj
             have hsl:∀ W:World,(Instr.slice 9 (.string s) (some (.int .i64 (k:Int))) (some (.int .i64 (j:Int))) none).run Tryz.prog W = .ok (.string (bs ((s.data.toList.drop k).take (j - k)))) W:=fun W=>by
              rw [run_slice_string (h:=Xl) (h0:=by omega) (h1:=by omega) (h2:=by omega),Xw]
              simp
             have hxl:((s.data.toList.drop k).take (j - k)).length=j - k:=by
              rw [List.length_take,List.length_drop,Ye];omega
             have HK:=Hq (show k<j by omega)
             have ho:=HO.out j HJ.out
             have AN0:=Hq (show ∀ p g,Zmj s.data.toList g false ((s[k]'hlt::s.data.toList.drop (k+1)).drop (j - k)) p->Zmj s.data.toList g ((2:Int) == 0 || (2:Int) == 4) (s.data.toList.drop j) p from fun p g hg=>by
              rw [<- HD.out,List.drop_drop] at hg
              have e9:k+(j - k)=j:=by omega
              rw [e9] at hg;exact hg)
             generalize (s.data.toList.drop k).take (j - k)=x at *
             have HT:=Hq (show x.length<=70000 by omega)
             have RN:=Hq (show ∀ W,Calls Tryz.prog 94 #[.string (bs x)] W (Zem W (Zex x)) from fun W=>Zfp x (by rintro rfl;simp at hxl;omega) HT.out W)
             clear hxl
             cases hnm:Zex x with
             | none =>
               rw [hnm] at ho RN
               have HU:=Hq (HR.out.trans (Zin AT.out BEG.out ho))
               clear ho hnm
               go_wp2_with (first|(go_at_call 94;refine (RN.out _).mono ?_;rintro e w9 ⟨⟨n9,b9,rfl⟩,rfl⟩)|(go_at_call 92;refine (Zau _ _).mono ?_;rintro e w9 ⟨rfl,rfl⟩;rw [TL.out]))
               go_ret2
               refine ⟨?_,Q4.out.gr⟩
               rw [HU.out]
               rfl
             | some nb =>
               obtain ⟨n,big⟩:=nb
               rw [hnm] at ho RN
               simp only [Option.map_some] at ho
               cases hap:(last == 0 || last == 4) with
               | false =>
                 have AT2:=AT.out
                 rw [hap] at AT2
                 have HU:=Hq (HR.out.trans (Zbv AT2 BEG.out))
                 have GL:=Hq (show ∀ W,Calls Tryz.prog 95 #[.int .i64 last,.int .i64 2] W fun e w'=>e = .returned (.bool true)/\W=w' from fun W=>by
                  have:=Jj last 2 W
                  rw [show (last != 4 && (2:Int) != 4 && last != 0)=true by simp at hap;simp [hap]] at this
                  exact this)
                 clear ho hap AT2 hnm
                 go_wp2_with (first|(go_at_call 94;refine (RN.out _).mono ?_;rintro e w9 ⟨rfl,rfl⟩)|(go_at_call 95;refine (GL.out _).mono ?_;rintro e w9 ⟨rfl,rfl⟩)|(go_at_call 92;refine (Zau _ _).mono ?_;rintro e w9 ⟨rfl,rfl⟩;rw [TL.out]))
                 go_ret2
                 refine ⟨?_,Zx Q4.out.gr hsize⟩
                 rw [HU.out]
                 rfl
               | true =>
                 have AT2:=AT.out
                 rw [hap] at AT2
                 obtain ⟨g,hg⟩:=Zeg AT2 BEG.out ho
                 have AN:=Hq (AN0.out _ _ hg)
                 have GL:=Hq (show ∀ W,Calls Tryz.prog 95 #[.int .i64 last,.int .i64 2] W fun e w'=>e = .returned (.bool false)/\W=w' from fun W=>by
                  have:=Jj last 2 W
                  rw [show (last != 4 && (2:Int) != 4 && last != 0)=false by (simp at hap;rcases hap with rfl|rfl <;> rfl)] at this
                  exact this)
                 clear ho hap AT2 hg hnm
                 go_upto_region 35 with (first|(go_at_call 94;refine (RN.out _).mono ?_;rintro e w9 ⟨rfl,rfl⟩)|(go_at_call 92;refine (Zau _ _).mono ?_;rintro e w9 ⟨rfl,rfl⟩;rw [TL.out]))
                 have Q5:=Hq (Zdk Q.out (Zx (x0 := .int .i64 2) (x1 := .string (bs x)) (x2 := .int .i64 n) (x3 := .bool big) G4.out HB4.out))
                 have B5:=Hq (Zds (x0 := .int .i64 2) (x1 := .string (bs x)) (x2 := .int .i64 n) (x3 := .bool big) B4.out)
                 generalize (((w4.setCell ⟨b4,0,none⟩ (.int .i64 2)).setCell ⟨b4,1,none⟩ (.string (bs x))).setCell ⟨b4,2,none⟩ (.int .i64 n)).setCell ⟨b4,3,none⟩ (.bool big)=w5 at *
                 clear c0 c1 c2 c3 z0 z1 z2 z3
                 obtain ⟨c0,c1,c2,c3,z0,z1,z2,z3⟩:=Zaa B5.out
                 have hsize5:=Q5.out.gr.size
                 have hE:∀ o,w.heap.size<=(w5.alloc o).heap.size:=fun o=>Zw hsize5 o
                 go_wp2_with (first
                  | (go_at_call 95;refine (GL.out _).mono ?_;rintro e w9 ⟨rfl,rfl⟩)
                  | (at_builtin;refine wpList_append_own_at _ rfl _ _ 135 rfl w.heap.size 139 pi (.agg #[.int .i64 0,.string ⟨#[]⟩,.int .i64 0,.bool false]) 4 40 Zbs pi0 pi1 pi2 pi3 rfl (by decide) (.slice p rs.length c) _ _ rfl (World.ownsRow.alloc Q5.out.row _) ⟨w5.heap.size,0,none⟩ 1 1 (rp4 (.num n big,x)) rfl rfl (Zcv w5 _ _ _ _ _) (Zed _) hc3 hc4 (hE _) ?_;intro v3 w6 hown3 hgr3 hnil3 hat3;obtain ⟨p3,k3,hv3⟩:=Zi hown3;subst hv3;have OW3:=Hq hown3;have GR3:=Hq hgr3;clear hown3 hgr3 hnil3 hat3))
                 have hkj:=HK.out
                 exact ⟨⟨2,j,g,_,rfl,by go_num,Zec (q:=(.num n big,x)) Q5.out AN.out HK.out (by rw [Ye];exact hj2) HT.out OW3.out (Za (Ga _ _ _) GR3.out)⟩,by simp [intOf];omega⟩
         · have HJ:=Hq (Yfu R.out (by rw [Ye];omega))
           have hsl:∀ W:World,(Instr.slice 9 (.string s) (some (.int .i64 (k:Int))) (some (.int .i64 (j:Int))) none).run Tryz.prog W = .ok (.string (bs ((s.data.toList.drop k).take (j - k)))) W:=fun W=>by
            rw [run_slice_string (h:=Xl) (h0:=by omega) (h1:=by omega) (h2:=by omega),Xw]
            simp
           have hxl:((s.data.toList.drop k).take (j - k)).length=j - k:=by
            rw [List.length_take,List.length_drop,Ye];omega
           have HK:=Hq (show k<j by omega)
           have ho:=HO.out j HJ.out
           have AN0:=Hq (show ∀ p g,Zmj s.data.toList g false ((s[k]'hlt::s.data.toList.drop (k+1)).drop (j - k)) p->Zmj s.data.toList g ((2:Int) == 0 || (2:Int) == 4) (s.data.toList.drop j) p from fun p g hg=>by
            rw [<- HD.out,List.drop_drop] at hg
            have e9:k+(j - k)=j:=by omega
            rw [e9] at hg;exact hg)
           generalize (s.data.toList.drop k).take (j - k)=x at *
           have HT:=Hq (show x.length<=70000 by omega)
           have RN:=Hq (show ∀ W,Calls Tryz.prog 94 #[.string (bs x)] W (Zem W (Zex x)) from fun W=>Zfp x (by rintro rfl;simp at hxl;omega) HT.out W)
           clear hxl
           cases hnm:Zex x with
           | none =>
             rw [hnm] at ho RN
             have HU:=Hq (HR.out.trans (Zin AT.out BEG.out ho))
             clear ho hnm
             go_wp2_with (first|(go_at_call 94;refine (RN.out _).mono ?_;rintro e w9 ⟨⟨n9,b9,rfl⟩,rfl⟩))
             go_ret2
             refine ⟨?_,Q4.out.gr⟩
             rw [HU.out]
             rfl
           | some nb =>
             obtain ⟨n,big⟩:=nb
             rw [hnm] at ho RN
             simp only [Option.map_some] at ho
             cases hap:(last == 0 || last == 4) with
             | false =>
               have AT2:=AT.out
               rw [hap] at AT2
               have HU:=Hq (HR.out.trans (Zbv AT2 BEG.out))
               have GL:=Hq (show ∀ W,Calls Tryz.prog 95 #[.int .i64 last,.int .i64 2] W fun e w'=>e = .returned (.bool true)/\W=w' from fun W=>by
                have:=Jj last 2 W
                rw [show (last != 4 && (2:Int) != 4 && last != 0)=true by simp at hap;simp [hap]] at this
                exact this)
               clear ho hap AT2 hnm
               go_wp2_with (first|(go_at_call 94;refine (RN.out _).mono ?_;rintro e w9 ⟨rfl,rfl⟩)|(go_at_call 95;refine (GL.out _).mono ?_;rintro e w9 ⟨rfl,rfl⟩))
               go_ret2
               refine ⟨?_,Zx Q4.out.gr hsize⟩
               rw [HU.out]
               rfl
             | true =>
               have AT2:=AT.out
               rw [hap] at AT2
               obtain ⟨g,hg⟩:=Zeg AT2 BEG.out ho
               have AN:=Hq (AN0.out _ _ hg)
               have GL:=Hq (show ∀ W,Calls Tryz.prog 95 #[.int .i64 last,.int .i64 2] W fun e w'=>e = .returned (.bool false)/\W=w' from fun W=>by
                have:=Jj last 2 W
                rw [show (last != 4 && (2:Int) != 4 && last != 0)=false by (simp at hap;rcases hap with rfl|rfl <;> rfl)] at this
                exact this)
               clear ho hap AT2 hg hnm
               go_upto_region 35 with (first|(go_at_call 94;refine (RN.out _).mono ?_;rintro e w9 ⟨rfl,rfl⟩))
               have Q5:=Hq (Zdk Q.out (Zx (x0 := .int .i64 2) (x1 := .string (bs x)) (x2 := .int .i64 n) (x3 := .bool big) G4.out HB4.out))
               have B5:=Hq (Zds (x0 := .int .i64 2) (x1 := .string (bs x)) (x2 := .int .i64 n) (x3 := .bool big) B4.out)
               generalize (((w4.setCell ⟨b4,0,none⟩ (.int .i64 2)).setCell ⟨b4,1,none⟩ (.string (bs x))).setCell ⟨b4,2,none⟩ (.int .i64 n)).setCell ⟨b4,3,none⟩ (.bool big)=w5 at *
               clear c0 c1 c2 c3 z0 z1 z2 z3
               obtain ⟨c0,c1,c2,c3,z0,z1,z2,z3⟩:=Zaa B5.out
               have hsize5:=Q5.out.gr.size
               have hE:∀ o,w.heap.size<=(w5.alloc o).heap.size:=fun o=>Zw hsize5 o
               go_wp2_with (first
                | (go_at_call 95;refine (GL.out _).mono ?_;rintro e w9 ⟨rfl,rfl⟩)
                | (at_builtin;refine wpList_append_own_at _ rfl _ _ 135 rfl w.heap.size 139 pi (.agg #[.int .i64 0,.string ⟨#[]⟩,.int .i64 0,.bool false]) 4 40 Zbs pi0 pi1 pi2 pi3 rfl (by decide) (.slice p rs.length c) _ _ rfl (World.ownsRow.alloc Q5.out.row _) ⟨w5.heap.size,0,none⟩ 1 1 (rp4 (.num n big,x)) rfl rfl (Zcv w5 _ _ _ _ _) (Zed _) hc3 hc4 (hE _) ?_;intro v3 w6 hown3 hgr3 hnil3 hat3;obtain ⟨p3,k3,hv3⟩:=Zi hown3;subst hv3;have OW3:=Hq hown3;have GR3:=Hq hgr3;clear hown3 hgr3 hnil3 hat3))
               have hkj:=HK.out
               exact ⟨⟨2,j,g,_,rfl,by go_num,Zec (q:=(.num n big,x)) Q5.out AN.out HK.out (by rw [Ye];exact hj2) HT.out OW3.out (Za (Ga _ _ _) GR3.out)⟩,by simp [intOf];omega⟩
      · clear DG
        go_upto_region 29 with (first
         | (go_at_call 89;refine (Zbd _ _).mono ?_;rintro e w9 ⟨rfl,rfl⟩;rw [BL.out])
         | (go_at_call 93;refine (Yl _ _).mono ?_;rintro e w9 ⟨rfl,rfl⟩;rw [DT])
         | (go_at_call 91;refine (Zco _ _).mono ?_;rintro e w9 ⟨rfl,rfl⟩;rw [LT.out]))
        clear DT b45
        go_loopw [6] (fun va wr2=>∃ j:Nat,va = .int .i64 j/\RL s.data.toList (k+1) j/\w4=wr2) (fun va _=>s.size - (intOf va).toNat)
        case atStart=>exact ⟨k+1,by go_num,RS.out,rfl⟩
        case round =>
         obtain ⟨j,rfl,hR,hwr⟩:=hrel
         subst hwr
         have R:=Hq hR
         have hj1:=hR.lo
         have hj2:=hR.hi
         rw [Ye] at hj2
         clear hR
         by_cases hlt3:j<s.size
         · have hgj:s.data.toList[j]? = some (s[j]'hlt3):=by
            rw [List.getElem?_eq_getElem (by rw [Ye];exact hlt3)];rfl
           cases htl:tlB (s[j]'hlt3) with
           | true =>
             have TL:=Hq (show tlI ((s[j]'hlt3).toNat:Int)=true from htl)
             have NX:=Hq (Zwy R.out hgj htl)
             clear htl hgj
             go_wp2_with (go_at_call 92;refine (Zau _ _).mono ?_;rintro e w9 ⟨rfl,rfl⟩;rw [TL.out])
             exact ⟨⟨j+1,by go_num,NX.out,trivial⟩,by simp [intOf];omega⟩
           | false =>
             have TL:=Hq (show tlI ((s[j]'hlt3).toNat:Int)=false from htl)
             have HJ:=Hq (Zwx R.out hgj htl)
             clear htl hgj
             have hsl:∀ W:World,(Instr.slice 9 (.string s) (some (.int .i64 (k:Int))) (some (.int .i64 (j:Int))) none).run Tryz.prog W = .ok (.string (bs ((s.data.toList.drop k).take (j - k)))) W:=fun W=>by
              rw [run_slice_string (h:=Xl) (h0:=by omega) (h1:=by omega) (h2:=by omega),Xw]
              simp
             have hxl:((s.data.toList.drop k).take (j - k)).length=j - k:=by
              rw [List.length_take,List.length_drop,Ye];omega
             have HK:=Hq (show k<j by omega)
             have ho:=HO.out j HJ.out
             have AN0:=Hq (show ∀ p g,Zmj s.data.toList g false ((s[k]'hlt::s.data.toList.drop (k+1)).drop (j - k)) p->Zmj s.data.toList g ((2:Int) == 0 || (2:Int) == 4) (s.data.toList.drop j) p from fun p g hg=>by
              rw [<- HD.out,List.drop_drop] at hg
              have e9:k+(j - k)=j:=by omega
              rw [e9] at hg;exact hg)
             generalize (s.data.toList.drop k).take (j - k)=x at *
             have HT:=Hq (show x.length<=70000 by omega)
             have RN:=Hq (show ∀ W,Calls Tryz.prog 94 #[.string (bs x)] W (Zem W (Zex x)) from fun W=>Zfp x (by rintro rfl;simp at hxl;omega) HT.out W)
             clear hxl
             cases hnm:Zex x with
             | none =>
               rw [hnm] at ho RN
               have HU:=Hq (HR.out.trans (Zin AT.out BEG.out ho))
               clear ho hnm
               go_wp2_with (first|(go_at_call 94;refine (RN.out _).mono ?_;rintro e w9 ⟨⟨n9,b9,rfl⟩,rfl⟩)|(go_at_call 92;refine (Zau _ _).mono ?_;rintro e w9 ⟨rfl,rfl⟩;rw [TL.out]))
               go_ret2
               refine ⟨?_,Q4.out.gr⟩
               rw [HU.out]
               rfl
             | some nb =>
               obtain ⟨n,big⟩:=nb
               rw [hnm] at ho RN
               simp only [Option.map_some] at ho
               cases hap:(last == 0 || last == 4) with
               | false =>
                 have AT2:=AT.out
                 rw [hap] at AT2
                 have HU:=Hq (HR.out.trans (Zbv AT2 BEG.out))
                 have GL:=Hq (show ∀ W,Calls Tryz.prog 95 #[.int .i64 last,.int .i64 2] W fun e w'=>e = .returned (.bool true)/\W=w' from fun W=>by
                  have:=Jj last 2 W
                  rw [show (last != 4 && (2:Int) != 4 && last != 0)=true by simp at hap;simp [hap]] at this
                  exact this)
                 clear ho hap AT2 hnm
                 go_wp2_with (first|(go_at_call 94;refine (RN.out _).mono ?_;rintro e w9 ⟨rfl,rfl⟩)|(go_at_call 95;refine (GL.out _).mono ?_;rintro e w9 ⟨rfl,rfl⟩)|(go_at_call 92;refine (Zau _ _).mono ?_;rintro e w9 ⟨rfl,rfl⟩;rw [TL.out]))
                 go_ret2
                 refine ⟨?_,Zx Q4.out.gr hsize⟩
                 rw [HU.out]
                 rfl
               | true =>
                 have AT2:=AT.out
                 rw [hap] at AT2
                 obtain ⟨g,hg⟩:=Zeg AT2 BEG.out ho
                 have AN:=Hq (AN0.out _ _ hg)
                 have GL:=Hq (show ∀ W,Calls Tryz.prog 95 #[.int .i64 last,.int .i64 2] W fun e w'=>e = .returned (.bool false)/\W=w' from fun W=>by
                  have:=Jj last 2 W
                  rw [show (last != 4 && (2:Int) != 4 && last != 0)=false by (simp at hap;rcases hap with rfl|rfl <;> rfl)] at this
                  exact this)
                 clear ho hap AT2 hg hnm
                 go_upto_region 35 with (first|(go_at_call 94;refine (RN.out _).mono ?_;rintro e w9 ⟨rfl,rfl⟩)|(go_at_call 92;refine (Zau _ _).mono ?_;rintro e w9 ⟨rfl,rfl⟩;rw [TL.out]))
                 have Q5:=Hq (Zdk Q.out (Zx (x0 := .int .i64 2) (x1 := .string (bs x)) (x2 := .int .i64 n) (x3 := .bool big) G4.out HB4.out))
                 have B5:=Hq (Zds (x0 := .int .i64 2) (x1 := .string (bs x)) (x2 := .int .i64 n) (x3 := .bool big) B4.out)
                 generalize (((w4.setCell ⟨b4,0,none⟩ (.int .i64 2)).setCell ⟨b4,1,none⟩ (.string (bs x))).setCell ⟨b4,2,none⟩ (.int .i64 n)).setCell ⟨b4,3,none⟩ (.bool big)=w5 at *
                 clear c0 c1 c2 c3 z0 z1 z2 z3
                 obtain ⟨c0,c1,c2,c3,z0,z1,z2,z3⟩:=Zaa B5.out
                 have hsize5:=Q5.out.gr.size
                 have hE:∀ o,w.heap.size<=(w5.alloc o).heap.size:=fun o=>Zw hsize5 o
                 go_wp2_with (first
                  | (go_at_call 95;refine (GL.out _).mono ?_;rintro e w9 ⟨rfl,rfl⟩)
                  | (at_builtin;refine wpList_append_own_at _ rfl _ _ 135 rfl w.heap.size 139 pi (.agg #[.int .i64 0,.string ⟨#[]⟩,.int .i64 0,.bool false]) 4 40 Zbs pi0 pi1 pi2 pi3 rfl (by decide) (.slice p rs.length c) _ _ rfl (World.ownsRow.alloc Q5.out.row _) ⟨w5.heap.size,0,none⟩ 1 1 (rp4 (.num n big,x)) rfl rfl (Zcv w5 _ _ _ _ _) (Zed _) hc3 hc4 (hE _) ?_;intro v3 w6 hown3 hgr3 hnil3 hat3;obtain ⟨p3,k3,hv3⟩:=Zi hown3;subst hv3;have OW3:=Hq hown3;have GR3:=Hq hgr3;clear hown3 hgr3 hnil3 hat3))
                 have hkj:=HK.out
                 exact ⟨⟨2,j,g,_,rfl,by go_num,Zec (q:=(.num n big,x)) Q5.out AN.out HK.out (by rw [Ye];exact hj2) HT.out OW3.out (Za (Ga _ _ _) GR3.out)⟩,by simp [intOf];omega⟩
         · have HJ:=Hq (Yfu R.out (by rw [Ye];omega))
           have hsl:∀ W:World,(Instr.slice 9 (.string s) (some (.int .i64 (k:Int))) (some (.int .i64 (j:Int))) none).run Tryz.prog W = .ok (.string (bs ((s.data.toList.drop k).take (j - k)))) W:=fun W=>by
            rw [run_slice_string (h:=Xl) (h0:=by omega) (h1:=by omega) (h2:=by omega),Xw]
            simp
           have hxl:((s.data.toList.drop k).take (j - k)).length=j - k:=by
            rw [List.length_take,List.length_drop,Ye];omega
           have HK:=Hq (show k<j by omega)
           have ho:=HO.out j HJ.out
           have AN0:=Hq (show ∀ p g,Zmj s.data.toList g false ((s[k]'hlt::s.data.toList.drop (k+1)).drop (j - k)) p->Zmj s.data.toList g ((2:Int) == 0 || (2:Int) == 4) (s.data.toList.drop j) p from fun p g hg=>by
            rw [<- HD.out,List.drop_drop] at hg
            have e9:k+(j - k)=j:=by omega
            rw [e9] at hg;exact hg)
           generalize (s.data.toList.drop k).take (j - k)=x at *
           have HT:=Hq (show x.length<=70000 by omega)
           have RN:=Hq (show ∀ W,Calls Tryz.prog 94 #[.string (bs x)] W (Zem W (Zex x)) from fun W=>Zfp x (by rintro rfl;simp at hxl;omega) HT.out W)
           clear hxl
           cases hnm:Zex x with
           | none =>
             rw [hnm] at ho RN
             have HU:=Hq (HR.out.trans (Zin AT.out BEG.out ho))
             clear ho hnm
             go_wp2_with (first|(go_at_call 94;refine (RN.out _).mono ?_;rintro e w9 ⟨⟨n9,b9,rfl⟩,rfl⟩))
             go_ret2
             refine ⟨?_,Q4.out.gr⟩
             rw [HU.out]
             rfl
           | some nb =>
             obtain ⟨n,big⟩:=nb
             rw [hnm] at ho RN
             simp only [Option.map_some] at ho
             cases hap:(last == 0 || last == 4) with
             | false =>
               have AT2:=AT.out
               rw [hap] at AT2
               have HU:=Hq (HR.out.trans (Zbv AT2 BEG.out))
               have GL:=Hq (show ∀ W,Calls Tryz.prog 95 #[.int .i64 last,.int .i64 2] W fun e w'=>e = .returned (.bool true)/\W=w' from fun W=>by
                have:=Jj last 2 W
                rw [show (last != 4 && (2:Int) != 4 && last != 0)=true by simp at hap;simp [hap]] at this
                exact this)
               clear ho hap AT2 hnm
               go_wp2_with (first|(go_at_call 94;refine (RN.out _).mono ?_;rintro e w9 ⟨rfl,rfl⟩)|(go_at_call 95;refine (GL.out _).mono ?_;rintro e w9 ⟨rfl,rfl⟩))
               go_ret2
               refine ⟨?_,Zx Q4.out.gr hsize⟩
               rw [HU.out]
               rfl
             | true =>
               have AT2:=AT.out
               rw [hap] at AT2
               obtain ⟨g,hg⟩:=Zeg AT2 BEG.out ho
               have AN:=Hq (AN0.out _ _ hg)
               have GL:=Hq (show ∀ W,Calls Tryz.prog 95 #[.int .i64 last,.int .i64 2] W fun e w'=>e = .returned (.bool false)/\W=w' from fun W=>by
                have:=Jj last 2 W
                rw [show (last != 4 && (2:Int) != 4 && last != 0)=false by (simp at hap;rcases hap with rfl|rfl <;> rfl)] at this
                exact this)
               clear ho hap AT2 hg hnm
               go_upto_region 35 with (first|(go_at_call 94;refine (RN.out _).mono ?_;rintro e w9 ⟨rfl,rfl⟩))
               have Q5:=Hq (Zdk Q.out (Zx (x0 := .int .i64 2) (x1 := .string (bs x)) (x2 := .int .i64 n) (x3 := .bool big) G4.out HB4.out))
               have B5:=Hq (Zds (x0 := .int .i64 2) (x1 := .string (bs x)) (x2 := .int .i64 n) (x3 := .bool big) B4.out)
               generalize (((w4.setCell ⟨b4,0,none⟩ (.int .i64 2)).setCell ⟨b4,1,none⟩ (.string (bs x))).setCell ⟨b4,2,none⟩ (.int .i64 n)).setCell ⟨b4,3,none⟩ (.bool big)=w5 at *
               clear c0 c1 c2 c3 z0 z1 z2 z3
               obtain ⟨c0,c1,c2,c3,z0,z1,z2,z3⟩:=Zaa B5.out
               have hsize5:=Q5.out.gr.size
               have hE:∀ o,w.heap.size<=(w5.alloc o).heap.size:=fun o=>Zw hsize5 o
               go_wp2_with (first
                | (go_at_call 95;refine (GL.out _).mono ?_;rintro e w9 ⟨rfl,rfl⟩)
                | (at_builtin;refine wpList_append_own_at _ rfl _ _ 135 rfl w.heap.size 139 pi (.agg #[.int .i64 0,.string ⟨#[]⟩,.int .i64 0,.bool false]) 4 40 Zbs pi0 pi1 pi2 pi3 rfl (by decide) (.slice p rs.length c) _ _ rfl (World.ownsRow.alloc Q5.out.row _) ⟨w5.heap.size,0,none⟩ 1 1 (rp4 (.num n big,x)) rfl rfl (Zcv w5 _ _ _ _ _) (Zed _) hc3 hc4 (hE _) ?_;intro v3 w6 hown3 hgr3 hnil3 hat3;obtain ⟨p3,k3,hv3⟩:=Zi hown3;subst hv3;have OW3:=Hq hown3;have GR3:=Hq hgr3;clear hown3 hgr3 hnil3 hat3))
               have hkj:=HK.out
               exact ⟨⟨2,j,g,_,rfl,by go_num,Zec (q:=(.num n big,x)) Q5.out AN.out HK.out (by rw [Ye];exact hj2) HT.out OW3.out (Za (Ga _ _ _) GR3.out)⟩,by simp [intOf];omega⟩
    · have DT:=Hq (show Zeb ((s[k]'hlt).toNat:Int)=false from by
       have h:=fun x=>hdg (Or.inr x);unfold Zpo at h;simpa using h)
      have ho:Zmm (s[k]'hlt::s.data.toList.drop (k+1))=none:=by
       rw [Zmm,if_neg hlt2,if_neg h34,if_neg hdg]
      rw [decide_eq_false (fun x=>hdg (Or.inl x))] at b45
      have HU:=Hq (HR.out.trans (Zin AT.out BEG.out ho))
      clear h59 hbl h58 h34 hgt hlt2 hd hdg ho
      go_wp2_with (first
       | (go_at_call 89;refine (Zbd _ _).mono ?_;rintro e w9 ⟨rfl,rfl⟩;rw [BL.out])
       | (go_at_call 93;refine (Yl _ _).mono ?_;rintro e w9 ⟨rfl,rfl⟩;rw [DT.out])
       | (go_at_call 91;refine (Zco _ _).mono ?_;rintro e w9 ⟨rfl,rfl⟩;rw [LT.out]))
      go_ret2
      refine ⟨?_,Q4.out.gr⟩
      rw [HU.out]
      rfl
  · have hnil:s.data.toList.drop k=[]:=List.drop_eq_nil_of_le (by rw [Ye];omega)
    have HU:=Hq (HR.out.trans (Zzv Q.out.at_ hnil))
    clear hnil
    go_wp2
    go_ret2
    refine ⟨?_,Q.out.gr⟩
    rw [HU.out]
    exact ⟨rs,rfl,Q.out.txt,p,c,rfl,Q.out.row⟩
theorem Yoe (i:Nat) (h:i<=1000000) (w:World):Calls Tryz.prog 68 #[.string ⟨#[111,112,101,110,32,114,101,97,100,32,119,114,105,116,101,32,108,105,115,116,32,99,108,111,115,101,32]⟩,.int .i64 i] w fun e w'=>e = .returned (.string (bs (Znd Zvp i)))/\w=w':=Zyv Zvp (by decide) i h w
theorem Zkt (x:ByteArray) (w:World):Calls Tryz.prog 96 #[.string x] w fun e w'=>e = .returned (Zgd (Xb shapeT x.toList))/\w=w':=by
 go_enter Tryz.func96,Tryz.ntmps96
 go_wp2
 go_loopw [4] (fun i wr=>∃ k:Nat,i = .int .i64 k/\k<=46/\(∀ (j:Nat) (r:ShR),j<k->shapeT[j]? = some r->(r.1.toList == x.toList)=false)/\w=wr) (fun i _=>46 - (intOf i).toNat)
 case atStart=>exact ⟨0,rfl,Nat.zero_le _,fun j r hj=>absurd hj (Nat.not_lt_zero _),rfl⟩
 case round =>
  obtain ⟨k,rfl,hk,hall,hwr⟩:=hrel
  subst hwr
  have AL:=Hq hall
  clear hall
  by_cases hlt:k<46
  · have hlt2:(k:Int)<46:=by omega
    have hks:k<shapeT.length:=by rw [Zbm];exact hlt
    obtain ⟨r,hr⟩:∃ r,shapeT[k]? = some r:=⟨_,List.getElem?_eq_getElem hks⟩
    have WD0:=fun W=>Ybb k (by omega) W
    rw [Ztf hr] at WD0
    have WD:=Hq WD0
    have HR:=Hq hr
    clear WD0 hr
    cases he:r.1.toList == x.toList with
    | true =>
      have HP:=Hq (Zil HR.out he AL.out)
      go_wp2_with (go_at_call 68;refine (WD.out _).mono ?_;rintro e w1 ⟨rfl,rfl⟩)
      go_ret2
      rw [HP.out]
      exact ⟨rfl,rfl⟩
    | false =>
      have AL2:=Hq (Zkz HR.out he AL.out)
      go_wp2_with (go_at_call 68;refine (WD.out _).mono ?_;rintro e w1 ⟨rfl,rfl⟩)
      exact ⟨⟨k+1,by go_num,by omega,AL2.out,trivial⟩,by simp [intOf];omega⟩
  · have hkn:k=46:=by omega
    subst hkn
    have HP:=Hq (Zim (T:=shapeT) (x:=x.toList) (fun j r hj=>AL.out j r (by have:=(List.getElem?_eq_some_iff.1 hj).1;rw [Zbm] at this;exact this) hj))
    clear hlt
    go_wp2
    go_ret2
    rw [HP.out]
    exact ⟨rfl,rfl⟩
theorem Zjm (x:ByteArray) (w:World):Calls Tryz.prog 97 #[.string x] w fun e w'=>e = .returned (Zgd (Xb callT x.toList))/\w=w':=by
 go_enter Tryz.func97,Tryz.ntmps97
 go_wp2
 go_loopw [4] (fun i wr=>∃ k:Nat,i = .int .i64 k/\k<=5/\(∀ (j:Nat) (r:ShR),j<k->callT[j]? = some r->(r.1.toList == x.toList)=false)/\w=wr) (fun i _=>5 - (intOf i).toNat)
 case atStart=>exact ⟨0,rfl,Nat.zero_le _,fun j r hj=>absurd hj (Nat.not_lt_zero _),rfl⟩
 case round =>
  obtain ⟨k,rfl,hk,hall,hwr⟩:=hrel
  subst hwr
  have AL:=Hq hall
  clear hall
  by_cases hlt:k<5
  · have hlt2:(k:Int)<5:=by omega
    have hks:k<callT.length:=hlt
    obtain ⟨r,hr⟩:∃ r,callT[k]? = some r:=⟨_,List.getElem?_eq_getElem hks⟩
    have WD0:=fun W=>Yoe k (by omega) W
    rw [Yeh hr] at WD0
    have WD:=Hq WD0
    have HR:=Hq hr
    clear WD0 hr
    cases he:r.1.toList == x.toList with
    | true =>
      have HP:=Hq (Zil HR.out he AL.out)
      go_wp2_with (go_at_call 68;refine (WD.out _).mono ?_;rintro e w1 ⟨rfl,rfl⟩)
      go_ret2
      rw [HP.out]
      exact ⟨rfl,rfl⟩
    | false =>
      have AL2:=Hq (Zkz HR.out he AL.out)
      go_wp2_with (go_at_call 68;refine (WD.out _).mono ?_;rintro e w1 ⟨rfl,rfl⟩)
      exact ⟨⟨k+1,by go_num,by omega,AL2.out,trivial⟩,by simp [intOf];omega⟩
  · have hkn:k=5:=by omega
    subst hkn
    have HP:=Hq (Zim (T:=callT) (x:=x.toList) (fun j r hj=>AL.out j r (List.getElem?_eq_some_iff.1 hj).1 hj))
    clear hlt
    go_wp2
    go_ret2
    rw [HP.out]
    exact ⟨rfl,rfl⟩
def Zfr (ps:List RPc) (n:Nat):Bool:=decide (ps.length=n) && ps.all fun q=>rpK q == 2
theorem Zag {w:World} {B:Nat} {p:Option Addr} {ps:List RPc} (h:Ybk w B p ps) {i:Nat} {q:RPc} (hq:ps[i]? = some q):∃ b o,p=some ⟨b,o,none⟩/\b<B /\
 w.cell? ⟨b,o+i*4,none⟩=some (.int .i64 (rpK q))/\w.cell? ⟨b,o+i*4+1,none⟩=some (.string (bs (rpT q)))/\w.cell? ⟨b,o+i*4+2,none⟩=some (.int .i64 (rpN q))/\w.cell? ⟨b,o+i*4+3,none⟩=some (.bool (rpF q)):=by
 obtain ⟨b,o,e,hb,hc⟩:=h (Nat.lt_of_le_of_lt (Nat.zero_le _) (List.getElem?_eq_some_iff.1 hq).1)
 exact ⟨b,o,e,hb,hc i q hq⟩
theorem Zly (ps:List RPc) (n B:Nat) (p:Option Addr) (c:Nat) (w:World) (h:Ybk w B p ps) (hn:ps.length<=100000) (hm:n<=100000) :
 Calls Tryz.prog 61 #[.slice p ps.length c,.int .i64 n] w fun e w'=>e = .returned (.bool (Zfr ps n))/\w=w':=by
 by_cases hl:ps.length=n
 · have hli:((ps.length:Int) != n)=false:=by simp;omega
   have HP:=Hq h
   clear h
   obtain ⟨L,hL⟩:∃ L,ps.length=L:=⟨_,rfl⟩
   rw [hL] at hli hl hn ⊢
   subst hl
   have HL:=Hq hL
   have HN:=Hq (show Zfr ps L=ps.all fun q=>rpK q == 2 by unfold Zfr;rw [hL];simp)
   clear hL
   rw [HN.out]
   go_enter Tryz.func61,Tryz.ntmps61
   go_wp2
   go_loopw [5] (fun i wr=>∃ k:Nat,i = .int .i64 k/\k<=L/\Hid (∀ (j:Nat) q,j<k->ps[j]? = some q->rpK q=2)/\w=wr) (fun i _=>L - (intOf i).toNat)
   case atStart=>exact ⟨0,rfl,Nat.zero_le _,Hq fun j q hj=>absurd hj (Nat.not_lt_zero _),rfl⟩
   case round =>
    obtain ⟨k,rfl,hk,HK,hwr⟩:=hrel
    subst hwr
    by_cases hlt:k<L
    · obtain ⟨q,hq⟩:∃ q,ps[k]? = some q:=⟨_,List.getElem?_eq_getElem (by rw [HL.out];exact hlt)⟩
      obtain ⟨b,o,rfl,hb,d0,d1,d2,d3⟩:=Zag HP.out hq
      by_cases h2:rpK q=2
      · have NX:=Hq (show ∀ (j:Nat) q,j<k+1->ps[j]? = some q->rpK q=2 from fun j q' hj hq'=>by
         by_cases hjk:j<k
         · exact HK.out j q' hjk hq'
         · have:j=k:=by omega
           subst this
           rw [hq] at hq'
           injection hq' with hq'
           rw [<- hq'];exact h2)
        rw [h2] at d0
        clear hq d1 d2 d3 h2
        go_wp2
        exact ⟨⟨k+1,by go_num,by omega,NX,trivial⟩,by simp [intOf];omega⟩
      · have hb2:(rpK q != 2)=true:=by simpa using h2
        have HA:=Hq (show (ps.all fun q=>rpK q == 2)=false by
         rw [List.all_eq_false]
         exact ⟨q,List.mem_of_getElem? hq,by simpa using h2⟩)
        clear hq d1 d2 d3 h2
        go_wp2
        go_ret
        rw [HA.out]
        exact ⟨rfl,rfl⟩
    · have HA:=Hq (show (ps.all fun q=>rpK q == 2)=true by
       rw [List.all_eq_true]
       intro q hq
       obtain ⟨j,hj⟩:=List.getElem?_of_mem hq
       have hjl:=(List.getElem?_eq_some_iff.1 hj).1
       rw [HL.out] at hjl
       rw [HK.out j q (by omega) hj];rfl)
      go_wp2
      go_ret
      rw [HA.out]
      exact ⟨rfl,rfl⟩
 · have hli:((ps.length:Int) != n)=true:=by simp;omega
   have HN:=Hq (show Zfr ps n=false by unfold Zfr;rw [decide_eq_false hl];rfl)
   clear hl h
   go_enter Tryz.func61,Tryz.ntmps61
   go_wp2
   go_ret
   rw [HN.out]
   exact ⟨rfl,rfl⟩
def LnB (w:World) (b:Nat) (v0 v1 v2 v3 v4 v5 v6 v7 v8 v9 v10:Value):Prop:=w.heap[b]? = some (.cells #[v0,v1,v2,v3,v4,v5,v6,v7,v8,v9,v10] 86 (0,0))
structure LnC (w:World) (b:Nat) (v0 v1 v2 v3 v4 v5 v6 v7 v8 v9 v10:Value):Prop where
 c0:w.cell? ⟨b,0,none⟩=some v0
 c1:w.cell? ⟨b,1,none⟩=some v1
 c2:w.cell? ⟨b,2,none⟩=some v2
 c3:w.cell? ⟨b,3,none⟩=some v3
 c4:w.cell? ⟨b,4,none⟩=some v4
 c5:w.cell? ⟨b,5,none⟩=some v5
 c6:w.cell? ⟨b,6,none⟩=some v6
 c7:w.cell? ⟨b,7,none⟩=some v7
 c8:w.cell? ⟨b,8,none⟩=some v8
 c9:w.cell? ⟨b,9,none⟩=some v9
 c10:w.cell? ⟨b,10,none⟩=some v10
 fz:∀ o,w.frozen? ⟨b,o,none⟩=false
 lt:b<w.heap.size
theorem Zr {w:World} {b:Nat} {v0 v1 v2 v3 v4 v5 v6 v7 v8 v9 v10:Value} (h:LnB w b v0 v1 v2 v3 v4 v5 v6 v7 v8 v9 v10):LnC w b v0 v1 v2 v3 v4 v5 v6 v7 v8 v9 v10 :=
 ⟨Cq w _ 0 _ _ _ h,Cq w _ 1 _ _ _ h,Cq w _ 2 _ _ _ h,Cq w _ 3 _ _ _ h,Cq w _ 4 _ _ _ h,Cq w _ 5 _ _ _ h,Cq w _ 6 _ _ _ h,Cq w _ 7 _ _ _ h,Cq w _ 8 _ _ _ h,Cq w _ 9 _ _ _ h,Cq w _ 10 _ _ _ h,fun o=>frozen_of_row w _ o _ _ h,(Gs h)⟩
theorem Zcp (w:World) (v0 v1 v2 v3 v4 v5 v6 v7 v8 v9 v10:Value):LnB (w.alloc (.cells #[v0,v1,v2,v3,v4,v5,v6,v7,v8,v9,v10] 86 (0,0))) w.heap.size v0 v1 v2 v3 v4 v5 v6 v7 v8 v9 v10:=heap_alloc_new w _
theorem Yp {w w':World} {b:Nat} {v0 v1 v2 v3 v4 v5 v6 v7 v8 v9 v10:Value} {row:Option Nat} (h:LnB w b v0 v1 v2 v3 v4 v5 v6 v7 v8 v9 v10) (g:w.grownBy w' row) (hr:row≠some b):LnB w' b v0 v1 v2 v3 v4 v5 v6 v7 v8 v9 v10:=Zf h g hr
theorem Yy {w:World} {b:Nat} {v0 v1 v2 v3 v4 v5 v6 v7 v8 v9 v10 x0 x1 x2 x3 x4 x5 x6 x7 x8 x9 x10:Value} (h:LnB w b v0 v1 v2 v3 v4 v5 v6 v7 v8 v9 v10):LnB (((((((((((w.setCell ⟨b,0,none⟩ x0).setCell ⟨b,1,none⟩ x1).setCell ⟨b,2,none⟩ x2).setCell ⟨b,3,none⟩ x3).setCell ⟨b,4,none⟩ x4).setCell ⟨b,5,none⟩ x5).setCell ⟨b,6,none⟩ x6).setCell ⟨b,7,none⟩ x7).setCell ⟨b,8,none⟩ x8).setCell ⟨b,9,none⟩ x9).setCell ⟨b,10,none⟩ x10) b x0 x1 x2 x3 x4 x5 x6 x7 x8 x9 x10:=by
 have h0:LnB _ b x0 v1 v2 v3 v4 v5 v6 v7 v8 v9 v10:=Zj (o:=0) (v:=x0) h
 have h1:LnB _ b x0 x1 v2 v3 v4 v5 v6 v7 v8 v9 v10:=Zj (o:=1) (v:=x1) h0
 have h2:LnB _ b x0 x1 x2 v3 v4 v5 v6 v7 v8 v9 v10:=Zj (o:=2) (v:=x2) h1
 have h3:LnB _ b x0 x1 x2 x3 v4 v5 v6 v7 v8 v9 v10:=Zj (o:=3) (v:=x3) h2
 have h4:LnB _ b x0 x1 x2 x3 x4 v5 v6 v7 v8 v9 v10:=Zj (o:=4) (v:=x4) h3
 have h5:LnB _ b x0 x1 x2 x3 x4 x5 v6 v7 v8 v9 v10:=Zj (o:=5) (v:=x5) h4
 have h6:LnB _ b x0 x1 x2 x3 x4 x5 x6 v7 v8 v9 v10:=Zj (o:=6) (v:=x6) h5
 have h7:LnB _ b x0 x1 x2 x3 x4 x5 x6 x7 v8 v9 v10:=Zj (o:=7) (v:=x7) h6
 have h8:LnB _ b x0 x1 x2 x3 x4 x5 x6 x7 x8 v9 v10:=Zj (o:=8) (v:=x8) h7
 have h9:LnB _ b x0 x1 x2 x3 x4 x5 x6 x7 x8 x9 v10:=Zj (o:=9) (v:=x9) h8
 have h10:LnB _ b x0 x1 x2 x3 x4 x5 x6 x7 x8 x9 x10:=Zj (o:=10) (v:=x10) h9
 exact h10
theorem Zp {w0 w:World} {b:Nat} {x0 x1 x2 x3 x4 x5 x6 x7 x8 x9 x10:Value} (h:w0.grownBy w none) (hb:w0.heap.size<=b):w0.grownBy (((((((((((w.setCell ⟨b,0,none⟩ x0).setCell ⟨b,1,none⟩ x1).setCell ⟨b,2,none⟩ x2).setCell ⟨b,3,none⟩ x3).setCell ⟨b,4,none⟩ x4).setCell ⟨b,5,none⟩ x5).setCell ⟨b,6,none⟩ x6).setCell ⟨b,7,none⟩ x7).setCell ⟨b,8,none⟩ x8).setCell ⟨b,9,none⟩ x9).setCell ⟨b,10,none⟩ x10) none :=
 Zy (Zy (Zy (Zy (Zy (Zy (Zy (Zy (Zy (Zy (Zy h hb) hb) hb) hb) hb) hb) hb) hb) hb) hb) hb
theorem Ysg {w:World} {b:Nat} {v0 v1 v2 v3 v4 v5 v6 v7 v8 v9 v10:Value} (h:LnB w b v0 v1 v2 v3 v4 v5 v6 v7 v8 v9 v10):(loadVar 86 ⟨b,0,none⟩).run Tryz.prog w = .ok (.agg #[v0,v1,v2,v3,v4,v5,v6,v7,v8,v9,v10]) w:=by
 obtain ⟨c0,c1,c2,c3,c4,c5,c6,c7,c8,c9,c10,fz,lt⟩:=Zr h
 have z:=fz 0
 go_simp
theorem Xq {fn:Func} {p u:Tmp} (hf:fn.results = #[.cell p 86,.tmp u]) {tmps:Array Value} {w:World} {b:Nat} {v0 v1 v2 v3 v4 v5 v6 v7 v8 v9 v10 f:Value}
 (hp:tmps.getD p undef = .pointer (some ⟨b,0,none⟩)) (hu:tmps.getD u undef=f) (h:LnB w b v0 v1 v2 v3 v4 v5 v6 v7 v8 v9 v10) :
 (results fn tmps).run Tryz.prog w = .ok (.tuple #[.agg #[v0,v1,v2,v3,v4,v5,v6,v7,v8,v9,v10],f]) w:=by
 rw [results_cell_tmp hf,hp,hu]
 have:(asAddr (.pointer (some ⟨b,0,none⟩))).run Tryz.prog w = .ok (⟨b,0,none⟩:Addr) w:=rfl
 rw [this]
 simp only [Result.andThen]
 rw [Ysg h]
structure Yjx (w W:World) (b2 b4 B:Nat) (p:Option Addr) (ps:List RPc) (v0 v1 v2 v3 v4 v5 v6 v7 v8 v9 v10:Value):Prop where
 gr:w.grownBy W none
 bx:LnB W b2 v0 v1 v2 v3 v4 v5 v6 v7 v8 v9 v10
 bz:LnB W b4 (.int .i64 0) (.slice none 0 0) (.string ⟨#[]⟩) (.int .i64 0) (.int .i64 0) (.int .i64 0) (.string ⟨#[]⟩) (.int .i64 0) (.int .i64 0) (.string ⟨#[]⟩) (.bool false)
 pc:Ybk W B p ps
 h2:w.heap.size<=b2
 h4:w.heap.size<=b4
 ne:b2≠b4
 hB:B<=w.heap.size
theorem Ydg (w:World) (B:Nat) (p:Option Addr) (ps:List RPc) (v0 v1 v2 v3 v4 v5 v6 v7 v8 v9 v10:Value) (h:Ybk w B p ps) (hB:B<=w.heap.size) :
 Yjx w ((w.alloc (.cells #[v0,v1,v2,v3,v4,v5,v6,v7,v8,v9,v10] 86 (0,0))).alloc (.cells #[.int .i64 0,.slice none 0 0,.string ⟨#[]⟩,.int .i64 0,.int .i64 0,.int .i64 0,.string ⟨#[]⟩,.int .i64 0,.int .i64 0,.string ⟨#[]⟩,.bool false] 86 (0,0))) w.heap.size (w.heap.size+1) B p ps v0 v1 v2 v3 v4 v5 v6 v7 v8 v9 v10:=by
 have h1:=Zcp w v0 v1 v2 v3 v4 v5 v6 v7 v8 v9 v10
 have h2:=Zcp (w.alloc (.cells #[v0,v1,v2,v3,v4,v5,v6,v7,v8,v9,v10] 86 (0,0))) (.int .i64 0) (.slice none 0 0) (.string ⟨#[]⟩) (.int .i64 0) (.int .i64 0) (.int .i64 0) (.string ⟨#[]⟩) (.int .i64 0) (.int .i64 0) (.string ⟨#[]⟩) (.bool false)
 rw [World.size_alloc] at h2
 have g1:=Ga w (.cells #[v0,v1,v2,v3,v4,v5,v6,v7,v8,v9,v10] 86 (0,0)) none
 have g2:=Ga (w.alloc (.cells #[v0,v1,v2,v3,v4,v5,v6,v7,v8,v9,v10] 86 (0,0))) (.cells #[.int .i64 0,.slice none 0 0,.string ⟨#[]⟩,.int .i64 0,.int .i64 0,.int .i64 0,.string ⟨#[]⟩,.int .i64 0,.int .i64 0,.string ⟨#[]⟩,.bool false] 86 (0,0)) none
 exact ⟨Za g1 g2,Yp h1 g2 (by simp),h2,Zgp h (Za g1 g2) (by simp),Nat.le_refl _,by omega,by omega,hB⟩
theorem Zeh {w W:World} {b2 b4 B o:Nat} {p:Option Addr} {ps:List RPc} {v0 v1 v2 v3 v4 v5 v6 v7 v8 v9 v10 x0 x1 x2 x3 x4 x5 x6 x7 x8 x9 x10 x:Value} (h:Yjx w W b2 b4 B p ps v0 v1 v2 v3 v4 v5 v6 v7 v8 v9 v10) (e:(#[v0,v1,v2,v3,v4,v5,v6,v7,v8,v9,v10]:Array Value).setIfInBounds o x = #[x0,x1,x2,x3,x4,x5,x6,x7,x8,x9,x10]):Yjx w (W.setCell ⟨b2,o,none⟩ x) b2 b4 B p ps x0 x1 x2 x3 x4 x5 x6 x7 x8 x9 x10:=by
 obtain ⟨h1,h2,h3,h4,h5,h6,h7,h8⟩:=h
 have g:=Zm W b2 o x
 exact ⟨Zy h1 h5,by unfold LnB;rw [Zj h2,e],Yp h3 g (by intro he;injection he with he;exact h7 he),Zgp h4 g (by intro r hr;injection hr with hr;omega),h5,h6,h7,h8⟩
structure LnF where
 kind:Int
 lp:Option Addr
 ln:Nat
 lc:Nat
 name:Txt
 n0:Int
 n1:Int
 n2:Int
 data:Txt
 op:Int
 a:Int
 word:Txt
 big:Bool
abbrev lnA (x:LnF):Value := .agg #[.int .i64 x.kind,.slice x.lp x.ln x.lc,.string (bs x.name),.int .i64 x.n0,.int .i64 x.n1,.int .i64 x.n2,.string (bs x.data),.int .i64 x.op,.int .i64 x.a,.string (bs x.word),.bool x.big]
def Yan (x:LnF) (n:Nat) (kd:Int) (rest:List RPc):Option LnF :=
 if kd=0 then (match rest with|[]=>some { x with op:=n }|_=>none)
 else match rest with
  | [(.num v _,_)]=>some { x with op:=n,a:=v }
  | [(.word s,_)]=>if kd=5 then (match Xb callT s with|some c=>some { x with op:=n,a:=c }|none=>none) else if kd=3\/kd=4 then some { x with op:=n,word:=s } else none
  | _=>none
def Ypk (x:LnF):List RPc->Option LnF
 | []=>some { x with op := -1 }
 | (.word t,_)::rest=>match Xb shapeT t with
   | none=>none
   | some n=>Yan x n (Zai (n:Int)) rest
 | _=>none
def Zyr (w:World) (r:Option LnF) (e:Ending) (w':World):Prop :=
 (match r with
   | some y=>e = .returned (.tuple #[lnA y,.bool true])
   | none=>∃ y,e = .returned (.tuple #[lnA y,.bool false]))/\w.grownBy w' none
theorem Zdq {w w':World} {r:Option LnF} {y:LnF} {e:Ending} (hr:r=some y) (he:e = .returned (.tuple #[lnA y,.bool true])) (hg:w.grownBy w' none):Zyr w r e w':=by subst hr;exact ⟨he,hg⟩
theorem Zcr {w w':World} {r:Option LnF} (y:LnF) {e:Ending} (hr:r=none) (he:e = .returned (.tuple #[lnA y,.bool false])) (hg:w.grownBy w' none):Zyr w r e w':=by subst hr;exact ⟨⟨y,he⟩,hg⟩
end Go.Proofs.YteciblfmgdlipaaGreatDoor.AS
