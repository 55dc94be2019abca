/-
  Part of a proof: contracts of functions and lemmas, each stated by its own theorem. Conditions: as each theorem states.
-/
import Derived.Test.YteciblfmgdlipaaGreatDoorMR01
import Derived.Test.YteciblfmgdlipaaGreatDoorMR00
import Derived.Maps.Own
import Derived.Maps.OwnOps
import Derived.Maps.OwnSet
import Derived.StringKeys
import Derived.Shelf.Strconv.ParseUint10
set_option linter.unusedSimpArgs false
set_option linter.unusedVariables false
set_option maxRecDepth 100000
set_option maxHeartbeats 16000000
namespace Go.Proofs.YteciblfmgdlipaaGreatDoor.CK
open Go.RowKit Go.Great
theorem Yqr (k:Nat):bK k<=4096:=by unfold bK;split <;> decide
def Zhj (l:List (Int × Int)):Int:=if 4096<l.length then 2 else Zdz l
def Yew (w:World) (l:List (Int × Int)) (e:Ending) (w':World):Prop:=∃ v,e = .returned (.tuple #[v,.int .i64 (Zhj l)])/\w.grownBy w' none
theorem Zzd (l:List (Int × Int)) (p:Option Addr) (c B:Nat) (w:World) (hB:B<=w.heap.size) (hC:Zhp w B p l) :
 Calls Tryz.prog 59 #[.slice p l.length c] w (Yew w l):=by
 have CC:=Hq hC
 clear hC
 by_cases h4:(4096:Int)<(l.length:Int)
 · have hE:Zhj l=2:=by unfold Zhj;rw [if_pos (by omega)]
   go_enter Tryz.func59,Tryz.ntmps59
   go_wp2
   go_ret2
   exact ⟨.slice none 0 0,by rw [hE];rfl,Zd _ _⟩
 · have hE:Zhj l=Zdz l:=by unfold Zhj;rw [if_neg (by omega)]
   have N:=Hq Ylq
   have KO:=Hq Zqo
   have SH:=Hq Zhv
   go_enter Tryz.func59,Tryz.ntmps59
   go_wp2_with (first
    | (go_at_call 83;refine (N.out _).mono ?_;rintro e w1 ⟨rfl,rfl⟩)
    | (go_at_call 84;refine (KO.out _).mono ?_;rintro e w2 ⟨K,rfl,hg2,hk2⟩;have G2:=Hq hg2;have K2:=Hq hk2;clear hg2 hk2)
    | (go_at_call 85;refine (SH.out _).mono ?_;rintro e w3 ⟨S,rfl,hg3,hS,hs3⟩;have G3:=Hq hg3;have S3:=Hq hs3;clear hg3 hs3))
   have ES:=Hq (EncS.mk (Za (Za (Ga w _ none) G2.out) G3.out) (Nat.le_refl _) (MwAt.mk (Zf (Zf (heap_alloc_new w _) G2.out (by simp)) G3.out (by simp)) (World.ownsRow_nil _ _ _ _) (by have:=S3.out.1;have:=G2.out.size;simp at this;omega) (Nat.le_refl _)) S3.out (by have:=G2.out.size;simp at this;omega) S3.out.1 (Zyr (Bw:=w.heap.size) (Zjd K2.out G3.out) (by simp) (Nat.le_refl _)) (by simp):EncS w w3 w3.heap.size w.heap.size S K 0 (.slice none 0 0) [])
   have hEw:w.heap.size<w3.heap.size:=ES.out.mw.lt
   generalize w3.heap.size=E at *
   clear K2 S3 hS G2
   go_loopw [20] (fun i wr=>∃ (k n:Nat) (vb:Value) (xs:List Value),i = .int .i64 k/\k<=l.length/\n<=18*k/\Zdz l=Zdz (l.drop k)/\EncS w wr E w.heap.size S K n vb xs) (fun i _=>l.length - (intOf i).toNat)
   case atStart=>exact ⟨0,0,_,_,rfl,Nat.zero_le _,Nat.le_refl _,rfl,ES.out⟩
   case round =>
    obtain ⟨k,n,vb,xs,rfl,hk,hn,he,hes⟩:=hrel
    have HE:=Hq he
    have ER:=Hq hes
    clear he hes
    by_cases hlt:(k:Int)<(l.length:Int)
    · obtain ⟨⟨op,a⟩,hg⟩:∃ x,l[k]? = some x:=⟨_,List.getElem?_eq_getElem (by omega)⟩
      obtain ⟨b,o,rfl,hb,hc⟩:=CC.out (by omega)
      obtain ⟨c0,c1⟩:=hc k op a hg
      replace c0:=Xt ER.out.gr (B:=B) (by simp) hb c0
      replace c1:=Xt ER.out.gr (B:=B) (by simp) hb c1
      have hb2:b<wr.heap.size:=by have:=ER.out.gr.size;omega
      have hd:=Zrr hg
      have R:=Hq (Zpx op S (wr.alloc (.cells #[.int .i64 op,.int .i64 a] 58)) (Zgn ER.out.sh (Ga _ _ none) (by simp)))
      clear hc
      cases hs:Zr op with
      | none =>
        rw [hs] at hd R
        simp only [] at hd
        simp only [Zmq] at R
        have HR:=Hq (hE.trans (HE.out.trans hd))
        clear hd hg
        go_wp2_with (go_at_call 86;refine R.out.mono ?_;rintro e w4 ⟨rfl,hg4⟩;have G4:=Hq hg4;clear hg4)
        go_ret2
        exact ⟨.slice none 0 0,by rw [HR.out];rfl,Za ER.out.gr (Za (Ga _ _ none) (Za G4.out (Ga _ _ none)))⟩
      | some s =>
        obtain ⟨nm,ok,tk,gk⟩:=s
        obtain ⟨kd,rfl,hk7,ho0,ho46⟩:=Zpy hs
        rw [hs] at hd R
        simp only [Int.toNat_natCast] at hd
        simp only [Zmq] at R
        obtain ⟨ka,kb,kc,hkc,q0,q1,q2⟩:=ER.out.kd.2.2 kd hk7
        have hKB:=ER.out.kd.1
        have hKE:=ER.out.kd.2.1
        have hKw:K<wr.heap.size:=by have:=ER.out.mw.le;omega
        have hki:(kd:Int)<7:=by omega
        have HD:=Hq hd
        have HKC:=Hq hkc
        have MV:=Hq (show ∀ W,wr.grownBy W none->W.cell? ⟨K,kd*3,none⟩=some ka/\W.cell? ⟨K,kd*3+1,none⟩=some kb/\W.cell? ⟨K,kd*3+2,none⟩=some kc from fun W g=>⟨g.cell q0 (by simp),g.cell q1 (by simp),g.cell q2 (by simp)⟩)
        have BV:=Hq (show ∀ (W:World) (bb:Nat),wr.grownBy W none->wr.cell? ⟨bb,0,none⟩=some (.int .i64 (bK kd))->W.cell? ⟨bb,0,none⟩=some (.int .i64 (bK kd)) from fun W bb g h=>g.cell h (by simp))
        have NU:=Hq (show ∀ W,wr.grownBy W none->Calls Tryz.prog 87 #[.pointer (some ⟨w.heap.size,0,none⟩),.int .i64 op] W (Zpl W E w.heap.size vb n) from fun W g=>Zid E w.heap.size vb n xs ER.out.one op ho0 (by omega) (by omega) W (Zns ER.out g).mw)
        clear hd hkc q0 q1 q2 hs hg
        rcases HKC.out with ⟨hk0,rfl,rfl,rfl⟩|⟨hk0,rfl,rfl,rfl⟩|⟨hk0,bb,rfl,rfl,rfl,hb1,hb2',hbc⟩
        · by_cases hm:(a == 0)=true
          · have hd2:=HD.out
            rw [if_pos (show Zdw kd a=true by unfold Zdw;rw [if_pos hk0];exact hm)] at hd2
            have H2:=Hq (HE.out.trans hd2)
            clear hd2 HKC hk0
            (
              go_wp2_with (first
               | (go_at_call 86;refine R.out.mono ?_;rintro e w4 ⟨rfl,hg4⟩;have G4:=Hq (Za (Ga wr _ none) hg4);have m4:=MV.out w4 G4.out;obtain ⟨m0,m1,m2⟩:=m4;have hKw4:K<w4.heap.size:=Nat.lt_of_lt_of_le hKw G4.out.size;have X8:=Hq (Zf (heap_alloc_new wr (.cells #[.int .i64 op,.int .i64 a] 58)) hg4 (by simp));have x81:=Cq w4 _ 1 _ _ _ X8.out;have x80:=Cq w4 _ 0 _ _ _ X8.out;have hl8:wr.heap.size<w4.heap.size:=(Gs X8.out);clear hg4 R)
               | (go_at_call 116;refine (Zgy _ _).mono ?_;rintro e w5 ⟨rfl,rfl⟩;rw [hm])
               | (go_at_call 119;refine (Zkx _ _).mono ?_;rintro e w5 ⟨rfl,rfl⟩)
               | (go_at_call 146;refine (Zeh _ _ _ _ (BV.out _ _ (Za G4.out (Za (Ga _ _ _) (Ga _ _ _))) hbc)).mono ?_;rintro e w5 ⟨rfl,rfl⟩;rw [hm])
               | (go_at_call 87;refine (NU.out _ (Za G4.out (Za (Ga _ _ _) (Ga _ _ _)))).mono ?_;rintro e w6 ⟨rfl,v6,j6,ys6,h61,h69,ho6,f6⟩;have EM:=Zln ER.out G4.out X8.out f6 ho6;obtain ⟨t1,t2,t3⟩:=EM;have E6:=Hq t1;have O6:=Hq ho6;clear NU x81 x80 hl8 m0 m1 m2 hKw4;have y81:=Cq w6 _ 1 _ _ _ t2;have y111:=Cq w6 _ 1 _ _ _ t3;have hl8:wr.heap.size<w6.heap.size:=(Gs t2);have hl11:w4.heap.size+1<w6.heap.size:=(Gs t3);clear t1 t2 t3 f6 ho6)
               | (go_at_call 117;refine (Zgs _ _ _).mono ?_;rintro e w7 ⟨rfl,rfl⟩;have P7:=Hq (Zec E6.out.mw E6.out.one))
               | (go_at_call 120;refine (Zlc _ _ _ _ _ E6.out.one _ (by omega) _ E6.out.mw).mono ?_;intro e w7 hp7;have P7:=Hq (Zck hp7);have he7:=hp7.1;subst he7;clear hp7)
               | (go_at_call 87;refine (Zid _ _ _ _ _ E6.out.one _ HA.out.1 HA.out.2 (by omega) _ E6.out.mw).mono ?_;intro e w7 hp7;have P7:=Hq (Zck hp7);have he7:=hp7.1;subst he7;clear hp7)))
            (
              obtain ⟨-,v7,m7,xs7,h7,ho7,f7⟩:=P7.out
              exact ⟨⟨k+1,n+j6+m7,v7,xs7,by go_num,by omega,by omega,H2.out,Zjz E6.out f7 ho7⟩,by simp [intOf];omega⟩)
          · replace hm:(a == 0)=false:=by simpa using hm
            have hd2:=HD.out
            rw [if_neg (show ¬ Zdw kd a=true by unfold Zdw;rw [if_pos hk0,hm];simp)] at hd2
            have H2:=Hq (hE.trans (HE.out.trans hd2))
            clear hd2 HKC hk0
            (
              go_wp2_with (first
               | (go_at_call 86;refine R.out.mono ?_;rintro e w4 ⟨rfl,hg4⟩;have G4:=Hq (Za (Ga wr _ none) hg4);have m4:=MV.out w4 G4.out;obtain ⟨m0,m1,m2⟩:=m4;have hKw4:K<w4.heap.size:=Nat.lt_of_lt_of_le hKw G4.out.size;have X8:=Hq (Zf (heap_alloc_new wr (.cells #[.int .i64 op,.int .i64 a] 58)) hg4 (by simp));have x81:=Cq w4 _ 1 _ _ _ X8.out;have x80:=Cq w4 _ 0 _ _ _ X8.out;have hl8:wr.heap.size<w4.heap.size:=(Gs X8.out);clear hg4 R)
               | (go_at_call 116;refine (Zgy _ _).mono ?_;rintro e w5 ⟨rfl,rfl⟩;rw [hm])
               | (go_at_call 119;refine (Zkx _ _).mono ?_;rintro e w5 ⟨rfl,rfl⟩)
               | (go_at_call 146;refine (Zeh _ _ _ _ (BV.out _ _ (Za G4.out (Za (Ga _ _ _) (Ga _ _ _))) hbc)).mono ?_;rintro e w5 ⟨rfl,rfl⟩;rw [hm])
               | (go_at_call 87;refine (NU.out _ (Za G4.out (Za (Ga _ _ _) (Ga _ _ _)))).mono ?_;rintro e w6 ⟨rfl,v6,j6,ys6,h61,h69,ho6,f6⟩;have EM:=Zln ER.out G4.out X8.out f6 ho6;obtain ⟨t1,t2,t3⟩:=EM;have E6:=Hq t1;have O6:=Hq ho6;clear NU x81 x80 hl8 m0 m1 m2 hKw4;have y81:=Cq w6 _ 1 _ _ _ t2;have y111:=Cq w6 _ 1 _ _ _ t3;have hl8:wr.heap.size<w6.heap.size:=(Gs t2);have hl11:w4.heap.size+1<w6.heap.size:=(Gs t3);clear t1 t2 t3 f6 ho6)
               | (go_at_call 117;refine (Zgs _ _ _).mono ?_;rintro e w7 ⟨rfl,rfl⟩;have P7:=Hq (Zec E6.out.mw E6.out.one))
               | (go_at_call 120;refine (Zlc _ _ _ _ _ E6.out.one _ (by omega) _ E6.out.mw).mono ?_;intro e w7 hp7;have P7:=Hq (Zck hp7);have he7:=hp7.1;subst he7;clear hp7)
               | (go_at_call 87;refine (Zid _ _ _ _ _ E6.out.one _ HA.out.1 HA.out.2 (by omega) _ E6.out.mw).mono ?_;intro e w7 hp7;have P7:=Hq (Zck hp7);have he7:=hp7.1;subst he7;clear hp7)))
            (
              go_ret2
              exact ⟨.slice none 0 0,by rw [H2.out];rfl,Za ER.out.gr (Za G4.out (Za (Ga _ _ _) (Ga _ _ _)))⟩)
        · have hd2:=HD.out
          rw [if_pos (show Zdw kd a=true by unfold Zdw;rw [if_neg (by omega),if_pos hk0])] at hd2
          have H2:=Hq (HE.out.trans hd2)
          clear hd2 HKC hk0
          (
            go_wp2_with (first
             | (go_at_call 86;refine R.out.mono ?_;rintro e w4 ⟨rfl,hg4⟩;have G4:=Hq (Za (Ga wr _ none) hg4);have m4:=MV.out w4 G4.out;obtain ⟨m0,m1,m2⟩:=m4;have hKw4:K<w4.heap.size:=Nat.lt_of_lt_of_le hKw G4.out.size;have X8:=Hq (Zf (heap_alloc_new wr (.cells #[.int .i64 op,.int .i64 a] 58)) hg4 (by simp));have x81:=Cq w4 _ 1 _ _ _ X8.out;have x80:=Cq w4 _ 0 _ _ _ X8.out;have hl8:wr.heap.size<w4.heap.size:=(Gs X8.out);clear hg4 R)
             | (go_at_call 116;refine (Zgy _ _).mono ?_;rintro e w5 ⟨rfl,rfl⟩;rw [hm])
             | (go_at_call 119;refine (Zkx _ _).mono ?_;rintro e w5 ⟨rfl,rfl⟩)
             | (go_at_call 146;refine (Zeh _ _ _ _ (BV.out _ _ (Za G4.out (Za (Ga _ _ _) (Ga _ _ _))) hbc)).mono ?_;rintro e w5 ⟨rfl,rfl⟩;rw [hm])
             | (go_at_call 87;refine (NU.out _ (Za G4.out (Za (Ga _ _ _) (Ga _ _ _)))).mono ?_;rintro e w6 ⟨rfl,v6,j6,ys6,h61,h69,ho6,f6⟩;have EM:=Zln ER.out G4.out X8.out f6 ho6;obtain ⟨t1,t2,t3⟩:=EM;have E6:=Hq t1;have O6:=Hq ho6;clear NU x81 x80 hl8 m0 m1 m2 hKw4;have y81:=Cq w6 _ 1 _ _ _ t2;have y111:=Cq w6 _ 1 _ _ _ t3;have hl8:wr.heap.size<w6.heap.size:=(Gs t2);have hl11:w4.heap.size+1<w6.heap.size:=(Gs t3);clear t1 t2 t3 f6 ho6)
             | (go_at_call 117;refine (Zgs _ _ _).mono ?_;rintro e w7 ⟨rfl,rfl⟩;have P7:=Hq (Zec E6.out.mw E6.out.one))
             | (go_at_call 120;refine (Zlc _ _ _ _ _ E6.out.one _ (by omega) _ E6.out.mw).mono ?_;intro e w7 hp7;have P7:=Hq (Zck hp7);have he7:=hp7.1;subst he7;clear hp7)
             | (go_at_call 87;refine (Zid _ _ _ _ _ E6.out.one _ HA.out.1 HA.out.2 (by omega) _ E6.out.mw).mono ?_;intro e w7 hp7;have P7:=Hq (Zck hp7);have he7:=hp7.1;subst he7;clear hp7)))
          (
            obtain ⟨-,v7,m7,xs7,h7,ho7,f7⟩:=P7.out
            exact ⟨⟨k+1,n+j6+m7,v7,xs7,by go_num,by omega,by omega,H2.out,Zjz E6.out f7 ho7⟩,by simp [intOf];omega⟩)
        · have hmk:Zdw kd a=(decide (0<=a) && decide (a<bK kd)):=by unfold Zdw;rw [if_neg (by omega),if_neg (by omega)]
          by_cases hm:(decide (0<=a) && decide (a<bK kd))=true
          · have hd2:=HD.out
            rw [if_pos (hmk.trans hm)] at hd2
            have H2:=Hq (HE.out.trans hd2)
            have ha0:0<=a:=by simp at hm;exact hm.1
            have ha1:a<9223372036854775808:=by have:=Yqr kd;simp at hm;omega
            have HA:=Hq (And.intro ha0 ha1)
            clear hd2 HKC hk0 hmk ha0 ha1
            (
              go_wp2_with (first
               | (go_at_call 86;refine R.out.mono ?_;rintro e w4 ⟨rfl,hg4⟩;have G4:=Hq (Za (Ga wr _ none) hg4);have m4:=MV.out w4 G4.out;obtain ⟨m0,m1,m2⟩:=m4;have hKw4:K<w4.heap.size:=Nat.lt_of_lt_of_le hKw G4.out.size;have X8:=Hq (Zf (heap_alloc_new wr (.cells #[.int .i64 op,.int .i64 a] 58)) hg4 (by simp));have x81:=Cq w4 _ 1 _ _ _ X8.out;have x80:=Cq w4 _ 0 _ _ _ X8.out;have hl8:wr.heap.size<w4.heap.size:=(Gs X8.out);clear hg4 R)
               | (go_at_call 116;refine (Zgy _ _).mono ?_;rintro e w5 ⟨rfl,rfl⟩;rw [hm])
               | (go_at_call 119;refine (Zkx _ _).mono ?_;rintro e w5 ⟨rfl,rfl⟩)
               | (go_at_call 146;refine (Zeh _ _ _ _ (BV.out _ _ (Za G4.out (Za (Ga _ _ _) (Ga _ _ _))) hbc)).mono ?_;rintro e w5 ⟨rfl,rfl⟩;rw [hm])
               | (go_at_call 87;refine (NU.out _ (Za G4.out (Za (Ga _ _ _) (Ga _ _ _)))).mono ?_;rintro e w6 ⟨rfl,v6,j6,ys6,h61,h69,ho6,f6⟩;have EM:=Zln ER.out G4.out X8.out f6 ho6;obtain ⟨t1,t2,t3⟩:=EM;have E6:=Hq t1;have O6:=Hq ho6;clear NU x81 x80 hl8 m0 m1 m2 hKw4;have y81:=Cq w6 _ 1 _ _ _ t2;have y111:=Cq w6 _ 1 _ _ _ t3;have hl8:wr.heap.size<w6.heap.size:=(Gs t2);have hl11:w4.heap.size+1<w6.heap.size:=(Gs t3);clear t1 t2 t3 f6 ho6)
               | (go_at_call 117;refine (Zgs _ _ _).mono ?_;rintro e w7 ⟨rfl,rfl⟩;have P7:=Hq (Zec E6.out.mw E6.out.one))
               | (go_at_call 120;refine (Zlc _ _ _ _ _ E6.out.one _ (by omega) _ E6.out.mw).mono ?_;intro e w7 hp7;have P7:=Hq (Zck hp7);have he7:=hp7.1;subst he7;clear hp7)
               | (go_at_call 87;refine (Zid _ _ _ _ _ E6.out.one _ HA.out.1 HA.out.2 (by omega) _ E6.out.mw).mono ?_;intro e w7 hp7;have P7:=Hq (Zck hp7);have he7:=hp7.1;subst he7;clear hp7)))
            (
              obtain ⟨-,v7,m7,xs7,h7,ho7,f7⟩:=P7.out
              exact ⟨⟨k+1,n+j6+m7,v7,xs7,by go_num,by omega,by omega,H2.out,Zjz E6.out f7 ho7⟩,by simp [intOf];omega⟩)
          · replace hm:(decide (0<=a) && decide (a<bK kd))=false:=by simpa only [Bool.not_eq_true] using hm
            have hd2:=HD.out
            rw [if_neg (show ¬ Zdw kd a=true by rw [hmk,hm];simp)] at hd2
            have H2:=Hq (hE.trans (HE.out.trans hd2))
            clear hd2 HKC hk0 hmk
            (
              go_wp2_with (first
               | (go_at_call 86;refine R.out.mono ?_;rintro e w4 ⟨rfl,hg4⟩;have G4:=Hq (Za (Ga wr _ none) hg4);have m4:=MV.out w4 G4.out;obtain ⟨m0,m1,m2⟩:=m4;have hKw4:K<w4.heap.size:=Nat.lt_of_lt_of_le hKw G4.out.size;have X8:=Hq (Zf (heap_alloc_new wr (.cells #[.int .i64 op,.int .i64 a] 58)) hg4 (by simp));have x81:=Cq w4 _ 1 _ _ _ X8.out;have x80:=Cq w4 _ 0 _ _ _ X8.out;have hl8:wr.heap.size<w4.heap.size:=(Gs X8.out);clear hg4 R)
               | (go_at_call 116;refine (Zgy _ _).mono ?_;rintro e w5 ⟨rfl,rfl⟩;rw [hm])
               | (go_at_call 119;refine (Zkx _ _).mono ?_;rintro e w5 ⟨rfl,rfl⟩)
               | (go_at_call 146;refine (Zeh _ _ _ _ (BV.out _ _ (Za G4.out (Za (Ga _ _ _) (Ga _ _ _))) hbc)).mono ?_;rintro e w5 ⟨rfl,rfl⟩;rw [hm])
               | (go_at_call 87;refine (NU.out _ (Za G4.out (Za (Ga _ _ _) (Ga _ _ _)))).mono ?_;rintro e w6 ⟨rfl,v6,j6,ys6,h61,h69,ho6,f6⟩;have EM:=Zln ER.out G4.out X8.out f6 ho6;obtain ⟨t1,t2,t3⟩:=EM;have E6:=Hq t1;have O6:=Hq ho6;clear NU x81 x80 hl8 m0 m1 m2 hKw4;have y81:=Cq w6 _ 1 _ _ _ t2;have y111:=Cq w6 _ 1 _ _ _ t3;have hl8:wr.heap.size<w6.heap.size:=(Gs t2);have hl11:w4.heap.size+1<w6.heap.size:=(Gs t3);clear t1 t2 t3 f6 ho6)
               | (go_at_call 117;refine (Zgs _ _ _).mono ?_;rintro e w7 ⟨rfl,rfl⟩;have P7:=Hq (Zec E6.out.mw E6.out.one))
               | (go_at_call 120;refine (Zlc _ _ _ _ _ E6.out.one _ (by omega) _ E6.out.mw).mono ?_;intro e w7 hp7;have P7:=Hq (Zck hp7);have he7:=hp7.1;subst he7;clear hp7)
               | (go_at_call 87;refine (Zid _ _ _ _ _ E6.out.one _ HA.out.1 HA.out.2 (by omega) _ E6.out.mw).mono ?_;intro e w7 hp7;have P7:=Hq (Zck hp7);have he7:=hp7.1;subst he7;clear hp7)))
            (
              go_ret2
              exact ⟨.slice none 0 0,by rw [H2.out];rfl,Za ER.out.gr (Za G4.out (Za (Ga _ _ _) (Ga _ _ _)))⟩)
    · have hkn:k=l.length:=by omega
      have hfin:Zdz l=0:=by rw [HE.out,hkn,List.drop_length];rfl
      have D:=Hq (Yie E w.heap.size vb n xs ER.out.one (by omega) wr ER.out.mw)
      subst hkn
      go_wp2_with (go_at_call 88;refine D.out.mono ?_;rintro e w9 ⟨v9,rfl,hg9⟩;have G9:=Hq hg9;clear hg9)
      go_ret2
      exact ⟨_,by rw [hE,hfin];rfl,Za ER.out.gr G9.out⟩
abbrev FnP:=Int × Int × Int × List (Int × Int)
def Zam (w:World) (B:Nat) (p:Option Addr) (fs:List FnP):Prop:=0<fs.length->∃ b o:Nat,p=some ⟨b,o,none⟩/\b<B/\∀ i a l r c,fs[i]? = some (a,l,r,c) ->
 w.cell? ⟨b,o+i*4,none⟩=some (.int .i64 a)/\w.cell? ⟨b,o+i*4+1,none⟩=some (.int .i64 l)/\w.cell? ⟨b,o+i*4+2,none⟩=some (.int .i64 r) /\
 ∃ (pc:Option Addr) (cc:Nat),w.cell? ⟨b,o+i*4+3,none⟩=some (.slice pc c.length cc)/\Zhp w B pc c
theorem Xs {w w':World} {row:Option Nat} {B:Nat} {p:Option Addr} {l:List FnP} (h:Zam w B p l) (g:w.grownBy w' row) (hr:∀ r,row=some r->B<=r):Zam w' B p l:=fun h0=>by
 obtain ⟨b,o,e,hb,hc⟩:=h h0
 refine ⟨b,o,e,hb,fun i a l r c hi => ?_⟩
 obtain ⟨h1,h2,h3,pc,cc,h4,h5⟩:=hc i a l r c hi
 exact ⟨Xt g hr hb h1,Xt g hr hb h2,Xt g hr hb h3,pc,cc,Xt g hr hb h4,Jt h5 g hr⟩
def fnE (f:FnP):Int:=if f.1<0\/16<f.1\/f.2.1<f.1\/64<f.2.1\/f.2.2.1<0\/1<f.2.2.1\/f.2.2.2.length<1\/4096<f.2.2.2.length then 121 else Zdz f.2.2.2
def Zpn:List FnP->Int
 | []=>0
 | f::r=>if fnE f=0 then Zpn r else fnE f
def Xg (mem:Int) (nd:Nat) (fs:List FnP):Int:=if mem<0\/65536<mem\/mem<nd\/fs.length<1\/64<fs.length then 121 else Zpn fs
theorem Zrl {fs:List FnP} {k:Nat} {f:FnP} (h:fs[k]? = some f):Zpn (fs.drop k)=if fnE f=0 then Zpn (fs.drop (k+1)) else fnE f:=by
 obtain ⟨hk,e⟩:=List.getElem?_eq_some_iff.1 h
 rw [List.drop_eq_getElem_cons hk,e]
 rfl
def Yqt (w:World) (b:Nat) (mem:Int) (vd vF:Value):Prop:=w.heap[b]? = some (.cells #[.int .i64 mem,vd,vF] 26 (0,0))
theorem Yee {w w':World} {b:Nat} {mem:Int} {vd vF:Value} {row:Option Nat} (h:Yqt w b mem vd vF) (g:w.grownBy w' row) (hr:row≠some b):Yqt w' b mem vd vF:=Zf h g hr
theorem Zwr (w:World) (mem:Int) (vd vF:Value):Yqt (w.alloc (.cells #[.int .i64 mem,vd,vF] 26)) w.heap.size mem vd vF:=heap_alloc_new w _
theorem Zic (mem:Int) (nd:Nat) (fs:List FnP) (pd pF:Option Addr) (cd cF B:Nat) (w:World) (hB:B<=w.heap.size) (hF:Zam w B pF fs) (hn:nd<=9223372036854775807) :
 Calls Tryz.prog 30 #[.agg #[.int .i64 mem,.slice pd nd cd,.slice pF fs.length cF]] w fun e w'=>e = .returned (.int .i64 (Xg mem nd fs))/\w.grownBy w' none:=by
 have FF:=Hq hF
 clear hF
 by_cases hbad:mem<0\/65536<mem\/mem<nd\/fs.length<1\/64<fs.length
 · have hE:Xg mem nd fs=121:=by unfold Xg;rw [if_pos hbad]
   rw [hE]
   have hni:(fs.length:Int)<1\/¬ (fs.length:Int)<1:=Classical.em _
   rcases (by omega:mem<0\/(0<=mem/\65536<mem)\/(0<=mem/\mem<=65536/\mem<(nd:Int))\/(0<=mem/\mem<=65536/\(nd:Int)<=mem/\(fs.length:Int)<1)\/(0<=mem/\mem<=65536/\(nd:Int)<=mem/\1<=(fs.length:Int)/\64<(fs.length:Int))) with q1|⟨q1,q2⟩|⟨q1,q2,q3⟩|⟨q1,q2,q3,q4⟩|⟨q1,q2,q3,q4,q5⟩
   all_goals
    clear hbad hni hE
    go_enter Tryz.func30,Tryz.ntmps30
    go_wp2
    go_ret
    exact ⟨rfl,Ga _ _ _⟩
 · have hE:Xg mem nd fs=Zpn fs:=by unfold Xg;rw [if_neg hbad]
   have q1:0<=mem:=by omega
   have q2:mem<=65536:=by omega
   have q3:(nd:Int)<=mem:=by omega
   have q4:1<=(fs.length:Int):=by omega
   have q5:(fs.length:Int)<=64:=by omega
   clear hbad
   go_enter Tryz.func30,Tryz.ntmps30
   go_wp2
   have BX:=Hq (Zwr w mem (.slice pd nd cd) (.slice pF fs.length cF))
   have G0:=Hq (Ga w (.cells #[.int .i64 mem,.slice pd nd cd,.slice pF fs.length cF] 26) none)
   generalize w.alloc (.cells #[.int .i64 mem,.slice pd nd cd,.slice pF fs.length cF] 26)=w1 at *
   go_loopw [38] (fun i wr=>∃ k:Nat,i = .int .i64 k/\k<=fs.length/\Zpn fs=Zpn (fs.drop k)/\w.grownBy wr none) (fun i _=>fs.length - (intOf i).toNat)
   case atStart=>exact ⟨0,rfl,Nat.zero_le _,rfl,G0.out⟩
   case round =>
    obtain ⟨k,rfl,hk,he,hg⟩:=hrel
    have HE:=Hq he
    have GR:=Hq hg
    by_cases hlt:(k:Int)<(fs.length:Int)
    · obtain ⟨⟨a,lo,r,c⟩,hf⟩:∃ x,fs[k]? = some x:=⟨_,List.getElem?_eq_getElem (by omega)⟩
      obtain ⟨b,o,rfl,hb,hc⟩:=FF.out (by omega)
      obtain ⟨c0,c1,c2,pc,cc,c3,hcode⟩:=hc k a lo r c hf
      replace c0:=Xt hg (B:=B) (by simp) hb c0
      replace c1:=Xt hg (B:=B) (by simp) hb c1
      replace c2:=Xt hg (B:=B) (by simp) hb c2
      replace c3:=Xt hg (B:=B) (by simp) hb c3
      have hb2:b<wr.heap.size:=by have:=hg.size;omega
      have hst:=Zrl hf
      have gW:=Za hg (Ga wr (.cells #[.int .i64 a,.int .i64 lo,.int .i64 r,.slice pc c.length cc] 61) none)
      have EC:=Hq (Zzd c pc cc B (wr.alloc (.cells #[.int .i64 a,.int .i64 lo,.int .i64 r,.slice pc c.length cc] 61)) (Nat.le_trans hB gW.size) (Jt hcode gW (by simp)))
      have GW:=Hq gW
      clear hc he hg hcode hf gW
      by_cases hbad:a<0\/16<a\/lo<a\/64<lo\/r<0\/1<r\/c.length<1\/4096<c.length
      · have hfn:fnE (a,lo,r,c)=121:=by unfold fnE;rw [if_pos hbad]
        rw [hfn,if_neg (by decide)] at hst
        have H2:=Hq (hE.trans (HE.out.trans hst))
        clear hst hfn EC
        rcases (by omega:a<0\/(0<=a/\16<a)\/(0<=a/\a<=16/\lo<a)\/(0<=a/\a<=16/\a<=lo/\64<lo)\/(0<=a/\a<=16/\a<=lo/\lo<=64/\r<0)\/(0<=a/\a<=16/\a<=lo/\lo<=64/\0<=r/\1<r)\/(0<=a/\a<=16/\a<=lo/\lo<=64/\0<=r/\r<=1/\(c.length:Int)<1)\/(0<=a/\a<=16/\a<=lo/\lo<=64/\0<=r/\r<=1/\1<=(c.length:Int)/\4096<(c.length:Int))) with p1|⟨p1,p2⟩|⟨p1,p2,p3⟩|⟨p1,p2,p3,p4⟩|⟨p1,p2,p3,p4,p5⟩|⟨p1,p2,p3,p4,p5,p6⟩|⟨p1,p2,p3,p4,p5,p6,p7⟩|⟨p1,p2,p3,p4,p5,p6,p7,p8⟩
        all_goals
         clear hbad
         go_wp2
         go_ret
         exact ⟨Zhy H2.out.symm,GW.out⟩
      · have hfn:fnE (a,lo,r,c)=Zdz c:=by unfold fnE;rw [if_neg hbad]
        have hco:Zhj c=Zdz c:=by unfold Zhj;rw [if_neg (by omega)]
        rw [hfn] at hst
        have p1:0<=a:=by omega
        have p2:a<=16:=by omega
        have p3:a<=lo:=by omega
        have p4:lo<=64:=by omega
        have p5:0<=r:=by omega
        have p6:r<=1:=by omega
        have p7:1<=(c.length:Int):=by omega
        have p8:(c.length:Int)<=4096:=by omega
        clear hbad hfn
        by_cases hz:Zdz c=0
        · rw [if_pos hz] at hst
          have H2:=Hq (HE.out.trans hst)
          have HZ:=Hq (hco.trans hz)
          clear hst hz hco
          go_wp2_with (go_at_call 59;refine EC.out.mono ?_;rintro e w4 ⟨v4,rfl,hg4⟩;have G4:=Hq hg4;clear hg4;rw [HZ.out])
          go_roundw
          case rel=>exact ⟨k+1,by go_num,by omega,H2.out,Za GW.out G4.out⟩
          case measure=>simp [intOf];omega
        · rw [if_neg hz] at hst
          have H2:=Hq (hE.trans (HE.out.trans hst))
          have hz2:(Zdz c != 0)=true:=by simpa using hz
          have HZ:=Hq hco
          clear hst hz hco
          go_wp2_with (go_at_call 59;refine EC.out.mono ?_;rintro e w4 ⟨v4,rfl,hg4⟩;have G4:=Hq hg4;clear hg4;rw [HZ.out])
          go_ret
          exact ⟨Zhy H2.out.symm,Za GW.out G4.out⟩
    · have hkn:k=fs.length:=by omega
      have hfin:Zpn fs=0:=by rw [he,hkn,List.drop_length];rfl
      clear he
      go_wp2
      go_ret
      first
       | exact ⟨rfl,GR.out⟩
       | exact ⟨Zhy (hE.trans hfin).symm,GR.out⟩
end Go.Proofs.YteciblfmgdlipaaGreatDoor.CK
namespace Go.Proofs.YteciblfmgdlipaaGreatDoor.AS
open Go.RowKit Go.Great
open Go.Proofs.YteciblfmgdlipaaGreatDoor.CK
abbrev Ins:=Int × Int
def Rd (w:World) (p:Option Addr) (xs:List Value):Prop:=xs≠[]->∃ b o:Nat,p=some ⟨b,o,none⟩/\∀ (j:Nat) (u:Value),xs[j]? = some u->w.cell? ⟨b,o+j,none⟩=some u
def Yp:List FnP->List Value->List Value
 | f::r,v::s => .int .i64 f.1 :: .int .i64 f.2.1 :: .int .i64 f.2.2.1::v::Yp r s
 | _,_=>[]
theorem Zbu:∀ (fs:List FnP) (cv:List Value) (i:Nat) (f:FnP) (v:Value),fs[i]? = some f->cv[i]? = some v->(Yp fs cv)[i*4]? = some (.int .i64 f.1)/\(Yp fs cv)[i*4+1]? = some (.int .i64 f.2.1)/\(Yp fs cv)[i*4+2]? = some (.int .i64 f.2.2.1)/\(Yp fs cv)[i*4+3]? = some v
 | [],_,i,f,v,h,_=>by simp at h
 | _::_,[],i,f,v,_,h=>by simp at h
 | g::r,u::s,0,f,v,h,h'=>by simp at h h';subst h;subst h';simp [Yp]
 | g::r,u::s,i+1,f,v,h,h'=>by
   obtain ⟨h1,h2,h3,h4⟩:=Zbu r s i f v (by simpa using h) (by simpa using h')
   have e:(i+1)*4=i*4+1+1+1+1:=by omega
   rw [e]
   simp only [Yp]
   exact ⟨by simpa using h1,by simpa using h2,by simpa using h3,by simpa using h4⟩
theorem Zrm:∀ (fs:List FnP) (cv:List Value) (i:Nat) (v:Value),(Yp fs cv).set (i*4+3) v=Yp fs (cv.set i v)
 | [],cv,i,v=>by simp [Yp]
 | _::_,[],i,v=>by simp [Yp]
 | g::r,u::s,0,v=>by simp [Yp]
 | g::r,u::s,i+1,v=>by
   have ih:=Zrm r s i v
   have e:(i+1)*4+3=(i*4+3)+1+1+1+1:=by omega
   rw [e]
   simp only [Yp,List.set_cons_succ,ih]
theorem Zin:∀ (fs gs:List FnP) (cv:List Value),fs.length=gs.length->(∀ (i:Nat) (f g:FnP),fs[i]? = some f->gs[i]? = some g->f.1=g.1/\f.2.1=g.2.1/\f.2.2.1=g.2.2.1)->Yp fs cv=Yp gs cv
 | [],[],_,_,_=>rfl
 | [],_::_,_,h,_=>by simp at h
 | _::_,[],_,h,_=>by simp at h
 | _::_,_::_,[],_,_=>rfl
 | f::r,g::s,v::t,h,e=>by
   obtain ⟨e1,e2,e3⟩:=e 0 f g rfl rfl
   simp only [Yp,e1,e2,e3,Zin r s t (by simpa using h) (fun i a b ha hb=>e (i+1) a b (by simpa using ha) (by simpa using hb))]
structure Zuo (w:World) (base:Nat) (D F:Value) (dl:List Int) (fs:List FnP) (cv:List Value):Prop where
 dt:w.ownsRow base 5 1 D dl.length (dl.map (Value.int .u8))
 fr:w.ownsRow base 61 4 F fs.length (Yp fs cv)
 cl:cv.length=fs.length
 each:∀ (k:Nat) (f:FnP) (v:Value),fs[k]? = some f->cv[k]? = some v->w.ownsRow base 58 2 v f.2.2.2.length (Zad f.2.2.2)
 dis:∀ (k l:Nat) (v v':Value) (b:Nat),k≠l->cv[k]? = some v->cv[l]? = some v'->v.ownBlock=some b->v'.ownBlock≠some b
theorem Ylj {P:Nat->Prop} {w w':World} {base:Nat} {D F:Value} {dl:List Int} {fs:List FnP} {cv:List Value} (h:Zuo w base D F dl fs cv) (g:Sp P w w') (hp:∀ k,base<=k->¬ P k):Zuo w' base D F dl fs cv :=
 ⟨Ybu h.dt g fun k hk=>hp k (h.dt.lt k hk).1,Ybu h.fr g fun k hk=>hp k (h.fr.lt k hk).1,h.cl,fun k f v hf hv=>Ybu (h.each k f v hf hv) g fun b hb=>hp b ((h.each k f v hf hv).lt b hb).1,h.dis⟩
theorem Ybv {w w':World} {base:Nat} {D F:Value} {dl:List Int} {fs:List FnP} {cv:List Value} (h:Zuo w base D F dl fs cv) (g:w.grownBy w' none):Zuo w' base D F dl fs cv :=
 Ylj (P:=fun _=>False) h (Zgl g (by simp)) (fun _ _ h=>h)
theorem Zxy {w:World} {base base':Nat} {D F:Value} {dl:List Int} {fs:List FnP} {cv:List Value} (h:Zuo w base D F dl fs cv) (hb:base'<=base):Zuo w base' D F dl fs cv :=
 ⟨Zbn h.dt hb,Zbn h.fr hb,h.cl,fun k f v hf hv=>Zbn (h.each k f v hf hv) hb,h.dis⟩
theorem Ydx {w:World} {base:Nat} {p:Option Addr} {n k:Nat} {c:List Ins} (h:w.ownsRow base 58 2 (.slice p n k) c.length (Zad c)):n=c.length/\Zhp w w.heap.size p c:=by
 obtain ⟨p',k',e⟩:=Zk h
 injection e with e1 e2 e3
 refine ⟨e2,fun h0 => ?_⟩
 obtain ⟨g,cap,hv,hg,hc⟩:=Xc h h0
 injection hv with hv _ _
 refine ⟨g,0,hv,hg,fun i op a hi => ?_⟩
 obtain ⟨q0,q1⟩:=Zhi c i op a hi
 have hl:=(List.getElem?_eq_some_iff.1 hi).1
 rw [Nat.zero_add]
 exact ⟨hc _ _ q0 (by omega),hc _ _ q1 (by omega)⟩
theorem Zfa {w:World} {base:Nat} {D:Value} {pF:Option Addr} {cF:Nat} {dl:List Int} {fs:List FnP} {cv:List Value} (h:Zuo w base D (.slice pF fs.length cF) dl fs cv):Zam w w.heap.size pF fs:=fun h0=>by
 obtain ⟨g,cap,hv,hg,hc⟩:=Xc h.fr h0
 injection hv with hv _ _
 refine ⟨g,0,hv,hg,fun i a l r c hi => ?_⟩
 have hil:=(List.getElem?_eq_some_iff.1 hi).1
 obtain ⟨v,hv2⟩:∃ v,cv[i]? = some v:=⟨_,List.getElem?_eq_getElem (by rw [h.cl];exact hil)⟩
 obtain ⟨q0,q1,q2,q3⟩:=Zbu fs cv i _ v hi hv2
 have ho:=h.each i _ v hi hv2
 obtain ⟨pc,cc,rfl⟩:=Zk ho
 rw [Nat.zero_add]
 exact ⟨hc _ _ q0 (by omega),hc _ _ q1 (by omega),hc _ _ q2 (by omega),pc,cc,hc _ _ q3 (by omega),(Ydx ho).2⟩
theorem Zxz {w:World} {base:Nat} {F:Value} {pD:Option Addr} {n cD:Nat} {dl:List Int} {fs:List FnP} {cv:List Value} (h:Zuo w base (.slice pD n cD) F dl fs cv):Rd w pD (dl.map (Value.int .u8)):=fun h0=>by
 have hl:0<dl.length:=by
  cases dl with
  | nil=>simp at h0
  | cons x r=>simp
 obtain ⟨g,cap,hv,hg,hc⟩:=Xc h.dt hl
 injection hv with hv _ _
 refine ⟨g,0,hv,fun j u hj => ?_⟩
 have:=(List.getElem?_eq_some_iff.1 hj).1
 rw [Nat.zero_add]
 exact hc j u hj (by simpa using this)
open Go.Maps Go.ChangeShapes Go.ChangeMaps Go.WideMaps CK
theorem Yqv:Keyed Tryz.prog 9:=string_keyed Tryz.underlying9
theorem Yqa (w:World):(zeroValue 3).run Tryz.prog w = .ok (.int .i64 0) w:=by kernel_rfl
theorem Yki {v:Int} (h : -1000000000000000000<=v/\v<=1000000000000000000):(Lit.int .i64 v).wf=true:=by
 have e1:IntKind.i64.min = -9223372036854775808:=by decide
 have e2:IntKind.i64.max=9223372036854775807:=by decide
 simp only [Lit.wf,e1,e2,Bool.and_eq_true,decide_eq_true_eq]
 omega
theorem Yar {t:Txt} (h:t.length<=1000000):keyOf Tryz.prog 9 (.string (bs t))=some (.string t):=by
 have:=keyOf_string_mk (P:=Tryz.prog) Tryz.underlying9 (s:=bs t) (by unfold maxLen;simp [bs,ByteArray.size];omega)
 simpa [bs] using this
theorem Zuw {a b:Int} (h:(DataW.lit (.int .i64 a):DataW Unit) = .lit (.int .i64 b)):a=b:=by
 simpa only [DataW.lit.injEq,Lit.int.injEq,true_and] using h
def Zfi (w:World) (b m:Nat) (f:Txt->Option Int):Prop:=∃ (n:Nat) (D:DataW Unit),w.ownsMap Tryz.prog 9 (plainElem Tryz.prog 3) b n D/\n<=m/\IsMap D /\
 ∀ t:Txt,has D (.string t)=(f t).isSome/\∀ v,f t=some v->∀ z,D.atKey (.string t) z = .lit (.int .i64 v)
theorem Zqs (w:World):Zfi (w.alloc (.map #[] 0)) w.heap.size 0 fun _=>none :=
 ⟨0,.map [],World.ownsMap_made _ _ _ _,Nat.zero_le _,⟨[],rfl⟩,fun t=>⟨rfl,fun v hv=>by cases hv⟩⟩
theorem Zw {w w':World} {b m:Nat} {f:Txt->Option Int} {r:Option Nat} (h:Zfi w b m f) (g:w.grownBy w' r) (hr:some b≠r):Zfi w' b m f:=by
 obtain ⟨n,D,h1,h2⟩:=h
 exact ⟨n,D,h1.kept g hr,h2⟩
theorem Ycj {w:World} {b m:Nat} {f:Txt->Option Int} (h:Zfi w b m f):b<w.heap.size:=by
 obtain ⟨n,D,h1,_⟩:=h
 exact h1.lt
theorem Zox {w:World} {b m:Nat} {f:Txt->Option Int} (h:Zfi w b m f) (t:Txt) (ht:t.length<=1000000) :
 (Instr.lookup 66 (.map (some b)) (.string (bs t)) true).run Tryz.prog w = .ok (.tuple #[.int .i64 ((f t).getD 0),.bool (f t).isSome]) w:=by
 obtain ⟨n,D,h1,h2,h3,h4⟩:=h
 obtain ⟨v,ps,hrun,hv⟩:=h1.look_ok Yqv Tryz.underlying66 (Yqa w) (plainElem_int Tryz.underlying3 (by decide)) (Yar ht)
 obtain ⟨c,rfl,hc,_⟩:=plainElem_int_inv Tryz.underlying3 hv
 simp only [Prod.mk.injEq] at hc
 obtain ⟨h5,h6⟩:=h4 t
 rw [hrun,h5]
 cases hk:f t with
 | none =>
   rw [hk] at h5
   have h7:D.atKey (.string t) (.lit (.int .i64 0)) = .lit (.int .i64 0):=atKey_of_not_has (by simpa using h5) _
   rw [h7] at hc
   have e:=Zuw hc.1
   rw [<- e];rfl
 | some v =>
   have h7:=h6 v hk (.lit (.int .i64 0))
   rw [h7] at hc
   have e:=Zuw hc.1
   rw [<- e];rfl
theorem Zow {w:World} {b m:Nat} {f:Txt->Option Int} (h:Zfi w b m f) (hm:m<1000000000) (t:Txt) (ht:t.length<=1000000) (v:Int) (hv : -1000000000000000000<=v/\v<=1000000000000000000) :
 ∃ w',(Instr.mapUpdate 66 (.map (some b)) (.string (bs t)) (.int .i64 v)).run Tryz.prog w = .ok () w'/\Zfi w' b (m+1) (fun u=>if u=t then some v else f u)/\w.grownBy w' (some b):=by
 obtain ⟨n,D,h1,h2,h3,h4⟩:=h
 obtain ⟨w',hrun,h5,h6⟩:=h1.update Yqv Tryz.underlying66 (by unfold maxLen;omega) (Yar ht) (plainElem_int Tryz.underlying3 (Yki hv))
 refine ⟨w',hrun,⟨n+1,_,h5,by omega,h3.put _ _,fun u => ?_⟩,h6⟩
 by_cases e:u=t
 · subst e
   refine ⟨?_,fun x hx z => ?_⟩
   · rw [has_put_same h3 (by trivial)];simp
   · simp at hx;subst hx
     exact atKey_put_same h3 (by trivial) _ _
 · obtain ⟨h7,h8⟩:=h4 u
   refine ⟨?_,fun x hx z => ?_⟩
   · rw [has_put_other (by intro h;injection h with h;exact e h),h7];simp [e]
   · simp [e] at hx
     rw [atKey_put_other (fun h=>by injection h with h;exact e h)]
     exact h8 x hx z
theorem Zqt (x:Nat) (h0:97<=x) (h1:x<=102):bits .or .u8 (x:Int) 32=(x:Int):=by
 rcases (by omega:x=97\/x=98\/x=99\/x=100\/x=101\/x=102) with h|h|h|h|h|h <;> subst h <;> decide
theorem Zrc {b:UInt8} {d:Nat} (h:Zje b=some d):(48<=b.toNat/\b.toNat<=57/\d+48=b.toNat)\/(97<=b.toNat/\b.toNat<=102/\d+87=b.toNat):=by
 unfold Zje at h
 split at h
 · injection h;omega
 · split at h
   · injection h;omega
   · cases h
theorem Yql (t:ByteArray) (hne:t.size≠0) (hlen:t.size<=16) (h:Zjv t.data.toList=true) (v:Nat) (hv:Ys 0 t.data.toList=some v) (w:World) :
 Calls Tryz.prog 162 #[.string t,.int .i64 16,.int .i64 64] w fun e w'=>e = .returned (.tuple #[.int .u64 (v:Int),.nilIface])/\w'=Lib.bytesWorld w 5 t:=by
 have hmax:(16:Nat) ^ t.size<=18446744073709551616:=Nat.le_trans (Nat.pow_le_pow_right (by decide) hlen) (by decide)
 have hcv:=Lib.run_convert_string_bytes (P:=Tryz.prog) w 9 23 5 t (u := .string) (by kernel_rfl) (by kernel_rfl) (by kernel_rfl)
 have hB:∀ j,j<t.size->(Lib.bytesWorld w 5 t).cell? ⟨w.heap.size,j,none⟩=some (.int .u8 (t.data.toList.getD j 0).toNat):=fun j hj=>Lib.bytesWorld_cell w 5 t j hj
 have hemp:t.toList.isEmpty=false:=by
  rw [<- decide_eq_emptyBytes]
  exact decide_eq_false (fun h=>hne (by rw [h];rfl))
 obtain ⟨W1,hW1⟩:∃ W1,W1=Lib.bytesWorld w 5 t:=⟨_,rfl⟩
 rw [<- hW1] at hcv hB ⊢
 clear hW1
 obtain ⟨ls,hL⟩:∃ ls,ls=t.data.toList:=⟨_,rfl⟩
 have hLn:ls.length=t.size:=by rw [hL,Lib.size_eq]
 rw [<- hL] at hB h hv
 clear hL
 have HX:=Hq h
 have HV:=Hq hv
 clear h hv
 have hmv:IntKind.u64.wrap (IntKind.u64.wrap 18446744073709551616 - 1)=18446744073709551615:=by
  rw [IntKind.wrap_u64,IntKind.wrap_u64]
  decide
 go_enter Tryz.func162,Tryz.ntmps162
 go_wp2
 go_loop [12,13,101] (fun vu vn vi=>∃ (k acc:Nat) (a:Int),vu = .bool false/\vn = .int .u64 a/\vi = .int .i64 k/\k<=t.size/\Hid (a=(acc:Int)/\acc<16 ^ k/\Ys 0 ls=Ys acc (ls.drop k)))
  (fun _ _ vi=>t.size - (intOf vi).toNat)
 case atStart=>exact ⟨0,0,0,rfl,rfl,rfl,by omega,rfl,by simp,rfl⟩
 case round =>
  obtain ⟨k,acc,a,rfl,rfl,rfl,hk,hh⟩:=hrel
  obtain ⟨ha,hacc,hdec⟩:=hh.out
  clear hh
  by_cases hkn:k<t.size
  · have hc:=hB k hkn
    have hdrop:ls[k]? = some (ls[k]'(by omega)):=List.getElem?_eq_getElem (by omega)
    have hget:ls.getD k 0=ls[k]'(by omega):=by simp [List.getD,List.getElem?_eq_getElem (show k<ls.length by omega)]
    have hmem:(Zje (ls[k]'(by omega))).isSome=true:=by
     have:=HX.out
     unfold Zjv at this
     rw [List.all_eq_true] at this
     exact this _ (List.getElem_mem _)
    rw [hget] at hc
    generalize ls[k]'(by omega)=c at hc hdrop hmem
    obtain ⟨d,hd⟩:=Option.isSome_iff_exists.1 hmem
    have hst:=Zjf (a:=acc) hdrop hd
    have hd16:=Zlf hd
    have hways:=Zrc hd
    have hc256:c.toNat<256:=c.toNat_lt
    have hpow:16 ^ (k+1)=16*16 ^ k:=by rw [Nat.pow_succ];omega
    have hnew:16*acc+d<16 ^ (k+1):=by omega
    have hlim:16 ^ (k+1)<=16 ^ t.size:=Nat.pow_le_pow_right (by decide) (by omega)
    have hM:16*acc+d<=18446744073709551615:=by omega
    have b0:0<=a:=by omega
    have b1:a<1152921504606846976:=by omega
    have hN2:(16:Int)*a+(d:Int)=((16*acc+d:Nat):Int):=by omega
    have HN:Hid (a*16+(d:Int)=((16*acc+d:Nat):Int)/\16*acc+d<16 ^ (k+1)/\Ys 0 ls=Ys (16*acc+d) (ls.drop (k+1))):=Hq ⟨by omega,hnew,hdec.trans hst⟩
    have b2:a*16+(d:Int)<=18446744073709551615:=by omega
    have b3:0<=(d:Int):=by omega
    have b4:(d:Int)<16:=by omega
    clear hB hdrop hget hmem hst hnew hlim hpow hM hN2 hacc hdec ha hd hd16
    rcases hways with ⟨w1,w2,w3⟩|⟨w1,w2,w3⟩
    · have e1:(c.toNat:Int)=(d:Int)+48:=by omega
      rw [e1] at hc
      have w4:(d:Int)<10:=by omega
      clear e1 w1 w2 w3 hc256
      go_wp2
      refine ⟨⟨k+1,16*acc+d,a*16+(d:Int),rfl,(by first|rfl|(congr 1;omega)),(by first|rfl|(congr 1;omega)),by omega,HN⟩,by simp [intOf];omega⟩
    · have hlow:=Zqt c.toNat w1 w2
      have e1:(c.toNat:Int)=(d:Int)+87:=by omega
      rw [e1] at hc hlow
      have w4:10<=(d:Int):=by omega
      have w5:(d:Int)+87 - 97+10=(d:Int):=by omega
      have HLO:=Hq hlow
      clear e1 w1 w2 w3 hc256 hlow
      go_wp2_with (go_at_call 174;refine (Tryz.internal_strconv_lower _ _).mono ?_;rintro e w' ⟨rfl,rfl⟩;rw [HLO.out])
      refine ⟨⟨k+1,16*acc+d,a*16+(d:Int),rfl,(by first|rfl|(congr 1;omega)),(by first|rfl|(congr 1;omega)),by omega,HN⟩,by simp [intOf];omega⟩
  · have hkk:k=t.size:=by omega
    subst hkk
    have hfin:Ys acc (ls.drop t.size)=some acc:=by rw [List.drop_eq_nil_of_le (by omega)];rfl
    have hva:v=acc:=by
     have:=HV.out
     rw [hdec,hfin] at this
     injection this with this;exact this.symm
    have hra:a=(v:Int):=by rw [hva];exact ha
    subst hra
    clear hacc hfin hdec hva ha
    go_wp2
    go_ret2
    exact ⟨rfl,rfl⟩
theorem Yri (t:ByteArray) (hne:t.size≠0) (hlen:t.size<=2) (h:Zjv t.data.toList=true) (v:Nat) (hv:Ys 0 t.data.toList=some v) (w:World) :
 Calls Tryz.prog 162 #[.string t,.int .i64 16,.int .i64 8] w fun e w'=>e = .returned (.tuple #[.int .u64 (v:Int),.nilIface])/\w'=Lib.bytesWorld w 5 t:=by
 have hmax:(16:Nat) ^ t.size<=256:=Nat.le_trans (Nat.pow_le_pow_right (by decide) hlen) (by decide)
 have hcv:=Lib.run_convert_string_bytes (P:=Tryz.prog) w 9 23 5 t (u := .string) (by kernel_rfl) (by kernel_rfl) (by kernel_rfl)
 have hB:∀ j,j<t.size->(Lib.bytesWorld w 5 t).cell? ⟨w.heap.size,j,none⟩=some (.int .u8 (t.data.toList.getD j 0).toNat):=fun j hj=>Lib.bytesWorld_cell w 5 t j hj
 have hemp:t.toList.isEmpty=false:=by
  rw [<- decide_eq_emptyBytes]
  exact decide_eq_false (fun h=>hne (by rw [h];rfl))
 obtain ⟨W1,hW1⟩:∃ W1,W1=Lib.bytesWorld w 5 t:=⟨_,rfl⟩
 rw [<- hW1] at hcv hB ⊢
 clear hW1
 obtain ⟨ls,hL⟩:∃ ls,ls=t.data.toList:=⟨_,rfl⟩
 have hLn:ls.length=t.size:=by rw [hL,Lib.size_eq]
 rw [<- hL] at hB h hv
 clear hL
 have HX:=Hq h
 have HV:=Hq hv
 clear h hv
 have hmv:IntKind.u64.wrap (IntKind.u64.wrap 18446744073709551616 - 1)=18446744073709551615:=by
  rw [IntKind.wrap_u64,IntKind.wrap_u64]
  decide
 go_enter Tryz.func162,Tryz.ntmps162
 go_wp2
 go_loop [12,13,101] (fun vu vn vi=>∃ (k acc:Nat) (a:Int),vu = .bool false/\vn = .int .u64 a/\vi = .int .i64 k/\k<=t.size/\Hid (a=(acc:Int)/\acc<16 ^ k/\Ys 0 ls=Ys acc (ls.drop k)))
  (fun _ _ vi=>t.size - (intOf vi).toNat)
 case atStart=>exact ⟨0,0,0,rfl,rfl,rfl,by omega,rfl,by simp,rfl⟩
 case round =>
  obtain ⟨k,acc,a,rfl,rfl,rfl,hk,hh⟩:=hrel
  obtain ⟨ha,hacc,hdec⟩:=hh.out
  clear hh
  by_cases hkn:k<t.size
  · have hc:=hB k hkn
    have hdrop:ls[k]? = some (ls[k]'(by omega)):=List.getElem?_eq_getElem (by omega)
    have hget:ls.getD k 0=ls[k]'(by omega):=by simp [List.getD,List.getElem?_eq_getElem (show k<ls.length by omega)]
    have hmem:(Zje (ls[k]'(by omega))).isSome=true:=by
     have:=HX.out
     unfold Zjv at this
     rw [List.all_eq_true] at this
     exact this _ (List.getElem_mem _)
    rw [hget] at hc
    generalize ls[k]'(by omega)=c at hc hdrop hmem
    obtain ⟨d,hd⟩:=Option.isSome_iff_exists.1 hmem
    have hst:=Zjf (a:=acc) hdrop hd
    have hd16:=Zlf hd
    have hways:=Zrc hd
    have hc256:c.toNat<256:=c.toNat_lt
    have hpow:16 ^ (k+1)=16*16 ^ k:=by rw [Nat.pow_succ];omega
    have hnew:16*acc+d<16 ^ (k+1):=by omega
    have hlim:16 ^ (k+1)<=16 ^ t.size:=Nat.pow_le_pow_right (by decide) (by omega)
    have hM:16*acc+d<=255:=by omega
    have b0:0<=a:=by omega
    have b1:a<1152921504606846976:=by omega
    have hN2:(16:Int)*a+(d:Int)=((16*acc+d:Nat):Int):=by omega
    have HN:Hid (a*16+(d:Int)=((16*acc+d:Nat):Int)/\16*acc+d<16 ^ (k+1)/\Ys 0 ls=Ys (16*acc+d) (ls.drop (k+1))):=Hq ⟨by omega,hnew,hdec.trans hst⟩
    have b2:a*16+(d:Int)<=255:=by omega
    have b3:0<=(d:Int):=by omega
    have b4:(d:Int)<16:=by omega
    clear hB hdrop hget hmem hst hnew hlim hpow hM hN2 hacc hdec ha hd hd16
    rcases hways with ⟨w1,w2,w3⟩|⟨w1,w2,w3⟩
    · have e1:(c.toNat:Int)=(d:Int)+48:=by omega
      rw [e1] at hc
      have w4:(d:Int)<10:=by omega
      clear e1 w1 w2 w3 hc256
      go_wp2
      refine ⟨⟨k+1,16*acc+d,a*16+(d:Int),rfl,(by first|rfl|(congr 1;omega)),(by first|rfl|(congr 1;omega)),by omega,HN⟩,by simp [intOf];omega⟩
    · have hlow:=Zqt c.toNat w1 w2
      have e1:(c.toNat:Int)=(d:Int)+87:=by omega
      rw [e1] at hc hlow
      have w4:10<=(d:Int):=by omega
      have w5:(d:Int)+87 - 97+10=(d:Int):=by omega
      have HLO:=Hq hlow
      clear e1 w1 w2 w3 hc256 hlow
      go_wp2_with (go_at_call 174;refine (Tryz.internal_strconv_lower _ _).mono ?_;rintro e w' ⟨rfl,rfl⟩;rw [HLO.out])
      refine ⟨⟨k+1,16*acc+d,a*16+(d:Int),rfl,(by first|rfl|(congr 1;omega)),(by first|rfl|(congr 1;omega)),by omega,HN⟩,by simp [intOf];omega⟩
  · have hkk:k=t.size:=by omega
    subst hkk
    have hfin:Ys acc (ls.drop t.size)=some acc:=by rw [List.drop_eq_nil_of_le (by omega)];rfl
    have hva:v=acc:=by
     have:=HV.out
     rw [hdec,hfin] at this
     injection this with this;exact this.symm
    have hra:a=(v:Int):=by rw [hva];exact ha
    subst hra
    clear hacc hfin hdec hva ha
    go_wp2
    go_ret2
    exact ⟨rfl,rfl⟩
theorem Yrf (l:Txt) (hne:l≠[]) (hlen:l.length<=16) (v:Nat) (hv:Ys 0 l=some v) (w:World) :
 Calls Tryz.prog 140 #[.string (bs l),.int .i64 16,.int .i64 64] w fun e w'=>e = .returned (.tuple #[.int .u64 (v:Int),.nilIface])/\w.grownBy w' none:=by
 have hh:Zjv l=true:=by
  cases h:Zjv l with
  | true=>rfl
  | false=>rw [Zcf l 0 h] at hv;cases hv
 have hz:(bs l).size≠0:=by rw [Zi];intro h;exact hne (List.eq_nil_of_length_eq_zero h)
 have C:=Hq (Yql (bs l) hz (by rw [Zi];exact hlen) (by rw [Xd];exact hh) v (by rw [Xd];exact hv))
 generalize bs l=t at *
 go_enter Tryz.func140,Tryz.ntmps140
 go_wp2_with (go_at_call 162;refine (C.out _).mono ?_;rintro e w' ⟨rfl,rfl⟩)
 go_ret2
 exact ⟨rfl,Zaz _ _ _⟩
theorem pu8 (l:Txt) (hne:l≠[]) (hlen:l.length<=2) (v:Nat) (hv:Ys 0 l=some v) (w:World) :
 Calls Tryz.prog 140 #[.string (bs l),.int .i64 16,.int .i64 8] w fun e w'=>e = .returned (.tuple #[.int .u64 (v:Int),.nilIface])/\w.grownBy w' none:=by
 have hh:Zjv l=true:=by
  cases h:Zjv l with
  | true=>rfl
  | false=>rw [Zcf l 0 h] at hv;cases hv
 have hz:(bs l).size≠0:=by rw [Zi];intro h;exact hne (List.eq_nil_of_length_eq_zero h)
 have C:=Hq (Yri (bs l) hz (by rw [Zi];exact hlen) (by rw [Xd];exact hh) v (by rw [Xd];exact hv))
 generalize bs l=t at *
 go_enter Tryz.func140,Tryz.ntmps140
 go_wp2_with (go_at_call 162;refine (C.out _).mono ?_;rintro e w' ⟨rfl,rfl⟩)
 go_ret2
 exact ⟨rfl,Zaz _ _ _⟩
abbrev Yjh (k:Int) (t:ByteArray) (n:Int) (f:Bool):Value := .agg #[.int .i64 k,.string t,.int .i64 n,.bool f]
abbrev Ylp (k:Int) (t:ByteArray) (n:Int) (f:Bool) (b:Bool):Value := .tuple #[.agg #[.int .i64 k,.string t,.int .i64 n,.bool f],.bool b]
def Zgg (w:World) (r:Option (Int × Bool)) (e:Ending) (w':World):Prop :=
 e = .returned (match r with|some (n,b)=>Ylp 1 ⟨#[]⟩ n (!b) true|none=>Ylp 0 ⟨#[]⟩ 0 false false)/\w.grownBy w' none
theorem Zch:(bs []).toList.isEmpty=true:=by rw [Lib.toList_data,Xd];rfl
theorem Zak {l:Txt} (h:l≠[]):(bs l).toList.isEmpty=false:=by
 rw [Lib.toList_data,Xd]
 cases l with
 | nil=>exact absurd rfl h
 | cons c r=>rfl
def Ziw (w:World) (b:Nat) (v0 v1 v2 v3:Value):Prop:=w.heap[b]? = some (.cells #[v0,v1,v2,v3] 158 (0,0))
theorem Ja (w:World) (v0 v1 v2 v3:Value):Ziw (w.alloc (.cells #[v0,v1,v2,v3] 158)) w.heap.size v0 v1 v2 v3:=heap_alloc_new w _
theorem Yl {w w':World} {b:Nat} {v0 v1 v2 v3:Value} {row:Option Nat} (h:Ziw w b v0 v1 v2 v3) (g:w.grownBy w' row) (hr:row≠some b):Ziw w' b v0 v1 v2 v3:=Zf h g hr
theorem Zon {w:World} {b:Nat} {v0 v1 v2 v3:Value} (h:Ziw w b v0 v1 v2 v3):b<w.heap.size:=(Gs h)
theorem Xj {w:World} {b:Nat} {v0 v1 v2 v3 x0 x1 x2 x3:Value} (h:Ziw w b v0 v1 v2 v3) :
 Ziw ((((w.setCell ⟨b,0,none⟩ x0).setCell ⟨b,1,none⟩ x1).setCell ⟨b,2,none⟩ x2).setCell ⟨b,3,none⟩ x3) b x0 x1 x2 x3:=by
 unfold Ziw
 rw [Zl (Zl (Zl (Zl h)))];rfl
theorem Yn {w0 w:World} {b:Nat} {x0 x1 x2 x3:Value} (h:w0.grownBy w none) (hb:w0.heap.size<=b) :
 w0.grownBy ((((w.setCell ⟨b,0,none⟩ x0).setCell ⟨b,1,none⟩ x1).setCell ⟨b,2,none⟩ x2).setCell ⟨b,3,none⟩ x3) none :=
 Yd (Yd (Yd (Yd h hb) hb) hb) hb
structure Ynf (w:World) (b:Nat) (v0 v1 v2 v3:Value):Prop where
 c0:w.cell? ⟨b,0,none⟩=some v0
 c1:w.cell? ⟨b,1,none⟩=some v1
 c2:w.cell? ⟨b,2,none⟩=some v2
 c3:w.cell? ⟨b,3,none⟩=some v3
 z0:w.frozen? ⟨b,0,none⟩=false
 z1:w.frozen? ⟨b,1,none⟩=false
 z2:w.frozen? ⟨b,2,none⟩=false
 z3:w.frozen? ⟨b,3,none⟩=false
theorem Yu {w:World} {b:Nat} {v0 v1 v2 v3:Value} (h:Ziw w b v0 v1 v2 v3):Ynf w b v0 v1 v2 v3 :=
 ⟨Cq w _ 0 _ _ _ h,Cq w _ 1 _ _ _ h,Cq w _ 2 _ _ _ h,Cq w _ 3 _ _ _ h,frozen_of_row w _ 0 _ _ h,frozen_of_row w _ 1 _ _ h,frozen_of_row w _ 2 _ _ h,frozen_of_row w _ 3 _ _ h⟩
theorem Ybs {w:World} {b:Nat} {v0 v1 v2 v3:Value} (h:Ziw w b v0 v1 v2 v3):(loadVar 158 ⟨b,0,none⟩).run Tryz.prog w = .ok (.agg #[v0,v1,v2,v3]) w:=by
 obtain ⟨c0,c1,c2,c3,z0,z1,z2,z3⟩:=Yu h
 go_simp
theorem Zks {fn:Func} {p u:Tmp} (hf:fn.results = #[.cell p 158,.tmp u]) {tmps:Array Value} {w:World} {b:Nat} {v0 v1 v2 v3 f:Value}
 (hp:tmps.getD p undef = .pointer (some ⟨b,0,none⟩)) (hu:tmps.getD u undef=f) (h:Ziw w b v0 v1 v2 v3) :
 (results fn tmps).run Tryz.prog w = .ok (.tuple #[.agg #[v0,v1,v2,v3],f]) w:=by
 rw [results_cell_tmp hf,hp,hu]
 have:(asAddr (.pointer (some ⟨b,0,none⟩))).run Tryz.prog w = .ok (⟨b,0,none⟩:Addr) w:=rfl
 rw [this]
 simp only [Result.andThen]
 rw [Ybs h]
theorem Ztp (s:ByteArray) (hp:[48,120].isPrefixOf s.data.toList=true) (hl:¬ (1<=(s.data.toList.drop 2).length/\(s.data.toList.drop 2).length<=16)) (w:World) :
 Calls Tryz.prog 111 #[.string s] w (Zgg w none):=by
 have C:=Hq (Js s ⟨#[48,120]⟩)
 have ht:Lib.trimPrefix s.data.toList [48,120]=s.data.toList.drop 2:=by unfold Lib.trimPrefix Lib.hasPrefix;rw [if_pos hp];rfl
 rw [show (⟨#[48,120]⟩:ByteArray).data.toList=[48,120] from rfl,ht,hp] at C
 rw [<- Zi] at hl
 generalize bs (s.data.toList.drop 2)=d at *
 have hl2:((d.size:Int)<1)\/(1<=(d.size:Int)/\16<(d.size:Int)):=by omega
 clear ht hp hl
 rcases hl2 with hl|⟨hl,hl2⟩
 all_goals
  (go_enter Tryz.func111,Tryz.ntmps111)
  go_wp2_with (go_at_call 141;refine (C.out _).mono ?_;rintro e w' ⟨rfl,rfl⟩)
  exact bodyPost_ret (Zks rfl rfl rfl (Ja _ _ _ _ _)) rfl ⟨rfl,Ga _ _ _⟩
theorem Zto (s:ByteArray) (hp:[48,120].isPrefixOf s.data.toList=true) (hl:1<=(s.data.toList.drop 2).length) (hl2:(s.data.toList.drop 2).length<=16) (hx:Zjv (s.data.toList.drop 2)=false) (w:World) :
 Calls Tryz.prog 111 #[.string s] w (Zgg w none):=by
 have C:=Hq (Js s ⟨#[48,120]⟩)
 have ht:Lib.trimPrefix s.data.toList [48,120]=s.data.toList.drop 2:=by unfold Lib.trimPrefix Lib.hasPrefix;rw [if_pos hp];rfl
 rw [show (⟨#[48,120]⟩:ByteArray).data.toList=[48,120] from rfl,ht,hp] at C
 have hne:Lib.trimS (s.data.toList.drop 2) hexSet≠[]:=by rw [Ne,Zjq,hx];simp
 have T:=Hq (Zgj (bs (s.data.toList.drop 2)) hexSet (by rw [Zi];omega) (by decide) (by decide))
 rw [Xd] at T
 have he:=Zak hne
 generalize bs (Lib.trimS (s.data.toList.drop 2) hexSet)=x at *
 rw [<- Zi] at hl hl2
 generalize bs (s.data.toList.drop 2)=d at *
 have hl3:1<=(d.size:Int):=by omega
 have hl4:(d.size:Int)<=16:=by omega
 have hh:bs hexSet=⟨#[48,49,50,51,52,53,54,55,56,57,97,98,99,100,101,102]⟩:=rfl
 rw [hh] at T
 clear ht hp hl hl2 hne hx hh
 (go_enter Tryz.func111,Tryz.ntmps111)
 go_wp2_with (first
  | (go_at_call 141;refine (C.out _).mono ?_;rintro e w' ⟨rfl,rfl⟩)
  | (go_at_call 139;refine (T.out _).mono ?_;rintro e w2 ⟨rfl,hg⟩;have G:=Hq hg;have B:=Hq (Yl (Ja w _ _ _ _) hg (by simp));obtain ⟨c0,c1,c2,c3,z0,z1,z2,z3⟩:=Yu B.out;clear hg))
 exact bodyPost_ret (Zks rfl rfl rfl (Xj B.out)) rfl ⟨rfl,Yn (Za (Ga _ _ _) G.out) (Nat.le_refl _)⟩
theorem Yfa (v:Nat) (h:v<18446744073709551616):IntKind.i64.wrap (v:Int)=Zzy v:=by
 unfold Zzy
 by_cases h1:v<9223372036854775808
 · rw [if_pos h1,IntKind.wrap_i64];omega
 · rw [if_neg h1,IntKind.wrap_i64];omega
theorem Zyb (s:ByteArray) (hp:[48,120].isPrefixOf s.data.toList=true) (hl:1<=(s.data.toList.drop 2).length) (hl2:(s.data.toList.drop 2).length<=16) (hx:Zjv (s.data.toList.drop 2)=true) (v:Nat) (hv:Ys 0 (s.data.toList.drop 2)=some v) (w:World) :
 Calls Tryz.prog 111 #[.string s] w (Zgg w (some (Zzy v,false))):=by
 have C:=Hq (Js s ⟨#[48,120]⟩)
 have ht:Lib.trimPrefix s.data.toList [48,120]=s.data.toList.drop 2:=by unfold Lib.trimPrefix Lib.hasPrefix;rw [if_pos hp];rfl
 rw [show (⟨#[48,120]⟩:ByteArray).data.toList=[48,120] from rfl,ht,hp] at C
 have T:=Hq (Zgj (bs (s.data.toList.drop 2)) hexSet (by rw [Zi];omega) (by decide) (by decide))
 rw [Xd,(Zjq _).2 hx] at T
 have he:=Zch
 generalize bs []=x at *
 have P:=Hq (Yrf (s.data.toList.drop 2) (by intro h;rw [h] at hl;simp at hl) hl2 v hv)
 have hv64:v<18446744073709551616:=by
  obtain ⟨v',h1,h2⟩:=Zej _ 0 hx
  rw [hv] at h1;injection h1 with h1;subst h1
  refine Nat.lt_of_lt_of_le h2 ?_
  have:=Nat.pow_le_pow_right (show 0<16 by decide) hl2
  omega
 have hw:=Yfa v hv64
 generalize Zzy v=n at *
 rw [<- Zi] at hl hl2
 generalize bs (s.data.toList.drop 2)=d at *
 have hl3:1<=(d.size:Int):=by omega
 have hl4:(d.size:Int)<=16:=by omega
 have hh:bs hexSet=⟨#[48,49,50,51,52,53,54,55,56,57,97,98,99,100,101,102]⟩:=rfl
 rw [hh] at T
 generalize (v:Int)=vi at *
 clear ht hp hl hl2 hx hh hv hv64
 (go_enter Tryz.func111,Tryz.ntmps111)
 go_wp2_with (first
  | (go_at_call 141;refine (C.out _).mono ?_;rintro e w' ⟨rfl,rfl⟩)
  | (go_at_call 139;refine (T.out _).mono ?_;rintro e w2 ⟨rfl,hg⟩;have G:=Hq hg;have B:=Hq (Yl (Ja w _ _ _ _) hg (by simp));clear hg)
  | (go_at_call 140;refine (P.out _).mono ?_;rintro e w3 ⟨rfl,hg⟩;have G3:=Hq hg;have B3:=Hq (Yl B.out hg (by simp));obtain ⟨c0,c1,c2,c3,z0,z1,z2,z3⟩:=Yu B3.out;clear hg))
 exact bodyPost_ret (Zks rfl rfl rfl (Xj B3.out)) rfl ⟨rfl,Yn (Za (Za (Ga _ _ _) G.out) G3.out) (Nat.le_refl _)⟩
theorem Zqp (s:ByteArray) (hp:[48,120].isPrefixOf s.data.toList=false) (hd:Lib.trimPrefix s.data.toList [45]=[]) (w:World) :
 Calls Tryz.prog 111 #[.string s] w (Zgg w none):=by
 have C:=Hq (Js s ⟨#[48,120]⟩)
 have ht:Lib.trimPrefix s.data.toList [48,120]=s.data.toList:=by unfold Lib.trimPrefix Lib.hasPrefix;rw [if_neg (by rw [hp];simp)]
 rw [show (⟨#[48,120]⟩:ByteArray).data.toList=[48,120] from rfl,ht,hp,bs_data] at C
 have M:=Hq (Zci s ⟨#[45]⟩)
 rw [show (⟨#[45]⟩:ByteArray).data.toList=[45] from rfl,hd] at M
 have he:=Zch
 generalize bs []=x at *
 clear ht hp hd
 (go_enter Tryz.func111,Tryz.ntmps111)
 go_wp2_with (first
  | (go_at_call 141;refine (C.out _).mono ?_;rintro e w' ⟨rfl,rfl⟩)
  | (go_at_call 142;refine (M.out _).mono ?_;rintro e w' ⟨rfl,rfl⟩))
 exact bodyPost_ret (Zks rfl rfl rfl (Ja _ _ _ _ _)) rfl ⟨rfl,Ga _ _ _⟩
theorem Ztq (s:ByteArray) (hs:s.size<=70000) (hp:[48,120].isPrefixOf s.data.toList=false) (hd:Lib.trimPrefix s.data.toList [45]≠[]) (hx:(Lib.trimPrefix s.data.toList [45]).all Zea=false) (w:World) :
 Calls Tryz.prog 111 #[.string s] w (Zgg w none):=by
 have C:=Hq (Js s ⟨#[48,120]⟩)
 have ht:Lib.trimPrefix s.data.toList [48,120]=s.data.toList:=by unfold Lib.trimPrefix Lib.hasPrefix;rw [if_neg (by rw [hp];simp)]
 rw [show (⟨#[48,120]⟩:ByteArray).data.toList=[48,120] from rfl,ht,hp,bs_data] at C
 have M:=Hq (Zci s ⟨#[45]⟩)
 rw [show (⟨#[45]⟩:ByteArray).data.toList=[45] from rfl] at M
 have hlen:(Lib.trimPrefix s.data.toList [45]).length<=70000:=by
  have:=Ju s
  unfold Lib.trimPrefix;split <;> simp <;> omega
 have he:=Zak hd
 have hne:Lib.trimS (Lib.trimPrefix s.data.toList [45]) digSet≠[]:=by rw [Ne,Zur,hx];simp
 have T:=Hq (Zgj (bs (Lib.trimPrefix s.data.toList [45])) digSet (by rw [Zi];omega) (by decide) (by decide))
 rw [Xd,show bs digSet=⟨#[48,49,50,51,52,53,54,55,56,57]⟩ from rfl] at T
 have he2:=Zak hne
 generalize bs (Lib.trimS (Lib.trimPrefix s.data.toList [45]) digSet)=x at *
 generalize bs (Lib.trimPrefix s.data.toList [45])=d at *
 clear ht hp hd hx hlen hne
 (go_enter Tryz.func111,Tryz.ntmps111)
 go_wp2_with (first
  | (go_at_call 141;refine (C.out _).mono ?_;rintro e w' ⟨rfl,rfl⟩)
  | (go_at_call 142;refine (M.out _).mono ?_;rintro e w' ⟨rfl,rfl⟩)
  | (go_at_call 139;refine (T.out _).mono ?_;rintro e w2 ⟨rfl,hg⟩;have G:=Hq hg;have B:=Hq (Yl (Ja w _ _ _ _) hg (by simp));obtain ⟨c0,c1,c2,c3,z0,z1,z2,z3⟩:=Yu B.out;clear hg))
 exact bodyPost_ret (Zks rfl rfl rfl (Xj B.out)) rfl ⟨rfl,Yn (Za (Ga _ _ _) G.out) (Nat.le_refl _)⟩
def Ygv:Option Int->Int × Bool
 | some n=>(n,false)
 | none=>(0,true)
def Yjv (s:ByteArray) (r:Option Int):Prop:=∀ w,LibW w->Calls Tryz.prog 143 #[.string s] w (Zke w r)
theorem Zyc (s:ByteArray) (hs:s.size<=70000) (hp:[48,120].isPrefixOf s.data.toList=false) (hd:Lib.trimPrefix s.data.toList [45]≠[]) (hx:(Lib.trimPrefix s.data.toList [45]).all Zea=true) (r:Option Int) (hA:Yjv s r) (w:World) (hW:LibW w) :
 Calls Tryz.prog 111 #[.string s] w (Zgg w (some (Ygv r))):=by
 have C:=Hq (Js s ⟨#[48,120]⟩)
 have ht:Lib.trimPrefix s.data.toList [48,120]=s.data.toList:=by unfold Lib.trimPrefix Lib.hasPrefix;rw [if_neg (by rw [hp];simp)]
 rw [show (⟨#[48,120]⟩:ByteArray).data.toList=[48,120] from rfl,ht,hp,bs_data] at C
 have M:=Hq (Zci s ⟨#[45]⟩)
 rw [show (⟨#[45]⟩:ByteArray).data.toList=[45] from rfl] at M
 have hlen:(Lib.trimPrefix s.data.toList [45]).length<=70000:=by
  have:=Ju s
  unfold Lib.trimPrefix;split <;> simp <;> omega
 have he:=Zak hd
 have T:=Hq (Zgj (bs (Lib.trimPrefix s.data.toList [45])) digSet (by rw [Zi];omega) (by decide) (by decide))
 rw [Xd,show bs digSet=⟨#[48,49,50,51,52,53,54,55,56,57]⟩ from rfl,(Zur _).2 hx] at T
 have he2:=Zch
 generalize bs []=x at *
 generalize bs (Lib.trimPrefix s.data.toList [45])=d at *
 have A:=Hq hA
 have LW:=Hq hW
 clear ht hp hd hx hlen hA hW
 cases r with
 | some n =>
   (go_enter Tryz.func111,Tryz.ntmps111)
   go_wp2_with (first
    | (go_at_call 141;refine (C.out _).mono ?_;rintro e w' ⟨rfl,rfl⟩)
    | (go_at_call 142;refine (M.out _).mono ?_;rintro e w' ⟨rfl,rfl⟩)
    | (go_at_call 139;refine (T.out _).mono ?_;rintro e w2 ⟨rfl,hg⟩;have G:=Hq hg;have B:=Hq (Yl (Ja w _ _ _ _) hg (by simp));clear hg)
    | (go_at_call 143;refine (A.out _ (Zs LW.out (Za (Ga _ _ _) G.out))).mono ?_;rintro e w3 ⟨rfl,hg⟩;have G3:=Hq hg;have B3:=Hq (Yl B.out hg (by simp));obtain ⟨c0,c1,c2,c3,z0,z1,z2,z3⟩:=Yu B3.out;clear hg))
   exact bodyPost_ret (Zks rfl rfl rfl (Xj B3.out)) rfl ⟨rfl,Yn (Za (Za (Ga _ _ _) G.out) G3.out) (Nat.le_refl _)⟩
 | none =>
   (go_enter Tryz.func111,Tryz.ntmps111)
   go_wp2_with (first
    | (go_at_call 141;refine (C.out _).mono ?_;rintro e w' ⟨rfl,rfl⟩)
    | (go_at_call 142;refine (M.out _).mono ?_;rintro e w' ⟨rfl,rfl⟩)
    | (go_at_call 139;refine (T.out _).mono ?_;rintro e w2 ⟨rfl,hg⟩;have G:=Hq hg;have B:=Hq (Yl (Ja w _ _ _ _) hg (by simp));clear hg)
    | (go_at_call 143;refine (A.out _ (Zs LW.out (Za (Ga _ _ _) G.out))).mono ?_;rintro e w3 ⟨⟨v9,t9,p9,rfl⟩,hg⟩;have G3:=Hq hg;have B3:=Hq (Yl B.out hg (by simp));obtain ⟨c0,c1,c2,c3,z0,z1,z2,z3⟩:=Yu B3.out;clear hg))
   exact bodyPost_ret (Zks rfl rfl rfl (Xj B3.out)) rfl ⟨rfl,Yn (Za (Za (Ga _ _ _) G.out) G3.out) (Nat.le_refl _)⟩
theorem Zya (s:ByteArray) (hs:s.size<=70000) (w:World) (hW:LibW w):Calls Tryz.prog 111 #[.string s] w (Zgg w (Zzw s.data.toList)):=by
 unfold Zzw
 cases hp:[48,120].isPrefixOf s.data.toList with
 | true =>
   simp only [if_true]
   by_cases hl:1<=(s.data.toList.drop 2).length/\(s.data.toList.drop 2).length<=16
   · rw [if_pos hl]
     cases hx:Zjv (s.data.toList.drop 2) with
     | true =>
       obtain ⟨v,hv,-⟩:=Zej _ 0 hx
       rw [hv]
       exact Zyb s hp hl.1 hl.2 hx v hv w
     | false =>
       rw [Zcf _ 0 hx]
       exact Zto s hp hl.1 hl.2 hx w
   · rw [if_neg hl]
     exact Ztp s hp hl w
 | false =>
   simp only [Bool.false_eq_true,if_false]
   have hneg:∃ neg:Bool,(s.data.toList.head? == some 45)=neg/\Lib.trimPrefix s.data.toList [45]=(if neg then s.data.toList.drop 1 else s.data.toList)/\(∀ d,d=(if neg then s.data.toList.drop 1 else s.data.toList)->s.data.toList=(if neg then 45::d else d)):=by
    unfold Lib.trimPrefix Lib.hasPrefix
    cases hl:s.data.toList with
    | nil=>exact ⟨false,rfl,rfl,fun d hd=>by simpa using hd.symm⟩
    | cons c r =>
      by_cases hc:c=45
      · subst hc
        exact ⟨true,by simp,by simp [List.isPrefixOf],fun d hd=>by rw [hd];simp⟩
      · refine ⟨false,by simpa using hc,?_,fun d hd=>by simpa using hd.symm⟩
        have:[45].isPrefixOf (c::r)=false:=by
         simp [List.isPrefixOf];exact fun h=>hc h.symm
        rw [this];simp
   obtain ⟨neg,h1,h2,h3⟩:=hneg
   rw [h1]
   have h4:=h3 _ rfl
   generalize (if neg=true then s.data.toList.drop 1 else s.data.toList)=d at *
   by_cases hd:d=[]
   · rw [Znt (Or.inl hd)]
     exact Zqp s hp (by rw [h2];exact hd) w
   · cases hx:d.all Zea with
     | false =>
       rw [Znt (Or.inr hx)]
       exact Ztq s hs hp (by rw [h2];exact hd) (by rw [h2];exact hx) w
     | true =>
       obtain ⟨v,hv⟩:=Zue hd hx
       rw [hv]
       have hlen:d.length<=70000:=by
        have:=Ju s
        rw [h4] at this
        cases neg <;> simp at this <;> omega
       have hA:Yjv s (if neg then (if v<=9223372036854775808 then some (-(v:Int)) else none) else (if v<9223372036854775808 then some (v:Int) else none)):=by
        intro w1 hW1
        have:=Yis neg d v hv hlen w1 hW1
        rw [<- h4,bs_data] at this
        exact this
       have:=Zyc s hs hp (by rw [h2];exact hd) (by rw [h2];exact hx) _ hA w hW
       have he:some (Ygv (if neg then (if v<=9223372036854775808 then some (-(v:Int)) else none) else (if v<9223372036854775808 then some (v:Int) else none)))=(some v).map (fun v=>if neg then (if v<=9223372036854775808 then (-(v:Int),false) else (0,true)) else (if v<9223372036854775808 then ((v:Int),false) else (0,true))):=by
        cases neg with
        | true=>by_cases hv2:v<=9223372036854775808 <;> simp [hv2,Ygv] <;> omega
        | false=>by_cases hv2:v<9223372036854775808 <;> simp [hv2,Ygv] <;> omega
       rw [he] at this
       exact this
end Go.Proofs.YteciblfmgdlipaaGreatDoor.AS
