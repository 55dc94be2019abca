/-
  Part of a proof: contracts of functions and lemmas, each stated by its own theorem. Conditions: as each theorem states.
-/
import Derived.Test.YteciblfmgdlipaaGreatDoorMN15
set_option linter.unusedSimpArgs false
set_option linter.unusedVariables false
set_option maxRecDepth 100000
set_option maxHeartbeats 16000000
namespace Go.Proofs.YteciblfmgdlipaaGreatDoor.AS
open Go.RowKit Go.Great CK
theorem Yex {w w':World} {p:PrP} {e:Ending} (h:Zrv w (.ok p) e w'):∃ pD cD pF cF,e = .returned (.tuple #[.agg #[.int .i64 p.1,.slice pD p.2.1.length cD,.slice pF p.2.2.length cF],.nilIface])/\w.grownBy w' none/\∃ cv,Zrw w' w.heap.size (.slice pD p.2.1.length cD) (.slice pF p.2.2.length cF) (Zdy p.2.1) p.2.2 cv:=by
 obtain ⟨h1,h2⟩:=h
 obtain ⟨mem,d,fs⟩:=p
 obtain ⟨D,F,cv,rfl,ho⟩:=h1
 obtain ⟨pD,cD,rfl⟩:=Zk ho.dt
 obtain ⟨pF,cF,rfl⟩:=Zk ho.fr
 rw [Jf] at ho ⊢
 exact ⟨_,_,_,_,rfl,h2,cv,ho⟩
theorem Zvh {w w':World} {y n:Int} {e:Ending} (h:Zrv w (.error (y,n)) e w'):∃ a,e = .returned (.tuple #[.agg #[.int .i64 0,.slice none 0 0,.slice none 0 0],.iface 62 (.pointer (some ⟨a,0,none⟩))])/\w.grownBy w' none/\w'.heap[a]? = some (.cells #[.int .i64 n,Zod y] 64 (0,0)):=by
 obtain ⟨h1,h2⟩:=h
 obtain ⟨a,rfl,ha,hb⟩:=h1
 exact ⟨a,rfl,h2,hb⟩
theorem longer_any (t m:Txt) (ht:t.length<=1000000000000000) (hm:m.length<=1000000000000000) (w:World) (hW:LibW w):Calls Tryz.prog 9 #[.string (bs t),.string (bs m)] w fun e w'=>e = .returned (.bool true)/\w.grownBy w' none:=by
 have hzt:=Zj t
 have hzm:=Zj m
 have hti:(t.length:Int)<=1000000000000000:=by omega
 have hmi:(m.length:Int)<=1000000000000000:=by omega
 have LW:=Hq hW
 have KN:=Hq (Zwc w hW)
 have PA:=Hq (fun W (h:LibW W)=>Zhq t W h)
 clear hW
 cases hr:Jo t with
 | ok p =>
   rw [hr] at PA
   clear hr
   go_enter Tryz.func9,Tryz.ntmps9
   go_wp2_with (first
    | (go_at_call 11;refine KN.out.mono ?_;rintro e w1 ⟨rfl,hg1⟩;have G1:=Hq hg1;clear hg1)
    | (go_at_call 12;refine (PA.out _ (Zq LW.out G1.out)).mono ?_;intro e w2 hp2;obtain ⟨pD,cD,pF,cF,rfl,hg2,-⟩:=Yex hp2;have G2:=Hq (Za G1.out hg2);clear hp2 hg2)
    | (go_at_call 13;refine (Zpw _).mono ?_;rintro e w3 ⟨rfl,hg3⟩;have G3:=Hq (Za G2.out (Za (Ga _ _ none) hg3));clear hg3))
   go_loopw [10,11] (fun l i wr=>∃ k:Nat,i = .int .i64 k/\k<=t.length/\l = .int .i64 ((nlC (t.take k):Int)+1)/\w.grownBy wr none) (fun _ i _=>t.length - (intOf i).toNat)
   case atStart=>exact ⟨0,rfl,Nat.zero_le _,rfl,G3.out⟩
   case round =>
    obtain ⟨k,rfl,hk,rfl,hg⟩:=hrel
    have GG:=Hq hg
    have hle:=Yaz t k
    clear hg
    by_cases hlt:k<t.length
    · obtain ⟨c,hq⟩:∃ c,t[k]? = some c:=⟨_,List.getElem?_eq_getElem hlt⟩
      have HX:=Hq (Zqq t k c hq)
      have hkb:k<(bs t).size:=by rw [Zj];exact hlt
      have hbk:(bs t)[k]'hkb=c:=by
       have:=(List.getElem?_eq_some_iff.1 hq).2
       rw [<- this]
       rfl
      clear hq
      obtain ⟨nl,hnl⟩:∃ x,nlC (t.take k)=x:=⟨_,rfl⟩
      rw [hnl] at HX hle
      rw [hnl]
      clear hnl
      by_cases h10:c.toNat=10
      · have hb:((((bs t)[k]'hkb).toNat:Int) == 10)=true:=by rw [hbk,h10];rfl
        rw [if_pos h10] at HX
        clear hbk h10
        go_wp2
        exact ⟨⟨k+1,by go_num,by omega,by rw [HX.out];go_num,GG.out⟩,by simp [intOf];omega⟩
      · have hb:((((bs t)[k]'hkb).toNat:Int) == 10)=false:=by rw [hbk,beq_eq_false_iff_ne];omega
        rw [if_neg h10] at HX
        clear hbk h10
        go_wp2
        exact ⟨⟨k+1,by go_num,by omega,by rw [HX.out];go_num,GG.out⟩,by simp [intOf];omega⟩
    · have hkn:k=t.length:=by omega
      subst hkn
      clear hlt
      have hn1:¬ (0:Int)>((nlC (t.take t.length):Nat):Int)+1:=by omega
      obtain ⟨nl,hnl⟩:∃ x,nlC (t.take t.length)=x:=⟨_,rfl⟩
      rw [hnl] at hn1 hle
      rw [hnl]
      clear hnl
      go_wp2
      go_ret
      exact ⟨rfl,GG.out⟩
 | error x =>
   obtain ⟨y,n⟩:=x
   obtain ⟨hy,hf0,hf1⟩:=Zhp hr
   have HR:=Hq hr
   rw [hr] at PA
   clear hr
   go_enter Tryz.func9,Tryz.ntmps9
   go_wp2_with (first
    | (go_at_call 11;refine KN.out.mono ?_;rintro e w1 ⟨rfl,hg1⟩;have G1:=Hq hg1;clear hg1)
    | (go_at_call 12;refine (PA.out _ (Zq LW.out G1.out)).mono ?_;intro e w2 hp2;obtain ⟨a,rfl,hg2,hb2⟩:=Zvh hp2;have G2:=Hq (Za G1.out hg2);have TE:=Hq (fun o=>Zkn a n y hy (w2.alloc o) (Zh hb2 (Ga w2 o none) (by simp)));clear hp2 hg2 hb2)
    | (go_at_call 13;refine (TE.out _).mono ?_;rintro e w3 ⟨rfl,hg3⟩;have G3:=Hq (Za G2.out (Za (Ga _ _ none) hg3));clear hg3))
   go_loopw [10,11] (fun l i wr=>∃ k:Nat,i = .int .i64 k/\k<=t.length/\l = .int .i64 ((nlC (t.take k):Int)+1)/\w.grownBy wr none) (fun _ i _=>t.length - (intOf i).toNat)
   case atStart=>exact ⟨0,rfl,Nat.zero_le _,rfl,G3.out⟩
   case round =>
    obtain ⟨k,rfl,hk,rfl,hg⟩:=hrel
    have GG:=Hq hg
    have hle:=Yaz t k
    clear hg
    by_cases hlt:k<t.length
    · obtain ⟨c,hq⟩:∃ c,t[k]? = some c:=⟨_,List.getElem?_eq_getElem hlt⟩
      have HX:=Hq (Zqq t k c hq)
      have hkb:k<(bs t).size:=by rw [Zj];exact hlt
      have hbk:(bs t)[k]'hkb=c:=by
       have:=(List.getElem?_eq_some_iff.1 hq).2
       rw [<- this]
       rfl
      clear hq
      obtain ⟨nl,hnl⟩:∃ x,nlC (t.take k)=x:=⟨_,rfl⟩
      rw [hnl] at HX hle
      rw [hnl]
      clear hnl
      by_cases h10:c.toNat=10
      · have hb:((((bs t)[k]'hkb).toNat:Int) == 10)=true:=by rw [hbk,h10];rfl
        rw [if_pos h10] at HX
        clear hbk h10
        go_wp2
        exact ⟨⟨k+1,by go_num,by omega,by rw [HX.out];go_num,GG.out⟩,by simp [intOf];omega⟩
      · have hb:((((bs t)[k]'hkb).toNat:Int) == 10)=false:=by rw [hbk,beq_eq_false_iff_ne];omega
        rw [if_neg h10] at HX
        clear hbk h10
        go_wp2
        exact ⟨⟨k+1,by go_num,by omega,by rw [HX.out];go_num,GG.out⟩,by simp [intOf];omega⟩
    · have hkn:k=t.length:=by omega
      subst hkn
      clear hlt
      have hn0:¬ n<0:=by omega
      have hnl2:¬ n>((nlC (t.take t.length):Nat):Int)+1:=by rw [List.take_length];omega
      have hy2:(y == 0)=false:=beq_eq_false_iff_ne.2 hy
      obtain ⟨nl,hnl⟩:∃ x,nlC (t.take t.length)=x:=⟨_,rfl⟩
      rw [hnl] at hnl2 hle
      rw [hnl]
      clear hnl
      by_cases hz:n=0
      · subst hz
        go_wp2
        go_ret
        exact ⟨rfl,GG.out⟩
      · have hz2:(n == 0)=false:=beq_eq_false_iff_ne.2 hz
        by_cases hbig:(t.length:Int)+1+(m.length:Int)>65536
        · clear hz
          go_wp2
          go_ret
          exact ⟨rfl,GG.out⟩
        · have hc1:¬ 9223372036854775807<t.length+1:=by omega
          have hc2:¬ 9223372036854775807<t.length+1+m.length:=by omega
          have hcat:bs (t++10::m)=bs t++⟨#[10]⟩++bs m:=by
           have e1:=(Zdp t [10] (x:=bs t) (y:=⟨#[10]⟩) rfl rfl)
           rw [e1,Jt];simp
          have PB0:=fun W (h:LibW W)=>Zhq (t++10::m) W h
          rw [hcat] at PB0
          by_cases h142:y=142
          · subst h142
            cases hr2:Jo (t++10::m) with
            | ok p2 =>
              rw [hr2] at PB0
              have PB:=Hq PB0
              clear PB0 hcat hr2 hz
              go_wp2_with (first
               | (go_at_call 12;refine (PB.out _ (Zq LW.out GG.out)).mono ?_;intro e w5 hp5;obtain ⟨pD,cD,pF,cF,rfl,hg5,-⟩:=Yex hp5;have G5:=Hq (Za GG.out hg5);clear hp5 hg5)
               | (go_at_call 13;refine (Zpw _).mono ?_;rintro e w6 ⟨rfl,hg6⟩;have G6:=Hq (Za G5.out hg6);clear hg6))
              go_ret
              exact ⟨rfl,G6.out⟩
            | error x2 =>
              obtain ⟨y2,n2⟩:=x2
              have hq2:=(Zhp hr2).1
              rw [hr2] at PB0
              have PB:=Hq PB0
              clear PB0 hcat hr2 hz
              go_wp2_with (first
               | (go_at_call 12;refine (PB.out _ (Zq LW.out GG.out)).mono ?_;intro e w5 hp5;obtain ⟨a5,rfl,hg5,hb5⟩:=Zvh hp5;have G5:=Hq (Za GG.out hg5);have TE5:=Hq (Zkn a5 n2 y2 hq2 w5 hb5);clear hp5 hg5 hb5)
               | (go_at_call 13;refine TE5.out.mono ?_;rintro e w6 ⟨rfl,hg6⟩;have G6:=Hq (Za G5.out hg6);clear hg6))
              go_ret
              exact ⟨rfl,G6.out⟩
          · have b142:(y == 142)=false:=beq_eq_false_iff_ne.2 h142
            have hr2:=Zmn (m:=m) HR.out hz h142 (by rw [List.length_append,List.length_cons];omega)
            rw [hr2] at PB0
            have PB:=Hq PB0
            have HY:=Hq hy
            clear PB0 hcat hr2 hz h142 hy
            go_wp2_with (first
             | (go_at_call 12;refine (PB.out _ (Zq LW.out GG.out)).mono ?_;intro e w5 hp5;obtain ⟨a5,rfl,hg5,hb5⟩:=Zvh hp5;have G5:=Hq (Za GG.out hg5);have TE5:=Hq (Zkn a5 n y HY.out w5 hb5);clear hp5 hg5 hb5)
             | (go_at_call 13;refine TE5.out.mono ?_;rintro e w6 ⟨rfl,hg6⟩;have G6:=Hq (Za G5.out hg6);clear hg6))
            go_ret
            exact ⟨rfl,G6.out⟩
end Go.Proofs.YteciblfmgdlipaaGreatDoor.AS
