/-
  Part of a proof: contracts of functions and lemmas, each stated by its own theorem. Conditions: as each theorem states.
-/
import Derived.Test.YteciblfmgdlipaaGreatDoorMI16
set_option linter.unusedSimpArgs false
set_option linter.unusedVariables false
set_option maxRecDepth 100000
set_option maxHeartbeats 16000000
namespace Go.Proofs.YteciblfmgdlipaaGreatDoor.AS
open Go.RowKit Go.Great CK
theorem Yld (m:Txt) (hs:m.length<=70000) (w:World):Calls Tryz.prog 94 #[.string (bs (45::m))] w (Zem w (Zex (45::m))):=by
 have hz:=Zl m
 have hz1:(bs (45::m)).size=m.length+1:=by rw [Zl];rfl
 have NL:=Ymm m
 have N0:=Hq (show m=[]->Zex (45::m)=none from fun h=>by subst h;rfl)
 have NB:=Hq (show Lib.decFrom 0 m=none->Zex (45::m)=none from fun h=>by rw [NL,Zov h];rfl)
 have NE:=Hq (show ∀ v:Nat,Lib.decFrom 0 m=some v->m≠[]->9223372036854775808<v->Zex (45::m)=some (0,true) from fun v h hm hv=>by rw [NL,Zfw hm h,Option.map_some,if_neg (by omega)])
 have NS:=Hq (show ∀ v:Nat,Lib.decFrom 0 m=some v->m≠[]->v<=9223372036854775808->Zex (45::m)=some (-(v:Int),false) from fun v h hm hv=>by rw [NL,Zfw hm h,Option.map_some,if_pos hv])
 have h0t:0<(bs (45::m)).size:=by rw [hz1];omega
 have e45:((((bs (45::m))[0]'h0t).toNat:Int) == 45)=true:=rfl
 have hs1:∀ W:World,(Instr.slice 9 (.string (bs (45::m))) (some (.int .i64 1)) none none).run Tryz.prog W = .ok (.string (bs m)) W:=fun W=>by
  rw [run_slice_string_l (ht:=Xl) (h0:=by omega) (h1:=by rw [hz1];omega),Xw]
  congr 3
  rw [List.take_of_length_le (by rw [hz1,Xs];simp),Xs]
  rfl
 clear NL
 by_cases h2:2<m.length
 · have h2i:2<(m.length:Int):=by omega
   have h0b:0<(bs m).size:=by rw [Zl];omega
   have h1b:1<(bs m).size:=by rw [Zl];omega
   cases e48:((((bs m)[0]'h0b).toNat:Int) == 48) with
   | true =>
     cases e120:((((bs m)[1]'h1b).toNat:Int) == 120) with
     | true =>
       go_enter Tryz.func94,Tryz.ntmps94
       go_wp2
       go_loopw [8,9,10] (fun vu vb vi wr=>∃ (k u v:Nat) (big:Bool),vi = .int .i64 k/\vu = .int .u64 u/\vb = .bool big/\DcI m k u v big/\w=wr) (fun _ _ i _=>m.length - (intOf i).toNat)
       case atStart=>exact ⟨0,0,0,false,rfl,rfl,rfl,Zdw m,rfl⟩
       case round =>
        obtain ⟨k,u,v,big,rfl,rfl,rfl,hD,hwr⟩:=hrel
        subst hwr
        have D:=Hq hD
        have hku:=hD.u63
        have hkl:=hD.le
        clear hD
        by_cases hlt:k<m.length
        · obtain ⟨c,hq⟩:∃ c,m[k]? = some c:=⟨_,List.getElem?_eq_getElem hlt⟩
          have hkb:k<(bs m).size:=by rw [Zl];exact hlt
          have hbk:(bs m)[k]'hkb=c:=by
           have:=(List.getElem?_eq_some_iff.1 hq).2
           rw [<- this]
           rfl
          have HQ:=Hq hq
          subst hbk
          clear hq
          cases hdg:Zeb (((bs m)[k]'hkb).toNat:Int) with
          | false =>
            have HN:=Hq (NB.out (Ziu D.out.at_ HQ.out hdg))
            have RD:=Hq (show ∀ W,Calls Tryz.prog 93 #[.int .u8 (((bs m)[k]'hkb).toNat:Int)] W fun e w'=>e = .returned (.bool false)/\W=w' from fun W=>by have:=Yl (((bs m)[k]'hkb).toNat:Int) W;rw [hdg] at this;exact this)
            clear hdg
            go_wp2_with (go_at_call 93;refine (RD.out _).mono ?_;rintro e w9 ⟨rfl,rfl⟩)
            go_ret3
            rw [HN.out]
            exact ⟨⟨_,_,rfl⟩,rfl⟩
          | true =>
            have RD:=Hq (show ∀ W,Calls Tryz.prog 93 #[.int .u8 (((bs m)[k]'hkb).toNat:Int)] W fun e w'=>e = .returned (.bool true)/\W=w' from fun W=>by have:=Yl (((bs m)[k]'hkb).toNat:Int) W;rw [hdg] at this;exact this)
            obtain ⟨_,hd1,hd2⟩:=Zfv hdg
            have HD:=Hq hdg
            have hi1:48<=(((bs m)[k]'hkb).toNat:Int):=by omega
            have hi2:(((bs m)[k]'hkb).toNat:Int)<=57:=by omega
            clear hdg
            by_cases hf:10*u+(((bs m)[k]'hkb).toNat - 48)<=9223372036854775808
            · have NX:=Hq (Ziv D.out HQ.out HD.out hf)
              have hf2:¬ (9223372036854775808 - ((((bs m)[k]'hkb).toNat:Int) - 48)) / 10<(u:Int):=by omega
              have hf3:10*(u:Int)+((((bs m)[k]'hkb).toNat:Int) - 48)<18446744073709551616:=by omega
              go_wp2_with (go_at_call 93;refine (RD.out _).mono ?_;rintro e w9 ⟨rfl,rfl⟩)
              exact ⟨⟨k+1,_,_,big,by go_num,by go_num,rfl,NX.out,trivial⟩,by simp [intOf];omega⟩
            · have NX:=Hq (Zix D.out HQ.out HD.out (by omega))
              have hf2:(9223372036854775808 - ((((bs m)[k]'hkb).toNat:Int) - 48)) / 10<(u:Int):=by omega
              go_wp2_with (go_at_call 93;refine (RD.out _).mono ?_;rintro e w9 ⟨rfl,rfl⟩)
              exact ⟨⟨k+1,_,_,true,by go_num,by go_num,rfl,NX.out,trivial⟩,by simp [intOf];omega⟩
        · have hkn:k=m.length:=by omega
          subst hkn
          clear hlt
          have HV:=Hq (Ziw D.out)
          by_cases hm0:m=[]
          · exact absurd h2 (by rw [hm0];simp)
          · have hml:0<(m.length:Int):=by have:=List.length_pos_iff.2 hm0;omega
            have hmn:0<m.length:=by omega
            cases big with
            | true =>
              have HR:=Hq (NE.out v HV.out hm0 (D.out.hi rfl))
              clear hm0
              go_wp2
              all_goals
               go_ret3
               rw [HR.out]
               exact ⟨rfl,rfl⟩
            | false =>
              have huv:=D.out.lo rfl
              by_cases hu:u=9223372036854775808
              · have HR:=Hq (NS.out v HV.out hm0 (by omega))
                have hu2:((u:Int) == 9223372036854775808)=true:=beq_iff_eq.2 (by omega)
                obtain ⟨z,ew⟩:∃ z,IntKind.i64.wrap (u:Int)=z:=⟨_,rfl⟩
                have ew2:IntKind.i64.wrap (-z) = -(u:Int):=by rw [<- ew,IntKind.wrap_i64,IntKind.wrap_i64];omega
                subst huv
                clear hm0 hu
                go_wp2
                go_ret3
                rw [HR.out]
                exact ⟨rfl,rfl⟩
              · have HR:=Hq (NS.out v HV.out hm0 (by omega))
                have hu2:((u:Int) == 9223372036854775808)=false:=beq_eq_false_iff_ne.2 (by omega)
                have ew:=IntWalk.i64_in (u:Int) (by omega)
                have ew2:=IntWalk.i64_in (-(u:Int)) (by omega)
                subst huv
                clear hm0 hu
                go_wp2
                go_ret3
                rw [HR.out]
                exact ⟨rfl,rfl⟩
     | false =>
       go_enter Tryz.func94,Tryz.ntmps94
       go_wp2
       go_loopw [8,9,10] (fun vu vb vi wr=>∃ (k u v:Nat) (big:Bool),vi = .int .i64 k/\vu = .int .u64 u/\vb = .bool big/\DcI m k u v big/\w=wr) (fun _ _ i _=>m.length - (intOf i).toNat)
       case atStart=>exact ⟨0,0,0,false,rfl,rfl,rfl,Zdw m,rfl⟩
       case round =>
        obtain ⟨k,u,v,big,rfl,rfl,rfl,hD,hwr⟩:=hrel
        subst hwr
        have D:=Hq hD
        have hku:=hD.u63
        have hkl:=hD.le
        clear hD
        by_cases hlt:k<m.length
        · obtain ⟨c,hq⟩:∃ c,m[k]? = some c:=⟨_,List.getElem?_eq_getElem hlt⟩
          have hkb:k<(bs m).size:=by rw [Zl];exact hlt
          have hbk:(bs m)[k]'hkb=c:=by
           have:=(List.getElem?_eq_some_iff.1 hq).2
           rw [<- this]
           rfl
          have HQ:=Hq hq
          subst hbk
          clear hq
          cases hdg:Zeb (((bs m)[k]'hkb).toNat:Int) with
          | false =>
            have HN:=Hq (NB.out (Ziu D.out.at_ HQ.out hdg))
            have RD:=Hq (show ∀ W,Calls Tryz.prog 93 #[.int .u8 (((bs m)[k]'hkb).toNat:Int)] W fun e w'=>e = .returned (.bool false)/\W=w' from fun W=>by have:=Yl (((bs m)[k]'hkb).toNat:Int) W;rw [hdg] at this;exact this)
            clear hdg
            go_wp2_with (go_at_call 93;refine (RD.out _).mono ?_;rintro e w9 ⟨rfl,rfl⟩)
            go_ret3
            rw [HN.out]
            exact ⟨⟨_,_,rfl⟩,rfl⟩
          | true =>
            have RD:=Hq (show ∀ W,Calls Tryz.prog 93 #[.int .u8 (((bs m)[k]'hkb).toNat:Int)] W fun e w'=>e = .returned (.bool true)/\W=w' from fun W=>by have:=Yl (((bs m)[k]'hkb).toNat:Int) W;rw [hdg] at this;exact this)
            obtain ⟨_,hd1,hd2⟩:=Zfv hdg
            have HD:=Hq hdg
            have hi1:48<=(((bs m)[k]'hkb).toNat:Int):=by omega
            have hi2:(((bs m)[k]'hkb).toNat:Int)<=57:=by omega
            clear hdg
            by_cases hf:10*u+(((bs m)[k]'hkb).toNat - 48)<=9223372036854775808
            · have NX:=Hq (Ziv D.out HQ.out HD.out hf)
              have hf2:¬ (9223372036854775808 - ((((bs m)[k]'hkb).toNat:Int) - 48)) / 10<(u:Int):=by omega
              have hf3:10*(u:Int)+((((bs m)[k]'hkb).toNat:Int) - 48)<18446744073709551616:=by omega
              go_wp2_with (go_at_call 93;refine (RD.out _).mono ?_;rintro e w9 ⟨rfl,rfl⟩)
              exact ⟨⟨k+1,_,_,big,by go_num,by go_num,rfl,NX.out,trivial⟩,by simp [intOf];omega⟩
            · have NX:=Hq (Zix D.out HQ.out HD.out (by omega))
              have hf2:(9223372036854775808 - ((((bs m)[k]'hkb).toNat:Int) - 48)) / 10<(u:Int):=by omega
              go_wp2_with (go_at_call 93;refine (RD.out _).mono ?_;rintro e w9 ⟨rfl,rfl⟩)
              exact ⟨⟨k+1,_,_,true,by go_num,by go_num,rfl,NX.out,trivial⟩,by simp [intOf];omega⟩
        · have hkn:k=m.length:=by omega
          subst hkn
          clear hlt
          have HV:=Hq (Ziw D.out)
          by_cases hm0:m=[]
          · exact absurd h2 (by rw [hm0];simp)
          · have hml:0<(m.length:Int):=by have:=List.length_pos_iff.2 hm0;omega
            have hmn:0<m.length:=by omega
            cases big with
            | true =>
              have HR:=Hq (NE.out v HV.out hm0 (D.out.hi rfl))
              clear hm0
              go_wp2
              all_goals
               go_ret3
               rw [HR.out]
               exact ⟨rfl,rfl⟩
            | false =>
              have huv:=D.out.lo rfl
              by_cases hu:u=9223372036854775808
              · have HR:=Hq (NS.out v HV.out hm0 (by omega))
                have hu2:((u:Int) == 9223372036854775808)=true:=beq_iff_eq.2 (by omega)
                obtain ⟨z,ew⟩:∃ z,IntKind.i64.wrap (u:Int)=z:=⟨_,rfl⟩
                have ew2:IntKind.i64.wrap (-z) = -(u:Int):=by rw [<- ew,IntKind.wrap_i64,IntKind.wrap_i64];omega
                subst huv
                clear hm0 hu
                go_wp2
                go_ret3
                rw [HR.out]
                exact ⟨rfl,rfl⟩
              · have HR:=Hq (NS.out v HV.out hm0 (by omega))
                have hu2:((u:Int) == 9223372036854775808)=false:=beq_eq_false_iff_ne.2 (by omega)
                have ew:=IntWalk.i64_in (u:Int) (by omega)
                have ew2:=IntWalk.i64_in (-(u:Int)) (by omega)
                subst huv
                clear hm0 hu
                go_wp2
                go_ret3
                rw [HR.out]
                exact ⟨rfl,rfl⟩
   | false =>
     go_enter Tryz.func94,Tryz.ntmps94
     go_wp2
     go_loopw [8,9,10] (fun vu vb vi wr=>∃ (k u v:Nat) (big:Bool),vi = .int .i64 k/\vu = .int .u64 u/\vb = .bool big/\DcI m k u v big/\w=wr) (fun _ _ i _=>m.length - (intOf i).toNat)
     case atStart=>exact ⟨0,0,0,false,rfl,rfl,rfl,Zdw m,rfl⟩
     case round =>
      obtain ⟨k,u,v,big,rfl,rfl,rfl,hD,hwr⟩:=hrel
      subst hwr
      have D:=Hq hD
      have hku:=hD.u63
      have hkl:=hD.le
      clear hD
      by_cases hlt:k<m.length
      · obtain ⟨c,hq⟩:∃ c,m[k]? = some c:=⟨_,List.getElem?_eq_getElem hlt⟩
        have hkb:k<(bs m).size:=by rw [Zl];exact hlt
        have hbk:(bs m)[k]'hkb=c:=by
         have:=(List.getElem?_eq_some_iff.1 hq).2
         rw [<- this]
         rfl
        have HQ:=Hq hq
        subst hbk
        clear hq
        cases hdg:Zeb (((bs m)[k]'hkb).toNat:Int) with
        | false =>
          have HN:=Hq (NB.out (Ziu D.out.at_ HQ.out hdg))
          have RD:=Hq (show ∀ W,Calls Tryz.prog 93 #[.int .u8 (((bs m)[k]'hkb).toNat:Int)] W fun e w'=>e = .returned (.bool false)/\W=w' from fun W=>by have:=Yl (((bs m)[k]'hkb).toNat:Int) W;rw [hdg] at this;exact this)
          clear hdg
          go_wp2_with (go_at_call 93;refine (RD.out _).mono ?_;rintro e w9 ⟨rfl,rfl⟩)
          go_ret3
          rw [HN.out]
          exact ⟨⟨_,_,rfl⟩,rfl⟩
        | true =>
          have RD:=Hq (show ∀ W,Calls Tryz.prog 93 #[.int .u8 (((bs m)[k]'hkb).toNat:Int)] W fun e w'=>e = .returned (.bool true)/\W=w' from fun W=>by have:=Yl (((bs m)[k]'hkb).toNat:Int) W;rw [hdg] at this;exact this)
          obtain ⟨_,hd1,hd2⟩:=Zfv hdg
          have HD:=Hq hdg
          have hi1:48<=(((bs m)[k]'hkb).toNat:Int):=by omega
          have hi2:(((bs m)[k]'hkb).toNat:Int)<=57:=by omega
          clear hdg
          by_cases hf:10*u+(((bs m)[k]'hkb).toNat - 48)<=9223372036854775808
          · have NX:=Hq (Ziv D.out HQ.out HD.out hf)
            have hf2:¬ (9223372036854775808 - ((((bs m)[k]'hkb).toNat:Int) - 48)) / 10<(u:Int):=by omega
            have hf3:10*(u:Int)+((((bs m)[k]'hkb).toNat:Int) - 48)<18446744073709551616:=by omega
            go_wp2_with (go_at_call 93;refine (RD.out _).mono ?_;rintro e w9 ⟨rfl,rfl⟩)
            exact ⟨⟨k+1,_,_,big,by go_num,by go_num,rfl,NX.out,trivial⟩,by simp [intOf];omega⟩
          · have NX:=Hq (Zix D.out HQ.out HD.out (by omega))
            have hf2:(9223372036854775808 - ((((bs m)[k]'hkb).toNat:Int) - 48)) / 10<(u:Int):=by omega
            go_wp2_with (go_at_call 93;refine (RD.out _).mono ?_;rintro e w9 ⟨rfl,rfl⟩)
            exact ⟨⟨k+1,_,_,true,by go_num,by go_num,rfl,NX.out,trivial⟩,by simp [intOf];omega⟩
      · have hkn:k=m.length:=by omega
        subst hkn
        clear hlt
        have HV:=Hq (Ziw D.out)
        by_cases hm0:m=[]
        · exact absurd h2 (by rw [hm0];simp)
        · have hml:0<(m.length:Int):=by have:=List.length_pos_iff.2 hm0;omega
          have hmn:0<m.length:=by omega
          cases big with
          | true =>
            have HR:=Hq (NE.out v HV.out hm0 (D.out.hi rfl))
            clear hm0
            go_wp2
            all_goals
             go_ret3
             rw [HR.out]
             exact ⟨rfl,rfl⟩
          | false =>
            have huv:=D.out.lo rfl
            by_cases hu:u=9223372036854775808
            · have HR:=Hq (NS.out v HV.out hm0 (by omega))
              have hu2:((u:Int) == 9223372036854775808)=true:=beq_iff_eq.2 (by omega)
              obtain ⟨z,ew⟩:∃ z,IntKind.i64.wrap (u:Int)=z:=⟨_,rfl⟩
              have ew2:IntKind.i64.wrap (-z) = -(u:Int):=by rw [<- ew,IntKind.wrap_i64,IntKind.wrap_i64];omega
              subst huv
              clear hm0 hu
              go_wp2
              go_ret3
              rw [HR.out]
              exact ⟨rfl,rfl⟩
            · have HR:=Hq (NS.out v HV.out hm0 (by omega))
              have hu2:((u:Int) == 9223372036854775808)=false:=beq_eq_false_iff_ne.2 (by omega)
              have ew:=IntWalk.i64_in (u:Int) (by omega)
              have ew2:=IntWalk.i64_in (-(u:Int)) (by omega)
              subst huv
              clear hm0 hu
              go_wp2
              go_ret3
              rw [HR.out]
              exact ⟨rfl,rfl⟩
 · have h2i:¬ 2<(m.length:Int):=by omega
   go_enter Tryz.func94,Tryz.ntmps94
   go_wp2
   go_loopw [8,9,10] (fun vu vb vi wr=>∃ (k u v:Nat) (big:Bool),vi = .int .i64 k/\vu = .int .u64 u/\vb = .bool big/\DcI m k u v big/\w=wr) (fun _ _ i _=>m.length - (intOf i).toNat)
   case atStart=>exact ⟨0,0,0,false,rfl,rfl,rfl,Zdw m,rfl⟩
   case round =>
    obtain ⟨k,u,v,big,rfl,rfl,rfl,hD,hwr⟩:=hrel
    subst hwr
    have D:=Hq hD
    have hku:=hD.u63
    have hkl:=hD.le
    clear hD
    by_cases hlt:k<m.length
    · obtain ⟨c,hq⟩:∃ c,m[k]? = some c:=⟨_,List.getElem?_eq_getElem hlt⟩
      have hkb:k<(bs m).size:=by rw [Zl];exact hlt
      have hbk:(bs m)[k]'hkb=c:=by
       have:=(List.getElem?_eq_some_iff.1 hq).2
       rw [<- this]
       rfl
      have HQ:=Hq hq
      subst hbk
      clear hq
      cases hdg:Zeb (((bs m)[k]'hkb).toNat:Int) with
      | false =>
        have HN:=Hq (NB.out (Ziu D.out.at_ HQ.out hdg))
        have RD:=Hq (show ∀ W,Calls Tryz.prog 93 #[.int .u8 (((bs m)[k]'hkb).toNat:Int)] W fun e w'=>e = .returned (.bool false)/\W=w' from fun W=>by have:=Yl (((bs m)[k]'hkb).toNat:Int) W;rw [hdg] at this;exact this)
        clear hdg
        go_wp2_with (go_at_call 93;refine (RD.out _).mono ?_;rintro e w9 ⟨rfl,rfl⟩)
        go_ret3
        rw [HN.out]
        exact ⟨⟨_,_,rfl⟩,rfl⟩
      | true =>
        have RD:=Hq (show ∀ W,Calls Tryz.prog 93 #[.int .u8 (((bs m)[k]'hkb).toNat:Int)] W fun e w'=>e = .returned (.bool true)/\W=w' from fun W=>by have:=Yl (((bs m)[k]'hkb).toNat:Int) W;rw [hdg] at this;exact this)
        obtain ⟨_,hd1,hd2⟩:=Zfv hdg
        have HD:=Hq hdg
        have hi1:48<=(((bs m)[k]'hkb).toNat:Int):=by omega
        have hi2:(((bs m)[k]'hkb).toNat:Int)<=57:=by omega
        clear hdg
        by_cases hf:10*u+(((bs m)[k]'hkb).toNat - 48)<=9223372036854775808
        · have NX:=Hq (Ziv D.out HQ.out HD.out hf)
          have hf2:¬ (9223372036854775808 - ((((bs m)[k]'hkb).toNat:Int) - 48)) / 10<(u:Int):=by omega
          have hf3:10*(u:Int)+((((bs m)[k]'hkb).toNat:Int) - 48)<18446744073709551616:=by omega
          go_wp2_with (go_at_call 93;refine (RD.out _).mono ?_;rintro e w9 ⟨rfl,rfl⟩)
          exact ⟨⟨k+1,_,_,big,by go_num,by go_num,rfl,NX.out,trivial⟩,by simp [intOf];omega⟩
        · have NX:=Hq (Zix D.out HQ.out HD.out (by omega))
          have hf2:(9223372036854775808 - ((((bs m)[k]'hkb).toNat:Int) - 48)) / 10<(u:Int):=by omega
          go_wp2_with (go_at_call 93;refine (RD.out _).mono ?_;rintro e w9 ⟨rfl,rfl⟩)
          exact ⟨⟨k+1,_,_,true,by go_num,by go_num,rfl,NX.out,trivial⟩,by simp [intOf];omega⟩
    · have hkn:k=m.length:=by omega
      subst hkn
      clear hlt
      have HV:=Hq (Ziw D.out)
      by_cases hm0:m=[]
      · have hv0:v=0:=by
         have h:=HV.out
         rw [hm0] at h
         exact (Option.some.inj (show some 0=some v from h)).symm
        have hml:¬ 0<(m.length:Int):=by rw [hm0];simp
        have hmn:¬ 0<m.length:=by rw [hm0];simp
        have HR:=Hq (N0.out hm0)
        cases big with
        | true=>exact absurd (D.out.hi rfl) (by omega)
        | false =>
          have huv:=D.out.lo rfl
          have hu2:((u:Int) == 9223372036854775808)=false:=beq_eq_false_iff_ne.2 (by omega)
          have ew:=IntWalk.i64_in (u:Int) (by omega)
          have ew2:=IntWalk.i64_in (-(u:Int)) (by omega)
          clear hm0 hv0 huv
          go_wp2
          go_ret3
          rw [HR.out]
          exact ⟨⟨_,_,rfl⟩,rfl⟩
      · have hml:0<(m.length:Int):=by have:=List.length_pos_iff.2 hm0;omega
        have hmn:0<m.length:=by omega
        cases big with
        | true =>
          have HR:=Hq (NE.out v HV.out hm0 (D.out.hi rfl))
          clear hm0
          go_wp2
          all_goals
           go_ret3
           rw [HR.out]
           exact ⟨rfl,rfl⟩
        | false =>
          have huv:=D.out.lo rfl
          by_cases hu:u=9223372036854775808
          · have HR:=Hq (NS.out v HV.out hm0 (by omega))
            have hu2:((u:Int) == 9223372036854775808)=true:=beq_iff_eq.2 (by omega)
            obtain ⟨z,ew⟩:∃ z,IntKind.i64.wrap (u:Int)=z:=⟨_,rfl⟩
            have ew2:IntKind.i64.wrap (-z) = -(u:Int):=by rw [<- ew,IntKind.wrap_i64,IntKind.wrap_i64];omega
            subst huv
            clear hm0 hu
            go_wp2
            go_ret3
            rw [HR.out]
            exact ⟨rfl,rfl⟩
          · have HR:=Hq (NS.out v HV.out hm0 (by omega))
            have hu2:((u:Int) == 9223372036854775808)=false:=beq_eq_false_iff_ne.2 (by omega)
            have ew:=IntWalk.i64_in (u:Int) (by omega)
            have ew2:=IntWalk.i64_in (-(u:Int)) (by omega)
            subst huv
            clear hm0 hu
            go_wp2
            go_ret3
            rw [HR.out]
            exact ⟨rfl,rfl⟩
theorem Ydk {l:Txt} {a v:Nat} (h:Yz a l=some v):v<(a+1)*16 ^ l.length:=by
 cases hx:Zmc l with
 | false=>rw [Zbw l a hx] at h;cases h
 | true =>
   obtain ⟨v',h1,h2⟩:=Zdc l a hx
   rw [h] at h1;injection h1 with h1;subst h1;exact h2
theorem Ymn {r:Txt} (hr:r≠[]):Zex (48::120::r)=if r.length<=16 then (Yz 0 r).map fun u=>(Zrq u,false) else none:=by
 have h1:1<=r.length:=List.length_pos_iff.2 hr
 unfold Zex
 rw [if_pos (by simp)]
 show (if 1<=r.length/\r.length<=16 then _ else _)=_
 by_cases h:r.length<=16
 · rw [if_pos ⟨h1,h⟩,if_pos h];rfl
 · rw [if_neg (fun x=>h x.2),if_neg h]
structure HxI (r:Txt) (k acc:Nat) (a:Int):Prop where
 v:a=((acc % 18446744073709551616:Nat):Int)
 at_:Yz 0 r=Yz acc ((48::120::r).drop k)
theorem Yle (r:Txt) (hr:r≠[]) (hs:r.length<=70000) (w:World):Calls Tryz.prog 94 #[.string (bs (48::120::r))] w (Zem w (Zex (48::120::r))):=by
 have h1:1<=r.length:=List.length_pos_iff.2 hr
 obtain ⟨n,hn⟩:∃ n,n=r.length+2:=⟨_,rfl⟩
 have hz:(bs (48::120::r)).size=n:=by rw [Zl,hn];rfl
 have hB:∀ k (h:k<(bs (48::120::r)).size),(48::120::r:Txt)[k]? = some ((bs (48::120::r))[k]'h):=fun k h=>List.getElem?_eq_getElem (by rw [Zl] at h;exact h)
 have h0b:0<(bs (48::120::r)).size:=by omega
 have h1b:1<(bs (48::120::r)).size:=by omega
 have e0:(((bs (48::120::r))[0]'h0b).toNat:Int)=48:=rfl
 have e1:(((bs (48::120::r))[1]'h1b).toNat:Int)=120:=rfl
 generalize bs (48::120::r)=T at *
 have NL:=Hq (Ymn hr)
 have hl2:2<(n:Int):=by omega
 have hl0:0<(n:Int):=by omega
 have hn9:(n:Int)<=70002:=by omega
 have HB:=Hq hB
 have HN:=Hq hn
 have HL:=Hq hs
 clear hB hn hs
 go_enter Tryz.func94,Tryz.ntmps94
 go_wp2
 go_loopw [6,7] (fun vu vi wr=>∃ (k acc:Nat) (a:Int),vi = .int .i64 k/\vu = .int .u64 a/\(2<=k/\k<=n/\Hid (HxI r k acc a))/\w=wr) (fun _ i _=>n - (intOf i).toNat)
 case atStart=>exact ⟨2,0,0,rfl,rfl,⟨by omega,by omega,Hq ⟨rfl,rfl⟩⟩,rfl⟩
 case round =>
  obtain ⟨k,acc,a,rfl,rfl,⟨hk2,hkn,hD⟩,hwr⟩:=hrel
  subst hwr
  have ha:=hD.out.v
  by_cases hlt:k<n
  · have hkb:k<T.size:=by omega
    have hq:=HB.out k hkb
    cases hx:Zhu (T[k]'hkb) with
    | none =>
      have RX:=Hq (show ∀ W,Calls Tryz.prog 128 #[.int .u8 ((T[k]'hkb).toNat:Int)] W fun e w'=>e = .returned (.int .i64 (-1))/\W=w' from fun W=>by
       have:=Zjn (T[k]'hkb) W
       rw [Zyb hx] at this
       exact this.mono fun e w' h=>⟨h.1,h.2.symm⟩)
      have HR:=Hq (show Zex (48::120::r)=none by
       have h0:Yz 0 r=none:=by
        rw [hD.out.at_]
        obtain ⟨q1,q2⟩:=List.getElem?_eq_some_iff.1 hq
        rw [List.drop_eq_getElem_cons q1,q2,Yz,hx]
       rw [NL.out,h0];split <;> rfl)
      clear hx hq ha
      go_wp2_with (go_at_call 128;refine (RX.out _).mono ?_;rintro e w9 ⟨rfl,rfl⟩)
      go_ret3
      rw [HR.out]
      exact ⟨⟨_,_,rfl⟩,rfl⟩
    | some d =>
      obtain ⟨hd1,hd2⟩:=Zya hx
      have RX:=Hq (show ∀ W,Calls Tryz.prog 128 #[.int .u8 ((T[k]'hkb).toNat:Int)] W fun e w'=>e = .returned (.int .i64 (d:Int))/\W=w' from fun W=>by
       have:=Zjn (T[k]'hkb) W
       rw [hd1] at this
       exact this.mono fun e w' h=>⟨h.1,h.2.symm⟩)
      have hd0:¬ (d:Int)<0:=by omega
      have hdi:(d:Int)<16:=by omega
      obtain ⟨b1,hb1⟩:∃ b,IntKind.u64.wrap (a*16)=b:=⟨_,rfl⟩
      obtain ⟨b2,hb2⟩:∃ b,IntKind.u64.wrap (b1+(d:Int))=b:=⟨_,rfl⟩
      have hb3:IntKind.u64.wrap (d:Int)=(d:Int):=IntWalk.u64_in _ (by omega)
      have NX:=Hq (show HxI r (k+1) (16*acc+d) b2 from ⟨by
       rw [<- hb2,<- hb1,IntKind.wrap_u64,IntKind.wrap_u64,ha];omega,hD.out.at_.trans (Zha hq hx)⟩)
      clear hx hq ha hd1
      go_wp2_with (go_at_call 128;refine (RX.out _).mono ?_;rintro e w9 ⟨rfl,rfl⟩)
      exact ⟨⟨k+1,_,_,by go_num,by go_num,⟨by omega,by omega,NX⟩,trivial⟩,by simp [intOf];omega⟩
  · have hkk:k=n:=by omega
    subst hkk
    have hacc:Yz 0 r=some acc:=by
     rw [hD.out.at_,List.drop_eq_nil_of_le (by rw [HN.out];exact Nat.le_refl _)];rfl
    by_cases h18:(k:Int)<=18
    · have h16:r.length<=16:=by have:=HN.out;omega
      have hlt2:acc<18446744073709551616:=by
       refine Nat.lt_of_lt_of_le (Ydk hacc) ?_
       have:=Nat.pow_le_pow_right (show 0<16 by decide) h16
       omega
      have hw:=Zyu acc hlt2
      have HR:=Hq (show Zex (48::120::r)=some (Zrq acc,false) by rw [NL.out,if_pos h16,hacc];rfl)
      rw [Nat.mod_eq_of_lt hlt2] at ha
      subst ha
      clear hacc h16 hlt2
      generalize Zrq acc=z at *
      go_wp2
      go_ret3
      rw [HR.out]
      exact ⟨rfl,rfl⟩
    · have h16:¬ r.length<=16:=by have:=HN.out;omega
      have HR:=Hq (show Zex (48::120::r)=none by rw [NL.out,if_neg h16])
      clear hacc h16 ha
      go_wp2
      go_ret3
      rw [HR.out]
      exact ⟨⟨_,_,rfl⟩,rfl⟩
theorem Zfp (t:Txt) (h0:t≠[]) (hs:t.length<=70000) (w:World):Calls Tryz.prog 94 #[.string (bs t)] w (Zem w (Zex t)):=by
 by_cases hx:[48,120].isPrefixOf t=true/\2<t.length
 · match t,hx,hs with
   | a::b::r,hx,hs =>
     obtain ⟨hp,hl⟩:=hx
     simp at hp
     obtain ⟨rfl,rfl⟩:=hp
     simp at hl
     refine Yle r ?_ (by simp at hs;omega) w
     rintro rfl
     simp at hl
 · by_cases hn:t.head? = some 45
   · match t,hn,hs with
     | a::m,hn,hs =>
       simp at hn
       subst hn
       exact Yld m (by simp at hs;omega) w
   · exact Ylf t hs h0 hn hx w
abbrev RPc:=Pc × Txt
def rpK (q:RPc):Int:=match q.1 with
 | .word _=>1
 | .num _ _=>2
 | .str _=>3
 | .colon=>4
def rpT (q:RPc):Txt:=match q.1 with
 | .word t=>t
 | .str t=>t
 | .num _ _=>q.2
 | .colon=>[]
def rpN (q:RPc):Int:=pcN q.1
def rpF (q:RPc):Bool:=match q.1 with
 | .num _ b=>b
 | _=>false
def rp4 (p:RPc):List Value:=[.int .i64 (rpK p),.string (bs (rpT p)),.int .i64 (rpN p),.bool (rpF p)]
def Zzg:List RPc->List Value
 | []=>[]
 | p::r=>rp4 p++Zzg r
theorem Zws (a b:List RPc):Zzg (a++b)=Zzg a++Zzg b:=by
 induction a with
 | nil=>rfl
 | cons p r ih=>simp [Zzg,ih]
theorem Zzf:∀ (l:List RPc) (i:Nat) (p:RPc),l[i]? = some p->(Zzg l)[i*4]? = some (.int .i64 (rpK p))/\(Zzg l)[i*4+1]? = some (.string (bs (rpT p)))/\(Zzg l)[i*4+2]? = some (.int .i64 (rpN p))/\(Zzg l)[i*4+3]? = some (.bool (rpF p))
 | [],i,p,h=>by simp at h
 | x::r,0,p,h=>by simp at h;subst h;simp [Zzg,rp4]
 | x::r,i+1,p,h=>by
   obtain ⟨h1,h2,h3,h4⟩:=Zzf r i p (by simpa using h)
   have e:(i+1)*4=i*4+4:=by omega
   rw [e]
   refine ⟨?_,?_,?_,?_⟩ <;> (simp only [Zzg,rp4,List.cons_append,List.nil_append]) <;> simpa using by assumption
def Ybk (w:World) (B:Nat) (p:Option Addr) (ps:List RPc):Prop:=0<ps.length->∃ b o:Nat,p=some ⟨b,o,none⟩/\b<B/\∀ i q,ps[i]? = some q ->
 w.cell? ⟨b,o+i*4,none⟩=some (.int .i64 (rpK q))/\w.cell? ⟨b,o+i*4+1,none⟩=some (.string (bs (rpT q)))/\w.cell? ⟨b,o+i*4+2,none⟩=some (.int .i64 (rpN q))/\w.cell? ⟨b,o+i*4+3,none⟩=some (.bool (rpF q))
theorem Zgp {w w':World} {row:Option Nat} {B:Nat} {p:Option Addr} {l:List RPc} (h:Ybk w B p l) (g:w.grownBy w' row) (hr:∀ r,row=some r->B<=r):Ybk w' B p l:=fun h0=>by
 obtain ⟨b,o,e,hb,hc⟩:=h h0
 refine ⟨b,o,e,hb,fun i q hi => ?_⟩
 obtain ⟨h1,h2,h3,h4⟩:=hc i q hi
 exact ⟨Xu g hr hb h1,Xu g hr hb h2,Xu g hr hb h3,Xu g hr hb h4⟩
def Ydv (w:World) (E:Nat) (v:Value) (ps:List RPc):Prop:=w.ownsRow E 139 4 v ps.length (Zzg ps)
theorem Zww {w:World} {E:Nat} {v:Value} {ps:List RPc} (h:Ydv w E v ps):∃ p c,v = .slice p ps.length c:=Zi h
theorem Zwt {w:World} {E:Nat} {p:Option Addr} {c:Nat} {ps:List RPc} (h:Ydv w E (.slice p ps.length c) ps):Ybk w w.heap.size p ps:=fun h0=>by
 obtain ⟨g,cap,hv,hg,hc⟩:=Zv h h0
 injection hv with h1 h2 h3
 subst h1
 refine ⟨g,0,rfl,hg,fun i q hi => ?_⟩
 obtain ⟨a0,a1,a2,a3⟩:=Zzf ps i q hi
 have hlt:i<ps.length:=(List.getElem?_eq_some_iff.1 hi).1
 rw [Nat.zero_add]
 exact ⟨hc _ _ a0 (by omega),hc _ _ a1 (by omega),hc _ _ a2 (by omega),hc _ _ a3 (by omega)⟩
theorem Zbs:Tryz.prog.underlying 135=some (.slice 139):=by kernel_rfl
theorem Zwv:(Tryz.prog.info? 139).map (fun i=>(i.zero,i.size,i.bytes))=some (some (.agg #[.int .i64 0,.string ⟨#[]⟩,.int .i64 0,.bool false]),4,40):=by kernel_rfl
theorem Zed (p:RPc):∀ u∈rp4 p,u.oneCell'=true:=by intro u hu;simp [rp4] at hu;rcases hu with rfl|rfl|rfl|rfl <;> rfl
def Ytw (w:World) (r:Option (List Pc)) (e:Ending) (w':World):Prop :=
 (match r with
   | some ps=>∃ rs:List RPc,rs.map (·.1)=ps/\(∀ q∈rs,(rpT q).length<=70000)/\∃ p c,e = .returned (.tuple #[.slice p rs.length c,.bool true])/\Ydv w' w.heap.size (.slice p rs.length c) rs
   | none=>e = .returned (.tuple #[.slice none 0 0,.bool false]))/\w.grownBy w' none
structure RpR (l0:Txt) (w wr:World) (v:Value) (last:Int) (k:Nat) (f:Nat) (rs:List RPc):Prop where
 at_:Zmj l0 f (last == 0 || last == 4) (l0.drop k) (rs.map (·.1))
 le:k<=l0.length
 row:Ydv wr w.heap.size v rs
 gr:w.grownBy wr none
 len:rs.length<=k
 txt:∀ q∈rs,(rpT q).length<=70000
theorem Zdk {l0:Txt} {w wr w2:World} {v:Value} {last:Int} {k f:Nat} {rs:List RPc} (h:RpR l0 w wr v last k f rs) (g:wr.grownBy w2 none):RpR l0 w w2 v last k f rs :=
 ⟨h.at_,h.le,h.row.kept g (Yw h.row),Za h.gr g,h.len,h.txt⟩
theorem Zec {l0:Txt} {w wr w2:World} {v v2:Value} {last last2:Int} {k k2 f f2:Nat} {rs:List RPc} {q:RPc} (h:RpR l0 w wr v last k f rs)
 (h2:Zmj l0 f2 (last2 == 0 || last2 == 4) (l0.drop k2) (rs.map (·.1)++[q.1])) (hk:k<k2) (hk2:k2<=l0.length) (ht:(rpT q).length<=70000)
 (ho:w2.ownsRow w.heap.size 139 4 v2 (rs.length+1) (Zzg rs++rp4 q)) (g:wr.grownBy w2 v.ownBlock):RpR l0 w w2 v2 last2 k2 f2 (rs++[q]):=by
 have hlen:=h.len
 refine ⟨by rw [List.map_append];exact h2,hk2,?_,Zej h.gr g (fun b hb=>(World.ownsRow.lt h.row b hb).1),by simp;omega,?_⟩
 · unfold Ydv
   rw [Zws,List.length_append]
   simpa [Zzg] using ho
 · intro x hx
   rcases List.mem_append.1 hx with hx|hx
   · exact h.txt x hx
   · simp at hx;subst hx;exact ht
end Go.Proofs.YteciblfmgdlipaaGreatDoor.AS
