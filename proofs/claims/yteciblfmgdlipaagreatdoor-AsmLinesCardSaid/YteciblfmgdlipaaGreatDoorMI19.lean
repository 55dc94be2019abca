/-
  Part of a proof: contracts of functions and lemmas, each stated by its own theorem. Conditions: as each theorem states.
-/
import Derived.Test.YteciblfmgdlipaaGreatDoorMI18
import Derived.Test.YteciblfmgdlipaaGreatDoorMI10
set_option linter.unusedSimpArgs false
set_option linter.unusedVariables false
set_option maxRecDepth 100000
set_option maxHeartbeats 16000000
namespace Go.Proofs.YteciblfmgdlipaaGreatDoor.AS
open Go.RowKit Go.Great CK
theorem Yid {x:LnF} {q:RPc} {r:List RPc} (h:rpK q≠1):Ypk x (q::r)=none:=by
 obtain ⟨q,z⟩:=q
 cases q with
 | word t=>exact absurd rfl h
 | num n b=>rfl
 | str t=>rfl
 | colon=>rfl
theorem Znc {q:RPc} (h:rpK q=1):∃ t z,q=(.word t,z):=by
 obtain ⟨q,z⟩:=q
 cases q with
 | word t=>exact ⟨t,z,rfl⟩
 | num n b=>exact absurd (show (2:Int)=1 from h) (by decide)
 | str t=>exact absurd (show (3:Int)=1 from h) (by decide)
 | colon=>exact absurd (show (4:Int)=1 from h) (by decide)
theorem Zui {q:RPc} (h:rpK q=2):∃ n b z,q=(.num n b,z):=by
 obtain ⟨q,z⟩:=q
 cases q with
 | word t=>exact absurd (show (1:Int)=2 from h) (by decide)
 | num n b=>exact ⟨n,b,z,rfl⟩
 | str t=>exact absurd (show (3:Int)=2 from h) (by decide)
 | colon=>exact absurd (show (4:Int)=2 from h) (by decide)
theorem Zrx (x:LnF) (ps:List RPc) (B:Nat) (p:Option Addr) (c:Nat) (w:World) (h:Ybk w B p ps) (hB:B<=w.heap.size) (hn:ps.length<=100000) (hc:ps.length<=c) (hc9:c<=maxLen) :
 Calls Tryz.prog 62 #[lnA x,.slice p ps.length c] w (Zyr w (Ypk x ps)):=by
 obtain ⟨L,hL⟩:∃ L,ps.length=L:=⟨_,rfl⟩
 obtain ⟨r,hr⟩:∃ r,Ypk x ps=r:=⟨_,rfl⟩
 have HF:=Hq hr
 have HPL:=Hq hL
 rw [hL] at hn hc ⊢
 rw [hr]
 clear hL hr
 go_enter Tryz.func62,Tryz.ntmps62
 go_upto_region 1 with fail
 have IW:=Hq (Ydg w B p ps (.int .i64 x.kind) (.slice x.lp x.ln x.lc) (.string (bs x.name)) (.int .i64 x.n0) (.int .i64 x.n1) (.int .i64 x.n2) (.string (bs x.data)) (.int .i64 x.op) (.int .i64 x.a) (.string (bs x.word)) (.bool x.big) h hB)
 generalize (w.alloc (.cells #[.int .i64 x.kind,.slice x.lp x.ln x.lc,.string (bs x.name),.int .i64 x.n0,.int .i64 x.n1,.int .i64 x.n2,.string (bs x.data),.int .i64 x.op,.int .i64 x.a,.string (bs x.word),.bool x.big] 86 (0,0))).alloc (.cells #[.int .i64 0,.slice none 0 0,.string ⟨#[]⟩,.int .i64 0,.int .i64 0,.int .i64 0,.string ⟨#[]⟩,.int .i64 0,.int .i64 0,.string ⟨#[]⟩,.bool false] 86 (0,0))=W0 at IW ⊢
 generalize w.heap.size+1=b4 at IW ⊢
 generalize w.heap.size=b2 at IW ⊢
 clear h hB
 obtain ⟨c0,c1,c2,c3,c4,c5,c6,c7,c8,c9,c10,fz,lt2⟩:=Zr IW.out.bx
 obtain ⟨z0,z1,z2,z3,z4,z5,z6,z7,z8,z9,z10,gz,lt4⟩:=Zr IW.out.bz
 have f7:=fz 7
 have f8:=fz 8
 have f9:=fz 9
 have g0:=gz 0
 have g1:=gz 1
 have g2:=gz 2
 have g3:=gz 3
 have g4:=gz 4
 have g5:=gz 5
 have g6:=gz 6
 have g7:=gz 7
 have g8:=gz 8
 have g9:=gz 9
 have g10:=gz 10
 go_upto_region 2 with fail
 have IW:Hid (Yjx w (W0.setCell ⟨b2,7,none⟩ (.int .i64 (-1))) b2 b4 B p ps (.int .i64 x.kind) (.slice x.lp x.ln x.lc) (.string (bs x.name)) (.int .i64 x.n0) (.int .i64 x.n1) (.int .i64 x.n2) (.string (bs x.data)) (.int .i64 (-1)) (.int .i64 x.a) (.string (bs x.word)) (.bool x.big)):=Hq (Zeh IW.out rfl)
 generalize W0.setCell ⟨b2,7,none⟩ (.int .i64 (-1))=W1 at IW ⊢
 clear c0 c1 c2 c3 c4 c5 c6 c7 c8 c9 c10 fz lt2 z0 z1 z2 z3 z4 z5 z6 z7 z8 z9 z10 gz lt4 f7 f8 f9 g0 g1 g2 g3 g4 g5 g6 g7 g8 g9 g10
 obtain ⟨c0,c1,c2,c3,c4,c5,c6,c7,c8,c9,c10,fz,lt2⟩:=Zr IW.out.bx
 obtain ⟨z0,z1,z2,z3,z4,z5,z6,z7,z8,z9,z10,gz,lt4⟩:=Zr IW.out.bz
 have f7:=fz 7
 have f8:=fz 8
 have f9:=fz 9
 have g0:=gz 0
 have g1:=gz 1
 have g2:=gz 2
 have g3:=gz 3
 have g4:=gz 4
 have g5:=gz 5
 have g6:=gz 6
 have g7:=gz 7
 have g8:=gz 8
 have g9:=gz 9
 have g10:=gz 10
 by_cases h0:L=0
 · have h0i:((L:Int) == 0)=true:=by simp;omega
   have HR:=Hq (show r=some { x with op := -1 } by
    have:ps=[]:=List.eq_nil_of_length_eq_zero (HPL.out.trans h0)
    rw [<- HF.out,this];rfl)
   clear h0
   go_wp2
   refine bodyPost_ret (Xq rfl rfl rfl (Yy IW.out.bz)) rfl ?_
   exact Zdq HR.out rfl (Zp IW.out.gr IW.out.h4)
 have h0i:((L:Int) == 0)=false:=by simp;omega
 obtain ⟨q0,rest,hps⟩:∃ q0 rest,ps=q0::rest:=by
  cases ps with
  | nil=>exact absurd HPL.out.symm h0
  | cons a r=>exact ⟨a,r,rfl⟩
 have HPS:=Hq hps
 have hrl:rest.length+1=L:=by rw [<- HPL.out,hps];rfl
 obtain ⟨b,o,hpb,hbB,d0,d1,d2,d3⟩:=Zag IW.out.pc (i:=0) (q:=q0) (by rw [hps];rfl)
 subst hpb
 simp only [Nat.zero_mul,Nat.add_zero] at d0 d1 d2 d3
 have PC:=Hq hps
 clear hps h0
 by_cases hk1:rpK q0=1
 · obtain ⟨t,z,hq⟩:=Znc hk1
   rw [hk1] at d0
   have ht:bs (rpT q0)=bs t:=by rw [hq];rfl
   rw [ht] at d1
   clear ht hk1 d2 d3
   cases hpl:Xb shapeT t with
   | none =>
     have NM:=Hq (show ∀ W,Calls Tryz.prog 96 #[.string (bs t)] W fun e w'=>e = .returned (.tuple #[.int .i64 0,.bool false])/\W=w' from fun W=>by
      have:=Zkt (bs t) W
      rw [Jk,hpl] at this
      exact this)
     have HR:=Hq (show r=none by rw [<- HF.out,HPS.out,hq];unfold Ypk;simp only [hpl])
     clear hpl hq
     go_wp2_with (go_at_call 96;refine (NM.out _).mono ?_;rintro e w9 ⟨rfl,rfl⟩)
     refine bodyPost_ret (Xq rfl rfl rfl (Yy IW.out.bz)) rfl ?_
     exact Zcr ({ x with op := -1 }) HR.out rfl (Zp IW.out.gr IW.out.h4)
   | some n =>
     have NM:=Hq (show ∀ W,Calls Tryz.prog 96 #[.string (bs t)] W fun e w'=>e = .returned (.tuple #[.int .i64 n,.bool true])/\W=w' from fun W=>by
      have:=Zkt (bs t) W
      rw [Jk,hpl] at this
      exact this)
     have OPR:=Hq (Zgq (n:Int))
     obtain ⟨kd,hkd⟩:∃ kd,Zai (n:Int)=kd:=⟨_,rfl⟩
     have HG:=Hq (show r=Yan x n kd rest by rw [<- HF.out,HPS.out,hq];unfold Ypk;simp only [hpl,hkd])
     rw [hkd] at OPR
     clear hkd hpl hq
     go_upto_region 8 with (go_at_call 96;refine (NM.out _).mono ?_;rintro e w9 ⟨rfl,rfl⟩)
     have IW:Hid (Yjx w (W1.setCell ⟨b2,7,none⟩ (.int .i64 n)) b2 b4 B (some ⟨b,o,none⟩) ps (.int .i64 x.kind) (.slice x.lp x.ln x.lc) (.string (bs x.name)) (.int .i64 x.n0) (.int .i64 x.n1) (.int .i64 x.n2) (.string (bs x.data)) (.int .i64 n) (.int .i64 x.a) (.string (bs x.word)) (.bool x.big)):=Hq (Zeh IW.out rfl)
     generalize W1.setCell ⟨b2,7,none⟩ (.int .i64 n)=W2 at IW ⊢
     clear c0 c1 c2 c3 c4 c5 c6 c7 c8 c9 c10 fz lt2 z0 z1 z2 z3 z4 z5 z6 z7 z8 z9 z10 gz lt4 f7 f8 f9 g0 g1 g2 g3 g4 g5 g6 g7 g8 g9 g10
     obtain ⟨c0,c1,c2,c3,c4,c5,c6,c7,c8,c9,c10,fz,lt2⟩:=Zr IW.out.bx
     obtain ⟨z0,z1,z2,z3,z4,z5,z6,z7,z8,z9,z10,gz,lt4⟩:=Zr IW.out.bz
     have f7:=fz 7
     have f8:=fz 8
     have f9:=fz 9
     have g0:=gz 0
     have g1:=gz 1
     have g2:=gz 2
     have g3:=gz 3
     have g4:=gz 4
     have g5:=gz 5
     have g6:=gz 6
     have g7:=gz 7
     have g8:=gz 8
     have g9:=gz 9
     have g10:=gz 10
     have hsl:1<=L:=by omega
     have hl1:((L - 1:Nat):Int)=(L:Int) - 1:=by omega
     by_cases hk0:kd=0
     · have hk0i:(kd == 0)=true:=by simpa using hk0
       by_cases hr0:rest.length=0
       · have hr0i:((L:Int) - 1 == 0)=true:=by simp;omega
         have HR:=Hq (show r=some { x with op:=n } by rw [HG.out,List.eq_nil_of_length_eq_zero hr0];unfold Yan;rw [if_pos hk0])
         clear hk0 hr0
         go_wp2_with (go_at_call 46;refine (OPR.out _).mono ?_;rintro e w9 ⟨rfl,rfl⟩)
         all_goals (
          refine bodyPost_ret (Xq rfl rfl rfl (Yy IW.out.bz)) rfl ?_
          exact Zdq HR.out rfl (Zp IW.out.gr IW.out.h4))
       · have hr0i:((L:Int) - 1 == 0)=false:=by simp;omega
         have HR:=Hq (show r=none by
          rw [HG.out];unfold Yan;rw [if_pos hk0]
          cases rest with
          | nil=>exact absurd rfl hr0
          | cons a r=>rfl)
         clear hk0 hr0
         go_wp2_with (go_at_call 46;refine (OPR.out _).mono ?_;rintro e w9 ⟨rfl,rfl⟩)
         all_goals (
          refine bodyPost_ret (Xq rfl rfl rfl (Yy IW.out.bz)) rfl ?_
          exact Zcr ({ x with op:=n }) HR.out rfl (Zp IW.out.gr IW.out.h4))
     · have hk0i:(kd == 0)=false:=by simpa using hk0
       have HK0:=Hq hk0
       clear hk0
       by_cases hr1:rest.length=1
       · have hr1i:((L:Int) - 1 != 1)=false:=by simp;omega
         obtain ⟨q1,hq1⟩:∃ q1,rest=[q1]:=by
          match rest,hr1 with
          | [a],_=>exact ⟨a,rfl⟩
         obtain ⟨b',o',hpb',hbB',y0,y1,y2,y3⟩:=Zag IW.out.pc (i:=1) (q:=q1) (by rw [PC.out,hq1];rfl)
         injection hpb' with hpb'
         injection hpb' with hb1 ho1 _
         subst hb1 ho1
         simp only [Nat.one_mul] at y0 y1 y2 y3
         have hcc:2<=c:=by omega
         have hL2:(0:Int)<(L:Int) - 1:=by omega
         have hL3:(1:Int)<(L:Int):=by omega
         have HQ:=Hq hq1
         clear hr1 hq1 d0 d1 hbB' y3
         by_cases h2:rpK q1=2
         · obtain ⟨v,bg,zz,hqv⟩:=Zui h2
           have hvi:rpN q1=v:=by rw [hqv];rfl
           rw [h2] at y0
           rw [hvi] at y2
           have HR:=Hq (show r=some { x with op:=n,a:=v } by rw [HG.out,HQ.out,hqv];unfold Yan;rw [if_neg HK0.out])
           clear h2 hqv hvi y1
           go_upto_region 16 with (go_at_call 46;refine (OPR.out _).mono ?_;rintro e w9 ⟨rfl,rfl⟩)
           all_goals first|(exfalso;omega)|skip
           have IW:Hid (Yjx w (W2.setCell ⟨b2,8,none⟩ (.int .i64 v)) b2 b4 B (some ⟨b,o,none⟩) ps (.int .i64 x.kind) (.slice x.lp x.ln x.lc) (.string (bs x.name)) (.int .i64 x.n0) (.int .i64 x.n1) (.int .i64 x.n2) (.string (bs x.data)) (.int .i64 n) (.int .i64 v) (.string (bs x.word)) (.bool x.big)):=Hq (Zeh IW.out rfl)
           generalize W2.setCell ⟨b2,8,none⟩ (.int .i64 v)=W3 at IW ⊢
           clear c0 c1 c2 c3 c4 c5 c6 c7 c8 c9 c10 fz lt2 z0 z1 z2 z3 z4 z5 z6 z7 z8 z9 z10 gz lt4 f7 f8 f9 g0 g1 g2 g3 g4 g5 g6 g7 g8 g9 g10
           obtain ⟨c0,c1,c2,c3,c4,c5,c6,c7,c8,c9,c10,fz,lt2⟩:=Zr IW.out.bx
           obtain ⟨z0,z1,z2,z3,z4,z5,z6,z7,z8,z9,z10,gz,lt4⟩:=Zr IW.out.bz
           have f7:=fz 7
           have f8:=fz 8
           have f9:=fz 9
           have g0:=gz 0
           have g1:=gz 1
           have g2:=gz 2
           have g3:=gz 3
           have g4:=gz 4
           have g5:=gz 5
           have g6:=gz 6
           have g7:=gz 7
           have g8:=gz 8
           have g9:=gz 9
           have g10:=gz 10
           go_wp2
           refine bodyPost_ret (Xq rfl rfl rfl (Yy IW.out.bz)) rfl ?_
           exact Zdq HR.out rfl (Zp IW.out.gr IW.out.h4)
         · have h2i:(rpK q1 == 2)=false:=by simpa using h2
           by_cases h1:rpK q1=1
           · obtain ⟨s,zz,hqv⟩:=Znc h1
             have hti:bs (rpT q1)=bs s:=by rw [hqv];rfl
             rw [h1] at y0
             rw [hti] at y1
             clear h2 h1 h2i hti y2
             by_cases h5:kd=5
             · have h5i:(kd == 5)=true:=by simpa using h5
               cases hpl:Xb callT s with
               | none =>
                 have SY:=Hq (show ∀ W,Calls Tryz.prog 97 #[.string (bs s)] W fun e w'=>e = .returned (.tuple #[.int .i64 0,.bool false])/\W=w' from fun W=>by
                  have:=Zjm (bs s) W
                  rw [Jk,hpl] at this
                  exact this)
                 have HR:=Hq (show r=none by rw [HG.out,HQ.out,hqv];unfold Yan;rw [if_neg HK0.out];simp only [];rw [if_pos h5,hpl])
                 clear hpl hqv h5
                 go_upto_region 22 with (first|(go_at_call 46;refine (OPR.out _).mono ?_;rintro e w9 ⟨rfl,rfl⟩)|(go_at_call 97;refine (SY.out _).mono ?_;rintro e w9 ⟨rfl,rfl⟩))
                 all_goals first|(exfalso;omega)|skip
                 have IW:Hid (Yjx w (W2.setCell ⟨b2,8,none⟩ (.int .i64 0)) b2 b4 B (some ⟨b,o,none⟩) ps (.int .i64 x.kind) (.slice x.lp x.ln x.lc) (.string (bs x.name)) (.int .i64 x.n0) (.int .i64 x.n1) (.int .i64 x.n2) (.string (bs x.data)) (.int .i64 n) (.int .i64 0) (.string (bs x.word)) (.bool x.big)):=Hq (Zeh IW.out rfl)
                 generalize W2.setCell ⟨b2,8,none⟩ (.int .i64 0)=W3 at IW ⊢
                 clear c0 c1 c2 c3 c4 c5 c6 c7 c8 c9 c10 fz lt2 z0 z1 z2 z3 z4 z5 z6 z7 z8 z9 z10 gz lt4 f7 f8 f9 g0 g1 g2 g3 g4 g5 g6 g7 g8 g9 g10
                 obtain ⟨c0,c1,c2,c3,c4,c5,c6,c7,c8,c9,c10,fz,lt2⟩:=Zr IW.out.bx
                 obtain ⟨z0,z1,z2,z3,z4,z5,z6,z7,z8,z9,z10,gz,lt4⟩:=Zr IW.out.bz
                 have f7:=fz 7
                 have f8:=fz 8
                 have f9:=fz 9
                 have g0:=gz 0
                 have g1:=gz 1
                 have g2:=gz 2
                 have g3:=gz 3
                 have g4:=gz 4
                 have g5:=gz 5
                 have g6:=gz 6
                 have g7:=gz 7
                 have g8:=gz 8
                 have g9:=gz 9
                 have g10:=gz 10
                 go_wp2
                 refine bodyPost_ret (Xq rfl rfl rfl (Yy IW.out.bz)) rfl ?_
                 exact Zcr ({ x with op:=n,a:=0 }) HR.out rfl (Zp IW.out.gr IW.out.h4)
               | some cn =>
                 have SY:=Hq (show ∀ W,Calls Tryz.prog 97 #[.string (bs s)] W fun e w'=>e = .returned (.tuple #[.int .i64 cn,.bool true])/\W=w' from fun W=>by
                  have:=Zjm (bs s) W
                  rw [Jk,hpl] at this
                  exact this)
                 have HR:=Hq (show r=some { x with op:=n,a:=cn } by rw [HG.out,HQ.out,hqv];unfold Yan;rw [if_neg HK0.out];simp only [];rw [if_pos h5,hpl])
                 clear hpl hqv h5
                 go_upto_region 22 with (first|(go_at_call 46;refine (OPR.out _).mono ?_;rintro e w9 ⟨rfl,rfl⟩)|(go_at_call 97;refine (SY.out _).mono ?_;rintro e w9 ⟨rfl,rfl⟩))
                 all_goals first|(exfalso;omega)|skip
                 have IW:Hid (Yjx w (W2.setCell ⟨b2,8,none⟩ (.int .i64 cn)) b2 b4 B (some ⟨b,o,none⟩) ps (.int .i64 x.kind) (.slice x.lp x.ln x.lc) (.string (bs x.name)) (.int .i64 x.n0) (.int .i64 x.n1) (.int .i64 x.n2) (.string (bs x.data)) (.int .i64 n) (.int .i64 cn) (.string (bs x.word)) (.bool x.big)):=Hq (Zeh IW.out rfl)
                 generalize W2.setCell ⟨b2,8,none⟩ (.int .i64 cn)=W3 at IW ⊢
                 clear c0 c1 c2 c3 c4 c5 c6 c7 c8 c9 c10 fz lt2 z0 z1 z2 z3 z4 z5 z6 z7 z8 z9 z10 gz lt4 f7 f8 f9 g0 g1 g2 g3 g4 g5 g6 g7 g8 g9 g10
                 obtain ⟨c0,c1,c2,c3,c4,c5,c6,c7,c8,c9,c10,fz,lt2⟩:=Zr IW.out.bx
                 obtain ⟨z0,z1,z2,z3,z4,z5,z6,z7,z8,z9,z10,gz,lt4⟩:=Zr IW.out.bz
                 have f7:=fz 7
                 have f8:=fz 8
                 have f9:=fz 9
                 have g0:=gz 0
                 have g1:=gz 1
                 have g2:=gz 2
                 have g3:=gz 3
                 have g4:=gz 4
                 have g5:=gz 5
                 have g6:=gz 6
                 have g7:=gz 7
                 have g8:=gz 8
                 have g9:=gz 9
                 have g10:=gz 10
                 go_wp2
                 refine bodyPost_ret (Xq rfl rfl rfl (Yy IW.out.bz)) rfl ?_
                 exact Zdq HR.out rfl (Zp IW.out.gr IW.out.h4)
             · have h5i:(kd == 5)=false:=by simpa using h5
               by_cases h3:kd=3
               · have h3i:(kd == 3)=true:=by simpa using h3
                 have HR:=Hq (show r=some { x with op:=n,word:=s } by rw [HG.out,HQ.out,hqv];unfold Yan;rw [if_neg HK0.out];simp only [];rw [if_neg h5,if_pos (Or.inl h3)])
                 clear hqv h5 h3
                 go_upto_region 24 with (go_at_call 46;refine (OPR.out _).mono ?_;rintro e w9 ⟨rfl,rfl⟩)
                 all_goals first|(exfalso;omega)|skip
                 have IW:Hid (Yjx w (W2.setCell ⟨b2,9,none⟩ (.string (bs s))) b2 b4 B (some ⟨b,o,none⟩) ps (.int .i64 x.kind) (.slice x.lp x.ln x.lc) (.string (bs x.name)) (.int .i64 x.n0) (.int .i64 x.n1) (.int .i64 x.n2) (.string (bs x.data)) (.int .i64 n) (.int .i64 x.a) (.string (bs s)) (.bool x.big)):=Hq (Zeh IW.out rfl)
                 generalize W2.setCell ⟨b2,9,none⟩ (.string (bs s))=W3 at IW ⊢
                 clear c0 c1 c2 c3 c4 c5 c6 c7 c8 c9 c10 fz lt2 z0 z1 z2 z3 z4 z5 z6 z7 z8 z9 z10 gz lt4 f7 f8 f9 g0 g1 g2 g3 g4 g5 g6 g7 g8 g9 g10
                 obtain ⟨c0,c1,c2,c3,c4,c5,c6,c7,c8,c9,c10,fz,lt2⟩:=Zr IW.out.bx
                 obtain ⟨z0,z1,z2,z3,z4,z5,z6,z7,z8,z9,z10,gz,lt4⟩:=Zr IW.out.bz
                 have f7:=fz 7
                 have f8:=fz 8
                 have f9:=fz 9
                 have g0:=gz 0
                 have g1:=gz 1
                 have g2:=gz 2
                 have g3:=gz 3
                 have g4:=gz 4
                 have g5:=gz 5
                 have g6:=gz 6
                 have g7:=gz 7
                 have g8:=gz 8
                 have g9:=gz 9
                 have g10:=gz 10
                 go_wp2
                 refine bodyPost_ret (Xq rfl rfl rfl (Yy IW.out.bz)) rfl ?_
                 exact Zdq HR.out rfl (Zp IW.out.gr IW.out.h4)
               · have h3i:(kd == 3)=false:=by simpa using h3
                 by_cases h4:kd=4
                 · have h4i:(kd == 4)=true:=by simpa using h4
                   have HR:=Hq (show r=some { x with op:=n,word:=s } by rw [HG.out,HQ.out,hqv];unfold Yan;rw [if_neg HK0.out];simp only [];rw [if_neg h5,if_pos (Or.inr h4)])
                   clear hqv h5 h3 h4
                   go_upto_region 24 with (go_at_call 46;refine (OPR.out _).mono ?_;rintro e w9 ⟨rfl,rfl⟩)
                   all_goals first|(exfalso;omega)|skip
                   have IW:Hid (Yjx w (W2.setCell ⟨b2,9,none⟩ (.string (bs s))) b2 b4 B (some ⟨b,o,none⟩) ps (.int .i64 x.kind) (.slice x.lp x.ln x.lc) (.string (bs x.name)) (.int .i64 x.n0) (.int .i64 x.n1) (.int .i64 x.n2) (.string (bs x.data)) (.int .i64 n) (.int .i64 x.a) (.string (bs s)) (.bool x.big)):=Hq (Zeh IW.out rfl)
                   generalize W2.setCell ⟨b2,9,none⟩ (.string (bs s))=W3 at IW ⊢
                   clear c0 c1 c2 c3 c4 c5 c6 c7 c8 c9 c10 fz lt2 z0 z1 z2 z3 z4 z5 z6 z7 z8 z9 z10 gz lt4 f7 f8 f9 g0 g1 g2 g3 g4 g5 g6 g7 g8 g9 g10
                   obtain ⟨c0,c1,c2,c3,c4,c5,c6,c7,c8,c9,c10,fz,lt2⟩:=Zr IW.out.bx
                   obtain ⟨z0,z1,z2,z3,z4,z5,z6,z7,z8,z9,z10,gz,lt4⟩:=Zr IW.out.bz
                   have f7:=fz 7
                   have f8:=fz 8
                   have f9:=fz 9
                   have g0:=gz 0
                   have g1:=gz 1
                   have g2:=gz 2
                   have g3:=gz 3
                   have g4:=gz 4
                   have g5:=gz 5
                   have g6:=gz 6
                   have g7:=gz 7
                   have g8:=gz 8
                   have g9:=gz 9
                   have g10:=gz 10
                   go_wp2
                   refine bodyPost_ret (Xq rfl rfl rfl (Yy IW.out.bz)) rfl ?_
                   exact Zdq HR.out rfl (Zp IW.out.gr IW.out.h4)
                 · have h4i:(kd == 4)=false:=by simpa using h4
                   have HR:=Hq (show r=none by rw [HG.out,HQ.out,hqv];unfold Yan;rw [if_neg HK0.out];simp only [];rw [if_neg h5,if_neg (by omega)])
                   clear hqv h5 h3 h4
                   go_upto_region 24 with (go_at_call 46;refine (OPR.out _).mono ?_;rintro e w9 ⟨rfl,rfl⟩)
                   all_goals first|(exfalso;omega)|skip
                   have IW:Hid (Yjx w (W2.setCell ⟨b2,9,none⟩ (.string (bs s))) b2 b4 B (some ⟨b,o,none⟩) ps (.int .i64 x.kind) (.slice x.lp x.ln x.lc) (.string (bs x.name)) (.int .i64 x.n0) (.int .i64 x.n1) (.int .i64 x.n2) (.string (bs x.data)) (.int .i64 n) (.int .i64 x.a) (.string (bs s)) (.bool x.big)):=Hq (Zeh IW.out rfl)
                   generalize W2.setCell ⟨b2,9,none⟩ (.string (bs s))=W3 at IW ⊢
                   clear c0 c1 c2 c3 c4 c5 c6 c7 c8 c9 c10 fz lt2 z0 z1 z2 z3 z4 z5 z6 z7 z8 z9 z10 gz lt4 f7 f8 f9 g0 g1 g2 g3 g4 g5 g6 g7 g8 g9 g10
                   obtain ⟨c0,c1,c2,c3,c4,c5,c6,c7,c8,c9,c10,fz,lt2⟩:=Zr IW.out.bx
                   obtain ⟨z0,z1,z2,z3,z4,z5,z6,z7,z8,z9,z10,gz,lt4⟩:=Zr IW.out.bz
                   have f7:=fz 7
                   have f8:=fz 8
                   have f9:=fz 9
                   have g0:=gz 0
                   have g1:=gz 1
                   have g2:=gz 2
                   have g3:=gz 3
                   have g4:=gz 4
                   have g5:=gz 5
                   have g6:=gz 6
                   have g7:=gz 7
                   have g8:=gz 8
                   have g9:=gz 9
                   have g10:=gz 10
                   go_wp2
                   refine bodyPost_ret (Xq rfl rfl rfl (Yy IW.out.bz)) rfl ?_
                   exact Zcr ({ x with op:=n,word:=s }) HR.out rfl (Zp IW.out.gr IW.out.h4)
           · have h1i:(rpK q1 != 1)=true:=by simpa using h1
             have HR:=Hq (show r=none by
              rw [HG.out,HQ.out];unfold Yan;rw [if_neg HK0.out]
              obtain ⟨qa,zz⟩:=q1
              cases qa with
              | word t=>exact absurd rfl h1
              | num n b=>exact absurd rfl h2
              | str t=>rfl
              | colon=>rfl)
             clear h1 h2 y1 y2
             go_wp2_with (go_at_call 46;refine (OPR.out _).mono ?_;rintro e w9 ⟨rfl,rfl⟩)
             all_goals first|(exfalso;omega)|skip
             refine bodyPost_ret (Xq rfl rfl rfl (Yy IW.out.bz)) rfl ?_
             exact Zcr ({ x with op:=n }) HR.out rfl (Zp IW.out.gr IW.out.h4)
       · have hr1i:((L:Int) - 1 != 1)=true:=by simp;omega
         have HR:=Hq (show r=none by
          rw [HG.out];unfold Yan;rw [if_neg HK0.out]
          match rest,hr1 with
          | [],_=>rfl
          | [a],h=>exact absurd rfl h
          | (.word _,_)::_::_,_=>rfl
          | (.num _ _,_)::_::_,_=>rfl
          | (.str _,_)::_::_,_=>rfl
          | (.colon,_)::_::_,_=>rfl)
         clear hr1
         go_wp2_with (go_at_call 46;refine (OPR.out _).mono ?_;rintro e w9 ⟨rfl,rfl⟩)
         all_goals (
          refine bodyPost_ret (Xq rfl rfl rfl (Yy IW.out.bz)) rfl ?_
          exact Zcr ({ x with op:=n }) HR.out rfl (Zp IW.out.gr IW.out.h4))
 · have hk1i:(rpK q0 != 1)=true:=by simpa using hk1
   have HR:=Hq (show r=none by rw [<- HF.out,HPS.out];exact Yid hk1)
   obtain ⟨i,ok,hv⟩:∃ i ok,Zgd (Xb shapeT (bs (rpT q0)).toList) = .tuple #[.int .i64 i,.bool ok]:=by
    cases Xb shapeT (bs (rpT q0)).toList with
    | none=>exact ⟨_,_,rfl⟩
    | some x=>exact ⟨_,_,rfl⟩
   have NM:=Hq (Zkt (bs (rpT q0)))
   rw [hv] at NM
   clear hv hk1
   go_wp2_with (go_at_call 96;refine (NM.out _).mono ?_;rintro e w9 ⟨rfl,rfl⟩)
   refine bodyPost_ret (Xq rfl rfl rfl (Yy IW.out.bz)) rfl ?_
   exact Zcr ({ x with op := -1 }) HR.out rfl (Zp IW.out.gr IW.out.h4)
def Zhc (rs:List RPc):List Pc:=rs.map (·.1)
def sdL:Sd->List Txt
 | .code lb _=>lb
 | _=>[]
def sdF (sd:Sd) (lp:Option Addr) (lc:Nat) (big:Bool):LnF:=match sd with
 | .nothing=>⟨0,none,0,0,[],0,0,0,[],0,0,[],big⟩
 | .mem n=>⟨1,none,0,0,[],n,0,0,[],0,0,[],big⟩
 | .data t=>⟨2,none,0,0,[],0,0,0,t,0,0,[],big⟩
 | .fn nm a l r=>⟨3,none,0,0,nm,a,l,r,[],0,0,[],big⟩
 | .code lb none=>⟨4,lp,lb.length,lc,[],0,0,0,[],-1,0,[],big⟩
 | .code lb (some (n,a,w))=>⟨4,lp,lb.length,lc,[],0,0,0,[],n,a,w.getD [],big⟩
def Yue (v:Value):Prop:=∃ (k:Int) (p:Option Addr) (n c:Nat) (t1:ByteArray) (n0 n1 n2:Int) (t2:ByteArray) (o a:Int) (t3:ByteArray) (b:Bool),v = .agg #[.int .i64 k,.slice p n c,.string t1,.int .i64 n0,.int .i64 n1,.int .i64 n2,.string t2,.int .i64 o,.int .i64 a,.string t3,.bool b]
def Ybj (w:World) (r:Option (Sd × Bool)) (e:Ending) (w':World):Prop :=
 (match r with
   | some (sd,big)=>∃ lp lc,e = .returned (.tuple #[lnA (sdF sd lp lc big),.bool true])/\Zih w' w.heap.size (.slice lp (sdL sd).length lc) (sdL sd)
   | none=>∃ v,Yue v/\e = .returned (.tuple #[v,.bool false]))/\w.grownBy w' none
def Znn (t:Txt):Option (Sd × Bool):=match Zpm t with
 | none=>none
 | some ps=>(Zdj TT ps).map fun sd=>(sd,Ziz ps)
theorem Yhv {t:Txt} {n:Nat} (h:Xb shapeT t=some n):TT.kind (n:Int)=Zai (n:Int):=by
 unfold Xb at h
 have hn:n<46:=by
  have:=(List.findIdx?_eq_some_iff_getElem.1 h).1
  rw [Zbm] at this
  exact this
 obtain ⟨n',x,e,hn',h1,h2⟩:=Zcx (op:=(n:Int)) ⟨by omega,by omega⟩
 have:n=n':=by omega
 subst this
 show Zir _=_
 unfold Zir Zai
 rw [h2,Int.toNat_natCast,h1];rfl
theorem Zth (t:Txt):TT.named t=(Xb shapeT t).map fun n=>(n:Int):=rfl
theorem Zwh (t:Txt):TT.sys t=(Xb callT t).map fun n=>(n:Int):=rfl
theorem Zoi (x:LnF) (lb:List Txt) (rs:List RPc) (ha:x.a=0) (hw:x.word=[]):Ypk x rs=(match Zfu TT lb (Zhc rs) with
 | some (.code _ none)=>some { x with op := -1 }
 | some (.code _ (some (n,a,w)))=>some { x with op:=n,a:=a,word:=w.getD [] }
 | _=>none):=by
 obtain ⟨k0,k1,k2,k3,k4,k5,k6,k7,k8,k9,k10,k11,k12⟩:=x
 simp only at ha hw
 subst ha hw
 cases rs with
 | nil=>rfl
 | cons q rest =>
   obtain ⟨q,z⟩:=q
   cases q with
   | num n b=>rfl
   | str t=>rfl
   | colon=>rfl
   | word t =>
     show Ypk _ _=match Zfu TT lb (.word t::Zhc rest) with|some (.code _ none)=>_|some (.code _ (some (n,a,w)))=>_|_=>_
     unfold Ypk Zfu
     simp only []
     rw [Zth]
     cases hp:Xb shapeT t with
     | none=>rfl
     | some n =>
       have hk:=Yhv hp
       show Yan _ n (Zai (n:Int)) rest=match (if TT.kind (n:Int)=0 then (match Zhc rest with|[]=>some (Sd.code lb (some ((n:Int),0,none)))|_=>none) else _) with|some (.code _ none)=>_|some (.code _ (some (n,a,w)))=>_|_=>_
       rw [hk]
       unfold Yan
       by_cases h0:Zai (n:Int)=0
       · rw [if_pos h0,if_pos h0]
         cases rest with
         | nil=>rfl
         | cons a r=>rfl
       · rw [if_neg h0,if_neg h0]
         match rest with
         | []=>rfl
         | [(.num v b,_)]=>rfl
         | [(.str v,_)]=>rfl
         | [(.colon,_)]=>rfl
         | [(.word s,_)] =>
           simp only [Zhc,List.map_cons,List.map_nil]
           by_cases h5:Zai (n:Int)=5
           · rw [if_pos h5,if_pos h5,Zwh]
             cases Xb callT s with
             | none=>rfl
             | some c=>rfl
           · rw [if_neg h5,if_neg h5]
             by_cases h34:Zai (n:Int)=3\/Zai (n:Int)=4
             · rw [if_pos h34,if_pos h34];rfl
             · rw [if_neg h34,if_neg h34]
         | (.word _,_)::_::_=>rfl
         | (.num _ _,_)::_::_=>rfl
         | (.str _,_)::_::_=>rfl
         | (.colon,_)::_::_=>rfl
theorem Zlh {lb:List Txt} {ps:List Pc} {sd:Sd} (h:Zfu TT lb ps=some sd):∃ i,sd = .code lb i:=by
 cases ps with
 | nil=>injection h with h;exact ⟨none,h.symm⟩
 | cons p r =>
   cases p with
   | num n b=>cases h
   | str t=>cases h
   | colon=>cases h
   | word t =>
     unfold Zfu at h
     simp only [] at h
     cases hn:TT.named t with
     | none=>rw [hn] at h;cases h
     | some n =>
       rw [hn] at h
       simp only [] at h
       split at h
       · split at h
         · injection h with h;exact ⟨_,h.symm⟩
         · cases h
       · split at h
         · injection h with h;exact ⟨_,h.symm⟩
         · split at h
           · obtain ⟨c,hc,h⟩:=Option.map_eq_some_iff.1 h
             exact ⟨_,h.symm⟩
           · split at h
             · injection h with h;exact ⟨_,h.symm⟩
             · cases h
         · cases h
theorem Zfb {w:World} {B b o:Nat} {rs:List RPc} (h:Ybk w B (some ⟨b,o,none⟩) rs) (k:Nat):Ybk w B (some ⟨b,o+k*4,none⟩) (rs.drop k):=fun h0=>by
 obtain ⟨b',o',e,hb,hc⟩:=h (by rw [List.length_drop] at h0;omega)
 injection e with e
 injection e with e1 e2 _
 subst e1 e2
 refine ⟨_,_,rfl,hb,fun i q hi => ?_⟩
 rw [List.getElem?_drop] at hi
 have:=hc _ _ hi
 rw [show o+k*4+i*4=o+(k+i)*4 by omega]
 exact this
theorem Zzh (w:World) (B:Nat) (p:Option Addr):Ybk w B p []:=fun h0=>absurd h0 (by simp)
def Ypu (rs:List RPc):Bool:=rs.any rpF
theorem Ytq (rs:List RPc):Ziz (Zhc rs)=Ypu rs:=by
 unfold Ziz Ypu Zhc
 rw [List.any_map]
 congr 1
theorem Yjp {rs:List RPc} {k:Nat} {q:RPc} (h:rs[k]? = some q):Ypu (rs.take (k+1))=(Ypu (rs.take k) || rpF q):=by
 unfold Ypu
 rw [List.take_add_one,h,List.any_append]
 simp
structure SdW (w W:World) (b2 b6 B:Nat) (p:Option Addr) (rs:List RPc) (v0 v1 v2 v3 v4 v5 v6 v7 v8 v9 v10:Value):Prop where
 gr:w.grownBy W none
 bx:LnB W b6 v0 v1 v2 v3 v4 v5 v6 v7 v8 v9 v10
 bz:LnB W b2 (.int .i64 0) (.slice none 0 0) (.string ⟨#[]⟩) (.int .i64 0) (.int .i64 0) (.int .i64 0) (.string ⟨#[]⟩) (.int .i64 0) (.int .i64 0) (.string ⟨#[]⟩) (.bool false)
 pc:Ybk W B p rs
 h2:w.heap.size<=b2
 lt:b2<B
 h6:B<=b6
theorem Zap {w W:World} {b2 b6 B o:Nat} {p:Option Addr} {rs:List RPc} {v0 v1 v2 v3 v4 v5 v6 v7 v8 v9 v10 x0 x1 x2 x3 x4 x5 x6 x7 x8 x9 x10 x:Value} (h:SdW w W b2 b6 B p rs v0 v1 v2 v3 v4 v5 v6 v7 v8 v9 v10) (e:(#[v0,v1,v2,v3,v4,v5,v6,v7,v8,v9,v10]:Array Value).setIfInBounds o x = #[x0,x1,x2,x3,x4,x5,x6,x7,x8,x9,x10]):SdW w (W.setCell ⟨b6,o,none⟩ x) b2 b6 B p rs x0 x1 x2 x3 x4 x5 x6 x7 x8 x9 x10:=by
 obtain ⟨h1,h2,h3,h4,h5,h6,h7⟩:=h
 have g:=Zm W b6 o x
 exact ⟨Zy h1 (by omega),by unfold LnB;rw [Zj h2,e],Yp h3 g (by intro he;injection he with he;omega),Zgp h4 g (by intro r hr;injection hr with hr;omega),h5,h6,h7⟩
theorem Zbz {w W W':World} {b2 b6 B:Nat} {p:Option Addr} {rs:List RPc} {v0 v1 v2 v3 v4 v5 v6 v7 v8 v9 v10:Value} {r:Option Nat} (h:SdW w W b2 b6 B p rs v0 v1 v2 v3 v4 v5 v6 v7 v8 v9 v10) (g:W.grownBy W' r) (hr:∀ k,r=some k->b6<k):SdW w W' b2 b6 B p rs v0 v1 v2 v3 v4 v5 v6 v7 v8 v9 v10:=by
 obtain ⟨h1,h2,h3,h4,h5,h6,h7⟩:=h
 exact ⟨Zej h1 g fun k hk=>by have:=hr k hk;omega,Yp h2 g (by intro he;have:=hr _ he;omega),Yp h3 g (by intro he;have:=hr _ he;omega),Zgp h4 g (by intro k hk;have:=hr k hk;omega),h5,h6,h7⟩
theorem Ykw {w W:World} {b2 b6 B:Nat} {b o:Nat} {rs:List RPc} {v0 v1 v2 v3 v4 v5 v6 v7 v8 v9 v10:Value} (h:SdW w W b2 b6 B (some ⟨b,o,none⟩) rs v0 v1 v2 v3 v4 v5 v6 v7 v8 v9 v10) (k:Nat):SdW w W b2 b6 B (some ⟨b,o+k*4,none⟩) (rs.drop k) v0 v1 v2 v3 v4 v5 v6 v7 v8 v9 v10 :=
 ⟨h.gr,h.bx,h.bz,Zfb h.pc k,h.h2,h.lt,h.h6⟩
theorem Yqz {w W:World} {b2 b6 B:Nat} {p p':Option Addr} {rs:List RPc} {v0 v1 v2 v3 v4 v5 v6 v7 v8 v9 v10:Value} (h:SdW w W b2 b6 B p rs v0 v1 v2 v3 v4 v5 v6 v7 v8 v9 v10):SdW w W b2 b6 B p' [] v0 v1 v2 v3 v4 v5 v6 v7 v8 v9 v10 :=
 ⟨h.gr,h.bx,h.bz,Zzh _ _ _,h.h2,h.lt,h.h6⟩
def Yjw (W:World) (b6:Nat) (v:Value) (lbs:List Txt):Prop:=Zih W (b6+1) v lbs
theorem Yai {W:World} {b6 o:Nat} {v x:Value} {lbs:List Txt} (h:Yjw W b6 v lbs):Yjw (W.setCell ⟨b6,o,none⟩ x) b6 v lbs:=by
 refine World.ownsRow.kept h (Zm W b6 o x) ?_
 cases hv:v.ownBlock with
 | none=>exact Or.inl rfl
 | some k =>
   refine Or.inr fun e => ?_
   injection e with e
   have:=(World.ownsRow.lt h k hv).1
   omega
theorem Zdu {W W':World} {b6:Nat} {v:Value} {lbs:List Txt} (h:Yjw W b6 v lbs) (g:W.grownBy W' none):Yjw W' b6 v lbs:=World.ownsRow.kept h g (Yw h)
theorem Zso (W:World) (b6:Nat):Yjw W b6 (.slice none 0 0) []:=World.ownsRow_nil _ _ _ _
def RdB (w:World) (b:Nat) (mem:Int) (vD vF:Value) (ms:Bool) (vN vL vP vW:Value):Prop:=w.heap[b]? = some (.cells #[.int .i64 mem,vD,vF,.bool ms,vN,vL,vP,vW] 83 (0,0))
def Zhv (ms:Bool) (n:Nat) (k:Int):Bool:=if k=1 then (!ms && decide (n=0)) else if k=2 then decide (n=0) else if k=4 then decide (0<n) else true
theorem Zcz (x:LnF) (b:Nat) (mem:Int) (vD:Value) (pF:Option Addr) (n cF:Nat) (ms:Bool) (vN vL vP vW:Value) (w:World) (h:RdB w b mem vD (.slice pF n cF) ms vN vL vP vW) :
 Calls Tryz.prog 63 #[.pointer (some ⟨b,0,none⟩),lnA x] w fun e w'=>e = .returned (.bool (Zhv ms n x.kind))/\w.grownBy w' none:=by
 have c2:=Cq w b 2 _ _ _ h
 have c3:=Cq w b 3 _ _ _ h
 have hlt:b<w.heap.size:=(Gs h)
 obtain ⟨r,hr⟩:∃ r,Zhv ms n x.kind=r:=⟨_,rfl⟩
 have HR:=Hq hr
 rw [hr]
 clear hr
 go_enter Tryz.func63,Tryz.ntmps63
 go_upto_region 1 with fail
 have g:=Ga w (.cells #[.int .i64 x.kind,.slice x.lp x.ln x.lc,.string (bs x.name),.int .i64 x.n0,.int .i64 x.n1,.int .i64 x.n2,.string (bs x.data),.int .i64 x.op,.int .i64 x.a,.string (bs x.word),.bool x.big] 86 (0,0)) none
 have hx:=heap_alloc_new w (.cells #[.int .i64 x.kind,.slice x.lp x.ln x.lc,.string (bs x.name),.int .i64 x.n0,.int .i64 x.n1,.int .i64 x.n2,.string (bs x.data),.int .i64 x.op,.int .i64 x.a,.string (bs x.word),.bool x.big] 86 (0,0))
 have k0:=Cq _ _ 0 _ _ _ hx
 have d2:=g.cell c2 (by simp)
 have d3:=g.cell c3 (by simp)
 have hl2:=Nat.lt_of_lt_of_le hlt g.size
 have G:=Hq g
 clear c2 c3 h hlt g hx
 generalize w.alloc (.cells #[.int .i64 x.kind,.slice x.lp x.ln x.lc,.string (bs x.name),.int .i64 x.n0,.int .i64 x.n1,.int .i64 x.n2,.string (bs x.data),.int .i64 x.op,.int .i64 x.a,.string (bs x.word),.bool x.big] 86 (0,0))=W1 at k0 d2 d3 hl2 G ⊢
 generalize w.heap.size=b3 at k0 ⊢
 obtain ⟨k,hk⟩:∃ k,x.kind=k:=⟨_,rfl⟩
 rw [hk] at k0 HR
 clear hk
 by_cases h1:k=1
 · subst h1
   cases ms with
   | true =>
     go_wp2
     go_ret
     rw [<- HR.out]
     exact ⟨rfl,G.out⟩
   | false =>
     have HE:=Hq (show r=decide (n=0) by rw [<- HR.out];simp [Zhv])
     have hb:((n:Int) == 0)=decide (n=0):=by rw [Bool.eq_iff_iff];simp
     go_wp2
     go_ret
     rw [HE.out]
     exact ⟨by first|rfl|simp,G.out⟩
 · have b1:(k == 1)=false:=beq_eq_false_iff_ne.2 h1
   by_cases h2:k=2
   · subst h2
     have HE:=Hq (show r=decide (n=0) by rw [<- HR.out];simp [Zhv])
     have hb:((n:Int) == 0)=decide (n=0):=by rw [Bool.eq_iff_iff];simp
     go_wp2
     go_ret
     rw [HE.out]
     exact ⟨by first|rfl|simp,G.out⟩
   · have b2:(k == 2)=false:=beq_eq_false_iff_ne.2 h2
     by_cases h4:k=4
     · subst h4
       have HE:=Hq (show r=decide (0<n) by rw [<- HR.out];simp [Zhv])
       go_wp2
       go_ret
       rw [HE.out]
       exact ⟨by first|rfl|simp,G.out⟩
     · have b4:(k == 4)=false:=beq_eq_false_iff_ne.2 h4
       have HE:=Hq (show r=true by rw [<- HR.out];simp [Zhv,h1,h2,h4])
       clear h1 h2 h4
       go_wp2
       go_ret
       rw [HE.out]
       exact ⟨rfl,G.out⟩
structure Fam (w:World) (E:Nat) (t:TypeId) (vs:List Value) (xs:List (List Value)):Prop where
 len:vs.length=xs.length
 each:∀ (i:Nat) (v:Value) (x:List Value),vs[i]? = some v->xs[i]? = some x->w.ownsRow E t 1 v x.length x
 dis:∀ (i j:Nat) (v v':Value) (b:Nat),i≠j->vs[i]? = some v->vs[j]? = some v'->v.ownBlock=some b->v'.ownBlock≠some b
theorem Jd {w w':World} {E:Nat} {t:TypeId} {vs:List Value} {xs:List (List Value)} {r:Option Nat} (h:Fam w E t vs xs) (g:w.grownBy w' r) (hr:∀ v n x,w.ownsRow E t 1 v n x->v.ownBlock=none\/v.ownBlock≠r):Fam w' E t vs xs :=
 ⟨h.len,fun i v x hv hx=>(h.each i v x hv hx).kept g (hr _ _ _ (h.each i v x hv hx)),h.dis⟩
theorem Zyf {w w':World} {E i:Nat} {t:TypeId} {vs:List Value} {xs:List (List Value)} {v v':Value} {x':List Value} (h:Fam w E t vs xs) (hv:vs[i]? = some v) (ho:w'.ownsRow E t 1 v' x'.length x') (g:w.grownBy w' v.ownBlock) (hd:v'.ownBlock=v.ownBlock\/∀ b,v'.ownBlock=some b->w.heap.size<=b) :
 Fam w' E t (vs.set i v') (xs.set i x'):=by
 have hi:i<vs.length:=(List.getElem?_eq_some_iff.1 hv).1
 have hi2:i<xs.length:=by rw [<- h.len];exact hi
 have hdd:∀ (k:Nat) (a:Value) (b:Nat),k≠i->vs[k]? = some a->a.ownBlock=some b->v'.ownBlock≠some b:=fun k a b hk ha hb e=>by
  rcases hd with hd|hd
  · exact h.dis k i a v b hk ha hv hb (hd ▸ e)
  · have hkl:k<xs.length:=by rw [<- h.len];exact (List.getElem?_eq_some_iff.1 ha).1
    have h1:=(World.ownsRow.lt (h.each k a _ ha (List.getElem?_eq_getElem hkl)) b hb).2
    have h2:=hd b e
    omega
 refine ⟨by simp [h.len],fun k a x ha hx => ?_,fun k l a b bb hkl ha hb hab => ?_⟩
 · by_cases e:k=i
   · subst e
     rw [List.getElem?_set_self hi] at ha
     rw [List.getElem?_set_self hi2] at hx
     injection ha with ha;injection hx with hx
     subst ha;subst hx
     exact ho
   · rw [List.getElem?_set_ne (Ne.symm e)] at ha hx
     exact (h.each k a x ha hx).kept g (by
      cases hbb:a.ownBlock with
      | none=>exact Or.inl rfl
      | some q=>exact Or.inr (fun e2=>h.dis k i a v q e ha hv hbb e2.symm))
 · by_cases e:k=i
   · subst e
     rw [List.getElem?_set_self hi] at ha
     rw [List.getElem?_set_ne hkl] at hb
     injection ha with ha
     subst ha
     intro e2
     exact hdd l b bb (Ne.symm hkl) hb e2 hab
   · rw [List.getElem?_set_ne (Ne.symm e)] at ha
     by_cases e2:l=i
     · subst e2
       rw [List.getElem?_set_self hi] at hb
       injection hb with hb
       subst hb
       exact hdd k a bb e ha hab
     · rw [List.getElem?_set_ne (Ne.symm e2)] at hb
       exact h.dis k l a b bb hkl ha hb hab
theorem Zct {α:Type} (l:List α) (x y:α) (k:Nat) (hy:(l++[x])[k]? = some y):(k<l.length/\l[k]? = some y)\/(k=l.length/\y=x):=by
 by_cases e:k<l.length
 · rw [List.getElem?_append_left e] at hy;exact Or.inl ⟨e,hy⟩
 · have hk:=(List.getElem?_eq_some_iff.1 hy).1
   simp at hk
   have:k=l.length:=by omega
   subst this
   rw [List.getElem?_append_right (Nat.le_refl _),Nat.sub_self] at hy
   simp at hy
   exact Or.inr ⟨rfl,hy.symm⟩
theorem Yau {w:World} {E:Nat} {t:TypeId} {vs:List Value} {xs:List (List Value)} (h:Fam w E t vs xs):Fam w E t (vs++[.slice none 0 0]) (xs++[[]]):=by
 have hl:=h.len
 refine ⟨by simp [hl],fun k v x hv hx => ?_,fun i j v v' b hij hi hj hb => ?_⟩
 · rcases Zct _ _ _ _ hv with ⟨h1,h2⟩|⟨h1,h2⟩
   · rcases Zct _ _ _ _ hx with ⟨h3,h4⟩|⟨h3,h4⟩
     · exact h.each k v x h2 h4
     · omega
   · rcases Zct _ _ _ _ hx with ⟨h3,h4⟩|⟨h3,h4⟩
     · omega
     · subst h4;subst h2
       exact World.ownsRow_nil _ _ _ _
 · rcases Zct _ _ _ _ hi with ⟨h1,h2⟩|⟨h1,h2⟩
   · rcases Zct _ _ _ _ hj with ⟨h3,h4⟩|⟨h3,h4⟩
     · exact h.dis i j v v' b hij h2 h4 hb
     · subst h4;simp [Value.ownBlock]
   · subst h2;simp [Value.ownBlock] at hb
structure RS where
 mem:Int
 ms:Bool
 data:Txt
 funcs:List FnR
 names:List Txt
 labs:List (List Txt)
 plcs:List (List Int)
 wants:List Zdz
def Zcj (l:List Txt):List Value:=l.map fun t => .string (bs t)
def Zmn (l:List Int):List Value:=l.map (Value.int .i64)
theorem Jh (l:List Txt):(Zcj l).length=l.length:=by simp [Zcj]
theorem Zis (l:List Int):(Zmn l).length=l.length:=by simp [Zmn]
def wt5 (x:Zdz):List Value:=[.int .i64 x.fn,.int .i64 x.pl,.int .i64 x.line,.string (bs x.word),.bool x.jump]
def wtV:List Zdz->List Value
 | []=>[]
 | x::r=>wt5 x++wtV r
theorem Ybn (a b:List Zdz):wtV (a++b)=wtV a++wtV b:=by
 induction a with
 | nil=>rfl
 | cons p r ih=>simp [wtV,ih]
theorem Yec:∀ (l:List Zdz) (i:Nat) (x:Zdz),l[i]? = some x->(wtV l)[i*5]? = some (.int .i64 x.fn)/\(wtV l)[i*5+1]? = some (.int .i64 x.pl)/\(wtV l)[i*5+2]? = some (.int .i64 x.line)/\(wtV l)[i*5+3]? = some (.string (bs x.word))/\(wtV l)[i*5+4]? = some (.bool x.jump)
 | [],i,x,h=>by simp at h
 | y::r,0,x,h=>by simp at h;subst h;exact ⟨rfl,rfl,rfl,rfl,rfl⟩
 | y::r,i+1,x,h=>by
   have ih:=Yec r i x (by simpa using h)
   have e:(i+1)*5=i*5+1+1+1+1+1:=by omega
   rw [e]
   simp only [wtV,wt5,List.cons_append,List.nil_append]
   simpa using ih
structure Zyp (w:World) (E:Nat) (r:RS) (vD vF vN vL vP vW:Value) (cv lv pv:List Value):Prop where
 own:Ztd w E vD vF (Zcq r.data) r.funcs cv
 str:Fam w E 9 (vN::lv) (Zcj r.names::r.labs.map Zcj)
 int:Fam w E 3 pv (r.plcs.map Zmn)
 lrow:w.ownsRow E 37 1 vL lv.length lv
 prow:w.ownsRow E 93 1 vP pv.length pv
 wrow:w.ownsRow E 91 5 vW r.wants.length (wtV r.wants)
theorem Zqg {w w':World} {E:Nat} {r:RS} {vD vF vN vL vP vW:Value} {cv lv pv:List Value} {q:Option Nat} (h:Zyp w E r vD vF vN vL vP vW cv lv pv) (g:w.grownBy w' q)
 (hr:∀ t sz v n xs,w.ownsRow E t sz v n xs->(t=5\/t=61\/t=58\/t=9\/t=3\/t=37\/t=93\/t=91)->v.ownBlock=none\/v.ownBlock≠q) :
 Zyp w' E r vD vF vN vL vP vW cv lv pv :=
 ⟨Xj h.own g (fun t sz v n xs ho ht=>hr t sz v n xs ho (by rcases ht with h|h|h <;> simp [h])),Jd h.str g (fun v n x ho=>hr _ _ _ _ _ ho (by simp)),Jd h.int g (fun v n x ho=>hr _ _ _ _ _ ho (by simp)),
  h.lrow.kept g (hr _ _ _ _ _ h.lrow (by simp)),h.prow.kept g (hr _ _ _ _ _ h.prow (by simp)),h.wrow.kept g (hr _ _ _ _ _ h.wrow (by simp))⟩
theorem Yfy {w w':World} {E:Nat} {r:RS} {vD vF vN vL vP vW:Value} {cv lv pv:List Value} (h:Zyp w E r vD vF vN vL vP vW cv lv pv) (g:w.grownBy w' none):Zyp w' E r vD vF vN vL vP vW cv lv pv :=
 Zqg h g (fun t sz v n xs ho _=>Yw ho)
theorem Zee {w w':World} {E p:Nat} {r:RS} {vD vF vN vL vP vW:Value} {cv lv pv:List Value} {cs:Array Value} (h:Zyp w E r vD vF vN vL vP vW cv lv pv) (hp:w.heap[p]? = some (.cells cs 83 (0,0))) (g:w.grownBy w' (some p)):Zyp w' E r vD vF vN vL vP vW cv lv pv :=
 Zqg h g (fun t sz v n xs ho ht=>Zks ho hp (by rcases ht with h|h|h|h|h|h|h|h <;> subst h <;> decide))
structure Zkg (w0 w:World) (p:Nat) (r:RS) (vD vF vN vL vP vW:Value) (cv lv pv:List Value):Prop where
 gr:w0.grownBy w none
 ge:w0.heap.size<=p
 box:RdB w p r.mem vD vF r.ms vN vL vP vW
 ins:Zyp w w0.heap.size r vD vF vN vL vP vW cv lv pv
def RDA (w0 w:World) (p:Nat) (r:RS):Prop:=∃ vD vF vN vL vP vW cv lv pv,Zkg w0 w p r vD vF vN vL vP vW cv lv pv
theorem Zs {w0 w w':World} {p:Nat} {r:RS} {vD vF vN vL vP vW:Value} {cv lv pv:List Value} (h:Zkg w0 w p r vD vF vN vL vP vW cv lv pv) (g:w.grownBy w' none):Zkg w0 w' p r vD vF vN vL vP vW cv lv pv :=
 ⟨Za h.gr g,h.ge,Zf h.box g (by simp),Yfy h.ins g⟩
theorem Zku {w0 w w1:World} {p o:Nat} {r:RS} {vD vF vN vL vP vW x:Value} {cv lv pv:List Value} {t:TypeId} {sz n:Nat} {v:Value} {xs:List Value} (h:Zkg w0 w p r vD vF vN vL vP vW cv lv pv)
 (hd:w.ownsRow w0.heap.size t sz v n xs) (ht:t≠83) (g:w.grownBy w1 v.ownBlock) :
 w0.grownBy (w1.setCell ⟨p,o,none⟩ x) none/\RdB w1 p r.mem vD vF r.ms vN vL vP vW/\w1.grownBy (w1.setCell ⟨p,o,none⟩ x) (some p) :=
 ⟨Zy (Yf h.gr g (fun k hk=>(World.ownsRow.lt hd k hk).1)) h.ge,Zf h.box g (Zn hd h.box ht),Zm w1 p o x⟩
theorem Yll {w0 w:World} {p:Nat} {r:RS} {vD vF vN vL vP vW:Value} {cv lv pv:List Value} (h:Zkg w0 w p r vD vF vN vL vP vW cv lv pv) (n:Int) :
 Zkg w0 ((w.setCell ⟨p,0,none⟩ (.int .i64 n)).setCell ⟨p,3,none⟩ (.bool true)) p { r with mem:=n,ms:=true } vD vF vN vL vP vW cv lv pv:=by
 have g1:=Zm w p 0 (.int .i64 n)
 have g2:=Zm (w.setCell ⟨p,0,none⟩ (.int .i64 n)) p 3 (.bool true)
 have b1:(w.setCell ⟨p,0,none⟩ (.int .i64 n)).heap[p]? = _:=Zj (o:=0) (v := .int .i64 n) h.box
 have I1:=Zee h.ins h.box g1
 have I2:=Zee I1 b1 g2
 exact ⟨Zy (Zy h.gr h.ge) h.ge,h.ge,by unfold RdB;rw [Zj b1];rfl,⟨I2.own,I2.str,I2.int,I2.lrow,I2.prow,I2.wrow⟩⟩
theorem Ygc {w0 w w1:World} {p:Nat} {r:RS} {vD vD' vF vN vL vP vW:Value} {cv lv pv:List Value} {t:Txt} (h:Zkg w0 w p r vD vF vN vL vP vW cv lv pv)
 (ho:w1.ownsRow w0.heap.size 5 1 vD' (r.data++t).length ((Zcq (r.data++t)).map (Value.int .u8))) (g:w.grownBy w1 vD.ownBlock) :
 Zkg w0 (w1.setCell ⟨p,1,none⟩ vD') p { r with data:=r.data++t } vD' vF vN vL vP vW cv lv pv:=by
 have I:=h.ins
 have hd:=I.own.dt
 obtain ⟨s1,s2,s3⟩:=Zku (o:=1) (x:=vD') h hd (by decide) g
 have J:Zyp w1 w0.heap.size { r with data:=r.data++t } vD' vF vN vL vP vW cv lv pv :=
  ⟨⟨by rw [Yh];exact ho,I.own.fr.kept g (Zh I.own.fr hd (by decide)),I.own.cl,fun k f v hf hv=>(I.own.each k f v hf hv).kept g (Zh (I.own.each k f v hf hv) hd (by decide)),I.own.dis⟩,
    Jd I.str g (fun v n x ho=>Zh ho hd (by decide)),Jd I.int g (fun v n x ho=>Zh ho hd (by decide)),I.lrow.kept g (Zh I.lrow hd (by decide)),I.prow.kept g (Zh I.prow hd (by decide)),I.wrow.kept g (Zh I.wrow hd (by decide))⟩
 exact ⟨s1,h.ge,by unfold RdB;rw [Zj s2];rfl,Zee J s2 s3⟩
theorem Ycb {w0 w w1:World} {p:Nat} {r:RS} {vD vF vN vN' vL vP vW:Value} {cv lv pv:List Value} {t:Txt} (h:Zkg w0 w p r vD vF vN vL vP vW cv lv pv)
 (ho:w1.ownsRow w0.heap.size 9 1 vN' (r.names.length+1) (Zcj r.names++[.string (bs t)])) (g:w.grownBy w1 vN.ownBlock) (hd':vN'.ownBlock=vN.ownBlock\/∀ b,vN'.ownBlock=some b->w.heap.size<=b) :
 Zkg w0 (w1.setCell ⟨p,4,none⟩ vN') p { r with names:=r.names++[t] } vD vF vN' vL vP vW cv lv pv:=by
 have I:=h.ins
 have hd:=I.str.each 0 vN _ rfl rfl
 obtain ⟨s1,s2,s3⟩:=Zku (o:=4) (x:=vN') h hd (by decide) g
 have F:=Zyf (i:=0) (x':=Zcj (r.names++[t])) I.str rfl (by rw [Jh,List.length_append];unfold Zcj;rw [List.map_append];exact ho) g hd'
 have J:Zyp w1 w0.heap.size { r with names:=r.names++[t] } vD vF vN' vL vP vW cv lv pv :=
  ⟨Xj I.own g (fun t sz v n xs ho ht=>Zh ho hd (by rcases ht with h|h|h <;> subst h <;> decide)),
   F,Jd I.int g (fun v n x ho=>Zh ho hd (by decide)),I.lrow.kept g (Zh I.lrow hd (by decide)),I.prow.kept g (Zh I.prow hd (by decide)),I.wrow.kept g (Zh I.wrow hd (by decide))⟩
 exact ⟨s1,h.ge,by unfold RdB;rw [Zj s2];rfl,Zee J s2 s3⟩
theorem Yrh {w0 w w1:World} {p:Nat} {r:RS} {vD vF vF' vN vL vP vW:Value} {cv lv pv:List Value} {a l k:Int} (h:Zkg w0 w p r vD vF vN vL vP vW cv lv pv)
 (ho:w1.ownsRow w0.heap.size 61 4 vF' (r.funcs.length+1) (Yv r.funcs cv++[.int .i64 a,.int .i64 l,.int .i64 k,.slice none 0 0])) (g:w.grownBy w1 vF.ownBlock) :
 Zkg w0 (w1.setCell ⟨p,2,none⟩ vF') p { r with funcs:=r.funcs++[(a,l,k,[])] } vD vF' vN vL vP vW (cv++[.slice none 0 0]) lv pv:=by
 have I:=h.ins
 have hd:=I.own.fr
 have hcl:=I.own.cl
 obtain ⟨s1,s2,s3⟩:=Zku (o:=2) (x:=vF') h hd (by decide) g
 have J:Zyp w1 w0.heap.size { r with funcs:=r.funcs++[(a,l,k,[])] } vD vF' vN vL vP vW (cv++[.slice none 0 0]) lv pv:=by
  refine ⟨⟨I.own.dt.kept g (Zh I.own.dt hd (by decide)),?_,by simp [hcl],fun k f v hf hv => ?_,fun i j v v' b hij hi hj hb => ?_⟩,
   Jd I.str g (fun v n x ho=>Zh ho hd (by decide)),Jd I.int g (fun v n x ho=>Zh ho hd (by decide)),I.lrow.kept g (Zh I.lrow hd (by decide)),I.prow.kept g (Zh I.prow hd (by decide)),I.wrow.kept g (Zh I.wrow hd (by decide))⟩
  · show w1.ownsRow w0.heap.size 61 4 vF' (r.funcs++[(a,l,_,[])]).length (Yv (r.funcs++[(a,l,_,[])]) (cv++[.slice none 0 0]))
    rw [Zln _ _ _ _ hcl,List.length_append]
    exact ho
  · rcases Zct _ _ _ _ hv with ⟨h1,h2⟩|⟨h1,h2⟩
    · rcases Zct _ _ _ _ hf with ⟨h3,h4⟩|⟨h3,h4⟩
      · exact (I.own.each k f v h4 h2).kept g (Zh (I.own.each k f v h4 h2) hd (by decide))
      · omega
    · rcases Zct _ _ _ _ hf with ⟨h3,h4⟩|⟨h3,h4⟩
      · omega
      · subst h4;subst h2
        exact World.ownsRow_nil _ _ _ _
  · rcases Zct _ _ _ _ hi with ⟨h1,h2⟩|⟨h1,h2⟩
    · rcases Zct _ _ _ _ hj with ⟨h3,h4⟩|⟨h3,h4⟩
      · exact I.own.dis i j v v' b hij h2 h4 hb
      · subst h4;simp [Value.ownBlock]
    · subst h2;simp [Value.ownBlock] at hb
 exact ⟨s1,h.ge,by unfold RdB;rw [Zj s2];rfl,Zee J s2 s3⟩
theorem Ygb {w0 w w1:World} {p:Nat} {r:RS} {vD vF vN vL vL' vP vW:Value} {cv lv pv:List Value} (h:Zkg w0 w p r vD vF vN vL vP vW cv lv pv)
 (ho:w1.ownsRow w0.heap.size 37 1 vL' (lv.length+1) (lv++[.slice none 0 0])) (g:w.grownBy w1 vL.ownBlock) :
 Zkg w0 (w1.setCell ⟨p,5,none⟩ vL') p { r with labs:=r.labs++[[]] } vD vF vN vL' vP vW cv (lv++[.slice none 0 0]) pv:=by
 have I:=h.ins
 have hd:=I.lrow
 obtain ⟨s1,s2,s3⟩:=Zku (o:=5) (x:=vL') h hd (by decide) g
 have F:=Yau (Jd I.str g (fun v n x ho=>Zh ho hd (by decide)))
 have J:Zyp w1 w0.heap.size { r with labs:=r.labs++[[]] } vD vF vN vL' vP vW cv (lv++[.slice none 0 0]) pv :=
  ⟨Xj I.own g (fun t sz v n xs ho ht=>Zh ho hd (by rcases ht with h|h|h <;> subst h <;> decide)),
   by rw [List.map_append];exact F,Jd I.int g (fun v n x ho=>Zh ho hd (by decide)),by rw [List.length_append];exact ho,I.prow.kept g (Zh I.prow hd (by decide)),I.wrow.kept g (Zh I.wrow hd (by decide))⟩
 exact ⟨s1,h.ge,by unfold RdB;rw [Zj s2];rfl,Zee J s2 s3⟩
theorem Yga {w0 w w1:World} {p:Nat} {r:RS} {vD vF vN vL vP vP' vW:Value} {cv lv pv:List Value} (h:Zkg w0 w p r vD vF vN vL vP vW cv lv pv)
 (ho:w1.ownsRow w0.heap.size 93 1 vP' (pv.length+1) (pv++[.slice none 0 0])) (g:w.grownBy w1 vP.ownBlock) :
 Zkg w0 (w1.setCell ⟨p,6,none⟩ vP') p { r with plcs:=r.plcs++[[]] } vD vF vN vL vP' vW cv lv (pv++[.slice none 0 0]):=by
 have I:=h.ins
 have hd:=I.prow
 obtain ⟨s1,s2,s3⟩:=Zku (o:=6) (x:=vP') h hd (by decide) g
 have F:=Yau (Jd I.int g (fun v n x ho=>Zh ho hd (by decide)))
 have J:Zyp w1 w0.heap.size { r with plcs:=r.plcs++[[]] } vD vF vN vL vP' vW cv lv (pv++[.slice none 0 0]) :=
  ⟨Xj I.own g (fun t sz v n xs ho ht=>Zh ho hd (by rcases ht with h|h|h <;> subst h <;> decide)),
   Jd I.str g (fun v n x ho=>Zh ho hd (by decide)),by rw [List.map_append];exact F,I.lrow.kept g (Zh I.lrow hd (by decide)),by rw [List.length_append];exact ho,I.wrow.kept g (Zh I.wrow hd (by decide))⟩
 exact ⟨s1,h.ge,by unfold RdB;rw [Zj s2];rfl,Zee J s2 s3⟩
theorem Yfz {w0 w w1:World} {p:Nat} {r:RS} {vD vF vN vL vP vW vW':Value} {cv lv pv:List Value} {x:Zdz} (h:Zkg w0 w p r vD vF vN vL vP vW cv lv pv)
 (ho:w1.ownsRow w0.heap.size 91 5 vW' (r.wants.length+1) (wtV r.wants++wt5 x)) (g:w.grownBy w1 vW.ownBlock) :
 Zkg w0 (w1.setCell ⟨p,7,none⟩ vW') p { r with wants:=r.wants++[x] } vD vF vN vL vP vW' cv lv pv:=by
 have I:=h.ins
 have hd:=I.wrow
 obtain ⟨s1,s2,s3⟩:=Zku (o:=7) (x:=vW') h hd (by decide) g
 have J:Zyp w1 w0.heap.size { r with wants:=r.wants++[x] } vD vF vN vL vP vW' cv lv pv :=
  ⟨Xj I.own g (fun t sz v n xs ho ht=>Zh ho hd (by rcases ht with h|h|h <;> subst h <;> decide)),
   Jd I.str g (fun v n x ho=>Zh ho hd (by decide)),Jd I.int g (fun v n x ho=>Zh ho hd (by decide)),I.lrow.kept g (Zh I.lrow hd (by decide)),I.prow.kept g (Zh I.prow hd (by decide)),
   by show w1.ownsRow _ _ _ vW' (r.wants++[x]).length (wtV (r.wants++[x]));rw [List.length_append,Ybn];simpa [wtV] using ho⟩
 exact ⟨s1,h.ge,by unfold RdB;rw [Zj s2];rfl,Zee J s2 s3⟩
theorem Ylm {w0 w w1:World} {p k g cL:Nat} {r:RS} {vD vF vN vP vW v v':Value} {cv lv pv:List Value} {ls:List Txt} {t:Txt} (h:Zkg w0 w p r vD vF vN (.slice (some ⟨g,0,none⟩) lv.length cL) vP vW cv lv pv) (hv:lv[k]? = some v) (hl:r.labs[k]? = some ls)
 (ho:w1.ownsRow w0.heap.size 9 1 v' (ls.length+1) (Zcj ls++[.string (bs t)])) (gr:w.grownBy w1 v.ownBlock) (hd':v'.ownBlock=v.ownBlock\/∀ b,v'.ownBlock=some b->w.heap.size<=b) :
 Zkg w0 (w1.setCell ⟨g,k,none⟩ v') p { r with labs:=r.labs.set k (ls++[t]) } vD vF vN (.slice (some ⟨g,0,none⟩) lv.length cL) vP vW cv (lv.set k v') pv:=by
 have I:=h.ins
 have hd:=I.str.each (k+1) v (Zcj ls) (by simpa using hv) (by simp [hl])
 have F:=Zyf (i:=k+1) (x':=Zcj (ls++[t])) I.str (by simpa using hv) (by rw [Jh,List.length_append];unfold Zcj;rw [List.map_append];exact ho) gr hd'
 have lr1:=I.lrow.kept gr (Zh I.lrow hd (by decide))
 have gs:=Zm w1 g k v'
 have own1:=Xj I.own gr (fun t sz v n xs ho ht=>Zh ho hd (by rcases ht with h|h|h <;> subst h <;> decide))
 have int1:=Jd I.int gr (fun v n x ho=>Zh ho hd (by decide))
 have pr1:=I.prow.kept gr (Zh I.prow hd (by decide))
 have wr1:=I.wrow.kept gr (Zh I.wrow hd (by decide))
 have bx1:=Zf h.box gr (Zn hd h.box (by decide))
 have gr1:=Yf h.gr gr (fun b hb=>(World.ownsRow.lt hd b hb).1)
 have J:Zyp (w1.setCell ⟨g,k,none⟩ v') w0.heap.size { r with labs:=r.labs.set k (ls++[t]) } vD vF vN (.slice (some ⟨g,0,none⟩) lv.length cL) vP vW cv (lv.set k v') pv :=
  ⟨Xj own1 gs (fun t sz v n xs ho ht=>Zh ho lr1 (by rcases ht with h|h|h <;> subst h <;> decide)),
   by
    have F2:=Jd F gs (fun v n x ho=>Zh ho lr1 (by decide))
    rw [List.map_set]
    exact F2,
   Jd int1 gs (fun v n x ho=>Zh ho lr1 (by decide)),by rw [List.length_set];exact (lr1.stored _ _).1,pr1.kept gs (Zh pr1 lr1 (by decide)),wr1.kept gs (Zh wr1 lr1 (by decide))⟩
 exact ⟨Yf gr1 gs (fun b hb=>(World.ownsRow.lt lr1 b hb).1),h.ge,Zf bx1 gs (Zn lr1 bx1 (by decide)),J⟩
theorem Ylk {w0 w w1:World} {p k g cP:Nat} {r:RS} {vD vF vN vL vW v v':Value} {cv lv pv:List Value} {ls:List Int} {t:Int} (h:Zkg w0 w p r vD vF vN vL (.slice (some ⟨g,0,none⟩) pv.length cP) vW cv lv pv) (hv:pv[k]? = some v) (hl:r.plcs[k]? = some ls)
 (ho:w1.ownsRow w0.heap.size 3 1 v' (ls.length+1) (Zmn ls++[.int .i64 t])) (gr:w.grownBy w1 v.ownBlock) (hd':v'.ownBlock=v.ownBlock\/∀ b,v'.ownBlock=some b->w.heap.size<=b) :
 Zkg w0 (w1.setCell ⟨g,k,none⟩ v') p { r with plcs:=r.plcs.set k (ls++[t]) } vD vF vN vL (.slice (some ⟨g,0,none⟩) pv.length cP) vW cv lv (pv.set k v'):=by
 have I:=h.ins
 have hd:=I.int.each k v (Zmn ls) hv (by simp [hl])
 have F:=Zyf (i:=k) (x':=Zmn (ls++[t])) I.int hv (by rw [Zis,List.length_append];unfold Zmn;rw [List.map_append];exact ho) gr hd'
 have lr1:=I.prow.kept gr (Zh I.prow hd (by decide))
 have gs:=Zm w1 g k v'
 have own1:=Xj I.own gr (fun t sz v n xs ho ht=>Zh ho hd (by rcases ht with h|h|h <;> subst h <;> decide))
 have int1:=Jd I.str gr (fun v n x ho=>Zh ho hd (by decide))
 have pr1:=I.lrow.kept gr (Zh I.lrow hd (by decide))
 have wr1:=I.wrow.kept gr (Zh I.wrow hd (by decide))
 have bx1:=Zf h.box gr (Zn hd h.box (by decide))
 have gr1:=Yf h.gr gr (fun b hb=>(World.ownsRow.lt hd b hb).1)
 have J:Zyp (w1.setCell ⟨g,k,none⟩ v') w0.heap.size { r with plcs:=r.plcs.set k (ls++[t]) } vD vF vN vL (.slice (some ⟨g,0,none⟩) pv.length cP) vW cv lv (pv.set k v') :=
  ⟨Xj own1 gs (fun t sz v n xs ho ht=>Zh ho lr1 (by rcases ht with h|h|h <;> subst h <;> decide)),
   Jd int1 gs (fun v n x ho=>Zh ho lr1 (by decide)),
   by
    have F2:=Jd F gs (fun v n x ho=>Zh ho lr1 (by decide))
    rw [List.map_set]
    exact F2,
   pr1.kept gs (Zh pr1 lr1 (by decide)),by rw [List.length_set];exact (lr1.stored _ _).1,wr1.kept gs (Zh wr1 lr1 (by decide))⟩
 exact ⟨Yf gr1 gs (fun b hb=>(World.ownsRow.lt lr1 b hb).1),h.ge,Zf bx1 gs (Zn lr1 bx1 (by decide)),J⟩
theorem Ztx {w0 w w1:World} {p k g cF:Nat} {r:RS} {vD vN vL vP vW v v':Value} {cv lv pv:List Value} {f f':FnR} (h:Zkg w0 w p r vD (.slice (some ⟨g,0,none⟩) r.funcs.length cF) vN vL vP vW cv lv pv) (hf:r.funcs[k]? = some f) (hv:cv[k]? = some v) (he:f.1=f'.1/\f.2.1=f'.2.1/\f.2.2.1=f'.2.2.1)
 (ho:w1.ownsRow w0.heap.size 58 2 v' f'.2.2.2.length (Xh f'.2.2.2)) (gr:w.grownBy w1 v.ownBlock) (hd':v'.ownBlock=v.ownBlock\/∀ b,v'.ownBlock=some b->w.heap.size<=b) :
 Zkg w0 (w1.setCell ⟨g,k*4+3,none⟩ v') p { r with funcs:=r.funcs.set k f' } vD (.slice (some ⟨g,0,none⟩) r.funcs.length cF) vN vL vP vW (cv.set k v') lv pv:=by
 have I:=h.ins
 have hc:=I.own.each k f v hf hv
 have gs:=Zm w1 g (k*4+3) v'
 have O:=Zzx (f':=f') I.own hf hv he ho gr hd'
 have fr1:=I.own.fr.kept gr (Zh I.own.fr hc (by decide))
 have row:∀ {t:TypeId} {sz n:Nat} {v2:Value} {xs:List Value},w.ownsRow w0.heap.size t sz v2 n xs->t≠58->t≠61->(w1.setCell ⟨g,k*4+3,none⟩ v').ownsRow w0.heap.size t sz v2 n xs:=fun ho t1 t2=>by
  have h1:=ho.kept gr (Zh ho hc t1)
  exact h1.kept gs (Zh h1 fr1 t2)
 have fam:∀ {t:TypeId} {vs:List Value} {xs:List (List Value)},Fam w w0.heap.size t vs xs->t≠58->t≠61->Fam (w1.setCell ⟨g,k*4+3,none⟩ v') w0.heap.size t vs xs:=fun hF t1 t2 =>
  ⟨hF.len,fun i v x hv hx=>row (hF.each i v x hv hx) t1 t2,hF.dis⟩
 have hb1:=Zf h.box gr (Zn hc h.box (by decide))
 have hb2:=Zf hb1 gs (Zn fr1 hb1 (by decide))
 have g1:=Yf h.gr gr (fun b hb=>(World.ownsRow.lt hc b hb).1)
 exact ⟨Yf g1 gs (fun b hb=>(World.ownsRow.lt fr1 b hb).1),h.ge,hb2,
  ⟨O,fam I.str (by decide) (by decide),fam I.int (by decide) (by decide),row I.lrow (by decide) (by decide),row I.prow (by decide) (by decide),row I.wrow (by decide) (by decide)⟩⟩
end Go.Proofs.YteciblfmgdlipaaGreatDoor.AS
