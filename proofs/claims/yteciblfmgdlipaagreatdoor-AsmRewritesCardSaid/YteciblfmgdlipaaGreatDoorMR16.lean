/-
  Part of a proof: contracts of functions and lemmas, each stated by its own theorem. Conditions: as each theorem states.
-/
import Derived.Test.YteciblfmgdlipaaGreatDoorMR15
set_option linter.unusedSimpArgs false
set_option linter.unusedVariables false
set_option maxRecDepth 100000
set_option maxHeartbeats 16000000
namespace Go.Proofs.YteciblfmgdlipaaGreatDoor.AS
open Go.RowKit Go.Great CK
theorem Zxm (mem:Int) (nd:Nat) (fs:List FnP) (pd pF:Option Addr) (cd cF B:Nat) (w:World) (hB:B<=w.heap.size) (hF:Zam w B pF fs) (hn:nd<=9223372036854775807) (hI:∀ f∈fs,∀ x∈f.2.2.2,Ypr x.2) :
 Calls Tryz.prog 23 #[.agg #[.int .i64 mem,.slice pd nd cd,.slice pF fs.length cF]] w fun e w'=>e = .returned (.int .i64 (Xg mem nd fs))/\w.grownBy w' none:=by
 have FF:=Hq hF
 have II:=Hq hI
 clear hF hI
 by_cases hbad:mem<0\/65536<mem\/mem<nd\/fs.length<1\/64<fs.length
 · have hE:Xg mem nd fs=121:=by unfold Xg;rw [if_pos hbad]
   rw [hE]
   have hni:(fs.length:Int)<1\/¬ (fs.length:Int)<1:=Classical.em _
   rcases (by omega:mem<0\/(0<=mem/\65536<mem)\/(0<=mem/\mem<=65536/\mem<(nd:Int))\/(0<=mem/\mem<=65536/\(nd:Int)<=mem/\(fs.length:Int)<1)\/(0<=mem/\mem<=65536/\(nd:Int)<=mem/\1<=(fs.length:Int)/\64<(fs.length:Int))) with q1|⟨q1,q2⟩|⟨q1,q2,q3⟩|⟨q1,q2,q3,q4⟩|⟨q1,q2,q3,q4,q5⟩
   all_goals
    clear hbad hni hE
    go_enter Tryz.func23,Tryz.ntmps23
    go_wp2
    go_ret
    exact ⟨rfl,Ga _ _ _⟩
 · have hE:Xg mem nd fs=Zpn fs:=by unfold Xg;rw [if_neg hbad]
   have q1:0<=mem:=by omega
   have q2:mem<=65536:=by omega
   have q3:(nd:Int)<=mem:=by omega
   have q4:1<=(fs.length:Int):=by omega
   have q5:(fs.length:Int)<=64:=by omega
   clear hbad
   go_enter Tryz.func23,Tryz.ntmps23
   go_wp2
   have BX:=Hq (Zwr w mem (.slice pd nd cd) (.slice pF fs.length cF))
   have G0:=Hq (Ga w (.cells #[.int .i64 mem,.slice pd nd cd,.slice pF fs.length cF] 26) none)
   generalize w.alloc (.cells #[.int .i64 mem,.slice pd nd cd,.slice pF fs.length cF] 26)=w1 at *
   go_loopw [3] (fun i wr=>∃ k:Nat,i = .int .i64 k/\k<=fs.length/\Zpn fs=Zpn (fs.drop k)/\w1.grownBy wr none) (fun i _=>fs.length - (intOf i).toNat)
   case atStart=>exact ⟨0,rfl,Nat.zero_le _,rfl,Zd _ _⟩
   case round =>
    obtain ⟨k,rfl,hk,he,hg1⟩:=hrel
    have HE:=Hq he
    have G1:=Hq hg1
    have hbx:=Yee BX.out hg1 (by simp)
    have y2:=Cq wr _ 2 _ _ _ hbx
    have ly:=(Gs hbx)
    have hg:=Za G0.out hg1
    have GR:=Hq hg
    clear hbx hg1
    by_cases hlt:(k:Int)<(fs.length:Int)
    · obtain ⟨⟨a,lo,r,c⟩,hf⟩:∃ x,fs[k]? = some x:=⟨_,List.getElem?_eq_getElem (by omega)⟩
      obtain ⟨b,o,rfl,hb,hc⟩:=FF.out (by omega)
      obtain ⟨c0,c1,c2,pc,cc,c3,hcode⟩:=hc k a lo r c hf
      replace c0:=Xt hg (B:=B) (by simp) hb c0
      replace c1:=Xt hg (B:=B) (by simp) hb c1
      replace c2:=Xt hg (B:=B) (by simp) hb c2
      replace c3:=Xt hg (B:=B) (by simp) hb c3
      have hb2:b<wr.heap.size:=by have:=hg.size;omega
      have hst:=Zrl hf
      have gW:=Za hg (Ga wr (.cells #[.int .i64 a,.int .i64 lo,.int .i64 r,.slice pc c.length cc] 61) none)
      have EC:=Hq (Zta c pc cc B (wr.alloc (.cells #[.int .i64 a,.int .i64 lo,.int .i64 r,.slice pc c.length cc] 61)) (Nat.le_trans hB gW.size) (Jt hcode gW (by simp)) (II.out _ (List.mem_of_getElem? hf)))
      have GW:=Hq gW
      clear hc he hg hcode hf gW
      by_cases hbad:a<0\/16<a\/lo<a\/64<lo\/r<0\/1<r\/c.length<1\/4096<c.length
      · have hfn:fnE (a,lo,r,c)=121:=by unfold fnE;rw [if_pos hbad]
        rw [hfn,if_neg (by decide)] at hst
        have H2:=Hq (hE.trans (HE.out.trans hst))
        clear hst hfn EC
        rcases (by omega:a<0\/(0<=a/\16<a)\/(0<=a/\a<=16/\lo<a)\/(0<=a/\a<=16/\a<=lo/\64<lo)\/(0<=a/\a<=16/\a<=lo/\lo<=64/\r<0)\/(0<=a/\a<=16/\a<=lo/\lo<=64/\0<=r/\1<r)\/(0<=a/\a<=16/\a<=lo/\lo<=64/\0<=r/\r<=1/\(c.length:Int)<1)\/(0<=a/\a<=16/\a<=lo/\lo<=64/\0<=r/\r<=1/\1<=(c.length:Int)/\4096<(c.length:Int))) with p1|⟨p1,p2⟩|⟨p1,p2,p3⟩|⟨p1,p2,p3,p4⟩|⟨p1,p2,p3,p4,p5⟩|⟨p1,p2,p3,p4,p5,p6⟩|⟨p1,p2,p3,p4,p5,p6,p7⟩|⟨p1,p2,p3,p4,p5,p6,p7,p8⟩
        all_goals
         clear hbad
         go_wp2
         go_ret
         exact ⟨Zhy H2.out.symm,GW.out⟩
      · have hfn:fnE (a,lo,r,c)=Zdz c:=by unfold fnE;rw [if_neg hbad]
        have hco:Zhj c=Zdz c:=by unfold Zhj;rw [if_neg (by omega)]
        rw [hfn] at hst
        have p1:0<=a:=by omega
        have p2:a<=16:=by omega
        have p3:a<=lo:=by omega
        have p4:lo<=64:=by omega
        have p5:0<=r:=by omega
        have p6:r<=1:=by omega
        have p7:1<=(c.length:Int):=by omega
        have p8:(c.length:Int)<=4096:=by omega
        clear hbad hfn
        by_cases hz:Zdz c=0
        · rw [if_pos hz] at hst
          have H2:=Hq (HE.out.trans hst)
          have HZ:=Hq (hco.trans hz)
          clear hst hz hco
          go_wp2_with (go_at_call 51;refine EC.out.mono ?_;rintro e w4 ⟨v4,rfl,hg4⟩;have G4:=Hq hg4;clear hg4;rw [HZ.out])
          go_roundw
          case rel=>exact ⟨k+1,by go_num,by omega,H2.out,Za G1.out (Za (Ga _ _ none) G4.out)⟩
          case measure=>simp [intOf];omega
        · rw [if_neg hz] at hst
          have H2:=Hq (hE.trans (HE.out.trans hst))
          have hz2:(Zdz c != 0)=true:=by simpa using hz
          have HZ:=Hq hco
          clear hst hz hco
          go_wp2_with (go_at_call 51;refine EC.out.mono ?_;rintro e w4 ⟨v4,rfl,hg4⟩;have G4:=Hq hg4;clear hg4;rw [HZ.out])
          go_ret
          exact ⟨Zhy H2.out.symm,Za GW.out G4.out⟩
    · have hkn:k=fs.length:=by omega
      have hfin:Zpn fs=0:=by rw [he,hkn,List.drop_length];rfl
      clear he
      go_wp2
      go_ret
      first
       | exact ⟨rfl,GR.out⟩
       | exact ⟨Zhy (hE.trans hfin).symm,GR.out⟩
end Go.Proofs.YteciblfmgdlipaaGreatDoor.AS
