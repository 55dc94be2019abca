/-
  Part of a proof: contracts of functions and lemmas, each stated by its own theorem. Conditions: as each theorem states.
-/
import Derived.Test.YteciblfmgdlipaaGreatDoorMI25
import Derived.Deep.Strs
set_option linter.unusedSimpArgs false
set_option linter.unusedVariables false
set_option maxRecDepth 100000
set_option maxHeartbeats 16000000
namespace Go.Proofs.YteciblfmgdlipaaGreatDoor.AS
open Go.RowKit Go.Great CK
section
variable {H:Type} {enc:TypeId × Value->H} {w:World}
theorem rd_strs_und:Tryz.prog.underlying 37=some (.slice 9):=by kernel_rfl
theorem read_strs {v:Value} {d:DataW H} {ps:List MemPlace} (hv:∃ a len cap,v = .slice a len cap) (h:DataW.Trod enc Tryz.prog w 0 (fun _=>true) true 37 v d ps) :
 ∃ (p:Option Addr) (ls:List Txt) (cap:Nat),v = .slice p ls.length cap/\Ydu w p ls/\ls.length<=maxLen:=by
 obtain ⟨a0,l0,c0,rfl⟩:=hv
 obtain ⟨fuel,h⟩:=h
 have h':DataW.trod enc Tryz.prog w 0 (fun _=>true) true fuel 37 [.slice a0 l0 c0]=some (d,ps):=h
 rcases Deep.open_strs rd_strs_und (by kernel_rfl) (by kernel_rfl) h' with ⟨e,_⟩|⟨a,len,cap,m,Sx,e,_,hl,hm,hmm,_,hx⟩
 · injection e with e _
   exact ⟨none,[],0,e,fun h0=>absurd h0 (by simp),Nat.zero_le _⟩
 · injection e with e _
   simp only [if_true] at hmm
   rw [hmm] at hx
   refine ⟨some a,(List.range len).map fun i=>(Sx i).data.toList,cap,by rw [e];simp,fun h0 => ?_,by simpa using Nat.le_trans hl hm⟩
   simp only [List.length_map,List.length_range] at h0
   obtain ⟨b,o,spot⟩:=a
   have hspot:spot=none:=by
    have h6:=World.cell?_spot (hx 0 (by omega)).1
    simpa [Addr.add] using h6
   subst hspot
   refine ⟨b,o,rfl,World.block_lt_of_cell? _ _ (hx 0 (by omega)).1,fun i l hi => ?_⟩
   have hil:=(List.getElem?_eq_some_iff.1 hi).1
   simp only [List.length_map,List.length_range] at hil
   have e1:l=(Sx i).data.toList:=by
    have:=(List.getElem?_eq_some_iff.1 hi).2
    simpa using this.symm
   subst e1
   have h7:=(hx i (by omega)).1
   rw [Zpd]
   have e2:((⟨b,o,none⟩:Addr).add i)=⟨b,o+i,none⟩:=by
    by_cases h8:i=0 <;> simp [Addr.add,h8]
   rw [e2] at h7
   exact h7
end
theorem lines_law (ls:List Txt) (p:Option Addr) (cc:Nat) (w:World) (hW:LibW w) (h:Ydu w p ls) (hn:ls.length<=maxLen):Calls Tryz.prog 4 #[.slice p ls.length cc] w fun e w'=>e = .returned (.bool true)/\w.grownBy w' none:=by
 have LW:=Hq hW
 have HT:=Hq h
 have PZ:=Hq (fun t W (h:LibW W)=>Yci t W h)
 have hn2:ls.length<=9223372036854775807:=by unfold maxLen at hn;omega
 clear hW h hn
 go_enter Tryz.func4,Tryz.ntmps4
 go_wp2
 go_loopw [3,4] (fun v i wr=>∃ (k:Nat) (tx:Txt),i = .int .i64 k/\v = .string (bs tx)/\k<=ls.length/\tx.length<=1200000/\w.grownBy wr none) (fun _ i _=>ls.length - (intOf i).toNat)
 case atStart=>exact ⟨0,[],rfl,rfl,Nat.zero_le _,Nat.zero_le _,Zb _ _⟩
 case round =>
  obtain ⟨k,tx,rfl,rfl,hk,htx,hg⟩:=hrel
  have GR:=Hq hg
  have hz:=Zl tx
  have PT:=Hq (PZ.out tx wr (Ym LW.out hg))
  clear hg
  by_cases hkl:k<ls.length
  · obtain ⟨l,hl⟩:∃ l,ls[k]? = some l:=⟨_,List.getElem?_eq_getElem hkl⟩
    obtain ⟨b,o,rfl,hb,hc⟩:=HT.out (by omega)
    have c0:=GR.out.cell (hc k l hl) (by simp)
    have hb2:=Nat.lt_of_lt_of_le hb GR.out.size
    have hzl:=Zl l
    have hkli:(k:Int)<(ls.length:Int):=by omega
    clear hc hl
    by_cases h1:tx.length<=65536
    · have h1i:(tx.length:Int)<=65536:=by omega
      by_cases h2:l.length<=1048576
      · have h2i:(l.length:Int)<=1048576:=by omega
        by_cases hk0:k=0
        · subst hk0
          simp only [Nat.add_zero] at c0
          have hcat:=Zbo tx l
          have hov:¬ 9223372036854775807<(bs tx).size+(bs l).size:=by rw [hz,hzl];omega
          have hov2:¬ 9223372036854775807<tx.length+l.length:=by omega
          have HX:=Hq hcat
          clear hcat
          go_wp2
          exact ⟨⟨1,tx++l,rfl,by rw [HX.out],by omega,by rw [List.length_append];omega,GR.out⟩,by simp [intOf];omega⟩
        · have hk0i:(k:Int)>0:=by omega
          have hov2:¬ 9223372036854775807<tx.length+1:=by omega
          have hov3:¬ 9223372036854775807<tx.length+1+l.length:=by omega
          have HX:=Hq (show bs (tx++10::l)=bs tx++⟨#[10]⟩++bs l by
           have e1:=(Zig tx [10] (x:=bs tx) (y:=⟨#[10]⟩) rfl rfl)
           rw [e1,Zbo];simp)
          clear hk0
          go_wp2
          exact ⟨⟨k+1,tx++10::l,by go_num,by rw [HX.out],by omega,by rw [List.length_append,List.length_cons];omega,GR.out⟩,by simp [intOf];omega⟩
      · have h2i:¬ (l.length:Int)<=1048576:=by omega
        clear h2
        go_wp2_with (go_at_call 3;refine PT.out.mono ?_;rintro e w2 ⟨rfl,hg2⟩;have G2:=Hq (Za GR.out hg2);clear hg2)
        go_ret
        exact ⟨rfl,G2.out⟩
    · have h1i:¬ (tx.length:Int)<=65536:=by omega
      clear h1
      go_wp2_with (go_at_call 3;refine PT.out.mono ?_;rintro e w2 ⟨rfl,hg2⟩;have G2:=Hq (Za GR.out hg2);clear hg2)
      go_ret
      exact ⟨rfl,G2.out⟩
  · have hkli:¬ (k:Int)<(ls.length:Int):=by omega
    clear hkl
    go_wp2_with (go_at_call 3;refine PT.out.mono ?_;rintro e w2 ⟨rfl,hg2⟩;have G2:=Hq (Za GR.out hg2);clear hg2)
    go_ret
    exact ⟨rfl,G2.out⟩
end Go.Proofs.YteciblfmgdlipaaGreatDoor.AS
