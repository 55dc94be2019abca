/-
  Part of a proof: contracts of functions and lemmas, each stated by its own theorem. Conditions: as each theorem states.
-/
import Derived.Test.YteciblfmgdlipaaGreatDoorMR04
import Derived.Test.YteciblfmgdlipaaGreatDoorMR02
import Derived.Deep.QuietTactic
import Derived.BigQuiet
set_option linter.unusedSimpArgs false
set_option linter.unusedVariables false
set_option maxRecDepth 100000
set_option maxHeartbeats 16000000
namespace Go.Proofs.YteciblfmgdlipaaGreatDoor.AS
open Go.RowKit Go.Great CK
def Zdi (w:World) (p:Option Addr) (d:Txt):Prop:=0<d.length->∃ b o,p=some ⟨b,o,none⟩/\b<w.heap.size/\∀ (i:Nat) (c:UInt8),d[i]? = some c->w.cell? ⟨b,o+i,none⟩=some (.int .u8 (c.toNat:Int))
theorem Zgb {w w':World} {p:Option Addr} {d:Txt} (h:Zdi w p d) (g:w.grownBy w' none):Zdi w' p d:=fun h0=>by
 obtain ⟨b,o,e,hb,hc⟩:=h h0
 exact ⟨b,o,e,Nat.lt_of_lt_of_le hb g.size,fun i c hi=>g.cell (hc i c hi) (by simp)⟩
theorem Yms (w:World) (c:UInt8):Buf (w.alloc (.cells #[.int .u8 (c.toNat:Int)] 5)) w.heap.size (.slice (some ⟨w.heap.size,0,none⟩) 1 1) [c] :=
 World.ownsRow_lit (e:=5) (size:=1) w #[.int .u8 (c.toNat:Int)] 1 (Nat.le_refl _) (by decide) rfl
theorem Zxo (k:IntKind) (x y z u:Int):∀ v∈[Value.int k x,Value.int k y,Value.int k z,Value.int k u],v.oneCell'=true:=by
 intro v hv
 simp at hv
 rcases hv with rfl|rfl|rfl|rfl <;> rfl
theorem Zka {w2:World} {E:Nat} {v:Value} {acc s:Txt} (h:w2.ownsRow E 5 1 v (acc.length+s.length) (bvs acc++bvs s)):Buf w2 E v (acc++s):=by
 unfold Buf
 rw [Zir,List.length_append]
 exact h
theorem Jp {E:Nat} {wr:World} (h:E<=wr.heap.size) (o:Obj):E<=(wr.alloc o).heap.size:=by simp;omega
def qt9:Nat->Nat
 | 0=>35
 | 1=>36
 | 2=>37
 | 3=>38
 | 4=>39
 | 5=>40
 | 6=>41
 | 7=>42
 | 8=>43
 | 9=>3
 | _=>5000
theorem Zeb:∀ i,i<10->∀ j,j<10->j≠i->qt9 j≠qt9 i:=by decide
theorem Zmv (i:Nat) (h:i<10):i=0\/i=1\/i=2\/i=3\/i=4\/i=5\/i=6\/i=7\/i=8\/i=9:=by omega
theorem Ybg (j:Nat) (hj:j∈[5]):∀ i,i<10->qt9 i≠j:=by revert j;decide
def Zmu (E na c0:Nat) (cv h1 h2 d1 d2:Int) (p0:Option Addr) (ys:List Value) (q2:Nat) (gv:Nat) (cv9:Nat):Nat->Value
 | 0 => .slice p0 na c0
 | 1 => .int .u8 cv
 | 2 => .int .u8 h1
 | 3 => .int .u8 d1
 | 4 => .int .u8 cv
 | 5 => .int .u8 h2
 | 6 => .int .u8 d2
 | 7 => .slice (some ⟨q2,0,none⟩) 4 4
 | 8 => .slice (some ⟨gv,0,none⟩) (na+4) cv9
 | 9 => .slice (some ⟨gv,0,none⟩) (na+4) cv9
 | _=>undef
def Yre (E na c0:Nat) (cv h1 h2 d1 d2:Int) (p0:Option Addr) (ys:List Value) (q2:Nat) (gv:Nat) (cv9:Nat):Nat->World->Prop
 | 7=>fun w9=>w9.heap[q2]? = some (.cells #[.int .u8 92,.int .u8 120,.int .u8 d1,.int .u8 d2] 5 (0,0))
 | 8=>fun w9=>w9.ownsRow E 5 1 (.slice (some ⟨gv,0,none⟩) (na+4) cv9) (na+4) (ys++[.int .u8 92,.int .u8 120,.int .u8 d1,.int .u8 d2])
 | _=>fun _=>True
theorem Yoi {E na c0:Nat} {cv h1 h2 d1 d2:Int} {p0:Option Addr} {ys:List Value} {q2:Nat} {gv:Nat} {cv9:Nat} {q22:Nat} {l:Array Bool} (hcl:∀ p∈([(2,1),(3,2),(5,4),(6,5),(7,3),(7,6),(8,0),(8,7),(9,8)]:List (Nat × Nat)),l.getD (Prod.fst p) false=true->l.getD (Prod.snd p) false=true) (hun:l.getD 7 false=false):∀ i,i<10->l.getD i false=true->qt9 i<49->Zmu E na c0 cv h1 h2 d1 d2 p0 ys q22 gv cv9 i=Zmu E na c0 cv h1 h2 d1 d2 p0 ys q2 gv cv9 i:=by
 intro i hi hl _
 rcases Zmv i hi with rfl|rfl|rfl|rfl|rfl|rfl|rfl|rfl|rfl|rfl
 · rfl
 · rfl
 · rfl
 · rfl
 · rfl
 · rfl
 · rfl
 · exact Zm (hl) hun
 · rfl
 · rfl
theorem Yoh {E na c0:Nat} {cv h1 h2 d1 d2:Int} {p0:Option Addr} {ys:List Value} {q2:Nat} {gv:Nat} {cv9:Nat} {gv2:Nat} {cv92:Nat} {l:Array Bool} (hcl:∀ p∈([(2,1),(3,2),(5,4),(6,5),(7,3),(7,6),(8,0),(8,7),(9,8)]:List (Nat × Nat)),l.getD (Prod.fst p) false=true->l.getD (Prod.snd p) false=true) (hun:l.getD 8 false=false):∀ i,i<10->l.getD i false=true->qt9 i<49->Zmu E na c0 cv h1 h2 d1 d2 p0 ys q2 gv2 cv92 i=Zmu E na c0 cv h1 h2 d1 d2 p0 ys q2 gv cv9 i:=by
 intro i hi hl _
 rcases Zmv i hi with rfl|rfl|rfl|rfl|rfl|rfl|rfl|rfl|rfl|rfl
 · rfl
 · rfl
 · rfl
 · rfl
 · rfl
 · rfl
 · rfl
 · rfl
 · exact Zm (hl) hun
 · exact Zm (hcl (9,8) (by decide) (hl)) hun
theorem Yjn (h:Nat) (hh:h<16):∀ (h2:h<(⟨#[48,49,50,51,52,53,54,55,56,57,97,98,99,100,101,102]⟩:ByteArray).size),(⟨#[48,49,50,51,52,53,54,55,56,57,97,98,99,100,101,102]⟩:ByteArray)[h]'h2=Yjo h:=by
 have:h=0\/h=1\/h=2\/h=3\/h=4\/h=5\/h=6\/h=7\/h=8\/h=9\/h=10\/h=11\/h=12\/h=13\/h=14\/h=15:=by omega
 rcases this with rfl|rfl|rfl|rfl|rfl|rfl|rfl|rfl|rfl|rfl|rfl|rfl|rfl|rfl|rfl|rfl <;> (intro h2;rfl)
theorem Yph:∀ (x:Fin 256),bits BinOp.and IntKind.u8 (x.val:Int) 15=((x.val % 16:Nat):Int):=by decide
theorem Ymz (c:UInt8):bits BinOp.and IntKind.u8 (c.toNat:Int) 15=((c.toNat % 16:Nat):Int):=Yph ⟨c.toNat,c.toNat_lt⟩
theorem Yhv (w:World) (a b:Int):(Instr.buildSlice 23 4 #[(0,.int .u8 92),(1,.int .u8 120),(2,.int .u8 a),(3,.int .u8 b)]).run Tryz.prog w = .ok (.slice (some ⟨w.heap.size,0,none⟩) 4 4) (w.alloc (.cells #[.int .u8 92,.int .u8 120,.int .u8 a,.int .u8 b] 5)):=by kernel_rfl
theorem Ykt {w:World} {e:Nat} {cs:List Value} {t:TypeId} (h:w.heap[e]? = some (.cells cs.toArray t (0,0))):∀ j u,cs[j]? = some u->w.cell? ((⟨e,0,none⟩:Addr).add j)=some u:=fun j u hj=>by
 have e1:((⟨e,0,none⟩:Addr).add j)=⟨e,j,none⟩:=by
  unfold Addr.add
  by_cases h0:j=0 <;> simp [h0]
 rw [e1]
 simp [World.cell?,h,hj]
theorem Zmf {a b c:World} {r:Option Nat} (h:a.grownBy b none) (g:b.grownBy c r):a.grownBy c r:=Za (Zli h) g
theorem Ybf (d:Txt) (p:Option Addr) (cc:Nat) (w:World) (h:Zdi w p d) (hl:d.length<=70000):Calls Tryz.prog 40 #[.slice p d.length cc] w fun e w'=>e = .returned (.string (bs (Zsm d)))/\w.grownBy w' none:=by
 have HB:=Hq h
 clear h
 obtain ⟨bi,bi0,bi1,bi2,bi3⟩:=info_parts Jn
 go_enter Tryz.func40,Tryz.ntmps40
 go_wp2
 go_loopw [3,9] (fun v i wr=>∃ k:Nat,i = .int .i64 k/\k<=d.length/\Buf wr w.heap.size v (34::(d.take k).flatMap Zqf)/\w.grownBy wr none) (fun _ i _=>d.length - (intOf i).toNat)
 case atStart=>exact ⟨0,rfl,Nat.zero_le _,Yms w 34,Ga _ _ _⟩
 case round =>
  obtain ⟨k,rfl,hk,ho,hg⟩:=hrel
  obtain ⟨acc,hacc⟩:∃ acc,acc=34::(d.take k).flatMap Zqf:=⟨_,rfl⟩
  rw [<- hacc] at ho
  have hal:acc.length<=280001:=by
   rw [hacc,List.length_cons]
   have:=Zkm (d.take k)
   have:(d.take k).length<=d.length:=by rw [List.length_take];omega
   omega
  obtain ⟨p0,c0,rfl⟩:=Zeo ho
  have OW:=Hq ho
  have GR:=Hq hg
  have hgs:=hg.size
  have cv:=Zkb ho
  have HA:=Hq hacc
  clear ho hg hacc
  by_cases hlt:k<d.length
  · obtain ⟨c,hq⟩:∃ c,d[k]? = some c:=⟨_,List.getElem?_eq_getElem hlt⟩
    obtain ⟨b,o,rfl,hb,hc⟩:=HB.out (by omega)
    have x0:=GR.out.cell (hc k c hq) (by simp)
    have hb2:=Nat.lt_of_lt_of_le hb GR.out.size
    have NX:=Hq (show acc++Zqf c=34::(d.take (k+1)).flatMap Zqf by rw [HA.out,Yan d k c hq];rfl)
    have c255:=c.toNat_lt
    clear hc hq
    by_cases he:c.toNat=34\/c.toNat=92
    · have QC:=Hq (Yge he)
      have fin:∀ (v:Value) (w5:World),w5.ownsRow w.heap.size 5 1 v (acc.length+2) (bvs acc++[.int .u8 92,.int .u8 (c.toNat:Int)])->Buf w5 w.heap.size v (34::(d.take (k+1)).flatMap Zqf):=fun v w5 h=>by
       rw [<- NX.out,QC.out];exact Zka h
      have FI:=Hq fin
      clear fin
      rcases (by omega:(c.toNat:Int)=34\/(c.toNat:Int)=92) with e1|e1
      all_goals
       clear he
       rw [e1] at x0 FI
       go_wp2_with (at_builtin;refine wpList_append_own_at _ rfl _ _ 23 rfl w.heap.size 5 bi (.int .u8 0) 1 1 Xk bi0 bi1 bi2 bi3 rfl (by decide) (.slice p0 acc.length c0) _ _ rfl (World.ownsRow.alloc OW.out _) ⟨wr.heap.size,0,none⟩ 2 2 _ rfl rfl (Yka _ _ _ _) (Yfe _ _ _) (by unfold maxLen;omega) (by omega) (Jp hgs _) ?_;intro v3 w5 hown3 hgr3 hnil3 hat3;obtain ⟨p3,k3,hv3⟩:=Zk hown3;subst hv3;have OW3:=Hq hown3;have GR3:=Hq hgr3;clear hown3 hgr3 hnil3 hat3)
       exact ⟨⟨k+1,by go_num,by omega,FI.out _ _ OW3.out,Yj (Za GR.out (Ga _ _ none)) GR3.out (fun q hq=>(World.ownsRow.lt OW.out q hq).1)⟩,by simp [intOf];omega⟩
    · have e34:((c.toNat:Int) == 34)=false:=beq_eq_false_iff_ne.2 (by omega)
      have e92:((c.toNat:Int) == 92)=false:=beq_eq_false_iff_ne.2 (by omega)
      by_cases h2:c.toNat<32\/126<c.toNat
      · obtain ⟨x1,hx1⟩:∃ x,x=c.toNat / 16:=⟨_,rfl⟩
        obtain ⟨x2,hx2⟩:∃ x,x=c.toNat % 16:=⟨_,rfl⟩
        have hsh:(c.toNat:Int) / 16=(x1:Int):=by omega
        have han:=Ymz c
        have hlt1:(x1:Int)<16:=by omega
        have hlt2:(x2:Int)<16:=by omega
        have hy1:=Yjn x1 (by omega)
        have hy2:=Yjn x2 (by omega)
        have QC0:=Ygd he h2
        rw [<- hx2] at han QC0
        rw [<- hx1] at QC0
        generalize Yjo x1=y1 at *
        generalize Yjo x2=y2 at *
        have QC:=Hq QC0
        clear QC0 hx1 hx2
        rcases (by omega:(c.toNat:Int)<32\/(¬ (c.toNat:Int)<32/\126<(c.toNat:Int))) with e1|⟨e1,e2⟩
        all_goals
         clear h2
         go_upto_region 9 with fail
         refine Xa (n:=10) (J:=fun a0 l a1 w1=>∃ (q2:Nat) (gv:Nat) (cv9:Nat),RJ a0 49 10 qt9 (Zmu w.heap.size acc.length c0 (c.toNat:Int) (x1:Int) (x2:Int) (y1.toNat:Int) (y2.toNat:Int) p0 (bvs acc) q2 gv cv9) l a1/\Zcs 10 10 8 [(2,1),(3,2),(5,4),(6,5),(7,3),(7,6),(8,0),(8,7),(9,8)] [(7,8)] (fun w9=>World.grownBy wr.drew w9 (Value.slice p0 acc.length c0).ownBlock) (fun w9=>w9.ownsRow w.heap.size 5 1 (.slice p0 acc.length c0) acc.length (bvs acc)) (Yre w.heap.size acc.length c0 (c.toNat:Int) (x1:Int) (x2:Int) (y1.toNat:Int) (y2.toNat:Int) p0 (bvs acc) q2 gv cv9) (fun _=>True) l w1) (by kernel_rfl) rfl (Xx (by kernel_rfl)) (fun l a1 w1 h=>by obtain ⟨_,_,_,h,_⟩:=h;exact h.sz) ⟨0,0,0,Yz rfl,Yf (Zd _ _) (OW.out.drew)⟩ ?step ?fin
         case step =>
          intro l a1 w' i hJJ hi hin
          obtain ⟨q2,gv,cv9,hJ,hW⟩:=hJJ
          have hun:l.getD i false=false:=getD_both (mem_ready.1 hi).1
          have hns:=Jv hW hin hun
          have hg:=hW.g hns
          rcases Zmv i hin with rfl|rfl|rfl|rfl|rfl|rfl|rfl|rfl|rfl|rfl
          · have e3:a1.tmps.getD 3 undef = .slice p0 acc.length c0:=hJ.un 3 (fun i9 hi9 hl9 e9=>by rcases Zmv i9 hi9 with rfl|rfl|rfl|rfl|rfl|rfl|rfl|rfl|rfl|rfl <;> first|exact absurd e9 (by decide)|exact Zm (hW.cl (8,0) (by decide) (hW.cl (9,8) (by decide) (hl9))) hun)
            exact Zh (Zc hJ hW hi hun rfl (by rfl) rfl (by decide) (by decide) (Zeb _ (by decide)) (w':=w') (by simp [execOp,resolve,invoke,builtin,Act.eval,e3,hsh,han,hlt1,hlt2,hy1,hy2,go_sem,Zmu]) (⟨by decide,by kernel_rfl,True.intro⟩)) (fun a9 w9 h9=>⟨q2,gv,cv9,h9⟩)
          · have e5:a1.tmps.getD 5 undef = .int .u8 (c.toNat:Int):=hJ.un 5 (fun i hi _=>Ybg 5 (by decide) i hi)
            exact Zh (Zc hJ hW hi hun rfl (by rfl) rfl (by decide) (by decide) (Zeb _ (by decide)) (w':=w') (by simp [execOp,resolve,invoke,builtin,Act.eval,e5,hsh,han,hlt1,hlt2,hy1,hy2,go_sem,Zmu]) (⟨by decide,by kernel_rfl,True.intro⟩)) (fun a9 w9 h9=>⟨q2,gv,cv9,h9⟩)
          · have e36:a1.tmps.getD 36 undef = .int .u8 (c.toNat:Int):=(Ze hJ hi 1 (by kernel_rfl))
            exact Zh (Zc hJ hW hi hun rfl (by rfl) rfl (by decide) (by decide) (Zeb _ (by decide)) (w':=w') (by simp [execOp,resolve,invoke,builtin,Act.eval,e36,hsh,han,hlt1,hlt2,hy1,hy2,go_sem,Zmu]) (⟨by decide,by kernel_rfl,True.intro⟩)) (fun a9 w9 h9=>⟨q2,gv,cv9,h9⟩)
          · have e37:a1.tmps.getD 37 undef = .int .u8 (x1:Int):=(Ze hJ hi 2 (by kernel_rfl))
            exact Zh (Zc hJ hW hi hun rfl (by rfl) rfl (by decide) (by decide) (Zeb _ (by decide)) (w':=w') (by simp [execOp,resolve,invoke,builtin,Act.eval,e37,hsh,han,hlt1,hlt2,hy1,hy2,go_sem,Zmu]) (⟨by decide,by kernel_rfl,True.intro⟩)) (fun a9 w9 h9=>⟨q2,gv,cv9,h9⟩)
          · have e5:a1.tmps.getD 5 undef = .int .u8 (c.toNat:Int):=hJ.un 5 (fun i hi _=>Ybg 5 (by decide) i hi)
            exact Zh (Zc hJ hW hi hun rfl (by rfl) rfl (by decide) (by decide) (Zeb _ (by decide)) (w':=w') (by simp [execOp,resolve,invoke,builtin,Act.eval,e5,hsh,han,hlt1,hlt2,hy1,hy2,go_sem,Zmu]) (⟨by decide,by kernel_rfl,True.intro⟩)) (fun a9 w9 h9=>⟨q2,gv,cv9,h9⟩)
          · have e39:a1.tmps.getD 39 undef = .int .u8 (c.toNat:Int):=(Ze hJ hi 4 (by kernel_rfl))
            exact Zh (Zc hJ hW hi hun rfl (by rfl) rfl (by decide) (by decide) (Zeb _ (by decide)) (w':=w') (by simp [execOp,resolve,invoke,builtin,Act.eval,e39,hsh,han,hlt1,hlt2,hy1,hy2,go_sem,Zmu]) (⟨by decide,by kernel_rfl,True.intro⟩)) (fun a9 w9 h9=>⟨q2,gv,cv9,h9⟩)
          · have e40:a1.tmps.getD 40 undef = .int .u8 (x2:Int):=(Ze hJ hi 5 (by kernel_rfl))
            exact Zh (Zc hJ hW hi hun rfl (by rfl) rfl (by decide) (by decide) (Zeb _ (by decide)) (w':=w') (by simp [execOp,resolve,invoke,builtin,Act.eval,e40,hsh,han,hlt1,hlt2,hy1,hy2,go_sem,Zmu]) (⟨by decide,by kernel_rfl,True.intro⟩)) (fun a9 w9 h9=>⟨q2,gv,cv9,h9⟩)
          · have e38:a1.tmps.getD 38 undef = .int .u8 (y1.toNat:Int):=(Ze hJ hi 3 (by kernel_rfl))
            have e41:a1.tmps.getD 41 undef = .int .u8 (y2.toNat:Int):=(Ze hJ hi 6 (by kernel_rfl))
            have f38:=e38
            rw [Array.getD_eq_getD_getElem?] at f38
            have f41:=e41
            rw [Array.getD_eq_getD_getElem?] at f41
            refine Xf (v:=Zmu w.heap.size acc.length c0 (c.toNat:Int) (x1:Int) (x2:Int) (y1.toNat:Int) (y2.toNat:Int) p0 (bvs acc) w'.heap.size gv cv9 7) (w':=w'.alloc (.cells #[.int .u8 92,.int .u8 120,.int .u8 (y1.toNat:Int),.int .u8 (y2.toNat:Int)] 5)) rfl (by rfl) (by simp [execOp,Act.eval,e38,f38,e41,f41,Yhv,Result.andThen,Zmu]) ⟨w'.heap.size,gv,cv9,?_,Zv hW (by decide) hun (by decide) (Zj _ hi (by kernel_rfl)) (Za hg (Ga _ _ _)) (fun hne0 hun0 hB0=>hB0.alloc _) (fun j hj hne hl hcu hF => ?_) (heap_alloc_new w' _)⟩
            · exact Xm (val:=Zmu w.heap.size acc.length c0 (c.toNat:Int) (x1:Int) (x2:Int) (y1.toNat:Int) (y2.toNat:Int) p0 (bvs acc) w'.heap.size gv cv9) (Xo hJ (Yoi hW.cl hun)) (by decide) (by decide) (Zeb _ (by decide))
            · rcases Zmv j hj with rfl|rfl|rfl|rfl|rfl|rfl|rfl|rfl|rfl|rfl
              · exact True.intro
              · exact True.intro
              · exact True.intro
              · exact True.intro
              · exact True.intro
              · exact True.intro
              · exact True.intro
              · exact absurd rfl hne
              · exact Zm (hW.cl (8,7) (by decide) (hl)) hun
              · exact True.intro
          · have e35:a1.tmps.getD 35 undef = .slice p0 acc.length c0:=(Ze hJ hi 0 (by kernel_rfl))
            have e42:a1.tmps.getD 42 undef = .slice (some ⟨q2,0,none⟩) 4 4:=(Ze hJ hi 7 (by kernel_rfl))
            have F7:=hW.f hns 7 (by decide) (Zb hi 7 (by kernel_rfl)) (Zcu (c:=8) (by decide) hun)
            have own:=hW.u hun
            obtain ⟨v8,w8,hap,hown,hgr,-⟩:=run_append_own_at (P:=Tryz.prog) w' w.heap.size 23 23 5 bi (.int .u8 0) 1 1 Xk bi0 bi1 bi2 bi3 rfl (by decide) _ acc.length (bvs acc) own ⟨q2,0,none⟩ 4 4 [.int .u8 92,.int .u8 120,.int .u8 (y1.toNat:Int),.int .u8 (y2.toNat:Int)] rfl (Ykt F7) (Zxo _ _ _ _ _) (by unfold maxLen;omega) (by omega) (Nat.le_trans hgs hg.size)
            obtain ⟨gv2,cv92,hv⟩:=Zcc (n:=acc.length+3) hown
            subst hv
            refine Xf (v:=Zmu w.heap.size acc.length c0 (c.toNat:Int) (x1:Int) (x2:Int) (y1.toNat:Int) (y2.toNat:Int) p0 (bvs acc) q2 gv2 cv92 8) (w':=w8) rfl (by rfl) (by simp [execOp,resolve,invoke,builtin,Act.eval,e35,e42,hap,Result.andThen,Zmu]) ⟨q2,gv2,cv92,?_,Zv hW (by decide) hun (by decide) (Zj _ hi (by kernel_rfl)) (Za hg hgr) (fun hne0 hun0 hB0=>absurd rfl hne0) (fun j hj hne hl hcu hF => ?_) (hown)⟩
            · exact Xm (val:=Zmu w.heap.size acc.length c0 (c.toNat:Int) (x1:Int) (x2:Int) (y1.toNat:Int) (y2.toNat:Int) p0 (bvs acc) q2 gv2 cv92) (Xo hJ (Yoh hW.cl hun)) (by decide) (by decide) (Zeb _ (by decide))
            · rcases Zmv j hj with rfl|rfl|rfl|rfl|rfl|rfl|rfl|rfl|rfl|rfl
              · exact True.intro
              · exact True.intro
              · exact True.intro
              · exact True.intro
              · exact True.intro
              · exact True.intro
              · exact True.intro
              · exact absurd rfl (hcu (7,8) (by decide) rfl).1
              · exact absurd rfl hne
              · exact True.intro
          · have e43:a1.tmps.getD 43 undef = .slice (some ⟨gv,0,none⟩) (acc.length+4) cv9:=(Ze hJ hi 8 (by kernel_rfl))
            exact Zh (Zc hJ hW hi hun rfl (by rfl) rfl (by decide) (by decide) (Zeb _ (by decide)) (w':=w') (by simp [execOp,resolve,invoke,builtin,Act.eval,e43,hsh,han,hlt1,hlt2,hy1,hy2,go_sem,Zmu]) (⟨by decide,by kernel_rfl,True.intro⟩)) (fun a9 w9 h9=>⟨q2,gv,cv9,h9⟩)
         case fin =>
          intro l9 a1 w9 hJJ hl9
          obtain ⟨q2,gv,cv9,hJ,hW⟩:=hJJ
          have hg9:=hW.g (Zao hW)
          have F8:=hW.f (Zao hW) 8 (by decide) (hl9 8 (by decide)) (Zdt (by decide))
          have hput:=Xw hJ rfl hl9 (fun i j h1 h2 h3=>Zeb j h2 i h1 h3)
          subst hput
          clear hJ hW hl9
          (try refine hK _ _ ?_)
          simp only [Jy,qt9,Zmu,Act.put,List.setIfInBounds_toArray,List.set_cons_zero,List.set_cons_succ]
          have F9:=Hq (show Buf w9 w.heap.size (.slice (some ⟨gv,0,none⟩) (acc.length+4) cv9) (acc++Zqf c) by rw [QC.out];exact Zka (s:=[92,120,y1,y2]) F8)
          have GG:=Hq (Yj GR.out (Zmf (Zg (Zd wr none)) hg9) (fun q hq=>(World.ownsRow.lt OW.out q hq).1))
          clear hg9 F8
          go_wp2
          exact ⟨⟨k+1,by go_num,by omega,by rw [<- NX.out];exact F9.out,GG.out⟩,by simp [intOf];omega⟩
      · have QC:=Hq (Ygb he h2)
        have i1:¬ (c.toNat:Int)<32:=by omega
        have i2:¬ 126<(c.toNat:Int):=by omega
        clear he h2
        go_wp2_with (at_builtin;refine wpList_append_own_at _ rfl _ _ 23 rfl w.heap.size 5 bi (.int .u8 0) 1 1 Xk bi0 bi1 bi2 bi3 rfl (by decide) (.slice p0 acc.length c0) _ _ rfl (World.ownsRow.alloc OW.out _) ⟨wr.heap.size,0,none⟩ 1 1 _ rfl rfl (Zdp _ _ _) (Jq _ _) (by unfold maxLen;omega) (by omega) (Jp hgs _) ?_;intro v3 w5 hown3 hgr3 hnil3 hat3;obtain ⟨p3,k3,hv3⟩:=Zk hown3;subst hv3;have OW3:=Hq hown3;have GR3:=Hq hgr3;clear hown3 hgr3 hnil3 hat3)
        exact ⟨⟨k+1,by go_num,by omega,by rw [<- NX.out,QC.out];exact Zka OW3.out,Yj (Za GR.out (Ga _ _ none)) GR3.out (fun q hq=>(World.ownsRow.lt OW.out q hq).1)⟩,by simp [intOf];omega⟩
  · have hkn:k=d.length:=by omega
    subst hkn
    have HQ:=Hq (show Zsm d=acc++[34] by rw [HA.out,List.take_length];rfl)
    clear hlt
    go_wp2_with (first|(at_builtin;refine wpList_append_own_at _ rfl _ _ 23 rfl w.heap.size 5 bi (.int .u8 0) 1 1 Xk bi0 bi1 bi2 bi3 rfl (by decide) (.slice p0 acc.length c0) _ _ rfl (World.ownsRow.alloc OW.out _) ⟨wr.heap.size,0,none⟩ 1 1 _ rfl rfl (Zdp _ _ _) (Jq _ _) (by unfold maxLen;omega) (by omega) (Jp hgs _) ?_;intro v3 w5 hown3 hgr3 hnil3 hat3;obtain ⟨p3,k3,hv3⟩:=Zk hown3;subst hv3;have OW3:=Hq hown3;have GR3:=Hq hgr3;clear hown3 hgr3 hnil3 hat3;have cv3:=Zkb (show Buf w5 w.heap.size (.slice p3 (acc++[34]).length k3) (acc++[34]) from by rw [List.length_append];exact Zka OW3.out);rw [List.length_append] at cv3;simp only [List.length_cons,List.length_nil,Nat.zero_add] at cv3))
    go_ret
    rw [HQ.out]
    exact ⟨rfl,Yj (Za GR.out (Ga _ _ none)) GR3.out (fun q hq=>(World.ownsRow.lt OW.out q hq).1)⟩
theorem Zgz {α:Type} {l m:List α} (hn:l.length=m.length) (h:l.take l.length=m.take l.length):l=m:=by
 rw [List.take_length,hn,List.take_length] at h;exact h
theorem Zpt {α:Type} {l m:List α} {k:Nat} {x:α} (h:l.take k=m.take k) (h1:l[k]? = some x) (h2:m[k]? = some x):l.take (k+1)=m.take (k+1):=by
 rw [List.take_add_one,List.take_add_one,h,h1,h2]
theorem Zyd {α:Type} {l m:List α} {k:Nat} {x y:α} (h1:l[k]? = some x) (h2:m[k]? = some y) (h:x≠y):l≠m:=fun e=>by
 subst e
 rw [h1] at h2
 injection h2 with h2
 exact h h2
theorem Zat {p:Prop} [Decidable p] (h:¬ p):decide p=false:=decide_eq_false h
theorem Zsz (a b:List (Int × Int)) (pa pb:Option Addr) (ca cb A B:Nat) (w:World) (hA:Zhp w A pa a) (hB:Zhp w B pb b) (hn:a.length<=1000000000000) :
 Calls Tryz.prog 35 #[.slice pa a.length ca,.slice pb b.length cb] w fun e w'=>e = .returned (.bool (decide (a=b)))/\w.grownBy w' none:=by
 by_cases hl:a.length=b.length
 · have CA:=Hq hA
   have CB:=Hq hB
   have HL:=Hq hl
   clear hA hB
   rw [<- hl]
   clear hl
   go_enter Tryz.func35,Tryz.ntmps35
   go_wp2
   go_loopw [5] (fun i wr=>∃ k:Nat,i = .int .i64 k/\k<=a.length/\a.take k=b.take k/\w.grownBy wr none) (fun i _=>a.length - (intOf i).toNat)
   case atStart=>exact ⟨0,rfl,Nat.zero_le _,rfl,Zd _ _⟩
   case round =>
    obtain ⟨k,rfl,hk,ht,hg⟩:=hrel
    have HG:=Hq hg
    have HT:=Hq ht
    clear ht
    by_cases hlt:k<a.length
    · obtain ⟨⟨x,y⟩,hx⟩:∃ x,a[k]? = some x:=⟨_,List.getElem?_eq_getElem hlt⟩
      obtain ⟨⟨x',y'⟩,hx'⟩:∃ x,b[k]? = some x:=⟨_,List.getElem?_eq_getElem (by rw [<- HL.out];exact hlt)⟩
      obtain ⟨ga,oa,ea,la,fa⟩:=Jt CA.out hg (by simp) (by omega)
      obtain ⟨gb,ob,eb,lb,fb⟩:=Jt CB.out hg (by simp) (by rw [<- HL.out];omega)
      subst ea;subst eb
      obtain ⟨f0,f1⟩:=fa k x y hx
      obtain ⟨f2,f3⟩:=fb k x' y' hx'
      have la2:=World.block_lt_of_cell? _ _ f0
      have lb2:=World.block_lt_of_cell? _ _ f2
      have HX:=Hq hx
      have HX':=Hq hx'
      clear hg fa fb hx hx' la lb
      by_cases e1:x=x'
      · by_cases e2:y=y'
        · subst e1;subst e2
          go_wp2
          go_quiet (fail)
          go_wp2
          go_roundw
          case rel =>
           exact ⟨k+1,by go_num,by omega,Zpt HT.out HX.out HX'.out,Jd HG.out _⟩
          case measure=>simp [intOf];omega
        · subst e1
          have b2:(y == y')=false:=beq_eq_false_iff_ne.2 e2
          have HN:=Hq (Zat (Zyd HX.out HX'.out (fun e=>e2 (congrArg Prod.snd e))))
          go_wp2
          go_quiet (fail)
          go_wp2
          go_ret
          rw [HN.out]
          exact ⟨rfl,Jd HG.out _⟩
      · have b1:(x == x')=false:=beq_eq_false_iff_ne.2 e1
        have HN:=Hq (Zat (Zyd HX.out HX'.out (fun e=>e1 (congrArg Prod.fst e))))
        go_wp2
        go_quiet (fail)
        go_wp2
        go_ret
        rw [HN.out]
        exact ⟨rfl,Jd HG.out _⟩
    · have hkn:k=a.length:=by omega
      subst hkn
      have HE:=Hq (show decide (a=b)=true from decide_eq_true (Zgz HL.out HT.out))
      clear hg hlt
      go_wp2
      go_ret
      rw [HE.out]
      exact ⟨rfl,HG.out⟩
 · have HN:=Hq (Zat (fun e:a=b=>hl (by rw [e])))
   have hb:((a.length:Int) == (b.length:Int))=false:=beq_eq_false_iff_ne.2 (by omega)
   have hb2:((a.length:Int) != (b.length:Int))=true:=by rw [bne_iff_ne];omega
   clear hl
   go_enter Tryz.func35,Tryz.ntmps35
   go_wp2
   go_ret
   rw [HN.out]
   exact ⟨rfl,Zd _ _⟩
theorem Znw {w:World} {p:Option Addr} {d:Txt} (h:Zdi w p d) (c:Nat):(convert 23 9 (.slice p d.length c)).run Tryz.prog w = .ok (.string (bs d)) w:=by
 cases d with
 | nil =>
   cases p with
   | none=>exact run_convert_bytes_nil w _ _ Zde Zdd _ _ _ Jf
   | some ad =>
     have hl:(loadCells ad 0).run Tryz.prog w = .ok (([]:List Int).map (Value.int .u8)).toArray w:=by simpa using run_loadCells_list (P:=Tryz.prog) w ad [] (by simp)
     rw [show ([]:Txt).length=0 from rfl,run_convert_bytes_string w _ _ _ _ _ c Zde Zdd Jf]
     rw [run_bytesToString w ad 0 c [] hl]
     rfl
 | cons a r =>
   obtain ⟨b,o,rfl,hb,hc⟩:=h (by simp)
   rw [<- Zgk]
   refine run_convert_bytes_arg w _ _ Zde Zdd b o (a::r).length c _ (by simp) (fun i hi => ?_) _ Jf
   have hd:((a::r).map fun c=>(c.toNat:Int)).getD i 0=(((a::r)[i]'hi).toNat:Int):=by
    rw [List.getD_eq_getElem?_getD,List.getElem?_map,List.getElem?_eq_getElem hi];rfl
   rw [hd]
   exact hc i _ (List.getElem?_eq_getElem hi)
def Zgo (p q:PrP):Bool:=decide (p.1=q.1) && decide (p.2.1=q.2.1) && decide (p.2.2=q.2.2)
theorem Zms (p q:PrP):Zgo p q=true ↔ p=q:=by
 obtain ⟨a,b,c⟩:=p
 obtain ⟨a',b',c'⟩:=q
 simp [Zgo,and_assoc]
theorem Zkj (p:PrP):Zgo p p=true:=(Zms p p).2 rfl
theorem Zhx {p q:PrP} (h:p≠q):Zgo p q=false:=by
 cases e:Zgo p q
 · rfl
 · exact absurd ((Zms p q).1 e) h
theorem Zxh (mem:Int) (d:Txt) (fs fs':List FnR):Zgo (mem,d,fs) (mem,d,fs')=decide (fs=fs'):=by simp [Zgo]
theorem Yjt (s:Txt):(bs s).toList=s:=by rw [Lib.toList_data,Xd]
structure SmB (w:World) (b1 b2:Nat) (v1 v2:Array Value):Prop where
 h1:w.heap[b1]? = some (.cells v1 26 (0,0))
 h2:w.heap[b2]? = some (.cells v2 26 (0,0))
theorem Zuv {w w':World} {b1 b2:Nat} {v1 v2:Array Value} (h:SmB w b1 b2 v1 v2) (g:w.grownBy w' none):SmB w' b1 b2 v1 v2:=⟨Zf h.h1 g (by simp),Zf h.h2 g (by simp)⟩
theorem Ykg (w:World) (v1 v2:Array Value):SmB ((w.alloc (.cells v1 26)).alloc (.cells v2 26)) w.heap.size (w.heap.size+1) v1 v2:=by
 have h:=heap_alloc_new (w.alloc (.cells v1 26)) (.cells v2 26)
 rw [World.size_alloc] at h
 exact ⟨Zf (heap_alloc_new w _) (Ga _ _ none) (by simp),h⟩
theorem Ypg {d d':Txt} (h:d≠d'):((bs d).toList == (bs d').toList)=false:=by rw [Yjt,Yjt];exact beq_eq_false_iff_ne.2 h
theorem Zux (p p':PrP) (pd pd' pF pF':Option Addr) (cd cd' cF cF' B B':Nat) (w:World) (hn:p.2.2.length<=1000000000000) (hc:∀ x∈p.2.2,x.2.2.2.length<=1000000000000)
 (hD:Zdi w pd p.2.1) (hD':Zdi w pd' p'.2.1) (hF:Zam w B pF p.2.2) (hF':Zam w B' pF' p'.2.2) :
 Calls Tryz.prog 15 #[.agg #[.int .i64 p.1,.slice pd p.2.1.length cd,.slice pF p.2.2.length cF],.agg #[.int .i64 p'.1,.slice pd' p'.2.1.length cd',.slice pF' p'.2.2.length cF']] w fun e w'=>e = .returned (.bool (Zgo p p'))/\w.grownBy w' none:=by
 obtain ⟨mem,d,fs⟩:=p
 obtain ⟨mem',d',fs'⟩:=p'
 simp only at hn hc hD hD' hF hF' ⊢
 have G2:=Za (Ga w (.cells #[.int .i64 mem,.slice pd d.length cd,.slice pF fs.length cF] 26) none) (Ga _ (.cells #[.int .i64 mem',.slice pd' d'.length cd',.slice pF' fs'.length cF'] 26) none)
 have PA:=Hq (Xs hF G2 (by simp))
 have PB:=Hq (Xs hF' G2 (by simp))
 have k1:=Znw (Zgb hD G2) cd
 have k2:=Znw (Zgb hD' G2) cd'
 have GB:=Hq G2
 have BX:=Hq (Ykg w #[.int .i64 mem,.slice pd d.length cd,.slice pF fs.length cF] #[.int .i64 mem',.slice pd' d'.length cd',.slice pF' fs'.length cF'])
 have HC:=Hq hc
 clear hD hD' hF hF' G2 hc
 by_cases em:mem=mem'
 · by_cases ed:d=d'
   · by_cases en:fs.length=fs'.length
     · subst em;subst ed
       have HL:=Hq en
       have hni:(fs.length:Int)<=1000000000000:=by omega
       have HT0:=Hq (Zxh mem d fs fs')
       go_enter Tryz.func15,Tryz.ntmps15
       rw [<- en] at BX k1 k2 GB PA PB ⊢
       clear en
       go_wp2
       clear k1 k2
       generalize (w.alloc (.cells #[.int .i64 mem,.slice pd d.length cd,.slice pF fs.length cF] 26)).alloc (.cells #[.int .i64 mem,.slice pd' d.length cd',.slice pF' fs.length cF'] 26)=w2 at *
       go_loopw [5] (fun i wr=>∃ k:Nat,i = .int .i64 k/\k<=fs.length/\fs.take k=fs'.take k/\w2.grownBy wr none) (fun i _=>fs.length - (intOf i).toNat)
       case atStart=>exact ⟨0,rfl,Nat.zero_le _,rfl,Zd _ _⟩
       case round =>
        obtain ⟨k,rfl,hk,ht,hg⟩:=hrel
        have HG:=Hq hg
        have HT:=Hq ht
        have hx1:=(Zuv BX.out hg).h1
        have hx2:=(Zuv BX.out hg).h2
        have a2:=Cq wr _ 2 _ _ _ hx1
        have b2:=Cq wr _ 2 _ _ _ hx2
        have al:=(Gs hx1)
        have bbl:=(Gs hx2)
        clear ht hx1 hx2
        by_cases hlt:k<fs.length
        · obtain ⟨⟨a,l,r,c⟩,hx⟩:∃ x,fs[k]? = some x:=⟨_,List.getElem?_eq_getElem hlt⟩
          obtain ⟨⟨a',l',r',c'⟩,hx'⟩:∃ x,fs'[k]? = some x:=⟨_,List.getElem?_eq_getElem (by rw [<- HL.out];exact hlt)⟩
          obtain ⟨ga,oa,ea,la,ca⟩:=Xs PA.out hg (by simp) (by omega)
          obtain ⟨gb,ob,eb,lb,cb⟩:=Xs PB.out hg (by simp) (by rw [<- HL.out];omega)
          subst ea;subst eb
          obtain ⟨f0,f1,f2,pc,cc,f3,q4⟩:=ca k a l r c hx
          obtain ⟨f4,f5,f6,pc',cc',f7,t4⟩:=cb k a' l' r' c' hx'
          have la2:=World.block_lt_of_cell? _ _ f0
          have lb2:=World.block_lt_of_cell? _ _ f4
          have hcl:=HC.out _ (List.mem_of_getElem? hx)
          simp only [] at hcl
          have GW:=Za (Ga wr (.cells #[.int .i64 a,.int .i64 l,.int .i64 r,.slice pc c.length cc] 61) none) (Ga _ (.cells #[.int .i64 a',.int .i64 l',.int .i64 r',.slice pc' c'.length cc'] 61) none)
          have SI:=Hq (Zsz c c' pc pc' cc cc' B B' _ (Jt q4 GW (by simp)) (Jt t4 GW (by simp)) hcl)
          have HGW:=Hq (Za hg GW)
          have HX:=Hq hx
          have HX':=Hq hx'
          clear hg ca cb hx hx' q4 t4 GW la lb hcl
          by_cases e1:a=a'
          · by_cases e2:l=l'
            · by_cases e3:r=r'
              · subst e1;subst e2;subst e3
                by_cases e4:c=c'
                · subst e4
                  have TR:=Hq (show decide (c=c)=true by simp)
                  rw [TR.out] at SI
                  go_wp2_with (go_at_call 35;refine SI.out.mono ?_;rintro e w5 ⟨rfl,hg5⟩;have G5:=Hq hg5;clear hg5)
                  exact ⟨⟨k+1,by go_num,by omega,Zpt HT.out HX.out HX'.out,Za HGW.out G5.out⟩,by simp [intOf];omega⟩
                · rw [Zat e4] at SI
                  have HN:=Hq (HT0.out.trans (Zat (Zyd HX.out HX'.out (fun e=>e4 (congrArg (fun x=>x.2.2.2) e)))))
                  go_wp2_with (go_at_call 35;refine SI.out.mono ?_;rintro e w5 ⟨rfl,hg5⟩;have G5:=Hq hg5;clear hg5)
                  go_ret
                  rw [HN.out]
                  exact ⟨rfl,Za GB.out (Za HGW.out G5.out)⟩
              · have b3:(r == r')=false:=beq_eq_false_iff_ne.2 e3
                have b3':(r != r')=true:=by rw [bne_iff_ne];exact e3
                have HN:=Hq (HT0.out.trans (Zat (Zyd HX.out HX'.out (fun e=>e3 (congrArg (fun x=>x.2.2.1) e)))))
                subst e1;subst e2
                go_wp2
                go_ret
                rw [HN.out]
                exact ⟨rfl,Za GB.out HGW.out⟩
            · have b3:(l == l')=false:=beq_eq_false_iff_ne.2 e2
              have b3':(l != l')=true:=by rw [bne_iff_ne];exact e2
              have HN:=Hq (HT0.out.trans (Zat (Zyd HX.out HX'.out (fun e=>e2 (congrArg (fun x=>x.2.1) e)))))
              subst e1
              go_wp2
              go_ret
              rw [HN.out]
              exact ⟨rfl,Za GB.out HGW.out⟩
          · have b3:(a == a')=false:=beq_eq_false_iff_ne.2 e1
            have b3':(a != a')=true:=by rw [bne_iff_ne];exact e1
            have HN:=Hq (HT0.out.trans (Zat (Zyd HX.out HX'.out (fun e=>e1 (congrArg (fun x=>x.1) e)))))
            go_wp2
            go_ret
            rw [HN.out]
            exact ⟨rfl,Za GB.out HGW.out⟩
        · have hkn:k=fs.length:=by omega
          subst hkn
          have HE:=Hq (HT0.out.trans (decide_eq_true (Zgz HL.out HT.out)))
          clear hg hlt
          go_wp2
          go_ret
          rw [HE.out]
          exact ⟨rfl,Za GB.out HG.out⟩
     · have HN:=Hq (Zhx (fun e:(mem,d,fs)=(mem',d',fs')=>en (congrArg (fun x:PrP=>x.2.2.length) e)))
       have hb:((fs.length:Int) == (fs'.length:Int))=false:=beq_eq_false_iff_ne.2 (by omega)
       have hb2:((fs.length:Int) != (fs'.length:Int))=true:=by rw [bne_iff_ne];omega
       subst em;subst ed
       go_enter Tryz.func15,Tryz.ntmps15
       go_wp2
       go_ret
       rw [HN.out]
       exact ⟨rfl,GB.out⟩
   · have HN:=Hq (Zhx (fun e:(mem,d,fs)=(mem',d',fs')=>ed (congrArg (fun x:PrP=>x.2.1) e)))
     have hb:=Ypg ed
     subst em
     go_enter Tryz.func15,Tryz.ntmps15
     go_wp2
     go_ret
     rw [HN.out]
     exact ⟨rfl,GB.out⟩
 · have HN:=Hq (Zhx (fun e:(mem,d,fs)=(mem',d',fs')=>em (congrArg (fun x:PrP=>x.1) e)))
   have hb:(mem == mem')=false:=beq_eq_false_iff_ne.2 em
   have hb2:(mem != mem')=true:=by rw [bne_iff_ne];exact em
   go_enter Tryz.func15,Tryz.ntmps15
   go_wp2
   go_ret
   rw [HN.out]
   exact ⟨rfl,GB.out⟩
def Zp (w0 w:World) (p m:Nat) (r:Option (CS × Option Int)) (e:Ending) (w':World):Prop :=
 (match r with
   | some (c,x)=>e = .returned .nilIface/\PS w0 w' p m c (Zeg x)
   | none=>e = .returned (Zzc 141))/\Fr w w'/\w0.grownBy w' none
theorem Jc {w0 w:World} {p m:Nat} {c:CS} {pend vd vF vL vB:Value} {bm:Nat} {cv:List Value} {lb:List Nat} (h:Zge w0 w p m c pend vd vF vL vB bm cv lb):∃ pF cF,vF = .slice pF c.funcs.length cF:=Zk h.ins.own.fr
theorem Ygl {w0 w:World} {p m:Nat} {c:CS} {pend vd vF vL vB:Value} {bm:Nat} {cv:List Value} {lb:List Nat} (h:Zge w0 w p m c pend vd vF vL vB bm cv lb) (n:Int) :
 PS w0 ((w.setCell ⟨p,3,none⟩ (.bool true)).setCell ⟨p,0,none⟩ (.int .i64 n)) p m { c with mem:=n,ms:=true } pend/\w.grownBy ((w.setCell ⟨p,3,none⟩ (.bool true)).setCell ⟨p,0,none⟩ (.int .i64 n)) (some p):=by
 have g:=Za (Zo w p 3 (.bool true)) (Zo (w.setCell ⟨p,3,none⟩ (.bool true)) p 0 (.int .i64 n))
 refine ⟨⟨vd,vF,vL,vB,bm,cv,lb,Yd (Yd h.gr h.ge) h.ge,h.ge,?_,Ygi (Zdo h.ins h.box g) n true,h.lens⟩,g⟩
 rw [Zl (Zl h.box)];rfl
def Yex (c:CS) (x:Option Int) (ps:List Pc):Option (CS × Option Int) :=
 match Zda ps 1 with
 | none=>none
 | some xs=>if c.ms=true\/0<c.funcs.length then none else some ({ c with mem:=xs.headD 0,ms:=true },Zlr x ps)
theorem Zfn (w0 w:World) (p m:Nat) (c:CS) (x:Option Int) (ps:List Pc) (pp:Option Addr) (cc:Nat) (h:PS w0 w p m c (Zeg x)) (hp:Zhr w pp ps) (hn:ps.length<=70000) :
 Calls Tryz.prog 77 #[.pointer (some ⟨p,0,none⟩),.slice pp ps.length cc] w (Zp w0 w p m (Yex c x ps)):=by
 have HS:=Hq h
 have NM:=Hq (Zfy w0 w p m c x ps pp cc 1 h hp hn (by decide))
 clear h hp
 unfold Yex
 cases hnum:Zda ps 1 with
 | none =>
   have NN:=NM.out
   unfold Zho at NN
   rw [hnum] at NN
   have N2:=Hq NN
   clear NN NM hnum
   go_enter Tryz.func77,Tryz.ntmps77
   go_wp2_with (go_at_call 113;refine N2.out.mono ?_;rintro e w2 ⟨⟨rfl,x',hps⟩,hg⟩;have S2:=Hq hps;have G2:=Hq hg;clear hps hg)
   go_ret
   exact ⟨rfl,Zby HS.out G2.out,Zax S2.out⟩
 | some xs =>
   have hxs:xs.length=1/\xs=ps.map pcN:=by
    unfold Zda at hnum
    split at hnum
    · rename_i h1
      injection hnum with hnum
      subst hnum
      exact ⟨by simpa using h1.1,rfl⟩
    · cases hnum
   obtain ⟨n,rfl⟩:∃ n,xs=[n]:=by
    cases xs with
    | nil=>simp at hxs
    | cons a r=>cases r with|nil=>exact ⟨a,rfl⟩|cons b r=>simp at hxs
   have NN:=NM.out
   unfold Zho at NN
   rw [hnum] at NN
   have N2:=Hq NN
   clear NN NM hnum hxs
   by_cases hbad:c.ms=true\/0<c.funcs.length
   · rw [show (match some [n] with|none=>none|some xs=>if c.ms=true\/0<c.funcs.length then none else some (({ c with mem:=xs.headD 0,ms:=true }:CS),Zlr x ps))=none by simp [hbad]]
     have HB:c.ms=true\/(c.ms=false/\0<(c.funcs.length:Int)):=by
      rcases hbad with h|h
      · exact Or.inl h
      · cases hm:c.ms with
        | true=>exact Or.inl rfl
        | false=>exact Or.inr ⟨rfl,by omega⟩
     clear hbad
     rcases HB with hm|⟨hm,hf⟩
     all_goals
      go_enter Tryz.func77,Tryz.ntmps77
      go_wp2_with (go_at_call 113;refine N2.out.mono ?_;rintro e w2 ⟨⟨q,k,rfl,hrow,hps⟩,hg⟩;have S2:=Hq hps;have G2:=Hq hg;obtain ⟨vd,vF,vL,vB,bm,cv,lb,hA⟩:=hps;have A:=Hq hA;obtain ⟨pF,cF,hvF⟩:=Jc hA;have bx:=hA.box;rw [hvF,hm] at bx;have c2:=Cq w2 p 2 _ _ _ bx;have c3:=Cq w2 p 3 _ _ _ bx;have hlt:p<w2.heap.size:=(Gs bx);clear hA bx hg hrow hvF)
      go_ret
      exact ⟨rfl,Zby HS.out G2.out,Zax S2.out⟩
   · rw [show (match some [n] with|none=>none|some xs=>if c.ms=true\/0<c.funcs.length then none else some (({ c with mem:=xs.headD 0,ms:=true }:CS),Zlr x ps))=some ({ c with mem:=n,ms:=true },Zlr x ps) by simp [hbad]]
     have hm:c.ms=false:=by cases h:c.ms with|true=>exact absurd (Or.inl h) hbad|false=>rfl
     have hf:(c.funcs.length:Int)=0:=by omega
     clear hbad
     go_enter Tryz.func77,Tryz.ntmps77
     go_wp2_with (go_at_call 113;refine N2.out.mono ?_;rintro e w2 ⟨⟨q,k,rfl,hrow,hps⟩,hg⟩;have S2:=Hq hps;have G2:=Hq hg;obtain ⟨vd,vF,vL,vB,bm,cv,lb,hA⟩:=hps;have A:=Hq hA;obtain ⟨pF,cF,hvF⟩:=Jc hA;have bx:=hA.box;rw [hvF,hm] at bx;have c0:=Cq w2 p 0 _ _ _ bx;have c2:=Cq w2 p 2 _ _ _ bx;have c3:=Cq w2 p 3 _ _ _ bx;have z0:=frozen_of_row w2 p 0 _ _ bx;have z3:=frozen_of_row w2 p 3 _ _ bx;have hlt:p<w2.heap.size:=(Gs bx);obtain ⟨g,cap,hv,hg1,hc1⟩:=Xc hrow (by simp);injection hv with hv _ _;subst hv;have d0:=hc1 0 (.int .i64 n) rfl (by simp);have hgp:g≠p:=(fun e=>by have:=(World.ownsRow.lt hrow g rfl).1;have:=(Ygg HS.out).2;omega);clear hA bx hg hrow hvF hc1)
     go_ret
     have M:=Ygl A.out n
     exact ⟨⟨rfl,M.1⟩,Zn (Zby HS.out G2.out) (Zby S2.out M.2),Zax M.1⟩
end Go.Proofs.YteciblfmgdlipaaGreatDoor.AS
