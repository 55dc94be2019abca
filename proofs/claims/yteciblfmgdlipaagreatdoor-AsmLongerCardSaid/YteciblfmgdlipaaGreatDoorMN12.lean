/-
  Part of a proof: contracts of functions and lemmas, each stated by its own theorem. Conditions: as each theorem states.
-/
import Derived.Test.YteciblfmgdlipaaGreatDoorMN05
import Derived.Test.YteciblfmgdlipaaGreatDoorMN11
import Derived.Test.YteciblfmgdlipaaGreatDoorMN04
import Derived.Lib.ItoaLen
import Derived.Shelf.Strings.BuilderF
set_option linter.unusedSimpArgs false
set_option linter.unusedVariables false
set_option maxRecDepth 100000
set_option maxHeartbeats 16000000
namespace Go.Proofs.YteciblfmgdlipaaGreatDoor.AS
open Go.RowKit Go.Great CK
theorem Ygq (v:Value) (w:World):(Instr.typeAssert (.iface 62 v) 28 62 true).run Tryz.prog w = .ok (.tuple #[v,.bool true]) w:=by kernel_rfl
theorem Ygp (v:Value) (w:World):(Instr.typeAssert (.iface 41 v) 28 41 true).run Tryz.prog w = .ok (.tuple #[v,.bool true]) w:=by kernel_rfl
theorem Zpw (w:World):Calls Tryz.prog 13 #[.nilIface] w fun e w'=>e = .returned (.tuple #[.int .i64 0,.int .i64 0,.bool true])/\w.grownBy w' none:=by
 go_enter Tryz.func13,Tryz.ntmps13
 go_wp2
 go_ret3
 exact ⟨rfl,Zd _ _⟩
theorem Zkn (a:Nat) (n y:Int) (hy:y≠0) (w:World) (h:w.heap[a]? = some (.cells #[.int .i64 n,Zod y] 64 (0,0))):Calls Tryz.prog 13 #[.iface 62 (.pointer (some ⟨a,0,none⟩))] w fun e w'=>e = .returned (.tuple #[.int .i64 y,.int .i64 n,.bool true])/\w.grownBy w' none:=by
 have c0:=Cq w a 0 _ _ _ h
 have c1:=Cq w a 1 _ _ _ h
 have lt:=(Gs h)
 have hy2:(y == 0)=false:=beq_eq_false_iff_ne.2 hy
 have hy3:(y != 0)=true:=by rw [bne_iff_ne];exact hy
 clear hy
 unfold Zod at c1
 have k1:=Ygq
 have k2:=Ygp
 clear h
 go_enter Tryz.func13,Tryz.ntmps13
 go_wp2
 go_quiet (fail)
 go_wp2
 go_ret3
 exact ⟨rfl,Zaa (Zd _ _) _⟩
theorem Jm {fn:Func} {p:Tmp} {ty:TypeId} (h:fn.results = #[.cell p ty]) (tmps:Array Value) (P:Program) (w:World) :
 (results fn tmps).run P w=((asAddr (tmps.getD p undef)).run P w).andThen fun a w₁=>(loadVar ty a).run P w₁:=by
 simp only [results,h]
 simp [Sem.run_bind,Result.andThen]
theorem Ycp {fn:Func} {p:Tmp} (hf:fn.results = #[.cell p 26]) {tmps:Array Value} {w:World} {b:Nat} {v0 v1 v2:Value}
 (hp:tmps.getD p undef = .pointer (some ⟨b,0,none⟩)) (h:Zdw w b v0 v1 v2):(results fn tmps).run Tryz.prog w = .ok (.agg #[v0,v1,v2]) w:=by
 rw [Jm hf,hp]
 have:(asAddr (.pointer (some ⟨b,0,none⟩))).run Tryz.prog w = .ok (⟨b,0,none⟩:Addr) w:=rfl
 rw [this]
 simp only [Result.andThen]
 rw [Zvf h]
theorem Zfr {w:World} {b:Nat} {cs:Array Value} {t:TypeId} (h:w.heap[b]? = some (.cells cs t (0,0))) {i:Nat} {v:Value} (hv:cs[i]? = some v):w.cell? ⟨b,i,none⟩=some v:=by
 simp [World.cell?,h,hv]
def oneP:PrP:=(0,[],[(0,0,1,[(18,0)])])
theorem Zqo (w:World):Calls Tryz.prog 22 #[] w fun e w'=>(∃ F k,e = .returned (.agg #[.int .i64 0,.slice none 0 0,.slice (some ⟨F,0,none⟩) 1 k])/\Zcg w' w'.heap.size (some ⟨F,0,none⟩) oneP.2.2)/\w.grownBy w' none:=by
 go_enter Tryz.func22,Tryz.ntmps22
 go_wp2
 have h1:=heap_alloc_new w (.cells #[.int .i64 0,.slice none 0 0,.slice (some ⟨w.heap.size+1+1,0,none⟩) 1 1] 26)
 have g1:=Ga w (.cells #[.int .i64 0,.slice none 0 0,.slice (some ⟨w.heap.size+1+1,0,none⟩) 1 1] 26) none
 obtain ⟨wa,hwa⟩:∃ x,w.alloc (.cells #[.int .i64 0,.slice none 0 0,.slice (some ⟨w.heap.size+1+1,0,none⟩) 1 1] 26)=x:=⟨_,rfl⟩
 have sa:wa.heap.size=w.heap.size+1:=by rw [<- hwa];simp
 rw [hwa] at h1 g1 ⊢
 have h2:=heap_alloc_new wa (.cells #[.int .i64 18,.int .i64 0] 58)
 have g2:=Ga wa (.cells #[.int .i64 18,.int .i64 0] 58) none
 obtain ⟨wb,hwb⟩:∃ x,wa.alloc (.cells #[.int .i64 18,.int .i64 0] 58)=x:=⟨_,rfl⟩
 have sb:wb.heap.size=w.heap.size+2:=by rw [<- hwb];simp;omega
 rw [hwb] at h2 g2 ⊢
 have h3:=heap_alloc_new wb (.cells #[.int .i64 0,.int .i64 0,.int .i64 1,.slice (some ⟨w.heap.size+1,0,none⟩) 1 1] 61)
 have g3:=Ga wb (.cells #[.int .i64 0,.int .i64 0,.int .i64 1,.slice (some ⟨w.heap.size+1,0,none⟩) 1 1] 61) none
 have sc:(wb.alloc (.cells #[.int .i64 0,.int .i64 0,.int .i64 1,.slice (some ⟨w.heap.size+1,0,none⟩) 1 1] 61)).heap.size=w.heap.size+3:=by rw [World.size_alloc,sb]
 have h1':=Zh h1 (Za g2 g3) (by simp)
 have h2':=Zh h2 g3 (by simp)
 rw [sa] at h2'
 rw [sb] at h3
 refine bodyPost_ret (v := .agg #[.int .i64 0,.slice none 0 0,.slice (some ⟨w.heap.size+1+1,0,none⟩) 1 1]) (Ycp rfl rfl h1') rfl ⟨⟨w.heap.size+1+1,1,rfl,fun _=>⟨w.heap.size+1+1,0,rfl,by rw [sc];omega,fun i a l r c hi => ?_⟩⟩,Za g1 (Za g2 g3)⟩
 match i,hi with
 | 0,hi =>
   simp [oneP] at hi
   obtain ⟨rfl,rfl,rfl,rfl⟩:=hi
   refine ⟨Zfr h3 rfl,Zfr h3 rfl,Zfr h3 rfl,some ⟨w.heap.size+1,0,none⟩,1,Zfr h3 rfl,fun _=>⟨w.heap.size+1,0,rfl,by rw [sc];omega,fun j op x hj => ?_⟩⟩
   match j,hj with
   | 0,hj =>
     simp at hj
     obtain ⟨rfl,rfl⟩:=hj
     exact ⟨Zfr h2' rfl,Zfr h2' rfl⟩
   | j+1,hj=>simp at hj
 | i+1,hi=>simp [oneP] at hi
theorem Yer (n:Nat) (nm:ByteArray) (o t g:Int) (hr:callT[n]? = some (nm,o,t,g)) (w:World) :
 Calls Tryz.prog 100 #[.int .i64 n] w fun e w'=>e = .returned (.tuple #[.agg #[.string nm,.int .i64 o,.int .i64 t,.int .i64 g],.bool true])/\w.grownBy w' none:=by
 have hn:n<5:=(List.getElem?_eq_some_iff.1 hr).1
 have C:=Hq Zns
 obtain ⟨h1,h2,h3,h4⟩:=Zeq callT n nm o t g hr
 have R:=Hq (fun (S:Nat) (w:World) (hS:S<w.heap.size) (hc:∀ (i:Nat) (v:Value),(Zfv callT)[i]? = some v->w.cell? ⟨S,i,none⟩=some v)=>Yat 5 n hn (by decide) S nm o t g w hS (hc _ _ h1) (hc _ _ h2) (hc _ _ h3) (hc _ _ h4))
 clear hr h1 h2 h3 h4
 go_enter Tryz.func100,Tryz.ntmps100
 go_wp2_with (first
  | (go_at_call 133;refine (C.out _).mono ?_;rintro e w1 ⟨S,rfl,hg,hS,hsh⟩;have G1:=Hq hg;have HS:=Hq hS;have SH:=Hq hsh;clear hg hsh hS)
  | (go_at_call 86;refine (R.out _ _ HS.out SH.out).mono ?_;rintro e w2 ⟨rfl,hg2⟩;have G2:=Hq hg2;have hb:=Zh (Zh (heap_alloc_new w (.cells #[.string ⟨#[]⟩,.int .i64 0,.int .i64 0,.int .i64 0] 144)) G1.out (by simp)) hg2 (by simp);have c0:=Cq w2 _ 0 _ _ _ hb;have c1:=Cq w2 _ 1 _ _ _ hb;have c2:=Cq w2 _ 2 _ _ _ hb;have c3:=Cq w2 _ 3 _ _ _ hb;have z0:=frozen_of_row w2 _ 0 _ _ hb;have z1:=frozen_of_row w2 _ 1 _ _ hb;have z2:=frozen_of_row w2 _ 2 _ _ hb;have z3:=frozen_of_row w2 _ 3 _ _ hb;have HB:=Hq hb;clear hg2 hb))
 (try simp only [Exit.inBlock,Exit.then])
 have hq:((((w2.setCell ⟨w.heap.size,0,none⟩ (.string nm)).setCell ⟨w.heap.size,1,none⟩ (.int .i64 o)).setCell ⟨w.heap.size,2,none⟩ (.int .i64 t)).setCell ⟨w.heap.size,3,none⟩ (.int .i64 g)).heap[w.heap.size]? = some (.cells #[.string nm,.int .i64 o,.int .i64 t,.int .i64 g] 144 (0,0)):=by
  rw [Zl (Zl (Zl (Zl HB.out)))];rfl
 refine bodyPost_ret (v := .tuple #[.agg #[.string nm,.int .i64 o,.int .i64 t,.int .i64 g],.bool true]) ?_ rfl ⟨rfl,Ya (Ya (Ya (Ya (Za (Za (Ga _ _ _) G1.out) G2.out) (Nat.le_refl _)) (Nat.le_refl _)) (Nat.le_refl _)) (Nat.le_refl _)⟩
 clear c0 c1 c2 c3 z0 z1 z2 z3
 have d0:=Cq _ _ 0 _ _ _ hq
 have d1:=Cq _ _ 1 _ _ _ hq
 have d2:=Cq _ _ 2 _ _ _ hq
 have d3:=Cq _ _ 3 _ _ _ hq
 clear hq
 generalize (((w2.setCell ⟨w.heap.size,0,none⟩ (.string nm)).setCell ⟨w.heap.size,1,none⟩ (.int .i64 o)).setCell ⟨w.heap.size,2,none⟩ (.int .i64 t)).setCell ⟨w.heap.size,3,none⟩ (.int .i64 g)=w9 at *
 rw [results_cell_tmp rfl]
 go_simp
theorem Jt (a b:Txt):bs a++bs b=bs (a++b):=by
 unfold bs
 apply ByteArray.ext
 simp
theorem Zts:∀ s∈callT,s.1.size<=10:=by decide
theorem Ygn {a:Int} (h0:0<=a) (h1:a<5):∃ (n:Nat) (nm:ByteArray) (o t g:Int),a=n/\callT[n]? = some (nm,o,t,g):=by
 obtain ⟨n,rfl⟩:=Int.eq_ofNat_of_zero_le h0
 have hn:n<callT.length:=by show n<5;omega
 exact ⟨n,_,_,_,_,rfl,List.getElem?_eq_getElem hn⟩
theorem Zhr (mem a0 l0 r0 kind a:Int) (pd pF pc:Option Addr) (nd cd nF cF nC cc:Nat) (w:World) (hW:LibW w) (h0 : -9223372036854775808<=a) (h1:a<=9223372036854775807) (hs:kind=5->0<=a/\a<5) :
 Calls Tryz.prog 67 #[.agg #[.int .i64 mem,.slice pd nd cd,.slice pF nF cF],.agg #[.int .i64 a0,.int .i64 l0,.int .i64 r0,.slice pc nC cc],.int .i64 kind,.int .i64 a] w fun e w'=>e = .returned (.string (bs (Zch nF nC kind a)))/\w.grownBy w' none:=by
 have g1:=Ga w (.cells #[.int .i64 mem,.slice pd nd cd,.slice pF nF cF] 26) none
 have g2:=Ga (w.alloc (.cells #[.int .i64 mem,.slice pd nd cd,.slice pF nF cF] 26)) (.cells #[.int .i64 a0,.int .i64 l0,.int .i64 r0,.slice pc nC cc] 61) none
 have G:=Hq (Za g1 g2)
 have IT:=Hq (Jr a h0 h1 _ (Zq hW (Za g1 g2)))
 clear g1 g2
 have hz:=Lib.itoa_length_le a h0 h1
 have hc1:¬ 9223372036854775807<1+(bs (Lib.itoa a)).size:=by rw [Zj];omega
 have hc2:¬ 9223372036854775807<2+(bs (Lib.itoa a)).size:=by rw [Zj];omega
 by_cases k0:kind=0
 · subst k0
   rw [Zvm]
   go_enter Tryz.func67,Tryz.ntmps67
   go_wp2
   go_ret
   exact ⟨rfl,G.out⟩
 · have b0:(kind == 0)=false:=beq_eq_false_iff_ne.2 k0
   by_cases k5:kind=5
   · subst k5
     obtain ⟨n,nm,o,t,g,rfl,hr⟩:=Ygn (hs rfl).1 (hs rfl).2
     have HC:=Hq (show bs (Zch nF nC 5 n)=⟨#[32]⟩++nm by rw [Zyz hr,<- Jt];rfl)
     have SY:=Hq (fun w=>Yer n nm o t g hr w)
     have hnz:¬ 9223372036854775807<1+nm.size:=by
      have:nm.size<=10:=Zts _ (List.mem_of_getElem? hr)
      omega
     go_enter Tryz.func67,Tryz.ntmps67
     go_wp2_with (go_at_call 100;refine (SY.out _).mono ?_;rintro e w1 ⟨rfl,hg⟩;have G1:=Hq hg;clear hg)
     go_ret
     rw [HC.out]
     exact ⟨rfl,Za G.out (Za G1.out (Ga _ _ _))⟩
   · have b5:(kind == 5)=false:=beq_eq_false_iff_ne.2 k5
     by_cases k3:kind=3
     · subst k3
       by_cases hl:a<=nC
       · have HC:=Hq (show bs (Zch nF nC 3 a)=⟨#[32,76]⟩++bs (Lib.itoa a) by rw [Zvn hl,<- Jt];rfl)
         go_enter Tryz.func67,Tryz.ntmps67
         go_wp2_with (go_at_call 39;refine IT.out.mono ?_;rintro e w1 ⟨rfl,hg⟩;have G1:=Hq hg;clear hg)
         go_ret
         rw [HC.out]
         exact ⟨rfl,Za G.out G1.out⟩
       · have HC:=Hq (show bs (Zch nF nC 3 a)=⟨#[32]⟩++bs (Lib.itoa a) by rw [Zkz k0 (fun _=>hl) (fun h=>absurd h (by decide)) k5,<- Jt];rfl)
         go_enter Tryz.func67,Tryz.ntmps67
         go_wp2_with (go_at_call 39;refine IT.out.mono ?_;rintro e w1 ⟨rfl,hg⟩;have G1:=Hq hg;clear hg)
         go_ret
         rw [HC.out]
         exact ⟨rfl,Za G.out G1.out⟩
     · have b3:(kind == 3)=false:=beq_eq_false_iff_ne.2 k3
       by_cases k4:kind=4
       · subst k4
         by_cases hl:a<nF
         · have HC:=Hq (show bs (Zch nF nC 4 a)=⟨#[32,102]⟩++bs (Lib.itoa a) by rw [Ycn hl,<- Jt];rfl)
           go_enter Tryz.func67,Tryz.ntmps67
           go_wp2_with (go_at_call 39;refine IT.out.mono ?_;rintro e w1 ⟨rfl,hg⟩;have G1:=Hq hg;clear hg)
           go_ret
           rw [HC.out]
           exact ⟨rfl,Za G.out G1.out⟩
         · have HC:=Hq (show bs (Zch nF nC 4 a)=⟨#[32]⟩++bs (Lib.itoa a) by rw [Zkz k0 (fun h=>absurd h (by decide)) (fun _=>hl) k5,<- Jt];rfl)
           go_enter Tryz.func67,Tryz.ntmps67
           go_wp2_with (go_at_call 39;refine IT.out.mono ?_;rintro e w1 ⟨rfl,hg⟩;have G1:=Hq hg;clear hg)
           go_ret
           rw [HC.out]
           exact ⟨rfl,Za G.out G1.out⟩
       · have b4:(kind == 4)=false:=beq_eq_false_iff_ne.2 k4
         have HC:=Hq (show bs (Zch nF nC kind a)=⟨#[32]⟩++bs (Lib.itoa a) by rw [Zkz k0 (fun h=>absurd h k3) (fun h=>absurd h k4) k5,<- Jt];rfl)
         go_enter Tryz.func67,Tryz.ntmps67
         go_wp2_with (go_at_call 39;refine IT.out.mono ?_;rintro e w1 ⟨rfl,hg⟩;have G1:=Hq hg;clear hg)
         go_ret
         rw [HC.out]
         exact ⟨rfl,Za G.out G1.out⟩
theorem Zrr:(Tryz.prog.info? 99).map (·.size)=some 2:=by kernel_rfl
theorem Yak:liesAt Tryz.prog Tryz.prog.depth 99 (2 / Tryz.prog.cellsOf 99) 0 99 1=true:=by kernel_rfl
theorem Zkx:Tryz.prog.underlying 97=some (.pointer 99):=by kernel_rfl
theorem Zuk:Tryz.prog.underlying 187=some .unsafePointer:=by kernel_rfl
structure BFr (B b:Nat) (w w':World):Prop where
 below:Below B w w'
 keep:∀ (k:Nat) (cs:Array Value) (t:TypeId) (fz:Nat × Nat),w.heap[k]? = some (Obj.cells cs t fz)->t≠5->k≠b->w'.heap[k]? = w.heap[k]?
theorem Zde (B b:Nat) (w:World):BFr B b w w:=⟨Below.refl B w,fun _ _ _ _ _ _ _=>rfl⟩
theorem Zda {B:Nat} {u v w:World} (h:Below B u v) (g:Below B v w):Below B u w :=
 ⟨g.os.trans h.os,g.tape.trans h.tape,g.output.trans h.output,Nat.le_trans h.size g.size,fun k hk=>(g.block k hk).trans (h.block k hk)⟩
theorem Zs {B b:Nat} {u v w:World} (h:BFr B b u v) (g:BFr B b v w):BFr B b u w :=
 ⟨Zda h.below g.below,fun k cs t fz hk ht hb=>(g.keep k cs t fz ((h.keep k cs t fz hk ht hb).trans hk) ht hb).trans (h.keep k cs t fz hk ht hb)⟩
theorem Yg {B b:Nat} {w w':World} (g:w.grownBy w' none) (hB:B<=w.heap.size):BFr B b w w' :=
 ⟨⟨g.os,g.tape,g.output,g.size,fun k hk=>g.block k (by omega) (by simp)⟩,fun k cs t fz hk _ _=>g.block k (Gs hk) (by simp)⟩
theorem Jy {B b k:Nat} {w w':World} {cs:Array Value} {t:TypeId} {fz:Nat × Nat} (h:BFr B b w w') (hk:w.heap[k]? = some (Obj.cells cs t fz)) (ht:t≠5) (hb:k≠b):w'.heap[k]? = some (Obj.cells cs t fz):=(h.keep k cs t fz hk ht hb).trans hk
theorem Ym {B b k o:Nat} {w w':World} {v:Value} (h:BFr B b w w') (hk:k<B) (hc:w.cell? ⟨k,o,none⟩=some v):w'.cell? ⟨k,o,none⟩=some v:=(World.cell?_of_block (h.below.block k hk)).trans hc
theorem Zrs {B b D:Nat} {w w':World} {p:Option Addr} {l:List (Int × Int)} (h:BFr B b w w') (hD:D<=B) (hc:Ziy w D p l):Ziy w' D p l:=fun h0=>by
 obtain ⟨k,o,e,hk,hl⟩:=hc h0
 exact ⟨k,o,e,hk,fun i op a hi=>⟨Ym h (by omega) (hl i op a hi).1,Ym h (by omega) (hl i op a hi).2⟩⟩
theorem Ju {B b:Nat} {w w':World} (h:BFr B b w w') (hB:8<=B) (hW:LibW w):LibW w':=by
 have hb:=hW.big
 refine ⟨Nat.le_trans hb h.below.size,?_,?_,?_⟩
 · obtain ⟨m,hm⟩:=hW.max
   exact ⟨m,Ym h (by omega) hm⟩
 · have hp:=hW.pow
   unfold Lib.TabIs World.var? at hp ⊢
   rw [Zrd] at hp ⊢
   simp only [Option.bind] at hp ⊢
   rw [h.below.block _ (by omega)]
   exact hp
 · obtain ⟨te,pe,hm⟩:=hW.rng
   exact ⟨te,pe,Ym h (by omega) hm⟩
theorem Zxm {B b o:Nat} {w:World} {v:Value} (hB:B<=b):BFr B b w (w.setCell ⟨b,o,none⟩ v) :=
 ⟨(Below.refl B w).setCell (p:=⟨b,o,none⟩) hB _,fun k cs t fz _ _ hb=>Below.heap_setCell _ _ _ _ hb⟩
abbrev Bld (B b:Nat) (l:Txt) (w:World):Prop:=Lib.IsBuilderF 99 5 B b (Lib.byteCells l) w
theorem Yaj (b:Nat) (w:World) (h0:w.cell? ⟨b,0,none⟩=some (.pointer (some ⟨b,0,none⟩))) :
 Calls Tryz.prog 64 #[.pointer (some ⟨b,0,none⟩)] w fun e w'=>e = .returned (.tuple #[])/\w'=w:=by
 obtain ⟨j,hj,_⟩:=Option.map_eq_some_iff.1 Zrr
 go_enter Tryz.func64,Tryz.ntmps64
 go_wp2
 rw [Lib.run_neq_ptr_same w _ Zkx hj]
 go_wp2
 go_end0
 exact ⟨rfl,rfl⟩
theorem Zxi (b:Nat) (w:World) (h0:w.cell? ⟨b,0,none⟩=some (.pointer none)) (hsh:w.shape? b=some (99,2)) (hfz:w.frozen? ⟨b,0,none⟩=false) :
 Calls Tryz.prog 64 #[.pointer (some ⟨b,0,none⟩)] w fun e w'=>e = .returned (.tuple #[])/\w'=w.setCell ⟨b,0,none⟩ (.pointer (some ⟨b,0,none⟩)):=by
 obtain ⟨j,hj,hjs⟩:=Option.map_eq_some_iff.1 Zrr
 go_enter Tryz.func64,Tryz.ntmps64
 go_wp2
 rw [Lib.run_to_unsafe w ⟨b,0,none⟩ Zkx Zuk hj (by rw [hjs];decide) hsh (Nat.zero_lt_succ 1)]
 simp only [Result.andThen]
 rw [Oper.upon_value]
 go_wp2
 rw [run_callFunc_extern Tryz.func98 (by kernel_rfl) (by kernel_rfl) (by kernel_rfl) (e:=Extern.AbiNoEscape.same) (by kernel_rfl)]
 rw [Lib.run_noEscape]
 simp only [Result.andThen]
 rw [Oper.upon_value]
 go_wp2
 rw [Lib.run_from_unsafe w ⟨b,0,none⟩ Zuk Zkx hj hsh Yak]
 simp only [Result.andThen]
 rw [Oper.upon_value]
 go_wp2
 go_end0
 exact ⟨rfl,rfl⟩
theorem Zxj (B b:Nat) (bs:List Value) (w:World) (h:Lib.IsBuilderF 99 5 B b bs w) :
 Calls Tryz.prog 64 #[.pointer (some ⟨b,0,none⟩)] w fun e w'=>e = .returned (.tuple #[])/\(Lib.BuilderAtF 99 5 B b (.pointer (some ⟨b,0,none⟩)) bs w'/\BFr B b w w'):=by
 rcases h with h|h
 · refine (Zxi b w h.cell0 h.shape h.frozen0).mono ?_
   rintro e w' ⟨rfl,rfl⟩
   exact ⟨rfl,h.used _,Zxm h.1⟩
 · refine (Yaj b w h.cell0).mono ?_
   rintro e w' ⟨rfl,rfl⟩
   exact ⟨rfl,h,Zde B b _⟩
theorem Zoh (l:Txt):Lib.strCells (bs l)=Lib.byteCells l:=by
 unfold Lib.strCells Lib.byteCells
 rw [Xe]
theorem Zcy (B b:Nat) (l s:Txt) (w:World) (h:Bld B b l w) (hlen:l.length+s.length<=140737488355328) (hBw:B<=w.heap.size) :
 Calls Tryz.prog 38 #[.pointer (some ⟨b,0,none⟩),.string (bs s)] w fun e w'=>e = .returned (.tuple #[.int .i64 s.length,.nilIface])/\(Bld B b (l++s) w'/\BFr B b w w'):=by
 obtain ⟨i0,hi,hz0,hz1,hz2⟩:=info_parts Zar
 have hss:=Zj s
 have HS:=Hq hss
 have hbl:=Lib.byteCells_length l
 go_enter Tryz.func38,Tryz.ntmps38
 go_wp2_with (go_at_call 64;refine (Zxj B b _ _ h).mono ?_)
 rintro e w1 ⟨rfl,h1,hb1⟩
 obtain ⟨hB,v,hbk,hown,hne⟩:=h1
 have c0:w1.cell? ⟨b,0,none⟩=some (.pointer (some ⟨b,0,none⟩)):=by rw [Lib.cell_of_heap hbk];rfl
 have c1:w1.cell? ⟨b,1,none⟩=some v:=by rw [Lib.cell_of_heap hbk];rfl
 go_wp2_with (at_builtin;refine Lib.wpList_append_own_stringF _ rfl _ _ 23 9 rfl B 5 i0 Xu Jc hi hz0 hz1 hz2 _ _ _ rfl hown (bs s) rfl ?c3 ?c4 ?c5 ?_)
 case c3=>rw [HS.out,hbl];unfold maxLen;omega
 case c4=>rw [HS.out,hbl];omega
 case c5=>have:=hb1.below.size;omega
 intro v' w2 hown' hgrow _
 have hlt:b<w1.heap.size:=by
  rcases Nat.lt_or_ge b w1.heap.size with h'|h'
  · exact h'
  · simp [Array.getElem?_eq_none h'] at hbk
 have hb2:w2.heap[b]? = some (.cells #[.pointer (some ⟨b,0,none⟩),v] 99 (0,0)):=by
  rw [hgrow.block b hlt (fun e=>hne e.symm)]
  exact hbk
 have d0:w2.cell? ⟨b,0,none⟩=some (.pointer (some ⟨b,0,none⟩)):=by rw [Lib.cell_of_heap hb2];rfl
 have d1:w2.cell? ⟨b,1,none⟩=some v:=by rw [Lib.cell_of_heap hb2];rfl
 have f1:w2.frozen? ⟨b,1,none⟩=false:=Lib.frozen_of_heap hb2 1
 obtain ⟨ao,n',cap,rfl⟩:∃ ao n' cap,v' = .slice ao n' cap:=by
  rcases hown'.2 with ⟨hv,_⟩|⟨g,cap,cur,fz,hv,_⟩
  · exact ⟨_,_,_,hv⟩
  · exact ⟨_,_,_,hv⟩
 go_wp2
 go_ret2
 refine ⟨rfl,.inr ?_,?_⟩
 · have he:Lib.byteCells (l++s)=Lib.byteCells l++Lib.strCells (bs s):=by rw [Zoh];simp [Lib.byteCells]
   rw [he]
   exact Lib.BuilderAtF.put (T:=99) (e:=5) hB hb2 (bs':=Lib.byteCells l++Lib.strCells (bs s)) (by rw [List.length_append,Lib.strCells_length,hbl,Zj];exact hown') (by decide)
 · refine Zs hb1 (Zs (v:=w2) ⟨?_,?_⟩ (Zxm hB))
   · exact (Below.refl B w1).grown hgrow (by have:=hb1.below.size;omega) (fun k hk=>(hown.lt k hk).1)
   · intro k cs t fz hk ht _
     exact hgrow.block k (Gs hk) (fun e=>Lib.ownBlock_neF hown hk ht e.symm)
theorem Zab {B b:Nat} {l:Txt} {w w':World} (h:Bld B b l w) (g:w.grownBy w' none):Bld B b l w':=by
 have K:∀ p,Lib.BuilderAtF 99 5 B b p (Lib.byteCells l) w->Lib.BuilderAtF 99 5 B b p (Lib.byteCells l) w':=fun p h=>by
  have hlt:=h.lt
  obtain ⟨hB,v,hb,hown,hne⟩:=h
  exact ⟨hB,v,(g.block b hlt (by simp)).trans hb,hown.kept g (by cases hv:v.ownBlock <;> simp),hne⟩
 exact h.elim (fun h => .inl (K _ h)) (fun h => .inr (K _ h))
theorem Ydr (w:World):Bld w.heap.size w.heap.size [] (w.alloc (.cells #[.pointer none,.slice none 0 0] 99)) :=
 .inl ⟨Nat.le_refl _,_,heap_alloc_new w _,World.ownsRowF_nil _ _ _ _,by simp [Value.ownBlock]⟩
theorem Znv {B b:Nat} {l:Txt} {w:World} (h:Bld B b l w):B<=b/\b<w.heap.size:=h.elim (fun h=>⟨h.1,h.lt⟩) (fun h=>⟨h.1,h.lt⟩)
theorem Zcz (B b:Nat) (l:Txt) (w:World) (h:Bld B b l w):Calls Tryz.prog 42 #[.pointer (some ⟨b,0,none⟩)] w fun e w'=>e = .returned (.int .i64 l.length)/\w'=w:=by
 have:=Tryz.Builder_Len_f B b (Lib.byteCells l) w h
 rw [Lib.byteCells_length] at this
 exact this
theorem Zkl (B b:Nat) (l:Txt) (w:World) (h:Bld B b l w) (hBw:B<=w.heap.size):Calls Tryz.prog 43 #[.pointer (some ⟨b,0,none⟩)] w fun e w'=>e = .returned (.string (bs l))/\Below B w w' :=
 (Tryz.Builder_String_any_f B b l w h hBw).mono fun e w' he=>⟨he.1,he.2.2⟩
structure CdB (w:World) (bP bF g:Nat) (vP vF:Array Value) (n:Nat) (f:Nat->Bool):Prop where
 bp:w.heap[bP]? = some (.cells vP 26 (0,0))
 bf:w.heap[bF]? = some (.cells vF 61 (0,0))
 rw:w.rowIs g 4 n (fun k => .bool (f k))
theorem Zaq {w w':World} {bP bF g:Nat} {vP vF:Array Value} {n:Nat} {f:Nat->Bool} (h:CdB w bP bF g vP vF n f) (hg:w.grownBy w' none):CdB w' bP bF g vP vF n f :=
 ⟨Zh h.bp hg (by simp),Zh h.bf hg (by simp),h.rw.of_block (hg.block g h.rw.lt (by simp))⟩
theorem Zpp {w w':World} {B b bP bF g:Nat} {vP vF:Array Value} {n:Nat} {f:Nat->Bool} (h:CdB w bP bF g vP vF n f) (hg:BFr B b w w') (h1:bP≠b) (h2:bF≠b) (h3:g≠b):CdB w' bP bF g vP vF n f:=by
 obtain ⟨c,hb,hn,hc⟩:=h.rw
 exact ⟨Jy hg h.bp (by decide) h1,Jy hg h.bf (by decide) h2,c,Jy hg hb (by decide) h3,hn,hc⟩
theorem Zij {w:World} {bP bF g:Nat} {vP vF:Array Value} {n:Nat} {f f':Nat->Bool} (h:CdB w bP bF g vP vF n f) (e:∀ i,i<n->f i=f' i):CdB w bP bF g vP vF n f':=⟨h.bp,h.bf,h.rw.congr fun i hi=>by rw [e i hi]⟩
theorem Ydm {w:World} {bP bF g a:Nat} {vP vF:Array Value} {n:Nat} {f f':Nat->Bool} (h:CdB w bP bF g vP vF n f) (h1:bP≠g) (h2:bF≠g) (e:∀ i,i<n->f' i=if i=a then true else f i):CdB (w.setCell ⟨g,a,none⟩ (.bool true)) bP bF g vP vF n f':=by
 refine ⟨?_,?_,(h.rw.set a (.bool true)).congr fun i hi => ?_⟩
 · exact (Below.heap_setCell _ _ _ _ h1).trans h.bp
 · exact (Below.heap_setCell _ _ _ _ h2).trans h.bf
 · rw [e i hi];split <;> rfl
theorem Zri {code:List (Int × Int)} {k:Nat} {op a:Int}:∀ (m:Nat) (code:List (Int × Int)),Zlr code=0->code[m]? = some (op,a)->∃ nm o t g,Yu op=some (nm,o,t,g)/\Zld o.toNat a=true
 | m,[],_,h=>by simp at h
 | 0,x::r,he,h=>by
   simp at h
   subst h
   unfold Zlr at he
   cases hs:Yu op with
   | none=>rw [hs] at he;simp at he
   | some s =>
     rw [hs] at he
     obtain ⟨nm,o,t,g⟩:=s
     by_cases hm:Zld o.toNat a=true
     · exact ⟨nm,o,t,g,rfl,hm⟩
     · simp only [if_neg hm] at he;cases he
 | m+1,x::r,he,h=>by
   have:Zlr r=0:=by
    unfold Zlr at he
    split at he
    · cases he
    · split at he
      · exact he
      · cases he
   exact Zri (code:=code) (k:=k) m r this (by simpa using h)
theorem Zqy {op:Int} {nm:ByteArray} {o t g:Int} (h:Yu op=some (nm,o,t,g)):Zlj op=o:=by unfold Zlj;rw [h]
theorem Zzd {op:Int} {nm:ByteArray} {o t g:Int} (h:Yu op=some (nm,o,t,g)):Zsx op=nm.data.toList:=by unfold Zsx;rw [h]
theorem Zzf {a:Int} (h:Zld (3:Int).toNat a=true):0<=a:=by
 have:Zld 3 a=true:=h
 unfold Zld at this
 simp at this
 exact this.1
theorem Zvu {o a:Int} (h:Zld o.toNat a=true) (ho:o=5):0<=a/\a<5:=by
 subst ho
 have:Zld 5 a=true:=h
 unfold Zld bK at this
 simp at this
 exact this
theorem Zid {code:List (Int × Int)} {i:Nat} {op a:Int} (h:code[i]? = some (op,a)) (k:Nat):Zad (code.take (i+1)) k=(Zad (code.take i) k || (Zlj op == 3 && a == (k:Int))):=by
 unfold Zad
 rw [List.take_add_one,h,List.any_append]
 simp
theorem Zzu (code:List (Int × Int)) (k:Nat):Zad (code.take code.length) k=Zad code k:=by rw [List.take_length]
theorem Ydg {code:List (Int × Int)} {i:Nat} {op a:Int} (h:code[i]? = some (op,a)) {o:Int} (ho:Zlj op=o) (hne:(o == 3)=false):∀ k,Zad (code.take i) k=Zad (code.take (i+1)) k:=fun k=>by
 rw [Zid h,ho,hne];simp
theorem Zzt {code:List (Int × Int)} {i n:Nat} {op a:Int} (h:code[i]? = some (op,a)) (hf:¬ a<=(n:Int)):∀ k,k<n+1->Zad (code.take i) k=Zad (code.take (i+1)) k:=fun k hk=>by
 rw [Zid h]
 have:(a == (k:Int))=false:=beq_eq_false_iff_ne.2 (by omega)
 rw [this];simp
theorem Zwq {code:List (Int × Int)} {i m:Nat} {op:Int} (h:code[i]? = some (op,(m:Int))) (ho:Zlj op=3):∀ k,Zad (code.take (i+1)) k=if k=m then true else Zad (code.take i) k:=fun k=>by
 rw [Zid h,ho]
 by_cases e:k=m
 · subst e;simp
 · rw [if_neg e]
   have:(((m:Int)) == (k:Int))=false:=beq_eq_false_iff_ne.2 (by omega)
   rw [this];simp
theorem Zht:∀ s∈shapeT,s.1.data.toList.length<=10:=by decide
theorem Zkp {op:Int} {s:ByteArray × Int × Int × Int} (h:Yu op=some s):s∈shapeT:=by
 unfold Yu at h
 split at h
 · exact List.mem_of_getElem? h
 · cases h
theorem Zvr (op:Int):(Zsx op).length<=10:=by
 unfold Zsx
 split
 · rename_i s h
   exact Zht s (Zkp h)
 · simp
theorem Zxd:∀ s∈callT,s.1.data.toList.length<=10:=by decide
theorem Zxy (a:Int):(Yfx a).length<=10:=by
 unfold Yfx
 split
 · rename_i s h
   exact Zxd s (List.mem_of_getElem? h)
 · simp
def Yeb (a:Int):Prop := -9223372036854775808<=a/\a<=9223372036854775807
theorem Zla {a:Int} (h:Yeb a) (nF nC:Nat) (k:Int):(Zch nF nC k a).length<=23:=by
 have h1:=Lib.itoa_length_le a h.1 h.2
 have h2:=Zxy a
 unfold Zch
 split
 · simp
 · split
   · simp only [List.length_cons];omega
   · split
     · simp only [List.length_cons];omega
     · split
       · simp only [List.length_cons];omega
       · simp only [List.length_cons];omega
theorem Zlh (code:List (Int × Int)) {k:Nat} (hk:k<=5000):(Zgw code k).length<=24:=by
 unfold Zgw
 split
 · have h1:=Lib.itoa_length_le k (by omega) (by omega)
   simp only [List.length_cons,List.length_append,List.length_nil];omega
 · simp
theorem Zrb {x:Int × Int} (h:Yeb x.2) (nF nC:Nat):(Zgj nF nC x).length<=36:=by
 have h1:=Zvr x.1
 have h2:=Zla h nF nC (Zlj x.1)
 unfold Zgj
 simp only [List.length_cons,List.length_append,List.length_nil];omega
theorem Ycg {code:List (Int × Int)} (hr:∀ x∈code,Yeb x.2) (nF:Nat) {k:Nat} (hk:k<=5000):(plT nF code k).length<=60:=by
 have h1:=Zlh code hk
 unfold plT
 rw [List.length_append]
 split
 · rename_i x hx
   have h2:=Zrb (hr x (List.mem_of_getElem? hx)) nF code.length
   omega
 · simp only [List.length_nil];omega
theorem Znq {code:List (Int × Int)} (hr:∀ x∈code,Yeb x.2) (nF:Nat):∀ (n:Nat),n<=5000->(Jl nF code n).length<=60*n
 | 0,_=>by simp [Jl]
 | n+1,hn=>by
   have h1:=Znq hr nF n (by omega)
   have h2:=Ycg hr nF (k:=n) (by omega)
   rw [Zbq,List.length_append];omega
theorem Yag:Tryz.prog.underlying 107=some (.slice 4):=by kernel_rfl
theorem Zxf:(Tryz.prog.info? 4).map (fun i=>(i.zero,i.size,i.bytes))=some (some (.bool false),1,1):=by kernel_rfl
theorem Zsy (n:Nat) (hn:n<=5000) (w:World):(Instr.makeSlice 107 (.int .i64 ((n:Int)+1)) (.int .i64 ((n:Int)+1))).run Tryz.prog w = .ok (.slice (some ⟨w.heap.size,0,none⟩) (n+1) (n+1)) (w.alloc (.cells (madeCells #[.bool false] (n+1)) 4)):=by
 have:=run_make_row' (P:=Tryz.prog) 107 4 (.bool false) 1 Yag Zxf rfl .i64 .i64 (n+1) (by omega) (by omega) w
 rw [Int.natCast_add] at this
 exact this
theorem Zsz (w:World) (n:Nat):(w.alloc (.cells (madeCells #[.bool false] n) 4)).rowIs w.heap.size 4 n (fun _ => .bool false):=World.rowIs_made w (.bool false) n 4
end Go.Proofs.YteciblfmgdlipaaGreatDoor.AS
