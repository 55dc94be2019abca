/-
  Part of a proof: contracts of functions and lemmas, each stated by its own theorem. Conditions: as each theorem states.
-/
import Derived.Test.YteciblfmgdlipaaGreatDoorMR00
import Derived.Laws.EntriesVeiled
import Derived.StillTailTactics
import Derived.Laws.Closers25b
set_option linter.unusedSimpArgs false
set_option linter.unusedVariables false
set_option maxRecDepth 100000
set_option maxHeartbeats 16000000
namespace Go.Proofs.YteciblfmgdlipaaGreatDoor.CK
open Go.RowKit Go.Great
def shapeT:List (ByteArray × Int × Int × Int):=[
 (⟨#[110,111,112]⟩,0,0,0),
 (⟨#[104,97,108,116]⟩,0,1,0),
 (⟨#[97,98,111,114,116]⟩,0,1,0),
 (⟨#[110,117,109]⟩,1,0,1),
 (⟨#[112,111,112]⟩,0,1,0),
 (⟨#[99,111,112,121]⟩,6,0,1),
 (⟨#[115,119,97,112]⟩,0,2,2),
 (⟨#[103,101,116]⟩,2,0,1),
 (⟨#[115,101,116]⟩,2,1,0),
 (⟨#[108,111,97,100]⟩,0,1,1),
 (⟨#[115,116,111,114,101]⟩,0,2,0),
 (⟨#[108,111,97,100,56]⟩,0,1,1),
 (⟨#[115,116,111,114,101,56]⟩,0,2,0),
 (⟨#[115,105,122,101]⟩,0,0,1),
 (⟨#[106,117,109,112]⟩,3,0,0),
 (⟨#[122,101,114,111]⟩,3,1,0),
 (⟨#[110,111,116,122,101,114,111]⟩,3,1,0),
 (⟨#[99,97,108,108]⟩,4,(-1),(-1)),
 (⟨#[114,101,116]⟩,0,(-1),0),
 (⟨#[115,121,115]⟩,5,(-1),1),
 (⟨#[97,100,100]⟩,0,2,1),
 (⟨#[115,117,98]⟩,0,2,1),
 (⟨#[109,117,108]⟩,0,2,1),
 (⟨#[100,105,118]⟩,0,2,1),
 (⟨#[114,101,109]⟩,0,2,1),
 (⟨#[97,110,100]⟩,0,2,1),
 (⟨#[111,114]⟩,0,2,1),
 (⟨#[120,111,114]⟩,0,2,1),
 (⟨#[115,104,108]⟩,0,2,1),
 (⟨#[115,104,114]⟩,0,2,1),
 (⟨#[117,115,104,114]⟩,0,2,1),
 (⟨#[101,113]⟩,0,2,1),
 (⟨#[108,116]⟩,0,2,1),
 (⟨#[117,108,116]⟩,0,2,1),
 (⟨#[110,101,103]⟩,0,1,1),
 (⟨#[110,111,116]⟩,0,1,1),
 (⟨#[102,97,100,100]⟩,0,2,1),
 (⟨#[102,115,117,98]⟩,0,2,1),
 (⟨#[102,109,117,108]⟩,0,2,1),
 (⟨#[102,100,105,118]⟩,0,2,1),
 (⟨#[102,101,113]⟩,0,2,1),
 (⟨#[102,108,116]⟩,0,2,1),
 (⟨#[102,110,101,103]⟩,0,1,1),
 (⟨#[102,114,111,111,116]⟩,0,1,1),
 (⟨#[116,111,102]⟩,0,1,1),
 (⟨#[116,111,105]⟩,0,1,1)]
def Zhw:Array Value := #[
 .string ⟨#[110,111,112]⟩,.int .i64 0,.int .i64 0,.int .i64 0,
 .string ⟨#[104,97,108,116]⟩,.int .i64 0,.int .i64 1,.int .i64 0,
 .string ⟨#[97,98,111,114,116]⟩,.int .i64 0,.int .i64 1,.int .i64 0,
 .string ⟨#[110,117,109]⟩,.int .i64 1,.int .i64 0,.int .i64 1,
 .string ⟨#[112,111,112]⟩,.int .i64 0,.int .i64 1,.int .i64 0,
 .string ⟨#[99,111,112,121]⟩,.int .i64 6,.int .i64 0,.int .i64 1,
 .string ⟨#[115,119,97,112]⟩,.int .i64 0,.int .i64 2,.int .i64 2,
 .string ⟨#[103,101,116]⟩,.int .i64 2,.int .i64 0,.int .i64 1,
 .string ⟨#[115,101,116]⟩,.int .i64 2,.int .i64 1,.int .i64 0,
 .string ⟨#[108,111,97,100]⟩,.int .i64 0,.int .i64 1,.int .i64 1,
 .string ⟨#[115,116,111,114,101]⟩,.int .i64 0,.int .i64 2,.int .i64 0,
 .string ⟨#[108,111,97,100,56]⟩,.int .i64 0,.int .i64 1,.int .i64 1,
 .string ⟨#[115,116,111,114,101,56]⟩,.int .i64 0,.int .i64 2,.int .i64 0,
 .string ⟨#[115,105,122,101]⟩,.int .i64 0,.int .i64 0,.int .i64 1,
 .string ⟨#[106,117,109,112]⟩,.int .i64 3,.int .i64 0,.int .i64 0,
 .string ⟨#[122,101,114,111]⟩,.int .i64 3,.int .i64 1,.int .i64 0,
 .string ⟨#[110,111,116,122,101,114,111]⟩,.int .i64 3,.int .i64 1,.int .i64 0,
 .string ⟨#[99,97,108,108]⟩,.int .i64 4,.int .i64 (-1),.int .i64 (-1),
 .string ⟨#[114,101,116]⟩,.int .i64 0,.int .i64 (-1),.int .i64 0,
 .string ⟨#[115,121,115]⟩,.int .i64 5,.int .i64 (-1),.int .i64 1,
 .string ⟨#[97,100,100]⟩,.int .i64 0,.int .i64 2,.int .i64 1,
 .string ⟨#[115,117,98]⟩,.int .i64 0,.int .i64 2,.int .i64 1,
 .string ⟨#[109,117,108]⟩,.int .i64 0,.int .i64 2,.int .i64 1,
 .string ⟨#[100,105,118]⟩,.int .i64 0,.int .i64 2,.int .i64 1,
 .string ⟨#[114,101,109]⟩,.int .i64 0,.int .i64 2,.int .i64 1,
 .string ⟨#[97,110,100]⟩,.int .i64 0,.int .i64 2,.int .i64 1,
 .string ⟨#[111,114]⟩,.int .i64 0,.int .i64 2,.int .i64 1,
 .string ⟨#[120,111,114]⟩,.int .i64 0,.int .i64 2,.int .i64 1,
 .string ⟨#[115,104,108]⟩,.int .i64 0,.int .i64 2,.int .i64 1,
 .string ⟨#[115,104,114]⟩,.int .i64 0,.int .i64 2,.int .i64 1,
 .string ⟨#[117,115,104,114]⟩,.int .i64 0,.int .i64 2,.int .i64 1,
 .string ⟨#[101,113]⟩,.int .i64 0,.int .i64 2,.int .i64 1,
 .string ⟨#[108,116]⟩,.int .i64 0,.int .i64 2,.int .i64 1,
 .string ⟨#[117,108,116]⟩,.int .i64 0,.int .i64 2,.int .i64 1,
 .string ⟨#[110,101,103]⟩,.int .i64 0,.int .i64 1,.int .i64 1,
 .string ⟨#[110,111,116]⟩,.int .i64 0,.int .i64 1,.int .i64 1,
 .string ⟨#[102,97,100,100]⟩,.int .i64 0,.int .i64 2,.int .i64 1,
 .string ⟨#[102,115,117,98]⟩,.int .i64 0,.int .i64 2,.int .i64 1,
 .string ⟨#[102,109,117,108]⟩,.int .i64 0,.int .i64 2,.int .i64 1,
 .string ⟨#[102,100,105,118]⟩,.int .i64 0,.int .i64 2,.int .i64 1,
 .string ⟨#[102,101,113]⟩,.int .i64 0,.int .i64 2,.int .i64 1,
 .string ⟨#[102,108,116]⟩,.int .i64 0,.int .i64 2,.int .i64 1,
 .string ⟨#[102,110,101,103]⟩,.int .i64 0,.int .i64 1,.int .i64 1,
 .string ⟨#[102,114,111,111,116]⟩,.int .i64 0,.int .i64 1,.int .i64 1,
 .string ⟨#[116,111,102]⟩,.int .i64 0,.int .i64 1,.int .i64 1,
 .string ⟨#[116,111,105]⟩,.int .i64 0,.int .i64 1,.int .i64 1]
def Zio:List (ByteArray × Int × Int × Int)->List Value
 | []=>[]
 | x::r => .string x.1 :: .int .i64 x.2.1 :: .int .i64 x.2.2.1 :: .int .i64 x.2.2.2::Zio r
theorem Zhh:∀ (l:List (ByteArray × Int × Int × Int)) (i:Nat) (nm:ByteArray) (o t g:Int),l[i]? = some (nm,o,t,g)->(Zio l)[i*4]? = some (.string nm)/\(Zio l)[i*4+1]? = some (.int .i64 o)/\(Zio l)[i*4+2]? = some (.int .i64 t)/\(Zio l)[i*4+3]? = some (.int .i64 g)
 | [],i,_,_,_,_,h=>by simp at h
 | x::r,0,_,_,_,_,h=>by simp at h;subst h;simp [Zio]
 | x::r,i+1,a,b,c,d,h=>by
   obtain ⟨h1,h2,h3,h4⟩:=Zhh r i a b c d (by simpa using h)
   have e:(i+1)*4=i*4+1+1+1+1:=by omega
   rw [e]
   simp only [Zio]
   exact ⟨by simpa using h1,by simpa using h2,by simpa using h3,by simpa using h4⟩
theorem Zmp:Zhw=(Zio shapeT).toArray:=by rfl
theorem Zbj:shapeT.length=46:=by rfl
theorem Ykb (nm:ByteArray) (w:World):Calls Tryz.prog 123 #[.string nm] w fun e w'=>e = .returned (.agg #[.string nm,.int .i64 0,.int .i64 2,.int .i64 1])/\w.grownBy w' none:=by
 go_enter Tryz.func123,Tryz.ntmps123
 go_wp2
 (try simp only [Exit.inBlock,Exit.then])
 refine bodyPost_ret (v := .agg #[.string nm,.int .i64 0,.int .i64 2,.int .i64 1]) ?_ rfl ⟨rfl,?_⟩
 · rw [Zag rfl]
   go_simp
 · exact Ga _ _ _
theorem Ztl (nm:ByteArray) (w:World):Calls Tryz.prog 124 #[.string nm] w fun e w'=>e = .returned (.agg #[.string nm,.int .i64 0,.int .i64 1,.int .i64 1])/\w.grownBy w' none:=by
 go_enter Tryz.func124,Tryz.ntmps124
 go_wp2
 (try simp only [Exit.inBlock,Exit.then])
 refine bodyPost_ret (v := .agg #[.string nm,.int .i64 0,.int .i64 1,.int .i64 1]) ?_ rfl ⟨rfl,?_⟩
 · rw [Zag rfl]
   go_simp
 · exact Ga _ _ _
def Zhn (w:World) (S:Nat):Prop:=S<w.heap.size/\∀ (i:Nat) (v:Value),Zhw[i]? = some v->w.cell? ⟨S,i,none⟩=some v
theorem Zgn {w w':World} {S:Nat} {r:Option Nat} (h:Zhn w S) (g:w.grownBy w' r) (hr:some S≠r):Zhn w' S:=⟨Nat.lt_of_lt_of_le h.1 g.size,fun i v hi=>g.cell (h.2 i v hi) hr⟩
theorem Zhv (w:World):Calls Tryz.prog 85 #[] w fun e w'=>∃ S,e = .returned (.slice (some ⟨S,0,none⟩) 46 46)/\w.grownBy w' none/\w.heap.size<=S/\Zhn w' S:=by
 have G:=Hq (Zd w none)
 have TW:=Hq Ykb
 have ON:=Hq Ztl
 go_enter Tryz.func85,Tryz.ntmps85
 go_wp2_with (first
  | (go_at_call 123;refine (TW.out _ _).mono ?_;rintro e w1 ⟨rfl,hg⟩;replace G:=Hq (Za G.out hg);clear hg)
  | (go_at_call 124;refine (ON.out _ _).mono ?_;rintro e w1 ⟨rfl,hg⟩;replace G:=Hq (Za G.out hg);clear hg)
  | (refine wpList_buildSliceTo rfl 171 144 46 _ rfl w1.heap.size rfl (some 47) rfl Tryz.underlying171 Zhw (by kernel_rfl) ?_))
 go_ret
 exact ⟨_,rfl,Za G.out (Ga _ _ none),G.out.size,by simp,fun i v h=>by rw [World.cell?_alloc_at (hn:=rfl)];exact h⟩
theorem Yjb (L n:Nat) (hn:n<L) (hL:L<1000) (b:Nat) (x:ByteArray) (y t u:Int) (w:World) (hb:b<w.heap.size) (h0:w.cell? ⟨b,n*4,none⟩=some (.string x)) (h1:w.cell? ⟨b,n*4+1,none⟩=some (.int .i64 y)) (h2:w.cell? ⟨b,n*4+2,none⟩=some (.int .i64 t)) (h3:w.cell? ⟨b,n*4+3,none⟩=some (.int .i64 u)) :
 Calls Tryz.prog 86 #[.slice (some ⟨b,0,none⟩) L L,.int .i64 n] w fun e w'=>e = .returned (.tuple #[.agg #[.string x,.int .i64 y,.int .i64 t,.int .i64 u],.bool true])/\w.grownBy w' none:=by
 have hni:(n:Int)<(L:Int):=by omega
 go_enter Tryz.func86,Tryz.ntmps86
 go_wp2
 (try simp only [Exit.inBlock,Exit.then])
 refine bodyPost_ret (v := .tuple #[.agg #[.string x,.int .i64 y,.int .i64 t,.int .i64 u],.bool true]) ?_ rfl ⟨rfl,Ga _ _ _⟩
 rw [results_cell_tmp rfl]
 go_simp
theorem Yko (L:Nat) (n:Int) (hn:n<0\/(L:Int)<=n) (hL:L<1000) (b:Nat) (w:World) :
 Calls Tryz.prog 86 #[.slice (some ⟨b,0,none⟩) L L,.int .i64 n] w fun e w'=>e = .returned (.tuple #[.agg #[.string ⟨#[]⟩,.int .i64 0,.int .i64 0,.int .i64 0],.bool false])/\w.grownBy w' none:=by
 rcases (by omega:n<0\/(0<=n/\(L:Int)<=n)) with hn|⟨hn0,hn⟩
 all_goals
  go_enter Tryz.func86,Tryz.ntmps86
  go_wp2
  (try simp only [Exit.inBlock,Exit.then])
  refine bodyPost_ret (v := .tuple #[.agg #[.string ⟨#[]⟩,.int .i64 0,.int .i64 0,.int .i64 0],.bool false]) ?_ rfl ⟨rfl,Ga _ _ _⟩
  rw [results_cell_tmp rfl]
  go_simp
def Zr (op:Int):Option (ByteArray × Int × Int × Int):=if 0<=op/\op<46 then shapeT[op.toNat]? else none
theorem Zbz {op:Int} (h:0<=op/\op<46):∃ (n:Nat) (x:ByteArray × Int × Int × Int),op=n/\n<46/\shapeT[n]? = some x/\Zr op=some x:=by
 obtain ⟨n,rfl⟩:=Int.eq_ofNat_of_zero_le h.1
 have hn:n<shapeT.length:=by rw [Zbj];omega
 refine ⟨n,shapeT[n],rfl,by omega,List.getElem?_eq_getElem hn,?_⟩
 unfold Zr
 rw [if_pos h,Int.toNat_natCast]
 exact List.getElem?_eq_getElem hn
theorem Zaa {op:Int} (h:¬ (0<=op/\op<46)):Zr op=none:=by unfold Zr;rw [if_neg h]
def Zmq:Option (ByteArray × Int × Int × Int)->Value
 | some x => .tuple #[.agg #[.string x.1,.int .i64 x.2.1,.int .i64 x.2.2.1,.int .i64 x.2.2.2],.bool true]
 | none => .tuple #[.agg #[.string ⟨#[]⟩,.int .i64 0,.int .i64 0,.int .i64 0],.bool false]
theorem Zpx (op:Int) (S:Nat) (w:World) (h:Zhn w S) :
 Calls Tryz.prog 86 #[.slice (some ⟨S,0,none⟩) 46 46,.int .i64 op] w fun e w'=>e = .returned (Zmq (Zr op))/\w.grownBy w' none:=by
 by_cases hop:0<=op/\op<46
 · obtain ⟨n,⟨nm,o,t,g⟩,rfl,hn,hx,hs⟩:=Zbz hop
   rw [hs]
   obtain ⟨h1,h2,h3,h4⟩:=Zhh shapeT n nm o t g hx
   have hc:∀ i v,(Zio shapeT)[i]? = some v->w.cell? ⟨S,i,none⟩=some v:=fun i v hi=>h.2 i v (by rw [Zmp,List.getElem?_toArray];exact hi)
   exact Yjb 46 n hn (by decide) S nm o t g w h.1 (hc _ _ h1) (hc _ _ h2) (hc _ _ h3) (hc _ _ h4)
 · rw [Zaa hop]
   exact Yko 46 op (by omega) (by decide) S w
theorem Yjj (op:Int) (w:World):Calls Tryz.prog 66 #[.int .i64 op] w fun e w'=>e = .returned (Zmq (Zr op))/\w.grownBy w' none:=by
 have C:=Hq Zhv
 have R:=Hq (Zpx op)
 obtain ⟨nm,o,t,g,b,hv⟩:∃ nm o t g b,Zmq (Zr op) = .tuple #[.agg #[.string nm,.int .i64 o,.int .i64 t,.int .i64 g],.bool b]:=by
  cases Zr op with
  | none=>exact ⟨_,_,_,_,_,rfl⟩
  | some x=>exact ⟨_,_,_,_,_,rfl⟩
 rw [hv] at R ⊢
 clear hv
 go_enter Tryz.func66,Tryz.ntmps66
 go_wp2_with (first
  | (go_at_call 85;refine (C.out _).mono ?_;rintro e w1 ⟨S,rfl,hg,hS,hsh⟩;have G1:=Hq hg;have SH:=Hq hsh;clear hg hsh)
  | (go_at_call 86;refine (R.out _ _ SH.out).mono ?_;rintro e w2 ⟨rfl,hg2⟩;have G2:=Hq hg2;have hb:=Zf (Zf (heap_alloc_new w (.cells #[.string ⟨#[]⟩,.int .i64 0,.int .i64 0,.int .i64 0] 144)) G1.out (by simp)) hg2 (by simp);have c0:=Cq w2 _ 0 _ _ _ hb;have c1:=Cq w2 _ 1 _ _ _ hb;have c2:=Cq w2 _ 2 _ _ _ hb;have c3:=Cq w2 _ 3 _ _ _ hb;have z0:=frozen_of_row w2 _ 0 _ _ hb;have z1:=frozen_of_row w2 _ 1 _ _ hb;have z2:=frozen_of_row w2 _ 2 _ _ hb;have z3:=frozen_of_row w2 _ 3 _ _ hb;have HB:=Hq hb;clear hg2 hb))
 (try simp only [Exit.inBlock,Exit.then])
 have hq:((((w2.setCell ⟨w.heap.size,0,none⟩ (.string nm)).setCell ⟨w.heap.size,1,none⟩ (.int .i64 o)).setCell ⟨w.heap.size,2,none⟩ (.int .i64 t)).setCell ⟨w.heap.size,3,none⟩ (.int .i64 g)).heap[w.heap.size]? = some (.cells #[.string nm,.int .i64 o,.int .i64 t,.int .i64 g] 144 (0,0)):=by
  rw [Zl (Zl (Zl (Zl HB.out)))];rfl
 refine bodyPost_ret (v := .tuple #[.agg #[.string nm,.int .i64 o,.int .i64 t,.int .i64 g],.bool b]) ?_ rfl ⟨rfl,Yd (Yd (Yd (Yd (Za (Za (Ga _ _ _) G1.out) G2.out) (Nat.le_refl _)) (Nat.le_refl _)) (Nat.le_refl _)) (Nat.le_refl _)⟩
 clear c0 c1 c2 c3 z0 z1 z2 z3
 have d0:=Cq _ _ 0 _ _ _ hq
 have d1:=Cq _ _ 1 _ _ _ hq
 have d2:=Cq _ _ 2 _ _ _ hq
 have d3:=Cq _ _ 3 _ _ _ hq
 clear hq
 generalize (((w2.setCell ⟨w.heap.size,0,none⟩ (.string nm)).setCell ⟨w.heap.size,1,none⟩ (.int .i64 o)).setCell ⟨w.heap.size,2,none⟩ (.int .i64 t)).setCell ⟨w.heap.size,3,none⟩ (.int .i64 g)=w9 at *
 rw [results_cell_tmp rfl]
 go_simp
section
variable {P:Program} {ops:Array Oper} {Q:Exit->Act->World->Prop}
theorem Zzn (hdag:∀ (j:Nat) (o:Oper),ops[j]? = some o->∀ e∈o.after,e.on<j) {l:Array Bool} (h:Region.ready .any ops l=[]) (hsz:l.size=ops.size):∀ j,j<ops.size->l.getD j false=true:=by
 intro j
 induction j using Nat.strongRecOn with
 | _ j ih =>
   intro hj
   by_cases hl:l.getD j false=true
   · exact hl
   · exfalso
     have hlt:j<l.size:=by omega
     have h1:l.getD j true=false:=by
      simp only [Array.getD,hlt,dif_pos] at hl ⊢
      simpa using hl
     have:j∈Region.ready .any ops l:=mem_ready.2 ⟨h1,ops[j],by simp [hj],fun e he _=>ih e.on (hdag j ops[j] (by simp [hj]) e he) (Nat.lt_trans (hdag j ops[j] (by simp [hj]) e he) hj)⟩
     rw [h] at this
     cases this
theorem Zkf (J:Array Bool->Act->World->Prop)
 (step:∀ l a w i,J l a w->i∈Region.ready .any ops l->wpOp P ops Q i (fun a' w'=>J (l.setIfInBounds i true) a' w') a w)
 (fin:∀ l a w,J l a w->(Region.ready .any ops l=[])->Q .normal a w) :
 ∀ fuel l a w,J l a w->l.toList.count false<=fuel->wpAny P .any ops Q fuel l a w
 | 0,l,a,w,hJ,hc=>by
   have hnil:Region.ready .any ops l=[]:=by
    cases hr:Region.ready .any ops l with
    | nil=>rfl
    | cons i r =>
      exfalso
      have hi:i∈Region.ready .any ops l:=by rw [hr];exact List.mem_cons_self ..
      have h1:=(mem_ready.1 hi).1
      have hlt:i<l.size:=by
       rcases Nat.lt_or_ge i l.size with h'|h'
       · exact h'
       · simp [Array.getElem?_eq_none h'] at h1
      have hm:false∈l.toList:=by
       have:l[i]=false:=by simpa [hlt] using h1
       rw [<- this];exact Array.mem_toList_iff.2 (Array.getElem_mem hlt)
      have:=List.count_pos_iff.2 hm
      omega
   exact ⟨hnil,fin l a w hJ hnil⟩
 | fuel+1,l,a,w,hJ,hc=>by
   refine ⟨fun h=>fin l a w hJ h,fun i hi=>wpOp_mono (fun a' w' hJ'=>Zkf J step fin fuel _ a' w' hJ' ?_) (step l a w i hJ hi)⟩
   have h1:=(mem_ready.1 hi).1
   have hlt:i<l.size:=by
    rcases Nat.lt_or_ge i l.size with h'|h'
    · exact h'
    · simp [Array.getElem?_eq_none h'] at h1
   have hf:l[i]=false:=by simpa [hlt] using h1
   have hm:false∈l.toList:=by rw [<- hf];exact Array.mem_toList_iff.2 (Array.getElem_mem hlt)
   have hpos:=List.count_pos_iff.2 hm
   rw [Array.toList_setIfInBounds,List.count_set (by simpa using hlt)]
   have e1:(l.toList[i]'(by simpa using hlt) == false)=true:=by rw [Array.getElem_toList,hf];rfl
   rw [if_pos e1,if_neg (by decide)]
   omega
end
theorem Zb {ops:Array Oper} {l:Array Bool} {i:Nat} (hi:i∈Region.ready .any ops l) (n:Nat) (h:((ops[i]?).any fun o=>o.after.any fun e=>e.on == n && Region.binds .any e)=true):l.getD n false=true:=by
 obtain ⟨_,o,ho,haf⟩:=mem_ready.1 hi
 rw [ho] at h
 obtain ⟨e,he,hb⟩:=Array.any_eq_true'.1 (show o.after.any (fun e=>e.on == n && Region.binds .any e)=true from h)
 simp only [Bool.and_eq_true,beq_iff_eq] at hb
 rw [<- hb.1]
 exact haf e he hb.2
theorem Ypc {ops:Array Oper} (h:((List.range ops.size).all fun j=>(ops[j]?).all fun o=>o.after.all fun e=>decide (e.on<j))=true):∀ (j:Nat) (o:Oper),ops[j]? = some o->∀ e∈o.after,e.on<j:=by
 intro j o ho e he
 have hj:j<ops.size:=(Gs ho)
 have h1:=List.all_eq_true.1 h j (List.mem_range.2 hj)
 rw [ho] at h1
 have h2:=Array.all_eq_true'.1 (show o.after.all (fun e=>decide (e.on<j))=true from h1) e he
 exact of_decide_eq_true h2
theorem Zbd (l:Array Bool) (i j:Nat) (hi:i<l.size):(l.setIfInBounds i true).getD j false=if j=i then true else l.getD j false:=by
 by_cases h:j=i
 · subst h;simp [hi]
 · rw [if_neg h];simp [Array.getD_eq_getD_getElem?,Array.getElem?_setIfInBounds_ne (Ne.symm h)]
def tm (a:Act) (d:Nat):Value:=a.tmps.getD d undef
theorem Yoa {a:Act} {d n:Nat} {v:Value} (hs:a.tmps.size=n) (hd:d<n) (e:Nat):tm (a.put (some d) v) e=if e=d then v else tm a e:=by
 unfold tm Act.put
 by_cases h:e=d
 · subst h;simp [hs,hd]
 · rw [if_neg h];simp [Array.getD_eq_getD_getElem?,Array.getElem?_setIfInBounds_ne (Ne.symm h)]
theorem Yfm {a:Act} {d:Option Tmp} {n:Nat} {v:Value} (hs:a.tmps.size=n):(a.put d v).tmps.size=n:=by cases d <;> simp [Act.put,hs]
section
variable {ops:Array Oper} {Q:Exit->Act->World->Prop} {i:Nat} {a:Act} {w:World}
theorem Zhs {K:Act->World->Prop} {o:Oper} {v:Value} {w':World} (ho:ops[i]? = some o) (hg:o.guard=none) (hrun:(execOp a.eval o).run Tryz.prog w = .ok (.value v) w') (h:K (a.put o.dst v) w'):wpOp Tryz.prog ops Q i K a w:=by
 unfold wpOp
 simp only [ho,Region.wanted,hg]
 refine Or.inl ?_
 unfold Oper.wp
 rw [hrun,Oper.upon_value]
 exact h
theorem Zzz {K:Act->World->Prop} {o:Oper} {w':World} (ho:ops[i]? = some o) (hg:o.guard=none) (hd:o.dst=none) (hrun:(execOp a.eval o).run Tryz.prog w = .ok .skip w') (h:K a w'):wpOp Tryz.prog ops Q i K a w:=by
 unfold wpOp
 simp only [ho,Region.wanted,hg]
 refine Or.inl ?_
 unfold Oper.wp
 rw [hrun]
 simp only [Oper.upon,hd]
 exact h
theorem Zwz {K:Act->World->Prop} {o:Oper} {f:FuncId} {args:Array Value} (ho:ops[i]? = some o) (hg:o.guard=none) (hrun:(execOp a.eval o).run Tryz.prog w = .ok (.enter f args) w)
 (h:Calls Tryz.prog f args w fun e w'=>∃ v,e = .returned v/\K (a.put o.dst v) w'):wpOp Tryz.prog ops Q i K a w:=by
 unfold wpOp
 simp only [ho,Region.wanted,hg]
 refine Or.inl ?_
 unfold Oper.wp
 rw [hrun]
 simp only [Oper.upon]
 refine h.mono fun e w' he => ?_
 obtain ⟨v,rfl,hK⟩:=he
 exact hK
end
def fnV (f:FuncId) (caps:Array Value):Value := .func (.func f) #[] caps
def Zzu (b:Nat):Value := .pointer (some ⟨b,0,none⟩)
def Zan (lo:Nat) (n:Int) (v:Value) (w:World):Prop:=∃ b,v = .agg #[fnV 146 #[Zzu b],fnV 87 #[],fnV 147 #[]]/\lo<=b/\w.cell? ⟨b,0,none⟩=some (.int .i64 n)
def Ygz:Value := .agg #[fnV 116 #[],fnV 117 #[],fnV 118 #[]]
def Ylp:Value := .agg #[fnV 119 #[],fnV 120 #[],fnV 121 #[]]
theorem Yeo (n:Int) (w:World):Calls Tryz.prog 122 #[.int .i64 n] w fun e w'=>∃ v,e = .returned v/\w.grownBy w' none/\Zan w.heap.size n v w':=by
 go_enter Tryz.func122,Tryz.ntmps122
 go_wp2
 (try simp only [Exit.inBlock,Exit.then])
 refine bodyPost_ret (v := .agg #[fnV 146 #[Zzu w.heap.size],fnV 87 #[],fnV 147 #[]]) ?_ rfl ⟨_,rfl,Za (Ga _ _ _) (Ga _ _ _),_,rfl,Nat.le_refl _,by simp⟩
 rw [Zag rfl]
 go_simp
 exact ⟨rfl,rfl,rfl⟩
def KV (lo:Nat) (k:Nat) (v:Value) (w:World):Prop :=
 match k with
 | 0=>v=Ygz
 | 1=>v=Ylp
 | 2=>Zan lo 64 v w
 | 3=>Zan lo 4096 v w
 | 4=>Zan lo 64 v w
 | 5=>Zan lo 5 v w
 | _=>Zan lo 256 v w
theorem Zbw {lo:Nat} {n:Int} {v:Value} {w w':World} (h:Zan lo n v w) (g:w.grownBy w' none):Zan lo n v w':=by
 obtain ⟨b,e,hl,hc⟩:=h;exact ⟨b,e,hl,g.cell hc (by simp)⟩
theorem Ycv {lo k:Nat} {v:Value} {w w':World} (h:KV lo k v w) (g:w.grownBy w' none):KV lo k v w':=by
 match k,h with
 | 0,h=>exact h
 | 1,h=>exact h
 | 2,h=>exact Zbw h g
 | 3,h=>exact Zbw h g
 | 4,h=>exact Zbw h g
 | 5,h=>exact Zbw h g
 | _+6,h=>exact Zbw h g
def Zeu (w:World) (lo S:Nat):Prop:=S<w.heap.size/\lo<=S/\∀ k,k<7->∃ a b c,KV lo k (.agg #[a,b,c]) w/\w.cell? ⟨S,k*3,none⟩=some a/\w.cell? ⟨S,k*3+1,none⟩=some b/\w.cell? ⟨S,k*3+2,none⟩=some c
theorem Zjd {w w':World} {lo S:Nat} (h:Zeu w lo S) (g:w.grownBy w' none):Zeu w' lo S :=
 ⟨Nat.lt_of_lt_of_le h.1 g.size,h.2.1,fun k hk=>by obtain ⟨a,b,c,h1,h2,h3,h4⟩:=h.2.2 k hk;exact ⟨a,b,c,Ycv h1 g,g.cell h2 (by simp),g.cell h3 (by simp),g.cell h4 (by simp)⟩⟩
theorem Zdg {lo lo':Nat} {n:Int} {v:Value} {w:World} (h:Zan lo n v w) (hl:lo'<=lo):Zan lo' n v w:=by
 obtain ⟨b,e,h1,hc⟩:=h;exact ⟨b,e,Nat.le_trans hl h1,hc⟩
theorem Yqi {lo lo' k:Nat} {v:Value} {w:World} (h:KV lo k v w) (hl:lo'<=lo):KV lo' k v w:=by
 match k,h with
 | 0,h=>exact h
 | 1,h=>exact h
 | 2,h=>exact Zdg h hl
 | 3,h=>exact Zdg h hl
 | 4,h=>exact Zdg h hl
 | 5,h=>exact Zdg h hl
 | _+6,h=>exact Zdg h hl
theorem Zys {w:World} {lo lo' S:Nat} (h:Zeu w lo S) (hl:lo'<=lo):Zeu w lo' S :=
 ⟨h.1,Nat.le_trans hl h.2.1,fun k hk=>by obtain ⟨a,b,c,h1,h2⟩:=h.2.2 k hk;exact ⟨a,b,c,Yqi h1 hl,h2⟩⟩
def SlO (lo j:Nat) (v:Value) (w:World):Prop :=
 if j<7 then KV lo j v w else ∃ S,v = .slice (some ⟨S,0,none⟩) 7 7/\Zeu w lo S
theorem Yfl {lo j:Nat} {v:Value} {w w':World} (h:SlO lo j v w) (g:w.grownBy w' none):SlO lo j v w':=by
 unfold SlO at *
 split
 · rename_i hj;rw [if_pos hj] at h;exact Ycv h g
 · rename_i hj;rw [if_neg hj] at h;obtain ⟨S,e,hk⟩:=h;exact ⟨S,e,Zjd hk g⟩
def dO:Nat->Nat
 | 0=>5|1=>6|2=>7|3=>8|4=>9|5=>10|6=>11|7=>12|_=>0
structure OJ (w1:World) (b1 b2:Nat) (l:Array Bool) (a:Act) (w:World):Prop where
 sz:l.size=9
 ts:a.tmps.size=13
 df:a.defers=[]
 g:w1.grownBy w none
 t1:tm a 1=Zzu b1
 t2:tm a 2=Zzu b2
 sl:∀ j,j<9->l.getD j false=true->SlO w1.heap.size j (tm a (dO j)) w
theorem Yig:∀ i,i<9->dO i≠1/\dO i≠2/\dO i<13:=by decide
theorem Yih:∀ i,i<9->∀ j,j<9->i≠j->dO i≠dO j:=by decide
theorem Zvp {w1:World} {b1 b2 i:Nat} {l:Array Bool} {a:Act} {w w':World} {v:Value} (h:OJ w1 b1 b2 l a w) (hi:i<9) (g:w.grownBy w' none) (hv:SlO w1.heap.size i v w'):OJ w1 b1 b2 (l.setIfInBounds i true) (a.put (some (dO i)) v) w':=by
 obtain ⟨f1,f2,fd⟩:=Yig i hi
 have T:∀ e,tm (a.put (some (dO i)) v) e=if e=dO i then v else tm a e:=fun e=>Yoa h.ts fd e
 have hgs:∀ j,(l.setIfInBounds i true).getD j false=if j=i then true else l.getD j false:=fun j=>Zbd l i j (by rw [h.sz];exact hi)
 refine ⟨by simp [h.sz],Yfm h.ts,h.df,Za h.g g,by rw [T,if_neg (Ne.symm f1)];exact h.t1,by rw [T,if_neg (Ne.symm f2)];exact h.t2,?_⟩
 intro j hj hl
 rw [hgs] at hl
 by_cases hji:j=i
 · subst hji
   rw [T,if_pos rfl]
   exact hv
 · rw [if_neg hji] at hl
   rw [T,if_neg (fun e=>Yih i hi j hj (Ne.symm hji) e.symm)]
   exact Yfl (h.sl j hj hl) g
section
variable {ops:Array Oper} {Q:Exit->Act->World->Prop} {w1:World} {b1 b2 i:Nat} {l:Array Bool} {a:Act} {w:World}
theorem Zgm {o:Oper} {n:Int} {ts:Array TypeId} (hJ:OJ w1 b1 b2 l a w) (ho:ops[i]? = some o) (hg:o.guard=none) (hop:o.op = .call { callee := .value (.func 122),args := #[.const (.int .i64 n)],argTypes:=ts }) (hdst:o.dst=some (dO i)) (hi:i<9)
 (hv:∀ v w,Zan w1.heap.size n v w->SlO w1.heap.size i v w):wpOp Tryz.prog ops Q i (fun a' w'=>OJ w1 b1 b2 (l.setIfInBounds i true) a' w') a w:=by
 refine Zwz ho hg (f:=122) (args := #[.int .i64 n]) (by simp [execOp,hop,Act.eval,go_sem]) ?_
 refine (Yeo n w).mono fun e w' h => ?_
 obtain ⟨v,rfl,g,hb⟩:=h
 refine ⟨v,rfl,?_⟩
 rw [hdst]
 exact Zvp hJ hi g (hv v w' (Zdg hb hJ.g.size))
theorem Yaq {o:Oper} {s:Tmp} {b:Nat} {x y z:Value} (hJ:OJ w1 b1 b2 l a w) (ho:ops[i]? = some o) (hg:o.guard=none) (hop:o.op = .load 178 (.tmp s)) (hdst:o.dst=some (dO i)) (hi:i<9) (hs:tm a s=Zzu b)
 (h0:w1.cell? ⟨b,0,none⟩=some x) (h1:w1.cell? ⟨b,1,none⟩=some y) (h2:w1.cell? ⟨b,2,none⟩=some z) (hv:∀ w,SlO w1.heap.size i (.agg #[x,y,z]) w):wpOp Tryz.prog ops Q i (fun a' w'=>OJ w1 b1 b2 (l.setIfInBounds i true) a' w') a w:=by
 have c0:w.cell? ⟨b,0,none⟩=some x:=hJ.g.cell h0 (by simp)
 have c1:w.cell? ⟨b,1,none⟩=some y:=hJ.g.cell h1 (by simp)
 have c2:w.cell? ⟨b,2,none⟩=some z:=hJ.g.cell h2 (by simp)
 unfold tm at hs
 refine Zhs ho hg (v := .agg #[x,y,z]) (w':=w) (by simp [execOp,hop,Act.eval,hs,Zzu,c0,c1,c2,go_sem]) ?_
 rw [hdst]
 exact Zvp hJ hi (Zd _ _) (hv w)
theorem Zyp:(Tryz.prog.info? 178).map (fun i=>(i.zero,i.size,i.bytes))=some (some (.agg #[.nilFunc,.nilFunc,.nilFunc]),3,24):=by kernel_rfl
theorem Yct:Tryz.prog.underlying 169=some (.slice 178):=by kernel_rfl
def Zdx (b:Nat):Value := .agg #[fnV 146 #[Zzu b],fnV 87 #[],fnV 147 #[]]
def Zbs (b2 b3 b4 b5 b6:Nat):Array Value := #[fnV 116 #[],fnV 117 #[],fnV 118 #[],fnV 119 #[],fnV 120 #[],fnV 121 #[],
 fnV 146 #[Zzu b2],fnV 87 #[],fnV 147 #[],fnV 146 #[Zzu b3],fnV 87 #[],fnV 147 #[],
 fnV 146 #[Zzu b4],fnV 87 #[],fnV 147 #[],fnV 146 #[Zzu b5],fnV 87 #[],fnV 147 #[],
 fnV 146 #[Zzu b6],fnV 87 #[],fnV 147 #[]]
theorem Zyq (b2 b3 b4 b5 b6:Nat):Instr.fill (fun i=>some (i*3,3)) ((Array.range (7*3)).map ((Value.agg #[.nilFunc,.nilFunc,.nilFunc]).cells[· % (Value.agg #[.nilFunc,.nilFunc,.nilFunc]).cells.size]!))
 [(0,Ygz),(1,Ylp),(2,Zdx b2),(3,Zdx b3),(4,Zdx b4),(5,Zdx b5),(6,Zdx b6)]=some (Zbs b2 b3 b4 b5 b6):=by kernel_rfl
theorem Yfk {o:Oper} (hJ:OJ w1 b1 b2 l a w) (ho:ops[7]? = some o) (hg:o.guard=none)
 (hop:o.op = .buildSlice 169 7 #[(0,.tmp 5),(1,.tmp 6),(2,.tmp 7),(3,.tmp 8),(4,.tmp 9),(5,.tmp 10),(6,.tmp 11)]) (hdst:o.dst=some 12) (hl:∀ j,j<7->l.getD j false=true) :
 wpOp Tryz.prog ops Q 7 (fun a' w'=>OJ w1 b1 b2 (l.setIfInBounds 7 true) a' w') a w:=by
 have e0:tm a 5=Ygz:=hJ.sl 0 (by decide) (hl 0 (by decide))
 have e1:tm a 6=Ylp:=hJ.sl 1 (by decide) (hl 1 (by decide))
 obtain ⟨c2,e2,l2,h2⟩:Zan w1.heap.size 64 (tm a 7) w:=hJ.sl 2 (by decide) (hl 2 (by decide))
 obtain ⟨c3,e3,l3,h3⟩:Zan w1.heap.size 4096 (tm a 8) w:=hJ.sl 3 (by decide) (hl 3 (by decide))
 obtain ⟨c4,e4,l4,h4⟩:Zan w1.heap.size 64 (tm a 9) w:=hJ.sl 4 (by decide) (hl 4 (by decide))
 obtain ⟨c5,e5,l5,h5⟩:Zan w1.heap.size 5 (tm a 10) w:=hJ.sl 5 (by decide) (hl 5 (by decide))
 obtain ⟨c6,e6,l6,h6⟩:Zan w1.heap.size 256 (tm a 11) w:=hJ.sl 6 (by decide) (hl 6 (by decide))
 obtain ⟨ie,i0,i1,i2,i3⟩:=info_parts Zyp
 have g:w.grownBy (w.alloc (.cells (Zbs c2 c3 c4 c5 c6) 178)) none:=Ga _ _ _
 refine Zhs ho hg (v := .slice (some ⟨w.heap.size,0,none⟩) 7 7) (w':=w.alloc (.cells (Zbs c2 c3 c4 c5 c6) 178)) ?_ ?_
 · have hp:((#[(0,.tmp 5),(1,.tmp 6),(2,.tmp 7),(3,.tmp 8),(4,.tmp 9),(5,.tmp 10),(6,.tmp 11)]:Array (Nat × Operand)).map fun (i,x)=>(i,a.eval x)).toList=[(0,Ygz),(1,Ylp),(2,Zdx c2),(3,Zdx c3),(4,Zdx c4),(5,Zdx c5),(6,Zdx c6)]:=by
    unfold tm at e0 e1 e2 e3 e4 e5 e6
    simp only [Array.getD_eq_getD_getElem?] at e0 e1 e2 e3 e4 e5 e6
    simp [Act.eval,e0,e1,e2,e3,e4,e5,e6,Zdx]
   have hr:=run_buildSlice (P:=Tryz.prog) w 169 178 7 ((#[(0,.tmp 5),(1,.tmp 6),(2,.tmp 7),(3,.tmp 8),(4,.tmp 9),(5,.tmp 10),(6,.tmp 11)]:Array (Nat × Operand)).map fun (i,x)=>(i,a.eval x)) (Zbs c2 c3 c4 c5 c6) ie (.agg #[.nilFunc,.nilFunc,.nilFunc]) Yct i0 i1 (by rw [i2];decide) (by rw [i2];decide) (by rw [i2,hp];exact Zyq c2 c3 c4 c5 c6)
   unfold execOp
   simp only [hop,Sem.run_bind,hr,Result.andThen_ok]
   rfl
 · rw [hdst]
   refine Zvp (i:=7) hJ (by decide) g ⟨_,rfl,by simp,hJ.g.size,fun k hk => ?_⟩
   have hc:∀ j v,(Zbs c2 c3 c4 c5 c6)[j]? = some v->(w.alloc (.cells (Zbs c2 c3 c4 c5 c6) 178)).cell? ⟨w.heap.size,j,none⟩=some v:=fun j v hj=>by rw [World.cell?_alloc_at (hn:=rfl)];exact hj
   have hb:∀ n c,w1.heap.size<=c->w.cell? ⟨c,0,none⟩=some (.int .i64 n)->Zan w1.heap.size n (Zdx c) (w.alloc (.cells (Zbs c2 c3 c4 c5 c6) 178)):=fun n c h1 h=>⟨c,rfl,h1,g.cell h (by simp)⟩
   rcases (by omega:k=0\/k=1\/k=2\/k=3\/k=4\/k=5\/k=6) with rfl|rfl|rfl|rfl|rfl|rfl|rfl
   · exact ⟨_,_,_,rfl,hc _ _ rfl,hc _ _ rfl,hc _ _ rfl⟩
   · exact ⟨_,_,_,rfl,hc _ _ rfl,hc _ _ rfl,hc _ _ rfl⟩
   · exact ⟨_,_,_,hb _ _ l2 h2,hc _ _ rfl,hc _ _ rfl,hc _ _ rfl⟩
   · exact ⟨_,_,_,hb _ _ l3 h3,hc _ _ rfl,hc _ _ rfl,hc _ _ rfl⟩
   · exact ⟨_,_,_,hb _ _ l4 h4,hc _ _ rfl,hc _ _ rfl,hc _ _ rfl⟩
   · exact ⟨_,_,_,hb _ _ l5 h5,hc _ _ rfl,hc _ _ rfl,hc _ _ rfl⟩
   · exact ⟨_,_,_,hb _ _ l6 h6,hc _ _ rfl,hc _ _ rfl,hc _ _ rfl⟩
theorem Yke {o:Oper} (hJ:OJ w1 b1 b2 l a w) (ho:ops[8]? = some o) (hg:o.guard=none) (hop:o.op = .assign (.tmp 12)) (hdst:o.dst=some 0) (hl:l.getD 7 false=true):wpOp Tryz.prog ops Q 8 (fun a' w'=>OJ w1 b1 b2 (l.setIfInBounds 8 true) a' w') a w:=by
 refine Zhs ho hg (v:=tm a 12) (w':=w) (by simp [execOp,hop,Act.eval,tm]) ?_
 rw [hdst]
 exact Zvp (i:=8) hJ (by decide) (Zd _ _) (hJ.sl 7 (by decide) hl)
end
def Zsk (w:World) (e:Ending) (w':World):Prop:=∃ S,e = .returned (.slice (some ⟨S,0,none⟩) 7 7)/\w.grownBy w' none/\Zeu w' w.heap.size S
theorem Zqo (w:World):Calls Tryz.prog 84 #[] w (Zsk w):=by
 go_enter Tryz.func84,Tryz.ntmps84
 go_wp2
 rename_i K hK
 have g1:w.grownBy ((w.alloc (.cells #[.func (.func 116) #[] #[],.func (.func 117) #[] #[],.func (.func 118) #[] #[]] 178)).alloc (.cells #[.func (.func 119) #[] #[],.func (.func 120) #[] #[],.func (.func 121) #[] #[]] 178)) none:=Za (Ga _ _ _) (Ga _ _ _)
 have hb1:=heap_alloc_new w (.cells #[.func (.func 116) #[] #[],.func (.func 117) #[] #[],.func (.func 118) #[] #[]] 178)
 have hb1':=Zf hb1 (Ga _ (.cells #[.func (.func 119) #[] #[],.func (.func 120) #[] #[],.func (.func 121) #[] #[]] 178) none) (by simp)
 have hb2:=Zwd w (.cells #[.func (.func 116) #[] #[],.func (.func 117) #[] #[],.func (.func 118) #[] #[]] 178) (.cells #[.func (.func 119) #[] #[],.func (.func 120) #[] #[],.func (.func 121) #[] #[]] 178)
 clear hb1
 generalize (w.alloc (.cells #[.func (.func 116) #[] #[],.func (.func 117) #[] #[],.func (.func 118) #[] #[]] 178)).alloc (.cells #[.func (.func 119) #[] #[],.func (.func 120) #[] #[],.func (.func 121) #[] #[]] 178)=w1 at *
 refine wp_region_any (by kernel_rfl) ?_
 refine Zkf (OJ w1 w.heap.size (w.heap.size+1)) ?step ?fin _ _ _ _ ?start (by simp)
 case start =>
  refine ⟨by simp,by simp,rfl,⟨rfl,rfl,rfl,Nat.le_refl _,fun _ _ _=>rfl⟩,rfl,rfl,?_⟩
  intro j hj h;exfalso;revert h;simp only [List.size_toArray];rw [getD_replicate_false];simp
 case fin =>
  intro l a w' hJ hr
  have hl:=Zzn (Ypc (by kernel_rfl)) hr hJ.sz
  obtain ⟨S,hS,hk⟩:∃ S,tm a 0 = .slice (some ⟨S,0,none⟩) 7 7/\Zeu w' w1.heap.size S:=hJ.sl 8 (by decide) (hl 8 (by decide))
  refine hK _ _ ?_
  go_wp2
  refine bodyPost_ret (v := .slice (some ⟨S,0,none⟩) 7 7) ?_ hJ.df ⟨S,rfl,Za g1 hJ.g,Zys hk g1.size⟩
  rw [results_tmp rfl]
  unfold tm at hS
  rw [hS]
 case step =>
  intro l a w' i hJ hi
  have hi9:i<9:=by
   obtain ⟨_,o,ho,_⟩:=mem_ready.1 hi
   exact (Gs ho)
  rcases (by omega:i=0\/i=1\/i=2\/i=3\/i=4\/i=5\/i=6\/i=7\/i=8) with rfl|rfl|rfl|rfl|rfl|rfl|rfl|rfl|rfl
  · exact Yaq hJ rfl rfl rfl rfl (by decide) hJ.t1 (Cq _ _ _ _ _ _ hb1') (Cq _ _ _ _ _ _ hb1') (Cq _ _ _ _ _ _ hb1') (fun w=>rfl)
  · exact Yaq hJ rfl rfl rfl rfl (by decide) hJ.t2 (Cq _ _ _ _ _ _ hb2) (Cq _ _ _ _ _ _ hb2) (Cq _ _ _ _ _ _ hb2) (fun w=>rfl)
  · exact Zgm hJ rfl rfl rfl rfl (by decide) (fun _ _ h=>h)
  · exact Zgm hJ rfl rfl rfl rfl (by decide) (fun _ _ h=>h)
  · exact Zgm hJ rfl rfl rfl rfl (by decide) (fun _ _ h=>h)
  · exact Zgm hJ rfl rfl rfl rfl (by decide) (fun _ _ h=>h)
  · exact Zgm hJ rfl rfl rfl rfl (by decide) (fun _ _ h=>h)
  · refine Yfk hJ rfl rfl rfl rfl fun j hj => ?_
    rcases (by omega:j=0\/j=1\/j=2\/j=3\/j=4\/j=5\/j=6) with rfl|rfl|rfl|rfl|rfl|rfl|rfl
    · exact Zb hi 0 (by kernel_rfl)
    · exact Zb hi 1 (by kernel_rfl)
    · exact Zb hi 2 (by kernel_rfl)
    · exact Zb hi 3 (by kernel_rfl)
    · exact Zb hi 4 (by kernel_rfl)
    · exact Zb hi 5 (by kernel_rfl)
    · exact Zb hi 6 (by kernel_rfl)
  · exact Yke hJ rfl rfl rfl rfl (Zb hi 7 (by kernel_rfl))
def Yiw (w:World) (e:Ending) (w':World):Prop :=
 ∃ g n c xs,e = .returned (.slice (some ⟨g,0,none⟩) n c)/\1<=n/\n<=9/\w'.ownsRow w.heap.size 5 1 (.slice (some ⟨g,0,none⟩) n c) n xs/\(∀ u∈xs,u.oneCell'=true)/\w.grownBy w' none
theorem Zhg (u:Int) (h0:0<=u) (hu:u<18446744073709551616) (w:World) :
 Calls Tryz.prog 126 #[.int .u64 u] w (Yiw w):=by
 by_cases h1:u<248
 · go_enter Tryz.func126,Tryz.ntmps126
   go_wp2
   go_ret
   refine ⟨_,1,1,[_],rfl,by decide,by decide,World.ownsRow_lit w #[_] 1 (Nat.le_refl _) (by decide) rfl,Jq _ _,Ga _ _ _⟩
 · go_enter Tryz.func126,Tryz.ntmps126
   go_wp2
   go_loopw [3] (fun v wr=>∃ k:Nat,1<=k/\k<=8/\v = .int .i64 k/\wr=w) (fun v _=>(intOf v).toNat)
   case atStart=>exact ⟨8,by decide,by decide,rfl,rfl⟩
   case round =>
    obtain ⟨k,hk1,hk8,rfl,rfl⟩:=hrel
    by_cases hz:u / 2 ^ (8*(k - 1))=0
    · have hz2:(u / 2 ^ (8*(k - 1)) == 0)=true:=by simp [hz]
      have hk2:2<=k:=by
       rcases Nat.lt_or_ge k 2 with h|h
       · have e:k=1:=by omega
         subst e
         simp at hz
         omega
       · exact h
      clear hz
      go_wp2
      refine ⟨⟨k - 1,by omega,by omega,by congr 1;omega,trivial⟩,by simp [intOf];omega⟩
    · have hz2:(u / 2 ^ (8*(k - 1)) == 0)=false:=by simp [hz]
      clear hz
      obtain ⟨bi,bi0,bi1,bi2,bi3⟩:=info_parts Jn
      go_wp2
      clear hz2
      have O0:=Hq (World.ownsRow_lit (base:=wr.heap.size) (e:=5) (size:=1) wr #[Value.int IntKind.u8 (247+↑k)] 1 (Nat.le_refl _) (by decide) rfl)
      have G0:=Hq (Ga wr (.cells #[Value.int IntKind.u8 (247+↑k)] 5) none)
      obtain ⟨w0,hw0⟩:∃ w0,w0=wr:=⟨_,rfl⟩
      subst hw0
      generalize w0.alloc (.cells #[Value.int IntKind.u8 (247+↑k)] 5)=w1 at *
      go_loopw [4,5] (fun v i wr=>∃ (n:Nat) (xs:List Value) (j:Int),i = .int .i64 j /\ -1<=j/\(n:Int)+j=k/\1<=n/\wr.ownsRow w0.heap.size 5 1 v n xs/\(∀ u∈xs,u.oneCell'=true)/\w0.grownBy wr none) (fun _ i _=>(intOf i+1).toNat)
      case atStart=>exact ⟨1,_,(k:Int) - 1,rfl,by omega,by omega,Nat.le_refl _,O0.out,Jq _ _,G0.out⟩
      case round =>
       obtain ⟨n,xs,j,rfl,hj,hn,hn1,hown,ho1,hg⟩:=hrel
       have HO:=Hq ho1
       have OW:=Hq hown
       have GW:=Hq hg
       obtain ⟨m,rfl⟩:∃ m,n=m+1:=⟨n - 1,by omega⟩
       obtain ⟨g,c,rfl⟩:=Zcc hown
       have hc3:m+1+1<=maxLen:=by unfold maxLen;omega
       have hc4:(m+1+1)*1<=140737488355328:=by omega
       have hE:∀ o,w0.heap.size<=(wr.alloc o).heap.size:=fun o=>by have:=hg.size;simp;omega
       clear hown hg ho1
       by_cases h2:0<=j
       · go_wp2_with (at_builtin;refine wpList_append_own_at _ rfl _ _ 23 rfl w0.heap.size 5 bi (.int .u8 0) 1 1 Xk bi0 bi1 bi2 bi3 rfl (by decide) (.slice (some ⟨g,0,none⟩) (m+1) c) _ _ rfl (OW.out.alloc _) ⟨wr.heap.size,0,none⟩ 1 1 [.int .u8 _] rfl rfl (Zdp wr _ _) (Jq _ _) hc3 hc4 (hE _) ?_;intro v3 w3 hown3 hgr3 hnil3 hat3;obtain ⟨p3,k3,hv3⟩:=Zk hown3;subst hv3;have OW3:=Hq hown3;have GR3:=Hq hgr3;clear hown3 hgr3 hnil3 hat3)
         refine ⟨⟨m+1+1,_,j - 1,rfl,by omega,by omega,by omega,OW3.out,fun u hu=>(List.mem_append.1 hu).elim (HO.out u) (Jq _ _ u),Zfc (Za GW.out (Ga _ _ none)) GR3.out fun k hk=>(OW.out.lt k hk).1⟩,by simp [intOf];omega⟩
       · go_wp2
         go_ret
         exact ⟨_,_,_,_,rfl,by omega,by omega,OW.out,HO.out,GW.out⟩
structure MwAt (w:World) (E Bw:Nat) (vb:Value) (n:Nat) (xs:List Value):Prop where
 box:w.heap[Bw]? = some (.cells #[vb,.int .i64 0] 214 (0,0))
 row:w.ownsRow E 5 1 vb n xs
 lt:Bw<E
 le:E<=w.heap.size
def MwP (Bw:Nat) (vb:Value) (k:Nat):Prop:=k=Bw\/vb.ownBlock=some k
theorem Zvu {w:World} {E Bw n:Nat} {vb:Value} {xs:List Value} (h:MwAt w E Bw vb n xs) (o:Obj):MwAt (w.alloc o) E Bw vb n xs :=
 ⟨Zf h.box (Ga _ _ none) (by simp),h.row.alloc o,h.lt,Yy h.le o⟩
structure Zmh (w w':World) (E Bw:Nat) (vb v':Value) (n:Nat) (xs:List Value):Prop where
 at_:MwAt w' E Bw v' n xs
 sp:Sp (MwP Bw vb) w w'
 hat:v'.ownBlock=vb.ownBlock\/∃ k,v'.ownBlock=some k/\w.heap.size<=k
theorem Yom {w w1:World} {E Bw n n':Nat} {vb v1:Value} {xs xs':List Value} (h:MwAt w E Bw vb n xs) (own:w1.ownsRow E 5 1 v1 n' xs') (g:w.grownBy w1 vb.ownBlock) (hat:v1.ownBlock=vb.ownBlock\/v1.ownBlock=some w.heap.size) :
 Zmh w (w1.setCell ⟨Bw,0,none⟩ v1) E Bw vb v1 n' xs':=by
 have hlt:=h.lt
 have hle:=h.le
 have hb:=Zf h.box g (Zop h.row hlt)
 refine ⟨⟨by rw [Zl hb];rfl,Yli own hlt,hlt,by rw [World.size_setCell];exact Nat.le_trans hle g.size⟩,?_,?_⟩
 · refine Zuu (Zgl (P:=MwP Bw vb) g fun k _ e=>Or.inr e) (Zgl (P:=MwP Bw vb) (Zo w1 Bw 0 v1) fun k _ e => ?_) (fun _ _ h=>h)
   injection e with e;exact Or.inl e.symm
 · rcases hat with h1|h1
   · exact Or.inl h1
   · exact Or.inr ⟨_,h1,Nat.le_refl _⟩
def Yni (w:World) (E Bw:Nat) (vb:Value) (n:Nat) (xs:List Value) (e:Ending) (w':World):Prop:=e = .returned (.tuple #[])/\∃ v',Zmh w w' E Bw vb v' n xs
theorem Yeq (E Bw L g m c:Nat) (vb:Value) (n:Nat) (xs ys:List Value) (w:World) (hM:MwAt w E Bw vb n xs) (hl:w.cell? ⟨L,0,none⟩=some (.slice (some ⟨g,0,none⟩) m c))
 (hy:ys.length=m) (hc:∀ j u,ys[j]? = some u->w.cell? ((⟨g,0,none⟩:Addr).add j)=some u) (hone:∀ u∈ys,u.oneCell'=true) (hn:n+m<=4194304) (hm:1<=m) :
 Calls Tryz.prog 125 #[.pointer (some ⟨Bw,0,none⟩),.slice (some ⟨L,0,none⟩) 1 1] w (Yni w E Bw vb (n+m) (xs++ys)):=by
 obtain ⟨pb,cb,rfl⟩:=Zk hM.row
 have MW:=Hq hM
 have c0:=Cq w Bw 0 _ _ _ hM.box
 have c1:=Cq w Bw 1 _ _ _ hM.box
 have z0:=frozen_of_row w Bw 0 _ _ hM.box
 have hlt:Bw<w.heap.size:=by have:=hM.lt;have:=hM.le;omega
 have hLl:=World.block_lt_of_cell? _ _ hl
 simp only [] at hLl
 have HC:=Hq hc
 have HO:=Hq hone
 have HY:=Hq hy
 have hle:=hM.le
 clear hc hone hM hy
 go_enter Tryz.func125,Tryz.ntmps125
 go_wp2
 go_loopw [4,16] (fun v i wr=>wr=w/\((i = .int .i64 0/\v = .int .i64 n)\/(i = .int .i64 1/\v = .int .i64 (n+m)))) (fun _ i _=>1 - (intOf i).toNat)
 case atStart=>exact ⟨rfl,Or.inl ⟨rfl,rfl⟩⟩
 case round =>
  obtain ⟨rfl,hrel⟩:=hrel
  rcases hrel with ⟨rfl,rfl⟩|⟨rfl,rfl⟩
  · go_wp2
    go_roundw
    case rel=>exact ⟨trivial,Or.inr ⟨rfl,rfl⟩⟩
    case measure=>decide
  · go_wp2
    obtain ⟨w0,hw0⟩:∃ w0,w0=wr:=⟨_,rfl⟩
    subst hw0
    go_loopw [39] (fun i wr=>(i = .int .i64 0/\wr=w0)\/(i = .int .i64 1/\∃ v',Zmh w0 wr E Bw (.slice pb n cb) v' (n+m) (xs++ys))) (fun i _=>1 - (intOf i).toNat)
    case atStart=>exact Or.inl ⟨rfl,rfl⟩
    case round =>
     rcases hrel with ⟨rfl,rfl⟩|⟨rfl,hrel⟩
     · obtain ⟨bi,bi0,bi1,bi2,bi3⟩:=info_parts Jn
       have hc3:n+m<=maxLen:=by unfold maxLen;omega
       have hc4:(n+m)*1<=140737488355328:=by omega
       go_wp2_with (at_builtin;refine wpList_append_own_at _ rfl _ _ 23 rfl E 5 bi (.int .u8 0) 1 1 Xk bi0 bi1 bi2 bi3 rfl (by decide) (.slice pb n cb) _ _ rfl MW.out.row ⟨g,0,none⟩ m c ys rfl (by rw [HY.out];omega) HC.out HO.out hc3 hc4 hle ?_;intro v3 w3 hown3 hgr3 hnil3 hat3;obtain ⟨p3,k3,hv3⟩:=Zk hown3;subst hv3;have FN:=Hq (Yom MW.out hown3 hgr3 hat3);have zz:=frozen_of_row w3 Bw 0 _ _ (Zf MW.out.box hgr3 (Zop MW.out.row MW.out.lt));have cc:=Cq w3 Bw 0 _ _ _ (Zf MW.out.box hgr3 (Zop MW.out.row MW.out.lt));clear hown3 hgr3 hnil3 hat3)
       exact ⟨Or.inr ⟨rfl,_,FN.out⟩,by decide⟩
     · go_wp2
       go_end0
       exact ⟨rfl,hrel⟩
def Zpl (w:World) (E Bw:Nat) (vb:Value) (n:Nat) (e:Ending) (w':World):Prop:=e = .returned (.tuple #[])/\∃ v' m xs,1<=m/\m<=9/\(∀ u∈xs,u.oneCell'=true)/\Zmh w w' E Bw vb v' (n+m) xs
theorem Zkv {w:World} {base g n c:Nat} {xs:List Value} {e:TypeId} (h:w.ownsRow base e 1 (.slice (some ⟨g,0,none⟩) n c) n xs):xs.length=n:=by have:=h.1;omega
theorem Zov {w w1:World} {E Bw n:Nat} {vb:Value} {xs:List Value} (h:MwAt w E Bw vb n xs) (g:w.grownBy w1 none):MwAt w1 E Bw vb n xs :=
 ⟨Zf h.box g (by simp),h.row.kept g (Classical.em _),h.lt,Nat.le_trans h.le g.size⟩
theorem Ycf {w w1 w2:World} {E Bw n:Nat} {vb v':Value} {xs:List Value} (h:Zmh w1 w2 E Bw vb v' n xs) (g:w.grownBy w1 none):Zmh w w2 E Bw vb v' n xs :=
 ⟨h.at_,Zuu (Zgl (P:=MwP Bw vb) g (by simp)) h.sp (fun _ _ h=>h),h.hat.imp id fun ⟨k,h1,h2⟩=>⟨k,h1,Nat.le_trans g.size h2⟩⟩
theorem Zid (E Bw:Nat) (vb:Value) (n:Nat) (xs:List Value) (hx:∀ u∈xs,u.oneCell'=true) (a:Int) (ha:0<=a) (ha2:a<9223372036854775808) (hn:n+9<=4194304) (w:World) (hM:MwAt w E Bw vb n xs) :
 Calls Tryz.prog 87 #[.pointer (some ⟨Bw,0,none⟩),.int .i64 a] w (Zpl w E Bw vb n):=by
 have MW:=Hq hM
 have F:=Hq (Zhg a ha (by omega) w)
 clear hM
 go_enter Tryz.func87,Tryz.ntmps87
 go_wp2_with (first
  | (go_at_call 126;refine F.out.mono ?_;rintro e w1 ⟨g,m,c,ys,rfl,hm1,hm9,hown,ho1,hg⟩;have OW:=Hq hown;have HO:=Hq ho1;have GW:=Hq hg;have AD:=Hq (Yeq E Bw w1.heap.size g m c vb n xs ys (w1.alloc (.cells #[.slice (some ⟨g,0,none⟩) m c] 23)) (Zvu (Zov MW.out hg) _) (by rw [World.cell?_alloc_at (hn:=rfl)];rfl) (Zkv hown) (fun j u hu=>((hown.alloc _).cells rfl) j u hu) ho1 (by omega) hm1);clear hown hg ho1)
  | (go_at_call 125;refine AD.out.mono ?_;rintro e w2 ⟨rfl,v2,hf⟩;have FN:=Hq (Ycf hf (Za GW.out (Ga _ _ none)));clear hf))
 go_end0
 exact ⟨rfl,_,_,_,hm1,hm9,fun u hu=>(List.mem_append.1 hu).elim (hx u) (HO.out u),FN.out⟩
theorem Zlc (E Bw:Nat) (vb:Value) (n:Nat) (xs:List Value) (hx:∀ u∈xs,u.oneCell'=true) (a:Int) (hn:n+9<=4194304) (w:World) (hM:MwAt w E Bw vb n xs) :
 Calls Tryz.prog 120 #[.pointer (some ⟨Bw,0,none⟩),.int .i64 a] w (Zpl w E Bw vb n):=by
 have MW:=Hq hM
 have F:=Hq (Zhg · · · w)
 clear hM
 go_enter Tryz.func120,Tryz.ntmps120
 go_wp2_with (first
  | (go_at_call 126;refine (F.out _ (bits_lo_u64 _ _ _) (Int.lt_of_le_sub_one (bits_hi_u64 _ _ _))).mono ?_;rintro e w1 ⟨g,m,c,ys,rfl,hm1,hm9,hown,ho1,hg⟩;have OW:=Hq hown;have HO:=Hq ho1;have GW:=Hq hg;have AD:=Hq (Yeq E Bw w1.heap.size g m c vb n xs ys (w1.alloc (.cells #[.slice (some ⟨g,0,none⟩) m c] 23)) (Zvu (Zov MW.out hg) _) (by rw [World.cell?_alloc_at (hn:=rfl)];rfl) (Zkv hown) (fun j u hu=>((hown.alloc _).cells rfl) j u hu) ho1 (by omega) hm1);clear hown hg ho1)
  | (go_at_call 125;refine AD.out.mono ?_;rintro e w2 ⟨rfl,v2,hf⟩;have FN:=Hq (Ycf hf (Za GW.out (Ga _ _ none)));clear hf))
 go_end0
 exact ⟨rfl,_,_,_,hm1,hm9,fun u hu=>(List.mem_append.1 hu).elim (hx u) (HO.out u),FN.out⟩
theorem Ylq (w:World):Calls Tryz.prog 83 #[] w fun e w'=>e = .returned (.pointer (some ⟨w.heap.size,0,none⟩))/\w'=w.alloc (.cells #[.slice none 0 0,.int .i64 0] 214):=by
 go_enter Tryz.func83,Tryz.ntmps83
 go_wp2
 go_ret
 exact ⟨rfl,rfl⟩
def Yiy (w:World) (e:Ending) (w':World):Prop:=∃ v,e = .returned (.tuple #[v,.int .i64 0])/\w.grownBy w' none
theorem Ydy (p:Option Addr) (n c:Nat) (xs:List Value) (E:Nat) (w:World) (h:w.ownsRow E 5 1 (.slice p n c) n xs) (hx:∀ u∈xs,u.oneCell'=true) (hn:n<=4194304) :
 Calls Tryz.prog 127 #[.slice p n c] w fun e w'=>(∃ v,e = .returned v)/\w.grownBy w' none:=by
 go_enter Tryz.func127,Tryz.ntmps127
 obtain ⟨bi,bi0,bi1,bi2,bi3⟩:=info_parts Jn
 have hc3:0+n<=maxLen:=by unfold maxLen;omega
 have hc4:(0+n)*1<=140737488355328:=by omega
 rcases h.2 with ⟨e0,rfl⟩|⟨g,cap,cur,e0,-⟩
 · injection e0 with e1 e2 e3
   subst e1;subst e3
   have hq:=fun W=>Lib.run_eql_slice_nil (P:=Tryz.prog) W 23 5 none 0 0 0 0 Xk
   go_wp2
   go_ret
   exact ⟨⟨_,rfl⟩,Zd _ _⟩
 · injection e0 with e1 e2 e3
   subst e1;subst e3
   have HC:=Hq (h.alloc (.cells #[] 5))
   have O0:=Hq (World.ownsRow_lit (base:=w.heap.size) (e:=5) (size:=1) w #[] 0 (Nat.le_refl _) (by decide) rfl)
   have hl:=Zkv h
   have hq:=fun W=>Lib.run_eql_slice_nil (P:=Tryz.prog) W 23 5 (some ⟨g,0,none⟩) n c 0 0 Xk
   clear h
   go_wp2_with (at_builtin;refine wpList_append_own_at _ rfl _ _ 23 rfl w.heap.size 5 bi (.int .u8 0) 1 1 Xk bi0 bi1 bi2 bi3 rfl (by decide) (.slice (some ⟨w.heap.size,0,none⟩) 0 0) _ _ rfl O0.out ⟨g,0,none⟩ n c xs rfl (by omega) (fun j u hu=>(HC.out.cells rfl) j u hu) hx hc3 hc4 (by simp) ?_;intro v3 w3 hown3 hgr3 hnil3 hat3;obtain ⟨p3,k3,hv3⟩:=Zk hown3;subst hv3;have OW3:=Hq hown3;have GR3:=Hq hgr3;clear hown3 hgr3 hnil3 hat3)
   go_ret
   exact ⟨⟨_,rfl⟩,Zfc (Ga w _ none) GR3.out fun k hk=>(O0.out.lt k hk).1⟩
theorem Yie (E Bw:Nat) (vb:Value) (n:Nat) (xs:List Value) (hx:∀ u∈xs,u.oneCell'=true) (hn:n<=4194304) (w:World) (hM:MwAt w E Bw vb n xs) :
 Calls Tryz.prog 88 #[.pointer (some ⟨Bw,0,none⟩)] w (Yiy w):=by
 obtain ⟨pb,cb,rfl⟩:=Zk hM.row
 have c0:=Cq w Bw 0 _ _ _ hM.box
 have c1:=Cq w Bw 1 _ _ _ hM.box
 have C:=Hq (Ydy pb n cb xs E w hM.row hx hn)
 clear hM
 go_enter Tryz.func88,Tryz.ntmps88
 go_wp2_with (go_at_call 127;refine C.out.mono ?_;rintro e w1 ⟨⟨v,rfl⟩,hg⟩;have GW:=Hq hg;clear hg)
 go_ret2
 exact ⟨_,rfl,GW.out⟩
def bK (k:Nat):Int:=match k with|2=>64|3=>4096|4=>64|5=>5|_=>256
def Zdw (k:Nat) (a:Int):Bool:=if k=0 then a == 0 else if k=1 then true else decide (0<=a) && decide (a<bK k)
def Zdz:List (Int × Int)->Int
 | []=>0
 | x::r=>match Zr x.1 with
   | none=>111
   | some s=>if Zdw s.2.1.toNat x.2=true then Zdz r else 112
theorem Zrr {l:List (Int × Int)} {i:Nat} {op a:Int} (h:l[i]? = some (op,a)):Zdz (l.drop i)=match Zr op with
 | none=>111
 | some s=>if Zdw s.2.1.toNat a=true then Zdz (l.drop (i+1)) else 112:=by
 obtain ⟨hi,he⟩:=List.getElem?_eq_some_iff.1 h
 rw [List.drop_eq_getElem_cons hi,he]
 rfl
def Zhp (w:World) (B:Nat) (p:Option Addr) (l:List (Int × Int)):Prop:=0<l.length->∃ b o:Nat,p=some ⟨b,o,none⟩/\b<B/\∀ i op a,l[i]? = some (op,a)->w.cell? ⟨b,o+i*2,none⟩=some (.int .i64 op)/\w.cell? ⟨b,o+i*2+1,none⟩=some (.int .i64 a)
theorem Jt {w w':World} {row:Option Nat} {B:Nat} {p:Option Addr} {l:List (Int × Int)} (h:Zhp w B p l) (g:w.grownBy w' row) (hr:∀ r,row=some r->B<=r):Zhp w' B p l:=fun h0=>by
 obtain ⟨b,o,e,hb,hc⟩:=h h0
 refine ⟨b,o,e,hb,fun i op a hi => ?_⟩
 obtain ⟨h1,h2⟩:=hc i op a hi
 exact ⟨Xt g hr hb h1,Xt g hr hb h2⟩
def KC (k:Nat) (a b c:Value) (w:World) (Bw E:Nat):Prop :=
 (k=0/\a = .func (.func 116) #[] #[]/\b = .func (.func 117) #[] #[]/\c = .func (.func 118) #[] #[]) \/
 (k=1/\a = .func (.func 119) #[] #[]/\b = .func (.func 120) #[] #[]/\c = .func (.func 121) #[] #[]) \/
 (2<=k/\∃ bb,a = .func (.func 146) #[] #[.pointer (some ⟨bb,0,none⟩)]/\b = .func (.func 87) #[] #[]/\c = .func (.func 147) #[] #[]/\Bw<bb/\bb<E/\w.cell? ⟨bb,0,none⟩=some (.int .i64 (bK k)))
def Zpm (w:World) (Bw E K:Nat):Prop:=Bw<K/\K<E/\∀ k,k<7->∃ a b c,KC k a b c w Bw E/\w.cell? ⟨K,k*3,none⟩=some a/\w.cell? ⟨K,k*3+1,none⟩=some b/\w.cell? ⟨K,k*3+2,none⟩=some c
theorem Zhb {w:World} {lo Bw k:Nat} {n:Int} {a b c:Value} (h:Zan lo n (.agg #[a,b,c]) w) (hB:Bw<lo) (hk:2<=k) (hn:n=bK k) {E:Nat} (hE:w.heap.size<=E):KC k a b c w Bw E:=by
 obtain ⟨bb,e,hl,hc⟩:=h
 injection e with e
 injection e with e
 injection e with e1 e
 injection e with e2 e
 injection e with e3 e
 subst e1;subst e2;subst e3;subst hn
 exact Or.inr (Or.inr ⟨hk,bb,rfl,rfl,rfl,by omega,Nat.lt_of_lt_of_le (World.block_lt_of_cell? _ _ hc) hE,hc⟩)
theorem Zyr {w:World} {lo Bw K:Nat} (h:Zeu w lo K) (hB:Bw<lo) {E:Nat} (hE:w.heap.size<=E):Zpm w Bw E K:=by
 refine ⟨Nat.lt_of_lt_of_le hB h.2.1,Nat.lt_of_lt_of_le h.1 hE,fun k hk => ?_⟩
 obtain ⟨a,b,c,h1,h2⟩:=h.2.2 k hk
 refine ⟨a,b,c,?_,h2⟩
 match k,hk,h1 with
 | 0,_,h1=>injection h1 with e;injection e with e;injection e with e1 e;injection e with e2 e;injection e with e3 e;exact Or.inl ⟨rfl,e1,e2,e3⟩
 | 1,_,h1=>injection h1 with e;injection e with e;injection e with e1 e;injection e with e2 e;injection e with e3 e;exact Or.inr (Or.inl ⟨rfl,e1,e2,e3⟩)
 | 2,_,h1=>exact Zhb h1 hB (by decide) rfl hE
 | 3,_,h1=>exact Zhb h1 hB (by decide) rfl hE
 | 4,_,h1=>exact Zhb h1 hB (by decide) rfl hE
 | 5,_,h1=>exact Zhb h1 hB (by decide) rfl hE
 | 6,_,h1=>exact Zhb h1 hB (by decide) rfl hE
theorem Yqh {P:Nat->Prop} {k:Nat} {a b c:Value} {w w':World} {Bw E:Nat} (h:KC k a b c w Bw E) (g:Sp P w w') (hp:∀ j,Bw<j->j<E->¬ P j):KC k a b c w' Bw E:=by
 rcases h with h|h|⟨h1,bb,e1,e2,e3,h2,h3,h4⟩
 · exact Or.inl h
 · exact Or.inr (Or.inl h)
 · exact Or.inr (Or.inr ⟨h1,bb,e1,e2,e3,h2,h3,Zkh h4 g (hp _ h2 h3)⟩)
theorem Zng {P:Nat->Prop} {w w':World} {Bw E K:Nat} (h:Zpm w Bw E K) (g:Sp P w w') (hp:∀ j,Bw<j->j<E->¬ P j):Zpm w' Bw E K:=by
 obtain ⟨h1,h2,h3⟩:=h
 refine ⟨h1,h2,fun k hk => ?_⟩
 obtain ⟨a,b,c,q1,q2,q3,q4⟩:=h3 k hk
 exact ⟨a,b,c,Yqh q1 g hp,Zkh q2 g (hp _ h1 h2),Zkh q3 g (hp _ h1 h2),Zkh q4 g (hp _ h1 h2)⟩
structure EncS (w0 wr:World) (E Bw S K n:Nat) (vb:Value) (xs:List Value):Prop where
 gr:w0.grownBy wr none
 bw:w0.heap.size<=Bw
 mw:MwAt wr E Bw vb n xs
 sh:Zhn wr S
 s1:Bw<S
 s2:S<E
 kd:Zpm wr Bw E K
 one:∀ u∈xs,u.oneCell'=true
theorem Zns {w0 wr w':World} {E Bw S K n:Nat} {vb:Value} {xs:List Value} (h:EncS w0 wr E Bw S K n vb xs) (g:wr.grownBy w' none):EncS w0 w' E Bw S K n vb xs :=
 ⟨Za h.gr g,h.bw,Zov h.mw g,Zgn h.sh g (by simp),h.s1,h.s2,Zng (P:=fun _=>False) h.kd (Zgl g (by simp)) (fun _ _ _ h=>h),h.one⟩
theorem Zjz {w0 wr w':World} {E Bw S K n m:Nat} {vb v':Value} {xs ys:List Value} (h:EncS w0 wr E Bw S K n vb xs) (f:Zmh wr w' E Bw vb v' m ys) (hy:∀ u∈ys,u.oneCell'=true):EncS w0 w' E Bw S K m v' ys:=by
 have hbw:=h.bw
 have hlt:=h.mw.lt
 have hP:∀ j,Bw<j->j<E->¬ MwP Bw vb j:=by
  intro j h1 h2 h3
  rcases h3 with h3|h3
  · omega
  · have:=(h.mw.row.lt j h3).1;omega
 refine ⟨⟨f.sp.os.trans h.gr.os,f.sp.tape.trans h.gr.tape,f.sp.output.trans h.gr.output,Nat.le_trans h.gr.size f.sp.size,fun k hk hn => ?_⟩,hbw,f.at_,⟨Nat.lt_of_lt_of_le h.sh.1 f.sp.size,fun i v hi=>Zkh (h.sh.2 i v hi) f.sp (hP _ h.s1 h.s2)⟩,h.s1,h.s2,Zng h.kd f.sp hP,hy⟩
 rw [f.sp.block k (Nat.lt_of_lt_of_le hk h.gr.size) ?_]
 · exact h.gr.block k hk hn
 · rintro (e|e)
   · omega
   · have:=(h.mw.row.lt k e).1;omega
theorem Zmo:∀ x∈shapeT,0<=x.2.1/\x.2.1<7:=by
 intro x hx
 simp only [shapeT,List.mem_cons,List.not_mem_nil,or_false] at hx
 rcases hx with rfl|rfl|rfl|rfl|rfl|rfl|rfl|rfl|rfl|rfl|rfl|rfl|rfl|rfl|rfl|rfl|rfl|rfl|rfl|rfl|rfl|rfl|rfl|rfl|rfl|rfl|rfl|rfl|rfl|rfl|rfl|rfl|rfl|rfl|rfl|rfl|rfl|rfl|rfl|rfl|rfl|rfl|rfl|rfl|rfl|rfl <;> exact ⟨by decide,by decide⟩
theorem Zgy (a:Int) (w:World):Calls Tryz.prog 116 #[.int .i64 a] w fun e w'=>e = .returned (.bool (a == 0))/\w'=w:=by
 go_enter Tryz.func116,Tryz.ntmps116
 go_wp2
 go_ret
 exact ⟨rfl,rfl⟩
theorem Zkx (a:Int) (w:World):Calls Tryz.prog 119 #[.int .i64 a] w fun e w'=>e = .returned (.bool true)/\w'=w:=by
 go_enter Tryz.func119,Tryz.ntmps119
 go_wp2
 go_ret
 exact ⟨rfl,rfl⟩
theorem Zeh (a n:Int) (bb:Nat) (w:World) (h:w.cell? ⟨bb,0,none⟩=some (.int .i64 n)):Calls Tryz.prog 146 #[.int .i64 a,.pointer (some ⟨bb,0,none⟩)] w fun e w'=>e = .returned (.bool (decide (0<=a) && decide (a<n)))/\w'=w:=by
 by_cases h1:0<=a
 · go_enter Tryz.func146,Tryz.ntmps146
   go_wp2
   go_ret
   exact ⟨by simp [h1],rfl⟩
 · go_enter Tryz.func146,Tryz.ntmps146
   go_wp2
   go_ret
   exact ⟨by simp [h1];omega,rfl⟩
theorem Zgs (p:Option Addr) (a:Int) (w:World):Calls Tryz.prog 117 #[.pointer p,.int .i64 a] w fun e w'=>e = .returned (.tuple #[])/\w'=w:=by
 go_enter Tryz.func117,Tryz.ntmps117
 go_wp2
 go_end0
 exact ⟨rfl,rfl⟩
theorem Zpy {op:Int} {nm:ByteArray} {o t g:Int} (h:Zr op=some (nm,o,t,g)):∃ k:Nat,o=k/\k<7/\0<=op/\op<46:=by
 by_cases hop:0<=op/\op<46
 · obtain ⟨n,x,rfl,hn,hx,hs⟩:=Zbz hop
   rw [h] at hs
   injection hs with hs
   subst hs
   obtain ⟨h0,h7⟩:=Zmo _ (List.mem_of_getElem? hx)
   obtain ⟨k,hk⟩:=Int.eq_ofNat_of_zero_le h0
   simp only [] at hk h7
   exact ⟨k,hk,by omega,hop.1,hop.2⟩
 · rw [Zaa hop] at h;cases h
def Yra (w:World) (E Bw:Nat) (vb:Value) (n:Nat) (e:Ending) (w':World):Prop:=e = .returned (.tuple #[])/\∃ v' m xs,m<=9/\(∀ u∈xs,u.oneCell'=true)/\Zmh w w' E Bw vb v' (n+m) xs
theorem Zck {w w':World} {E Bw n:Nat} {vb:Value} {e:Ending} (h:Zpl w E Bw vb n e w'):Yra w E Bw vb n e w':=by
 obtain ⟨h1,v',m,xs,_,h3,h4,h5⟩:=h;exact ⟨h1,v',m,xs,h3,h4,h5⟩
theorem Zec {w:World} {E Bw n:Nat} {vb:Value} {xs:List Value} (h:MwAt w E Bw vb n xs) (hx:∀ u∈xs,u.oneCell'=true):Yra w E Bw vb n (.returned (.tuple #[])) w :=
 ⟨rfl,vb,0,xs,by omega,hx,h,Ykd _ _,Or.inl rfl⟩
theorem Zvt {w w':World} {E Bw n m:Nat} {vb v':Value} {xs ys:List Value} (h:MwAt w E Bw vb n xs) (f:Zmh w w' E Bw vb v' m ys) {b:Nat} {ob:Obj} (hb:w.heap[b]? = some ob) (hE:E<=b) (hv:∀ k,vb.ownBlock=some k->k<b):w'.heap[b]? = some ob:=by
 rw [f.sp.block b (Gs hb) ?_]
 · exact hb
 · rintro (e|e)
   · have:=h.lt;omega
   · have:=hv b e;omega
theorem Zln {w wr w4 w6:World} {E Bw S K n m:Nat} {vb v6:Value} {xs ys:List Value} {ob8 o9 o11:Obj} (h:EncS w wr E Bw S K n vb xs) (g:wr.grownBy w4 none) (hx:w4.heap[wr.heap.size]? = some ob8)
 (f:Zmh ((w4.alloc o9).alloc o11) w6 E Bw vb v6 m ys) (hy:∀ u∈ys,u.oneCell'=true):EncS w w6 E Bw S K m v6 ys/\w6.heap[wr.heap.size]? = some ob8/\w6.heap[w4.heap.size+1]? = some o11:=by
 have g2:=Za g (Za (Ga w4 o9 none) (Ga _ o11 none))
 have h2:=Zns h g2
 have hle:=h.mw.le
 have hsz:=g.size
 refine ⟨Zjz h2 f hy,Zvt h2.mw f (Zf (Zf hx (Ga w4 o9 none) (by simp)) (Ga _ o11 none) (by simp)) hle (fun k hk=>(h.mw.row.lt k hk).2),Zvt h2.mw f (Zwd w4 o9 o11) (by omega) (fun k hk=>by have:=(h.mw.row.lt k hk).2;omega)⟩
end Go.Proofs.YteciblfmgdlipaaGreatDoor.CK
