/-
  Part of a proof: contracts of functions and lemmas, each stated by its own theorem. Conditions: as each theorem states.
-/
import Derived.Test.YteciblfmgdlipaaGreatDoorMR14
import Derived.Test.YteciblfmgdlipaaGreatDoorMR05
import Derived.Test.YteciblfmgdlipaaGreatDoorMR02
import Derived.Deep.QuietTactic
import Derived.BigQuiet
set_option linter.unusedSimpArgs false
set_option linter.unusedVariables false
set_option maxRecDepth 100000
set_option maxHeartbeats 16000000
namespace Go.Proofs.YteciblfmgdlipaaGreatDoor.AS
open Go.RowKit Go.Great CK
theorem Yim (i:Nat) (h:i<=1000000) (w:World):Calls Tryz.prog 68 #[.string ⟨namesT.toArray⟩,.int .i64 i] w fun e w'=>e = .returned (.string (bs (Zsq namesT i)))/\w=w':=Yfb namesT (Nat.le_of_ble_eq_true (by kernel_rfl)) i h w
theorem Yba {fn:Func} {p u:Tmp} (hf:fn.results = #[.cell p 110,.tmp u]) {tmps:Array Value} {w:World} {b:Nat} {v0 v1 v2 v3 f:Value}
 (hp:tmps.getD p undef = .pointer (some ⟨b,0,none⟩)) (hu:tmps.getD u undef=f) (h:w.heap[b]? = some (.cells #[v0,v1,v2,v3] 110 (0,0))) :
 (results fn tmps).run Tryz.prog w = .ok (.tuple #[.agg #[v0,v1,v2,v3],f]) w:=by
 have c0:=Cq w _ 0 _ _ _ h
 have c1:=Cq w _ 1 _ _ _ h
 have c2:=Cq w _ 2 _ _ _ h
 have c3:=Cq w _ 3 _ _ _ h
 rw [results_cell_tmp hf,hp,hu]
 go_simp
theorem Zsu {n:Nat} {x:ByteArray × Int × Int × Int} (h:shapeT[n]? = some x):Zr (n:Int)=some x:=by
 have hn:n<46:=by have:=(List.getElem?_eq_some_iff.1 h).1;rw [Zbj] at this;exact this
 unfold Zr
 rw [if_pos ⟨by omega,by omega⟩,Int.toNat_natCast];exact h
theorem Zqy {op:Int} {nm:ByteArray} {o t g:Int} (h:Zr op=some (nm,o,t,g)):Yt op=o:=by unfold Yt;rw [h]
theorem Yoc (n:Nat) (hn:n<46) (nm:ByteArray) (o t g:Int) (hs:shapeT[n]? = some (nm,o,t,g)) (w:World):Calls Tryz.prog 47 #[.int .i64 n] w fun e w'=>(∃ x y,e = .returned (.tuple #[.agg #[.string nm,.int .i64 o,.int .i64 x,.int .i64 y],.bool true]))/\w.grownBy w' none:=by
 have WD0:=fun W=>Yim n (by omega) W
 rw [Yac hs] at WD0
 have WD:=Hq WD0
 have OP:=Hq (fun W=>Zqa (n:Int) W)
 clear WD0
 have hni:(n:Int)<46:=by omega
 go_enter Tryz.func47,Tryz.ntmps47
 go_upto_region 4 with (first
  | (go_at_call 68;refine (WD.out _).mono ?_;rintro e w1 ⟨rfl,rfl⟩)
  | (go_at_call 46;refine (OP.out _).mono ?_;rintro e w2 ⟨rfl,rfl⟩))
 have hk:=Zqy (Zsu hs)
 have HK:=Hq hk
 rw [hk]
 have hn0:¬ (n:Int)<0:=by omega
 have hn4:¬ 46<=(n:Int):=by omega
 clear WD OP
 generalize (n:Int)=op at *
 go_wp2
 all_goals
  exact bodyPost_ret (Yba rfl rfl rfl (Zf (heap_alloc_new w _) (Ga _ _ none) (by simp))) rfl ⟨⟨_,_,rfl⟩,Za (Ga _ _ _) (Ga _ _ _)⟩
theorem Ykp (op:Int) (h:¬ (0<=op/\op<46)) (w:World):Calls Tryz.prog 47 #[.int .i64 op] w fun e w'=>e = .returned (.tuple #[.agg #[.string ⟨#[]⟩,.int .i64 0,.int .i64 0,.int .i64 0],.bool false])/\w.grownBy w' none:=by
 rcases (by omega:op<0\/(0<=op/\46<=op)) with hn|⟨hn0,hn⟩
 all_goals
  clear h
  go_enter Tryz.func47,Tryz.ntmps47
  go_wp2
  exact bodyPost_ret (Yba rfl rfl rfl (heap_alloc_new w _)) rfl ⟨rfl,Ga _ _ _⟩
def Byt (w:World) (E:Nat) (v:Value) (n:Nat):Prop:=∃ xs,w.ownsRow E 5 1 v n xs/\∀ u∈xs,u.oneCell'=true
theorem Yeb (w:World) (E:Nat):Byt w E (.slice none 0 0) 0:=⟨[],World.ownsRow_nil _ _ _ _,by simp⟩
theorem Zse {w:World} {E:Nat} {v:Value} {n:Nat} (h:Byt w E v n):∃ p c,v = .slice p n c:=by
 obtain ⟨xs,h,_⟩:=h
 exact Zk h
theorem Zff {w w':World} {E:Nat} {v:Value} {n:Nat} (h:Byt w E v n) (g:w.grownBy w' none):Byt w' E v n:=by
 obtain ⟨xs,h,h1⟩:=h
 exact ⟨xs,h.kept g (Jw h),h1⟩
theorem Zlp {w:World} {E E':Nat} {v:Value} {n:Nat} (h:Byt w E v n) (hb:E'<=E):Byt w E' v n:=by
 obtain ⟨xs,h,h1⟩:=h
 exact ⟨xs,Zbn h hb,h1⟩
theorem Zlq (w:World) (x:Int):Byt (w.alloc (.cells #[.int .u8 x] 5)) w.heap.size (.slice (some ⟨w.heap.size,0,none⟩) 1 1) 1 :=
 ⟨[.int .u8 x],World.ownsRow_lit (e:=5) (size:=1) w #[.int .u8 x] 1 (Nat.le_refl _) (by decide) rfl,Jq _ _⟩
theorem Zuk {P:Program} {w:World} (base:Nat) (t ty e:TypeId) (i:TypeInfo) (size:Nat) (ht:P.underlying t=some (.slice e)) (hi:P.info? e=some i)
 (v:Value) (n c:Nat) (xs:List Value) (hown:w.ownsRow base e size v n xs) :
 (Builtin.append_ #[t,t] ty #[v,.slice none 0 c]).run P w = .ok v w:=by
 rcases hown.2 with ⟨rfl,rfl⟩|⟨g,cap,cur,rfl,_,_,hnc,_⟩
 · simp [Builtin.append_,run_underlying ht,sizeOf,typeInfo,hi,Builtin.lenOf,Builtin.firstCells]
 · simp [Builtin.append_,run_underlying ht,sizeOf,typeInfo,hi,Builtin.lenOf,Builtin.firstCells,hnc,storeCells]
theorem Ymp {w:World} {E E2:Nat} {v:Value} {n:Nat} {q:Option Addr} {m c:Nat} (ty:TypeId) (h:Byt w E v n) (h2:Byt w E2 (.slice q m c) m) (hn:n+m<=1000000000) (hE:E<=w.heap.size) :
 ∃ (p':Option Addr) (c':Nat) (w':World),(Builtin.append_ #[23,23] ty #[v,.slice q m c]).run Tryz.prog w = .ok (.slice p' (n+m) c') w'/\Byt w' E (.slice p' (n+m) c') (n+m)/\w.grownBy w' v.ownBlock /\
   ((Value.slice p' (n+m) c').ownBlock=v.ownBlock\/(Value.slice p' (n+m) c').ownBlock=some w.heap.size):=by
 obtain ⟨bi,bi0,bi1,bi2,bi3⟩:=info_parts Jn
 obtain ⟨xs,ho,h1⟩:=h
 obtain ⟨ys,hs,h3⟩:=h2
 have hall:∀ u∈xs++ys,u.oneCell'=true:=fun u hu=>(List.mem_append.1 hu).elim (h1 u) (h3 u)
 cases q with
 | some ad =>
   obtain ⟨g,hg⟩:∃ g,ad=⟨g,0,none⟩:=by
    rcases hs.2 with ⟨hv,_⟩|⟨g,cap,cur,hv,_⟩
    · cases hv
    · injection hv with hv _ _;injection hv with hv;exact ⟨g,hv⟩
   subst hg
   have hl:ys.length=m:=by have:=hs.1;omega
   obtain ⟨v',w',e1,e2,e3,_,e5⟩:=run_append_own_at (P:=Tryz.prog) (w:=w) E 23 ty 5 bi (.int .u8 0) 1 1 Xk bi0 bi1 bi2 bi3 rfl (by decide) v n xs ho ⟨g,0,none⟩ m c ys (by omega) (fun j u hj=>hs.cells rfl j u hj) h3 (by unfold maxLen;omega) (by omega) hE
   obtain ⟨p',c',rfl⟩:=Zk e2
   exact ⟨p',c',w',e1,⟨_,e2,hall⟩,e3,e5⟩
 | none =>
   have hm:m=0:=by
    rcases hs.2 with ⟨hv,h0⟩|⟨g,cap,cur,hv,_⟩
    · exact h0
    · cases hv
   subst hm
   obtain ⟨p',c',rfl⟩:=Zk ho
   exact ⟨p',c',w,Zuk (P:=Tryz.prog) (w:=w) E 23 ty 5 bi 1 Xk bi0 _ n c xs ho,⟨xs,ho,h1⟩,Zli (Zd _ _),Or.inl rfl⟩
theorem Jo {ops:Array Oper} {rest:List Oper} {o:Oper} {a:Act} {Q:Exit->Act->World->Prop} {w:World} (hgd:o.guard=none) (s x:Operand)
 (ho:o.op = .call { callee := .builtin .append,args := #[s,x],argTypes := #[23,23] }) {E E2:Nat} {v:Value} {n:Nat} {q:Option Addr} {m c:Nat}
 (hs:a.eval s=v) (hx:a.eval x = .slice q m c) (h:Byt w E v n) (h2:Byt w E2 (.slice q m c) m) (hn:n+m<=1000000000) (hE:E<=w.heap.size)
 (hK:∀ p' c' w',Byt w' E (.slice p' (n+m) c') (n+m)->w.grownBy w' v.ownBlock->wpList Tryz.prog ops Q rest (a.put o.dst (.slice p' (n+m) c')) w') :
 wpList Tryz.prog ops Q (o::rest) a w:=by
 refine wpList_plain hgd fun K hK' => ?_
 obtain ⟨p',c',w',hr,h3,h4,_⟩:=Ymp o.type h h2 hn hE
 unfold Oper.wp execOp
 simp only [ho,resolve,invoke,builtin,Sem.run_bind,Sem.run_pure,Result.andThen_ok,List.map_toArray,List.map_cons,List.map_nil,hs,hx,hr]
 exact hK' _ _ (hK p' c' w' h3 h4)
def Zup (w:World) (e:Ending) (w':World):Prop:=∃ p n c,e = .returned (.slice p n c)/\n<=9/\Byt w' w.heap.size (.slice p n c) n/\w.grownBy w' none
theorem Zhg (u:Int) (h0:0<=u) (h1:u<18446744073709551616) (w:World):Calls Tryz.prog 101 #[.int .u64 u] w (Zup w):=by
 obtain ⟨bi,bi0,bi1,bi2,bi3⟩:=info_parts Jn
 by_cases hs:u<=247
 · go_enter Tryz.func101,Tryz.ntmps101
   go_wp2
   go_ret
   exact ⟨_,_,_,rfl,by decide,Zlq w _,Ga _ _ _⟩
 · go_enter Tryz.func101,Tryz.ntmps101
   go_wp2
   go_loopw [3,4] (fun v i wr=>∃ (k n:Nat),i = .int .i64 ((k:Int) - 1)/\k<=8/\n<=8 - k/\Byt wr w.heap.size v n/\w.grownBy wr none) (fun _ i _=>(intOf i+1).toNat)
   case atStart=>exact ⟨8,0,rfl,Nat.le_refl _,Nat.le_refl _,Yeb _ _,Zd _ _⟩
   case round =>
    obtain ⟨k,n,rfl,hk,hn,ho,hg⟩:=hrel
    obtain ⟨p,c,rfl⟩:=Zse ho
    have OB:=Hq ho
    have GR:=Hq hg
    have hgs:=hg.size
    have EB:=hg.size
    clear ho hg
    by_cases hk0:k=0
    · subst hk0
      go_wp2_with (at_builtin;refine Jo rfl _ _ rfl rfl rfl (Zlq wr _) (Zff OB.out (Ga wr _ none)) (by omega) (by rw [World.size_alloc];omega) ?_;intro p5 c5 w5 hb5 hg5;have B5:=Hq hb5;have G5:=Hq hg5;clear hb5 hg5)
      go_ret
      exact ⟨_,_,_,rfl,by omega,Zlp B5.out hgs,Yj (Za GR.out (Ga _ _ none)) G5.out (fun k hk=>by injection hk with hk;rw [<- hk];exact hgs)⟩
    · obtain ⟨k,rfl⟩:∃ m,k=m+1:=⟨k - 1,by omega⟩
      have e1:((k+1:Nat):Int) - 1=(k:Int):=by omega
      rw [e1]
      by_cases hx:u / 2 ^ (8*k) % 256=0
      · by_cases hn0:n=0
        · subst hn0
          go_wp2
          exact ⟨⟨k,0,by go_num,by omega,by omega,OB.out,GR.out⟩,by simp [intOf]⟩
        · have hn1:0<n:=by omega
          go_wp2_with (at_builtin;refine Jo rfl _ _ rfl rfl rfl (Zff OB.out (Ga wr _ none)) (Zlq wr _) (by omega) (Jp hgs _) ?_;intro p5 c5 w5 hb5 hg5;have B5:=Hq hb5;have G5:=Hq hg5;clear hb5 hg5)
          exact ⟨⟨k,n+1,by go_num,by omega,by omega,B5.out,Yj (Za GR.out (Ga _ _ none)) G5.out (fun q hq=>by obtain ⟨xs,h,_⟩:=OB.out;exact (World.ownsRow.lt h q hq).1)⟩,by simp [intOf]⟩
      · have hx1:(u / 2 ^ (8*k) % 256 != 0)=true:=by rw [bne_iff_ne];exact hx
        clear hx
        by_cases hn0:n=0
        · subst hn0
          go_wp2_with (at_builtin;refine Jo rfl _ _ rfl rfl rfl (Zff OB.out (Ga wr _ none)) (Zlq wr _) (by omega) (Jp hgs _) ?_;intro p5 c5 w5 hb5 hg5;have B5:=Hq hb5;have G5:=Hq hg5;clear hb5 hg5)
          exact ⟨⟨k,0+1,by go_num,by omega,by omega,B5.out,Yj (Za GR.out (Ga _ _ none)) G5.out (fun q hq=>by obtain ⟨xs,h,_⟩:=OB.out;exact (World.ownsRow.lt h q hq).1)⟩,by simp [intOf]⟩
        · have hn1:0<n:=by omega
          go_wp2_with (at_builtin;refine Jo rfl _ _ rfl rfl rfl (Zff OB.out (Ga wr _ none)) (Zlq wr _) (by omega) (Jp hgs _) ?_;intro p5 c5 w5 hb5 hg5;have B5:=Hq hb5;have G5:=Hq hg5;clear hb5 hg5)
          exact ⟨⟨k,n+1,by go_num,by omega,by omega,B5.out,Yj (Za GR.out (Ga _ _ none)) G5.out (fun q hq=>by obtain ⟨xs,h,_⟩:=OB.out;exact (World.ownsRow.lt h q hq).1)⟩,by simp [intOf]⟩
theorem Yhy (n:Int) (h0 : -9223372036854775808<=n) (h1:n<=9223372036854775807) (w:World):Calls Tryz.prog 102 #[.int .i64 n] w fun e w'=>(∃ u,e = .returned (.int .u64 u)/\0<=u/\u<18446744073709551616)/\w=w':=by
 by_cases hn:n<0
 · go_enter Tryz.func102,Tryz.ntmps102
   go_wp2
   go_ret
   refine ⟨⟨_,rfl,?_,?_⟩,rfl⟩
   · omega
   · omega
 · go_enter Tryz.func102,Tryz.ntmps102
   go_wp2
   go_ret
   refine ⟨⟨_,rfl,?_,?_⟩,rfl⟩
   · omega
   · omega
theorem Ybh (n:Int) (h0:0<=n) (h1:n<=9223372036854775807) (w:World):Calls Tryz.prog 71 #[.agg #[.int .i64 1,.int .i64 n,.slice none 0 0]] w (Zup w):=by
 go_enter Tryz.func71,Tryz.ntmps71
 go_wp2_with (go_at_call 101;refine (Zhg n h0 (by omega) _).mono ?_;rintro e w1 ⟨p1,n1,c1,rfl,hn1,hb1,hg1⟩;have B1:=Hq hb1;have G1:=Hq hg1;clear hb1 hg1)
 go_ret
 exact ⟨_,_,_,rfl,hn1,Zlp B1.out (by simp),Za (Ga _ _ none) G1.out⟩
theorem Yku (n:Int) (h0 : -9223372036854775808<=n) (h1:n<=9223372036854775807) (w:World):Calls Tryz.prog 71 #[.agg #[.int .i64 2,.int .i64 n,.slice none 0 0]] w (Zup w):=by
 go_enter Tryz.func71,Tryz.ntmps71
 go_wp2_with (first
  | (go_at_call 102;refine (Yhy n h0 h1 _).mono ?_;rintro e w2 ⟨⟨u,rfl,hu0,hu1⟩,rfl⟩)
  | (go_at_call 101;refine (Zhg u hu0 hu1 _).mono ?_;rintro e w1 ⟨p1,n1,c1,rfl,hn1,hb1,hg1⟩;have B1:=Hq hb1;have G1:=Hq hg1;clear hb1 hg1))
 go_ret
 exact ⟨_,_,_,rfl,hn1,Zlp B1.out (by simp),Za (Ga _ _ none) G1.out⟩
theorem Ztw:((List.range 46).all fun n=>decide (0<=Yt (n:Int)) && decide (Yt (n:Int)<=6))=true:=by kernel_rfl
theorem Zyt {op:Int} {nm:ByteArray} {o t g:Int} (h:Zr op=some (nm,o,t,g)):0<=o/\o<=6:=by
 have hr:0<=op/\op<46:=by
  by_cases hr:0<=op/\op<46
  · exact hr
  · rw [Zaa hr] at h;cases h
 obtain ⟨n,rfl⟩:=Int.eq_ofNat_of_zero_le hr.1
 have:=List.all_eq_true.1 Ztw n (List.mem_range.2 (by omega))
 rw [Zqy h] at this
 simpa using this
theorem Yas {op:Int} {x:ByteArray × Int × Int × Int} (h:Zr op=some x):∃ n:Nat,op=n/\n<46/\shapeT[n]? = some x:=by
 have hr:0<=op/\op<46:=by
  by_cases hr:0<=op/\op<46
  · exact hr
  · rw [Zaa hr] at h;cases h
 obtain ⟨n,rfl⟩:=Int.eq_ofNat_of_zero_le hr.1
 unfold Zr at h
 rw [if_pos hr,Int.toNat_natCast] at h
 exact ⟨n,rfl,by omega,h⟩
def Ypr (a:Int):Prop := -9223372036854775808<=a/\a<=9223372036854775807
structure Ypo (w0 w:World) (v:Value) (n q:Nat) (vs:Array Value):Prop where
 buf:Byt w w0.heap.size v n
 box:w.heap[q]? = some (.cells vs 110 (0,0))
 gr:w0.grownBy w none
theorem Zcv {w0 w w':World} {v:Value} {n q:Nat} {vs:Array Value} (h:Ypo w0 w v n q vs) (g:w.grownBy w' none):Ypo w0 w' v n q vs:=⟨Zff h.buf g,Zf h.box g (by simp),Za h.gr g⟩
theorem Zgq {w0 w w':World} {v v':Value} {n n' q:Nat} {vs:Array Value} (h:Ypo w0 w v n q vs) (hb:Byt w' w0.heap.size v' n') (g:w.grownBy w' v.ownBlock):Ypo w0 w' v' n' q vs:=by
 obtain ⟨xs,ho,_⟩:=h.buf
 exact ⟨hb,Zf h.box g (Ye ho h.box (by decide)),Yj h.gr g (fun k hk=>(World.ownsRow.lt ho k hk).1)⟩
theorem Zta (l:List (Int × Int)) (p:Option Addr) (c B:Nat) (w:World) (hB:B<=w.heap.size) (hC:Zhp w B p l) (hI:∀ x∈l,Ypr x.2) :
 Calls Tryz.prog 51 #[.slice p l.length c] w (Yew w l):=by
 have CC:=Hq hC
 have II:=Hq hI
 clear hC hI
 by_cases h4:(4096:Int)<(l.length:Int)
 · have hE:Zhj l=2:=by unfold Zhj;rw [if_pos (by omega)]
   go_enter Tryz.func51,Tryz.ntmps51
   go_wp2
   go_ret2
   exact ⟨.slice none 0 0,by rw [hE];rfl,Zd _ _⟩
 · have HE:=Hq (show Zhj l=Zdz l by unfold Zhj;rw [if_neg (by omega)])
   have h4n:l.length<=4096:=by omega
   go_enter Tryz.func51,Tryz.ntmps51
   go_wp2
   go_loopw [4,5] (fun v i wr=>∃ (k n:Nat),i = .int .i64 k/\k<=l.length/\n<=18*k/\Zdz l=Zdz (l.drop k)/\Byt wr w.heap.size v n/\w.grownBy wr none) (fun _ i _=>l.length - (intOf i).toNat)
   case atStart=>exact ⟨0,0,rfl,Nat.zero_le _,Nat.le_refl _,rfl,Yeb _ _,Zd _ _⟩
   case round =>
    obtain ⟨k,n,rfl,hk,hn,he,ho,hg⟩:=hrel
    obtain ⟨pv,cv,rfl⟩:=Zse ho
    have OB:=Hq ho
    have GR:=Hq hg
    have hgs:=hg.size
    have EQ:=Hq he
    clear ho he
    by_cases hlt:k<l.length
    · obtain ⟨⟨op,a⟩,hx⟩:∃ x,l[k]? = some x:=⟨_,List.getElem?_eq_getElem hlt⟩
      obtain ⟨b,o,rfl,hb,hc0⟩:=CC.out (by omega)
      have HC:=Hq hc0
      have HX:=Hq hx
      have x0:=hg.cell (hc0 k op a hx).1 (by simp)
      have x1:=hg.cell (hc0 k op a hx).2 (by simp)
      have lb0:b<w.heap.size:=by omega
      have lb:b<wr.heap.size:=by omega
      have hst:=Zrr hx
      have IA:=Hq (II.out _ (List.mem_of_getElem? hx))
      clear hc0 hx hg
      cases hs:Zr op with
      | none =>
        rw [hs] at hst
        simp only at hst
        have HR:=Hq (HE.out.trans (EQ.out.trans hst))
        have OF:=Hq (fun W=>Ykp op (fun hr=>by obtain ⟨n,x,_,_,_,h⟩:=Zbz hr;rw [hs] at h;cases h) W)
        clear hst hs
        go_wp2_with (go_at_call 47;refine (OF.out _).mono ?_;rintro e w1 ⟨rfl,hg1⟩;have G1:=Hq hg1;clear hg1)
        go_ret2
        exact ⟨.slice none 0 0,by rw [HR.out];rfl,Za GR.out (Za G1.out (Ga _ _ none))⟩
      | some s =>
        obtain ⟨nm,oo,t,g⟩:=s
        obtain ⟨m,rfl,hm,hsn⟩:=Yas hs
        obtain ⟨hk0,hk6⟩:=Zyt hs
        rw [hs] at hst
        simp only at hst
        have OF:=Hq (fun W=>Yoc m hm nm oo t g hsn W)
        have MY0:∀ W,Calls Tryz.prog 70 #[.int .i64 oo,.int .i64 a] W fun e w'=>e = .returned (.bool (Zdw oo.toNat a))/\w'=W:=fun W=>(Yfr oo a ⟨hk0,hk6⟩ W).mono fun e w' h=>⟨h.1,h.2.symm⟩
        clear hs hsn
        cases hmay:Zdw oo.toNat a with
        | false =>
          rw [hmay] at hst
          simp only [hmay] at MY0
          have MY:=Hq MY0
          clear MY0
          have HR:=Hq (HE.out.trans (EQ.out.trans (hst.trans (if_neg (by decide)))))
          clear hst hmay
          go_upto_region 10 with (go_at_call 47;refine (OF.out _).mono ?_;rintro e w1 ⟨⟨x,y,rfl⟩,hg1⟩;have G1:=Hq hg1;have z1:=hg1.cell x1 (by simp);have z0:=hg1.cell x0 (by simp);have lz:=Nat.lt_of_lt_of_le lb hg1.size;clear hg1)
          go_quiet ((go_at_call 70;exact Calls.quiet_of_same (MY.out _)))
          go_wp2
          go_ret2
          exact ⟨.slice none 0 0,by rw [HR.out];rfl,Jd (Za GR.out (Za G1.out (Ga _ _ none))) _⟩
        | true =>
          rw [hmay] at hst
          simp only [hmay] at MY0
          have MY:=Hq MY0
          clear MY0
          have HR:=Hq (EQ.out.trans (hst.trans (if_pos rfl)))
          have HM:=Hq hmay
          clear hst hmay
          go_upto_region 10 with (go_at_call 47;refine (OF.out _).mono ?_;rintro e w1 ⟨⟨x,y,rfl⟩,hg1⟩;have G1:=Hq hg1;have z1:=hg1.cell x1 (by simp);have z0:=hg1.cell x0 (by simp);have lz:=Nat.lt_of_lt_of_le lb hg1.size;clear hg1)
          go_quiet ((go_at_call 70;exact Calls.quiet_of_same (MY.out _)))
          have S2:=Hq (show Ypo w ((w1.alloc (.cells #[.string nm,.int .i64 oo,.int .i64 x,.int .i64 y] 110)).drewN nq) (.slice pv n cv) n w1.heap.size #[.string nm,.int .i64 oo,.int .i64 x,.int .i64 y] from ⟨Zff OB.out (Jd (Za G1.out (Ga _ _ none)) _),heap_alloc_new w1 _,Jd (Za GR.out (Za G1.out (Ga _ _ none))) _⟩)
          clear x0 x1 lb z0 z1 lz
          generalize (w1.alloc (.cells #[.string nm,.int .i64 oo,.int .i64 x,.int .i64 y] 110)).drewN nq=w2 at S2 ⊢
          obtain ⟨q,hq⟩:∃ z,w1.heap.size=z:=⟨_,rfl⟩
          rw [hq] at S2 ⊢
          clear hq OF MY G1
          have q1:=Cq w2 q 1 _ _ _ S2.out.box
          have lq:=(Gs S2.out.box)
          have z0:=S2.out.gr.cell (HC.out k (m:Int) a HX.out).1 (by simp)
          have z1:=S2.out.gr.cell (HC.out k (m:Int) a HX.out).2 (by simp)
          have lz:=Nat.lt_of_lt_of_le lb0 S2.out.gr.size
          have PN:=Hq (fun W=>Ybh (m:Int) (by omega) (by omega) W)
          rcases (by omega:oo=0\/oo=1\/(2<=oo/\oo<=6)) with rfl|rfl|⟨ho2,ho6⟩
          · go_wp2_with (first
             | (go_at_call 71;refine (PN.out _).mono ?_;rintro e w3 ⟨p3,n3,c3,rfl,hn3,hb3,hg3⟩;have S3:=Hq (Zcv S2.out hg3);have P3:=Hq hb3;clear hb3 hg3 PN)
             | (at_builtin;refine Jo rfl _ _ rfl rfl rfl S3.out.buf P3.out (by omega) S3.out.gr.size ?_;intro p4 c4 w4 hb4 hg4;have S4:=Hq (Zgq S3.out hb4 hg4);have q1:=Cq w4 q 1 _ _ _ S4.out.box;have lq:=(Gs S4.out.box);have z0:=S4.out.gr.cell (HC.out k (m:Int) a HX.out).1 (by simp);have z1:=S4.out.gr.cell (HC.out k (m:Int) a HX.out).2 (by simp);have lz:=Nat.lt_of_lt_of_le lb0 S4.out.gr.size;clear hb4 hg4 P3))
            go_roundw
            case rel=>exact ⟨k+1,n+n3,by go_num,by omega,by omega,HR.out,S4.out.buf,S4.out.gr⟩
            case measure=>simp [intOf];omega
          · have PI:=Hq (fun W=>Yku a IA.out.1 IA.out.2 W)
            go_wp2_with (first
             | (go_at_call 71;refine (PN.out _).mono ?_;rintro e w3 ⟨p3,n3,c3,rfl,hn3,hb3,hg3⟩;have S3:=Hq (Zcv S2.out hg3);have P3:=Hq hb3;clear hb3 hg3 PN)
             | (at_builtin;refine Jo rfl _ _ rfl rfl rfl S3.out.buf P3.out (by omega) S3.out.gr.size ?_;intro p4 c4 w4 hb4 hg4;have S4:=Hq (Zgq S3.out hb4 hg4);have q1:=Cq w4 q 1 _ _ _ S4.out.box;have lq:=(Gs S4.out.box);have z0:=S4.out.gr.cell (HC.out k (m:Int) a HX.out).1 (by simp);have z1:=S4.out.gr.cell (HC.out k (m:Int) a HX.out).2 (by simp);have lz:=Nat.lt_of_lt_of_le lb0 S4.out.gr.size;clear hb4 hg4 P3)
             | (go_at_call 71;refine (PI.out _).mono ?_;rintro e w5 ⟨p5,n5,c5,rfl,hn5,hb5,hg5⟩;have S5:=Hq (Zcv S4.out hg5);have P5:=Hq hb5;clear hb5 hg5 PI)
             | (at_builtin;refine Jo rfl _ _ rfl rfl rfl S5.out.buf P5.out (by omega) S5.out.gr.size ?_;intro p6 c6 w6 hb6 hg6;have S6:=Hq (Zgq S5.out hb6 hg6);have q1:=Cq w6 q 1 _ _ _ S6.out.box;have lq:=(Gs S6.out.box);have z0:=S6.out.gr.cell (HC.out k (m:Int) a HX.out).1 (by simp);have z1:=S6.out.gr.cell (HC.out k (m:Int) a HX.out).2 (by simp);have lz:=Nat.lt_of_lt_of_le lb0 S6.out.gr.size;clear hb6 hg6))
            go_roundw
            case rel=>exact ⟨k+1,n+n3+n5,by go_num,by omega,by omega,HR.out,S6.out.buf,S6.out.gr⟩
            case measure=>simp [intOf];omega
          · have ha0:0<=a:=by
             have:=HM.out
             rw [Ych oo a _ ⟨ho2,ho6⟩ rfl] at this
             simp at this
             exact this.1
            have PI:=Hq (fun W=>Ybh a ha0 IA.out.2 W)
            have o1:(oo == 1)=false:=beq_eq_false_iff_ne.2 (by omega)
            have o0:(oo != 0)=true:=by rw [bne_iff_ne];omega
            go_wp2_with (first
             | (go_at_call 71;refine (PN.out _).mono ?_;rintro e w3 ⟨p3,n3,c3,rfl,hn3,hb3,hg3⟩;have S3:=Hq (Zcv S2.out hg3);have P3:=Hq hb3;clear hb3 hg3 PN)
             | (at_builtin;refine Jo rfl _ _ rfl rfl rfl S3.out.buf P3.out (by omega) S3.out.gr.size ?_;intro p4 c4 w4 hb4 hg4;have S4:=Hq (Zgq S3.out hb4 hg4);have q1:=Cq w4 q 1 _ _ _ S4.out.box;have lq:=(Gs S4.out.box);have z0:=S4.out.gr.cell (HC.out k (m:Int) a HX.out).1 (by simp);have z1:=S4.out.gr.cell (HC.out k (m:Int) a HX.out).2 (by simp);have lz:=Nat.lt_of_lt_of_le lb0 S4.out.gr.size;clear hb4 hg4 P3)
             | (go_at_call 71;refine (PI.out _).mono ?_;rintro e w5 ⟨p5,n5,c5,rfl,hn5,hb5,hg5⟩;have S5:=Hq (Zcv S4.out hg5);have P5:=Hq hb5;clear hb5 hg5 PI)
             | (at_builtin;refine Jo rfl _ _ rfl rfl rfl S5.out.buf P5.out (by omega) S5.out.gr.size ?_;intro p6 c6 w6 hb6 hg6;have S6:=Hq (Zgq S5.out hb6 hg6);have q1:=Cq w6 q 1 _ _ _ S6.out.box;have lq:=(Gs S6.out.box);have z0:=S6.out.gr.cell (HC.out k (m:Int) a HX.out).1 (by simp);have z1:=S6.out.gr.cell (HC.out k (m:Int) a HX.out).2 (by simp);have lz:=Nat.lt_of_lt_of_le lb0 S6.out.gr.size;clear hb6 hg6))
            go_roundw
            case rel=>exact ⟨k+1,n+n3+n5,by go_num,by omega,by omega,HR.out,S6.out.buf,S6.out.gr⟩
            case measure=>simp [intOf];omega
    · have hkn:k=l.length:=by omega
      subst hkn
      have HR:=Hq (show Zhj l=0 by rw [HE.out,EQ.out,List.drop_length];rfl)
      clear hlt hg
      go_wp2
      go_ret2
      exact ⟨_,by rw [HR.out];rfl,GR.out⟩
end Go.Proofs.YteciblfmgdlipaaGreatDoor.AS
