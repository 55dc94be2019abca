/-
  Part of a proof: contracts of functions and lemmas, each stated by its own theorem. Conditions: as each theorem states.
-/
import Derived.Test.YteciblfmgdlipaaGreatDoorMI04
import Derived.Test.YteciblfmgdlipaaGreatDoorMI11
import Derived.Test.YteciblfmgdlipaaGreatDoorMI05
import Derived.Test.YteciblfmgdlipaaGreatDoorMI02
import Derived.Deep.QuietTactic
import Derived.BigQuiet
import Derived.Test.YteciblfmgdlipaaGreatDoorMI14
set_option linter.unusedSimpArgs false
set_option linter.unusedVariables false
set_option maxRecDepth 100000
set_option maxHeartbeats 16000000
namespace Go.Proofs.YteciblfmgdlipaaGreatDoor.AS
open Go.RowKit Go.Great CK
def Zmk:Txt->Txt->Nat->Txt
 | _,[],_=>[]
 | cur,c::r,n=>if c.toNat=32 then (if n=0 then cur else Zmk [] r (n - 1)) else Zmk (cur++[c]) r n
def Znd (s:Txt) (n:Nat):Txt:=Zmk [] s n
def namesT:Txt:=(([110,111,112,32,104,97,108,116,32,97,98,111,114,116,32,110,117,109,32,112,111,112,32,99,111,112,121,32,115,119,97,112,32,103,101,116,32,115,101,116,32,108,111,97,100,32,115,116,111,114,101,32].append [108,111,97,100,56,32,115,116,111,114,101,56,32,115,105,122,101,32,106,117,109,112,32,122,101,114,111,32,110,111,116,122,101,114,111,32,99,97,108,108,32,114,101,116,32,115,121,115,32,97,100,100,32]).append ([115,117,98,32,109,117,108,32,100,105,118,32,114,101,109,32,97,110,100,32,111,114,32,120,111,114,32,115,104,108,32,115,104,114,32,117,115,104,114,32,101,113,32,108,116,32,117,108,116,32,110,101].append [103,32,110,111,116,32,102,97,100,100,32,102,115,117,98,32,102,109,117,108,32,102,100,105,118,32,102,101,113,32,102,108,116,32,102,110,101,103,32,102,114,111,111,116,32,116,111,102,32,116,111,105,32]))
def Zvp:Txt:=[111,112,101,110,32,114,101,97,100,32,119,114,105,116,101,32,108,105,115,116,32,99,108,111,115,101,32]
theorem Zxq:((List.range 46).all fun i=>(shapeT[i]?).any fun s=>s.1.data.toList == Znd namesT i)=true:=by kernel_rfl
theorem Zyj:((List.range 5).all fun i=>(callT[i]?).any fun s=>s.1.data.toList == Znd Zvp i)=true:=by kernel_rfl
theorem Ztf {i:Nat} {r:ShR} (h:shapeT[i]? = some r):bs (Znd namesT i)=r.1:=by
 have hi:i<46:=by have:=(List.getElem?_eq_some_iff.1 h).1;rw [Zbm] at this;exact this
 have:=List.all_eq_true.1 Zxq i (List.mem_range.2 hi)
 rw [h] at this
 have e:r.1.data.toList=Znd namesT i:=by simpa using this
 rw [<- e];rfl
theorem Yeh {i:Nat} {r:ShR} (h:callT[i]? = some r):bs (Znd Zvp i)=r.1:=by
 have hi:i<5:=(List.getElem?_eq_some_iff.1 h).1
 have:=List.all_eq_true.1 Zyj i (List.mem_range.2 hi)
 rw [h] at this
 have e:r.1.data.toList=Znd Zvp i:=by simpa using this
 rw [<- e];rfl
theorem Yee {cur s:Txt} {k:Nat} {c:UInt8} (h:s[k]? = some c) (hc:c.toNat=32):Zmk cur (s.drop k) 0=cur:=by
 rw [Yq h,Zmk,if_pos hc,if_pos rfl]
theorem Yef {cur s:Txt} {k n:Nat} {c:UInt8} (h:s[k]? = some c) (hc:c.toNat=32):Zmk cur (s.drop k) (n+1)=Zmk [] (s.drop (k+1)) n:=by
 rw [Yq h,Zmk,if_pos hc,if_neg (by omega)];rfl
theorem Ypw {cur s:Txt} {k n:Nat} {c:UInt8} (h:s[k]? = some c) (hc:¬ c.toNat=32):Zmk cur (s.drop k) n=Zmk (cur++[c]) (s.drop (k+1)) n:=by
 rw [Yq h,Zmk,if_neg hc]
theorem Ynz {s:Txt} {f k:Nat} {c:UInt8} (h:s[k]? = some c) (hf:f<=k):(s.drop f).take (k+1 - f)=(s.drop f).take (k - f)++[c]:=by
 rw [show k+1 - f=(k - f)+1 by omega,List.take_add_one,List.getElem?_drop,show f+(k - f)=k by omega,h];rfl
theorem Zyv (s:Txt) (hs:s.length<=1000000) (n:Nat) (hn:n<=1000000) (w:World):Calls Tryz.prog 68 #[.string (bs s),.int .i64 n] w fun e w'=>e = .returned (.string (bs (Znd s n)))/\w=w':=by
 have hz:=Zl s
 go_enter Tryz.func68,Tryz.ntmps68
 go_wp2
 go_loopw [1,5,6] (fun m f i wr=>∃ (k f0 n0:Nat),i = .int .i64 k/\f = .int .i64 f0/\m = .int .i64 n0/\f0<=k/\k<=s.length/\n0<=1000000/\Znd s n=Zmk ((s.drop f0).take (k - f0)) (s.drop k) n0/\w=wr) (fun _ _ i _=>s.length - (intOf i).toNat)
 case atStart=>exact ⟨0,0,n,rfl,rfl,rfl,Nat.le_refl _,Nat.zero_le _,hn,rfl,rfl⟩
 case round =>
  obtain ⟨k,f0,n0,rfl,rfl,rfl,hf,hk,hn0,hw,hwr⟩:=hrel
  subst hwr
  have HW:=Hq hw
  clear hw
  by_cases hlt:k<s.length
  · obtain ⟨c,hq⟩:∃ c,s[k]? = some c:=⟨_,List.getElem?_eq_getElem hlt⟩
    have hkb:k<(bs s).size:=by rw [Zl];exact hlt
    have hbk:(bs s)[k]'hkb=c:=by
     have:=(List.getElem?_eq_some_iff.1 hq).2
     rw [<- this]
     rfl
    have HQ:=Hq hq
    by_cases h32:c.toNat=32
    · have hb:((((bs s)[k]'hkb).toNat:Int) != 32)=false:=by rw [hbk,h32];rfl
      cases n0 with
      | zero =>
        have HR:=Hq (HW.out.trans (Yee HQ.out h32))
        have hsl:∀ W:World,(Instr.slice 9 (.string (bs s)) (some (.int .i64 (f0:Int))) (some (.int .i64 (k:Int))) none).run Tryz.prog W = .ok (.string (bs ((s.drop f0).take (k - f0)))) W:=fun W=>by
         rw [run_slice_string W _ (bs s) .i64 .i64 (f0:Int) (k:Int) Xl (by omega) (by omega) (by rw [Zl];omega),Xw,Xs];rfl
        clear hbk hq h32
        go_wp2
        go_ret
        rw [HR.out]
        exact ⟨rfl,rfl⟩
      | succ n1 =>
        have HR:=Hq (HW.out.trans (Yef HQ.out h32))
        have e0:(((n1+1:Nat):Int) == 0)=false:=beq_eq_false_iff_ne.2 (by omega)
        clear hbk hq h32
        go_wp2
        exact ⟨⟨k+1,k+1,n1,by go_num,by go_num,by go_num,Nat.le_refl _,by omega,by omega,by rw [HR.out,Nat.sub_self,List.take_zero],trivial⟩,by simp [intOf];omega⟩
    · have hb:((((bs s)[k]'hkb).toNat:Int) != 32)=true:=by rw [hbk,bne_iff_ne];omega
      have HR:=Hq (HW.out.trans (Ypw HQ.out h32))
      clear hbk hq h32
      go_wp2
      exact ⟨⟨k+1,f0,n0,by go_num,rfl,rfl,by omega,by omega,hn0,by rw [HR.out,Ynz HQ.out hf],trivial⟩,by simp [intOf];omega⟩
  · have hkn:k=s.length:=by omega
    subst hkn
    have HR:=Hq (show Znd s n=[] by rw [HW.out,List.drop_length];rfl)
    clear hlt
    go_wp2
    go_ret
    rw [HR.out]
    exact ⟨rfl,rfl⟩
theorem Ycz:((List.range 46).all fun n=>(n == 3 || n == 5 || n == 7 || n == 8 || n == 14 || n == 15 || n == 16 || n == 17 || n == 19) || Zai (n:Int) == 0)=true:=by kernel_rfl
theorem Yhu {op:Int} (h3:op≠3) (h5:op≠5) (h7:op≠7) (h8:op≠8) (h14:op≠14) (h15:op≠15) (h16:op≠16) (h17:op≠17) (h19:op≠19):Zai op=0:=by
 by_cases hr:0<=op/\op<46
 · obtain ⟨n,rfl⟩:=Int.eq_ofNat_of_zero_le hr.1
   have:=List.all_eq_true.1 Ycz n (List.mem_range.2 (by omega))
   simp only [Bool.or_eq_true,beq_iff_eq] at this
   rcases this with (((((((h|h)|h)|h)|h)|h)|h)|h)|h <;> omega
 · unfold Zai
   rw [Zbr hr]
theorem Zgq (op:Int) (w:World):Calls Tryz.prog 46 #[.int .i64 op] w fun e w'=>e = .returned (.int .i64 (Zai op))/\w=w':=by
 by_cases h:op=3\/op=5\/op=7\/op=8\/op=14\/op=15\/op=16\/op=17\/op=19
 · rcases h with rfl|rfl|rfl|rfl|rfl|rfl|rfl|rfl|rfl
   all_goals
    go_enter Tryz.func46,Tryz.ntmps46
    go_wp2
    go_ret
    exact ⟨rfl,rfl⟩
 · have HK:=Hq (Yhu (op:=op) (by omega) (by omega) (by omega) (by omega) (by omega) (by omega) (by omega) (by omega) (by omega))
   have e3:(op == 3)=false:=beq_eq_false_iff_ne.2 (by omega)
   have e5:(op == 5)=false:=beq_eq_false_iff_ne.2 (by omega)
   have e7:(op == 7)=false:=beq_eq_false_iff_ne.2 (by omega)
   have e8:(op == 8)=false:=beq_eq_false_iff_ne.2 (by omega)
   have e14:(op == 14)=false:=beq_eq_false_iff_ne.2 (by omega)
   have e15:(op == 15)=false:=beq_eq_false_iff_ne.2 (by omega)
   have e16:(op == 16)=false:=beq_eq_false_iff_ne.2 (by omega)
   have e17:(op == 17)=false:=beq_eq_false_iff_ne.2 (by omega)
   have e19:(op == 19)=false:=beq_eq_false_iff_ne.2 (by omega)
   clear h
   go_enter Tryz.func46,Tryz.ntmps46
   go_wp2
   go_ret
   rw [HK.out]
   exact ⟨rfl,rfl⟩
theorem Yhg (k a b:Int) (hk:2<=k/\k<=6) (hb:bK k.toNat=b):Zlc k.toNat a=(decide (0<=a) && decide (a<b)):=by
 unfold Zlc
 rw [if_neg (by omega),if_neg (by omega),hb]
theorem Ylg (k a:Int) (hk:0<=k/\k<=6) (w:World):Calls Tryz.prog 70 #[.int .i64 k,.int .i64 a] w fun e w'=>e = .returned (.bool (Zlc k.toNat a))/\w=w':=by
 rcases (by omega:k=0\/k=1\/k=2\/k=3\/k=4\/k=5\/k=6) with rfl|rfl|rfl|rfl|rfl|rfl|rfl
 · go_enter Tryz.func70,Tryz.ntmps70
   go_wp2
   go_ret
   exact ⟨rfl,rfl⟩
 · go_enter Tryz.func70,Tryz.ntmps70
   go_wp2
   go_ret
   exact ⟨rfl,rfl⟩
 all_goals
  rw [Yhg _ a _ (by decide) rfl]
  by_cases h0:0<=a
  · have HD:=Hq (decide_eq_true h0)
    go_enter Tryz.func70,Tryz.ntmps70
    go_wp2
    go_ret
    rw [HD.out,Bool.true_and]
    exact ⟨rfl,rfl⟩
  · have HD:=Hq (decide_eq_false h0)
    go_enter Tryz.func70,Tryz.ntmps70
    go_wp2
    go_ret
    rw [HD.out,Bool.false_and]
    exact ⟨rfl,rfl⟩
theorem Ybb (i:Nat) (h:i<=1000000) (w:World):Calls Tryz.prog 68 #[.string ⟨namesT.toArray⟩,.int .i64 i] w fun e w'=>e = .returned (.string (bs (Znd namesT i)))/\w=w':=Zyv namesT (Nat.le_of_ble_eq_true (by kernel_rfl)) i h w
theorem Yft {fn:Func} {p u:Tmp} (hf:fn.results = #[.cell p 110,.tmp u]) {tmps:Array Value} {w:World} {b:Nat} {v0 v1 v2 v3 f:Value}
 (hp:tmps.getD p undef = .pointer (some ⟨b,0,none⟩)) (hu:tmps.getD u undef=f) (h:w.heap[b]? = some (.cells #[v0,v1,v2,v3] 110 (0,0))) :
 (results fn tmps).run Tryz.prog w = .ok (.tuple #[.agg #[v0,v1,v2,v3],f]) w:=by
 have c0:=Cq w _ 0 _ _ _ h
 have c1:=Cq w _ 1 _ _ _ h
 have c2:=Cq w _ 2 _ _ _ h
 have c3:=Cq w _ 3 _ _ _ h
 rw [results_cell_tmp hf,hp,hu]
 go_simp
theorem Zwo {n:Nat} {x:ByteArray × Int × Int × Int} (h:shapeT[n]? = some x):Yx (n:Int)=some x:=by
 have hn:n<46:=by have:=(List.getElem?_eq_some_iff.1 h).1;rw [Zbm] at this;exact this
 unfold Yx
 rw [if_pos ⟨by omega,by omega⟩,Int.toNat_natCast];exact h
theorem Zus {op:Int} {nm:ByteArray} {o t g:Int} (h:Yx op=some (nm,o,t,g)):Zai op=o:=by unfold Zai;rw [h]
theorem Yuq (n:Nat) (hn:n<46) (nm:ByteArray) (o t g:Int) (hs:shapeT[n]? = some (nm,o,t,g)) (w:World):Calls Tryz.prog 47 #[.int .i64 n] w fun e w'=>(∃ x y,e = .returned (.tuple #[.agg #[.string nm,.int .i64 o,.int .i64 x,.int .i64 y],.bool true]))/\w.grownBy w' none:=by
 have WD0:=fun W=>Ybb n (by omega) W
 rw [Ztf hs] at WD0
 have WD:=Hq WD0
 have OP:=Hq (fun W=>Zgq (n:Int) W)
 clear WD0
 have hni:(n:Int)<46:=by omega
 go_enter Tryz.func47,Tryz.ntmps47
 go_upto_region 4 with (first
  | (go_at_call 68;refine (WD.out _).mono ?_;rintro e w1 ⟨rfl,rfl⟩)
  | (go_at_call 46;refine (OP.out _).mono ?_;rintro e w2 ⟨rfl,rfl⟩))
 have hk:=Zus (Zwo hs)
 have HK:=Hq hk
 rw [hk]
 have hn0:¬ (n:Int)<0:=by omega
 have hn4:¬ 46<=(n:Int):=by omega
 clear WD OP
 generalize (n:Int)=op at *
 go_wp2
 all_goals
  exact bodyPost_ret (Yft rfl rfl rfl (Zf (heap_alloc_new w _) (Ga _ _ none) (by simp))) rfl ⟨⟨_,_,rfl⟩,Za (Ga _ _ _) (Ga _ _ _)⟩
theorem Yrd (op:Int) (h:¬ (0<=op/\op<46)) (w:World):Calls Tryz.prog 47 #[.int .i64 op] w fun e w'=>e = .returned (.tuple #[.agg #[.string ⟨#[]⟩,.int .i64 0,.int .i64 0,.int .i64 0],.bool false])/\w.grownBy w' none:=by
 rcases (by omega:op<0\/(0<=op/\46<=op)) with hn|⟨hn0,hn⟩
 all_goals
  clear h
  go_enter Tryz.func47,Tryz.ntmps47
  go_wp2
  exact bodyPost_ret (Yft rfl rfl rfl (heap_alloc_new w _)) rfl ⟨rfl,Ga _ _ _⟩
def Byt (w:World) (E:Nat) (v:Value) (n:Nat):Prop:=∃ xs,w.ownsRow E 5 1 v n xs/\∀ u∈xs,u.oneCell'=true
theorem Yjd (w:World) (E:Nat):Byt w E (.slice none 0 0) 0:=⟨[],World.ownsRow_nil _ _ _ _,by simp⟩
theorem Zvq {w:World} {E:Nat} {v:Value} {n:Nat} (h:Byt w E v n):∃ p c,v = .slice p n c:=by
 obtain ⟨xs,h,_⟩:=h
 exact Zi h
theorem Zhq {w w':World} {E:Nat} {v:Value} {n:Nat} (h:Byt w E v n) (g:w.grownBy w' none):Byt w' E v n:=by
 obtain ⟨xs,h,h1⟩:=h
 exact ⟨xs,h.kept g (Yw h),h1⟩
theorem Zpa {w:World} {E E':Nat} {v:Value} {n:Nat} (h:Byt w E v n) (hb:E'<=E):Byt w E' v n:=by
 obtain ⟨xs,h,h1⟩:=h
 exact ⟨xs,Zcc h hb,h1⟩
theorem Zpb (w:World) (x:Int):Byt (w.alloc (.cells #[.int .u8 x] 5)) w.heap.size (.slice (some ⟨w.heap.size,0,none⟩) 1 1) 1 :=
 ⟨[.int .u8 x],World.ownsRow_lit (e:=5) (size:=1) w #[.int .u8 x] 1 (Nat.le_refl _) (by decide) rfl,Zah _ _⟩
theorem Zym {P:Program} {w:World} (base:Nat) (t ty e:TypeId) (i:TypeInfo) (size:Nat) (ht:P.underlying t=some (.slice e)) (hi:P.info? e=some i)
 (v:Value) (n c:Nat) (xs:List Value) (hown:w.ownsRow base e size v n xs) :
 (Builtin.append_ #[t,t] ty #[v,.slice none 0 c]).run P w = .ok v w:=by
 rcases hown.2 with ⟨rfl,rfl⟩|⟨g,cap,cur,rfl,_,_,hnc,_⟩
 · simp [Builtin.append_,run_underlying ht,sizeOf,typeInfo,hi,Builtin.lenOf,Builtin.firstCells]
 · simp [Builtin.append_,run_underlying ht,sizeOf,typeInfo,hi,Builtin.lenOf,Builtin.firstCells,hnc,storeCells]
theorem Ytm {w:World} {E E2:Nat} {v:Value} {n:Nat} {q:Option Addr} {m c:Nat} (ty:TypeId) (h:Byt w E v n) (h2:Byt w E2 (.slice q m c) m) (hn:n+m<=1000000000) (hE:E<=w.heap.size) :
 ∃ (p':Option Addr) (c':Nat) (w':World),(Builtin.append_ #[23,23] ty #[v,.slice q m c]).run Tryz.prog w = .ok (.slice p' (n+m) c') w'/\Byt w' E (.slice p' (n+m) c') (n+m)/\w.grownBy w' v.ownBlock /\
   ((Value.slice p' (n+m) c').ownBlock=v.ownBlock\/(Value.slice p' (n+m) c').ownBlock=some w.heap.size):=by
 obtain ⟨bi,bi0,bi1,bi2,bi3⟩:=info_parts Zaz
 obtain ⟨xs,ho,h1⟩:=h
 obtain ⟨ys,hs,h3⟩:=h2
 have hall:∀ u∈xs++ys,u.oneCell'=true:=fun u hu=>(List.mem_append.1 hu).elim (h1 u) (h3 u)
 cases q with
 | some ad =>
   obtain ⟨g,hg⟩:∃ g,ad=⟨g,0,none⟩:=by
    rcases hs.2 with ⟨hv,_⟩|⟨g,cap,cur,hv,_⟩
    · cases hv
    · injection hv with hv _ _;injection hv with hv;exact ⟨g,hv⟩
   subst hg
   have hl:ys.length=m:=by have:=hs.1;omega
   obtain ⟨v',w',e1,e2,e3,_,e5⟩:=run_append_own_at (P:=Tryz.prog) (w:=w) E 23 ty 5 bi (.int .u8 0) 1 1 Xv bi0 bi1 bi2 bi3 rfl (by decide) v n xs ho ⟨g,0,none⟩ m c ys (by omega) (fun j u hj=>hs.cells rfl j u hj) h3 (by unfold maxLen;omega) (by omega) hE
   obtain ⟨p',c',rfl⟩:=Zi e2
   exact ⟨p',c',w',e1,⟨_,e2,hall⟩,e3,e5⟩
 | none =>
   have hm:m=0:=by
    rcases hs.2 with ⟨hv,h0⟩|⟨g,cap,cur,hv,_⟩
    · exact h0
    · cases hv
   subst hm
   obtain ⟨p',c',rfl⟩:=Zi ho
   exact ⟨p',c',w,Zym (P:=Tryz.prog) (w:=w) E 23 ty 5 bi 1 Xv bi0 _ n c xs ho,⟨xs,ho,h1⟩,Zon (Zb _ _),Or.inl rfl⟩
theorem Zbb {ops:Array Oper} {rest:List Oper} {o:Oper} {a:Act} {Q:Exit->Act->World->Prop} {w:World} (hgd:o.guard=none) (s x:Operand)
 (ho:o.op = .call { callee := .builtin .append,args := #[s,x],argTypes := #[23,23] }) {E E2:Nat} {v:Value} {n:Nat} {q:Option Addr} {m c:Nat}
 (hs:a.eval s=v) (hx:a.eval x = .slice q m c) (h:Byt w E v n) (h2:Byt w E2 (.slice q m c) m) (hn:n+m<=1000000000) (hE:E<=w.heap.size)
 (hK:∀ p' c' w',Byt w' E (.slice p' (n+m) c') (n+m)->w.grownBy w' v.ownBlock->wpList Tryz.prog ops Q rest (a.put o.dst (.slice p' (n+m) c')) w') :
 wpList Tryz.prog ops Q (o::rest) a w:=by
 refine wpList_plain hgd fun K hK' => ?_
 obtain ⟨p',c',w',hr,h3,h4,_⟩:=Ytm o.type h h2 hn hE
 unfold Oper.wp execOp
 simp only [ho,resolve,invoke,builtin,Sem.run_bind,Sem.run_pure,Result.andThen_ok,List.map_toArray,List.map_cons,List.map_nil,hs,hx,hr]
 exact hK' _ _ (hK p' c' w' h3 h4)
def Zys (w:World) (e:Ending) (w':World):Prop:=∃ p n c,e = .returned (.slice p n c)/\n<=9/\Byt w' w.heap.size (.slice p n c) n/\w.grownBy w' none
theorem Zjz (u:Int) (h0:0<=u) (h1:u<18446744073709551616) (w:World):Calls Tryz.prog 101 #[.int .u64 u] w (Zys w):=by
 obtain ⟨bi,bi0,bi1,bi2,bi3⟩:=info_parts Zaz
 by_cases hs:u<=247
 · go_enter Tryz.func101,Tryz.ntmps101
   go_wp2
   go_ret
   exact ⟨_,_,_,rfl,by decide,Zpb w _,Ga _ _ _⟩
 · go_enter Tryz.func101,Tryz.ntmps101
   go_wp2
   go_loopw [3,4] (fun v i wr=>∃ (k n:Nat),i = .int .i64 ((k:Int) - 1)/\k<=8/\n<=8 - k/\Byt wr w.heap.size v n/\w.grownBy wr none) (fun _ i _=>(intOf i+1).toNat)
   case atStart=>exact ⟨8,0,rfl,Nat.le_refl _,Nat.le_refl _,Yjd _ _,Zb _ _⟩
   case round =>
    obtain ⟨k,n,rfl,hk,hn,ho,hg⟩:=hrel
    obtain ⟨p,c,rfl⟩:=Zvq ho
    have OB:=Hq ho
    have GR:=Hq hg
    have hgs:=hg.size
    have EB:=hg.size
    clear ho hg
    by_cases hk0:k=0
    · subst hk0
      go_wp2_with (at_builtin;refine Zbb rfl _ _ rfl rfl rfl (Zpb wr _) (Zhq OB.out (Ga wr _ none)) (by omega) (by rw [World.size_alloc];omega) ?_;intro p5 c5 w5 hb5 hg5;have B5:=Hq hb5;have G5:=Hq hg5;clear hb5 hg5)
      go_ret
      exact ⟨_,_,_,rfl,by omega,Zpa B5.out hgs,Yf (Za GR.out (Ga _ _ none)) G5.out (fun k hk=>by injection hk with hk;rw [<- hk];exact hgs)⟩
    · obtain ⟨k,rfl⟩:∃ m,k=m+1:=⟨k - 1,by omega⟩
      have e1:((k+1:Nat):Int) - 1=(k:Int):=by omega
      rw [e1]
      by_cases hx:u / 2 ^ (8*k) % 256=0
      · by_cases hn0:n=0
        · subst hn0
          go_wp2
          exact ⟨⟨k,0,by go_num,by omega,by omega,OB.out,GR.out⟩,by simp [intOf]⟩
        · have hn1:0<n:=by omega
          go_wp2_with (at_builtin;refine Zbb rfl _ _ rfl rfl rfl (Zhq OB.out (Ga wr _ none)) (Zpb wr _) (by omega) (Zbc hgs _) ?_;intro p5 c5 w5 hb5 hg5;have B5:=Hq hb5;have G5:=Hq hg5;clear hb5 hg5)
          exact ⟨⟨k,n+1,by go_num,by omega,by omega,B5.out,Yf (Za GR.out (Ga _ _ none)) G5.out (fun q hq=>by obtain ⟨xs,h,_⟩:=OB.out;exact (World.ownsRow.lt h q hq).1)⟩,by simp [intOf]⟩
      · have hx1:(u / 2 ^ (8*k) % 256 != 0)=true:=by rw [bne_iff_ne];exact hx
        clear hx
        by_cases hn0:n=0
        · subst hn0
          go_wp2_with (at_builtin;refine Zbb rfl _ _ rfl rfl rfl (Zhq OB.out (Ga wr _ none)) (Zpb wr _) (by omega) (Zbc hgs _) ?_;intro p5 c5 w5 hb5 hg5;have B5:=Hq hb5;have G5:=Hq hg5;clear hb5 hg5)
          exact ⟨⟨k,0+1,by go_num,by omega,by omega,B5.out,Yf (Za GR.out (Ga _ _ none)) G5.out (fun q hq=>by obtain ⟨xs,h,_⟩:=OB.out;exact (World.ownsRow.lt h q hq).1)⟩,by simp [intOf]⟩
        · have hn1:0<n:=by omega
          go_wp2_with (at_builtin;refine Zbb rfl _ _ rfl rfl rfl (Zhq OB.out (Ga wr _ none)) (Zpb wr _) (by omega) (Zbc hgs _) ?_;intro p5 c5 w5 hb5 hg5;have B5:=Hq hb5;have G5:=Hq hg5;clear hb5 hg5)
          exact ⟨⟨k,n+1,by go_num,by omega,by omega,B5.out,Yf (Za GR.out (Ga _ _ none)) G5.out (fun q hq=>by obtain ⟨xs,h,_⟩:=OB.out;exact (World.ownsRow.lt h q hq).1)⟩,by simp [intOf]⟩
theorem Ynt (n:Int) (h0 : -9223372036854775808<=n) (h1:n<=9223372036854775807) (w:World):Calls Tryz.prog 102 #[.int .i64 n] w fun e w'=>(∃ u,e = .returned (.int .u64 u)/\0<=u/\u<18446744073709551616)/\w=w':=by
 by_cases hn:n<0
 · go_enter Tryz.func102,Tryz.ntmps102
   go_wp2
   go_ret
   refine ⟨⟨_,rfl,?_,?_⟩,rfl⟩
   · omega
   · omega
 · go_enter Tryz.func102,Tryz.ntmps102
   go_wp2
   go_ret
   refine ⟨⟨_,rfl,?_,?_⟩,rfl⟩
   · omega
   · omega
theorem Ygg (n:Int) (h0:0<=n) (h1:n<=9223372036854775807) (w:World):Calls Tryz.prog 71 #[.agg #[.int .i64 1,.int .i64 n,.slice none 0 0]] w (Zys w):=by
 go_enter Tryz.func71,Tryz.ntmps71
 go_wp2_with (go_at_call 101;refine (Zjz n h0 (by omega) _).mono ?_;rintro e w1 ⟨p1,n1,c1,rfl,hn1,hb1,hg1⟩;have B1:=Hq hb1;have G1:=Hq hg1;clear hb1 hg1)
 go_ret
 exact ⟨_,_,_,rfl,hn1,Zpa B1.out (by simp),Za (Ga _ _ none) G1.out⟩
theorem Yri (n:Int) (h0 : -9223372036854775808<=n) (h1:n<=9223372036854775807) (w:World):Calls Tryz.prog 71 #[.agg #[.int .i64 2,.int .i64 n,.slice none 0 0]] w (Zys w):=by
 go_enter Tryz.func71,Tryz.ntmps71
 go_wp2_with (first
  | (go_at_call 102;refine (Ynt n h0 h1 _).mono ?_;rintro e w2 ⟨⟨u,rfl,hu0,hu1⟩,rfl⟩)
  | (go_at_call 101;refine (Zjz u hu0 hu1 _).mono ?_;rintro e w1 ⟨p1,n1,c1,rfl,hn1,hb1,hg1⟩;have B1:=Hq hb1;have G1:=Hq hg1;clear hb1 hg1))
 go_ret
 exact ⟨_,_,_,rfl,hn1,Zpa B1.out (by simp),Za (Ga _ _ none) G1.out⟩
theorem Zxw:((List.range 46).all fun n=>decide (0<=Zai (n:Int)) && decide (Zai (n:Int)<=6))=true:=by kernel_rfl
theorem Yde {op:Int} {nm:ByteArray} {o t g:Int} (h:Yx op=some (nm,o,t,g)):0<=o/\o<=6:=by
 have hr:0<=op/\op<46:=by
  by_cases hr:0<=op/\op<46
  · exact hr
  · rw [Zbr hr] at h;cases h
 obtain ⟨n,rfl⟩:=Int.eq_ofNat_of_zero_le hr.1
 have:=List.all_eq_true.1 Zxw n (List.mem_range.2 (by omega))
 rw [Zus h] at this
 simpa using this
theorem Yfh {op:Int} {x:ByteArray × Int × Int × Int} (h:Yx op=some x):∃ n:Nat,op=n/\n<46/\shapeT[n]? = some x:=by
 have hr:0<=op/\op<46:=by
  by_cases hr:0<=op/\op<46
  · exact hr
  · rw [Zbr hr] at h;cases h
 obtain ⟨n,rfl⟩:=Int.eq_ofNat_of_zero_le hr.1
 unfold Yx at h
 rw [if_pos hr,Int.toNat_natCast] at h
 exact ⟨n,rfl,by omega,h⟩
def Ywe (a:Int):Prop := -9223372036854775808<=a/\a<=9223372036854775807
structure Ywb (w0 w:World) (v:Value) (n q:Nat) (vs:Array Value):Prop where
 buf:Byt w w0.heap.size v n
 box:w.heap[q]? = some (.cells vs 110 (0,0))
 gr:w0.grownBy w none
theorem Zfd {w0 w w':World} {v:Value} {n q:Nat} {vs:Array Value} (h:Ywb w0 w v n q vs) (g:w.grownBy w' none):Ywb w0 w' v n q vs:=⟨Zhq h.buf g,Zf h.box g (by simp),Za h.gr g⟩
theorem Zjo {w0 w w':World} {v v':Value} {n n' q:Nat} {vs:Array Value} (h:Ywb w0 w v n q vs) (hb:Byt w' w0.heap.size v' n') (g:w.grownBy w' v.ownBlock):Ywb w0 w' v' n' q vs:=by
 obtain ⟨xs,ho,_⟩:=h.buf
 exact ⟨hb,Zf h.box g (Zn ho h.box (by decide)),Yf h.gr g (fun k hk=>(World.ownsRow.lt ho k hk).1)⟩
theorem Zwz (l:List (Int × Int)) (p:Option Addr) (c B:Nat) (w:World) (hB:B<=w.heap.size) (hC:Zpj w B p l) (hI:∀ x∈l,Ywe x.2) :
 Calls Tryz.prog 51 #[.slice p l.length c] w (Yjy w l):=by
 have CC:=Hq hC
 have II:=Hq hI
 clear hC hI
 by_cases h4:(4096:Int)<(l.length:Int)
 · have hE:Zkc l=2:=by unfold Zkc;rw [if_pos (by omega)]
   go_enter Tryz.func51,Tryz.ntmps51
   go_wp2
   go_ret2
   exact ⟨.slice none 0 0,by rw [hE];rfl,Zb _ _⟩
 · have HE:=Hq (show Zkc l=Zkb l by unfold Zkc;rw [if_neg (by omega)])
   have h4n:l.length<=4096:=by omega
   go_enter Tryz.func51,Tryz.ntmps51
   go_wp2
   go_loopw [4,5] (fun v i wr=>∃ (k n:Nat),i = .int .i64 k/\k<=l.length/\n<=18*k/\Zkb l=Zkb (l.drop k)/\Byt wr w.heap.size v n/\w.grownBy wr none) (fun _ i _=>l.length - (intOf i).toNat)
   case atStart=>exact ⟨0,0,rfl,Nat.zero_le _,Nat.le_refl _,rfl,Yjd _ _,Zb _ _⟩
   case round =>
    obtain ⟨k,n,rfl,hk,hn,he,ho,hg⟩:=hrel
    obtain ⟨pv,cv,rfl⟩:=Zvq ho
    have OB:=Hq ho
    have GR:=Hq hg
    have hgs:=hg.size
    have EQ:=Hq he
    clear ho he
    by_cases hlt:k<l.length
    · obtain ⟨⟨op,a⟩,hx⟩:∃ x,l[k]? = some x:=⟨_,List.getElem?_eq_getElem hlt⟩
      obtain ⟨b,o,rfl,hb,hc0⟩:=CC.out (by omega)
      have HC:=Hq hc0
      have HX:=Hq hx
      have x0:=hg.cell (hc0 k op a hx).1 (by simp)
      have x1:=hg.cell (hc0 k op a hx).2 (by simp)
      have lb0:b<w.heap.size:=by omega
      have lb:b<wr.heap.size:=by omega
      have hst:=Zvj hx
      have IA:=Hq (II.out _ (List.mem_of_getElem? hx))
      clear hc0 hx hg
      cases hs:Yx op with
      | none =>
        rw [hs] at hst
        simp only at hst
        have HR:=Hq (HE.out.trans (EQ.out.trans hst))
        have OF:=Hq (fun W=>Yrd op (fun hr=>by obtain ⟨n,x,_,_,_,h⟩:=Zcx hr;rw [hs] at h;cases h) W)
        clear hst hs
        go_wp2_with (go_at_call 47;refine (OF.out _).mono ?_;rintro e w1 ⟨rfl,hg1⟩;have G1:=Hq hg1;clear hg1)
        go_ret2
        exact ⟨.slice none 0 0,by rw [HR.out];rfl,Za GR.out (Za G1.out (Ga _ _ none))⟩
      | some s =>
        obtain ⟨nm,oo,t,g⟩:=s
        obtain ⟨m,rfl,hm,hsn⟩:=Yfh hs
        obtain ⟨hk0,hk6⟩:=Yde hs
        rw [hs] at hst
        simp only at hst
        have OF:=Hq (fun W=>Yuq m hm nm oo t g hsn W)
        have MY0:∀ W,Calls Tryz.prog 70 #[.int .i64 oo,.int .i64 a] W fun e w'=>e = .returned (.bool (Zlc oo.toNat a))/\w'=W:=fun W=>(Ylg oo a ⟨hk0,hk6⟩ W).mono fun e w' h=>⟨h.1,h.2.symm⟩
        clear hs hsn
        cases hmay:Zlc oo.toNat a with
        | false =>
          rw [hmay] at hst
          simp only [hmay] at MY0
          have MY:=Hq MY0
          clear MY0
          have HR:=Hq (HE.out.trans (EQ.out.trans (hst.trans (if_neg (by decide)))))
          clear hst hmay
          go_upto_region 10 with (go_at_call 47;refine (OF.out _).mono ?_;rintro e w1 ⟨⟨x,y,rfl⟩,hg1⟩;have G1:=Hq hg1;have z1:=hg1.cell x1 (by simp);have z0:=hg1.cell x0 (by simp);have lz:=Nat.lt_of_lt_of_le lb hg1.size;clear hg1)
          go_quiet ((go_at_call 70;exact Calls.quiet_of_same (MY.out _)))
          go_wp2
          go_ret2
          exact ⟨.slice none 0 0,by rw [HR.out];rfl,Xn (Za GR.out (Za G1.out (Ga _ _ none))) _⟩
        | true =>
          rw [hmay] at hst
          simp only [hmay] at MY0
          have MY:=Hq MY0
          clear MY0
          have HR:=Hq (EQ.out.trans (hst.trans (if_pos rfl)))
          have HM:=Hq hmay
          clear hst hmay
          go_upto_region 10 with (go_at_call 47;refine (OF.out _).mono ?_;rintro e w1 ⟨⟨x,y,rfl⟩,hg1⟩;have G1:=Hq hg1;have z1:=hg1.cell x1 (by simp);have z0:=hg1.cell x0 (by simp);have lz:=Nat.lt_of_lt_of_le lb hg1.size;clear hg1)
          go_quiet ((go_at_call 70;exact Calls.quiet_of_same (MY.out _)))
          have S2:=Hq (show Ywb w ((w1.alloc (.cells #[.string nm,.int .i64 oo,.int .i64 x,.int .i64 y] 110)).drewN nq) (.slice pv n cv) n w1.heap.size #[.string nm,.int .i64 oo,.int .i64 x,.int .i64 y] from ⟨Zhq OB.out (Xn (Za G1.out (Ga _ _ none)) _),heap_alloc_new w1 _,Xn (Za GR.out (Za G1.out (Ga _ _ none))) _⟩)
          clear x0 x1 lb z0 z1 lz
          generalize (w1.alloc (.cells #[.string nm,.int .i64 oo,.int .i64 x,.int .i64 y] 110)).drewN nq=w2 at S2 ⊢
          obtain ⟨q,hq⟩:∃ z,w1.heap.size=z:=⟨_,rfl⟩
          rw [hq] at S2 ⊢
          clear hq OF MY G1
          have q1:=Cq w2 q 1 _ _ _ S2.out.box
          have lq:=(Gs S2.out.box)
          have z0:=S2.out.gr.cell (HC.out k (m:Int) a HX.out).1 (by simp)
          have z1:=S2.out.gr.cell (HC.out k (m:Int) a HX.out).2 (by simp)
          have lz:=Nat.lt_of_lt_of_le lb0 S2.out.gr.size
          have PN:=Hq (fun W=>Ygg (m:Int) (by omega) (by omega) W)
          rcases (by omega:oo=0\/oo=1\/(2<=oo/\oo<=6)) with rfl|rfl|⟨ho2,ho6⟩
          · go_wp2_with (first
             | (go_at_call 71;refine (PN.out _).mono ?_;rintro e w3 ⟨p3,n3,c3,rfl,hn3,hb3,hg3⟩;have S3:=Hq (Zfd S2.out hg3);have P3:=Hq hb3;clear hb3 hg3 PN)
             | (at_builtin;refine Zbb rfl _ _ rfl rfl rfl S3.out.buf P3.out (by omega) S3.out.gr.size ?_;intro p4 c4 w4 hb4 hg4;have S4:=Hq (Zjo S3.out hb4 hg4);have q1:=Cq w4 q 1 _ _ _ S4.out.box;have lq:=(Gs S4.out.box);have z0:=S4.out.gr.cell (HC.out k (m:Int) a HX.out).1 (by simp);have z1:=S4.out.gr.cell (HC.out k (m:Int) a HX.out).2 (by simp);have lz:=Nat.lt_of_lt_of_le lb0 S4.out.gr.size;clear hb4 hg4 P3))
            go_roundw
            case rel=>exact ⟨k+1,n+n3,by go_num,by omega,by omega,HR.out,S4.out.buf,S4.out.gr⟩
            case measure=>simp [intOf];omega
          · have PI:=Hq (fun W=>Yri a IA.out.1 IA.out.2 W)
            go_wp2_with (first
             | (go_at_call 71;refine (PN.out _).mono ?_;rintro e w3 ⟨p3,n3,c3,rfl,hn3,hb3,hg3⟩;have S3:=Hq (Zfd S2.out hg3);have P3:=Hq hb3;clear hb3 hg3 PN)
             | (at_builtin;refine Zbb rfl _ _ rfl rfl rfl S3.out.buf P3.out (by omega) S3.out.gr.size ?_;intro p4 c4 w4 hb4 hg4;have S4:=Hq (Zjo S3.out hb4 hg4);have q1:=Cq w4 q 1 _ _ _ S4.out.box;have lq:=(Gs S4.out.box);have z0:=S4.out.gr.cell (HC.out k (m:Int) a HX.out).1 (by simp);have z1:=S4.out.gr.cell (HC.out k (m:Int) a HX.out).2 (by simp);have lz:=Nat.lt_of_lt_of_le lb0 S4.out.gr.size;clear hb4 hg4 P3)
             | (go_at_call 71;refine (PI.out _).mono ?_;rintro e w5 ⟨p5,n5,c5,rfl,hn5,hb5,hg5⟩;have S5:=Hq (Zfd S4.out hg5);have P5:=Hq hb5;clear hb5 hg5 PI)
             | (at_builtin;refine Zbb rfl _ _ rfl rfl rfl S5.out.buf P5.out (by omega) S5.out.gr.size ?_;intro p6 c6 w6 hb6 hg6;have S6:=Hq (Zjo S5.out hb6 hg6);have q1:=Cq w6 q 1 _ _ _ S6.out.box;have lq:=(Gs S6.out.box);have z0:=S6.out.gr.cell (HC.out k (m:Int) a HX.out).1 (by simp);have z1:=S6.out.gr.cell (HC.out k (m:Int) a HX.out).2 (by simp);have lz:=Nat.lt_of_lt_of_le lb0 S6.out.gr.size;clear hb6 hg6))
            go_roundw
            case rel=>exact ⟨k+1,n+n3+n5,by go_num,by omega,by omega,HR.out,S6.out.buf,S6.out.gr⟩
            case measure=>simp [intOf];omega
          · have ha0:0<=a:=by
             have:=HM.out
             rw [Yhg oo a _ ⟨ho2,ho6⟩ rfl] at this
             simp at this
             exact this.1
            have PI:=Hq (fun W=>Ygg a ha0 IA.out.2 W)
            have o1:(oo == 1)=false:=beq_eq_false_iff_ne.2 (by omega)
            have o0:(oo != 0)=true:=by rw [bne_iff_ne];omega
            go_wp2_with (first
             | (go_at_call 71;refine (PN.out _).mono ?_;rintro e w3 ⟨p3,n3,c3,rfl,hn3,hb3,hg3⟩;have S3:=Hq (Zfd S2.out hg3);have P3:=Hq hb3;clear hb3 hg3 PN)
             | (at_builtin;refine Zbb rfl _ _ rfl rfl rfl S3.out.buf P3.out (by omega) S3.out.gr.size ?_;intro p4 c4 w4 hb4 hg4;have S4:=Hq (Zjo S3.out hb4 hg4);have q1:=Cq w4 q 1 _ _ _ S4.out.box;have lq:=(Gs S4.out.box);have z0:=S4.out.gr.cell (HC.out k (m:Int) a HX.out).1 (by simp);have z1:=S4.out.gr.cell (HC.out k (m:Int) a HX.out).2 (by simp);have lz:=Nat.lt_of_lt_of_le lb0 S4.out.gr.size;clear hb4 hg4 P3)
             | (go_at_call 71;refine (PI.out _).mono ?_;rintro e w5 ⟨p5,n5,c5,rfl,hn5,hb5,hg5⟩;have S5:=Hq (Zfd S4.out hg5);have P5:=Hq hb5;clear hb5 hg5 PI)
             | (at_builtin;refine Zbb rfl _ _ rfl rfl rfl S5.out.buf P5.out (by omega) S5.out.gr.size ?_;intro p6 c6 w6 hb6 hg6;have S6:=Hq (Zjo S5.out hb6 hg6);have q1:=Cq w6 q 1 _ _ _ S6.out.box;have lq:=(Gs S6.out.box);have z0:=S6.out.gr.cell (HC.out k (m:Int) a HX.out).1 (by simp);have z1:=S6.out.gr.cell (HC.out k (m:Int) a HX.out).2 (by simp);have lz:=Nat.lt_of_lt_of_le lb0 S6.out.gr.size;clear hb6 hg6))
            go_roundw
            case rel=>exact ⟨k+1,n+n3+n5,by go_num,by omega,by omega,HR.out,S6.out.buf,S6.out.gr⟩
            case measure=>simp [intOf];omega
    · have hkn:k=l.length:=by omega
      subst hkn
      have HR:=Hq (show Zkc l=0 by rw [HE.out,EQ.out,List.drop_length];rfl)
      clear hlt hg
      go_wp2
      go_ret2
      exact ⟨_,by rw [HR.out];rfl,GR.out⟩
theorem Ycc (mem:Int) (nd:Nat) (fs:List FnP) (pd pF:Option Addr) (cd cF B:Nat) (w:World) (hB:B<=w.heap.size) (hF:Zdi w B pF fs) (hn:nd<=9223372036854775807) (hI:∀ f∈fs,∀ x∈f.2.2.2,Ywe x.2) :
 Calls Tryz.prog 23 #[.agg #[.int .i64 mem,.slice pd nd cd,.slice pF fs.length cF]] w fun e w'=>e = .returned (.int .i64 (Jl mem nd fs))/\w.grownBy w' none:=by
 have FF:=Hq hF
 have II:=Hq hI
 clear hF hI
 by_cases hbad:mem<0\/65536<mem\/mem<nd\/fs.length<1\/64<fs.length
 · have hE:Jl mem nd fs=121:=by unfold Jl;rw [if_pos hbad]
   rw [hE]
   have hni:(fs.length:Int)<1\/¬ (fs.length:Int)<1:=Classical.em _
   rcases (by omega:mem<0\/(0<=mem/\65536<mem)\/(0<=mem/\mem<=65536/\mem<(nd:Int))\/(0<=mem/\mem<=65536/\(nd:Int)<=mem/\(fs.length:Int)<1)\/(0<=mem/\mem<=65536/\(nd:Int)<=mem/\1<=(fs.length:Int)/\64<(fs.length:Int))) with q1|⟨q1,q2⟩|⟨q1,q2,q3⟩|⟨q1,q2,q3,q4⟩|⟨q1,q2,q3,q4,q5⟩
   all_goals
    clear hbad hni hE
    go_enter Tryz.func23,Tryz.ntmps23
    go_wp2
    go_ret
    exact ⟨rfl,Ga _ _ _⟩
 · have hE:Jl mem nd fs=Zwe fs:=by unfold Jl;rw [if_neg hbad]
   have q1:0<=mem:=by omega
   have q2:mem<=65536:=by omega
   have q3:(nd:Int)<=mem:=by omega
   have q4:1<=(fs.length:Int):=by omega
   have q5:(fs.length:Int)<=64:=by omega
   clear hbad
   go_enter Tryz.func23,Tryz.ntmps23
   go_wp2
   have BX:=Hq (Ybc w mem (.slice pd nd cd) (.slice pF fs.length cF))
   have G0:=Hq (Ga w (.cells #[.int .i64 mem,.slice pd nd cd,.slice pF fs.length cF] 26) none)
   generalize w.alloc (.cells #[.int .i64 mem,.slice pd nd cd,.slice pF fs.length cF] 26)=w1 at *
   go_loopw [3] (fun i wr=>∃ k:Nat,i = .int .i64 k/\k<=fs.length/\Zwe fs=Zwe (fs.drop k)/\w1.grownBy wr none) (fun i _=>fs.length - (intOf i).toNat)
   case atStart=>exact ⟨0,rfl,Nat.zero_le _,rfl,Zb _ _⟩
   case round =>
    obtain ⟨k,rfl,hk,he,hg1⟩:=hrel
    have HE:=Hq he
    have G1:=Hq hg1
    have hbx:=Yjh BX.out hg1 (by simp)
    have y2:=Cq wr _ 2 _ _ _ hbx
    have ly:=(Gs hbx)
    have hg:=Za G0.out hg1
    have GR:=Hq hg
    clear hbx hg1
    by_cases hlt:(k:Int)<(fs.length:Int)
    · obtain ⟨⟨a,lo,r,c⟩,hf⟩:∃ x,fs[k]? = some x:=⟨_,List.getElem?_eq_getElem (by omega)⟩
      obtain ⟨b,o,rfl,hb,hc⟩:=FF.out (by omega)
      obtain ⟨c0,c1,c2,pc,cc,c3,hcode⟩:=hc k a lo r c hf
      replace c0:=Xu hg (B:=B) (by simp) hb c0
      replace c1:=Xu hg (B:=B) (by simp) hb c1
      replace c2:=Xu hg (B:=B) (by simp) hb c2
      replace c3:=Xu hg (B:=B) (by simp) hb c3
      have hb2:b<wr.heap.size:=by have:=hg.size;omega
      have hst:=Zvf hf
      have gW:=Za hg (Ga wr (.cells #[.int .i64 a,.int .i64 lo,.int .i64 r,.slice pc c.length cc] 61) none)
      have EC:=Hq (Zwz c pc cc B (wr.alloc (.cells #[.int .i64 a,.int .i64 lo,.int .i64 r,.slice pc c.length cc] 61)) (Nat.le_trans hB gW.size) (Zbi hcode gW (by simp)) (II.out _ (List.mem_of_getElem? hf)))
      have GW:=Hq gW
      clear hc he hg hcode hf gW
      by_cases hbad:a<0\/16<a\/lo<a\/64<lo\/r<0\/1<r\/c.length<1\/4096<c.length
      · have hfn:fnE (a,lo,r,c)=121:=by unfold fnE;rw [if_pos hbad]
        rw [hfn,if_neg (by decide)] at hst
        have H2:=Hq (hE.trans (HE.out.trans hst))
        clear hst hfn EC
        rcases (by omega:a<0\/(0<=a/\16<a)\/(0<=a/\a<=16/\lo<a)\/(0<=a/\a<=16/\a<=lo/\64<lo)\/(0<=a/\a<=16/\a<=lo/\lo<=64/\r<0)\/(0<=a/\a<=16/\a<=lo/\lo<=64/\0<=r/\1<r)\/(0<=a/\a<=16/\a<=lo/\lo<=64/\0<=r/\r<=1/\(c.length:Int)<1)\/(0<=a/\a<=16/\a<=lo/\lo<=64/\0<=r/\r<=1/\1<=(c.length:Int)/\4096<(c.length:Int))) with p1|⟨p1,p2⟩|⟨p1,p2,p3⟩|⟨p1,p2,p3,p4⟩|⟨p1,p2,p3,p4,p5⟩|⟨p1,p2,p3,p4,p5,p6⟩|⟨p1,p2,p3,p4,p5,p6,p7⟩|⟨p1,p2,p3,p4,p5,p6,p7,p8⟩
        all_goals
         clear hbad
         go_wp2
         go_ret
         exact ⟨Zgr H2.out.symm,GW.out⟩
      · have hfn:fnE (a,lo,r,c)=Zkb c:=by unfold fnE;rw [if_neg hbad]
        have hco:Zkc c=Zkb c:=by unfold Zkc;rw [if_neg (by omega)]
        rw [hfn] at hst
        have p1:0<=a:=by omega
        have p2:a<=16:=by omega
        have p3:a<=lo:=by omega
        have p4:lo<=64:=by omega
        have p5:0<=r:=by omega
        have p6:r<=1:=by omega
        have p7:1<=(c.length:Int):=by omega
        have p8:(c.length:Int)<=4096:=by omega
        clear hbad hfn
        by_cases hz:Zkb c=0
        · rw [if_pos hz] at hst
          have H2:=Hq (HE.out.trans hst)
          have HZ:=Hq (hco.trans hz)
          clear hst hz hco
          go_wp2_with (go_at_call 51;refine EC.out.mono ?_;rintro e w4 ⟨v4,rfl,hg4⟩;have G4:=Hq hg4;clear hg4;rw [HZ.out])
          go_roundw
          case rel=>exact ⟨k+1,by go_num,by omega,H2.out,Za G1.out (Za (Ga _ _ none) G4.out)⟩
          case measure=>simp [intOf];omega
        · rw [if_neg hz] at hst
          have H2:=Hq (hE.trans (HE.out.trans hst))
          have hz2:(Zkb c != 0)=true:=by simpa using hz
          have HZ:=Hq hco
          clear hst hz hco
          go_wp2_with (go_at_call 51;refine EC.out.mono ?_;rintro e w4 ⟨v4,rfl,hg4⟩;have G4:=Hq hg4;clear hg4;rw [HZ.out])
          go_ret
          exact ⟨Zgr H2.out.symm,Za GW.out G4.out⟩
    · have hkn:k=fs.length:=by omega
      have hfin:Zwe fs=0:=by rw [he,hkn,List.drop_length];rfl
      clear he
      go_wp2
      go_ret
      first
       | exact ⟨rfl,GR.out⟩
       | exact ⟨Zgr (hE.trans hfin).symm,GR.out⟩
theorem Yiy (c:UInt8) (r:Txt):Zci (c::r)=if c.toNat=10 then []::Zci r else (match Zci r with|[]=>[[c]]|l::m=>(c::l)::m):=rfl
def nlC (t:Txt):Nat:=t.countP fun c=>c.toNat == 10
theorem Zlq:∀ (t:Txt),(Zci t).length=nlC t+1
 | []=>rfl
 | c::r=>by
   have ih:=Zlq r
   have hne:=Yix r
   rw [Yiy]
   unfold nlC at ih ⊢
   by_cases h:c.toNat=10
   · rw [if_pos h,List.countP_cons_of_pos (by simpa using h),List.length_cons,ih]
   · rw [if_neg h,List.countP_cons_of_neg (by simpa using h)]
     cases hr:Zci r with
     | nil=>exact absurd hr hne
     | cons l q=>rw [hr] at ih;exact ih
theorem Yey {T:Tab} {s:St} {x:Sd} {b:Bool} {line:Nat} {y:Int} (h:Jv T s x b line = .error y):y=141\/y=142\/y=143:=by
 unfold Jv at h
 split at h
 · injection h with h;exact Or.inl h.symm
 · split at h
   · injection h with h;exact Or.inr (Or.inr h.symm)
   · split at h
     · cases h
     · cases h
     · cases h
     · split at h
       · injection h with h;exact Or.inr (Or.inl h.symm)
       · cases h
     · split at h
       · injection h with h;exact Or.inr (Or.inl h.symm)
       · simp only at h
         split at h
         · cases h
         · cases h
theorem Zwl {T:Tab} {s s':St} {x:Sd} {b:Bool} {line:Nat} (h:Jv T s x b line = .ok s'):∀ w∈s'.wants,w∈s.wants\/w.line=line:=by
 unfold Jv at h
 split at h
 · cases h
 · split at h
   · cases h
   · split at h
     · injection h with h;subst h;exact fun w hw=>Or.inl hw
     · injection h with h;subst h;exact fun w hw=>Or.inl hw
     · injection h with h;subst h;exact fun w hw=>Or.inl hw
     · split at h
       · cases h
       · injection h with h;subst h;exact fun w hw=>Or.inl hw
     · split at h
       · cases h
       · simp only at h
         split at h
         · injection h with h;subst h;exact fun w hw=>Or.inl hw
         · injection h with h
           subst h
           intro w hw
           simp only at hw
           split at hw
           · exact Or.inl hw
           · rcases List.mem_append.1 hw with hw|hw
             · exact Or.inl hw
             · simp at hw;subst hw;exact Or.inr rfl
theorem Yho {T:Tab} {s:St} {l:Txt} {line:Nat} {y:Int} (h:Zjv T s l line = .error y):y=141\/y=142\/y=143:=by
 unfold Zjv at h
 split at h
 · injection h with h;exact Or.inl h.symm
 · split at h
   · injection h with h;exact Or.inl h.symm
   · exact Yey h
theorem Zxu {T:Tab} {s s':St} {l:Txt} {line:Nat} (h:Zjv T s l line = .ok s'):∀ w∈s'.wants,w∈s.wants\/w.line=line:=by
 unfold Zjv at h
 split at h
 · cases h
 · split at h
   · cases h
   · exact Zwl h
theorem Zqw (T:Tab):∀ (ls:List Txt) (s:St) (n:Nat),(match Zcm T s n ls with
 | .error (y,k)=>(y=141\/y=142\/y=143)/\n<=k/\k<n+ls.length
 | .ok s'=>∀ w∈s'.wants,w∈s.wants\/(n<=w.line/\w.line<n+ls.length))
 | [],s,n=>fun w hw=>Or.inl hw
 | l::r,s,n=>by
   rw [Zcm]
   cases h:Zjv T s l n with
   | error y=>exact ⟨Yho h,Nat.le_refl _,by simp⟩
   | ok s1 =>
     have ih:=Zqw T r s1 (n+1)
     have hw1:=Zxu h
     simp only
     cases h2:Zcm T s1 (n+1) r with
     | error e =>
       obtain ⟨y,k⟩:=e
       rw [h2] at ih
       exact ⟨ih.1,by omega,by have:=ih.2.2;simp only [List.length_cons];omega⟩
     | ok s' =>
       rw [h2] at ih
       intro w hw
       rcases ih w hw with h3|h3
       · rcases hw1 w h3 with h4|h4
         · exact Or.inl h4
         · exact Or.inr ⟨by omega,by simp only [List.length_cons];omega⟩
       · exact Or.inr ⟨by omega,by have:=h3.2;simp only [List.length_cons];omega⟩
theorem Zvi {s:St}:∀ (ws:List Zdz) (fs:List FnR) (n:Nat),Zhw s fs ws = .error n->∃ w∈ws,w.line=n
 | [],fs,n,h=>by cases h
 | w::r,fs,n,h=>by
   rw [Zhw] at h
   split at h
   · injection h with h;exact ⟨w,by simp,h⟩
   · obtain ⟨w',h1,h2⟩:=Zvi r _ n h
     exact ⟨w',List.mem_cons_of_mem _ h1,h2⟩
theorem Zxj {t:Txt} {y n:Int} (h:Zda t = .error (y,n)):y≠0/\0<=n/\n<=(nlC t:Int)+1:=by
 rw [Zdo] at h
 unfold Zaq at h
 split at h
 · rename_i p hp
   cases h
 · rename_i y' k hp
   injection h with h
   injection h with h1 h2
   subst h1;subst h2
   split at hp
   · injection hp with hp;injection hp with h1 h2;subst h1;subst h2;exact ⟨by decide,by omega,by omega⟩
   · have ha:=Zqw TT (Zci t) St0 1
     split at hp
     · rename_i e he
       rw [he] at ha
       injection hp with hp
       subst hp
       simp only at ha
       have hc:=Zlq t
       exact ⟨by omega,by omega,by omega⟩
     · rename_i s he
       rw [he] at ha
       split at hp
       · rename_i m hm
         injection hp with hp;injection hp with h1 h2;subst h1;subst h2
         obtain ⟨w,h1,h2⟩:=Zvi _ _ _ hm
         have hc:=Zlq t
         rcases ha w h1 with h3|h3
         · simp [St0] at h3
         · exact ⟨by decide,by omega,by omega⟩
       · simp only at hp
         split at hp
         · cases hp
         · rename_i hne
           injection hp with hp;injection hp with h1 h2;subst h1;subst h2
           exact ⟨hne,by omega,by omega⟩
theorem Yxa {w w':World} {p:PrP} {e:Ending} (h:Zvy w (.ok p) e w'):∃ pD cD pF cF,e = .returned (.tuple #[.agg #[.int .i64 p.1,.slice pD p.2.1.length cD,.slice pF p.2.2.length cF],.nilIface])/\w.grownBy w' none/\∃ cv,Ztd w' w.heap.size (.slice pD p.2.1.length cD) (.slice pF p.2.2.length cF) (Zcq p.2.1) p.2.2 cv:=by
 obtain ⟨h1,h2⟩:=h
 obtain ⟨mem,d,fs⟩:=p
 obtain ⟨D,F,cv,rfl,ho⟩:=h1
 obtain ⟨pD,cD,rfl⟩:=Zi ho.dt
 obtain ⟨pF,cF,rfl⟩:=Zi ho.fr
 rw [Yh] at ho ⊢
 exact ⟨_,_,_,_,rfl,h2,cv,ho⟩
theorem Yuw {w w':World} {y n:Int} {e:Ending} (h:Zvy w (.error (y,n)) e w'):∃ a,e = .returned (.tuple #[.agg #[.int .i64 0,.slice none 0 0,.slice none 0 0],.iface 62 (.pointer (some ⟨a,0,none⟩))])/\w.grownBy w' none/\w'.heap[a]? = some (.cells #[.int .i64 n,Zwf y] 64 (0,0)):=by
 obtain ⟨h1,h2⟩:=h
 obtain ⟨a,rfl,ha,hb⟩:=h1
 exact ⟨a,rfl,h2,hb⟩
abbrev prV (P:PrP) (pd pF:Option Addr) (cd cF:Nat):Value := .agg #[.int .i64 P.1,.slice pd P.2.1.length cd,.slice pF P.2.2.length cF]
abbrev prO (P:PrP) (pd pF:Option Addr) (cd cF:Nat):Obj := .cells #[.int .i64 P.1,.slice pd P.2.1.length cd,.slice pF P.2.2.length cF] 26 (0,0)
structure Yka (W:World) (P:PrP) (pd pF:Option Addr):Prop where
 by_:Zhl W pd P.2.1
 fn:Zdi W W.heap.size pF P.2.2
theorem Yil {w:World} {A B:Nat} {p:Option Addr} {fs:List FnP} (h:Zdi w A p fs) (hb:A<=B):Zdi w B p fs:=fun h0=>by
 obtain ⟨b,o,e,hlt,hc⟩:=h h0
 refine ⟨b,o,e,Nat.lt_of_lt_of_le hlt hb,fun i a l r c hi => ?_⟩
 obtain ⟨h1,h2,h3,pc,cc,h4,h5⟩:=hc i a l r c hi
 refine ⟨h1,h2,h3,pc,cc,h4,fun h0 => ?_⟩
 obtain ⟨b',o',e',hlt',hc'⟩:=h5 h0
 exact ⟨b',o',e',Nat.lt_of_lt_of_le hlt' hb,hc'⟩
theorem Zgv {W W':World} {P:PrP} {pd pF:Option Addr} (h:Yka W P pd pF) (g:W.grownBy W' none):Yka W' P pd pF :=
 ⟨Ziy h.by_ g,Yil (Jx h.fn g (by simp)) g.size⟩
theorem Yfj {W:World} {P Q:PrP} {pd pF qd qF:Option Addr} (h:Yka W P pd pF) (g:Yka W Q qd qF) (hn:P.2.2.length<=1000000000000) (hc:∀ x∈P.2.2,x.2.2.2.length<=1000000000000) (cd cF ed eF:Nat) :
 Calls Tryz.prog 15 #[prV P pd pF cd cF,prV Q qd qF ed eF] W fun e w'=>e = .returned (.bool (Zjl P Q))/\W.grownBy w' none :=
 Zze P Q pd qd pF qF cd ed cF eF W.heap.size W.heap.size W hn hc h.by_ g.by_ h.fn g.fn
theorem Yqu {P:PrP} (h:Jl P.1 P.2.1.length P.2.2=0):P.2.2.length<=1000000000000/\∀ x∈P.2.2,x.2.2.2.length<=1000000000000:=by
 obtain ⟨h1,h2⟩:=Zqm h
 exact ⟨by omega,fun x hx=>by have:=(Yas (h2 x hx)).1;omega⟩
theorem Zzt (W:World) (pd pF:Option Addr):Yka W (0,[],[]) pd pF:=⟨fun h=>absurd h (by simp),fun h=>absurd h (by simp)⟩
theorem Ymb {w w':World} {P:PrP} {e:Ending} (h:Zvy w (.ok P) e w'):∃ pd cd pF cF,e = .returned (.tuple #[prV P pd pF cd cF,.nilIface])/\w.grownBy w' none/\Yka w' P pd pF:=by
 obtain ⟨pD,cD,pF,cF,rfl,hg,cv,ho⟩:=Yxa h
 have hl:(Zcq P.2.1).length=P.2.1.length:=Yh _
 refine ⟨pD,cD,pF,cF,rfl,hg,⟨fun h0 => ?_,Zdp ho⟩⟩
 have hb:=Zqu ho
 obtain ⟨b,o,e,hc⟩:=hb (by
  intro h1
  have:=congrArg List.length h1
  simp only [List.length_map,hl,List.length_nil] at this
  omega)
 have hcell:∀ (i:Nat) (c:UInt8),P.2.1[i]? = some c->w'.cell? ⟨b,o+i,none⟩=some (.int .u8 (c.toNat:Int)):=fun i c hi=>hc i _ (by
  unfold Zcq
  simp [hi])
 have h9:P.2.1[0]? = some P.2.1[0]:=List.getElem?_eq_getElem h0
 exact ⟨b,o,e,World.block_lt_of_cell? _ _ (hcell 0 _ h9),hcell⟩
structure Bk3 (W:World) (a:Nat) (x y z:Value):Prop where
 c0:W.cell? ⟨a,0,none⟩=some x
 c1:W.cell? ⟨a,1,none⟩=some y
 c2:W.cell? ⟨a,2,none⟩=some z
theorem Ybf {W:World} {a:Nat} {x y z:Value} (h:W.heap[a]? = some (.cells #[x,y,z] 26 (0,0))):Bk3 W a x y z :=
 ⟨Cq W _ 0 _ _ _ h,Cq W _ 1 _ _ _ h,Cq W _ 2 _ _ _ h⟩
theorem Jj (a b:Int) (w:World):Calls Tryz.prog 95 #[.int .i64 a,.int .i64 b] w fun e w'=>e = .returned (.bool (a != 4 && b != 4 && a != 0))/\w=w':=by
 cases h1:a != 4
 · go_enter Tryz.func95,Tryz.ntmps95
   go_wp2
   go_ret
   exact ⟨rfl,rfl⟩
 · cases h2:b != 4
   · go_enter Tryz.func95,Tryz.ntmps95
     go_wp2
     go_ret
     exact ⟨rfl,rfl⟩
   · go_enter Tryz.func95,Tryz.ntmps95
     go_wp2
     go_ret
     exact ⟨rfl,rfl⟩
def Ydu (w:World) (p:Option Addr) (ls:List Txt):Prop:=0<ls.length->∃ b o,p=some ⟨b,o,none⟩/\b<w.heap.size/\∀ (i:Nat) (l:Txt),ls[i]? = some l->w.cell? ⟨b,o+i,none⟩=some (.string (bs l))
def Zmd (ls:List Txt) (t:Txt):Int:=match ls.findIdx? (· == t) with|some i=>(i:Int)|none => -1
theorem Ynm {ls:List Txt} {t:Txt} (h:∀ (j:Nat) (l:Txt),ls[j]? = some l->(l == t)=false):ls.findIdx? (· == t)=none:=by
 rw [List.findIdx?_eq_none_iff]
 intro r hr
 obtain ⟨j,hj⟩:=List.getElem?_of_mem hr
 exact h j r hj
theorem Ynl {ls:List Txt} {t:Txt} {k:Nat} {r:Txt} (hk:ls[k]? = some r) (hx:(r == t)=true) (h:∀ (j:Nat) (l:Txt),j<k->ls[j]? = some l->(l == t)=false):ls.findIdx? (· == t)=some k:=by
 rw [List.findIdx?_eq_some_iff_getElem]
 obtain ⟨hlt,e⟩:=List.getElem?_eq_some_iff.1 hk
 refine ⟨hlt,by rw [e];exact hx,fun j hj => ?_⟩
 have:=h j _ hj (List.getElem?_eq_getElem (Nat.lt_trans hj hlt))
 rw [this];simp
theorem Ynn {ls:List Txt} {t:Txt} {k:Nat} {r:Txt} (hk:ls[k]? = some r) (hx:(r == t)=false) (h:∀ (j:Nat) (l:Txt),j<k->ls[j]? = some l->(l == t)=false):∀ (j:Nat) (l:Txt),j<k+1->ls[j]? = some l->(l == t)=false:=by
 intro j q hj hq
 by_cases e:j=k
 · subst e
   rw [hk] at hq;injection hq with hq;subst hq;exact hx
 · exact h j q (by omega) hq
theorem Zol (ls:List Txt) (t:Txt) (p:Option Addr) (cc:Nat) (w:World) (h:Ydu w p ls) (hn:ls.length<=1000000):Calls Tryz.prog 34 #[.slice p ls.length cc,.string (bs t)] w fun e w'=>e = .returned (.int .i64 (Zmd ls t))/\w.grownBy w' none:=by
 have HT:=Hq h
 clear h
 go_enter Tryz.func34,Tryz.ntmps34
 go_wp2
 go_loopw [5] (fun i wr=>∃ k:Nat,i = .int .i64 k/\k<=ls.length/\(∀ (j:Nat) (l:Txt),j<k->ls[j]? = some l->(l == t)=false)/\w.grownBy wr none) (fun i _=>ls.length - (intOf i).toNat)
 case atStart=>exact ⟨0,rfl,Nat.zero_le _,fun j r hj=>absurd hj (Nat.not_lt_zero _),Zb _ _⟩
 case round =>
  obtain ⟨k,rfl,hk,hall,hg⟩:=hrel
  have AL:=Hq hall
  have GR:=Hq hg
  clear hall hg
  by_cases hlt:k<ls.length
  · obtain ⟨r,hq⟩:∃ q,ls[k]? = some q:=⟨_,List.getElem?_eq_getElem hlt⟩
    obtain ⟨b,o,rfl,hb,hc⟩:=HT.out (by omega)
    have c0:=GR.out.cell (hc k r hq) (by simp)
    have hb2:=Nat.lt_of_lt_of_le hb GR.out.size
    have HQ:=Hq hq
    clear hq hc
    cases he:r == t with
    | true =>
      have HP:=Hq (show Zmd ls t=(k:Int) by unfold Zmd;rw [Ynl HQ.out he AL.out])
      have he2:((bs r).toList == (bs t).toList)=true:=by rw [Jk,Jk];exact he
      go_wp2
      go_ret
      exact ⟨by rw [HP.out];rfl,GR.out⟩
    | false =>
      have AL2:=Hq (Ynn HQ.out he AL.out)
      have he2:((bs r).toList == (bs t).toList)=false:=by rw [Jk,Jk];exact he
      go_wp2
      exact ⟨⟨k+1,by go_num,by omega,AL2.out,GR.out⟩,by simp [intOf];omega⟩
  · have hkn:k=ls.length:=by omega
    subst hkn
    have HP:=Hq (show Zmd ls t = -1 by unfold Zmd;rw [Ynm (fun j r hj=>AL.out j r ((List.getElem?_eq_some_iff.1 hj).1) hj)])
    clear hlt
    go_wp2
    go_ret
    exact ⟨by rw [HP.out];rfl,GR.out⟩
end Go.Proofs.YteciblfmgdlipaaGreatDoor.AS
