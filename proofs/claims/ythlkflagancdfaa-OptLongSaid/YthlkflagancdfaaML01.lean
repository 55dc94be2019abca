/-
  Part of a proof: contracts of functions and lemmas, each stated by its own theorem. Conditions: as each theorem states.
-/
import Derived.Test.YthlkflagancdfaaML00
import Derived.Laws.Closers25b
import Derived.Deep.QuietTactic
import Derived.BigQuiet
set_option linter.unusedSimpArgs false
set_option linter.unusedVariables false
set_option maxRecDepth 100000
set_option maxHeartbeats 16000000
namespace Go.Proofs.Ythlkflagancdfaa.CK
open Go.RowKit Go.Great
def Zrz (w:World) (E Bw:Nat) (vb:Value) (n:Nat) (e:Ending) (w':World):Prop:=e = .returned (.tuple #[])/\∃ v' m xs,1<=m/\m<=9/\(∀ u∈xs,u.oneCell'=true)/\Znw w w' E Bw vb v' (n+m) xs
theorem Zmf {w:World} {base g n c:Nat} {xs:List Value} {e:TypeId} (h:w.ownsRow base e 1 (.slice (some ⟨g,0,none⟩) n c) n xs):xs.length=n:=by have:=h.1;omega
theorem Zqs {w w1:World} {E Bw n:Nat} {vb:Value} {xs:List Value} (h:MwAt w E Bw vb n xs) (g:w.grownBy w1 none):MwAt w1 E Bw vb n xs :=
 ⟨Zb h.box g (by simp),h.row.kept g (Classical.em _),h.lt,Nat.le_trans h.le g.size⟩
theorem Yfk {w w1 w2:World} {E Bw n:Nat} {vb v':Value} {xs:List Value} (h:Znw w1 w2 E Bw vb v' n xs) (g:w.grownBy w1 none):Znw w w2 E Bw vb v' n xs :=
 ⟨h.at_,Xc (Yl (P:=MwP Bw vb) g (by simp)) h.sp (fun _ _ h=>h),h.hat.imp id fun ⟨k,h1,h2⟩=>⟨k,h1,Nat.le_trans g.size h2⟩⟩
theorem Zdg (E Bw:Nat) (vb:Value) (n:Nat) (xs:List Value) (hx:∀ u∈xs,u.oneCell'=true) (a:Int) (ha:0<=a) (ha2:a<9223372036854775808) (hn:n+9<=4194304) (w:World) (hM:MwAt w E Bw vb n xs) :
 Calls Try.prog 61 #[.pointer (some ⟨Bw,0,none⟩),.int .i64 a] w (Zrz w E Bw vb n):=by
 have MW:=Hq hM
 have F:=Hq (Zzq a ha (by omega) w)
 clear hM
 go_enter Try.func61,Try.ntmps61
 go_wp2_with (first
  | (go_at_call 80;refine F.out.mono ?_;rintro e w1 ⟨g,m,c,ys,rfl,hm1,hm9,hown,ho1,hg⟩;have OW:=Hq hown;have HO:=Hq ho1;have GW:=Hq hg;have AD:=Hq (Yjg E Bw w1.heap.size g m c vb n xs ys (w1.alloc (.cells #[.slice (some ⟨g,0,none⟩) m c] 22)) (Zyx (Zqs MW.out hg) _) (by rw [World.cell?_alloc_at (hn:=rfl)];rfl) (Zmf hown) (fun j u hu=>((hown.alloc _).cells rfl) j u hu) ho1 (by omega) hm1);clear hown hg ho1)
  | (go_at_call 79;refine AD.out.mono ?_;rintro e w2 ⟨rfl,v2,hf⟩;have FN:=Hq (Yfk hf (Za GW.out (Ga _ _ none)));clear hf))
 go_end0
 exact ⟨rfl,_,_,_,hm1,hm9,fun u hu=>(List.mem_append.1 hu).elim (hx u) (HO.out u),FN.out⟩
theorem Zmv (E Bw:Nat) (vb:Value) (n:Nat) (xs:List Value) (hx:∀ u∈xs,u.oneCell'=true) (a:Int) (hn:n+9<=4194304) (w:World) (hM:MwAt w E Bw vb n xs) :
 Calls Try.prog 74 #[.pointer (some ⟨Bw,0,none⟩),.int .i64 a] w (Zrz w E Bw vb n):=by
 have MW:=Hq hM
 have F:=Hq (Zzq · · · w)
 clear hM
 go_enter Try.func74,Try.ntmps74
 go_wp2_with (first
  | (go_at_call 80;refine (F.out _ (bits_lo_u64 _ _ _) (Int.lt_of_le_sub_one (bits_hi_u64 _ _ _))).mono ?_;rintro e w1 ⟨g,m,c,ys,rfl,hm1,hm9,hown,ho1,hg⟩;have OW:=Hq hown;have HO:=Hq ho1;have GW:=Hq hg;have AD:=Hq (Yjg E Bw w1.heap.size g m c vb n xs ys (w1.alloc (.cells #[.slice (some ⟨g,0,none⟩) m c] 22)) (Zyx (Zqs MW.out hg) _) (by rw [World.cell?_alloc_at (hn:=rfl)];rfl) (Zmf hown) (fun j u hu=>((hown.alloc _).cells rfl) j u hu) ho1 (by omega) hm1);clear hown hg ho1)
  | (go_at_call 79;refine AD.out.mono ?_;rintro e w2 ⟨rfl,v2,hf⟩;have FN:=Hq (Yfk hf (Za GW.out (Ga _ _ none)));clear hf))
 go_end0
 exact ⟨rfl,_,_,_,hm1,hm9,fun u hu=>(List.mem_append.1 hu).elim (hx u) (HO.out u),FN.out⟩
theorem Yrb (w:World):Calls Try.prog 57 #[] w fun e w'=>e = .returned (.pointer (some ⟨w.heap.size,0,none⟩))/\w'=w.alloc (.cells #[.slice none 0 0,.int .i64 0] 131):=by
 go_enter Try.func57,Try.ntmps57
 go_wp2
 go_ret
 exact ⟨rfl,rfl⟩
def Ynz (w:World) (e:Ending) (w':World):Prop:=∃ v,e = .returned (.tuple #[v,.int .i64 0])/\w.grownBy w' none
theorem Yin (p:Option Addr) (n c:Nat) (xs:List Value) (E:Nat) (w:World) (h:w.ownsRow E 5 1 (.slice p n c) n xs) (hx:∀ u∈xs,u.oneCell'=true) (hn:n<=4194304) :
 Calls Try.prog 27 #[.slice p n c] w fun e w'=>(∃ v,e = .returned v)/\w.grownBy w' none:=by
 go_enter Try.func27,Try.ntmps27
 obtain ⟨bi,bi0,bi1,bi2,bi3⟩:=info_parts Znj
 have hc3:0+n<=maxLen:=by unfold maxLen;omega
 have hc4:(0+n)*1<=140737488355328:=by omega
 rcases h.2 with ⟨e0,rfl⟩|⟨g,cap,cur,e0,-⟩
 · injection e0 with e1 e2 e3
   subst e1;subst e3
   have hq:=fun W=>Lib.run_eql_slice_nil (P:=Try.prog) W 22 5 none 0 0 0 0 Ziy
   go_wp2
   go_ret
   exact ⟨⟨_,rfl⟩,Zc _ _⟩
 · injection e0 with e1 e2 e3
   subst e1;subst e3
   have HC:=Hq (h.alloc (.cells #[] 5))
   have O0:=Hq (World.ownsRow_lit (base:=w.heap.size) (e:=5) (size:=1) w #[] 0 (Nat.le_refl _) (by decide) rfl)
   have hl:=Zmf h
   have hq:=fun W=>Lib.run_eql_slice_nil (P:=Try.prog) W 22 5 (some ⟨g,0,none⟩) n c 0 0 Ziy
   clear h
   go_wp2_with (at_builtin;refine wpList_append_own_at _ rfl _ _ 22 rfl w.heap.size 5 bi (.int .u8 0) 1 1 Ziy bi0 bi1 bi2 bi3 rfl (by decide) (.slice (some ⟨w.heap.size,0,none⟩) 0 0) _ _ rfl O0.out ⟨g,0,none⟩ n c xs rfl (by omega) (fun j u hu=>(HC.out.cells rfl) j u hu) hx hc3 hc4 (by simp) ?_;intro v3 w3 hown3 hgr3 hnil3 hat3;obtain ⟨p3,k3,hv3⟩:=Zq hown3;subst hv3;have OW3:=Hq hown3;have GR3:=Hq hgr3;clear hown3 hgr3 hnil3 hat3)
   go_ret
   exact ⟨⟨_,rfl⟩,Yu (Ga w _ none) GR3.out fun k hk=>(O0.out.lt k hk).1⟩
theorem Yne (E Bw:Nat) (vb:Value) (n:Nat) (xs:List Value) (hx:∀ u∈xs,u.oneCell'=true) (hn:n<=4194304) (w:World) (hM:MwAt w E Bw vb n xs) :
 Calls Try.prog 62 #[.pointer (some ⟨Bw,0,none⟩)] w (Ynz w):=by
 obtain ⟨pb,cb,rfl⟩:=Zq hM.row
 have c0:=Cq w Bw 0 _ _ _ hM.box
 have c1:=Cq w Bw 1 _ _ _ hM.box
 have C:=Hq (Yin pb n cb xs E w hM.row hx hn)
 clear hM
 go_enter Try.func62,Try.ntmps62
 go_wp2_with (go_at_call 27;refine C.out.mono ?_;rintro e w1 ⟨⟨v,rfl⟩,hg⟩;have GW:=Hq hg;clear hg)
 go_ret2
 exact ⟨_,rfl,GW.out⟩
def bK (k:Nat):Int:=match k with|2=>64|3=>4096|4=>64|5=>5|_=>256
def Zvs (k:Nat) (a:Int):Bool:=if k=0 then a == 0 else if k=1 then true else decide (0<=a) && decide (a<bK k)
def Zro:List (Int × Int)->Int
 | []=>0
 | x::r=>match Jx x.1 with
   | none=>111
   | some s=>if Zvs s.2.1.toNat x.2=true then Zro r else 112
theorem Yhy {l:List (Int × Int)} {i:Nat} {op a:Int} (h:l[i]? = some (op,a)):Zro (l.drop i)=match Jx op with
 | none=>111
 | some s=>if Zvs s.2.1.toNat a=true then Zro (l.drop (i+1)) else 112:=by
 obtain ⟨hi,he⟩:=List.getElem?_eq_some_iff.1 h
 rw [List.drop_eq_getElem_cons hi,he]
 rfl
def Ji (w:World) (B:Nat) (p:Option Addr) (l:List (Int × Int)):Prop:=0<l.length->∃ b o:Nat,p=some ⟨b,o,none⟩/\b<B/\∀ i op a,l[i]? = some (op,a)->w.cell? ⟨b,o+i*2,none⟩=some (.int .i64 op)/\w.cell? ⟨b,o+i*2+1,none⟩=some (.int .i64 a)
theorem Xh {w w':World} {row:Option Nat} {B:Nat} {p:Option Addr} {l:List (Int × Int)} (h:Ji w B p l) (g:w.grownBy w' row) (hr:∀ r,row=some r->B<=r):Ji w' B p l:=fun h0=>by
 obtain ⟨b,o,e,hb,hc⟩:=h h0
 refine ⟨b,o,e,hb,fun i op a hi => ?_⟩
 obtain ⟨h1,h2⟩:=hc i op a hi
 exact ⟨Xw g hr hb h1,Xw g hr hb h2⟩
def KC (k:Nat) (a b c:Value) (w:World) (Bw E:Nat):Prop :=
 (k=0/\a = .func (.func 70) #[] #[]/\b = .func (.func 71) #[] #[]/\c = .func (.func 72) #[] #[]) \/
 (k=1/\a = .func (.func 73) #[] #[]/\b = .func (.func 74) #[] #[]/\c = .func (.func 75) #[] #[]) \/
 (2<=k/\∃ bb,a = .func (.func 89) #[] #[.pointer (some ⟨bb,0,none⟩)]/\b = .func (.func 61) #[] #[]/\c = .func (.func 90) #[] #[]/\Bw<bb/\bb<E/\w.cell? ⟨bb,0,none⟩=some (.int .i64 (bK k)))
def Zsd (w:World) (Bw E K:Nat):Prop:=Bw<K/\K<E/\∀ k,k<7->∃ a b c,KC k a b c w Bw E/\w.cell? ⟨K,k*3,none⟩=some a/\w.cell? ⟨K,k*3+1,none⟩=some b/\w.cell? ⟨K,k*3+2,none⟩=some c
theorem Zip {w:World} {lo Bw k:Nat} {n:Int} {a b c:Value} (h:Zbq lo n (.agg #[a,b,c]) w) (hB:Bw<lo) (hk:2<=k) (hn:n=bK k) {E:Nat} (hE:w.heap.size<=E):KC k a b c w Bw E:=by
 obtain ⟨bb,e,hl,hc⟩:=h
 injection e with e
 injection e with e
 injection e with e1 e
 injection e with e2 e
 injection e with e3 e
 subst e1;subst e2;subst e3;subst hn
 exact Or.inr (Or.inr ⟨hk,bb,rfl,rfl,rfl,by omega,Nat.lt_of_lt_of_le (World.block_lt_of_cell? _ _ hc) hE,hc⟩)
theorem Ybr {w:World} {lo Bw K:Nat} (h:Zgl w lo K) (hB:Bw<lo) {E:Nat} (hE:w.heap.size<=E):Zsd w Bw E K:=by
 refine ⟨Nat.lt_of_lt_of_le hB h.2.1,Nat.lt_of_lt_of_le h.1 hE,fun k hk => ?_⟩
 obtain ⟨a,b,c,h1,h2⟩:=h.2.2 k hk
 refine ⟨a,b,c,?_,h2⟩
 match k,hk,h1 with
 | 0,_,h1=>injection h1 with e;injection e with e;injection e with e1 e;injection e with e2 e;injection e with e3 e;exact Or.inl ⟨rfl,e1,e2,e3⟩
 | 1,_,h1=>injection h1 with e;injection e with e;injection e with e1 e;injection e with e2 e;injection e with e3 e;exact Or.inr (Or.inl ⟨rfl,e1,e2,e3⟩)
 | 2,_,h1=>exact Zip h1 hB (by decide) rfl hE
 | 3,_,h1=>exact Zip h1 hB (by decide) rfl hE
 | 4,_,h1=>exact Zip h1 hB (by decide) rfl hE
 | 5,_,h1=>exact Zip h1 hB (by decide) rfl hE
 | 6,_,h1=>exact Zip h1 hB (by decide) rfl hE
theorem Xbk {P:Nat->Prop} {k:Nat} {a b c:Value} {w w':World} {Bw E:Nat} (h:KC k a b c w Bw E) (g:Sp P w w') (hp:∀ j,Bw<j->j<E->¬ P j):KC k a b c w' Bw E:=by
 rcases h with h|h|⟨h1,bb,e1,e2,e3,h2,h3,h4⟩
 · exact Or.inl h
 · exact Or.inr (Or.inl h)
 · exact Or.inr (Or.inr ⟨h1,bb,e1,e2,e3,h2,h3,Zfs h4 g (hp _ h2 h3)⟩)
theorem Zpe {P:Nat->Prop} {w w':World} {Bw E K:Nat} (h:Zsd w Bw E K) (g:Sp P w w') (hp:∀ j,Bw<j->j<E->¬ P j):Zsd w' Bw E K:=by
 obtain ⟨h1,h2,h3⟩:=h
 refine ⟨h1,h2,fun k hk => ?_⟩
 obtain ⟨a,b,c,q1,q2,q3,q4⟩:=h3 k hk
 exact ⟨a,b,c,Xbk q1 g hp,Zfs q2 g (hp _ h1 h2),Zfs q3 g (hp _ h1 h2),Zfs q4 g (hp _ h1 h2)⟩
structure EncS (w0 wr:World) (E Bw S K n:Nat) (vb:Value) (xs:List Value):Prop where
 gr:w0.grownBy wr none
 bw:w0.heap.size<=Bw
 mw:MwAt wr E Bw vb n xs
 sh:Zja wr S
 s1:Bw<S
 s2:S<E
 kd:Zsd wr Bw E K
 one:∀ u∈xs,u.oneCell'=true
theorem Zph {w0 wr w':World} {E Bw S K n:Nat} {vb:Value} {xs:List Value} (h:EncS w0 wr E Bw S K n vb xs) (g:wr.grownBy w' none):EncS w0 w' E Bw S K n vb xs :=
 ⟨Za h.gr g,h.bw,Zqs h.mw g,Zia h.sh g (by simp),h.s1,h.s2,Zpe (P:=fun _=>False) h.kd (Yl g (by simp)) (fun _ _ _ h=>h),h.one⟩
theorem Zld {w0 wr w':World} {E Bw S K n m:Nat} {vb v':Value} {xs ys:List Value} (h:EncS w0 wr E Bw S K n vb xs) (f:Znw wr w' E Bw vb v' m ys) (hy:∀ u∈ys,u.oneCell'=true):EncS w0 w' E Bw S K m v' ys:=by
 have hbw:=h.bw
 have hlt:=h.mw.lt
 have hP:∀ j,Bw<j->j<E->¬ MwP Bw vb j:=by
  intro j h1 h2 h3
  rcases h3 with h3|h3
  · omega
  · have:=(h.mw.row.lt j h3).1;omega
 refine ⟨⟨f.sp.os.trans h.gr.os,f.sp.tape.trans h.gr.tape,f.sp.output.trans h.gr.output,Nat.le_trans h.gr.size f.sp.size,fun k hk hn => ?_⟩,hbw,f.at_,⟨Nat.lt_of_lt_of_le h.sh.1 f.sp.size,fun i v hi=>Zfs (h.sh.2 i v hi) f.sp (hP _ h.s1 h.s2)⟩,h.s1,h.s2,Zpe h.kd f.sp hP,hy⟩
 rw [f.sp.block k (Nat.lt_of_lt_of_le hk h.gr.size) ?_]
 · exact h.gr.block k hk hn
 · rintro (e|e)
   · omega
   · have:=(h.mw.row.lt k e).1;omega
theorem Yaw:∀ x∈shapeT,0<=x.2.1/\x.2.1<7:=by
 intro x hx
 simp only [shapeT,List.mem_cons,List.not_mem_nil,or_false] at hx
 rcases hx with rfl|rfl|rfl|rfl|rfl|rfl|rfl|rfl|rfl|rfl|rfl|rfl|rfl|rfl|rfl|rfl|rfl|rfl|rfl|rfl|rfl|rfl|rfl|rfl|rfl|rfl|rfl|rfl|rfl|rfl|rfl|rfl|rfl|rfl|rfl|rfl|rfl|rfl|rfl|rfl|rfl|rfl|rfl|rfl|rfl|rfl <;> exact ⟨by decide,by decide⟩
theorem Zil (a:Int) (w:World):Calls Try.prog 70 #[.int .i64 a] w fun e w'=>e = .returned (.bool (a == 0))/\w'=w:=by
 go_enter Try.func70,Try.ntmps70
 go_wp2
 go_ret
 exact ⟨rfl,rfl⟩
theorem Zmk (a:Int) (w:World):Calls Try.prog 73 #[.int .i64 a] w fun e w'=>e = .returned (.bool true)/\w'=w:=by
 go_enter Try.func73,Try.ntmps73
 go_wp2
 go_ret
 exact ⟨rfl,rfl⟩
theorem Zga (a n:Int) (bb:Nat) (w:World) (h:w.cell? ⟨bb,0,none⟩=some (.int .i64 n)):Calls Try.prog 89 #[.int .i64 a,.pointer (some ⟨bb,0,none⟩)] w fun e w'=>e = .returned (.bool (decide (0<=a) && decide (a<n)))/\w'=w:=by
 by_cases h1:0<=a
 · go_enter Try.func89,Try.ntmps89
   go_wp2
   go_ret
   exact ⟨by simp [h1],rfl⟩
 · go_enter Try.func89,Try.ntmps89
   go_wp2
   go_ret
   exact ⟨by simp [h1];omega,rfl⟩
theorem Zih (p:Option Addr) (a:Int) (w:World):Calls Try.prog 71 #[.pointer p,.int .i64 a] w fun e w'=>e = .returned (.tuple #[])/\w'=w:=by
 go_enter Try.func71,Try.ntmps71
 go_wp2
 go_end0
 exact ⟨rfl,rfl⟩
theorem Zsw {op:Int} {nm:ByteArray} {o t g:Int} (h:Jx op=some (nm,o,t,g)):∃ k:Nat,o=k/\k<7/\0<=op/\op<46:=by
 by_cases hop:0<=op/\op<46
 · obtain ⟨n,x,rfl,hn,hx,hs⟩:=Zft hop
   rw [h] at hs
   injection hs with hs
   subst hs
   obtain ⟨h0,h7⟩:=Yaw _ (List.mem_of_getElem? hx)
   obtain ⟨k,hk⟩:=Int.eq_ofNat_of_zero_le h0
   simp only [] at hk h7
   exact ⟨k,hk,by omega,hop.1,hop.2⟩
 · rw [Zfu hop] at h;cases h
def Xcc (w:World) (E Bw:Nat) (vb:Value) (n:Nat) (e:Ending) (w':World):Prop:=e = .returned (.tuple #[])/\∃ v' m xs,m<=9/\(∀ u∈xs,u.oneCell'=true)/\Znw w w' E Bw vb v' (n+m) xs
theorem Zdx {w w':World} {E Bw n:Nat} {vb:Value} {e:Ending} (h:Zrz w E Bw vb n e w'):Xcc w E Bw vb n e w':=by
 obtain ⟨h1,v',m,xs,_,h3,h4,h5⟩:=h;exact ⟨h1,v',m,xs,h3,h4,h5⟩
theorem Zfw {w:World} {E Bw n:Nat} {vb:Value} {xs:List Value} (h:MwAt w E Bw vb n xs) (hx:∀ u∈xs,u.oneCell'=true):Xcc w E Bw vb n (.returned (.tuple #[])) w :=
 ⟨rfl,vb,0,xs,by omega,hx,h,Zpx _ _,Or.inl rfl⟩
theorem Zyw {w w':World} {E Bw n m:Nat} {vb v':Value} {xs ys:List Value} (h:MwAt w E Bw vb n xs) (f:Znw w w' E Bw vb v' m ys) {b:Nat} {ob:Obj} (hb:w.heap[b]? = some ob) (hE:E<=b) (hv:∀ k,vb.ownBlock=some k->k<b):w'.heap[b]? = some ob:=by
 rw [f.sp.block b (Gs hb) ?_]
 · exact hb
 · rintro (e|e)
   · have:=h.lt;omega
   · have:=hv b e;omega
theorem Znb {w wr w4 w6:World} {E Bw S K n m:Nat} {vb v6:Value} {xs ys:List Value} {ob8 o9 o11:Obj} (h:EncS w wr E Bw S K n vb xs) (g:wr.grownBy w4 none) (hx:w4.heap[wr.heap.size]? = some ob8)
 (f:Znw ((w4.alloc o9).alloc o11) w6 E Bw vb v6 m ys) (hy:∀ u∈ys,u.oneCell'=true):EncS w w6 E Bw S K m v6 ys/\w6.heap[wr.heap.size]? = some ob8/\w6.heap[w4.heap.size+1]? = some o11:=by
 have g2:=Za g (Za (Ga w4 o9 none) (Ga _ o11 none))
 have h2:=Zph h g2
 have hle:=h.mw.le
 have hsz:=g.size
 refine ⟨Zld h2 f hy,Zyw h2.mw f (Zb (Zb hx (Ga w4 o9 none) (by simp)) (Ga _ o11 none) (by simp)) hle (fun k hk=>(h.mw.row.lt k hk).2),Zyw h2.mw f (Yi w4 o9 o11) (by omega) (fun k hk=>by have:=(h.mw.row.lt k hk).2;omega)⟩
theorem Xbq (k:Nat):bK k<=4096:=by unfold bK;split <;> decide
def Zxn (l:List (Int × Int)):Int:=if 4096<l.length then 2 else Zro l
def Yto (w:World) (l:List (Int × Int)) (e:Ending) (w':World):Prop:=∃ v,e = .returned (.tuple #[v,.int .i64 (Zxn l)])/\w.grownBy w' none
theorem Ycb (l:List (Int × Int)) (p:Option Addr) (c B:Nat) (w:World) (hB:B<=w.heap.size) (hC:Ji w B p l) :
 Calls Try.prog 37 #[.slice p l.length c] w (Yto w l):=by
 have CC:=Hq hC
 clear hC
 by_cases h4:(4096:Int)<(l.length:Int)
 · have hE:Zxn l=2:=by unfold Zxn;rw [if_pos (by omega)]
   go_enter Try.func37,Try.ntmps37
   go_wp2
   go_ret2
   exact ⟨.slice none 0 0,by rw [hE];rfl,Zc _ _⟩
 · have hE:Zxn l=Zro l:=by unfold Zxn;rw [if_neg (by omega)]
   have N:=Hq Yrb
   have KO:=Hq Zdp
   have SH:=Hq Zof
   go_enter Try.func37,Try.ntmps37
   go_wp2_with (first
    | (go_at_call 57;refine (N.out _).mono ?_;rintro e w1 ⟨rfl,rfl⟩)
    | (go_at_call 58;refine (KO.out _).mono ?_;rintro e w2 ⟨K,rfl,hg2,hk2⟩;have G2:=Hq hg2;have K2:=Hq hk2;clear hg2 hk2)
    | (go_at_call 59;refine (SH.out _).mono ?_;rintro e w3 ⟨S,rfl,hg3,hS,hs3⟩;have G3:=Hq hg3;have S3:=Hq hs3;clear hg3 hs3))
   have ES:=Hq (EncS.mk (Za (Za (Ga w _ none) G2.out) G3.out) (Nat.le_refl _) (MwAt.mk (Zb (Zb (heap_alloc_new w _) G2.out (by simp)) G3.out (by simp)) (World.ownsRow_nil _ _ _ _) (by have:=S3.out.1;have:=G2.out.size;simp at this;omega) (Nat.le_refl _)) S3.out (by have:=G2.out.size;simp at this;omega) S3.out.1 (Ybr (Bw:=w.heap.size) (Zke K2.out G3.out) (by simp) (Nat.le_refl _)) (by simp):EncS w w3 w3.heap.size w.heap.size S K 0 (.slice none 0 0) [])
   have hEw:w.heap.size<w3.heap.size:=ES.out.mw.lt
   generalize w3.heap.size=E at *
   clear K2 S3 hS G2
   go_loopw [20] (fun i wr=>∃ (k n:Nat) (vb:Value) (xs:List Value),i = .int .i64 k/\k<=l.length/\n<=18*k/\Zro l=Zro (l.drop k)/\EncS w wr E w.heap.size S K n vb xs) (fun i _=>l.length - (intOf i).toNat)
   case atStart=>exact ⟨0,0,_,_,rfl,Nat.zero_le _,Nat.le_refl _,rfl,ES.out⟩
   case round =>
    obtain ⟨k,n,vb,xs,rfl,hk,hn,he,hes⟩:=hrel
    have HE:=Hq he
    have ER:=Hq hes
    clear he hes
    by_cases hlt:(k:Int)<(l.length:Int)
    · obtain ⟨⟨op,a⟩,hg⟩:∃ x,l[k]? = some x:=⟨_,List.getElem?_eq_getElem (by omega)⟩
      obtain ⟨b,o,rfl,hb,hc⟩:=CC.out (by omega)
      obtain ⟨c0,c1⟩:=hc k op a hg
      replace c0:=Xw ER.out.gr (B:=B) (by simp) hb c0
      replace c1:=Xw ER.out.gr (B:=B) (by simp) hb c1
      have hb2:b<wr.heap.size:=by have:=ER.out.gr.size;omega
      have hd:=Yhy hg
      have R:=Hq (Zsv op S (wr.alloc (.cells #[.int .i64 op,.int .i64 a] 49)) (Zia ER.out.sh (Ga _ _ none) (by simp)))
      clear hc
      cases hs:Jx op with
      | none =>
        rw [hs] at hd R
        simp only [] at hd
        simp only [Zog] at R
        have HR:=Hq (hE.trans (HE.out.trans hd))
        clear hd hg
        go_wp2_with (go_at_call 60;refine R.out.mono ?_;rintro e w4 ⟨rfl,hg4⟩;have G4:=Hq hg4;clear hg4)
        go_ret2
        exact ⟨.slice none 0 0,by rw [HR.out];rfl,Za ER.out.gr (Za (Ga _ _ none) (Za G4.out (Ga _ _ none)))⟩
      | some s =>
        obtain ⟨nm,ok,tk,gk⟩:=s
        obtain ⟨kd,rfl,hk7,ho0,ho46⟩:=Zsw hs
        rw [hs] at hd R
        simp only [Int.toNat_natCast] at hd
        simp only [Zog] at R
        obtain ⟨ka,kb,kc,hkc,q0,q1,q2⟩:=ER.out.kd.2.2 kd hk7
        have hKB:=ER.out.kd.1
        have hKE:=ER.out.kd.2.1
        have hKw:K<wr.heap.size:=by have:=ER.out.mw.le;omega
        have hki:(kd:Int)<7:=by omega
        have HD:=Hq hd
        have HKC:=Hq hkc
        have MV:=Hq (show ∀ W,wr.grownBy W none->W.cell? ⟨K,kd*3,none⟩=some ka/\W.cell? ⟨K,kd*3+1,none⟩=some kb/\W.cell? ⟨K,kd*3+2,none⟩=some kc from fun W g=>⟨g.cell q0 (by simp),g.cell q1 (by simp),g.cell q2 (by simp)⟩)
        have BV:=Hq (show ∀ (W:World) (bb:Nat),wr.grownBy W none->wr.cell? ⟨bb,0,none⟩=some (.int .i64 (bK kd))->W.cell? ⟨bb,0,none⟩=some (.int .i64 (bK kd)) from fun W bb g h=>g.cell h (by simp))
        have NU:=Hq (show ∀ W,wr.grownBy W none->Calls Try.prog 61 #[.pointer (some ⟨w.heap.size,0,none⟩),.int .i64 op] W (Zrz W E w.heap.size vb n) from fun W g=>Zdg E w.heap.size vb n xs ER.out.one op ho0 (by omega) (by omega) W (Zph ER.out g).mw)
        clear hd hkc q0 q1 q2 hs hg
        rcases HKC.out with ⟨hk0,rfl,rfl,rfl⟩|⟨hk0,rfl,rfl,rfl⟩|⟨hk0,bb,rfl,rfl,rfl,hb1,hb2',hbc⟩
        · by_cases hm:(a == 0)=true
          · have hd2:=HD.out
            rw [if_pos (show Zvs kd a=true by unfold Zvs;rw [if_pos hk0];exact hm)] at hd2
            have H2:=Hq (HE.out.trans hd2)
            clear hd2 HKC hk0
            (
              go_wp2_with (first
               | (go_at_call 60;refine R.out.mono ?_;rintro e w4 ⟨rfl,hg4⟩;have G4:=Hq (Za (Ga wr _ none) hg4);have m4:=MV.out w4 G4.out;obtain ⟨m0,m1,m2⟩:=m4;have hKw4:K<w4.heap.size:=Nat.lt_of_lt_of_le hKw G4.out.size;have X8:=Hq (Zb (heap_alloc_new wr (.cells #[.int .i64 op,.int .i64 a] 49)) hg4 (by simp));have x81:=Cq w4 _ 1 _ _ _ X8.out;have x80:=Cq w4 _ 0 _ _ _ X8.out;have hl8:wr.heap.size<w4.heap.size:=(Gs X8.out);clear hg4 R)
               | (go_at_call 70;refine (Zil _ _).mono ?_;rintro e w5 ⟨rfl,rfl⟩;rw [hm])
               | (go_at_call 73;refine (Zmk _ _).mono ?_;rintro e w5 ⟨rfl,rfl⟩)
               | (go_at_call 89;refine (Zga _ _ _ _ (BV.out _ _ (Za G4.out (Za (Ga _ _ _) (Ga _ _ _))) hbc)).mono ?_;rintro e w5 ⟨rfl,rfl⟩;rw [hm])
               | (go_at_call 61;refine (NU.out _ (Za G4.out (Za (Ga _ _ _) (Ga _ _ _)))).mono ?_;rintro e w6 ⟨rfl,v6,j6,ys6,h61,h69,ho6,f6⟩;have EM:=Znb ER.out G4.out X8.out f6 ho6;obtain ⟨t1,t2,t3⟩:=EM;have E6:=Hq t1;have O6:=Hq ho6;clear NU x81 x80 hl8 m0 m1 m2 hKw4;have y81:=Cq w6 _ 1 _ _ _ t2;have y111:=Cq w6 _ 1 _ _ _ t3;have hl8:wr.heap.size<w6.heap.size:=(Gs t2);have hl11:w4.heap.size+1<w6.heap.size:=(Gs t3);clear t1 t2 t3 f6 ho6)
               | (go_at_call 71;refine (Zih _ _ _).mono ?_;rintro e w7 ⟨rfl,rfl⟩;have P7:=Hq (Zfw E6.out.mw E6.out.one))
               | (go_at_call 74;refine (Zmv _ _ _ _ _ E6.out.one _ (by omega) _ E6.out.mw).mono ?_;intro e w7 hp7;have P7:=Hq (Zdx hp7);have he7:=hp7.1;subst he7;clear hp7)
               | (go_at_call 61;refine (Zdg _ _ _ _ _ E6.out.one _ HA.out.1 HA.out.2 (by omega) _ E6.out.mw).mono ?_;intro e w7 hp7;have P7:=Hq (Zdx hp7);have he7:=hp7.1;subst he7;clear hp7)))
            (
              obtain ⟨-,v7,m7,xs7,h7,ho7,f7⟩:=P7.out
              exact ⟨⟨k+1,n+j6+m7,v7,xs7,by go_num,by omega,by omega,H2.out,Zld E6.out f7 ho7⟩,by simp [intOf];omega⟩)
          · replace hm:(a == 0)=false:=by simpa using hm
            have hd2:=HD.out
            rw [if_neg (show ¬ Zvs kd a=true by unfold Zvs;rw [if_pos hk0,hm];simp)] at hd2
            have H2:=Hq (hE.trans (HE.out.trans hd2))
            clear hd2 HKC hk0
            (
              go_wp2_with (first
               | (go_at_call 60;refine R.out.mono ?_;rintro e w4 ⟨rfl,hg4⟩;have G4:=Hq (Za (Ga wr _ none) hg4);have m4:=MV.out w4 G4.out;obtain ⟨m0,m1,m2⟩:=m4;have hKw4:K<w4.heap.size:=Nat.lt_of_lt_of_le hKw G4.out.size;have X8:=Hq (Zb (heap_alloc_new wr (.cells #[.int .i64 op,.int .i64 a] 49)) hg4 (by simp));have x81:=Cq w4 _ 1 _ _ _ X8.out;have x80:=Cq w4 _ 0 _ _ _ X8.out;have hl8:wr.heap.size<w4.heap.size:=(Gs X8.out);clear hg4 R)
               | (go_at_call 70;refine (Zil _ _).mono ?_;rintro e w5 ⟨rfl,rfl⟩;rw [hm])
               | (go_at_call 73;refine (Zmk _ _).mono ?_;rintro e w5 ⟨rfl,rfl⟩)
               | (go_at_call 89;refine (Zga _ _ _ _ (BV.out _ _ (Za G4.out (Za (Ga _ _ _) (Ga _ _ _))) hbc)).mono ?_;rintro e w5 ⟨rfl,rfl⟩;rw [hm])
               | (go_at_call 61;refine (NU.out _ (Za G4.out (Za (Ga _ _ _) (Ga _ _ _)))).mono ?_;rintro e w6 ⟨rfl,v6,j6,ys6,h61,h69,ho6,f6⟩;have EM:=Znb ER.out G4.out X8.out f6 ho6;obtain ⟨t1,t2,t3⟩:=EM;have E6:=Hq t1;have O6:=Hq ho6;clear NU x81 x80 hl8 m0 m1 m2 hKw4;have y81:=Cq w6 _ 1 _ _ _ t2;have y111:=Cq w6 _ 1 _ _ _ t3;have hl8:wr.heap.size<w6.heap.size:=(Gs t2);have hl11:w4.heap.size+1<w6.heap.size:=(Gs t3);clear t1 t2 t3 f6 ho6)
               | (go_at_call 71;refine (Zih _ _ _).mono ?_;rintro e w7 ⟨rfl,rfl⟩;have P7:=Hq (Zfw E6.out.mw E6.out.one))
               | (go_at_call 74;refine (Zmv _ _ _ _ _ E6.out.one _ (by omega) _ E6.out.mw).mono ?_;intro e w7 hp7;have P7:=Hq (Zdx hp7);have he7:=hp7.1;subst he7;clear hp7)
               | (go_at_call 61;refine (Zdg _ _ _ _ _ E6.out.one _ HA.out.1 HA.out.2 (by omega) _ E6.out.mw).mono ?_;intro e w7 hp7;have P7:=Hq (Zdx hp7);have he7:=hp7.1;subst he7;clear hp7)))
            (
              go_ret2
              exact ⟨.slice none 0 0,by rw [H2.out];rfl,Za ER.out.gr (Za G4.out (Za (Ga _ _ _) (Ga _ _ _)))⟩)
        · have hd2:=HD.out
          rw [if_pos (show Zvs kd a=true by unfold Zvs;rw [if_neg (by omega),if_pos hk0])] at hd2
          have H2:=Hq (HE.out.trans hd2)
          clear hd2 HKC hk0
          (
            go_wp2_with (first
             | (go_at_call 60;refine R.out.mono ?_;rintro e w4 ⟨rfl,hg4⟩;have G4:=Hq (Za (Ga wr _ none) hg4);have m4:=MV.out w4 G4.out;obtain ⟨m0,m1,m2⟩:=m4;have hKw4:K<w4.heap.size:=Nat.lt_of_lt_of_le hKw G4.out.size;have X8:=Hq (Zb (heap_alloc_new wr (.cells #[.int .i64 op,.int .i64 a] 49)) hg4 (by simp));have x81:=Cq w4 _ 1 _ _ _ X8.out;have x80:=Cq w4 _ 0 _ _ _ X8.out;have hl8:wr.heap.size<w4.heap.size:=(Gs X8.out);clear hg4 R)
             | (go_at_call 70;refine (Zil _ _).mono ?_;rintro e w5 ⟨rfl,rfl⟩;rw [hm])
             | (go_at_call 73;refine (Zmk _ _).mono ?_;rintro e w5 ⟨rfl,rfl⟩)
             | (go_at_call 89;refine (Zga _ _ _ _ (BV.out _ _ (Za G4.out (Za (Ga _ _ _) (Ga _ _ _))) hbc)).mono ?_;rintro e w5 ⟨rfl,rfl⟩;rw [hm])
             | (go_at_call 61;refine (NU.out _ (Za G4.out (Za (Ga _ _ _) (Ga _ _ _)))).mono ?_;rintro e w6 ⟨rfl,v6,j6,ys6,h61,h69,ho6,f6⟩;have EM:=Znb ER.out G4.out X8.out f6 ho6;obtain ⟨t1,t2,t3⟩:=EM;have E6:=Hq t1;have O6:=Hq ho6;clear NU x81 x80 hl8 m0 m1 m2 hKw4;have y81:=Cq w6 _ 1 _ _ _ t2;have y111:=Cq w6 _ 1 _ _ _ t3;have hl8:wr.heap.size<w6.heap.size:=(Gs t2);have hl11:w4.heap.size+1<w6.heap.size:=(Gs t3);clear t1 t2 t3 f6 ho6)
             | (go_at_call 71;refine (Zih _ _ _).mono ?_;rintro e w7 ⟨rfl,rfl⟩;have P7:=Hq (Zfw E6.out.mw E6.out.one))
             | (go_at_call 74;refine (Zmv _ _ _ _ _ E6.out.one _ (by omega) _ E6.out.mw).mono ?_;intro e w7 hp7;have P7:=Hq (Zdx hp7);have he7:=hp7.1;subst he7;clear hp7)
             | (go_at_call 61;refine (Zdg _ _ _ _ _ E6.out.one _ HA.out.1 HA.out.2 (by omega) _ E6.out.mw).mono ?_;intro e w7 hp7;have P7:=Hq (Zdx hp7);have he7:=hp7.1;subst he7;clear hp7)))
          (
            obtain ⟨-,v7,m7,xs7,h7,ho7,f7⟩:=P7.out
            exact ⟨⟨k+1,n+j6+m7,v7,xs7,by go_num,by omega,by omega,H2.out,Zld E6.out f7 ho7⟩,by simp [intOf];omega⟩)
        · have hmk:Zvs kd a=(decide (0<=a) && decide (a<bK kd)):=by unfold Zvs;rw [if_neg (by omega),if_neg (by omega)]
          by_cases hm:(decide (0<=a) && decide (a<bK kd))=true
          · have hd2:=HD.out
            rw [if_pos (hmk.trans hm)] at hd2
            have H2:=Hq (HE.out.trans hd2)
            have ha0:0<=a:=by simp at hm;exact hm.1
            have ha1:a<9223372036854775808:=by have:=Xbq kd;simp at hm;omega
            have HA:=Hq (And.intro ha0 ha1)
            clear hd2 HKC hk0 hmk ha0 ha1
            (
              go_wp2_with (first
               | (go_at_call 60;refine R.out.mono ?_;rintro e w4 ⟨rfl,hg4⟩;have G4:=Hq (Za (Ga wr _ none) hg4);have m4:=MV.out w4 G4.out;obtain ⟨m0,m1,m2⟩:=m4;have hKw4:K<w4.heap.size:=Nat.lt_of_lt_of_le hKw G4.out.size;have X8:=Hq (Zb (heap_alloc_new wr (.cells #[.int .i64 op,.int .i64 a] 49)) hg4 (by simp));have x81:=Cq w4 _ 1 _ _ _ X8.out;have x80:=Cq w4 _ 0 _ _ _ X8.out;have hl8:wr.heap.size<w4.heap.size:=(Gs X8.out);clear hg4 R)
               | (go_at_call 70;refine (Zil _ _).mono ?_;rintro e w5 ⟨rfl,rfl⟩;rw [hm])
               | (go_at_call 73;refine (Zmk _ _).mono ?_;rintro e w5 ⟨rfl,rfl⟩)
               | (go_at_call 89;refine (Zga _ _ _ _ (BV.out _ _ (Za G4.out (Za (Ga _ _ _) (Ga _ _ _))) hbc)).mono ?_;rintro e w5 ⟨rfl,rfl⟩;rw [hm])
               | (go_at_call 61;refine (NU.out _ (Za G4.out (Za (Ga _ _ _) (Ga _ _ _)))).mono ?_;rintro e w6 ⟨rfl,v6,j6,ys6,h61,h69,ho6,f6⟩;have EM:=Znb ER.out G4.out X8.out f6 ho6;obtain ⟨t1,t2,t3⟩:=EM;have E6:=Hq t1;have O6:=Hq ho6;clear NU x81 x80 hl8 m0 m1 m2 hKw4;have y81:=Cq w6 _ 1 _ _ _ t2;have y111:=Cq w6 _ 1 _ _ _ t3;have hl8:wr.heap.size<w6.heap.size:=(Gs t2);have hl11:w4.heap.size+1<w6.heap.size:=(Gs t3);clear t1 t2 t3 f6 ho6)
               | (go_at_call 71;refine (Zih _ _ _).mono ?_;rintro e w7 ⟨rfl,rfl⟩;have P7:=Hq (Zfw E6.out.mw E6.out.one))
               | (go_at_call 74;refine (Zmv _ _ _ _ _ E6.out.one _ (by omega) _ E6.out.mw).mono ?_;intro e w7 hp7;have P7:=Hq (Zdx hp7);have he7:=hp7.1;subst he7;clear hp7)
               | (go_at_call 61;refine (Zdg _ _ _ _ _ E6.out.one _ HA.out.1 HA.out.2 (by omega) _ E6.out.mw).mono ?_;intro e w7 hp7;have P7:=Hq (Zdx hp7);have he7:=hp7.1;subst he7;clear hp7)))
            (
              obtain ⟨-,v7,m7,xs7,h7,ho7,f7⟩:=P7.out
              exact ⟨⟨k+1,n+j6+m7,v7,xs7,by go_num,by omega,by omega,H2.out,Zld E6.out f7 ho7⟩,by simp [intOf];omega⟩)
          · replace hm:(decide (0<=a) && decide (a<bK kd))=false:=by simpa only [Bool.not_eq_true] using hm
            have hd2:=HD.out
            rw [if_neg (show ¬ Zvs kd a=true by rw [hmk,hm];simp)] at hd2
            have H2:=Hq (hE.trans (HE.out.trans hd2))
            clear hd2 HKC hk0 hmk
            (
              go_wp2_with (first
               | (go_at_call 60;refine R.out.mono ?_;rintro e w4 ⟨rfl,hg4⟩;have G4:=Hq (Za (Ga wr _ none) hg4);have m4:=MV.out w4 G4.out;obtain ⟨m0,m1,m2⟩:=m4;have hKw4:K<w4.heap.size:=Nat.lt_of_lt_of_le hKw G4.out.size;have X8:=Hq (Zb (heap_alloc_new wr (.cells #[.int .i64 op,.int .i64 a] 49)) hg4 (by simp));have x81:=Cq w4 _ 1 _ _ _ X8.out;have x80:=Cq w4 _ 0 _ _ _ X8.out;have hl8:wr.heap.size<w4.heap.size:=(Gs X8.out);clear hg4 R)
               | (go_at_call 70;refine (Zil _ _).mono ?_;rintro e w5 ⟨rfl,rfl⟩;rw [hm])
               | (go_at_call 73;refine (Zmk _ _).mono ?_;rintro e w5 ⟨rfl,rfl⟩)
               | (go_at_call 89;refine (Zga _ _ _ _ (BV.out _ _ (Za G4.out (Za (Ga _ _ _) (Ga _ _ _))) hbc)).mono ?_;rintro e w5 ⟨rfl,rfl⟩;rw [hm])
               | (go_at_call 61;refine (NU.out _ (Za G4.out (Za (Ga _ _ _) (Ga _ _ _)))).mono ?_;rintro e w6 ⟨rfl,v6,j6,ys6,h61,h69,ho6,f6⟩;have EM:=Znb ER.out G4.out X8.out f6 ho6;obtain ⟨t1,t2,t3⟩:=EM;have E6:=Hq t1;have O6:=Hq ho6;clear NU x81 x80 hl8 m0 m1 m2 hKw4;have y81:=Cq w6 _ 1 _ _ _ t2;have y111:=Cq w6 _ 1 _ _ _ t3;have hl8:wr.heap.size<w6.heap.size:=(Gs t2);have hl11:w4.heap.size+1<w6.heap.size:=(Gs t3);clear t1 t2 t3 f6 ho6)
               | (go_at_call 71;refine (Zih _ _ _).mono ?_;rintro e w7 ⟨rfl,rfl⟩;have P7:=Hq (Zfw E6.out.mw E6.out.one))
               | (go_at_call 74;refine (Zmv _ _ _ _ _ E6.out.one _ (by omega) _ E6.out.mw).mono ?_;intro e w7 hp7;have P7:=Hq (Zdx hp7);have he7:=hp7.1;subst he7;clear hp7)
               | (go_at_call 61;refine (Zdg _ _ _ _ _ E6.out.one _ HA.out.1 HA.out.2 (by omega) _ E6.out.mw).mono ?_;intro e w7 hp7;have P7:=Hq (Zdx hp7);have he7:=hp7.1;subst he7;clear hp7)))
            (
              go_ret2
              exact ⟨.slice none 0 0,by rw [H2.out];rfl,Za ER.out.gr (Za G4.out (Za (Ga _ _ _) (Ga _ _ _)))⟩)
    · have hkn:k=l.length:=by omega
      have hfin:Zro l=0:=by rw [HE.out,hkn,List.drop_length];rfl
      have D:=Hq (Yne E w.heap.size vb n xs ER.out.one (by omega) wr ER.out.mw)
      subst hkn
      go_wp2_with (go_at_call 62;refine D.out.mono ?_;rintro e w9 ⟨v9,rfl,hg9⟩;have G9:=Hq hg9;clear hg9)
      go_ret2
      exact ⟨_,by rw [hE,hfin];rfl,Za ER.out.gr G9.out⟩
abbrev FnP:=Int × Int × Int × List (Int × Int)
def Yk (w:World) (B:Nat) (p:Option Addr) (fs:List FnP):Prop:=0<fs.length->∃ b o:Nat,p=some ⟨b,o,none⟩/\b<B/\∀ i a l r c,fs[i]? = some (a,l,r,c) ->
 w.cell? ⟨b,o+i*4,none⟩=some (.int .i64 a)/\w.cell? ⟨b,o+i*4+1,none⟩=some (.int .i64 l)/\w.cell? ⟨b,o+i*4+2,none⟩=some (.int .i64 r) /\
 ∃ (pc:Option Addr) (cc:Nat),w.cell? ⟨b,o+i*4+3,none⟩=some (.slice pc c.length cc)/\Ji w B pc c
theorem Zs {w w':World} {row:Option Nat} {B:Nat} {p:Option Addr} {l:List FnP} (h:Yk w B p l) (g:w.grownBy w' row) (hr:∀ r,row=some r->B<=r):Yk w' B p l:=fun h0=>by
 obtain ⟨b,o,e,hb,hc⟩:=h h0
 refine ⟨b,o,e,hb,fun i a l r c hi => ?_⟩
 obtain ⟨h1,h2,h3,pc,cc,h4,h5⟩:=hc i a l r c hi
 exact ⟨Xw g hr hb h1,Xw g hr hb h2,Xw g hr hb h3,pc,cc,Xw g hr hb h4,Xh h5 g hr⟩
def fnE (f:FnP):Int:=if f.1<0\/16<f.1\/f.2.1<f.1\/64<f.2.1\/f.2.2.1<0\/1<f.2.2.1\/f.2.2.2.length<1\/4096<f.2.2.2.length then 121 else Zro f.2.2.2
def Yhk:List FnP->Int
 | []=>0
 | f::r=>if fnE f=0 then Yhk r else fnE f
def Zck (mem:Int) (nd:Nat) (fs:List FnP):Int:=if mem<0\/65536<mem\/mem<nd\/fs.length<1\/64<fs.length then 121 else Yhk fs
theorem Yhj {fs:List FnP} {k:Nat} {f:FnP} (h:fs[k]? = some f):Yhk (fs.drop k)=if fnE f=0 then Yhk (fs.drop (k+1)) else fnE f:=by
 obtain ⟨hk,e⟩:=List.getElem?_eq_some_iff.1 h
 rw [List.drop_eq_getElem_cons hk,e]
 rfl
def Ycv (w:World) (b:Nat) (mem:Int) (vd vF:Value):Prop:=w.heap[b]? = some (.cells #[.int .i64 mem,vd,vF] 25 (0,0))
theorem Zcj {w w':World} {b:Nat} {mem:Int} {vd vF:Value} {row:Option Nat} (h:Ycv w b mem vd vF) (g:w.grownBy w' row) (hr:row≠some b):Ycv w' b mem vd vF:=Zb h g hr
theorem Zrw (w:World) (mem:Int) (vd vF:Value):Ycv (w.alloc (.cells #[.int .i64 mem,vd,vF] 25)) w.heap.size mem vd vF:=heap_alloc_new w _
theorem Zjl (mem:Int) (nd:Nat) (fs:List FnP) (pd pF:Option Addr) (cd cF B:Nat) (w:World) (hB:B<=w.heap.size) (hF:Yk w B pF fs) (hn:nd<=9223372036854775807) :
 Calls Try.prog 22 #[.agg #[.int .i64 mem,.slice pd nd cd,.slice pF fs.length cF]] w fun e w'=>e = .returned (.int .i64 (Zck mem nd fs))/\w.grownBy w' none:=by
 have FF:=Hq hF
 clear hF
 by_cases hbad:mem<0\/65536<mem\/mem<nd\/fs.length<1\/64<fs.length
 · have hE:Zck mem nd fs=121:=by unfold Zck;rw [if_pos hbad]
   rw [hE]
   have hni:(fs.length:Int)<1\/¬ (fs.length:Int)<1:=Classical.em _
   rcases (by omega:mem<0\/(0<=mem/\65536<mem)\/(0<=mem/\mem<=65536/\mem<(nd:Int))\/(0<=mem/\mem<=65536/\(nd:Int)<=mem/\(fs.length:Int)<1)\/(0<=mem/\mem<=65536/\(nd:Int)<=mem/\1<=(fs.length:Int)/\64<(fs.length:Int))) with q1|⟨q1,q2⟩|⟨q1,q2,q3⟩|⟨q1,q2,q3,q4⟩|⟨q1,q2,q3,q4,q5⟩
   all_goals
    clear hbad hni hE
    go_enter Try.func22,Try.ntmps22
    go_wp2
    go_ret
    exact ⟨rfl,Ga _ _ _⟩
 · have hE:Zck mem nd fs=Yhk fs:=by unfold Zck;rw [if_neg hbad]
   have q1:0<=mem:=by omega
   have q2:mem<=65536:=by omega
   have q3:(nd:Int)<=mem:=by omega
   have q4:1<=(fs.length:Int):=by omega
   have q5:(fs.length:Int)<=64:=by omega
   clear hbad
   go_enter Try.func22,Try.ntmps22
   go_wp2
   have BX:=Hq (Zrw w mem (.slice pd nd cd) (.slice pF fs.length cF))
   have G0:=Hq (Ga w (.cells #[.int .i64 mem,.slice pd nd cd,.slice pF fs.length cF] 25) none)
   generalize w.alloc (.cells #[.int .i64 mem,.slice pd nd cd,.slice pF fs.length cF] 25)=w1 at *
   go_loopw [38] (fun i wr=>∃ k:Nat,i = .int .i64 k/\k<=fs.length/\Yhk fs=Yhk (fs.drop k)/\w.grownBy wr none) (fun i _=>fs.length - (intOf i).toNat)
   case atStart=>exact ⟨0,rfl,Nat.zero_le _,rfl,G0.out⟩
   case round =>
    obtain ⟨k,rfl,hk,he,hg⟩:=hrel
    have HE:=Hq he
    have GR:=Hq hg
    by_cases hlt:(k:Int)<(fs.length:Int)
    · obtain ⟨⟨a,lo,r,c⟩,hf⟩:∃ x,fs[k]? = some x:=⟨_,List.getElem?_eq_getElem (by omega)⟩
      obtain ⟨b,o,rfl,hb,hc⟩:=FF.out (by omega)
      obtain ⟨c0,c1,c2,pc,cc,c3,hcode⟩:=hc k a lo r c hf
      replace c0:=Xw hg (B:=B) (by simp) hb c0
      replace c1:=Xw hg (B:=B) (by simp) hb c1
      replace c2:=Xw hg (B:=B) (by simp) hb c2
      replace c3:=Xw hg (B:=B) (by simp) hb c3
      have hb2:b<wr.heap.size:=by have:=hg.size;omega
      have hst:=Yhj hf
      have gW:=Za hg (Ga wr (.cells #[.int .i64 a,.int .i64 lo,.int .i64 r,.slice pc c.length cc] 52) none)
      have EC:=Hq (Ycb c pc cc B (wr.alloc (.cells #[.int .i64 a,.int .i64 lo,.int .i64 r,.slice pc c.length cc] 52)) (Nat.le_trans hB gW.size) (Xh hcode gW (by simp)))
      have GW:=Hq gW
      clear hc he hg hcode hf gW
      by_cases hbad:a<0\/16<a\/lo<a\/64<lo\/r<0\/1<r\/c.length<1\/4096<c.length
      · have hfn:fnE (a,lo,r,c)=121:=by unfold fnE;rw [if_pos hbad]
        rw [hfn,if_neg (by decide)] at hst
        have H2:=Hq (hE.trans (HE.out.trans hst))
        clear hst hfn EC
        rcases (by omega:a<0\/(0<=a/\16<a)\/(0<=a/\a<=16/\lo<a)\/(0<=a/\a<=16/\a<=lo/\64<lo)\/(0<=a/\a<=16/\a<=lo/\lo<=64/\r<0)\/(0<=a/\a<=16/\a<=lo/\lo<=64/\0<=r/\1<r)\/(0<=a/\a<=16/\a<=lo/\lo<=64/\0<=r/\r<=1/\(c.length:Int)<1)\/(0<=a/\a<=16/\a<=lo/\lo<=64/\0<=r/\r<=1/\1<=(c.length:Int)/\4096<(c.length:Int))) with p1|⟨p1,p2⟩|⟨p1,p2,p3⟩|⟨p1,p2,p3,p4⟩|⟨p1,p2,p3,p4,p5⟩|⟨p1,p2,p3,p4,p5,p6⟩|⟨p1,p2,p3,p4,p5,p6,p7⟩|⟨p1,p2,p3,p4,p5,p6,p7,p8⟩
        all_goals
         clear hbad
         go_wp2
         go_ret
         exact ⟨Zes H2.out.symm,GW.out⟩
      · have hfn:fnE (a,lo,r,c)=Zro c:=by unfold fnE;rw [if_neg hbad]
        have hco:Zxn c=Zro c:=by unfold Zxn;rw [if_neg (by omega)]
        rw [hfn] at hst
        have p1:0<=a:=by omega
        have p2:a<=16:=by omega
        have p3:a<=lo:=by omega
        have p4:lo<=64:=by omega
        have p5:0<=r:=by omega
        have p6:r<=1:=by omega
        have p7:1<=(c.length:Int):=by omega
        have p8:(c.length:Int)<=4096:=by omega
        clear hbad hfn
        by_cases hz:Zro c=0
        · rw [if_pos hz] at hst
          have H2:=Hq (HE.out.trans hst)
          have HZ:=Hq (hco.trans hz)
          clear hst hz hco
          go_wp2_with (go_at_call 37;refine EC.out.mono ?_;rintro e w4 ⟨v4,rfl,hg4⟩;have G4:=Hq hg4;clear hg4;rw [HZ.out])
          go_roundw
          case rel=>exact ⟨k+1,by go_num,by omega,H2.out,Za GW.out G4.out⟩
          case measure=>simp [intOf];omega
        · rw [if_neg hz] at hst
          have H2:=Hq (hE.trans (HE.out.trans hst))
          have hz2:(Zro c != 0)=true:=by simpa using hz
          have HZ:=Hq hco
          clear hst hz hco
          go_wp2_with (go_at_call 37;refine EC.out.mono ?_;rintro e w4 ⟨v4,rfl,hg4⟩;have G4:=Hq hg4;clear hg4;rw [HZ.out])
          go_ret
          exact ⟨Zes H2.out.symm,Za GW.out G4.out⟩
    · have hkn:k=fs.length:=by omega
      have hfin:Yhk fs=0:=by rw [he,hkn,List.drop_length];rfl
      clear he
      go_wp2
      go_ret
      first
       | exact ⟨rfl,GR.out⟩
       | exact ⟨Zes (hE.trans hfin).symm,GR.out⟩
structure Znk (fs:List FnP) (f at_:Nat) (fn:FnP) (op a:Int):Prop where
 isf:fs[f]? = some fn
 ins:fn.2.2.2[at_]? = some (op,a)
 nf:fs.length<=64
 nc:fn.2.2.2.length<=4096
theorem Zud (mem:Int) (vd:Value) (fs:List FnP) (pF:Option Addr) (cF B f at_:Nat) (fn:FnP) (op a:Int) (w:World) (hvd:∃ p n c,vd = .slice p n c) (hB:B<=w.heap.size) (hF:Yk w B pF fs) (hS:Znk fs f at_ fn op a) :
 Calls Try.prog 64 #[.agg #[.int .i64 mem,vd,.slice pF fs.length cF],.agg #[.int .i64 f,.int .i64 at_]] w fun e w'=>e = .returned (.tuple #[.agg #[.int .i64 op,.int .i64 a],.bool true])/\w.grownBy w' none:=by
 obtain ⟨pd,nd,cd,rfl⟩:=hvd
 obtain ⟨ar,lo,r,c⟩:=fn
 have hf1:=(List.getElem?_eq_some_iff.1 hS.isf).1
 have ha1:=(List.getElem?_eq_some_iff.1 hS.ins).1
 have hnf:=hS.nf
 have hnc:=hS.nc
 simp only [] at ha1 hnc
 obtain ⟨b,o,rfl,hb,hc⟩:=hF (by omega)
 obtain ⟨c0,c1,c2,pc,cc,c3,hcode⟩:=hc f ar lo r c hS.isf
 obtain ⟨b',o',rfl,hb',hc'⟩:=hcode (by omega)
 obtain ⟨d0,d1⟩:=hc' at_ op a hS.ins
 have hb2:b<w.heap.size:=by omega
 have hb2':b'<w.heap.size:=by omega
 have q1:(f:Int)<(fs.length:Int):=by omega
 have q2:(at_:Int)<(c.length:Int):=by omega
 have e1:decide ((f:Int)<0)=false:=decide_eq_false (by omega)
 have e2:decide ((fs.length:Int)<=(f:Int))=false:=decide_eq_false (by omega)
 have e2':decide (fs.length<=f)=false:=decide_eq_false (by omega)
 have e4':decide (c.length<=at_)=false:=decide_eq_false (by omega)
 have e3:decide ((at_:Int)<0)=false:=decide_eq_false (by omega)
 have e4:decide ((c.length:Int)<=(at_:Int))=false:=decide_eq_false (by omega)
 clear hF hc hcode hc' hS
 go_enter Try.func64,Try.ntmps64
 go_wp2
 have H3:=Xf w (.cells #[.int .i64 mem,.slice pd nd cd,.slice (some ⟨b,o,none⟩) fs.length cF] 25) (.cells #[.int .i64 f,.int .i64 at_] 37) (.cells #[.int .i64 0,.int .i64 0] 49)
 have g3:=Xg w (.cells #[.int .i64 mem,.slice pd nd cd,.slice (some ⟨b,o,none⟩) fs.length cF] 25) (.cells #[.int .i64 f,.int .i64 at_] 37) (.cells #[.int .i64 0,.int .i64 0] 49)
 generalize ((w.alloc (.cells #[.int .i64 mem,.slice pd nd cd,.slice (some ⟨b,o,none⟩) fs.length cF] 25)).alloc (.cells #[.int .i64 f,.int .i64 at_] 37)).alloc (.cells #[.int .i64 0,.int .i64 0] 49)=W at *
 obtain ⟨h1,h2,h3⟩:=H3
 have x2:=Cq _ _ 2 _ _ _ h1
 have y0:=Cq _ _ 0 _ _ _ h2
 have y1:=Cq _ _ 1 _ _ _ h2
 have z0:=Cq _ _ 0 _ _ _ h3
 have z1:=Cq _ _ 1 _ _ _ h3
 have v0:=frozen_of_row _ _ 0 _ _ h3
 have v1:=frozen_of_row _ _ 1 _ _ h3
 have s1:=(Gs h1)
 have s2:=(Gs h2)
 have s3:=(Gs h3)
 replace c3:=g3.cell c3 (by simp)
 replace d0:=g3.cell d0 (by simp)
 replace d1:=g3.cell d1 (by simp)
 replace hb2:b<W.heap.size:=by omega
 replace hb2':b'<W.heap.size:=by omega
 have HX:=Hq h3
 have G3:=Hq g3
 clear h1 h2 h3 g3 c0 c1 c2
 generalize hn0:w.heap.size=n0 at *
 go_quiet (fail)
 go_wp2
 go_region
 go_wp2
 (try simp only [Exit.inBlock,Exit.then])
 have hq:(((W.drewN (nq+1)).setCell ⟨n0+1+1,0,none⟩ (.int .i64 op)).setCell ⟨n0+1+1,1,none⟩ (.int .i64 a)).heap[n0+1+1]? = some (.cells #[.int .i64 op,.int .i64 a] 49 (0,0)):=by
  rw [Zi (Zi (show (W.drewN (nq+1)).heap[n0+1+1]? = some (.cells #[.int .i64 0,.int .i64 0] 49 (0,0)) by simpa using HX.out))];rfl
 refine bodyPost_ret (v := .tuple #[.agg #[.int .i64 op,.int .i64 a],.bool true]) ?_ rfl ⟨rfl,Ze (Ze (Zh G3.out _) (by omega)) (by omega)⟩
 have k0:=Cq _ _ 0 _ _ _ hq
 have k1:=Cq _ _ 1 _ _ _ hq
 clear hq
 generalize ((W.drewN (nq+1)).setCell ⟨n0+1+1,0,none⟩ (.int .i64 op)).setCell ⟨n0+1+1,1,none⟩ (.int .i64 a)=w9 at *
 rw [results_cell_tmp rfl]
 go_simp
def Xm (op a pl:Int):List Int :=
 if op=1\/op=2\/op=18 then [] else if op=14 then [a] else if (op=15\/op=16)/\a≠pl+1 then [min a (pl+1),max a (pl+1)] else [pl+1]
theorem Zgf (op a pl:Int):(Xm op a pl).length<=2:=by
 unfold Xm
 split
 · simp
 · split
   · simp
   · split <;> simp
def Zfd (w:World) (l:List Int) (e:Ending) (w':World):Prop:=∃ v,e = .returned v/\w.grownBy w' none/\w'.ownsRow w.heap.size 3 1 v l.length (l.map (Value.int .i64))
theorem Zrj {w:World} {o:Obj} {x:Int} {l:List Int} (h:l=[x]):Zfd w l (.returned (.slice (some ⟨w.heap.size+1,0,none⟩) 1 1)) ((w.alloc o).alloc (.cells #[.int .i64 x] 3)):=by
 subst h
 have h:=World.ownsRow_lit (base:=w.heap.size) (e:=3) (size:=1) (w.alloc o) #[.int .i64 x] 1 (by simp) (by decide) rfl
 rw [World.size_alloc] at h
 exact ⟨_,rfl,Za (Ga _ _ _) (Ga _ _ _),h⟩
theorem Ynb {w:World} {o:Obj} {x y:Int} {l:List Int} (h:l=[x,y]):Zfd w l (.returned (.slice (some ⟨w.heap.size+1,0,none⟩) 2 2)) ((w.alloc o).alloc (.cells #[.int .i64 x,.int .i64 y] 3)):=by
 subst h
 have h:=World.ownsRow_lit (base:=w.heap.size) (e:=3) (size:=1) (w.alloc o) #[.int .i64 x,.int .i64 y] 2 (by simp) (by decide) rfl
 rw [World.size_alloc] at h
 exact ⟨_,rfl,Za (Ga _ _ _) (Ga _ _ _),h⟩
theorem Zrk (op a pl:Int) (w:World) (h0:0<=pl) (h1:pl<1000000000000):Calls Try.prog 39 #[.agg #[.int .i64 op,.int .i64 a],.int .i64 pl] w (Zfd w (Xm op a pl)):=by
 rcases (by omega:(op=1\/op=2\/op=18)\/op=14\/((op=15\/op=16)/\a=pl+1)\/((op=15\/op=16)/\a≠pl+1)\/(op≠1/\op≠2/\op≠18/\op≠14/\op≠15/\op≠16)) with h|h|⟨h,ha⟩|⟨h,ha⟩|h
 · have hE:Xm op a pl=[]:=by unfold Xm;rw [if_pos h]
   rw [hE]
   rcases h with rfl|rfl|rfl
   all_goals
    clear hE
    go_enter Try.func39,Try.ntmps39
    go_wp2
    go_ret
    exact ⟨_,rfl,Ga _ _ _,World.ownsRow_nil _ _ _ _⟩
 · have hE:Xm op a pl=[a]:=by unfold Xm;rw [if_neg (by omega),if_pos h]
   subst h
   go_enter Try.func39,Try.ntmps39
   go_wp2
   go_ret
   exact Zrj hE
 · have hE:Xm op a pl=[pl+1]:=by unfold Xm;rw [if_neg (by omega),if_neg (by omega),if_neg (by omega)]
   have hq:(a == pl+1)=true:=by simp [ha]
   rcases h with rfl|rfl
   all_goals
    clear ha
    go_enter Try.func39,Try.ntmps39
    go_wp2
    go_ret
    exact Zrj hE
 · have hE:Xm op a pl=[min a (pl+1),max a (pl+1)]:=by unfold Xm;rw [if_neg (by omega),if_neg (by omega),if_pos (by omega)]
   have hq:(a == pl+1)=false:=beq_eq_false_iff_ne.2 ha
   rcases h with rfl|rfl
   all_goals
    clear ha
    go_enter Try.func39,Try.ntmps39
    go_wp2
    go_ret
    exact Ynb hE
 · have hE:Xm op a pl=[pl+1]:=by unfold Xm;rw [if_neg (by omega),if_neg (by omega),if_neg (by omega)]
   have b1:(op == 1)=false:=beq_eq_false_iff_ne.2 h.1
   have b2:(op == 2)=false:=beq_eq_false_iff_ne.2 h.2.1
   have b3:(op == 18)=false:=beq_eq_false_iff_ne.2 h.2.2.1
   have b4:(op == 14)=false:=beq_eq_false_iff_ne.2 h.2.2.2.1
   have b5:(op == 15)=false:=beq_eq_false_iff_ne.2 h.2.2.2.2.1
   have b6:(op == 16)=false:=beq_eq_false_iff_ne.2 h.2.2.2.2.2
   clear h
   go_enter Try.func39,Try.ntmps39
   go_wp2
   go_ret
   exact Zrj hE
def Yqh:ByteArray:=⟨#[111,112,101,110]⟩
def Yuu:ByteArray:=⟨#[114,101,97,100]⟩
def Yoh:ByteArray:=⟨#[119,114,105,116,101]⟩
def Yuv:ByteArray:=⟨#[108,105,115,116]⟩
def Yoi:ByteArray:=⟨#[99,108,111,115,101]⟩
def Zbm:Array Value := #[.string Yqh,.int .i64 0,.int .i64 3,.int .i64 1,.string Yuu,.int .i64 0,.int .i64 3,.int .i64 1,.string Yoh,.int .i64 0,.int .i64 3,.int .i64 1,
 .string Yuv,.int .i64 0,.int .i64 4,.int .i64 1,.string Yoi,.int .i64 0,.int .i64 1,.int .i64 1]
theorem Yip (w:World):Calls Try.prog 91 #[] w fun e w'=>e = .returned (.slice (some ⟨w.heap.size,0,none⟩) 5 5)/\w'=w.alloc (.cells Zbm 115):=by
 go_enter Try.func91,Try.ntmps91
 go_wp2_with (refine wpList_buildSliceTo rfl 112 115 5 _ rfl w.heap.size rfl (some 6) rfl Try.underlying112 Zbm (by kernel_rfl) ?_)
 go_ret
 exact ⟨rfl,rfl⟩
theorem Zdv (w:World) (g:Nat) (hg:g=w.heap.size) (i:Nat) (v:Value) (h:Zbm[i]? = some v):(w.alloc (.cells Zbm 115)).cell? ⟨g,i,none⟩=some v:=by
 subst hg
 rw [World.cell?_alloc_at (hn:=rfl)]
 exact h
def Zls (n:Nat):ByteArray:=[Yqh,Yuu,Yoh,Yuv,Yoi].getD n Yqh
def Zcp (n:Nat):Int:=[3,3,3,4,1].getD n 0
theorem Yqd (n:Nat) (hn:n<5) (w:World) :
 Calls Try.prog 81 #[.int .i64 n] w fun e w'=>e = .returned (.tuple #[.agg #[.string (Zls n),.int .i64 0,.int .i64 (Zcp n),.int .i64 1],.bool true])/\w.grownBy w' none:=by
 have C:=Hq Yip
 have T0:Zbm[n*4]? = some (.string (Zls n)):=by rcases (by omega:n=0\/n=1\/n=2\/n=3\/n=4) with rfl|rfl|rfl|rfl|rfl <;> rfl
 have T1:Zbm[n*4+1]? = some (.int .i64 0):=by rcases (by omega:n=0\/n=1\/n=2\/n=3\/n=4) with rfl|rfl|rfl|rfl|rfl <;> rfl
 have T2:Zbm[n*4+2]? = some (.int .i64 (Zcp n)):=by rcases (by omega:n=0\/n=1\/n=2\/n=3\/n=4) with rfl|rfl|rfl|rfl|rfl <;> rfl
 have T3:Zbm[n*4+3]? = some (.int .i64 1):=by rcases (by omega:n=0\/n=1\/n=2\/n=3\/n=4) with rfl|rfl|rfl|rfl|rfl <;> rfl
 have R0:=Yoj 5 n hn (by decide) (w.alloc (.cells #[.string ⟨#[]⟩,.int .i64 0,.int .i64 0,.int .i64 0] 115)).heap.size (Zls n) 0 (Zcp n) 1 ((w.alloc (.cells #[.string ⟨#[]⟩,.int .i64 0,.int .i64 0,.int .i64 0] 115)).alloc (.cells Zbm 115)) (by simp) (Zdv _ _ rfl _ _ T0) (Zdv _ _ rfl _ _ T1) (Zdv _ _ rfl _ _ T2) (Zdv _ _ rfl _ _ T3)
 rw [World.size_alloc] at R0
 have R:=Hq R0
 clear R0
 clear T0 T1 T2 T3
 generalize Zls n=nm at *
 generalize Zcp n=tk at *
 go_enter Try.func81,Try.ntmps81
 go_wp2_with (first
  | (go_at_call 91;refine (C.out _).mono ?_;rintro e w1 ⟨rfl,rfl⟩)
  | (go_at_call 60;refine R.out.mono ?_;rintro e w2 ⟨rfl,hg2⟩;have hb:=Zb (Zb (heap_alloc_new w (.cells #[.string ⟨#[]⟩,.int .i64 0,.int .i64 0,.int .i64 0] 115)) (Ga _ _ none) (by simp)) hg2 (by simp);have G2:=Hq hg2;have c0:=Cq w2 _ 0 _ _ _ hb;have c1:=Cq w2 _ 1 _ _ _ hb;have c2:=Cq w2 _ 2 _ _ _ hb;have c3:=Cq w2 _ 3 _ _ _ hb;have z0:=frozen_of_row w2 _ 0 _ _ hb;have z1:=frozen_of_row w2 _ 1 _ _ hb;have z2:=frozen_of_row w2 _ 2 _ _ hb;have z3:=frozen_of_row w2 _ 3 _ _ hb;have HB:=Hq hb;clear hg2 hb))
 (try simp only [Exit.inBlock,Exit.then])
 have hq:((((w2.setCell ⟨w.heap.size,0,none⟩ (.string nm)).setCell ⟨w.heap.size,1,none⟩ (.int .i64 0)).setCell ⟨w.heap.size,2,none⟩ (.int .i64 tk)).setCell ⟨w.heap.size,3,none⟩ (.int .i64 1)).heap[w.heap.size]? = some (.cells #[.string nm,.int .i64 0,.int .i64 tk,.int .i64 1] 115 (0,0)):=by
  rw [Zi (Zi (Zi (Zi HB.out)))];rfl
 refine bodyPost_ret (v := .tuple #[.agg #[.string nm,.int .i64 0,.int .i64 tk,.int .i64 1],.bool true]) ?_ rfl ⟨rfl,Ze (Ze (Ze (Ze (Za (Ga _ _ _) (Za (Ga _ _ _) G2.out)) (Nat.le_refl _)) (Nat.le_refl _)) (Nat.le_refl _)) (Nat.le_refl _)⟩
 clear c0 c1 c2 c3 z0 z1 z2 z3
 have d0:=Cq _ _ 0 _ _ _ hq
 have d1:=Cq _ _ 1 _ _ _ hq
 have d2:=Cq _ _ 2 _ _ _ hq
 have d3:=Cq _ _ 3 _ _ _ hq
 clear hq
 generalize (((w2.setCell ⟨w.heap.size,0,none⟩ (.string nm)).setCell ⟨w.heap.size,1,none⟩ (.int .i64 0)).setCell ⟨w.heap.size,2,none⟩ (.int .i64 tk)).setCell ⟨w.heap.size,3,none⟩ (.int .i64 1)=w9 at *
 rw [results_cell_tmp rfl]
 go_simp
structure Xbr (fs:List FnP) (op a:Int):Prop where
 sh:∃ s,Jx op=some s
 call:op=17->0<=a/\a<fs.length
 sys:op=19->0<=a/\a<5
def Yp (fs:List FnP) (res op a:Int):Int × Int :=
 if op=17 then (match fs[a.toNat]? with|some g=>(g.1,g.2.2.1)|none=>(0,0))
 else if op=18 then (res,0) else if op=19 then (Zcp a.toNat,1)
 else match Jx op with|some s=>(s.2.2.1,s.2.2.2)|none=>(0,0)
def Zvo (w:World) (x:Int × Int) (e:Ending) (w':World):Prop:=e = .returned (.tuple #[.int .i64 x.1,.int .i64 x.2])/\w.grownBy w' none
theorem Ydo (mem:Int) (vd:Value) (fs:List FnP) (pF:Option Addr) (cF B f at_:Nat) (fn:FnP) (op a:Int) (w:World) (hvd:∃ p n c,vd = .slice p n c) (hB:B<=w.heap.size) (hF:Yk w B pF fs) (hS:Znk fs f at_ fn op a) (hO:Xbr fs op a) :
 Calls Try.prog 63 #[.agg #[.int .i64 mem,vd,.slice pF fs.length cF],.agg #[.int .i64 f,.int .i64 at_]] w (Zvo w (Yp fs fn.2.2.1 op a)):=by
 obtain ⟨pd,nd,cd,rfl⟩:=hvd
 have g2:=Za (Ga w (.cells #[.int .i64 mem,.slice pd nd cd,.slice pF fs.length cF] 25) none) (Ga _ (.cells #[.int .i64 f,.int .i64 at_] 37) none)
 have I:=Hq (Zud mem (.slice pd nd cd) fs pF cF B f at_ fn op a _ ⟨_,_,_,rfl⟩ (Nat.le_trans hB g2.size) (Zs hF g2 (by simp)) hS)
 obtain ⟨ar,lo,r,c⟩:=fn
 have hf1:=(List.getElem?_eq_some_iff.1 hS.isf).1
 have hnf:=hS.nf
 obtain ⟨b,o,rfl,hb,hc⟩:=hF (by omega)
 have hb2:b<w.heap.size:=by omega
 have q1:(f:Int)<(fs.length:Int):=by omega
 by_cases h17:op=17
 · obtain ⟨ha0,han⟩:=hO.call h17
   obtain ⟨k,rfl⟩:=Int.eq_ofNat_of_zero_le ha0
   obtain ⟨⟨ga,gl,gr,gc⟩,hg⟩:∃ x,fs[k]? = some x:=⟨_,List.getElem?_eq_getElem (by omega)⟩
   obtain ⟨c0,c1,c2,-⟩:=hc k ga gl gr gc hg
   have hE:Yp fs r op k=(ga,gr):=by unfold Yp;rw [if_pos h17,Int.toNat_natCast,hg]
   simp only [] at hE ⊢
   rw [hE]
   subst h17
   have e1:decide ((k:Int)<0)=false:=decide_eq_false (by omega)
   have e2:decide ((fs.length:Int)<=(k:Int))=false:=decide_eq_false (by omega)
   have e2':decide (fs.length<=k)=false:=decide_eq_false (by omega)
   clear hc hS hO hE hg
   go_enter Try.func63,Try.ntmps63
   go_wp2_with (go_at_call 64;(refine I.out.mono ?_;rintro e w3 ⟨rfl,hg3⟩;have hb0:=Zb (Yt w (.cells #[.int .i64 mem,.slice pd nd cd,.slice (some ⟨b,o,none⟩) fs.length cF] 25) (.cells #[.int .i64 f,.int .i64 at_] 37)) hg3 (by simp);have hb1:=Zb (Yi w (.cells #[.int .i64 mem,.slice pd nd cd,.slice (some ⟨b,o,none⟩) fs.length cF] 25) (.cells #[.int .i64 f,.int .i64 at_] 37)) hg3 (by simp);have G3:=Hq (Za (Ga w _ none) (Za (Ga _ _ none) hg3));have x2:=Cq _ _ 2 _ _ _ hb0;have y0:=Cq _ _ 0 _ _ _ hb1;have s0:=(Gs hb0);have s1:=(Gs hb1);clear hb0 hb1 hg3);have hb3:b<w3.heap.size:=Nat.lt_of_lt_of_le hb2 G3.out.size;replace c0:=G3.out.cell c0 (by simp);replace c2:=G3.out.cell c2 (by simp))
   go_quiet (fail)
   go_wp2
   go_ret2
   exact ⟨rfl,Zh (Za G3.out (Ga _ _ none)) _⟩
 · have b17:(op == 17)=false:=beq_eq_false_iff_ne.2 h17
   by_cases h18:op=18
   · obtain ⟨-,-,c2,-⟩:=hc f ar lo r c hS.isf
     have hE:Yp fs r op a=(r,0):=by unfold Yp;rw [if_neg h17,if_pos h18]
     simp only [] at hE ⊢
     rw [hE]
     subst h18
     clear hc hS hO hE b17 h17
     go_enter Try.func63,Try.ntmps63
     go_wp2_with (go_at_call 64;(refine I.out.mono ?_;rintro e w3 ⟨rfl,hg3⟩;have hb0:=Zb (Yt w (.cells #[.int .i64 mem,.slice pd nd cd,.slice (some ⟨b,o,none⟩) fs.length cF] 25) (.cells #[.int .i64 f,.int .i64 at_] 37)) hg3 (by simp);have hb1:=Zb (Yi w (.cells #[.int .i64 mem,.slice pd nd cd,.slice (some ⟨b,o,none⟩) fs.length cF] 25) (.cells #[.int .i64 f,.int .i64 at_] 37)) hg3 (by simp);have G3:=Hq (Za (Ga w _ none) (Za (Ga _ _ none) hg3));have x2:=Cq _ _ 2 _ _ _ hb0;have y0:=Cq _ _ 0 _ _ _ hb1;have s0:=(Gs hb0);have s1:=(Gs hb1);clear hb0 hb1 hg3);have hb3:b<w3.heap.size:=Nat.lt_of_lt_of_le hb2 G3.out.size;replace c2:=G3.out.cell c2 (by simp))
     go_ret2
     exact ⟨rfl,Za G3.out (Ga _ _ none)⟩
   · have b18:(op == 18)=false:=beq_eq_false_iff_ne.2 h18
     by_cases h19:op=19
     · obtain ⟨ha0,ha5⟩:=hO.sys h19
       obtain ⟨k,rfl⟩:=Int.eq_ofNat_of_zero_le ha0
       have S:=Hq (Yqd k (by omega))
       have hE:Yp fs r op k=(Zcp k,1):=by unfold Yp;rw [if_neg h17,if_neg h18,if_pos h19,Int.toNat_natCast]
       simp only [] at hE ⊢
       rw [hE]
       subst h19
       clear hc hS hO hE b17 h17 b18 h18
       generalize Zcp k=tk at *
       generalize Zls k=nm at *
       go_enter Try.func63,Try.ntmps63
       go_wp2_with (first
        | (go_at_call 64;(
            refine I.out.mono ?_;rintro e w3 ⟨rfl,hg3⟩
            have hb0:=Zb (Yt w (.cells #[.int .i64 mem,.slice pd nd cd,.slice (some ⟨b,o,none⟩) fs.length cF] 25) (.cells #[.int .i64 f,.int .i64 at_] 37)) hg3 (by simp)
            have hb1:=Zb (Yi w (.cells #[.int .i64 mem,.slice pd nd cd,.slice (some ⟨b,o,none⟩) fs.length cF] 25) (.cells #[.int .i64 f,.int .i64 at_] 37)) hg3 (by simp)
            have G3:=Hq (Za (Ga w _ none) (Za (Ga _ _ none) hg3))
            have x2:=Cq _ _ 2 _ _ _ hb0
            have y0:=Cq _ _ 0 _ _ _ hb1
            have s0:=(Gs hb0)
            have s1:=(Gs hb1)
            clear hb0 hb1 hg3))
        | (go_at_call 81;refine (S.out _).mono ?_;rintro e w4 ⟨rfl,hg4⟩;have G4:=Hq hg4;clear hg4))
       go_quiet (fail)
       go_wp2
       go_ret2
       first
        | exact ⟨rfl,Zh (Za G3.out (Za (Ga _ _ none) (Za G4.out (Ga _ _ none)))) _⟩
        | exact ⟨rfl,Za G3.out (Za (Ga _ _ none) (Za G4.out (Ga _ _ none)))⟩
     · have b19:(op == 19)=false:=beq_eq_false_iff_ne.2 h19
       obtain ⟨⟨nm,ok,tk,gk⟩,hs⟩:=hO.sh
       have OF:=Ywc op
       rw [hs] at OF
       simp only [Zog] at OF
       have O:=Hq OF
       have hE:Yp fs r op a=(tk,gk):=by unfold Yp;rw [if_neg h17,if_neg h18,if_neg h19,hs]
       simp only [] at hE ⊢
       rw [hE]
       clear hc hS hO hE h17 h18 h19 hs OF
       go_enter Try.func63,Try.ntmps63
       go_wp2_with (first
        | (go_at_call 64;(
            refine I.out.mono ?_;rintro e w3 ⟨rfl,hg3⟩
            have hb0:=Zb (Yt w (.cells #[.int .i64 mem,.slice pd nd cd,.slice (some ⟨b,o,none⟩) fs.length cF] 25) (.cells #[.int .i64 f,.int .i64 at_] 37)) hg3 (by simp)
            have hb1:=Zb (Yi w (.cells #[.int .i64 mem,.slice pd nd cd,.slice (some ⟨b,o,none⟩) fs.length cF] 25) (.cells #[.int .i64 f,.int .i64 at_] 37)) hg3 (by simp)
            have G3:=Hq (Za (Ga w _ none) (Za (Ga _ _ none) hg3))
            have x2:=Cq _ _ 2 _ _ _ hb0
            have y0:=Cq _ _ 0 _ _ _ hb1
            have s0:=(Gs hb0)
            have s1:=(Gs hb1)
            clear hb0 hb1 hg3))
        | (go_at_call 82;refine (O.out _).mono ?_;rintro e w4 ⟨rfl,hg4⟩;have G4:=Hq hg4;clear hg4))
       (try go_quiet (fail))
       (try go_wp2)
       go_ret2
       first
        | exact ⟨rfl,Zh (Za G3.out (Za (Ga _ _ none) (Za G4.out (Ga _ _ none)))) _⟩
        | exact ⟨rfl,Za G3.out (Za (Ga _ _ none) (Za G4.out (Ga _ _ none)))⟩
end Go.Proofs.Ythlkflagancdfaa.CK
