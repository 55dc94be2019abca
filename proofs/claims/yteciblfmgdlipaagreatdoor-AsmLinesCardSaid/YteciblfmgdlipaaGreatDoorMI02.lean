/-
  Part of a proof: contracts of functions and lemmas, each stated by its own theorem. Conditions: as each theorem states.
-/
import Derived.Test.YteciblfmgdlipaaGreatDoorMI01
import Derived.Laws.Closers25b
import Derived.Test.YteciblfmgdlipaaGreatDoorMI00
import Derived.Maps.Own
import Derived.Maps.OwnOps
import Derived.Maps.OwnSet
import Derived.StringKeys
set_option linter.unusedSimpArgs false
set_option linter.unusedVariables false
set_option maxRecDepth 100000
set_option maxHeartbeats 16000000
namespace Go.Proofs.YteciblfmgdlipaaGreatDoor.CK
open Go.RowKit Go.Great
structure MwAt (w:World) (E Bw:Nat) (vb:Value) (n:Nat) (xs:List Value):Prop where
 box:w.heap[Bw]? = some (.cells #[vb,.int .i64 0] 214 (0,0))
 row:w.ownsRow E 5 1 vb n xs
 lt:Bw<E
 le:E<=w.heap.size
def MwP (Bw:Nat) (vb:Value) (k:Nat):Prop:=k=Bw\/vb.ownBlock=some k
theorem Yac {w:World} {E Bw n:Nat} {vb:Value} {xs:List Value} (h:MwAt w E Bw vb n xs) (o:Obj):MwAt (w.alloc o) E Bw vb n xs :=
 ⟨Zf h.box (Ga _ _ none) (by simp),h.row.alloc o,h.lt,Zw h.le o⟩
structure Zpu (w w':World) (E Bw:Nat) (vb v':Value) (n:Nat) (xs:List Value):Prop where
 at_:MwAt w' E Bw v' n xs
 sp:Sp (MwP Bw vb) w w'
 hat:v'.ownBlock=vb.ownBlock\/∃ k,v'.ownBlock=some k/\w.heap.size<=k
theorem Yuz {w w1:World} {E Bw n n':Nat} {vb v1:Value} {xs xs':List Value} (h:MwAt w E Bw vb n xs) (own:w1.ownsRow E 5 1 v1 n' xs') (g:w.grownBy w1 vb.ownBlock) (hat:v1.ownBlock=vb.ownBlock\/v1.ownBlock=some w.heap.size) :
 Zpu w (w1.setCell ⟨Bw,0,none⟩ v1) E Bw vb v1 n' xs':=by
 have hlt:=h.lt
 have hle:=h.le
 have hb:=Zf h.box g (Zsg h.row hlt)
 refine ⟨⟨by rw [Zj hb];rfl,Yrv own hlt,hlt,by rw [World.size_setCell];exact Nat.le_trans hle g.size⟩,?_,?_⟩
 · refine Zza (Zji (P:=MwP Bw vb) g fun k _ e=>Or.inr e) (Zji (P:=MwP Bw vb) (Zm w1 Bw 0 v1) fun k _ e => ?_) (fun _ _ h=>h)
   injection e with e;exact Or.inl e.symm
 · rcases hat with h1|h1
   · exact Or.inl h1
   · exact Or.inr ⟨_,h1,Nat.le_refl _⟩
def Yug (w:World) (E Bw:Nat) (vb:Value) (n:Nat) (xs:List Value) (e:Ending) (w':World):Prop:=e = .returned (.tuple #[])/\∃ v',Zpu w w' E Bw vb v' n xs
theorem Yjt (E Bw L g m c:Nat) (vb:Value) (n:Nat) (xs ys:List Value) (w:World) (hM:MwAt w E Bw vb n xs) (hl:w.cell? ⟨L,0,none⟩=some (.slice (some ⟨g,0,none⟩) m c))
 (hy:ys.length=m) (hc:∀ j u,ys[j]? = some u->w.cell? ((⟨g,0,none⟩:Addr).add j)=some u) (hone:∀ u∈ys,u.oneCell'=true) (hn:n+m<=4194304) (hm:1<=m) :
 Calls Tryz.prog 125 #[.pointer (some ⟨Bw,0,none⟩),.slice (some ⟨L,0,none⟩) 1 1] w (Yug w E Bw vb (n+m) (xs++ys)):=by
 obtain ⟨pb,cb,rfl⟩:=Zi hM.row
 have MW:=Hq hM
 have c0:=Cq w Bw 0 _ _ _ hM.box
 have c1:=Cq w Bw 1 _ _ _ hM.box
 have z0:=frozen_of_row w Bw 0 _ _ hM.box
 have hlt:Bw<w.heap.size:=by have:=hM.lt;have:=hM.le;omega
 have hLl:=World.block_lt_of_cell? _ _ hl
 simp only [] at hLl
 have HC:=Hq hc
 have HO:=Hq hone
 have HY:=Hq hy
 have hle:=hM.le
 clear hc hone hM hy
 go_enter Tryz.func125,Tryz.ntmps125
 go_wp2
 go_loopw [4,16] (fun v i wr=>wr=w/\((i = .int .i64 0/\v = .int .i64 n)\/(i = .int .i64 1/\v = .int .i64 (n+m)))) (fun _ i _=>1 - (intOf i).toNat)
 case atStart=>exact ⟨rfl,Or.inl ⟨rfl,rfl⟩⟩
 case round =>
  obtain ⟨rfl,hrel⟩:=hrel
  rcases hrel with ⟨rfl,rfl⟩|⟨rfl,rfl⟩
  · go_wp2
    go_roundw
    case rel=>exact ⟨trivial,Or.inr ⟨rfl,rfl⟩⟩
    case measure=>decide
  · go_wp2
    obtain ⟨w0,hw0⟩:∃ w0,w0=wr:=⟨_,rfl⟩
    subst hw0
    go_loopw [39] (fun i wr=>(i = .int .i64 0/\wr=w0)\/(i = .int .i64 1/\∃ v',Zpu w0 wr E Bw (.slice pb n cb) v' (n+m) (xs++ys))) (fun i _=>1 - (intOf i).toNat)
    case atStart=>exact Or.inl ⟨rfl,rfl⟩
    case round =>
     rcases hrel with ⟨rfl,rfl⟩|⟨rfl,hrel⟩
     · obtain ⟨bi,bi0,bi1,bi2,bi3⟩:=info_parts Zaz
       have hc3:n+m<=maxLen:=by unfold maxLen;omega
       have hc4:(n+m)*1<=140737488355328:=by omega
       go_wp2_with (at_builtin;refine wpList_append_own_at _ rfl _ _ 23 rfl E 5 bi (.int .u8 0) 1 1 Xv bi0 bi1 bi2 bi3 rfl (by decide) (.slice pb n cb) _ _ rfl MW.out.row ⟨g,0,none⟩ m c ys rfl (by rw [HY.out];omega) HC.out HO.out hc3 hc4 hle ?_;intro v3 w3 hown3 hgr3 hnil3 hat3;obtain ⟨p3,k3,hv3⟩:=Zi hown3;subst hv3;have FN:=Hq (Yuz MW.out hown3 hgr3 hat3);have zz:=frozen_of_row w3 Bw 0 _ _ (Zf MW.out.box hgr3 (Zsg MW.out.row MW.out.lt));have cc:=Cq w3 Bw 0 _ _ _ (Zf MW.out.box hgr3 (Zsg MW.out.row MW.out.lt));clear hown3 hgr3 hnil3 hat3)
       exact ⟨Or.inr ⟨rfl,_,FN.out⟩,by decide⟩
     · go_wp2
       go_end0
       exact ⟨rfl,hrel⟩
def Ztc (w:World) (E Bw:Nat) (vb:Value) (n:Nat) (e:Ending) (w':World):Prop:=e = .returned (.tuple #[])/\∃ v' m xs,1<=m/\m<=9/\(∀ u∈xs,u.oneCell'=true)/\Zpu w w' E Bw vb v' (n+m) xs
theorem Zny {w:World} {base g n c:Nat} {xs:List Value} {e:TypeId} (h:w.ownsRow base e 1 (.slice (some ⟨g,0,none⟩) n c) n xs):xs.length=n:=by have:=h.1;omega
theorem Zsk {w w1:World} {E Bw n:Nat} {vb:Value} {xs:List Value} (h:MwAt w E Bw vb n xs) (g:w.grownBy w1 none):MwAt w1 E Bw vb n xs :=
 ⟨Zf h.box g (by simp),h.row.kept g (Classical.em _),h.lt,Nat.le_trans h.le g.size⟩
theorem Yhe {w w1 w2:World} {E Bw n:Nat} {vb v':Value} {xs:List Value} (h:Zpu w1 w2 E Bw vb v' n xs) (g:w.grownBy w1 none):Zpu w w2 E Bw vb v' n xs :=
 ⟨h.at_,Zza (Zji (P:=MwP Bw vb) g (by simp)) h.sp (fun _ _ h=>h),h.hat.imp id fun ⟨k,h1,h2⟩=>⟨k,h1,Nat.le_trans g.size h2⟩⟩
theorem Zla (E Bw:Nat) (vb:Value) (n:Nat) (xs:List Value) (hx:∀ u∈xs,u.oneCell'=true) (a:Int) (ha:0<=a) (ha2:a<9223372036854775808) (hn:n+9<=4194304) (w:World) (hM:MwAt w E Bw vb n xs) :
 Calls Tryz.prog 87 #[.pointer (some ⟨Bw,0,none⟩),.int .i64 a] w (Ztc w E Bw vb n):=by
 have MW:=Hq hM
 have F:=Hq (Zjz a ha (by omega) w)
 clear hM
 go_enter Tryz.func87,Tryz.ntmps87
 go_wp2_with (first
  | (go_at_call 126;refine F.out.mono ?_;rintro e w1 ⟨g,m,c,ys,rfl,hm1,hm9,hown,ho1,hg⟩;have OW:=Hq hown;have HO:=Hq ho1;have GW:=Hq hg;have AD:=Hq (Yjt E Bw w1.heap.size g m c vb n xs ys (w1.alloc (.cells #[.slice (some ⟨g,0,none⟩) m c] 23)) (Yac (Zsk MW.out hg) _) (by rw [World.cell?_alloc_at (hn:=rfl)];rfl) (Zny hown) (fun j u hu=>((hown.alloc _).cells rfl) j u hu) ho1 (by omega) hm1);clear hown hg ho1)
  | (go_at_call 125;refine AD.out.mono ?_;rintro e w2 ⟨rfl,v2,hf⟩;have FN:=Hq (Yhe hf (Za GW.out (Ga _ _ none)));clear hf))
 go_end0
 exact ⟨rfl,_,_,_,hm1,hm9,fun u hu=>(List.mem_append.1 hu).elim (hx u) (HO.out u),FN.out⟩
theorem Zog (E Bw:Nat) (vb:Value) (n:Nat) (xs:List Value) (hx:∀ u∈xs,u.oneCell'=true) (a:Int) (hn:n+9<=4194304) (w:World) (hM:MwAt w E Bw vb n xs) :
 Calls Tryz.prog 120 #[.pointer (some ⟨Bw,0,none⟩),.int .i64 a] w (Ztc w E Bw vb n):=by
 have MW:=Hq hM
 have F:=Hq (Zjz · · · w)
 clear hM
 go_enter Tryz.func120,Tryz.ntmps120
 go_wp2_with (first
  | (go_at_call 126;refine (F.out _ (bits_lo_u64 _ _ _) (Int.lt_of_le_sub_one (bits_hi_u64 _ _ _))).mono ?_;rintro e w1 ⟨g,m,c,ys,rfl,hm1,hm9,hown,ho1,hg⟩;have OW:=Hq hown;have HO:=Hq ho1;have GW:=Hq hg;have AD:=Hq (Yjt E Bw w1.heap.size g m c vb n xs ys (w1.alloc (.cells #[.slice (some ⟨g,0,none⟩) m c] 23)) (Yac (Zsk MW.out hg) _) (by rw [World.cell?_alloc_at (hn:=rfl)];rfl) (Zny hown) (fun j u hu=>((hown.alloc _).cells rfl) j u hu) ho1 (by omega) hm1);clear hown hg ho1)
  | (go_at_call 125;refine AD.out.mono ?_;rintro e w2 ⟨rfl,v2,hf⟩;have FN:=Hq (Yhe hf (Za GW.out (Ga _ _ none)));clear hf))
 go_end0
 exact ⟨rfl,_,_,_,hm1,hm9,fun u hu=>(List.mem_append.1 hu).elim (hx u) (HO.out u),FN.out⟩
theorem Ysd (w:World):Calls Tryz.prog 83 #[] w fun e w'=>e = .returned (.pointer (some ⟨w.heap.size,0,none⟩))/\w'=w.alloc (.cells #[.slice none 0 0,.int .i64 0] 214):=by
 go_enter Tryz.func83,Tryz.ntmps83
 go_wp2
 go_ret
 exact ⟨rfl,rfl⟩
def Yop (w:World) (e:Ending) (w':World):Prop:=∃ v,e = .returned (.tuple #[v,.int .i64 0])/\w.grownBy w' none
theorem Yja (p:Option Addr) (n c:Nat) (xs:List Value) (E:Nat) (w:World) (h:w.ownsRow E 5 1 (.slice p n c) n xs) (hx:∀ u∈xs,u.oneCell'=true) (hn:n<=4194304) :
 Calls Tryz.prog 127 #[.slice p n c] w fun e w'=>(∃ v,e = .returned v)/\w.grownBy w' none:=by
 go_enter Tryz.func127,Tryz.ntmps127
 obtain ⟨bi,bi0,bi1,bi2,bi3⟩:=info_parts Zaz
 have hc3:0+n<=maxLen:=by unfold maxLen;omega
 have hc4:(0+n)*1<=140737488355328:=by omega
 rcases h.2 with ⟨e0,rfl⟩|⟨g,cap,cur,e0,-⟩
 · injection e0 with e1 e2 e3
   subst e1;subst e3
   have hq:=fun W=>Lib.run_eql_slice_nil (P:=Tryz.prog) W 23 5 none 0 0 0 0 Xv
   go_wp2
   go_ret
   exact ⟨⟨_,rfl⟩,Zb _ _⟩
 · injection e0 with e1 e2 e3
   subst e1;subst e3
   have HC:=Hq (h.alloc (.cells #[] 5))
   have O0:=Hq (World.ownsRow_lit (base:=w.heap.size) (e:=5) (size:=1) w #[] 0 (Nat.le_refl _) (by decide) rfl)
   have hl:=Zny h
   have hq:=fun W=>Lib.run_eql_slice_nil (P:=Tryz.prog) W 23 5 (some ⟨g,0,none⟩) n c 0 0 Xv
   clear h
   go_wp2_with (at_builtin;refine wpList_append_own_at _ rfl _ _ 23 rfl w.heap.size 5 bi (.int .u8 0) 1 1 Xv bi0 bi1 bi2 bi3 rfl (by decide) (.slice (some ⟨w.heap.size,0,none⟩) 0 0) _ _ rfl O0.out ⟨g,0,none⟩ n c xs rfl (by omega) (fun j u hu=>(HC.out.cells rfl) j u hu) hx hc3 hc4 (by simp) ?_;intro v3 w3 hown3 hgr3 hnil3 hat3;obtain ⟨p3,k3,hv3⟩:=Zi hown3;subst hv3;have OW3:=Hq hown3;have GR3:=Hq hgr3;clear hown3 hgr3 hnil3 hat3)
   go_ret
   exact ⟨⟨_,rfl⟩,Zej (Ga w _ none) GR3.out fun k hk=>(O0.out.lt k hk).1⟩
theorem Ynw (E Bw:Nat) (vb:Value) (n:Nat) (xs:List Value) (hx:∀ u∈xs,u.oneCell'=true) (hn:n<=4194304) (w:World) (hM:MwAt w E Bw vb n xs) :
 Calls Tryz.prog 88 #[.pointer (some ⟨Bw,0,none⟩)] w (Yop w):=by
 obtain ⟨pb,cb,rfl⟩:=Zi hM.row
 have c0:=Cq w Bw 0 _ _ _ hM.box
 have c1:=Cq w Bw 1 _ _ _ hM.box
 have C:=Hq (Yja pb n cb xs E w hM.row hx hn)
 clear hM
 go_enter Tryz.func88,Tryz.ntmps88
 go_wp2_with (go_at_call 127;refine C.out.mono ?_;rintro e w1 ⟨⟨v,rfl⟩,hg⟩;have GW:=Hq hg;clear hg)
 go_ret2
 exact ⟨_,rfl,GW.out⟩
def bK (k:Nat):Int:=match k with|2=>64|3=>4096|4=>64|5=>5|_=>256
def Zlc (k:Nat) (a:Int):Bool:=if k=0 then a == 0 else if k=1 then true else decide (0<=a) && decide (a<bK k)
def Zkb:List (Int × Int)->Int
 | []=>0
 | x::r=>match Yx x.1 with
   | none=>111
   | some s=>if Zlc s.2.1.toNat x.2=true then Zkb r else 112
theorem Zvj {l:List (Int × Int)} {i:Nat} {op a:Int} (h:l[i]? = some (op,a)):Zkb (l.drop i)=match Yx op with
 | none=>111
 | some s=>if Zlc s.2.1.toNat a=true then Zkb (l.drop (i+1)) else 112:=by
 obtain ⟨hi,he⟩:=List.getElem?_eq_some_iff.1 h
 rw [List.drop_eq_getElem_cons hi,he]
 rfl
def Zpj (w:World) (B:Nat) (p:Option Addr) (l:List (Int × Int)):Prop:=0<l.length->∃ b o:Nat,p=some ⟨b,o,none⟩/\b<B/\∀ i op a,l[i]? = some (op,a)->w.cell? ⟨b,o+i*2,none⟩=some (.int .i64 op)/\w.cell? ⟨b,o+i*2+1,none⟩=some (.int .i64 a)
theorem Zbi {w w':World} {row:Option Nat} {B:Nat} {p:Option Addr} {l:List (Int × Int)} (h:Zpj w B p l) (g:w.grownBy w' row) (hr:∀ r,row=some r->B<=r):Zpj w' B p l:=fun h0=>by
 obtain ⟨b,o,e,hb,hc⟩:=h h0
 refine ⟨b,o,e,hb,fun i op a hi => ?_⟩
 obtain ⟨h1,h2⟩:=hc i op a hi
 exact ⟨Xu g hr hb h1,Xu g hr hb h2⟩
def KC (k:Nat) (a b c:Value) (w:World) (Bw E:Nat):Prop :=
 (k=0/\a = .func (.func 116) #[] #[]/\b = .func (.func 117) #[] #[]/\c = .func (.func 118) #[] #[]) \/
 (k=1/\a = .func (.func 119) #[] #[]/\b = .func (.func 120) #[] #[]/\c = .func (.func 121) #[] #[]) \/
 (2<=k/\∃ bb,a = .func (.func 146) #[] #[.pointer (some ⟨bb,0,none⟩)]/\b = .func (.func 87) #[] #[]/\c = .func (.func 147) #[] #[]/\Bw<bb/\bb<E/\w.cell? ⟨bb,0,none⟩=some (.int .i64 (bK k)))
def Zte (w:World) (Bw E K:Nat):Prop:=Bw<K/\K<E/\∀ k,k<7->∃ a b c,KC k a b c w Bw E/\w.cell? ⟨K,k*3,none⟩=some a/\w.cell? ⟨K,k*3+1,none⟩=some b/\w.cell? ⟨K,k*3+2,none⟩=some c
theorem Zjw {w:World} {lo Bw k:Nat} {n:Int} {a b c:Value} (h:Zcn lo n (.agg #[a,b,c]) w) (hB:Bw<lo) (hk:2<=k) (hn:n=bK k) {E:Nat} (hE:w.heap.size<=E):KC k a b c w Bw E:=by
 obtain ⟨bb,e,hl,hc⟩:=h
 injection e with e
 injection e with e
 injection e with e1 e
 injection e with e2 e
 injection e with e3 e
 subst e1;subst e2;subst e3;subst hn
 exact Or.inr (Or.inr ⟨hk,bb,rfl,rfl,rfl,by omega,Nat.lt_of_lt_of_le (World.block_lt_of_cell? _ _ hc) hE,hc⟩)
theorem Ydc {w:World} {lo Bw K:Nat} (h:Zhj w lo K) (hB:Bw<lo) {E:Nat} (hE:w.heap.size<=E):Zte w Bw E K:=by
 refine ⟨Nat.lt_of_lt_of_le hB h.2.1,Nat.lt_of_lt_of_le h.1 hE,fun k hk => ?_⟩
 obtain ⟨a,b,c,h1,h2⟩:=h.2.2 k hk
 refine ⟨a,b,c,?_,h2⟩
 match k,hk,h1 with
 | 0,_,h1=>injection h1 with e;injection e with e;injection e with e1 e;injection e with e2 e;injection e with e3 e;exact Or.inl ⟨rfl,e1,e2,e3⟩
 | 1,_,h1=>injection h1 with e;injection e with e;injection e with e1 e;injection e with e2 e;injection e with e3 e;exact Or.inr (Or.inl ⟨rfl,e1,e2,e3⟩)
 | 2,_,h1=>exact Zjw h1 hB (by decide) rfl hE
 | 3,_,h1=>exact Zjw h1 hB (by decide) rfl hE
 | 4,_,h1=>exact Zjw h1 hB (by decide) rfl hE
 | 5,_,h1=>exact Zjw h1 hB (by decide) rfl hE
 | 6,_,h1=>exact Zjw h1 hB (by decide) rfl hE
theorem Yxc {P:Nat->Prop} {k:Nat} {a b c:Value} {w w':World} {Bw E:Nat} (h:KC k a b c w Bw E) (g:Sp P w w') (hp:∀ j,Bw<j->j<E->¬ P j):KC k a b c w' Bw E:=by
 rcases h with h|h|⟨h1,bb,e1,e2,e3,h2,h3,h4⟩
 · exact Or.inl h
 · exact Or.inr (Or.inl h)
 · exact Or.inr (Or.inr ⟨h1,bb,e1,e2,e3,h2,h3,Znl h4 g (hp _ h2 h3)⟩)
theorem Zqx {P:Nat->Prop} {w w':World} {Bw E K:Nat} (h:Zte w Bw E K) (g:Sp P w w') (hp:∀ j,Bw<j->j<E->¬ P j):Zte w' Bw E K:=by
 obtain ⟨h1,h2,h3⟩:=h
 refine ⟨h1,h2,fun k hk => ?_⟩
 obtain ⟨a,b,c,q1,q2,q3,q4⟩:=h3 k hk
 exact ⟨a,b,c,Yxc q1 g hp,Znl q2 g (hp _ h1 h2),Znl q3 g (hp _ h1 h2),Znl q4 g (hp _ h1 h2)⟩
structure EncS (w0 wr:World) (E Bw S K n:Nat) (vb:Value) (xs:List Value):Prop where
 gr:w0.grownBy wr none
 bw:w0.heap.size<=Bw
 mw:MwAt wr E Bw vb n xs
 sh:Zke wr S
 s1:Bw<S
 s2:S<E
 kd:Zte wr Bw E K
 one:∀ u∈xs,u.oneCell'=true
theorem Zrg {w0 wr w':World} {E Bw S K n:Nat} {vb:Value} {xs:List Value} (h:EncS w0 wr E Bw S K n vb xs) (g:wr.grownBy w' none):EncS w0 w' E Bw S K n vb xs :=
 ⟨Za h.gr g,h.bw,Zsk h.mw g,Zjk h.sh g (by simp),h.s1,h.s2,Zqx (P:=fun _=>False) h.kd (Zji g (by simp)) (fun _ _ _ h=>h),h.one⟩
theorem Zmw {w0 wr w':World} {E Bw S K n m:Nat} {vb v':Value} {xs ys:List Value} (h:EncS w0 wr E Bw S K n vb xs) (f:Zpu wr w' E Bw vb v' m ys) (hy:∀ u∈ys,u.oneCell'=true):EncS w0 w' E Bw S K m v' ys:=by
 have hbw:=h.bw
 have hlt:=h.mw.lt
 have hP:∀ j,Bw<j->j<E->¬ MwP Bw vb j:=by
  intro j h1 h2 h3
  rcases h3 with h3|h3
  · omega
  · have:=(h.mw.row.lt j h3).1;omega
 refine ⟨⟨f.sp.os.trans h.gr.os,f.sp.tape.trans h.gr.tape,f.sp.output.trans h.gr.output,Nat.le_trans h.gr.size f.sp.size,fun k hk hn => ?_⟩,hbw,f.at_,⟨Nat.lt_of_lt_of_le h.sh.1 f.sp.size,fun i v hi=>Znl (h.sh.2 i v hi) f.sp (hP _ h.s1 h.s2)⟩,h.s1,h.s2,Zqx h.kd f.sp hP,hy⟩
 rw [f.sp.block k (Nat.lt_of_lt_of_le hk h.gr.size) ?_]
 · exact h.gr.block k hk hn
 · rintro (e|e)
   · omega
   · have:=(h.mw.row.lt k e).1;omega
theorem Zpz:∀ x∈shapeT,0<=x.2.1/\x.2.1<7:=by
 intro x hx
 simp only [shapeT,List.mem_cons,List.not_mem_nil,or_false] at hx
 rcases hx with rfl|rfl|rfl|rfl|rfl|rfl|rfl|rfl|rfl|rfl|rfl|rfl|rfl|rfl|rfl|rfl|rfl|rfl|rfl|rfl|rfl|rfl|rfl|rfl|rfl|rfl|rfl|rfl|rfl|rfl|rfl|rfl|rfl|rfl|rfl|rfl|rfl|rfl|rfl|rfl|rfl|rfl|rfl|rfl|rfl|rfl <;> exact ⟨by decide,by decide⟩
theorem Zjt (a:Int) (w:World):Calls Tryz.prog 116 #[.int .i64 a] w fun e w'=>e = .returned (.bool (a == 0))/\w'=w:=by
 go_enter Tryz.func116,Tryz.ntmps116
 go_wp2
 go_ret
 exact ⟨rfl,rfl⟩
theorem Zoa (a:Int) (w:World):Calls Tryz.prog 119 #[.int .i64 a] w fun e w'=>e = .returned (.bool true)/\w'=w:=by
 go_enter Tryz.func119,Tryz.ntmps119
 go_wp2
 go_ret
 exact ⟨rfl,rfl⟩
theorem Zgy (a n:Int) (bb:Nat) (w:World) (h:w.cell? ⟨bb,0,none⟩=some (.int .i64 n)):Calls Tryz.prog 146 #[.int .i64 a,.pointer (some ⟨bb,0,none⟩)] w fun e w'=>e = .returned (.bool (decide (0<=a) && decide (a<n)))/\w'=w:=by
 by_cases h1:0<=a
 · go_enter Tryz.func146,Tryz.ntmps146
   go_wp2
   go_ret
   exact ⟨by simp [h1],rfl⟩
 · go_enter Tryz.func146,Tryz.ntmps146
   go_wp2
   go_ret
   exact ⟨by simp [h1];omega,rfl⟩
theorem Zjp (p:Option Addr) (a:Int) (w:World):Calls Tryz.prog 117 #[.pointer p,.int .i64 a] w fun e w'=>e = .returned (.tuple #[])/\w'=w:=by
 go_enter Tryz.func117,Tryz.ntmps117
 go_wp2
 go_end0
 exact ⟨rfl,rfl⟩
theorem Ztu {op:Int} {nm:ByteArray} {o t g:Int} (h:Yx op=some (nm,o,t,g)):∃ k:Nat,o=k/\k<7/\0<=op/\op<46:=by
 by_cases hop:0<=op/\op<46
 · obtain ⟨n,x,rfl,hn,hx,hs⟩:=Zcx hop
   rw [h] at hs
   injection hs with hs
   subst hs
   obtain ⟨h0,h7⟩:=Zpz _ (List.mem_of_getElem? hx)
   obtain ⟨k,hk⟩:=Int.eq_ofNat_of_zero_le h0
   simp only [] at hk h7
   exact ⟨k,hk,by omega,hop.1,hop.2⟩
 · rw [Zbr hop] at h;cases h
def Yyc (w:World) (E Bw:Nat) (vb:Value) (n:Nat) (e:Ending) (w':World):Prop:=e = .returned (.tuple #[])/\∃ v' m xs,m<=9/\(∀ u∈xs,u.oneCell'=true)/\Zpu w w' E Bw vb v' (n+m) xs
theorem Zep {w w':World} {E Bw n:Nat} {vb:Value} {e:Ending} (h:Ztc w E Bw vb n e w'):Yyc w E Bw vb n e w':=by
 obtain ⟨h1,v',m,xs,_,h3,h4,h5⟩:=h;exact ⟨h1,v',m,xs,h3,h4,h5⟩
theorem Zgt {w:World} {E Bw n:Nat} {vb:Value} {xs:List Value} (h:MwAt w E Bw vb n xs) (hx:∀ u∈xs,u.oneCell'=true):Yyc w E Bw vb n (.returned (.tuple #[])) w :=
 ⟨rfl,vb,0,xs,by omega,hx,h,Yqs _ _,Or.inl rfl⟩
theorem Yab {w w':World} {E Bw n m:Nat} {vb v':Value} {xs ys:List Value} (h:MwAt w E Bw vb n xs) (f:Zpu w w' E Bw vb v' m ys) {b:Nat} {ob:Obj} (hb:w.heap[b]? = some ob) (hE:E<=b) (hv:∀ k,vb.ownBlock=some k->k<b):w'.heap[b]? = some ob:=by
 rw [f.sp.block b (Gs hb) ?_]
 · exact hb
 · rintro (e|e)
   · have:=h.lt;omega
   · have:=hv b e;omega
theorem Zou {w wr w4 w6:World} {E Bw S K n m:Nat} {vb v6:Value} {xs ys:List Value} {ob8 o9 o11:Obj} (h:EncS w wr E Bw S K n vb xs) (g:wr.grownBy w4 none) (hx:w4.heap[wr.heap.size]? = some ob8)
 (f:Zpu ((w4.alloc o9).alloc o11) w6 E Bw vb v6 m ys) (hy:∀ u∈ys,u.oneCell'=true):EncS w w6 E Bw S K m v6 ys/\w6.heap[wr.heap.size]? = some ob8/\w6.heap[w4.heap.size+1]? = some o11:=by
 have g2:=Za g (Za (Ga w4 o9 none) (Ga _ o11 none))
 have h2:=Zrg h g2
 have hle:=h.mw.le
 have hsz:=g.size
 refine ⟨Zmw h2 f hy,Yab h2.mw f (Zf (Zf hx (Ga w4 o9 none) (by simp)) (Ga _ o11 none) (by simp)) hle (fun k hk=>(h.mw.row.lt k hk).2),Yab h2.mw f (Yaq w4 o9 o11) (by omega) (fun k hk=>by have:=(h.mw.row.lt k hk).2;omega)⟩
theorem Yxl (k:Nat):bK k<=4096:=by unfold bK;split <;> decide
def Zkc (l:List (Int × Int)):Int:=if 4096<l.length then 2 else Zkb l
def Yjy (w:World) (l:List (Int × Int)) (e:Ending) (w':World):Prop:=∃ v,e = .returned (.tuple #[v,.int .i64 (Zkc l)])/\w.grownBy w' none
theorem Ydm (l:List (Int × Int)) (p:Option Addr) (c B:Nat) (w:World) (hB:B<=w.heap.size) (hC:Zpj w B p l) :
 Calls Tryz.prog 59 #[.slice p l.length c] w (Yjy w l):=by
 have CC:=Hq hC
 clear hC
 by_cases h4:(4096:Int)<(l.length:Int)
 · have hE:Zkc l=2:=by unfold Zkc;rw [if_pos (by omega)]
   go_enter Tryz.func59,Tryz.ntmps59
   go_wp2
   go_ret2
   exact ⟨.slice none 0 0,by rw [hE];rfl,Zb _ _⟩
 · have hE:Zkc l=Zkb l:=by unfold Zkc;rw [if_neg (by omega)]
   have N:=Hq Ysd
   have KO:=Hq Zuh
   have SH:=Hq Zko
   go_enter Tryz.func59,Tryz.ntmps59
   go_wp2_with (first
    | (go_at_call 83;refine (N.out _).mono ?_;rintro e w1 ⟨rfl,rfl⟩)
    | (go_at_call 84;refine (KO.out _).mono ?_;rintro e w2 ⟨K,rfl,hg2,hk2⟩;have G2:=Hq hg2;have K2:=Hq hk2;clear hg2 hk2)
    | (go_at_call 85;refine (SH.out _).mono ?_;rintro e w3 ⟨S,rfl,hg3,hS,hs3⟩;have G3:=Hq hg3;have S3:=Hq hs3;clear hg3 hs3))
   have ES:=Hq (EncS.mk (Za (Za (Ga w _ none) G2.out) G3.out) (Nat.le_refl _) (MwAt.mk (Zf (Zf (heap_alloc_new w _) G2.out (by simp)) G3.out (by simp)) (World.ownsRow_nil _ _ _ _) (by have:=S3.out.1;have:=G2.out.size;simp at this;omega) (Nat.le_refl _)) S3.out (by have:=G2.out.size;simp at this;omega) S3.out.1 (Ydc (Bw:=w.heap.size) (Zma K2.out G3.out) (by simp) (Nat.le_refl _)) (by simp):EncS w w3 w3.heap.size w.heap.size S K 0 (.slice none 0 0) [])
   have hEw:w.heap.size<w3.heap.size:=ES.out.mw.lt
   generalize w3.heap.size=E at *
   clear K2 S3 hS G2
   go_loopw [20] (fun i wr=>∃ (k n:Nat) (vb:Value) (xs:List Value),i = .int .i64 k/\k<=l.length/\n<=18*k/\Zkb l=Zkb (l.drop k)/\EncS w wr E w.heap.size S K n vb xs) (fun i _=>l.length - (intOf i).toNat)
   case atStart=>exact ⟨0,0,_,_,rfl,Nat.zero_le _,Nat.le_refl _,rfl,ES.out⟩
   case round =>
    obtain ⟨k,n,vb,xs,rfl,hk,hn,he,hes⟩:=hrel
    have HE:=Hq he
    have ER:=Hq hes
    clear he hes
    by_cases hlt:(k:Int)<(l.length:Int)
    · obtain ⟨⟨op,a⟩,hg⟩:∃ x,l[k]? = some x:=⟨_,List.getElem?_eq_getElem (by omega)⟩
      obtain ⟨b,o,rfl,hb,hc⟩:=CC.out (by omega)
      obtain ⟨c0,c1⟩:=hc k op a hg
      replace c0:=Xu ER.out.gr (B:=B) (by simp) hb c0
      replace c1:=Xu ER.out.gr (B:=B) (by simp) hb c1
      have hb2:b<wr.heap.size:=by have:=ER.out.gr.size;omega
      have hd:=Zvj hg
      have R:=Hq (Ztt op S (wr.alloc (.cells #[.int .i64 op,.int .i64 a] 58)) (Zjk ER.out.sh (Ga _ _ none) (by simp)))
      clear hc
      cases hs:Yx op with
      | none =>
        rw [hs] at hd R
        simp only [] at hd
        simp only [Zqb] at R
        have HR:=Hq (hE.trans (HE.out.trans hd))
        clear hd hg
        go_wp2_with (go_at_call 86;refine R.out.mono ?_;rintro e w4 ⟨rfl,hg4⟩;have G4:=Hq hg4;clear hg4)
        go_ret2
        exact ⟨.slice none 0 0,by rw [HR.out];rfl,Za ER.out.gr (Za (Ga _ _ none) (Za G4.out (Ga _ _ none)))⟩
      | some s =>
        obtain ⟨nm,ok,tk,gk⟩:=s
        obtain ⟨kd,rfl,hk7,ho0,ho46⟩:=Ztu hs
        rw [hs] at hd R
        simp only [Int.toNat_natCast] at hd
        simp only [Zqb] at R
        obtain ⟨ka,kb,kc,hkc,q0,q1,q2⟩:=ER.out.kd.2.2 kd hk7
        have hKB:=ER.out.kd.1
        have hKE:=ER.out.kd.2.1
        have hKw:K<wr.heap.size:=by have:=ER.out.mw.le;omega
        have hki:(kd:Int)<7:=by omega
        have HD:=Hq hd
        have HKC:=Hq hkc
        have MV:=Hq (show ∀ W,wr.grownBy W none->W.cell? ⟨K,kd*3,none⟩=some ka/\W.cell? ⟨K,kd*3+1,none⟩=some kb/\W.cell? ⟨K,kd*3+2,none⟩=some kc from fun W g=>⟨g.cell q0 (by simp),g.cell q1 (by simp),g.cell q2 (by simp)⟩)
        have BV:=Hq (show ∀ (W:World) (bb:Nat),wr.grownBy W none->wr.cell? ⟨bb,0,none⟩=some (.int .i64 (bK kd))->W.cell? ⟨bb,0,none⟩=some (.int .i64 (bK kd)) from fun W bb g h=>g.cell h (by simp))
        have NU:=Hq (show ∀ W,wr.grownBy W none->Calls Tryz.prog 87 #[.pointer (some ⟨w.heap.size,0,none⟩),.int .i64 op] W (Ztc W E w.heap.size vb n) from fun W g=>Zla E w.heap.size vb n xs ER.out.one op ho0 (by omega) (by omega) W (Zrg ER.out g).mw)
        clear hd hkc q0 q1 q2 hs hg
        rcases HKC.out with ⟨hk0,rfl,rfl,rfl⟩|⟨hk0,rfl,rfl,rfl⟩|⟨hk0,bb,rfl,rfl,rfl,hb1,hb2',hbc⟩
        · by_cases hm:(a == 0)=true
          · have hd2:=HD.out
            rw [if_pos (show Zlc kd a=true by unfold Zlc;rw [if_pos hk0];exact hm)] at hd2
            have H2:=Hq (HE.out.trans hd2)
            clear hd2 HKC hk0
            (
              go_wp2_with (first
               | (go_at_call 86;refine R.out.mono ?_;rintro e w4 ⟨rfl,hg4⟩;have G4:=Hq (Za (Ga wr _ none) hg4);have m4:=MV.out w4 G4.out;obtain ⟨m0,m1,m2⟩:=m4;have hKw4:K<w4.heap.size:=Nat.lt_of_lt_of_le hKw G4.out.size;have X8:=Hq (Zf (heap_alloc_new wr (.cells #[.int .i64 op,.int .i64 a] 58)) hg4 (by simp));have x81:=Cq w4 _ 1 _ _ _ X8.out;have x80:=Cq w4 _ 0 _ _ _ X8.out;have hl8:wr.heap.size<w4.heap.size:=(Gs X8.out);clear hg4 R)
               | (go_at_call 116;refine (Zjt _ _).mono ?_;rintro e w5 ⟨rfl,rfl⟩;rw [hm])
               | (go_at_call 119;refine (Zoa _ _).mono ?_;rintro e w5 ⟨rfl,rfl⟩)
               | (go_at_call 146;refine (Zgy _ _ _ _ (BV.out _ _ (Za G4.out (Za (Ga _ _ _) (Ga _ _ _))) hbc)).mono ?_;rintro e w5 ⟨rfl,rfl⟩;rw [hm])
               | (go_at_call 87;refine (NU.out _ (Za G4.out (Za (Ga _ _ _) (Ga _ _ _)))).mono ?_;rintro e w6 ⟨rfl,v6,j6,ys6,h61,h69,ho6,f6⟩;have EM:=Zou ER.out G4.out X8.out f6 ho6;obtain ⟨t1,t2,t3⟩:=EM;have E6:=Hq t1;have O6:=Hq ho6;clear NU x81 x80 hl8 m0 m1 m2 hKw4;have y81:=Cq w6 _ 1 _ _ _ t2;have y111:=Cq w6 _ 1 _ _ _ t3;have hl8:wr.heap.size<w6.heap.size:=(Gs t2);have hl11:w4.heap.size+1<w6.heap.size:=(Gs t3);clear t1 t2 t3 f6 ho6)
               | (go_at_call 117;refine (Zjp _ _ _).mono ?_;rintro e w7 ⟨rfl,rfl⟩;have P7:=Hq (Zgt E6.out.mw E6.out.one))
               | (go_at_call 120;refine (Zog _ _ _ _ _ E6.out.one _ (by omega) _ E6.out.mw).mono ?_;intro e w7 hp7;have P7:=Hq (Zep hp7);have he7:=hp7.1;subst he7;clear hp7)
               | (go_at_call 87;refine (Zla _ _ _ _ _ E6.out.one _ HA.out.1 HA.out.2 (by omega) _ E6.out.mw).mono ?_;intro e w7 hp7;have P7:=Hq (Zep hp7);have he7:=hp7.1;subst he7;clear hp7)))
            (
              obtain ⟨-,v7,m7,xs7,h7,ho7,f7⟩:=P7.out
              exact ⟨⟨k+1,n+j6+m7,v7,xs7,by go_num,by omega,by omega,H2.out,Zmw E6.out f7 ho7⟩,by simp [intOf];omega⟩)
          · replace hm:(a == 0)=false:=by simpa using hm
            have hd2:=HD.out
            rw [if_neg (show ¬ Zlc kd a=true by unfold Zlc;rw [if_pos hk0,hm];simp)] at hd2
            have H2:=Hq (hE.trans (HE.out.trans hd2))
            clear hd2 HKC hk0
            (
              go_wp2_with (first
               | (go_at_call 86;refine R.out.mono ?_;rintro e w4 ⟨rfl,hg4⟩;have G4:=Hq (Za (Ga wr _ none) hg4);have m4:=MV.out w4 G4.out;obtain ⟨m0,m1,m2⟩:=m4;have hKw4:K<w4.heap.size:=Nat.lt_of_lt_of_le hKw G4.out.size;have X8:=Hq (Zf (heap_alloc_new wr (.cells #[.int .i64 op,.int .i64 a] 58)) hg4 (by simp));have x81:=Cq w4 _ 1 _ _ _ X8.out;have x80:=Cq w4 _ 0 _ _ _ X8.out;have hl8:wr.heap.size<w4.heap.size:=(Gs X8.out);clear hg4 R)
               | (go_at_call 116;refine (Zjt _ _).mono ?_;rintro e w5 ⟨rfl,rfl⟩;rw [hm])
               | (go_at_call 119;refine (Zoa _ _).mono ?_;rintro e w5 ⟨rfl,rfl⟩)
               | (go_at_call 146;refine (Zgy _ _ _ _ (BV.out _ _ (Za G4.out (Za (Ga _ _ _) (Ga _ _ _))) hbc)).mono ?_;rintro e w5 ⟨rfl,rfl⟩;rw [hm])
               | (go_at_call 87;refine (NU.out _ (Za G4.out (Za (Ga _ _ _) (Ga _ _ _)))).mono ?_;rintro e w6 ⟨rfl,v6,j6,ys6,h61,h69,ho6,f6⟩;have EM:=Zou ER.out G4.out X8.out f6 ho6;obtain ⟨t1,t2,t3⟩:=EM;have E6:=Hq t1;have O6:=Hq ho6;clear NU x81 x80 hl8 m0 m1 m2 hKw4;have y81:=Cq w6 _ 1 _ _ _ t2;have y111:=Cq w6 _ 1 _ _ _ t3;have hl8:wr.heap.size<w6.heap.size:=(Gs t2);have hl11:w4.heap.size+1<w6.heap.size:=(Gs t3);clear t1 t2 t3 f6 ho6)
               | (go_at_call 117;refine (Zjp _ _ _).mono ?_;rintro e w7 ⟨rfl,rfl⟩;have P7:=Hq (Zgt E6.out.mw E6.out.one))
               | (go_at_call 120;refine (Zog _ _ _ _ _ E6.out.one _ (by omega) _ E6.out.mw).mono ?_;intro e w7 hp7;have P7:=Hq (Zep hp7);have he7:=hp7.1;subst he7;clear hp7)
               | (go_at_call 87;refine (Zla _ _ _ _ _ E6.out.one _ HA.out.1 HA.out.2 (by omega) _ E6.out.mw).mono ?_;intro e w7 hp7;have P7:=Hq (Zep hp7);have he7:=hp7.1;subst he7;clear hp7)))
            (
              go_ret2
              exact ⟨.slice none 0 0,by rw [H2.out];rfl,Za ER.out.gr (Za G4.out (Za (Ga _ _ _) (Ga _ _ _)))⟩)
        · have hd2:=HD.out
          rw [if_pos (show Zlc kd a=true by unfold Zlc;rw [if_neg (by omega),if_pos hk0])] at hd2
          have H2:=Hq (HE.out.trans hd2)
          clear hd2 HKC hk0
          (
            go_wp2_with (first
             | (go_at_call 86;refine R.out.mono ?_;rintro e w4 ⟨rfl,hg4⟩;have G4:=Hq (Za (Ga wr _ none) hg4);have m4:=MV.out w4 G4.out;obtain ⟨m0,m1,m2⟩:=m4;have hKw4:K<w4.heap.size:=Nat.lt_of_lt_of_le hKw G4.out.size;have X8:=Hq (Zf (heap_alloc_new wr (.cells #[.int .i64 op,.int .i64 a] 58)) hg4 (by simp));have x81:=Cq w4 _ 1 _ _ _ X8.out;have x80:=Cq w4 _ 0 _ _ _ X8.out;have hl8:wr.heap.size<w4.heap.size:=(Gs X8.out);clear hg4 R)
             | (go_at_call 116;refine (Zjt _ _).mono ?_;rintro e w5 ⟨rfl,rfl⟩;rw [hm])
             | (go_at_call 119;refine (Zoa _ _).mono ?_;rintro e w5 ⟨rfl,rfl⟩)
             | (go_at_call 146;refine (Zgy _ _ _ _ (BV.out _ _ (Za G4.out (Za (Ga _ _ _) (Ga _ _ _))) hbc)).mono ?_;rintro e w5 ⟨rfl,rfl⟩;rw [hm])
             | (go_at_call 87;refine (NU.out _ (Za G4.out (Za (Ga _ _ _) (Ga _ _ _)))).mono ?_;rintro e w6 ⟨rfl,v6,j6,ys6,h61,h69,ho6,f6⟩;have EM:=Zou ER.out G4.out X8.out f6 ho6;obtain ⟨t1,t2,t3⟩:=EM;have E6:=Hq t1;have O6:=Hq ho6;clear NU x81 x80 hl8 m0 m1 m2 hKw4;have y81:=Cq w6 _ 1 _ _ _ t2;have y111:=Cq w6 _ 1 _ _ _ t3;have hl8:wr.heap.size<w6.heap.size:=(Gs t2);have hl11:w4.heap.size+1<w6.heap.size:=(Gs t3);clear t1 t2 t3 f6 ho6)
             | (go_at_call 117;refine (Zjp _ _ _).mono ?_;rintro e w7 ⟨rfl,rfl⟩;have P7:=Hq (Zgt E6.out.mw E6.out.one))
             | (go_at_call 120;refine (Zog _ _ _ _ _ E6.out.one _ (by omega) _ E6.out.mw).mono ?_;intro e w7 hp7;have P7:=Hq (Zep hp7);have he7:=hp7.1;subst he7;clear hp7)
             | (go_at_call 87;refine (Zla _ _ _ _ _ E6.out.one _ HA.out.1 HA.out.2 (by omega) _ E6.out.mw).mono ?_;intro e w7 hp7;have P7:=Hq (Zep hp7);have he7:=hp7.1;subst he7;clear hp7)))
          (
            obtain ⟨-,v7,m7,xs7,h7,ho7,f7⟩:=P7.out
            exact ⟨⟨k+1,n+j6+m7,v7,xs7,by go_num,by omega,by omega,H2.out,Zmw E6.out f7 ho7⟩,by simp [intOf];omega⟩)
        · have hmk:Zlc kd a=(decide (0<=a) && decide (a<bK kd)):=by unfold Zlc;rw [if_neg (by omega),if_neg (by omega)]
          by_cases hm:(decide (0<=a) && decide (a<bK kd))=true
          · have hd2:=HD.out
            rw [if_pos (hmk.trans hm)] at hd2
            have H2:=Hq (HE.out.trans hd2)
            have ha0:0<=a:=by simp at hm;exact hm.1
            have ha1:a<9223372036854775808:=by have:=Yxl kd;simp at hm;omega
            have HA:=Hq (And.intro ha0 ha1)
            clear hd2 HKC hk0 hmk ha0 ha1
            (
              go_wp2_with (first
               | (go_at_call 86;refine R.out.mono ?_;rintro e w4 ⟨rfl,hg4⟩;have G4:=Hq (Za (Ga wr _ none) hg4);have m4:=MV.out w4 G4.out;obtain ⟨m0,m1,m2⟩:=m4;have hKw4:K<w4.heap.size:=Nat.lt_of_lt_of_le hKw G4.out.size;have X8:=Hq (Zf (heap_alloc_new wr (.cells #[.int .i64 op,.int .i64 a] 58)) hg4 (by simp));have x81:=Cq w4 _ 1 _ _ _ X8.out;have x80:=Cq w4 _ 0 _ _ _ X8.out;have hl8:wr.heap.size<w4.heap.size:=(Gs X8.out);clear hg4 R)
               | (go_at_call 116;refine (Zjt _ _).mono ?_;rintro e w5 ⟨rfl,rfl⟩;rw [hm])
               | (go_at_call 119;refine (Zoa _ _).mono ?_;rintro e w5 ⟨rfl,rfl⟩)
               | (go_at_call 146;refine (Zgy _ _ _ _ (BV.out _ _ (Za G4.out (Za (Ga _ _ _) (Ga _ _ _))) hbc)).mono ?_;rintro e w5 ⟨rfl,rfl⟩;rw [hm])
               | (go_at_call 87;refine (NU.out _ (Za G4.out (Za (Ga _ _ _) (Ga _ _ _)))).mono ?_;rintro e w6 ⟨rfl,v6,j6,ys6,h61,h69,ho6,f6⟩;have EM:=Zou ER.out G4.out X8.out f6 ho6;obtain ⟨t1,t2,t3⟩:=EM;have E6:=Hq t1;have O6:=Hq ho6;clear NU x81 x80 hl8 m0 m1 m2 hKw4;have y81:=Cq w6 _ 1 _ _ _ t2;have y111:=Cq w6 _ 1 _ _ _ t3;have hl8:wr.heap.size<w6.heap.size:=(Gs t2);have hl11:w4.heap.size+1<w6.heap.size:=(Gs t3);clear t1 t2 t3 f6 ho6)
               | (go_at_call 117;refine (Zjp _ _ _).mono ?_;rintro e w7 ⟨rfl,rfl⟩;have P7:=Hq (Zgt E6.out.mw E6.out.one))
               | (go_at_call 120;refine (Zog _ _ _ _ _ E6.out.one _ (by omega) _ E6.out.mw).mono ?_;intro e w7 hp7;have P7:=Hq (Zep hp7);have he7:=hp7.1;subst he7;clear hp7)
               | (go_at_call 87;refine (Zla _ _ _ _ _ E6.out.one _ HA.out.1 HA.out.2 (by omega) _ E6.out.mw).mono ?_;intro e w7 hp7;have P7:=Hq (Zep hp7);have he7:=hp7.1;subst he7;clear hp7)))
            (
              obtain ⟨-,v7,m7,xs7,h7,ho7,f7⟩:=P7.out
              exact ⟨⟨k+1,n+j6+m7,v7,xs7,by go_num,by omega,by omega,H2.out,Zmw E6.out f7 ho7⟩,by simp [intOf];omega⟩)
          · replace hm:(decide (0<=a) && decide (a<bK kd))=false:=by simpa only [Bool.not_eq_true] using hm
            have hd2:=HD.out
            rw [if_neg (show ¬ Zlc kd a=true by rw [hmk,hm];simp)] at hd2
            have H2:=Hq (hE.trans (HE.out.trans hd2))
            clear hd2 HKC hk0 hmk
            (
              go_wp2_with (first
               | (go_at_call 86;refine R.out.mono ?_;rintro e w4 ⟨rfl,hg4⟩;have G4:=Hq (Za (Ga wr _ none) hg4);have m4:=MV.out w4 G4.out;obtain ⟨m0,m1,m2⟩:=m4;have hKw4:K<w4.heap.size:=Nat.lt_of_lt_of_le hKw G4.out.size;have X8:=Hq (Zf (heap_alloc_new wr (.cells #[.int .i64 op,.int .i64 a] 58)) hg4 (by simp));have x81:=Cq w4 _ 1 _ _ _ X8.out;have x80:=Cq w4 _ 0 _ _ _ X8.out;have hl8:wr.heap.size<w4.heap.size:=(Gs X8.out);clear hg4 R)
               | (go_at_call 116;refine (Zjt _ _).mono ?_;rintro e w5 ⟨rfl,rfl⟩;rw [hm])
               | (go_at_call 119;refine (Zoa _ _).mono ?_;rintro e w5 ⟨rfl,rfl⟩)
               | (go_at_call 146;refine (Zgy _ _ _ _ (BV.out _ _ (Za G4.out (Za (Ga _ _ _) (Ga _ _ _))) hbc)).mono ?_;rintro e w5 ⟨rfl,rfl⟩;rw [hm])
               | (go_at_call 87;refine (NU.out _ (Za G4.out (Za (Ga _ _ _) (Ga _ _ _)))).mono ?_;rintro e w6 ⟨rfl,v6,j6,ys6,h61,h69,ho6,f6⟩;have EM:=Zou ER.out G4.out X8.out f6 ho6;obtain ⟨t1,t2,t3⟩:=EM;have E6:=Hq t1;have O6:=Hq ho6;clear NU x81 x80 hl8 m0 m1 m2 hKw4;have y81:=Cq w6 _ 1 _ _ _ t2;have y111:=Cq w6 _ 1 _ _ _ t3;have hl8:wr.heap.size<w6.heap.size:=(Gs t2);have hl11:w4.heap.size+1<w6.heap.size:=(Gs t3);clear t1 t2 t3 f6 ho6)
               | (go_at_call 117;refine (Zjp _ _ _).mono ?_;rintro e w7 ⟨rfl,rfl⟩;have P7:=Hq (Zgt E6.out.mw E6.out.one))
               | (go_at_call 120;refine (Zog _ _ _ _ _ E6.out.one _ (by omega) _ E6.out.mw).mono ?_;intro e w7 hp7;have P7:=Hq (Zep hp7);have he7:=hp7.1;subst he7;clear hp7)
               | (go_at_call 87;refine (Zla _ _ _ _ _ E6.out.one _ HA.out.1 HA.out.2 (by omega) _ E6.out.mw).mono ?_;intro e w7 hp7;have P7:=Hq (Zep hp7);have he7:=hp7.1;subst he7;clear hp7)))
            (
              go_ret2
              exact ⟨.slice none 0 0,by rw [H2.out];rfl,Za ER.out.gr (Za G4.out (Za (Ga _ _ _) (Ga _ _ _)))⟩)
    · have hkn:k=l.length:=by omega
      have hfin:Zkb l=0:=by rw [HE.out,hkn,List.drop_length];rfl
      have D:=Hq (Ynw E w.heap.size vb n xs ER.out.one (by omega) wr ER.out.mw)
      subst hkn
      go_wp2_with (go_at_call 88;refine D.out.mono ?_;rintro e w9 ⟨v9,rfl,hg9⟩;have G9:=Hq hg9;clear hg9)
      go_ret2
      exact ⟨_,by rw [hE,hfin];rfl,Za ER.out.gr G9.out⟩
abbrev FnP:=Int × Int × Int × List (Int × Int)
def Zdi (w:World) (B:Nat) (p:Option Addr) (fs:List FnP):Prop:=0<fs.length->∃ b o:Nat,p=some ⟨b,o,none⟩/\b<B/\∀ i a l r c,fs[i]? = some (a,l,r,c) ->
 w.cell? ⟨b,o+i*4,none⟩=some (.int .i64 a)/\w.cell? ⟨b,o+i*4+1,none⟩=some (.int .i64 l)/\w.cell? ⟨b,o+i*4+2,none⟩=some (.int .i64 r) /\
 ∃ (pc:Option Addr) (cc:Nat),w.cell? ⟨b,o+i*4+3,none⟩=some (.slice pc c.length cc)/\Zpj w B pc c
theorem Jx {w w':World} {row:Option Nat} {B:Nat} {p:Option Addr} {l:List FnP} (h:Zdi w B p l) (g:w.grownBy w' row) (hr:∀ r,row=some r->B<=r):Zdi w' B p l:=fun h0=>by
 obtain ⟨b,o,e,hb,hc⟩:=h h0
 refine ⟨b,o,e,hb,fun i a l r c hi => ?_⟩
 obtain ⟨h1,h2,h3,pc,cc,h4,h5⟩:=hc i a l r c hi
 exact ⟨Xu g hr hb h1,Xu g hr hb h2,Xu g hr hb h3,pc,cc,Xu g hr hb h4,Zbi h5 g hr⟩
def fnE (f:FnP):Int:=if f.1<0\/16<f.1\/f.2.1<f.1\/64<f.2.1\/f.2.2.1<0\/1<f.2.2.1\/f.2.2.2.length<1\/4096<f.2.2.2.length then 121 else Zkb f.2.2.2
def Zwe:List FnP->Int
 | []=>0
 | f::r=>if fnE f=0 then Zwe r else fnE f
def Jl (mem:Int) (nd:Nat) (fs:List FnP):Int:=if mem<0\/65536<mem\/mem<nd\/fs.length<1\/64<fs.length then 121 else Zwe fs
theorem Zvf {fs:List FnP} {k:Nat} {f:FnP} (h:fs[k]? = some f):Zwe (fs.drop k)=if fnE f=0 then Zwe (fs.drop (k+1)) else fnE f:=by
 obtain ⟨hk,e⟩:=List.getElem?_eq_some_iff.1 h
 rw [List.drop_eq_getElem_cons hk,e]
 rfl
def Yxp (w:World) (b:Nat) (mem:Int) (vd vF:Value):Prop:=w.heap[b]? = some (.cells #[.int .i64 mem,vd,vF] 26 (0,0))
theorem Yjh {w w':World} {b:Nat} {mem:Int} {vd vF:Value} {row:Option Nat} (h:Yxp w b mem vd vF) (g:w.grownBy w' row) (hr:row≠some b):Yxp w' b mem vd vF:=Zf h g hr
theorem Ybc (w:World) (mem:Int) (vd vF:Value):Yxp (w.alloc (.cells #[.int .i64 mem,vd,vF] 26)) w.heap.size mem vd vF:=heap_alloc_new w _
theorem Zkx (mem:Int) (nd:Nat) (fs:List FnP) (pd pF:Option Addr) (cd cF B:Nat) (w:World) (hB:B<=w.heap.size) (hF:Zdi w B pF fs) (hn:nd<=9223372036854775807) :
 Calls Tryz.prog 30 #[.agg #[.int .i64 mem,.slice pd nd cd,.slice pF fs.length cF]] w fun e w'=>e = .returned (.int .i64 (Jl mem nd fs))/\w.grownBy w' none:=by
 have FF:=Hq hF
 clear hF
 by_cases hbad:mem<0\/65536<mem\/mem<nd\/fs.length<1\/64<fs.length
 · have hE:Jl mem nd fs=121:=by unfold Jl;rw [if_pos hbad]
   rw [hE]
   have hni:(fs.length:Int)<1\/¬ (fs.length:Int)<1:=Classical.em _
   rcases (by omega:mem<0\/(0<=mem/\65536<mem)\/(0<=mem/\mem<=65536/\mem<(nd:Int))\/(0<=mem/\mem<=65536/\(nd:Int)<=mem/\(fs.length:Int)<1)\/(0<=mem/\mem<=65536/\(nd:Int)<=mem/\1<=(fs.length:Int)/\64<(fs.length:Int))) with q1|⟨q1,q2⟩|⟨q1,q2,q3⟩|⟨q1,q2,q3,q4⟩|⟨q1,q2,q3,q4,q5⟩
   all_goals
    clear hbad hni hE
    go_enter Tryz.func30,Tryz.ntmps30
    go_wp2
    go_ret
    exact ⟨rfl,Ga _ _ _⟩
 · have hE:Jl mem nd fs=Zwe fs:=by unfold Jl;rw [if_neg hbad]
   have q1:0<=mem:=by omega
   have q2:mem<=65536:=by omega
   have q3:(nd:Int)<=mem:=by omega
   have q4:1<=(fs.length:Int):=by omega
   have q5:(fs.length:Int)<=64:=by omega
   clear hbad
   go_enter Tryz.func30,Tryz.ntmps30
   go_wp2
   have BX:=Hq (Ybc w mem (.slice pd nd cd) (.slice pF fs.length cF))
   have G0:=Hq (Ga w (.cells #[.int .i64 mem,.slice pd nd cd,.slice pF fs.length cF] 26) none)
   generalize w.alloc (.cells #[.int .i64 mem,.slice pd nd cd,.slice pF fs.length cF] 26)=w1 at *
   go_loopw [38] (fun i wr=>∃ k:Nat,i = .int .i64 k/\k<=fs.length/\Zwe fs=Zwe (fs.drop k)/\w.grownBy wr none) (fun i _=>fs.length - (intOf i).toNat)
   case atStart=>exact ⟨0,rfl,Nat.zero_le _,rfl,G0.out⟩
   case round =>
    obtain ⟨k,rfl,hk,he,hg⟩:=hrel
    have HE:=Hq he
    have GR:=Hq hg
    by_cases hlt:(k:Int)<(fs.length:Int)
    · obtain ⟨⟨a,lo,r,c⟩,hf⟩:∃ x,fs[k]? = some x:=⟨_,List.getElem?_eq_getElem (by omega)⟩
      obtain ⟨b,o,rfl,hb,hc⟩:=FF.out (by omega)
      obtain ⟨c0,c1,c2,pc,cc,c3,hcode⟩:=hc k a lo r c hf
      replace c0:=Xu hg (B:=B) (by simp) hb c0
      replace c1:=Xu hg (B:=B) (by simp) hb c1
      replace c2:=Xu hg (B:=B) (by simp) hb c2
      replace c3:=Xu hg (B:=B) (by simp) hb c3
      have hb2:b<wr.heap.size:=by have:=hg.size;omega
      have hst:=Zvf hf
      have gW:=Za hg (Ga wr (.cells #[.int .i64 a,.int .i64 lo,.int .i64 r,.slice pc c.length cc] 61) none)
      have EC:=Hq (Ydm c pc cc B (wr.alloc (.cells #[.int .i64 a,.int .i64 lo,.int .i64 r,.slice pc c.length cc] 61)) (Nat.le_trans hB gW.size) (Zbi hcode gW (by simp)))
      have GW:=Hq gW
      clear hc he hg hcode hf gW
      by_cases hbad:a<0\/16<a\/lo<a\/64<lo\/r<0\/1<r\/c.length<1\/4096<c.length
      · have hfn:fnE (a,lo,r,c)=121:=by unfold fnE;rw [if_pos hbad]
        rw [hfn,if_neg (by decide)] at hst
        have H2:=Hq (hE.trans (HE.out.trans hst))
        clear hst hfn EC
        rcases (by omega:a<0\/(0<=a/\16<a)\/(0<=a/\a<=16/\lo<a)\/(0<=a/\a<=16/\a<=lo/\64<lo)\/(0<=a/\a<=16/\a<=lo/\lo<=64/\r<0)\/(0<=a/\a<=16/\a<=lo/\lo<=64/\0<=r/\1<r)\/(0<=a/\a<=16/\a<=lo/\lo<=64/\0<=r/\r<=1/\(c.length:Int)<1)\/(0<=a/\a<=16/\a<=lo/\lo<=64/\0<=r/\r<=1/\1<=(c.length:Int)/\4096<(c.length:Int))) with p1|⟨p1,p2⟩|⟨p1,p2,p3⟩|⟨p1,p2,p3,p4⟩|⟨p1,p2,p3,p4,p5⟩|⟨p1,p2,p3,p4,p5,p6⟩|⟨p1,p2,p3,p4,p5,p6,p7⟩|⟨p1,p2,p3,p4,p5,p6,p7,p8⟩
        all_goals
         clear hbad
         go_wp2
         go_ret
         exact ⟨Zgr H2.out.symm,GW.out⟩
      · have hfn:fnE (a,lo,r,c)=Zkb c:=by unfold fnE;rw [if_neg hbad]
        have hco:Zkc c=Zkb c:=by unfold Zkc;rw [if_neg (by omega)]
        rw [hfn] at hst
        have p1:0<=a:=by omega
        have p2:a<=16:=by omega
        have p3:a<=lo:=by omega
        have p4:lo<=64:=by omega
        have p5:0<=r:=by omega
        have p6:r<=1:=by omega
        have p7:1<=(c.length:Int):=by omega
        have p8:(c.length:Int)<=4096:=by omega
        clear hbad hfn
        by_cases hz:Zkb c=0
        · rw [if_pos hz] at hst
          have H2:=Hq (HE.out.trans hst)
          have HZ:=Hq (hco.trans hz)
          clear hst hz hco
          go_wp2_with (go_at_call 59;refine EC.out.mono ?_;rintro e w4 ⟨v4,rfl,hg4⟩;have G4:=Hq hg4;clear hg4;rw [HZ.out])
          go_roundw
          case rel=>exact ⟨k+1,by go_num,by omega,H2.out,Za GW.out G4.out⟩
          case measure=>simp [intOf];omega
        · rw [if_neg hz] at hst
          have H2:=Hq (hE.trans (HE.out.trans hst))
          have hz2:(Zkb c != 0)=true:=by simpa using hz
          have HZ:=Hq hco
          clear hst hz hco
          go_wp2_with (go_at_call 59;refine EC.out.mono ?_;rintro e w4 ⟨v4,rfl,hg4⟩;have G4:=Hq hg4;clear hg4;rw [HZ.out])
          go_ret
          exact ⟨Zgr H2.out.symm,Za GW.out G4.out⟩
    · have hkn:k=fs.length:=by omega
      have hfin:Zwe fs=0:=by rw [he,hkn,List.drop_length];rfl
      clear he
      go_wp2
      go_ret
      first
       | exact ⟨rfl,GR.out⟩
       | exact ⟨Zgr (hE.trans hfin).symm,GR.out⟩
end Go.Proofs.YteciblfmgdlipaaGreatDoor.CK
namespace Go.Proofs.YteciblfmgdlipaaGreatDoor.AS
open Go.RowKit Go.Great
open Go.Proofs.YteciblfmgdlipaaGreatDoor.CK
abbrev Ins:=Int × Int
def Rd (w:World) (p:Option Addr) (xs:List Value):Prop:=xs≠[]->∃ b o:Nat,p=some ⟨b,o,none⟩/\∀ (j:Nat) (u:Value),xs[j]? = some u->w.cell? ⟨b,o+j,none⟩=some u
def Yv:List FnP->List Value->List Value
 | f::r,v::s => .int .i64 f.1 :: .int .i64 f.2.1 :: .int .i64 f.2.2.1::v::Yv r s
 | _,_=>[]
theorem Zad:∀ (fs:List FnP) (cv:List Value) (i:Nat) (f:FnP) (v:Value),fs[i]? = some f->cv[i]? = some v->(Yv fs cv)[i*4]? = some (.int .i64 f.1)/\(Yv fs cv)[i*4+1]? = some (.int .i64 f.2.1)/\(Yv fs cv)[i*4+2]? = some (.int .i64 f.2.2.1)/\(Yv fs cv)[i*4+3]? = some v
 | [],_,i,f,v,h,_=>by simp at h
 | _::_,[],i,f,v,_,h=>by simp at h
 | g::r,u::s,0,f,v,h,h'=>by simp at h h';subst h;subst h';simp [Yv]
 | g::r,u::s,i+1,f,v,h,h'=>by
   obtain ⟨h1,h2,h3,h4⟩:=Zad r s i f v (by simpa using h) (by simpa using h')
   have e:(i+1)*4=i*4+1+1+1+1:=by omega
   rw [e]
   simp only [Yv]
   exact ⟨by simpa using h1,by simpa using h2,by simpa using h3,by simpa using h4⟩
theorem Zvg:∀ (fs:List FnP) (cv:List Value) (i:Nat) (v:Value),(Yv fs cv).set (i*4+3) v=Yv fs (cv.set i v)
 | [],cv,i,v=>by simp [Yv]
 | _::_,[],i,v=>by simp [Yv]
 | g::r,u::s,0,v=>by simp [Yv]
 | g::r,u::s,i+1,v=>by
   have ih:=Zvg r s i v
   have e:(i+1)*4+3=(i*4+3)+1+1+1+1:=by omega
   rw [e]
   simp only [Yv,List.set_cons_succ,ih]
theorem Zhp:∀ (fs gs:List FnP) (cv:List Value),fs.length=gs.length->(∀ (i:Nat) (f g:FnP),fs[i]? = some f->gs[i]? = some g->f.1=g.1/\f.2.1=g.2.1/\f.2.2.1=g.2.2.1)->Yv fs cv=Yv gs cv
 | [],[],_,_,_=>rfl
 | [],_::_,_,h,_=>by simp at h
 | _::_,[],_,h,_=>by simp at h
 | _::_,_::_,[],_,_=>rfl
 | f::r,g::s,v::t,h,e=>by
   obtain ⟨e1,e2,e3⟩:=e 0 f g rfl rfl
   simp only [Yv,e1,e2,e3,Zhp r s t (by simpa using h) (fun i a b ha hb=>e (i+1) a b (by simpa using ha) (by simpa using hb))]
structure Ztd (w:World) (base:Nat) (D F:Value) (dl:List Int) (fs:List FnP) (cv:List Value):Prop where
 dt:w.ownsRow base 5 1 D dl.length (dl.map (Value.int .u8))
 fr:w.ownsRow base 61 4 F fs.length (Yv fs cv)
 cl:cv.length=fs.length
 each:∀ (k:Nat) (f:FnP) (v:Value),fs[k]? = some f->cv[k]? = some v->w.ownsRow base 58 2 v f.2.2.2.length (Xh f.2.2.2)
 dis:∀ (k l:Nat) (v v':Value) (b:Nat),k≠l->cv[k]? = some v->cv[l]? = some v'->v.ownBlock=some b->v'.ownBlock≠some b
theorem Yrw {P:Nat->Prop} {w w':World} {base:Nat} {D F:Value} {dl:List Int} {fs:List FnP} {cv:List Value} (h:Ztd w base D F dl fs cv) (g:Sp P w w') (hp:∀ k,base<=k->¬ P k):Ztd w' base D F dl fs cv :=
 ⟨Ygs h.dt g fun k hk=>hp k (h.dt.lt k hk).1,Ygs h.fr g fun k hk=>hp k (h.fr.lt k hk).1,h.cl,fun k f v hf hv=>Ygs (h.each k f v hf hv) g fun b hb=>hp b ((h.each k f v hf hv).lt b hb).1,h.dis⟩
theorem Ygt {w w':World} {base:Nat} {D F:Value} {dl:List Int} {fs:List FnP} {cv:List Value} (h:Ztd w base D F dl fs cv) (g:w.grownBy w' none):Ztd w' base D F dl fs cv :=
 Yrw (P:=fun _=>False) h (Zji g (by simp)) (fun _ _ h=>h)
theorem Zqt {w:World} {base base':Nat} {D F:Value} {dl:List Int} {fs:List FnP} {cv:List Value} (h:Ztd w base D F dl fs cv) (hb:base'<=base):Ztd w base' D F dl fs cv :=
 ⟨Zcc h.dt hb,Zcc h.fr hb,h.cl,fun k f v hf hv=>Zcc (h.each k f v hf hv) hb,h.dis⟩
theorem Yiz {w:World} {base:Nat} {p:Option Addr} {n k:Nat} {c:List Ins} (h:w.ownsRow base 58 2 (.slice p n k) c.length (Xh c)):n=c.length/\Zpj w w.heap.size p c:=by
 obtain ⟨p',k',e⟩:=Zi h
 injection e with e1 e2 e3
 refine ⟨e2,fun h0 => ?_⟩
 obtain ⟨g,cap,hv,hg,hc⟩:=Zv h h0
 injection hv with hv _ _
 refine ⟨g,0,hv,hg,fun i op a hi => ?_⟩
 obtain ⟨q0,q1⟩:=Zfg c i op a hi
 have hl:=(List.getElem?_eq_some_iff.1 hi).1
 rw [Nat.zero_add]
 exact ⟨hc _ _ q0 (by omega),hc _ _ q1 (by omega)⟩
theorem Zax {w:World} {base:Nat} {D F:Value} {dl:List Int} {fs:List FnP} {cv:List Value} (h:Ztd w base D F dl fs cv):∃ (pD pF:Option Addr) (cD cF:Nat),D = .slice pD dl.length cD/\F = .slice pF fs.length cF:=by
 obtain ⟨pD,cD,e1⟩:=Zi h.dt
 obtain ⟨pF,cF,e2⟩:=Zi h.fr
 exact ⟨pD,pF,cD,cF,e1,e2⟩
theorem Zdp {w:World} {base:Nat} {D:Value} {pF:Option Addr} {cF:Nat} {dl:List Int} {fs:List FnP} {cv:List Value} (h:Ztd w base D (.slice pF fs.length cF) dl fs cv):Zdi w w.heap.size pF fs:=fun h0=>by
 obtain ⟨g,cap,hv,hg,hc⟩:=Zv h.fr h0
 injection hv with hv _ _
 refine ⟨g,0,hv,hg,fun i a l r c hi => ?_⟩
 have hil:=(List.getElem?_eq_some_iff.1 hi).1
 obtain ⟨v,hv2⟩:∃ v,cv[i]? = some v:=⟨_,List.getElem?_eq_getElem (by rw [h.cl];exact hil)⟩
 obtain ⟨q0,q1,q2,q3⟩:=Zad fs cv i _ v hi hv2
 have ho:=h.each i _ v hi hv2
 obtain ⟨pc,cc,rfl⟩:=Zi ho
 rw [Nat.zero_add]
 exact ⟨hc _ _ q0 (by omega),hc _ _ q1 (by omega),hc _ _ q2 (by omega),pc,cc,hc _ _ q3 (by omega),(Yiz ho).2⟩
theorem Zqu {w:World} {base:Nat} {F:Value} {pD:Option Addr} {n cD:Nat} {dl:List Int} {fs:List FnP} {cv:List Value} (h:Ztd w base (.slice pD n cD) F dl fs cv):Rd w pD (dl.map (Value.int .u8)):=fun h0=>by
 have hl:0<dl.length:=by
  cases dl with
  | nil=>simp at h0
  | cons x r=>simp
 obtain ⟨g,cap,hv,hg,hc⟩:=Zv h.dt hl
 injection hv with hv _ _
 refine ⟨g,0,hv,fun j u hj => ?_⟩
 have:=(List.getElem?_eq_some_iff.1 hj).1
 rw [Nat.zero_add]
 exact hc j u hj (by simpa using this)
open Go.Maps Go.ChangeShapes Go.ChangeMaps Go.WideMaps CK
theorem Yxy:Keyed Tryz.prog 9:=string_keyed Tryz.underlying9
theorem Ywu (w:World):(zeroValue 3).run Tryz.prog w = .ok (.int .i64 0) w:=by kernel_rfl
theorem Yqx {v:Int} (h : -1000000000000000000<=v/\v<=1000000000000000000):(Lit.int .i64 v).wf=true:=by
 have e1:IntKind.i64.min = -9223372036854775808:=by decide
 have e2:IntKind.i64.max=9223372036854775807:=by decide
 simp only [Lit.wf,e1,e2,Bool.and_eq_true,decide_eq_true_eq]
 omega
theorem Yfg {t:Txt} (h:t.length<=1000000):keyOf Tryz.prog 9 (.string (bs t))=some (.string t):=by
 have:=keyOf_string_mk (P:=Tryz.prog) Tryz.underlying9 (s:=bs t) (by unfold maxLen;simp [bs,ByteArray.size];omega)
 simpa [bs] using this
theorem Zzc {a b:Int} (h:(DataW.lit (.int .i64 a):DataW Unit) = .lit (.int .i64 b)):a=b:=by
 simpa only [DataW.lit.injEq,Lit.int.injEq,true_and] using h
def Zhs (w:World) (b m:Nat) (f:Txt->Option Int):Prop:=∃ (n:Nat) (D:DataW Unit),w.ownsMap Tryz.prog 9 (plainElem Tryz.prog 3) b n D/\n<=m/\IsMap D /\
 ∀ t:Txt,has D (.string t)=(f t).isSome/\∀ v,f t=some v->∀ z,D.atKey (.string t) z = .lit (.int .i64 v)
theorem Zul (w:World):Zhs (w.alloc (.map #[] 0)) w.heap.size 0 fun _=>none :=
 ⟨0,.map [],World.ownsMap_made _ _ _ _,Nat.zero_le _,⟨[],rfl⟩,fun t=>⟨rfl,fun v hv=>by cases hv⟩⟩
theorem Yu {w w':World} {b m:Nat} {f:Txt->Option Int} {r:Option Nat} (h:Zhs w b m f) (g:w.grownBy w' r) (hr:some b≠r):Zhs w' b m f:=by
 obtain ⟨n,D,h1,h2⟩:=h
 exact ⟨n,D,h1.kept g hr,h2⟩
theorem Yhi {w:World} {b m:Nat} {f:Txt->Option Int} (h:Zhs w b m f):b<w.heap.size:=by
 obtain ⟨n,D,h1,_⟩:=h
 exact h1.lt
theorem Zsm {w:World} {b m:Nat} {f:Txt->Option Int} (h:Zhs w b m f) (t:Txt) (ht:t.length<=1000000) :
 (Instr.lookup 66 (.map (some b)) (.string (bs t)) true).run Tryz.prog w = .ok (.tuple #[.int .i64 ((f t).getD 0),.bool (f t).isSome]) w:=by
 obtain ⟨n,D,h1,h2,h3,h4⟩:=h
 obtain ⟨v,ps,hrun,hv⟩:=h1.look_ok Yxy Tryz.underlying66 (Ywu w) (plainElem_int Tryz.underlying3 (by decide)) (Yfg ht)
 obtain ⟨c,rfl,hc,_⟩:=plainElem_int_inv Tryz.underlying3 hv
 simp only [Prod.mk.injEq] at hc
 obtain ⟨h5,h6⟩:=h4 t
 rw [hrun,h5]
 cases hk:f t with
 | none =>
   rw [hk] at h5
   have h7:D.atKey (.string t) (.lit (.int .i64 0)) = .lit (.int .i64 0):=atKey_of_not_has (by simpa using h5) _
   rw [h7] at hc
   have e:=Zzc hc.1
   rw [<- e];rfl
 | some v =>
   have h7:=h6 v hk (.lit (.int .i64 0))
   rw [h7] at hc
   have e:=Zzc hc.1
   rw [<- e];rfl
theorem Zsl {w:World} {b m:Nat} {f:Txt->Option Int} (h:Zhs w b m f) (hm:m<1000000000) (t:Txt) (ht:t.length<=1000000) (v:Int) (hv : -1000000000000000000<=v/\v<=1000000000000000000) :
 ∃ w',(Instr.mapUpdate 66 (.map (some b)) (.string (bs t)) (.int .i64 v)).run Tryz.prog w = .ok () w'/\Zhs w' b (m+1) (fun u=>if u=t then some v else f u)/\w.grownBy w' (some b):=by
 obtain ⟨n,D,h1,h2,h3,h4⟩:=h
 obtain ⟨w',hrun,h5,h6⟩:=h1.update Yxy Tryz.underlying66 (by unfold maxLen;omega) (Yfg ht) (plainElem_int Tryz.underlying3 (Yqx hv))
 refine ⟨w',hrun,⟨n+1,_,h5,by omega,h3.put _ _,fun u => ?_⟩,h6⟩
 by_cases e:u=t
 · subst e
   refine ⟨?_,fun x hx z => ?_⟩
   · rw [has_put_same h3 (by trivial)];simp
   · simp at hx;subst hx
     exact atKey_put_same h3 (by trivial) _ _
 · obtain ⟨h7,h8⟩:=h4 u
   refine ⟨?_,fun x hx z => ?_⟩
   · rw [has_put_other (by intro h;injection h with h;exact e h),h7];simp [e]
   · simp [e] at hx
     rw [atKey_put_other (fun h=>by injection h with h;exact e h)]
     exact h8 x hx z
end Go.Proofs.YteciblfmgdlipaaGreatDoor.AS
