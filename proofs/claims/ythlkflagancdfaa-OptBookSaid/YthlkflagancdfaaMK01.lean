/-
  Part of a proof: contracts of functions and lemmas, each stated by its own theorem. Conditions: as each theorem states.
-/
import Derived.Test.YthlkflagancdfaaMK00
import Derived.Laws.Closers25b
import Derived.Laws.FloatBits
import Derived.RowKit
import Derived.Laws.BitsAll
import Derived.Test.YthlkflagancdfaaProg
import Derived.WalkKit
import Derived.WalkLawsBesides
import Derived.RowKit3
import Derived.Deep.Draws
import Derived.Lib.Hide
set_option linter.unusedSimpArgs false
set_option linter.unusedVariables false
set_option maxRecDepth 100000
set_option maxHeartbeats 16000000
namespace Go.Proofs.Ythlkflagancdfaa.CK
open Go.RowKit Go.Great
def Yqt (w:World) (e:Ending) (w':World):Prop :=
 ∃ g n c xs,e = .returned (.slice (some ⟨g,0,none⟩) n c)/\1<=n/\n<=9/\w'.ownsRow w.heap.size 5 1 (.slice (some ⟨g,0,none⟩) n c) n xs/\(∀ u∈xs,u.oneCell'=true)/\w.grownBy w' none
theorem Yaw (u:Int) (h0:0<=u) (hu:u<18446744073709551616) (w:World) :
 Calls Try.prog 80 #[.int .u64 u] w (Yqt w):=by
 by_cases h1:u<248
 · go_enter Try.func80,Try.ntmps80
   go_wp2
   go_ret
   refine ⟨_,1,1,[_],rfl,by decide,by decide,World.ownsRow_lit w #[_] 1 (Nat.le_refl _) (by decide) rfl,Zcq _ _,Ga _ _ _⟩
 · go_enter Try.func80,Try.ntmps80
   go_wp2
   go_loopw [3] (fun v wr=>∃ k:Nat,1<=k/\k<=8/\v = .int .i64 k/\wr=w) (fun v _=>(intOf v).toNat)
   case atStart=>exact ⟨8,by decide,by decide,rfl,rfl⟩
   case round =>
    obtain ⟨k,hk1,hk8,rfl,rfl⟩:=hrel
    by_cases hz:u / 2 ^ (8*(k - 1))=0
    · have hz2:(u / 2 ^ (8*(k - 1)) == 0)=true:=by simp [hz]
      have hk2:2<=k:=by
       rcases Nat.lt_or_ge k 2 with h|h
       · have e:k=1:=by omega
         subst e
         simp at hz
         omega
       · exact h
      clear hz
      go_wp2
      refine ⟨⟨k - 1,by omega,by omega,by congr 1;omega,trivial⟩,by simp [intOf];omega⟩
    · have hz2:(u / 2 ^ (8*(k - 1)) == 0)=false:=by simp [hz]
      clear hz
      obtain ⟨bi,bi0,bi1,bi2,bi3⟩:=info_parts Zjl
      go_wp2
      clear hz2
      have O0:=Hq (World.ownsRow_lit (base:=wr.heap.size) (e:=5) (size:=1) wr #[Value.int IntKind.u8 (247+↑k)] 1 (Nat.le_refl _) (by decide) rfl)
      have G0:=Hq (Ga wr (.cells #[Value.int IntKind.u8 (247+↑k)] 5) none)
      obtain ⟨w0,hw0⟩:∃ w0,w0=wr:=⟨_,rfl⟩
      subst hw0
      generalize w0.alloc (.cells #[Value.int IntKind.u8 (247+↑k)] 5)=w1 at *
      go_loopw [4,5] (fun v i wr=>∃ (n:Nat) (xs:List Value) (j:Int),i = .int .i64 j /\ -1<=j/\(n:Int)+j=k/\1<=n/\wr.ownsRow w0.heap.size 5 1 v n xs/\(∀ u∈xs,u.oneCell'=true)/\w0.grownBy wr none) (fun _ i _=>(intOf i+1).toNat)
      case atStart=>exact ⟨1,_,(k:Int) - 1,rfl,by omega,by omega,Nat.le_refl _,O0.out,Zcq _ _,G0.out⟩
      case round =>
       obtain ⟨n,xs,j,rfl,hj,hn,hn1,hown,ho1,hg⟩:=hrel
       have HO:=Hq ho1
       have OW:=Hq hown
       have GW:=Hq hg
       obtain ⟨m,rfl⟩:∃ m,n=m+1:=⟨n - 1,by omega⟩
       obtain ⟨g,c,rfl⟩:=Zan hown
       have hc3:m+1+1<=maxLen:=by unfold maxLen;omega
       have hc4:(m+1+1)*1<=140737488355328:=by omega
       have hE:∀ o,w0.heap.size<=(wr.alloc o).heap.size:=fun o=>by have:=hg.size;simp;omega
       clear hown hg ho1
       by_cases h2:0<=j
       · go_wp2_with (at_builtin;refine wpList_append_own_at _ rfl _ _ 22 rfl w0.heap.size 5 bi (.int .u8 0) 1 1 Zfl bi0 bi1 bi2 bi3 rfl (by decide) (.slice (some ⟨g,0,none⟩) (m+1) c) _ _ rfl (OW.out.alloc _) ⟨wr.heap.size,0,none⟩ 1 1 [.int .u8 _] rfl rfl (Zgl wr _ _) (Zcq _ _) hc3 hc4 (hE _) ?_;intro v3 w3 hown3 hgr3 hnil3 hat3;obtain ⟨p3,k3,hv3⟩:=Zp hown3;subst hv3;have OW3:=Hq hown3;have GR3:=Hq hgr3;clear hown3 hgr3 hnil3 hat3)
         refine ⟨⟨m+1+1,_,j - 1,rfl,by omega,by omega,by omega,OW3.out,fun u hu=>(List.mem_append.1 hu).elim (HO.out u) (Zcq _ _ u),Yw (Za GW.out (Ga _ _ none)) GR3.out fun k hk=>(OW.out.lt k hk).1⟩,by simp [intOf];omega⟩
       · go_wp2
         go_ret
         exact ⟨_,_,_,_,rfl,by omega,by omega,OW.out,HO.out,GW.out⟩
structure MwAt (w:World) (E Bw:Nat) (vb:Value) (n:Nat) (xs:List Value):Prop where
 box:w.heap[Bw]? = some (.cells #[vb,.int .i64 0] 131 (0,0))
 row:w.ownsRow E 5 1 vb n xs
 lt:Bw<E
 le:E<=w.heap.size
def MwP (Bw:Nat) (vb:Value) (k:Nat):Prop:=k=Bw\/vb.ownBlock=some k
theorem Yaa {w:World} {E Bw n:Nat} {vb:Value} {xs:List Value} (h:MwAt w E Bw vb n xs) (o:Obj):MwAt (w.alloc o) E Bw vb n xs :=
 ⟨Zb h.box (Ga _ _ none) (by simp),h.row.alloc o,h.lt,Zqo h.le o⟩
structure Zom (w w':World) (E Bw:Nat) (vb v':Value) (n:Nat) (xs:List Value):Prop where
 at_:MwAt w' E Bw v' n xs
 sp:Sp (MwP Bw vb) w w'
 hat:v'.ownBlock=vb.ownBlock\/∃ k,v'.ownBlock=some k/\w.heap.size<=k
theorem Yzs {w w1:World} {E Bw n n':Nat} {vb v1:Value} {xs xs':List Value} (h:MwAt w E Bw vb n xs) (own:w1.ownsRow E 5 1 v1 n' xs') (g:w.grownBy w1 vb.ownBlock) (hat:v1.ownBlock=vb.ownBlock\/v1.ownBlock=some w.heap.size) :
 Zom w (w1.setCell ⟨Bw,0,none⟩ v1) E Bw vb v1 n' xs':=by
 have hlt:=h.lt
 have hle:=h.le
 have hb:=Zb h.box g (Zfb h.row hlt)
 refine ⟨⟨by rw [Zg hb];rfl,Zdx own hlt,hlt,by rw [World.size_setCell];exact Nat.le_trans hle g.size⟩,?_,?_⟩
 · refine Yo (Yf (P:=MwP Bw vb) g fun k _ e=>Or.inr e) (Yf (P:=MwP Bw vb) (Zh w1 Bw 0 v1) fun k _ e => ?_) (fun _ _ h=>h)
   injection e with e;exact Or.inl e.symm
 · rcases hat with h1|h1
   · exact Or.inl h1
   · exact Or.inr ⟨_,h1,Nat.le_refl _⟩
def Ywz (w:World) (E Bw:Nat) (vb:Value) (n:Nat) (xs:List Value) (e:Ending) (w':World):Prop:=e = .returned (.tuple #[])/\∃ v',Zom w w' E Bw vb v' n xs
theorem Yln (E Bw L g m c:Nat) (vb:Value) (n:Nat) (xs ys:List Value) (w:World) (hM:MwAt w E Bw vb n xs) (hl:w.cell? ⟨L,0,none⟩=some (.slice (some ⟨g,0,none⟩) m c))
 (hy:ys.length=m) (hc:∀ j u,ys[j]? = some u->w.cell? ((⟨g,0,none⟩:Addr).add j)=some u) (hone:∀ u∈ys,u.oneCell'=true) (hn:n+m<=4194304) (hm:1<=m) :
 Calls Try.prog 79 #[.pointer (some ⟨Bw,0,none⟩),.slice (some ⟨L,0,none⟩) 1 1] w (Ywz w E Bw vb (n+m) (xs++ys)):=by
 obtain ⟨pb,cb,rfl⟩:=Zp hM.row
 have MW:=Hq hM
 have c0:=Cq w Bw 0 _ _ _ hM.box
 have c1:=Cq w Bw 1 _ _ _ hM.box
 have z0:=frozen_of_row w Bw 0 _ _ hM.box
 have hlt:Bw<w.heap.size:=by have:=hM.lt;have:=hM.le;omega
 have hLl:=World.block_lt_of_cell? _ _ hl
 simp only [] at hLl
 have HC:=Hq hc
 have HO:=Hq hone
 have HY:=Hq hy
 have hle:=hM.le
 clear hc hone hM hy
 go_enter Try.func79,Try.ntmps79
 go_wp2
 go_loopw [4,16] (fun v i wr=>wr=w/\((i = .int .i64 0/\v = .int .i64 n)\/(i = .int .i64 1/\v = .int .i64 (n+m)))) (fun _ i _=>1 - (intOf i).toNat)
 case atStart=>exact ⟨rfl,Or.inl ⟨rfl,rfl⟩⟩
 case round =>
  obtain ⟨rfl,hrel⟩:=hrel
  rcases hrel with ⟨rfl,rfl⟩|⟨rfl,rfl⟩
  · go_wp2
    go_roundw
    case rel=>exact ⟨trivial,Or.inr ⟨rfl,rfl⟩⟩
    case measure=>decide
  · go_wp2
    obtain ⟨w0,hw0⟩:∃ w0,w0=wr:=⟨_,rfl⟩
    subst hw0
    go_loopw [39] (fun i wr=>(i = .int .i64 0/\wr=w0)\/(i = .int .i64 1/\∃ v',Zom w0 wr E Bw (.slice pb n cb) v' (n+m) (xs++ys))) (fun i _=>1 - (intOf i).toNat)
    case atStart=>exact Or.inl ⟨rfl,rfl⟩
    case round =>
     rcases hrel with ⟨rfl,rfl⟩|⟨rfl,hrel⟩
     · obtain ⟨bi,bi0,bi1,bi2,bi3⟩:=info_parts Zjl
       have hc3:n+m<=maxLen:=by unfold maxLen;omega
       have hc4:(n+m)*1<=140737488355328:=by omega
       go_wp2_with (at_builtin;refine wpList_append_own_at _ rfl _ _ 22 rfl E 5 bi (.int .u8 0) 1 1 Zfl bi0 bi1 bi2 bi3 rfl (by decide) (.slice pb n cb) _ _ rfl MW.out.row ⟨g,0,none⟩ m c ys rfl (by rw [HY.out];omega) HC.out HO.out hc3 hc4 hle ?_;intro v3 w3 hown3 hgr3 hnil3 hat3;obtain ⟨p3,k3,hv3⟩:=Zp hown3;subst hv3;have FN:=Hq (Yzs MW.out hown3 hgr3 hat3);have zz:=frozen_of_row w3 Bw 0 _ _ (Zb MW.out.box hgr3 (Zfb MW.out.row MW.out.lt));have cc:=Cq w3 Bw 0 _ _ _ (Zb MW.out.box hgr3 (Zfb MW.out.row MW.out.lt));clear hown3 hgr3 hnil3 hat3)
       exact ⟨Or.inr ⟨rfl,_,FN.out⟩,by decide⟩
     · go_wp2
       go_end0
       exact ⟨rfl,hrel⟩
def Zsw (w:World) (E Bw:Nat) (vb:Value) (n:Nat) (e:Ending) (w':World):Prop:=e = .returned (.tuple #[])/\∃ v' m xs,1<=m/\m<=9/\(∀ u∈xs,u.oneCell'=true)/\Zom w w' E Bw vb v' (n+m) xs
theorem Zmt {w:World} {base g n c:Nat} {xs:List Value} {e:TypeId} (h:w.ownsRow base e 1 (.slice (some ⟨g,0,none⟩) n c) n xs):xs.length=n:=by have:=h.1;omega
theorem Zrn {w w1:World} {E Bw n:Nat} {vb:Value} {xs:List Value} (h:MwAt w E Bw vb n xs) (g:w.grownBy w1 none):MwAt w1 E Bw vb n xs :=
 ⟨Zb h.box g (by simp),h.row.kept g (Classical.em _),h.lt,Nat.le_trans h.le g.size⟩
theorem Yhu {w w1 w2:World} {E Bw n:Nat} {vb v':Value} {xs:List Value} (h:Zom w1 w2 E Bw vb v' n xs) (g:w.grownBy w1 none):Zom w w2 E Bw vb v' n xs :=
 ⟨h.at_,Yo (Yf (P:=MwP Bw vb) g (by simp)) h.sp (fun _ _ h=>h),h.hat.imp id fun ⟨k,h1,h2⟩=>⟨k,h1,Nat.le_trans g.size h2⟩⟩
theorem Zdf (E Bw:Nat) (vb:Value) (n:Nat) (xs:List Value) (hx:∀ u∈xs,u.oneCell'=true) (a:Int) (ha:0<=a) (ha2:a<9223372036854775808) (hn:n+9<=4194304) (w:World) (hM:MwAt w E Bw vb n xs) :
 Calls Try.prog 61 #[.pointer (some ⟨Bw,0,none⟩),.int .i64 a] w (Zsw w E Bw vb n):=by
 have MW:=Hq hM
 have F:=Hq (Yaw a ha (by omega) w)
 clear hM
 go_enter Try.func61,Try.ntmps61
 go_wp2_with (first
  | (go_at_call 80;refine F.out.mono ?_;rintro e w1 ⟨g,m,c,ys,rfl,hm1,hm9,hown,ho1,hg⟩;have OW:=Hq hown;have HO:=Hq ho1;have GW:=Hq hg;have AD:=Hq (Yln E Bw w1.heap.size g m c vb n xs ys (w1.alloc (.cells #[.slice (some ⟨g,0,none⟩) m c] 22)) (Yaa (Zrn MW.out hg) _) (by rw [World.cell?_alloc_at (hn:=rfl)];rfl) (Zmt hown) (fun j u hu=>((hown.alloc _).cells rfl) j u hu) ho1 (by omega) hm1);clear hown hg ho1)
  | (go_at_call 79;refine AD.out.mono ?_;rintro e w2 ⟨rfl,v2,hf⟩;have FN:=Hq (Yhu hf (Za GW.out (Ga _ _ none)));clear hf))
 go_end0
 exact ⟨rfl,_,_,_,hm1,hm9,fun u hu=>(List.mem_append.1 hu).elim (hx u) (HO.out u),FN.out⟩
theorem Zne (E Bw:Nat) (vb:Value) (n:Nat) (xs:List Value) (hx:∀ u∈xs,u.oneCell'=true) (a:Int) (hn:n+9<=4194304) (w:World) (hM:MwAt w E Bw vb n xs) :
 Calls Try.prog 74 #[.pointer (some ⟨Bw,0,none⟩),.int .i64 a] w (Zsw w E Bw vb n):=by
 have MW:=Hq hM
 have F:=Hq (Yaw · · · w)
 clear hM
 go_enter Try.func74,Try.ntmps74
 go_wp2_with (first
  | (go_at_call 80;refine (F.out _ (bits_lo_u64 _ _ _) (Int.lt_of_le_sub_one (bits_hi_u64 _ _ _))).mono ?_;rintro e w1 ⟨g,m,c,ys,rfl,hm1,hm9,hown,ho1,hg⟩;have OW:=Hq hown;have HO:=Hq ho1;have GW:=Hq hg;have AD:=Hq (Yln E Bw w1.heap.size g m c vb n xs ys (w1.alloc (.cells #[.slice (some ⟨g,0,none⟩) m c] 22)) (Yaa (Zrn MW.out hg) _) (by rw [World.cell?_alloc_at (hn:=rfl)];rfl) (Zmt hown) (fun j u hu=>((hown.alloc _).cells rfl) j u hu) ho1 (by omega) hm1);clear hown hg ho1)
  | (go_at_call 79;refine AD.out.mono ?_;rintro e w2 ⟨rfl,v2,hf⟩;have FN:=Hq (Yhu hf (Za GW.out (Ga _ _ none)));clear hf))
 go_end0
 exact ⟨rfl,_,_,_,hm1,hm9,fun u hu=>(List.mem_append.1 hu).elim (hx u) (HO.out u),FN.out⟩
theorem Yuo (w:World):Calls Try.prog 57 #[] w fun e w'=>e = .returned (.pointer (some ⟨w.heap.size,0,none⟩))/\w'=w.alloc (.cells #[.slice none 0 0,.int .i64 0] 131):=by
 go_enter Try.func57,Try.ntmps57
 go_wp2
 go_ret
 exact ⟨rfl,rfl⟩
def Yqu (w:World) (e:Ending) (w':World):Prop:=∃ v,e = .returned (.tuple #[v,.int .i64 0])/\w.grownBy w' none
theorem Ykv (p:Option Addr) (n c:Nat) (xs:List Value) (E:Nat) (w:World) (h:w.ownsRow E 5 1 (.slice p n c) n xs) (hx:∀ u∈xs,u.oneCell'=true) (hn:n<=4194304) :
 Calls Try.prog 27 #[.slice p n c] w fun e w'=>(∃ v,e = .returned v)/\w.grownBy w' none:=by
 go_enter Try.func27,Try.ntmps27
 obtain ⟨bi,bi0,bi1,bi2,bi3⟩:=info_parts Zjl
 have hc3:0+n<=maxLen:=by unfold maxLen;omega
 have hc4:(0+n)*1<=140737488355328:=by omega
 rcases h.2 with ⟨e0,rfl⟩|⟨g,cap,cur,e0,-⟩
 · injection e0 with e1 e2 e3
   subst e1;subst e3
   have hq:=fun W=>Lib.run_eql_slice_nil (P:=Try.prog) W 22 5 none 0 0 0 0 Zfl
   go_wp2
   go_ret
   exact ⟨⟨_,rfl⟩,Zc _ _⟩
 · injection e0 with e1 e2 e3
   subst e1;subst e3
   have HC:=Hq (h.alloc (.cells #[] 5))
   have O0:=Hq (World.ownsRow_lit (base:=w.heap.size) (e:=5) (size:=1) w #[] 0 (Nat.le_refl _) (by decide) rfl)
   have hl:=Zmt h
   have hq:=fun W=>Lib.run_eql_slice_nil (P:=Try.prog) W 22 5 (some ⟨g,0,none⟩) n c 0 0 Zfl
   clear h
   go_wp2_with (at_builtin;refine wpList_append_own_at _ rfl _ _ 22 rfl w.heap.size 5 bi (.int .u8 0) 1 1 Zfl bi0 bi1 bi2 bi3 rfl (by decide) (.slice (some ⟨w.heap.size,0,none⟩) 0 0) _ _ rfl O0.out ⟨g,0,none⟩ n c xs rfl (by omega) (fun j u hu=>(HC.out.cells rfl) j u hu) hx hc3 hc4 (by simp) ?_;intro v3 w3 hown3 hgr3 hnil3 hat3;obtain ⟨p3,k3,hv3⟩:=Zp hown3;subst hv3;have OW3:=Hq hown3;have GR3:=Hq hgr3;clear hown3 hgr3 hnil3 hat3)
   go_ret
   exact ⟨⟨_,rfl⟩,Yw (Ga w _ none) GR3.out fun k hk=>(O0.out.lt k hk).1⟩
theorem Ypz (E Bw:Nat) (vb:Value) (n:Nat) (xs:List Value) (hx:∀ u∈xs,u.oneCell'=true) (hn:n<=4194304) (w:World) (hM:MwAt w E Bw vb n xs) :
 Calls Try.prog 62 #[.pointer (some ⟨Bw,0,none⟩)] w (Yqu w):=by
 obtain ⟨pb,cb,rfl⟩:=Zp hM.row
 have c0:=Cq w Bw 0 _ _ _ hM.box
 have c1:=Cq w Bw 1 _ _ _ hM.box
 have C:=Hq (Ykv pb n cb xs E w hM.row hx hn)
 clear hM
 go_enter Try.func62,Try.ntmps62
 go_wp2_with (go_at_call 27;refine C.out.mono ?_;rintro e w1 ⟨⟨v,rfl⟩,hg⟩;have GW:=Hq hg;clear hg)
 go_ret2
 exact ⟨_,rfl,GW.out⟩
def bK (k:Nat):Int:=match k with|2=>64|3=>4096|4=>64|5=>5|_=>256
def Zrp (k:Nat) (a:Int):Bool:=if k=0 then a == 0 else if k=1 then true else decide (0<=a) && decide (a<bK k)
def Zoj:List (Int × Int)->Int
 | []=>0
 | x::r=>match Ja x.1 with
   | none=>111
   | some s=>if Zrp s.2.1.toNat x.2=true then Zoj r else 112
theorem Ykh {l:List (Int × Int)} {i:Nat} {op a:Int} (h:l[i]? = some (op,a)):Zoj (l.drop i)=match Ja op with
 | none=>111
 | some s=>if Zrp s.2.1.toNat a=true then Zoj (l.drop (i+1)) else 112:=by
 obtain ⟨hi,he⟩:=List.getElem?_eq_some_iff.1 h
 rw [List.drop_eq_getElem_cons hi,he]
 rfl
def Xz (w:World) (B:Nat) (p:Option Addr) (l:List (Int × Int)):Prop:=0<l.length->∃ b o:Nat,p=some ⟨b,o,none⟩/\b<B/\∀ i op a,l[i]? = some (op,a)->w.cell? ⟨b,o+i*2,none⟩=some (.int .i64 op)/\w.cell? ⟨b,o+i*2+1,none⟩=some (.int .i64 a)
theorem Xo {w w':World} {row:Option Nat} {B:Nat} {p:Option Addr} {l:List (Int × Int)} (h:Xz w B p l) (g:w.grownBy w' row) (hr:∀ r,row=some r->B<=r):Xz w' B p l:=fun h0=>by
 obtain ⟨b,o,e,hb,hc⟩:=h h0
 refine ⟨b,o,e,hb,fun i op a hi => ?_⟩
 obtain ⟨h1,h2⟩:=hc i op a hi
 exact ⟨Xt g hr hb h1,Xt g hr hb h2⟩
def KC (k:Nat) (a b c:Value) (w:World) (Bw E:Nat):Prop :=
 (k=0/\a = .func (.func 70) #[] #[]/\b = .func (.func 71) #[] #[]/\c = .func (.func 72) #[] #[]) \/
 (k=1/\a = .func (.func 73) #[] #[]/\b = .func (.func 74) #[] #[]/\c = .func (.func 75) #[] #[]) \/
 (2<=k/\∃ bb,a = .func (.func 89) #[] #[.pointer (some ⟨bb,0,none⟩)]/\b = .func (.func 61) #[] #[]/\c = .func (.func 90) #[] #[]/\Bw<bb/\bb<E/\w.cell? ⟨bb,0,none⟩=some (.int .i64 (bK k)))
def Zsz (w:World) (Bw E K:Nat):Prop:=Bw<K/\K<E/\∀ k,k<7->∃ a b c,KC k a b c w Bw E/\w.cell? ⟨K,k*3,none⟩=some a/\w.cell? ⟨K,k*3+1,none⟩=some b/\w.cell? ⟨K,k*3+2,none⟩=some c
theorem Zja {w:World} {lo Bw k:Nat} {n:Int} {a b c:Value} (h:Zbp lo n (.agg #[a,b,c]) w) (hB:Bw<lo) (hk:2<=k) (hn:n=bK k) {E:Nat} (hE:w.heap.size<=E):KC k a b c w Bw E:=by
 obtain ⟨bb,e,hl,hc⟩:=h
 injection e with e
 injection e with e
 injection e with e1 e
 injection e with e2 e
 injection e with e3 e
 subst e1;subst e2;subst e3;subst hn
 exact Or.inr (Or.inr ⟨hk,bb,rfl,rfl,rfl,by omega,Nat.lt_of_lt_of_le (World.block_lt_of_cell? _ _ hc) hE,hc⟩)
theorem Ydd {w:World} {lo Bw K:Nat} (h:Zgx w lo K) (hB:Bw<lo) {E:Nat} (hE:w.heap.size<=E):Zsz w Bw E K:=by
 refine ⟨Nat.lt_of_lt_of_le hB h.2.1,Nat.lt_of_lt_of_le h.1 hE,fun k hk => ?_⟩
 obtain ⟨a,b,c,h1,h2⟩:=h.2.2 k hk
 refine ⟨a,b,c,?_,h2⟩
 match k,hk,h1 with
 | 0,_,h1=>injection h1 with e;injection e with e;injection e with e1 e;injection e with e2 e;injection e with e3 e;exact Or.inl ⟨rfl,e1,e2,e3⟩
 | 1,_,h1=>injection h1 with e;injection e with e;injection e with e1 e;injection e with e2 e;injection e with e3 e;exact Or.inr (Or.inl ⟨rfl,e1,e2,e3⟩)
 | 2,_,h1=>exact Zja h1 hB (by decide) rfl hE
 | 3,_,h1=>exact Zja h1 hB (by decide) rfl hE
 | 4,_,h1=>exact Zja h1 hB (by decide) rfl hE
 | 5,_,h1=>exact Zja h1 hB (by decide) rfl hE
 | 6,_,h1=>exact Zja h1 hB (by decide) rfl hE
theorem Xes {P:Nat->Prop} {k:Nat} {a b c:Value} {w w':World} {Bw E:Nat} (h:KC k a b c w Bw E) (g:Sp P w w') (hp:∀ j,Bw<j->j<E->¬ P j):KC k a b c w' Bw E:=by
 rcases h with h|h|⟨h1,bb,e1,e2,e3,h2,h3,h4⟩
 · exact Or.inl h
 · exact Or.inr (Or.inl h)
 · exact Or.inr (Or.inr ⟨h1,bb,e1,e2,e3,h2,h3,Zgg h4 g (hp _ h2 h3)⟩)
theorem Zpp {P:Nat->Prop} {w w':World} {Bw E K:Nat} (h:Zsz w Bw E K) (g:Sp P w w') (hp:∀ j,Bw<j->j<E->¬ P j):Zsz w' Bw E K:=by
 obtain ⟨h1,h2,h3⟩:=h
 refine ⟨h1,h2,fun k hk => ?_⟩
 obtain ⟨a,b,c,q1,q2,q3,q4⟩:=h3 k hk
 exact ⟨a,b,c,Xes q1 g hp,Zgg q2 g (hp _ h1 h2),Zgg q3 g (hp _ h1 h2),Zgg q4 g (hp _ h1 h2)⟩
structure EncS (w0 wr:World) (E Bw S K n:Nat) (vb:Value) (xs:List Value):Prop where
 gr:w0.grownBy wr none
 bw:w0.heap.size<=Bw
 mw:MwAt wr E Bw vb n xs
 sh:Zjo wr S
 s1:Bw<S
 s2:S<E
 kd:Zsz wr Bw E K
 one:∀ u∈xs,u.oneCell'=true
theorem Zpu {w0 wr w':World} {E Bw S K n:Nat} {vb:Value} {xs:List Value} (h:EncS w0 wr E Bw S K n vb xs) (g:wr.grownBy w' none):EncS w0 w' E Bw S K n vb xs :=
 ⟨Za h.gr g,h.bw,Zrn h.mw g,Zij h.sh g (by simp),h.s1,h.s2,Zpp (P:=fun _=>False) h.kd (Yf g (by simp)) (fun _ _ _ h=>h),h.one⟩
theorem Zls {w0 wr w':World} {E Bw S K n m:Nat} {vb v':Value} {xs ys:List Value} (h:EncS w0 wr E Bw S K n vb xs) (f:Zom wr w' E Bw vb v' m ys) (hy:∀ u∈ys,u.oneCell'=true):EncS w0 w' E Bw S K m v' ys:=by
 have hbw:=h.bw
 have hlt:=h.mw.lt
 have hP:∀ j,Bw<j->j<E->¬ MwP Bw vb j:=by
  intro j h1 h2 h3
  rcases h3 with h3|h3
  · omega
  · have:=(h.mw.row.lt j h3).1;omega
 refine ⟨⟨f.sp.os.trans h.gr.os,f.sp.tape.trans h.gr.tape,f.sp.output.trans h.gr.output,Nat.le_trans h.gr.size f.sp.size,fun k hk hn => ?_⟩,hbw,f.at_,⟨Nat.lt_of_lt_of_le h.sh.1 f.sp.size,fun i v hi=>Zgg (h.sh.2 i v hi) f.sp (hP _ h.s1 h.s2)⟩,h.s1,h.s2,Zpp h.kd f.sp hP,hy⟩
 rw [f.sp.block k (Nat.lt_of_lt_of_le hk h.gr.size) ?_]
 · exact h.gr.block k hk hn
 · rintro (e|e)
   · omega
   · have:=(h.mw.row.lt k e).1;omega
theorem Ycd:∀ x∈shapeT,0<=x.2.1/\x.2.1<7:=by
 intro x hx
 simp only [shapeT,List.mem_cons,List.not_mem_nil,or_false] at hx
 rcases hx with rfl|rfl|rfl|rfl|rfl|rfl|rfl|rfl|rfl|rfl|rfl|rfl|rfl|rfl|rfl|rfl|rfl|rfl|rfl|rfl|rfl|rfl|rfl|rfl|rfl|rfl|rfl|rfl|rfl|rfl|rfl|rfl|rfl|rfl|rfl|rfl|rfl|rfl|rfl|rfl|rfl|rfl|rfl|rfl|rfl|rfl <;> exact ⟨by decide,by decide⟩
theorem Ziw (a:Int) (w:World):Calls Try.prog 70 #[.int .i64 a] w fun e w'=>e = .returned (.bool (a == 0))/\w'=w:=by
 go_enter Try.func70,Try.ntmps70
 go_wp2
 go_ret
 exact ⟨rfl,rfl⟩
theorem Zmx (a:Int) (w:World):Calls Try.prog 73 #[.int .i64 a] w fun e w'=>e = .returned (.bool true)/\w'=w:=by
 go_enter Try.func73,Try.ntmps73
 go_wp2
 go_ret
 exact ⟨rfl,rfl⟩
theorem Zgn (a n:Int) (bb:Nat) (w:World) (h:w.cell? ⟨bb,0,none⟩=some (.int .i64 n)):Calls Try.prog 89 #[.int .i64 a,.pointer (some ⟨bb,0,none⟩)] w fun e w'=>e = .returned (.bool (decide (0<=a) && decide (a<n)))/\w'=w:=by
 by_cases h1:0<=a
 · go_enter Try.func89,Try.ntmps89
   go_wp2
   go_ret
   exact ⟨by simp [h1],rfl⟩
 · go_enter Try.func89,Try.ntmps89
   go_wp2
   go_ret
   exact ⟨by simp [h1];omega,rfl⟩
theorem Zit (p:Option Addr) (a:Int) (w:World):Calls Try.prog 71 #[.pointer p,.int .i64 a] w fun e w'=>e = .returned (.tuple #[])/\w'=w:=by
 go_enter Try.func71,Try.ntmps71
 go_wp2
 go_end0
 exact ⟨rfl,rfl⟩
theorem Ztq {op:Int} {nm:ByteArray} {o t g:Int} (h:Ja op=some (nm,o,t,g)):∃ k:Nat,o=k/\k<7/\0<=op/\op<46:=by
 by_cases hop:0<=op/\op<46
 · obtain ⟨n,x,rfl,hn,hx,hs⟩:=Zgh hop
   rw [h] at hs
   injection hs with hs
   subst hs
   obtain ⟨h0,h7⟩:=Ycd _ (List.mem_of_getElem? hx)
   obtain ⟨k,hk⟩:=Int.eq_ofNat_of_zero_le h0
   simp only [] at hk h7
   exact ⟨k,hk,by omega,hop.1,hop.2⟩
 · rw [Zgi hop] at h;cases h
def Xfo (w:World) (E Bw:Nat) (vb:Value) (n:Nat) (e:Ending) (w':World):Prop:=e = .returned (.tuple #[])/\∃ v' m xs,m<=9/\(∀ u∈xs,u.oneCell'=true)/\Zom w w' E Bw vb v' (n+m) xs
theorem Zdw {w w':World} {E Bw n:Nat} {vb:Value} {e:Ending} (h:Zsw w E Bw vb n e w'):Xfo w E Bw vb n e w':=by
 obtain ⟨h1,v',m,xs,_,h3,h4,h5⟩:=h;exact ⟨h1,v',m,xs,h3,h4,h5⟩
theorem Zgk {w:World} {E Bw n:Nat} {vb:Value} {xs:List Value} (h:MwAt w E Bw vb n xs) (hx:∀ u∈xs,u.oneCell'=true):Xfo w E Bw vb n (.returned (.tuple #[])) w :=
 ⟨rfl,vb,0,xs,by omega,hx,h,Zez _ _,Or.inl rfl⟩
theorem Zzz {w w':World} {E Bw n m:Nat} {vb v':Value} {xs ys:List Value} (h:MwAt w E Bw vb n xs) (f:Zom w w' E Bw vb v' m ys) {b:Nat} {ob:Obj} (hb:w.heap[b]? = some ob) (hE:E<=b) (hv:∀ k,vb.ownBlock=some k->k<b):w'.heap[b]? = some ob:=by
 rw [f.sp.block b (Gs hb) ?_]
 · exact hb
 · rintro (e|e)
   · have:=h.lt;omega
   · have:=hv b e;omega
theorem Zno {w wr w4 w6:World} {E Bw S K n m:Nat} {vb v6:Value} {xs ys:List Value} {ob8 o9 o11:Obj} (h:EncS w wr E Bw S K n vb xs) (g:wr.grownBy w4 none) (hx:w4.heap[wr.heap.size]? = some ob8)
 (f:Zom ((w4.alloc o9).alloc o11) w6 E Bw vb v6 m ys) (hy:∀ u∈ys,u.oneCell'=true):EncS w w6 E Bw S K m v6 ys/\w6.heap[wr.heap.size]? = some ob8/\w6.heap[w4.heap.size+1]? = some o11:=by
 have g2:=Za g (Za (Ga w4 o9 none) (Ga _ o11 none))
 have h2:=Zpu h g2
 have hle:=h.mw.le
 have hsz:=g.size
 refine ⟨Zls h2 f hy,Zzz h2.mw f (Zb (Zb hx (Ga w4 o9 none) (by simp)) (Ga _ o11 none) (by simp)) hle (fun k hk=>(h.mw.row.lt k hk).2),Zzz h2.mw f (Yr w4 o9 o11) (by omega) (fun k hk=>by have:=(h.mw.row.lt k hk).2;omega)⟩
theorem Xez (k:Nat):bK k<=4096:=by unfold bK;split <;> decide
def Zyl (l:List (Int × Int)):Int:=if 4096<l.length then 2 else Zoj l
def Yww (w:World) (l:List (Int × Int)) (e:Ending) (w':World):Prop:=∃ v,e = .returned (.tuple #[v,.int .i64 (Zyl l)])/\w.grownBy w' none
theorem Ydp (l:List (Int × Int)) (p:Option Addr) (c B:Nat) (w:World) (hB:B<=w.heap.size) (hC:Xz w B p l) :
 Calls Try.prog 37 #[.slice p l.length c] w (Yww w l):=by
 have CC:=Hq hC
 clear hC
 by_cases h4:(4096:Int)<(l.length:Int)
 · have hE:Zyl l=2:=by unfold Zyl;rw [if_pos (by omega)]
   go_enter Try.func37,Try.ntmps37
   go_wp2
   go_ret2
   exact ⟨.slice none 0 0,by rw [hE];rfl,Zc _ _⟩
 · have hE:Zyl l=Zoj l:=by unfold Zyl;rw [if_neg (by omega)]
   have N:=Hq Yuo
   have KO:=Hq Zdp
   have SH:=Hq Zox
   go_enter Try.func37,Try.ntmps37
   go_wp2_with (first
    | (go_at_call 57;refine (N.out _).mono ?_;rintro e w1 ⟨rfl,rfl⟩)
    | (go_at_call 58;refine (KO.out _).mono ?_;rintro e w2 ⟨K,rfl,hg2,hk2⟩;have G2:=Hq hg2;have K2:=Hq hk2;clear hg2 hk2)
    | (go_at_call 59;refine (SH.out _).mono ?_;rintro e w3 ⟨S,rfl,hg3,hS,hs3⟩;have G3:=Hq hg3;have S3:=Hq hs3;clear hg3 hs3))
   have ES:=Hq (EncS.mk (Za (Za (Ga w _ none) G2.out) G3.out) (Nat.le_refl _) (MwAt.mk (Zb (Zb (heap_alloc_new w _) G2.out (by simp)) G3.out (by simp)) (World.ownsRow_nil _ _ _ _) (by have:=S3.out.1;have:=G2.out.size;simp at this;omega) (Nat.le_refl _)) S3.out (by have:=G2.out.size;simp at this;omega) S3.out.1 (Ydd (Bw:=w.heap.size) (Zko K2.out G3.out) (by simp) (Nat.le_refl _)) (by simp):EncS w w3 w3.heap.size w.heap.size S K 0 (.slice none 0 0) [])
   have hEw:w.heap.size<w3.heap.size:=ES.out.mw.lt
   generalize w3.heap.size=E at *
   clear K2 S3 hS G2
   go_loopw [20] (fun i wr=>∃ (k n:Nat) (vb:Value) (xs:List Value),i = .int .i64 k/\k<=l.length/\n<=18*k/\Zoj l=Zoj (l.drop k)/\EncS w wr E w.heap.size S K n vb xs) (fun i _=>l.length - (intOf i).toNat)
   case atStart=>exact ⟨0,0,_,_,rfl,Nat.zero_le _,Nat.le_refl _,rfl,ES.out⟩
   case round =>
    obtain ⟨k,n,vb,xs,rfl,hk,hn,he,hes⟩:=hrel
    have HE:=Hq he
    have ER:=Hq hes
    clear he hes
    by_cases hlt:(k:Int)<(l.length:Int)
    · obtain ⟨⟨op,a⟩,hg⟩:∃ x,l[k]? = some x:=⟨_,List.getElem?_eq_getElem (by omega)⟩
      obtain ⟨b,o,rfl,hb,hc⟩:=CC.out (by omega)
      obtain ⟨c0,c1⟩:=hc k op a hg
      replace c0:=Xt ER.out.gr (B:=B) (by simp) hb c0
      replace c1:=Xt ER.out.gr (B:=B) (by simp) hb c1
      have hb2:b<wr.heap.size:=by have:=ER.out.gr.size;omega
      have hd:=Ykh hg
      have R:=Hq (Ztp op S (wr.alloc (.cells #[.int .i64 op,.int .i64 a] 49)) (Zij ER.out.sh (Ga _ _ none) (by simp)))
      clear hc
      cases hs:Ja op with
      | none =>
        rw [hs] at hd R
        simp only [] at hd
        simp only [Zoy] at R
        have HR:=Hq (hE.trans (HE.out.trans hd))
        clear hd hg
        go_wp2_with (go_at_call 60;refine R.out.mono ?_;rintro e w4 ⟨rfl,hg4⟩;have G4:=Hq hg4;clear hg4)
        go_ret2
        exact ⟨.slice none 0 0,by rw [HR.out];rfl,Za ER.out.gr (Za (Ga _ _ none) (Za G4.out (Ga _ _ none)))⟩
      | some s =>
        obtain ⟨nm,ok,tk,gk⟩:=s
        obtain ⟨kd,rfl,hk7,ho0,ho46⟩:=Ztq hs
        rw [hs] at hd R
        simp only [Int.toNat_natCast] at hd
        simp only [Zoy] at R
        obtain ⟨ka,kb,kc,hkc,q0,q1,q2⟩:=ER.out.kd.2.2 kd hk7
        have hKB:=ER.out.kd.1
        have hKE:=ER.out.kd.2.1
        have hKw:K<wr.heap.size:=by have:=ER.out.mw.le;omega
        have hki:(kd:Int)<7:=by omega
        have HD:=Hq hd
        have HKC:=Hq hkc
        have MV:=Hq (show ∀ W,wr.grownBy W none->W.cell? ⟨K,kd*3,none⟩=some ka/\W.cell? ⟨K,kd*3+1,none⟩=some kb/\W.cell? ⟨K,kd*3+2,none⟩=some kc from fun W g=>⟨g.cell q0 (by simp),g.cell q1 (by simp),g.cell q2 (by simp)⟩)
        have BV:=Hq (show ∀ (W:World) (bb:Nat),wr.grownBy W none->wr.cell? ⟨bb,0,none⟩=some (.int .i64 (bK kd))->W.cell? ⟨bb,0,none⟩=some (.int .i64 (bK kd)) from fun W bb g h=>g.cell h (by simp))
        have NU:=Hq (show ∀ W,wr.grownBy W none->Calls Try.prog 61 #[.pointer (some ⟨w.heap.size,0,none⟩),.int .i64 op] W (Zsw W E w.heap.size vb n) from fun W g=>Zdf E w.heap.size vb n xs ER.out.one op ho0 (by omega) (by omega) W (Zpu ER.out g).mw)
        clear hd hkc q0 q1 q2 hs hg
        rcases HKC.out with ⟨hk0,rfl,rfl,rfl⟩|⟨hk0,rfl,rfl,rfl⟩|⟨hk0,bb,rfl,rfl,rfl,hb1,hb2',hbc⟩
        · by_cases hm:(a == 0)=true
          · have hd2:=HD.out
            rw [if_pos (show Zrp kd a=true by unfold Zrp;rw [if_pos hk0];exact hm)] at hd2
            have H2:=Hq (HE.out.trans hd2)
            clear hd2 HKC hk0
            (
              go_wp2_with (first
               | (go_at_call 60;refine R.out.mono ?_;rintro e w4 ⟨rfl,hg4⟩;have G4:=Hq (Za (Ga wr _ none) hg4);have m4:=MV.out w4 G4.out;obtain ⟨m0,m1,m2⟩:=m4;have hKw4:K<w4.heap.size:=Nat.lt_of_lt_of_le hKw G4.out.size;have X8:=Hq (Zb (heap_alloc_new wr (.cells #[.int .i64 op,.int .i64 a] 49)) hg4 (by simp));have x81:=Cq w4 _ 1 _ _ _ X8.out;have x80:=Cq w4 _ 0 _ _ _ X8.out;have hl8:wr.heap.size<w4.heap.size:=(Gs X8.out);clear hg4 R)
               | (go_at_call 70;refine (Ziw _ _).mono ?_;rintro e w5 ⟨rfl,rfl⟩;rw [hm])
               | (go_at_call 73;refine (Zmx _ _).mono ?_;rintro e w5 ⟨rfl,rfl⟩)
               | (go_at_call 89;refine (Zgn _ _ _ _ (BV.out _ _ (Za G4.out (Za (Ga _ _ _) (Ga _ _ _))) hbc)).mono ?_;rintro e w5 ⟨rfl,rfl⟩;rw [hm])
               | (go_at_call 61;refine (NU.out _ (Za G4.out (Za (Ga _ _ _) (Ga _ _ _)))).mono ?_;rintro e w6 ⟨rfl,v6,j6,ys6,h61,h69,ho6,f6⟩;have EM:=Zno ER.out G4.out X8.out f6 ho6;obtain ⟨t1,t2,t3⟩:=EM;have E6:=Hq t1;have O6:=Hq ho6;clear NU x81 x80 hl8 m0 m1 m2 hKw4;have y81:=Cq w6 _ 1 _ _ _ t2;have y111:=Cq w6 _ 1 _ _ _ t3;have hl8:wr.heap.size<w6.heap.size:=(Gs t2);have hl11:w4.heap.size+1<w6.heap.size:=(Gs t3);clear t1 t2 t3 f6 ho6)
               | (go_at_call 71;refine (Zit _ _ _).mono ?_;rintro e w7 ⟨rfl,rfl⟩;have P7:=Hq (Zgk E6.out.mw E6.out.one))
               | (go_at_call 74;refine (Zne _ _ _ _ _ E6.out.one _ (by omega) _ E6.out.mw).mono ?_;intro e w7 hp7;have P7:=Hq (Zdw hp7);have he7:=hp7.1;subst he7;clear hp7)
               | (go_at_call 61;refine (Zdf _ _ _ _ _ E6.out.one _ HA.out.1 HA.out.2 (by omega) _ E6.out.mw).mono ?_;intro e w7 hp7;have P7:=Hq (Zdw hp7);have he7:=hp7.1;subst he7;clear hp7)))
            (
              obtain ⟨-,v7,m7,xs7,h7,ho7,f7⟩:=P7.out
              exact ⟨⟨k+1,n+j6+m7,v7,xs7,by go_num,by omega,by omega,H2.out,Zls E6.out f7 ho7⟩,by simp [intOf];omega⟩)
          · replace hm:(a == 0)=false:=by simpa using hm
            have hd2:=HD.out
            rw [if_neg (show ¬ Zrp kd a=true by unfold Zrp;rw [if_pos hk0,hm];simp)] at hd2
            have H2:=Hq (hE.trans (HE.out.trans hd2))
            clear hd2 HKC hk0
            (
              go_wp2_with (first
               | (go_at_call 60;refine R.out.mono ?_;rintro e w4 ⟨rfl,hg4⟩;have G4:=Hq (Za (Ga wr _ none) hg4);have m4:=MV.out w4 G4.out;obtain ⟨m0,m1,m2⟩:=m4;have hKw4:K<w4.heap.size:=Nat.lt_of_lt_of_le hKw G4.out.size;have X8:=Hq (Zb (heap_alloc_new wr (.cells #[.int .i64 op,.int .i64 a] 49)) hg4 (by simp));have x81:=Cq w4 _ 1 _ _ _ X8.out;have x80:=Cq w4 _ 0 _ _ _ X8.out;have hl8:wr.heap.size<w4.heap.size:=(Gs X8.out);clear hg4 R)
               | (go_at_call 70;refine (Ziw _ _).mono ?_;rintro e w5 ⟨rfl,rfl⟩;rw [hm])
               | (go_at_call 73;refine (Zmx _ _).mono ?_;rintro e w5 ⟨rfl,rfl⟩)
               | (go_at_call 89;refine (Zgn _ _ _ _ (BV.out _ _ (Za G4.out (Za (Ga _ _ _) (Ga _ _ _))) hbc)).mono ?_;rintro e w5 ⟨rfl,rfl⟩;rw [hm])
               | (go_at_call 61;refine (NU.out _ (Za G4.out (Za (Ga _ _ _) (Ga _ _ _)))).mono ?_;rintro e w6 ⟨rfl,v6,j6,ys6,h61,h69,ho6,f6⟩;have EM:=Zno ER.out G4.out X8.out f6 ho6;obtain ⟨t1,t2,t3⟩:=EM;have E6:=Hq t1;have O6:=Hq ho6;clear NU x81 x80 hl8 m0 m1 m2 hKw4;have y81:=Cq w6 _ 1 _ _ _ t2;have y111:=Cq w6 _ 1 _ _ _ t3;have hl8:wr.heap.size<w6.heap.size:=(Gs t2);have hl11:w4.heap.size+1<w6.heap.size:=(Gs t3);clear t1 t2 t3 f6 ho6)
               | (go_at_call 71;refine (Zit _ _ _).mono ?_;rintro e w7 ⟨rfl,rfl⟩;have P7:=Hq (Zgk E6.out.mw E6.out.one))
               | (go_at_call 74;refine (Zne _ _ _ _ _ E6.out.one _ (by omega) _ E6.out.mw).mono ?_;intro e w7 hp7;have P7:=Hq (Zdw hp7);have he7:=hp7.1;subst he7;clear hp7)
               | (go_at_call 61;refine (Zdf _ _ _ _ _ E6.out.one _ HA.out.1 HA.out.2 (by omega) _ E6.out.mw).mono ?_;intro e w7 hp7;have P7:=Hq (Zdw hp7);have he7:=hp7.1;subst he7;clear hp7)))
            (
              go_ret2
              exact ⟨.slice none 0 0,by rw [H2.out];rfl,Za ER.out.gr (Za G4.out (Za (Ga _ _ _) (Ga _ _ _)))⟩)
        · have hd2:=HD.out
          rw [if_pos (show Zrp kd a=true by unfold Zrp;rw [if_neg (by omega),if_pos hk0])] at hd2
          have H2:=Hq (HE.out.trans hd2)
          clear hd2 HKC hk0
          (
            go_wp2_with (first
             | (go_at_call 60;refine R.out.mono ?_;rintro e w4 ⟨rfl,hg4⟩;have G4:=Hq (Za (Ga wr _ none) hg4);have m4:=MV.out w4 G4.out;obtain ⟨m0,m1,m2⟩:=m4;have hKw4:K<w4.heap.size:=Nat.lt_of_lt_of_le hKw G4.out.size;have X8:=Hq (Zb (heap_alloc_new wr (.cells #[.int .i64 op,.int .i64 a] 49)) hg4 (by simp));have x81:=Cq w4 _ 1 _ _ _ X8.out;have x80:=Cq w4 _ 0 _ _ _ X8.out;have hl8:wr.heap.size<w4.heap.size:=(Gs X8.out);clear hg4 R)
             | (go_at_call 70;refine (Ziw _ _).mono ?_;rintro e w5 ⟨rfl,rfl⟩;rw [hm])
             | (go_at_call 73;refine (Zmx _ _).mono ?_;rintro e w5 ⟨rfl,rfl⟩)
             | (go_at_call 89;refine (Zgn _ _ _ _ (BV.out _ _ (Za G4.out (Za (Ga _ _ _) (Ga _ _ _))) hbc)).mono ?_;rintro e w5 ⟨rfl,rfl⟩;rw [hm])
             | (go_at_call 61;refine (NU.out _ (Za G4.out (Za (Ga _ _ _) (Ga _ _ _)))).mono ?_;rintro e w6 ⟨rfl,v6,j6,ys6,h61,h69,ho6,f6⟩;have EM:=Zno ER.out G4.out X8.out f6 ho6;obtain ⟨t1,t2,t3⟩:=EM;have E6:=Hq t1;have O6:=Hq ho6;clear NU x81 x80 hl8 m0 m1 m2 hKw4;have y81:=Cq w6 _ 1 _ _ _ t2;have y111:=Cq w6 _ 1 _ _ _ t3;have hl8:wr.heap.size<w6.heap.size:=(Gs t2);have hl11:w4.heap.size+1<w6.heap.size:=(Gs t3);clear t1 t2 t3 f6 ho6)
             | (go_at_call 71;refine (Zit _ _ _).mono ?_;rintro e w7 ⟨rfl,rfl⟩;have P7:=Hq (Zgk E6.out.mw E6.out.one))
             | (go_at_call 74;refine (Zne _ _ _ _ _ E6.out.one _ (by omega) _ E6.out.mw).mono ?_;intro e w7 hp7;have P7:=Hq (Zdw hp7);have he7:=hp7.1;subst he7;clear hp7)
             | (go_at_call 61;refine (Zdf _ _ _ _ _ E6.out.one _ HA.out.1 HA.out.2 (by omega) _ E6.out.mw).mono ?_;intro e w7 hp7;have P7:=Hq (Zdw hp7);have he7:=hp7.1;subst he7;clear hp7)))
          (
            obtain ⟨-,v7,m7,xs7,h7,ho7,f7⟩:=P7.out
            exact ⟨⟨k+1,n+j6+m7,v7,xs7,by go_num,by omega,by omega,H2.out,Zls E6.out f7 ho7⟩,by simp [intOf];omega⟩)
        · have hmk:Zrp kd a=(decide (0<=a) && decide (a<bK kd)):=by unfold Zrp;rw [if_neg (by omega),if_neg (by omega)]
          by_cases hm:(decide (0<=a) && decide (a<bK kd))=true
          · have hd2:=HD.out
            rw [if_pos (hmk.trans hm)] at hd2
            have H2:=Hq (HE.out.trans hd2)
            have ha0:0<=a:=by simp at hm;exact hm.1
            have ha1:a<9223372036854775808:=by have:=Xez kd;simp at hm;omega
            have HA:=Hq (And.intro ha0 ha1)
            clear hd2 HKC hk0 hmk ha0 ha1
            (
              go_wp2_with (first
               | (go_at_call 60;refine R.out.mono ?_;rintro e w4 ⟨rfl,hg4⟩;have G4:=Hq (Za (Ga wr _ none) hg4);have m4:=MV.out w4 G4.out;obtain ⟨m0,m1,m2⟩:=m4;have hKw4:K<w4.heap.size:=Nat.lt_of_lt_of_le hKw G4.out.size;have X8:=Hq (Zb (heap_alloc_new wr (.cells #[.int .i64 op,.int .i64 a] 49)) hg4 (by simp));have x81:=Cq w4 _ 1 _ _ _ X8.out;have x80:=Cq w4 _ 0 _ _ _ X8.out;have hl8:wr.heap.size<w4.heap.size:=(Gs X8.out);clear hg4 R)
               | (go_at_call 70;refine (Ziw _ _).mono ?_;rintro e w5 ⟨rfl,rfl⟩;rw [hm])
               | (go_at_call 73;refine (Zmx _ _).mono ?_;rintro e w5 ⟨rfl,rfl⟩)
               | (go_at_call 89;refine (Zgn _ _ _ _ (BV.out _ _ (Za G4.out (Za (Ga _ _ _) (Ga _ _ _))) hbc)).mono ?_;rintro e w5 ⟨rfl,rfl⟩;rw [hm])
               | (go_at_call 61;refine (NU.out _ (Za G4.out (Za (Ga _ _ _) (Ga _ _ _)))).mono ?_;rintro e w6 ⟨rfl,v6,j6,ys6,h61,h69,ho6,f6⟩;have EM:=Zno ER.out G4.out X8.out f6 ho6;obtain ⟨t1,t2,t3⟩:=EM;have E6:=Hq t1;have O6:=Hq ho6;clear NU x81 x80 hl8 m0 m1 m2 hKw4;have y81:=Cq w6 _ 1 _ _ _ t2;have y111:=Cq w6 _ 1 _ _ _ t3;have hl8:wr.heap.size<w6.heap.size:=(Gs t2);have hl11:w4.heap.size+1<w6.heap.size:=(Gs t3);clear t1 t2 t3 f6 ho6)
               | (go_at_call 71;refine (Zit _ _ _).mono ?_;rintro e w7 ⟨rfl,rfl⟩;have P7:=Hq (Zgk E6.out.mw E6.out.one))
               | (go_at_call 74;refine (Zne _ _ _ _ _ E6.out.one _ (by omega) _ E6.out.mw).mono ?_;intro e w7 hp7;have P7:=Hq (Zdw hp7);have he7:=hp7.1;subst he7;clear hp7)
               | (go_at_call 61;refine (Zdf _ _ _ _ _ E6.out.one _ HA.out.1 HA.out.2 (by omega) _ E6.out.mw).mono ?_;intro e w7 hp7;have P7:=Hq (Zdw hp7);have he7:=hp7.1;subst he7;clear hp7)))
            (
              obtain ⟨-,v7,m7,xs7,h7,ho7,f7⟩:=P7.out
              exact ⟨⟨k+1,n+j6+m7,v7,xs7,by go_num,by omega,by omega,H2.out,Zls E6.out f7 ho7⟩,by simp [intOf];omega⟩)
          · replace hm:(decide (0<=a) && decide (a<bK kd))=false:=by simpa only [Bool.not_eq_true] using hm
            have hd2:=HD.out
            rw [if_neg (show ¬ Zrp kd a=true by rw [hmk,hm];simp)] at hd2
            have H2:=Hq (hE.trans (HE.out.trans hd2))
            clear hd2 HKC hk0 hmk
            (
              go_wp2_with (first
               | (go_at_call 60;refine R.out.mono ?_;rintro e w4 ⟨rfl,hg4⟩;have G4:=Hq (Za (Ga wr _ none) hg4);have m4:=MV.out w4 G4.out;obtain ⟨m0,m1,m2⟩:=m4;have hKw4:K<w4.heap.size:=Nat.lt_of_lt_of_le hKw G4.out.size;have X8:=Hq (Zb (heap_alloc_new wr (.cells #[.int .i64 op,.int .i64 a] 49)) hg4 (by simp));have x81:=Cq w4 _ 1 _ _ _ X8.out;have x80:=Cq w4 _ 0 _ _ _ X8.out;have hl8:wr.heap.size<w4.heap.size:=(Gs X8.out);clear hg4 R)
               | (go_at_call 70;refine (Ziw _ _).mono ?_;rintro e w5 ⟨rfl,rfl⟩;rw [hm])
               | (go_at_call 73;refine (Zmx _ _).mono ?_;rintro e w5 ⟨rfl,rfl⟩)
               | (go_at_call 89;refine (Zgn _ _ _ _ (BV.out _ _ (Za G4.out (Za (Ga _ _ _) (Ga _ _ _))) hbc)).mono ?_;rintro e w5 ⟨rfl,rfl⟩;rw [hm])
               | (go_at_call 61;refine (NU.out _ (Za G4.out (Za (Ga _ _ _) (Ga _ _ _)))).mono ?_;rintro e w6 ⟨rfl,v6,j6,ys6,h61,h69,ho6,f6⟩;have EM:=Zno ER.out G4.out X8.out f6 ho6;obtain ⟨t1,t2,t3⟩:=EM;have E6:=Hq t1;have O6:=Hq ho6;clear NU x81 x80 hl8 m0 m1 m2 hKw4;have y81:=Cq w6 _ 1 _ _ _ t2;have y111:=Cq w6 _ 1 _ _ _ t3;have hl8:wr.heap.size<w6.heap.size:=(Gs t2);have hl11:w4.heap.size+1<w6.heap.size:=(Gs t3);clear t1 t2 t3 f6 ho6)
               | (go_at_call 71;refine (Zit _ _ _).mono ?_;rintro e w7 ⟨rfl,rfl⟩;have P7:=Hq (Zgk E6.out.mw E6.out.one))
               | (go_at_call 74;refine (Zne _ _ _ _ _ E6.out.one _ (by omega) _ E6.out.mw).mono ?_;intro e w7 hp7;have P7:=Hq (Zdw hp7);have he7:=hp7.1;subst he7;clear hp7)
               | (go_at_call 61;refine (Zdf _ _ _ _ _ E6.out.one _ HA.out.1 HA.out.2 (by omega) _ E6.out.mw).mono ?_;intro e w7 hp7;have P7:=Hq (Zdw hp7);have he7:=hp7.1;subst he7;clear hp7)))
            (
              go_ret2
              exact ⟨.slice none 0 0,by rw [H2.out];rfl,Za ER.out.gr (Za G4.out (Za (Ga _ _ _) (Ga _ _ _)))⟩)
    · have hkn:k=l.length:=by omega
      have hfin:Zoj l=0:=by rw [HE.out,hkn,List.drop_length];rfl
      have D:=Hq (Ypz E w.heap.size vb n xs ER.out.one (by omega) wr ER.out.mw)
      subst hkn
      go_wp2_with (go_at_call 62;refine D.out.mono ?_;rintro e w9 ⟨v9,rfl,hg9⟩;have G9:=Hq hg9;clear hg9)
      go_ret2
      exact ⟨_,by rw [hE,hfin];rfl,Za ER.out.gr G9.out⟩
abbrev FnP:=Int × Int × Int × List (Int × Int)
def Yl (w:World) (B:Nat) (p:Option Addr) (fs:List FnP):Prop:=0<fs.length->∃ b o:Nat,p=some ⟨b,o,none⟩/\b<B/\∀ i a l r c,fs[i]? = some (a,l,r,c) ->
 w.cell? ⟨b,o+i*4,none⟩=some (.int .i64 a)/\w.cell? ⟨b,o+i*4+1,none⟩=some (.int .i64 l)/\w.cell? ⟨b,o+i*4+2,none⟩=some (.int .i64 r) /\
 ∃ (pc:Option Addr) (cc:Nat),w.cell? ⟨b,o+i*4+3,none⟩=some (.slice pc c.length cc)/\Xz w B pc c
theorem Zq {w w':World} {row:Option Nat} {B:Nat} {p:Option Addr} {l:List FnP} (h:Yl w B p l) (g:w.grownBy w' row) (hr:∀ r,row=some r->B<=r):Yl w' B p l:=fun h0=>by
 obtain ⟨b,o,e,hb,hc⟩:=h h0
 refine ⟨b,o,e,hb,fun i a l r c hi => ?_⟩
 obtain ⟨h1,h2,h3,pc,cc,h4,h5⟩:=hc i a l r c hi
 exact ⟨Xt g hr hb h1,Xt g hr hb h2,Xt g hr hb h3,pc,cc,Xt g hr hb h4,Xo h5 g hr⟩
def fnE (f:FnP):Int:=if f.1<0\/16<f.1\/f.2.1<f.1\/64<f.2.1\/f.2.2.1<0\/1<f.2.2.1\/f.2.2.2.length<1\/4096<f.2.2.2.length then 121 else Zoj f.2.2.2
def Ydi:List FnP->Int
 | []=>0
 | f::r=>if fnE f=0 then Ydi r else fnE f
def Zaz (mem:Int) (nd:Nat) (fs:List FnP):Int:=if mem<0\/65536<mem\/mem<nd\/fs.length<1\/64<fs.length then 121 else Ydi fs
theorem Yjr {fs:List FnP} {k:Nat} {f:FnP} (h:fs[k]? = some f):Ydi (fs.drop k)=if fnE f=0 then Ydi (fs.drop (k+1)) else fnE f:=by
 obtain ⟨hk,e⟩:=List.getElem?_eq_some_iff.1 h
 rw [List.drop_eq_getElem_cons hk,e]
 rfl
def Yej (w:World) (b:Nat) (mem:Int) (vd vF:Value):Prop:=w.heap[b]? = some (.cells #[.int .i64 mem,vd,vF] 25 (0,0))
theorem Zck {w w':World} {b:Nat} {mem:Int} {vd vF:Value} {row:Option Nat} (h:Yej w b mem vd vF) (g:w.grownBy w' row) (hr:row≠some b):Yej w' b mem vd vF:=Zb h g hr
theorem Zss (w:World) (mem:Int) (vd vF:Value):Yej (w.alloc (.cells #[.int .i64 mem,vd,vF] 25)) w.heap.size mem vd vF:=heap_alloc_new w _
theorem Zkb (mem:Int) (nd:Nat) (fs:List FnP) (pd pF:Option Addr) (cd cF B:Nat) (w:World) (hB:B<=w.heap.size) (hF:Yl w B pF fs) (hn:nd<=9223372036854775807) :
 Calls Try.prog 22 #[.agg #[.int .i64 mem,.slice pd nd cd,.slice pF fs.length cF]] w fun e w'=>e = .returned (.int .i64 (Zaz mem nd fs))/\w.grownBy w' none:=by
 have FF:=Hq hF
 clear hF
 by_cases hbad:mem<0\/65536<mem\/mem<nd\/fs.length<1\/64<fs.length
 · have hE:Zaz mem nd fs=121:=by unfold Zaz;rw [if_pos hbad]
   rw [hE]
   have hni:(fs.length:Int)<1\/¬ (fs.length:Int)<1:=Classical.em _
   rcases (by omega:mem<0\/(0<=mem/\65536<mem)\/(0<=mem/\mem<=65536/\mem<(nd:Int))\/(0<=mem/\mem<=65536/\(nd:Int)<=mem/\(fs.length:Int)<1)\/(0<=mem/\mem<=65536/\(nd:Int)<=mem/\1<=(fs.length:Int)/\64<(fs.length:Int))) with q1|⟨q1,q2⟩|⟨q1,q2,q3⟩|⟨q1,q2,q3,q4⟩|⟨q1,q2,q3,q4,q5⟩
   all_goals
    clear hbad hni hE
    go_enter Try.func22,Try.ntmps22
    go_wp2
    go_ret
    exact ⟨rfl,Ga _ _ _⟩
 · have hE:Zaz mem nd fs=Ydi fs:=by unfold Zaz;rw [if_neg hbad]
   have q1:0<=mem:=by omega
   have q2:mem<=65536:=by omega
   have q3:(nd:Int)<=mem:=by omega
   have q4:1<=(fs.length:Int):=by omega
   have q5:(fs.length:Int)<=64:=by omega
   clear hbad
   go_enter Try.func22,Try.ntmps22
   go_wp2
   have BX:=Hq (Zss w mem (.slice pd nd cd) (.slice pF fs.length cF))
   have G0:=Hq (Ga w (.cells #[.int .i64 mem,.slice pd nd cd,.slice pF fs.length cF] 25) none)
   generalize w.alloc (.cells #[.int .i64 mem,.slice pd nd cd,.slice pF fs.length cF] 25)=w1 at *
   go_loopw [38] (fun i wr=>∃ k:Nat,i = .int .i64 k/\k<=fs.length/\Ydi fs=Ydi (fs.drop k)/\w.grownBy wr none) (fun i _=>fs.length - (intOf i).toNat)
   case atStart=>exact ⟨0,rfl,Nat.zero_le _,rfl,G0.out⟩
   case round =>
    obtain ⟨k,rfl,hk,he,hg⟩:=hrel
    have HE:=Hq he
    have GR:=Hq hg
    by_cases hlt:(k:Int)<(fs.length:Int)
    · obtain ⟨⟨a,lo,r,c⟩,hf⟩:∃ x,fs[k]? = some x:=⟨_,List.getElem?_eq_getElem (by omega)⟩
      obtain ⟨b,o,rfl,hb,hc⟩:=FF.out (by omega)
      obtain ⟨c0,c1,c2,pc,cc,c3,hcode⟩:=hc k a lo r c hf
      replace c0:=Xt hg (B:=B) (by simp) hb c0
      replace c1:=Xt hg (B:=B) (by simp) hb c1
      replace c2:=Xt hg (B:=B) (by simp) hb c2
      replace c3:=Xt hg (B:=B) (by simp) hb c3
      have hb2:b<wr.heap.size:=by have:=hg.size;omega
      have hst:=Yjr hf
      have gW:=Za hg (Ga wr (.cells #[.int .i64 a,.int .i64 lo,.int .i64 r,.slice pc c.length cc] 52) none)
      have EC:=Hq (Ydp c pc cc B (wr.alloc (.cells #[.int .i64 a,.int .i64 lo,.int .i64 r,.slice pc c.length cc] 52)) (Nat.le_trans hB gW.size) (Xo hcode gW (by simp)))
      have GW:=Hq gW
      clear hc he hg hcode hf gW
      by_cases hbad:a<0\/16<a\/lo<a\/64<lo\/r<0\/1<r\/c.length<1\/4096<c.length
      · have hfn:fnE (a,lo,r,c)=121:=by unfold fnE;rw [if_pos hbad]
        rw [hfn,if_neg (by decide)] at hst
        have H2:=Hq (hE.trans (HE.out.trans hst))
        clear hst hfn EC
        rcases (by omega:a<0\/(0<=a/\16<a)\/(0<=a/\a<=16/\lo<a)\/(0<=a/\a<=16/\a<=lo/\64<lo)\/(0<=a/\a<=16/\a<=lo/\lo<=64/\r<0)\/(0<=a/\a<=16/\a<=lo/\lo<=64/\0<=r/\1<r)\/(0<=a/\a<=16/\a<=lo/\lo<=64/\0<=r/\r<=1/\(c.length:Int)<1)\/(0<=a/\a<=16/\a<=lo/\lo<=64/\0<=r/\r<=1/\1<=(c.length:Int)/\4096<(c.length:Int))) with p1|⟨p1,p2⟩|⟨p1,p2,p3⟩|⟨p1,p2,p3,p4⟩|⟨p1,p2,p3,p4,p5⟩|⟨p1,p2,p3,p4,p5,p6⟩|⟨p1,p2,p3,p4,p5,p6,p7⟩|⟨p1,p2,p3,p4,p5,p6,p7,p8⟩
        all_goals
         clear hbad
         go_wp2
         go_ret
         exact ⟨Zfa H2.out.symm,GW.out⟩
      · have hfn:fnE (a,lo,r,c)=Zoj c:=by unfold fnE;rw [if_neg hbad]
        have hco:Zyl c=Zoj c:=by unfold Zyl;rw [if_neg (by omega)]
        rw [hfn] at hst
        have p1:0<=a:=by omega
        have p2:a<=16:=by omega
        have p3:a<=lo:=by omega
        have p4:lo<=64:=by omega
        have p5:0<=r:=by omega
        have p6:r<=1:=by omega
        have p7:1<=(c.length:Int):=by omega
        have p8:(c.length:Int)<=4096:=by omega
        clear hbad hfn
        by_cases hz:Zoj c=0
        · rw [if_pos hz] at hst
          have H2:=Hq (HE.out.trans hst)
          have HZ:=Hq (hco.trans hz)
          clear hst hz hco
          go_wp2_with (go_at_call 37;refine EC.out.mono ?_;rintro e w4 ⟨v4,rfl,hg4⟩;have G4:=Hq hg4;clear hg4;rw [HZ.out])
          go_roundw
          case rel=>exact ⟨k+1,by go_num,by omega,H2.out,Za GW.out G4.out⟩
          case measure=>simp [intOf];omega
        · rw [if_neg hz] at hst
          have H2:=Hq (hE.trans (HE.out.trans hst))
          have hz2:(Zoj c != 0)=true:=by simpa using hz
          have HZ:=Hq hco
          clear hst hz hco
          go_wp2_with (go_at_call 37;refine EC.out.mono ?_;rintro e w4 ⟨v4,rfl,hg4⟩;have G4:=Hq hg4;clear hg4;rw [HZ.out])
          go_ret
          exact ⟨Zfa H2.out.symm,Za GW.out G4.out⟩
    · have hkn:k=fs.length:=by omega
      have hfin:Ydi fs=0:=by rw [he,hkn,List.drop_length];rfl
      clear he
      go_wp2
      go_ret
      first
       | exact ⟨rfl,GR.out⟩
       | exact ⟨Zfa (hE.trans hfin).symm,GR.out⟩
end Go.Proofs.Ythlkflagancdfaa.CK
namespace Go.Proofs.Ythlkflagancdfaa.CW
open Go.RowKit (wrap64)
def Yuc:BitVec 64:=9221120237041090560#64
def nan (b:Nat):Bool:=decide (9218868437227405312<b % 9223372036854775808)
def told (b:Nat):BitVec 64:=if nan b then Yuc else BitVec.ofNat 64 b
def Zbc:Option Nat->BitVec 64
 | some r=>told r
 | none=>Yuc
def one (b:Bool):BitVec 64:=if b then 1#64 else 0#64
def Zpr (op:Int) (x y:Nat):BitVec 64 × Int :=
 if op=36 then (Zbc (Ieee.double.add x y),0)
 else if op=37 then (Zbc (Ieee.double.sub x y),0)
 else if op=38 then (Zbc (Ieee.double.mul x y),0)
 else if op=39 then (Zbc (Ieee.double.div x y),0)
 else if op=40 then (one (Ieee.double.order x y == some .eq),0)
 else if op=41 then (one (Ieee.double.order x y == some .lt),0)
 else (0#64,8)
def two (op:Int) (x y:BitVec 64):BitVec 64 × Int :=
 if op=20 then (x+y,0)
 else if op=21 then (x - y,0)
 else if op=22 then (x*y,0)
 else if op=23 then (if y=0#64 then (0#64,5) else (x.sdiv y,0))
 else if op=24 then (if y=0#64 then (0#64,5) else (x.srem y,0))
 else if op=25 then (x &&& y,0)
 else if op=26 then (x ||| y,0)
 else if op=27 then (x ^^^ y,0)
 else if op=28 then (x <<< (y.toNat % 64),0)
 else if op=29 then (x.sshiftRight (y.toNat % 64),0)
 else if op=30 then (x >>> (y.toNat % 64),0)
 else if op=31 then (one (x == y),0)
 else if op=32 then (one (x.slt y),0)
 else if op=33 then (one (x.ult y),0)
 else Zpr op x.toNat y.toNat
def Xfm (b:Nat):Nat:=b ^^^ 9223372036854775808
theorem Jg (n:Int):wrap64 n=n.bmod 18446744073709551616:=by
 unfold wrap64 Int.bmod;dsimp only;split <;> omega
theorem toInt_ofInt (n:Int):(BitVec.ofInt 64 n).toInt=wrap64 n:=by
 rw [Jg,BitVec.toInt_ofInt]
theorem Zmb (n:Nat):(BitVec.ofNat 64 n).toInt=wrap64 n:=by
 rw [Jg,BitVec.toInt_ofNat']
theorem Xcw (x y:BitVec 64):wrap64 (x.toInt+y.toInt)=(x+y).toInt:=by rw [Jg,BitVec.toInt_add]
theorem Xcn (x y:BitVec 64):wrap64 (x.toInt - y.toInt)=(x - y).toInt:=by rw [Jg,BitVec.toInt_sub]
theorem Xcv (x y:BitVec 64):wrap64 (x.toInt*y.toInt)=(x*y).toInt:=by rw [Jg,BitVec.toInt_mul]
theorem Xcs (x y:BitVec 64):wrap64 (x.toInt.tdiv y.toInt)=(x.sdiv y).toInt:=by rw [Jg,BitVec.toInt_sdiv]
theorem Xcr (x y:BitVec 64):x.toInt.tmod y.toInt=(x.srem y).toInt:=by rw [BitVec.toInt_srem]
theorem Ymb (n:Int):IntKind.i64.wrap n=wrap64 n:=by
 unfold IntKind.wrap wrap64;simp only [IntKind.bits,IntKind.signed];simp;split <;> omega
theorem Yet (op:BinOp) (f:BitVec 64->BitVec 64->BitVec 64)
 (h:(op = .and/\f=(· &&& ·))\/(op = .or/\f=(· ||| ·))\/(op = .xor/\f=(· ^^^ ·))\/(op = .andNot/\f=(· &&& ~~~ ·)))
 (x y:BitVec 64):bits op .i64 x.toInt y.toInt=(f x y).toInt:=by
 rcases h with ⟨rfl,rfl⟩|⟨rfl,rfl⟩|⟨rfl,rfl⟩|⟨rfl,rfl⟩
 all_goals
  simp only [bits]
  rw [Ymb,<- Zmb]
  simp only [IntKind.bits,BitVec.ofInt_toInt,BitVec.ofNat_toNat,BitVec.setWidth_eq]
  rfl
theorem Yxe (x y:BitVec 64):bits .and .i64 x.toInt y.toInt=(x &&& y).toInt:=Yet .and _ (by simp) x y
theorem Xfr (x y:BitVec 64):bits .or .i64 x.toInt y.toInt=(x ||| y).toInt:=Yet .or _ (by simp) x y
theorem Yxd (x y:BitVec 64):bits .xor .i64 x.toInt y.toInt=(x ^^^ y).toInt:=Yet .xor _ (by simp) x y
theorem Xcu (x:BitVec 64):wrap64 (-x.toInt)=(-x).toInt:=by rw [BitVec.toInt_neg,Jg]
theorem Xct (x:BitVec 64):bits .xor .i64 (-1) x.toInt=(~~~x).toInt:=by
 have h:=Yxd (BitVec.allOnes 64) x
 rw [show (BitVec.allOnes 64).toInt = -1 from by decide,BitVec.allOnes_xor] at h;exact h
theorem Xft (x y:BitVec 64):(x.toInt == y.toInt)=(x == y):=by
 rw [Bool.eq_iff_iff];simp [BitVec.toInt_inj]
theorem Xfs (x y:BitVec 64):decide (x.toInt<y.toInt)=x.slt y:=rfl
theorem Zlz (x:BitVec 64):IntKind.u64.wrap x.toInt=(x.toNat:Int):=by
 rw [IntKind.wrap_u64,BitVec.toInt_eq_toNat_cond];have:=x.isLt;split <;> omega
theorem Xcm (x y:BitVec 64):decide (IntKind.u64.wrap x.toInt<IntKind.u64.wrap y.toInt)=x.ult y:=by
 rw [Zlz,Zlz];unfold BitVec.ult;simp
theorem Ysp (y:BitVec 64):bits .and .i64 y.toInt 63=((y.toNat % 64:Nat):Int):=by
 have h:bits .and .i64 y.toInt (63#64).toInt=(y &&& 63#64).toInt:=Yxe y 63#64
 have e:(63#64).toInt=63:=by decide
 rw [e] at h;rw [h]
 have hn:(y &&& 63#64).toNat=y.toNat % 64:=by
  rw [BitVec.toNat_and];exact Nat.and_two_pow_sub_one_eq_mod y.toNat 6
 rw [BitVec.toInt_eq_toNat_cond,hn,if_pos (by omega)]
theorem Xcp (x:BitVec 64) (k:Nat) (hk:k<64):wrap64 (x.toInt*2 ^ k)=(x <<< k).toInt:=by
 rw [Jg,BitVec.toInt_shiftLeft]
 rw [Nat.shiftLeft_eq,BitVec.toInt_eq_toNat_bmod]
 push_cast
 rw [Int.bmod_mul_bmod]
theorem Xcq (x:BitVec 64) (k:Nat) (hk:k<64):x.toInt / 2 ^ k=(x.sshiftRight k).toInt:=by
 rw [BitVec.toInt_sshiftRight,Int.shiftRight_eq_div_pow];rfl
theorem Xco (x:BitVec 64) (k:Nat) (hk:k<64):wrap64 ((x.toNat:Int) / 2 ^ k)=(x >>> k).toInt:=by
 rw [BitVec.toInt_eq_toNat_bmod,BitVec.toNat_ushiftRight,Nat.shiftRight_eq_div_pow,Jg]
 push_cast;rfl
open Go.RowKit
def Zfc (t:Nat):Nat:=(t % 2)*9223372036854775808+9218868437227405312+1+(t / 2) % 4503599627370495
theorem Zxt (t:Nat):nan (Zfc t)=true:=by
 unfold nan Zfc;simp only [decide_eq_true_eq]
 have h1:t % 2<2:=by omega
 have h2:(t / 2) % 4503599627370495<4503599627370495:=by omega
 generalize t % 2=k at *;generalize (t / 2) % 4503599627370495=m at *;omega
theorem Zcd (t:Nat):told (Zfc t)=Yuc:=by
 unfold told;rw [Zxt];rfl
theorem Ztv (n:Int) (w:World):(callFunc 101 #[.int .u64 n]).run Try.prog w = .ok (.value (.float .f64 n.toNat)) w:=by
 rw [run_callFunc_extern Try.func101 (by kernel_rfl) (by kernel_rfl) (by kernel_rfl) (by kernel_rfl:_=some Extern.MathFloatBits.float64frombits)];rfl
theorem Zjy (x:BitVec 64) (w:World):(callFunc 101 #[.int .u64 (IntKind.u64.wrap x.toInt)]).run Try.prog w = .ok (.value (.float .f64 x.toNat)) w:=by
 rw [Ztv]
 have:(IntKind.u64.wrap x.toInt).toNat=x.toNat:=by
  rw [IntKind.wrap_u64,BitVec.toInt_eq_toNat_cond];have:=x.isLt;split <;> omega
 rw [this]
theorem Ymw (b:Nat) (w:World):(callFunc 102 #[.float .f64 b]).run Try.prog w = .ok (.value (.int .u64 b)) w:=by
 rw [run_callFunc_extern Try.func102 (by kernel_rfl) (by kernel_rfl) (by kernel_rfl) (by kernel_rfl:_=some Extern.MathFloatBits.float64bits)];rfl
theorem Yfz (b:Nat):Extern.MathSqrt.sqrt #[.float .f64 b]=(match Ieee.double.sqrt b with|some r=>pure (.float .f64 r)|none=>do pure (.float .f64 (<- choose (.nanBits .f64 b b)))):=rfl
theorem Zqp (b r:Nat) (h:Ieee.double.sqrt b=some r) (w:World):(callFunc 103 #[.float .f64 b]).run Try.prog w = .ok (.value (.float .f64 r)) w:=by
 rw [run_callFunc_extern Try.func103 (by kernel_rfl) (by kernel_rfl) (by kernel_rfl) (by kernel_rfl:_=some Extern.MathSqrt.sqrt)]
 rw [Yfz,h];rfl
theorem Zqq (b:Nat) (h:Ieee.double.sqrt b=none) (w:World):(callFunc 103 #[.float .f64 b]).run Try.prog w = .ok (.value (.float .f64 (Zfc (w.tape w.drawn (.nanBits .f64 b b))))) w.drew:=by
 rw [run_callFunc_extern Try.func103 (by kernel_rfl) (by kernel_rfl) (by kernel_rfl) (by kernel_rfl:_=some Extern.MathSqrt.sqrt)]
 rw [Yfz,h];rfl
theorem Zbz (op:BinOp) (t:TypeId) (x y r:Nat) (h:floatBits op .f64 x y=some r) (w:World) :
 (binOp op t (.float .f64 x) (.float .f64 y)).run Try.prog w = .ok (.float .f64 r) w:=run_float_arith w op t .f64 x y r h
theorem Zca (op:BinOp) (t:TypeId) (x y:Nat) (ho:op = .add\/op = .sub\/op = .mul\/op = .quo) (h:floatBits op .f64 x y=none) (w:World) :
 (binOp op t (.float .f64 x) (.float .f64 y)).run Try.prog w = .ok (.float .f64 (Zfc (w.tape w.drawn (.nanBits .f64 x y)))) w.drew:=by
 unfold floatBits at h
 rcases ho with rfl|rfl|rfl|rfl
 all_goals
  simp only at h
  simp only [binOp,Op.floatArith,h];rfl
theorem Zfa {k:IntKind} {a b:Int} (h:a=b):Ending.returned (.int k a) = .returned (.int k b):=by rw [h]
theorem Yj {k q:IntKind} {a b c d:Int} (h:a=b) (g:c=d):Ending.returned (.tuple #[.int k a,.int q c]) = .returned (.tuple #[.int k b,.int q d]):=by rw [h,g]
theorem Yx (b:Bool) (w:World):Calls Try.prog 97 #[.bool b] w fun e w'=>e = .returned (.int .i64 (one b).toInt)/\w=w':=by
 cases b
 all_goals
  go_enter Try.func97,Try.ntmps97
  go_wp2
  go_ret
  exact ⟨rfl,rfl⟩
theorem Ju (x:BitVec 64) (w:World):Calls Try.prog 93 #[.int .i64 x.toInt] w fun e w'=>e = .returned (.float .f64 x.toNat)/\w=w':=by
 have h:=fun w=>Zjy x w
 go_enter Try.func93,Try.ntmps93
 go_wp2
 go_ret
 exact ⟨rfl,rfl⟩
theorem Ycp (b:Nat):(FloatKind.f64.format.order b b != some Ordering.eq)=nan b:=by
 show (Ieee.double.order b b != some Ordering.eq)=nan b
 unfold Ieee.Format.order Ieee.Format.read nan
 simp only [show Ieee.double.signWeight=9223372036854775808 from by decide,show Ieee.double.binade=4503599627370496 from by decide,show Ieee.double.infRung=9218868437227405312 from by decide]
 split
 · rename_i h;rw [Bool.eq_iff_iff];simp [Ieee.Datum.order];omega
 · split
   · rename_i h;rw [Bool.eq_iff_iff];simp [Ieee.Datum.order];omega
   · split
     · rename_i h;rw [Bool.eq_iff_iff];simp [Ieee.Datum.order];omega
     · rename_i h;rw [Bool.eq_iff_iff];simp [Ieee.Datum.order];omega
theorem Jt (b:Nat) (w:World):Calls Try.prog 96 #[.float .f64 b] w fun e w'=>e = .returned (.bool (nan b))/\w=w':=by
 go_enter Try.func96,Try.ntmps96
 go_wp2
 go_ret
 exact ⟨by rw [<- Ycp b];rfl,rfl⟩
theorem Xw (b:Nat) (w:World):Calls Try.prog 94 #[.float .f64 b] w fun e w'=>e = .returned (.int .i64 (told b).toInt)/\w=w':=by
 have h:=fun w=>Ymw b w
 by_cases hn:nan b=true
 · go_enter Try.func94,Try.ntmps94
   go_wp2_with (go_at_call 96;refine (Jt _ _).mono ?_;rintro e w' ⟨rfl,rfl⟩)
   go_ret
   exact ⟨by unfold told;rw [hn];rfl,rfl⟩
 · have hn:nan b=false:=by simpa using hn
   go_enter Try.func94,Try.ntmps94
   go_wp2_with (go_at_call 96;refine (Jt _ _).mono ?_;rintro e w' ⟨rfl,rfl⟩)
   go_ret
   exact ⟨Zfa (by unfold told;rw [hn,if_neg (by decide),Zmb]),rfl⟩
def Xcc (w w':World):Prop:=∃ n,w'=w.drewN n
def Zbx (op:Int):Prop:=∀ (x y:Nat) (w:World),Calls Try.prog 98 #[.int .i64 op,.float .f64 x,.float .f64 y] w fun e w'=>e = .returned (.tuple #[.int .i64 (Zpr op x y).1.toInt,.int .i64 (Zpr op x y).2])/\Xcc w w'
theorem Yjy:Zbx 36:=by
 intro x y w
 cases hr:floatBits .add .f64 x y with
 | some r =>
   have h:=fun t w=>Zbz .add t x y r hr w
   go_enter Try.func98,Try.ntmps98
   go_wp2_with (go_at_call 94;refine (Xw _ _).mono ?_;rintro e w' ⟨rfl,rfl⟩)
   go_ret2
   exact ⟨Yj (by have hr':Ieee.double.add x y=some r:=hr
                 show (told r).toInt=(Zbc (Ieee.double.add x y)).toInt
                 rw [hr'];rfl) rfl,0,rfl⟩
 | none =>
   have h:=fun t w=>Zca .add t x y (by simp) hr w
   go_enter Try.func98,Try.ntmps98
   go_wp2_with (go_at_call 94;refine (Xw _ _).mono ?_;rintro e w' ⟨rfl,rfl⟩)
   go_ret2
   exact ⟨Yj (by have hr':Ieee.double.add x y=none:=hr
                 show (told (Zfc _)).toInt=(Zbc (Ieee.double.add x y)).toInt
                 rw [hr',Zcd];rfl) rfl,1,rfl⟩
theorem Yjx:Zbx 37:=by
 intro x y w
 cases hr:floatBits .sub .f64 x y with
 | some r =>
   have h:=fun t w=>Zbz .sub t x y r hr w
   go_enter Try.func98,Try.ntmps98
   go_wp2_with (go_at_call 94;refine (Xw _ _).mono ?_;rintro e w' ⟨rfl,rfl⟩)
   go_ret2
   exact ⟨Yj (by have hr':Ieee.double.sub x y=some r:=hr
                 show (told r).toInt=(Zbc (Ieee.double.sub x y)).toInt
                 rw [hr'];rfl) rfl,0,rfl⟩
 | none =>
   have h:=fun t w=>Zca .sub t x y (by simp) hr w
   go_enter Try.func98,Try.ntmps98
   go_wp2_with (go_at_call 94;refine (Xw _ _).mono ?_;rintro e w' ⟨rfl,rfl⟩)
   go_ret2
   exact ⟨Yj (by have hr':Ieee.double.sub x y=none:=hr
                 show (told (Zfc _)).toInt=(Zbc (Ieee.double.sub x y)).toInt
                 rw [hr',Zcd];rfl) rfl,1,rfl⟩
theorem Yjw:Zbx 38:=by
 intro x y w
 cases hr:floatBits .mul .f64 x y with
 | some r =>
   have h:=fun t w=>Zbz .mul t x y r hr w
   go_enter Try.func98,Try.ntmps98
   go_wp2_with (go_at_call 94;refine (Xw _ _).mono ?_;rintro e w' ⟨rfl,rfl⟩)
   go_ret2
   exact ⟨Yj (by have hr':Ieee.double.mul x y=some r:=hr
                 show (told r).toInt=(Zbc (Ieee.double.mul x y)).toInt
                 rw [hr'];rfl) rfl,0,rfl⟩
 | none =>
   have h:=fun t w=>Zca .mul t x y (by simp) hr w
   go_enter Try.func98,Try.ntmps98
   go_wp2_with (go_at_call 94;refine (Xw _ _).mono ?_;rintro e w' ⟨rfl,rfl⟩)
   go_ret2
   exact ⟨Yj (by have hr':Ieee.double.mul x y=none:=hr
                 show (told (Zfc _)).toInt=(Zbc (Ieee.double.mul x y)).toInt
                 rw [hr',Zcd];rfl) rfl,1,rfl⟩
theorem Yjv:Zbx 39:=by
 intro x y w
 cases hr:floatBits .quo .f64 x y with
 | some r =>
   have h:=fun t w=>Zbz .quo t x y r hr w
   go_enter Try.func98,Try.ntmps98
   go_wp2_with (go_at_call 94;refine (Xw _ _).mono ?_;rintro e w' ⟨rfl,rfl⟩)
   go_ret2
   exact ⟨Yj (by have hr':Ieee.double.div x y=some r:=hr
                 show (told r).toInt=(Zbc (Ieee.double.div x y)).toInt
                 rw [hr'];rfl) rfl,0,rfl⟩
 | none =>
   have h:=fun t w=>Zca .quo t x y (by simp) hr w
   go_enter Try.func98,Try.ntmps98
   go_wp2_with (go_at_call 94;refine (Xw _ _).mono ?_;rintro e w' ⟨rfl,rfl⟩)
   go_ret2
   exact ⟨Yj (by have hr':Ieee.double.div x y=none:=hr
                 show (told (Zfc _)).toInt=(Zbc (Ieee.double.div x y)).toInt
                 rw [hr',Zcd];rfl) rfl,1,rfl⟩
theorem Yju:Zbx 40:=by
 intro x y w
 go_enter Try.func98,Try.ntmps98
 go_wp2_with (go_at_call 97;refine (Yx _ _).mono ?_;rintro e w' ⟨rfl,rfl⟩)
 go_ret2
 exact ⟨Yj rfl rfl,0,rfl⟩
theorem Yjt:Zbx 41:=by
 intro x y w
 go_enter Try.func98,Try.ntmps98
 go_wp2_with (go_at_call 97;refine (Yx _ _).mono ?_;rintro e w' ⟨rfl,rfl⟩)
 go_ret2
 exact ⟨Yj rfl rfl,0,rfl⟩
theorem Ydj (op:Int):Zbx op:=by
 by_cases h36:op=36
 · subst h36;exact Yjy
 by_cases h37:op=37
 · subst h37;exact Yjx
 by_cases h38:op=38
 · subst h38;exact Yjw
 by_cases h39:op=39
 · subst h39;exact Yjv
 by_cases h40:op=40
 · subst h40;exact Yju
 by_cases h41:op=41
 · subst h41;exact Yjt
 intro x y w
 have e1:(op == 36)=false:=beq_eq_false_iff_ne.2 h36
 have e2:(op == 37)=false:=beq_eq_false_iff_ne.2 h37
 have e3:(op == 38)=false:=beq_eq_false_iff_ne.2 h38
 have e4:(op == 39)=false:=beq_eq_false_iff_ne.2 h39
 have e5:(op == 40)=false:=beq_eq_false_iff_ne.2 h40
 have e6:(op == 41)=false:=beq_eq_false_iff_ne.2 h41
 have hf:Zpr op x y=(0#64,8):=by simp [Zpr,h36,h37,h38,h39,h40,h41]
 rw [hf]
 clear hf h36 h37 h38 h39 h40 h41
 go_enter Try.func98,Try.ntmps98
 go_wp2
 go_ret2
 exact ⟨Yj rfl rfl,0,rfl⟩
end Go.Proofs.Ythlkflagancdfaa.CW
