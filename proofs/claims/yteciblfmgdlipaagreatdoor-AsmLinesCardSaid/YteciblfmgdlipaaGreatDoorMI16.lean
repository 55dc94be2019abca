/-
  Part of a proof: contracts of functions and lemmas, each stated by its own theorem. Conditions: as each theorem states.
-/
import Derived.Test.YteciblfmgdlipaaGreatDoorMI15
import Derived.Test.YteciblfmgdlipaaGreatDoorMI04
import Derived.Test.YteciblfmgdlipaaGreatDoorMI05
set_option linter.unusedSimpArgs false
set_option linter.unusedVariables false
set_option maxRecDepth 100000
set_option maxHeartbeats 16000000
namespace Go.Proofs.YteciblfmgdlipaaGreatDoor.AS
open Go.RowKit Go.Great CK
theorem Zyy:Tryz.prog.underlying 37=some (.slice 9):=by kernel_rfl
theorem Yez:(Tryz.prog.info? 9).map (fun i=>(i.zero,i.size,i.bytes))=some (some (.string ⟨#[]⟩),1,16):=by kernel_rfl
theorem Zyz (s:ByteArray):∀ u∈[Value.string s],u.oneCell'=true:=by
 intro u hu
 simp only [List.mem_cons,List.not_mem_nil,or_false] at hu
 subst hu;rfl
theorem Yvw (L:Txt) (a b:Nat):(bs L).extract a b=bs ((L.drop a).take (b - a)):=by rw [Xw,Xs]
def Zih (w:World) (E:Nat) (v:Value) (ls:List Txt):Prop:=w.ownsRow E 9 1 v ls.length (ls.map fun l => .string (bs l))
theorem Zni {w:World} {E:Nat} {v:Value} {done:List Txt} {L:Txt} {f k:Nat} (h:w.ownsRow E 9 1 v (done.length+1) (done.map (fun l=>Value.string (bs l))++[.string ((bs L).extract f k)])):Zih w E v (done++[(L.drop f).take (k - f)]):=by
 unfold Zih
 rw [List.length_append,List.map_append]
 rw [Yvw] at h
 exact h
def LnI (L:Txt) (f k:Nat) (done:List Txt):Prop:=f<=k/\k<=L.length/\Zci L=done++Zci (L.drop f)/\(∀ (j:Nat) (c:UInt8),f<=j->j<k->L[j]? = some c->c.toNat≠10)
theorem Yhj (L:Txt):LnI L 0 0 []:=⟨Nat.le_refl _,Nat.zero_le _,rfl,fun j c _ h=>absurd h (Nat.not_lt_zero _)⟩
theorem Ymu {L:Txt} {f k:Nat} {done:List Txt} {c:UInt8} (h:LnI L f k done) (hc:L[k]? = some c) (h10:c.toNat≠10):LnI L f (k+1) done:=by
 obtain ⟨h1,h2,h3,h4⟩:=h
 refine ⟨by omega,(List.getElem?_eq_some_iff.1 hc).1,h3,fun j d hj1 hj2 hd => ?_⟩
 by_cases e:j=k
 · subst e;rw [hc] at hd;injection hd with hd;subst hd;exact h10
 · exact h4 j d hj1 (by omega) hd
theorem Yaf {L:Txt} {f k:Nat} {done:List Txt} (h:LnI L f k done):∀ c∈(L.drop f).take (k - f),c.toNat≠10:=by
 intro c hc
 obtain ⟨i,hi⟩:=List.getElem?_of_mem hc
 rw [List.getElem?_take] at hi
 split at hi
 · rw [List.getElem?_drop] at hi
   exact h.2.2.2 (f+i) c (by omega) (by omega) hi
 · cases hi
theorem Ysi {L:Txt} {f k:Nat} {done:List Txt} {c:UInt8} (h:LnI L f k done) (hc:L[k]? = some c) (h10:c.toNat=10):LnI L (k+1) (k+1) (done++[(L.drop f).take (k - f)]):=by
 have hn:=Yaf h
 obtain ⟨h1,h2,h3,h4⟩:=h
 obtain ⟨hk,e⟩:=List.getElem?_eq_some_iff.1 hc
 refine ⟨Nat.le_refl _,hk,?_,fun j c h1 h2=>absurd h2 (by omega)⟩
 have hs:L.drop f=(L.drop f).take (k - f)++c::L.drop (k+1):=by
  have:=(List.take_append_drop (k - f) (L.drop f)).symm
  rw [List.drop_drop,show f+(k - f)=k by omega,List.drop_eq_getElem_cons hk,e] at this
  exact this
 rw [h3]
 conv=>lhs;rw [hs]
 rw [Zsz _ _ _ hn h10]
 simp
theorem Ysh {L:Txt} {f:Nat} {done:List Txt} (h:LnI L f L.length done):Zci L=done++[L.drop f]:=by
 have hn:=Yaf h
 rw [h.2.2.1]
 have:(L.drop f).take (L.length - f)=L.drop f:=by rw [<- List.length_drop,List.take_length]
 rw [this] at hn
 rw [Zow _ hn]
theorem Yhl (L:Txt) (hL:L.length<=65536) (w:World):Calls Tryz.prog 31 #[.string (bs L)] w fun e w'=>(∃ p k,e = .returned (.slice p (Zci L).length k)/\Zih w' w.heap.size (.slice p (Zci L).length k) (Zci L))/\w.grownBy w' none:=by
 have hz:=Zl L
 obtain ⟨si,si0,si1,si2,si3⟩:=info_parts Yez
 go_enter Tryz.func31,Tryz.ntmps31
 go_wp2
 go_loopw [3,4,5] (fun v f i wr=>∃ (k f0:Nat) (done:List Txt),i = .int .i64 k/\f = .int .i64 f0/\LnI L f0 k done/\done.length<=k/\Zih wr w.heap.size v done/\w.grownBy wr none) (fun _ _ i _=>L.length - (intOf i).toNat)
 case atStart=>exact ⟨0,0,[],rfl,rfl,Yhj L,Nat.le_refl _,World.ownsRow_nil _ _ _ _,Zb _ _⟩
 case round =>
  obtain ⟨k,f0,done,rfl,rfl,hI,hdl,ho,hg⟩:=hrel
  obtain ⟨q1,k1,rfl⟩:=Zi ho
  have OW:=Hq ho
  have GR:=Hq hg
  have LI:=Hq hI
  have hfk:=hI.1
  have hkn:=hI.2.1
  have hgs:=hg.size
  have hc3:done.length+1<=maxLen:=by unfold maxLen;omega
  have hc4:(done.length+1)*16<=140737488355328:=by omega
  have hE:∀ o',w.heap.size<=(wr.alloc o').heap.size:=fun o'=>Zw (by omega) o'
  have OWA:=Hq (fun o'=>World.ownsRow.alloc OW.out o')
  clear ho hg hI
  by_cases hlt:k<L.length
  · obtain ⟨c,hq⟩:∃ c,L[k]? = some c:=⟨_,List.getElem?_eq_getElem hlt⟩
    have HQ:=Hq hq
    have hkb:k<(bs L).size:=by rw [Zl];exact hlt
    have hbk:(bs L)[k]'hkb=c:=by
     have:=(List.getElem?_eq_some_iff.1 hq).2
     rw [<- this]
     rfl
    by_cases h10:c.toNat=10
    · have hb:((((bs L)[k]'hkb).toNat:Int) == 10)=true:=by rw [hbk,h10];rfl
      have NX:=Hq (Ysi LI.out HQ.out h10)
      clear hbk hq
      go_wp2_with (at_builtin;refine wpList_append_own_at _ rfl _ _ 37 rfl w.heap.size 9 si (.string ⟨#[]⟩) 1 16 Zyy si0 si1 si2 si3 rfl (by decide) (.slice q1 done.length k1) _ _ rfl (OWA.out _) ⟨wr.heap.size,0,none⟩ 1 1 [.string _] rfl rfl (Zcd wr _ _) (Zyz _) hc3 hc4 (hE _) ?_;intro v3 w5 hown3 hgr3 hnil3 hat3;obtain ⟨p3,k3,hv3⟩:=Zi hown3;subst hv3;have OW3:=Hq hown3;have GR3:=Hq hgr3;clear hown3 hgr3 hnil3 hat3)
      exact ⟨⟨k+1,k+1,_,by go_num,by go_num,NX.out,by simp;omega,Zni OW3.out,Yf (Za GR.out (Ga _ _ none)) GR3.out (fun q hq=>(World.ownsRow.lt OW.out q hq).1)⟩,by simp [intOf];omega⟩
    · have hb:((((bs L)[k]'hkb).toNat:Int) == 10)=false:=by rw [hbk,beq_eq_false_iff_ne];omega
      have NX:=Hq (Ymu LI.out HQ.out h10)
      clear hbk hq
      go_wp2
      exact ⟨⟨k+1,f0,done,by go_num,by go_num,NX.out,by omega,OW.out,GR.out⟩,by simp [intOf];omega⟩
  · have hkn2:k=L.length:=by omega
    subst hkn2
    have HC:=Hq (Ysh LI.out)
    clear hlt
    go_wp2_with (at_builtin;refine wpList_append_own_at _ rfl _ _ 37 rfl w.heap.size 9 si (.string ⟨#[]⟩) 1 16 Zyy si0 si1 si2 si3 rfl (by decide) (.slice q1 done.length k1) _ _ rfl (OWA.out _) ⟨wr.heap.size,0,none⟩ 1 1 [.string _] rfl rfl (Zcd wr _ _) (Zyz _) hc3 hc4 (hE _) ?_;intro v3 w5 hown3 hgr3 hnil3 hat3;obtain ⟨p3,k3,hv3⟩:=Zi hown3;subst hv3;have OW3:=Hq hown3;have GR3:=Hq hgr3;clear hown3 hgr3 hnil3 hat3)
    go_ret
    have HR:=Zni OW3.out
    have ht:(L.drop f0).take (L.length - f0)=L.drop f0:=by rw [<- List.length_drop,List.take_length]
    rw [ht,<- HC.out] at HR
    have hl9:(Zci L).length=done.length+1:=by rw [HC.out,List.length_append];rfl
    rw [hl9]
    exact ⟨⟨p3,k3,rfl,HR⟩,Yf (Za GR.out (Ga _ _ none)) GR3.out (fun q hq=>(World.ownsRow.lt OW.out q hq).1)⟩
def Zst (b:UInt8):Int:=Yap (b.toNat:Int)
theorem Zjn (b:UInt8) (w:World):Calls Tryz.prog 128 #[.int .u8 (b.toNat:Int)] w fun e w'=>e = .returned (.int .i64 (Zst b))/\w'=w :=
 (Ylh (b.toNat:Int) (by omega) (by have:=b.toNat_lt;omega) w).mono fun e w' h=>⟨h.1,h.2.symm⟩
theorem Zyb {b:UInt8} (h:Zhu b=none):Zst b = -1:=by unfold Zst;rw [Yig,h]
theorem Zya {b:UInt8} {n:Nat} (h:Zhu b=some n):Zst b=(n:Int)/\n<16:=by
 refine ⟨by unfold Zst;rw [Yig,h],Zlj h⟩
def Ytv (w:World) (at_:Nat) (r:Option (Txt × Nat)) (e:Ending) (w':World):Prop :=
 (match r with
   | some (b,k)=>e = .returned (.tuple #[.string (bs b),.int .i64 ((at_:Int)+1+k),.bool true])
   | none=>e = .returned (.tuple #[.string ⟨#[]⟩,.int .i64 0,.bool false]))/\w.grownBy w' none
structure RqR (s:ByteArray) (at_:Nat) (w wr:World) (v:Value) (k:Nat) (acc:Txt):Prop where
 le:k<=s.size
 at_:Ytu s.data.toList (at_+1) k acc
 buf:Buf wr w.heap.size v acc
 gr:w.grownBy wr none
 len:acc.length<=k
theorem Zrw {s:ByteArray} {a:Nat} {w wr w2:World} {v v2:Value} {k m:Nat} {acc:Txt} {e:UInt8} (h:RqR s a w wr v k acc) (hm:1<=m) (hle:k+m<=s.size) (hs:unq (s.data.toList.drop k)=(unq (s.data.toList.drop (k+m))).map fun x=>(e::x.1,x.2+m))
 (ho:w2.ownsRow w.heap.size 5 1 v2 (acc.length+1) (bvs acc++[.int .u8 (e.toNat:Int)])) (g:wr.grownBy w2 v.ownBlock):RqR s a w w2 v2 (k+m) (acc++[e]):=by
 refine ⟨hle,Ztg h.at_ hs,?_,Zej h.gr g (fun q hq=>(World.ownsRow.lt h.buf q hq).1),by have:=h.len;simp;omega⟩
 unfold Buf
 rw [Zlt,List.length_append,Yje]
 exact ho
theorem Yvm (w:World) (a:Int):(Instr.buildSlice 23 1 #[(0,.int .u8 a)]).run Tryz.prog w = .ok (.slice (some ⟨w.heap.size,0,none⟩) 1 1) (w.alloc (.cells #[.int .u8 a] 5)):=by kernel_rfl
def Ykh:Nat->Nat
 | 0=>100
 | 1=>101
 | 2=>102
 | 3=>103
 | 4=>104
 | 5=>105
 | 6=>106
 | 7=>107
 | 8=>108
 | 9=>109
 | 10=>110
 | 11=>111
 | 12=>112
 | 13=>113
 | 14=>114
 | 15=>115
 | 16=>7
 | _=>5000
theorem Zao:∀ i,i<17->∀ j,j<17->j≠i->Ykh j≠Ykh i:=by decide
theorem Zen (i:Nat) (h:i<17):i=0\/i=1\/i=2\/i=3\/i=4\/i=5\/i=6\/i=7\/i=8\/i=9\/i=10\/i=11\/i=12\/i=13\/i=14\/i=15\/i=16:=by omega
theorem Zmq (j:Nat) (hj:j∈[0,8]):∀ i,i<17->Ykh i≠j:=by revert j;decide
def Zbq (E na c k:Nat) (va vb b2 b3 v8:Int) (p:Option Addr) (ys:List Value) (s:ByteArray) (q2:Nat) (gv:Nat) (cv9:Nat):Nat->Value
 | 0 => .slice p na c
 | 1 => .string s
 | 2 => .int .i64 (k:Int)
 | 3 => .int .i64 ((k:Int)+2)
 | 4 => .int .u8 b2
 | 5 => .int .i64 va
 | 6 => .int .i64 (16*va)
 | 7 => .string s
 | 8 => .int .i64 (k:Int)
 | 9 => .int .i64 ((k:Int)+3)
 | 10 => .int .u8 b3
 | 11 => .int .i64 vb
 | 12 => .int .i64 (16*va+vb)
 | 13 => .int .u8 v8
 | 14 => .slice (some ⟨q2,0,none⟩) 1 1
 | 15 => .slice (some ⟨gv,0,none⟩) (na+1) cv9
 | 16 => .slice (some ⟨gv,0,none⟩) (na+1) cv9
 | _=>undef
def Ywr (E na c k:Nat) (va vb b2 b3 v8:Int) (p:Option Addr) (ys:List Value) (s:ByteArray) (q2:Nat) (gv:Nat) (cv9:Nat):Nat->World->Prop
 | 5=>fun _=>True
 | 11=>fun _=>True
 | 14=>fun w9=>w9.heap[q2]? = some (.cells #[.int .u8 v8] 5 (0,0))
 | 15=>fun w9=>w9.ownsRow E 5 1 (.slice (some ⟨gv,0,none⟩) (na+1) cv9) (na+1) (ys++[.int .u8 v8])
 | _=>fun _=>True
theorem Ypz {E na c k:Nat} {va vb b2 b3 v8:Int} {p:Option Addr} {ys:List Value} {s:ByteArray} {q2:Nat} {gv:Nat} {cv9:Nat}  {l:Array Bool} (hcl:∀ p∈([(3,2),(4,1),(4,3),(5,4),(6,5),(9,8),(10,7),(10,9),(11,10),(12,6),(12,11),(13,12),(14,13),(15,0),(15,14),(16,15)]:List (Nat × Nat)),l.getD (Prod.fst p) false=true->l.getD (Prod.snd p) false=true) (hun:l.getD 5 false=false):∀ i,i<17->l.getD i false=true->Ykh i<118->Zbq E na c k va vb b2 b3 v8 p ys s q2 gv cv9 i=Zbq E na c k va vb b2 b3 v8 p ys s q2 gv cv9 i:=by
 intro i hi hl _
 rcases Zen i hi with rfl|rfl|rfl|rfl|rfl|rfl|rfl|rfl|rfl|rfl|rfl|rfl|rfl|rfl|rfl|rfl|rfl <;> rfl
theorem Ykg {E na c k:Nat} {va vb b2 b3 v8:Int} {p:Option Addr} {ys:List Value} {s:ByteArray} {q2:Nat} {gv:Nat} {cv9:Nat}  {l:Array Bool} (hcl:∀ p∈([(3,2),(4,1),(4,3),(5,4),(6,5),(9,8),(10,7),(10,9),(11,10),(12,6),(12,11),(13,12),(14,13),(15,0),(15,14),(16,15)]:List (Nat × Nat)),l.getD (Prod.fst p) false=true->l.getD (Prod.snd p) false=true) (hun:l.getD 11 false=false):∀ i,i<17->l.getD i false=true->Ykh i<118->Zbq E na c k va vb b2 b3 v8 p ys s q2 gv cv9 i=Zbq E na c k va vb b2 b3 v8 p ys s q2 gv cv9 i:=by
 intro i hi hl _
 rcases Zen i hi with rfl|rfl|rfl|rfl|rfl|rfl|rfl|rfl|rfl|rfl|rfl|rfl|rfl|rfl|rfl|rfl|rfl <;> rfl
theorem Ykf {E na c k:Nat} {va vb b2 b3 v8:Int} {p:Option Addr} {ys:List Value} {s:ByteArray} {q2:Nat} {gv:Nat} {cv9:Nat} {q22:Nat} {l:Array Bool} (hcl:∀ p∈([(3,2),(4,1),(4,3),(5,4),(6,5),(9,8),(10,7),(10,9),(11,10),(12,6),(12,11),(13,12),(14,13),(15,0),(15,14),(16,15)]:List (Nat × Nat)),l.getD (Prod.fst p) false=true->l.getD (Prod.snd p) false=true) (hun:l.getD 14 false=false):∀ i,i<17->l.getD i false=true->Ykh i<118->Zbq E na c k va vb b2 b3 v8 p ys s q22 gv cv9 i=Zbq E na c k va vb b2 b3 v8 p ys s q2 gv cv9 i:=by
 intro i hi hl _
 rcases Zen i hi with rfl|rfl|rfl|rfl|rfl|rfl|rfl|rfl|rfl|rfl|rfl|rfl|rfl|rfl|rfl|rfl|rfl <;> first|rfl|exact Zk (hl) hun
theorem Yke {E na c k:Nat} {va vb b2 b3 v8:Int} {p:Option Addr} {ys:List Value} {s:ByteArray} {q2:Nat} {gv:Nat} {cv9:Nat} {gv2:Nat} {cv92:Nat} {l:Array Bool} (hcl:∀ p∈([(3,2),(4,1),(4,3),(5,4),(6,5),(9,8),(10,7),(10,9),(11,10),(12,6),(12,11),(13,12),(14,13),(15,0),(15,14),(16,15)]:List (Nat × Nat)),l.getD (Prod.fst p) false=true->l.getD (Prod.snd p) false=true) (hun:l.getD 15 false=false):∀ i,i<17->l.getD i false=true->Ykh i<118->Zbq E na c k va vb b2 b3 v8 p ys s q2 gv2 cv92 i=Zbq E na c k va vb b2 b3 v8 p ys s q2 gv cv9 i:=by
 intro i hi hl _
 rcases Zen i hi with rfl|rfl|rfl|rfl|rfl|rfl|rfl|rfl|rfl|rfl|rfl|rfl|rfl|rfl|rfl|rfl|rfl <;> first|rfl|exact Zk (hl) hun|exact Zk (hcl (16,15) (by decide) (hl)) hun
theorem Zwg (s:ByteArray) (hs:s.size<=70000) (a:Nat) (ha:a<s.size) (w:World):Calls Tryz.prog 90 #[.string s,.int .i64 a] w (Ytv w a (unq (s.data.toList.drop (a+1)))):=by
 have START:=Hq (Zpv s.data.toList (a+1))
 obtain ⟨r,hr⟩:∃ r,r=unq (s.data.toList.drop (a+1)):=⟨_,rfl⟩
 rw [<- hr]
 have HR:=Hq hr
 clear hr
 obtain ⟨bi,bi0,bi1,bi2,bi3⟩:=info_parts Zaz
 go_enter Tryz.func90,Tryz.ntmps90
 go_wp2
 go_loopw [7,8] (fun b i wr=>∃ k acc,i = .int .i64 ((k:Nat):Int)/\RqR s a w wr b k acc) (fun _ i _=>s.size - (intOf i).toNat)
 case atStart=>exact ⟨a+1,[],by go_num,ha,START.out,Yjf _ _,Zb _ _,Nat.zero_le _⟩
 case round =>
  obtain ⟨k,acc,rfl,hq⟩:=hrel
  obtain ⟨p,c,rfl⟩:=Zpc hq.buf
  have hlen:=hq.len
  have hle:=hq.le
  have hgs:=hq.gr.size
  have Q:=Hq hq
  have hc3:acc.length+1<=maxLen:=by unfold maxLen;omega
  have hc4:(acc.length+1)*1<=140737488355328:=by omega
  have hE:∀ o,w.heap.size<=(wr.alloc o).heap.size:=fun o=>by simp;omega
  have cv:=Zmy hq.buf
  clear hq
  by_cases hlt:k<s.size
  · have hb:=Zev s k hlt
    have HB:=Hq hb
    clear hb
    by_cases h34:(s[k]'hlt).toNat=34
    · have hk1:=Q.out.at_.1
      have HU:=Hq (show r=some (acc,k - (a+1)+1) by rw [HR.out,Zpw Q.out.at_ (Zyw HB.out h34)])
      have i34:((s[k]'hlt).toNat:Int)=34:=by omega
      clear h34
      go_wp2
      go_ret3
      rw [HU.out]
      refine ⟨?_,Q.out.gr⟩
      show Ending.returned _=Ending.returned _
      have:((a:Int)+1+((k - (a+1)+1:Nat):Int))=(k:Int)+1:=by omega
      rw [this];rfl
    · have i34:(((s[k]'hlt).toNat:Int) == 34)=false:=beq_eq_false_iff_ne.2 (by omega)
      by_cases hbad:(s[k]'hlt).toNat<32\/126<(s[k]'hlt).toNat
      · have HU:=Hq (HR.out.trans <| Jz Q.out.at_ (Yox HB.out h34 hbad))
        rcases (by omega:((s[k]'hlt).toNat:Int)<32\/(32<=((s[k]'hlt).toNat:Int)/\126<((s[k]'hlt).toNat:Int))) with i1|⟨i1,i2⟩
        all_goals
         clear h34 hbad
         go_wp2
         go_ret3
         rw [HU.out]
         exact ⟨rfl,Q.out.gr⟩
      · have i1:32<=((s[k]'hlt).toNat:Int):=by omega
        have i2:((s[k]'hlt).toNat:Int)<=126:=by omega
        by_cases h92:(s[k]'hlt).toNat=92
        · have i92:(((s[k]'hlt).toNat:Int) != 92)=false:=by rw [h92];rfl
          clear i34 hbad
          by_cases hlt1:k+1<s.size
          · have hb1:=Zev s (k+1) hlt1
            have HB1:=Hq hb1
            clear hb1
            have j1:(k:Int)+1<s.size:=by omega
            by_cases hd:(s[k+1]'hlt1).toNat=34\/(s[k+1]'hlt1).toNat=92
            · have HU:=Hq (You HB.out h92 HB1.out hd)
              have i34:(((s[k]'hlt).toNat:Int) == 34)=false:=beq_eq_false_iff_ne.2 (by omega)
              rcases (by omega:((s[k+1]'hlt1).toNat:Int)=34\/((s[k+1]'hlt1).toNat:Int)=92) with i3|i3
              all_goals
               clear h92 hd
               (
                 go_wp2_with (first
                  | (at_builtin;refine wpList_append_own_at _ rfl _ _ 23 rfl w.heap.size 5 bi (.int .u8 0) 1 1 Xv bi0 bi1 bi2 bi3 rfl (by decide) (.slice p acc.length c) _ _ rfl (World.ownsRow.alloc Q.out.buf _) ⟨wr.heap.size,0,none⟩ 1 1 [.int .u8 _] rfl rfl (Zcd wr _ _) (Zah _ _) hc3 hc4 (hE _) ?_;intro v3 w5 hown3 hgr3 hnil3 hat3;obtain ⟨p3,k3,hv3⟩:=Zi hown3;subst hv3;have OW3:=Hq hown3;have GR3:=Hq hgr3;clear hown3 hgr3 hnil3 hat3)))
               exact ⟨⟨k+2,acc++[s[k+1]'hlt1],by go_num,Zrw Q.out (by decide) (by omega) HU.out (by rw [i3];exact OW3.out) (Za (Ga _ _ _) GR3.out)⟩,by simp [intOf];omega⟩
            · have i34:(((s[k]'hlt).toNat:Int) == 34)=false:=beq_eq_false_iff_ne.2 (by omega)
              have i3:(((s[k+1]'hlt1).toNat:Int) == 34)=false:=beq_eq_false_iff_ne.2 (by omega)
              have i4:(((s[k+1]'hlt1).toNat:Int) == 92)=false:=beq_eq_false_iff_ne.2 (by omega)
              by_cases hlt3:k+3<s.size
              · have j3:(k:Int)+3<s.size:=by omega
                by_cases h120:(s[k+1]'hlt1).toNat=120
                · have hlt2:k+2<s.size:=by omega
                  have i5:(((s[k+1]'hlt1).toNat:Int) == 120)=true:=by rw [h120];rfl
                  have HB2:=Hq (Zev s (k+2) hlt2)
                  have HB3:=Hq (Zev s (k+3) hlt3)
                  have hx9:∀ W,Calls Tryz.prog 128 #[.int .u8 ((s[k+2]'hlt2).toNat:Int)] W fun e w'=>e = .returned (.int .i64 (Zst (s[k+2]'hlt2)))/\w'=W:=fun W=>Zjn _ W
                  have hy9:∀ W,Calls Tryz.prog 128 #[.int .u8 ((s[k+3]'hlt3).toNat:Int)] W fun e w'=>e = .returned (.int .i64 (Zst (s[k+3]'hlt3)))/\w'=W:=fun W=>Zjn _ W
                  have RX:=Hq hx9
                  have RY:=Hq hy9
                  clear hx9 hy9
                  cases hx:Zhu (s[k+2]'hlt2) with
                  | none =>
                    have HU:=Hq (HR.out.trans <| Jz Q.out.at_ (Yek HB.out h92 HB1.out h120 HB2.out HB3.out (Or.inl hx)))
                    have zx:=Zyb hx
                    clear h92 hd h120 hx
                    generalize Zst (s[k+2]'hlt2)=va at *
                    subst zx
                    go_wp2_with (go_at_call 128;refine (RX.out _).mono ?_;rintro e w9 ⟨rfl,hw9⟩;replace hw9:=hw9.symm;subst hw9;clear RX)
                    go_ret3
                    rw [HU.out]
                    exact ⟨rfl,Q.out.gr⟩
                  | some na =>
                    obtain ⟨zx,zx16⟩:=Zya hx
                    cases hy:Zhu (s[k+3]'hlt3) with
                    | none =>
                      have HU:=Hq (HR.out.trans <| Jz Q.out.at_ (Yek HB.out h92 HB1.out h120 HB2.out HB3.out (Or.inr hy)))
                      have zy:=Zyb hy
                      have hge:0<=Zst (s[k+2]'hlt2):=by omega
                      clear h92 hd h120 hx hy zx
                      generalize Zst (s[k+2]'hlt2)=va at *
                      generalize Zst (s[k+3]'hlt3)=vb at *
                      subst zy
                      go_wp2_with (go_at_call 128;first|(refine (RX.out _).mono ?_;rintro e w9 ⟨rfl,hw9⟩;replace hw9:=hw9.symm;subst hw9;clear RX)|(refine (RY.out _).mono ?_;rintro e w9 ⟨rfl,hw9⟩;replace hw9:=hw9.symm;subst hw9;clear RY))
                      go_ret3
                      rw [HU.out]
                      exact ⟨rfl,Q.out.gr⟩
                    | some nb =>
                      obtain ⟨zy,zy16⟩:=Zya hy
                      have HU:=Hq (Yot HB.out h92 HB1.out h120 HB2.out HB3.out hx hy)
                      have RX2:=Hq RX.out
                      have RY2:=Hq RY.out
                      have w8:IntKind.u8.wrap (16*Zst (s[k+2]'hlt2)+Zst (s[k+3]'hlt3))=((UInt8.ofNat (16*na+nb)).toNat:Int):=by
                       rw [zx,zy,IntKind.wrap_u8,UInt8.toNat_ofNat'];omega
                      have ga:0<=Zst (s[k+2]'hlt2)/\Zst (s[k+2]'hlt2)<16:=by omega
                      have gb:0<=Zst (s[k+3]'hlt3)/\Zst (s[k+3]'hlt3)<16:=by omega
                      obtain ⟨ga0,ga1⟩:=ga
                      obtain ⟨gb0,gb1⟩:=gb
                      clear h92 hd h120 hx hy zx zy zx16 zy16
                      generalize Zst (s[k+2]'hlt2)=va at *
                      generalize Zst (s[k+3]'hlt3)=vb at *
                      generalize UInt8.ofNat (16*na+nb)=e8 at *
                      go_upto_region 17 with (go_at_call 128;first|(refine (RX.out _).mono ?_;rintro e w9 ⟨rfl,hw9⟩;replace hw9:=hw9.symm;subst hw9;clear RX)|(refine (RY.out _).mono ?_;rintro e w9 ⟨rfl,hw9⟩;replace hw9:=hw9.symm;subst hw9;clear RY))
                      have em:=IntWalk.i64_in (16*va) (by omega)
                      have ea:=IntWalk.i64_in (16*va+vb) (by omega)
                      have ek2:=IntWalk.i64_in ((k:Int)+2) (by omega)
                      have ek3:=IntWalk.i64_in ((k:Int)+3) (by omega)
                      have j2:(k:Int)+2<s.size:=by omega
                      have i2:0<=(k:Int)+2:=by omega
                      have i3:0<=(k:Int)+3:=by omega
                      have t2:((k:Int)+2).toNat=k+2:=by omega
                      have t3:((k:Int)+3).toNat=k+3:=by omega
                      (try rename_i K17 hK17)
                      refine Yd (n:=17) (J:=fun a0 l a1 w1=>∃ (q2:Nat) (gv:Nat) (cv9:Nat),RJ a0 118 17 Ykh (Zbq w.heap.size acc.length c k va vb ((s[k+2]'hlt2).toNat:Int) ((s[k+3]'hlt3).toNat:Int) (e8.toNat:Int) p (bvs acc) s q2 gv cv9) l a1/\Zas 17 17 15 [(3,2),(4,1),(4,3),(5,4),(6,5),(9,8),(10,7),(10,9),(11,10),(12,6),(12,11),(13,12),(14,13),(15,0),(15,14),(16,15)] [(14,15)] (fun w9=>World.grownBy wr.drew w9 (Value.slice p acc.length c).ownBlock) (fun w9=>w9.ownsRow w.heap.size 5 1 (.slice p acc.length c) acc.length (bvs acc)) (Ywr w.heap.size acc.length c k va vb ((s[k+2]'hlt2).toNat:Int) ((s[k+3]'hlt3).toNat:Int) (e8.toNat:Int) p (bvs acc) s q2 gv cv9) (fun _=>True) l w1) (by kernel_rfl) rfl (Yt (by kernel_rfl)) (fun l a1 w1 h=>by obtain ⟨_,_,_,h,_⟩:=h;exact h.sz) ⟨0,0,0,Yc rfl,Zu (Zb _ _) (Q.out.buf.drew)⟩ ?step ?fin
                      case step =>
                       intro l a1 w' i hJJ hi hin
                       obtain ⟨q2,gv,cv9,hJ,hW⟩:=hJJ
                       have hun:l.getD i false=false:=getD_both (mem_ready.1 hi).1
                       have hns:=Xe hW hin hun
                       have hg:=hW.g hns
                       rcases Zen i hin with rfl|rfl|rfl|rfl|rfl|rfl|rfl|rfl|rfl|rfl|rfl|rfl|rfl|rfl|rfl|rfl|rfl
                       · have e7:a1.tmps.getD 7 undef = .slice p acc.length c:=hJ.un 7 (fun i9 hi9 hl9 e9=>by rcases Zen i9 hi9 with rfl|rfl|rfl|rfl|rfl|rfl|rfl|rfl|rfl|rfl|rfl|rfl|rfl|rfl|rfl|rfl|rfl <;> first|exact absurd e9 (by decide)|exact Zk (hW.cl (15,0) (by decide) (hW.cl (16,15) (by decide) (hl9))) hun)
                         exact Zc (Zd hJ hW hi hun (hne:=Zao _ (by decide)) (hrun:=by simp [execOp,resolve,invoke,builtin,Act.eval,e7,em,ea,ek2,ek3,w8,j2,j3,i2,i3,t2,t3,go_sem,Zbq])) (fun a9 w9 h9=>⟨q2,gv,cv9,h9⟩)
                       · have e0:a1.tmps.getD 0 undef = .string s:=hJ.un 0 (fun i hi _=>Zmq 0 (by decide) i hi)
                         exact Zc (Zd hJ hW hi hun (hne:=Zao _ (by decide)) (hrun:=by simp [execOp,Act.eval,e0,em,ea,ek2,ek3,w8,j2,j3,i2,i3,t2,t3,go_sem,Zbq])) (fun a9 w9 h9=>⟨q2,gv,cv9,h9⟩)
                       · have e8:a1.tmps.getD 8 undef = .int .i64 (k:Int):=hJ.un 8 (fun i hi _=>Zmq 8 (by decide) i hi)
                         exact Zc (Zd hJ hW hi hun (hne:=Zao _ (by decide)) (hrun:=by simp [execOp,Act.eval,e8,em,ea,ek2,ek3,w8,j2,j3,i2,i3,t2,t3,go_sem,Zbq])) (fun a9 w9 h9=>⟨q2,gv,cv9,h9⟩)
                       · have e102:a1.tmps.getD 102 undef = .int .i64 (k:Int):=rjt hJ hi 2
                         exact Zc (Zd hJ hW hi hun (hne:=Zao _ (by decide)) (hrun:=by simp [execOp,Act.eval,e102,em,ea,ek2,ek3,w8,j2,j3,i2,i3,t2,t3,go_sem,Zbq])) (fun a9 w9 h9=>⟨q2,gv,cv9,h9⟩)
                       · have e101:a1.tmps.getD 101 undef = .string s:=rjt hJ hi 1
                         have e103:a1.tmps.getD 103 undef = .int .i64 ((k:Int)+2):=rjt hJ hi 3
                         exact Zc (Zd hJ hW hi hun (hne:=Zao _ (by decide)) (hrun:=by simp [execOp,Act.eval,e101,e103,em,ea,ek2,ek3,w8,j2,j3,i2,i3,t2,t3,go_sem,Zbq])) (fun a9 w9 h9=>⟨q2,gv,cv9,h9⟩)
                       · have e104:a1.tmps.getD 104 undef = .int .u8 ((s[k+2]'hlt2).toNat:Int):=rjt hJ hi 4
                         refine Ya rfl (by rfl) (by simp [execOp,resolve,invoke,Act.eval,e104,go_sem]) (Calls.mono (RX2.out w') (fun e w2 he => ?_))
                         obtain ⟨rfl,hw2⟩:=he
                         subst hw2
                         refine ⟨_,rfl,q2,gv,cv9,?_,Zo hW (by decide) hun (by decide) (Zg _ hi (by kernel_rfl)) (hg) (fun hne0 hun0 hB0=>hB0) (fun j hj hne hl hcu hF => ?_) (True.intro)⟩
                         · exact Yg (val:=Zbq w.heap.size acc.length c k va vb ((s[k+2]'hlt2).toNat:Int) ((s[k+3]'hlt3).toNat:Int) (e8.toNat:Int) p (bvs acc) s q2 gv cv9) (Yj hJ (Ypz hW.cl hun)) (by decide) (by decide) (Zao _ (by decide))
                         · rcases Zen j hj with rfl|rfl|rfl|rfl|rfl|rfl|rfl|rfl|rfl|rfl|rfl|rfl|rfl|rfl|rfl|rfl|rfl <;> first|exact True.intro|exact absurd rfl hne|exact hF|exact Zk (hW.cl (6,5) (by decide) (hW.cl (12,6) (by decide) (hW.cl (13,12) (by decide) (hW.cl (14,13) (by decide) (hl))))) hun|exact Zk (hW.cl (6,5) (by decide) (hW.cl (12,6) (by decide) (hW.cl (13,12) (by decide) (hW.cl (14,13) (by decide) (hW.cl (15,14) (by decide) (hl)))))) hun
                       · have e105:a1.tmps.getD 105 undef = .int .i64 va:=rjt hJ hi 5
                         exact Zc (Zd hJ hW hi hun (hne:=Zao _ (by decide)) (hrun:=by simp [execOp,Act.eval,e105,em,ea,ek2,ek3,w8,j2,j3,i2,i3,t2,t3,go_sem,Zbq])) (fun a9 w9 h9=>⟨q2,gv,cv9,h9⟩)
                       · have e0:a1.tmps.getD 0 undef = .string s:=hJ.un 0 (fun i hi _=>Zmq 0 (by decide) i hi)
                         exact Zc (Zd hJ hW hi hun (hne:=Zao _ (by decide)) (hrun:=by simp [execOp,Act.eval,e0,em,ea,ek2,ek3,w8,j2,j3,i2,i3,t2,t3,go_sem,Zbq])) (fun a9 w9 h9=>⟨q2,gv,cv9,h9⟩)
                       · have e8:a1.tmps.getD 8 undef = .int .i64 (k:Int):=hJ.un 8 (fun i hi _=>Zmq 8 (by decide) i hi)
                         exact Zc (Zd hJ hW hi hun (hne:=Zao _ (by decide)) (hrun:=by simp [execOp,Act.eval,e8,em,ea,ek2,ek3,w8,j2,j3,i2,i3,t2,t3,go_sem,Zbq])) (fun a9 w9 h9=>⟨q2,gv,cv9,h9⟩)
                       · have e108:a1.tmps.getD 108 undef = .int .i64 (k:Int):=rjt hJ hi 8
                         exact Zc (Zd hJ hW hi hun (hne:=Zao _ (by decide)) (hrun:=by simp [execOp,Act.eval,e108,em,ea,ek2,ek3,w8,j2,j3,i2,i3,t2,t3,go_sem,Zbq])) (fun a9 w9 h9=>⟨q2,gv,cv9,h9⟩)
                       · have e107:a1.tmps.getD 107 undef = .string s:=rjt hJ hi 7
                         have e109:a1.tmps.getD 109 undef = .int .i64 ((k:Int)+3):=rjt hJ hi 9
                         exact Zc (Zd hJ hW hi hun (hne:=Zao _ (by decide)) (hrun:=by simp [execOp,Act.eval,e107,e109,em,ea,ek2,ek3,w8,j2,j3,i2,i3,t2,t3,go_sem,Zbq])) (fun a9 w9 h9=>⟨q2,gv,cv9,h9⟩)
                       · have e110:a1.tmps.getD 110 undef = .int .u8 ((s[k+3]'hlt3).toNat:Int):=rjt hJ hi 10
                         refine Ya rfl (by rfl) (by simp [execOp,resolve,invoke,Act.eval,e110,go_sem]) (Calls.mono (RY2.out w') (fun e w2 he => ?_))
                         obtain ⟨rfl,hw2⟩:=he
                         subst hw2
                         refine ⟨_,rfl,q2,gv,cv9,?_,Zo hW (by decide) hun (by decide) (Zg _ hi (by kernel_rfl)) (hg) (fun hne0 hun0 hB0=>hB0) (fun j hj hne hl hcu hF => ?_) (True.intro)⟩
                         · exact Yg (val:=Zbq w.heap.size acc.length c k va vb ((s[k+2]'hlt2).toNat:Int) ((s[k+3]'hlt3).toNat:Int) (e8.toNat:Int) p (bvs acc) s q2 gv cv9) (Yj hJ (Ykg hW.cl hun)) (by decide) (by decide) (Zao _ (by decide))
                         · rcases Zen j hj with rfl|rfl|rfl|rfl|rfl|rfl|rfl|rfl|rfl|rfl|rfl|rfl|rfl|rfl|rfl|rfl|rfl <;> first|exact True.intro|exact hF|exact absurd rfl hne|exact Zk (hW.cl (12,11) (by decide) (hW.cl (13,12) (by decide) (hW.cl (14,13) (by decide) (hl)))) hun|exact Zk (hW.cl (12,11) (by decide) (hW.cl (13,12) (by decide) (hW.cl (14,13) (by decide) (hW.cl (15,14) (by decide) (hl))))) hun
                       · have e106:a1.tmps.getD 106 undef = .int .i64 (16*va):=rjt hJ hi 6
                         have e111:a1.tmps.getD 111 undef = .int .i64 vb:=rjt hJ hi 11
                         exact Zc (Zd hJ hW hi hun (hne:=Zao _ (by decide)) (hrun:=by simp [execOp,Act.eval,e106,e111,em,ea,ek2,ek3,w8,j2,j3,i2,i3,t2,t3,go_sem,Zbq])) (fun a9 w9 h9=>⟨q2,gv,cv9,h9⟩)
                       · have e112:a1.tmps.getD 112 undef = .int .i64 (16*va+vb):=rjt hJ hi 12
                         exact Zc (Zd hJ hW hi hun (hne:=Zao _ (by decide)) (hrun:=by simp [execOp,Act.eval,e112,em,ea,ek2,ek3,w8,j2,j3,i2,i3,t2,t3,go_sem,Zbq])) (fun a9 w9 h9=>⟨q2,gv,cv9,h9⟩)
                       · have e113:a1.tmps.getD 113 undef = .int .u8 (e8.toNat:Int):=rjt hJ hi 13
                         have f113:=e113
                         rw [Array.getD_eq_getD_getElem?] at f113
                         refine Zt (v:=Zbq w.heap.size acc.length c k va vb ((s[k+2]'hlt2).toNat:Int) ((s[k+3]'hlt3).toNat:Int) (e8.toNat:Int) p (bvs acc) s w'.heap.size gv cv9 14) (w':=w'.alloc (.cells #[.int .u8 (e8.toNat:Int)] 5)) rfl (by rfl) (by simp [execOp,Act.eval,e113,f113,Yvm,Result.andThen,Zbq]) ⟨w'.heap.size,gv,cv9,?_,Zo hW (by decide) hun (by decide) (Zg _ hi (by kernel_rfl)) (Za hg (Ga _ _ _)) (fun hne0 hun0 hB0=>hB0.alloc _) (fun j hj hne hl hcu hF => ?_) (heap_alloc_new w' _)⟩
                         · exact Yg (val:=Zbq w.heap.size acc.length c k va vb ((s[k+2]'hlt2).toNat:Int) ((s[k+3]'hlt3).toNat:Int) (e8.toNat:Int) p (bvs acc) s w'.heap.size gv cv9) (Yj hJ (Ykf hW.cl hun)) (by decide) (by decide) (Zao _ (by decide))
                         · rcases Zen j hj with rfl|rfl|rfl|rfl|rfl|rfl|rfl|rfl|rfl|rfl|rfl|rfl|rfl|rfl|rfl|rfl|rfl <;> first|exact True.intro|exact hF|exact absurd rfl hne|exact Zk (hW.cl (15,14) (by decide) (hl)) hun
                       · have e100:a1.tmps.getD 100 undef = .slice p acc.length c:=rjt hJ hi 0
                         have e114:a1.tmps.getD 114 undef = .slice (some ⟨q2,0,none⟩) 1 1:=rjt hJ hi 14
                         have F14:=hW.f hns 14 (by decide) (Zq hi 14 (by kernel_rfl)) (Jg (c:=15) (by decide) hun)
                         have own:=hW.u hun
                         obtain ⟨v8,w8,hap,hown,hgr,-⟩:=run_append_own_at (P:=Tryz.prog) w' w.heap.size 23 23 5 bi (.int .u8 0) 1 1 Xv bi0 bi1 bi2 bi3 rfl (by decide) _ acc.length (bvs acc) own ⟨q2,0,none⟩ 1 1 [.int .u8 (e8.toNat:Int)] rfl (Ygf F14) (Zah _ _) (by unfold maxLen;omega) (by omega) (Nat.le_trans hgs hg.size)
                         obtain ⟨gv2,cv92,hv⟩:=Js (n:=acc.length) hown
                         subst hv
                         refine Zt (v:=Zbq w.heap.size acc.length c k va vb ((s[k+2]'hlt2).toNat:Int) ((s[k+3]'hlt3).toNat:Int) (e8.toNat:Int) p (bvs acc) s q2 gv2 cv92 15) (w':=w8) rfl (by rfl) (by simp [execOp,resolve,invoke,builtin,Act.eval,e100,e114,hap,Result.andThen,Zbq]) ⟨q2,gv2,cv92,?_,Zo hW (by decide) hun (by decide) (Zg _ hi (by kernel_rfl)) (Za hg hgr) (fun hne0 hun0 hB0=>absurd rfl hne0) (fun j hj hne hl hcu hF => ?_) (hown)⟩
                         · exact Yg (val:=Zbq w.heap.size acc.length c k va vb ((s[k+2]'hlt2).toNat:Int) ((s[k+3]'hlt3).toNat:Int) (e8.toNat:Int) p (bvs acc) s q2 gv2 cv92) (Yj hJ (Yke hW.cl hun)) (by decide) (by decide) (Zao _ (by decide))
                         · rcases Zen j hj with rfl|rfl|rfl|rfl|rfl|rfl|rfl|rfl|rfl|rfl|rfl|rfl|rfl|rfl|rfl|rfl|rfl <;> first|exact True.intro|exact hF|exact absurd rfl (hcu (14,15) (by decide) rfl).1|exact absurd rfl hne
                       · have e115:a1.tmps.getD 115 undef = .slice (some ⟨gv,0,none⟩) (acc.length+1) cv9:=rjt hJ hi 15
                         exact Zc (Zd hJ hW hi hun (hne:=Zao _ (by decide)) (hrun:=by simp [execOp,resolve,invoke,builtin,Act.eval,e115,em,ea,ek2,ek3,w8,j2,j3,i2,i3,t2,t3,go_sem,Zbq])) (fun a9 w9 h9=>⟨q2,gv,cv9,h9⟩)
                      case fin =>
                       intro l9 a1 w9 hJJ hl9
                       obtain ⟨q2,gv,cv9,hJ,hW⟩:=hJJ
                       have hg9:=hW.g (Ju hW)
                       have F15:=hW.f (Ju hW) 15 (by decide) (hl9 15 (by decide)) (Zat (by decide))
                       have hput:=Ys hJ rfl hl9 (fun i j h1 h2 h3=>Zao j h2 i h1 h3)
                       subst hput
                       clear hJ hW hl9
                       (try refine hK17 _ _ ?_)
                       simp only [Ja,Ykh,Zbq,Act.put,List.setIfInBounds_toArray,List.set_cons_zero,List.set_cons_succ]
                       have NR:=Hq (Zrw Q.out (v2 := .slice (some ⟨gv,0,none⟩) (acc.length+1) cv9) (by decide) (by omega) HU.out F15 (Zid (Ze (Zb wr none)) hg9))
                       clear hg9 F15
                       go_wp2
                       exact ⟨⟨k+4,acc++[e8],by go_num,NR.out⟩,by simp [intOf];omega⟩
                · have HU:=Hq (HR.out.trans <| Jz Q.out.at_ (Yor HB.out h92 HB1.out (by omega) (by omega) h120))
                  have i5:(((s[k+1]'hlt1).toNat:Int) == 120)=false:=beq_eq_false_iff_ne.2 (by omega)
                  clear h92 hd h120
                  go_wp2
                  go_ret3
                  rw [HU.out]
                  exact ⟨rfl,Q.out.gr⟩
              · have HU:=Hq (HR.out.trans <| Jz Q.out.at_ (Yoq HB.out h92 HB1.out (by omega) (by omega) (by simpa using hlt3)))
                have j3:¬ ((k:Int)+3<s.size):=by omega
                clear h92 hd
                go_wp2
                go_ret3
                rw [HU.out]
                exact ⟨rfl,Q.out.gr⟩
          · have HU:=Hq (HR.out.trans <| Jz Q.out.at_ (Yos HB.out h92 (by simpa using hlt1)))
            have i34:(((s[k]'hlt).toNat:Int) == 34)=false:=beq_eq_false_iff_ne.2 (by omega)
            have j1:¬ ((k:Int)+1<s.size):=by omega
            have j3:¬ ((k:Int)+3<s.size):=by omega
            clear h92
            go_wp2
            go_ret3
            rw [HU.out]
            exact ⟨rfl,Q.out.gr⟩
        · have HU:=Hq (Yow HB.out h34 (by omega) (by omega) h92)
          have i92:(((s[k]'hlt).toNat:Int) != 92)=true:=by rw [bne_iff_ne];omega
          clear h34 hbad h92
          (
            go_wp2_with (first
             | (at_builtin;refine wpList_append_own_at _ rfl _ _ 23 rfl w.heap.size 5 bi (.int .u8 0) 1 1 Xv bi0 bi1 bi2 bi3 rfl (by decide) (.slice p acc.length c) _ _ rfl (World.ownsRow.alloc Q.out.buf _) ⟨wr.heap.size,0,none⟩ 1 1 [.int .u8 _] rfl rfl (Zcd wr _ _) (Zah _ _) hc3 hc4 (hE _) ?_;intro v3 w5 hown3 hgr3 hnil3 hat3;obtain ⟨p3,k3,hv3⟩:=Zi hown3;subst hv3;have OW3:=Hq hown3;have GR3:=Hq hgr3;clear hown3 hgr3 hnil3 hat3)))
          exact ⟨⟨k+1,acc++[s[k]'hlt],by go_num,Zrw Q.out (by decide) (by omega) HU.out OW3.out (Za (Ga _ _ _) GR3.out)⟩,by simp [intOf];omega⟩
  · have HU:=Hq (HR.out.trans <| Jz Q.out.at_ (Yov (by simpa using hlt)))
    go_wp2
    go_ret3
    rw [HU.out]
    exact ⟨rfl,Q.out.gr⟩
def Zem (w:World) (r:Option (Int × Bool)) (e:Ending) (w':World):Prop :=
 (match r with
   | some (n,b)=>e = .returned (.tuple #[.int .i64 n,.bool b,.bool true])
   | none=>∃ n b,e = .returned (.tuple #[.int .i64 n,.bool b,.bool false]))/\w=w'
structure DcI (l:Txt) (k:Nat) (u v:Nat) (big:Bool):Prop where
 le:k<=l.length
 at_:Lib.decFrom 0 l=Lib.decFrom v (l.drop k)
 u63:u<=9223372036854775808
 lo:big=false->v=u
 hi:big=true->9223372036854775808<v
theorem Zdw (l:Txt):DcI l 0 0 0 false:=⟨Nat.zero_le _,rfl,by decide,fun _=>rfl,fun h=>by cases h⟩
theorem Zfv {c:UInt8} (h:Zeb (c.toNat:Int)=true):Lib.digitVal c=some (c.toNat - 48)/\48<=c.toNat/\c.toNat<=57:=by
 unfold Zeb at h
 simp at h
 have h1:48<=c.toNat/\c.toNat<=57:=by omega
 refine ⟨?_,h1⟩
 unfold Lib.digitVal
 first
  | (rw [if_pos (by first|exact h1|(constructor <;> omega))])
  | simp [h1]
theorem Yvq {c:UInt8} (h:Zeb (c.toNat:Int)=false):Lib.digitVal c=none:=by
 unfold Zeb at h
 simp at h
 have h1:¬ (48<=c.toNat/\c.toNat<=57):=by omega
 unfold Lib.digitVal
 first
  | (rw [if_neg h1])
  | simp [h1]
theorem Ziu {l:Txt} {k v:Nat} {c:UInt8} (h:Lib.decFrom 0 l=Lib.decFrom v (l.drop k)) (hc:l[k]? = some c) (hd:Zeb (c.toNat:Int)=false):Lib.decFrom 0 l=none:=by
 rw [h,Yq hc,Lib.decFrom,Yvq hd]
theorem Ziv {l:Txt} {k u v:Nat} {big:Bool} {c:UInt8} (h:DcI l k u v big) (hc:l[k]? = some c) (hd:Zeb (c.toNat:Int)=true) (hf:10*u+(c.toNat - 48)<=9223372036854775808):DcI l (k+1) (10*u+(c.toNat - 48)) (v*10+(c.toNat - 48)) big:=by
 obtain ⟨hv,_⟩:=Zfv hd
 refine ⟨by have:=(List.getElem?_eq_some_iff.1 hc).1;omega,?_,hf,fun hb=>by have:=h.lo hb;omega,fun hb=>by have:=h.hi hb;omega⟩
 rw [h.at_,Yq hc,Lib.decFrom,hv]
theorem Zix {l:Txt} {k u v:Nat} {big:Bool} {c:UInt8} (h:DcI l k u v big) (hc:l[k]? = some c) (hd:Zeb (c.toNat:Int)=true) (hf:9223372036854775808<10*u+(c.toNat - 48)):DcI l (k+1) (c.toNat - 48) (v*10+(c.toNat - 48)) true:=by
 obtain ⟨hv,h1,h2⟩:=Zfv hd
 refine ⟨by have:=(List.getElem?_eq_some_iff.1 hc).1;omega,?_,by omega,(fun hb=>by cases hb),(fun _ => ?_)⟩
 · rw [h.at_,Yq hc,Lib.decFrom,hv]
 · cases big with
   | false=>have:=h.lo rfl;omega
   | true=>have:=h.hi rfl;omega
theorem Ziw {l:Txt} {u v:Nat} {big:Bool} (h:DcI l l.length u v big):Lib.decFrom 0 l=some v:=by
 rw [h.at_,List.drop_length];rfl
theorem Yml {t:Txt} (hn:t.head? ≠ some 45) (h:¬ ([48,120].isPrefixOf t=true/\2<t.length)):Zex t=(Lib.decNat t).map fun (v:Nat)=>if v<9223372036854775808 then ((v:Int),false) else (0,true):=by
 by_cases hp:[48,120].isPrefixOf t=true
 · obtain ⟨r,rfl⟩:∃ r,t=48::120::r:=by
    match t,hp with
    | a::b::r,hp =>
      simp at hp
      obtain ⟨rfl,rfl⟩:=hp
      exact ⟨r,rfl⟩
    | [_],hp=>simp at hp
    | [],hp=>simp at hp
   have hr:r=[]:=by
    cases r with
    | nil=>rfl
    | cons a q=>exact absurd ⟨hp,by simp⟩ h
   subst hr
   rfl
 · unfold Zex
   rw [if_neg hp]
   have:(t.head? == some 45)=false:=by simpa using hn
   simp only [this,Bool.false_eq_true,if_false]
   cases Lib.decNat t with
   | none=>rfl
   | some v =>
     show some (if (v:Int)<9223372036854775808 then ((v:Int),false) else (0,true))=some (if v<9223372036854775808 then ((v:Int),false) else (0,true))
     by_cases hv:v<9223372036854775808
     · rw [if_pos (by omega),if_pos hv]
     · rw [if_neg (by omega),if_neg hv]
theorem Ymm (m:Txt):Zex (45::m)=(Lib.decNat m).map fun (v:Nat)=>if v<=9223372036854775808 then (-(v:Int),false) else (0,true):=by
 unfold Zex
 rw [if_neg (by simp)]
 have h45:(((45:UInt8)::m).head? == some 45)=true:=by simp
 simp only [h45,if_true,List.drop_succ_cons,List.drop_zero]
 cases Lib.decNat m with
 | none=>rfl
 | some v =>
   show some (if (v:Int)<=9223372036854775808 then (-(v:Int),false) else (0,true))=some (if v<=9223372036854775808 then (-(v:Int),false) else (0,true))
   by_cases hv:v<=9223372036854775808
   · rw [if_pos (by omega),if_pos hv]
   · rw [if_neg (by omega),if_neg hv]
theorem Zov {m:Txt} (h:Lib.decFrom 0 m=none):Lib.decNat m=none:=by
 unfold Lib.decNat
 split
 · rfl
 · exact h
theorem Zfw {m:Txt} {v:Nat} (hm:m≠[]) (h:Lib.decFrom 0 m=some v):Lib.decNat m=some v:=by
 unfold Lib.decNat
 rw [if_neg (by simpa using hm)]
 exact h
theorem Ylf (m:Txt) (hs:m.length<=70000) (hm:m≠[]) (hn:m.head? ≠ some 45) (hx:¬ ([48,120].isPrefixOf m=true/\2<m.length)) (w:World):Calls Tryz.prog 94 #[.string (bs m)] w (Zem w (Zex m)):=by
 have hz:=Zl m
 have NL:=Yml hn hx
 have NB:=Hq (show Lib.decFrom 0 m=none->Zex m=none from fun h=>by rw [NL,Zov h];rfl)
 have NE:=Hq (show ∀ v:Nat,Lib.decFrom 0 m=some v->(v=9223372036854775808\/9223372036854775808<v)->Zex m=some (0,true) from fun v h hv=>by rw [NL,Zfw hm h,Option.map_some,if_neg (by omega)])
 have NS:=Hq (show ∀ v:Nat,Lib.decFrom 0 m=some v->v<9223372036854775808->Zex m=some ((v:Int),false) from fun v h hv=>by rw [NL,Zfw hm h,Option.map_some,if_pos hv])
 have hl0:=List.length_pos_iff.2 hm
 have hli:0<(m.length:Int):=by omega
 have h0b:0<(bs m).size:=by rw [Zl];exact hl0
 obtain ⟨c0,hc0⟩:∃ c,m[0]? = some c:=⟨_,List.getElem?_eq_getElem hl0⟩
 have hb0:(bs m)[0]'h0b=c0:=by
  have:=(List.getElem?_eq_some_iff.1 hc0).2
  rw [<- this];rfl
 have hh:m.head? = some c0:=by rw [List.head?_eq_getElem?];exact hc0
 have h45:((((bs m)[0]'h0b).toNat:Int) == 45)=false:=by
  rw [hb0,beq_eq_false_iff_ne]
  intro e
  exact hn (by rw [hh];congr 1;exact UInt8.toNat_inj.1 (by show c0.toNat=45;omega))
 by_cases h2:2<m.length
 · have h2i:2<(m.length:Int):=by omega
   have h1b:1<(bs m).size:=by rw [Zl];omega
   obtain ⟨c1,hc1⟩:∃ c,m[1]? = some c:=⟨_,List.getElem?_eq_getElem (by omega)⟩
   have hb1:(bs m)[1]'h1b=c1:=by
    have:=(List.getElem?_eq_some_iff.1 hc1).2
    rw [<- this];rfl
   by_cases h48:c0.toNat=48
   · have e48:((((bs m)[0]'h0b).toNat:Int) == 48)=true:=by rw [hb0,h48];rfl
     have h120:¬ c1.toNat=120:=fun e=>hx ⟨by
      match m,hc0,hc1 with
      | a::b::r,hc0,hc1 =>
        simp at hc0 hc1
        subst hc0;subst hc1
        have e1:a=48:=UInt8.toNat_inj.1 h48
        have e2:b=120:=UInt8.toNat_inj.1 e
        subst e1;subst e2
        rfl,h2⟩
     have e120:((((bs m)[1]'h1b).toNat:Int) == 120)=false:=by rw [hb1,beq_eq_false_iff_ne];omega
     clear hb0 hb1 hc0 hc1 hh h48 h120 NL hx hn
     go_enter Tryz.func94,Tryz.ntmps94
     go_wp2
     go_loopw [8,9,10] (fun vu vb vi wr=>∃ (k u v:Nat) (big:Bool),vi = .int .i64 k/\vu = .int .u64 u/\vb = .bool big/\DcI m k u v big/\w=wr) (fun _ _ i _=>m.length - (intOf i).toNat)
     case atStart=>exact ⟨0,0,0,false,rfl,rfl,rfl,Zdw m,rfl⟩
     case round =>
      obtain ⟨k,u,v,big,rfl,rfl,rfl,hD,hwr⟩:=hrel
      subst hwr
      have D:=Hq hD
      have hku:=hD.u63
      have hkl:=hD.le
      clear hD
      by_cases hlt:k<m.length
      · obtain ⟨c,hq⟩:∃ c,m[k]? = some c:=⟨_,List.getElem?_eq_getElem hlt⟩
        have hkb:k<(bs m).size:=by rw [Zl];exact hlt
        have hbk:(bs m)[k]'hkb=c:=by
         have:=(List.getElem?_eq_some_iff.1 hq).2
         rw [<- this]
         rfl
        have HQ:=Hq hq
        subst hbk
        clear hq
        cases hdg:Zeb (((bs m)[k]'hkb).toNat:Int) with
        | false =>
          have HN:=Hq (NB.out (Ziu D.out.at_ HQ.out hdg))
          have RD:=Hq (show ∀ W,Calls Tryz.prog 93 #[.int .u8 (((bs m)[k]'hkb).toNat:Int)] W fun e w'=>e = .returned (.bool false)/\W=w' from fun W=>by have:=Yl (((bs m)[k]'hkb).toNat:Int) W;rw [hdg] at this;exact this)
          clear hdg
          go_wp2_with (go_at_call 93;refine (RD.out _).mono ?_;rintro e w9 ⟨rfl,rfl⟩)
          go_ret3
          rw [HN.out]
          exact ⟨⟨_,_,rfl⟩,rfl⟩
        | true =>
          have RD:=Hq (show ∀ W,Calls Tryz.prog 93 #[.int .u8 (((bs m)[k]'hkb).toNat:Int)] W fun e w'=>e = .returned (.bool true)/\W=w' from fun W=>by have:=Yl (((bs m)[k]'hkb).toNat:Int) W;rw [hdg] at this;exact this)
          obtain ⟨_,hd1,hd2⟩:=Zfv hdg
          have HD:=Hq hdg
          have hi1:48<=(((bs m)[k]'hkb).toNat:Int):=by omega
          have hi2:(((bs m)[k]'hkb).toNat:Int)<=57:=by omega
          clear hdg
          by_cases hf:10*u+(((bs m)[k]'hkb).toNat - 48)<=9223372036854775808
          · have NX:=Hq (Ziv D.out HQ.out HD.out hf)
            have hf2:¬ (9223372036854775808 - ((((bs m)[k]'hkb).toNat:Int) - 48)) / 10<(u:Int):=by omega
            have hf3:10*(u:Int)+((((bs m)[k]'hkb).toNat:Int) - 48)<18446744073709551616:=by omega
            go_wp2_with (go_at_call 93;refine (RD.out _).mono ?_;rintro e w9 ⟨rfl,rfl⟩)
            exact ⟨⟨k+1,_,_,big,by go_num,by go_num,rfl,NX.out,trivial⟩,by simp [intOf];omega⟩
          · have NX:=Hq (Zix D.out HQ.out HD.out (by omega))
            have hf2:(9223372036854775808 - ((((bs m)[k]'hkb).toNat:Int) - 48)) / 10<(u:Int):=by omega
            go_wp2_with (go_at_call 93;refine (RD.out _).mono ?_;rintro e w9 ⟨rfl,rfl⟩)
            exact ⟨⟨k+1,_,_,true,by go_num,by go_num,rfl,NX.out,trivial⟩,by simp [intOf];omega⟩
      · have hkn:k=m.length:=by omega
        subst hkn
        clear hlt
        have HV:=Hq (Ziw D.out)
        cases big with
        | true =>
          have HR:=Hq (NE.out v HV.out (Or.inr (D.out.hi rfl)))
          go_wp2
          all_goals
           go_ret3
           rw [HR.out]
           exact ⟨rfl,rfl⟩
        | false =>
          have huv:=D.out.lo rfl
          by_cases hu:u=9223372036854775808
          · subst hu
            have HR:=Hq (NE.out v HV.out (Or.inl (by omega)))
            go_wp2
            go_ret3
            rw [HR.out]
            exact ⟨rfl,rfl⟩
          · have HR:=Hq (NS.out v HV.out (by omega))
            have hu2:((u:Int) == 9223372036854775808)=false:=beq_eq_false_iff_ne.2 (by omega)
            have ew:=IntWalk.i64_in (u:Int) (by omega)
            subst huv
            go_wp2
            go_ret3
            rw [HR.out]
            exact ⟨rfl,rfl⟩
   · have e48:((((bs m)[0]'h0b).toNat:Int) == 48)=false:=by rw [hb0,beq_eq_false_iff_ne];omega
     clear hb0 hb1 hc0 hc1 hh h48 NL hx hn
     go_enter Tryz.func94,Tryz.ntmps94
     go_wp2
     go_loopw [8,9,10] (fun vu vb vi wr=>∃ (k u v:Nat) (big:Bool),vi = .int .i64 k/\vu = .int .u64 u/\vb = .bool big/\DcI m k u v big/\w=wr) (fun _ _ i _=>m.length - (intOf i).toNat)
     case atStart=>exact ⟨0,0,0,false,rfl,rfl,rfl,Zdw m,rfl⟩
     case round =>
      obtain ⟨k,u,v,big,rfl,rfl,rfl,hD,hwr⟩:=hrel
      subst hwr
      have D:=Hq hD
      have hku:=hD.u63
      have hkl:=hD.le
      clear hD
      by_cases hlt:k<m.length
      · obtain ⟨c,hq⟩:∃ c,m[k]? = some c:=⟨_,List.getElem?_eq_getElem hlt⟩
        have hkb:k<(bs m).size:=by rw [Zl];exact hlt
        have hbk:(bs m)[k]'hkb=c:=by
         have:=(List.getElem?_eq_some_iff.1 hq).2
         rw [<- this]
         rfl
        have HQ:=Hq hq
        subst hbk
        clear hq
        cases hdg:Zeb (((bs m)[k]'hkb).toNat:Int) with
        | false =>
          have HN:=Hq (NB.out (Ziu D.out.at_ HQ.out hdg))
          have RD:=Hq (show ∀ W,Calls Tryz.prog 93 #[.int .u8 (((bs m)[k]'hkb).toNat:Int)] W fun e w'=>e = .returned (.bool false)/\W=w' from fun W=>by have:=Yl (((bs m)[k]'hkb).toNat:Int) W;rw [hdg] at this;exact this)
          clear hdg
          go_wp2_with (go_at_call 93;refine (RD.out _).mono ?_;rintro e w9 ⟨rfl,rfl⟩)
          go_ret3
          rw [HN.out]
          exact ⟨⟨_,_,rfl⟩,rfl⟩
        | true =>
          have RD:=Hq (show ∀ W,Calls Tryz.prog 93 #[.int .u8 (((bs m)[k]'hkb).toNat:Int)] W fun e w'=>e = .returned (.bool true)/\W=w' from fun W=>by have:=Yl (((bs m)[k]'hkb).toNat:Int) W;rw [hdg] at this;exact this)
          obtain ⟨_,hd1,hd2⟩:=Zfv hdg
          have HD:=Hq hdg
          have hi1:48<=(((bs m)[k]'hkb).toNat:Int):=by omega
          have hi2:(((bs m)[k]'hkb).toNat:Int)<=57:=by omega
          clear hdg
          by_cases hf:10*u+(((bs m)[k]'hkb).toNat - 48)<=9223372036854775808
          · have NX:=Hq (Ziv D.out HQ.out HD.out hf)
            have hf2:¬ (9223372036854775808 - ((((bs m)[k]'hkb).toNat:Int) - 48)) / 10<(u:Int):=by omega
            have hf3:10*(u:Int)+((((bs m)[k]'hkb).toNat:Int) - 48)<18446744073709551616:=by omega
            go_wp2_with (go_at_call 93;refine (RD.out _).mono ?_;rintro e w9 ⟨rfl,rfl⟩)
            exact ⟨⟨k+1,_,_,big,by go_num,by go_num,rfl,NX.out,trivial⟩,by simp [intOf];omega⟩
          · have NX:=Hq (Zix D.out HQ.out HD.out (by omega))
            have hf2:(9223372036854775808 - ((((bs m)[k]'hkb).toNat:Int) - 48)) / 10<(u:Int):=by omega
            go_wp2_with (go_at_call 93;refine (RD.out _).mono ?_;rintro e w9 ⟨rfl,rfl⟩)
            exact ⟨⟨k+1,_,_,true,by go_num,by go_num,rfl,NX.out,trivial⟩,by simp [intOf];omega⟩
      · have hkn:k=m.length:=by omega
        subst hkn
        clear hlt
        have HV:=Hq (Ziw D.out)
        cases big with
        | true =>
          have HR:=Hq (NE.out v HV.out (Or.inr (D.out.hi rfl)))
          go_wp2
          all_goals
           go_ret3
           rw [HR.out]
           exact ⟨rfl,rfl⟩
        | false =>
          have huv:=D.out.lo rfl
          by_cases hu:u=9223372036854775808
          · subst hu
            have HR:=Hq (NE.out v HV.out (Or.inl (by omega)))
            go_wp2
            go_ret3
            rw [HR.out]
            exact ⟨rfl,rfl⟩
          · have HR:=Hq (NS.out v HV.out (by omega))
            have hu2:((u:Int) == 9223372036854775808)=false:=beq_eq_false_iff_ne.2 (by omega)
            have ew:=IntWalk.i64_in (u:Int) (by omega)
            subst huv
            go_wp2
            go_ret3
            rw [HR.out]
            exact ⟨rfl,rfl⟩
 · have h2i:¬ 2<(m.length:Int):=by omega
   clear hb0 hc0 hh NL hx hn
   go_enter Tryz.func94,Tryz.ntmps94
   go_wp2
   go_loopw [8,9,10] (fun vu vb vi wr=>∃ (k u v:Nat) (big:Bool),vi = .int .i64 k/\vu = .int .u64 u/\vb = .bool big/\DcI m k u v big/\w=wr) (fun _ _ i _=>m.length - (intOf i).toNat)
   case atStart=>exact ⟨0,0,0,false,rfl,rfl,rfl,Zdw m,rfl⟩
   case round =>
    obtain ⟨k,u,v,big,rfl,rfl,rfl,hD,hwr⟩:=hrel
    subst hwr
    have D:=Hq hD
    have hku:=hD.u63
    have hkl:=hD.le
    clear hD
    by_cases hlt:k<m.length
    · obtain ⟨c,hq⟩:∃ c,m[k]? = some c:=⟨_,List.getElem?_eq_getElem hlt⟩
      have hkb:k<(bs m).size:=by rw [Zl];exact hlt
      have hbk:(bs m)[k]'hkb=c:=by
       have:=(List.getElem?_eq_some_iff.1 hq).2
       rw [<- this]
       rfl
      have HQ:=Hq hq
      subst hbk
      clear hq
      cases hdg:Zeb (((bs m)[k]'hkb).toNat:Int) with
      | false =>
        have HN:=Hq (NB.out (Ziu D.out.at_ HQ.out hdg))
        have RD:=Hq (show ∀ W,Calls Tryz.prog 93 #[.int .u8 (((bs m)[k]'hkb).toNat:Int)] W fun e w'=>e = .returned (.bool false)/\W=w' from fun W=>by have:=Yl (((bs m)[k]'hkb).toNat:Int) W;rw [hdg] at this;exact this)
        clear hdg
        go_wp2_with (go_at_call 93;refine (RD.out _).mono ?_;rintro e w9 ⟨rfl,rfl⟩)
        go_ret3
        rw [HN.out]
        exact ⟨⟨_,_,rfl⟩,rfl⟩
      | true =>
        have RD:=Hq (show ∀ W,Calls Tryz.prog 93 #[.int .u8 (((bs m)[k]'hkb).toNat:Int)] W fun e w'=>e = .returned (.bool true)/\W=w' from fun W=>by have:=Yl (((bs m)[k]'hkb).toNat:Int) W;rw [hdg] at this;exact this)
        obtain ⟨_,hd1,hd2⟩:=Zfv hdg
        have HD:=Hq hdg
        have hi1:48<=(((bs m)[k]'hkb).toNat:Int):=by omega
        have hi2:(((bs m)[k]'hkb).toNat:Int)<=57:=by omega
        clear hdg
        by_cases hf:10*u+(((bs m)[k]'hkb).toNat - 48)<=9223372036854775808
        · have NX:=Hq (Ziv D.out HQ.out HD.out hf)
          have hf2:¬ (9223372036854775808 - ((((bs m)[k]'hkb).toNat:Int) - 48)) / 10<(u:Int):=by omega
          have hf3:10*(u:Int)+((((bs m)[k]'hkb).toNat:Int) - 48)<18446744073709551616:=by omega
          go_wp2_with (go_at_call 93;refine (RD.out _).mono ?_;rintro e w9 ⟨rfl,rfl⟩)
          exact ⟨⟨k+1,_,_,big,by go_num,by go_num,rfl,NX.out,trivial⟩,by simp [intOf];omega⟩
        · have NX:=Hq (Zix D.out HQ.out HD.out (by omega))
          have hf2:(9223372036854775808 - ((((bs m)[k]'hkb).toNat:Int) - 48)) / 10<(u:Int):=by omega
          go_wp2_with (go_at_call 93;refine (RD.out _).mono ?_;rintro e w9 ⟨rfl,rfl⟩)
          exact ⟨⟨k+1,_,_,true,by go_num,by go_num,rfl,NX.out,trivial⟩,by simp [intOf];omega⟩
    · have hkn:k=m.length:=by omega
      subst hkn
      clear hlt
      have HV:=Hq (Ziw D.out)
      cases big with
      | true =>
        have HR:=Hq (NE.out v HV.out (Or.inr (D.out.hi rfl)))
        go_wp2
        all_goals
         go_ret3
         rw [HR.out]
         exact ⟨rfl,rfl⟩
      | false =>
        have huv:=D.out.lo rfl
        by_cases hu:u=9223372036854775808
        · subst hu
          have HR:=Hq (NE.out v HV.out (Or.inl (by omega)))
          go_wp2
          go_ret3
          rw [HR.out]
          exact ⟨rfl,rfl⟩
        · have HR:=Hq (NS.out v HV.out (by omega))
          have hu2:((u:Int) == 9223372036854775808)=false:=beq_eq_false_iff_ne.2 (by omega)
          have ew:=IntWalk.i64_in (u:Int) (by omega)
          subst huv
          go_wp2
          go_ret3
          rw [HR.out]
          exact ⟨rfl,rfl⟩
end Go.Proofs.YteciblfmgdlipaaGreatDoor.AS
