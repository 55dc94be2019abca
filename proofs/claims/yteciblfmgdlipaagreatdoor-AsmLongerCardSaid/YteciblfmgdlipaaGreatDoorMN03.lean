/-
  Part of a proof: contracts of functions and lemmas, each stated by its own theorem. Conditions: as each theorem states.
-/
import Derived.Test.YteciblfmgdlipaaGreatDoorMN02
import Derived.Test.YteciblfmgdlipaaGreatDoorMN01
import Derived.Test.YteciblfmgdlipaaGreatDoorMN00
set_option linter.unusedSimpArgs false
set_option linter.unusedVariables false
set_option maxRecDepth 100000
set_option maxHeartbeats 16000000
namespace Go.Proofs.YteciblfmgdlipaaGreatDoor.AS
open Go.RowKit Go.Great CK
structure BlP where
 line:Int
 fn:Int
 pl:Int
 word:Txt
 call:Bool
structure CS where
 mem:Int
 ms:Bool
 data:Txt
 funcs:List FnR
 fm:Txt->Option Int
 lm:List (Txt->Option Int)
 blk:List BlP
def bl5 (x:BlP):List Value:=[.int .i64 x.line,.int .i64 x.fn,.int .i64 x.pl,.string (bs x.word),.bool x.call]
def blV:List BlP->List Value
 | []=>[]
 | x::r=>bl5 x++blV r
theorem Ztw (a b:List BlP):blV (a++b)=blV a++blV b:=by
 induction a with
 | nil=>rfl
 | cons p r ih=>simp [blV,ih]
def Zdy (l:Txt):List Int:=l.map fun c=>(c.toNat:Int)
theorem Jf (l:Txt):(Zdy l).length=l.length:=by simp [Zdy]
structure Fr (w w':World):Prop where
 os:w'.os=w.os
 tape:w'.tape=w.tape
 output:w'.output=w.output
 size:w.heap.size<=w'.heap.size
 keep:∀ (k:Nat) (cs:Array Value) (t:TypeId) (fr:Nat × Nat),w.heap[k]? = some (Obj.cells cs t fr)->(t=158\/t=9)->w'.heap[k]? = w.heap[k]?
theorem Zft (w:World):Fr w w:=⟨rfl,rfl,rfl,Nat.le_refl _,fun _ _ _ _ _ _=>rfl⟩
theorem Zn {a b c:World} (h:Fr a b) (g:Fr b c):Fr a c :=
 ⟨g.os.trans h.os,g.tape.trans h.tape,g.output.trans h.output,Nat.le_trans h.size g.size,fun k cs t fr hk ht=>by
  have h1:=h.keep k cs t fr hk ht
  exact (g.keep k cs t fr (h1.trans hk) ht).trans h1⟩
theorem Ye {w w':World} (g:w.grownBy w' none):Fr w w' :=
 ⟨g.os,g.tape,g.output,g.size,fun k cs t fr hk ht=>g.block k (Gs hk) (by simp)⟩
theorem Zif {w w':World} {E:Nat} {t:TypeId} {sz n:Nat} {v:Value} {xs:List Value} (h:w.ownsRow E t sz v n xs) (ht:t≠158/\t≠9) (g:w.grownBy w' v.ownBlock):Fr w w' :=
 ⟨g.os,g.tape,g.output,g.size,fun k cs t' fr hk ht'=>g.block k (Gs hk) (fun e=>by
  rcases h.2 with ⟨rfl,_⟩|⟨g0,cap,cur,rfl,_,hg,_⟩
  · cases e
  · injection e with e
    subst e
    simp only [hk] at hg
    injection hg with hg;injection hg with _ h2 _
    rcases ht' with h3|h3
    · exact ht.1 (h2.symm.trans h3)
    · exact ht.2 (h2.symm.trans h3))⟩
theorem Zig {w w':World} {b:Nat} {cs:Array Value} {t:TypeId} {fz:Nat × Nat} (h:w.heap[b]? = some (.cells cs t fz)) (ht:t≠158/\t≠9) (g:w.grownBy w' (some b)):Fr w w' :=
 ⟨g.os,g.tape,g.output,g.size,fun k cs' t' fr hk ht'=>g.block k (Gs hk) (fun e=>by
  injection e with e
  subst e
  rw [hk] at h
  injection h with h;injection h with _ h2 _
  rcases ht' with h3|h3
  · exact ht.1 (h2.symm.trans h3)
  · exact ht.2 (h2.symm.trans h3))⟩
theorem Zlg {w:World} {b m:Nat} {f:Txt->Option Int} (h:Zdf w b m f):∃ es ck,w.heap[b]? = some (.map es ck):=by
 obtain ⟨n,D,⟨es,ck,h1,_⟩,_⟩:=h
 exact ⟨es,ck,h1⟩
theorem Ybe {w w':World} {b m:Nat} {f:Txt->Option Int} (h:Zdf w b m f) (g:w.grownBy w' (some b)):Fr w w' :=
 ⟨g.os,g.tape,g.output,g.size,fun k cs' t' fr hk ht'=>g.block k (Gs hk) (fun e=>by
  injection e with e
  subst e
  obtain ⟨es,ck,h1⟩:=Zlg h
  rw [hk] at h1;cases h1)⟩
theorem Yd {w:World} {b m:Nat} {f:Txt->Option Int} {E:Nat} {t:TypeId} {sz n:Nat} {v:Value} {xs:List Value} (h:Zdf w b m f) (h2:w.ownsRow E t sz v n xs):some b≠v.ownBlock:=by
 obtain ⟨es,ck,h1⟩:=Zlg h
 rcases h2.2 with ⟨rfl,_⟩|⟨g0,cap,cur,rfl,_,hg,_⟩
 · simp [Value.ownBlock]
 · intro e
   simp only [Value.ownBlock] at e
   injection e with e
   subst e
   rw [h1] at hg;cases hg
theorem Jg {w:World} {b m:Nat} {f:Txt->Option Int} {E:Nat} {t:TypeId} {sz n:Nat} {v:Value} {xs:List Value} (h2:w.ownsRow E t sz v n xs) (h:Zdf w b m f):v.ownBlock=none\/v.ownBlock≠some b:=by
 have:=Yd h h2
 cases hv:v.ownBlock with
 | none=>exact Or.inl rfl
 | some k=>exact Or.inr (fun e=>this (by rw [hv,e]))
theorem Zbz {w:World} {b m p:Nat} {f:Txt->Option Int} {cs:Array Value} {t:TypeId} {fz:Nat × Nat} (h:Zdf w b m f) (hp:w.heap[p]? = some (.cells cs t fz)):b≠p:=by
 obtain ⟨es,ck,h1⟩:=Zlg h
 rintro rfl
 rw [h1] at hp;cases hp
theorem Zjf {w:World} {p E:Nat} {cs:Array Value} {t t':TypeId} {sz n:Nat} {v:Value} {xs:List Value} (h:w.ownsRow E t sz v n xs) (hp:w.heap[p]? = some (.cells cs t' (0,0))) (ht:t≠t'):v.ownBlock=none\/v.ownBlock≠some p:=by
 have:=Yc h hp ht
 cases hv:v.ownBlock with
 | none=>exact Or.inl rfl
 | some k=>exact Or.inr (by rw [hv] at this;exact this)
theorem Xj {w:World} {b m m':Nat} {f:Txt->Option Int} (h:Zdf w b m f) (hm:m<=m'):Zdf w b m' f:=by
 obtain ⟨n,D,h1,h2,h3⟩:=h
 exact ⟨n,D,h1,Nat.le_trans h2 hm,h3⟩
structure Zhb (w:World) (E:Nat) (c:CS) (vd vF vL vB:Value) (bm:Nat) (cv:List Value) (lb:List Nat) (m:Nat):Prop where
 own:Zrw w E vd vF (Zdy c.data) c.funcs cv
 fm:Zdf w bm m c.fm
 fmE:E<=bm
 lrow:w.ownsRow E 66 1 vL lb.length (lb.map fun b => .map (some b))
 len1:lb.length=c.lm.length
 each:∀ (i b:Nat) (f:Txt->Option Int),lb[i]? = some b->c.lm[i]? = some f->Zdf w b m f/\E<=b
 dis:∀ (i j b:Nat),lb[i]? = some b->lb[j]? = some b->i=j
 apart:bm ∉ lb
 brow:w.ownsRow E 131 5 vB c.blk.length (blV c.blk)
 z1:c.data.length<=m
 z2:c.funcs.length<=m
 z3:∀ f∈c.funcs,f.2.2.2.length<=m
 z4:c.blk.length<=m
theorem Zak {w w':World} {base:Nat} {D F:Value} {dl:List Int} {fs:List FnP} {cv:List Value} {r:Option Nat} (h:Zrw w base D F dl fs cv) (g:w.grownBy w' r)
 (hr:∀ t sz v n xs,w.ownsRow base t sz v n xs->(t=5\/t=61\/t=58)->v.ownBlock=none\/v.ownBlock≠r):Zrw w' base D F dl fs cv :=
 ⟨h.dt.kept g (hr _ _ _ _ _ h.dt (Or.inl rfl)),h.fr.kept g (hr _ _ _ _ _ h.fr (Or.inr (Or.inl rfl))),h.cl,fun k f v hf hv=>(h.each k f v hf hv).kept g (hr _ _ _ _ _ (h.each k f v hf hv) (Or.inr (Or.inr rfl))),h.dis⟩
theorem Zfg {w w':World} {E:Nat} {c:CS} {vd vF vL vB:Value} {bm:Nat} {cv:List Value} {lb:List Nat} {m:Nat} {r:Option Nat} (h:Zhb w E c vd vF vL vB bm cv lb m) (g:w.grownBy w' r)
 (hr:∀ t sz v n xs,w.ownsRow E t sz v n xs->(t=5\/t=61\/t=58\/t=66\/t=131)->v.ownBlock=none\/v.ownBlock≠r)
 (hm:∀ b f,Zdf w b m f->some b≠r):Zhb w' E c vd vF vL vB bm cv lb m :=
 ⟨Zak h.own g (fun t sz v n xs ho ht=>hr t sz v n xs ho (by rcases ht with h|h|h <;> simp [h])),Zv h.fm g (hm _ _ h.fm),h.fmE,h.lrow.kept g (hr _ _ _ _ _ h.lrow (by simp)),h.len1,
  fun i b f hb hf=>⟨Zv (h.each i b f hb hf).1 g (hm _ _ (h.each i b f hb hf).1),(h.each i b f hb hf).2⟩,h.dis,h.apart,h.brow.kept g (hr _ _ _ _ _ h.brow (by simp)),h.z1,h.z2,h.z3,h.z4⟩
theorem Zhl {w w':World} {E:Nat} {c:CS} {vd vF vL vB:Value} {bm:Nat} {cv:List Value} {lb:List Nat} {m:Nat} (h:Zhb w E c vd vF vL vB bm cv lb m) (g:w.grownBy w' none):Zhb w' E c vd vF vL vB bm cv lb m :=
 Zfg h g (fun t sz v n xs ho _=>Jp ho) (fun b f _=>by simp)
theorem Zby {w w':World} {E:Nat} {c:CS} {vd vF vL vB:Value} {bm:Nat} {cv:List Value} {lb:List Nat} {m p:Nat} {cs:Array Value} (h:Zhb w E c vd vF vL vB bm cv lb m) (hp:w.heap[p]? = some (.cells cs 70 (0,0))) (g:w.grownBy w' (some p)):Zhb w' E c vd vF vL vB bm cv lb m :=
 Zfg h g (fun t sz v n xs ho ht=>Zjf ho hp (by rcases ht with h|h|h|h|h <;> subst h <;> decide)) (fun b f hm e=>by injection e with e;exact Zbz hm hp e)
theorem Zyo {w:World} {E:Nat} {c:CS} {vd vF vL vB:Value} {bm:Nat} {cv:List Value} {lb:List Nat} {m:Nat} (h:Zhb w E c vd vF vL vB bm cv lb m) (n:Int) (b:Bool):Zhb w E { c with mem:=n,ms:=b } vd vF vL vB bm cv lb m :=
 ⟨h.own,h.fm,h.fmE,h.lrow,h.len1,h.each,h.dis,h.apart,h.brow,h.z1,h.z2,h.z3,h.z4⟩
theorem Zhk {w:World} {E:Nat} {c:CS} {vd vF vL vB:Value} {bm:Nat} {cv:List Value} {lb:List Nat} {m m':Nat} (h:Zhb w E c vd vF vL vB bm cv lb m) (hm:m<=m'):Zhb w E c vd vF vL vB bm cv lb m' :=
 ⟨h.own,Xj h.fm hm,h.fmE,h.lrow,h.len1,fun i b f hb hf=>⟨Xj (h.each i b f hb hf).1 hm,(h.each i b f hb hf).2⟩,h.dis,h.apart,h.brow,Nat.le_trans h.z1 hm,Nat.le_trans h.z2 hm,fun f hf=>Nat.le_trans (h.z3 f hf) hm,Nat.le_trans h.z4 hm⟩
theorem Zva {w w':World} {E:Nat} {c:CS} {vd vd' vF vL vB:Value} {bm:Nat} {cv:List Value} {lb:List Nat} {m:Nat} {t:Txt} (h:Zhb w E c vd vF vL vB bm cv lb m) (ho:w'.ownsRow E 5 1 vd' (c.data++t).length ((Zdy (c.data++t)).map (Value.int .u8))) (g:w.grownBy w' vd.ownBlock) :
 Zhb w' E { c with data:=c.data++t } vd' vF vL vB bm cv lb (m+t.length):=by
 have hd:=h.own.dt
 refine Zhk (m:=m+t.length) ⟨⟨by rw [Jf];exact ho,h.own.fr.kept g (Zw h.own.fr hd (by decide)),h.own.cl,fun k f v hf hv=>(h.own.each k f v hf hv).kept g (Zw (h.own.each k f v hf hv) hd (by decide)),h.own.dis⟩,
  Xj (Zv h.fm g (Yd h.fm hd)) (by omega),h.fmE,h.lrow.kept g (Zw h.lrow hd (by decide)),h.len1,fun i b f hb hf=>⟨Xj (Zv (h.each i b f hb hf).1 g (Yd (h.each i b f hb hf).1 hd)) (by omega),(h.each i b f hb hf).2⟩,h.dis,h.apart,
  h.brow.kept g (Zw h.brow hd (by decide)),by have:=h.z1;simp;omega,by have:=h.z2;show c.funcs.length<=_;omega,fun f hf=>by have:=h.z3 f hf;omega,by have:=h.z4;show c.blk.length<=_;omega⟩ (Nat.le_refl _)
theorem Ycb {w w':World} {E:Nat} {c:CS} {vd vF vL vB:Value} {bm:Nat} {cv:List Value} {lb:List Nat} {m:Nat} {f:Txt->Option Int} (h:Zhb w E c vd vF vL vB bm cv lb m) (ho:Zdf w' bm (m+1) f) (g:w.grownBy w' (some bm)):Zhb w' E { c with fm:=f } vd vF vL vB bm cv lb (m+1):=by
 have hm:=h.fm
 refine ⟨Zak h.own g (fun t sz v n xs ho ht=>Jg ho hm),ho,h.fmE,h.lrow.kept g (Jg h.lrow hm),h.len1,fun i b f hb hf=>⟨Xj (Zv (h.each i b f hb hf).1 g (fun e => ?_)) (by omega),(h.each i b f hb hf).2⟩,h.dis,h.apart,
  h.brow.kept g (Jg h.brow hm),by have:=h.z1;show c.data.length<=_;omega,by have:=h.z2;show c.funcs.length<=_;omega,fun f hf=>by have:=h.z3 f hf;omega,by have:=h.z4;show c.blk.length<=_;omega⟩
 injection e with e
 exact h.apart (e ▸ List.mem_of_getElem? hb)
theorem Ybz {w w':World} {E:Nat} {c:CS} {vd vF vL vB:Value} {bm:Nat} {cv:List Value} {lb:List Nat} {m k b:Nat} {f:Txt->Option Int} (h:Zhb w E c vd vF vL vB bm cv lb m) (hb:lb[k]? = some b) (ho:Zdf w' b (m+1) f) (g:w.grownBy w' (some b)) :
 Zhb w' E { c with lm:=c.lm.set k f } vd vF vL vB bm cv lb (m+1):=by
 have hk:k<c.lm.length:=by rw [<- h.len1];exact (List.getElem?_eq_some_iff.1 hb).1
 have hm:=(h.each k b _ hb (List.getElem?_eq_getElem hk)).1
 refine ⟨Zak h.own g (fun t sz v n xs ho ht=>Jg ho hm),Xj (Zv h.fm g (fun e => ?_)) (by omega),h.fmE,h.lrow.kept g (Jg h.lrow hm),by rw [List.length_set];exact h.len1,fun i b' f' hb' hf' => ?_,h.dis,h.apart,
  h.brow.kept g (Jg h.brow hm),by have:=h.z1;show c.data.length<=_;omega,by have:=h.z2;show c.funcs.length<=_;omega,fun f hf=>by have:=h.z3 f hf;omega,by have:=h.z4;show c.blk.length<=_;omega⟩
 · injection e with e
   exact h.apart (e ▸ List.mem_of_getElem? hb)
 · by_cases e:i=k
   · subst e
     rw [hb] at hb';injection hb' with hb';subst hb'
     rw [List.getElem?_set_self hk] at hf'
     injection hf' with hf';subst hf'
     exact ⟨ho,(h.each _ _ _ hb (List.getElem?_eq_getElem hk)).2⟩
   · rw [List.getElem?_set_ne (Ne.symm e)] at hf'
     obtain ⟨h1,h2⟩:=h.each i b' f' hb' hf'
     refine ⟨Xj (Zv h1 g (fun e2 => ?_)) (by omega),h2⟩
     injection e2 with e2
     subst e2
     exact e (h.dis _ _ _ hb' hb)
theorem Zyq {w w':World} {E:Nat} {c:CS} {vd vF vL vB vB':Value} {bm:Nat} {cv:List Value} {lb:List Nat} {m:Nat} {x:BlP} (h:Zhb w E c vd vF vL vB bm cv lb m) (ho:w'.ownsRow E 131 5 vB' (c.blk.length+1) (blV c.blk++bl5 x)) (g:w.grownBy w' vB.ownBlock) :
 Zhb w' E { c with blk:=c.blk++[x] } vd vF vL vB' bm cv lb (m+1):=by
 have hd:=h.brow
 refine ⟨Zak h.own g (fun t sz v n xs ho ht=>Zw ho hd (by rcases ht with h|h|h <;> subst h <;> decide)),Xj (Zv h.fm g (Yd h.fm hd)) (by omega),h.fmE,h.lrow.kept g (Zw h.lrow hd (by decide)),h.len1,
  fun i b f hb hf=>⟨Xj (Zv (h.each i b f hb hf).1 g (Yd (h.each i b f hb hf).1 hd)) (by omega),(h.each i b f hb hf).2⟩,h.dis,h.apart,?_,
  by have:=h.z1;show c.data.length<=_;omega,by have:=h.z2;show c.funcs.length<=_;omega,fun f hf=>by have:=h.z3 f hf;omega,by have:=h.z4;simp;omega⟩
 rw [Ztw,List.length_append]
 simpa [blV] using ho
abbrev ShR:=ByteArray × Int × Int × Int
def Xn (T:List ShR) (x:Txt):Option Nat:=T.findIdx? fun r=>r.1.toList == x
def Zei:Option Nat->Value
 | some i => .tuple #[.int .i64 (i:Int),.bool true]
 | none => .tuple #[.int .i64 0,.bool false]
theorem Zos {T:List ShR} {x:Txt} (h:∀ (j:Nat) (r:ShR),T[j]? = some r->(r.1.toList == x)=false):Xn T x=none:=by
 unfold Xn
 rw [List.findIdx?_eq_none_iff]
 intro r hr
 obtain ⟨j,hj⟩:=List.getElem?_of_mem hr
 exact h j r hj
theorem Zor {T:List ShR} {x:Txt} {k:Nat} {r:ShR} (hk:T[k]? = some r) (hx:(r.1.toList == x)=true) (h:∀ (j:Nat) (r:ShR),j<k->T[j]? = some r->(r.1.toList == x)=false):Xn T x=some k:=by
 unfold Xn
 rw [List.findIdx?_eq_some_iff_getElem]
 obtain ⟨hlt,e⟩:=List.getElem?_eq_some_iff.1 hk
 refine ⟨hlt,by rw [e];exact hx,fun j hj => ?_⟩
 have:=h j _ hj (List.getElem?_eq_getElem (Nat.lt_trans hj hlt))
 rw [this];simp
theorem Zsk {T:List ShR} {x:Txt} {k:Nat} {r:ShR} (hk:T[k]? = some r) (hx:(r.1.toList == x)=false) (h:∀ (j:Nat) (r:ShR),j<k->T[j]? = some r->(r.1.toList == x)=false):∀ (j:Nat) (r:ShR),j<k+1->T[j]? = some r->(r.1.toList == x)=false:=by
 intro j q hj hq
 by_cases e:j=k
 · subst e
   rw [hk] at hq;injection hq with hq;subst hq;exact hx
 · exact h j q (by omega) hq
theorem Zmk (T:List ShR) (S:Nat) (hL2:T.length<1000) (x:ByteArray) (w:World) (hS:S<w.heap.size) (hc:∀ (i:Nat) (v:Value),(Zfv T)[i]? = some v->w.cell? ⟨S,i,none⟩=some v) :
 Calls Tryz.prog 144 #[.slice (some ⟨S,0,none⟩) T.length T.length,.string x] w fun e w'=>e = .returned (Zei (Xn T x.toList))/\w.grownBy w' none:=by
 have HC:=Hq hc
 clear hc
 go_enter Tryz.func144,Tryz.ntmps144
 go_wp2
 go_loopw [10] (fun i wr=>∃ k:Nat,i = .int .i64 k/\k<=T.length/\(∀ (j:Nat) (r:ShR),j<k->T[j]? = some r->(r.1.toList == x.toList)=false)/\w.grownBy wr none) (fun i _=>T.length - (intOf i).toNat)
 case atStart=>exact ⟨0,rfl,Nat.zero_le _,fun j r hj=>absurd hj (Nat.not_lt_zero _),Zd _ _⟩
 case round =>
  obtain ⟨k,rfl,hk,hall,hg⟩:=hrel
  have AL:=Hq hall
  have GR:=Hq hg
  clear hall hg
  by_cases hlt:k<T.length
  · obtain ⟨⟨nm,o,t,g⟩,hq⟩:∃ q,T[k]? = some q:=⟨_,List.getElem?_eq_getElem hlt⟩
    obtain ⟨f0,f1,f2,f3⟩:=Zeq T k nm o t g hq
    have c0:=GR.out.cell (HC.out _ _ f0) (by simp)
    have c1:=GR.out.cell (HC.out _ _ f1) (by simp)
    have c2:=GR.out.cell (HC.out _ _ f2) (by simp)
    have c3:=GR.out.cell (HC.out _ _ f3) (by simp)
    have hS2:=Nat.lt_of_lt_of_le hS GR.out.size
    have HQ:=Hq hq
    clear hq f0 f1 f2 f3
    cases he:nm.toList == x.toList with
    | true =>
      have HP:=Hq (Zor HQ.out he AL.out)
      go_wp2
      go_ret2
      exact ⟨by rw [HP.out];rfl,Za GR.out (Ga _ _ _)⟩
    | false =>
      have AL2:=Hq (Zsk HQ.out he AL.out)
      go_wp2
      exact ⟨⟨k+1,by go_num,by omega,AL2.out,Za GR.out (Ga _ _ _)⟩,by simp [intOf];omega⟩
  · have hkn:k=T.length:=by omega
    subst hkn
    have HP:=Hq (Zos (fun j r hj=>AL.out j r ((List.getElem?_eq_some_iff.1 hj).1) hj))
    clear hlt
    go_wp2
    go_ret2
    exact ⟨by rw [HP.out];rfl,GR.out⟩
def callT:List ShR:=[(⟨#[111,112,101,110]⟩,0,3,1),(⟨#[114,101,97,100]⟩,0,3,1),(⟨#[119,114,105,116,101]⟩,0,3,1),(⟨#[108,105,115,116]⟩,0,4,1),(⟨#[99,108,111,115,101]⟩,0,1,1)]
theorem Zns (w:World):Calls Tryz.prog 133 #[] w fun e w'=>∃ S,e = .returned (.slice (some ⟨S,0,none⟩) 5 5)/\w.grownBy w' none/\S<w'.heap.size/\∀ (i:Nat) (v:Value),(Zfv callT)[i]? = some v->w'.cell? ⟨S,i,none⟩=some v:=by
 go_enter Tryz.func133,Tryz.ntmps133
 go_wp2_with (refine wpList_buildSliceTo rfl 171 144 5 _ rfl w.heap.size rfl (some 6) rfl Tryz.underlying171 (Zfv callT).toArray (by kernel_rfl) ?_)
 go_ret
 exact ⟨_,rfl,Ga _ _ none,by simp,fun i v h=>by rw [World.cell?_alloc_at (hn:=rfl)];rw [List.getElem?_toArray];exact h⟩
theorem Zvq (x:ByteArray) (w:World):Calls Tryz.prog 114 #[.string x] w fun e w'=>e = .returned (Zei (Xn shapeT x.toList))/\w.grownBy w' none:=by
 have C:=Hq Zfb
 obtain ⟨i,b,hv⟩:∃ i b,Zei (Xn shapeT x.toList) = .tuple #[.int .i64 i,.bool b]:=by
  cases Xn shapeT x.toList with
  | none=>exact ⟨_,_,rfl⟩
  | some x=>exact ⟨_,_,rfl⟩
 have PL:=Hq (fun S wr hS hc=>Zmk shapeT S (by rw [Zcj];decide) x wr hS hc)
 rw [hv,Zcj] at PL
 rw [hv]
 clear hv
 go_enter Tryz.func114,Tryz.ntmps114
 go_wp2_with (first
  | (go_at_call 85;refine (C.out _).mono ?_;rintro e w1 ⟨S,rfl,hg,hS,hsh⟩;have G1:=Hq hg;have SH:=Hq hsh;clear hg hsh)
  | (go_at_call 144;refine (PL.out _ _ SH.out.1 (fun i v hi=>SH.out.2 i v (by rw [Zjb,List.getElem?_toArray];exact hi))).mono ?_;rintro e w2 ⟨rfl,hg2⟩;have G2:=Hq hg2;clear hg2))
 go_ret2
 exact ⟨rfl,Za G1.out G2.out⟩
theorem Zgc (x:ByteArray) (w:World):Calls Tryz.prog 115 #[.string x] w fun e w'=>e = .returned (Zei (Xn callT x.toList))/\w.grownBy w' none:=by
 have C:=Hq Zns
 obtain ⟨i,b,hv⟩:∃ i b,Zei (Xn callT x.toList) = .tuple #[.int .i64 i,.bool b]:=by
  cases Xn callT x.toList with
  | none=>exact ⟨_,_,rfl⟩
  | some x=>exact ⟨_,_,rfl⟩
 have PL:=Hq (fun S wr hS hc=>Zmk callT S (by decide) x wr hS hc)
 rw [hv] at PL
 rw [show callT.length=5 from rfl] at PL
 rw [hv]
 clear hv
 go_enter Tryz.func115,Tryz.ntmps115
 go_wp2_with (first
  | (go_at_call 133;refine (C.out _).mono ?_;rintro e w1 ⟨S,rfl,hg,hS,hsh⟩;have G1:=Hq hg;have HS:=Hq hS;have SH:=Hq hsh;clear hg hsh hS)
  | (go_at_call 144;refine (PL.out _ _ HS.out SH.out).mono ?_;rintro e w2 ⟨rfl,hg2⟩;have G2:=Hq hg2;clear hg2))
 go_ret2
 exact ⟨rfl,Za G1.out G2.out⟩
theorem Yl {l:Txt} {k:Nat} {c:UInt8} (h:l[k]? = some c):l.drop k=c::l.drop (k+1):=by
 obtain ⟨h1,h2⟩:=List.getElem?_eq_some_iff.1 h
 rw [List.drop_eq_getElem_cons h1,h2]
theorem Znl {l:Txt} {k:Nat} (h:l.length<=k):l.drop k=[]:=List.drop_eq_nil_of_le h
theorem Yem {l:Txt} {k:Nat} (h:l.length<=k):unq (l.drop k)=none:=by rw [Znl h];rfl
theorem Zxw {l:Txt} {k:Nat} {c:UInt8} (h:l[k]? = some c) (hc:c.toNat=34):unq (l.drop k)=some ([],1):=by
 rw [Yl h,unq.eq_def];simp only [];rw [if_pos hc]
theorem Yeo {l:Txt} {k:Nat} {c:UInt8} (h:l[k]? = some c) (hn:c.toNat≠34) (hc:c.toNat<32\/126<c.toNat):unq (l.drop k)=none:=by
 rw [Yl h,unq.eq_def];simp only [];rw [if_neg hn,if_pos hc]
theorem Yen {l:Txt} {k:Nat} {c:UInt8} (h:l[k]? = some c) (hn:c.toNat≠34) (h1:32<=c.toNat) (h2:c.toNat<=126) (h3:c.toNat≠92):unq (l.drop k)=(unq (l.drop (k+1))).map fun x=>(c::x.1,x.2+1):=by
 rw [Yl h,unq.eq_def];simp only [];rw [if_neg hn,if_neg (by omega),if_pos h3]
theorem Yej {l:Txt} {k:Nat} {c:UInt8} (h:l[k]? = some c) (hc:c.toNat=92) (h1:l.length<=k+1):unq (l.drop k)=none:=by
 rw [Yl h,Znl h1,unq.eq_def];simp only [];rw [if_neg (by omega),if_neg (by omega),if_neg (by omega)]
theorem Yel {l:Txt} {k:Nat} {c d:UInt8} (h:l[k]? = some c) (hc:c.toNat=92) (h1:l[k+1]? = some d) (hd:d.toNat=34\/d.toNat=92):unq (l.drop k)=(unq (l.drop (k+2))).map fun x=>(d::x.1,x.2+2):=by
 rw [Yl h,Yl h1,unq.eq_def];simp only [];rw [if_neg (by omega),if_neg (by omega),if_neg (by omega),if_pos hd]
theorem Yei {l:Txt} {k:Nat} {c d:UInt8} (h:l[k]? = some c) (hc:c.toNat=92) (h1:l[k+1]? = some d) (hd:d.toNat≠34) (hd2:d.toNat≠92) (hd3:d.toNat≠120):unq (l.drop k)=none:=by
 rw [Yl h,Yl h1,unq.eq_def];simp only [];rw [if_neg (by omega),if_neg (by omega),if_neg (by omega),if_neg (by omega),if_neg hd3]
theorem Yeh {l:Txt} {k:Nat} {c d:UInt8} (h:l[k]? = some c) (hc:c.toNat=92) (h1:l[k+1]? = some d) (hd:d.toNat≠34) (hd2:d.toNat≠92) (h3:l.length<=k+3):unq (l.drop k)=none:=by
 rw [Yl h,Yl h1,unq.eq_def];simp only [];rw [if_neg (by omega),if_neg (by omega),if_neg (by omega),if_neg (by omega)]
 split
 · have hl:(l.drop (k+1+1)).length<=1:=by rw [List.length_drop];omega
   cases hx:l.drop (k+1+1) with
   | nil=>rfl
   | cons x r =>
     cases r with
     | nil=>rfl
     | cons y r=>rw [hx] at hl;simp at hl
 · rfl
theorem Yek {l:Txt} {k a b:Nat} {c d x y:UInt8} (h:l[k]? = some c) (hc:c.toNat=92) (h1:l[k+1]? = some d) (hd:d.toNat=120) (h2:l[k+2]? = some x) (h3:l[k+3]? = some y) (ha:Zgk x=some a) (hb:Zgk y=some b) :
 unq (l.drop k)=(unq (l.drop (k+4))).map fun z=>(UInt8.ofNat (16*a+b)::z.1,z.2+4):=by
 rw [Yl h,Yl h1,Yl h2,Yl h3,unq.eq_def];simp only [];rw [if_neg (by omega),if_neg (by omega),if_neg (by omega),if_neg (by omega),if_pos hd,ha,hb]
theorem Yeg {l:Txt} {k:Nat} {c d x y:UInt8} (h:l[k]? = some c) (hc:c.toNat=92) (h1:l[k+1]? = some d) (hd:d.toNat=120) (h2:l[k+2]? = some x) (h3:l[k+3]? = some y) (hx:Zgk x=none\/Zgk y=none):unq (l.drop k)=none:=by
 rw [Yl h,Yl h1,Yl h2,Yl h3,unq.eq_def];simp only [];rw [if_neg (by omega),if_neg (by omega),if_neg (by omega),if_neg (by omega),if_pos hd]
 rcases hx with hx|hx
 · rw [hx]
 · rw [hx];cases Zgk x <;> rfl
def Yef (l:Txt) (s k:Nat) (acc:Txt):Prop:=s<=k/\unq (l.drop s)=(unq (l.drop k)).map fun x=>(acc++x.1,x.2+(k - s))
theorem Zsa (l:Txt) (s:Nat):Yef l s s []:=⟨Nat.le_refl _,by cases unq (l.drop s) <;> simp⟩
theorem Zuj {l:Txt} {s k m:Nat} {acc:Txt} {e:UInt8} (h:Yef l s k acc) (hs:unq (l.drop k)=(unq (l.drop (k+m))).map fun x=>(e::x.1,x.2+m)):Yef l s (k+m) (acc++[e]):=by
 obtain ⟨h0,h1⟩:=h
 refine ⟨by omega,?_⟩
 rw [h1,hs,Option.map_map]
 congr 1
 funext x
 simp
 omega
theorem Zbk {l:Txt} {s k:Nat} {acc:Txt} (h:Yef l s k acc) (hs:unq (l.drop k)=none):unq (l.drop s)=none:=by rw [h.2,hs];rfl
theorem Zsb {l:Txt} {s k:Nat} {acc:Txt} (h:Yef l s k acc) (hs:unq (l.drop k)=some ([],1)):unq (l.drop s)=some (acc,k - s+1):=by
 rw [h.2,hs]
 simp
 omega
def Zpu (w:World) (r:Option (Txt × Nat)) (e:Ending) (w':World):Prop :=
 e = .returned (match r with|some (b,k) => .tuple #[Yax 2 (bs b) 0 false,.int .i64 ((k+1:Nat):Int),.bool true]|none => .tuple #[Yax 0 ⟨#[]⟩ 0 false,.int .i64 0,.bool false])/\w.grownBy w' none
theorem Jh {w w':World} {r:Option (Txt × Nat)} (h:r=none) (g:w.grownBy w' none):Zpu w r (.returned (.tuple #[.agg #[.int .i64 0,.string ⟨#[]⟩,.int .i64 0,.bool false],.int .i64 0,.bool false])) w':=by
 rw [h];exact ⟨rfl,g⟩
theorem Zmg {w w':World} {r:Option (Txt × Nat)} {b:Txt} {k:Nat} (h:r=some (b,k)) (g:w.grownBy w' none):Zpu w r (.returned (.tuple #[.agg #[.int .i64 2,.string (bs b),.int .i64 0,.bool false],.int .i64 ((k:Int)+1),.bool true])) w':=by
 rw [h];exact ⟨rfl,g⟩
theorem Zan {fn:Func} {p u v:Tmp} (hf:fn.results = #[.cell p 158,.tmp u,.tmp v]) {tmps:Array Value} {w:World} {b:Nat} {v0 v1 v2 v3 f g:Value}
 (hp:tmps.getD p undef = .pointer (some ⟨b,0,none⟩)) (hu:tmps.getD u undef=f) (hv:tmps.getD v undef=g) (h:Zgb w b v0 v1 v2 v3) :
 (results fn tmps).run Tryz.prog w = .ok (.tuple #[.agg #[v0,v1,v2,v3],f,g]) w:=by
 rw [Zfe hf,hp,hu,hv]
 have:(asAddr (.pointer (some ⟨b,0,none⟩))).run Tryz.prog w = .ok (⟨b,0,none⟩:Addr) w:=rfl
 rw [this]
 simp only [Result.andThen]
 rw [Zvi h]
structure QuR (s:ByteArray) (w wr:World) (v:Value) (k:Nat) (acc:Txt):Prop where
 le:k<=s.size
 at_:Yef s.data.toList 1 k acc
 buf:Buf wr (w.heap.size+1) v acc
 box:Zgb wr w.heap.size (.int .i64 0) (.string ⟨#[]⟩) (.int .i64 0) (.bool false)
 gr:w.grownBy wr none
 len:acc.length<=k
theorem Zks {s:ByteArray} {w wr w2:World} {v v2:Value} {k m:Nat} {acc:Txt} {e:UInt8} (h:QuR s w wr v k acc) (hm:1<=m) (hle:k+m<=s.size) (hs:unq (s.data.toList.drop k)=(unq (s.data.toList.drop (k+m))).map fun x=>(e::x.1,x.2+m))
 (ho:w2.ownsRow (w.heap.size+1) 5 1 v2 (acc.length+1) (bvs acc++[.int .u8 (e.toNat:Int)])) (g:wr.grownBy w2 v.ownBlock):QuR s w w2 v2 (k+m) (acc++[e]):=by
 have hn:=Zky h.buf (Nat.lt_succ_self w.heap.size)
 refine ⟨hle,Zuj h.at_ hs,?_,Yf h.box g hn,Zeo h.gr g (fun q hq=>by have:=(World.ownsRow.lt h.buf q hq).1;omega),by have:=h.len;simp;omega⟩
 unfold Buf
 rw [Zkj,List.length_append,Ydn]
 exact ho
theorem Zkt {s:ByteArray} {w wr w2:World} {v:Value} {k:Nat} {acc:Txt} (h:QuR s w wr v k acc) (g:wr.grownBy w2 none):QuR s w w2 v k acc :=
 ⟨h.le,h.at_,Yae h.buf g,Yf h.box g (by simp),Za h.gr g,h.len⟩
theorem Ztm {x y:UInt8} (h:Zgx [x,y]=false):Zgk x=none\/Zgk y=none:=by
 unfold Zgx at h
 cases hx:Zgk x with
 | none=>exact Or.inl rfl
 | some a =>
   cases hy:Zgk y with
   | none=>exact Or.inr rfl
   | some b=>simp [hx,hy] at h
theorem Ztl {x y:UInt8} (h:Zgx [x,y]=true):∃ a b,Zgk x=some a/\Zgk y=some b:=by
 unfold Zgx at h
 simp at h
 obtain ⟨h1,h2⟩:=h
 obtain ⟨a,ha⟩:=Option.isSome_iff_exists.1 h1
 obtain ⟨b,hb⟩:=Option.isSome_iff_exists.1 h2
 exact ⟨a,b,ha,hb⟩
theorem Yep {l:Txt} {k:Nat} {x y:UInt8} (h2:l[k+2]? = some x) (h3:l[k+3]? = some y):(l.drop (k+2)).take (k+4 - (k+2))=[x,y]:=by
 rw [show k+4 - (k+2)=2 by omega,Yl h2,Yl h3];rfl
theorem Zsh (s:ByteArray) (hs:s.size<=70000) (h1:1<=s.size) (w:World) (hW:LibW w):Calls Tryz.prog 109 #[.string s] w (Zpu w (unq (s.data.toList.drop 1))):=by
 have START:=Hq (Zsa s.data.toList 1)
 obtain ⟨r,hr⟩:∃ r,r=unq (s.data.toList.drop 1):=⟨_,rfl⟩
 rw [<- hr]
 have HR:=Hq hr
 clear hr
 have LW:=Hq hW
 clear hW
 obtain ⟨bi,bi0,bi1,bi2,bi3⟩:=info_parts Zar
 go_enter Tryz.func109,Tryz.ntmps109
 go_wp2
 have BX:=Hq (Xp w (.int .i64 0) (.string ⟨#[]⟩) (.int .i64 0) (.bool false))
 have G0:=Hq (Ga w (.cells #[.int .i64 0,.string ⟨#[]⟩,.int .i64 0,.bool false] 158) none)
 generalize w.alloc (.cells #[.int .i64 0,.string ⟨#[]⟩,.int .i64 0,.bool false] 158)=w1 at *
 go_loopw [5,6] (fun b i wr=>∃ k acc,i = .int .i64 ((k:Nat):Int)/\QuR s w wr b k acc) (fun _ i _=>s.size - (intOf i).toNat)
 case atStart=>exact ⟨1,[],rfl,h1,START.out,Ydp _ _,BX.out,G0.out,Nat.zero_le _⟩
 case round =>
  obtain ⟨k,acc,rfl,hq⟩:=hrel
  obtain ⟨p,c,rfl⟩:=Znt hq.buf
  have hlen:=hq.len
  have hle:=hq.le
  have hbox:=Zkw hq.box
  have Q:=Hq hq
  have hc3:acc.length+1<=maxLen:=by unfold maxLen;omega
  have hc4:(acc.length+1)*1<=140737488355328:=by omega
  have hE:∀ o,w.heap.size+1<=(wr.alloc o).heap.size:=fun o=>by simp;omega
  have cells:=Yp hq.box
  obtain ⟨c0,c1,c2,c3,z0,z1,z2,z3⟩:=cells
  have cv:=Zlu hq.buf
  clear hq
  by_cases hlt:k<s.size
  · have hb:=Zfx s k hlt
    have HB:=Hq hb
    clear hb
    by_cases h34:(s[k]'hlt).toNat=34
    · have hk1:=Q.out.at_.1
      have HU:=Hq (show r=some (acc,k) by rw [HR.out,Zsb Q.out.at_ (Zxw HB.out h34),show k - 1+1=k by omega])
      have i34:((s[k]'hlt).toNat:Int)=34:=by omega
      clear h34
      go_wp2
      exact bodyPost_ret (v := .tuple #[.agg #[.int .i64 2,.string (bs acc),.int .i64 0,.bool false],.int .i64 ((k:Int)+1),.bool true]) (Zan rfl rfl rfl rfl (Xa Q.out.box)) rfl (Zmg HU.out (Yh Q.out.gr (Nat.le_refl _)))
    · have i34:¬ ((s[k]'hlt).toNat:Int)=34:=by omega
      by_cases hbad:(s[k]'hlt).toNat<32\/126<(s[k]'hlt).toNat
      · have HU:=Hq (HR.out.trans <| Zbk Q.out.at_ (Yeo HB.out h34 hbad))
        rcases (by omega:((s[k]'hlt).toNat:Int)<32\/(32<=((s[k]'hlt).toNat:Int)/\126<((s[k]'hlt).toNat:Int))) with i1|⟨i1,i2⟩
        all_goals
         clear h34 hbad
         go_wp2
         exact bodyPost_ret (v := .tuple #[.agg #[.int .i64 0,.string ⟨#[]⟩,.int .i64 0,.bool false],.int .i64 0,.bool false]) (Zan rfl rfl rfl rfl (Xa Q.out.box)) rfl (Jh HU.out (Yh Q.out.gr (Nat.le_refl _)))
      · have i1:32<=((s[k]'hlt).toNat:Int):=by omega
        have i2:((s[k]'hlt).toNat:Int)<=126:=by omega
        by_cases h92:(s[k]'hlt).toNat=92
        · have i92:((s[k]'hlt).toNat:Int)=92:=by omega
          clear i1 i2 i34 h34 hbad
          by_cases hlt1:k+1<s.size
          · have hb1:=Zfx s (k+1) hlt1
            have HB1:=Hq hb1
            clear hb1
            have j1:(k:Int)+1<s.size:=by omega
            by_cases hd:(s[k+1]'hlt1).toNat=34\/(s[k+1]'hlt1).toNat=92
            · have HU:=Hq (Yel HB.out h92 HB1.out hd)
              rcases (by omega:((s[k+1]'hlt1).toNat:Int)=34\/((s[k+1]'hlt1).toNat:Int)=92) with i3|i3
              all_goals
               clear h92 hd
               (
                 go_wp2_with (first
                  | (at_builtin;refine wpList_append_own_at _ rfl _ _ 23 rfl (w.heap.size+1) 5 bi (.int .u8 0) 1 1 Xu bi0 bi1 bi2 bi3 rfl (by decide) (.slice p acc.length c) _ _ rfl (World.ownsRow.alloc Q.out.buf _) ⟨wr.heap.size,0,none⟩ 1 1 [.int .u8 _] rfl rfl (Zcq wr _ _) (Jq _ _) hc3 hc4 (hE _) ?_;intro v3 w5 hown3 hgr3 hnil3 hat3;obtain ⟨p3,k3,hv3⟩:=Zk hown3;subst hv3;have OW3:=Hq hown3;have GR3:=Hq hgr3;clear hown3 hgr3 hnil3 hat3)))
               exact ⟨⟨k+2,acc++[s[k+1]'hlt1],by go_num,Zks Q.out (by decide) (by omega) HU.out (by rw [i3];exact OW3.out) (Za (Ga _ _ _) GR3.out)⟩,by simp [intOf];omega⟩
            · have i3:(((s[k+1]'hlt1).toNat:Int) == 34)=false:=beq_eq_false_iff_ne.2 (by omega)
              have i4:(((s[k+1]'hlt1).toNat:Int) == 92)=false:=beq_eq_false_iff_ne.2 (by omega)
              by_cases hlt3:k+3<s.size
              · have j3:(k:Int)+3<s.size:=by omega
                have hlt2:k+2<s.size:=by omega
                have HB2:=Hq (Zfx s (k+2) hlt2)
                have HB3:=Hq (Zfx s (k+3) hlt3)
                by_cases h120:(s[k+1]'hlt1).toNat=120
                · have i5:(((s[k+1]'hlt1).toNat:Int) == 120)=true:=beq_iff_eq.2 (by omega)
                  have hsl:∀ W:World,(Instr.slice 9 (.string s) (some (.int .i64 ((k:Int)+2))) (some (.int .i64 ((k:Int)+4))) none).run Tryz.prog W = .ok (.string (bs [s[k+2]'hlt2,s[k+3]'hlt3])) W:=fun W=>by
                   rw [run_slice_string W _ s .i64 .i64 ((k:Int)+2) ((k:Int)+4) Jc (by omega) (by omega) (by omega),Zbt]
                   rw [show ((k:Int)+2).toNat=k+2 by omega,show ((k:Int)+4).toNat=k+4 by omega,Yep HB2.out HB3.out]
                  have T:=Hq (Zea (bs [s[k+2]'hlt2,s[k+3]'hlt3]) hexSet (by rw [Zj];simp) (by decide) (by decide))
                  rw [Xe,show bs hexSet=⟨#[48,49,50,51,52,53,54,55,56,57,97,98,99,100,101,102]⟩ from rfl] at T
                  cases hx:Zgx [s[k+2]'hlt2,s[k+3]'hlt3] with
                  | false =>
                    have HU:=Hq (HR.out.trans <| Zbk Q.out.at_ (Yeg HB.out h92 HB1.out h120 HB2.out HB3.out (Ztm hx)))
                    have hne:Lib.trimS [s[k+2]'hlt2,s[k+3]'hlt3] hexSet≠[]:=by rw [Ne,Zgu,hx];simp
                    have he:=Js hne
                    generalize bs (Lib.trimS [s[k+2]'hlt2,s[k+3]'hlt3] hexSet)=x at *
                    generalize bs [s[k+2]'hlt2,s[k+3]'hlt3]=t2 at *
                    clear h92 hd h120 hx hne
                    go_wp2_with (go_at_call 139;refine (T.out _).mono ?_;rintro e w4 ⟨rfl,hg⟩;have Q4:=Hq (Zkt Q.out hg);obtain ⟨c0,c1,c2,c3,z0,z1,z2,z3⟩:=Yp Q4.out.box;clear hg)
                    exact bodyPost_ret (v := .tuple #[.agg #[.int .i64 0,.string ⟨#[]⟩,.int .i64 0,.bool false],.int .i64 0,.bool false]) (Zan rfl rfl rfl rfl (Xa Q4.out.box)) rfl (Jh HU.out (Yh Q4.out.gr (Nat.le_refl _)))
                  | true =>
                    obtain ⟨a,b,ha,hb⟩:=Ztl hx
                    have HU:=Hq (Yek HB.out h92 HB1.out h120 HB2.out HB3.out ha hb)
                    have he:=Zba
                    rw [(Zgu _).2 hx] at T
                    generalize bs []=x at *
                    have hv:Yo 0 [s[k+2]'hlt2,s[k+3]'hlt3]=some (16*a+b):=by simp [Yo,ha,hb]
                    have P:=Hq (pu8 [s[k+2]'hlt2,s[k+3]'hlt3] (by simp) (by simp) _ hv)
                    generalize bs [s[k+2]'hlt2,s[k+3]'hlt3]=t2 at *
                    have ha16:=Zia ha
                    have hb16:=Zia hb
                    have hw8:IntKind.u8.wrap ((16*a+b:Nat):Int)=((UInt8.ofNat (16*a+b)).toNat:Int):=by
                     rw [IntKind.wrap_u8,UInt8.toNat_ofNat'];omega
                    generalize UInt8.ofNat (16*a+b)=e8 at *
                    generalize ((16*a+b:Nat):Int)=vi at *
                    clear h92 hd h120 hx hv ha hb ha16 hb16
                    go_wp2_with (first
                     | (go_at_call 139;refine (T.out _).mono ?_;rintro e w4 ⟨rfl,hg⟩;have Q4:=Hq (Zkt Q.out hg);clear hg)
                     | (go_at_call 140;refine (P.out _).mono ?_;rintro e w6 ⟨rfl,hg⟩;have Q5:=Hq (Zkt Q4.out hg);have hbox6:=Zkw Q5.out.box;have hE6:∀ o,w.heap.size+1<=(w6.alloc o).heap.size:=(fun o=>Yt hbox6 o);clear hg)
                     | (at_builtin;refine wpList_append_own_at _ rfl _ _ 23 rfl (w.heap.size+1) 5 bi (.int .u8 0) 1 1 Xu bi0 bi1 bi2 bi3 rfl (by decide) (.slice p acc.length c) _ _ rfl (World.ownsRow.alloc Q5.out.buf _) ⟨w6.heap.size,0,none⟩ 1 1 [.int .u8 _] rfl rfl (Zcq w6 _ _) (Jq _ _) hc3 hc4 (hE6 _) ?_;intro v3 w5 hown3 hgr3 hnil3 hat3;obtain ⟨p3,k3,hv3⟩:=Zk hown3;subst hv3;have OW3:=Hq hown3;have GR3:=Hq hgr3;clear hown3 hgr3 hnil3 hat3))
                    exact ⟨⟨k+4,acc++[e8],by go_num,Zks Q5.out (by decide) (by omega) HU.out OW3.out (Za (Ga _ _ _) GR3.out)⟩,by simp [intOf];omega⟩
                · have HU:=Hq (HR.out.trans <| Zbk Q.out.at_ (Yei HB.out h92 HB1.out (by omega) (by omega) h120))
                  have i5:(((s[k+1]'hlt1).toNat:Int) == 120)=false:=beq_eq_false_iff_ne.2 (by omega)
                  clear h92 hd h120
                  go_wp2
                  exact bodyPost_ret (v := .tuple #[.agg #[.int .i64 0,.string ⟨#[]⟩,.int .i64 0,.bool false],.int .i64 0,.bool false]) (Zan rfl rfl rfl rfl (Xa Q.out.box)) rfl (Jh HU.out (Yh Q.out.gr (Nat.le_refl _)))
              · have HU:=Hq (HR.out.trans <| Zbk Q.out.at_ (Yeh HB.out h92 HB1.out (by omega) (by omega) (by rw [Ja];omega)))
                have j3:¬ (k:Int)+3<s.size:=by omega
                clear h92 hd
                go_wp2
                exact bodyPost_ret (v := .tuple #[.agg #[.int .i64 0,.string ⟨#[]⟩,.int .i64 0,.bool false],.int .i64 0,.bool false]) (Zan rfl rfl rfl rfl (Xa Q.out.box)) rfl (Jh HU.out (Yh Q.out.gr (Nat.le_refl _)))
          · have HU:=Hq (HR.out.trans <| Zbk Q.out.at_ (Yej HB.out h92 (by rw [Ja];omega)))
            have j1:¬ (k:Int)+1<s.size:=by omega
            have j3:¬ (k:Int)+3<s.size:=by omega
            clear h92
            go_wp2
            exact bodyPost_ret (v := .tuple #[.agg #[.int .i64 0,.string ⟨#[]⟩,.int .i64 0,.bool false],.int .i64 0,.bool false]) (Zan rfl rfl rfl rfl (Xa Q.out.box)) rfl (Jh HU.out (Yh Q.out.gr (Nat.le_refl _)))
        · have HU:=Hq (Yen HB.out h34 (by omega) (by omega) h92)
          have i92:¬ ((s[k]'hlt).toNat:Int)=92:=by omega
          clear h34 hbad h92
          (
            go_wp2_with (first
             | (at_builtin;refine wpList_append_own_at _ rfl _ _ 23 rfl (w.heap.size+1) 5 bi (.int .u8 0) 1 1 Xu bi0 bi1 bi2 bi3 rfl (by decide) (.slice p acc.length c) _ _ rfl (World.ownsRow.alloc Q.out.buf _) ⟨wr.heap.size,0,none⟩ 1 1 [.int .u8 _] rfl rfl (Zcq wr _ _) (Jq _ _) hc3 hc4 (hE _) ?_;intro v3 w5 hown3 hgr3 hnil3 hat3;obtain ⟨p3,k3,hv3⟩:=Zk hown3;subst hv3;have OW3:=Hq hown3;have GR3:=Hq hgr3;clear hown3 hgr3 hnil3 hat3)))
          exact ⟨⟨k+1,acc++[s[k]'hlt],by go_num,Zks Q.out (Nat.le_refl _) (by omega) HU.out OW3.out (Za (Ga _ _ _) GR3.out)⟩,by simp [intOf];omega⟩
  · have HU:=Hq (HR.out.trans <| Zbk Q.out.at_ (Yem (by rw [Ja];omega)))
    go_wp2
    exact bodyPost_ret (v := .tuple #[.agg #[.int .i64 0,.string ⟨#[]⟩,.int .i64 0,.bool false],.int .i64 0,.bool false]) (Zan rfl rfl rfl rfl (Xa Q.out.box)) rfl (Jh HU.out (Yh Q.out.gr (Nat.le_refl _)))
def pcK:Pc->Int
 | .word _=>0
 | .num _ _=>1
 | .str _=>2
 | .colon=>3
def pcT:Pc->Txt
 | .word t=>t
 | .str t=>t
 | _=>[]
def pcN:Pc->Int
 | .num n _=>n
 | _=>0
def pcF:Pc->Bool
 | .num _ b => !b
 | _=>false
def Zxr (p:Pc) (k:Nat) (e:Ending):Prop:=e = .returned (.tuple #[.agg #[.int .i64 (pcK p),.string (bs (pcT p)),.int .i64 (pcN p),.bool (pcF p)],.int .i64 (k:Int),.bool true])
def Ydz (e:Ending):Prop:=∃ k t n f m,e = .returned (.tuple #[.agg #[.int .i64 k,.string t,.int .i64 n,.bool f],.int .i64 m,.bool false])
def Zip (w:World) (r:Option (Pc × Nat)) (e:Ending) (w':World):Prop :=
 (match r with|some (p,k)=>Zxr p k e|none=>Ydz e)/\w.grownBy w' none
theorem Zut (l:Txt):Zcd l<=l.length:=by unfold Zcd;exact (List.takeWhile_sublist _).length_le
theorem Zal (b:UInt8):wrap32 (b.toNat:Int)=(b.toNat:Int):=by
 have:=b.toNat_lt
 unfold wrap32;omega
theorem Zgt (w:World):Zgb (w.alloc (.cells #[.int .i64 0,.string ⟨#[]⟩,.int .i64 0,.bool false] 158)) w.heap.size (.int .i64 0) (.string ⟨#[]⟩) (.int .i64 0) (.bool false):=Xp w _ _ _ _
theorem Zza (s:ByteArray) (h0:0<s.size) (hc:Ycu (s[0]'h0)=true) (w:World):Calls Tryz.prog 75 #[.string s] w (Zip w (some (.word (s.data.toList.take (Zcd s.data.toList)),Zcd s.data.toList))):=by
 have R:=Hq (Zur s)
 have hle:=Zut s.data.toList
 rw [Ja] at hle
 have hsl:∀ W:World,(Instr.slice 9 (.string s) none (some (.int .i64 ((Zcd s.data.toList:Nat):Int))) none).run Tryz.prog W = .ok (.string (bs (s.data.toList.take (Zcd s.data.toList)))) W:=fun W=>by
  rw [run_slice_string_h (ht:=Jc) (h0:=by omega) (h2:=by omega),Zbt]
  simp
 have hw32:=Zal (s[0]'h0)
 have L:=Hq (show Zlx ((s[0]'h0).toNat:Int)=true from hc)
 generalize s.data.toList.take (Zcd s.data.toList)=t at *
 generalize Zcd s.data.toList=n at *
 clear hc
 go_enter Tryz.func75,Tryz.ntmps75
 go_wp2_with (first
  | (go_at_call 107;refine (Xx _ _).mono ?_;rintro e w' ⟨rfl,rfl⟩;rw [L.out])
  | (go_at_call 108;refine (R.out _).mono ?_;rintro e w2 ⟨rfl,hg⟩;have G:=Hq hg;have B:=Hq (Yf (Zgt w) hg (by simp));obtain ⟨c0,c1,c2,c3,z0,z1,z2,z3⟩:=Yp B.out;clear hg))
 exact bodyPost_ret (v := .tuple #[.agg #[.int .i64 0,.string (bs t),.int .i64 0,.bool false],.int .i64 (n:Int),.bool true]) (Zan rfl rfl rfl rfl (Xa B.out)) rfl ⟨rfl,Yh (Za (Ga _ _ _) G.out) (Nat.le_refl _)⟩
theorem Yco (s:ByteArray) (hs:s.size<=70000) (h0:0<s.size) (hc:Ycu (s[0]'h0)=false) (h34:(s[0]'h0).toNat=34) (w:World) (hW:LibW w):Calls Tryz.prog 75 #[.string s] w (Zip w ((unq (s.data.toList.drop 1)).map fun x=>(.str x.1,x.2+1))):=by
 have Q:=Hq (Zsh s hs h0)
 have LW:=Hq hW
 have hw32:=Zal (s[0]'h0)
 have L:=Hq (show Zlx ((s[0]'h0).toNat:Int)=false from hc)
 have i34:(((s[0]'h0).toNat:Int) == 34)=true:=beq_iff_eq.2 (by omega)
 obtain ⟨r,hr⟩:∃ r,r=unq (s.data.toList.drop 1):=⟨_,rfl⟩
 rw [<- hr] at Q ⊢
 clear hr hc h34 hW
 have HQ:=Hq (show ∀ W,LibW W->Calls Tryz.prog 109 #[.string s] W fun e w'=>∃ k t n f m ok,e = .returned (.tuple #[.agg #[.int .i64 k,.string t,.int .i64 n,.bool f],.int .i64 m,.bool ok])/\W.grownBy w' none/\(match r.map fun x=>((.str x.1,x.2+1):Pc × Nat) with|some (p,k)=>Zxr p k e|none=>Ydz e) from fun W hw=>by
  refine (Q.out W hw).mono ?_
  rintro e w' ⟨rfl,hg⟩
  cases r with
  | none=>exact ⟨_,_,_,_,_,_,rfl,hg,_,_,_,_,_,rfl⟩
  | some x=>exact ⟨_,_,_,_,_,_,rfl,hg,rfl⟩)
 clear Q
 generalize (r.map fun x=>((.str x.1,x.2+1):Pc × Nat))=r2 at *
 go_enter Tryz.func75,Tryz.ntmps75
 go_wp2_with (first
  | (go_at_call 107;refine (Xx _ _).mono ?_;rintro e w' ⟨rfl,rfl⟩;rw [L.out])
  | (go_at_call 109;refine (HQ.out _ (Zq LW.out (Ga _ _ _))).mono ?_;rintro e w2 ⟨k,t,n,f,m,ok,rfl,hg,hp⟩;have G:=Hq hg;have HP:=Hq hp;have B:=Hq (Yf (Zgt w) hg (by simp));obtain ⟨c0,c1,c2,c3,z0,z1,z2,z3⟩:=Yp B.out;clear hg hp))
 exact bodyPost_ret (v := .tuple #[.agg #[.int .i64 k,.string t,.int .i64 n,.bool f],.int .i64 m,.bool ok]) (Zan rfl rfl rfl rfl (Xa B.out)) rfl ⟨HP.out,Yh (Za (Ga _ _ _) G.out) (Nat.le_refl _)⟩
theorem Ycq (s:ByteArray) (hs:s.size<=70000) (h0:0<s.size) (hc:Ycu (s[0]'h0)=false) (h34:(s[0]'h0).toNat≠34) (hd:(s[0]'h0).toNat=45\/Zls (s[0]'h0)=true) (w:World) (hW:LibW w) :
 Calls Tryz.prog 75 #[.string s] w (Zip w ((Ycs (s.data.toList.take (1+Zcd (s.data.toList.drop 1)))).map fun x=>(.num x.1 x.2,1+Zcd (s.data.toList.drop 1)))):=by
 have R:=Hq (Zur (bs (s.data.toList.drop 1)))
 rw [Xe] at R
 have hle:=Zut (s.data.toList.drop 1)
 rw [List.length_drop,Ja] at hle
 have hs1:∀ W:World,(Instr.slice 9 (.string s) (some (.int .i64 1)) none none).run Tryz.prog W = .ok (.string (bs (s.data.toList.drop 1))) W:=fun W=>by
  rw [run_slice_string_l (ht:=Jc) (h0:=by omega) (h1:=by omega),Zbt]
  rw [List.take_of_length_le (by rw [List.length_drop,Ja];exact Nat.le_refl _)];rfl
 have hs2:∀ W:World,(Instr.slice 9 (.string s) none (some (.int .i64 ((1:Int)+(Zcd (s.data.toList.drop 1):Nat)))) none).run Tryz.prog W = .ok (.string (bs (s.data.toList.take (1+Zcd (s.data.toList.drop 1))))) W:=fun W=>by
  rw [run_slice_string_h (ht:=Jc) (h0:=by omega) (h2:=by omega),Zbt]
  rw [show ((1:Int)+(Zcd (s.data.toList.drop 1):Nat)).toNat=1+Zcd (s.data.toList.drop 1) by omega];simp
 have N:=Hq (Zst (bs (s.data.toList.take (1+Zcd (s.data.toList.drop 1)))) (by rw [Zj,List.length_take,Ja];omega))
 rw [Xe] at N
 have LW:=Hq hW
 have hw32:=Zal (s[0]'h0)
 have L:=Hq (show Zlx ((s[0]'h0).toNat:Int)=false from hc)
 have i34:(((s[0]'h0).toNat:Int) == 34)=false:=beq_eq_false_iff_ne.2 (by omega)
 have HN:=Hq (show ∀ W,LibW W->Calls Tryz.prog 111 #[.string (bs (s.data.toList.take (1+Zcd (s.data.toList.drop 1))))] W fun e w'=>∃ k t n f ok,e = .returned (.tuple #[.agg #[.int .i64 k,.string t,.int .i64 n,.bool f],.bool ok])/\W.grownBy w' none/\(match (Ycs (s.data.toList.take (1+Zcd (s.data.toList.drop 1)))).map fun x=>((.num x.1 x.2,1+Zcd (s.data.toList.drop 1)):Pc × Nat) with|some (p,m)=>Zxr p m (.returned (.tuple #[.agg #[.int .i64 k,.string t,.int .i64 n,.bool f],.int .i64 ((1:Int)+(Zcd (s.data.toList.drop 1):Nat)),.bool ok]))|none=>Ydz (.returned (.tuple #[.agg #[.int .i64 k,.string t,.int .i64 n,.bool f],.int .i64 ((1:Int)+(Zcd (s.data.toList.drop 1):Nat)),.bool ok]))) from fun W hw=>by
  refine (N.out W hw).mono ?_
  rintro e w' ⟨rfl,hg⟩
  cases hx:Ycs (s.data.toList.take (1+Zcd (s.data.toList.drop 1))) with
  | none=>exact ⟨_,_,_,_,_,rfl,hg,_,_,_,_,_,rfl⟩
  | some x =>
    refine ⟨_,_,_,_,_,rfl,hg,?_⟩
    show Zxr _ _ _
    unfold Zxr
    simp only [Int.natCast_add]
    rfl)
 clear N
 generalize ((Ycs (s.data.toList.take (1+Zcd (s.data.toList.drop 1)))).map fun x=>((.num x.1 x.2,1+Zcd (s.data.toList.drop 1)):Pc × Nat))=r2 at *
 generalize bs (s.data.toList.take (1+Zcd (s.data.toList.drop 1)))=t2 at *
 generalize bs (s.data.toList.drop 1)=t1 at *
 generalize Zcd (s.data.toList.drop 1)=n1 at *
 have hn1:(n1:Int)<=70000:=by omega
 clear hle hc h34 hW
 have D:(((s[0]'h0).toNat:Int) == 45)=true\/((((s[0]'h0).toNat:Int) == 45)=false/\Ztr ((s[0]'h0).toNat:Int)=true):=by
  rcases hd with hd|hd
  · exact Or.inl (beq_iff_eq.2 (by omega))
  · by_cases h:((s[0]'h0).toNat:Int)=45
    · exact Or.inl (beq_iff_eq.2 h)
    · exact Or.inr ⟨beq_eq_false_iff_ne.2 h,hd⟩
 clear hd
 rcases D with i45|⟨i45,id⟩
 all_goals
  go_enter Tryz.func75,Tryz.ntmps75
  go_upto_region 10 with (first
   | (go_at_call 107;refine (Xx _ _).mono ?_;rintro e w' ⟨rfl,rfl⟩;rw [L.out])
   | (go_at_call 110;refine (Zca _ _).mono ?_;rintro e w' ⟨rfl,rfl⟩;rw [id])
   | (go_at_call 108;refine (R.out _).mono ?_;rintro e w2 ⟨rfl,hg⟩;have G:=Hq hg;have B:=Hq (Yf (Zgt w) hg (by simp));clear hg)
   | (go_at_call 111;refine (HN.out _ (Zq LW.out (Za (Ga _ _ _) G.out))).mono ?_;rintro e w3 ⟨k,t,n,f,ok,rfl,hg,hp⟩;have G3:=Hq (Za (Za (Ga _ _ _) G.out) hg);have HP:=Hq hp;have B3:=Hq (Yf B.out hg (by simp));clear hg hp))
  have G4:=Hq (Za G3.out (Ga w3 (.cells #[.int .i64 k,.string t,.int .i64 n,.bool f] 158) none))
  have B4:=Hq (Yf B3.out (Ga w3 (.cells #[.int .i64 k,.string t,.int .i64 n,.bool f] 158) none) (by simp))
  have B5:=Hq (Xp w3 (.int .i64 k) (.string t) (.int .i64 n) (.bool f))
  generalize w3.alloc (.cells #[.int .i64 k,.string t,.int .i64 n,.bool f] 158)=w4 at *
  generalize w3.heap.size=b3 at *
  obtain ⟨c0,c1,c2,c3,z0,z1,z2,z3⟩:=Yp B4.out
  obtain ⟨d0,d1,d2,d3,y0,y1,y2,y3⟩:=Yp B5.out
  go_wp2
  exact bodyPost_ret (v := .tuple #[.agg #[.int .i64 k,.string t,.int .i64 n,.bool f],.int .i64 ((1:Int)+(n1:Int)),.bool ok]) (Zan rfl rfl rfl rfl (Xa B4.out)) rfl ⟨HP.out,Yh G4.out (Nat.le_refl _)⟩
theorem Yez (s:ByteArray) (h0:0<s.size) (hc:Ycu (s[0]'h0)=false) (h34:(s[0]'h0).toNat≠34) (h45:(s[0]'h0).toNat≠45) (hd:Zls (s[0]'h0)=false) (w:World):Calls Tryz.prog 75 #[.string s] w (Zip w none):=by
 have hw32:=Zal (s[0]'h0)
 have L:=Hq (show Zlx ((s[0]'h0).toNat:Int)=false from hc)
 have D:=Hq (show Ztr ((s[0]'h0).toNat:Int)=false from hd)
 have i34:(((s[0]'h0).toNat:Int) == 34)=false:=beq_eq_false_iff_ne.2 (by omega)
 have i45:(((s[0]'h0).toNat:Int) == 45)=false:=beq_eq_false_iff_ne.2 (by omega)
 clear hc h34 h45 hd
 go_enter Tryz.func75,Tryz.ntmps75
 go_wp2_with (first
  | (go_at_call 107;refine (Xx _ _).mono ?_;rintro e w' ⟨rfl,rfl⟩;rw [L.out])
  | (go_at_call 110;refine (Zca _ _).mono ?_;rintro e w' ⟨rfl,rfl⟩;rw [D.out]))
 exact bodyPost_ret (v := .tuple #[.agg #[.int .i64 0,.string ⟨#[]⟩,.int .i64 0,.bool false],.int .i64 0,.bool false]) (Zan rfl rfl rfl rfl (Zgt w)) rfl ⟨⟨_,_,_,_,_,rfl⟩,Ga _ _ _⟩
theorem Zmu (s:ByteArray) (h0:0<s.size):s.data.toList=(s[0]'h0)::s.data.toList.drop 1:=by
 have:=Yl (Zfx s 0 h0)
 simpa using this
theorem Zow (s:ByteArray) (hs:s.size<=70000) (h0:0<s.size) (w:World) (hW:LibW w):Calls Tryz.prog 75 #[.string s] w (Zip w (Zss s.data.toList)):=by
 have hl:=Zmu s h0
 have W1:=Zza s h0
 have W2:=fun h1 h2=>Yco s hs h0 h1 h2 w hW
 have W3:=fun h1 h2 h3=>Ycq s hs h0 h1 h2 h3 w hW
 have W4:=fun h1 h2 h3 h4=>Yez s h0 h1 h2 h3 h4 w
 have e:Zss s.data.toList=Zss ((s[0]'h0)::s.data.toList.drop 1):=congrArg Zss hl
 rw [e,Zss,<- hl]
 cases hc:Ycu (s[0]'h0) with
 | true=>simp only [if_true];exact W1 hc w
 | false =>
   simp only [Bool.false_eq_true,if_false]
   by_cases h34:(s[0]'h0).toNat=34
   · rw [if_pos h34];exact W2 hc h34
   · rw [if_neg h34]
     by_cases hd:(s[0]'h0).toNat=45\/Zls (s[0]'h0)=true
     · rw [if_pos hd];exact W3 hc h34 hd
     · rw [if_neg hd];exact W4 hc h34 (fun h=>hd (Or.inl h)) (by cases h:Zls (s[0]'h0) with|false=>rfl|true=>exact absurd (Or.inr h) hd)
theorem Zly:∀ (n:Nat) (l:Txt) (b:Txt) (k:Nat),l.length<=n->unq l=some (b,k)->1<=k/\k<=l.length:=by
 intro n
 induction n with
 | zero =>
   intro l b k hl h
   have:l=[]:=List.eq_nil_of_length_eq_zero (by omega)
   subst this;cases h
 | succ n ih =>
   intro l b k hl h
   cases l with
   | nil=>cases h
   | cons c r =>
     rw [unq.eq_def] at h
     simp only [] at h
     simp only [List.length_cons] at hl ⊢
     split at h
     · injection h with h;injection h with h1 h2;omega
     · split at h
       · cases h
       · split at h
         · obtain ⟨x,hx,h⟩:=Option.map_eq_some_iff.1 h
           have:=ih r x.1 x.2 (by omega) hx
           injection h with h1 h2;omega
         · split at h
           · cases h
           · rename_i d r2
             simp only [List.length_cons] at hl ⊢
             split at h
             · obtain ⟨x,hx,h⟩:=Option.map_eq_some_iff.1 h
               have:=ih r2 x.1 x.2 (by omega) hx
               injection h with h1 h2;omega
             · split at h
               · split at h
                 · rename_i x y r3
                   simp only [List.length_cons] at hl ⊢
                   split at h
                   · obtain ⟨z,hz,h⟩:=Option.map_eq_some_iff.1 h
                     have:=ih r3 z.1 z.2 (by omega) hz
                     injection h with h1 h2;omega
                   · cases h
                 · cases h
               · cases h
theorem Zqa (l:Txt):Zcd l<=l.length:=by unfold Zcd;exact (List.takeWhile_sublist _).length_le
theorem Yfb {b:UInt8} (h:Ycu b=true):tlB b=true:=by
 unfold tlB tlI
 have:Zlx (b.toNat:Int)=true:=h
 rw [this];rfl
theorem Zfl {l:Txt} {p:Pc} {k:Nat} (h:Zss l=some (p,k)):1<=k/\k<=l.length:=by
 cases l with
 | nil=>cases h
 | cons c r =>
   rw [Zss] at h
   split at h
   · rename_i hc
     injection h with h;injection h with h1 h2
     have h3:=Zqa (c::r)
     have h4:1<=Zcd (c::r):=by unfold Zcd;rw [List.takeWhile_cons,if_pos (Yfb hc)];simp
     omega
   · split at h
     · obtain ⟨x,hx,h⟩:=Option.map_eq_some_iff.1 h
       have:=Zly r.length r x.1 x.2 (Nat.le_refl _) hx
       injection h with h1 h2
       simp only [List.length_cons];omega
     · split at h
       · obtain ⟨x,hx,h⟩:=Option.map_eq_some_iff.1 h
         injection h with h1 h2
         have:=Zqa r
         simp only [List.length_cons];omega
       · cases h
def Zua (l0:Txt) (f:Nat) (ap:Bool) (l:Txt) (acc:List Pc):Prop:=l.length<f/\Zqm l0=(Zoc f ap l).map (acc++·)
theorem Zsn (l:Txt):Zua l (l.length+1) true l []:=⟨Nat.lt_succ_self _,by unfold Zqm;cases Zoc (l.length+1) true l <;> simp⟩
theorem Zyv {l0:Txt} {f:Nat} {ap:Bool} {l:Txt} {acc:List Pc} (h:Zua l0 f ap l acc) (he:l=[]):Zqm l0=some acc:=by
 subst he
 obtain ⟨h0,h1⟩:=h
 obtain ⟨g,rfl⟩:∃ g,f=g+1:=⟨f - 1,by omega⟩
 rw [h1,Zoc];simp
theorem Zvj {l0:Txt} {f:Nat} {ap:Bool} {c:UInt8} {r:Txt} {acc:List Pc} (h:Zua l0 f ap (c::r) acc) (hc:c.toNat=59):Zqm l0=some acc:=by
 obtain ⟨h0,h1⟩:=h
 obtain ⟨g,rfl⟩:∃ g,f=g+1:=⟨f - 1,by omega⟩
 rw [h1,Zoc,if_pos hc];simp
theorem Zsq {l0:Txt} {f:Nat} {ap:Bool} {c:UInt8} {r:Txt} {acc:List Pc} (h:Zua l0 f ap (c::r) acc) (hc:c.toNat=32\/c.toNat=9\/c.toNat=13):∃ g,Zua l0 g true r acc:=by
 obtain ⟨h0,h1⟩:=h
 obtain ⟨g,rfl⟩:∃ g,f=g+1:=⟨f - 1,by omega⟩
 refine ⟨g,by simp at h0;omega,?_⟩
 rw [h1,Zoc,if_neg (by omega),if_pos hc]
theorem Zsp {l0:Txt} {f:Nat} {ap:Bool} {c:UInt8} {r:Txt} {acc:List Pc} (h:Zua l0 f ap (c::r) acc) (hc:c.toNat=58):∃ g,Zua l0 g true r (acc++[.colon]):=by
 obtain ⟨h0,h1⟩:=h
 obtain ⟨g,rfl⟩:∃ g,f=g+1:=⟨f - 1,by omega⟩
 refine ⟨g,by simp at h0;omega,?_⟩
 rw [h1,Zoc,if_neg (by omega),if_neg (by omega),if_pos hc,Option.map_map]
 congr 1
 funext x
 simp
def Zry (c:UInt8):Prop:=c.toNat≠59/\c.toNat≠32/\c.toNat≠9/\c.toNat≠13/\c.toNat≠58
theorem Zso {l0:Txt} {f:Nat} {c:UInt8} {r:Txt} {acc:List Pc} (h:Zua l0 f false (c::r) acc) (hc:Zry c):Zqm l0=none:=by
 obtain ⟨h0,h1⟩:=h
 obtain ⟨c1,c2,c3,c4,c5⟩:=hc
 obtain ⟨g,rfl⟩:∃ g,f=g+1:=⟨f - 1,by omega⟩
 rw [h1,Zoc,if_neg c1,if_neg (by omega),if_neg c5,if_pos rfl];rfl
theorem Yci {l0:Txt} {f:Nat} {ap:Bool} {c:UInt8} {r:Txt} {acc:List Pc} (h:Zua l0 f ap (c::r) acc) (hc:Zry c) (ho:Zss (c::r)=none):Zqm l0=none:=by
 obtain ⟨h0,h1⟩:=h
 obtain ⟨c1,c2,c3,c4,c5⟩:=hc
 obtain ⟨g,rfl⟩:∃ g,f=g+1:=⟨f - 1,by omega⟩
 rw [h1,Zoc,if_neg c1,if_neg (by omega),if_neg c5,ho]
 split <;> rfl
theorem Zyu {l0:Txt} {f:Nat} {c:UInt8} {r:Txt} {acc:List Pc} {p:Pc} {k:Nat} (h:Zua l0 f true (c::r) acc) (hc:Zry c) (ho:Zss (c::r)=some (p,k)):∃ g,Zua l0 g false ((c::r).drop k) (acc++[p]):=by
 obtain ⟨h0,h1⟩:=h
 obtain ⟨c1,c2,c3,c4,c5⟩:=hc
 obtain ⟨g,rfl⟩:∃ g,f=g+1:=⟨f - 1,by omega⟩
 have hb:=Zfl ho
 refine ⟨g,by rw [List.length_drop];omega,?_⟩
 rw [h1,Zoc,if_neg c1,if_neg (by omega),if_neg c5,if_neg (by decide),ho]
 simp only [Option.map_map]
 congr 1
 funext x
 simp
def pc4 (p:Pc):List Value:=[.int .i64 (pcK p),.string (bs (pcT p)),.int .i64 (pcN p),.bool (pcF p)]
def Zou:List Pc->List Value
 | []=>[]
 | p::r=>pc4 p++Zou r
theorem Zot (a b:List Pc):Zou (a++b)=Zou a++Zou b:=by
 induction a with
 | nil=>rfl
 | cons p r ih=>simp [Zou,ih]
theorem Zqk:∀ (l:List Pc) (i:Nat) (p:Pc),l[i]? = some p->(Zou l)[i*4]? = some (.int .i64 (pcK p))/\(Zou l)[i*4+1]? = some (.string (bs (pcT p)))/\(Zou l)[i*4+2]? = some (.int .i64 (pcN p))/\(Zou l)[i*4+3]? = some (.bool (pcF p))
 | [],i,p,h=>by simp at h
 | x::r,0,p,h=>by simp at h;subst h;simp [Zou,pc4]
 | x::r,i+1,p,h=>by
   obtain ⟨h1,h2,h3,h4⟩:=Zqk r i p (by simpa using h)
   have e:(i+1)*4=i*4+4:=by omega
   rw [e]
   refine ⟨?_,?_,?_,?_⟩ <;> (simp only [Zou,pc4,List.cons_append,List.nil_append]) <;> simpa using by assumption
def Ztz (w:World) (E:Nat) (v:Value) (ps:List Pc):Prop:=w.ownsRow E 158 4 v ps.length (Zou ps)
theorem Zov {w:World} {E:Nat} {v:Value} {ps:List Pc} (h:Ztz w E v ps):∃ p c,v = .slice p ps.length c:=Zk h
theorem Zml:Tryz.prog.underlying 125=some (.slice 158):=by kernel_rfl
theorem Zsm:(Tryz.prog.info? 158).map (fun i=>(i.zero,i.size,i.bytes))=some (some (.agg #[.int .i64 0,.string ⟨#[]⟩,.int .i64 0,.bool false]),4,40):=by kernel_rfl
theorem Zrf (w:World) (x y z u0:Value) (t:TypeId):∀ j u,[x,y,z,u0][j]? = some u->(w.alloc (.cells #[x,y,z,u0] t)).cell? ((⟨w.heap.size,0,none⟩:Addr).add j)=some u:=by
 intro j u hj
 match j,hj with
 | 0,hj=>simp at hj;subst hj;simp [Addr.add]
 | 1,hj=>simp at hj;subst hj;simp [Addr.add]
 | 2,hj=>simp at hj;subst hj;simp [Addr.add]
 | 3,hj=>simp at hj;subst hj;simp [Addr.add]
theorem Zqn (p:Pc):∀ u∈pc4 p,u.oneCell'=true:=by intro u hu;simp [pc4] at hu;rcases hu with rfl|rfl|rfl|rfl <;> rfl
def Ziz:Value->Nat
 | .string s=>s.size
 | _=>0
def Ydx (w:World) (r:Option (List Pc)) (e:Ending) (w':World):Prop :=
 (match r with
   | some ps=>∃ p c,e = .returned (.tuple #[.slice p ps.length c,.nilIface])/\Ztz w' w.heap.size (.slice p ps.length c) ps
   | none=>e = .returned (.tuple #[.slice none 0 0,.iface 41 (.int .i64 141)]))/\w.grownBy w' none
structure PsR (l0:Txt) (w wr:World) (s:ByteArray) (v:Value) (ap:Bool) (f:Nat) (acc:List Pc):Prop where
 at_:Zua l0 f ap s.data.toList acc
 sz:s.size<=70000
 row:Ztz wr w.heap.size v acc
 gr:w.grownBy wr none
 len:acc.length+s.size<=70000
theorem Zyn {l0:Txt} {w wr w2:World} {s:ByteArray} {v:Value} {ap:Bool} {f:Nat} {acc:List Pc} (h:PsR l0 w wr s v ap f acc) (g:wr.grownBy w2 none):PsR l0 w w2 s v ap f acc :=
 ⟨h.at_,h.sz,h.row.kept g (Jp h.row),Za h.gr g,h.len⟩
theorem Zqh {l0:Txt} {w wr w2:World} {s s2:ByteArray} {v v2:Value} {ap ap2:Bool} {f f2:Nat} {acc:List Pc} {p:Pc} (h:PsR l0 w wr s v ap f acc) (h2:Zua l0 f2 ap2 s2.data.toList (acc++[p])) (hs:s2.size+1<=s.size)
 (ho:w2.ownsRow w.heap.size 158 4 v2 (acc.length+1) (Zou acc++pc4 p)) (g:wr.grownBy w2 v.ownBlock):PsR l0 w w2 s2 v2 ap2 f2 (acc++[p]):=by
 have hsz:=h.sz
 have hlen:=h.len
 refine ⟨h2,by omega,?_,Zeo h.gr g (fun q hq=>(World.ownsRow.lt h.row q hq).1),by simp;omega⟩
 unfold Ztz
 rw [Zot,List.length_append]
 simpa [Zou] using ho
theorem Zgy (s:ByteArray) (n:Nat):s.extract n s.size=bs (s.data.toList.drop n):=by
 rw [Zbt,List.take_of_length_le (by rw [List.length_drop,Ja];exact Nat.le_refl _)]
theorem Zsl (s0:ByteArray) (hs:s0.size<=70000) (w:World) (hW:LibW w):Calls Tryz.prog 56 #[.string s0] w (Ydx w (Zqm s0.data.toList)):=by
 have START:=Hq (Zsn s0.data.toList)
 obtain ⟨r,hr⟩:∃ r,r=Zqm s0.data.toList:=⟨_,rfl⟩
 rw [<- hr]
 have HR:=Hq hr
 have LW:=Hq hW
 clear hr hW
 obtain ⟨pi,pi0,pi1,pi2,pi3⟩:=info_parts Zsm
 go_enter Tryz.func56,Tryz.ntmps56
 go_wp2
 go_loopw [0,4,5] (fun vl v va wr=>∃ s ap f acc,vl = .string s/\va = .bool ap/\PsR s0.data.toList w wr s v ap f acc) (fun vl _ _ _=>Ziz vl)
 case atStart=>exact ⟨s0,true,_,[],rfl,rfl,START.out,hs,World.ownsRow_nil _ _ _ _,Zd _ _,by simpa using hs⟩
 case round =>
  obtain ⟨s,ap,f,acc,rfl,rfl,hq⟩:=hrel
  obtain ⟨p,c,rfl⟩:=Zov hq.row
  have hsz:=hq.sz
  have hlen:=hq.len
  have hsize:=hq.gr.size
  have Q:=Hq hq
  have hc3:acc.length+1<=maxLen:=by unfold maxLen;omega
  have hc4:(acc.length+1)*40<=140737488355328:=by omega
  clear hq
  by_cases h0:0<s.size
  · have hl:=Zmu s h0
    have AT:=Hq (hl ▸ Q.out.at_)
    have he:s.toList.isEmpty=false:=by rw [Lib.toList_data,hl];rfl
    have hw32:=Zal (s[0]'h0)
    have hd1:(s.extract 1 s.size).data.toList=s.data.toList.drop 1:=by rw [Zgy,Xe]
    have hd2:(s.extract 1 s.size).size+1=s.size:=by rw [Zgy,Zj,List.length_drop,Ja];omega
    have b59:(((s[0]'h0).toNat:Int) == 59)=decide ((s[0]'h0).toNat=59):=by rw [Bool.eq_iff_iff];simp;omega
    have b32:(((s[0]'h0).toNat:Int) == 32)=decide ((s[0]'h0).toNat=32):=by rw [Bool.eq_iff_iff];simp;omega
    have b9:(((s[0]'h0).toNat:Int) == 9)=decide ((s[0]'h0).toNat=9):=by rw [Bool.eq_iff_iff];simp;omega
    have b13:(((s[0]'h0).toNat:Int) == 13)=decide ((s[0]'h0).toNat=13):=by rw [Bool.eq_iff_iff];simp;omega
    have b58:(((s[0]'h0).toNat:Int) == 58)=decide ((s[0]'h0).toNat=58):=by rw [Bool.eq_iff_iff];simp;omega
    by_cases h59:(s[0]'h0).toNat=59
    · have HU:=Hq (HR.out.trans (Zvj AT.out h59))
      rw [decide_eq_true h59] at b59
      clear b32 b9 b13 b58 h59
      go_wp2
      go_ret2
      refine ⟨?_,Q.out.gr⟩
      rw [HU.out]
      exact ⟨p,c,rfl,Q.out.row⟩
    rw [decide_eq_false h59] at b59
    by_cases hbl:(s[0]'h0).toNat=32\/(s[0]'h0).toNat=9\/(s[0]'h0).toNat=13
    · obtain ⟨g,hg⟩:=Zsq AT.out hbl
      have AN:=Hq (hd1.symm ▸ hg)
      rcases (by omega:(s[0]'h0).toNat=32\/((s[0]'h0).toNat≠32/\(s[0]'h0).toNat=9)\/((s[0]'h0).toNat≠32/\(s[0]'h0).toNat≠9/\(s[0]'h0).toNat=13)) with h|⟨h,h'⟩|⟨h,h',h''⟩
      · rw [decide_eq_true h] at b32
        clear b9 b13 b58 h59 hbl h hg hd1
        go_wp2
        exact ⟨⟨s.extract 1 s.size,true,g,acc,rfl,rfl,AN.out,by omega,Q.out.row,Q.out.gr,by omega⟩,by simp only [Ziz];omega⟩
      · rw [decide_eq_false h] at b32
        rw [decide_eq_true h'] at b9
        clear b13 b58 h59 hbl h h' hg hd1
        go_wp2
        exact ⟨⟨s.extract 1 s.size,true,g,acc,rfl,rfl,AN.out,by omega,Q.out.row,Q.out.gr,by omega⟩,by simp only [Ziz];omega⟩
      · rw [decide_eq_false h] at b32
        rw [decide_eq_false h'] at b9
        rw [decide_eq_true h''] at b13
        clear b58 h59 hbl h h' h'' hg hd1
        go_wp2
        exact ⟨⟨s.extract 1 s.size,true,g,acc,rfl,rfl,AN.out,by omega,Q.out.row,Q.out.gr,by omega⟩,by simp only [Ziz];omega⟩
    rw [decide_eq_false (show ¬ (s[0]'h0).toNat=32 by omega)] at b32
    rw [decide_eq_false (show ¬ (s[0]'h0).toNat=9 by omega)] at b9
    rw [decide_eq_false (show ¬ (s[0]'h0).toNat=13 by omega)] at b13
    by_cases h58:(s[0]'h0).toNat=58
    · obtain ⟨g,hg⟩:=Zsp AT.out h58
      have AN:=Hq (hd1.symm ▸ hg)
      rw [decide_eq_true h58] at b58
      have hE:∀ o,w.heap.size<=(wr.alloc o).heap.size:=fun o=>Yt hsize o
      clear h59 hbl h58 hg hd1
      go_wp2_with (at_builtin;refine wpList_append_own_at _ rfl _ _ 125 rfl w.heap.size 158 pi (.agg #[.int .i64 0,.string ⟨#[]⟩,.int .i64 0,.bool false]) 4 40 Zml pi0 pi1 pi2 pi3 rfl (by decide) (.slice p acc.length c) _ _ rfl (World.ownsRow.alloc Q.out.row _) ⟨wr.heap.size,0,none⟩ 1 1 (pc4 .colon) rfl rfl (Zrf wr _ _ _ _ _) (Zqn _) hc3 hc4 (hE _) ?_;intro v3 w5 hown3 hgr3 hnil3 hat3;obtain ⟨p3,k3,hv3⟩:=Zk hown3;subst hv3;have OW3:=Hq hown3;have GR3:=Hq hgr3;clear hown3 hgr3 hnil3 hat3)
      exact ⟨⟨s.extract 1 s.size,true,g,_,rfl,rfl,Zqh Q.out AN.out (by omega) OW3.out (Za (Ga _ _ _) GR3.out)⟩,by simp only [Ziz];omega⟩
    rw [decide_eq_false h58] at b58
    have BG:Zry (s[0]'h0):=⟨h59,by omega,by omega,by omega,h58⟩
    have BEG:=Hq BG
    clear h59 hbl h58 BG hd1 hd2
    cases ap with
    | false =>
      have HU:=Hq (HR.out.trans (Zso AT.out BEG.out))
      go_wp2
      go_ret2
      refine ⟨?_,Q.out.gr⟩
      rw [HU.out];rfl
    | true =>
      have O:=Hq (Zow s Q.out.sz h0 wr (Zq LW.out Q.out.gr))
      cases ho:Zss s.data.toList with
      | none =>
        rw [ho] at O
        have HU:=Hq (HR.out.trans (Yci AT.out BEG.out (by rw [<- hl];exact ho)))
        clear ho hl
        go_wp2_with (go_at_call 75;refine O.out.mono ?_;rintro e w2 ⟨⟨k1,t1,n1,f1,m1,rfl⟩,hg⟩;have G:=Hq hg;clear hg)
        go_ret2
        refine ⟨?_,Za Q.out.gr (Za G.out (Ga _ _ _))⟩
        rw [HU.out];rfl
      | some x =>
        obtain ⟨q,k⟩:=x
        rw [ho] at O
        have hb:=Zfl ho
        rw [Ja] at hb
        obtain ⟨g,hg⟩:=Zyu AT.out BEG.out (by rw [<- hl];exact ho)
        rw [<- hl] at hg
        have hd1:(s.extract k s.size).data.toList=s.data.toList.drop k:=by rw [Zgy,Xe]
        have AN:=Hq (hd1.symm ▸ hg)
        have hd2:(s.extract k s.size).size+1<=s.size:=by rw [Zgy,Zj,List.length_drop,Ja];omega
        have hk1:(k:Int)<=s.size:=by omega
        clear ho hl hg hb hd1
        go_upto_region 9 with (go_at_call 75;refine O.out.mono ?_;rintro e w2 ⟨rfl,hg⟩;have G:=Hq hg;clear hg)
        have G4:=Hq (Za G.out (Ga w2 (.cells #[.int .i64 (pcK q),.string (bs (pcT q)),.int .i64 (pcN q),.bool (pcF q)] 158) none))
        have B4:=Hq (Xp w2 (.int .i64 (pcK q)) (.string (bs (pcT q))) (.int .i64 (pcN q)) (.bool (pcF q)))
        generalize w2.alloc (.cells #[.int .i64 (pcK q),.string (bs (pcT q)),.int .i64 (pcN q),.bool (pcF q)] 158)=w4 at *
        generalize w2.heap.size=b4 at *
        obtain ⟨c0,c1,c2,c3,z0,z1,z2,z3⟩:=Yp B4.out
        have Q4:=Hq (Zyn Q.out G4.out)
        have hsize4:=Q4.out.gr.size
        have hE:∀ o,w.heap.size<=(w4.alloc o).heap.size:=fun o=>Yt hsize4 o
        go_wp2_with (at_builtin;refine wpList_append_own_at _ rfl _ _ 125 rfl w.heap.size 158 pi (.agg #[.int .i64 0,.string ⟨#[]⟩,.int .i64 0,.bool false]) 4 40 Zml pi0 pi1 pi2 pi3 rfl (by decide) (.slice p acc.length c) _ _ rfl (World.ownsRow.alloc Q4.out.row _) ⟨w4.heap.size,0,none⟩ 1 1 (pc4 q) rfl rfl (Zrf w4 _ _ _ _ _) (Zqn _) hc3 hc4 (hE _) ?_;intro v3 w5 hown3 hgr3 hnil3 hat3;obtain ⟨p3,k3,hv3⟩:=Zk hown3;subst hv3;have OW3:=Hq hown3;have GR3:=Hq hgr3;clear hown3 hgr3 hnil3 hat3)
        exact ⟨⟨s.extract k s.size,false,g,_,rfl,rfl,Zqh Q4.out AN.out (by omega) OW3.out (Za (Ga _ _ _) GR3.out)⟩,by simp only [Ziz];omega⟩
  · have hnil:s.data.toList=[]:=List.eq_nil_of_length_eq_zero (by rw [Ja];omega)
    have HU:=Hq (HR.out.trans (Zyv Q.out.at_ hnil))
    have he:s.toList.isEmpty=true:=by rw [Lib.toList_data,hnil];rfl
    clear hnil
    go_wp2
    go_ret2
    refine ⟨?_,Q.out.gr⟩
    rw [HU.out]
    exact ⟨p,c,rfl,Q.out.row⟩
end Go.Proofs.YteciblfmgdlipaaGreatDoor.AS
