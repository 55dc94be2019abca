/-
  Part of a proof: contracts of functions and lemmas, each stated by its own theorem. Conditions: as each theorem states.
-/
import Derived.Test.YteciblfmgdlipaaGreatDoorMR02
import Derived.Laws.BytesArg
import Derived.Test.YteciblfmgdlipaaGreatDoorMR01
import Derived.Test.YteciblfmgdlipaaGreatDoorMR00
set_option linter.unusedSimpArgs false
set_option linter.unusedVariables false
set_option maxRecDepth 100000
set_option maxHeartbeats 16000000
namespace Go.Proofs.YteciblfmgdlipaaGreatDoor.AS
open Go.RowKit Go.Great CK
theorem Zde:Tryz.prog.underlying 23=some (.slice 5):=by kernel_rfl
theorem Zdd:Tryz.prog.underlying 5=some (.int .u8):=by kernel_rfl
theorem Jf:Tryz.prog.underlying 9=some .string:=by kernel_rfl
def bvs (l:Txt):List Value:=(l.map fun c=>(c.toNat:Int)).map (Value.int .u8)
theorem Zir (a b:Txt):bvs (a++b)=bvs a++bvs b:=by simp [bvs]
theorem Ymr {l:Txt} {i:Nat} {c:UInt8} (h:l[i]? = some c):(bvs l)[i]? = some (.int .u8 (c.toNat:Int)):=by simp [bvs,h]
theorem Ymq (c:UInt8):bvs [c]=[.int .u8 (c.toNat:Int)]:=rfl
theorem Zgk (l:Txt):strOfNums (l.map fun c=>(c.toNat:Int))=bs l:=by
 unfold strOfNums bs
 rw [List.map_map]
 congr 1
 congr 1
 rw [List.map_congr_left (g:=id) (fun c _=>by simp)]
 simp
def Buf (w:World) (E:Nat) (v:Value) (l:Txt):Prop:=w.ownsRow E 5 1 v l.length (bvs l)
theorem Yec (w:World) (E:Nat):Buf w E (.slice none 0 0) []:=World.ownsRow_nil _ _ _ _
theorem Zeo {w:World} {E:Nat} {v:Value} {l:Txt} (h:Buf w E v l):∃ p c,v = .slice p l.length c:=Zk h
theorem Ypf {w:World} {E:Nat} {p:Option Addr} {c:Nat} {l:Txt} (h:Buf w E (.slice p l.length c) l) (h0:0<l.length):∃ g,p=some ⟨g,0,none⟩/\∀ i (c:UInt8),l[i]? = some c->w.cell? ⟨g,i,none⟩=some (.int .u8 (c.toNat:Int)):=by
 obtain ⟨g,cap,hv,hg,hc⟩:=Xc h h0
 injection hv with h1 h2 h3
 subst h1
 refine ⟨g,rfl,fun i x hx => ?_⟩
 exact hc i _ (Ymr hx) (by obtain ⟨h,_⟩:=List.getElem?_eq_some_iff.1 hx;simpa using h)
theorem Yij {w:World} (p:Option Addr) (c:Nat) (hp:p=none\/∃ g:Nat,p=some ⟨g,0,none⟩):(convert 23 9 (.slice p 0 c)).run Tryz.prog w = .ok (.string (bs [])) w:=by
 rcases hp with rfl|⟨g,rfl⟩
 · exact run_convert_bytes_nil w _ _ Zde Zdd _ _ _ Jf
 · have hl:(loadCells ⟨g,0,none⟩ 0).run Tryz.prog w = .ok (([]:List Int).map (Value.int .u8)).toArray w:=by simpa using run_loadCells_list (P:=Tryz.prog) w ⟨g,0,none⟩ [] (by simp)
   rw [run_convert_bytes_string w _ _ _ _ _ c Zde Zdd Jf]
   rw [run_bytesToString w ⟨g,0,none⟩ 0 c [] hl]
   rfl
theorem Zkb {w:World} {E:Nat} {p:Option Addr} {c:Nat} {l:Txt} (h:Buf w E (.slice p l.length c) l):(convert 23 9 (.slice p l.length c)).run Tryz.prog w = .ok (.string (bs l)) w:=by
 cases l with
 | nil =>
   refine Yij p c ?_
   rcases h.2 with ⟨h1,_⟩|⟨g,cap,cur,hv,_⟩
   · left;injection h1
   · right;exact ⟨g,by injection hv⟩
 | cons a r =>
   obtain ⟨g,rfl,hc⟩:=Ypf h (by simp)
   rw [<- Zgk]
   refine run_convert_bytes_arg w _ _ Zde Zdd g 0 (a::r).length c _ (by simp) (fun i hi => ?_) _ Jf
   have hd:((a::r).map fun c=>(c.toNat:Int)).getD i 0=(((a::r)[i]'hi).toNat:Int):=by
    rw [List.getD_eq_getElem?_getD,List.getElem?_map,List.getElem?_eq_getElem hi];rfl
   rw [hd,Nat.zero_add]
   exact hc i _ (List.getElem?_eq_getElem hi)
theorem Jw {w:World} {base:Nat} {e:TypeId} {size n:Nat} {v:Value} {xs:List Value} (h:w.ownsRow base e size v n xs):v.ownBlock=none\/v.ownBlock≠none:=by
 cases v.ownBlock with
 | none=>exact Or.inl rfl
 | some k=>exact Or.inr (by simp)
theorem Zwq {w w':World} {E:Nat} {v:Value} {l:Txt} (h:Buf w E v l) (g:w.grownBy w' none):Buf w' E v l:=h.kept g (Jw h)
structure BlP where
 line:Int
 fn:Int
 pl:Int
 word:Txt
 call:Bool
structure CS where
 mem:Int
 ms:Bool
 data:Txt
 funcs:List FnR
 fm:Txt->Option Int
 lm:List (Txt->Option Int)
 blk:List BlP
def bl5 (x:BlP):List Value:=[.int .i64 x.line,.int .i64 x.fn,.int .i64 x.pl,.string (bs x.word),.bool x.call]
def blV:List BlP->List Value
 | []=>[]
 | x::r=>bl5 x++blV r
theorem Zzm (a b:List BlP):blV (a++b)=blV a++blV b:=by
 induction a with
 | nil=>rfl
 | cons p r ih=>simp [blV,ih]
def Zfp (l:Txt):List Int:=l.map fun c=>(c.toNat:Int)
theorem Jk (l:Txt):(Zfp l).length=l.length:=by simp [Zfp]
structure Fr (w w':World):Prop where
 os:w'.os=w.os
 tape:w'.tape=w.tape
 output:w'.output=w.output
 size:w.heap.size<=w'.heap.size
 keep:∀ (k:Nat) (cs:Array Value) (t:TypeId) (fr:Nat × Nat),w.heap[k]? = some (Obj.cells cs t fr)->(t=158\/t=9)->w'.heap[k]? = w.heap[k]?
theorem Zim (w:World):Fr w w:=⟨rfl,rfl,rfl,Nat.le_refl _,fun _ _ _ _ _ _=>rfl⟩
theorem Zn {a b c:World} (h:Fr a b) (g:Fr b c):Fr a c :=
 ⟨g.os.trans h.os,g.tape.trans h.tape,g.output.trans h.output,Nat.le_trans h.size g.size,fun k cs t fr hk ht=>by
  have h1:=h.keep k cs t fr hk ht
  exact (g.keep k cs t fr (h1.trans hk) ht).trans h1⟩
theorem Yk {w w':World} (g:w.grownBy w' none):Fr w w' :=
 ⟨g.os,g.tape,g.output,g.size,fun k cs t fr hk ht=>g.block k (Gs hk) (by simp)⟩
theorem Zll {w w':World} {E:Nat} {t:TypeId} {sz n:Nat} {v:Value} {xs:List Value} (h:w.ownsRow E t sz v n xs) (ht:t≠158/\t≠9) (g:w.grownBy w' v.ownBlock):Fr w w' :=
 ⟨g.os,g.tape,g.output,g.size,fun k cs t' fr hk ht'=>g.block k (Gs hk) (fun e=>by
  rcases h.2 with ⟨rfl,_⟩|⟨g0,cap,cur,rfl,_,hg,_⟩
  · cases e
  · injection e with e
    subst e
    simp only [hk] at hg
    injection hg with hg;injection hg with _ h2 _
    rcases ht' with h3|h3
    · exact ht.1 (h2.symm.trans h3)
    · exact ht.2 (h2.symm.trans h3))⟩
theorem Zlm {w w':World} {b:Nat} {cs:Array Value} {t:TypeId} {fz:Nat × Nat} (h:w.heap[b]? = some (.cells cs t fz)) (ht:t≠158/\t≠9) (g:w.grownBy w' (some b)):Fr w w' :=
 ⟨g.os,g.tape,g.output,g.size,fun k cs' t' fr hk ht'=>g.block k (Gs hk) (fun e=>by
  injection e with e
  subst e
  rw [hk] at h
  injection h with h;injection h with _ h2 _
  rcases ht' with h3|h3
  · exact ht.1 (h2.symm.trans h3)
  · exact ht.2 (h2.symm.trans h3))⟩
theorem Zoy {w:World} {b m:Nat} {f:Txt->Option Int} (h:Zfi w b m f):∃ es ck,w.heap[b]? = some (.map es ck):=by
 obtain ⟨n,D,⟨es,ck,h1,_⟩,_⟩:=h
 exact ⟨es,ck,h1⟩
theorem Yjq {w w':World} {b m:Nat} {f:Txt->Option Int} (h:Zfi w b m f) (g:w.grownBy w' (some b)):Fr w w' :=
 ⟨g.os,g.tape,g.output,g.size,fun k cs' t' fr hk ht'=>g.block k (Gs hk) (fun e=>by
  injection e with e
  subst e
  obtain ⟨es,ck,h1⟩:=Zoy h
  rw [hk] at h1;cases h1)⟩
theorem Yh {w:World} {b m:Nat} {f:Txt->Option Int} {E:Nat} {t:TypeId} {sz n:Nat} {v:Value} {xs:List Value} (h:Zfi w b m f) (h2:w.ownsRow E t sz v n xs):some b≠v.ownBlock:=by
 obtain ⟨es,ck,h1⟩:=Zoy h
 rcases h2.2 with ⟨rfl,_⟩|⟨g0,cap,cur,rfl,_,hg,_⟩
 · simp [Value.ownBlock]
 · intro e
   simp only [Value.ownBlock] at e
   injection e with e
   subst e
   rw [h1] at hg;cases hg
theorem Zab {w:World} {b m:Nat} {f:Txt->Option Int} {E:Nat} {t:TypeId} {sz n:Nat} {v:Value} {xs:List Value} (h2:w.ownsRow E t sz v n xs) (h:Zfi w b m f):v.ownBlock=none\/v.ownBlock≠some b:=by
 have:=Yh h h2
 cases hv:v.ownBlock with
 | none=>exact Or.inl rfl
 | some k=>exact Or.inr (fun e=>this (by rw [hv,e]))
theorem Zdq {w:World} {b m p:Nat} {f:Txt->Option Int} {cs:Array Value} {t:TypeId} {fz:Nat × Nat} (h:Zfi w b m f) (hp:w.heap[p]? = some (.cells cs t fz)):b≠p:=by
 obtain ⟨es,ck,h1⟩:=Zoy h
 rintro rfl
 rw [h1] at hp;cases hp
theorem Zmt {w:World} {p E:Nat} {cs:Array Value} {t t':TypeId} {sz n:Nat} {v:Value} {xs:List Value} (h:w.ownsRow E t sz v n xs) (hp:w.heap[p]? = some (.cells cs t' (0,0))) (ht:t≠t'):v.ownBlock=none\/v.ownBlock≠some p:=by
 have:=Ye h hp ht
 cases hv:v.ownBlock with
 | none=>exact Or.inl rfl
 | some k=>exact Or.inr (by rw [hv] at this;exact this)
theorem Xu {w:World} {b m m':Nat} {f:Txt->Option Int} (h:Zfi w b m f) (hm:m<=m'):Zfi w b m' f:=by
 obtain ⟨n,D,h1,h2,h3⟩:=h
 exact ⟨n,D,h1,Nat.le_trans h2 hm,h3⟩
structure Zkd (w:World) (E:Nat) (c:CS) (vd vF vL vB:Value) (bm:Nat) (cv:List Value) (lb:List Nat) (m:Nat):Prop where
 own:Zuo w E vd vF (Zfp c.data) c.funcs cv
 fm:Zfi w bm m c.fm
 fmE:E<=bm
 lrow:w.ownsRow E 66 1 vL lb.length (lb.map fun b => .map (some b))
 len1:lb.length=c.lm.length
 each:∀ (i b:Nat) (f:Txt->Option Int),lb[i]? = some b->c.lm[i]? = some f->Zfi w b m f/\E<=b
 dis:∀ (i j b:Nat),lb[i]? = some b->lb[j]? = some b->i=j
 apart:bm ∉ lb
 brow:w.ownsRow E 131 5 vB c.blk.length (blV c.blk)
 z1:c.data.length<=m
 z2:c.funcs.length<=m
 z3:∀ f∈c.funcs,f.2.2.2.length<=m
 z4:c.blk.length<=m
theorem Zbg {w w':World} {base:Nat} {D F:Value} {dl:List Int} {fs:List FnP} {cv:List Value} {r:Option Nat} (h:Zuo w base D F dl fs cv) (g:w.grownBy w' r)
 (hr:∀ t sz v n xs,w.ownsRow base t sz v n xs->(t=5\/t=61\/t=58)->v.ownBlock=none\/v.ownBlock≠r):Zuo w' base D F dl fs cv :=
 ⟨h.dt.kept g (hr _ _ _ _ _ h.dt (Or.inl rfl)),h.fr.kept g (hr _ _ _ _ _ h.fr (Or.inr (Or.inl rfl))),h.cl,fun k f v hf hv=>(h.each k f v hf hv).kept g (hr _ _ _ _ _ (h.each k f v hf hv) (Or.inr (Or.inr rfl))),h.dis⟩
theorem Zib {w w':World} {E:Nat} {c:CS} {vd vF vL vB:Value} {bm:Nat} {cv:List Value} {lb:List Nat} {m:Nat} {r:Option Nat} (h:Zkd w E c vd vF vL vB bm cv lb m) (g:w.grownBy w' r)
 (hr:∀ t sz v n xs,w.ownsRow E t sz v n xs->(t=5\/t=61\/t=58\/t=66\/t=131)->v.ownBlock=none\/v.ownBlock≠r)
 (hm:∀ b f,Zfi w b m f->some b≠r):Zkd w' E c vd vF vL vB bm cv lb m :=
 ⟨Zbg h.own g (fun t sz v n xs ho ht=>hr t sz v n xs ho (by rcases ht with h|h|h <;> simp [h])),Zw h.fm g (hm _ _ h.fm),h.fmE,h.lrow.kept g (hr _ _ _ _ _ h.lrow (by simp)),h.len1,
  fun i b f hb hf=>⟨Zw (h.each i b f hb hf).1 g (hm _ _ (h.each i b f hb hf).1),(h.each i b f hb hf).2⟩,h.dis,h.apart,h.brow.kept g (hr _ _ _ _ _ h.brow (by simp)),h.z1,h.z2,h.z3,h.z4⟩
theorem Zkp {w w':World} {E:Nat} {c:CS} {vd vF vL vB:Value} {bm:Nat} {cv:List Value} {lb:List Nat} {m:Nat} (h:Zkd w E c vd vF vL vB bm cv lb m) (g:w.grownBy w' none):Zkd w' E c vd vF vL vB bm cv lb m :=
 Zib h g (fun t sz v n xs ho _=>Jw ho) (fun b f _=>by simp)
theorem Zdo {w w':World} {E:Nat} {c:CS} {vd vF vL vB:Value} {bm:Nat} {cv:List Value} {lb:List Nat} {m p:Nat} {cs:Array Value} (h:Zkd w E c vd vF vL vB bm cv lb m) (hp:w.heap[p]? = some (.cells cs 70 (0,0))) (g:w.grownBy w' (some p)):Zkd w' E c vd vF vL vB bm cv lb m :=
 Zib h g (fun t sz v n xs ho ht=>Zmt ho hp (by rcases ht with h|h|h|h|h <;> subst h <;> decide)) (fun b f hm e=>by injection e with e;exact Zdq hm hp e)
theorem Ygi {w:World} {E:Nat} {c:CS} {vd vF vL vB:Value} {bm:Nat} {cv:List Value} {lb:List Nat} {m:Nat} (h:Zkd w E c vd vF vL vB bm cv lb m) (n:Int) (b:Bool):Zkd w E { c with mem:=n,ms:=b } vd vF vL vB bm cv lb m :=
 ⟨h.own,h.fm,h.fmE,h.lrow,h.len1,h.each,h.dis,h.apart,h.brow,h.z1,h.z2,h.z3,h.z4⟩
theorem Zko {w:World} {E:Nat} {c:CS} {vd vF vL vB:Value} {bm:Nat} {cv:List Value} {lb:List Nat} {m m':Nat} (h:Zkd w E c vd vF vL vB bm cv lb m) (hm:m<=m'):Zkd w E c vd vF vL vB bm cv lb m' :=
 ⟨h.own,Xu h.fm hm,h.fmE,h.lrow,h.len1,fun i b f hb hf=>⟨Xu (h.each i b f hb hf).1 hm,(h.each i b f hb hf).2⟩,h.dis,h.apart,h.brow,Nat.le_trans h.z1 hm,Nat.le_trans h.z2 hm,fun f hf=>Nat.le_trans (h.z3 f hf) hm,Nat.le_trans h.z4 hm⟩
theorem Ybk {w w':World} {E:Nat} {c:CS} {vd vd' vF vL vB:Value} {bm:Nat} {cv:List Value} {lb:List Nat} {m:Nat} {t:Txt} (h:Zkd w E c vd vF vL vB bm cv lb m) (ho:w'.ownsRow E 5 1 vd' (c.data++t).length ((Zfp (c.data++t)).map (Value.int .u8))) (g:w.grownBy w' vd.ownBlock) :
 Zkd w' E { c with data:=c.data++t } vd' vF vL vB bm cv lb (m+t.length):=by
 have hd:=h.own.dt
 refine Zko (m:=m+t.length) ⟨⟨by rw [Jk];exact ho,h.own.fr.kept g (Zx h.own.fr hd (by decide)),h.own.cl,fun k f v hf hv=>(h.own.each k f v hf hv).kept g (Zx (h.own.each k f v hf hv) hd (by decide)),h.own.dis⟩,
  Xu (Zw h.fm g (Yh h.fm hd)) (by omega),h.fmE,h.lrow.kept g (Zx h.lrow hd (by decide)),h.len1,fun i b f hb hf=>⟨Xu (Zw (h.each i b f hb hf).1 g (Yh (h.each i b f hb hf).1 hd)) (by omega),(h.each i b f hb hf).2⟩,h.dis,h.apart,
  h.brow.kept g (Zx h.brow hd (by decide)),by have:=h.z1;simp;omega,by have:=h.z2;show c.funcs.length<=_;omega,fun f hf=>by have:=h.z3 f hf;omega,by have:=h.z4;show c.blk.length<=_;omega⟩ (Nat.le_refl _)
theorem Ykx {w w':World} {E:Nat} {c:CS} {vd vF vL vB:Value} {bm:Nat} {cv:List Value} {lb:List Nat} {m:Nat} {f:Txt->Option Int} (h:Zkd w E c vd vF vL vB bm cv lb m) (ho:Zfi w' bm (m+1) f) (g:w.grownBy w' (some bm)):Zkd w' E { c with fm:=f } vd vF vL vB bm cv lb (m+1):=by
 have hm:=h.fm
 refine ⟨Zbg h.own g (fun t sz v n xs ho ht=>Zab ho hm),ho,h.fmE,h.lrow.kept g (Zab h.lrow hm),h.len1,fun i b f hb hf=>⟨Xu (Zw (h.each i b f hb hf).1 g (fun e => ?_)) (by omega),(h.each i b f hb hf).2⟩,h.dis,h.apart,
  h.brow.kept g (Zab h.brow hm),by have:=h.z1;show c.data.length<=_;omega,by have:=h.z2;show c.funcs.length<=_;omega,fun f hf=>by have:=h.z3 f hf;omega,by have:=h.z4;show c.blk.length<=_;omega⟩
 injection e with e
 exact h.apart (e ▸ List.mem_of_getElem? hb)
theorem Ykv {w w':World} {E:Nat} {c:CS} {vd vF vL vB:Value} {bm:Nat} {cv:List Value} {lb:List Nat} {m k b:Nat} {f:Txt->Option Int} (h:Zkd w E c vd vF vL vB bm cv lb m) (hb:lb[k]? = some b) (ho:Zfi w' b (m+1) f) (g:w.grownBy w' (some b)) :
 Zkd w' E { c with lm:=c.lm.set k f } vd vF vL vB bm cv lb (m+1):=by
 have hk:k<c.lm.length:=by rw [<- h.len1];exact (List.getElem?_eq_some_iff.1 hb).1
 have hm:=(h.each k b _ hb (List.getElem?_eq_getElem hk)).1
 refine ⟨Zbg h.own g (fun t sz v n xs ho ht=>Zab ho hm),Xu (Zw h.fm g (fun e => ?_)) (by omega),h.fmE,h.lrow.kept g (Zab h.lrow hm),by rw [List.length_set];exact h.len1,fun i b' f' hb' hf' => ?_,h.dis,h.apart,
  h.brow.kept g (Zab h.brow hm),by have:=h.z1;show c.data.length<=_;omega,by have:=h.z2;show c.funcs.length<=_;omega,fun f hf=>by have:=h.z3 f hf;omega,by have:=h.z4;show c.blk.length<=_;omega⟩
 · injection e with e
   exact h.apart (e ▸ List.mem_of_getElem? hb)
 · by_cases e:i=k
   · subst e
     rw [hb] at hb';injection hb' with hb';subst hb'
     rw [List.getElem?_set_self hk] at hf'
     injection hf' with hf';subst hf'
     exact ⟨ho,(h.each _ _ _ hb (List.getElem?_eq_getElem hk)).2⟩
   · rw [List.getElem?_set_ne (Ne.symm e)] at hf'
     obtain ⟨h1,h2⟩:=h.each i b' f' hb' hf'
     refine ⟨Xu (Zw h1 g (fun e2 => ?_)) (by omega),h2⟩
     injection e2 with e2
     subst e2
     exact e (h.dis _ _ _ hb' hb)
theorem Ygk {w w':World} {E:Nat} {c:CS} {vd vF vL vB vB':Value} {bm:Nat} {cv:List Value} {lb:List Nat} {m:Nat} {x:BlP} (h:Zkd w E c vd vF vL vB bm cv lb m) (ho:w'.ownsRow E 131 5 vB' (c.blk.length+1) (blV c.blk++bl5 x)) (g:w.grownBy w' vB.ownBlock) :
 Zkd w' E { c with blk:=c.blk++[x] } vd vF vL vB' bm cv lb (m+1):=by
 have hd:=h.brow
 refine ⟨Zbg h.own g (fun t sz v n xs ho ht=>Zx ho hd (by rcases ht with h|h|h <;> subst h <;> decide)),Xu (Zw h.fm g (Yh h.fm hd)) (by omega),h.fmE,h.lrow.kept g (Zx h.lrow hd (by decide)),h.len1,
  fun i b f hb hf=>⟨Xu (Zw (h.each i b f hb hf).1 g (Yh (h.each i b f hb hf).1 hd)) (by omega),(h.each i b f hb hf).2⟩,h.dis,h.apart,?_,
  by have:=h.z1;show c.data.length<=_;omega,by have:=h.z2;show c.funcs.length<=_;omega,fun f hf=>by have:=h.z3 f hf;omega,by have:=h.z4;simp;omega⟩
 rw [Zzm,List.length_append]
 simpa [blV] using ho
abbrev ShR:=ByteArray × Int × Int × Int
def Xi (T:List ShR) (x:Txt):Option Nat:=T.findIdx? fun r=>r.1.toList == x
def Zgw:Option Nat->Value
 | some i => .tuple #[.int .i64 (i:Int),.bool true]
 | none => .tuple #[.int .i64 0,.bool false]
theorem Ztg {T:List ShR} {x:Txt} (h:∀ (j:Nat) (r:ShR),T[j]? = some r->(r.1.toList == x)=false):Xi T x=none:=by
 unfold Xi
 rw [List.findIdx?_eq_none_iff]
 intro r hr
 obtain ⟨j,hj⟩:=List.getElem?_of_mem hr
 exact h j r hj
theorem Ztf {T:List ShR} {x:Txt} {k:Nat} {r:ShR} (hk:T[k]? = some r) (hx:(r.1.toList == x)=true) (h:∀ (j:Nat) (r:ShR),j<k->T[j]? = some r->(r.1.toList == x)=false):Xi T x=some k:=by
 unfold Xi
 rw [List.findIdx?_eq_some_iff_getElem]
 obtain ⟨hlt,e⟩:=List.getElem?_eq_some_iff.1 hk
 refine ⟨hlt,by rw [e];exact hx,fun j hj => ?_⟩
 have:=h j _ hj (List.getElem?_eq_getElem (Nat.lt_trans hj hlt))
 rw [this];simp
theorem Zxr {T:List ShR} {x:Txt} {k:Nat} {r:ShR} (hk:T[k]? = some r) (hx:(r.1.toList == x)=false) (h:∀ (j:Nat) (r:ShR),j<k->T[j]? = some r->(r.1.toList == x)=false):∀ (j:Nat) (r:ShR),j<k+1->T[j]? = some r->(r.1.toList == x)=false:=by
 intro j q hj hq
 by_cases e:j=k
 · subst e
   rw [hk] at hq;injection hq with hq;subst hq;exact hx
 · exact h j q (by omega) hq
theorem Zqk (T:List ShR) (S:Nat) (hL2:T.length<1000) (x:ByteArray) (w:World) (hS:S<w.heap.size) (hc:∀ (i:Nat) (v:Value),(Zio T)[i]? = some v->w.cell? ⟨S,i,none⟩=some v) :
 Calls Tryz.prog 144 #[.slice (some ⟨S,0,none⟩) T.length T.length,.string x] w fun e w'=>e = .returned (Zgw (Xi T x.toList))/\w.grownBy w' none:=by
 have HC:=Hq hc
 clear hc
 go_enter Tryz.func144,Tryz.ntmps144
 go_wp2
 go_loopw [10] (fun i wr=>∃ k:Nat,i = .int .i64 k/\k<=T.length/\(∀ (j:Nat) (r:ShR),j<k->T[j]? = some r->(r.1.toList == x.toList)=false)/\w.grownBy wr none) (fun i _=>T.length - (intOf i).toNat)
 case atStart=>exact ⟨0,rfl,Nat.zero_le _,fun j r hj=>absurd hj (Nat.not_lt_zero _),Zd _ _⟩
 case round =>
  obtain ⟨k,rfl,hk,hall,hg⟩:=hrel
  have AL:=Hq hall
  have GR:=Hq hg
  clear hall hg
  by_cases hlt:k<T.length
  · obtain ⟨⟨nm,o,t,g⟩,hq⟩:∃ q,T[k]? = some q:=⟨_,List.getElem?_eq_getElem hlt⟩
    obtain ⟨f0,f1,f2,f3⟩:=Zhh T k nm o t g hq
    have c0:=GR.out.cell (HC.out _ _ f0) (by simp)
    have c1:=GR.out.cell (HC.out _ _ f1) (by simp)
    have c2:=GR.out.cell (HC.out _ _ f2) (by simp)
    have c3:=GR.out.cell (HC.out _ _ f3) (by simp)
    have hS2:=Nat.lt_of_lt_of_le hS GR.out.size
    have HQ:=Hq hq
    clear hq f0 f1 f2 f3
    cases he:nm.toList == x.toList with
    | true =>
      have HP:=Hq (Ztf HQ.out he AL.out)
      go_wp2
      go_ret2
      exact ⟨by rw [HP.out];rfl,Za GR.out (Ga _ _ _)⟩
    | false =>
      have AL2:=Hq (Zxr HQ.out he AL.out)
      go_wp2
      exact ⟨⟨k+1,by go_num,by omega,AL2.out,Za GR.out (Ga _ _ _)⟩,by simp [intOf];omega⟩
  · have hkn:k=T.length:=by omega
    subst hkn
    have HP:=Hq (Ztg (fun j r hj=>AL.out j r ((List.getElem?_eq_some_iff.1 hj).1) hj))
    clear hlt
    go_wp2
    go_ret2
    exact ⟨by rw [HP.out];rfl,GR.out⟩
def callT:List ShR:=[(⟨#[111,112,101,110]⟩,0,3,1),(⟨#[114,101,97,100]⟩,0,3,1),(⟨#[119,114,105,116,101]⟩,0,3,1),(⟨#[108,105,115,116]⟩,0,4,1),(⟨#[99,108,111,115,101]⟩,0,1,1)]
theorem Zsd (w:World):Calls Tryz.prog 133 #[] w fun e w'=>∃ S,e = .returned (.slice (some ⟨S,0,none⟩) 5 5)/\w.grownBy w' none/\S<w'.heap.size/\∀ (i:Nat) (v:Value),(Zio callT)[i]? = some v->w'.cell? ⟨S,i,none⟩=some v:=by
 go_enter Tryz.func133,Tryz.ntmps133
 go_wp2_with (refine wpList_buildSliceTo rfl 171 144 5 _ rfl w.heap.size rfl (some 6) rfl Tryz.underlying171 (Zio callT).toArray (by kernel_rfl) ?_)
 go_ret
 exact ⟨_,rfl,Ga _ _ none,by simp,fun i v h=>by rw [World.cell?_alloc_at (hn:=rfl)];rw [List.getElem?_toArray];exact h⟩
theorem Ycd (x:ByteArray) (w:World):Calls Tryz.prog 114 #[.string x] w fun e w'=>e = .returned (Zgw (Xi shapeT x.toList))/\w.grownBy w' none:=by
 have C:=Hq Zhv
 obtain ⟨i,b,hv⟩:∃ i b,Zgw (Xi shapeT x.toList) = .tuple #[.int .i64 i,.bool b]:=by
  cases Xi shapeT x.toList with
  | none=>exact ⟨_,_,rfl⟩
  | some x=>exact ⟨_,_,rfl⟩
 have PL:=Hq (fun S wr hS hc=>Zqk shapeT S (by rw [Zbj];decide) x wr hS hc)
 rw [hv,Zbj] at PL
 rw [hv]
 clear hv
 go_enter Tryz.func114,Tryz.ntmps114
 go_wp2_with (first
  | (go_at_call 85;refine (C.out _).mono ?_;rintro e w1 ⟨S,rfl,hg,hS,hsh⟩;have G1:=Hq hg;have SH:=Hq hsh;clear hg hsh)
  | (go_at_call 144;refine (PL.out _ _ SH.out.1 (fun i v hi=>SH.out.2 i v (by rw [Zmp,List.getElem?_toArray];exact hi))).mono ?_;rintro e w2 ⟨rfl,hg2⟩;have G2:=Hq hg2;clear hg2))
 go_ret2
 exact ⟨rfl,Za G1.out G2.out⟩
theorem Ziy (x:ByteArray) (w:World):Calls Tryz.prog 115 #[.string x] w fun e w'=>e = .returned (Zgw (Xi callT x.toList))/\w.grownBy w' none:=by
 have C:=Hq Zsd
 obtain ⟨i,b,hv⟩:∃ i b,Zgw (Xi callT x.toList) = .tuple #[.int .i64 i,.bool b]:=by
  cases Xi callT x.toList with
  | none=>exact ⟨_,_,rfl⟩
  | some x=>exact ⟨_,_,rfl⟩
 have PL:=Hq (fun S wr hS hc=>Zqk callT S (by decide) x wr hS hc)
 rw [hv] at PL
 rw [show callT.length=5 from rfl] at PL
 rw [hv]
 clear hv
 go_enter Tryz.func115,Tryz.ntmps115
 go_wp2_with (first
  | (go_at_call 133;refine (C.out _).mono ?_;rintro e w1 ⟨S,rfl,hg,hS,hsh⟩;have G1:=Hq hg;have HS:=Hq hS;have SH:=Hq hsh;clear hg hsh hS)
  | (go_at_call 144;refine (PL.out _ _ HS.out SH.out).mono ?_;rintro e w2 ⟨rfl,hg2⟩;have G2:=Hq hg2;clear hg2))
 go_ret2
 exact ⟨rfl,Za G1.out G2.out⟩
theorem Yb {l:Txt} {k:Nat} {c:UInt8} (h:l[k]? = some c):l.drop k=c::l.drop (k+1):=by
 obtain ⟨h1,h2⟩:=List.getElem?_eq_some_iff.1 h
 rw [List.drop_eq_getElem_cons h1,h2]
theorem Zrs {l:Txt} {k:Nat} (h:l.length<=k):l.drop k=[]:=List.drop_eq_nil_of_le h
theorem Ynu {l:Txt} {k:Nat} (h:l.length<=k):unq (l.drop k)=none:=by rw [Zrs h];rfl
theorem Yfd {l:Txt} {k:Nat} {c:UInt8} (h:l[k]? = some c) (hc:c.toNat=34):unq (l.drop k)=some ([],1):=by
 rw [Yb h,unq.eq_def];simp only [];rw [if_pos hc]
theorem Ynw {l:Txt} {k:Nat} {c:UInt8} (h:l[k]? = some c) (hn:c.toNat≠34) (hc:c.toNat<32\/126<c.toNat):unq (l.drop k)=none:=by
 rw [Yb h,unq.eq_def];simp only [];rw [if_neg hn,if_pos hc]
theorem Ynv {l:Txt} {k:Nat} {c:UInt8} (h:l[k]? = some c) (hn:c.toNat≠34) (h1:32<=c.toNat) (h2:c.toNat<=126) (h3:c.toNat≠92):unq (l.drop k)=(unq (l.drop (k+1))).map fun x=>(c::x.1,x.2+1):=by
 rw [Yb h,unq.eq_def];simp only [];rw [if_neg hn,if_neg (by omega),if_pos h3]
theorem Ynr {l:Txt} {k:Nat} {c:UInt8} (h:l[k]? = some c) (hc:c.toNat=92) (h1:l.length<=k+1):unq (l.drop k)=none:=by
 rw [Yb h,Zrs h1,unq.eq_def];simp only [];rw [if_neg (by omega),if_neg (by omega),if_neg (by omega)]
theorem Ynt {l:Txt} {k:Nat} {c d:UInt8} (h:l[k]? = some c) (hc:c.toNat=92) (h1:l[k+1]? = some d) (hd:d.toNat=34\/d.toNat=92):unq (l.drop k)=(unq (l.drop (k+2))).map fun x=>(d::x.1,x.2+2):=by
 rw [Yb h,Yb h1,unq.eq_def];simp only [];rw [if_neg (by omega),if_neg (by omega),if_neg (by omega),if_pos hd]
theorem Ynq {l:Txt} {k:Nat} {c d:UInt8} (h:l[k]? = some c) (hc:c.toNat=92) (h1:l[k+1]? = some d) (hd:d.toNat≠34) (hd2:d.toNat≠92) (hd3:d.toNat≠120):unq (l.drop k)=none:=by
 rw [Yb h,Yb h1,unq.eq_def];simp only [];rw [if_neg (by omega),if_neg (by omega),if_neg (by omega),if_neg (by omega),if_neg hd3]
theorem Ynp {l:Txt} {k:Nat} {c d:UInt8} (h:l[k]? = some c) (hc:c.toNat=92) (h1:l[k+1]? = some d) (hd:d.toNat≠34) (hd2:d.toNat≠92) (h3:l.length<=k+3):unq (l.drop k)=none:=by
 rw [Yb h,Yb h1,unq.eq_def];simp only [];rw [if_neg (by omega),if_neg (by omega),if_neg (by omega),if_neg (by omega)]
 split
 · have hl:(l.drop (k+1+1)).length<=1:=by rw [List.length_drop];omega
   cases hx:l.drop (k+1+1) with
   | nil=>rfl
   | cons x r =>
     cases r with
     | nil=>rfl
     | cons y r=>rw [hx] at hl;simp at hl
 · rfl
theorem Yns {l:Txt} {k a b:Nat} {c d x y:UInt8} (h:l[k]? = some c) (hc:c.toNat=92) (h1:l[k+1]? = some d) (hd:d.toNat=120) (h2:l[k+2]? = some x) (h3:l[k+3]? = some y) (ha:Zje x=some a) (hb:Zje y=some b) :
 unq (l.drop k)=(unq (l.drop (k+4))).map fun z=>(UInt8.ofNat (16*a+b)::z.1,z.2+4):=by
 rw [Yb h,Yb h1,Yb h2,Yb h3,unq.eq_def];simp only [];rw [if_neg (by omega),if_neg (by omega),if_neg (by omega),if_neg (by omega),if_pos hd,ha,hb]
theorem Yno {l:Txt} {k:Nat} {c d x y:UInt8} (h:l[k]? = some c) (hc:c.toNat=92) (h1:l[k+1]? = some d) (hd:d.toNat=120) (h2:l[k+2]? = some x) (h3:l[k+3]? = some y) (hx:Zje x=none\/Zje y=none):unq (l.drop k)=none:=by
 rw [Yb h,Yb h1,Yb h2,Yb h3,unq.eq_def];simp only [];rw [if_neg (by omega),if_neg (by omega),if_neg (by omega),if_neg (by omega),if_pos hd]
 rcases hx with hx|hx
 · rw [hx]
 · rw [hx];cases Zje x <;> rfl
def Ynm (l:Txt) (s k:Nat) (acc:Txt):Prop:=s<=k/\unq (l.drop s)=(unq (l.drop k)).map fun x=>(acc++x.1,x.2+(k - s))
theorem Zxb (l:Txt) (s:Nat):Ynm l s s []:=⟨Nat.le_refl _,by cases unq (l.drop s) <;> simp⟩
theorem Yal {l:Txt} {s k m:Nat} {acc:Txt} {e:UInt8} (h:Ynm l s k acc) (hs:unq (l.drop k)=(unq (l.drop (k+m))).map fun x=>(e::x.1,x.2+m)):Ynm l s (k+m) (acc++[e]):=by
 obtain ⟨h0,h1⟩:=h
 refine ⟨by omega,?_⟩
 rw [h1,hs,Option.map_map]
 congr 1
 funext x
 simp
 omega
theorem Zct {l:Txt} {s k:Nat} {acc:Txt} (h:Ynm l s k acc) (hs:unq (l.drop k)=none):unq (l.drop s)=none:=by rw [h.2,hs];rfl
theorem Zxc {l:Txt} {s k:Nat} {acc:Txt} (h:Ynm l s k acc) (hs:unq (l.drop k)=some ([],1)):unq (l.drop s)=some (acc,k - s+1):=by
 rw [h.2,hs]
 simp
 omega
def Zun (w:World) (r:Option (Txt × Nat)) (e:Ending) (w':World):Prop :=
 e = .returned (match r with|some (b,k) => .tuple #[Yjh 2 (bs b) 0 false,.int .i64 ((k+1:Nat):Int),.bool true]|none => .tuple #[Yjh 0 ⟨#[]⟩ 0 false,.int .i64 0,.bool false])/\w.grownBy w' none
theorem Zac {w w':World} {r:Option (Txt × Nat)} (h:r=none) (g:w.grownBy w' none):Zun w r (.returned (.tuple #[.agg #[.int .i64 0,.string ⟨#[]⟩,.int .i64 0,.bool false],.int .i64 0,.bool false])) w':=by
 rw [h];exact ⟨rfl,g⟩
theorem Zqe {w w':World} {r:Option (Txt × Nat)} {b:Txt} {k:Nat} (h:r=some (b,k)) (g:w.grownBy w' none):Zun w r (.returned (.tuple #[.agg #[.int .i64 2,.string (bs b),.int .i64 0,.bool false],.int .i64 ((k:Int)+1),.bool true])) w':=by
 rw [h];exact ⟨rfl,g⟩
theorem Zbl {fn:Func} {p u v:Tmp} (hf:fn.results = #[.cell p 158,.tmp u,.tmp v]) {tmps:Array Value} {w:World} {b:Nat} {v0 v1 v2 v3 f g:Value}
 (hp:tmps.getD p undef = .pointer (some ⟨b,0,none⟩)) (hu:tmps.getD u undef=f) (hv:tmps.getD v undef=g) (h:Ziw w b v0 v1 v2 v3) :
 (results fn tmps).run Tryz.prog w = .ok (.tuple #[.agg #[v0,v1,v2,v3],f,g]) w:=by
 rw [Zhz hf,hp,hu,hv]
 have:(asAddr (.pointer (some ⟨b,0,none⟩))).run Tryz.prog w = .ok (⟨b,0,none⟩:Addr) w:=rfl
 rw [this]
 simp only [Result.andThen]
 rw [Ybs h]
structure QuR (s:ByteArray) (w wr:World) (v:Value) (k:Nat) (acc:Txt):Prop where
 le:k<=s.size
 at_:Ynm s.data.toList 1 k acc
 buf:Buf wr (w.heap.size+1) v acc
 box:Ziw wr w.heap.size (.int .i64 0) (.string ⟨#[]⟩) (.int .i64 0) (.bool false)
 gr:w.grownBy wr none
 len:acc.length<=k
theorem Zoj {s:ByteArray} {w wr w2:World} {v v2:Value} {k m:Nat} {acc:Txt} {e:UInt8} (h:QuR s w wr v k acc) (hm:1<=m) (hle:k+m<=s.size) (hs:unq (s.data.toList.drop k)=(unq (s.data.toList.drop (k+m))).map fun x=>(e::x.1,x.2+m))
 (ho:w2.ownsRow (w.heap.size+1) 5 1 v2 (acc.length+1) (bvs acc++[.int .u8 (e.toNat:Int)])) (g:wr.grownBy w2 v.ownBlock):QuR s w w2 v2 (k+m) (acc++[e]):=by
 have hn:=Zop h.buf (Nat.lt_succ_self w.heap.size)
 refine ⟨hle,Yal h.at_ hs,?_,Yl h.box g hn,Zfc h.gr g (fun q hq=>by have:=(World.ownsRow.lt h.buf q hq).1;omega),by have:=h.len;simp;omega⟩
 unfold Buf
 rw [Zir,List.length_append,Ymq]
 exact ho
theorem Zok {s:ByteArray} {w wr w2:World} {v:Value} {k:Nat} {acc:Txt} (h:QuR s w wr v k acc) (g:wr.grownBy w2 none):QuR s w w2 v k acc :=
 ⟨h.le,h.at_,Zwq h.buf g,Yl h.box g (by simp),Za h.gr g,h.len⟩
theorem Zyz {x y:UInt8} (h:Zjv [x,y]=false):Zje x=none\/Zje y=none:=by
 unfold Zjv at h
 cases hx:Zje x with
 | none=>exact Or.inl rfl
 | some a =>
   cases hy:Zje y with
   | none=>exact Or.inr rfl
   | some b=>simp [hx,hy] at h
theorem Zyy {x y:UInt8} (h:Zjv [x,y]=true):∃ a b,Zje x=some a/\Zje y=some b:=by
 unfold Zjv at h
 simp at h
 obtain ⟨h1,h2⟩:=h
 obtain ⟨a,ha⟩:=Option.isSome_iff_exists.1 h1
 obtain ⟨b,hb⟩:=Option.isSome_iff_exists.1 h2
 exact ⟨a,b,ha,hb⟩
theorem Ynx {l:Txt} {k:Nat} {x y:UInt8} (h2:l[k+2]? = some x) (h3:l[k+3]? = some y):(l.drop (k+2)).take (k+4 - (k+2))=[x,y]:=by
 rw [show k+4 - (k+2)=2 by omega,Yb h2,Yb h3];rfl
theorem Zxn (s:ByteArray) (hs:s.size<=70000) (h1:1<=s.size) (w:World) (hW:LibW w):Calls Tryz.prog 109 #[.string s] w (Zun w (unq (s.data.toList.drop 1))):=by
 have START:=Hq (Zxb s.data.toList 1)
 obtain ⟨r,hr⟩:∃ r,r=unq (s.data.toList.drop 1):=⟨_,rfl⟩
 rw [<- hr]
 have HR:=Hq hr
 clear hr
 have LW:=Hq hW
 clear hW
 obtain ⟨bi,bi0,bi1,bi2,bi3⟩:=info_parts Jn
 go_enter Tryz.func109,Tryz.ntmps109
 go_wp2
 have BX:=Hq (Ja w (.int .i64 0) (.string ⟨#[]⟩) (.int .i64 0) (.bool false))
 have G0:=Hq (Ga w (.cells #[.int .i64 0,.string ⟨#[]⟩,.int .i64 0,.bool false] 158) none)
 generalize w.alloc (.cells #[.int .i64 0,.string ⟨#[]⟩,.int .i64 0,.bool false] 158)=w1 at *
 go_loopw [5,6] (fun b i wr=>∃ k acc,i = .int .i64 ((k:Nat):Int)/\QuR s w wr b k acc) (fun _ i _=>s.size - (intOf i).toNat)
 case atStart=>exact ⟨1,[],rfl,h1,START.out,Yec _ _,BX.out,G0.out,Nat.zero_le _⟩
 case round =>
  obtain ⟨k,acc,rfl,hq⟩:=hrel
  obtain ⟨p,c,rfl⟩:=Zeo hq.buf
  have hlen:=hq.len
  have hle:=hq.le
  have hbox:=Zon hq.box
  have Q:=Hq hq
  have hc3:acc.length+1<=maxLen:=by unfold maxLen;omega
  have hc4:(acc.length+1)*1<=140737488355328:=by omega
  have hE:∀ o,w.heap.size+1<=(wr.alloc o).heap.size:=fun o=>by simp;omega
  have cells:=Yu hq.box
  obtain ⟨c0,c1,c2,c3,z0,z1,z2,z3⟩:=cells
  have cv:=Zkb hq.buf
  clear hq
  by_cases hlt:k<s.size
  · have hb:=Ziq s k hlt
    have HB:=Hq hb
    clear hb
    by_cases h34:(s[k]'hlt).toNat=34
    · have hk1:=Q.out.at_.1
      have HU:=Hq (show r=some (acc,k) by rw [HR.out,Zxc Q.out.at_ (Yfd HB.out h34),show k - 1+1=k by omega])
      have i34:((s[k]'hlt).toNat:Int)=34:=by omega
      clear h34
      go_wp2
      exact bodyPost_ret (v := .tuple #[.agg #[.int .i64 2,.string (bs acc),.int .i64 0,.bool false],.int .i64 ((k:Int)+1),.bool true]) (Zbl rfl rfl rfl rfl (Xj Q.out.box)) rfl (Zqe HU.out (Yn Q.out.gr (Nat.le_refl _)))
    · have i34:¬ ((s[k]'hlt).toNat:Int)=34:=by omega
      by_cases hbad:(s[k]'hlt).toNat<32\/126<(s[k]'hlt).toNat
      · have HU:=Hq (HR.out.trans <| Zct Q.out.at_ (Ynw HB.out h34 hbad))
        rcases (by omega:((s[k]'hlt).toNat:Int)<32\/(32<=((s[k]'hlt).toNat:Int)/\126<((s[k]'hlt).toNat:Int))) with i1|⟨i1,i2⟩
        all_goals
         clear h34 hbad
         go_wp2
         exact bodyPost_ret (v := .tuple #[.agg #[.int .i64 0,.string ⟨#[]⟩,.int .i64 0,.bool false],.int .i64 0,.bool false]) (Zbl rfl rfl rfl rfl (Xj Q.out.box)) rfl (Zac HU.out (Yn Q.out.gr (Nat.le_refl _)))
      · have i1:32<=((s[k]'hlt).toNat:Int):=by omega
        have i2:((s[k]'hlt).toNat:Int)<=126:=by omega
        by_cases h92:(s[k]'hlt).toNat=92
        · have i92:((s[k]'hlt).toNat:Int)=92:=by omega
          clear i1 i2 i34 h34 hbad
          by_cases hlt1:k+1<s.size
          · have hb1:=Ziq s (k+1) hlt1
            have HB1:=Hq hb1
            clear hb1
            have j1:(k:Int)+1<s.size:=by omega
            by_cases hd:(s[k+1]'hlt1).toNat=34\/(s[k+1]'hlt1).toNat=92
            · have HU:=Hq (Ynt HB.out h92 HB1.out hd)
              rcases (by omega:((s[k+1]'hlt1).toNat:Int)=34\/((s[k+1]'hlt1).toNat:Int)=92) with i3|i3
              all_goals
               clear h92 hd
               (
                 go_wp2_with (first
                  | (at_builtin;refine wpList_append_own_at _ rfl _ _ 23 rfl (w.heap.size+1) 5 bi (.int .u8 0) 1 1 Xk bi0 bi1 bi2 bi3 rfl (by decide) (.slice p acc.length c) _ _ rfl (World.ownsRow.alloc Q.out.buf _) ⟨wr.heap.size,0,none⟩ 1 1 [.int .u8 _] rfl rfl (Zdp wr _ _) (Jq _ _) hc3 hc4 (hE _) ?_;intro v3 w5 hown3 hgr3 hnil3 hat3;obtain ⟨p3,k3,hv3⟩:=Zk hown3;subst hv3;have OW3:=Hq hown3;have GR3:=Hq hgr3;clear hown3 hgr3 hnil3 hat3)))
               exact ⟨⟨k+2,acc++[s[k+1]'hlt1],by go_num,Zoj Q.out (by decide) (by omega) HU.out (by rw [i3];exact OW3.out) (Za (Ga _ _ _) GR3.out)⟩,by simp [intOf];omega⟩
            · have i3:(((s[k+1]'hlt1).toNat:Int) == 34)=false:=beq_eq_false_iff_ne.2 (by omega)
              have i4:(((s[k+1]'hlt1).toNat:Int) == 92)=false:=beq_eq_false_iff_ne.2 (by omega)
              by_cases hlt3:k+3<s.size
              · have j3:(k:Int)+3<s.size:=by omega
                have hlt2:k+2<s.size:=by omega
                have HB2:=Hq (Ziq s (k+2) hlt2)
                have HB3:=Hq (Ziq s (k+3) hlt3)
                by_cases h120:(s[k+1]'hlt1).toNat=120
                · have i5:(((s[k+1]'hlt1).toNat:Int) == 120)=true:=beq_iff_eq.2 (by omega)
                  have hsl:∀ W:World,(Instr.slice 9 (.string s) (some (.int .i64 ((k:Int)+2))) (some (.int .i64 ((k:Int)+4))) none).run Tryz.prog W = .ok (.string (bs [s[k+2]'hlt2,s[k+3]'hlt3])) W:=fun W=>by
                   rw [run_slice_string W _ s .i64 .i64 ((k:Int)+2) ((k:Int)+4) Jf (by omega) (by omega) (by omega),Zbh]
                   rw [show ((k:Int)+2).toNat=k+2 by omega,show ((k:Int)+4).toNat=k+4 by omega,Ynx HB2.out HB3.out]
                  have T:=Hq (Zgj (bs [s[k+2]'hlt2,s[k+3]'hlt3]) hexSet (by rw [Zi];simp) (by decide) (by decide))
                  rw [Xd,show bs hexSet=⟨#[48,49,50,51,52,53,54,55,56,57,97,98,99,100,101,102]⟩ from rfl] at T
                  cases hx:Zjv [s[k+2]'hlt2,s[k+3]'hlt3] with
                  | false =>
                    have HU:=Hq (HR.out.trans <| Zct Q.out.at_ (Yno HB.out h92 HB1.out h120 HB2.out HB3.out (Zyz hx)))
                    have hne:Lib.trimS [s[k+2]'hlt2,s[k+3]'hlt3] hexSet≠[]:=by rw [Ne,Zjq,hx];simp
                    have he:=Zak hne
                    generalize bs (Lib.trimS [s[k+2]'hlt2,s[k+3]'hlt3] hexSet)=x at *
                    generalize bs [s[k+2]'hlt2,s[k+3]'hlt3]=t2 at *
                    clear h92 hd h120 hx hne
                    go_wp2_with (go_at_call 139;refine (T.out _).mono ?_;rintro e w4 ⟨rfl,hg⟩;have Q4:=Hq (Zok Q.out hg);obtain ⟨c0,c1,c2,c3,z0,z1,z2,z3⟩:=Yu Q4.out.box;clear hg)
                    exact bodyPost_ret (v := .tuple #[.agg #[.int .i64 0,.string ⟨#[]⟩,.int .i64 0,.bool false],.int .i64 0,.bool false]) (Zbl rfl rfl rfl rfl (Xj Q4.out.box)) rfl (Zac HU.out (Yn Q4.out.gr (Nat.le_refl _)))
                  | true =>
                    obtain ⟨a,b,ha,hb⟩:=Zyy hx
                    have HU:=Hq (Yns HB.out h92 HB1.out h120 HB2.out HB3.out ha hb)
                    have he:=Zch
                    rw [(Zjq _).2 hx] at T
                    generalize bs []=x at *
                    have hv:Ys 0 [s[k+2]'hlt2,s[k+3]'hlt3]=some (16*a+b):=by simp [Ys,ha,hb]
                    have P:=Hq (pu8 [s[k+2]'hlt2,s[k+3]'hlt3] (by simp) (by simp) _ hv)
                    generalize bs [s[k+2]'hlt2,s[k+3]'hlt3]=t2 at *
                    have ha16:=Zlf ha
                    have hb16:=Zlf hb
                    have hw8:IntKind.u8.wrap ((16*a+b:Nat):Int)=((UInt8.ofNat (16*a+b)).toNat:Int):=by
                     rw [IntKind.wrap_u8,UInt8.toNat_ofNat'];omega
                    generalize UInt8.ofNat (16*a+b)=e8 at *
                    generalize ((16*a+b:Nat):Int)=vi at *
                    clear h92 hd h120 hx hv ha hb ha16 hb16
                    go_wp2_with (first
                     | (go_at_call 139;refine (T.out _).mono ?_;rintro e w4 ⟨rfl,hg⟩;have Q4:=Hq (Zok Q.out hg);clear hg)
                     | (go_at_call 140;refine (P.out _).mono ?_;rintro e w6 ⟨rfl,hg⟩;have Q5:=Hq (Zok Q4.out hg);have hbox6:=Zon Q5.out.box;have hE6:∀ o,w.heap.size+1<=(w6.alloc o).heap.size:=(fun o=>Yy hbox6 o);clear hg)
                     | (at_builtin;refine wpList_append_own_at _ rfl _ _ 23 rfl (w.heap.size+1) 5 bi (.int .u8 0) 1 1 Xk bi0 bi1 bi2 bi3 rfl (by decide) (.slice p acc.length c) _ _ rfl (World.ownsRow.alloc Q5.out.buf _) ⟨w6.heap.size,0,none⟩ 1 1 [.int .u8 _] rfl rfl (Zdp w6 _ _) (Jq _ _) hc3 hc4 (hE6 _) ?_;intro v3 w5 hown3 hgr3 hnil3 hat3;obtain ⟨p3,k3,hv3⟩:=Zk hown3;subst hv3;have OW3:=Hq hown3;have GR3:=Hq hgr3;clear hown3 hgr3 hnil3 hat3))
                    exact ⟨⟨k+4,acc++[e8],by go_num,Zoj Q5.out (by decide) (by omega) HU.out OW3.out (Za (Ga _ _ _) GR3.out)⟩,by simp [intOf];omega⟩
                · have HU:=Hq (HR.out.trans <| Zct Q.out.at_ (Ynq HB.out h92 HB1.out (by omega) (by omega) h120))
                  have i5:(((s[k+1]'hlt1).toNat:Int) == 120)=false:=beq_eq_false_iff_ne.2 (by omega)
                  clear h92 hd h120
                  go_wp2
                  exact bodyPost_ret (v := .tuple #[.agg #[.int .i64 0,.string ⟨#[]⟩,.int .i64 0,.bool false],.int .i64 0,.bool false]) (Zbl rfl rfl rfl rfl (Xj Q.out.box)) rfl (Zac HU.out (Yn Q.out.gr (Nat.le_refl _)))
              · have HU:=Hq (HR.out.trans <| Zct Q.out.at_ (Ynp HB.out h92 HB1.out (by omega) (by omega) (by rw [Ju];omega)))
                have j3:¬ (k:Int)+3<s.size:=by omega
                clear h92 hd
                go_wp2
                exact bodyPost_ret (v := .tuple #[.agg #[.int .i64 0,.string ⟨#[]⟩,.int .i64 0,.bool false],.int .i64 0,.bool false]) (Zbl rfl rfl rfl rfl (Xj Q.out.box)) rfl (Zac HU.out (Yn Q.out.gr (Nat.le_refl _)))
          · have HU:=Hq (HR.out.trans <| Zct Q.out.at_ (Ynr HB.out h92 (by rw [Ju];omega)))
            have j1:¬ (k:Int)+1<s.size:=by omega
            have j3:¬ (k:Int)+3<s.size:=by omega
            clear h92
            go_wp2
            exact bodyPost_ret (v := .tuple #[.agg #[.int .i64 0,.string ⟨#[]⟩,.int .i64 0,.bool false],.int .i64 0,.bool false]) (Zbl rfl rfl rfl rfl (Xj Q.out.box)) rfl (Zac HU.out (Yn Q.out.gr (Nat.le_refl _)))
        · have HU:=Hq (Ynv HB.out h34 (by omega) (by omega) h92)
          have i92:¬ ((s[k]'hlt).toNat:Int)=92:=by omega
          clear h34 hbad h92
          (
            go_wp2_with (first
             | (at_builtin;refine wpList_append_own_at _ rfl _ _ 23 rfl (w.heap.size+1) 5 bi (.int .u8 0) 1 1 Xk bi0 bi1 bi2 bi3 rfl (by decide) (.slice p acc.length c) _ _ rfl (World.ownsRow.alloc Q.out.buf _) ⟨wr.heap.size,0,none⟩ 1 1 [.int .u8 _] rfl rfl (Zdp wr _ _) (Jq _ _) hc3 hc4 (hE _) ?_;intro v3 w5 hown3 hgr3 hnil3 hat3;obtain ⟨p3,k3,hv3⟩:=Zk hown3;subst hv3;have OW3:=Hq hown3;have GR3:=Hq hgr3;clear hown3 hgr3 hnil3 hat3)))
          exact ⟨⟨k+1,acc++[s[k]'hlt],by go_num,Zoj Q.out (Nat.le_refl _) (by omega) HU.out OW3.out (Za (Ga _ _ _) GR3.out)⟩,by simp [intOf];omega⟩
  · have HU:=Hq (HR.out.trans <| Zct Q.out.at_ (Ynu (by rw [Ju];omega)))
    go_wp2
    exact bodyPost_ret (v := .tuple #[.agg #[.int .i64 0,.string ⟨#[]⟩,.int .i64 0,.bool false],.int .i64 0,.bool false]) (Zbl rfl rfl rfl rfl (Xj Q.out.box)) rfl (Zac HU.out (Yn Q.out.gr (Nat.le_refl _)))
def pcK:Pc->Int
 | .word _=>0
 | .num _ _=>1
 | .str _=>2
 | .colon=>3
def pcT:Pc->Txt
 | .word t=>t
 | .str t=>t
 | _=>[]
def pcN:Pc->Int
 | .num n _=>n
 | _=>0
def pcF:Pc->Bool
 | .num _ b => !b
 | _=>false
def Yev (p:Pc) (k:Nat) (e:Ending):Prop:=e = .returned (.tuple #[.agg #[.int .i64 (pcK p),.string (bs (pcT p)),.int .i64 (pcN p),.bool (pcF p)],.int .i64 (k:Int),.bool true])
def Yng (e:Ending):Prop:=∃ k t n f m,e = .returned (.tuple #[.agg #[.int .i64 k,.string t,.int .i64 n,.bool f],.int .i64 m,.bool false])
def Zlv (w:World) (r:Option (Pc × Nat)) (e:Ending) (w':World):Prop :=
 (match r with|some (p,k)=>Yev p k e|none=>Yng e)/\w.grownBy w' none
theorem Yay (l:Txt):Zdj l<=l.length:=by unfold Zdj;exact (List.takeWhile_sublist _).length_le
theorem Zbi (b:UInt8):wrap32 (b.toNat:Int)=(b.toNat:Int):=by
 have:=b.toNat_lt
 unfold wrap32;omega
theorem Zjp (w:World):Ziw (w.alloc (.cells #[.int .i64 0,.string ⟨#[]⟩,.int .i64 0,.bool false] 158)) w.heap.size (.int .i64 0) (.string ⟨#[]⟩) (.int .i64 0) (.bool false):=Ja w _ _ _ _
theorem Ygx (s:ByteArray) (h0:0<s.size) (hc:Zoz (s[0]'h0)=true) (w:World):Calls Tryz.prog 75 #[.string s] w (Zlv w (some (.word (s.data.toList.take (Zdj s.data.toList)),Zdj s.data.toList))):=by
 have R:=Hq (Yav s)
 have hle:=Yay s.data.toList
 rw [Ju] at hle
 have hsl:∀ W:World,(Instr.slice 9 (.string s) none (some (.int .i64 ((Zdj s.data.toList:Nat):Int))) none).run Tryz.prog W = .ok (.string (bs (s.data.toList.take (Zdj s.data.toList)))) W:=fun W=>by
  rw [run_slice_string_h (ht:=Jf) (h0:=by omega) (h2:=by omega),Zbh]
  simp
 have hw32:=Zbi (s[0]'h0)
 have L:=Hq (show Zjc ((s[0]'h0).toNat:Int)=true from hc)
 generalize s.data.toList.take (Zdj s.data.toList)=t at *
 generalize Zdj s.data.toList=n at *
 clear hc
 go_enter Tryz.func75,Tryz.ntmps75
 go_wp2_with (first
  | (go_at_call 107;refine (Jj _ _).mono ?_;rintro e w' ⟨rfl,rfl⟩;rw [L.out])
  | (go_at_call 108;refine (R.out _).mono ?_;rintro e w2 ⟨rfl,hg⟩;have G:=Hq hg;have B:=Hq (Yl (Zjp w) hg (by simp));obtain ⟨c0,c1,c2,c3,z0,z1,z2,z3⟩:=Yu B.out;clear hg))
 exact bodyPost_ret (v := .tuple #[.agg #[.int .i64 0,.string (bs t),.int .i64 0,.bool false],.int .i64 (n:Int),.bool true]) (Zbl rfl rfl rfl rfl (Xj B.out)) rfl ⟨rfl,Yn (Za (Ga _ _ _) G.out) (Nat.le_refl _)⟩
theorem Ylm (s:ByteArray) (hs:s.size<=70000) (h0:0<s.size) (hc:Zoz (s[0]'h0)=false) (h34:(s[0]'h0).toNat=34) (w:World) (hW:LibW w):Calls Tryz.prog 75 #[.string s] w (Zlv w ((unq (s.data.toList.drop 1)).map fun x=>(.str x.1,x.2+1))):=by
 have Q:=Hq (Zxn s hs h0)
 have LW:=Hq hW
 have hw32:=Zbi (s[0]'h0)
 have L:=Hq (show Zjc ((s[0]'h0).toNat:Int)=false from hc)
 have i34:(((s[0]'h0).toNat:Int) == 34)=true:=beq_iff_eq.2 (by omega)
 obtain ⟨r,hr⟩:∃ r,r=unq (s.data.toList.drop 1):=⟨_,rfl⟩
 rw [<- hr] at Q ⊢
 clear hr hc h34 hW
 have HQ:=Hq (show ∀ W,LibW W->Calls Tryz.prog 109 #[.string s] W fun e w'=>∃ k t n f m ok,e = .returned (.tuple #[.agg #[.int .i64 k,.string t,.int .i64 n,.bool f],.int .i64 m,.bool ok])/\W.grownBy w' none/\(match r.map fun x=>((.str x.1,x.2+1):Pc × Nat) with|some (p,k)=>Yev p k e|none=>Yng e) from fun W hw=>by
  refine (Q.out W hw).mono ?_
  rintro e w' ⟨rfl,hg⟩
  cases r with
  | none=>exact ⟨_,_,_,_,_,_,rfl,hg,_,_,_,_,_,rfl⟩
  | some x=>exact ⟨_,_,_,_,_,_,rfl,hg,rfl⟩)
 clear Q
 generalize (r.map fun x=>((.str x.1,x.2+1):Pc × Nat))=r2 at *
 go_enter Tryz.func75,Tryz.ntmps75
 go_wp2_with (first
  | (go_at_call 107;refine (Jj _ _).mono ?_;rintro e w' ⟨rfl,rfl⟩;rw [L.out])
  | (go_at_call 109;refine (HQ.out _ (Zs LW.out (Ga _ _ _))).mono ?_;rintro e w2 ⟨k,t,n,f,m,ok,rfl,hg,hp⟩;have G:=Hq hg;have HP:=Hq hp;have B:=Hq (Yl (Zjp w) hg (by simp));obtain ⟨c0,c1,c2,c3,z0,z1,z2,z3⟩:=Yu B.out;clear hg hp))
 exact bodyPost_ret (v := .tuple #[.agg #[.int .i64 k,.string t,.int .i64 n,.bool f],.int .i64 m,.bool ok]) (Zbl rfl rfl rfl rfl (Xj B.out)) rfl ⟨HP.out,Yn (Za (Ga _ _ _) G.out) (Nat.le_refl _)⟩
theorem Ylo (s:ByteArray) (hs:s.size<=70000) (h0:0<s.size) (hc:Zoz (s[0]'h0)=false) (h34:(s[0]'h0).toNat≠34) (hd:(s[0]'h0).toNat=45\/Zea (s[0]'h0)=true) (w:World) (hW:LibW w) :
 Calls Tryz.prog 75 #[.string s] w (Zlv w ((Zzw (s.data.toList.take (1+Zdj (s.data.toList.drop 1)))).map fun x=>(.num x.1 x.2,1+Zdj (s.data.toList.drop 1)))):=by
 have R:=Hq (Yav (bs (s.data.toList.drop 1)))
 rw [Xd] at R
 have hle:=Yay (s.data.toList.drop 1)
 rw [List.length_drop,Ju] at hle
 have hs1:∀ W:World,(Instr.slice 9 (.string s) (some (.int .i64 1)) none none).run Tryz.prog W = .ok (.string (bs (s.data.toList.drop 1))) W:=fun W=>by
  rw [run_slice_string_l (ht:=Jf) (h0:=by omega) (h1:=by omega),Zbh]
  rw [List.take_of_length_le (by rw [List.length_drop,Ju];exact Nat.le_refl _)];rfl
 have hs2:∀ W:World,(Instr.slice 9 (.string s) none (some (.int .i64 ((1:Int)+(Zdj (s.data.toList.drop 1):Nat)))) none).run Tryz.prog W = .ok (.string (bs (s.data.toList.take (1+Zdj (s.data.toList.drop 1))))) W:=fun W=>by
  rw [run_slice_string_h (ht:=Jf) (h0:=by omega) (h2:=by omega),Zbh]
  rw [show ((1:Int)+(Zdj (s.data.toList.drop 1):Nat)).toNat=1+Zdj (s.data.toList.drop 1) by omega];simp
 have N:=Hq (Zya (bs (s.data.toList.take (1+Zdj (s.data.toList.drop 1)))) (by rw [Zi,List.length_take,Ju];omega))
 rw [Xd] at N
 have LW:=Hq hW
 have hw32:=Zbi (s[0]'h0)
 have L:=Hq (show Zjc ((s[0]'h0).toNat:Int)=false from hc)
 have i34:(((s[0]'h0).toNat:Int) == 34)=false:=beq_eq_false_iff_ne.2 (by omega)
 have HN:=Hq (show ∀ W,LibW W->Calls Tryz.prog 111 #[.string (bs (s.data.toList.take (1+Zdj (s.data.toList.drop 1))))] W fun e w'=>∃ k t n f ok,e = .returned (.tuple #[.agg #[.int .i64 k,.string t,.int .i64 n,.bool f],.bool ok])/\W.grownBy w' none/\(match (Zzw (s.data.toList.take (1+Zdj (s.data.toList.drop 1)))).map fun x=>((.num x.1 x.2,1+Zdj (s.data.toList.drop 1)):Pc × Nat) with|some (p,m)=>Yev p m (.returned (.tuple #[.agg #[.int .i64 k,.string t,.int .i64 n,.bool f],.int .i64 ((1:Int)+(Zdj (s.data.toList.drop 1):Nat)),.bool ok]))|none=>Yng (.returned (.tuple #[.agg #[.int .i64 k,.string t,.int .i64 n,.bool f],.int .i64 ((1:Int)+(Zdj (s.data.toList.drop 1):Nat)),.bool ok]))) from fun W hw=>by
  refine (N.out W hw).mono ?_
  rintro e w' ⟨rfl,hg⟩
  cases hx:Zzw (s.data.toList.take (1+Zdj (s.data.toList.drop 1))) with
  | none=>exact ⟨_,_,_,_,_,rfl,hg,_,_,_,_,_,rfl⟩
  | some x =>
    refine ⟨_,_,_,_,_,rfl,hg,?_⟩
    show Yev _ _ _
    unfold Yev
    simp only [Int.natCast_add]
    rfl)
 clear N
 generalize ((Zzw (s.data.toList.take (1+Zdj (s.data.toList.drop 1)))).map fun x=>((.num x.1 x.2,1+Zdj (s.data.toList.drop 1)):Pc × Nat))=r2 at *
 generalize bs (s.data.toList.take (1+Zdj (s.data.toList.drop 1)))=t2 at *
 generalize bs (s.data.toList.drop 1)=t1 at *
 generalize Zdj (s.data.toList.drop 1)=n1 at *
 have hn1:(n1:Int)<=70000:=by omega
 clear hle hc h34 hW
 have D:(((s[0]'h0).toNat:Int) == 45)=true\/((((s[0]'h0).toNat:Int) == 45)=false/\Zmg ((s[0]'h0).toNat:Int)=true):=by
  rcases hd with hd|hd
  · exact Or.inl (beq_iff_eq.2 (by omega))
  · by_cases h:((s[0]'h0).toNat:Int)=45
    · exact Or.inl (beq_iff_eq.2 h)
    · exact Or.inr ⟨beq_eq_false_iff_ne.2 h,hd⟩
 clear hd
 rcases D with i45|⟨i45,id⟩
 all_goals
  go_enter Tryz.func75,Tryz.ntmps75
  go_upto_region 10 with (first
   | (go_at_call 107;refine (Jj _ _).mono ?_;rintro e w' ⟨rfl,rfl⟩;rw [L.out])
   | (go_at_call 110;refine (Zdr _ _).mono ?_;rintro e w' ⟨rfl,rfl⟩;rw [id])
   | (go_at_call 108;refine (R.out _).mono ?_;rintro e w2 ⟨rfl,hg⟩;have G:=Hq hg;have B:=Hq (Yl (Zjp w) hg (by simp));clear hg)
   | (go_at_call 111;refine (HN.out _ (Zs LW.out (Za (Ga _ _ _) G.out))).mono ?_;rintro e w3 ⟨k,t,n,f,ok,rfl,hg,hp⟩;have G3:=Hq (Za (Za (Ga _ _ _) G.out) hg);have HP:=Hq hp;have B3:=Hq (Yl B.out hg (by simp));clear hg hp))
  have G4:=Hq (Za G3.out (Ga w3 (.cells #[.int .i64 k,.string t,.int .i64 n,.bool f] 158) none))
  have B4:=Hq (Yl B3.out (Ga w3 (.cells #[.int .i64 k,.string t,.int .i64 n,.bool f] 158) none) (by simp))
  have B5:=Hq (Ja w3 (.int .i64 k) (.string t) (.int .i64 n) (.bool f))
  generalize w3.alloc (.cells #[.int .i64 k,.string t,.int .i64 n,.bool f] 158)=w4 at *
  generalize w3.heap.size=b3 at *
  obtain ⟨c0,c1,c2,c3,z0,z1,z2,z3⟩:=Yu B4.out
  obtain ⟨d0,d1,d2,d3,y0,y1,y2,y3⟩:=Yu B5.out
  go_wp2
  exact bodyPost_ret (v := .tuple #[.agg #[.int .i64 k,.string t,.int .i64 n,.bool f],.int .i64 ((1:Int)+(n1:Int)),.bool ok]) (Zbl rfl rfl rfl rfl (Xj B4.out)) rfl ⟨HP.out,Yn G4.out (Nat.le_refl _)⟩
theorem Yol (s:ByteArray) (h0:0<s.size) (hc:Zoz (s[0]'h0)=false) (h34:(s[0]'h0).toNat≠34) (h45:(s[0]'h0).toNat≠45) (hd:Zea (s[0]'h0)=false) (w:World):Calls Tryz.prog 75 #[.string s] w (Zlv w none):=by
 have hw32:=Zbi (s[0]'h0)
 have L:=Hq (show Zjc ((s[0]'h0).toNat:Int)=false from hc)
 have D:=Hq (show Zmg ((s[0]'h0).toNat:Int)=false from hd)
 have i34:(((s[0]'h0).toNat:Int) == 34)=false:=beq_eq_false_iff_ne.2 (by omega)
 have i45:(((s[0]'h0).toNat:Int) == 45)=false:=beq_eq_false_iff_ne.2 (by omega)
 clear hc h34 h45 hd
 go_enter Tryz.func75,Tryz.ntmps75
 go_wp2_with (first
  | (go_at_call 107;refine (Jj _ _).mono ?_;rintro e w' ⟨rfl,rfl⟩;rw [L.out])
  | (go_at_call 110;refine (Zdr _ _).mono ?_;rintro e w' ⟨rfl,rfl⟩;rw [D.out]))
 exact bodyPost_ret (v := .tuple #[.agg #[.int .i64 0,.string ⟨#[]⟩,.int .i64 0,.bool false],.int .i64 0,.bool false]) (Zbl rfl rfl rfl rfl (Zjp w)) rfl ⟨⟨_,_,_,_,_,rfl⟩,Ga _ _ _⟩
theorem Zqu (s:ByteArray) (h0:0<s.size):s.data.toList=(s[0]'h0)::s.data.toList.drop 1:=by
 have:=Yb (Ziq s 0 h0)
 simpa using this
theorem Ztl (s:ByteArray) (hs:s.size<=70000) (h0:0<s.size) (w:World) (hW:LibW w):Calls Tryz.prog 75 #[.string s] w (Zlv w (Zso s.data.toList)):=by
 have hl:=Zqu s h0
 have W1:=Ygx s h0
 have W2:=fun h1 h2=>Ylm s hs h0 h1 h2 w hW
 have W3:=fun h1 h2 h3=>Ylo s hs h0 h1 h2 h3 w hW
 have W4:=fun h1 h2 h3 h4=>Yol s h0 h1 h2 h3 h4 w
 have e:Zso s.data.toList=Zso ((s[0]'h0)::s.data.toList.drop 1):=congrArg Zso hl
 rw [e,Zso,<- hl]
 cases hc:Zoz (s[0]'h0) with
 | true=>simp only [if_true];exact W1 hc w
 | false =>
   simp only [Bool.false_eq_true,if_false]
   by_cases h34:(s[0]'h0).toNat=34
   · rw [if_pos h34];exact W2 hc h34
   · rw [if_neg h34]
     by_cases hd:(s[0]'h0).toNat=45\/Zea (s[0]'h0)=true
     · rw [if_pos hd];exact W3 hc h34 hd
     · rw [if_neg hd];exact W4 hc h34 (fun h=>hd (Or.inl h)) (by cases h:Zea (s[0]'h0) with|false=>rfl|true=>exact absurd (Or.inr h) hd)
theorem Zpq:∀ (n:Nat) (l:Txt) (b:Txt) (k:Nat),l.length<=n->unq l=some (b,k)->1<=k/\k<=l.length:=by
 intro n
 induction n with
 | zero =>
   intro l b k hl h
   have:l=[]:=List.eq_nil_of_length_eq_zero (by omega)
   subst this;cases h
 | succ n ih =>
   intro l b k hl h
   cases l with
   | nil=>cases h
   | cons c r =>
     rw [unq.eq_def] at h
     simp only [] at h
     simp only [List.length_cons] at hl ⊢
     split at h
     · injection h with h;injection h with h1 h2;omega
     · split at h
       · cases h
       · split at h
         · obtain ⟨x,hx,h⟩:=Option.map_eq_some_iff.1 h
           have:=ih r x.1 x.2 (by omega) hx
           injection h with h1 h2;omega
         · split at h
           · cases h
           · rename_i d r2
             simp only [List.length_cons] at hl ⊢
             split at h
             · obtain ⟨x,hx,h⟩:=Option.map_eq_some_iff.1 h
               have:=ih r2 x.1 x.2 (by omega) hx
               injection h with h1 h2;omega
             · split at h
               · split at h
                 · rename_i x y r3
                   simp only [List.length_cons] at hl ⊢
                   split at h
                   · obtain ⟨z,hz,h⟩:=Option.map_eq_some_iff.1 h
                     have:=ih r3 z.1 z.2 (by omega) hz
                     injection h with h1 h2;omega
                   · cases h
                 · cases h
               · cases h
theorem Zuz (l:Txt):Zdj l<=l.length:=by unfold Zdj;exact (List.takeWhile_sublist _).length_le
theorem Yjk {b:UInt8} (h:Zoz b=true):tlB b=true:=by
 unfold tlB tlI
 have:Zjc (b.toNat:Int)=true:=h
 rw [this];rfl
theorem Zfb {l:Txt} {p:Pc} {k:Nat} (h:Zso l=some (p,k)):1<=k/\k<=l.length:=by
 cases l with
 | nil=>cases h
 | cons c r =>
   rw [Zso] at h
   split at h
   · rename_i hc
     injection h with h;injection h with h1 h2
     have h3:=Zuz (c::r)
     have h4:1<=Zdj (c::r):=by unfold Zdj;rw [List.takeWhile_cons,if_pos (Yjk hc)];simp
     omega
   · split at h
     · obtain ⟨x,hx,h⟩:=Option.map_eq_some_iff.1 h
       have:=Zpq r.length r x.1 x.2 (Nat.le_refl _) hx
       injection h with h1 h2
       simp only [List.length_cons];omega
     · split at h
       · obtain ⟨x,hx,h⟩:=Option.map_eq_some_iff.1 h
         injection h with h1 h2
         have:=Zuz r
         simp only [List.length_cons];omega
       · cases h
def Zzp (l0:Txt) (f:Nat) (ap:Bool) (l:Txt) (acc:List Pc):Prop:=l.length<f/\Zsn l0=(Zmb f ap l).map (acc++·)
theorem Zxu (l:Txt):Zzp l (l.length+1) true l []:=⟨Nat.lt_succ_self _,by unfold Zsn;cases Zmb (l.length+1) true l <;> simp⟩
theorem Ygr {l0:Txt} {f:Nat} {ap:Bool} {l:Txt} {acc:List Pc} (h:Zzp l0 f ap l acc) (he:l=[]):Zsn l0=some acc:=by
 subst he
 obtain ⟨h0,h1⟩:=h
 obtain ⟨g,rfl⟩:∃ g,f=g+1:=⟨f - 1,by omega⟩
 rw [h1,Zmb];simp
theorem Ybt {l0:Txt} {f:Nat} {ap:Bool} {c:UInt8} {r:Txt} {acc:List Pc} (h:Zzp l0 f ap (c::r) acc) (hc:c.toNat=59):Zsn l0=some acc:=by
 obtain ⟨h0,h1⟩:=h
 obtain ⟨g,rfl⟩:∃ g,f=g+1:=⟨f - 1,by omega⟩
 rw [h1,Zmb,if_pos hc];simp
theorem Zxx {l0:Txt} {f:Nat} {ap:Bool} {c:UInt8} {r:Txt} {acc:List Pc} (h:Zzp l0 f ap (c::r) acc) (hc:c.toNat=32\/c.toNat=9\/c.toNat=13):∃ g,Zzp l0 g true r acc:=by
 obtain ⟨h0,h1⟩:=h
 obtain ⟨g,rfl⟩:∃ g,f=g+1:=⟨f - 1,by omega⟩
 refine ⟨g,by simp at h0;omega,?_⟩
 rw [h1,Zmb,if_neg (by omega),if_pos hc]
theorem Zxw {l0:Txt} {f:Nat} {ap:Bool} {c:UInt8} {r:Txt} {acc:List Pc} (h:Zzp l0 f ap (c::r) acc) (hc:c.toNat=58):∃ g,Zzp l0 g true r (acc++[.colon]):=by
 obtain ⟨h0,h1⟩:=h
 obtain ⟨g,rfl⟩:∃ g,f=g+1:=⟨f - 1,by omega⟩
 refine ⟨g,by simp at h0;omega,?_⟩
 rw [h1,Zmb,if_neg (by omega),if_neg (by omega),if_pos hc,Option.map_map]
 congr 1
 funext x
 simp
def Zly (c:UInt8):Prop:=c.toNat≠59/\c.toNat≠32/\c.toNat≠9/\c.toNat≠13/\c.toNat≠58
theorem Zxv {l0:Txt} {f:Nat} {c:UInt8} {r:Txt} {acc:List Pc} (h:Zzp l0 f false (c::r) acc) (hc:Zly c):Zsn l0=none:=by
 obtain ⟨h0,h1⟩:=h
 obtain ⟨c1,c2,c3,c4,c5⟩:=hc
 obtain ⟨g,rfl⟩:∃ g,f=g+1:=⟨f - 1,by omega⟩
 rw [h1,Zmb,if_neg c1,if_neg (by omega),if_neg c5,if_pos rfl];rfl
theorem Ylf {l0:Txt} {f:Nat} {ap:Bool} {c:UInt8} {r:Txt} {acc:List Pc} (h:Zzp l0 f ap (c::r) acc) (hc:Zly c) (ho:Zso (c::r)=none):Zsn l0=none:=by
 obtain ⟨h0,h1⟩:=h
 obtain ⟨c1,c2,c3,c4,c5⟩:=hc
 obtain ⟨g,rfl⟩:∃ g,f=g+1:=⟨f - 1,by omega⟩
 rw [h1,Zmb,if_neg c1,if_neg (by omega),if_neg c5,ho]
 split <;> rfl
theorem Ygq {l0:Txt} {f:Nat} {c:UInt8} {r:Txt} {acc:List Pc} {p:Pc} {k:Nat} (h:Zzp l0 f true (c::r) acc) (hc:Zly c) (ho:Zso (c::r)=some (p,k)):∃ g,Zzp l0 g false ((c::r).drop k) (acc++[p]):=by
 obtain ⟨h0,h1⟩:=h
 obtain ⟨c1,c2,c3,c4,c5⟩:=hc
 obtain ⟨g,rfl⟩:∃ g,f=g+1:=⟨f - 1,by omega⟩
 have hb:=Zfb ho
 refine ⟨g,by rw [List.length_drop];omega,?_⟩
 rw [h1,Zmb,if_neg c1,if_neg (by omega),if_neg c5,if_neg (by decide),ho]
 simp only [Option.map_map]
 congr 1
 funext x
 simp
end Go.Proofs.YteciblfmgdlipaaGreatDoor.AS
