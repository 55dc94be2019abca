/-
  Part of a proof: contracts of functions and lemmas, each stated by its own theorem. Conditions: as each theorem states.
-/
import Derived.Test.YteciblfmgdlipaaGreatDoorMB13
import Derived.Test.YteciblfmgdlipaaGreatDoorMB11
import Derived.Test.YteciblfmgdlipaaGreatDoorMB04
import Derived.Test.YteciblfmgdlipaaGreatDoorMB10
set_option linter.unusedSimpArgs false
set_option linter.unusedVariables false
set_option maxRecDepth 100000
set_option maxHeartbeats 16000000
namespace Go.Proofs.YteciblfmgdlipaaGreatDoor.AS
open Go.RowKit Go.Great CK
theorem Yll {nm:Txt} {P:PrP} {s:St} {w:Zge} (h:Zly nm P P.2.2.length s) (hw:Ypb nm P.2.2 w):∃ n F X,Zrl s w=some n/\P.2.2[w.fn]? = some F/\F.2.2.2[w.pl]? = some X/\X.2=(n:Int):=by
 obtain ⟨F,X,hF,hX,h0,hw⟩:=hw
 obtain ⟨a,ha⟩:∃ a:Nat,X.2=a:=⟨X.2.toNat,by omega⟩
 refine ⟨a,F,X,?_,hF,hX,ha⟩
 rcases hw with ⟨j1,j2,j3,j4⟩|⟨j1,j2,j3,j4⟩
 · unfold Zrl
   rw [if_pos j1,h.labels]
   have hL:(Zzc nm P P.2.2.length).getD w.fn []=Zbx nm F.2.2.2 (F.2.2.2.length+1):=by
    unfold Zzc
    rw [List.take_length,List.getD_eq_getElem?_getD,List.getElem?_map,hF];rfl
   rw [hL,j4,ha,Int.toNat_natCast,Zlb (by omega) (Ydc (List.mem_of_getElem? hX) j2 ha)]
   rfl
 · unfold Zrl
   rw [if_neg (by rw [j1];decide),h.names,j4,ha,Int.toNat_natCast,List.findIdx?_eq_some_iff_getElem]
   refine ⟨by rw [List.length_map,List.length_range];omega,by simp,fun j hj => ?_⟩
   simp only [List.getElem_map,List.getElem_range,beq_iff_eq]
   intro he
   exact absurd (Yde he) (by omega)
structure ApF (ws:List Zge) (fs Fs:List FnR):Prop where
 len:fs.length=Fs.length
 at_:∀ i f F,fs[i]? = some f->Fs[i]? = some F->f.1=F.1/\f.2.1=F.2.1/\f.2.2.1=F.2.2.1/\f.2.2.2.length=F.2.2.2.length /\
  ∀ p x X,f.2.2.2[p]? = some x->F.2.2.2[p]? = some X->x.1=X.1/\(x.2=X.2\/∃ w∈ws,w.fn=i/\w.pl=p)
theorem Ymb {fs Fs:List FnR} (h:ApF [] fs Fs):fs=Fs:=by
 refine List.ext_getElem? fun i => ?_
 cases hf:fs[i]? with
 | none=>rw [List.getElem?_eq_none_iff] at hf;rw [List.getElem?_eq_none (by have:=h.len;omega)]
 | some f =>
   have hi:=(List.getElem?_eq_some_iff.1 hf).1
   obtain ⟨F,hF⟩:∃ F,Fs[i]? = some F:=⟨_,List.getElem?_eq_getElem (by have:=h.len;omega)⟩
   rw [hF]
   obtain ⟨a1,a2,a3,a4,a5⟩:=h.at_ i f _ hf hF
   obtain ⟨f1,f2,f3,f4⟩:=f
   obtain ⟨F1,F2,F3,F4⟩:=F
   simp only at a1 a2 a3 a4 a5
   subst a1 a2 a3
   have:f4=F4:=by
    refine List.ext_getElem? fun p => ?_
    cases hx:f4[p]? with
    | none=>rw [List.getElem?_eq_none_iff] at hx;rw [List.getElem?_eq_none (by omega)]
    | some x =>
      have hp:=(List.getElem?_eq_some_iff.1 hx).1
      obtain ⟨X,hX⟩:∃ X,F4[p]? = some X:=⟨_,List.getElem?_eq_getElem (by omega)⟩
      rw [hX]
      obtain ⟨b1,b2⟩:=a5 p x _ hx hX
      rcases b2 with b2|⟨w,hw,_⟩
      · rw [<- Prod.ext b1 b2]
      · exact absurd hw (List.not_mem_nil)
   rw [this]
theorem Yma {w:Zge} {ws:List Zge} {fs Fs:List FnR} {F:FnR} {X:Int × Int} {n:Nat} (h:ApF (w::ws) fs Fs) (hF:Fs[w.fn]? = some F) (hX:F.2.2.2[w.pl]? = some X) (hn:X.2=(n:Int)):ApF ws (Zoc fs w.fn w.pl n) Fs:=by
 have hFl:=(List.getElem?_eq_some_iff.1 hF).1
 have hl:=h.len
 obtain ⟨f,hf⟩:∃ f,fs[w.fn]? = some f:=⟨_,List.getElem?_eq_getElem (by omega)⟩
 obtain ⟨a1,a2,a3,a4,a5⟩:=h.at_ _ _ _ hf hF
 have hXl:=(List.getElem?_eq_some_iff.1 hX).1
 obtain ⟨x0,hx⟩:∃ x,f.2.2.2[w.pl]? = some x:=⟨_,List.getElem?_eq_getElem (by omega)⟩
 have hs:Zoc fs w.fn w.pl n=fs.set w.fn (f.1,f.2.1,f.2.2.1,f.2.2.2.set w.pl (x0.1,(n:Int))):=by
  unfold Zoc
  rw [hf]
  simp only [hx]
 obtain ⟨x1,x2⟩:=a5 _ _ _ hx hX
 rw [hs]
 refine ⟨by rw [List.length_set];exact hl,fun i g G hg hG => ?_⟩
 rw [List.getElem?_set] at hg
 by_cases hi:w.fn=i
 · rw [if_pos hi,if_pos (by omega)] at hg
   injection hg with hg
   subst hi
   rw [hF] at hG
   injection hG with hG
   subst hG
   subst hg
   refine ⟨a1,a2,a3,by show (f.2.2.2.set _ _).length=_;rw [List.length_set];exact a4,fun p y Y hy hY => ?_⟩
   replace hy:(f.2.2.2.set w.pl (x0.1,(n:Int)))[p]? = some y:=hy
   rw [List.getElem?_set] at hy
   by_cases hp:w.pl=p
   · rw [if_pos hp,if_pos (by omega)] at hy
     injection hy with hy
     subst hp
     rw [hX] at hY
     injection hY with hY
     subst hY
     subst hy
     exact ⟨x1,Or.inl hn.symm⟩
   · rw [if_neg hp] at hy
     obtain ⟨b1,b2⟩:=a5 p y Y hy hY
     refine ⟨b1,?_⟩
     rcases b2 with b2|⟨v,hv,v1,v2⟩
     · exact Or.inl b2
     · rcases List.mem_cons.1 hv with rfl|hv
       · exact absurd v2 hp
       · exact Or.inr ⟨v,hv,v1,v2⟩
 · rw [if_neg hi] at hg
   obtain ⟨c1,c2,c3,c4,c5⟩:=h.at_ i g G hg hG
   refine ⟨c1,c2,c3,c4,fun p y Y hy hY => ?_⟩
   obtain ⟨b1,b2⟩:=c5 p y Y hy hY
   refine ⟨b1,?_⟩
   rcases b2 with b2|⟨v,hv,v1,v2⟩
   · exact Or.inl b2
   · rcases List.mem_cons.1 hv with rfl|hv
     · exact absurd v1 hi
     · exact Or.inr ⟨v,hv,v1,v2⟩
theorem Ydj {nm:Txt} {P:PrP} {s:St} (h:Zly nm P P.2.2.length s):∀ (ws:List Zge) (fs:List FnR),(∀ w∈ws,Ypb nm P.2.2 w)->ApF ws fs P.2.2->Zlo s fs ws = .ok P.2.2
 | [],fs,_,ha=>by rw [Zlo,Ymb ha]
 | w::r,fs,hw,ha=>by
   obtain ⟨n,F,X,h1,h2,h3,h4⟩:=Yll h (hw w (List.mem_cons_self ..))
   rw [Zlo,h1]
   exact Ydj h r _ (fun v hv=>hw v (List.mem_cons_of_mem _ hv)) (Yma ha h2 h3 h4)
theorem Ylz {nm:Txt} {P:PrP} {s:St} (h:Zly nm P P.2.2.length s):ApF s.wants s.funcs P.2.2:=by
 rw [h.funcs]
 unfold Zzd
 rw [List.take_length]
 refine ⟨by rw [List.length_map],fun i f F hf hF => ?_⟩
 rw [List.getElem?_map,hF] at hf
 injection hf with hf
 subst hf
 refine ⟨rfl,rfl,rfl,by show (F.2.2.2.map _).length=_;rw [List.length_map],fun p x X hx hX => ?_⟩
 replace hx:(F.2.2.2.map (Zzr P.2.2.length F.2.2.2.length))[p]? = some x:=hx
 rw [List.getElem?_map,hX] at hx
 injection hx with hx
 subst hx
 unfold Zzr
 by_cases hw:isW P.2.2.length F.2.2.2.length X=true
 · rw [if_pos hw]
   exact ⟨rfl,Or.inr (h.w2 i p F X hF hX (List.getElem?_eq_some_iff.1 hF).1 hw)⟩
 · rw [if_neg hw]
   exact ⟨rfl,Or.inl rfl⟩
theorem Zrg:∀ {fs:List FnR},Zpm fs=0->∀ f∈fs,fnE f=0
 | [],_,f,h=>absurd h (List.not_mem_nil)
 | g::r,h,f,hf=>by
   rw [Zpm] at h
   by_cases hg:fnE g=0
   · rw [if_pos hg] at h
     rcases List.mem_cons.1 hf with rfl|hf
     · exact hg
     · exact Zrg h f hf
   · rw [if_neg hg] at h;exact absurd h hg
theorem Zhj {f:FnR} (h:fnE f=0):(0<=f.1/\f.1<=16/\f.1<=f.2.1/\f.2.1<=64/\0<=f.2.2.1/\f.2.2.1<=1/\1<=f.2.2.2.length/\f.2.2.2.length<=4096)/\Zec f.2.2.2=0:=by
 unfold fnE at h
 split at h
 · cases h
 · rename_i hb
   exact ⟨by omega,h⟩
theorem Zbn {P:PrP} (h:Yy P.1 P.2.1.length P.2.2=0):(0<=P.1/\P.1<=65536/\(P.2.1.length:Int)<=P.1/\1<=P.2.2.length/\P.2.2.length<=64)/\∀ f∈P.2.2,fnE f=0:=by
 unfold Yy at h
 split at h
 · cases h
 · rename_i hb
   exact ⟨by omega,Zrg h⟩
theorem Zti {nm:Txt} {P:PrP} {t:Txt} {ls:List Txt} (hP:Yy P.1 P.2.1.length P.2.2=0) (hn:t.length<=65536) (hc:Zcm t=ls++[[]]) (hr:RdL ls (Zxq nm P)) :
 Zgx TT (fun p=>Yy p.1 p.2.1.length p.2.2) t = .ok P:=by
 obtain ⟨_,hF⟩:=Zbn hP
 have hg:Zzo TT St0 (Zxq nm P++[[]]) (Zly nm P P.2.2.length):=by
  unfold Zxq
  refine Jo (Jo (Zxf P) fun s h=>Zps (fun f hf=>(Zhj (hF f hf)).2) _ s (Nat.le_refl _) h) fun s h=>Zfb fun n=>⟨s,rfl,h⟩
 obtain ⟨s,h1,h2⟩:=hg 1
 unfold Zgx
 rw [if_neg (by omega),hc,Yce (Zdl hr (.cons (Zuz true) .nil)),h1]
 simp only [Ydj h2 s.wants s.funcs h2.w1 (Ylz h2),h2.mem,h2.data]
 rw [if_pos hP]
def Ypa:Txt->Bool
 | []=>false
 | c::_=>Zfd c
def rwC (A B nm:Txt):Txt->Txt
 | []=>[]
 | c::r=>(if c.toNat=9 then A else if c.toNat=32 then 32::B else if c.toNat=58 then B++[58] else if (c.toNat=76\/c.toNat=102)/\Ypa r=true then nm++[c] else [c])++rwC A B nm r
theorem Yne (l:Txt):rwC [9] [] [] l=l:=by
 induction l with
 | nil=>rfl
 | cons c r ih =>
   rw [rwC,ih]
   by_cases h1:c.toNat=9
   · rw [if_pos h1]
     have:c=9:=UInt8.toNat_inj.1 h1
     rw [this];rfl
   rw [if_neg h1]
   by_cases h2:c.toNat=32
   · rw [if_pos h2]
     have:c=32:=UInt8.toNat_inj.1 h2
     rw [this];rfl
   rw [if_neg h2]
   by_cases h3:c.toNat=58
   · rw [if_pos h3]
     have:c=58:=UInt8.toNat_inj.1 h3
     rw [this];rfl
   rw [if_neg h3]
   split <;> rfl
theorem Yip {c:UInt8} (h:okC c=true):c.toNat≠9/\c.toNat≠10/\c.toNat≠32/\c.toNat≠58:=by
 unfold okC at h
 simp only [Bool.and_eq_true,bne_iff_ne,ne_eq] at h
 obtain ⟨⟨⟨h1,h2⟩,h3⟩,h4⟩:=h
 exact ⟨fun e=>h1 (UInt8.toNat_inj.1 e),fun e=>h2 (UInt8.toNat_inj.1 e),fun e=>h3 (UInt8.toNat_inj.1 e),fun e=>h4 (UInt8.toNat_inj.1 e)⟩
theorem Xi (A B nm:Txt):∀ (t r:Txt),Zei t=true->Ypa r=false->rwC A B nm (t++r)=t++rwC A B nm r
 | [],r,_,_=>rfl
 | [c],r,h,hr=>by
   obtain ⟨h1,h2,h3,h4⟩:=Yip (show okC c=true from h)
   rw [List.singleton_append,rwC,if_neg h1,if_neg h3,if_neg h4,if_neg (by rw [hr];exact fun x=>absurd x.2 (by decide))]
 | c::d::t,r,h,hr=>by
   rw [Zei] at h
   simp only [Bool.and_eq_true] at h
   obtain ⟨⟨g1,g2⟩,g3⟩:=h
   obtain ⟨h1,h2,h3,h4⟩:=Yip g1
   have ih:=Xi A B nm (d::t) r g3 hr
   rw [List.cons_append,rwC,ih,if_neg h1,if_neg h3,if_neg h4,if_neg]
   · rfl
   · rintro ⟨k1,k2⟩
     have k2:Zfd d=true:=k2
     have k3:(c == 76 || c == 102)=true:=by
      rcases k1 with k1|k1
      · have:c=76:=UInt8.toNat_inj.1 k1
        rw [this];rfl
      · have:c=102:=UInt8.toNat_inj.1 k1
        rw [this];rfl
     rw [k2,k3] at g2
     cases g2
theorem Ydm {c:UInt8} (h:Zfd c=true):okC c=true/\c≠76/\c≠102:=by
 unfold Zfd Zrr at h
 simp at h
 refine ⟨?_,?_,?_⟩
 · unfold okC
   simp only [Bool.and_eq_true,bne_iff_ne,ne_eq]
   refine ⟨⟨⟨?_,?_⟩,?_⟩,?_⟩ <;> (rintro rfl;revert h;decide)
 · rintro rfl;revert h;decide
 · rintro rfl;revert h;decide
theorem Zey:∀ (t:Txt),(∀ c∈t,Zfd c=true)->Zei t=true
 | [],_=>rfl
 | [c],h=>(Ydm (h c (List.mem_cons_self ..))).1
 | c::d::t,h=>by
   obtain ⟨h1,h2,h3⟩:=Ydm (h c (List.mem_cons_self ..))
   rw [Zei,h1,Zey (d::t) fun x hx=>h x (List.mem_cons_of_mem _ hx)]
   have:(c == 76 || c == 102)=false:=by simp [h2,h3]
   rw [this];rfl
theorem Zde (n:Int):Zei (Lib.itoa n)=true:=by
 by_cases hn:n<0
 · have e:Lib.itoa n=45::Lib.decDigits n.natAbs:=by unfold Lib.itoa;rw [if_pos hn]
   rw [e]
   have h:=Zey _ (Xy n.natAbs).2
   cases hd:Lib.decDigits n.natAbs with
   | nil=>rfl
   | cons c r=>rw [hd] at h;rw [Zei,h];rfl
 · have e:Lib.itoa n=Lib.decDigits n.toNat:=by unfold Lib.itoa;rw [if_neg hn]
   rw [e]
   exact Zey _ (Xy _).2
theorem Zjx (A B nm:Txt) (c:UInt8) (hc:c.toNat=76\/c.toNat=102) (k:Nat) (r:Txt) (hr:Ypa r=false):rwC A B nm (c::(Lib.decDigits k++r))=nm++c::(Lib.decDigits k++rwC A B nm r):=by
 have hd:Ypa (Lib.decDigits k++r)=true:=by
  cases hd:Lib.decDigits k with
  | nil=>exact absurd hd (Xy k).1
  | cons d t=>exact (Zfv hd).1
 rw [rwC,if_neg (by omega),if_neg (by omega),if_neg (by omega),if_pos ⟨hc,hd⟩,Xi A B nm _ r (Zey _ (Xy k).2) hr]
 simp
theorem Zgq (A B nm r:Txt):rwC A B nm (32::r)=32::(B++rwC A B nm r):=by
 rw [rwC,if_neg (by decide),if_pos (by decide)];rfl
theorem Yjs (A B nm r:Txt):rwC A B nm (9::r)=A++rwC A B nm r:=by
 rw [rwC,if_pos (by decide)]
theorem Yan (A B nm r:Txt):rwC A B nm (58::r)=B++58::rwC A B nm r:=by
 rw [rwC,if_neg (by decide),if_neg (by decide),if_pos (by decide)];simp
def Yqf (E:Txt):Prop:=Rdn false E []/\Rdn true E []/\Zzp E
theorem Yhm:Yqf []:=⟨Zuz _,Zuz _,fun c r h=>by cases h⟩
theorem Zay (r:Txt):Zzp (32::r):=fun c r h=>by injection h with h _;subst h;decide
theorem Ydl {B:Txt} (hB:Blk B) (r:Txt):Zzp (B++58::r):=by
 cases B with
 | nil=>exact fun c r h=>by injection h with h _;subst h;decide
 | cons x b =>
   intro c r h
   have hx:=hB x (List.mem_cons_self ..)
   injection h with h _;subst h
   unfold tlB tlI Zmb Zrr;simp;omega
theorem Zog {B r:Txt} {ps:List Pc} (hB:Blk B) (h:Rdn true r ps):Rdn false (32::(B++r)) ps:=Zjy (Or.inl rfl) (Ztc hB h)
theorem Yax {B r:Txt} {ps:List Pc} (hB:Blk B) (h:Rdn true r ps):Rdn false (B++58::r) (.colon::ps):=by
 cases B with
 | nil=>exact Zva h
 | cons x b=>exact Zjy (hB x (List.mem_cons_self ..)) (Ztc (fun d hd=>hB d (List.mem_cons_of_mem _ hd)) (Zva h))
def You (nm l:Txt) (ps:List Pc):Prop:=∀ A B E,Blk A->Blk B->Yqf E->Rdn true (rwC A B nm l++E) ps
def Zyf (mem:Int):Txt:=Xo++32::Lib.itoa mem
def Yho (d:Txt):Txt:=Zdo++32::Zoh d
def Zra (k:Nat) (f:FnR):Txt:=Zdz++32::102::(Lib.decDigits k++32::(Lib.itoa f.1++32::(Lib.itoa f.2.1++32::Lib.itoa f.2.2.1)))
def Zym (k:Nat):Txt:=76::(Lib.decDigits k++[58])
def Zty (nF nC:Nat) (x:Int × Int):Txt:=9::(Zbw x.1++Zdf nF nC (Ys x.1) x.2)
theorem Zjc:Zjt Xo:=Zgj (by decide)
theorem Zmi:Zjt Zdo:=Zgj (by decide)
theorem Zmh:Zjt Zdz:=Zgj (by decide)
theorem Ynq {nm:Txt} {mem:Int} (h0:0<=mem) (h1:mem<=65536):You nm (Zyf mem) [.word Xo,.num mem false]:=by
 intro A B E hA hB hE
 unfold Zyf
 have hp:=Xi A B nm (Lib.itoa mem) [] (Zde mem) rfl
 rw [List.append_nil] at hp
 rw [Xi A B nm Xo _ (by decide) (by rfl),Zgq,hp,show rwC A B nm []=[] from rfl,List.append_nil,List.append_assoc]
 refine Zat Zjc (Zay _) ?_
 rw [List.cons_append,List.append_assoc]
 exact Zog hB (Zpy (Zgy mem (by omega) (by omega)) hE.2.2 hE.1)
theorem Ykv {nm:Txt} (hn:Ymp nm) (k:Nat) {f:FnR} (hf:fnE f=0):You nm (Zra k f) (Zub nm k f):=by
 obtain ⟨⟨b1,b2,b3,b4,b5,b6,_⟩,_⟩:=Zhj hf
 intro A B E hA hB hE
 unfold Zra
 have hp:=Xi A B nm (Lib.itoa f.2.2.1) [] (Zde _) rfl
 rw [List.append_nil] at hp
 rw [Xi A B nm Zdz _ (by decide) (by rfl),Zgq,Zjx A B nm 102 (Or.inr (by decide)) k _ (by rfl),Zgq,Xi A B nm (Lib.itoa f.1) _ (Zde _) (by rfl),Zgq,Xi A B nm (Lib.itoa f.2.1) _ (Zde _) (by rfl),Zgq,hp,show rwC A B nm []=[] from rfl,List.append_nil]
 simp only [List.append_assoc,List.cons_append]
 refine Zat Zmh (Zay _) (Zog hB ?_)
 have e:∀ z:Txt,nm++102::(Lib.decDigits k++z)=fnW nm k++z:=fun z=>by unfold fnW;simp
 rw [e]
 refine Zat (Yab hn k) (Zay _) (Zog hB ?_)
 refine Zpy (Zgy _ (by omega) (by omega)) (Zay _) (Zog hB ?_)
 refine Zpy (Zgy _ (by omega) (by omega)) (Zay _) (Zog hB ?_)
 exact Zpy (Zgy _ (by omega) (by omega)) hE.2.2 hE.1
theorem Ynr {nm:Txt} (hn:Ymp nm) (k:Nat):You nm (Zym k) [.word (lbW nm k),.colon]:=by
 intro A B E hA hB hE
 unfold Zym
 rw [Zjx A B nm 76 (Or.inl (by decide)) k _ (by rfl),Yan,show rwC A B nm []=[] from rfl]
 simp only [List.append_assoc,List.cons_append,List.nil_append]
 have e:∀ z:Txt,nm++76::(Lib.decDigits k++z)=lbW nm k++z:=fun z=>by unfold lbW;simp
 rw [e]
 exact Zat (Zzz hn k) (Ydl hB _) (Yax hB hE.2.1)
theorem Yns {nm:Txt} (hn:Ymp nm) (nF nC:Nat) {x:Int × Int} {s:ByteArray × Int × Int × Int} (hs:Zv x.1=some s) (hm:Zdr s.2.1.toNat x.2=true) (hx:Zjl x.2):You nm (Zty nF nC x) (Yhc nm nF nC x):=by
 obtain ⟨hw,hp,_⟩:=Zky hs
 have hks:Ys x.1=s.2.1:=by unfold Ys;rw [hs]
 have h5:Ys x.1=5->0<=x.2/\x.2<5:=fun h=>by
  rw [hks] at h;rw [h] at hm;simpa [Zdr,bK] using hm
 have h34:Ys x.1=3\/Ys x.1=4->0<=x.2:=fun h=>by
  rcases h with h|h <;> (rw [hks] at h;rw [h] at hm;simp [Zdr] at hm;exact hm.1)
 intro A B E hA hB hE
 unfold Zty Yhc Zdf Ypi
 rw [Yjs,List.append_assoc]
 refine Ztc hA ?_
 by_cases k0:Ys x.1=0
 · rw [if_pos k0,if_pos k0,Xi A B nm _ [] hp rfl,show rwC A B nm []=[] from rfl,List.append_nil]
   exact Zat hw hE.2.2 hE.1
 rw [if_neg k0,if_neg k0]
 by_cases k3:Ys x.1=3/\x.2<=nC
 · rw [if_pos k3,if_pos k3]
   obtain ⟨a,ha⟩:∃ a:Nat,x.2=a:=⟨x.2.toNat,by have:=h34 (Or.inl k3.1);omega⟩
   have hq:=Zjx A B nm 76 (Or.inl (by decide)) a [] rfl
   rw [List.append_nil] at hq
   rw [ha,Zhe,Int.toNat_natCast,Xi A B nm _ _ hp (by rfl),Zgq,hq,show rwC A B nm []=[] from rfl]
   simp only [List.append_assoc,List.cons_append,List.nil_append]
   have e:∀ z:Txt,nm++76::(Lib.decDigits a++z)=lbW nm a++z:=fun z=>by unfold lbW;simp
   rw [e]
   exact Zat hw (Zay _) (Zog hB (Zat (Zzz hn a) hE.2.2 hE.1))
 rw [if_neg k3,if_neg k3]
 by_cases k4:Ys x.1=4/\x.2<nF
 · rw [if_pos k4,if_pos k4]
   obtain ⟨a,ha⟩:∃ a:Nat,x.2=a:=⟨x.2.toNat,by have:=h34 (Or.inr k4.1);omega⟩
   have hq:=Zjx A B nm 102 (Or.inr (by decide)) a [] rfl
   rw [List.append_nil] at hq
   rw [ha,Zhe,Int.toNat_natCast,Xi A B nm _ _ hp (by rfl),Zgq,hq,show rwC A B nm []=[] from rfl]
   simp only [List.append_assoc,List.cons_append,List.nil_append]
   have e:∀ z:Txt,nm++102::(Lib.decDigits a++z)=fnW nm a++z:=fun z=>by unfold fnW;simp
   rw [e]
   exact Zat hw (Zay _) (Zog hB (Zat (Yab hn a) hE.2.2 hE.1))
 rw [if_neg k4,if_neg k4]
 by_cases k5:Ys x.1=5
 · rw [if_pos k5,if_pos k5]
   obtain ⟨g1,g2⟩:=h5 k5
   obtain ⟨q1,q2,_⟩:=Zny g1 g2
   have hq:=Xi A B nm (Zzq x.2) [] q2 rfl
   rw [List.append_nil] at hq
   rw [Xi A B nm _ _ hp (by rfl),Zgq,hq,show rwC A B nm []=[] from rfl]
   simp only [List.append_assoc,List.cons_append,List.nil_append,List.append_nil]
   exact Zat hw (Zay _) (Zog hB (Zat q1 hE.2.2 hE.1))
 · rw [if_neg k5,if_neg k5]
   have hq:=Xi A B nm (Lib.itoa x.2) [] (Zde _) rfl
   rw [List.append_nil] at hq
   rw [Xi A B nm _ _ hp (by rfl),Zgq,hq,show rwC A B nm []=[] from rfl]
   simp only [List.append_assoc,List.cons_append,List.nil_append,List.append_nil]
   exact Zat hw (Zay _) (Zog hB (Zpy (Zgy _ hx.1 (by have:=hx.2;omega)) hE.2.2 hE.1))
def Zea (ls:List Txt):Txt:=ls.flatMap fun l=>l++[10]
theorem Zci (a b:List Txt):Zea (a++b)=Zea a++Zea b:=List.flatMap_append
theorem Zhd (l:Txt):Zea [l]=l++[10]:=by unfold Zea;simp
theorem Zyu (l:Txt) (ls:List Txt):Zea (l::ls)=(l++[10])++Zea ls:=by unfold Zea;rw [List.flatMap_cons]
theorem Zip (f:Nat->List Txt):∀ l:List Nat,Zea (l.flatMap f)=l.flatMap fun k=>Zea (f k)
 | []=>rfl
 | k::l=>by rw [List.flatMap_cons,List.flatMap_cons,Zci,Zip f l]
def Zpn (l:Txt):Prop:=∀ c∈l,c.toNat≠10
theorem Ja {a b:Txt} (h:Zpn a) (g:Zpn b):Zpn (a++b):=fun c hc=>by
 rcases List.mem_append.1 hc with hc|hc
 · exact h c hc
 · exact g c hc
theorem Yj {a:UInt8} {b:Txt} (h:a.toNat≠10) (g:Zpn b):Zpn (a::b):=fun c hc=>by
 rcases List.mem_cons.1 hc with rfl|hc
 · exact h
 · exact g c hc
theorem Zru:∀ (ls:List Txt),(∀ l∈ls,Zpn l)->Zcm (Zea ls)=ls++[[]]
 | [],_=>rfl
 | l::ls,h=>by
   have e:Zea (l::ls)=l++10::Zea ls:=by unfold Zea;rw [List.flatMap_cons];simp
   rw [e,Zrt l _ (h l (List.mem_cons_self ..)),Zru ls fun x hx=>h x (List.mem_cons_of_mem _ hx)]
   rfl
def Ymm (nF:Nat) (code:List (Int × Int)) (k:Nat):List Txt:=(if Xq code k then [Zym k] else [])++(match code[k]? with|some x=>[Zty nF code.length x]|none=>[])
def Ydq (nF:Nat) (code:List (Int × Int)) (n:Nat):List Txt:=(List.range n).flatMap (Ymm nF code)
def Yps (nF k:Nat) (f:FnR):List Txt:=Zra k f::Ydq nF f.2.2.2 (f.2.2.2.length+1)
def Yhi (fs:List FnR) (n:Nat):List Txt:=(List.range n).flatMap fun k=>match fs[k]? with|some f=>Yps fs.length k f|none=>[]
def Znz (mem:Int) (d:Txt):List Txt:=[Zyf mem]++(if d=[] then [] else [Yho d])
def Zkq (p:PrP):List Txt:=Znz p.1 p.2.1++Yhi p.2.2 p.2.2.length
theorem Ykg (nF:Nat) (code:List (Int × Int)) (k:Nat):Zea (Ymm nF code k)=plT nF code k:=by
 unfold Ymm plT Zjp
 rw [Zci]
 congr 1
 · split
   · rw [Zhd];unfold Zym;rw [Zhe];simp
   · rfl
 · cases code[k]? with
   | none=>rfl
   | some x =>
     show Zea [Zty nF code.length x]=Zhu nF code.length x
     rw [Zhd];unfold Zty Zhu;simp
theorem Ylj (nF k:Nat) (f:FnR):Zea (Yps nF k f)=fnT nF k f:=by
 unfold Yps fnT Ydq Zaa
 rw [Zyu,Zip]
 congr 1
 · unfold Zra Xs Zdz;rw [Zhe];simp
 · congr 1
   funext j
   exact Ykg nF _ j
theorem Ybh (p:PrP):Zea (Zkq p)=Jj p:=by
 unfold Zkq Jj Znz Zdw Yhi Zbi
 rw [Zci,Zci,Zhd,Zip]
 have e:Zyf p.1++[10]=[109,101,109,111,114,121,32]++Lib.itoa p.1++[10]:=by unfold Zyf Xo;simp
 rw [e]
 congr 1
 · congr 1
   · split
     · rfl
     · rw [Zhd];unfold Yho Zdo;simp
 · congr 1
   funext k
   cases p.2.2[k]? with
   | none=>rfl
   | some f=>exact Ylj _ k f
theorem Yoo {R:Txt->List Pc->Prop} (nm:Txt) (nF:Nat) (code:List (Int × Int)) (hl:∀ k,R (Zym k) [.word (lbW nm k),.colon]) (hi:∀ x∈code,R (Zty nF code.length x) (Yhc nm nF code.length x)) (k:Nat):Al2 R (Ymm nF code k) (plP nm nF code k):=by
 unfold Ymm plP
 refine Zdl ?_ ?_
 · split
   · exact .cons (hl k) .nil
   · exact .nil
 · cases hx:code[k]? with
   | none=>exact .nil
   | some x=>exact .cons (hi x (List.mem_of_getElem? hx)) .nil
theorem Yid {R:Txt->List Pc->Prop} (nm:Txt) (P:PrP) (hm:R (Zyf P.1) [.word Xo,.num P.1 false]) (hd:P.2.1≠[]->R (Yho P.2.1) [.word Zdo,.str P.2.1])
 (hh:∀ k,∀ f∈P.2.2,R (Zra k f) (Zub nm k f)) (hl:∀ k,R (Zym k) [.word (lbW nm k),.colon]) (hi:∀ f∈P.2.2,∀ x∈f.2.2.2,R (Zty P.2.2.length f.2.2.2.length x) (Yhc nm P.2.2.length f.2.2.2.length x)):Al2 R (Zkq P) (Zxq nm P):=by
 unfold Zkq Zxq Znz Zus
 refine Zdl (Zdl (.cons hm .nil) ?_) ?_
 · split
   · exact .nil
   · rename_i h;exact .cons (hd h) .nil
 · unfold Yhi Ymn
   refine Zpj _ fun k _ => ?_
   cases hf:P.2.2[k]? with
   | none=>exact .nil
   | some f =>
     have hfm:=List.mem_of_getElem? hf
     refine .cons (hh k f hfm) ?_
     unfold Ydq Zrz
     exact Zpj _ fun j _=>Yoo nm _ _ hl (hi f hfm) j
theorem Zot:Zpn []:=fun c h=>absurd h (List.not_mem_nil)
theorem Ztp {t:Txt} (h:∀ c∈t,tlB c=true):Zpn t:=fun c hc he=>by
 have:=h c hc
 unfold tlB tlI Zmb Zrr at this
 simp at this
 omega
theorem Zbv (n:Int):Zpn (Lib.itoa n):=by
 have hd:∀ u,Zpn (Lib.decDigits u):=fun u=>Ztp fun c hc=>Zrq ((Xy u).2 c hc)
 unfold Lib.itoa
 split
 · exact Yj (by decide) (hd _)
 · exact hd _
theorem Ycy:∀ n:Fin 16,(Yeq n.val).toNat≠10:=by decide
theorem Ygj (b:Txt):Zpn (Zoh b):=by
 unfold Zoh
 refine Yj (by decide) (Ja (fun c hc => ?_) (Yj (by decide) Zot))
 obtain ⟨d,_,hd⟩:=List.mem_flatMap.1 hc
 unfold Zjz at hd
 have:=d.toNat_lt
 split at hd
 · simp at hd
   rcases hd with rfl|rfl
   · decide
   · omega
 · split at hd
   · simp at hd
     rcases hd with rfl|rfl|rfl|rfl
     · decide
     · decide
     · exact Ycy ⟨d.toNat / 16,by omega⟩
     · exact Ycy ⟨d.toNat % 16,by omega⟩
   · simp at hd
     subst hd
     omega
theorem Zel {t:Txt} (h:Zjt t):Zpn t:=Ztp h.2
theorem Ygk (nF nC:Nat) (x:Int × Int) {s:ByteArray × Int × Int × Int} (hs:Zv x.1=some s) (hm:Zdr s.2.1.toNat x.2=true):Zpn (Zdf nF nC (Ys x.1) x.2):=by
 unfold Zdf
 have hks:Ys x.1=s.2.1:=by unfold Ys;rw [hs]
 split
 · exact Zot
 split
 · exact Yj (by decide) (Yj (by decide) (Zbv _))
 split
 · exact Yj (by decide) (Yj (by decide) (Zbv _))
 split
 · rename_i h5
   have h:0<=x.2/\x.2<5:=by
    rw [hks] at h5;rw [h5] at hm;simpa [Zdr,bK] using hm
   exact Yj (by decide) (Zel (Zny h.1 h.2).1)
 · exact Yj (by decide) (Zbv _)
structure OkP (P:PrP):Prop where
 e:Yy P.1 P.2.1.length P.2.2=0
 r:∀ f∈P.2.2,∀ x∈f.2.2.2,Zjl x.2
theorem Ybs {P:PrP} (h:OkP P):∀ f∈P.2.2,∀ x∈f.2.2.2,∃ s,Zv x.1=some s/\Zdr s.2.1.toNat x.2=true:=fun f hf x hx =>
 Zfc (Zhj ((Zbn h.e).2 f hf)).2 x hx
theorem Ygp {l:Txt} {ps:List Pc} (h:You [] l ps):Rdn true l ps:=by
 have:=h [9] [] [] (fun c hc=>by simp at hc;subst hc;decide) (fun c hc=>absurd hc (List.not_mem_nil)) Yhm
 rwa [Yne,List.append_nil] at this
theorem Yop {P:PrP} (h:OkP P):RdL (Zkq P) (Zxq [] P):=by
 obtain ⟨⟨b1,b2,_⟩,hf⟩:=Zbn h.e
 refine Yid [] P (Ygp (Ynq b1 b2)) (fun g => ?_) (fun k f hm=>Ygp (Ykv (Or.inl rfl) k (hf f hm))) (fun k=>Ygp (Ynr (Or.inl rfl) k)) fun f hm x hx => ?_
 · unfold Yho
   refine Zat Zmi (Zay _) (Zjy (Or.inl rfl) ?_)
   have:=Yni (b:=P.2.1) (Zuz false)
   rwa [List.append_nil] at this
 · obtain ⟨s,g1,g2⟩:=Ybs h f hm x hx
   exact Ygp (Yns (Or.inl rfl) _ _ g1 g2 (h.r f hm x hx))
theorem Ybv {P:PrP} (h:OkP P):∀ l∈Zkq P,Zpn l:=by
 intro l hl
 unfold Zkq Znz Yhi at hl
 have hw:Zpn Xo/\Zpn Zdo/\Zpn Zdz:=⟨Zel Zjc,Zel Zmi,Zel Zmh⟩
 have hd:∀ u,Zpn (Lib.decDigits u):=fun u=>Ztp fun c hc=>Zrq ((Xy u).2 c hc)
 rcases List.mem_append.1 hl with hl|hl
 · rcases List.mem_append.1 hl with hl|hl
   · simp at hl;subst hl
     exact Ja hw.1 (Yj (by decide) (Zbv _))
   · split at hl
     · simp at hl
     · simp at hl;subst hl
       exact Ja hw.2.1 (Yj (by decide) (Ygj _))
 · obtain ⟨k,_,hk⟩:=List.mem_flatMap.1 hl
   cases hf:P.2.2[k]? with
   | none=>rw [hf] at hk;simp at hk
   | some f =>
     rw [hf] at hk
     have hm:=List.mem_of_getElem? hf
     rcases List.mem_cons.1 hk with rfl|hk
     · exact Ja hw.2.2 (Yj (by decide) (Yj (by decide) (Ja (hd _) (Yj (by decide) (Ja (Zbv _) (Yj (by decide) (Ja (Zbv _) (Yj (by decide) (Zbv _)))))))))
     · obtain ⟨j,_,hj⟩:=List.mem_flatMap.1 hk
       unfold Ymm at hj
       rcases List.mem_append.1 hj with hj|hj
       · split at hj
         · simp at hj;subst hj
           exact Yj (by decide) (Ja (hd _) (Yj (by decide) Zot))
         · simp at hj
       · cases hx:f.2.2.2[j]? with
         | none=>rw [hx] at hj;simp at hj
         | some x =>
           rw [hx] at hj
           simp at hj;subst hj
           obtain ⟨s,g1,g2⟩:=Ybs h f hm x (List.mem_of_getElem? hx)
           exact Yj (by decide) (Ja (Zel (Zky g1).w) (Ygk _ _ _ g1 g2))
theorem Yly {P:PrP} (h:OkP P) (hn:(Jj P).length<=65536):Zgx TT (fun p=>Yy p.1 p.2.1.length p.2.2) (Jj P) = .ok P :=
 Zti h.e hn (by rw [<- Ybh];exact Zru _ (Ybv h)) (Yop h)
theorem Zua {l:Txt} {v:Nat} (h:Yq 0 l=some v):v<16 ^ l.length:=by
 cases hx:Zjr l with
 | false=>rw [Zbc l 0 hx] at h;cases h
 | true =>
   obtain ⟨v',h1,h2⟩:=Zck l 0 hx
   rw [h] at h1;injection h1 with h1;subst h1
   simpa using h2
theorem Ybu {t:Txt} {n:Int} {b:Bool} (h:Zvs t=some (n,b)):Zjl n:=by
 unfold Zjl
 by_cases hx:[48,120].isPrefixOf t=true/\2<t.length
 · unfold Zvs at h
   rw [if_pos hx.1] at h
   split at h
   · rename_i hl
     obtain ⟨v,hv,h⟩:=Option.map_eq_some_iff.1 h
     have h1:=Zua hv
     have h2:(16:Nat) ^ (t.drop 2).length<=16 ^ 16:=Nat.pow_le_pow_right (by decide) hl.2
     injection h with h _
     unfold Zxb at h
     split at h <;> omega
   · cases h
 · by_cases hn:t.head? = some 45
   · match t,hn with
     | a::m,hn =>
       simp at hn
       subst hn
       rw [Zql] at h
       obtain ⟨v,hv,h⟩:=Option.map_eq_some_iff.1 h
       split at h <;> (injection h with h _;omega)
   · rw [Zqk hn hx] at h
     obtain ⟨v,hv,h⟩:=Option.map_eq_some_iff.1 h
     split at h <;> (injection h with h _;omega)
def Zsl (ps:List Pc):Prop:=∀ n b,Pc.num n b∈ps->Zjl n
theorem Ygg {l:Txt} {n:Int} {b:Bool} {k:Nat} (h:Zmz l=some (.num n b,k)):Zjl n:=by
 cases l with
 | nil=>cases h
 | cons c r =>
   rw [Zmz] at h
   split at h
   · injection h with h;injection h with h _;cases h
   · split at h
     · obtain ⟨x,hx,h⟩:=Option.map_eq_some_iff.1 h
       injection h with h _;cases h
     · split at h
       · obtain ⟨x,hx,h⟩:=Option.map_eq_some_iff.1 h
         injection h with h _
         injection h with h1 h2
         subst h1
         exact Ybu (b:=x.2) hx
       · cases h
theorem Zgw:∀ (f:Nat) (ap:Bool) (l:Txt) (ps:List Pc),Zma f ap l=some ps->Zsl ps
 | 0,_,_,_,h=>by cases h
 | f+1,ap,[],ps,h=>by
   injection h with h;subst h
   exact fun n b hm=>absurd hm (List.not_mem_nil)
 | f+1,ap,c::r,ps,h=>by
   rw [Zma] at h
   split at h
   · injection h with h;subst h
     exact fun n b hm=>absurd hm (List.not_mem_nil)
   split at h
   · exact Zgw f true r ps h
   split at h
   · obtain ⟨qs,hq,h⟩:=Option.map_eq_some_iff.1 h
     subst h
     intro n b hm
     rcases List.mem_cons.1 hm with hm|hm
     · cases hm
     · exact Zgw f true r qs hq n b hm
   split at h
   · cases h
   cases ho:Zmz (c::r) with
   | none=>rw [ho] at h;cases h
   | some pk =>
     obtain ⟨p,k⟩:=pk
     rw [ho] at h
     simp only [] at h
     obtain ⟨qs,hq,h⟩:=Option.map_eq_some_iff.1 h
     subst h
     intro n b hm
     rcases List.mem_cons.1 hm with hm|hm
     · subst hm
       exact Ygg ho
     · exact Zgw f false _ qs hq n b hm
def Ypc:Sd->Prop
 | .code _ (some (n,a,w))=>(TT.kind n=1->Zjl a)/\(w≠none->TT.kind n≠1)
 | _=>True
theorem Ztz {lb:List Txt} {ps:List Pc} {x:Sd} (hp:Zsl ps) (h:Zjq TT lb ps=some x):Ypc x:=by
 cases ps with
 | nil =>
   injection h with h;subst h
   trivial
 | cons p r =>
   cases p with
   | num n b=>cases h
   | str t=>cases h
   | colon=>cases h
   | word t =>
     unfold Zjq at h
     simp only [] at h
     cases hn:TT.named t with
     | none=>rw [hn] at h;cases h
     | some n =>
       rw [hn] at h
       simp only [] at h
       split at h
       · rename_i h0
         split at h
         · injection h with h;subst h
           exact ⟨fun h1=>absurd (h0.symm.trans h1) (by decide),fun h1=>absurd rfl h1⟩
         · cases h
       · split at h
         · rename_i v b
           injection h with h;subst h
           exact ⟨fun _=>hp v b (by simp),fun h1=>absurd rfl h1⟩
         · split at h
           · rename_i h5
             obtain ⟨c,hc,h⟩:=Option.map_eq_some_iff.1 h
             subst h
             exact ⟨fun h1=>absurd (h5.symm.trans h1) (by decide),fun h1=>absurd rfl h1⟩
           · split at h
             · rename_i h34
               injection h with h;subst h
               exact ⟨fun h1=>by omega,fun _=>by omega⟩
             · cases h
         · cases h
theorem Ygr {ps:List Pc} {x:Sd} (hp:Zsl ps) (h:Zjo TT ps=some x):Ypc x:=by
 unfold Zjo at h
 split at h
 · split at h
   · split at h
     · injection h with h;subst h;trivial
     · cases h
   · split at h
     · split at h
       · injection h with h;subst h;trivial
       · cases h
     · split at h
       · split at h
         · injection h with h;subst h;trivial
         · cases h
       · exact Ztz hp h
 · exact Ztz hp h
theorem Zlc:∀ (ps:List Pc) (p:Pc),p∈(Yb ps).2->p∈ps
 | [],p,h=>h
 | [a],p,h=>by
   unfold Yb at h
   split at h
   · rename_i e;cases e
   · exact h
 | a::b::r,p,h=>by
   unfold Yb at h
   split at h
   · rename_i t r' e
     injection e with e1 e2
     injection e2 with e2 e3
     subst e3
     exact List.mem_cons_of_mem _ (List.mem_cons_of_mem _ (Zlc _ p h))
   · exact h
theorem Yfj {ps:List Pc} {x:Sd} (hp:Zsl ps) (h:Zgp TT ps=some x):Ypc x:=by
 unfold Zgp at h
 split at h
 · injection h with h;subst h;trivial
 · have hs:Zsl (Yb ps).2:=fun n b hm=>hp n b (Zlc ps _ hm)
   cases hlb:Yb ps with
   | mk lb r =>
     rw [hlb] at h hs
     cases lb with
     | nil=>exact Ygr hs h
     | cons t lb=>exact Ztz hs h
def KOk (fs:List FnR):Prop:=∀ f∈fs,∀ x∈f.2.2.2,TT.kind x.1=1->Zjl x.2
def WOk (fs:List FnR) (w:Zge):Prop:=∃ f x,fs[w.fn]? = some f/\f.2.2.2[w.pl]? = some x/\TT.kind x.1≠1
def SOk (s:St):Prop:=KOk s.funcs/\∀ w∈s.wants,WOk s.funcs w
theorem Yji {s s':St} {x:Sd} {big:Bool} {n:Nat} (hs:SOk s) (hx:Ypc x) (h:Zbj TT s x big n = .ok s'):SOk s':=by
 unfold Zbj at h
 split at h
 · cases h
 rename_i hfit
 split at h
 · cases h
 cases x with
 | nothing=>injection h with h;subst h;exact hs
 | mem m=>injection h with h;subst h;exact hs
 | data t=>injection h with h;subst h;exact hs
 | fn nm a l r =>
   simp only [] at h
   split at h
   · cases h
   · injection h with h;subst h
     refine ⟨fun f hf x hx => ?_,fun w hw => ?_⟩
     · rcases List.mem_append.1 hf with hf|hf
       · exact hs.1 f hf x hx
       · simp at hf;subst hf
         exact absurd hx (List.not_mem_nil)
     · obtain ⟨f,y,h1,h2,h3⟩:=hs.2 w hw
       exact ⟨f,y,by show (s.funcs++_)[w.fn]? = _;rw [List.getElem?_append_left (List.getElem?_eq_some_iff.1 h1).1];exact h1,h2,h3⟩
 | code lb ins =>
   simp only [] at h
   split at h
   · cases h
   · rename_i m hm
     cases ins with
     | none=>injection h with h;subst h;exact hs
     | some q =>
       obtain ⟨op,a,w⟩:=q
       simp only [] at h
       injection h with h
       have hne:s.funcs≠[]:=by
        intro e
        apply hfit
        simp [Zeb,e]
       obtain ⟨A,f,hA⟩:∃ A f,s.funcs=A++[f]:=⟨_,_,(List.dropLast_concat_getLast hne).symm⟩
       have hl:Zao s=f:=by unfold Zao;rw [hA,Xx]
       have hp:Zai s (op,a)=A++[(f.1,f.2.1,f.2.2.1,f.2.2.2++[(op,a)])]:=by
        unfold Zai
        rw [hl,hA,Zjw]
       have hW:∀ v,WOk s.funcs v->WOk (Zai s (op,a)) v:=by
        rintro v ⟨g,y,h1,h2,h3⟩
        rw [hp]
        rw [hA] at h1
        by_cases hv:v.fn<A.length
        · rw [List.getElem?_append_left hv] at h1
          exact ⟨g,y,by rw [List.getElem?_append_left hv];exact h1,h2,h3⟩
        · have hlt:=(List.getElem?_eq_some_iff.1 h1).1
          rw [List.length_append,List.length_singleton] at hlt
          have hve:v.fn=A.length:=by omega
          have hg:g=f:=by
           rw [hve] at h1
           simpa using h1.symm
          subst hg
          refine ⟨_,y,by rw [hve];simp;rfl,?_,h3⟩
          show (g.2.2.2++[(op,a)])[v.pl]? = _
          rw [List.getElem?_append_left (List.getElem?_eq_some_iff.1 h2).1]
          exact h2
       subst h
       refine ⟨?_,?_⟩
       · show KOk (Zai s (op,a))
         rw [hp]
         intro g hg y hy hk
         rcases List.mem_append.1 hg with hg|hg
         · exact hs.1 g (by rw [hA];exact List.mem_append_left _ hg) y hy hk
         · simp at hg;subst hg
           rcases List.mem_append.1 hy with hy|hy
           · exact hs.1 f (by rw [hA];simp) y hy hk
           · simp at hy;subst hy
             exact hx.1 hk
       · intro v hv
         show WOk (Zai s (op,a)) v
         cases w with
         | none=>exact hW v (hs.2 v hv)
         | some t =>
           replace hv:v∈s.wants++[⟨s.funcs.length - 1,(Zao s).2.2.2.length,n,t,TT.kind op == 3⟩]:=hv
           rcases List.mem_append.1 hv with hv|hv
           · exact hW v (hs.2 v hv)
           · simp only [List.mem_singleton] at hv
             subst hv
             rw [hp,hl,hA]
             refine ⟨_,(op,a),by simp;rfl,by simp,hx.2 (by simp)⟩
theorem Zqq:∀ (ls:List Txt) (s s':St) (n:Nat),SOk s->Zfo TT s n ls = .ok s'->SOk s'
 | [],s,s',n,hs,h=>by injection h with h;subst h;exact hs
 | l::ls,s,s',n,hs,h=>by
   rw [Zfo] at h
   cases hl:Zqs TT s l n with
   | error e=>rw [hl] at h;cases h
   | ok s1 =>
     rw [hl] at h
     refine Zqq ls s1 s' (n+1) ?_ h
     unfold Zqs at hl
     cases hp:Zqh l with
     | none=>rw [hp] at hl;cases hl
     | some ps =>
       rw [hp] at hl
       simp only [] at hl
       cases hx:Zgp TT ps with
       | none=>rw [hx] at hl;cases hl
       | some x =>
         rw [hx] at hl
         exact Yji hs (Yfj (Zgw _ _ _ _ hp) hx) hl
theorem Yjp {fs:List FnR} {w:Zge} {a:Int} (hk:KOk fs) (hw:WOk fs w):KOk (Zoc fs w.fn w.pl a)/\∀ v,WOk fs v->WOk (Zoc fs w.fn w.pl a) v:=by
 obtain ⟨f,x,h1,h2,h3⟩:=hw
 have hs:Zoc fs w.fn w.pl a=fs.set w.fn (f.1,f.2.1,f.2.2.1,f.2.2.2.set w.pl (x.1,a)):=by
  unfold Zoc
  rw [h1]
  simp only [h2]
 have hl:=(List.getElem?_eq_some_iff.1 h1).1
 have hpl:=(List.getElem?_eq_some_iff.1 h2).1
 rw [hs]
 refine ⟨fun g hg y hy hky => ?_,?_⟩
 · rcases List.mem_or_eq_of_mem_set hg with hg|hg
   · exact hk g hg y hy hky
   · subst hg
     rcases List.mem_or_eq_of_mem_set hy with hy|hy
     · exact hk f (List.mem_of_getElem? h1) y hy hky
     · subst hy;exact absurd hky h3
 · rintro v ⟨g,y,g1,g2,g3⟩
   by_cases hv:w.fn=v.fn
   · rw [<- hv,h1] at g1
     injection g1 with g1
     subst g1
     by_cases hp:w.pl=v.pl
     · rw [<- hp,h2] at g2
       injection g2 with g2
       subst g2
       exact ⟨_,(x.1,a),by rw [<- hv,List.getElem?_set_self hl],by rw [<- hp];exact List.getElem?_set_self hpl,h3⟩
     · exact ⟨_,y,by rw [<- hv,List.getElem?_set_self hl],by show (f.2.2.2.set _ _)[v.pl]? = _;rw [List.getElem?_set_ne hp];exact g2,g3⟩
   · exact ⟨g,y,by rw [List.getElem?_set_ne hv];exact g1,g2,g3⟩
theorem Zwj (s:St):∀ (ws:List Zge) (fs fs':List FnR),KOk fs->(∀ w∈ws,WOk fs w)->Zlo s fs ws = .ok fs'->KOk fs'
 | [],fs,fs',hk,_,h=>by injection h with h;subst h;exact hk
 | w::r,fs,fs',hk,hw,h=>by
   rw [Zlo] at h
   cases hf:Zrl s w with
   | none=>rw [hf] at h;cases h
   | some n =>
     rw [hf] at h
     obtain ⟨h1,h2⟩:=Yjp (a:=(n:Int)) hk (hw w (List.mem_cons_self ..))
     exact Zwj s r _ fs' h1 (fun v hv=>h2 v (hw v (List.mem_cons_of_mem _ hv))) h
theorem Yog {chk:PrP->Int} {t:Txt} {P:PrP} (h:Zgx TT chk t = .ok P):chk P=0/\KOk P.2.2:=by
 unfold Zgx at h
 split at h
 · cases h
 cases hl:Zfo TT St0 1 (Zcm t) with
 | error e=>rw [hl] at h;cases h
 | ok s =>
   rw [hl] at h
   simp only [] at h
   have hs:=Zqq (Zcm t) St0 s 1 ⟨fun f hf=>absurd hf (List.not_mem_nil),fun w hw=>absurd hw (List.not_mem_nil)⟩ hl
   cases hf:Zlo s s.funcs s.wants with
   | error e=>rw [hf] at h;cases h
   | ok fs =>
     rw [hf] at h
     simp only [] at h
     split at h
     · rename_i hc
       injection h with h
       subst h
       exact ⟨hc,Zwj s s.wants s.funcs fs hs.1 hs.2 hf⟩
     · cases h
theorem Zof {t:Txt} {P:PrP} (h:Zae t = .ok P):OkP P:=by
 rw [Zik] at h
 cases hp:Zgx TT (fun p=>Yy p.1 p.2.1.length p.2.2) t with
 | error e=>rw [hp] at h;cases h
 | ok Q =>
   rw [hp] at h
   injection h with h
   subst h
   obtain ⟨h1,h2⟩:=Yog hp
   refine ⟨h1,fun f hf x hx => ?_⟩
   obtain ⟨s,g1,g2⟩:=Zfc (Zhj ((Zbn h1).2 f hf)).2 x hx
   have hk:=(Zky g1).kind
   have hks:Ys x.1=s.2.1:=by unfold Ys;rw [g1]
   by_cases h1:TT.kind x.1=1
   · exact h2 f hf x hx h1
   · have hr:0<=s.2.1/\s.2.1<7:=by
      refine Zib s ?_
      unfold Zv at g1
      split at g1
      · exact List.mem_of_getElem? g1
      · cases g1
     have hb:∀ k,bK k<=4096:=fun k=>by unfold bK;split <;> decide
     have h1':s.2.1≠1:=by omega
     unfold Zdr at g2
     split at g2
     · have:x.2=0:=by simpa using g2
       unfold Zjl;omega
     · split at g2
       · omega
       · have h4:=hb s.2.1.toNat
         simp only [Bool.and_eq_true,decide_eq_true_eq] at g2
         unfold Zjl;omega
theorem Zrn:∀ (l:List (Int × Int)),Zec l=0\/Zec l=111\/Zec l=112
 | []=>Or.inl rfl
 | x::r=>by
   unfold Zec
   split
   · exact Or.inr (Or.inl rfl)
   · split
     · exact Zrn r
     · exact Or.inr (Or.inr rfl)
theorem Zrh:∀ (l:List FnR),Zpm l≠2
 | []=>by decide
 | f::r=>by
   rw [Zpm]
   split
   · exact Zrh r
   · unfold fnE
     split
     · decide
     · have:=Zrn f.2.2.2
       omega
theorem Zxr (P:PrP):Yy P.1 P.2.1.length P.2.2≠2:=by
 unfold Yy
 split
 · decide
 · exact Zrh _
inductive PrtC (P:PrP):Prop
 | ok (h:Zba P = .ok (Jj P)) (e:Yy P.1 P.2.1.length P.2.2=0) (l:(Jj P).length<=65536)
 | long (h:Zba P = .error 2) (e:Yy P.1 P.2.1.length P.2.2=0)
 | bad (y:Int) (h:Zba P = .error y) (e:Yy P.1 P.2.1.length P.2.2=y) (h0:y≠0) (h2:y≠2)
theorem Zdc (P:PrP):PrtC P:=by
 by_cases he:Yy P.1 P.2.1.length P.2.2=0
 · by_cases hl:65536<(Jj P).length
   · exact .long (by unfold Zba;rw [if_neg (by simpa using he),if_pos hl]) he
   · exact .ok (by unfold Zba;rw [if_neg (by simpa using he),if_neg hl]) he (by omega)
 · exact .bad _ (by unfold Zba;rw [if_pos he]) rfl he (Zxr P)
theorem Zau {P:PrP} (h:OkP P) (hl:(Jj P).length<=65536):Zae (Jj P) = .ok P:=by
 rw [Zik,Yly h hl]
theorem Ybi {P Q:PrP} (hP:OkP P) (hQ:OkP Q) (h1:(Jj P).length<=65536) (h:Jj P=Jj Q):P=Q:=by
 have a:=Zau hP h1
 rw [h,Zau hQ (by rw [<- h];exact h1)] at a
 injection a with a
 exact a.symm
def Zjm:Txt->Txt->Nat->Txt
 | _,[],_=>[]
 | cur,c::r,n=>if c.toNat=32 then (if n=0 then cur else Zjm [] r (n - 1)) else Zjm (cur++[c]) r n
def Zso (s:Txt) (n:Nat):Txt:=Zjm [] s n
def namesT:Txt:=(([110,111,112,32,104,97,108,116,32,97,98,111,114,116,32,110,117,109,32,112,111,112,32,99,111,112,121,32,115,119,97,112,32,103,101,116,32,115,101,116,32,108,111,97,100,32,115,116,111,114,101,32].append [108,111,97,100,56,32,115,116,111,114,101,56,32,115,105,122,101,32,106,117,109,112,32,122,101,114,111,32,110,111,116,122,101,114,111,32,99,97,108,108,32,114,101,116,32,115,121,115,32,97,100,100,32]).append ([115,117,98,32,109,117,108,32,100,105,118,32,114,101,109,32,97,110,100,32,111,114,32,120,111,114,32,115,104,108,32,115,104,114,32,117,115,104,114,32,101,113,32,108,116,32,117,108,116,32,110,101].append [103,32,110,111,116,32,102,97,100,100,32,102,115,117,98,32,102,109,117,108,32,102,100,105,118,32,102,101,113,32,102,108,116,32,102,110,101,103,32,102,114,111,111,116,32,116,111,102,32,116,111,105,32]))
theorem Ztq:((List.range 46).all fun i=>(shapeT[i]?).any fun s=>s.1.data.toList == Zso namesT i)=true:=by kernel_rfl
theorem Zzy {i:Nat} {r:ShR} (h:shapeT[i]? = some r):bs (Zso namesT i)=r.1:=by
 have hi:i<46:=by have:=(List.getElem?_eq_some_iff.1 h).1;rw [Zbr] at this;exact this
 have:=List.all_eq_true.1 Ztq i (List.mem_range.2 hi)
 rw [h] at this
 have e:r.1.data.toList=Zso namesT i:=by simpa using this
 rw [<- e];rfl
theorem Zzw {cur s:Txt} {k:Nat} {c:UInt8} (h:s[k]? = some c) (hc:c.toNat=32):Zjm cur (s.drop k) 0=cur:=by
 rw [Yh h,Zjm,if_pos hc,if_pos rfl]
theorem Zzx {cur s:Txt} {k n:Nat} {c:UInt8} (h:s[k]? = some c) (hc:c.toNat=32):Zjm cur (s.drop k) (n+1)=Zjm [] (s.drop (k+1)) n:=by
 rw [Yh h,Zjm,if_pos hc,if_neg (by omega)];rfl
theorem Yjc {cur s:Txt} {k n:Nat} {c:UInt8} (h:s[k]? = some c) (hc:¬ c.toNat=32):Zjm cur (s.drop k) n=Zjm (cur++[c]) (s.drop (k+1)) n:=by
 rw [Yh h,Zjm,if_neg hc]
theorem Yhr {s:Txt} {f k:Nat} {c:UInt8} (h:s[k]? = some c) (hf:f<=k):(s.drop f).take (k+1 - f)=(s.drop f).take (k - f)++[c]:=by
 rw [show k+1 - f=(k - f)+1 by omega,List.take_add_one,List.getElem?_drop,show f+(k - f)=k by omega,h];rfl
theorem Yes (s:Txt) (hs:s.length<=1000000) (n:Nat) (hn:n<=1000000) (w:World):Calls Tryz.prog 68 #[.string (bs s),.int .i64 n] w fun e w'=>e = .returned (.string (bs (Zso s n)))/\w=w':=by
 have hz:=Zk s
 go_enter Tryz.func68,Tryz.ntmps68
 go_wp2
 go_loopw [1,5,6] (fun m f i wr=>∃ (k f0 n0:Nat),i = .int .i64 k/\f = .int .i64 f0/\m = .int .i64 n0/\f0<=k/\k<=s.length/\n0<=1000000/\Zso s n=Zjm ((s.drop f0).take (k - f0)) (s.drop k) n0/\w=wr) (fun _ _ i _=>s.length - (intOf i).toNat)
 case atStart=>exact ⟨0,0,n,rfl,rfl,rfl,Nat.le_refl _,Nat.zero_le _,hn,rfl,rfl⟩
 case round =>
  obtain ⟨k,f0,n0,rfl,rfl,rfl,hf,hk,hn0,hw,hwr⟩:=hrel
  subst hwr
  have HW:=Hq hw
  clear hw
  by_cases hlt:k<s.length
  · obtain ⟨c,hq⟩:∃ c,s[k]? = some c:=⟨_,List.getElem?_eq_getElem hlt⟩
    have hkb:k<(bs s).size:=by rw [Zk];exact hlt
    have hbk:(bs s)[k]'hkb=c:=by
     have:=(List.getElem?_eq_some_iff.1 hq).2
     rw [<- this]
     rfl
    have HQ:=Hq hq
    by_cases h32:c.toNat=32
    · have hb:((((bs s)[k]'hkb).toNat:Int) != 32)=false:=by rw [hbk,h32];rfl
      cases n0 with
      | zero =>
        have HR:=Hq (HW.out.trans (Zzw HQ.out h32))
        have hsl:∀ W:World,(Instr.slice 9 (.string (bs s)) (some (.int .i64 (f0:Int))) (some (.int .i64 (k:Int))) none).run Tryz.prog W = .ok (.string (bs ((s.drop f0).take (k - f0)))) W:=fun W=>by
         rw [run_slice_string W _ (bs s) .i64 .i64 (f0:Int) (k:Int) Jq (by omega) (by omega) (by rw [Zk];omega),Zbp,Xl];rfl
        clear hbk hq h32
        go_wp2
        go_ret
        rw [HR.out]
        exact ⟨rfl,rfl⟩
      | succ n1 =>
        have HR:=Hq (HW.out.trans (Zzx HQ.out h32))
        have e0:(((n1+1:Nat):Int) == 0)=false:=beq_eq_false_iff_ne.2 (by omega)
        clear hbk hq h32
        go_wp2
        exact ⟨⟨k+1,k+1,n1,by go_num,by go_num,by go_num,Nat.le_refl _,by omega,by omega,by rw [HR.out,Nat.sub_self,List.take_zero],trivial⟩,by simp [intOf];omega⟩
    · have hb:((((bs s)[k]'hkb).toNat:Int) != 32)=true:=by rw [hbk,bne_iff_ne];omega
      have HR:=Hq (HW.out.trans (Yjc HQ.out h32))
      clear hbk hq h32
      go_wp2
      exact ⟨⟨k+1,f0,n0,by go_num,rfl,rfl,by omega,by omega,hn0,by rw [HR.out,Yhr HQ.out hf],trivial⟩,by simp [intOf];omega⟩
  · have hkn:k=s.length:=by omega
    subst hkn
    have HR:=Hq (show Zso s n=[] by rw [HW.out,List.drop_length];rfl)
    clear hlt
    go_wp2
    go_ret
    rw [HR.out]
    exact ⟨rfl,rfl⟩
theorem Zyo:((List.range 46).all fun n=>(n == 3 || n == 5 || n == 7 || n == 8 || n == 14 || n == 15 || n == 16 || n == 17 || n == 19) || Ys (n:Int) == 0)=true:=by kernel_rfl
theorem Ycn {op:Int} (h3:op≠3) (h5:op≠5) (h7:op≠7) (h8:op≠8) (h14:op≠14) (h15:op≠15) (h16:op≠16) (h17:op≠17) (h19:op≠19):Ys op=0:=by
 by_cases hr:0<=op/\op<46
 · obtain ⟨n,rfl⟩:=Int.eq_ofNat_of_zero_le hr.1
   have:=List.all_eq_true.1 Zyo n (List.mem_range.2 (by omega))
   simp only [Bool.or_eq_true,beq_iff_eq] at this
   rcases this with (((((((h|h)|h)|h)|h)|h)|h)|h)|h <;> omega
 · unfold Ys
   rw [Zab hr]
theorem Zpx (op:Int) (w:World):Calls Tryz.prog 46 #[.int .i64 op] w fun e w'=>e = .returned (.int .i64 (Ys op))/\w=w':=by
 by_cases h:op=3\/op=5\/op=7\/op=8\/op=14\/op=15\/op=16\/op=17\/op=19
 · rcases h with rfl|rfl|rfl|rfl|rfl|rfl|rfl|rfl|rfl
   all_goals
    go_enter Tryz.func46,Tryz.ntmps46
    go_wp2
    go_ret
    exact ⟨rfl,rfl⟩
 · have HK:=Hq (Ycn (op:=op) (by omega) (by omega) (by omega) (by omega) (by omega) (by omega) (by omega) (by omega) (by omega))
   have e3:(op == 3)=false:=beq_eq_false_iff_ne.2 (by omega)
   have e5:(op == 5)=false:=beq_eq_false_iff_ne.2 (by omega)
   have e7:(op == 7)=false:=beq_eq_false_iff_ne.2 (by omega)
   have e8:(op == 8)=false:=beq_eq_false_iff_ne.2 (by omega)
   have e14:(op == 14)=false:=beq_eq_false_iff_ne.2 (by omega)
   have e15:(op == 15)=false:=beq_eq_false_iff_ne.2 (by omega)
   have e16:(op == 16)=false:=beq_eq_false_iff_ne.2 (by omega)
   have e17:(op == 17)=false:=beq_eq_false_iff_ne.2 (by omega)
   have e19:(op == 19)=false:=beq_eq_false_iff_ne.2 (by omega)
   clear h
   go_enter Tryz.func46,Tryz.ntmps46
   go_wp2
   go_ret
   rw [HK.out]
   exact ⟨rfl,rfl⟩
theorem Yca (k a b:Int) (hk:2<=k/\k<=6) (hb:bK k.toNat=b):Zdr k.toNat a=(decide (0<=a) && decide (a<b)):=by
 unfold Zdr
 rw [if_neg (by omega),if_neg (by omega),hb]
theorem Yfk (k a:Int) (hk:0<=k/\k<=6) (w:World):Calls Tryz.prog 70 #[.int .i64 k,.int .i64 a] w fun e w'=>e = .returned (.bool (Zdr k.toNat a))/\w=w':=by
 rcases (by omega:k=0\/k=1\/k=2\/k=3\/k=4\/k=5\/k=6) with rfl|rfl|rfl|rfl|rfl|rfl|rfl
 · go_enter Tryz.func70,Tryz.ntmps70
   go_wp2
   go_ret
   exact ⟨rfl,rfl⟩
 · go_enter Tryz.func70,Tryz.ntmps70
   go_wp2
   go_ret
   exact ⟨rfl,rfl⟩
 all_goals
  rw [Yca _ a _ (by decide) rfl]
  by_cases h0:0<=a
  · have HD:=Hq (decide_eq_true h0)
    go_enter Tryz.func70,Tryz.ntmps70
    go_wp2
    go_ret
    rw [HD.out,Bool.true_and]
    exact ⟨rfl,rfl⟩
  · have HD:=Hq (decide_eq_false h0)
    go_enter Tryz.func70,Tryz.ntmps70
    go_wp2
    go_ret
    rw [HD.out,Bool.false_and]
    exact ⟨rfl,rfl⟩
end Go.Proofs.YteciblfmgdlipaaGreatDoor.AS
