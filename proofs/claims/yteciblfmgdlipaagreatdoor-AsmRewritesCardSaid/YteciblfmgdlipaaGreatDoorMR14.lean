/-
  Part of a proof: contracts of functions and lemmas, each stated by its own theorem. Conditions: as each theorem states.
-/
import Derived.Test.YteciblfmgdlipaaGreatDoorMR13
import Derived.Test.YteciblfmgdlipaaGreatDoorMR11
import Derived.Test.YteciblfmgdlipaaGreatDoorMR04
import Derived.Test.YteciblfmgdlipaaGreatDoorMR10
set_option linter.unusedSimpArgs false
set_option linter.unusedVariables false
set_option maxRecDepth 100000
set_option maxHeartbeats 16000000
namespace Go.Proofs.YteciblfmgdlipaaGreatDoor.AS
open Go.RowKit Go.Great CK
theorem Ymg {nm:Txt} {P:PrP} {s:St} {w:Zjo} (h:Zlx nm P P.2.2.length s) (hw:Ypw nm P.2.2 w):∃ n F X,Zud s w=some n/\P.2.2[w.fn]? = some F/\F.2.2.2[w.pl]? = some X/\X.2=(n:Int):=by
 obtain ⟨F,X,hF,hX,h0,hw⟩:=hw
 obtain ⟨a,ha⟩:∃ a:Nat,X.2=a:=⟨X.2.toNat,by omega⟩
 refine ⟨a,F,X,?_,hF,hX,ha⟩
 rcases hw with ⟨j1,j2,j3,j4⟩|⟨j1,j2,j3,j4⟩
 · unfold Zud
   rw [if_pos j1,h.labels]
   have hL:(Zze nm P P.2.2.length).getD w.fn []=Zbr nm F.2.2.2 (F.2.2.2.length+1):=by
    unfold Zze
    rw [List.take_length,List.getD_eq_getElem?_getD,List.getElem?_map,hF];rfl
   rw [hL,j4,ha,Int.toNat_natCast,Zla (by omega) (Ydi (List.mem_of_getElem? hX) j2 ha)]
   rfl
 · unfold Zud
   rw [if_neg (by rw [j1];decide),h.names,j4,ha,Int.toNat_natCast,List.findIdx?_eq_some_iff_getElem]
   refine ⟨by rw [List.length_map,List.length_range];omega,by simp,fun j hj => ?_⟩
   simp only [List.getElem_map,List.getElem_range,beq_iff_eq]
   intro he
   exact absurd (Ydk he) (by omega)
structure ApF (ws:List Zjo) (fs Fs:List FnR):Prop where
 len:fs.length=Fs.length
 at_:∀ i f F,fs[i]? = some f->Fs[i]? = some F->f.1=F.1/\f.2.1=F.2.1/\f.2.2.1=F.2.2.1/\f.2.2.2.length=F.2.2.2.length /\
  ∀ p x X,f.2.2.2[p]? = some x->F.2.2.2[p]? = some X->x.1=X.1/\(x.2=X.2\/∃ w∈ws,w.fn=i/\w.pl=p)
theorem Ymy {fs Fs:List FnR} (h:ApF [] fs Fs):fs=Fs:=by
 refine List.ext_getElem? fun i => ?_
 cases hf:fs[i]? with
 | none=>rw [List.getElem?_eq_none_iff] at hf;rw [List.getElem?_eq_none (by have:=h.len;omega)]
 | some f =>
   have hi:=(List.getElem?_eq_some_iff.1 hf).1
   obtain ⟨F,hF⟩:∃ F,Fs[i]? = some F:=⟨_,List.getElem?_eq_getElem (by have:=h.len;omega)⟩
   rw [hF]
   obtain ⟨a1,a2,a3,a4,a5⟩:=h.at_ i f _ hf hF
   obtain ⟨f1,f2,f3,f4⟩:=f
   obtain ⟨F1,F2,F3,F4⟩:=F
   simp only at a1 a2 a3 a4 a5
   subst a1 a2 a3
   have:f4=F4:=by
    refine List.ext_getElem? fun p => ?_
    cases hx:f4[p]? with
    | none=>rw [List.getElem?_eq_none_iff] at hx;rw [List.getElem?_eq_none (by omega)]
    | some x =>
      have hp:=(List.getElem?_eq_some_iff.1 hx).1
      obtain ⟨X,hX⟩:∃ X,F4[p]? = some X:=⟨_,List.getElem?_eq_getElem (by omega)⟩
      rw [hX]
      obtain ⟨b1,b2⟩:=a5 p x _ hx hX
      rcases b2 with b2|⟨w,hw,_⟩
      · rw [<- Prod.ext b1 b2]
      · exact absurd hw (List.not_mem_nil)
   rw [this]
theorem Ymx {w:Zjo} {ws:List Zjo} {fs Fs:List FnR} {F:FnR} {X:Int × Int} {n:Nat} (h:ApF (w::ws) fs Fs) (hF:Fs[w.fn]? = some F) (hX:F.2.2.2[w.pl]? = some X) (hn:X.2=(n:Int)):ApF ws (Zsw fs w.fn w.pl n) Fs:=by
 have hFl:=(List.getElem?_eq_some_iff.1 hF).1
 have hl:=h.len
 obtain ⟨f,hf⟩:∃ f,fs[w.fn]? = some f:=⟨_,List.getElem?_eq_getElem (by omega)⟩
 obtain ⟨a1,a2,a3,a4,a5⟩:=h.at_ _ _ _ hf hF
 have hXl:=(List.getElem?_eq_some_iff.1 hX).1
 obtain ⟨x0,hx⟩:∃ x,f.2.2.2[w.pl]? = some x:=⟨_,List.getElem?_eq_getElem (by omega)⟩
 have hs:Zsw fs w.fn w.pl n=fs.set w.fn (f.1,f.2.1,f.2.2.1,f.2.2.2.set w.pl (x0.1,(n:Int))):=by
  unfold Zsw
  rw [hf]
  simp only [hx]
 obtain ⟨x1,x2⟩:=a5 _ _ _ hx hX
 rw [hs]
 refine ⟨by rw [List.length_set];exact hl,fun i g G hg hG => ?_⟩
 rw [List.getElem?_set] at hg
 by_cases hi:w.fn=i
 · rw [if_pos hi,if_pos (by omega)] at hg
   injection hg with hg
   subst hi
   rw [hF] at hG
   injection hG with hG
   subst hG
   subst hg
   refine ⟨a1,a2,a3,by show (f.2.2.2.set _ _).length=_;rw [List.length_set];exact a4,fun p y Y hy hY => ?_⟩
   replace hy:(f.2.2.2.set w.pl (x0.1,(n:Int)))[p]? = some y:=hy
   rw [List.getElem?_set] at hy
   by_cases hp:w.pl=p
   · rw [if_pos hp,if_pos (by omega)] at hy
     injection hy with hy
     subst hp
     rw [hX] at hY
     injection hY with hY
     subst hY
     subst hy
     exact ⟨x1,Or.inl hn.symm⟩
   · rw [if_neg hp] at hy
     obtain ⟨b1,b2⟩:=a5 p y Y hy hY
     refine ⟨b1,?_⟩
     rcases b2 with b2|⟨v,hv,v1,v2⟩
     · exact Or.inl b2
     · rcases List.mem_cons.1 hv with rfl|hv
       · exact absurd v2 hp
       · exact Or.inr ⟨v,hv,v1,v2⟩
 · rw [if_neg hi] at hg
   obtain ⟨c1,c2,c3,c4,c5⟩:=h.at_ i g G hg hG
   refine ⟨c1,c2,c3,c4,fun p y Y hy hY => ?_⟩
   obtain ⟨b1,b2⟩:=c5 p y Y hy hY
   refine ⟨b1,?_⟩
   rcases b2 with b2|⟨v,hv,v1,v2⟩
   · exact Or.inl b2
   · rcases List.mem_cons.1 hv with rfl|hv
     · exact absurd v1 hi
     · exact Or.inr ⟨v,hv,v1,v2⟩
theorem Ydp {nm:Txt} {P:PrP} {s:St} (h:Zlx nm P P.2.2.length s):∀ (ws:List Zjo) (fs:List FnR),(∀ w∈ws,Ypw nm P.2.2 w)->ApF ws fs P.2.2->Zrp s fs ws = .ok P.2.2
 | [],fs,_,ha=>by rw [Zrp,Ymy ha]
 | w::r,fs,hw,ha=>by
   obtain ⟨n,F,X,h1,h2,h3,h4⟩:=Ymg h (hw w (List.mem_cons_self ..))
   rw [Zrp,h1]
   exact Ydp h r _ (fun v hv=>hw v (List.mem_cons_of_mem _ hv)) (Ymx ha h2 h3 h4)
theorem Ymw {nm:Txt} {P:PrP} {s:St} (h:Zlx nm P P.2.2.length s):ApF s.wants s.funcs P.2.2:=by
 rw [h.funcs]
 unfold Zzf
 rw [List.take_length]
 refine ⟨by rw [List.length_map],fun i f F hf hF => ?_⟩
 rw [List.getElem?_map,hF] at hf
 injection hf with hf
 subst hf
 refine ⟨rfl,rfl,rfl,by show (F.2.2.2.map _).length=_;rw [List.length_map],fun p x X hx hX => ?_⟩
 replace hx:(F.2.2.2.map (Zzt P.2.2.length F.2.2.2.length))[p]? = some x:=hx
 rw [List.getElem?_map,hX] at hx
 injection hx with hx
 subst hx
 unfold Zzt
 by_cases hw:isW P.2.2.length F.2.2.2.length X=true
 · rw [if_pos hw]
   exact ⟨rfl,Or.inr (h.w2 i p F X hF hX (List.getElem?_eq_some_iff.1 hF).1 hw)⟩
 · rw [if_neg hw]
   exact ⟨rfl,Or.inl rfl⟩
theorem Zrj:∀ {fs:List FnR},Zpn fs=0->∀ f∈fs,fnE f=0
 | [],_,f,h=>absurd h (List.not_mem_nil)
 | g::r,h,f,hf=>by
   rw [Zpn] at h
   by_cases hg:fnE g=0
   · rw [if_pos hg] at h
     rcases List.mem_cons.1 hf with rfl|hf
     · exact hg
     · exact Zrj h f hf
   · rw [if_neg hg] at h;exact absurd h hg
theorem Zjx {f:FnR} (h:fnE f=0):(0<=f.1/\f.1<=16/\f.1<=f.2.1/\f.2.1<=64/\0<=f.2.2.1/\f.2.2.1<=1/\1<=f.2.2.2.length/\f.2.2.2.length<=4096)/\Zdz f.2.2.2=0:=by
 unfold fnE at h
 split at h
 · cases h
 · rename_i hb
   exact ⟨by omega,h⟩
theorem Zey {P:PrP} (h:Xg P.1 P.2.1.length P.2.2=0):(0<=P.1/\P.1<=65536/\(P.2.1.length:Int)<=P.1/\1<=P.2.2.length/\P.2.2.length<=64)/\∀ f∈P.2.2,fnE f=0:=by
 unfold Xg at h
 split at h
 · cases h
 · rename_i hb
   exact ⟨by omega,Zrj h⟩
theorem Ztk {nm:Txt} {P:PrP} {t:Txt} {ls:List Txt} (hP:Xg P.1 P.2.1.length P.2.2=0) (hn:t.length<=65536) (hc:Zcr t=ls++[[]]) (hr:RdL ls (Zxp nm P)) :
 Znc TT (fun p=>Xg p.1 p.2.1.length p.2.2) t = .ok P:=by
 obtain ⟨_,hF⟩:=Zey hP
 have hg:Zzq TT St0 (Zxp nm P++[[]]) (Zlx nm P P.2.2.length):=by
  unfold Zxp
  refine Jl (Jl (Zxd P) fun s h=>Zpv (fun f hf=>(Zjx (hF f hf)).2) _ s (Nat.le_refl _) h) fun s h=>Zfd fun n=>⟨s,rfl,h⟩
 obtain ⟨s,h1,h2⟩:=hg 1
 unfold Znc
 rw [if_neg (by omega),hc,Ycl (Zdh hr (.cons (Yjf true) .nil)),h1]
 simp only [Ydp h2 s.wants s.funcs h2.w1 (Ymw h2),h2.mem,h2.data]
 rw [if_pos hP]
def Zpo:Txt->Bool
 | []=>false
 | c::_=>Zea c
def rwC (A B nm:Txt):Txt->Txt
 | []=>[]
 | c::r=>(if c.toNat=9 then A else if c.toNat=32 then 32::B else if c.toNat=58 then B++[58] else if (c.toNat=76\/c.toNat=102)/\Zpo r=true then nm++[c] else [c])++rwC A B nm r
theorem Yji {c:UInt8} (h:okC c=true):c.toNat≠9/\c.toNat≠10/\c.toNat≠32/\c.toNat≠58:=by
 unfold okC at h
 simp only [Bool.and_eq_true,bne_iff_ne,ne_eq] at h
 obtain ⟨⟨⟨h1,h2⟩,h3⟩,h4⟩:=h
 exact ⟨fun e=>h1 (UInt8.toNat_inj.1 e),fun e=>h2 (UInt8.toNat_inj.1 e),fun e=>h3 (UInt8.toNat_inj.1 e),fun e=>h4 (UInt8.toNat_inj.1 e)⟩
theorem Xh (A B nm:Txt):∀ (t r:Txt),Zef t=true->Zpo r=false->rwC A B nm (t++r)=t++rwC A B nm r
 | [],r,_,_=>rfl
 | [c],r,h,hr=>by
   obtain ⟨h1,h2,h3,h4⟩:=Yji (show okC c=true from h)
   rw [List.singleton_append,rwC,if_neg h1,if_neg h3,if_neg h4,if_neg (by rw [hr];exact fun x=>absurd x.2 (by decide))]
 | c::d::t,r,h,hr=>by
   rw [Zef] at h
   simp only [Bool.and_eq_true] at h
   obtain ⟨⟨g1,g2⟩,g3⟩:=h
   obtain ⟨h1,h2,h3,h4⟩:=Yji g1
   have ih:=Xh A B nm (d::t) r g3 hr
   rw [List.cons_append,rwC,ih,if_neg h1,if_neg h3,if_neg h4,if_neg]
   · rfl
   · rintro ⟨k1,k2⟩
     have k2:Zea d=true:=k2
     have k3:(c == 76 || c == 102)=true:=by
      rcases k1 with k1|k1
      · have:c=76:=UInt8.toNat_inj.1 k1
        rw [this];rfl
      · have:c=102:=UInt8.toNat_inj.1 k1
        rw [this];rfl
     rw [k2,k3] at g2
     cases g2
theorem Yds {c:UInt8} (h:Zea c=true):okC c=true/\c≠76/\c≠102:=by
 unfold Zea Zmg at h
 simp at h
 refine ⟨?_,?_,?_⟩
 · unfold okC
   simp only [Bool.and_eq_true,bne_iff_ne,ne_eq]
   refine ⟨⟨⟨?_,?_⟩,?_⟩,?_⟩ <;> (rintro rfl;revert h;decide)
 · rintro rfl;revert h;decide
 · rintro rfl;revert h;decide
theorem Zez:∀ (t:Txt),(∀ c∈t,Zea c=true)->Zef t=true
 | [],_=>rfl
 | [c],h=>(Yds (h c (List.mem_cons_self ..))).1
 | c::d::t,h=>by
   obtain ⟨h1,h2,h3⟩:=Yds (h c (List.mem_cons_self ..))
   rw [Zef,h1,Zez (d::t) fun x hx=>h x (List.mem_cons_of_mem _ hx)]
   have:(c == 76 || c == 102)=false:=by simp [h2,h3]
   rw [this];rfl
theorem Zcy (n:Int):Zef (Lib.itoa n)=true:=by
 by_cases hn:n<0
 · have e:Lib.itoa n=45::Lib.decDigits n.natAbs:=by unfold Lib.itoa;rw [if_pos hn]
   rw [e]
   have h:=Zez _ (Xv n.natAbs).2
   cases hd:Lib.decDigits n.natAbs with
   | nil=>rfl
   | cons c r=>rw [hd] at h;rw [Zef,h];rfl
 · have e:Lib.itoa n=Lib.decDigits n.toNat:=by unfold Lib.itoa;rw [if_neg hn]
   rw [e]
   exact Zez _ (Xv _).2
theorem Zjs (A B nm:Txt) (c:UInt8) (hc:c.toNat=76\/c.toNat=102) (k:Nat) (r:Txt) (hr:Zpo r=false):rwC A B nm (c::(Lib.decDigits k++r))=nm++c::(Lib.decDigits k++rwC A B nm r):=by
 have hd:Zpo (Lib.decDigits k++r)=true:=by
  cases hd:Lib.decDigits k with
  | nil=>exact absurd hd (Xv k).1
  | cons d t=>exact (Zfv hd).1
 rw [rwC,if_neg (by omega),if_neg (by omega),if_neg (by omega),if_pos ⟨hc,hd⟩,Xh A B nm _ r (Zez _ (Xv k).2) hr]
 simp
theorem Zgp (A B nm r:Txt):rwC A B nm (32::r)=32::(B++rwC A B nm r):=by
 rw [rwC,if_neg (by decide),if_pos (by decide)];rfl
theorem Ykn (A B nm r:Txt):rwC A B nm (9::r)=A++rwC A B nm r:=by
 rw [rwC,if_pos (by decide)]
theorem Yau (A B nm r:Txt):rwC A B nm (58::r)=B++58::rwC A B nm r:=by
 rw [rwC,if_neg (by decide),if_neg (by decide),if_pos (by decide)];simp
def Yqs (E:Txt):Prop:=Rdn false E []/\Rdn true E []/\Zzr E
theorem Ymi {b c:Txt} (hb:Blk b) (hc:c=[]\/∃ r d,c=d::r/\d.toNat=59):Yqs (b++c):=by
 have h1:∀ ap,Rdn ap c []:=fun ap=>by
  rcases hc with rfl|⟨r,d,rfl,hd⟩
  · exact Yjf ap
  · exact Yks ap hd
 cases b with
 | nil =>
   refine ⟨h1 _,h1 _,fun d r h => ?_⟩
   rcases hc with rfl|⟨r',d',rfl,hd⟩
   · cases h
   · injection h with h _;subst h
     unfold tlB tlI Zjc Zmg;simp;omega
 | cons x b =>
   have hx:=hb x (List.mem_cons_self ..)
   have hb':Blk b:=fun d hd=>hb d (List.mem_cons_of_mem _ hd)
   refine ⟨Zgr hx (Zkl hb' (h1 _)),Zgr hx (Zkl hb' (h1 _)),fun d r h => ?_⟩
   injection h with h _;subst h
   unfold tlB tlI Zjc Zmg;simp;omega
theorem Zbe (r:Txt):Zzr (32::r):=fun c r h=>by injection h with h _;subst h;decide
theorem Ydr {B:Txt} (hB:Blk B) (r:Txt):Zzr (B++58::r):=by
 cases B with
 | nil=>exact fun c r h=>by injection h with h _;subst h;decide
 | cons x b =>
   intro c r h
   have hx:=hB x (List.mem_cons_self ..)
   injection h with h _;subst h
   unfold tlB tlI Zjc Zmg;simp;omega
theorem Zoi {B r:Txt} {ps:List Pc} (hB:Blk B) (h:Rdn true r ps):Rdn false (32::(B++r)) ps:=Zgr (Or.inl rfl) (Zkl hB h)
theorem Ybe {B r:Txt} {ps:List Pc} (hB:Blk B) (h:Rdn true r ps):Rdn false (B++58::r) (.colon::ps):=by
 cases B with
 | nil=>exact Zvc h
 | cons x b=>exact Zgr (hB x (List.mem_cons_self ..)) (Zkl (fun d hd=>hB d (List.mem_cons_of_mem _ hd)) (Zvc h))
def Ynn (nm l:Txt) (ps:List Pc):Prop:=∀ A B E,Blk A->Blk B->Yqs E->Rdn true (rwC A B nm l++E) ps
def Zye (mem:Int):Txt:=Xn++32::Lib.itoa mem
def Ymk (d:Txt):Txt:=Zdm++32::Zsm d
def Zrd (k:Nat) (f:FnR):Txt:=Zdy++32::102::(Lib.decDigits k++32::(Lib.itoa f.1++32::(Lib.itoa f.2.1++32::Lib.itoa f.2.2.1)))
def Zym (k:Nat):Txt:=76::(Lib.decDigits k++[58])
def Zua (nF nC:Nat) (x:Int × Int):Txt:=9::(Zbp x.1++Zcz nF nC (Yt x.1) x.2)
theorem Zix:Ziv Xn:=Zdl (by decide)
theorem Zxa:Ziv Zdm:=Zdl (by decide)
theorem Zmi:Ziv Zdy:=Zdl (by decide)
theorem Yon {nm:Txt} {mem:Int} (h0:0<=mem) (h1:mem<=65536):Ynn nm (Zye mem) [.word Xn,.num mem false]:=by
 intro A B E hA hB hE
 unfold Zye
 have hp:=Xh A B nm (Lib.itoa mem) [] (Zcy mem) rfl
 rw [List.append_nil] at hp
 rw [Xh A B nm Xn _ (by decide) (by rfl),Zgp,hp,show rwC A B nm []=[] from rfl,List.append_nil,List.append_assoc]
 refine Zaw Zix (Zbe _) ?_
 rw [List.cons_append,List.append_assoc]
 exact Zoi hB (Zqd (Zgx mem (by omega) (by omega)) hE.2.2 hE.1)
theorem Ylr {nm:Txt} (hn:Yey nm) (k:Nat) {f:FnR} (hf:fnE f=0):Ynn nm (Zrd k f) (Zub nm k f):=by
 obtain ⟨⟨b1,b2,b3,b4,b5,b6,_⟩,_⟩:=Zjx hf
 intro A B E hA hB hE
 unfold Zrd
 have hp:=Xh A B nm (Lib.itoa f.2.2.1) [] (Zcy _) rfl
 rw [List.append_nil] at hp
 rw [Xh A B nm Zdy _ (by decide) (by rfl),Zgp,Zjs A B nm 102 (Or.inr (by decide)) k _ (by rfl),Zgp,Xh A B nm (Lib.itoa f.1) _ (Zcy _) (by rfl),Zgp,Xh A B nm (Lib.itoa f.2.1) _ (Zcy _) (by rfl),Zgp,hp,show rwC A B nm []=[] from rfl,List.append_nil]
 simp only [List.append_assoc,List.cons_append]
 refine Zaw Zmi (Zbe _) (Zoi hB ?_)
 have e:∀ z:Txt,nm++102::(Lib.decDigits k++z)=fnW nm k++z:=fun z=>by unfold fnW;simp
 rw [e]
 refine Zaw (Yaf hn k) (Zbe _) (Zoi hB ?_)
 refine Zqd (Zgx _ (by omega) (by omega)) (Zbe _) (Zoi hB ?_)
 refine Zqd (Zgx _ (by omega) (by omega)) (Zbe _) (Zoi hB ?_)
 exact Zqd (Zgx _ (by omega) (by omega)) hE.2.2 hE.1
theorem Yoo {nm:Txt} (hn:Yey nm) (k:Nat):Ynn nm (Zym k) [.word (lbW nm k),.colon]:=by
 intro A B E hA hB hE
 unfold Zym
 rw [Zjs A B nm 76 (Or.inl (by decide)) k _ (by rfl),Yau,show rwC A B nm []=[] from rfl]
 simp only [List.append_assoc,List.cons_append,List.nil_append]
 have e:∀ z:Txt,nm++76::(Lib.decDigits k++z)=lbW nm k++z:=fun z=>by unfold lbW;simp
 rw [e]
 exact Zaw (Yad hn k) (Ydr hB _) (Ybe hB hE.2.1)
theorem Yop {nm:Txt} (hn:Yey nm) (nF nC:Nat) {x:Int × Int} {s:ByteArray × Int × Int × Int} (hs:Zr x.1=some s) (hm:Zdw s.2.1.toNat x.2=true) (hx:Zpp x.2):Ynn nm (Zua nF nC x) (Yht nm nF nC x):=by
 obtain ⟨hw,hp,_⟩:=Zou hs
 have hks:Yt x.1=s.2.1:=by unfold Yt;rw [hs]
 have h5:Yt x.1=5->0<=x.2/\x.2<5:=fun h=>by
  rw [hks] at h;rw [h] at hm;simpa [Zdw,bK] using hm
 have h34:Yt x.1=3\/Yt x.1=4->0<=x.2:=fun h=>by
  rcases h with h|h <;> (rw [hks] at h;rw [h] at hm;simp [Zdw] at hm;exact hm.1)
 intro A B E hA hB hE
 unfold Zua Yht Zcz Yqe
 rw [Ykn,List.append_assoc]
 refine Zkl hA ?_
 by_cases k0:Yt x.1=0
 · rw [if_pos k0,if_pos k0,Xh A B nm _ [] hp rfl,show rwC A B nm []=[] from rfl,List.append_nil]
   exact Zaw hw hE.2.2 hE.1
 rw [if_neg k0,if_neg k0]
 by_cases k3:Yt x.1=3/\x.2<=nC
 · rw [if_pos k3,if_pos k3]
   obtain ⟨a,ha⟩:∃ a:Nat,x.2=a:=⟨x.2.toNat,by have:=h34 (Or.inl k3.1);omega⟩
   have hq:=Zjs A B nm 76 (Or.inl (by decide)) a [] rfl
   rw [List.append_nil] at hq
   rw [ha,Zhd,Int.toNat_natCast,Xh A B nm _ _ hp (by rfl),Zgp,hq,show rwC A B nm []=[] from rfl]
   simp only [List.append_assoc,List.cons_append,List.nil_append]
   have e:∀ z:Txt,nm++76::(Lib.decDigits a++z)=lbW nm a++z:=fun z=>by unfold lbW;simp
   rw [e]
   exact Zaw hw (Zbe _) (Zoi hB (Zaw (Yad hn a) hE.2.2 hE.1))
 rw [if_neg k3,if_neg k3]
 by_cases k4:Yt x.1=4/\x.2<nF
 · rw [if_pos k4,if_pos k4]
   obtain ⟨a,ha⟩:∃ a:Nat,x.2=a:=⟨x.2.toNat,by have:=h34 (Or.inr k4.1);omega⟩
   have hq:=Zjs A B nm 102 (Or.inr (by decide)) a [] rfl
   rw [List.append_nil] at hq
   rw [ha,Zhd,Int.toNat_natCast,Xh A B nm _ _ hp (by rfl),Zgp,hq,show rwC A B nm []=[] from rfl]
   simp only [List.append_assoc,List.cons_append,List.nil_append]
   have e:∀ z:Txt,nm++102::(Lib.decDigits a++z)=fnW nm a++z:=fun z=>by unfold fnW;simp
   rw [e]
   exact Zaw hw (Zbe _) (Zoi hB (Zaw (Yaf hn a) hE.2.2 hE.1))
 rw [if_neg k4,if_neg k4]
 by_cases k5:Yt x.1=5
 · rw [if_pos k5,if_pos k5]
   obtain ⟨g1,g2⟩:=h5 k5
   obtain ⟨q1,q2,_⟩:=Zob g1 g2
   have hq:=Xh A B nm (Zzs x.2) [] q2 rfl
   rw [List.append_nil] at hq
   rw [Xh A B nm _ _ hp (by rfl),Zgp,hq,show rwC A B nm []=[] from rfl]
   simp only [List.append_assoc,List.cons_append,List.nil_append,List.append_nil]
   exact Zaw hw (Zbe _) (Zoi hB (Zaw q1 hE.2.2 hE.1))
 · rw [if_neg k5,if_neg k5]
   have hq:=Xh A B nm (Lib.itoa x.2) [] (Zcy _) rfl
   rw [List.append_nil] at hq
   rw [Xh A B nm _ _ hp (by rfl),Zgp,hq,show rwC A B nm []=[] from rfl]
   simp only [List.append_assoc,List.cons_append,List.nil_append,List.append_nil]
   exact Zaw hw (Zbe _) (Zoi hB (Zqd (Zgx _ hx.1 (by have:=hx.2;omega)) hE.2.2 hE.1))
def Zbt (ls:List Txt):Txt:=ls.flatMap fun l=>l++[10]
theorem Zcd (a b:List Txt):Zbt (a++b)=Zbt a++Zbt b:=List.flatMap_append
theorem Zhc (l:Txt):Zbt [l]=l++[10]:=by unfold Zbt;simp
theorem Zyu (l:Txt) (ls:List Txt):Zbt (l::ls)=(l++[10])++Zbt ls:=by unfold Zbt;rw [List.flatMap_cons]
theorem Zih (f:Nat->List Txt):∀ l:List Nat,Zbt (l.flatMap f)=l.flatMap fun k=>Zbt (f k)
 | []=>rfl
 | k::l=>by rw [List.flatMap_cons,List.flatMap_cons,Zcd,Zih f l]
def Zgh (l:Txt):Prop:=∀ c∈l,c.toNat≠10
theorem Yg {a b:Txt} (h:Zgh a) (g:Zgh b):Zgh (a++b):=fun c hc=>by
 rcases List.mem_append.1 hc with hc|hc
 · exact h c hc
 · exact g c hc
theorem Zy {a:UInt8} {b:Txt} (h:a.toNat≠10) (g:Zgh b):Zgh (a::b):=fun c hc=>by
 rcases List.mem_cons.1 hc with rfl|hc
 · exact h
 · exact g c hc
theorem Zrw:∀ (ls:List Txt),(∀ l∈ls,Zgh l)->Zcr (Zbt ls)=ls++[[]]
 | [],_=>rfl
 | l::ls,h=>by
   have e:Zbt (l::ls)=l++10::Zbt ls:=by unfold Zbt;rw [List.flatMap_cons];simp
   rw [e,Zrv l _ (h l (List.mem_cons_self ..)),Zrw ls fun x hx=>h x (List.mem_cons_of_mem _ hx)]
   rfl
def Ynk (nF:Nat) (code:List (Int × Int)) (k:Nat):List Txt:=(if Xp code k then [Zym k] else [])++(match code[k]? with|some x=>[Zua nF code.length x]|none=>[])
def Ydw (nF:Nat) (code:List (Int × Int)) (n:Nat):List Txt:=(List.range n).flatMap (Ynk nF code)
def Yqo (nF k:Nat) (f:FnR):List Txt:=Zrd k f::Ydw nF f.2.2.2 (f.2.2.2.length+1)
def Yhz (fs:List FnR) (n:Nat):List Txt:=(List.range n).flatMap fun k=>match fs[k]? with|some f=>Yqo fs.length k f|none=>[]
def Zoc (mem:Int) (d:Txt):List Txt:=[Zye mem]++(if d=[] then [] else [Ymk d])
def Zjb (p:PrP):List Txt:=Zoc p.1 p.2.1++Yhz p.2.2 p.2.2.length
theorem Ylc (nF:Nat) (code:List (Int × Int)) (k:Nat):Zbt (Ynk nF code k)=plT nF code k:=by
 unfold Ynk plT Zjm
 rw [Zcd]
 congr 1
 · split
   · rw [Zhc];unfold Zym;rw [Zhd];simp
   · rfl
 · cases code[k]? with
   | none=>rfl
   | some x =>
     show Zbt [Zua nF code.length x]=Zhq nF code.length x
     rw [Zhc];unfold Zua Zhq;simp
theorem Yme (nF k:Nat) (f:FnR):Zbt (Yqo nF k f)=fnT nF k f:=by
 unfold Yqo fnT Ydw Jz
 rw [Zyu,Zih]
 congr 1
 · unfold Zrd Xr Zdy;rw [Zhd];simp
 · congr 1
   funext j
   exact Ylc nF _ j
theorem Ybp (p:PrP):Zbt (Zjb p)=Zay p:=by
 unfold Zjb Zay Zoc Zdu Yhz Zba
 rw [Zcd,Zcd,Zhc,Zih]
 have e:Zye p.1++[10]=[109,101,109,111,114,121,32]++Lib.itoa p.1++[10]:=by unfold Zye Xn;simp
 rw [e]
 congr 1
 · congr 1
   · split
     · rfl
     · rw [Zhc];unfold Ymk Zdm;simp
 · congr 1
   funext k
   cases p.2.2[k]? with
   | none=>rfl
   | some f=>exact Yme _ k f
theorem Ypj {R:Txt->List Pc->Prop} (nm:Txt) (nF:Nat) (code:List (Int × Int)) (hl:∀ k,R (Zym k) [.word (lbW nm k),.colon]) (hi:∀ x∈code,R (Zua nF code.length x) (Yht nm nF code.length x)) (k:Nat):Al2 R (Ynk nF code k) (plP nm nF code k):=by
 unfold Ynk plP
 refine Zdh ?_ ?_
 · split
   · exact .cons (hl k) .nil
   · exact .nil
 · cases hx:code[k]? with
   | none=>exact .nil
   | some x=>exact .cons (hi x (List.mem_of_getElem? hx)) .nil
theorem Yiu {R:Txt->List Pc->Prop} (nm:Txt) (P:PrP) (hm:R (Zye P.1) [.word Xn,.num P.1 false]) (hd:P.2.1≠[]->R (Ymk P.2.1) [.word Zdm,.str P.2.1])
 (hh:∀ k,∀ f∈P.2.2,R (Zrd k f) (Zub nm k f)) (hl:∀ k,R (Zym k) [.word (lbW nm k),.colon]) (hi:∀ f∈P.2.2,∀ x∈f.2.2.2,R (Zua P.2.2.length f.2.2.2.length x) (Yht nm P.2.2.length f.2.2.2.length x)):Al2 R (Zjb P) (Zxp nm P):=by
 unfold Zjb Zxp Zoc Zut
 refine Zdh (Zdh (.cons hm .nil) ?_) ?_
 · split
   · exact .nil
   · rename_i h;exact .cons (hd h) .nil
 · unfold Yhz Ynl
   refine Zpk _ fun k _ => ?_
   cases hf:P.2.2[k]? with
   | none=>exact .nil
   | some f =>
     have hfm:=List.mem_of_getElem? hf
     refine .cons (hh k f hfm) ?_
     unfold Ydw Zsb
     exact Zpk _ fun j _=>Ypj nm _ _ hl (hi f hfm) j
theorem Zbc:Zgh []:=fun c h=>absurd h (List.not_mem_nil)
theorem Ztr {t:Txt} (h:∀ c∈t,tlB c=true):Zgh t:=fun c hc he=>by
 have:=h c hc
 unfold tlB tlI Zjc Zmg at this
 simp at this
 omega
theorem Zbo (n:Int):Zgh (Lib.itoa n):=by
 have hd:∀ u,Zgh (Lib.decDigits u):=fun u=>Ztr fun c hc=>Zrt ((Xv u).2 c hc)
 unfold Lib.itoa
 split
 · exact Zy (by decide) (hd _)
 · exact hd _
theorem Yde:∀ n:Fin 16,(Yjo n.val).toNat≠10:=by decide
theorem Yha (b:Txt):Zgh (Zsm b):=by
 unfold Zsm
 refine Zy (by decide) (Yg (fun c hc => ?_) (Zy (by decide) Zbc))
 obtain ⟨d,_,hd⟩:=List.mem_flatMap.1 hc
 unfold Zqf at hd
 have:=d.toNat_lt
 split at hd
 · simp at hd
   rcases hd with rfl|rfl
   · decide
   · omega
 · split at hd
   · simp at hd
     rcases hd with rfl|rfl|rfl|rfl
     · decide
     · decide
     · exact Yde ⟨d.toNat / 16,by omega⟩
     · exact Yde ⟨d.toNat % 16,by omega⟩
   · simp at hd
     subst hd
     omega
theorem Zdb {t:Txt} (h:Ziv t):Zgh t:=Ztr h.2
theorem Yhc (nF nC:Nat) (x:Int × Int) {s:ByteArray × Int × Int × Int} (hs:Zr x.1=some s) (hm:Zdw s.2.1.toNat x.2=true):Zgh (Zcz nF nC (Yt x.1) x.2):=by
 unfold Zcz
 have hks:Yt x.1=s.2.1:=by unfold Yt;rw [hs]
 split
 · exact Zbc
 split
 · exact Zy (by decide) (Zy (by decide) (Zbo _))
 split
 · exact Zy (by decide) (Zy (by decide) (Zbo _))
 split
 · rename_i h5
   have h:0<=x.2/\x.2<5:=by
    rw [hks] at h5;rw [h5] at hm;simpa [Zdw,bK] using hm
   exact Zy (by decide) (Zdb (Zob h.1 h.2).1)
 · exact Zy (by decide) (Zbo _)
structure OkP (P:PrP):Prop where
 e:Xg P.1 P.2.1.length P.2.2=0
 r:∀ f∈P.2.2,∀ x∈f.2.2.2,Zpp x.2
theorem Ybz {P:PrP} (h:OkP P):∀ f∈P.2.2,∀ x∈f.2.2.2,∃ s,Zr x.1=some s/\Zdw s.2.1.toNat x.2=true:=fun f hf x hx =>
 Zip (Zjx ((Zey h.e).2 f hf)).2 x hx
theorem Ypk {nm:Txt} (hn:Yey nm) {P:PrP} (h:OkP P) (hd:P.2.1=[]):Al2 (Ynn nm) (Zjb P) (Zxp nm P):=by
 obtain ⟨⟨b1,b2,_⟩,hf⟩:=Zey h.e
 refine Yiu nm P (Yon b1 b2) (fun g=>absurd hd g) (fun k f hm=>Ylr hn k (hf f hm)) (fun k=>Yoo hn k) fun f hm x hx => ?_
 obtain ⟨s,g1,g2⟩:=Ybz h f hm x hx
 exact Yop hn _ _ g1 g2 (h.r f hm x hx)
theorem Zqq {P:PrP} (h:OkP P):∀ l∈Zjb P,Zgh l:=by
 intro l hl
 unfold Zjb Zoc Yhz at hl
 have hw:Zgh Xn/\Zgh Zdm/\Zgh Zdy:=⟨Zdb Zix,Zdb Zxa,Zdb Zmi⟩
 have hd:∀ u,Zgh (Lib.decDigits u):=fun u=>Ztr fun c hc=>Zrt ((Xv u).2 c hc)
 rcases List.mem_append.1 hl with hl|hl
 · rcases List.mem_append.1 hl with hl|hl
   · simp at hl;subst hl
     exact Yg hw.1 (Zy (by decide) (Zbo _))
   · split at hl
     · simp at hl
     · simp at hl;subst hl
       exact Yg hw.2.1 (Zy (by decide) (Yha _))
 · obtain ⟨k,_,hk⟩:=List.mem_flatMap.1 hl
   cases hf:P.2.2[k]? with
   | none=>rw [hf] at hk;simp at hk
   | some f =>
     rw [hf] at hk
     have hm:=List.mem_of_getElem? hf
     rcases List.mem_cons.1 hk with rfl|hk
     · exact Yg hw.2.2 (Zy (by decide) (Zy (by decide) (Yg (hd _) (Zy (by decide) (Yg (Zbo _) (Zy (by decide) (Yg (Zbo _) (Zy (by decide) (Zbo _)))))))))
     · obtain ⟨j,_,hj⟩:=List.mem_flatMap.1 hk
       unfold Ynk at hj
       rcases List.mem_append.1 hj with hj|hj
       · split at hj
         · simp at hj;subst hj
           exact Zy (by decide) (Yg (hd _) (Zy (by decide) Zbc))
         · simp at hj
       · cases hx:f.2.2.2[j]? with
         | none=>rw [hx] at hj;simp at hj
         | some x =>
           rw [hx] at hj
           simp at hj;subst hj
           obtain ⟨s,g1,g2⟩:=Ybz h f hm x (List.mem_of_getElem? hx)
           exact Zy (by decide) (Yg (Zdb (Zou g1).w) (Yhc _ _ _ g1 g2))
def Zeq (n:Int):Txt:=match (n % 6).toNat with
 | 0=>[]
 | 1=>[32]
 | 2=>[9]
 | 3=>[32,32]
 | 4=>[13]
 | _=>[32,9,32,13]
theorem Zfg (n:Int):Blk (Zeq n):=by
 unfold Zeq Blk
 split <;> (intro c hc;simp at hc) <;> (try (rcases hc with rfl|rfl|rfl|rfl)) <;> (try (rcases hc with rfl|rfl)) <;> (try subst hc) <;> decide
def Yfx:Txt:=[59,32,110,111,32,34,119,111,114,100,58,32,255]
def Ymv (n:Int):Txt:=Zeq n++(if n % 2=0 then [] else Yfx)
theorem Yid (n:Int):Yqs (Ymv n):=Ymi (Zfg n) (by
 split
 · exact Or.inl rfl
 · exact Or.inr ⟨_,_,rfl,by decide⟩)
abbrev Zlu:=Int × Int × Int
def Zht (ways:List Zlu) (n:Nat):Zlu:=ways.getD (n % ways.length) (0,0,0)
def Zdk (ways:List Zlu) (nm:Txt):Nat->Txt->Txt
 | _,[]=>[]
 | n,c::r =>
   if c.toNat=10 then Ymv (Zht ways n).2.2++10::Zdk ways nm (n+1) r
   else (if c.toNat=9 then Zeq (Zht ways n).1 else if c.toNat=32 then 32::Zeq (Zht ways n).2.1 else if c.toNat=58 then Zeq (Zht ways n).2.1++[58] else if (c.toNat=76\/c.toNat=102)/\Zpo r=true then nm++[c] else [c])++Zdk ways nm n r
def Zxi (ways:List Zlu) (nm:Txt):Nat->List Txt->List Txt
 | _,[]=>[]
 | n,l::ls=>(rwC (Zeq (Zht ways n).1) (Zeq (Zht ways n).2.1) nm l++Ymv (Zht ways n).2.2)::Zxi ways nm (n+1) ls
theorem Yif (l r:Txt):Zpo (l++10::r)=Zpo l:=by
 cases l with
 | nil=>rfl
 | cons c l=>rfl
theorem Zqb (ways:List Zlu) (nm:Txt) (n:Nat) (r:Txt):∀ (l:Txt),Zgh l->Zdk ways nm n (l++10::r)=(rwC (Zeq (Zht ways n).1) (Zeq (Zht ways n).2.1) nm l++Ymv (Zht ways n).2.2)++10::Zdk ways nm (n+1) r
 | [],_=>by
   rw [List.nil_append,Zdk,if_pos (by decide)]
   rfl
 | c::l,h=>by
   rw [List.cons_append,Zdk,if_neg (h c (List.mem_cons_self ..)),Zqb ways nm n r l fun d hd=>h d (List.mem_cons_of_mem _ hd),Yif,rwC]
   simp only [List.append_assoc]
theorem Zqc (ways:List Zlu) (nm:Txt):∀ (ls:List Txt) (n:Nat),(∀ l∈ls,Zgh l)->Zdk ways nm n (Zbt ls)=Zbt (Zxi ways nm n ls)
 | [],n,_=>rfl
 | l::ls,n,h=>by
   have e:∀ (x:Txt) (y:List Txt),Zbt (x::y)=x++10::Zbt y:=fun x y=>by unfold Zbt;rw [List.flatMap_cons];simp
   rw [e,Zqb ways nm n _ l (h l (List.mem_cons_self ..)),Zqc ways nm ls (n+1) fun x hx=>h x (List.mem_cons_of_mem _ hx),Zxi,e]
theorem Ynb (ways:List Zlu) {nm:Txt} {ls:List Txt} {qs:List (List Pc)} (h:Al2 (Ynn nm) ls qs):∀ n,RdL (Zxi ways nm n ls) qs:=by
 induction h with
 | nil=>exact fun _ => .nil
 | cons h _ ih=>exact fun n => .cons (h _ _ _ (Zfg _) (Zfg _) (Yid _)) (ih _)
theorem Zot {b:Txt} (h:Blk b):Zgh b:=fun c hc=>by have:=h c hc;omega
theorem Zvq {A B nm:Txt} (hA:Zgh A) (hB:Zgh B) (hn:Zgh nm):∀ (l:Txt),Zgh l->Zgh (rwC A B nm l)
 | [],_=>Zbc
 | c::l,h=>by
   rw [rwC]
   refine Yg ?_ (Zvq hA hB hn l fun d hd=>h d (List.mem_cons_of_mem _ hd))
   split
   · exact hA
   split
   · exact Zy (by decide) hB
   split
   · exact Yg hB (Zy (by decide) Zbc)
   split
   · exact Yg hn (Zy (h c (List.mem_cons_self ..)) Zbc)
   · exact Zy (h c (List.mem_cons_self ..)) Zbc
theorem Yhd (n:Int):Zgh (Ymv n):=by
 refine Yg (Zot (Zfg n)) ?_
 split
 · exact Zbc
 · intro c hc
   revert c
   decide
theorem Zvr (ways:List Zlu) {nm:Txt} (hn:Zgh nm):∀ (ls:List Txt) (n:Nat),(∀ l∈ls,Zgh l)->∀ l∈Zxi ways nm n ls,Zgh l
 | [],n,_,l,hl=>absurd hl (List.not_mem_nil)
 | x::ls,n,h,l,hl=>by
   rw [Zxi] at hl
   rcases List.mem_cons.1 hl with rfl|hl
   · exact Yg (Zvq (Zot (Zfg _)) (Zot (Zfg _)) hn x (h x (List.mem_cons_self ..))) (Yhd _)
   · exact Zvr ways hn ls (n+1) (fun y hy=>h y (List.mem_cons_of_mem _ hy)) l hl
theorem Yhb {nm:Txt} (h:Yey nm):Zgh nm:=by
 rcases h with rfl|h
 · exact Zbc
 · exact Zdb h
theorem Yoe {P:PrP} (h:OkP P) (hd:P.2.1=[]) (ways:List Zlu) {nm:Txt} (hnm:Yey nm) (hn:(Zdk ways nm 0 (Zay P)).length<=65536) :
 Znc TT (fun p=>Xg p.1 p.2.1.length p.2.2) (Zdk ways nm 0 (Zay P)) = .ok P:=by
 have e:=Zqc ways nm (Zjb P) 0 (Zqq h)
 rw [Ybp] at e
 exact Ztk (nm:=nm) h.e hn (by rw [e];exact Zrw _ (Zvr ways (Yhb hnm) _ 0 (Zqq h))) (Ynb ways (Ypk hnm h hd) 0)
theorem Zrq:∀ (l:List (Int × Int)),Zdz l=0\/Zdz l=111\/Zdz l=112
 | []=>Or.inl rfl
 | x::r=>by
   unfold Zdz
   split
   · exact Or.inr (Or.inl rfl)
   · split
     · exact Zrq r
     · exact Or.inr (Or.inr rfl)
theorem Zrk:∀ (l:List FnR),Zpn l≠2
 | []=>by decide
 | f::r=>by
   rw [Zpn]
   split
   · exact Zrk r
   · unfold fnE
     split
     · decide
     · have:=Zrq f.2.2.2
       omega
theorem Zxq (P:PrP):Xg P.1 P.2.1.length P.2.2≠2:=by
 unfold Xg
 split
 · decide
 · exact Zrk _
inductive PrtC (P:PrP):Prop
 | ok (h:Zcw P = .ok (Zay P)) (e:Xg P.1 P.2.1.length P.2.2=0) (l:(Zay P).length<=65536)
 | long (h:Zcw P = .error 2) (e:Xg P.1 P.2.1.length P.2.2=0)
 | bad (y:Int) (h:Zcw P = .error y) (e:Xg P.1 P.2.1.length P.2.2=y) (h0:y≠0) (h2:y≠2)
theorem Ybo (P:PrP):PrtC P:=by
 by_cases he:Xg P.1 P.2.1.length P.2.2=0
 · by_cases hl:65536<(Zay P).length
   · exact .long (by unfold Zcw;rw [if_neg (by simpa using he),if_pos hl]) he
   · exact .ok (by unfold Zcw;rw [if_neg (by simpa using he),if_neg hl]) he (by omega)
 · exact .bad _ (by unfold Zcw;rw [if_pos he]) rfl he (Zxq P)
def Zjk:Txt->Txt->Nat->Txt
 | _,[],_=>[]
 | cur,c::r,n=>if c.toNat=32 then (if n=0 then cur else Zjk [] r (n - 1)) else Zjk (cur++[c]) r n
def Zsq (s:Txt) (n:Nat):Txt:=Zjk [] s n
def namesT:Txt:=(([110,111,112,32,104,97,108,116,32,97,98,111,114,116,32,110,117,109,32,112,111,112,32,99,111,112,121,32,115,119,97,112,32,103,101,116,32,115,101,116,32,108,111,97,100,32,115,116,111,114,101,32].append [108,111,97,100,56,32,115,116,111,114,101,56,32,115,105,122,101,32,106,117,109,112,32,122,101,114,111,32,110,111,116,122,101,114,111,32,99,97,108,108,32,114,101,116,32,115,121,115,32,97,100,100,32]).append ([115,117,98,32,109,117,108,32,100,105,118,32,114,101,109,32,97,110,100,32,111,114,32,120,111,114,32,115,104,108,32,115,104,114,32,117,115,104,114,32,101,113,32,108,116,32,117,108,116,32,110,101].append [103,32,110,111,116,32,102,97,100,100,32,102,115,117,98,32,102,109,117,108,32,102,100,105,118,32,102,101,113,32,102,108,116,32,102,110,101,103,32,102,114,111,111,116,32,116,111,102,32,116,111,105,32]))
theorem Zts:((List.range 46).all fun i=>(shapeT[i]?).any fun s=>s.1.data.toList == Zsq namesT i)=true:=by kernel_rfl
theorem Yac {i:Nat} {r:ShR} (h:shapeT[i]? = some r):bs (Zsq namesT i)=r.1:=by
 have hi:i<46:=by have:=(List.getElem?_eq_some_iff.1 h).1;rw [Zbj] at this;exact this
 have:=List.all_eq_true.1 Zts i (List.mem_range.2 hi)
 rw [h] at this
 have e:r.1.data.toList=Zsq namesT i:=by simpa using this
 rw [<- e];rfl
theorem Yaa {cur s:Txt} {k:Nat} {c:UInt8} (h:s[k]? = some c) (hc:c.toNat=32):Zjk cur (s.drop k) 0=cur:=by
 rw [Yb h,Zjk,if_pos hc,if_pos rfl]
theorem Yab {cur s:Txt} {k n:Nat} {c:UInt8} (h:s[k]? = some c) (hc:c.toNat=32):Zjk cur (s.drop k) (n+1)=Zjk [] (s.drop (k+1)) n:=by
 rw [Yb h,Zjk,if_pos hc,if_neg (by omega)];rfl
theorem Yjw {cur s:Txt} {k n:Nat} {c:UInt8} (h:s[k]? = some c) (hc:¬ c.toNat=32):Zjk cur (s.drop k) n=Zjk (cur++[c]) (s.drop (k+1)) n:=by
 rw [Yb h,Zjk,if_neg hc]
theorem Yii {s:Txt} {f k:Nat} {c:UInt8} (h:s[k]? = some c) (hf:f<=k):(s.drop f).take (k+1 - f)=(s.drop f).take (k - f)++[c]:=by
 rw [show k+1 - f=(k - f)+1 by omega,List.take_add_one,List.getElem?_drop,show f+(k - f)=k by omega,h];rfl
theorem Yfb (s:Txt) (hs:s.length<=1000000) (n:Nat) (hn:n<=1000000) (w:World):Calls Tryz.prog 68 #[.string (bs s),.int .i64 n] w fun e w'=>e = .returned (.string (bs (Zsq s n)))/\w=w':=by
 have hz:=Zi s
 go_enter Tryz.func68,Tryz.ntmps68
 go_wp2
 go_loopw [1,5,6] (fun m f i wr=>∃ (k f0 n0:Nat),i = .int .i64 k/\f = .int .i64 f0/\m = .int .i64 n0/\f0<=k/\k<=s.length/\n0<=1000000/\Zsq s n=Zjk ((s.drop f0).take (k - f0)) (s.drop k) n0/\w=wr) (fun _ _ i _=>s.length - (intOf i).toNat)
 case atStart=>exact ⟨0,0,n,rfl,rfl,rfl,Nat.le_refl _,Nat.zero_le _,hn,rfl,rfl⟩
 case round =>
  obtain ⟨k,f0,n0,rfl,rfl,rfl,hf,hk,hn0,hw,hwr⟩:=hrel
  subst hwr
  have HW:=Hq hw
  clear hw
  by_cases hlt:k<s.length
  · obtain ⟨c,hq⟩:∃ c,s[k]? = some c:=⟨_,List.getElem?_eq_getElem hlt⟩
    have hkb:k<(bs s).size:=by rw [Zi];exact hlt
    have hbk:(bs s)[k]'hkb=c:=by
     have:=(List.getElem?_eq_some_iff.1 hq).2
     rw [<- this]
     rfl
    have HQ:=Hq hq
    by_cases h32:c.toNat=32
    · have hb:((((bs s)[k]'hkb).toNat:Int) != 32)=false:=by rw [hbk,h32];rfl
      cases n0 with
      | zero =>
        have HR:=Hq (HW.out.trans (Yaa HQ.out h32))
        have hsl:∀ W:World,(Instr.slice 9 (.string (bs s)) (some (.int .i64 (f0:Int))) (some (.int .i64 (k:Int))) none).run Tryz.prog W = .ok (.string (bs ((s.drop f0).take (k - f0)))) W:=fun W=>by
         rw [run_slice_string W _ (bs s) .i64 .i64 (f0:Int) (k:Int) Jf (by omega) (by omega) (by rw [Zi];omega),Zbh,Xd];rfl
        clear hbk hq h32
        go_wp2
        go_ret
        rw [HR.out]
        exact ⟨rfl,rfl⟩
      | succ n1 =>
        have HR:=Hq (HW.out.trans (Yab HQ.out h32))
        have e0:(((n1+1:Nat):Int) == 0)=false:=beq_eq_false_iff_ne.2 (by omega)
        clear hbk hq h32
        go_wp2
        exact ⟨⟨k+1,k+1,n1,by go_num,by go_num,by go_num,Nat.le_refl _,by omega,by omega,by rw [HR.out,Nat.sub_self,List.take_zero],trivial⟩,by simp [intOf];omega⟩
    · have hb:((((bs s)[k]'hkb).toNat:Int) != 32)=true:=by rw [hbk,bne_iff_ne];omega
      have HR:=Hq (HW.out.trans (Yjw HQ.out h32))
      clear hbk hq h32
      go_wp2
      exact ⟨⟨k+1,f0,n0,by go_num,rfl,rfl,by omega,by omega,hn0,by rw [HR.out,Yii HQ.out hf],trivial⟩,by simp [intOf];omega⟩
  · have hkn:k=s.length:=by omega
    subst hkn
    have HR:=Hq (show Zsq s n=[] by rw [HW.out,List.drop_length];rfl)
    clear hlt
    go_wp2
    go_ret
    rw [HR.out]
    exact ⟨rfl,rfl⟩
theorem Zyo:((List.range 46).all fun n=>(n == 3 || n == 5 || n == 7 || n == 8 || n == 14 || n == 15 || n == 16 || n == 17 || n == 19) || Yt (n:Int) == 0)=true:=by kernel_rfl
theorem Ycu {op:Int} (h3:op≠3) (h5:op≠5) (h7:op≠7) (h8:op≠8) (h14:op≠14) (h15:op≠15) (h16:op≠16) (h17:op≠17) (h19:op≠19):Yt op=0:=by
 by_cases hr:0<=op/\op<46
 · obtain ⟨n,rfl⟩:=Int.eq_ofNat_of_zero_le hr.1
   have:=List.all_eq_true.1 Zyo n (List.mem_range.2 (by omega))
   simp only [Bool.or_eq_true,beq_iff_eq] at this
   rcases this with (((((((h|h)|h)|h)|h)|h)|h)|h)|h <;> omega
 · unfold Yt
   rw [Zaa hr]
theorem Zqa (op:Int) (w:World):Calls Tryz.prog 46 #[.int .i64 op] w fun e w'=>e = .returned (.int .i64 (Yt op))/\w=w':=by
 by_cases h:op=3\/op=5\/op=7\/op=8\/op=14\/op=15\/op=16\/op=17\/op=19
 · rcases h with rfl|rfl|rfl|rfl|rfl|rfl|rfl|rfl|rfl
   all_goals
    go_enter Tryz.func46,Tryz.ntmps46
    go_wp2
    go_ret
    exact ⟨rfl,rfl⟩
 · have HK:=Hq (Ycu (op:=op) (by omega) (by omega) (by omega) (by omega) (by omega) (by omega) (by omega) (by omega) (by omega))
   have e3:(op == 3)=false:=beq_eq_false_iff_ne.2 (by omega)
   have e5:(op == 5)=false:=beq_eq_false_iff_ne.2 (by omega)
   have e7:(op == 7)=false:=beq_eq_false_iff_ne.2 (by omega)
   have e8:(op == 8)=false:=beq_eq_false_iff_ne.2 (by omega)
   have e14:(op == 14)=false:=beq_eq_false_iff_ne.2 (by omega)
   have e15:(op == 15)=false:=beq_eq_false_iff_ne.2 (by omega)
   have e16:(op == 16)=false:=beq_eq_false_iff_ne.2 (by omega)
   have e17:(op == 17)=false:=beq_eq_false_iff_ne.2 (by omega)
   have e19:(op == 19)=false:=beq_eq_false_iff_ne.2 (by omega)
   clear h
   go_enter Tryz.func46,Tryz.ntmps46
   go_wp2
   go_ret
   rw [HK.out]
   exact ⟨rfl,rfl⟩
theorem Ych (k a b:Int) (hk:2<=k/\k<=6) (hb:bK k.toNat=b):Zdw k.toNat a=(decide (0<=a) && decide (a<b)):=by
 unfold Zdw
 rw [if_neg (by omega),if_neg (by omega),hb]
theorem Yfr (k a:Int) (hk:0<=k/\k<=6) (w:World):Calls Tryz.prog 70 #[.int .i64 k,.int .i64 a] w fun e w'=>e = .returned (.bool (Zdw k.toNat a))/\w=w':=by
 rcases (by omega:k=0\/k=1\/k=2\/k=3\/k=4\/k=5\/k=6) with rfl|rfl|rfl|rfl|rfl|rfl|rfl
 · go_enter Tryz.func70,Tryz.ntmps70
   go_wp2
   go_ret
   exact ⟨rfl,rfl⟩
 · go_enter Tryz.func70,Tryz.ntmps70
   go_wp2
   go_ret
   exact ⟨rfl,rfl⟩
 all_goals
  rw [Ych _ a _ (by decide) rfl]
  by_cases h0:0<=a
  · have HD:=Hq (decide_eq_true h0)
    go_enter Tryz.func70,Tryz.ntmps70
    go_wp2
    go_ret
    rw [HD.out,Bool.true_and]
    exact ⟨rfl,rfl⟩
  · have HD:=Hq (decide_eq_false h0)
    go_enter Tryz.func70,Tryz.ntmps70
    go_wp2
    go_ret
    rw [HD.out,Bool.false_and]
    exact ⟨rfl,rfl⟩
end Go.Proofs.YteciblfmgdlipaaGreatDoor.AS
