/-
  Part of a proof: contracts of functions and lemmas, each stated by its own theorem. Conditions: as each theorem states.
-/
import Derived.Test.YteciblfmgdlipaaGreatDoorMN09
import Derived.Test.YteciblfmgdlipaaGreatDoorMN08
import Derived.Test.YteciblfmgdlipaaGreatDoorMN06
import Derived.LaidEql
import Derived.Lib.IfaceEq
import Derived.WalkKit
set_option linter.unusedSimpArgs false
set_option linter.unusedVariables false
set_option maxRecDepth 100000
set_option maxHeartbeats 16000000
namespace Go.Proofs.YteciblfmgdlipaaGreatDoor.AS
open Go.RowKit Go.Great CK
theorem Zuh {q:Pc} (h:pcK q=0):∃ t,q = .word t:=by cases q <;> simp [pcK] at h;exact ⟨_,rfl⟩
theorem Ybj {q:Pc} (h:pcK q≠0) (c:CS) (x:Option Int) (rest:List Pc):Zcu c x (q::rest)=none:=by
 cases q <;> first|rfl|(simp [pcK] at h)
theorem Zgm (w0 w:World) (p m:Nat) (c:CS) (x:Option Int) (ps:List Pc) (pp:Option Addr) (cc:Nat) (h:PS w0 w p m c (Zcp x)) (hp:Zey w pp ps) (hn:ps.length<=70000) (hcc:ps.length<=cc) (hN:∀ t,.word t∈ps->t.length<=1000000) (hm:m+2<=1000000) :
 Calls Tryz.prog 79 #[.pointer (some ⟨p,0,none⟩),.slice pp ps.length cc] w (Zp w0 w p (m+2) (Zcu c x ps)):=by
 have HS:=Hq h
 by_cases hl:ps.length=4
 · obtain ⟨q,rest,rfl⟩:∃ q rest,ps=q::rest:=by
    cases ps with
    | nil=>simp at hl
    | cons a r=>exact ⟨a,r,rfl⟩
   have hl3:rest.length=3:=by simpa using hl
   obtain ⟨b,o,rfl,hb,d0,d1,d2,d3⟩:=Yx hp (i:=0) (q:=q) rfl
   simp only [Nat.zero_mul,Nat.add_zero] at d0 d1 d2 d3
   by_cases hk:pcK q=0
   · obtain ⟨nm,rfl⟩:=Zuh hk
     rw [hl]
     cases hnum:Zbo rest 3 with
     | some xs =>
       have hx:xs.length=3:=by
        unfold Zbo at hnum
        split at hnum
        · injection hnum with hnum
          subst hnum;rw [List.length_map];omega
        · cases hnum
       match xs,hx with
       | [na,nl,nr],_=>exact Ygl w0 w p m c x nm rest na nl nr b o cc h hp hl3 (by omega) hnum (hN nm (by simp)) hm
     | none =>
       have HR:=Hq (show Zcu c x (.word nm::rest)=none by unfold Zcu;simp only [hnum])
       have NM:=Hq (show ∀ cc',Calls Tryz.prog 113 #[.pointer (some ⟨p,0,none⟩),.slice (some ⟨b,o+4,none⟩) 3 cc',.int .i64 3] w fun e w' =>
        (e = .returned (.tuple #[.slice none 0 0,Zod 141])/\∃ x',PS w0 w' p m c (Zcp x'))/\w.grownBy w' (some p) from fun cc'=>by
        have:=Zds w0 w p m c x rest (some ⟨b,o+4,none⟩) cc' 3 h (Zkq hp) (by omega) (by decide)
        rw [hl3] at this
        unfold Zex at this
        rw [hnum] at this
        exact this)
       have hci:(4:Int)<=cc:=by omega
       simp only [pcK,pcT,pcN,pcF] at d0 d1 d2 d3
       clear h hp hnum hl hl3 hk hcc
       go_enter Tryz.func79,Tryz.ntmps79
       go_wp2_with (go_at_call 113;refine (NM.out _).mono ?_;rintro e w2 ⟨⟨rfl,x',hps⟩,hg⟩;have S2:=Hq hps;have G2:=Hq hg;clear hps hg)
       go_ret
       rw [HR.out]
       exact ⟨rfl,Zau HS.out G2.out,Zag S2.out⟩
   · have HR:=Hq (Ybj hk c x rest)
     have hb2:(pcK q != 0)=true:=by rw [bne_iff_ne];exact hk
     rw [hl]
     generalize pcK q=v0 at *
     generalize bs (pcT q)=v1 at *
     generalize pcN q=v2 at *
     generalize pcF q=v3 at *
     clear hp hk h hl hl3
     go_enter Tryz.func79,Tryz.ntmps79
     go_wp2
     go_ret
     rw [HR.out]
     exact ⟨rfl,Zft _,Zag HS.out⟩
 · have HR:=Hq (show Zcu c x ps=none by
    unfold Zcu
    split
    · rename_i nm rest
      have:Zbo rest 3=none:=by
       unfold Zbo
       rw [if_neg]
       rintro ⟨h1,_⟩
       simp at hl;omega
      simp only [this]
    · rfl)
   have hb:((ps.length:Int) != 4)=true:=by rw [bne_iff_ne];omega
   clear hl hp h
   go_enter Tryz.func79,Tryz.ntmps79
   go_wp2
   go_ret
   rw [HR.out]
   exact ⟨rfl,Zft _,Zag HS.out⟩
theorem Zvp {q:Pc} (h:pcK q=1):∃ v b,q = .num v b:=by cases q <;> simp [pcK] at h;exact ⟨_,_,rfl⟩
theorem Ygk (w0 ww w:World) (p m k gF cF b o b9 bi cc:Nat) (line:Int) (c:CS) (x:Option Int) (n:Nat) (kd:Int) (q0:Pc) (vd vL vB:Value) (bm:Nat) (cv:List Value) (lb:List Nat) (vc:Value) (rest:List Pc)
 (h:Zdc w0 ww w p m k gF cF b o b9 bi c x n kd q0 rest vd vL vB bm cv lb vc) (hcc:rest.length+1<=cc) (hl:rest.length<=70000) (hm:m+2<=1000000) (R:Option (CS × Option Int)) (hR:R=Zdz line c x n kd rest) (a:Act) (ha:Zue p b o rest.length cc b9 k gF bi line a) (K:Act->World->Prop) (hK:∀ a w,Code.wp Tryz.prog (Zce Tryz.f80 8) (bodyPost Tryz.prog Tryz.f80 (Zp w0 ww p (m+2) R)) a w->K a w) :
 Code.wp Tryz.prog (Zgr Tryz.f80 8) (Exit.then K (bodyPost Tryz.prog Tryz.f80 (Zp w0 ww p (m+2) R))) a w:=by
 subst hR
 by_cases h0:kd=0
 · cases rest with
   | nil =>
     rw [show Zdz line c x n kd []=some (Zeg c (n,0),x) by unfold Zdz;rw [if_pos h0]]  at hK ⊢
     exact Zzo w0 ww w p m k gF cF b o b9 bi cc line c x n kd q0 vd vL vB bm cv lb vc h0 h hcc hl hm _ rfl a ha K hK
   | cons r rs =>
     rw [show Zdz line c x n kd (r::rs)=none by unfold Zdz;rw [if_pos h0]] at hK ⊢
     exact Zmz w0 ww w p m k gF cF b o b9 bi cc line c x n kd q0 vd vL vB bm cv lb vc r rs h0 h hcc hl hm _ rfl a ha K hK
 · by_cases h1:rest.length=1
   · obtain ⟨q,rfl⟩:∃ q,rest=[q]:=by
      cases rest with
      | nil=>simp at h1
      | cons a r=>cases r with|nil=>exact ⟨a,rfl⟩|cons b r=>simp at h1
     by_cases k1:pcK q=1
     · obtain ⟨v,bg,rfl⟩:=Zvp k1
       cases bg with
       | false =>
         rw [show Zdz line c x n kd [.num v false]=some (Zeg c (n,v),x) by unfold Zdz;rw [if_neg h0];rfl] at hK ⊢
         exact Ydb w0 ww w p m k gF cF b o b9 bi cc line c x n kd q0 vd vL vB bm cv lb vc v h0 h hcc hl hm _ rfl a ha K hK
       | true =>
         rw [show Zdz line c x n kd [.num v true]=some (Zeg c (n,v),amV x 143) by unfold Zdz;rw [if_neg h0];rfl] at hK ⊢
         exact Ydd w0 ww w p m k gF cF b o b9 bi cc line c x n kd q0 vd vL vB bm cv lb vc v h0 h hcc hl hm _ rfl a ha K hK
     · by_cases k0:pcK q=0
       · obtain ⟨s,rfl⟩:=Zuh k0
         by_cases h34:kd=3\/kd=4
         · rw [show Zdz line c x n kd [.word s]=some (Zeg (Zrq c line s (kd == 4)) (n,0),x) by unfold Zdz;rw [if_neg h0];simp only [if_pos h34]] at hK ⊢
           exact Ydc w0 ww w p m k gF cF b o b9 bi cc line c x n kd q0 vd vL vB bm cv lb vc s h34 h hcc hl hm _ rfl a ha K hK
         · by_cases h5:kd=5
           · cases hj:Xn callT s with
             | none =>
               rw [show Zdz line c x n kd [.word s]=none by unfold Zdz;rw [if_neg h0];simp only [if_neg h34,if_pos h5,hj]] at hK ⊢
               exact Zpi w0 ww w p m k gF cF b o b9 bi cc line c x n kd q0 vd vL vB bm cv lb vc s h5 hj h hcc hl hm _ rfl a ha K hK
             | some j =>
               rw [show Zdz line c x n kd [.word s]=some (Zeg c (n,(j:Int)),x) by unfold Zdz;rw [if_neg h0];simp only [if_neg h34,if_pos h5,hj]] at hK ⊢
               exact Yda w0 ww w p m k gF cF b o b9 bi cc line c x n kd q0 vd vL vB bm cv lb vc s j h5 hj h hcc hl hm _ rfl a ha K hK
           · rw [show Zdz line c x n kd [.word s]=none by unfold Zdz;rw [if_neg h0];simp only [if_neg h34,if_neg h5]] at hK ⊢
             exact Zzn w0 ww w p m k gF cF b o b9 bi cc line c x n kd q0 vd vL vB bm cv lb vc s h0 (fun e=>h34 (Or.inl e)) (fun e=>h34 (Or.inr e)) h5 h hcc hl hm _ rfl a ha K hK
       · rw [show Zdz line c x n kd [q]=none by
          unfold Zdz
          rw [if_neg h0]
          cases q <;> first|rfl|(exact absurd rfl k1)|(exact absurd rfl k0)] at hK ⊢
         exact Zzq w0 ww w p m k gF cF b o b9 bi cc line c x n kd q0 vd vL vB bm cv lb vc q h0 k1 k0 h hcc hl hm _ rfl a ha K hK
   · rw [show Zdz line c x n kd rest=none by
      unfold Zdz
      rw [if_neg h0]
      match rest,h1 with
      | [],_=>rfl
      | [_],h=>exact absurd rfl h
      | _::_::_,_=>simp] at hK ⊢
     exact Zzp w0 ww w p m k gF cF b o b9 bi cc line c x n kd q0 vd vL vB bm cv lb vc rest h0 h1 h hcc hl hm _ rfl a ha K hK
theorem Zwn {w0 ww w:World} {p m k gF cF b o:Nat} {c:CS} {x:Option Int} {n:Nat} {kd tk gv:Int} {nm:ByteArray} {q0:Pc} {rest:List Pc} {vd vL vB:Value} {bm:Nat} {cv:List Value} {lb:List Nat} {vc:Value} (h:Zdv w0 w p m c (Zcp x) vd (.slice (some ⟨gF,0,none⟩) c.funcs.length cF) vL vB bm cv lb)
 (hk:c.funcs.length=k+1) (hv:cv[k]? = some vc) (hp:Zey w (some ⟨b,o,none⟩) (q0::rest)) (hf:Fr ww w) :
 Zdc w0 ww ((w.alloc (.cells #[.string nm,.int .i64 kd,.int .i64 tk,.int .i64 gv] 144)).alloc (.cells #[.int .i64 n,.int .i64 0] 58)) p m k gF cF b o w.heap.size (w.heap.size+1) c x n kd q0 rest vd vL vB bm cv lb vc:=by
 have g1:=Ga w (.cells #[.string nm,.int .i64 kd,.int .i64 tk,.int .i64 gv] 144) none
 have g2:=Ga (w.alloc (.cells #[.string nm,.int .i64 kd,.int .i64 tk,.int .i64 gv] 144)) (.cells #[.int .i64 n,.int .i64 0] 58) none
 have g:=Za g1 g2
 have h2:=heap_alloc_new (w.alloc (.cells #[.string nm,.int .i64 kd,.int .i64 tk,.int .i64 gv] 144)) (.cells #[.int .i64 n,.int .i64 0] 58)
 rw [World.size_alloc] at h2
 have hE:=h.gr.size
 refine ⟨Yn h g,hk,hv,Xo hp (Ye g),⟨nm,tk,gv,Zh (heap_alloc_new w _) g2 (by simp)⟩,h2,by omega,fun j v hj e => ?_,Zn hf (Ye g)⟩
 have hjl:j<c.funcs.length:=by rw [<- h.ins.own.cl];exact (List.getElem?_eq_some_iff.1 hj).1
 have:=(World.ownsRow.lt (h.ins.own.each j _ v (List.getElem?_eq_getElem hjl) hj) _ e).2
 omega
theorem Zmx (w0 w:World) (p m:Nat) (line:Int) (c:CS) (x:Option Int) (t:Txt) (rest:List Pc) (b o cc:Nat) (h:PS w0 w p m c (Zcp x)) (hp:Zey w (some ⟨b,o,none⟩) (.word t::rest)) (hcc:rest.length+1<=cc) (hl:rest.length<=70000) (hm:m+2<=1000000) :
 Calls Tryz.prog 80 #[.pointer (some ⟨p,0,none⟩),.int .i64 line,.slice (some ⟨b,o,none⟩) (rest.length+1) cc] w (Zp w0 w p (m+2) (Zfp line c x (.word t::rest))):=by
 have HS:=Hq h
 have HP:=Hq hp
 have NM0:=Zvq (bs t) w
 rw [Zcx] at NM0
 obtain ⟨b',o',e,hb,d0,d1,d2,d3⟩:=Yx hp (i:=0) (q := .word t) rfl
 injection e with e;injection e with e1 e2
 subst e1;subst e2
 simp only [Nat.zero_mul,Nat.add_zero,pcK,pcT,pcN,pcF] at d0 d1 d2 d3
 cases hn:Xn shapeT t with
 | none =>
   have HR:=Hq (show Zfp line c x (.word t::rest)=none by unfold Zfp;simp only [hn])
   rw [hn] at NM0
   simp only [Zei] at NM0
   have NM:=Hq NM0
   clear NM0 hn h hp
   go_enter Tryz.func80,Tryz.ntmps80
   go_wp2_with (go_at_call 114;refine NM.out.mono ?_;rintro e w2 ⟨rfl,hg⟩;have G2:=Hq hg;clear hg)
   go_ret
   rw [HR.out]
   exact ⟨rfl,Ye G2.out,Za (Zag HS.out) G2.out⟩
 | some n =>
   rw [hn] at NM0
   simp only [Zei] at NM0
   have NM:=Hq NM0
   clear NM0
   by_cases hk0:c.funcs.length=0
   · have HR:=Hq (show Zfp line c x (.word t::rest)=none by unfold Zfp;simp only [hn,if_pos hk0])
     have hki:(c.funcs.length:Int)=0:=by omega
     clear hn h hp hk0
     go_enter Tryz.func80,Tryz.ntmps80
     go_wp2_with (go_at_call 114;refine NM.out.mono ?_;rintro e w2 ⟨rfl,hg⟩;have G2:=Hq hg;clear hg;obtain ⟨vd,vF,vL,vB,bm,cv,lb,hA⟩:=Jn HS.out G2.out;obtain ⟨pF,cF,hvF⟩:=Xr hA;subst hvF;have c2:w2.cell? ⟨p,2,none⟩=some (.slice pF c.funcs.length cF):=Cq w2 p 2 _ _ _ hA.box;have hlt:p<w2.heap.size:=(Gs hA.box);clear hA)
     go_ret
     rw [HR.out]
     exact ⟨rfl,Ye G2.out,Za (Zag HS.out) G2.out⟩
   · obtain ⟨k,hk⟩:∃ k,c.funcs.length=k+1:=⟨c.funcs.length - 1,by omega⟩
     have hkd:Zfp line c x (.word t::rest)=Zdz line c x n (Zhw n) rest:=by unfold Zfp;simp only [hn,if_neg hk0]
     rw [hkd]
     have hn46:n<46:=by
      unfold Xn at hn
      rw [List.findIdx?_eq_some_iff_getElem] at hn
      have:=hn.1
      rwa [Zcj] at this
     obtain ⟨⟨nm,kd,tk,gv⟩,hr⟩:∃ r,shapeT[n]? = some r:=⟨_,List.getElem?_eq_getElem (by rw [Zcj];exact hn46)⟩
     have hkn:Zhw n=kd:=by unfold Zhw;rw [hr];rfl
     rw [hkn]
     have OF0:=Yay n
     rw [show Yu (n:Int)=some (nm,kd,tk,gv) by unfold Yu;rw [if_pos ⟨by omega,by omega⟩,Int.toNat_natCast];exact hr] at OF0
     simp only [Zjc] at OF0
     have OF:=Hq OF0
     have HK:=Hq hk
     have hki:(k:Int)<=1000000:=by obtain ⟨vd,vF,vL,vB,bm,cv,lb,hA⟩:=h;have:=hA.ins.z2;omega
     have HI:=Hq (fun (ww w:World) (gF cF b9 bi:Nat) (vd vL vB:Value) (bm:Nat) (cv:List Value) (lb:List Nat) (vc:Value) h a ha K hK=>Ygk w0 ww w p m k gF cF b o b9 bi cc line c x n kd (.word t) vd vL vB bm cv lb vc rest h hcc hl hm _ rfl a ha K hK)
     clear OF0 hkd hr hkn h hp hn hk0
     go_enter Tryz.func80,Tryz.ntmps80
     go_upto_region 8 with (first
      | (go_at_call 114;refine NM.out.mono ?_;rintro e w2 ⟨rfl,hg⟩;have G2:=Hq hg;clear hg;obtain ⟨vd,vF,vL,vB,bm,cv,lb,hA⟩:=Jn HS.out G2.out;obtain ⟨pF,cF,hvF⟩:=Xr hA;have A2:=Hq hA;rw [hvF,HK.out] at hA;have c2:w2.cell? ⟨p,2,none⟩=some (.slice pF (k+1) cF):=Cq w2 p 2 _ _ _ hA.box;have hlt:p<w2.heap.size:=(Gs hA.box);clear hA)
      | (go_at_call 66;refine (OF.out _).mono ?_;rintro e w3 ⟨rfl,hg⟩;have G3:=Hq hg;have A3:=Hq (Yn A2.out hg);clear hg;obtain ⟨gF,cF',hvF3,hgF,-⟩:=Xb A3.out.ins.own.fr (by have:=HK.out;omega);rw [hvF] at hvF3;injection hvF3 with hvF3 _ hcc3;subst hvF3;subst hcc3;have c2:w3.cell? ⟨p,2,none⟩=some (.slice (some ⟨gF,0,none⟩) (k+1) cF):=(by have:=Cq w3 p 2 _ _ _ A3.out.box;rw [hvF,HK.out] at this;exact this);have hlt3:p<w3.heap.size:=(Gs A3.out.box)))
     rename_i K8 hK8
     obtain ⟨vc,hvc⟩:∃ v,cv[k]? = some v:=⟨_,List.getElem?_eq_getElem (by rw [A3.out.ins.own.cl,HK.out];omega)⟩
     have IA:=Zwn (kd:=kd) (nm:=nm) (tk:=tk) (gv:=gv) (n:=n) (hvF ▸ A3.out) HK.out hvc (Xo HP.out (Ye (Za G2.out G3.out))) (Ye (Za G2.out G3.out))
     exact HI.out w _ gF cF _ _ vd vL vB bm cv lb vc IA _ ⟨rfl,rfl,rfl,rfl,rfl,rfl,rfl,rfl,rfl⟩ K8 hK8
def Zbe (line:Int) (c:CS) (x:Option Int) (lab:Bool) (l:List Pc):Option (CS × Option Int) :=
 match l with
 | []=>some (c,x)
 | .word t::r =>
   if lab=false/\t=Zaf then Zxs c x r
   else if lab=false/\t=Zhe then Zdh c x r
   else if lab=false/\t=Zis then Zcu c x r
   else Zfp line c x (.word t::r)
 | _=>none
theorem Zhv (line:Int) (c:CS) (x:Option Int) (t:Txt) (r:List Pc):Zbe line c x true (.word t::r)=Zfp line c x (.word t::r):=by
 unfold Zbe
 simp
def Zdg (line:Int):CS->Option Int->Bool->List Pc->Option (CS × Option Int)
 | c,x,lab,.word t :: .colon::r=>if c.funcs.length=0 then none else Zdg line (Zfo c x t).1 (Zfo c x t).2 true r
 | c,x,lab,l=>Zbe line c x lab l
theorem Zbx (line:Int) (c:CS) (x:Option Int) (lab:Bool) (t:Txt) (r:List Pc):Zdg line c x lab (.word t :: .colon::r)=if c.funcs.length=0 then none else Zdg line (Zfo c x t).1 (Zfo c x t).2 true r:=by rw [Zdg]
theorem Xq (line:Int) (c:CS) (x:Option Int) (lab:Bool) (l:List Pc) (h:∀ t r,l ≠ .word t :: .colon::r):Zdg line c x lab l=Zbe line c x lab l:=by
 unfold Zdg
 split
 · exact absurd rfl (h _ _)
 · rfl
theorem Yy {w0 w:World} {p m:Nat} {r:Option (CS × Option Int)} {e:Ending} {w':World} (h:Zp w0 w p m r e w'):∃ v,e = .returned v:=by
 obtain ⟨h,_,_⟩:=h
 cases r with
 | none=>exact ⟨_,h⟩
 | some c=>exact ⟨_,h.1⟩
theorem Xh {w0 w wr w':World} {p m m':Nat} {r R:Option (CS × Option Int)} {e:Ending} (h:Zp w0 wr p m r e w') (f:Fr w wr) (hm:m<=m') (hr:R=r):Zp w0 w p m' R e w':=by
 subst hr
 obtain ⟨h1,h2,h3⟩:=h
 refine ⟨?_,Zn f h2,h3⟩
 cases R with
 | none=>exact h1
 | some c=>exact ⟨h1.1,Zff h1.2 hm⟩
structure SaI (w0 w wr:World) (p m M:Nat) (line:Int) (R:Option (CS × Option Int)) (lab:Bool) (pp:Option Addr) (cc:Nat) (l:List Pc) (c:CS) (x:Option Int) (k:Nat):Prop where
 ps:PS w0 wr p k c (Zcp x)
 eq:R=Zdg line c x lab l
 pt:Zey wr pp l
 fr:Fr w wr
 hk:k+l.length<=m
 ws:∀ t,(Pc.word t∈l\/Pc.str t∈l)->t.length<=M
 cap:l.length<=cc
def slen:Value->Nat
 | .slice _ n _=>n
 | _=>0
theorem Ydl {q:Pc} (h:pcK q=3):q = .colon:=by cases q <;> simp [pcK] at h;rfl
theorem Zga {t u:Txt} (h:t=u):((bs t).toList == u)=true:=by rw [Zcx];exact beq_iff_eq.2 h
theorem Zfy {t u:Txt} (h:t≠u):((bs t).toList == u)=false:=by rw [Zcx];exact beq_eq_false_iff_ne.2 h
theorem Zyd (w0 w:World) (p m M cc0:Nat) (line:Int) (c:CS) (x:Option Int) (ps:List Pc) (pp0:Option Addr) (h:PS w0 w p m c (Zcp x)) (hp:Zey w pp0 ps) (hcc:ps.length<=cc0) (hl:ps.length<=70000)
 (hws:∀ t,(Pc.word t∈ps\/Pc.str t∈ps)->t.length<=M) (hm:m+ps.length+2+M<=1000000) :
 Calls Tryz.prog 57 #[.pointer (some ⟨p,0,none⟩),.int .i64 line,.slice pp0 ps.length cc0] w (Zp w0 w p (m+ps.length+2+M) (Zdg line c x false ps)):=by
 have I0:=Hq (show SaI w0 w w p (m+ps.length) M line (Zdg line c x false ps) false pp0 cc0 ps c x m from ⟨h,rfl,hp,Zft _,Nat.le_refl _,hws,hcc⟩)
 obtain ⟨R,hR⟩:∃ R,Zdg line c x false ps=R:=⟨_,rfl⟩
 obtain ⟨mm,hmm⟩:∃ mm,m+ps.length=mm:=⟨_,rfl⟩
 rw [hR,hmm] at I0
 rw [hR,hmm]
 have hL:ps.length<=mm:=by omega
 have hL7:mm+2+M<=1000000:=by omega
 clear h hp hws hm hR hmm
 go_enter Tryz.func57,Tryz.ntmps57
 go_wp2
 go_loopw [7,2] (fun lab sl wr=>∃ (lb:Bool) (pp:Option Addr) (l:List Pc) (cc:Nat) (c':CS) (x':Option Int) (k:Nat),lab = .bool lb/\sl = .slice pp l.length cc/\l.length<=ps.length/\SaI w0 w wr p mm M line R lb pp cc l c' x' k) (fun _ sl _=>slen sl)
 case atStart=>exact ⟨false,pp0,ps,cc0,c,x,m,rfl,rfl,Nat.le_refl _,I0.out⟩
 case round =>
  obtain ⟨lb,pp,l,cc,c',x',k,rfl,rfl,hll,hI⟩:=hrel
  have I:=Hq hI
  clear hI
  have hps7:=hl
  rcases l with _|⟨q,r⟩
  · have HE:=Hq (I.out.eq.trans (Xq line c' x' lb [] (by intro t r e;cases e)))
    go_wp2
    go_ret
    rw [HE.out]
    have hk:=I.out.hk
    exact ⟨⟨rfl,Zff I.out.ps (by omega)⟩,I.out.fr,Zag I.out.ps⟩
  · obtain ⟨b,o,e,hb,d0,d1,d2,d3⟩:=Yx I.out.pt (i:=0) (q:=q) rfl
    subst e
    simp only [Nat.zero_mul,Nat.add_zero] at d0 d1 d2 d3
    have hk:=I.out.hk
    have hcap:=I.out.cap
    simp only [List.length_cons] at hll hk hcap
    by_cases hq:pcK q=0
    · obtain ⟨t,rfl⟩:=Zuh hq
      simp only [pcK,pcT,pcN,pcF] at d0 d1 d2 d3
      have ht:=I.out.ws t (Or.inl (List.mem_cons_self ..))
      rcases r with _|⟨q1,r1⟩
      · have HE:=Hq (I.out.eq.trans (Xq line c' x' lb [.word t] (by intro t r e;injection e with _ e;cases e)))
        have IN:=Hq (Zmx w0 wr p k line c' x' t ([]:List Pc) b o cc I.out.ps I.out.pt (by simp only [List.length_cons,List.length_nil];omega) (by simp only [List.length_cons,List.length_nil];omega) (by omega))
        have ME:=Hq (fun pp c9 (hp9:Zey wr pp ([]:List Pc))=>Zdk w0 wr p k c' x' ([]:List Pc) pp c9 I.out.ps hp9 (by simp only [List.length_cons,List.length_nil];omega))
        have DA:=Hq (fun pp c9 (hp9:Zey wr pp ([]:List Pc))=>Zgp w0 wr p k c' x' ([]:List Pc) pp c9 M I.out.ps hp9 (by simp only [List.length_cons,List.length_nil];omega) (fun u hu=>I.out.ws u (Or.inr (by rw [hu];simp))) (by omega))
        have FU:=Hq (fun pp c9 (hp9:Zey wr pp ([]:List Pc)) (h9:([]:List Pc).length<=c9)=>Zgm w0 wr p k c' x' ([]:List Pc) pp c9 I.out.ps hp9 (by simp only [List.length_cons,List.length_nil];omega) h9 (fun u hu=>by have:=I.out.ws u (Or.inl (List.mem_cons_of_mem _ hu));omega) (by omega))
        have PT:=Hq (show Zey wr (some ⟨b,o+4,none⟩) ([]:List Pc) from Zkq I.out.pt)
        simp only [List.length_cons,List.length_nil] at IN ME DA FU
        cases lb with
        | true =>
          have HL:=Hq (HE.out.trans (Zhv line c' x' t ([]:List Pc)))
          go_wp2_with (go_at_call 80;refine IN.out.mono ?_;rintro e w2 hp2;obtain ⟨v,rfl⟩:=Yy hp2;have LP:=Hq hp2;clear hp2)
          go_ret
          exact Xh LP.out I.out.fr (by omega) HL.out
        | false =>
          by_cases hm1:t=Zaf
          · have g1:=Zga hm1
            have HL:=Hq (HE.out.trans (show Zbe line c' x' false (.word t::([]:List Pc))=Zxs c' x' ([]:List Pc) from if_pos ⟨rfl,hm1⟩))
            simp only [Zaf] at g1
            clear hm1
            by_cases hc1:cc=1
            all_goals
             go_wp2_with (go_at_call 77;refine (ME.out _ _ (by first|exact PT.out|(intro h0;simp at h0;done)|(simp only [List.length_cons] at hcap;omega))).mono ?_;rintro e w2 hp2;obtain ⟨v,rfl⟩:=Yy hp2;have LP:=Hq hp2;clear hp2)
             go_ret
             exact Xh LP.out I.out.fr (by omega) HL.out
          · have g1:=Zfy hm1
            simp only [Zaf] at g1
            by_cases hm2:t=Zhe
            · have g2:=Zga hm2
              have HL:=Hq (HE.out.trans (show Zbe line c' x' false (.word t::([]:List Pc))=Zdh c' x' ([]:List Pc) from (if_neg (fun h=>hm1 h.2)).trans (if_pos ⟨rfl,hm2⟩)))
              simp only [Zhe] at g2
              clear hm1 hm2
              by_cases hc1:cc=1
              all_goals
               go_wp2_with (go_at_call 78;refine (DA.out _ _ (by first|exact PT.out|(intro h0;simp at h0;done)|(simp only [List.length_cons] at hcap;omega))).mono ?_;rintro e w2 hp2;obtain ⟨v,rfl⟩:=Yy hp2;have LP:=Hq hp2;clear hp2)
               go_ret
               exact Xh LP.out I.out.fr (by omega) HL.out
            · have g2:=Zfy hm2
              simp only [Zhe] at g2
              by_cases hm3:t=Zis
              · have g3:=Zga hm3
                have HL:=Hq (HE.out.trans (show Zbe line c' x' false (.word t::([]:List Pc))=Zcu c' x' ([]:List Pc) from (if_neg (fun h=>hm1 h.2)).trans ((if_neg (fun h=>hm2 h.2)).trans (if_pos ⟨rfl,hm3⟩))))
                simp only [Zis] at g3
                clear hm1 hm2 hm3
                by_cases hc1:cc=1
                all_goals
                 go_wp2_with (go_at_call 79;refine (FU.out _ _ (by first|exact PT.out|(intro h0;simp at h0;done)|(simp only [List.length_cons] at hcap;omega)) (by simp only [List.length_cons,List.length_nil] at *;omega)).mono ?_;rintro e w2 hp2;obtain ⟨v,rfl⟩:=Yy hp2;have LP:=Hq hp2;clear hp2)
                 go_ret
                 exact Xh LP.out I.out.fr (by omega) HL.out
              · have g3:=Zfy hm3
                have HL:=Hq (HE.out.trans (show Zbe line c' x' false (.word t::([]:List Pc))=Zfp line c' x' (.word t::([]:List Pc)) from (if_neg (fun h=>hm1 h.2)).trans ((if_neg (fun h=>hm2 h.2)).trans (if_neg (fun h=>hm3 h.2)))))
                simp only [Zis] at g3
                clear hm1 hm2 hm3
                go_wp2_with (go_at_call 80;refine IN.out.mono ?_;rintro e w2 hp2;obtain ⟨v,rfl⟩:=Yy hp2;have LP:=Hq hp2;clear hp2)
                go_ret
                exact Xh LP.out I.out.fr (by omega) HL.out
      · obtain ⟨b',o',e,hb2,y0,y1,y2,y3⟩:=Yx I.out.pt (i:=1) (q:=q1) rfl
        injection e with e;injection e with e1 e2
        subst e1;subst e2
        simp only [Nat.one_mul] at y0 y1 y2 y3
        simp only [List.length_cons] at hll hk hcap
        by_cases h3:pcK q1=3
        · obtain rfl:=Ydl h3
          simp only [pcK,pcT,pcN,pcF] at y0 y1 y2 y3
          have HE:=Hq (I.out.eq.trans (Zbx line c' x' lb t r1))
          by_cases hf:c'.funcs.length=0
          · have HN:=Hq (HE.out.trans (if_pos hf))
            obtain ⟨vd,vF,vL,vB,bm,cv,lb',hA⟩:=I.out.ps
            obtain ⟨pF,cF,hvF⟩:=Xr hA
            subst hvF
            have c2:=Cq wr p 2 _ _ _ hA.box
            have hlt:p<wr.heap.size:=(Gs hA.box)
            have hfi:(c'.funcs.length:Int)=0:=by omega
            clear hA hf
            go_wp2
            go_ret
            rw [HN.out]
            exact ⟨rfl,I.out.fr,Zag I.out.ps⟩
          · have HN:=Hq (HE.out.trans (if_neg hf))
            have LB:=Hq (Zwa w0 wr p k c' x' t I.out.ps (by omega) (by omega) (by omega))
            obtain ⟨vd,vF,vL,vB,bm,cv,lb',hA⟩:=I.out.ps
            obtain ⟨pF,cF,hvF⟩:=Xr hA
            subst hvF
            have c2:=Cq wr p 2 _ _ _ hA.box
            have hlt:p<wr.heap.size:=(Gs hA.box)
            have hfi:((c'.funcs.length:Int) == 0)=false:=by rw [beq_eq_false_iff_ne];omega
            clear hA hf
            by_cases hc2:cc=2
            all_goals
             go_wp2_with (go_at_call 76;refine LB.out.mono ?_;rintro e w2 ⟨rfl,hps2,hf2⟩;have S2:=Hq hps2;have F2:=Hq hf2;clear hps2 hf2)
             refine ⟨⟨true,_,r1,_,_,_,k+1,rfl,rfl,by omega,⟨S2.out,HN.out,?_,Zn I.out.fr F2.out,by omega,fun u hu=>I.out.ws u (hu.imp (fun h=>List.mem_cons_of_mem _ (List.mem_cons_of_mem _ h)) (fun h=>List.mem_cons_of_mem _ (List.mem_cons_of_mem _ h))),by omega⟩⟩,by simp only [slen,List.length_cons];omega⟩
             first
              | (intro h0;omega)
              | (have:=Zmm (k:=2) (Xo I.out.pt F2.out);simpa using this)
        · have HE:=Hq (I.out.eq.trans (Xq line c' x' lb (.word t::q1::r1) (by intro t r e;injection e with _ e;injection e with e _;subst e;exact h3 rfl)))
          have b3:(pcK q1 == 3)=false:=beq_eq_false_iff_ne.2 h3
          generalize pcK q1=z0 at *
          generalize bs (pcT q1)=z1 at *
          generalize pcN q1=z2 at *
          generalize pcF q1=z3 at *
          have IN:=Hq (Zmx w0 wr p k line c' x' t (q1::r1) b o cc I.out.ps I.out.pt (by simp only [List.length_cons,List.length_nil];omega) (by simp only [List.length_cons,List.length_nil];omega) (by omega))
          have ME:=Hq (fun pp c9 (hp9:Zey wr pp (q1::r1))=>Zdk w0 wr p k c' x' (q1::r1) pp c9 I.out.ps hp9 (by simp only [List.length_cons,List.length_nil];omega))
          have DA:=Hq (fun pp c9 (hp9:Zey wr pp (q1::r1))=>Zgp w0 wr p k c' x' (q1::r1) pp c9 M I.out.ps hp9 (by simp only [List.length_cons,List.length_nil];omega) (fun u hu=>I.out.ws u (Or.inr (by rw [hu];simp))) (by omega))
          have FU:=Hq (fun pp c9 (hp9:Zey wr pp (q1::r1)) (h9:(q1::r1).length<=c9)=>Zgm w0 wr p k c' x' (q1::r1) pp c9 I.out.ps hp9 (by simp only [List.length_cons,List.length_nil];omega) h9 (fun u hu=>by have:=I.out.ws u (Or.inl (List.mem_cons_of_mem _ hu));omega) (by omega))
          have PT:=Hq (show Zey wr (some ⟨b,o+4,none⟩) (q1::r1) from Zkq I.out.pt)
          simp only [List.length_cons,List.length_nil] at IN ME DA FU
          cases lb with
          | true =>
            have HL:=Hq (HE.out.trans (Zhv line c' x' t (q1::r1)))
            go_wp2_with (go_at_call 80;refine IN.out.mono ?_;rintro e w2 hp2;obtain ⟨v,rfl⟩:=Yy hp2;have LP:=Hq hp2;clear hp2)
            go_ret
            exact Xh LP.out I.out.fr (by omega) HL.out
          | false =>
            by_cases hm1:t=Zaf
            · have g1:=Zga hm1
              have HL:=Hq (HE.out.trans (show Zbe line c' x' false (.word t::(q1::r1))=Zxs c' x' (q1::r1) from if_pos ⟨rfl,hm1⟩))
              simp only [Zaf] at g1
              clear hm1
              have hc1:¬ cc=1:=by omega
              all_goals
               go_wp2_with (go_at_call 77;refine (ME.out _ _ (by first|exact PT.out|(intro h0;simp at h0;done)|(simp only [List.length_cons] at hcap;omega))).mono ?_;rintro e w2 hp2;obtain ⟨v,rfl⟩:=Yy hp2;have LP:=Hq hp2;clear hp2)
               go_ret
               exact Xh LP.out I.out.fr (by omega) HL.out
            · have g1:=Zfy hm1
              simp only [Zaf] at g1
              by_cases hm2:t=Zhe
              · have g2:=Zga hm2
                have HL:=Hq (HE.out.trans (show Zbe line c' x' false (.word t::(q1::r1))=Zdh c' x' (q1::r1) from (if_neg (fun h=>hm1 h.2)).trans (if_pos ⟨rfl,hm2⟩)))
                simp only [Zhe] at g2
                clear hm1 hm2
                have hc1:¬ cc=1:=by omega
                all_goals
                 go_wp2_with (go_at_call 78;refine (DA.out _ _ (by first|exact PT.out|(intro h0;simp at h0;done)|(simp only [List.length_cons] at hcap;omega))).mono ?_;rintro e w2 hp2;obtain ⟨v,rfl⟩:=Yy hp2;have LP:=Hq hp2;clear hp2)
                 go_ret
                 exact Xh LP.out I.out.fr (by omega) HL.out
              · have g2:=Zfy hm2
                simp only [Zhe] at g2
                by_cases hm3:t=Zis
                · have g3:=Zga hm3
                  have HL:=Hq (HE.out.trans (show Zbe line c' x' false (.word t::(q1::r1))=Zcu c' x' (q1::r1) from (if_neg (fun h=>hm1 h.2)).trans ((if_neg (fun h=>hm2 h.2)).trans (if_pos ⟨rfl,hm3⟩))))
                  simp only [Zis] at g3
                  clear hm1 hm2 hm3
                  have hc1:¬ cc=1:=by omega
                  all_goals
                   go_wp2_with (go_at_call 79;refine (FU.out _ _ (by first|exact PT.out|(intro h0;simp at h0;done)|(simp only [List.length_cons] at hcap;omega)) (by simp only [List.length_cons,List.length_nil] at *;omega)).mono ?_;rintro e w2 hp2;obtain ⟨v,rfl⟩:=Yy hp2;have LP:=Hq hp2;clear hp2)
                   go_ret
                   exact Xh LP.out I.out.fr (by omega) HL.out
                · have g3:=Zfy hm3
                  have HL:=Hq (HE.out.trans (show Zbe line c' x' false (.word t::(q1::r1))=Zfp line c' x' (.word t::(q1::r1)) from (if_neg (fun h=>hm1 h.2)).trans ((if_neg (fun h=>hm2 h.2)).trans (if_neg (fun h=>hm3 h.2)))))
                  simp only [Zis] at g3
                  clear hm1 hm2 hm3
                  go_wp2_with (go_at_call 80;refine IN.out.mono ?_;rintro e w2 hp2;obtain ⟨v,rfl⟩:=Yy hp2;have LP:=Hq hp2;clear hp2)
                  go_ret
                  exact Xh LP.out I.out.fr (by omega) HL.out
    · have HE:=Hq (I.out.eq.trans (Xq line c' x' lb (q::r) (by intro t r e;injection e with e _;subst e;exact hq rfl)))
      have HN:=Hq (HE.out.trans (show Zbe line c' x' lb (q::r)=none by cases q <;> first|rfl|exact absurd rfl hq))
      have b0:(pcK q == 0)=false:=beq_eq_false_iff_ne.2 hq
      have b1:(pcK q != 0)=true:=by rw [bne_iff_ne];exact hq
      generalize pcK q=z0 at *
      generalize bs (pcT q)=z1 at *
      generalize pcN q=z2 at *
      generalize pcF q=z3 at *
      rcases r with _|⟨q1,r1⟩
      · go_wp2
        go_ret
        rw [HN.out]
        exact ⟨rfl,I.out.fr,Zag I.out.ps⟩
      · have hr1:(1:Int)<(r1.length:Int)+1+1:=by omega
        simp only [List.length_cons] at hll hk hcap
        go_wp2
        go_ret
        rw [HN.out]
        exact ⟨rfl,I.out.fr,Zag I.out.ps⟩
open Go.Extern
theorem Zwg (v:Value) (w:World):(Extern.ReflectliteType.typeOf #[.iface 41 v]).run Tryz.prog w = .ok (.iface 204 (.agg #[.pointer (some ⟨8,41,none⟩)])) w:=by kernel_rfl
def Ygw:Array Value->Sem Value:=Extern.ReflectliteType.method fun t=>do Extern.Rtype.noPackHeld "Comparable" t;pure (.bool (<- typeInfo t).comparable)
theorem Zll (w:World):(Ygw #[.agg #[.pointer (some ⟨8,41,none⟩)]]).run Tryz.prog w = .ok (.bool true) w:=by kernel_rfl
theorem Zwh (v:Value) (w:World):(Go.method 405 204 v "Comparable").run Tryz.prog w = .ok (211,v) w:=by kernel_rfl
theorem Ycz (w:World):Calls Tryz.prog 58 #[Zod 141,Zod 141] w fun e w'=>e = .returned (.bool true)/\w'=w:=by
 have h8 := @run_callFunc_extern Tryz.prog 81 _ Extern.ReflectliteType.typeOf Tryz.func81 (by kernel_rfl) (by kernel_rfl) (by kernel_rfl) (by kernel_rfl)
 have h32 := @run_callFunc_extern Tryz.prog 211 _ Ygw Tryz.func211 (by kernel_rfl) (by kernel_rfl) (by kernel_rfl) (by kernel_rfl)
 have tT:=Zwg
 have cT:=Zll
 have mR:=Zwh
 have heq:=fun W=>Lib.run_eql_iface_int (P:=Tryz.prog) (k := .i64) W 141 141 Tryz.underlying28 (tx:=41) (by kernel_rfl) Tryz.underlying41
 go_enter Tryz.func58,Tryz.ntmps58
 go_wp2
 refine wp_loop_rounds 1 ?_
 rw [rounds_succ]
 go_wp2
 go_ret
 exact ⟨rfl,rfl⟩
theorem Yfg (w:World):Calls Tryz.prog 58 #[.nilIface,Zod 141] w fun e w'=>e = .returned (.bool false)/\w'=w:=by
 have hn:=run_eql_iface_nil_left (P:=Tryz.prog) w 41 (.int .i64 141) Tryz.underlying28
 go_enter Tryz.func58,Tryz.ntmps58
 go_wp2
 go_ret
 exact ⟨rfl,rfl⟩
theorem Ybk:∀ (n:Nat) (l:Txt) (b:Txt) (k:Nat),l.length<=n->unq l=some (b,k)->b.length<=k:=by
 intro n
 induction n with
 | zero =>
   intro l b k hl h
   have:l=[]:=List.eq_nil_of_length_eq_zero (by omega)
   subst this;cases h
 | succ n ih =>
   intro l b k hl h
   cases l with
   | nil=>cases h
   | cons c r =>
     rw [unq.eq_def] at h
     simp only [] at h
     simp only [List.length_cons] at hl
     split at h
     · injection h with h;injection h with h1 h2;subst h1;simp
     · split at h
       · cases h
       · split at h
         · obtain ⟨x,hx,h⟩:=Option.map_eq_some_iff.1 h
           have:=ih r x.1 x.2 (by omega) hx
           injection h with h1 h2;subst h1;simp only [List.length_cons];omega
         · split at h
           · cases h
           · rename_i d r2
             simp only [List.length_cons] at hl
             split at h
             · obtain ⟨x,hx,h⟩:=Option.map_eq_some_iff.1 h
               have:=ih r2 x.1 x.2 (by omega) hx
               injection h with h1 h2;subst h1;simp only [List.length_cons];omega
             · split at h
               · split at h
                 · rename_i x y r3
                   simp only [List.length_cons] at hl
                   split at h
                   · obtain ⟨z,hz,h⟩:=Option.map_eq_some_iff.1 h
                     have:=ih r3 z.1 z.2 (by omega) hz
                     injection h with h1 h2;subst h1;simp only [List.length_cons];omega
                   · cases h
                 · cases h
               · cases h
def Yee:Pc->Nat
 | .word t=>t.length
 | .str t=>t.length
 | _=>0
theorem Zzb {l:Txt} {p:Pc} {k:Nat} (h:Zss l=some (p,k)):Yee p<=l.length:=by
 cases l with
 | nil=>cases h
 | cons c r =>
   rw [Zss] at h
   split at h
   · injection h with h;injection h with h1 h2
     subst h1
     simp only [Yee,List.length_take]
     omega
   · split at h
     · obtain ⟨x,hx,h⟩:=Option.map_eq_some_iff.1 h
       have h1:=Zly r.length r x.1 x.2 (Nat.le_refl _) hx
       have h2:=Ybk r.length r x.1 x.2 (Nat.le_refl _) hx
       injection h with h3 h4;subst h3
       simp only [Yee,List.length_cons];omega
     · split at h
       · obtain ⟨x,hx,h⟩:=Option.map_eq_some_iff.1 h
         injection h with h1 h2;subst h1
         simp [Yee]
       · cases h
theorem Zgv:∀ (f:Nat) (ap:Bool) (l:Txt) (ps:List Pc),Zoc f ap l=some ps->ps.length<=l.length/\∀ p∈ps,Yee p<=l.length
 | 0,_,_,_,h=>by cases h
 | f+1,ap,[],ps,h=>by rw [Zoc] at h;injection h with h;subst h;simp
 | f+1,ap,c::r,ps,h=>by
   rw [Zoc] at h
   split at h
   · injection h with h;subst h;simp
   · split at h
     · obtain ⟨h1,h2⟩:=Zgv f true r ps h
       simp only [List.length_cons]
       exact ⟨by omega,fun p hp=>by have:=h2 p hp;omega⟩
     · split at h
       · obtain ⟨x,hx,h⟩:=Option.map_eq_some_iff.1 h
         subst h
         obtain ⟨h1,h2⟩:=Zgv f true r x hx
         simp only [List.length_cons]
         refine ⟨by omega,fun p hp => ?_⟩
         rcases List.mem_cons.1 hp with rfl|hp
         · simp [Yee]
         · have:=h2 p hp;omega
       · split at h
         · cases h
         · split at h
           · cases h
           · rename_i q k hq
             obtain ⟨x,hx,h⟩:=Option.map_eq_some_iff.1 h
             subst h
             obtain ⟨h1,h2⟩:=Zgv f false _ x hx
             have hb:=Zfl hq
             have hl:=Zzb hq
             simp only [List.length_cons,List.length_drop] at *
             refine ⟨by omega,fun p hp => ?_⟩
             rcases List.mem_cons.1 hp with rfl|hp
             · exact hl
             · have:=h2 p hp;omega
theorem Zql {l:Txt} {ps:List Pc} (h:Zqm l=some ps):ps.length<=l.length/\∀ t,(Pc.word t∈ps\/Pc.str t∈ps)->t.length<=l.length:=by
 obtain ⟨h1,h2⟩:=Zgv _ _ _ _ h
 refine ⟨h1,fun t ht => ?_⟩
 rcases ht with ht|ht
 · exact h2 _ ht
 · exact h2 _ ht
def lnC (line:Int) (c:CS) (t:Txt):Option (CS × Option Int):=(Zqm t).bind (Zdg line c none false)
def Yfv (w0 w:World) (p m:Nat) (r:Option (CS × Option Int)) (e:Ending) (w':World):Prop :=
 (match r with
   | none=>e = .returned (Zod 141)
   | some (c,none)=>e = .returned .nilIface/\PS w0 w' p m c .nilIface
   | some (_,some y)=>e = .returned (Zod y))/\Fr w w'/\w0.grownBy w' none
theorem Zho {w:World} {E:Nat} {p:Option Addr} {c:Nat} {ps:List Pc} (h:Ztz w E (.slice p ps.length c) ps):ps.length<=c:=by
 rcases h.2 with ⟨e,h1⟩|⟨g,cap,cur,hv,_,hg,hn,hm,hs,ht⟩
 · injection e with _ e _;omega
 · injection hv with _ _ hv;omega
theorem Zhj {w0 w:World} {p m:Nat} {c:CS} {pend pend':Value} (h:PS w0 w p m c pend):PS w0 (w.setCell ⟨p,7,none⟩ pend') p m c pend'/\w.grownBy (w.setCell ⟨p,7,none⟩ pend') (some p):=by
 obtain ⟨vd,vF,vL,vB,bm,cv,lb,hA⟩:=h
 exact Zhm hA
theorem Zav {w0 w:World} {p m:Nat} {c:CS} {pend:Value} (h:PS w0 w p m c pend):w.cell? ⟨p,7,none⟩=some pend/\w.frozen? ⟨p,7,none⟩=false/\p<w.heap.size:=by
 obtain ⟨vd,vF,vL,vB,bm,cv,lb,hA⟩:=h
 exact ⟨Cq w p 7 _ _ _ hA.box,frozen_of_row w p 7 _ _ hA.box,(Gs hA.box)⟩
theorem Zzh (w0 w:World) (p m:Nat) (line:Int) (c:CS) (pend:Value) (t:Txt) (h:PS w0 w p m c pend) (hW:LibW w0) (hl:t.length<=65536) (hm:m+2*t.length+2<=1000000) :
 Calls Tryz.prog 28 #[.pointer (some ⟨p,0,none⟩),.int .i64 line,.string (bs t)] w (Yfv w0 w p (m+2*t.length+2) (lnC line c t)):=by
 have HS:=Hq h
 have PI0:=Zsl (bs t) (by rw [Zj];omega) w (Zq hW (Zag h))
 rw [Xe] at PI0
 have c7:=(Zav h).1
 have IN:=Hq Yfg
 have IS:=Hq Ycz
 cases hp:Zqm t with
 | none =>
   have HR:=Hq (show lnC line c t=none by unfold lnC;rw [hp];rfl)
   rw [hp] at PI0
   have PI:=Hq PI0
   clear PI0 hp h c7
   go_enter Tryz.func28,Tryz.ntmps28
   go_wp2_with (first
    | (go_at_call 56;refine PI.out.mono ?_;rintro e w2 ⟨rfl,hg⟩;have G2:=Hq hg;have S2:=Hq (Jn HS.out hg);obtain ⟨c7,z7,hlt⟩:=Zav S2.out;clear hg)
    | (go_at_call 58;refine (IS.out _).mono ?_;rintro e w3 ⟨rfl,rfl⟩))
   go_ret
   rw [HR.out]
   have Q:=Zhj (pend' := .nilIface) S2.out
   exact ⟨rfl,Zn (Ye G2.out) (Zau S2.out Q.2),Zag Q.1⟩
 | some ps =>
   rw [hp] at PI0
   have PI:=Hq PI0
   have hln:=Zql hp
   have HR:=Hq (show lnC line c t=Zdg line c none false ps by unfold lnC;rw [hp];rfl)
   clear PI0 hp h c7
   rcases ps with _|⟨q,r⟩
   · go_enter Tryz.func28,Tryz.ntmps28
     go_wp2_with (first
      | (go_at_call 56;refine PI.out.mono ?_;rintro e w2 ⟨⟨pp,cc,rfl,-⟩,hg⟩;have G2:=Hq hg;have S2:=Hq (Jn HS.out hg);obtain ⟨c7,z7,hlt⟩:=Zav S2.out;clear hg)
      | (go_at_call 58;refine (IN.out _).mono ?_;rintro e w3 ⟨rfl,rfl⟩))
     go_ret
     rw [HR.out]
     have Q:=Zhj (pend' := .nilIface) S2.out
     exact ⟨⟨rfl,Zff Q.1 (by omega)⟩,Zn (Ye G2.out) (Zau S2.out Q.2),Zag Q.1⟩
   · have hln1:=hln.1
     have SA:=Hq (fun w3 pp cc h1 h2 h3=>Zyd w0 w3 p m t.length cc line c none (q::r) pp h1 h2 h3 (by omega) hln.2 (by omega))
     have hr1:(r.length:Int)+1>0:=by omega
     cases hs:Zdg line c none false (q::r) with
     | none =>
       rw [hs] at HR
       rw [hs] at SA
       clear hs hln
       go_enter Tryz.func28,Tryz.ntmps28
       go_wp2_with (first
        | (go_at_call 56;refine PI.out.mono ?_;rintro e w2 ⟨⟨pp,cc,rfl,hrow⟩,hg⟩;have G2:=Hq hg;have S2:=Hq (Jn HS.out hg);have HC:=Hq (Zho hrow);have PT:=Hq (Zkv hrow);obtain ⟨c7,z7,hlt⟩:=Zav S2.out;have QQ:=Hq (Zhj (pend' := .nilIface) S2.out);clear hg hrow)
        | (go_at_call 57;refine (SA.out _ _ _ QQ.out.1 (Xo PT.out (Zau S2.out QQ.out.2)) HC.out).mono ?_;rintro e w4 ⟨rfl,hf4,hg4⟩;have F4:=Hq hf4;have G4:=Hq hg4;clear hf4 hg4)
        | (go_at_call 58;refine (IS.out _).mono ?_;rintro e w3 ⟨rfl,rfl⟩))
       go_ret
       rw [HR.out]
       exact ⟨rfl,Zn (Ye G2.out) (Zn (Zau S2.out QQ.out.2) F4.out),G4.out⟩
     | some r9 =>
       obtain ⟨c',x'⟩:=r9
       rw [hs] at HR
       rw [hs] at SA
       clear hs hln
       cases x' with
       | none =>
         go_enter Tryz.func28,Tryz.ntmps28
         go_wp2_with (first
          | (go_at_call 56;refine PI.out.mono ?_;rintro e w2 ⟨⟨pp,cc,rfl,hrow⟩,hg⟩;have G2:=Hq hg;have S2:=Hq (Jn HS.out hg);have HC:=Hq (Zho hrow);have PT:=Hq (Zkv hrow);obtain ⟨c7,z7,hlt⟩:=Zav S2.out;have QQ:=Hq (Zhj (pend' := .nilIface) S2.out);clear hg hrow)
          | (go_at_call 57;refine (SA.out _ _ _ QQ.out.1 (Xo PT.out (Zau S2.out QQ.out.2)) HC.out).mono ?_;rintro e w4 ⟨⟨rfl,hps4⟩,hf4,hg4⟩;have F4:=Hq hf4;have G4:=Hq hg4;have S4:=Hq hps4;obtain ⟨k7,-,hlt4⟩:=Zav S4.out;simp only [Zcp] at k7;clear hf4 hg4 hps4)
          | (go_at_call 58;refine (IN.out _).mono ?_;rintro e w3 ⟨rfl,rfl⟩))
         go_ret
         rw [HR.out]
         exact ⟨⟨rfl,Zff S4.out (by simp only [List.length_cons] at *;omega)⟩,Zn (Ye G2.out) (Zn (Zau S2.out QQ.out.2) F4.out),G4.out⟩
       | some y =>
         go_enter Tryz.func28,Tryz.ntmps28
         go_wp2_with (first
          | (go_at_call 56;refine PI.out.mono ?_;rintro e w2 ⟨⟨pp,cc,rfl,hrow⟩,hg⟩;have G2:=Hq hg;have S2:=Hq (Jn HS.out hg);have HC:=Hq (Zho hrow);have PT:=Hq (Zkv hrow);obtain ⟨c7,z7,hlt⟩:=Zav S2.out;have QQ:=Hq (Zhj (pend' := .nilIface) S2.out);clear hg hrow)
          | (go_at_call 57;refine (SA.out _ _ _ QQ.out.1 (Xo PT.out (Zau S2.out QQ.out.2)) HC.out).mono ?_;rintro e w4 ⟨⟨rfl,hps4⟩,hf4,hg4⟩;have F4:=Hq hf4;have G4:=Hq hg4;have S4:=Hq hps4;obtain ⟨k7,-,hlt4⟩:=Zav S4.out;simp only [Zcp] at k7;clear hf4 hg4 hps4)
          | (go_at_call 58;refine (IN.out _).mono ?_;rintro e w3 ⟨rfl,rfl⟩))
         go_ret
         rw [HR.out]
         exact ⟨rfl,Zn (Ye G2.out) (Zn (Zau S2.out QQ.out.2) F4.out),G4.out⟩
theorem Zka:∀ (l:List (Int × Int)) (k:Nat) (a d0 d:Int),l[k]? = some (a,d0)->(Jj l).set (k*2+1) (.int .i64 d)=Jj (l.set k (a,d))
 | [],k,a,d0,d,h=>by simp at h
 | x::r,0,a,d0,d,h=>by simp at h;subst h;simp [Jj]
 | x::r,k+1,a,d0,d,h=>by
   have ih:=Zka r k a d0 d (by simpa using h)
   have e:(k+1)*2+1=(k*2+1)+1+1:=by omega
   rw [e]
   simp only [Jj,List.set_cons_succ,ih]
def Zlp (c:CS) (b:BlP):Option Int:=if b.call then c.fm b.word else (c.lm.getD b.fn.toNat fun _=>none) b.word
def Zcv (c:CS):List FnR->List BlP->Except Int (List FnR)
 | fs,[] => .ok fs
 | fs,b::r=>match Zlp c b with
   | none => .error b.line
   | some n=>Zcv c (Zub fs b.fn.toNat b.pl.toNat n) r
def Zbi (c:CS):Prop:=∀ b∈c.blk,∃ kf kp:Nat,∃ f,b.fn=kf/\b.pl=kp/\c.funcs[kf]? = some f/\kp<f.2.2.2.length/\b.word.length<=1000000
theorem Ybt {fs:List FnR} {kf kp:Nat} {a l r o x n:Int} {code:List (Int × Int)} (h:fs[kf]? = some (a,l,r,code)) (hp:code[kp]? = some (o,x)):Zub fs kf kp n=fs.set kf (a,l,r,code.set kp (o,n)):=by
 unfold Zub
 simp only [h,hp]
theorem Zoi (fs:List FnR) (kf kp:Nat) (n:Int):(Zub fs kf kp n).length=fs.length:=by
 unfold Zub
 split <;> simp
theorem Zmj {w0 w:World} {p m kf kp gC cC:Nat} {c:CS} {pend vd vF vL vB:Value} {bm:Nat} {cv:List Value} {lb:List Nat} {a l r n:Int} {code:List (Int × Int)} (h:Zdv w0 w p m c pend vd vF vL vB bm cv lb)
 (hf:c.funcs[kf]? = some (a,l,r,code)) (hv:cv[kf]? = some (.slice (some ⟨gC,0,none⟩) code.length cC)) (hp:kp<code.length) :
 Zdv w0 (w.setCell ⟨gC,kp*2+1,none⟩ (.int .i64 n)) p m { c with funcs:=Zub c.funcs kf kp n } pend vd vF vL vB bm cv lb/\Fr w (w.setCell ⟨gC,kp*2+1,none⟩ (.int .i64 n)):=by
 have I:=h.ins
 have ho:=I.own.each kf _ _ hf hv
 obtain ⟨⟨o,x⟩,hpx⟩:∃ z,code[kp]? = some z:=⟨_,List.getElem?_eq_getElem hp⟩
 rw [Ybt hf hpx]
 have hil:=(List.getElem?_eq_some_iff.1 hf).1
 obtain ⟨s1,g⟩:=ho.stored (kp*2+1) (.int .i64 n)
 simp only [] at s1
 rw [Zka code kp o x n hpx] at s1
 have row:∀ {t:TypeId} {sz n':Nat} {v2:Value} {xs:List Value},w.ownsRow w0.heap.size t sz v2 n' xs->t≠58->(w.setCell ⟨gC,kp*2+1,none⟩ (.int .i64 n)).ownsRow w0.heap.size t sz v2 n' xs:=fun ho' t1=>ho'.kept g (Zw ho' ho t1)
 have map:∀ {b m':Nat} {f':Txt->Option Int},Zdf w b m' f'->Zdf (w.setCell ⟨gC,kp*2+1,none⟩ (.int .i64 n)) b m' f':=fun hm=>Zv hm g (Yd hm ho)
 have hb:=Zh h.box g (Yc ho h.box (by decide))
 have hfl:Yk c.funcs cv=Yk (c.funcs.set kf (a,l,r,code.set kp (o,n))) cv:=by
  refine Zfu _ _ _ (by simp) fun j a' b' ha hb => ?_
  by_cases e:j=kf
  · subst e
    rw [hf] at ha
    rw [List.getElem?_set_self hil] at hb
    injection ha with ha;injection hb with hb
    subst ha;subst hb
    exact ⟨rfl,rfl,rfl⟩
  · rw [List.getElem?_set_ne (Ne.symm e)] at hb
    rw [ha] at hb
    injection hb with hb
    subst hb
    exact ⟨rfl,rfl,rfl⟩
 refine ⟨⟨?_,h.ge,hb,⟨⟨row I.own.dt (by decide),by simp only [List.length_set];rw [<- hfl];exact row I.own.fr (by decide),by simp only [List.length_set];exact I.own.cl,fun j f v hj hjv => ?_,I.own.dis⟩,map I.fm,I.fmE,row I.lrow (by decide),I.len1,fun j b f' hj hf'=>⟨map (I.each j b f' hj hf').1,(I.each j b f' hj hf').2⟩,I.dis,I.apart,row I.brow (by decide),I.z1,by simp only [List.length_set];exact I.z2,fun q hq => ?_,I.z4⟩,by simp only [List.length_set];exact h.lens⟩,Zif ho (by decide) g⟩
 · exact Xg h.gr g (fun b hb=>(World.ownsRow.lt ho b hb).1)
 · by_cases e:j=kf
   · subst e
     rw [List.getElem?_set_self hil] at hj
     injection hj with hj
     rw [hv] at hjv
     injection hjv with hjv
     subst hj;subst hjv
     simp only [List.length_set]
     exact s1
   · rw [List.getElem?_set_ne (Ne.symm e)] at hj
     have h1:=I.own.each j f v hj hjv
     refine h1.kept g ?_
     cases hb:v.ownBlock with
     | none=>exact Or.inl rfl
     | some q=>exact Or.inr (fun e2=>I.own.dis j kf v _ q e hjv hv hb e2.symm)
 · rcases List.mem_or_eq_of_mem_set hq with hq|hq
   · exact I.z3 q hq
   · subst hq
     have:=I.z3 _ (List.mem_of_getElem? hf)
     simp only [List.length_set];exact this
theorem Zxk:∀ (l:List BlP) (i:Nat) (x:BlP),l[i]? = some x->(blV l)[i*5]? = some (.int .i64 x.line)/\(blV l)[i*5+1]? = some (.int .i64 x.fn)/\(blV l)[i*5+2]? = some (.int .i64 x.pl)/\(blV l)[i*5+3]? = some (.string (bs x.word))/\(blV l)[i*5+4]? = some (.bool x.call)
 | [],i,x,h=>by simp at h
 | y::r,0,x,h=>by simp at h;subst h;simp [blV,bl5]
 | y::r,i+1,x,h=>by
   obtain ⟨h0,h1,h2,h3,h4⟩:=Zxk r i x (by simpa using h)
   have e:(i+1)*5=i*5+1+1+1+1+1:=by omega
   rw [e]
   simp only [blV,bl5,List.cons_append,List.nil_append]
   exact ⟨by simpa using h0,by simpa using h1,by simpa using h2,by simpa using h3,by simpa using h4⟩
def Zru (fs gs:List FnR):Prop:=fs.length=gs.length/\∀ (i:Nat) (f g:FnR),fs[i]? = some f->gs[i]? = some g->f.2.2.2.length=g.2.2.2.length
theorem Zok (fs:List FnR):Zru fs fs:=⟨rfl,fun i f g hf hg=>by rw [hf] at hg;injection hg with hg;rw [hg]⟩
theorem Zhh {fs gs:List FnR} (h:Zru fs gs) (kf kp:Nat) (n:Int):Zru fs (Zub gs kf kp n):=by
 refine ⟨by rw [Zoi];exact h.1,fun i f g hf hg => ?_⟩
 unfold Zub at hg
 split at hg
 · exact h.2 i f g hf hg
 · rename_i x hx
   by_cases e:i=kf
   · subst e
     rw [List.getElem?_set_self (List.getElem?_eq_some_iff.1 hx).1] at hg
     injection hg with hg
     subst hg
     have:=h.2 i f x hf hx
     simp only []
     split <;> simp [this]
   · rw [List.getElem?_set_ne (Ne.symm e)] at hg
     exact h.2 i f g hf hg
def Yap (w0 w:World) (p m:Nat) (c:CS) (r:Except Int (List FnR)) (e:Ending) (w':World):Prop :=
 (match r with
   | .ok fs=>e = .returned .nilIface/\∃ pend,PS w0 w' p m { c with funcs:=fs } pend
   | .error n=>∃ a,e = .returned (.iface 62 (.pointer (some ⟨a,0,none⟩)))/\w0.heap.size<=a/\w'.heap[a]? = some (.cells #[.int .i64 n,Zod 142] 64 (0,0)))/\w0.grownBy w' none
end Go.Proofs.YteciblfmgdlipaaGreatDoor.AS
