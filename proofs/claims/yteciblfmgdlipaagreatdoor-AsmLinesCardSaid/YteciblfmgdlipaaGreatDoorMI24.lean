/-
  Part of a proof: contracts of functions and lemmas, each stated by its own theorem. Conditions: as each theorem states.
-/
import Derived.Test.YteciblfmgdlipaaGreatDoorMI20
import Derived.Test.YteciblfmgdlipaaGreatDoorMI23
import Derived.Test.YteciblfmgdlipaaGreatDoorMI14
set_option linter.unusedSimpArgs false
set_option linter.unusedVariables false
set_option maxRecDepth 100000
set_option maxHeartbeats 16000000
namespace Go.Proofs.YteciblfmgdlipaaGreatDoor.AS
open Go.RowKit Go.Great CK
theorem Yra (sd:Sd) (lp:Option Addr) (lc:Nat) (big:Bool):(sdF sd lp lc big).big=big:=by
 cases sd with
 | code lb ins=>cases ins with
   | none=>rfl
   | some i=>obtain ⟨n,a,w⟩:=i;rfl
 | _=>rfl
theorem Ysl (s:St) (k:Nat) (hk:s.funcs.length=k+1):s.funcs[k]?.getD (0,0,0,[])=Xr s:=by
 rw [Zaj s.funcs (0,0,0,[]) k hk];rfl
theorem Yvc (s:St) (k:Nat) (hk:s.labels.length=k+1):s.labels[k]?.getD []=s.labels.getLastD []:=by
 rw [Zaj s.labels [] k hk];rfl
theorem Ykp (w0 w1 w:World) (p m9 line:Nat) (s:St) (sd:Sd) (big:Bool) (lp:Option Addr) (lc:Nat) (h:RDA w0 w1 p (Zgb s)) (g1:w1.grownBy w none) (hs:Zih w w1.heap.size (.slice lp (sdL sd).length lc) (sdL sd)) (hok:Ywn sd) (hS:Yom s m9) (hm:m9+sdC sd<=900000) :
 Calls Tryz.prog 33 #[.pointer (some ⟨p,0,none⟩),lnA (sdF sd lp lc big),.int .i64 (line:Int)] w (Ybi w0 p (Jv TT s sd big line)):=by
 have hfk:=Ykn s sd lp lc big
 cases hf:Zfh s sd with
 | false =>
   rw [hf] at hfk
   refine (Ybq (sdF sd lp lc big) w0 w1 w p s line h g1 hfk).mono ?_
   rintro e w' ⟨rfl,hg⟩
   exact Ztj (by unfold Jv;rw [hf];rfl) rfl hg
 | true =>
   rw [hf] at hfk
   cases big with
   | true =>
     refine (Yko (sdF sd lp lc true) w0 w1 w p s line h g1 hfk (Yra _ _ _ _)).mono ?_
     rintro e w' ⟨rfl,hg⟩
     exact Ztj (by unfold Jv;rw [hf];rfl) rfl hg
   | false =>
     have z1:=hS.z1
     have z2:=hS.z2
     cases sd with
     | nothing =>
       refine (Yet w0 w1 w p s line h g1 hfk).mono ?_
       rintro e w' ⟨rfl,hg⟩
       exact Ybp (by unfold Jv;rw [hf];rfl) rfl hg
     | mem n =>
       refine (Ykm n w0 w1 w p s line h g1 hfk).mono ?_
       rintro e w' ⟨rfl,hg⟩
       exact Ybp (by unfold Jv;rw [hf];rfl) rfl hg
     | data t =>
       refine (Yew t w0 w1 w p s line h g1 hfk (by simp only [sdC] at hm;omega)).mono ?_
       rintro e w' ⟨rfl,hg⟩
       exact Ybp (by unfold Jv;rw [hf];rfl) rfl hg
     | fn nm a l r =>
       have e1:=hS.e1
       have e2:=hS.e2
       cases hc:s.names.contains nm with
       | true =>
         obtain ⟨nn,hn⟩:=Ytc hc
         refine (Yev nm a l r nn w0 w1 w p s line h g1 hfk (by omega) hn).mono ?_
         rintro e w' ⟨rfl,hg⟩
         exact Ztj (by unfold Jv;rw [hf];simp only [Bool.not_true,Bool.false_eq_true,if_false,hc,if_true]) rfl hg
       | false =>
         refine (Yqr nm a l r w0 w1 w p s line h g1 hfk (by omega) (by omega) (by omega) (Ynq hc)).mono ?_
         rintro e w' ⟨rfl,hg⟩
         exact Ybp (by unfold Jv;rw [hf];simp only [Bool.not_true,Bool.false_eq_true,if_false,hc]) rfl hg
     | code lb ins =>
       have hpos:0<s.funcs.length:=by
        cases hfe:s.funcs with
        | nil=>simp only [Zfh,hfe] at hf;cases hf
        | cons a r=>simp
       obtain ⟨k,hk⟩:∃ k,s.funcs.length=k+1:=⟨s.funcs.length - 1,by omega⟩
       have hlk:s.labels.length=k+1:=by rw [hS.e1];exact hk
       simp only [sdC] at hm
       have key:∀ (xo xa:Int) (xw:Txt),sdF (.code lb ins) lp lc false=⟨4,lp,lb.length,lc,[],0,0,0,[],xo,xa,xw,false⟩->Calls Tryz.prog 33 #[.pointer (some ⟨p,0,none⟩),lnA (sdF (.code lb ins) lp lc false),.int .i64 (line:Int)] w
        (CdP w0 p s k (Xr s) (Zae (Xr s).2.2.2.length (s.labels.getLastD []) lb) xo xa xw line):=fun xo xa xw e=>by
        rw [e]
        have:=Yex lb lp lc xo xa xw w0 w1 w p k m9 line s h g1 hs (by rw [e] at hfk;exact hfk) hk hS (by omega)
        rw [Ysl s k hk,Yvc s k hlk] at this
        exact this
       have hl1:s.labels.length - 1=k:=by omega
       cases ins with
       | none =>
         refine (key (-1) 0 [] rfl).mono ?_
         intro e w' hp
         have ht:Jv TT s (.code lb none) false line=(match Zae (Xr s).2.2.2.length (s.labels.getLastD []) lb with|none => .error 142|some m => .ok { s with labels:=s.labels.set (s.labels.length - 1) m }):=by
          unfold Jv;rw [hf];simp only [Bool.not_true,Bool.false_eq_true,if_false];cases Zae (Xr s).2.2.2.length (s.labels.getLastD []) lb <;> rfl
         cases ha:Zae (Xr s).2.2.2.length (s.labels.getLastD []) lb with
         | none=>rw [ha] at hp ht;exact Ztj ht hp.1 hp.2
         | some m =>
           rw [ha] at hp ht
           obtain ⟨he,hr⟩:=hp
           rw [if_pos (by decide),Yfn] at hr
           refine Ybp ht he ?_
           rw [hl1]
           exact hr
       | some i =>
         obtain ⟨n,a,wd⟩:=i
         obtain ⟨hn0,hw,hkd⟩:=hok
         refine (key n a (wd.getD []) rfl).mono ?_
         intro e w' hp
         have hput:Jr s (n,a)=s.funcs.set k ((Xr s).1,(Xr s).2.1,(Xr s).2.2.1,(Xr s).2.2.2++[(n,a)]):=by
          unfold Jr;rw [hk,Nat.add_sub_cancel]
         have fin:∀ (ws:List Zdz),(∀ _m:List Nat,Jv TT s (.code lb (some (n,a,wd))) false line=(match Zae (Xr s).2.2.2.length (s.labels.getLastD []) lb with|none => .error 142|some m => .ok { s with labels:=s.labels.set (s.labels.length - 1) m,wants:=ws,funcs:=Jr s (n,a) }))->(if wd.getD []=[] then s.wants else s.wants++[⟨k,(Xr s).2.2.2.length,line,wd.getD [],Zai n == 3⟩])=ws->Ybi w0 p (Jv TT s (.code lb (some (n,a,wd))) false line) e w':=fun ws ht hws=>by
          replace ht:=ht ([]:List Nat)
          cases ha:Zae (Xr s).2.2.2.length (s.labels.getLastD []) lb with
          | none=>rw [ha] at hp ht;exact Ztj ht hp.1 hp.2
          | some m =>
            rw [ha] at hp ht
            obtain ⟨he,hr⟩:=hp
            rw [if_neg (by omega),hws] at hr
            refine Ybp ht he ?_
            have e9:Zgb { s with labels:=s.labels.set (s.labels.length - 1) m,wants:=ws,funcs:=Jr s (n,a) }={ rsL s k m with wants:=ws,funcs:=s.funcs.set k ((Xr s).1,(Xr s).2.1,(Xr s).2.2.1,(Xr s).2.2.2++[(n,a)]) }:=by
             rw [Yfn,hl1,hput];rfl
            rw [e9]
            exact hr
         cases wd with
         | none=>exact fin s.wants (fun _=>by unfold Jv;rw [hf];simp only [Bool.not_true,Bool.false_eq_true,if_false];cases Zae (Xr s).2.2.2.length (s.labels.getLastD []) lb <;> rfl) rfl
         | some t =>
           have ht:t≠[]:=fun e=>hw (by rw [e])
           refine fin (s.wants++[⟨s.funcs.length - 1,(Xr s).2.2.2.length,line,t,TT.kind n == 3⟩]) (fun _=>by unfold Jv;rw [hf];simp only [Bool.not_true,Bool.false_eq_true,if_false];cases Zae (Xr s).2.2.2.length (s.labels.getLastD []) lb <;> rfl) ?_
           simp only [Option.getD_some]
           rw [if_neg ht,hkd,hk,Nat.add_sub_cancel]
def InF (fs:List FnR):Prop:=∀ f∈fs,∀ x∈f.2.2.2,Zki x.2
structure Ywm (s:St) (m:Nat):Prop where
 inf:InF s.funcs
 plc:∀ l∈s.labels,∀ x∈l,x.2<=m
theorem Ybu:Ywm St0 0:=⟨fun f hf=>by simp [St0] at hf,fun l hl=>by simp [St0] at hl⟩
def Ywp:Sd->Prop
 | .code _ (some (_,a,_))=>Zki a
 | _=>True
theorem Zux:Zki 0:=by unfold Zki;omega
theorem Ysx {lb:List Txt} {ps:List Pc} {sd:Sd} (hp:Zrp ps) (h:Zfu TT lb ps=some sd):Ywp sd:=by
 cases ps with
 | nil=>injection h with h;subst h;trivial
 | cons p r =>
   cases p with
   | num n b=>cases h
   | str t=>cases h
   | colon=>cases h
   | word t =>
     unfold Zfu at h
     simp only [] at h
     cases hn:TT.named t with
     | none=>rw [hn] at h;cases h
     | some n =>
       rw [hn] at h
       simp only [] at h
       split at h
       · split at h
         · injection h with h;subst h;exact Zux
         · cases h
       · split at h
         · rename_i v b
           injection h with h;subst h
           exact hp v b (by simp)
         · rename_i s
           split at h
           · cases hc:Xb callT s with
             | none=>rw [Zwh,hc] at h;cases h
             | some c =>
               rw [Zwh,hc] at h
               injection h with h
               subst h
               have hl:=(List.findIdx?_eq_some_iff_getElem.1 hc).1
               have h5:callT.length<=100:=by decide
               show Zki ((c:Nat):Int)
               unfold Zki
               omega
           · split at h
             · injection h with h;subst h;exact Zux
             · cases h
         · cases h
theorem Ykz {t:Txt} {sd:Sd} {big:Bool} (h:Znn t=some (sd,big)):Ywp sd:=by
 unfold Znn at h
 cases hp:Zpm t with
 | none=>rw [hp] at h;cases h
 | some ps =>
   rw [hp] at h
   obtain ⟨sd',hs,h⟩:=Option.map_eq_some_iff.1 h
   injection h with h _
   subst h
   have hN:=Zgx _ _ _ _ hp
   obtain ⟨hm,hll⟩:=Zip ps.length ps (Nat.le_refl _)
   have ins:∀ lb qs,Zfu TT lb qs=some sd'->(∀ p∈qs,p∈ps)->Ywp sd':=fun lb qs hi hq=>Ysx (fun n b hn=>hN n b (hq _ hn)) hi
   unfold Zdj at hs
   cases ps with
   | nil=>injection hs with hs;subst hs;trivial
   | cons a r =>
     simp only [] at hs
     generalize a::r=qs at *
     split at hs
     · rename_i r2 hlq
       rw [hlq] at hm
       unfold Zdl at hs
       split at hs
       · split at hs
         · split at hs
           · injection hs with hs;subst hs;trivial
           · cases hs
         · split at hs
           · split at hs
             · injection hs with hs;subst hs;trivial
             · cases hs
           · split at hs
             · split at hs
               · injection hs with hs;subst hs;trivial
               · cases hs
             · exact ins _ _ hs hm
       · exact ins _ _ hs hm
     · rename_i lb r2 hlq
       rw [hlq] at hm
       exact ins _ _ hs hm
theorem Zvw {at_ B:Nat} (hB:at_<=B):∀ (lb:List Txt) (m m':List (Txt × Nat)),Zae at_ m lb=some m'->(∀ x∈m,x.2<=B)->∀ x∈m',x.2<=B
 | [],m,m',h,hm=>by injection h with h;subst h;exact hm
 | t::r,m,m',h,hm=>by
   rw [Zae] at h
   split at h
   · cases h
   · refine Zvw hB r _ _ h fun x hx => ?_
     rcases List.mem_append.1 hx with hx|hx
     · exact hm x hx
     · have:x=(t,at_):=by simpa using hx
       subst this;exact hB
theorem Ysz {s:St} {n a:Int} (h:InF s.funcs) (ha:Zki a) (hpos:0<s.funcs.length):InF (Jr s (n,a)):=by
 intro f hf x hx
 unfold Jr at hf
 rcases List.mem_or_eq_of_mem_set hf with hf|hf
 · exact h f hf x hx
 · subst hf
   obtain ⟨k,hk⟩:∃ k,s.funcs.length=k+1:=⟨s.funcs.length - 1,by omega⟩
   rcases List.mem_append.1 hx with hx|hx
   · exact h _ (List.mem_of_getElem? (Zaj s.funcs (0,0,0,[]) k hk)) x hx
   · have:x=(n,a):=by simpa using hx
     subst this;exact ha
theorem Yfb {s s':St} {sd:Sd} {big:Bool} {line m m':Nat} (h:Ywm s m) (hS:Yom s m) (hs:Ywp sd) (hm:m<=m') (e:Jv TT s sd big line = .ok s'):Ywm s' m':=by
 have hp':∀ l∈s.labels,∀ x∈l,x.2<=m':=fun l hl x hx=>Nat.le_trans (h.plc l hl x hx) hm
 unfold Jv at e
 split at e
 · cases e
 · rename_i hfit
   split at e
   · cases e
   · cases sd with
     | nothing=>injection e with e;subst e;exact ⟨h.inf,hp'⟩
     | mem n=>injection e with e;subst e;exact ⟨h.inf,hp'⟩
     | data t=>injection e with e;subst e;exact ⟨h.inf,hp'⟩
     | fn nm a l k =>
       simp only [] at e
       split at e
       · cases e
       · injection e with e;subst e
         refine ⟨fun f hf x hx => ?_,fun l hl x hx => ?_⟩
         · rcases List.mem_append.1 hf with hf|hf
           · exact h.inf f hf x hx
           · have:f=(a,l,k,[]):=by simpa using hf
             subst this;cases hx
         · rcases List.mem_append.1 hl with hl|hl
           · exact hp' l hl x hx
           · have:l=[]:=by simpa using hl
             subst this;cases hx
     | code lb ins =>
       simp only [] at e
       have hpos:0<s.funcs.length:=by
        simp only [Zfh,Bool.not_not] at hfit
        cases hfe:s.funcs with
        | nil=>rw [hfe] at hfit;exact absurd rfl hfit
        | cons a r=>simp
       obtain ⟨k,hk⟩:∃ k,s.funcs.length=k+1:=⟨s.funcs.length - 1,by omega⟩
       have hlast:=Zaj s.funcs (0,0,0,[]) k hk
       have hlab:=Zaj s.labels [] k (by rw [hS.e1];exact hk)
       split at e
       · cases e
       · rename_i mm hadd
         have hin:=Zvw (B:=m') (Nat.le_trans (hS.z3 _ (List.mem_of_getElem? hlast)) hm) lb _ _ hadd (hp' _ (List.mem_of_getElem? hlab))
         have hlabs:∀ l∈s.labels.set (s.labels.length - 1) mm,∀ x∈l,x.2<=m':=fun l hl x hx=>by
          rcases List.mem_or_eq_of_mem_set hl with hl|hl
          · exact hp' l hl x hx
          · subst hl;exact hin x hx
         split at e
         · injection e with e;subst e
           exact ⟨h.inf,hlabs⟩
         · rename_i n a w
           injection e with e;subst e
           exact ⟨Ysz h.inf hs hpos,hlabs⟩
theorem Yao {fs:List FnR} {f p:Nat} {a:Int} (h:InF fs) (ha:Zki a):InF (Zpl fs f p a):=by
 unfold Zpl
 split
 · exact h
 · rename_i x hx
   intro g hg y hy
   rcases List.mem_or_eq_of_mem_set hg with hg|hg
   · exact h g hg y hy
   · subst hg
     simp only [] at hy
     split at hy
     · exact h x (List.mem_of_getElem? hx) y hy
     · rename_i i hi
       rcases List.mem_or_eq_of_mem_set hy with hy|hy
       · exact h x (List.mem_of_getElem? hx) y hy
       · subst hy;exact ha
theorem Yiq {s:St} {w:Zdz} {m:List (Txt × Nat)} (hm:s.labels[w.fn]? = some m) (hj:w.jump=true) :
 (Zmo s w=none/\Zmd (Jc m) w.word = -1)\/∃ (i n:Nat),Zmo s w=some n/\Zmd (Jc m) w.word=(i:Int)/\(Zba m)[i]? = some (n:Int)/\(w.word,n)∈m:=by
 unfold Zmo
 rw [if_pos hj,List.getD_eq_getElem?_getD,hm]
 simp only [Option.getD_some]
 generalize w.word=t
 clear hm
 have key:∀ (m:List (Txt × Nat)),(m.find? (fun x=>x.1 == t)=none/\(Jc m).findIdx? (· == t)=none)\/∃ (i n:Nat),m.find? (fun x=>x.1 == t)=some (t,n)/\(Jc m).findIdx? (· == t)=some i/\(Zba m)[i]? = some (n:Int)/\(t,n)∈m:=by
  intro m
  induction m with
  | nil=>exact Or.inl ⟨rfl,rfl⟩
  | cons a r ih =>
    obtain ⟨u,n⟩:=a
    cases hu:u == t with
    | true =>
      have:u=t:=by simpa using hu
      subst this
      exact Or.inr ⟨0,n,by simp [List.find?],by simp [Jc,List.findIdx?_cons],by simp [Zba],by simp⟩
    | false =>
      rcases ih with ⟨h1,h2⟩|⟨i,n',h1,h2,h3,h4⟩
      · exact Or.inl ⟨by simp [List.find?,hu];simpa using h1,by simp only [Jc,List.map_cons,List.findIdx?_cons,hu];simp only [Jc] at h2;rw [h2];rfl⟩
      · exact Or.inr ⟨i+1,n',by simp only [List.find?,hu];exact h1,by simp only [Jc,List.map_cons,List.findIdx?_cons,hu];simp only [Jc] at h2;rw [h2];rfl,by simpa [Zba] using h3,by simp [h4]⟩
 rcases key m with ⟨h1,h2⟩|⟨i,n,h1,h2,h3,h4⟩
 · exact Or.inl ⟨by rw [h1];rfl,by unfold Zmd;rw [h2]⟩
 · exact Or.inr ⟨i,n,by rw [h1];rfl,by unfold Zmd;rw [h2],h3,h4⟩
theorem Yip {s:St} {w:Zdz} (hj:w.jump=false) :
 (Zmo s w=none/\Zmd s.names w.word = -1)\/∃ n:Nat,Zmo s w=some n/\Zmd s.names w.word=(n:Int)/\n<s.names.length:=by
 unfold Zmo Zmd
 rw [hj]
 simp only [Bool.false_eq_true,if_false]
 cases he:s.names.findIdx? (· == w.word) with
 | none=>exact Or.inl ⟨rfl,rfl⟩
 | some i=>exact Or.inr ⟨i,rfl,rfl,(List.findIdx?_eq_some_iff_getElem.1 he).1⟩
end Go.Proofs.YteciblfmgdlipaaGreatDoor.AS
