/-
  Part of a proof: contracts of functions and lemmas, each stated by its own theorem. Conditions: as each theorem states.
-/
import Derived.Test.YteciblfmgdlipaaGreatDoorMI10
import Derived.Test.YteciblfmgdlipaaGreatDoorMI00
import Derived.Test.YteciblfmgdlipaaGreatDoorMI05
import Derived.Test.YteciblfmgdlipaaGreatDoorMI04
import Derived.Lib.ItoaLen
import Derived.Shelf.Strings.BuilderF
set_option linter.unusedSimpArgs false
set_option linter.unusedVariables false
set_option maxRecDepth 100000
set_option maxHeartbeats 16000000
namespace Go.Proofs.YteciblfmgdlipaaGreatDoor.AS
open Go.RowKit Go.Great CK
def C0:CS:=⟨0,false,[],[],fun _=>none,[],[]⟩
def Yae:CS->Int->List Txt->Except (Int × Int) CS
 | c,_,[] => .ok c
 | c,n,l::r=>match lnC n c l with
   | none => .error (141,n)
   | some (c',none)=>Yae c' (n+1) r
   | some (_,some y) => .error (y,n)
def Zda (t:Txt):Except (Int × Int) PrP :=
 if 65536<t.length then .error (2,0)
 else match Yae C0 1 (Zci t) with
  | .error e => .error e
  | .ok c=>match Zhe c c.funcs c.blk with
    | .error n => .error (142,n)
    | .ok fs=>if Jl c.mem c.data.length fs=0 then .ok (c.mem,c.data,fs) else .error (Jl c.mem c.data.length fs,0)
theorem Zlu {c c':CS} (h:Zew c) (h1:c'.funcs=c.funcs) (h2:c'.blk=c.blk):Zew c':=by
 intro b hb
 rw [h2] at hb
 rw [h1]
 exact h b hb
theorem Yjj {c:CS} {x:Option Int} {t:Txt} (h:Zew c):Zew (Zlf c x t).1:=by
 unfold Zlf
 simp only []
 split
 · exact h
 · exact Zlu h rfl rfl
theorem Zva {c:CS} {k:Nat} (hk:c.funcs.length=k+1):c.funcs[k]? = some (c.funcs.getD k (0,0,0,[])):=by
 rw [List.getD_eq_getElem?_getD,List.getElem?_eq_getElem (by omega:k<c.funcs.length)];rfl
theorem Zkd {c:CS} {i:Int × Int} (hk:c.funcs.length≠0) (h:Zew c):Zew (Zjq c i):=by
 obtain ⟨k,hk⟩:∃ k,c.funcs.length=k+1:=⟨c.funcs.length - 1,by omega⟩
 intro b hb
 obtain ⟨kf,kp,f,e1,e2,h1,h2,h3⟩:=h b hb
 have hg:=Zva hk
 have hkl:k<c.funcs.length:=by omega
 unfold Zjq
 simp only [hk,Nat.add_sub_cancel]
 by_cases e:kf=k
 · subst e
   rw [hg] at h1
   injection h1 with h1
   refine ⟨kf,kp,_,e1,e2,List.getElem?_set_self hkl,?_,h3⟩
   simp only [List.length_append,List.length_singleton]
   rw [h1];omega
 · exact ⟨kf,kp,f,e1,e2,by rw [List.getElem?_set_ne (Ne.symm e)];exact h1,h2,h3⟩
theorem Zvr {c:CS} {i:Int × Int} {line:Int} {s:Txt} {bb:Bool} (hk:c.funcs.length≠0) (h:Zew c) (hs:s.length<=1000000):Zew (Zjq (Ybd c line s bb) i):=by
 obtain ⟨k,hk⟩:∃ k,c.funcs.length=k+1:=⟨c.funcs.length - 1,by omega⟩
 have hg:=Zva hk
 have hkl:k<c.funcs.length:=by omega
 intro b hb
 have hb2:b∈c.blk\/b=⟨line,k,((c.funcs.getD k (0,0,0,[])).2.2.2.length:Int),s,bb⟩:=by
  unfold Zjq Ybd at hb
  simp only [hk,Nat.add_sub_cancel] at hb
  rcases List.mem_append.1 hb with hb|hb
  · exact Or.inl hb
  · exact Or.inr (by simpa using hb)
 rcases hb2 with hb2|hb2
 · obtain ⟨kf,kp,f,e1,e2,h1,h2,h3⟩:=Zkd (i:=i) (by omega) h b hb2
   refine ⟨kf,kp,f,e1,e2,?_,h2,h3⟩
   exact h1
 · subst hb2
   unfold Zjq Ybd
   simp only [hk,Nat.add_sub_cancel]
   exact ⟨k,_,_,rfl,rfl,List.getElem?_set_self hkl,by simp only [List.length_append,List.length_singleton];omega,hs⟩
theorem Yoh {c:CS} (h:Zew c) (f:FnR) (g:Txt->Option Int) (lm:List (Txt->Option Int)):Zew { c with funcs:=c.funcs++[f],fm:=g,lm:=lm }:=by
 intro b hb
 obtain ⟨kf,kp,f0,e1,e2,h1,h2,h3⟩:=h b hb
 exact ⟨kf,kp,f0,e1,e2,by show (c.funcs++[f])[kf]? = _;rw [List.getElem?_append_left (List.getElem?_eq_some_iff.1 h1).1];exact h1,h2,h3⟩
theorem Yjk {line:Int} {c c':CS} {x x':Option Int} {ps:List Pc} (h:Zew c) (hw:∀ t,Pc.word t∈ps->t.length<=1000000) (e:Zli line c x ps=some (c',x')):Zew c':=by
 unfold Zli at e
 split at e
 · rename_i t rest
   split at e
   · cases e
   · split at e
     · cases e
     · rename_i hk
       unfold Zje at e
       split at e
       · split at e
         · injection e with e;injection e with e _;subst e
           exact Zkd hk h
         · cases e
       · split at e
         · injection e with e;injection e with e _;subst e
           exact Zkd hk h
         · rename_i s
           split at e
           · injection e with e;injection e with e _;subst e
             exact Zvr hk h (hw s (by simp))
           · split at e
             · split at e
               · cases e
               · injection e with e;injection e with e _;subst e
                 exact Zkd hk h
             · cases e
         · cases e
 · cases e
theorem Zrl {line:Int} {c c':CS} {x x':Option Int} {lab:Bool} {ps:List Pc} (h:Zew c) (hw:∀ t,Pc.word t∈ps->t.length<=1000000) (e:Zer line c x lab ps=some (c',x')):Zew c':=by
 unfold Zer at e
 split at e
 · injection e with e;injection e with e _;subst e;exact h
 · rename_i t r
   split at e
   · unfold Yjz at e
     split at e
     · cases e
     · split at e
       · cases e
       · injection e with e;injection e with e _;subst e;exact Zlu h rfl rfl
   · split at e
     · unfold Zhx at e
       split at e
       · split at e
         · cases e
         · injection e with e;injection e with e _;subst e;exact Zlu h rfl rfl
       · cases e
     · split at e
       · unfold Zhb at e
         split at e
         · split at e
           · injection e with e;injection e with e _;subst e;exact Yoh h _ _ _
           · cases e
         · cases e
       · exact Yjk h hw e
 · cases e
theorem Ydq {line:Int}:∀ (n:Nat) (ps:List Pc) (c c':CS) (x x':Option Int) (lab:Bool),ps.length<=n->Zew c->(∀ t,Pc.word t∈ps->t.length<=1000000)->Zht line c x lab ps=some (c',x')->Zew c':=by
 intro n
 induction n with
 | zero =>
   intro ps c c' x x' lab hn h hw e
   have:ps=[]:=List.eq_nil_of_length_eq_zero (by omega)
   subst this
   rw [Zam _ _ _ _ _ (by intro t r e;cases e)] at e
   exact Zrl h hw e
 | succ n ih =>
   intro ps c c' x x' lab hn h hw e
   by_cases hp:∃ t r,ps = .word t :: .colon::r
   · obtain ⟨t,r,rfl⟩:=hp
     rw [Zfn] at e
     split at e
     · cases e
     · exact ih r _ c' _ x' true (by simp only [List.length_cons] at hn;omega) (Yjj h) (fun u hu=>hw u (by simp [hu])) e
   · rw [Zam _ _ _ _ _ (fun t r e=>hp ⟨t,r,e⟩)] at e
     exact Zrl h hw e
theorem Yog {line:Int} {c c':CS} {x':Option Int} {t:Txt} (h:Zew c) (ht:t.length<=1000000) (e:lnC line c t=some (c',x')):Zew c':=by
 unfold lnC at e
 cases hp:Zpm t with
 | none=>rw [hp] at e;cases e
 | some ps =>
   rw [hp] at e
   have:=(Zms hp).2
   exact Ydq ps.length ps c c' none x' false (Nat.le_refl _) h (fun u hu=>Nat.le_trans (this u (Or.inl hu)) ht) e
def Zls:List Txt->Nat
 | []=>0
 | l::r=>2*l.length+2+Zls r
theorem Zoy:∀ (t:Txt),Zls (Zci t)=2*t.length+2
 | []=>rfl
 | c::r=>by
   have ih:=Zoy r
   have hne:=Yix r
   rw [Zci]
   split
   · simp only [Zls,List.length_cons,List.length_nil];omega
   · split
     · rename_i h;exact absurd h hne
     · rename_i l m h
       rw [h] at ih
       simp only [Zls,List.length_cons] at ih ⊢
       omega
theorem Zlr:∀ (ls:List Txt) (k:Nat) (l:Txt),ls[k]? = some l->Zls (ls.drop k)=2*l.length+2+Zls (ls.drop (k+1))
 | [],k,l,h=>by simp at h
 | a::r,0,l,h=>by simp at h;subst h;rfl
 | a::r,k+1,l,h=>by simpa using Zlr r k l (by simpa using h)
theorem Zta:∀ (ls:List Txt) (k:Nat),Zls (ls.drop k)<=Zls ls
 | [],k=>by simp
 | a::r,0=>Nat.le_refl _
 | a::r,k+1=>by have:=Zta r k;simp only [List.drop_succ_cons,Zls];omega
theorem Zox:∀ (ls:List Txt),2*ls.length<=Zls ls
 | []=>Nat.zero_le _
 | a::r=>by have:=Zox r;simp only [List.length_cons,Zls];omega
def Zwa (w:World) (b:Nat) (ls:List Txt):Prop:=∃ cs:Array Value,w.heap[b]? = some (.cells cs 9 (0,0))/\∀ (i:Nat) (l:Txt),ls[i]? = some l->cs[i]? = some (Value.string (bs l))
theorem Zxr {w w':World} {b:Nat} {ls:List Txt} (h:Zwa w b ls) (g:Fr w w'):Zwa w' b ls:=by
 obtain ⟨cs,h1,h2⟩:=h
 exact ⟨cs,(g.keep b cs _ _ h1 (Or.inr rfl)).trans h1,h2⟩
theorem Zxs {w:World} {b i:Nat} {ls:List Txt} {l:Txt} (h:Zwa w b ls) (hi:ls[i]? = some l):w.cell? ⟨b,i,none⟩=some (.string (bs l))/\b<w.heap.size:=by
 obtain ⟨cs,h1,h2⟩:=h
 refine ⟨?_,(Gs h1)⟩
 have:=h2 i l hi
 unfold World.cell?
 simp [h1,this]
theorem Yfc (s:ByteArray) (hs:s.size<4294967281) (w:World) (h:LibW w) :
 Calls Tryz.prog 27 #[.string s,.string ⟨#[10]⟩] w fun e w'=>∃ b,e = .returned (.slice (some ⟨b,0,none⟩) (Zci s.data.toList).length (Zci s.data.toList).length)/\w.grownBy w' none/\Zwa w' b (Zci s.data.toList):=by
 obtain ⟨m,hm⟩:=h.max
 refine (Tryz.strings_Split s ⟨#[10]⟩ m w hs hm (Nat.le_refl 1)).mono ?_
 rintro e w' ⟨rfl,rfl⟩
 have hc:=Ybv s
 have hl:=Ytj s
 rw [hl]
 refine ⟨w.heap.size,rfl,Ga _ _ _,_,heap_alloc_new w _,fun i l hi => ?_⟩
 rw [<- hc,List.getElem?_map] at hi
 obtain ⟨x,hx,rfl⟩:=Option.map_eq_some_iff.1 hi
 rw [List.getElem?_toArray,List.getElem?_map,hx]
 (try rfl)
theorem Ylr (w:World):PS w ((w.alloc (.map #[] 0)).alloc (.cells #[.int .i64 0,.slice none 0 0,.slice none 0 0,.bool false,.map (some w.heap.size),.slice none 0 0,.slice none 0 0,.nilIface] 70)) (w.heap.size+1) 0 C0 .nilIface:=by
 have g1:=Ga w (.map #[] 0) none
 have g2:=Ga (w.alloc (.map #[] 0)) (.cells #[.int .i64 0,.slice none 0 0,.slice none 0 0,.bool false,.map (some w.heap.size),.slice none 0 0,.slice none 0 0,.nilIface] 70) none
 have hb:=heap_alloc_new (w.alloc (.map #[] 0)) (.cells #[.int .i64 0,.slice none 0 0,.slice none 0 0,.bool false,.map (some w.heap.size),.slice none 0 0,.slice none 0 0,.nilIface] 70)
 rw [World.size_alloc] at hb
 have nilr:∀ (t:TypeId) (sz:Nat) (w:World) (E:Nat),w.ownsRow E t sz (.slice none 0 0) 0 []:=fun t sz w E=>World.ownsRow_nil _ _ _ _
 refine ⟨.slice none 0 0,.slice none 0 0,.slice none 0 0,.slice none 0 0,w.heap.size,[],[],Za g1 g2,Nat.le_succ _,hb,?_,rfl⟩
 refine ⟨⟨nilr _ _ _ _,nilr _ _ _ _,rfl,?_,?_⟩,Yu (Zul w) g2 (by simp),Nat.le_refl _,nilr _ _ _ _,rfl,?_,?_,by simp,nilr _ _ _ _,Nat.le_refl _,Nat.le_refl _,?_,Nat.le_refl _⟩
 · intro k f v hf hv;simp at hv
 · intro k l v v' b hkl hv;simp at hv
 · intro i b f hi;simp at hi
 · intro i j b hi;simp at hi
 · intro f hf;simp [C0] at hf
theorem Zyk:Zew C0:=fun b hb=>by cases hb
def Zck (w:World) (b:Nat) (v0 v1 v2:Value):Prop:=w.heap[b]? = some (.cells #[v0,v1,v2] 26 (0,0))
theorem Zaw {w:World} {b:Nat} {v0 v1 v2 x0 x1 x2:Value} (h:Zck w b v0 v1 v2):Zck (((w.setCell ⟨b,0,none⟩ x0).setCell ⟨b,1,none⟩ x1).setCell ⟨b,2,none⟩ x2) b x0 x1 x2:=by
 unfold Zck
 rw [Zj (Zj (Zj h))];rfl
theorem Zrv {w0 w:World} {b:Nat} {x0 x1 x2:Value} (h:w0.grownBy w none) (hb:w0.heap.size<=b):w0.grownBy (((w.setCell ⟨b,0,none⟩ x0).setCell ⟨b,1,none⟩ x1).setCell ⟨b,2,none⟩ x2) none :=
 Zy (Zy (Zy h hb) hb) hb
theorem Zkq {w:World} {b:Nat} {x0 x1 x2:Value}:w.grownBy (((w.setCell ⟨b,0,none⟩ x0).setCell ⟨b,1,none⟩ x1).setCell ⟨b,2,none⟩ x2) (some b):=Za (Za (Zm _ _ _ _) (Zm _ _ _ _)) (Zm _ _ _ _)
theorem Zxd {w:World} {b:Nat} {v0 v1 v2:Value} (h:Zck w b v0 v1 v2):(loadVar 26 ⟨b,0,none⟩).run Tryz.prog w = .ok (.agg #[v0,v1,v2]) w:=by
 have c0:=Cq w _ 0 _ _ _ h
 have c1:=Cq w _ 1 _ _ _ h
 have c2:=Cq w _ 2 _ _ _ h
 have z0:=frozen_of_row w _ 0 _ _ h
 have z1:=frozen_of_row w _ 1 _ _ h
 have z2:=frozen_of_row w _ 2 _ _ h
 go_simp
theorem Zqo {fn:Func} {p u:Tmp} (hf:fn.results = #[.cell p 26,.tmp u]) {tmps:Array Value} {w:World} {b:Nat} {v0 v1 v2 f:Value}
 (hp:tmps.getD p undef = .pointer (some ⟨b,0,none⟩)) (hu:tmps.getD u undef=f) (h:Zck w b v0 v1 v2) :
 (results fn tmps).run Tryz.prog w = .ok (.tuple #[.agg #[v0,v1,v2],f]) w:=by
 rw [results_cell_tmp hf,hp,hu]
 have:(asAddr (.pointer (some ⟨b,0,none⟩))).run Tryz.prog w = .ok (⟨b,0,none⟩:Addr) w:=rfl
 rw [this]
 simp only [Result.andThen]
 rw [Zxd h]
def Zvy (w:World) (r:Except (Int × Int) PrP) (e:Ending) (w':World):Prop :=
 (match r with
   | .ok (mem,d,fs)=>∃ D F cv,e = .returned (.tuple #[.agg #[.int .i64 mem,D,F],.nilIface])/\Ztd w' w.heap.size D F (Zcq d) fs cv
   | .error (y,n)=>∃ a,e = .returned (.tuple #[.agg #[.int .i64 0,.slice none 0 0,.slice none 0 0],.iface 62 (.pointer (some ⟨a,0,none⟩))])/\w.heap.size<=a/\w'.heap[a]? = some (.cells #[.int .i64 n,Zwf y] 64 (0,0)))/\w.grownBy w' none
theorem Ygp {w w9:World} {r:Nat} {n y:Int} {v0 v1 v2:Value} {R:Except (Int × Int) PrP} (hg:w.grownBy w9 none) (hr:w.heap.size<=r) (hb:Zck w9 r v0 v1 v2) (hR:R = .error (y,n)) :
 Zvy w R (.returned (.tuple #[.agg #[.int .i64 0,.slice none 0 0,.slice none 0 0],.iface 62 (.pointer (some ⟨w9.heap.size,0,none⟩))]))
  ((((w9.setCell ⟨r,0,none⟩ (.int .i64 0)).setCell ⟨r,1,none⟩ (.slice none 0 0)).setCell ⟨r,2,none⟩ (.slice none 0 0)).alloc (.cells #[.int .i64 n,Zwf y] 64)):=by
 subst hR
 have hg3:=Zrv (x0 := .int .i64 0) (x1 := .slice none 0 0) (x2 := .slice none 0 0) hg hr
 have h2:=heap_alloc_new (((w9.setCell ⟨r,0,none⟩ (.int .i64 0)).setCell ⟨r,1,none⟩ (.slice none 0 0)).setCell ⟨r,2,none⟩ (.slice none 0 0)) (.cells #[.int .i64 n,Zwf y] 64)
 have hsz:(((w9.setCell ⟨r,0,none⟩ (.int .i64 0)).setCell ⟨r,1,none⟩ (.slice none 0 0)).setCell ⟨r,2,none⟩ (.slice none 0 0)).heap.size=w9.heap.size:=by simp
 rw [hsz] at h2
 exact ⟨⟨_,rfl,hg.size,h2⟩,Za hg3 (Ga _ _ none)⟩
theorem Yrs {t:Txt} {e:Int × Int} (hl:¬ 65536<t.length) (h:Yae C0 1 (Zci t) = .error e):Zda t = .error e:=by
 unfold Zda;rw [if_neg hl,h]
theorem Ymc {t:Txt} {c:CS} {n:Int} (hl:¬ 65536<t.length) (h:Yae C0 1 (Zci t) = .ok c) (hf:Zhe c c.funcs c.blk = .error n):Zda t = .error (142,n):=by
 unfold Zda;rw [if_neg hl,h];simp only [hf]
theorem Yrt {t:Txt} {c:CS} {fs:List FnR} (hl:¬ 65536<t.length) (h:Yae C0 1 (Zci t) = .ok c) (hf:Zhe c c.funcs c.blk = .ok fs) (he:Jl c.mem c.data.length fs≠0):Zda t = .error (Jl c.mem c.data.length fs,0):=by
 unfold Zda;rw [if_neg hl,h];simp only [hf,if_neg he]
theorem Yux {t:Txt} {c:CS} {fs:List FnR} (hl:¬ 65536<t.length) (h:Yae C0 1 (Zci t) = .ok c) (hf:Zhe c c.funcs c.blk = .ok fs) (he:Jl c.mem c.data.length fs=0):Zda t = .ok (c.mem,c.data,fs):=by
 unfold Zda;rw [if_neg hl,h];simp only [hf,if_pos he]
theorem Ymt {c:CS} {n:Int} {l:Txt} {r:List Txt}:Yae c n (l::r)=(match lnC n c l with|none => .error (141,n)|some (c',none)=>Yae c' (n+1) r|some (_,some y) => .error (y,n)):=rfl
structure Yua (w:World) (b:Nat) (v0 v1 v2:Value):Prop where
 c0:w.cell? ⟨b,0,none⟩=some v0
 c1:w.cell? ⟨b,1,none⟩=some v1
 c2:w.cell? ⟨b,2,none⟩=some v2
 z0:w.frozen? ⟨b,0,none⟩=false
 z1:w.frozen? ⟨b,1,none⟩=false
 z2:w.frozen? ⟨b,2,none⟩=false
 lt:b<w.heap.size
theorem Zab {w:World} {b:Nat} {v0 v1 v2:Value} (h:Zck w b v0 v1 v2):Yua w b v0 v1 v2 :=
 ⟨Cq w _ 0 _ _ _ h,Cq w _ 1 _ _ _ h,Cq w _ 2 _ _ _ h,frozen_of_row w _ 0 _ _ h,frozen_of_row w _ 1 _ _ h,frozen_of_row w _ 2 _ _ h,(Gs h)⟩
theorem Zug (t:Txt) (w:World) (hW:LibW w):Calls Tryz.prog 12 #[.string (bs t)] w (Zvy w (Zda t)):=by
 have hz:=Zl t
 by_cases hl:65536<t.length
 · have HR:=Hq (show Zda t = .error (2,0) by unfold Zda;rw [if_pos hl])
   have hi:(t.length:Int)>65536:=by omega
   clear hl
   go_enter Tryz.func12,Tryz.ntmps12
   go_wp2
   have hb:=heap_alloc_new w (.cells #[.int .i64 0,.slice none 0 0,.slice none 0 0] 26)
   have h2:=heap_alloc_new (w.alloc (.cells #[.int .i64 0,.slice none 0 0,.slice none 0 0] 26)) (.cells #[.int .i64 0,Zwf 2] 64)
   rw [World.size_alloc] at h2
   refine bodyPost_ret (Zqo rfl rfl rfl (Zf hb (Ga _ _ none) (by simp))) rfl ?_
   rw [HR.out]
   exact ⟨⟨_,rfl,Nat.le_succ _,h2⟩,Za (Ga _ _ _) (Ga _ _ _)⟩
 · have hi:¬ (t.length:Int)>65536:=by omega
   have hmm := @run_makeMap Tryz.prog
   obtain ⟨L,hL⟩:∃ L,Yae C0 1 (Zci t)=L:=⟨_,rfl⟩
   have PE:=Hq (fun e (h:L = .error e)=>Yrs hl (hL.trans h))
   have PF:=Hq (fun c n (h:L = .ok c)=>Ymc (n:=n) hl (hL.trans h))
   have PC:=Hq (fun c fs (h:L = .ok c)=>Yrt (fs:=fs) hl (hL.trans h))
   have PO:=Hq (fun c fs (h:L = .ok c)=>Yux (fs:=fs) hl (hL.trans h))
   have HL:=Hq hL
   have hct:=Zoy t
   have hcl:=Zox (Zci t)
   clear hL
   go_enter Tryz.func12,Tryz.ntmps12
   go_upto_region 4 with fail
   have PS2:=Ylr (w.alloc (.cells #[.int .i64 0,.slice none 0 0,.slice none 0 0] 26))
   have B1:=heap_alloc_new w (.cells #[.int .i64 0,.slice none 0 0,.slice none 0 0] 26)
   have g1:=Ga w (.cells #[.int .i64 0,.slice none 0 0,.slice none 0 0] 26) none
   have hs1:=World.size_alloc w (.cells #[.int .i64 0,.slice none 0 0,.slice none 0 0] 26)
   rw [hs1] at PS2
   generalize w.alloc (.cells #[.int .i64 0,.slice none 0 0,.slice none 0 0] 26)=w1 at *
   generalize (w1.alloc (.map #[] 0)).alloc (.cells #[.int .i64 0,.slice none 0 0,.slice none 0 0,.bool false,.map (some (w.heap.size+1)),.slice none 0 0,.slice none 0 0,.nilIface] 70)=w2 at *
   generalize w.heap.size+1+1=p at *
   obtain ⟨r0,hr0⟩:∃ r0,w.heap.size=r0:=⟨_,rfl⟩
   rw [hr0] at B1 hs1
   rw [hr0]
   have hr1:r0<w1.heap.size:=by omega
   have BX:=Hq (show Zck w1 r0 _ _ _ from B1)
   have P2:=Hq PS2
   have LW:=Hq (Ym hW g1)
   have G1:=Hq g1
   have SP0:=Yfc (bs t) (by rw [hz];omega) w2 (Ym LW.out (Zdg PS2))
   rw [Xs] at SP0
   have SP:=Hq SP0
   clear PS2 SP0 B1 g1 hW
   obtain ⟨ls,hls⟩:∃ ls,Zci t=ls:=⟨_,rfl⟩
   rw [hls] at SP HL hct hcl
   clear hls
   have hn70:(ls.length:Int)<=70000:=by omega
   go_wp2_with (go_at_call 27;refine SP.out.mono ?_;rintro e w3 ⟨b,rfl,hg,hlt⟩;have P3:=Hq (Zcb P2.out hg);have L3:=Hq hlt;clear hg hlt)
   go_loopw [24] (fun i wr=>∃ (k:Nat) (c:CS) (m:Nat) (pend:Value),i = .int .i64 k/\k<=ls.length/\Yae c ((k:Int)+1) (ls.drop k)=L/\Zew c/\m+Zls (ls.drop k)<=262146/\PS w1 wr p m c pend/\Zwa wr b ls) (fun i _=>ls.length - (intOf i).toNat)
   case atStart=>exact ⟨0,C0,0,_,rfl,Nat.zero_le _,HL.out,Zyk,by simp only [List.drop_zero];omega,P3.out,L3.out⟩
   case round =>
    obtain ⟨k,c,m,pend,rfl,hk,hln,hbo,hcost,hps,hlt⟩:=hrel
    have LN:=Hq hln
    have BO:=Hq hbo
    have PR:=Hq hps
    have LT:=Hq hlt
    clear hln hbo hps hlt
    by_cases hkl:k<ls.length
    · obtain ⟨l,hkk⟩:∃ l,ls[k]? = some l:=⟨_,List.getElem?_eq_getElem hkl⟩
      obtain ⟨x0,hbl⟩:=Zxs LT.out hkk
      have hcd:=Zlr ls k l hkk
      have hcle:=Zta ls k
      have hdr:ls.drop k=l::ls.drop (k+1):=by rw [List.drop_eq_getElem_cons hkl];congr 1;exact (List.getElem?_eq_some_iff.1 hkk).2
      have HST:=Hq (show (match lnC ((k:Int)+1) c l with|none => .error (141,(k:Int)+1)|some (c',none)=>Yae c' ((k:Int)+1+1) (ls.drop (k+1))|some (_,some y) => .error (y,(k:Int)+1))=L by rw [<- Ymt,<- hdr];exact LN.out)
      have LI:=Hq (Ymv w1 wr p m ((k:Int)+1) c pend l PR.out LW.out (by omega) (by omega))
      clear hkk hdr
      cases hlc:lnC ((k:Int)+1) c l with
      | none =>
        rw [hlc] at HST LI
        have HE:=Hq (PE.out _ HST.out.symm)
        clear hlc
        go_wp2_with (go_at_call 28;refine LI.out.mono ?_;rintro e w4 ⟨rfl,hf4,hg4⟩;have G4:=Hq hg4;have B4:=Hq (show Zck w4 r0 _ _ _ from Zf BX.out hg4 (by simp));obtain ⟨k0,k1,k2,z0,z1,z2,hlt4⟩:=Zab B4.out;clear hf4 hg4)
        refine bodyPost_ret (Zqo rfl rfl rfl (Zf (Zaw B4.out) (Ga _ _ none) (by simp))) rfl ?_
        exact Ygp (Za G1.out G4.out) (by omega) B4.out HE.out
      | some r9 =>
        obtain ⟨c',x'⟩:=r9
        have BO2:=Hq (Yog BO.out (by omega) hlc)
        rw [hlc] at HST LI
        clear hlc
        cases x' with
        | some y =>
          have HE:=Hq (PE.out _ HST.out.symm)
          go_wp2_with (go_at_call 28;refine LI.out.mono ?_;rintro e w4 ⟨rfl,hf4,hg4⟩;have G4:=Hq hg4;have B4:=Hq (show Zck w4 r0 _ _ _ from Zf BX.out hg4 (by simp));obtain ⟨k0,k1,k2,z0,z1,z2,hlt4⟩:=Zab B4.out;clear hf4 hg4)
          refine bodyPost_ret (Zqo rfl rfl rfl (Zf (Zaw B4.out) (Ga _ _ none) (by simp))) rfl ?_
          exact Ygp (Za G1.out G4.out) (by omega) B4.out HE.out
        | none =>
          go_wp2_with (go_at_call 28;refine LI.out.mono ?_;rintro e w4 ⟨⟨rfl,hps4⟩,hf4,hg4⟩;have P4:=Hq hps4;have L4:=Hq (Zxr LT.out hf4);clear hf4 hg4 hps4)
          exact ⟨⟨k+1,c',_,_,by go_num,by omega,HST.out,BO2.out,by omega,P4.out,L4.out⟩,by simp [intOf];omega⟩
    · have hkn:k=ls.length:=by omega
      subst hkn
      have HOK:=Hq (show L = .ok c by have:=LN.out;rw [List.drop_length] at this;exact this.symm)
      have FI:=Hq (Ynu w1 wr p m c pend PR.out BO.out (by omega))
      clear hkl
      cases hfc:Zhe c c.funcs c.blk with
      | error n =>
        have HE:=Hq (PF.out c n HOK.out hfc)
        rw [hfc] at FI
        clear hfc
        go_wp2_with (go_at_call 29;refine FI.out.mono ?_;rintro e w4 ⟨⟨a,rfl,ha1,ha2⟩,hg4⟩;have G4:=Hq hg4;have A4:=Hq (And.intro ha1 ha2);have B4:=Hq (show Zck w4 r0 _ _ _ from Zf BX.out hg4 (by simp));obtain ⟨k0,k1,k2,z0,z1,z2,hlt4⟩:=Zab B4.out;clear hg4 ha1 ha2)
        refine bodyPost_ret (Zqo rfl rfl rfl (Zaw B4.out)) rfl ?_
        rw [HE.out]
        refine ⟨⟨a,rfl,by have:=A4.out.1;omega,Zf A4.out.2 Zkq (fun e=>by injection e with e;have:=A4.out.1;omega)⟩,Zrv (Za G1.out G4.out) (by omega)⟩
      | ok fs =>
        have HF:=Hq hfc
        rw [hfc] at FI
        clear hfc
        by_cases he:Jl c.mem c.data.length fs=0
        · have HE:=Hq (PO.out c fs HOK.out HF.out he)
          have HZ:=Hq he
          clear he
          go_wp2_with (first
           | (go_at_call 29;refine FI.out.mono ?_;rintro e w4 ⟨⟨rfl,pend',vd,vF,vL,vB,bm,cv,lb,hA⟩,hg4⟩;obtain ⟨pD,cD,hvD⟩:=Zi hA.ins.own.dt;obtain ⟨pF,cF,hvF⟩:=Zi hA.ins.own.fr;rw [Yh] at hvD;simp only [] at hvD hvF;subst hvD;subst hvF;have A4:=Hq hA;have CK0:=Zkx c.mem c.data.length fs pD pF cD cF w4.heap.size w4 (Nat.le_refl _) (Zdp hA.ins.own) (by have:=hA.ins.z1;simp only [] at this;omega);rw [HZ.out] at CK0;have CK:=Hq CK0;have y0:=Cq w4 p 0 _ _ _ hA.box;have y1:=Cq w4 p 1 _ _ _ hA.box;have y2:=Cq w4 p 2 _ _ _ hA.box;have hltp:p<w4.heap.size:=(Gs hA.box);clear hg4 hA CK0)
           | (go_at_call 30;refine CK.out.mono ?_;rintro e w5 ⟨rfl,hg5⟩;have G5:=Hq hg5;have B5:=Hq (show Zck w5 r0 _ _ _ from Zf (Zf BX.out A4.out.gr (by simp)) hg5 (by simp));have u0:=hg5.cell y0 (by simp);have u1:=hg5.cell y1 (by simp);have u2:=hg5.cell y2 (by simp);have hltp5:=Nat.lt_of_lt_of_le hltp hg5.size;obtain ⟨k0,k1,k2,z0,z1,z2,hlt5⟩:=Zab B5.out;clear hg5))
          have hq:Zck _ r0 (.int .i64 c.mem) (.slice pD c.data.length cD) (.slice pF fs.length cF):=Zaw B5.out
          refine bodyPost_ret (Zqo rfl rfl rfl hq) rfl ?_
          rw [HE.out]
          refine ⟨⟨_,_,cv,rfl,?_⟩,Zrv (Za G1.out (Za A4.out.gr G5.out)) (by omega)⟩
          have O5:=Ygt A4.out.ins.own G5.out
          have O6:=Xj O5 (Zkq (b:=r0) (x0 := .int .i64 c.mem) (x1 := .slice pD c.data.length cD) (x2 := .slice pF fs.length cF)) (fun t sz v n xs ho ht=>Znw ho hr1)
          exact Zqt O6 G1.out.size
        · have HE:=Hq (PC.out c fs HOK.out HF.out he)
          have HZ:=Hq (rfl:Jl c.mem c.data.length fs=Jl c.mem c.data.length fs)
          obtain ⟨ev,hev⟩:∃ ev,Jl c.mem c.data.length fs=ev:=⟨_,rfl⟩
          have hne:(ev != 0)=true:=by rw [<- hev,bne_iff_ne];exact he
          rw [hev] at HE
          have HZ:=Hq hev
          clear he hev
          go_wp2_with (first
           | (go_at_call 29;refine FI.out.mono ?_;rintro e w4 ⟨⟨rfl,pend',vd,vF,vL,vB,bm,cv,lb,hA⟩,hg4⟩;obtain ⟨pD,cD,hvD⟩:=Zi hA.ins.own.dt;obtain ⟨pF,cF,hvF⟩:=Zi hA.ins.own.fr;rw [Yh] at hvD;simp only [] at hvD hvF;subst hvD;subst hvF;have A4:=Hq hA;have CK0:=Zkx c.mem c.data.length fs pD pF cD cF w4.heap.size w4 (Nat.le_refl _) (Zdp hA.ins.own) (by have:=hA.ins.z1;simp only [] at this;omega);rw [HZ.out] at CK0;have CK:=Hq CK0;have y0:=Cq w4 p 0 _ _ _ hA.box;have y1:=Cq w4 p 1 _ _ _ hA.box;have y2:=Cq w4 p 2 _ _ _ hA.box;have hltp:p<w4.heap.size:=(Gs hA.box);clear hg4 hA CK0)
           | (go_at_call 30;refine CK.out.mono ?_;rintro e w5 ⟨rfl,hg5⟩;have G5:=Hq hg5;have B5:=Hq (show Zck w5 r0 _ _ _ from Zf (Zf BX.out A4.out.gr (by simp)) hg5 (by simp));have u0:=hg5.cell y0 (by simp);have u1:=hg5.cell y1 (by simp);have u2:=hg5.cell y2 (by simp);have hltp5:=Nat.lt_of_lt_of_le hltp hg5.size;obtain ⟨k0,k1,k2,z0,z1,z2,hlt5⟩:=Zab B5.out;clear hg5))
          refine bodyPost_ret (Zqo rfl rfl rfl (Zf (Zaw B5.out) (Ga _ _ none) (by simp))) rfl ?_
          exact Ygp (Za G1.out (Za A4.out.gr G5.out)) (by omega) B5.out HE.out
theorem Yxn (v:Value) (w:World):(Instr.typeAssert (.iface 62 v) 28 62 true).run Tryz.prog w = .ok (.tuple #[v,.bool true]) w:=by kernel_rfl
theorem Yxm (v:Value) (w:World):(Instr.typeAssert (.iface 41 v) 28 41 true).run Tryz.prog w = .ok (.tuple #[v,.bool true]) w:=by kernel_rfl
theorem Ykk (w:World):Calls Tryz.prog 13 #[.nilIface] w fun e w'=>e = .returned (.tuple #[.int .i64 0,.int .i64 0,.bool true])/\w.grownBy w' none:=by
 go_enter Tryz.func13,Tryz.ntmps13
 go_wp2
 go_ret3
 exact ⟨rfl,Zb _ _⟩
theorem Ykl (a:Nat) (n y:Int) (hy:y≠0) (w:World) (h:w.heap[a]? = some (.cells #[.int .i64 n,Zwf y] 64 (0,0))):Calls Tryz.prog 13 #[.iface 62 (.pointer (some ⟨a,0,none⟩))] w fun e w'=>e = .returned (.tuple #[.int .i64 y,.int .i64 n,.bool true])/\w.grownBy w' none:=by
 have c0:=Cq w a 0 _ _ _ h
 have c1:=Cq w a 1 _ _ _ h
 have lt:=(Gs h)
 have hy2:(y == 0)=false:=beq_eq_false_iff_ne.2 hy
 have hy3:(y != 0)=true:=by rw [bne_iff_ne];exact hy
 clear hy
 unfold Zwf at c1
 have k1:=Yxn
 have k2:=Yxm
 clear h
 go_enter Tryz.func13,Tryz.ntmps13
 go_wp2
 go_quiet (fail)
 go_wp2
 go_ret3
 exact ⟨rfl,Xn (Zb _ _) _⟩
theorem Zca {fn:Func} {p:Tmp} {ty:TypeId} (h:fn.results = #[.cell p ty]) (tmps:Array Value) (P:Program) (w:World) :
 (results fn tmps).run P w=((asAddr (tmps.getD p undef)).run P w).andThen fun a w₁=>(loadVar ty a).run P w₁:=by
 simp only [results,h]
 simp [Sem.run_bind,Result.andThen]
theorem Ysa {fn:Func} {p:Tmp} (hf:fn.results = #[.cell p 26]) {tmps:Array Value} {w:World} {b:Nat} {v0 v1 v2:Value}
 (hp:tmps.getD p undef = .pointer (some ⟨b,0,none⟩)) (h:Zck w b v0 v1 v2):(results fn tmps).run Tryz.prog w = .ok (.agg #[v0,v1,v2]) w:=by
 rw [Zca hf,hp]
 have:(asAddr (.pointer (some ⟨b,0,none⟩))).run Tryz.prog w = .ok (⟨b,0,none⟩:Addr) w:=rfl
 rw [this]
 simp only [Result.andThen]
 rw [Zxd h]
theorem Zll {w:World} {b:Nat} {cs:Array Value} {t:TypeId} (h:w.heap[b]? = some (.cells cs t (0,0))) {i:Nat} {v:Value} (hv:cs[i]? = some v):w.cell? ⟨b,i,none⟩=some v:=by
 simp [World.cell?,h,hv]
def oneP:PrP:=(0,[],[(0,0,1,[(18,0)])])
theorem Zzy (w:World):Calls Tryz.prog 22 #[] w fun e w'=>(∃ F k,e = .returned (.agg #[.int .i64 0,.slice none 0 0,.slice (some ⟨F,0,none⟩) 1 k])/\Zdi w' w'.heap.size (some ⟨F,0,none⟩) oneP.2.2)/\w.grownBy w' none:=by
 go_enter Tryz.func22,Tryz.ntmps22
 go_wp2
 have h1:=heap_alloc_new w (.cells #[.int .i64 0,.slice none 0 0,.slice (some ⟨w.heap.size+1+1,0,none⟩) 1 1] 26)
 have g1:=Ga w (.cells #[.int .i64 0,.slice none 0 0,.slice (some ⟨w.heap.size+1+1,0,none⟩) 1 1] 26) none
 obtain ⟨wa,hwa⟩:∃ x,w.alloc (.cells #[.int .i64 0,.slice none 0 0,.slice (some ⟨w.heap.size+1+1,0,none⟩) 1 1] 26)=x:=⟨_,rfl⟩
 have sa:wa.heap.size=w.heap.size+1:=by rw [<- hwa];simp
 rw [hwa] at h1 g1 ⊢
 have h2:=heap_alloc_new wa (.cells #[.int .i64 18,.int .i64 0] 58)
 have g2:=Ga wa (.cells #[.int .i64 18,.int .i64 0] 58) none
 obtain ⟨wb,hwb⟩:∃ x,wa.alloc (.cells #[.int .i64 18,.int .i64 0] 58)=x:=⟨_,rfl⟩
 have sb:wb.heap.size=w.heap.size+2:=by rw [<- hwb];simp;omega
 rw [hwb] at h2 g2 ⊢
 have h3:=heap_alloc_new wb (.cells #[.int .i64 0,.int .i64 0,.int .i64 1,.slice (some ⟨w.heap.size+1,0,none⟩) 1 1] 61)
 have g3:=Ga wb (.cells #[.int .i64 0,.int .i64 0,.int .i64 1,.slice (some ⟨w.heap.size+1,0,none⟩) 1 1] 61) none
 have sc:(wb.alloc (.cells #[.int .i64 0,.int .i64 0,.int .i64 1,.slice (some ⟨w.heap.size+1,0,none⟩) 1 1] 61)).heap.size=w.heap.size+3:=by rw [World.size_alloc,sb]
 have h1':=Zf h1 (Za g2 g3) (by simp)
 have h2':=Zf h2 g3 (by simp)
 rw [sa] at h2'
 rw [sb] at h3
 refine bodyPost_ret (v := .agg #[.int .i64 0,.slice none 0 0,.slice (some ⟨w.heap.size+1+1,0,none⟩) 1 1]) (Ysa rfl rfl h1') rfl ⟨⟨w.heap.size+1+1,1,rfl,fun _=>⟨w.heap.size+1+1,0,rfl,by rw [sc];omega,fun i a l r c hi => ?_⟩⟩,Za g1 (Za g2 g3)⟩
 match i,hi with
 | 0,hi =>
   simp [oneP] at hi
   obtain ⟨rfl,rfl,rfl,rfl⟩:=hi
   refine ⟨Zll h3 rfl,Zll h3 rfl,Zll h3 rfl,some ⟨w.heap.size+1,0,none⟩,1,Zll h3 rfl,fun _=>⟨w.heap.size+1,0,rfl,by rw [sc];omega,fun j op x hj => ?_⟩⟩
   match j,hj with
   | 0,hj =>
     simp at hj
     obtain ⟨rfl,rfl⟩:=hj
     exact ⟨Zll h2' rfl,Zll h2' rfl⟩
   | j+1,hj=>simp at hj
 | i+1,hi=>simp [oneP] at hi
theorem Yuo (n:Nat) (nm:ByteArray) (o t g:Int) (hr:callT[n]? = some (nm,o,t,g)) (w:World) :
 Calls Tryz.prog 100 #[.int .i64 n] w fun e w'=>e = .returned (.tuple #[.agg #[.string nm,.int .i64 o,.int .i64 t,.int .i64 g],.bool true])/\w.grownBy w' none:=by
 have hn:n<5:=(List.getElem?_eq_some_iff.1 hr).1
 have C:=Hq Zvo
 obtain ⟨h1,h2,h3,h4⟩:=Zka callT n nm o t g hr
 have R:=Hq (fun (S:Nat) (w:World) (hS:S<w.heap.size) (hc:∀ (i:Nat) (v:Value),(Zlo callT)[i]? = some v->w.cell? ⟨S,i,none⟩=some v)=>Ypc 5 n hn (by decide) S nm o t g w hS (hc _ _ h1) (hc _ _ h2) (hc _ _ h3) (hc _ _ h4))
 clear hr h1 h2 h3 h4
 go_enter Tryz.func100,Tryz.ntmps100
 go_wp2_with (first
  | (go_at_call 133;refine (C.out _).mono ?_;rintro e w1 ⟨S,rfl,hg,hS,hsh⟩;have G1:=Hq hg;have HS:=Hq hS;have SH:=Hq hsh;clear hg hsh hS)
  | (go_at_call 86;refine (R.out _ _ HS.out SH.out).mono ?_;rintro e w2 ⟨rfl,hg2⟩;have G2:=Hq hg2;have hb:=Zf (Zf (heap_alloc_new w (.cells #[.string ⟨#[]⟩,.int .i64 0,.int .i64 0,.int .i64 0] 144)) G1.out (by simp)) hg2 (by simp);have c0:=Cq w2 _ 0 _ _ _ hb;have c1:=Cq w2 _ 1 _ _ _ hb;have c2:=Cq w2 _ 2 _ _ _ hb;have c3:=Cq w2 _ 3 _ _ _ hb;have z0:=frozen_of_row w2 _ 0 _ _ hb;have z1:=frozen_of_row w2 _ 1 _ _ hb;have z2:=frozen_of_row w2 _ 2 _ _ hb;have z3:=frozen_of_row w2 _ 3 _ _ hb;have HB:=Hq hb;clear hg2 hb))
 (try simp only [Exit.inBlock,Exit.then])
 have hq:((((w2.setCell ⟨w.heap.size,0,none⟩ (.string nm)).setCell ⟨w.heap.size,1,none⟩ (.int .i64 o)).setCell ⟨w.heap.size,2,none⟩ (.int .i64 t)).setCell ⟨w.heap.size,3,none⟩ (.int .i64 g)).heap[w.heap.size]? = some (.cells #[.string nm,.int .i64 o,.int .i64 t,.int .i64 g] 144 (0,0)):=by
  rw [Zj (Zj (Zj (Zj HB.out)))];rfl
 refine bodyPost_ret (v := .tuple #[.agg #[.string nm,.int .i64 o,.int .i64 t,.int .i64 g],.bool true]) ?_ rfl ⟨rfl,Zy (Zy (Zy (Zy (Za (Za (Ga _ _ _) G1.out) G2.out) (Nat.le_refl _)) (Nat.le_refl _)) (Nat.le_refl _)) (Nat.le_refl _)⟩
 clear c0 c1 c2 c3 z0 z1 z2 z3
 have d0:=Cq _ _ 0 _ _ _ hq
 have d1:=Cq _ _ 1 _ _ _ hq
 have d2:=Cq _ _ 2 _ _ _ hq
 have d3:=Cq _ _ 3 _ _ _ hq
 clear hq
 generalize (((w2.setCell ⟨w.heap.size,0,none⟩ (.string nm)).setCell ⟨w.heap.size,1,none⟩ (.int .i64 o)).setCell ⟨w.heap.size,2,none⟩ (.int .i64 t)).setCell ⟨w.heap.size,3,none⟩ (.int .i64 g)=w9 at *
 rw [results_cell_tmp rfl]
 go_simp
theorem Zbo (a b:Txt):bs a++bs b=bs (a++b):=by
 unfold bs
 apply ByteArray.ext
 simp
theorem Ydo:∀ s∈callT,s.1.size<=10:=by decide
theorem Yxk {a:Int} (h0:0<=a) (h1:a<5):∃ (n:Nat) (nm:ByteArray) (o t g:Int),a=n/\callT[n]? = some (nm,o,t,g):=by
 obtain ⟨n,rfl⟩:=Int.eq_ofNat_of_zero_le h0
 have hn:n<callT.length:=by show n<5;omega
 exact ⟨n,_,_,_,_,rfl,List.getElem?_eq_getElem hn⟩
theorem Znx (mem a0 l0 r0 kind a:Int) (pd pF pc:Option Addr) (nd cd nF cF nC cc:Nat) (w:World) (hW:LibW w) (h0 : -9223372036854775808<=a) (h1:a<=9223372036854775807) (hs:kind=5->0<=a/\a<5) :
 Calls Tryz.prog 67 #[.agg #[.int .i64 mem,.slice pd nd cd,.slice pF nF cF],.agg #[.int .i64 a0,.int .i64 l0,.int .i64 r0,.slice pc nC cc],.int .i64 kind,.int .i64 a] w fun e w'=>e = .returned (.string (bs (Zgg nF nC kind a)))/\w.grownBy w' none:=by
 have g1:=Ga w (.cells #[.int .i64 mem,.slice pd nd cd,.slice pF nF cF] 26) none
 have g2:=Ga (w.alloc (.cells #[.int .i64 mem,.slice pd nd cd,.slice pF nF cF] 26)) (.cells #[.int .i64 a0,.int .i64 l0,.int .i64 r0,.slice pc nC cc] 61) none
 have G:=Hq (Za g1 g2)
 have IT:=Hq (Zce a h0 h1 _ (Ym hW (Za g1 g2)))
 clear g1 g2
 have hz:=Lib.itoa_length_le a h0 h1
 have hc1:¬ 9223372036854775807<1+(bs (Lib.itoa a)).size:=by rw [Zl];omega
 have hc2:¬ 9223372036854775807<2+(bs (Lib.itoa a)).size:=by rw [Zl];omega
 by_cases k0:kind=0
 · subst k0
   rw [Ygu]
   go_enter Tryz.func67,Tryz.ntmps67
   go_wp2
   go_ret
   exact ⟨rfl,G.out⟩
 · have b0:(kind == 0)=false:=beq_eq_false_iff_ne.2 k0
   by_cases k5:kind=5
   · subst k5
     obtain ⟨n,nm,o,t,g,rfl,hr⟩:=Yxk (hs rfl).1 (hs rfl).2
     have HC:=Hq (show bs (Zgg nF nC 5 n)=⟨#[32]⟩++nm by rw [Ymg hr,<- Zbo];rfl)
     have SY:=Hq (fun w=>Yuo n nm o t g hr w)
     have hnz:¬ 9223372036854775807<1+nm.size:=by
      have:nm.size<=10:=Ydo _ (List.mem_of_getElem? hr)
      omega
     go_enter Tryz.func67,Tryz.ntmps67
     go_wp2_with (go_at_call 100;refine (SY.out _).mono ?_;rintro e w1 ⟨rfl,hg⟩;have G1:=Hq hg;clear hg)
     go_ret
     rw [HC.out]
     exact ⟨rfl,Za G.out (Za G1.out (Ga _ _ _))⟩
   · have b5:(kind == 5)=false:=beq_eq_false_iff_ne.2 k5
     by_cases k3:kind=3
     · subst k3
       by_cases hl:a<=nC
       · have HC:=Hq (show bs (Zgg nF nC 3 a)=⟨#[32,76]⟩++bs (Lib.itoa a) by rw [Ygv hl,<- Zbo];rfl)
         go_enter Tryz.func67,Tryz.ntmps67
         go_wp2_with (go_at_call 39;refine IT.out.mono ?_;rintro e w1 ⟨rfl,hg⟩;have G1:=Hq hg;clear hg)
         go_ret
         rw [HC.out]
         exact ⟨rfl,Za G.out G1.out⟩
       · have HC:=Hq (show bs (Zgg nF nC 3 a)=⟨#[32]⟩++bs (Lib.itoa a) by rw [Zsh k0 (fun _=>hl) (fun h=>absurd h (by decide)) k5,<- Zbo];rfl)
         go_enter Tryz.func67,Tryz.ntmps67
         go_wp2_with (go_at_call 39;refine IT.out.mono ?_;rintro e w1 ⟨rfl,hg⟩;have G1:=Hq hg;clear hg)
         go_ret
         rw [HC.out]
         exact ⟨rfl,Za G.out G1.out⟩
     · have b3:(kind == 3)=false:=beq_eq_false_iff_ne.2 k3
       by_cases k4:kind=4
       · subst k4
         by_cases hl:a<nF
         · have HC:=Hq (show bs (Zgg nF nC 4 a)=⟨#[32,102]⟩++bs (Lib.itoa a) by rw [Yry hl,<- Zbo];rfl)
           go_enter Tryz.func67,Tryz.ntmps67
           go_wp2_with (go_at_call 39;refine IT.out.mono ?_;rintro e w1 ⟨rfl,hg⟩;have G1:=Hq hg;clear hg)
           go_ret
           rw [HC.out]
           exact ⟨rfl,Za G.out G1.out⟩
         · have HC:=Hq (show bs (Zgg nF nC 4 a)=⟨#[32]⟩++bs (Lib.itoa a) by rw [Zsh k0 (fun h=>absurd h (by decide)) (fun _=>hl) k5,<- Zbo];rfl)
           go_enter Tryz.func67,Tryz.ntmps67
           go_wp2_with (go_at_call 39;refine IT.out.mono ?_;rintro e w1 ⟨rfl,hg⟩;have G1:=Hq hg;clear hg)
           go_ret
           rw [HC.out]
           exact ⟨rfl,Za G.out G1.out⟩
       · have b4:(kind == 4)=false:=beq_eq_false_iff_ne.2 k4
         have HC:=Hq (show bs (Zgg nF nC kind a)=⟨#[32]⟩++bs (Lib.itoa a) by rw [Zsh k0 (fun h=>absurd h k3) (fun h=>absurd h k4) k5,<- Zbo];rfl)
         go_enter Tryz.func67,Tryz.ntmps67
         go_wp2_with (go_at_call 39;refine IT.out.mono ?_;rintro e w1 ⟨rfl,hg⟩;have G1:=Hq hg;clear hg)
         go_ret
         rw [HC.out]
         exact ⟨rfl,Za G.out G1.out⟩
theorem Ybe:(Tryz.prog.info? 99).map (·.size)=some 2:=by kernel_rfl
theorem Yoj:liesAt Tryz.prog Tryz.prog.depth 99 (2 / Tryz.prog.cellsOf 99) 0 99 1=true:=by kernel_rfl
theorem Zsf:Tryz.prog.underlying 97=some (.pointer 99):=by kernel_rfl
theorem Yel:Tryz.prog.underlying 187=some .unsafePointer:=by kernel_rfl
structure BFr (B b:Nat) (w w':World):Prop where
 below:Below B w w'
 keep:∀ (k:Nat) (cs:Array Value) (t:TypeId) (fz:Nat × Nat),w.heap[k]? = some (Obj.cells cs t fz)->t≠5->k≠b->w'.heap[k]? = w.heap[k]?
theorem Zhr (B b:Nat) (w:World):BFr B b w w:=⟨Below.refl B w,fun _ _ _ _ _ _ _=>rfl⟩
theorem Zhi {B:Nat} {u v w:World} (h:Below B u v) (g:Below B v w):Below B u w :=
 ⟨g.os.trans h.os,g.tape.trans h.tape,g.output.trans h.output,Nat.le_trans h.size g.size,fun k hk=>(g.block k hk).trans (h.block k hk)⟩
theorem Yn {B b:Nat} {u v w:World} (h:BFr B b u v) (g:BFr B b v w):BFr B b u w :=
 ⟨Zhi h.below g.below,fun k cs t fz hk ht hb=>(g.keep k cs t fz ((h.keep k cs t fz hk ht hb).trans hk) ht hb).trans (h.keep k cs t fz hk ht hb)⟩
theorem Xk {B b:Nat} {w w':World} (g:w.grownBy w' none) (hB:B<=w.heap.size):BFr B b w w' :=
 ⟨⟨g.os,g.tape,g.output,g.size,fun k hk=>g.block k (by omega) (by simp)⟩,fun k cs t fz hk _ _=>g.block k (Gs hk) (by simp)⟩
theorem Zcs {B b k:Nat} {w w':World} {cs:Array Value} {t:TypeId} {fz:Nat × Nat} (h:BFr B b w w') (hk:w.heap[k]? = some (Obj.cells cs t fz)) (ht:t≠5) (hb:k≠b):w'.heap[k]? = some (Obj.cells cs t fz):=(h.keep k cs t fz hk ht hb).trans hk
theorem Xo {B b k o:Nat} {w w':World} {v:Value} (h:BFr B b w w') (hk:k<B) (hc:w.cell? ⟨k,o,none⟩=some v):w'.cell? ⟨k,o,none⟩=some v:=(World.cell?_of_block (h.below.block k hk)).trans hc
theorem Ybg {B b D:Nat} {w w':World} {p:Option Addr} {l:List (Int × Int)} (h:BFr B b w w') (hD:D<=B) (hc:Zpj w D p l):Zpj w' D p l:=fun h0=>by
 obtain ⟨k,o,e,hk,hl⟩:=hc h0
 exact ⟨k,o,e,hk,fun i op a hi=>⟨Xo h (by omega) (hl i op a hi).1,Xo h (by omega) (hl i op a hi).2⟩⟩
theorem Zcg {B b:Nat} {w w':World} (h:BFr B b w w') (hB:8<=B) (hW:LibW w):LibW w':=by
 have hb:=hW.big
 refine ⟨Nat.le_trans hb h.below.size,?_,?_,?_⟩
 · obtain ⟨m,hm⟩:=hW.max
   exact ⟨m,Xo h (by omega) hm⟩
 · have hp:=hW.pow
   unfold Lib.TabIs World.var? at hp ⊢
   rw [Yar] at hp ⊢
   simp only [Option.bind] at hp ⊢
   rw [h.below.block _ (by omega)]
   exact hp
 · obtain ⟨te,pe,hm⟩:=hW.rng
   exact ⟨te,pe,Xo h (by omega) hm⟩
theorem Yjq {B b o:Nat} {w:World} {v:Value} (hB:B<=b):BFr B b w (w.setCell ⟨b,o,none⟩ v) :=
 ⟨(Below.refl B w).setCell (p:=⟨b,o,none⟩) hB _,fun k cs t fz _ _ hb=>Below.heap_setCell _ _ _ _ hb⟩
abbrev Bld (B b:Nat) (l:Txt) (w:World):Prop:=Lib.IsBuilderF 99 5 B b (Lib.byteCells l) w
theorem Yoi (b:Nat) (w:World) (h0:w.cell? ⟨b,0,none⟩=some (.pointer (some ⟨b,0,none⟩))) :
 Calls Tryz.prog 64 #[.pointer (some ⟨b,0,none⟩)] w fun e w'=>e = .returned (.tuple #[])/\w'=w:=by
 obtain ⟨j,hj,_⟩:=Option.map_eq_some_iff.1 Ybe
 go_enter Tryz.func64,Tryz.ntmps64
 go_wp2
 rw [Lib.run_neq_ptr_same w _ Zsf hj]
 go_wp2
 go_end0
 exact ⟨rfl,rfl⟩
theorem Yjl (b:Nat) (w:World) (h0:w.cell? ⟨b,0,none⟩=some (.pointer none)) (hsh:w.shape? b=some (99,2)) (hfz:w.frozen? ⟨b,0,none⟩=false) :
 Calls Tryz.prog 64 #[.pointer (some ⟨b,0,none⟩)] w fun e w'=>e = .returned (.tuple #[])/\w'=w.setCell ⟨b,0,none⟩ (.pointer (some ⟨b,0,none⟩)):=by
 obtain ⟨j,hj,hjs⟩:=Option.map_eq_some_iff.1 Ybe
 go_enter Tryz.func64,Tryz.ntmps64
 go_wp2
 rw [Lib.run_to_unsafe w ⟨b,0,none⟩ Zsf Yel hj (by rw [hjs];decide) hsh (Nat.zero_lt_succ 1)]
 simp only [Result.andThen]
 rw [Oper.upon_value]
 go_wp2
 rw [run_callFunc_extern Tryz.func98 (by kernel_rfl) (by kernel_rfl) (by kernel_rfl) (e:=Extern.AbiNoEscape.same) (by kernel_rfl)]
 rw [Lib.run_noEscape]
 simp only [Result.andThen]
 rw [Oper.upon_value]
 go_wp2
 rw [Lib.run_from_unsafe w ⟨b,0,none⟩ Yel Zsf hj hsh Yoj]
 simp only [Result.andThen]
 rw [Oper.upon_value]
 go_wp2
 go_end0
 exact ⟨rfl,rfl⟩
theorem Yjm (B b:Nat) (bs:List Value) (w:World) (h:Lib.IsBuilderF 99 5 B b bs w) :
 Calls Tryz.prog 64 #[.pointer (some ⟨b,0,none⟩)] w fun e w'=>e = .returned (.tuple #[])/\(Lib.BuilderAtF 99 5 B b (.pointer (some ⟨b,0,none⟩)) bs w'/\BFr B b w w'):=by
 rcases h with h|h
 · refine (Yjl b w h.cell0 h.shape h.frozen0).mono ?_
   rintro e w' ⟨rfl,rfl⟩
   exact ⟨rfl,h.used _,Yjq h.1⟩
 · refine (Yoi b w h.cell0).mono ?_
   rintro e w' ⟨rfl,rfl⟩
   exact ⟨rfl,h,Zhr B b _⟩
theorem Zwn (l:Txt):Lib.strCells (bs l)=Lib.byteCells l:=by
 unfold Lib.strCells Lib.byteCells
 rw [Xs]
theorem Zhg (B b:Nat) (l s:Txt) (w:World) (h:Bld B b l w) (hlen:l.length+s.length<=140737488355328) (hBw:B<=w.heap.size) :
 Calls Tryz.prog 38 #[.pointer (some ⟨b,0,none⟩),.string (bs s)] w fun e w'=>e = .returned (.tuple #[.int .i64 s.length,.nilIface])/\(Bld B b (l++s) w'/\BFr B b w w'):=by
 obtain ⟨i0,hi,hz0,hz1,hz2⟩:=info_parts Zaz
 have hss:=Zl s
 have HS:=Hq hss
 have hbl:=Lib.byteCells_length l
 go_enter Tryz.func38,Tryz.ntmps38
 go_wp2_with (go_at_call 64;refine (Yjm B b _ _ h).mono ?_)
 rintro e w1 ⟨rfl,h1,hb1⟩
 obtain ⟨hB,v,hbk,hown,hne⟩:=h1
 have c0:w1.cell? ⟨b,0,none⟩=some (.pointer (some ⟨b,0,none⟩)):=by rw [Lib.cell_of_heap hbk];rfl
 have c1:w1.cell? ⟨b,1,none⟩=some v:=by rw [Lib.cell_of_heap hbk];rfl
 go_wp2_with (at_builtin;refine Lib.wpList_append_own_stringF _ rfl _ _ 23 9 rfl B 5 i0 Xv Xl hi hz0 hz1 hz2 _ _ _ rfl hown (bs s) rfl ?c3 ?c4 ?c5 ?_)
 case c3=>rw [HS.out,hbl];unfold maxLen;omega
 case c4=>rw [HS.out,hbl];omega
 case c5=>have:=hb1.below.size;omega
 intro v' w2 hown' hgrow _
 have hlt:b<w1.heap.size:=by
  rcases Nat.lt_or_ge b w1.heap.size with h'|h'
  · exact h'
  · simp [Array.getElem?_eq_none h'] at hbk
 have hb2:w2.heap[b]? = some (.cells #[.pointer (some ⟨b,0,none⟩),v] 99 (0,0)):=by
  rw [hgrow.block b hlt (fun e=>hne e.symm)]
  exact hbk
 have d0:w2.cell? ⟨b,0,none⟩=some (.pointer (some ⟨b,0,none⟩)):=by rw [Lib.cell_of_heap hb2];rfl
 have d1:w2.cell? ⟨b,1,none⟩=some v:=by rw [Lib.cell_of_heap hb2];rfl
 have f1:w2.frozen? ⟨b,1,none⟩=false:=Lib.frozen_of_heap hb2 1
 obtain ⟨ao,n',cap,rfl⟩:∃ ao n' cap,v' = .slice ao n' cap:=by
  rcases hown'.2 with ⟨hv,_⟩|⟨g,cap,cur,fz,hv,_⟩
  · exact ⟨_,_,_,hv⟩
  · exact ⟨_,_,_,hv⟩
 go_wp2
 go_ret2
 refine ⟨rfl,.inr ?_,?_⟩
 · have he:Lib.byteCells (l++s)=Lib.byteCells l++Lib.strCells (bs s):=by rw [Zwn];simp [Lib.byteCells]
   rw [he]
   exact Lib.BuilderAtF.put (T:=99) (e:=5) hB hb2 (bs':=Lib.byteCells l++Lib.strCells (bs s)) (by rw [List.length_append,Lib.strCells_length,hbl,Zl];exact hown') (by decide)
 · refine Yn hb1 (Yn (v:=w2) ⟨?_,?_⟩ (Yjq hB))
   · exact (Below.refl B w1).grown hgrow (by have:=hb1.below.size;omega) (fun k hk=>(hown.lt k hk).1)
   · intro k cs t fz hk ht _
     exact hgrow.block k (Gs hk) (fun e=>Lib.ownBlock_neF hown hk ht e.symm)
theorem Zcw {B b:Nat} {l:Txt} {w w':World} (h:Bld B b l w) (g:w.grownBy w' none):Bld B b l w':=by
 have K:∀ p,Lib.BuilderAtF 99 5 B b p (Lib.byteCells l) w->Lib.BuilderAtF 99 5 B b p (Lib.byteCells l) w':=fun p h=>by
  have hlt:=h.lt
  obtain ⟨hB,v,hb,hown,hne⟩:=h
  exact ⟨hB,v,(g.block b hlt (by simp)).trans hb,hown.kept g (by cases hv:v.ownBlock <;> simp),hne⟩
 exact h.elim (fun h => .inl (K _ h)) (fun h => .inr (K _ h))
theorem Ytp (w:World):Bld w.heap.size w.heap.size [] (w.alloc (.cells #[.pointer none,.slice none 0 0] 99)) :=
 .inl ⟨Nat.le_refl _,_,heap_alloc_new w _,World.ownsRowF_nil _ _ _ _,by simp [Value.ownBlock]⟩
theorem Zvs {B b:Nat} {l:Txt} {w:World} (h:Bld B b l w):B<=b/\b<w.heap.size:=h.elim (fun h=>⟨h.1,h.lt⟩) (fun h=>⟨h.1,h.lt⟩)
theorem Zhh (B b:Nat) (l:Txt) (w:World) (h:Bld B b l w):Calls Tryz.prog 42 #[.pointer (some ⟨b,0,none⟩)] w fun e w'=>e = .returned (.int .i64 l.length)/\w'=w:=by
 have:=Tryz.Builder_Len_f B b (Lib.byteCells l) w h
 rw [Lib.byteCells_length] at this
 exact this
theorem Zrm (B b:Nat) (l:Txt) (w:World) (h:Bld B b l w) (hBw:B<=w.heap.size):Calls Tryz.prog 43 #[.pointer (some ⟨b,0,none⟩)] w fun e w'=>e = .returned (.string (bs l))/\Below B w w' :=
 (Tryz.Builder_String_any_f B b l w h hBw).mono fun e w' he=>⟨he.1,he.2.2⟩
structure CdB (w:World) (bP bF g:Nat) (vP vF:Array Value) (n:Nat) (f:Nat->Bool):Prop where
 bp:w.heap[bP]? = some (.cells vP 26 (0,0))
 bf:w.heap[bF]? = some (.cells vF 61 (0,0))
 rw:w.rowIs g 4 n (fun k => .bool (f k))
theorem Zdx {w w':World} {bP bF g:Nat} {vP vF:Array Value} {n:Nat} {f:Nat->Bool} (h:CdB w bP bF g vP vF n f) (hg:w.grownBy w' none):CdB w' bP bF g vP vF n f :=
 ⟨Zf h.bp hg (by simp),Zf h.bf hg (by simp),h.rw.of_block (hg.block g h.rw.lt (by simp))⟩
theorem Zyi {w w':World} {B b bP bF g:Nat} {vP vF:Array Value} {n:Nat} {f:Nat->Bool} (h:CdB w bP bF g vP vF n f) (hg:BFr B b w w') (h1:bP≠b) (h2:bF≠b) (h3:g≠b):CdB w' bP bF g vP vF n f:=by
 obtain ⟨c,hb,hn,hc⟩:=h.rw
 exact ⟨Zcs hg h.bp (by decide) h1,Zcs hg h.bf (by decide) h2,c,Zcs hg hb (by decide) h3,hn,hc⟩
theorem Zoz {w:World} {bP bF g:Nat} {vP vF:Array Value} {n:Nat} {f f':Nat->Bool} (h:CdB w bP bF g vP vF n f) (e:∀ i,i<n->f i=f' i):CdB w bP bF g vP vF n f':=⟨h.bp,h.bf,h.rw.congr fun i hi=>by rw [e i hi]⟩
theorem Ytl {w:World} {bP bF g a:Nat} {vP vF:Array Value} {n:Nat} {f f':Nat->Bool} (h:CdB w bP bF g vP vF n f) (h1:bP≠g) (h2:bF≠g) (e:∀ i,i<n->f' i=if i=a then true else f i):CdB (w.setCell ⟨g,a,none⟩ (.bool true)) bP bF g vP vF n f':=by
 refine ⟨?_,?_,(h.rw.set a (.bool true)).congr fun i hi => ?_⟩
 · exact (Below.heap_setCell _ _ _ _ h1).trans h.bp
 · exact (Below.heap_setCell _ _ _ _ h2).trans h.bf
 · rw [e i hi];split <;> rfl
theorem Yav {code:List (Int × Int)} {k:Nat} {op a:Int}:∀ (m:Nat) (code:List (Int × Int)),Zkb code=0->code[m]? = some (op,a)->∃ nm o t g,Yx op=some (nm,o,t,g)/\Zlc o.toNat a=true
 | m,[],_,h=>by simp at h
 | 0,x::r,he,h=>by
   simp at h
   subst h
   unfold Zkb at he
   cases hs:Yx op with
   | none=>rw [hs] at he;simp at he
   | some s =>
     rw [hs] at he
     obtain ⟨nm,o,t,g⟩:=s
     by_cases hm:Zlc o.toNat a=true
     · exact ⟨nm,o,t,g,rfl,hm⟩
     · simp only [if_neg hm] at he;cases he
 | m+1,x::r,he,h=>by
   have:Zkb r=0:=by
    unfold Zkb at he
    split at he
    · cases he
    · split at he
      · exact he
      · cases he
   exact Yav (code:=code) (k:=k) m r this (by simpa using h)
theorem Yaj {op:Int} {nm:ByteArray} {o t g:Int} (h:Yx op=some (nm,o,t,g)):Zai op=o:=by unfold Zai;rw [h]
theorem Ymp {op:Int} {nm:ByteArray} {o t g:Int} (h:Yx op=some (nm,o,t,g)):Zgh op=nm.data.toList:=by unfold Zgh;rw [h]
theorem Ymr {a:Int} (h:Zlc (3:Int).toNat a=true):0<=a:=by
 have:Zlc 3 a=true:=h
 unfold Zlc at this
 simp at this
 exact this.1
theorem Yhh {o a:Int} (h:Zlc o.toNat a=true) (ho:o=5):0<=a/\a<5:=by
 subst ho
 have:Zlc 5 a=true:=h
 unfold Zlc bK at this
 simp at this
 exact this
theorem Zoo {code:List (Int × Int)} {i:Nat} {op a:Int} (h:code[i]? = some (op,a)) (k:Nat):Zdd (code.take (i+1)) k=(Zdd (code.take i) k || (Zai op == 3 && a == (k:Int))):=by
 unfold Zdd
 rw [List.take_add_one,h,List.any_append]
 simp
theorem Yns (code:List (Int × Int)) (k:Nat):Zdd (code.take code.length) k=Zdd code k:=by rw [List.take_length]
theorem Ytd {code:List (Int × Int)} {i:Nat} {op a:Int} (h:code[i]? = some (op,a)) {o:Int} (ho:Zai op=o) (hne:(o == 3)=false):∀ k,Zdd (code.take i) k=Zdd (code.take (i+1)) k:=fun k=>by
 rw [Zoo h,ho,hne];simp
theorem Ynr {code:List (Int × Int)} {i n:Nat} {op a:Int} (h:code[i]? = some (op,a)) (hf:¬ a<=(n:Int)):∀ k,k<n+1->Zdd (code.take i) k=Zdd (code.take (i+1)) k:=fun k hk=>by
 rw [Zoo h]
 have:(a == (k:Int))=false:=beq_eq_false_iff_ne.2 (by omega)
 rw [this];simp
theorem Yik {code:List (Int × Int)} {i m:Nat} {op:Int} (h:code[i]? = some (op,(m:Int))) (ho:Zai op=3):∀ k,Zdd (code.take (i+1)) k=if k=m then true else Zdd (code.take i) k:=fun k=>by
 rw [Zoo h,ho]
 by_cases e:k=m
 · subst e;simp
 · rw [if_neg e]
   have:(((m:Int)) == (k:Int))=false:=beq_eq_false_iff_ne.2 (by omega)
   rw [this];simp
theorem Znz:∀ s∈shapeT,s.1.data.toList.length<=10:=by decide
theorem Zru {op:Int} {s:ByteArray × Int × Int × Int} (h:Yx op=some s):s∈shapeT:=by
 unfold Yx at h
 split at h
 · exact List.mem_of_getElem? h
 · cases h
theorem Yhd (op:Int):(Zgh op).length<=10:=by
 unfold Zgh
 split
 · rename_i s h
   exact Znz s (Zru h)
 · simp
theorem Yjc:∀ s∈callT,s.1.data.toList.length<=10:=by decide
theorem Ykq (a:Int):(Ywi a).length<=10:=by
 unfold Ywi
 split
 · rename_i s h
   exact Yjc s (List.mem_of_getElem? h)
 · simp
def Zki (a:Int):Prop := -9223372036854775808<=a/\a<=9223372036854775807
theorem Zsi {a:Int} (h:Zki a) (nF nC:Nat) (k:Int):(Zgg nF nC k a).length<=23:=by
 have h1:=Lib.itoa_length_le a h.1 h.2
 have h2:=Ykq a
 unfold Zgg
 split
 · simp
 · split
   · simp only [List.length_cons];omega
   · split
     · simp only [List.length_cons];omega
     · split
       · simp only [List.length_cons];omega
       · simp only [List.length_cons];omega
theorem Zsp (code:List (Int × Int)) {k:Nat} (hk:k<=5000):(Zmu code k).length<=24:=by
 unfold Zmu
 split
 · have h1:=Lib.itoa_length_le k (by omega) (by omega)
   simp only [List.length_cons,List.length_append,List.length_nil];omega
 · simp
theorem Yam {x:Int × Int} (h:Zki x.2) (nF nC:Nat):(Zmb nF nC x).length<=36:=by
 have h1:=Yhd x.1
 have h2:=Zsi h nF nC (Zai x.1)
 unfold Zmb
 simp only [List.length_cons,List.length_append,List.length_nil];omega
theorem Yrq {code:List (Int × Int)} (hr:∀ x∈code,Zki x.2) (nF:Nat) {k:Nat} (hk:k<=5000):(plT nF code k).length<=60:=by
 have h1:=Zsp code hk
 unfold plT
 rw [List.length_append]
 split
 · rename_i x hx
   have h2:=Yam (hr x (List.mem_of_getElem? hx)) nF code.length
   omega
 · simp only [List.length_nil];omega
theorem Zvm {code:List (Int × Int)} (hr:∀ x∈code,Zki x.2) (nF:Nat):∀ (n:Nat),n<=5000->(Zby nF code n).length<=60*n
 | 0,_=>by simp [Zby]
 | n+1,hn=>by
   have h1:=Zvm hr nF n (by omega)
   have h2:=Yrq hr nF (k:=n) (by omega)
   rw [Zfi,List.length_append];omega
theorem Yof:Tryz.prog.underlying 107=some (.slice 4):=by kernel_rfl
theorem Yji:(Tryz.prog.info? 4).map (fun i=>(i.zero,i.size,i.bytes))=some (some (.bool false),1,1):=by kernel_rfl
theorem Ycp (n:Nat) (hn:n<=5000) (w:World):(Instr.makeSlice 107 (.int .i64 ((n:Int)+1)) (.int .i64 ((n:Int)+1))).run Tryz.prog w = .ok (.slice (some ⟨w.heap.size,0,none⟩) (n+1) (n+1)) (w.alloc (.cells (madeCells #[.bool false] (n+1)) 4)):=by
 have:=run_make_row' (P:=Tryz.prog) 107 4 (.bool false) 1 Yof Yji rfl .i64 .i64 (n+1) (by omega) (by omega) w
 rw [Int.natCast_add] at this
 exact this
theorem Ycq (w:World) (n:Nat):(w.alloc (.cells (madeCells #[.bool false] n) 4)).rowIs w.heap.size 4 n (fun _ => .bool false):=World.rowIs_made w (.bool false) n 4
end Go.Proofs.YteciblfmgdlipaaGreatDoor.AS
