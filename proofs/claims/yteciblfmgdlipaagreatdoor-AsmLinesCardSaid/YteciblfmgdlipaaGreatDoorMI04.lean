/-
  Part of a proof: contracts of functions and lemmas, each stated by its own theorem. Conditions: as each theorem states.
-/
import Derived.Test.YteciblfmgdlipaaGreatDoorMI03
set_option linter.unusedSimpArgs false
set_option linter.unusedVariables false
set_option maxRecDepth 100000
set_option maxHeartbeats 16000000
namespace Go.Proofs.YteciblfmgdlipaaGreatDoor.AS
open Go.RowKit Go.Great CK
def Zyq (w:World) (r:Option (Txt × Nat)) (e:Ending) (w':World):Prop :=
 e = .returned (match r with|some (b,k) => .tuple #[Yph 2 (bs b) 0 false,.int .i64 ((k+1:Nat):Int),.bool true]|none => .tuple #[Yph 0 ⟨#[]⟩ 0 false,.int .i64 0,.bool false])/\w.grownBy w' none
theorem Zbu {w w':World} {r:Option (Txt × Nat)} (h:r=none) (g:w.grownBy w' none):Zyq w r (.returned (.tuple #[.agg #[.int .i64 0,.string ⟨#[]⟩,.int .i64 0,.bool false],.int .i64 0,.bool false])) w':=by
 rw [h];exact ⟨rfl,g⟩
theorem Zty {w w':World} {r:Option (Txt × Nat)} {b:Txt} {k:Nat} (h:r=some (b,k)) (g:w.grownBy w' none):Zyq w r (.returned (.tuple #[.agg #[.int .i64 2,.string (bs b),.int .i64 0,.bool false],.int .i64 ((k:Int)+1),.bool true])) w':=by
 rw [h];exact ⟨rfl,g⟩
theorem Zdt {fn:Func} {p u v:Tmp} (hf:fn.results = #[.cell p 158,.tmp u,.tmp v]) {tmps:Array Value} {w:World} {b:Nat} {v0 v1 v2 v3 f g:Value}
 (hp:tmps.getD p undef = .pointer (some ⟨b,0,none⟩)) (hu:tmps.getD u undef=f) (hv:tmps.getD v undef=g) (h:Zlv w b v0 v1 v2 v3) :
 (results fn tmps).run Tryz.prog w = .ok (.tuple #[.agg #[v0,v1,v2,v3],f,g]) w:=by
 rw [Zfc hf,hp,hu,hv]
 have:(asAddr (.pointer (some ⟨b,0,none⟩))).run Tryz.prog w = .ok (⟨b,0,none⟩:Addr) w:=rfl
 rw [this]
 simp only [Result.andThen]
 rw [Ygq h]
structure QuR (s:ByteArray) (w wr:World) (v:Value) (k:Nat) (acc:Txt):Prop where
 le:k<=s.size
 at_:Ytu s.data.toList 1 k acc
 buf:Buf wr (w.heap.size+1) v acc
 box:Zlv wr w.heap.size (.int .i64 0) (.string ⟨#[]⟩) (.int .i64 0) (.bool false)
 gr:w.grownBy wr none
 len:acc.length<=k
theorem Zsa {s:ByteArray} {w wr w2:World} {v v2:Value} {k m:Nat} {acc:Txt} {e:UInt8} (h:QuR s w wr v k acc) (hm:1<=m) (hle:k+m<=s.size) (hs:unq (s.data.toList.drop k)=(unq (s.data.toList.drop (k+m))).map fun x=>(e::x.1,x.2+m))
 (ho:w2.ownsRow (w.heap.size+1) 5 1 v2 (acc.length+1) (bvs acc++[.int .u8 (e.toNat:Int)])) (g:wr.grownBy w2 v.ownBlock):QuR s w w2 v2 (k+m) (acc++[e]):=by
 have hn:=Zsg h.buf (Nat.lt_succ_self w.heap.size)
 refine ⟨hle,Ztg h.at_ hs,?_,Xi h.box g hn,Zej h.gr g (fun q hq=>by have:=(World.ownsRow.lt h.buf q hq).1;omega),by have:=h.len;simp;omega⟩
 unfold Buf
 rw [Zlt,List.length_append,Yje]
 exact ho
theorem Zsb {s:ByteArray} {w wr w2:World} {v:Value} {k:Nat} {acc:Txt} (h:QuR s w wr v k acc) (g:wr.grownBy w2 none):QuR s w w2 v k acc :=
 ⟨h.le,h.at_,Yod h.buf g,Xi h.box g (by simp),Za h.gr g,h.len⟩
theorem Ydi {x y:UInt8} (h:Zmc [x,y]=false):Zhu x=none\/Zhu y=none:=by
 unfold Zmc at h
 cases hx:Zhu x with
 | none=>exact Or.inl rfl
 | some a =>
   cases hy:Zhu y with
   | none=>exact Or.inr rfl
   | some b=>simp [hx,hy] at h
theorem Ydh {x y:UInt8} (h:Zmc [x,y]=true):∃ a b,Zhu x=some a/\Zhu y=some b:=by
 unfold Zmc at h
 simp at h
 obtain ⟨h1,h2⟩:=h
 obtain ⟨a,ha⟩:=Option.isSome_iff_exists.1 h1
 obtain ⟨b,hb⟩:=Option.isSome_iff_exists.1 h2
 exact ⟨a,b,ha,hb⟩
theorem Yuj {l:Txt} {k:Nat} {x y:UInt8} (h2:l[k+2]? = some x) (h3:l[k+3]? = some y):(l.drop (k+2)).take (k+4 - (k+2))=[x,y]:=by
 rw [show k+4 - (k+2)=2 by omega,Yq h2,Yq h3];rfl
theorem Ycd (s:ByteArray) (hs:s.size<=70000) (h1:1<=s.size) (w:World) (hW:LibW w):Calls Tryz.prog 109 #[.string s] w (Zyq w (unq (s.data.toList.drop 1))):=by
 have START:=Hq (Zpv s.data.toList 1)
 obtain ⟨r,hr⟩:∃ r,r=unq (s.data.toList.drop 1):=⟨_,rfl⟩
 rw [<- hr]
 have HR:=Hq hr
 clear hr
 have LW:=Hq hW
 clear hW
 obtain ⟨bi,bi0,bi1,bi2,bi3⟩:=info_parts Zaz
 go_enter Tryz.func109,Tryz.ntmps109
 go_wp2
 have BX:=Hq (Zal w (.int .i64 0) (.string ⟨#[]⟩) (.int .i64 0) (.bool false))
 have G0:=Hq (Ga w (.cells #[.int .i64 0,.string ⟨#[]⟩,.int .i64 0,.bool false] 158) none)
 generalize w.alloc (.cells #[.int .i64 0,.string ⟨#[]⟩,.int .i64 0,.bool false] 158)=w1 at *
 go_loopw [5,6] (fun b i wr=>∃ k acc,i = .int .i64 ((k:Nat):Int)/\QuR s w wr b k acc) (fun _ i _=>s.size - (intOf i).toNat)
 case atStart=>exact ⟨1,[],rfl,h1,START.out,Yjf _ _,BX.out,G0.out,Nat.zero_le _⟩
 case round =>
  obtain ⟨k,acc,rfl,hq⟩:=hrel
  obtain ⟨p,c,rfl⟩:=Zpc hq.buf
  have hlen:=hq.len
  have hle:=hq.le
  have hbox:=Zse hq.box
  have Q:=Hq hq
  have hc3:acc.length+1<=maxLen:=by unfold maxLen;omega
  have hc4:(acc.length+1)*1<=140737488355328:=by omega
  have hE:∀ o,w.heap.size+1<=(wr.alloc o).heap.size:=fun o=>by simp;omega
  have cells:=Xt hq.box
  obtain ⟨c0,c1,c2,c3,z0,z1,z2,z3⟩:=cells
  have cv:=Zmy hq.buf
  clear hq
  by_cases hlt:k<s.size
  · have hb:=Zev s k hlt
    have HB:=Hq hb
    clear hb
    by_cases h34:(s[k]'hlt).toNat=34
    · have hk1:=Q.out.at_.1
      have HU:=Hq (show r=some (acc,k) by rw [HR.out,Zpw Q.out.at_ (Zyw HB.out h34),show k - 1+1=k by omega])
      have i34:((s[k]'hlt).toNat:Int)=34:=by omega
      clear h34
      go_wp2
      exact bodyPost_ret (v := .tuple #[.agg #[.int .i64 2,.string (bs acc),.int .i64 0,.bool false],.int .i64 ((k:Int)+1),.bool true]) (Zdt rfl rfl rfl rfl (Ji Q.out.box)) rfl (Zty HU.out (Zx Q.out.gr (Nat.le_refl _)))
    · have i34:¬ ((s[k]'hlt).toNat:Int)=34:=by omega
      by_cases hbad:(s[k]'hlt).toNat<32\/126<(s[k]'hlt).toNat
      · have HU:=Hq (HR.out.trans <| Jz Q.out.at_ (Yox HB.out h34 hbad))
        rcases (by omega:((s[k]'hlt).toNat:Int)<32\/(32<=((s[k]'hlt).toNat:Int)/\126<((s[k]'hlt).toNat:Int))) with i1|⟨i1,i2⟩
        all_goals
         clear h34 hbad
         go_wp2
         exact bodyPost_ret (v := .tuple #[.agg #[.int .i64 0,.string ⟨#[]⟩,.int .i64 0,.bool false],.int .i64 0,.bool false]) (Zdt rfl rfl rfl rfl (Ji Q.out.box)) rfl (Zbu HU.out (Zx Q.out.gr (Nat.le_refl _)))
      · have i1:32<=((s[k]'hlt).toNat:Int):=by omega
        have i2:((s[k]'hlt).toNat:Int)<=126:=by omega
        by_cases h92:(s[k]'hlt).toNat=92
        · have i92:((s[k]'hlt).toNat:Int)=92:=by omega
          clear i1 i2 i34 h34 hbad
          by_cases hlt1:k+1<s.size
          · have hb1:=Zev s (k+1) hlt1
            have HB1:=Hq hb1
            clear hb1
            have j1:(k:Int)+1<s.size:=by omega
            by_cases hd:(s[k+1]'hlt1).toNat=34\/(s[k+1]'hlt1).toNat=92
            · have HU:=Hq (You HB.out h92 HB1.out hd)
              rcases (by omega:((s[k+1]'hlt1).toNat:Int)=34\/((s[k+1]'hlt1).toNat:Int)=92) with i3|i3
              all_goals
               clear h92 hd
               (
                 go_wp2_with (first
                  | (at_builtin;refine wpList_append_own_at _ rfl _ _ 23 rfl (w.heap.size+1) 5 bi (.int .u8 0) 1 1 Xv bi0 bi1 bi2 bi3 rfl (by decide) (.slice p acc.length c) _ _ rfl (World.ownsRow.alloc Q.out.buf _) ⟨wr.heap.size,0,none⟩ 1 1 [.int .u8 _] rfl rfl (Zcd wr _ _) (Zah _ _) hc3 hc4 (hE _) ?_;intro v3 w5 hown3 hgr3 hnil3 hat3;obtain ⟨p3,k3,hv3⟩:=Zi hown3;subst hv3;have OW3:=Hq hown3;have GR3:=Hq hgr3;clear hown3 hgr3 hnil3 hat3)))
               exact ⟨⟨k+2,acc++[s[k+1]'hlt1],by go_num,Zsa Q.out (by decide) (by omega) HU.out (by rw [i3];exact OW3.out) (Za (Ga _ _ _) GR3.out)⟩,by simp [intOf];omega⟩
            · have i3:(((s[k+1]'hlt1).toNat:Int) == 34)=false:=beq_eq_false_iff_ne.2 (by omega)
              have i4:(((s[k+1]'hlt1).toNat:Int) == 92)=false:=beq_eq_false_iff_ne.2 (by omega)
              by_cases hlt3:k+3<s.size
              · have j3:(k:Int)+3<s.size:=by omega
                have hlt2:k+2<s.size:=by omega
                have HB2:=Hq (Zev s (k+2) hlt2)
                have HB3:=Hq (Zev s (k+3) hlt3)
                by_cases h120:(s[k+1]'hlt1).toNat=120
                · have i5:(((s[k+1]'hlt1).toNat:Int) == 120)=true:=beq_iff_eq.2 (by omega)
                  have hsl:∀ W:World,(Instr.slice 9 (.string s) (some (.int .i64 ((k:Int)+2))) (some (.int .i64 ((k:Int)+4))) none).run Tryz.prog W = .ok (.string (bs [s[k+2]'hlt2,s[k+3]'hlt3])) W:=fun W=>by
                   rw [run_slice_string W _ s .i64 .i64 ((k:Int)+2) ((k:Int)+4) Xl (by omega) (by omega) (by omega),Xw]
                   rw [show ((k:Int)+2).toNat=k+2 by omega,show ((k:Int)+4).toNat=k+4 by omega,Yuj HB2.out HB3.out]
                  have T:=Hq (Zjf (bs [s[k+2]'hlt2,s[k+3]'hlt3]) hexSet (by rw [Zl];simp) (by decide) (by decide))
                  rw [Xs,show bs hexSet=⟨#[48,49,50,51,52,53,54,55,56,57,97,98,99,100,101,102]⟩ from rfl] at T
                  cases hx:Zmc [s[k+2]'hlt2,s[k+3]'hlt3] with
                  | false =>
                    have HU:=Hq (HR.out.trans <| Jz Q.out.at_ (Yek HB.out h92 HB1.out h120 HB2.out HB3.out (Ydi hx)))
                    have hne:Lib.trimS [s[k+2]'hlt2,s[k+3]'hlt3] hexSet≠[]:=by rw [Ne,Zmr,hx];simp
                    have he:=Zcf hne
                    generalize bs (Lib.trimS [s[k+2]'hlt2,s[k+3]'hlt3] hexSet)=x at *
                    generalize bs [s[k+2]'hlt2,s[k+3]'hlt3]=t2 at *
                    clear h92 hd h120 hx hne
                    go_wp2_with (go_at_call 139;refine (T.out _).mono ?_;rintro e w4 ⟨rfl,hg⟩;have Q4:=Hq (Zsb Q.out hg);obtain ⟨c0,c1,c2,c3,z0,z1,z2,z3⟩:=Xt Q4.out.box;clear hg)
                    exact bodyPost_ret (v := .tuple #[.agg #[.int .i64 0,.string ⟨#[]⟩,.int .i64 0,.bool false],.int .i64 0,.bool false]) (Zdt rfl rfl rfl rfl (Ji Q4.out.box)) rfl (Zbu HU.out (Zx Q4.out.gr (Nat.le_refl _)))
                  | true =>
                    obtain ⟨a,b,ha,hb⟩:=Ydh hx
                    have HU:=Hq (Yot HB.out h92 HB1.out h120 HB2.out HB3.out ha hb)
                    have he:=Zel
                    rw [(Zmr _).2 hx] at T
                    generalize bs []=x at *
                    have hv:Yz 0 [s[k+2]'hlt2,s[k+3]'hlt3]=some (16*a+b):=by simp [Yz,ha,hb]
                    have P:=Hq (pu8 [s[k+2]'hlt2,s[k+3]'hlt3] (by simp) (by simp) _ hv)
                    generalize bs [s[k+2]'hlt2,s[k+3]'hlt3]=t2 at *
                    have ha16:=Zlj ha
                    have hb16:=Zlj hb
                    have hw8:IntKind.u8.wrap ((16*a+b:Nat):Int)=((UInt8.ofNat (16*a+b)).toNat:Int):=by
                     rw [IntKind.wrap_u8,UInt8.toNat_ofNat'];omega
                    generalize UInt8.ofNat (16*a+b)=e8 at *
                    generalize ((16*a+b:Nat):Int)=vi at *
                    clear h92 hd h120 hx hv ha hb ha16 hb16
                    go_wp2_with (first
                     | (go_at_call 139;refine (T.out _).mono ?_;rintro e w4 ⟨rfl,hg⟩;have Q4:=Hq (Zsb Q.out hg);clear hg)
                     | (go_at_call 140;refine (P.out _).mono ?_;rintro e w6 ⟨rfl,hg⟩;have Q5:=Hq (Zsb Q4.out hg);have hbox6:=Zse Q5.out.box;have hE6:∀ o,w.heap.size+1<=(w6.alloc o).heap.size:=(fun o=>Zw hbox6 o);clear hg)
                     | (at_builtin;refine wpList_append_own_at _ rfl _ _ 23 rfl (w.heap.size+1) 5 bi (.int .u8 0) 1 1 Xv bi0 bi1 bi2 bi3 rfl (by decide) (.slice p acc.length c) _ _ rfl (World.ownsRow.alloc Q5.out.buf _) ⟨w6.heap.size,0,none⟩ 1 1 [.int .u8 _] rfl rfl (Zcd w6 _ _) (Zah _ _) hc3 hc4 (hE6 _) ?_;intro v3 w5 hown3 hgr3 hnil3 hat3;obtain ⟨p3,k3,hv3⟩:=Zi hown3;subst hv3;have OW3:=Hq hown3;have GR3:=Hq hgr3;clear hown3 hgr3 hnil3 hat3))
                    exact ⟨⟨k+4,acc++[e8],by go_num,Zsa Q5.out (by decide) (by omega) HU.out OW3.out (Za (Ga _ _ _) GR3.out)⟩,by simp [intOf];omega⟩
                · have HU:=Hq (HR.out.trans <| Jz Q.out.at_ (Yor HB.out h92 HB1.out (by omega) (by omega) h120))
                  have i5:(((s[k+1]'hlt1).toNat:Int) == 120)=false:=beq_eq_false_iff_ne.2 (by omega)
                  clear h92 hd h120
                  go_wp2
                  exact bodyPost_ret (v := .tuple #[.agg #[.int .i64 0,.string ⟨#[]⟩,.int .i64 0,.bool false],.int .i64 0,.bool false]) (Zdt rfl rfl rfl rfl (Ji Q.out.box)) rfl (Zbu HU.out (Zx Q.out.gr (Nat.le_refl _)))
              · have HU:=Hq (HR.out.trans <| Jz Q.out.at_ (Yoq HB.out h92 HB1.out (by omega) (by omega) (by rw [Ye];omega)))
                have j3:¬ (k:Int)+3<s.size:=by omega
                clear h92 hd
                go_wp2
                exact bodyPost_ret (v := .tuple #[.agg #[.int .i64 0,.string ⟨#[]⟩,.int .i64 0,.bool false],.int .i64 0,.bool false]) (Zdt rfl rfl rfl rfl (Ji Q.out.box)) rfl (Zbu HU.out (Zx Q.out.gr (Nat.le_refl _)))
          · have HU:=Hq (HR.out.trans <| Jz Q.out.at_ (Yos HB.out h92 (by rw [Ye];omega)))
            have j1:¬ (k:Int)+1<s.size:=by omega
            have j3:¬ (k:Int)+3<s.size:=by omega
            clear h92
            go_wp2
            exact bodyPost_ret (v := .tuple #[.agg #[.int .i64 0,.string ⟨#[]⟩,.int .i64 0,.bool false],.int .i64 0,.bool false]) (Zdt rfl rfl rfl rfl (Ji Q.out.box)) rfl (Zbu HU.out (Zx Q.out.gr (Nat.le_refl _)))
        · have HU:=Hq (Yow HB.out h34 (by omega) (by omega) h92)
          have i92:¬ ((s[k]'hlt).toNat:Int)=92:=by omega
          clear h34 hbad h92
          (
            go_wp2_with (first
             | (at_builtin;refine wpList_append_own_at _ rfl _ _ 23 rfl (w.heap.size+1) 5 bi (.int .u8 0) 1 1 Xv bi0 bi1 bi2 bi3 rfl (by decide) (.slice p acc.length c) _ _ rfl (World.ownsRow.alloc Q.out.buf _) ⟨wr.heap.size,0,none⟩ 1 1 [.int .u8 _] rfl rfl (Zcd wr _ _) (Zah _ _) hc3 hc4 (hE _) ?_;intro v3 w5 hown3 hgr3 hnil3 hat3;obtain ⟨p3,k3,hv3⟩:=Zi hown3;subst hv3;have OW3:=Hq hown3;have GR3:=Hq hgr3;clear hown3 hgr3 hnil3 hat3)))
          exact ⟨⟨k+1,acc++[s[k]'hlt],by go_num,Zsa Q.out (Nat.le_refl _) (by omega) HU.out OW3.out (Za (Ga _ _ _) GR3.out)⟩,by simp [intOf];omega⟩
  · have HU:=Hq (HR.out.trans <| Jz Q.out.at_ (Yov (by rw [Ye];omega)))
    go_wp2
    exact bodyPost_ret (v := .tuple #[.agg #[.int .i64 0,.string ⟨#[]⟩,.int .i64 0,.bool false],.int .i64 0,.bool false]) (Zdt rfl rfl rfl rfl (Ji Q.out.box)) rfl (Zbu HU.out (Zx Q.out.gr (Nat.le_refl _)))
def pcK:Pc->Int
 | .word _=>0
 | .num _ _=>1
 | .str _=>2
 | .colon=>3
def pcT:Pc->Txt
 | .word t=>t
 | .str t=>t
 | _=>[]
def pcN:Pc->Int
 | .num n _=>n
 | _=>0
def pcF:Pc->Bool
 | .num _ b => !b
 | _=>false
def Yjv (p:Pc) (k:Nat) (e:Ending):Prop:=e = .returned (.tuple #[.agg #[.int .i64 (pcK p),.string (bs (pcT p)),.int .i64 (pcN p),.bool (pcF p)],.int .i64 (k:Int),.bool true])
def Yud (e:Ending):Prop:=∃ k t n f m,e = .returned (.tuple #[.agg #[.int .i64 k,.string t,.int .i64 n,.bool f],.int .i64 m,.bool false])
def Zph (w:World) (r:Option (Pc × Nat)) (e:Ending) (w':World):Prop :=
 (match r with|some (p,k)=>Yjv p k e|none=>Yud e)/\w.grownBy w' none
theorem Yfs (l:Txt):Zcy l<=l.length:=by unfold Zcy;exact (List.takeWhile_sublist _).length_le
theorem Zdr (b:UInt8):wrap32 (b.toNat:Int)=(b.toNat:Int):=by
 have:=b.toNat_lt
 unfold wrap32;omega
theorem Zmp (w:World):Zlv (w.alloc (.cells #[.int .i64 0,.string ⟨#[]⟩,.int .i64 0,.bool false] 158)) w.heap.size (.int .i64 0) (.string ⟨#[]⟩) (.int .i64 0) (.bool false):=Zal w _ _ _ _
theorem Ymh (s:ByteArray) (h0:0<s.size) (hc:Ycr (s[0]'h0)=true) (w:World):Calls Tryz.prog 75 #[.string s] w (Zph w (some (.word (s.data.toList.take (Zcy s.data.toList)),Zcy s.data.toList))):=by
 have R:=Hq (Yfq s)
 have hle:=Yfs s.data.toList
 rw [Ye] at hle
 have hsl:∀ W:World,(Instr.slice 9 (.string s) none (some (.int .i64 ((Zcy s.data.toList:Nat):Int))) none).run Tryz.prog W = .ok (.string (bs (s.data.toList.take (Zcy s.data.toList)))) W:=fun W=>by
  rw [run_slice_string_h (ht:=Xl) (h0:=by omega) (h2:=by omega),Xw]
  simp
 have hw32:=Zdr (s[0]'h0)
 have L:=Hq (show Zob ((s[0]'h0).toNat:Int)=true from hc)
 generalize s.data.toList.take (Zcy s.data.toList)=t at *
 generalize Zcy s.data.toList=n at *
 clear hc
 go_enter Tryz.func75,Tryz.ntmps75
 go_wp2_with (first
  | (go_at_call 107;refine (Zay _ _).mono ?_;rintro e w' ⟨rfl,rfl⟩;rw [L.out])
  | (go_at_call 108;refine (R.out _).mono ?_;rintro e w2 ⟨rfl,hg⟩;have G:=Hq hg;have B:=Hq (Xi (Zmp w) hg (by simp));obtain ⟨c0,c1,c2,c3,z0,z1,z2,z3⟩:=Xt B.out;clear hg))
 exact bodyPost_ret (v := .tuple #[.agg #[.int .i64 0,.string (bs t),.int .i64 0,.bool false],.int .i64 (n:Int),.bool true]) (Zdt rfl rfl rfl rfl (Ji B.out)) rfl ⟨rfl,Zx (Za (Ga _ _ _) G.out) (Nat.le_refl _)⟩
theorem Yrz (s:ByteArray) (hs:s.size<=70000) (h0:0<s.size) (hc:Ycr (s[0]'h0)=false) (h34:(s[0]'h0).toNat=34) (w:World) (hW:LibW w):Calls Tryz.prog 75 #[.string s] w (Zph w ((unq (s.data.toList.drop 1)).map fun x=>(.str x.1,x.2+1))):=by
 have Q:=Hq (Ycd s hs h0)
 have LW:=Hq hW
 have hw32:=Zdr (s[0]'h0)
 have L:=Hq (show Zob ((s[0]'h0).toNat:Int)=false from hc)
 have i34:(((s[0]'h0).toNat:Int) == 34)=true:=beq_iff_eq.2 (by omega)
 obtain ⟨r,hr⟩:∃ r,r=unq (s.data.toList.drop 1):=⟨_,rfl⟩
 rw [<- hr] at Q ⊢
 clear hr hc h34 hW
 have HQ:=Hq (show ∀ W,LibW W->Calls Tryz.prog 109 #[.string s] W fun e w'=>∃ k t n f m ok,e = .returned (.tuple #[.agg #[.int .i64 k,.string t,.int .i64 n,.bool f],.int .i64 m,.bool ok])/\W.grownBy w' none/\(match r.map fun x=>((.str x.1,x.2+1):Pc × Nat) with|some (p,k)=>Yjv p k e|none=>Yud e) from fun W hw=>by
  refine (Q.out W hw).mono ?_
  rintro e w' ⟨rfl,hg⟩
  cases r with
  | none=>exact ⟨_,_,_,_,_,_,rfl,hg,_,_,_,_,_,rfl⟩
  | some x=>exact ⟨_,_,_,_,_,_,rfl,hg,rfl⟩)
 clear Q
 generalize (r.map fun x=>((.str x.1,x.2+1):Pc × Nat))=r2 at *
 go_enter Tryz.func75,Tryz.ntmps75
 go_wp2_with (first
  | (go_at_call 107;refine (Zay _ _).mono ?_;rintro e w' ⟨rfl,rfl⟩;rw [L.out])
  | (go_at_call 109;refine (HQ.out _ (Ym LW.out (Ga _ _ _))).mono ?_;rintro e w2 ⟨k,t,n,f,m,ok,rfl,hg,hp⟩;have G:=Hq hg;have HP:=Hq hp;have B:=Hq (Xi (Zmp w) hg (by simp));obtain ⟨c0,c1,c2,c3,z0,z1,z2,z3⟩:=Xt B.out;clear hg hp))
 exact bodyPost_ret (v := .tuple #[.agg #[.int .i64 k,.string t,.int .i64 n,.bool f],.int .i64 m,.bool ok]) (Zdt rfl rfl rfl rfl (Ji B.out)) rfl ⟨HP.out,Zx (Za (Ga _ _ _) G.out) (Nat.le_refl _)⟩
theorem Ysb (s:ByteArray) (hs:s.size<=70000) (h0:0<s.size) (hc:Ycr (s[0]'h0)=false) (h34:(s[0]'h0).toNat≠34) (hd:(s[0]'h0).toNat=45\/Zpo (s[0]'h0)=true) (w:World) (hW:LibW w) :
 Calls Tryz.prog 75 #[.string s] w (Zph w ((Zex (s.data.toList.take (1+Zcy (s.data.toList.drop 1)))).map fun x=>(.num x.1 x.2,1+Zcy (s.data.toList.drop 1)))):=by
 have R:=Hq (Yfq (bs (s.data.toList.drop 1)))
 rw [Xs] at R
 have hle:=Yfs (s.data.toList.drop 1)
 rw [List.length_drop,Ye] at hle
 have hs1:∀ W:World,(Instr.slice 9 (.string s) (some (.int .i64 1)) none none).run Tryz.prog W = .ok (.string (bs (s.data.toList.drop 1))) W:=fun W=>by
  rw [run_slice_string_l (ht:=Xl) (h0:=by omega) (h1:=by omega),Xw]
  rw [List.take_of_length_le (by rw [List.length_drop,Ye];exact Nat.le_refl _)];rfl
 have hs2:∀ W:World,(Instr.slice 9 (.string s) none (some (.int .i64 ((1:Int)+(Zcy (s.data.toList.drop 1):Nat)))) none).run Tryz.prog W = .ok (.string (bs (s.data.toList.take (1+Zcy (s.data.toList.drop 1))))) W:=fun W=>by
  rw [run_slice_string_h (ht:=Xl) (h0:=by omega) (h2:=by omega),Xw]
  rw [show ((1:Int)+(Zcy (s.data.toList.drop 1):Nat)).toNat=1+Zcy (s.data.toList.drop 1) by omega];simp
 have N:=Hq (Ycl (bs (s.data.toList.take (1+Zcy (s.data.toList.drop 1)))) (by rw [Zl,List.length_take,Ye];omega))
 rw [Xs] at N
 have LW:=Hq hW
 have hw32:=Zdr (s[0]'h0)
 have L:=Hq (show Zob ((s[0]'h0).toNat:Int)=false from hc)
 have i34:(((s[0]'h0).toNat:Int) == 34)=false:=beq_eq_false_iff_ne.2 (by omega)
 have HN:=Hq (show ∀ W,LibW W->Calls Tryz.prog 111 #[.string (bs (s.data.toList.take (1+Zcy (s.data.toList.drop 1))))] W fun e w'=>∃ k t n f ok,e = .returned (.tuple #[.agg #[.int .i64 k,.string t,.int .i64 n,.bool f],.bool ok])/\W.grownBy w' none/\(match (Zex (s.data.toList.take (1+Zcy (s.data.toList.drop 1)))).map fun x=>((.num x.1 x.2,1+Zcy (s.data.toList.drop 1)):Pc × Nat) with|some (p,m)=>Yjv p m (.returned (.tuple #[.agg #[.int .i64 k,.string t,.int .i64 n,.bool f],.int .i64 ((1:Int)+(Zcy (s.data.toList.drop 1):Nat)),.bool ok]))|none=>Yud (.returned (.tuple #[.agg #[.int .i64 k,.string t,.int .i64 n,.bool f],.int .i64 ((1:Int)+(Zcy (s.data.toList.drop 1):Nat)),.bool ok]))) from fun W hw=>by
  refine (N.out W hw).mono ?_
  rintro e w' ⟨rfl,hg⟩
  cases hx:Zex (s.data.toList.take (1+Zcy (s.data.toList.drop 1))) with
  | none=>exact ⟨_,_,_,_,_,rfl,hg,_,_,_,_,_,rfl⟩
  | some x =>
    refine ⟨_,_,_,_,_,rfl,hg,?_⟩
    show Yjv _ _ _
    unfold Yjv
    simp only [Int.natCast_add]
    rfl)
 clear N
 generalize ((Zex (s.data.toList.take (1+Zcy (s.data.toList.drop 1)))).map fun x=>((.num x.1 x.2,1+Zcy (s.data.toList.drop 1)):Pc × Nat))=r2 at *
 generalize bs (s.data.toList.take (1+Zcy (s.data.toList.drop 1)))=t2 at *
 generalize bs (s.data.toList.drop 1)=t1 at *
 generalize Zcy (s.data.toList.drop 1)=n1 at *
 have hn1:(n1:Int)<=70000:=by omega
 clear hle hc h34 hW
 have D:(((s[0]'h0).toNat:Int) == 45)=true\/((((s[0]'h0).toNat:Int) == 45)=false/\Zeb ((s[0]'h0).toNat:Int)=true):=by
  rcases hd with hd|hd
  · exact Or.inl (beq_iff_eq.2 (by omega))
  · by_cases h:((s[0]'h0).toNat:Int)=45
    · exact Or.inl (beq_iff_eq.2 h)
    · exact Or.inr ⟨beq_eq_false_iff_ne.2 h,hd⟩
 clear hd
 rcases D with i45|⟨i45,id⟩
 all_goals
  go_enter Tryz.func75,Tryz.ntmps75
  go_upto_region 10 with (first
   | (go_at_call 107;refine (Zay _ _).mono ?_;rintro e w' ⟨rfl,rfl⟩;rw [L.out])
   | (go_at_call 110;refine (Zft _ _).mono ?_;rintro e w' ⟨rfl,rfl⟩;rw [id])
   | (go_at_call 108;refine (R.out _).mono ?_;rintro e w2 ⟨rfl,hg⟩;have G:=Hq hg;have B:=Hq (Xi (Zmp w) hg (by simp));clear hg)
   | (go_at_call 111;refine (HN.out _ (Ym LW.out (Za (Ga _ _ _) G.out))).mono ?_;rintro e w3 ⟨k,t,n,f,ok,rfl,hg,hp⟩;have G3:=Hq (Za (Za (Ga _ _ _) G.out) hg);have HP:=Hq hp;have B3:=Hq (Xi B.out hg (by simp));clear hg hp))
  have G4:=Hq (Za G3.out (Ga w3 (.cells #[.int .i64 k,.string t,.int .i64 n,.bool f] 158) none))
  have B4:=Hq (Xi B3.out (Ga w3 (.cells #[.int .i64 k,.string t,.int .i64 n,.bool f] 158) none) (by simp))
  have B5:=Hq (Zal w3 (.int .i64 k) (.string t) (.int .i64 n) (.bool f))
  generalize w3.alloc (.cells #[.int .i64 k,.string t,.int .i64 n,.bool f] 158)=w4 at *
  generalize w3.heap.size=b3 at *
  obtain ⟨c0,c1,c2,c3,z0,z1,z2,z3⟩:=Xt B4.out
  obtain ⟨d0,d1,d2,d3,y0,y1,y2,y3⟩:=Xt B5.out
  go_wp2
  exact bodyPost_ret (v := .tuple #[.agg #[.int .i64 k,.string t,.int .i64 n,.bool f],.int .i64 ((1:Int)+(n1:Int)),.bool ok]) (Zdt rfl rfl rfl rfl (Ji B4.out)) rfl ⟨HP.out,Zx G4.out (Nat.le_refl _)⟩
theorem Yuy (s:ByteArray) (h0:0<s.size) (hc:Ycr (s[0]'h0)=false) (h34:(s[0]'h0).toNat≠34) (h45:(s[0]'h0).toNat≠45) (hd:Zpo (s[0]'h0)=false) (w:World):Calls Tryz.prog 75 #[.string s] w (Zph w none):=by
 have hw32:=Zdr (s[0]'h0)
 have L:=Hq (show Zob ((s[0]'h0).toNat:Int)=false from hc)
 have D:=Hq (show Zeb ((s[0]'h0).toNat:Int)=false from hd)
 have i34:(((s[0]'h0).toNat:Int) == 34)=false:=beq_eq_false_iff_ne.2 (by omega)
 have i45:(((s[0]'h0).toNat:Int) == 45)=false:=beq_eq_false_iff_ne.2 (by omega)
 clear hc h34 h45 hd
 go_enter Tryz.func75,Tryz.ntmps75
 go_wp2_with (first
  | (go_at_call 107;refine (Zay _ _).mono ?_;rintro e w' ⟨rfl,rfl⟩;rw [L.out])
  | (go_at_call 110;refine (Zft _ _).mono ?_;rintro e w' ⟨rfl,rfl⟩;rw [D.out]))
 exact bodyPost_ret (v := .tuple #[.agg #[.int .i64 0,.string ⟨#[]⟩,.int .i64 0,.bool false],.int .i64 0,.bool false]) (Zdt rfl rfl rfl rfl (Zmp w)) rfl ⟨⟨_,_,_,_,_,rfl⟩,Ga _ _ _⟩
theorem Zuo (s:ByteArray) (h0:0<s.size):s.data.toList=(s[0]'h0)::s.data.toList.drop 1:=by
 have:=Yq (Zev s 0 h0)
 simpa using this
theorem Zxk (s:ByteArray) (hs:s.size<=70000) (h0:0<s.size) (w:World) (hW:LibW w):Calls Tryz.prog 75 #[.string s] w (Zph w (Zmm s.data.toList)):=by
 have hl:=Zuo s h0
 have W1:=Ymh s h0
 have W2:=fun h1 h2=>Yrz s hs h0 h1 h2 w hW
 have W3:=fun h1 h2 h3=>Ysb s hs h0 h1 h2 h3 w hW
 have W4:=fun h1 h2 h3 h4=>Yuy s h0 h1 h2 h3 h4 w
 have e:Zmm s.data.toList=Zmm ((s[0]'h0)::s.data.toList.drop 1):=congrArg Zmm hl
 rw [e,Zmm,<- hl]
 cases hc:Ycr (s[0]'h0) with
 | true=>simp only [if_true];exact W1 hc w
 | false =>
   simp only [Bool.false_eq_true,if_false]
   by_cases h34:(s[0]'h0).toNat=34
   · rw [if_pos h34];exact W2 hc h34
   · rw [if_neg h34]
     by_cases hd:(s[0]'h0).toNat=45\/Zpo (s[0]'h0)=true
     · rw [if_pos hd];exact W3 hc h34 hd
     · rw [if_neg hd];exact W4 hc h34 (fun h=>hd (Or.inl h)) (by cases h:Zpo (s[0]'h0) with|false=>rfl|true=>exact absurd (Or.inr h) hd)
theorem Zne:∀ (n:Nat) (l:Txt) (b:Txt) (k:Nat),l.length<=n->unq l=some (b,k)->1<=k/\k<=l.length:=by
 intro n
 induction n with
 | zero =>
   intro l b k hl h
   have:l=[]:=List.eq_nil_of_length_eq_zero (by omega)
   subst this;cases h
 | succ n ih =>
   intro l b k hl h
   cases l with
   | nil=>cases h
   | cons c r =>
     rw [unq.eq_def] at h
     simp only [] at h
     simp only [List.length_cons] at hl ⊢
     split at h
     · injection h with h;injection h with h1 h2;omega
     · split at h
       · cases h
       · split at h
         · obtain ⟨x,hx,h⟩:=Option.map_eq_some_iff.1 h
           have:=ih r x.1 x.2 (by omega) hx
           injection h with h1 h2;omega
         · split at h
           · cases h
           · rename_i d r2
             simp only [List.length_cons] at hl ⊢
             split at h
             · obtain ⟨x,hx,h⟩:=Option.map_eq_some_iff.1 h
               have:=ih r2 x.1 x.2 (by omega) hx
               injection h with h1 h2;omega
             · split at h
               · split at h
                 · rename_i x y r3
                   simp only [List.length_cons] at hl ⊢
                   split at h
                   · obtain ⟨z,hz,h⟩:=Option.map_eq_some_iff.1 h
                     have:=ih r3 z.1 z.2 (by omega) hz
                     injection h with h1 h2;omega
                   · cases h
                 · cases h
               · cases h
theorem Zzi (l:Txt):Zcy l<=l.length:=by unfold Zcy;exact (List.takeWhile_sublist _).length_le
theorem Yva {b:UInt8} (h:Ycr b=true):tlB b=true:=by
 unfold tlB tlI
 have:Zob (b.toNat:Int)=true:=h
 rw [this];rfl
theorem Zfe {l:Txt} {p:Pc} {k:Nat} (h:Zmm l=some (p,k)):1<=k/\k<=l.length:=by
 cases l with
 | nil=>cases h
 | cons c r =>
   rw [Zmm] at h
   split at h
   · rename_i hc
     injection h with h;injection h with h1 h2
     have h3:=Zzi (c::r)
     have h4:1<=Zcy (c::r):=by unfold Zcy;rw [List.takeWhile_cons,if_pos (Yva hc)];simp
     omega
   · split at h
     · obtain ⟨x,hx,h⟩:=Option.map_eq_some_iff.1 h
       have:=Zne r.length r x.1 x.2 (Nat.le_refl _) hx
       injection h with h1 h2
       simp only [List.length_cons];omega
     · split at h
       · obtain ⟨x,hx,h⟩:=Option.map_eq_some_iff.1 h
         injection h with h1 h2
         have:=Zzi r
         simp only [List.length_cons];omega
       · cases h
def Zmj (l0:Txt) (f:Nat) (ap:Bool) (l:Txt) (acc:List Pc):Prop:=l.length<f/\Zpm l0=(Zpr f ap l).map (acc++·)
theorem Zqp (l:Txt):Zmj l (l.length+1) true l []:=⟨Nat.lt_succ_self _,by unfold Zpm;cases Zpr (l.length+1) true l <;> simp⟩
theorem Zzv {l0:Txt} {f:Nat} {ap:Bool} {l:Txt} {acc:List Pc} (h:Zmj l0 f ap l acc) (he:l=[]):Zpm l0=some acc:=by
 subst he
 obtain ⟨h0,h1⟩:=h
 obtain ⟨g,rfl⟩:∃ g,f=g+1:=⟨f - 1,by omega⟩
 rw [h1,Zpr];simp
theorem Zuf {l0:Txt} {f:Nat} {ap:Bool} {c:UInt8} {r:Txt} {acc:List Pc} (h:Zmj l0 f ap (c::r) acc) (hc:c.toNat=59):Zpm l0=some acc:=by
 obtain ⟨h0,h1⟩:=h
 obtain ⟨g,rfl⟩:∃ g,f=g+1:=⟨f - 1,by omega⟩
 rw [h1,Zpr,if_pos hc];simp
theorem Zqr {l0:Txt} {f:Nat} {ap:Bool} {c:UInt8} {r:Txt} {acc:List Pc} (h:Zmj l0 f ap (c::r) acc) (hc:c.toNat=32\/c.toNat=9\/c.toNat=13):∃ g,Zmj l0 g true r acc:=by
 obtain ⟨h0,h1⟩:=h
 obtain ⟨g,rfl⟩:∃ g,f=g+1:=⟨f - 1,by omega⟩
 refine ⟨g,by simp at h0;omega,?_⟩
 rw [h1,Zpr,if_neg (by omega),if_pos hc]
theorem Zqq {l0:Txt} {f:Nat} {ap:Bool} {c:UInt8} {r:Txt} {acc:List Pc} (h:Zmj l0 f ap (c::r) acc) (hc:c.toNat=58):∃ g,Zmj l0 g true r (acc++[.colon]):=by
 obtain ⟨h0,h1⟩:=h
 obtain ⟨g,rfl⟩:∃ g,f=g+1:=⟨f - 1,by omega⟩
 refine ⟨g,by simp at h0;omega,?_⟩
 rw [h1,Zpr,if_neg (by omega),if_neg (by omega),if_pos hc,Option.map_map]
 congr 1
 funext x
 simp
def Zwb (c:UInt8):Prop:=c.toNat≠59/\c.toNat≠32/\c.toNat≠9/\c.toNat≠13/\c.toNat≠58
theorem Zbv {l0:Txt} {f:Nat} {c:UInt8} {r:Txt} {acc:List Pc} (h:Zmj l0 f false (c::r) acc) (hc:Zwb c):Zpm l0=none:=by
 obtain ⟨h0,h1⟩:=h
 obtain ⟨c1,c2,c3,c4,c5⟩:=hc
 obtain ⟨g,rfl⟩:∃ g,f=g+1:=⟨f - 1,by omega⟩
 rw [h1,Zpr,if_neg c1,if_neg (by omega),if_neg c5,if_pos rfl];rfl
theorem Zin {l0:Txt} {f:Nat} {ap:Bool} {c:UInt8} {r:Txt} {acc:List Pc} (h:Zmj l0 f ap (c::r) acc) (hc:Zwb c) (ho:Zmm (c::r)=none):Zpm l0=none:=by
 obtain ⟨h0,h1⟩:=h
 obtain ⟨c1,c2,c3,c4,c5⟩:=hc
 obtain ⟨g,rfl⟩:∃ g,f=g+1:=⟨f - 1,by omega⟩
 rw [h1,Zpr,if_neg c1,if_neg (by omega),if_neg c5,ho]
 split <;> rfl
theorem Zeg {l0:Txt} {f:Nat} {c:UInt8} {r:Txt} {acc:List Pc} {p:Pc} {k:Nat} (h:Zmj l0 f true (c::r) acc) (hc:Zwb c) (ho:Zmm (c::r)=some (p,k)):∃ g,Zmj l0 g false ((c::r).drop k) (acc++[p]):=by
 obtain ⟨h0,h1⟩:=h
 obtain ⟨c1,c2,c3,c4,c5⟩:=hc
 obtain ⟨g,rfl⟩:∃ g,f=g+1:=⟨f - 1,by omega⟩
 have hb:=Zfe ho
 refine ⟨g,by rw [List.length_drop];omega,?_⟩
 rw [h1,Zpr,if_neg c1,if_neg (by omega),if_neg c5,if_neg (by decide),ho]
 simp only [Option.map_map]
 congr 1
 funext x
 simp
def pc4 (p:Pc):List Value:=[.int .i64 (pcK p),.string (bs (pcT p)),.int .i64 (pcN p),.bool (pcF p)]
def Zxh:List Pc->List Value
 | []=>[]
 | p::r=>pc4 p++Zxh r
theorem Zxg (a b:List Pc):Zxh (a++b)=Zxh a++Zxh b:=by
 induction a with
 | nil=>rfl
 | cons p r ih=>simp [Zxh,ih]
theorem Zzu:∀ (l:List Pc) (i:Nat) (p:Pc),l[i]? = some p->(Zxh l)[i*4]? = some (.int .i64 (pcK p))/\(Zxh l)[i*4+1]? = some (.string (bs (pcT p)))/\(Zxh l)[i*4+2]? = some (.int .i64 (pcN p))/\(Zxh l)[i*4+3]? = some (.bool (pcF p))
 | [],i,p,h=>by simp at h
 | x::r,0,p,h=>by simp at h;subst h;simp [Zxh,pc4]
 | x::r,i+1,p,h=>by
   obtain ⟨h1,h2,h3,h4⟩:=Zzu r i p (by simpa using h)
   have e:(i+1)*4=i*4+4:=by omega
   rw [e]
   refine ⟨?_,?_,?_,?_⟩ <;> (simp only [Zxh,pc4,List.cons_append,List.nil_append]) <;> simpa using by assumption
def Ydw (w:World) (E:Nat) (v:Value) (ps:List Pc):Prop:=w.ownsRow E 158 4 v ps.length (Zxh ps)
theorem Zxi {w:World} {E:Nat} {v:Value} {ps:List Pc} (h:Ydw w E v ps):∃ p c,v = .slice p ps.length c:=Zi h
theorem Zud:Tryz.prog.underlying 125=some (.slice 158):=by kernel_rfl
theorem Ych:(Tryz.prog.info? 158).map (fun i=>(i.zero,i.size,i.bytes))=some (some (.agg #[.int .i64 0,.string ⟨#[]⟩,.int .i64 0,.bool false]),4,40):=by kernel_rfl
theorem Zcv (w:World) (x y z u0:Value) (t:TypeId):∀ j u,[x,y,z,u0][j]? = some u->(w.alloc (.cells #[x,y,z,u0] t)).cell? ((⟨w.heap.size,0,none⟩:Addr).add j)=some u:=by
 intro j u hj
 match j,hj with
 | 0,hj=>simp at hj;subst hj;simp [Addr.add]
 | 1,hj=>simp at hj;subst hj;simp [Addr.add]
 | 2,hj=>simp at hj;subst hj;simp [Addr.add]
 | 3,hj=>simp at hj;subst hj;simp [Addr.add]
theorem Zzw (p:Pc):∀ u∈pc4 p,u.oneCell'=true:=by intro u hu;simp [pc4] at hu;rcases hu with rfl|rfl|rfl|rfl <;> rfl
def Zpx:Value->Nat
 | .string s=>s.size
 | _=>0
def Yub (w:World) (r:Option (List Pc)) (e:Ending) (w':World):Prop :=
 (match r with
   | some ps=>∃ p c,e = .returned (.tuple #[.slice p ps.length c,.nilIface])/\Ydw w' w.heap.size (.slice p ps.length c) ps
   | none=>e = .returned (.tuple #[.slice none 0 0,.iface 41 (.int .i64 141)]))/\w.grownBy w' none
structure PsR (l0:Txt) (w wr:World) (s:ByteArray) (v:Value) (ap:Bool) (f:Nat) (acc:List Pc):Prop where
 at_:Zmj l0 f ap s.data.toList acc
 sz:s.size<=70000
 row:Ydw wr w.heap.size v acc
 gr:w.grownBy wr none
 len:acc.length+s.size<=70000
theorem Ylt {l0:Txt} {w wr w2:World} {s:ByteArray} {v:Value} {ap:Bool} {f:Nat} {acc:List Pc} (h:PsR l0 w wr s v ap f acc) (g:wr.grownBy w2 none):PsR l0 w w2 s v ap f acc :=
 ⟨h.at_,h.sz,h.row.kept g (Yw h.row),Za h.gr g,h.len⟩
theorem Zzq {l0:Txt} {w wr w2:World} {s s2:ByteArray} {v v2:Value} {ap ap2:Bool} {f f2:Nat} {acc:List Pc} {p:Pc} (h:PsR l0 w wr s v ap f acc) (h2:Zmj l0 f2 ap2 s2.data.toList (acc++[p])) (hs:s2.size+1<=s.size)
 (ho:w2.ownsRow w.heap.size 158 4 v2 (acc.length+1) (Zxh acc++pc4 p)) (g:wr.grownBy w2 v.ownBlock):PsR l0 w w2 s2 v2 ap2 f2 (acc++[p]):=by
 have hsz:=h.sz
 have hlen:=h.len
 refine ⟨h2,by omega,?_,Zej h.gr g (fun q hq=>(World.ownsRow.lt h.row q hq).1),by simp;omega⟩
 unfold Ydw
 rw [Zxg,List.length_append]
 simpa [Zxh] using ho
theorem Zmv (s:ByteArray) (n:Nat):s.extract n s.size=bs (s.data.toList.drop n):=by
 rw [Xw,List.take_of_length_le (by rw [List.length_drop,Ye];exact Nat.le_refl _)]
theorem Ycg (s0:ByteArray) (hs:s0.size<=70000) (w:World) (hW:LibW w):Calls Tryz.prog 56 #[.string s0] w (Yub w (Zpm s0.data.toList)):=by
 have START:=Hq (Zqp s0.data.toList)
 obtain ⟨r,hr⟩:∃ r,r=Zpm s0.data.toList:=⟨_,rfl⟩
 rw [<- hr]
 have HR:=Hq hr
 have LW:=Hq hW
 clear hr hW
 obtain ⟨pi,pi0,pi1,pi2,pi3⟩:=info_parts Ych
 go_enter Tryz.func56,Tryz.ntmps56
 go_wp2
 go_loopw [0,4,5] (fun vl v va wr=>∃ s ap f acc,vl = .string s/\va = .bool ap/\PsR s0.data.toList w wr s v ap f acc) (fun vl _ _ _=>Zpx vl)
 case atStart=>exact ⟨s0,true,_,[],rfl,rfl,START.out,hs,World.ownsRow_nil _ _ _ _,Zb _ _,by simpa using hs⟩
 case round =>
  obtain ⟨s,ap,f,acc,rfl,rfl,hq⟩:=hrel
  obtain ⟨p,c,rfl⟩:=Zxi hq.row
  have hsz:=hq.sz
  have hlen:=hq.len
  have hsize:=hq.gr.size
  have Q:=Hq hq
  have hc3:acc.length+1<=maxLen:=by unfold maxLen;omega
  have hc4:(acc.length+1)*40<=140737488355328:=by omega
  clear hq
  by_cases h0:0<s.size
  · have hl:=Zuo s h0
    have AT:=Hq (hl ▸ Q.out.at_)
    have he:s.toList.isEmpty=false:=by rw [Lib.toList_data,hl];rfl
    have hw32:=Zdr (s[0]'h0)
    have hd1:(s.extract 1 s.size).data.toList=s.data.toList.drop 1:=by rw [Zmv,Xs]
    have hd2:(s.extract 1 s.size).size+1=s.size:=by rw [Zmv,Zl,List.length_drop,Ye];omega
    have b59:(((s[0]'h0).toNat:Int) == 59)=decide ((s[0]'h0).toNat=59):=by rw [Bool.eq_iff_iff];simp;omega
    have b32:(((s[0]'h0).toNat:Int) == 32)=decide ((s[0]'h0).toNat=32):=by rw [Bool.eq_iff_iff];simp;omega
    have b9:(((s[0]'h0).toNat:Int) == 9)=decide ((s[0]'h0).toNat=9):=by rw [Bool.eq_iff_iff];simp;omega
    have b13:(((s[0]'h0).toNat:Int) == 13)=decide ((s[0]'h0).toNat=13):=by rw [Bool.eq_iff_iff];simp;omega
    have b58:(((s[0]'h0).toNat:Int) == 58)=decide ((s[0]'h0).toNat=58):=by rw [Bool.eq_iff_iff];simp;omega
    by_cases h59:(s[0]'h0).toNat=59
    · have HU:=Hq (HR.out.trans (Zuf AT.out h59))
      rw [decide_eq_true h59] at b59
      clear b32 b9 b13 b58 h59
      go_wp2
      go_ret2
      refine ⟨?_,Q.out.gr⟩
      rw [HU.out]
      exact ⟨p,c,rfl,Q.out.row⟩
    rw [decide_eq_false h59] at b59
    by_cases hbl:(s[0]'h0).toNat=32\/(s[0]'h0).toNat=9\/(s[0]'h0).toNat=13
    · obtain ⟨g,hg⟩:=Zqr AT.out hbl
      have AN:=Hq (hd1.symm ▸ hg)
      rcases (by omega:(s[0]'h0).toNat=32\/((s[0]'h0).toNat≠32/\(s[0]'h0).toNat=9)\/((s[0]'h0).toNat≠32/\(s[0]'h0).toNat≠9/\(s[0]'h0).toNat=13)) with h|⟨h,h'⟩|⟨h,h',h''⟩
      · rw [decide_eq_true h] at b32
        clear b9 b13 b58 h59 hbl h hg hd1
        go_wp2
        exact ⟨⟨s.extract 1 s.size,true,g,acc,rfl,rfl,AN.out,by omega,Q.out.row,Q.out.gr,by omega⟩,by simp only [Zpx];omega⟩
      · rw [decide_eq_false h] at b32
        rw [decide_eq_true h'] at b9
        clear b13 b58 h59 hbl h h' hg hd1
        go_wp2
        exact ⟨⟨s.extract 1 s.size,true,g,acc,rfl,rfl,AN.out,by omega,Q.out.row,Q.out.gr,by omega⟩,by simp only [Zpx];omega⟩
      · rw [decide_eq_false h] at b32
        rw [decide_eq_false h'] at b9
        rw [decide_eq_true h''] at b13
        clear b58 h59 hbl h h' h'' hg hd1
        go_wp2
        exact ⟨⟨s.extract 1 s.size,true,g,acc,rfl,rfl,AN.out,by omega,Q.out.row,Q.out.gr,by omega⟩,by simp only [Zpx];omega⟩
    rw [decide_eq_false (show ¬ (s[0]'h0).toNat=32 by omega)] at b32
    rw [decide_eq_false (show ¬ (s[0]'h0).toNat=9 by omega)] at b9
    rw [decide_eq_false (show ¬ (s[0]'h0).toNat=13 by omega)] at b13
    by_cases h58:(s[0]'h0).toNat=58
    · obtain ⟨g,hg⟩:=Zqq AT.out h58
      have AN:=Hq (hd1.symm ▸ hg)
      rw [decide_eq_true h58] at b58
      have hE:∀ o,w.heap.size<=(wr.alloc o).heap.size:=fun o=>Zw hsize o
      clear h59 hbl h58 hg hd1
      go_wp2_with (at_builtin;refine wpList_append_own_at _ rfl _ _ 125 rfl w.heap.size 158 pi (.agg #[.int .i64 0,.string ⟨#[]⟩,.int .i64 0,.bool false]) 4 40 Zud pi0 pi1 pi2 pi3 rfl (by decide) (.slice p acc.length c) _ _ rfl (World.ownsRow.alloc Q.out.row _) ⟨wr.heap.size,0,none⟩ 1 1 (pc4 .colon) rfl rfl (Zcv wr _ _ _ _ _) (Zzw _) hc3 hc4 (hE _) ?_;intro v3 w5 hown3 hgr3 hnil3 hat3;obtain ⟨p3,k3,hv3⟩:=Zi hown3;subst hv3;have OW3:=Hq hown3;have GR3:=Hq hgr3;clear hown3 hgr3 hnil3 hat3)
      exact ⟨⟨s.extract 1 s.size,true,g,_,rfl,rfl,Zzq Q.out AN.out (by omega) OW3.out (Za (Ga _ _ _) GR3.out)⟩,by simp only [Zpx];omega⟩
    rw [decide_eq_false h58] at b58
    have BG:Zwb (s[0]'h0):=⟨h59,by omega,by omega,by omega,h58⟩
    have BEG:=Hq BG
    clear h59 hbl h58 BG hd1 hd2
    cases ap with
    | false =>
      have HU:=Hq (HR.out.trans (Zbv AT.out BEG.out))
      go_wp2
      go_ret2
      refine ⟨?_,Q.out.gr⟩
      rw [HU.out];rfl
    | true =>
      have O:=Hq (Zxk s Q.out.sz h0 wr (Ym LW.out Q.out.gr))
      cases ho:Zmm s.data.toList with
      | none =>
        rw [ho] at O
        have HU:=Hq (HR.out.trans (Zin AT.out BEG.out (by rw [<- hl];exact ho)))
        clear ho hl
        go_wp2_with (go_at_call 75;refine O.out.mono ?_;rintro e w2 ⟨⟨k1,t1,n1,f1,m1,rfl⟩,hg⟩;have G:=Hq hg;clear hg)
        go_ret2
        refine ⟨?_,Za Q.out.gr (Za G.out (Ga _ _ _))⟩
        rw [HU.out];rfl
      | some x =>
        obtain ⟨q,k⟩:=x
        rw [ho] at O
        have hb:=Zfe ho
        rw [Ye] at hb
        obtain ⟨g,hg⟩:=Zeg AT.out BEG.out (by rw [<- hl];exact ho)
        rw [<- hl] at hg
        have hd1:(s.extract k s.size).data.toList=s.data.toList.drop k:=by rw [Zmv,Xs]
        have AN:=Hq (hd1.symm ▸ hg)
        have hd2:(s.extract k s.size).size+1<=s.size:=by rw [Zmv,Zl,List.length_drop,Ye];omega
        have hk1:(k:Int)<=s.size:=by omega
        clear ho hl hg hb hd1
        go_upto_region 9 with (go_at_call 75;refine O.out.mono ?_;rintro e w2 ⟨rfl,hg⟩;have G:=Hq hg;clear hg)
        have G4:=Hq (Za G.out (Ga w2 (.cells #[.int .i64 (pcK q),.string (bs (pcT q)),.int .i64 (pcN q),.bool (pcF q)] 158) none))
        have B4:=Hq (Zal w2 (.int .i64 (pcK q)) (.string (bs (pcT q))) (.int .i64 (pcN q)) (.bool (pcF q)))
        generalize w2.alloc (.cells #[.int .i64 (pcK q),.string (bs (pcT q)),.int .i64 (pcN q),.bool (pcF q)] 158)=w4 at *
        generalize w2.heap.size=b4 at *
        obtain ⟨c0,c1,c2,c3,z0,z1,z2,z3⟩:=Xt B4.out
        have Q4:=Hq (Ylt Q.out G4.out)
        have hsize4:=Q4.out.gr.size
        have hE:∀ o,w.heap.size<=(w4.alloc o).heap.size:=fun o=>Zw hsize4 o
        go_wp2_with (at_builtin;refine wpList_append_own_at _ rfl _ _ 125 rfl w.heap.size 158 pi (.agg #[.int .i64 0,.string ⟨#[]⟩,.int .i64 0,.bool false]) 4 40 Zud pi0 pi1 pi2 pi3 rfl (by decide) (.slice p acc.length c) _ _ rfl (World.ownsRow.alloc Q4.out.row _) ⟨w4.heap.size,0,none⟩ 1 1 (pc4 q) rfl rfl (Zcv w4 _ _ _ _ _) (Zzw _) hc3 hc4 (hE _) ?_;intro v3 w5 hown3 hgr3 hnil3 hat3;obtain ⟨p3,k3,hv3⟩:=Zi hown3;subst hv3;have OW3:=Hq hown3;have GR3:=Hq hgr3;clear hown3 hgr3 hnil3 hat3)
        exact ⟨⟨s.extract k s.size,false,g,_,rfl,rfl,Zzq Q4.out AN.out (by omega) OW3.out (Za (Ga _ _ _) GR3.out)⟩,by simp only [Zpx];omega⟩
  · have hnil:s.data.toList=[]:=List.eq_nil_of_length_eq_zero (by rw [Ye];omega)
    have HU:=Hq (HR.out.trans (Zzv Q.out.at_ hnil))
    have he:s.toList.isEmpty=true:=by rw [Lib.toList_data,hnil];rfl
    clear hnil
    go_wp2
    go_ret2
    refine ⟨?_,Q.out.gr⟩
    rw [HU.out]
    exact ⟨p,c,rfl,Q.out.row⟩
structure Zjb (w0 w:World) (p m:Nat) (c:CS) (pend:Value) (vd vF vL vB:Value) (bm:Nat) (cv:List Value) (lb:List Nat):Prop where
 gr:w0.grownBy w none
 ge:w0.heap.size<=p
 box:w.heap[p]? = some (.cells #[.int .i64 c.mem,vd,vF,.bool c.ms,.map (some bm),vL,vB,pend] 70 (0,0))
 ins:Zmz w w0.heap.size c vd vF vL vB bm cv lb m
 lens:c.lm.length=c.funcs.length
def PS (w0 w:World) (p m:Nat) (c:CS) (pend:Value):Prop:=∃ vd vF vL vB bm cv lb,Zjb w0 w p m c pend vd vF vL vB bm cv lb
abbrev Zwf (e:Int):Value := .iface 41 (.int .i64 e)
def Zgw:Option Int->Value
 | none => .nilIface
 | some e => .iface 41 (.int .i64 e)
def amV (x:Option Int) (e:Int):Option Int:=match x with|none=>some e|some y=>if e=143 then some e else some y
theorem Zcb {w0 w w':World} {p m:Nat} {c:CS} {pend:Value} (h:PS w0 w p m c pend) (g:w.grownBy w' none):PS w0 w' p m c pend:=by
 obtain ⟨vd,vF,vL,vB,bm,cv,lb,h1,h2,h3,h4,h5⟩:=h
 exact ⟨vd,vF,vL,vB,bm,cv,lb,Za h1 g,h2,Zf h3 g (by simp),Zns h4 g,h5⟩
theorem Zkv {w0 w:World} {p m m':Nat} {c:CS} {pend:Value} (h:PS w0 w p m c pend) (hm:m<=m'):PS w0 w p m' c pend:=by
 obtain ⟨vd,vF,vL,vB,bm,cv,lb,h1,h2,h3,h4,h5⟩:=h
 exact ⟨vd,vF,vL,vB,bm,cv,lb,h1,h2,h3,Znr h4 hm,h5⟩
theorem Znt {w0 w:World} {p m:Nat} {c:CS} {pend pend' vd vF vL vB:Value} {bm:Nat} {cv:List Value} {lb:List Nat} (h:Zjb w0 w p m c pend vd vF vL vB bm cv lb) :
 PS w0 (w.setCell ⟨p,7,none⟩ pend') p m c pend'/\w.grownBy (w.setCell ⟨p,7,none⟩ pend') (some p) :=
 ⟨⟨vd,vF,vL,vB,bm,cv,lb,Zy h.gr h.ge,h.ge,by rw [Zj h.box];rfl,Zfq h.ins h.box (Zm w p 7 pend'),h.lens⟩,Zm w p 7 pend'⟩
def Ywf (w0 w:World) (p m:Nat) (c:CS) (x:Option Int) (e:Ending) (w':World):Prop:=e = .returned (.tuple #[])/\PS w0 w' p m c (Zgw x)/\w.grownBy w' (some p)
theorem Zpg (w0 w:World) (p m:Nat) (c:CS) (x:Option Int) (e:Int) (h:PS w0 w p m c (Zgw x)):Calls Tryz.prog 112 #[.pointer (some ⟨p,0,none⟩),.int .i64 e] w (Ywf w0 w p m c (amV x e)):=by
 have HS:=Hq h
 obtain ⟨vd,vF,vL,vB,bm,cv,lb,hA⟩:=h
 have A:=Hq hA
 have c7:=Cq w p 7 _ _ _ hA.box
 have z7:=frozen_of_row w p 7 _ _ hA.box
 have hlt:p<w.heap.size:=(Gs hA.box)
 clear hA
 cases x with
 | none =>
   simp only [Zgw] at c7
   have E1:=Hq (Znt (pend' := .iface 41 (.int .i64 e)) A.out)
   go_enter Tryz.func112,Tryz.ntmps112
   go_wp2
   go_end0
   exact ⟨rfl,E1.out.1,E1.out.2⟩
 | some y =>
   simp only [Zgw] at c7
   by_cases h3:e=143
   · have E1:=Hq (Znt (pend' := .iface 41 (.int .i64 143)) A.out)
     subst h3
     go_enter Tryz.func112,Tryz.ntmps112
     go_wp2
     go_end0
     exact ⟨rfl,E1.out.1,E1.out.2⟩
   · have b3:(e == 143)=false:=beq_eq_false_iff_ne.2 h3
     have hv:amV (some y) e=some y:=by simp [amV,h3]
     rw [hv]
     clear h3 hv
     go_enter Tryz.func112,Tryz.ntmps112
     go_wp2
     go_end0
     exact ⟨rfl,HS.out,Zb _ _⟩
theorem Zea {w0 w w':World} {p m:Nat} {c:CS} {pend:Value} (h:PS w0 w p m c pend) (g:w.grownBy w' (some p)):Fr w w':=by
 obtain ⟨vd,vF,vL,vB,bm,cv,lb,hA⟩:=h
 exact Zot hA.box (by decide) g
theorem Yls {w0 w:World} {p m:Nat} {c:CS} {pend:Value} (h:PS w0 w p m c pend):w0.heap.size<=p/\p<w.heap.size:=by
 obtain ⟨vd,vF,vL,vB,bm,cv,lb,hA⟩:=h
 exact ⟨hA.ge,(Gs hA.box)⟩
theorem Zdg {w0 w:World} {p m:Nat} {c:CS} {pend:Value} (h:PS w0 w p m c pend):w0.grownBy w none:=by
 obtain ⟨vd,vF,vL,vB,bm,cv,lb,hA⟩:=h
 exact hA.gr
theorem Yf {w w1 w2:World} {r r2:Option Nat} (h:w.grownBy w1 r) (g:w1.grownBy w2 r2) (hb:∀ k,r2=some k->w.heap.size<=k):w.grownBy w2 r :=
 ⟨g.os.trans h.os,g.tape.trans h.tape,g.output.trans h.output,Nat.le_trans h.size g.size,fun k hk hr=>(g.block k (Nat.lt_of_lt_of_le hk h.size) (fun e=>by have:=hb k e.symm;omega)).trans (h.block k hk hr)⟩
theorem Zzp {w0 w w':World} {p m:Nat} {c:CS} {pend:Value} {E':Nat} {t:TypeId} {sz n:Nat} {v:Value} {xs:List Value} (h:PS w0 w p m c pend) (ho:w.ownsRow E' t sz v n xs) (hE:w0.heap.size<=E')
 (ht:t≠5/\t≠61/\t≠58/\t≠66/\t≠131/\t≠70) (g:w.grownBy w' v.ownBlock):PS w0 w' p m c pend:=by
 obtain ⟨vd,vF,vL,vB,bm,cv,lb,h1,h2,h3,h4,h5⟩:=h
 obtain ⟨t1,t2,t3,t4,t5,t6⟩:=ht
 refine ⟨vd,vF,vL,vB,bm,cv,lb,Yf h1 g (fun k hk=>Nat.le_trans hE (ho.lt k hk).1),h2,?_,Zkw h4 g (fun t' sz v n xs ho' ht'=>Zh ho' (Zcc ho hE) (by intro e;rw [e] at ht';rcases ht' with h|h|h|h|h <;> contradiction)) (fun b f hm=>Xf hm ho),h5⟩
 exact Zf h3 g (Zn ho h3 t6)
def Zkh (w:World) (p:Option Addr) (ps:List Pc):Prop:=0<ps.length->∃ (b o:Nat) (cs:Array Value) (fz:Nat × Nat),p=some ⟨b,o,none⟩/\w.heap[b]? = some (.cells cs 158 fz)/\∀ (i:Nat) (q:Pc),ps[i]? = some q ->
 cs[o+i*4]? = some (.int .i64 (pcK q))/\cs[o+i*4+1]? = some (.string (bs (pcT q)))/\cs[o+i*4+2]? = some (.int .i64 (pcN q))/\cs[o+i*4+3]? = some (.bool (pcF q))
theorem Zak {w w':World} {p:Option Addr} {ps:List Pc} (h:Zkh w p ps) (g:Fr w w'):Zkh w' p ps:=fun h0=>by
 obtain ⟨b,o,cs,fz,e,hb,hc⟩:=h h0
 exact ⟨b,o,cs,fz,e,(g.keep b _ _ _ hb (Or.inl rfl)).trans hb,hc⟩
theorem Jb {w:World} {p:Option Addr} {ps:List Pc} (h:Zkh w p ps) {i:Nat} {q:Pc} (hi:ps[i]? = some q):∃ b o,p=some ⟨b,o,none⟩/\b<w.heap.size /\
 w.cell? ⟨b,o+i*4,none⟩=some (.int .i64 (pcK q))/\w.cell? ⟨b,o+i*4+1,none⟩=some (.string (bs (pcT q)))/\w.cell? ⟨b,o+i*4+2,none⟩=some (.int .i64 (pcN q))/\w.cell? ⟨b,o+i*4+3,none⟩=some (.bool (pcF q)):=by
 obtain ⟨b,o,cs,fz,e,hb,hc⟩:=h (by have:=(List.getElem?_eq_some_iff.1 hi).1;omega)
 obtain ⟨h0,h1,h2,h3⟩:=hc i q hi
 have key:∀ j,w.cell? ⟨b,j,none⟩=cs[j]? := fun j=>by unfold World.cell?;simp [hb]
 exact ⟨b,o,e,(Gs hb),(key _).trans h0,(key _).trans h1,(key _).trans h2,(key _).trans h3⟩
theorem Zue {w:World} {b o k:Nat} {ps:List Pc} (h:Zkh w (some ⟨b,o,none⟩) ps):Zkh w (some ⟨b,o+k*4,none⟩) (ps.drop k):=fun h0=>by
 rw [List.length_drop] at h0
 obtain ⟨b',o',cs,fz,e,hb,hc⟩:=h (by omega)
 injection e with e;injection e with e1 e2
 subst e1;subst e2
 refine ⟨b,_,cs,fz,rfl,hb,fun i q hi => ?_⟩
 rw [List.getElem?_drop] at hi
 have:=hc (k+i) q hi
 rw [show o+k*4+i*4=o+(k+i)*4 by omega]
 exact this
theorem Zsd {w:World} {E:Nat} {p:Option Addr} {c:Nat} {ps:List Pc} (h:Ydw w E (.slice p ps.length c) ps):Zkh w p ps:=fun h0=>by
 rcases h.2 with ⟨_,h1⟩|⟨g,cap,cur,hv,_,hg,hn,hm,hs,ht⟩
 · omega
 · injection hv with hv _ _
   refine ⟨g,0,cur,_,hv,hg,fun i q hi => ?_⟩
   have hil:=(List.getElem?_eq_some_iff.1 hi).1
   obtain ⟨a0,a1,a2,a3⟩:=Zzu ps i q hi
   have key:∀ j v,(Zxh ps)[j]? = some v->cur[j]? = some v:=fun j v hj=>by
    rw [<- ht] at hj
    rw [List.getElem?_take] at hj
    split at hj
    · rw [<- Array.getElem?_toList];exact hj
    · cases hj
   rw [Nat.zero_add]
   exact ⟨key _ _ a0,key _ _ a1,key _ _ a2,key _ _ a3⟩
def Zps:Pc->Bool
 | .num _ _=>true
 | _=>false
def Ydf:Pc->Bool
 | .num _ b=>b
 | _=>false
def Zff (ps:List Pc) (n:Nat):Option (List Int):=if ps.length=n/\ps.all Zps=true then some (ps.map pcN) else none
def Zpe (x:Option Int) (ps:List Pc):Option Int:=if ps.any Ydf=true then some 143 else x
theorem Yts (x:Option Int):amV x 143=some 143:=by cases x <;> rfl
theorem Yjo {x:Option Int} {ps:List Pc} {k:Nat} {q:Pc} (h:ps[k]? = some q):Zpe x (ps.take (k+1))=if Ydf q then some 143 else Zpe x (ps.take k):=by
 unfold Zpe
 rw [List.take_add_one,h,List.any_append]
 cases hq:Ydf q <;> simp [hq]
def Ybm (w:World) (E:Nat) (v:Value) (xs:List Int):Prop:=w.ownsRow E 3 1 v xs.length (xs.map (Value.int .i64))
def Zkf (w0 w:World) (p m:Nat) (c:CS) (x:Option Int) (ps:List Pc) (n:Nat) (e:Ending) (w':World):Prop :=
 (match Zff ps n with
   | some xs=>∃ q k,e = .returned (.tuple #[.slice q xs.length k,.nilIface])/\Ybm w' w.heap.size (.slice q xs.length k) xs/\PS w0 w' p m c (Zgw (Zpe x ps))
   | none=>e = .returned (.tuple #[.slice none 0 0,Zwf 141])/\∃ x',PS w0 w' p m c (Zgw x'))/\w.grownBy w' (some p)
theorem Zsj (w:World) (o:Obj) (x:Value) (t:TypeId):∀ j u,[x][j]? = some u->((w.alloc o).alloc (.cells #[x] t)).cell? ((⟨w.heap.size+1,0,none⟩:Addr).add j)=some u:=by
 have h:=Zcd (w.alloc o) x t
 rw [World.size_alloc] at h
 exact h
theorem Zoe {q:Pc} (h:Zps q=true):pcK q=1:=by cases q <;> simp [Zps] at h <;> rfl
theorem Ync {q:Pc} (h:Zps q=false):(pcK q != 1)=true:=by cases q <;> simp [Zps] at h <;> rfl
theorem Yhz {q:Pc} (h:Zps q=true):pcF q = !Ydf q:=by cases q <;> simp [Zps] at h <;> rfl
theorem Zio (w0 w:World) (p m:Nat) (c:CS) (x:Option Int) (ps:List Pc) (pp:Option Addr) (cc n:Nat) (h:PS w0 w p m c (Zgw x)) (hp:Zkh w pp ps) (hn:ps.length<=70000) (hn2:n<=10) :
 Calls Tryz.prog 113 #[.pointer (some ⟨p,0,none⟩),.slice pp ps.length cc,.int .i64 n] w (Zkf w0 w p m c x ps n):=by
 have HS:=Hq h
 have HP:=Hq hp
 clear h hp
 by_cases hl:ps.length=n
 · have AM:=Hq (fun (wr:World) x'=>Zpg w0 wr p m c x' 143)
   obtain ⟨ni,ni0,ni1,ni2,ni3⟩:=info_parts Yne
   have hni:(ps.length:Int)=n:=by omega
   go_enter Tryz.func113,Tryz.ntmps113
   subst hl
   go_wp2
   go_loopw [8,18] (fun v i wr=>∃ k:Nat,i = .int .i64 k/\k<=ps.length/\(ps.take k).all Zps=true/\wr.ownsRow w.heap.size 3 1 v k (((ps.take k).map pcN).map (Value.int .i64))/\PS w0 wr p m c (Zgw (Zpe x (ps.take k)))/\w.grownBy wr (some p)) (fun _ i _=>ps.length - (intOf i).toNat)
   case atStart=>exact ⟨0,rfl,Nat.zero_le _,rfl,World.ownsRow_nil _ _ _ _,by simpa [Zpe] using HS.out,Zb _ _⟩
   case round =>
    obtain ⟨k,rfl,hk,hall,ho,hps,hg⟩:=hrel
    obtain ⟨q1,k1,rfl⟩:=Zi ho
    have OW:=Hq ho
    have SP:=Hq hps
    have GR:=Hq hg
    have AL:=Hq hall
    have PT:=Hq (Zak HP.out (Zea HS.out hg))
    clear hall ho hps hg
    by_cases hlt:k<ps.length
    · obtain ⟨q,hq⟩:∃ q,ps[k]? = some q:=⟨_,List.getElem?_eq_getElem hlt⟩
      obtain ⟨b,o,rfl,hb,c0,c1,c2,c3⟩:=Jb PT.out hq
      have HQ:=Hq hq
      clear hq
      cases hnum:Zps q with
      | false =>
        have hk1:=Ync hnum
        have HN:=Hq (show Zff ps ps.length=none by
         unfold Zff
         rw [if_neg]
         rintro ⟨_,h2⟩
         rw [List.all_eq_true] at h2
         have:=h2 q (List.mem_of_getElem? HQ.out)
         rw [hnum] at this;cases this)
        generalize pcK q=v0 at *
        generalize bs (pcT q)=v1 at *
        generalize pcN q=v2 at *
        generalize pcF q=v3 at *
        clear hnum
        go_wp2
        go_ret2
        refine ⟨?_,Za GR.out (Ga _ _ _)⟩
        rw [HN.out]
        exact ⟨rfl,_,Zcb SP.out (Ga _ _ _)⟩
      | true =>
        have hk1:=Zoe hnum
        have hk3:=Yhz hnum
        have hst:=Yjo (x:=x) HQ.out
        have HX:=Hq hst
        have HALL:=Hq (show (ps.take (k+1)).all Zps=true by
         rw [List.take_add_one,HQ.out,List.all_append,AL.out]
         simp [hnum])
        have HVAL:=Hq (show ((ps.take (k+1)).map pcN).map (Value.int .i64)=((ps.take k).map pcN).map (Value.int .i64)++[.int .i64 (pcN q)] by
         rw [List.take_add_one,HQ.out];simp)
        have hpl:=Yls HS.out
        have hpl2:=Yls SP.out
        have hgs:=GR.out.size
        have hc3:k+1<=maxLen:=by unfold maxLen;omega
        have hc4:(k+1)*8<=140737488355328:=by omega
        clear hst
        cases hbig:Ydf q with
        | false =>
          rw [hbig] at hk3
          have HX2:=Hq (show Zpe x (ps.take (k+1))=Zpe x (ps.take k) by rw [HX.out,hbig];rfl)
          rw [hk1] at c0
          rw [hk3] at c3
          have hE:∀ o' o'',w.heap.size<=((wr.alloc o').alloc o'').heap.size:=fun o' o''=>by simp;omega
          generalize bs (pcT q)=v1 at *
          generalize pcN q=v2 at *
          clear hnum hk1 hk3 hbig HX
          go_wp2_with (at_builtin;refine wpList_append_own_at _ rfl _ _ 93 rfl w.heap.size 3 ni (.int .i64 0) 1 8 Yia ni0 ni1 ni2 ni3 rfl (by decide) (.slice q1 k k1) _ _ rfl (World.ownsRow.alloc (World.ownsRow.alloc OW.out _) _) ⟨wr.heap.size+1,0,none⟩ 1 1 [.int .i64 _] rfl rfl (Zsj wr _ _ _) (Zah _ _) hc3 hc4 (hE _ _) ?_;intro v3 w5 hown3 hgr3 hnil3 hat3;obtain ⟨p3,k3,hv3⟩:=Zi hown3;subst hv3;have OW3:=Hq hown3;have GR3:=Hq hgr3;clear hown3 hgr3 hnil3 hat3)
          exact ⟨⟨k+1,by go_num,by omega,HALL.out,by rw [HVAL.out];exact OW3.out,by rw [HX2.out];exact Zzp (Zcb SP.out (Za (Ga wr _ none) (Ga _ _ none))) (World.ownsRow.alloc (World.ownsRow.alloc OW.out _) _) (Zdg HS.out).size (by decide) GR3.out,Yf (Za GR.out (Zon (Za (Ga wr _ none) (Ga _ _ none)))) GR3.out (fun q hq=>(World.ownsRow.lt OW.out q hq).1)⟩,by simp [intOf];omega⟩
        | true =>
          rw [hbig] at hk3
          have HX2:=Hq (show Zgw (amV (Zpe x (ps.take k)) 143)=Zgw (Zpe x (ps.take (k+1))) by rw [HX.out,hbig,Yts];rfl)
          rw [hk1] at c0
          rw [hk3] at c3
          have hpne:(some p:Option Nat)≠some wr.heap.size:=by intro e;injection e with e;omega
          have HPN:=Hq hpne
          generalize bs (pcT q)=v1 at *
          generalize pcN q=v2 at *
          clear hnum hk1 hk3 hbig HX hpne
          go_wp2_with (first
           | (go_at_call 112;refine (AM.out _ _ (Zcb SP.out (Ga wr _ none))).mono ?_;rintro e w2 ⟨rfl,hps2,hg2⟩;have S2:=Hq (HX2.out ▸ hps2);have G2:=Hq hg2;have B2:=Hq (Xi (Zal wr _ _ _ _) hg2 HPN.out);have O2:=Hq ((World.ownsRow.alloc OW.out _).kept hg2 (Znw OW.out hpl.2));obtain ⟨d0,d1,d2,d3,y0,y1,y2,y3⟩:=Xt B2.out;have hl2:=Zse B2.out;have hE2:∀ o',w.heap.size<=(w2.alloc o').heap.size:=(fun o'=>Zw (by omega) o');clear hps2 hg2)
           | (at_builtin;refine wpList_append_own_at _ rfl _ _ 93 rfl w.heap.size 3 ni (.int .i64 0) 1 8 Yia ni0 ni1 ni2 ni3 rfl (by decide) (.slice q1 k k1) _ _ rfl (World.ownsRow.alloc O2.out _) ⟨w2.heap.size,0,none⟩ 1 1 [.int .i64 _] rfl rfl (Zcd w2 _ _) (Zah _ _) hc3 hc4 (hE2 _) ?_;intro v3 w5 hown3 hgr3 hnil3 hat3;obtain ⟨p3,k3,hv3⟩:=Zi hown3;subst hv3;have OW3:=Hq hown3;have GR3:=Hq hgr3;clear hown3 hgr3 hnil3 hat3))
          exact ⟨⟨k+1,by go_num,by omega,HALL.out,by rw [HVAL.out];exact OW3.out,Zzp (Zcb S2.out (Ga w2 _ none)) (World.ownsRow.alloc O2.out _) (Zdg HS.out).size (by decide) GR3.out,Yf (Za (Za (Za GR.out (Zon (Ga wr _ none))) G2.out) (Zon (Ga _ _ none))) GR3.out (fun q hq=>(World.ownsRow.lt OW.out q hq).1)⟩,by simp [intOf];omega⟩
    · have hkn:k=ps.length:=by omega
      subst hkn
      have HN:=Hq (show Zff ps ps.length=some (ps.map pcN) by
       unfold Zff
       have:=AL.out
       rw [List.take_length] at this
       rw [if_pos ⟨rfl,this⟩])
      have HO:=Hq (show Ybm wr w.heap.size (.slice q1 (ps.map pcN).length k1) (ps.map pcN) by
       have:=OW.out
       rw [List.take_length] at this
       unfold Ybm
       rw [List.length_map];exact this)
      have HB:=Hq (show PS w0 wr p m c (Zgw (Zpe x ps)) by have:=SP.out;rw [List.take_length] at this;exact this)
      clear hlt
      go_wp2
      go_ret2
      refine ⟨?_,GR.out⟩
      rw [HN.out]
      exact ⟨q1,k1,by rw [List.length_map];rfl,HO.out,HB.out⟩
 · have HN:=Hq (show Zff ps n=none by unfold Zff;rw [if_neg (fun h=>hl h.1)])
   have hb:((ps.length:Int) != (n:Int))=true:=by rw [bne_iff_ne];omega
   clear hl
   go_enter Tryz.func113,Tryz.ntmps113
   go_wp2
   go_ret2
   refine ⟨?_,Zb _ _⟩
   rw [HN.out]
   exact ⟨rfl,x,HS.out⟩
def Yta (n:Nat):UInt8:=if n<10 then UInt8.ofNat (48+n) else UInt8.ofNat (87+n)
def Zwd (c:UInt8):Txt:=if c.toNat=34\/c.toNat=92 then [92,c] else if c.toNat<32\/126<c.toNat then [92,120,Yta (c.toNat / 16),Yta (c.toNat % 16)] else [c]
def Yce (b:Txt):Txt:=34::(b.flatMap Zwd++[34])
def Zgh (op:Int):Txt:=match Yx op with|some s=>s.1.data.toList|none=>[]
def Zai (op:Int):Int:=match Yx op with|some s=>s.2.1|none=>0
def Ywi (a:Int):Txt:=match callT[a.toNat]? with|some r=>r.1.data.toList|none=>[]
def Zgg (nF nC:Nat) (kind a:Int):Txt :=
 if kind=0 then []
 else if kind=3/\a<=nC then 32::76::Lib.itoa a
 else if kind=4/\a<nF then 32::102::Lib.itoa a
 else if kind=5 then 32::Ywi a
 else 32::Lib.itoa a
def Zdd (code:List (Int × Int)) (k:Nat):Bool:=code.any fun x=>Zai x.1 == 3 && x.2 == (k:Int)
def Zmu (code:List (Int × Int)) (k:Nat):Txt:=if Zdd code k then 76::(Lib.itoa k++[58,10]) else []
def Zmb (nF nC:Nat) (x:Int × Int):Txt:=9::(Zgh x.1++Zgg nF nC (Zai x.1) x.2++[10])
def plT (nF:Nat) (code:List (Int × Int)) (k:Nat):Txt:=Zmu code k++(match code[k]? with|some x=>Zmb nF code.length x|none=>[])
def Zby (nF:Nat) (code:List (Int × Int)) (n:Nat):Txt:=(List.range n).flatMap (plT nF code)
def Jy (k:Nat) (f:FnR):Txt:=[102,117,110,99,32,102]++Lib.itoa k++[32]++Lib.itoa f.1++[32]++Lib.itoa f.2.1++[32]++Lib.itoa f.2.2.1++[10]
def fnT (nF k:Nat) (f:FnR):Txt:=Jy k f++Zby nF f.2.2.2 (f.2.2.2.length+1)
def Zdn (fs:List FnR) (n:Nat):Txt:=(List.range n).flatMap fun k=>match fs[k]? with|some f=>fnT fs.length k f|none=>[]
def Zgn (mem:Int) (d:Txt):Txt:=[109,101,109,111,114,121,32]++Lib.itoa mem++[10]++(if d=[] then [] else [100,97,116,97,32]++Yce d++[10])
def Zky (p:PrP):Txt:=Zgn p.1 p.2.1++Zdn p.2.2 p.2.2.length
def Zqn (p:PrP):Except Int Txt :=
 if Jl p.1 p.2.1.length p.2.2≠0 then .error (Jl p.1 p.2.1.length p.2.2)
 else if 65536<(Zky p).length then .error 2
 else .ok (Zky p)
theorem Zfi (nF:Nat) (code:List (Int × Int)) (n:Nat):Zby nF code (n+1)=Zby nF code n++plT nF code n:=by
 unfold Zby;rw [List.range_succ,List.flatMap_append];simp
theorem Zvc {fs:List FnR} {n:Nat} {f:FnR} (h:fs[n]? = some f):Zdn fs (n+1)=Zdn fs n++fnT fs.length n f:=by
 unfold Zdn;rw [List.range_succ,List.flatMap_append];simp [h]
theorem Zvd (fs:List FnR):∀ (m n:Nat),(Zdn fs n).length<=(Zdn fs (n+m)).length
 | 0,n=>Nat.le_refl _
 | m+1,n=>by
   have h:=Zvd fs m n
   have e:Zdn fs (n+(m+1))=Zdn fs (n+m)++(match fs[n+m]? with|some f=>fnT fs.length (n+m) f|none=>[]):=by
    unfold Zdn;rw [<- Nat.add_assoc,List.range_succ,List.flatMap_append];simp
   rw [e,List.length_append];omega
theorem Ylq {c:UInt8} (h:c.toNat=34\/c.toNat=92):Zwd c=[92,c]:=if_pos h
theorem Ylp {c:UInt8} (h:¬ (c.toNat=34\/c.toNat=92)) (h2:c.toNat<32\/126<c.toNat):Zwd c=[92,120,Yta (c.toNat / 16),Yta (c.toNat % 16)]:=(if_neg h).trans (if_pos h2)
theorem Yln {c:UInt8} (h:¬ (c.toNat=34\/c.toNat=92)) (h2:¬ (c.toNat<32\/126<c.toNat)):Zwd c=[c]:=(if_neg h).trans (if_neg h2)
theorem Ylo (c:UInt8):(Zwd c).length<=4:=by
 unfold Zwd
 split
 · simp
 · split <;> simp
theorem Znp:∀ (b:Txt),(b.flatMap Zwd).length<=4*b.length
 | []=>Nat.le_refl _
 | c::r=>by
   have h1:=Ylo c
   have h2:=Znp r
   rw [List.flatMap_cons,List.length_append,List.length_cons];omega
theorem Yeu (b:Txt) (k:Nat) (c:UInt8) (h:b[k]? = some c):(b.take (k+1)).flatMap Zwd=(b.take k).flatMap Zwd++Zwd c:=by
 rw [List.take_add_one,h,List.flatMap_append];simp
theorem Ygu (nF nC:Nat) (a:Int):Zgg nF nC 0 a=[]:=if_pos rfl
theorem Ygv {nF nC:Nat} {a:Int} (h:a<=nC):Zgg nF nC 3 a=[32,76]++Lib.itoa a:=(if_neg (by decide)).trans (if_pos ⟨rfl,h⟩)
theorem Yry {nF nC:Nat} {a:Int} (h:a<nF):Zgg nF nC 4 a=[32,102]++Lib.itoa a:=(if_neg (by decide)).trans ((if_neg (fun h=>absurd h.1 (by decide))).trans (if_pos ⟨rfl,h⟩))
theorem Ymg {nF nC n:Nat} {r:ShR} (h:callT[n]? = some r):Zgg nF nC 5 n=[32]++r.1.data.toList:=by
 refine (if_neg (by decide)).trans ((if_neg (fun h=>absurd h.1 (by decide))).trans ((if_neg (fun h=>absurd h.1 (by decide))).trans ((if_pos rfl).trans ?_)))
 unfold Ywi
 rw [Int.toNat_natCast,h];rfl
theorem Zsh {nF nC:Nat} {k a:Int} (h0:k≠0) (h3:k=3->¬ a<=nC) (h4:k=4->¬ a<nF) (h5:k≠5):Zgg nF nC k a=[32]++Lib.itoa a :=
 (if_neg h0).trans ((if_neg (fun h=>h3 h.1 h.2)).trans ((if_neg (fun h=>h4 h.1 h.2)).trans (if_neg h5)))
end Go.Proofs.YteciblfmgdlipaaGreatDoor.AS
