/-
  Part of a proof: contracts of functions and lemmas, each stated by its own theorem. Conditions: as each theorem states.
-/
import Derived.Test.YteciblfmgdlipaaGreatDoorMI00
import Derived.Shelf.Strconv.ParseUint10
import Derived.Laws.BytesArg
import Derived.Test.YteciblfmgdlipaaGreatDoorMI02
import Derived.Test.YteciblfmgdlipaaGreatDoorMI01
set_option linter.unusedSimpArgs false
set_option linter.unusedVariables false
set_option maxRecDepth 100000
set_option maxHeartbeats 16000000
namespace Go.Proofs.YteciblfmgdlipaaGreatDoor.AS
open Go.RowKit Go.Great CK
theorem Zun (x:Nat) (h0:97<=x) (h1:x<=102):bits .or .u8 (x:Int) 32=(x:Int):=by
 rcases (by omega:x=97\/x=98\/x=99\/x=100\/x=101\/x=102) with h|h|h|h|h|h <;> subst h <;> decide
theorem Zuz {b:UInt8} {d:Nat} (h:Zhu b=some d):(48<=b.toNat/\b.toNat<=57/\d+48=b.toNat)\/(97<=b.toNat/\b.toNat<=102/\d+87=b.toNat):=by
 unfold Zhu at h
 split at h
 · injection h;omega
 · split at h
   · injection h;omega
   · cases h
theorem Yxg (t:ByteArray) (hne:t.size≠0) (hlen:t.size<=16) (h:Zmc t.data.toList=true) (v:Nat) (hv:Yz 0 t.data.toList=some v) (w:World) :
 Calls Tryz.prog 162 #[.string t,.int .i64 16,.int .i64 64] w fun e w'=>e = .returned (.tuple #[.int .u64 (v:Int),.nilIface])/\w'=Lib.bytesWorld w 5 t:=by
 have hmax:(16:Nat) ^ t.size<=18446744073709551616:=Nat.le_trans (Nat.pow_le_pow_right (by decide) hlen) (by decide)
 have hcv:=Lib.run_convert_string_bytes (P:=Tryz.prog) w 9 23 5 t (u := .string) (by kernel_rfl) (by kernel_rfl) (by kernel_rfl)
 have hB:∀ j,j<t.size->(Lib.bytesWorld w 5 t).cell? ⟨w.heap.size,j,none⟩=some (.int .u8 (t.data.toList.getD j 0).toNat):=fun j hj=>Lib.bytesWorld_cell w 5 t j hj
 have hemp:t.toList.isEmpty=false:=by
  rw [<- decide_eq_emptyBytes]
  exact decide_eq_false (fun h=>hne (by rw [h];rfl))
 obtain ⟨W1,hW1⟩:∃ W1,W1=Lib.bytesWorld w 5 t:=⟨_,rfl⟩
 rw [<- hW1] at hcv hB ⊢
 clear hW1
 obtain ⟨ls,hL⟩:∃ ls,ls=t.data.toList:=⟨_,rfl⟩
 have hLn:ls.length=t.size:=by rw [hL,Lib.size_eq]
 rw [<- hL] at hB h hv
 clear hL
 have HX:=Hq h
 have HV:=Hq hv
 clear h hv
 have hmv:IntKind.u64.wrap (IntKind.u64.wrap 18446744073709551616 - 1)=18446744073709551615:=by
  rw [IntKind.wrap_u64,IntKind.wrap_u64]
  decide
 go_enter Tryz.func162,Tryz.ntmps162
 go_wp2
 go_loop [12,13,101] (fun vu vn vi=>∃ (k acc:Nat) (a:Int),vu = .bool false/\vn = .int .u64 a/\vi = .int .i64 k/\k<=t.size/\Hid (a=(acc:Int)/\acc<16 ^ k/\Yz 0 ls=Yz acc (ls.drop k)))
  (fun _ _ vi=>t.size - (intOf vi).toNat)
 case atStart=>exact ⟨0,0,0,rfl,rfl,rfl,by omega,rfl,by simp,rfl⟩
 case round =>
  obtain ⟨k,acc,a,rfl,rfl,rfl,hk,hh⟩:=hrel
  obtain ⟨ha,hacc,hdec⟩:=hh.out
  clear hh
  by_cases hkn:k<t.size
  · have hc:=hB k hkn
    have hdrop:ls[k]? = some (ls[k]'(by omega)):=List.getElem?_eq_getElem (by omega)
    have hget:ls.getD k 0=ls[k]'(by omega):=by simp [List.getD,List.getElem?_eq_getElem (show k<ls.length by omega)]
    have hmem:(Zhu (ls[k]'(by omega))).isSome=true:=by
     have:=HX.out
     unfold Zmc at this
     rw [List.all_eq_true] at this
     exact this _ (List.getElem_mem _)
    rw [hget] at hc
    generalize ls[k]'(by omega)=c at hc hdrop hmem
    obtain ⟨d,hd⟩:=Option.isSome_iff_exists.1 hmem
    have hst:=Zha (a:=acc) hdrop hd
    have hd16:=Zlj hd
    have hways:=Zuz hd
    have hc256:c.toNat<256:=c.toNat_lt
    have hpow:16 ^ (k+1)=16*16 ^ k:=by rw [Nat.pow_succ];omega
    have hnew:16*acc+d<16 ^ (k+1):=by omega
    have hlim:16 ^ (k+1)<=16 ^ t.size:=Nat.pow_le_pow_right (by decide) (by omega)
    have hM:16*acc+d<=18446744073709551615:=by omega
    have b0:0<=a:=by omega
    have b1:a<1152921504606846976:=by omega
    have hN2:(16:Int)*a+(d:Int)=((16*acc+d:Nat):Int):=by omega
    have HN:Hid (a*16+(d:Int)=((16*acc+d:Nat):Int)/\16*acc+d<16 ^ (k+1)/\Yz 0 ls=Yz (16*acc+d) (ls.drop (k+1))):=Hq ⟨by omega,hnew,hdec.trans hst⟩
    have b2:a*16+(d:Int)<=18446744073709551615:=by omega
    have b3:0<=(d:Int):=by omega
    have b4:(d:Int)<16:=by omega
    clear hB hdrop hget hmem hst hnew hlim hpow hM hN2 hacc hdec ha hd hd16
    rcases hways with ⟨w1,w2,w3⟩|⟨w1,w2,w3⟩
    · have e1:(c.toNat:Int)=(d:Int)+48:=by omega
      rw [e1] at hc
      have w4:(d:Int)<10:=by omega
      clear e1 w1 w2 w3 hc256
      go_wp2
      refine ⟨⟨k+1,16*acc+d,a*16+(d:Int),rfl,(by first|rfl|(congr 1;omega)),(by first|rfl|(congr 1;omega)),by omega,HN⟩,by simp [intOf];omega⟩
    · have hlow:=Zun c.toNat w1 w2
      have e1:(c.toNat:Int)=(d:Int)+87:=by omega
      rw [e1] at hc hlow
      have w4:10<=(d:Int):=by omega
      have w5:(d:Int)+87 - 97+10=(d:Int):=by omega
      have HLO:=Hq hlow
      clear e1 w1 w2 w3 hc256 hlow
      go_wp2_with (go_at_call 174;refine (Tryz.internal_strconv_lower _ _).mono ?_;rintro e w' ⟨rfl,rfl⟩;rw [HLO.out])
      refine ⟨⟨k+1,16*acc+d,a*16+(d:Int),rfl,(by first|rfl|(congr 1;omega)),(by first|rfl|(congr 1;omega)),by omega,HN⟩,by simp [intOf];omega⟩
  · have hkk:k=t.size:=by omega
    subst hkk
    have hfin:Yz acc (ls.drop t.size)=some acc:=by rw [List.drop_eq_nil_of_le (by omega)];rfl
    have hva:v=acc:=by
     have:=HV.out
     rw [hdec,hfin] at this
     injection this with this;exact this.symm
    have hra:a=(v:Int):=by rw [hva];exact ha
    subst hra
    clear hacc hfin hdec hva ha
    go_wp2
    go_ret2
    exact ⟨rfl,rfl⟩
theorem Yyj (t:ByteArray) (hne:t.size≠0) (hlen:t.size<=2) (h:Zmc t.data.toList=true) (v:Nat) (hv:Yz 0 t.data.toList=some v) (w:World) :
 Calls Tryz.prog 162 #[.string t,.int .i64 16,.int .i64 8] w fun e w'=>e = .returned (.tuple #[.int .u64 (v:Int),.nilIface])/\w'=Lib.bytesWorld w 5 t:=by
 have hmax:(16:Nat) ^ t.size<=256:=Nat.le_trans (Nat.pow_le_pow_right (by decide) hlen) (by decide)
 have hcv:=Lib.run_convert_string_bytes (P:=Tryz.prog) w 9 23 5 t (u := .string) (by kernel_rfl) (by kernel_rfl) (by kernel_rfl)
 have hB:∀ j,j<t.size->(Lib.bytesWorld w 5 t).cell? ⟨w.heap.size,j,none⟩=some (.int .u8 (t.data.toList.getD j 0).toNat):=fun j hj=>Lib.bytesWorld_cell w 5 t j hj
 have hemp:t.toList.isEmpty=false:=by
  rw [<- decide_eq_emptyBytes]
  exact decide_eq_false (fun h=>hne (by rw [h];rfl))
 obtain ⟨W1,hW1⟩:∃ W1,W1=Lib.bytesWorld w 5 t:=⟨_,rfl⟩
 rw [<- hW1] at hcv hB ⊢
 clear hW1
 obtain ⟨ls,hL⟩:∃ ls,ls=t.data.toList:=⟨_,rfl⟩
 have hLn:ls.length=t.size:=by rw [hL,Lib.size_eq]
 rw [<- hL] at hB h hv
 clear hL
 have HX:=Hq h
 have HV:=Hq hv
 clear h hv
 have hmv:IntKind.u64.wrap (IntKind.u64.wrap 18446744073709551616 - 1)=18446744073709551615:=by
  rw [IntKind.wrap_u64,IntKind.wrap_u64]
  decide
 go_enter Tryz.func162,Tryz.ntmps162
 go_wp2
 go_loop [12,13,101] (fun vu vn vi=>∃ (k acc:Nat) (a:Int),vu = .bool false/\vn = .int .u64 a/\vi = .int .i64 k/\k<=t.size/\Hid (a=(acc:Int)/\acc<16 ^ k/\Yz 0 ls=Yz acc (ls.drop k)))
  (fun _ _ vi=>t.size - (intOf vi).toNat)
 case atStart=>exact ⟨0,0,0,rfl,rfl,rfl,by omega,rfl,by simp,rfl⟩
 case round =>
  obtain ⟨k,acc,a,rfl,rfl,rfl,hk,hh⟩:=hrel
  obtain ⟨ha,hacc,hdec⟩:=hh.out
  clear hh
  by_cases hkn:k<t.size
  · have hc:=hB k hkn
    have hdrop:ls[k]? = some (ls[k]'(by omega)):=List.getElem?_eq_getElem (by omega)
    have hget:ls.getD k 0=ls[k]'(by omega):=by simp [List.getD,List.getElem?_eq_getElem (show k<ls.length by omega)]
    have hmem:(Zhu (ls[k]'(by omega))).isSome=true:=by
     have:=HX.out
     unfold Zmc at this
     rw [List.all_eq_true] at this
     exact this _ (List.getElem_mem _)
    rw [hget] at hc
    generalize ls[k]'(by omega)=c at hc hdrop hmem
    obtain ⟨d,hd⟩:=Option.isSome_iff_exists.1 hmem
    have hst:=Zha (a:=acc) hdrop hd
    have hd16:=Zlj hd
    have hways:=Zuz hd
    have hc256:c.toNat<256:=c.toNat_lt
    have hpow:16 ^ (k+1)=16*16 ^ k:=by rw [Nat.pow_succ];omega
    have hnew:16*acc+d<16 ^ (k+1):=by omega
    have hlim:16 ^ (k+1)<=16 ^ t.size:=Nat.pow_le_pow_right (by decide) (by omega)
    have hM:16*acc+d<=255:=by omega
    have b0:0<=a:=by omega
    have b1:a<1152921504606846976:=by omega
    have hN2:(16:Int)*a+(d:Int)=((16*acc+d:Nat):Int):=by omega
    have HN:Hid (a*16+(d:Int)=((16*acc+d:Nat):Int)/\16*acc+d<16 ^ (k+1)/\Yz 0 ls=Yz (16*acc+d) (ls.drop (k+1))):=Hq ⟨by omega,hnew,hdec.trans hst⟩
    have b2:a*16+(d:Int)<=255:=by omega
    have b3:0<=(d:Int):=by omega
    have b4:(d:Int)<16:=by omega
    clear hB hdrop hget hmem hst hnew hlim hpow hM hN2 hacc hdec ha hd hd16
    rcases hways with ⟨w1,w2,w3⟩|⟨w1,w2,w3⟩
    · have e1:(c.toNat:Int)=(d:Int)+48:=by omega
      rw [e1] at hc
      have w4:(d:Int)<10:=by omega
      clear e1 w1 w2 w3 hc256
      go_wp2
      refine ⟨⟨k+1,16*acc+d,a*16+(d:Int),rfl,(by first|rfl|(congr 1;omega)),(by first|rfl|(congr 1;omega)),by omega,HN⟩,by simp [intOf];omega⟩
    · have hlow:=Zun c.toNat w1 w2
      have e1:(c.toNat:Int)=(d:Int)+87:=by omega
      rw [e1] at hc hlow
      have w4:10<=(d:Int):=by omega
      have w5:(d:Int)+87 - 97+10=(d:Int):=by omega
      have HLO:=Hq hlow
      clear e1 w1 w2 w3 hc256 hlow
      go_wp2_with (go_at_call 174;refine (Tryz.internal_strconv_lower _ _).mono ?_;rintro e w' ⟨rfl,rfl⟩;rw [HLO.out])
      refine ⟨⟨k+1,16*acc+d,a*16+(d:Int),rfl,(by first|rfl|(congr 1;omega)),(by first|rfl|(congr 1;omega)),by omega,HN⟩,by simp [intOf];omega⟩
  · have hkk:k=t.size:=by omega
    subst hkk
    have hfin:Yz acc (ls.drop t.size)=some acc:=by rw [List.drop_eq_nil_of_le (by omega)];rfl
    have hva:v=acc:=by
     have:=HV.out
     rw [hdec,hfin] at this
     injection this with this;exact this.symm
    have hra:a=(v:Int):=by rw [hva];exact ha
    subst hra
    clear hacc hfin hdec hva ha
    go_wp2
    go_ret2
    exact ⟨rfl,rfl⟩
theorem Yyg (l:Txt) (hne:l≠[]) (hlen:l.length<=16) (v:Nat) (hv:Yz 0 l=some v) (w:World) :
 Calls Tryz.prog 140 #[.string (bs l),.int .i64 16,.int .i64 64] w fun e w'=>e = .returned (.tuple #[.int .u64 (v:Int),.nilIface])/\w.grownBy w' none:=by
 have hh:Zmc l=true:=by
  cases h:Zmc l with
  | true=>rfl
  | false=>rw [Zbw l 0 h] at hv;cases hv
 have hz:(bs l).size≠0:=by rw [Zl];intro h;exact hne (List.eq_nil_of_length_eq_zero h)
 have C:=Hq (Yxg (bs l) hz (by rw [Zl];exact hlen) (by rw [Xs];exact hh) v (by rw [Xs];exact hv))
 generalize bs l=t at *
 go_enter Tryz.func140,Tryz.ntmps140
 go_wp2_with (go_at_call 162;refine (C.out _).mono ?_;rintro e w' ⟨rfl,rfl⟩)
 go_ret2
 exact ⟨rfl,Zdh _ _ _⟩
theorem pu8 (l:Txt) (hne:l≠[]) (hlen:l.length<=2) (v:Nat) (hv:Yz 0 l=some v) (w:World) :
 Calls Tryz.prog 140 #[.string (bs l),.int .i64 16,.int .i64 8] w fun e w'=>e = .returned (.tuple #[.int .u64 (v:Int),.nilIface])/\w.grownBy w' none:=by
 have hh:Zmc l=true:=by
  cases h:Zmc l with
  | true=>rfl
  | false=>rw [Zbw l 0 h] at hv;cases hv
 have hz:(bs l).size≠0:=by rw [Zl];intro h;exact hne (List.eq_nil_of_length_eq_zero h)
 have C:=Hq (Yyj (bs l) hz (by rw [Zl];exact hlen) (by rw [Xs];exact hh) v (by rw [Xs];exact hv))
 generalize bs l=t at *
 go_enter Tryz.func140,Tryz.ntmps140
 go_wp2_with (go_at_call 162;refine (C.out _).mono ?_;rintro e w' ⟨rfl,rfl⟩)
 go_ret2
 exact ⟨rfl,Zdh _ _ _⟩
abbrev Yph (k:Int) (t:ByteArray) (n:Int) (f:Bool):Value := .agg #[.int .i64 k,.string t,.int .i64 n,.bool f]
abbrev Ysc (k:Int) (t:ByteArray) (n:Int) (f:Bool) (b:Bool):Value := .tuple #[.agg #[.int .i64 k,.string t,.int .i64 n,.bool f],.bool b]
def Zjc (w:World) (r:Option (Int × Bool)) (e:Ending) (w':World):Prop :=
 e = .returned (match r with|some (n,b)=>Ysc 1 ⟨#[]⟩ n (!b) true|none=>Ysc 0 ⟨#[]⟩ 0 false false)/\w.grownBy w' none
theorem Zel:(bs []).toList.isEmpty=true:=by rw [Lib.toList_data,Xs];rfl
theorem Zcf {l:Txt} (h:l≠[]):(bs l).toList.isEmpty=false:=by
 rw [Lib.toList_data,Xs]
 cases l with
 | nil=>exact absurd rfl h
 | cons c r=>rfl
def Zlv (w:World) (b:Nat) (v0 v1 v2 v3:Value):Prop:=w.heap[b]? = some (.cells #[v0,v1,v2,v3] 158 (0,0))
theorem Zal (w:World) (v0 v1 v2 v3:Value):Zlv (w.alloc (.cells #[v0,v1,v2,v3] 158)) w.heap.size v0 v1 v2 v3:=heap_alloc_new w _
theorem Xi {w w':World} {b:Nat} {v0 v1 v2 v3:Value} {row:Option Nat} (h:Zlv w b v0 v1 v2 v3) (g:w.grownBy w' row) (hr:row≠some b):Zlv w' b v0 v1 v2 v3:=Zf h g hr
theorem Zse {w:World} {b:Nat} {v0 v1 v2 v3:Value} (h:Zlv w b v0 v1 v2 v3):b<w.heap.size:=(Gs h)
theorem Ji {w:World} {b:Nat} {v0 v1 v2 v3 x0 x1 x2 x3:Value} (h:Zlv w b v0 v1 v2 v3) :
 Zlv ((((w.setCell ⟨b,0,none⟩ x0).setCell ⟨b,1,none⟩ x1).setCell ⟨b,2,none⟩ x2).setCell ⟨b,3,none⟩ x3) b x0 x1 x2 x3:=by
 unfold Zlv
 rw [Zj (Zj (Zj (Zj h)))];rfl
theorem Zx {w0 w:World} {b:Nat} {x0 x1 x2 x3:Value} (h:w0.grownBy w none) (hb:w0.heap.size<=b) :
 w0.grownBy ((((w.setCell ⟨b,0,none⟩ x0).setCell ⟨b,1,none⟩ x1).setCell ⟨b,2,none⟩ x2).setCell ⟨b,3,none⟩ x3) none :=
 Zy (Zy (Zy (Zy h hb) hb) hb) hb
structure Yuc (w:World) (b:Nat) (v0 v1 v2 v3:Value):Prop where
 c0:w.cell? ⟨b,0,none⟩=some v0
 c1:w.cell? ⟨b,1,none⟩=some v1
 c2:w.cell? ⟨b,2,none⟩=some v2
 c3:w.cell? ⟨b,3,none⟩=some v3
 z0:w.frozen? ⟨b,0,none⟩=false
 z1:w.frozen? ⟨b,1,none⟩=false
 z2:w.frozen? ⟨b,2,none⟩=false
 z3:w.frozen? ⟨b,3,none⟩=false
theorem Xt {w:World} {b:Nat} {v0 v1 v2 v3:Value} (h:Zlv w b v0 v1 v2 v3):Yuc w b v0 v1 v2 v3 :=
 ⟨Cq w _ 0 _ _ _ h,Cq w _ 1 _ _ _ h,Cq w _ 2 _ _ _ h,Cq w _ 3 _ _ _ h,frozen_of_row w _ 0 _ _ h,frozen_of_row w _ 1 _ _ h,frozen_of_row w _ 2 _ _ h,frozen_of_row w _ 3 _ _ h⟩
theorem Ygq {w:World} {b:Nat} {v0 v1 v2 v3:Value} (h:Zlv w b v0 v1 v2 v3):(loadVar 158 ⟨b,0,none⟩).run Tryz.prog w = .ok (.agg #[v0,v1,v2,v3]) w:=by
 obtain ⟨c0,c1,c2,c3,z0,z1,z2,z3⟩:=Xt h
 go_simp
theorem Znu {fn:Func} {p u:Tmp} (hf:fn.results = #[.cell p 158,.tmp u]) {tmps:Array Value} {w:World} {b:Nat} {v0 v1 v2 v3 f:Value}
 (hp:tmps.getD p undef = .pointer (some ⟨b,0,none⟩)) (hu:tmps.getD u undef=f) (h:Zlv w b v0 v1 v2 v3) :
 (results fn tmps).run Tryz.prog w = .ok (.tuple #[.agg #[v0,v1,v2,v3],f]) w:=by
 rw [results_cell_tmp hf,hp,hu]
 have:(asAddr (.pointer (some ⟨b,0,none⟩))).run Tryz.prog w = .ok (⟨b,0,none⟩:Addr) w:=rfl
 rw [this]
 simp only [Result.andThen]
 rw [Ygq h]
theorem Zxo (s:ByteArray) (hp:[48,120].isPrefixOf s.data.toList=true) (hl:¬ (1<=(s.data.toList.drop 2).length/\(s.data.toList.drop 2).length<=16)) (w:World) :
 Calls Tryz.prog 111 #[.string s] w (Zjc w none):=by
 have C:=Hq (Zbh s ⟨#[48,120]⟩)
 have ht:Lib.trimPrefix s.data.toList [48,120]=s.data.toList.drop 2:=by unfold Lib.trimPrefix Lib.hasPrefix;rw [if_pos hp];rfl
 rw [show (⟨#[48,120]⟩:ByteArray).data.toList=[48,120] from rfl,ht,hp] at C
 rw [<- Zl] at hl
 generalize bs (s.data.toList.drop 2)=d at *
 have hl2:((d.size:Int)<1)\/(1<=(d.size:Int)/\16<(d.size:Int)):=by omega
 clear ht hp hl
 rcases hl2 with hl|⟨hl,hl2⟩
 all_goals
  (go_enter Tryz.func111,Tryz.ntmps111)
  go_wp2_with (go_at_call 141;refine (C.out _).mono ?_;rintro e w' ⟨rfl,rfl⟩)
  exact bodyPost_ret (Znu rfl rfl rfl (Zal _ _ _ _ _)) rfl ⟨rfl,Ga _ _ _⟩
theorem Zxn (s:ByteArray) (hp:[48,120].isPrefixOf s.data.toList=true) (hl:1<=(s.data.toList.drop 2).length) (hl2:(s.data.toList.drop 2).length<=16) (hx:Zmc (s.data.toList.drop 2)=false) (w:World) :
 Calls Tryz.prog 111 #[.string s] w (Zjc w none):=by
 have C:=Hq (Zbh s ⟨#[48,120]⟩)
 have ht:Lib.trimPrefix s.data.toList [48,120]=s.data.toList.drop 2:=by unfold Lib.trimPrefix Lib.hasPrefix;rw [if_pos hp];rfl
 rw [show (⟨#[48,120]⟩:ByteArray).data.toList=[48,120] from rfl,ht,hp] at C
 have hne:Lib.trimS (s.data.toList.drop 2) hexSet≠[]:=by rw [Ne,Zmr,hx];simp
 have T:=Hq (Zjf (bs (s.data.toList.drop 2)) hexSet (by rw [Zl];omega) (by decide) (by decide))
 rw [Xs] at T
 have he:=Zcf hne
 generalize bs (Lib.trimS (s.data.toList.drop 2) hexSet)=x at *
 rw [<- Zl] at hl hl2
 generalize bs (s.data.toList.drop 2)=d at *
 have hl3:1<=(d.size:Int):=by omega
 have hl4:(d.size:Int)<=16:=by omega
 have hh:bs hexSet=⟨#[48,49,50,51,52,53,54,55,56,57,97,98,99,100,101,102]⟩:=rfl
 rw [hh] at T
 clear ht hp hl hl2 hne hx hh
 (go_enter Tryz.func111,Tryz.ntmps111)
 go_wp2_with (first
  | (go_at_call 141;refine (C.out _).mono ?_;rintro e w' ⟨rfl,rfl⟩)
  | (go_at_call 139;refine (T.out _).mono ?_;rintro e w2 ⟨rfl,hg⟩;have G:=Hq hg;have B:=Hq (Xi (Zal w _ _ _ _) hg (by simp));obtain ⟨c0,c1,c2,c3,z0,z1,z2,z3⟩:=Xt B.out;clear hg))
 exact bodyPost_ret (Znu rfl rfl rfl (Ji B.out)) rfl ⟨rfl,Zx (Za (Ga _ _ _) G.out) (Nat.le_refl _)⟩
theorem Zyu (v:Nat) (h:v<18446744073709551616):IntKind.i64.wrap (v:Int)=Zrq v:=by
 unfold Zrq
 by_cases h1:v<9223372036854775808
 · rw [if_pos h1,IntKind.wrap_i64];omega
 · rw [if_neg h1,IntKind.wrap_i64];omega
theorem Ycm (s:ByteArray) (hp:[48,120].isPrefixOf s.data.toList=true) (hl:1<=(s.data.toList.drop 2).length) (hl2:(s.data.toList.drop 2).length<=16) (hx:Zmc (s.data.toList.drop 2)=true) (v:Nat) (hv:Yz 0 (s.data.toList.drop 2)=some v) (w:World) :
 Calls Tryz.prog 111 #[.string s] w (Zjc w (some (Zrq v,false))):=by
 have C:=Hq (Zbh s ⟨#[48,120]⟩)
 have ht:Lib.trimPrefix s.data.toList [48,120]=s.data.toList.drop 2:=by unfold Lib.trimPrefix Lib.hasPrefix;rw [if_pos hp];rfl
 rw [show (⟨#[48,120]⟩:ByteArray).data.toList=[48,120] from rfl,ht,hp] at C
 have T:=Hq (Zjf (bs (s.data.toList.drop 2)) hexSet (by rw [Zl];omega) (by decide) (by decide))
 rw [Xs,(Zmr _).2 hx] at T
 have he:=Zel
 generalize bs []=x at *
 have P:=Hq (Yyg (s.data.toList.drop 2) (by intro h;rw [h] at hl;simp at hl) hl2 v hv)
 have hv64:v<18446744073709551616:=by
  obtain ⟨v',h1,h2⟩:=Zdc _ 0 hx
  rw [hv] at h1;injection h1 with h1;subst h1
  refine Nat.lt_of_lt_of_le h2 ?_
  have:=Nat.pow_le_pow_right (show 0<16 by decide) hl2
  omega
 have hw:=Zyu v hv64
 generalize Zrq v=n at *
 rw [<- Zl] at hl hl2
 generalize bs (s.data.toList.drop 2)=d at *
 have hl3:1<=(d.size:Int):=by omega
 have hl4:(d.size:Int)<=16:=by omega
 have hh:bs hexSet=⟨#[48,49,50,51,52,53,54,55,56,57,97,98,99,100,101,102]⟩:=rfl
 rw [hh] at T
 generalize (v:Int)=vi at *
 clear ht hp hl hl2 hx hh hv hv64
 (go_enter Tryz.func111,Tryz.ntmps111)
 go_wp2_with (first
  | (go_at_call 141;refine (C.out _).mono ?_;rintro e w' ⟨rfl,rfl⟩)
  | (go_at_call 139;refine (T.out _).mono ?_;rintro e w2 ⟨rfl,hg⟩;have G:=Hq hg;have B:=Hq (Xi (Zal w _ _ _ _) hg (by simp));clear hg)
  | (go_at_call 140;refine (P.out _).mono ?_;rintro e w3 ⟨rfl,hg⟩;have G3:=Hq hg;have B3:=Hq (Xi B.out hg (by simp));obtain ⟨c0,c1,c2,c3,z0,z1,z2,z3⟩:=Xt B3.out;clear hg))
 exact bodyPost_ret (Znu rfl rfl rfl (Ji B3.out)) rfl ⟨rfl,Zx (Za (Za (Ga _ _ _) G.out) G3.out) (Nat.le_refl _)⟩
theorem Zuj (s:ByteArray) (hp:[48,120].isPrefixOf s.data.toList=false) (hd:Lib.trimPrefix s.data.toList [45]=[]) (w:World) :
 Calls Tryz.prog 111 #[.string s] w (Zjc w none):=by
 have C:=Hq (Zbh s ⟨#[48,120]⟩)
 have ht:Lib.trimPrefix s.data.toList [48,120]=s.data.toList:=by unfold Lib.trimPrefix Lib.hasPrefix;rw [if_neg (by rw [hp];simp)]
 rw [show (⟨#[48,120]⟩:ByteArray).data.toList=[48,120] from rfl,ht,hp,Zpd] at C
 have M:=Hq (Zeo s ⟨#[45]⟩)
 rw [show (⟨#[45]⟩:ByteArray).data.toList=[45] from rfl,hd] at M
 have he:=Zel
 generalize bs []=x at *
 clear ht hp hd
 (go_enter Tryz.func111,Tryz.ntmps111)
 go_wp2_with (first
  | (go_at_call 141;refine (C.out _).mono ?_;rintro e w' ⟨rfl,rfl⟩)
  | (go_at_call 142;refine (M.out _).mono ?_;rintro e w' ⟨rfl,rfl⟩))
 exact bodyPost_ret (Znu rfl rfl rfl (Zal _ _ _ _ _)) rfl ⟨rfl,Ga _ _ _⟩
theorem Zxp (s:ByteArray) (hs:s.size<=70000) (hp:[48,120].isPrefixOf s.data.toList=false) (hd:Lib.trimPrefix s.data.toList [45]≠[]) (hx:(Lib.trimPrefix s.data.toList [45]).all Zpo=false) (w:World) :
 Calls Tryz.prog 111 #[.string s] w (Zjc w none):=by
 have C:=Hq (Zbh s ⟨#[48,120]⟩)
 have ht:Lib.trimPrefix s.data.toList [48,120]=s.data.toList:=by unfold Lib.trimPrefix Lib.hasPrefix;rw [if_neg (by rw [hp];simp)]
 rw [show (⟨#[48,120]⟩:ByteArray).data.toList=[48,120] from rfl,ht,hp,Zpd] at C
 have M:=Hq (Zeo s ⟨#[45]⟩)
 rw [show (⟨#[45]⟩:ByteArray).data.toList=[45] from rfl] at M
 have hlen:(Lib.trimPrefix s.data.toList [45]).length<=70000:=by
  have:=Ye s
  unfold Lib.trimPrefix;split <;> simp <;> omega
 have he:=Zcf hd
 have hne:Lib.trimS (Lib.trimPrefix s.data.toList [45]) digSet≠[]:=by rw [Ne,Zyx,hx];simp
 have T:=Hq (Zjf (bs (Lib.trimPrefix s.data.toList [45])) digSet (by rw [Zl];omega) (by decide) (by decide))
 rw [Xs,show bs digSet=⟨#[48,49,50,51,52,53,54,55,56,57]⟩ from rfl] at T
 have he2:=Zcf hne
 generalize bs (Lib.trimS (Lib.trimPrefix s.data.toList [45]) digSet)=x at *
 generalize bs (Lib.trimPrefix s.data.toList [45])=d at *
 clear ht hp hd hx hlen hne
 (go_enter Tryz.func111,Tryz.ntmps111)
 go_wp2_with (first
  | (go_at_call 141;refine (C.out _).mono ?_;rintro e w' ⟨rfl,rfl⟩)
  | (go_at_call 142;refine (M.out _).mono ?_;rintro e w' ⟨rfl,rfl⟩)
  | (go_at_call 139;refine (T.out _).mono ?_;rintro e w2 ⟨rfl,hg⟩;have G:=Hq hg;have B:=Hq (Xi (Zal w _ _ _ _) hg (by simp));obtain ⟨c0,c1,c2,c3,z0,z1,z2,z3⟩:=Xt B.out;clear hg))
 exact bodyPost_ret (Znu rfl rfl rfl (Ji B.out)) rfl ⟨rfl,Zx (Za (Ga _ _ _) G.out) (Nat.le_refl _)⟩
def Ymf:Option Int->Int × Bool
 | some n=>(n,false)
 | none=>(0,true)
def Ypv (s:ByteArray) (r:Option Int):Prop:=∀ w,LibW w->Calls Tryz.prog 143 #[.string s] w (Zna w r)
theorem Ycn (s:ByteArray) (hs:s.size<=70000) (hp:[48,120].isPrefixOf s.data.toList=false) (hd:Lib.trimPrefix s.data.toList [45]≠[]) (hx:(Lib.trimPrefix s.data.toList [45]).all Zpo=true) (r:Option Int) (hA:Ypv s r) (w:World) (hW:LibW w) :
 Calls Tryz.prog 111 #[.string s] w (Zjc w (some (Ymf r))):=by
 have C:=Hq (Zbh s ⟨#[48,120]⟩)
 have ht:Lib.trimPrefix s.data.toList [48,120]=s.data.toList:=by unfold Lib.trimPrefix Lib.hasPrefix;rw [if_neg (by rw [hp];simp)]
 rw [show (⟨#[48,120]⟩:ByteArray).data.toList=[48,120] from rfl,ht,hp,Zpd] at C
 have M:=Hq (Zeo s ⟨#[45]⟩)
 rw [show (⟨#[45]⟩:ByteArray).data.toList=[45] from rfl] at M
 have hlen:(Lib.trimPrefix s.data.toList [45]).length<=70000:=by
  have:=Ye s
  unfold Lib.trimPrefix;split <;> simp <;> omega
 have he:=Zcf hd
 have T:=Hq (Zjf (bs (Lib.trimPrefix s.data.toList [45])) digSet (by rw [Zl];omega) (by decide) (by decide))
 rw [Xs,show bs digSet=⟨#[48,49,50,51,52,53,54,55,56,57]⟩ from rfl,(Zyx _).2 hx] at T
 have he2:=Zel
 generalize bs []=x at *
 generalize bs (Lib.trimPrefix s.data.toList [45])=d at *
 have A:=Hq hA
 have LW:=Hq hW
 clear ht hp hd hx hlen hA hW
 cases r with
 | some n =>
   (go_enter Tryz.func111,Tryz.ntmps111)
   go_wp2_with (first
    | (go_at_call 141;refine (C.out _).mono ?_;rintro e w' ⟨rfl,rfl⟩)
    | (go_at_call 142;refine (M.out _).mono ?_;rintro e w' ⟨rfl,rfl⟩)
    | (go_at_call 139;refine (T.out _).mono ?_;rintro e w2 ⟨rfl,hg⟩;have G:=Hq hg;have B:=Hq (Xi (Zal w _ _ _ _) hg (by simp));clear hg)
    | (go_at_call 143;refine (A.out _ (Ym LW.out (Za (Ga _ _ _) G.out))).mono ?_;rintro e w3 ⟨rfl,hg⟩;have G3:=Hq hg;have B3:=Hq (Xi B.out hg (by simp));obtain ⟨c0,c1,c2,c3,z0,z1,z2,z3⟩:=Xt B3.out;clear hg))
   exact bodyPost_ret (Znu rfl rfl rfl (Ji B3.out)) rfl ⟨rfl,Zx (Za (Za (Ga _ _ _) G.out) G3.out) (Nat.le_refl _)⟩
 | none =>
   (go_enter Tryz.func111,Tryz.ntmps111)
   go_wp2_with (first
    | (go_at_call 141;refine (C.out _).mono ?_;rintro e w' ⟨rfl,rfl⟩)
    | (go_at_call 142;refine (M.out _).mono ?_;rintro e w' ⟨rfl,rfl⟩)
    | (go_at_call 139;refine (T.out _).mono ?_;rintro e w2 ⟨rfl,hg⟩;have G:=Hq hg;have B:=Hq (Xi (Zal w _ _ _ _) hg (by simp));clear hg)
    | (go_at_call 143;refine (A.out _ (Ym LW.out (Za (Ga _ _ _) G.out))).mono ?_;rintro e w3 ⟨⟨v9,t9,p9,rfl⟩,hg⟩;have G3:=Hq hg;have B3:=Hq (Xi B.out hg (by simp));obtain ⟨c0,c1,c2,c3,z0,z1,z2,z3⟩:=Xt B3.out;clear hg))
   exact bodyPost_ret (Znu rfl rfl rfl (Ji B3.out)) rfl ⟨rfl,Zx (Za (Za (Ga _ _ _) G.out) G3.out) (Nat.le_refl _)⟩
theorem Ycl (s:ByteArray) (hs:s.size<=70000) (w:World) (hW:LibW w):Calls Tryz.prog 111 #[.string s] w (Zjc w (Zex s.data.toList)):=by
 unfold Zex
 cases hp:[48,120].isPrefixOf s.data.toList with
 | true =>
   simp only [if_true]
   by_cases hl:1<=(s.data.toList.drop 2).length/\(s.data.toList.drop 2).length<=16
   · rw [if_pos hl]
     cases hx:Zmc (s.data.toList.drop 2) with
     | true =>
       obtain ⟨v,hv,-⟩:=Zdc _ 0 hx
       rw [hv]
       exact Ycm s hp hl.1 hl.2 hx v hv w
     | false =>
       rw [Zbw _ 0 hx]
       exact Zxn s hp hl.1 hl.2 hx w
   · rw [if_neg hl]
     exact Zxo s hp hl w
 | false =>
   simp only [Bool.false_eq_true,if_false]
   have hneg:∃ neg:Bool,(s.data.toList.head? == some 45)=neg/\Lib.trimPrefix s.data.toList [45]=(if neg then s.data.toList.drop 1 else s.data.toList)/\(∀ d,d=(if neg then s.data.toList.drop 1 else s.data.toList)->s.data.toList=(if neg then 45::d else d)):=by
    unfold Lib.trimPrefix Lib.hasPrefix
    cases hl:s.data.toList with
    | nil=>exact ⟨false,rfl,rfl,fun d hd=>by simpa using hd.symm⟩
    | cons c r =>
      by_cases hc:c=45
      · subst hc
        exact ⟨true,by simp,by simp [List.isPrefixOf],fun d hd=>by rw [hd];simp⟩
      · refine ⟨false,by simpa using hc,?_,fun d hd=>by simpa using hd.symm⟩
        have:[45].isPrefixOf (c::r)=false:=by
         simp [List.isPrefixOf];exact fun h=>hc h.symm
        rw [this];simp
   obtain ⟨neg,h1,h2,h3⟩:=hneg
   rw [h1]
   have h4:=h3 _ rfl
   generalize (if neg=true then s.data.toList.drop 1 else s.data.toList)=d at *
   by_cases hd:d=[]
   · rw [Zri (Or.inl hd)]
     exact Zuj s hp (by rw [h2];exact hd) w
   · cases hx:d.all Zpo with
     | false =>
       rw [Zri (Or.inr hx)]
       exact Zxp s hs hp (by rw [h2];exact hd) (by rw [h2];exact hx) w
     | true =>
       obtain ⟨v,hv⟩:=Zyg hd hx
       rw [hv]
       have hlen:d.length<=70000:=by
        have:=Ye s
        rw [h4] at this
        cases neg <;> simp at this <;> omega
       have hA:Ypv s (if neg then (if v<=9223372036854775808 then some (-(v:Int)) else none) else (if v<9223372036854775808 then some (v:Int) else none)):=by
        intro w1 hW1
        have:=Yok neg d v hv hlen w1 hW1
        rw [<- h4,Zpd] at this
        exact this
       have:=Ycn s hs hp (by rw [h2];exact hd) (by rw [h2];exact hx) _ hA w hW
       have he:some (Ymf (if neg then (if v<=9223372036854775808 then some (-(v:Int)) else none) else (if v<9223372036854775808 then some (v:Int) else none)))=(some v).map (fun v=>if neg then (if v<=9223372036854775808 then (-(v:Int),false) else (0,true)) else (if v<9223372036854775808 then ((v:Int),false) else (0,true))):=by
        cases neg with
        | true=>by_cases hv2:v<=9223372036854775808 <;> simp [hv2,Ymf] <;> omega
        | false=>by_cases hv2:v<9223372036854775808 <;> simp [hv2,Ymf] <;> omega
       rw [he] at this
       exact this
theorem Zfk:Tryz.prog.underlying 23=some (.slice 5):=by kernel_rfl
theorem Zfj:Tryz.prog.underlying 5=some (.int .u8):=by kernel_rfl
theorem Xl:Tryz.prog.underlying 9=some .string:=by kernel_rfl
def bvs (l:Txt):List Value:=(l.map fun c=>(c.toNat:Int)).map (Value.int .u8)
theorem Zlt (a b:Txt):bvs (a++b)=bvs a++bvs b:=by simp [bvs]
theorem Ytn {l:Txt} {i:Nat} {c:UInt8} (h:l[i]? = some c):(bvs l)[i]? = some (.int .u8 (c.toNat:Int)):=by simp [bvs,h]
theorem Yje (c:UInt8):bvs [c]=[.int .u8 (c.toNat:Int)]:=rfl
theorem Zjh (l:Txt):strOfNums (l.map fun c=>(c.toNat:Int))=bs l:=by
 unfold strOfNums bs
 rw [List.map_map]
 congr 1
 congr 1
 rw [List.map_congr_left (g:=id) (fun c _=>by simp)]
 simp
def Buf (w:World) (E:Nat) (v:Value) (l:Txt):Prop:=w.ownsRow E 5 1 v l.length (bvs l)
theorem Yjf (w:World) (E:Nat):Buf w E (.slice none 0 0) []:=World.ownsRow_nil _ _ _ _
theorem Zpc {w:World} {E:Nat} {v:Value} {l:Txt} (h:Buf w E v l):∃ p c,v = .slice p l.length c:=Zi h
theorem Yvv {w:World} {E:Nat} {p:Option Addr} {c:Nat} {l:Txt} (h:Buf w E (.slice p l.length c) l) (h0:0<l.length):∃ g,p=some ⟨g,0,none⟩/\∀ i (c:UInt8),l[i]? = some c->w.cell? ⟨g,i,none⟩=some (.int .u8 (c.toNat:Int)):=by
 obtain ⟨g,cap,hv,hg,hc⟩:=Zv h h0
 injection hv with h1 h2 h3
 subst h1
 refine ⟨g,rfl,fun i x hx => ?_⟩
 exact hc i _ (Ytn hx) (by obtain ⟨h,_⟩:=List.getElem?_eq_some_iff.1 hx;simpa using h)
theorem Yoa {w:World} (p:Option Addr) (c:Nat) (hp:p=none\/∃ g:Nat,p=some ⟨g,0,none⟩):(convert 23 9 (.slice p 0 c)).run Tryz.prog w = .ok (.string (bs [])) w:=by
 rcases hp with rfl|⟨g,rfl⟩
 · exact run_convert_bytes_nil w _ _ Zfk Zfj _ _ _ Xl
 · have hl:(loadCells ⟨g,0,none⟩ 0).run Tryz.prog w = .ok (([]:List Int).map (Value.int .u8)).toArray w:=by simpa using run_loadCells_list (P:=Tryz.prog) w ⟨g,0,none⟩ [] (by simp)
   rw [run_convert_bytes_string w _ _ _ _ _ c Zfk Zfj Xl]
   rw [run_bytesToString w ⟨g,0,none⟩ 0 c [] hl]
   rfl
theorem Zmy {w:World} {E:Nat} {p:Option Addr} {c:Nat} {l:Txt} (h:Buf w E (.slice p l.length c) l):(convert 23 9 (.slice p l.length c)).run Tryz.prog w = .ok (.string (bs l)) w:=by
 cases l with
 | nil =>
   refine Yoa p c ?_
   rcases h.2 with ⟨h1,_⟩|⟨g,cap,cur,hv,_⟩
   · left;injection h1
   · right;exact ⟨g,by injection hv⟩
 | cons a r =>
   obtain ⟨g,rfl,hc⟩:=Yvv h (by simp)
   rw [<- Zjh]
   refine run_convert_bytes_arg w _ _ Zfk Zfj g 0 (a::r).length c _ (by simp) (fun i hi => ?_) _ Xl
   have hd:((a::r).map fun c=>(c.toNat:Int)).getD i 0=(((a::r)[i]'hi).toNat:Int):=by
    rw [List.getD_eq_getElem?_getD,List.getElem?_map,List.getElem?_eq_getElem hi];rfl
   rw [hd,Nat.zero_add]
   exact hc i _ (List.getElem?_eq_getElem hi)
theorem Yw {w:World} {base:Nat} {e:TypeId} {size n:Nat} {v:Value} {xs:List Value} (h:w.ownsRow base e size v n xs):v.ownBlock=none\/v.ownBlock≠none:=by
 cases v.ownBlock with
 | none=>exact Or.inl rfl
 | some k=>exact Or.inr (by simp)
theorem Yod {w w':World} {E:Nat} {v:Value} {l:Txt} (h:Buf w E v l) (g:w.grownBy w' none):Buf w' E v l:=h.kept g (Yw h)
structure BlP where
 line:Int
 fn:Int
 pl:Int
 word:Txt
 call:Bool
structure CS where
 mem:Int
 ms:Bool
 data:Txt
 funcs:List FnR
 fm:Txt->Option Int
 lm:List (Txt->Option Int)
 blk:List BlP
def bl5 (x:BlP):List Value:=[.int .i64 x.line,.int .i64 x.fn,.int .i64 x.pl,.string (bs x.word),.bool x.call]
def blV:List BlP->List Value
 | []=>[]
 | x::r=>bl5 x++blV r
theorem Yds (a b:List BlP):blV (a++b)=blV a++blV b:=by
 induction a with
 | nil=>rfl
 | cons p r ih=>simp [blV,ih]
def Zcq (l:Txt):List Int:=l.map fun c=>(c.toNat:Int)
theorem Yh (l:Txt):(Zcq l).length=l.length:=by simp [Zcq]
structure Fr (w w':World):Prop where
 os:w'.os=w.os
 tape:w'.tape=w.tape
 output:w'.output=w.output
 size:w.heap.size<=w'.heap.size
 keep:∀ (k:Nat) (cs:Array Value) (t:TypeId) (fr:Nat × Nat),w.heap[k]? = some (Obj.cells cs t fr)->(t=158\/t=9)->w'.heap[k]? = w.heap[k]?
theorem Zlm (w:World):Fr w w:=⟨rfl,rfl,rfl,Nat.le_refl _,fun _ _ _ _ _ _=>rfl⟩
theorem Zz {a b c:World} (h:Fr a b) (g:Fr b c):Fr a c :=
 ⟨g.os.trans h.os,g.tape.trans h.tape,g.output.trans h.output,Nat.le_trans h.size g.size,fun k cs t fr hk ht=>by
  have h1:=h.keep k cs t fr hk ht
  exact (g.keep k cs t fr (h1.trans hk) ht).trans h1⟩
theorem Xg {w w':World} (g:w.grownBy w' none):Fr w w' :=
 ⟨g.os,g.tape,g.output,g.size,fun k cs t fr hk ht=>g.block k (Gs hk) (by simp)⟩
theorem Zos {w w':World} {E:Nat} {t:TypeId} {sz n:Nat} {v:Value} {xs:List Value} (h:w.ownsRow E t sz v n xs) (ht:t≠158/\t≠9) (g:w.grownBy w' v.ownBlock):Fr w w' :=
 ⟨g.os,g.tape,g.output,g.size,fun k cs t' fr hk ht'=>g.block k (Gs hk) (fun e=>by
  rcases h.2 with ⟨rfl,_⟩|⟨g0,cap,cur,rfl,_,hg,_⟩
  · cases e
  · injection e with e
    subst e
    simp only [hk] at hg
    injection hg with hg;injection hg with _ h2 _
    rcases ht' with h3|h3
    · exact ht.1 (h2.symm.trans h3)
    · exact ht.2 (h2.symm.trans h3))⟩
theorem Zot {w w':World} {b:Nat} {cs:Array Value} {t:TypeId} {fz:Nat × Nat} (h:w.heap[b]? = some (.cells cs t fz)) (ht:t≠158/\t≠9) (g:w.grownBy w' (some b)):Fr w w' :=
 ⟨g.os,g.tape,g.output,g.size,fun k cs' t' fr hk ht'=>g.block k (Gs hk) (fun e=>by
  injection e with e
  subst e
  rw [hk] at h
  injection h with h;injection h with _ h2 _
  rcases ht' with h3|h3
  · exact ht.1 (h2.symm.trans h3)
  · exact ht.2 (h2.symm.trans h3))⟩
theorem Zsn {w:World} {b m:Nat} {f:Txt->Option Int} (h:Zhs w b m f):∃ es ck,w.heap[b]? = some (.map es ck):=by
 obtain ⟨n,D,⟨es,ck,h1,_⟩,_⟩:=h
 exact ⟨es,ck,h1⟩
theorem Ypp {w w':World} {b m:Nat} {f:Txt->Option Int} (h:Zhs w b m f) (g:w.grownBy w' (some b)):Fr w w' :=
 ⟨g.os,g.tape,g.output,g.size,fun k cs' t' fr hk ht'=>g.block k (Gs hk) (fun e=>by
  injection e with e
  subst e
  obtain ⟨es,ck,h1⟩:=Zsn h
  rw [hk] at h1;cases h1)⟩
theorem Xf {w:World} {b m:Nat} {f:Txt->Option Int} {E:Nat} {t:TypeId} {sz n:Nat} {v:Value} {xs:List Value} (h:Zhs w b m f) (h2:w.ownsRow E t sz v n xs):some b≠v.ownBlock:=by
 obtain ⟨es,ck,h1⟩:=Zsn h
 rcases h2.2 with ⟨rfl,_⟩|⟨g0,cap,cur,rfl,_,hg,_⟩
 · simp [Value.ownBlock]
 · intro e
   simp only [Value.ownBlock] at e
   injection e with e
   subst e
   rw [h1] at hg;cases hg
theorem Zbt {w:World} {b m:Nat} {f:Txt->Option Int} {E:Nat} {t:TypeId} {sz n:Nat} {v:Value} {xs:List Value} (h2:w.ownsRow E t sz v n xs) (h:Zhs w b m f):v.ownBlock=none\/v.ownBlock≠some b:=by
 have:=Xf h h2
 cases hv:v.ownBlock with
 | none=>exact Or.inl rfl
 | some k=>exact Or.inr (fun e=>this (by rw [hv,e]))
theorem Zfs {w:World} {b m p:Nat} {f:Txt->Option Int} {cs:Array Value} {t:TypeId} {fz:Nat × Nat} (h:Zhs w b m f) (hp:w.heap[p]? = some (.cells cs t fz)):b≠p:=by
 obtain ⟨es,ck,h1⟩:=Zsn h
 rintro rfl
 rw [h1] at hp;cases hp
theorem Zks {w:World} {p E:Nat} {cs:Array Value} {t t':TypeId} {sz n:Nat} {v:Value} {xs:List Value} (h:w.ownsRow E t sz v n xs) (hp:w.heap[p]? = some (.cells cs t' (0,0))) (ht:t≠t'):v.ownBlock=none\/v.ownBlock≠some p:=by
 have:=Zn h hp ht
 cases hv:v.ownBlock with
 | none=>exact Or.inl rfl
 | some k=>exact Or.inr (by rw [hv] at this;exact this)
theorem Zac {w:World} {b m m':Nat} {f:Txt->Option Int} (h:Zhs w b m f) (hm:m<=m'):Zhs w b m' f:=by
 obtain ⟨n,D,h1,h2,h3⟩:=h
 exact ⟨n,D,h1,Nat.le_trans h2 hm,h3⟩
structure Zmz (w:World) (E:Nat) (c:CS) (vd vF vL vB:Value) (bm:Nat) (cv:List Value) (lb:List Nat) (m:Nat):Prop where
 own:Ztd w E vd vF (Zcq c.data) c.funcs cv
 fm:Zhs w bm m c.fm
 fmE:E<=bm
 lrow:w.ownsRow E 66 1 vL lb.length (lb.map fun b => .map (some b))
 len1:lb.length=c.lm.length
 each:∀ (i b:Nat) (f:Txt->Option Int),lb[i]? = some b->c.lm[i]? = some f->Zhs w b m f/\E<=b
 dis:∀ (i j b:Nat),lb[i]? = some b->lb[j]? = some b->i=j
 apart:bm ∉ lb
 brow:w.ownsRow E 131 5 vB c.blk.length (blV c.blk)
 z1:c.data.length<=m
 z2:c.funcs.length<=m
 z3:∀ f∈c.funcs,f.2.2.2.length<=m
 z4:c.blk.length<=m
theorem Xj {w w':World} {base:Nat} {D F:Value} {dl:List Int} {fs:List FnP} {cv:List Value} {r:Option Nat} (h:Ztd w base D F dl fs cv) (g:w.grownBy w' r)
 (hr:∀ t sz v n xs,w.ownsRow base t sz v n xs->(t=5\/t=61\/t=58)->v.ownBlock=none\/v.ownBlock≠r):Ztd w' base D F dl fs cv :=
 ⟨h.dt.kept g (hr _ _ _ _ _ h.dt (Or.inl rfl)),h.fr.kept g (hr _ _ _ _ _ h.fr (Or.inr (Or.inl rfl))),h.cl,fun k f v hf hv=>(h.each k f v hf hv).kept g (hr _ _ _ _ _ (h.each k f v hf hv) (Or.inr (Or.inr rfl))),h.dis⟩
theorem Zkw {w w':World} {E:Nat} {c:CS} {vd vF vL vB:Value} {bm:Nat} {cv:List Value} {lb:List Nat} {m:Nat} {r:Option Nat} (h:Zmz w E c vd vF vL vB bm cv lb m) (g:w.grownBy w' r)
 (hr:∀ t sz v n xs,w.ownsRow E t sz v n xs->(t=5\/t=61\/t=58\/t=66\/t=131)->v.ownBlock=none\/v.ownBlock≠r)
 (hm:∀ b f,Zhs w b m f->some b≠r):Zmz w' E c vd vF vL vB bm cv lb m :=
 ⟨Xj h.own g (fun t sz v n xs ho ht=>hr t sz v n xs ho (by rcases ht with h|h|h <;> simp [h])),Yu h.fm g (hm _ _ h.fm),h.fmE,h.lrow.kept g (hr _ _ _ _ _ h.lrow (by simp)),h.len1,
  fun i b f hb hf=>⟨Yu (h.each i b f hb hf).1 g (hm _ _ (h.each i b f hb hf).1),(h.each i b f hb hf).2⟩,h.dis,h.apart,h.brow.kept g (hr _ _ _ _ _ h.brow (by simp)),h.z1,h.z2,h.z3,h.z4⟩
theorem Zns {w w':World} {E:Nat} {c:CS} {vd vF vL vB:Value} {bm:Nat} {cv:List Value} {lb:List Nat} {m:Nat} (h:Zmz w E c vd vF vL vB bm cv lb m) (g:w.grownBy w' none):Zmz w' E c vd vF vL vB bm cv lb m :=
 Zkw h g (fun t sz v n xs ho _=>Yw ho) (fun b f _=>by simp)
theorem Zfq {w w':World} {E:Nat} {c:CS} {vd vF vL vB:Value} {bm:Nat} {cv:List Value} {lb:List Nat} {m p:Nat} {cs:Array Value} (h:Zmz w E c vd vF vL vB bm cv lb m) (hp:w.heap[p]? = some (.cells cs 70 (0,0))) (g:w.grownBy w' (some p)):Zmz w' E c vd vF vL vB bm cv lb m :=
 Zkw h g (fun t sz v n xs ho ht=>Zks ho hp (by rcases ht with h|h|h|h|h <;> subst h <;> decide)) (fun b f hm e=>by injection e with e;exact Zfs hm hp e)
theorem Ylu {w:World} {E:Nat} {c:CS} {vd vF vL vB:Value} {bm:Nat} {cv:List Value} {lb:List Nat} {m:Nat} (h:Zmz w E c vd vF vL vB bm cv lb m) (n:Int) (b:Bool):Zmz w E { c with mem:=n,ms:=b } vd vF vL vB bm cv lb m :=
 ⟨h.own,h.fm,h.fmE,h.lrow,h.len1,h.each,h.dis,h.apart,h.brow,h.z1,h.z2,h.z3,h.z4⟩
theorem Znr {w:World} {E:Nat} {c:CS} {vd vF vL vB:Value} {bm:Nat} {cv:List Value} {lb:List Nat} {m m':Nat} (h:Zmz w E c vd vF vL vB bm cv lb m) (hm:m<=m'):Zmz w E c vd vF vL vB bm cv lb m' :=
 ⟨h.own,Zac h.fm hm,h.fmE,h.lrow,h.len1,fun i b f hb hf=>⟨Zac (h.each i b f hb hf).1 hm,(h.each i b f hb hf).2⟩,h.dis,h.apart,h.brow,Nat.le_trans h.z1 hm,Nat.le_trans h.z2 hm,fun f hf=>Nat.le_trans (h.z3 f hf) hm,Nat.le_trans h.z4 hm⟩
theorem Ygj {w w':World} {E:Nat} {c:CS} {vd vd' vF vL vB:Value} {bm:Nat} {cv:List Value} {lb:List Nat} {m:Nat} {t:Txt} (h:Zmz w E c vd vF vL vB bm cv lb m) (ho:w'.ownsRow E 5 1 vd' (c.data++t).length ((Zcq (c.data++t)).map (Value.int .u8))) (g:w.grownBy w' vd.ownBlock) :
 Zmz w' E { c with data:=c.data++t } vd' vF vL vB bm cv lb (m+t.length):=by
 have hd:=h.own.dt
 refine Znr (m:=m+t.length) ⟨⟨by rw [Yh];exact ho,h.own.fr.kept g (Zh h.own.fr hd (by decide)),h.own.cl,fun k f v hf hv=>(h.own.each k f v hf hv).kept g (Zh (h.own.each k f v hf hv) hd (by decide)),h.own.dis⟩,
  Zac (Yu h.fm g (Xf h.fm hd)) (by omega),h.fmE,h.lrow.kept g (Zh h.lrow hd (by decide)),h.len1,fun i b f hb hf=>⟨Zac (Yu (h.each i b f hb hf).1 g (Xf (h.each i b f hb hf).1 hd)) (by omega),(h.each i b f hb hf).2⟩,h.dis,h.apart,
  h.brow.kept g (Zh h.brow hd (by decide)),by have:=h.z1;simp;omega,by have:=h.z2;show c.funcs.length<=_;omega,fun f hf=>by have:=h.z3 f hf;omega,by have:=h.z4;show c.blk.length<=_;omega⟩ (Nat.le_refl _)
theorem Yrl {w w':World} {E:Nat} {c:CS} {vd vF vL vB:Value} {bm:Nat} {cv:List Value} {lb:List Nat} {m:Nat} {f:Txt->Option Int} (h:Zmz w E c vd vF vL vB bm cv lb m) (ho:Zhs w' bm (m+1) f) (g:w.grownBy w' (some bm)):Zmz w' E { c with fm:=f } vd vF vL vB bm cv lb (m+1):=by
 have hm:=h.fm
 refine ⟨Xj h.own g (fun t sz v n xs ho ht=>Zbt ho hm),ho,h.fmE,h.lrow.kept g (Zbt h.lrow hm),h.len1,fun i b f hb hf=>⟨Zac (Yu (h.each i b f hb hf).1 g (fun e => ?_)) (by omega),(h.each i b f hb hf).2⟩,h.dis,h.apart,
  h.brow.kept g (Zbt h.brow hm),by have:=h.z1;show c.data.length<=_;omega,by have:=h.z2;show c.funcs.length<=_;omega,fun f hf=>by have:=h.z3 f hf;omega,by have:=h.z4;show c.blk.length<=_;omega⟩
 injection e with e
 exact h.apart (e ▸ List.mem_of_getElem? hb)
theorem Yrj {w w':World} {E:Nat} {c:CS} {vd vF vL vB:Value} {bm:Nat} {cv:List Value} {lb:List Nat} {m k b:Nat} {f:Txt->Option Int} (h:Zmz w E c vd vF vL vB bm cv lb m) (hb:lb[k]? = some b) (ho:Zhs w' b (m+1) f) (g:w.grownBy w' (some b)) :
 Zmz w' E { c with lm:=c.lm.set k f } vd vF vL vB bm cv lb (m+1):=by
 have hk:k<c.lm.length:=by rw [<- h.len1];exact (List.getElem?_eq_some_iff.1 hb).1
 have hm:=(h.each k b _ hb (List.getElem?_eq_getElem hk)).1
 refine ⟨Xj h.own g (fun t sz v n xs ho ht=>Zbt ho hm),Zac (Yu h.fm g (fun e => ?_)) (by omega),h.fmE,h.lrow.kept g (Zbt h.lrow hm),by rw [List.length_set];exact h.len1,fun i b' f' hb' hf' => ?_,h.dis,h.apart,
  h.brow.kept g (Zbt h.brow hm),by have:=h.z1;show c.data.length<=_;omega,by have:=h.z2;show c.funcs.length<=_;omega,fun f hf=>by have:=h.z3 f hf;omega,by have:=h.z4;show c.blk.length<=_;omega⟩
 · injection e with e
   exact h.apart (e ▸ List.mem_of_getElem? hb)
 · by_cases e:i=k
   · subst e
     rw [hb] at hb';injection hb' with hb';subst hb'
     rw [List.getElem?_set_self hk] at hf'
     injection hf' with hf';subst hf'
     exact ⟨ho,(h.each _ _ _ hb (List.getElem?_eq_getElem hk)).2⟩
   · rw [List.getElem?_set_ne (Ne.symm e)] at hf'
     obtain ⟨h1,h2⟩:=h.each i b' f' hb' hf'
     refine ⟨Zac (Yu h1 g (fun e2 => ?_)) (by omega),h2⟩
     injection e2 with e2
     subst e2
     exact e (h.dis _ _ _ hb' hb)
theorem Ylw {w w':World} {E:Nat} {c:CS} {vd vF vL vB vB':Value} {bm:Nat} {cv:List Value} {lb:List Nat} {m:Nat} {x:BlP} (h:Zmz w E c vd vF vL vB bm cv lb m) (ho:w'.ownsRow E 131 5 vB' (c.blk.length+1) (blV c.blk++bl5 x)) (g:w.grownBy w' vB.ownBlock) :
 Zmz w' E { c with blk:=c.blk++[x] } vd vF vL vB' bm cv lb (m+1):=by
 have hd:=h.brow
 refine ⟨Xj h.own g (fun t sz v n xs ho ht=>Zh ho hd (by rcases ht with h|h|h <;> subst h <;> decide)),Zac (Yu h.fm g (Xf h.fm hd)) (by omega),h.fmE,h.lrow.kept g (Zh h.lrow hd (by decide)),h.len1,
  fun i b f hb hf=>⟨Zac (Yu (h.each i b f hb hf).1 g (Xf (h.each i b f hb hf).1 hd)) (by omega),(h.each i b f hb hf).2⟩,h.dis,h.apart,?_,
  by have:=h.z1;show c.data.length<=_;omega,by have:=h.z2;show c.funcs.length<=_;omega,fun f hf=>by have:=h.z3 f hf;omega,by have:=h.z4;simp;omega⟩
 rw [Yds,List.length_append]
 simpa [blV] using ho
abbrev ShR:=ByteArray × Int × Int × Int
def Xb (T:List ShR) (x:Txt):Option Nat:=T.findIdx? fun r=>r.1.toList == x
def Zgd:Option Nat->Value
 | some i => .tuple #[.int .i64 (i:Int),.bool true]
 | none => .tuple #[.int .i64 0,.bool false]
theorem Zim {T:List ShR} {x:Txt} (h:∀ (j:Nat) (r:ShR),T[j]? = some r->(r.1.toList == x)=false):Xb T x=none:=by
 unfold Xb
 rw [List.findIdx?_eq_none_iff]
 intro r hr
 obtain ⟨j,hj⟩:=List.getElem?_of_mem hr
 exact h j r hj
theorem Zil {T:List ShR} {x:Txt} {k:Nat} {r:ShR} (hk:T[k]? = some r) (hx:(r.1.toList == x)=true) (h:∀ (j:Nat) (r:ShR),j<k->T[j]? = some r->(r.1.toList == x)=false):Xb T x=some k:=by
 unfold Xb
 rw [List.findIdx?_eq_some_iff_getElem]
 obtain ⟨hlt,e⟩:=List.getElem?_eq_some_iff.1 hk
 refine ⟨hlt,by rw [e];exact hx,fun j hj => ?_⟩
 have:=h j _ hj (List.getElem?_eq_getElem (Nat.lt_trans hj hlt))
 rw [this];simp
theorem Zkz {T:List ShR} {x:Txt} {k:Nat} {r:ShR} (hk:T[k]? = some r) (hx:(r.1.toList == x)=false) (h:∀ (j:Nat) (r:ShR),j<k->T[j]? = some r->(r.1.toList == x)=false):∀ (j:Nat) (r:ShR),j<k+1->T[j]? = some r->(r.1.toList == x)=false:=by
 intro j q hj hq
 by_cases e:j=k
 · subst e
   rw [hk] at hq;injection hq with hq;subst hq;exact hx
 · exact h j q (by omega) hq
theorem Zuc (T:List ShR) (S:Nat) (hL2:T.length<1000) (x:ByteArray) (w:World) (hS:S<w.heap.size) (hc:∀ (i:Nat) (v:Value),(Zlo T)[i]? = some v->w.cell? ⟨S,i,none⟩=some v) :
 Calls Tryz.prog 144 #[.slice (some ⟨S,0,none⟩) T.length T.length,.string x] w fun e w'=>e = .returned (Zgd (Xb T x.toList))/\w.grownBy w' none:=by
 have HC:=Hq hc
 clear hc
 go_enter Tryz.func144,Tryz.ntmps144
 go_wp2
 go_loopw [10] (fun i wr=>∃ k:Nat,i = .int .i64 k/\k<=T.length/\(∀ (j:Nat) (r:ShR),j<k->T[j]? = some r->(r.1.toList == x.toList)=false)/\w.grownBy wr none) (fun i _=>T.length - (intOf i).toNat)
 case atStart=>exact ⟨0,rfl,Nat.zero_le _,fun j r hj=>absurd hj (Nat.not_lt_zero _),Zb _ _⟩
 case round =>
  obtain ⟨k,rfl,hk,hall,hg⟩:=hrel
  have AL:=Hq hall
  have GR:=Hq hg
  clear hall hg
  by_cases hlt:k<T.length
  · obtain ⟨⟨nm,o,t,g⟩,hq⟩:∃ q,T[k]? = some q:=⟨_,List.getElem?_eq_getElem hlt⟩
    obtain ⟨f0,f1,f2,f3⟩:=Zka T k nm o t g hq
    have c0:=GR.out.cell (HC.out _ _ f0) (by simp)
    have c1:=GR.out.cell (HC.out _ _ f1) (by simp)
    have c2:=GR.out.cell (HC.out _ _ f2) (by simp)
    have c3:=GR.out.cell (HC.out _ _ f3) (by simp)
    have hS2:=Nat.lt_of_lt_of_le hS GR.out.size
    have HQ:=Hq hq
    clear hq f0 f1 f2 f3
    cases he:nm.toList == x.toList with
    | true =>
      have HP:=Hq (Zil HQ.out he AL.out)
      go_wp2
      go_ret2
      exact ⟨by rw [HP.out];rfl,Za GR.out (Ga _ _ _)⟩
    | false =>
      have AL2:=Hq (Zkz HQ.out he AL.out)
      go_wp2
      exact ⟨⟨k+1,by go_num,by omega,AL2.out,Za GR.out (Ga _ _ _)⟩,by simp [intOf];omega⟩
  · have hkn:k=T.length:=by omega
    subst hkn
    have HP:=Hq (Zim (fun j r hj=>AL.out j r ((List.getElem?_eq_some_iff.1 hj).1) hj))
    clear hlt
    go_wp2
    go_ret2
    exact ⟨by rw [HP.out];rfl,GR.out⟩
def callT:List ShR:=[(⟨#[111,112,101,110]⟩,0,3,1),(⟨#[114,101,97,100]⟩,0,3,1),(⟨#[119,114,105,116,101]⟩,0,3,1),(⟨#[108,105,115,116]⟩,0,4,1),(⟨#[99,108,111,115,101]⟩,0,1,1)]
theorem Zvo (w:World):Calls Tryz.prog 133 #[] w fun e w'=>∃ S,e = .returned (.slice (some ⟨S,0,none⟩) 5 5)/\w.grownBy w' none/\S<w'.heap.size/\∀ (i:Nat) (v:Value),(Zlo callT)[i]? = some v->w'.cell? ⟨S,i,none⟩=some v:=by
 go_enter Tryz.func133,Tryz.ntmps133
 go_wp2_with (refine wpList_buildSliceTo rfl 171 144 5 _ rfl w.heap.size rfl (some 6) rfl Tryz.underlying171 (Zlo callT).toArray (by kernel_rfl) ?_)
 go_ret
 exact ⟨_,rfl,Ga _ _ none,by simp,fun i v h=>by rw [World.cell?_alloc_at (hn:=rfl)];rw [List.getElem?_toArray];exact h⟩
theorem Yhc (x:ByteArray) (w:World):Calls Tryz.prog 114 #[.string x] w fun e w'=>e = .returned (Zgd (Xb shapeT x.toList))/\w.grownBy w' none:=by
 have C:=Hq Zko
 obtain ⟨i,b,hv⟩:∃ i b,Zgd (Xb shapeT x.toList) = .tuple #[.int .i64 i,.bool b]:=by
  cases Xb shapeT x.toList with
  | none=>exact ⟨_,_,rfl⟩
  | some x=>exact ⟨_,_,rfl⟩
 have PL:=Hq (fun S wr hS hc=>Zuc shapeT S (by rw [Zbm];decide) x wr hS hc)
 rw [hv,Zbm] at PL
 rw [hv]
 clear hv
 go_enter Tryz.func114,Tryz.ntmps114
 go_wp2_with (first
  | (go_at_call 85;refine (C.out _).mono ?_;rintro e w1 ⟨S,rfl,hg,hS,hsh⟩;have G1:=Hq hg;have SH:=Hq hsh;clear hg hsh)
  | (go_at_call 144;refine (PL.out _ _ SH.out.1 (fun i v hi=>SH.out.2 i v (by rw [Zqa,List.getElem?_toArray];exact hi))).mono ?_;rintro e w2 ⟨rfl,hg2⟩;have G2:=Hq hg2;clear hg2))
 go_ret2
 exact ⟨rfl,Za G1.out G2.out⟩
theorem Zlx (x:ByteArray) (w:World):Calls Tryz.prog 115 #[.string x] w fun e w'=>e = .returned (Zgd (Xb callT x.toList))/\w.grownBy w' none:=by
 have C:=Hq Zvo
 obtain ⟨i,b,hv⟩:∃ i b,Zgd (Xb callT x.toList) = .tuple #[.int .i64 i,.bool b]:=by
  cases Xb callT x.toList with
  | none=>exact ⟨_,_,rfl⟩
  | some x=>exact ⟨_,_,rfl⟩
 have PL:=Hq (fun S wr hS hc=>Zuc callT S (by decide) x wr hS hc)
 rw [hv] at PL
 rw [show callT.length=5 from rfl] at PL
 rw [hv]
 clear hv
 go_enter Tryz.func115,Tryz.ntmps115
 go_wp2_with (first
  | (go_at_call 133;refine (C.out _).mono ?_;rintro e w1 ⟨S,rfl,hg,hS,hsh⟩;have G1:=Hq hg;have HS:=Hq hS;have SH:=Hq hsh;clear hg hsh hS)
  | (go_at_call 144;refine (PL.out _ _ HS.out SH.out).mono ?_;rintro e w2 ⟨rfl,hg2⟩;have G2:=Hq hg2;clear hg2))
 go_ret2
 exact ⟨rfl,Za G1.out G2.out⟩
theorem Yq {l:Txt} {k:Nat} {c:UInt8} (h:l[k]? = some c):l.drop k=c::l.drop (k+1):=by
 obtain ⟨h1,h2⟩:=List.getElem?_eq_some_iff.1 h
 rw [List.drop_eq_getElem_cons h1,h2]
theorem Zvk {l:Txt} {k:Nat} (h:l.length<=k):l.drop k=[]:=List.drop_eq_nil_of_le h
theorem Yov {l:Txt} {k:Nat} (h:l.length<=k):unq (l.drop k)=none:=by rw [Zvk h];rfl
theorem Zyw {l:Txt} {k:Nat} {c:UInt8} (h:l[k]? = some c) (hc:c.toNat=34):unq (l.drop k)=some ([],1):=by
 rw [Yq h,unq.eq_def];simp only [];rw [if_pos hc]
theorem Yox {l:Txt} {k:Nat} {c:UInt8} (h:l[k]? = some c) (hn:c.toNat≠34) (hc:c.toNat<32\/126<c.toNat):unq (l.drop k)=none:=by
 rw [Yq h,unq.eq_def];simp only [];rw [if_neg hn,if_pos hc]
theorem Yow {l:Txt} {k:Nat} {c:UInt8} (h:l[k]? = some c) (hn:c.toNat≠34) (h1:32<=c.toNat) (h2:c.toNat<=126) (h3:c.toNat≠92):unq (l.drop k)=(unq (l.drop (k+1))).map fun x=>(c::x.1,x.2+1):=by
 rw [Yq h,unq.eq_def];simp only [];rw [if_neg hn,if_neg (by omega),if_pos h3]
theorem Yos {l:Txt} {k:Nat} {c:UInt8} (h:l[k]? = some c) (hc:c.toNat=92) (h1:l.length<=k+1):unq (l.drop k)=none:=by
 rw [Yq h,Zvk h1,unq.eq_def];simp only [];rw [if_neg (by omega),if_neg (by omega),if_neg (by omega)]
theorem You {l:Txt} {k:Nat} {c d:UInt8} (h:l[k]? = some c) (hc:c.toNat=92) (h1:l[k+1]? = some d) (hd:d.toNat=34\/d.toNat=92):unq (l.drop k)=(unq (l.drop (k+2))).map fun x=>(d::x.1,x.2+2):=by
 rw [Yq h,Yq h1,unq.eq_def];simp only [];rw [if_neg (by omega),if_neg (by omega),if_neg (by omega),if_pos hd]
theorem Yor {l:Txt} {k:Nat} {c d:UInt8} (h:l[k]? = some c) (hc:c.toNat=92) (h1:l[k+1]? = some d) (hd:d.toNat≠34) (hd2:d.toNat≠92) (hd3:d.toNat≠120):unq (l.drop k)=none:=by
 rw [Yq h,Yq h1,unq.eq_def];simp only [];rw [if_neg (by omega),if_neg (by omega),if_neg (by omega),if_neg (by omega),if_neg hd3]
theorem Yoq {l:Txt} {k:Nat} {c d:UInt8} (h:l[k]? = some c) (hc:c.toNat=92) (h1:l[k+1]? = some d) (hd:d.toNat≠34) (hd2:d.toNat≠92) (h3:l.length<=k+3):unq (l.drop k)=none:=by
 rw [Yq h,Yq h1,unq.eq_def];simp only [];rw [if_neg (by omega),if_neg (by omega),if_neg (by omega),if_neg (by omega)]
 split
 · have hl:(l.drop (k+1+1)).length<=1:=by rw [List.length_drop];omega
   cases hx:l.drop (k+1+1) with
   | nil=>rfl
   | cons x r =>
     cases r with
     | nil=>rfl
     | cons y r=>rw [hx] at hl;simp at hl
 · rfl
theorem Yot {l:Txt} {k a b:Nat} {c d x y:UInt8} (h:l[k]? = some c) (hc:c.toNat=92) (h1:l[k+1]? = some d) (hd:d.toNat=120) (h2:l[k+2]? = some x) (h3:l[k+3]? = some y) (ha:Zhu x=some a) (hb:Zhu y=some b) :
 unq (l.drop k)=(unq (l.drop (k+4))).map fun z=>(UInt8.ofNat (16*a+b)::z.1,z.2+4):=by
 rw [Yq h,Yq h1,Yq h2,Yq h3,unq.eq_def];simp only [];rw [if_neg (by omega),if_neg (by omega),if_neg (by omega),if_neg (by omega),if_pos hd,ha,hb]
theorem Yek {l:Txt} {k:Nat} {c d x y:UInt8} (h:l[k]? = some c) (hc:c.toNat=92) (h1:l[k+1]? = some d) (hd:d.toNat=120) (h2:l[k+2]? = some x) (h3:l[k+3]? = some y) (hx:Zhu x=none\/Zhu y=none):unq (l.drop k)=none:=by
 rw [Yq h,Yq h1,Yq h2,Yq h3,unq.eq_def];simp only [];rw [if_neg (by omega),if_neg (by omega),if_neg (by omega),if_neg (by omega),if_pos hd]
 rcases hx with hx|hx
 · rw [hx]
 · rw [hx];cases Zhu x <;> rfl
def Ytu (l:Txt) (s k:Nat) (acc:Txt):Prop:=s<=k/\unq (l.drop s)=(unq (l.drop k)).map fun x=>(acc++x.1,x.2+(k - s))
theorem Zpv (l:Txt) (s:Nat):Ytu l s s []:=⟨Nat.le_refl _,by cases unq (l.drop s) <;> simp⟩
theorem Ztg {l:Txt} {s k m:Nat} {acc:Txt} {e:UInt8} (h:Ytu l s k acc) (hs:unq (l.drop k)=(unq (l.drop (k+m))).map fun x=>(e::x.1,x.2+m)):Ytu l s (k+m) (acc++[e]):=by
 obtain ⟨h0,h1⟩:=h
 refine ⟨by omega,?_⟩
 rw [h1,hs,Option.map_map]
 congr 1
 funext x
 simp
 omega
theorem Jz {l:Txt} {s k:Nat} {acc:Txt} (h:Ytu l s k acc) (hs:unq (l.drop k)=none):unq (l.drop s)=none:=by rw [h.2,hs];rfl
theorem Zpw {l:Txt} {s k:Nat} {acc:Txt} (h:Ytu l s k acc) (hs:unq (l.drop k)=some ([],1)):unq (l.drop s)=some (acc,k - s+1):=by
 rw [h.2,hs]
 simp
 omega
end Go.Proofs.YteciblfmgdlipaaGreatDoor.AS
