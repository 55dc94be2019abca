import Derived.Test.YtecaolkbllbokaaMT23
import Derived.Test.YtecaolkbllbokaaMT22
set_option linter.unusedSimpArgs false
set_option linter.unusedVariables false
set_option maxRecDepth 100000
set_option maxHeartbeats 16000000
namespace Go.Proofs.Ytecaolkbllbokaa.CK
open Go.RowKit Go.Great Go.Maps
structure St2 (w0 : World) (bx gH gT : Nat) (fs : List FnP) (hs : Nat -> List Int) (tops : Nat -> Int) : Prop where
 n1 : gH ≠ bx
 n2 : gT ≠ bx
 h : ∀ (f : Nat) (ar lo r : Int) (c : List (Int × Int)), fs[f]? = some (ar, lo, r, c) -> ∃ (gh ch : Nat), w0.cell? ⟨gH, f, none⟩ = some (.slice (some ⟨gh, 0, none⟩) c.length ch) /\ gh ≠ bx /\
   ∀ i : Nat, i < c.length -> w0.cell? ⟨gh, i, none⟩ = some (.int .i64 ((hs f).getD i 0)) /\ -1 <= (hs f).getD i 0 /\ (hs f).getD i 0 <= 256
 t : ∀ f : Nat, f < fs.length -> w0.cell? ⟨gT, f, none⟩ = some (.int .i64 (tops f)) /\ 0 <= tops f /\ tops f <= 256
 ar : ∀ (f : Nat) (ar lo r : Int) (c : List (Int × Int)), fs[f]? = some (ar, lo, r, c) -> 0 <= ar /\ ar <= 16 /\ 0 <= lo /\ lo <= 64
structure XW (w0 w : World) (bx gH gT nf cH cT bk : Nat) (x2 x3 x4 x5 : Value) (kn : Nat -> Option Int) : Prop where
 g : w0.grownBy w (some bx)
 xc : w.heap[bx]? = some (.cells #[.slice (some ⟨gH, 0, none⟩) nf cH, .slice (some ⟨gT, 0, none⟩) nf cT, x2, x3, x4, x5] 57 (0, 0))
 lk : w0.heap.size <= bk
 kw : KnW w bk nf kn
theorem Zzd {w0 w w' : World} {bx gH gT nf cH cT bk : Nat} {x2 x3 x4 x5 : Value} {kn kn' : Nat -> Option Int} (H : XW w0 w bx gH gT nf cH cT bk x2 x3 x4 x5 kn) (hx : bx < w0.heap.size) (g : w.grownBy w' (some bk)) (k : KnW w' bk nf kn') : XW w0 w' bx gH gT nf cH cT bk x2 x3 x4 x5 kn' :=
 ⟨Jc H.g g H.lk, Zc H.xc g (by intro e; injection e with e; have := H.lk; omega), H.lk, k⟩
def KnB (fin : List Nat) (nf : Nat) (kn : Nat -> Option Int) : Prop := ∀ f, f < nf -> ∀ v, kn f = some v -> 0 <= v /\ v <= 1000 * ((rk fin f : Int) + 1)
def KnM (fin : List Nat) (nf : Nat) (kn kn' : Nat -> Option Int) (r : Nat) : Prop := (∀ x v, kn x = some v -> kn' x = some v) /\ ∀ x, x < nf -> kn' x ≠ none -> kn x ≠ none \/ rk fin x < r
def Yzw (w0 w : World) (bx gH gT nf cH cT bk : Nat) (x2 x3 x4 x5 : Value) (fin : List Nat) (kn : Nat -> Option Int) (f : Nat) (e : Ending) (w' : World) : Prop :=
 ∃ v kn', e = .returned (.int .i64 v) /\ w.grownBy w' (some bk) /\ KnW w' bk nf kn' /\ kn' f = some v /\ KnB fin nf kn' /\ KnM fin nf kn kn' (rk fin f + 1)
def cq9 : Nat -> Nat
 | 0 => 55
 | 1 => 56
 | 2 => 57
 | 3 => 58
 | 4 => 59
 | 5 => 60
 | 6 => 61
 | 7 => 62
 | 8 => 63
 | 9 => 64
 | 10 => 65
 | 11 => 66
 | 12 => 67
 | 13 => 68
 | 14 => 69
 | 15 => 70
 | 16 => 71
 | 17 => 72
 | 18 => 73
 | 19 => 74
 | 20 => 75
 | 21 => 76
 | 22 => 77
 | 23 => 78
 | 24 => 79
 | 25 => 80
 | 26 => 81
 | 27 => 82
 | 28 => 83
 | 29 => 84
 | 30 => 9
 | _ => 5000
theorem Xk : ∀ i, i < 31 -> ∀ j, j < 31 -> j ≠ i -> cq9 j ≠ cq9 i := by decide
theorem Yqw (i : Nat) (h : i < 31) : i = 0 \/ i = 1 \/ i = 2 \/ i = 3 \/ i = 4 \/ i = 5 \/ i = 6 \/ i = 7 \/ i = 8 \/ i = 9 \/ i = 10 \/ i = 11 \/ i = 12 \/ i = 13 \/ i = 14 \/ i = 15 \/ i = 16 \/ i = 17 \/ i = 18 \/ i = 19 \/ i = 20 \/ i = 21 \/ i = 22 \/ i = 23 \/ i = 24 \/ i = 25 \/ i = 26 \/ i = 27 \/ i = 28 \/ i = 29 \/ i = 30 := by omega
theorem Zha (j : Nat) (hj : j ∈ [0, 1, 2, 11, 12]) : ∀ i, i < 31 -> cq9 i ≠ j := by revert j; decide
def Zef (bw bx gH nF cH f gh nC ch at_ bF oF cF ca bk : Nat) (most hv ga v9 : Int) : Nat -> Value
 | 0 => .int .i64 most
 | 1 => .pointer (some ⟨bw, 0, none⟩)
 | 2 => .pointer (some ⟨bw, 0, none⟩)
 | 3 => .pointer (some ⟨bw, 3, none⟩)
 | 4 => .pointer (some ⟨bx, 0, none⟩)
 | 5 => .pointer (some ⟨bx, 0, none⟩)
 | 6 => .pointer (some ⟨bx, 0, none⟩)
 | 7 => .slice (some ⟨gH, 0, none⟩) nF cH
 | 8 => .int .i64 f
 | 9 => .pointer (some ⟨gH, f, none⟩)
 | 10 => .slice (some ⟨gh, 0, none⟩) nC ch
 | 11 => .int .i64 at_
 | 12 => .pointer (some ⟨gh, at_, none⟩)
 | 13 => .int .i64 hv
 | 14 => .pointer (some ⟨bw, 0, none⟩)
 | 15 => .pointer (some ⟨bw, 0, none⟩)
 | 16 => .pointer (some ⟨bw, 0, none⟩)
 | 17 => .pointer (some ⟨bw, 2, none⟩)
 | 18 => .slice (some ⟨bF, oF, none⟩) nF cF
 | 19 => .int .i64 ca
 | 20 => .pointer (some ⟨bF, oF + ca * 4, none⟩)
 | 21 => .pointer (some ⟨bF, oF + ca * 4, none⟩)
 | 22 => .int .i64 ga
 | 23 => .int .i64 (hv - ga)
 | 24 => .pointer (some ⟨bw, 0, none⟩)
 | 25 => .int .i64 ca
 | 26 => .map (some bk)
 | 27 => .int .i64 v9
 | 28 => .int .i64 (hv - ga + v9)
 | 29 => .int .i64 (max most (hv - ga + v9))
 | 30 => .int .i64 (max most (hv - ga + v9))
 | _ => undef
theorem d28 {l : Array Bool} (h : l.getD 27 false = true) : ∀ p ∈ [(30, 0), (28, 27), (29, 27), (30, 27)], p.1 = 28 -> l.getD p.2 false = true := by
 intro p hp e
 simp only [List.mem_cons, List.not_mem_nil, or_false] at hp
 rcases hp with rfl | rfl | rfl | rfl <;> simp only [] at e ⊢ <;> first | exact h | omega
theorem d29 {l : Array Bool} (h : l.getD 27 false = true) : ∀ p ∈ [(30, 0), (28, 27), (29, 27), (30, 27)], p.1 = 29 -> l.getD p.2 false = true := by
 intro p hp e
 simp only [List.mem_cons, List.not_mem_nil, or_false] at hp
 rcases hp with rfl | rfl | rfl | rfl <;> simp only [] at e ⊢ <;> first | exact h | omega
theorem d30 {l : Array Bool} (h0 : l.getD 0 false = true) (h : l.getD 27 false = true) : ∀ p ∈ [(30, 0), (28, 27), (29, 27), (30, 27)], p.1 = 30 -> l.getD p.2 false = true := by
 intro p hp e
 simp only [List.mem_cons, List.not_mem_nil, or_false] at hp
 rcases hp with rfl | rfl | rfl | rfl <;> simp only [] at e ⊢ <;> first | exact h | exact h0 | omega
theorem Xby : ∀ i, i < 31 -> cq9 i = 9 -> i = 30 := by decide
theorem Yzc {bw bx gH nF cH f gh nC ch at_ bF oF cF ca bk : Nat} {most hv ga v9 v8 : Int} (l : Array Bool) (hun : l.getD 27 false = false) (h28 : l.getD 28 false = false) (h29 : l.getD 29 false = false) (h30 : l.getD 30 false = false) :
 ∀ i, i < 31 -> l.getD i false = true -> cq9 i < 103 -> Zef bw bx gH nF cH f gh nC ch at_ bF oF cF ca bk most hv ga v8 i = Zef bw bx gH nF cH f gh nC ch at_ bF oF cF ca bk most hv ga v9 i := by
 intro i hi hl _
 rcases Yqw i hi with rfl | rfl | rfl | rfl | rfl | rfl | rfl | rfl | rfl | rfl | rfl | rfl | rfl | rfl | rfl | rfl | rfl | rfl | rfl | rfl | rfl | rfl | rfl | rfl | rfl | rfl | rfl | rfl | rfl | rfl | rfl <;> first | rfl | (rw [hun] at hl; cases hl) | (rw [h28] at hl; cases hl) | (rw [h29] at hl; cases hl) | (rw [h30] at hl; cases hl)
theorem Yjh (N : Nat) : ∀ (w0 w : World) (bw bx bm B : Nat) (mem : Int) (pd : Option Addr) (nd cd : Nat) (pF : Option Addr) (cF : Nat) (fs : List FnP) (cl : Nat -> List Nat) (gH gT cH cT bk : Nat) (x2 x3 x4 x5 : Value) (hs : Nat -> List Int) (tops : Nat -> Int) (kn : Nat -> Option Int) (fin : List Nat) (f : Nat)
 (S : St w0 bw bx bm B mem pd nd cd pF cF fs cl) (S2 : St2 w0 bx gH gT fs hs tops) (H : XW w0 w bx gH gT fs.length cH cT bk x2 x3 x4 x5 kn) (hKB : KnB fin fs.length kn) (hfin : Zsw (Xw fs cl) fin) (hlt : ∀ x ∈ fin, x < fs.length) (hfl : fin.length <= 64) (hff : f ∈ fin) (hN : rk fin f < N),
 Calls Try.prog 63 #[.pointer (some ⟨bw, 0, none⟩), .int .i64 f, .map (some bk)] w (Yzw w0 w bx gH gT fs.length cH cT bk x2 x3 x4 x5 fin kn f) := by
 induction N with
 | zero => intro w0 w bw bx bm B mem pd nd cd pF cF fs cl gH gT cH cT bk x2 x3 x4 x5 hs tops kn fin f S S2 H hKB hfin hlt hfl hff hN; omega
 | succ N ih =>
   intro w0 w bw bx bm B mem pd nd cd pF cF fs cl gH gT cH cT bk x2 x3 x4 x5 hs tops kn fin f S S2 H hKB hfin hlt hfl hff hN
   have hf := hlt f hff
   have hlook := Yqn H.kw hf
   have hrk := Yll fin f hff
   cases hk : kn f with
   | some v =>
     rw [hk] at hlook
     simp only [Option.getD_some, Option.isSome_some] at hlook
     have HH := Hq H
     have HK := Hq hk
     have HB := Hq hKB
     clear S S2 H hKB ih hk hfin hlt
     go_enter Try.func63, Try.ntmps63
     go_wp2
     go_ret
     exact ⟨v, kn, rfl, Ze _ _, HH.out.kw, HK.out, HB.out, fun x u h => h, fun x _ h => Or.inl h⟩
   | none =>
     rw [hk] at hlook
     simp only [Option.getD_none, Option.isSome_none] at hlook
     have hlx := S.lx
     have kb := Zc S.bwc H.g (by intro e; injection e with e; exact S.ne1 e.symm)
     have b3 := Cq _ _ 3 _ _ _ kb
     have b4 := Cq _ _ 4 _ _ _ kb
     have j1 := Cq _ _ 1 _ _ _ H.xc
     have s1 := (Gs kb)
     have s2 := (Gs H.xc)
     obtain ⟨ht0, ht1, ht2⟩ := S2.t f hf
     have ct := H.g.cell ht0 (by intro e; injection e with e; exact S2.n2 e)
     have sT := World.block_lt_of_cell? _ _ ct
     have hfi : (f : Int) < (fs.length : Int) := by omega
     obtain ⟨pc, cc, hrun, hcells⟩ := S.calls f hf
     have hr1 := hrun w (H.g.block bm S.lm (by intro e; injection e with e; exact S.ne2 e))
     obtain ⟨⟨ar, lo, r, c⟩, hfn⟩ : ∃ fn, fs[f]? = some fn := ⟨_, List.getElem?_eq_getElem hf⟩
     obtain ⟨hcl, hok⟩ := S.ok f ar lo r c hfn
     have hci : ((cl f).length : Int) <= 4096 := by omega
     have SS := Hq S
     have SS2 := Hq S2
     have HH := Hq H
     have IH := Hq ih
     have HKN := Hq hk
     have HCE := Hq hcells
     have HFN := Hq hfn
     have HOK := Hq hok
     have HB := Hq hKB
     have HFIN := Hq hfin
     have HLT := Hq hlt
     have HFF := Hq hff
     have HNN := Hq hN
     clear S S2 H ih hk hcells hfn hok hKB hfin hlt hff hN hrun kb ht0
     go_enter Try.func63, Try.ntmps63
     go_wp2_with (at_lookup; refine Zby rfl _ _ 104 rfl rfl rfl hr1 ?_)
     clear b3 b4 j1 s1 s2 ct sT hr1 hlook
     go_loopw [9, 38] (fun m i wr => ∃ (k : Nat) (most : Int) (knk : Nat -> Option Int), m = .int .i64 most /\ i = .int .i64 k /\ k <= (cl f).length /\ w.grownBy wr (some bk) /\ XW w0 wr bx gH gT fs.length cH cT bk x2 x3 x4 x5 knk /\ KnB fin fs.length knk /\ KnM fin fs.length kn knk (rk fin f) /\ 0 <= most /\ most <= 256 + 1000 * (rk fin f : Int)) (fun _ i _ => (cl f).length - (intOf i).toNat)
     case atStart => exact ⟨0, tops f, kn, rfl, rfl, Nat.zero_le _, Ze _ _, HH.out, HB.out, ⟨fun x u h => h, fun x _ h => Or.inl h⟩, ht1, by omega⟩
     case round =>
      obtain ⟨k, most, knk, rfl, rfl, hk, hgk, hW, hkb, hkm, hm0, hm1⟩ := hrel
      obtain ⟨wo, hwo⟩ : ∃ wo, wo = wr := ⟨_, rfl⟩
      subst hwo
      by_cases hlt : (k : Int) < ((cl f).length : Int)
      · obtain ⟨at_, hat⟩ : ∃ a, (cl f)[k]? = some a := ⟨_, List.getElem?_eq_getElem (by omega)⟩
        obtain ⟨bc, hpc, hbx, hcell⟩ := HCE.out k at_ hat
        obtain ⟨ca, hins, hca2⟩ := HOK.out at_ (List.mem_of_getElem? hat)
        have ec := hW.g.cell hcell (by intro e; injection e with e; exact hbx e)
        subst hpc
        have sc := World.block_lt_of_cell? _ _ ec
        have kb := Zc SS.out.bwc hW.g (by intro e; injection e with e; exact SS.out.ne1 e.symm)
        have b2 := Cq _ _ 2 _ _ _ kb
        have b3 := Cq _ _ 3 _ _ _ kb
        have y0 := Cq _ _ 0 _ _ _ hW.xc
        have s1 := (Gs kb)
        have lbw := (Gs SS.out.bwc)
        have hFr := Yb SS.out.hF hW.g (fun r e => by injection e with e; rw [<- e]; exact SS.out.bx_)
        obtain ⟨bF, oF, hpF, hbF, hcF⟩ := hFr (by omega)
        obtain ⟨-, -, -, pc', cc', e3, hcode⟩ := hcF f ar lo r c HFN.out
        have hat2 := (List.getElem?_eq_some_iff.1 hins).1
        obtain ⟨b', o', hpc', hb', hcc⟩ := hcode (by omega)
        subst hpc' hpF
        obtain ⟨d0, d1⟩ := hcc at_ 17 ca hins
        have sF := World.block_lt_of_cell? _ _ e3
        have sb := World.block_lt_of_cell? _ _ d1
        have hai : (at_ : Int) < (c.length : Int) := by omega
        obtain ⟨gh, ch, eH0, hghx, hhv⟩ := SS2.out.h f ar lo r c HFN.out
        obtain ⟨eh0, hv0, hv1⟩ := hhv at_ hat2
        have c1 := hW.g.cell eH0 (by intro e; injection e with e; exact SS2.out.n1 e)
        have c2 := hW.g.cell eh0 (by intro e; injection e with e; exact hghx e)
        have lgH : gH < w0.heap.size := World.block_lt_of_cell? _ _ eH0
        have lgh : gh < w0.heap.size := World.block_lt_of_cell? _ _ eh0
        obtain ⟨⟨ga, lo', r', c'⟩, hfa⟩ : ∃ fn, fs[ca]? = some fn := ⟨_, List.getElem?_eq_getElem hca2⟩
        obtain ⟨c4, -, -, -⟩ := hcF ca ga lo' r' c' hfa
        obtain ⟨hga0, hga1, -, -⟩ := SS2.out.ar ca ga lo' r' c' hfa
        have hbk := hW.lk
        have hBw := SS.out.hB
        have eb : ¬ bw = bk := by omega
        have ex : ¬ bx = bk := by omega
        have eH : ¬ gH = bk := by omega
        have eh : ¬ gh = bk := by omega
        have eF : ¬ bF = bk := by omega
        have hf2 := hf
        generalize hhv2 : (hs f).getD at_ 0 = hv at c2 hv0 hv1
        have hsub : IntKind.i64.wrap (hv - ga) = hv - ga := IntWalk.i64_in _ (by omega)
        have hmem : ca ∈ Xw fs cl f := by
         unfold Xw
         simp only [HFN.out]
         refine List.mem_map.2 ⟨at_, List.mem_of_getElem? hat, ?_⟩
         simp only [hins]
         exact Int.toNat_natCast ca
        obtain ⟨hcf, hcr⟩ := Zqu HFIN.out f HFF.out ca hmem
        have hXd : XW w0 wo.drew bx gH gT fs.length cH cT bk x2 x3 x4 x5 knk := ⟨Zf hW.g, hW.xc, hW.lk, Zcl hW.kw (Zf (Ze wo none)) (by simp)⟩
        have CA := Hq (IH.out w0 wo.drew bw bx bm B mem pd nd cd _ cF fs cl gH gT cH cT bk x2 x3 x4 x5 hs tops knk fin ca SS.out SS2.out hXd hkb HFIN.out HLT.out hfl hcf (by have := HNN.out; omega))
        have hrc := Yll fin ca hcf
        have HHW := Hq hW
        have HXD := Hq hXd
        have HKM := Hq hkm
        have HGK := Hq hgk
        have HCR := Hq hcr
        clear hW hkb hkm hgk hat hins hcell hcc hcode hcF hFr hbx kb hXd hcr hhv eH0 eh0 hhv2 hfa hmem
        go_upto_region 9 with fail
        rename_i K hK
        refine Zck (n := 31) (J := fun a0 l a1 w1 => ∃ v9 kn9, RJ a0 103 31 cq9 (Zef bw bx gH fs.length cH f gh c.length ch at_ bF oF cF ca bk most hv ga v9) l a1 /\ WX 27 31 [(30, 0), (28, 27), (29, 27), (30, 27)] wo.drew (some bk) (fun w9 => KnW w9 bk fs.length kn9 /\ kn9 ca = some v9 /\ KnB fin fs.length kn9 /\ KnM fin fs.length knk kn9 (rk fin ca + 1)) l w1) (by kernel_rfl) rfl (Zen (by kernel_rfl)) (fun l a1 w1 h => by obtain ⟨_, _, _, h⟩ := h; exact h.sz) ⟨0, knk, Zax rfl, Zlo _ _ _ _ _ _⟩ ?step ?fin
        case step =>
         intro l a1 w' i hJJ hi hin
         obtain ⟨v9, kn9, hJ, hW⟩ := hJJ
         have hun : l.getD i false = false := getD_both (mem_ready.1 hi).1
         have gW : wo.grownBy w' (some bk) := Za (Zf (Ze wo _)) hW.g
         rcases Yqw i hin with rfl | rfl | rfl | rfl | rfl | rfl | rfl | rfl | rfl | rfl | rfl | rfl | rfl | rfl | rfl | rfl | rfl | rfl | rfl | rfl | rfl | rfl | rfl | rfl | rfl | rfl | rfl | rfl | rfl | rfl | rfl
         · have e9 : a1.tmps.getD 9 undef = .int .i64 most := hJ.un 9 (fun i hi hl he => by
            have h30 : i = 30 := Xby i hi he
            subst h30
            have := hW.x (30, 0) (by decide) hl
            rw [hun] at this; cases this)
           exact Zj (Zq (WS := fun l w => WX 27 31 [(30, 0), (28, 27), (29, 27), (30, 27)] wo.drew (some bk) (fun w9 => KnW w9 bk fs.length kn9 /\ kn9 ca = some v9 /\ KnB fin fs.length kn9 /\ KnM fin fs.length knk kn9 (rk fin ca + 1)) l w) hJ rfl (by rfl) rfl (by decide) (by decide) (Xk _ (by decide)) (w' := w') (by simp [execOp, Act.eval, e9, go_sem, Zef]) (Zs hW (by decide) (by decide) (Zp (by decide)))) (fun a9 w9 h9 => ⟨v9, kn9, h9⟩)
         · have e0 : a1.tmps.getD 0 undef = .pointer (some ⟨bw, 0, none⟩) := hJ.un 0 (fun i hi _ => Zha 0 (by decide) i hi)
           exact Zj (Zq (WS := fun l w => WX 27 31 [(30, 0), (28, 27), (29, 27), (30, 27)] wo.drew (some bk) (fun w9 => KnW w9 bk fs.length kn9 /\ kn9 ca = some v9 /\ KnB fin fs.length kn9 /\ KnM fin fs.length knk kn9 (rk fin ca + 1)) l w) hJ rfl (by rfl) rfl (by decide) (by decide) (Xk _ (by decide)) (w' := w') (by simp [execOp, resolve, invoke, builtin, Act.eval, e0, hat2, hf2, hca2, hsub, go_sem, Zef]) (Zs hW (by decide) (by decide) (Zp (by decide)))) (fun a9 w9 h9 => ⟨v9, kn9, h9⟩)
         · have e56 : a1.tmps.getD 56 undef = .pointer (some ⟨bw, 0, none⟩) := (hJ.sl 1 (by decide) (Zb hi 1 (by kernel_rfl)) (by decide))
           exact Zj (Zq (WS := fun l w => WX 27 31 [(30, 0), (28, 27), (29, 27), (30, 27)] wo.drew (some bk) (fun w9 => KnW w9 bk fs.length kn9 /\ kn9 ca = some v9 /\ KnB fin fs.length kn9 /\ KnM fin fs.length knk kn9 (rk fin ca + 1)) l w) hJ rfl (by rfl) rfl (by decide) (by decide) (Xk _ (by decide)) (w' := w') (by simp [execOp, resolve, invoke, builtin, Act.eval, e56, hat2, hf2, hca2, hsub, go_sem, Zef]) (Zs hW (by decide) (by decide) (Zp (by decide)))) (fun a9 w9 h9 => ⟨v9, kn9, h9⟩)
         · have e57 : a1.tmps.getD 57 undef = .pointer (some ⟨bw, 0, none⟩) := (hJ.sl 2 (by decide) (Zb hi 2 (by kernel_rfl)) (by decide))
           exact Zj (Zq (WS := fun l w => WX 27 31 [(30, 0), (28, 27), (29, 27), (30, 27)] wo.drew (some bk) (fun w9 => KnW w9 bk fs.length kn9 /\ kn9 ca = some v9 /\ KnB fin fs.length kn9 /\ KnM fin fs.length knk kn9 (rk fin ca + 1)) l w) hJ rfl (by rfl) rfl (by decide) (by decide) (Xk _ (by decide)) (w' := w') (by simp [execOp, resolve, invoke, builtin, Act.eval, e57, hat2, hf2, hca2, hsub, go_sem, Zef]) (Zs hW (by decide) (by decide) (Zp (by decide)))) (fun a9 w9 h9 => ⟨v9, kn9, h9⟩)
         · have e58 : a1.tmps.getD 58 undef = .pointer (some ⟨bw, 3, none⟩) := (hJ.sl 3 (by decide) (Zb hi 3 (by kernel_rfl)) (by decide))
           have h0 := gW.cell b3 (by simpa using eb)
           exact Zj (Zq (WS := fun l w => WX 27 31 [(30, 0), (28, 27), (29, 27), (30, 27)] wo.drew (some bk) (fun w9 => KnW w9 bk fs.length kn9 /\ kn9 ca = some v9 /\ KnB fin fs.length kn9 /\ KnM fin fs.length knk kn9 (rk fin ca + 1)) l w) hJ rfl (by rfl) rfl (by decide) (by decide) (Xk _ (by decide)) (w' := w') (by simp [execOp, resolve, invoke, builtin, Act.eval, e58, h0, hat2, hf2, hca2, hsub, go_sem, Zef]) (Zs hW (by decide) (by decide) (Zp (by decide)))) (fun a9 w9 h9 => ⟨v9, kn9, h9⟩)
         · have e59 : a1.tmps.getD 59 undef = .pointer (some ⟨bx, 0, none⟩) := (hJ.sl 4 (by decide) (Zb hi 4 (by kernel_rfl)) (by decide))
           exact Zj (Zq (WS := fun l w => WX 27 31 [(30, 0), (28, 27), (29, 27), (30, 27)] wo.drew (some bk) (fun w9 => KnW w9 bk fs.length kn9 /\ kn9 ca = some v9 /\ KnB fin fs.length kn9 /\ KnM fin fs.length knk kn9 (rk fin ca + 1)) l w) hJ rfl (by rfl) rfl (by decide) (by decide) (Xk _ (by decide)) (w' := w') (by simp [execOp, resolve, invoke, builtin, Act.eval, e59, hat2, hf2, hca2, hsub, go_sem, Zef]) (Zs hW (by decide) (by decide) (Zp (by decide)))) (fun a9 w9 h9 => ⟨v9, kn9, h9⟩)
         · have e60 : a1.tmps.getD 60 undef = .pointer (some ⟨bx, 0, none⟩) := (hJ.sl 5 (by decide) (Zb hi 5 (by kernel_rfl)) (by decide))
           exact Zj (Zq (WS := fun l w => WX 27 31 [(30, 0), (28, 27), (29, 27), (30, 27)] wo.drew (some bk) (fun w9 => KnW w9 bk fs.length kn9 /\ kn9 ca = some v9 /\ KnB fin fs.length kn9 /\ KnM fin fs.length knk kn9 (rk fin ca + 1)) l w) hJ rfl (by rfl) rfl (by decide) (by decide) (Xk _ (by decide)) (w' := w') (by simp [execOp, resolve, invoke, builtin, Act.eval, e60, hat2, hf2, hca2, hsub, go_sem, Zef]) (Zs hW (by decide) (by decide) (Zp (by decide)))) (fun a9 w9 h9 => ⟨v9, kn9, h9⟩)
         · have e61 : a1.tmps.getD 61 undef = .pointer (some ⟨bx, 0, none⟩) := (hJ.sl 6 (by decide) (Zb hi 6 (by kernel_rfl)) (by decide))
           have h0 := gW.cell y0 (by simpa using ex)
           exact Zj (Zq (WS := fun l w => WX 27 31 [(30, 0), (28, 27), (29, 27), (30, 27)] wo.drew (some bk) (fun w9 => KnW w9 bk fs.length kn9 /\ kn9 ca = some v9 /\ KnB fin fs.length kn9 /\ KnM fin fs.length knk kn9 (rk fin ca + 1)) l w) hJ rfl (by rfl) rfl (by decide) (by decide) (Xk _ (by decide)) (w' := w') (by simp [execOp, resolve, invoke, builtin, Act.eval, e61, h0, hat2, hf2, hca2, hsub, go_sem, Zef]) (Zs hW (by decide) (by decide) (Zp (by decide)))) (fun a9 w9 h9 => ⟨v9, kn9, h9⟩)
         · have e1 : a1.tmps.getD 1 undef = .int .i64 f := hJ.un 1 (fun i hi _ => Zha 1 (by decide) i hi)
           exact Zj (Zq (WS := fun l w => WX 27 31 [(30, 0), (28, 27), (29, 27), (30, 27)] wo.drew (some bk) (fun w9 => KnW w9 bk fs.length kn9 /\ kn9 ca = some v9 /\ KnB fin fs.length kn9 /\ KnM fin fs.length knk kn9 (rk fin ca + 1)) l w) hJ rfl (by rfl) rfl (by decide) (by decide) (Xk _ (by decide)) (w' := w') (by simp [execOp, resolve, invoke, builtin, Act.eval, e1, hat2, hf2, hca2, hsub, go_sem, Zef]) (Zs hW (by decide) (by decide) (Zp (by decide)))) (fun a9 w9 h9 => ⟨v9, kn9, h9⟩)
         · have e62 : a1.tmps.getD 62 undef = .slice (some ⟨gH, 0, none⟩) fs.length cH := (hJ.sl 7 (by decide) (Zb hi 7 (by kernel_rfl)) (by decide))
           have e63 : a1.tmps.getD 63 undef = .int .i64 f := (hJ.sl 8 (by decide) (Zb hi 8 (by kernel_rfl)) (by decide))
           exact Zj (Zq (WS := fun l w => WX 27 31 [(30, 0), (28, 27), (29, 27), (30, 27)] wo.drew (some bk) (fun w9 => KnW w9 bk fs.length kn9 /\ kn9 ca = some v9 /\ KnB fin fs.length kn9 /\ KnM fin fs.length knk kn9 (rk fin ca + 1)) l w) hJ rfl (by rfl) rfl (by decide) (by decide) (Xk _ (by decide)) (w' := w') (by first | (simp [execOp, resolve, invoke, builtin, Act.eval, e62, e63, hat2, hf2, hca2, hsub, go_sem, Zef]; done) | (simp [execOp, resolve, invoke, builtin, Act.eval, e62, e63, hat2, hf2, hca2, hsub, go_sem, Zef]; omega) | (simp [execOp, resolve, invoke, builtin, Act.eval, e62, e63, hat2, hf2, hca2, hsub, go_sem, Zef]; intro h; omega) | (simp [execOp, resolve, invoke, builtin, Act.eval, e62, e63, hat2, hf2, hca2, hsub, go_sem, Zef]; intros; omega)) (Zs hW (by decide) (by decide) (Zp (by decide)))) (fun a9 w9 h9 => ⟨v9, kn9, h9⟩)
         · have e64 : a1.tmps.getD 64 undef = .pointer (some ⟨gH, f, none⟩) := (hJ.sl 9 (by decide) (Zb hi 9 (by kernel_rfl)) (by decide))
           have h0 := gW.cell c1 (by simpa using eH)
           exact Zj (Zq (WS := fun l w => WX 27 31 [(30, 0), (28, 27), (29, 27), (30, 27)] wo.drew (some bk) (fun w9 => KnW w9 bk fs.length kn9 /\ kn9 ca = some v9 /\ KnB fin fs.length kn9 /\ KnM fin fs.length knk kn9 (rk fin ca + 1)) l w) hJ rfl (by rfl) rfl (by decide) (by decide) (Xk _ (by decide)) (w' := w') (by simp [execOp, resolve, invoke, builtin, Act.eval, e64, h0, hat2, hf2, hca2, hsub, go_sem, Zef]) (Zs hW (by decide) (by decide) (Zp (by decide)))) (fun a9 w9 h9 => ⟨v9, kn9, h9⟩)
         · have e11 : a1.tmps.getD 11 undef = .int .i64 at_ := hJ.un 11 (fun i hi _ => Zha 11 (by decide) i hi)
           exact Zj (Zq (WS := fun l w => WX 27 31 [(30, 0), (28, 27), (29, 27), (30, 27)] wo.drew (some bk) (fun w9 => KnW w9 bk fs.length kn9 /\ kn9 ca = some v9 /\ KnB fin fs.length kn9 /\ KnM fin fs.length knk kn9 (rk fin ca + 1)) l w) hJ rfl (by rfl) rfl (by decide) (by decide) (Xk _ (by decide)) (w' := w') (by simp [execOp, resolve, invoke, builtin, Act.eval, e11, hat2, hf2, hca2, hsub, go_sem, Zef]) (Zs hW (by decide) (by decide) (Zp (by decide)))) (fun a9 w9 h9 => ⟨v9, kn9, h9⟩)
         · have e65 : a1.tmps.getD 65 undef = .slice (some ⟨gh, 0, none⟩) c.length ch := (hJ.sl 10 (by decide) (Zb hi 10 (by kernel_rfl)) (by decide))
           have e66 : a1.tmps.getD 66 undef = .int .i64 at_ := (hJ.sl 11 (by decide) (Zb hi 11 (by kernel_rfl)) (by decide))
           exact Zj (Zq (WS := fun l w => WX 27 31 [(30, 0), (28, 27), (29, 27), (30, 27)] wo.drew (some bk) (fun w9 => KnW w9 bk fs.length kn9 /\ kn9 ca = some v9 /\ KnB fin fs.length kn9 /\ KnM fin fs.length knk kn9 (rk fin ca + 1)) l w) hJ rfl (by rfl) rfl (by decide) (by decide) (Xk _ (by decide)) (w' := w') (by first | (simp [execOp, resolve, invoke, builtin, Act.eval, e65, e66, hat2, hf2, hca2, hsub, go_sem, Zef]; done) | (simp [execOp, resolve, invoke, builtin, Act.eval, e65, e66, hat2, hf2, hca2, hsub, go_sem, Zef]; omega) | (simp [execOp, resolve, invoke, builtin, Act.eval, e65, e66, hat2, hf2, hca2, hsub, go_sem, Zef]; intro h; omega) | (simp [execOp, resolve, invoke, builtin, Act.eval, e65, e66, hat2, hf2, hca2, hsub, go_sem, Zef]; intros; omega)) (Zs hW (by decide) (by decide) (Zp (by decide)))) (fun a9 w9 h9 => ⟨v9, kn9, h9⟩)
         · have e67 : a1.tmps.getD 67 undef = .pointer (some ⟨gh, at_, none⟩) := (hJ.sl 12 (by decide) (Zb hi 12 (by kernel_rfl)) (by decide))
           have h0 := gW.cell c2 (by simpa using eh)
           exact Zj (Zq (WS := fun l w => WX 27 31 [(30, 0), (28, 27), (29, 27), (30, 27)] wo.drew (some bk) (fun w9 => KnW w9 bk fs.length kn9 /\ kn9 ca = some v9 /\ KnB fin fs.length kn9 /\ KnM fin fs.length knk kn9 (rk fin ca + 1)) l w) hJ rfl (by rfl) rfl (by decide) (by decide) (Xk _ (by decide)) (w' := w') (by simp [execOp, resolve, invoke, builtin, Act.eval, e67, h0, hat2, hf2, hca2, hsub, go_sem, Zef]) (Zs hW (by decide) (by decide) (Zp (by decide)))) (fun a9 w9 h9 => ⟨v9, kn9, h9⟩)
         · have e0 : a1.tmps.getD 0 undef = .pointer (some ⟨bw, 0, none⟩) := hJ.un 0 (fun i hi _ => Zha 0 (by decide) i hi)
           exact Zj (Zq (WS := fun l w => WX 27 31 [(30, 0), (28, 27), (29, 27), (30, 27)] wo.drew (some bk) (fun w9 => KnW w9 bk fs.length kn9 /\ kn9 ca = some v9 /\ KnB fin fs.length kn9 /\ KnM fin fs.length knk kn9 (rk fin ca + 1)) l w) hJ rfl (by rfl) rfl (by decide) (by decide) (Xk _ (by decide)) (w' := w') (by simp [execOp, resolve, invoke, builtin, Act.eval, e0, hat2, hf2, hca2, hsub, go_sem, Zef]) (Zs hW (by decide) (by decide) (Zp (by decide)))) (fun a9 w9 h9 => ⟨v9, kn9, h9⟩)
         · have e69 : a1.tmps.getD 69 undef = .pointer (some ⟨bw, 0, none⟩) := (hJ.sl 14 (by decide) (Zb hi 14 (by kernel_rfl)) (by decide))
           exact Zj (Zq (WS := fun l w => WX 27 31 [(30, 0), (28, 27), (29, 27), (30, 27)] wo.drew (some bk) (fun w9 => KnW w9 bk fs.length kn9 /\ kn9 ca = some v9 /\ KnB fin fs.length kn9 /\ KnM fin fs.length knk kn9 (rk fin ca + 1)) l w) hJ rfl (by rfl) rfl (by decide) (by decide) (Xk _ (by decide)) (w' := w') (by simp [execOp, resolve, invoke, builtin, Act.eval, e69, hat2, hf2, hca2, hsub, go_sem, Zef]) (Zs hW (by decide) (by decide) (Zp (by decide)))) (fun a9 w9 h9 => ⟨v9, kn9, h9⟩)
         · have e70 : a1.tmps.getD 70 undef = .pointer (some ⟨bw, 0, none⟩) := (hJ.sl 15 (by decide) (Zb hi 15 (by kernel_rfl)) (by decide))
           exact Zj (Zq (WS := fun l w => WX 27 31 [(30, 0), (28, 27), (29, 27), (30, 27)] wo.drew (some bk) (fun w9 => KnW w9 bk fs.length kn9 /\ kn9 ca = some v9 /\ KnB fin fs.length kn9 /\ KnM fin fs.length knk kn9 (rk fin ca + 1)) l w) hJ rfl (by rfl) rfl (by decide) (by decide) (Xk _ (by decide)) (w' := w') (by simp [execOp, resolve, invoke, builtin, Act.eval, e70, hat2, hf2, hca2, hsub, go_sem, Zef]) (Zs hW (by decide) (by decide) (Zp (by decide)))) (fun a9 w9 h9 => ⟨v9, kn9, h9⟩)
         · have e71 : a1.tmps.getD 71 undef = .pointer (some ⟨bw, 0, none⟩) := (hJ.sl 16 (by decide) (Zb hi 16 (by kernel_rfl)) (by decide))
           exact Zj (Zq (WS := fun l w => WX 27 31 [(30, 0), (28, 27), (29, 27), (30, 27)] wo.drew (some bk) (fun w9 => KnW w9 bk fs.length kn9 /\ kn9 ca = some v9 /\ KnB fin fs.length kn9 /\ KnM fin fs.length knk kn9 (rk fin ca + 1)) l w) hJ rfl (by rfl) rfl (by decide) (by decide) (Xk _ (by decide)) (w' := w') (by simp [execOp, resolve, invoke, builtin, Act.eval, e71, hat2, hf2, hca2, hsub, go_sem, Zef]) (Zs hW (by decide) (by decide) (Zp (by decide)))) (fun a9 w9 h9 => ⟨v9, kn9, h9⟩)
         · have e72 : a1.tmps.getD 72 undef = .pointer (some ⟨bw, 2, none⟩) := (hJ.sl 17 (by decide) (Zb hi 17 (by kernel_rfl)) (by decide))
           have h0 := gW.cell b2 (by simpa using eb)
           exact Zj (Zq (WS := fun l w => WX 27 31 [(30, 0), (28, 27), (29, 27), (30, 27)] wo.drew (some bk) (fun w9 => KnW w9 bk fs.length kn9 /\ kn9 ca = some v9 /\ KnB fin fs.length kn9 /\ KnM fin fs.length knk kn9 (rk fin ca + 1)) l w) hJ rfl (by rfl) rfl (by decide) (by decide) (Xk _ (by decide)) (w' := w') (by simp [execOp, resolve, invoke, builtin, Act.eval, e72, h0, hat2, hf2, hca2, hsub, go_sem, Zef]) (Zs hW (by decide) (by decide) (Zp (by decide)))) (fun a9 w9 h9 => ⟨v9, kn9, h9⟩)
         · have e12 : a1.tmps.getD 12 undef = .int .i64 ca := hJ.un 12 (fun i hi _ => Zha 12 (by decide) i hi)
           exact Zj (Zq (WS := fun l w => WX 27 31 [(30, 0), (28, 27), (29, 27), (30, 27)] wo.drew (some bk) (fun w9 => KnW w9 bk fs.length kn9 /\ kn9 ca = some v9 /\ KnB fin fs.length kn9 /\ KnM fin fs.length knk kn9 (rk fin ca + 1)) l w) hJ rfl (by rfl) rfl (by decide) (by decide) (Xk _ (by decide)) (w' := w') (by simp [execOp, resolve, invoke, builtin, Act.eval, e12, hat2, hf2, hca2, hsub, go_sem, Zef]) (Zs hW (by decide) (by decide) (Zp (by decide)))) (fun a9 w9 h9 => ⟨v9, kn9, h9⟩)
         · have e73 : a1.tmps.getD 73 undef = .slice (some ⟨bF, oF, none⟩) fs.length cF := (hJ.sl 18 (by decide) (Zb hi 18 (by kernel_rfl)) (by decide))
           have e74 : a1.tmps.getD 74 undef = .int .i64 ca := (hJ.sl 19 (by decide) (Zb hi 19 (by kernel_rfl)) (by decide))
           exact Zj (Zq (WS := fun l w => WX 27 31 [(30, 0), (28, 27), (29, 27), (30, 27)] wo.drew (some bk) (fun w9 => KnW w9 bk fs.length kn9 /\ kn9 ca = some v9 /\ KnB fin fs.length kn9 /\ KnM fin fs.length knk kn9 (rk fin ca + 1)) l w) hJ rfl (by rfl) rfl (by decide) (by decide) (Xk _ (by decide)) (w' := w') (by first | (simp [execOp, resolve, invoke, builtin, Act.eval, e73, e74, hat2, hf2, hca2, hsub, go_sem, Zef]; done) | (simp [execOp, resolve, invoke, builtin, Act.eval, e73, e74, hat2, hf2, hca2, hsub, go_sem, Zef]; omega) | (simp [execOp, resolve, invoke, builtin, Act.eval, e73, e74, hat2, hf2, hca2, hsub, go_sem, Zef]; intro h; omega) | (simp [execOp, resolve, invoke, builtin, Act.eval, e73, e74, hat2, hf2, hca2, hsub, go_sem, Zef]; intros; omega)) (Zs hW (by decide) (by decide) (Zp (by decide)))) (fun a9 w9 h9 => ⟨v9, kn9, h9⟩)
         · have e75 : a1.tmps.getD 75 undef = .pointer (some ⟨bF, oF + ca * 4, none⟩) := (hJ.sl 20 (by decide) (Zb hi 20 (by kernel_rfl)) (by decide))
           exact Zj (Zq (WS := fun l w => WX 27 31 [(30, 0), (28, 27), (29, 27), (30, 27)] wo.drew (some bk) (fun w9 => KnW w9 bk fs.length kn9 /\ kn9 ca = some v9 /\ KnB fin fs.length kn9 /\ KnM fin fs.length knk kn9 (rk fin ca + 1)) l w) hJ rfl (by rfl) rfl (by decide) (by decide) (Xk _ (by decide)) (w' := w') (by simp [execOp, resolve, invoke, builtin, Act.eval, e75, hat2, hf2, hca2, hsub, go_sem, Zef]) (Zs hW (by decide) (by decide) (Zp (by decide)))) (fun a9 w9 h9 => ⟨v9, kn9, h9⟩)
         · have e76 : a1.tmps.getD 76 undef = .pointer (some ⟨bF, oF + ca * 4, none⟩) := (hJ.sl 21 (by decide) (Zb hi 21 (by kernel_rfl)) (by decide))
           have h0 := gW.cell c4 (by simpa using eF)
           exact Zj (Zq (WS := fun l w => WX 27 31 [(30, 0), (28, 27), (29, 27), (30, 27)] wo.drew (some bk) (fun w9 => KnW w9 bk fs.length kn9 /\ kn9 ca = some v9 /\ KnB fin fs.length kn9 /\ KnM fin fs.length knk kn9 (rk fin ca + 1)) l w) hJ rfl (by rfl) rfl (by decide) (by decide) (Xk _ (by decide)) (w' := w') (by simp [execOp, resolve, invoke, builtin, Act.eval, e76, h0, hat2, hf2, hca2, hsub, go_sem, Zef]) (Zs hW (by decide) (by decide) (Zp (by decide)))) (fun a9 w9 h9 => ⟨v9, kn9, h9⟩)
         · have e68 : a1.tmps.getD 68 undef = .int .i64 hv := (hJ.sl 13 (by decide) (Zb hi 13 (by kernel_rfl)) (by decide))
           have e77 : a1.tmps.getD 77 undef = .int .i64 ga := (hJ.sl 22 (by decide) (Zb hi 22 (by kernel_rfl)) (by decide))
           exact Zj (Zq (WS := fun l w => WX 27 31 [(30, 0), (28, 27), (29, 27), (30, 27)] wo.drew (some bk) (fun w9 => KnW w9 bk fs.length kn9 /\ kn9 ca = some v9 /\ KnB fin fs.length kn9 /\ KnM fin fs.length knk kn9 (rk fin ca + 1)) l w) hJ rfl (by rfl) rfl (by decide) (by decide) (Xk _ (by decide)) (w' := w') (by simp [execOp, resolve, invoke, builtin, Act.eval, e68, e77, hat2, hf2, hca2, hsub, go_sem, Zef]) (Zs hW (by decide) (by decide) (Zp (by decide)))) (fun a9 w9 h9 => ⟨v9, kn9, h9⟩)
         · have e0 : a1.tmps.getD 0 undef = .pointer (some ⟨bw, 0, none⟩) := hJ.un 0 (fun i hi _ => Zha 0 (by decide) i hi)
           exact Zj (Zq (WS := fun l w => WX 27 31 [(30, 0), (28, 27), (29, 27), (30, 27)] wo.drew (some bk) (fun w9 => KnW w9 bk fs.length kn9 /\ kn9 ca = some v9 /\ KnB fin fs.length kn9 /\ KnM fin fs.length knk kn9 (rk fin ca + 1)) l w) hJ rfl (by rfl) rfl (by decide) (by decide) (Xk _ (by decide)) (w' := w') (by simp [execOp, resolve, invoke, builtin, Act.eval, e0, hat2, hf2, hca2, hsub, go_sem, Zef]) (Zs hW (by decide) (by decide) (Zp (by decide)))) (fun a9 w9 h9 => ⟨v9, kn9, h9⟩)
         · have e12 : a1.tmps.getD 12 undef = .int .i64 ca := hJ.un 12 (fun i hi _ => Zha 12 (by decide) i hi)
           exact Zj (Zq (WS := fun l w => WX 27 31 [(30, 0), (28, 27), (29, 27), (30, 27)] wo.drew (some bk) (fun w9 => KnW w9 bk fs.length kn9 /\ kn9 ca = some v9 /\ KnB fin fs.length kn9 /\ KnM fin fs.length knk kn9 (rk fin ca + 1)) l w) hJ rfl (by rfl) rfl (by decide) (by decide) (Xk _ (by decide)) (w' := w') (by simp [execOp, resolve, invoke, builtin, Act.eval, e12, hat2, hf2, hca2, hsub, go_sem, Zef]) (Zs hW (by decide) (by decide) (Zp (by decide)))) (fun a9 w9 h9 => ⟨v9, kn9, h9⟩)
         · have e2 : a1.tmps.getD 2 undef = .map (some bk) := hJ.un 2 (fun i hi _ => Zha 2 (by decide) i hi)
           exact Zj (Zq (WS := fun l w => WX 27 31 [(30, 0), (28, 27), (29, 27), (30, 27)] wo.drew (some bk) (fun w9 => KnW w9 bk fs.length kn9 /\ kn9 ca = some v9 /\ KnB fin fs.length kn9 /\ KnM fin fs.length knk kn9 (rk fin ca + 1)) l w) hJ rfl (by rfl) rfl (by decide) (by decide) (Xk _ (by decide)) (w' := w') (by simp [execOp, resolve, invoke, builtin, Act.eval, e2, hat2, hf2, hca2, hsub, go_sem, Zef]) (Zs hW (by decide) (by decide) (Zp (by decide)))) (fun a9 w9 h9 => ⟨v9, kn9, h9⟩)
         · have e79 : a1.tmps.getD 79 undef = .pointer (some ⟨bw, 0, none⟩) := (hJ.sl 24 (by decide) (Zb hi 24 (by kernel_rfl)) (by decide))
           have e80 : a1.tmps.getD 80 undef = .int .i64 ca := (hJ.sl 25 (by decide) (Zb hi 25 (by kernel_rfl)) (by decide))
           have e81 : a1.tmps.getD 81 undef = .map (some bk) := (hJ.sl 26 (by decide) (Zb hi 26 (by kernel_rfl)) (by decide))
           have no27 : ∀ j, (j, 27) ∈ [(30, 0), (28, 27), (29, 27), (30, 27)] -> l.getD j false = false := fun j hj => (by
            rcases Bool.eq_false_or_eq_true (l.getD j false) with e | e
            · have := hW.x (j, 27) hj e; rw [hun] at this; cases this
            · exact e)
           have hw0 := hW.h0 hun
           subst hw0
           refine Zca rfl (by rfl) (by simp [execOp, resolve, invoke, Act.eval, e79, e80, e81, go_sem]) (CA.out.mono fun e w2 he => ?_)
           obtain ⟨v8, kn8, rfl, g8, k8, k8f, kb8, km8⟩ := he
           refine ⟨_, rfl, v8, kn8, ?_, Zqj hW (by decide) (Zp (by decide)) ⟨k8, k8f, kb8, km8⟩ (Za (hW.g) g8)⟩
           exact Zfz (val := Zef bw bx gH fs.length cH f gh c.length ch at_ bF oF cF ca bk most hv ga v8) (Zfy hJ (Yzc l hun (no27 28 (by simp)) (no27 29 (by simp)) (no27 30 (by simp)))) (by decide) (by decide) (Xk _ (by decide))
         · have e78 : a1.tmps.getD 78 undef = .int .i64 (hv - ga) := (hJ.sl 23 (by decide) (Zb hi 23 (by kernel_rfl)) (by decide))
           have e82 : a1.tmps.getD 82 undef = .int .i64 v9 := (hJ.sl 27 (by decide) (Zb hi 27 (by kernel_rfl)) (by decide))
           have l27 : l.getD 27 false = true := Zb hi 27 (by kernel_rfl)
           obtain ⟨-, hk9, hb9, -⟩ := hW.h1 l27
           have hv9 := hb9 ca hca2 v9 hk9
           have hw2 : IntKind.i64.wrap (hv - ga + v9) = hv - ga + v9 := IntWalk.i64_in _ (by omega)
           exact Zj (Zq (WS := fun l w => WX 27 31 [(30, 0), (28, 27), (29, 27), (30, 27)] wo.drew (some bk) (fun w9 => KnW w9 bk fs.length kn9 /\ kn9 ca = some v9 /\ KnB fin fs.length kn9 /\ KnM fin fs.length knk kn9 (rk fin ca + 1)) l w) hJ rfl (by rfl) rfl (by decide) (by decide) (Xk _ (by decide)) (w' := w') (by simp [execOp, Act.eval, e78, e82, hw2, go_sem, Zef]) (Zs hW (by decide) (by decide) (d28 l27))) (fun a9 w9 h9 => ⟨v9, kn9, h9⟩)
         · have e55 : a1.tmps.getD 55 undef = .int .i64 most := (hJ.sl 0 (by decide) (Zb hi 0 (by kernel_rfl)) (by decide))
           have e83 : a1.tmps.getD 83 undef = .int .i64 (hv - ga + v9) := (hJ.sl 28 (by decide) (Zb hi 28 (by kernel_rfl)) (by decide))
           have l28 : l.getD 28 false = true := Zb hi 28 (by kernel_rfl)
           exact Zj (Zq (WS := fun l w => WX 27 31 [(30, 0), (28, 27), (29, 27), (30, 27)] wo.drew (some bk) (fun w9 => KnW w9 bk fs.length kn9 /\ kn9 ca = some v9 /\ KnB fin fs.length kn9 /\ KnM fin fs.length knk kn9 (rk fin ca + 1)) l w) hJ rfl (by rfl) rfl (by decide) (by decide) (Xk _ (by decide)) (w' := w') (by simp [execOp, resolve, invoke, builtin, Act.eval, e55, e83, go_sem, Zef]) (Zs hW (by decide) (by decide) (d29 (hW.x (28, 27) (by decide) l28)))) (fun a9 w9 h9 => ⟨v9, kn9, h9⟩)
         · have e84 : a1.tmps.getD 84 undef = .int .i64 (max most (hv - ga + v9)) := (hJ.sl 29 (by decide) (Zb hi 29 (by kernel_rfl)) (by decide))
           have l0 : l.getD 0 false = true := Zb hi 0 (by kernel_rfl)
           have l29 : l.getD 29 false = true := Zb hi 29 (by kernel_rfl)
           exact Zj (Zq (WS := fun l w => WX 27 31 [(30, 0), (28, 27), (29, 27), (30, 27)] wo.drew (some bk) (fun w9 => KnW w9 bk fs.length kn9 /\ kn9 ca = some v9 /\ KnB fin fs.length kn9 /\ KnM fin fs.length knk kn9 (rk fin ca + 1)) l w) hJ rfl (by rfl) rfl (by decide) (by decide) (Xk _ (by decide)) (w' := w') (by simp [execOp, Act.eval, e84, go_sem, Zef]) (Zs hW (by decide) (by decide) (d30 l0 (hW.x (29, 27) (by decide) l29)))) (fun a9 w9 h9 => ⟨v9, kn9, h9⟩)
        intro l a1 w9 hJJ hl
        obtain ⟨v9, kn9, hJ, hW⟩ := hJJ
        obtain ⟨k9, k9f, kb9, km9⟩ := hW.h1 (hl 27 (by decide))
        have hput := Zei hJ rfl hl (fun i j h1 h2 h3 => Xk j h2 i h1 h3)
        subst hput
        have X9 := Zzd HXD.out SS.out.lx hW.g k9
        have g9 : w.grownBy w9 (some bk) := Za HGK.out (Za (Zf (Ze wo _)) hW.g)
        have hv9 := kb9 ca hca2 v9 k9f
        have hcr := HCR.out
        have hmx : 0 <= max most (hv - ga + v9) /\ max most (hv - ga + v9) <= 256 + 1000 * (rk fin f : Int) := by omega
        have hkm9 : KnM fin fs.length kn kn9 (rk fin f) := ⟨fun x u h => km9.1 x u (HKM.out.1 x u h), fun x hx h => by
         rcases km9.2 x hx h with h1 | h1
         · exact HKM.out.2 x hx h1
         · exact Or.inr (by omega)⟩
        have HX9 := Hq X9
        have HG9 := Hq g9
        have HB9 := Hq kb9
        have HM9 := Hq hkm9
        have HMX := Hq hmx
        clear hJ hW hl k9 k9f kb9 km9 X9 g9 hmx hkm9 HXD HKM HGK HHW CA
        refine hK _ _ ?_
        simp only [Ja, cq9, Zef, Act.put, List.setIfInBounds_toArray, List.set_cons_zero, List.set_cons_succ]
        clear hK K
        go_wp2
        refine ⟨⟨k + 1, max most (hv - ga + v9), kn9, rfl, by go_num, by omega, HG9.out, HX9.out, HB9.out, HM9.out, HMX.out.1, HMX.out.2⟩, by simp [intOf]; omega⟩
      · have hkn : k = (cl f).length := by omega
        have hkf : knk f = none := by
         cases h : knk f with
         | none => rfl
         | some v =>
           rcases hkm.2 f hf (by rw [h]; simp) with h1 | h1
           · exact absurd HKN.out h1
           · omega
        obtain ⟨-, -, hlo0, hlo1⟩ := SS2.out.ar f ar lo r c HFN.out
        have kb := Zc SS.out.bwc hW.g (by intro e; injection e with e; exact SS.out.ne1 e.symm)
        have k2 := Cq _ _ 2 _ _ _ kb
        have s1 := (Gs kb)
        have hFr := Yb SS.out.hF hW.g (fun r e => by injection e with e; rw [<- e]; exact SS.out.bx_)
        obtain ⟨bF, oF, hpF, hbF, hcF⟩ := hFr (by omega)
        obtain ⟨-, e1, -, -⟩ := hcF f ar lo r c HFN.out
        have sF := World.block_lt_of_cell? _ _ e1
        have hb1 : 0 <= 1 + lo + most /\ 1 + lo + most <= 1000 * ((rk fin f : Int) + 1) := by omega
        obtain ⟨w9, hput, hk9, hg9⟩ := Yhr (v := 1 + lo + most) hW.kw hf hkf (by omega)
        have hat9 := Yqo hk9 hf (v := 1 + lo + most) (by simp [Ziv])
        have HK9 := Hq hk9
        have HG9 := Hq hg9
        have HKB := Hq hkb
        have HKM := Hq hkm
        have HGK := Hq hgk
        have HB1 := Hq hb1
        clear hW hkb hkm hgk hk9 hg9 hkf hFr hcF kb hb1
        go_wp2
        go_ret
        refine ⟨1 + lo + most, Ziv knk f (1 + lo + most), rfl, Za HGK.out HG9.out, HK9.out, by simp [Ziv], fun x hx u hu => ?_, fun x u hu => ?_, fun x hx hne => ?_⟩
        · by_cases e : x = f
          · subst e
            have : u = 1 + lo + most := by simpa [Ziv] using hu.symm
            rw [this]; exact HB1.out
          · exact HKB.out x hx u (by simpa [Ziv, e] using hu)
        · by_cases e : x = f
          · subst e; rw [HKN.out] at hu; cases hu
          · have := HKM.out.1 x u hu
            simpa [Ziv, e] using this
        · by_cases e : x = f
          · subst e; right; omega
          · rcases HKM.out.2 x hx (by simpa [Ziv, e] using hne) with h | h
            · exact Or.inl h
            · exact Or.inr (by omega)
structure GoL (n : Nat) (b : Int) (L : List Nat) (h : List Int) (wt : List Bool) (least : Nat) (h' : List Int) (wt' : List Bool) (least' : Nat) : Prop where
 lh : h'.length = n
 lw : wt'.length = n
 at_ : ∀ x, x < n -> (h'.getD x 0 = h.getD x 0 /\ wt'.getD x false = wt.getD x false) \/ (h.getD x 0 = -1 /\ h'.getD x 0 = b /\ wt'.getD x false = true /\ least' <= x)
 all : ∀ y ∈ L, h'.getD y 0 = b
 le : least' <= least
theorem Yij {n : Nat} {b : Int} (hb : 0 <= b) : ∀ {L : List Nat} {h : List Int} {wt : List Bool} {least : Nat} {h' : List Int} {wt' : List Bool} {least' : Nat}, h.length = n -> wt.length = n -> (∀ y ∈ L, y < n) -> goL b L h wt least = some (h', wt', least') -> GoL n b L h wt least h' wt' least'
 | [], h, wt, least, h', wt', least', h1, h2, _, e => by
   simp only [goL, Option.some.injEq, Prod.mk.injEq] at e
   obtain ⟨rfl, rfl, rfl⟩ := e
   exact ⟨h1, h2, fun x _ => Or.inl ⟨rfl, rfl⟩, (fun y hy => by cases hy), Nat.le_refl _⟩
 | m :: r, h, wt, least, h', wt', least', h1, h2, hL, e => by
   have hm := hL m (List.mem_cons_self ..)
   unfold goL at e
   by_cases hc : h.getD m 0 = -1
   · rw [if_pos hc] at e
     obtain ⟨l1, l2, l3, l4, l5⟩ := Yij hb (by simp [h1]) (by simp [h2]) (fun y hy => hL y (List.mem_cons_of_mem _ hy)) e
     have hmb : h'.getD m 0 = b := by
      rcases l3 m hm with ⟨e1, _⟩ | ⟨e1, e2, _⟩
      · rw [e1, Zi _ _ _ _ _ (by omega), if_pos rfl]
      · exact e2
     refine ⟨l1, l2, fun x hx => ?_, fun y hy => ?_, by omega⟩
     · by_cases hxm : x = m
       · subst hxm
         right
         refine ⟨hc, hmb, ?_, by omega⟩
         rcases l3 x hx with ⟨_, e2⟩ | ⟨_, _, e2, _⟩
         · rw [e2, Zi _ _ _ _ _ (by omega), if_pos rfl]
         · exact e2
       · have e1 := l3 x hx
         rw [Zi _ _ _ _ _ (by omega), if_neg hxm, Zi _ _ _ _ _ (by omega), if_neg hxm] at e1
         exact e1
     · rcases List.mem_cons.1 hy with rfl | hy
       · exact hmb
       · exact l4 y hy
   · rw [if_neg hc] at e
     by_cases hd : h.getD m 0 = b
     · rw [if_pos hd] at e
       obtain ⟨l1, l2, l3, l4, l5⟩ := Yij hb h1 h2 (fun y hy => hL y (List.mem_cons_of_mem _ hy)) e
       refine ⟨l1, l2, l3, fun y hy => ?_, l5⟩
       rcases List.mem_cons.1 hy with rfl | hy
       · rcases l3 y hm with ⟨e1, _⟩ | ⟨_, e2, _⟩
         · rw [e1]; exact hd
         · exact e2
       · exact l4 y hy
     · rw [if_neg hd] at e; cases e
structure HCl (fn : FnP) (s : HS) (pl : Nat) : Prop where
 inv : Yeg fn.2.2.2.length s
 w : ∀ x, x < fn.2.2.2.length -> s.wt.getD x false = true -> pl <= x
 c : ∀ x, x < fn.2.2.2.length -> 0 <= s.h.getD x 0 -> s.wt.getD x false = false -> ∀ y ∈ Zgs fn.2.2.2 x, y < fn.2.2.2.length /\ 0 <= s.h.getD y 0
 z : s.h.getD 0 0 = 0
theorem Xbt {fn : FnP} (h : 1 <= fn.2.2.2.length) : HCl fn (hs0 fn.2.2.2.length) 0 := by
 refine ⟨Yqq h, fun x _ _ => Nat.zero_le _, fun x hx h0 hw => ?_, ?_⟩
 · simp only [hs0] at h0 hw
   rw [Zi _ _ _ _ _ (by simp; omega)] at h0 hw
   by_cases e : x = 0
   · rw [if_pos e] at hw; cases hw
   · rw [if_neg e] at h0; simp [List.getD_eq_getElem?_getD, List.getElem?_replicate, hx] at h0
 · simp only [hs0]
   rw [Zi _ _ _ _ _ (by simp; omega), if_pos rfl]
theorem Yoh {fs : List FnP} {fn : FnP} (hok : Zvy fs) (hfn : fn ∈ fs) {s s' : HS} {pl pl' : Nat} (H : HCl fn s pl) (st : HStep fs fn s pl s' pl') : HCl fn s' pl' := by
 obtain ⟨inv, hw, hc, hz⟩ := H
 cases st with
 | skip hlt hwt =>
   refine ⟨inv, fun x hx h => ?_, hc, hz⟩
   have := hw x hx h
   have : x ≠ pl := fun e => by rw [e, hwt] at h; cases h
   omega
 | take hlt hwt hst hgo =>
   rename_i b h' wt'
   obtain ⟨⟨op, a⟩, hins⟩ : ∃ x, fn.2.2.2[pl]? = some x := ⟨_, List.getElem?_eq_getElem (by omega)⟩
   have hio := hok.ins fn hfn _ (List.mem_of_getElem? hins)
   simp only [] at hio
   have hrng := inv.rng pl hlt
   have hw0 := inv.wts pl hlt hwt
   have hsE : Zdy fs fn pl op a (s.h.getD pl 0) = (0, b) := by unfold Zgi at hst; simp only [hins] at hst; exact hst
   obtain ⟨⟨b0, b1⟩, hn⟩ := Ztg hio (by omega) hsE
   have hnx : ∀ y ∈ Zgs fn.2.2.2 pl, y < fn.2.2.2.length := by
    intro y hy
    unfold Zgs at hy
    simp only [hins] at hy
    obtain ⟨z, hz, rfl⟩ := List.mem_map.1 hy
    have := hn z hz
    omega
   obtain ⟨l1, l2, l3, l4, l5⟩ := Yij b0 inv.hl (by simp [inv.wl]) hnx hgo
   have keep : ∀ x, x < fn.2.2.2.length -> 0 <= s.h.getD x 0 -> h'.getD x 0 = s.h.getD x 0 := by
    intro x hx h0
    rcases l3 x hx with ⟨e, _⟩ | ⟨e, _⟩
    · exact e
    · rw [e] at h0; omega
   refine ⟨⟨l1, l2, fun i hi => ?_, fun i hi hwi => ?_, ?_, ?_⟩, fun x hx h => ?_, fun x hx h0 hwx y hy => ?_, ?_⟩
   · simp only []
     rcases l3 i hi with ⟨e, _⟩ | ⟨_, e, _⟩
     · rw [e]; exact inv.rng i hi
     · rw [e]; exact Or.inr ⟨b0, b1⟩
   · simp only [] at hwi ⊢
     rcases l3 i hi with ⟨e, e2⟩ | ⟨_, e, _⟩
     · rw [e2, Zi _ _ _ _ _ (by rw [inv.wl]; exact hlt)] at hwi
       by_cases hip : i = pl
       · rw [if_pos hip] at hwi; cases hwi
       · rw [if_neg hip] at hwi; rw [e]; exact inv.wts i hi hwi
     · rw [e]; exact b0
   · simp only []; have := inv.t0; omega
   · simp only []
     have := inv.t1
     omega
   · simp only [] at h
     rcases l3 x hx with ⟨_, e2⟩ | ⟨_, _, _, e⟩
     · rw [e2, Zi _ _ _ _ _ (by rw [inv.wl]; exact hlt)] at h
       by_cases hip : x = pl
       · rw [if_pos hip] at h; cases h
       · rw [if_neg hip] at h
         have := hw x hx h
         omega
     · exact e
   · simp only [] at h0 hwx ⊢
     rcases l3 x hx with ⟨e, e2⟩ | ⟨_, _, e, _⟩
     · rw [e2, Zi _ _ _ _ _ (by rw [inv.wl]; exact hlt)] at hwx
       rw [e] at h0
       by_cases hip : x = pl
       · subst hip
         exact ⟨hnx y hy, by rw [l4 y hy]; exact b0⟩
       · rw [if_neg hip] at hwx
         obtain ⟨h3, h4⟩ := hc x hx h0 hwx y hy
         exact ⟨h3, by rw [keep y h3 h4]; exact h4⟩
     · rw [e] at hwx; cases hwx
   · simp only []
     rw [keep 0 (by omega) (by rw [hz]; decide)]
     exact hz
theorem Yus {fs : List FnP} {fn : FnP} (hok : Zvy fs) (hfn : fn ∈ fs) {s s' : HS} {pl pl' : Nat} (r : HRun fs fn s pl s' pl') : HCl fn s pl -> HCl fn s' pl' := by
 induction r with
 | refl => exact id
 | step r st ih => exact fun H => Yoh hok hfn (ih H) st
theorem Zjp {fs : List FnP} {fn : FnP} (hok : Zvy fs) (hfn : fn ∈ fs) {s : HS} (r : HRun fs fn (hs0 fn.2.2.2.length) 0 s fn.2.2.2.length) :
 s.h.getD 0 0 = 0 /\ ∀ x, x < fn.2.2.2.length -> 0 <= s.h.getD x 0 -> ∀ y ∈ Zgs fn.2.2.2 x, y < fn.2.2.2.length /\ 0 <= s.h.getD y 0 := by
 have H := Yus hok hfn r (Xbt (hok.len fn hfn).1)
 refine ⟨H.z, fun x hx h0 => H.c x hx h0 ?_⟩
 cases hb : s.wt.getD x false with
 | false => rfl
 | true => have := H.w x hx hb; omega
end Go.Proofs.Ytecaolkbllbokaa.CK
