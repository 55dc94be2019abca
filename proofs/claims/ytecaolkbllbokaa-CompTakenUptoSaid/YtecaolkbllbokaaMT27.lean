import Derived.Test.YtecaolkbllbokaaMT24
import Derived.Test.YtecaolkbllbokaaMT26
import Derived.Outline
set_option linter.unusedSimpArgs false
set_option linter.unusedVariables false
set_option maxRecDepth 100000
set_option maxHeartbeats 16000000
namespace Go.Proofs.Ytecaolkbllbokaa.CK
open Go.RowKit Go.Great Go.Maps
structure CA where
 w : Nat
 f : Nat
 k : Nat
 c : Nat
 z : Nat
 o : Nat
 g : Nat
structure CoB (base : Nat) (w : World) (A : CA) (bw bk f n : Nat) (vc : Value) (Z : List Int) : Prop where
 lo : base <= A.w /\ base <= A.f /\ base <= A.k /\ base <= A.c /\ base <= A.z /\ base <= A.o /\ base <= A.g
 ne : A.w ≠ A.g /\ A.f ≠ A.g /\ A.k ≠ A.g /\ A.c ≠ A.g /\ A.z ≠ A.g /\ A.o ≠ A.g
 bw_ : Bx w A.w 102 (.pointer (some ⟨bw, 0, none⟩))
 bf : Bx w A.f 3 (.int .i64 (f : Int))
 bk_ : Bx w A.k 143 (.map (some bk))
 bc : Bx w A.c 71 vc
 bz : Bx w A.z 47 (.slice (some ⟨A.g, 0, none⟩) n n)
 bo : Bx w A.o 48 (.func (.func 96) #[] #[.pointer (some ⟨A.z, 0, none⟩), .pointer (some ⟨A.c, 0, none⟩), .pointer (some ⟨A.w, 0, none⟩), .pointer (some ⟨A.k, 0, none⟩), .pointer (some ⟨A.f, 0, none⟩), .pointer (some ⟨A.o, 0, none⟩)])
 r : w.ownsRow base 3 1 (.slice (some ⟨A.g, 0, none⟩) n n) n (Z.map (Value.int .i64))
 v : ∀ x, 0 <= Z.getD x 0 /\ Z.getD x 0 <= 1099511627777
section
variable {base : Nat} {w w' : World} {A : CA} {bw bk f n : Nat} {vc : Value} {Z : List Int}
theorem Yjf (H : CoB base w A bw bk f n vc Z) : Z.length = n := by have := H.r.1; simpa using this
theorem Zvp (H : CoB base w A bw bk f n vc Z) : base <= A.g /\ A.g < w.heap.size := H.r.lt A.g rfl
theorem Zsl (H : CoB base w A bw bk f n vc Z) (k : Nat) (hk : k < n) : w.cell? ⟨A.g, k, none⟩ = some (.int .i64 (Z.getD k 0)) := by
 have hl := Yjf H
 rw [H.r.cellAt k (by omega), List.getElem?_map, List.getD_eq_getElem?_getD, List.getElem?_eq_getElem (by omega : k < Z.length)]
 rfl
theorem Zgg {b : Nat} {t : TypeId} {v : Value} {r : Option Nat} (h : Bx w b t v) (g : w.grownBy w' r) (hr : r ≠ some b) : Bx w' b t v := Zc h g hr
theorem Yje (H : CoB base w A bw bk f n vc Z) (hb : bk < base) (g : w.grownBy w' (some bk)) : CoB base w' A bw bk f n vc Z := by
 obtain ⟨l1, l2, l3, l4, l5, l6, l7⟩ := H.lo
 have nn : ∀ b, base <= b -> (some bk : Option Nat) ≠ some b := fun b h e => by injection e with e; omega
 exact ⟨H.lo, H.ne, Zgg H.bw_ g (nn _ l1), Zgg H.bf g (nn _ l2), Zgg H.bk_ g (nn _ l3), Zgg H.bc g (nn _ l4), Zgg H.bz g (nn _ l5), Zgg H.bo g (nn _ l6), H.r.kept g (Or.inr (by simp only [Value.ownBlock]; intro e; injection e with e; omega)), H.v⟩
theorem Zoh (H : CoB base w A bw bk f n vc Z) (g : w.grownBy w' none) : CoB base w' A bw bk f n vc Z :=
 ⟨H.lo, H.ne, Zgg H.bw_ g (by simp), Zgg H.bf g (by simp), Zgg H.bk_ g (by simp), Zgg H.bc g (by simp), Zgg H.bz g (by simp), Zgg H.bo g (by simp), H.r.kept g (Classical.em _), H.v⟩
theorem Yjd (H : CoB base w A bw bk f n vc Z) (k : Nat) (hk : k < n) (b : Int) (hb : 0 <= b /\ b <= 1099511627777) : CoB base (w.setCell ⟨A.g, k, none⟩ (.int .i64 b)) A bw bk f n vc (Z.set k b) := by
 obtain ⟨n1, n2, n3, n4, n5, n6⟩ := H.ne
 have nn : ∀ x, x ≠ A.g -> (some A.g : Option Nat) ≠ some x := fun x h e => by injection e with e; exact h e.symm
 have g := Zd w A.g k (.int .i64 b)
 refine ⟨H.lo, H.ne, Zgg H.bw_ g (nn _ n1), Zgg H.bf g (nn _ n2), Zgg H.bk_ g (nn _ n3), Zgg H.bc g (nn _ n4), Zgg H.bz g (nn _ n5), Zgg H.bo g (nn _ n6), ?_, fun x => ?_⟩
 · rw [List.map_set]; exact (H.r.stored k (.int .i64 b)).1
 · rw [Zi _ _ _ _ _ (by rw [Yjf H]; exact hk)]
   split
   · exact hb
   · exact H.v x
end
def KnC (nf : Nat) (kn : Nat -> Option Int) : Prop := ∀ f, f < nf -> ∀ v, kn f = some v -> 0 <= v /\ v <= 1099511627777
def Yrg (w : World) (nf bk : Nat) (fin : List Nat) (kn : Nat -> Option Int) (f : Nat) (e : Ending) (w' : World) : Prop :=
 ∃ v kn', e = .returned (.int .i64 v) /\ w.grownBy w' (some bk) /\ KnW w' bk nf kn' /\ kn' f = some v /\ KnC nf kn' /\ KnM fin nf kn kn' (rk fin f + 1)
def Yzm (base : Nat) (W : World) (A : CA) (bw bk f n nf : Nat) (vc : Value) (fin : List Nat) (kn : Nat -> Option Int) (e : Ending) (W' : World) : Prop :=
 ∃ v kn' Z', e = .returned (.int .i64 v) /\ (0 <= v /\ v <= 1099511627777) /\ Sp (fun k => k = bk \/ k = A.g) W W' /\ KnW W' bk nf kn' /\ KnC nf kn' /\ KnM fin nf kn kn' (rk fin f) /\ CoB base W' A bw bk f n vc Z'
theorem Zrw (fin : List Nat) (nf : Nat) (kn : Nat -> Option Int) (r : Nat) : KnM fin nf kn kn r := ⟨fun _ _ h => h, fun _ _ h => Or.inl h⟩
theorem Znk {fin : List Nat} {nf r r1 r2 : Nat} {k0 k1 k2 : Nat -> Option Int} (h : KnM fin nf k0 k1 r1) (g : KnM fin nf k1 k2 r2) (h1 : r1 <= r) (h2 : r2 <= r) : KnM fin nf k0 k2 r :=
 ⟨fun x v e => g.1 x v (h.1 x v e), fun x hx e => by
  rcases g.2 x hx e with h3 | h3
  · rcases h.2 x hx h3 with h4 | h4
    · exact Or.inl h4
    · exact Or.inr (by omega)
  · exact Or.inr (by omega)⟩
theorem Yeq {P : Nat -> Prop} {w0 w w' : World} {bx gH gT nf cH cT bk : Nat} {x2 x3 x4 x5 : Value} {kn kn' : Nat -> Option Int} (H : XW w0 w bx gH gT nf cH cT bk x2 x3 x4 x5 kn) (hx : bx < w0.heap.size) (g : Sp P w w') (hP : ∀ k, P k -> w0.heap.size <= k) (k : KnW w' bk nf kn') : XW w0 w' bx gH gT nf cH cT bk x2 x3 x4 x5 kn' := by
 have hs := H.g.size
 exact ⟨⟨g.os.trans H.g.os, g.tape.trans H.g.tape, g.output.trans H.g.output, Nat.le_trans H.g.size g.size, fun b hb hr => by rw [g.block b (by omega) (fun h => by have := hP b h; omega)]; exact H.g.block b hb hr⟩,
  by rw [g.block bx (by omega) (fun h => by have := hP bx h; omega)]; exact H.xc, H.lk, k⟩
structure CoP (fin : List Nat) (f : Nat) (c : List (Int × Int)) (rank : Nat -> Nat) (T : Nat -> Prop) : Prop where
 nx : ∀ x, T x -> x < c.length /\ ∀ (op a : Int), c[x]? = some (op, a) -> ∀ y ∈ Zlj c.length op a x, 0 <= y /\ T y.toNat /\ rank y.toNat < rank x
 ca : ∀ x, T x -> ∀ a : Int, c[x]? = some (17, a) -> 0 <= a /\ a.toNat ∈ fin /\ rk fin a.toNat < rk fin f
structure Yzv (w0 : World) (B : Nat) (c : List (Int × Int)) (b' o' : Nat) : Prop where
 lt : b' < B
 at_ : ∀ (i : Nat) (op a : Int), c[i]? = some (op, a) -> w0.cell? ⟨b', o' + i * 2, none⟩ = some (.int .i64 op) /\ w0.cell? ⟨b', o' + i * 2 + 1, none⟩ = some (.int .i64 a)
def cr5 : Nat -> Nat
 | 0 => 28
 | 1 => 29
 | 2 => 30
 | 3 => 31
 | 4 => 32
 | 5 => 33
 | 6 => 34
 | 7 => 35
 | 8 => 36
 | 9 => 37
 | 10 => 9
 | _ => 5000
theorem Zgd : ∀ i, i < 11 -> ∀ j, j < 11 -> j ≠ i -> cr5 j ≠ cr5 i := by decide
theorem Yqv (i : Nat) (h : i < 11) : i = 0 \/ i = 1 \/ i = 2 \/ i = 3 \/ i = 4 \/ i = 5 \/ i = 6 \/ i = 7 \/ i = 8 \/ i = 9 \/ i = 10 := by omega
theorem Zsk (j : Nat) (hj : j ∈ [0, 2, 3, 4]) : ∀ i, i < 11 -> cr5 i ≠ j := by revert j; decide
def Zsz (Aw Ac Ak bw at_ b' o' nC cc ca bk : Nat) (v9 : Int) : Nat -> Value
 | 0 => .int .i64 1
 | 1 => .pointer (some ⟨bw, 0, none⟩)
 | 2 => .slice (some ⟨b', o', none⟩) nC cc
 | 3 => .int .i64 at_
 | 4 => .pointer (some ⟨b', o' + at_ * 2, none⟩)
 | 5 => .pointer (some ⟨b', o' + at_ * 2 + 1, none⟩)
 | 6 => .int .i64 ca
 | 7 => .map (some bk)
 | 8 => .int .i64 v9
 | 9 => .int .i64 (1 + v9)
 | 10 => .int .i64 (1 + v9)
 | _ => undef
theorem Yzb {l : Array Bool} (h8 : l.getD 8 false = true) : ∀ p ∈ ([(10, 0), (9, 8), (10, 8)] : List (Nat × Nat)), p.1 = 9 -> l.getD p.2 false = true := by
 intro p hp e
 simp only [List.mem_cons, List.not_mem_nil, or_false] at hp
 rcases hp with rfl | rfl | rfl <;> simp only [] at e ⊢ <;> first | exact h8 | omega
theorem Yve {l : Array Bool} (h0 : l.getD 0 false = true) (h8 : l.getD 8 false = true) : ∀ p ∈ ([(10, 0), (9, 8), (10, 8)] : List (Nat × Nat)), p.1 = 10 -> l.getD p.2 false = true := by
 intro p hp e
 simp only [List.mem_cons, List.not_mem_nil, or_false] at hp
 rcases hp with rfl | rfl | rfl <;> simp only [] at e ⊢ <;> first | exact h0 | exact h8 | omega
theorem Xbx : ∀ i, i < 11 -> cr5 i = 9 -> i = 10 := by decide
theorem Yza {Aw Ac Ak bw at_ b' o' nC cc ca bk : Nat} {v8 v9 : Int} (l : Array Bool) (hun : l.getD 8 false = false) (h9 : l.getD 9 false = false) (h10 : l.getD 10 false = false) :
 ∀ i, i < 11 -> l.getD i false = true -> cr5 i < 68 -> Zsz Aw Ac Ak bw at_ b' o' nC cc ca bk v8 i = Zsz Aw Ac Ak bw at_ b' o' nC cc ca bk v9 i := by
 intro i hi hl _
 rcases Yqv i hi with rfl | rfl | rfl | rfl | rfl | rfl | rfl | rfl | rfl | rfl | rfl <;> first | rfl | (rw [hun] at hl; cases hl) | (rw [h9] at hl; cases hl) | (rw [h10] at hl; cases hl)
def cr6 : Nat -> Nat
 | 0 => 38
 | 1 => 39
 | 2 => 40
 | 3 => 41
 | 4 => 42
 | 5 => 43
 | 6 => 44
 | 7 => 45
 | 8 => 46
 | 9 => 47
 | _ => 5000
theorem Zal : ∀ i, i < 10 -> ∀ j, j < 10 -> j ≠ i -> cr6 j ≠ cr6 i := by decide
theorem Yjc (i : Nat) (h : i < 10) : i = 0 \/ i = 1 \/ i = 2 \/ i = 3 \/ i = 4 \/ i = 5 \/ i = 6 \/ i = 7 \/ i = 8 \/ i = 9 := by omega
theorem Zks (j : Nat) (hj : j ∈ [0, 3, 5]) : ∀ i, i < 10 -> cr6 i ≠ j := by revert j; decide
def Zlg (Aw Af bw at_ f nd cd nf cF nL k9 : Nat) (mem : Int) (pd pF p9 : Option Addr) : Nat -> Value
 | 0 => .pointer (some ⟨bw, 0, none⟩)
 | 1 => .pointer (some ⟨bw, 0, none⟩)
 | 2 => .pointer (some ⟨bw, 0, none⟩)
 | 3 => .agg #[.int .i64 mem, .slice pd nd cd, .slice pF nf cF]
 | 4 => .int .i64 f
 | 5 => .int .i64 at_
 | 6 => .agg #[.int .i64 f, .int .i64 at_]
 | 7 => .slice p9 nL k9
 | 8 => .int .i64 nL
 | 9 => .int .i64 0
 | _ => undef
theorem Yqu {l : Array Bool} (h7 : l.getD 7 false = true) : ∀ p ∈ ([(8, 7)] : List (Nat × Nat)), p.1 = 8 -> l.getD p.2 false = true := by
 intro p hp e
 simp only [List.mem_cons, List.not_mem_nil, or_false] at hp
 rcases hp with rfl <;> simp only [] at e ⊢ <;> first | exact h7 | omega
theorem Yqt {Aw Af bw at_ f nd cd nf cF nL k8 k9 : Nat} {mem : Int} {pd pF p8 p9 : Option Addr} (l : Array Bool) (hun : l.getD 7 false = false) (h8 : l.getD 8 false = false) :
 ∀ i, i < 10 -> l.getD i false = true -> cr6 i < 68 -> Zlg Aw Af bw at_ f nd cd nf cF nL k8 mem pd pF p8 i = Zlg Aw Af bw at_ f nd cd nf cF nL k9 mem pd pF p9 i := by
 intro i hi hl _
 rcases Yjc i hi with rfl | rfl | rfl | rfl | rfl | rfl | rfl | rfl | rfl | rfl <;> first | rfl | (rw [hun] at hl; cases hl) | (rw [h8] at hl; cases hl)
theorem Zuh (mem : Int) (vd : Value) (fs : List FnP) (pF : Option Addr) (cF B f at_ : Nat) (ar lo r : Int) (c : List (Int × Int)) (op a : Int) (w : World) (rank : Nat -> Nat) (T : Nat -> Prop) (hvd : ∃ p n c, vd = .slice p n c) (hB : B <= w.heap.size) (hF : Zam w B pF fs)
 (hfn : fs[f]? = some (ar, lo, r, c)) (hins : c[at_]? = some (op, a)) (hnf : fs.length <= 64) (hnc : c.length <= 4096) (hnx : ∀ (op a : Int), c[at_]? = some (op, a) -> ∀ y ∈ Zlj c.length op a at_, 0 <= y /\ T y.toNat /\ rank y.toNat < rank at_) :
 ∃ L : List Int, L.length <= 2 /\ (∀ y ∈ L, 0 <= y /\ T y.toNat /\ rank y.toNat < rank at_) /\ Calls Try.prog 59 #[.agg #[.int .i64 mem, vd, .slice pF fs.length cF], .agg #[.int .i64 f, .int .i64 at_]] w (Zfw w L) :=
 ⟨Zlj c.length op a at_, Nat.le_trans (List.length_filter_le _ _) (Zgw _ _ _), hnx op a hins, Yaa mem vd fs pF cF B f at_ (ar, lo, r, c) op a w hvd hB hF ⟨hfn, hins, hnf, hnc⟩⟩
theorem Yds (w0 : World) (bw bx bm B : Nat) (mem : Int) (pd : Option Addr) (nd cd : Nat) (pF : Option Addr) (cF : Nat) (fs : List FnP) (cl : Nat -> List Nat) (S : St w0 bw bx bm B mem pd nd cd pF cF fs cl) (hok : Zvy fs) (gH gT cH cT bk : Nat) (x2 x3 x4 x5 : Value) (fin : List Nat) (hlt : ∀ x ∈ fin, x < fs.length)
 (f : Nat) (hff : f ∈ fin) (ar lo r : Int) (c : List (Int × Int)) (hfn : fs[f]? = some (ar, lo, r, c)) (b' o' cc : Nat) (hcode : Yzv w0 B c b' o') (base : Nat) (hbk : w0.heap.size <= bk /\ bk < base) (rank : Nat -> Nat) (T : Nat -> Prop) (hP : CoP fin f c rank T)
 (hco : ∀ (w : World) (kn : Nat -> Option Int) (a : Nat), XW w0 w bx gH gT fs.length cH cT bk x2 x3 x4 x5 kn -> KnC fs.length kn -> a ∈ fin -> rk fin a < rk fin f -> Calls Try.prog 64 #[.pointer (some ⟨bw, 0, none⟩), .int .i64 a, .map (some bk)] w (Yrg w fs.length bk fin kn a)) (M : Nat) :
 ∀ (W : World) (kn : Nat -> Option Int) (A : CA) (Z : List Int) (at_ : Nat) (H : XW w0 W bx gH gT fs.length cH cT bk x2 x3 x4 x5 kn) (hKC : KnC fs.length kn) (hC : CoB base W A bw bk f c.length (.slice (some ⟨b', o', none⟩) c.length cc) Z) (ht : T at_) (hM : rank at_ < M),
 Calls Try.prog 96 #[.int .i64 at_, .pointer (some ⟨A.z, 0, none⟩), .pointer (some ⟨A.c, 0, none⟩), .pointer (some ⟨A.w, 0, none⟩), .pointer (some ⟨A.k, 0, none⟩), .pointer (some ⟨A.f, 0, none⟩), .pointer (some ⟨A.o, 0, none⟩)] W (Yzm base W A bw bk f c.length fs.length (.slice (some ⟨b', o', none⟩) c.length cc) fin kn) := by
 induction M with
 | zero => intro W kn A Z at_ H hKC hC ht hM; omega
 | succ M ih =>
   intro W kn A Z at_ H hKC hC ht hM
   obtain ⟨Aw, Af, Ak, Ac, Az, Ao, Ag⟩ := A
   obtain ⟨hat2, hnx⟩ := hP.nx at_ ht
   obtain ⟨⟨op, a⟩, hins⟩ : ∃ x, c[at_]? = some x := ⟨_, List.getElem?_eq_getElem hat2⟩
   have hlz := hC.lo
   have hnz := hC.ne
   have zc := Zn hC.bz
   have zcell := Zsl hC at_ hat2
   have hv := hC.v at_
   have hbn := hok.len _ (List.mem_of_getElem? hfn)
   have lg := Zvp hC
   have s1 := (Gs hC.bz)
   simp only [] at zc zcell hbn hlz hnz lg s1
   have lgA := lg.2
   have q1 : (at_ : Int) < (c.length : Int) := by omega
   have HH := Hq H
   have HC := Hq hC
   have HK := Hq hKC
   have HPP := Hq hP
   have HCO := Hq hco
   have IH := Hq ih
   have SS := Hq S
   have OK := Hq hok
   have HFN := Hq hfn
   have HCD := Hq hcode
   have HNX := Hq hnx
   have HIN := Hq hins
   have HT := Hq ht
   have HM := Hq hM
   have HFF := Hq hff
   have HLT := Hq hlt
   by_cases hz : 0 < Z.getD at_ 0
   · generalize Z.getD at_ 0 = zv at *
     clear H hC hKC hP hco ih S hok hfn hcode hnx hins ht hM hff hlt
     go_enter Try.func96, Try.ntmps96
     go_wp2
     go_ret
     exact ⟨zv, kn, Z, rfl, hv, Zim _ _, HH.out.kw, HK.out, Zrw _ _ _ _, HC.out⟩
   · have hz0 : Z.getD at_ 0 = 0 := by omega
     rw [hz0] at zcell
     have hcc := Zn hC.bc
     have s2 := (Gs hC.bc)
     have hbB := hcode.lt
     have hbx := S.bx_
     have hlx := S.lx
     have hw0 := H.g.size
     obtain ⟨d0, d1⟩ := hcode.at_ at_ op a hins
     have e0 := H.g.cell d0 (by intro e; injection e with e; have e2 : b' = bx := e; omega)
     have e1 := H.g.cell d1 (by intro e; injection e with e; have e2 : b' = bx := e; omega)
     have s3 : b' < W.heap.size := by omega
     simp only [] at hcc s2
     have HLZ := Hq hlz
     have HNZ := Hq hnz
     by_cases h17 : op = 17
     · subst h17
       obtain ⟨ha0, hca, hcr⟩ := hP.ca at_ ht a hins
       obtain ⟨ca, rfl⟩ := Int.eq_ofNat_of_zero_le ha0
       simp only [Int.toNat_natCast] at hca hcr
       have hca2 := hlt ca hca
       have hXd : XW w0 W.drew bx gH gT fs.length cH cT bk x2 x3 x4 x5 kn := ⟨Zf H.g, H.xc, H.lk, Zcl H.kw (Zf (Ze W none)) (by simp)⟩
       have CA := Hq (hco W.drew kn ca hXd hKC hca hcr)
       have wc := Zn hC.bw_
       have kc := Zn hC.bk_
       have s4 := (Gs hC.bw_)
       have s5 := (Gs hC.bk_)
       simp only [] at wc kc s4 s5
       have eAw : ¬ Aw = bk := by omega
       have eAc : ¬ Ac = bk := by omega
       have eAk : ¬ Ak = bk := by omega
       have eB : ¬ b' = bk := by omega
       have HCR := Hq hcr
       clear H hC hKC hP hco ih S hok hfn hcode hnx hins ht hM hff hlt hXd hca hcr hlz hnz d0 d1 hv hz hz0 ha0
       have xc := hcc
       have D1 := e1
       go_enter Try.func96, Try.ntmps96
       go_upto_region 5 with fail
       rename_i K hK
       have d1 := D1
       refine Zck (n := 11) (J := fun a0 l a1 w1 => ∃ v9 kn9, RJ a0 68 11 cr5 (Zsz Aw Ac Ak bw at_ b' o' c.length cc ca bk v9) l a1 /\ WX 8 11 [(10, 0), (9, 8), (10, 8)] W.drew (some bk) (fun w9 => KnW w9 bk fs.length kn9 /\ kn9 ca = some v9 /\ KnC fs.length kn9 /\ KnM fin fs.length kn kn9 (rk fin ca + 1)) l w1) (by kernel_rfl) rfl (Zen (by kernel_rfl)) (fun l a1 w1 h => by obtain ⟨_, _, _, h⟩ := h; exact h.sz) ⟨0, kn, Zax rfl, Zlo _ _ _ _ _ _⟩ ?step ?fin
       case step =>
        intro l a1 w' i hJJ hi hin
        obtain ⟨v9, kn9, hJ, hW⟩ := hJJ
        have hun : l.getD i false = false := getD_both (mem_ready.1 hi).1
        have gW : W.grownBy w' (some bk) := Za (Zf (Ze W _)) hW.g
        rcases Yqv i hin with rfl | rfl | rfl | rfl | rfl | rfl | rfl | rfl | rfl | rfl | rfl
        · have e9 : a1.tmps.getD 9 undef = .int .i64 1 := hJ.un 9 (fun i hi hl he => by
           have h10 : i = 10 := Xbx i hi he
           subst h10
           have := hW.x (10, 0) (by decide) hl
           rw [hun] at this; cases this)
          exact Zj (Zq (WS := fun l w => WX 8 11 [(10, 0), (9, 8), (10, 8)] W.drew (some bk) (fun w9 => KnW w9 bk fs.length kn9 /\ kn9 ca = some v9 /\ KnC fs.length kn9 /\ KnM fin fs.length kn kn9 (rk fin ca + 1)) l w) hJ rfl (by rfl) rfl (by decide) (by decide) (Zgd _ (by decide)) (w' := w') (by simp [execOp, Act.eval, e9, go_sem, Zsz]) (Zs hW (by decide) (by decide) (Zp (by decide)))) (fun a9 w9 h9 => ⟨v9, kn9, h9⟩)
        · have e3 : a1.tmps.getD 3 undef = .pointer (some ⟨Aw, 0, none⟩) := hJ.un 3 (fun i hi _ => Zsk 3 (by decide) i hi)
          have h0 := gW.cell wc (by simpa using eAw)
          exact Zj (Zq (WS := fun l w => WX 8 11 [(10, 0), (9, 8), (10, 8)] W.drew (some bk) (fun w9 => KnW w9 bk fs.length kn9 /\ kn9 ca = some v9 /\ KnC fs.length kn9 /\ KnM fin fs.length kn kn9 (rk fin ca + 1)) l w) hJ rfl (by rfl) rfl (by decide) (by decide) (Zgd _ (by decide)) (w' := w') (by simp [execOp, resolve, invoke, builtin, Act.eval, e3, h0, hat2, go_sem, Zsz]) (Zs hW (by decide) (by decide) (Zp (by decide)))) (fun a9 w9 h9 => ⟨v9, kn9, h9⟩)
        · have e2 : a1.tmps.getD 2 undef = .pointer (some ⟨Ac, 0, none⟩) := hJ.un 2 (fun i hi _ => Zsk 2 (by decide) i hi)
          have h0 := gW.cell xc (by simpa using eAc)
          exact Zj (Zq (WS := fun l w => WX 8 11 [(10, 0), (9, 8), (10, 8)] W.drew (some bk) (fun w9 => KnW w9 bk fs.length kn9 /\ kn9 ca = some v9 /\ KnC fs.length kn9 /\ KnM fin fs.length kn kn9 (rk fin ca + 1)) l w) hJ rfl (by rfl) rfl (by decide) (by decide) (Zgd _ (by decide)) (w' := w') (by simp [execOp, resolve, invoke, builtin, Act.eval, e2, h0, hat2, go_sem, Zsz]) (Zs hW (by decide) (by decide) (Zp (by decide)))) (fun a9 w9 h9 => ⟨v9, kn9, h9⟩)
        · have e0 : a1.tmps.getD 0 undef = .int .i64 at_ := hJ.un 0 (fun i hi _ => Zsk 0 (by decide) i hi)
          exact Zj (Zq (WS := fun l w => WX 8 11 [(10, 0), (9, 8), (10, 8)] W.drew (some bk) (fun w9 => KnW w9 bk fs.length kn9 /\ kn9 ca = some v9 /\ KnC fs.length kn9 /\ KnM fin fs.length kn kn9 (rk fin ca + 1)) l w) hJ rfl (by rfl) rfl (by decide) (by decide) (Zgd _ (by decide)) (w' := w') (by simp [execOp, resolve, invoke, builtin, Act.eval, e0, hat2, go_sem, Zsz]) (Zs hW (by decide) (by decide) (Zp (by decide)))) (fun a9 w9 h9 => ⟨v9, kn9, h9⟩)
        · have e30 : a1.tmps.getD 30 undef = .slice (some ⟨b', o', none⟩) c.length cc := (hJ.sl 2 (by decide) (Zb hi 2 (by kernel_rfl)) (by decide))
          have e31 : a1.tmps.getD 31 undef = .int .i64 at_ := (hJ.sl 3 (by decide) (Zb hi 3 (by kernel_rfl)) (by decide))
          exact Zj (Zq (WS := fun l w => WX 8 11 [(10, 0), (9, 8), (10, 8)] W.drew (some bk) (fun w9 => KnW w9 bk fs.length kn9 /\ kn9 ca = some v9 /\ KnC fs.length kn9 /\ KnM fin fs.length kn kn9 (rk fin ca + 1)) l w) hJ rfl (by rfl) rfl (by decide) (by decide) (Zgd _ (by decide)) (w' := w') (by first | (simp [execOp, resolve, invoke, builtin, Act.eval, e30, e31, hat2, go_sem, Zsz]; done) | (simp [execOp, resolve, invoke, builtin, Act.eval, e30, e31, hat2, go_sem, Zsz]; omega) | (simp [execOp, resolve, invoke, builtin, Act.eval, e30, e31, hat2, go_sem, Zsz]; intro h; omega) | (simp [execOp, resolve, invoke, builtin, Act.eval, e30, e31, hat2, go_sem, Zsz]; intros; omega)) (Zs hW (by decide) (by decide) (Zp (by decide)))) (fun a9 w9 h9 => ⟨v9, kn9, h9⟩)
        · have e32 : a1.tmps.getD 32 undef = .pointer (some ⟨b', o' + at_ * 2, none⟩) := (hJ.sl 4 (by decide) (Zb hi 4 (by kernel_rfl)) (by decide))
          exact Zj (Zq (WS := fun l w => WX 8 11 [(10, 0), (9, 8), (10, 8)] W.drew (some bk) (fun w9 => KnW w9 bk fs.length kn9 /\ kn9 ca = some v9 /\ KnC fs.length kn9 /\ KnM fin fs.length kn kn9 (rk fin ca + 1)) l w) hJ rfl (by rfl) rfl (by decide) (by decide) (Zgd _ (by decide)) (w' := w') (by simp [execOp, resolve, invoke, builtin, Act.eval, e32, hat2, go_sem, Zsz]) (Zs hW (by decide) (by decide) (Zp (by decide)))) (fun a9 w9 h9 => ⟨v9, kn9, h9⟩)
        · have e33 : a1.tmps.getD 33 undef = .pointer (some ⟨b', o' + at_ * 2 + 1, none⟩) := (hJ.sl 5 (by decide) (Zb hi 5 (by kernel_rfl)) (by decide))
          have h0 := gW.cell d1 (by simpa using eB)
          exact Zj (Zq (WS := fun l w => WX 8 11 [(10, 0), (9, 8), (10, 8)] W.drew (some bk) (fun w9 => KnW w9 bk fs.length kn9 /\ kn9 ca = some v9 /\ KnC fs.length kn9 /\ KnM fin fs.length kn kn9 (rk fin ca + 1)) l w) hJ rfl (by rfl) rfl (by decide) (by decide) (Zgd _ (by decide)) (w' := w') (by simp [execOp, resolve, invoke, builtin, Act.eval, e33, h0, hat2, go_sem, Zsz]) (Zs hW (by decide) (by decide) (Zp (by decide)))) (fun a9 w9 h9 => ⟨v9, kn9, h9⟩)
        · have e4 : a1.tmps.getD 4 undef = .pointer (some ⟨Ak, 0, none⟩) := hJ.un 4 (fun i hi _ => Zsk 4 (by decide) i hi)
          have h0 := gW.cell kc (by simpa using eAk)
          exact Zj (Zq (WS := fun l w => WX 8 11 [(10, 0), (9, 8), (10, 8)] W.drew (some bk) (fun w9 => KnW w9 bk fs.length kn9 /\ kn9 ca = some v9 /\ KnC fs.length kn9 /\ KnM fin fs.length kn kn9 (rk fin ca + 1)) l w) hJ rfl (by rfl) rfl (by decide) (by decide) (Zgd _ (by decide)) (w' := w') (by simp [execOp, resolve, invoke, builtin, Act.eval, e4, h0, hat2, go_sem, Zsz]) (Zs hW (by decide) (by decide) (Zp (by decide)))) (fun a9 w9 h9 => ⟨v9, kn9, h9⟩)
        · have e29 : a1.tmps.getD 29 undef = .pointer (some ⟨bw, 0, none⟩) := (hJ.sl 1 (by decide) (Zb hi 1 (by kernel_rfl)) (by decide))
          have e34 : a1.tmps.getD 34 undef = .int .i64 ca := (hJ.sl 6 (by decide) (Zb hi 6 (by kernel_rfl)) (by decide))
          have e35 : a1.tmps.getD 35 undef = .map (some bk) := (hJ.sl 7 (by decide) (Zb hi 7 (by kernel_rfl)) (by decide))
          have no8 : ∀ j, (j, 8) ∈ ([(10, 0), (9, 8), (10, 8)] : List (Nat × Nat)) -> l.getD j false = false := fun j hj => (by
           rcases Bool.eq_false_or_eq_true (l.getD j false) with e | e
           · have := hW.x (j, 8) hj e; rw [hun] at this; cases this
           · exact e)
          have hw0 := hW.h0 hun
          subst hw0
          refine Zca rfl (by rfl) (by simp [execOp, resolve, invoke, Act.eval, e29, e34, e35, go_sem]) (CA.out.mono fun e w2 he => ?_)
          obtain ⟨v8, kn8, rfl, g8, k8, k8f, kb8, km8⟩ := he
          refine ⟨_, rfl, v8, kn8, ?_, Zqj hW (by decide) (Zp (by decide)) ⟨k8, k8f, kb8, km8⟩ (Za (hW.g) g8)⟩
          exact Zfz (val := (Zsz Aw Ac Ak bw at_ b' o' c.length cc ca bk v8)) (Zfy hJ (Yza l hun (no8 9 (by simp)) (no8 10 (by simp)))) (by decide) (by decide) (Zgd _ (by decide))
        · have e28 : a1.tmps.getD 28 undef = .int .i64 1 := (hJ.sl 0 (by decide) (Zb hi 0 (by kernel_rfl)) (by decide))
          have e36 : a1.tmps.getD 36 undef = .int .i64 v9 := (hJ.sl 8 (by decide) (Zb hi 8 (by kernel_rfl)) (by decide))
          have l8 : l.getD 8 false = true := Zb hi 8 (by kernel_rfl)
          obtain ⟨-, hk9, hb9, -⟩ := hW.h1 l8
          have hv9 := hb9 ca hca2 v9 hk9
          have hw2 : IntKind.i64.wrap (1 + v9) = 1 + v9 := IntWalk.i64_in _ (by omega)
          exact Zj (Zq (WS := fun l w => WX 8 11 [(10, 0), (9, 8), (10, 8)] W.drew (some bk) (fun w9 => KnW w9 bk fs.length kn9 /\ kn9 ca = some v9 /\ KnC fs.length kn9 /\ KnM fin fs.length kn kn9 (rk fin ca + 1)) l w) hJ rfl (by rfl) rfl (by decide) (by decide) (Zgd _ (by decide)) (w' := w') (by simp [execOp, Act.eval, e28, e36, hw2, go_sem, Zsz]) (Zs hW (by decide) (by decide) (Yzb l8))) (fun a9 w9 h9 => ⟨v9, kn9, h9⟩)
        · have e37 : a1.tmps.getD 37 undef = .int .i64 (1 + v9) := (hJ.sl 9 (by decide) (Zb hi 9 (by kernel_rfl)) (by decide))
          have l0 : l.getD 0 false = true := Zb hi 0 (by kernel_rfl)
          have l9 : l.getD 9 false = true := Zb hi 9 (by kernel_rfl)
          exact Zj (Zq (WS := fun l w => WX 8 11 [(10, 0), (9, 8), (10, 8)] W.drew (some bk) (fun w9 => KnW w9 bk fs.length kn9 /\ kn9 ca = some v9 /\ KnC fs.length kn9 /\ KnM fin fs.length kn kn9 (rk fin ca + 1)) l w) hJ rfl (by rfl) rfl (by decide) (by decide) (Zgd _ (by decide)) (w' := w') (by simp [execOp, Act.eval, e37, go_sem, Zsz]) (Zs hW (by decide) (by decide) (Yve l0 (hW.x (9, 8) (by decide) l9)))) (fun a9 w9 h9 => ⟨v9, kn9, h9⟩)
       intro l a1 Wn hJJ hl
       obtain ⟨v9, kn1, hJ, hW⟩ := hJJ
       obtain ⟨k9, k9f, kb9, km9⟩ := hW.h1 (hl 8 (by decide))
       have hput := Zei hJ rfl hl (fun i j h1 h2 h3 => Zgd j h2 i h1 h3)
       subst hput
       have gn : W.grownBy Wn (some bk) := Za (Zf (Ze W _)) hW.g
       have XN := Hq (Zzd HH.out hlx gn k9)
       have CN := Hq (Yje HC.out hbk.2 gn)
       have KCN := Hq kb9
       have KMN := Hq (show KnM fin fs.length kn kn1 (rk fin f) from Znk (Zrw fin fs.length kn 0) km9 (Nat.zero_le _) (by have := HCR.out; omega))
       have SN := Hq (show Sp (fun k => k = bk \/ k = Ag) W Wn from Zl gn (fun k _ e => by injection e with e; exact Or.inl e.symm))
       have hv9 := kb9 ca hca2 v9 k9f
       obtain ⟨nv, hnv⟩ : ∃ nv, nv = 1 + v9 := ⟨_, rfl⟩
       have NV : 1 <= nv /\ nv <= 1099511627778 := by omega
       refine hK _ _ ?_
       simp only [Ja, cr5, Zsz, Act.put, List.setIfInBounds_toArray, List.set_cons_zero, List.set_cons_succ]
       rw [<- hnv]
       clear hK K hJ hW hl k9 k9f kb9 km9 gn hv9 hnv CA wc kc s4 s5 hcc xc e0 e1 d1 D1 zc zcell s1 s2 lgA lg s3 q1
       go_upto_region 6 with fail
       rename_i K hK
       have kb := Zc SS.out.bwc XN.out.g (by intro e; injection e with e; exact SS.out.ne1 e.symm)
       have b0 := Cq _ _ 0 _ _ _ kb
       have b1 := Cq _ _ 1 _ _ _ kb
       have b2 := Cq _ _ 2 _ _ _ kb
       have wc := Zn CN.out.bw_
       have fc := Zn CN.out.bf
       simp only [] at wc fc
       have hszn := XN.out.g.size
       have hlgn := Zvp CN.out
       simp only [] at hlgn
       obtain ⟨L, hL2, hLy, nx⟩ := Zuh mem (.slice pd nd cd) fs pF cF B f at_ ar lo r c _ _ Wn.drew rank T ⟨_, _, _, rfl⟩ (by have := SS.out.hB; simp; omega) (Yb SS.out.hF (Zf XN.out.g) (fun r e => by injection e with e; rw [<- e]; exact SS.out.bx_)) HFN.out HIN.out SS.out.nf hbn.2 HNX.out
       have NX := Hq nx
       have HLY := Hq hLy
       clear nx hLy kb
       refine Zck (n := 10) (J := fun a0 l a1 w1 => ∃ p9 k9, RJ a0 68 10 cr6 (Zlg Aw Af bw at_ f nd cd fs.length cF L.length k9 mem pd pF p9) l a1 /\ WX 7 10 [(8, 7)] Wn.drew none (fun w9 => w9.ownsRow Wn.drew.heap.size 3 1 (.slice p9 L.length k9) L.length (L.map (Value.int .i64))) l w1) (by kernel_rfl) rfl (Zen (by kernel_rfl)) (fun l a1 w1 h => by obtain ⟨_, _, _, h⟩ := h; exact h.sz) ⟨none, 0, Zax rfl, Zlo _ _ _ _ _ _⟩ ?stWn ?fiWn
       case stWn =>
        intro l a1 w' i hJJ hi hin
        obtain ⟨p9, k9, hJ, hW⟩ := hJJ
        have hun : l.getD i false = false := getD_both (mem_ready.1 hi).1
        have gW : Wn.grownBy w' none := Za (Zf (Ze Wn _)) hW.g
        rcases Yjc i hin with rfl | rfl | rfl | rfl | rfl | rfl | rfl | rfl | rfl | rfl
        · have e3 : a1.tmps.getD 3 undef = .pointer (some ⟨Aw, 0, none⟩) := hJ.un 3 (fun i hi _ => Zks 3 (by decide) i hi)
          have h0 := gW.cell wc (by simp)
          exact Zj (Zq (WS := fun l w => WX 7 10 [(8, 7)] Wn.drew none (fun w9 => w9.ownsRow Wn.drew.heap.size 3 1 (.slice p9 L.length k9) L.length (L.map (Value.int .i64))) l w) hJ rfl (by rfl) rfl (by decide) (by decide) (Zal _ (by decide)) (w' := w') (by simp [execOp, resolve, invoke, builtin, Act.eval, e3, h0, go_sem, Zlg]) (Zs hW (by decide) (by decide) (Zp (by decide)))) (fun a9 w9 h9 => ⟨p9, k9, h9⟩)
        · have e38 : a1.tmps.getD 38 undef = .pointer (some ⟨bw, 0, none⟩) := (hJ.sl 0 (by decide) (Zb hi 0 (by kernel_rfl)) (by decide))
          exact Zj (Zq (WS := fun l w => WX 7 10 [(8, 7)] Wn.drew none (fun w9 => w9.ownsRow Wn.drew.heap.size 3 1 (.slice p9 L.length k9) L.length (L.map (Value.int .i64))) l w) hJ rfl (by rfl) rfl (by decide) (by decide) (Zal _ (by decide)) (w' := w') (by simp [execOp, resolve, invoke, builtin, Act.eval, e38, go_sem, Zlg]) (Zs hW (by decide) (by decide) (Zp (by decide)))) (fun a9 w9 h9 => ⟨p9, k9, h9⟩)
        · have e39 : a1.tmps.getD 39 undef = .pointer (some ⟨bw, 0, none⟩) := (hJ.sl 1 (by decide) (Zb hi 1 (by kernel_rfl)) (by decide))
          exact Zj (Zq (WS := fun l w => WX 7 10 [(8, 7)] Wn.drew none (fun w9 => w9.ownsRow Wn.drew.heap.size 3 1 (.slice p9 L.length k9) L.length (L.map (Value.int .i64))) l w) hJ rfl (by rfl) rfl (by decide) (by decide) (Zal _ (by decide)) (w' := w') (by simp [execOp, resolve, invoke, builtin, Act.eval, e39, go_sem, Zlg]) (Zs hW (by decide) (by decide) (Zp (by decide)))) (fun a9 w9 h9 => ⟨p9, k9, h9⟩)
        · have e40 : a1.tmps.getD 40 undef = .pointer (some ⟨bw, 0, none⟩) := (hJ.sl 2 (by decide) (Zb hi 2 (by kernel_rfl)) (by decide))
          have h0 := gW.cell b0 (by simp)
          have h1 := gW.cell b1 (by simp)
          have h2 := gW.cell b2 (by simp)
          exact Zj (Zq (WS := fun l w => WX 7 10 [(8, 7)] Wn.drew none (fun w9 => w9.ownsRow Wn.drew.heap.size 3 1 (.slice p9 L.length k9) L.length (L.map (Value.int .i64))) l w) hJ rfl (by rfl) rfl (by decide) (by decide) (Zal _ (by decide)) (w' := w') (by simp [execOp, resolve, invoke, builtin, Act.eval, e40, h0, h1, h2, go_sem, Zlg]) (Zs hW (by decide) (by decide) (Zp (by decide)))) (fun a9 w9 h9 => ⟨p9, k9, h9⟩)
        · have e5 : a1.tmps.getD 5 undef = .pointer (some ⟨Af, 0, none⟩) := hJ.un 5 (fun i hi _ => Zks 5 (by decide) i hi)
          have h0 := gW.cell fc (by simp)
          exact Zj (Zq (WS := fun l w => WX 7 10 [(8, 7)] Wn.drew none (fun w9 => w9.ownsRow Wn.drew.heap.size 3 1 (.slice p9 L.length k9) L.length (L.map (Value.int .i64))) l w) hJ rfl (by rfl) rfl (by decide) (by decide) (Zal _ (by decide)) (w' := w') (by simp [execOp, resolve, invoke, builtin, Act.eval, e5, h0, go_sem, Zlg]) (Zs hW (by decide) (by decide) (Zp (by decide)))) (fun a9 w9 h9 => ⟨p9, k9, h9⟩)
        · have e0 : a1.tmps.getD 0 undef = .int .i64 at_ := hJ.un 0 (fun i hi _ => Zks 0 (by decide) i hi)
          exact Zj (Zq (WS := fun l w => WX 7 10 [(8, 7)] Wn.drew none (fun w9 => w9.ownsRow Wn.drew.heap.size 3 1 (.slice p9 L.length k9) L.length (L.map (Value.int .i64))) l w) hJ rfl (by rfl) rfl (by decide) (by decide) (Zal _ (by decide)) (w' := w') (by simp [execOp, resolve, invoke, builtin, Act.eval, e0, go_sem, Zlg]) (Zs hW (by decide) (by decide) (Zp (by decide)))) (fun a9 w9 h9 => ⟨p9, k9, h9⟩)
        · have e42 : a1.tmps.getD 42 undef = .int .i64 f := (hJ.sl 4 (by decide) (Zb hi 4 (by kernel_rfl)) (by decide))
          have f42 := e42
          rw [Array.getD_eq_getD_getElem?] at f42
          have e43 : a1.tmps.getD 43 undef = .int .i64 at_ := (hJ.sl 5 (by decide) (Zb hi 5 (by kernel_rfl)) (by decide))
          have f43 := e43
          rw [Array.getD_eq_getD_getElem?] at f43
          exact Zj (Zq (WS := fun l w => WX 7 10 [(8, 7)] Wn.drew none (fun w9 => w9.ownsRow Wn.drew.heap.size 3 1 (.slice p9 L.length k9) L.length (L.map (Value.int .i64))) l w) hJ rfl (by rfl) rfl (by decide) (by decide) (Zal _ (by decide)) (w' := w') (by simp [execOp, resolve, invoke, builtin, Act.eval, e42, f42, e43, f43, go_sem, Zlg]) (Zs hW (by decide) (by decide) (Zp (by decide)))) (fun a9 w9 h9 => ⟨p9, k9, h9⟩)
        · have e41 : a1.tmps.getD 41 undef = .agg #[.int .i64 mem, .slice pd nd cd, .slice pF fs.length cF] := (hJ.sl 3 (by decide) (Zb hi 3 (by kernel_rfl)) (by decide))
          have e44 : a1.tmps.getD 44 undef = .agg #[.int .i64 f, .int .i64 at_] := (hJ.sl 6 (by decide) (Zb hi 6 (by kernel_rfl)) (by decide))
          have no7 : l.getD 8 false = false := (by
           rcases Bool.eq_false_or_eq_true (l.getD 8 false) with e | e
           · have := hW.x (8, 7) (by decide) e; rw [hun] at this; cases this
           · exact e)
          have hw0 := hW.h0 hun
          subst hw0
          refine Zca rfl (by rfl) (by simp [execOp, resolve, invoke, Act.eval, e41, e44, go_sem]) (NX.out.mono fun e w2 he => ?_)
          obtain ⟨v8, rfl, g8, r8⟩ := he
          obtain ⟨p8, k8, rfl⟩ := Zm r8
          refine ⟨_, rfl, p8, k8, ?_, Zqj hW (by decide) (Zp (by decide)) r8 (Za hW.g g8)⟩
          exact Zfz (val := Zlg Aw Af bw at_ f nd cd fs.length cF L.length k8 mem pd pF p8) (Zfy hJ (Yqt l hun no7)) (by decide) (by decide) (Zal _ (by decide))
        · have e45 : a1.tmps.getD 45 undef = .slice p9 L.length k9 := (hJ.sl 7 (by decide) (Zb hi 7 (by kernel_rfl)) (by decide))
          have l7 : l.getD 7 false = true := Zb hi 7 (by kernel_rfl)
          exact Zj (Zq (WS := fun l w => WX 7 10 [(8, 7)] Wn.drew none (fun w9 => w9.ownsRow Wn.drew.heap.size 3 1 (.slice p9 L.length k9) L.length (L.map (Value.int .i64))) l w) hJ rfl (by rfl) rfl (by decide) (by decide) (Zal _ (by decide)) (w' := w') (by simp [execOp, resolve, invoke, builtin, Act.eval, e45, go_sem, Zlg]) (Zs hW (by decide) (by decide) (Yqu l7))) (fun a9 w9 h9 => ⟨p9, k9, h9⟩)
        · exact Zj (Zq (WS := fun l w => WX 7 10 [(8, 7)] Wn.drew none (fun w9 => w9.ownsRow Wn.drew.heap.size 3 1 (.slice p9 L.length k9) L.length (L.map (Value.int .i64))) l w) hJ rfl (by rfl) rfl (by decide) (by decide) (Zal _ (by decide)) (w' := w') (by simp [execOp, resolve, invoke, builtin, Act.eval, go_sem, Zlg]) (Zs hW (by decide) (by decide) (Zp (by decide)))) (fun a9 w9 h9 => ⟨p9, k9, h9⟩)
       intro l a1 W2 hJJ hl
       obtain ⟨p9, k9, hJ, hW⟩ := hJJ
       have r9 := hW.h1 (hl 7 (by decide))
       have hput := Zei hJ rfl hl (fun i j h1 h2 h3 => Zal j h2 i h1 h3)
       subst hput
       have g2 : Wn.grownBy W2 none := Za (Zf (Ze Wn _)) hW.g
       have R9 := Hq r9
       have s2 : Sp (fun k => k = bk \/ k = Ag) Wn W2 := Zl g2 (fun k _ e => by cases e)
       have S2 := Hq (Zr SN.out s2 (fun _ _ h => h))
       have X2 := Hq (Yeq XN.out hlx s2 (fun k h => by rcases h with h | h <;> omega) (Zcl XN.out.kw g2 (by simp)))
       have C2 := Hq (Zoh CN.out g2)
       refine hK _ _ ?_
       simp only [Ja, cr6, Zlg, Act.put, List.setIfInBounds_toArray, List.set_cons_zero, List.set_cons_succ]
       clear hK K hJ hW hl r9 g2 s2 NX wc fc b0 b1 b2
       have hbkn : bk < Wn.drew.heap.size := by simp; omega
       have hagn : Ag < Wn.drew.heap.size := by simp; omega
       clear hszn hlgn
       generalize Wn.drew.heap.size = nB at *
       go_wp2
       go_loopw [10, 47] (fun m i wr => ∃ (k : Nat) (most : Int) (knk : Nat -> Option Int) (Zk : List Int), m = .int .i64 most /\ i = .int .i64 k /\ k <= L.length /\ (0 <= most /\ most <= 1099511627777) /\ Sp (fun k => k = bk \/ k = Ag) W wr /\ wr.ownsRow nB 3 1 (.slice p9 L.length k9) L.length (L.map (Value.int .i64)) /\ XW w0 wr bx gH gT fs.length cH cT bk x2 x3 x4 x5 knk /\ KnC fs.length knk /\ KnM fin fs.length kn knk (rk fin f) /\ CoB base wr ⟨Aw, Af, Ak, Ac, Az, Ao, Ag⟩ bw bk f c.length (.slice (some ⟨b', o', none⟩) c.length cc) Zk) (fun _ i _ => L.length - (intOf i).toNat)
       case atStart => exact ⟨0, 0, kn1, Z, rfl, rfl, Nat.zero_le _, ⟨by decide, by decide⟩, S2.out, R9.out, X2.out, KCN.out, KMN.out, C2.out⟩
       case round =>
        obtain ⟨k, most, knk, Zk, rfl, rfl, hk, hmost, hSk, hRk, hXk, hKCk, hKMk, hCk⟩ := hrel
        have HSk := Hq hSk
        have HRk := Hq hRk
        have HXk := Hq hXk
        have HKCk := Hq hKCk
        have HKMk := Hq hKMk
        have HCk := Hq hCk
        clear S2 X2 C2 R9
        by_cases hlt : (k : Int) < (L.length : Int)
        · obtain ⟨y, hy⟩ : ∃ y, L[k]? = some y := ⟨_, List.getElem?_eq_getElem (by omega)⟩
          obtain ⟨hy0, hyT, hyr⟩ := HLY.out y (List.mem_of_getElem? hy)
          obtain ⟨m, rfl⟩ := Int.eq_ofNat_of_zero_le hy0
          simp only [Int.toNat_natCast] at hyT hyr
          obtain ⟨gL, kL, eL, lL, cL⟩ := Xa hRk (by omega)
          injection eL with eL1 eL2 eL3
          subst eL1
          have cn := cL k (.int .i64 m) (by rw [List.getElem?_map, hy]; rfl) (by omega)
          have oc := Zn hCk.bo
          have s6 := (Gs hCk.bo)
          simp only [] at oc s6
          have OF := Hq (IH.out wr knk ⟨Aw, Af, Ak, Ac, Az, Ao, Ag⟩ Zk m hXk hKCk hCk hyT (by have := HM.out; omega))
          simp only [] at OF
          clear hSk hRk hXk hKCk hKMk hCk hy hy0 hyT hyr cL eL2 eL3
          go_wp2_with (go_at_call 96; refine OF.out.mono ?_; rintro e w5 ⟨v5, kn5, Z5, rfl, hv5, hs5, k5, c5, m5, C5⟩; have HS5 := Hq hs5; have HK5 := Hq k5; have HC5 := Hq c5; have HM5 := Hq m5; have HB5 := Hq C5; clear hs5 k5 c5 m5 C5 oc s6 cn)
          all_goals
           refine ⟨⟨k + 1, max most v5, kn5, Z5, ?_, by go_num, by omega, by omega, Zr HSk.out HS5.out (fun _ _ h => h), Yz HRk.out HS5.out (fun q hq hb => by have := (HRk.out.lt q hq).1; rcases hb with hb | hb <;> (try have hb : q = Ag := hb) <;> omega), Yeq HXk.out hlx HS5.out (fun q hq => by have := HLZ.out; rcases hq with hq | hq <;> (try have hq : q = Ag := hq) <;> omega) HK5.out, HC5.out, Znk HKMk.out HM5.out (Nat.le_refl _) (Nat.le_refl _), HB5.out⟩, by simp [intOf]; omega⟩
           first | rfl | (congr 1; omega)
        · have zc := Zn hCk.bz
          have zcell := Zsl hCk at_ hat2
          have zf := Jk hCk.r at_
          have lg := (Zvp hCk).2
          have s1 := (Gs hCk.bz)
          simp only [] at zc zcell zf lg s1
          have q1 : (at_ : Int) < (c.length : Int) := by omega
          have hmin : 0 <= min (nv + most) 1099511627777 /\ min (nv + most) 1099511627777 <= 1099511627777 := by omega
          have CF := Hq (Yjd hCk at_ hat2 _ hmin)
          have KF := Hq (Zcl hXk.kw (Zd wr Ag at_ (.int .i64 (min (nv + most) 1099511627777))) (by have := HLZ.out; intro e; injection e with e; omega))
          have SF := Hq (Zr HSk.out (Zfx wr Ag at_ (.int .i64 (min (nv + most) 1099511627777))) (fun q _ h => Or.inr h))
          have zc2 := Zn CF.out.bz
          simp only [] at zc2
          have hn1 : 1 <= nv := by omega
          have hn2 : nv <= 1099511627778 := by omega
          obtain ⟨hm1, hm2⟩ := hmost
          clear hSk hRk hXk hKCk hKMk hCk
          go_wp2
          all_goals
           go_ret
           exact ⟨min (nv + most) 1099511627777, knk, _, Xf (by omega), hmin, SF.out, KF.out, HKCk.out, HKMk.out, CF.out⟩
     · have h17b : (op == 17) = false := by simp [h17]
       have XN := HH
       have CN := HC
       have KCN := HK
       have KMN := Hq (Zrw fin fs.length kn (rk fin f))
       have SN := Hq (Zim (fun k => k = bk \/ k = Ag) W)
       clear H hC hKC hP hco ih S hok hfn hcode hnx hins ht hM hff hlt hlz hnz d0 d1 hv hz hz0
       go_enter Try.func96, Try.ntmps96
       go_upto_region 6 with fail
       rename_i K hK
       have kb := Zc SS.out.bwc XN.out.g (by intro e; injection e with e; exact SS.out.ne1 e.symm)
       have b0 := Cq _ _ 0 _ _ _ kb
       have b1 := Cq _ _ 1 _ _ _ kb
       have b2 := Cq _ _ 2 _ _ _ kb
       have wc := Zn CN.out.bw_
       have fc := Zn CN.out.bf
       simp only [] at wc fc
       have hszn := XN.out.g.size
       have hlgn := Zvp CN.out
       simp only [] at hlgn
       obtain ⟨L, hL2, hLy, nx⟩ := Zuh mem (.slice pd nd cd) fs pF cF B f at_ ar lo r c _ _ W.drew rank T ⟨_, _, _, rfl⟩ (by have := SS.out.hB; simp; omega) (Yb SS.out.hF (Zf XN.out.g) (fun r e => by injection e with e; rw [<- e]; exact SS.out.bx_)) HFN.out HIN.out SS.out.nf hbn.2 HNX.out
       have NX := Hq nx
       have HLY := Hq hLy
       clear nx hLy kb
       refine Zck (n := 10) (J := fun a0 l a1 w1 => ∃ p9 k9, RJ a0 68 10 cr6 (Zlg Aw Af bw at_ f nd cd fs.length cF L.length k9 mem pd pF p9) l a1 /\ WX 7 10 [(8, 7)] W.drew none (fun w9 => w9.ownsRow W.drew.heap.size 3 1 (.slice p9 L.length k9) L.length (L.map (Value.int .i64))) l w1) (by kernel_rfl) rfl (Zen (by kernel_rfl)) (fun l a1 w1 h => by obtain ⟨_, _, _, h⟩ := h; exact h.sz) ⟨none, 0, Zax rfl, Zlo _ _ _ _ _ _⟩ ?stW ?fiW
       case stW =>
        intro l a1 w' i hJJ hi hin
        obtain ⟨p9, k9, hJ, hW⟩ := hJJ
        have hun : l.getD i false = false := getD_both (mem_ready.1 hi).1
        have gW : W.grownBy w' none := Za (Zf (Ze W _)) hW.g
        rcases Yjc i hin with rfl | rfl | rfl | rfl | rfl | rfl | rfl | rfl | rfl | rfl
        · have e3 : a1.tmps.getD 3 undef = .pointer (some ⟨Aw, 0, none⟩) := hJ.un 3 (fun i hi _ => Zks 3 (by decide) i hi)
          have h0 := gW.cell wc (by simp)
          exact Zj (Zq (WS := fun l w => WX 7 10 [(8, 7)] W.drew none (fun w9 => w9.ownsRow W.drew.heap.size 3 1 (.slice p9 L.length k9) L.length (L.map (Value.int .i64))) l w) hJ rfl (by rfl) rfl (by decide) (by decide) (Zal _ (by decide)) (w' := w') (by simp [execOp, resolve, invoke, builtin, Act.eval, e3, h0, go_sem, Zlg]) (Zs hW (by decide) (by decide) (Zp (by decide)))) (fun a9 w9 h9 => ⟨p9, k9, h9⟩)
        · have e38 : a1.tmps.getD 38 undef = .pointer (some ⟨bw, 0, none⟩) := (hJ.sl 0 (by decide) (Zb hi 0 (by kernel_rfl)) (by decide))
          exact Zj (Zq (WS := fun l w => WX 7 10 [(8, 7)] W.drew none (fun w9 => w9.ownsRow W.drew.heap.size 3 1 (.slice p9 L.length k9) L.length (L.map (Value.int .i64))) l w) hJ rfl (by rfl) rfl (by decide) (by decide) (Zal _ (by decide)) (w' := w') (by simp [execOp, resolve, invoke, builtin, Act.eval, e38, go_sem, Zlg]) (Zs hW (by decide) (by decide) (Zp (by decide)))) (fun a9 w9 h9 => ⟨p9, k9, h9⟩)
        · have e39 : a1.tmps.getD 39 undef = .pointer (some ⟨bw, 0, none⟩) := (hJ.sl 1 (by decide) (Zb hi 1 (by kernel_rfl)) (by decide))
          exact Zj (Zq (WS := fun l w => WX 7 10 [(8, 7)] W.drew none (fun w9 => w9.ownsRow W.drew.heap.size 3 1 (.slice p9 L.length k9) L.length (L.map (Value.int .i64))) l w) hJ rfl (by rfl) rfl (by decide) (by decide) (Zal _ (by decide)) (w' := w') (by simp [execOp, resolve, invoke, builtin, Act.eval, e39, go_sem, Zlg]) (Zs hW (by decide) (by decide) (Zp (by decide)))) (fun a9 w9 h9 => ⟨p9, k9, h9⟩)
        · have e40 : a1.tmps.getD 40 undef = .pointer (some ⟨bw, 0, none⟩) := (hJ.sl 2 (by decide) (Zb hi 2 (by kernel_rfl)) (by decide))
          have h0 := gW.cell b0 (by simp)
          have h1 := gW.cell b1 (by simp)
          have h2 := gW.cell b2 (by simp)
          exact Zj (Zq (WS := fun l w => WX 7 10 [(8, 7)] W.drew none (fun w9 => w9.ownsRow W.drew.heap.size 3 1 (.slice p9 L.length k9) L.length (L.map (Value.int .i64))) l w) hJ rfl (by rfl) rfl (by decide) (by decide) (Zal _ (by decide)) (w' := w') (by simp [execOp, resolve, invoke, builtin, Act.eval, e40, h0, h1, h2, go_sem, Zlg]) (Zs hW (by decide) (by decide) (Zp (by decide)))) (fun a9 w9 h9 => ⟨p9, k9, h9⟩)
        · have e5 : a1.tmps.getD 5 undef = .pointer (some ⟨Af, 0, none⟩) := hJ.un 5 (fun i hi _ => Zks 5 (by decide) i hi)
          have h0 := gW.cell fc (by simp)
          exact Zj (Zq (WS := fun l w => WX 7 10 [(8, 7)] W.drew none (fun w9 => w9.ownsRow W.drew.heap.size 3 1 (.slice p9 L.length k9) L.length (L.map (Value.int .i64))) l w) hJ rfl (by rfl) rfl (by decide) (by decide) (Zal _ (by decide)) (w' := w') (by simp [execOp, resolve, invoke, builtin, Act.eval, e5, h0, go_sem, Zlg]) (Zs hW (by decide) (by decide) (Zp (by decide)))) (fun a9 w9 h9 => ⟨p9, k9, h9⟩)
        · have e0 : a1.tmps.getD 0 undef = .int .i64 at_ := hJ.un 0 (fun i hi _ => Zks 0 (by decide) i hi)
          exact Zj (Zq (WS := fun l w => WX 7 10 [(8, 7)] W.drew none (fun w9 => w9.ownsRow W.drew.heap.size 3 1 (.slice p9 L.length k9) L.length (L.map (Value.int .i64))) l w) hJ rfl (by rfl) rfl (by decide) (by decide) (Zal _ (by decide)) (w' := w') (by simp [execOp, resolve, invoke, builtin, Act.eval, e0, go_sem, Zlg]) (Zs hW (by decide) (by decide) (Zp (by decide)))) (fun a9 w9 h9 => ⟨p9, k9, h9⟩)
        · have e42 : a1.tmps.getD 42 undef = .int .i64 f := (hJ.sl 4 (by decide) (Zb hi 4 (by kernel_rfl)) (by decide))
          have f42 := e42
          rw [Array.getD_eq_getD_getElem?] at f42
          have e43 : a1.tmps.getD 43 undef = .int .i64 at_ := (hJ.sl 5 (by decide) (Zb hi 5 (by kernel_rfl)) (by decide))
          have f43 := e43
          rw [Array.getD_eq_getD_getElem?] at f43
          exact Zj (Zq (WS := fun l w => WX 7 10 [(8, 7)] W.drew none (fun w9 => w9.ownsRow W.drew.heap.size 3 1 (.slice p9 L.length k9) L.length (L.map (Value.int .i64))) l w) hJ rfl (by rfl) rfl (by decide) (by decide) (Zal _ (by decide)) (w' := w') (by simp [execOp, resolve, invoke, builtin, Act.eval, e42, f42, e43, f43, go_sem, Zlg]) (Zs hW (by decide) (by decide) (Zp (by decide)))) (fun a9 w9 h9 => ⟨p9, k9, h9⟩)
        · have e41 : a1.tmps.getD 41 undef = .agg #[.int .i64 mem, .slice pd nd cd, .slice pF fs.length cF] := (hJ.sl 3 (by decide) (Zb hi 3 (by kernel_rfl)) (by decide))
          have e44 : a1.tmps.getD 44 undef = .agg #[.int .i64 f, .int .i64 at_] := (hJ.sl 6 (by decide) (Zb hi 6 (by kernel_rfl)) (by decide))
          have no7 : l.getD 8 false = false := (by
           rcases Bool.eq_false_or_eq_true (l.getD 8 false) with e | e
           · have := hW.x (8, 7) (by decide) e; rw [hun] at this; cases this
           · exact e)
          have hw0 := hW.h0 hun
          subst hw0
          refine Zca rfl (by rfl) (by simp [execOp, resolve, invoke, Act.eval, e41, e44, go_sem]) (NX.out.mono fun e w2 he => ?_)
          obtain ⟨v8, rfl, g8, r8⟩ := he
          obtain ⟨p8, k8, rfl⟩ := Zm r8
          refine ⟨_, rfl, p8, k8, ?_, Zqj hW (by decide) (Zp (by decide)) r8 (Za hW.g g8)⟩
          exact Zfz (val := Zlg Aw Af bw at_ f nd cd fs.length cF L.length k8 mem pd pF p8) (Zfy hJ (Yqt l hun no7)) (by decide) (by decide) (Zal _ (by decide))
        · have e45 : a1.tmps.getD 45 undef = .slice p9 L.length k9 := (hJ.sl 7 (by decide) (Zb hi 7 (by kernel_rfl)) (by decide))
          have l7 : l.getD 7 false = true := Zb hi 7 (by kernel_rfl)
          exact Zj (Zq (WS := fun l w => WX 7 10 [(8, 7)] W.drew none (fun w9 => w9.ownsRow W.drew.heap.size 3 1 (.slice p9 L.length k9) L.length (L.map (Value.int .i64))) l w) hJ rfl (by rfl) rfl (by decide) (by decide) (Zal _ (by decide)) (w' := w') (by simp [execOp, resolve, invoke, builtin, Act.eval, e45, go_sem, Zlg]) (Zs hW (by decide) (by decide) (Yqu l7))) (fun a9 w9 h9 => ⟨p9, k9, h9⟩)
        · exact Zj (Zq (WS := fun l w => WX 7 10 [(8, 7)] W.drew none (fun w9 => w9.ownsRow W.drew.heap.size 3 1 (.slice p9 L.length k9) L.length (L.map (Value.int .i64))) l w) hJ rfl (by rfl) rfl (by decide) (by decide) (Zal _ (by decide)) (w' := w') (by simp [execOp, resolve, invoke, builtin, Act.eval, go_sem, Zlg]) (Zs hW (by decide) (by decide) (Zp (by decide)))) (fun a9 w9 h9 => ⟨p9, k9, h9⟩)
       intro l a1 W2 hJJ hl
       obtain ⟨p9, k9, hJ, hW⟩ := hJJ
       have r9 := hW.h1 (hl 7 (by decide))
       have hput := Zei hJ rfl hl (fun i j h1 h2 h3 => Zal j h2 i h1 h3)
       subst hput
       have g2 : W.grownBy W2 none := Za (Zf (Ze W _)) hW.g
       have R9 := Hq r9
       have s2 : Sp (fun k => k = bk \/ k = Ag) W W2 := Zl g2 (fun k _ e => by cases e)
       have S2 := Hq (Zr SN.out s2 (fun _ _ h => h))
       have X2 := Hq (Yeq XN.out hlx s2 (fun k h => by rcases h with h | h <;> omega) (Zcl XN.out.kw g2 (by simp)))
       have C2 := Hq (Zoh CN.out g2)
       refine hK _ _ ?_
       simp only [Ja, cr6, Zlg, Act.put, List.setIfInBounds_toArray, List.set_cons_zero, List.set_cons_succ]
       clear hK K hJ hW hl r9 g2 s2 NX wc fc b0 b1 b2
       have hbkn : bk < W.drew.heap.size := by simp; omega
       have hagn : Ag < W.drew.heap.size := by simp; omega
       clear hszn hlgn
       generalize W.drew.heap.size = nB at *
       go_wp2
       go_loopw [10, 47] (fun m i wr => ∃ (k : Nat) (most : Int) (knk : Nat -> Option Int) (Zk : List Int), m = .int .i64 most /\ i = .int .i64 k /\ k <= L.length /\ (0 <= most /\ most <= 1099511627777) /\ Sp (fun k => k = bk \/ k = Ag) W wr /\ wr.ownsRow nB 3 1 (.slice p9 L.length k9) L.length (L.map (Value.int .i64)) /\ XW w0 wr bx gH gT fs.length cH cT bk x2 x3 x4 x5 knk /\ KnC fs.length knk /\ KnM fin fs.length kn knk (rk fin f) /\ CoB base wr ⟨Aw, Af, Ak, Ac, Az, Ao, Ag⟩ bw bk f c.length (.slice (some ⟨b', o', none⟩) c.length cc) Zk) (fun _ i _ => L.length - (intOf i).toNat)
       case atStart => exact ⟨0, 0, kn, Z, rfl, rfl, Nat.zero_le _, ⟨by decide, by decide⟩, S2.out, R9.out, X2.out, KCN.out, KMN.out, C2.out⟩
       case round =>
        obtain ⟨k, most, knk, Zk, rfl, rfl, hk, hmost, hSk, hRk, hXk, hKCk, hKMk, hCk⟩ := hrel
        have HSk := Hq hSk
        have HRk := Hq hRk
        have HXk := Hq hXk
        have HKCk := Hq hKCk
        have HKMk := Hq hKMk
        have HCk := Hq hCk
        clear S2 X2 C2 R9
        by_cases hlt : (k : Int) < (L.length : Int)
        · obtain ⟨y, hy⟩ : ∃ y, L[k]? = some y := ⟨_, List.getElem?_eq_getElem (by omega)⟩
          obtain ⟨hy0, hyT, hyr⟩ := HLY.out y (List.mem_of_getElem? hy)
          obtain ⟨m, rfl⟩ := Int.eq_ofNat_of_zero_le hy0
          simp only [Int.toNat_natCast] at hyT hyr
          obtain ⟨gL, kL, eL, lL, cL⟩ := Xa hRk (by omega)
          injection eL with eL1 eL2 eL3
          subst eL1
          have cn := cL k (.int .i64 m) (by rw [List.getElem?_map, hy]; rfl) (by omega)
          have oc := Zn hCk.bo
          have s6 := (Gs hCk.bo)
          simp only [] at oc s6
          have OF := Hq (IH.out wr knk ⟨Aw, Af, Ak, Ac, Az, Ao, Ag⟩ Zk m hXk hKCk hCk hyT (by have := HM.out; omega))
          simp only [] at OF
          clear hSk hRk hXk hKCk hKMk hCk hy hy0 hyT hyr cL eL2 eL3
          go_wp2_with (go_at_call 96; refine OF.out.mono ?_; rintro e w5 ⟨v5, kn5, Z5, rfl, hv5, hs5, k5, c5, m5, C5⟩; have HS5 := Hq hs5; have HK5 := Hq k5; have HC5 := Hq c5; have HM5 := Hq m5; have HB5 := Hq C5; clear hs5 k5 c5 m5 C5 oc s6 cn)
          all_goals
           refine ⟨⟨k + 1, max most v5, kn5, Z5, ?_, by go_num, by omega, by omega, Zr HSk.out HS5.out (fun _ _ h => h), Yz HRk.out HS5.out (fun q hq hb => by have := (HRk.out.lt q hq).1; rcases hb with hb | hb <;> (try have hb : q = Ag := hb) <;> omega), Yeq HXk.out hlx HS5.out (fun q hq => by have := HLZ.out; rcases hq with hq | hq <;> (try have hq : q = Ag := hq) <;> omega) HK5.out, HC5.out, Znk HKMk.out HM5.out (Nat.le_refl _) (Nat.le_refl _), HB5.out⟩, by simp [intOf]; omega⟩
           first | rfl | (congr 1; omega)
        · have zc := Zn hCk.bz
          have zcell := Zsl hCk at_ hat2
          have zf := Jk hCk.r at_
          have lg := (Zvp hCk).2
          have s1 := (Gs hCk.bz)
          simp only [] at zc zcell zf lg s1
          have q1 : (at_ : Int) < (c.length : Int) := by omega
          have hmin : 0 <= min (1 + most) 1099511627777 /\ min (1 + most) 1099511627777 <= 1099511627777 := by omega
          have CF := Hq (Yjd hCk at_ hat2 _ hmin)
          have KF := Hq (Zcl hXk.kw (Zd wr Ag at_ (.int .i64 (min (1 + most) 1099511627777))) (by have := HLZ.out; intro e; injection e with e; omega))
          have SF := Hq (Zr HSk.out (Zfx wr Ag at_ (.int .i64 (min (1 + most) 1099511627777))) (fun q _ h => Or.inr h))
          have zc2 := Zn CF.out.bz
          simp only [] at zc2
          have hn1 : 1 <= 1 := by omega
          have hn2 : 1 <= 1099511627778 := by omega
          obtain ⟨hm1, hm2⟩ := hmost
          clear hSk hRk hXk hKCk hKMk hCk
          go_wp2
          all_goals
           go_ret
           exact ⟨min (1 + most) 1099511627777, knk, _, Xf (by omega), hmin, SF.out, KF.out, HKCk.out, HKMk.out, CF.out⟩
end Go.Proofs.Ytecaolkbllbokaa.CK
