import Derived.Test.YtecaolkbllbokaaMT26
import Derived.Deep.LoopGhost
import Derived.Deep.Cut
set_option linter.unusedSimpArgs false
set_option linter.unusedVariables false
set_option maxRecDepth 100000
set_option maxHeartbeats 16000000
namespace Go.Proofs.Ytecaolkbllbokaa.CK
open Go.RowKit Go.Great
def Zcu : Code -> Option Code
 | .loop c => some c
 | .seq a b => match Zcu a with
   | some c => some c
   | none => Zcu b
 | .block _ c => Zcu c
 | .scope c => Zcu c
 | .cond _ a b => match Zcu a with
   | some c => some c
   | none => Zcu b
 | _ => none
noncomputable def Zgu : Code := ((Try.f39.body.bind Zcu).getD .skip)
def lpF (A : LA) (n : Nat) (t : Nat -> Value) : Act := ⟨#[t 0, t 1, t 2, t 3, t 4, t 5, t 6, .func (.func 58) #[] #[.pointer (some ⟨A.h, 0, none⟩), .pointer (some ⟨A.p, 0, none⟩), .pointer (some ⟨A.f, 0, none⟩)], .pointer (some ⟨A.n, 0, none⟩), .pointer (some ⟨A.b, 0, none⟩), .pointer (some ⟨A.o, 0, none⟩), .slice (some ⟨A.gi, 0, none⟩) n n, .pointer (some ⟨A.r, 0, none⟩), .pointer (some ⟨A.w, 0, none⟩), .pointer (some ⟨A.m, 0, none⟩), .func (.func 60) #[] #[.pointer (some ⟨A.m, 0, none⟩), .pointer (some ⟨A.n, 0, none⟩), .pointer (some ⟨A.b, 0, none⟩), .pointer (some ⟨A.o, 0, none⟩), .pointer (some ⟨A.r, 0, none⟩), .pointer (some ⟨A.w, 0, none⟩)], t 16, t 17, t 18, t 19, t 20, t 21, t 22, t 23, t 24, t 25, t 26, t 27, t 28, t 29, t 30, t 31, t 32, t 33, t 34, t 35, t 36, t 37, t 38, t 39, t 40, t 41, t 42, t 43, t 44, t 45, t 46, t 47, t 48, t 49, t 50, t 51, t 52, t 53, t 54, t 55, t 56, t 57, t 58, t 59, t 60, t 61, t 62, t 63, t 64, t 65, t 66, t 67, t 68, t 69, t 70, t 71, t 72, t 73, t 74, t 75, t 76, t 77, t 78, t 79, t 80, t 81, t 82, t 83, t 84, t 85, t 86, t 87, t 88, t 89, t 90, t 91, t 92, t 93, t 94, t 95, t 96, t 97, t 98, t 99, t 100, t 101, t 102, t 103, t 104, t 105, t 106, t 107, t 108, t 109, t 110, t 111, t 112, t 113, t 114, t 115, t 116, t 117, t 118, t 119, t 120, t 121, t 122, t 123, t 124, t 125, t 126, t 127, t 128, t 129, t 130, t 131, t 132, t 133, t 134, t 135, t 136, t 137, t 138, t 139, t 140, t 141, t 142, t 143, t 144, t 145, t 146, t 147, t 148, t 149, t 150, t 151, t 152, t 153, t 154, t 155, t 156, t 157, t 158, t 159, t 160, t 161, t 162, t 163, t 164, t 165, t 166, t 167, t 168, t 169, t 170, t 171, t 172, t 173, t 174, t 175, t 176, t 177, t 178, t 179, t 180, t 181, t 182, t 183, t 184, t 185, t 186, t 187, t 188, t 189, t 190, t 191, t 192, t 193, t 194, t 195, t 196, t 197, t 198, t 199, t 200, t 201, t 202, t 203, t 204, t 205, t 206, t 207, t 208, t 209, t 210], []⟩
structure LFr (A : LA) (n : Nat) (a : Act) : Prop where
 sz : a.tmps.size = 211
 df : a.defers = []
 s7 : a.tmps.getD 7 undef = .func (.func 58) #[] #[.pointer (some ⟨A.h, 0, none⟩), .pointer (some ⟨A.p, 0, none⟩), .pointer (some ⟨A.f, 0, none⟩)]
 s8 : a.tmps.getD 8 undef = .pointer (some ⟨A.n, 0, none⟩)
 s9 : a.tmps.getD 9 undef = .pointer (some ⟨A.b, 0, none⟩)
 s10 : a.tmps.getD 10 undef = .pointer (some ⟨A.o, 0, none⟩)
 s11 : a.tmps.getD 11 undef = .slice (some ⟨A.gi, 0, none⟩) n n
 s12 : a.tmps.getD 12 undef = .pointer (some ⟨A.r, 0, none⟩)
 s13 : a.tmps.getD 13 undef = .pointer (some ⟨A.w, 0, none⟩)
 s14 : a.tmps.getD 14 undef = .pointer (some ⟨A.m, 0, none⟩)
 s15 : a.tmps.getD 15 undef = .func (.func 60) #[] #[.pointer (some ⟨A.m, 0, none⟩), .pointer (some ⟨A.n, 0, none⟩), .pointer (some ⟨A.b, 0, none⟩), .pointer (some ⟨A.o, 0, none⟩), .pointer (some ⟨A.r, 0, none⟩), .pointer (some ⟨A.w, 0, none⟩)]
theorem Yqk {A : LA} {n : Nat} {a : Act} (H : LFr A n a) : a = lpF A n (fun i => a.tmps.getD i undef) := by
 refine Zhf H.sz H.df fun j hj => ?_
 have hs := H.sz
 rw [hs] at hj
 unfold tm
 iterate 7 (rcases j with _ | j; · rfl)
 rcases j with _ | j
 · exact H.s7
 rcases j with _ | j
 · exact H.s8
 rcases j with _ | j
 · exact H.s9
 rcases j with _ | j
 · exact H.s10
 rcases j with _ | j
 · exact H.s11
 rcases j with _ | j
 · exact H.s12
 rcases j with _ | j
 · exact H.s13
 rcases j with _ | j
 · exact H.s14
 rcases j with _ | j
 · exact H.s15
 iterate 195 (rcases j with _ | j; · rfl)
 omega
def Xd (w : World) (code : List (Int × Int)) (h : List Int) (e : Ending) (w' : World) : Prop :=
 ∃ v L, e = .returned v /\ w.grownBy w' none /\ w'.ownsRow w.heap.size 3 1 v L.length (Zfc L) /\ (L = [] -> Yvw (nxL code h))
def LpR (w : World) (R : Nat) (A : LA) (C : LC) (code : List (Int × Int)) (h : List Int) (k : Nat) (wr : World) : Prop :=
 ∃ s vr vw, k = Jq code.length (nxL code h) s /\ Zmi code.length (nxL code h) s /\ 4 * s.met + Zai code.length s.num <= 4 * code.length /\ LpW w R A C vr vw (Xo s) wr
def LNext (w : World) (R : Nat) (A : LA) (C : LC) (code : List (Int × Int)) (h : List Int) (k : Nat) (a : Act) (wr : World) : Prop := ∃ k', k' < k /\ LFr A code.length a /\ LpR w R A C code h k' wr
theorem LNext.intro {w : World} {R : Nat} {A : LA} {C : LC} {code : List (Int × Int)} {h : List Int} {k : Nat} {a : Act} {wr : World} (k' : Nat) (h1 : k' < k) (h2 : LFr A code.length a) (h3 : LpR w R A C code h k' wr) : LNext w R A C code h k a wr := ⟨k', h1, h2, h3⟩
structure Ykd (w : World) (B : Nat) (fs : List FnP) (pF : Option Addr) (f : Nat) (ar lo r : Int) (c : List (Int × Int)) (gh : Nat) (h : List Int) : Prop where
 hB : B <= w.heap.size
 hF : Zam w B pF fs
 hf : fs[f]? = some (ar, lo, r, c)
 nf : fs.length <= 64
 l1 : 1 <= c.length
 l2 : c.length <= 4096
 hh : ∀ i : Nat, i < c.length -> w.cell? ⟨gh, i, none⟩ = some (.int .i64 (h.getD i 0))
theorem Zxl {w wr : World} {B : Nat} {fs : List FnP} {pF : Option Addr} {cF f : Nat} {ar lo r : Int} {c : List (Int × Int)} {gh : Nat} {h : List Int} {mem : Int} {pd : Option Addr} {nd cd R : Nat} {A : LA} {vr vw : Value} {s : LS} {x : Nat} (E : Ykd w B fs pF f ar lo r c gh h)
 (hW : LpW w R A ⟨mem, .slice pd nd cd, .slice pF fs.length cF, f, .slice (some ⟨gh, 0, none⟩) c.length c.length, c.length⟩ vr vw s wr) (hx : x < c.length) :
 ∃ L : List Int, L.length <= 2 /\ L.length = (nxL c h x).length /\ (∀ j m : Nat, (nxL c h x)[j]? = some m -> L[j]? = some (m : Int)) /\
   Calls Try.prog 58 #[.int .i64 x, .pointer (some ⟨A.h, 0, none⟩), .pointer (some ⟨A.p, 0, none⟩), .pointer (some ⟨A.f, 0, none⟩)] wr (Zfw wr L) := by
 obtain ⟨⟨op, a⟩, hins⟩ : ∃ y, c[x]? = some y := ⟨_, List.getElem?_eq_getElem (by omega)⟩
 have hspot : Zon fs f x (ar, lo, r, c) op a := ⟨E.hf, hins, E.nf, E.l2⟩
 have hxl := Yxk (h := h) hins
 exact ⟨nxE (h.getD x 0) c.length op a x, Ygs _ _ _ _ _, hxl.1.symm, hxl.2, Yst mem (.slice pd nd cd) fs pF cF B f x (ar, lo, r, c) op a (h.getD x 0) wr 0 A.p A.f A.h gh c.length c.length ⟨_, _, _, rfl⟩ (Nat.le_trans E.hB hW.gr.size) (Yb E.hF hW.gr (by simp)) hspot hW.bp hW.bf hW.bh hx (by rw [Nat.zero_add]; exact hW.gr.cell (E.hh x hx) (by simp))⟩
theorem Yya {w wr : World} {B : Nat} {fs : List FnP} {pF : Option Addr} {cF f : Nat} {ar lo r : Int} {c : List (Int × Int)} {gh : Nat} {h : List Int} {mem : Int} {pd : Option Addr} {nd cd R k : Nat} {A : LA} {vr vw : Value} {s : TS} {f1 : Fr} {r1 : List Fr} (Kx : Act -> World -> Prop) (t : Nat -> Value) (E : Ykd w B fs pF f ar lo r c gh h)
 (hk : k = Jq c.length (nxL c h) s) (hI : Zmi c.length (nxL c h) s) (hm : 4 * s.met + Zai c.length s.num <= 4 * c.length) (hW : LpW w R A ⟨mem, .slice pd nd cd, .slice pF fs.length cF, f, .slice (some ⟨gh, 0, none⟩) c.length c.length, c.length⟩ vr vw (Xo s) wr) (hS : s.S = f1 :: r1) {m : Nat} (hM : (nxL c h f1.at_)[f1.done]? = some m) (h0 : s.num.getD m 0 = 0) :
 Code.wp Try.prog Zgu (Exit.then (LNext w R A ⟨mem, .slice pd nd cd, .slice pF fs.length cF, f, .slice (some ⟨gh, 0, none⟩) c.length c.length, c.length⟩ c h k) (Exit.inBlock 0 (Exit.then Kx (bodyPost Try.prog Try.f39 (Xd w c h))))) (lpF A c.length t) wr := by
 obtain ⟨gw, cw, hv⟩ := Ziq hW hS
 subst hv
 have hfr : f1.at_ ∈ Xp s.S := by rw [hS]; simp [Xp]
 have hfm : f1.at_ < c.length := hI.lt _ hfr
 obtain ⟨L, hL2, hLl, hLe, NX'⟩ := Zxl E hW hfm
 have NX := Hq NX'
 have hrb := Zco hI
 have hrl : r1.length < 4096 := by
  have h1 := E.l2
  have h2 := hrb.2
  rw [hS] at h2
  simp only [List.length_cons] at h2 ⊢
  omega
 have kw := Zn hW.bw
 obtain ⟨-, hx0, hx1, hxz, sgw⟩ := Ycu hW hS
 have sgw7 : ∀ w7 : World, wr.grownBy w7 none -> gw < w7.heap.size := fun w7 g => Nat.lt_of_lt_of_le sgw g.size
 have HW := Hq hW
 have HI := Hq hI
 have HS := Hq hS
 have HK := Hq hk
 have HM := Hq hm
 have EE := Hq E
 have hwl : (Xo s).way.length = r1.length + 1 := (Xs hS).2.1
 have hLm := hLe _ _ hM
 have hlt : (f1.done : Int) < (L.length : Int) := by have := (List.getElem?_eq_some_iff.1 hLm).1; omega
 have hLv : (L.map (Value.int .i64))[f1.done]? = some (.int .i64 m) := by rw [List.getElem?_map, hLm]; rfl
 have HLV := Hq hLv
 have hL0 : 0 < L.length := by omega
 have hL1 : f1.done < L.length * 1 := by omega
 have HMM := Hq hM
 have HWL := Hq hwl
 clear hW hI hS hk hm E hLm hLv hLe hrb NX' hM hLl hwl hfr
 unfold lpF
 generalize t 0 = u, t 1 = u, t 2 = u, t 3 = u, t 4 = u, t 5 = u, t 6 = u, t 16 = u, t 17 = u, t 18 = u, t 19 = u, t 20 = u, t 21 = u, t 22 = u, t 23 = u, t 24 = u, t 25 = u, t 26 = u, t 27 = u, t 28 = u, t 29 = u, t 30 = u, t 31 = u, t 32 = u, t 33 = u, t 34 = u, t 35 = u, t 36 = u, t 37 = u, t 38 = u, t 39 = u, t 40 = u, t 41 = u, t 42 = u, t 43 = u, t 44 = u, t 45 = u, t 46 = u, t 47 = u, t 48 = u, t 49 = u, t 50 = u, t 51 = u, t 52 = u, t 53 = u, t 54 = u, t 55 = u, t 56 = u, t 57 = u, t 58 = u, t 59 = u, t 60 = u, t 61 = u, t 62 = u, t 63 = u, t 64 = u, t 65 = u, t 66 = u, t 67 = u, t 68 = u, t 69 = u, t 70 = u, t 71 = u, t 72 = u, t 73 = u, t 74 = u, t 75 = u, t 76 = u, t 77 = u, t 78 = u, t 79 = u, t 80 = u, t 81 = u, t 82 = u, t 83 = u, t 84 = u, t 85 = u, t 86 = u, t 87 = u, t 88 = u, t 89 = u, t 90 = u, t 91 = u, t 92 = u, t 93 = u, t 94 = u, t 95 = u, t 96 = u, t 97 = u, t 98 = u, t 99 = u, t 100 = u, t 101 = u, t 102 = u, t 103 = u, t 104 = u, t 105 = u, t 106 = u, t 107 = u, t 108 = u, t 109 = u, t 110 = u, t 111 = u, t 112 = u, t 113 = u, t 114 = u, t 115 = u, t 116 = u, t 117 = u, t 118 = u, t 119 = u, t 120 = u, t 121 = u, t 122 = u, t 123 = u, t 124 = u, t 125 = u, t 126 = u, t 127 = u, t 128 = u, t 129 = u, t 130 = u, t 131 = u, t 132 = u, t 133 = u, t 134 = u, t 135 = u, t 136 = u, t 137 = u, t 138 = u, t 139 = u, t 140 = u, t 141 = u, t 142 = u, t 143 = u, t 144 = u, t 145 = u, t 146 = u, t 147 = u, t 148 = u, t 149 = u, t 150 = u, t 151 = u, t 152 = u, t 153 = u, t 154 = u, t 155 = u, t 156 = u, t 157 = u, t 158 = u, t 159 = u, t 160 = u, t 161 = u, t 162 = u, t 163 = u, t 164 = u, t 165 = u, t 166 = u, t 167 = u, t 168 = u, t 169 = u, t 170 = u, t 171 = u, t 172 = u, t 173 = u, t 174 = u, t 175 = u, t 176 = u, t 177 = u, t 178 = u, t 179 = u, t 180 = u, t 181 = u, t 182 = u, t 183 = u, t 184 = u, t 185 = u, t 186 = u, t 187 = u, t 188 = u, t 189 = u, t 190 = u, t 191 = u, t 192 = u, t 193 = u, t 194 = u, t 195 = u, t 196 = u, t 197 = u, t 198 = u, t 199 = u, t 200 = u, t 201 = u, t 202 = u, t 203 = u, t 204 = u, t 205 = u, t 206 = u, t 207 = u, t 208 = u, t 209 = u, t 210 = u
 clear t
 conv => arg 2; whnf
 go_upto_region 18 with (first
  | (go_at_call 58; refine NX.out.mono ?_; rintro e w7 ⟨v7, rfl, hg7, ho7⟩; obtain ⟨p7, k7, hv7, hp7, hc7⟩ := Xa ho7 hL0; subst hv7; have H7 := Hq (Xg HW.out hg7); have y0 := hg7.cell hx0 (by simp); have y1 := hg7.cell hx1 (by simp); have z1 := Jk (Xg HW.out hg7).rw_ (r1.length * 2 + 1); have sgw8 := sgw7 w7 hg7; have e7 := hc7 f1.done (.int .i64 m) HLV.out hL1; clear hx0 hx1 hxz sgw kw hg7 ho7 hc7))
 have hd1 : (f1.done : Int) + 1 = ((f1.done + 1 : Nat) : Int) := by omega
 rw [hd1]
 obtain ⟨s1, hs1⟩ : ∃ s1, s1 = { s with S := ⟨f1.at_, f1.done + 1, f1.ex⟩ :: r1 } := ⟨_, rfl⟩
 have H8 := Zrr H7.out ((f1.done + 1 : Nat) : Int) (by rw [HWL.out]) (Xs HS.out).2.2
 rw [Zrq HS.out, <- hs1] at H8
 have hS1 : s1.S = ⟨f1.at_, f1.done + 1, f1.ex⟩ :: r1 := by rw [hs1]
 clear y0 y1 z1 hd1 H7 sgw8 e7
 generalize w7.setCell ⟨gw, r1.length * 2 + 1, none⟩ (.int .i64 ((f1.done + 1 : Nat) : Int)) = w8 at H8 ⊢
 have hmn : m < c.length := Zkx f1.at_ m (List.mem_of_getElem? HMM.out)
 obtain ⟨-, x0, x1, xz, xs⟩ := Ycu H8 hS1
 simp only [] at x0 x1
 have bn8 := Zn H8.bn
 have bo8 := Zn H8.bo
 have bb8 := Zn H8.bb
 obtain ⟨cn8, zn8⟩ := Zun H8 m hmn
 obtain ⟨co8, zo8⟩ := Ycv H8 m hmn
 have sn8 := World.block_lt_of_cell? _ _ cn8
 have so8 := World.block_lt_of_cell? _ _ co8
 have tn : (Xo s1).num = s.num := by rw [hs1]; rfl
 have to : (Xo s1).on = s.on := by rw [hs1]; rfl
 have tb : (Xo s1).back = s.back := by rw [hs1]; rfl
 rw [tn] at cn8
 rw [to] at co8
 have hmi : (m : Int) < (c.length : Int) := by omega
 have HH8 := Hq H8
 have HS1 := Hq hs1
 have hfr : f1.at_ ∈ Xp s.S := by rw [HS.out]; simp [Xp]
 have hfn := HI.out.num _ hfr
 have hne : ((m : Int) == (f1.at_ : Int)) = false := beq_eq_false_iff_ne.2 (fun e => by
  have : m = f1.at_ := by omega
  subst this; omega)
 rw [h0] at cn8
 have hI1 := Yrv (n := c.length) (next := nxL c h) (fun x _ y hy => Zkx x y hy) (Ysu c h) HI.out HS.out HMM.out h0
 obtain ⟨s2, hs2⟩ : ∃ s2, s2 = { s with num := s.num.set m (s.met + 1), back := s.back.set m (s.met + 1), on := s.on.set m true, S := ⟨m, 0, []⟩ :: ⟨f1.at_, f1.done + 1, f1.ex⟩ :: r1, met := s.met + 1 } := ⟨_, rfl⟩
 rw [<- hs2] at hI1
 have hm2 : 4 * s2.met + Zai c.length s2.num <= 4 * c.length := by
  rw [hs2]
  have h1 := Zjz (v := s.met + 1) HI.out.l1 hmn h0 (by omega)
  have h2 := HM.out
  simp only []
  omega
 have e9 : Ybb (Xo s1) m = Xo s2 := by rw [Yml, hs1, hs2]
 have hb1 := Zco HI.out
 have hc2 := EE.out.l2
 have hrw : (Xo s1).row.length <= 4096 := by
  rw [hs1]
  have e : (Xo { s with S := ⟨f1.at_, f1.done + 1, f1.ex⟩ :: r1 }).row = Xp s.S := by rw [HS.out]; rfl
  rw [e]; omega
 have hww : (Xo s1).way.length <= 4096 := by rw [(Xs hS1).2.1]; omega
 have hmet : (Xo s1).met <= 4096 := by
  rw [hs1]
  have := HM.out
  show s.met <= 4096
  omega
 have EN' := Zvf w w8 R A _ vr _ (Xo s1) m H8 hmn hmet hrw hww
 unfold Zwc at EN'
 rw [e9] at EN'
 have EN3 := Hq EN'
 have hjj : r1.length * 2 < (Xo s1).way.length * 2 := by rw [(Xs hS1).2.1]; omega
 have HX0 := Hq x0
 have HI1 := Hq hI1
 have HM2 := Hq hm2
 clear H8 hI1 h0 hrw hww hmet hs1 e9 EN' hm2 hb1 hs2
 go_wp2_with (go_at_call 60; refine EN3.out.mono ?_; rintro e w9 ⟨⟨v9, rfl⟩, vr9, vw9, H9, O9⟩; have u0 := O9 gw rfl (r1.length * 2) _ hjj HX0.out; have sgw9 := World.block_lt_of_cell? _ _ u0; have HH9 := Hq H9; clear x0 x1 xz xs bn8 bo8 bb8 cn8 zn8 co8 zo8 sn8 so8 H9 O9)
 have HR := Hq (show LpR w R A ⟨mem, .slice pd nd cd, .slice pF fs.length cF, f, .slice (some ⟨gh, 0, none⟩) c.length c.length, c.length⟩ c h (Jq c.length (nxL c h) s2) w9 from ⟨s2, vr9, vw9, rfl, HI1.out.1, HM2.out, HH9.out⟩)
 exact LNext.intro (Jq c.length (nxL c h) s2) (by rw [HK.out]; exact HI1.out.2) ⟨rfl, rfl, rfl, rfl, rfl, rfl, rfl, rfl, rfl, rfl, rfl⟩ HR.out
theorem Ymr {w wr : World} {B : Nat} {fs : List FnP} {pF : Option Addr} {cF f : Nat} {ar lo r : Int} {c : List (Int × Int)} {gh : Nat} {h : List Int} {mem : Int} {pd : Option Addr} {nd cd R k : Nat} {A : LA} {vr vw : Value} {s : TS} {f1 : Fr} {r1 : List Fr} (Kx : Act -> World -> Prop) (t : Nat -> Value) (E : Ykd w B fs pF f ar lo r c gh h)
 (hk : k = Jq c.length (nxL c h) s) (hI : Zmi c.length (nxL c h) s) (hm : 4 * s.met + Zai c.length s.num <= 4 * c.length) (hW : LpW w R A ⟨mem, .slice pd nd cd, .slice pF fs.length cF, f, .slice (some ⟨gh, 0, none⟩) c.length c.length, c.length⟩ vr vw (Xo s) wr) (hS : s.S = f1 :: r1) {m : Nat} (hM : (nxL c h f1.at_)[f1.done]? = some m) (h0 : s.num.getD m 0 ≠ 0) (hon : s.on.getD m false = false) :
 Code.wp Try.prog Zgu (Exit.then (LNext w R A ⟨mem, .slice pd nd cd, .slice pF fs.length cF, f, .slice (some ⟨gh, 0, none⟩) c.length c.length, c.length⟩ c h k) (Exit.inBlock 0 (Exit.then Kx (bodyPost Try.prog Try.f39 (Xd w c h))))) (lpF A c.length t) wr := by
 obtain ⟨gw, cw, hv⟩ := Ziq hW hS
 subst hv
 have hfr : f1.at_ ∈ Xp s.S := by rw [hS]; simp [Xp]
 have hfm : f1.at_ < c.length := hI.lt _ hfr
 obtain ⟨L, hL2, hLl, hLe, NX'⟩ := Zxl E hW hfm
 have NX := Hq NX'
 have hrb := Zco hI
 have hrl : r1.length < 4096 := by
  have h1 := E.l2
  have h2 := hrb.2
  rw [hS] at h2
  simp only [List.length_cons] at h2 ⊢
  omega
 have kw := Zn hW.bw
 obtain ⟨-, hx0, hx1, hxz, sgw⟩ := Ycu hW hS
 have sgw7 : ∀ w7 : World, wr.grownBy w7 none -> gw < w7.heap.size := fun w7 g => Nat.lt_of_lt_of_le sgw g.size
 have HW := Hq hW
 have HI := Hq hI
 have HS := Hq hS
 have HK := Hq hk
 have HM := Hq hm
 have EE := Hq E
 have hwl : (Xo s).way.length = r1.length + 1 := (Xs hS).2.1
 have hLm := hLe _ _ hM
 have hlt : (f1.done : Int) < (L.length : Int) := by have := (List.getElem?_eq_some_iff.1 hLm).1; omega
 have hLv : (L.map (Value.int .i64))[f1.done]? = some (.int .i64 m) := by rw [List.getElem?_map, hLm]; rfl
 have HLV := Hq hLv
 have hL0 : 0 < L.length := by omega
 have hL1 : f1.done < L.length * 1 := by omega
 have HMM := Hq hM
 have HWL := Hq hwl
 clear hW hI hS hk hm E hLm hLv hLe hrb NX' hM hLl hwl hfr
 unfold lpF
 generalize t 0 = u, t 1 = u, t 2 = u, t 3 = u, t 4 = u, t 5 = u, t 6 = u, t 16 = u, t 17 = u, t 18 = u, t 19 = u, t 20 = u, t 21 = u, t 22 = u, t 23 = u, t 24 = u, t 25 = u, t 26 = u, t 27 = u, t 28 = u, t 29 = u, t 30 = u, t 31 = u, t 32 = u, t 33 = u, t 34 = u, t 35 = u, t 36 = u, t 37 = u, t 38 = u, t 39 = u, t 40 = u, t 41 = u, t 42 = u, t 43 = u, t 44 = u, t 45 = u, t 46 = u, t 47 = u, t 48 = u, t 49 = u, t 50 = u, t 51 = u, t 52 = u, t 53 = u, t 54 = u, t 55 = u, t 56 = u, t 57 = u, t 58 = u, t 59 = u, t 60 = u, t 61 = u, t 62 = u, t 63 = u, t 64 = u, t 65 = u, t 66 = u, t 67 = u, t 68 = u, t 69 = u, t 70 = u, t 71 = u, t 72 = u, t 73 = u, t 74 = u, t 75 = u, t 76 = u, t 77 = u, t 78 = u, t 79 = u, t 80 = u, t 81 = u, t 82 = u, t 83 = u, t 84 = u, t 85 = u, t 86 = u, t 87 = u, t 88 = u, t 89 = u, t 90 = u, t 91 = u, t 92 = u, t 93 = u, t 94 = u, t 95 = u, t 96 = u, t 97 = u, t 98 = u, t 99 = u, t 100 = u, t 101 = u, t 102 = u, t 103 = u, t 104 = u, t 105 = u, t 106 = u, t 107 = u, t 108 = u, t 109 = u, t 110 = u, t 111 = u, t 112 = u, t 113 = u, t 114 = u, t 115 = u, t 116 = u, t 117 = u, t 118 = u, t 119 = u, t 120 = u, t 121 = u, t 122 = u, t 123 = u, t 124 = u, t 125 = u, t 126 = u, t 127 = u, t 128 = u, t 129 = u, t 130 = u, t 131 = u, t 132 = u, t 133 = u, t 134 = u, t 135 = u, t 136 = u, t 137 = u, t 138 = u, t 139 = u, t 140 = u, t 141 = u, t 142 = u, t 143 = u, t 144 = u, t 145 = u, t 146 = u, t 147 = u, t 148 = u, t 149 = u, t 150 = u, t 151 = u, t 152 = u, t 153 = u, t 154 = u, t 155 = u, t 156 = u, t 157 = u, t 158 = u, t 159 = u, t 160 = u, t 161 = u, t 162 = u, t 163 = u, t 164 = u, t 165 = u, t 166 = u, t 167 = u, t 168 = u, t 169 = u, t 170 = u, t 171 = u, t 172 = u, t 173 = u, t 174 = u, t 175 = u, t 176 = u, t 177 = u, t 178 = u, t 179 = u, t 180 = u, t 181 = u, t 182 = u, t 183 = u, t 184 = u, t 185 = u, t 186 = u, t 187 = u, t 188 = u, t 189 = u, t 190 = u, t 191 = u, t 192 = u, t 193 = u, t 194 = u, t 195 = u, t 196 = u, t 197 = u, t 198 = u, t 199 = u, t 200 = u, t 201 = u, t 202 = u, t 203 = u, t 204 = u, t 205 = u, t 206 = u, t 207 = u, t 208 = u, t 209 = u, t 210 = u
 clear t
 conv => arg 2; whnf
 go_upto_region 18 with (first
  | (go_at_call 58; refine NX.out.mono ?_; rintro e w7 ⟨v7, rfl, hg7, ho7⟩; obtain ⟨p7, k7, hv7, hp7, hc7⟩ := Xa ho7 hL0; subst hv7; have H7 := Hq (Xg HW.out hg7); have y0 := hg7.cell hx0 (by simp); have y1 := hg7.cell hx1 (by simp); have z1 := Jk (Xg HW.out hg7).rw_ (r1.length * 2 + 1); have sgw8 := sgw7 w7 hg7; have e7 := hc7 f1.done (.int .i64 m) HLV.out hL1; clear hx0 hx1 hxz sgw kw hg7 ho7 hc7))
 have hd1 : (f1.done : Int) + 1 = ((f1.done + 1 : Nat) : Int) := by omega
 rw [hd1]
 obtain ⟨s1, hs1⟩ : ∃ s1, s1 = { s with S := ⟨f1.at_, f1.done + 1, f1.ex⟩ :: r1 } := ⟨_, rfl⟩
 have H8 := Zrr H7.out ((f1.done + 1 : Nat) : Int) (by rw [HWL.out]) (Xs HS.out).2.2
 rw [Zrq HS.out, <- hs1] at H8
 have hS1 : s1.S = ⟨f1.at_, f1.done + 1, f1.ex⟩ :: r1 := by rw [hs1]
 clear y0 y1 z1 hd1 H7 sgw8 e7
 generalize w7.setCell ⟨gw, r1.length * 2 + 1, none⟩ (.int .i64 ((f1.done + 1 : Nat) : Int)) = w8 at H8 ⊢
 have hmn : m < c.length := Zkx f1.at_ m (List.mem_of_getElem? HMM.out)
 obtain ⟨-, x0, x1, xz, xs⟩ := Ycu H8 hS1
 simp only [] at x0 x1
 have bn8 := Zn H8.bn
 have bo8 := Zn H8.bo
 have bb8 := Zn H8.bb
 obtain ⟨cn8, zn8⟩ := Zun H8 m hmn
 obtain ⟨co8, zo8⟩ := Ycv H8 m hmn
 have sn8 := World.block_lt_of_cell? _ _ cn8
 have so8 := World.block_lt_of_cell? _ _ co8
 have tn : (Xo s1).num = s.num := by rw [hs1]; rfl
 have to : (Xo s1).on = s.on := by rw [hs1]; rfl
 have tb : (Xo s1).back = s.back := by rw [hs1]; rfl
 rw [tn] at cn8
 rw [to] at co8
 have hmi : (m : Int) < (c.length : Int) := by omega
 have HH8 := Hq H8
 have HS1 := Hq hs1
 have hfr : f1.at_ ∈ Xp s.S := by rw [HS.out]; simp [Xp]
 have hfn := HI.out.num _ hfr
 have hb1 : ((s.num.getD m 0 : Nat) : Int) ≠ 0 := by omega
 have hb2 : (((s.num.getD m 0 : Nat) : Int) == 0) = false := beq_eq_false_iff_ne.2 hb1
 rw [hon] at co8
 have hne : ((m : Int) == (f1.at_ : Int)) = false := beq_eq_false_iff_ne.2 (fun e => by
  have : m = f1.at_ := by omega
  subst this
  rw [(HI.out.onr _ hfm).2 hfr] at hon; cases hon)
 have hI1 := Yrw HI.out (fun x _ y hy => Zkx x y hy) HS.out HMM.out h0 hon
 rw [<- hs1] at hI1
 have HI1 := Hq hI1
 have hm2 : 4 * s1.met + Zai c.length s1.num <= 4 * c.length := by rw [hs1]; exact HM.out
 have HM2 := Hq hm2
 clear H8 hI1 h0 hon hs1 hb1 hm2
 generalize hz : ((s.num.getD m 0 : Nat) : Int) = zz at cn8 hb2
 clear hz
 go_wp2
 have HR := Hq (show LpR w R A ⟨mem, .slice pd nd cd, .slice pF fs.length cF, f, .slice (some ⟨gh, 0, none⟩) c.length c.length, c.length⟩ c h (Jq c.length (nxL c h) s1) w8 from ⟨s1, _, _, rfl, HI1.out.1, HM2.out, HH8.out⟩)
 exact LNext.intro (Jq c.length (nxL c h) s1) (by rw [HK.out]; exact HI1.out.2) ⟨rfl, rfl, rfl, rfl, rfl, rfl, rfl, rfl, rfl, rfl, rfl⟩ HR.out
end Go.Proofs.Ytecaolkbllbokaa.CK
