import Derived.Test.YtecaolkbllbokaaMT35
import Derived.Test.YtecaolkbllbokaaMT32
import Derived.Test.YtecaolkbllbokaaMT33
import Derived.Test.YtecaolkbllbokaaMT34
import Derived.Test.YtecaolkbllbokaaMT36
set_option linter.unusedSimpArgs false
set_option linter.unusedVariables false
set_option maxRecDepth 100000
set_option maxHeartbeats 16000000
namespace Go.Proofs.Ytecaolkbllbokaa.CK
open Go.RowKit Go.Great
theorem Ymq {w wr : World} {B : Nat} {fs : List FnP} {pF : Option Addr} {cF f : Nat} {ar lo r : Int} {c : List (Int × Int)} {gh : Nat} {h : List Int} {mem : Int} {pd : Option Addr} {nd cd R k : Nat} {A : LA} {vr vw : Value} {s : TS} {f1 : Fr} (Kx : Act -> World -> Prop) (t : Nat -> Value) (E : Ykd w B fs pF f ar lo r c gh h)
 (hk : k = Jq c.length (nxL c h) s) (hI : Zmi c.length (nxL c h) s) (hm : 4 * s.met + Zai c.length s.num <= 4 * c.length) (hW : LpW w R A ⟨mem, .slice pd nd cd, .slice pF fs.length cF, f, .slice (some ⟨gh, 0, none⟩) c.length c.length, c.length⟩ vr vw (Xo s) wr) (hS : s.S = f1 :: []) (hd : f1.done = (nxL c h f1.at_).length) :
 Code.wp Try.prog Zgu (Exit.then (LNext w R A ⟨mem, .slice pd nd cd, .slice pF fs.length cF, f, .slice (some ⟨gh, 0, none⟩) c.length c.length, c.length⟩ c h k) (Exit.inBlock 0 (Exit.then Kx (bodyPost Try.prog Try.f39 (Xd w c h))))) (lpF A c.length t) wr := by
 obtain ⟨gw, cw, hv⟩ := Ziq hW hS
 subst hv
 have hfr : f1.at_ ∈ Xp s.S := by rw [hS]; simp [Xp]
 have hfm : f1.at_ < c.length := hI.lt _ hfr
 obtain ⟨L, hL2, hLl, hLe, NX'⟩ := Zxl E hW hfm
 have NX := Hq NX'
 have hrb := Zco hI
 have hrl : ([] : List Fr).length < 4096 := by
  have h1 := E.l2
  have h2 := hrb.2
  rw [hS] at h2
  simp only [List.length_cons] at h2 ⊢
  omega
 have kw := Zn hW.bw
 obtain ⟨-, hx0, hx1, hxz, sgw⟩ := Ycu hW hS
 have sgw7 : ∀ w7 : World, wr.grownBy w7 none -> gw < w7.heap.size := fun w7 g => Nat.lt_of_lt_of_le sgw g.size
 have HW := Hq hW
 have HI := Hq hI
 have HS := Hq hS
 have HK := Hq hk
 have HM := Hq hm
 have EE := Hq E
 have hwl : (Xo s).way.length = ([] : List Fr).length + 1 := (Xs hS).2.1
 have hlt : ¬ (f1.done : Int) < (L.length : Int) := by omega
 have hlt2 : decide ((f1.done : Int) < (L.length : Int)) = false := decide_eq_false hlt
 have hcap := Zki (n := ([] : List Fr).length + 1) (by have h := hW.rw_; rw [hwl] at h; exact h)
 have HWL := Hq hwl
 have hb := Ykz hI hS
 have hrow := Zzl hS
 have hnd := hI.nd
 rw [hS] at hnd
 obtain ⟨nd1, nd2, nd3, nd4⟩ := Zhs hnd
 have hrl2 : (Xo s).row.length <= 4096 := by
  have h1 := E.l2
  have h2 := hrb.1
  show (Xp s.S).length <= 4096
  omega
 have hlt3 : ∀ x ∈ f1.at_ :: f1.ex, x < c.length := fun x hx => hI.lt x (by rw [hS, Zcp]; exact List.mem_append.2 (Or.inr hx))
 obtain ⟨rho, x, many, hrx, hmx⟩ : ∃ (rho : List Nat) (x : Nat) (many : Bool), (Xo s).row = rho ++ [x] /\ ((x : Int) != (f1.at_ : Int)) = many /\ many = !f1.ex.isEmpty := by
  rcases List.eq_nil_or_concat f1.ex with h0 | ⟨e, x, h0⟩
  · refine ⟨Xp ([] : List Fr), f1.at_, false, by rw [hrow, h0], by simp, by rw [h0]; rfl⟩
  · rw [List.concat_eq_append] at h0
    refine ⟨Xp ([] : List Fr) ++ f1.at_ :: e, x, true, by rw [hrow, h0]; simp, ?_, by rw [h0]; simp⟩
    have : x ≠ f1.at_ := fun h => nd2 (by rw [h0, h]; simp)
    simp only [bne_iff_ne, ne_eq]
    omega
 have HROW := Hq hrow
 have HND := Hq (List.nodup_cons.2 ⟨nd2, nd4⟩ : (f1.at_ :: f1.ex).Nodup)
 have HLT3 := Hq hlt3
 have HRL2 := Hq hrl2
 have HMX := Hq hmx.2
 have hmx := hmx.1
 have hrho : rho.length < 4096 := by rw [hrx] at hrl2; simp at hrl2; omega
 have HRX := Hq hrx
 have HB := Hq hb
 have HD := Hq hd
 clear hW hI hS hk hm E hLe hrb NX' hLl hwl hfr hb hd hlt2 hrow nd1 nd2 nd3 nd4 hnd hlt3 hrl2 hrx
 simp only [List.length_cons, List.length_nil] at kw hx0 hx1 hcap HWL
 unfold lpF
 generalize t 0 = u, t 1 = u, t 2 = u, t 3 = u, t 4 = u, t 5 = u, t 6 = u, t 16 = u, t 17 = u, t 18 = u, t 19 = u, t 20 = u, t 21 = u, t 22 = u, t 23 = u, t 24 = u, t 25 = u, t 26 = u, t 27 = u, t 28 = u, t 29 = u, t 30 = u, t 31 = u, t 32 = u, t 33 = u, t 34 = u, t 35 = u, t 36 = u, t 37 = u, t 38 = u, t 39 = u, t 40 = u, t 41 = u, t 42 = u, t 43 = u, t 44 = u, t 45 = u, t 46 = u, t 47 = u, t 48 = u, t 49 = u, t 50 = u, t 51 = u, t 52 = u, t 53 = u, t 54 = u, t 55 = u, t 56 = u, t 57 = u, t 58 = u, t 59 = u, t 60 = u, t 61 = u, t 62 = u, t 63 = u, t 64 = u, t 65 = u, t 66 = u, t 67 = u, t 68 = u, t 69 = u, t 70 = u, t 71 = u, t 72 = u, t 73 = u, t 74 = u, t 75 = u, t 76 = u, t 77 = u, t 78 = u, t 79 = u, t 80 = u, t 81 = u, t 82 = u, t 83 = u, t 84 = u, t 85 = u, t 86 = u, t 87 = u, t 88 = u, t 89 = u, t 90 = u, t 91 = u, t 92 = u, t 93 = u, t 94 = u, t 95 = u, t 96 = u, t 97 = u, t 98 = u, t 99 = u, t 100 = u, t 101 = u, t 102 = u, t 103 = u, t 104 = u, t 105 = u, t 106 = u, t 107 = u, t 108 = u, t 109 = u, t 110 = u, t 111 = u, t 112 = u, t 113 = u, t 114 = u, t 115 = u, t 116 = u, t 117 = u, t 118 = u, t 119 = u, t 120 = u, t 121 = u, t 122 = u, t 123 = u, t 124 = u, t 125 = u, t 126 = u, t 127 = u, t 128 = u, t 129 = u, t 130 = u, t 131 = u, t 132 = u, t 133 = u, t 134 = u, t 135 = u, t 136 = u, t 137 = u, t 138 = u, t 139 = u, t 140 = u, t 141 = u, t 142 = u, t 143 = u, t 144 = u, t 145 = u, t 146 = u, t 147 = u, t 148 = u, t 149 = u, t 150 = u, t 151 = u, t 152 = u, t 153 = u, t 154 = u, t 155 = u, t 156 = u, t 157 = u, t 158 = u, t 159 = u, t 160 = u, t 161 = u, t 162 = u, t 163 = u, t 164 = u, t 165 = u, t 166 = u, t 167 = u, t 168 = u, t 169 = u, t 170 = u, t 171 = u, t 172 = u, t 173 = u, t 174 = u, t 175 = u, t 176 = u, t 177 = u, t 178 = u, t 179 = u, t 180 = u, t 181 = u, t 182 = u, t 183 = u, t 184 = u, t 185 = u, t 186 = u, t 187 = u, t 188 = u, t 189 = u, t 190 = u, t 191 = u, t 192 = u, t 193 = u, t 194 = u, t 195 = u, t 196 = u, t 197 = u, t 198 = u, t 199 = u, t 200 = u, t 201 = u, t 202 = u, t 203 = u, t 204 = u, t 205 = u, t 206 = u, t 207 = u, t 208 = u, t 209 = u, t 210 = u
 clear t
 conv => arg 2; whnf
 go_upto_region 26 with (first
  | (go_at_call 58; refine NX.out.mono ?_; rintro e w7 ⟨v7, rfl, hg7, ho7⟩; obtain ⟨p7, k7, hv7⟩ := Zm ho7; subst hv7; have H7 := Hq (Xg HW.out hg7); have y0 := hg7.cell hx0 (by simp); have y1 := hg7.cell hx1 (by simp); have kw7 := Zn H7.out.bw; have zw7 := Zdv H7.out.bw; have swx := World.block_lt_of_cell? _ _ kw7; have sgw8 := sgw7 w7 hg7; clear hx0 hx1 hxz sgw kw hg7 ho7))
 have hwg : gw ≠ A.w := by have h1 := Yn H7.out (k := gw) rfl; have h2 := H7.out.hi A.w (by simp [LA.all]); omega
 have H9 := Zxk H7.out (g := gw) (c := cw) (k := 0) (by rw [HWL.out]; rfl) (by rw [HWL.out]; omega)
 clear y0 y1  kw7 zw7 sgw8 H7 swx
 generalize w7.setCell ⟨A.w, 0, none⟩ (.slice (some ⟨gw, 0, none⟩) 0 cw) = w9 at H9  ⊢
 have kw9 := Zn H9.bw
 have hfi : (f1.at_ : Int) < (c.length : Int) := by omega
 have H10 := H9
 clear H9
 obtain ⟨w10, hw10⟩ : ∃ w10, w10 = w9 := ⟨_, rfl⟩
 rw [<- hw10] at H10 kw9 ⊢
 clear hw10
 have cb11 : w10.cell? ⟨A.gb, f1.at_, none⟩ = some (.int .i64 ((s.back.getD f1.at_ 0 : Nat) : Int)) := (Zll H10 f1.at_ hfm).1
 have bb10 := Zn H10.bb
 have bn10 := Zn H10.bn
 have cn11 : w10.cell? ⟨A.gn, f1.at_, none⟩ = some (.int .i64 ((s.num.getD f1.at_ 0 : Nat) : Int)) := (Zun H10 f1.at_ hfm).1
 have sb10 := World.block_lt_of_cell? _ _ cb11
 have sn10 := World.block_lt_of_cell? _ _ cn11
 rw [HB.out] at cb11
 have HH10 := Hq H10
 clear H10
 generalize ((s.num.getD f1.at_ 0 : Nat) : Int) = yy at cn11 cb11
 go_wp2
 go_region
 clear cb11 cn11 bb10 bn10 sb10 sn10
 have H11 := Xg HH10.out (Zf (Ze _ none))
 clear HH10
 generalize w10.drew = w11 at H11 ⊢
 have hrr := H11.rr
 have hrlen : (Xo s).row.length = rho.length + 1 := by rw [HRX.out]; simp
 obtain ⟨gr, cr, hv⟩ := Yk (by simp only [] at hrr; rw [hrlen] at hrr; exact hrr)
 subst hv
 have hrx : w11.cell? ⟨gr, rho.length, none⟩ = some (.int .i64 x) := by
  have h1 := hrr
  simp only [] at h1
  rw [hrlen] at h1
  rw [h1.cellAt _ (by omega), HRX.out]
  simp [Zfc]
 have br := Zn H11.br
 have sgr := World.block_lt_of_cell? _ _ hrx
 have HH11 := Hq H11
 clear H11 hrr hrlen
 go_wp2
 refine Zpq (rho := Xp ([] : List Fr)) (ex := f1.ex) (at_ := f1.at_) (many := !f1.ex.isEmpty) ⟨⟨rfl, rfl, rfl, rfl, rfl, rfl, rfl, rfl, rfl, rfl, rfl⟩, rfl, rfl⟩ HH11.out HROW.out HND.out HLT3.out EE.out.l2 HRL2.out ?_
 intro a' w' vr' S' hfr hW' hP
 show LNext w R A ⟨mem, .slice pd nd cd, .slice pF fs.length cF, f, .slice (some ⟨gh, 0, none⟩) c.length c.length, c.length⟩ c h k a' w'
 obtain ⟨num', back', on', inn', row', way', met'⟩ := S'
 obtain ⟨⟨p1, p2, p3, p4⟩, p5, p6, p7', p8, p9⟩ := hP
 simp only [] at p1 p2 p3 p4 p5 p6 p7' p8 p9
 subst p1 p2 p3 p4 p5
 have hI1 := Yqb HI.out HS.out HD.out HB.out p6 p7' (fun x hx => by rw [p8 x hx]; simp only [List.mem_cons]; rfl) (fun x hx => by rw [p9 x hx]; simp only [List.mem_cons]; rfl)
 obtain ⟨s2, hs2⟩ : ∃ s2, s2 = { s with back := Zgh s.back (s.back.getD f1.at_ 0) ([] : List Fr), on := on', inn := inn', S := ([] : List Fr), fin := f1.at_ :: s.fin } := ⟨_, rfl⟩
 rw [<- hs2] at hI1
 have e9 := Ygy HS.out (Zgh s.back (s.back.getD f1.at_ 0) ([] : List Fr)) on' inn' (f1.at_ :: s.fin)
 rw [<- hs2] at e9
 have hm2 : 4 * s2.met + Zai c.length s2.num <= 4 * c.length := by rw [hs2]; exact HM.out
 exact LNext.intro (Jq c.length (nxL c h) s2) (by rw [HK.out]; exact hI1.2) hfr ⟨s2, _, _, rfl, hI1.1, hm2, by rw [<- e9]; exact hW'⟩
theorem Yxy {w wr : World} {fs : List FnP} {pF : Option Addr} {cF f : Nat} {c : List (Int × Int)} {gh : Nat} {h : List Int} {mem : Int} {pd : Option Addr} {nd cd R k : Nat} {A : LA} {vr vw : Value} {s : TS} (Kx : Act -> World -> Prop) (t : Nat -> Value)
 (hW : LpW w R A ⟨mem, .slice pd nd cd, .slice pF fs.length cF, f, .slice (some ⟨gh, 0, none⟩) c.length c.length, c.length⟩ vr vw (Xo s) wr) (hS : s.S = []) (hx : ∀ a', LFr A c.length a' -> Kx a' wr) :
 Code.wp Try.prog Zgu (Exit.then (LNext w R A ⟨mem, .slice pd nd cd, .slice pF fs.length cF, f, .slice (some ⟨gh, 0, none⟩) c.length c.length, c.length⟩ c h k) (Exit.inBlock 0 (Exit.then Kx (bodyPost Try.prog Try.f39 (Xd w c h))))) (lpF A c.length t) wr := by
 have hn := hW.rw_
 have hl0 : (Xo s).way.length = 0 := by simp [Xo, hS]
 rw [hl0] at hn
 obtain ⟨pw, cw, hv⟩ := Zm hn
 subst hv
 have kw := Zn hW.bw
 have HX := Hq hx
 clear hn hl0 hW hS hx
 unfold lpF
 generalize t 0 = u, t 1 = u, t 2 = u, t 3 = u, t 4 = u, t 5 = u, t 6 = u, t 16 = u, t 17 = u, t 18 = u, t 19 = u, t 20 = u, t 21 = u, t 22 = u, t 23 = u, t 24 = u, t 25 = u, t 26 = u, t 27 = u, t 28 = u, t 29 = u, t 30 = u, t 31 = u, t 32 = u, t 33 = u, t 34 = u, t 35 = u, t 36 = u, t 37 = u, t 38 = u, t 39 = u, t 40 = u, t 41 = u, t 42 = u, t 43 = u, t 44 = u, t 45 = u, t 46 = u, t 47 = u, t 48 = u, t 49 = u, t 50 = u, t 51 = u, t 52 = u, t 53 = u, t 54 = u, t 55 = u, t 56 = u, t 57 = u, t 58 = u, t 59 = u, t 60 = u, t 61 = u, t 62 = u, t 63 = u, t 64 = u, t 65 = u, t 66 = u, t 67 = u, t 68 = u, t 69 = u, t 70 = u, t 71 = u, t 72 = u, t 73 = u, t 74 = u, t 75 = u, t 76 = u, t 77 = u, t 78 = u, t 79 = u, t 80 = u, t 81 = u, t 82 = u, t 83 = u, t 84 = u, t 85 = u, t 86 = u, t 87 = u, t 88 = u, t 89 = u, t 90 = u, t 91 = u, t 92 = u, t 93 = u, t 94 = u, t 95 = u, t 96 = u, t 97 = u, t 98 = u, t 99 = u, t 100 = u, t 101 = u, t 102 = u, t 103 = u, t 104 = u, t 105 = u, t 106 = u, t 107 = u, t 108 = u, t 109 = u, t 110 = u, t 111 = u, t 112 = u, t 113 = u, t 114 = u, t 115 = u, t 116 = u, t 117 = u, t 118 = u, t 119 = u, t 120 = u, t 121 = u, t 122 = u, t 123 = u, t 124 = u, t 125 = u, t 126 = u, t 127 = u, t 128 = u, t 129 = u, t 130 = u, t 131 = u, t 132 = u, t 133 = u, t 134 = u, t 135 = u, t 136 = u, t 137 = u, t 138 = u, t 139 = u, t 140 = u, t 141 = u, t 142 = u, t 143 = u, t 144 = u, t 145 = u, t 146 = u, t 147 = u, t 148 = u, t 149 = u, t 150 = u, t 151 = u, t 152 = u, t 153 = u, t 154 = u, t 155 = u, t 156 = u, t 157 = u, t 158 = u, t 159 = u, t 160 = u, t 161 = u, t 162 = u, t 163 = u, t 164 = u, t 165 = u, t 166 = u, t 167 = u, t 168 = u, t 169 = u, t 170 = u, t 171 = u, t 172 = u, t 173 = u, t 174 = u, t 175 = u, t 176 = u, t 177 = u, t 178 = u, t 179 = u, t 180 = u, t 181 = u, t 182 = u, t 183 = u, t 184 = u, t 185 = u, t 186 = u, t 187 = u, t 188 = u, t 189 = u, t 190 = u, t 191 = u, t 192 = u, t 193 = u, t 194 = u, t 195 = u, t 196 = u, t 197 = u, t 198 = u, t 199 = u, t 200 = u, t 201 = u, t 202 = u, t 203 = u, t 204 = u, t 205 = u, t 206 = u, t 207 = u, t 208 = u, t 209 = u, t 210 = u
 clear t
 conv => arg 2; whnf
 go_wp2
 exact HX.out _ ⟨rfl, rfl, rfl, rfl, rfl, rfl, rfl, rfl, rfl, rfl, rfl⟩
theorem Ymo {w wr : World} {B : Nat} {fs : List FnP} {pF : Option Addr} {cF f : Nat} {ar lo r : Int} {c : List (Int × Int)} {gh : Nat} {h : List Int} {mem : Int} {pd : Option Addr} {nd cd R k : Nat} {A : LA} (Kx : Act -> World -> Prop) (E : Ykd w B fs pF f ar lo r c gh h) {a : Act}
 (ha : LFr A c.length a) (hR : LpR w R A ⟨mem, .slice pd nd cd, .slice pF fs.length cF, f, .slice (some ⟨gh, 0, none⟩) c.length c.length, c.length⟩ c h k wr) (hx : ∀ a' w' s vr vw, LFr A c.length a' -> Zmi c.length (nxL c h) s -> s.S = [] -> LpW w R A ⟨mem, .slice pd nd cd, .slice pF fs.length cF, f, .slice (some ⟨gh, 0, none⟩) c.length c.length, c.length⟩ vr vw (Xo s) w' -> Kx a' w') :
 Code.wp Try.prog Zgu (Exit.then (LNext w R A ⟨mem, .slice pd nd cd, .slice pF fs.length cF, f, .slice (some ⟨gh, 0, none⟩) c.length c.length, c.length⟩ c h k) (Exit.inBlock 0 (Exit.then Kx (bodyPost Try.prog Try.f39 (Xd w c h))))) a wr := by
 obtain ⟨s, vr, vw, hk, hI, hm, hW⟩ := hR
 rw [Yqk ha]
 rcases hS : s.S with _ | ⟨f1, r1⟩
 · exact Yxy (gh := gh) Kx _ hW hS fun a' ha' => hx a' wr s vr vw ha' hI hS hW
 · have hfd := hI.fr f1 (by rw [hS]; simp)
   by_cases hlt : f1.done < (nxL c h f1.at_).length
   · have hM : (nxL c h f1.at_)[f1.done]? = some ((nxL c h f1.at_)[f1.done]) := List.getElem?_eq_getElem hlt
     by_cases h0 : s.num.getD ((nxL c h f1.at_)[f1.done]) 0 = 0
     · exact Yya Kx _ E hk hI hm hW hS hM h0
     · cases hon : s.on.getD ((nxL c h f1.at_)[f1.done]) false with
       | false => exact Ymr Kx _ E hk hI hm hW hS hM h0 hon
       | true =>
         by_cases hmf : (nxL c h f1.at_)[f1.done] = f1.at_
         · exact Ygz Kx _ E hk hI hm hW hS hM h0 hon hmf
         · exact Yha Kx _ E hk hI hm hW hS hM h0 hon hmf
   · have hd : f1.done = (nxL c h f1.at_).length := by omega
     rcases r1 with _ | ⟨up, r2⟩
     · exact Ymq Kx _ E hk hI hm hW hS hd
     · by_cases hb : s.back.getD f1.at_ 0 = s.num.getD f1.at_ 0
       · exact Ymp Kx _ E hk hI hm hW hS hd hb
       · exact Yth Kx _ E hk hI hm hW hS hd hb
theorem Ytj {w wr : World} {B : Nat} {fs : List FnP} {pF : Option Addr} {cF f : Nat} {ar lo r : Int} {c : List (Int × Int)} {gh : Nat} {h : List Int} {mem : Int} {pd : Option Addr} {nd cd R k : Nat} {A : LA} (Kx : Act -> World -> Prop) (E : Ykd w B fs pF f ar lo r c gh h) {a : Act}
 (ha : LFr A c.length a) (hR : LpR w R A ⟨mem, .slice pd nd cd, .slice pF fs.length cF, f, .slice (some ⟨gh, 0, none⟩) c.length c.length, c.length⟩ c h k wr) (hx : ∀ a' w' s vr vw, LFr A c.length a' -> Zmi c.length (nxL c h) s -> s.S = [] -> LpW w R A ⟨mem, .slice pd nd cd, .slice pF fs.length cF, f, .slice (some ⟨gh, 0, none⟩) c.length c.length, c.length⟩ vr vw (Xo s) w' -> Kx a' w') :
 Code.wp Try.prog (Code.loop Zgu) (Exit.inBlock 0 (Exit.then Kx (bodyPost Try.prog Try.f39 (Xd w c h)))) a wr :=
 wp_loop_ghost (fun k a' w' => LFr A c.length a' /\ LpR w R A ⟨mem, .slice pd nd cd, .slice pF fs.length cF, f, .slice (some ⟨gh, 0, none⟩) c.length c.length, c.length⟩ c h k w') k ⟨ha, hR⟩ fun k a1 w1 hI1 => Ymo Kx E hI1.1 hI1.2 hx
end Go.Proofs.Ytecaolkbllbokaa.CK
