/-
  Part of a proof: contracts of functions and lemmas, each stated by its own theorem. Conditions: as each theorem states.
-/
import Derived.Test.YthlkflagancdfaaML03
import Derived.Test.YthlkflagancdfaaML02
import Derived.Outline
set_option linter.unusedSimpArgs false
set_option linter.unusedVariables false
set_option maxRecDepth 100000
set_option maxHeartbeats 16000000
namespace Go.Proofs.Ythlkflagancdfaa.CK
open Go.RowKit Go.Great
def nxE (hv:Int) (len:Nat) (op a pl:Int):List Int:=if hv<0 then [] else Zkl len op a pl
theorem Yqz (mem:Int) (vd:Value) (fs:List FnP) (pF:Option Addr) (cF B f at_:Nat) (fn:FnP) (op a hv:Int) (w:World) (ph bp bf bh gh nh ch:Nat) (hvd:∃ p n c,vd = .slice p n c) (hB:B<=w.heap.size) (hF:Yk w B pF fs) (hS:Znk fs f at_ fn op a)
 (p0:Ycv w bp mem vd (.slice pF fs.length cF)) (f0:Bx w bf 3 (.int .i64 f)) (h0:Bx w bh 32 (.slice (some ⟨gh,ph,none⟩) nh ch)) (hn:at_<nh) (hc:w.cell? ⟨gh,ph+at_,none⟩=some (.int .i64 hv)) :
 Calls Try.prog 40 #[.int .i64 at_,.pointer (some ⟨bh,0,none⟩),.pointer (some ⟨bp,0,none⟩),.pointer (some ⟨bf,0,none⟩)] w (Zfd w (nxE hv fn.2.2.2.length op a at_)):=by
 have NX:=Hq (Zyu mem vd fs pF cF B f at_ fn op a w hvd hB hF hS)
 obtain ⟨pd,nd,cd,rfl⟩:=hvd
 have x0:=Cq _ _ 0 _ _ _ p0
 have x1:=Cq _ _ 1 _ _ _ p0
 have x2:=Cq _ _ 2 _ _ _ p0
 have y0:=Zt f0
 have z0:=Zt h0
 have s1:=World.block_lt_of_cell? _ _ hc
 have s2:=(Gs p0)
 have s3:=(Gs f0)
 have s4:=(Gs h0)
 have q1:(at_:Int)<(nh:Int):=by omega
 unfold nxE
 clear hS hF p0 f0 h0
 generalize Zkl fn.2.2.2.length op a at_=L at *
 by_cases hv0:hv<0
 · rw [if_pos hv0]
   go_enter Try.func40,Try.ntmps40
   go_wp2
   go_ret
   exact ⟨_,rfl,Zc _ _,World.ownsRow_nil _ _ _ _⟩
 · rw [if_neg hv0]
   go_enter Try.func40,Try.ntmps40
   go_wp2_with (go_at_call 41;refine NX.out.mono ?_;rintro e w3 ⟨v,rfl,hg,ho⟩)
   go_ret
   exact ⟨_,rfl,hg,ho⟩
theorem Ypn (w:World) (b o:Nat) (u0 x y:Value) (t:TypeId):∀ j u,[x,y][j]? = some u->((w.setCell ⟨b,o,none⟩ u0).alloc (.cells #[x,y] t)).cell? ((⟨w.heap.size,0,none⟩:Addr).add j)=some u:=by
 have h:=Ydd (w.setCell ⟨b,o,none⟩ u0) x y t
 rw [World.size_setCell] at h
 exact h
section
variable {P:Program} {w:World}
theorem Zjc {ops:Array Oper} {rest:List Oper} {o:Oper} {a:Act} {Q:Exit->Act->World->Prop} (hgd:o.guard=none) (s x:Operand) (t:TypeId)
 (ho:o.op = .call { callee := .builtin .append,args := #[s,x],argTypes := #[t,t] })
 (base:Nat) (e:TypeId) (i:TypeInfo) (z:Value) (size bytes:Nat) (ht:P.underlying t=some (.slice e)) (hi:P.info? e=some i) (hz:i.zero=some z)
 (hsize:i.size=size) (hby:i.bytes=bytes) (hzs:z.cells.size=size) (hsz:0<size)
 (v:Value) (n:Nat) (xs:List Value) (hs:a.eval s=v) (hown:w.ownsRow base e size v n xs)
 (ad:Addr) (m c:Nat) (news:List Value) (hx:a.eval x = .slice (some ad) m c) (hl:news.length=m*size) (hnews:∀ j u,news[j]? = some u->w.cell? (ad.add j)=some u) (h1:∀ u∈news,u.oneCell'=true)
 (h63:n+m<=maxLen) (hbytes:(n+m)*bytes<=140737488355328) (hbase:base<=w.heap.size)
 (h:∀ v' w',w'.ownsRow base e size v' (n+m) (xs++news)->w.grownBy w' v.ownBlock->(∀ g,v.ownBlock=some g->∀ j u,j<n*size->w.cell? ⟨g,j,none⟩=some u->w'.cell? ⟨g,j,none⟩=some u)->wpList P ops Q rest (a.put o.dst v') w') :
 wpList P ops Q (o::rest) a w:=by
 refine wpList_plain hgd fun K hK => ?_
 obtain ⟨v',w',hr,h2,h3,h4,h5⟩:=run_append_own_at (P:=P) w base t o.type e i z size bytes ht hi hz hsize hby hzs hsz v n xs hown ad m c news hl hnews h1 h63 hbytes hbase
 unfold Oper.wp execOp
 simp only [ho,resolve,invoke,builtin,Sem.run_bind,Sem.run_pure,Result.andThen_ok,List.map_toArray,List.map_cons,List.map_nil,hs,hx,hr]
 refine hK _ _ (h v' w' h2 h3 ?_)
 intro g hg j u hj hc
 rcases hown.2 with ⟨e1,_⟩|⟨g',cap',cur,hv,_⟩
 · rw [e1] at hg;cases hg
 · subst hv
   have e2:g'=g:=by simpa [Value.ownBlock] using hg
   subst e2
   rcases Ycn (P:=P) ht hi hz hsize hby hown hl hnews h1 h63 hbytes hr with h6|h6
   · obtain ⟨k,hk⟩:∃ k,n+m=k+1:=⟨n+m - 1,by
      have:0<n:=by rcases Nat.eq_zero_or_pos n with e|e
                   · subst e;omega
                   · exact e
      omega⟩
     rw [hk] at h2
     obtain ⟨g2,c2,e3⟩:=Xv h2
     subst e3
     have e4:g2=g':=by simpa [Value.ownBlock] using h6
     subst e4
     have hl2:=hown.1
     have hjn:j<n*size:=hj
     have hle:n*size<=(k+1)*size:=Nat.mul_le_mul_right _ (by omega)
     rw [h2.cellAt j (by omega),List.getElem?_append_left (by omega),<- hown.cellAt j hj]
     exact hc
   · exact h6.cell hc (by simp)
end
def Zzs (s:LS) (m:Nat):LS:={ s with num:=s.num.set m (s.met+1),back:=s.back.set m (s.met+1),on:=s.on.set m true,row:=s.row++[m],way:=s.way++[((m:Int),0)],met:=s.met+1 }
def Zhg (w w':World) (vw:Value) (n:Nat):Prop:=∀ g,vw.ownBlock=some g->∀ j u,j<n*2->w.cell? ⟨g,j,none⟩=some u->w'.cell? ⟨g,j,none⟩=some u
theorem Zwl (w:World) (vw:Value) (n:Nat):Zhg w w vw n:=fun _ _ _ _ _ h=>h
theorem Zcw {w w1:World} {vw:Value} {n b o:Nat} {v:Value} (h:Zhg w w1 vw n) (hb:∀ g,vw.ownBlock=some g->g≠b):Zhg w (w1.setCell ⟨b,o,none⟩ v) vw n:=fun g hg j u hj hc =>
 (Zg w1 b o v).cell (h g hg j u hj hc) (by intro e;injection e with e;exact hb g hg e)
theorem Zkc {w w1 w2:World} {vw:Value} {n:Nat} (h:Zhg w w1 vw n) (g:w1.grownBy w2 none):Zhg w w2 vw n:=fun k hk j u hj hc=>g.cell (h k hk j u hj hc) (by simp)
theorem Ybh {w w1 w2:World} {vw:Value} {n:Nat} {r:Option Nat} (h:Zhg w w1 vw n) (g:w1.grownBy w2 r) (hr:∀ k,vw.ownBlock=some k->r≠some k):Zhg w w2 vw n:=fun k hk j u hj hc=>g.cell (h k hk j u hj hc) (fun e=>hr k hk e.symm)
theorem Ybi {w w1 w2:World} {vw:Value} {n:Nat} (h:Zhg w w1 vw n) (g:∀ k,vw.ownBlock=some k->∀ j u,j<n*2->w1.cell? ⟨k,j,none⟩=some u->w2.cell? ⟨k,j,none⟩=some u):Zhg w w2 vw n:=fun k hk j u hj hc=>g k hk j u hj (h k hk j u hj hc)
theorem Zou {w0 w:World} {R:Nat} {A:LA} {C:LC} {vr vw:Value} {s:LS} (H:LpW w0 R A C vr vw s w) {b:Nat} (hb:b∈A.all):∀ g,vw.ownBlock=some g->g≠b:=fun g hg e=>by
 have h1:=Yr H hg
 have h2:=H.hi b hb
 omega
theorem Yqm {w0 w w5:World} {R:Nat} {A:LA} {C:LC} {vr vw:Value} {s:LS} {o:Obj} (H:LpW w0 R A C vr vw s w) (hg:(w.alloc o).grownBy w5 vr.ownBlock):Bx w5 A.r 32 vr/\Bx w5 A.w 88 vw:=by
 have g1:=Za (Ga w o vr.ownBlock) hg
 refine ⟨Zb H.br g1 ?_,Zb H.bw g1 ?_⟩
 · intro e;have h1:=Jo H e;have h2:=H.hi A.r (by simp [LA.all]);omega
 · intro e;have h1:=Jo H e;have h2:=H.hi A.w (by simp [LA.all]);omega
theorem Ypk {w0 w w5:World} {R:Nat} {A:LA} {C:LC} {vr vw:Value} {s:LS} {o:Obj} (H:LpW w0 R A C vr vw s w) (hg:(w.alloc o).grownBy w5 vw.ownBlock):Bx w5 A.w 88 vw:=by
 have g1:=Za (Ga w o vw.ownBlock) hg
 refine Zb H.bw g1 ?_
 intro e;have h1:=Yr H e;have h2:=H.hi A.w (by simp [LA.all]);omega
theorem Yvb {w0 w:World} {R:Nat} {A:LA} {C:LC} {vr vw:Value} {s:LS} (H:LpW w0 R A C vr vw s w):∀ k,vw.ownBlock=some k->vr.ownBlock≠some k:=fun k hk=>Jg H.rw_ H.rr (by decide) hk
theorem Yen:Try.prog.underlying 88=some (.slice 90):=by kernel_rfl
theorem Ybc:(Try.prog.info? 90).map (fun i=>(i.zero,i.size,i.bytes))=some (some (.agg #[.int .i64 0,.int .i64 0]),2,16):=by kernel_rfl
def Zvq (w0:World) (R:Nat) (A:LA) (C:LC) (s:LS) (m:Nat) (w:World) (vw:Value) (e:Ending) (w':World):Prop :=
 (∃ v,e = .returned v)/\∃ vr' vw',LpW w0 R A C vr' vw' (Zzs s m) w'/\Zhg w w' vw s.way.length
theorem Zuo (w0 w:World) (R:Nat) (A:LA) (C:LC) (vr vw:Value) (s:LS) (m:Nat) (H:LpW w0 R A C vr vw s w) (hm:m<C.n) (hmet:s.met<=4096) (hr:s.row.length<=4096) (hw:s.way.length<=4096) :
 Calls Try.prog 42 #[.int .i64 m,.pointer (some ⟨A.m,0,none⟩),.pointer (some ⟨A.n,0,none⟩),.pointer (some ⟨A.b,0,none⟩),.pointer (some ⟨A.o,0,none⟩),.pointer (some ⟨A.r,0,none⟩),.pointer (some ⟨A.w,0,none⟩)] w (Zvq w0 R A C s m w vw):=by
 obtain ⟨mem,vd,vF,f,vh,n⟩:=C
 obtain ⟨num,back,on,inn,row,way,met⟩:=s
 simp only [] at hm hmet hr hw
 have H1:=Ywn H (met+1)
 have OLD:=Zcw (b:=A.m) (o:=0) (v := .int .i64 ((met+1:Nat):Int)) (Zwl w vw way.length) (Zou H (by simp [LA.all]))
 have q0:=Zt H.bm
 have q0z:=Zdi H.bm
 simp only [] at H1
 clear H
 have HH1:=Hq H1
 have HOLD:=Hq OLD
 clear H1 OLD
 go_enter Try.func42,Try.ntmps42
 go_wp2
 rename_i K hK
 have hmi:(met:Int)+1=((met+1:Nat):Int):=by omega
 rw [hmi] at *
 clear q0 q0z hmi
 generalize hM:met+1=M at *
 generalize w.setCell ⟨A.m,0,none⟩ (.int .i64 (M:Int))=w1 at *
 have H:=HH1.out
 have bm:=Zt H.bm
 have bn:=Zt H.bn
 have bb:=Zt H.bb
 have bo:=Zt H.bo
 obtain ⟨cn,zn⟩:=Ztw H m hm
 obtain ⟨cb,zb⟩:=Zkm H m hm
 obtain ⟨co,zo⟩:=Ybm H m hm
 have hmi:(m:Int)<(n:Int):=by omega
 simp only [] at bm bn bb bo
 have n1:A.n≠A.gn:=Zl H.nd 3 9 rfl rfl (by decide)
 have n2:A.n≠A.gb:=Zl H.nd 3 10 rfl rfl (by decide)
 have n3:A.n≠A.go:=Zl H.nd 3 11 rfl rfl (by decide)
 have n4:A.b≠A.gn:=Zl H.nd 4 9 rfl rfl (by decide)
 have n5:A.b≠A.gb:=Zl H.nd 4 10 rfl rfl (by decide)
 have n6:A.b≠A.go:=Zl H.nd 4 11 rfl rfl (by decide)
 have n7:A.o≠A.gn:=Zl H.nd 5 9 rfl rfl (by decide)
 have n8:A.o≠A.gb:=Zl H.nd 5 10 rfl rfl (by decide)
 have n9:A.o≠A.go:=Zl H.nd 5 11 rfl rfl (by decide)
 have n10:A.m≠A.gn:=Zl H.nd 8 9 rfl rfl (by decide)
 have n11:A.m≠A.gb:=Zl H.nd 8 10 rfl rfl (by decide)
 have n12:A.m≠A.go:=Zl H.nd 8 11 rfl rfl (by decide)
 have n13:A.gn≠A.gb:=Zl H.nd 9 10 rfl rfl (by decide)
 have n14:A.gn≠A.go:=Zl H.nd 9 11 rfl rfl (by decide)
 have n15:A.gb≠A.go:=Zl H.nd 10 11 rfl rfl (by decide)
 clear H
 go_region
 clear cn cb co zn zb zo bm bn bb bo
 simp only [Exit.then]
 refine hK _ _ ?_
 clear hK K
 have H2:=Xl (Ywk (Zmn (Ywl HH1.out m M) m M) m true) (Zd (Zc _ none))
 have OLD2:=Zkc (Zcw (b:=A.go) (o:=m) (v := .bool true) (Zcw (b:=A.gb) (o:=m) (v := .int .i64 (M:Int)) (Zcw (b:=A.gn) (o:=m) (v := .int .i64 (M:Int)) HOLD.out (Zou HH1.out (by simp [LA.all]))) (Zou HH1.out (by simp [LA.all]))) (Zou HH1.out (by simp [LA.all]))) (Zd (Zc _ none))
 simp only [] at H2
 have HH2:=Hq H2
 have HOLD2:=Hq OLD2
 clear H2 OLD2 HH1 HOLD n1 n2 n3 n4 n5 n6 n7 n8 n9 n10 n11 n12 n13 n14 n15
 generalize (((w1.setCell ⟨A.gn,m,none⟩ (.int .i64 (M:Int))).setCell ⟨A.gb,m,none⟩ (.int .i64 (M:Int))).setCell ⟨A.go,m,none⟩ (.bool true)).drew=w2 at *
 clear w1
 obtain ⟨ii,ii0,ii1,ii2,ii3⟩:=info_parts Zat
 obtain ⟨ip,ip0,ip1,ip2,ip3⟩:=info_parts Ybc
 have hc3:row.length+1<=maxLen:=by unfold maxLen;omega
 have hc4:(row.length+1)*8<=140737488355328:=by omega
 have hc5:way.length+1<=maxLen:=by unfold maxLen;omega
 have hc6:(way.length+1)*16<=140737488355328:=by omega
 have hE2:R<=(w2.alloc (.cells #[.int .i64 m] 3)).heap.size:=by have:=HH2.out.rs;simp;omega
 have br:=Zt HH2.out.br
 have sr:=(Gs HH2.out.br)
 have hwr:A.w≠A.r:=Zl HH2.out.nd 7 6 rfl rfl (by decide)
 go_wp2_with (first
  | (at_builtin;refine wpList_append_own_at _ rfl _ _ 32 rfl R 3 ii (.int .i64 0) 1 8 Zbw ii0 ii1 ii2 ii3 rfl (by decide) vr _ _ rfl (HH2.out.rr.alloc _) ⟨w2.heap.size,0,none⟩ 1 1 [.int .i64 m] rfl rfl (Zfz w2 _ _) (Zcb _ _) hc3 hc4 hE2 ?_;intro v3 w3 hown3 hgr3 hnil3 hat3;obtain ⟨g3,e3,hv3⟩:=Xv hown3;subst hv3;have M3:=Yqm HH2.out hgr3;have k3:=Zt M3.1;have z3:=Zdi M3.1;have k4:=Zt M3.2;have s3:=(Gs M3.1);have s4:=(Gs M3.2);have H3:=Hq (Ywj HH2.out hown3 hgr3);have O3:=Hq (Zcw (b:=A.r) (o:=0) (v := .slice (some ⟨g3,0,none⟩) (row.length+1) e3) (Ybh HOLD2.out (Za (Ga w2 _ _) hgr3) (Yvb HH2.out)) (Zou HH2.out (by simp [LA.all])));have hE3:R<=((w3.setCell ⟨A.r,0,none⟩ (.slice (some ⟨g3,0,none⟩) (row.length+1) e3)).alloc (.cells #[.int .i64 m,.int .i64 0] 90)).heap.size:=(by have:=H3.out.rs;simp at this;simp;omega);clear hown3 hgr3 hnil3 hat3 M3)
  | (at_builtin;refine Zjc rfl _ _ 88 rfl R 90 ip (.agg #[.int .i64 0,.int .i64 0]) 2 16 Yen ip0 ip1 ip2 ip3 rfl (by decide) vw _ _ rfl (H3.out.rw_.alloc _) ⟨w3.heap.size,0,none⟩ 1 1 [.int .i64 m,.int .i64 0] rfl rfl (Ypn w3 A.r 0 _ _ _ _) (Zpo _ _ _) hc5 hc6 hE3 ?_;intro v5 w5 hown5 hgr5 hold5;obtain ⟨g5,e5,hv5⟩:=Xv hown5;subst hv5;have M5:=Ypk H3.out hgr5;have k5:=Zt M5;have z5:=Zdi M5;have s5:=(Gs M5);have H5:=Hq (Ywi H3.out hown5 hgr5);have O5:=Hq (Zcw (b:=A.w) (o:=0) (v := .slice (some ⟨g5,0,none⟩) (way.length+1) e5) (Ybi (Zkc O3.out (Ga _ _ none)) hold5) (Zou HH2.out (by simp [LA.all])));clear hown5 hgr5 hold5 M5))
 refine bodyPost_end0 rfl rfl ?_
 have H9:=H5.out
 have O9:=O5.out
 subst hM
 exact ⟨⟨_,rfl⟩,.slice (some ⟨g3,0,none⟩) (row.length+1) e3,.slice (some ⟨g5,0,none⟩) (way.length+1) e5,H9,O9⟩
def nxL (code:List (Int × Int)) (h:List Int) (x:Nat):List Nat:=match code[x]? with|some p=>(nxE (h.getD x 0) code.length p.1 p.2 x).map Int.toNat|none=>[]
theorem Yhc (op a pl:Int):(Xm op a pl).length<=2:=by
 have:=Zgf op a pl
 omega
theorem Zts {len:Nat} {op a pl n:Int} (h:n∈Zkl len op a pl):0<=n/\n<len:=by
 unfold Zkl at h
 have:=(List.mem_filter.1 h).2
 simp at this
 omega
theorem Yfe {hv:Int} {len:Nat} {op a pl n:Int} (h:n∈nxE hv len op a pl):0<=n/\n<len:=by
 unfold nxE at h
 split at h
 · cases h
 · exact Zts h
theorem Yff (hv:Int) (len:Nat) (op a pl:Int):(nxE hv len op a pl).length<=2:=by
 unfold nxE
 split
 · simp
 · unfold Zkl;exact Nat.le_trans (List.length_filter_le _ _) (Yhc op a pl)
theorem Zkd {code:List (Int × Int)} {h:List Int} (x:Nat):∀ y∈nxL code h x,y<code.length:=by
 intro y hy
 unfold nxL at hy
 split at hy
 · obtain ⟨z,hz,rfl⟩:=List.mem_map.1 hy
   have:=Yfe hz
   omega
 · cases hy
theorem Yra (code:List (Int × Int)) (h:List Int) (x:Nat):(nxL code h x).length<=2:=by
 unfold nxL
 split
 · rw [List.length_map];exact Yff _ _ _ _ _
 · simp
theorem Ywd {code:List (Int × Int)} {h:List Int} {x:Nat} {op a:Int} (hx:code[x]? = some (op,a)):(nxL code h x).length=(nxE (h.getD x 0) code.length op a x).length/\∀ (j m:Nat),(nxL code h x)[j]? = some m->(nxE (h.getD x 0) code.length op a x)[j]? = some (m:Int):=by
 unfold nxL
 rw [hx]
 refine ⟨by rw [List.length_map],fun j m hj => ?_⟩
 simp only [List.getElem?_map] at hj
 cases hz:(nxE (h.getD x 0) code.length op a x)[j]? with
 | none=>rw [hz] at hj;cases hj
 | some z =>
   rw [hz] at hj
   simp at hj
   have:=Yfe (List.mem_of_getElem? hz)
   congr 1
   omega
def Xt (s:TS):LS:=⟨s.num,s.back,s.on,s.inn,Xu s.S,s.S.reverse.map fun f=>((f.at_:Int),(f.done:Int)),s.met⟩
theorem Zdq:∀ (n:Nat) (l:List Nat),l.Nodup->(∀ x∈l,x<n)->l.length<=n
 | 0,l,_,h=>by
   cases l with
   | nil=>simp
   | cons x r=>exact absurd (h x (by simp)) (by omega)
 | n+1,l,hn,h=>by
   have h1:=Zdq n (l.erase n) (hn.erase n) fun x hx=>by
    have h2:=hn.mem_erase_iff.1 hx
    have:=h x h2.2
    omega
   rw [List.length_erase] at h1
   split at h1 <;> omega
theorem Yob:∀ S:List Fr,S.length<=(Xu S).length
 | []=>by simp
 | f::r=>by have:=Yob r;simp [Xu];omega
theorem Zcf {n:Nat} {next:Nat->List Nat} {s:TS} (I:Zlg n next s):(Xu s.S).length<=n/\s.S.length<=n:=by
 have h1:=Zdq n _ I.nd I.lt
 have:=Yob s.S
 omega
def ts0 (n:Nat):TS:=⟨(List.replicate n 0).set 0 1,(List.replicate n 0).set 0 1,(List.replicate n false).set 0 true,List.replicate n false,[⟨0,0,[]⟩],1,[]⟩
theorem Zzo {α:Type} (n i:Nat) (x d:α) (h:i<n):(List.replicate n x).getD i d=x:=by simp [List.getD_eq_getElem?_getD,h]
theorem Zen {α:Type} (n i:Nat) (x y d:α) (h:i<n):((List.replicate n x).set 0 y).getD i d=if i=0 then y else x:=by
 rw [Zz _ _ _ _ _ (by simp;omega)]
 by_cases e:i=0
 · rw [if_pos e,if_pos e]
 · rw [if_neg e,if_neg e,Zzo _ _ _ _ h]
theorem Ydq {n:Nat} {next:Nat->List Nat} (h:1<=n):Zlg n next (ts0 n)/\4*(ts0 n).met+Zan n (ts0 n).num<=4*n:=by
 refine ⟨⟨by simp [ts0],by simp [ts0],by simp [ts0],by simp [ts0],?_,?_,?_,?_,?_,?_,?_,?_,?_⟩,?_⟩
 · intro f hf;simp [ts0] at hf;subst hf;simp
 · intro x hx;simp [ts0,Xu] at hx;omega
 · simp [ts0,Xu]
 · intro x hx
   simp only [ts0,Xu]
   rw [Zen _ _ _ _ _ hx]
   by_cases e:x=0
   · simp [e]
   · simp [e]
 · intro x hx
   simp [ts0,Xu] at hx
   subst hx
   simp only [ts0]
   rw [Zen _ _ _ _ _ (by omega)];simp
 · intro x hx
   simp [ts0,Xu] at hx
   subst hx
   simp only [ts0]
   rw [Zen _ _ _ _ _ (by omega)];simp
 · simp only [ts0,Zxc]
   rw [Zen _ _ _ _ _ (by omega)];simp
 · right
   refine ⟨?_,?_,?_,trivial⟩
   · intro f hf;simp [ts0] at hf;subst hf;simp [ts0]
   · intro x hx hne
     simp only [ts0] at hne
     rw [Zen _ _ _ _ _ hx] at hne
     left
     simp only [ts0,Xu]
     by_cases e:x=0
     · simp [e]
     · rw [if_neg e] at hne;exact absurd rfl hne
   · exact ⟨fun j hj=>absurd hj (Nat.not_lt_zero _),trivial⟩
 · simp only [ts0]
   rw [Zen _ _ _ _ _ (by omega)];simp
 · have h1:=Zjf (n:=n) (m:=0) (v:=1) (num:=List.replicate n 0) (by simp) (by omega) (Zzo _ _ _ _ (by omega)) (by decide)
   have h2:Zan n (List.replicate n 0)<=4*n:=by
    unfold Zan
    have:∀ l:List Nat,(l.map fun x=>if (List.replicate n 0).getD x 0=0 then 4 else 0).sum<=4*l.length:=by
     intro l
     induction l with
     | nil=>simp
     | cons x r ih =>
       simp only [List.map_cons,List.sum_cons,List.length_cons]
       split <;> omega
    have:=this (List.range n)
    rwa [List.length_range] at this
   simp only [ts0]
   omega
theorem Xz {s:TS} {f:Fr} {r:List Fr} (hS:s.S=f::r):(Xt s).way=(r.reverse.map fun f=>((f.at_:Int),(f.done:Int)))++[((f.at_:Int),(f.done:Int))]/\(Xt s).way.length=r.length+1/\(Xt s).way[r.length]? = some ((f.at_:Int),(f.done:Int)):=by
 have h1:(Xt s).way=(r.reverse.map fun f=>((f.at_:Int),(f.done:Int)))++[((f.at_:Int),(f.done:Int))]:=by
  simp [Xt,hS]
 refine ⟨h1,by rw [h1];simp,?_⟩
 rw [h1,List.getElem?_append_right (by simp)]
 simp
section
variable {s:TS} {f:Fr} {r:List Fr}
theorem Zqv (hS:s.S=f::r):{ Xt s with way:=(Xt s).way.set r.length ((f.at_:Int),((f.done+1:Nat):Int)) }=Xt { s with S:=⟨f.at_,f.done+1,f.ex⟩::r }:=by
 have h1:=(Xz hS).1
 unfold Xt at *
 simp only [hS] at *
 rw [h1,List.set_append_right _ _ (by simp)]
 simp [Xu]
theorem Ylr (s:TS) (m:Nat):Zzs (Xt s) m=Xt { s with num:=s.num.set m (s.met+1),back:=s.back.set m (s.met+1),on:=s.on.set m true,S:=⟨m,0,[]⟩::s.S,met:=s.met+1 }:=by
 unfold Zzs Xt
 simp [Xu]
theorem Yom (hS:s.S=f::r):(Xt s).way.take r.length=r.reverse.map fun f=>((f.at_:Int),(f.done:Int)):=by
 rw [(Xz hS).1,List.take_append_of_le_length (by simp),List.take_of_length_le (by simp)]
theorem Yrh {up:Fr} (hS:s.S=f::up::r) (back':List Nat):{ Xt s with back:=back',way:=(Xt s).way.take (r.length+1) }=Xt { s with back:=back',S:=⟨up.at_,up.done,up.ex++f.at_::f.ex⟩::r }:=by
 have h1:=Yom hS
 simp only [List.length_cons] at h1
 rw [h1]
 unfold Xt
 simp [Xu,hS]
theorem Yfr (hS:s.S=f::r) (back':List Nat) (on' inn':List Bool) (fin':List Nat):{ Xt s with back:=back',on:=on',inn:=inn',row:=Xu r,way:=(Xt s).way.take r.length }=Xt { s with back:=back',on:=on',inn:=inn',S:=r,fin:=fin' }:=by
 rw [Yom hS]
 unfold Xt
 simp
theorem Zyh (hS:s.S=f::r):(Xt s).row=Xu r++f.at_::f.ex:=by unfold Xt;simp [hS,Xu]
end
theorem Zum (q:Nat->Bool) (k:Nat):(List.range (k+1)).filter q=if q k=true then (List.range k).filter q++[k] else (List.range k).filter q:=by
 rw [List.range_succ,List.filter_append]
 by_cases h:q k=true
 · rw [if_pos h];simp [h]
 · rw [if_neg h];simp [h]
theorem Zxh {q:Nat->Bool} {n:Nat} (h:(List.range n).filter q=[]):∀ x,x<n->q x=false:=by
 intro x hx
 cases hq:q x with
 | false=>rfl
 | true =>
   have:x∈(List.range n).filter q:=List.mem_filter.2 ⟨List.mem_range.2 hx,hq⟩
   rw [h] at this;cases this
theorem Ybl {w0 wr:World} {R gw n cw:Nat} {A:LA} {C:LC} {vr:Value} {s:TS} {f:Fr} {r:List Fr} (H:LpW w0 R A C vr (.slice (some ⟨gw,0,none⟩) n cw) (Xt s) wr) (hS:s.S=f::r) :
 n=r.length+1/\wr.cell? ⟨gw,r.length*2,none⟩=some (.int .i64 f.at_)/\wr.cell? ⟨gw,r.length*2+1,none⟩=some (.int .i64 f.done)/\(∀ j,wr.frozen? ⟨gw,j,none⟩=false)/\gw<wr.heap.size:=by
 obtain ⟨hw1,hwl,hwk⟩:=Xz hS
 have hn:=H.rw_
 rw [hwl] at hn
 obtain ⟨g,c,hv⟩:=Xv hn
 injection hv with h1 h2 h3
 injection h1 with h1
 injection h1 with h1
 subst h1 h2 h3
 have hfl:=Zad _ _ _ _ hwk
 have hx0:wr.cell? ⟨gw,r.length*2,none⟩=some (.int .i64 f.at_):=by rw [hn.cellAt _ (by omega)];exact hfl.1
 refine ⟨rfl,hx0,by rw [hn.cellAt _ (by omega)];exact hfl.2,Yf hn,World.block_lt_of_cell? _ _ hx0⟩
theorem Zho {w0 wr:World} {R:Nat} {A:LA} {C:LC} {vr vw:Value} {s:TS} {f:Fr} {r:List Fr} (H:LpW w0 R A C vr vw (Xt s) wr) (hS:s.S=f::r):∃ gw cw,vw = .slice (some ⟨gw,0,none⟩) (r.length+1) cw:=by
 have hn:=H.rw_
 rw [(Xz hS).2.1] at hn
 exact Xv hn
theorem Zoa {s:TS} {f up:Fr} {r:List Fr} (hS:s.S=f::up::r):(Xt s).way[r.length]? = some ((up.at_:Int),(up.done:Int))/\(Xt s).way.length=r.length+2:=by
 have h1:(Xt s).way=(r.reverse.map fun f=>((f.at_:Int),(f.done:Int)))++[((up.at_:Int),(up.done:Int)),((f.at_:Int),(f.done:Int))]:=by
  simp [Xt,hS]
 refine ⟨?_,by rw [h1];simp⟩
 rw [h1,List.getElem?_append_right (by simp)]
 simp
def Ytl (code:List (Int × Int)) (h:List Int):Prop:=∃ (Zdd:Nat->Nat) (T:Nat->Prop),T 0/\∀ x,T x->x<code.length/\0<=h.getD x 0/\∀ (op a:Int),code[x]? = some (op,a)->∀ y∈Zkl code.length op a x,0<=y/\T y.toNat/\Zdd y.toNat<Zdd x
theorem Ykt {code:List (Int × Int)} {h:List Int} (hn:1<=code.length) (hz:h.getD 0 0=0) (hc:∀ x,x<code.length->0<=h.getD x 0->∀ y∈Jp code x,y<code.length/\0<=h.getD y 0) (hA:Yts (nxL code h)):Ytl code h:=by
 obtain ⟨Zdd,T,h0,hT⟩:=hA
 refine ⟨Zdd,fun x=>T x/\x<code.length/\0<=h.getD x 0,⟨h0,by omega,by omega⟩,fun x hx=>⟨hx.2.1,hx.2.2,fun op a hop y hy => ?_⟩⟩
 have hy1:=Zts hy
 have hm1:y.toNat∈nxL code h x:=by
  unfold nxL
  rw [hop]
  refine List.mem_map.2 ⟨y,?_,rfl⟩
  unfold nxE
  rw [if_neg (by omega)]
  exact hy
 have hm2:y.toNat∈Jp code x:=by
  unfold Jp
  rw [hop]
  refine List.mem_map.2 ⟨y,?_,rfl⟩
  unfold Zkl at hy
  exact (List.mem_filter.1 hy).1
 obtain ⟨t1,t2⟩:=hT x hx.1 _ hm1
 obtain ⟨t3,t4⟩:=hc x hx.2.1 hx.2.2 _ hm2
 exact ⟨hy1.1,⟨t1,t3,t4⟩,t2⟩
open Go.Maps
structure CA where
 w:Nat
 f:Nat
 k:Nat
 c:Nat
 z:Nat
 o:Nat
 g:Nat
structure CoB (base:Nat) (w:World) (A:CA) (bw bk f n:Nat) (vc:Value) (Z:List Int):Prop where
 lo:base<=A.w/\base<=A.f/\base<=A.k/\base<=A.c/\base<=A.z/\base<=A.o/\base<=A.g
 ne:A.w≠A.g/\A.f≠A.g/\A.k≠A.g/\A.c≠A.g/\A.z≠A.g/\A.o≠A.g
 bw_:Bx w A.w 67 (.pointer (some ⟨bw,0,none⟩))
 bf:Bx w A.f 3 (.int .i64 (f:Int))
 bk_:Bx w A.k 94 (.map (some bk))
 bc:Bx w A.c 50 vc
 bz:Bx w A.z 32 (.slice (some ⟨A.g,0,none⟩) n n)
 bo:Bx w A.o 128 (.func (.func 65) #[] #[.pointer (some ⟨A.z,0,none⟩),.pointer (some ⟨A.c,0,none⟩),.pointer (some ⟨A.w,0,none⟩),.pointer (some ⟨A.k,0,none⟩),.pointer (some ⟨A.f,0,none⟩),.pointer (some ⟨A.o,0,none⟩)])
 r:w.ownsRow base 3 1 (.slice (some ⟨A.g,0,none⟩) n n) n (Z.map (Value.int .i64))
 v:∀ x,0<=Z.getD x 0/\Z.getD x 0<=1099511627777
section
variable {base:Nat} {w w':World} {A:CA} {bw bk f n:Nat} {vc:Value} {Z:List Int}
theorem Yij (H:CoB base w A bw bk f n vc Z):Z.length=n:=by have:=H.r.1;simpa using this
theorem Zux (H:CoB base w A bw bk f n vc Z):base<=A.g/\A.g<w.heap.size:=H.r.lt A.g rfl
theorem Zru (H:CoB base w A bw bk f n vc Z) (k:Nat) (hk:k<n):w.cell? ⟨A.g,k,none⟩=some (.int .i64 (Z.getD k 0)):=by
 have hl:=Yij H
 rw [H.r.cellAt k (by omega),List.getElem?_map,List.getD_eq_getElem?_getD,List.getElem?_eq_getElem (by omega:k<Z.length)]
 rfl
theorem Zfn {b:Nat} {t:TypeId} {v:Value} {r:Option Nat} (h:Bx w b t v) (g:w.grownBy w' r) (hr:r≠some b):Bx w' b t v:=Zb h g hr
theorem Yii (H:CoB base w A bw bk f n vc Z) (hb:bk<base) (g:w.grownBy w' (some bk)):CoB base w' A bw bk f n vc Z:=by
 obtain ⟨l1,l2,l3,l4,l5,l6,l7⟩:=H.lo
 have nn:∀ b,base<=b->(some bk:Option Nat)≠some b:=fun b h e=>by injection e with e;omega
 exact ⟨H.lo,H.ne,Zfn H.bw_ g (nn _ l1),Zfn H.bf g (nn _ l2),Zfn H.bk_ g (nn _ l3),Zfn H.bc g (nn _ l4),Zfn H.bz g (nn _ l5),Zfn H.bo g (nn _ l6),H.r.kept g (Or.inr (by simp only [Value.ownBlock];intro e;injection e with e;omega)),H.v⟩
theorem Znf (H:CoB base w A bw bk f n vc Z) (g:w.grownBy w' none):CoB base w' A bw bk f n vc Z :=
 ⟨H.lo,H.ne,Zfn H.bw_ g (by simp),Zfn H.bf g (by simp),Zfn H.bk_ g (by simp),Zfn H.bc g (by simp),Zfn H.bz g (by simp),Zfn H.bo g (by simp),H.r.kept g (Classical.em _),H.v⟩
theorem Yih (H:CoB base w A bw bk f n vc Z) (k:Nat) (hk:k<n) (b:Int) (hb:0<=b/\b<=1099511627777):CoB base (w.setCell ⟨A.g,k,none⟩ (.int .i64 b)) A bw bk f n vc (Z.set k b):=by
 obtain ⟨n1,n2,n3,n4,n5,n6⟩:=H.ne
 have nn:∀ x,x≠A.g->(some A.g:Option Nat)≠some x:=fun x h e=>by injection e with e;exact h e.symm
 have g:=Zg w A.g k (.int .i64 b)
 refine ⟨H.lo,H.ne,Zfn H.bw_ g (nn _ n1),Zfn H.bf g (nn _ n2),Zfn H.bk_ g (nn _ n3),Zfn H.bc g (nn _ n4),Zfn H.bz g (nn _ n5),Zfn H.bo g (nn _ n6),?_,fun x => ?_⟩
 · rw [List.map_set];exact (H.r.stored k (.int .i64 b)).1
 · rw [Zr _ _ _ _ _ (by rw [Yij H];exact hk)]
   split
   · exact hb
   · exact H.v x
end
def KnC (nf:Nat) (kn:Nat->Option Int):Prop:=∀ f,f<nf->∀ v,kn f=some v->0<=v/\v<=1099511627777
def Ypg (w:World) (nf bk:Nat) (fin:List Nat) (kn:Nat->Option Int) (f:Nat) (e:Ending) (w':World):Prop :=
 ∃ v kn',e = .returned (.int .i64 v)/\w.grownBy w' (some bk)/\KnW w' bk nf kn'/\kn' f=some v/\KnC nf kn'/\KnM fin nf kn kn' (rk fin f+1)
def Yyf (base:Nat) (W:World) (A:CA) (bw bk f n nf:Nat) (vc:Value) (fin:List Nat) (kn:Nat->Option Int) (e:Ending) (W':World):Prop :=
 ∃ v kn' Z',e = .returned (.int .i64 v)/\(0<=v/\v<=1099511627777)/\Sp (fun k=>k=bk\/k=A.g) W W'/\KnW W' bk nf kn'/\KnC nf kn'/\KnM fin nf kn kn' (rk fin f)/\CoB base W' A bw bk f n vc Z'
theorem Zrd (fin:List Nat) (nf:Nat) (kn:Nat->Option Int) (r:Nat):KnM fin nf kn kn r:=⟨fun _ _ h=>h,fun _ _ h=>Or.inl h⟩
theorem Zms {fin:List Nat} {nf r r1 r2:Nat} {k0 k1 k2:Nat->Option Int} (h:KnM fin nf k0 k1 r1) (g:KnM fin nf k1 k2 r2) (h1:r1<=r) (h2:r2<=r):KnM fin nf k0 k2 r :=
 ⟨fun x v e=>g.1 x v (h.1 x v e),fun x hx e=>by
  rcases g.2 x hx e with h3|h3
  · rcases h.2 x hx h3 with h4|h4
    · exact Or.inl h4
    · exact Or.inr (by omega)
  · exact Or.inr (by omega)⟩
theorem Ycx {P:Nat->Prop} {w0 w w':World} {bx gH gT nf cH cT bk:Nat} {x2 x3 x4 x5:Value} {kn kn':Nat->Option Int} (H:XW w0 w bx gH gT nf cH cT bk x2 x3 x4 x5 kn) (hx:bx<w0.heap.size) (g:Sp P w w') (hP:∀ k,P k->w0.heap.size<=k) (k:KnW w' bk nf kn'):XW w0 w' bx gH gT nf cH cT bk x2 x3 x4 x5 kn':=by
 have hs:=H.g.size
 exact ⟨⟨g.os.trans H.g.os,g.tape.trans H.g.tape,g.output.trans H.g.output,Nat.le_trans H.g.size g.size,fun b hb hr=>by rw [g.block b (by omega) (fun h=>by have:=hP b h;omega)];exact H.g.block b hb hr⟩,
  by rw [g.block bx (by omega) (fun h=>by have:=hP bx h;omega)];exact H.xc,H.lk,k⟩
structure CoP (fin:List Nat) (f:Nat) (c:List (Int × Int)) (Zdd:Nat->Nat) (T:Nat->Prop):Prop where
 nx:∀ x,T x->x<c.length/\∀ (op a:Int),c[x]? = some (op,a)->∀ y∈Zkl c.length op a x,0<=y/\T y.toNat/\Zdd y.toNat<Zdd x
 ca:∀ x,T x->∀ a:Int,c[x]? = some (17,a)->0<=a/\a.toNat∈fin/\rk fin a.toNat<rk fin f
structure Yyl (w0:World) (B:Nat) (c:List (Int × Int)) (b' o':Nat):Prop where
 lt:b'<B
 at_:∀ (i:Nat) (op a:Int),c[i]? = some (op,a)->w0.cell? ⟨b',o'+i*2,none⟩=some (.int .i64 op)/\w0.cell? ⟨b',o'+i*2+1,none⟩=some (.int .i64 a)
def cr5:Nat->Nat
 | 0=>28
 | 1=>29
 | 2=>30
 | 3=>31
 | 4=>32
 | 5=>33
 | 6=>34
 | 7=>35
 | 8=>36
 | 9=>37
 | 10=>9
 | _=>5000
theorem Zfj:∀ i,i<11->∀ j,j<11->j≠i->cr5 j≠cr5 i:=by decide
theorem Ypb (i:Nat) (h:i<11):i=0\/i=1\/i=2\/i=3\/i=4\/i=5\/i=6\/i=7\/i=8\/i=9\/i=10:=by omega
theorem Zrr (j:Nat) (hj:j∈[0,2,3,4]):∀ i,i<11->cr5 i≠j:=by revert j;decide
def Zsg (Aw Ac Ak bw at_ b' o' nC cc ca bk:Nat) (v9:Int):Nat->Value
 | 0 => .int .i64 1
 | 1 => .pointer (some ⟨bw,0,none⟩)
 | 2 => .slice (some ⟨b',o',none⟩) nC cc
 | 3 => .int .i64 at_
 | 4 => .pointer (some ⟨b',o'+at_*2,none⟩)
 | 5 => .pointer (some ⟨b',o'+at_*2+1,none⟩)
 | 6 => .int .i64 ca
 | 7 => .map (some bk)
 | 8 => .int .i64 v9
 | 9 => .int .i64 (1+v9)
 | 10 => .int .i64 (1+v9)
 | _=>undef
theorem Yxw {l:Array Bool} (h8:l.getD 8 false=true):∀ p∈([(10,0),(9,8),(10,8)]:List (Nat × Nat)),p.1=9->l.getD p.2 false=true:=by
 intro p hp e
 simp only [List.mem_cons,List.not_mem_nil,or_false] at hp
 rcases hp with rfl|rfl|rfl <;> simp only [] at e ⊢ <;> first|exact h8|omega
theorem Ysy {l:Array Bool} (h0:l.getD 0 false=true) (h8:l.getD 8 false=true):∀ p∈([(10,0),(9,8),(10,8)]:List (Nat × Nat)),p.1=10->l.getD p.2 false=true:=by
 intro p hp e
 simp only [List.mem_cons,List.not_mem_nil,or_false] at hp
 rcases hp with rfl|rfl|rfl <;> simp only [] at e ⊢ <;> first|exact h0|exact h8|omega
theorem Xbn:∀ i,i<11->cr5 i=9->i=10:=by decide
theorem Yxv {Aw Ac Ak bw at_ b' o' nC cc ca bk:Nat} {v8 v9:Int} (l:Array Bool) (hun:l.getD 8 false=false) (h9:l.getD 9 false=false) (h10:l.getD 10 false=false) :
 ∀ i,i<11->l.getD i false=true->cr5 i<68->Zsg Aw Ac Ak bw at_ b' o' nC cc ca bk v8 i=Zsg Aw Ac Ak bw at_ b' o' nC cc ca bk v9 i:=by
 intro i hi hl _
 rcases Ypb i hi with rfl|rfl|rfl|rfl|rfl|rfl|rfl|rfl|rfl|rfl|rfl <;> first|rfl|(rw [hun] at hl;cases hl)|(rw [h9] at hl;cases hl)|(rw [h10] at hl;cases hl)
def cr6:Nat->Nat
 | 0=>38
 | 1=>39
 | 2=>40
 | 3=>41
 | 4=>42
 | 5=>43
 | 6=>44
 | 7=>45
 | 8=>46
 | 9=>47
 | _=>5000
theorem Zao:∀ i,i<10->∀ j,j<10->j≠i->cr6 j≠cr6 i:=by decide
theorem Yie (i:Nat) (h:i<10):i=0\/i=1\/i=2\/i=3\/i=4\/i=5\/i=6\/i=7\/i=8\/i=9:=by omega
theorem Zju (j:Nat) (hj:j∈[0,3,5]):∀ i,i<10->cr6 i≠j:=by revert j;decide
def Zki (Aw Af bw at_ f nd cd nf cF nL k9:Nat) (mem:Int) (pd pF p9:Option Addr):Nat->Value
 | 0 => .pointer (some ⟨bw,0,none⟩)
 | 1 => .pointer (some ⟨bw,0,none⟩)
 | 2 => .pointer (some ⟨bw,0,none⟩)
 | 3 => .agg #[.int .i64 mem,.slice pd nd cd,.slice pF nf cF]
 | 4 => .int .i64 f
 | 5 => .int .i64 at_
 | 6 => .agg #[.int .i64 f,.int .i64 at_]
 | 7 => .slice p9 nL k9
 | 8 => .int .i64 nL
 | 9 => .int .i64 0
 | _=>undef
theorem Ypa {l:Array Bool} (h7:l.getD 7 false=true):∀ p∈([(8,7)]:List (Nat × Nat)),p.1=8->l.getD p.2 false=true:=by
 intro p hp e
 simp only [List.mem_cons,List.not_mem_nil,or_false] at hp
 rcases hp with rfl <;> simp only [] at e ⊢ <;> first|exact h7|omega
theorem Yoz {Aw Af bw at_ f nd cd nf cF nL k8 k9:Nat} {mem:Int} {pd pF p8 p9:Option Addr} (l:Array Bool) (hun:l.getD 7 false=false) (h8:l.getD 8 false=false) :
 ∀ i,i<10->l.getD i false=true->cr6 i<68->Zki Aw Af bw at_ f nd cd nf cF nL k8 mem pd pF p8 i=Zki Aw Af bw at_ f nd cd nf cF nL k9 mem pd pF p9 i:=by
 intro i hi hl _
 rcases Yie i hi with rfl|rfl|rfl|rfl|rfl|rfl|rfl|rfl|rfl|rfl <;> first|rfl|(rw [hun] at hl;cases hl)|(rw [h8] at hl;cases hl)
theorem Ztr (mem:Int) (vd:Value) (fs:List FnP) (pF:Option Addr) (cF B f at_:Nat) (ar lo r:Int) (c:List (Int × Int)) (op a:Int) (w:World) (Zdd:Nat->Nat) (T:Nat->Prop) (hvd:∃ p n c,vd = .slice p n c) (hB:B<=w.heap.size) (hF:Yk w B pF fs)
 (hfn:fs[f]? = some (ar,lo,r,c)) (hins:c[at_]? = some (op,a)) (hnf:fs.length<=64) (hnc:c.length<=4096) (hnx:∀ (op a:Int),c[at_]? = some (op,a)->∀ y∈Zkl c.length op a at_,0<=y/\T y.toNat/\Zdd y.toNat<Zdd at_) :
 ∃ L:List Int,L.length<=2/\(∀ y∈L,0<=y/\T y.toNat/\Zdd y.toNat<Zdd at_)/\Calls Try.prog 41 #[.agg #[.int .i64 mem,vd,.slice pF fs.length cF],.agg #[.int .i64 f,.int .i64 at_]] w (Zfd w L) :=
 ⟨Zkl c.length op a at_,Nat.le_trans (List.length_filter_le _ _) (Zgf _ _ _),hnx op a hins,Zyu mem vd fs pF cF B f at_ (ar,lo,r,c) op a w hvd hB hF ⟨hfn,hins,hnf,hnc⟩⟩
theorem Ycd (w0:World) (bw bx bm B:Nat) (mem:Int) (pd:Option Addr) (nd cd:Nat) (pF:Option Addr) (cF:Nat) (fs:List FnP) (cl:Nat->List Nat) (S:St w0 bw bx bm B mem pd nd cd pF cF fs cl) (hok:Zkj fs) (gH gT cH cT bk:Nat) (x2 x3 x4 x5:Value) (fin:List Nat) (hlt:∀ x∈fin,x<fs.length)
 (f:Nat) (hff:f∈fin) (ar lo r:Int) (c:List (Int × Int)) (hfn:fs[f]? = some (ar,lo,r,c)) (b' o' cc:Nat) (hcode:Yyl w0 B c b' o') (base:Nat) (hbk:w0.heap.size<=bk/\bk<base) (Zdd:Nat->Nat) (T:Nat->Prop) (hP:CoP fin f c Zdd T)
 (hco:∀ (w:World) (kn:Nat->Option Int) (a:Nat),XW w0 w bx gH gT fs.length cH cT bk x2 x3 x4 x5 kn->KnC fs.length kn->a∈fin->rk fin a<rk fin f->Calls Try.prog 46 #[.pointer (some ⟨bw,0,none⟩),.int .i64 a,.map (some bk)] w (Ypg w fs.length bk fin kn a)) (M:Nat) :
 ∀ (W:World) (kn:Nat->Option Int) (A:CA) (Z:List Int) (at_:Nat) (H:XW w0 W bx gH gT fs.length cH cT bk x2 x3 x4 x5 kn) (hKC:KnC fs.length kn) (hC:CoB base W A bw bk f c.length (.slice (some ⟨b',o',none⟩) c.length cc) Z) (ht:T at_) (hM:Zdd at_<M),
 Calls Try.prog 65 #[.int .i64 at_,.pointer (some ⟨A.z,0,none⟩),.pointer (some ⟨A.c,0,none⟩),.pointer (some ⟨A.w,0,none⟩),.pointer (some ⟨A.k,0,none⟩),.pointer (some ⟨A.f,0,none⟩),.pointer (some ⟨A.o,0,none⟩)] W (Yyf base W A bw bk f c.length fs.length (.slice (some ⟨b',o',none⟩) c.length cc) fin kn):=by
 induction M with
 | zero=>intro W kn A Z at_ H hKC hC ht hM;omega
 | succ M ih =>
   intro W kn A Z at_ H hKC hC ht hM
   obtain ⟨Aw,Af,Ak,Ac,Az,Ao,Ag⟩:=A
   obtain ⟨hat2,hnx⟩:=hP.nx at_ ht
   obtain ⟨⟨op,a⟩,hins⟩:∃ x,c[at_]? = some x:=⟨_,List.getElem?_eq_getElem hat2⟩
   have hlz:=hC.lo
   have hnz:=hC.ne
   have zc:=Zt hC.bz
   have zcell:=Zru hC at_ hat2
   have hv:=hC.v at_
   have hbn:=hok.len _ (List.mem_of_getElem? hfn)
   have lg:=Zux hC
   have s1:=(Gs hC.bz)
   simp only [] at zc zcell hbn hlz hnz lg s1
   have lgA:=lg.2
   have q1:(at_:Int)<(c.length:Int):=by omega
   have HH:=Hq H
   have HC:=Hq hC
   have HK:=Hq hKC
   have HPP:=Hq hP
   have HCO:=Hq hco
   have IH:=Hq ih
   have SS:=Hq S
   have OK:=Hq hok
   have HFN:=Hq hfn
   have HCD:=Hq hcode
   have HNX:=Hq hnx
   have HIN:=Hq hins
   have HT:=Hq ht
   have HM:=Hq hM
   have HFF:=Hq hff
   have HLT:=Hq hlt
   by_cases hz:0<Z.getD at_ 0
   · generalize Z.getD at_ 0=zv at *
     clear H hC hKC hP hco ih S hok hfn hcode hnx hins ht hM hff hlt
     go_enter Try.func65,Try.ntmps65
     go_wp2
     go_ret
     exact ⟨zv,kn,Z,rfl,hv,Zpx _ _,HH.out.kw,HK.out,Zrd _ _ _ _,HC.out⟩
   · have hz0:Z.getD at_ 0=0:=by omega
     rw [hz0] at zcell
     have hcc:=Zt hC.bc
     have s2:=(Gs hC.bc)
     have hbB:=hcode.lt
     have hbx:=S.bx_
     have hlx:=S.lx
     have hw0:=H.g.size
     obtain ⟨d0,d1⟩:=hcode.at_ at_ op a hins
     have e0:=H.g.cell d0 (by intro e;injection e with e;have e2:b'=bx:=e;omega)
     have e1:=H.g.cell d1 (by intro e;injection e with e;have e2:b'=bx:=e;omega)
     have s3:b'<W.heap.size:=by omega
     simp only [] at hcc s2
     have HLZ:=Hq hlz
     have HNZ:=Hq hnz
     by_cases h17:op=17
     · subst h17
       obtain ⟨ha0,hca,hcr⟩:=hP.ca at_ ht a hins
       obtain ⟨ca,rfl⟩:=Int.eq_ofNat_of_zero_le ha0
       simp only [Int.toNat_natCast] at hca hcr
       have hca2:=hlt ca hca
       have hXd:XW w0 W.drew bx gH gT fs.length cH cT bk x2 x3 x4 x5 kn:=⟨Zd H.g,H.xc,H.lk,Zcc H.kw (Zd (Zc W none)) (by simp)⟩
       have CA:=Hq (hco W.drew kn ca hXd hKC hca hcr)
       have wc:=Zt hC.bw_
       have kc:=Zt hC.bk_
       have s4:=(Gs hC.bw_)
       have s5:=(Gs hC.bk_)
       simp only [] at wc kc s4 s5
       have eAw:¬ Aw=bk:=by omega
       have eAc:¬ Ac=bk:=by omega
       have eAk:¬ Ak=bk:=by omega
       have eB:¬ b'=bk:=by omega
       have HCR:=Hq hcr
       clear H hC hKC hP hco ih S hok hfn hcode hnx hins ht hM hff hlt hXd hca hcr hlz hnz d0 d1 hv hz hz0 ha0
       have xc:=hcc
       have D1:=e1
       go_enter Try.func65,Try.ntmps65
       go_upto_region 5 with fail
       rename_i K hK
       have d1:=D1
       refine Xe (n:=11) (J:=fun a0 l a1 w1=>∃ v9 kn9,RJ a0 68 11 cr5 (Zsg Aw Ac Ak bw at_ b' o' c.length cc ca bk v9) l a1/\WX 8 11 [(10,0),(9,8),(10,8)] W.drew (some bk) (fun w9=>KnW w9 bk fs.length kn9/\kn9 ca=some v9/\KnC fs.length kn9/\KnM fin fs.length kn kn9 (rk fin ca+1)) l w1) (by kernel_rfl) rfl (Jh (by kernel_rfl)) (fun l a1 w1 h=>by obtain ⟨_,_,_,h⟩:=h;exact h.sz) ⟨0,kn,Xd rfl,Zkr _ _ _ _ _ _⟩ ?step ?fin
       case step =>
        intro l a1 w' i hJJ hi hin
        obtain ⟨v9,kn9,hJ,hW⟩:=hJJ
        have hun:l.getD i false=false:=getD_both (mem_ready.1 hi).1
        have gW:W.grownBy w' (some bk):=Za (Zd (Zc W _)) hW.g
        rcases Ypb i hin with rfl|rfl|rfl|rfl|rfl|rfl|rfl|rfl|rfl|rfl|rfl
        · have e9:a1.tmps.getD 9 undef = .int .i64 1:=hJ.un 9 (fun i hi hl he=>by
           have h10:i=10:=Xbn i hi he
           subst h10
           have:=hW.x (10,0) (by decide) hl
           rw [hun] at this;cases this)
          exact Zj (Zp hW hJ rfl (by rfl) rfl (by decide) (by decide) (Zfj _ (by decide)) (w':=w') (by simp [execOp,Act.eval,e9,go_sem,Zsg]) (Zx hW (by decide) (by decide) (Zv (by decide)))) (fun a9 w9 h9=>⟨v9,kn9,h9⟩)
        · have e3:a1.tmps.getD 3 undef = .pointer (some ⟨Aw,0,none⟩):=hJ.un 3 (fun i hi _=>Zrr 3 (by decide) i hi)
          have h0:=gW.cell wc (by simpa using eAw)
          exact Zj (Zp hW hJ rfl (by rfl) rfl (by decide) (by decide) (Zfj _ (by decide)) (w':=w') (by simp [execOp,resolve,invoke,builtin,Act.eval,e3,h0,hat2,go_sem,Zsg]) (Zx hW (by decide) (by decide) (Zv (by decide)))) (fun a9 w9 h9=>⟨v9,kn9,h9⟩)
        · have e2:a1.tmps.getD 2 undef = .pointer (some ⟨Ac,0,none⟩):=hJ.un 2 (fun i hi _=>Zrr 2 (by decide) i hi)
          have h0:=gW.cell xc (by simpa using eAc)
          exact Zj (Zp hW hJ rfl (by rfl) rfl (by decide) (by decide) (Zfj _ (by decide)) (w':=w') (by simp [execOp,resolve,invoke,builtin,Act.eval,e2,h0,hat2,go_sem,Zsg]) (Zx hW (by decide) (by decide) (Zv (by decide)))) (fun a9 w9 h9=>⟨v9,kn9,h9⟩)
        · have e0:a1.tmps.getD 0 undef = .int .i64 at_:=hJ.un 0 (fun i hi _=>Zrr 0 (by decide) i hi)
          exact Zj (Zp hW hJ rfl (by rfl) rfl (by decide) (by decide) (Zfj _ (by decide)) (w':=w') (by simp [execOp,resolve,invoke,builtin,Act.eval,e0,hat2,go_sem,Zsg]) (Zx hW (by decide) (by decide) (Zv (by decide)))) (fun a9 w9 h9=>⟨v9,kn9,h9⟩)
        · have e30:a1.tmps.getD 30 undef = .slice (some ⟨b',o',none⟩) c.length cc:=(Zm hJ hi 2 (by kernel_rfl))
          have e31:a1.tmps.getD 31 undef = .int .i64 at_:=(Zm hJ hi 3 (by kernel_rfl))
          exact Zj (Zp hW hJ rfl (by rfl) rfl (by decide) (by decide) (Zfj _ (by decide)) (w':=w') (by first|(simp [execOp,resolve,invoke,builtin,Act.eval,e30,e31,hat2,go_sem,Zsg];done)|(simp [execOp,resolve,invoke,builtin,Act.eval,e30,e31,hat2,go_sem,Zsg];omega)|(simp [execOp,resolve,invoke,builtin,Act.eval,e30,e31,hat2,go_sem,Zsg];intro h;omega)|(simp [execOp,resolve,invoke,builtin,Act.eval,e30,e31,hat2,go_sem,Zsg];intros;omega)) (Zx hW (by decide) (by decide) (Zv (by decide)))) (fun a9 w9 h9=>⟨v9,kn9,h9⟩)
        · have e32:a1.tmps.getD 32 undef = .pointer (some ⟨b',o'+at_*2,none⟩):=(Zm hJ hi 4 (by kernel_rfl))
          exact Zj (Zp hW hJ rfl (by rfl) rfl (by decide) (by decide) (Zfj _ (by decide)) (w':=w') (by simp [execOp,resolve,invoke,builtin,Act.eval,e32,hat2,go_sem,Zsg]) (Zx hW (by decide) (by decide) (Zv (by decide)))) (fun a9 w9 h9=>⟨v9,kn9,h9⟩)
        · have e33:a1.tmps.getD 33 undef = .pointer (some ⟨b',o'+at_*2+1,none⟩):=(Zm hJ hi 5 (by kernel_rfl))
          have h0:=gW.cell d1 (by simpa using eB)
          exact Zj (Zp hW hJ rfl (by rfl) rfl (by decide) (by decide) (Zfj _ (by decide)) (w':=w') (by simp [execOp,resolve,invoke,builtin,Act.eval,e33,h0,hat2,go_sem,Zsg]) (Zx hW (by decide) (by decide) (Zv (by decide)))) (fun a9 w9 h9=>⟨v9,kn9,h9⟩)
        · have e4:a1.tmps.getD 4 undef = .pointer (some ⟨Ak,0,none⟩):=hJ.un 4 (fun i hi _=>Zrr 4 (by decide) i hi)
          have h0:=gW.cell kc (by simpa using eAk)
          exact Zj (Zp hW hJ rfl (by rfl) rfl (by decide) (by decide) (Zfj _ (by decide)) (w':=w') (by simp [execOp,resolve,invoke,builtin,Act.eval,e4,h0,hat2,go_sem,Zsg]) (Zx hW (by decide) (by decide) (Zv (by decide)))) (fun a9 w9 h9=>⟨v9,kn9,h9⟩)
        · have e29:a1.tmps.getD 29 undef = .pointer (some ⟨bw,0,none⟩):=(Zm hJ hi 1 (by kernel_rfl))
          have e34:a1.tmps.getD 34 undef = .int .i64 ca:=(Zm hJ hi 6 (by kernel_rfl))
          have e35:a1.tmps.getD 35 undef = .map (some bk):=(Zm hJ hi 7 (by kernel_rfl))
          have no8:∀ j,(j,8)∈([(10,0),(9,8),(10,8)]:List (Nat × Nat))->l.getD j false=false:=fun j hj=>(by
           rcases Bool.eq_false_or_eq_true (l.getD j false) with e|e
           · have:=hW.x (j,8) hj e;rw [hun] at this;cases this
           · exact e)
          have hw0:=hW.h0 hun
          subst hw0
          refine Xq rfl (by rfl) (by simp [execOp,resolve,invoke,Act.eval,e29,e34,e35,go_sem]) (CA.out.mono fun e w2 he => ?_)
          obtain ⟨v8,kn8,rfl,g8,k8,k8f,kb8,km8⟩:=he
          refine ⟨_,rfl,v8,kn8,?_,Zpm hW (by decide) (Zv (by decide)) ⟨k8,k8f,kb8,km8⟩ (Za (hW.g) g8)⟩
          exact Jq (val:=(Zsg Aw Ac Ak bw at_ b' o' c.length cc ca bk v8)) (Jj hJ (Yxv l hun (no8 9 (by simp)) (no8 10 (by simp)))) (by decide) (by decide) (Zfj _ (by decide))
        · have e28:a1.tmps.getD 28 undef = .int .i64 1:=(Zm hJ hi 0 (by kernel_rfl))
          have e36:a1.tmps.getD 36 undef = .int .i64 v9:=(Zm hJ hi 8 (by kernel_rfl))
          have l8:l.getD 8 false=true:=Zf hi 8 (by kernel_rfl)
          obtain ⟨-,hk9,hb9,-⟩:=hW.h1 l8
          have hv9:=hb9 ca hca2 v9 hk9
          have hw2:IntKind.i64.wrap (1+v9)=1+v9:=IntWalk.i64_in _ (by omega)
          exact Zj (Zp hW hJ rfl (by rfl) rfl (by decide) (by decide) (Zfj _ (by decide)) (w':=w') (by simp [execOp,Act.eval,e28,e36,hw2,go_sem,Zsg]) (Zx hW (by decide) (by decide) (Yxw l8))) (fun a9 w9 h9=>⟨v9,kn9,h9⟩)
        · have e37:a1.tmps.getD 37 undef = .int .i64 (1+v9):=(Zm hJ hi 9 (by kernel_rfl))
          have l0:l.getD 0 false=true:=Zf hi 0 (by kernel_rfl)
          have l9:l.getD 9 false=true:=Zf hi 9 (by kernel_rfl)
          exact Zj (Zp hW hJ rfl (by rfl) rfl (by decide) (by decide) (Zfj _ (by decide)) (w':=w') (by simp [execOp,Act.eval,e37,go_sem,Zsg]) (Zx hW (by decide) (by decide) (Ysy l0 (hW.x (9,8) (by decide) l9)))) (fun a9 w9 h9=>⟨v9,kn9,h9⟩)
       intro l a1 Wn hJJ hl
       obtain ⟨v9,kn1,hJ,hW⟩:=hJJ
       obtain ⟨k9,k9f,kb9,km9⟩:=hW.h1 (hl 8 (by decide))
       have hput:=Jf hJ rfl hl (fun i j h1 h2 h3=>Zfj j h2 i h1 h3)
       subst hput
       have gn:W.grownBy Wn (some bk):=Za (Zd (Zc W _)) hW.g
       have XN:=Hq (Zya HH.out hlx gn k9)
       have CN:=Hq (Yii HC.out hbk.2 gn)
       have KCN:=Hq kb9
       have KMN:=Hq (show KnM fin fs.length kn kn1 (rk fin f) from Zms (Zrd fin fs.length kn 0) km9 (Nat.zero_le _) (by have:=HCR.out;omega))
       have SN:=Hq (show Sp (fun k=>k=bk\/k=Ag) W Wn from Yl gn (fun k _ e=>by injection e with e;exact Or.inl e.symm))
       have hv9:=kb9 ca hca2 v9 k9f
       obtain ⟨nv,hnv⟩:∃ nv,nv=1+v9:=⟨_,rfl⟩
       have NV:1<=nv/\nv<=1099511627778:=by omega
       refine hK _ _ ?_
       simp only [Zai,cr5,Zsg,Act.put,List.setIfInBounds_toArray,List.set_cons_zero,List.set_cons_succ]
       rw [<- hnv]
       clear hK K hJ hW hl k9 k9f kb9 km9 gn hv9 hnv CA wc kc s4 s5 hcc xc e0 e1 d1 D1 zc zcell s1 s2 lgA lg s3 q1
       go_upto_region 6 with fail
       rename_i K hK
       have kb:=Zb SS.out.bwc XN.out.g (by intro e;injection e with e;exact SS.out.ne1 e.symm)
       have b0:=Cq _ _ 0 _ _ _ kb
       have b1:=Cq _ _ 1 _ _ _ kb
       have b2:=Cq _ _ 2 _ _ _ kb
       have wc:=Zt CN.out.bw_
       have fc:=Zt CN.out.bf
       simp only [] at wc fc
       have hszn:=XN.out.g.size
       have hlgn:=Zux CN.out
       simp only [] at hlgn
       obtain ⟨L,hL2,hLy,nx⟩:=Ztr mem (.slice pd nd cd) fs pF cF B f at_ ar lo r c _ _ Wn.drew Zdd T ⟨_,_,_,rfl⟩ (by have:=SS.out.hB;simp;omega) (Zs SS.out.hF (Zd XN.out.g) (fun r e=>by injection e with e;rw [<- e];exact SS.out.bx_)) HFN.out HIN.out SS.out.nf hbn.2 HNX.out
       have NX:=Hq nx
       have HLY:=Hq hLy
       clear nx hLy kb
       refine Xe (n:=10) (J:=fun a0 l a1 w1=>∃ p9 k9,RJ a0 68 10 cr6 (Zki Aw Af bw at_ f nd cd fs.length cF L.length k9 mem pd pF p9) l a1/\WX 7 10 [(8,7)] Wn.drew none (fun w9=>w9.ownsRow Wn.drew.heap.size 3 1 (.slice p9 L.length k9) L.length (L.map (Value.int .i64))) l w1) (by kernel_rfl) rfl (Jh (by kernel_rfl)) (fun l a1 w1 h=>by obtain ⟨_,_,_,h⟩:=h;exact h.sz) ⟨none,0,Xd rfl,Zkr _ _ _ _ _ _⟩ ?stWn ?fiWn
       case stWn =>
        intro l a1 w' i hJJ hi hin
        obtain ⟨p9,k9,hJ,hW⟩:=hJJ
        have hun:l.getD i false=false:=getD_both (mem_ready.1 hi).1
        have gW:Wn.grownBy w' none:=Za (Zd (Zc Wn _)) hW.g
        rcases Yie i hin with rfl|rfl|rfl|rfl|rfl|rfl|rfl|rfl|rfl|rfl
        · have e3:a1.tmps.getD 3 undef = .pointer (some ⟨Aw,0,none⟩):=hJ.un 3 (fun i hi _=>Zju 3 (by decide) i hi)
          have h0:=gW.cell wc (by simp)
          exact Zj (Zp hW hJ rfl (by rfl) rfl (by decide) (by decide) (Zao _ (by decide)) (w':=w') (by simp [execOp,resolve,invoke,builtin,Act.eval,e3,h0,go_sem,Zki]) (Zx hW (by decide) (by decide) (Zv (by decide)))) (fun a9 w9 h9=>⟨p9,k9,h9⟩)
        · have e38:a1.tmps.getD 38 undef = .pointer (some ⟨bw,0,none⟩):=(Zm hJ hi 0 (by kernel_rfl))
          exact Zj (Zp hW hJ rfl (by rfl) rfl (by decide) (by decide) (Zao _ (by decide)) (w':=w') (by simp [execOp,resolve,invoke,builtin,Act.eval,e38,go_sem,Zki]) (Zx hW (by decide) (by decide) (Zv (by decide)))) (fun a9 w9 h9=>⟨p9,k9,h9⟩)
        · have e39:a1.tmps.getD 39 undef = .pointer (some ⟨bw,0,none⟩):=(Zm hJ hi 1 (by kernel_rfl))
          exact Zj (Zp hW hJ rfl (by rfl) rfl (by decide) (by decide) (Zao _ (by decide)) (w':=w') (by simp [execOp,resolve,invoke,builtin,Act.eval,e39,go_sem,Zki]) (Zx hW (by decide) (by decide) (Zv (by decide)))) (fun a9 w9 h9=>⟨p9,k9,h9⟩)
        · have e40:a1.tmps.getD 40 undef = .pointer (some ⟨bw,0,none⟩):=(Zm hJ hi 2 (by kernel_rfl))
          have h0:=gW.cell b0 (by simp)
          have h1:=gW.cell b1 (by simp)
          have h2:=gW.cell b2 (by simp)
          exact Zj (Zp hW hJ rfl (by rfl) rfl (by decide) (by decide) (Zao _ (by decide)) (w':=w') (by simp [execOp,resolve,invoke,builtin,Act.eval,e40,h0,h1,h2,go_sem,Zki]) (Zx hW (by decide) (by decide) (Zv (by decide)))) (fun a9 w9 h9=>⟨p9,k9,h9⟩)
        · have e5:a1.tmps.getD 5 undef = .pointer (some ⟨Af,0,none⟩):=hJ.un 5 (fun i hi _=>Zju 5 (by decide) i hi)
          have h0:=gW.cell fc (by simp)
          exact Zj (Zp hW hJ rfl (by rfl) rfl (by decide) (by decide) (Zao _ (by decide)) (w':=w') (by simp [execOp,resolve,invoke,builtin,Act.eval,e5,h0,go_sem,Zki]) (Zx hW (by decide) (by decide) (Zv (by decide)))) (fun a9 w9 h9=>⟨p9,k9,h9⟩)
        · have e0:a1.tmps.getD 0 undef = .int .i64 at_:=hJ.un 0 (fun i hi _=>Zju 0 (by decide) i hi)
          exact Zj (Zp hW hJ rfl (by rfl) rfl (by decide) (by decide) (Zao _ (by decide)) (w':=w') (by simp [execOp,resolve,invoke,builtin,Act.eval,e0,go_sem,Zki]) (Zx hW (by decide) (by decide) (Zv (by decide)))) (fun a9 w9 h9=>⟨p9,k9,h9⟩)
        · have e42:a1.tmps.getD 42 undef = .int .i64 f:=(Zm hJ hi 4 (by kernel_rfl))
          have f42:=e42
          rw [Array.getD_eq_getD_getElem?] at f42
          have e43:a1.tmps.getD 43 undef = .int .i64 at_:=(Zm hJ hi 5 (by kernel_rfl))
          have f43:=e43
          rw [Array.getD_eq_getD_getElem?] at f43
          exact Zj (Zp hW hJ rfl (by rfl) rfl (by decide) (by decide) (Zao _ (by decide)) (w':=w') (by simp [execOp,resolve,invoke,builtin,Act.eval,e42,f42,e43,f43,go_sem,Zki]) (Zx hW (by decide) (by decide) (Zv (by decide)))) (fun a9 w9 h9=>⟨p9,k9,h9⟩)
        · have e41:a1.tmps.getD 41 undef = .agg #[.int .i64 mem,.slice pd nd cd,.slice pF fs.length cF]:=(Zm hJ hi 3 (by kernel_rfl))
          have e44:a1.tmps.getD 44 undef = .agg #[.int .i64 f,.int .i64 at_]:=(Zm hJ hi 6 (by kernel_rfl))
          have no7:l.getD 8 false=false:=(by
           rcases Bool.eq_false_or_eq_true (l.getD 8 false) with e|e
           · have:=hW.x (8,7) (by decide) e;rw [hun] at this;cases this
           · exact e)
          have hw0:=hW.h0 hun
          subst hw0
          refine Xq rfl (by rfl) (by simp [execOp,resolve,invoke,Act.eval,e41,e44,go_sem]) (NX.out.mono fun e w2 he => ?_)
          obtain ⟨v8,rfl,g8,r8⟩:=he
          obtain ⟨p8,k8,rfl⟩:=Zq r8
          refine ⟨_,rfl,p8,k8,?_,Zpm hW (by decide) (Zv (by decide)) r8 (Za hW.g g8)⟩
          exact Jq (val:=Zki Aw Af bw at_ f nd cd fs.length cF L.length k8 mem pd pF p8) (Jj hJ (Yoz l hun no7)) (by decide) (by decide) (Zao _ (by decide))
        · have e45:a1.tmps.getD 45 undef = .slice p9 L.length k9:=(Zm hJ hi 7 (by kernel_rfl))
          have l7:l.getD 7 false=true:=Zf hi 7 (by kernel_rfl)
          exact Zj (Zp hW hJ rfl (by rfl) rfl (by decide) (by decide) (Zao _ (by decide)) (w':=w') (by simp [execOp,resolve,invoke,builtin,Act.eval,e45,go_sem,Zki]) (Zx hW (by decide) (by decide) (Ypa l7))) (fun a9 w9 h9=>⟨p9,k9,h9⟩)
        · exact Zj (Zp hW hJ rfl (by rfl) rfl (by decide) (by decide) (Zao _ (by decide)) (w':=w') (by simp [execOp,resolve,invoke,builtin,Act.eval,go_sem,Zki]) (Zx hW (by decide) (by decide) (Zv (by decide)))) (fun a9 w9 h9=>⟨p9,k9,h9⟩)
       intro l a1 W2 hJJ hl
       obtain ⟨p9,k9,hJ,hW⟩:=hJJ
       have r9:=hW.h1 (hl 7 (by decide))
       have hput:=Jf hJ rfl hl (fun i j h1 h2 h3=>Zao j h2 i h1 h3)
       subst hput
       have g2:Wn.grownBy W2 none:=Za (Zd (Zc Wn _)) hW.g
       have R9:=Hq r9
       have s2:Sp (fun k=>k=bk\/k=Ag) Wn W2:=Yl g2 (fun k _ e=>by cases e)
       have S2:=Hq (Xc SN.out s2 (fun _ _ h=>h))
       have X2:=Hq (Ycx XN.out hlx s2 (fun k h=>by rcases h with h|h <;> omega) (Zcc XN.out.kw g2 (by simp)))
       have C2:=Hq (Znf CN.out g2)
       refine hK _ _ ?_
       simp only [Zai,cr6,Zki,Act.put,List.setIfInBounds_toArray,List.set_cons_zero,List.set_cons_succ]
       clear hK K hJ hW hl r9 g2 s2 NX wc fc b0 b1 b2
       have hbkn:bk<Wn.drew.heap.size:=by simp;omega
       have hagn:Ag<Wn.drew.heap.size:=by simp;omega
       clear hszn hlgn
       generalize Wn.drew.heap.size=nB at *
       go_wp2
       go_loopw [10,47] (fun m i wr=>∃ (k:Nat) (most:Int) (knk:Nat->Option Int) (Zk:List Int),m = .int .i64 most/\i = .int .i64 k/\k<=L.length/\(0<=most/\most<=1099511627777)/\Sp (fun k=>k=bk\/k=Ag) W wr/\wr.ownsRow nB 3 1 (.slice p9 L.length k9) L.length (L.map (Value.int .i64))/\XW w0 wr bx gH gT fs.length cH cT bk x2 x3 x4 x5 knk/\KnC fs.length knk/\KnM fin fs.length kn knk (rk fin f)/\CoB base wr ⟨Aw,Af,Ak,Ac,Az,Ao,Ag⟩ bw bk f c.length (.slice (some ⟨b',o',none⟩) c.length cc) Zk) (fun _ i _=>L.length - (intOf i).toNat)
       case atStart=>exact ⟨0,0,kn1,Z,rfl,rfl,Nat.zero_le _,⟨by decide,by decide⟩,S2.out,R9.out,X2.out,KCN.out,KMN.out,C2.out⟩
       case round =>
        obtain ⟨k,most,knk,Zk,rfl,rfl,hk,hmost,hSk,hRk,hXk,hKCk,hKMk,hCk⟩:=hrel
        have HSk:=Hq hSk
        have HRk:=Hq hRk
        have HXk:=Hq hXk
        have HKCk:=Hq hKCk
        have HKMk:=Hq hKMk
        have HCk:=Hq hCk
        clear S2 X2 C2 R9
        by_cases hlt:(k:Int)<(L.length:Int)
        · obtain ⟨y,hy⟩:∃ y,L[k]? = some y:=⟨_,List.getElem?_eq_getElem (by omega)⟩
          obtain ⟨hy0,hyT,hyr⟩:=HLY.out y (List.mem_of_getElem? hy)
          obtain ⟨m,rfl⟩:=Int.eq_ofNat_of_zero_le hy0
          simp only [Int.toNat_natCast] at hyT hyr
          obtain ⟨gL,kL,eL,lL,cL⟩:=Yb hRk (by omega)
          injection eL with eL1 eL2 eL3
          subst eL1
          have cn:=cL k (.int .i64 m) (by rw [List.getElem?_map,hy];rfl) (by omega)
          have oc:=Zt hCk.bo
          have s6:=(Gs hCk.bo)
          simp only [] at oc s6
          have OF:=Hq (IH.out wr knk ⟨Aw,Af,Ak,Ac,Az,Ao,Ag⟩ Zk m hXk hKCk hCk hyT (by have:=HM.out;omega))
          simp only [] at OF
          clear hSk hRk hXk hKCk hKMk hCk hy hy0 hyT hyr cL eL2 eL3
          go_wp2_with (go_at_call 65;refine OF.out.mono ?_;rintro e w5 ⟨v5,kn5,Z5,rfl,hv5,hs5,k5,c5,m5,C5⟩;have HS5:=Hq hs5;have HK5:=Hq k5;have HC5:=Hq c5;have HM5:=Hq m5;have HB5:=Hq C5;clear hs5 k5 c5 m5 C5 oc s6 cn)
          all_goals
           refine ⟨⟨k+1,max most v5,kn5,Z5,?_,by go_num,by omega,by omega,Xc HSk.out HS5.out (fun _ _ h=>h),Zfy HRk.out HS5.out (fun q hq hb=>by have:=(HRk.out.lt q hq).1;rcases hb with hb|hb <;> (try have hb:q=Ag:=hb) <;> omega),Ycx HXk.out hlx HS5.out (fun q hq=>by have:=HLZ.out;rcases hq with hq|hq <;> (try have hq:q=Ag:=hq) <;> omega) HK5.out,HC5.out,Zms HKMk.out HM5.out (Nat.le_refl _) (Nat.le_refl _),HB5.out⟩,by simp [intOf];omega⟩
           first|rfl|(congr 1;omega)
        · have zc:=Zt hCk.bz
          have zcell:=Zru hCk at_ hat2
          have zf:=Yf hCk.r at_
          have lg:=(Zux hCk).2
          have s1:=(Gs hCk.bz)
          simp only [] at zc zcell zf lg s1
          have q1:(at_:Int)<(c.length:Int):=by omega
          have hmin:0<=min (nv+most) 1099511627777/\min (nv+most) 1099511627777<=1099511627777:=by omega
          have CF:=Hq (Yih hCk at_ hat2 _ hmin)
          have KF:=Hq (Zcc hXk.kw (Zg wr Ag at_ (.int .i64 (min (nv+most) 1099511627777))) (by have:=HLZ.out;intro e;injection e with e;omega))
          have SF:=Hq (Xc HSk.out (Zfg wr Ag at_ (.int .i64 (min (nv+most) 1099511627777))) (fun q _ h=>Or.inr h))
          have zc2:=Zt CF.out.bz
          simp only [] at zc2
          have hn1:1<=nv:=by omega
          have hn2:nv<=1099511627778:=by omega
          obtain ⟨hm1,hm2⟩:=hmost
          clear hSk hRk hXk hKCk hKMk hCk
          go_wp2
          all_goals
           go_ret
           exact ⟨min (nv+most) 1099511627777,knk,_,Zes (by omega),hmin,SF.out,KF.out,HKCk.out,HKMk.out,CF.out⟩
     · have h17b:(op == 17)=false:=by simp [h17]
       have XN:=HH
       have CN:=HC
       have KCN:=HK
       have KMN:=Hq (Zrd fin fs.length kn (rk fin f))
       have SN:=Hq (Zpx (fun k=>k=bk\/k=Ag) W)
       clear H hC hKC hP hco ih S hok hfn hcode hnx hins ht hM hff hlt hlz hnz d0 d1 hv hz hz0
       go_enter Try.func65,Try.ntmps65
       go_upto_region 6 with fail
       rename_i K hK
       have kb:=Zb SS.out.bwc XN.out.g (by intro e;injection e with e;exact SS.out.ne1 e.symm)
       have b0:=Cq _ _ 0 _ _ _ kb
       have b1:=Cq _ _ 1 _ _ _ kb
       have b2:=Cq _ _ 2 _ _ _ kb
       have wc:=Zt CN.out.bw_
       have fc:=Zt CN.out.bf
       simp only [] at wc fc
       have hszn:=XN.out.g.size
       have hlgn:=Zux CN.out
       simp only [] at hlgn
       obtain ⟨L,hL2,hLy,nx⟩:=Ztr mem (.slice pd nd cd) fs pF cF B f at_ ar lo r c _ _ W.drew Zdd T ⟨_,_,_,rfl⟩ (by have:=SS.out.hB;simp;omega) (Zs SS.out.hF (Zd XN.out.g) (fun r e=>by injection e with e;rw [<- e];exact SS.out.bx_)) HFN.out HIN.out SS.out.nf hbn.2 HNX.out
       have NX:=Hq nx
       have HLY:=Hq hLy
       clear nx hLy kb
       refine Xe (n:=10) (J:=fun a0 l a1 w1=>∃ p9 k9,RJ a0 68 10 cr6 (Zki Aw Af bw at_ f nd cd fs.length cF L.length k9 mem pd pF p9) l a1/\WX 7 10 [(8,7)] W.drew none (fun w9=>w9.ownsRow W.drew.heap.size 3 1 (.slice p9 L.length k9) L.length (L.map (Value.int .i64))) l w1) (by kernel_rfl) rfl (Jh (by kernel_rfl)) (fun l a1 w1 h=>by obtain ⟨_,_,_,h⟩:=h;exact h.sz) ⟨none,0,Xd rfl,Zkr _ _ _ _ _ _⟩ ?stW ?fiW
       case stW =>
        intro l a1 w' i hJJ hi hin
        obtain ⟨p9,k9,hJ,hW⟩:=hJJ
        have hun:l.getD i false=false:=getD_both (mem_ready.1 hi).1
        have gW:W.grownBy w' none:=Za (Zd (Zc W _)) hW.g
        rcases Yie i hin with rfl|rfl|rfl|rfl|rfl|rfl|rfl|rfl|rfl|rfl
        · have e3:a1.tmps.getD 3 undef = .pointer (some ⟨Aw,0,none⟩):=hJ.un 3 (fun i hi _=>Zju 3 (by decide) i hi)
          have h0:=gW.cell wc (by simp)
          exact Zj (Zp hW hJ rfl (by rfl) rfl (by decide) (by decide) (Zao _ (by decide)) (w':=w') (by simp [execOp,resolve,invoke,builtin,Act.eval,e3,h0,go_sem,Zki]) (Zx hW (by decide) (by decide) (Zv (by decide)))) (fun a9 w9 h9=>⟨p9,k9,h9⟩)
        · have e38:a1.tmps.getD 38 undef = .pointer (some ⟨bw,0,none⟩):=(Zm hJ hi 0 (by kernel_rfl))
          exact Zj (Zp hW hJ rfl (by rfl) rfl (by decide) (by decide) (Zao _ (by decide)) (w':=w') (by simp [execOp,resolve,invoke,builtin,Act.eval,e38,go_sem,Zki]) (Zx hW (by decide) (by decide) (Zv (by decide)))) (fun a9 w9 h9=>⟨p9,k9,h9⟩)
        · have e39:a1.tmps.getD 39 undef = .pointer (some ⟨bw,0,none⟩):=(Zm hJ hi 1 (by kernel_rfl))
          exact Zj (Zp hW hJ rfl (by rfl) rfl (by decide) (by decide) (Zao _ (by decide)) (w':=w') (by simp [execOp,resolve,invoke,builtin,Act.eval,e39,go_sem,Zki]) (Zx hW (by decide) (by decide) (Zv (by decide)))) (fun a9 w9 h9=>⟨p9,k9,h9⟩)
        · have e40:a1.tmps.getD 40 undef = .pointer (some ⟨bw,0,none⟩):=(Zm hJ hi 2 (by kernel_rfl))
          have h0:=gW.cell b0 (by simp)
          have h1:=gW.cell b1 (by simp)
          have h2:=gW.cell b2 (by simp)
          exact Zj (Zp hW hJ rfl (by rfl) rfl (by decide) (by decide) (Zao _ (by decide)) (w':=w') (by simp [execOp,resolve,invoke,builtin,Act.eval,e40,h0,h1,h2,go_sem,Zki]) (Zx hW (by decide) (by decide) (Zv (by decide)))) (fun a9 w9 h9=>⟨p9,k9,h9⟩)
        · have e5:a1.tmps.getD 5 undef = .pointer (some ⟨Af,0,none⟩):=hJ.un 5 (fun i hi _=>Zju 5 (by decide) i hi)
          have h0:=gW.cell fc (by simp)
          exact Zj (Zp hW hJ rfl (by rfl) rfl (by decide) (by decide) (Zao _ (by decide)) (w':=w') (by simp [execOp,resolve,invoke,builtin,Act.eval,e5,h0,go_sem,Zki]) (Zx hW (by decide) (by decide) (Zv (by decide)))) (fun a9 w9 h9=>⟨p9,k9,h9⟩)
        · have e0:a1.tmps.getD 0 undef = .int .i64 at_:=hJ.un 0 (fun i hi _=>Zju 0 (by decide) i hi)
          exact Zj (Zp hW hJ rfl (by rfl) rfl (by decide) (by decide) (Zao _ (by decide)) (w':=w') (by simp [execOp,resolve,invoke,builtin,Act.eval,e0,go_sem,Zki]) (Zx hW (by decide) (by decide) (Zv (by decide)))) (fun a9 w9 h9=>⟨p9,k9,h9⟩)
        · have e42:a1.tmps.getD 42 undef = .int .i64 f:=(Zm hJ hi 4 (by kernel_rfl))
          have f42:=e42
          rw [Array.getD_eq_getD_getElem?] at f42
          have e43:a1.tmps.getD 43 undef = .int .i64 at_:=(Zm hJ hi 5 (by kernel_rfl))
          have f43:=e43
          rw [Array.getD_eq_getD_getElem?] at f43
          exact Zj (Zp hW hJ rfl (by rfl) rfl (by decide) (by decide) (Zao _ (by decide)) (w':=w') (by simp [execOp,resolve,invoke,builtin,Act.eval,e42,f42,e43,f43,go_sem,Zki]) (Zx hW (by decide) (by decide) (Zv (by decide)))) (fun a9 w9 h9=>⟨p9,k9,h9⟩)
        · have e41:a1.tmps.getD 41 undef = .agg #[.int .i64 mem,.slice pd nd cd,.slice pF fs.length cF]:=(Zm hJ hi 3 (by kernel_rfl))
          have e44:a1.tmps.getD 44 undef = .agg #[.int .i64 f,.int .i64 at_]:=(Zm hJ hi 6 (by kernel_rfl))
          have no7:l.getD 8 false=false:=(by
           rcases Bool.eq_false_or_eq_true (l.getD 8 false) with e|e
           · have:=hW.x (8,7) (by decide) e;rw [hun] at this;cases this
           · exact e)
          have hw0:=hW.h0 hun
          subst hw0
          refine Xq rfl (by rfl) (by simp [execOp,resolve,invoke,Act.eval,e41,e44,go_sem]) (NX.out.mono fun e w2 he => ?_)
          obtain ⟨v8,rfl,g8,r8⟩:=he
          obtain ⟨p8,k8,rfl⟩:=Zq r8
          refine ⟨_,rfl,p8,k8,?_,Zpm hW (by decide) (Zv (by decide)) r8 (Za hW.g g8)⟩
          exact Jq (val:=Zki Aw Af bw at_ f nd cd fs.length cF L.length k8 mem pd pF p8) (Jj hJ (Yoz l hun no7)) (by decide) (by decide) (Zao _ (by decide))
        · have e45:a1.tmps.getD 45 undef = .slice p9 L.length k9:=(Zm hJ hi 7 (by kernel_rfl))
          have l7:l.getD 7 false=true:=Zf hi 7 (by kernel_rfl)
          exact Zj (Zp hW hJ rfl (by rfl) rfl (by decide) (by decide) (Zao _ (by decide)) (w':=w') (by simp [execOp,resolve,invoke,builtin,Act.eval,e45,go_sem,Zki]) (Zx hW (by decide) (by decide) (Ypa l7))) (fun a9 w9 h9=>⟨p9,k9,h9⟩)
        · exact Zj (Zp hW hJ rfl (by rfl) rfl (by decide) (by decide) (Zao _ (by decide)) (w':=w') (by simp [execOp,resolve,invoke,builtin,Act.eval,go_sem,Zki]) (Zx hW (by decide) (by decide) (Zv (by decide)))) (fun a9 w9 h9=>⟨p9,k9,h9⟩)
       intro l a1 W2 hJJ hl
       obtain ⟨p9,k9,hJ,hW⟩:=hJJ
       have r9:=hW.h1 (hl 7 (by decide))
       have hput:=Jf hJ rfl hl (fun i j h1 h2 h3=>Zao j h2 i h1 h3)
       subst hput
       have g2:W.grownBy W2 none:=Za (Zd (Zc W _)) hW.g
       have R9:=Hq r9
       have s2:Sp (fun k=>k=bk\/k=Ag) W W2:=Yl g2 (fun k _ e=>by cases e)
       have S2:=Hq (Xc SN.out s2 (fun _ _ h=>h))
       have X2:=Hq (Ycx XN.out hlx s2 (fun k h=>by rcases h with h|h <;> omega) (Zcc XN.out.kw g2 (by simp)))
       have C2:=Hq (Znf CN.out g2)
       refine hK _ _ ?_
       simp only [Zai,cr6,Zki,Act.put,List.setIfInBounds_toArray,List.set_cons_zero,List.set_cons_succ]
       clear hK K hJ hW hl r9 g2 s2 NX wc fc b0 b1 b2
       have hbkn:bk<W.drew.heap.size:=by simp;omega
       have hagn:Ag<W.drew.heap.size:=by simp;omega
       clear hszn hlgn
       generalize W.drew.heap.size=nB at *
       go_wp2
       go_loopw [10,47] (fun m i wr=>∃ (k:Nat) (most:Int) (knk:Nat->Option Int) (Zk:List Int),m = .int .i64 most/\i = .int .i64 k/\k<=L.length/\(0<=most/\most<=1099511627777)/\Sp (fun k=>k=bk\/k=Ag) W wr/\wr.ownsRow nB 3 1 (.slice p9 L.length k9) L.length (L.map (Value.int .i64))/\XW w0 wr bx gH gT fs.length cH cT bk x2 x3 x4 x5 knk/\KnC fs.length knk/\KnM fin fs.length kn knk (rk fin f)/\CoB base wr ⟨Aw,Af,Ak,Ac,Az,Ao,Ag⟩ bw bk f c.length (.slice (some ⟨b',o',none⟩) c.length cc) Zk) (fun _ i _=>L.length - (intOf i).toNat)
       case atStart=>exact ⟨0,0,kn,Z,rfl,rfl,Nat.zero_le _,⟨by decide,by decide⟩,S2.out,R9.out,X2.out,KCN.out,KMN.out,C2.out⟩
       case round =>
        obtain ⟨k,most,knk,Zk,rfl,rfl,hk,hmost,hSk,hRk,hXk,hKCk,hKMk,hCk⟩:=hrel
        have HSk:=Hq hSk
        have HRk:=Hq hRk
        have HXk:=Hq hXk
        have HKCk:=Hq hKCk
        have HKMk:=Hq hKMk
        have HCk:=Hq hCk
        clear S2 X2 C2 R9
        by_cases hlt:(k:Int)<(L.length:Int)
        · obtain ⟨y,hy⟩:∃ y,L[k]? = some y:=⟨_,List.getElem?_eq_getElem (by omega)⟩
          obtain ⟨hy0,hyT,hyr⟩:=HLY.out y (List.mem_of_getElem? hy)
          obtain ⟨m,rfl⟩:=Int.eq_ofNat_of_zero_le hy0
          simp only [Int.toNat_natCast] at hyT hyr
          obtain ⟨gL,kL,eL,lL,cL⟩:=Yb hRk (by omega)
          injection eL with eL1 eL2 eL3
          subst eL1
          have cn:=cL k (.int .i64 m) (by rw [List.getElem?_map,hy];rfl) (by omega)
          have oc:=Zt hCk.bo
          have s6:=(Gs hCk.bo)
          simp only [] at oc s6
          have OF:=Hq (IH.out wr knk ⟨Aw,Af,Ak,Ac,Az,Ao,Ag⟩ Zk m hXk hKCk hCk hyT (by have:=HM.out;omega))
          simp only [] at OF
          clear hSk hRk hXk hKCk hKMk hCk hy hy0 hyT hyr cL eL2 eL3
          go_wp2_with (go_at_call 65;refine OF.out.mono ?_;rintro e w5 ⟨v5,kn5,Z5,rfl,hv5,hs5,k5,c5,m5,C5⟩;have HS5:=Hq hs5;have HK5:=Hq k5;have HC5:=Hq c5;have HM5:=Hq m5;have HB5:=Hq C5;clear hs5 k5 c5 m5 C5 oc s6 cn)
          all_goals
           refine ⟨⟨k+1,max most v5,kn5,Z5,?_,by go_num,by omega,by omega,Xc HSk.out HS5.out (fun _ _ h=>h),Zfy HRk.out HS5.out (fun q hq hb=>by have:=(HRk.out.lt q hq).1;rcases hb with hb|hb <;> (try have hb:q=Ag:=hb) <;> omega),Ycx HXk.out hlx HS5.out (fun q hq=>by have:=HLZ.out;rcases hq with hq|hq <;> (try have hq:q=Ag:=hq) <;> omega) HK5.out,HC5.out,Zms HKMk.out HM5.out (Nat.le_refl _) (Nat.le_refl _),HB5.out⟩,by simp [intOf];omega⟩
           first|rfl|(congr 1;omega)
        · have zc:=Zt hCk.bz
          have zcell:=Zru hCk at_ hat2
          have zf:=Yf hCk.r at_
          have lg:=(Zux hCk).2
          have s1:=(Gs hCk.bz)
          simp only [] at zc zcell zf lg s1
          have q1:(at_:Int)<(c.length:Int):=by omega
          have hmin:0<=min (1+most) 1099511627777/\min (1+most) 1099511627777<=1099511627777:=by omega
          have CF:=Hq (Yih hCk at_ hat2 _ hmin)
          have KF:=Hq (Zcc hXk.kw (Zg wr Ag at_ (.int .i64 (min (1+most) 1099511627777))) (by have:=HLZ.out;intro e;injection e with e;omega))
          have SF:=Hq (Xc HSk.out (Zfg wr Ag at_ (.int .i64 (min (1+most) 1099511627777))) (fun q _ h=>Or.inr h))
          have zc2:=Zt CF.out.bz
          simp only [] at zc2
          have hn1:1<=1:=by omega
          have hn2:1<=1099511627778:=by omega
          obtain ⟨hm1,hm2⟩:=hmost
          clear hSk hRk hXk hKCk hKMk hCk
          go_wp2
          all_goals
           go_ret
           exact ⟨min (1+most) 1099511627777,knk,_,Zes (by omega),hmin,SF.out,KF.out,HKCk.out,HKMk.out,CF.out⟩
end Go.Proofs.Ythlkflagancdfaa.CK
