/- A part of the proof. -/
import Derived.Test.YtgfoliedmhgpnaaGreatDoorBn27
import Derived.Test.YtgfoliedmhgpnaaGreatDoorBn41
import Derived.Test.YtgfoliedmhgpnaaGreatDoorBn39
set_option maxRecDepth 100000
set_option maxHeartbeats 16000000
set_option linter.unusedSimpArgs false
open Go.Proofs.Tryz
open ByteArray (empty)
namespace Go.Proofs.YtgfoliedmhgpnaaGreatDoor
open Go.RowKit
set_option linter.unusedVariables false
section
variable {b c g n m q cap base size:Nat} {op x:Int} {s:ByteArray} {w w' wr w3 w4 wq:World} {A A':Option Addr} {F:Nat -> Prop} {e:TypeId} {cs:Array Value} {v:Value}
theorem uj{F:Nat->Prop}(e:dI)(ho:e.op≠1/\e.op≠2/\e.op≠3/\e.op≠32/\e.op≠33)(hn:yh e)(ps:List PV)(A:Option Addr)(m c:Nat)(w:World)(hF:∀b,F b->b<w.heap.size)(hX:WX w e)(hs:fF F w A m c ps)(hm:m=e.kn):
 Calls prog 211 #[dL e,.slice A m c] w (dh F w):=by
 obtain⟨n1,n2,n3,n4⟩:=hn;have K:∀j:Nat,kH e.op=j->m=j:=fun j hj=>by have:=n3 (by omega);omega
 rcases(show(e.op=4\/e.op=6)\/(e.op=5\/e.op=7\/e.op=8)\/(e.op=16\/e.op=17)\/e.op=18\/e.op=19\/e.op=20\/e.op=21\/(e.op=22\/e.op=23)\/e.op=24\/e.op=25\/(e.op=26\/e.op=30\/e.op=31)\/e.op=27\/e.op=28\/e.op=29\/e.op=37\/e.op=36\/(9<=e.op/\e.op<=15)\/e.op=35\/e.op=34 by omega) with h|h|h|h|h|h|h|h|h|h|h|h|h|h|h|h|h|h|h
 ·exact Ge e h ps A m c w hF hX hs
 ·exact Fc e h ps A m c w hF hX hs (by rw[K 2 (by rcases h with h|h|h<;>rw[h]<;>rfl)];omega)
 ·exact EH e h ps A m c w hF hX hs
 ·exact Gf e h ps A m c w hF hX hs (by rw[K 1 (by rw[h];rfl)];omega)
 ·exact Ht e h ps A m c w hF hX hs (by rw[K 3 (by rw[h];rfl)];omega)
 ·exact CN e h ps A m c w hF hX hs (by rw[K 2 (by rw[h];rfl)];omega)
 ·exact CO e h ps A m c w hF hX hs
 ·exact AC e h ps A m c w hF hX hs (by rw[K 1 (by rcases h with h|h<;>rw[h]<;>rfl)];omega)
 ·exact CP e h ps A m c w hF hX hs (by rw[K 1 (by rw[h];rfl)];omega)
 ·exact EI e h ps A m c w hF hX hs (by rw[K 3 (by rw[h];rfl)];omega)
 ·exact Fe e h ps A m c w hF hX hs (by rw[K 1 (by rcases h with h|h|h<;>rw[h]<;>rfl)];omega)
 ·exact Hu e h ps A m c w hF hX hs (by rw[K 2 (by rw[h];rfl)];omega)
 ·exact Hv e h ps A m c w hF hX hs (by rw[K 2 (by rw[h];rfl)];omega)
 ·exact Ff e h ps A m c w hF hX hs
 ·exact EJ e h ps A m c w hF hX hs
 ·exact Fg e h ps A m c w hF hX hs (by rw[K 1 (by rw[h];rfl)];omega)
 ·exact Gg e h ps A m c w hF hX hs (by rw[K 2 (by unfold kH;rw[KU (by omega),KU (by omega),KU (by omega),KU (by omega)];rfl)];omega)
 ·exact CQ e h ps A m c w hF hX hs
 ·exact EK e h ps A m c w hF hX hs (by rw[hm];exact n4 h)
end
section
variable {i size:Nat}
theorem xF:(Tryz.prog.info? 222).map (fun i=>(i.zero,i.size,i.bytes))=some (some (.agg (#[.string empty]++VC.zero.arr)),6,96):=by kernel_rfl
end
structure AD(F:Nat->Prop)(w:World)(A:Option Addr)(n c:Nat)(fs:List PF):Prop where
 sr:SR 6 cX w A n c fs
 rv:∀p∈fs,RV F w p.1 p.2.v
 ok:∀p∈fs,gB p.2.v
 ns:∀p∈fs,p.2.s.size<=aH
section
variable {c n size:Nat} {w w':World} {A:Option Addr} {F:Nat -> Prop}
theorem AD.step{F:Nat->Prop}{w w':World}{A:Option Addr}{n c:Nat}{fs:List PF}(h:AD F w A n c fs)(hb:Below w.heap.size w w'):AD F w' A n c fs:=⟨h.sr.step hb,fun p hp=>(h.rv p hp).step hb,h.ok,h.ns⟩
def CR(F:Nat->Prop)(w:World)(e:Ending)(w':World):Prop:=∃(d:VC) (y:aC),e=.returned d.val/\RV (fun b=>F b\/w.heap.size<=b) w' d y/\gB y/\Below w.heap.size w w'
def CS(k:Nat):Prop:=∀(e:dI) (x:aC) (c:VC) (A:Option Addr) (n cc:Nat) (fs:List PF) (F:Nat->Prop) (w0 w:World),(∀b,b<w0.heap.size->F b)->(∀b,F b->b<w.heap.size)->Below w0.heap.size w0 w->WX w0 e->mX k e->RV F w c x->gB x->AD F w A n cc fs->n+k<=100->
 Calls prog 159 #[dL e,c.val,.slice A n cc] w (CR F w)
end
structure EL(F:Nat->Prop)(wa:World)(m:Nat)(v:Value)(ps:List PV)(wr:World):Prop where
 own:wr.ownsRow wa.heap.size 29 5 v m (aO bC ps)
 ln:ps.length=m
 bel:Below wa.heap.size wa wr
 rv:∀p∈ps,RV (fun b=>(F b\/wa.heap.size<=b)/\v.ownBlock≠some b) wr p.1 p.2
 ok:∀p∈ps,gB p.2
section
variable {b m size:Nat} {y d:Int} {w' wr w3 w4:World} {F:Nat -> Prop} {v v':Value}
section
variable {F:Nat->Prop} {wa wr w' w3 w4:World} {m:Nat} {v v':Value} {ps:List PV} {d:VC} {y:aC}
theorem EL.step(h:EL F wa m v ps wr)(hb:Below wr.heap.size wr w'):EL F wa m v ps w':=⟨bJ h.own hb,h.ln,h.bel.Ih hb,fun p hp=>(h.rv p hp).step hb,h.ok⟩
theorem EL.fresh(h:EL F wa m v ps wr)(hF:∀b,F b->b<wa.heap.size)(hr:RV (fun b=>F b\/wr.heap.size<=b) w3 d y):RV (fun b=>(F b\/wa.heap.size<=b)/\v.ownBlock≠some b) w3 d y:=hr.mono fun b hb=>⟨hb.imp id fun k=>KM h.bel.size k,fun e=>by
 have h1:=fH h.own e
 have h2:=bF h.own b e
 rcases hb with hb|hb
 ·have:=hF b hb;omega
 ·omega⟩
theorem EL.add(h:EL F wa m v ps w3)(hr:RV (fun b=>(F b\/wa.heap.size<=b)/\v.ownBlock≠some b) w3 d y)(hy:gB y)(hg:w3.grownBy w4 v.ownBlock)(hat:v'.ownBlock=v.ownBlock\/v'.ownBlock=some w3.heap.size)(ho:w4.ownsRow wa.heap.size 29 5 v' (m+1) (aO bC ps++bC (d,y))):EL F wa (m+1) v' (ps++[(d,y)]) w4:=by
 refine⟨by rw[cw];exact ho,by rw[KV,h.ln];rfl,h.bel.grown hg h.bel.size (bF h.own),fun p hp=>?_,fun p hp=>?_⟩
 ·rcases KI.1 hp with hp|hp
  ·exact ir (h.rv p hp) hg hat
  ·rw[Kf.1 hp];exact ir hr hg hat
 ·rcases KI.1 hp with hp|hp
  ·exact h.ok p hp
  ·rw[Kf.1 hp];exact hy
end
end
structure Er(F:Nat->Prop)(w:World)(e:dI)(c:VC)(wr:World):Prop where
 be:aG wr w.heap.size 35 (aN e)
 bd:aG wr (w.heap.size+1) 29 c.arr
 r:eZ w (w.heap.size+1+1) wr
 v:∃u y,aG wr (w.heap.size+3) 29 (VC.arr u)/\RV (fun b=>F b\/w.heap.size+4<=b) wr u y/\(y.k=0->y=aC.zero)
section
variable {b c k g o n B m q cap base size:Nat} {x y d:Int} {w w' wr w0 w3 w4 wq:World} {A:Option Addr} {F G:Nat -> Prop} {e:TypeId}
theorem Er.step{F:Nat->Prop}{w wr w':World}{e:dI}{c:VC}(h:Er F w e c wr)(hb:Below wr.heap.size wr w'):Er F w e c w':=by
 obtain⟨u,y,h1,h2,h3⟩:=h.v;exact⟨h.be.step hb,h.bd.step hb,h.r.step hb,u,y,h1.step hb,h2.step hb,h3⟩
theorem Er.put{F:Nat->Prop}{w wr:World}{e:dI}{c d:VC}(h:Er F w e c wr)(hF:∀b,F b->b<w.heap.size)(hd:mv (fun b=>F b\/w.heap.size+4<=b) wr d):Er F w e c (bH wr (w.heap.size+3) 0 d):=by
 obtain⟨u,_,h1,_,_⟩:=h.v;obtain⟨y,hy,hy0⟩:=hd;refine⟨h.be.Ix (by omega) _ _,h.bd.Ix (by omega) _ _,⟨h.r.b.Ix (by omega) _ _,h.r.lo,af h.r.bel (by omega) _ _⟩,d,y,h1.putV d,hy.Il fun b hb _=>⟨hb,bO ?_⟩,hy0⟩;rcases hb with hb|hb
 ·have:=hF b hb;omega
 ·omega
def um(F:Nat->Prop)(w:World)(d:VC):Prop:=∃y:aC,RV F w d y/\gB y
section
variable {F G:Nat->Prop} {w w':World} {d:VC}
theorem um.keep(h:um F w d)(hk:∀b,F b->w'.heap[b]?=w.heap[b]?):um F w' d:=by obtain⟨y,h1,h2⟩:=h;exact⟨y,h1.keep hk,h2⟩
theorem um.step(h:um F w d)(hb:Below w.heap.size w w'):um F w' d:=by obtain⟨y,h1,h2⟩:=h;exact⟨y,h1.step hb,h2⟩
theorem um.alloc(h:um F w d)(o:Obj):um F (w.alloc o) d:=h.step ((Ju _ _).alloc (qL) o)
theorem um.mono(h:um F w d)(hk:∀b,F b->G b):um G w d:=by obtain⟨y,h1,h2⟩:=h;exact⟨y,h1.mono hk,h2⟩
theorem CR.lt{e:Ending}(h:CR F w e w'):∃c9:VC,e=.returned c9.val/\um (fun b=>(F b\/w.heap.size<=b)/\b<w'.heap.size) w' c9/\Below w.heap.size w w':=by
 obtain⟨d,y,h1,h2,h3,h4⟩:=h;exact⟨d,h1,⟨y,h2.lt,h3⟩,h4⟩
end
theorem eC.Jb{F:Nat->Prop}{w w3 wq w4 wc:World}{g go base m cap B:Nat}{A:Option Addr}{ps:List PV}(h:eC F w g go base A m cap ps w3)(LB:Below B wc w3)(hB:B<=go)(hc:B<=wc.heap.size)(hwq:Below w3.heap.size w3 wq)(hg:wq.grownBy w4 (Value.slice A m cap).ownBlock)(u:Value):Below B wc (w4.setCell ⟨go,3,none⟩ u):=by
 have h1:Below B wc wq:=LB.Ih hwq (KM hc (qL));have h2:=h.g2;exact(h1.grown hg (KM hc h1.size) (fun k hk=>by have:=bF h.own k hk;omega)).setCell hB _
theorem xG(k:Nat)(IH:CS k)(e:dI)(x:aC)(c:VC)(A:Option Addr)(n cc:Nat)(fs:List PF)(F:Nat->Prop)(w0 w:World)(hF0:∀b,b<w0.heap.size->F b)(hF:∀b,F b->b<w.heap.size)(hw0:Below w0.heap.size w0 w)(hX:WX w0 e)(hk2:e.kn=2)(hG:∀q∈e.kids,mX k q)(hx:RV F w c x)(hok:gB x)(hV:AD F w A n cc fs)(hn:n+k+1<=100):
 Calls prog 210 #[dL e,c.val,.slice A n cc] w (dh F w):=by
 obtain⟨i0,hi0,hz0,hz1,hz2⟩:=LM xF;obtain⟨j0,hj0,hy0,hy1,hy2⟩:=LM dC;have HFH:=qD hF;have HF0:=qD hF0;have HW0:=qD hw0;have HX:=qD hx;have HOK:=qD hok;have HV:=qD hV;have HNS:Hid (e.name.size<=aH):=qD hX.open.nsz;have hn0:n<=100:=by omega
 obtain⟨kb,ko,q0,hA0,hkb,-,hm0,hrg0⟩:=hX.open.sr.row (i:=0) (by omega);obtain⟨kb',ko',q1,hA1,-,-,hm1,hrg1⟩:=hX.open.sr.row (i:=1) (by omega);rw[hA0] at hA1;injection hA1 with hA1
 injection hA1 with hA11 hA12
 subst hA11 hA12;rw[show ko+0*11=ko by omega] at hrg0;rw[show ko+1*11=ko+11 by omega] at hrg1;have RG0:=qD hrg0;have RG1:=qD hrg1;have HKB:=qD hkb;have HKA:=qD hA0;have H0:Hid (WX w0 q0/\mX k q0):=qD ⟨hX.open.kids q0 hm0,hG q0 hm0⟩;have H1:Hid (WX w0 q1/\mX k q1):=qD ⟨hX.open.kids q1 hm1,hG q1 hm1⟩;have HIH:=qD IH;have HNK:=qD hn;have kl0:(0:Int)<(e.kn:Int):=by omega
 have kl1:(1:Int)<(e.kn:Int):=by omega
 have kl2:0<e.kn:=by omega
 have kl3:1<e.kn:=by omega
 have I0:Hid (aG (((w.alloc (.cells (aN e) 35)).alloc (.cells c.arr 29)).alloc (.cells VC.zero.arr 29)) w.heap.size 35 (aN e)/\aG (((w.alloc (.cells (aN e) 35)).alloc (.cells c.arr 29)).alloc (.cells VC.zero.arr 29)) (w.heap.size+1) 29 c.arr/\eZ w (w.heap.size+1+1) (((w.alloc (.cells (aN e) 35)).alloc (.cells c.arr 29)).alloc (.cells VC.zero.arr 29))):=qD ⟨((aG.Ii rfl).alloc _).alloc _,(aG.Ii (by simp)).alloc _,aG.Ii (by simp),by omega,(((Ju _ _).alloc (qL) _).alloc (by simp) _).alloc (by simp;omega) _⟩;clear hF hF0 hw0 hX hx hok hV hG IH hrg0 hrg1 hA0 hm0 hm1 hkb hk2;go_enter func210,ntmps210;go_upto_region 1 with fail
 change Code.wp _ _ _ _ (((w.alloc (.cells (aN e) 35)).alloc (.cells c.arr 29)).alloc (.cells VC.zero.arr 29));generalize (((w.alloc (.cells (aN e) 35)).alloc (.cells c.arr 29)).alloc (.cells VC.zero.arr 29))=wa at*;have BE:=qD I0.out.1;have BD:=qD I0.out.2.1;have J:=qD I0.out.2.2;clear I0;have HFU:Hid (∀b,F b->b<wa.heap.size):=qD fun b hb=>by have:=HFH.out b hb;have:=J.out.bel.size;omega
 have HCELL:Hid (∀w',aG w' w.heap.size 35 (aN e)->aG w' (w.heap.size+1) 29 c.arr->w'.cell? ⟨w.heap.size,10,none⟩=some (.slice (some ⟨kb,ko,none⟩) e.kn e.kc)/\w'.cell? ⟨w.heap.size+1,0,none⟩=some (.int .i64 c.k)/\w'.cell? ⟨w.heap.size+1,1,none⟩=some (.int .i64 c.n)/\w'.cell? ⟨w.heap.size+1,2,none⟩=some (.string c.t)/\w'.cell? ⟨w.heap.size+1,3,none⟩=some (.slice c.LA c.ln c.lc)/\w'.cell? ⟨w.heap.size+1,4,none⟩=some (.slice c.DA c.dn c.dc)):=qD fun w' h1 h2=>by
  have e6:=(ag h1).d10;rw[HKA.out] at e6;obtain⟨a0,a1,a2,a3,a4⟩:=aS.Ig h2;simp only[Jw] at a1 a2 a3 a4;exact⟨e6,a0,a1,a2,a3,a4⟩
 have KC:Hid (∀w',Below wa.heap.size wa w'->(Instr.loadAt 35 (.pointer (some ⟨kb,ko,none⟩))).run prog w'=.ok (.agg (dO q0).toArray) w'/\w'.cell? ⟨w.heap.size,10,none⟩=some (.slice (some ⟨kb,ko,none⟩) e.kn e.kc)/\w'.cell? ⟨w.heap.size+1,0,none⟩=some (.int .i64 c.k)/\w'.cell? ⟨w.heap.size+1,1,none⟩=some (.int .i64 c.n)/\w'.cell? ⟨w.heap.size+1,2,none⟩=some (.string c.t)/\w'.cell? ⟨w.heap.size+1,3,none⟩=some (.slice c.LA c.ln c.lc)/\w'.cell? ⟨w.heap.size+1,4,none⟩=some (.slice c.DA c.dn c.dc)):=qD fun w' hb=>
  ⟨MZ w' kb ko 35 (dO q0) _ (bD RG0.out (HW0.out.Ih (J.out.bel.Ih hb)) HKB.out) Kw rfl (by kernel_rfl),HCELL.out w' (BE.out.step hb) (BD.out.step hb)⟩
 have HGV:Hid (∀wq,Below wa.heap.size wa wq->Calls prog 159 #[.agg (dO q0).toArray,c.val,.slice A n cc] wq fun e w'=>∃c9:VC,e=.returned c9.val/\um (fun b=>(F b\/wq.heap.size<=b)/\b<w'.heap.size) w' c9/\Below wq.heap.size wq w'):=qD fun wq hq=>
  (HIH.out q0 x c A n cc fs F w0 wq HF0.out (fun b hb=>by have:=HFU.out b hb;have:=hq.size;omega) (HW0.out.Ih (J.out.bel.Ih hq)) H0.out.1 H0.out.2 (HX.out.step (J.out.bel.Ih hq)) HOK.out (HV.out.step (J.out.bel.Ih hq)) (by have:=HNK.out;omega)).mono fun _ _ h=>h.lt
 go_cut [7] (fun v7 wx=>∃(g9:Nat) (c9:VC),v7=.pointer (some ⟨g9,0,none⟩)/\aG wx g9 29 c9.arr/\um (fun b=>F b\/(wa.heap.size<=b/\b≠g9)) wx c9/\wa.heap.size<=g9/\Below wa.heap.size wa wx)
 case first=>as_aux_lemma=>
  refine Kn ?_;refine Kg (S:=(fun w'=>(Instr.loadAt 35 (.pointer (some ⟨kb,ko,none⟩))).run prog w'=.ok (.agg (dO q0).toArray) w'/\w'.cell? ⟨w.heap.size,10,none⟩=some (.slice (some ⟨kb,ko,none⟩) e.kn e.kc)/\w'.cell? ⟨w.heap.size+1,0,none⟩=some (.int .i64 c.k)/\w'.cell? ⟨w.heap.size+1,1,none⟩=some (.int .i64 c.n)/\w'.cell? ⟨w.heap.size+1,2,none⟩=some (.string c.t)/\w'.cell? ⟨w.heap.size+1,3,none⟩=some (.slice c.LA c.ln c.lc)/\w'.cell? ⟨w.heap.size+1,4,none⟩=some (.slice c.DA c.dn c.dc))) (by kernel_rfl) ?_ (fun hHeld=>?_)
  ·(try dsimp only);exact KC.out _ ((Ju _ _).drew)
  have B:Hid (Below wa.heap.size wa wa.drew):=qD ((Ju wa.heap.size wa).drew);generalize wa.drew=W0 at*;have h0:wa.heap.size<=W0.heap.size:=B.out.size;refine rV 0 rfl ?_
  try go_frame
  refine rV 1 rfl ?_
  try go_frame
  refine rV 2 rfl ?_
  try go_frame
  refine rT (v:=.agg (dO q0).toArray) 3 rfl (fun w' hSw=>bL (p:=.pointer (some ⟨kb,ko,none⟩)) rfl rfl hSw.1) ?_
  try go_frame
  refine rV 4 rfl ?_
  try go_frame
  refine rV 5 rfl ?_
  try go_frame
  refine rR [6,7] ?_;refine rC (fun K hK=>?_) (rC (fun K hK=>?_) rN)
  ·go_simp;refine(HGV.out _ B.out).mono ?_;rintro e9 W1 ⟨c9,rfl,hr,hb⟩;have R9:=qD hr;replace B:=qD (B.out.Ih hb);clear hb hr
   (try go_wp2_with fail)
   clear hHeld;refine hK.out _ _ (KC.out _ B.out) fun hHeld=>?_;clear hK K
   try go_frame
   refine rY 7 rfl fun K hK=>?_;go_simp;have hg9:wa.heap.size<=W1.heap.size:=B.out.size;have Q9:Hid (aG (W1.alloc (.cells VC.zero.arr 29)) W1.heap.size 29 VC.zero.arr):=aG.Ii rfl;replace R9:=qD (R9.out.alloc (.cells VC.zero.arr 29));replace B:=qD (B.out.alloc B.out.size (Obj.cells VC.zero.arr 29));change K _ (W1.alloc (.cells VC.zero.arr 29));generalize W1.alloc (.cells VC.zero.arr 29)=W2 at*;generalize W1.heap.size=g9 at*;have lg:g9<W2.heap.size:=Q9.out.lt;clear hHeld;refine hK.out _ _ (KC.out _ B.out) fun hHeld=>?_;clear hK K
   try go_frame
   refine rY 8 rfl fun K hK=>?_;obtain⟨z0,z1,z2,z3,z4⟩:=aS.Ig Q9.out;simp only[Jw] at z0 z1 z2 z3 z4;have zz:=Q9.out.frozen;have lq:=Q9.out.lt;go_simp;have R9':=qD ((R9.out.keep (w':=bH W2 g9 0 c9) fun b hb=>bO (by rcases hb with⟨hb|hb,hl⟩;(have:=HFU.out b hb;omega);omega)).mono (G:=fun b=>F b\/(wa.heap.size<=b/\b≠g9)) fun b hb=>by rcases hb with⟨hb|hb,hl⟩;exact .inl hb;exact .inr ⟨by omega,by omega⟩);have Q9':=qD (Q9.out.putV c9);have B':=qD (af B.out hg9 0 c9);clear z0 z1 z2 z3 z4 zz lq R9 Q9 B;have R9:=R9';have Q9:=Q9';have B:=B';clear R9' Q9' B';change K _ (bH W2 g9 0 c9);generalize bH W2 g9 0 c9=W3 at*;clear hHeld;refine hK.out _ _ (KC.out _ B.out) fun hHeld=>?_;clear hK K
   try go_frame
   refine rD ?_ _;refine Kq ?_;go_wp2_with fail;go_meet;exact⟨g9,c9,rfl,Q9.out,R9.out,by omega,B.out⟩
  ·go_simp;have hg9:wa.heap.size<=W0.heap.size:=B.out.size;have Q9:Hid (aG (W0.alloc (.cells VC.zero.arr 29)) W0.heap.size 29 VC.zero.arr):=aG.Ii rfl;replace B:=qD (B.out.alloc B.out.size (Obj.cells VC.zero.arr 29));change K _ (W0.alloc (.cells VC.zero.arr 29));generalize W0.alloc (.cells VC.zero.arr 29)=W1 at*;generalize W0.heap.size=g9 at*;have lg:g9<W1.heap.size:=Q9.out.lt;clear hHeld;refine hK.out _ _ (KC.out _ B.out) fun hHeld=>?_;clear hK K
   try go_frame
   refine rY 6 rfl fun K hK=>?_;go_simp;refine(HGV.out _ B.out).mono ?_;rintro e9 W2 ⟨c9,rfl,hr,hb⟩;have R9:=qD hr;replace Q9:=qD (Q9.out.step hb);replace B:=qD (B.out.Ih hb);clear hb hr
   (try go_wp2_with fail)
   clear hHeld;refine hK.out _ _ (KC.out _ B.out) fun hHeld=>?_;clear hK K
   try go_frame
   refine rY 8 rfl fun K hK=>?_;obtain⟨z0,z1,z2,z3,z4⟩:=aS.Ig Q9.out;simp only[Jw] at z0 z1 z2 z3 z4;have zz:=Q9.out.frozen;have lq:=Q9.out.lt;go_simp;have R9':=qD ((R9.out.keep (w':=bH W2 g9 0 c9) fun b hb=>bO (by rcases hb with⟨hb|hb,hl⟩;(have:=HFU.out b hb;omega);omega)).mono (G:=fun b=>F b\/(wa.heap.size<=b/\b≠g9)) fun b hb=>by rcases hb with⟨hb|hb,hl⟩;exact .inl hb;exact .inr ⟨by omega,by omega⟩);have Q9':=qD (Q9.out.putV c9);have B':=qD (af B.out hg9 0 c9);clear z0 z1 z2 z3 z4 zz lq R9 Q9 B;have R9:=R9';have Q9:=Q9';have B:=B';clear R9' Q9' B';change K _ (bH W2 g9 0 c9);generalize bH W2 g9 0 c9=W3 at*;clear hHeld;refine hK.out _ _ (KC.out _ B.out) fun hHeld=>?_;clear hK K
   try go_frame
   refine rD ?_ _;refine Kq ?_;go_wp2_with fail;go_meet;exact⟨g9,c9,rfl,Q9.out,R9.out,by omega,B.out⟩
 case rest=>
  obtain⟨g9,c9,rfl,hg9,hr9,hl9,hb9⟩:=hcut;generalize wc=wz at*;replace BE:=qD (BE.out.step hb9);replace BD:=qD (BD.out.step hb9);have jlt:=J.out.b.lt;replace J:=qD (J.out.step hb9);have G9:=qD hg9;have hgl:=hg9.lt;obtain⟨y,hry,hyo⟩:=hr9;have HYO:=qD hyo;have HYK:Hid (c9.k=y.k):=qD hry.open.k;obtain⟨F2,hF2⟩:∃F2:Nat->Prop,F2=fun b=>F b\/(wa.heap.size<=b/\b≠g9/\b<wz.heap.size):=⟨_,rfl⟩;have HF2:=qD hF2
  have hry2:RV F2 wz c9 y:=by
   rw[hF2];exact hry.lt.mono fun b hb=>hb.1.imp id fun h=>⟨h.1,h.2,hb.2⟩
  have hln:c9.ln<=1024:=by have:=hry2.open.ln;have:=hyo.len.2.1;omega
  obtain⟨rs,hrs,hsl⟩:=RV.sl hry2;have HSL:=qD hsl;have HRS:=qD hrs;have HWC:=qD (HW0.out.Ih J.out.bel);have HXC:=qD (HX.out.step J.out.bel);have HVC:=qD (HV.out.step J.out.bel);have hwa:w.heap.size+1+1<wa.heap.size:=jlt;have hwz:wa.heap.size<=wz.heap.size:=hb9.size;clear HGV KC hg9 hb9 hry hyo hry2 hrs hsl hF2 jlt HX HV HFU;obtain⟨g0,g1,g2,g3,g4⟩:=aS.Ig G9.out;simp only[Jw] at g0 g1 g2 g3 g4;cases h6:(c9.k != 6);rotate_left
  ·go_wp2_with (go_at_call 34;refine(bm _).mono ?_;rintro e w2 ⟨k,n,t,rfl,ht,hk,hb⟩;replace J:=qD (J.out.step hb);have HT:=qD ht;have HK:=qD hk;clear hb ht hk;obtain⟨b0,b1,b2,b3,b4⟩:=aS.Ig J.out.b;simp only[Jw] at b0 b1 b2 b3 b4;have z:=J.out.b.frozen);exact Jz (aF rfl _ _ _ rfl _ (bG k n t) (aS.Ig (J.out.b.putV (bG k n t)))) rfl (J.out.leaf k n HT.out HK.out).a
  have HF2U:Hid (∀b,F2 b->b<wz.heap.size/\b≠w.heap.size+1+1):=qD fun b hb=>by
   rw[HF2.out] at hb;rcases hb with hb|hb
   ·have:=HFH.out b hb;omega
   ·omega
  have HF2O:Hid (∀b,F2 b->F b\/w.heap.size<=b):=qD fun b hb=>by
   rw[HF2.out] at hb;exact hb.imp id fun h=>by omega
  go_upto_region 6 with fail
  have I0:Hid (eC F2 w (w.heap.size+1+1) wz.heap.size (wz.heap.size+1) none 0 0 [] (wz.alloc (.cells #[.int .i64 6,.int .i64 0,.string empty,.slice none 0 0,.slice none 0 0] 29))):=qD (eC.start J.out HF2U.out);have LB0:=qD ((Ju wz.heap.size wz).alloc (qL) (Obj.cells #[.int .i64 6,.int .i64 0,.string empty,.slice none 0 0,.slice none 0 0] 29));change Code.wp _ _ _ _ (wz.alloc (.cells #[.int .i64 6,.int .i64 0,.string empty,.slice none 0 0,.slice none 0 0] 29));generalize wz.alloc (.cells #[.int .i64 6,.int .i64 0,.string empty,.slice none 0 0,.slice none 0 0] 29)=wb at*;clear g0 g1 g2 g3 g4 J
  go_loopw [9,10,11] (fun v9 _ _ wr=>∃(i m:Nat) (A4:Option Addr) (cap:Nat) (qs:List PV),i<=c9.ln/\m<=i/\v9=.int .i64 i/\Below wz.heap.size wz wr/\eC F2 w (w.heap.size+1+1) wz.heap.size (wz.heap.size+1) A4 m cap qs wr) (fun v9 _ _ _=>c9.ln-(intOf v9).toNat)
  ·exact⟨0,0,none,0,[],KD _,qL,rfl,LB0.out,I0.out⟩
  case round=>
   obtain⟨i,m,A4,cap,qs,hi,hmi,rfl,hL,hI⟩:=hrel;have LB:=qD hL;have I:=qD hI;clear LB0 I0 hL hI;obtain⟨g0,g1,g2,g3,g4⟩:=aS.Ig (G9.out.step LB.out);simp only[Jw] at g0 g1 g2 g3 g4;by_cases hlt:i<c9.ln
   ·obtain⟨eb,eo,hLA,hlb,hel⟩:=HSL.out.Jj (by omega);obtain⟨p,hpi,hva,hrv⟩:=hel i hlt;have HPO:=qD (HYO.out.el (by rw[<-HRS.out];exact Ko (Jx hpi)));have HVA:=qD hva;have HRV:=qD hrv;have HLA:=qD hLA;have i1:(0:Int)<=(i:Int):=by omega
    have i2:(i:Int)<(c9.ln:Int):=by omega
    have HRD:=qD ((HVC.out.sr.step LB.out).reads jp (by decide));have hbs:=I.out.bs;clear hel hva hrv hpi hLA;go_wp2_with (at_builtin;refine aJ _ rfl _ _ 219 rfl wr.heap.size 222 i0 (.agg (#[.string empty]++VC.zero.arr)) 6 96 underlying219 hi0 hz0 hz1 hz2 rfl (by decide) (.slice none 0 0) 0 [] rfl (bX _ _ _ _) _ A n cc (aO cX fs) rfl HRD.out (fy iZ fs) (by unfold maxLen;omega) (by omega) (qL) ?_);intro v1 w2 hown1 hgr1 _;have B2:=qD ((Ju wr.heap.size wr).grown hgr1 (qL) (fun k hk=>by simp[Value.ownBlock] at hk));obtain⟨A1,c1,rfl,hc1⟩:=cK hown1;have HO1:=qD hown1;have LB2:Hid (Below wz.heap.size wz w2):=qD (LB.out.Ih B2.out);clear hown1 hgr1 g0 g1 g2 g3 g4;obtain⟨g0,g1,g2,g3,g4⟩:=aS.Ig (G9.out.step LB2.out);obtain⟨y0,y1,y2,y3,y4⟩:=HVA.out.step LB2.out;have d2:=(ag (BE.out.step LB2.out)).d2;simp only[Jw] at g0 g1 g2 g3 g4;rw[HLA.out] at g3;have hw2:wr.heap.size<=w2.heap.size:=B2.out.size;go_upto_region 10 with fail
    go_region_law (refine bW _ rfl (.tmp 34) (.tmp 43) 219 rfl wr.heap.size 222 i0 (.agg (#[.string empty]++VC.zero.arr)) 6 96 underlying219 hi0 hz0 hz1 hz2 rfl (by decide) (.slice A1 n c1) n (aO cX fs) (by simp[Act.eval]) ((HO1.out.alloc _).drew) (w2.heap.size+1) (some ⟨w2.heap.size,0,none⟩) 1 1 (cX (p.1,.mk e.name p.2)) (by simp[Act.eval]) ⟨rfl,fun _=>⟨_,rfl,by simp,ao _ _ _⟩⟩ (iZ _) (by simp only[maxLen];omega) (by omega) (by simp;omega) ?_;intro v3 wi hown3 hgr3 hat3)
    all_goals
     have B3:=qD (((B2.out.alloc B2.out.size _).drew).grown hgr3 (by simp;omega) (fun k hk=>bF HO1.out k hk));have hown4:wi.ownsRow wr.heap.size 222 6 v3 (n+1) (aO cX (fs++[(p.1,.mk e.name p.2)])):=by rw[cw];exact hown3
     obtain⟨A3,c3,rfl,hsr3⟩:=SR.Ik jp hown4 (by rw[KV];have:=HVC.out.sr.ln;simp;omega);have LB3:Hid (Below wz.heap.size wz wi):=qD (LB.out.Ih B3.out)
     have HV3:Hid (AD F2 wi A3 (n+1) c3 (fs++[(p.1,.mk e.name p.2)])):=qD ⟨hsr3,fun q hq=>by
      rcases KI.1 hq with hq|hq
      ·exact((HVC.out.rv q hq).step LB3.out).mono fun b hb=>by rw[HF2.out];exact .inl hb
      ·rw[Kf.1 hq];exact HRV.out.step LB3.out,fun q hq=>by
      rcases KI.1 hq with hq|hq
      ·exact HVC.out.ok q hq
      ·rw[Kf.1 hq];exact HPO.out,fun q hq=>by
      rcases KI.1 hq with hq|hq
      ·exact HVC.out.ns q hq
      ·rw[Kf.1 hq];exact HNS.out⟩
     clear hown3 hgr3 hat3 hown4 hsr3 g0 g1 g2 g3 g4 y0 y1 y2 y3 y4 d2 B2 HO1 LB2 hw2;have hwi:wz.heap.size<=wi.heap.size:=LB3.out.size;have HFU:Hid (∀b,F2 b->b<wi.heap.size):=qD fun b hb=>by have:=(HF2U.out b hb).1;omega
     have KC:Hid (∀w',Below wi.heap.size wi w'->(Instr.loadAt 35 (.pointer (some ⟨kb,ko+11,none⟩))).run prog w'=.ok (.agg (dO q1).toArray) w'/\w'.cell? ⟨w.heap.size,10,none⟩=some (.slice (some ⟨kb,ko,none⟩) e.kn e.kc)/\w'.cell? ⟨w.heap.size+1,0,none⟩=some (.int .i64 c.k)/\w'.cell? ⟨w.heap.size+1,1,none⟩=some (.int .i64 c.n)/\w'.cell? ⟨w.heap.size+1,2,none⟩=some (.string c.t)/\w'.cell? ⟨w.heap.size+1,3,none⟩=some (.slice c.LA c.ln c.lc)/\w'.cell? ⟨w.heap.size+1,4,none⟩=some (.slice c.DA c.dn c.dc)):=qD fun w' hb=>
      ⟨MZ w' kb (ko+11) 35 (dO q1) _ (bD RG1.out (HWC.out.Ih (LB3.out.Ih hb)) HKB.out) Kw rfl (by kernel_rfl),HCELL.out w' (BE.out.step (LB3.out.Ih hb)) (BD.out.step (LB3.out.Ih hb))⟩
     have HGV:Hid (∀wq,Below wi.heap.size wi wq->Calls prog 159 #[.agg (dO q1).toArray,c.val,.slice A3 (n+1) c3] wq fun e w'=>∃c9:VC,e=.returned c9.val/\um (fun b=>(F2 b\/wq.heap.size<=b)/\b<w'.heap.size) w' c9/\Below wq.heap.size wq w'):=qD fun wq hq=>
      (HIH.out q1 x c A3 (n+1) c3 _ F2 w0 wq (fun b hb=>by rw[HF2.out];exact .inl (HF0.out b hb)) (fun b hb=>by have:=HFU.out b hb;have:=hq.size;omega) (HWC.out.Ih (LB3.out.Ih hq)) H1.out.1 H1.out.2 ((HXC.out.step (LB3.out.Ih hq)).mono fun b hb=>by rw[HF2.out];exact .inl hb) HOK.out (HV3.out.step hq) (by have:=HNK.out;omega)).mono fun _ _ h=>h.lt
     go_upto_region 11 with fail
     (try go_simp)
     try go_frame
     go_cut [11] (fun v11 wx=>∃(g9:Nat) (c9:VC),v11=.pointer (some ⟨g9,0,none⟩)/\aG wx g9 29 c9.arr/\um (fun b=>F2 b\/(wi.heap.size<=b/\b≠g9)) wx c9/\wi.heap.size<=g9/\Below wi.heap.size wi wx)
     case first=>as_aux_lemma=>
      refine Kn ?_;refine Kg (S:=(fun w'=>(Instr.loadAt 35 (.pointer (some ⟨kb,ko+11,none⟩))).run prog w'=.ok (.agg (dO q1).toArray) w'/\w'.cell? ⟨w.heap.size,10,none⟩=some (.slice (some ⟨kb,ko,none⟩) e.kn e.kc)/\w'.cell? ⟨w.heap.size+1,0,none⟩=some (.int .i64 c.k)/\w'.cell? ⟨w.heap.size+1,1,none⟩=some (.int .i64 c.n)/\w'.cell? ⟨w.heap.size+1,2,none⟩=some (.string c.t)/\w'.cell? ⟨w.heap.size+1,3,none⟩=some (.slice c.LA c.ln c.lc)/\w'.cell? ⟨w.heap.size+1,4,none⟩=some (.slice c.DA c.dn c.dc))) (by kernel_rfl) ?_ (fun hHeld=>?_)
      ·(try dsimp only);exact KC.out _ ((Ju _ _).drew)
      have B:Hid (Below wi.heap.size wi wi.drew):=qD ((Ju wi.heap.size wi).drew);generalize wi.drew=W0 at*;have h0:wi.heap.size<=W0.heap.size:=B.out.size;refine rV 0 rfl ?_
      try go_frame
      refine rV 1 rfl ?_
      try go_frame
      refine rV 2 rfl ?_
      try go_frame
      refine rT (v:=.agg (dO q1).toArray) 3 rfl (fun w' hSw=>bL (p:=.pointer (some ⟨kb,ko+11,none⟩)) rfl rfl hSw.1) ?_
      try go_frame
      refine rV 4 rfl ?_
      try go_frame
      refine rV 5 rfl ?_
      try go_frame
      refine rR [6,7] ?_;refine rC (fun K hK=>?_) (rC (fun K hK=>?_) rN)
      ·go_simp;refine(HGV.out _ B.out).mono ?_;rintro e9 W1 ⟨c9,rfl,hr,hb⟩;have R9:=qD hr;replace B:=qD (B.out.Ih hb);clear hb hr
       (try go_wp2_with fail)
       clear hHeld;refine hK.out _ _ (KC.out _ B.out) fun hHeld=>?_;clear hK K
       try go_frame
       refine rY 7 rfl fun K hK=>?_;go_simp;have hg9:wi.heap.size<=W1.heap.size:=B.out.size;have Q9:Hid (aG (W1.alloc (.cells VC.zero.arr 29)) W1.heap.size 29 VC.zero.arr):=aG.Ii rfl;replace R9:=qD (R9.out.alloc (.cells VC.zero.arr 29));replace B:=qD (B.out.alloc B.out.size (Obj.cells VC.zero.arr 29));change K _ (W1.alloc (.cells VC.zero.arr 29));generalize W1.alloc (.cells VC.zero.arr 29)=W2 at*;generalize W1.heap.size=g9 at*;have lg:g9<W2.heap.size:=Q9.out.lt;clear hHeld;refine hK.out _ _ (KC.out _ B.out) fun hHeld=>?_;clear hK K
       try go_frame
       refine rY 8 rfl fun K hK=>?_;obtain⟨z0,z1,z2,z3,z4⟩:=aS.Ig Q9.out;simp only[Jw] at z0 z1 z2 z3 z4;have zz:=Q9.out.frozen;have lq:=Q9.out.lt;go_simp;have R9':=qD ((R9.out.keep (w':=bH W2 g9 0 c9) fun b hb=>bO (by rcases hb with⟨hb|hb,hl⟩;(have:=HFU.out b hb;omega);omega)).mono (G:=fun b=>F2 b\/(wi.heap.size<=b/\b≠g9)) fun b hb=>by rcases hb with⟨hb|hb,hl⟩;exact .inl hb;exact .inr ⟨by omega,by omega⟩);have Q9':=qD (Q9.out.putV c9);have B':=qD (af B.out hg9 0 c9);clear z0 z1 z2 z3 z4 zz lq R9 Q9 B;have R9:=R9';have Q9:=Q9';have B:=B';clear R9' Q9' B';change K _ (bH W2 g9 0 c9);generalize bH W2 g9 0 c9=W3 at*;clear hHeld;refine hK.out _ _ (KC.out _ B.out) fun hHeld=>?_;clear hK K
       try go_frame
       refine rD ?_ _;refine Kq ?_;go_wp2_with fail;go_meet;exact⟨g9,c9,rfl,Q9.out,R9.out,by omega,B.out⟩
      ·go_simp;have hg9:wi.heap.size<=W0.heap.size:=B.out.size;have Q9:Hid (aG (W0.alloc (.cells VC.zero.arr 29)) W0.heap.size 29 VC.zero.arr):=aG.Ii rfl;replace B:=qD (B.out.alloc B.out.size (Obj.cells VC.zero.arr 29));change K _ (W0.alloc (.cells VC.zero.arr 29));generalize W0.alloc (.cells VC.zero.arr 29)=W1 at*;generalize W0.heap.size=g9 at*;have lg:g9<W1.heap.size:=Q9.out.lt;clear hHeld;refine hK.out _ _ (KC.out _ B.out) fun hHeld=>?_;clear hK K
       try go_frame
       refine rY 6 rfl fun K hK=>?_;go_simp;refine(HGV.out _ B.out).mono ?_;rintro e9 W2 ⟨c9,rfl,hr,hb⟩;have R9:=qD hr;replace Q9:=qD (Q9.out.step hb);replace B:=qD (B.out.Ih hb);clear hb hr
       (try go_wp2_with fail)
       clear hHeld;refine hK.out _ _ (KC.out _ B.out) fun hHeld=>?_;clear hK K
       try go_frame
       refine rY 8 rfl fun K hK=>?_;obtain⟨z0,z1,z2,z3,z4⟩:=aS.Ig Q9.out;simp only[Jw] at z0 z1 z2 z3 z4;have zz:=Q9.out.frozen;have lq:=Q9.out.lt;go_simp;have R9':=qD ((R9.out.keep (w':=bH W2 g9 0 c9) fun b hb=>bO (by rcases hb with⟨hb|hb,hl⟩;(have:=HFU.out b hb;omega);omega)).mono (G:=fun b=>F2 b\/(wi.heap.size<=b/\b≠g9)) fun b hb=>by rcases hb with⟨hb|hb,hl⟩;exact .inl hb;exact .inr ⟨by omega,by omega⟩);have Q9':=qD (Q9.out.putV c9);have B':=qD (af B.out hg9 0 c9);clear z0 z1 z2 z3 z4 zz lq R9 Q9 B;have R9:=R9';have Q9:=Q9';have B:=B';clear R9' Q9' B';change K _ (bH W2 g9 0 c9);generalize bH W2 g9 0 c9=W3 at*;clear hHeld;refine hK.out _ _ (KC.out _ B.out) fun hHeld=>?_;clear hK K
       try go_frame
       refine rD ?_ _;refine Kq ?_;go_wp2_with fail;go_meet;exact⟨g9,c9,rfl,Q9.out,R9.out,by omega,B.out⟩
     case rest=>
      obtain⟨g11,c11,rfl,hg11,hr11,hl11,hb11⟩:=hcut;have B5:=qD (B3.out.Ih hb11);have LB5:Hid (Below wz.heap.size wz wc):=qD (LB.out.Ih B5.out);have I5:=qD (I.out.step B5.out);have G11:=qD hg11;obtain⟨x5,hx5,-⟩:=hr11;have hwr:wr.heap.size<=wi.heap.size:=B3.out.size
      have HX5:Hid (RV (fun b=>(F2 b\/wz.heap.size+1<=b)/\(Value.slice A4 m cap).ownBlock≠some b) wc c11 x5):=qD (hx5.mono fun b hb=>⟨hb.imp id fun h=>by have:=I.out.bs;omega,fun e=>by
       have h1:=fH I.out.own e
       have h2:=bF I.out.own b e
       rcases hb with hb|hb
       ·have h3:=(HF2U.out b hb).1;omega
       ·omega⟩)
      clear HGV KC hx5 hg11 hb11 HFU hl11;have hs:(Value.slice A4 m cap).ownBlock≠some wz.heap.size:=gL I5.out.own (by omega);have d0:=(ag (BE.out.step LB5.out)).d0;obtain⟨x0,x1,x2,x3,x4⟩:=aS.Ig G11.out;simp only[Jw] at x0 x1 x2 x3 x4;cases h32:(e.op==32)
      ·go_wp2_with fail;refine(jL c11 _).mono ?_;rintro e6 w6 ⟨r,rfl,_,hb6⟩;have LB6:Hid (Below wz.heap.size wz w6):=qD (LB5.out.Ih hb6);have I6:=qD (I5.out.step hb6);clear d0 x0 x1 x2 x3 x4 hb6 I5 HX5 G11;cases r
       ·go_wp2_with fail;go_roundw
        ·exact⟨i+1,m,A4,cap,qs,by omega,by omega,by go_num,LB6.out,I6.out⟩
        ·simp[intOf];omega
       ·obtain⟨g0,g1,g2,g3,g4⟩:=aS.Ig (G9.out.step LB6.out);obtain⟨y0,y1,y2,y3,y4⟩:=HVA.out.step LB6.out;simp only[Jw] at g0 g1 g2 g3 g4;rw[HLA.out] at g3;have s3:=I6.out.o.cell 3;simp at s3;have hgo:wz.heap.size<w6.heap.size:=I6.out.bs;have HP6:=qD (I6.out.old (HRV.out.step LB6.out));go_upto_region 15 with fail
        go_region_law (refine bW _ rfl (.tmp 65) (.tmp 71) 26 rfl (wz.heap.size+1) 29 j0 VC.zero.val 5 80 Kv hj0 hy0 hy1 hy2 rfl (by decide) (.slice A4 m cap) m (aO bC qs) (by simp[Act.eval]) ((I6.out.own.alloc _).drew) (w6.heap.size+1) (some ⟨w6.heap.size,0,none⟩) 1 1 (bC p) (by simp[Act.eval]) ⟨rfl,fun _=>⟨_,rfl,by simp,ao _ _ _⟩⟩ (cG _) (by simp only[maxLen];omega) (by omega) (by simp;omega) ?_;intro v' w7 hown7 hgr hat;obtain⟨A7,cap7,hv7,hle7⟩:=cK hown7;rw[hv7];have f2:w7.cell? ⟨wz.heap.size,3,none⟩=some (.slice A4 m cap):=jM hgr (((I6.out.o.alloc _).drew.cell 3).trans rfl) hs;have z2:w7.frozen? ⟨wz.heap.size,3,none⟩=false:=(fh hgr (I6.out.o.alloc _).drew.lt hs).trans ((I6.out.o.alloc _).drew.frozen 3))
        all_goals
         have HI:=qD (I6.out.put (((Ju w6.heap.size w6).alloc (qL) _).drew) HP6.out hgr (by rw[<-hv7];exact hat) (by rw[<-hv7];exact hown7));have HL:=qD (I6.out.Jb LB6.out (qL) (qL) (((Ju w6.heap.size w6).alloc (qL) _).drew) hgr (.slice A7 (m+1) cap7));clear f2 z2 hgr hat hown7 hv7 g0 g1 g2 g3 g4 y0 y1 y2 y3 y4 s3 I6 LB6 HP6;generalize w7.setCell ⟨wz.heap.size,3,none⟩ (.slice A7 (m+1) cap7)=w8 at*;go_wp2_with fail;go_roundw
         ·exact⟨i+1,m+1,A7,cap7,_,by omega,by omega,by go_num,HL.out,HI.out⟩
         ·simp[intOf];omega
      ·have q3:=I5.out.o.cell 3;simp at q3;have HN:Hid (∀wq:World,Below wc.heap.size wc wq->Calls prog 258 #[c11.val] wq (dh (fun b=>((F2 b\/wz.heap.size+1<=b)/\(Value.slice A4 m cap).ownBlock≠some b)/\b<wc.heap.size) wq)):=qD fun wq hq=>pN x5 c11 wq (fun b hb=>by have:=hb.2;have:=hq.size;omega) (HX5.out.lt.step hq);go_upto_region 13 with fail
       go_region_law (first
        | (refine bW _ rfl (.tmp 56) (.tmp 59) 26 rfl (wz.heap.size+1) 29 j0 VC.zero.val 5 80 Kv hj0 hy0 hy1 hy2 rfl (by decide) (.slice A4 m cap) m (aO bC qs) (by simp[Act.eval]) (I7.out.own.alloc _) (w7.heap.size+1) (some ⟨w7.heap.size,0,none⟩) 1 1 (bC (d7,x7)) (by simp[Act.eval]) ⟨rfl,fun _=>⟨_,rfl,by simp,ao _ _ _⟩⟩ (cG _) (by simp only[maxLen];omega) (by omega) (by simp;have:=I7.out.bs;omega) ?_;intro v' w8 hown8 hgr hat;obtain⟨A8,cap8,hv8,hle8⟩:=cK hown8;rw[hv8];have f2:w8.cell? ⟨wz.heap.size,3,none⟩=some (.slice A4 m cap):=jM hgr (((I7.out.o.alloc _).cell 3).trans rfl) hs;have z2:w8.frozen? ⟨wz.heap.size,3,none⟩=false:=(fh hgr (I7.out.o.alloc _).lt hs).trans ((I7.out.o.alloc _).frozen 3))
        | (go_simp;go_at_call 258;refine(HN.out _ ((Ju _ _).drewN 1)).mono ?_;rintro e7 w7 ⟨d7,rfl,hr7,hb7⟩;replace hb7:Below wc.heap.size wc w7:=hb7.Io;obtain⟨x7,hx7,-⟩:=hr7;have I7:=qD (I5.out.step hb7);have LB7:Hid (Below wz.heap.size wz w7):=qD (LB5.out.Ih hb7);have HX7:Hid (RV (fun b=>(F2 b\/wz.heap.size+1<=b)/\(Value.slice A4 m cap).ownBlock≠some b) w7 d7 x7):=qD (hx7.mono fun b hb=>by rcases hb with hb|hb;exact hb.1;(replace hb:wc.heap.size<=b:=hb);exact⟨.inr (by have:=I5.out.bs;omega),fun e=>by have:=fH I5.out.own e;omega⟩);clear hb7 hx7;have s3:=I7.out.o.cell 3;simp at s3;have hgo:wz.heap.size<w7.heap.size:=I7.out.bs))
       all_goals
        have HI:=qD (I7.out.put ((Ju w7.heap.size w7).alloc (qL) _) HX7.out hgr (by rw[<-hv8];exact hat) (by rw[<-hv8];exact hown8));have HL:=qD (I7.out.Jb LB7.out (qL) (qL) ((Ju w7.heap.size w7).alloc (qL) _) hgr (.slice A8 (m+1) cap8));clear f2 z2 hgr hat hown8 hv8 s3 hgo q3 d0 x0 x1 x2 x3 x4 I7 LB7 HX7 I5 LB5;generalize w8.setCell ⟨wz.heap.size,3,none⟩ (.slice A8 (m+1) cap8)=w9 at*;go_wp2_with fail;go_roundw
        ·exact⟨i+1,m+1,A8,cap8,_,by omega,by omega,by go_num,HL.out,HI.out⟩
        ·simp[intOf];omega
   ·obtain rfl:i=c9.ln:=by omega
    have J:=qD I.out.r;obtain⟨o0,o1,o2,o3,o4⟩:=aS.Ig I.out.o;simp only[Jw] at o0 o1 o2 o3 o4;obtain⟨b0,b1,b2,b3,b4⟩:=aS.Ig J.out.b;simp only[Jw] at b0 b1 b2 b3 b4;have z:=J.out.b.frozen;go_wp2_with fail;exact Jz (aF rfl _ _ _ rfl _ ⟨6,0,empty,A4,m,cap,none,0,0⟩ (aS.Ig (J.out.b.putV ⟨6,0,empty,A4,m,cap,none,0,0⟩))) rfl (I.out.done (by unfold aH;omega) HF2O.out)
theorem eZ.JD{w wr:World}{F:Nat->Prop}{d:VC}{y:aC}(h:eZ w (w.heap.size+1+1) wr)(hF:∀b,F b->b<w.heap.size)(hr:RV (fun b=>F b\/w.heap.size+4<=b) wr d y)(hy:gB y):CR F w (.returned d.val) (bH wr (w.heap.size+1+1) 0 d):=
 ⟨d,y,rfl,hr.Il fun b hb _=>⟨hb.imp id fun h=>by omega,bO (by
  rcases hb with hb|hb
  ·have:=hF b hb;omega
  ·omega)⟩,hy,af h.bel h.lo 0 _⟩
theorem xH:∀k,CS k:=by
 intro k
 induction k with
 | zero=>intro e x c A n cc fs F w0 w _ _ _ _ hG;exact hG.elim
 | succ k ih=>
 intro e x c A n cc fs F w0 w hF0 hF hw0 hX hG hx hok hV hn;obtain⟨j0,hj0,hy0,hy1,hy2⟩:=LM dC;obtain⟨⟨hNA,hNV⟩,hkn,hGK⟩:=hG;have HNA:=qD hNA;have HNV:=qD hNV;have HGK:=qD hGK;have HFH:=qD hF;have HF0:=qD hF0;have HW0:=qD hw0;have HX0:=qD hX;have HX:=qD hx;have HOK:=qD hok;have HV:=qD hV;have HIH:=qD ih;have HN:=qD hn;have hn0:n<=100:=by omega
 have I0:Hid (Er F w e c ((((w.alloc (.cells (aN e) 35)).alloc (.cells c.arr 29)).alloc (.cells VC.zero.arr 29)).alloc (.cells VC.zero.arr 29))):=qD ⟨(((aG.Ii rfl).alloc _).alloc _).alloc _,((aG.Ii (by simp)).alloc _).alloc _,⟨(aG.Ii (by simp)).alloc _,by omega,((((Ju _ _).alloc (qL) _).alloc (by simp) _).alloc (by simp;omega) _).alloc (by simp;omega) _⟩,VC.zero,aC.zero,aG.Ii (by simp),RV.zero,fun _=>rfl⟩;clear hF hF0 hw0 hX hx hok hV ih hNA hNV hGK hn;go_enter func159,ntmps159;go_upto_region 2 with fail
 change Code.wp _ _ _ _ ((((w.alloc (.cells (aN e) 35)).alloc (.cells c.arr 29)).alloc (.cells VC.zero.arr 29)).alloc (.cells VC.zero.arr 29));have HW4:Hid (w.heap.size+4<=((((w.alloc (.cells (aN e) 35)).alloc (.cells c.arr 29)).alloc (.cells VC.zero.arr 29)).alloc (.cells VC.zero.arr 29)).heap.size):=qD (by simp);generalize ((((w.alloc (.cells (aN e) 35)).alloc (.cells c.arr 29)).alloc (.cells VC.zero.arr 29)).alloc (.cells VC.zero.arr 29))=wa at*;obtain⟨d0,d1,d2,d3,d9,d10⟩:=ag I0.out.be;have I:=I0;by_cases h1:e.op=1
 ·have HVA:=qD (HNV.out h1);rw[h1] at d0;clear h1;have r0:=(I.out.be.cell 4).trans rfl;have r1:=(I.out.be.cell 5).trans rfl;have r2:=(I.out.be.cell 6).trans rfl;have r3:=(I.out.be.cell 7).trans rfl;have r4:=(I.out.be.cell 8).trans rfl;obtain⟨uv,yv,hvb,hvy,hvk⟩:=I.out.v;have HVB:=qD hvb;clear hvb hvy hvk;obtain⟨v0,v1,v2,v3,v4⟩:=aS.Ig HVB.out;simp only[Jw] at v0 v1 v2 v3 v4;have zv:=HVB.out.frozen;have HRA:Hid (mv (fun b=>F b\/w.heap.size+4<=b) wa e.arg.1):=qD ⟨e.arg.2,(((HX0.out.open.arg.lt.mono fun b hb=>hb.2).step (HW0.out.Ih I.out.r.bel))).mono fun b hb=>.inl (HF0.out b hb),fun h=>absurd h (by have:=(lj HVA.out).1;omega)⟩;go_upto_region 22 with fail
  have I1:=qD (I.out.put HFH.out HRA.out);change Code.wp _ _ _ _ (bH wa (w.heap.size+3) 0 e.arg.1);clear r0 r1 r2 r3 r4 v0 v1 v2 v3 v4 zv HVB HRA d0 d1 d2 d3 d9 d10 I0 I;generalize bH wa (w.heap.size+3) 0 e.arg.1=wb at*;have I:=I1;obtain⟨u,y,hu,hy,hy0⟩:=I.out.v;have HU:=qD hu;have HY:=qD hy;have HY0:=qD hy0;have HKY:Hid (u.k=y.k):=qD hy.open.k;obtain⟨u0,u1,u2,u3,u4⟩:=aS.Ig hu;simp only[Jw] at u0 u1 u2 u3 u4;have J:=qD I.out.r;clear hu hy hy0;cases hz:(u.k != 0)
  ·obtain⟨b0,b1,b2,b3,b4⟩:=aS.Ig J.out.b;simp only[Jw] at b0 b1 b2 b3 b4;have z:=J.out.b.frozen;have HZ:Hid (y.k=0):=qD (by rw[<-HKY.out];simpa using hz);go_wp2_with fail;have q:=aS.Ig (J.out.b.putV u);refine Jz (aF rfl _ _ _ rfl _ u q) rfl ?_;exact J.out.JD HFH.out HY.out (.inl (HY0.out HZ.out))
  ·have HVD:=qD (cL y u _ (HY.out.mono fun _ _=>trivial));obtain⟨b,hb⟩:∃b,aL y=b:=⟨_,rfl⟩;have HB:=qD hb;rw[hb] at HVD;clear hb;cases b
   ·go_wp2_with (first
     | (go_at_call 8;refine HVD.out.mono ?_;rintro e2 w2 ⟨rfl,hb⟩;replace J:=qD (J.out.step hb);clear hb)
     | (go_at_call 34;refine(gm _).mono ?_;rintro e3 w3 ⟨rfl,hb⟩;replace J:=qD (J.out.step hb);clear hb;obtain⟨b0,b1,b2,b3,b4⟩:=aS.Ig J.out.b;simp only[Jw] at b0 b1 b2 b3 b4;have z:=J.out.b.frozen))
    have q:=aS.Ig (J.out.b.putV gA);refine Jz (aF rfl _ _ _ rfl _ gA q) rfl ?_;exact J.out.JD HFH.out ku (.inr Gb)
   ·go_wp2_with (go_at_call 8;refine HVD.out.mono ?_;rintro e2 w2 ⟨rfl,hb⟩;replace J:=qD (J.out.step hb);have HU2:=qD (HU.out.step hb);have HY2:=qD (HY.out.step hb);clear hb u0 u1 u2 u3 u4;obtain⟨u0,u1,u2,u3,u4⟩:=aS.Ig HU2.out;simp only[Jw] at u0 u1 u2 u3 u4;obtain⟨b0,b1,b2,b3,b4⟩:=aS.Ig J.out.b;simp only[Jw] at b0 b1 b2 b3 b4;have z:=J.out.b.frozen);have q:=aS.Ig (J.out.b.putV u);refine Jz (aF rfl _ _ _ rfl _ u q) rfl ?_;exact J.out.JD HFH.out HY2.out (.inr HB.out)
 by_cases h2:e.op=2
 ·rw[h2] at d0;obtain⟨a0,a1,a2,a3,a4⟩:=aS.Ig I.out.bd;simp only[Jw] at a1 a2 a3 a4;have HAT:=qD (ui x F e.path.xs c e.path.A e.path.n e.path.c wa (fun b hb=>by have:=HFH.out b hb;have:=I.out.r.bel.size;omega) (HX.out.step I.out.r.bel) HOK.out (HX0.out.open.path.step (HW0.out.Ih I.out.r.bel)));go_upto_region 22 with(go_at_call 209;refine HAT.out.mono ?_;rintro e2 w2 ⟨d,rfl,hr,hb⟩;have hlt:=I.out.v;have HRD:Hid (mv (fun b=>F b\/w.heap.size+4<=b) w2 d):=qD (hr.mono fun b hb=>hb.imp id fun h=>by obtain⟨_,_,hh,_⟩:=hlt;have:=hh.lt;omega);replace I:=qD (I.out.step hb);clear hb hr hlt a0 a1 a2 a3 a4 d1;obtain⟨uv,yv,hvb,hvy,hvk⟩:=I.out.v;have HVB:=qD hvb;clear hvb hvy hvk;obtain⟨v0,v1,v2,v3,v4⟩:=aS.Ig HVB.out;simp only[Jw] at v0 v1 v2 v3 v4;have zv:=HVB.out.frozen)
  have I1:=qD (I.out.put HFH.out HRD.out);change Code.wp _ _ _ _ (bH w2 (w.heap.size+3) 0 d);clear v0 v1 v2 v3 v4 zv HVB HRD d0 I0 I HAT;generalize bH w2 (w.heap.size+3) 0 d=wb at*;have I:=I1;obtain⟨u,y,hu,hy,hy0⟩:=I.out.v;have HU:=qD hu;have HY:=qD hy;have HY0:=qD hy0;have HKY:Hid (u.k=y.k):=qD hy.open.k;obtain⟨u0,u1,u2,u3,u4⟩:=aS.Ig hu;simp only[Jw] at u0 u1 u2 u3 u4;have J:=qD I.out.r;clear hu hy hy0;cases hz:(u.k != 0)
  ·obtain⟨b0,b1,b2,b3,b4⟩:=aS.Ig J.out.b;simp only[Jw] at b0 b1 b2 b3 b4;have z:=J.out.b.frozen;have HZ:Hid (y.k=0):=qD (by rw[<-HKY.out];simpa using hz);go_wp2_with fail;have q:=aS.Ig (J.out.b.putV u);refine Jz (aF rfl _ _ _ rfl _ u q) rfl ?_;exact J.out.JD HFH.out HY.out (.inl (HY0.out HZ.out))
  ·have HVD:=qD (cL y u _ (HY.out.mono fun _ _=>trivial));obtain⟨b,hb⟩:∃b,aL y=b:=⟨_,rfl⟩;have HB:=qD hb;rw[hb] at HVD;clear hb;cases b
   ·go_wp2_with (first
     | (go_at_call 8;refine HVD.out.mono ?_;rintro e2 w2 ⟨rfl,hb⟩;replace J:=qD (J.out.step hb);clear hb)
     | (go_at_call 34;refine(gm _).mono ?_;rintro e3 w3 ⟨rfl,hb⟩;replace J:=qD (J.out.step hb);clear hb;obtain⟨b0,b1,b2,b3,b4⟩:=aS.Ig J.out.b;simp only[Jw] at b0 b1 b2 b3 b4;have z:=J.out.b.frozen))
    have q:=aS.Ig (J.out.b.putV gA);refine Jz (aF rfl _ _ _ rfl _ gA q) rfl ?_;exact J.out.JD HFH.out ku (.inr Gb)
   ·go_wp2_with (go_at_call 8;refine HVD.out.mono ?_;rintro e2 w2 ⟨rfl,hb⟩;replace J:=qD (J.out.step hb);have HU2:=qD (HU.out.step hb);have HY2:=qD (HY.out.step hb);clear hb u0 u1 u2 u3 u4;obtain⟨u0,u1,u2,u3,u4⟩:=aS.Ig HU2.out;simp only[Jw] at u0 u1 u2 u3 u4;obtain⟨b0,b1,b2,b3,b4⟩:=aS.Ig J.out.b;simp only[Jw] at b0 b1 b2 b3 b4;have z:=J.out.b.frozen);have q:=aS.Ig (J.out.b.putV u);refine Jz (aF rfl _ _ _ rfl _ u q) rfl ?_;exact J.out.JD HFH.out HY2.out (.inr HB.out)
 by_cases h3:e.op=3
 ·rw[h3] at d0;clear h1 h2 h3;go_upto_region 15 with fail
  clear d0 d1 d2 d3 d9 d10
  go_loopw [8] (fun v8 wr=>∃i:Nat,i<=n/\v8=.int .i64 i/\Er F w e c wr) (fun v8 _=>n-(intOf v8).toNat)
  ·exact⟨0,KD _,rfl,I.out⟩
  case round=>
   obtain⟨i,hi,rfl,hI⟩:=hrel;clear I I0;have I:=qD hI;clear hI;by_cases hlt:i<n
   ·obtain⟨b,off,q,hA,hbl,hqi,hqm,hrg⟩:=(HV.out.step I.out.r.bel).sr.row hlt;subst hA;have X0:∀kk:BW wr,kk.val.cell? ⟨b,off+i*6,none⟩=some (.string q.2.s):=fun kk=>kk.cell (hrg 0 _ rfl);have HVA:Hid (aS wr b (off+i*6+1) q.1):=qD ⟨hrg 1 _ rfl,hrg 2 _ rfl,hrg 3 _ rfl,hrg 4 _ rfl,hrg 5 _ rfl⟩;have X2:∀kk:BW wr,kk.val.cell? ⟨w.heap.size,2,none⟩=some (.string e.name):=fun kk=>kk.cell (ag I.out.be).d2;have i1:(0:Int)<=(i:Int):=by omega
    have i2:(i:Int)<(n:Int):=by omega
    have HQ:=qD (HV.out.rv q hqm);have HQO:=qD (HV.out.ok q hqm);clear hrg hqi hqm hbl;cases hz:(q.2.s.toList==e.name.toList)
    all_goals
     go_upto_region 17 with fail
     refine aM (by kernel_rfl) (by kernel_rfl) ?_
     repeat(go_big_quiet_step (fail))
     refine Kd ?_;rintro _ ⟨kw,rfl⟩;replace I:=qD (I.out.step kw.below);replace HVA:=qD (HVA.out.step kw.below);clear X0 X2;generalize kw.val=w2 at*
    ·go_wp2_with fail;go_roundw
     ·exact⟨i+1,by omega,by go_num,I.out⟩
     ·simp[intOf];omega
    ·obtain⟨a0,a1,a2,a3,a4⟩:=HVA.out;have d1:=(ag I.out.be).d1;have HAT:=qD fun(wq:World) (hq:Below w2.heap.size w2 wq)=>ui q.2.v F e.path.xs q.1 e.path.A e.path.n e.path.c wq (fun b hb=>by have:=HFH.out b hb;have:=I.out.r.bel.size;have:=hq.size;omega) (HQ.out.step (I.out.r.bel.Ih hq)) HQO.out (HX0.out.open.path.step (HW0.out.Ih (I.out.r.bel.Ih hq)));go_upto_region 18 with fail
     go_region_law (go_simp;go_at_call 209;refine(HAT.out _ ((Ju _ _).drewN 1)).mono ?_;rintro e7 w7 ⟨d7,rfl,hr7,hb7⟩;replace hb7:Below w2.heap.size w2 w7:=hb7.Io;have hlt7:=I.out.v;have HRD:Hid (mv (fun b=>F b\/w.heap.size+4<=b) w7 d7):=qD (hr7.mono fun b hb=>hb.imp id fun h=>by(replace h:w2.heap.size<=b:=h);obtain⟨_,_,hh,_⟩:=hlt7;have:=hh.lt;omega);replace I:=qD (I.out.step hb7);clear hb7 hr7 hlt7 a0 a1 a2 a3 a4 d1;obtain⟨uv,yv,hvb,hvy,hvk⟩:=I.out.v;have HVB:=qD hvb;clear hvb hvy hvk;obtain⟨v0,v1,v2,v3,v4⟩:=aS.Ig HVB.out;simp only[Jw] at v0 v1 v2 v3 v4;have zv:=HVB.out.frozen)
     all_goals
      have I1:=qD (I.out.put HFH.out HRD.out)
      (try go_simp)
      try go_frame
      change (_:Act->World->Prop) _ (bH w7 (w.heap.size+3) 0 d7);clear v0 v1 v2 v3 v4 zv HVB HRD I HAT HVA;generalize bH w7 (w.heap.size+3) 0 d7=w8 at*;go_wp2_with fail;go_roundw
      ·exact⟨i+1,by omega,by go_num,I1.out⟩
      ·simp[intOf];omega
   ·obtain rfl:i=n:=by omega
    go_upto_region 22 with fail
    obtain⟨u,y,hu,hy,hy0⟩:=I.out.v;have HU:=qD hu;have HY:=qD hy;have HY0:=qD hy0;have HKY:Hid (u.k=y.k):=qD hy.open.k;obtain⟨u0,u1,u2,u3,u4⟩:=aS.Ig hu;simp only[Jw] at u0 u1 u2 u3 u4;have J:=qD I.out.r;clear hu hy hy0;cases hz:(u.k != 0)
    ·obtain⟨b0,b1,b2,b3,b4⟩:=aS.Ig J.out.b;simp only[Jw] at b0 b1 b2 b3 b4;have z:=J.out.b.frozen;have HZ:Hid (y.k=0):=qD (by rw[<-HKY.out];simpa using hz);go_wp2_with fail;have q:=aS.Ig (J.out.b.putV u);refine Jz (aF rfl _ _ _ rfl _ u q) rfl ?_;exact J.out.JD HFH.out HY.out (.inl (HY0.out HZ.out))
    ·have HVD:=qD (cL y u _ (HY.out.mono fun _ _=>trivial));obtain⟨b,hb⟩:∃b,aL y=b:=⟨_,rfl⟩;have HB:=qD hb;rw[hb] at HVD;clear hb;cases b
     ·go_wp2_with (first
       | (go_at_call 8;refine HVD.out.mono ?_;rintro e2 w2 ⟨rfl,hb⟩;replace J:=qD (J.out.step hb);clear hb)
       | (go_at_call 34;refine(gm _).mono ?_;rintro e3 w3 ⟨rfl,hb⟩;replace J:=qD (J.out.step hb);clear hb;obtain⟨b0,b1,b2,b3,b4⟩:=aS.Ig J.out.b;simp only[Jw] at b0 b1 b2 b3 b4;have z:=J.out.b.frozen))
      have q:=aS.Ig (J.out.b.putV gA);refine Jz (aF rfl _ _ _ rfl _ gA q) rfl ?_;exact J.out.JD HFH.out ku (.inr Gb)
     ·go_wp2_with (go_at_call 8;refine HVD.out.mono ?_;rintro e2 w2 ⟨rfl,hb⟩;replace J:=qD (J.out.step hb);have HU2:=qD (HU.out.step hb);have HY2:=qD (HY.out.step hb);clear hb u0 u1 u2 u3 u4;obtain⟨u0,u1,u2,u3,u4⟩:=aS.Ig HU2.out;simp only[Jw] at u0 u1 u2 u3 u4;obtain⟨b0,b1,b2,b3,b4⟩:=aS.Ig J.out.b;simp only[Jw] at b0 b1 b2 b3 b4;have z:=J.out.b.frozen);have q:=aS.Ig (J.out.b.putV u);refine Jz (aF rfl _ _ _ rfl _ u q) rfl ?_;exact J.out.JD HFH.out HY2.out (.inr HB.out)
 by_cases h32:e.op=32\/e.op=33
 ·have hk2:e.kn=2:=by
   have hk:kH e.op=2:=by rcases h32 with h|h<;>rw[h]<;>rfl
   have:=HNA.out.2.2.1 (by omega);omega
  have RF:=qD (iK I.out.be);obtain⟨a0,a1,a2,a3,a4⟩:=aS.Ig I.out.bd;simp only[Jw] at a1 a2 a3 a4;have HEA:=qD (xG k HIH.out e x c A n cc fs F w0 wa HF0.out (fun b hb=>by have:=HFH.out b hb;have:=I.out.r.bel.size;omega) (HW0.out.Ih I.out.r.bel) HX0.out hk2 HGK.out (HX.out.step I.out.r.bel) HOK.out (HV.out.step I.out.r.bel) (by have:=HN.out;omega));clear hk2 h1 h2 h3;rcases h32 with h32|h32
  all_goals
   rw[h32] at d0;clear h32
   go_upto_region 22 with(first
    | ((with_reducible show wpList _ _ _ (⟨_,.load 35 _,_,_,_,_⟩::_) _ _);refine aE rfl 35 _ rfl w.heap.size 0 rfl _ _ RF.out Kw rfl (by kernel_rfl) ?_)
    | (go_at_call 210;refine HEA.out.mono ?_;rintro e2 w2 ⟨d,rfl,hr,hb⟩;have hlt:=I.out.v;have HRD:Hid (mv (fun b=>F b\/w.heap.size+4<=b) w2 d):=qD (hr.mono fun b hb=>hb.imp id fun h=>by obtain⟨_,_,hh,_⟩:=hlt;have:=hh.lt;omega);replace I:=qD (I.out.step hb);clear hb hr hlt a0 a1 a2 a3 a4;obtain⟨uv,yv,hvb,hvy,hvk⟩:=I.out.v;have HVB:=qD hvb;clear hvb hvy hvk;obtain⟨v0,v1,v2,v3,v4⟩:=aS.Ig HVB.out;simp only[Jw] at v0 v1 v2 v3 v4;have zv:=HVB.out.frozen))
   have I1:=qD (I.out.put HFH.out HRD.out);change Code.wp _ _ _ _ (bH w2 (w.heap.size+3) 0 d);clear v0 v1 v2 v3 v4 zv HVB HRD d0 d1 d2 d3 d9 d10 I0 I HEA RF;generalize bH w2 (w.heap.size+3) 0 d=wb at*;have I:=I1;obtain⟨u,y,hu,hy,hy0⟩:=I.out.v;have HU:=qD hu;have HY:=qD hy;have HY0:=qD hy0;have HKY:Hid (u.k=y.k):=qD hy.open.k;obtain⟨u0,u1,u2,u3,u4⟩:=aS.Ig hu;simp only[Jw] at u0 u1 u2 u3 u4;have J:=qD I.out.r;clear hu hy hy0;cases hz:(u.k != 0)
   ·obtain⟨b0,b1,b2,b3,b4⟩:=aS.Ig J.out.b;simp only[Jw] at b0 b1 b2 b3 b4;have z:=J.out.b.frozen;have HZ:Hid (y.k=0):=qD (by rw[<-HKY.out];simpa using hz);go_wp2_with fail;have q:=aS.Ig (J.out.b.putV u);refine Jz (aF rfl _ _ _ rfl _ u q) rfl ?_;exact J.out.JD HFH.out HY.out (.inl (HY0.out HZ.out))
   ·have HVD:=qD (cL y u _ (HY.out.mono fun _ _=>trivial));obtain⟨b,hb⟩:∃b,aL y=b:=⟨_,rfl⟩;have HB:=qD hb;rw[hb] at HVD;clear hb;cases b
    ·go_wp2_with (first
      | (go_at_call 8;refine HVD.out.mono ?_;rintro e2 w2 ⟨rfl,hb⟩;replace J:=qD (J.out.step hb);clear hb)
      | (go_at_call 34;refine(gm _).mono ?_;rintro e3 w3 ⟨rfl,hb⟩;replace J:=qD (J.out.step hb);clear hb;obtain⟨b0,b1,b2,b3,b4⟩:=aS.Ig J.out.b;simp only[Jw] at b0 b1 b2 b3 b4;have z:=J.out.b.frozen))
     have q:=aS.Ig (J.out.b.putV gA);refine Jz (aF rfl _ _ _ rfl _ gA q) rfl ?_;exact J.out.JD HFH.out ku (.inr Gb)
    ·go_wp2_with (go_at_call 8;refine HVD.out.mono ?_;rintro e2 w2 ⟨rfl,hb⟩;replace J:=qD (J.out.step hb);have HU2:=qD (HU.out.step hb);have HY2:=qD (HY.out.step hb);clear hb u0 u1 u2 u3 u4;obtain⟨u0,u1,u2,u3,u4⟩:=aS.Ig HU2.out;simp only[Jw] at u0 u1 u2 u3 u4;obtain⟨b0,b1,b2,b3,b4⟩:=aS.Ig J.out.b;simp only[Jw] at b0 b1 b2 b3 b4;have z:=J.out.b.frozen);have q:=aS.Ig (J.out.b.putV u);refine Jz (aF rfl _ _ _ rfl _ u q) rfl ?_;exact J.out.JD HFH.out HY2.out (.inr HB.out)
 have c1:(e.op==1)=false:=by simpa using h1
 have c2:(e.op==2)=false:=by simpa using h2
 have c3:(e.op==3)=false:=by simpa using h3
 have c32:(e.op==32)=false:=by simpa using fun h=>h32 (.inl h)
 have c33:(e.op==33)=false:=by simpa using fun h=>h32 (.inr h)
 have HOP:Hid (e.op≠1/\e.op≠2/\e.op≠3/\e.op≠32/\e.op≠33):=qD ⟨h1,h2,h3,fun h=>h32 (.inl h),fun h=>h32 (.inr h)⟩;have HFB:Hid (∀b,F b->b<wa.heap.size):=qD fun b hb=>by have:=HFH.out b hb;have:=I.out.r.bel.size;omega
 have HWA:=qD (HW0.out.Ih I.out.r.bel);clear h1 h2 h3 h32;go_upto_region 5 with fail
 clear c1 c2 c3 c32 c33 d0 d1 d2 d3 d9 d10 I0
 go_loopw [9,10] (fun v9 v10 wr=>∃(i:Nat) (ps:List PV),i<=e.kn/\v10=.int .i64 i/\EL F wa i v9 ps wr) (fun _ v10 _=>e.kn-(intOf v10).toNat)
 ·exact⟨0,[],KD _,rfl,bX _ _ _ _,rfl,Ju _ _,by simp,by simp⟩
 case round=>
  obtain⟨i,ps,hi,rfl,hI⟩:=hrel;obtain⟨A9,c9,rfl,hsr⟩:=SR.Ik bQ hI.own hI.ln;have HI:=qD hI;have HSR:=qD hsr;have d10:=(ag (I.out.be.step hI.bel)).d10;obtain⟨a0,a1,a2,a3,a4⟩:=aS.Ig (I.out.bd.step hI.bel);simp only[Jw] at a1 a2 a3 a4;clear hI hsr;by_cases hlt:i<e.kn
  ·obtain⟨kb,ko,q,hA,hb,-,hm,hrg⟩:=HX0.out.open.sr.row hlt;have RG:=qD (bD hrg (HWA.out.Ih HI.out.bel) hb);have hrg2:=qD hrg;have hb2:=qD hb;have HLB:Hid (kb<wr.heap.size):=qD (Ka hb (HWA.out.Ih HI.out.bel).size);have IX:Hid (∀w',Below wr.heap.size wr w'->Calls prog 159 #[.agg (dO q).toArray,c.val,.slice A n cc] w' (CR F w')):=qD fun w' hw=>HIH.out q x c A n cc fs F w0 w' HF0.out (fun b hb=>by have:=HFB.out b hb;have:=HI.out.bel.size;have:=hw.size;omega) (HWA.out.Ih (HI.out.bel.Ih hw)) (HX0.out.open.kids q hm) (HGK.out q hm) (HX.out.step (I.out.r.bel.Ih (HI.out.bel.Ih hw))) HOK.out (HV.out.step (I.out.r.bel.Ih (HI.out.bel.Ih hw))) (by have:=HN.out;omega);rw[hA] at d10;have i0:(0:Int)<=(i:Int):=by omega
   have i1:(i:Int)<(e.kn:Int):=by omega
   have hk256:e.kn<=256:=hkn;clear hrg hA;go_upto_region 7 with fail
   have KS:Hid (∀w',Below wr.heap.size wr w'->(fun w'=>(Instr.loadAt 35 (.pointer (some ⟨kb,ko+i*11,none⟩))).run prog w'=.ok (.agg (dO q).toArray) w'/\w'.cell? ⟨w.heap.size,10,none⟩=some (.slice (some ⟨kb,ko,none⟩) e.kn e.kc)/\w'.cell? ⟨w.heap.size+1,0,none⟩=some (.int .i64 c.k)/\w'.cell? ⟨w.heap.size+1,1,none⟩=some (.int .i64 c.n)/\w'.cell? ⟨w.heap.size+1,2,none⟩=some (.string c.t)/\w'.cell? ⟨w.heap.size+1,3,none⟩=some (.slice c.LA c.ln c.lc)/\w'.cell? ⟨w.heap.size+1,4,none⟩=some (.slice c.DA c.dn c.dc)) w'):=qD fun w' hw=>
    ⟨MZ w' kb (ko+i*11) 35 (dO q) _ (bD RG.out hw HLB.out) Kw rfl (by kernel_rfl),(hw.cell (p:=⟨w.heap.size,10,none⟩) (KY wr _ d10)).trans d10,(hw.cell (p:=⟨w.heap.size+1,0,none⟩) (KY wr _ a0)).trans a0,(hw.cell (p:=⟨w.heap.size+1,1,none⟩) (KY wr _ a1)).trans a1,(hw.cell (p:=⟨w.heap.size+1,2,none⟩) (KY wr _ a2)).trans a2,(hw.cell (p:=⟨w.heap.size+1,3,none⟩) (KY wr _ a3)).trans a3,(hw.cell (p:=⟨w.heap.size+1,4,none⟩) (KY wr _ a4)).trans a4⟩
   have KS2:Hid (∀w',Below wa.heap.size wa w'->(fun w'=>(Instr.loadAt 35 (.pointer (some ⟨kb,ko+i*11,none⟩))).run prog w'=.ok (.agg (dO q).toArray) w'/\w'.cell? ⟨w.heap.size,10,none⟩=some (.slice (some ⟨kb,ko,none⟩) e.kn e.kc)/\w'.cell? ⟨w.heap.size+1,0,none⟩=some (.int .i64 c.k)/\w'.cell? ⟨w.heap.size+1,1,none⟩=some (.int .i64 c.n)/\w'.cell? ⟨w.heap.size+1,2,none⟩=some (.string c.t)/\w'.cell? ⟨w.heap.size+1,3,none⟩=some (.slice c.LA c.ln c.lc)/\w'.cell? ⟨w.heap.size+1,4,none⟩=some (.slice c.DA c.dn c.dc)) w'):=qD fun w' hw=>by
    have h10:=(ag (I.out.be.step hw)).d10;have hA2:=(ag (I.out.be.step HI.out.bel)).d10.symm.trans d10;injection hA2 with hA2
    injection hA2 with hA2
    rw[hA2] at h10;obtain⟨y0,y1,y2,y3,y4⟩:=aS.Ig (I.out.bd.step hw);simp only[Jw] at y1 y2 y3 y4;exact⟨MZ w' kb (ko+i*11) 35 (dO q) _ (bD hrg2.out (HWA.out.Ih hw) hb2.out) Kw rfl (by kernel_rfl),h10,y0,y1,y2,y3,y4⟩
   have B:=qD ((Ju wr.heap.size wr).drewN 1);clear d10 a0 a1 a2 a3 a4;refine Kn ?_;refine Kg (S:=(fun w'=>(Instr.loadAt 35 (.pointer (some ⟨kb,ko+i*11,none⟩))).run prog w'=.ok (.agg (dO q).toArray) w'/\w'.cell? ⟨w.heap.size,10,none⟩=some (.slice (some ⟨kb,ko,none⟩) e.kn e.kc)/\w'.cell? ⟨w.heap.size+1,0,none⟩=some (.int .i64 c.k)/\w'.cell? ⟨w.heap.size+1,1,none⟩=some (.int .i64 c.n)/\w'.cell? ⟨w.heap.size+1,2,none⟩=some (.string c.t)/\w'.cell? ⟨w.heap.size+1,3,none⟩=some (.slice c.LA c.ln c.lc)/\w'.cell? ⟨w.heap.size+1,4,none⟩=some (.slice c.DA c.dn c.dc))) (by kernel_rfl) ?_ (fun hHeld=>?_)
   ·(try dsimp only);exact KS.out _ B.out
   refine rV 0 rfl ?_
   try go_frame
   refine rV 1 rfl ?_
   try go_frame
   refine rV 2 rfl ?_
   try go_frame
   refine rV 3 rfl ?_
   try go_frame
   refine rV 4 rfl ?_
   try go_frame
   refine rT (v:=.agg (dO q).toArray) 5 rfl (fun w' hSw=>bL (p:=.pointer (some ⟨kb,ko+i*11,none⟩)) rfl rfl hSw.1) ?_
   try go_frame
   refine rV 6 rfl ?_
   try go_frame
   refine rV 7 rfl ?_
   try go_frame
   refine rY 8 rfl fun K hK=>?_;go_simp;refine(IX.out _ B.out).mono ?_;rintro e3 W1 ⟨d3,y3,rfl,hr3,ho3,hb3⟩;have HR3:=qD ((HI.out.step B.out).fresh HFB.out hr3);replace HI:=qD ((HI.out.step B.out).step hb3);have HO3:=qD ho3;have B1:=qD (B.out.Ih hb3);clear hb3 hr3 ho3
   (try go_wp2_with fail)
   clear hHeld;refine hK.out _ _ (KS.out _ B1.out) fun hHeld=>?_;clear hK K
   try go_frame
   refine rY 9 rfl fun K hK=>?_;go_simp;have HI2:=qD (HI.out.step ((Ju W1.heap.size W1).alloc (qL) (Obj.cells d3.arr 29)));have B2:=qD (B1.out.alloc B1.out.size (Obj.cells d3.arr 29));clear hHeld;refine hK.out _ _ (KS.out _ B2.out) fun hHeld=>?_;clear hK K
   try go_frame
   refine rY 10 rfl fun K hK=>?_;refine eU _ (.tmp 21) (.tmp 30) 26 rfl wa.heap.size 29 j0 VC.zero.val 5 80 Kv hj0 hy0 hy1 hy2 rfl (by decide) (.slice A9 i c9) i (aO bC ps) rfl HI2.out.own (W1.heap.size+1) (some ⟨W1.heap.size,0,none⟩) 1 1 (bC (d3,y3)) rfl ⟨rfl,fun _=>⟨_,rfl,Km _,ao _ _ _⟩⟩ (cG _) (by unfold maxLen;omega) (by omega) (KM HI2.out.bel.size (qL)) ?_;intro v7 W2 hown hgr hat;have HIN:=qD (HI2.out.add (HR3.out.alloc _) HO3.out hgr hat hown);clear hown hgr hat;clear hHeld;refine hK.out _ _ (KS2.out _ HIN.out.bel) fun hHeld=>?_;clear hK K
   try go_frame
   refine rV 11 rfl ?_
   try go_frame
   refine rD ?_ _;refine Kq ?_;clear hHeld;go_wp2_with fail;go_roundw
   ·exact⟨i+1,ps++[(d3,y3)],by omega,by go_num,HIN.out⟩
   ·simp[intOf];omega
  ·obtain rfl:i=e.kn:=by omega
   have RF:=qD (iK (I.out.be.step HI.out.bel));have HAP:=qD (uj (F:=fun b=>(F b\/wa.heap.size<=b)/\b<wr.heap.size) e HOP.out HNA.out ps A9 e.kn c9 wr (fun b hb=>hb.2) (HX0.out.step (HWA.out.Ih HI.out.bel)) ⟨HSR.out,fun p hp=>(HI.out.rv p hp).lt.mono fun b hb=>⟨hb.1.1,hb.2⟩,HI.out.ok,hkn⟩ rfl);replace I:=qD (I.out.step HI.out.bel);have hba:=HI.out.bel.size;have hwa4:w.heap.size+4<=wa.heap.size:=HW4.out
   go_upto_region 22 with(first
    | ((with_reducible show wpList _ _ _ (⟨_,.load 35 _,_,_,_,_⟩::_) _ _);refine aE rfl 35 _ rfl w.heap.size 0 rfl _ _ RF.out Kw rfl (by kernel_rfl) ?_)
    | (go_at_call 211;refine HAP.out.mono ?_;rintro e2 w2 ⟨d,rfl,hr,hb⟩;have HRD:Hid (mv (fun b=>F b\/w.heap.size+4<=b) w2 d):=qD (hr.mono fun b hb=>by rcases hb with⟨hb|hb,-⟩|hb;exact .inl hb;exact .inr (by omega);exact .inr (by omega));replace I:=qD (I.out.step hb);clear hb hr d10 a0 a1 a2 a3 a4;obtain⟨uv,yv,hvb,hvy,hvk⟩:=I.out.v;have HVB:=qD hvb;clear hvb hvy hvk;obtain⟨v0,v1,v2,v3,v4⟩:=aS.Ig HVB.out;simp only[Jw] at v0 v1 v2 v3 v4;have zv:=HVB.out.frozen))
   have I1:=qD (I.out.put HFH.out HRD.out);change Code.wp _ _ _ _ (bH w2 (w.heap.size+3) 0 d);clear v0 v1 v2 v3 v4 zv HVB HRD I HAP RF HSR HI;generalize bH w2 (w.heap.size+3) 0 d=wb at*;have I:=I1;obtain⟨u,y,hu,hy,hy0⟩:=I.out.v;have HU:=qD hu;have HY:=qD hy;have HY0:=qD hy0;have HKY:Hid (u.k=y.k):=qD hy.open.k;obtain⟨u0,u1,u2,u3,u4⟩:=aS.Ig hu;simp only[Jw] at u0 u1 u2 u3 u4;have J:=qD I.out.r;clear hu hy hy0;cases hz:(u.k != 0)
   ·obtain⟨b0,b1,b2,b3,b4⟩:=aS.Ig J.out.b;simp only[Jw] at b0 b1 b2 b3 b4;have z:=J.out.b.frozen;have HZ:Hid (y.k=0):=qD (by rw[<-HKY.out];simpa using hz);go_wp2_with fail;have q:=aS.Ig (J.out.b.putV u);refine Jz (aF rfl _ _ _ rfl _ u q) rfl ?_;exact J.out.JD HFH.out HY.out (.inl (HY0.out HZ.out))
   ·have HVD:=qD (cL y u _ (HY.out.mono fun _ _=>trivial));obtain⟨b,hb⟩:∃b,aL y=b:=⟨_,rfl⟩;have HB:=qD hb;rw[hb] at HVD;clear hb;cases b
    ·go_wp2_with (first
      | (go_at_call 8;refine HVD.out.mono ?_;rintro e2 w2 ⟨rfl,hb⟩;replace J:=qD (J.out.step hb);clear hb)
      | (go_at_call 34;refine(gm _).mono ?_;rintro e3 w3 ⟨rfl,hb⟩;replace J:=qD (J.out.step hb);clear hb;obtain⟨b0,b1,b2,b3,b4⟩:=aS.Ig J.out.b;simp only[Jw] at b0 b1 b2 b3 b4;have z:=J.out.b.frozen))
     have q:=aS.Ig (J.out.b.putV gA);refine Jz (aF rfl _ _ _ rfl _ gA q) rfl ?_;exact J.out.JD HFH.out ku (.inr Gb)
    ·go_wp2_with (go_at_call 8;refine HVD.out.mono ?_;rintro e2 w2 ⟨rfl,hb⟩;replace J:=qD (J.out.step hb);have HU2:=qD (HU.out.step hb);have HY2:=qD (HY.out.step hb);clear hb u0 u1 u2 u3 u4;obtain⟨u0,u1,u2,u3,u4⟩:=aS.Ig HU2.out;simp only[Jw] at u0 u1 u2 u3 u4;obtain⟨b0,b1,b2,b3,b4⟩:=aS.Ig J.out.b;simp only[Jw] at b0 b1 b2 b3 b4;have z:=J.out.b.frozen);have q:=aS.Ig (J.out.b.putV u);refine Jz (aF rfl _ _ _ rfl _ u q) rfl ?_;exact J.out.JD HFH.out HY2.out (.inr HB.out)
def EM:Prop:=∀(e:dI) (x:aC) (c:VC) (w:World),WX w e->RW w c x->gB x->cY w->Calls prog 106 #[.agg (dO e).toArray,c.val] w fun en w'=>∃d:VC,en=.returned d.val/\Below w.heap.size w w'
theorem eZ.JV{w wr:World}{g:Nat}(h:eZ w g wr)(d:VC):∃dd:VC,Ending.returned d.val=.returned dd.val/\Below w.heap.size w (bH wr g 0 d):=⟨d,rfl,af h.bel h.lo 0 d⟩
theorem xI:EM:=by
 intro e x c w hX hx hok hT;have HX:=qD hX;have HXV:Hid (RV (fun b=>b<w.heap.size) w c x):=qD (hx.lt.mono fun b hb=>hb.2);have HOK:=qD hok;have I0:Hid (aG (((w.alloc (.cells (aN e) 35)).alloc (.cells c.arr 29)).alloc (.cells VC.zero.arr 29)) w.heap.size 35 (aN e)/\aG (((w.alloc (.cells (aN e) 35)).alloc (.cells c.arr 29)).alloc (.cells VC.zero.arr 29)) (w.heap.size+1) 29 c.arr/\eZ w (w.heap.size+1+1) (((w.alloc (.cells (aN e) 35)).alloc (.cells c.arr 29)).alloc (.cells VC.zero.arr 29))):=qD ⟨((aG.Ii rfl).alloc _).alloc _,(aG.Ii (by simp)).alloc _,aG.Ii (by simp),by omega,(((Ju _ _).alloc (qL) _).alloc (by simp) _).alloc (by simp;omega) _⟩;have HT:=qD hT;clear hX hx hok hT;go_enter func106,ntmps106;go_upto_region 1 with fail
 change Code.wp _ _ _ _ (((w.alloc (.cells (aN e) 35)).alloc (.cells c.arr 29)).alloc (.cells VC.zero.arr 29));generalize (((w.alloc (.cells (aN e) 35)).alloc (.cells c.arr 29)).alloc (.cells VC.zero.arr 29))=wa at*;have BE:=qD I0.out.1;have BD:=qD I0.out.2.1;have J:=qD I0.out.2.2;clear I0;have RF:=qD (iK BE.out);have HVD:=qD (ul e wa (HX.out.step J.out.bel) (HT.out.step J.out.bel));go_wp2_with ((with_reducible show wpList _ _ _ (⟨_,.load 35 _,_,_,_,_⟩::_) _ _);refine aE rfl 35 _ rfl w.heap.size 0 rfl _ _ RF.out Kw rfl (by kernel_rfl) ?_);refine HVD.out.mono ?_;rintro e2 w2 ⟨n,rfl,hn,hb2⟩;replace J:=qD (J.out.step hb2);replace BE:=qD (BE.out.step hb2);replace BD:=qD (BD.out.step hb2);replace RF:=qD (iK BE.out);have HN:=qD hn;clear hb2 hn HVD;cases hz:(n != 0)
 ·have HG:Hid (mX 16 e):=qD (HN.out (by simpa using hz));obtain⟨a0,a1,a2,a3,a4⟩:=aS.Ig BD.out;simp only[Jw] at a1 a2 a3 a4;have HEV:=qD (xH 16 e x c none 0 0 [] (fun b=>b<w.heap.size) w w2 (fun b hb=>hb) (fun b hb=>by have:=J.out.bel.size;omega) J.out.bel HX.out HG.out (HXV.out.step J.out.bel) HOK.out ⟨SR.nil,by simp,by simp,by simp⟩ (by omega));go_wp2_with ((with_reducible show wpList _ _ _ (⟨_,.load 35 _,_,_,_,_⟩::_) _ _);refine aE rfl 35 _ rfl w.heap.size 0 rfl _ _ RF.out Kw rfl (by kernel_rfl) ?_);refine HEV.out.mono ?_;rintro e3 w3 ⟨d,y,rfl,hy,hyo,hb3⟩;replace J:=qD (J.out.step hb3);have J4:=qD (J.out.step ((Ju w3.heap.size w3).alloc (qL) (Obj.cells d.arr 29)));have HQ:Hid (aG (w3.alloc (.cells d.arr 29)) w3.heap.size 29 d.arr):=qD (aG.Ii rfl);clear hb3 hy hyo a0 a1 a2 a3 a4 HEV J hz;go_upto_region 4 with fail
  change Code.wp _ _ _ _ (w3.alloc (.cells d.arr 29));generalize w3.alloc (.cells d.arr 29)=w5 at*;have J:=J4;obtain⟨q0,q1,q2,q3,q4⟩:=aS.Ig HQ.out;simp only[Jw] at q1 q2 q3 q4;obtain⟨b0,b1,b2,b3,b4⟩:=aS.Ig J.out.b;simp only[Jw] at b0 b1 b2 b3 b4;have z:=J.out.b.frozen;cases hk:(d.k==0)
  ·go_wp2_with fail;have q:=aS.Ig (J.out.b.putV d);refine Jz (aF rfl _ _ _ rfl _ d q) rfl ?_;exact J.out.JV d
  ·go_wp2_with fail;have q:=aS.Ig (J.out.b.putV VC.zero);refine Jz (aF rfl _ _ _ rfl _ VC.zero q) rfl ?_;exact J.out.JV VC.zero
 ·obtain⟨b0,b1,b2,b3,b4⟩:=aS.Ig J.out.b;simp only[Jw] at b0 b1 b2 b3 b4;have z:=J.out.b.frozen;go_wp2_with fail;have q:=aS.Ig (J.out.b.putV VC.zero);refine Jz (aF rfl _ _ _ rfl _ VC.zero q) rfl ?_;exact J.out.JV VC.zero
end
end Go.Proofs.YtgfoliedmhgpnaaGreatDoor
