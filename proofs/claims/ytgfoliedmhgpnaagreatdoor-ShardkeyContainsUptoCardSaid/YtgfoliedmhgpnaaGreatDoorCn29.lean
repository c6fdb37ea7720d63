/- A part of the proof. -/
import Derived.Test.YtgfoliedmhgpnaaGreatDoorCn28
set_option maxRecDepth 100000
set_option maxHeartbeats 16000000
open Go.Proofs.Tryz
open ByteArray (empty)
namespace Go.Proofs.YtgfoliedmhgpnaaGreatDoor
open Go.RowKit
def MT(x:dS)(nu:Int)(k:Nat)(w:World)(e:Ending)(w':World):Prop:=∃a b:Int,e=.returned (.tuple #[.int .i64 a,.int .i64 b])/\1<=a/\a<=257/\(b=0->a<=256/\nu<=a/\oT k x)/\Bl w w'
structure Mk(x:dS)(nu:Int)(k:Nat)(i:Nat)(w:World)(a:Int)(wr:World):Prop where
 b0:aG wr w.heap.size 35 (aP x)
 bel:Bl w wr
 lo:1<=a
 hi:a<=256
 up:nu+i<=a
 good:∀q∈x.kids.take i,oT k q
section
variable {k n i size:Nat} {w w':World} {e:TypeId} {x:Int}
theorem xw(x:dS):∀(nu lv:Int) (k:Nat) (w:World),WX w x->cZ w->1<=nu->nu<=257->1<=lv->lv<=17->lv+k=17->Calls prog 144 #[dZ x,.int .i64 nu,.int .i64 lv] w (MT x nu k w):=by
 induction x using dS.ind with
 | h x ih=>
 intro nu lv kk w hw hT h1 h2 h3 h4 h5;have HT:=qD hT;have HW:=qD hw;have W:=qD hw.open;have IH:=qD ih;have hkz:x.kn<=140737488355328:=by have:=W.out.ksz;unfold aF at this;omega
 clear ih hw hT;go_enter func144,ntmps144;go_upto_region 1 with fail
 refine ml (aP x) 35 ?_;intro wa B0 BE;by_cases hz:16<lv\/256<nu
 ·go_cut [17] (fun v wx=>v=.bool true/\wx=wa)
  case first=>
   go_wp2_with fail
   all_goals go_meet
   all_goals first|exact⟨rfl,rfl⟩|(exfalso;omega)|(refine⟨?_,rfl⟩;simp;omega)
  case rest=>
   obtain⟨rfl,rfl⟩:=hcut;go_wp2;go_ret2;exact⟨nu,2,rfl,h1,h2,fun h=>absurd h dE,BE.out⟩
 ·have g1:¬16<lv:=oM
  have g2:¬256<nu:=oM
  have g4:wrap64 (lv+1)=lv+1:=by unfold wrap64;omega
  clear hz;have RF:=qD (jP B0.out);go_upto_region 3 with fail
  go_wp2_with (first
   | ((with_reducible show wpList _ _ _ (⟨_,.load 35 _,_,_,_,_⟩::_) _ _);refine aH rfl 35 _ rfl w.heap.size 0 rfl _ _ RF.out Pe rfl kR ?_)
   | (go_at_call 193;fail))
  obtain⟨kk,rfl⟩:∃k,kk=k+1:=⟨kk-1,by omega⟩;refine(AU x wa (HW.out.step BE.out) (HT.out.step BE.out)).mono ?_;rintro e w1 ⟨er,rfl,hno,hb⟩;have HNO:=qD hno;clear hno;replace B0:=qD (B0.out.step hb);replace BE:=qD (BE.out.Ml hb);clear hb RF;by_cases he:er=0
  ·subst he;go_upto_region 7 with fail
   go_loopw [1,9,10,11] (fun v1 v9 _ _ wr=>∃(i:Nat) (a:Int),i<=x.kn/\v1=.int .i64 a/\v9=.int .i64 i/\Mk x nu kk i w a wr) (fun _ v9 _ _ _=>x.kn-(intOf v9).toNat)
   ·exact⟨0,nu,ON _,rfl,rfl,B0.out,BE.out,h1,by omega,by omega,by simp⟩
   case round=>
    obtain⟨i,a,hi,rfl,rfl,hI⟩:=hrel;have HI:=qD hI;obtain⟨_,_,_,_,_,d10⟩:=aa hI.b0;have alo:=hI.lo;have ahi:=hI.hi;have aup:=hI.up;clear hI;have g3:wrap64 (a+1)=a+1:=by unfold wrap64;omega
    by_cases hlt:i<x.kn
    ·obtain⟨b,off,y,hA,hb,hx,hm,hrg⟩:=W.out.sr.row hlt;have RG:=qD (bB hrg HI.out.bel hb);have KW:=qD ((W.out.kids y hm).step HI.out.bel);have IX:=qD (IH.out y hm);have HXI:=qD hx;have KT:=qD (HT.out.step HI.out.bel);rw[hA] at d10;clear hrg hx hm hA
     go_wp2_with (first
      | ((with_reducible show wpList _ _ _ (⟨_,.load 35 _,_,_,_,_⟩::_) _ _);refine aH rfl 35 _ rfl b (off+i*11) rfl _ _ RG.out Pe rfl kR ?_)
      | (go_at_call 144;(try rw[g4]);(try rw[g3]);refine(IX.out (a+1) (lv+1) kk _ KW.out KT.out oM oM oM oM oM).mono ?_;rintro e w1 ⟨r,er,rfl,hr1,hr2,hr3,hbb⟩;have H3:=qD hr3;have HB:=qD hbb;clear hr3 hbb;by_cases he:er=0;(focus (subst he))))
     ·obtain⟨hr4,hr5,hr6⟩:=H3.out (by trivial);have HR6:=qD hr6;clear hr6;go_roundw
      case rel=>exact⟨i+1,r,by omega,rfl,by go_num,HI.out.b0.step HB.out,HI.out.bel.Ml HB.out,hr1,hr4,by omega,fun q hq=>by
       rw[take_snoc' HXI.out] at hq
       rcases OP.1 hq with hq|hq
       ·exact HI.out.good q hq
       ·rw[Ox.1 hq];exact HR6.out⟩
      case measure=>exact iO
     ·have he':(er != 0)=true:=by simpa using he
      go_wp2;go_ret2;exact⟨r,er,rfl,hr1,hr2,fun h=>absurd h (by simpa using he'),HI.out.bel.Ml HB.out⟩
    ·go_wp2;go_ret2;exact⟨a,0,rfl,alo,by omega,fun _=>⟨ahi,by omega,HNO.out (by trivial),by omega,fun q hq=>HI.out.good q (by rw[OS (by have:=W.out.sr.ln;omega)];exact hq)⟩,HI.out.bel⟩
  ·have he':(er != 0)=true:=by simpa using he
   clear he;go_wp2;go_ret2;exact⟨nu,er,rfl,h1,h2,fun h=>absurd h (by simpa using he'),BE.out⟩
theorem xx(x:dS)(w:World)(h:WX w x)(hT:cZ w):Calls prog 85 #[dZ x] w (fun e w'=>∃n:Int,e=.returned (.int .i64 n)/\(n=0->oT 16 x)/\Bl w w'):=by
 have HT:=qD hT;have HW:=qD h;clear h hT;go_enter func85,ntmps85;go_upto_region 1 with fail
 refine ml (aP x) 35 ?_;intro wa B0 BE;have RF:=qD (jP B0.out)
 go_wp2_with (first
  | ((with_reducible show wpList _ _ _ (⟨_,.load 35 _,_,_,_,_⟩::_) _ _);refine aH rfl 35 _ rfl w.heap.size 0 rfl _ _ RF.out Pe rfl kR ?_)
  | (go_at_call 144;refine(xw x 1 1 16 _ (HW.out.step BE.out) (HT.out.step BE.out) oM oM oM oM oM).mono ?_;rintro e w1 ⟨r,er,rfl,_,_,hg,hb⟩;have HG:=qD hg;clear hg;replace BE:=qD (BE.out.Ml hb);clear hb B0 RF))
 go_ret;exact⟨er,rfl,fun h=>(HG.out h).2.2,BE.out⟩
theorem AV:(Tryz.prog.info? 222).map (fun i=>(i.zero,i.size,i.bytes))=some (some (.agg (#[.string empty]++VC.zero.arr)),6,96):=kR
end
structure Dr(F:Nat->Prop)(w:World)(A:Option Addr)(n c:Nat)(fs:List PF):Prop where
 sr:SR 6 cw w A n c fs
 rv:∀p∈fs,RV F w p.1 p.2.v
 ok:∀p∈fs,gq p.2.v
 ns:∀p∈fs,p.2.s.size<=aF
section
variable {n c size:Nat} {w w':World} {A:Option Addr} {F:Nat -> Prop}
theorem Dr.step{fs:List PF}(h:Dr F w A n c fs)(hb:Bl w w'):Dr F w' A n c fs:=⟨h.sr.step hb,fun p hp=>(h.rv p hp).step hb,h.ok,h.ns⟩
def Gf(F:Nat->Prop)(w:World)(e:Ending)(w':World):Prop:=∃(d:VC) (y:aC),e=.returned d.val/\RV (fun b=>F b\/w.heap.size<=b) w' d y/\gq y/\Bl w w'
def Gg(k:Nat):Prop:=∀(e:dS) (x:aC) (c:VC) (A:Option Addr) (n cc:Nat) (fs:List PF) (F:Nat->Prop) (w0 w:World),(∀b,b<w0.heap.size->F b)->(∀b,F b->b<w.heap.size)->Bl w0 w->WX w0 e->oT k e->RV F w c x->gq x->Dr F w A n cc fs->n+k<=100->
 Calls prog 159 #[dZ e,c.val,.slice A n cc] w (Gf F w)
end
structure Iq(F:Nat->Prop)(wa:World)(m:Nat)(v:Value)(ps:List PV)(wr:World):Prop where
 own:wr.ownsRow wa.heap.size 29 5 v m (aN bD ps)
 ln:ps.length=m
 bel:Bl wa wr
 rv:∀p∈ps,RV (fun b=>(F b\/wa.heap.size<=b)/\v.ownBlock≠some b) wr p.1 p.2
 ok:∀p∈ps,gq p.2
section
variable {b m size:Nat} {w' wr w3 w4:World} {y d:Int} {v v':Value} {F:Nat -> Prop}
section
variable {F:Nat->Prop} {wa wr w' w3 w4:World} {m:Nat} {v v':Value} {ps:List PV} {d:VC} {y:aC}
theorem Iq.step(h:Iq F wa m v ps wr)(hb:Bl wr w'):Iq F wa m v ps w':=⟨af h.own hb,h.ln,h.bel.Ml hb,fun p hp=>(h.rv p hp).step hb,h.ok⟩
theorem Iq.fresh(h:Iq F wa m v ps wr)(hF:∀b,F b->b<wa.heap.size)(hr:RV (fun b=>F b\/wr.heap.size<=b) w3 d y):RV (fun b=>(F b\/wa.heap.size<=b)/\v.ownBlock≠some b) w3 d y:=hr.mono fun b hb=>⟨hb.imp id fun k=>OU h.bel.size k,fun e=>by
 have h1:=eO h.own e
 have h2:=ak h.own b e
 rcases hb with hb|hb
 ·have:=hF b hb;omega
 ·omega⟩
theorem Iq.add(h:Iq F wa m v ps w3)(hr:RV (fun b=>(F b\/wa.heap.size<=b)/\v.ownBlock≠some b) w3 d y)(hy:gq y)(hg:w3.grownBy w4 v.ownBlock)(hat:v'.ownBlock=v.ownBlock\/v'.ownBlock=some w3.heap.size)(ho:w4.ownsRow wa.heap.size 29 5 v' (m+1) (aN bD ps++bD (d,y))):Iq F wa (m+1) v' (ps++[(d,y)]) w4:=by
  refine⟨by rw[cS];exact ho,by rw[OK,h.ln];rfl,h.bel.grown hg h.bel.size (ak h.own),fun p hp=>?_,fun p hp=>?_⟩
  ·rcases OP.1 hp with hp|hp
   ·exact kH (h.rv p hp) hg hat
   ·rw[Ox.1 hp];exact kH hr hg hat
  ·rcases OP.1 hp with hp|hp
   ·exact h.ok p hp
   ·rw[Ox.1 hp];exact hy
end
end
structure JM(F:Nat->Prop)(w:World)(e:dS)(c:VC)(wr:World):Prop where
 be:aG wr w.heap.size 35 (aP e)
 bd:aG wr (w.heap.size+1) 29 c.arr
 r:fJ w (w.heap.size+1+1) wr
 v:∃u y,aG wr (w.heap.size+3) 29 (VC.arr u)/\RV (fun b=>F b\/w.heap.size+4<=b) wr u y/\(y.k=0->y=aC.zero)
section
variable {k b n g o B m i c base q cap size:Nat} {w0 w w' wr w3 w4 wc wq:World} {e:TypeId} {op x y d:Int} {A:Option Addr} {F G:Nat -> Prop} {xs:List Value}
theorem JM.step{e:dS}{c:VC}(h:JM F w e c wr)(hb:Bl wr w'):JM F w e c w':=by
 obtain⟨u,y,h1,h2,h3⟩:=h.v;exact⟨h.be.step hb,h.bd.step hb,h.r.step hb,u,y,h1.step hb,h2.step hb,h3⟩
theorem JM.put{e:dS}{c d:VC}(h:JM F w e c wr)(hF:∀b,F b->b<w.heap.size)(hd:ob (fun b=>F b\/w.heap.size+4<=b) wr d):JM F w e c (bM wr (w.heap.size+3) 0 d):=by
 obtain⟨u,_,h1,_,_⟩:=h.v;obtain⟨y,hy,hy0⟩:=hd;refine⟨h.be.My oM _ _,h.bd.My oM _ _,⟨h.r.b.My oM _ _,h.r.lo,aW h.r.bel oM _ _⟩,d,y,h1.putV d,hy.Mr fun b hb _=>⟨hb,bC ?_⟩,hy0⟩;rcases hb with hb|hb
 ·have:=hF b hb;omega
 ·omega
def xy(F:Nat->Prop)(w:World)(d:VC):Prop:=∃y:aC,RV F w d y/\gq y
section
variable {F G:Nat->Prop} {w w':World} {d:VC}
theorem xy.keep(h:xy F w d)(hk:∀b,F b->w'.heap[b]?=w.heap[b]?):xy F w' d:=by obtain⟨y,h1,h2⟩:=h;exact⟨y,h1.keep hk,h2⟩
theorem xy.step(h:xy F w d)(hb:Bl w w'):xy F w' d:=by obtain⟨y,h1,h2⟩:=h;exact⟨y,h1.step hb,h2⟩
theorem xy.alloc(h:xy F w d)(o:Obj):xy F (w.alloc o) d:=h.step ((OG _ _).alloc (qL) o)
theorem xy.mono(h:xy F w d)(hk:∀b,F b->G b):xy G w d:=by obtain⟨y,h1,h2⟩:=h;exact⟨y,h1.mono hk,h2⟩
theorem Gf.lt{e:Ending}(h:Gf F w e w'):∃c9:VC,e=.returned c9.val/\xy (fun b=>(F b\/w.heap.size<=b)/\b<w'.heap.size) w' c9/\Bl w w':=by
 obtain⟨d,y,h1,h2,h3,h4⟩:=h;exact⟨d,h1,⟨y,h2.lt,h3⟩,h4⟩
end
theorem eQ.Nr{go:Nat}{ps:List PV}(h:eQ F w g go base A m cap ps w3)(LB:Below B wc w3)(hB:B<=go)(hc:B<=wc.heap.size)(hwq:Bl w3 wq)(hg:wq.grownBy w4 (Value.slice A m cap).ownBlock)(u:Value):Below B wc (w4.setCell ⟨go,3,none⟩ u):=by
 have h1:Below B wc wq:=LB.Ml hwq (OU hc (qL));have h2:=h.g2;exact(h1.grown hg (OU hc h1.size) (fun k hk=>by have:=ak h.own k hk;omega)).setCell hB _
theorem AW(k:Nat)(IH:Gg k)(e:dS)(x:aC)(c:VC)(A:Option Addr)(n cc:Nat)(fs:List PF)(F:Nat->Prop)(w0 w:World)(hF0:∀b,b<w0.heap.size->F b)(hF:∀b,F b->b<w.heap.size)(hw0:Bl w0 w)(hX:WX w0 e)(hk2:e.kn=2)(hG:∀q∈e.kids,oT k q)(hx:RV F w c x)(hok:gq x)(hV:Dr F w A n cc fs)(hn:n+k+1<=100):
 Calls prog 210 #[dZ e,c.val,.slice A n cc] w (eU F w):=by
 obtain⟨i0,hi0,hz0,hz1,hz2⟩:=Pb AV;obtain⟨j0,hj0,hy0,hy1,hy2⟩:=Pb dB;have HFH:=qD hF;have HF0:=qD hF0;have HW0:=qD hw0;have HX:=qD hx;have HOK:=qD hok;have HV:=qD hV;have HNS:Hid (e.name.size<=aF):=qD hX.open.nsz;have hn0:n<=100:=oM
 obtain⟨kb,ko,q0,hA0,hkb,-,hm0,hrg0⟩:=hX.open.sr.row (i:=0) oM;obtain⟨kb',ko',q1,hA1,-,-,hm1,hrg1⟩:=hX.open.sr.row (i:=1) oM;rw[hA0] at hA1;injection hA1 with hA1
 injection hA1 with hA11 hA12
 subst hA11 hA12;rw[show ko+0*11=ko by omega] at hrg0;rw[show ko+1*11=ko+11 by omega] at hrg1;have RG0:=qD hrg0;have RG1:=qD hrg1;have HKB:=qD hkb;have HKA:=qD hA0;have H0:Hid (WX w0 q0/\oT k q0):=qD ⟨hX.open.kids q0 hm0,hG q0 hm0⟩;have H1:Hid (WX w0 q1/\oT k q1):=qD ⟨hX.open.kids q1 hm1,hG q1 hm1⟩;have HIH:=qD IH;have HNK:=qD hn;have kl0:(0:Int)<(e.kn:Int):=oM
 have kl1:(1:Int)<(e.kn:Int):=oM
 have kl2:0<e.kn:=oM
 have kl3:1<e.kn:=oM
 have I0:Hid (aG (((w.alloc (.cells (aP e) 35)).alloc (.cells c.arr 29)).alloc (.cells VC.zero.arr 29)) w.heap.size 35 (aP e)/\aG (((w.alloc (.cells (aP e) 35)).alloc (.cells c.arr 29)).alloc (.cells VC.zero.arr 29)) (w.heap.size+1) 29 c.arr/\fJ w (w.heap.size+1+1) (((w.alloc (.cells (aP e) 35)).alloc (.cells c.arr 29)).alloc (.cells VC.zero.arr 29))):=qD ⟨((aG.Mm rfl).alloc _).alloc _,(aG.Mm sM).alloc _,aG.Mm sM,by omega,(((OG _ _).alloc (qL) _).alloc sM _).alloc sO _⟩;clear hF hF0 hw0 hX hx hok hV hG IH hrg0 hrg1 hA0 hm0 hm1 hkb hk2;go_enter func210,ntmps210;go_upto_region 1 with fail
 change Code.wp _ _ _ _ (((w.alloc (.cells (aP e) 35)).alloc (.cells c.arr 29)).alloc (.cells VC.zero.arr 29));generalize (((w.alloc (.cells (aP e) 35)).alloc (.cells c.arr 29)).alloc (.cells VC.zero.arr 29))=wa at*;have BE:=qD I0.out.1;have BD:=qD I0.out.2.1;have J:=qD I0.out.2.2;clear I0;have HFU:Hid (∀b,F b->b<wa.heap.size):=qD fun b hb=>by have:=HFH.out b hb;have:=J.out.bel.size;omega
 have HCELL:Hid (∀w',aG w' w.heap.size 35 (aP e)->aG w' (w.heap.size+1) 29 c.arr->w'.cell? ⟨w.heap.size,10,none⟩=some (.slice (some ⟨kb,ko,none⟩) e.kn e.kc)/\w'.cell? ⟨w.heap.size+1,0,none⟩=some (.int .i64 c.k)/\w'.cell? ⟨w.heap.size+1,1,none⟩=some (.int .i64 c.n)/\w'.cell? ⟨w.heap.size+1,2,none⟩=some (.string c.t)/\w'.cell? ⟨w.heap.size+1,3,none⟩=some (.slice c.LA c.ln c.lc)/\w'.cell? ⟨w.heap.size+1,4,none⟩=some (.slice c.DA c.dn c.dc)):=qD fun w' h1 h2=>by
  have e6:=(aa h1).d10;rw[HKA.out] at e6;obtain⟨a0,a1,a2,a3,a4⟩:=aO.Mp h2;exact⟨e6,a0,a1,a2,a3,a4⟩
 have KC:Hid (∀w',Bl wa w'->(Instr.loadAt 35 (.pointer (some ⟨kb,ko,none⟩))).run prog w'=.ok (.agg (dY q0).toArray) w'/\w'.cell? ⟨w.heap.size,10,none⟩=some (.slice (some ⟨kb,ko,none⟩) e.kn e.kc)/\w'.cell? ⟨w.heap.size+1,0,none⟩=some (.int .i64 c.k)/\w'.cell? ⟨w.heap.size+1,1,none⟩=some (.int .i64 c.n)/\w'.cell? ⟨w.heap.size+1,2,none⟩=some (.string c.t)/\w'.cell? ⟨w.heap.size+1,3,none⟩=some (.slice c.LA c.ln c.lc)/\w'.cell? ⟨w.heap.size+1,4,none⟩=some (.slice c.DA c.dn c.dc)):=qD fun w' hb=>
  ⟨Qy w' kb ko 35 (dY q0) _ (bB RG0.out (HW0.out.Ml (J.out.bel.Ml hb)) HKB.out) Pe rfl kR,HCELL.out w' (BE.out.step hb) (BD.out.step hb)⟩
 have HGV:Hid (∀wq,Bl wa wq->Calls prog 159 #[.agg (dY q0).toArray,c.val,.slice A n cc] wq fun e w'=>∃c9:VC,e=.returned c9.val/\xy (fun b=>(F b\/wq.heap.size<=b)/\b<w'.heap.size) w' c9/\Bl wq w'):=qD fun wq hq=>
  (HIH.out q0 x c A n cc fs F w0 wq HF0.out (fun b hb=>by have:=HFU.out b hb;have:=hq.size;omega) (HW0.out.Ml (J.out.bel.Ml hq)) H0.out.1 H0.out.2 (HX.out.step (J.out.bel.Ml hq)) HOK.out (HV.out.step (J.out.bel.Ml hq)) (by have:=HNK.out;omega)).mono fun _ _ h=>h.lt
 go_cut [7] (fun v7 wx=>∃(g9:Nat) (c9:VC),v7=.pointer (some ⟨g9,0,none⟩)/\aG wx g9 29 c9.arr/\xy (fun b=>F b\/(wa.heap.size<=b/\b≠g9)) wx c9/\wa.heap.size<=g9/\Bl wa wx)
 case first=>as_aux_lemma=>
  refine PH ?_;refine Oy (S:=(fun w'=>(Instr.loadAt 35 (.pointer (some ⟨kb,ko,none⟩))).run prog w'=.ok (.agg (dY q0).toArray) w'/\w'.cell? ⟨w.heap.size,10,none⟩=some (.slice (some ⟨kb,ko,none⟩) e.kn e.kc)/\w'.cell? ⟨w.heap.size+1,0,none⟩=some (.int .i64 c.k)/\w'.cell? ⟨w.heap.size+1,1,none⟩=some (.int .i64 c.n)/\w'.cell? ⟨w.heap.size+1,2,none⟩=some (.string c.t)/\w'.cell? ⟨w.heap.size+1,3,none⟩=some (.slice c.LA c.ln c.lc)/\w'.cell? ⟨w.heap.size+1,4,none⟩=some (.slice c.DA c.dn c.dc))) kR ?_ (fun hHeld=>?_)
  ·(try dsimp only);exact KC.out _ ((OG _ _).drew)
  have B:Hid (Bl wa wa.drew):=qD ((OG wa.heap.size wa).drew);generalize wa.drew=W0 at*;have h0:wa.heap.size<=W0.heap.size:=B.out.size;refine rV 0 rfl ?_
  try go_frame
  refine rV 1 rfl ?_
  try go_frame
  refine rV 2 rfl ?_
  try go_frame
  refine rT (v:=.agg (dY q0).toArray) 3 rfl (fun w' hSw=>bm (p:=.pointer (some ⟨kb,ko,none⟩)) rfl rfl hSw.1) ?_
  try go_frame
  refine rV 4 rfl ?_
  try go_frame
  refine rV 5 rfl ?_
  try go_frame
  refine rR [6,7] ?_;refine rC (fun K hK=>?_) (rC (fun K hK=>?_) rN)
  ·go_simp;refine(HGV.out _ B.out).mono ?_;rintro e9 W1 ⟨c9,rfl,hr,hb⟩;have R9:=qD hr;replace B:=qD (B.out.Ml hb);clear hb hr
   (try go_wp2_with fail)
   clear hHeld;refine hK.out _ _ (KC.out _ B.out) fun hHeld=>?_;clear hK K
   try go_frame
   refine rY 7 rfl fun K hK=>?_;go_simp;have hg9:wa.heap.size<=W1.heap.size:=B.out.size;have Q9:Hid (aG (W1.alloc (.cells VC.zero.arr 29)) W1.heap.size 29 VC.zero.arr):=aG.Mm rfl;replace R9:=qD (R9.out.alloc (.cells VC.zero.arr 29));replace B:=qD (B.out.alloc B.out.size (Obj.cells VC.zero.arr 29));change K _ (W1.alloc (.cells VC.zero.arr 29));generalize W1.alloc (.cells VC.zero.arr 29)=W2 at*;generalize W1.heap.size=g9 at*;have lg:g9<W2.heap.size:=Q9.out.lt;clear hHeld;refine hK.out _ _ (KC.out _ B.out) fun hHeld=>?_;clear hK K
   try go_frame
   refine rY 8 rfl fun K hK=>?_;obtain⟨z0,z1,z2,z3,z4⟩:=aO.Mp Q9.out;have zz:=Q9.out.frozen;have lq:=Q9.out.lt;go_simp;have R9':=qD ((R9.out.keep (w':=bM W2 g9 0 c9) fun b hb=>bC (by rcases hb with⟨hb|hb,hl⟩;(have:=HFU.out b hb;omega);omega)).mono (G:=fun b=>F b\/(wa.heap.size<=b/\b≠g9)) fun b hb=>by rcases hb with⟨hb|hb,hl⟩;exact .inl hb;exact .inr ⟨by omega,by omega⟩);have Q9':=qD (Q9.out.putV c9);have B':=qD (aW B.out hg9 0 c9);clear z0 z1 z2 z3 z4 zz lq R9 Q9 B;have R9:=R9';have Q9:=Q9';have B:=B';clear R9' Q9' B';change K _ (bM W2 g9 0 c9);generalize bM W2 g9 0 c9=W3 at*;clear hHeld;refine hK.out _ _ (KC.out _ B.out) fun hHeld=>?_;clear hK K
   try go_frame
   refine rD ?_ _;refine PL ?_;go_wp2_with fail;go_meet;exact⟨g9,c9,rfl,Q9.out,R9.out,by omega,B.out⟩
  ·go_simp;have hg9:wa.heap.size<=W0.heap.size:=B.out.size;have Q9:Hid (aG (W0.alloc (.cells VC.zero.arr 29)) W0.heap.size 29 VC.zero.arr):=aG.Mm rfl;replace B:=qD (B.out.alloc B.out.size (Obj.cells VC.zero.arr 29));change K _ (W0.alloc (.cells VC.zero.arr 29));generalize W0.alloc (.cells VC.zero.arr 29)=W1 at*;generalize W0.heap.size=g9 at*;have lg:g9<W1.heap.size:=Q9.out.lt;clear hHeld;refine hK.out _ _ (KC.out _ B.out) fun hHeld=>?_;clear hK K
   try go_frame
   refine rY 6 rfl fun K hK=>?_;go_simp;refine(HGV.out _ B.out).mono ?_;rintro e9 W2 ⟨c9,rfl,hr,hb⟩;have R9:=qD hr;replace Q9:=qD (Q9.out.step hb);replace B:=qD (B.out.Ml hb);clear hb hr
   (try go_wp2_with fail)
   clear hHeld;refine hK.out _ _ (KC.out _ B.out) fun hHeld=>?_;clear hK K
   try go_frame
   refine rY 8 rfl fun K hK=>?_;obtain⟨z0,z1,z2,z3,z4⟩:=aO.Mp Q9.out;have zz:=Q9.out.frozen;have lq:=Q9.out.lt;go_simp;have R9':=qD ((R9.out.keep (w':=bM W2 g9 0 c9) fun b hb=>bC (by rcases hb with⟨hb|hb,hl⟩;(have:=HFU.out b hb;omega);omega)).mono (G:=fun b=>F b\/(wa.heap.size<=b/\b≠g9)) fun b hb=>by rcases hb with⟨hb|hb,hl⟩;exact .inl hb;exact .inr ⟨by omega,by omega⟩);have Q9':=qD (Q9.out.putV c9);have B':=qD (aW B.out hg9 0 c9);clear z0 z1 z2 z3 z4 zz lq R9 Q9 B;have R9:=R9';have Q9:=Q9';have B:=B';clear R9' Q9' B';change K _ (bM W2 g9 0 c9);generalize bM W2 g9 0 c9=W3 at*;clear hHeld;refine hK.out _ _ (KC.out _ B.out) fun hHeld=>?_;clear hK K
   try go_frame
   refine rD ?_ _;refine PL ?_;go_wp2_with fail;go_meet;exact⟨g9,c9,rfl,Q9.out,R9.out,by omega,B.out⟩
 case rest=>
  obtain⟨g9,c9,rfl,hg9,hr9,hl9,hb9⟩:=hcut;generalize wc=wz at*;replace BE:=qD (BE.out.step hb9);replace BD:=qD (BD.out.step hb9);have jlt:=J.out.b.lt;replace J:=qD (J.out.step hb9);have G9:=qD hg9;have hgl:=hg9.lt;obtain⟨y,hry,hyo⟩:=hr9;have HYO:=qD hyo;have HYK:Hid (c9.k=y.k):=qD hry.open.k;obtain⟨F2,hF2⟩:∃F2:Nat->Prop,F2=fun b=>F b\/(wa.heap.size<=b/\b≠g9/\b<wz.heap.size):=⟨_,rfl⟩;have HF2:=qD hF2
  have hry2:RV F2 wz c9 y:=by
   rw[hF2];exact hry.lt.mono fun b hb=>hb.1.imp id fun h=>⟨h.1,h.2,hb.2⟩
  have hln:c9.ln<=1024:=by have:=hry2.open.ln;have:=hyo.len.2.1;omega
  obtain⟨rs,hrs,hsl⟩:=RV.sl hry2;have HSL:=qD hsl;have HRS:=qD hrs;have HWC:=qD (HW0.out.Ml J.out.bel);have HXC:=qD (HX.out.step J.out.bel);have HVC:=qD (HV.out.step J.out.bel);have hwa:w.heap.size+1+1<wa.heap.size:=jlt;have hwz:wa.heap.size<=wz.heap.size:=hb9.size;clear HGV KC hg9 hb9 hry hyo hry2 hrs hsl hF2 jlt HX HV HFU;obtain⟨g0,g1,g2,g3,g4⟩:=aO.Mp G9.out;cases h6:(c9.k != 6);rotate_left
  ·go_wp2_with (go_at_call 34;refine(bt _).mono ?_;rintro e w2 ⟨k,n,t,rfl,ht,hk,hb⟩;replace J:=qD (J.out.step hb);have HT:=qD ht;have HK:=qD hk;clear hb ht hk;obtain⟨b0,b1,b2,b3,b4⟩:=aO.Mp J.out.b;have z:=J.out.b.frozen);exact OO (aD rfl _ _ _ rfl _ (bO k n t) (aO.Mn (J.out.b.putV (bO k n t)))) rfl (J.out.leaf k n HT.out HK.out).a
  have HF2U:Hid (∀b,F2 b->b<wz.heap.size/\b≠w.heap.size+1+1):=qD fun b hb=>by
   rw[HF2.out] at hb;rcases hb with hb|hb
   ·have:=HFH.out b hb;omega
   ·omega
  have HF2O:Hid (∀b,F2 b->F b\/w.heap.size<=b):=qD fun b hb=>by
   rw[HF2.out] at hb;exact hb.imp id fun h=>by omega
  go_upto_region 6 with fail
  have I0:Hid (eQ F2 w (w.heap.size+1+1) wz.heap.size (wz.heap.size+1) none 0 0 [] (wz.alloc (.cells #[.int .i64 6,.int .i64 0,.string empty,.slice none 0 0,.slice none 0 0] 29))):=qD (eQ.start J.out HF2U.out);have LB0:=qD ((OG wz.heap.size wz).alloc (qL) (Obj.cells #[.int .i64 6,.int .i64 0,.string empty,.slice none 0 0,.slice none 0 0] 29));change Code.wp _ _ _ _ (wz.alloc (.cells #[.int .i64 6,.int .i64 0,.string empty,.slice none 0 0,.slice none 0 0] 29));generalize wz.alloc (.cells #[.int .i64 6,.int .i64 0,.string empty,.slice none 0 0,.slice none 0 0] 29)=wb at*;clear g0 g1 g2 g3 g4 J
  go_loopw [9,10,11] (fun v9 _ _ wr=>∃(i m:Nat) (A4:Option Addr) (cap:Nat) (qs:List PV),i<=c9.ln/\m<=i/\v9=.int .i64 i/\Bl wz wr/\eQ F2 w (w.heap.size+1+1) wz.heap.size (wz.heap.size+1) A4 m cap qs wr) (fun v9 _ _ _=>c9.ln-(intOf v9).toNat)
  ·exact⟨0,0,none,0,[],ON _,qL,rfl,LB0.out,I0.out⟩
  case round=>
   obtain⟨i,m,A4,cap,qs,hi,hmi,rfl,hL,hI⟩:=hrel;have LB:=qD hL;have I:=qD hI;clear LB0 I0 hL hI;obtain⟨g0,g1,g2,g3,g4⟩:=aO.Mp (G9.out.step LB.out);by_cases hlt:i<c9.ln
   ·obtain⟨eb,eo,hLA,hlb,hel⟩:=HSL.out.Nv oM;obtain⟨p,hpi,hva,hrv⟩:=hel i hlt;have HPO:=qD (HYO.out.el (by rw[<-HRS.out];exact PD (OJ hpi)));have HVA:=qD hva;have HRV:=qD hrv;have HLA:=qD hLA;have i1:(0:Int)<=(i:Int):=oM
    have i2:(i:Int)<(c9.ln:Int):=oM
    have HRD:=qD ((HVC.out.sr.step LB.out).reads lU dE);have hbs:=I.out.bs;clear hel hva hrv hpi hLA;go_wp2_with (at_builtin;refine aE _ rfl _ _ 219 rfl wr.heap.size 222 i0 (.agg (#[.string empty]++VC.zero.arr)) 6 96 underlying219 hi0 hz0 hz1 hz2 rfl dE (.slice none 0 0) 0 [] rfl (bP _ _ _ _) _ A n cc (aN cw fs) rfl HRD.out (ju js fs) (by unfold maxLen;omega) oM (qL) ?_);intro v1 w2 hown1 hgr1 _;have B2:=qD ((OG wr.heap.size wr).grown hgr1 (qL) (fun k hk=>by simp[Value.ownBlock] at hk));obtain⟨A1,c1,rfl,hc1⟩:=aY hown1;have HO1:=qD hown1;have LB2:Hid (Bl wz w2):=qD (LB.out.Ml B2.out);clear hown1 hgr1 g0 g1 g2 g3 g4;obtain⟨g0,g1,g2,g3,g4⟩:=aO.Mn (G9.out.step LB2.out);obtain⟨y0,y1,y2,y3,y4⟩:=HVA.out.step LB2.out;have d2:=(aa (BE.out.step LB2.out)).d2;simp only[OX] at g0 g1 g2 g3 g4;rw[HLA.out] at g3;have hw2:wr.heap.size<=w2.heap.size:=B2.out.size;go_upto_region 10 with fail
    go_region_law (refine bG _ rfl (.tmp 34) (.tmp 43) 219 rfl wr.heap.size 222 i0 (.agg (#[.string empty]++VC.zero.arr)) 6 96 underlying219 hi0 hz0 hz1 hz2 rfl dE (.slice A1 n c1) n (aN cw fs) (by simp[Act.eval]) ((HO1.out.alloc _).drew) (w2.heap.size+1) (some ⟨w2.heap.size,0,none⟩) 1 1 (cw (p.1,.mk e.name p.2)) (by simp[Act.eval]) ⟨rfl,fun _=>⟨_,rfl,by simp,ag _ _ _⟩⟩ (js _) (by simp only[maxLen];omega) oM sO ?_;intro v3 wi hown3 hgr3 hat3)
    all_goals
     have B3:=qD (((B2.out.alloc B2.out.size _).drew).grown hgr3 sO (fun k hk=>ak HO1.out k hk));have hown4:wi.ownsRow wr.heap.size 222 6 v3 (n+1) (aN cw (fs++[(p.1,.mk e.name p.2)])):=by rw[cS];exact hown3
     obtain⟨A3,c3,rfl,hsr3⟩:=SR.Mq lU hown4 (by rw[OK];have:=HVC.out.sr.ln;simp;omega);have LB3:Hid (Bl wz wi):=qD (LB.out.Ml B3.out)
     have HV3:Hid (Dr F2 wi A3 (n+1) c3 (fs++[(p.1,.mk e.name p.2)])):=qD ⟨hsr3,fun q hq=>by
      rcases OP.1 hq with hq|hq
      ·exact((HVC.out.rv q hq).step LB3.out).mono fun b hb=>by rw[HF2.out];exact .inl hb
      ·rw[Ox.1 hq];exact HRV.out.step LB3.out,fun q hq=>by
      rcases OP.1 hq with hq|hq
      ·exact HVC.out.ok q hq
      ·rw[Ox.1 hq];exact HPO.out,fun q hq=>by
      rcases OP.1 hq with hq|hq
      ·exact HVC.out.ns q hq
      ·rw[Ox.1 hq];exact HNS.out⟩
     clear hown3 hgr3 hat3 hown4 hsr3 g0 g1 g2 g3 g4 y0 y1 y2 y3 y4 d2 B2 HO1 LB2 hw2;have hwi:wz.heap.size<=wi.heap.size:=LB3.out.size;have HFU:Hid (∀b,F2 b->b<wi.heap.size):=qD fun b hb=>by have:=(HF2U.out b hb).1;omega
     have KC:Hid (∀w',Bl wi w'->(Instr.loadAt 35 (.pointer (some ⟨kb,ko+11,none⟩))).run prog w'=.ok (.agg (dY q1).toArray) w'/\w'.cell? ⟨w.heap.size,10,none⟩=some (.slice (some ⟨kb,ko,none⟩) e.kn e.kc)/\w'.cell? ⟨w.heap.size+1,0,none⟩=some (.int .i64 c.k)/\w'.cell? ⟨w.heap.size+1,1,none⟩=some (.int .i64 c.n)/\w'.cell? ⟨w.heap.size+1,2,none⟩=some (.string c.t)/\w'.cell? ⟨w.heap.size+1,3,none⟩=some (.slice c.LA c.ln c.lc)/\w'.cell? ⟨w.heap.size+1,4,none⟩=some (.slice c.DA c.dn c.dc)):=qD fun w' hb=>
      ⟨Qy w' kb (ko+11) 35 (dY q1) _ (bB RG1.out (HWC.out.Ml (LB3.out.Ml hb)) HKB.out) Pe rfl kR,HCELL.out w' (BE.out.step (LB3.out.Ml hb)) (BD.out.step (LB3.out.Ml hb))⟩
     have HGV:Hid (∀wq,Bl wi wq->Calls prog 159 #[.agg (dY q1).toArray,c.val,.slice A3 (n+1) c3] wq fun e w'=>∃c9:VC,e=.returned c9.val/\xy (fun b=>(F2 b\/wq.heap.size<=b)/\b<w'.heap.size) w' c9/\Bl wq w'):=qD fun wq hq=>
      (HIH.out q1 x c A3 (n+1) c3 _ F2 w0 wq (fun b hb=>by rw[HF2.out];exact .inl (HF0.out b hb)) (fun b hb=>by have:=HFU.out b hb;have:=hq.size;omega) (HWC.out.Ml (LB3.out.Ml hq)) H1.out.1 H1.out.2 ((HXC.out.step (LB3.out.Ml hq)).mono fun b hb=>by rw[HF2.out];exact .inl hb) HOK.out (HV3.out.step hq) (by have:=HNK.out;omega)).mono fun _ _ h=>h.lt
     go_upto_region 11 with fail
     (try go_simp)
     try go_frame
     go_cut [11] (fun v11 wx=>∃(g9:Nat) (c9:VC),v11=.pointer (some ⟨g9,0,none⟩)/\aG wx g9 29 c9.arr/\xy (fun b=>F2 b\/(wi.heap.size<=b/\b≠g9)) wx c9/\wi.heap.size<=g9/\Bl wi wx)
     case first=>as_aux_lemma=>
      refine PH ?_;refine Oy (S:=(fun w'=>(Instr.loadAt 35 (.pointer (some ⟨kb,ko+11,none⟩))).run prog w'=.ok (.agg (dY q1).toArray) w'/\w'.cell? ⟨w.heap.size,10,none⟩=some (.slice (some ⟨kb,ko,none⟩) e.kn e.kc)/\w'.cell? ⟨w.heap.size+1,0,none⟩=some (.int .i64 c.k)/\w'.cell? ⟨w.heap.size+1,1,none⟩=some (.int .i64 c.n)/\w'.cell? ⟨w.heap.size+1,2,none⟩=some (.string c.t)/\w'.cell? ⟨w.heap.size+1,3,none⟩=some (.slice c.LA c.ln c.lc)/\w'.cell? ⟨w.heap.size+1,4,none⟩=some (.slice c.DA c.dn c.dc))) kR ?_ (fun hHeld=>?_)
      ·(try dsimp only);exact KC.out _ ((OG _ _).drew)
      have B:Hid (Bl wi wi.drew):=qD ((OG wi.heap.size wi).drew);generalize wi.drew=W0 at*;have h0:wi.heap.size<=W0.heap.size:=B.out.size;refine rV 0 rfl ?_
      try go_frame
      refine rV 1 rfl ?_
      try go_frame
      refine rV 2 rfl ?_
      try go_frame
      refine rT (v:=.agg (dY q1).toArray) 3 rfl (fun w' hSw=>bm (p:=.pointer (some ⟨kb,ko+11,none⟩)) rfl rfl hSw.1) ?_
      try go_frame
      refine rV 4 rfl ?_
      try go_frame
      refine rV 5 rfl ?_
      try go_frame
      refine rR [6,7] ?_;refine rC (fun K hK=>?_) (rC (fun K hK=>?_) rN)
      ·go_simp;refine(HGV.out _ B.out).mono ?_;rintro e9 W1 ⟨c9,rfl,hr,hb⟩;have R9:=qD hr;replace B:=qD (B.out.Ml hb);clear hb hr
       (try go_wp2_with fail)
       clear hHeld;refine hK.out _ _ (KC.out _ B.out) fun hHeld=>?_;clear hK K
       try go_frame
       refine rY 7 rfl fun K hK=>?_;go_simp;have hg9:wi.heap.size<=W1.heap.size:=B.out.size;have Q9:Hid (aG (W1.alloc (.cells VC.zero.arr 29)) W1.heap.size 29 VC.zero.arr):=aG.Mm rfl;replace R9:=qD (R9.out.alloc (.cells VC.zero.arr 29));replace B:=qD (B.out.alloc B.out.size (Obj.cells VC.zero.arr 29));change K _ (W1.alloc (.cells VC.zero.arr 29));generalize W1.alloc (.cells VC.zero.arr 29)=W2 at*;generalize W1.heap.size=g9 at*;have lg:g9<W2.heap.size:=Q9.out.lt;clear hHeld;refine hK.out _ _ (KC.out _ B.out) fun hHeld=>?_;clear hK K
       try go_frame
       refine rY 8 rfl fun K hK=>?_;obtain⟨z0,z1,z2,z3,z4⟩:=aO.Mp Q9.out;have zz:=Q9.out.frozen;have lq:=Q9.out.lt;go_simp;have R9':=qD ((R9.out.keep (w':=bM W2 g9 0 c9) fun b hb=>bC (by rcases hb with⟨hb|hb,hl⟩;(have:=HFU.out b hb;omega);omega)).mono (G:=fun b=>F2 b\/(wi.heap.size<=b/\b≠g9)) fun b hb=>by rcases hb with⟨hb|hb,hl⟩;exact .inl hb;exact .inr ⟨by omega,by omega⟩);have Q9':=qD (Q9.out.putV c9);have B':=qD (aW B.out hg9 0 c9);clear z0 z1 z2 z3 z4 zz lq R9 Q9 B;have R9:=R9';have Q9:=Q9';have B:=B';clear R9' Q9' B';change K _ (bM W2 g9 0 c9);generalize bM W2 g9 0 c9=W3 at*;clear hHeld;refine hK.out _ _ (KC.out _ B.out) fun hHeld=>?_;clear hK K
       try go_frame
       refine rD ?_ _;refine PL ?_;go_wp2_with fail;go_meet;exact⟨g9,c9,rfl,Q9.out,R9.out,by omega,B.out⟩
      ·go_simp;have hg9:wi.heap.size<=W0.heap.size:=B.out.size;have Q9:Hid (aG (W0.alloc (.cells VC.zero.arr 29)) W0.heap.size 29 VC.zero.arr):=aG.Mm rfl;replace B:=qD (B.out.alloc B.out.size (Obj.cells VC.zero.arr 29));change K _ (W0.alloc (.cells VC.zero.arr 29));generalize W0.alloc (.cells VC.zero.arr 29)=W1 at*;generalize W0.heap.size=g9 at*;have lg:g9<W1.heap.size:=Q9.out.lt;clear hHeld;refine hK.out _ _ (KC.out _ B.out) fun hHeld=>?_;clear hK K
       try go_frame
       refine rY 6 rfl fun K hK=>?_;go_simp;refine(HGV.out _ B.out).mono ?_;rintro e9 W2 ⟨c9,rfl,hr,hb⟩;have R9:=qD hr;replace Q9:=qD (Q9.out.step hb);replace B:=qD (B.out.Ml hb);clear hb hr
       (try go_wp2_with fail)
       clear hHeld;refine hK.out _ _ (KC.out _ B.out) fun hHeld=>?_;clear hK K
       try go_frame
       refine rY 8 rfl fun K hK=>?_;obtain⟨z0,z1,z2,z3,z4⟩:=aO.Mp Q9.out;have zz:=Q9.out.frozen;have lq:=Q9.out.lt;go_simp;have R9':=qD ((R9.out.keep (w':=bM W2 g9 0 c9) fun b hb=>bC (by rcases hb with⟨hb|hb,hl⟩;(have:=HFU.out b hb;omega);omega)).mono (G:=fun b=>F2 b\/(wi.heap.size<=b/\b≠g9)) fun b hb=>by rcases hb with⟨hb|hb,hl⟩;exact .inl hb;exact .inr ⟨by omega,by omega⟩);have Q9':=qD (Q9.out.putV c9);have B':=qD (aW B.out hg9 0 c9);clear z0 z1 z2 z3 z4 zz lq R9 Q9 B;have R9:=R9';have Q9:=Q9';have B:=B';clear R9' Q9' B';change K _ (bM W2 g9 0 c9);generalize bM W2 g9 0 c9=W3 at*;clear hHeld;refine hK.out _ _ (KC.out _ B.out) fun hHeld=>?_;clear hK K
       try go_frame
       refine rD ?_ _;refine PL ?_;go_wp2_with fail;go_meet;exact⟨g9,c9,rfl,Q9.out,R9.out,by omega,B.out⟩
     case rest=>
      obtain⟨g11,c11,rfl,hg11,hr11,hl11,hb11⟩:=hcut;have B5:=qD (B3.out.Ml hb11);have LB5:Hid (Bl wz wc):=qD (LB.out.Ml B5.out);have I5:=qD (I.out.step B5.out);have G11:=qD hg11;obtain⟨x5,hx5,-⟩:=hr11;have hwr:wr.heap.size<=wi.heap.size:=B3.out.size
      have HX5:Hid (RV (fun b=>(F2 b\/wz.heap.size+1<=b)/\(Value.slice A4 m cap).ownBlock≠some b) wc c11 x5):=qD (hx5.mono fun b hb=>⟨hb.imp id fun h=>by have:=I.out.bs;omega,fun e=>by
       have h1:=eO I.out.own e
       have h2:=ak I.out.own b e
       rcases hb with hb|hb
       ·have h3:=(HF2U.out b hb).1;omega
       ·omega⟩)
      clear HGV KC hx5 hg11 hb11 HFU hl11;have hs:(Value.slice A4 m cap).ownBlock≠some wz.heap.size:=gr I5.out.own oM;have d0:=(aa (BE.out.step LB5.out)).d0;obtain⟨x0,x1,x2,x3,x4⟩:=aO.Mp G11.out;cases h32:(e.op==32)
      ·go_wp2_with fail;refine(kl c11 _).mono ?_;rintro e6 w6 ⟨r,rfl,_,hb6⟩;have LB6:Hid (Bl wz w6):=qD (LB5.out.Ml hb6);have I6:=qD (I5.out.step hb6);clear d0 x0 x1 x2 x3 x4 hb6 I5 HX5 G11;cases r
       ·go_wp2_with fail;go_roundw
        ·exact⟨i+1,m,A4,cap,qs,by omega,by omega,by go_num,LB6.out,I6.out⟩
        ·exact iO
       ·obtain⟨g0,g1,g2,g3,g4⟩:=aO.Mn (G9.out.step LB6.out);obtain⟨y0,y1,y2,y3,y4⟩:=HVA.out.step LB6.out;simp only[OX] at g0 g1 g2 g3 g4;rw[HLA.out] at g3;have s3:=I6.out.o.cell 3;simp at s3;have hgo:wz.heap.size<w6.heap.size:=I6.out.bs;have HP6:=qD (I6.out.old (HRV.out.step LB6.out));go_upto_region 15 with fail
        go_region_law (refine bG _ rfl (.tmp 65) (.tmp 71) 26 rfl (wz.heap.size+1) 29 j0 VC.zero.val 5 80 PM hj0 hy0 hy1 hy2 rfl dE (.slice A4 m cap) m (aN bD qs) (by simp[Act.eval]) ((I6.out.own.alloc _).drew) (w6.heap.size+1) (some ⟨w6.heap.size,0,none⟩) 1 1 (bD p) (by simp[Act.eval]) ⟨rfl,fun _=>⟨_,rfl,by simp,ag _ _ _⟩⟩ (cq _) (by simp only[maxLen];omega) oM sO ?_;intro v' w7 hown7 hgr hat;obtain⟨A7,cap7,hv7,hle7⟩:=aY hown7;rw[hv7];have f2:w7.cell? ⟨wz.heap.size,3,none⟩=some (.slice A4 m cap):=km hgr (((I6.out.o.alloc _).drew.cell 3).trans rfl) hs;have z2:w7.frozen? ⟨wz.heap.size,3,none⟩=false:=(gQ hgr (I6.out.o.alloc _).drew.lt hs).trans ((I6.out.o.alloc _).drew.frozen 3))
        all_goals
         have HI:=qD (I6.out.put (((OG w6.heap.size w6).alloc (qL) _).drew) HP6.out hgr (by rw[<-hv7];exact hat) (by rw[<-hv7];exact hown7));have HL:=qD (I6.out.Nr LB6.out (qL) (qL) (((OG w6.heap.size w6).alloc (qL) _).drew) hgr (.slice A7 (m+1) cap7));clear f2 z2 hgr hat hown7 hv7 g0 g1 g2 g3 g4 y0 y1 y2 y3 y4 s3 I6 LB6 HP6;generalize w7.setCell ⟨wz.heap.size,3,none⟩ (.slice A7 (m+1) cap7)=w8 at*;go_wp2_with fail;go_roundw
         ·exact⟨i+1,m+1,A7,cap7,_,by omega,by omega,by go_num,HL.out,HI.out⟩
         ·exact iO
      ·have q3:=I5.out.o.cell 3;simp at q3;have HN:Hid (∀wq:World,Bl wc wq->Calls prog 258 #[c11.val] wq (eU (fun b=>((F2 b\/wz.heap.size+1<=b)/\(Value.slice A4 m cap).ownBlock≠some b)/\b<wc.heap.size) wq)):=qD fun wq hq=>sI x5 c11 wq (fun b hb=>by have:=hb.2;have:=hq.size;omega) (HX5.out.lt.step hq);go_upto_region 13 with fail
       go_region_law (first
        | (refine bG _ rfl (.tmp 56) (.tmp 59) 26 rfl (wz.heap.size+1) 29 j0 VC.zero.val 5 80 PM hj0 hy0 hy1 hy2 rfl dE (.slice A4 m cap) m (aN bD qs) (by simp[Act.eval]) (I7.out.own.alloc _) (w7.heap.size+1) (some ⟨w7.heap.size,0,none⟩) 1 1 (bD (d7,x7)) (by simp[Act.eval]) ⟨rfl,fun _=>⟨_,rfl,by simp,ag _ _ _⟩⟩ (cq _) (by simp only[maxLen];omega) oM (by simp;have:=I7.out.bs;omega) ?_;intro v' w8 hown8 hgr hat;obtain⟨A8,cap8,hv8,hle8⟩:=aY hown8;rw[hv8];have f2:w8.cell? ⟨wz.heap.size,3,none⟩=some (.slice A4 m cap):=km hgr (((I7.out.o.alloc _).cell 3).trans rfl) hs;have z2:w8.frozen? ⟨wz.heap.size,3,none⟩=false:=(gQ hgr (I7.out.o.alloc _).lt hs).trans ((I7.out.o.alloc _).frozen 3))
        | (go_simp;go_at_call 258;refine(HN.out _ ((OG _ _).drewN 1)).mono ?_;rintro e7 w7 ⟨d7,rfl,hr7,hb7⟩;replace hb7:Bl wc w7:=hb7.Mt;obtain⟨x7,hx7,-⟩:=hr7;have I7:=qD (I5.out.step hb7);have LB7:Hid (Bl wz w7):=qD (LB5.out.Ml hb7);have HX7:Hid (RV (fun b=>(F2 b\/wz.heap.size+1<=b)/\(Value.slice A4 m cap).ownBlock≠some b) w7 d7 x7):=qD (hx7.mono fun b hb=>by rcases hb with hb|hb;exact hb.1;(replace hb:wc.heap.size<=b:=hb);exact⟨.inr (by have:=I5.out.bs;omega),fun e=>by have:=eO I5.out.own e;omega⟩);clear hb7 hx7;have s3:=I7.out.o.cell 3;simp at s3;have hgo:wz.heap.size<w7.heap.size:=I7.out.bs))
       all_goals
        have HI:=qD (I7.out.put ((OG w7.heap.size w7).alloc (qL) _) HX7.out hgr (by rw[<-hv8];exact hat) (by rw[<-hv8];exact hown8));have HL:=qD (I7.out.Nr LB7.out (qL) (qL) ((OG w7.heap.size w7).alloc (qL) _) hgr (.slice A8 (m+1) cap8));clear f2 z2 hgr hat hown8 hv8 s3 hgo q3 d0 x0 x1 x2 x3 x4 I7 LB7 HX7 I5 LB5;generalize w8.setCell ⟨wz.heap.size,3,none⟩ (.slice A8 (m+1) cap8)=w9 at*;go_wp2_with fail;go_roundw
        ·exact⟨i+1,m+1,A8,cap8,_,by omega,by omega,by go_num,HL.out,HI.out⟩
        ·exact iO
   ·obtain rfl:i=c9.ln:=oM
    have J:=qD I.out.r;obtain⟨o0,o1,o2,o3,o4⟩:=aO.Mp I.out.o;obtain⟨b0,b1,b2,b3,b4⟩:=aO.Mp J.out.b;have z:=J.out.b.frozen;go_wp2_with fail;exact OO (aD rfl _ _ _ rfl _ ⟨6,0,empty,A4,m,cap,none,0,0⟩ (aO.Mn (J.out.b.putV ⟨6,0,empty,A4,m,cap,none,0,0⟩))) rfl (I.out.done (by unfold aF;omega) HF2O.out)
theorem fJ.NT{d:VC}{y:aC}(h:fJ w (w.heap.size+1+1) wr)(hF:∀b,F b->b<w.heap.size)(hr:RV (fun b=>F b\/w.heap.size+4<=b) wr d y)(hy:gq y):Gf F w (.returned d.val) (bM wr (w.heap.size+1+1) 0 d):=
 ⟨d,y,rfl,hr.Mr fun b hb _=>⟨hb.imp id fun h=>by omega,bC (by
  rcases hb with hb|hb
  ·have:=hF b hb;omega
  ·omega)⟩,hy,aW h.bel h.lo 0 _⟩
theorem AX:∀k,Gg k:=by
 intro k
 induction k with
 | zero=>intro e x c A n cc fs F w0 w _ _ _ _ hG;exact hG.elim
 | succ k ih=>
 intro e x c A n cc fs F w0 w hF0 hF hw0 hX hG hx hok hV hn;obtain⟨j0,hj0,hy0,hy1,hy2⟩:=Pb dB;obtain⟨⟨hNA,hNV⟩,hkn,hGK⟩:=hG;have HNA:=qD hNA;have HNV:=qD hNV;have HGK:=qD hGK;have HFH:=qD hF;have HF0:=qD hF0;have HW0:=qD hw0;have HX0:=qD hX;have HX:=qD hx;have HOK:=qD hok;have HV:=qD hV;have HIH:=qD ih;have HN:=qD hn;have hn0:n<=100:=oM
 have I0:Hid (JM F w e c ((((w.alloc (.cells (aP e) 35)).alloc (.cells c.arr 29)).alloc (.cells VC.zero.arr 29)).alloc (.cells VC.zero.arr 29))):=qD ⟨(((aG.Mm rfl).alloc _).alloc _).alloc _,((aG.Mm sM).alloc _).alloc _,⟨(aG.Mm sM).alloc _,by omega,((((OG _ _).alloc (qL) _).alloc sM _).alloc sO _).alloc sO _⟩,VC.zero,aC.zero,aG.Mm sM,RV.zero,fun _=>rfl⟩;clear hF hF0 hw0 hX hx hok hV ih hNA hNV hGK hn;go_enter func159,ntmps159;go_upto_region 2 with fail
 change Code.wp _ _ _ _ ((((w.alloc (.cells (aP e) 35)).alloc (.cells c.arr 29)).alloc (.cells VC.zero.arr 29)).alloc (.cells VC.zero.arr 29));have HW4:Hid (w.heap.size+4<=((((w.alloc (.cells (aP e) 35)).alloc (.cells c.arr 29)).alloc (.cells VC.zero.arr 29)).alloc (.cells VC.zero.arr 29)).heap.size):=qD sM;generalize ((((w.alloc (.cells (aP e) 35)).alloc (.cells c.arr 29)).alloc (.cells VC.zero.arr 29)).alloc (.cells VC.zero.arr 29))=wa at*;obtain⟨d0,d1,d2,d3,d9,d10⟩:=aa I0.out.be;have I:=I0;by_cases h1:e.op=1
 ·have HVA:=qD (HNV.out h1);rw[h1] at d0;clear h1;have r0:=(I.out.be.cell 4).trans rfl;have r1:=(I.out.be.cell 5).trans rfl;have r2:=(I.out.be.cell 6).trans rfl;have r3:=(I.out.be.cell 7).trans rfl;have r4:=(I.out.be.cell 8).trans rfl;obtain⟨uv,yv,hvb,hvy,hvk⟩:=I.out.v;have HVB:=qD hvb;clear hvb hvy hvk;obtain⟨v0,v1,v2,v3,v4⟩:=aO.Mp HVB.out;have zv:=HVB.out.frozen;have HRA:Hid (ob (fun b=>F b\/w.heap.size+4<=b) wa e.arg.1):=qD ⟨e.arg.2,(((HX0.out.open.arg.lt.mono fun b hb=>hb.2).step (HW0.out.Ml I.out.r.bel))).mono fun b hb=>.inl (HF0.out b hb),fun h=>absurd h (by have:=(nR HVA.out).1;omega)⟩;go_upto_region 22 with fail
  have I1:=qD (I.out.put HFH.out HRA.out);change Code.wp _ _ _ _ (bM wa (w.heap.size+3) 0 e.arg.1);clear r0 r1 r2 r3 r4 v0 v1 v2 v3 v4 zv HVB HRA d0 d1 d2 d3 d9 d10 I0 I;generalize bM wa (w.heap.size+3) 0 e.arg.1=wb at*;have I:=I1;obtain⟨u,y,hu,hy,hy0⟩:=I.out.v;have HU:=qD hu;have HY:=qD hy;have HY0:=qD hy0;have HKY:Hid (u.k=y.k):=qD hy.open.k;obtain⟨u0,u1,u2,u3,u4⟩:=aO.Mp hu;have J:=qD I.out.r;clear hu hy hy0;cases hz:(u.k != 0)
  ·obtain⟨b0,b1,b2,b3,b4⟩:=aO.Mp J.out.b;have z:=J.out.b.frozen;have HZ:Hid (y.k=0):=qD (by rw[<-HKY.out];simpa using hz);go_wp2_with fail;have q:=aO.Mn (J.out.b.putV u);refine OO (aD rfl _ _ _ rfl _ u q) rfl ?_;exact J.out.NT HFH.out HY.out (.inl (HY0.out HZ.out))
  ·have HVD:=qD (di y u _ (HY.out.mono fun _ _=>trivial));obtain⟨b,hb⟩:∃b,aJ y=b:=⟨_,rfl⟩;have HB:=qD hb;rw[hb] at HVD;clear hb;cases b
   ·go_wp2_with (first
     | (go_at_call 8;refine HVD.out.mono ?_;rintro e2 w2 ⟨rfl,hb⟩;replace J:=qD (J.out.step hb);clear hb)
     | (go_at_call 34;refine(gR _).mono ?_;rintro e3 w3 ⟨rfl,hb⟩;replace J:=qD (J.out.step hb);clear hb;obtain⟨b0,b1,b2,b3,b4⟩:=aO.Mp J.out.b;have z:=J.out.b.frozen))
    have q:=aO.Mn (J.out.b.putV eL);refine OO (aD rfl _ _ _ rfl _ eL q) rfl ?_;exact J.out.NT HFH.out jU (.inr gP)
   ·go_wp2_with (go_at_call 8;refine HVD.out.mono ?_;rintro e2 w2 ⟨rfl,hb⟩;replace J:=qD (J.out.step hb);have HU2:=qD (HU.out.step hb);have HY2:=qD (HY.out.step hb);clear hb u0 u1 u2 u3 u4;obtain⟨u0,u1,u2,u3,u4⟩:=aO.Mp HU2.out;obtain⟨b0,b1,b2,b3,b4⟩:=aO.Mp J.out.b;have z:=J.out.b.frozen);have q:=aO.Mn (J.out.b.putV u);refine OO (aD rfl _ _ _ rfl _ u q) rfl ?_;exact J.out.NT HFH.out HY2.out (.inr HB.out)
 by_cases h2:e.op=2
 ·rw[h2] at d0;obtain⟨a0,a1,a2,a3,a4⟩:=aO.Mp I.out.bd;have HAT:=qD (xu x F e.path.xs c e.path.A e.path.n e.path.c wa (fun b hb=>by have:=HFH.out b hb;have:=I.out.r.bel.size;omega) (HX.out.step I.out.r.bel) HOK.out (HX0.out.open.path.step (HW0.out.Ml I.out.r.bel)));go_upto_region 22 with(go_at_call 209;refine HAT.out.mono ?_;rintro e2 w2 ⟨d,rfl,hr,hb⟩;have hlt:=I.out.v;have HRD:Hid (ob (fun b=>F b\/w.heap.size+4<=b) w2 d):=qD (hr.mono fun b hb=>hb.imp id fun h=>by obtain⟨_,_,hh,_⟩:=hlt;have:=hh.lt;omega);replace I:=qD (I.out.step hb);clear hb hr hlt a0 a1 a2 a3 a4 d1;obtain⟨uv,yv,hvb,hvy,hvk⟩:=I.out.v;have HVB:=qD hvb;clear hvb hvy hvk;obtain⟨v0,v1,v2,v3,v4⟩:=aO.Mp HVB.out;have zv:=HVB.out.frozen)
  have I1:=qD (I.out.put HFH.out HRD.out);change Code.wp _ _ _ _ (bM w2 (w.heap.size+3) 0 d);clear v0 v1 v2 v3 v4 zv HVB HRD d0 I0 I HAT;generalize bM w2 (w.heap.size+3) 0 d=wb at*;have I:=I1;obtain⟨u,y,hu,hy,hy0⟩:=I.out.v;have HU:=qD hu;have HY:=qD hy;have HY0:=qD hy0;have HKY:Hid (u.k=y.k):=qD hy.open.k;obtain⟨u0,u1,u2,u3,u4⟩:=aO.Mp hu;have J:=qD I.out.r;clear hu hy hy0;cases hz:(u.k != 0)
  ·obtain⟨b0,b1,b2,b3,b4⟩:=aO.Mp J.out.b;have z:=J.out.b.frozen;have HZ:Hid (y.k=0):=qD (by rw[<-HKY.out];simpa using hz);go_wp2_with fail;have q:=aO.Mn (J.out.b.putV u);refine OO (aD rfl _ _ _ rfl _ u q) rfl ?_;exact J.out.NT HFH.out HY.out (.inl (HY0.out HZ.out))
  ·have HVD:=qD (di y u _ (HY.out.mono fun _ _=>trivial));obtain⟨b,hb⟩:∃b,aJ y=b:=⟨_,rfl⟩;have HB:=qD hb;rw[hb] at HVD;clear hb;cases b
   ·go_wp2_with (first
     | (go_at_call 8;refine HVD.out.mono ?_;rintro e2 w2 ⟨rfl,hb⟩;replace J:=qD (J.out.step hb);clear hb)
     | (go_at_call 34;refine(gR _).mono ?_;rintro e3 w3 ⟨rfl,hb⟩;replace J:=qD (J.out.step hb);clear hb;obtain⟨b0,b1,b2,b3,b4⟩:=aO.Mp J.out.b;have z:=J.out.b.frozen))
    have q:=aO.Mn (J.out.b.putV eL);refine OO (aD rfl _ _ _ rfl _ eL q) rfl ?_;exact J.out.NT HFH.out jU (.inr gP)
   ·go_wp2_with (go_at_call 8;refine HVD.out.mono ?_;rintro e2 w2 ⟨rfl,hb⟩;replace J:=qD (J.out.step hb);have HU2:=qD (HU.out.step hb);have HY2:=qD (HY.out.step hb);clear hb u0 u1 u2 u3 u4;obtain⟨u0,u1,u2,u3,u4⟩:=aO.Mp HU2.out;obtain⟨b0,b1,b2,b3,b4⟩:=aO.Mp J.out.b;have z:=J.out.b.frozen);have q:=aO.Mn (J.out.b.putV u);refine OO (aD rfl _ _ _ rfl _ u q) rfl ?_;exact J.out.NT HFH.out HY2.out (.inr HB.out)
 by_cases h3:e.op=3
 ·rw[h3] at d0;clear h1 h2 h3;go_upto_region 15 with fail
  clear d0 d1 d2 d3 d9 d10
  go_loopw [8] (fun v8 wr=>∃i:Nat,i<=n/\v8=.int .i64 i/\JM F w e c wr) (fun v8 _=>n-(intOf v8).toNat)
  ·exact⟨0,ON _,rfl,I.out⟩
  case round=>
   obtain⟨i,hi,rfl,hI⟩:=hrel;clear I I0;have I:=qD hI;clear hI;by_cases hlt:i<n
   ·obtain⟨b,off,q,hA,hbl,hqi,hqm,hrg⟩:=(HV.out.step I.out.r.bel).sr.row hlt;subst hA;have X0:=aX (a:=⟨b,off+i*6,none⟩) (v:=.string q.2.s) (hrg 0 _ rfl);have HVA:Hid (aO wr b (off+i*6+1) q.1):=qD ⟨hrg 1 _ rfl,hrg 2 _ rfl,hrg 3 _ rfl,hrg 4 _ rfl,hrg 5 _ rfl⟩;have X2:∀kk:BW wr,kk.val.cell? ⟨w.heap.size,2,none⟩=some (.string e.name):=fun kk=>kk.cell (aa I.out.be).d2;have i1:(0:Int)<=(i:Int):=oM
    have i2:(i:Int)<(n:Int):=oM
    have HQ:=qD (HV.out.rv q hqm);have HQO:=qD (HV.out.ok q hqm);clear hrg hqi hqm hbl;cases hz:(q.2.s.toList==e.name.toList)
    all_goals
     go_upto_region 17 with fail
     refine aL kR kR ?_
     repeat(go_big_quiet_step (fail))
     refine Oc ?_;rintro _ ⟨kw,rfl⟩;replace I:=qD (I.out.step kw.below);replace HVA:=qD (HVA.out.step kw.below);clear X0 X2;generalize kw.val=w2 at*
    ·go_wp2_with fail;go_roundw
     ·exact⟨i+1,by omega,by go_num,I.out⟩
     ·exact iO
    ·obtain⟨a0,a1,a2,a3,a4⟩:=HVA.out;have d1:=(aa I.out.be).d1;have HAT:=qD fun(wq:World) (hq:Bl w2 wq)=>xu q.2.v F e.path.xs q.1 e.path.A e.path.n e.path.c wq (fun b hb=>by have:=HFH.out b hb;have:=I.out.r.bel.size;have:=hq.size;omega) (HQ.out.step (I.out.r.bel.Ml hq)) HQO.out (HX0.out.open.path.step (HW0.out.Ml (I.out.r.bel.Ml hq)));go_upto_region 18 with fail
     go_region_law (go_simp;go_at_call 209;refine(HAT.out _ ((OG _ _).drewN 1)).mono ?_;rintro e7 w7 ⟨d7,rfl,hr7,hb7⟩;replace hb7:Bl w2 w7:=hb7.Mt;have hlt7:=I.out.v;have HRD:Hid (ob (fun b=>F b\/w.heap.size+4<=b) w7 d7):=qD (hr7.mono fun b hb=>hb.imp id fun h=>by(replace h:w2.heap.size<=b:=h);obtain⟨_,_,hh,_⟩:=hlt7;have:=hh.lt;omega);replace I:=qD (I.out.step hb7);clear hb7 hr7 hlt7 a0 a1 a2 a3 a4 d1;obtain⟨uv,yv,hvb,hvy,hvk⟩:=I.out.v;have HVB:=qD hvb;clear hvb hvy hvk;obtain⟨v0,v1,v2,v3,v4⟩:=aO.Mp HVB.out;have zv:=HVB.out.frozen)
     all_goals
      have I1:=qD (I.out.put HFH.out HRD.out)
      (try go_simp)
      try go_frame
      change (_:Act->World->Prop) _ (bM w7 (w.heap.size+3) 0 d7);clear v0 v1 v2 v3 v4 zv HVB HRD I HAT HVA;generalize bM w7 (w.heap.size+3) 0 d7=w8 at*;go_wp2_with fail;go_roundw
      ·exact⟨i+1,by omega,by go_num,I1.out⟩
      ·exact iO
   ·obtain rfl:i=n:=oM
    go_upto_region 22 with fail
    obtain⟨u,y,hu,hy,hy0⟩:=I.out.v;have HU:=qD hu;have HY:=qD hy;have HY0:=qD hy0;have HKY:Hid (u.k=y.k):=qD hy.open.k;obtain⟨u0,u1,u2,u3,u4⟩:=aO.Mp hu;have J:=qD I.out.r;clear hu hy hy0;cases hz:(u.k != 0)
    ·obtain⟨b0,b1,b2,b3,b4⟩:=aO.Mp J.out.b;have z:=J.out.b.frozen;have HZ:Hid (y.k=0):=qD (by rw[<-HKY.out];simpa using hz);go_wp2_with fail;have q:=aO.Mn (J.out.b.putV u);refine OO (aD rfl _ _ _ rfl _ u q) rfl ?_;exact J.out.NT HFH.out HY.out (.inl (HY0.out HZ.out))
    ·have HVD:=qD (di y u _ (HY.out.mono fun _ _=>trivial));obtain⟨b,hb⟩:∃b,aJ y=b:=⟨_,rfl⟩;have HB:=qD hb;rw[hb] at HVD;clear hb;cases b
     ·go_wp2_with (first
       | (go_at_call 8;refine HVD.out.mono ?_;rintro e2 w2 ⟨rfl,hb⟩;replace J:=qD (J.out.step hb);clear hb)
       | (go_at_call 34;refine(gR _).mono ?_;rintro e3 w3 ⟨rfl,hb⟩;replace J:=qD (J.out.step hb);clear hb;obtain⟨b0,b1,b2,b3,b4⟩:=aO.Mp J.out.b;have z:=J.out.b.frozen))
      have q:=aO.Mn (J.out.b.putV eL);refine OO (aD rfl _ _ _ rfl _ eL q) rfl ?_;exact J.out.NT HFH.out jU (.inr gP)
     ·go_wp2_with (go_at_call 8;refine HVD.out.mono ?_;rintro e2 w2 ⟨rfl,hb⟩;replace J:=qD (J.out.step hb);have HU2:=qD (HU.out.step hb);have HY2:=qD (HY.out.step hb);clear hb u0 u1 u2 u3 u4;obtain⟨u0,u1,u2,u3,u4⟩:=aO.Mp HU2.out;obtain⟨b0,b1,b2,b3,b4⟩:=aO.Mp J.out.b;have z:=J.out.b.frozen);have q:=aO.Mn (J.out.b.putV u);refine OO (aD rfl _ _ _ rfl _ u q) rfl ?_;exact J.out.NT HFH.out HY2.out (.inr HB.out)
 by_cases h32:e.op=32\/e.op=33
 ·have hk2:e.kn=2:=by
   have hk:lm e.op=2:=by rcases h32 with h|h<;>rw[h]<;>rfl
   have:=HNA.out.2.2.1 oM;omega
  have RF:=qD (jP I.out.be);obtain⟨a0,a1,a2,a3,a4⟩:=aO.Mp I.out.bd;have HEA:=qD (AW k HIH.out e x c A n cc fs F w0 wa HF0.out (fun b hb=>by have:=HFH.out b hb;have:=I.out.r.bel.size;omega) (HW0.out.Ml I.out.r.bel) HX0.out hk2 HGK.out (HX.out.step I.out.r.bel) HOK.out (HV.out.step I.out.r.bel) (by have:=HN.out;omega));clear hk2 h1 h2 h3;rcases h32 with h32|h32
  all_goals
   rw[h32] at d0;clear h32
   go_upto_region 22 with(first
    | ((with_reducible show wpList _ _ _ (⟨_,.load 35 _,_,_,_,_⟩::_) _ _);refine aH rfl 35 _ rfl w.heap.size 0 rfl _ _ RF.out Pe rfl kR ?_)
    | (go_at_call 210;refine HEA.out.mono ?_;rintro e2 w2 ⟨d,rfl,hr,hb⟩;have hlt:=I.out.v;have HRD:Hid (ob (fun b=>F b\/w.heap.size+4<=b) w2 d):=qD (hr.mono fun b hb=>hb.imp id fun h=>by obtain⟨_,_,hh,_⟩:=hlt;have:=hh.lt;omega);replace I:=qD (I.out.step hb);clear hb hr hlt a0 a1 a2 a3 a4;obtain⟨uv,yv,hvb,hvy,hvk⟩:=I.out.v;have HVB:=qD hvb;clear hvb hvy hvk;obtain⟨v0,v1,v2,v3,v4⟩:=aO.Mp HVB.out;have zv:=HVB.out.frozen))
   have I1:=qD (I.out.put HFH.out HRD.out);change Code.wp _ _ _ _ (bM w2 (w.heap.size+3) 0 d);clear v0 v1 v2 v3 v4 zv HVB HRD d0 d1 d2 d3 d9 d10 I0 I HEA RF;generalize bM w2 (w.heap.size+3) 0 d=wb at*;have I:=I1;obtain⟨u,y,hu,hy,hy0⟩:=I.out.v;have HU:=qD hu;have HY:=qD hy;have HY0:=qD hy0;have HKY:Hid (u.k=y.k):=qD hy.open.k;obtain⟨u0,u1,u2,u3,u4⟩:=aO.Mp hu;have J:=qD I.out.r;clear hu hy hy0;cases hz:(u.k != 0)
   ·obtain⟨b0,b1,b2,b3,b4⟩:=aO.Mp J.out.b;have z:=J.out.b.frozen;have HZ:Hid (y.k=0):=qD (by rw[<-HKY.out];simpa using hz);go_wp2_with fail;have q:=aO.Mn (J.out.b.putV u);refine OO (aD rfl _ _ _ rfl _ u q) rfl ?_;exact J.out.NT HFH.out HY.out (.inl (HY0.out HZ.out))
   ·have HVD:=qD (di y u _ (HY.out.mono fun _ _=>trivial));obtain⟨b,hb⟩:∃b,aJ y=b:=⟨_,rfl⟩;have HB:=qD hb;rw[hb] at HVD;clear hb;cases b
    ·go_wp2_with (first
      | (go_at_call 8;refine HVD.out.mono ?_;rintro e2 w2 ⟨rfl,hb⟩;replace J:=qD (J.out.step hb);clear hb)
      | (go_at_call 34;refine(gR _).mono ?_;rintro e3 w3 ⟨rfl,hb⟩;replace J:=qD (J.out.step hb);clear hb;obtain⟨b0,b1,b2,b3,b4⟩:=aO.Mp J.out.b;have z:=J.out.b.frozen))
     have q:=aO.Mn (J.out.b.putV eL);refine OO (aD rfl _ _ _ rfl _ eL q) rfl ?_;exact J.out.NT HFH.out jU (.inr gP)
    ·go_wp2_with (go_at_call 8;refine HVD.out.mono ?_;rintro e2 w2 ⟨rfl,hb⟩;replace J:=qD (J.out.step hb);have HU2:=qD (HU.out.step hb);have HY2:=qD (HY.out.step hb);clear hb u0 u1 u2 u3 u4;obtain⟨u0,u1,u2,u3,u4⟩:=aO.Mp HU2.out;obtain⟨b0,b1,b2,b3,b4⟩:=aO.Mp J.out.b;have z:=J.out.b.frozen);have q:=aO.Mn (J.out.b.putV u);refine OO (aD rfl _ _ _ rfl _ u q) rfl ?_;exact J.out.NT HFH.out HY2.out (.inr HB.out)
 have c1:(e.op==1)=false:=by simpa using h1
 have c2:(e.op==2)=false:=by simpa using h2
 have c3:(e.op==3)=false:=by simpa using h3
 have c32:(e.op==32)=false:=by simpa using fun h=>h32 (.inl h)
 have c33:(e.op==33)=false:=by simpa using fun h=>h32 (.inr h)
 have HOP:Hid (e.op≠1/\e.op≠2/\e.op≠3/\e.op≠32/\e.op≠33):=qD ⟨h1,h2,h3,fun h=>h32 (.inl h),fun h=>h32 (.inr h)⟩;have HFB:Hid (∀b,F b->b<wa.heap.size):=qD fun b hb=>by have:=HFH.out b hb;have:=I.out.r.bel.size;omega
 have HWA:=qD (HW0.out.Ml I.out.r.bel);clear h1 h2 h3 h32;go_upto_region 5 with fail
 clear c1 c2 c3 c32 c33 d0 d1 d2 d3 d9 d10 I0
 go_loopw [9,10] (fun v9 v10 wr=>∃(i:Nat) (ps:List PV),i<=e.kn/\v10=.int .i64 i/\Iq F wa i v9 ps wr) (fun _ v10 _=>e.kn-(intOf v10).toNat)
 ·exact⟨0,[],ON _,rfl,bP _ _ _ _,rfl,OG _ _,by simp,by simp⟩
 case round=>
  obtain⟨i,ps,hi,rfl,hI⟩:=hrel;obtain⟨A9,c9,rfl,hsr⟩:=SR.Mq cB hI.own hI.ln;have HI:=qD hI;have HSR:=qD hsr;have d10:=(aa (I.out.be.step hI.bel)).d10;obtain⟨a0,a1,a2,a3,a4⟩:=aO.Mp (I.out.bd.step hI.bel);clear hI hsr;by_cases hlt:i<e.kn
  ·obtain⟨kb,ko,q,hA,hb,-,hm,hrg⟩:=HX0.out.open.sr.row hlt;have RG:=qD (bB hrg (HWA.out.Ml HI.out.bel) hb);have hrg2:=qD hrg;have hb2:=qD hb;have HLB:Hid (kb<wr.heap.size):=qD (Ol hb (HWA.out.Ml HI.out.bel).size);have IX:Hid (∀w',Bl wr w'->Calls prog 159 #[.agg (dY q).toArray,c.val,.slice A n cc] w' (Gf F w')):=qD fun w' hw=>HIH.out q x c A n cc fs F w0 w' HF0.out (fun b hb=>by have:=HFB.out b hb;have:=HI.out.bel.size;have:=hw.size;omega) (HWA.out.Ml (HI.out.bel.Ml hw)) (HX0.out.open.kids q hm) (HGK.out q hm) (HX.out.step (I.out.r.bel.Ml (HI.out.bel.Ml hw))) HOK.out (HV.out.step (I.out.r.bel.Ml (HI.out.bel.Ml hw))) (by have:=HN.out;omega);rw[hA] at d10;have i0:(0:Int)<=(i:Int):=oM
   have i1:(i:Int)<(e.kn:Int):=oM
   have hk256:e.kn<=256:=hkn;clear hrg hA;go_upto_region 7 with fail
   have KS:Hid (∀w',Bl wr w'->(fun w'=>(Instr.loadAt 35 (.pointer (some ⟨kb,ko+i*11,none⟩))).run prog w'=.ok (.agg (dY q).toArray) w'/\w'.cell? ⟨w.heap.size,10,none⟩=some (.slice (some ⟨kb,ko,none⟩) e.kn e.kc)/\w'.cell? ⟨w.heap.size+1,0,none⟩=some (.int .i64 c.k)/\w'.cell? ⟨w.heap.size+1,1,none⟩=some (.int .i64 c.n)/\w'.cell? ⟨w.heap.size+1,2,none⟩=some (.string c.t)/\w'.cell? ⟨w.heap.size+1,3,none⟩=some (.slice c.LA c.ln c.lc)/\w'.cell? ⟨w.heap.size+1,4,none⟩=some (.slice c.DA c.dn c.dc)) w'):=qD fun w' hw=>
    ⟨Qy w' kb (ko+i*11) 35 (dY q) _ (bB RG.out hw HLB.out) Pe rfl kR,(hw.cell (p:=⟨w.heap.size,10,none⟩) (Oj wr _ d10)).trans d10,(hw.cell (p:=⟨w.heap.size+1,0,none⟩) (Oj wr _ a0)).trans a0,(hw.cell (p:=⟨w.heap.size+1,1,none⟩) (Oj wr _ a1)).trans a1,(hw.cell (p:=⟨w.heap.size+1,2,none⟩) (Oj wr _ a2)).trans a2,(hw.cell (p:=⟨w.heap.size+1,3,none⟩) (Oj wr _ a3)).trans a3,(hw.cell (p:=⟨w.heap.size+1,4,none⟩) (Oj wr _ a4)).trans a4⟩
   have KS2:Hid (∀w',Bl wa w'->(fun w'=>(Instr.loadAt 35 (.pointer (some ⟨kb,ko+i*11,none⟩))).run prog w'=.ok (.agg (dY q).toArray) w'/\w'.cell? ⟨w.heap.size,10,none⟩=some (.slice (some ⟨kb,ko,none⟩) e.kn e.kc)/\w'.cell? ⟨w.heap.size+1,0,none⟩=some (.int .i64 c.k)/\w'.cell? ⟨w.heap.size+1,1,none⟩=some (.int .i64 c.n)/\w'.cell? ⟨w.heap.size+1,2,none⟩=some (.string c.t)/\w'.cell? ⟨w.heap.size+1,3,none⟩=some (.slice c.LA c.ln c.lc)/\w'.cell? ⟨w.heap.size+1,4,none⟩=some (.slice c.DA c.dn c.dc)) w'):=qD fun w' hw=>by
    have h10:=(aa (I.out.be.step hw)).d10;have hA2:=(aa (I.out.be.step HI.out.bel)).d10.symm.trans d10;injection hA2 with hA2
    injection hA2 with hA2
    rw[hA2] at h10;obtain⟨y0,y1,y2,y3,y4⟩:=aO.Mp (I.out.bd.step hw);exact⟨Qy w' kb (ko+i*11) 35 (dY q) _ (bB hrg2.out (HWA.out.Ml hw) hb2.out) Pe rfl kR,h10,y0,y1,y2,y3,y4⟩
   have B:=qD ((OG wr.heap.size wr).drewN 1);clear d10 a0 a1 a2 a3 a4;refine PH ?_;refine Oy (S:=(fun w'=>(Instr.loadAt 35 (.pointer (some ⟨kb,ko+i*11,none⟩))).run prog w'=.ok (.agg (dY q).toArray) w'/\w'.cell? ⟨w.heap.size,10,none⟩=some (.slice (some ⟨kb,ko,none⟩) e.kn e.kc)/\w'.cell? ⟨w.heap.size+1,0,none⟩=some (.int .i64 c.k)/\w'.cell? ⟨w.heap.size+1,1,none⟩=some (.int .i64 c.n)/\w'.cell? ⟨w.heap.size+1,2,none⟩=some (.string c.t)/\w'.cell? ⟨w.heap.size+1,3,none⟩=some (.slice c.LA c.ln c.lc)/\w'.cell? ⟨w.heap.size+1,4,none⟩=some (.slice c.DA c.dn c.dc))) kR ?_ (fun hHeld=>?_)
   ·(try dsimp only);exact KS.out _ B.out
   refine rV 0 rfl ?_
   try go_frame
   refine rV 1 rfl ?_
   try go_frame
   refine rV 2 rfl ?_
   try go_frame
   refine rV 3 rfl ?_
   try go_frame
   refine rV 4 rfl ?_
   try go_frame
   refine rT (v:=.agg (dY q).toArray) 5 rfl (fun w' hSw=>bm (p:=.pointer (some ⟨kb,ko+i*11,none⟩)) rfl rfl hSw.1) ?_
   try go_frame
   refine rV 6 rfl ?_
   try go_frame
   refine rV 7 rfl ?_
   try go_frame
   refine rY 8 rfl fun K hK=>?_;go_simp;refine(IX.out _ B.out).mono ?_;rintro e3 W1 ⟨d3,y3,rfl,hr3,ho3,hb3⟩;have HR3:=qD ((HI.out.step B.out).fresh HFB.out hr3);replace HI:=qD ((HI.out.step B.out).step hb3);have HO3:=qD ho3;have B1:=qD (B.out.Ml hb3);clear hb3 hr3 ho3
   (try go_wp2_with fail)
   clear hHeld;refine hK.out _ _ (KS.out _ B1.out) fun hHeld=>?_;clear hK K
   try go_frame
   refine rY 9 rfl fun K hK=>?_;go_simp;have HI2:=qD (HI.out.step ((OG W1.heap.size W1).alloc (qL) (Obj.cells d3.arr 29)));have B2:=qD (B1.out.alloc B1.out.size (Obj.cells d3.arr 29));clear hHeld;refine hK.out _ _ (KS.out _ B2.out) fun hHeld=>?_;clear hK K
   try go_frame
   refine rY 10 rfl fun K hK=>?_;refine fC _ (.tmp 21) (.tmp 30) 26 rfl wa.heap.size 29 j0 VC.zero.val 5 80 PM hj0 hy0 hy1 hy2 rfl dE (.slice A9 i c9) i (aN bD ps) rfl HI2.out.own (W1.heap.size+1) (some ⟨W1.heap.size,0,none⟩) 1 1 (bD (d3,y3)) rfl ⟨rfl,fun _=>⟨_,rfl,On _,ag _ _ _⟩⟩ (cq _) (by unfold maxLen;omega) oM (OU HI2.out.bel.size (qL)) ?_;intro v7 W2 hown hgr hat;have HIN:=qD (HI2.out.add (HR3.out.alloc _) HO3.out hgr hat hown);clear hown hgr hat;clear hHeld;refine hK.out _ _ (KS2.out _ HIN.out.bel) fun hHeld=>?_;clear hK K
   try go_frame
   refine rV 11 rfl ?_
   try go_frame
   refine rD ?_ _;refine PL ?_;clear hHeld;go_wp2_with fail;go_roundw
   ·exact⟨i+1,ps++[(d3,y3)],by omega,by go_num,HIN.out⟩
   ·exact iO
  ·obtain rfl:i=e.kn:=oM
   have RF:=qD (jP (I.out.be.step HI.out.bel));have HAP:=qD (xv (F:=fun b=>(F b\/wa.heap.size<=b)/\b<wr.heap.size) e HOP.out HNA.out ps A9 e.kn c9 wr (fun b hb=>hb.2) (HX0.out.step (HWA.out.Ml HI.out.bel)) ⟨HSR.out,fun p hp=>(HI.out.rv p hp).lt.mono fun b hb=>⟨hb.1.1,hb.2⟩,HI.out.ok,hkn⟩ rfl);replace I:=qD (I.out.step HI.out.bel);have hba:=HI.out.bel.size;have hwa4:w.heap.size+4<=wa.heap.size:=HW4.out
   go_upto_region 22 with(first
    | ((with_reducible show wpList _ _ _ (⟨_,.load 35 _,_,_,_,_⟩::_) _ _);refine aH rfl 35 _ rfl w.heap.size 0 rfl _ _ RF.out Pe rfl kR ?_)
    | (go_at_call 211;refine HAP.out.mono ?_;rintro e2 w2 ⟨d,rfl,hr,hb⟩;have HRD:Hid (ob (fun b=>F b\/w.heap.size+4<=b) w2 d):=qD (hr.mono fun b hb=>by rcases hb with⟨hb|hb,-⟩|hb;exact .inl hb;exact .inr oM;exact .inr oM);replace I:=qD (I.out.step hb);clear hb hr d10 a0 a1 a2 a3 a4;obtain⟨uv,yv,hvb,hvy,hvk⟩:=I.out.v;have HVB:=qD hvb;clear hvb hvy hvk;obtain⟨v0,v1,v2,v3,v4⟩:=aO.Mp HVB.out;have zv:=HVB.out.frozen))
   have I1:=qD (I.out.put HFH.out HRD.out);change Code.wp _ _ _ _ (bM w2 (w.heap.size+3) 0 d);clear v0 v1 v2 v3 v4 zv HVB HRD I HAP RF HSR HI;generalize bM w2 (w.heap.size+3) 0 d=wb at*;have I:=I1;obtain⟨u,y,hu,hy,hy0⟩:=I.out.v;have HU:=qD hu;have HY:=qD hy;have HY0:=qD hy0;have HKY:Hid (u.k=y.k):=qD hy.open.k;obtain⟨u0,u1,u2,u3,u4⟩:=aO.Mp hu;have J:=qD I.out.r;clear hu hy hy0;cases hz:(u.k != 0)
   ·obtain⟨b0,b1,b2,b3,b4⟩:=aO.Mp J.out.b;have z:=J.out.b.frozen;have HZ:Hid (y.k=0):=qD (by rw[<-HKY.out];simpa using hz);go_wp2_with fail;have q:=aO.Mn (J.out.b.putV u);refine OO (aD rfl _ _ _ rfl _ u q) rfl ?_;exact J.out.NT HFH.out HY.out (.inl (HY0.out HZ.out))
   ·have HVD:=qD (di y u _ (HY.out.mono fun _ _=>trivial));obtain⟨b,hb⟩:∃b,aJ y=b:=⟨_,rfl⟩;have HB:=qD hb;rw[hb] at HVD;clear hb;cases b
    ·go_wp2_with (first
      | (go_at_call 8;refine HVD.out.mono ?_;rintro e2 w2 ⟨rfl,hb⟩;replace J:=qD (J.out.step hb);clear hb)
      | (go_at_call 34;refine(gR _).mono ?_;rintro e3 w3 ⟨rfl,hb⟩;replace J:=qD (J.out.step hb);clear hb;obtain⟨b0,b1,b2,b3,b4⟩:=aO.Mp J.out.b;have z:=J.out.b.frozen))
     have q:=aO.Mn (J.out.b.putV eL);refine OO (aD rfl _ _ _ rfl _ eL q) rfl ?_;exact J.out.NT HFH.out jU (.inr gP)
    ·go_wp2_with (go_at_call 8;refine HVD.out.mono ?_;rintro e2 w2 ⟨rfl,hb⟩;replace J:=qD (J.out.step hb);have HU2:=qD (HU.out.step hb);have HY2:=qD (HY.out.step hb);clear hb u0 u1 u2 u3 u4;obtain⟨u0,u1,u2,u3,u4⟩:=aO.Mp HU2.out;obtain⟨b0,b1,b2,b3,b4⟩:=aO.Mp J.out.b;have z:=J.out.b.frozen);have q:=aO.Mn (J.out.b.putV u);refine OO (aD rfl _ _ _ rfl _ u q) rfl ?_;exact J.out.NT HFH.out HY2.out (.inr HB.out)
def Ir:Prop:=∀(e:dS) (x:aC) (c:VC) (w:World),WX w e->RW w c x->gq x->cZ w->Calls prog 106 #[.agg (dY e).toArray,c.val] w fun en w'=>∃d:VC,en=.returned d.val/\Bl w w'
theorem fJ.Ni(h:fJ w g wr)(d:VC):∃dd:VC,Ending.returned d.val=.returned dd.val/\Bl w (bM wr g 0 d):=⟨d,rfl,aW h.bel h.lo 0 d⟩
theorem AY:Ir:=by
 intro e x c w hX hx hok hT;have HX:=qD hX;have HXV:Hid (RV (fun b=>b<w.heap.size) w c x):=qD (hx.lt.mono fun b hb=>hb.2);have HOK:=qD hok;have I0:Hid (aG (((w.alloc (.cells (aP e) 35)).alloc (.cells c.arr 29)).alloc (.cells VC.zero.arr 29)) w.heap.size 35 (aP e)/\aG (((w.alloc (.cells (aP e) 35)).alloc (.cells c.arr 29)).alloc (.cells VC.zero.arr 29)) (w.heap.size+1) 29 c.arr/\fJ w (w.heap.size+1+1) (((w.alloc (.cells (aP e) 35)).alloc (.cells c.arr 29)).alloc (.cells VC.zero.arr 29))):=qD ⟨((aG.Mm rfl).alloc _).alloc _,(aG.Mm sM).alloc _,aG.Mm sM,by omega,(((OG _ _).alloc (qL) _).alloc sM _).alloc sO _⟩;have HT:=qD hT;clear hX hx hok hT;go_enter func106,ntmps106;go_upto_region 1 with fail
 change Code.wp _ _ _ _ (((w.alloc (.cells (aP e) 35)).alloc (.cells c.arr 29)).alloc (.cells VC.zero.arr 29));generalize (((w.alloc (.cells (aP e) 35)).alloc (.cells c.arr 29)).alloc (.cells VC.zero.arr 29))=wa at*;have BE:=qD I0.out.1;have BD:=qD I0.out.2.1;have J:=qD I0.out.2.2;clear I0;have RF:=qD (jP BE.out);have HVD:=qD (xx e wa (HX.out.step J.out.bel) (HT.out.step J.out.bel));go_wp2_with ((with_reducible show wpList _ _ _ (⟨_,.load 35 _,_,_,_,_⟩::_) _ _);refine aH rfl 35 _ rfl w.heap.size 0 rfl _ _ RF.out Pe rfl kR ?_);refine HVD.out.mono ?_;rintro e2 w2 ⟨n,rfl,hn,hb2⟩;replace J:=qD (J.out.step hb2);replace BE:=qD (BE.out.step hb2);replace BD:=qD (BD.out.step hb2);replace RF:=qD (jP BE.out);have HN:=qD hn;clear hb2 hn HVD;cases hz:(n != 0)
 ·have HG:Hid (oT 16 e):=qD (HN.out (by simpa using hz));obtain⟨a0,a1,a2,a3,a4⟩:=aO.Mp BD.out;have HEV:=qD (AX 16 e x c none 0 0 [] (fun b=>b<w.heap.size) w w2 (fun b hb=>hb) (fun b hb=>by have:=J.out.bel.size;omega) J.out.bel HX.out HG.out (HXV.out.step J.out.bel) HOK.out ⟨SR.nil,by simp,by simp,by simp⟩ oM);go_wp2_with ((with_reducible show wpList _ _ _ (⟨_,.load 35 _,_,_,_,_⟩::_) _ _);refine aH rfl 35 _ rfl w.heap.size 0 rfl _ _ RF.out Pe rfl kR ?_);refine HEV.out.mono ?_;rintro e3 w3 ⟨d,y,rfl,hy,hyo,hb3⟩;replace J:=qD (J.out.step hb3);have J4:=qD (J.out.step ((OG w3.heap.size w3).alloc (qL) (Obj.cells d.arr 29)));have HQ:Hid (aG (w3.alloc (.cells d.arr 29)) w3.heap.size 29 d.arr):=qD (aG.Mm rfl);clear hb3 hy hyo a0 a1 a2 a3 a4 HEV J hz;go_upto_region 4 with fail
  change Code.wp _ _ _ _ (w3.alloc (.cells d.arr 29));generalize w3.alloc (.cells d.arr 29)=w5 at*;have J:=J4;obtain⟨q0,q1,q2,q3,q4⟩:=aO.Mp HQ.out;obtain⟨b0,b1,b2,b3,b4⟩:=aO.Mp J.out.b;have z:=J.out.b.frozen;cases hk:(d.k==0)
  ·go_wp2_with fail;have q:=aO.Mn (J.out.b.putV d);refine OO (aD rfl _ _ _ rfl _ d q) rfl ?_;exact J.out.Ni d
  ·go_wp2_with fail;have q:=aO.Mn (J.out.b.putV VC.zero);refine OO (aD rfl _ _ _ rfl _ VC.zero q) rfl ?_;exact J.out.Ni VC.zero
 ·obtain⟨b0,b1,b2,b3,b4⟩:=aO.Mp J.out.b;have z:=J.out.b.frozen;go_wp2_with fail;have q:=aO.Mn (J.out.b.putV VC.zero);refine OO (aD rfl _ _ _ rfl _ VC.zero q) rfl ?_;exact J.out.Ni VC.zero
theorem si(p:aj)(ih:∀k∈p.kids,GN k)(x:aC)(c:VC)(w:World)(hw:WP w p)(hv:oZ p)(hx:RW w c x)(hok:tz x)(hS:dP w)(hT:cZ w):Calls prog 157 #[al p,c.val] w (am (fun _=>True) w):=by
 have W:=qD hw.open;have V:=qD hv.open;have HX:=qD hx;have HK:Hid (c.k=x.k):=qD hx.open.k;have hlz:c.ln<=1759218604441:=by have:=hx.open.lsz;unfold aF at this;omega
 have HE:Hid (∀k∈p.kids,∀(y:aC) (u:VC) (wr:World),oZ k->dN y x->RW wr u y->Bl w wr->Calls prog 38 #[al k,u.val] wr (am (iw k y) wr)):=qD fun k hk y u wr hvk hy hu hb=>ih k hk y u wr ((W.out.kids k hk).step hb) hvk hu (hok.part hy) (hS.step hb) (hT.step hb);clear hw hv hx hok hS hT ih;go_enter func157,ntmps157;go_upto_region 1 with fail
 refine yS (bL p) 38 c.arr 29 ?_;intro wa B0 B1 BE;obtain⟨d0,-,-,-,-,d8,-,-⟩:=aU B0.out;obtain⟨a0,a1,a2,a3,a4⟩:=aO.Mp B1.out;by_cases h10:p.op=10
 ·rw[h10] at d0;clear h10;go_wp2;go_ret;exact am.of trivial BE.out
 by_cases h13:p.op=13
 ·rw[h13] at d0;clear h10 h13;cases h6:(c.k==6)
  all_goals
   go_wp2;go_ret;exact am.of trivial BE.out
 by_cases h15:p.op=15
 ·have HNE:=qD (V.out.neA (.inl h15));have HVK:=qD (V.out.kidsA oM);rw[h15] at d0;clear h10 h13 h15;cases h6:(c.k==6)
  ·go_upto_region 8 with fail
   go_loopw [5] (fun v wr=>v=.int .i64 0/\Bl wa wr) (fun _ _=>0)
   ·exact⟨rfl,OG _ _⟩
   case round=>
    obtain⟨rfl,hB⟩:=hrel;have HB:=qD hB;have D1:=qD (B1.out.step hB);clear hB d0 d8 a0 a1 a2 a3 a4;obtain⟨a0,a1,a2,a3,a4⟩:=aO.Mp D1.out;go_wp2;go_ret;exact am.of trivial (BE.out.Ml HB.out)
  ·have HY6:Hid (x.k=6):=by unfold Hid;rw[<-HK.out];simpa using h6
   obtain⟨qs,hqs,hsl⟩:=RV.sl HX.out;have HQS:=qD hqs;have HSL:=qD hsl
   have hk0:0<p.kn:=by
    have:=W.out.sr.ln;have h0:0<p.kids.length:=List.length_pos_iff.2 HNE.out;omega
   obtain⟨kb,ko,k,hA,hb,hxx,hm,hrg⟩:=W.out.sr.row hk0;rw[Rp,QW] at hrg;have HRG:=qD hrg;have HKB:=qD hb;have HKA:=qD hA;have HKM:=qD hm;have k0i:(0:Int)<(p.kn:Int):=oM
   have hk6:(c.k==6)=true:=h6;clear hqs hsl hxx hrg hb hA hm h6;go_upto_region 8 with fail
   go_loopw [5] (fun v wr=>∃i:Nat,i<=c.ln/\v=.int .i64 i/\Bl wa wr) (fun v _=>c.ln-(intOf v).toNat)
   ·exact⟨0,ON _,rfl,OG _ _⟩
   case round=>
    obtain⟨i,hi,rfl,hB⟩:=hrel;have HB:=qD hB;have D0:=qD (B0.out.step hB);have D1:=qD (B1.out.step hB);have DE:=qD (BE.out.Ml hB);clear hB d0 d8 a0 a1 a2 a3 a4;obtain⟨-,-,-,-,-,-,-,d24⟩:=aU D0.out;obtain⟨a0,a1,a2,a3,a4⟩:=aO.Mp D1.out;by_cases hlt:i<c.ln
    ·obtain⟨q,hq⟩:∃q,qs[i]?=some q:=⟨_,OH (by have:=HSL.out.sr.ln;omega)⟩;obtain⟨eb,eo,hLA,heb,hva⟩:=(HSL.out.sr.step DE.out).Mw hq;have HRQ:=qD ((HSL.out.rv q (OJ hq)).step DE.out);have HPT:Hid (dN q.2 x):=qD (.part (mu HY6.out (by rw[<-HQS.out];exact PD (OJ hq))) (.refl _));have HEB:=qD heb;have IX:=qD fun(w':World) (hw:Bl wr w')=>HE.out k HKM.out q.2 q.1 w' (HVK.out k HKM.out) HPT.out (HRQ.out.step hw) (DE.out.Ml hw);have RG:=qD (bB HRG.out DE.out HKB.out);have HLB:Hid (kb<wr.heap.size):=qD (Ol HKB.out DE.out.size);rw[hLA] at a3;rw[HKA.out] at d24;obtain⟨e0,e1,e2,e3,e4⟩:=hva;have i0:(0:Int)<=(i:Int):=oM
     have i1:(i:Int)<(c.ln:Int):=oM
     clear hq hLA heb;go_upto_region 10 with fail
     have KS:Hid (∀w',Bl wr w'->(fun w'=>(Instr.loadAt 38 (.pointer (some ⟨kb,ko,none⟩))).run prog w'=.ok (.agg (eY k).toArray) w'/\w'.cell? ⟨w.heap.size,24,none⟩=some (.slice (some ⟨kb,ko,none⟩) p.kn p.kc)/\w'.cell? ⟨w.heap.size+1,3,none⟩=some (.slice (some ⟨eb,eo,none⟩) c.ln c.lc)/\w'.cell? ⟨eb,eo+i*5,none⟩=some (.int .i64 q.1.k)/\w'.cell? ⟨eb,eo+i*5+1,none⟩=some (.int .i64 q.1.n)/\w'.cell? ⟨eb,eo+i*5+2,none⟩=some (.string q.1.t)/\w'.cell? ⟨eb,eo+i*5+3,none⟩=some (.slice q.1.LA q.1.ln q.1.lc)/\w'.cell? ⟨eb,eo+i*5+4,none⟩=some (.slice q.1.DA q.1.dn q.1.dc)) w'):=qD fun w' hw=>
      ⟨Qy w' kb ko 38 (eY k) _ (bB RG.out hw HLB.out) Oq rfl kR,(hw.cell (p:=⟨w.heap.size,24,none⟩) D0.out.lt).trans d24,(hw.cell (p:=⟨w.heap.size+1,3,none⟩) D1.out.lt).trans a3,(hw.cell (p:=⟨eb,eo+i*5,none⟩) HEB.out).trans e0,(hw.cell (p:=⟨eb,eo+i*5+1,none⟩) HEB.out).trans e1,(hw.cell (p:=⟨eb,eo+i*5+2,none⟩) HEB.out).trans e2,(hw.cell (p:=⟨eb,eo+i*5+3,none⟩) HEB.out).trans e3,(hw.cell (p:=⟨eb,eo+i*5+4,none⟩) HEB.out).trans e4⟩
     have B:=qD ((OG wr.heap.size wr).drewN 1);clear d24 a0 a1 a2 a3 a4 e0 e1 e2 e3 e4;refine PH ?_;refine Oy (S:=(fun w'=>(Instr.loadAt 38 (.pointer (some ⟨kb,ko,none⟩))).run prog w'=.ok (.agg (eY k).toArray) w'/\w'.cell? ⟨w.heap.size,24,none⟩=some (.slice (some ⟨kb,ko,none⟩) p.kn p.kc)/\w'.cell? ⟨w.heap.size+1,3,none⟩=some (.slice (some ⟨eb,eo,none⟩) c.ln c.lc)/\w'.cell? ⟨eb,eo+i*5,none⟩=some (.int .i64 q.1.k)/\w'.cell? ⟨eb,eo+i*5+1,none⟩=some (.int .i64 q.1.n)/\w'.cell? ⟨eb,eo+i*5+2,none⟩=some (.string q.1.t)/\w'.cell? ⟨eb,eo+i*5+3,none⟩=some (.slice q.1.LA q.1.ln q.1.lc)/\w'.cell? ⟨eb,eo+i*5+4,none⟩=some (.slice q.1.DA q.1.dn q.1.dc))) kR ?_ (fun hHeld=>?_)
     ·(try dsimp only);exact KS.out _ B.out
     refine rV 0 rfl ?_
     try go_frame
     refine rV 1 rfl ?_
     try go_frame
     refine rV 2 rfl ?_
     try go_frame
     refine rT (v:=.agg (eY k).toArray) 3 rfl (fun w' hSw=>bm (p:=.pointer (some ⟨kb,ko,none⟩)) rfl rfl hSw.1) ?_
     try go_frame
     refine rV 4 rfl ?_
     try go_frame
     refine rV 5 rfl ?_
     try go_frame
     refine rV 6 rfl ?_
     try go_frame
     refine rV 7 rfl ?_
     try go_frame
     refine rV 8 rfl ?_
     try go_frame
     refine rY 9 rfl fun K hK=>?_;go_simp;refine(IX.out _ B.out).mono ?_;rintro e3 w3 ⟨r,rfl,_,hb3⟩;replace B:=qD (B.out.Ml hb3);clear hb3
     (try go_wp2_with fail)
     clear hHeld;refine hK.out _ _ (KS.out _ B.out) fun hHeld=>?_;clear hK K
     try go_frame
     refine rD ?_ _;refine PL ?_;clear hHeld;cases r
     ·go_wp2_with fail;go_roundw
      ·exact⟨i+1,by omega,by go_num,HB.out.Ml B.out⟩
      ·exact iO
     ·go_wp2;go_ret;exact am.of trivial (DE.out.Ml B.out)
    ·obtain rfl:i=c.ln:=oM
     go_wp2;go_ret;exact am.of trivial DE.out
 ·go_wp2;go_ret;exact am.of trivial BE.out
def fu(p:aj)(x:aC)(b:Bool):Prop:=(p.op=11->b=(ch x p.path.xs).any fun z=>z.k==p.n)/\(p.op=16->b=(ch x p.path.xs).any fun z=>z.k==4&&kg z.t p.arg.2.t)
theorem fu.any{p:aj}{x:aC}{b:Bool}(h:p.op=10\/p.op=13\/p.op=15):fu p x b:=⟨fun e=>by omega,fun e=>by omega⟩
def uE(p:aj)(ps:List PV)(i:Nat):Prop:=(p.op=11->(ps.take i).any (fun z=>z.2.k==p.n)=false)/\(p.op=16->(ps.take i).any (fun z=>z.2.k==4&&kg z.2.t p.arg.2.t)=false)
theorem uE.next{p:aj}{ps:List PV}{q:PV}(h:uE p ps i)(hq:ps[i]?=some q)(hr:ft p q.2 false):uE p ps (i+1):=by
 refine⟨fun e=>?_,fun e=>?_⟩
 ·rw[gh hq,h.1 e,<-hr.1 e];rfl
 ·rw[gh hq,h.2 e,<-hr.2 e];rfl
theorem fu.hit{p:aj}{x:aC}{ps:List PV}{q:PV}(hf:ps.map Prod.snd=ch x p.path.xs)(hq:ps[i]?=some q)(hr:ft p q.2 true):fu p x true:=by
 refine⟨fun e=>?_,fun e=>?_⟩
 ·rw[<-jT hf fun z=>z.k==p.n];exact(kf (f:=fun z:PV=>z.2.k==p.n) hq (hr.1 e).symm).symm
 ·rw[<-jT hf fun z=>z.k==4&&kg z.t p.arg.2.t];exact(kf (f:=fun z:PV=>z.2.k==4&&kg z.2.t p.arg.2.t) hq (hr.2 e).symm).symm
theorem fu.no{p:aj}{x:aC}{ps:List PV}(hf:ps.map Prod.snd=ch x p.path.xs)(hl:ps.length<=i)(h:uE p ps i):fu p x false:=by
 refine⟨fun e=>?_,fun e=>?_⟩
 ·have:=h.1 e;rw[OS hl] at this;rw[<-jT hf fun z=>z.k==p.n];exact this.symm
 ·have:=h.2 e;rw[OS hl] at this;rw[<-jT hf fun z=>z.k==4&&kg z.t p.arg.2.t];exact this.symm
theorem AZ(p:aj)(ih:∀k∈p.kids,GN k)(x:aC)(c:VC)(w:World)(hw:WP w p)(hv:oZ p)(hx:RW w c x)(hok:tz x)(hS:dP w)(hT:cZ w)(hl:p.path.xs.length<=16):Calls prog 103 #[al p,c.val] w (am (fu p x) w):=by
 have HRE:Hid (∀(y:aC) (u:VC) (wr:World),RW wr u y->tz y->Bl w wr->Calls prog 157 #[al p,u.val] wr (am (fun _=>True) wr)):=qD fun y u wr hu hy hb=>si p ih y u wr (hw.step hb) hv hu hy (hS.step hb) (hT.step hb);have HLE:Hid (∀(y:aC) (u:VC) (wr:World),RW wr u y->tz y->Bl w wr->Calls prog 158 #[al p,u.val] wr (am (ft p y) wr)):=qD fun y u wr hu hy hb=>AK p y u wr (hw.step hb) hv hu (hS.step hb) (hy.text y (.refl y));have W:=qD hw.open;have HX:Hid (RV (fun b=>b<w.heap.size) w c x):=qD (hx.lt.mono fun b hb=>hb.2);have HOK:=qD hok;have HLL:=qD hl;have HK2:Hid (x.size*2^p.path.xs.length<=67108864):=qD (QL hok.size (Qi (n:=2) oM hl));clear hw hx hok hl hv hS hT ih;go_enter func103,ntmps103;go_upto_region 1 with fail
 refine yS (bL p) 38 c.arr 29 ?_;intro wa B0 B1 BE;obtain⟨d0,d1,-,-,-,-,-,-⟩:=aU B0.out;obtain⟨a0,a1,a2,a3,a4⟩:=aO.Mp B1.out;by_cases ho:p.op=10\/p.op=13\/p.op=15
 ·have HO:=qD ho;have HLV:=qD (tu x (fun b=>b<w.heap.size) p.path.xs c p.path.A p.path.n p.path.c wa (fun b hb=>Ol hb BE.out.size) (HX.out.keep fun b hb=>BE.out.block b hb) (W.out.path.step BE.out) (OU HK2.out dE));rcases ho with ho|ho|ho
  all_goals
   rw[ho] at d0;clear ho;go_upto_region 3 with(go_at_call 137;refine HLV.out.mono ?_;rintro e w1 ⟨A1,M,c1,ps,rfl,hsr,hlf,hM,hb⟩;have HSR:=qD hsr;have HLF:=qD hlf;have HM:Hid (M<=68719476736):=qD (OU hM (OU HK2.out dE));have C0:=qD (B0.out.step hb);have CB:=qD hb;clear hsr hlf hM hb)
   clear d0 d1 a0 a1 a2 a3 a4 HLV;have hM:M<=68719476736:=HM.out;go_upto_region 4 with fail
   go_loopw [6] (fun v wr=>∃i:Nat,i<=M/\v=.int .i64 i/\Bl w1 wr) (fun v _=>M-(intOf v).toNat)
   ·exact⟨0,ON _,rfl,OG _ _⟩
   case round=>
    obtain⟨i,hi,rfl,hB⟩:=hrel;have HB:=qD hB;have D0:=qD (C0.out.step hB);have DE:=qD (BE.out.Ml (CB.out.Ml hB));clear hB;by_cases hlt:i<M
    ·obtain⟨q,hq⟩:∃q,ps[i]?=some q:=⟨_,OH (by have:=HSR.out.ln;omega)⟩;obtain⟨eb,eo,hLA,heb,hva⟩:=(HSR.out.step HB.out).Mw hq;have HRQ:=qD (((HLF.out.rv q (OJ hq)).step (CB.out.Ml HB.out)).mono fun _ _=>trivial);have HOQ:=qD (HOK.out.leaf (HLF.out.sub q (OJ hq)));have HEB:=qD heb;have HPQ:=qD hq;have IX:=qD fun(w':World) (hw:Bl wr w')=>HRE.out q.2 q.1 w' (HRQ.out.step hw) HOQ.out (DE.out.Ml hw);subst hLA;obtain⟨e0,e1,e2,e3,e4⟩:=hva;have i0:(0:Int)<=(i:Int):=oM
     have i1:(i:Int)<(M:Int):=oM
     clear hq heb;go_upto_region 6 with fail
     have KS:Hid (∀w',Bl wr w'->(fun w'=>(Instr.loadAt 38 (.pointer (some ⟨w.heap.size,0,none⟩))).run prog w'=.ok (al p) w'/\w'.cell? ⟨eb,eo+i*5,none⟩=some (.int .i64 q.1.k)/\w'.cell? ⟨eb,eo+i*5+1,none⟩=some (.int .i64 q.1.n)/\w'.cell? ⟨eb,eo+i*5+2,none⟩=some (.string q.1.t)/\w'.cell? ⟨eb,eo+i*5+3,none⟩=some (.slice q.1.LA q.1.ln q.1.lc)/\w'.cell? ⟨eb,eo+i*5+4,none⟩=some (.slice q.1.DA q.1.dn q.1.dc)) w'):=qD fun w' hw=>
      ⟨iW (bL p) rfl _ _ (D0.out.step hw),(hw.cell (p:=⟨eb,eo+i*5,none⟩) HEB.out).trans e0,(hw.cell (p:=⟨eb,eo+i*5+1,none⟩) HEB.out).trans e1,(hw.cell (p:=⟨eb,eo+i*5+2,none⟩) HEB.out).trans e2,(hw.cell (p:=⟨eb,eo+i*5+3,none⟩) HEB.out).trans e3,(hw.cell (p:=⟨eb,eo+i*5+4,none⟩) HEB.out).trans e4⟩
     have B:=qD ((OG wr.heap.size wr).drewN 1);clear e0 e1 e2 e3 e4;refine PH ?_;refine Oy (S:=(fun w'=>(Instr.loadAt 38 (.pointer (some ⟨w.heap.size,0,none⟩))).run prog w'=.ok (al p) w'/\w'.cell? ⟨eb,eo+i*5,none⟩=some (.int .i64 q.1.k)/\w'.cell? ⟨eb,eo+i*5+1,none⟩=some (.int .i64 q.1.n)/\w'.cell? ⟨eb,eo+i*5+2,none⟩=some (.string q.1.t)/\w'.cell? ⟨eb,eo+i*5+3,none⟩=some (.slice q.1.LA q.1.ln q.1.lc)/\w'.cell? ⟨eb,eo+i*5+4,none⟩=some (.slice q.1.DA q.1.dn q.1.dc))) kR ?_ (fun hHeld=>?_)
     ·(try dsimp only);exact KS.out _ B.out
     refine rT (v:=al p) 0 rfl (fun w' hSw=>bm (p:=.pointer (some ⟨w.heap.size,0,none⟩)) rfl rfl hSw.1) ?_
     try go_frame
     refine rV 1 rfl ?_
     try go_frame
     refine rV 2 rfl ?_
     try go_frame
     refine rV 3 rfl ?_
     try go_frame
     refine rV 4 rfl ?_
     try go_frame
     refine rY 5 rfl fun K hK=>?_;go_simp;refine(IX.out _ B.out).mono ?_;rintro e3 w3 ⟨r,rfl,hr,hb3⟩;have HR:=qD hr;replace B:=qD (B.out.Ml hb3);clear hb3 hr
     (try go_wp2_with fail)
     clear hHeld;refine hK.out _ _ (KS.out _ B.out) fun hHeld=>?_;clear hK K
     try go_frame
     refine rD ?_ _;refine PL ?_;clear hHeld;cases r
     ·go_wp2_with fail;go_roundw
      ·exact⟨i+1,by omega,by go_num,HB.out.Ml B.out⟩
      ·exact iO
     ·go_wp2;go_ret;exact am.of (fu.any HO.out) (DE.out.Ml B.out)
    ·obtain rfl:i=M:=oM
     go_wp2;go_ret;exact am.of (fu.any HO.out) DE.out
 ·have h1:(p.op==10)=false:=by simp;omega
  have h2:(p.op==13)=false:=by simp;omega
  have h3:(p.op==15)=false:=by simp;omega
  have HLV:=qD (nP x (fun b=>b<w.heap.size) p.path.xs c p.path.A p.path.n p.path.c wa (fun b hb=>Ol hb BE.out.size) (HX.out.keep fun b hb=>BE.out.block b hb) (W.out.path.step BE.out) HOK.out.size HLL.out);clear ho;go_upto_region 10 with(go_at_call 100;refine HLV.out.mono ?_;rintro e w1 ⟨A1,M,c1,ps,rfl,hsr,hlf,hM,hb⟩;have HSR:=qD hsr;have HLF:=qD hlf;have HM:=qD hM;have C0:=qD (B0.out.step hb);have CB:=qD hb;clear hsr hlf hM hb)
  clear d0 d1 a0 a1 a2 a3 a4 HLV;have hM:M<=68719476736:=HM.out;go_upto_region 11 with fail
  go_loopw [8] (fun v wr=>∃i:Nat,i<=M/\v=.int .i64 i/\uE p ps i/\Bl w1 wr) (fun v _=>M-(intOf v).toNat)
  ·exact⟨0,ON _,rfl,⟨fun _=>by simp,fun _=>by simp⟩,OG _ _⟩
  case round=>
   obtain⟨i,hi,rfl,hsi,hB⟩:=hrel;have HB:=qD hB;have HSI:=qD hsi;clear hsi;have D0:=qD (C0.out.step hB);have DE:=qD (BE.out.Ml (CB.out.Ml hB));clear hB;by_cases hlt:i<M
   ·obtain⟨q,hq⟩:∃q,ps[i]?=some q:=⟨_,OH (by have:=HSR.out.ln;omega)⟩;obtain⟨eb,eo,hLA,heb,hva⟩:=(HSR.out.step HB.out).Mw hq;have HRQ:=qD (((HLF.out.rv q (OJ hq)).step (CB.out.Ml HB.out)).mono fun _ _=>trivial);have HOQ:=qD (HOK.out.leaf (HLF.out.sub q (OJ hq)));have HEB:=qD heb;have HPQ:=qD hq;have IX:=qD fun(w':World) (hw:Bl wr w')=>HLE.out q.2 q.1 w' (HRQ.out.step hw) HOQ.out (DE.out.Ml hw);subst hLA;obtain⟨e0,e1,e2,e3,e4⟩:=hva;have i0:(0:Int)<=(i:Int):=oM
    have i1:(i:Int)<(M:Int):=oM
    clear hq heb;go_upto_region 13 with fail
    have KS:Hid (∀w',Bl wr w'->(fun w'=>(Instr.loadAt 38 (.pointer (some ⟨w.heap.size,0,none⟩))).run prog w'=.ok (al p) w'/\w'.cell? ⟨eb,eo+i*5,none⟩=some (.int .i64 q.1.k)/\w'.cell? ⟨eb,eo+i*5+1,none⟩=some (.int .i64 q.1.n)/\w'.cell? ⟨eb,eo+i*5+2,none⟩=some (.string q.1.t)/\w'.cell? ⟨eb,eo+i*5+3,none⟩=some (.slice q.1.LA q.1.ln q.1.lc)/\w'.cell? ⟨eb,eo+i*5+4,none⟩=some (.slice q.1.DA q.1.dn q.1.dc)) w'):=qD fun w' hw=>
     ⟨iW (bL p) rfl _ _ (D0.out.step hw),(hw.cell (p:=⟨eb,eo+i*5,none⟩) HEB.out).trans e0,(hw.cell (p:=⟨eb,eo+i*5+1,none⟩) HEB.out).trans e1,(hw.cell (p:=⟨eb,eo+i*5+2,none⟩) HEB.out).trans e2,(hw.cell (p:=⟨eb,eo+i*5+3,none⟩) HEB.out).trans e3,(hw.cell (p:=⟨eb,eo+i*5+4,none⟩) HEB.out).trans e4⟩
    have B:=qD ((OG wr.heap.size wr).drewN 1);clear e0 e1 e2 e3 e4;refine PH ?_;refine Oy (S:=(fun w'=>(Instr.loadAt 38 (.pointer (some ⟨w.heap.size,0,none⟩))).run prog w'=.ok (al p) w'/\w'.cell? ⟨eb,eo+i*5,none⟩=some (.int .i64 q.1.k)/\w'.cell? ⟨eb,eo+i*5+1,none⟩=some (.int .i64 q.1.n)/\w'.cell? ⟨eb,eo+i*5+2,none⟩=some (.string q.1.t)/\w'.cell? ⟨eb,eo+i*5+3,none⟩=some (.slice q.1.LA q.1.ln q.1.lc)/\w'.cell? ⟨eb,eo+i*5+4,none⟩=some (.slice q.1.DA q.1.dn q.1.dc))) kR ?_ (fun hHeld=>?_)
    ·(try dsimp only);exact KS.out _ B.out
    refine rT (v:=al p) 0 rfl (fun w' hSw=>bm (p:=.pointer (some ⟨w.heap.size,0,none⟩)) rfl rfl hSw.1) ?_
    try go_frame
    refine rV 1 rfl ?_
    try go_frame
    refine rV 2 rfl ?_
    try go_frame
    refine rV 3 rfl ?_
    try go_frame
    refine rV 4 rfl ?_
    try go_frame
    refine rY 5 rfl fun K hK=>?_;go_simp;refine(IX.out _ B.out).mono ?_;rintro e3 w3 ⟨r,rfl,hr,hb3⟩;have HR:=qD hr;replace B:=qD (B.out.Ml hb3);clear hb3 hr
    (try go_wp2_with fail)
    clear hHeld;refine hK.out _ _ (KS.out _ B.out) fun hHeld=>?_;clear hK K
    try go_frame
    refine rD ?_ _;refine PL ?_;clear hHeld;cases r
    ·go_wp2_with fail;go_roundw
     ·exact⟨i+1,by omega,by go_num,uE.next HSI.out HPQ.out HR.out,HB.out.Ml B.out⟩
     ·exact iO
    ·go_wp2;go_ret;exact am.of (fu.hit HLF.out.fn HPQ.out HR.out) (DE.out.Ml B.out)
   ·obtain rfl:i=M:=oM
    go_wp2;go_ret;exact am.of (fu.no HLF.out.fn (by have:=HSR.out.ln;omega) HSI.out) DE.out
end
end Go.Proofs.YtgfoliedmhgpnaaGreatDoor
