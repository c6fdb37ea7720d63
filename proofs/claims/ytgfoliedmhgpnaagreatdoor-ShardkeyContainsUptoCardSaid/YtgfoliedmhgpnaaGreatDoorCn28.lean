/- A part of the proof. -/
import Derived.Test.YtgfoliedmhgpnaaGreatDoorCn27
set_option maxRecDepth 100000
set_option maxHeartbeats 16000000
open Go.Proofs.Tryz
open ByteArray (empty)
namespace Go.Proofs.YtgfoliedmhgpnaaGreatDoor
open Go.RowKit
section
variable {b n i c off size:Nat} {w w3 w4:World} {P:Program} {x:Int} {v v':Value} {A:Option Addr} {F:Nat -> Prop}
theorem km{row:Option Nat}(hg:w3.grownBy w4 row){p:Addr}(h:w3.cell? p=some v)(hne:row≠some p.block):w4.cell? p=some v:=
 (PE (hg.block p.block (Oj w3 p h) (fun e=>hne e.symm))).trans h
theorem gQ{row:Option Nat}(hg:w3.grownBy w4 row){p:Addr}(hlt:p.block<w3.heap.size)(hne:row≠some p.block):w4.frozen? p=w3.frozen? p:=
 Rb (hg.block p.block hlt (fun e=>hne e.symm))
theorem kH{P:Nat->Prop}{c:VC}{x:aC}(hr:RV (fun b=>P b/\v.ownBlock≠some b) w3 c x)(hg:w3.grownBy w4 v.ownBlock)(hat:v'.ownBlock=v.ownBlock\/v'.ownBlock=some w3.heap.size):
 RV (fun b=>P b/\v'.ownBlock≠some b) w4 c x:=hr.Mr fun b hb hl=>by
 refine⟨⟨hb.1,fun e=>?_⟩,hg.block b hl (fun e=>hb.2 e.symm)⟩;rcases hat with h|h
 ·exact hb.2 (h▸e)
 ·rw[h] at e;injection e with e
  omega
theorem SL.Nv{ps:List PV}(h:SL F w A n c ps)(hn:0<n):∃b off,A=some ⟨b,off,none⟩/\b<w.heap.size/\∀i,i<n->∃p,ps[i]?=some p/\aO w b (off+i*5) p.1/\RV F w p.1 p.2:=by
 obtain⟨b,off,e,hb,hel⟩:=h.sr.el hn;refine⟨b,off,e,hb,fun i hi=>?_⟩;obtain⟨p,hp⟩:∃p,ps[i]?=some p:=⟨_,OH (by have:=h.sr.ln;omega)⟩;exact⟨p,hp,nH fun j v hj=>hel i p hp j v hj,h.rv p (OJ hp)⟩
theorem SD.none:SD F w none 0 0 []:=⟨⟨rfl,qL,fun h=>absurd h dE⟩,by decide,fun h=>absurd h dE,by simp,by simp⟩
theorem SL.none:SL F w none 0 0 []:=⟨⟨rfl,qL,fun h=>absurd h dE⟩,by decide,fun h=>absurd h dE,by simp⟩
end
structure eQ(F:Nat->Prop)(w:World)(g go base:Nat)(A:Option Addr)(m cap:Nat)(ps:List PV)(wr:World):Prop where
 r:fJ w g wr
 o:aG wr go 29 (VC.arr ⟨6,0,empty,A,m,cap,none,0,0⟩)
 g1:g<base
 g2:go<base
 ne:g≠go
 lo:w.heap.size<=go
 bs:base<=wr.heap.size
 own:wr.ownsRow base 29 5 (.slice A m cap) m (aN bD ps)
 ln:ps.length=m
 el:∀p∈ps,RV (fun b=>(F b\/base<=b)/\(Value.slice A m cap).ownBlock≠some b) wr p.1 p.2
 hF:∀b,F b->b<base/\b≠g/\b≠go
section
variable {b g m c base q cap size:Nat} {w w' wr w3 w4 wq:World} {cs:Array Value} {op x:Int} {A A':Option Addr} {F:Nat -> Prop}
section
variable {F F':Nat->Prop} {w wr w3 w4 w':World} {g go base m m2 cap cap':Nat} {A A':Option Addr} {ps qs:List PV}
theorem eQ.step(h:eQ F w g go base A m cap ps wr)(hb:Bl wr w'):eQ F w g go base A m cap ps w':=
 ⟨h.r.step hb,h.o.step hb,h.g1,h.g2,h.ne,h.lo,OU h.bs hb.size,af h.own hb,h.ln,fun p hp=>(h.el p hp).step hb,h.hF⟩
theorem eQ.old(h:eQ F w g go base A m cap ps wr){c:VC}{x:aC}(hx:RV F wr c x):RV (fun b=>(F b\/base<=b)/\(Value.slice A m cap).ownBlock≠some b) wr c x:=
 hx.mono fun b hb=>⟨.inl hb,fun e=>by have:=ak h.own b e;have:=(h.hF b hb).1;omega⟩
theorem eQ.next(h:eQ F w g go base A m cap ps w3)(hq:∀q∈qs,RV (fun b=>(F b\/base<=b)/\(Value.slice A m cap).ownBlock≠some b) w3 q.1 q.2)(hl:qs.length=m2)(hg:w3.grownBy w4 (Value.slice A m cap).ownBlock)(hat:(Value.slice A' (m+m2) cap').ownBlock=(Value.slice A m cap).ownBlock\/(Value.slice A' (m+m2) cap').ownBlock=some w3.heap.size)(hown:w4.ownsRow base 29 5 (.slice A' (m+m2) cap') (m+m2) (aN bD ps++aN bD qs)):
  eQ F w g go base A' (m+m2) cap' (ps++qs) (w4.setCell ⟨go,3,none⟩ (.slice A' (m+m2) cap')):=by
  have hne:∀b,b<base->some b≠(Value.slice A m cap).ownBlock:=fun b hb e=>by have:=ak h.own b e.symm;omega
  have bl:∀{b:Nat} {cs:Array Value},aG w3 b 29 cs->b<base->aG w4 b 29 cs:=fun hb hlt=>(hg.block _ hb.lt (hne _ hlt)).trans hb;have g2:=h.g2;have lo:=h.lo;have h4:Bl w w4:=h.r.bel.grown hg h.r.bel.size (fun k hk=>by have:=ak h.own k hk;omega);refine⟨⟨(bl h.r.b h.g1).Mu h.ne _,h.r.lo,h4.setCell lo _⟩,(bl h.o h.g2).Mo 3 _,h.g1,h.g2,h.ne,h.lo,?_,?_,?_,fun p hp=>?_,h.hF⟩
  ·have:=hg.size;have:=h.bs;simp[World.setCell];omega
  ·rw[dT];exact jt hown fun k hk=>PQ _ _ _ _ (by have:=ak hown k hk;show k≠go;omega)
  ·rw[OK,h.ln,hl]
  ·have hr:RV (fun b=>(F b\/base<=b)/\(Value.slice A' (m+m2) cap').ownBlock≠some b) w4 p.1 p.2:=by
    rcases OP.1 hp with hp|hp
    ·exact kH (h.el p hp) hg hat
    ·exact kH (hq p hp) hg hat
   exact hr.Mr fun b hb _=>⟨hb,PQ _ _ _ _ (by
    show b≠go
    rcases hb.1 with k|k
    ·exact(h.hF b k).2.2
    ·omega)⟩
theorem eQ.done(h:eQ F w g go base A m cap ps wr)(hz:m*80<=aF)(hG:∀b,F b->F' b\/w.heap.size<=b):
 eU F' w (.returned (VC.val ⟨6,0,empty,A,m,cap,none,0,0⟩)) (bM wr g 0 ⟨6,0,empty,A,m,cap,none,0,0⟩):=by
 obtain⟨A',c',e,hs⟩:=SL.Mq (F:=fun b=>F b\/base<=b) h.own h.ln hz (fun _ hb=>.inr hb) (fun p hp=>(h.el p hp).mono fun b hb=>hb.1);cases e;have hr:=RV.NC (k:=6) (m:=0) (t:=empty) dE hs SD.none;have g1:=h.g1;have lo:=h.lo;have g2:=h.g2;refine⟨_,rfl,⟨_,hr.Mr fun b hb _=>⟨?_,bC ?_⟩,fun h0=>absurd h0 (by simp[aC.k])⟩,aW h.r.bel h.r.lo 0 _⟩
 ·rcases hb with k|k
  ·exact hG b k
  ·exact .inr oM
 ·rcases hb with k|k
  ·exact(h.hF b k).2.1
  ·omega
theorem eQ.start(h:fJ w g wr)(hF:∀b,F b->b<wr.heap.size/\b≠g):eQ F w g wr.heap.size (wr.heap.size+1) none 0 0 [] (wr.alloc (.cells #[.int .i64 6,.int .i64 0,.string empty,.slice none 0 0,.slice none 0 0] 29)):=
 ⟨h.step ((OG _ _).alloc (qL) _),aG.Mm rfl,by have:=h.b.lt;omega,by omega,by have:=h.b.lt;omega,h.bel.size,by simp,bP _ _ _ _,rfl,by simp,fun b hb=>⟨by have:=(hF b hb).1;omega,(hF b hb).2,by have:=(hF b hb).1;omega⟩⟩
theorem eQ.keep(h:eQ F w g go base A m cap ps w3)(hg:w3.grownBy w4 (Value.slice A m cap).ownBlock){T:TypeId}(hb:aG w3 b T cs)(hlt:b<base)(hne:b≠go)(u:Value):aG (w4.setCell ⟨go,3,none⟩ u) b T cs:=
 aG.Mu (p:=⟨go,3,none⟩) ((hg.block _ hb.lt (fun e=>by have:=ak h.own b e.symm;omega)).trans hb) hne _
theorem eQ.put(h:eQ F w g go base A m cap ps w3)(hwq:Bl w3 wq){p:PV}(hp:RV (fun b=>(F b\/base<=b)/\(Value.slice A m cap).ownBlock≠some b) w3 p.1 p.2)(hg:wq.grownBy w4 (Value.slice A m cap).ownBlock)(hat:(Value.slice A' (m+1) cap').ownBlock=(Value.slice A m cap).ownBlock\/(Value.slice A' (m+1) cap').ownBlock=some wq.heap.size)(hown:w4.ownsRow base 29 5 (.slice A' (m+1) cap') (m+1) (aN bD ps++bD p)):
  eQ F w g go base A' (m+1) cap' (ps++[p]) (w4.setCell ⟨go,3,none⟩ (.slice A' (m+1) cap')):=
  (h.step hwq).next (qs:=[p]) (fun q hq=>by rw[Ox.1 hq];exact hp.step hwq) rfl hg hat (by simpa[aN] using hown)
theorem eQ.Nw(h:eQ F w g go base A m cap ps w3)(hwq:Bl w3 wq)(hp:∀q∈qs,RV F w3 q.1 q.2)(hl:qs.length=m2)(hg:wq.grownBy w4 (Value.slice A m cap).ownBlock)(hat:(Value.slice A' (m+m2) cap').ownBlock=(Value.slice A m cap).ownBlock\/(Value.slice A' (m+m2) cap').ownBlock=some wq.heap.size)(hown:w4.ownsRow base 29 5 (.slice A' (m+m2) cap') (m+m2) (aN bD ps++aN bD qs)):
  eQ F w g go base A' (m+m2) cap' (ps++qs) (w4.setCell ⟨go,3,none⟩ (.slice A' (m+m2) cap')):=
  (h.step hwq).next (fun q hq=>(h.old (hp q hq)).step hwq) hl hg hat hown
end
theorem AS(op:Int)(x:aC)(c:VC)(w:World)(hF:∀b,F b->b<w.heap.size)(h:RV F w c x)(hok:gq x):Calls prog 267 #[.int .i64 op,c.val] w (eU F w):=by
 obtain⟨i0,hi0,hz0,hz1,hz2⟩:=Pb dB;have HFH:=qD hF;have hln:c.ln<=1024:=by have:=h.open.ln;have:=hok.len.2.1;omega
 obtain⟨ps,hps,hsl⟩:=RV.sl h;have HSL:=qD hsl;have J0:Hid (fJ w (w.heap.size+1) ((w.alloc (.cells c.arr 29)).alloc (.cells VC.zero.arr 29))):=⟨aG.Mm sM,by omega,((OG _ _).alloc (qL) _).alloc sM _⟩;have C0:Hid (aG ((w.alloc (.cells c.arr 29)).alloc (.cells VC.zero.arr 29)) w.heap.size 29 c.arr):=(aG.Mm rfl).alloc _;obtain⟨z1,hz1'⟩:∃z,(op==26)=z:=⟨_,rfl⟩;obtain⟨z2,hz2'⟩:∃z,(op==31)=z:=⟨_,rfl⟩;clear h hok hF hps hsl;go_enter func267,ntmps267;go_upto_region 1 with fail
 change Code.wp _ _ _ _ ((w.alloc (.cells c.arr 29)).alloc (.cells VC.zero.arr 29));generalize (w.alloc (.cells c.arr 29)).alloc (.cells VC.zero.arr 29)=wa at*;obtain⟨a0,a1,a2,a3,a4⟩:=aO.Mp C0.out;have J:=J0;cases hk6:(c.k != 6);rotate_left
 ·go_wp2_with (go_at_call 34;refine(bt _).mono ?_;rintro e w2 ⟨k,n,t,rfl,ht,hk,hb⟩;replace J:=qD (J.out.step hb);have HT:=qD ht;have HK:=qD hk;clear hb ht hk;obtain⟨b0,b1,b2,b3,b4⟩:=aO.Mp J.out.b;have z:=J.out.b.frozen);exact OO (aD rfl _ _ _ rfl _ (bO k n t) (aO.Mn (J.out.b.putV (bO k n t)))) rfl (J.out.leaf k n HT.out HK.out).a
 cases z1;rotate_left
 ·go_wp2_with (go_at_call 30;refine(fV _ _).mono ?_;rintro e w2 ⟨k,n,t,rfl,ht,hk,hb⟩;replace J:=qD (J.out.step hb);have HT:=qD ht;have HK:=qD hk;clear hb ht hk;obtain⟨b0,b1,b2,b3,b4⟩:=aO.Mp J.out.b;have z:=J.out.b.frozen);exact OO (aD rfl _ _ _ rfl _ (bO k n t) (aO.Mn (J.out.b.putV (bO k n t)))) rfl (J.out.leaf k n HT.out HK.out).a
 go_upto_region 8 with fail
 have I0:Hid (eQ F w (w.heap.size+1) wa.heap.size (wa.heap.size+1) none 0 0 [] (wa.alloc (.cells #[.int .i64 6,.int .i64 0,.string empty,.slice none 0 0,.slice none 0 0] 29))):=qD (eQ.start J.out fun b hb=>by have:=HFH.out b hb;have:=J.out.bel.size;exact⟨by omega,by omega⟩);have D0:=qD (C0.out.alloc (.cells #[.int .i64 6,.int .i64 0,.string empty,.slice none 0 0,.slice none 0 0] 29));change Code.wp _ _ _ _ (wa.alloc (.cells #[.int .i64 6,.int .i64 0,.string empty,.slice none 0 0,.slice none 0 0] 29));generalize wa.alloc (.cells #[.int .i64 6,.int .i64 0,.string empty,.slice none 0 0,.slice none 0 0] 29)=wb at*;have hgw:w.heap.size+1<wa.heap.size:=J.out.b.lt;generalize wa.heap.size=go at*;clear a0 a1 a2 a3 a4 J J0 C0
 go_loopw [6,7] (fun v6 v7 wr=>∃(i:Nat) (n:Int) (A:Option Addr) (cap:Nat) (qs:List PV),i<=c.ln/\v7=.int .i64 i/\v6=.int .i64 n/\aG wr w.heap.size 29 c.arr/\eQ F w (w.heap.size+1) go (go+1) A i cap qs wr) (fun _ v7 _=>c.ln-(intOf v7).toNat)
 ·exact⟨0,0,none,0,[],ON _,rfl,rfl,D0.out,I0.out⟩
 case round=>
  obtain⟨i,n,A,cap,qs,hi,rfl,rfl,hD,hI⟩:=hrel;have D:=qD hD;have I:=qD hI;clear D0 I0 hD hI;obtain⟨a0,a1,a2,a3,a4⟩:=aO.Mp D.out;by_cases hlt:i<c.ln
  ·obtain⟨j,hj⟩:∃j,c.ln=i+1+j:=⟨c.ln-i-1,by omega⟩;obtain⟨b,off,hLA,hlb,hel⟩:=HSL.out.Nv oM;obtain⟨p,-,hva,hrv⟩:=hel j oM;obtain⟨q,-,hvq,-⟩:=hel i oM;have HRV:=qD (hrv.step I.out.r.bel);have HVQ:=qD hvq;obtain⟨y0,y1,y2,y3,y4⟩:=hva.step I.out.r.bel;rw[hLA] at a3;have q3:=I.out.o.cell 3;simp at q3;have W0:IntKind.i64.wrap ((c.ln:Int)-1)=(c.ln:Int)-1:=SE _ oM;have W1:IntKind.i64.wrap ((c.ln:Int)-1-(i:Int))=(j:Int):=(SE _ oM).trans oM;have W2:(0:Int)<=(j:Int):=oM
   have W3:(j:Int)<(c.ln:Int):=oM
   have i1:(0:Int)<=(i:Int):=oM
   have i2:(i:Int)<(c.ln:Int):=oM
   have hs:(Value.slice A i cap).ownBlock≠some go:=gr I.out.own oM;have HJ:=qD hj;have HLA:=qD hLA;have hbs:=I.out.bs;have hgo:go<wr.heap.size:=oM
   obtain⟨z3,hz3⟩:∃z,(q.1.k==3)=z:=⟨_,rfl⟩;clear hel hva hrv hvq hj;go_upto_region 10 with fail
   go_region_law ((refine bG _ rfl (.tmp 27) (.tmp 38) 26 rfl (go+1) 29 i0 VC.zero.val 5 80 PM hi0 hz0 hz1 hz2 rfl dE (.slice A i cap) i (aN bD qs) (by simp[Act.eval]) ((I.out.own.alloc _).drew) (wr.heap.size+1) (some ⟨wr.heap.size,0,none⟩) 1 1 (bD p) (by simp[Act.eval]) ⟨rfl,fun _=>⟨_,rfl,by simp,ag _ _ _⟩⟩ (cq _) (by simp only[maxLen];omega) oM sO ?_;intro v' w4 hown4 hgr hat;obtain⟨A4,cap4,hv4,hle4⟩:=aY hown4;rw[hv4];have f2:w4.cell? ⟨go,3,none⟩=some (.slice A i cap):=km hgr (((I.out.o.alloc _).drew.cell 3).trans rfl) hs;have z2:w4.frozen? ⟨go,3,none⟩=false:=(gQ hgr (I.out.o.alloc _).drew.lt hs).trans ((I.out.o.alloc _).drew.frozen 3)))
   all_goals
    have HI:=qD (I.out.put (((OG wr.heap.size wr).alloc (qL) _).drew) (I.out.old HRV.out) hgr (by rw[<-hv4];exact hat) (by rw[<-hv4];exact hown4));have HD:=qD ((I.out.step (((OG wr.heap.size wr).alloc (qL) _).drew)).keep hgr ((D.out.alloc _).drew) (by have:=I.out.g1;omega) oM (.slice A4 (i+1) cap4));clear f2 z2 hgr hat hown4 hv4 hs q3 a0 a1 a2 a3 a4 y0 y1 y2 y3 y4 W0 W1 W2 W3 D I hbs hgo;generalize w4.setCell ⟨go,3,none⟩ (.slice A4 (i+1) cap4)=w5 at*;obtain⟨a0,a1,a2,a3,a4⟩:=aO.Mp HD.out;rw[HLA.out] at a3;obtain⟨u0,u1,-⟩:=HVQ.out.step HI.out.r.bel;cases z3
    all_goals
     go_wp2_with fail;go_roundw
     ·exact⟨i+1,_,A4,cap4,_,by omega,by go_num,rfl,HD.out,HI.out⟩
     ·exact iO
  ·obtain rfl:i=c.ln:=oM
   have J:=qD I.out.r;cases z2
   ·obtain⟨o0,o1,o2,o3,o4⟩:=aO.Mn I.out.o;obtain⟨b0,b1,b2,b3,b4⟩:=aO.Mn J.out.b;simp only[OX] at b0 b1 b2 b3 b4 o0 o1 o2 o3 o4;have z:=J.out.b.frozen;go_wp2_with fail;exact OO (aD rfl _ _ _ rfl _ ⟨6,0,empty,A,c.ln,cap,none,0,0⟩ (aO.Mn (J.out.b.putV ⟨6,0,empty,A,c.ln,cap,none,0,0⟩))) rfl (I.out.done (by unfold aF;omega) (fun b hb=>.inl hb))
   ·go_wp2_with (go_at_call 30;refine(fV _ _).mono ?_;rintro e w2 ⟨k,n,t,rfl,ht,hk,hb⟩;replace J:=qD (J.out.step hb);have HT:=qD ht;have HK:=qD hk;clear hb ht hk;obtain⟨b0,b1,b2,b3,b4⟩:=aO.Mp J.out.b;have z:=J.out.b.frozen);exact OO (aD rfl _ _ _ rfl _ (bO k n t) (aO.Mn (J.out.b.putV (bO k n t)))) rfl (J.out.leaf k n HT.out HK.out).a
theorem AT(ps:List PV)(A0:Option Addr)(m c:Nat)(w:World)(hF:∀b,F b->b<w.heap.size)(hs:ff F w A0 m c ps):Calls prog 270 #[.slice A0 m c] w (eU F w):=by
 obtain⟨i0,hi0,hz0,hz1,hz2⟩:=Pb dB;have HFH:=qD hF;have HS:=qD hs;have HM:=qD hs.few;have hm:m<=256:=hs.few;have J0:Hid (fJ w w.heap.size (w.alloc (.cells VC.zero.arr 29))):=fJ.start;clear hs hF;go_enter func270,ntmps270;go_upto_region 1 with fail
 change Code.wp _ _ _ _ (w.alloc (.cells VC.zero.arr 29));generalize w.alloc (.cells VC.zero.arr 29)=wa at*;have HAL:=qD (fU ps 6 A0 m c wa (HS.out.sr.step J0.out.bel) HM.out);go_wp2_with fail;refine HAL.out.mono ?_;rintro e w1 ⟨b,rfl,hb,hbe⟩;have J:=qD (J0.out.step hbe);clear hb hbe;cases b
 ·go_wp2_with (go_at_call 34;refine(bt _).mono ?_;rintro e w2 ⟨k,n,t,rfl,ht,hk,hb⟩;replace J:=qD (J.out.step hb);have HT:=qD ht;have HK:=qD hk;clear hb ht hk;obtain⟨b0,b1,b2,b3,b4⟩:=aO.Mp J.out.b;have z:=J.out.b.frozen);exact OO (aD rfl _ _ _ rfl _ (bO k n t) (aO.Mn (J.out.b.putV (bO k n t)))) rfl (J.out.leaf k n HT.out HK.out).a
 go_upto_region 5 with fail
 have I0:Hid (eQ F w w.heap.size w1.heap.size (w1.heap.size+1) none 0 0 [] (w1.alloc (.cells #[.int .i64 6,.int .i64 0,.string empty,.slice none 0 0,.slice none 0 0] 29))):=qD (eQ.start J.out fun b hb=>by have:=HFH.out b hb;have:=J.out.bel.size;exact⟨by omega,by omega⟩);change Code.wp _ _ _ _ (w1.alloc (.cells #[.int .i64 6,.int .i64 0,.string empty,.slice none 0 0,.slice none 0 0] 29));generalize w1.alloc (.cells #[.int .i64 6,.int .i64 0,.string empty,.slice none 0 0,.slice none 0 0] 29)=wb at*;generalize w1.heap.size=go at*;clear HAL J J0
 go_loopw [4] (fun v wr=>∃(i M:Nat) (A:Option Addr) (cap:Nat) (qs:List PV),i<=m/\v=.int .i64 i/\M<=i*1024/\eQ F w w.heap.size go (go+1) A M cap qs wr) (fun v _=>m-(intOf v).toNat)
 ·exact⟨0,0,none,0,[],ON _,rfl,by omega,I0.out⟩
 case round=>
  obtain⟨i,M,A,cap,qs,hi,rfl,hMi,hI⟩:=hrel;have I:=qD hI;clear I0 hI;by_cases hlt:i<m
  ·obtain⟨b,off,rfl,hlb,hel⟩:=HS.out.at oM;obtain⟨p,-,hva,hrv,hoo⟩:=hel i hlt;obtain⟨rs,-,hsl⟩:=RV.sl hrv;have hpl:p.1.ln<=1024:=by have:=hrv.open.ln;have:=hoo.len.2.1;omega
   have HRS:Hid (∀r∈rs,RV F wr r.1 r.2):=qD fun r hr=>(hsl.rv r hr).step I.out.r.bel;have HRL:=qD hsl.sr.ln;have HRD:=qD ((hsl.sr.step I.out.r.bel.drew).reads cB dE);obtain⟨y0,y1,y2,y3,y4⟩:=hva.step I.out.r.bel;have q3:=I.out.o.cell 3;simp at q3;have i1:(0:Int)<=(i:Int):=oM
   have i2:(i:Int)<(m:Int):=oM
   have hs:(Value.slice A M cap).ownBlock≠some go:=gr I.out.own oM;have hbs:=I.out.bs;clear hel hva hrv hsl hoo;go_upto_region 7 with fail
   go_region_law ((refine bG _ rfl (.tmp 17) (.tmp 22) 26 rfl (go+1) 29 i0 VC.zero.val 5 80 PM hi0 hz0 hz1 hz2 rfl dE (.slice A M cap) M (aN bD qs) (by simp[Act.eval]) (I.out.own.drew) _ p.1.LA p.1.ln p.1.lc (aN bD rs) (by simp[Act.eval]) HRD.out (ju cq rs) (by simp only[maxLen];omega) oM sO ?_;intro v' w4 hown4 hgr hat;obtain⟨A4,cap4,hv4,hle4⟩:=aY hown4;rw[hv4];have f2:w4.cell? ⟨go,3,none⟩=some (.slice A M cap):=km hgr ((I.out.o.drew.cell 3).trans rfl) hs;have z2:w4.frozen? ⟨go,3,none⟩=false:=(gQ hgr I.out.o.drew.lt hs).trans (I.out.o.drew.frozen 3)))
   all_goals
    have HI:=qD (I.out.Nw ((OG wr.heap.size wr).drew) HRS.out HRL.out.symm hgr (by rw[<-hv4];exact hat) (by rw[<-hv4];exact hown4));clear f2 z2 hgr hat hown4 hv4 hs q3 y0 y1 y2 y3 y4 I hbs HRS HRL HRD;generalize w4.setCell ⟨go,3,none⟩ (.slice A4 (M+p.1.ln) cap4)=w5 at*;go_wp2_with fail;go_roundw
    ·exact⟨i+1,_,A4,cap4,_,by omega,by go_num,by omega,HI.out⟩
    ·exact iO
  ·obtain rfl:i=m:=oM
   have J:=qD I.out.r;obtain⟨o0,o1,o2,o3,o4⟩:=aO.Mn I.out.o;obtain⟨b0,b1,b2,b3,b4⟩:=aO.Mn J.out.b;simp only[OX] at b0 b1 b2 b3 b4 o0 o1 o2 o3 o4;have z:=J.out.b.frozen;go_wp2_with fail;exact OO (aD rfl _ _ _ rfl _ ⟨6,0,empty,A,M,cap,none,0,0⟩ (aO.Mn (J.out.b.putV ⟨6,0,empty,A,M,cap,none,0,0⟩))) rfl (I.out.done (by unfold aF;omega) (fun b hb=>.inl hb))
end
structure Dp(F:Nat->Prop)(w:World)(n:Nat)(wr:World):Prop where
 r:fJ w w.heap.size wr
 ex:∃u X,aG wr (w.heap.size+1) 29 (VC.arr u)/\RV (fun b=>F b\/w.heap.size+2<=b) wr u X/\X.k=5/\X.d.length<=n
section
variable {k b n g m c size:Nat} {w w' wr w3:World} {e:TypeId} {x d:Int} {v:Value} {s:ByteArray} {F:Nat -> Prop}
theorem Dp.put{u c3:VC}{Y:aC}(hF:∀b,F b->b<w.heap.size)(h:fJ w w.heap.size w3)(ho:aG w3 (w.heap.size+1) 29 (VC.arr u))(hy:RV (fun b=>F b\/w.heap.size+2<=b) w3 c3 Y)(hk:Y.k=5)(hl:Y.d.length<=n):
 Dp F w n (bM w3 (w.heap.size+1) 0 c3):=
 ⟨⟨h.b.My oM _ _,h.lo,aW h.bel oM _ _⟩,c3,Y,ho.putV c3,hy.Mr fun b hb _=>⟨hb,bC (by
  rcases hb with hb|hb
  ·have:=hF b hb;omega
  ·omega)⟩,hk,hl⟩
theorem xq{x v:aC}(h:x.k=5):(ux x s v).k=5/\(ux x s v).d.length<=x.d.length+1:=by
 unfold ux;rw[OW h];split
 ·exact⟨h,by simp[Lg,aC.d]⟩
 ·exact⟨h,by simp[putV,aC.d,xp]⟩
theorem xr(ps:List PV)(A0:Option Addr)(m c:Nat)(w:World)(hF:∀b,F b->b<w.heap.size)(hs:ff F w A0 m c ps):Calls prog 271 #[.slice A0 m c] w (eU F w):=by
 have HFH:=qD hF;have HS:=qD hs;have hm:m<=256:=hs.few
 have I0:Hid (Dp F w 0 ((w.alloc (.cells VC.zero.arr 29)).alloc (.cells #[.int .i64 5,.int .i64 0,.string empty,.slice none 0 0,.slice none 0 0] 29))):=
  qD ⟨fJ.start.step ((OG _ _).alloc (qL) _),⟨5,0,empty,none,0,0,none,0,0⟩,.mk 5 0 empty [] [],aG.Mm sM,Bn 5 0 dE,rfl,qL⟩
 clear hs hF;go_enter func271,ntmps271;go_upto_region 3 with fail
 change Code.wp _ _ _ _ ((w.alloc (.cells VC.zero.arr 29)).alloc (.cells #[.int .i64 5,.int .i64 0,.string empty,.slice none 0 0,.slice none 0 0] 29));generalize (w.alloc (.cells VC.zero.arr 29)).alloc (.cells #[.int .i64 5,.int .i64 0,.string empty,.slice none 0 0,.slice none 0 0] 29)=wa at*
 go_loopw [4] (fun v wr=>∃i:Nat,i<=m/\v=.int .i64 i/\Dp F w (i*1024) wr) (fun v _=>m-(intOf v).toNat)
 ·exact⟨0,ON _,rfl,by simpa using I0.out⟩
 case round=>
  obtain⟨i,hi,rfl,hI⟩:=hrel;have I:=qD hI;clear I0 hI;by_cases hlt:i<m
  ·obtain⟨b,off,rfl,hlb,hel⟩:=HS.out.at oM;obtain⟨p,-,hva,hrv,hoo⟩:=hel i hlt;obtain⟨fs,-,hsd⟩:=RV.sd hrv;have hdn:p.1.dn<=1024:=by have:=hrv.open.dn;have:=hoo.len.2.2;omega
   have HSD:=qD hsd;have HVA:=qD hva;obtain⟨y0,y1,y2,y3,y4⟩:=hva.step I.out.r.bel;have i1:(0:Int)<=(i:Int):=oM
   have i2:(i:Int)<(m:Int):=oM
   have J:=qD I.out.r;clear hel hva hrv hsd hoo;rcases(show(p.1.k==0)=true\/((p.1.k==0)=false/\(p.1.k==2)=true)\/((p.1.k==0)=false/\(p.1.k==2)=false/\(p.1.k != 5)=true)\/((p.1.k==0)=false/\(p.1.k==2)=false/\(p.1.k != 5)=false) by cases(p.1.k==0)<;>cases(p.1.k==2)<;>cases(p.1.k != 5)<;>simp) with h|⟨h,h2⟩|⟨h,h2,h5⟩|⟨h,h2,h5⟩
   ·go_wp2_with fail;go_roundw
    ·exact⟨i+1,by omega,by go_num,I.out.r,by obtain⟨u,X,k1,k2,k3,k4⟩:=I.out.ex;exact⟨u,X,k1,k2,k3,by omega⟩⟩
    ·exact iO
   ·go_wp2_with fail;go_roundw
    ·exact⟨i+1,by omega,by go_num,I.out.r,by obtain⟨u,X,k1,k2,k3,k4⟩:=I.out.ex;exact⟨u,X,k1,k2,k3,by omega⟩⟩
    ·exact iO
   ·go_wp2_with (go_at_call 34;refine(bt _).mono ?_;rintro e w2 ⟨k,n,t,rfl,ht,hk,hb⟩;replace J:=qD (J.out.step hb);have HT:=qD ht;have HK:=qD hk;clear hb ht hk;obtain⟨b0,b1,b2,b3,b4⟩:=aO.Mp J.out.b;have z:=J.out.b.frozen);exact OO (aD rfl _ _ _ rfl _ (bO k n t) (aO.Mn (J.out.b.putV (bO k n t)))) rfl (J.out.leaf k n HT.out HK.out).a
   ·go_upto_region 9 with fail
    clear y0 y1 y2 y3 y4 h h2 h5
    go_loopw [5] (fun v wz=>∃k:Nat,k<=p.1.dn/\v=.int .i64 k/\Dp F w (i*1024+k) wz) (fun v _=>p.1.dn-(intOf v).toNat)
    ·exact⟨0,ON _,rfl,I.out⟩
    case round=>
     obtain⟨k,hk,rfl,hK⟩:=hrel;have K:=qD hK;clear hK I J;obtain⟨y0,y1,y2,y3,y4⟩:=HVA.out.step K.out.r.bel;by_cases hkt:k<p.1.dn
     ·obtain⟨f,hf⟩:∃f,fs[k]?=some f:=⟨_,OH (by have:=HSD.out.sr.ln;omega)⟩;have HN:=qD (HSD.out.ns f (OJ hf));obtain⟨fb,fo,hDA,-,hs0,hu,hr⟩:=HSD.out.Mw hf;have hfb:=hu.lt;have x5:=(K.out.r.bel.cell (p:=⟨fb,fo+k*6,none⟩) hfb).trans hs0;obtain⟨x0,x1,x2,x3,x4⟩:=hu.keep (K.out.r.bel.block fb hfb);obtain⟨u,X,hB,hX,hX5,hXl⟩:=K.out.ex;have HBU:=qD hB;have HX5:=qD hX5;have HXL:=qD hXl;obtain⟨v0,v1,v2,v3,v4⟩:=aO.Mp hB;rw[hDA] at y4;have k1:(0:Int)<=(k:Int):=oM
      have k2:(k:Int)<(p.1.dn:Int):=oM
      have HC:Hid (∀w2,Bl wr w2->Calls prog 302 #[u.val,.string f.2.s,f.1.val] w2 (GZ (fun b=>F b\/w.heap.size+2<=b) (ux X f.2.s f.2.v) w2)):=qD fun w2 hb=>Ij X f.2.v u f.1 f.2.s w2 (hX.step hb) (((hr.step K.out.r.bel).step hb).mono fun _=>.inl) HN.out (by unfold aF;omega);have hlo:w.heap.size+1<wr.heap.size:=hB.lt;clear hf hs0 hu hr hB hX hX5 hXl hDA;go_upto_region 11 with fail
      go_region_law ((go_simp;go_at_call 302;refine(HC.out _ ((OG _ _).drewN 1)).mono ?_;rintro e3 w3 ⟨c3,rfl,hr3,hb3⟩;replace hb3:Bl wr w3:=hb3.Mt;replace hr3:RV (fun b=>(F b\/w.heap.size+2<=b)\/wr.heap.size<=b) w3 c3 (ux X f.2.s f.2.v):=hr3;have HR3:=qD hr3;have HB3:=qD hb3;have K3:=qD (K.out.r.step hb3);have B3:=qD (HBU.out.step hb3);obtain⟨s0,s1,s2,s3,s4⟩:=aO.Mp B3.out;have z:=B3.out.frozen;clear hr3 hb3))
      all_goals
       have HI:=qD (Dp.put (n:=i*1024+k+1) HFH.out K3.out B3.out (HR3.out.mono fun b hb=>by rcases hb with hb|hb;exact hb;exact .inr oM) (xq HX5.out).1 (by have:=(xq (s:=f.2.s) (v:=f.2.v) HX5.out).2;have:=HXL.out;omega));change Exit.inBlock _ _ _ _ (bM w3 (w.heap.size+1) 0 c3);clear s0 s1 s2 s3 s4 z K3 B3 HR3 HB3 x0 x1 x2 x3 x4 x5 y0 y1 y2 y3 y4 v0 v1 v2 v3 v4 HC K;generalize bM w3 (w.heap.size+1) 0 c3=w5 at*;go_wp2_with fail;go_roundw
       ·exact⟨k+1,by omega,by go_num,HI.out⟩
       ·exact iO
     ·obtain rfl:k=p.1.dn:=oM
      go_wp2_with fail;go_roundw
      ·exact⟨i+1,by omega,by go_num,K.out.r,by obtain⟨u,X,k1,k2,k3,k4⟩:=K.out.ex;exact⟨u,X,k1,k2,k3,by omega⟩⟩
      ·exact iO
  ·obtain rfl:i=m:=oM
   have J:=qD I.out.r;obtain⟨u,X,hB,hX,hX5,-⟩:=I.out.ex;have HX:=qD hX;have HX5:=qD hX5;obtain⟨o0,o1,o2,o3,o4⟩:=aO.Mn hB;obtain⟨b0,b1,b2,b3,b4⟩:=aO.Mn J.out.b;simp only[OX] at b0 b1 b2 b3 b4 o0 o1 o2 o3 o4;have z:=J.out.b.frozen;clear hX hX5 hB;go_wp2_with fail;exact OO (aD rfl _ _ _ rfl _ u (aO.Mn (J.out.b.putV u))) rfl (J.out.val (HX.out.mono fun b hb=>hb.imp id fun h=>⟨by omega,by omega⟩) HFH.out (fun h0=>absurd h0 (by rw[HX5.out];decide)))
def Ik(x:aC):Prop:=∀(F:Nat->Prop) (l:List ByteArray) (c:VC) (A:Option Addr) (n cc:Nat) (w:World),(∀b,F b->b<w.heap.size)->RV F w c x->gq x->ST w A n cc l->
 Calls prog 209 #[c.val,.slice A n cc] w (eU F w)
theorem eU.lt{e:Ending}(h:eU F w e w'):∃c9:VC,e=.returned c9.val/\ob (fun b=>(F b\/w.heap.size<=b)/\b<w'.heap.size) w' c9/\Bl w w':=by
 obtain⟨d,h1,h2,h3⟩:=h;exact⟨d,h1,h2.lt,h3⟩
theorem fJ.NY{d:VC}(h:fJ w g wr)(hr:ob (fun b=>F b\/(w.heap.size<=b/\b≠g)) wr d)(hF:∀b,F b->b<w.heap.size):eU F w (.returned d.val) (bM wr g 0 d):=by
 obtain⟨y,h1,h2⟩:=hr;exact h.val h1 hF h2
theorem xu:∀x,Ik x:=by
 intro x
 induction x using aC.ind with
 | h k0 n0 t0 l0 d0 ihl ihd=>
 intro F pl c A n cc w hF h hok hp;obtain⟨x,hx⟩:∃x,x=aC.mk k0 n0 t0 l0 d0:=⟨_,rfl⟩;rw[<-hx] at h hok;have HIL:Hid (∀v∈x.l,Ik v):=by rw[hx];exact ihl
 have HID:Hid (∀f∈x.d,Ik f.v):=by rw[hx];exact ihd
 clear hx ihl ihd;obtain⟨j0,hj0,hy0,hy1,hy2⟩:=Pb dB;have hk:Hid (c.k=x.k):=h.open.k;have H:=qD h;have HOK:=qD hok;have HFH:=qD hF;have HP:=qD hp;have hln:c.ln<=1024:=by have:=h.open.ln;have:=hok.len.2.1;omega
 obtain⟨ps,hps,hsl⟩:=RV.sl h;have HSL:=qD hsl;have HPS:=qD hps;have J0:Hid (fJ w (w.heap.size+1) ((w.alloc (.cells c.arr 29)).alloc (.cells VC.zero.arr 29))):=⟨aG.Mm sM,by omega,((OG _ _).alloc (qL) _).alloc sM _⟩;have B0:Hid (aG ((w.alloc (.cells c.arr 29)).alloc (.cells VC.zero.arr 29)) w.heap.size 29 c.arr):=(aG.Mm rfl).alloc _;have hnz:(n:Int)<=8796093022208:=by have:=hp.sz;unfold aF at this;omega
 clear h hok hF hps hsl;go_enter func209,ntmps209;go_upto_region 1 with fail
 change Code.wp _ _ _ _ ((w.alloc (.cells c.arr 29)).alloc (.cells VC.zero.arr 29));generalize ((w.alloc (.cells c.arr 29)).alloc (.cells VC.zero.arr 29))=wa at*;obtain⟨a0,a1,a2,a3,a4⟩:=aO.Mp B0.out;have J:=J0;rcases PZ n with hn|hn
 ·subst hn;obtain⟨b0,b1,b2,b3,b4⟩:=aO.Mp J.out.b;have z:=J.out.b.frozen;clear hp;go_wp2_with fail;exact OO (aD rfl _ _ _ rfl _ c (aO.Mn (J.out.b.putV c))) rfl (J.out.val ((H.out.step J.out.bel).mono fun _=>.inl) HFH.out HOK.out.k0)
 have n0b:((n:Int)==0)=false:=by simp;omega
 rcases(show(c.k==5)=true\/((c.k==5)=false/\(c.k==6)=true)\/((c.k==5)=false/\(c.k==6)=false) by cases(c.k==5)<;>cases(c.k==6)<;>simp) with h5|⟨h5,h6⟩|⟨h5,h6⟩
 ·obtain⟨s,r,rfl⟩:∃s r,pl=s::r:=by
   cases pl with
   | nil=>have:=hp.sr.ln;simp at this;omega
   | cons s r=>exact⟨s,r,rfl⟩
  have hln':=hp.sr.ln;simp only[OZ] at hln';have hlc:=hp.sr.lc;obtain⟨b,off,s',rfl,hbw,hs,hcell⟩:=hp.sr.NR (i:=0) oM;obtain rfl:s=s':=by simpa using hs
  simp only[QW] at hcell;have HT:=qD hp.tail;have cz:(cc:Int)≠0:=oM
  have i1':(0:Int)<(n:Int):=oM
  have i3':(1:Int)<=(n:Int):=oM
  have HLN:=qD hln';have HLC:=qD hlc;clear hp hs hln' hlc;go_upto_region 5 with fail
  have hcw:=(J.out.bel.cell (p:=⟨b,off,none⟩) hbw).trans hcell;have lb0:=B0.out.lt;have lbb:b<wa.heap.size:=Ol hbw J.out.bel.size;have lw:w.heap.size<=wa.heap.size:=J.out.bel.size
  have KC:Hid (∀w':World,(∀g,g<wa.heap.size->w'.heap[g]?=wa.heap[g]?)->w'.cell? ⟨w.heap.size,0,none⟩=some (.int .i64 c.k)/\w'.cell? ⟨w.heap.size,1,none⟩=some (.int .i64 c.n)/\w'.cell? ⟨w.heap.size,2,none⟩=some (.string c.t)/\w'.cell? ⟨w.heap.size,3,none⟩=some (.slice c.LA c.ln c.lc)/\w'.cell? ⟨w.heap.size,4,none⟩=some (.slice c.DA c.dn c.dc)/\w'.cell? ⟨b,off,none⟩=some (.string s)):=qD fun w' hk=>by
   have p0:∀o,w'.cell? ⟨w.heap.size,o,none⟩=wa.cell? ⟨w.heap.size,o,none⟩:=fun o=>PE (w:=wa) (a:=⟨w.heap.size,o,none⟩) (hk _ lb0);have p1:∀o,w'.cell? ⟨b,o,none⟩=wa.cell? ⟨b,o,none⟩:=fun o=>PE (w:=wa) (a:=⟨b,o,none⟩) (hk _ lbb);exact⟨(p0 _).trans a0,(p0 _).trans a1,(p0 _).trans a2,(p0 _).trans a3,(p0 _).trans a4,(p1 _).trans hcw⟩
  have HGV:Hid (∀wq,Bl wa wq->Calls prog 244 #[c.val,.string s] wq (Gh F x s wq)):=qD fun wq hq=>uy x c s wq ((H.out.step J.out.bel).step hq)
  go_cut [5,6] (fun v5 v6 wx=>∃(g9:Nat) (c9:VC),v5=.pointer (some ⟨g9,0,none⟩)/\v6=.bool (eG x s).isSome/\aG wx g9 29 c9.arr/\RV F wx c9 ((eG x s).getD aC.zero)/\wa.heap.size<=g9/\Bl wa wx)
  case first=>as_aux_lemma=>
   refine PH ?_;refine Oy (S:=(fun w'=>w'.cell? ⟨w.heap.size,0,none⟩=some (.int .i64 c.k)/\w'.cell? ⟨w.heap.size,1,none⟩=some (.int .i64 c.n)/\w'.cell? ⟨w.heap.size,2,none⟩=some (.string c.t)/\w'.cell? ⟨w.heap.size,3,none⟩=some (.slice c.LA c.ln c.lc)/\w'.cell? ⟨w.heap.size,4,none⟩=some (.slice c.DA c.dn c.dc)/\w'.cell? ⟨b,off,none⟩=some (.string s))) kR ?_ (fun hHeld=>?_)
   ·(try dsimp only);exact KC.out _ (fun g hg=>rfl)
   have B:Hid (Bl wa wa.drew):=qD ((OG wa.heap.size wa).drew);generalize wa.drew=W0 at*;refine rU 0 rfl ?_
   try go_frame
   refine rU 1 rfl ?_
   try go_frame
   refine rU 2 rfl ?_
   try go_frame
   refine rU 3 rfl ?_
   try go_frame
   refine rR [4,8] ?_;refine rC (fun K hK=>?_) (rC (fun K hK=>?_) rN)
   ·go_simp;refine(HGV.out _ B.out).mono ?_;rintro e W1 ⟨c9,rfl,hr,hb⟩;have R9:=qD hr;replace B:=qD (B.out.Ml hb);clear hb hr
    (try go_wp2_with fail)
    clear hHeld;refine hK.out _ _ (KC.out _ (fun g hg=>B.out.block g hg)) fun hHeld=>?_;clear hK K
    try go_frame
    refine rU 5 rfl ?_
    try go_frame
    refine rU 6 rfl ?_
    try go_frame
    refine rU 7 rfl ?_
    try go_frame
    refine rY 8 rfl fun K hK=>?_;go_simp;have hg9:wa.heap.size<=W1.heap.size:=B.out.size;have Q9:Hid (aG (W1.alloc (.cells VC.zero.arr 29)) W1.heap.size 29 VC.zero.arr):=aG.Mm rfl;replace R9:=qD (R9.out.alloc (.cells VC.zero.arr 29));replace B:=qD (B.out.alloc B.out.size (Obj.cells VC.zero.arr 29));change K _ (W1.alloc (.cells VC.zero.arr 29));generalize W1.alloc (.cells VC.zero.arr 29)=W2 at*;generalize W1.heap.size=g9 at*;clear hHeld;refine hK.out _ _ (KC.out _ (fun g hg=>B.out.block g hg)) fun hHeld=>?_;clear hK K
    try go_frame
    refine rY 9 rfl fun K hK=>?_;obtain⟨z0,z1,z2,z3,z4⟩:=aO.Mp Q9.out;have zz:=Q9.out.frozen;have lq:=Q9.out.lt;go_simp;have R9':=qD (R9.out.keep (w':=bM W2 g9 0 c9) fun b hb=>bC (by have:=HFH.out b hb;omega));have Q9':=qD (Q9.out.putV c9);have B':=qD (aW B.out hg9 0 c9);clear z0 z1 z2 z3 z4 zz lq R9 Q9 B;have R9:=R9';have Q9:=Q9';have B:=B';clear R9' Q9' B';change K _ (bM W2 g9 0 c9);generalize bM W2 g9 0 c9=W3 at*;clear hHeld;refine hK.out _ _ (KC.out _ (fun g hg=>B.out.block g hg)) fun hHeld=>?_;clear hK K
    try go_frame
    refine rU 10 rfl ?_
    try go_frame
    refine rD ?_ _;refine PL ?_;go_wp2_with fail;go_meet;exact⟨g9,c9,rfl,rfl,Q9.out,R9.out,by omega,B.out⟩
   ·go_simp;have hg9:wa.heap.size<=W0.heap.size:=B.out.size;have Q9:Hid (aG (W0.alloc (.cells VC.zero.arr 29)) W0.heap.size 29 VC.zero.arr):=aG.Mm rfl;replace B:=qD (B.out.alloc B.out.size (Obj.cells VC.zero.arr 29));change K _ (W0.alloc (.cells VC.zero.arr 29));generalize W0.alloc (.cells VC.zero.arr 29)=W1 at*;generalize W0.heap.size=g9 at*;clear hHeld;refine hK.out _ _ (KC.out _ (fun g hg=>B.out.block g hg)) fun hHeld=>?_;clear hK K
    try go_frame
    refine rY 4 rfl fun K hK=>?_;go_simp;refine(HGV.out _ B.out).mono ?_;rintro e W2 ⟨c9,rfl,hr,hb⟩;have R9:=qD hr;replace Q9:=qD (Q9.out.step hb);replace B:=qD (B.out.Ml hb);clear hb hr
    (try go_wp2_with fail)
    clear hHeld;refine hK.out _ _ (KC.out _ (fun g hg=>B.out.block g hg)) fun hHeld=>?_;clear hK K
    try go_frame
    refine rU 5 rfl ?_
    try go_frame
    refine rU 6 rfl ?_
    try go_frame
    refine rU 7 rfl ?_
    try go_frame
    refine rY 9 rfl fun K hK=>?_;obtain⟨z0,z1,z2,z3,z4⟩:=aO.Mp Q9.out;have zz:=Q9.out.frozen;have lq:=Q9.out.lt;go_simp;have R9':=qD (R9.out.keep (w':=bM W2 g9 0 c9) fun b hb=>bC (by have:=HFH.out b hb;omega));have Q9':=qD (Q9.out.putV c9);have B':=qD (aW B.out hg9 0 c9);clear z0 z1 z2 z3 z4 zz lq R9 Q9 B;have R9:=R9';have Q9:=Q9';have B:=B';clear R9' Q9' B';change K _ (bM W2 g9 0 c9);generalize bM W2 g9 0 c9=W3 at*;clear hHeld;refine hK.out _ _ (KC.out _ (fun g hg=>B.out.block g hg)) fun hHeld=>?_;clear hK K
    try go_frame
    refine rU 10 rfl ?_
    try go_frame
    refine rD ?_ _;refine PL ?_;go_wp2_with fail;go_meet;exact⟨g9,c9,rfl,rfl,Q9.out,R9.out,by omega,B.out⟩
  case rest=>
   obtain⟨g9,c9,rfl,rfl,hg9,hr9,hl9,hb9⟩:=hcut;replace J:=qD (J.out.step hb9);have G9:=qD hg9;have GR:=qD hr9;clear HGV KC a0 a1 a2 a3 a4 hcw B0 J0;obtain⟨b0,b1,b2,b3,b4⟩:=aO.Mp J.out.b;have z:=J.out.b.frozen;have hlw:w.heap.size+1<wa.heap.size\/True:=.inr trivial;cases hg:eG x s with
   | none=>
    clear hg hg9 hr9 hb9 GR;go_wp2_with fail;exact OO (aD rfl _ _ _ rfl _ VC.zero (aO.Mn (J.out.b.putV VC.zero))) rfl (J.out.val RV.zero HFH.out fun _=>rfl)
   | some y=>
    rw[hg] at GR;obtain⟨-,f,hf,he⟩:=oA hg;have HAT:Hid (Ik y):=qD (by rw[<-he];exact HID.out f hf);have HYO:Hid (gq y):=qD (by rw[<-he];exact HOK.out.OB hf);clear hg hg9 hr9 hb9 hf he;obtain⟨g0,g1,g2,g3,g4⟩:=aO.Mp G9.out;go_upto_region 7 with fail
    by_cases hc1:cc=1
    ·subst hc1;obtain rfl:n=1:=by have:=HLC.out;omega
     have HT2:=HT.out;rw[OW rfl,SJ] at HT2;replace HT2:=qD HT2;have HRK:=qD fun(wq:World) (hq:Bl wc wq)=>HAT.out F r c9 _ _ _ wq (fun b hb=>by have h1:=HFH.out b hb;have h2:=J.out.bel.size;have h3:=hq.size;omega) (GR.out.step hq) HYO.out ((HT2.out.step J.out.bel).step hq);clear HT
     go_region_law ((go_simp;go_at_call 209;refine(HRK.out _ ((OG _ _).drewN 1)).mono ?_;rintro e3 w3 ⟨d3,rfl,hr3,hb3⟩;replace hb3:Bl wc w3:=hb3.Mt;replace hr3:ob (fun b=>F b\/wc.heap.size<=b) w3 d3:=hr3;have HR3:=qD hr3;have J3:=qD (J.out.step hb3);clear b0 b1 b2 b3 b4 z;obtain⟨b0,b1,b2,b3,b4⟩:=aO.Mp J3.out.b;have z:=J3.out.b.frozen;clear hr3 hb3))
     all_goals
      go_wp2_with fail;exact OO (aD rfl _ _ _ rfl _ d3 (aO.Mn (J3.out.b.putV d3))) rfl (J3.out.NY (HR3.out.mono fun b hb=>hb.imp id fun h=>⟨by have:=J.out.bel.size;omega,by have:=J.out.b.lt;omega⟩) HFH.out)
    ·have HT2:=HT.out;rw[OQ hc1] at HT2;replace HT2:=qD HT2;have HRK:=qD fun(wq:World) (hq:Bl wc wq)=>HAT.out F r c9 _ _ _ wq (fun b hb=>by have h1:=HFH.out b hb;have h2:=J.out.bel.size;have h3:=hq.size;omega) (GR.out.step hq) HYO.out ((HT2.out.step J.out.bel).step hq);clear HT
     go_region_law ((go_simp;go_at_call 209;refine(HRK.out _ ((OG _ _).drewN 1)).mono ?_;rintro e3 w3 ⟨d3,rfl,hr3,hb3⟩;replace hb3:Bl wc w3:=hb3.Mt;replace hr3:ob (fun b=>F b\/wc.heap.size<=b) w3 d3:=hr3;have HR3:=qD hr3;have J3:=qD (J.out.step hb3);clear b0 b1 b2 b3 b4 z;obtain⟨b0,b1,b2,b3,b4⟩:=aO.Mp J3.out.b;have z:=J3.out.b.frozen;clear hr3 hb3))
     all_goals
      go_wp2_with fail;exact OO (aD rfl _ _ _ rfl _ d3 (aO.Mn (J3.out.b.putV d3))) rfl (J3.out.NY (HR3.out.mono fun b hb=>hb.imp id fun h=>⟨by have:=J.out.bel.size;omega,by have:=J.out.b.lt;omega⟩) HFH.out)
 ·clear hp;go_upto_region 11 with fail
  have I0:Hid (eQ F w (w.heap.size+1) wa.heap.size (wa.heap.size+1) none 0 0 [] (wa.alloc (.cells #[.int .i64 6,.int .i64 0,.string empty,.slice none 0 0,.slice none 0 0] 29))):=qD (eQ.start J.out fun b hb=>by have:=HFH.out b hb;have:=J.out.bel.size;exact⟨by omega,by omega⟩);have D0:=qD (B0.out.alloc (.cells #[.int .i64 6,.int .i64 0,.string empty,.slice none 0 0,.slice none 0 0] 29));change Code.wp _ _ _ _ (wa.alloc (.cells #[.int .i64 6,.int .i64 0,.string empty,.slice none 0 0,.slice none 0 0] 29));generalize wa.alloc (.cells #[.int .i64 6,.int .i64 0,.string empty,.slice none 0 0,.slice none 0 0] 29)=wb at*;have hgw:w.heap.size+1<wa.heap.size:=J.out.b.lt;generalize wa.heap.size=go at*;clear a0 a1 a2 a3 a4 J J0 B0
  go_loopw [8] (fun v8 wr=>∃(i m:Nat) (A4:Option Addr) (cap:Nat) (qs:List PV),i<=c.ln/\m<=i/\v8=.int .i64 i/\aG wr w.heap.size 29 c.arr/\eQ F w (w.heap.size+1) go (go+1) A4 m cap qs wr) (fun v8 _=>c.ln-(intOf v8).toNat)
  ·exact⟨0,0,none,0,[],ON _,qL,rfl,D0.out,I0.out⟩
  case round=>
   obtain⟨i,m,A4,cap,qs,hi,hmi,rfl,hD,hI⟩:=hrel;have D:=qD hD;have I:=qD hI;clear D0 I0 hD hI;obtain⟨a0,a1,a2,a3,a4⟩:=aO.Mp D.out;by_cases hlt:i<c.ln
   ·obtain⟨eb,eo,hLA,hlb,hel⟩:=HSL.out.Nv oM;obtain⟨p,hpi,hva,hrv⟩:=hel i hlt;have hpm:p.2∈x.l:=by rw[<-HPS.out];exact PD (OJ hpi)
    have HRV:=qD (hrv.step I.out.r.bel);have HAT:=qD (HIL.out p.2 hpm);have HYO:=qD (HOK.out.el hpm);obtain⟨y0,y1,y2,y3,y4⟩:=hva.step I.out.r.bel;rw[hLA] at a3;have i1:(0:Int)<=(i:Int):=oM
    have i2:(i:Int)<(c.ln:Int):=oM
    have lww:=I.out.r.bel.size;have hlbr:eb<wr.heap.size:=oM
    have lb0:=D.out.lt;have HSTP:=qD (HP.out.step I.out.r.bel);have HFU:Hid (∀b,F b->b<wr.heap.size):=qD fun b hb=>by have:=HFH.out b hb;omega
    have HGV:Hid (Calls prog 209 #[p.1.val,.slice A n cc] wr fun e w'=>∃c9:VC,e=.returned c9.val/\ob (fun b=>(F b\/wr.heap.size<=b)/\b<w'.heap.size) w' c9/\Bl wr w'):=qD
     ((HAT.out F pl p.1 A n cc wr HFU.out HRV.out HYO.out HSTP.out).mono fun _ _ hh=>hh.lt)
    clear hel hva hrv hpi hpm hLA;go_upto_region 14 with(go_at_call 209;refine HGV.out.mono ?_;rintro e w2 ⟨c9,rfl,hr9,hb9⟩;have HR9:=qD hr9;have HB9:=qD hb9;clear hr9 hb9 a0 a1 a2 a3 a4 y0 y1 y2 y3 y4)
    ·change Code.wp _ _ _ _ (w2.alloc (.cells c9.arr 29));have hg9:aG (w2.alloc (.cells c9.arr 29)) w2.heap.size 29 c9.arr:=aG.Mm rfl;have hb9:=HB9.out.alloc HB9.out.size (Obj.cells c9.arr 29);have hr9:ob (fun b=>F b\/(wr.heap.size<=b/\b≠w2.heap.size)) (w2.alloc (.cells c9.arr 29)) c9:=(HR9.out.alloc _).mono fun b hb=>hb.1.imp id fun h=>⟨h,by have:=hb.2;omega⟩;have hl9:wr.heap.size<=w2.heap.size:=HB9.out.size;generalize w2.alloc (.cells c9.arr 29)=wc at*;generalize w2.heap.size=g9 at*;clear HR9 HB9;have D2:=qD (D.out.step hb9);have I2:=qD (I.out.step hb9);have G9:=qD hg9;obtain⟨y,hry,-⟩:=hr9
     have HRY:Hid (RV (fun b=>(F b\/go+1<=b)/\(Value.slice A4 m cap).ownBlock≠some b) wc c9 y):=qD (hry.mono fun b hb=>⟨by
      rcases hb with hb|hb
      ·exact .inl hb
      ·exact .inr (by have:=I.out.bs;omega),fun e=>by
      have h1:=eO I.out.own e
      have h2:=ak I.out.own b e
      rcases hb with hb|hb
      ·have h3:=(I.out.hF b hb).1;omega
      ·omega⟩)
     obtain⟨g0,g1,g2,g3,g4⟩:=aO.Mp G9.out;have q3:=I2.out.o.cell 3;simp at q3;have hbs:=I2.out.bs;have hs:(Value.slice A4 m cap).ownBlock≠some go:=gr I2.out.own oM;clear HGV HRV HSTP hg9 hry hb9 D I;cases hz:(c9.k != 0)
     ·go_wp2_with fail;go_roundw
      ·exact⟨i+1,m,A4,cap,qs,by omega,by omega,by go_num,D2.out,I2.out⟩
      ·exact iO
     ·go_wp2_with (at_builtin;refine aE _ rfl _ _ 26 rfl (go+1) 29 j0 VC.zero.val 5 80 PM hj0 hy0 hy1 hy2 rfl dE (.slice A4 m cap) m (aN bD qs) rfl (af I2.out.own ((OG _ _).alloc (qL) _)) _ _ 1 _ (bD (c9,y)) rfl ⟨rfl,fun _=>⟨_,rfl,On _,ag _ _ _⟩⟩ (cq _) (by unfold maxLen;omega) oM ?c5 ?_)
      case c5=>first|omega|(simp;omega)
      intro v' w4 hown4 hgr hat;obtain⟨A5,cap5,rfl,hle5⟩:=aY hown4;have f2:w4.cell? ⟨go,3,none⟩=some (.slice A4 m cap):=km hgr (((I2.out.o.alloc _).cell 3).trans rfl) hs;have z2:w4.frozen? ⟨go,3,none⟩=false:=(gQ hgr (I2.out.o.alloc _).lt hs).trans ((I2.out.o.alloc _).frozen 3);have HI:=qD (I2.out.put ((OG wc.heap.size wc).alloc (qL) _) HRY.out hgr (by rw[mv];exact hat) hown4);have HD:=qD ((I2.out.step ((OG wc.heap.size wc).alloc (qL) _)).keep hgr (D2.out.alloc _) (by have:=I2.out.g1;omega) oM (.slice A5 (m+1) cap5));clear hgr hat hown4 q3 g0 g1 g2 g3 g4 hs hbs;go_wp2_with fail;go_roundw
      ·exact⟨i+1,m+1,A5,cap5,_,by omega,by omega,by go_num,HD.out,HI.out⟩
      ·exact iO
   ·obtain rfl:i=c.ln:=oM
    have J:=qD I.out.r;obtain⟨o0,o1,o2,o3,o4⟩:=aO.Mn I.out.o;obtain⟨b0,b1,b2,b3,b4⟩:=aO.Mn J.out.b;simp only[OX] at b0 b1 b2 b3 b4 o0 o1 o2 o3 o4;have z:=J.out.b.frozen;go_wp2_with fail;exact OO (aD rfl _ _ _ rfl _ ⟨6,0,empty,A4,m,cap,none,0,0⟩ (aO.Mn (J.out.b.putV ⟨6,0,empty,A4,m,cap,none,0,0⟩))) rfl (I.out.done (by unfold aF;omega) (fun b hb=>.inl hb))
 ·clear hp;obtain⟨b0,b1,b2,b3,b4⟩:=aO.Mp J.out.b;have z:=J.out.b.frozen;go_wp2_with fail;exact OO (aD rfl _ _ _ rfl _ VC.zero (aO.Mn (J.out.b.putV VC.zero))) rfl (J.out.val RV.zero HFH.out fun _=>rfl)
end
set_option linter.unusedVariables false
section
variable {b m c size:Nat} {w:World} {e:TypeId} {op x:Int} {A:Option Addr} {F:Nat -> Prop}
theorem sI(x:aC)(c:VC)(w:World)(hF:∀b,F b->b<w.heap.size)(h:RV F w c x):Calls prog 258 #[c.val] w (eU F w):=by
 have HFH:=qD hF;have H:=qD h;have HK:Hid (c.k=x.k):=qD h.open.k;have C0:Hid (aG ((w.alloc (.cells c.arr 29)).alloc (.cells VC.zero.arr 29)) w.heap.size 29 c.arr):=(aG.Mm rfl).alloc _;have J0:Hid (fJ w (w.heap.size+1) ((w.alloc (.cells c.arr 29)).alloc (.cells VC.zero.arr 29))):=⟨aG.Mm sM,by omega,((OG _ _).alloc (qL) _).alloc sM _⟩;clear h hF;go_enter func258,ntmps258;go_upto_region 1 with fail
 change Code.wp _ _ _ _ ((w.alloc (.cells c.arr 29)).alloc (.cells VC.zero.arr 29));generalize (w.alloc (.cells c.arr 29)).alloc (.cells VC.zero.arr 29)=wa at*;obtain⟨a0,a1,a2,a3,a4⟩:=aO.Mp C0.out;have J:=J0;cases hz:(c.k==0)
 ·obtain⟨b0,b1,b2,b3,b4⟩:=aO.Mp J.out.b;have z:=J.out.b.frozen;have HZ:Hid (x.k≠0):=qD (by rw[<-HK.out];simpa using hz);go_wp2_with fail;exact OO (aD rfl _ _ _ rfl _ c (aO.Mn (J.out.b.putV c))) rfl (J.out.val ((H.out.step J.out.bel).mono fun _=>.inl) HFH.out fun h=>absurd h HZ.out)
 ·go_wp2_with (go_at_call 34;refine(bt _).mono ?_;rintro e w2 ⟨k,n,t,rfl,ht,hk,hb⟩;replace J:=qD (J.out.step hb);have HT:=qD ht;have HK:=qD hk;clear hb ht hk;obtain⟨b0,b1,b2,b3,b4⟩:=aO.Mp J.out.b;have z:=J.out.b.frozen);exact OO (aD rfl _ _ _ rfl _ (bO k n t) (aO.Mn (J.out.b.putV (bO k n t)))) rfl (J.out.leaf k n HT.out HK.out).a
theorem Lh(e:dS)(ho:e.op=4\/e.op=6)(ps:List PV)(A:Option Addr)(m c:Nat)(w:World)(hF:∀b,F b->b<w.heap.size)(hX:WX w e)(hs:ff F w A m c ps):
 Calls prog 211 #[dZ e,.slice A m c] w (eU F w):=by
 have HFH:=qD hF;have hm:m<=256:=hs.few;have HS:=qD hs;have B0:Hid (aG ((w.alloc (.cells (aP e) 35)).alloc (.cells VC.zero.arr 29)) w.heap.size 35 (aP e)):=(aG.Mm rfl).alloc _;have J0:Hid (fJ w (w.heap.size+1) ((w.alloc (.cells (aP e) 35)).alloc (.cells VC.zero.arr 29))):=⟨aG.Mm sM,by omega,((OG _ _).alloc (qL) _).alloc sM _⟩;clear hs hF;have HN:=qD fun(wr:World) (hb:Bl w wr)=>uu e.op ho ps A m c wr (HS.out.step hb);rcases ho with ho|ho
 all_goals
  rw[ho] at HN;go_enter Pt,Po;go_upto_region 1 with fail
  change Code.wp _ _ _ _ ((w.alloc (.cells (aP e) 35)).alloc (.cells VC.zero.arr 29));generalize ((w.alloc (.cells (aP e) 35)).alloc (.cells VC.zero.arr 29))=wa at*;obtain⟨d0,d1,d2,d3,d9,d10⟩:=aa B0.out;rw[ho] at d0;have J:=J0;go_wp2_with (go_at_call 260;refine(HN.out _ J.out.bel).mono ?_;rintro e w2 ⟨k,n,t,rfl,ht,hk,hb⟩;replace J:=qD (J.out.step hb);have HT:=qD ht;have HK:=qD hk;clear hb ht hk;obtain⟨b0,b1,b2,b3,b4⟩:=aO.Mp J.out.b;have z:=J.out.b.frozen);exact OO (aD rfl _ _ _ rfl _ (bO k n t) (aO.Mn (J.out.b.putV (bO k n t)))) rfl (J.out.leaf k n HT.out HK.out).a
theorem KV(e:dS)(ho:e.op=5\/e.op=7\/e.op=8)(ps:List PV)(A:Option Addr)(m c:Nat)(w:World)(hF:∀b,F b->b<w.heap.size)(hX:WX w e)(hs:ff F w A m c ps)(hq:2<=m):
 Calls prog 211 #[dZ e,.slice A m c] w (eU F w):=by
 have HFH:=qD hF;have hm:m<=256:=hs.few;have HS:=qD hs;have B0:Hid (aG ((w.alloc (.cells (aP e) 35)).alloc (.cells VC.zero.arr 29)) w.heap.size 35 (aP e)):=(aG.Mm rfl).alloc _;have J0:Hid (fJ w (w.heap.size+1) ((w.alloc (.cells (aP e) 35)).alloc (.cells VC.zero.arr 29))):=⟨aG.Mm sM,by omega,((OG _ _).alloc (qL) _).alloc sM _⟩;clear hs hF;have HN:=qD fun(wr:World) (hb:Bl w wr)=>sb e.op ho ps A m c wr (HS.out.step hb) hq;rcases ho with ho|ho|ho
 all_goals
  rw[ho] at HN;go_enter Pt,Po;go_upto_region 1 with fail
  change Code.wp _ _ _ _ ((w.alloc (.cells (aP e) 35)).alloc (.cells VC.zero.arr 29));generalize ((w.alloc (.cells (aP e) 35)).alloc (.cells VC.zero.arr 29))=wa at*;obtain⟨d0,d1,d2,d3,d9,d10⟩:=aa B0.out;rw[ho] at d0;have J:=J0;go_wp2_with (go_at_call 260;refine(HN.out _ J.out.bel).mono ?_;rintro e w2 ⟨k,n,t,rfl,ht,hk,hb⟩;replace J:=qD (J.out.step hb);have HT:=qD ht;have HK:=qD hk;clear hb ht hk;obtain⟨b0,b1,b2,b3,b4⟩:=aO.Mp J.out.b;have z:=J.out.b.frozen);exact OO (aD rfl _ _ _ rfl _ (bO k n t) (aO.Mn (J.out.b.putV (bO k n t)))) rfl (J.out.leaf k n HT.out HK.out).a
theorem Il(e:dS)(ho:e.op=16\/e.op=17)(ps:List PV)(A:Option Addr)(m c:Nat)(w:World)(hF:∀b,F b->b<w.heap.size)(hX:WX w e)(hs:ff F w A m c ps):
 Calls prog 211 #[dZ e,.slice A m c] w (eU F w):=by
 have HFH:=qD hF;have hm:m<=256:=hs.few;have HS:=qD hs;have B0:Hid (aG ((w.alloc (.cells (aP e) 35)).alloc (.cells VC.zero.arr 29)) w.heap.size 35 (aP e)):=(aG.Mm rfl).alloc _;have J0:Hid (fJ w (w.heap.size+1) ((w.alloc (.cells (aP e) 35)).alloc (.cells VC.zero.arr 29))):=⟨aG.Mm sM,by omega,((OG _ _).alloc (qL) _).alloc sM _⟩;clear hs hF;have HN:=qD fun(wr:World) (hb:Bl w wr)=>xm e.op ps A m c wr (HS.out.step hb).sr hm;rcases ho with ho|ho
 all_goals
  rw[ho] at HN;go_enter Pt,Po;go_upto_region 1 with fail
  change Code.wp _ _ _ _ ((w.alloc (.cells (aP e) 35)).alloc (.cells VC.zero.arr 29));generalize ((w.alloc (.cells (aP e) 35)).alloc (.cells VC.zero.arr 29))=wa at*;obtain⟨d0,d1,d2,d3,d9,d10⟩:=aa B0.out;rw[ho] at d0;have J:=J0;go_wp2_with (go_at_call 261;refine(HN.out _ J.out.bel).mono ?_;rintro e w2 ⟨k,n,t,rfl,ht,hk,hb⟩;replace J:=qD (J.out.step hb);have HT:=qD ht;have HK:=qD hk;clear hb ht hk;obtain⟨b0,b1,b2,b3,b4⟩:=aO.Mp J.out.b;have z:=J.out.b.frozen);exact OO (aD rfl _ _ _ rfl _ (bO k n t) (aO.Mn (J.out.b.putV (bO k n t)))) rfl (J.out.leaf k n HT.out HK.out).a
theorem Li(e:dS)(ho:e.op=18)(ps:List PV)(A:Option Addr)(m c:Nat)(w:World)(hF:∀b,F b->b<w.heap.size)(hX:WX w e)(hs:ff F w A m c ps)(hq:1<=m):
 Calls prog 211 #[dZ e,.slice A m c] w (eU F w):=by
 have HFH:=qD hF;have hm:m<=256:=hs.few;obtain⟨eb,eo,rfl,hlb,hel⟩:=hs.at oM;obtain⟨p0,-,hv0,hr0,ho0⟩:=hel 0 oM;rw[show eo+0*5=eo by omega] at hv0;have HV0:=qD hv0;have HR0:=qD hr0;have HO0:=qD ho0;have l0:(0:Int)<(m:Int):=oM
 have k0:0<m:=oM
 clear hel hv0 hr0 ho0;have HS:=qD hs;have B0:Hid (aG ((w.alloc (.cells (aP e) 35)).alloc (.cells VC.zero.arr 29)) w.heap.size 35 (aP e)):=(aG.Mm rfl).alloc _;have J0:Hid (fJ w (w.heap.size+1) ((w.alloc (.cells (aP e) 35)).alloc (.cells VC.zero.arr 29))):=⟨aG.Mm sM,by omega,((OG _ _).alloc (qL) _).alloc sM _⟩;clear hs hF;go_enter Pt,Po;go_upto_region 1 with fail
 change Code.wp _ _ _ _ ((w.alloc (.cells (aP e) 35)).alloc (.cells VC.zero.arr 29));generalize ((w.alloc (.cells (aP e) 35)).alloc (.cells VC.zero.arr 29))=wa at*;obtain⟨d0,d1,d2,d3,d9,d10⟩:=aa B0.out;rw[ho] at d0;have J:=J0;obtain⟨y0,y1,y2,y3,y4⟩:=HV0.out.step J.out.bel;go_wp2_with (first|(go_at_call 259;refine(kl p0.1 _).mono ?_;rintro e w1 ⟨r,rfl,_,hb⟩;replace J:=qD (J.out.step hb);clear hb)|(go_at_call 262;refine(iu _ _).mono ?_;rintro e w2 ⟨k,n,t,rfl,ht,hk,hb⟩;replace J:=qD (J.out.step hb);have HT:=qD ht;have HK:=qD hk;clear hb ht hk;obtain⟨b0,b1,b2,b3,b4⟩:=aO.Mp J.out.b;have z:=J.out.b.frozen));exact OO (aD rfl _ _ _ rfl _ (bO k n t) (aO.Mn (J.out.b.putV (bO k n t)))) rfl (J.out.leaf k n HT.out HK.out).a
theorem MQ(e:dS)(ho:e.op=19)(ps:List PV)(A:Option Addr)(m c:Nat)(w:World)(hF:∀b,F b->b<w.heap.size)(hX:WX w e)(hs:ff F w A m c ps)(hq:3<=m):
 Calls prog 211 #[dZ e,.slice A m c] w (eU F w):=by
 have HFH:=qD hF;have hm:m<=256:=hs.few;obtain⟨eb,eo,rfl,hlb,hel⟩:=hs.at oM;obtain⟨p0,-,hv0,hr0,ho0⟩:=hel 0 oM;rw[show eo+0*5=eo by omega] at hv0;have HV0:=qD hv0;have HR0:=qD hr0;have HO0:=qD ho0;obtain⟨p1,-,hv1,hr1,ho1⟩:=hel 1 oM;rw[show eo+1*5=eo+5 by omega] at hv1;have HV1:=qD hv1;have HR1:=qD hr1;have HO1:=qD ho1;obtain⟨p2,-,hv2,hr2,ho2⟩:=hel 2 oM;rw[show eo+2*5=eo+10 by omega] at hv2;have HV2:=qD hv2;have HR2:=qD hr2;have HO2:=qD ho2;have l0:(0:Int)<(m:Int):=oM
 have k0:0<m:=oM
 have l1:(1:Int)<(m:Int):=oM
 have k1:1<m:=oM
 have l2:(2:Int)<(m:Int):=oM
 have k2:2<m:=oM
 clear hel hv0 hr0 ho0 hv1 hr1 ho1 hv2 hr2 ho2;have HS:=qD hs;have B0:Hid (aG ((w.alloc (.cells (aP e) 35)).alloc (.cells VC.zero.arr 29)) w.heap.size 35 (aP e)):=(aG.Mm rfl).alloc _;have J0:Hid (fJ w (w.heap.size+1) ((w.alloc (.cells (aP e) 35)).alloc (.cells VC.zero.arr 29))):=⟨aG.Mm sM,by omega,((OG _ _).alloc (qL) _).alloc sM _⟩;clear hs hF;go_enter Pt,Po;go_upto_region 1 with fail
 change Code.wp _ _ _ _ ((w.alloc (.cells (aP e) 35)).alloc (.cells VC.zero.arr 29));generalize ((w.alloc (.cells (aP e) 35)).alloc (.cells VC.zero.arr 29))=wa at*;obtain⟨d0,d1,d2,d3,d9,d10⟩:=aa B0.out;rw[ho] at d0;have J:=J0;obtain⟨y0,y1,y2,y3,y4⟩:=HV0.out.step J.out.bel;go_wp2_with (go_at_call 259;refine(kl p0.1 _).mono ?_;rintro e w1 ⟨r,rfl,_,hb⟩;replace J:=qD (J.out.step hb);clear hb;obtain⟨u0,u1,u2,u3,u4⟩:=HV1.out.step J.out.bel;obtain⟨v0,v1,v2,v3,v4⟩:=HV2.out.step J.out.bel;obtain⟨b0,b1,b2,b3,b4⟩:=aO.Mp J.out.b;have z:=J.out.b.frozen;cases r)
 ·exact OO (aD rfl _ _ _ rfl _ p2.1 (aO.Mn (J.out.b.putV p2.1))) rfl (J.out.val ((HR2.out.step J.out.bel).mono fun _=>.inl) HFH.out HO2.out.k0)
 ·exact OO (aD rfl _ _ _ rfl _ p1.1 (aO.Mn (J.out.b.putV p1.1))) rfl (J.out.val ((HR1.out.step J.out.bel).mono fun _=>.inl) HFH.out HO1.out.k0)
theorem Gb(e:dS)(ho:e.op=20)(ps:List PV)(A:Option Addr)(m c:Nat)(w:World)(hF:∀b,F b->b<w.heap.size)(hX:WX w e)(hs:ff F w A m c ps)(hq:2<=m):
 Calls prog 211 #[dZ e,.slice A m c] w (eU F w):=by
 have HFH:=qD hF;have hm:m<=256:=hs.few;obtain⟨eb,eo,rfl,hlb,hel⟩:=hs.at oM;obtain⟨p0,-,hv0,hr0,ho0⟩:=hel 0 oM;rw[show eo+0*5=eo by omega] at hv0;have HV0:=qD hv0;have HR0:=qD hr0;have HO0:=qD ho0;obtain⟨p1,-,hv1,hr1,ho1⟩:=hel 1 oM;rw[show eo+1*5=eo+5 by omega] at hv1;have HV1:=qD hv1;have HR1:=qD hr1;have HO1:=qD ho1;have l0:(0:Int)<(m:Int):=oM
 have k0:0<m:=oM
 have l1:(1:Int)<(m:Int):=oM
 have k1:1<m:=oM
 clear hel hv0 hr0 ho0 hv1 hr1 ho1;have HS:=qD hs;have B0:Hid (aG ((w.alloc (.cells (aP e) 35)).alloc (.cells VC.zero.arr 29)) w.heap.size 35 (aP e)):=(aG.Mm rfl).alloc _;have J0:Hid (fJ w (w.heap.size+1) ((w.alloc (.cells (aP e) 35)).alloc (.cells VC.zero.arr 29))):=⟨aG.Mm sM,by omega,((OG _ _).alloc (qL) _).alloc sM _⟩;clear hs hF;go_enter Pt,Po;go_upto_region 1 with fail
 change Code.wp _ _ _ _ ((w.alloc (.cells (aP e) 35)).alloc (.cells VC.zero.arr 29));generalize ((w.alloc (.cells (aP e) 35)).alloc (.cells VC.zero.arr 29))=wa at*;obtain⟨d0,d1,d2,d3,d9,d10⟩:=aa B0.out;rw[ho] at d0;have J:=J0;obtain⟨y0,y1,y2,y3,y4⟩:=HV0.out.step J.out.bel;obtain⟨u0,u1,u2,u3,u4⟩:=HV1.out.step J.out.bel;obtain⟨b0,b1,b2,b3,b4⟩:=aO.Mp J.out.b;have z:=J.out.b.frozen;rcases(show(p0.1.k==0)=true\/((p0.1.k==0)=false/\(p0.1.k==2)=true)\/((p0.1.k==0)=false/\(p0.1.k==2)=false) by cases(p0.1.k==0)<;>cases(p0.1.k==2)<;>simp) with h|⟨h,h2⟩|⟨h,h2⟩
 ·go_wp2_with fail;exact OO (aD rfl _ _ _ rfl _ p1.1 (aO.Mn (J.out.b.putV p1.1))) rfl (J.out.val ((HR1.out.step J.out.bel).mono fun _=>.inl) HFH.out HO1.out.k0)
 ·go_wp2_with fail;exact OO (aD rfl _ _ _ rfl _ p1.1 (aO.Mn (J.out.b.putV p1.1))) rfl (J.out.val ((HR1.out.step J.out.bel).mono fun _=>.inl) HFH.out HO1.out.k0)
 ·go_wp2_with fail;exact OO (aD rfl _ _ _ rfl _ p0.1 (aO.Mn (J.out.b.putV p0.1))) rfl (J.out.val ((HR0.out.step J.out.bel).mono fun _=>.inl) HFH.out HO0.out.k0)
theorem Gc(e:dS)(ho:e.op=21)(ps:List PV)(A:Option Addr)(m c:Nat)(w:World)(hF:∀b,F b->b<w.heap.size)(hX:WX w e)(hs:ff F w A m c ps):
 Calls prog 211 #[dZ e,.slice A m c] w (eU F w):=by
 have HFH:=qD hF;have hm:m<=256:=hs.few;have HS:=qD hs;have B0:Hid (aG ((w.alloc (.cells (aP e) 35)).alloc (.cells VC.zero.arr 29)) w.heap.size 35 (aP e)):=(aG.Mm rfl).alloc _;have J0:Hid (fJ w (w.heap.size+1) ((w.alloc (.cells (aP e) 35)).alloc (.cells VC.zero.arr 29))):=⟨aG.Mm sM,by omega,((OG _ _).alloc (qL) _).alloc sM _⟩;clear hs hF;have HN:=qD fun(wr:World) (hb:Bl w wr)=>uw ps A m c wr (HS.out.step hb);go_enter Pt,Po;go_upto_region 1 with fail
 change Code.wp _ _ _ _ ((w.alloc (.cells (aP e) 35)).alloc (.cells VC.zero.arr 29));generalize ((w.alloc (.cells (aP e) 35)).alloc (.cells VC.zero.arr 29))=wa at*;obtain⟨d0,d1,d2,d3,d9,d10⟩:=aa B0.out;rw[ho] at d0;have J:=J0;go_wp2_with (go_at_call 263;refine(HN.out _ J.out.bel).mono ?_;rintro e w2 ⟨k,n,t,rfl,ht,hk,hb⟩;replace J:=qD (J.out.step hb);have HT:=qD ht;have HK:=qD hk;clear hb ht hk;obtain⟨b0,b1,b2,b3,b4⟩:=aO.Mp J.out.b;have z:=J.out.b.frozen);exact OO (aD rfl _ _ _ rfl _ (bO k n t) (aO.Mn (J.out.b.putV (bO k n t)))) rfl (J.out.leaf k n HT.out HK.out).a
theorem Dq(e:dS)(ho:e.op=22\/e.op=23)(ps:List PV)(A:Option Addr)(m c:Nat)(w:World)(hF:∀b,F b->b<w.heap.size)(hX:WX w e)(hs:ff F w A m c ps)(hq:1<=m):
 Calls prog 211 #[dZ e,.slice A m c] w (eU F w):=by
 have HFH:=qD hF;have hm:m<=256:=hs.few;obtain⟨eb,eo,rfl,hlb,hel⟩:=hs.at oM;obtain⟨p0,-,hv0,hr0,ho0⟩:=hel 0 oM;rw[show eo+0*5=eo by omega] at hv0;have HV0:=qD hv0;have HR0:=qD hr0;have HO0:=qD ho0;have l0:(0:Int)<(m:Int):=oM
 have k0:0<m:=oM
 clear hel hv0 hr0 ho0;have HS:=qD hs;have B0:Hid (aG ((w.alloc (.cells (aP e) 35)).alloc (.cells VC.zero.arr 29)) w.heap.size 35 (aP e)):=(aG.Mm rfl).alloc _;have J0:Hid (fJ w (w.heap.size+1) ((w.alloc (.cells (aP e) 35)).alloc (.cells VC.zero.arr 29))):=⟨aG.Mm sM,by omega,((OG _ _).alloc (qL) _).alloc sM _⟩;clear hs hF;have HTP:Hid (p0.1.t.size<=4096):=qD (by rw[HR0.out.open.t];exact HO0.out.len.1);rcases ho with ho|ho
 all_goals
  go_enter Pt,Po;go_upto_region 1 with fail
  change Code.wp _ _ _ _ ((w.alloc (.cells (aP e) 35)).alloc (.cells VC.zero.arr 29));generalize ((w.alloc (.cells (aP e) 35)).alloc (.cells VC.zero.arr 29))=wa at*;obtain⟨d0,d1,d2,d3,d9,d10⟩:=aa B0.out;rw[ho] at d0;have J:=J0;obtain⟨y0,y1,y2,y3,y4⟩:=HV0.out.step J.out.bel;cases h4:(p0.1.k != 4)
  ·go_upto_region 30 with fail
   go_region_law (first
    | (go_simp;go_at_call 265;refine(sf _ _ _ (OU HTP.out dE)).mono ?_;rintro e w1 ⟨s,rfl,hsz,hb⟩;replace hb:Bl wa w1:=hb.Mt;have HTZ:=qD (OU hsz (OU HTP.out (by decide:4096<=aF)));replace J:=qD (J.out.step hb);clear hb hsz)
    | (go_simp;(go_at_call 264;refine(fQ _ _ HTZ.out).mono ?_;rintro e w2 ⟨k,n,t,rfl,ht,hk,hb⟩;replace J:=qD (J.out.step hb);have HT:=qD ht;have HK:=qD hk;clear hb ht hk;obtain⟨b0,b1,b2,b3,b4⟩:=aO.Mp J.out.b;have z:=J.out.b.frozen)))
   all_goals
    go_wp2_with fail;exact OO (aD rfl _ _ _ rfl _ (bO k n t) (aO.Mn (J.out.b.putV (bO k n t)))) rfl (J.out.leaf k n HT.out HK.out).a
  ·go_wp2_with (go_at_call 34;refine(bt _).mono ?_;rintro e w2 ⟨k,n,t,rfl,ht,hk,hb⟩;replace J:=qD (J.out.step hb);have HT:=qD ht;have HK:=qD hk;clear hb ht hk;obtain⟨b0,b1,b2,b3,b4⟩:=aO.Mp J.out.b;have z:=J.out.b.frozen);exact OO (aD rfl _ _ _ rfl _ (bO k n t) (aO.Mn (J.out.b.putV (bO k n t)))) rfl (J.out.leaf k n HT.out HK.out).a
theorem Gd(e:dS)(ho:e.op=24)(ps:List PV)(A:Option Addr)(m c:Nat)(w:World)(hF:∀b,F b->b<w.heap.size)(hX:WX w e)(hs:ff F w A m c ps)(hq:1<=m):
 Calls prog 211 #[dZ e,.slice A m c] w (eU F w):=by
 have HFH:=qD hF;have hm:m<=256:=hs.few;obtain⟨eb,eo,rfl,hlb,hel⟩:=hs.at oM;obtain⟨p0,-,hv0,hr0,ho0⟩:=hel 0 oM;rw[show eo+0*5=eo by omega] at hv0;have HV0:=qD hv0;have HR0:=qD hr0;have HO0:=qD ho0;have l0:(0:Int)<(m:Int):=oM
 have k0:0<m:=oM
 clear hel hv0 hr0 ho0;have HS:=qD hs;have B0:Hid (aG ((w.alloc (.cells (aP e) 35)).alloc (.cells VC.zero.arr 29)) w.heap.size 35 (aP e)):=(aG.Mm rfl).alloc _;have J0:Hid (fJ w (w.heap.size+1) ((w.alloc (.cells (aP e) 35)).alloc (.cells VC.zero.arr 29))):=⟨aG.Mm sM,by omega,((OG _ _).alloc (qL) _).alloc sM _⟩;clear hs hF;go_enter Pt,Po;go_upto_region 1 with fail
 change Code.wp _ _ _ _ ((w.alloc (.cells (aP e) 35)).alloc (.cells VC.zero.arr 29));generalize ((w.alloc (.cells (aP e) 35)).alloc (.cells VC.zero.arr 29))=wa at*;obtain⟨d0,d1,d2,d3,d9,d10⟩:=aa B0.out;rw[ho] at d0;have J:=J0;obtain⟨y0,y1,y2,y3,y4⟩:=HV0.out.step J.out.bel;cases h4:(p0.1.k != 4)
 ·go_wp2_with (go_at_call 30;refine(fV _ _).mono ?_;rintro e w2 ⟨k,n,t,rfl,ht,hk,hb⟩;replace J:=qD (J.out.step hb);have HT:=qD ht;have HK:=qD hk;clear hb ht hk;obtain⟨b0,b1,b2,b3,b4⟩:=aO.Mp J.out.b;have z:=J.out.b.frozen);exact OO (aD rfl _ _ _ rfl _ (bO k n t) (aO.Mn (J.out.b.putV (bO k n t)))) rfl (J.out.leaf k n HT.out HK.out).a
 ·go_wp2_with (go_at_call 34;refine(bt _).mono ?_;rintro e w2 ⟨k,n,t,rfl,ht,hk,hb⟩;replace J:=qD (J.out.step hb);have HT:=qD ht;have HK:=qD hk;clear hb ht hk;obtain⟨b0,b1,b2,b3,b4⟩:=aO.Mp J.out.b;have z:=J.out.b.frozen);exact OO (aD rfl _ _ _ rfl _ (bO k n t) (aO.Mn (J.out.b.putV (bO k n t)))) rfl (J.out.leaf k n HT.out HK.out).a
theorem Im(e:dS)(ho:e.op=25)(ps:List PV)(A:Option Addr)(m c:Nat)(w:World)(hF:∀b,F b->b<w.heap.size)(hX:WX w e)(hs:ff F w A m c ps)(hq:3<=m):
 Calls prog 211 #[dZ e,.slice A m c] w (eU F w):=by
 have HFH:=qD hF;have hm:m<=256:=hs.few;obtain⟨eb,eo,rfl,hlb,hel⟩:=hs.at oM;obtain⟨p0,-,hv0,hr0,ho0⟩:=hel 0 oM;rw[show eo+0*5=eo by omega] at hv0;have HV0:=qD hv0;have HR0:=qD hr0;have HO0:=qD ho0;obtain⟨p1,-,hv1,hr1,ho1⟩:=hel 1 oM;rw[show eo+1*5=eo+5 by omega] at hv1;have HV1:=qD hv1;have HR1:=qD hr1;have HO1:=qD ho1;obtain⟨p2,-,hv2,hr2,ho2⟩:=hel 2 oM;rw[show eo+2*5=eo+10 by omega] at hv2;have HV2:=qD hv2;have HR2:=qD hr2;have HO2:=qD ho2;have l0:(0:Int)<(m:Int):=oM
 have k0:0<m:=oM
 have l1:(1:Int)<(m:Int):=oM
 have k1:1<m:=oM
 have l2:(2:Int)<(m:Int):=oM
 have k2:2<m:=oM
 clear hel hv0 hr0 ho0 hv1 hr1 ho1 hv2 hr2 ho2;have HS:=qD hs;have B0:Hid (aG ((w.alloc (.cells (aP e) 35)).alloc (.cells VC.zero.arr 29)) w.heap.size 35 (aP e)):=(aG.Mm rfl).alloc _;have J0:Hid (fJ w (w.heap.size+1) ((w.alloc (.cells (aP e) 35)).alloc (.cells VC.zero.arr 29))):=⟨aG.Mm sM,by omega,((OG _ _).alloc (qL) _).alloc sM _⟩;clear hs hF;have HTP:Hid (p0.1.t.size<=4096):=qD (by rw[HR0.out.open.t];exact HO0.out.len.1);go_enter Pt,Po;go_upto_region 1 with fail
 change Code.wp _ _ _ _ ((w.alloc (.cells (aP e) 35)).alloc (.cells VC.zero.arr 29));generalize ((w.alloc (.cells (aP e) 35)).alloc (.cells VC.zero.arr 29))=wa at*;obtain⟨d0,d1,d2,d3,d9,d10⟩:=aa B0.out;rw[ho] at d0;have J:=J0;obtain⟨y0,y1,y2,y3,y4⟩:=HV0.out.step J.out.bel;obtain⟨u0,u1,u2,u3,u4⟩:=HV1.out.step J.out.bel;obtain⟨v0,v1,v2,v3,v4⟩:=HV2.out.step J.out.bel;go_upto_region 32 with fail
 go_region_law ((go_simp;go_at_call 266;refine(xo p0.1 p1.1 p2.1 _ HTP.out).mono ?_;rintro e w2 ⟨k,n,t,rfl,ht,hk,hb⟩;replace hb:Bl wa w2:=hb.Mt;replace J:=qD (J.out.step hb);have HT:=qD ht;have HK:=qD hk;clear hb ht hk;obtain⟨b0,b1,b2,b3,b4⟩:=aO.Mp J.out.b;have z:=J.out.b.frozen))
 all_goals
  go_wp2_with fail;exact OO (aD rfl _ _ _ rfl _ (bO k n t) (aO.Mn (J.out.b.putV (bO k n t)))) rfl (J.out.leaf k n HT.out HK.out).a
theorem KX(e:dS)(ho:e.op=26\/e.op=30\/e.op=31)(ps:List PV)(A:Option Addr)(m c:Nat)(w:World)(hF:∀b,F b->b<w.heap.size)(hX:WX w e)(hs:ff F w A m c ps)(hq:1<=m):
 Calls prog 211 #[dZ e,.slice A m c] w (eU F w):=by
 have HFH:=qD hF;have hm:m<=256:=hs.few;obtain⟨eb,eo,rfl,hlb,hel⟩:=hs.at oM;obtain⟨p0,-,hv0,hr0,ho0⟩:=hel 0 oM;rw[show eo+0*5=eo by omega] at hv0;have HV0:=qD hv0;have HR0:=qD hr0;have HO0:=qD ho0;have l0:(0:Int)<(m:Int):=oM
 have k0:0<m:=oM
 clear hel hv0 hr0 ho0;have HS:=qD hs;have B0:Hid (aG ((w.alloc (.cells (aP e) 35)).alloc (.cells VC.zero.arr 29)) w.heap.size 35 (aP e)):=(aG.Mm rfl).alloc _;have J0:Hid (fJ w (w.heap.size+1) ((w.alloc (.cells (aP e) 35)).alloc (.cells VC.zero.arr 29))):=⟨aG.Mm sM,by omega,((OG _ _).alloc (qL) _).alloc sM _⟩;clear hs hF;have HN:=qD fun(wr:World) (hb:Bl w wr)=>AS e.op p0.2 p0.1 wr (fun b h=>by have:=HFH.out b h;have:=hb.size;omega) (HR0.out.step hb) HO0.out;rcases ho with ho|ho|ho
 all_goals
  rw[ho] at HN;go_enter Pt,Po;go_upto_region 1 with fail
  change Code.wp _ _ _ _ ((w.alloc (.cells (aP e) 35)).alloc (.cells VC.zero.arr 29));generalize ((w.alloc (.cells (aP e) 35)).alloc (.cells VC.zero.arr 29))=wa at*;obtain⟨d0,d1,d2,d3,d9,d10⟩:=aa B0.out;rw[ho] at d0;have J:=J0;obtain⟨y0,y1,y2,y3,y4⟩:=HV0.out.step J.out.bel;go_upto_region 36 with fail
  go_region_law ((go_simp;go_at_call 267;refine(HN.out _ (J.out.bel.drewN 1)).mono ?_;rintro e w2 ⟨d,rfl,hr,hb⟩;replace hb:Bl wa w2:=hb.Mt;replace hr:ob (fun b=>F b\/wa.heap.size<=b) w2 d:=hr;have HR:=qD (hr.mono (G:=fun b=>F b\/(w.heap.size<=b/\b≠w.heap.size+1)) fun b hb=>hb.imp id fun h=>⟨by have:=J.out.bel.size;omega,by have:=J.out.b.lt;omega⟩);replace J:=qD (J.out.step hb);clear hb hr;obtain⟨b0,b1,b2,b3,b4⟩:=aO.Mp J.out.b;have z:=J.out.b.frozen))
  all_goals
   go_wp2_with fail;exact OO (aD rfl _ _ _ rfl _ d (aO.Mn (J.out.b.putV d))) rfl (J.out.NY HR.out HFH.out)
theorem MR(e:dS)(ho:e.op=27)(ps:List PV)(A:Option Addr)(m c:Nat)(w:World)(hF:∀b,F b->b<w.heap.size)(hX:WX w e)(hs:ff F w A m c ps)(hq:2<=m):
 Calls prog 211 #[dZ e,.slice A m c] w (eU F w):=by
 have HFH:=qD hF;have hm:m<=256:=hs.few;obtain⟨eb,eo,rfl,hlb,hel⟩:=hs.at oM;obtain⟨p0,-,hv0,hr0,ho0⟩:=hel 0 oM;rw[show eo+0*5=eo by omega] at hv0;have HV0:=qD hv0;have HR0:=qD hr0;have HO0:=qD ho0;obtain⟨p1,-,hv1,hr1,ho1⟩:=hel 1 oM;rw[show eo+1*5=eo+5 by omega] at hv1;have HV1:=qD hv1;have HR1:=qD hr1;have HO1:=qD ho1;have l0:(0:Int)<(m:Int):=oM
 have k0:0<m:=oM
 have l1:(1:Int)<(m:Int):=oM
 have k1:1<m:=oM
 clear hel hv0 hr0 ho0 hv1 hr1 ho1;have HS:=qD hs;have B0:Hid (aG ((w.alloc (.cells (aP e) 35)).alloc (.cells VC.zero.arr 29)) w.heap.size 35 (aP e)):=(aG.Mm rfl).alloc _;have J0:Hid (fJ w (w.heap.size+1) ((w.alloc (.cells (aP e) 35)).alloc (.cells VC.zero.arr 29))):=⟨aG.Mm sM,by omega,((OG _ _).alloc (qL) _).alloc sM _⟩;clear hs hF;have HN:=qD fun(wr:World) (hb:Bl w wr)=>sg p0.2 p0.1 p1.1 wr (fun b h=>by have:=HFH.out b h;have:=hb.size;omega) (HR0.out.step hb) HO0.out;go_enter Pt,Po;go_upto_region 1 with fail
 change Code.wp _ _ _ _ ((w.alloc (.cells (aP e) 35)).alloc (.cells VC.zero.arr 29));generalize ((w.alloc (.cells (aP e) 35)).alloc (.cells VC.zero.arr 29))=wa at*;obtain⟨d0,d1,d2,d3,d9,d10⟩:=aa B0.out;rw[ho] at d0;have J:=J0;obtain⟨y0,y1,y2,y3,y4⟩:=HV0.out.step J.out.bel;obtain⟨u0,u1,u2,u3,u4⟩:=HV1.out.step J.out.bel;go_upto_region 38 with fail
 go_region_law ((go_simp;go_at_call 268;refine(HN.out _ (J.out.bel.drewN 1)).mono ?_;rintro e w2 ⟨d,rfl,hr,hb⟩;replace hb:Bl wa w2:=hb.Mt;replace hr:ob (fun b=>F b\/wa.heap.size<=b) w2 d:=hr;have HR:=qD (hr.mono (G:=fun b=>F b\/(w.heap.size<=b/\b≠w.heap.size+1)) fun b hb=>hb.imp id fun h=>⟨by have:=J.out.bel.size;omega,by have:=J.out.b.lt;omega⟩);replace J:=qD (J.out.step hb);clear hb hr;obtain⟨b0,b1,b2,b3,b4⟩:=aO.Mp J.out.b;have z:=J.out.b.frozen))
 all_goals
  go_wp2_with fail;exact OO (aD rfl _ _ _ rfl _ d (aO.Mn (J.out.b.putV d))) rfl (J.out.NY HR.out HFH.out)
theorem MS(e:dS)(ho:e.op=28)(ps:List PV)(A:Option Addr)(m c:Nat)(w:World)(hF:∀b,F b->b<w.heap.size)(hX:WX w e)(hs:ff F w A m c ps)(hq:2<=m):
 Calls prog 211 #[dZ e,.slice A m c] w (eU F w):=by
 have HFH:=qD hF;have hm:m<=256:=hs.few;obtain⟨eb,eo,rfl,hlb,hel⟩:=hs.at oM;obtain⟨p0,-,hv0,hr0,ho0⟩:=hel 0 oM;rw[show eo+0*5=eo by omega] at hv0;have HV0:=qD hv0;have HR0:=qD hr0;have HO0:=qD ho0;obtain⟨p1,-,hv1,hr1,ho1⟩:=hel 1 oM;rw[show eo+1*5=eo+5 by omega] at hv1;have HV1:=qD hv1;have HR1:=qD hr1;have HO1:=qD ho1;have l0:(0:Int)<(m:Int):=oM
 have k0:0<m:=oM
 have l1:(1:Int)<(m:Int):=oM
 have k1:1<m:=oM
 clear hel hv0 hr0 ho0 hv1 hr1 ho1;have HS:=qD hs;have B0:Hid (aG ((w.alloc (.cells (aP e) 35)).alloc (.cells VC.zero.arr 29)) w.heap.size 35 (aP e)):=(aG.Mm rfl).alloc _;have J0:Hid (fJ w (w.heap.size+1) ((w.alloc (.cells (aP e) 35)).alloc (.cells VC.zero.arr 29))):=⟨aG.Mm sM,by omega,((OG _ _).alloc (qL) _).alloc sM _⟩;clear hs hF;obtain⟨rs,hrs,hsl⟩:=RV.sl HR1.out;have HSL:=qD hsl;have hln:p1.1.ln<=1024:=by have:=HR1.out.open.ln;have:=HO1.out.len.2.1;omega
 have HLN:=qD hln;clear hsl hrs;have HN:=qD fun(wr:World) (hb:Bl w wr)=>sG p0.2 p0.1 _ _ _ rs wr (HSL.out.sr.step hb) (fun q hq=>((HSL.out.rv q hq).step hb).mono fun _ _=>trivial) ((HR0.out.step hb).mono fun _ _=>trivial) (by have:=HLN.out;omega);go_enter Pt,Po;go_upto_region 1 with fail
 change Code.wp _ _ _ _ ((w.alloc (.cells (aP e) 35)).alloc (.cells VC.zero.arr 29));generalize ((w.alloc (.cells (aP e) 35)).alloc (.cells VC.zero.arr 29))=wa at*;obtain⟨d0,d1,d2,d3,d9,d10⟩:=aa B0.out;rw[ho] at d0;have J:=J0;obtain⟨y0,y1,y2,y3,y4⟩:=HV0.out.step J.out.bel;obtain⟨u0,u1,u2,u3,u4⟩:=HV1.out.step J.out.bel;cases h6:(p1.1.k != 6)
 ·go_upto_region 42 with fail
  go_region_law (first
   | (go_simp;go_at_call 269;refine(HN.out _ (J.out.bel.drewN 1)).mono ?_;rintro e w1 ⟨r,rfl,_,hb⟩;replace hb:Bl wa w1:=hb.Mt;replace J:=qD (J.out.step hb);clear hb)
   | (go_simp;(go_at_call 262;refine(iu _ _).mono ?_;rintro e w2 ⟨k,n,t,rfl,ht,hk,hb⟩;replace J:=qD (J.out.step hb);have HT:=qD ht;have HK:=qD hk;clear hb ht hk;obtain⟨b0,b1,b2,b3,b4⟩:=aO.Mp J.out.b;have z:=J.out.b.frozen)))
  all_goals
   go_wp2_with fail;exact OO (aD rfl _ _ _ rfl _ (bO k n t) (aO.Mn (J.out.b.putV (bO k n t)))) rfl (J.out.leaf k n HT.out HK.out).a
 ·go_wp2_with (go_at_call 34;refine(bt _).mono ?_;rintro e w2 ⟨k,n,t,rfl,ht,hk,hb⟩;replace J:=qD (J.out.step hb);have HT:=qD ht;have HK:=qD hk;clear hb ht hk;obtain⟨b0,b1,b2,b3,b4⟩:=aO.Mp J.out.b;have z:=J.out.b.frozen);exact OO (aD rfl _ _ _ rfl _ (bO k n t) (aO.Mn (J.out.b.putV (bO k n t)))) rfl (J.out.leaf k n HT.out HK.out).a
theorem KY(e:dS)(ho:e.op=29)(ps:List PV)(A:Option Addr)(m c:Nat)(w:World)(hF:∀b,F b->b<w.heap.size)(hX:WX w e)(hs:ff F w A m c ps):
 Calls prog 211 #[dZ e,.slice A m c] w (eU F w):=by
 have HFH:=qD hF;have hm:m<=256:=hs.few;have HS:=qD hs;have B0:Hid (aG ((w.alloc (.cells (aP e) 35)).alloc (.cells VC.zero.arr 29)) w.heap.size 35 (aP e)):=(aG.Mm rfl).alloc _;have J0:Hid (fJ w (w.heap.size+1) ((w.alloc (.cells (aP e) 35)).alloc (.cells VC.zero.arr 29))):=⟨aG.Mm sM,by omega,((OG _ _).alloc (qL) _).alloc sM _⟩;clear hs hF;have HN:=qD fun(wr:World) (hb:Bl w wr)=>AT ps A m c wr (fun b h=>by have:=HFH.out b h;have:=hb.size;omega) (HS.out.step hb);go_enter Pt,Po;go_upto_region 1 with fail
 change Code.wp _ _ _ _ ((w.alloc (.cells (aP e) 35)).alloc (.cells VC.zero.arr 29));generalize ((w.alloc (.cells (aP e) 35)).alloc (.cells VC.zero.arr 29))=wa at*;obtain⟨d0,d1,d2,d3,d9,d10⟩:=aa B0.out;rw[ho] at d0;have J:=J0;go_wp2_with (go_at_call 270;refine(HN.out _ J.out.bel).mono ?_;rintro e w2 ⟨d,rfl,hr,hb⟩;have HR:=qD (hr.mono (G:=fun b=>F b\/(w.heap.size<=b/\b≠w.heap.size+1)) fun b hb=>hb.imp id fun h=>⟨by have:=J.out.bel.size;omega,by have:=J.out.b.lt;omega⟩);replace J:=qD (J.out.step hb);clear hb hr;obtain⟨b0,b1,b2,b3,b4⟩:=aO.Mp J.out.b;have z:=J.out.b.frozen);exact OO (aD rfl _ _ _ rfl _ d (aO.Mn (J.out.b.putV d))) rfl (J.out.NY HR.out HFH.out)
theorem Io(e:dS)(ho:e.op=37)(ps:List PV)(A:Option Addr)(m c:Nat)(w:World)(hF:∀b,F b->b<w.heap.size)(hX:WX w e)(hs:ff F w A m c ps):
 Calls prog 211 #[dZ e,.slice A m c] w (eU F w):=by
 have HFH:=qD hF;have hm:m<=256:=hs.few;have HS:=qD hs;have B0:Hid (aG ((w.alloc (.cells (aP e) 35)).alloc (.cells VC.zero.arr 29)) w.heap.size 35 (aP e)):=(aG.Mm rfl).alloc _;have J0:Hid (fJ w (w.heap.size+1) ((w.alloc (.cells (aP e) 35)).alloc (.cells VC.zero.arr 29))):=⟨aG.Mm sM,by omega,((OG _ _).alloc (qL) _).alloc sM _⟩;clear hs hF;have HN:=qD fun(wr:World) (hb:Bl w wr)=>xr ps A m c wr (fun b h=>by have:=HFH.out b h;have:=hb.size;omega) (HS.out.step hb);go_enter Pt,Po;go_upto_region 1 with fail
 change Code.wp _ _ _ _ ((w.alloc (.cells (aP e) 35)).alloc (.cells VC.zero.arr 29));generalize ((w.alloc (.cells (aP e) 35)).alloc (.cells VC.zero.arr 29))=wa at*;obtain⟨d0,d1,d2,d3,d9,d10⟩:=aa B0.out;rw[ho] at d0;have J:=J0;go_wp2_with (go_at_call 271;refine(HN.out _ J.out.bel).mono ?_;rintro e w2 ⟨d,rfl,hr,hb⟩;have HR:=qD (hr.mono (G:=fun b=>F b\/(w.heap.size<=b/\b≠w.heap.size+1)) fun b hb=>hb.imp id fun h=>⟨by have:=J.out.bel.size;omega,by have:=J.out.b.lt;omega⟩);replace J:=qD (J.out.step hb);clear hb hr;obtain⟨b0,b1,b2,b3,b4⟩:=aO.Mp J.out.b;have z:=J.out.b.frozen);exact OO (aD rfl _ _ _ rfl _ d (aO.Mn (J.out.b.putV d))) rfl (J.out.NY HR.out HFH.out)
theorem KZ(e:dS)(ho:e.op=36)(ps:List PV)(A:Option Addr)(m c:Nat)(w:World)(hF:∀b,F b->b<w.heap.size)(hX:WX w e)(hs:ff F w A m c ps)(hq:1<=m):
 Calls prog 211 #[dZ e,.slice A m c] w (eU F w):=by
 have HFH:=qD hF;have hm:m<=256:=hs.few;obtain⟨eb,eo,rfl,hlb,hel⟩:=hs.at oM;obtain⟨p0,-,hv0,hr0,ho0⟩:=hel 0 oM;rw[show eo+0*5=eo by omega] at hv0;have HV0:=qD hv0;have HR0:=qD hr0;have HO0:=qD ho0;have l0:(0:Int)<(m:Int):=oM
 have k0:0<m:=oM
 clear hel hv0 hr0 ho0;have HS:=qD hs;have B0:Hid (aG ((w.alloc (.cells (aP e) 35)).alloc (.cells VC.zero.arr 29)) w.heap.size 35 (aP e)):=(aG.Mm rfl).alloc _;have J0:Hid (fJ w (w.heap.size+1) ((w.alloc (.cells (aP e) 35)).alloc (.cells VC.zero.arr 29))):=⟨aG.Mm sM,by omega,((OG _ _).alloc (qL) _).alloc sM _⟩;clear hs hF;go_enter Pt,Po;go_upto_region 1 with fail
 change Code.wp _ _ _ _ ((w.alloc (.cells (aP e) 35)).alloc (.cells VC.zero.arr 29));generalize ((w.alloc (.cells (aP e) 35)).alloc (.cells VC.zero.arr 29))=wa at*;obtain⟨d0,d1,d2,d3,d9,d10⟩:=aa B0.out;rw[ho] at d0;have J:=J0;obtain⟨y0,y1,y2,y3,y4⟩:=HV0.out.step J.out.bel;go_wp2_with (go_at_call 30;refine(fV _ _).mono ?_;rintro e w2 ⟨k,n,t,rfl,ht,hk,hb⟩;replace J:=qD (J.out.step hb);have HT:=qD ht;have HK:=qD hk;clear hb ht hk;obtain⟨b0,b1,b2,b3,b4⟩:=aO.Mp J.out.b;have z:=J.out.b.frozen);exact OO (aD rfl _ _ _ rfl _ (bO k n t) (aO.Mn (J.out.b.putV (bO k n t)))) rfl (J.out.leaf k n HT.out HK.out).a
theorem Lj(e:dS)(ho:9<=e.op/\e.op<=15)(ps:List PV)(A:Option Addr)(m c:Nat)(w:World)(hF:∀b,F b->b<w.heap.size)(hX:WX w e)(hs:ff F w A m c ps)(hq:2<=m):
 Calls prog 211 #[dZ e,.slice A m c] w (eU F w):=by
 have HFH:=qD hF;have hm:m<=256:=hs.few;obtain⟨eb,eo,rfl,hlb,hel⟩:=hs.at oM;obtain⟨p0,-,hv0,hr0,ho0⟩:=hel 0 oM;rw[show eo+0*5=eo by omega] at hv0;have HV0:=qD hv0;have HR0:=qD hr0;have HO0:=qD ho0;obtain⟨p1,-,hv1,hr1,ho1⟩:=hel 1 oM;rw[show eo+1*5=eo+5 by omega] at hv1;have HV1:=qD hv1;have HR1:=qD hr1;have HO1:=qD ho1;have l0:(0:Int)<(m:Int):=oM
 have k0:0<m:=oM
 have l1:(1:Int)<(m:Int):=oM
 have k1:1<m:=oM
 clear hel hv0 hr0 ho0 hv1 hr1 ho1;have HS:=qD hs;have B0:Hid (aG ((w.alloc (.cells (aP e) 35)).alloc (.cells VC.zero.arr 29)) w.heap.size 35 (aP e)):=(aG.Mm rfl).alloc _;have J0:Hid (fJ w (w.heap.size+1) ((w.alloc (.cells (aP e) 35)).alloc (.cells VC.zero.arr 29))):=⟨aG.Mm sM,by omega,((OG _ _).alloc (qL) _).alloc sM _⟩;clear hs hF;have HN:=qD fun(wr:World) (hb:Bl w wr)=>se e.op p0.2 p1.2 p0.1 p1.1 wr ((HR0.out.step hb).mono fun _ _=>trivial) ((HR1.out.step hb).mono fun _ _=>trivial);rcases(show e.op=9\/e.op=10\/e.op=11\/e.op=12\/e.op=13\/e.op=14\/e.op=15 by omega) with h|h|h|h|h|h|h
 all_goals
  clear ho;have ho:=h;clear h;rw[ho] at HN;go_enter Pt,Po;go_upto_region 1 with fail
  change Code.wp _ _ _ _ ((w.alloc (.cells (aP e) 35)).alloc (.cells VC.zero.arr 29));generalize ((w.alloc (.cells (aP e) 35)).alloc (.cells VC.zero.arr 29))=wa at*;obtain⟨d0,d1,d2,d3,d9,d10⟩:=aa B0.out;rw[ho] at d0;have J:=J0;obtain⟨y0,y1,y2,y3,y4⟩:=HV0.out.step J.out.bel;obtain⟨u0,u1,u2,u3,u4⟩:=HV1.out.step J.out.bel;go_upto_region 64 with fail
  go_region_law ((go_simp;go_at_call 272;refine(HN.out _ (J.out.bel.drewN 1)).mono ?_;rintro e w2 ⟨k,n,t,rfl,ht,hk,hb⟩;replace hb:Bl wa w2:=hb.Mt;replace J:=qD (J.out.step hb);have HT:=qD ht;have HK:=qD hk;clear hb ht hk;obtain⟨b0,b1,b2,b3,b4⟩:=aO.Mp J.out.b;have z:=J.out.b.frozen))
  all_goals
   go_wp2_with fail;exact OO (aD rfl _ _ _ rfl _ (bO k n t) (aO.Mn (J.out.b.putV (bO k n t)))) rfl (J.out.leaf k n HT.out HK.out).a
theorem Ge(e:dS)(ho:e.op=35)(ps:List PV)(A:Option Addr)(m c:Nat)(w:World)(hF:∀b,F b->b<w.heap.size)(hX:WX w e)(hs:ff F w A m c ps):
 Calls prog 211 #[dZ e,.slice A m c] w (eU F w):=by
 have HFH:=qD hF;have hm:m<=256:=hs.few;have HS:=qD hs;have B0:Hid (aG ((w.alloc (.cells (aP e) 35)).alloc (.cells VC.zero.arr 29)) w.heap.size 35 (aP e)):=(aG.Mm rfl).alloc _;have J0:Hid (fJ w (w.heap.size+1) ((w.alloc (.cells (aP e) 35)).alloc (.cells VC.zero.arr 29))):=⟨aG.Mm sM,by omega,((OG _ _).alloc (qL) _).alloc sM _⟩;clear hs hF;obtain⟨i0,hi0,hz0,hz1,hz2⟩:=Pb dB;have HN:Hid (∀(x:aC) (u:VC) (wr:World),Bl w wr->RV F wr u x->Calls prog 258 #[u.val] wr (eU F wr)):=qD fun x u wr hb hr=>sI x u wr (fun b h=>by have:=HFH.out b h;have:=hb.size;omega) hr;go_enter Pt,Po;go_upto_region 1 with fail
 change Code.wp _ _ _ _ ((w.alloc (.cells (aP e) 35)).alloc (.cells VC.zero.arr 29));generalize ((w.alloc (.cells (aP e) 35)).alloc (.cells VC.zero.arr 29))=wa at*;obtain⟨d0,d1,d2,d3,d9,d10⟩:=aa B0.out;rw[ho] at d0;have J:=J0;go_upto_region 56 with fail
 have I0:Hid (eQ F w (w.heap.size+1) wa.heap.size (wa.heap.size+1) none 0 0 [] (wa.alloc (.cells #[.int .i64 6,.int .i64 0,.string empty,.slice none 0 0,.slice none 0 0] 29))):=qD (eQ.start J.out fun b hb=>by have:=HFH.out b hb;have:=J.out.bel.size;exact⟨by omega,by omega⟩);change Code.wp _ _ _ _ (wa.alloc (.cells #[.int .i64 6,.int .i64 0,.string empty,.slice none 0 0,.slice none 0 0] 29));generalize wa.alloc (.cells #[.int .i64 6,.int .i64 0,.string empty,.slice none 0 0,.slice none 0 0] 29)=wb at*;generalize wa.heap.size=go at*;clear d0 d1 d2 d3 d9 d10 J J0 B0
 go_loopw [8] (fun v wr=>∃(i:Nat) (A4:Option Addr) (cap:Nat) (qs:List PV),i<=m/\v=.int .i64 i/\eQ F w (w.heap.size+1) go (go+1) A4 i cap qs wr) (fun v _=>m-(intOf v).toNat)
 ·exact⟨0,none,0,[],ON _,rfl,I0.out⟩
 case round=>
  obtain⟨i,A4,cap,qs,hi,rfl,hI⟩:=hrel;have I:=qD hI;clear I0 hI;by_cases hlt:i<m
  ·obtain⟨b,off,rfl,hlb,hel⟩:=HS.out.at oM;obtain⟨p,-,hva,hrv,hoo⟩:=hel i hlt;have HRV:=qD (hrv.step I.out.r.bel);obtain⟨y0,y1,y2,y3,y4⟩:=hva.step I.out.r.bel;have q3:=I.out.o.cell 3;simp at q3;have i1:(0:Int)<=(i:Int):=oM
   have i2:(i:Int)<(m:Int):=oM
   have hs:(Value.slice A4 i cap).ownBlock≠some go:=gr I.out.own oM;clear hel hva hrv hoo;go_upto_region 58 with fail
   go_region_law (first
    | (refine bG _ rfl (.tmp 193) (.tmp 199) 26 rfl (go+1) 29 i0 VC.zero.val 5 80 PM hi0 hz0 hz1 hz2 rfl dE (.slice A4 i cap) i (aN bD qs) (by simp[Act.eval]) (I3.out.own.alloc _) (w3.heap.size+1) (some ⟨w3.heap.size,0,none⟩) 1 1 (bD (d3,x3)) (by simp[Act.eval]) ⟨rfl,fun _=>⟨_,rfl,by simp,ag _ _ _⟩⟩ (cq _) (by simp only[maxLen];omega) oM (by simp;have:=I3.out.bs;omega) ?_;intro v' w4 hown4 hgr hat;obtain⟨A5,cap5,hv5,hle5⟩:=aY hown4;rw[hv5];have f2:w4.cell? ⟨go,3,none⟩=some (.slice A4 i cap):=km hgr (((I3.out.o.alloc _).cell 3).trans rfl) hs;have z2:w4.frozen? ⟨go,3,none⟩=false:=(gQ hgr (I3.out.o.alloc _).lt hs).trans ((I3.out.o.alloc _).frozen 3))
    | (go_simp;go_at_call 258;refine(HN.out p.2 p.1 _ (I.out.r.bel.drewN 1) (HRV.out.drewN 1)).mono ?_;rintro e3 w3 ⟨d3,rfl,hr3,hb3⟩;replace hb3:Bl wr w3:=hb3.Mt;replace hr3:ob (fun b=>F b\/wr.heap.size<=b) w3 d3:=hr3;obtain⟨x3,hx3,-⟩:=hr3;have I3:=qD (I.out.step hb3);have HX3:Hid (RV (fun b=>(F b\/go+1<=b)/\(Value.slice A4 i cap).ownBlock≠some b) w3 d3 x3):=qD (hx3.mono fun b hb=>⟨hb.imp id fun h=>by have:=I.out.bs;omega,fun e=>by have h1:=eO I.out.own e;have h2:=ak I.out.own b e;rcases hb with hb|hb;(have h3:=(I.out.hF b hb).1;omega);omega⟩);clear hb3 hx3;have s3:=I3.out.o.cell 3;simp at s3;have hgo:go<w3.heap.size:=I3.out.bs))
   all_goals
    have HI:=qD (I3.out.put ((OG w3.heap.size w3).alloc (qL) _) HX3.out hgr (by rw[<-hv5];exact hat) (by rw[<-hv5];exact hown4));clear f2 z2 hgr hat hown4 hv5 hs q3 s3 hgo y0 y1 y2 y3 y4 I I3 HX3;generalize w4.setCell ⟨go,3,none⟩ (.slice A5 (i+1) cap5)=w5 at*;go_wp2_with fail;go_roundw
    ·exact⟨i+1,A5,cap5,_,by omega,by go_num,HI.out⟩
    ·exact iO
  ·obtain rfl:i=m:=oM
   have J:=qD I.out.r;obtain⟨o0,o1,o2,o3,o4⟩:=aO.Mp I.out.o;obtain⟨b0,b1,b2,b3,b4⟩:=aO.Mp J.out.b;have z:=J.out.b.frozen;go_wp2_with fail;exact OO (aD rfl _ _ _ rfl _ ⟨6,0,empty,A4,i,cap,none,0,0⟩ (aO.Mn (J.out.b.putV ⟨6,0,empty,A4,i,cap,none,0,0⟩))) rfl (I.out.done (by unfold aF;omega) (fun b hb=>.inl hb))
end
structure kJ(F:Nat->Prop)(w:World)(g go base:Nat)(A:Option Addr)(m cap:Nat)(ps:List PF)(wr:World):Prop where
 r:fJ w g wr
 o:aG wr go 29 (VC.arr ⟨5,0,empty,none,0,0,A,m,cap⟩)
 g1:g<base
 g2:go<base
 ne:g≠go
 lo:w.heap.size<=go
 bs:base<=wr.heap.size
 own:wr.ownsRow base 77 6 (.slice A m cap) m (aN cw ps)
 ln:ps.length=m
 el:∀p∈ps,RV (fun b=>(F b\/base<=b)/\(Value.slice A m cap).ownBlock≠some b) wr p.1 p.2.v
 ns:∀p∈ps,p.2.s.size<=aF
 hF:∀b,F b->b<base/\b≠g/\b≠go
section
variable {b n g m c base q cap size:Nat} {w w' wr w3 w4 wq:World} {e:TypeId} {cs:Array Value} {op x:Int} {v:Value} {s:ByteArray} {A A':Option Addr} {F:Nat -> Prop}
section
variable {F F':Nat->Prop} {w wr w3 w4 w':World} {g go base m m2 cap cap':Nat} {A A':Option Addr} {ps qs:List PF}
theorem kJ.step(h:kJ F w g go base A m cap ps wr)(hb:Bl wr w'):kJ F w g go base A m cap ps w':=
 ⟨h.r.step hb,h.o.step hb,h.g1,h.g2,h.ne,h.lo,OU h.bs hb.size,af h.own hb,h.ln,fun p hp=>(h.el p hp).step hb,h.ns,h.hF⟩
theorem kJ.old(h:kJ F w g go base A m cap ps wr){c:VC}{x:aC}(hx:RV F wr c x):RV (fun b=>(F b\/base<=b)/\(Value.slice A m cap).ownBlock≠some b) wr c x:=
 hx.mono fun b hb=>⟨.inl hb,fun e=>by have:=ak h.own b e;have:=(h.hF b hb).1;omega⟩
theorem kJ.next(h:kJ F w g go base A m cap ps w3)(hns:∀q∈qs,q.2.s.size<=aF)(hq:∀q∈qs,RV (fun b=>(F b\/base<=b)/\(Value.slice A m cap).ownBlock≠some b) w3 q.1 q.2.v)(hl:qs.length=m2)(hg:w3.grownBy w4 (Value.slice A m cap).ownBlock)(hat:(Value.slice A' (m+m2) cap').ownBlock=(Value.slice A m cap).ownBlock\/(Value.slice A' (m+m2) cap').ownBlock=some w3.heap.size)(hown:w4.ownsRow base 77 6 (.slice A' (m+m2) cap') (m+m2) (aN cw ps++aN cw qs)):
  kJ F w g go base A' (m+m2) cap' (ps++qs) (w4.setCell ⟨go,4,none⟩ (.slice A' (m+m2) cap')):=by
  have hne:∀b,b<base->some b≠(Value.slice A m cap).ownBlock:=fun b hb e=>by have:=ak h.own b e.symm;omega
  have bl:∀{b:Nat} {cs:Array Value},aG w3 b 29 cs->b<base->aG w4 b 29 cs:=fun hb hlt=>(hg.block _ hb.lt (hne _ hlt)).trans hb;have g2:=h.g2;have lo:=h.lo;have h4:Bl w w4:=h.r.bel.grown hg h.r.bel.size (fun k hk=>by have:=ak h.own k hk;omega);refine⟨⟨(bl h.r.b h.g1).Mu h.ne _,h.r.lo,h4.setCell lo _⟩,(bl h.o h.g2).Mo 4 _,h.g1,h.g2,h.ne,h.lo,?_,?_,?_,fun p hp=>?_,fun p hp=>(OP.1 hp).elim (h.ns p) (hns p),h.hF⟩
  ·have:=hg.size;have:=h.bs;simp[World.setCell];omega
  ·rw[dT];exact jt hown fun k hk=>PQ _ _ _ _ (by have:=ak hown k hk;show k≠go;omega)
  ·rw[OK,h.ln,hl]
  ·have hr:RV (fun b=>(F b\/base<=b)/\(Value.slice A' (m+m2) cap').ownBlock≠some b) w4 p.1 p.2.v:=by
    rcases OP.1 hp with hp|hp
    ·exact kH (h.el p hp) hg hat
    ·exact kH (hq p hp) hg hat
   exact hr.Mr fun b hb _=>⟨hb,PQ _ _ _ _ (by
    show b≠go
    rcases hb.1 with k|k
    ·exact(h.hF b k).2.2
    ·omega)⟩
theorem kJ.done(h:kJ F w g go base A m cap ps wr)(hz:m*96<=aF)(hG:∀b,F b->F' b\/w.heap.size<=b):
 eU F' w (.returned (VC.val ⟨5,0,empty,none,0,0,A,m,cap⟩)) (bM wr g 0 ⟨5,0,empty,none,0,0,A,m,cap⟩):=by
 obtain⟨A',c',e,hs⟩:=SD.Mq (F:=fun b=>F b\/base<=b) h.own h.ln hz (fun _ hb=>.inr hb) h.ns (fun p hp=>(h.el p hp).mono fun b hb=>hb.1);cases e;have hr:=RV.NC (k:=5) (m:=0) (t:=empty) dE SL.none hs;have g1:=h.g1;have lo:=h.lo;have g2:=h.g2;refine⟨_,rfl,⟨_,hr.Mr fun b hb _=>⟨?_,bC ?_⟩,fun h0=>absurd h0 (by simp[aC.k])⟩,aW h.r.bel h.r.lo 0 _⟩
 ·rcases hb with k|k
  ·exact hG b k
  ·exact .inr oM
 ·rcases hb with k|k
  ·exact(h.hF b k).2.1
  ·omega
theorem kJ.start(h:fJ w g wr)(hF:∀b,F b->b<wr.heap.size/\b≠g):kJ F w g wr.heap.size (wr.heap.size+1) none 0 0 [] (wr.alloc (.cells #[.int .i64 5,.int .i64 0,.string empty,.slice none 0 0,.slice none 0 0] 29)):=
 ⟨h.step ((OG _ _).alloc (qL) _),aG.Mm rfl,by have:=h.b.lt;omega,by omega,by have:=h.b.lt;omega,h.bel.size,by simp,bP _ _ _ _,rfl,by simp,by simp,fun b hb=>⟨by have:=(hF b hb).1;omega,(hF b hb).2,by have:=(hF b hb).1;omega⟩⟩
theorem kJ.keep(h:kJ F w g go base A m cap ps w3)(hg:w3.grownBy w4 (Value.slice A m cap).ownBlock){T:TypeId}(hb:aG w3 b T cs)(hlt:b<base)(hne:b≠go)(u:Value):aG (w4.setCell ⟨go,4,none⟩ u) b T cs:=
 aG.Mu (p:=⟨go,4,none⟩) ((hg.block _ hb.lt (fun e=>by have:=ak h.own b e.symm;omega)).trans hb) hne _
theorem kJ.put(h:kJ F w g go base A m cap ps w3)(hwq:Bl w3 wq){p:PF}(hns:p.2.s.size<=aF)(hp:RV (fun b=>(F b\/base<=b)/\(Value.slice A m cap).ownBlock≠some b) w3 p.1 p.2.v)(hg:wq.grownBy w4 (Value.slice A m cap).ownBlock)(hat:(Value.slice A' (m+1) cap').ownBlock=(Value.slice A m cap).ownBlock\/(Value.slice A' (m+1) cap').ownBlock=some wq.heap.size)(hown:w4.ownsRow base 77 6 (.slice A' (m+1) cap') (m+1) (aN cw ps++cw p)):
  kJ F w g go base A' (m+1) cap' (ps++[p]) (w4.setCell ⟨go,4,none⟩ (.slice A' (m+1) cap')):=
  (h.step hwq).next (qs:=[p]) (fun q hq=>by rw[Ox.1 hq];exact hns) (fun q hq=>by rw[Ox.1 hq];exact hp.step hwq) rfl hg hat (by simpa[aN] using hown)
end
theorem Ip(e:dS)(ho:e.op=34)(ps:List PV)(A:Option Addr)(m c:Nat)(w:World)(hF:∀b,F b->b<w.heap.size)(hX:WX w e)(hs:ff F w A m c ps)(hmn:m=e.names.n):
 Calls prog 211 #[dZ e,.slice A m c] w (eU F w):=by
 have HFH:=qD hF;have hm:m<=256:=hs.few;have HS:=qD hs;have B0:Hid (aG ((w.alloc (.cells (aP e) 35)).alloc (.cells VC.zero.arr 29)) w.heap.size 35 (aP e)):=(aG.Mm rfl).alloc _;have J0:Hid (fJ w (w.heap.size+1) ((w.alloc (.cells (aP e) 35)).alloc (.cells VC.zero.arr 29))):=⟨aG.Mm sM,by omega,((OG _ _).alloc (qL) _).alloc sM _⟩;clear hs hF;obtain⟨i0,hi0,hz0,hz1,hz2⟩:=Pb kW;have HNM:=qD hX.open.names;have HMN:=qD hmn;clear hmn;go_enter Pt,Po;go_upto_region 1 with fail
 change Code.wp _ _ _ _ ((w.alloc (.cells (aP e) 35)).alloc (.cells VC.zero.arr 29));generalize ((w.alloc (.cells (aP e) 35)).alloc (.cells VC.zero.arr 29))=wa at*;obtain⟨d0,d1,d2,d3,d9,d10⟩:=aa B0.out;rw[ho] at d0;have J:=J0;go_upto_region 48 with fail
 have I0:Hid (kJ F w (w.heap.size+1) wa.heap.size (wa.heap.size+1) none 0 0 [] (wa.alloc (.cells #[.int .i64 5,.int .i64 0,.string empty,.slice none 0 0,.slice none 0 0] 29))):=qD (kJ.start J.out fun b hb=>by have:=HFH.out b hb;have:=J.out.bel.size;exact⟨by omega,by omega⟩);have D0:=qD (B0.out.alloc (.cells #[.int .i64 5,.int .i64 0,.string empty,.slice none 0 0,.slice none 0 0] 29));change Code.wp _ _ _ _ (wa.alloc (.cells #[.int .i64 5,.int .i64 0,.string empty,.slice none 0 0,.slice none 0 0] 29));generalize wa.alloc (.cells #[.int .i64 5,.int .i64 0,.string empty,.slice none 0 0,.slice none 0 0] 29)=wb at*;have hgw:w.heap.size+1<wa.heap.size:=J.out.b.lt;generalize wa.heap.size=go at*;clear d0 d1 d2 d3 d9 d10 J J0 B0 hX
 go_loopw [6] (fun v wr=>∃(i M:Nat) (A4:Option Addr) (cap:Nat) (qs:List PF),i<=m/\M<=i/\v=.int .i64 i/\aG wr w.heap.size 35 (aP e)/\kJ F w (w.heap.size+1) go (go+1) A4 M cap qs wr) (fun v _=>m-(intOf v).toNat)
 ·exact⟨0,0,none,0,[],ON _,qL,rfl,D0.out,I0.out⟩
 case round=>
  obtain⟨i,M,A4,cap,qs,hi,hMi,rfl,hD,hI⟩:=hrel;have D:=qD hD;have I:=qD hI;clear I0 hI D0 hD;by_cases hlt:i<m
  ·obtain⟨b,off,rfl,hlb,hel⟩:=HS.out.at oM;obtain⟨p,-,hva,hrv,hoo⟩:=hel i hlt;have HRV:=qD (hrv.step I.out.r.bel);obtain⟨y0,y1,y2,y3,y4⟩:=hva.step I.out.r.bel;have i1:(0:Int)<=(i:Int):=oM
   have i2:(i:Int)<(m:Int):=oM
   clear hel hva hrv hoo;cases hz:(p.1.k != 0)
   ·go_wp2_with fail;go_roundw
    ·exact⟨i+1,M,A4,cap,qs,by omega,by omega,by go_num,D.out,I.out⟩
    ·exact iO
   ·obtain⟨nb,no,s,hNA,hnb,hnx,hnc⟩:=HNM.out.sr.NR (i:=i) (by have:=HMN.out;omega);have HNS:=qD (HNM.out.el s (OJ hnx));obtain⟨d0,d1,d2,d3,d9,d10⟩:=aa D.out;rw[hNA,<-HMN.out] at d3;have x0:=(I.out.r.bel.cell (p:=⟨nb,no+i,none⟩) hnb).trans hnc;have q3:=I.out.o.cell 4;simp at q3;have hs:(Value.slice A4 M cap).ownBlock≠some go:=gr I.out.own oM;have hbs:=I.out.bs;have hgo:go<wr.heap.size:=oM
    clear hnx hnc hNA;go_upto_region 51 with fail
    go_region_law (refine bG _ rfl (.tmp 168) (.tmp 179) 27 rfl (go+1) 77 i0 (.agg (#[.string empty]++VC.zero.arr)) 6 96 QS hi0 hz0 hz1 hz2 rfl dE (.slice A4 M cap) M (aN cw qs) (by simp[Act.eval]) ((I.out.own.alloc _).drew) (wr.heap.size+1) (some ⟨wr.heap.size,0,none⟩) 1 1 (cw (p.1,.mk s p.2)) (by simp[Act.eval]) ⟨rfl,fun _=>⟨_,rfl,by simp,ag _ _ _⟩⟩ (js _) (by simp only[maxLen];omega) oM sO ?_;intro v' w4 hown4 hgr hat;obtain⟨A5,cap5,hv5,hle5⟩:=aY hown4;rw[hv5];have f2:w4.cell? ⟨go,4,none⟩=some (.slice A4 M cap):=km hgr (((I.out.o.alloc _).drew.cell 4).trans rfl) hs;have z2:w4.frozen? ⟨go,4,none⟩=false:=(gQ hgr (I.out.o.alloc _).drew.lt hs).trans ((I.out.o.alloc _).drew.frozen 4))
    all_goals
     have HI:=qD (I.out.put (p:=(p.1,.mk s p.2)) (((OG wr.heap.size wr).alloc (qL) _).drew) HNS.out (I.out.old HRV.out) hgr (by rw[<-hv5];exact hat) (by rw[<-hv5];exact hown4));have HD:=qD ((I.out.step (((OG wr.heap.size wr).alloc (qL) _).drew)).keep hgr ((D.out.alloc _).drew) (by have:=I.out.g1;omega) oM (.slice A5 (M+1) cap5));clear f2 z2 hgr hat hown4 hv5 hs q3 y0 y1 y2 y3 y4 I D d0 d1 d2 d3 d9 d10 x0;generalize w4.setCell ⟨go,4,none⟩ (.slice A5 (M+1) cap5)=w5 at*;go_wp2_with fail;go_roundw
     ·exact⟨i+1,M+1,A5,cap5,_,by omega,by omega,by go_num,HD.out,HI.out⟩
     ·exact iO
  ·obtain rfl:i=m:=oM
   have J:=qD I.out.r;obtain⟨o0,o1,o2,o3,o4⟩:=aO.Mp I.out.o;obtain⟨b0,b1,b2,b3,b4⟩:=aO.Mp J.out.b;have z:=J.out.b.frozen;go_wp2_with fail;exact OO (aD rfl _ _ _ rfl _ ⟨5,0,empty,none,0,0,A4,M,cap⟩ (aO.Mn (J.out.b.putV ⟨5,0,empty,none,0,0,A4,M,cap⟩))) rfl (I.out.done (by unfold aF;omega) (fun b hb=>.inl hb))
def Bo(x:dS):Prop:=1<=x.op/\x.op<=37/\(0<=lm x.op->(x.kn:Int)=lm x.op)/\(x.op=34->x.kn=x.names.n)
def JL(x:dS):Prop:=Bo x/\(x.op=1->aJ x.arg.2=true)
def oT:Nat->dS->Prop
 | 0,_=>False
 | k+1,x=>JL x/\x.kn<=256/\∀q∈x.kids,oT k q
theorem AU(x:dS)(w:World)(h:WX w x)(hT:cZ w):Calls prog 193 #[dZ x] w (fun e w'=>∃n:Int,e=.returned (.int .i64 n)/\(n=0->JL x)/\Bl w w'):=by
 have W:=qD h.open;have HT:=qD hT;clear h hT;have hpz:x.path.n<=140737488355328:=by have:=W.out.path.sz;unfold aF at this;omega
 have hnz:x.names.n<=140737488355328:=by have:=W.out.names.sz;unfold aF at this;omega
 have hkz:x.kn<=140737488355328:=by have:=W.out.ksz;unfold aF at this;omega
 go_enter func193,ntmps193;go_upto_region 1 with fail
 refine ml (aP x) 35 ?_;intro wa B0 BE;obtain⟨d0,d1,d2,d3,d9,d10⟩:=aa B0.out
 go_cut [46] (fun v wx=>∃b:Bool,v=.bool b/\(b=false->Bo x)/\aG wx w.heap.size 35 (aP x)/\Bl w wx)
 case first=>as_aux_lemma=>
  have E0:=aX d0;have E3:=aX d3;have E10:=aX d10
  have K1:Hid (∀q:BW wa,Calls prog 246 #[.int .i64 x.op] q.val fun e w''=>e=.returned (.int .i64 (lm x.op))/\∃q:BW wa,w''=q.val):=fun q=>
   (tm x.op q.val).mono fun e w' ⟨h1,h2⟩=>⟨h1,q,h2⟩
  clear d0 d1 d2 d3 d9 d10;obtain⟨op,hop⟩:∃op,op=x.op:=⟨_,rfl⟩;obtain⟨kn,hkn⟩:∃kn,kn=x.kn:=⟨_,rfl⟩;obtain⟨nn,hnn⟩:∃nn,nn=x.names.n:=⟨_,rfl⟩;rw[<-hop] at E0 K1;rw[<-hkn] at E10 hkz;rw[<-hnn] at E3 hnz;obtain⟨k,hk⟩:∃k,k=lm op:=⟨_,rfl⟩;rw[<-hk] at K1;have fin:∀(q:BW wa) (b:Bool),(b=false->1<=op/\op<=37/\(0<=k->(kn:Int)=k)/\(op=34->kn=nn))->∃b':Bool,Value.bool b=.bool b'/\(b'=false->Bo x)/\aG q.val w.heap.size 35 (aP x)/\Bl w q.val:=fun q b h=>⟨b,rfl,fun hb=>by obtain⟨h1,h2,h3,h4⟩:=h hb;subst hop hkn hnn hk;exact⟨h1,h2,h3,h4⟩,B0.out.step q.below,BE.out.Ml q.below⟩;clear hop hkn hnn hk;have FIN:=qD fin;clear fin
  have ways:(decide (op<1)=true)\/(decide (op<1)=false/\decide (op>37)=true)\/(decide (op<1)=false/\decide (op>37)=false/\Hid (1<=op/\op<=37)):=by
   by_cases h1:op<1<;>by_cases h2:op>37<;>simp[h1,h2,Hid]<;>omega
  rcases ways with a1|⟨a1,a2⟩|⟨a1,a2,HA⟩
  ·refine aL kR kR ?_
   repeat(go_big_quiet_step (with_reducible exact K1.out _))
   refine Oc ?_;rintro _ ⟨kw,rfl⟩;go_wp2_with fail;go_meet;exact FIN.out kw _ (fun h=>absurd h dE)
  ·refine aL kR kR ?_
   repeat(go_big_quiet_step (with_reducible exact K1.out _))
   refine Oc ?_;rintro _ ⟨kw,rfl⟩;go_wp2_with fail;go_meet;exact FIN.out kw _ (fun h=>absurd h dE)
  ·have ways2:(decide (k≥0)=true/\((kn:Int) != k)=true)\/((((decide (k≥0)=true/\((kn:Int) != k)=false)\/(decide (k≥0)=false))/\Hid (0<=k->(kn:Int)=k))/\((op==34)=false/\Hid (op=34->kn=nn)\/(op==34)=true/\((kn:Int) != (nn:Int))=true\/(op==34)=true/\((kn:Int) != (nn:Int))=false/\((kn:Int)==0)=true\/(op==34)=true/\((kn:Int) != (nn:Int))=false/\((kn:Int)==0)=false/\Hid (op=34->kn=nn))):=by
    by_cases h1:k≥0<;>by_cases h2:(kn:Int)=k<;>by_cases h3:op=34<;>by_cases h4:(kn:Int)=(nn:Int)<;>by_cases h5:(kn:Int)=0<;>simp[h1,h2,h3,h4,h5,Hid]<;>omega
   rcases ways2 with⟨b1,b2⟩|⟨⟨⟨b1,b2⟩|b1,HB⟩,⟨c1,HC⟩|⟨c1,c2⟩|⟨c1,c2,c3⟩|⟨c1,c2,c3,HC⟩⟩
   all_goals
    refine aL kR kR ?_
    repeat(go_big_quiet_step (with_reducible exact K1.out _))
    refine Oc ?_;rintro _ ⟨kw,rfl⟩;go_wp2_with fail;go_meet;exact FIN.out kw _ (by first|exact fun h=>absurd h (by decide)|exact fun _=>⟨HA.out.1,HA.out.2,HB.out,HC.out⟩)
 case rest=>
  obtain⟨b,rfl,hnA,hB0,hBE⟩:=hcut;have HNA:=qD hnA;clear B0 BE d0 d1 d2 d3 d9 d10 hnA;have B0:=qD hB0;have BE:=qD hBE;obtain⟨d0,d1,d2,d3,d9,d10⟩:=aa B0.out;clear hB0 hBE;cases b
  ·go_upto_region 3 with fail
   have HP:=qD (W.out.path.step BE.out)
   go_cut [72] (fun v wx=>∃b:Bool,v=.bool b/\wx=wc)
   case first=>as_aux_lemma=>
    go_wp2_with (go_at_call 20;refine(mh x.path.xs _ _ _ _ HP.out).mono ?_;rintro e w1 ⟨rfl,rfl⟩;obtain⟨bb,hbb⟩:∃b,b=dw x.path.xs:=⟨_,rfl⟩;rw[<-hbb];clear hbb;cases bb)
    all_goals go_meet
    all_goals exact⟨_,rfl,rfl⟩
   case rest=>
    obtain⟨b,rfl,rfl⟩:=hcut;cases b
    ·go_upto_region 5 with fail
     obtain⟨nb,hnb⟩:∃nb,nb=(x.op==3||(x.op==32||x.op==33)):=⟨_,rfl⟩
     go_cut [3] (fun v wx=>v=.bool nb/\wx=wc)
     case first=>
      go_wp2_with fail
      all_goals go_meet
      all_goals (refine⟨?_,rfl⟩;rw[hnb];simp[*,Bool.or_assoc])
     case rest=>
      obtain⟨rfl,rfl⟩:=hcut;have HNB:=qD hnb;clear hnb;have HN:=qD (W.out.names.step BE.out);go_upto_region 6 with fail
      go_cut [103] (fun v wx=>∃b:Bool,v=.bool b/\aG wx w.heap.size 35 (aP x)/\Bl w wx)
      case first=>as_aux_lemma=>
       cases nb
       all_goals go_wp2_with (first
        | (go_at_call 59;refine(iR x.name _).mono ?_;rintro e w1 ⟨rfl,rfl⟩;obtain⟨bb,hbb⟩:∃b,b=aM x.name:=⟨_,rfl⟩;rw[<-hbb];clear hbb;cases bb)
        | (go_at_call 247;refine(tOq x.names _ HN.out).mono ?_;rintro e w1 ⟨bb,rfl,hb⟩;replace B0:=qD (B0.out.step hb);replace BE:=qD (BE.out.Ml hb);clear hb;cases bb))
       all_goals go_meet
       all_goals exact⟨_,rfl,B0.out,BE.out⟩
      case rest=>
       obtain⟨b,rfl,hB0,hBE⟩:=hcut;clear B0 BE d0 d1 d2 d3 d9 d10;have B0:=qD hB0;have BE:=qD hBE;obtain⟨d0,d1,d2,d3,d9,d10⟩:=aa B0.out;clear hB0 hBE;cases b
       ·go_upto_region 8 with fail
        have RA:=qD (jz B0.out);have HA:=qD (W.out.arg.step BE.out)
        go_cut [112] (fun v wx=>∃b:Bool,v=.bool b/\(b=false->x.op=1->aJ x.arg.2=true)/\aG wx w.heap.size 35 (aP x)/\Bl w wx)
        case first=>as_aux_lemma=>
         by_cases h1:x.op=1
         ·have h1b:(x.op==1)=true:=by simpa using h1
          go_wp2_with (first
           | ((with_reducible show wpList _ _ _ (⟨_,.load 29 _,_,_,_,_⟩::_) _ _);refine aH rfl 29 _ rfl w.heap.size 4 rfl _ _ RA.out Pj rfl kR ?_)
           | (go_at_call 8;refine(di x.arg.2 x.arg.1 _ HA.out).mono ?_;rintro e w1 ⟨rfl,hb⟩;replace B0:=qD (B0.out.step hb);replace BE:=qD (BE.out.Ml hb);clear hb;obtain⟨bb,hbb⟩:∃b,b=aJ x.arg.2:=⟨_,rfl⟩;have HBB:=qD hbb;rw[<-hbb];clear hbb;cases bb))
          all_goals go_meet
          ·exact⟨_,rfl,fun h=>absurd h dE,B0.out,BE.out⟩
          ·exact⟨_,rfl,fun _ _=>HBB.out.symm,B0.out,BE.out⟩
         ·have h1b:(x.op==1)=false:=by simpa using h1
          have H1:=qD h1;clear h1;go_wp2_with fail
          all_goals go_meet
          all_goals exact⟨_,rfl,fun _ h=>absurd h H1.out,B0.out,BE.out⟩
        case rest=>
         obtain⟨b,rfl,hvA,hB0,hBE⟩:=hcut;have HVA:=qD hvA;clear B0 BE d0 d1 d2 d3 d9 d10 RA HA hvA;have B0:=qD hB0;have BE:=qD hBE;obtain⟨d0,d1,d2,d3,d9,d10⟩:=aa B0.out;clear hB0 hBE;cases b
         ·go_upto_region 10 with fail
          have RA:=qD (jz B0.out);have HA:=qD (W.out.arg.step BE.out);obtain⟨sv,hsv⟩:∃sv,sv=eH x.arg.2 aC.zero:=⟨_,rfl⟩
          have HS:Hid (Calls prog 248 #[x.arg.1.val,VC.zero.val] wc (Rt wc (.bool sv))):=by
           rw[hsv];exact tC x.arg.2 aC.zero x.arg.1 VC.zero wc HA.out (xP _)
          clear hsv;obtain⟨op,hop⟩:∃op,op=x.op:=⟨_,rfl⟩;rw[<-hop] at d0 HNB;have HOP:=qD hop;clear hop
          have cl:(op=1/\nb=false)\/(op=2/\nb=false)\/(op=3/\nb=true)\/(op=34/\nb=false)\/((op != 1)=true/\(op != 2)=true/\(op != 3)=true/\(op != 34)=true/\nb=true)\/((op != 1)=true/\(op != 2)=true/\(op != 3)=true/\(op != 34)=true/\nb=false):=by
           have h:=HNB.out;by_cases h1:op=1
           ·subst h1;exact .inl ⟨rfl,h⟩
           by_cases h2:op=2
           ·subst h2;exact .inr (.inl ⟨rfl,h⟩)
           by_cases h3:op=3
           ·subst h3;exact .inr (.inr (.inl ⟨rfl,h⟩))
           by_cases h4:op=34
           ·subst h4;exact .inr (.inr (.inr (.inl ⟨rfl,h⟩)))
           have e1:(op != 1)=true:=by simpa using h1
           have e2:(op != 2)=true:=by simpa using h2
           have e3:(op != 3)=true:=by simpa using h3
           have e4:(op != 34)=true:=by simpa using h4
           clear h HNB;cases nb
           ·exact .inr (.inr (.inr (.inr (.inr ⟨e1,e2,e3,e4,rfl⟩))))
           ·exact .inr (.inr (.inr (.inr (.inl ⟨e1,e2,e3,e4,rfl⟩))))
          clear HNB;rcases cl with⟨rfl,rfl⟩|⟨rfl,rfl⟩|⟨rfl,rfl⟩|⟨rfl,rfl⟩|⟨e1,e2,e3,e4,rfl⟩|⟨e1,e2,e3,e4,rfl⟩
          all_goals go_wp2_with (first
           | (go_at_call 248;refine HS.out.mono ?_;rintro e w1 ⟨rfl,hb⟩;replace B0:=qD (B0.out.step hb);replace BE:=qD (BE.out.Ml hb);clear hb d0 d1 d2 d3 d9 d10;obtain⟨d0,d1,d2,d3,d9,d10⟩:=aa B0.out;rw[<-HOP.out] at d0;cases sv)
           | ((with_reducible show wpList _ _ _ (⟨_,.load 29 _,_,_,_,_⟩::_) _ _);refine aH rfl 29 _ rfl w.heap.size 4 rfl _ _ RA.out Pj rfl kR ?_))
          all_goals go_ret
          all_goals first|exact⟨_,rfl,fun h=>absurd h dE,BE.out⟩|exact⟨_,rfl,fun _=>⟨HNA.out (by trivial),HVA.out (by trivial)⟩,BE.out⟩
         ·go_wp2;go_ret;exact⟨_,rfl,fun h=>absurd h dE,BE.out⟩
       ·go_wp2;go_ret;exact⟨_,rfl,fun h=>absurd h dE,BE.out⟩
    ·go_wp2;go_ret;exact⟨_,rfl,fun h=>absurd h dE,BE.out⟩
  ·go_wp2;go_ret;exact⟨_,rfl,fun h=>absurd h dE,BE.out⟩
theorem xv(e:dS)(ho:e.op≠1/\e.op≠2/\e.op≠3/\e.op≠32/\e.op≠33)(hn:Bo e)(ps:List PV)(A:Option Addr)(m c:Nat)(w:World)(hF:∀b,F b->b<w.heap.size)(hX:WX w e)(hs:ff F w A m c ps)(hm:m=e.kn):
 Calls prog 211 #[dZ e,.slice A m c] w (eU F w):=by
 obtain⟨n1,n2,n3,n4⟩:=hn;have K:∀j:Nat,lm e.op=j->m=j:=fun j hj=>by have:=n3 oM;omega
 rcases(show(e.op=4\/e.op=6)\/(e.op=5\/e.op=7\/e.op=8)\/(e.op=16\/e.op=17)\/e.op=18\/e.op=19\/e.op=20\/e.op=21\/(e.op=22\/e.op=23)\/e.op=24\/e.op=25\/(e.op=26\/e.op=30\/e.op=31)\/e.op=27\/e.op=28\/e.op=29\/e.op=37\/e.op=36\/(9<=e.op/\e.op<=15)\/e.op=35\/e.op=34 by omega) with h|h|h|h|h|h|h|h|h|h|h|h|h|h|h|h|h|h|h
 ·exact Lh e h ps A m c w hF hX hs
 ·exact KV e h ps A m c w hF hX hs (by rw[K 2 (by rcases h with h|h|h<;>rw[h]<;>rfl)];omega)
 ·exact Il e h ps A m c w hF hX hs
 ·exact Li e h ps A m c w hF hX hs (by rw[K 1 (by rw[h];rfl)];omega)
 ·exact MQ e h ps A m c w hF hX hs (by rw[K 3 (by rw[h];rfl)];omega)
 ·exact Gb e h ps A m c w hF hX hs (by rw[K 2 (by rw[h];rfl)];omega)
 ·exact Gc e h ps A m c w hF hX hs
 ·exact Dq e h ps A m c w hF hX hs (by rw[K 1 (by rcases h with h|h<;>rw[h]<;>rfl)];omega)
 ·exact Gd e h ps A m c w hF hX hs (by rw[K 1 (by rw[h];rfl)];omega)
 ·exact Im e h ps A m c w hF hX hs (by rw[K 3 (by rw[h];rfl)];omega)
 ·exact KX e h ps A m c w hF hX hs (by rw[K 1 (by rcases h with h|h|h<;>rw[h]<;>rfl)];omega)
 ·exact MR e h ps A m c w hF hX hs (by rw[K 2 (by rw[h];rfl)];omega)
 ·exact MS e h ps A m c w hF hX hs (by rw[K 2 (by rw[h];rfl)];omega)
 ·exact KY e h ps A m c w hF hX hs
 ·exact Io e h ps A m c w hF hX hs
 ·exact KZ e h ps A m c w hF hX hs (by rw[K 1 (by rw[h];rfl)];omega)
 ·exact Lj e h ps A m c w hF hX hs (by rw[K 2 (by unfold lm;rw[OQ oM,OQ oM,OQ oM,OQ oM];rfl)];omega)
 ·exact Ge e h ps A m c w hF hX hs
 ·exact Ip e h ps A m c w hF hX hs (by rw[hm];exact n4 h)
end
end Go.Proofs.YtgfoliedmhgpnaaGreatDoor
