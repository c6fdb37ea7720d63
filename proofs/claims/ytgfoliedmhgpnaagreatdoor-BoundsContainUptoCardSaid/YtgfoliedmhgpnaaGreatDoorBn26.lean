/- A part of the proof. -/
import Derived.Test.YtgfoliedmhgpnaaGreatDoorBn25
set_option maxRecDepth 100000
set_option maxHeartbeats 16000000
set_option linter.unusedSimpArgs false
open Go.Proofs.Tryz
open ByteArray (empty)
namespace Go.Proofs.YtgfoliedmhgpnaaGreatDoor
open Go.RowKit
section
variable {b c i n off size:Nat} {x:Int} {w w3 w4:World} {A:Option Addr} {F:Nat -> Prop} {P:Program} {v v':Value}
theorem jM{w3 w4:World}{row:Option Nat}(hg:w3.grownBy w4 row){p:Addr}{v:Value}(h:w3.cell? p=some v)(hne:row≠some p.block):w4.cell? p=some v:=
 (Kh (hg.block p.block (KY w3 p h) (fun e=>hne e.symm))).trans h
theorem fh{w3 w4:World}{row:Option Nat}(hg:w3.grownBy w4 row){p:Addr}(hlt:p.block<w3.heap.size)(hne:row≠some p.block):w4.frozen? p=w3.frozen? p:=
 Mp (hg.block p.block hlt (fun e=>hne e.symm))
theorem ir{P:Nat->Prop}{v v':Value}{w3 w4:World}{c:VC}{x:aC}(hr:RV (fun b=>P b/\v.ownBlock≠some b) w3 c x)(hg:w3.grownBy w4 v.ownBlock)(hat:v'.ownBlock=v.ownBlock\/v'.ownBlock=some w3.heap.size):
 RV (fun b=>P b/\v'.ownBlock≠some b) w4 c x:=hr.Il fun b hb hl=>by
 refine⟨⟨hb.1,fun e=>?_⟩,hg.block b hl (fun e=>hb.2 e.symm)⟩;rcases hat with h|h
 ·exact hb.2 (h▸e)
 ·rw[h] at e;injection e with e
  omega
theorem SL.Jj{F:Nat->Prop}{w:World}{A:Option Addr}{n c:Nat}{ps:List PV}(h:SL F w A n c ps)(hn:0<n):∃b off,A=some ⟨b,off,none⟩/\b<w.heap.size/\∀i,i<n->∃p,ps[i]?=some p/\aS w b (off+i*5) p.1/\RV F w p.1 p.2:=by
 obtain⟨b,off,e,hb,hel⟩:=h.sr.el hn;refine⟨b,off,e,hb,fun i hi=>?_⟩;obtain⟨p,hp⟩:∃p,ps[i]?=some p:=⟨_,Jv (by have:=h.sr.ln;omega)⟩;exact⟨p,hp,lP fun j v hj=>hel i p hp j v hj,h.rv p (Jx hp)⟩
theorem SD.none{F:Nat->Prop}{w:World}:SD F w none 0 0 []:=⟨⟨rfl,qL,fun h=>absurd h (by decide)⟩,by decide,fun h=>absurd h (by decide),by simp,by simp⟩
theorem SL.none{F:Nat->Prop}{w:World}:SL F w none 0 0 []:=⟨⟨rfl,qL,fun h=>absurd h (by decide)⟩,by decide,fun h=>absurd h (by decide),by simp⟩
end
structure eC(F:Nat->Prop)(w:World)(g go base:Nat)(A:Option Addr)(m cap:Nat)(ps:List PV)(wr:World):Prop where
 r:eZ w g wr
 o:aG wr go 29 (VC.arr ⟨6,0,empty,A,m,cap,none,0,0⟩)
 g1:g<base
 g2:go<base
 ne:g≠go
 lo:w.heap.size<=go
 bs:base<=wr.heap.size
 own:wr.ownsRow base 29 5 (.slice A m cap) m (aO bC ps)
 ln:ps.length=m
 el:∀p∈ps,RV (fun b=>(F b\/base<=b)/\(Value.slice A m cap).ownBlock≠some b) wr p.1 p.2
 hF:∀b,F b->b<base/\b≠g/\b≠go
section
variable {b c g m q cap base size:Nat} {op x:Int} {w w' wr w3 w4 wq:World} {A A':Option Addr} {F:Nat -> Prop} {cs:Array Value}
section
variable {F F':Nat->Prop} {w wr w3 w4 w':World} {g go base m m2 cap cap':Nat} {A A':Option Addr} {ps qs:List PV}
theorem eC.step(h:eC F w g go base A m cap ps wr)(hb:Below wr.heap.size wr w'):eC F w g go base A m cap ps w':=
 ⟨h.r.step hb,h.o.step hb,h.g1,h.g2,h.ne,h.lo,KM h.bs hb.size,bJ h.own hb,h.ln,fun p hp=>(h.el p hp).step hb,h.hF⟩
theorem eC.old(h:eC F w g go base A m cap ps wr){c:VC}{x:aC}(hx:RV F wr c x):RV (fun b=>(F b\/base<=b)/\(Value.slice A m cap).ownBlock≠some b) wr c x:=
 hx.mono fun b hb=>⟨.inl hb,fun e=>by have:=bF h.own b e;have:=(h.hF b hb).1;omega⟩
theorem eC.next(h:eC F w g go base A m cap ps w3)(hq:∀q∈qs,RV (fun b=>(F b\/base<=b)/\(Value.slice A m cap).ownBlock≠some b) w3 q.1 q.2)(hl:qs.length=m2)(hg:w3.grownBy w4 (Value.slice A m cap).ownBlock)(hat:(Value.slice A' (m+m2) cap').ownBlock=(Value.slice A m cap).ownBlock\/(Value.slice A' (m+m2) cap').ownBlock=some w3.heap.size)(hown:w4.ownsRow base 29 5 (.slice A' (m+m2) cap') (m+m2) (aO bC ps++aO bC qs)):
 eC F w g go base A' (m+m2) cap' (ps++qs) (w4.setCell ⟨go,3,none⟩ (.slice A' (m+m2) cap')):=by
 have hne:∀b,b<base->some b≠(Value.slice A m cap).ownBlock:=fun b hb e=>by have:=bF h.own b e.symm;omega
 have bl:∀{b:Nat} {cs:Array Value},aG w3 b 29 cs->b<base->aG w4 b 29 cs:=fun hb hlt=>(hg.block _ hb.lt (hne _ hlt)).trans hb;have g2:=h.g2;have lo:=h.lo;have h4:Below w.heap.size w w4:=h.r.bel.grown hg h.r.bel.size (fun k hk=>by have:=bF h.own k hk;omega);refine⟨⟨(bl h.r.b h.g1).Ip h.ne _,h.r.lo,h4.setCell lo _⟩,(bl h.o h.g2).Ij 3 _,h.g1,h.g2,h.ne,h.lo,?_,?_,?_,fun p hp=>?_,h.hF⟩
 ·have:=hg.size;have:=h.bs;simp[World.setCell];omega
 ·rw[di];exact gw hown fun k hk=>Ku _ _ _ _ (by have:=bF hown k hk;show k≠go;omega)
 ·rw[KV,h.ln,hl]
 ·have hr:RV (fun b=>(F b\/base<=b)/\(Value.slice A' (m+m2) cap').ownBlock≠some b) w4 p.1 p.2:=by
   rcases KI.1 hp with hp|hp
   ·exact ir (h.el p hp) hg hat
   ·exact ir (hq p hp) hg hat
  exact hr.Il fun b hb _=>⟨hb,Ku _ _ _ _ (by
   show b≠go
   rcases hb.1 with k|k
   ·exact(h.hF b k).2.2
   ·omega)⟩
theorem eC.done(h:eC F w g go base A m cap ps wr)(hz:m*80<=aH)(hG:∀b,F b->F' b\/w.heap.size<=b):
 dh F' w (.returned (VC.val ⟨6,0,empty,A,m,cap,none,0,0⟩)) (bH wr g 0 ⟨6,0,empty,A,m,cap,none,0,0⟩):=by
 obtain⟨A',c',e,hs⟩:=SL.Ik (F:=fun b=>F b\/base<=b) h.own h.ln hz (fun _ hb=>.inr hb) (fun p hp=>(h.el p hp).mono fun b hb=>hb.1);cases e;have hr:=RV.Iw (k:=6) (m:=0) (t:=empty) (by decide) hs SD.none;have g1:=h.g1;have lo:=h.lo;have g2:=h.g2;refine⟨_,rfl,⟨_,hr.Il fun b hb _=>⟨?_,bO ?_⟩,fun h0=>absurd h0 (by simp[aC.k])⟩,af h.r.bel h.r.lo 0 _⟩
 ·rcases hb with k|k
  ·exact hG b k
  ·exact .inr (by omega)
 ·rcases hb with k|k
  ·exact(h.hF b k).2.1
  ·omega
theorem eC.start(h:eZ w g wr)(hF:∀b,F b->b<wr.heap.size/\b≠g):eC F w g wr.heap.size (wr.heap.size+1) none 0 0 [] (wr.alloc (.cells #[.int .i64 6,.int .i64 0,.string empty,.slice none 0 0,.slice none 0 0] 29)):=
 ⟨h.step ((Ju _ _).alloc (qL) _),aG.Ii rfl,by have:=h.b.lt;omega,by omega,by have:=h.b.lt;omega,h.bel.size,by simp,bX _ _ _ _,rfl,by simp,fun b hb=>⟨by have:=(hF b hb).1;omega,(hF b hb).2,by have:=(hF b hb).1;omega⟩⟩
theorem eC.keep(h:eC F w g go base A m cap ps w3)(hg:w3.grownBy w4 (Value.slice A m cap).ownBlock){b:Nat}{T:TypeId}{cs:Array Value}(hb:aG w3 b T cs)(hlt:b<base)(hne:b≠go)(u:Value):aG (w4.setCell ⟨go,3,none⟩ u) b T cs:=
 aG.Ip (p:=⟨go,3,none⟩) ((hg.block _ hb.lt (fun e=>by have:=bF h.own b e.symm;omega)).trans hb) hne _
theorem eC.put(h:eC F w g go base A m cap ps w3){wq:World}(hwq:Below w3.heap.size w3 wq){p:PV}(hp:RV (fun b=>(F b\/base<=b)/\(Value.slice A m cap).ownBlock≠some b) w3 p.1 p.2)(hg:wq.grownBy w4 (Value.slice A m cap).ownBlock)(hat:(Value.slice A' (m+1) cap').ownBlock=(Value.slice A m cap).ownBlock\/(Value.slice A' (m+1) cap').ownBlock=some wq.heap.size)(hown:w4.ownsRow base 29 5 (.slice A' (m+1) cap') (m+1) (aO bC ps++bC p)):
 eC F w g go base A' (m+1) cap' (ps++[p]) (w4.setCell ⟨go,3,none⟩ (.slice A' (m+1) cap')):=
 (h.step hwq).next (qs:=[p]) (fun q hq=>by rw[Kf.1 hq];exact hp.step hwq) rfl hg hat (by simpa[aO] using hown)
theorem eC.Jk(h:eC F w g go base A m cap ps w3){wq:World}(hwq:Below w3.heap.size w3 wq)(hp:∀q∈qs,RV F w3 q.1 q.2)(hl:qs.length=m2)(hg:wq.grownBy w4 (Value.slice A m cap).ownBlock)(hat:(Value.slice A' (m+m2) cap').ownBlock=(Value.slice A m cap).ownBlock\/(Value.slice A' (m+m2) cap').ownBlock=some wq.heap.size)(hown:w4.ownsRow base 29 5 (.slice A' (m+m2) cap') (m+m2) (aO bC ps++aO bC qs)):
 eC F w g go base A' (m+m2) cap' (ps++qs) (w4.setCell ⟨go,3,none⟩ (.slice A' (m+m2) cap')):=
 (h.step hwq).next (fun q hq=>(h.old (hp q hq)).step hwq) hl hg hat hown
end
theorem xC{F:Nat->Prop}(op:Int)(x:aC)(c:VC)(w:World)(hF:∀b,F b->b<w.heap.size)(h:RV F w c x)(hok:gB x):Calls prog 267 #[.int .i64 op,c.val] w (dh F w):=by
 obtain⟨i0,hi0,hz0,hz1,hz2⟩:=LM dC;have HFH:=qD hF;have hln:c.ln<=1024:=by have:=h.open.ln;have:=hok.len.2.1;omega
 obtain⟨ps,hps,hsl⟩:=RV.sl h;have HSL:=qD hsl;have J0:Hid (eZ w (w.heap.size+1) ((w.alloc (.cells c.arr 29)).alloc (.cells VC.zero.arr 29))):=⟨aG.Ii (by simp),by omega,((Ju _ _).alloc (qL) _).alloc (by simp) _⟩;have C0:Hid (aG ((w.alloc (.cells c.arr 29)).alloc (.cells VC.zero.arr 29)) w.heap.size 29 c.arr):=(aG.Ii rfl).alloc _;obtain⟨z1,hz1'⟩:∃z,(op==26)=z:=⟨_,rfl⟩;obtain⟨z2,hz2'⟩:∃z,(op==31)=z:=⟨_,rfl⟩;clear h hok hF hps hsl;go_enter func267,ntmps267;go_upto_region 1 with fail
 change Code.wp _ _ _ _ ((w.alloc (.cells c.arr 29)).alloc (.cells VC.zero.arr 29));generalize (w.alloc (.cells c.arr 29)).alloc (.cells VC.zero.arr 29)=wa at*;obtain⟨a0,a1,a2,a3,a4⟩:=aS.Ig C0.out;simp only[Jw] at a1 a2 a3 a4;have J:=J0;cases hk6:(c.k != 6);rotate_left
 ·go_wp2_with (go_at_call 34;refine(bm _).mono ?_;rintro e w2 ⟨k,n,t,rfl,ht,hk,hb⟩;replace J:=qD (J.out.step hb);have HT:=qD ht;have HK:=qD hk;clear hb ht hk;obtain⟨b0,b1,b2,b3,b4⟩:=aS.Ig J.out.b;simp only[Jw] at b0 b1 b2 b3 b4;have z:=J.out.b.frozen);exact Jz (aF rfl _ _ _ rfl _ (bG k n t) (aS.Ig (J.out.b.putV (bG k n t)))) rfl (J.out.leaf k n HT.out HK.out).a
 cases z1;rotate_left
 ·go_wp2_with (go_at_call 30;refine(fD _ _).mono ?_;rintro e w2 ⟨k,n,t,rfl,ht,hk,hb⟩;replace J:=qD (J.out.step hb);have HT:=qD ht;have HK:=qD hk;clear hb ht hk;obtain⟨b0,b1,b2,b3,b4⟩:=aS.Ig J.out.b;simp only[Jw] at b0 b1 b2 b3 b4;have z:=J.out.b.frozen);exact Jz (aF rfl _ _ _ rfl _ (bG k n t) (aS.Ig (J.out.b.putV (bG k n t)))) rfl (J.out.leaf k n HT.out HK.out).a
 go_upto_region 8 with fail
 have I0:Hid (eC F w (w.heap.size+1) wa.heap.size (wa.heap.size+1) none 0 0 [] (wa.alloc (.cells #[.int .i64 6,.int .i64 0,.string empty,.slice none 0 0,.slice none 0 0] 29))):=qD (eC.start J.out fun b hb=>by have:=HFH.out b hb;have:=J.out.bel.size;exact⟨by omega,by omega⟩);have D0:=qD (C0.out.alloc (.cells #[.int .i64 6,.int .i64 0,.string empty,.slice none 0 0,.slice none 0 0] 29));change Code.wp _ _ _ _ (wa.alloc (.cells #[.int .i64 6,.int .i64 0,.string empty,.slice none 0 0,.slice none 0 0] 29));generalize wa.alloc (.cells #[.int .i64 6,.int .i64 0,.string empty,.slice none 0 0,.slice none 0 0] 29)=wb at*;have hgw:w.heap.size+1<wa.heap.size:=J.out.b.lt;generalize wa.heap.size=go at*;clear a0 a1 a2 a3 a4 J J0 C0
 go_loopw [6,7] (fun v6 v7 wr=>∃(i:Nat) (n:Int) (A:Option Addr) (cap:Nat) (qs:List PV),i<=c.ln/\v7=.int .i64 i/\v6=.int .i64 n/\aG wr w.heap.size 29 c.arr/\eC F w (w.heap.size+1) go (go+1) A i cap qs wr) (fun _ v7 _=>c.ln-(intOf v7).toNat)
 ·exact⟨0,0,none,0,[],KD _,rfl,rfl,D0.out,I0.out⟩
 case round=>
  obtain⟨i,n,A,cap,qs,hi,rfl,rfl,hD,hI⟩:=hrel;have D:=qD hD;have I:=qD hI;clear D0 I0 hD hI;obtain⟨a0,a1,a2,a3,a4⟩:=aS.Ig D.out;simp only[Jw] at a1 a2 a3 a4;by_cases hlt:i<c.ln
  ·obtain⟨j,hj⟩:∃j,c.ln=i+1+j:=⟨c.ln-i-1,by omega⟩;obtain⟨b,off,hLA,hlb,hel⟩:=HSL.out.Jj (by omega);obtain⟨p,-,hva,hrv⟩:=hel j (by omega);obtain⟨q,-,hvq,-⟩:=hel i (by omega);have HRV:=qD (hrv.step I.out.r.bel);have HVQ:=qD hvq;obtain⟨y0,y1,y2,y3,y4⟩:=hva.step I.out.r.bel;rw[hLA] at a3;have q3:=I.out.o.cell 3;simp at q3;have W0:IntKind.i64.wrap ((c.ln:Int)-1)=(c.ln:Int)-1:=Nc _ (by omega);have W1:IntKind.i64.wrap ((c.ln:Int)-1-(i:Int))=(j:Int):=(Nc _ (by omega)).trans (by omega);have W2:(0:Int)<=(j:Int):=by omega
   have W3:(j:Int)<(c.ln:Int):=by omega
   have i1:(0:Int)<=(i:Int):=by omega
   have i2:(i:Int)<(c.ln:Int):=by omega
   have hs:(Value.slice A i cap).ownBlock≠some go:=gL I.out.own (by omega);have HJ:=qD hj;have HLA:=qD hLA;have hbs:=I.out.bs;have hgo:go<wr.heap.size:=by omega
   obtain⟨z3,hz3⟩:∃z,(q.1.k==3)=z:=⟨_,rfl⟩;clear hel hva hrv hvq hj;go_upto_region 10 with fail
   go_region_law ((refine bW _ rfl (.tmp 27) (.tmp 38) 26 rfl (go+1) 29 i0 VC.zero.val 5 80 Kv hi0 hz0 hz1 hz2 rfl (by decide) (.slice A i cap) i (aO bC qs) (by simp[Act.eval]) ((I.out.own.alloc _).drew) (wr.heap.size+1) (some ⟨wr.heap.size,0,none⟩) 1 1 (bC p) (by simp[Act.eval]) ⟨rfl,fun _=>⟨_,rfl,by simp,ao _ _ _⟩⟩ (cG _) (by simp only[maxLen];omega) (by omega) (by simp;omega) ?_;intro v' w4 hown4 hgr hat;obtain⟨A4,cap4,hv4,hle4⟩:=cK hown4;rw[hv4];have f2:w4.cell? ⟨go,3,none⟩=some (.slice A i cap):=jM hgr (((I.out.o.alloc _).drew.cell 3).trans rfl) hs;have z2:w4.frozen? ⟨go,3,none⟩=false:=(fh hgr (I.out.o.alloc _).drew.lt hs).trans ((I.out.o.alloc _).drew.frozen 3)))
   all_goals
    have HI:=qD (I.out.put (((Ju wr.heap.size wr).alloc (qL) _).drew) (I.out.old HRV.out) hgr (by rw[<-hv4];exact hat) (by rw[<-hv4];exact hown4));have HD:=qD ((I.out.step (((Ju wr.heap.size wr).alloc (qL) _).drew)).keep hgr ((D.out.alloc _).drew) (by have:=I.out.g1;omega) (by omega) (.slice A4 (i+1) cap4));clear f2 z2 hgr hat hown4 hv4 hs q3 a0 a1 a2 a3 a4 y0 y1 y2 y3 y4 W0 W1 W2 W3 D I hbs hgo;generalize w4.setCell ⟨go,3,none⟩ (.slice A4 (i+1) cap4)=w5 at*;obtain⟨a0,a1,a2,a3,a4⟩:=aS.Ig HD.out;simp only[Jw] at a1 a2 a3 a4;rw[HLA.out] at a3;obtain⟨u0,u1,-⟩:=HVQ.out.step HI.out.r.bel;cases z3
    all_goals
     go_wp2_with fail;go_roundw
     ·exact⟨i+1,_,A4,cap4,_,by omega,by go_num,rfl,HD.out,HI.out⟩
     ·simp[intOf];omega
  ·obtain rfl:i=c.ln:=by omega
   have J:=qD I.out.r;cases z2
   ·obtain⟨o0,o1,o2,o3,o4⟩:=aS.Ig I.out.o;obtain⟨b0,b1,b2,b3,b4⟩:=aS.Ig J.out.b;simp only[Jw] at b0 b1 b2 b3 b4 o0 o1 o2 o3 o4;have z:=J.out.b.frozen;go_wp2_with fail;exact Jz (aF rfl _ _ _ rfl _ ⟨6,0,empty,A,c.ln,cap,none,0,0⟩ (aS.Ig (J.out.b.putV ⟨6,0,empty,A,c.ln,cap,none,0,0⟩))) rfl (I.out.done (by unfold aH;omega) (fun b hb=>.inl hb))
   ·go_wp2_with (go_at_call 30;refine(fD _ _).mono ?_;rintro e w2 ⟨k,n,t,rfl,ht,hk,hb⟩;replace J:=qD (J.out.step hb);have HT:=qD ht;have HK:=qD hk;clear hb ht hk;obtain⟨b0,b1,b2,b3,b4⟩:=aS.Ig J.out.b;simp only[Jw] at b0 b1 b2 b3 b4;have z:=J.out.b.frozen);exact Jz (aF rfl _ _ _ rfl _ (bG k n t) (aS.Ig (J.out.b.putV (bG k n t)))) rfl (J.out.leaf k n HT.out HK.out).a
theorem xD{F:Nat->Prop}(ps:List PV)(A0:Option Addr)(m c:Nat)(w:World)(hF:∀b,F b->b<w.heap.size)(hs:fF F w A0 m c ps):Calls prog 270 #[.slice A0 m c] w (dh F w):=by
 obtain⟨i0,hi0,hz0,hz1,hz2⟩:=LM dC;have HFH:=qD hF;have HS:=qD hs;have HM:=qD hs.few;have hm:m<=256:=hs.few;have J0:Hid (eZ w w.heap.size (w.alloc (.cells VC.zero.arr 29))):=eZ.start;clear hs hF;go_enter func270,ntmps270;go_upto_region 1 with fail
 change Code.wp _ _ _ _ (w.alloc (.cells VC.zero.arr 29));generalize w.alloc (.cells VC.zero.arr 29)=wa at*;have HAL:=qD (fC ps 6 A0 m c wa (HS.out.sr.step J0.out.bel) HM.out);go_wp2_with fail;refine HAL.out.mono ?_;rintro e w1 ⟨b,rfl,hb,hbe⟩;have J:=qD (J0.out.step hbe);clear hb hbe;cases b
 ·go_wp2_with (go_at_call 34;refine(bm _).mono ?_;rintro e w2 ⟨k,n,t,rfl,ht,hk,hb⟩;replace J:=qD (J.out.step hb);have HT:=qD ht;have HK:=qD hk;clear hb ht hk;obtain⟨b0,b1,b2,b3,b4⟩:=aS.Ig J.out.b;simp only[Jw] at b0 b1 b2 b3 b4;have z:=J.out.b.frozen);exact Jz (aF rfl _ _ _ rfl _ (bG k n t) (aS.Ig (J.out.b.putV (bG k n t)))) rfl (J.out.leaf k n HT.out HK.out).a
 go_upto_region 5 with fail
 have I0:Hid (eC F w w.heap.size w1.heap.size (w1.heap.size+1) none 0 0 [] (w1.alloc (.cells #[.int .i64 6,.int .i64 0,.string empty,.slice none 0 0,.slice none 0 0] 29))):=qD (eC.start J.out fun b hb=>by have:=HFH.out b hb;have:=J.out.bel.size;exact⟨by omega,by omega⟩);change Code.wp _ _ _ _ (w1.alloc (.cells #[.int .i64 6,.int .i64 0,.string empty,.slice none 0 0,.slice none 0 0] 29));generalize w1.alloc (.cells #[.int .i64 6,.int .i64 0,.string empty,.slice none 0 0,.slice none 0 0] 29)=wb at*;generalize w1.heap.size=go at*;clear HAL J J0
 go_loopw [4] (fun v wr=>∃(i M:Nat) (A:Option Addr) (cap:Nat) (qs:List PV),i<=m/\v=.int .i64 i/\M<=i*1024/\eC F w w.heap.size go (go+1) A M cap qs wr) (fun v _=>m-(intOf v).toNat)
 ·exact⟨0,0,none,0,[],KD _,rfl,by omega,I0.out⟩
 case round=>
  obtain⟨i,M,A,cap,qs,hi,rfl,hMi,hI⟩:=hrel;have I:=qD hI;clear I0 hI;by_cases hlt:i<m
  ·obtain⟨b,off,rfl,hlb,hel⟩:=HS.out.at (by omega);obtain⟨p,-,hva,hrv,hoo⟩:=hel i hlt;obtain⟨rs,-,hsl⟩:=RV.sl hrv;have hpl:p.1.ln<=1024:=by have:=hrv.open.ln;have:=hoo.len.2.1;omega
   have HRS:Hid (∀r∈rs,RV F wr r.1 r.2):=qD fun r hr=>(hsl.rv r hr).step I.out.r.bel;have HRL:=qD hsl.sr.ln;have HRD:=qD ((hsl.sr.step I.out.r.bel.drew).reads bQ (by decide));obtain⟨y0,y1,y2,y3,y4⟩:=hva.step I.out.r.bel;have q3:=I.out.o.cell 3;simp at q3;have i1:(0:Int)<=(i:Int):=by omega
   have i2:(i:Int)<(m:Int):=by omega
   have hs:(Value.slice A M cap).ownBlock≠some go:=gL I.out.own (by omega);have hbs:=I.out.bs;clear hel hva hrv hsl hoo;go_upto_region 7 with fail
   go_region_law ((refine bW _ rfl (.tmp 17) (.tmp 22) 26 rfl (go+1) 29 i0 VC.zero.val 5 80 Kv hi0 hz0 hz1 hz2 rfl (by decide) (.slice A M cap) M (aO bC qs) (by simp[Act.eval]) (I.out.own.drew) _ p.1.LA p.1.ln p.1.lc (aO bC rs) (by simp[Act.eval]) HRD.out (fy cG rs) (by simp only[maxLen];omega) (by omega) (by simp;omega) ?_;intro v' w4 hown4 hgr hat;obtain⟨A4,cap4,hv4,hle4⟩:=cK hown4;rw[hv4];have f2:w4.cell? ⟨go,3,none⟩=some (.slice A M cap):=jM hgr ((I.out.o.drew.cell 3).trans rfl) hs;have z2:w4.frozen? ⟨go,3,none⟩=false:=(fh hgr I.out.o.drew.lt hs).trans (I.out.o.drew.frozen 3)))
   all_goals
    have HI:=qD (I.out.Jk ((Ju wr.heap.size wr).drew) HRS.out HRL.out.symm hgr (by rw[<-hv4];exact hat) (by rw[<-hv4];exact hown4));clear f2 z2 hgr hat hown4 hv4 hs q3 y0 y1 y2 y3 y4 I hbs HRS HRL HRD;generalize w4.setCell ⟨go,3,none⟩ (.slice A4 (M+p.1.ln) cap4)=w5 at*;go_wp2_with fail;go_roundw
    ·exact⟨i+1,_,A4,cap4,_,by omega,by go_num,by omega,HI.out⟩
    ·simp[intOf];omega
  ·obtain rfl:i=m:=by omega
   have J:=qD I.out.r;obtain⟨o0,o1,o2,o3,o4⟩:=aS.Ig I.out.o;obtain⟨b0,b1,b2,b3,b4⟩:=aS.Ig J.out.b;simp only[Jw] at b0 b1 b2 b3 b4 o0 o1 o2 o3 o4;have z:=J.out.b.frozen;go_wp2_with fail;exact Jz (aF rfl _ _ _ rfl _ ⟨6,0,empty,A,M,cap,none,0,0⟩ (aS.Ig (J.out.b.putV ⟨6,0,empty,A,M,cap,none,0,0⟩))) rfl (I.out.done (by unfold aH;omega) (fun b hb=>.inl hb))
end
structure AB(F:Nat->Prop)(w:World)(n:Nat)(wr:World):Prop where
 r:eZ w w.heap.size wr
 ex:∃u X,aG wr (w.heap.size+1) 29 (VC.arr u)/\RV (fun b=>F b\/w.heap.size+2<=b) wr u X/\X.k=5/\X.d.length<=n
section
variable {b c k g n m size:Nat} {x d:Int} {s:ByteArray} {w w' wr w3:World} {F:Nat -> Prop} {e:TypeId} {v:Value}
theorem AB.put{F:Nat->Prop}{w w3:World}{n:Nat}{u c3:VC}{Y:aC}(hF:∀b,F b->b<w.heap.size)(h:eZ w w.heap.size w3)(ho:aG w3 (w.heap.size+1) 29 (VC.arr u))(hy:RV (fun b=>F b\/w.heap.size+2<=b) w3 c3 Y)(hk:Y.k=5)(hl:Y.d.length<=n):
 AB F w n (bH w3 (w.heap.size+1) 0 c3):=
 ⟨⟨h.b.Ix (by omega) _ _,h.lo,af h.bel (by omega) _ _⟩,c3,Y,ho.putV c3,hy.Il fun b hb _=>⟨hb,bO (by
  rcases hb with hb|hb
  ·have:=hF b hb;omega
  ·omega)⟩,hk,hl⟩
theorem ug{x v:aC}{s:ByteArray}(h:x.k=5):(sq x s v).k=5/\(sq x s v).d.length<=x.d.length+1:=by
 unfold sq;rw[Kb h];split
 ·exact⟨h,by simp[Gd,aC.d]⟩
 ·exact⟨h,by simp[putV,aC.d,uf]⟩
theorem uh{F:Nat->Prop}(ps:List PV)(A0:Option Addr)(m c:Nat)(w:World)(hF:∀b,F b->b<w.heap.size)(hs:fF F w A0 m c ps):Calls prog 271 #[.slice A0 m c] w (dh F w):=by
 have HFH:=qD hF;have HS:=qD hs;have hm:m<=256:=hs.few
 have I0:Hid (AB F w 0 ((w.alloc (.cells VC.zero.arr 29)).alloc (.cells #[.int .i64 5,.int .i64 0,.string empty,.slice none 0 0,.slice none 0 0] 29))):=
  qD ⟨eZ.start.step ((Ju _ _).alloc (qL) _),⟨5,0,empty,none,0,0,none,0,0⟩,.mk 5 0 empty [] [],aG.Ii (by simp),yg 5 0 (by decide),rfl,qL⟩
 clear hs hF;go_enter func271,ntmps271;go_upto_region 3 with fail
 change Code.wp _ _ _ _ ((w.alloc (.cells VC.zero.arr 29)).alloc (.cells #[.int .i64 5,.int .i64 0,.string empty,.slice none 0 0,.slice none 0 0] 29));generalize (w.alloc (.cells VC.zero.arr 29)).alloc (.cells #[.int .i64 5,.int .i64 0,.string empty,.slice none 0 0,.slice none 0 0] 29)=wa at*
 go_loopw [4] (fun v wr=>∃i:Nat,i<=m/\v=.int .i64 i/\AB F w (i*1024) wr) (fun v _=>m-(intOf v).toNat)
 ·exact⟨0,KD _,rfl,by simpa using I0.out⟩
 case round=>
  obtain⟨i,hi,rfl,hI⟩:=hrel;have I:=qD hI;clear I0 hI;by_cases hlt:i<m
  ·obtain⟨b,off,rfl,hlb,hel⟩:=HS.out.at (by omega);obtain⟨p,-,hva,hrv,hoo⟩:=hel i hlt;obtain⟨fs,-,hsd⟩:=RV.sd hrv;have hdn:p.1.dn<=1024:=by have:=hrv.open.dn;have:=hoo.len.2.2;omega
   have HSD:=qD hsd;have HVA:=qD hva;obtain⟨y0,y1,y2,y3,y4⟩:=hva.step I.out.r.bel;have i1:(0:Int)<=(i:Int):=by omega
   have i2:(i:Int)<(m:Int):=by omega
   have J:=qD I.out.r;clear hel hva hrv hsd hoo;rcases(show(p.1.k==0)=true\/((p.1.k==0)=false/\(p.1.k==2)=true)\/((p.1.k==0)=false/\(p.1.k==2)=false/\(p.1.k != 5)=true)\/((p.1.k==0)=false/\(p.1.k==2)=false/\(p.1.k != 5)=false) by cases(p.1.k==0)<;>cases(p.1.k==2)<;>cases(p.1.k != 5)<;>simp) with h|⟨h,h2⟩|⟨h,h2,h5⟩|⟨h,h2,h5⟩
   ·go_wp2_with fail;go_roundw
    ·exact⟨i+1,by omega,by go_num,I.out.r,by obtain⟨u,X,k1,k2,k3,k4⟩:=I.out.ex;exact⟨u,X,k1,k2,k3,by omega⟩⟩
    ·simp[intOf];omega
   ·go_wp2_with fail;go_roundw
    ·exact⟨i+1,by omega,by go_num,I.out.r,by obtain⟨u,X,k1,k2,k3,k4⟩:=I.out.ex;exact⟨u,X,k1,k2,k3,by omega⟩⟩
    ·simp[intOf];omega
   ·go_wp2_with (go_at_call 34;refine(bm _).mono ?_;rintro e w2 ⟨k,n,t,rfl,ht,hk,hb⟩;replace J:=qD (J.out.step hb);have HT:=qD ht;have HK:=qD hk;clear hb ht hk;obtain⟨b0,b1,b2,b3,b4⟩:=aS.Ig J.out.b;simp only[Jw] at b0 b1 b2 b3 b4;have z:=J.out.b.frozen);exact Jz (aF rfl _ _ _ rfl _ (bG k n t) (aS.Ig (J.out.b.putV (bG k n t)))) rfl (J.out.leaf k n HT.out HK.out).a
   ·go_upto_region 9 with fail
    clear y0 y1 y2 y3 y4 h h2 h5
    go_loopw [5] (fun v wz=>∃k:Nat,k<=p.1.dn/\v=.int .i64 k/\AB F w (i*1024+k) wz) (fun v _=>p.1.dn-(intOf v).toNat)
    ·exact⟨0,KD _,rfl,I.out⟩
    case round=>
     obtain⟨k,hk,rfl,hK⟩:=hrel;have K:=qD hK;clear hK I J;obtain⟨y0,y1,y2,y3,y4⟩:=HVA.out.step K.out.r.bel;by_cases hkt:k<p.1.dn
     ·obtain⟨f,hf⟩:∃f,fs[k]?=some f:=⟨_,Jv (by have:=HSD.out.sr.ln;omega)⟩;have HN:=qD (HSD.out.ns f (Jx hf));obtain⟨fb,fo,hDA,-,hs0,hu,hr⟩:=HSD.out.Iq hf;have hfb:=hu.lt;have x5:=(K.out.r.bel.cell (p:=⟨fb,fo+k*6,none⟩) hfb).trans hs0;obtain⟨x0,x1,x2,x3,x4⟩:=hu.keep (K.out.r.bel.block fb hfb);obtain⟨u,X,hB,hX,hX5,hXl⟩:=K.out.ex;have HBU:=qD hB;have HX5:=qD hX5;have HXL:=qD hXl;obtain⟨v0,v1,v2,v3,v4⟩:=aS.Ig hB;simp only[Jw] at v0 v1 v2 v3 v4;rw[hDA] at y4;have k1:(0:Int)<=(k:Int):=by omega
      have k2:(k:Int)<(p.1.dn:Int):=by omega
      have HC:Hid (∀w2,Below wr.heap.size wr w2->Calls prog 302 #[u.val,.string f.2.s,f.1.val] w2 (CL (fun b=>F b\/w.heap.size+2<=b) (sq X f.2.s f.2.v) w2)):=qD fun w2 hb=>EF X f.2.v u f.1 f.2.s w2 (hX.step hb) (((hr.step K.out.r.bel).step hb).mono fun _=>.inl) HN.out (by unfold aH;omega);have hlo:w.heap.size+1<wr.heap.size:=hB.lt;clear hf hs0 hu hr hB hX hX5 hXl hDA;go_upto_region 11 with fail
      go_region_law ((go_simp;go_at_call 302;refine(HC.out _ ((Ju _ _).drewN 1)).mono ?_;rintro e3 w3 ⟨c3,rfl,hr3,hb3⟩;replace hb3:Below wr.heap.size wr w3:=hb3.Io;replace hr3:RV (fun b=>(F b\/w.heap.size+2<=b)\/wr.heap.size<=b) w3 c3 (sq X f.2.s f.2.v):=hr3;have HR3:=qD hr3;have HB3:=qD hb3;have K3:=qD (K.out.r.step hb3);have B3:=qD (HBU.out.step hb3);obtain⟨s0,s1,s2,s3,s4⟩:=aS.Ig B3.out;simp only[Jw] at s0 s1 s2 s3 s4;have z:=B3.out.frozen;clear hr3 hb3))
      all_goals
       have HI:=qD (AB.put (n:=i*1024+k+1) HFH.out K3.out B3.out (HR3.out.mono fun b hb=>by rcases hb with hb|hb;exact hb;exact .inr (by omega)) (ug HX5.out).1 (by have:=(ug (s:=f.2.s) (v:=f.2.v) HX5.out).2;have:=HXL.out;omega));change Exit.inBlock _ _ _ _ (bH w3 (w.heap.size+1) 0 c3);clear s0 s1 s2 s3 s4 z K3 B3 HR3 HB3 x0 x1 x2 x3 x4 x5 y0 y1 y2 y3 y4 v0 v1 v2 v3 v4 HC K;generalize bH w3 (w.heap.size+1) 0 c3=w5 at*;go_wp2_with fail;go_roundw
       ·exact⟨k+1,by omega,by go_num,HI.out⟩
       ·simp[intOf];omega
     ·obtain rfl:k=p.1.dn:=by omega
      go_wp2_with fail;go_roundw
      ·exact⟨i+1,by omega,by go_num,K.out.r,by obtain⟨u,X,k1,k2,k3,k4⟩:=K.out.ex;exact⟨u,X,k1,k2,k3,by omega⟩⟩
      ·simp[intOf];omega
  ·obtain rfl:i=m:=by omega
   have J:=qD I.out.r;obtain⟨u,X,hB,hX,hX5,-⟩:=I.out.ex;have HX:=qD hX;have HX5:=qD hX5;obtain⟨o0,o1,o2,o3,o4⟩:=aS.Ig hB;obtain⟨b0,b1,b2,b3,b4⟩:=aS.Ig J.out.b;simp only[Jw] at b0 b1 b2 b3 b4 o0 o1 o2 o3 o4;have z:=J.out.b.frozen;clear hX hX5 hB;go_wp2_with fail;exact Jz (aF rfl _ _ _ rfl _ u (aS.Ig (J.out.b.putV u))) rfl (J.out.val (HX.out.mono fun b hb=>hb.imp id fun h=>⟨by omega,by omega⟩) HFH.out (fun h0=>absurd h0 (by rw[HX5.out];decide)))
def EG(x:aC):Prop:=∀(F:Nat->Prop) (l:List ByteArray) (c:VC) (A:Option Addr) (n cc:Nat) (w:World),(∀b,F b->b<w.heap.size)->RV F w c x->gB x->ST w A n cc l->
 Calls prog 209 #[c.val,.slice A n cc] w (dh F w)
theorem dh.lt{F:Nat->Prop}{w w':World}{e:Ending}(h:dh F w e w'):∃c9:VC,e=.returned c9.val/\mv (fun b=>(F b\/w.heap.size<=b)/\b<w'.heap.size) w' c9/\Below w.heap.size w w':=by
 obtain⟨d,h1,h2,h3⟩:=h;exact⟨d,h1,h2.lt,h3⟩
theorem eZ.JI{w wr:World}{g:Nat}{F:Nat->Prop}{d:VC}(h:eZ w g wr)(hr:mv (fun b=>F b\/(w.heap.size<=b/\b≠g)) wr d)(hF:∀b,F b->b<w.heap.size):dh F w (.returned d.val) (bH wr g 0 d):=by
 obtain⟨y,h1,h2⟩:=hr;exact h.val h1 hF h2
theorem ui:∀x,EG x:=by
 intro x
 induction x using aC.ind with
 | h k0 n0 t0 l0 d0 ihl ihd=>
 intro F pl c A n cc w hF h hok hp;obtain⟨x,hx⟩:∃x,x=aC.mk k0 n0 t0 l0 d0:=⟨_,rfl⟩;rw[<-hx] at h hok;have HIL:Hid (∀v∈x.l,EG v):=by rw[hx];exact ihl
 have HID:Hid (∀f∈x.d,EG f.v):=by rw[hx];exact ihd
 clear hx ihl ihd;obtain⟨j0,hj0,hy0,hy1,hy2⟩:=LM dC;have hk:Hid (c.k=x.k):=h.open.k;have H:=qD h;have HOK:=qD hok;have HFH:=qD hF;have HP:=qD hp;have hln:c.ln<=1024:=by have:=h.open.ln;have:=hok.len.2.1;omega
 obtain⟨ps,hps,hsl⟩:=RV.sl h;have HSL:=qD hsl;have HPS:=qD hps;have J0:Hid (eZ w (w.heap.size+1) ((w.alloc (.cells c.arr 29)).alloc (.cells VC.zero.arr 29))):=⟨aG.Ii (by simp),by omega,((Ju _ _).alloc (qL) _).alloc (by simp) _⟩;have B0:Hid (aG ((w.alloc (.cells c.arr 29)).alloc (.cells VC.zero.arr 29)) w.heap.size 29 c.arr):=(aG.Ii rfl).alloc _;have hnz:(n:Int)<=8796093022208:=by have:=hp.sz;unfold aH at this;omega
 clear h hok hF hps hsl;go_enter func209,ntmps209;go_upto_region 1 with fail
 change Code.wp _ _ _ _ ((w.alloc (.cells c.arr 29)).alloc (.cells VC.zero.arr 29));generalize ((w.alloc (.cells c.arr 29)).alloc (.cells VC.zero.arr 29))=wa at*;obtain⟨a0,a1,a2,a3,a4⟩:=aS.Ig B0.out;simp only[Jw] at a1 a2 a3 a4;have J:=J0;rcases LH n with hn|hn
 ·subst hn;obtain⟨b0,b1,b2,b3,b4⟩:=aS.Ig J.out.b;simp only[Jw] at b0 b1 b2 b3 b4;have z:=J.out.b.frozen;clear hp;go_wp2_with fail;exact Jz (aF rfl _ _ _ rfl _ c (aS.Ig (J.out.b.putV c))) rfl (J.out.val ((H.out.step J.out.bel).mono fun _=>.inl) HFH.out HOK.out.k0)
 have n0b:((n:Int)==0)=false:=by simp;omega
 rcases(show(c.k==5)=true\/((c.k==5)=false/\(c.k==6)=true)\/((c.k==5)=false/\(c.k==6)=false) by cases(c.k==5)<;>cases(c.k==6)<;>simp) with h5|⟨h5,h6⟩|⟨h5,h6⟩
 ·obtain⟨s,r,rfl⟩:∃s r,pl=s::r:=by
   cases pl with
   | nil=>have:=hp.sr.ln;simp at this;omega
   | cons s r=>exact⟨s,r,rfl⟩
  have hln':=hp.sr.ln;simp only[Ks] at hln';have hlc:=hp.sr.lc;obtain⟨b,off,s',rfl,hbw,hs,hcell⟩:=hp.sr.JH (i:=0) (by omega);obtain rfl:s=s':=by simpa using hs
  simp only[MG] at hcell;have HT:=qD hp.tail;have cz:(cc:Int)≠0:=by omega
  have i1':(0:Int)<(n:Int):=by omega
  have i3':(1:Int)<=(n:Int):=by omega
  have HLN:=qD hln';have HLC:=qD hlc;clear hp hs hln' hlc;go_upto_region 5 with fail
  have hcw:=(J.out.bel.cell (p:=⟨b,off,none⟩) hbw).trans hcell;have lb0:=B0.out.lt;have lbb:b<wa.heap.size:=Ka hbw J.out.bel.size;have lw:w.heap.size<=wa.heap.size:=J.out.bel.size
  have KC:Hid (∀w':World,(∀g,g<wa.heap.size->w'.heap[g]?=wa.heap[g]?)->w'.cell? ⟨w.heap.size,0,none⟩=some (.int .i64 c.k)/\w'.cell? ⟨w.heap.size,1,none⟩=some (.int .i64 c.n)/\w'.cell? ⟨w.heap.size,2,none⟩=some (.string c.t)/\w'.cell? ⟨w.heap.size,3,none⟩=some (.slice c.LA c.ln c.lc)/\w'.cell? ⟨w.heap.size,4,none⟩=some (.slice c.DA c.dn c.dc)/\w'.cell? ⟨b,off,none⟩=some (.string s)):=qD fun w' hk=>by
   have p0:∀o,w'.cell? ⟨w.heap.size,o,none⟩=wa.cell? ⟨w.heap.size,o,none⟩:=fun o=>Kh (w:=wa) (a:=⟨w.heap.size,o,none⟩) (hk _ lb0);have p1:∀o,w'.cell? ⟨b,o,none⟩=wa.cell? ⟨b,o,none⟩:=fun o=>Kh (w:=wa) (a:=⟨b,o,none⟩) (hk _ lbb);exact⟨(p0 _).trans a0,(p0 _).trans a1,(p0 _).trans a2,(p0 _).trans a3,(p0 _).trans a4,(p1 _).trans hcw⟩
  have HGV:Hid (∀wq,Below wa.heap.size wa wq->Calls prog 244 #[c.val,.string s] wq (CC F x s wq)):=qD fun wq hq=>si x c s wq ((H.out.step J.out.bel).step hq)
  go_cut [5,6] (fun v5 v6 wx=>∃(g9:Nat) (c9:VC),v5=.pointer (some ⟨g9,0,none⟩)/\v6=.bool (eY x s).isSome/\aG wx g9 29 c9.arr/\RV F wx c9 ((eY x s).getD aC.zero)/\wa.heap.size<=g9/\Below wa.heap.size wa wx)
  case first=>as_aux_lemma=>
   refine Kn ?_;refine Kg (S:=(fun w'=>w'.cell? ⟨w.heap.size,0,none⟩=some (.int .i64 c.k)/\w'.cell? ⟨w.heap.size,1,none⟩=some (.int .i64 c.n)/\w'.cell? ⟨w.heap.size,2,none⟩=some (.string c.t)/\w'.cell? ⟨w.heap.size,3,none⟩=some (.slice c.LA c.ln c.lc)/\w'.cell? ⟨w.heap.size,4,none⟩=some (.slice c.DA c.dn c.dc)/\w'.cell? ⟨b,off,none⟩=some (.string s))) (by kernel_rfl) ?_ (fun hHeld=>?_)
   ·(try dsimp only);exact KC.out _ (fun g hg=>rfl)
   have B:Hid (Below wa.heap.size wa wa.drew):=qD ((Ju wa.heap.size wa).drew);generalize wa.drew=W0 at*;refine rU 0 rfl ?_
   try go_frame
   refine rU 1 rfl ?_
   try go_frame
   refine rU 2 rfl ?_
   try go_frame
   refine rU 3 rfl ?_
   try go_frame
   refine rR [4,8] ?_;refine rC (fun K hK=>?_) (rC (fun K hK=>?_) rN)
   ·go_simp;refine(HGV.out _ B.out).mono ?_;rintro e W1 ⟨c9,rfl,hr,hb⟩;have R9:=qD hr;replace B:=qD (B.out.Ih hb);clear hb hr
    (try go_wp2_with fail)
    clear hHeld;refine hK.out _ _ (KC.out _ (fun g hg=>B.out.block g hg)) fun hHeld=>?_;clear hK K
    try go_frame
    refine rU 5 rfl ?_
    try go_frame
    refine rU 6 rfl ?_
    try go_frame
    refine rU 7 rfl ?_
    try go_frame
    refine rY 8 rfl fun K hK=>?_;go_simp;have hg9:wa.heap.size<=W1.heap.size:=B.out.size;have Q9:Hid (aG (W1.alloc (.cells VC.zero.arr 29)) W1.heap.size 29 VC.zero.arr):=aG.Ii rfl;replace R9:=qD (R9.out.alloc (.cells VC.zero.arr 29));replace B:=qD (B.out.alloc B.out.size (Obj.cells VC.zero.arr 29));change K _ (W1.alloc (.cells VC.zero.arr 29));generalize W1.alloc (.cells VC.zero.arr 29)=W2 at*;generalize W1.heap.size=g9 at*;clear hHeld;refine hK.out _ _ (KC.out _ (fun g hg=>B.out.block g hg)) fun hHeld=>?_;clear hK K
    try go_frame
    refine rY 9 rfl fun K hK=>?_;obtain⟨z0,z1,z2,z3,z4⟩:=aS.Ig Q9.out;simp only[Jw] at z0 z1 z2 z3 z4;have zz:=Q9.out.frozen;have lq:=Q9.out.lt;go_simp;have R9':=qD (R9.out.keep (w':=bH W2 g9 0 c9) fun b hb=>bO (by have:=HFH.out b hb;omega));have Q9':=qD (Q9.out.putV c9);have B':=qD (af B.out hg9 0 c9);clear z0 z1 z2 z3 z4 zz lq R9 Q9 B;have R9:=R9';have Q9:=Q9';have B:=B';clear R9' Q9' B';change K _ (bH W2 g9 0 c9);generalize bH W2 g9 0 c9=W3 at*;clear hHeld;refine hK.out _ _ (KC.out _ (fun g hg=>B.out.block g hg)) fun hHeld=>?_;clear hK K
    try go_frame
    refine rU 10 rfl ?_
    try go_frame
    refine rD ?_ _;refine Kq ?_;go_wp2_with fail;go_meet;exact⟨g9,c9,rfl,rfl,Q9.out,R9.out,by omega,B.out⟩
   ·go_simp;have hg9:wa.heap.size<=W0.heap.size:=B.out.size;have Q9:Hid (aG (W0.alloc (.cells VC.zero.arr 29)) W0.heap.size 29 VC.zero.arr):=aG.Ii rfl;replace B:=qD (B.out.alloc B.out.size (Obj.cells VC.zero.arr 29));change K _ (W0.alloc (.cells VC.zero.arr 29));generalize W0.alloc (.cells VC.zero.arr 29)=W1 at*;generalize W0.heap.size=g9 at*;clear hHeld;refine hK.out _ _ (KC.out _ (fun g hg=>B.out.block g hg)) fun hHeld=>?_;clear hK K
    try go_frame
    refine rY 4 rfl fun K hK=>?_;go_simp;refine(HGV.out _ B.out).mono ?_;rintro e W2 ⟨c9,rfl,hr,hb⟩;have R9:=qD hr;replace Q9:=qD (Q9.out.step hb);replace B:=qD (B.out.Ih hb);clear hb hr
    (try go_wp2_with fail)
    clear hHeld;refine hK.out _ _ (KC.out _ (fun g hg=>B.out.block g hg)) fun hHeld=>?_;clear hK K
    try go_frame
    refine rU 5 rfl ?_
    try go_frame
    refine rU 6 rfl ?_
    try go_frame
    refine rU 7 rfl ?_
    try go_frame
    refine rY 9 rfl fun K hK=>?_;obtain⟨z0,z1,z2,z3,z4⟩:=aS.Ig Q9.out;simp only[Jw] at z0 z1 z2 z3 z4;have zz:=Q9.out.frozen;have lq:=Q9.out.lt;go_simp;have R9':=qD (R9.out.keep (w':=bH W2 g9 0 c9) fun b hb=>bO (by have:=HFH.out b hb;omega));have Q9':=qD (Q9.out.putV c9);have B':=qD (af B.out hg9 0 c9);clear z0 z1 z2 z3 z4 zz lq R9 Q9 B;have R9:=R9';have Q9:=Q9';have B:=B';clear R9' Q9' B';change K _ (bH W2 g9 0 c9);generalize bH W2 g9 0 c9=W3 at*;clear hHeld;refine hK.out _ _ (KC.out _ (fun g hg=>B.out.block g hg)) fun hHeld=>?_;clear hK K
    try go_frame
    refine rU 10 rfl ?_
    try go_frame
    refine rD ?_ _;refine Kq ?_;go_wp2_with fail;go_meet;exact⟨g9,c9,rfl,rfl,Q9.out,R9.out,by omega,B.out⟩
  case rest=>
   obtain⟨g9,c9,rfl,rfl,hg9,hr9,hl9,hb9⟩:=hcut;replace J:=qD (J.out.step hb9);have G9:=qD hg9;have GR:=qD hr9;clear HGV KC a0 a1 a2 a3 a4 hcw B0 J0;obtain⟨b0,b1,b2,b3,b4⟩:=aS.Ig J.out.b;simp only[Jw] at b0 b1 b2 b3 b4;have z:=J.out.b.frozen;have hlw:w.heap.size+1<wa.heap.size\/True:=.inr trivial;cases hg:eY x s with
   | none=>
    clear hg hg9 hr9 hb9 GR;go_wp2_with fail;exact Jz (aF rfl _ _ _ rfl _ VC.zero (aS.Ig (J.out.b.putV VC.zero))) rfl (J.out.val RV.zero HFH.out fun _=>rfl)
   | some y=>
    rw[hg] at GR;obtain⟨-,f,hf,he⟩:=pH hg;have HAT:Hid (EG y):=qD (by rw[<-he];exact HID.out f hf);have HYO:Hid (gB y):=qD (by rw[<-he];exact HOK.out.Jq hf);clear hg hg9 hr9 hb9 hf he;obtain⟨g0,g1,g2,g3,g4⟩:=aS.Ig G9.out;simp only[Jw] at g0 g1 g2 g3 g4;go_upto_region 7 with fail
    by_cases hc1:cc=1
    ·subst hc1;obtain rfl:n=1:=by have:=HLC.out;omega
     have HT2:=HT.out;rw[Kb rfl,Nf] at HT2;replace HT2:=qD HT2;have HRK:=qD fun(wq:World) (hq:Below wc.heap.size wc wq)=>HAT.out F r c9 _ _ _ wq (fun b hb=>by have h1:=HFH.out b hb;have h2:=J.out.bel.size;have h3:=hq.size;omega) (GR.out.step hq) HYO.out ((HT2.out.step J.out.bel).step hq);clear HT
     go_region_law ((go_simp;go_at_call 209;refine(HRK.out _ ((Ju _ _).drewN 1)).mono ?_;rintro e3 w3 ⟨d3,rfl,hr3,hb3⟩;replace hb3:Below wc.heap.size wc w3:=hb3.Io;replace hr3:mv (fun b=>F b\/wc.heap.size<=b) w3 d3:=hr3;have HR3:=qD hr3;have J3:=qD (J.out.step hb3);clear b0 b1 b2 b3 b4 z;obtain⟨b0,b1,b2,b3,b4⟩:=aS.Ig J3.out.b;simp only[Jw] at b0 b1 b2 b3 b4;have z:=J3.out.b.frozen;clear hr3 hb3))
     all_goals
      go_wp2_with fail;exact Jz (aF rfl _ _ _ rfl _ d3 (aS.Ig (J3.out.b.putV d3))) rfl (J3.out.JI (HR3.out.mono fun b hb=>hb.imp id fun h=>⟨by have:=J.out.bel.size;omega,by have:=J.out.b.lt;omega⟩) HFH.out)
    ·have HT2:=HT.out;rw[KU hc1] at HT2;replace HT2:=qD HT2;have HRK:=qD fun(wq:World) (hq:Below wc.heap.size wc wq)=>HAT.out F r c9 _ _ _ wq (fun b hb=>by have h1:=HFH.out b hb;have h2:=J.out.bel.size;have h3:=hq.size;omega) (GR.out.step hq) HYO.out ((HT2.out.step J.out.bel).step hq);clear HT
     go_region_law ((go_simp;go_at_call 209;refine(HRK.out _ ((Ju _ _).drewN 1)).mono ?_;rintro e3 w3 ⟨d3,rfl,hr3,hb3⟩;replace hb3:Below wc.heap.size wc w3:=hb3.Io;replace hr3:mv (fun b=>F b\/wc.heap.size<=b) w3 d3:=hr3;have HR3:=qD hr3;have J3:=qD (J.out.step hb3);clear b0 b1 b2 b3 b4 z;obtain⟨b0,b1,b2,b3,b4⟩:=aS.Ig J3.out.b;simp only[Jw] at b0 b1 b2 b3 b4;have z:=J3.out.b.frozen;clear hr3 hb3))
     all_goals
      go_wp2_with fail;exact Jz (aF rfl _ _ _ rfl _ d3 (aS.Ig (J3.out.b.putV d3))) rfl (J3.out.JI (HR3.out.mono fun b hb=>hb.imp id fun h=>⟨by have:=J.out.bel.size;omega,by have:=J.out.b.lt;omega⟩) HFH.out)
 ·clear hp;go_upto_region 11 with fail
  have I0:Hid (eC F w (w.heap.size+1) wa.heap.size (wa.heap.size+1) none 0 0 [] (wa.alloc (.cells #[.int .i64 6,.int .i64 0,.string empty,.slice none 0 0,.slice none 0 0] 29))):=qD (eC.start J.out fun b hb=>by have:=HFH.out b hb;have:=J.out.bel.size;exact⟨by omega,by omega⟩);have D0:=qD (B0.out.alloc (.cells #[.int .i64 6,.int .i64 0,.string empty,.slice none 0 0,.slice none 0 0] 29));change Code.wp _ _ _ _ (wa.alloc (.cells #[.int .i64 6,.int .i64 0,.string empty,.slice none 0 0,.slice none 0 0] 29));generalize wa.alloc (.cells #[.int .i64 6,.int .i64 0,.string empty,.slice none 0 0,.slice none 0 0] 29)=wb at*;have hgw:w.heap.size+1<wa.heap.size:=J.out.b.lt;generalize wa.heap.size=go at*;clear a0 a1 a2 a3 a4 J J0 B0
  go_loopw [8] (fun v8 wr=>∃(i m:Nat) (A4:Option Addr) (cap:Nat) (qs:List PV),i<=c.ln/\m<=i/\v8=.int .i64 i/\aG wr w.heap.size 29 c.arr/\eC F w (w.heap.size+1) go (go+1) A4 m cap qs wr) (fun v8 _=>c.ln-(intOf v8).toNat)
  ·exact⟨0,0,none,0,[],KD _,qL,rfl,D0.out,I0.out⟩
  case round=>
   obtain⟨i,m,A4,cap,qs,hi,hmi,rfl,hD,hI⟩:=hrel;have D:=qD hD;have I:=qD hI;clear D0 I0 hD hI;obtain⟨a0,a1,a2,a3,a4⟩:=aS.Ig D.out;simp only[Jw] at a1 a2 a3 a4;by_cases hlt:i<c.ln
   ·obtain⟨eb,eo,hLA,hlb,hel⟩:=HSL.out.Jj (by omega);obtain⟨p,hpi,hva,hrv⟩:=hel i hlt;have hpm:p.2∈x.l:=by rw[<-HPS.out];exact Ko (Jx hpi)
    have HRV:=qD (hrv.step I.out.r.bel);have HAT:=qD (HIL.out p.2 hpm);have HYO:=qD (HOK.out.el hpm);obtain⟨y0,y1,y2,y3,y4⟩:=hva.step I.out.r.bel;rw[hLA] at a3;have i1:(0:Int)<=(i:Int):=by omega
    have i2:(i:Int)<(c.ln:Int):=by omega
    have lww:=I.out.r.bel.size;have hlbr:eb<wr.heap.size:=by omega
    have lb0:=D.out.lt;have HSTP:=qD (HP.out.step I.out.r.bel);have HFU:Hid (∀b,F b->b<wr.heap.size):=qD fun b hb=>by have:=HFH.out b hb;omega
    have HGV:Hid (Calls prog 209 #[p.1.val,.slice A n cc] wr fun e w'=>∃c9:VC,e=.returned c9.val/\mv (fun b=>(F b\/wr.heap.size<=b)/\b<w'.heap.size) w' c9/\Below wr.heap.size wr w'):=qD
     ((HAT.out F pl p.1 A n cc wr HFU.out HRV.out HYO.out HSTP.out).mono fun _ _ hh=>hh.lt)
    clear hel hva hrv hpi hpm hLA;go_upto_region 14 with(go_at_call 209;refine HGV.out.mono ?_;rintro e w2 ⟨c9,rfl,hr9,hb9⟩;have HR9:=qD hr9;have HB9:=qD hb9;clear hr9 hb9 a0 a1 a2 a3 a4 y0 y1 y2 y3 y4)
    ·change Code.wp _ _ _ _ (w2.alloc (.cells c9.arr 29));have hg9:aG (w2.alloc (.cells c9.arr 29)) w2.heap.size 29 c9.arr:=aG.Ii rfl;have hb9:=HB9.out.alloc HB9.out.size (Obj.cells c9.arr 29);have hr9:mv (fun b=>F b\/(wr.heap.size<=b/\b≠w2.heap.size)) (w2.alloc (.cells c9.arr 29)) c9:=(HR9.out.alloc _).mono fun b hb=>hb.1.imp id fun h=>⟨h,by have:=hb.2;omega⟩;have hl9:wr.heap.size<=w2.heap.size:=HB9.out.size;generalize w2.alloc (.cells c9.arr 29)=wc at*;generalize w2.heap.size=g9 at*;clear HR9 HB9;have D2:=qD (D.out.step hb9);have I2:=qD (I.out.step hb9);have G9:=qD hg9;obtain⟨y,hry,-⟩:=hr9
     have HRY:Hid (RV (fun b=>(F b\/go+1<=b)/\(Value.slice A4 m cap).ownBlock≠some b) wc c9 y):=qD (hry.mono fun b hb=>⟨by
      rcases hb with hb|hb
      ·exact .inl hb
      ·exact .inr (by have:=I.out.bs;omega),fun e=>by
      have h1:=fH I.out.own e
      have h2:=bF I.out.own b e
      rcases hb with hb|hb
      ·have h3:=(I.out.hF b hb).1;omega
      ·omega⟩)
     obtain⟨g0,g1,g2,g3,g4⟩:=aS.Ig G9.out;simp only[Jw] at g0 g1 g2 g3 g4;have q3:=I2.out.o.cell 3;simp at q3;have hbs:=I2.out.bs;have hs:(Value.slice A4 m cap).ownBlock≠some go:=gL I2.out.own (by omega);clear HGV HRV HSTP hg9 hry hb9 D I;cases hz:(c9.k != 0)
     ·go_wp2_with fail;go_roundw
      ·exact⟨i+1,m,A4,cap,qs,by omega,by omega,by go_num,D2.out,I2.out⟩
      ·simp[intOf];omega
     ·go_wp2_with (at_builtin;refine aJ _ rfl _ _ 26 rfl (go+1) 29 j0 VC.zero.val 5 80 Kv hj0 hy0 hy1 hy2 rfl (by decide) (.slice A4 m cap) m (aO bC qs) rfl (bJ I2.out.own ((Ju _ _).alloc (qL) _)) _ _ 1 _ (bC (c9,y)) rfl ⟨rfl,fun _=>⟨_,rfl,Km _,ao _ _ _⟩⟩ (cG _) (by unfold maxLen;omega) (by omega) ?c5 ?_)
      case c5=>first|omega|(simp;omega)
      intro v' w4 hown4 hgr hat;obtain⟨A5,cap5,rfl,hle5⟩:=cK hown4;have f2:w4.cell? ⟨go,3,none⟩=some (.slice A4 m cap):=jM hgr (((I2.out.o.alloc _).cell 3).trans rfl) hs;have z2:w4.frozen? ⟨go,3,none⟩=false:=(fh hgr (I2.out.o.alloc _).lt hs).trans ((I2.out.o.alloc _).frozen 3);have HI:=qD (I2.out.put ((Ju wc.heap.size wc).alloc (qL) _) HRY.out hgr (by rw[vg];exact hat) hown4);have HD:=qD ((I2.out.step ((Ju wc.heap.size wc).alloc (qL) _)).keep hgr (D2.out.alloc _) (by have:=I2.out.g1;omega) (by omega) (.slice A5 (m+1) cap5));clear hgr hat hown4 q3 g0 g1 g2 g3 g4 hs hbs;go_wp2_with fail;go_roundw
      ·exact⟨i+1,m+1,A5,cap5,_,by omega,by omega,by go_num,HD.out,HI.out⟩
      ·simp[intOf];omega
   ·obtain rfl:i=c.ln:=by omega
    have J:=qD I.out.r;obtain⟨o0,o1,o2,o3,o4⟩:=aS.Ig I.out.o;obtain⟨b0,b1,b2,b3,b4⟩:=aS.Ig J.out.b;simp only[Jw] at b0 b1 b2 b3 b4 o0 o1 o2 o3 o4;have z:=J.out.b.frozen;go_wp2_with fail;exact Jz (aF rfl _ _ _ rfl _ ⟨6,0,empty,A4,m,cap,none,0,0⟩ (aS.Ig (J.out.b.putV ⟨6,0,empty,A4,m,cap,none,0,0⟩))) rfl (I.out.done (by unfold aH;omega) (fun b hb=>.inl hb))
 ·clear hp;obtain⟨b0,b1,b2,b3,b4⟩:=aS.Ig J.out.b;simp only[Jw] at b0 b1 b2 b3 b4;have z:=J.out.b.frozen;go_wp2_with fail;exact Jz (aF rfl _ _ _ rfl _ VC.zero (aS.Ig (J.out.b.putV VC.zero))) rfl (J.out.val RV.zero HFH.out fun _=>rfl)
end
end Go.Proofs.YtgfoliedmhgpnaaGreatDoor
