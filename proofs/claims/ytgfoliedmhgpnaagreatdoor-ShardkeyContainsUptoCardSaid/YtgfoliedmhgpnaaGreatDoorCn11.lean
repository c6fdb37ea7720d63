/- A part of the proof. -/
import Derived.Test.YtgfoliedmhgpnaaGreatDoorCn10
import Derived.Test.YtgfoliedmhgpnaaGreatDoorCn9
import Derived.Test.YtgfoliedmhgpnaaGreatDoorCn5
import Derived.WideShapes
set_option maxRecDepth 100000
set_option maxHeartbeats 16000000
open Go.Proofs.Tryz
open ByteArray (empty)
namespace Go.Proofs.YtgfoliedmhgpnaaGreatDoor
open Go.RowKit
section
variable {k b n g m i j:Nat} {e t:TypeId} {a x y d:Int} {l:List ByteArray} {v:Value} {s:ByteArray}
noncomputable def eH(x y:aC):Bool:=@decide (x=y) (Classical.propDecidable _)
theorem yf{x y:aC}(h:x=y):eH x y=true:=by unfold eH;exact @OM _ (Classical.propDecidable _) h
theorem eV{x y:aC}(h:x≠y):eH x y=false:=by unfold eH;exact @OV _ (Classical.propDecidable _) h
theorem vP{x y:aC}(h:eH x y=true):x=y:=by unfold eH at h;exact @Qk _ (Classical.propDecidable _) h
theorem vQ{x y:aC}(h:eH x y=false):x≠y:=by unfold eH at h;exact @of_decide_eq_false _ (Classical.propDecidable _) h
theorem aC.ext'{x y:aC}(h1:x.k=y.k)(h2:x.n=y.n)(h3:x.t=y.t)(h4:x.l=y.l)(h5:x.d=y.d):x=y:=by
 cases x;cases y;simp only[aC.k,aC.n,aC.t,aC.l,aC.d] at*;subst h1 h2 h3 h4 h5;rfl
theorem bf.ext'{x y:bf}(h1:x.s=y.s)(h2:x.v=y.v):x=y:=by
 cases x;cases y;simp only[bf.s,bf.v] at*;subst h1 h2;rfl
theorem nl{a b:ByteArray}:a.toList=b.toList↔a=b:=by
 constructor
 ·intro h;rw[PO,PO] at h;exact RR h
 ·rintro rfl;rfl
theorem np{α:Type}{l m:List α}{x y:α}(h:l.take i=m.take i)(hx:l[i]?=some x)(hy:m[i]?=some y)(e:x=y):l.take (i+1)=m.take (i+1):=by
 rw[take_snoc' hx,take_snoc' hy,h,e]
theorem vR{α:Type}{l m:List α}{x y:α}(hx:l[i]?=some x)(hy:m[i]?=some y)(e:x≠y):l≠m:=by
 rintro rfl;rw[hx] at hy;exact e (by simpa using hy)
def Hj(x:aC):Prop:=∀(y:aC) (c d:VC) (w:World),RW w c x->RW w d y->
 Calls prog 248 #[c.val,d.val] w (Rt w (.bool (eH x y)))
theorem tC:∀x,Hj x:=by
 intro x
 induction x using aC.ind with
 | h k n t l d ihl ihd=>
 intro y c e w hx hy;obtain⟨ck,cn,ct,cLA,cln,clc,cDA,cdn,cdc⟩:=c;obtain⟨ek,en,et,eLA,eln,elc,eDA,edn,edc⟩:=e;have hk:ck=k:=hx.open.k;have hn:cn=n:=hx.open.n;have ht:ct=t:=hx.open.t;subst hk hn ht;have hk2:ek=y.k:=hy.open.k;have hn2:en=y.n:=hy.open.n;have ht2:et=y.t:=hy.open.t;have hl1:cln=l.length:=hx.open.ln;have hl2:eln=y.l.length:=hy.open.ln;have hd1:cdn=d.length:=hx.open.dn;have hd2:edn=y.d.length:=hy.open.dn
 have I0:Hid (ky w ⟨ck,cn,ct,cLA,cln,clc,cDA,cdn,cdc⟩ ⟨ek,en,et,eLA,eln,elc,eDA,edn,edc⟩ ((w.alloc (.cells #[.int .i64 ck,.int .i64 cn,.string ct,.slice cLA cln clc,.slice cDA cdn cdc] 29)).alloc (.cells #[.int .i64 ek,.int .i64 en,.string et,.slice eLA eln elc,.slice eDA edn edc] 29))):=
  qD ⟨(aG.Mm rfl).alloc _,aG.Mm sM,((OG _ _).alloc (qL) _).alloc sM _⟩
 cases h1:(ck != ek);rotate_left
 ·have HV:Hid (eH (.mk ck cn ct l d) y=false):=eV (by rintro rfl;simp[hk2,aC.k] at h1);clear hx hy ihl ihd hk2 hn2 ht2 hl1 hl2 hd1 hd2;go_enter SH,Ru;go_wp2;go_ret;exact⟨by rw[HV.out];rfl,I0.out.bel⟩
 cases h2:(cn != en);rotate_left
 ·have HV:Hid (eH (.mk ck cn ct l d) y=false):=eV (by rintro rfl;simp[hn2,aC.n] at h2);clear hx hy ihl ihd hk2 hn2 ht2 hl1 hl2 hd1 hd2;go_enter SH,Ru;go_wp2;go_ret;exact⟨by rw[HV.out];rfl,I0.out.bel⟩
 cases h3:(ct.toList==et.toList)
 ·have HV:Hid (eH (.mk ck cn ct l d) y=false):=eV (by rintro rfl;simp[ht2,aC.t] at h3);clear hx hy ihl ihd hk2 hn2 ht2 hl1 hl2 hd1 hd2;go_enter SH,Ru;go_wp2;go_ret;exact⟨by rw[HV.out];rfl,I0.out.bel⟩
 cases h4:((cln:Int) != (eln:Int));rotate_left
 ·have HV:Hid (eH (.mk ck cn ct l d) y=false):=eV (by rintro rfl;simp[hl1,hl2,aC.l] at h4);clear hx hy ihl ihd hk2 hn2 ht2 hl1 hl2 hd1 hd2;go_enter SH,Ru;go_wp2;go_ret;exact⟨by rw[HV.out];rfl,I0.out.bel⟩
 cases h5:((cdn:Int) != (edn:Int));rotate_left
 ·have HV:Hid (eH (.mk ck cn ct l d) y=false):=eV (by rintro rfl;simp[hd1,hd2,aC.d] at h5);clear hx hy ihl ihd hk2 hn2 ht2 hl1 hl2 hd1 hd2;go_enter SH,Ru;go_wp2;go_ret;exact⟨by rw[HV.out];rfl,I0.out.bel⟩
 have e1:ck=ek:=by simpa using h1
 have e2:cn=en:=by simpa using h2
 have e3:ct=et:=nl.1 (by simpa using h3);have e4:cln=eln:=by simp at h4;omega
 have e5:cdn=edn:=by simp at h5;omega
 subst e1 e2 e3 e4 e5;have HV:Hid (l=y.l->d=y.d->eH (.mk ck cn ct l d) y=true):=fun a b=>yf (aC.ext' hk2 hn2 ht2 a b);have HV1:Hid (l≠y.l->eH (.mk ck cn ct l d) y=false):=fun a=>eV (by rintro rfl;exact a rfl);have HV2:Hid (d≠y.d->eH (.mk ck cn ct l d) y=false):=fun a=>eV (by rintro rfl;exact a rfl);obtain⟨ps,hps,hsl⟩:=hx.sl;obtain⟨qs,hqs,hql⟩:=hy.sl;obtain⟨fs,hfs,hfl⟩:=hx.sd;obtain⟨gs,hgs,hgl⟩:=hy.sd;simp only at hsl hql hfl hgl;have hz1:=hsl.sz;have hz2:=hfl.sz;unfold aF at hz1 hz2;have P1:=qD hsl;have P2:=qD hql;have Q1:=qD hfl;have Q2:=qD hgl;have HN1:=qD hl1;have HN2:=qD hl2;have HM1:=qD hd1;have HM2:=qD hd2;have HS1:Hid (ps.map Prod.snd=l):=hps;have HS2:Hid (qs.map Prod.snd=y.l):=hqs;have HT1:Hid (fs.map Prod.snd=d):=hfs;have HT2:Hid (gs.map Prod.snd=y.d):=hgs;have IH:=qD ihl;have ID:=qD ihd;clear hx hy ihl ihd hk2 hn2 ht2 hsl hql hps hqs hfl hgl hfs hgs hl1 hl2 hd1 hd2 h1 h2 h3 h4 h5;go_enter SH,Ru;go_wp2_with fail
 go_loopw [5] (fun v5 wr=>∃i:Nat,i<=cln/\v5=.int .i64 i/\l.take i=y.l.take i/\ky w ⟨ck,cn,ct,cLA,cln,clc,cDA,cdn,cdc⟩ ⟨ck,cn,ct,eLA,cln,elc,eDA,cdn,edc⟩ wr) (fun v5 _=>cln-(intOf v5).toNat)
 ·exact⟨0,ON _,rfl,rfl,I0.out⟩
 case round=>
  obtain⟨i,hi1,rfl,hq,I⟩:=hrel;have HQ:=qD hq;have J:=qD I;have q0:=I.b0.cell 3;have q1:=I.b1.cell 3;simp at q0 q1;clear hq;by_cases hlt:i<cln
  ·obtain⟨p,hp⟩:∃p,ps[i]?=some p:=⟨_,OH (by have:=P1.out.sr.ln;omega)⟩;obtain⟨q,hq⟩:∃q,qs[i]?=some q:=⟨_,OH (by have:=P2.out.sr.ln;omega)⟩;obtain⟨b1,o1,rfl,_,hu1,hr1⟩:=P1.out.Mw hp;obtain⟨b2,o2,rfl,_,hu2,hr2⟩:=P2.out.Mw hq;have g1:l[i]?=some p.2:=by rw[<-HS1.out,OT,hp];rfl
   have g2:y.l[i]?=some q.2:=by rw[<-HS2.out,OT,hq];rfl
   have HA:Hid (eH p.2 q.2=true->l.take (i+1)=y.l.take (i+1)):=fun h=>np HQ.out g1 g2 (vP h);have HB:Hid (eH p.2 q.2=false->l≠y.l):=fun h=>vR g1 g2 (vQ h);obtain⟨y0,y1,y2,y3,y4⟩:=hu1.keep (I.bel.block b1 hu1.lt);obtain⟨z0,z1,z2,z3,z4⟩:=hu2.keep (I.bel.block b2 hu2.lt);have E0:=aX (J.out.b0.cell 3);have E1:=aX (J.out.b1.cell 3);have Y0:=aX y0;have Y1:=aX y1;have Y2:=aX y2;have Y3:=aX y3;have Y4:=aX y4;have Z0:=aX z0;have Z1:=aX z1;have Z2:=aX z2;have Z3:=aX z3;have Z4:=aX z4
   have K0:Hid (∀k:BW wr,Calls prog 248 #[p.1.val,q.1.val] k.val fun e w''=>e=.returned (.bool (eH p.2 q.2))/\∃k:BW wr,w''=k.val):=fun k=>
    Calls.bw (IH.out p.2 (OJ g1) q.2 p.1 q.1 k.val ((hr1.step I.bel).step k.below) ((hr2.step I.bel).step k.below))
   have hi0:(0:Int)<=(i:Int):=oM
   have hi3:(i:Int)<(cln:Int):=oM
   clear hp hq hu1 hu2 hr1 hr2 g1 g2 y0 y1 y2 y3 y4 z0 z1 z2 z3 z4 I;cases hs:eH p.2 q.2
   ·rw[hs] at K0;go_upto_region 6 with fail
    refine aL kR kR ?_
    repeat(go_big_quiet_step (with_reducible exact K0.out _))
    refine Oc ?_;rintro _ ⟨kw,rfl⟩;have J2:=qD (J.out.step kw.below);clear E0 E1 Y0 Y1 Y2 Y3 Y4 Z0 Z1 Z2 Z3 Z4 K0 hi0 hi3 q0 q1;generalize kw.val=w2 at*;go_wp2;go_ret;exact⟨by rw[HV1.out (HB.out hs)];rfl,J2.out.bel⟩
   ·rw[hs] at K0;go_upto_region 6 with fail
    refine aL kR kR ?_
    repeat(go_big_quiet_step (with_reducible exact K0.out _))
    refine Oc ?_;rintro _ ⟨kw,rfl⟩;have J2:=qD (J.out.step kw.below);clear E0 E1 Y0 Y1 Y2 Y3 Y4 Z0 Z1 Z2 Z3 Z4 K0 hi0 hi3 q0 q1;generalize kw.val=w2 at*;go_wp2_with fail;go_roundw
    ·exact⟨i+1,by omega,by go_num,HA.out hs,J2.out⟩
    ·exact iO
  ·have HE:Hid (l=y.l):=by
    have:=HQ.out;rw[OS (by have:=HN1.out;omega),OS (by have:=HN2.out;omega)] at this;exact this
   clear I;go_wp2_with fail
   go_loopw [6] (fun v6 wr=>∃i:Nat,i<=cdn/\v6=.int .i64 i/\d.take i=y.d.take i/\ky w ⟨ck,cn,ct,cLA,cln,clc,cDA,cdn,cdc⟩ ⟨ck,cn,ct,eLA,cln,elc,eDA,cdn,edc⟩ wr) (fun v6 _=>cdn-(intOf v6).toNat)
   ·exact⟨0,ON _,rfl,rfl,J.out⟩
   case round=>
    clear q0 q1 J HQ hlt;obtain⟨i,hi1,rfl,hq,I⟩:=hrel;have HQ:=qD hq;have J:=qD I;have q0:=I.b0.cell 4;have q1:=I.b1.cell 4;simp at q0 q1;clear hq;by_cases hlt:i<cdn
    ·obtain⟨p,hp⟩:∃p,fs[i]?=some p:=⟨_,OH (by have:=Q1.out.sr.ln;omega)⟩;obtain⟨q,hq⟩:∃q,gs[i]?=some q:=⟨_,OH (by have:=Q2.out.sr.ln;omega)⟩;obtain⟨b1,o1,rfl,_,hs1,hu1,hr1⟩:=Q1.out.Mw hp;obtain⟨b2,o2,rfl,_,hs2,hu2,hr2⟩:=Q2.out.Mw hq;have g1:d[i]?=some p.2:=by rw[<-HT1.out,OT,hp];rfl
     have g2:y.d[i]?=some q.2:=by rw[<-HT2.out,OT,hq];rfl
     have HA:Hid (p.2=q.2->d.take (i+1)=y.d.take (i+1)):=fun h=>np HQ.out g1 g2 h;have HB:Hid (p.2≠q.2->d≠y.d):=fun h=>vR g1 g2 h;obtain⟨y0,y1,y2,y3,y4⟩:=hu1.keep (I.bel.block b1 hu1.lt);obtain⟨z0,z1,z2,z3,z4⟩:=hu2.keep (I.bel.block b2 hu2.lt);have n0:=(I.bel.cell (p:=⟨b1,o1+i*6,none⟩) hu1.lt).trans hs1;have n1:=(I.bel.cell (p:=⟨b2,o2+i*6,none⟩) hu2.lt).trans hs2;have N0:=aX n0;have N1:=aX n1;have E0:=aX (J.out.b0.cell 4);have E1:=aX (J.out.b1.cell 4);have Y0:=aX y0;have Y1:=aX y1;have Y2:=aX y2;have Y3:=aX y3;have Y4:=aX y4;have Z0:=aX z0;have Z1:=aX z1;have Z2:=aX z2;have Z3:=aX z3;have Z4:=aX z4
     have K0:Hid (∀k:BW wr,Calls prog 248 #[p.1.val,q.1.val] k.val fun e w''=>e=.returned (.bool (eH p.2.v q.2.v))/\∃k:BW wr,w''=k.val):=fun k=>
      Calls.bw (ID.out p.2 (OJ g1) q.2.v p.1 q.1 k.val ((hr1.step I.bel).step k.below) ((hr2.step I.bel).step k.below))
     have hi0:(0:Int)<=(i:Int):=oM
     have hi3:(i:Int)<(cdn:Int):=oM
     clear hp hq hu1 hu2 hr1 hr2 g1 g2 y0 y1 y2 y3 y4 z0 z1 z2 z3 z4 I hs1 hs2 n0 n1;cases hn:(p.2.s.toList==q.2.s.toList);rotate_left
     ·cases hs:eH p.2.v q.2.v
      ·rw[hs] at K0;go_upto_region 11 with fail
       refine aL kR kR ?_
       repeat(go_big_quiet_step (with_reducible exact K0.out _))
       refine Oc ?_;rintro _ ⟨kw,rfl⟩;have J2:=qD (J.out.step kw.below);clear E0 E1 Y0 Y1 Y2 Y3 Y4 Z0 Z1 Z2 Z3 Z4 N0 N1 K0 hi0 hi3 q0 q1;generalize kw.val=w2 at*;go_wp2;go_ret;exact⟨by rw[HV2.out (HB.out (fun h=>vQ hs (by rw[h])))];rfl,J2.out.bel⟩
      ·rw[hs] at K0;have HF:Hid (p.2=q.2):=bf.ext' (nl.1 (by simpa using hn)) (vP hs);go_upto_region 11 with fail
       refine aL kR kR ?_
       repeat(go_big_quiet_step (with_reducible exact K0.out _))
       refine Oc ?_;rintro _ ⟨kw,rfl⟩;have J2:=qD (J.out.step kw.below);clear E0 E1 Y0 Y1 Y2 Y3 Y4 Z0 Z1 Z2 Z3 Z4 N0 N1 K0 hi0 hi3 q0 q1;generalize kw.val=w2 at*;go_wp2_with fail;go_roundw
       ·exact⟨i+1,by omega,by go_num,HA.out HF.out,J2.out⟩
       ·exact iO
     ·have HF:Hid (p.2≠q.2):=fun h=>by rw[h] at hn;simp at hn
      go_upto_region 11 with fail
      refine aL kR kR ?_
      repeat(go_big_quiet_step (with_reducible exact K0.out _))
      refine Oc ?_;rintro _ ⟨kw,rfl⟩;have J2:=qD (J.out.step kw.below);clear E0 E1 Y0 Y1 Y2 Y3 Y4 Z0 Z1 Z2 Z3 Z4 N0 N1 K0 hi0 hi3 q0 q1;generalize kw.val=w2 at*;go_wp2;go_ret;exact⟨by rw[HV2.out (HB.out HF.out)];rfl,J2.out.bel⟩
    ·have HD:Hid (d=y.d):=by
      have:=HQ.out;rw[OS (by have:=HM1.out;omega),OS (by have:=HM2.out;omega)] at this;exact this
     clear I;go_wp2;go_ret;exact⟨by rw[HV.out HE.out HD.out];rfl,J.out.bel⟩
def By(names:Bool):ByteArray->Bool:=if names then aM else jd
def tD(x:aC):Prop:=∀(names:Bool) (c:VC) (w:World),RW w c x->
 Calls prog 29 #[c.val,.bool names] w (Rt w (.bool (aQ (By names) x)))
theorem uQ{d:List bf}(h:∀j g,j<i->d[j]?=some g->g.s≠s):s∉(d.take i).map bf.s:=by
 intro hm;obtain⟨g,hg,rfl⟩:=PK.1 hm;obtain⟨j,hj⟩:=PP hg
 have hlt:j<i:=by
  have:=(OI.1 hj).1;simp at this;omega
 rw[QK,OW hlt] at hj;exact h j g hlt hj rfl
theorem EM{d:List bf}{g:bf}(hj:j<i)(h:d[j]?=some g):g.s∈(d.take i).map bf.s:=
 PD (OJ (i:=j) (by rw[QK,OW hj];exact h))
end
structure Ko(w:World)(c:VC)(g:Nat)(s:ByteArray)(wr:World):Prop where
 b0:aG wr w.heap.size 29 c.arr
 s0:wr.cell? ⟨g,0,none⟩=some (.string s)
 bel:Bl w wr
section
variable {g c size:Nat} {w w' wr:World} {x d:Int} {v:Value} {s:ByteArray}
theorem Ko.step{c:VC}(h:Ko w c g s wr)(hb:Bl wr w'):Ko w c g s w':=
 ⟨h.b0.step hb,(hb.cell (p:=⟨g,0,none⟩) (Oj wr _ h.s0)).trans h.s0,h.bel.Ml hb⟩
theorem fR(names:Bool)(x:aC)(c:VC)(w:World)(h:RW w c x)(ih:∀f∈x.d,tD f.v):
 Calls prog 89 #[c.val,.bool names] w (Rt w (.bool (dV (By names) x.d))):=by
 obtain⟨ck,cn,ct,LA,ln,lc,DA,dn,dc⟩:=c;obtain⟨fs,hfs,hfl⟩:=h.sd;simp only at hfl;have hz:=hfl.sz;unfold aF at hz;have HF:=qD hfl;have HN:=qD hfl.sr.ln;have HS:=qD hfs;have IH:=qD ih;obtain⟨nm,hnm⟩:∃nm,By names=nm:=⟨_,rfl⟩;have HNM:=qD hnm;rw[hnm];clear h hfs hfl ih hnm;go_enter func89,ntmps89;go_wp2_with fail
 go_loopw [5] (fun v5 wr=>∃i:Nat,i<=dn/\v5=.int .i64 i/\bz nm (x.d.take i)/\aG wr w.heap.size 29 (VC.arr ⟨ck,cn,ct,LA,ln,lc,DA,dn,dc⟩)/\Bl w wr) (fun v5 _=>dn-(intOf v5).toNat)
 ·exact⟨0,ON _,rfl,by rw[QU];exact bz.nil,aG.Mm rfl,(OG _ _).alloc (qL) _⟩
 case round=>
  obtain⟨i,hi,rfl,hP,hK,hB⟩:=hrel;have HP:=qD hP;have J:=qD hB;have q4:=hK.cell 4;simp at q4;by_cases hlt:i<dn
  ·obtain⟨p,hp⟩:∃p,fs[i]?=some p:=⟨_,OH (by have:=HN.out;omega)⟩;have hd:x.d[i]?=some p.2:=by rw[<-HS.out,OT,hp];rfl
   obtain⟨b,off,hA,_,hs,hu,hr⟩:=HF.out.Mw hp;subst hA;obtain⟨y0,y1,y2,y3,y4⟩:=hu.keep (hB.block b hu.lt);have n0:=(hB.cell (p:=⟨b,off+i*6,none⟩) hu.lt).trans hs;have hb:b<wr.heap.size:=by have:=hu.lt;have:=hB.size;omega
   have hA1:=(OG wr.heap.size wr).alloc (qL) (Obj.cells #[.string p.2.s,.int .i64 p.1.k,.int .i64 p.1.n,.string p.1.t,.slice p.1.LA p.1.ln p.1.lc,.slice p.1.DA p.1.dn p.1.dc] 77)
   have HI:Hid (Ko w ⟨ck,cn,ct,LA,ln,lc,some ⟨b,off,none⟩,dn,dc⟩ wr.heap.size p.2.s (wr.alloc (.cells #[.string p.2.s,.int .i64 p.1.k,.int .i64 p.1.n,.string p.1.t,.slice p.1.LA p.1.ln p.1.lc,.slice p.1.DA p.1.dn p.1.dc] 77))):=
    qD ⟨hK.step hA1,(aG.Mm (w:=wr) rfl).cell 0,hB.Ml hA1⟩
   have HR:=qD ((hr.step hB).step hA1);have HD:=qD hd;have HC:=qD (IH.out p.2 (OJ hd));clear hp hd hs hu hr hP hB hA1 hK;cases hnm:nm p.2.s
   ·have HV:=qD (dI (bz.NM HD.out hnm));have hnm':Hid (By names p.2.s=false):=by rw[Hid,HNM.out];exact hnm
    clear hnm;cases names
    all_goals
     go_wp2_with fail
     first|(with_reducible refine(iR _ _).mono ?_)|(with_reducible refine(uL _ _).mono ?_)
     rintro e w' ⟨rfl,rfl⟩
     first|rw[show aM p.2.s=false from hnm'.out]|rw[show jd p.2.s=false from hnm'.out]
     go_wp2;go_ret;exact⟨by rw[HV.out];rfl,HI.out.bel⟩
   have hnm':Hid (By names p.2.s=true):=by rw[Hid,HNM.out];exact hnm
   have HNm:=qD hnm;clear hnm;cases names
   all_goals
    go_wp2_with fail
    first|(with_reducible refine(iR _ _).mono ?_)|(with_reducible refine(uL _ _).mono ?_)
    rintro e w' ⟨rfl,rfl⟩
    first|rw[show aM p.2.s=true from hnm'.out]|rw[show jd p.2.s=true from hnm'.out]
    go_wp2_with fail;refine(HC.out _ p.1 _ HR.out).mono ?_;rintro e w2 ⟨rfl,hb2⟩;rw[HNM.out];have HI2:=qD (HI.out.step hb2);clear y0 y1 y2 y3 y4 n0 q4 hb2;cases hso:aQ nm p.2.v
    ·have HV:=qD (dI (bz.NJ HD.out (kL.1 hso)));go_wp2;go_ret;exact⟨by rw[HV.out];rfl,HI2.out.bel⟩
    ·have HSo:=qD (eE.1 hso);clear hso;go_wp2_with fail;clear HI HR J HC hnm';generalize wr.heap.size=gF at*
     go_loopw [7] (fun v7 wi=>∃j:Nat,j<=i/\v7=.int .i64 j/\(∀m g,m<j->x.d[m]?=some g->g.s≠p.2.s)/\Ko w ⟨ck,cn,ct,LA,ln,lc,some ⟨b,off,none⟩,dn,dc⟩ gF p.2.s wi) (fun v7 _=>i-(intOf v7).toNat)
     ·exact⟨0,ON _,rfl,fun m g h=>by omega,HI2.out⟩
     case round=>
      obtain⟨j,hj,rfl,hall,I⟩:=hrel;have HAll:=qD hall;have K:=qD I;clear hall;by_cases hjl:j<i
      ·obtain⟨q,hq⟩:∃q,fs[j]?=some q:=⟨_,OH (by have:=HN.out;omega)⟩;have hd2:x.d[j]?=some q.2:=by rw[<-HS.out,OT,hq];rfl
       obtain⟨b2,off2,hA2,_,hs2,hu2,_⟩:=HF.out.Mw hq;cases hA2;have n1:=(I.bel.cell (p:=⟨b,off+j*6,none⟩) hu2.lt).trans hs2;have q4:=I.b0.cell 4;have k0:=I.s0;simp at q4;have HD2:=qD hd2;have hj0:(0:Int)<=(j:Int):=oM
       have hj1:(j:Int)<(dn:Int):=oM
       clear hq hd2 hs2 hu2 I;cases hc:(q.2.s.toList==p.2.s.toList)
       ·have HA2:Hid (∀m g,m<j+1->x.d[m]?=some g->g.s≠p.2.s):=fun m g hm hg=>by
         by_cases e:m=j
         ·subst e;rw[HD2.out] at hg;cases hg;exact fun h=>by rw[h] at hc;simp at hc
         ·exact HAll.out m g oM hg
        go_upto_region 10 with fail
        go_quiet (fail)
        clear q4 k0 n1 hj0 hj1;go_wp2_with fail;go_roundw
        ·exact⟨j+1,by omega,by go_num,HA2.out,K.out.step (Below.drewN (OG _ _) _)⟩
        ·exact iO
       ·have HV:=qD (dI (nm:=nm) (bz.NU HD.out (by rw[<-show q.2.s=p.2.s from nl.1 (by simpa using hc)];exact EM hjl HD2.out)));go_upto_region 10 with fail
        go_quiet (fail)
        clear q4 k0 n1 hj0 hj1;go_wp2;go_ret;exact⟨by rw[HV.out];rfl,K.out.bel.drewN _⟩
      ·have HX:=qD (HP.out.next HD.out HNm.out (uQ (fun m g hm hg=>HAll.out m g oM hg)) HSo.out);clear I;go_wp2_with fail;go_roundw
       ·exact⟨i+1,by omega,by go_num,HX.out,K.out.b0,K.out.bel⟩
       ·exact iO
  ·have HV:Hid (dV nm x.d=true):=by
    have:=HP.out;rw[OS (by rw[<-HS.out,Oe,<-HN.out];omega)] at this;exact iJ this
   clear hP hK hB;go_wp2;go_ret;exact⟨by rw[HV.out];rfl,J.out⟩
def As(x:aC)(w:World)(e:Ending)(w':World):Prop:=
 ∃(A:Option Addr) (n c:Nat) (ps:List PV),e=.returned (.slice A n c)/\ps.map Prod.snd=x.parts/\SL (fun _=>True) w' A n c ps/\Bl w w'
end
structure jg(w:World)(c:VC)(ps:List PV)(i:Nat)(v:Value)(wr:World):Prop where
 b0:aG wr w.heap.size 29 c.arr
 own:wr.ownsRow (w.heap.size+1) 29 5 v i (aN bD (ps.take i))
 bel:Bl w wr
section
variable {n o i c size:Nat} {w w' wr:World} {x y most:Int} {l:List ByteArray} {v v':Value}
theorem jg.next{c:VC}{ps:List PV}{o:Obj}{p:PV}(h:jg w c ps i v wr)(hp:ps[i]?=some p)(hg:(wr.alloc o).grownBy w' v.ownBlock)(ho:w'.ownsRow (w.heap.size+1) 29 5 v' (i+1) (aN bD (ps.take i)++bD p)):jg w c ps (i+1) v' w':=by
  have n1:v.ownBlock≠some w.heap.size:=gr h.own oM;refine⟨(h.b0.alloc o).grown hg (fun e=>n1 e.symm),by rw[take_snoc' hp,cS];exact ho,?_⟩;exact(h.bel.alloc h.bel.size o).grown hg (by have:=h.bel.size;show _<=(wr.alloc o).heap.size;simp;omega) (fun q hq=>by have:=ak h.own q hq;omega)
theorem jg.done{c:VC}{ps:List PV}{x:aC}(h:jg w c ps n v wr)(hn:ps.length=n)(hz:n*80<=aF)(hx:ps.map Prod.snd=x.parts)(hr:∀p∈ps,RW w p.1 p.2):As x w (.returned v) wr:=by
 have ho:=h.own;rw[OS oM] at ho;obtain⟨A,c',rfl,hs⟩:=SL.Mq (F:=fun _=>True) ho hn hz (fun _ _=>trivial) (fun p hp=>(hr p hp).step h.bel);exact⟨A,n,c',ps,rfl,hx,hs,h.bel⟩
theorem qQ(x:aC)(c:VC)(w:World)(h:RW w c x):Calls prog 145 #[c.val] w (As x w):=by
 obtain⟨i0,hi0,hz0,hz1,hz2⟩:=Pb dB;obtain⟨ck,cn,ct,LA,ln,lc,DA,dn,dc⟩:=c;have hk:ck=x.k:=h.open.k
 have B0:Hid (jg w ⟨ck,cn,ct,LA,ln,lc,DA,dn,dc⟩ [] 0 (.slice none 0 0) (w.alloc (.cells #[.int .i64 ck,.int .i64 cn,.string ct,.slice LA ln lc,.slice DA dn dc] 29))):=
  qD ⟨aG.Mm rfl,bP _ _ _ _,(OG _ _).alloc (qL) _⟩
 cases h6:(ck==6)
 ·cases h5:(ck==5)
  ·have HP:Hid (x.parts=[]):=by
    simp at h6 h5;simp[Hid,aC.parts,<-hk,h6,h5]
   clear h hk;go_enter func145,ntmps145;go_wp2;go_ret;exact jg.done B0.out rfl dE HP.out.symm (fun p hp=>by simp at hp)
  ·have HP:Hid (x.parts=x.d.map bf.v):=by
    simp at h5;simp[Hid,aC.parts,<-hk,h5]
   obtain⟨fs,hps,hsl⟩:=h.sd;simp only at hsl;obtain⟨ps,hpe⟩:∃ps:List PV,ps=fs.map fun p=>(p.1,p.2.v):=⟨_,rfl⟩;have HQE:=qD hpe
   have HPR:Hid (∀p∈ps,RW w p.1 p.2):=by
    rw[Hid,hpe];intro p hp;obtain⟨q,hq,rfl⟩:=PK.1 hp;exact hsl.rv q hq
   have hz:=hsl.sz;unfold aF at hz;have HL:=qD hsl;have HN:Hid (dn=ps.length):=by rw[Hid,hpe,Oe];exact hsl.sr.ln
   have HX:Hid (ps.map Prod.snd=x.parts):=by rw[Hid,HP.out,<-hps,hpe];simp
   have B1:Hid (jg w ⟨ck,cn,ct,LA,ln,lc,DA,dn,dc⟩ ps 0 (.slice none 0 0) (w.alloc (.cells #[.int .i64 ck,.int .i64 cn,.string ct,.slice LA ln lc,.slice DA dn dc] 29))):=qD ⟨B0.out.b0,B0.out.own,B0.out.bel⟩;clear h hsl hps hk B0 hpe;go_enter func145,ntmps145;go_wp2_with fail
   go_loopw [3,5] (fun v3 v5 wr=>∃i:Nat,i<=dn/\v5=.int .i64 i/\jg w ⟨ck,cn,ct,LA,ln,lc,DA,dn,dc⟩ ps i v3 wr) (fun _ v5 _=>dn-(intOf v5).toNat)
   ·exact⟨0,ON _,rfl,B1.out⟩
   case round=>
    obtain⟨i,hi,rfl,I⟩:=hrel;have J:=qD I;have q0:=I.b0.cell 0;have q4:=I.b0.cell 4;simp at q0 q4;by_cases hlt:i<dn
    ·obtain⟨f,hf⟩:∃f,fs[i]?=some f:=⟨_,OH (by have:=HL.out.sr.ln;omega)⟩;obtain⟨b,off,rfl,_,_,hu,_⟩:=HL.out.Mw hf;have hp:ps[i]?=some (f.1,f.2.v):=by rw[HQE.out,OT,hf];rfl
     obtain⟨y0,y1,y2,y3,y4⟩:=hu.keep (I.bel.block b hu.lt);have hb:b<wr.heap.size:=by have:=hu.lt;have:=I.bel.size;omega
     have HQ:=qD hp;clear hp hu I hf;have hsz:=J.out.bel.size;go_wp2_with (at_builtin;refine wpList_append_own _ rfl _ _ 26 rfl (w.heap.size+1) 29 i0 VC.zero.val 5 80 PM hi0 hz0 hz1 hz2 rfl dE u3 i (aN bD (ps.take i)) rfl (J.out.own.alloc _) ⟨wr.heap.size,0,none⟩ 1 1 (bD (f.1,f.2.v)) rfl rfl ?c1 ?c2 ?c3 ?c4 ?c5 ?_)
     case c1=>exact ag _ _ _
     case c2=>exact cq _
     case c3=>unfold maxLen;omega
     case c4=>omega
     case c5=>simp;have:=J.out.b0.lt;omega
     intro v' w2 hown hg _;have HI:=qD (J.out.next HQ.out hg hown);clear hown hg q0 q4 y0 y1 y2 y3 y4;go_wp2_with fail;go_roundw
     ·exact⟨i+1,by omega,by go_num,HI.out⟩
     ·exact iO
    ·obtain rfl:i=dn:=oM
     clear I;go_wp2;go_ret;exact jg.done J.out HN.out.symm (by have:=HL.out.sz;unfold aF at*;omega) HX.out HPR.out
 ·have HP:Hid (x.parts=x.l):=by
   simp at h6;simp[Hid,aC.parts,<-hk,h6]
  have h5:(ck==5)=false:=by simp at h6 ⊢;omega
  obtain⟨ps,hps,hsl⟩:=h.sl;simp only at hsl;have hz:=hsl.sz;unfold aF at hz;have HL:=qD hsl;have HN:=qD hsl.sr.ln;have HX:Hid (ps.map Prod.snd=x.parts):=by rw[Hid,HP.out];exact hps
  have B1:Hid (jg w ⟨ck,cn,ct,LA,ln,lc,DA,dn,dc⟩ ps 0 (.slice none 0 0) (w.alloc (.cells #[.int .i64 ck,.int .i64 cn,.string ct,.slice LA ln lc,.slice DA dn dc] 29))):=qD ⟨B0.out.b0,B0.out.own,B0.out.bel⟩;clear h hsl hps hk B0;go_enter func145,ntmps145;go_wp2_with fail
  go_loopw [3,4] (fun v3 v4 wr=>∃i:Nat,i<=ln/\v4=.int .i64 i/\jg w ⟨ck,cn,ct,LA,ln,lc,DA,dn,dc⟩ ps i v3 wr) (fun _ v4 _=>ln-(intOf v4).toNat)
  ·exact⟨0,ON _,rfl,B1.out⟩
  case round=>
   obtain⟨i,hi,rfl,I⟩:=hrel;have J:=qD I;have q0:=I.b0.cell 0;have q3:=I.b0.cell 3;simp at q0 q3;by_cases hlt:i<ln
   ·obtain⟨p,hp⟩:∃p,ps[i]?=some p:=⟨_,OH (by have:=HN.out;omega)⟩;obtain⟨b,off,rfl,_,hu,_⟩:=HL.out.Mw hp;obtain⟨y0,y1,y2,y3,y4⟩:=hu.keep (I.bel.block b hu.lt);have hb:b<wr.heap.size:=by have:=hu.lt;have:=I.bel.size;omega
    have HQ:=qD hp;clear hp hu I;have hsz:=J.out.bel.size;go_wp2_with (at_builtin;refine wpList_append_own _ rfl _ _ 26 rfl (w.heap.size+1) 29 i0 VC.zero.val 5 80 PM hi0 hz0 hz1 hz2 rfl dE u3 i (aN bD (ps.take i)) rfl (J.out.own.alloc _) ⟨wr.heap.size,0,none⟩ 1 1 (bD p) rfl rfl ?c1 ?c2 ?c3 ?c4 ?c5 ?_)
    case c1=>exact ag _ _ _
    case c2=>exact cq p
    case c3=>unfold maxLen;omega
    case c4=>omega
    case c5=>simp;have:=J.out.b0.lt;omega
    intro v' w2 hown hg _;have HI:=qD (J.out.next HQ.out hg hown);clear hown hg q0 q3 y0 y1 y2 y3 y4;go_wp2_with fail;go_roundw
    ·exact⟨i+1,by omega,by go_num,HI.out⟩
    ·exact iO
   ·obtain rfl:i=ln:=oM
    clear I;go_wp2;go_ret;exact jg.done J.out HN.out.symm HL.out.sz HX.out HL.out.rv
def mj(l:List aC)(most:Int):Int:=min (1+(bE l:Int)) most
def oe(l:List aC)(most:Int):Int:=min (ao l:Int) (most-1)
theorem Bz{l:List aC}{y:aC}(hy:l[i]?=some y)(h:mj (l.take i) most<most):
 mj (l.take i) most+bV y (most-mj (l.take i) most)=mj (l.take (i+1)) most:=by
 have h1:=kK hy;unfold mj bV at*;omega
theorem vS{x:aC}(h:x.parts.length<=i\/most<=mj (x.parts.take i) most):mj (x.parts.take i) most=bV x most:=by
 have h1:=iY x.parts i;have h2:=dh x;rcases h with h|h
 ·rw[OS h];unfold mj bV;omega
 ·unfold mj bV at*;omega
theorem CC{l:List aC}{y:aC}(hy:l[i]?=some y):
 max (oe (l.take i) most) (bH y (most-1))=oe (l.take (i+1)) most:=by
 have h1:=nX hy;unfold oe bH at*;omega
theorem vT{x:aC}(h:x.parts.length<=i):oe (x.parts.take i) most+1=bH x most:=by
 have h2:=eD x;rw[OS h];unfold oe bH;omega
def EN(x:aC):Prop:=∀(c:VC) (most:Int) (w:World),RW w c x->1<=most->most<=1025->
 Calls prog 87 #[c.val,.int .i64 most] w (Rt w (.int .i64 (bV x most)))
def CF(x:aC):Prop:=∀(c:VC) (most:Int) (w:World),RW w c x->1<=most->most<=17->
 Calls prog 86 #[c.val,.int .i64 most] w (Rt w (.int .i64 (bH x most)))
theorem yg:∀x,EN x:=by
 refine aC.NZ fun x ih=>?_;intro c most w h h1 h2;have H:=qD h;have IH:=qD ih;clear h ih;go_enter func87,ntmps87;go_wp2_with fail;refine(qQ x c _ (H.out.alloc _)).mono ?_;rintro e w1 ⟨A,n,cc,ps,rfl,hx,hsl,hb⟩;have HB:=qD (((OG _ _).alloc (qL) _).Ml hb);have HX:=qD hx;have HL:=qD hsl;have HN:=qD hsl.sr.ln;have hz:=hsl.sz;unfold aF at hz;clear hx hsl hb;go_wp2_with fail
 go_loopw [5,7] (fun v5 v7 wr=>∃i:Nat,i<=n/\v7=.int .i64 i/\v5=.int .i64 (mj (x.parts.take i) most)/\Bl w1 wr) (fun _ v7 _=>n-(intOf v7).toNat)
 ·exact⟨0,ON _,rfl,by congr 1;unfold mj;simp[bE];omega,OG _ _⟩
 case round=>
  obtain⟨i,hi,rfl,rfl,I⟩:=hrel;have J:=qD I;have r:1<=mj (x.parts.take i) most/\mj (x.parts.take i) most<=most:=by unfold mj;omega
  obtain⟨N,hN⟩:∃N,mj (x.parts.take i) most=N:=⟨_,rfl⟩;rw[hN] at r ⊢;have HNN:=qD hN;clear hN;by_cases hlt:i<n
  ·by_cases hm:N<most
   ·obtain⟨p,hp⟩:∃p,ps[i]?=some p:=⟨_,OH (by have:=HN.out;omega)⟩;obtain⟨b,off,rfl,_,hu,hr⟩:=HL.out.Mw hp;obtain⟨y0,y1,y2,y3,y4⟩:=hu.keep (I.block b hu.lt);have hy:x.parts[i]?=some p.2:=by rw[<-HX.out,OT,hp];rfl
    have HR:=qD (hr.step I);have HC:=qD (IH.out p.2 (OJ hy))
    have r2:1<=bV p.2 (most-N)/\bV p.2 (most-N)<=most-N:=by
     have:=fB p.2;unfold bV;omega
    have HV:Hid (N+bV p.2 (most-N)=mj (x.parts.take (i+1)) most):=by
     rw[Hid,<-HNN.out];exact Bz hy (by rw[HNN.out];exact hm)
    clear hp hu hr hy I;go_wp2_with fail;refine(HC.out p.1 (most-N) _ HR.out oM oM).mono ?_;rintro e w2 ⟨rfl,hb2⟩;have J2:=qD (J.out.Ml hb2);clear y0 y1 y2 y3 y4 hb2;go_wp2_with fail;go_roundw
    ·exact⟨i+1,by omega,by go_num,by rw[HV.out],J2.out⟩
    ·exact iO
   ·have HV:Hid (N=bV x most):=by rw[Hid,<-HNN.out];exact vS (.inr (by rw[HNN.out];omega))
    go_wp2;go_ret;exact⟨by rw[<-HV.out];rfl,HB.out.Ml J.out⟩
  ·have HV:Hid (N=bV x most):=by rw[Hid,<-HNN.out];exact vS (.inl (by rw[<-HX.out,Oe,<-HN.out];omega))
   go_wp2;go_ret;exact⟨by rw[<-HV.out];rfl,HB.out.Ml J.out⟩
theorem vU:∀x,CF x:=by
 refine aC.NZ fun x ih=>?_;intro c most w h h1 h2;have H:=qD h;have IH:=qD ih;clear h ih;go_enter func86,ntmps86;go_wp2_with fail;refine(qQ x c _ (H.out.alloc _)).mono ?_;rintro e w1 ⟨A,n,cc,ps,rfl,hx,hsl,hb⟩;have HB:=qD (((OG _ _).alloc (qL) _).Ml hb);have HX:=qD hx;have HL:=qD hsl;have HN:=qD hsl.sr.ln;have hz:=hsl.sz;unfold aF at hz;clear hx hsl hb;by_cases hm:most<2
 ·have HV:Hid (bH x most=1):=by
   have:=mw x;unfold Hid bH;omega
  go_wp2;go_ret;exact⟨by rw[HV.out];rfl,HB.out⟩
 ·cases hn0:((n:Int)==0)
  ·go_wp2_with fail
   go_loopw [6,7] (fun v6 v7 wr=>∃i:Nat,i<=n/\v7=.int .i64 i/\v6=.int .i64 (oe (x.parts.take i) most)/\Bl w1 wr) (fun _ v7 _=>n-(intOf v7).toNat)
   ·exact⟨0,ON _,rfl,by congr 1;unfold oe;simp[ao];omega,OG _ _⟩
   case round=>
    obtain⟨i,hi,rfl,rfl,I⟩:=hrel;have J:=qD I;have r:0<=oe (x.parts.take i) most/\oe (x.parts.take i) most<=17:=by unfold oe;omega
    obtain⟨N,hN⟩:∃N,oe (x.parts.take i) most=N:=⟨_,rfl⟩;rw[hN] at r ⊢;have HNN:=qD hN;clear hN;by_cases hlt:i<n
    ·obtain⟨p,hp⟩:∃p,ps[i]?=some p:=⟨_,OH (by have:=HN.out;omega)⟩;obtain⟨b,off,rfl,_,hu,hr⟩:=HL.out.Mw hp;obtain⟨y0,y1,y2,y3,y4⟩:=hu.keep (I.block b hu.lt);have hy:x.parts[i]?=some p.2:=by rw[<-HX.out,OT,hp];rfl
     have HR:=qD (hr.step I);have HC:=qD (IH.out p.2 (OJ hy))
     have HV:Hid (max N (bH p.2 (most-1))=oe (x.parts.take (i+1)) most):=by
      rw[Hid,<-HNN.out];exact CC hy
     clear hp hu hr hy I;go_wp2_with fail;refine(HC.out p.1 (most-1) _ HR.out oM oM).mono ?_;rintro e w2 ⟨rfl,hb2⟩;have J2:=qD (J.out.Ml hb2);clear y0 y1 y2 y3 y4 hb2;by_cases hle:N<bH p.2 (most-1)
     all_goals
      go_wp2_with fail;go_roundw
      ·exact⟨i+1,by omega,by go_num,by rw[<-HV.out]<;>congr 1<;>omega,J2.out⟩
      ·exact iO
    ·have HV:Hid (N+1=bH x most):=by rw[Hid,<-HNN.out];exact vT (by rw[<-HX.out,Oe,<-HN.out];omega)
     go_wp2;go_ret;exact⟨by rw[<-HV.out];rfl,HB.out.Ml J.out⟩
  ·have HV:Hid (1=bH x most):=by
    have:=vT (x:=x) (i:=0) (most:=most) (by rw[<-HX.out,Oe,<-HN.out];simp at hn0;omega);unfold Hid;rw[<-this];unfold oe;simp[ao];omega
   go_wp2;go_ret;exact⟨by rw[<-HV.out];rfl,HB.out⟩
theorem vV(x:aC)(c:VC)(w:World)(h:RW w c x):Calls prog 28 #[c.val] w (Rt w (.int .i64 (pF x))):=by
 have H:=qD h;clear h;go_enter func28,ntmps28;go_wp2_with fail;refine(yg x c 1025 _ (H.out.alloc _) oM oM).mono ?_;rintro e w1 ⟨rfl,hb⟩;go_wp2;go_ret;exact⟨rfl,((OG _ _).alloc (qL) _).Ml hb⟩
theorem vW(x:aC)(c:VC)(w:World)(h:RW w c x):Calls prog 27 #[c.val] w (Rt w (.int .i64 (pG x))):=by
 have H:=qD h;clear h;go_enter func27,ntmps27;go_wp2_with fail;refine(vU x c 17 _ (H.out.alloc _) oM oM).mono ?_;rintro e w1 ⟨rfl,hb⟩;go_wp2;go_ret;exact⟨rfl,((OG _ _).alloc (qL) _).Ml hb⟩
end
end Go.Proofs.YtgfoliedmhgpnaaGreatDoor
