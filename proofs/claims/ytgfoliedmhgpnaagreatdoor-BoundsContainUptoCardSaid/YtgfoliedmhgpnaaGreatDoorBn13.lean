/- A part of the proof. -/
import Derived.Test.YtgfoliedmhgpnaaGreatDoorBn6
import Derived.Test.YtgfoliedmhgpnaaGreatDoorBn3
import Derived.Laws.Strings
import Derived.WideShapes
set_option maxRecDepth 100000
set_option maxHeartbeats 16000000
set_option linter.unusedSimpArgs false
open Go.Proofs.Tryz
open ByteArray (empty)
namespace Go.Proofs.YtgfoliedmhgpnaaGreatDoor
open Go.RowKit
section
variable {l:List ByteArray} {b k i g n j m:Nat} {a x y d:Int} {s:ByteArray} {w w':World} {e t:TypeId} {v:Value}
theorem qj(s:ByteArray)(w:World):Calls prog 147 #[.string s] w fun e w'=>e=.returned (.bool (ij s))/\w'=w:=by
 by_cases h1:s.size<1
 ·have HV:Hid (ij s=false):=by unfold Hid ij;rw[KQ (by omega)];rfl
  go_enter func147,ntmps147;go_wp2_with fail;go_ret;exact⟨by rw[HV.out];rfl,rfl⟩
 by_cases h2:128<s.size
 ·have HV:Hid (ij s=false):=by unfold Hid ij;rw[Jy (by omega),KQ (by omega)];rfl
  go_enter func147,ntmps147;go_wp2_with fail;go_ret;exact⟨by rw[HV.out];rfl,rfl⟩
 have HA:Hid (ij s=s.data.toList.all FP):=by
  unfold Hid ij;rw[Jy (by omega),Jy (by omega)];simp
 go_enter func147,ntmps147;go_wp2_with fail
 go_loopw [3] (fun v wr=>∃i:Nat,i<=s.size/\v=.int .i64 i/\(s.data.toList.take i).all FP=true/\wr=w) (fun v _=>s.size-(intOf v).toNat)
 ·exact⟨0,KD _,rfl,mM,rfl⟩
 case round=>
  obtain⟨i,hi,rfl,ha,rfl⟩:=hrel;have HL:=qD ha;clear ha;by_cases hlt:i<s.size
  ·have hx:=s[i].toNat_lt;by_cases hb:(s[i].toNat:Int)<32
   ·have HV:Hid (ij s=false):=by rw[Hid,HA.out];exact fJ hlt (by unfold FP;rw[KQ (by omega)];rfl)
    go_wp2_with fail;go_ret;exact⟨by rw[HV.out];rfl,rfl⟩
   by_cases hc:126<(s[i].toNat:Int)
   ·have HV:Hid (ij s=false):=by rw[Hid,HA.out];exact fJ hlt (by unfold FP;rw[Jy (by omega),KQ (by omega)];rfl)
    go_wp2_with fail;go_ret;exact⟨by rw[HV.out];rfl,rfl⟩
   have HN:Hid ((s.data.toList.take (i+1)).all FP=true):=mL hlt HL.out (by unfold FP;rw[Jy (by omega),Jy (by omega)];rfl);go_wp2_with fail;go_roundw
   ·exact⟨i+1,by omega,by go_num,HN.out,trivial⟩
   ·simp[intOf];omega
  ·have HV:Hid (ij s=true):=by rw[Hid,HA.out];exact oU (by omega) HL.out
   go_wp2_with fail;go_ret;exact⟨by rw[HV.out];rfl,rfl⟩
noncomputable def dw(x y:aC):Bool:=@decide (x=y) (Classical.propDecidable _)
theorem vm{x y:aC}(h:x=y):dw x y=true:=by unfold dw;exact @Jy _ (Classical.propDecidable _) h
theorem eI{x y:aC}(h:x≠y):dw x y=false:=by unfold dw;exact @KQ _ (Classical.propDecidable _) h
theorem te{x y:aC}(h:dw x y=true):x=y:=by unfold dw at h;exact @Lg _ (Classical.propDecidable _) h
theorem tf{x y:aC}(h:dw x y=false):x≠y:=by unfold dw at h;exact @of_decide_eq_false _ (Classical.propDecidable _) h
theorem aC.ext'{x y:aC}(h1:x.k=y.k)(h2:x.n=y.n)(h3:x.t=y.t)(h4:x.l=y.l)(h5:x.d=y.d):x=y:=by
 cases x;cases y;simp only[aC.k,aC.n,aC.t,aC.l,aC.d] at*;subst h1 h2 h3 h4 h5;rfl
theorem cF.ext'{x y:cF}(h1:x.s=y.s)(h2:x.v=y.v):x=y:=by
 cases x;cases y;simp only[cF.s,cF.v] at*;subst h1 h2;rfl
theorem jr{a b:ByteArray}:a.toList=b.toList↔a=b:=by
 constructor
 ·intro h;rw[MF,MF] at h;exact Mh h
 ·rintro rfl;rfl
theorem mJ{α:Type}{l m:List α}{i:Nat}{x y:α}(h:l.take i=m.take i)(hx:l[i]?=some x)(hy:m[i]?=some y)(e:x=y):l.take (i+1)=m.take (i+1):=by
 rw[take_snoc' hx,take_snoc' hy,h,e]
theorem tg{α:Type}{l m:List α}{i:Nat}{x y:α}(hx:l[i]?=some x)(hy:m[i]?=some y)(e:x≠y):l≠m:=by
 rintro rfl;rw[hx] at hy;exact e (by simpa using hy)
def Dd(x:aC):Prop:=∀(y:aC) (c d:VC) (w:World),RW w c x->RW w d y->
 Calls prog 248 #[c.val,d.val] w fun e w'=>e=.returned (.bool (dw x y))/\Below w.heap.size w w'
theorem qk:∀x,Dd x:=by
 intro x
 induction x using aC.ind with
 | h k n t l d ihl ihd=>
 intro y c e w hx hy;obtain⟨ck,cn,ct,cLA,cln,clc,cDA,cdn,cdc⟩:=c;obtain⟨ek,en,et,eLA,eln,elc,eDA,edn,edc⟩:=e;have hk:ck=k:=hx.open.k;have hn:cn=n:=hx.open.n;have ht:ct=t:=hx.open.t;subst hk hn ht;have hk2:ek=y.k:=hy.open.k;have hn2:en=y.n:=hy.open.n;have ht2:et=y.t:=hy.open.t;have hl1:cln=l.length:=hx.open.ln;have hl2:eln=y.l.length:=hy.open.ln;have hd1:cdn=d.length:=hx.open.dn;have hd2:edn=y.d.length:=hy.open.dn
 have I0:Hid (jc w ⟨ck,cn,ct,cLA,cln,clc,cDA,cdn,cdc⟩ ⟨ek,en,et,eLA,eln,elc,eDA,edn,edc⟩ ((w.alloc (.cells #[.int .i64 ck,.int .i64 cn,.string ct,.slice cLA cln clc,.slice cDA cdn cdc] 29)).alloc (.cells #[.int .i64 ek,.int .i64 en,.string et,.slice eLA eln elc,.slice eDA edn edc] 29))):=
  qD ⟨(aG.Ii rfl).alloc _,aG.Ii (by simp),((Ju _ _).alloc (qL) _).alloc (by simp) _⟩
 cases h1:(ck != ek);rotate_left
 ·have HV:Hid (dw (.mk ck cn ct l d) y=false):=eI (by rintro rfl;simp[hk2,aC.k] at h1);clear hx hy ihl ihd hk2 hn2 ht2 hl1 hl2 hd1 hd2;go_enter Na,NO;go_wp2_with fail;go_ret;exact⟨by rw[HV.out];rfl,I0.out.bel⟩
 cases h2:(cn != en);rotate_left
 ·have HV:Hid (dw (.mk ck cn ct l d) y=false):=eI (by rintro rfl;simp[hn2,aC.n] at h2);clear hx hy ihl ihd hk2 hn2 ht2 hl1 hl2 hd1 hd2;go_enter Na,NO;go_wp2_with fail;go_ret;exact⟨by rw[HV.out];rfl,I0.out.bel⟩
 cases h3:(ct.toList==et.toList)
 ·have HV:Hid (dw (.mk ck cn ct l d) y=false):=eI (by rintro rfl;simp[ht2,aC.t] at h3);clear hx hy ihl ihd hk2 hn2 ht2 hl1 hl2 hd1 hd2;go_enter Na,NO;go_wp2_with fail;go_ret;exact⟨by rw[HV.out];rfl,I0.out.bel⟩
 cases h4:((cln:Int) != (eln:Int));rotate_left
 ·have HV:Hid (dw (.mk ck cn ct l d) y=false):=eI (by rintro rfl;simp[hl1,hl2,aC.l] at h4);clear hx hy ihl ihd hk2 hn2 ht2 hl1 hl2 hd1 hd2;go_enter Na,NO;go_wp2_with fail;go_ret;exact⟨by rw[HV.out];rfl,I0.out.bel⟩
 cases h5:((cdn:Int) != (edn:Int));rotate_left
 ·have HV:Hid (dw (.mk ck cn ct l d) y=false):=eI (by rintro rfl;simp[hd1,hd2,aC.d] at h5);clear hx hy ihl ihd hk2 hn2 ht2 hl1 hl2 hd1 hd2;go_enter Na,NO;go_wp2_with fail;go_ret;exact⟨by rw[HV.out];rfl,I0.out.bel⟩
 have e1:ck=ek:=by simpa using h1
 have e2:cn=en:=by simpa using h2
 have e3:ct=et:=jr.1 (by simpa using h3);have e4:cln=eln:=by simp at h4;omega
 have e5:cdn=edn:=by simp at h5;omega
 subst e1 e2 e3 e4 e5;have HV:Hid (l=y.l->d=y.d->dw (.mk ck cn ct l d) y=true):=fun a b=>vm (aC.ext' hk2 hn2 ht2 a b);have HV1:Hid (l≠y.l->dw (.mk ck cn ct l d) y=false):=fun a=>eI (by rintro rfl;exact a rfl);have HV2:Hid (d≠y.d->dw (.mk ck cn ct l d) y=false):=fun a=>eI (by rintro rfl;exact a rfl);obtain⟨ps,hps,hsl⟩:=hx.sl;obtain⟨qs,hqs,hql⟩:=hy.sl;obtain⟨fs,hfs,hfl⟩:=hx.sd;obtain⟨gs,hgs,hgl⟩:=hy.sd;simp only at hsl hql hfl hgl;have hz1:=hsl.sz;have hz2:=hfl.sz;unfold aH at hz1 hz2;have P1:=qD hsl;have P2:=qD hql;have Q1:=qD hfl;have Q2:=qD hgl;have HN1:=qD hl1;have HN2:=qD hl2;have HM1:=qD hd1;have HM2:=qD hd2;have HS1:Hid (ps.map Prod.snd=l):=hps;have HS2:Hid (qs.map Prod.snd=y.l):=hqs;have HT1:Hid (fs.map Prod.snd=d):=hfs;have HT2:Hid (gs.map Prod.snd=y.d):=hgs;have IH:=qD ihl;have ID:=qD ihd;clear hx hy ihl ihd hk2 hn2 ht2 hsl hql hps hqs hfl hgl hfs hgs hl1 hl2 hd1 hd2 h1 h2 h3 h4 h5;go_enter Na,NO;go_wp2_with fail
 go_loopw [5] (fun v5 wr=>∃i:Nat,i<=cln/\v5=.int .i64 i/\l.take i=y.l.take i/\jc w ⟨ck,cn,ct,cLA,cln,clc,cDA,cdn,cdc⟩ ⟨ck,cn,ct,eLA,cln,elc,eDA,cdn,edc⟩ wr) (fun v5 _=>cln-(intOf v5).toNat)
 ·exact⟨0,KD _,rfl,rfl,I0.out⟩
 case round=>
  obtain⟨i,hi1,rfl,hq,I⟩:=hrel;have HQ:=qD hq;have J:=qD I;have q0:=I.b0.cell 3;have q1:=I.b1.cell 3;simp at q0 q1;clear hq;by_cases hlt:i<cln
  ·obtain⟨p,hp⟩:∃p,ps[i]?=some p:=⟨_,Jv (by have:=P1.out.sr.ln;omega)⟩;obtain⟨q,hq⟩:∃q,qs[i]?=some q:=⟨_,Jv (by have:=P2.out.sr.ln;omega)⟩;obtain⟨b1,o1,rfl,_,hu1,hr1⟩:=P1.out.Iq hp;obtain⟨b2,o2,rfl,_,hu2,hr2⟩:=P2.out.Iq hq;have g1:l[i]?=some p.2:=by rw[<-HS1.out,KP,hp];rfl
   have g2:y.l[i]?=some q.2:=by rw[<-HS2.out,KP,hq];rfl
   have HA:Hid (dw p.2 q.2=true->l.take (i+1)=y.l.take (i+1)):=fun h=>mJ HQ.out g1 g2 (te h);have HB:Hid (dw p.2 q.2=false->l≠y.l):=fun h=>tg g1 g2 (tf h);obtain⟨y0,y1,y2,y3,y4⟩:=hu1.keep (I.bel.block b1 hu1.lt);obtain⟨z0,z1,z2,z3,z4⟩:=hu2.keep (I.bel.block b2 hu2.lt);have E0:∀k:BW wr,k.val.cell? ⟨w.heap.size,3,none⟩=some (.slice (some ⟨b1,o1,none⟩) cln clc):=fun k=>k.cell (J.out.b0.cell 3);have E1:∀k:BW wr,k.val.cell? ⟨w.heap.size+1,3,none⟩=some (.slice (some ⟨b2,o2,none⟩) cln elc):=fun k=>k.cell (J.out.b1.cell 3);have Y0:∀k:BW wr,k.val.cell? ⟨b1,o1+i*5,none⟩=some (.int .i64 p.1.k):=fun k=>k.cell y0;have Y1:∀k:BW wr,k.val.cell? ⟨b1,o1+i*5+1,none⟩=some (.int .i64 p.1.n):=fun k=>k.cell y1;have Y2:∀k:BW wr,k.val.cell? ⟨b1,o1+i*5+2,none⟩=some (.string p.1.t):=fun k=>k.cell y2;have Y3:∀k:BW wr,k.val.cell? ⟨b1,o1+i*5+3,none⟩=some (.slice p.1.LA p.1.ln p.1.lc):=fun k=>k.cell y3;have Y4:∀k:BW wr,k.val.cell? ⟨b1,o1+i*5+4,none⟩=some (.slice p.1.DA p.1.dn p.1.dc):=fun k=>k.cell y4;have Z0:∀k:BW wr,k.val.cell? ⟨b2,o2+i*5,none⟩=some (.int .i64 q.1.k):=fun k=>k.cell z0;have Z1:∀k:BW wr,k.val.cell? ⟨b2,o2+i*5+1,none⟩=some (.int .i64 q.1.n):=fun k=>k.cell z1;have Z2:∀k:BW wr,k.val.cell? ⟨b2,o2+i*5+2,none⟩=some (.string q.1.t):=fun k=>k.cell z2;have Z3:∀k:BW wr,k.val.cell? ⟨b2,o2+i*5+3,none⟩=some (.slice q.1.LA q.1.ln q.1.lc):=fun k=>k.cell z3;have Z4:∀k:BW wr,k.val.cell? ⟨b2,o2+i*5+4,none⟩=some (.slice q.1.DA q.1.dn q.1.dc):=fun k=>k.cell z4
   have K0:Hid (∀k:BW wr,Calls prog 248 #[p.1.val,q.1.val] k.val fun e w''=>e=.returned (.bool (dw p.2 q.2))/\∃k:BW wr,w''=k.val):=fun k=>
    Calls.bw (IH.out p.2 (Jx g1) q.2 p.1 q.1 k.val ((hr1.step I.bel).step k.below) ((hr2.step I.bel).step k.below))
   have hi0:(0:Int)<=(i:Int):=by omega
   have hi3:(i:Int)<(cln:Int):=by omega
   clear hp hq hu1 hu2 hr1 hr2 g1 g2 y0 y1 y2 y3 y4 z0 z1 z2 z3 z4 I;cases hs:dw p.2 q.2
   ·rw[hs] at K0;go_upto_region 6 with fail
    refine aM (by kernel_rfl) (by kernel_rfl) ?_
    repeat(go_big_quiet_step (with_reducible exact K0.out _))
    refine Kd ?_;rintro _ ⟨kw,rfl⟩;have J2:=qD (J.out.step kw.below);clear E0 E1 Y0 Y1 Y2 Y3 Y4 Z0 Z1 Z2 Z3 Z4 K0 hi0 hi3 q0 q1;generalize kw.val=w2 at*;go_wp2_with fail;go_ret;exact⟨by rw[HV1.out (HB.out hs)];rfl,J2.out.bel⟩
   ·rw[hs] at K0;go_upto_region 6 with fail
    refine aM (by kernel_rfl) (by kernel_rfl) ?_
    repeat(go_big_quiet_step (with_reducible exact K0.out _))
    refine Kd ?_;rintro _ ⟨kw,rfl⟩;have J2:=qD (J.out.step kw.below);clear E0 E1 Y0 Y1 Y2 Y3 Y4 Z0 Z1 Z2 Z3 Z4 K0 hi0 hi3 q0 q1;generalize kw.val=w2 at*;go_wp2_with fail;go_roundw
    ·exact⟨i+1,by omega,by go_num,HA.out hs,J2.out⟩
    ·simp[intOf];omega
  ·have HE:Hid (l=y.l):=by
    have:=HQ.out;rw[KL (by have:=HN1.out;omega),KL (by have:=HN2.out;omega)] at this;exact this
   clear I;go_wp2_with fail
   go_loopw [6] (fun v6 wr=>∃i:Nat,i<=cdn/\v6=.int .i64 i/\d.take i=y.d.take i/\jc w ⟨ck,cn,ct,cLA,cln,clc,cDA,cdn,cdc⟩ ⟨ck,cn,ct,eLA,cln,elc,eDA,cdn,edc⟩ wr) (fun v6 _=>cdn-(intOf v6).toNat)
   ·exact⟨0,KD _,rfl,rfl,J.out⟩
   case round=>
    clear q0 q1 J HQ hlt;obtain⟨i,hi1,rfl,hq,I⟩:=hrel;have HQ:=qD hq;have J:=qD I;have q0:=I.b0.cell 4;have q1:=I.b1.cell 4;simp at q0 q1;clear hq;by_cases hlt:i<cdn
    ·obtain⟨p,hp⟩:∃p,fs[i]?=some p:=⟨_,Jv (by have:=Q1.out.sr.ln;omega)⟩;obtain⟨q,hq⟩:∃q,gs[i]?=some q:=⟨_,Jv (by have:=Q2.out.sr.ln;omega)⟩;obtain⟨b1,o1,rfl,_,hs1,hu1,hr1⟩:=Q1.out.Iq hp;obtain⟨b2,o2,rfl,_,hs2,hu2,hr2⟩:=Q2.out.Iq hq;have g1:d[i]?=some p.2:=by rw[<-HT1.out,KP,hp];rfl
     have g2:y.d[i]?=some q.2:=by rw[<-HT2.out,KP,hq];rfl
     have HA:Hid (p.2=q.2->d.take (i+1)=y.d.take (i+1)):=fun h=>mJ HQ.out g1 g2 h;have HB:Hid (p.2≠q.2->d≠y.d):=fun h=>tg g1 g2 h;obtain⟨y0,y1,y2,y3,y4⟩:=hu1.keep (I.bel.block b1 hu1.lt);obtain⟨z0,z1,z2,z3,z4⟩:=hu2.keep (I.bel.block b2 hu2.lt);have n0:=(I.bel.cell (p:=⟨b1,o1+i*6,none⟩) hu1.lt).trans hs1;have n1:=(I.bel.cell (p:=⟨b2,o2+i*6,none⟩) hu2.lt).trans hs2;have N0:∀k:BW wr,k.val.cell? ⟨b1,o1+i*6,none⟩=some (.string p.2.s):=fun k=>k.cell n0;have N1:∀k:BW wr,k.val.cell? ⟨b2,o2+i*6,none⟩=some (.string q.2.s):=fun k=>k.cell n1;have E0:∀k:BW wr,k.val.cell? ⟨w.heap.size,4,none⟩=some (.slice (some ⟨b1,o1,none⟩) cdn cdc):=fun k=>k.cell (J.out.b0.cell 4);have E1:∀k:BW wr,k.val.cell? ⟨w.heap.size+1,4,none⟩=some (.slice (some ⟨b2,o2,none⟩) cdn edc):=fun k=>k.cell (J.out.b1.cell 4);have Y0:∀k:BW wr,k.val.cell? ⟨b1,o1+i*6+1,none⟩=some (.int .i64 p.1.k):=fun k=>k.cell y0;have Y1:∀k:BW wr,k.val.cell? ⟨b1,o1+i*6+1+1,none⟩=some (.int .i64 p.1.n):=fun k=>k.cell y1;have Y2:∀k:BW wr,k.val.cell? ⟨b1,o1+i*6+1+2,none⟩=some (.string p.1.t):=fun k=>k.cell y2;have Y3:∀k:BW wr,k.val.cell? ⟨b1,o1+i*6+1+3,none⟩=some (.slice p.1.LA p.1.ln p.1.lc):=fun k=>k.cell y3;have Y4:∀k:BW wr,k.val.cell? ⟨b1,o1+i*6+1+4,none⟩=some (.slice p.1.DA p.1.dn p.1.dc):=fun k=>k.cell y4;have Z0:∀k:BW wr,k.val.cell? ⟨b2,o2+i*6+1,none⟩=some (.int .i64 q.1.k):=fun k=>k.cell z0;have Z1:∀k:BW wr,k.val.cell? ⟨b2,o2+i*6+1+1,none⟩=some (.int .i64 q.1.n):=fun k=>k.cell z1
     have Z2:∀k:BW wr,k.val.cell? ⟨b2,o2+i*6+1+2,none⟩=some (.string q.1.t):=fun k=>k.cell z2;have Z3:∀k:BW wr,k.val.cell? ⟨b2,o2+i*6+1+3,none⟩=some (.slice q.1.LA q.1.ln q.1.lc):=fun k=>k.cell z3;have Z4:∀k:BW wr,k.val.cell? ⟨b2,o2+i*6+1+4,none⟩=some (.slice q.1.DA q.1.dn q.1.dc):=fun k=>k.cell z4
     have K0:Hid (∀k:BW wr,Calls prog 248 #[p.1.val,q.1.val] k.val fun e w''=>e=.returned (.bool (dw p.2.v q.2.v))/\∃k:BW wr,w''=k.val):=fun k=>
      Calls.bw (ID.out p.2 (Jx g1) q.2.v p.1 q.1 k.val ((hr1.step I.bel).step k.below) ((hr2.step I.bel).step k.below))
     have hi0:(0:Int)<=(i:Int):=by omega
     have hi3:(i:Int)<(cdn:Int):=by omega
     clear hp hq hu1 hu2 hr1 hr2 g1 g2 y0 y1 y2 y3 y4 z0 z1 z2 z3 z4 I hs1 hs2 n0 n1;cases hn:(p.2.s.toList==q.2.s.toList);rotate_left
     ·cases hs:dw p.2.v q.2.v
      ·rw[hs] at K0;go_upto_region 11 with fail
       refine aM (by kernel_rfl) (by kernel_rfl) ?_
       repeat(go_big_quiet_step (with_reducible exact K0.out _))
       refine Kd ?_;rintro _ ⟨kw,rfl⟩;have J2:=qD (J.out.step kw.below);clear E0 E1 Y0 Y1 Y2 Y3 Y4 Z0 Z1 Z2 Z3 Z4 N0 N1 K0 hi0 hi3 q0 q1;generalize kw.val=w2 at*;go_wp2_with fail;go_ret;exact⟨by rw[HV2.out (HB.out (fun h=>tf hs (by rw[h])))];rfl,J2.out.bel⟩
      ·rw[hs] at K0;have HF:Hid (p.2=q.2):=cF.ext' (jr.1 (by simpa using hn)) (te hs);go_upto_region 11 with fail
       refine aM (by kernel_rfl) (by kernel_rfl) ?_
       repeat(go_big_quiet_step (with_reducible exact K0.out _))
       refine Kd ?_;rintro _ ⟨kw,rfl⟩;have J2:=qD (J.out.step kw.below);clear E0 E1 Y0 Y1 Y2 Y3 Y4 Z0 Z1 Z2 Z3 Z4 N0 N1 K0 hi0 hi3 q0 q1;generalize kw.val=w2 at*;go_wp2_with fail;go_roundw
       ·exact⟨i+1,by omega,by go_num,HA.out HF.out,J2.out⟩
       ·simp[intOf];omega
     ·have HF:Hid (p.2≠q.2):=fun h=>by rw[h] at hn;simp at hn
      go_upto_region 11 with fail
      refine aM (by kernel_rfl) (by kernel_rfl) ?_
      repeat(go_big_quiet_step (with_reducible exact K0.out _))
      refine Kd ?_;rintro _ ⟨kw,rfl⟩;have J2:=qD (J.out.step kw.below);clear E0 E1 Y0 Y1 Y2 Y3 Y4 Z0 Z1 Z2 Z3 Z4 N0 N1 K0 hi0 hi3 q0 q1;generalize kw.val=w2 at*;go_wp2_with fail;go_ret;exact⟨by rw[HV2.out (HB.out HF.out)];rfl,J2.out.bel⟩
    ·have HD:Hid (d=y.d):=by
      have:=HQ.out;rw[KL (by have:=HM1.out;omega),KL (by have:=HM2.out;omega)] at this;exact this
     clear I;go_wp2_with fail;go_ret;exact⟨by rw[HV.out HE.out HD.out];rfl,J.out.bel⟩
def zG(names:Bool):ByteArray->Bool:=if names then aV else ij
def ql(x:aC):Prop:=∀(names:Bool) (c:VC) (w:World),RW w c x->
 Calls prog 29 #[c.val,.bool names] w fun e w'=>e=.returned (.bool (aQ (zG names) x))/\Below w.heap.size w w'
theorem sO{d:List cF}{i:Nat}{s:ByteArray}(h:∀j g,j<i->d[j]?=some g->g.s≠s):s∉(d.take i).map cF.s:=by
 intro hm;obtain⟨g,hg,rfl⟩:=LL.1 hm;obtain⟨j,hj⟩:=LP hg
 have hlt:j<i:=by
  have:=(KF.1 hj).1;simp at this;omega
 rw[MR,Kb hlt] at hj;exact h j g hlt hj rfl
theorem Ay{d:List cF}{i j:Nat}{g:cF}(hj:j<i)(h:d[j]?=some g):g.s∈(d.take i).map cF.s:=
 Ko (Jx (i:=j) (by rw[MR,Kb hj];exact h))
end
structure GO(w:World)(c:VC)(g:Nat)(s:ByteArray)(wr:World):Prop where
 b0:aG wr w.heap.size 29 c.arr
 s0:wr.cell? ⟨g,0,none⟩=some (.string s)
 bel:Below w.heap.size w wr
section
variable {c g size:Nat} {x d:Int} {s:ByteArray} {w w' wr:World} {e:TypeId} {v:Value}
theorem GO.step{w wr w':World}{c:VC}{g:Nat}{s:ByteArray}(h:GO w c g s wr)(hb:Below wr.heap.size wr w'):GO w c g s w':=
 ⟨h.b0.step hb,(hb.cell (p:=⟨g,0,none⟩) (KY wr _ h.s0)).trans h.s0,h.bel.Ih hb⟩
theorem eu(names:Bool)(x:aC)(c:VC)(w:World)(h:RW w c x)(ih:∀f∈x.d,ql f.v):
 Calls prog 89 #[c.val,.bool names] w fun e w'=>e=.returned (.bool (dQ (zG names) x.d))/\Below w.heap.size w w':=by
 obtain⟨ck,cn,ct,LA,ln,lc,DA,dn,dc⟩:=c;obtain⟨fs,hfs,hfl⟩:=h.sd;simp only at hfl;have hz:=hfl.sz;unfold aH at hz;have HF:=qD hfl;have HN:=qD hfl.sr.ln;have HS:=qD hfs;have IH:=qD ih;obtain⟨nm,hnm⟩:∃nm,zG names=nm:=⟨_,rfl⟩;have HNM:=qD hnm;rw[hnm];clear h hfs hfl ih hnm;go_enter func89,ntmps89;go_wp2_with fail
 go_loopw [5] (fun v5 wr=>∃i:Nat,i<=dn/\v5=.int .i64 i/\bn nm (x.d.take i)/\aG wr w.heap.size 29 (VC.arr ⟨ck,cn,ct,LA,ln,lc,DA,dn,dc⟩)/\Below w.heap.size w wr) (fun v5 _=>dn-(intOf v5).toNat)
 ·exact⟨0,KD _,rfl,by rw[Lp];exact bn.nil,aG.Ii rfl,(Ju _ _).alloc (qL) _⟩
 case round=>
  obtain⟨i,hi,rfl,hP,hK,hB⟩:=hrel;have HP:=qD hP;have J:=qD hB;have q4:=hK.cell 4;simp at q4;by_cases hlt:i<dn
  ·obtain⟨p,hp⟩:∃p,fs[i]?=some p:=⟨_,Jv (by have:=HN.out;omega)⟩;have hd:x.d[i]?=some p.2:=by rw[<-HS.out,KP,hp];rfl
   obtain⟨b,off,hA,_,hs,hu,hr⟩:=HF.out.Iq hp;subst hA;obtain⟨y0,y1,y2,y3,y4⟩:=hu.keep (hB.block b hu.lt);have n0:=(hB.cell (p:=⟨b,off+i*6,none⟩) hu.lt).trans hs;have hb:b<wr.heap.size:=by have:=hu.lt;have:=hB.size;omega
   have hA1:=(Ju wr.heap.size wr).alloc (qL) (Obj.cells #[.string p.2.s,.int .i64 p.1.k,.int .i64 p.1.n,.string p.1.t,.slice p.1.LA p.1.ln p.1.lc,.slice p.1.DA p.1.dn p.1.dc] 77)
   have HI:Hid (GO w ⟨ck,cn,ct,LA,ln,lc,some ⟨b,off,none⟩,dn,dc⟩ wr.heap.size p.2.s (wr.alloc (.cells #[.string p.2.s,.int .i64 p.1.k,.int .i64 p.1.n,.string p.1.t,.slice p.1.LA p.1.ln p.1.lc,.slice p.1.DA p.1.dn p.1.dc] 77))):=
    qD ⟨hK.step hA1,(aG.Ii (w:=wr) rfl).cell 0,hB.Ih hA1⟩
   have HR:=qD ((hr.step hB).step hA1);have HD:=qD hd;have HC:=qD (IH.out p.2 (Jx hd));clear hp hd hs hu hr hP hB hA1 hK;cases hnm:nm p.2.s
   ·have HV:=qD (cu (bn.JC HD.out hnm));have hnm':Hid (zG names p.2.s=false):=by rw[Hid,HNM.out];exact hnm
    clear hnm;cases names
    all_goals
     go_wp2_with fail
     first|(with_reducible refine(gl _ _).mono ?_)|(with_reducible refine(qj _ _).mono ?_)
     rintro e w' ⟨rfl,rfl⟩
     first|rw[show aV p.2.s=false from hnm'.out]|rw[show ij p.2.s=false from hnm'.out]
     go_wp2_with fail;go_ret;exact⟨by rw[HV.out];rfl,HI.out.bel⟩
   have hnm':Hid (zG names p.2.s=true):=by rw[Hid,HNM.out];exact hnm
   have HNm:=qD hnm;clear hnm;cases names
   all_goals
    go_wp2_with fail
    first|(with_reducible refine(gl _ _).mono ?_)|(with_reducible refine(qj _ _).mono ?_)
    rintro e w' ⟨rfl,rfl⟩
    first|rw[show aV p.2.s=true from hnm'.out]|rw[show ij p.2.s=true from hnm'.out]
    go_wp2_with fail;refine(HC.out _ p.1 _ HR.out).mono ?_;rintro e w2 ⟨rfl,hb2⟩;rw[HNM.out];have HI2:=qD (HI.out.step hb2);clear y0 y1 y2 y3 y4 n0 q4 hb2;cases hso:aQ nm p.2.v
    ·have HV:=qD (cu (bn.Iy HD.out (jI.1 hso)));go_wp2_with fail;go_ret;exact⟨by rw[HV.out];rfl,HI2.out.bel⟩
    ·have HSo:=qD (fY.1 hso);clear hso;go_wp2_with fail;clear HI HR J HC hnm';generalize wr.heap.size=gF at*
     go_loopw [7] (fun v7 wi=>∃j:Nat,j<=i/\v7=.int .i64 j/\(∀m g,m<j->x.d[m]?=some g->g.s≠p.2.s)/\GO w ⟨ck,cn,ct,LA,ln,lc,some ⟨b,off,none⟩,dn,dc⟩ gF p.2.s wi) (fun v7 _=>i-(intOf v7).toNat)
     ·exact⟨0,KD _,rfl,fun m g h=>by omega,HI2.out⟩
     case round=>
      obtain⟨j,hj,rfl,hall,I⟩:=hrel;have HAll:=qD hall;have K:=qD I;clear hall;by_cases hjl:j<i
      ·obtain⟨q,hq⟩:∃q,fs[j]?=some q:=⟨_,Jv (by have:=HN.out;omega)⟩;have hd2:x.d[j]?=some q.2:=by rw[<-HS.out,KP,hq];rfl
       obtain⟨b2,off2,hA2,_,hs2,hu2,_⟩:=HF.out.Iq hq;cases hA2;have n1:=(I.bel.cell (p:=⟨b,off+j*6,none⟩) hu2.lt).trans hs2;have q4:=I.b0.cell 4;have k0:=I.s0;simp at q4;have HD2:=qD hd2;have hj0:(0:Int)<=(j:Int):=by omega
       have hj1:(j:Int)<(dn:Int):=by omega
       clear hq hd2 hs2 hu2 I;cases hc:(q.2.s.toList==p.2.s.toList)
       ·have HA2:Hid (∀m g,m<j+1->x.d[m]?=some g->g.s≠p.2.s):=fun m g hm hg=>by
         by_cases e:m=j
         ·subst e;rw[HD2.out] at hg;cases hg;exact fun h=>by rw[h] at hc;simp at hc
         ·exact HAll.out m g (by omega) hg
        go_upto_region 10 with fail
        go_quiet (fail)
        clear q4 k0 n1 hj0 hj1;go_wp2_with fail;go_roundw
        ·exact⟨j+1,by omega,by go_num,HA2.out,K.out.step (Below.drewN (Ju _ _) _)⟩
        ·simp[intOf];omega
       ·have HV:=qD (cu (nm:=nm) (bn.JF HD.out (by rw[<-show q.2.s=p.2.s from jr.1 (by simpa using hc)];exact Ay hjl HD2.out)));go_upto_region 10 with fail
        go_quiet (fail)
        clear q4 k0 n1 hj0 hj1;go_wp2_with fail;go_ret;exact⟨by rw[HV.out];rfl,K.out.bel.drewN _⟩
      ·have HX:=qD (HP.out.next HD.out HNm.out (sO (fun m g hm hg=>HAll.out m g (by omega) hg)) HSo.out);clear I;go_wp2_with fail;go_roundw
       ·exact⟨i+1,by omega,by go_num,HX.out,K.out.b0,K.out.bel⟩
       ·simp[intOf];omega
  ·have HV:Hid (dQ nm x.d=true):=by
    have:=HP.out;rw[KL (by rw[<-HS.out,KX,<-HN.out];omega)] at this;exact gX this
   clear hP hK hB;go_wp2_with fail;go_ret;exact⟨by rw[HV.out];rfl,J.out⟩
def yO(x:aC)(w:World)(e:Ending)(w':World):Prop:=
 ∃(A:Option Addr) (n c:Nat) (ps:List PV),e=.returned (.slice A n c)/\ps.map Prod.snd=x.parts/\SL (fun _=>True) w' A n c ps/\Below w.heap.size w w'
end
structure ia(w:World)(c:VC)(ps:List PV)(i:Nat)(v:Value)(wr:World):Prop where
 b0:aG wr w.heap.size 29 c.arr
 own:wr.ownsRow (w.heap.size+1) 29 5 v i (aO bC (ps.take i))
 bel:Below w.heap.size w wr
section
variable {l:List ByteArray} {c i o n size:Nat} {x y most:Int} {w w' wr:World} {e:TypeId} {v v':Value}
theorem ia.next{w:World}{c:VC}{ps:List PV}{i:Nat}{v v':Value}{wr w':World}{o:Obj}{p:PV}(h:ia w c ps i v wr)(hp:ps[i]?=some p)(hg:(wr.alloc o).grownBy w' v.ownBlock)(ho:w'.ownsRow (w.heap.size+1) 29 5 v' (i+1) (aO bC (ps.take i)++bC p)):ia w c ps (i+1) v' w':=by
 have n1:v.ownBlock≠some w.heap.size:=gL h.own (by omega);refine⟨(h.b0.alloc o).grown hg (fun e=>n1 e.symm),by rw[take_snoc' hp,cw];exact ho,?_⟩;exact(h.bel.alloc h.bel.size o).grown hg (by have:=h.bel.size;show _<=(wr.alloc o).heap.size;simp;omega) (fun q hq=>by have:=bF h.own q hq;omega)
theorem ia.done{w:World}{c:VC}{ps:List PV}{v:Value}{wr:World}{n:Nat}{x:aC}(h:ia w c ps n v wr)(hn:ps.length=n)(hz:n*80<=aH)(hx:ps.map Prod.snd=x.parts)(hr:∀p∈ps,RW w p.1 p.2):yO x w (.returned v) wr:=by
 have ho:=h.own;rw[KL (by omega)] at ho;obtain⟨A,c',rfl,hs⟩:=SL.Ik (F:=fun _=>True) ho hn hz (fun _ _=>trivial) (fun p hp=>(hr p hp).step h.bel);exact⟨A,n,c',ps,rfl,hx,hs,h.bel⟩
theorem oa(x:aC)(c:VC)(w:World)(h:RW w c x):Calls prog 145 #[c.val] w (yO x w):=by
 obtain⟨i0,hi0,hz0,hz1,hz2⟩:=LM dC;obtain⟨ck,cn,ct,LA,ln,lc,DA,dn,dc⟩:=c;have hk:ck=x.k:=h.open.k
 have B0:Hid (ia w ⟨ck,cn,ct,LA,ln,lc,DA,dn,dc⟩ [] 0 (.slice none 0 0) (w.alloc (.cells #[.int .i64 ck,.int .i64 cn,.string ct,.slice LA ln lc,.slice DA dn dc] 29))):=
  qD ⟨aG.Ii rfl,bX _ _ _ _,(Ju _ _).alloc (qL) _⟩
 cases h6:(ck==6)
 ·cases h5:(ck==5)
  ·have HP:Hid (x.parts=[]):=by
    simp at h6 h5;simp[Hid,aC.parts,<-hk,h6,h5]
   clear h hk;go_enter func145,ntmps145;go_wp2_with fail;go_ret;exact ia.done B0.out rfl (by decide) HP.out.symm (fun p hp=>by simp at hp)
  ·have HP:Hid (x.parts=x.d.map cF.v):=by
    simp at h5;simp[Hid,aC.parts,<-hk,h5]
   obtain⟨fs,hps,hsl⟩:=h.sd;simp only at hsl;obtain⟨ps,hpe⟩:∃ps:List PV,ps=fs.map fun p=>(p.1,p.2.v):=⟨_,rfl⟩;have HQE:=qD hpe
   have HPR:Hid (∀p∈ps,RW w p.1 p.2):=by
    rw[Hid,hpe];intro p hp;obtain⟨q,hq,rfl⟩:=LL.1 hp;exact hsl.rv q hq
   have hz:=hsl.sz;unfold aH at hz;have HL:=qD hsl;have HN:Hid (dn=ps.length):=by rw[Hid,hpe,KX];exact hsl.sr.ln
   have HX:Hid (ps.map Prod.snd=x.parts):=by rw[Hid,HP.out,<-hps,hpe];simp
   have B1:Hid (ia w ⟨ck,cn,ct,LA,ln,lc,DA,dn,dc⟩ ps 0 (.slice none 0 0) (w.alloc (.cells #[.int .i64 ck,.int .i64 cn,.string ct,.slice LA ln lc,.slice DA dn dc] 29))):=qD ⟨B0.out.b0,B0.out.own,B0.out.bel⟩;clear h hsl hps hk B0 hpe;go_enter func145,ntmps145;go_wp2_with fail
   go_loopw [3,5] (fun v3 v5 wr=>∃i:Nat,i<=dn/\v5=.int .i64 i/\ia w ⟨ck,cn,ct,LA,ln,lc,DA,dn,dc⟩ ps i v3 wr) (fun _ v5 _=>dn-(intOf v5).toNat)
   ·exact⟨0,KD _,rfl,B1.out⟩
   case round=>
    obtain⟨i,hi,rfl,I⟩:=hrel;have J:=qD I;have q0:=I.b0.cell 0;have q4:=I.b0.cell 4;simp at q0 q4;by_cases hlt:i<dn
    ·obtain⟨f,hf⟩:∃f,fs[i]?=some f:=⟨_,Jv (by have:=HL.out.sr.ln;omega)⟩;obtain⟨b,off,rfl,_,_,hu,_⟩:=HL.out.Iq hf;have hp:ps[i]?=some (f.1,f.2.v):=by rw[HQE.out,KP,hf];rfl
     obtain⟨y0,y1,y2,y3,y4⟩:=hu.keep (I.bel.block b hu.lt);have hb:b<wr.heap.size:=by have:=hu.lt;have:=I.bel.size;omega
     have HQ:=qD hp;clear hp hu I hf;have hsz:=J.out.bel.size;go_wp2_with (at_builtin;refine wpList_append_own _ rfl _ _ 26 rfl (w.heap.size+1) 29 i0 VC.zero.val 5 80 Kv hi0 hz0 hz1 hz2 rfl (by decide) u3 i (aO bC (ps.take i)) rfl (J.out.own.alloc _) ⟨wr.heap.size,0,none⟩ 1 1 (bC (f.1,f.2.v)) rfl rfl ?c1 ?c2 ?c3 ?c4 ?c5 ?_)
     case c1=>exact ao _ _ _
     case c2=>exact cG _
     case c3=>unfold maxLen;omega
     case c4=>omega
     case c5=>simp;have:=J.out.b0.lt;omega
     intro v' w2 hown hg _;have HI:=qD (J.out.next HQ.out hg hown);clear hown hg q0 q4 y0 y1 y2 y3 y4;go_wp2_with fail;go_roundw
     ·exact⟨i+1,by omega,by go_num,HI.out⟩
     ·simp[intOf];omega
    ·obtain rfl:i=dn:=by omega
     clear I;go_wp2_with fail;go_ret;exact ia.done J.out HN.out.symm (by have:=HL.out.sz;unfold aH at*;omega) HX.out HPR.out
 ·have HP:Hid (x.parts=x.l):=by
   simp at h6;simp[Hid,aC.parts,<-hk,h6]
  have h5:(ck==5)=false:=by simp at h6 ⊢;omega
  obtain⟨ps,hps,hsl⟩:=h.sl;simp only at hsl;have hz:=hsl.sz;unfold aH at hz;have HL:=qD hsl;have HN:=qD hsl.sr.ln;have HX:Hid (ps.map Prod.snd=x.parts):=by rw[Hid,HP.out];exact hps
  have B1:Hid (ia w ⟨ck,cn,ct,LA,ln,lc,DA,dn,dc⟩ ps 0 (.slice none 0 0) (w.alloc (.cells #[.int .i64 ck,.int .i64 cn,.string ct,.slice LA ln lc,.slice DA dn dc] 29))):=qD ⟨B0.out.b0,B0.out.own,B0.out.bel⟩;clear h hsl hps hk B0;go_enter func145,ntmps145;go_wp2_with fail
  go_loopw [3,4] (fun v3 v4 wr=>∃i:Nat,i<=ln/\v4=.int .i64 i/\ia w ⟨ck,cn,ct,LA,ln,lc,DA,dn,dc⟩ ps i v3 wr) (fun _ v4 _=>ln-(intOf v4).toNat)
  ·exact⟨0,KD _,rfl,B1.out⟩
  case round=>
   obtain⟨i,hi,rfl,I⟩:=hrel;have J:=qD I;have q0:=I.b0.cell 0;have q3:=I.b0.cell 3;simp at q0 q3;by_cases hlt:i<ln
   ·obtain⟨p,hp⟩:∃p,ps[i]?=some p:=⟨_,Jv (by have:=HN.out;omega)⟩;obtain⟨b,off,rfl,_,hu,_⟩:=HL.out.Iq hp;obtain⟨y0,y1,y2,y3,y4⟩:=hu.keep (I.bel.block b hu.lt);have hb:b<wr.heap.size:=by have:=hu.lt;have:=I.bel.size;omega
    have HQ:=qD hp;clear hp hu I;have hsz:=J.out.bel.size;go_wp2_with (at_builtin;refine wpList_append_own _ rfl _ _ 26 rfl (w.heap.size+1) 29 i0 VC.zero.val 5 80 Kv hi0 hz0 hz1 hz2 rfl (by decide) u3 i (aO bC (ps.take i)) rfl (J.out.own.alloc _) ⟨wr.heap.size,0,none⟩ 1 1 (bC p) rfl rfl ?c1 ?c2 ?c3 ?c4 ?c5 ?_)
    case c1=>exact ao _ _ _
    case c2=>exact cG p
    case c3=>unfold maxLen;omega
    case c4=>omega
    case c5=>simp;have:=J.out.b0.lt;omega
    intro v' w2 hown hg _;have HI:=qD (J.out.next HQ.out hg hown);clear hown hg q0 q3 y0 y1 y2 y3 y4;go_wp2_with fail;go_roundw
    ·exact⟨i+1,by omega,by go_num,HI.out⟩
    ·simp[intOf];omega
   ·obtain rfl:i=ln:=by omega
    clear I;go_wp2_with fail;go_ret;exact ia.done J.out HN.out.symm HL.out.sz HX.out HL.out.rv
def lE(l:List aC)(most:Int):Int:=min (1+(bN l:Int)) most
def mx(l:List aC)(most:Int):Int:=min (ak l:Int) (most-1)
theorem zH{l:List aC}{i:Nat}{y:aC}{most:Int}(hy:l[i]?=some y)(h:lE (l.take i) most<most):
 lE (l.take i) most+bR y (most-lE (l.take i) most)=lE (l.take (i+1)) most:=by
 have h1:=jD hy;unfold lE bR at*;omega
theorem th{x:aC}{i:Nat}{most:Int}(h:x.parts.length<=i\/most<=lE (x.parts.take i) most):lE (x.parts.take i) most=bR x most:=by
 have h1:=gu x.parts i;have h2:=dA x;rcases h with h|h
 ·rw[KL h];unfold lE bR;omega
 ·unfold lE bR at*;omega
theorem zJ{l:List aC}{i:Nat}{y:aC}{most:Int}(hy:l[i]?=some y):
 max (mx (l.take i) most) (bE y (most-1))=mx (l.take (i+1)) most:=by
 have h1:=mE hy;unfold mx bE at*;omega
theorem ti{x:aC}{i:Nat}{most:Int}(h:x.parts.length<=i):mx (x.parts.take i) most+1=bE x most:=by
 have h2:=ci x;rw[KL h];unfold mx bE;omega
def Az(x:aC):Prop:=∀(c:VC) (most:Int) (w:World),RW w c x->1<=most->most<=1025->
 Calls prog 87 #[c.val,.int .i64 most] w fun e w'=>e=.returned (.int .i64 (bR x most))/\Below w.heap.size w w'
def zK(x:aC):Prop:=∀(c:VC) (most:Int) (w:World),RW w c x->1<=most->most<=17->
 Calls prog 86 #[c.val,.int .i64 most] w fun e w'=>e=.returned (.int .i64 (bE x most))/\Below w.heap.size w w'
theorem vo:∀x,Az x:=by
 refine aC.JL fun x ih=>?_;intro c most w h h1 h2;have H:=qD h;have IH:=qD ih;clear h ih;go_enter func87,ntmps87;go_wp2_with fail;refine(oa x c _ (H.out.alloc _)).mono ?_;rintro e w1 ⟨A,n,cc,ps,rfl,hx,hsl,hb⟩;have HB:=qD (((Ju _ _).alloc (qL) _).Ih hb);have HX:=qD hx;have HL:=qD hsl;have HN:=qD hsl.sr.ln;have hz:=hsl.sz;unfold aH at hz;clear hx hsl hb;go_wp2_with fail
 go_loopw [5,7] (fun v5 v7 wr=>∃i:Nat,i<=n/\v7=.int .i64 i/\v5=.int .i64 (lE (x.parts.take i) most)/\Below w1.heap.size w1 wr) (fun _ v7 _=>n-(intOf v7).toNat)
 ·exact⟨0,KD _,rfl,by congr 1;unfold lE;simp[bN];omega,Ju _ _⟩
 case round=>
  obtain⟨i,hi,rfl,rfl,I⟩:=hrel;have J:=qD I;have r:1<=lE (x.parts.take i) most/\lE (x.parts.take i) most<=most:=by unfold lE;omega
  obtain⟨N,hN⟩:∃N,lE (x.parts.take i) most=N:=⟨_,rfl⟩;rw[hN] at r ⊢;have HNN:=qD hN;clear hN;by_cases hlt:i<n
  ·by_cases hm:N<most
   ·obtain⟨p,hp⟩:∃p,ps[i]?=some p:=⟨_,Jv (by have:=HN.out;omega)⟩;obtain⟨b,off,rfl,_,hu,hr⟩:=HL.out.Iq hp;obtain⟨y0,y1,y2,y3,y4⟩:=hu.keep (I.block b hu.lt);have hy:x.parts[i]?=some p.2:=by rw[<-HX.out,KP,hp];rfl
    have HR:=qD (hr.step I);have HC:=qD (IH.out p.2 (Jx hy))
    have r2:1<=bR p.2 (most-N)/\bR p.2 (most-N)<=most-N:=by
     have:=dv p.2;unfold bR;omega
    have HV:Hid (N+bR p.2 (most-N)=lE (x.parts.take (i+1)) most):=by
     rw[Hid,<-HNN.out];exact zH hy (by rw[HNN.out];exact hm)
    clear hp hu hr hy I;go_wp2_with fail;refine(HC.out p.1 (most-N) _ HR.out (by omega) (by omega)).mono ?_;rintro e w2 ⟨rfl,hb2⟩;have J2:=qD (J.out.Ih hb2);clear y0 y1 y2 y3 y4 hb2;go_wp2_with fail;go_roundw
    ·exact⟨i+1,by omega,by go_num,by rw[HV.out],J2.out⟩
    ·simp[intOf];omega
   ·have HV:Hid (N=bR x most):=by rw[Hid,<-HNN.out];exact th (.inr (by rw[HNN.out];omega))
    go_wp2_with fail;go_ret;exact⟨by rw[<-HV.out];rfl,HB.out.Ih J.out⟩
  ·have HV:Hid (N=bR x most):=by rw[Hid,<-HNN.out];exact th (.inl (by rw[<-HX.out,KX,<-HN.out];omega))
   go_wp2_with fail;go_ret;exact⟨by rw[<-HV.out];rfl,HB.out.Ih J.out⟩
theorem tj:∀x,zK x:=by
 refine aC.JL fun x ih=>?_;intro c most w h h1 h2;have H:=qD h;have IH:=qD ih;clear h ih;go_enter func86,ntmps86;go_wp2_with fail;refine(oa x c _ (H.out.alloc _)).mono ?_;rintro e w1 ⟨A,n,cc,ps,rfl,hx,hsl,hb⟩;have HB:=qD (((Ju _ _).alloc (qL) _).Ih hb);have HX:=qD hx;have HL:=qD hsl;have HN:=qD hsl.sr.ln;have hz:=hsl.sz;unfold aH at hz;clear hx hsl hb;by_cases hm:most<2
 ·have HV:Hid (bE x most=1):=by
   have:=lN x;unfold Hid bE;omega
  go_wp2_with fail;go_ret;exact⟨by rw[HV.out];rfl,HB.out⟩
 ·cases hn0:((n:Int)==0)
  ·go_wp2_with fail
   go_loopw [6,7] (fun v6 v7 wr=>∃i:Nat,i<=n/\v7=.int .i64 i/\v6=.int .i64 (mx (x.parts.take i) most)/\Below w1.heap.size w1 wr) (fun _ v7 _=>n-(intOf v7).toNat)
   ·exact⟨0,KD _,rfl,by congr 1;unfold mx;simp[ak];omega,Ju _ _⟩
   case round=>
    obtain⟨i,hi,rfl,rfl,I⟩:=hrel;have J:=qD I;have r:0<=mx (x.parts.take i) most/\mx (x.parts.take i) most<=17:=by unfold mx;omega
    obtain⟨N,hN⟩:∃N,mx (x.parts.take i) most=N:=⟨_,rfl⟩;rw[hN] at r ⊢;have HNN:=qD hN;clear hN;by_cases hlt:i<n
    ·obtain⟨p,hp⟩:∃p,ps[i]?=some p:=⟨_,Jv (by have:=HN.out;omega)⟩;obtain⟨b,off,rfl,_,hu,hr⟩:=HL.out.Iq hp;obtain⟨y0,y1,y2,y3,y4⟩:=hu.keep (I.block b hu.lt);have hy:x.parts[i]?=some p.2:=by rw[<-HX.out,KP,hp];rfl
     have HR:=qD (hr.step I);have HC:=qD (IH.out p.2 (Jx hy))
     have HV:Hid (max N (bE p.2 (most-1))=mx (x.parts.take (i+1)) most):=by
      rw[Hid,<-HNN.out];exact zJ hy
     clear hp hu hr hy I;go_wp2_with fail;refine(HC.out p.1 (most-1) _ HR.out (by omega) (by omega)).mono ?_;rintro e w2 ⟨rfl,hb2⟩;have J2:=qD (J.out.Ih hb2);clear y0 y1 y2 y3 y4 hb2;by_cases hle:N<bE p.2 (most-1)
     all_goals
      go_wp2_with fail;go_roundw
      ·exact⟨i+1,by omega,by go_num,by rw[<-HV.out]<;>congr 1<;>omega,J2.out⟩
      ·simp[intOf];omega
    ·have HV:Hid (N+1=bE x most):=by rw[Hid,<-HNN.out];exact ti (by rw[<-HX.out,KX,<-HN.out];omega)
     go_wp2_with fail;go_ret;exact⟨by rw[<-HV.out];rfl,HB.out.Ih J.out⟩
  ·have HV:Hid (1=bE x most):=by
    have:=ti (x:=x) (i:=0) (most:=most) (by rw[<-HX.out,KX,<-HN.out];simp at hn0;omega);unfold Hid;rw[<-this];unfold mx;simp[ak];omega
   go_wp2_with fail;go_ret;exact⟨by rw[<-HV.out];rfl,HB.out⟩
theorem tm(x:aC)(c:VC)(w:World)(h:RW w c x):Calls prog 28 #[c.val] w fun e w'=>e=.returned (.int .i64 (nR x))/\Below w.heap.size w w':=by
 have H:=qD h;clear h;go_enter func28,ntmps28;go_wp2_with fail;refine(vo x c 1025 _ (H.out.alloc _) (by omega) (by omega)).mono ?_;rintro e w1 ⟨rfl,hb⟩;go_wp2_with fail;go_ret;exact⟨rfl,((Ju _ _).alloc (qL) _).Ih hb⟩
theorem tn(x:aC)(c:VC)(w:World)(h:RW w c x):Calls prog 27 #[c.val] w fun e w'=>e=.returned (.int .i64 (nS x))/\Below w.heap.size w w':=by
 have H:=qD h;clear h;go_enter func27,ntmps27;go_wp2_with fail;refine(tj x c 17 _ (H.out.alloc _) (by omega) (by omega)).mono ?_;rintro e w1 ⟨rfl,hb⟩;go_wp2_with fail;go_ret;exact⟨rfl,((Ju _ _).alloc (qL) _).Ih hb⟩
end
end Go.Proofs.YtgfoliedmhgpnaaGreatDoor
