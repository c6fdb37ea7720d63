/- A part of the proof. -/
import Derived.Test.YtgfoliedmhgpnaaGreatDoorBn14
import Derived.Laws.IdiomCopy
import Derived.Lib.SliceRun
import Derived.Lib.AppendZerosOnto
set_option maxRecDepth 100000
set_option maxHeartbeats 16000000
set_option linter.unusedSimpArgs false
open Go.Proofs.Tryz
open ByteArray (empty)
namespace Go.Proofs.YtgfoliedmhgpnaaGreatDoor
open Go.RowKit
section
variable {l:List ByteArray} {b i m size:Nat} {a x y:Int} {w w':World} {e:TypeId}
theorem gi(x y:Int)(w:World):Calls prog 201 #[.int .i64 x,.int .i64 y] w fun e w'=>e=.returned (.int .i64 (cM x y))/\w'=w:=by
 go_enter func201,ntmps201
 go_wp2
 all_goals (go_ret;refine⟨?_,rfl⟩;unfold cM Lib.compareInt;(repeat' split)<;>first|rfl|(exfalso;omega))
theorem ob(a:ByteArray)(i:Nat)(h:i<a.size):a.data.toList.drop i=a[i]::a.data.toList.drop (i+1):=by
 rw[Lt (by simpa using h)];rfl
theorem zL{l m:List UInt8}{i:Nat}(h1:i<=l.length)(h2:i<=m.length)(h:l.length<=i\/m.length<=i):Lib.compareBytes (l.drop i) (m.drop i)=cM (l.length:Int) (m.length:Int):=by
 rw[ow];by_cases hl:l.length<=i
 ·rw[Kk hl];by_cases hm:m.length<=i
  ·rw[Kk hm,KU (by omega),KU (by omega)];rfl
  ·rw[Lt (by omega:i<m.length),Kb (by omega)];rfl
 ·have hm:m.length<=i:=by omega
  rw[Kk hm,Lt (by omega:i<l.length),KU (by omega),Kb (by omega)];rfl
theorem BB(a b:UInt8)(l m:List UInt8):Lib.compareBytes (a::l) (b::m)=if(a.toNat:Int)=(b.toNat:Int) then Lib.compareBytes l m else cM (a.toNat:Int) (b.toNat:Int):=by
 rw[Lib.compareBytes];unfold cM Lib.compareInt;have e1:a<b↔a.toNat<b.toNat:=Ma;have e2:b<a↔b.toNat<a.toNat:=Ma;rcases OM a.toNat b.toNat with h|h|h
 ·rw[Kb (e1.2 h),KU (by omega),Kb (by omega)]
 ·rw[KU (by rw[e1];omega),KU (by rw[e2];omega),Kb (by omega)]
 ·rw[KU (by rw[e1];omega),Kb (e2.2 h),KU (by omega),KU (by omega),Kb (by omega)]
theorem oc(a b:ByteArray)(w:World)(h1:a.size<=aH):Calls prog 202 #[.string a,.string b] w fun e w'=>e=.returned (.int .i64 (dP a b))/\Below w.heap.size w w':=by
 unfold aH at h1;go_enter func202,ntmps202;go_wp2_with fail
 go_loopw [5] (fun v5 wr=>∃i:Nat,i<=a.size/\i<=b.size/\v5=.int .i64 i/\dP a b=Lib.compareBytes (a.data.toList.drop i) (b.data.toList.drop i)/\Below w.heap.size w wr) (fun v5 _=>a.size-(intOf v5).toNat)
 ·exact⟨0,KD _,KD _,rfl,rfl,Ju _ _⟩
 case round=>
  obtain⟨i,hi1,hi2,rfl,hq,I⟩:=hrel;have HQ:=qD hq;have J:=qD I;clear hq I;by_cases hlt:i<a.size/\i<b.size
  ·obtain⟨hl1,hl2⟩:=hlt;have HA:=qD (HQ.out.trans (by rw[ob a i hl1,ob b i hl2,BB]));cases hc:((a[i].toNat:Int) != (b[i].toNat:Int))
   ·go_upto_region 4 with fail
    go_quiet (fail)
    have HC:Hid (dP a b=Lib.compareBytes (a.data.toList.drop (i+1)) (b.data.toList.drop (i+1))):=by
     have:(a[i].toNat:Int)=(b[i].toNat:Int):=by simpa using hc
     rw[Hid,HA.out,Kb this]
    go_wp2_with fail;go_roundw
    ·exact⟨i+1,by omega,by omega,by go_num,HC.out,J.out.drewN _⟩
    ·simp[intOf];omega
   ·have HC:Hid (dP a b=cM (a[i].toNat:Int) (b[i].toNat:Int)):=by
     have:¬(a[i].toNat:Int)=(b[i].toNat:Int):=by simpa using hc
     rw[Hid,HA.out,KU this]
    have b1:a[i].toNat<256:=a[i].toNat_lt;have b2:b[i].toNat<256:=b[i].toNat_lt;go_upto_region 4 with fail
    go_quiet (fail)
    have J2:=qD (J.out.drewN nq);generalize wr.drewN nq=w2 at*;have W1:IntKind.i64.wrap (a[i].toNat:Int)=(a[i].toNat:Int):=ii (by omega) (by omega);have W2:IntKind.i64.wrap (b[i].toNat:Int)=(b[i].toNat:Int):=ii (by omega) (by omega);go_upto_region 5 with fail
    go_quiet ((go_at_call 201;exact Calls.quiet_of_same (gi _ _ _)))
    go_wp2_with fail;go_ret;exact⟨by rw[HC.out];rfl,J2.out.drewN _⟩
  ·have HE:=qD (HQ.out.trans (zL (by simp;omega) (by simp;omega) (by simp;omega)));by_cases hl1:i<a.size
   all_goals
    first|have hx9:b.size<=i:=by omega|have hx9:a.size<=i:=by omega
    go_wp2_with fail;refine(gi _ _ _).mono ?_;rintro e w' ⟨rfl,rfl⟩;go_wp2_with fail;go_ret;exact⟨by rw[HE.out];simp,J.out⟩
def FD(x:aC):Prop:=∀(y:aC) (c d:VC) (w:World),RW w c x->RW w d y->
 Calls prog 156 #[c.val,d.val] w fun e w'=>e=.returned (.int .i64 (aY x y))/\Below w.heap.size w w'
theorem ib:∀x,FD x:=by
 intro x
 induction x using aC.ind with
 | h k n t l d ihl ihd=>
 intro y c e w hx hy;obtain⟨ck,cn,ct,cLA,cln,clc,cDA,cdn,cdc⟩:=c;obtain⟨ek,en,et,eLA,eln,elc,eDA,edn,edc⟩:=e;have hk:ck=k:=hx.open.k;have hn:cn=n:=hx.open.n;have ht:ct=t:=hx.open.t;subst hk hn ht;have hk2:ek=y.k:=hy.open.k;have hn2:en=y.n:=hy.open.n;have ht2:et=y.t:=hy.open.t
 have I0:Hid (jc w ⟨ck,cn,ct,cLA,cln,clc,cDA,cdn,cdc⟩ ⟨ek,en,et,eLA,eln,elc,eDA,edn,edc⟩ ((w.alloc (.cells #[.int .i64 ck,.int .i64 cn,.string ct,.slice cLA cln clc,.slice cDA cdn cdc] 29)).alloc (.cells #[.int .i64 ek,.int .i64 en,.string et,.slice eLA eln elc,.slice eDA edn edc] 29))):=
  qD ⟨(aG.Ii rfl).alloc _,aG.Ii (by simp),((Ju _ _).alloc (qL) _).alloc (by simp) _⟩
 cases hne:(ck != ek)
 ·have he:ck=ek:=by simpa using hne
  have hxy:(aC.mk ck cn ct l d).k=y.k:=by rw[<-hk2];exact he
  subst he;rcases qt ck with hi|ht' | hl|hd|ho
  ·have HV:Hid (aY (.mk ck cn ct l d) y=cM cn en):=by rw[Hid,fz hxy hi,hn2];rfl
   clear hx hy ihl ihd hk2 hn2 ht2 hxy;rcases hi with rfl|rfl|rfl
   all_goals
    go_enter Nb,NP;go_wp2_with fail;refine(gi _ _ _).mono ?_;rintro e w' ⟨rfl,rfl⟩;go_wp2_with fail;go_ret;exact⟨by rw[HV.out];rfl,I0.out.bel⟩
  ·have HV:Hid (aY (.mk ck cn ct l d) y=dP ct et):=by rw[Hid,eQ hxy ht',ht2];rfl
   have HT:Hid (ct.size<=aH):=hx.open.tsz;clear hx hy ihl ihd hk2 hn2 ht2 hxy;rcases ht' with rfl|rfl|rfl
   all_goals
    go_enter Nb,NP;go_wp2_with fail;refine(oc _ _ _ HT.out).mono ?_;rintro e w' ⟨rfl,hb⟩;go_wp2_with fail;go_ret;exact⟨by rw[HV.out];rfl,I0.out.bel.Ih hb⟩
  ·have HV:=qD (nF hxy hl);obtain⟨ps,hps,hsl⟩:=hx.sl;obtain⟨qs,hqs,hql⟩:=hy.sl;simp only at hsl hql;have hz1:=hsl.sz;have hz2:=hql.sz;unfold aH at hz1 hz2;have P1:=qD hsl;have P2:=qD hql;have HN1:Hid (cln=l.length):=hx.open.ln;have HN2:Hid (eln=y.l.length):=hy.open.ln;have HS1:Hid (ps.map Prod.snd=l):=hps;have HS2:Hid (qs.map Prod.snd=y.l):=hqs;have IH:=qD ihl;clear hx hy ihl ihd hk2 hn2 ht2 hxy hsl hql hps hqs;subst hl
   all_goals
    go_enter Nb,NP;go_wp2_with fail
    go_loopw [5] (fun v5 wr=>∃i:Nat,i<=cln/\i<=eln/\v5=.int .i64 i/\cx l y.l=cx (l.drop i) (y.l.drop i)/\jc w ⟨6,cn,ct,cLA,cln,clc,cDA,cdn,cdc⟩ ⟨6,en,et,eLA,eln,elc,eDA,edn,edc⟩ wr) (fun v5 _=>cln-(intOf v5).toNat)
    ·exact⟨0,KD _,KD _,rfl,rfl,I0.out⟩
    case round=>
     obtain⟨i,hi1,hi2,rfl,hq,I⟩:=hrel;have HQ:=qD hq;have J:=qD I;have q0:=I.b0.cell 3;have q1:=I.b1.cell 3;simp at q0 q1;clear hq;by_cases hlt:i<cln/\i<eln
     ·obtain⟨hl1,hl2⟩:=hlt;obtain⟨p,hp⟩:∃p,ps[i]?=some p:=⟨_,Jv (by have:=P1.out.sr.ln;omega)⟩;obtain⟨q,hq⟩:∃q,qs[i]?=some q:=⟨_,Jv (by have:=P2.out.sr.ln;omega)⟩;obtain⟨b1,o1,rfl,_,hu1,hr1⟩:=P1.out.Iq hp;obtain⟨b2,o2,rfl,_,hu2,hr2⟩:=P2.out.Iq hq;have g1:l[i]?=some p.2:=by rw[<-HS1.out,KP,hp];rfl
      have g2:y.l[i]?=some q.2:=by rw[<-HS2.out,KP,hq];rfl
      have HA:=qD (HQ.out.trans (yZ g1 g2));obtain⟨y0,y1,y2,y3,y4⟩:=hu1.keep (I.bel.block b1 hu1.lt);obtain⟨z0,z1,z2,z3,z4⟩:=hu2.keep (I.bel.block b2 hu2.lt);have E0:∀q:BW wr,q.val.cell? ⟨w.heap.size,3,none⟩=some (.slice (some ⟨b1,o1,none⟩) cln clc):=fun q=>q.cell (J.out.b0.cell 3);have E1:∀q:BW wr,q.val.cell? ⟨w.heap.size+1,3,none⟩=some (.slice (some ⟨b2,o2,none⟩) eln elc):=fun q=>q.cell (J.out.b1.cell 3);have Y0:∀k:BW wr,k.val.cell? ⟨b1,o1+i*5,none⟩=some (.int .i64 p.1.k):=fun k=>k.cell y0;have Y1:∀k:BW wr,k.val.cell? ⟨b1,o1+i*5+1,none⟩=some (.int .i64 p.1.n):=fun k=>k.cell y1;have Y2:∀k:BW wr,k.val.cell? ⟨b1,o1+i*5+2,none⟩=some (.string p.1.t):=fun k=>k.cell y2;have Y3:∀k:BW wr,k.val.cell? ⟨b1,o1+i*5+3,none⟩=some (.slice p.1.LA p.1.ln p.1.lc):=fun k=>k.cell y3;have Y4:∀k:BW wr,k.val.cell? ⟨b1,o1+i*5+4,none⟩=some (.slice p.1.DA p.1.dn p.1.dc):=fun k=>k.cell y4;have Z0:∀k:BW wr,k.val.cell? ⟨b2,o2+i*5,none⟩=some (.int .i64 q.1.k):=fun k=>k.cell z0;have Z1:∀k:BW wr,k.val.cell? ⟨b2,o2+i*5+1,none⟩=some (.int .i64 q.1.n):=fun k=>k.cell z1;have Z2:∀k:BW wr,k.val.cell? ⟨b2,o2+i*5+2,none⟩=some (.string q.1.t):=fun k=>k.cell z2;have Z3:∀k:BW wr,k.val.cell? ⟨b2,o2+i*5+3,none⟩=some (.slice q.1.LA q.1.ln q.1.lc):=fun k=>k.cell z3;have Z4:∀k:BW wr,k.val.cell? ⟨b2,o2+i*5+4,none⟩=some (.slice q.1.DA q.1.dn q.1.dc):=fun k=>k.cell z4
      have K1:Hid (∀k:BW wr,Calls prog 156 #[p.1.val,q.1.val] k.val fun e w''=>e=.returned (.int .i64 (aY p.2 q.2))/\∃k:BW wr,w''=k.val):=fun k=>
       Calls.bw (IH.out p.2 (Jx g1) q.2 p.1 q.1 k.val ((hr1.step I.bel).step k.below) ((hr2.step I.bel).step k.below))
      have hi0:(0:Int)<=(i:Int):=by omega
      have hi3:(i:Int)<(cln:Int):=by omega
      have hi4:(i:Int)<(eln:Int):=by omega
      clear hp hq hu1 hu2 hr1 hr2 g1 g2 y0 y1 y2 y3 y4 z0 z1 z2 z3 z4 I;go_upto_region 16 with fail
      refine aM (by kernel_rfl) (by kernel_rfl) ?_
      repeat(go_big_quiet_step (with_reducible exact K1.out _))
      refine Kd ?_;rintro _ ⟨kw,rfl⟩;have J2:=qD (J.out.step kw.below);clear E0 E1 Y0 Y1 Y2 Y3 Y4 Z0 Z1 Z2 Z3 Z4 K1 hi0 hi3 hi4;generalize kw.val=w2 at*;cases hc:(aY p.2 q.2 != 0)
      ·have HC:Hid (cx l y.l=cx (l.drop (i+1)) (y.l.drop (i+1))):=by
        have:aY p.2 q.2=0:=by simpa using hc
        rw[Hid,HA.out,KU (by simpa using this)]
       go_wp2_with fail;go_roundw
       ·exact⟨i+1,by omega,by omega,by go_num,HC.out,J2.out⟩
       ·simp[intOf];omega
      ·have HC:Hid (cx l y.l=aY p.2 q.2):=by
        rw[Hid,HA.out,Kb (by simpa using hc)]
       go_wp2_with fail;go_ret;exact⟨by rw[HV.out];show _=Ending.returned (.int .i64 (cx l y.l));rw[HC.out];rfl,J2.out.bel⟩
     ·have HE:=qD (HQ.out.trans (uJ (by have:=HN1.out;omega) (by have:=HN2.out;omega) (by have:=HN1.out;have:=HN2.out;omega)));clear I;by_cases hl1:i<cln
      all_goals
       first|have hx9:eln<=i:=by omega|have hx9:cln<=i:=by omega
       go_wp2_with fail;refine(gi _ _ _).mono ?_;rintro e w' ⟨rfl,rfl⟩;go_wp2_with fail;go_ret;exact⟨by rw[HV.out];show _=Ending.returned (.int .i64 (cx l y.l));rw[HE.out,<-HN1.out,<-HN2.out];rfl,J.out.bel⟩
  ·have HV:=qD (ov hxy hd);obtain⟨ps,hps,hsl⟩:=hx.sd;obtain⟨qs,hqs,hql⟩:=hy.sd;simp only at hsl hql;have hz1:=hsl.sz;have hz2:=hql.sz;unfold aH at hz1 hz2;have P1:=qD hsl;have P2:=qD hql;have HN1:Hid (cdn=d.length):=hx.open.dn;have HN2:Hid (edn=y.d.length):=hy.open.dn;have HS1:Hid (ps.map Prod.snd=d):=hps;have HS2:Hid (qs.map Prod.snd=y.d):=hqs;have IH:=qD ihd;clear hx hy ihl ihd hk2 hn2 ht2 hxy hsl hql hps hqs;subst hd
   all_goals
    go_enter Nb,NP;go_wp2_with fail
    go_loopw [7] (fun v7 wr=>∃i:Nat,i<=cdn/\i<=edn/\v7=.int .i64 i/\cH d y.d=cH (d.drop i) (y.d.drop i)/\jc w ⟨5,cn,ct,cLA,cln,clc,cDA,cdn,cdc⟩ ⟨5,en,et,eLA,eln,elc,eDA,edn,edc⟩ wr) (fun v7 _=>cdn-(intOf v7).toNat)
    ·exact⟨0,KD _,KD _,rfl,rfl,I0.out⟩
    case round=>
     obtain⟨i,hi1,hi2,rfl,hq,I⟩:=hrel;have HQ:=qD hq;have J:=qD I;have q0:=I.b0.cell 4;have q1:=I.b1.cell 4;simp at q0 q1;clear hq;by_cases hlt:i<cdn/\i<edn
     ·obtain⟨hl1,hl2⟩:=hlt;obtain⟨p,hp⟩:∃p,ps[i]?=some p:=⟨_,Jv (by have:=P1.out.sr.ln;omega)⟩;obtain⟨q,hq⟩:∃q,qs[i]?=some q:=⟨_,Jv (by have:=P2.out.sr.ln;omega)⟩;obtain⟨b1,o1,rfl,_,hs1,hu1,hr1⟩:=P1.out.Iq hp;obtain⟨b2,o2,rfl,_,hs2,hu2,hr2⟩:=P2.out.Iq hq;have g1:d[i]?=some p.2:=by rw[<-HS1.out,KP,hp];rfl
      have g2:y.d[i]?=some q.2:=by rw[<-HS2.out,KP,hq];rfl
      have HA:=qD (HQ.out.trans (ya g1 g2));obtain⟨y0,y1,y2,y3,y4⟩:=hu1.keep (I.bel.block b1 hu1.lt);obtain⟨z0,z1,z2,z3,z4⟩:=hu2.keep (I.bel.block b2 hu2.lt);have n0:=(I.bel.cell (p:=⟨b1,o1+i*6,none⟩) hu1.lt).trans hs1;have n1:=(I.bel.cell (p:=⟨b2,o2+i*6,none⟩) hu2.lt).trans hs2;have N0:∀k:BW wr,k.val.cell? ⟨b1,o1+i*6,none⟩=some (.string p.2.s):=fun k=>k.cell n0;have N1:∀k:BW wr,k.val.cell? ⟨b2,o2+i*6,none⟩=some (.string q.2.s):=fun k=>k.cell n1;have E0:∀q:BW wr,q.val.cell? ⟨w.heap.size,4,none⟩=some (.slice (some ⟨b1,o1,none⟩) cdn cdc):=fun q=>q.cell (J.out.b0.cell 4);have E1:∀q:BW wr,q.val.cell? ⟨w.heap.size+1,4,none⟩=some (.slice (some ⟨b2,o2,none⟩) edn edc):=fun q=>q.cell (J.out.b1.cell 4);have Y0:∀k:BW wr,k.val.cell? ⟨b1,o1+i*6+1,none⟩=some (.int .i64 p.1.k):=fun k=>k.cell y0;have Y1:∀k:BW wr,k.val.cell? ⟨b1,o1+i*6+1+1,none⟩=some (.int .i64 p.1.n):=fun k=>k.cell y1;have Y2:∀k:BW wr,k.val.cell? ⟨b1,o1+i*6+1+2,none⟩=some (.string p.1.t):=fun k=>k.cell y2;have Y3:∀k:BW wr,k.val.cell? ⟨b1,o1+i*6+1+3,none⟩=some (.slice p.1.LA p.1.ln p.1.lc):=fun k=>k.cell y3;have Y4:∀k:BW wr,k.val.cell? ⟨b1,o1+i*6+1+4,none⟩=some (.slice p.1.DA p.1.dn p.1.dc):=fun k=>k.cell y4;have Z0:∀k:BW wr,k.val.cell? ⟨b2,o2+i*6+1,none⟩=some (.int .i64 q.1.k):=fun k=>k.cell z0;have Z1:∀k:BW wr,k.val.cell? ⟨b2,o2+i*6+1+1,none⟩=some (.int .i64 q.1.n):=fun k=>k.cell z1;have Z2:∀k:BW wr,k.val.cell? ⟨b2,o2+i*6+1+2,none⟩=some (.string q.1.t):=fun k=>k.cell z2
      have Z3:∀k:BW wr,k.val.cell? ⟨b2,o2+i*6+1+3,none⟩=some (.slice q.1.LA q.1.ln q.1.lc):=fun k=>k.cell z3;have Z4:∀k:BW wr,k.val.cell? ⟨b2,o2+i*6+1+4,none⟩=some (.slice q.1.DA q.1.dn q.1.dc):=fun k=>k.cell z4
      have KB:Hid (∀(W:World),Below w.heap.size w W->∀k:BW W,Calls prog 156 #[p.1.val,q.1.val] k.val fun e w''=>e=.returned (.int .i64 (aY p.2.v q.2.v))/\∃k:BW W,w''=k.val):=fun W hW k=>
       Calls.bw (IH.out p.2 (Jx g1) q.2.v p.1 q.1 k.val ((hr1.step hW).step k.below) ((hr2.step hW).step k.below))
      have hi0:(0:Int)<=(i:Int):=by omega
      have hi3:(i:Int)<(cdn:Int):=by omega
      have hi4:(i:Int)<(edn:Int):=by omega
      clear hq hu1 hu2 hr1 hr2 g1 g2 y0 y1 y2 y3 y4 z0 z1 z2 z3 z4 I hs1 hs2 n0 n1
      have K2:Hid (∀k:BW wr,Calls prog 202 #[.string p.2.s,.string q.2.s] k.val fun e w''=>e=.returned (.int .i64 (dP p.2.s q.2.s))/\∃k:BW wr,w''=k.val):=fun k=>
       Calls.bw (oc _ _ _ (P1.out.ns p (Jx hp)))
      clear hp;go_upto_region 24 with fail
      refine aM (by kernel_rfl) (by kernel_rfl) ?_
      repeat(go_big_quiet_step (with_reducible exact K2.out _))
      refine Kd ?_;rintro _ ⟨kw,rfl⟩;clear q0 q1;cases hb:(dP p.2.s q.2.s != 0)
      ·have hb0:(dP p.2.s q.2.s==0)=true:=by simpa using hb
       have HA':Hid (cH d y.d=if aY p.2.v q.2.v≠0 then aY p.2.v q.2.v else cH (d.drop (i+1)) (y.d.drop (i+1))):=by
        have:dP p.2.s q.2.s=0:=by simpa using hb
        rw[Hid,HA.out,KU (by simpa using this)]
       have J1:=qD (J.out.step kw.below);have E0':∀q:BW kw.val,q.val.cell? ⟨w.heap.size,4,none⟩=some (.slice (some ⟨b1,o1,none⟩) cdn cdc):=fun q=>q.cell (E0 kw);have E1':∀q:BW kw.val,q.val.cell? ⟨w.heap.size+1,4,none⟩=some (.slice (some ⟨b2,o2,none⟩) edn edc):=fun q=>q.cell (E1 kw);have Y0':∀k:BW kw.val,k.val.cell? ⟨b1,o1+i*6+1,none⟩=some (.int .i64 p.1.k):=fun k=>k.cell (Y0 kw);have Y1':∀k:BW kw.val,k.val.cell? ⟨b1,o1+i*6+1+1,none⟩=some (.int .i64 p.1.n):=fun k=>k.cell (Y1 kw);have Y2':∀k:BW kw.val,k.val.cell? ⟨b1,o1+i*6+1+2,none⟩=some (.string p.1.t):=fun k=>k.cell (Y2 kw);have Y3':∀k:BW kw.val,k.val.cell? ⟨b1,o1+i*6+1+3,none⟩=some (.slice p.1.LA p.1.ln p.1.lc):=fun k=>k.cell (Y3 kw);have Y4':∀k:BW kw.val,k.val.cell? ⟨b1,o1+i*6+1+4,none⟩=some (.slice p.1.DA p.1.dn p.1.dc):=fun k=>k.cell (Y4 kw);have Z0':∀k:BW kw.val,k.val.cell? ⟨b2,o2+i*6+1,none⟩=some (.int .i64 q.1.k):=fun k=>k.cell (Z0 kw);have Z1':∀k:BW kw.val,k.val.cell? ⟨b2,o2+i*6+1+1,none⟩=some (.int .i64 q.1.n):=fun k=>k.cell (Z1 kw);have Z2':∀k:BW kw.val,k.val.cell? ⟨b2,o2+i*6+1+2,none⟩=some (.string q.1.t):=fun k=>k.cell (Z2 kw);have Z3':∀k:BW kw.val,k.val.cell? ⟨b2,o2+i*6+1+3,none⟩=some (.slice q.1.LA q.1.ln q.1.lc):=fun k=>k.cell (Z3 kw);have Z4':∀k:BW kw.val,k.val.cell? ⟨b2,o2+i*6+1+4,none⟩=some (.slice q.1.DA q.1.dn q.1.dc):=fun k=>k.cell (Z4 kw)
       have K1':Hid (∀k:BW kw.val,Calls prog 156 #[p.1.val,q.1.val] k.val fun e w''=>e=.returned (.int .i64 (aY p.2.v q.2.v))/\∃k:BW kw.val,w''=k.val):=fun k=>
        KB.out kw.val (J1.out.bel) k
       clear E0 E1 Y0 Y1 Y2 Y3 Y4 Z0 Z1 Z2 Z3 Z4 N0 N1 K2;generalize kw.val=w2 at*;go_upto_region 26 with fail
       refine aM (by kernel_rfl) (by kernel_rfl) ?_
       repeat(go_big_quiet_step (with_reducible exact K1'.out _))
       refine Kd ?_;rintro _ ⟨kv,rfl⟩;have J2:=qD (J1.out.step kv.below);clear E0' E1' Y0' Y1' Y2' Y3' Y4' Z0' Z1' Z2' Z3' Z4' K1' hi0 hi3 hi4;generalize kv.val=w3 at*;cases hc:(aY p.2.v q.2.v != 0)
       ·have HC:Hid (cH d y.d=cH (d.drop (i+1)) (y.d.drop (i+1))):=by
         have:aY p.2.v q.2.v=0:=by simpa using hc
         rw[Hid,HA'.out,KU (by simpa using this)]
        go_wp2_with fail;go_roundw
        ·exact⟨i+1,by omega,by omega,by go_num,HC.out,J2.out⟩
        ·simp[intOf];omega
       ·have HC:Hid (cH d y.d=aY p.2.v q.2.v):=by
         rw[Hid,HA'.out,Kb (by simpa using hc)]
        go_wp2_with fail;go_ret;exact⟨by rw[HV.out];show _=Ending.returned (.int .i64 (cH d y.d));rw[HC.out];rfl,J2.out.bel⟩
      ·have hb0:(dP p.2.s q.2.s==0)=false:=by simpa using hb
       have HC:Hid (cH d y.d=dP p.2.s q.2.s):=by
        rw[Hid,HA.out,Kb (by simpa using hb)]
       have J2:=qD (J.out.step kw.below);clear E0 E1 Y0 Y1 Y2 Y3 Y4 Z0 Z1 Z2 Z3 Z4 N0 N1 K2 hi0 hi3 hi4;generalize kw.val=w2 at*;go_wp2_with fail;go_ret;exact⟨by rw[HV.out];show _=Ending.returned (.int .i64 (cH d y.d));rw[HC.out];rfl,J2.out.bel⟩
     ·have HE:=qD (HQ.out.trans (uK (by have:=HN1.out;omega) (by have:=HN2.out;omega) (by have:=HN1.out;have:=HN2.out;omega)));clear I;by_cases hl1:i<cdn
      all_goals
       first|have hx9:edn<=i:=by omega|have hx9:cdn<=i:=by omega
       go_wp2_with fail;refine(gi _ _ _).mono ?_;rintro e w' ⟨rfl,rfl⟩;go_wp2_with fail;go_ret;exact⟨by rw[HV.out];show _=Ending.returned (.int .i64 (cH d y.d));rw[HE.out,<-HN1.out,<-HN2.out];rfl,J.out.bel⟩
  ·obtain⟨h3,h9,h10,h4,h7,h8,h6,h5⟩:=ho;have HV:=qD (ef hxy h3 h9 h10 h4 h7 h8 h6 h5);clear hx hy ihl ihd hk2 hn2 ht2 hxy;have e3:(ck==3)=false:=by simpa using h3
   have e9:(ck==9)=false:=by simpa using h9
   have e10:(ck==10)=false:=by simpa using h10
   have e4:(ck==4)=false:=by simpa using h4
   have e7:(ck==7)=false:=by simpa using h7
   have e8:(ck==8)=false:=by simpa using h8
   have e6:(ck==6)=false:=by simpa using h6
   have e5:(ck==5)=false:=by simpa using h5
   clear h3 h9 h10 h4 h7 h8 h6 h5;go_enter Nb,NP;go_wp2_with fail;go_ret;exact⟨by rw[HV.out];rfl,I0.out.bel⟩
 ·have HV:Hid (aY (.mk ck cn ct l d) y=cM ck ek):=by
   have:ck≠ek:=by simpa using hne
   rw[Hid,au (by rw[<-hk2];exact this),<-hk2];rfl
  clear hx hy ihl ihd hk2 hn2 ht2;go_enter Nb,NP;go_wp2_with fail;refine(gi _ _ _).mono ?_;rintro e w' ⟨rfl,rfl⟩;go_wp2_with fail;go_ret;exact⟨by rw[HV.out];rfl,I0.out.bel⟩
end
structure DY(w4:World)(l m:List (cy×cy))(i k:Nat)(v:Value)(cs:List PS)(wr:World):Prop where
 own:wr.ownsRow w4.heap.size 167 12 v cs.length (aO cr cs)
 me:yi aZ je l m (l.drop i) (m.drop k) (cs.map ai)
 le:cs.length<=i+k
 ok:∀x∈cs,rz w4 x
 bel:Below w4.heap.size w4 wr
structure Ao(w4:World)(l m:List (cy×cy))(i k:Nat)(v:Value)(cs:List PS)(ga:Nat)(u:PS)(wr:World):Prop where
 i:DY w4 l m i k v cs wr
 b:aG wr ga 167 (fp u)
 hg:w4.heap.size<=ga
 hno:v.ownBlock≠some ga
 oku:rz w4 u
section
variable {l r xs:List ByteArray} {b c k i g o n off B m q size S:Nat} {op a x y:Int} {s:ByteArray} {w w' wr w4:World} {A:Option Addr} {e t:TypeId} {cs:Array Value} {v:Value}
section
variable {w4:World} {l m:List (cy×cy)} {i k:Nat} {v:Value} {cs:List PS} {ga:Nat} {u:PS} {wr w':World}
theorem DY.step(h:DY w4 l m i k v cs wr)(hb:Below wr.heap.size wr w'):DY w4 l m i k v cs w':=⟨bJ h.own hb,h.me,h.le,h.ok,h.bel.Ih hb⟩
theorem Ao.step(h:Ao w4 l m i k v cs ga u wr)(hb:Below wr.heap.size wr w'):Ao w4 l m i k v cs ga u w':=⟨h.i.step hb,h.b.step hb,h.hg,h.hno,h.oku⟩
theorem DY.Ip(h:DY w4 l m i k v cs wr)(hg:w4.heap.size<=ga)(hno:v.ownBlock≠some ga)(off:Nat)(q:PC):DY w4 l m i k v cs (qA wr ga off q):=
 ⟨gw h.own fun g hh=>zE (by rintro rfl;exact hno hh),h.me,h.le,h.ok,qB h.bel hg _ _⟩
theorem Ao.Je(h:Ao w4 l m i k v cs ga u wr)(q:PC)(hq:Ec w4 q):Ao w4 l m i k v cs ga (q,u.2) (qA wr ga 0 q):=
 ⟨h.i.Ip h.hg h.hno 0 q,(((((h.b.Ij 0 _).Ij 1 _).Ij 2 _).Ij 3 _).Ij 4 _).Ij 5 _,h.hg,h.hno,⟨hq,h.oku.2⟩⟩
theorem Ao.Jf(h:Ao w4 l m i k v cs ga u wr)(q:PC)(hq:Ec w4 q):Ao w4 l m i k v cs ga (u.1,q) (qA wr ga 6 q):=
 ⟨h.i.Ip h.hg h.hno 6 q,(((((h.b.Ij 6 _).Ij 7 _).Ij 8 _).Ij 9 _).Ij 10 _).Ij 11 _,h.hg,h.hno,⟨h.oku.1,hq⟩⟩
end
theorem BC{a b:cy}(h:aZ a b<0):nO aZ a b=b:=Kb h
theorem BG{a b:cy}(h:¬aZ a b<0):nO aZ a b=a:=KU h
theorem BH{a b:cy}(h:aZ b a<0):ll aZ a b=b:=Kb h
theorem BI{a b:cy}(h:¬aZ b a<0):ll aZ a b=a:=KU h
theorem BJ(is js:List PI)(A B:Option Addr)(n c n' c':Nat)(w:World)(hT:cY w)(h:SI w A n c is)(h':SI w B n' c' js)(hn:n<=400000000)(hn':n'<=400000000):
 Calls prog 128 #[.slice A n c,.slice B n' c'] w (oY (fun a=>ch aZ a (aU (is.map cB))/\ch aZ a (aU (js.map cB))) (n+n') w):=by
 obtain⟨j0,hj0,hy0,hy1,hy2⟩:=LM jB;have HT:=qD hT;have H:=qD h;have H':=qD h';have HL:=qD h.sr.ln;have HL':=qD h'.sr.ln;clear hT h h';go_enter func128,ntmps128;go_wp2_with fail;refine(nW is A n c _ HT.out H.out (by omega)).mono ?_;rintro e w1 ⟨A1,m1,c1,xs,rfl,hxs,_,hm1,hss,hb1⟩;have HX:=qD hxs;have HS1:=qD hss;have HX1:=qD hss.sr.ln;have HB1:=qD hb1;have hm1n:m1<=n:=by have:=HL.out;omega
 clear hxs hss hb1 hm1;go_wp2_with fail;refine(jY xs A1 m1 c1 _ HS1.out (by omega)).mono ?_;rintro e w2 ⟨A2,nl,c2,ys,rfl,⟨S,hS,hys⟩,_,_,hss2,hm2,hb2⟩;have HY:=qD (hS.merge (sN HX.out));rw[<-hys] at HY;have HS2:=qD hss2;have HB2:=qD (HB1.out.Ih hb2);have hnl:nl<=n:=by have:=HX1.out;omega
 clear hS hys hss2 hm2 hb2 HB1 HS1;go_wp2_with fail;refine(nW js B n' c' _ (HT.out.step HB2.out) (H'.out.step HB2.out) (by omega)).mono ?_;rintro e w3 ⟨A3,m3,c3,xs',rfl,hxs,_,hm3,hss,hb3⟩;have HX':=qD hxs;have HS3:=qD hss;have HX3:=qD hss.sr.ln;have HB3:=qD (HB2.out.Ih hb3);have HL3:=qD (HS2.out.step hb3);have hm3n:m3<=n':=by have:=HL'.out;omega
 clear hxs hss hb3 hm3 HS2 HB2;go_wp2_with fail;refine(jY xs' A3 m3 c3 _ HS3.out (by omega)).mono ?_;rintro e w4 ⟨A4,nr,c4,zs,rfl,⟨S',hS',hzs⟩,_,_,hss4,hm4,hb4⟩;have HZ:=qD (hS'.merge (sN HX'.out));rw[<-hzs] at HZ;have HR:=qD hss4;have HLf:=qD (HL3.out.step hb4);have HB4:=qD (HB3.out.Ih hb4);have hnr:nr<=n':=by have:=HX3.out;omega
 have HLl:=qD HLf.out.sr.ln;have HRl:=qD hss4.sr.ln;have NL:Hid (NF aZ je (ys.map ai)):=qD HY.out.1.1;have NR:Hid (NF aZ je (zs.map ai)):=qD HZ.out.1.1;clear hS' hzs hss4 hm4 hb4 HB3 HL3 HS3;go_wp2_with fail
 go_loopw [7,8,9] (fun v7 v8 v9 wr=>∃(i k:Nat) (cs:List PS),i<=nl/\k<=nr/\v8=.int .i64 i/\v9=.int .i64 k/\DY w4 (ys.map ai) (zs.map ai) i k v7 cs wr) (fun _ v8 v9 _=>(nl-(intOf v8).toNat)+(nr-(intOf v9).toNat))
 ·exact⟨0,0,[],KD _,KD _,rfl,rfl,⟨bX _ _ _ _,yi.start,qL,by simp,Ju _ _⟩⟩
 case round=>
  obtain⟨i,k,cs,hi,hk,rfl,rfl,I⟩:=hrel;have J:=qD I;by_cases hgo:i<nl/\k<nr
  ·obtain⟨hlt,hkt⟩:=hgo;obtain⟨s,hs⟩:∃s,ys[i]?=some s:=⟨_,Jv (by have:=HLl.out;omega)⟩;obtain⟨t,ht⟩:∃t,zs[k]?=some t:=⟨_,Jv (by have:=HRl.out;omega)⟩;obtain⟨b,off,rfl,hbl,hat,hoks⟩:=HLf.out.at hs;obtain⟨b',off',rfl,hbl',hat',hokt⟩:=HR.out.at ht;have DL:Hid ((ys.map ai).drop i=ai s::(ys.map ai).drop (i+1)):=qD (dX (by rw[KP,hs];rfl));have DR:Hid ((zs.map ai).drop k=ai t::(zs.map ai).drop (k+1)):=qD (dX (by rw[KP,ht];rfl));have OS:=qD hoks;have OT:=qD hokt;have HAs:=qD hat;have HAt:=qD hat';have hbr:b<wr.heap.size:=by have:=I.bel.size;omega
   have hle:=I.le;obtain⟨⟨⟨p0,p1,p2,p3,p4⟩,p5⟩,⟨⟨q0,q1,q2,q3,q4⟩,q5⟩⟩:=hat.keep (I.bel.block b hbl);clear hs ht hat hat' hoks hokt I;go_upto_region 6 with fail
   have KB:Ao w4 (ys.map ai) (zs.map ai) i k u7 cs wr.heap.size s (wr.alloc (.cells (fp s) 167)):=
    ⟨J.out.step ((Ju wr.heap.size wr).alloc (qL) _),aG.Ii rfl,J.out.bel.size,fun e=>absurd (fH J.out.own e) (by omega),OS.out⟩
   change (Code.region 6 _ _).wp _ _ _ (wr.alloc (.cells (fp s) 167));generalize wr.alloc (.cells (fp s) 167)=wa at*;generalize wr.heap.size=ga at*;have LB:=qD KB;clear p0 p1 p2 p3 p4 p5 q0 q1 q2 q3 q4 q5 J KB hbr;have hga:=LB.out.hg;have hbg:b'≠ga:=by omega
   have hbg2:b≠ga:=by omega
   obtain⟨⟨⟨x0,x1,x2,x3,x4⟩,x5⟩,_⟩:=qG.Ig LB.out.b;obtain⟨⟨⟨y0,y1,y2,y3,y4⟩,y5⟩,_⟩:=HAt.out.keep (LB.out.i.bel.block b' hbl');have X0:∀kk:BW wa,kk.val.cell? ⟨ga,0,none⟩=some (.int .i64 s.1.1.1.k):=fun kk=>kk.cell x0;have X1:∀kk:BW wa,kk.val.cell? ⟨ga,1,none⟩=some (.int .i64 s.1.1.1.n):=fun kk=>kk.cell x1;have X2:∀kk:BW wa,kk.val.cell? ⟨ga,2,none⟩=some (.string s.1.1.1.t):=fun kk=>kk.cell x2;have X3:∀kk:BW wa,kk.val.cell? ⟨ga,3,none⟩=some (.slice s.1.1.1.LA s.1.1.1.ln s.1.1.1.lc):=fun kk=>kk.cell x3;have X4:∀kk:BW wa,kk.val.cell? ⟨ga,4,none⟩=some (.slice s.1.1.1.DA s.1.1.1.dn s.1.1.1.dc):=fun kk=>kk.cell x4;have X5:∀kk:BW wa,kk.val.cell? ⟨ga,5,none⟩=some (.bool s.1.2):=fun kk=>kk.cell x5;have Y0:∀kk:BW wa,kk.val.cell? ⟨b',off'+k*12,none⟩=some (.int .i64 t.1.1.1.k):=fun kk=>kk.cell y0;have Y1:∀kk:BW wa,kk.val.cell? ⟨b',off'+k*12+1,none⟩=some (.int .i64 t.1.1.1.n):=fun kk=>kk.cell y1;have Y2:∀kk:BW wa,kk.val.cell? ⟨b',off'+k*12+2,none⟩=some (.string t.1.1.1.t):=fun kk=>kk.cell y2;have Y3:∀kk:BW wa,kk.val.cell? ⟨b',off'+k*12+3,none⟩=some (.slice t.1.1.1.LA t.1.1.1.ln t.1.1.1.lc):=fun kk=>kk.cell y3;have Y4:∀kk:BW wa,kk.val.cell? ⟨b',off'+k*12+4,none⟩=some (.slice t.1.1.1.DA t.1.1.1.dn t.1.1.1.dc):=fun kk=>kk.cell y4;have Y5:∀kk:BW wa,kk.val.cell? ⟨b',off'+k*12+5,none⟩=some (.bool t.1.2):=fun kk=>kk.cell y5;have i0:(0:Int)<=(k:Int):=by omega
   have i1:(k:Int)<(nr:Int):=by omega
   have K1:Hid (∀kk:BW wa,Calls prog 178 #[oR s.1,oR t.1] kk.val fun e w''=>e=.returned (.int .i64 (aZ (cP s.1) (cP t.1)))/\∃kk:BW wa,w''=kk.val):=fun kk=>
    Calls.bw (dr s.1 t.1 kk.val ((OS.out.1.step LB.out.i.bel).step kk.below) ((OT.out.1.step LB.out.i.bel).step kk.below))
   clear x0 x1 x2 x3 x4 x5 y0 y1 y2 y3 y4 y5;refine aM (by kernel_rfl) (by kernel_rfl) ?_
   repeat(go_big_quiet_step (with_reducible exact K1.out _))
   refine Kd ?_;rintro _ ⟨kw,rfl⟩;have L1:=qD (LB.out.step kw.below);clear X0 X1 X2 X3 X4 X5 Y0 Y1 Y2 Y3 Y4 Y5 K1 i0 i1 LB;generalize kw.val=wb at*
   go_upto_if 39 with fail
   go_cut [] (fun wx=>∃f:PC,cP f=nO aZ (cP s.1) (cP t.1)/\Ao w4 (ys.map ai) (zs.map ai) i k u7 cs ga (f,s.2) wx)
   case first=>
    by_cases hc:aZ (cP s.1) (cP t.1)<0
    ·have HC:=qD hc;obtain⟨⟨⟨x0,x1,x2,x3,x4⟩,x5⟩,_⟩:=qG.Ig L1.out.b;obtain⟨⟨⟨y0,y1,y2,y3,y4⟩,y5⟩,_⟩:=HAt.out.keep (L1.out.i.bel.block b' hbl');have z:=L1.out.b.frozen;go_wp2_with fail;go_meet;exact⟨t.1,(BC HC.out).symm,L1.out.Je t.1 OT.out.1⟩
    ·have HC:=qD hc;go_wp2_with fail;go_meet;exact⟨s.1,(BG (by have:=HC.out;omega)).symm,L1.out⟩
   case rest=>
    obtain⟨f,hf,L2'⟩:=hcut;have HFm:=qD hf;have L2:=qD L2';clear hf L2' L1;obtain⟨_,⟨⟨y0,y1,y2,y3,y4⟩,y5⟩⟩:=qG.Ig L2.out.b;obtain⟨_,⟨⟨x0,x1,x2,x3,x4⟩,x5⟩⟩:=HAt.out.keep (L2.out.i.bel.block b' hbl');go_upto_region 8 with fail
    have X0:∀kk:BW wc,kk.val.cell? ⟨b',off'+k*12+6,none⟩=some (.int .i64 t.2.1.1.k):=fun kk=>kk.cell x0;have X1:∀kk:BW wc,kk.val.cell? ⟨b',off'+k*12+6+1,none⟩=some (.int .i64 t.2.1.1.n):=fun kk=>kk.cell x1;have X2:∀kk:BW wc,kk.val.cell? ⟨b',off'+k*12+6+2,none⟩=some (.string t.2.1.1.t):=fun kk=>kk.cell x2;have X3:∀kk:BW wc,kk.val.cell? ⟨b',off'+k*12+6+3,none⟩=some (.slice t.2.1.1.LA t.2.1.1.ln t.2.1.1.lc):=fun kk=>kk.cell x3;have X4:∀kk:BW wc,kk.val.cell? ⟨b',off'+k*12+6+4,none⟩=some (.slice t.2.1.1.DA t.2.1.1.dn t.2.1.1.dc):=fun kk=>kk.cell x4;have X5:∀kk:BW wc,kk.val.cell? ⟨b',off'+k*12+6+5,none⟩=some (.bool t.2.2):=fun kk=>kk.cell x5;have Y0:∀kk:BW wc,kk.val.cell? ⟨ga,6,none⟩=some (.int .i64 s.2.1.1.k):=fun kk=>kk.cell y0;have Y1:∀kk:BW wc,kk.val.cell? ⟨ga,7,none⟩=some (.int .i64 s.2.1.1.n):=fun kk=>kk.cell y1;have Y2:∀kk:BW wc,kk.val.cell? ⟨ga,8,none⟩=some (.string s.2.1.1.t):=fun kk=>kk.cell y2;have Y3:∀kk:BW wc,kk.val.cell? ⟨ga,9,none⟩=some (.slice s.2.1.1.LA s.2.1.1.ln s.2.1.1.lc):=fun kk=>kk.cell y3;have Y4:∀kk:BW wc,kk.val.cell? ⟨ga,10,none⟩=some (.slice s.2.1.1.DA s.2.1.1.dn s.2.1.1.dc):=fun kk=>kk.cell y4;have Y5:∀kk:BW wc,kk.val.cell? ⟨ga,11,none⟩=some (.bool s.2.2):=fun kk=>kk.cell y5;have i0:(0:Int)<=(k:Int):=by omega
    have i1:(k:Int)<(nr:Int):=by omega
    have K1:Hid (∀kk:BW wc,Calls prog 178 #[oR t.2,oR s.2] kk.val fun e w''=>e=.returned (.int .i64 (aZ (cP t.2) (cP s.2)))/\∃kk:BW wc,w''=kk.val):=fun kk=>
     Calls.bw (dr t.2 s.2 kk.val ((OT.out.2.step L2.out.i.bel).step kk.below) ((OS.out.2.step L2.out.i.bel).step kk.below))
    clear x0 x1 x2 x3 x4 x5 y0 y1 y2 y3 y4 y5;refine aM (by kernel_rfl) (by kernel_rfl) ?_
    repeat(go_big_quiet_step (with_reducible exact K1.out _))
    refine Kd ?_;rintro _ ⟨kw,rfl⟩;have L3:=qD (L2.out.step kw.below);clear X0 X1 X2 X3 X4 X5 Y0 Y1 Y2 Y3 Y4 Y5 K1 i0 i1 L2;generalize kw.val=wd at*
    go_upto_if 54 with fail
    go_cut [] (fun wx=>∃g:PC,cP g=ll aZ (cP s.2) (cP t.2)/\Ao w4 (ys.map ai) (zs.map ai) i k u7 cs ga (f,g) wx)
    case first=>
     by_cases hc:aZ (cP t.2) (cP s.2)<0
     ·have HC:=qD hc;obtain⟨_,⟨⟨x0,x1,x2,x3,x4⟩,x5⟩⟩:=qG.Ig L3.out.b;obtain⟨_,⟨⟨y0,y1,y2,y3,y4⟩,y5⟩⟩:=HAt.out.keep (L3.out.i.bel.block b' hbl');have z:=L3.out.b.frozen;go_wp2_with fail;go_meet;exact⟨t.2,(BH HC.out).symm,L3.out.Jf t.2 OT.out.2⟩
     ·have HC:=qD hc;go_wp2_with fail;go_meet;exact⟨s.2,(BI (by have:=HC.out;omega)).symm,L3.out⟩
    case rest=>
     obtain⟨g,hg,L4'⟩:=hcut;have HGm:=qD hg;have L4:=qD L4';clear hg L4' L3;obtain⟨⟨⟨x0,x1,x2,x3,x4⟩,x5⟩,⟨⟨y0,y1,y2,y3,y4⟩,y5⟩⟩:=qG.Ig L4.out.b;go_wp2_with fail;refine(dr f g _ (L4.out.oku.1.step L4.out.i.bel) (L4.out.oku.2.step L4.out.i.bel)).mono ?_;rintro e w6 ⟨rfl,hb6⟩;have L5:=qD (L4.out.step hb6);clear hb6 x0 x1 x2 x3 x4 x5 y0 y1 y2 y3 y4 y5 L4
     go_upto_if 66 with fail
     go_cut [7] (fun v7 wx=>∃ds:List PS,wx.ownsRow w4.heap.size 167 12 v7 ds.length (aO cr ds)/\ds.map ai=oN aZ (cs.map ai) (cP f,cP g)/\ds.length<=i+k+1/\(∀x∈ds,rz w4 x)/\Below w4.heap.size w4 wx)
     case first=>
      by_cases hc:aZ (cP f) (cP g)<0
      ·have HC:=qD hc;obtain⟨⟨⟨x0,x1,x2,x3,x4⟩,x5⟩,⟨⟨y0,y1,y2,y3,y4⟩,y5⟩⟩:=qG.Ig L5.out.b;have hlo6:w4.heap.size<=w6.heap.size:=L5.out.i.bel.size;have LK:=qD (L5.out.i.step ((Ju w6.heap.size w6).alloc (qL) (Obj.cells (fp (f,g)) 167)));go_wp2_with (at_builtin;refine aJ _ rfl _ _ 163 rfl w4.heap.size 167 j0 (tQ (((VC.zero,aC.zero),false),((VC.zero,aC.zero),false))) 12 176 Lx hj0 hy0 hy1 hy2 rfl (by decide) u7 cs.length (aO cr cs) rfl LK.out.own _ _ 1 _ (cr (f,g)) rfl ⟨rfl,fun _=>⟨_,rfl,Km _,ao _ _ _⟩⟩ (jA _) (by unfold maxLen;omega) (by omega) (cg hlo6 _) ?_);intro v' w7 hown hg7 _;have HOw:=qD hown;have HBw:=qD (LK.out.bel.grown hg7 LK.out.bel.size (bF LK.out.own));clear hown hg7;go_wp2_with fail;go_meet;refine⟨cs++[(f,g)],by rw[cw,KV];exact HOw.out,?_,by simp;omega,fun x hx=>?_,HBw.out⟩
       ·rw[Av (u:=(cP f,cP g)) HC.out,Ke,Lb];rfl
       ·rcases KI.1 hx with hx|hx
        ·exact L5.out.i.ok x hx
        ·simp at hx;subst hx;exact L5.out.oku
      ·have HC:=qD hc;go_wp2_with fail;go_meet;exact⟨cs,L5.out.i.own,by rw[Aw (u:=(cP f,cP g)) (by show ¬aZ (cP f) (cP g)<0;have:=HC.out;omega)],by omega,L5.out.i.ok,L5.out.i.bel⟩
     case rest=>
      obtain⟨ds,hown,hds,hdl,hok,hbw⟩:=hcut;have hme:=L5.out.i.me;rw[DL.out,DR.out] at hme;have hnl2:NF aZ je (ai s::(ys.map ai).drop (i+1)):=by rw[<-DL.out];exact⟨fun z hz=>NL.out.ne z (Ns hz),NL.out.ord.sublist (List.drop_sublist _ _)⟩
      have hnr2:NF aZ je (ai t::(zs.map ai).drop (k+1)):=by rw[<-DR.out];exact⟨fun z hz=>NR.out.ne z (Ns hz),NR.out.ord.sublist (List.drop_sublist _ _)⟩
      have hds2:ds.map ai=oN aZ (cs.map ai) (nO aZ (ai s).1 (ai t).1,ll aZ (ai s).2 (ai t).2):=by rw[hds,HFm.out,HGm.out];rfl
      have IL:Hid (aZ (cP s.2) (cP t.2)<0->∀wy,Below wc.heap.size wc wy->DY w4 (ys.map ai) (zs.map ai) (i+1) k u7 ds wy):=qD fun hc wy hy=>
       ⟨bJ hown hy,by rw[hds2,DR.out];exact hme.left ee hnl2 hnr2 hc,by omega,hok,hbw.Ih hy⟩
      have IR:Hid (¬aZ (cP s.2) (cP t.2)<0->∀wy,Below wc.heap.size wc wy->DY w4 (ys.map ai) (zs.map ai) i (k+1) u7 ds wy):=qD fun hc wy hy=>
       ⟨bJ hown hy,by rw[hds2,DL.out];exact hme.right ee hnl2 hnr2 hc,by omega,hok,hbw.Ih hy⟩
      have HBw:=qD hbw;clear hown hds hds2 hdl hok hbw hme hnl2 hnr2 L5;obtain⟨_,⟨⟨x0,x1,x2,x3,x4⟩,x5⟩⟩:=HAs.out.keep (HBw.out.block b hbl);obtain⟨_,⟨⟨y0,y1,y2,y3,y4⟩,y5⟩⟩:=HAt.out.keep (HBw.out.block b' hbl');go_upto_region 12 with fail
      have X0:∀kk:BW wc,kk.val.cell? ⟨b,off+i*12+6,none⟩=some (.int .i64 s.2.1.1.k):=fun kk=>kk.cell x0;have X1:∀kk:BW wc,kk.val.cell? ⟨b,off+i*12+6+1,none⟩=some (.int .i64 s.2.1.1.n):=fun kk=>kk.cell x1;have X2:∀kk:BW wc,kk.val.cell? ⟨b,off+i*12+6+2,none⟩=some (.string s.2.1.1.t):=fun kk=>kk.cell x2;have X3:∀kk:BW wc,kk.val.cell? ⟨b,off+i*12+6+3,none⟩=some (.slice s.2.1.1.LA s.2.1.1.ln s.2.1.1.lc):=fun kk=>kk.cell x3;have X4:∀kk:BW wc,kk.val.cell? ⟨b,off+i*12+6+4,none⟩=some (.slice s.2.1.1.DA s.2.1.1.dn s.2.1.1.dc):=fun kk=>kk.cell x4;have X5:∀kk:BW wc,kk.val.cell? ⟨b,off+i*12+6+5,none⟩=some (.bool s.2.2):=fun kk=>kk.cell x5;have Y0:∀kk:BW wc,kk.val.cell? ⟨b',off'+k*12+6,none⟩=some (.int .i64 t.2.1.1.k):=fun kk=>kk.cell y0;have Y1:∀kk:BW wc,kk.val.cell? ⟨b',off'+k*12+6+1,none⟩=some (.int .i64 t.2.1.1.n):=fun kk=>kk.cell y1;have Y2:∀kk:BW wc,kk.val.cell? ⟨b',off'+k*12+6+2,none⟩=some (.string t.2.1.1.t):=fun kk=>kk.cell y2;have Y3:∀kk:BW wc,kk.val.cell? ⟨b',off'+k*12+6+3,none⟩=some (.slice t.2.1.1.LA t.2.1.1.ln t.2.1.1.lc):=fun kk=>kk.cell y3;have Y4:∀kk:BW wc,kk.val.cell? ⟨b',off'+k*12+6+4,none⟩=some (.slice t.2.1.1.DA t.2.1.1.dn t.2.1.1.dc):=fun kk=>kk.cell y4;have Y5:∀kk:BW wc,kk.val.cell? ⟨b',off'+k*12+6+5,none⟩=some (.bool t.2.2):=fun kk=>kk.cell y5;have i0:(0:Int)<=(k:Int):=by omega
      have i1:(k:Int)<(nr:Int):=by omega
      have i2:(0:Int)<=(i:Int):=by omega
      have i3:(i:Int)<(nl:Int):=by omega
      have K1:Hid (∀kk:BW wc,Calls prog 178 #[oR s.2,oR t.2] kk.val fun e w''=>e=.returned (.int .i64 (aZ (cP s.2) (cP t.2)))/\∃kk:BW wc,w''=kk.val):=fun kk=>
       Calls.bw (dr s.2 t.2 kk.val ((OS.out.2.step HBw.out).step kk.below) ((OT.out.2.step HBw.out).step kk.below))
      clear x0 x1 x2 x3 x4 x5 y0 y1 y2 y3 y4 y5;refine aM (by kernel_rfl) (by kernel_rfl) ?_
      repeat(go_big_quiet_step (with_reducible exact K1.out _))
      refine Kd ?_;rintro _ ⟨kw,rfl⟩;have LK8:=qD kw.below;clear X0 X1 X2 X3 X4 X5 Y0 Y1 Y2 Y3 Y4 Y5 K1 i0 i1 i2 i3;generalize kw.val=w8 at*;by_cases hc:aZ (cP s.2) (cP t.2)<0
      ·have HI:=qD (IL.out hc _ LK8.out);go_wp2_with fail;go_roundw
       ·exact⟨i+1,k,ds,by omega,by omega,by go_num,rfl,HI.out⟩
       ·simp[intOf];omega
      ·have HI:=qD (IR.out (by omega) _ LK8.out);go_wp2_with fail;go_roundw
       ·exact⟨i,k+1,ds,by omega,by omega,rfl,by go_num,HI.out⟩
       ·simp[intOf];omega
  ·have hend:(ys.map ai).drop i=[]\/(zs.map ai).drop k=[]:=by
    have h1:=HLl.out;have h2:=HRl.out;by_cases hx:i<nl
    ·exact .inr (Kk (by rw[KX];omega))
    ·exact .inl (Kk (by rw[KX];omega))
   have HD:=qD (I.me.done hend);obtain⟨A8,c8,hv,hs8⟩:=SS.Ik I.own rfl (by have:=I.le;unfold aH;omega) (fun x hx=>(I.ok x hx).step I.bel);have hle:=I.le;subst hv;obtain⟨q,hq⟩:∃q,q=cs.length:=⟨_,rfl⟩;have HS8:=qD hs8;rw[<-hq] at HS8 hle ⊢;have HQ:=qD hq;have HBr:=qD (HB4.out.Ih I.bel);have ways:(¬i<nl)\/(i<nl/\¬k<nr):=by omega
   clear I J hgo hend hs8 hq;rcases ways with hw1|⟨hw1,hw2⟩
   all_goals
    go_wp2_with fail;refine(qI cs A8 q c8 _ HS8.out (by omega)).mono ?_;rintro e w9 ⟨A9,m9,c9,ts,rfl,hts,hsi,hb9⟩;have HTs:=qD hts;have HS9:=qD hsi;have HB9:=qD (HBr.out.Ih hb9);have HT9:=qD hsi.sr.ln;clear hts hsi hb9;go_wp2_with fail;go_ret;refine⟨A9,m9,c9,ts,cs.map ai,rfl,by rw[HTs.out,Mq];rfl,⟨HD.out.1,fun a=>?_⟩,?_,HS9.out,HB9.out⟩
    ·have hy:ch aZ a (ys.map ai)↔ch aZ a (aU (is.map cB)):=by rw[<-HX.out];exact HY.out.1.2 a
     have hz:ch aZ a (zs.map ai)↔ch aZ a (aU (js.map cB)):=by rw[<-HX'.out];exact HZ.out.1.2 a
     exact(HD.out.2 a).trans (and_congr hy hz)
    ·have h1:=congrArg List.length HTs.out;simp only[KX] at h1;have:=HT9.out;have:=HQ.out;omega
def vI(n:Int):aC:=.mk 3 n empty [] []
abbrev cI(n:Int):VC:=⟨3,n,empty,none,0,0,none,0,0⟩
theorem ic(n:Int):aL (vI n)=true:=by
 refine fk ?_ ?_ ?_
 ·rw[dA];unfold aC.parts;rw[KU (by show ¬(3:Int)=6;omega),KU (by show ¬(3:Int)=5;omega)];simp[bN]
 ·rw[ci];unfold aC.parts;rw[KU (by show ¬(3:Int)=6;omega),KU (by show ¬(3:Int)=5;omega)];simp[ak]
 ·exact(al _ _).2 ⟨by simp[dl,vI,aC.k,aC.n,aC.t,aC.l,aC.d],by simp[vI,aC.l],by simp[vI,aC.d],by simp[vI,aC.d,iV]⟩
def iX(n:Int)(b:Bool):cy:=(vI n,b)
theorem jt(a b:Int)(x y:Bool):aZ (iX a x) (iX b y)=nG (cM a b) (qF x y):=by
 unfold aZ iX;rw[fz (x:=vI a) (y:=vI b) rfl (.inl rfl)];rfl
theorem yP(n:Int)(b:Bool):je (iX n b):=ic n
abbrev DZ(a b:Int)(li hi:Bool):Iv:=⟨vI a,vI b,li,hi⟩
theorem FF{a b:Int}{li hi:Bool}(h:nG (cM a b) (qF (!li) hi)<0):(DZ a b li hi).ne=true:=by
 have h2:aZ (DZ a b li hi).sp.1 (DZ a b li hi).sp.2<0:=by
  show aZ (iX a (!li)) (iX b hi)<0;rw[jt];exact h
 unfold Iv.ne;rw[Jy h2];show(aL (vI a)&&aL (vI b)&&true)=true;rw[ic,ic];rfl
theorem od{l:List Iv}(h:∀x∈l,x.ne=true):aU l=l.map Iv.sp:=by unfold aU;rw[List.filter_eq_self.2 h]
theorem lQ(n:Int)(b:Bool):aZ (gZ,false) (iX n b)<0:=by
 rw[gO (a:=(gZ,false)) (b:=iX n b) (by show aY gZ (vI n)≠0;rw[au (by show(1:Int)≠3;omega)];show cM 1 3≠0;decide)];show aY gZ (vI n)<0;rw[au (by show(1:Int)≠3;omega)];show cM 1 3<0;decide
theorem vp(n:Int)(b:Bool):aZ (iX n b) (gE,true)<0:=by
 rw[gO (a:=iX n b) (b:=(gE,true)) (by show aY (vI n) gE≠0;rw[au (by show(3:Int)≠11;omega)];show cM 3 11≠0;decide)];show aY (vI n) gE<0;rw[au (by show(3:Int)≠11;omega)];show cM 3 11<0;decide
theorem zM{α:Type}{rec:α->List Value}{s:Nat}(hs:∀a,(rec a).length=s):∀(xs:List α) (k:Nat),(aO rec xs).take (k*s)=aO rec (xs.take k):=by
 intro xs
 induction xs with
 | nil=>intro k;simp[aO]
 | cons a l ih=>
  intro k;cases k with
  | zero=>simp[aO]
  | succ k=>
   have e:∀(y:α) (t:List α),aO rec (y::t)=rec y++aO rec t:=fun _ _=>rfl;rw[LY,e,e,<-ih k,show(k+1)*s=(rec a).length+k*s by rw[hs,Lk];omega,OB]
theorem zN{α:Type}{rec:α->List Value}{s:Nat}(hs:∀a,(rec a).length=s):∀(xs:List α) (k:Nat),(aO rec xs).drop (k*s)=aO rec (xs.drop k):=by
 intro xs
 induction xs with
 | nil=>intro k;simp[aO]
 | cons a l ih=>
  intro k;cases k with
  | zero=>simp[aO]
  | succ k=>
   have e:∀(y:α) (t:List α),aO rec (y::t)=rec y++aO rec t:=fun _ _=>rfl;rw[Lu,e,<-ih k,show(k+1)*s=(rec a).length+k*s by rw[hs,Lk];omega,Mu]
theorem eE.take{w:World}{B size n:Nat}{A:Option Addr}{xs:List Value}(h:eE w B size A n xs){k:Nat}(hk:k<=n):eE w B size A k (xs.take (k*size)):=by
 refine⟨by rw[LI,h.1];exact Nat.min_eq_left (Ki _ hk),fun hn=>?_⟩;obtain⟨ad,rfl,hb,hc⟩:=h.2 (by omega);refine⟨ad,rfl,hb,fun j u hu=>hc j u ?_⟩;rw[MR] at hu;split at hu
 ·exact hu
 ·cases hu
theorem aG.setCells{g:Nat}{t:TypeId}:∀(vs:List Value) {l:List Value} (o:Nat) {w:World},aG w g t l.toArray->aG (w.setCells g o vs) g t (dZ l o vs).toArray
 | [],_,_,_,h=>h
 | v::r,l,o,w,h=>by
  have h1:=h.Ij o v;rw[show l.toArray.setIfInBounds o v=(l.set o v).toArray by simp] at h1;exact aG.setCells r (o+1) h1
theorem iT(g:Nat):∀(vs:List Value) (o:Nat) (w:World) (b:Nat),b≠g->(w.setCells g o vs).heap[b]?=w.heap[b]?
 | [],_,_,_,_=>rfl
 | v::r,o,w,b,h=>by
  rw[World.setCells,iT g r (o+1) _ b h];exact Ku w ⟨g,o,none⟩ v b h
theorem SI.reads{w:World}{A:Option Addr}{n c:Nat}{xs:List PI}(h:SI w A n c xs):eE w w.heap.size 12 A n (aO iz xs):=by
 refine⟨by rw[cA iQ,h.sr.ln],fun hp=>?_⟩;obtain⟨b,off,e,hb,hel⟩:=h.sr.el hp;cases e;refine⟨_,rfl,hb,fun j u hu=>?_⟩;have hj:=(KF.1 hu).1;rw[cA iQ] at hj;obtain⟨a,v,g1,g2,g3⟩:=flat_at' iQ (by omega) xs j hj;have:=hel (j/12) a g1 (j%12) v g2;rw[dM];rw[g3] at hu;cases hu;rw[show off+j=off+j/12*12+j%12 by omega];exact this
theorem BM{p:PI}(h1:aL p.1.1.2=true)(h2:aL p.1.2.2=true):(cB p).ne=decide (aZ (p.1.1.2,!p.2.1) (p.1.2.2,p.2.2)<0):=by
 show(aL p.1.1.2&&aL p.1.2.2&&decide (aZ (p.1.1.2,!p.2.1) (p.1.2.2,p.2.2)<0))=_;rw[h1,h2];rfl
theorem yQ{a b:cy}(h:0<aY a.1 b.1):¬aZ a b<0:=by rw[gO (by omega)];omega
theorem sP{a b:cy}(h:aY a.1 b.1<0):aZ a b<0:=by rw[gO (by omega)];exact h
theorem vq(p:PI)(w:World)(h:qe w p):Calls prog 192 #[jf p] w fun e w'=>e=.returned (.bool (!(cB p).ne))/\Below w.heap.size w w':=by
 have H:=qD h;have A0:=qD ((Ju w.heap.size w).alloc (qL) (Obj.cells (aa p) 85));have B0:Hid (aG (w.alloc (.cells (aa p) 85)) w.heap.size 85 (aa p)):=aG.Ii rfl;clear h;go_enter func192,ntmps192;go_wp2_with fail;refine(cL p.1.1.2 p.1.1.1 _ (H.out.step A0.out).1).mono ?_;rintro e w1 ⟨rfl,hb1⟩;have A1:=qD (A0.out.Ih hb1);have B1:=qD (B0.out.step hb1);clear hb1 A0 B0;cases h1:aL p.1.1.2
 ·have HR:=qD (sG h1);clear h1;go_wp2_with fail;go_ret;exact⟨by rw[HR.out];rfl,A1.out⟩
 have V1:=qD h1;clear h1;obtain⟨_,⟨q0,q1,q2,q3,q4⟩,_,_⟩:=jb.Ig B1.out;go_wp2_with fail;refine(cL p.1.2.2 p.1.2.1 _ (H.out.step A1.out).2).mono ?_;rintro e w2 ⟨rfl,hb2⟩;have A2:=qD (A1.out.Ih hb2);have B2:=qD (B1.out.step hb2);clear hb2 A1 B1 q0 q1 q2 q3 q4;cases h2:aL p.1.2.2
 ·have HR:=qD (sH h2);clear h2;go_wp2_with fail;go_ret;exact⟨by rw[HR.out];rfl,A2.out⟩
 have HR:=qD (BM V1.out h2);clear h2;obtain⟨⟨p0,p1,p2,p3,p4⟩,⟨q0,q1,q2,q3,q4⟩,_,_⟩:=jb.Ig B2.out;go_wp2_with fail;refine(ib p.1.1.2 p.1.2.2 p.1.1.1 p.1.2.1 _ (H.out.step A2.out).1 (H.out.step A2.out).2).mono ?_;rintro e w3 ⟨rfl,hb3⟩;have A3:=qD (A2.out.Ih hb3);have B3:=qD (B2.out.step hb3);clear hb3 A2 B2 p0 p1 p2 p3 p4 q0 q1 q2 q3 q4;rcases ON (aY p.1.1.2 p.1.2.2) 0 with hc|hc|hc
 ·have HD:=qD (Jy (sP (a:=(p.1.1.2,!p.2.1)) (b:=(p.1.2.2,p.2.2)) hc));have g1:decide (0<aY p.1.1.2 p.1.2.2)=false:=KQ (by omega);have g2:(aY p.1.1.2 p.1.2.2==0)=false:=by simp;omega
  clear hc;go_wp2_with fail;go_ret;exact⟨by rw[HR.out,HD.out];rfl,A3.out⟩
 ·have HD:=qD (dg (a:=(p.1.1.2,!p.2.1)) (b:=(p.1.2.2,p.2.2)) hc);rw[hc];clear hc;obtain⟨_,_,r0,r1⟩:=jb.Ig B3.out;cases e1:p.2.1<;>cases e2:p.2.2
  all_goals
   rw[e1] at r0;rw[e2] at r1;rw[e1,e2] at HD HR;clear e1 e2;go_wp2_with fail;go_ret;exact⟨by rw[HR.out,HD.out];rfl,A3.out⟩
 ·have HD:=qD (KQ (yQ (a:=(p.1.1.2,!p.2.1)) (b:=(p.1.2.2,p.2.2)) hc));go_wp2_with fail;go_ret;exact⟨by rw[HR.out,HD.out];rfl,A3.out⟩
noncomputable def lH(p:PI)(v:aC):Bool:=(cB p).ne&&decide (aZ (p.1.1.2,!p.2.1) (v,false)<=0)&&decide (aZ (v,false) (p.1.2.2,p.2.2)<0)
theorem De(p:PI)(v:aC):(aY p.1.1.2 v<0/\decide (aZ (p.1.1.2,!p.2.1) (v,false)<=0)=true)\/(aY p.1.1.2 v=0/\decide (aZ (p.1.1.2,!p.2.1) (v,false)<=0)=p.2.1)\/(0<aY p.1.1.2 v/\decide (aZ (p.1.1.2,!p.2.1) (v,false)<=0)=false):=by
 rcases ON (aY p.1.1.2 v) 0 with hc|hc|hc
 ·exact .inl ⟨hc,Jy (by have:=sP (a:=(p.1.1.2,!p.2.1)) (b:=(v,false)) hc;omega)⟩
 ·refine .inr (.inl ⟨hc,?_⟩);rw[dg (a:=(p.1.1.2,!p.2.1)) (b:=(v,false)) hc];show decide (qF (!p.2.1) false<=0)=p.2.1;cases p.2.1<;>decide
 ·refine .inr (.inr ⟨hc,KQ ?_⟩);rw[gO (a:=(p.1.1.2,!p.2.1)) (b:=(v,false)) (by show aY p.1.1.2 v≠0;omega)];show ¬aY p.1.1.2 v<=0;omega
theorem yR(p:PI)(v:aC):(aY v p.1.2.2<0/\decide (aZ (v,false) (p.1.2.2,p.2.2)<0)=true)\/(aY v p.1.2.2=0/\decide (aZ (v,false) (p.1.2.2,p.2.2)<0)=p.2.2)\/(0<aY v p.1.2.2/\decide (aZ (v,false) (p.1.2.2,p.2.2)<0)=false):=by
 rcases ON (aY v p.1.2.2) 0 with hc|hc|hc
 ·exact .inl ⟨hc,Jy (sP (a:=(v,false)) (b:=(p.1.2.2,p.2.2)) hc)⟩
 ·refine .inr (.inl ⟨hc,?_⟩);rw[dg (a:=(v,false)) (b:=(p.1.2.2,p.2.2)) hc];show decide (qF false p.2.2<0)=p.2.2;cases p.2.2<;>decide
 ·exact .inr (.inr ⟨hc,KQ (yQ (a:=(v,false)) (b:=(p.1.2.2,p.2.2)) hc)⟩)
theorem qK(p:PI)(c:VC)(v:aC)(w:World)(h:qe w p)(hv:RW w c v):Calls prog 138 #[jf p,c.val] w fun e w'=>e=.returned (.bool (lH p v))/\Below w.heap.size w w':=by
 have H:=qD h;have HV:=qD hv;have A0:=((Ju w.heap.size w).alloc (qL) (Obj.cells (aa p) 85)).alloc (by simp) (Obj.cells c.arr 29);have B0:aG ((w.alloc (.cells (aa p) 85)).alloc (.cells c.arr 29)) w.heap.size 85 (aa p):=(aG.Ii rfl).alloc _;have B1:aG ((w.alloc (.cells (aa p) 85)).alloc (.cells c.arr 29)) (w.heap.size+1) 29 c.arr:=aG.Ii (by simp);clear h hv;go_enter func138,ntmps138;go_upto_region 1 with fail
 change (Code.region 1 _ _).wp _ _ _ ((w.alloc (.cells (aa p) 85)).alloc (.cells c.arr 29));generalize ((w.alloc (.cells (aa p) 85)).alloc (.cells c.arr 29))=wa at*;obtain⟨⟨p0,p1,p2,p3,p4⟩,⟨q0,q1,q2,q3,q4⟩,_,_⟩:=jb.Ig B0;obtain⟨x0,x1,x2,x3,x4⟩:=aS.Ig B1;have P0:∀kk:BW wa,kk.val.cell? ⟨w.heap.size,0,none⟩=some (.int .i64 p.1.1.1.k):=fun kk=>kk.cell p0;have P1:∀kk:BW wa,kk.val.cell? ⟨w.heap.size,1,none⟩=some (.int .i64 p.1.1.1.n):=fun kk=>kk.cell p1;have P2:∀kk:BW wa,kk.val.cell? ⟨w.heap.size,2,none⟩=some (.string p.1.1.1.t):=fun kk=>kk.cell p2;have P3:∀kk:BW wa,kk.val.cell? ⟨w.heap.size,3,none⟩=some (.slice p.1.1.1.LA p.1.1.1.ln p.1.1.1.lc):=fun kk=>kk.cell p3;have P4:∀kk:BW wa,kk.val.cell? ⟨w.heap.size,4,none⟩=some (.slice p.1.1.1.DA p.1.1.1.dn p.1.1.1.dc):=fun kk=>kk.cell p4;have Q0:∀kk:BW wa,kk.val.cell? ⟨w.heap.size,5,none⟩=some (.int .i64 p.1.2.1.k):=fun kk=>kk.cell q0;have Q1:∀kk:BW wa,kk.val.cell? ⟨w.heap.size,6,none⟩=some (.int .i64 p.1.2.1.n):=fun kk=>kk.cell q1;have Q2:∀kk:BW wa,kk.val.cell? ⟨w.heap.size,7,none⟩=some (.string p.1.2.1.t):=fun kk=>kk.cell q2;have Q3:∀kk:BW wa,kk.val.cell? ⟨w.heap.size,8,none⟩=some (.slice p.1.2.1.LA p.1.2.1.ln p.1.2.1.lc):=fun kk=>kk.cell q3;have Q4:∀kk:BW wa,kk.val.cell? ⟨w.heap.size,9,none⟩=some (.slice p.1.2.1.DA p.1.2.1.dn p.1.2.1.dc):=fun kk=>kk.cell q4;have X0:∀kk:BW wa,kk.val.cell? ⟨w.heap.size+1,0,none⟩=some (.int .i64 c.k):=fun kk=>kk.cell x0
 have X1:∀kk:BW wa,kk.val.cell? ⟨w.heap.size+1,1,none⟩=some (.int .i64 c.n):=fun kk=>kk.cell x1;have X2:∀kk:BW wa,kk.val.cell? ⟨w.heap.size+1,2,none⟩=some (.string c.t):=fun kk=>kk.cell x2;have X3:∀kk:BW wa,kk.val.cell? ⟨w.heap.size+1,3,none⟩=some (.slice c.LA c.ln c.lc):=fun kk=>kk.cell x3;have X4:∀kk:BW wa,kk.val.cell? ⟨w.heap.size+1,4,none⟩=some (.slice c.DA c.dn c.dc):=fun kk=>kk.cell x4
 have K1:Hid (∀kk:BW wa,Calls prog 156 #[p.1.1.1.val,c.val] kk.val fun e w''=>e=.returned (.int .i64 (aY p.1.1.2 v))/\∃kk:BW wa,w''=kk.val):=fun kk=>
  Calls.bw (ib p.1.1.2 v p.1.1.1 c kk.val ((H.out.step A0).1.step kk.below) ((HV.out.step A0).step kk.below))
 have K2:Hid (∀kk:BW wa,Calls prog 156 #[c.val,p.1.2.1.val] kk.val fun e w''=>e=.returned (.int .i64 (aY v p.1.2.2))/\∃kk:BW wa,w''=kk.val):=fun kk=>
  Calls.bw (ib v p.1.2.2 c p.1.2.1 kk.val ((HV.out.step A0).step kk.below) ((H.out.step A0).2.step kk.below))
 have C0:=qD B0;have Z0:=qD A0;clear p0 p1 p2 p3 p4 q0 q1 q2 q3 q4 x0 x1 x2 x3 x4 A0 B0 B1;refine aM (by kernel_rfl) (by kernel_rfl) ?_
 repeat(go_big_quiet_step (first|(with_reducible exact K1.out _)|(with_reducible exact K2.out _)))
 refine Kd ?_;rintro _ ⟨kw,rfl⟩;have C1:=qD (C0.out.step kw.below);have Z1:=qD (Z0.out.Ih kw.below);clear P0 P1 P2 P3 P4 Q0 Q1 Q2 Q3 Q4 X0 X1 X2 X3 X4 K1 K2 C0 Z0;generalize kw.val=w1 at*;obtain⟨⟨p0,p1,p2,p3,p4⟩,⟨q0,q1,q2,q3,q4⟩,r0,r1⟩:=jb.Ig C1.out;go_wp2_with fail;refine(vq p _ (H.out.step Z1.out)).mono ?_;rintro e w2 ⟨rfl,hb2⟩;have C2:=qD (C1.out.step hb2);have Z2:=qD (Z1.out.Ih hb2);clear hb2 p0 p1 p2 p3 p4 q0 q1 q2 q3 q4 r0 r1 C1 Z1;obtain⟨_,_,r0,r1⟩:=jb.Ig C2.out;cases hne:(cB p).ne
 ·have HR:Hid (lH p v=false):=by unfold Hid lH;rw[hne];rfl
  clear hne;go_wp2_with fail;go_ret;exact⟨by rw[HR.out];rfl,Z2.out⟩
 ·have HR:Hid (lH p v=(decide (aZ (p.1.1.2,!p.2.1) (v,false)<=0)&&decide (aZ (v,false) (p.1.2.2,p.2.2)<0))):=by unfold Hid lH;rw[hne];rfl
  clear hne;rcases De p v with⟨a1,a2⟩|⟨a1,a2⟩|⟨a1,a2⟩
  ·have f1:decide (aY p.1.1.2 v<0)=true:=Jy a1;have HA:=qD a2;clear a1 a2;rcases yR p v with⟨b1,b2⟩|⟨b1,b2⟩|⟨b1,b2⟩
   ·have g1:decide (aY v p.1.2.2<0)=true:=Jy b1;have HB:=qD b2;clear b1 b2;go_wp2_with fail;go_ret;exact⟨by rw[HR.out,HA.out,HB.out];rfl,Z2.out⟩
   ·rw[b1];have HB:=qD b2;clear b1 b2;cases e2:p.2.2
    all_goals
     have HB2:=qD (HB.out.trans e2);rw[e2] at r1;clear e2;go_wp2_with fail;go_ret;exact⟨by rw[HR.out,HA.out,HB2.out];rfl,Z2.out⟩
   ·have g1:decide (aY v p.1.2.2<0)=false:=KQ (by omega);have g2:(aY v p.1.2.2==0)=false:=by simp;omega
    have HB:=qD b2;clear b1 b2;go_wp2_with fail;go_ret;exact⟨by rw[HR.out,HA.out,HB.out];rfl,Z2.out⟩
  ·rw[a1];have HA:=qD a2;clear a1 a2;cases e1:p.2.1
   ·have HA2:=qD (HA.out.trans e1);rw[e1] at r0;clear e1;go_wp2_with fail;go_ret;exact⟨by rw[HR.out,HA2.out];rfl,Z2.out⟩
   replace HA:=qD (HA.out.trans e1);rw[e1] at r0;clear e1;rcases yR p v with⟨b1,b2⟩|⟨b1,b2⟩|⟨b1,b2⟩
   ·have g1:decide (aY v p.1.2.2<0)=true:=Jy b1;have HB:=qD b2;clear b1 b2;go_wp2_with fail;go_ret;exact⟨by rw[HR.out,HA.out,HB.out];rfl,Z2.out⟩
   ·rw[b1];have HB:=qD b2;clear b1 b2;cases e2:p.2.2
    all_goals
     have HB2:=qD (HB.out.trans e2);rw[e2] at r1;clear e2;go_wp2_with fail;go_ret;exact⟨by rw[HR.out,HA.out,HB2.out];rfl,Z2.out⟩
   ·have g1:decide (aY v p.1.2.2<0)=false:=KQ (by omega);have g2:(aY v p.1.2.2==0)=false:=by simp;omega
    have HB:=qD b2;clear b1 b2;go_wp2_with fail;go_ret;exact⟨by rw[HR.out,HA.out,HB.out];rfl,Z2.out⟩
  ·have f1:decide (aY p.1.1.2 v<0)=false:=KQ (by omega);have f2:(aY p.1.1.2 v==0)=false:=by simp;omega
   have HA:=qD a2;clear a1 a2;go_wp2_with fail;go_ret;exact⟨by rw[HR.out,HA.out];rfl,Z2.out⟩
theorem Ej{p:PI}{v:aC}:lH p v=true↔((cB p).ne=true/\ch aZ (v,false) [(cB p).sp]):=by
 unfold lH;rw[fL];simp only[Kz,MD,and_assoc];exact Iff.rfl
theorem BN{is:List PI}{i:Nat}{p:PI}{v:aC}(hp:is[i]?=some p):ch aZ (v,false) (aU ((is.take (i+1)).map cB))↔ch aZ (v,false) (aU ((is.take i).map cB))\/lH p v=true:=by
 rw[take_snoc' hp,Ke,Lb,gG,Ej];cases h:(cB p).ne
 ·simp
 ·simp only[Oh,true_and];rw[fK]
theorem BP(is:List PI)(A:Option Addr)(n c:Nat)(v:aC)(cv:VC)(w:World)(h:SI w A n c is)(hv:RW w cv v):
 Calls prog 75 #[.slice A n c,cv.val] w fun e w'=>e=.returned (.bool (qJ (is.map cB) v))/\Below w.heap.size w w':=by
 have H:=qD h;have HL:=qD h.sr.ln;have HV:=qD hv;have hz:=h.sz;unfold aH at hz;have A0:=qD ((Ju w.heap.size w).alloc (qL) (Obj.cells cv.arr 29));have B0:Hid (aG (w.alloc (.cells cv.arr 29)) w.heap.size 29 cv.arr):=aG.Ii rfl;clear h hv;go_enter func75,ntmps75;go_wp2_with fail;refine(cL v cv _ (HV.out.step A0.out)).mono ?_;rintro e w1 ⟨rfl,hb1⟩;have A1:=qD (A0.out.Ih hb1);have B1:=qD (B0.out.step hb1);clear hb1 A0 B0;cases hvv:aL v
 ·have HF:=qD (oZ (l:=is.map cB) (v:=v) (by rw[hvv];simp));clear hvv;go_wp2_with fail;go_ret;exact⟨by rw[HF.out];rfl,A1.out⟩
 have HVV:=qD hvv;clear hvv;go_wp2_with fail
 go_loopw [5] (fun v5 wr=>∃i:Nat,i<=n/\v5=.int .i64 i/\¬ch aZ (v,false) (aU ((is.take i).map cB))/\Gz w cv w1 wr) (fun v5 _=>n-(intOf v5).toNat)
 ·exact⟨0,KD _,rfl,gY _,⟨B1.out,Ju _ _⟩⟩
 case round=>
  obtain⟨i,hi,rfl,hno,I⟩:=hrel;have J:=qD I;have HNo:=qD hno;clear hno;by_cases hlt:i<n
  ·obtain⟨p,hp⟩:∃p,is[i]?=some p:=⟨_,Jv (by have:=HL.out;omega)⟩;obtain⟨b,off,rfl,hbl,hat,hok⟩:=H.out.at hp;have HP:=qD hp;have hwr:Below w.heap.size w wr:=A1.out.Ih I.bel;obtain⟨⟨p0,p1,p2,p3,p4⟩,⟨q0,q1,q2,q3,q4⟩,r0,r1⟩:=hat.keep (hwr.block b hbl);obtain⟨x0,x1,x2,x3,x4⟩:=aS.Ig I.b0;have P0:∀kk:BW wr,kk.val.cell? ⟨b,off+i*12,none⟩=some (.int .i64 p.1.1.1.k):=fun kk=>kk.cell p0;have P1:∀kk:BW wr,kk.val.cell? ⟨b,off+i*12+1,none⟩=some (.int .i64 p.1.1.1.n):=fun kk=>kk.cell p1;have P2:∀kk:BW wr,kk.val.cell? ⟨b,off+i*12+2,none⟩=some (.string p.1.1.1.t):=fun kk=>kk.cell p2;have P3:∀kk:BW wr,kk.val.cell? ⟨b,off+i*12+3,none⟩=some (.slice p.1.1.1.LA p.1.1.1.ln p.1.1.1.lc):=fun kk=>kk.cell p3;have P4:∀kk:BW wr,kk.val.cell? ⟨b,off+i*12+4,none⟩=some (.slice p.1.1.1.DA p.1.1.1.dn p.1.1.1.dc):=fun kk=>kk.cell p4;have Q0:∀kk:BW wr,kk.val.cell? ⟨b,off+i*12+5,none⟩=some (.int .i64 p.1.2.1.k):=fun kk=>kk.cell q0;have Q1:∀kk:BW wr,kk.val.cell? ⟨b,off+i*12+5+1,none⟩=some (.int .i64 p.1.2.1.n):=fun kk=>kk.cell q1;have Q2:∀kk:BW wr,kk.val.cell? ⟨b,off+i*12+5+2,none⟩=some (.string p.1.2.1.t):=fun kk=>kk.cell q2;have Q3:∀kk:BW wr,kk.val.cell? ⟨b,off+i*12+5+3,none⟩=some (.slice p.1.2.1.LA p.1.2.1.ln p.1.2.1.lc):=fun kk=>kk.cell q3;have Q4:∀kk:BW wr,kk.val.cell? ⟨b,off+i*12+5+4,none⟩=some (.slice p.1.2.1.DA p.1.2.1.dn p.1.2.1.dc):=fun kk=>kk.cell q4;have X0:∀kk:BW wr,kk.val.cell? ⟨w.heap.size,0,none⟩=some (.int .i64 cv.k):=fun kk=>kk.cell x0
   have X1:∀kk:BW wr,kk.val.cell? ⟨w.heap.size,1,none⟩=some (.int .i64 cv.n):=fun kk=>kk.cell x1;have X2:∀kk:BW wr,kk.val.cell? ⟨w.heap.size,2,none⟩=some (.string cv.t):=fun kk=>kk.cell x2;have X3:∀kk:BW wr,kk.val.cell? ⟨w.heap.size,3,none⟩=some (.slice cv.LA cv.ln cv.lc):=fun kk=>kk.cell x3;have X4:∀kk:BW wr,kk.val.cell? ⟨w.heap.size,4,none⟩=some (.slice cv.DA cv.dn cv.dc):=fun kk=>kk.cell x4;have R0:∀kk:BW wr,kk.val.cell? ⟨b,off+i*12+10,none⟩=some (.bool p.2.1):=fun kk=>kk.cell r0;have R1:∀kk:BW wr,kk.val.cell? ⟨b,off+i*12+11,none⟩=some (.bool p.2.2):=fun kk=>kk.cell r1;have i0:(0:Int)<=(i:Int):=by omega
   have i1:(i:Int)<(n:Int):=by omega
   have K1:Hid (∀kk:BW wr,Calls prog 138 #[jf p,cv.val] kk.val fun e w''=>e=.returned (.bool (lH p v))/\∃kk:BW wr,w''=kk.val):=fun kk=>
    Calls.bw (qK p cv v kk.val ((hok.step hwr).step kk.below) ((HV.out.step hwr).step kk.below))
   clear p0 p1 p2 p3 p4 q0 q1 q2 q3 q4 r0 r1 x0 x1 x2 x3 x4 hp hat hok I hwr;go_upto_region 6 with fail
   refine aM (by kernel_rfl) (by kernel_rfl) ?_
   repeat(go_big_quiet_step (with_reducible exact K1.out _))
   refine Kd ?_;rintro _ ⟨kw,rfl⟩;have J2:=qD (J.out.step kw.below);clear P0 P1 P2 P3 P4 Q0 Q1 Q2 Q3 Q4 R0 R1 X0 X1 X2 X3 X4 K1 i0 i1 J;generalize kw.val=w2 at*;cases hc:lH p v
   ·have HR:Hid (¬ch aZ (v,false) (aU ((is.take (i+1)).map cB))):=by
     rw[Hid,BN HP.out,hc];simpa using HNo.out
    clear hc;go_wp2_with fail;go_roundw
    ·exact⟨i+1,by omega,by go_num,HR.out,J2.out⟩
    ·simp[intOf];omega
   ·have HR:=qD (qi (l:=is.map cB) HVV.out (by
     have hm:=Jx HP.out
     obtain⟨h1,s,hs,h2⟩:=Ej.1 hc
     simp at hs
     subst hs
     exact⟨_,Ko (MV.2 ⟨Ko hm,h1⟩),h2⟩))
    clear hc;go_wp2_with fail;go_ret;exact⟨by rw[HR.out];rfl,A1.out.Ih J2.out.bel⟩
  ·have HF:=qD (oZ (l:=is.map cB) (v:=v) (by rintro⟨_,k⟩;have h0:=HNo.out;rw[KL (by have:=HL.out;omega)] at h0;exact h0 k));clear I;go_wp2_with fail;go_ret;exact⟨by rw[HF.out];rfl,A1.out.Ih J.out.bel⟩
theorem tp{α:Type}(S:List α)(p:α)(k:Nat):(S.take k++p::S.drop k).Perm (S++[p]):=by
 refine Np.trans ?_;rw[LC];exact(Mw p S).symm
section
variable {w:World} {is:List PI} {i:Nat} {S:List PI} {v:Value} {wr w':World}
end
section
variable {w1 w2:World} {g:Nat} {n:List (cy×cy)} {j:Nat} {v:Value} {gs:List PI} {f:PC} {wr w':World}
end
theorem bU{op n:Int}{arg:aC}{args:List aC}{r:List Iv×Bool}(h:dp op arg args n=some r):dx op arg args n=(fun a=>ch aZ a (aU r.1),r.2):=by unfold dx;rw[h]
theorem bz{op n:Int}{arg:aC}{args:List aC}(h:dp op arg args n=none):dx op arg args n=(eD,false):=by unfold dx;rw[h]
theorem oe{n:Int}{arg:aC}{args:List aC}(h:arg.k≠6):dp 2 arg args n=some ([ei arg],decide (arg.k≠2)):=by
 unfold dp;rw[Kb rfl,KU h]
theorem my{n:Int}{arg:aC}{args:List aC}(h:arg.k=6):dp 2 arg args n=none:=by
 unfold dp;rw[Kb rfl,Kb h]
theorem mz{op n:Int}{arg:aC}{args:List aC}(ho:op=4\/op=5\/op=6\/op=7)(h:arg.k≠6):dp op arg args n=some ([mZ op arg],decide (arg.k≠2)):=by
 unfold dp;rw[KU (by omega),Kb ho,KU h]
theorem lR{op n:Int}{arg:aC}{args:List aC}(ho:op=4\/op=5\/op=6\/op=7)(h:arg.k=6):dp op arg args n=none:=by
 unfold dp;rw[KU (by omega),Kb ho,Kb h]
theorem og{n:Int}{arg:aC}{args:List aC}(h:¬∃x∈args,x.k=6):dp 8 arg args n=some (args.map ei,decide (¬∃x∈args,x.k=2)):=by
 unfold dp;rw[KU (by omega),KU (by omega),Kb rfl,KU h]
theorem nB{n:Int}{arg:aC}{args:List aC}(h:∃x∈args,x.k=6):dp 8 arg args n=none:=by
 unfold dp;rw[KU (by omega),KU (by omega),Kb rfl,Kb h]
theorem ie{n:Int}{arg:aC}{args:List aC}:dp 16 arg args n=some ([(lG arg).1],(lG arg).2):=by
 unfold dp;rw[KU (by omega),KU (by omega),KU (by omega),Kb rfl]
theorem lS{n:Int}{arg:aC}{args:List aC}(h:n≠6):dp 11 arg args n=some ([bB n],decide (n≠2)):=by
 unfold dp;rw[KU (by omega),KU (by omega),KU (by omega),KU (by omega),Kb rfl,KU h]
theorem ju{arg:aC}{args:List aC}:dp 11 arg args 6=none:=by
 unfold dp;rw[KU (by omega),KU (by omega),KU (by omega),KU (by omega),Kb rfl,Kb rfl]
theorem jv{op n:Int}{arg:aC}{args:List aC}(h:op≠2/\op≠4/\op≠5/\op≠6/\op≠7/\op≠8/\op≠16/\op≠11):dp op arg args n=none:=by
 unfold dp;rw[KU (by omega),KU (by omega),KU (by omega),KU (by omega),KU (by omega)]
theorem oh{k:Int}(h:k=3\/k=10):bB k=⟨bS k,.mk k 9223372036854775807 empty [] [],true,true⟩:=Kb h
theorem tq:bB 9=⟨bS 9,.mk 9 1 empty [] [],true,true⟩:=by
 unfold bB;rw[KU (by omega),Kb rfl]
theorem jw{k:Int}(h:k=4\/k=5\/k=6\/k=7\/k=8):bB k=⟨bS k,bS (k+1),true,false⟩:=by
 unfold bB;rw[KU (by omega),KU (by omega),Kb h]
theorem ol{k:Int}(h:k=1\/k=2\/k=11):bB k=⟨bS k,bS k,true,true⟩:=by
 unfold bB;rw[KU (by omega),KU (by omega),KU (by omega)]
abbrev bG(k n:Int)(t:ByteArray):VC:=⟨k,n,t,none,0,0,none,0,0⟩
theorem oS(w:World)(k n:Int){t:ByteArray}(h:t.size<=aH):RW w (bG k n t) (.mk k n t [] []):=
 sK.shut ⟨rfl,rfl,rfl,h,rfl,qL,by show 0*80<=aH;decide,fun h=>absurd h (by show ¬0<0;omega),rfl,qL,by show 0*96<=aH;decide,fun h=>absurd h (by show ¬0<0;omega)⟩
theorem lT(k:Int):∃n t,bS k=.mk k n t [] []/\t.size<=12:=by
 unfold bS gK;split
 ·exact⟨_,_,rfl,by decide⟩
 ·split
  ·exact⟨_,_,rfl,by decide⟩
  ·exact⟨_,_,rfl,by decide⟩
end
end Go.Proofs.YtgfoliedmhgpnaaGreatDoor
