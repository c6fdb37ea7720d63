/- A part of the proof. -/
import Derived.Test.YtgfoliedmhgpnaaGreatDoorCn2
import Derived.Lib.Walk
set_option maxRecDepth 100000
set_option maxHeartbeats 16000000
open Go.Proofs.Tryz
open ByteArray (empty)
namespace Go.Proofs.YtgfoliedmhgpnaaGreatDoor
open Go.RowKit
section
variable {b:Nat} {w w':World} {e:TypeId} {a x y:Int}
theorem kM(x y:Int)(w:World):Calls prog 160 #[.int .i64 x,.int .i64 y] w fun e w'=>e=.returned (.int .i64 (cd x y))/\w'=w:=by
 go_enter func160,ntmps160
 go_wp2
 all_goals (go_ret;refine⟨?_,rfl⟩;unfold cd Lib.compareInt;(repeat' split)<;>first|rfl|(exfalso;omega))
theorem sT(a b:ByteArray)(w:World):Calls prog 212 #[.string a,.string b] w fun e w'=>e=.returned (.int .i64 (bh a b))/\w'=w:=by
 go_enter func212,ntmps212
 go_wp2
 rw[run_callFunc_extern func273 kR kR kR (e:=Extern.BytealgCompare.compare) kR,Lib.run_compareString];simp only[Result.andThen];rw[Oper.upon_value]
 go_wp2
 go_ret;exact⟨rfl,rfl⟩
theorem qP(a b:ByteArray)(w:World):Calls prog 161 #[.string a,.string b] w fun e w'=>e=.returned (.int .i64 (bh a b))/\w'=w:=by
 go_enter func161,ntmps161;go_wp2_with fail;refine(sT _ _ _).mono ?_;rintro e w' ⟨rfl,rfl⟩;go_wp2;go_ret;exact⟨rfl,rfl⟩
def Kn(x:aC):Prop:=∀(y:aC) (c d:VC) (w:World),RW w c x->RW w d y->
 Calls prog 107 #[c.val,d.val] w (Rt w (.int .i64 (aZ x y)))
end
structure ky(w:World)(c d:VC)(wr:World):Prop where
 b0:aG wr w.heap.size 29 c.arr
 b1:aG wr (w.heap.size+1) 29 d.arr
 bel:Bl w wr
section
variable {c size:Nat} {w w' wr:World} {x d:Int}
theorem ky.step{c d:VC}(h:ky w c d wr)(hb:Bl wr w'):ky w c d w':=⟨h.b0.step hb,h.b1.step hb,h.bel.Ml hb⟩
theorem Ar:∀x,Kn x:=by
 intro x
 induction x using aC.ind with
 | h k n t l d ihl ihd=>
 intro y c e w hx hy;obtain⟨ck,cn,ct,cLA,cln,clc,cDA,cdn,cdc⟩:=c;obtain⟨ek,en,et,eLA,eln,elc,eDA,edn,edc⟩:=e;have hk:ck=k:=hx.open.k;have hn:cn=n:=hx.open.n;have ht:ct=t:=hx.open.t;subst hk hn ht;have hk2:ek=y.k:=hy.open.k;have hn2:en=y.n:=hy.open.n;have ht2:et=y.t:=hy.open.t
 have I0:Hid (ky w ⟨ck,cn,ct,cLA,cln,clc,cDA,cdn,cdc⟩ ⟨ek,en,et,eLA,eln,elc,eDA,edn,edc⟩ ((w.alloc (.cells #[.int .i64 ck,.int .i64 cn,.string ct,.slice cLA cln clc,.slice cDA cdn cdc] 29)).alloc (.cells #[.int .i64 ek,.int .i64 en,.string et,.slice eLA eln elc,.slice eDA edn edc] 29))):=
  qD ⟨(aG.Mm rfl).alloc _,aG.Mm sM,((OG _ _).alloc (qL) _).alloc sM _⟩
 cases hne:(ck != ek)
 ·have he:ck=ek:=by simpa using hne
  have hxy:(aC.mk ck cn ct l d).k=y.k:=by rw[<-hk2];exact he
  subst he;rcases tA ck with hi|ht' | hl|hd|ho
  ·have HV:Hid (aZ (.mk ck cn ct l d) y=cd cn en):=by rw[Hid,iZ hxy hi,hn2];rfl
   clear hx hy ihl ihd hk2 hn2 ht2 hxy;rcases hi with rfl|rfl|rfl
   all_goals
    go_enter SG,Rs;go_wp2_with fail;refine(kM _ _ _).mono ?_;rintro e w' ⟨rfl,rfl⟩;go_wp2;go_ret;exact⟨by rw[HV.out];rfl,I0.out.bel⟩
  ·have HV:Hid (aZ (.mk ck cn ct l d) y=bh ct et):=by rw[Hid,fy hxy ht',ht2];rfl
   clear hx hy ihl ihd hk2 hn2 ht2 hxy;rcases ht' with rfl|rfl|rfl
   all_goals
    go_enter SG,Rs;go_wp2_with fail;refine(qP _ _ _).mono ?_;rintro e w' ⟨rfl,rfl⟩;go_wp2;go_ret;exact⟨by rw[HV.out];rfl,I0.out.bel⟩
  ·have HV:=qD (sw hxy hl);obtain⟨ps,hps,hsl⟩:=hx.sl;obtain⟨qs,hqs,hql⟩:=hy.sl;simp only at hsl hql;have hz1:=hsl.sz;have hz2:=hql.sz;unfold aF at hz1 hz2;have P1:=qD hsl;have P2:=qD hql;have HN1:Hid (cln=l.length):=hx.open.ln;have HN2:Hid (eln=y.l.length):=hy.open.ln;have HS1:Hid (ps.map Prod.snd=l):=hps;have HS2:Hid (qs.map Prod.snd=y.l):=hqs;have IH:=qD ihl;clear hx hy ihl ihd hk2 hn2 ht2 hxy hsl hql hps hqs;subst hl;by_cases hle:eln<cln
   all_goals
    go_enter SG,Rs;go_wp2_with fail
    go_loopw [49] (fun v49 wr=>∃i:Nat,i<=cln/\i<=eln/\v49=.int .i64 i/\dA l y.l=dA (l.drop i) (y.l.drop i)/\ky w ⟨6,cn,ct,cLA,cln,clc,cDA,cdn,cdc⟩ ⟨6,en,et,eLA,eln,elc,eDA,edn,edc⟩ wr) (fun v49 _=>cln-(intOf v49).toNat)
    ·exact⟨0,ON _,ON _,rfl,rfl,I0.out⟩
    case round=>
     obtain⟨i,hi1,hi2,rfl,hq,I⟩:=hrel;have HQ:=qD hq;have J:=qD I;clear hq;by_cases hlt:i<cln/\i<eln
     ·obtain⟨hl1,hl2⟩:=hlt;obtain⟨p,hp⟩:∃p,ps[i]?=some p:=⟨_,OH (by have:=P1.out.sr.ln;omega)⟩;obtain⟨q,hq⟩:∃q,qs[i]?=some q:=⟨_,OH (by have:=P2.out.sr.ln;omega)⟩;obtain⟨b1,o1,rfl,_,hu1,hr1⟩:=P1.out.Mw hp;obtain⟨b2,o2,rfl,_,hu2,hr2⟩:=P2.out.Mw hq;have g1:l[i]?=some p.2:=by rw[<-HS1.out,OT,hp];rfl
      have g2:y.l[i]?=some q.2:=by rw[<-HS2.out,OT,hq];rfl
      have HA:=qD (HQ.out.trans (Al g1 g2));obtain⟨y0,y1,y2,y3,y4⟩:=hu1.keep (I.bel.block b1 hu1.lt);obtain⟨z0,z1,z2,z3,z4⟩:=hu2.keep (I.bel.block b2 hu2.lt);have E0:=aX (J.out.b0.cell 3);have E1:=aX (J.out.b1.cell 3);have Y0:=aX y0;have Y1:=aX y1;have Y2:=aX y2;have Y3:=aX y3;have Y4:=aX y4;have Z0:=aX z0;have Z1:=aX z1;have Z2:=aX z2;have Z3:=aX z3;have Z4:=aX z4
      have K1:Hid (∀k:BW wr,Calls prog 107 #[p.1.val,q.1.val] k.val fun e w''=>e=.returned (.int .i64 (aZ p.2 q.2))/\∃k:BW wr,w''=k.val):=fun k=>
       Calls.bw (IH.out p.2 (OJ g1) q.2 p.1 q.1 k.val ((hr1.step I.bel).step k.below) ((hr2.step I.bel).step k.below))
      have hi0:(0:Int)<=(i:Int):=oM
      have hi3:(i:Int)<(cln:Int):=oM
      have hi4:(i:Int)<(eln:Int):=oM
      clear hp hq hu1 hu2 hr1 hr2 g1 g2 y0 y1 y2 y3 y4 z0 z1 z2 z3 z4 I;go_upto_region 16 with fail
      refine aL kR kR ?_
      repeat(go_big_quiet_step (with_reducible exact K1.out _))
      refine Oc ?_;rintro _ ⟨kw,rfl⟩;have J2:=qD (J.out.step kw.below);clear E0 E1 Y0 Y1 Y2 Y3 Y4 Z0 Z1 Z2 Z3 Z4 K1 hi0 hi3 hi4;generalize kw.val=w2 at*;cases hc:(aZ p.2 q.2 != 0)
      ·have HC:Hid (dA l y.l=dA (l.drop (i+1)) (y.l.drop (i+1))):=by
        have:aZ p.2 q.2=0:=by simpa using hc
        rw[Hid,HA.out,OQ (by simpa using this)]
       go_wp2_with fail;go_roundw
       ·exact⟨i+1,by omega,by omega,by go_num,HC.out,J2.out⟩
       ·exact iO
      ·have HC:Hid (dA l y.l=aZ p.2 q.2):=by
        rw[Hid,HA.out,OW (by simpa using hc)]
       go_wp2;go_ret;exact⟨by rw[HV.out];show _=Ending.returned (.int .i64 (dA l y.l));rw[HC.out];rfl,J2.out.bel⟩
     ·have HE:=qD (HQ.out.trans (vI (by have:=HN1.out;omega) (by have:=HN2.out;omega) (by have:=HN1.out;have:=HN2.out;omega)));have q0:=I.b0.cell 3;have q1:=I.b1.cell 3;simp at q0 q1;clear I
      first|have hx9:eln<=i:=by omega|have hx9:cln<=i:=oM
      go_wp2_with fail;refine(kM _ _ _).mono ?_;rintro e w' ⟨rfl,rfl⟩;go_wp2;go_ret;exact⟨by rw[HV.out];show _=Ending.returned (.int .i64 (dA l y.l));rw[HE.out,<-HN1.out,<-HN2.out];rfl,J.out.bel⟩
  ·have HV:=qD (qH hxy hd);obtain⟨ps,hps,hsl⟩:=hx.sd;obtain⟨qs,hqs,hql⟩:=hy.sd;simp only at hsl hql;have hz1:=hsl.sz;have hz2:=hql.sz;unfold aF at hz1 hz2;have P1:=qD hsl;have P2:=qD hql;have HN1:Hid (cdn=d.length):=hx.open.dn;have HN2:Hid (edn=y.d.length):=hy.open.dn;have HS1:Hid (ps.map Prod.snd=d):=hps;have HS2:Hid (qs.map Prod.snd=y.d):=hqs;have IH:=qD ihd;clear hx hy ihl ihd hk2 hn2 ht2 hxy hsl hql hps hqs;subst hd;by_cases hle:edn<cdn
   all_goals
    go_enter SG,Rs;go_wp2_with fail
    go_loopw [83] (fun v83 wr=>∃i:Nat,i<=cdn/\i<=edn/\v83=.int .i64 i/\cI d y.d=cI (d.drop i) (y.d.drop i)/\ky w ⟨5,cn,ct,cLA,cln,clc,cDA,cdn,cdc⟩ ⟨5,en,et,eLA,eln,elc,eDA,edn,edc⟩ wr) (fun v83 _=>cdn-(intOf v83).toNat)
    ·exact⟨0,ON _,ON _,rfl,rfl,I0.out⟩
    case round=>
     obtain⟨i,hi1,hi2,rfl,hq,I⟩:=hrel;have HQ:=qD hq;have J:=qD I;clear hq;by_cases hlt:i<cdn/\i<edn
     ·obtain⟨hl1,hl2⟩:=hlt;obtain⟨p,hp⟩:∃p,ps[i]?=some p:=⟨_,OH (by have:=P1.out.sr.ln;omega)⟩;obtain⟨q,hq⟩:∃q,qs[i]?=some q:=⟨_,OH (by have:=P2.out.sr.ln;omega)⟩;obtain⟨b1,o1,rfl,_,hs1,hu1,hr1⟩:=P1.out.Mw hp;obtain⟨b2,o2,rfl,_,hs2,hu2,hr2⟩:=P2.out.Mw hq;have g1:d[i]?=some p.2:=by rw[<-HS1.out,OT,hp];rfl
      have g2:y.d[i]?=some q.2:=by rw[<-HS2.out,OT,hq];rfl
      have HA:=qD (HQ.out.trans (An g1 g2));obtain⟨y0,y1,y2,y3,y4⟩:=hu1.keep (I.bel.block b1 hu1.lt);obtain⟨z0,z1,z2,z3,z4⟩:=hu2.keep (I.bel.block b2 hu2.lt);have n0:=(I.bel.cell (p:=⟨b1,o1+i*6,none⟩) hu1.lt).trans hs1;have n1:=(I.bel.cell (p:=⟨b2,o2+i*6,none⟩) hu2.lt).trans hs2;have N0:=aX n0;have N1:=aX n1;have E0:=aX (J.out.b0.cell 4);have E1:=aX (J.out.b1.cell 4);have Y0:=aX y0;have Y1:=aX y1;have Y2:=aX y2;have Y3:=aX y3;have Y4:=aX y4;have Z0:=aX z0;have Z1:=aX z1;have Z2:=aX z2;have Z3:=aX z3;have Z4:=aX z4
      have KB:Hid (∀(W:World),Bl w W->∀k:BW W,Calls prog 107 #[p.1.val,q.1.val] k.val fun e w''=>e=.returned (.int .i64 (aZ p.2.v q.2.v))/\∃k:BW W,w''=k.val):=fun W hW k=>
       Calls.bw (IH.out p.2 (OJ g1) q.2.v p.1 q.1 k.val ((hr1.step hW).step k.below) ((hr2.step hW).step k.below))
      have hi0:(0:Int)<=(i:Int):=oM
      have hi3:(i:Int)<(cdn:Int):=oM
      have hi4:(i:Int)<(edn:Int):=oM
      clear hp hq hu1 hu2 hr1 hr2 g1 g2 y0 y1 y2 y3 y4 z0 z1 z2 z3 z4 I hs1 hs2 n0 n1
      have K2:Hid (∀k:BW wr,Calls prog 161 #[.string p.2.s,.string q.2.s] k.val fun e w''=>e=.returned (.int .i64 (bh p.2.s q.2.s))/\∃k:BW wr,w''=k.val):=fun k=>
       Calls.bw ((qP _ _ _).mono fun _ _ ⟨h1,h2⟩=>⟨h1,by rw[h2];exact OG _ _⟩)
      go_upto_region 25 with fail
      refine aL kR kR ?_
      repeat(go_big_quiet_step (with_reducible exact K2.out _))
      refine Oc ?_;rintro _ ⟨kw,rfl⟩;cases hb:(bh p.2.s q.2.s != 0)
      ·have HA':Hid (cI d y.d=if aZ p.2.v q.2.v≠0 then aZ p.2.v q.2.v else cI (d.drop (i+1)) (y.d.drop (i+1))):=by
        have:bh p.2.s q.2.s=0:=by simpa using hb
        rw[Hid,HA.out,OQ (by simpa using this)]
       have J1:=qD (J.out.step kw.below);have E0':∀q:BW kw.val,q.val.cell? ⟨w.heap.size,4,none⟩=some (.slice (some ⟨b1,o1,none⟩) cdn cdc):=fun q=>q.cell (E0 kw);have E1':∀q:BW kw.val,q.val.cell? ⟨w.heap.size+1,4,none⟩=some (.slice (some ⟨b2,o2,none⟩) edn edc):=fun q=>q.cell (E1 kw);have Y0':∀k:BW kw.val,k.val.cell? ⟨b1,o1+i*6+1,none⟩=some (.int .i64 p.1.k):=fun k=>k.cell (Y0 kw);have Y1':∀k:BW kw.val,k.val.cell? ⟨b1,o1+i*6+1+1,none⟩=some (.int .i64 p.1.n):=fun k=>k.cell (Y1 kw);have Y2':∀k:BW kw.val,k.val.cell? ⟨b1,o1+i*6+1+2,none⟩=some (.string p.1.t):=fun k=>k.cell (Y2 kw);have Y3':∀k:BW kw.val,k.val.cell? ⟨b1,o1+i*6+1+3,none⟩=some (.slice p.1.LA p.1.ln p.1.lc):=fun k=>k.cell (Y3 kw);have Y4':∀k:BW kw.val,k.val.cell? ⟨b1,o1+i*6+1+4,none⟩=some (.slice p.1.DA p.1.dn p.1.dc):=fun k=>k.cell (Y4 kw);have Z0':∀k:BW kw.val,k.val.cell? ⟨b2,o2+i*6+1,none⟩=some (.int .i64 q.1.k):=fun k=>k.cell (Z0 kw);have Z1':∀k:BW kw.val,k.val.cell? ⟨b2,o2+i*6+1+1,none⟩=some (.int .i64 q.1.n):=fun k=>k.cell (Z1 kw);have Z2':∀k:BW kw.val,k.val.cell? ⟨b2,o2+i*6+1+2,none⟩=some (.string q.1.t):=fun k=>k.cell (Z2 kw);have Z3':∀k:BW kw.val,k.val.cell? ⟨b2,o2+i*6+1+3,none⟩=some (.slice q.1.LA q.1.ln q.1.lc):=fun k=>k.cell (Z3 kw);have Z4':∀k:BW kw.val,k.val.cell? ⟨b2,o2+i*6+1+4,none⟩=some (.slice q.1.DA q.1.dn q.1.dc):=fun k=>k.cell (Z4 kw)
       have K1':Hid (∀k:BW kw.val,Calls prog 107 #[p.1.val,q.1.val] k.val fun e w''=>e=.returned (.int .i64 (aZ p.2.v q.2.v))/\∃k:BW kw.val,w''=k.val):=fun k=>
        KB.out kw.val (J1.out.bel) k
       clear E0 E1 Y0 Y1 Y2 Y3 Y4 Z0 Z1 Z2 Z3 Z4 N0 N1 K2;generalize kw.val=w2 at*;go_upto_region 28 with fail
       refine aL kR kR ?_
       repeat(go_big_quiet_step (with_reducible exact K1'.out _))
       refine Oc ?_;rintro _ ⟨kv,rfl⟩;have J2:=qD (J1.out.step kv.below);clear E0' E1' Y0' Y1' Y2' Y3' Y4' Z0' Z1' Z2' Z3' Z4' K1' hi0 hi3 hi4;generalize kv.val=w3 at*;cases hc:(aZ p.2.v q.2.v != 0)
       ·have HC:Hid (cI d y.d=cI (d.drop (i+1)) (y.d.drop (i+1))):=by
         have:aZ p.2.v q.2.v=0:=by simpa using hc
         rw[Hid,HA'.out,OQ (by simpa using this)]
        go_wp2_with fail;go_roundw
        ·exact⟨i+1,by omega,by omega,by go_num,HC.out,J2.out⟩
        ·exact iO
       ·have HC:Hid (cI d y.d=aZ p.2.v q.2.v):=by
         rw[Hid,HA'.out,OW (by simpa using hc)]
        go_wp2;go_ret;exact⟨by rw[HV.out];show _=Ending.returned (.int .i64 (cI d y.d));rw[HC.out];rfl,J2.out.bel⟩
      ·have HC:Hid (cI d y.d=bh p.2.s q.2.s):=by
        rw[Hid,HA.out,OW (by simpa using hb)]
       have J2:=qD (J.out.step kw.below);clear E0 E1 Y0 Y1 Y2 Y3 Y4 Z0 Z1 Z2 Z3 Z4 N0 N1 K2 hi0 hi3 hi4;generalize kw.val=w2 at*;go_wp2;go_ret;exact⟨by rw[HV.out];show _=Ending.returned (.int .i64 (cI d y.d));rw[HC.out];rfl,J2.out.bel⟩
     ·have HE:=qD (HQ.out.trans (vJ (by have:=HN1.out;omega) (by have:=HN2.out;omega) (by have:=HN1.out;have:=HN2.out;omega)));have q0:=I.b0.cell 4;have q1:=I.b1.cell 4;simp at q0 q1;clear I
      first|have hx9:edn<=i:=by omega|have hx9:cdn<=i:=oM
      go_wp2_with fail;refine(kM _ _ _).mono ?_;rintro e w' ⟨rfl,rfl⟩;go_wp2;go_ret;exact⟨by rw[HV.out];show _=Ending.returned (.int .i64 (cI d y.d));rw[HE.out,<-HN1.out,<-HN2.out];rfl,J.out.bel⟩
  ·obtain⟨h3,h9,h10,h4,h7,h8,h6,h5⟩:=ho;have HV:=qD (fM hxy h3 h9 h10 h4 h7 h8 h6 h5);clear hx hy ihl ihd hk2 hn2 ht2 hxy;have e3:(ck==3)=false:=by simpa using h3
   have e9:(ck==9)=false:=by simpa using h9
   have e10:(ck==10)=false:=by simpa using h10
   have e4:(ck==4)=false:=by simpa using h4
   have e7:(ck==7)=false:=by simpa using h7
   have e8:(ck==8)=false:=by simpa using h8
   have e6:(ck==6)=false:=by simpa using h6
   have e5:(ck==5)=false:=by simpa using h5
   clear h3 h9 h10 h4 h7 h8 h6 h5;go_enter SG,Rs;go_wp2;go_ret;exact⟨by rw[HV.out];rfl,I0.out.bel⟩
 ·have HV:Hid (aZ (.mk ck cn ct l d) y=cd ck ek):=by
   have:ck≠ek:=by simpa using hne
   rw[Hid,bX (by rw[<-hk2];exact this),<-hk2];rfl
  clear hx hy ihl ihd hk2 hn2 ht2;go_enter SG,Rs;go_wp2_with fail;refine(kM _ _ _).mono ?_;rintro e w' ⟨rfl,rfl⟩;go_wp2;go_ret;exact⟨by rw[HV.out];rfl,I0.out.bel⟩
end
end Go.Proofs.YtgfoliedmhgpnaaGreatDoor
