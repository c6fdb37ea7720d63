/- A part of the proof. -/
import Derived.Test.YtgfoliedmhgpnaaGreatDoorCn6
import Derived.Test.YtgfoliedmhgpnaaGreatDoorCn8
import Derived.Test.YtgfoliedmhgpnaaGreatDoorCn11
set_option maxRecDepth 100000
set_option maxHeartbeats 16000000
open Go.Proofs.Tryz
open ByteArray (empty)
namespace Go.Proofs.YtgfoliedmhgpnaaGreatDoor
open Go.RowKit
section
variable {k n c:Nat} {w:World} {t:TypeId} {x y d:Int} {l:List ByteArray}
theorem gD{nm:ByteArray->Bool}{x:aC}(hh:dU x.k x.n x.t x.l.length x.d.length)(h:∀y∈x.l,aw nm y):aQ nm x=dV nm x.d:=by
 by_cases hf:bz nm x.d
 ·rw[iJ hf];exact ci ((aT nm x).2 ⟨hh,h,hf.2,hf.1⟩)
 ·rw[dI hf];exact iI fun hs=>hf ⟨((aT nm x).1 hs).2.2.2,((aT nm x).1 hs).2.2.1⟩
theorem vX:∀x,tD x:=by
 intro x
 induction x using aC.ind with
 | h k n t l d ihl ihd=>
 intro names c w h;obtain⟨ck,cn,ct,LA,cln,clc,DA,cdn,cdc⟩:=c;have hk:ck=k:=h.open.k;have hn:cn=n:=h.open.n;have ht:ct=t:=h.open.t;subst hk hn ht;have HL:Hid (cln=l.length):=h.open.ln;have HD:Hid (cdn=d.length):=h.open.dn;have HX:=qD h;have IH:=qD ihl;have ID:=qD ihd;obtain⟨nm,hnm⟩:∃nm,By names=nm:=⟨_,rfl⟩;have HNM:=qD hnm;rw[hnm];clear h ihl ihd hnm;by_cases e6:ck=6
 ·subst e6;by_cases hd0:0<cdn
  ·have HV:Hid (aQ nm (aC.mk 6 cn ct l d)=false):=aR (by
    have q1:=HL.out
    have q2:=HD.out
    rintro⟨h1,h2,h3,h4,h5⟩
    simp only[aC.k,aC.n,aC.t,aC.l,aC.d] at h1 h2 h3 h4 h5
    omega)
   go_enter Pc,PR;go_wp2_with fail
   all_goals
    go_ret;exact⟨by rw[HV.out];rfl,(OG _ _).alloc (qL) _⟩
  cases hn0:(cn != 0);rotate_left
  ·have hn1:¬cn=0:=by simpa using hn0
   have HV:Hid (aQ nm (aC.mk 6 cn ct l d)=false):=aR (by
    have q1:=HL.out
    have q2:=HD.out
    rintro⟨h1,h2,h3,h4,h5⟩
    simp only[aC.k,aC.n,aC.t,aC.l,aC.d] at h1 h2 h3 h4 h5
    omega)
   go_enter Pc,PR;go_wp2_with fail
   all_goals
    go_ret;exact⟨by rw[HV.out];rfl,(OG _ _).alloc (qL) _⟩
  obtain rfl:cn=0:=by simpa using hn0
  by_cases ht0:ct.size=0;rotate_left
  ·have HV:Hid (aQ nm (aC.mk 6 0 ct l d)=false):=aR (by
    have q1:=HL.out
    have q2:=HD.out
    rintro⟨h1,h2,h3,h4,h5⟩
    simp only[aC.k,aC.n,aC.t,aC.l,aC.d] at h1 h2 h3 h4 h5
    omega)
   obtain⟨f1,f2,f3⟩:=eN ht0;go_enter Pc,PR;go_wp2_with fail
   all_goals
    go_ret;exact⟨by rw[HV.out];rfl,(OG _ _).alloc (qL) _⟩
  obtain rfl:=fW ht0;have HH:Hid (dU 6 0 empty l.length d.length):=⟨by simp,by simp,.inl rfl,.inr (by have:=HD.out;omega),by simp⟩;obtain⟨ps,hps,hsl⟩:=HX.out.sl;simp only at hsl;have HP:=qD hsl;have HS:Hid (ps.map Prod.snd=l):=hps;have HN:=qD hsl.sr.ln;have hz1:=hsl.sz;unfold aF at hz1;clear hps hsl;go_enter Pc,PR;go_wp2_with fail
  go_loopw [7] (fun v7 wr=>∃i:Nat,i<=cln/\v7=.int .i64 i/\(∀y∈l.take i,aw nm y)/\aG wr w.heap.size 29 (VC.arr ⟨6,0,empty,LA,cln,clc,DA,cdn,cdc⟩)/\Bl w wr) (fun v7 _=>cln-(intOf v7).toNat)
  ·exact⟨0,ON _,rfl,by simp,aG.Mm rfl,(OG _ _).alloc (qL) _⟩
  case round=>
   obtain⟨i,hi,rfl,ha,hK,I⟩:=hrel;have HA:=qD ha;have J:=qD I;have JK:=qD hK;have q3:=hK.cell 3;simp at q3;clear ha;by_cases hlt:i<cln
   ·obtain⟨p,hp⟩:∃p,ps[i]?=some p:=⟨_,OH (by have:=HN.out;omega)⟩;have hy:l[i]?=some p.2:=by rw[<-HS.out,OT,hp];rfl
    obtain⟨b,off,rfl,_,hu,hr⟩:=HP.out.Mw hp;obtain⟨y0,y1,y2,y3,y4⟩:=hu.keep (I.block b hu.lt);have HC:=qD (IH.out p.2 (OJ hy));have HR:=qD (hr.step I);have HY:=qD hy;clear hp hy hu hr I hK;go_wp2_with fail;refine(HC.out names p.1 _ HR.out).mono ?_;rintro e w2 ⟨rfl,hb2⟩;rw[HNM.out];have J2:=qD (J.out.Ml hb2);have JK2:=qD (JK.out.step hb2);clear y0 y1 y2 y3 y4 hb2 q3;cases hso:aQ nm p.2
    ·have HV:Hid (aQ nm (aC.mk 6 0 empty l d)=false):=nj HY.out (kL.1 hso);go_wp2;go_ret;exact⟨by rw[HV.out];rfl,J2.out⟩
    ·have HN2:Hid (∀y∈l.take (i+1),aw nm y):=by
      rw[Hid,take_snoc' HY.out];intro y hy;rcases OP.1 hy with hy|hy
      ·exact HA.out y hy
      ·simp at hy;subst hy;exact eE.1 hso
     go_wp2_with fail;go_roundw
     ·exact⟨i+1,by omega,by go_num,HN2.out,JK2.out,J2.out⟩
     ·exact iO
   ·have HV:Hid (aQ nm (aC.mk 6 0 empty l d)=dV nm d):=by
     have:=HA.out;rw[OS (by have:=HL.out;omega)] at this;exact gD HH.out this
    have HR:=qD (HX.out.step I);obtain⟨k0,k1,k2,_,k4⟩:=aO.Mn hK;clear I hK;go_wp2_with fail;refine(fR names (aC.mk 6 0 empty l d) ⟨6,0,empty,LA,cln,clc,DA,cdn,cdc⟩ _ HR.out ID.out).mono ?_;rintro e w2 ⟨rfl,hb2⟩;rw[HNM.out];have J2:=qD (J.out.Ml hb2);clear hb2 q3 k0 k1 k2 k4;go_wp2;go_ret;exact⟨by rw[HV.out];rfl,J2.out⟩
 by_cases e5:ck=5
 ·subst e5;by_cases hl0:0<cln
  ·have HV:Hid (aQ nm (aC.mk 5 cn ct l d)=false):=aR (by
    have q1:=HL.out
    have q2:=HD.out
    rintro⟨h1,h2,h3,h4,h5⟩
    simp only[aC.k,aC.n,aC.t,aC.l,aC.d] at h1 h2 h3 h4 h5
    omega)
   go_enter Pc,PR;go_wp2_with fail
   all_goals
    go_ret;exact⟨by rw[HV.out];rfl,(OG _ _).alloc (qL) _⟩
  cases hn0:(cn != 0);rotate_left
  ·have hn1:¬cn=0:=by simpa using hn0
   have HV:Hid (aQ nm (aC.mk 5 cn ct l d)=false):=aR (by
    have q1:=HL.out
    have q2:=HD.out
    rintro⟨h1,h2,h3,h4,h5⟩
    simp only[aC.k,aC.n,aC.t,aC.l,aC.d] at h1 h2 h3 h4 h5
    omega)
   go_enter Pc,PR;go_wp2_with fail
   all_goals
    go_ret;exact⟨by rw[HV.out];rfl,(OG _ _).alloc (qL) _⟩
  obtain rfl:cn=0:=by simpa using hn0
  by_cases ht0:ct.size=0;rotate_left
  ·have HV:Hid (aQ nm (aC.mk 5 0 ct l d)=false):=aR (by
    have q1:=HL.out
    have q2:=HD.out
    rintro⟨h1,h2,h3,h4,h5⟩
    simp only[aC.k,aC.n,aC.t,aC.l,aC.d] at h1 h2 h3 h4 h5
    omega)
   obtain⟨f1,f2,f3⟩:=eN ht0;go_enter Pc,PR;go_wp2_with fail
   all_goals
    go_ret;exact⟨by rw[HV.out];rfl,(OG _ _).alloc (qL) _⟩
  obtain rfl:=fW ht0;have HH:Hid (dU 5 0 empty l.length d.length):=⟨by simp,by simp,.inr (by have:=HL.out;omega),.inl rfl,by simp⟩;obtain⟨ps,hps,hsl⟩:=HX.out.sl;simp only at hsl;have hz1:=hsl.sz;unfold aF at hz1;clear hps hsl;go_enter Pc,PR;go_wp2_with fail
  go_loopw [7] (fun v7 wr=>∃i:Nat,i<=cln/\v7=.int .i64 i/\(∀y∈l.take i,aw nm y)/\aG wr w.heap.size 29 (VC.arr ⟨5,0,empty,LA,cln,clc,DA,cdn,cdc⟩)/\Bl w wr) (fun v7 _=>cln-(intOf v7).toNat)
  ·exact⟨0,ON _,rfl,by simp,aG.Mm rfl,(OG _ _).alloc (qL) _⟩
  case round=>
   obtain⟨i,hi,rfl,ha,hK,I⟩:=hrel;have HA:=qD ha;have J:=qD I;have JK:=qD hK;have q3:=hK.cell 3;simp at q3;clear ha;have hlt:¬i<cln:=oM
   have HV:Hid (aQ nm (aC.mk 5 0 empty l d)=dV nm d):=by
    have:=HA.out;rw[OS (by have:=HL.out;omega)] at this;exact gD HH.out this
   have HR:=qD (HX.out.step I);obtain⟨k0,k1,k2,_,k4⟩:=aO.Mn hK;clear I hK;go_wp2_with fail;refine(fR names (aC.mk 5 0 empty l d) ⟨5,0,empty,LA,cln,clc,DA,cdn,cdc⟩ _ HR.out ID.out).mono ?_;rintro e w2 ⟨rfl,hb2⟩;rw[HNM.out];have J2:=qD (J.out.Ml hb2);clear hb2 q3 k0 k1 k2 k4;go_wp2;go_ret;exact⟨by rw[HV.out];rfl,J2.out⟩
 have m6:(ck != 6)=true:=by simpa using e6
 have m5:(ck != 5)=true:=by simpa using e5
 by_cases hl0:0<cln
 ·have HV:Hid (aQ nm (aC.mk ck cn ct l d)=false):=aR (by
   have q1:=HL.out
   have q2:=HD.out
   rintro⟨h1,h2,h3,h4,h5⟩
   simp only[aC.k,aC.n,aC.t,aC.l,aC.d] at h1 h2 h3 h4 h5
   omega)
  clear e5 e6;go_enter Pc,PR;go_wp2_with fail
  all_goals
   go_ret;exact⟨by rw[HV.out];rfl,(OG _ _).alloc (qL) _⟩
 by_cases hd0:0<cdn
 ·have HV:Hid (aQ nm (aC.mk ck cn ct l d)=false):=aR (by
   have q1:=HL.out
   have q2:=HD.out
   rintro⟨h1,h2,h3,h4,h5⟩
   simp only[aC.k,aC.n,aC.t,aC.l,aC.d] at h1 h2 h3 h4 h5
   omega)
  clear e5 e6;go_enter Pc,PR;go_wp2_with fail
  all_goals
   go_ret;exact⟨by rw[HV.out];rfl,(OG _ _).alloc (qL) _⟩
 rcases yL ck with hi|⟨e3,e9,e10⟩
 ·clear m5 m6;by_cases ht0:ct.size=0
  ·obtain rfl:=fW ht0;rcases hi with rfl|rfl|rfl
   ·have HH:Hid (dU 3 cn empty l.length d.length):=⟨by simp,by simp,.inr (by have:=HL.out;omega),.inr (by have:=HD.out;omega),by simp⟩;obtain⟨ps,hps,hsl⟩:=HX.out.sl;simp only at hsl;have hz1:=hsl.sz;unfold aF at hz1;clear hps hsl;go_enter Pc,PR;go_wp2_with fail
    go_loopw [7] (fun v7 wr=>∃i:Nat,i<=cln/\v7=.int .i64 i/\(∀y∈l.take i,aw nm y)/\aG wr w.heap.size 29 (VC.arr ⟨3,cn,empty,LA,cln,clc,DA,cdn,cdc⟩)/\Bl w wr) (fun v7 _=>cln-(intOf v7).toNat)
    ·exact⟨0,ON _,rfl,by simp,aG.Mm rfl,(OG _ _).alloc (qL) _⟩
    case round=>
     obtain⟨i,hi,rfl,ha,hK,I⟩:=hrel;have HA:=qD ha;have J:=qD I;have JK:=qD hK;have q3:=hK.cell 3;simp at q3;clear ha;have hlt:¬i<cln:=oM
     have HV:Hid (aQ nm (aC.mk 3 cn empty l d)=dV nm d):=by
      have:=HA.out;rw[OS (by have:=HL.out;omega)] at this;exact gD HH.out this
     have HR:=qD (HX.out.step I);obtain⟨k0,k1,k2,_,k4⟩:=aO.Mn hK;clear I hK;go_wp2_with fail;refine(fR names (aC.mk 3 cn empty l d) ⟨3,cn,empty,LA,cln,clc,DA,cdn,cdc⟩ _ HR.out ID.out).mono ?_;rintro e w2 ⟨rfl,hb2⟩;rw[HNM.out];have J2:=qD (J.out.Ml hb2);clear hb2 q3 k0 k1 k2 k4;go_wp2;go_ret;exact⟨by rw[HV.out];rfl,J2.out⟩
   ·cases hn0:(cn==0)
    ·cases hn1:(cn==1)
     ·have h0:¬cn=0:=by simpa using hn0
      have h1:¬cn=1:=by simpa using hn1
      have HV:Hid (aQ nm (aC.mk 9 cn empty l d)=false):=by
       exact aR (by rintro⟨h1,h2,h3,h4,h5⟩;simp only[aC.k,aC.n,aC.t] at h5;omega)
      go_enter Pc,PR;go_wp2_with fail
      all_goals
       go_ret;exact⟨by rw[HV.out];rfl,(OG _ _).alloc (qL) _⟩
     ·obtain rfl:cn=1:=by simpa using hn1
      have HV:Hid (aQ nm (aC.mk 9 1 empty l d)=true):=by
       exact br (by simp only[aC.k];omega) (by simp only[aC.k];omega) ⟨by simp[aC.k,aC.n],by simp[aC.k,aC.t],by have:=HL.out;simp only[aC.k,aC.l];omega,by have:=HD.out;simp only[aC.k,aC.d];omega,by simp[aC.k,aC.n]⟩
      go_enter Pc,PR;go_wp2_with fail
      all_goals
       go_ret;exact⟨by rw[HV.out];rfl,(OG _ _).alloc (qL) _⟩
    ·obtain rfl:cn=0:=by simpa using hn0
     have HV:Hid (aQ nm (aC.mk 9 0 empty l d)=true):=by
      exact br (by simp only[aC.k];omega) (by simp only[aC.k];omega) ⟨by simp[aC.k,aC.n],by simp[aC.k,aC.t],by have:=HL.out;simp only[aC.k,aC.l];omega,by have:=HD.out;simp only[aC.k,aC.d];omega,by simp[aC.k,aC.n]⟩
     go_enter Pc,PR;go_wp2_with fail
     all_goals
      go_ret;exact⟨by rw[HV.out];rfl,(OG _ _).alloc (qL) _⟩
   ·by_cases hn0:0<=cn
    ·have hd':decide (0<=cn)=true:=OM hn0
     have HV:Hid (aQ nm (aC.mk 10 cn empty l d)=true):=by
      exact br (by simp only[aC.k];omega) (by simp only[aC.k];omega) ⟨by simp[aC.k,aC.n],by simp[aC.k,aC.t],by have:=HL.out;simp only[aC.k,aC.l];omega,by have:=HD.out;simp only[aC.k,aC.d];omega,by simpa[aC.k,aC.n] using hn0⟩
     go_enter Pc,PR;go_wp2_with fail
     all_goals
      go_ret;exact⟨by rw[HV.out];rfl,(OG _ _).alloc (qL) _⟩
    ·have hd':decide (0<=cn)=false:=OV hn0
     have HV:Hid (aQ nm (aC.mk 10 cn empty l d)=false):=by
      exact aR (by rintro⟨h1,h2,h3,h4,h5⟩;simp only[aC.k,aC.n,aC.t] at h5;omega)
     go_enter Pc,PR;go_wp2_with fail
     all_goals
      go_ret;exact⟨by rw[HV.out];rfl,(OG _ _).alloc (qL) _⟩
  ·rcases hi with rfl|rfl|rfl
   ·have HV:Hid (aQ nm (aC.mk 3 cn ct l d)=false):=aR (by
     have q1:=HL.out
     have q2:=HD.out
     rintro⟨h1,h2,h3,h4,h5⟩
     simp only[aC.k,aC.n,aC.t,aC.l,aC.d] at h1 h2 h3 h4 h5
     omega)
    obtain⟨f1,f2,f3⟩:=eN ht0;go_enter Pc,PR;go_wp2_with fail
    all_goals
     go_ret;exact⟨by rw[HV.out];rfl,(OG _ _).alloc (qL) _⟩
   ·have HV:Hid (aQ nm (aC.mk 9 cn ct l d)=false):=aR (by
     have q1:=HL.out
     have q2:=HD.out
     rintro⟨h1,h2,h3,h4,h5⟩
     simp only[aC.k,aC.n,aC.t,aC.l,aC.d] at h1 h2 h3 h4 h5
     omega)
    obtain⟨f1,f2,f3⟩:=eN ht0;go_enter Pc,PR;go_wp2_with fail
    all_goals
     go_ret;exact⟨by rw[HV.out];rfl,(OG _ _).alloc (qL) _⟩
   ·have HV:Hid (aQ nm (aC.mk 10 cn ct l d)=false):=aR (by
     have q1:=HL.out
     have q2:=HD.out
     rintro⟨h1,h2,h3,h4,h5⟩
     simp only[aC.k,aC.n,aC.t,aC.l,aC.d] at h1 h2 h3 h4 h5
     omega)
    obtain⟨f1,f2,f3⟩:=eN ht0;go_enter Pc,PR;go_wp2_with fail
    all_goals
     go_ret;exact⟨by rw[HV.out];rfl,(OG _ _).alloc (qL) _⟩
 have g3:=cv e3;have g9:=cv e9;have g10:=cv e10;cases hn0:(cn != 0);rotate_left
 ·have hn1:¬cn=0:=by simpa using hn0
  have HV:Hid (aQ nm (aC.mk ck cn ct l d)=false):=aR (by
   have q1:=HL.out
   have q2:=HD.out
   rintro⟨h1,h2,h3,h4,h5⟩
   simp only[aC.k,aC.n,aC.t,aC.l,aC.d] at h1 h2 h3 h4 h5
   omega)
  clear e3 e9 e10 hn1 e5 e6;go_enter Pc,PR;go_wp2_with fail
  all_goals
   go_ret;exact⟨by rw[HV.out];rfl,(OG _ _).alloc (qL) _⟩
 obtain rfl:cn=0:=by simpa using hn0
 rcases uJ ck with hi|⟨e4,e7,e8⟩
 ·clear m5 m6 g3 g9 g10;rcases hi with rfl|rfl|rfl
  ·by_cases hs:ct.size<=4096
   ·have HU:Hid (aQ nm (aC.mk 4 0 ct l d)=cE ct):=by
     cases hu:cE ct
     ·exact aR (by rintro⟨h1,h2,h3,h4,h5⟩;simp only[aC.k,aC.n,aC.t,hu] at h5;simp at h5)
     ·exact br (by simp only[aC.k];omega) (by simp only[aC.k];omega) ⟨by simp[aC.k,aC.n],by simp[aC.k,aC.t],by have:=HL.out;simp only[aC.k,aC.l];omega,by have:=HD.out;simp only[aC.k,aC.d];omega,.inr (.inr (.inr (.inr (.inr (.inr (.inl ⟨rfl,hs,hu⟩))))))⟩
    have HZ:Hid (ct.size<=aF):=by unfold Hid aF;omega
    have hd':decide ((ct.size:Int)<=4096)=true:=OM oM;go_enter Pc,PR;go_wp2_with fail;refine(EF ct _ HZ.out).mono ?_;rintro e w' ⟨rfl,rfl⟩;go_wp2;go_ret;exact⟨by rw[HU.out];rfl,(OG _ _).alloc (qL) _⟩
   ·have hd':decide ((ct.size:Int)<=4096)=false:=OV oM
    have HV:Hid (aQ nm (aC.mk 4 0 ct l d)=false):=by
     exact aR (by rintro⟨h1,h2,h3,h4,h5⟩;simp only[aC.k,aC.n,aC.t] at h5;omega)
    go_enter Pc,PR;go_wp2_with fail
    all_goals
     go_ret;exact⟨by rw[HV.out];rfl,(OG _ _).alloc (qL) _⟩
  ·by_cases hs:ct.size<=4096
   ·have hd':decide ((ct.size:Int)<=4096)=true:=OM oM
    have HV:Hid (aQ nm (aC.mk 7 0 ct l d)=true):=by
     exact br (by simp only[aC.k];omega) (by simp only[aC.k];omega) ⟨by simp[aC.k,aC.n],by simp[aC.k,aC.t],by have:=HL.out;simp only[aC.k,aC.l];omega,by have:=HD.out;simp only[aC.k,aC.d];omega,by simpa[aC.k,aC.t] using hs⟩
    go_enter Pc,PR;go_wp2_with fail
    all_goals
     go_ret;exact⟨by rw[HV.out];rfl,(OG _ _).alloc (qL) _⟩
   ·have hd':decide ((ct.size:Int)<=4096)=false:=OV oM
    have HV:Hid (aQ nm (aC.mk 7 0 ct l d)=false):=by
     exact aR (by rintro⟨h1,h2,h3,h4,h5⟩;simp only[aC.k,aC.n,aC.t] at h5;omega)
    go_enter Pc,PR;go_wp2_with fail
    all_goals
     go_ret;exact⟨by rw[HV.out];rfl,(OG _ _).alloc (qL) _⟩
  ·cases hs:((ct.size:Int)==12)
   ·have hs':¬ct.size=12:=by simp at hs;omega
    have HV:Hid (aQ nm (aC.mk 8 0 ct l d)=false):=by
     exact aR (by rintro⟨h1,h2,h3,h4,h5⟩;simp only[aC.k,aC.n,aC.t] at h5;omega)
    go_enter Pc,PR;go_wp2_with fail
    all_goals
     go_ret;exact⟨by rw[HV.out];rfl,(OG _ _).alloc (qL) _⟩
   ·have hs':ct.size=12:=by simp at hs;omega
    have HV:Hid (aQ nm (aC.mk 8 0 ct l d)=true):=by
     exact br (by simp only[aC.k];omega) (by simp only[aC.k];omega) ⟨by simp[aC.k,aC.n],by simp[aC.k,aC.t],by have:=HL.out;simp only[aC.k,aC.l];omega,by have:=HD.out;simp only[aC.k,aC.d];omega,by simpa[aC.k,aC.t] using hs'⟩
    clear hs';go_enter Pc,PR;go_wp2_with fail
    all_goals
     go_ret;exact⟨by rw[HV.out];rfl,(OG _ _).alloc (qL) _⟩
 have g4:=cv e4;have g7:=cv e7;have g8:=cv e8;by_cases ht0:ct.size=0;rotate_left
 ·have HV:Hid (aQ nm (aC.mk ck 0 ct l d)=false):=aR (by
   have q1:=HL.out
   have q2:=HD.out
   rintro⟨h1,h2,h3,h4,h5⟩
   simp only[aC.k,aC.n,aC.t,aC.l,aC.d] at h1 h2 h3 h4 h5
   omega)
  obtain⟨f1,f2,f3⟩:=eN ht0;clear e3 e9 e10 e4 e7 e8 e5 e6;go_enter Pc,PR;go_wp2_with fail
  all_goals
   go_ret;exact⟨by rw[HV.out];rfl,(OG _ _).alloc (qL) _⟩
 obtain rfl:=fW ht0;rcases uK ck with h|h|h|h|h|⟨e1,e2,e11,_,_⟩
 ·subst h;clear m5 m6 g3 g9 g10 g4 g7 g8;have HH:Hid (dU 1 0 empty l.length d.length):=⟨by simp,by simp,.inr (by have:=HL.out;omega),.inr (by have:=HD.out;omega),by simp⟩;obtain⟨ps,hps,hsl⟩:=HX.out.sl;simp only at hsl;have hz1:=hsl.sz;unfold aF at hz1;clear hps hsl;go_enter Pc,PR;go_wp2_with fail
  go_loopw [7] (fun v7 wr=>∃i:Nat,i<=cln/\v7=.int .i64 i/\(∀y∈l.take i,aw nm y)/\aG wr w.heap.size 29 (VC.arr ⟨1,0,empty,LA,cln,clc,DA,cdn,cdc⟩)/\Bl w wr) (fun v7 _=>cln-(intOf v7).toNat)
  ·exact⟨0,ON _,rfl,by simp,aG.Mm rfl,(OG _ _).alloc (qL) _⟩
  case round=>
   obtain⟨i,hi,rfl,ha,hK,I⟩:=hrel;have HA:=qD ha;have J:=qD I;have JK:=qD hK;have q3:=hK.cell 3;simp at q3;clear ha;have hlt:¬i<cln:=oM
   have HV:Hid (aQ nm (aC.mk 1 0 empty l d)=dV nm d):=by
    have:=HA.out;rw[OS (by have:=HL.out;omega)] at this;exact gD HH.out this
   have HR:=qD (HX.out.step I);obtain⟨k0,k1,k2,_,k4⟩:=aO.Mn hK;clear I hK;go_wp2_with fail;refine(fR names (aC.mk 1 0 empty l d) ⟨1,0,empty,LA,cln,clc,DA,cdn,cdc⟩ _ HR.out ID.out).mono ?_;rintro e w2 ⟨rfl,hb2⟩;rw[HNM.out];have J2:=qD (J.out.Ml hb2);clear hb2 q3 k0 k1 k2 k4;go_wp2;go_ret;exact⟨by rw[HV.out];rfl,J2.out⟩
 ·subst h;clear m5 m6 g3 g9 g10 g4 g7 g8;have HH:Hid (dU 2 0 empty l.length d.length):=⟨by simp,by simp,.inr (by have:=HL.out;omega),.inr (by have:=HD.out;omega),by simp⟩;obtain⟨ps,hps,hsl⟩:=HX.out.sl;simp only at hsl;have hz1:=hsl.sz;unfold aF at hz1;clear hps hsl;go_enter Pc,PR;go_wp2_with fail
  go_loopw [7] (fun v7 wr=>∃i:Nat,i<=cln/\v7=.int .i64 i/\(∀y∈l.take i,aw nm y)/\aG wr w.heap.size 29 (VC.arr ⟨2,0,empty,LA,cln,clc,DA,cdn,cdc⟩)/\Bl w wr) (fun v7 _=>cln-(intOf v7).toNat)
  ·exact⟨0,ON _,rfl,by simp,aG.Mm rfl,(OG _ _).alloc (qL) _⟩
  case round=>
   obtain⟨i,hi,rfl,ha,hK,I⟩:=hrel;have HA:=qD ha;have J:=qD I;have JK:=qD hK;have q3:=hK.cell 3;simp at q3;clear ha;have hlt:¬i<cln:=oM
   have HV:Hid (aQ nm (aC.mk 2 0 empty l d)=dV nm d):=by
    have:=HA.out;rw[OS (by have:=HL.out;omega)] at this;exact gD HH.out this
   have HR:=qD (HX.out.step I);obtain⟨k0,k1,k2,_,k4⟩:=aO.Mn hK;clear I hK;go_wp2_with fail;refine(fR names (aC.mk 2 0 empty l d) ⟨2,0,empty,LA,cln,clc,DA,cdn,cdc⟩ _ HR.out ID.out).mono ?_;rintro e w2 ⟨rfl,hb2⟩;rw[HNM.out];have J2:=qD (J.out.Ml hb2);clear hb2 q3 k0 k1 k2 k4;go_wp2;go_ret;exact⟨by rw[HV.out];rfl,J2.out⟩
 ·subst h;clear m5 m6 g3 g9 g10 g4 g7 g8;have HH:Hid (dU 11 0 empty l.length d.length):=⟨by simp,by simp,.inr (by have:=HL.out;omega),.inr (by have:=HD.out;omega),by simp⟩;obtain⟨ps,hps,hsl⟩:=HX.out.sl;simp only at hsl;have hz1:=hsl.sz;unfold aF at hz1;clear hps hsl;go_enter Pc,PR;go_wp2_with fail
  go_loopw [7] (fun v7 wr=>∃i:Nat,i<=cln/\v7=.int .i64 i/\(∀y∈l.take i,aw nm y)/\aG wr w.heap.size 29 (VC.arr ⟨11,0,empty,LA,cln,clc,DA,cdn,cdc⟩)/\Bl w wr) (fun v7 _=>cln-(intOf v7).toNat)
  ·exact⟨0,ON _,rfl,by simp,aG.Mm rfl,(OG _ _).alloc (qL) _⟩
  case round=>
   obtain⟨i,hi,rfl,ha,hK,I⟩:=hrel;have HA:=qD ha;have J:=qD I;have JK:=qD hK;have q3:=hK.cell 3;simp at q3;clear ha;have hlt:¬i<cln:=oM
   have HV:Hid (aQ nm (aC.mk 11 0 empty l d)=dV nm d):=by
    have:=HA.out;rw[OS (by have:=HL.out;omega)] at this;exact gD HH.out this
   have HR:=qD (HX.out.step I);obtain⟨k0,k1,k2,_,k4⟩:=aO.Mn hK;clear I hK;go_wp2_with fail;refine(fR names (aC.mk 11 0 empty l d) ⟨11,0,empty,LA,cln,clc,DA,cdn,cdc⟩ _ HR.out ID.out).mono ?_;rintro e w2 ⟨rfl,hb2⟩;rw[HNM.out];have J2:=qD (J.out.Ml hb2);clear hb2 q3 k0 k1 k2 k4;go_wp2;go_ret;exact⟨by rw[HV.out];rfl,J2.out⟩
 ·exact absurd h e6
 ·exact absurd h e5
 ·have hlo:ck<1\/11<ck:=oM
  rcases hlo with hlo|hlo
  ·have HV:Hid (aQ nm (aC.mk ck 0 empty l d)=false):=aR (by
    have q1:=HL.out
    have q2:=HD.out
    rintro⟨h1,h2,h3,h4,h5⟩
    simp only[aC.k,aC.n,aC.t,aC.l,aC.d] at h1 h2 h3 h4 h5
    omega)
   clear e3 e9 e10 e4 e7 e8 e1 e2 e11 e5 e6;go_enter Pc,PR;go_wp2_with fail
   all_goals
    go_ret;exact⟨by rw[HV.out];rfl,(OG _ _).alloc (qL) _⟩
  ·have HV:Hid (aQ nm (aC.mk ck 0 empty l d)=false):=aR (by
    have q1:=HL.out
    have q2:=HD.out
    rintro⟨h1,h2,h3,h4,h5⟩
    simp only[aC.k,aC.n,aC.t,aC.l,aC.d] at h1 h2 h3 h4 h5
    omega)
   clear e3 e9 e10 e4 e7 e8 e1 e2 e11 e5 e6;go_enter Pc,PR;go_wp2_with fail
   all_goals
    go_ret;exact⟨by rw[HV.out];rfl,(OG _ _).alloc (qL) _⟩
theorem di(x:aC)(c:VC)(w:World)(h:RW w c x):Calls prog 8 #[c.val] w (Rt w (.bool (aJ x))):=by
 have H:=qD (h.alloc (.cells c.arr 29));have HB:Hid (aG (w.alloc (.cells c.arr 29)) w.heap.size 29 c.arr):=aG.Mm rfl;have HZ:=qD ((OG w.heap.size w).alloc (qL) (Obj.cells c.arr 29));clear h;go_enter func8,ntmps8;go_wp2_with fail;refine(vW x c _ H.out).mono ?_;rintro e w1 ⟨rfl,hb1⟩;obtain⟨a0,a1,a2,a3,a4⟩:=aO.Mn (HB.out.step hb1);have HB1:=qD (HB.out.step hb1);have H1:=qD (H.out.step hb1);have HZ1:=qD (HZ.out.Ml hb1);clear hb1;by_cases h1:pG x<=16
 ·have HD1:Hid (decide (x.Ms<=16)=true):=by rw[Hid,<-oY];exact OM h1
  go_wp2_with fail;refine(vV x c _ H1.out).mono ?_;rintro e w2 ⟨rfl,hb2⟩;clear a0 a1 a2 a3 a4;obtain⟨a0,a1,a2,a3,a4⟩:=aO.Mn (HB1.out.step hb2);have H2:=qD (H1.out.step hb2);have HZ2:=qD (HZ1.out.Ml hb2);clear hb2;by_cases h2:pF x<=1024
  ·have HD2:Hid (decide (x.size<=1024)=true):=by rw[Hid,<-oX];exact OM h2
   go_wp2_with fail;refine(vX x true c _ H2.out).mono ?_;rintro e w3 ⟨rfl,hb3⟩;go_wp2;go_ret;exact⟨by unfold aJ;rw[HD1.out,HD2.out];rfl,HZ2.out.Ml hb3⟩
  ·have HD2:Hid (decide (x.size<=1024)=false):=by rw[Hid,<-oX];exact OV h2
   go_wp2;go_ret;exact⟨by unfold aJ;rw[HD2.out];rfl,HZ2.out⟩
 ·have HD1:Hid (decide (x.Ms<=16)=false):=by rw[Hid,<-oY];exact OV h1
  go_wp2;go_ret;exact⟨by unfold aJ;rw[HD1.out,Sn];rfl,HZ1.out⟩
end
end Go.Proofs.YtgfoliedmhgpnaaGreatDoor
