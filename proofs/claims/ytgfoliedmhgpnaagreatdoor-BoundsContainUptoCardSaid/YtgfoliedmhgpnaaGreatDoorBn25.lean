/- A part of the proof. -/
import Derived.Test.YtgfoliedmhgpnaaGreatDoorBn24
set_option maxRecDepth 100000
set_option maxHeartbeats 16000000
set_option linter.unusedSimpArgs false
open Go.Proofs.Tryz
open ByteArray (empty)
namespace Go.Proofs.YtgfoliedmhgpnaaGreatDoor
open Go.RowKit
structure eZ(w:World)(g:Nat)(wr:World):Prop where
 b:aG wr g 29 VC.zero.arr
 lo:w.heap.size<=g
 bel:Below w.heap.size w wr
section
variable {b c k g n m size:Nat} {op x y d:Int} {s:ByteArray} {w w' wr:World} {A:Option Addr} {F:Nat -> Prop} {t:TypeId}
theorem eZ.step{w wr w':World}{g:Nat}(h:eZ w g wr)(hb:Below wr.heap.size wr w'):eZ w g w':=⟨h.b.step hb,h.lo,h.bel.Ih hb⟩
theorem eZ.leaf{w wr:World}{g:Nat}(h:eZ w g wr)(k n:Int){t:ByteArray}(ht:t.size<=aH)(hk:k≠0):fU w (.returned (bG k n t).val) (bH wr g 0 (bG k n t)):=⟨k,n,t,rfl,ht,hk,af h.bel h.lo 0 _⟩
theorem eZ.val{w wr:World}{g:Nat}{F:Nat->Prop}{d:VC}{y:aC}(h:eZ w g wr)(hr:RV (fun b=>F b\/(w.heap.size<=b/\b≠g)) wr d y)(hF:∀b,F b->b<w.heap.size)(h0:y.k=0->y=aC.zero):dh F w (.returned d.val) (bH wr g 0 d):=
 ⟨d,rfl,⟨y,hr.Il fun b hb _=>⟨hb.imp id And.left,bO (by
  rcases hb with hb|hb
  ·have:=hF b hb;have:=h.lo;omega
  ·exact hb.2)⟩,h0⟩,af h.bel h.lo 0 _⟩
theorem eZ.start{w:World}:eZ w w.heap.size (w.alloc (.cells VC.zero.arr 29)):=⟨aG.Ii rfl,qL,(Ju _ _).alloc (qL) _⟩
theorem bm(w:World):Calls prog 34 #[] w (fU w):=(gm w).mono fun _ _ ⟨h1,h2⟩=>⟨2,0,empty,h1,by decide,by decide,h2⟩
theorem fD(n:Int)(w:World):Calls prog 30 #[.int .i64 n] w (fU w):=(wu n w).mono fun _ _ ⟨h1,h2⟩=>⟨3,n,empty,h1,by decide,by decide,h2⟩
theorem sm{F:Nat->Prop}(op:Int)(ho:op=4\/op=6)(ps:List PV)(A:Option Addr)(m c:Nat)(w:World)(hs:fF F w A m c ps):
 Calls prog 260 #[.int .i64 op,.slice A m c] w (fU w):=by
 have HS:=qD hs;have HM:=qD hs.few;have hm:m<=256:=hs.few;have J0:Hid (eZ w w.heap.size (w.alloc (.cells VC.zero.arr 29))):=eZ.start;clear hs;rcases ho with rfl|rfl
 all_goals
  go_enter func260,OY;go_upto_region 1 with fail
  change Code.wp _ _ _ _ (w.alloc (.cells VC.zero.arr 29));generalize w.alloc (.cells VC.zero.arr 29)=wa at*;have HAL:=qD (fC ps 3 A m c wa (HS.out.sr.step J0.out.bel) HM.out);go_wp2_with fail;refine HAL.out.mono ?_;rintro e w1 ⟨b,rfl,hb,hbe⟩;have J:=qD (J0.out.step hbe);have HQ:=qD hb;clear hb hbe;cases b
  ·go_wp2_with (go_at_call 34;refine(bm _).mono ?_;rintro e w2 ⟨k,n,t,rfl,ht,hk,hb⟩;replace J:=qD (J.out.step hb);have HT:=qD ht;have HK:=qD hk;clear hb ht hk;obtain⟨b0,b1,b2,b3,b4⟩:=aS.Ig J.out.b;simp only[Jw] at b0 b1 b2 b3 b4;have z:=J.out.b.frozen);exact Jz (aF rfl _ _ _ rfl _ (bG k n t) (aS.Ig (J.out.b.putV (bG k n t)))) rfl (J.out.leaf k n HT.out HK.out)
  go_upto_region 7 with fail
  go_loopw [5,6] (fun v5 v6 wr=>∃(i:Nat) (n:Int),i<=m/\v6=.int .i64 i/\v5=.int .i64 n/\eZ w w.heap.size wr) (fun _ v6 _=>m-(intOf v6).toNat)
  ·exact⟨0,_,KD _,rfl,rfl,J.out⟩
  case round=>
   obtain⟨i,n,hi,rfl,rfl,hJ⟩:=hrel;replace J:=qD hJ;clear hJ;by_cases hlt:i<m
   ·obtain⟨p,hp⟩:∃p,ps[i]?=some p:=⟨_,Jv (by have:=HS.out.sr.ln;omega)⟩;obtain⟨eb,eo,rfl,hlb,hva⟩:=(HS.out.sr.step J.out.bel).Iq hp;obtain⟨a0,a1,a2,a3,a4⟩:=hva;have i0:(0:Int)<=(i:Int):=by omega
    have i1:(i:Int)<(m:Int):=by omega
    clear hp;go_wp2_with fail;go_roundw
    ·exact⟨i+1,_,by omega,by go_num,rfl,J.out⟩
    ·simp[intOf];omega
   ·obtain rfl:i=m:=by omega
    go_wp2_with (go_at_call 30;refine(fD _ _).mono ?_;rintro e w2 ⟨k,n,t,rfl,ht,hk,hb⟩;replace J:=qD (J.out.step hb);have HT:=qD ht;have HK:=qD hk;clear hb ht hk;obtain⟨b0,b1,b2,b3,b4⟩:=aS.Ig J.out.b;simp only[Jw] at b0 b1 b2 b3 b4;have z:=J.out.b.frozen);exact Jz (aF rfl _ _ _ rfl _ (bG k n t) (aS.Ig (J.out.b.putV (bG k n t)))) rfl (J.out.leaf k n HT.out HK.out)
theorem qQ{F:Nat->Prop}(op:Int)(ho:op=5\/op=7\/op=8)(ps:List PV)(A:Option Addr)(m c:Nat)(w:World)(hs:fF F w A m c ps)(h2:2<=m):
 Calls prog 260 #[.int .i64 op,.slice A m c] w (fU w):=by
 obtain⟨eb,eo,rfl,hlb,hel⟩:=hs.at (by omega);obtain⟨p0,-,hv0,-,-⟩:=hel 0 (by omega);obtain⟨p1,-,hv1,-,-⟩:=hel 1 (by omega);rw[show eo+0*5=eo by omega] at hv0;rw[show eo+1*5=eo+5 by omega] at hv1;have HV0:=qD hv0;have HV1:=qD hv1;have HS:=qD hs;have HM:=qD hs.few;have hm:m<=256:=hs.few;have l0:(0:Int)<(m:Int):=by omega
 have l1:(1:Int)<(m:Int):=by omega
 have l2:0<m:=by omega
 have l3:1<m:=by omega
 have J0:Hid (eZ w w.heap.size (w.alloc (.cells VC.zero.arr 29))):=eZ.start;clear hs hel hv0 hv1;rcases ho with rfl|ho
 ·go_enter func260,OY;go_upto_region 1 with fail
  change Code.wp _ _ _ _ (w.alloc (.cells VC.zero.arr 29));generalize w.alloc (.cells VC.zero.arr 29)=wa at*;have HAL:=qD (fC ps 3 _ m c wa (HS.out.sr.step J0.out.bel) HM.out);go_wp2_with fail;refine HAL.out.mono ?_;rintro e w1 ⟨b,rfl,hb,hbe⟩;have J:=qD (J0.out.step hbe);have HQ:=qD hb;clear hb hbe;cases b
  ·go_wp2_with (go_at_call 34;refine(bm _).mono ?_;rintro e w2 ⟨k,n,t,rfl,ht,hk,hb⟩;replace J:=qD (J.out.step hb);have HT:=qD ht;have HK:=qD hk;clear hb ht hk;obtain⟨b0,b1,b2,b3,b4⟩:=aS.Ig J.out.b;simp only[Jw] at b0 b1 b2 b3 b4;have z:=J.out.b.frozen);exact Jz (aF rfl _ _ _ rfl _ (bG k n t) (aS.Ig (J.out.b.putV (bG k n t)))) rfl (J.out.leaf k n HT.out HK.out)
  go_upto_region 7 with fail
  go_loopw [5,6] (fun v5 v6 wr=>∃(i:Nat) (n:Int),i<=m/\v6=.int .i64 i/\v5=.int .i64 n/\eZ w w.heap.size wr) (fun _ v6 _=>m-(intOf v6).toNat)
  ·exact⟨0,_,KD _,rfl,rfl,J.out⟩
  case round=>
   obtain⟨i,n,hi,rfl,rfl,hJ⟩:=hrel;replace J:=qD hJ;clear hJ;by_cases hlt:i<m
   ·obtain⟨p,hp⟩:∃p,ps[i]?=some p:=⟨_,Jv (by have:=HS.out.sr.ln;omega)⟩;obtain⟨eb',eo',hA,-,hva⟩:=(HS.out.sr.step J.out.bel).Iq hp;injection hA with hA
    injection hA with hA1 hA2
    subst hA1 hA2;obtain⟨a0,a1,a2,a3,a4⟩:=hva;have i0:(0:Int)<=(i:Int):=by omega
    have i1:(i:Int)<(m:Int):=by omega
    clear hp;go_wp2_with fail;go_roundw
    ·exact⟨i+1,_,by omega,by go_num,rfl,J.out⟩
    ·simp[intOf];omega
   ·obtain rfl:i=m:=by omega
    obtain⟨-,x1,-⟩:=(HV0.out.step J.out.bel).bw;obtain⟨-,y1,-⟩:=(HV1.out.step J.out.bel).bw;go_upto_region 14 with fail
    refine aM (by kernel_rfl) (by kernel_rfl) ?_
    repeat(go_big_quiet_step (fail))
    refine Kd ?_;rintro _ ⟨kw,rfl⟩;replace J:=qD (J.out.step kw.below);clear x1 y1;generalize kw.val=w5 at*;go_wp2_with (go_at_call 30;refine(fD _ _).mono ?_;rintro e w2 ⟨k,n,t,rfl,ht,hk,hb⟩;replace J:=qD (J.out.step hb);have HT:=qD ht;have HK:=qD hk;clear hb ht hk;obtain⟨b0,b1,b2,b3,b4⟩:=aS.Ig J.out.b;simp only[Jw] at b0 b1 b2 b3 b4;have z:=J.out.b.frozen);exact Jz (aF rfl _ _ _ rfl _ (bG k n t) (aS.Ig (J.out.b.putV (bG k n t)))) rfl (J.out.leaf k n HT.out HK.out)
 ·by_cases hz:p1.1.n=0
  ·have hzb:(p1.1.n==0)=true:=by simpa using hz
   rcases ho with rfl|rfl
   all_goals
    go_enter func260,OY;go_upto_region 1 with fail
    change Code.wp _ _ _ _ (w.alloc (.cells VC.zero.arr 29));generalize w.alloc (.cells VC.zero.arr 29)=wa at*;have HAL:=qD (fC ps 3 _ m c wa (HS.out.sr.step J0.out.bel) HM.out);go_wp2_with fail;refine HAL.out.mono ?_;rintro e w1 ⟨b,rfl,hb,hbe⟩;have J:=qD (J0.out.step hbe);obtain⟨c0,c1,-⟩:=HV1.out.step J.out.bel;clear hb hbe;cases b
    all_goals
     go_wp2_with (go_at_call 34;refine(bm _).mono ?_;rintro e w2 ⟨k,n,t,rfl,ht,hk,hb⟩;replace J:=qD (J.out.step hb);have HT:=qD ht;have HK:=qD hk;clear hb ht hk;obtain⟨b0,b1,b2,b3,b4⟩:=aS.Ig J.out.b;simp only[Jw] at b0 b1 b2 b3 b4;have z:=J.out.b.frozen);exact Jz (aF rfl _ _ _ rfl _ (bG k n t) (aS.Ig (J.out.b.putV (bG k n t)))) rfl (J.out.leaf k n HT.out HK.out)
  ·have hzb:(p1.1.n==0)=false:=by simpa using hz
   have HZ:=qD hz;clear hz;rcases ho with rfl|rfl
   all_goals
    go_enter func260,OY;go_upto_region 1 with fail
    change Code.wp _ _ _ _ (w.alloc (.cells VC.zero.arr 29));generalize w.alloc (.cells VC.zero.arr 29)=wa at*;have HAL:=qD (fC ps 3 _ m c wa (HS.out.sr.step J0.out.bel) HM.out);go_wp2_with fail;refine HAL.out.mono ?_;rintro e w1 ⟨b,rfl,hb,hbe⟩;have J:=qD (J0.out.step hbe);obtain⟨c0,c1,-⟩:=HV1.out.step J.out.bel;clear hb hbe;cases b
    ·go_wp2_with (go_at_call 34;refine(bm _).mono ?_;rintro e w2 ⟨k,n,t,rfl,ht,hk,hb⟩;replace J:=qD (J.out.step hb);have HT:=qD ht;have HK:=qD hk;clear hb ht hk;obtain⟨b0,b1,b2,b3,b4⟩:=aS.Ig J.out.b;simp only[Jw] at b0 b1 b2 b3 b4;have z:=J.out.b.frozen);exact Jz (aF rfl _ _ _ rfl _ (bG k n t) (aS.Ig (J.out.b.putV (bG k n t)))) rfl (J.out.leaf k n HT.out HK.out)
    go_upto_region 7 with fail
    clear c0 c1
    go_loopw [5,6] (fun v5 v6 wr=>∃(i:Nat) (n:Int),i<=m/\v6=.int .i64 i/\v5=.int .i64 n/\eZ w w.heap.size wr) (fun _ v6 _=>m-(intOf v6).toNat)
    ·exact⟨0,_,KD _,rfl,rfl,J.out⟩
    case round=>
     obtain⟨i,n,hi,rfl,rfl,hJ⟩:=hrel;replace J:=qD hJ;clear hJ;by_cases hlt:i<m
     ·obtain⟨p,hp⟩:∃p,ps[i]?=some p:=⟨_,Jv (by have:=HS.out.sr.ln;omega)⟩;obtain⟨eb',eo',hA,-,hva⟩:=(HS.out.sr.step J.out.bel).Iq hp;injection hA with hA
      injection hA with hA1 hA2
      subst hA1 hA2;obtain⟨a0,a1,a2,a3,a4⟩:=hva;have i0:(0:Int)<=(i:Int):=by omega
      have i1:(i:Int)<(m:Int):=by omega
      clear hp;go_wp2_with fail;go_roundw
      ·exact⟨i+1,_,by omega,by go_num,rfl,J.out⟩
      ·simp[intOf];omega
     ·obtain rfl:i=m:=by omega
      obtain⟨-,x1,-⟩:=(HV0.out.step J.out.bel).bw;obtain⟨-,y1,-⟩:=(HV1.out.step J.out.bel).bw;obtain⟨q,hq⟩:=xB p0.1.n p1.1.n HZ.out;have K1:Hid (∀kk:BW wr,Calls prog 301 #[.int .i64 p0.1.n,.int .i64 p1.1.n] kk.val fun e w''=>e=.returned (.int .i64 q)/\∃kk:BW wr,w''=kk.val):=fun kk=>Calls.bw (hq kk.val);clear hq
      first|(go_upto_region 16 with fail)|(go_upto_region 18 with fail)
      refine aM (by kernel_rfl) (by kernel_rfl) ?_
      repeat(go_big_quiet_step ((go_at_call 301;with_reducible exact K1.out _)))
      refine Kd ?_;rintro _ ⟨kw,rfl⟩;replace J:=qD (J.out.step kw.below);clear x1 y1 K1;generalize kw.val=w5 at*;go_wp2_with (go_at_call 30;refine(fD _ _).mono ?_;rintro e w2 ⟨k,n,t,rfl,ht,hk,hb⟩;replace J:=qD (J.out.step hb);have HT:=qD ht;have HK:=qD hk;clear hb ht hk;obtain⟨b0,b1,b2,b3,b4⟩:=aS.Ig J.out.b;simp only[Jw] at b0 b1 b2 b3 b4;have z:=J.out.b.frozen);exact Jz (aF rfl _ _ _ rfl _ (bG k n t) (aS.Ig (J.out.b.putV (bG k n t)))) rfl (J.out.leaf k n HT.out HK.out)
theorem ud(op:Int)(ps:List PV)(A:Option Addr)(m c:Nat)(w:World)(hs:SR 5 bC w A m c ps)(hm:m<=256):
 Calls prog 261 #[.int .i64 op,.slice A m c] w (fU w):=by
 have HS:=qD hs;have J0:Hid (eZ w w.heap.size (w.alloc (.cells VC.zero.arr 29))):=eZ.start;clear hs;obtain⟨z1,hz1⟩:∃z,(op==17)=z:=⟨_,rfl⟩;obtain⟨z2,hz2⟩:∃z,(op==16)=z:=⟨_,rfl⟩;go_enter func261,ntmps261;go_upto_region 1 with fail
 change Code.wp _ _ _ _ (w.alloc (.cells VC.zero.arr 29));generalize w.alloc (.cells VC.zero.arr 29)=wa at*;go_upto_region 2 with fail
 go_loopw [5] (fun v wr=>∃i:Nat,i<=m/\v=.int .i64 i/\eZ w w.heap.size wr) (fun v _=>m-(intOf v).toNat)
 ·exact⟨0,KD _,rfl,J0.out⟩
 case round=>
  obtain⟨i,hi,rfl,hJ⟩:=hrel;have J:=qD hJ;clear hJ J0;by_cases hlt:i<m
  ·obtain⟨p,hp⟩:∃p,ps[i]?=some p:=⟨_,Jv (by have:=HS.out.ln;omega)⟩;obtain⟨eb,eo,rfl,hlb,hva⟩:=(HS.out.step J.out.bel).Iq hp;obtain⟨a0,a1,a2,a3,a4⟩:=hva;have i0:(0:Int)<=(i:Int):=by omega
   have i1:(i:Int)<(m:Int):=by omega
   clear hp;go_wp2_with (first|(go_at_call 259;refine(jL p.1 _).mono ?_;rintro e w1 ⟨r,rfl,_,hb⟩;replace J:=qD (J.out.step hb);clear hb a0 a1 a2 a3 a4;cases hq:(r==z1))|(go_at_call 262;refine(iD _ _).mono ?_;rintro e w2 ⟨k,n,t,rfl,ht,hk,hb⟩;replace J:=qD (J.out.step hb);have HT:=qD ht;have HK:=qD hk;clear hb ht hk;obtain⟨b0,b1,b2,b3,b4⟩:=aS.Ig J.out.b;simp only[Jw] at b0 b1 b2 b3 b4;have z:=J.out.b.frozen))
   ·go_roundw
    ·exact⟨i+1,by omega,by go_num,J.out⟩
    ·simp[intOf];omega
   ·exact Jz (aF rfl _ _ _ rfl _ (bG k n t) (aS.Ig (J.out.b.putV (bG k n t)))) rfl (J.out.leaf k n HT.out HK.out)
  ·go_wp2_with (go_at_call 262;refine(iD _ _).mono ?_;rintro e w2 ⟨k,n,t,rfl,ht,hk,hb⟩;replace J:=qD (J.out.step hb);have HT:=qD ht;have HK:=qD hk;clear hb ht hk;obtain⟨b0,b1,b2,b3,b4⟩:=aS.Ig J.out.b;simp only[Jw] at b0 b1 b2 b3 b4;have z:=J.out.b.frozen);exact Jz (aF rfl _ _ _ rfl _ (bG k n t) (aS.Ig (J.out.b.putV (bG k n t)))) rfl (J.out.leaf k n HT.out HK.out)
theorem qR(op:Int)(x y:aC)(c d:VC)(w:World)(h:RW w c x)(h':RW w d y):Calls prog 272 #[.int .i64 op,c.val,d.val] w (fU w):=by
 have H:=qD h;have H':=qD h';have J0:Hid (eZ w (w.heap.size+1+1) (((w.alloc (.cells c.arr 29)).alloc (.cells d.arr 29)).alloc (.cells VC.zero.arr 29))):=⟨aG.Ii (by simp),by omega,(((Ju _ _).alloc (qL) _).alloc (by simp) _).alloc (by simp;omega) _⟩;have C0:Hid (aG (((w.alloc (.cells c.arr 29)).alloc (.cells d.arr 29)).alloc (.cells VC.zero.arr 29)) w.heap.size 29 c.arr):=((aG.Ii rfl).alloc _).alloc _;have C1:Hid (aG (((w.alloc (.cells c.arr 29)).alloc (.cells d.arr 29)).alloc (.cells VC.zero.arr 29)) (w.heap.size+1) 29 d.arr):=(aG.Ii (by simp)).alloc _;clear h h';go_enter func272,ntmps272;go_upto_region 1 with fail
 change Code.wp _ _ _ _ (((w.alloc (.cells c.arr 29)).alloc (.cells d.arr 29)).alloc (.cells VC.zero.arr 29));generalize (((w.alloc (.cells c.arr 29)).alloc (.cells d.arr 29)).alloc (.cells VC.zero.arr 29))=wa at*;obtain⟨a0,a1,a2,a3,a4⟩:=aS.Ig C0.out;obtain⟨d0,d1,d2,d3,d4⟩:=aS.Ig C1.out;simp only[Jw] at a1 a2 a3 a4 d1 d2 d3 d4;have HC:=qD (ib x y c d wa (H.out.step J0.out.bel) (H'.out.step J0.out.bel));go_upto_region 2 with(go_at_call 156;refine HC.out.mono ?_;rintro e w1 ⟨rfl,hb⟩;have J:=qD (J0.out.step hb);clear hb a0 a1 a2 a3 a4 d0 d1 d2 d3 d4 C0 C1 HC;generalize aY x y=r)
 go_wp2_with (first|(go_at_call 262;refine(iD _ _).mono ?_;rintro e w2 ⟨k,n,t,rfl,ht,hk,hb⟩;replace J:=qD (J.out.step hb);have HT:=qD ht;have HK:=qD hk;clear hb ht hk;obtain⟨b0,b1,b2,b3,b4⟩:=aS.Ig J.out.b;simp only[Jw] at b0 b1 b2 b3 b4;have z:=J.out.b.frozen)|(go_at_call 30;refine(fD _ _).mono ?_;rintro e w2 ⟨k,n,t,rfl,ht,hk,hb⟩;replace J:=qD (J.out.step hb);have HT:=qD ht;have HK:=qD hk;clear hb ht hk;obtain⟨b0,b1,b2,b3,b4⟩:=aS.Ig J.out.b;simp only[Jw] at b0 b1 b2 b3 b4;have z:=J.out.b.frozen))
 all_goals exact Jz (aF rfl _ _ _ rfl _ (bG k n t) (aS.Ig (J.out.b.putV (bG k n t)))) rfl (J.out.leaf k n HT.out HK.out)
theorem pL(x:aC)(d:VC)(A:Option Addr)(m c:Nat)(ps:List PV)(w:World)(hs:SR 5 bC w A m c ps)(hr:∀p∈ps,RW w p.1 p.2)(hx:RW w d x)(hm:m<=1048576):
 Calls prog 269 #[.slice A m c,d.val] w (am (fun _=>True) w):=by
 have HS:=qD hs;have HR:=qD hr;have HX:=qD hx;have BE:Hid (Below w.heap.size w (w.alloc (.cells d.arr 29))):=(Ju _ _).alloc (qL) _;have B0:Hid (aG (w.alloc (.cells d.arr 29)) w.heap.size 29 d.arr):=aG.Ii rfl;clear hs hr hx;go_enter func269,ntmps269;go_upto_region 1 with fail
 change Code.wp _ _ _ _ (w.alloc (.cells d.arr 29));generalize w.alloc (.cells d.arr 29)=wa at*;go_upto_region 2 with fail
 go_loopw [5] (fun v wr=>∃i:Nat,i<=m/\v=.int .i64 i/\Below wa.heap.size wa wr) (fun v _=>m-(intOf v).toNat)
 ·exact⟨0,KD _,rfl,Ju _ _⟩
 case round=>
  obtain⟨i,hi,rfl,hb⟩:=hrel;have HB:=qD hb;have D0:=qD (B0.out.step hb);have HE:=qD (BE.out.Ih hb);clear hb;by_cases hlt:i<m
  ·obtain⟨p,hp⟩:∃p,ps[i]?=some p:=⟨_,Jv (by have:=HS.out.ln;omega)⟩;have HP:=qD hp;obtain⟨eb,eo,rfl,hlb,hva⟩:=(HS.out.step HE.out).Iq hp;obtain⟨a0,a1,a2,a3,a4⟩:=hva.bw;obtain⟨b0,b1,b2,b3,b4⟩:=(aS.Ig D0.out).bw;simp only[Jw] at b0 b1 b2 b3 b4;obtain⟨z1,hz1⟩:∃z,(aY p.2 x==0)=z:=⟨_,rfl⟩
   have K1:Hid (∀kk:BW wr,Calls prog 155 #[p.1.val,d.val] kk.val fun e w''=>e=.returned (.bool z1)/\∃kk:BW wr,w''=kk.val):=fun kk=>by
    rw[<-hz1];exact Calls.bw (rP _ _ _ _ _ ((HR.out p (Jx HP.out)).step (HE.out.Ih kk.below)) (HX.out.step (HE.out.Ih kk.below)))
   have i0:(0:Int)<=(i:Int):=by omega
   have i1:(i:Int)<(m:Int):=by omega
   clear hva hp hz1;go_upto_region 4 with fail
   refine aM (by kernel_rfl) (by kernel_rfl) ?_
   repeat(go_big_quiet_step ((go_at_call 155;with_reducible exact K1.out _)))
   refine Kd ?_;rintro _ ⟨kw,rfl⟩;have HK:=qD kw.below;generalize kw.val=w5 at*;clear a0 a1 a2 a3 a4 b0 b1 b2 b3 b4 K1;cases z1
   ·go_wp2_with fail;go_roundw
    ·exact⟨i+1,by omega,by go_num,HB.out.Ih HK.out⟩
    ·simp[intOf];omega
   ·go_wp2_with fail;go_ret;exact am.of trivial (HE.out.Ih HK.out)
  ·go_wp2_with fail;go_ret;exact am.of trivial HE.out
theorem so{F:Nat->Prop}(ps:List PV)(A:Option Addr)(m c:Nat)(w:World)(hs:fF F w A m c ps):Calls prog 263 #[.slice A m c] w (fU w):=by
 have HS:=qD hs;have HM:=qD hs.few;have hm:m<=256:=hs.few;have J0:Hid (eZ w w.heap.size (w.alloc (.cells VC.zero.arr 29))):=eZ.start;clear hs;go_enter func263,ntmps263;go_upto_region 1 with fail
 change Code.wp _ _ _ _ (w.alloc (.cells VC.zero.arr 29));generalize w.alloc (.cells VC.zero.arr 29)=wa at*;have HAL:=qD (fC ps 4 A m c wa (HS.out.sr.step J0.out.bel) HM.out);go_wp2_with fail;refine HAL.out.mono ?_;rintro e w1 ⟨b,rfl,hb,hbe⟩;have J:=qD (J0.out.step hbe);have HQ:=qD hb;clear hb hbe;cases b
 ·go_wp2_with (go_at_call 34;refine(bm _).mono ?_;rintro e w2 ⟨k,n,t,rfl,ht,hk,hb⟩;replace J:=qD (J.out.step hb);have HT:=qD ht;have HK:=qD hk;clear hb ht hk;obtain⟨b0,b1,b2,b3,b4⟩:=aS.Ig J.out.b;simp only[Jw] at b0 b1 b2 b3 b4;have z:=J.out.b.frozen);exact Jz (aF rfl _ _ _ rfl _ (bG k n t) (aS.Ig (J.out.b.putV (bG k n t)))) rfl (J.out.leaf k n HT.out HK.out)
 go_upto_region 5 with fail
 go_loopw [3,4] (fun v3 v4 wr=>∃(i:Nat) (s:ByteArray),i<=m/\v4=.int .i64 i/\v3=.string s/\s.size<=8192/\eZ w w.heap.size wr) (fun _ v4 _=>m-(intOf v4).toNat)
 ·exact⟨0,_,KD _,rfl,rfl,by decide,J.out⟩
 case round=>
  obtain⟨i,s,hi,rfl,rfl,hsz,hJ⟩:=hrel;replace J:=qD hJ;clear hJ;have HSZ:=qD hsz;have HTZ:Hid (s.size<=aH):=qD (KM hsz (by decide));by_cases hlt:i<m
  ·by_cases h4:s.size<=4096
   ·have h4i:(s.size:Int)<=4096:=by omega
    obtain⟨p,hp⟩:∃p,ps[i]?=some p:=⟨_,Jv (by have:=HS.out.sr.ln;omega)⟩;obtain⟨eb,eo,rfl,hlb,hva⟩:=(HS.out.sr.step J.out.bel).Iq hp
    have HTP:Hid (p.1.t.size<=4096):=qD (by
     have hm:=Jx hp
     rw[(HS.out.rv p hm).open.t]
     exact(HS.out.ok p hm).len.1)
    have htp:p.1.t.size<=4096:=HTP.out;have hpl:s.size+p.1.t.size<=8192:=by omega
    obtain⟨a0,a1,a2,a3,a4⟩:=hva;have i0:(0:Int)<=(i:Int):=by omega
    have i1:(i:Int)<(m:Int):=by omega
    clear hp hsz;go_wp2_with fail;go_roundw
    ·exact⟨i+1,_,by omega,by go_num,rfl,by simp;omega,J.out⟩
    ·simp[intOf];omega
   ·have h4i:¬(s.size:Int)<=4096:=by omega
    clear hsz;go_wp2_with (go_at_call 264;refine(eg _ _ HTZ.out).mono ?_;rintro e w2 ⟨k,n,t,rfl,ht,hk,hb⟩;replace J:=qD (J.out.step hb);have HT:=qD ht;have HK:=qD hk;clear hb ht hk;obtain⟨b0,b1,b2,b3,b4⟩:=aS.Ig J.out.b;simp only[Jw] at b0 b1 b2 b3 b4;have z:=J.out.b.frozen);exact Jz (aF rfl _ _ _ rfl _ (bG k n t) (aS.Ig (J.out.b.putV (bG k n t)))) rfl (J.out.leaf k n HT.out HK.out)
  ·clear hsz;go_wp2_with (go_at_call 264;refine(eg _ _ HTZ.out).mono ?_;rintro e w2 ⟨k,n,t,rfl,ht,hk,hb⟩;replace J:=qD (J.out.step hb);have HT:=qD ht;have HK:=qD hk;clear hb ht hk;obtain⟨b0,b1,b2,b3,b4⟩:=aS.Ig J.out.b;simp only[Jw] at b0 b1 b2 b3 b4;have z:=J.out.b.frozen);exact Jz (aF rfl _ _ _ rfl _ (bG k n t) (aS.Ig (J.out.b.putV (bG k n t)))) rfl (J.out.leaf k n HT.out HK.out)
theorem oM(s:ByteArray)(w:World)(hs:s.size<=1000000000):Calls prog 265 #[.string s,.bool false] w (zl s.size w):=by
 go_enter func265,ntmps265;go_upto_region 3 with fail
 go_loopw [5,6,7] (fun v5 v6 _ wr=>∃(i:Nat) (t:ByteArray),i<=s.size/\v6=.int .i64 i/\v5=.string t/\t.size=i/\Below w.heap.size w wr) (fun _ v6 _ _=>s.size-(intOf v6).toNat)
 ·exact⟨0,empty,KD _,rfl,rfl,rfl,Ju _ _⟩
 case round=>
  obtain⟨i,t,hi,rfl,rfl,ht,hb⟩:=hrel;have HB:=qD hb;have HTS:=qD ht;clear hb ht;by_cases hlt:i<s.size
  ·obtain⟨x,hx⟩:=eX hlt;have i0:(0:Int)<=(i:Int):=by omega
   have i1:(i:Int)<(s.size:Int):=by omega
   have key:∀y:Int,∃z,z=strOfNums [y]/\z.size=1/\(convert 133 9 (.slice (some ⟨wr.heap.size,0,none⟩) 1 1)).run prog (wr.alloc (.cells #[.int .u8 y] 5))=.ok (.string z) (wr.alloc (.cells #[.int .u8 y] 5)):=fun y=>
    ⟨_,rfl,by rw[OG];rfl,FM y wr Mj⟩
   have KEY:=qD key;clear key;rcases(show(65<=x/\x<=90)\/x<65\/(65<=x/\90<x) by omega) with⟨h1,h2⟩|h|⟨h1,h3⟩
   ·obtain⟨z,-,hz,hcv⟩:=KEY.out (x+32);have hcat:∀w2:World,(Op.stringOp .add t z).run prog w2=.ok (.string (t++z)) w2:=fun w2=>Lm _ _ _ (by have:=HTS.out;omega);have HZ:=qD hz;clear hz;go_wp2_with fail;go_roundw
    ·exact⟨i+1,t++z,by omega,by go_num,rfl,by rw[LZ,HZ.out,HTS.out],HB.out.alloc HB.out.size _⟩
    ·simp[intOf];omega
   ·have h1:¬65<=x:=by omega
    obtain⟨z,-,hz,hcv⟩:=KEY.out x;have hcat:∀w2:World,(Op.stringOp .add t z).run prog w2=.ok (.string (t++z)) w2:=fun w2=>Lm _ _ _ (by have:=HTS.out;omega);have HZ:=qD hz;clear hz;go_wp2_with fail;go_roundw
    ·exact⟨i+1,t++z,by omega,by go_num,rfl,by rw[LZ,HZ.out,HTS.out],HB.out.alloc HB.out.size _⟩
    ·simp[intOf];omega
   ·have h2:¬x<=90:=by omega
    obtain⟨z,-,hz,hcv⟩:=KEY.out x;have hcat:∀w2:World,(Op.stringOp .add t z).run prog w2=.ok (.string (t++z)) w2:=fun w2=>Lm _ _ _ (by have:=HTS.out;omega);have HZ:=qD hz;clear hz h3;go_wp2_with fail;go_roundw
    ·exact⟨i+1,t++z,by omega,by go_num,rfl,by rw[LZ,HZ.out,HTS.out],HB.out.alloc HB.out.size _⟩
    ·simp[intOf];omega
  ·obtain rfl:i=s.size:=by omega
   go_wp2_with fail;go_ret;exact⟨t,rfl,Nat.le_of_eq HTS.out,HB.out⟩
theorem pM(s:ByteArray)(w:World)(hs:s.size<=1000000000):Calls prog 265 #[.string s,.bool true] w (zl s.size w):=by
 go_enter func265,ntmps265;go_upto_region 3 with fail
 go_loopw [5,6,7] (fun v5 v6 _ wr=>∃(i:Nat) (t:ByteArray),i<=s.size/\v6=.int .i64 i/\v5=.string t/\t.size=i/\Below w.heap.size w wr) (fun _ v6 _ _=>s.size-(intOf v6).toNat)
 ·exact⟨0,empty,KD _,rfl,rfl,rfl,Ju _ _⟩
 case round=>
  obtain⟨i,t,hi,rfl,rfl,ht,hb⟩:=hrel;have HB:=qD hb;have HTS:=qD ht;clear hb ht;by_cases hlt:i<s.size
  ·obtain⟨x,hx⟩:=eX hlt;have i0:(0:Int)<=(i:Int):=by omega
   have i1:(i:Int)<(s.size:Int):=by omega
   have key:∀y:Int,∃z,z=strOfNums [y]/\z.size=1/\(convert 133 9 (.slice (some ⟨wr.heap.size,0,none⟩) 1 1)).run prog (wr.alloc (.cells #[.int .u8 y] 5))=.ok (.string z) (wr.alloc (.cells #[.int .u8 y] 5)):=fun y=>
    ⟨_,rfl,by rw[OG];rfl,FM y wr Mj⟩
   have KEY:=qD key;clear key;rcases(show(97<=x/\x<=122)\/x<97\/(97<=x/\122<x) by omega) with⟨h1,h2⟩|h|⟨h1,h3⟩
   ·obtain⟨z,-,hz,hcv⟩:=KEY.out (x-32);have hcat:∀w2:World,(Op.stringOp .add t z).run prog w2=.ok (.string (t++z)) w2:=fun w2=>Lm _ _ _ (by have:=HTS.out;omega);have HZ:=qD hz;clear hz;go_wp2_with fail;go_roundw
    ·exact⟨i+1,t++z,by omega,by go_num,rfl,by rw[LZ,HZ.out,HTS.out],HB.out.alloc HB.out.size _⟩
    ·simp[intOf];omega
   ·have h1:¬97<=x:=by omega
    obtain⟨z,-,hz,hcv⟩:=KEY.out x;have hcat:∀w2:World,(Op.stringOp .add t z).run prog w2=.ok (.string (t++z)) w2:=fun w2=>Lm _ _ _ (by have:=HTS.out;omega);have HZ:=qD hz;clear hz;go_wp2_with fail;go_roundw
    ·exact⟨i+1,t++z,by omega,by go_num,rfl,by rw[LZ,HZ.out,HTS.out],HB.out.alloc HB.out.size _⟩
    ·simp[intOf];omega
   ·have h2:¬x<=122:=by omega
    obtain⟨z,-,hz,hcv⟩:=KEY.out x;have hcat:∀w2:World,(Op.stringOp .add t z).run prog w2=.ok (.string (t++z)) w2:=fun w2=>Lm _ _ _ (by have:=HTS.out;omega);have HZ:=qD hz;clear hz h3;go_wp2_with fail;go_roundw
    ·exact⟨i+1,t++z,by omega,by go_num,rfl,by rw[LZ,HZ.out,HTS.out],HB.out.alloc HB.out.size _⟩
    ·simp[intOf];omega
  ·obtain rfl:i=s.size:=by omega
   go_wp2_with fail;go_ret;exact⟨t,rfl,Nat.le_of_eq HTS.out,HB.out⟩
theorem qS(s:ByteArray)(u:Bool)(w:World)(hs:s.size<=1000000000):Calls prog 265 #[.string s,.bool u] w (zl s.size w):=by
 cases u
 ·exact oM s w hs
 ·exact pM s w hs
end
structure Hb(w:World)(c d e:VC)(wr:World):Prop where
 b0:aG wr w.heap.size 29 c.arr
 b1:aG wr (w.heap.size+1) 29 d.arr
 b2:aG wr (w.heap.size+1+1) 29 e.arr
 r:eZ w (w.heap.size+1+1+1) wr
section
variable {b c i j size:Nat} {x d:Int} {s:ByteArray} {w:World} {F:Nat -> Prop} {e t:TypeId} {v:Value}
theorem Hb.start{w:World}{c d e:VC}:Hb w c d e ((((w.alloc (.cells c.arr 29)).alloc (.cells d.arr 29)).alloc (.cells e.arr 29)).alloc (.cells VC.zero.arr 29)):=
 ⟨(((aG.Ii rfl).alloc _).alloc _).alloc _,((aG.Ii (by simp)).alloc _).alloc _,(aG.Ii (by simp)).alloc _,aG.Ii (by simp),by omega,((((Ju _ _).alloc (qL) _).alloc (by simp) _).alloc (by simp;omega) _).alloc (by simp;omega) _⟩
theorem ue(c d e:VC)(w:World)(ht:c.t.size<=4096):Calls prog 266 #[c.val,d.val,e.val] w (fU w):=by
 have HT0:=qD ht;have I0:Hid (Hb w c d e ((((w.alloc (.cells c.arr 29)).alloc (.cells d.arr 29)).alloc (.cells e.arr 29)).alloc (.cells VC.zero.arr 29))):=Hb.start;clear ht;go_enter func266,ntmps266;go_upto_region 1 with fail
 change Code.wp _ _ _ _ ((((w.alloc (.cells c.arr 29)).alloc (.cells d.arr 29)).alloc (.cells e.arr 29)).alloc (.cells VC.zero.arr 29));generalize ((((w.alloc (.cells c.arr 29)).alloc (.cells d.arr 29)).alloc (.cells e.arr 29)).alloc (.cells VC.zero.arr 29))=wa at*;obtain⟨a0,a1,a2,a3,a4⟩:=aS.Ig I0.out.b0;obtain⟨d0,d1,-⟩:=aS.Ig I0.out.b1;obtain⟨e0,e1,-⟩:=aS.Ig I0.out.b2;simp only[Jw] at a1 a2 a3 a4 d1 e1;have J:=qD I0.out.r;obtain⟨ct,hct⟩:∃t,t=c.t:=⟨_,rfl⟩;rw[<-hct] at HT0 a2;clear hct I0;by_cases ok:c.k=4/\d.k=3/\e.k=3/\0<=d.n/\0<=e.n
 ·obtain⟨k1,k2,k3,g1,g2⟩:=ok;obtain⟨f,hf⟩:∃f:Nat,d.n=(f:Int):=⟨d.n.toNat,by omega⟩;obtain⟨q,hq⟩:∃q:Nat,e.n=(q:Int):=⟨e.n.toNat,by omega⟩;rw[k1] at a0;rw[k2] at d0;rw[k3] at e0;rw[hf] at d1;rw[hq] at e1;clear k1 k2 k3 hf hq g1 g2;have n1:¬(f:Int)<0:=by omega
  have n2:¬(q:Int)<0:=by omega
  have hz:ct.size<=4096:=HT0.out;have HTZ:Hid (∀a b:Nat,(ct.extract a b).size<=aH):=qD fun a b=>by rw[MX];unfold aH;omega
  by_cases h1:f<=ct.size
  ·have h1i:¬(f:Int)>(ct.size:Int):=by omega
   have h1j:¬(ct.size:Int)<(f:Int):=by omega
   have f0:(0:Int)<=(f:Int):=by omega
   have f1:(f:Int)<=(ct.size:Int):=by omega
   by_cases h2:q<=ct.size-f
   ·have h2i:¬(q:Int)>(ct.size:Int)-(f:Int):=by omega
    have h2j:¬(ct.size:Int)-(f:Int)<(q:Int):=by omega
    have s1:(f:Int)<=(f:Int)+(q:Int):=by omega
    have s2:(f:Int)+(q:Int)<=(ct.size:Int):=by omega
    go_wp2_with (go_at_call 264;refine(eg _ _ (HTZ.out _ _)).mono ?_;rintro e w2 ⟨k,n,t,rfl,ht,hk,hb⟩;replace J:=qD (J.out.step hb);have HT:=qD ht;have HK:=qD hk;clear hb ht hk;obtain⟨b0,b1,b2,b3,b4⟩:=aS.Ig J.out.b;simp only[Jw] at b0 b1 b2 b3 b4;have z:=J.out.b.frozen);exact Jz (aF rfl _ _ _ rfl _ (bG k n t) (aS.Ig (J.out.b.putV (bG k n t)))) rfl (J.out.leaf k n HT.out HK.out)
   ·have h2i:(q:Int)>(ct.size:Int)-(f:Int):=by omega
    have h2j:(ct.size:Int)-(f:Int)<(q:Int):=by omega
    have s0:(f:Int)+((ct.size:Int)-(f:Int))=(ct.size:Int):=by omega
    go_wp2_with (go_at_call 264;refine(eg _ _ (HTZ.out _ _)).mono ?_;rintro e w2 ⟨k,n,t,rfl,ht,hk,hb⟩;replace J:=qD (J.out.step hb);have HT:=qD ht;have HK:=qD hk;clear hb ht hk;obtain⟨b0,b1,b2,b3,b4⟩:=aS.Ig J.out.b;simp only[Jw] at b0 b1 b2 b3 b4;have z:=J.out.b.frozen);exact Jz (aF rfl _ _ _ rfl _ (bG k n t) (aS.Ig (J.out.b.putV (bG k n t)))) rfl (J.out.leaf k n HT.out HK.out)
  ·have h1i:(f:Int)>(ct.size:Int):=by omega
   have h1j:(ct.size:Int)<(f:Int):=by omega
   have s0:(ct.size:Int)-(ct.size:Int)=0:=by omega
   by_cases h2:q=0
   ·have h0:(q:Int)=0:=by omega
    rw[h0] at e1;clear h0 h2 n2;go_wp2_with (go_at_call 264;refine(eg empty _ (by decide)).mono ?_;rintro e w2 ⟨k,n,t,rfl,ht,hk,hb⟩;replace J:=qD (J.out.step hb);have HT:=qD ht;have HK:=qD hk;clear hb ht hk;obtain⟨b0,b1,b2,b3,b4⟩:=aS.Ig J.out.b;simp only[Jw] at b0 b1 b2 b3 b4;have z:=J.out.b.frozen);exact Jz (aF rfl _ _ _ rfl _ (bG k n t) (aS.Ig (J.out.b.putV (bG k n t)))) rfl (J.out.leaf k n HT.out HK.out)
   ·have h2j:(0:Int)<(q:Int):=by omega
    go_wp2_with (go_at_call 264;refine(eg empty _ (by decide)).mono ?_;rintro e w2 ⟨k,n,t,rfl,ht,hk,hb⟩;replace J:=qD (J.out.step hb);have HT:=qD ht;have HK:=qD hk;clear hb ht hk;obtain⟨b0,b1,b2,b3,b4⟩:=aS.Ig J.out.b;simp only[Jw] at b0 b1 b2 b3 b4;have z:=J.out.b.frozen);exact Jz (aF rfl _ _ _ rfl _ (bG k n t) (aS.Ig (J.out.b.putV (bG k n t)))) rfl (J.out.leaf k n HT.out HK.out)
 ·rcases(show(c.k != 4)=true\/((c.k != 4)=false/\(d.k != 3)=true)\/((c.k != 4)=false/\(d.k != 3)=false/\(e.k != 3)=true)\/((c.k != 4)=false/\(d.k != 3)=false/\(e.k != 3)=false/\d.n<0)\/((c.k != 4)=false/\(d.k != 3)=false/\(e.k != 3)=false/\¬d.n<0/\e.n<0) by
   simp only[bne_iff_ne,bne_eq_false_iff_eq,Nt];omega) with h1|⟨h1,h2⟩|⟨h1,h2,h3⟩|⟨h1,h2,h3,h4⟩|⟨h1,h2,h3,h4,h5⟩
  all_goals
   clear ok;go_wp2_with (go_at_call 34;refine(bm _).mono ?_;rintro e w2 ⟨k,n,t,rfl,ht,hk,hb⟩;replace J:=qD (J.out.step hb);have HT:=qD ht;have HK:=qD hk;clear hb ht hk;obtain⟨b0,b1,b2,b3,b4⟩:=aS.Ig J.out.b;simp only[Jw] at b0 b1 b2 b3 b4;have z:=J.out.b.frozen);exact Jz (aF rfl _ _ _ rfl _ (bG k n t) (aS.Ig (J.out.b.putV (bG k n t)))) rfl (J.out.leaf k n HT.out HK.out)
theorem qT{F:Nat->Prop}(x:aC)(c d:VC)(w:World)(hF:∀b,F b->b<w.heap.size)(h:RV F w c x)(hok:gB x):Calls prog 268 #[c.val,d.val] w (dh F w):=by
 have H:=qD h;have HOK:=qD hok;have HFH:=qD hF;have hln:c.ln<=1024:=by have:=h.open.ln;have:=hok.len.2.1;omega
 have J0:Hid (eZ w (w.heap.size+1+1) (((w.alloc (.cells c.arr 29)).alloc (.cells d.arr 29)).alloc (.cells VC.zero.arr 29))):=⟨aG.Ii (by simp),by omega,(((Ju _ _).alloc (qL) _).alloc (by simp) _).alloc (by simp;omega) _⟩;have C0:Hid (aG (((w.alloc (.cells c.arr 29)).alloc (.cells d.arr 29)).alloc (.cells VC.zero.arr 29)) w.heap.size 29 c.arr):=((aG.Ii rfl).alloc _).alloc _;have C1:Hid (aG (((w.alloc (.cells c.arr 29)).alloc (.cells d.arr 29)).alloc (.cells VC.zero.arr 29)) (w.heap.size+1) 29 d.arr):=(aG.Ii (by simp)).alloc _;clear h hok hF;go_enter func268,ntmps268;go_upto_region 1 with fail
 change Code.wp _ _ _ _ (((w.alloc (.cells c.arr 29)).alloc (.cells d.arr 29)).alloc (.cells VC.zero.arr 29));generalize (((w.alloc (.cells c.arr 29)).alloc (.cells d.arr 29)).alloc (.cells VC.zero.arr 29))=wa at*;obtain⟨a0,a1,a2,a3,a4⟩:=aS.Ig C0.out;obtain⟨d0,d1,d2,d3,d4⟩:=aS.Ig C1.out;simp only[Jw] at a1 a2 a3 a4 d1 d2 d3 d4;have J:=J0;rcases(show(c.k != 6)=true\/((c.k != 6)=false/\(d.k != 3)=true)\/((c.k != 6)=false/\(d.k != 3)=false) by cases(c.k != 6)<;>cases(d.k != 3)<;>simp) with h1|⟨h1,h2⟩|⟨h1,h2⟩
 ·go_wp2_with (go_at_call 34;refine(bm _).mono ?_;rintro e w2 ⟨k,n,t,rfl,ht,hk,hb⟩;replace J:=qD (J.out.step hb);have HT:=qD ht;have HK:=qD hk;clear hb ht hk;obtain⟨b0,b1,b2,b3,b4⟩:=aS.Ig J.out.b;simp only[Jw] at b0 b1 b2 b3 b4;have z:=J.out.b.frozen);exact Jz (aF rfl _ _ _ rfl _ (bG k n t) (aS.Ig (J.out.b.putV (bG k n t)))) rfl (J.out.leaf k n HT.out HK.out).a
 ·go_wp2_with (go_at_call 34;refine(bm _).mono ?_;rintro e w2 ⟨k,n,t,rfl,ht,hk,hb⟩;replace J:=qD (J.out.step hb);have HT:=qD ht;have HK:=qD hk;clear hb ht hk;obtain⟨b0,b1,b2,b3,b4⟩:=aS.Ig J.out.b;simp only[Jw] at b0 b1 b2 b3 b4;have z:=J.out.b.frozen);exact Jz (aF rfl _ _ _ rfl _ (bG k n t) (aS.Ig (J.out.b.putV (bG k n t)))) rfl (J.out.leaf k n HT.out HK.out).a
 obtain⟨ps,hps,hsl⟩:=RV.sl H.out;have HSL:=qD hsl;have HPS:=qD hps;have HLN:Hid (ps.length=c.ln):=qD hsl.sr.ln.symm;obtain⟨b0,b1,b2,b3,b4⟩:=aS.Ig J.out.b;simp only[Jw] at b0 b1 b2 b3 b4;have z:=J.out.b.frozen;clear hps hsl
 have HEL:Hid (∀j,j<c.ln->∃(p:PV) (eb eo:Nat),c.LA=some ⟨eb,eo,none⟩/\aS wa eb (eo+j*5) p.1/\RV F wa p.1 p.2/\gB p.2):=qD fun j hj=>by
  obtain⟨p,hp⟩:∃p,ps[j]?=some p:=⟨_,Jv (by have:=HLN.out;omega)⟩;obtain⟨eb,eo,e,_,hva⟩:=(HSL.out.sr.step J0.out.bel).Iq hp;exact⟨p,eb,eo,e,hva,(HSL.out.rv p (Jx hp)).step J0.out.bel,HOK.out.el (by rw[<-HPS.out];exact Ko (Jx hp))⟩
 clear HSL HPS HLN;rcases Int.lt_or_le d.n 0 with hn|hn
 ·obtain⟨M,hM⟩:∃M,wrap64 (d.n+(c.ln:Int))=M:=⟨_,rfl⟩;rcases(show M<0\/(¬M<0/\M≥(c.ln:Int))\/(¬M<0/\¬M≥(c.ln:Int)) by omega) with g1|⟨g1,g2⟩|⟨g1,g2⟩
  ·go_wp2_with fail;have q:=aS.Ig (J.out.b.putV VC.zero);refine Jz (aF rfl _ _ _ rfl _ VC.zero q) rfl ?_;exact J.out.val RV.zero HFH.out fun _=>rfl
  ·go_wp2_with fail;have q:=aS.Ig (J.out.b.putV VC.zero);refine Jz (aF rfl _ _ _ rfl _ VC.zero q) rfl ?_;exact J.out.val RV.zero HFH.out fun _=>rfl
  ·obtain⟨j,rfl⟩:∃j:Nat,M=(j:Int):=⟨M.toNat,by omega⟩;obtain⟨p,eb,eo,hA,hva,hrv,hoo⟩:=HEL.out j (by omega);rw[hA] at a3;have HRV:=qD hrv;have HOO:=qD hoo;obtain⟨e0,e1,e2,e3,e4⟩:=hva;have i0:(0:Int)<=(j:Int):=by omega
   have i1:(j:Int)<(c.ln:Int):=by omega
   clear hA hrv hoo;go_wp2_with fail;exact Jz (aF rfl _ _ _ rfl _ p.1 (aS.Ig (J.out.b.putV p.1))) rfl (J.out.val (HRV.out.mono fun _=>.inl) HFH.out HOO.out.k0)
 ·have hn':¬d.n<0:=by omega
  obtain⟨M,hM⟩:∃M,d.n=M:=⟨_,rfl⟩;rw[hM] at d1 hn hn';clear hM;have hM0:0<=M:=hn;clear hn hn';rcases(show(¬M<0/\M≥(c.ln:Int))\/(¬M<0/\¬M≥(c.ln:Int)) by omega) with⟨g1,g2⟩|⟨g1,g2⟩
  ·go_wp2_with fail;have q:=aS.Ig (J.out.b.putV VC.zero);refine Jz (aF rfl _ _ _ rfl _ VC.zero q) rfl ?_;exact J.out.val RV.zero HFH.out fun _=>rfl
  ·obtain⟨j,rfl⟩:∃j:Nat,M=(j:Int):=⟨M.toNat,by omega⟩;obtain⟨p,eb,eo,hA,hva,hrv,hoo⟩:=HEL.out j (by omega);rw[hA] at a3;have HRV:=qD hrv;have HOO:=qD hoo;obtain⟨e0,e1,e2,e3,e4⟩:=hva;have i0:(0:Int)<=(j:Int):=by omega
   have i1:(j:Int)<(c.ln:Int):=by omega
   clear hA hrv hoo;go_wp2_with fail;exact Jz (aF rfl _ _ _ rfl _ p.1 (aS.Ig (J.out.b.putV p.1))) rfl (J.out.val (HRV.out.mono fun _=>.inl) HFH.out HOO.out.k0)
def Gd(x:aC)(name:ByteArray)(v:aC):aC:=.mk x.k x.n x.t x.l (x.d++[.mk name v])
def zy(d:List cF)(j:Nat)(v:aC):List cF:=d.mapIdx fun i f=>if i=j then .mk f.s v else f
def putV(x:aC)(j:Nat)(v:aC):aC:=.mk x.k x.n x.t x.l (zy x.d j v)
def sq(x:aC)(name:ByteArray)(v:aC):aC:=if x.k=5 then(if gT x name<0 then Gd x name v else putV x (gT x name).toNat v) else x
theorem CK(d:List cF)(j:Nat)(v:aC)(i:Nat):(zy d j v)[i]?=(d[i]?).map fun f=>if i=j then .mk f.s v else f:=by
 simp[zy,List.getElem?_mapIdx]
theorem uf(d:List cF)(j:Nat)(v:aC):(zy d j v).length=d.length:=by simp[zy]
def CL(F:Nat->Prop)(y:aC)(w:World)(e:Ending)(w':World):Prop:=∃c:VC,e=.returned c.val/\RV (fun b=>F b\/w.heap.size<=b) w' c y/\Below w.heap.size w w'
def nM(fs:List PF)(j:Int)(e:VC)(v:aC):List PF:=fs.mapIdx fun i p=>if(i:Int)=j then(e,.mk p.2.s v) else p
theorem mW(fs:List PF)(j:Int)(e:VC)(v:aC)(i:Nat):(nM fs j e v)[i]?=(fs[i]?).map fun p=>if(i:Int)=j then(e,.mk p.2.s v) else p:=by
 simp[nM,List.getElem?_mapIdx]
theorem kL(fs:List PF)(j:Int)(e:VC)(v:aC):(nM fs j e v).length=fs.length:=by simp[nM]
theorem CM(fs:List PF)(j:Nat)(e:VC)(v:aC):(nM fs j e v).map Prod.snd=zy (fs.map Prod.snd) j v:=by
 apply List.ext_getElem?;intro i;rw[KP,mW,CK,KP];cases fs[i]? with
 | none=>rfl
 | some p=>
  simp only[Ls];by_cases h:i=j
  ·subst h;simp
  ·rw[KU (by omega),KU h]
theorem AA(fs:List PF)(e:VC)(v:aC):nM fs (-1) e v=fs:=by
 apply List.ext_getElem?;intro i;rw[mW];cases fs[i]? with
 | none=>rfl
 | some p=>simp only[Ls];rw[KU (by omega)]
end
structure qU(w:World)(c e:VC)(qs:List PF)(i:Nat)(v:Value)(wr:World):Prop where
 b0:aG wr w.heap.size 29 c.arr
 b1:aG wr (w.heap.size+1) 29 e.arr
 b2:aG wr (w.heap.size+1+1) 29 VC.zero.arr
 own:wr.ownsRow (w.heap.size+3) 77 6 v i (aO cX (qs.take i))
 bel:Below w.heap.size w wr
section
variable {c i size:Nat} {w w' wr:World} {e:TypeId} {v:Value}
theorem qU.step{w:World}{c e:VC}{qs:List PF}{i:Nat}{v:Value}{wr w':World}(h:qU w c e qs i v wr)(hb:Below wr.heap.size wr w'):qU w c e qs i v w':=
 ⟨h.b0.step hb,h.b1.step hb,h.b2.step hb,bJ h.own hb,h.bel.Ih hb⟩
end
theorem qU.lo{w:World}{c e:VC}{qs:List PF}{i:Nat}{v:Value}{wr:World}(h:qU w c e qs i v wr):w.heap.size+3<=wr.heap.size:=by have:=h.b2.lt;omega
section
variable {l:List ByteArray} {c k i g n off m q cap ln lc size:Nat} {x y d:Int} {s:ByteArray} {w w' wr:World} {A' LA:Option Addr} {F:Nat -> Prop} {e t:TypeId} {v v':Value}
theorem qU.next{w:World}{c e:VC}{qs:List PF}{i m:Nat}{v v':Value}{wr w':World}{q:PF}(h:qU w c e qs i v wr)(hq:qs[i]?=some q)(hg:wr.grownBy w' v.ownBlock)(hm:i+1=m)(ho:w'.ownsRow (w.heap.size+3) 77 6 v' m (aO cX (qs.take i)++cX q)):qU w c e qs (i+1) v' w':=by
 subst hm
 exact⟨h.b0.grown hg (fun e=>gL h.own (by omega) e.symm),h.b1.grown hg (fun e=>gL h.own (by omega) e.symm),h.b2.grown hg (fun e=>gL h.own (by omega) e.symm),
  by rw[take_snoc' hq,cw];exact ho,h.bel.grown hg h.bel.size (fun k hk=>by have:=bF h.own k hk;omega)⟩
theorem qU.add{w:World}{c e:VC}{qs:List PF}{i m:Nat}{v v':Value}{wr w':World}{q:PF}(h:qU w c e qs i v wr)(hl:qs.length=i)(hg:wr.grownBy w' v.ownBlock)(hm:i+1=m)(ho:w'.ownsRow (w.heap.size+3) 77 6 v' m (aO cX (qs.take i)++cX q)):qU w c e (qs++[q]) (i+1) v' w':=by
 have h':qU w c e (qs++[q]) i v wr:=⟨h.b0,h.b1,h.b2,by rw[Mn (by omega)];exact h.own,h.bel⟩;exact h'.next (q:=q) (by rw[Kl (by omega),hl];simp) hg hm (by rw[Mn (by omega)];exact ho)
theorem qU.Ip{w:World}{c e u:VC}{qs:List PF}{i ga off:Nat}{v:Value}{wr:World}(h:qU w c e qs i v wr)(hg:w.heap.size+3<=ga)(ho:v.ownBlock≠some ga):qU w c e qs i v (bH wr ga off u):=
 ⟨h.b0.Ix (by omega) _ _,h.b1.Ix (by omega) _ _,h.b2.Ix (by omega) _ _,gw h.own fun g hh=>bO (by rintro rfl;exact ho hh),af h.bel (by omega) _ _⟩
theorem aG.field{w:World}{g:Nat}{p:PF}(h:aG w g 77 (cX p).toArray):w.cell? ⟨g,0,none⟩=some (.string p.2.s)/\aS w g 1 p.1:=by
 refine⟨by rw[h.cell];rfl,by rw[h.cell];rfl,by rw[h.cell];rfl,by rw[h.cell];rfl,by rw[h.cell];rfl,by rw[h.cell];rfl⟩
theorem aG.JU{w:World}{g:Nat}{p:PF}(h:aG w g 77 (cX p).toArray)(e:VC)(v:aC):aG (bH w g 1 e) g 77 (cX (e,.mk p.2.s v)).toArray:=
 ((((h.Ij 1 _).Ij 2 _).Ij 3 _).Ij 4 _).Ij 5 _
theorem qU.done{F:Nat->Prop}{w:World}{ck cn:Int}{ct:ByteArray}{LA DA A':Option Addr}{ln lc dn dc m cap:Nat}{e:VC}{qs:List PF}{wr:World}{x:aC}{y:aC}(h:qU w ⟨ck,cn,ct,LA,ln,lc,DA,dn,dc⟩ e qs m (.slice A' m cap) wr)(hx:RV F w ⟨ck,cn,ct,LA,ln,lc,DA,dn,dc⟩ x)(hl:qs.length=m)(hz:m*96<=aH)(hs:∀q∈qs,q.2.s.size<=aH/\RV F w q.1 q.2.v)(hy:y=.mk x.k x.n x.t x.l (qs.map Prod.snd)):
 CL F y w (.returned (VC.val ⟨ck,cn,ct,LA,ln,lc,A',m,cap⟩)) (bH (wr.setCell ⟨w.heap.size,4,none⟩ (.slice A' m cap)) (w.heap.size+1+1) 0 ⟨ck,cn,ct,LA,ln,lc,A',m,cap⟩):=by
 subst hy;have hlo:=h.lo
 have hB:Below w.heap.size w (bH (wr.setCell ⟨w.heap.size,4,none⟩ (.slice A' m cap)) (w.heap.size+1+1) 0 ⟨ck,cn,ct,LA,ln,lc,A',m,cap⟩):=
  af (h.bel.setCell (qL) _) (by omega) _ _
 have ho:=h.own;rw[KL (by omega)] at ho
 have ho':=gw (w':=bH (wr.setCell ⟨w.heap.size,4,none⟩ (.slice A' m cap)) (w.heap.size+1+1) 0 ⟨ck,cn,ct,LA,ln,lc,A',m,cap⟩) ho fun g hg=>by
  have:=bF ho g hg;rw[bO (by omega),Ku _ _ _ _ (by show g≠w.heap.size;omega)]
 obtain⟨A,cc,heq,hsd⟩:=SD.Ik (F:=fun b=>F b\/w.heap.size<=b) ho' hl hz (fun _ hb=>.inr (by omega)) (fun p hp=>(hs p hp).1) (fun p hp=>((hs p hp).2.step hB).mono fun _=>.inl);cases heq;have hxo:=hx.open;obtain⟨ps,hps,hsl⟩:=hx.sl;have:=RV.Iw (k:=ck) (m:=cn) (t:=ct) (by have:=hxo.t;simp only at this;rw[this];exact hxo.tsz) ((hsl.step hB).mono fun _=>.inl) hsd;refine⟨_,rfl,?_,hB⟩;have e1:=hxo.k;have e2:=hxo.n;have e3:=hxo.t;simp only at e1 e2 e3;rw[hps,e1,e2,e3] at this;rw[<-e1,<-e2,<-e3] at this ⊢;exact this
theorem EF{F:Nat->Prop}(x v:aC)(c e:VC)(name:ByteArray)(w:World)(h:RV F w c x)(he:RV F w e v)(hn:name.size<=aH)(hbig:(x.d.length+1)*96<=aH):
 Calls prog 302 #[c.val,.string name,e.val] w (CL F (sq x name v) w):=by
 obtain⟨j0,hj0,hy0,hy1,hy2⟩:=LM lO;obtain⟨ck,cn,ct,LA,ln,lc,DA,dn,dc⟩:=c;have hk:ck=x.k:=h.open.k;have H:=qD h;have HE:=qD he;have HNm:=qD hn;have HBig:=qD hbig;have hdn:dn=x.d.length:=h.open.dn;have hz:(dn+1)*96<=140737488355328:=by rw[hdn];exact hbig
 have B0:Hid (qU w ⟨ck,cn,ct,LA,ln,lc,DA,dn,dc⟩ e [] 0 (.slice none 0 0) (((w.alloc (.cells #[.int .i64 ck,.int .i64 cn,.string ct,.slice LA ln lc,.slice DA dn dc] 29)).alloc (.cells e.arr 29)).alloc (.cells VC.zero.arr 29))):=
  qD ⟨((aG.Ii rfl).alloc _).alloc _,(aG.Ii (by simp)).alloc _,aG.Ii (by simp),bX _ _ _ _,(((Ju _ _).alloc (qL) _).alloc (by simp) _).alloc (by simp;omega) _⟩
 by_cases h5:ck=5
 ·subst h5;obtain⟨fs,hfs,hsd⟩:=h.sd;simp only at hsd;have HS:=qD hsd;have HFS:=qD hfs;have HDN:=qD hdn;have HK:=qD hk;have HFL:=qD hsd.sr.ln;clear h he hn hbig hdn hsd hfs hk;go_enter func302,ntmps302;go_wp2_with fail;refine(ye x ⟨5,cn,ct,LA,ln,lc,DA,dn,dc⟩ name _ ((H.out.mono fun _ _=>trivial).step B0.out.bel)).mono ?_;rintro e1 w1 ⟨rfl,hb1⟩;obtain⟨kI,hkI⟩:∃k,k=gT x name:=⟨_,rfl⟩;have HKI:=qD hkI
  have hkr:kI=-1\/∃j:Nat,kI=j/\j<x.d.length:=by
   rcases nk x name with hf|⟨j,hf,f,hj⟩
   ·exact .inl (by omega)
   ·exact .inr ⟨j,by omega,(KF.1 hj).1⟩
  have HKR:=qD hkr;rw[<-hkI]
  have B1:Hid (qU w ⟨5,cn,ct,LA,ln,lc,DA,dn,dc⟩ e (nM fs kI e v) 0 (.slice none 0 0) w1):=by
   have:=B0.out.step hb1;exact qD ⟨this.b0,this.b1,this.b2,bX _ _ _ _,this.bel⟩
  clear hb1 hkI B0 hkr;go_wp2_with fail
  go_loopw [8,9] (fun v8 v9 wr=>∃i:Nat,i<=dn/\v9=.int .i64 i/\qU w ⟨5,cn,ct,LA,ln,lc,DA,dn,dc⟩ e (nM fs kI e v) i v8 wr) (fun _ v9 _=>dn-(intOf v9).toNat)
  ·exact⟨0,KD _,rfl,B1.out⟩
  case round=>
   obtain⟨i,hi,rfl,I⟩:=hrel;have J:=qD I;have q4:=I.b0.cell 4;simp at q4;by_cases hlt:i<dn
   ·obtain⟨p,hp⟩:∃p,fs[i]?=some p:=⟨_,Jv (by have:=HFL.out;omega)⟩;obtain⟨b,off,rfl,_,hs0,hu,_⟩:=HS.out.Iq hp;have HQ:Hid ((nM fs kI e v)[i]?=some (if(i:Int)=kI then(e,.mk p.2.s v) else p)):=by rw[Hid,mW,hp];rfl
    have hbl:b<wr.heap.size:=by have:=hu.lt;have:=I.bel.size;omega
    have y5:=(I.bel.cell (p:=⟨b,off+i*6,none⟩) hu.lt).trans hs0;obtain⟨y0,y1,y2,y3,y4⟩:=hu.keep (I.bel.block b hu.lt);have hl0:=I.lo;clear hp hu I hs0;go_upto_region 9 with fail
    have KB:aG (wr.alloc (.cells (cX p).toArray 77)) wr.heap.size 77 (cX p).toArray:=aG.Ii rfl;have K:=J.out.step ((Ju wr.heap.size wr).alloc (qL) (Obj.cells (cX p).toArray 77));have hno:u8.ownBlock≠some wr.heap.size:=fun hh=>absurd (fH J.out.own hh) (by omega);clear y0 y1 y2 y3 y4 y5 q4;change (Code.region 9 _ _).wp _ _ _ (wr.alloc (.cells (cX p).toArray 77));generalize wr.alloc (.cells (cX p).toArray 77)=wa at*;generalize wr.heap.size=ga at*;have LB:=qD KB;have LK:=qD K;clear KB K
    go_upto_if 32 with fail
    go_cut [] (fun wx=>aG wx ga 77 (cX (if(i:Int)=kI then(e,.mk p.2.s v) else p)).toArray/\qU w ⟨5,cn,ct,LA,ln,lc,some ⟨b,off,none⟩,dn,dc⟩ e (nM fs kI e v) i u8 wx)
    case first=>as_aux_lemma=>
     by_cases hik:(i:Int)=kI
     ·subst hik;obtain⟨y5,y0,y1,y2,y3,y4⟩:=LB.out.field;obtain⟨v0,v1,v2,v3,v4⟩:=aS.Ig LK.out.b1;have z:=LB.out.frozen;have hne:w.heap.size+1≠ga:=by omega
      go_wp2_with fail;go_meet;exact⟨by rw[Kb trivial];exact LB.out.JU e v,LK.out.Ip hl0 hno⟩
     ·have hik':((i:Int)==kI)=false:=by simp[hik]
      go_wp2_with fail;go_meet;exact⟨by rw[KU hik];exact LB.out,LK.out⟩
    case rest=>
     obtain⟨KB,K⟩:=hcut;obtain⟨q,hq⟩:∃q,q=(if(i:Int)=kI then(e,.mk p.2.s v) else p):=⟨_,rfl⟩;rw[<-hq] at KB HQ;obtain⟨y5,y0,y1,y2,y3,y4⟩:=KB.field;have LK2:=qD (K.step ((Ju wc.heap.size wc).alloc (qL) (Obj.cells (cX q).toArray 77)));have hl2:=K.lo;clear KB K hq;go_wp2_with (at_builtin;refine aJ _ rfl _ _ 27 rfl (w.heap.size+3) 77 j0 (.agg (#[.string empty]++VC.zero.arr)) 6 96 ME hj0 hy0 hy1 hy2 rfl (by decide) u8 i (aO cX ((nM fs kI e v).take i)) rfl LK2.out.own _ _ 1 _ (cX q) rfl ⟨rfl,fun _=>⟨_,rfl,Km _,ao _ _ _⟩⟩ (iZ _) (by unfold maxLen;omega) (by omega) ?c5 ?_)
     case c5=>first|omega|(simp;omega)
     intro v' w2 hown hg _;have HI:=qD (LK2.out.next HQ.out hg (by omega) hown);clear hown hg y0 y1 y2 y3 y4 y5;go_wp2_with fail;go_roundw
     ·exact⟨i+1,by omega,by go_num,HI.out⟩
     ·simp[intOf];omega
   ·obtain rfl:i=dn:=by omega
    have hqr:∀q∈nM fs kI e v,q.2.s.size<=aH/\RV F w q.1 q.2.v:=by
     intro q hq;obtain⟨a,ha⟩:=LP hq;rw[mW] at ha;obtain⟨p,hp,rfl⟩:=LR.1 ha;have hm:=Jx hp;by_cases hik:(a:Int)=kI
     ·rw[Kb hik];exact⟨HS.out.ns p hm,HE.out⟩
     ·rw[KU hik];exact⟨HS.out.ns p hm,HS.out.rv p hm⟩
    have HQR:=qD hqr;have hl0:=I.lo;clear hqr I;rcases HKR.out with rfl|⟨j,rfl,hj⟩
    ·obtain⟨v0,v1,v2,v3,v4⟩:=aS.Ig J.out.b1;have LK2:=qD (J.out.step ((Ju wr.heap.size wr).alloc (qL) (Obj.cells (cX (e,.mk name v)).toArray 77)));go_wp2_with (at_builtin;refine aJ _ rfl _ _ 27 rfl (w.heap.size+3) 77 j0 (.agg (#[.string empty]++VC.zero.arr)) 6 96 ME hj0 hy0 hy1 hy2 rfl (by decide) u8 i (aO cX ((nM fs (-1) e v).take i)) rfl LK2.out.own _ _ 1 _ (cX (e,.mk name v)) rfl ⟨rfl,fun _=>⟨_,rfl,Km _,ao _ _ _⟩⟩ (iZ _) (by unfold maxLen;omega) (by omega) ?c5 ?_)
     case c5=>first|omega|(simp;omega)
     intro v' w2 hown hg _;have HI:=qD (LK2.out.add (by rw[kL];exact HFL.out.symm) hg (by omega) hown);clear hown hg v0 v1 v2 v3 v4 q4;obtain⟨A',cap,rfl,_⟩:=cK HI.out.own;obtain⟨a0,a1,a2,a3,a4⟩:=aS.Ig HI.out.b0;obtain⟨b0,b1,b2,b3,b4⟩:=aS.Ig HI.out.b2;have z0:=HI.out.b0.frozen;have z2:=HI.out.b2.frozen;go_wp2_with fail;have q:=aS.Ig (((HI.out.b2).Ip (p:=⟨w.heap.size,4,none⟩) (by show w.heap.size+1+1≠w.heap.size;omega) (.slice A' (i+1) cap)).putV ⟨5,cn,ct,LA,ln,lc,A',i+1,cap⟩);refine Jz (aF rfl _ _ _ rfl _ ⟨5,cn,ct,LA,ln,lc,A',i+1,cap⟩ q) rfl ?_;refine HI.out.done H.out (by rw[KV,kL];simp[HFL.out]) hz (fun q hq=>?_) ?_
     ·rcases KI.1 hq with hq|hq
      ·exact HQR.out q hq
      ·simp at hq;subst hq;exact⟨HNm.out,HE.out⟩
     ·unfold sq;rw[Kb HK.out.symm,Kb (by have:=HKI.out;omega),AA,Ke,HFS.out];rfl
    ·obtain⟨A',cap,rfl,_⟩:=cK J.out.own;obtain⟨a0,a1,a2,a3,a4⟩:=aS.Ig J.out.b0;obtain⟨b0,b1,b2,b3,b4⟩:=aS.Ig J.out.b2;have z0:=J.out.b0.frozen;have z2:=J.out.b2.frozen;clear q4;go_wp2_with fail;have q:=aS.Ig (((J.out.b2).Ip (p:=⟨w.heap.size,4,none⟩) (by show w.heap.size+1+1≠w.heap.size;omega) (.slice A' i cap)).putV ⟨5,cn,ct,LA,ln,lc,A',i,cap⟩);refine Jz (aF rfl _ _ _ rfl _ ⟨5,cn,ct,LA,ln,lc,A',i,cap⟩ q) rfl ?_;refine J.out.done H.out (by rw[kL];exact HFL.out.symm) (by unfold aH;omega) HQR.out ?_;unfold sq;have hki:=HKI.out;rw[Kb HK.out.symm,KU (by omega),CM,HFS.out,<-hki];rfl
 ·have HK5:Hid (x.k≠5):=by rw[Hid,<-hk];exact h5
  have hc5:(ck != 5)=true:=by simp[h5]
  obtain⟨a0,a1,a2,a3,a4⟩:=aS.Ig B0.out.b0;obtain⟨b0,b1,b2,b3,b4⟩:=aS.Ig B0.out.b2;have z2:=B0.out.b2.frozen;clear h he hn hbig hdn hk h5 a0 a1 a2 a3 a4 b0 b1 b2 b3 b4 z2;go_enter func302,ntmps302;go_upto_region 1 with fail
  change (Code.region 1 _ _).wp _ _ _ (((w.alloc (.cells #[.int .i64 ck,.int .i64 cn,.string ct,.slice LA ln lc,.slice DA dn dc] 29)).alloc (.cells e.arr 29)).alloc (.cells VC.zero.arr 29));generalize ((w.alloc (.cells #[.int .i64 ck,.int .i64 cn,.string ct,.slice LA ln lc,.slice DA dn dc] 29)).alloc (.cells e.arr 29)).alloc (.cells VC.zero.arr 29)=wa at*;obtain⟨a0,a1,a2,a3,a4⟩:=aS.Ig B0.out.b0;obtain⟨b0,b1,b2,b3,b4⟩:=aS.Ig B0.out.b2;have z2:=B0.out.b2.frozen;go_wp2_with fail;have q:=aS.Ig (B0.out.b2.putV ⟨ck,cn,ct,LA,ln,lc,DA,dn,dc⟩);refine Jz (aF rfl _ _ _ rfl _ ⟨ck,cn,ct,LA,ln,lc,DA,dn,dc⟩ q) rfl ?_;have hB:Below w.heap.size w (bH wa (w.heap.size+1+1) 0 ⟨ck,cn,ct,LA,ln,lc,DA,dn,dc⟩):=af B0.out.bel (by omega) 0 ⟨ck,cn,ct,LA,ln,lc,DA,dn,dc⟩;refine⟨⟨ck,cn,ct,LA,ln,lc,DA,dn,dc⟩,rfl,?_,hB⟩;unfold sq;rw[KU HK5.out];exact(H.out.step hB).mono fun _=>.inl
end
end Go.Proofs.YtgfoliedmhgpnaaGreatDoor
