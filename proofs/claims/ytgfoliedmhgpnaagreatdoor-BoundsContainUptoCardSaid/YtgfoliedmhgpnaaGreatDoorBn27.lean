/- A part of the proof. -/
import Derived.Test.YtgfoliedmhgpnaaGreatDoorBn26
import Derived.Test.YtgfoliedmhgpnaaGreatDoorBn23
set_option maxRecDepth 100000
set_option maxHeartbeats 16000000
set_option linter.unusedSimpArgs false
open Go.Proofs.Tryz
open ByteArray (empty)
namespace Go.Proofs.YtgfoliedmhgpnaaGreatDoor
open Go.RowKit
set_option linter.unusedVariables false
section
variable {b c m size:Nat} {op x:Int} {w:World} {A:Option Addr} {F:Nat -> Prop} {e:TypeId}
theorem pN{F:Nat->Prop}(x:aC)(c:VC)(w:World)(hF:∀b,F b->b<w.heap.size)(h:RV F w c x):Calls prog 258 #[c.val] w (dh F w):=by
 have HFH:=qD hF;have H:=qD h;have HK:Hid (c.k=x.k):=qD h.open.k;have C0:Hid (aG ((w.alloc (.cells c.arr 29)).alloc (.cells VC.zero.arr 29)) w.heap.size 29 c.arr):=(aG.Ii rfl).alloc _;have J0:Hid (eZ w (w.heap.size+1) ((w.alloc (.cells c.arr 29)).alloc (.cells VC.zero.arr 29))):=⟨aG.Ii (by simp),by omega,((Ju _ _).alloc (qL) _).alloc (by simp) _⟩;clear h hF;go_enter func258,ntmps258;go_upto_region 1 with fail
 change Code.wp _ _ _ _ ((w.alloc (.cells c.arr 29)).alloc (.cells VC.zero.arr 29));generalize (w.alloc (.cells c.arr 29)).alloc (.cells VC.zero.arr 29)=wa at*;obtain⟨a0,a1,a2,a3,a4⟩:=aS.Ig C0.out;simp only[Jw] at a1 a2 a3 a4;have J:=J0;cases hz:(c.k==0)
 ·obtain⟨b0,b1,b2,b3,b4⟩:=aS.Ig J.out.b;simp only[Jw] at b0 b1 b2 b3 b4;have z:=J.out.b.frozen;have HZ:Hid (x.k≠0):=qD (by rw[<-HK.out];simpa using hz);go_wp2_with fail;exact Jz (aF rfl _ _ _ rfl _ c (aS.Ig (J.out.b.putV c))) rfl (J.out.val ((H.out.step J.out.bel).mono fun _=>.inl) HFH.out fun h=>absurd h HZ.out)
 ·go_wp2_with (go_at_call 34;refine(bm _).mono ?_;rintro e w2 ⟨k,n,t,rfl,ht,hk,hb⟩;replace J:=qD (J.out.step hb);have HT:=qD ht;have HK:=qD hk;clear hb ht hk;obtain⟨b0,b1,b2,b3,b4⟩:=aS.Ig J.out.b;simp only[Jw] at b0 b1 b2 b3 b4;have z:=J.out.b.frozen);exact Jz (aF rfl _ _ _ rfl _ (bG k n t) (aS.Ig (J.out.b.putV (bG k n t)))) rfl (J.out.leaf k n HT.out HK.out).a
theorem Ge{F:Nat->Prop}(e:dI)(ho:e.op=4\/e.op=6)(ps:List PV)(A:Option Addr)(m c:Nat)(w:World)(hF:∀b,F b->b<w.heap.size)(hX:WX w e)(hs:fF F w A m c ps):
 Calls prog 211 #[dL e,.slice A m c] w (dh F w):=by
 have HFH:=qD hF;have hm:m<=256:=hs.few;have HS:=qD hs;have B0:Hid (aG ((w.alloc (.cells (aN e) 35)).alloc (.cells VC.zero.arr 29)) w.heap.size 35 (aN e)):=(aG.Ii rfl).alloc _;have J0:Hid (eZ w (w.heap.size+1) ((w.alloc (.cells (aN e) 35)).alloc (.cells VC.zero.arr 29))):=⟨aG.Ii (by simp),by omega,((Ju _ _).alloc (qL) _).alloc (by simp) _⟩;clear hs hF;have HN:Hid (∀wr,Below w.heap.size w wr->Calls prog 260 #[.int .i64 e.op,.slice A m c] wr (fU wr)):=qD fun wr hb=>sm e.op ho ps A m c wr (HS.out.step hb);rcases ho with ho|ho
 all_goals
  rw[ho] at HN;go_enter Lh,La;go_upto_region 1 with fail
  change Code.wp _ _ _ _ ((w.alloc (.cells (aN e) 35)).alloc (.cells VC.zero.arr 29));generalize ((w.alloc (.cells (aN e) 35)).alloc (.cells VC.zero.arr 29))=wa at*;obtain⟨d0,d1,d2,d3,d9,d10⟩:=ag B0.out;rw[ho] at d0;have J:=J0;go_wp2_with (go_at_call 260;refine(HN.out _ J.out.bel).mono ?_;rintro e w2 ⟨k,n,t,rfl,ht,hk,hb⟩;replace J:=qD (J.out.step hb);have HT:=qD ht;have HK:=qD hk;clear hb ht hk;obtain⟨b0,b1,b2,b3,b4⟩:=aS.Ig J.out.b;simp only[Jw] at b0 b1 b2 b3 b4;have z:=J.out.b.frozen);exact Jz (aF rfl _ _ _ rfl _ (bG k n t) (aS.Ig (J.out.b.putV (bG k n t)))) rfl (J.out.leaf k n HT.out HK.out).a
theorem Fc{F:Nat->Prop}(e:dI)(ho:e.op=5\/e.op=7\/e.op=8)(ps:List PV)(A:Option Addr)(m c:Nat)(w:World)(hF:∀b,F b->b<w.heap.size)(hX:WX w e)(hs:fF F w A m c ps)(hq:2<=m):
 Calls prog 211 #[dL e,.slice A m c] w (dh F w):=by
 have HFH:=qD hF;have hm:m<=256:=hs.few;have HS:=qD hs;have B0:Hid (aG ((w.alloc (.cells (aN e) 35)).alloc (.cells VC.zero.arr 29)) w.heap.size 35 (aN e)):=(aG.Ii rfl).alloc _;have J0:Hid (eZ w (w.heap.size+1) ((w.alloc (.cells (aN e) 35)).alloc (.cells VC.zero.arr 29))):=⟨aG.Ii (by simp),by omega,((Ju _ _).alloc (qL) _).alloc (by simp) _⟩;clear hs hF;have HN:Hid (∀wr,Below w.heap.size w wr->Calls prog 260 #[.int .i64 e.op,.slice A m c] wr (fU wr)):=qD fun wr hb=>qQ e.op ho ps A m c wr (HS.out.step hb) hq;rcases ho with ho|ho|ho
 all_goals
  rw[ho] at HN;go_enter Lh,La;go_upto_region 1 with fail
  change Code.wp _ _ _ _ ((w.alloc (.cells (aN e) 35)).alloc (.cells VC.zero.arr 29));generalize ((w.alloc (.cells (aN e) 35)).alloc (.cells VC.zero.arr 29))=wa at*;obtain⟨d0,d1,d2,d3,d9,d10⟩:=ag B0.out;rw[ho] at d0;have J:=J0;go_wp2_with (go_at_call 260;refine(HN.out _ J.out.bel).mono ?_;rintro e w2 ⟨k,n,t,rfl,ht,hk,hb⟩;replace J:=qD (J.out.step hb);have HT:=qD ht;have HK:=qD hk;clear hb ht hk;obtain⟨b0,b1,b2,b3,b4⟩:=aS.Ig J.out.b;simp only[Jw] at b0 b1 b2 b3 b4;have z:=J.out.b.frozen);exact Jz (aF rfl _ _ _ rfl _ (bG k n t) (aS.Ig (J.out.b.putV (bG k n t)))) rfl (J.out.leaf k n HT.out HK.out).a
theorem EH{F:Nat->Prop}(e:dI)(ho:e.op=16\/e.op=17)(ps:List PV)(A:Option Addr)(m c:Nat)(w:World)(hF:∀b,F b->b<w.heap.size)(hX:WX w e)(hs:fF F w A m c ps):
 Calls prog 211 #[dL e,.slice A m c] w (dh F w):=by
 have HFH:=qD hF;have hm:m<=256:=hs.few;have HS:=qD hs;have B0:Hid (aG ((w.alloc (.cells (aN e) 35)).alloc (.cells VC.zero.arr 29)) w.heap.size 35 (aN e)):=(aG.Ii rfl).alloc _;have J0:Hid (eZ w (w.heap.size+1) ((w.alloc (.cells (aN e) 35)).alloc (.cells VC.zero.arr 29))):=⟨aG.Ii (by simp),by omega,((Ju _ _).alloc (qL) _).alloc (by simp) _⟩;clear hs hF;have HN:Hid (∀wr,Below w.heap.size w wr->Calls prog 261 #[.int .i64 e.op,.slice A m c] wr (fU wr)):=qD fun wr hb=>ud e.op ps A m c wr (HS.out.step hb).sr hm;rcases ho with ho|ho
 all_goals
  rw[ho] at HN;go_enter Lh,La;go_upto_region 1 with fail
  change Code.wp _ _ _ _ ((w.alloc (.cells (aN e) 35)).alloc (.cells VC.zero.arr 29));generalize ((w.alloc (.cells (aN e) 35)).alloc (.cells VC.zero.arr 29))=wa at*;obtain⟨d0,d1,d2,d3,d9,d10⟩:=ag B0.out;rw[ho] at d0;have J:=J0;go_wp2_with (go_at_call 261;refine(HN.out _ J.out.bel).mono ?_;rintro e w2 ⟨k,n,t,rfl,ht,hk,hb⟩;replace J:=qD (J.out.step hb);have HT:=qD ht;have HK:=qD hk;clear hb ht hk;obtain⟨b0,b1,b2,b3,b4⟩:=aS.Ig J.out.b;simp only[Jw] at b0 b1 b2 b3 b4;have z:=J.out.b.frozen);exact Jz (aF rfl _ _ _ rfl _ (bG k n t) (aS.Ig (J.out.b.putV (bG k n t)))) rfl (J.out.leaf k n HT.out HK.out).a
theorem Gf{F:Nat->Prop}(e:dI)(ho:e.op=18)(ps:List PV)(A:Option Addr)(m c:Nat)(w:World)(hF:∀b,F b->b<w.heap.size)(hX:WX w e)(hs:fF F w A m c ps)(hq:1<=m):
 Calls prog 211 #[dL e,.slice A m c] w (dh F w):=by
 have HFH:=qD hF;have hm:m<=256:=hs.few;obtain⟨eb,eo,rfl,hlb,hel⟩:=hs.at (by omega);obtain⟨p0,-,hv0,hr0,ho0⟩:=hel 0 (by omega);rw[show eo+0*5=eo by omega] at hv0;have HV0:=qD hv0;have HR0:=qD hr0;have HO0:=qD ho0;have l0:(0:Int)<(m:Int):=by omega
 have k0:0<m:=by omega
 clear hel hv0 hr0 ho0;have HS:=qD hs;have B0:Hid (aG ((w.alloc (.cells (aN e) 35)).alloc (.cells VC.zero.arr 29)) w.heap.size 35 (aN e)):=(aG.Ii rfl).alloc _;have J0:Hid (eZ w (w.heap.size+1) ((w.alloc (.cells (aN e) 35)).alloc (.cells VC.zero.arr 29))):=⟨aG.Ii (by simp),by omega,((Ju _ _).alloc (qL) _).alloc (by simp) _⟩;clear hs hF;go_enter Lh,La;go_upto_region 1 with fail
 change Code.wp _ _ _ _ ((w.alloc (.cells (aN e) 35)).alloc (.cells VC.zero.arr 29));generalize ((w.alloc (.cells (aN e) 35)).alloc (.cells VC.zero.arr 29))=wa at*;obtain⟨d0,d1,d2,d3,d9,d10⟩:=ag B0.out;rw[ho] at d0;have J:=J0;obtain⟨y0,y1,y2,y3,y4⟩:=HV0.out.step J.out.bel;go_wp2_with (first|(go_at_call 259;refine(jL p0.1 _).mono ?_;rintro e w1 ⟨r,rfl,_,hb⟩;replace J:=qD (J.out.step hb);clear hb)|(go_at_call 262;refine(iD _ _).mono ?_;rintro e w2 ⟨k,n,t,rfl,ht,hk,hb⟩;replace J:=qD (J.out.step hb);have HT:=qD ht;have HK:=qD hk;clear hb ht hk;obtain⟨b0,b1,b2,b3,b4⟩:=aS.Ig J.out.b;simp only[Jw] at b0 b1 b2 b3 b4;have z:=J.out.b.frozen));exact Jz (aF rfl _ _ _ rfl _ (bG k n t) (aS.Ig (J.out.b.putV (bG k n t)))) rfl (J.out.leaf k n HT.out HK.out).a
theorem Ht{F:Nat->Prop}(e:dI)(ho:e.op=19)(ps:List PV)(A:Option Addr)(m c:Nat)(w:World)(hF:∀b,F b->b<w.heap.size)(hX:WX w e)(hs:fF F w A m c ps)(hq:3<=m):
 Calls prog 211 #[dL e,.slice A m c] w (dh F w):=by
 have HFH:=qD hF;have hm:m<=256:=hs.few;obtain⟨eb,eo,rfl,hlb,hel⟩:=hs.at (by omega);obtain⟨p0,-,hv0,hr0,ho0⟩:=hel 0 (by omega);rw[show eo+0*5=eo by omega] at hv0;have HV0:=qD hv0;have HR0:=qD hr0;have HO0:=qD ho0;obtain⟨p1,-,hv1,hr1,ho1⟩:=hel 1 (by omega);rw[show eo+1*5=eo+5 by omega] at hv1;have HV1:=qD hv1;have HR1:=qD hr1;have HO1:=qD ho1;obtain⟨p2,-,hv2,hr2,ho2⟩:=hel 2 (by omega);rw[show eo+2*5=eo+10 by omega] at hv2;have HV2:=qD hv2;have HR2:=qD hr2;have HO2:=qD ho2;have l0:(0:Int)<(m:Int):=by omega
 have k0:0<m:=by omega
 have l1:(1:Int)<(m:Int):=by omega
 have k1:1<m:=by omega
 have l2:(2:Int)<(m:Int):=by omega
 have k2:2<m:=by omega
 clear hel hv0 hr0 ho0 hv1 hr1 ho1 hv2 hr2 ho2;have HS:=qD hs;have B0:Hid (aG ((w.alloc (.cells (aN e) 35)).alloc (.cells VC.zero.arr 29)) w.heap.size 35 (aN e)):=(aG.Ii rfl).alloc _;have J0:Hid (eZ w (w.heap.size+1) ((w.alloc (.cells (aN e) 35)).alloc (.cells VC.zero.arr 29))):=⟨aG.Ii (by simp),by omega,((Ju _ _).alloc (qL) _).alloc (by simp) _⟩;clear hs hF;go_enter Lh,La;go_upto_region 1 with fail
 change Code.wp _ _ _ _ ((w.alloc (.cells (aN e) 35)).alloc (.cells VC.zero.arr 29));generalize ((w.alloc (.cells (aN e) 35)).alloc (.cells VC.zero.arr 29))=wa at*;obtain⟨d0,d1,d2,d3,d9,d10⟩:=ag B0.out;rw[ho] at d0;have J:=J0;obtain⟨y0,y1,y2,y3,y4⟩:=HV0.out.step J.out.bel;go_wp2_with (go_at_call 259;refine(jL p0.1 _).mono ?_;rintro e w1 ⟨r,rfl,_,hb⟩;replace J:=qD (J.out.step hb);clear hb;obtain⟨u0,u1,u2,u3,u4⟩:=HV1.out.step J.out.bel;obtain⟨v0,v1,v2,v3,v4⟩:=HV2.out.step J.out.bel;obtain⟨b0,b1,b2,b3,b4⟩:=aS.Ig J.out.b;simp only[Jw] at b0 b1 b2 b3 b4;have z:=J.out.b.frozen;cases r)
 ·exact Jz (aF rfl _ _ _ rfl _ p2.1 (aS.Ig (J.out.b.putV p2.1))) rfl (J.out.val ((HR2.out.step J.out.bel).mono fun _=>.inl) HFH.out HO2.out.k0)
 ·exact Jz (aF rfl _ _ _ rfl _ p1.1 (aS.Ig (J.out.b.putV p1.1))) rfl (J.out.val ((HR1.out.step J.out.bel).mono fun _=>.inl) HFH.out HO1.out.k0)
theorem CN{F:Nat->Prop}(e:dI)(ho:e.op=20)(ps:List PV)(A:Option Addr)(m c:Nat)(w:World)(hF:∀b,F b->b<w.heap.size)(hX:WX w e)(hs:fF F w A m c ps)(hq:2<=m):
 Calls prog 211 #[dL e,.slice A m c] w (dh F w):=by
 have HFH:=qD hF;have hm:m<=256:=hs.few;obtain⟨eb,eo,rfl,hlb,hel⟩:=hs.at (by omega);obtain⟨p0,-,hv0,hr0,ho0⟩:=hel 0 (by omega);rw[show eo+0*5=eo by omega] at hv0;have HV0:=qD hv0;have HR0:=qD hr0;have HO0:=qD ho0;obtain⟨p1,-,hv1,hr1,ho1⟩:=hel 1 (by omega);rw[show eo+1*5=eo+5 by omega] at hv1;have HV1:=qD hv1;have HR1:=qD hr1;have HO1:=qD ho1;have l0:(0:Int)<(m:Int):=by omega
 have k0:0<m:=by omega
 have l1:(1:Int)<(m:Int):=by omega
 have k1:1<m:=by omega
 clear hel hv0 hr0 ho0 hv1 hr1 ho1;have HS:=qD hs;have B0:Hid (aG ((w.alloc (.cells (aN e) 35)).alloc (.cells VC.zero.arr 29)) w.heap.size 35 (aN e)):=(aG.Ii rfl).alloc _;have J0:Hid (eZ w (w.heap.size+1) ((w.alloc (.cells (aN e) 35)).alloc (.cells VC.zero.arr 29))):=⟨aG.Ii (by simp),by omega,((Ju _ _).alloc (qL) _).alloc (by simp) _⟩;clear hs hF;go_enter Lh,La;go_upto_region 1 with fail
 change Code.wp _ _ _ _ ((w.alloc (.cells (aN e) 35)).alloc (.cells VC.zero.arr 29));generalize ((w.alloc (.cells (aN e) 35)).alloc (.cells VC.zero.arr 29))=wa at*;obtain⟨d0,d1,d2,d3,d9,d10⟩:=ag B0.out;rw[ho] at d0;have J:=J0;obtain⟨y0,y1,y2,y3,y4⟩:=HV0.out.step J.out.bel;obtain⟨u0,u1,u2,u3,u4⟩:=HV1.out.step J.out.bel;obtain⟨b0,b1,b2,b3,b4⟩:=aS.Ig J.out.b;simp only[Jw] at b0 b1 b2 b3 b4;have z:=J.out.b.frozen;rcases(show(p0.1.k==0)=true\/((p0.1.k==0)=false/\(p0.1.k==2)=true)\/((p0.1.k==0)=false/\(p0.1.k==2)=false) by cases(p0.1.k==0)<;>cases(p0.1.k==2)<;>simp) with h|⟨h,h2⟩|⟨h,h2⟩
 ·go_wp2_with fail;exact Jz (aF rfl _ _ _ rfl _ p1.1 (aS.Ig (J.out.b.putV p1.1))) rfl (J.out.val ((HR1.out.step J.out.bel).mono fun _=>.inl) HFH.out HO1.out.k0)
 ·go_wp2_with fail;exact Jz (aF rfl _ _ _ rfl _ p1.1 (aS.Ig (J.out.b.putV p1.1))) rfl (J.out.val ((HR1.out.step J.out.bel).mono fun _=>.inl) HFH.out HO1.out.k0)
 ·go_wp2_with fail;exact Jz (aF rfl _ _ _ rfl _ p0.1 (aS.Ig (J.out.b.putV p0.1))) rfl (J.out.val ((HR0.out.step J.out.bel).mono fun _=>.inl) HFH.out HO0.out.k0)
theorem CO{F:Nat->Prop}(e:dI)(ho:e.op=21)(ps:List PV)(A:Option Addr)(m c:Nat)(w:World)(hF:∀b,F b->b<w.heap.size)(hX:WX w e)(hs:fF F w A m c ps):
 Calls prog 211 #[dL e,.slice A m c] w (dh F w):=by
 have HFH:=qD hF;have hm:m<=256:=hs.few;have HS:=qD hs;have B0:Hid (aG ((w.alloc (.cells (aN e) 35)).alloc (.cells VC.zero.arr 29)) w.heap.size 35 (aN e)):=(aG.Ii rfl).alloc _;have J0:Hid (eZ w (w.heap.size+1) ((w.alloc (.cells (aN e) 35)).alloc (.cells VC.zero.arr 29))):=⟨aG.Ii (by simp),by omega,((Ju _ _).alloc (qL) _).alloc (by simp) _⟩;clear hs hF;have HN:Hid (∀wr,Below w.heap.size w wr->Calls prog 263 #[.slice A m c] wr (fU wr)):=qD fun wr hb=>so ps A m c wr (HS.out.step hb);go_enter Lh,La;go_upto_region 1 with fail
 change Code.wp _ _ _ _ ((w.alloc (.cells (aN e) 35)).alloc (.cells VC.zero.arr 29));generalize ((w.alloc (.cells (aN e) 35)).alloc (.cells VC.zero.arr 29))=wa at*;obtain⟨d0,d1,d2,d3,d9,d10⟩:=ag B0.out;rw[ho] at d0;have J:=J0;go_wp2_with (go_at_call 263;refine(HN.out _ J.out.bel).mono ?_;rintro e w2 ⟨k,n,t,rfl,ht,hk,hb⟩;replace J:=qD (J.out.step hb);have HT:=qD ht;have HK:=qD hk;clear hb ht hk;obtain⟨b0,b1,b2,b3,b4⟩:=aS.Ig J.out.b;simp only[Jw] at b0 b1 b2 b3 b4;have z:=J.out.b.frozen);exact Jz (aF rfl _ _ _ rfl _ (bG k n t) (aS.Ig (J.out.b.putV (bG k n t)))) rfl (J.out.leaf k n HT.out HK.out).a
theorem AC{F:Nat->Prop}(e:dI)(ho:e.op=22\/e.op=23)(ps:List PV)(A:Option Addr)(m c:Nat)(w:World)(hF:∀b,F b->b<w.heap.size)(hX:WX w e)(hs:fF F w A m c ps)(hq:1<=m):
 Calls prog 211 #[dL e,.slice A m c] w (dh F w):=by
 have HFH:=qD hF;have hm:m<=256:=hs.few;obtain⟨eb,eo,rfl,hlb,hel⟩:=hs.at (by omega);obtain⟨p0,-,hv0,hr0,ho0⟩:=hel 0 (by omega);rw[show eo+0*5=eo by omega] at hv0;have HV0:=qD hv0;have HR0:=qD hr0;have HO0:=qD ho0;have l0:(0:Int)<(m:Int):=by omega
 have k0:0<m:=by omega
 clear hel hv0 hr0 ho0;have HS:=qD hs;have B0:Hid (aG ((w.alloc (.cells (aN e) 35)).alloc (.cells VC.zero.arr 29)) w.heap.size 35 (aN e)):=(aG.Ii rfl).alloc _;have J0:Hid (eZ w (w.heap.size+1) ((w.alloc (.cells (aN e) 35)).alloc (.cells VC.zero.arr 29))):=⟨aG.Ii (by simp),by omega,((Ju _ _).alloc (qL) _).alloc (by simp) _⟩;clear hs hF;have HTP:Hid (p0.1.t.size<=4096):=qD (by rw[HR0.out.open.t];exact HO0.out.len.1);rcases ho with ho|ho
 all_goals
  go_enter Lh,La;go_upto_region 1 with fail
  change Code.wp _ _ _ _ ((w.alloc (.cells (aN e) 35)).alloc (.cells VC.zero.arr 29));generalize ((w.alloc (.cells (aN e) 35)).alloc (.cells VC.zero.arr 29))=wa at*;obtain⟨d0,d1,d2,d3,d9,d10⟩:=ag B0.out;rw[ho] at d0;have J:=J0;obtain⟨y0,y1,y2,y3,y4⟩:=HV0.out.step J.out.bel;cases h4:(p0.1.k != 4)
  ·go_upto_region 30 with fail
   go_region_law (first
    | (go_simp;go_at_call 265;refine(qS _ _ _ (KM HTP.out (by decide))).mono ?_;rintro e w1 ⟨s,rfl,hsz,hb⟩;replace hb:Below wa.heap.size wa w1:=hb.Io;have HTZ:=qD (KM hsz (KM HTP.out (by decide:4096<=aH)));replace J:=qD (J.out.step hb);clear hb hsz)
    | (go_simp;(go_at_call 264;refine(eg _ _ HTZ.out).mono ?_;rintro e w2 ⟨k,n,t,rfl,ht,hk,hb⟩;replace J:=qD (J.out.step hb);have HT:=qD ht;have HK:=qD hk;clear hb ht hk;obtain⟨b0,b1,b2,b3,b4⟩:=aS.Ig J.out.b;simp only[Jw] at b0 b1 b2 b3 b4;have z:=J.out.b.frozen)))
   all_goals
    go_wp2_with fail;exact Jz (aF rfl _ _ _ rfl _ (bG k n t) (aS.Ig (J.out.b.putV (bG k n t)))) rfl (J.out.leaf k n HT.out HK.out).a
  ·go_wp2_with (go_at_call 34;refine(bm _).mono ?_;rintro e w2 ⟨k,n,t,rfl,ht,hk,hb⟩;replace J:=qD (J.out.step hb);have HT:=qD ht;have HK:=qD hk;clear hb ht hk;obtain⟨b0,b1,b2,b3,b4⟩:=aS.Ig J.out.b;simp only[Jw] at b0 b1 b2 b3 b4;have z:=J.out.b.frozen);exact Jz (aF rfl _ _ _ rfl _ (bG k n t) (aS.Ig (J.out.b.putV (bG k n t)))) rfl (J.out.leaf k n HT.out HK.out).a
theorem CP{F:Nat->Prop}(e:dI)(ho:e.op=24)(ps:List PV)(A:Option Addr)(m c:Nat)(w:World)(hF:∀b,F b->b<w.heap.size)(hX:WX w e)(hs:fF F w A m c ps)(hq:1<=m):
 Calls prog 211 #[dL e,.slice A m c] w (dh F w):=by
 have HFH:=qD hF;have hm:m<=256:=hs.few;obtain⟨eb,eo,rfl,hlb,hel⟩:=hs.at (by omega);obtain⟨p0,-,hv0,hr0,ho0⟩:=hel 0 (by omega);rw[show eo+0*5=eo by omega] at hv0;have HV0:=qD hv0;have HR0:=qD hr0;have HO0:=qD ho0;have l0:(0:Int)<(m:Int):=by omega
 have k0:0<m:=by omega
 clear hel hv0 hr0 ho0;have HS:=qD hs;have B0:Hid (aG ((w.alloc (.cells (aN e) 35)).alloc (.cells VC.zero.arr 29)) w.heap.size 35 (aN e)):=(aG.Ii rfl).alloc _;have J0:Hid (eZ w (w.heap.size+1) ((w.alloc (.cells (aN e) 35)).alloc (.cells VC.zero.arr 29))):=⟨aG.Ii (by simp),by omega,((Ju _ _).alloc (qL) _).alloc (by simp) _⟩;clear hs hF;go_enter Lh,La;go_upto_region 1 with fail
 change Code.wp _ _ _ _ ((w.alloc (.cells (aN e) 35)).alloc (.cells VC.zero.arr 29));generalize ((w.alloc (.cells (aN e) 35)).alloc (.cells VC.zero.arr 29))=wa at*;obtain⟨d0,d1,d2,d3,d9,d10⟩:=ag B0.out;rw[ho] at d0;have J:=J0;obtain⟨y0,y1,y2,y3,y4⟩:=HV0.out.step J.out.bel;cases h4:(p0.1.k != 4)
 ·go_wp2_with (go_at_call 30;refine(fD _ _).mono ?_;rintro e w2 ⟨k,n,t,rfl,ht,hk,hb⟩;replace J:=qD (J.out.step hb);have HT:=qD ht;have HK:=qD hk;clear hb ht hk;obtain⟨b0,b1,b2,b3,b4⟩:=aS.Ig J.out.b;simp only[Jw] at b0 b1 b2 b3 b4;have z:=J.out.b.frozen);exact Jz (aF rfl _ _ _ rfl _ (bG k n t) (aS.Ig (J.out.b.putV (bG k n t)))) rfl (J.out.leaf k n HT.out HK.out).a
 ·go_wp2_with (go_at_call 34;refine(bm _).mono ?_;rintro e w2 ⟨k,n,t,rfl,ht,hk,hb⟩;replace J:=qD (J.out.step hb);have HT:=qD ht;have HK:=qD hk;clear hb ht hk;obtain⟨b0,b1,b2,b3,b4⟩:=aS.Ig J.out.b;simp only[Jw] at b0 b1 b2 b3 b4;have z:=J.out.b.frozen);exact Jz (aF rfl _ _ _ rfl _ (bG k n t) (aS.Ig (J.out.b.putV (bG k n t)))) rfl (J.out.leaf k n HT.out HK.out).a
theorem EI{F:Nat->Prop}(e:dI)(ho:e.op=25)(ps:List PV)(A:Option Addr)(m c:Nat)(w:World)(hF:∀b,F b->b<w.heap.size)(hX:WX w e)(hs:fF F w A m c ps)(hq:3<=m):
 Calls prog 211 #[dL e,.slice A m c] w (dh F w):=by
 have HFH:=qD hF;have hm:m<=256:=hs.few;obtain⟨eb,eo,rfl,hlb,hel⟩:=hs.at (by omega);obtain⟨p0,-,hv0,hr0,ho0⟩:=hel 0 (by omega);rw[show eo+0*5=eo by omega] at hv0;have HV0:=qD hv0;have HR0:=qD hr0;have HO0:=qD ho0;obtain⟨p1,-,hv1,hr1,ho1⟩:=hel 1 (by omega);rw[show eo+1*5=eo+5 by omega] at hv1;have HV1:=qD hv1;have HR1:=qD hr1;have HO1:=qD ho1;obtain⟨p2,-,hv2,hr2,ho2⟩:=hel 2 (by omega);rw[show eo+2*5=eo+10 by omega] at hv2;have HV2:=qD hv2;have HR2:=qD hr2;have HO2:=qD ho2;have l0:(0:Int)<(m:Int):=by omega
 have k0:0<m:=by omega
 have l1:(1:Int)<(m:Int):=by omega
 have k1:1<m:=by omega
 have l2:(2:Int)<(m:Int):=by omega
 have k2:2<m:=by omega
 clear hel hv0 hr0 ho0 hv1 hr1 ho1 hv2 hr2 ho2;have HS:=qD hs;have B0:Hid (aG ((w.alloc (.cells (aN e) 35)).alloc (.cells VC.zero.arr 29)) w.heap.size 35 (aN e)):=(aG.Ii rfl).alloc _;have J0:Hid (eZ w (w.heap.size+1) ((w.alloc (.cells (aN e) 35)).alloc (.cells VC.zero.arr 29))):=⟨aG.Ii (by simp),by omega,((Ju _ _).alloc (qL) _).alloc (by simp) _⟩;clear hs hF;have HTP:Hid (p0.1.t.size<=4096):=qD (by rw[HR0.out.open.t];exact HO0.out.len.1);go_enter Lh,La;go_upto_region 1 with fail
 change Code.wp _ _ _ _ ((w.alloc (.cells (aN e) 35)).alloc (.cells VC.zero.arr 29));generalize ((w.alloc (.cells (aN e) 35)).alloc (.cells VC.zero.arr 29))=wa at*;obtain⟨d0,d1,d2,d3,d9,d10⟩:=ag B0.out;rw[ho] at d0;have J:=J0;obtain⟨y0,y1,y2,y3,y4⟩:=HV0.out.step J.out.bel;obtain⟨u0,u1,u2,u3,u4⟩:=HV1.out.step J.out.bel;obtain⟨v0,v1,v2,v3,v4⟩:=HV2.out.step J.out.bel;go_upto_region 32 with fail
 go_region_law ((go_simp;go_at_call 266;refine(ue p0.1 p1.1 p2.1 _ HTP.out).mono ?_;rintro e w2 ⟨k,n,t,rfl,ht,hk,hb⟩;replace hb:Below wa.heap.size wa w2:=hb.Io;replace J:=qD (J.out.step hb);have HT:=qD ht;have HK:=qD hk;clear hb ht hk;obtain⟨b0,b1,b2,b3,b4⟩:=aS.Ig J.out.b;simp only[Jw] at b0 b1 b2 b3 b4;have z:=J.out.b.frozen))
 all_goals
  go_wp2_with fail;exact Jz (aF rfl _ _ _ rfl _ (bG k n t) (aS.Ig (J.out.b.putV (bG k n t)))) rfl (J.out.leaf k n HT.out HK.out).a
theorem Fe{F:Nat->Prop}(e:dI)(ho:e.op=26\/e.op=30\/e.op=31)(ps:List PV)(A:Option Addr)(m c:Nat)(w:World)(hF:∀b,F b->b<w.heap.size)(hX:WX w e)(hs:fF F w A m c ps)(hq:1<=m):
 Calls prog 211 #[dL e,.slice A m c] w (dh F w):=by
 have HFH:=qD hF;have hm:m<=256:=hs.few;obtain⟨eb,eo,rfl,hlb,hel⟩:=hs.at (by omega);obtain⟨p0,-,hv0,hr0,ho0⟩:=hel 0 (by omega);rw[show eo+0*5=eo by omega] at hv0;have HV0:=qD hv0;have HR0:=qD hr0;have HO0:=qD ho0;have l0:(0:Int)<(m:Int):=by omega
 have k0:0<m:=by omega
 clear hel hv0 hr0 ho0;have HS:=qD hs;have B0:Hid (aG ((w.alloc (.cells (aN e) 35)).alloc (.cells VC.zero.arr 29)) w.heap.size 35 (aN e)):=(aG.Ii rfl).alloc _;have J0:Hid (eZ w (w.heap.size+1) ((w.alloc (.cells (aN e) 35)).alloc (.cells VC.zero.arr 29))):=⟨aG.Ii (by simp),by omega,((Ju _ _).alloc (qL) _).alloc (by simp) _⟩;clear hs hF;have HN:Hid (∀wr,Below w.heap.size w wr->Calls prog 267 #[.int .i64 e.op,p0.1.val] wr (dh F wr)):=qD fun wr hb=>xC e.op p0.2 p0.1 wr (fun b h=>by have:=HFH.out b h;have:=hb.size;omega) (HR0.out.step hb) HO0.out;rcases ho with ho|ho|ho
 all_goals
  rw[ho] at HN;go_enter Lh,La;go_upto_region 1 with fail
  change Code.wp _ _ _ _ ((w.alloc (.cells (aN e) 35)).alloc (.cells VC.zero.arr 29));generalize ((w.alloc (.cells (aN e) 35)).alloc (.cells VC.zero.arr 29))=wa at*;obtain⟨d0,d1,d2,d3,d9,d10⟩:=ag B0.out;rw[ho] at d0;have J:=J0;obtain⟨y0,y1,y2,y3,y4⟩:=HV0.out.step J.out.bel;go_upto_region 36 with fail
  go_region_law ((go_simp;go_at_call 267;refine(HN.out _ (J.out.bel.drewN 1)).mono ?_;rintro e w2 ⟨d,rfl,hr,hb⟩;replace hb:Below wa.heap.size wa w2:=hb.Io;replace hr:mv (fun b=>F b\/wa.heap.size<=b) w2 d:=hr;have HR:=qD (hr.mono (G:=fun b=>F b\/(w.heap.size<=b/\b≠w.heap.size+1)) fun b hb=>hb.imp id fun h=>⟨by have:=J.out.bel.size;omega,by have:=J.out.b.lt;omega⟩);replace J:=qD (J.out.step hb);clear hb hr;obtain⟨b0,b1,b2,b3,b4⟩:=aS.Ig J.out.b;simp only[Jw] at b0 b1 b2 b3 b4;have z:=J.out.b.frozen))
  all_goals
   go_wp2_with fail;exact Jz (aF rfl _ _ _ rfl _ d (aS.Ig (J.out.b.putV d))) rfl (J.out.JI HR.out HFH.out)
theorem Hu{F:Nat->Prop}(e:dI)(ho:e.op=27)(ps:List PV)(A:Option Addr)(m c:Nat)(w:World)(hF:∀b,F b->b<w.heap.size)(hX:WX w e)(hs:fF F w A m c ps)(hq:2<=m):
 Calls prog 211 #[dL e,.slice A m c] w (dh F w):=by
 have HFH:=qD hF;have hm:m<=256:=hs.few;obtain⟨eb,eo,rfl,hlb,hel⟩:=hs.at (by omega);obtain⟨p0,-,hv0,hr0,ho0⟩:=hel 0 (by omega);rw[show eo+0*5=eo by omega] at hv0;have HV0:=qD hv0;have HR0:=qD hr0;have HO0:=qD ho0;obtain⟨p1,-,hv1,hr1,ho1⟩:=hel 1 (by omega);rw[show eo+1*5=eo+5 by omega] at hv1;have HV1:=qD hv1;have HR1:=qD hr1;have HO1:=qD ho1;have l0:(0:Int)<(m:Int):=by omega
 have k0:0<m:=by omega
 have l1:(1:Int)<(m:Int):=by omega
 have k1:1<m:=by omega
 clear hel hv0 hr0 ho0 hv1 hr1 ho1;have HS:=qD hs;have B0:Hid (aG ((w.alloc (.cells (aN e) 35)).alloc (.cells VC.zero.arr 29)) w.heap.size 35 (aN e)):=(aG.Ii rfl).alloc _;have J0:Hid (eZ w (w.heap.size+1) ((w.alloc (.cells (aN e) 35)).alloc (.cells VC.zero.arr 29))):=⟨aG.Ii (by simp),by omega,((Ju _ _).alloc (qL) _).alloc (by simp) _⟩;clear hs hF;have HN:Hid (∀wr,Below w.heap.size w wr->Calls prog 268 #[p0.1.val,p1.1.val] wr (dh F wr)):=qD fun wr hb=>qT p0.2 p0.1 p1.1 wr (fun b h=>by have:=HFH.out b h;have:=hb.size;omega) (HR0.out.step hb) HO0.out;go_enter Lh,La;go_upto_region 1 with fail
 change Code.wp _ _ _ _ ((w.alloc (.cells (aN e) 35)).alloc (.cells VC.zero.arr 29));generalize ((w.alloc (.cells (aN e) 35)).alloc (.cells VC.zero.arr 29))=wa at*;obtain⟨d0,d1,d2,d3,d9,d10⟩:=ag B0.out;rw[ho] at d0;have J:=J0;obtain⟨y0,y1,y2,y3,y4⟩:=HV0.out.step J.out.bel;obtain⟨u0,u1,u2,u3,u4⟩:=HV1.out.step J.out.bel;go_upto_region 38 with fail
 go_region_law ((go_simp;go_at_call 268;refine(HN.out _ (J.out.bel.drewN 1)).mono ?_;rintro e w2 ⟨d,rfl,hr,hb⟩;replace hb:Below wa.heap.size wa w2:=hb.Io;replace hr:mv (fun b=>F b\/wa.heap.size<=b) w2 d:=hr;have HR:=qD (hr.mono (G:=fun b=>F b\/(w.heap.size<=b/\b≠w.heap.size+1)) fun b hb=>hb.imp id fun h=>⟨by have:=J.out.bel.size;omega,by have:=J.out.b.lt;omega⟩);replace J:=qD (J.out.step hb);clear hb hr;obtain⟨b0,b1,b2,b3,b4⟩:=aS.Ig J.out.b;simp only[Jw] at b0 b1 b2 b3 b4;have z:=J.out.b.frozen))
 all_goals
  go_wp2_with fail;exact Jz (aF rfl _ _ _ rfl _ d (aS.Ig (J.out.b.putV d))) rfl (J.out.JI HR.out HFH.out)
theorem Hv{F:Nat->Prop}(e:dI)(ho:e.op=28)(ps:List PV)(A:Option Addr)(m c:Nat)(w:World)(hF:∀b,F b->b<w.heap.size)(hX:WX w e)(hs:fF F w A m c ps)(hq:2<=m):
 Calls prog 211 #[dL e,.slice A m c] w (dh F w):=by
 have HFH:=qD hF;have hm:m<=256:=hs.few;obtain⟨eb,eo,rfl,hlb,hel⟩:=hs.at (by omega);obtain⟨p0,-,hv0,hr0,ho0⟩:=hel 0 (by omega);rw[show eo+0*5=eo by omega] at hv0;have HV0:=qD hv0;have HR0:=qD hr0;have HO0:=qD ho0;obtain⟨p1,-,hv1,hr1,ho1⟩:=hel 1 (by omega);rw[show eo+1*5=eo+5 by omega] at hv1;have HV1:=qD hv1;have HR1:=qD hr1;have HO1:=qD ho1;have l0:(0:Int)<(m:Int):=by omega
 have k0:0<m:=by omega
 have l1:(1:Int)<(m:Int):=by omega
 have k1:1<m:=by omega
 clear hel hv0 hr0 ho0 hv1 hr1 ho1;have HS:=qD hs;have B0:Hid (aG ((w.alloc (.cells (aN e) 35)).alloc (.cells VC.zero.arr 29)) w.heap.size 35 (aN e)):=(aG.Ii rfl).alloc _;have J0:Hid (eZ w (w.heap.size+1) ((w.alloc (.cells (aN e) 35)).alloc (.cells VC.zero.arr 29))):=⟨aG.Ii (by simp),by omega,((Ju _ _).alloc (qL) _).alloc (by simp) _⟩;clear hs hF;obtain⟨rs,hrs,hsl⟩:=RV.sl HR1.out;have HSL:=qD hsl;have hln:p1.1.ln<=1024:=by have:=HR1.out.open.ln;have:=HO1.out.len.2.1;omega
 have HLN:=qD hln;clear hsl hrs;have HN:Hid (∀wr,Below w.heap.size w wr->Calls prog 269 #[.slice p1.1.LA p1.1.ln p1.1.lc,p0.1.val] wr (am (fun _=>True) wr)):=qD fun wr hb=>pL p0.2 p0.1 _ _ _ rs wr (HSL.out.sr.step hb) (fun q hq=>((HSL.out.rv q hq).step hb).mono fun _ _=>trivial) ((HR0.out.step hb).mono fun _ _=>trivial) (by have:=HLN.out;omega);go_enter Lh,La;go_upto_region 1 with fail
 change Code.wp _ _ _ _ ((w.alloc (.cells (aN e) 35)).alloc (.cells VC.zero.arr 29));generalize ((w.alloc (.cells (aN e) 35)).alloc (.cells VC.zero.arr 29))=wa at*;obtain⟨d0,d1,d2,d3,d9,d10⟩:=ag B0.out;rw[ho] at d0;have J:=J0;obtain⟨y0,y1,y2,y3,y4⟩:=HV0.out.step J.out.bel;obtain⟨u0,u1,u2,u3,u4⟩:=HV1.out.step J.out.bel;cases h6:(p1.1.k != 6)
 ·go_upto_region 42 with fail
  go_region_law (first
   | (go_simp;go_at_call 269;refine(HN.out _ (J.out.bel.drewN 1)).mono ?_;rintro e w1 ⟨r,rfl,_,hb⟩;replace hb:Below wa.heap.size wa w1:=hb.Io;replace J:=qD (J.out.step hb);clear hb)
   | (go_simp;(go_at_call 262;refine(iD _ _).mono ?_;rintro e w2 ⟨k,n,t,rfl,ht,hk,hb⟩;replace J:=qD (J.out.step hb);have HT:=qD ht;have HK:=qD hk;clear hb ht hk;obtain⟨b0,b1,b2,b3,b4⟩:=aS.Ig J.out.b;simp only[Jw] at b0 b1 b2 b3 b4;have z:=J.out.b.frozen)))
  all_goals
   go_wp2_with fail;exact Jz (aF rfl _ _ _ rfl _ (bG k n t) (aS.Ig (J.out.b.putV (bG k n t)))) rfl (J.out.leaf k n HT.out HK.out).a
 ·go_wp2_with (go_at_call 34;refine(bm _).mono ?_;rintro e w2 ⟨k,n,t,rfl,ht,hk,hb⟩;replace J:=qD (J.out.step hb);have HT:=qD ht;have HK:=qD hk;clear hb ht hk;obtain⟨b0,b1,b2,b3,b4⟩:=aS.Ig J.out.b;simp only[Jw] at b0 b1 b2 b3 b4;have z:=J.out.b.frozen);exact Jz (aF rfl _ _ _ rfl _ (bG k n t) (aS.Ig (J.out.b.putV (bG k n t)))) rfl (J.out.leaf k n HT.out HK.out).a
theorem Ff{F:Nat->Prop}(e:dI)(ho:e.op=29)(ps:List PV)(A:Option Addr)(m c:Nat)(w:World)(hF:∀b,F b->b<w.heap.size)(hX:WX w e)(hs:fF F w A m c ps):
 Calls prog 211 #[dL e,.slice A m c] w (dh F w):=by
 have HFH:=qD hF;have hm:m<=256:=hs.few;have HS:=qD hs;have B0:Hid (aG ((w.alloc (.cells (aN e) 35)).alloc (.cells VC.zero.arr 29)) w.heap.size 35 (aN e)):=(aG.Ii rfl).alloc _;have J0:Hid (eZ w (w.heap.size+1) ((w.alloc (.cells (aN e) 35)).alloc (.cells VC.zero.arr 29))):=⟨aG.Ii (by simp),by omega,((Ju _ _).alloc (qL) _).alloc (by simp) _⟩;clear hs hF;have HN:Hid (∀wr,Below w.heap.size w wr->Calls prog 270 #[.slice A m c] wr (dh F wr)):=qD fun wr hb=>xD ps A m c wr (fun b h=>by have:=HFH.out b h;have:=hb.size;omega) (HS.out.step hb);go_enter Lh,La;go_upto_region 1 with fail
 change Code.wp _ _ _ _ ((w.alloc (.cells (aN e) 35)).alloc (.cells VC.zero.arr 29));generalize ((w.alloc (.cells (aN e) 35)).alloc (.cells VC.zero.arr 29))=wa at*;obtain⟨d0,d1,d2,d3,d9,d10⟩:=ag B0.out;rw[ho] at d0;have J:=J0;go_wp2_with (go_at_call 270;refine(HN.out _ J.out.bel).mono ?_;rintro e w2 ⟨d,rfl,hr,hb⟩;have HR:=qD (hr.mono (G:=fun b=>F b\/(w.heap.size<=b/\b≠w.heap.size+1)) fun b hb=>hb.imp id fun h=>⟨by have:=J.out.bel.size;omega,by have:=J.out.b.lt;omega⟩);replace J:=qD (J.out.step hb);clear hb hr;obtain⟨b0,b1,b2,b3,b4⟩:=aS.Ig J.out.b;simp only[Jw] at b0 b1 b2 b3 b4;have z:=J.out.b.frozen);exact Jz (aF rfl _ _ _ rfl _ d (aS.Ig (J.out.b.putV d))) rfl (J.out.JI HR.out HFH.out)
theorem EJ{F:Nat->Prop}(e:dI)(ho:e.op=37)(ps:List PV)(A:Option Addr)(m c:Nat)(w:World)(hF:∀b,F b->b<w.heap.size)(hX:WX w e)(hs:fF F w A m c ps):
 Calls prog 211 #[dL e,.slice A m c] w (dh F w):=by
 have HFH:=qD hF;have hm:m<=256:=hs.few;have HS:=qD hs;have B0:Hid (aG ((w.alloc (.cells (aN e) 35)).alloc (.cells VC.zero.arr 29)) w.heap.size 35 (aN e)):=(aG.Ii rfl).alloc _;have J0:Hid (eZ w (w.heap.size+1) ((w.alloc (.cells (aN e) 35)).alloc (.cells VC.zero.arr 29))):=⟨aG.Ii (by simp),by omega,((Ju _ _).alloc (qL) _).alloc (by simp) _⟩;clear hs hF;have HN:Hid (∀wr,Below w.heap.size w wr->Calls prog 271 #[.slice A m c] wr (dh F wr)):=qD fun wr hb=>uh ps A m c wr (fun b h=>by have:=HFH.out b h;have:=hb.size;omega) (HS.out.step hb);go_enter Lh,La;go_upto_region 1 with fail
 change Code.wp _ _ _ _ ((w.alloc (.cells (aN e) 35)).alloc (.cells VC.zero.arr 29));generalize ((w.alloc (.cells (aN e) 35)).alloc (.cells VC.zero.arr 29))=wa at*;obtain⟨d0,d1,d2,d3,d9,d10⟩:=ag B0.out;rw[ho] at d0;have J:=J0;go_wp2_with (go_at_call 271;refine(HN.out _ J.out.bel).mono ?_;rintro e w2 ⟨d,rfl,hr,hb⟩;have HR:=qD (hr.mono (G:=fun b=>F b\/(w.heap.size<=b/\b≠w.heap.size+1)) fun b hb=>hb.imp id fun h=>⟨by have:=J.out.bel.size;omega,by have:=J.out.b.lt;omega⟩);replace J:=qD (J.out.step hb);clear hb hr;obtain⟨b0,b1,b2,b3,b4⟩:=aS.Ig J.out.b;simp only[Jw] at b0 b1 b2 b3 b4;have z:=J.out.b.frozen);exact Jz (aF rfl _ _ _ rfl _ d (aS.Ig (J.out.b.putV d))) rfl (J.out.JI HR.out HFH.out)
theorem Fg{F:Nat->Prop}(e:dI)(ho:e.op=36)(ps:List PV)(A:Option Addr)(m c:Nat)(w:World)(hF:∀b,F b->b<w.heap.size)(hX:WX w e)(hs:fF F w A m c ps)(hq:1<=m):
 Calls prog 211 #[dL e,.slice A m c] w (dh F w):=by
 have HFH:=qD hF;have hm:m<=256:=hs.few;obtain⟨eb,eo,rfl,hlb,hel⟩:=hs.at (by omega);obtain⟨p0,-,hv0,hr0,ho0⟩:=hel 0 (by omega);rw[show eo+0*5=eo by omega] at hv0;have HV0:=qD hv0;have HR0:=qD hr0;have HO0:=qD ho0;have l0:(0:Int)<(m:Int):=by omega
 have k0:0<m:=by omega
 clear hel hv0 hr0 ho0;have HS:=qD hs;have B0:Hid (aG ((w.alloc (.cells (aN e) 35)).alloc (.cells VC.zero.arr 29)) w.heap.size 35 (aN e)):=(aG.Ii rfl).alloc _;have J0:Hid (eZ w (w.heap.size+1) ((w.alloc (.cells (aN e) 35)).alloc (.cells VC.zero.arr 29))):=⟨aG.Ii (by simp),by omega,((Ju _ _).alloc (qL) _).alloc (by simp) _⟩;clear hs hF;go_enter Lh,La;go_upto_region 1 with fail
 change Code.wp _ _ _ _ ((w.alloc (.cells (aN e) 35)).alloc (.cells VC.zero.arr 29));generalize ((w.alloc (.cells (aN e) 35)).alloc (.cells VC.zero.arr 29))=wa at*;obtain⟨d0,d1,d2,d3,d9,d10⟩:=ag B0.out;rw[ho] at d0;have J:=J0;obtain⟨y0,y1,y2,y3,y4⟩:=HV0.out.step J.out.bel;go_wp2_with (go_at_call 30;refine(fD _ _).mono ?_;rintro e w2 ⟨k,n,t,rfl,ht,hk,hb⟩;replace J:=qD (J.out.step hb);have HT:=qD ht;have HK:=qD hk;clear hb ht hk;obtain⟨b0,b1,b2,b3,b4⟩:=aS.Ig J.out.b;simp only[Jw] at b0 b1 b2 b3 b4;have z:=J.out.b.frozen);exact Jz (aF rfl _ _ _ rfl _ (bG k n t) (aS.Ig (J.out.b.putV (bG k n t)))) rfl (J.out.leaf k n HT.out HK.out).a
theorem Gg{F:Nat->Prop}(e:dI)(ho:9<=e.op/\e.op<=15)(ps:List PV)(A:Option Addr)(m c:Nat)(w:World)(hF:∀b,F b->b<w.heap.size)(hX:WX w e)(hs:fF F w A m c ps)(hq:2<=m):
 Calls prog 211 #[dL e,.slice A m c] w (dh F w):=by
 have HFH:=qD hF;have hm:m<=256:=hs.few;obtain⟨eb,eo,rfl,hlb,hel⟩:=hs.at (by omega);obtain⟨p0,-,hv0,hr0,ho0⟩:=hel 0 (by omega);rw[show eo+0*5=eo by omega] at hv0;have HV0:=qD hv0;have HR0:=qD hr0;have HO0:=qD ho0;obtain⟨p1,-,hv1,hr1,ho1⟩:=hel 1 (by omega);rw[show eo+1*5=eo+5 by omega] at hv1;have HV1:=qD hv1;have HR1:=qD hr1;have HO1:=qD ho1;have l0:(0:Int)<(m:Int):=by omega
 have k0:0<m:=by omega
 have l1:(1:Int)<(m:Int):=by omega
 have k1:1<m:=by omega
 clear hel hv0 hr0 ho0 hv1 hr1 ho1;have HS:=qD hs;have B0:Hid (aG ((w.alloc (.cells (aN e) 35)).alloc (.cells VC.zero.arr 29)) w.heap.size 35 (aN e)):=(aG.Ii rfl).alloc _;have J0:Hid (eZ w (w.heap.size+1) ((w.alloc (.cells (aN e) 35)).alloc (.cells VC.zero.arr 29))):=⟨aG.Ii (by simp),by omega,((Ju _ _).alloc (qL) _).alloc (by simp) _⟩;clear hs hF;have HN:Hid (∀wr,Below w.heap.size w wr->Calls prog 272 #[.int .i64 e.op,p0.1.val,p1.1.val] wr (fU wr)):=qD fun wr hb=>qR e.op p0.2 p1.2 p0.1 p1.1 wr ((HR0.out.step hb).mono fun _ _=>trivial) ((HR1.out.step hb).mono fun _ _=>trivial);rcases(show e.op=9\/e.op=10\/e.op=11\/e.op=12\/e.op=13\/e.op=14\/e.op=15 by omega) with h|h|h|h|h|h|h
 all_goals
  clear ho;have ho:=h;clear h;rw[ho] at HN;go_enter Lh,La;go_upto_region 1 with fail
  change Code.wp _ _ _ _ ((w.alloc (.cells (aN e) 35)).alloc (.cells VC.zero.arr 29));generalize ((w.alloc (.cells (aN e) 35)).alloc (.cells VC.zero.arr 29))=wa at*;obtain⟨d0,d1,d2,d3,d9,d10⟩:=ag B0.out;rw[ho] at d0;have J:=J0;obtain⟨y0,y1,y2,y3,y4⟩:=HV0.out.step J.out.bel;obtain⟨u0,u1,u2,u3,u4⟩:=HV1.out.step J.out.bel;go_upto_region 64 with fail
  go_region_law ((go_simp;go_at_call 272;refine(HN.out _ (J.out.bel.drewN 1)).mono ?_;rintro e w2 ⟨k,n,t,rfl,ht,hk,hb⟩;replace hb:Below wa.heap.size wa w2:=hb.Io;replace J:=qD (J.out.step hb);have HT:=qD ht;have HK:=qD hk;clear hb ht hk;obtain⟨b0,b1,b2,b3,b4⟩:=aS.Ig J.out.b;simp only[Jw] at b0 b1 b2 b3 b4;have z:=J.out.b.frozen))
  all_goals
   go_wp2_with fail;exact Jz (aF rfl _ _ _ rfl _ (bG k n t) (aS.Ig (J.out.b.putV (bG k n t)))) rfl (J.out.leaf k n HT.out HK.out).a
theorem CQ{F:Nat->Prop}(e:dI)(ho:e.op=35)(ps:List PV)(A:Option Addr)(m c:Nat)(w:World)(hF:∀b,F b->b<w.heap.size)(hX:WX w e)(hs:fF F w A m c ps):
 Calls prog 211 #[dL e,.slice A m c] w (dh F w):=by
 have HFH:=qD hF;have hm:m<=256:=hs.few;have HS:=qD hs;have B0:Hid (aG ((w.alloc (.cells (aN e) 35)).alloc (.cells VC.zero.arr 29)) w.heap.size 35 (aN e)):=(aG.Ii rfl).alloc _;have J0:Hid (eZ w (w.heap.size+1) ((w.alloc (.cells (aN e) 35)).alloc (.cells VC.zero.arr 29))):=⟨aG.Ii (by simp),by omega,((Ju _ _).alloc (qL) _).alloc (by simp) _⟩;clear hs hF;obtain⟨i0,hi0,hz0,hz1,hz2⟩:=LM dC;have HN:Hid (∀(x:aC) (u:VC) (wr:World),Below w.heap.size w wr->RV F wr u x->Calls prog 258 #[u.val] wr (dh F wr)):=qD fun x u wr hb hr=>pN x u wr (fun b h=>by have:=HFH.out b h;have:=hb.size;omega) hr;go_enter Lh,La;go_upto_region 1 with fail
 change Code.wp _ _ _ _ ((w.alloc (.cells (aN e) 35)).alloc (.cells VC.zero.arr 29));generalize ((w.alloc (.cells (aN e) 35)).alloc (.cells VC.zero.arr 29))=wa at*;obtain⟨d0,d1,d2,d3,d9,d10⟩:=ag B0.out;rw[ho] at d0;have J:=J0;go_upto_region 56 with fail
 have I0:Hid (eC F w (w.heap.size+1) wa.heap.size (wa.heap.size+1) none 0 0 [] (wa.alloc (.cells #[.int .i64 6,.int .i64 0,.string empty,.slice none 0 0,.slice none 0 0] 29))):=qD (eC.start J.out fun b hb=>by have:=HFH.out b hb;have:=J.out.bel.size;exact⟨by omega,by omega⟩);change Code.wp _ _ _ _ (wa.alloc (.cells #[.int .i64 6,.int .i64 0,.string empty,.slice none 0 0,.slice none 0 0] 29));generalize wa.alloc (.cells #[.int .i64 6,.int .i64 0,.string empty,.slice none 0 0,.slice none 0 0] 29)=wb at*;generalize wa.heap.size=go at*;clear d0 d1 d2 d3 d9 d10 J J0 B0
 go_loopw [8] (fun v wr=>∃(i:Nat) (A4:Option Addr) (cap:Nat) (qs:List PV),i<=m/\v=.int .i64 i/\eC F w (w.heap.size+1) go (go+1) A4 i cap qs wr) (fun v _=>m-(intOf v).toNat)
 ·exact⟨0,none,0,[],KD _,rfl,I0.out⟩
 case round=>
  obtain⟨i,A4,cap,qs,hi,rfl,hI⟩:=hrel;have I:=qD hI;clear I0 hI;by_cases hlt:i<m
  ·obtain⟨b,off,rfl,hlb,hel⟩:=HS.out.at (by omega);obtain⟨p,-,hva,hrv,hoo⟩:=hel i hlt;have HRV:=qD (hrv.step I.out.r.bel);obtain⟨y0,y1,y2,y3,y4⟩:=hva.step I.out.r.bel;have q3:=I.out.o.cell 3;simp at q3;have i1:(0:Int)<=(i:Int):=by omega
   have i2:(i:Int)<(m:Int):=by omega
   have hs:(Value.slice A4 i cap).ownBlock≠some go:=gL I.out.own (by omega);clear hel hva hrv hoo;go_upto_region 58 with fail
   go_region_law (first
    | (refine bW _ rfl (.tmp 193) (.tmp 199) 26 rfl (go+1) 29 i0 VC.zero.val 5 80 Kv hi0 hz0 hz1 hz2 rfl (by decide) (.slice A4 i cap) i (aO bC qs) (by simp[Act.eval]) (I3.out.own.alloc _) (w3.heap.size+1) (some ⟨w3.heap.size,0,none⟩) 1 1 (bC (d3,x3)) (by simp[Act.eval]) ⟨rfl,fun _=>⟨_,rfl,by simp,ao _ _ _⟩⟩ (cG _) (by simp only[maxLen];omega) (by omega) (by simp;have:=I3.out.bs;omega) ?_;intro v' w4 hown4 hgr hat;obtain⟨A5,cap5,hv5,hle5⟩:=cK hown4;rw[hv5];have f2:w4.cell? ⟨go,3,none⟩=some (.slice A4 i cap):=jM hgr (((I3.out.o.alloc _).cell 3).trans rfl) hs;have z2:w4.frozen? ⟨go,3,none⟩=false:=(fh hgr (I3.out.o.alloc _).lt hs).trans ((I3.out.o.alloc _).frozen 3))
    | (go_simp;go_at_call 258;refine(HN.out p.2 p.1 _ (I.out.r.bel.drewN 1) (HRV.out.drewN 1)).mono ?_;rintro e3 w3 ⟨d3,rfl,hr3,hb3⟩;replace hb3:Below wr.heap.size wr w3:=hb3.Io;replace hr3:mv (fun b=>F b\/wr.heap.size<=b) w3 d3:=hr3;obtain⟨x3,hx3,-⟩:=hr3;have I3:=qD (I.out.step hb3);have HX3:Hid (RV (fun b=>(F b\/go+1<=b)/\(Value.slice A4 i cap).ownBlock≠some b) w3 d3 x3):=qD (hx3.mono fun b hb=>⟨hb.imp id fun h=>by have:=I.out.bs;omega,fun e=>by have h1:=fH I.out.own e;have h2:=bF I.out.own b e;rcases hb with hb|hb;(have h3:=(I.out.hF b hb).1;omega);omega⟩);clear hb3 hx3;have s3:=I3.out.o.cell 3;simp at s3;have hgo:go<w3.heap.size:=I3.out.bs))
   all_goals
    have HI:=qD (I3.out.put ((Ju w3.heap.size w3).alloc (qL) _) HX3.out hgr (by rw[<-hv5];exact hat) (by rw[<-hv5];exact hown4));clear f2 z2 hgr hat hown4 hv5 hs q3 s3 hgo y0 y1 y2 y3 y4 I I3 HX3;generalize w4.setCell ⟨go,3,none⟩ (.slice A5 (i+1) cap5)=w5 at*;go_wp2_with fail;go_roundw
    ·exact⟨i+1,A5,cap5,_,by omega,by go_num,HI.out⟩
    ·simp[intOf];omega
  ·obtain rfl:i=m:=by omega
   have J:=qD I.out.r;obtain⟨o0,o1,o2,o3,o4⟩:=aS.Ig I.out.o;simp only[Jw] at o0 o1 o2 o3 o4;obtain⟨b0,b1,b2,b3,b4⟩:=aS.Ig J.out.b;simp only[Jw] at b0 b1 b2 b3 b4;have z:=J.out.b.frozen;go_wp2_with fail;exact Jz (aF rfl _ _ _ rfl _ ⟨6,0,empty,A4,i,cap,none,0,0⟩ (aS.Ig (J.out.b.putV ⟨6,0,empty,A4,i,cap,none,0,0⟩))) rfl (I.out.done (by unfold aH;omega) (fun b hb=>.inl hb))
end
structure it(F:Nat->Prop)(w:World)(g go base:Nat)(A:Option Addr)(m cap:Nat)(ps:List PF)(wr:World):Prop where
 r:eZ w g wr
 o:aG wr go 29 (VC.arr ⟨5,0,empty,none,0,0,A,m,cap⟩)
 g1:g<base
 g2:go<base
 ne:g≠go
 lo:w.heap.size<=go
 bs:base<=wr.heap.size
 own:wr.ownsRow base 77 6 (.slice A m cap) m (aO cX ps)
 ln:ps.length=m
 el:∀p∈ps,RV (fun b=>(F b\/base<=b)/\(Value.slice A m cap).ownBlock≠some b) wr p.1 p.2.v
 ns:∀p∈ps,p.2.s.size<=aH
 hF:∀b,F b->b<base/\b≠g/\b≠go
section
variable {b c g n m q cap base size:Nat} {op x:Int} {s:ByteArray} {w w' wr w3 w4 wq:World} {A A':Option Addr} {F:Nat -> Prop} {e:TypeId} {cs:Array Value} {v:Value}
section
variable {F F':Nat->Prop} {w wr w3 w4 w':World} {g go base m m2 cap cap':Nat} {A A':Option Addr} {ps qs:List PF}
theorem it.step(h:it F w g go base A m cap ps wr)(hb:Below wr.heap.size wr w'):it F w g go base A m cap ps w':=
 ⟨h.r.step hb,h.o.step hb,h.g1,h.g2,h.ne,h.lo,KM h.bs hb.size,bJ h.own hb,h.ln,fun p hp=>(h.el p hp).step hb,h.ns,h.hF⟩
theorem it.old(h:it F w g go base A m cap ps wr){c:VC}{x:aC}(hx:RV F wr c x):RV (fun b=>(F b\/base<=b)/\(Value.slice A m cap).ownBlock≠some b) wr c x:=
 hx.mono fun b hb=>⟨.inl hb,fun e=>by have:=bF h.own b e;have:=(h.hF b hb).1;omega⟩
theorem it.next(h:it F w g go base A m cap ps w3)(hns:∀q∈qs,q.2.s.size<=aH)(hq:∀q∈qs,RV (fun b=>(F b\/base<=b)/\(Value.slice A m cap).ownBlock≠some b) w3 q.1 q.2.v)(hl:qs.length=m2)(hg:w3.grownBy w4 (Value.slice A m cap).ownBlock)(hat:(Value.slice A' (m+m2) cap').ownBlock=(Value.slice A m cap).ownBlock\/(Value.slice A' (m+m2) cap').ownBlock=some w3.heap.size)(hown:w4.ownsRow base 77 6 (.slice A' (m+m2) cap') (m+m2) (aO cX ps++aO cX qs)):
 it F w g go base A' (m+m2) cap' (ps++qs) (w4.setCell ⟨go,4,none⟩ (.slice A' (m+m2) cap')):=by
 have hne:∀b,b<base->some b≠(Value.slice A m cap).ownBlock:=fun b hb e=>by have:=bF h.own b e.symm;omega
 have bl:∀{b:Nat} {cs:Array Value},aG w3 b 29 cs->b<base->aG w4 b 29 cs:=fun hb hlt=>(hg.block _ hb.lt (hne _ hlt)).trans hb;have g2:=h.g2;have lo:=h.lo;have h4:Below w.heap.size w w4:=h.r.bel.grown hg h.r.bel.size (fun k hk=>by have:=bF h.own k hk;omega);refine⟨⟨(bl h.r.b h.g1).Ip h.ne _,h.r.lo,h4.setCell lo _⟩,(bl h.o h.g2).Ij 4 _,h.g1,h.g2,h.ne,h.lo,?_,?_,?_,fun p hp=>?_,fun p hp=>(KI.1 hp).elim (h.ns p) (hns p),h.hF⟩
 ·have:=hg.size;have:=h.bs;simp[World.setCell];omega
 ·rw[di];exact gw hown fun k hk=>Ku _ _ _ _ (by have:=bF hown k hk;show k≠go;omega)
 ·rw[KV,h.ln,hl]
 ·have hr:RV (fun b=>(F b\/base<=b)/\(Value.slice A' (m+m2) cap').ownBlock≠some b) w4 p.1 p.2.v:=by
   rcases KI.1 hp with hp|hp
   ·exact ir (h.el p hp) hg hat
   ·exact ir (hq p hp) hg hat
  exact hr.Il fun b hb _=>⟨hb,Ku _ _ _ _ (by
   show b≠go
   rcases hb.1 with k|k
   ·exact(h.hF b k).2.2
   ·omega)⟩
theorem it.done(h:it F w g go base A m cap ps wr)(hz:m*96<=aH)(hG:∀b,F b->F' b\/w.heap.size<=b):
 dh F' w (.returned (VC.val ⟨5,0,empty,none,0,0,A,m,cap⟩)) (bH wr g 0 ⟨5,0,empty,none,0,0,A,m,cap⟩):=by
 obtain⟨A',c',e,hs⟩:=SD.Ik (F:=fun b=>F b\/base<=b) h.own h.ln hz (fun _ hb=>.inr hb) h.ns (fun p hp=>(h.el p hp).mono fun b hb=>hb.1);cases e;have hr:=RV.Iw (k:=5) (m:=0) (t:=empty) (by decide) SL.none hs;have g1:=h.g1;have lo:=h.lo;have g2:=h.g2;refine⟨_,rfl,⟨_,hr.Il fun b hb _=>⟨?_,bO ?_⟩,fun h0=>absurd h0 (by simp[aC.k])⟩,af h.r.bel h.r.lo 0 _⟩
 ·rcases hb with k|k
  ·exact hG b k
  ·exact .inr (by omega)
 ·rcases hb with k|k
  ·exact(h.hF b k).2.1
  ·omega
theorem it.start(h:eZ w g wr)(hF:∀b,F b->b<wr.heap.size/\b≠g):it F w g wr.heap.size (wr.heap.size+1) none 0 0 [] (wr.alloc (.cells #[.int .i64 5,.int .i64 0,.string empty,.slice none 0 0,.slice none 0 0] 29)):=
 ⟨h.step ((Ju _ _).alloc (qL) _),aG.Ii rfl,by have:=h.b.lt;omega,by omega,by have:=h.b.lt;omega,h.bel.size,by simp,bX _ _ _ _,rfl,by simp,by simp,fun b hb=>⟨by have:=(hF b hb).1;omega,(hF b hb).2,by have:=(hF b hb).1;omega⟩⟩
theorem it.keep(h:it F w g go base A m cap ps w3)(hg:w3.grownBy w4 (Value.slice A m cap).ownBlock){b:Nat}{T:TypeId}{cs:Array Value}(hb:aG w3 b T cs)(hlt:b<base)(hne:b≠go)(u:Value):aG (w4.setCell ⟨go,4,none⟩ u) b T cs:=
 aG.Ip (p:=⟨go,4,none⟩) ((hg.block _ hb.lt (fun e=>by have:=bF h.own b e.symm;omega)).trans hb) hne _
theorem it.put(h:it F w g go base A m cap ps w3){wq:World}(hwq:Below w3.heap.size w3 wq){p:PF}(hns:p.2.s.size<=aH)(hp:RV (fun b=>(F b\/base<=b)/\(Value.slice A m cap).ownBlock≠some b) w3 p.1 p.2.v)(hg:wq.grownBy w4 (Value.slice A m cap).ownBlock)(hat:(Value.slice A' (m+1) cap').ownBlock=(Value.slice A m cap).ownBlock\/(Value.slice A' (m+1) cap').ownBlock=some wq.heap.size)(hown:w4.ownsRow base 77 6 (.slice A' (m+1) cap') (m+1) (aO cX ps++cX p)):
 it F w g go base A' (m+1) cap' (ps++[p]) (w4.setCell ⟨go,4,none⟩ (.slice A' (m+1) cap')):=
 (h.step hwq).next (qs:=[p]) (fun q hq=>by rw[Kf.1 hq];exact hns) (fun q hq=>by rw[Kf.1 hq];exact hp.step hwq) rfl hg hat (by simpa[aO] using hown)
end
theorem EK{F:Nat->Prop}(e:dI)(ho:e.op=34)(ps:List PV)(A:Option Addr)(m c:Nat)(w:World)(hF:∀b,F b->b<w.heap.size)(hX:WX w e)(hs:fF F w A m c ps)(hmn:m=e.names.n):
 Calls prog 211 #[dL e,.slice A m c] w (dh F w):=by
 have HFH:=qD hF;have hm:m<=256:=hs.few;have HS:=qD hs;have B0:Hid (aG ((w.alloc (.cells (aN e) 35)).alloc (.cells VC.zero.arr 29)) w.heap.size 35 (aN e)):=(aG.Ii rfl).alloc _;have J0:Hid (eZ w (w.heap.size+1) ((w.alloc (.cells (aN e) 35)).alloc (.cells VC.zero.arr 29))):=⟨aG.Ii (by simp),by omega,((Ju _ _).alloc (qL) _).alloc (by simp) _⟩;clear hs hF;obtain⟨i0,hi0,hz0,hz1,hz2⟩:=LM lO;have HNM:=qD hX.open.names;have HMN:=qD hmn;clear hmn;go_enter Lh,La;go_upto_region 1 with fail
 change Code.wp _ _ _ _ ((w.alloc (.cells (aN e) 35)).alloc (.cells VC.zero.arr 29));generalize ((w.alloc (.cells (aN e) 35)).alloc (.cells VC.zero.arr 29))=wa at*;obtain⟨d0,d1,d2,d3,d9,d10⟩:=ag B0.out;rw[ho] at d0;have J:=J0;go_upto_region 48 with fail
 have I0:Hid (it F w (w.heap.size+1) wa.heap.size (wa.heap.size+1) none 0 0 [] (wa.alloc (.cells #[.int .i64 5,.int .i64 0,.string empty,.slice none 0 0,.slice none 0 0] 29))):=qD (it.start J.out fun b hb=>by have:=HFH.out b hb;have:=J.out.bel.size;exact⟨by omega,by omega⟩);have D0:=qD (B0.out.alloc (.cells #[.int .i64 5,.int .i64 0,.string empty,.slice none 0 0,.slice none 0 0] 29));change Code.wp _ _ _ _ (wa.alloc (.cells #[.int .i64 5,.int .i64 0,.string empty,.slice none 0 0,.slice none 0 0] 29));generalize wa.alloc (.cells #[.int .i64 5,.int .i64 0,.string empty,.slice none 0 0,.slice none 0 0] 29)=wb at*;have hgw:w.heap.size+1<wa.heap.size:=J.out.b.lt;generalize wa.heap.size=go at*;clear d0 d1 d2 d3 d9 d10 J J0 B0 hX
 go_loopw [6] (fun v wr=>∃(i M:Nat) (A4:Option Addr) (cap:Nat) (qs:List PF),i<=m/\M<=i/\v=.int .i64 i/\aG wr w.heap.size 35 (aN e)/\it F w (w.heap.size+1) go (go+1) A4 M cap qs wr) (fun v _=>m-(intOf v).toNat)
 ·exact⟨0,0,none,0,[],KD _,qL,rfl,D0.out,I0.out⟩
 case round=>
  obtain⟨i,M,A4,cap,qs,hi,hMi,rfl,hD,hI⟩:=hrel;have D:=qD hD;have I:=qD hI;clear I0 hI D0 hD;by_cases hlt:i<m
  ·obtain⟨b,off,rfl,hlb,hel⟩:=HS.out.at (by omega);obtain⟨p,-,hva,hrv,hoo⟩:=hel i hlt;have HRV:=qD (hrv.step I.out.r.bel);obtain⟨y0,y1,y2,y3,y4⟩:=hva.step I.out.r.bel;have i1:(0:Int)<=(i:Int):=by omega
   have i2:(i:Int)<(m:Int):=by omega
   clear hel hva hrv hoo;cases hz:(p.1.k != 0)
   ·go_wp2_with fail;go_roundw
    ·exact⟨i+1,M,A4,cap,qs,by omega,by omega,by go_num,D.out,I.out⟩
    ·simp[intOf];omega
   ·obtain⟨nb,no,s,hNA,hnb,hnx,hnc⟩:=HNM.out.sr.JH (i:=i) (by have:=HMN.out;omega);have HNS:=qD (HNM.out.el s (Jx hnx));obtain⟨d0,d1,d2,d3,d9,d10⟩:=ag D.out;rw[hNA,<-HMN.out] at d3;have x0:=(I.out.r.bel.cell (p:=⟨nb,no+i,none⟩) hnb).trans hnc;have q3:=I.out.o.cell 4;simp at q3;have hs:(Value.slice A4 M cap).ownBlock≠some go:=gL I.out.own (by omega);have hbs:=I.out.bs;have hgo:go<wr.heap.size:=by omega
    clear hnx hnc hNA;go_upto_region 51 with fail
    go_region_law (refine bW _ rfl (.tmp 168) (.tmp 179) 27 rfl (go+1) 77 i0 (.agg (#[.string empty]++VC.zero.arr)) 6 96 ME hi0 hz0 hz1 hz2 rfl (by decide) (.slice A4 M cap) M (aO cX qs) (by simp[Act.eval]) ((I.out.own.alloc _).drew) (wr.heap.size+1) (some ⟨wr.heap.size,0,none⟩) 1 1 (cX (p.1,.mk s p.2)) (by simp[Act.eval]) ⟨rfl,fun _=>⟨_,rfl,by simp,ao _ _ _⟩⟩ (iZ _) (by simp only[maxLen];omega) (by omega) (by simp;omega) ?_;intro v' w4 hown4 hgr hat;obtain⟨A5,cap5,hv5,hle5⟩:=cK hown4;rw[hv5];have f2:w4.cell? ⟨go,4,none⟩=some (.slice A4 M cap):=jM hgr (((I.out.o.alloc _).drew.cell 4).trans rfl) hs;have z2:w4.frozen? ⟨go,4,none⟩=false:=(fh hgr (I.out.o.alloc _).drew.lt hs).trans ((I.out.o.alloc _).drew.frozen 4))
    all_goals
     have HI:=qD (I.out.put (p:=(p.1,.mk s p.2)) (((Ju wr.heap.size wr).alloc (qL) _).drew) HNS.out (I.out.old HRV.out) hgr (by rw[<-hv5];exact hat) (by rw[<-hv5];exact hown4));have HD:=qD ((I.out.step (((Ju wr.heap.size wr).alloc (qL) _).drew)).keep hgr ((D.out.alloc _).drew) (by have:=I.out.g1;omega) (by omega) (.slice A5 (M+1) cap5));clear f2 z2 hgr hat hown4 hv5 hs q3 y0 y1 y2 y3 y4 I D d0 d1 d2 d3 d9 d10 x0;generalize w4.setCell ⟨go,4,none⟩ (.slice A5 (M+1) cap5)=w5 at*;go_wp2_with fail;go_roundw
     ·exact⟨i+1,M+1,A5,cap5,_,by omega,by omega,by go_num,HD.out,HI.out⟩
     ·simp[intOf];omega
  ·obtain rfl:i=m:=by omega
   have J:=qD I.out.r;obtain⟨o0,o1,o2,o3,o4⟩:=aS.Ig I.out.o;simp only[Jw] at o0 o1 o2 o3 o4;obtain⟨b0,b1,b2,b3,b4⟩:=aS.Ig J.out.b;simp only[Jw] at b0 b1 b2 b3 b4;have z:=J.out.b.frozen;go_wp2_with fail;exact Jz (aF rfl _ _ _ rfl _ ⟨5,0,empty,none,0,0,A4,M,cap⟩ (aS.Ig (J.out.b.putV ⟨5,0,empty,none,0,0,A4,M,cap⟩))) rfl (I.out.done (by unfold aH;omega) (fun b hb=>.inl hb))
end
end Go.Proofs.YtgfoliedmhgpnaaGreatDoor
