/- A part of the proof. -/
import Derived.Test.YtgfoliedmhgpnaaGreatDoorBn24
import Derived.DeepKeys
import Derived.Laws.StructEq
import Derived.Deep.Quiet
set_option maxRecDepth 100000
set_option maxHeartbeats 16000000
set_option linter.unusedSimpArgs false
open Go.Proofs.Tryz
open ByteArray (empty)
namespace Go.Proofs.YtgfoliedmhgpnaaGreatDoor
open Go.RowKit
section
variable {l xs:List ByteArray} {b c k i g n m lo size:Nat} {op a x y d:Int} {s:ByteArray} {w w':World} {A:Option Addr} {e t:TypeId}
def iu(x z:aC):Bool:=aY z x==0||(x.k==2&&z.k==0)
theorem gC{α:Type}{f:α->Bool}{l:List α}{i:Nat}{a:α}(h:l[i]?=some a):(l.take (i+1)).any f=((l.take i).any f||f a):=by
 rw[Le,h,Om];simp
theorem jN{α:Type}{f:α->Bool}{l:List α}{i:Nat}{a:α}(h:l[i]?=some a)(hf:f a=true):l.any f=true:=LW.2 ⟨a,Jx h,hf⟩
theorem kM(ps:List PV)(x:aC)(d:VC)(A:Option Addr)(m c:Nat)(w:World)(hs:SR 5 bC w A m c ps)(hr:∀p∈ps,RW w p.1 p.2)(hx:RW w d x)(hm:m<=68719476736):
 Calls prog 99 #[.slice A m c,d.val] w fun e w'=>e=.returned (.bool (ps.any fun p=>iu x p.2))/\Below w.heap.size w w':=by
 have HS:=qD hs;have HR:=qD hr;have HX:=qD hx;have HXK:Hid (d.k=x.k):=qD hx.open.k;have BE:Hid (Below w.heap.size w (w.alloc (.cells d.arr 29))):=(Ju _ _).alloc (qL) _;have B0:Hid (aG (w.alloc (.cells d.arr 29)) w.heap.size 29 d.arr):=aG.Ii rfl;clear hs hr hx;go_enter func99,ntmps99;go_upto_region 1 with fail
 change Code.wp _ _ _ _ (w.alloc (.cells d.arr 29));generalize w.alloc (.cells d.arr 29)=wa at*;go_upto_region 2 with fail
 go_loopw [5] (fun v wr=>∃i:Nat,i<=m/\v=.int .i64 i/\(ps.take i).any (fun p=>iu x p.2)=false/\Below wa.heap.size wa wr) (fun v _=>m-(intOf v).toNat)
 ·exact⟨0,KD _,rfl,by simp,Ju _ _⟩
 case round=>
  obtain⟨i,hi,rfl,ha,hb⟩:=hrel;have HA:=qD ha;have HB:=qD hb;have D0:=qD (B0.out.step hb);have HE:=qD (BE.out.Ih hb);clear ha hb;by_cases hlt:i<m
  ·obtain⟨p,hp⟩:∃p,ps[i]?=some p:=⟨_,Jv (by have:=HS.out.ln;omega)⟩;have HP:=qD hp;obtain⟨eb,eo,rfl,hlb,hva⟩:=(HS.out.step HE.out).Iq hp;have HPK:Hid (p.1.k=p.2.k):=qD ((HR.out p (Jx hp)).open.k);obtain⟨a0,a1,a2,a3,a4⟩:=hva.bw;obtain⟨b0,b1,b2,b3,b4⟩:=(aS.Ig D0.out).bw;simp only[Jw] at b0 b1 b2 b3 b4;obtain⟨z1,hz1⟩:∃z,(aY p.2 x==0)=z:=⟨_,rfl⟩;obtain⟨z2,hz2⟩:∃z,(d.k==2)=z:=⟨_,rfl⟩;obtain⟨z3,hz3⟩:∃z,(p.1.k==0)=z:=⟨_,rfl⟩
   have K1:Hid (∀kk:BW wr,Calls prog 155 #[p.1.val,d.val] kk.val fun e w''=>e=.returned (.bool z1)/\∃kk:BW wr,w''=kk.val):=fun kk=>by
    rw[<-hz1];exact Calls.bw (rP _ _ _ _ _ ((HR.out p (Jx HP.out)).step (HE.out.Ih kk.below)) (HX.out.step (HE.out.Ih kk.below)))
   have HQ:Hid (iu x p.2=(z1||(z2&&z3))):=qD (by rw[iu,hz1,<-HXK.out,hz2,<-HPK.out,hz3]);have HZ1:=qD hz1;have i0:(0:Int)<=(i:Int):=by omega
   have i1:(i:Int)<(m:Int):=by omega
   clear hva hp hz1;go_upto_region 4 with fail
   rcases(show z1=true\/(z1=false/\z2=false)\/(z1=false/\z2=true/\z3=false)\/(z1=false/\z2=true/\z3=true) by clear hz2 hz3 HZ1 HQ K1;revert z1 z2 z3;decide) with rfl|⟨rfl,rfl⟩|⟨rfl,rfl,rfl⟩|⟨rfl,rfl,rfl⟩
   all_goals
    refine aM (by kernel_rfl) (by kernel_rfl) ?_
    repeat(go_big_quiet_step ((go_at_call 155;with_reducible exact K1.out _)))
    refine Kd ?_;rintro _ ⟨kw,rfl⟩;have HK:=qD kw.below;generalize kw.val=w5 at*;clear a0 a1 a2 a3 a4 b0 b1 b2 b3 b4 K1;go_wp2_with fail
    first
     | (go_ret;exact⟨by rw[jN (f:=fun p=>iu x p.2) HP.out (by rw[HQ.out];rfl)];rfl,HE.out.Ih HK.out⟩)
     | (go_roundw
        ·exact⟨i+1,by omega,by go_num,by rw[gC HP.out,HA.out,HQ.out];rfl,HB.out.Ih HK.out⟩
        ·simp[intOf];omega)
  ·have HF:Hid ((ps.any fun p=>iu x p.2)=false):=qD (by
    rw[<-KL (l:=ps) (i:=i) (by have:=HS.out.ln;omega)]
    exact HA.out)
   go_wp2_with fail;go_ret;exact⟨by rw[HF.out];rfl,HE.out⟩
def fS(op c:Int):Bool:=if op=4 then decide (0<c) else if op=5 then decide (0<=c) else if op=6 then decide (c<0) else decide (c<=0)
def gD(op:Int)(x z:aC):Bool:=z.k==x.k&&fS op (aY z x)
theorem qV(ps:List PV)(op:Int)(x:aC)(d:VC)(A:Option Addr)(m c:Nat)(w:World)(hs:SR 5 bC w A m c ps)(hr:∀p∈ps,RW w p.1 p.2)(hx:RW w d x)(hm:m<=68719476736)(ho:op=4\/op=5\/op=6\/op=7):
 Calls prog 101 #[.slice A m c,.int .i64 op,d.val] w fun e w'=>e=.returned (.bool (ps.any fun p=>gD op x p.2))/\Below w.heap.size w w':=by
 have HS:=qD hs;have HR:=qD hr;have HX:=qD hx;have HXK:Hid (d.k=x.k):=qD hx.open.k;have HO:=qD ho;have BE:Hid (Below w.heap.size w (w.alloc (.cells d.arr 29))):=(Ju _ _).alloc (qL) _;have B0:Hid (aG (w.alloc (.cells d.arr 29)) w.heap.size 29 d.arr):=aG.Ii rfl;clear hs hr hx ho;go_enter func101,ntmps101;go_upto_region 1 with fail
 change Code.wp _ _ _ _ (w.alloc (.cells d.arr 29));generalize w.alloc (.cells d.arr 29)=wa at*;go_upto_region 2 with fail
 go_loopw [7,8] (fun v _ wr=>∃i:Nat,i<=m/\v=.int .i64 i/\(ps.take i).any (fun p=>gD op x p.2)=false/\Below wa.heap.size wa wr) (fun v _ _=>m-(intOf v).toNat)
 ·exact⟨0,KD _,rfl,by simp,Ju _ _⟩
 case round=>
  obtain⟨i,hi,rfl,ha,hb⟩:=hrel;have HA:=qD ha;have HB:=qD hb;have D0:=qD (B0.out.step hb);have HE:=qD (BE.out.Ih hb);clear ha hb;by_cases hlt:i<m
  ·obtain⟨p,hp⟩:∃p,ps[i]?=some p:=⟨_,Jv (by have:=HS.out.ln;omega)⟩;have HP:=qD hp;obtain⟨eb,eo,rfl,hlb,hva⟩:=(HS.out.step HE.out).Iq hp;have HVA:=qD hva;have HLB:=qD hlb;have HPK:Hid (p.1.k=p.2.k):=qD ((HR.out p (Jx hp)).open.k);obtain⟨a0,a1,a2,a3,a4⟩:=hva.bw;obtain⟨b0,b1,b2,b3,b4⟩:=(aS.Ig D0.out).bw;simp only[Jw] at b0 b1 b2 b3 b4;obtain⟨c1,hc1⟩:∃z,aY p.2 x=z:=⟨_,rfl⟩;obtain⟨z2,hz2⟩:∃z,(p.1.k==d.k)=z:=⟨_,rfl⟩
   have K1:Hid (∀kk:BW wr,Calls prog 156 #[p.1.val,d.val] kk.val fun e w''=>e=.returned (.int .i64 c1)/\∃kk:BW wr,w''=kk.val):=fun kk=>by
    rw[<-hc1];exact Calls.bw (ib _ _ _ _ _ ((HR.out p (Jx HP.out)).step (HE.out.Ih kk.below)) (HX.out.step (HE.out.Ih kk.below)))
   have HQ:Hid (gD op x p.2=(z2&&fS op c1)):=qD (by rw[gD,hc1,<-HXK.out,<-HPK.out,hz2]);have HZ2:=qD hz2;have i0:(0:Int)<=(i:Int):=by omega
   have i1:(i:Int)<(m:Int):=by omega
   clear hva hp hc1 hz2;go_upto_region 4 with fail
   refine aM (by kernel_rfl) (by kernel_rfl) ?_
   repeat(go_big_quiet_step ((go_at_call 156;with_reducible exact K1.out _)))
   refine Kd ?_;rintro _ ⟨kw,rfl⟩;have HK:=qD kw.below;generalize kw.val=w5 at*;clear a0 a1 a2 a3 a4 b0 b1 b2 b3 b4 K1;have HV5:=qD (HVA.out.keep (HK.out.block eb HLB.out));have D5:=qD (D0.out.step HK.out);obtain⟨a0,-,-,-,-⟩:=HV5.out.bw;obtain⟨b0,-,-,-,-⟩:=(aS.Ig D5.out).bw;go_upto_region 5 with fail
   have hz2:=HZ2.out;cases z2
   ·refine aM (by kernel_rfl) (by kernel_rfl) ?_
    repeat(go_big_quiet_step (fail))
    refine Kd ?_;rintro _ ⟨kw,rfl⟩;have HK2:=qD kw.below;generalize kw.val=w6 at*;clear a0 b0;go_wp2_with fail;go_roundw
    ·exact⟨i+1,by omega,by go_num,by rw[gC HP.out,HA.out,HQ.out];rfl,HB.out.Ih (HK.out.Ih HK2.out)⟩
    ·simp[intOf];omega
   ·rcases HO.out with rfl|rfl|rfl|rfl
    ·by_cases hc:0<c1
     ·have HC:Hid (fS 4 c1=true):=qD (by simp[fS,hc]);refine aM (by kernel_rfl) (by kernel_rfl) ?_
      repeat(go_big_quiet_step (fail))
      refine Kd ?_;rintro _ ⟨kw,rfl⟩;have HK2:=qD kw.below;generalize kw.val=w6 at*;clear a0 b0;go_wp2_with fail;go_ret;exact⟨by rw[jN (f:=fun p=>gD 4 x p.2) HP.out (by rw[HQ.out,HC.out];rfl)];rfl,HE.out.Ih (HK.out.Ih HK2.out)⟩
     ·have HC:Hid (fS 4 c1=false):=qD (by simp[fS,hc]);refine aM (by kernel_rfl) (by kernel_rfl) ?_
      repeat(go_big_quiet_step (fail))
      refine Kd ?_;rintro _ ⟨kw,rfl⟩;have HK2:=qD kw.below;generalize kw.val=w6 at*;clear a0 b0;go_wp2_with fail;go_roundw
      ·exact⟨i+1,by omega,by go_num,by rw[gC HP.out,HA.out,HQ.out,HC.out];rfl,HB.out.Ih (HK.out.Ih HK2.out)⟩
      ·simp[intOf];omega
    ·by_cases hc:0<=c1
     ·have HC:Hid (fS 5 c1=true):=qD (by simp[fS,hc]);refine aM (by kernel_rfl) (by kernel_rfl) ?_
      repeat(go_big_quiet_step (fail))
      refine Kd ?_;rintro _ ⟨kw,rfl⟩;have HK2:=qD kw.below;generalize kw.val=w6 at*;clear a0 b0;go_wp2_with fail;go_ret;exact⟨by rw[jN (f:=fun p=>gD 5 x p.2) HP.out (by rw[HQ.out,HC.out];rfl)];rfl,HE.out.Ih (HK.out.Ih HK2.out)⟩
     ·have HC:Hid (fS 5 c1=false):=qD (by simp[fS,hc]);refine aM (by kernel_rfl) (by kernel_rfl) ?_
      repeat(go_big_quiet_step (fail))
      refine Kd ?_;rintro _ ⟨kw,rfl⟩;have HK2:=qD kw.below;generalize kw.val=w6 at*;clear a0 b0;go_wp2_with fail;go_roundw
      ·exact⟨i+1,by omega,by go_num,by rw[gC HP.out,HA.out,HQ.out,HC.out];rfl,HB.out.Ih (HK.out.Ih HK2.out)⟩
      ·simp[intOf];omega
    ·by_cases hc:c1<0
     ·have HC:Hid (fS 6 c1=true):=qD (by simp[fS,hc]);refine aM (by kernel_rfl) (by kernel_rfl) ?_
      repeat(go_big_quiet_step (fail))
      refine Kd ?_;rintro _ ⟨kw,rfl⟩;have HK2:=qD kw.below;generalize kw.val=w6 at*;clear a0 b0;go_wp2_with fail;go_ret;exact⟨by rw[jN (f:=fun p=>gD 6 x p.2) HP.out (by rw[HQ.out,HC.out];rfl)];rfl,HE.out.Ih (HK.out.Ih HK2.out)⟩
     ·have HC:Hid (fS 6 c1=false):=qD (by simp[fS,hc]);refine aM (by kernel_rfl) (by kernel_rfl) ?_
      repeat(go_big_quiet_step (fail))
      refine Kd ?_;rintro _ ⟨kw,rfl⟩;have HK2:=qD kw.below;generalize kw.val=w6 at*;clear a0 b0;go_wp2_with fail;go_roundw
      ·exact⟨i+1,by omega,by go_num,by rw[gC HP.out,HA.out,HQ.out,HC.out];rfl,HB.out.Ih (HK.out.Ih HK2.out)⟩
      ·simp[intOf];omega
    ·by_cases hc:c1<=0
     ·have HC:Hid (fS 7 c1=true):=qD (by simp[fS,hc]);refine aM (by kernel_rfl) (by kernel_rfl) ?_
      repeat(go_big_quiet_step (fail))
      refine Kd ?_;rintro _ ⟨kw,rfl⟩;have HK2:=qD kw.below;generalize kw.val=w6 at*;clear a0 b0;go_wp2_with fail;go_ret;exact⟨by rw[jN (f:=fun p=>gD 7 x p.2) HP.out (by rw[HQ.out,HC.out];rfl)];rfl,HE.out.Ih (HK.out.Ih HK2.out)⟩
     ·have HC:Hid (fS 7 c1=false):=qD (by simp[fS,hc]);refine aM (by kernel_rfl) (by kernel_rfl) ?_
      repeat(go_big_quiet_step (fail))
      refine Kd ?_;rintro _ ⟨kw,rfl⟩;have HK2:=qD kw.below;generalize kw.val=w6 at*;clear a0 b0;go_wp2_with fail;go_roundw
      ·exact⟨i+1,by omega,by go_num,by rw[gC HP.out,HA.out,HQ.out,HC.out];rfl,HB.out.Ih (HK.out.Ih HK2.out)⟩
      ·simp[intOf];omega
  ·have HF:Hid ((ps.any fun p=>gD op x p.2)=false):=qD (by
    rw[<-KL (l:=ps) (i:=i) (by have:=HS.out.ln;omega)]
    exact HA.out)
   go_wp2_with fail;go_ret;exact⟨by rw[HF.out];rfl,HE.out⟩
theorem AE(x n m:Int)(w:World):Calls prog 203 #[.int .i64 x,.int .i64 n,.int .i64 m] w (am (fun _=>True) w):=by
 by_cases h1:n<1
 ·go_enter func203,ntmps203;go_wp2_with fail;go_ret;exact am.of trivial (Ju _ _)
 have h0:n≠0:=by omega
 have h0b:(n==0)=false:=by simpa using h0
 by_cases h2:x.tmod n<0
 ·go_enter func203,ntmps203;go_wp2_with fail;go_ret;exact am.of trivial (Ju _ _)
 ·go_enter func203,ntmps203;go_wp2_with fail;go_ret;exact am.of trivial (Ju _ _)
def iE(s p:ByteArray):Bool:=decide (p.size<=s.size)&&((s.extract 0 p.size).toList==p.toList)
theorem su(s p:ByteArray)(w:World):Calls prog 204 #[.string s,.string p] w fun e w'=>e=.returned (.bool (iE s p))/\Below w.heap.size w w':=by
 by_cases h:p.size<=s.size
 ·have hi:(p.size:Int)<=(s.size:Int):=by omega
  have h0:(0:Int)<=(p.size:Int):=by omega
  have HP:Hid (iE s p=((s.extract 0 p.size).toList==p.toList)):=qD (by rw[iE,Jy h,Mt]);go_enter func204,ntmps204;go_wp2_with fail;go_ret;exact⟨by rw[HP.out];rfl,Ju _ _⟩
 ·have hi:¬(p.size:Int)<=(s.size:Int):=by omega
  have HP:Hid (iE s p=false):=qD (by rw[iE,KQ h,OI]);go_enter func204,ntmps204;go_wp2_with fail;go_ret;exact⟨by rw[HP.out];rfl,Ju _ _⟩
theorem xJ(d:VC)(w:World):Calls prog 105 #[d.val] w (am (fun _=>True) w):=by
 have BE:Hid (Below w.heap.size w (w.alloc (.cells d.arr 29))):=(Ju _ _).alloc (qL) _;have B0:Hid (aG (w.alloc (.cells d.arr 29)) w.heap.size 29 d.arr):=aG.Ii rfl;obtain⟨z1,hz1⟩:∃z,(d.k != 0)=z:=⟨_,rfl⟩;obtain⟨z2,hz2⟩:∃z,(d.k != 2)=z:=⟨_,rfl⟩;obtain⟨z3,hz3⟩:∃z,(d.k==9)=z:=⟨_,rfl⟩;obtain⟨z4,hz4⟩:∃z,(d.k==3)=z:=⟨_,rfl⟩;go_enter func105,ntmps105;go_upto_region 1 with fail
 change Code.wp _ _ _ _ (w.alloc (.cells d.arr 29));generalize w.alloc (.cells d.arr 29)=wa at*;obtain⟨a0,a1,a2,a3,a4⟩:=aS.Ig B0.out;simp only[Jw] at a1 a2 a3 a4;rcases(show z1=false\/(z1=true/\z2=false)\/(z1=true/\z2=true/\z3=true)\/(z1=true/\z2=true/\z3=false/\z4=true)\/(z1=true/\z2=true/\z3=false/\z4=false) by clear hz1 hz2 hz3 hz4;revert z1 z2 z3 z4;decide) with rfl|⟨rfl,rfl⟩|⟨rfl,rfl,rfl⟩|⟨rfl,rfl,rfl,rfl⟩|⟨rfl,rfl,rfl,rfl⟩
 all_goals
  go_wp2_with fail;go_ret;exact am.of trivial BE.out
def BR(w:World)(g n:Nat):Prop:=∃cs,aG w g 4 cs/\cs.size=n/\∀i,i<n->∃b:Bool,cs[i]?=some (.bool b)
section
variable {w w':World} {g g' n i:Nat}
theorem BR.step(h:BR w g n)(hb:Below w.heap.size w w'):BR w' g n:=by obtain⟨cs,h1,h2⟩:=h;exact⟨cs,h1.step hb,h2⟩
theorem BR.get(h:BR w g n)(hi:i<n):∃b:Bool,w.cell? ⟨g,i,none⟩=some (.bool b):=by
 obtain⟨cs,h1,_,h3⟩:=h;obtain⟨b,hb⟩:=h3 i hi;exact⟨b,(h1.cell i).trans hb⟩
theorem BR.frozen(h:BR w g n)(i:Nat):w.frozen? ⟨g,i,none⟩=false:=by obtain⟨cs,h1,_⟩:=h;exact h1.frozen i
theorem BR.lt(h:BR w g n):g<w.heap.size:=by obtain⟨cs,h1,_⟩:=h;exact h1.lt
theorem BR.set(h:BR w g n)(b:Bool):BR (w.setCell ⟨g,i,none⟩ (.bool b)) g n:=by
 obtain⟨cs,h1,h2,h3⟩:=h;refine⟨_,h1.Ij i _,by simp[h2],fun j hj=>?_⟩;by_cases e:i=j
 ·subst e;exact⟨b,by rw[Array.getElem?_setIfInBounds_self_of_lt (by omega)]⟩
 ·rw[Array.getElem?_setIfInBounds_ne e];exact h3 j hj
theorem BR.Ip(h:BR w g n)(hne:g≠g')(u:Value):BR (w.setCell ⟨g',i,none⟩ u) g n:=by obtain⟨cs,h1,h2⟩:=h;exact⟨cs,h1.Ip hne _,h2⟩
theorem BR.made(w:World)(n:Nat):BR (w.alloc (.cells (madeCells #[.bool false] n) 4)) w.heap.size n:=by
 refine⟨_,aG.new _ _ _,by simp[madeCells],fun i hi=>⟨false,?_⟩⟩;simp[madeCells,hi,Nat.mod_one]
end
theorem xK(s t:ByteArray)(w:World)(hs:s.size<=1000000)(ht:t.size<=1000000):Calls prog 205 #[.string s,.string t] w (am (fun _=>True) w):=by
 obtain⟨j0,hj0,hz0,hz1,hz2⟩:=LM wm
 have hmk:∀w:World,(Instr.makeSlice 83 (.int .i64 ((t.size:Int)+1)) (.int .i64 ((t.size:Int)+1))).run prog w=.ok (.slice (some ⟨w.heap.size,0,none⟩) (t.size+1) (t.size+1)) (w.alloc (.cells (madeCells #[.bool false] (t.size+1)) 4)):=fun w=>by
  have h:=eV (P:=prog) 83 4 j0 (.bool false) underlying83 hj0 hz0 (t.size+1) (by rw[hz2];omega) (by omega) w;rw[hz1,My] at h;exact h
 have hw1:IntKind.i64.wrap ((t.size:Int)+1)=(t.size:Int)+1:=Nc _ ⟨by omega,by omega⟩;have R0:=qD (BR.made w (t.size+1));have BE:Hid (Below w.heap.size w (w.alloc (.cells (madeCells #[.bool false] (t.size+1)) 4))):=(Ju _ _).alloc (qL) _;have hts:(0:Int)<(t.size:Int)+1:=by omega
 go_enter func205,ntmps205;go_upto_region 2 with fail
 change Code.wp _ _ _ _ (w.alloc (.cells (madeCells #[.bool false] (t.size+1)) 4));generalize w.alloc (.cells (madeCells #[.bool false] (t.size+1)) 4)=wa at*;obtain⟨b0,hb0⟩:=R0.out.get (i:=0) (by omega);have hf0:=R0.out.frozen 0;have R1:=qD (R0.out.set (i:=0) true);have BE1:=qD (BE.out.setCell (p:=⟨w.heap.size,0,none⟩) (qL) (.bool true));go_upto_region 4 with fail
 clear hb0 hf0 R0 BE;change Code.wp _ _ _ _ (wa.setCell ⟨w.heap.size,0,none⟩ (.bool true));generalize wa.setCell ⟨w.heap.size,0,none⟩ (.bool true)=wb at*
 go_loopw [5,6,7,8] (fun v5 v6 _ _ wr=>∃(i g:Nat),i<=s.size/\v6=.int .i64 i/\v5=.slice (some ⟨g,0,none⟩) (t.size+1) (t.size+1)/\BR wr g (t.size+1)/\w.heap.size<=g/\Below w.heap.size w wr) (fun _ v6 _ _ _=>s.size-(intOf v6).toNat)
 ·exact⟨0,_,KD _,rfl,rfl,R1.out,qL,BE1.out⟩
 case round=>
  obtain⟨i,g,hi,rfl,rfl,hR,hge,hB⟩:=hrel;have HR:=qD hR;have HB:=qD hB;have HGA:=qD hge;clear hR hB hge R1 BE1;by_cases hlt:i<s.size
  ·obtain⟨y,hy⟩:=eX hlt;have i0:(0:Int)<=(i:Int):=by omega
   have i1:(i:Int)<(s.size:Int):=by omega
   have N0:=qD (BR.made wr (t.size+1));have NA:=qD (HR.out.step ((Ju wr.heap.size wr).alloc (qL) (.cells (madeCells #[.bool false] (t.size+1)) 4)));have NE:=qD (HB.out.alloc HB.out.size (.cells (madeCells #[.bool false] (t.size+1)) 4));have HNE:Hid (g≠wr.heap.size):=qD (by have:=HR.out.lt;omega);have HGE:Hid (w.heap.size<=wr.heap.size):=qD HB.out.size;go_upto_region 8 with fail
   change Code.wp _ _ _ _ (wr.alloc (.cells (madeCells #[.bool false] (t.size+1)) 4));generalize wr.alloc (.cells (madeCells #[.bool false] (t.size+1)) 4)=wn at*;generalize wr.heap.size=gn at*
   go_loopw [8] (fun v8 wq=>∃k:Nat,k<=t.size+1/\v8=.int .i64 k/\BR wq g (t.size+1)/\BR wq gn (t.size+1)/\Below w.heap.size w wq) (fun v8 _=>t.size+1-(intOf v8).toNat)
   ·exact⟨0,KD _,rfl,NA.out,N0.out,NE.out⟩
   case round=>
    obtain⟨k,hk,rfl,hA,hG,hE⟩:=hrel;have HA:=qD hA;have HG:=qD hG;have HE:=qD hE;clear hA hG hE N0 NA NE;by_cases hkt:k<=t.size
    ·have hkn:k<t.size+1:=by omega
     have k0:(0:Int)<=(k:Int):=by omega
     have k1:(k:Int)<=(t.size:Int):=by omega
     have k2:(k:Int)<(t.size:Int)+1:=by omega
     obtain⟨ba,hba⟩:=HA.out.get hkn;obtain⟨zs,hzs⟩:∃z,(y==42)=z:=⟨_,rfl⟩;rcases LH k with rfl|hkp
     ·cases zs
      ·go_upto_region 12 with fail
       refine cC 28 (by kernel_rfl) (by kernel_rfl) ?_;simp only[LY,Lp,Lu,Mk]
       repeat(go_big_quiet_step (fail))
       refine Kd ?_;rintro _ ⟨kw,rfl⟩;have F0:=(HG.out.step kw.below).frozen 0;obtain⟨bq,hbq⟩:=(HG.out.step kw.below).get hkn;have HAK:=qD (HA.out.step kw.below);have HGK:=qD (HG.out.step kw.below);have HEK:=qD (HE.out.Ih kw.below);clear hba;generalize kw.val=w5 at*;have HA2:∀b:Bool,Hid (BR (w5.setCell ⟨gn,0,none⟩ (.bool b)) g (t.size+1)):=fun b=>qD (HAK.out.Ip (i:=0) HNE.out (.bool b));have HG2:=fun b:Bool=>qD (HGK.out.set (i:=0) b);have HE2:=fun b:Bool=>qD (HEK.out.setCell (p:=⟨gn,0,none⟩) HGE.out (.bool b));go_wp2_with fail;go_roundw
       ·exact⟨0+1,by omega,rfl,(HA2 _).out,(HG2 _).out,(HE2 _).out⟩
       ·simp[intOf]
      ·cases ba
       ·have F0:=HG.out.frozen 0;obtain⟨bq,hbq⟩:=HG.out.get hkn;have HA2:=fun b:Bool=>qD (HA.out.Ip (i:=0) HNE.out (.bool b));have HG2:=fun b:Bool=>qD (HG.out.set (i:=0) b);have HE2:=fun b:Bool=>qD (HE.out.setCell (p:=⟨gn,0,none⟩) HGE.out (.bool b));go_wp2_with fail
        all_goals
         go_roundw
         ·exact⟨0+1,by omega,rfl,(HA2 _).out,(HG2 _).out,(HE2 _).out⟩
         ·simp[intOf]
       ·have F0:=HG.out.frozen 0;obtain⟨bq,hbq⟩:=HG.out.get hkn;have HA2:=fun b:Bool=>qD (HA.out.Ip (i:=0) HNE.out (.bool b));have HG2:=fun b:Bool=>qD (HG.out.set (i:=0) b);have HE2:=fun b:Bool=>qD (HE.out.setCell (p:=⟨gn,0,none⟩) HGE.out (.bool b));go_wp2_with fail
        all_goals
         go_roundw
         ·exact⟨0+1,by omega,rfl,(HA2 _).out,(HG2 _).out,(HE2 _).out⟩
         ·simp[intOf]
     ·obtain⟨j,rfl⟩:∃j,k=j+1:=⟨k-1,by omega⟩;have j1:j<t.size+1:=by omega
      have j2:(0:Int)<(j:Int)+1:=by omega
      have j3:(0:Int)<=(j:Int):=by omega
      have j4:(j:Int)<(t.size:Int)+1:=by omega
      have j5:j<t.size:=by omega
      have j6:(j:Int)<(t.size:Int):=by omega
      have j7:(j:Int)+1<=(t.size:Int):=by omega
      have j8:(j:Int)+1<(t.size:Int)+1:=by omega
      have j9:(0:Int)<=(j:Int)+1:=by omega
      obtain⟨bj,hbj⟩:=HA.out.get j1;obtain⟨bg,hbg⟩:=HG.out.get j1;obtain⟨u,hu⟩:=eX j5;obtain⟨zq,hzq⟩:∃z,(y==63)=z:=⟨_,rfl⟩;cases zs
      ·have A1:∀kk:BW wr,kk.val.cell? ⟨g,j,none⟩=some (.bool bj):=fun kk=>kk.cell hbj;clear hbg;cases bj
       ·go_upto_region 12 with fail
        refine cC 28 (by kernel_rfl) (by kernel_rfl) ?_;simp only[LY,Lp,Lu,Mk]
        repeat(go_big_quiet_step (fail))
        refine Kd ?_;rintro _ ⟨kw,rfl⟩;have F0:=(HG.out.step kw.below).frozen (j+1);obtain⟨bq,hbq⟩:=(HG.out.step kw.below).get hkn;have HAK:=qD (HA.out.step kw.below);have HGK:=qD (HG.out.step kw.below);have HEK:=qD (HE.out.Ih kw.below);clear A1 hbj hba;generalize kw.val=w5 at*;have HA2:∀b:Bool,Hid (BR (w5.setCell ⟨gn,(j+1),none⟩ (.bool b)) g (t.size+1)):=fun b=>qD (HAK.out.Ip (i:=(j+1)) HNE.out (.bool b));have HG2:=fun b:Bool=>qD (HGK.out.set (i:=(j+1)) b);have HE2:=fun b:Bool=>qD (HEK.out.setCell (p:=⟨gn,(j+1),none⟩) HGE.out (.bool b));go_wp2_with fail;go_roundw
        ·exact⟨(j+1)+1,by omega,by go_num,(HA2 _).out,(HG2 _).out,(HE2 _).out⟩
        ·simp[intOf];omega
       ·cases zq
        ·go_upto_region 12 with fail
         refine cC 28 (by kernel_rfl) (by kernel_rfl) ?_;simp only[LY,Lp,Lu,Mk]
         repeat(go_big_quiet_step (fail))
         refine Kd ?_;rintro _ ⟨kw,rfl⟩;have F0:=(HG.out.step kw.below).frozen (j+1);obtain⟨bq,hbq⟩:=(HG.out.step kw.below).get hkn;have HAK:=qD (HA.out.step kw.below);have HGK:=qD (HG.out.step kw.below);have HEK:=qD (HE.out.Ih kw.below);clear A1 hbj hba;generalize kw.val=w5 at*;have HA2:∀b:Bool,Hid (BR (w5.setCell ⟨gn,(j+1),none⟩ (.bool b)) g (t.size+1)):=fun b=>qD (HAK.out.Ip (i:=(j+1)) HNE.out (.bool b));have HG2:=fun b:Bool=>qD (HGK.out.set (i:=(j+1)) b);have HE2:=fun b:Bool=>qD (HEK.out.setCell (p:=⟨gn,(j+1),none⟩) HGE.out (.bool b));go_wp2_with fail;go_roundw
         ·exact⟨(j+1)+1,by omega,by go_num,(HA2 _).out,(HG2 _).out,(HE2 _).out⟩
         ·simp[intOf];omega
        ·go_upto_region 12 with fail
         refine cC 28 (by kernel_rfl) (by kernel_rfl) ?_;simp only[LY,Lp,Lu,Mk]
         repeat(go_big_quiet_step (fail))
         refine Kd ?_;rintro _ ⟨kw,rfl⟩;have F0:=(HG.out.step kw.below).frozen (j+1);obtain⟨bq,hbq⟩:=(HG.out.step kw.below).get hkn;have HAK:=qD (HA.out.step kw.below);have HGK:=qD (HG.out.step kw.below);have HEK:=qD (HE.out.Ih kw.below);clear A1 hbj hba;generalize kw.val=w5 at*;have HA2:∀b:Bool,Hid (BR (w5.setCell ⟨gn,(j+1),none⟩ (.bool b)) g (t.size+1)):=fun b=>qD (HAK.out.Ip (i:=(j+1)) HNE.out (.bool b));have HG2:=fun b:Bool=>qD (HGK.out.set (i:=(j+1)) b);have HE2:=fun b:Bool=>qD (HEK.out.setCell (p:=⟨gn,(j+1),none⟩) HGE.out (.bool b));go_wp2_with fail;go_roundw
         ·exact⟨(j+1)+1,by omega,by go_num,(HA2 _).out,(HG2 _).out,(HE2 _).out⟩
         ·simp[intOf];omega
      ·cases ba
       ·clear hbj;have F0:=HG.out.frozen (j+1);obtain⟨bq,hbq⟩:=HG.out.get hkn;have HA2:=fun b:Bool=>qD (HA.out.Ip (i:=(j+1)) HNE.out (.bool b));have HG2:=fun b:Bool=>qD (HG.out.set (i:=(j+1)) b);have HE2:=fun b:Bool=>qD (HE.out.setCell (p:=⟨gn,(j+1),none⟩) HGE.out (.bool b));go_wp2_with fail
        all_goals
         go_roundw
         ·exact⟨(j+1)+1,by omega,by go_num,(HA2 _).out,(HG2 _).out,(HE2 _).out⟩
         ·simp[intOf];omega
       ·clear hbj;have F0:=HG.out.frozen (j+1);obtain⟨bq,hbq⟩:=HG.out.get hkn;have HA2:=fun b:Bool=>qD (HA.out.Ip (i:=(j+1)) HNE.out (.bool b));have HG2:=fun b:Bool=>qD (HG.out.set (i:=(j+1)) b);have HE2:=fun b:Bool=>qD (HE.out.setCell (p:=⟨gn,(j+1),none⟩) HGE.out (.bool b));go_wp2_with fail
        all_goals
         go_roundw
         ·exact⟨(j+1)+1,by omega,by go_num,(HA2 _).out,(HG2 _).out,(HE2 _).out⟩
         ·simp[intOf];omega
    ·obtain rfl:k=t.size+1:=by omega
     have k1:¬(t.size:Int)+1<=(t.size:Int):=by omega
     go_wp2_with fail;go_roundw
     ·exact⟨i+1,gn,by omega,by go_num,rfl,HG.out,HGE.out,HE.out⟩
     ·simp[intOf];omega
  ·obtain rfl:i=s.size:=by omega
   obtain⟨bl,hbl⟩:=HR.out.get (i:=t.size) (by omega);have t0:(0:Int)<=(t.size:Int):=by omega
   have t1:(t.size:Int)<(t.size:Int)+1:=by omega
   go_wp2_with fail;go_ret;exact am.of trivial HB.out
abbrev B2:=ByteArray×ByteArray
section
variable {α:Type} {cm:α->α->Int} {V:α->Prop}
theorem xO.Jc(H:xO cm V){x y z:α}(h1:cm x y<=0)(h2:cm y z<0):cm x z<0:=by have:=H.tr x y z;unfold TR at this;omega
end
def jZ:aX->Prop
 | .mk _ _ arg args _ _ _ _ _ _ _ _ _ kids=>cO arg.2/\(∀x∈args.xs,cO x.2)/\NumsPs kids
where NumsPs:List aX->Prop
 | []=>True
 | x::r=>jZ x/\NumsPs r
theorem xL{l:List aX}:jZ.NumsPs l↔∀k∈l,jZ k:=by
 induction l with
 | nil=>simp[jZ.NumsPs]
 | cons y r ih=>simp[jZ.NumsPs,ih]
theorem AF(p:aX):jZ p↔cO p.arg.2/\(∀x∈p.args.xs,cO x.2)/\∀k∈p.kids,jZ k:=by
 cases p;simp only[jZ,xL];rfl
theorem CT(a:List Int):gM [] a<=0:=by cases a<;>simp[gM]
def cE:List Int->Option (List Int)
 | []=>none
 | x::r=>match cE r with
  | some t=>some (x::t)
  | none=>if x=255 then none else some [x+1]
theorem nv:∀{l:List Int},cE l=none->∀x∈l,x=255
 | [],_,x,hx=>by simp at hx
 | y::r,h,x,hx=>by
  unfold cE at h;cases hr:cE r with
  | some t=>rw[hr] at h;simp at h
  | none=>
   rw[hr] at h;simp only at h;by_cases hy:y=255
   ·rcases LG.1 hx with rfl|hx
    ·exact hy
    ·exact nv hr x hx
   ·rw[KU hy] at h;simp at h
theorem rQ:∀{l t:List Int},cE l=some t->∀a,gM (l++a) t<0
 | [],t,h,a=>by simp[cE] at h
 | x::r,t,h,a=>by
  unfold cE at h;cases hr:cE r with
  | some u=>
   rw[hr] at h;simp only[LS] at h;subst h;rw[Ly,rH];exact rQ hr a
  | none=>
   rw[hr] at h;simp only at h;by_cases hy:x=255
   ·rw[Kb hy] at h;simp at h
   ·rw[KU hy] at h;simp only[LS] at h;subst h;rw[Ly,EC (by omega)];omega
theorem nN:∀{l t:List Int},ua l->cE l=some t->ua t
 | [],t,_,h=>by simp[cE] at h
 | x::r,t,hl,h=>by
  have hx:=hl x (by simp);unfold cE at h;cases hr:cE r with
  | some u=>
   rw[hr] at h;simp only[LS] at h;subst h;exact ua.cons hx (nN (fun z hz=>hl z (by simp[hz])) hr)
  | none=>
   rw[hr] at h;simp only at h;by_cases h255:x=255
   ·rw[Kb h255] at h;simp at h
   ·rw[KU h255] at h;simp only[LS] at h;subst h;exact ua.cons (by omega) ua.nil
theorem kx{k n:Int}{t:ByteArray}(h:il n):cO (.mk k n t [] []):=(im _).2 ⟨h,by simp[aC.l],by simp[aC.d]⟩
theorem fi(k:Int):cO (bS k):=by
 unfold bS gK;split
 ·exact kx (by unfold il;decide)
 ·split<;>exact kx (by unfold il;decide)
theorem lk(k:Int):cO (bB k).lo/\cO (bB k).hi/\(bB k).li=true:=by
 unfold bB;split
 ·exact⟨fi k,kx (by unfold il;decide),rfl⟩
 ·split
  ·exact⟨fi k,kx (by unfold il;decide),rfl⟩
  ·split
   ·exact⟨fi k,fi _,rfl⟩
   ·exact⟨fi k,fi k,rfl⟩
end
structure TL(w:World)(A:Option Addr)(n c:Nat)(l:List ByteArray):Prop where
 sr:SR 1 bv w A n c l
 el:∀s∈l,s.size<=1000000
 form:(A=none/\c=0)\/∃b off,A=some ⟨b,off,none⟩
section
variable {l:List ByteArray} {c n base size:Nat} {a:Int} {s:ByteArray} {w w':World} {A:Option Addr} {v:Value}
theorem TL.step{w w':World}{A:Option Addr}{n c:Nat}{l:List ByteArray}(h:TL w A n c l)(hb:Below w.heap.size w w'):TL w' A n c l:=⟨h.sr.step hb,h.el,h.form⟩
theorem TL.zero{w:World}:TL w none 0 0 []:=⟨SR.nil,by simp,.inl ⟨rfl,rfl⟩⟩
def CU(A0:Option Addr)(K:Nat)(w:World)(e:Ending)(w':World):Prop:=∃A n c l,e=.returned (.slice A n c)/\TL w' A n c l/\n<=K/\Below w.heap.size w w'/\(A=A0\/∀a,A=some a->w.heap.size<=a.block/\a.block<w'.heap.size)
theorem TL.Ik{w:World}{base n:Nat}{v:Value}{l:List ByteArray}(h:w.ownsRow base 9 1 v n (aO bv l))(hl:l.length=n)(he:∀s∈l,s.size<=1000000):∃A c,v=.slice A n c/\TL w A n c l/\∀a,A=some a->base<=a.block/\a.block<w.heap.size:=by
 obtain⟨A,c,e,hs⟩:=SR.Ik ez h hl
 suffices hh:((A=none/\c=0)\/∃b off,A=some ⟨b,off,none⟩)/\∀a,A=some a->base<=a.block/\a.block<w.heap.size from⟨A,c,e,⟨hs,he,hh.1⟩,hh.2⟩
 rcases h.2 with⟨h1,_⟩|⟨g,cap,cur,hv,hge,hh,_⟩
 ·rw[e] at h1;injection h1 with h1 _ h3
  exact⟨.inl ⟨h1,h3⟩,fun a ha=>by rw[h1] at ha;cases ha⟩
 ·rw[e] at hv;injection hv with h1
  exact⟨.inr ⟨g,0,h1⟩,fun a ha=>by rw[h1] at ha;injection ha with ha;subst ha;exact⟨hge,aG.lt (t:=9) (cs:=cur) hh⟩⟩
def dJ(w:World):Prop:=∀i:Nat,i<20->∃s,w.cell? ⟨5,i,none⟩=some (.string s)
theorem dJ.step{w w':World}(h:dJ w)(hb:Below w.heap.size w w'):dJ w':=fun i hi=>by
 obtain⟨s,hs⟩:=h i hi;exact⟨s,(hb.cell (p:=⟨5,i,none⟩) (KY w _ hs)).trans hs⟩
theorem AG(s:ByteArray)(w:World)(h:dJ w):Calls prog 319 #[.string s] w (am (fun _=>True) w):=by
 have H:=qD h;clear h;go_enter func319,ntmps319;go_upto_region 2 with fail
 go_loopw [3] (fun v wr=>∃i:Nat,i<=20/\v=.int .i64 i/\Below w.heap.size w wr) (fun v _=>20-(intOf v).toNat)
 ·exact⟨0,KD _,rfl,Ju _ _⟩
 case round=>
  obtain⟨i,hi,rfl,hb⟩:=hrel;have HB:=qD hb;by_cases hlt:i<20
  ·obtain⟨x,hx⟩:=(H.out.step hb) i hlt;have i0:(0:Int)<=(i:Int):=by omega
   have i1:(i:Int)<20:=by omega
   clear hb;cases hq:(x.toList==s.toList)
   ·go_wp2_with fail;go_roundw
    ·exact⟨i+1,by omega,by go_num,HB.out⟩
    ·simp[intOf];omega
   ·go_wp2_with fail;go_ret;exact am.of trivial HB.out
  ·obtain rfl:i=20:=by omega
   go_wp2_with fail;go_ret;exact am.of trivial HB.out
theorem kN(l:List ByteArray)(s:ByteArray)(A:Option Addr)(n c:Nat)(w:World)(h:TL w A n c l)(hn:n<=1000000000):Calls prog 255 #[.slice A n c,.string s] w (am (fun _=>True) w):=by
 have H:=qD h;clear h;go_enter func255,ntmps255;go_upto_region 2 with fail
 go_loopw [5] (fun v wr=>∃i:Nat,i<=n/\v=.int .i64 i/\Below w.heap.size w wr) (fun v _=>n-(intOf v).toNat)
 ·exact⟨0,KD _,rfl,Ju _ _⟩
 case round=>
  obtain⟨i,hi,rfl,hb⟩:=hrel;have HB:=qD hb;by_cases hlt:i<n
  ·obtain⟨b,off,x,rfl,hbb,hx,e0⟩:=H.out.sr.JH hlt;have e1:=(hb.cell (p:=⟨b,off+i,none⟩) hbb).trans e0;have i0:(0:Int)<=(i:Int):=by omega
   have i1:(i:Int)<(n:Int):=by omega
   clear hb e0 hx;cases hq:(x.toList==s.toList)
   ·go_wp2_with fail;go_roundw
    ·exact⟨i+1,by omega,by go_num,HB.out⟩
    ·simp[intOf];omega
   ·go_wp2_with fail;go_ret;exact am.of trivial HB.out
  ·obtain rfl:i=n:=by omega
   clear hb;go_wp2_with fail;go_ret;exact am.of trivial HB.out
theorem rS(s:ByteArray)(w:World)(hs:s.size<=1000000000):Calls prog 298 #[.string s] w (zl s.size w):=by
 go_enter func298,ntmps298
 go_upto_block 0 with fail
 go_cut [3] (fun v wx=>∃a:Nat,a<=s.size/\v=.int .i64 a/\Below w.heap.size w wx)
 case first=>
  go_wp2_with fail
  go_loopw [3] (fun v wr=>∃a:Nat,a<=s.size/\v=.int .i64 a/\Below w.heap.size w wr) (fun v _=>s.size-(intOf v).toNat)
  ·exact⟨0,KD _,rfl,Ju _ _⟩
  case round=>
   obtain⟨a,ha,rfl,hb⟩:=hrel;have HB:=qD hb;clear hb;by_cases hlt:a<s.size
   ·have i0:(0:Int)<=(a:Int):=by omega
    have i1:(a:Int)<(s.size:Int):=by omega
    go_wp2_with fail;refine(pE _ _).mono ?_;rintro e w1 ⟨r,rfl,_,hb⟩;replace HB:=qD (HB.out.Ih hb);clear hb;cases r
    ·go_wp2_with fail;go_meet;exact⟨a,ha,rfl,HB.out⟩
    ·go_wp2_with fail;go_roundw
     ·exact⟨a+1,by omega,by go_num,HB.out⟩
     ·simp[intOf];omega
   ·have i1:¬(a:Int)<(s.size:Int):=by omega
    go_wp2_with fail;go_meet;exact⟨a,ha,rfl,HB.out⟩
 case rest=>
  obtain⟨a,ha,rfl,hb⟩:=hcut;have HB:=qD hb;clear hb
  go_upto_block 2 with fail
  go_cut [4] (fun v wx=>∃b:Nat,a<=b/\b<=s.size/\v=.int .i64 b/\Below w.heap.size w wx)
  case first=>
   go_wp2_with fail
   go_loopw [4] (fun v wr=>∃b:Nat,a<=b/\b<=s.size/\v=.int .i64 b/\Below w.heap.size w wr) (fun v _=>(intOf v).toNat)
   ·exact⟨s.size,ha,qL,rfl,HB.out⟩
   case round=>
    obtain⟨b,hab,hbs,rfl,hb⟩:=hrel;have HC:=qD hb;clear hb;by_cases hlt:a<b
    ·obtain⟨d,rfl⟩:∃d,b=d+1:=⟨b-1,by omega⟩;have hds:d<s.size:=by omega
     have i0:(0:Int)<=(d:Int):=by omega
     have i1:(d:Int)<(s.size:Int):=by omega
     have i2:(a:Int)<(d:Int)+1:=by omega
     go_wp2_with fail;refine(pE _ _).mono ?_;rintro e w1 ⟨r,rfl,_,hb⟩;replace HC:=qD (HC.out.Ih hb);clear hb;cases r
     ·go_wp2_with fail;go_meet;exact⟨d+1,hab,hbs,rfl,HC.out⟩
     ·go_wp2_with fail;go_roundw
      ·exact⟨d,by omega,by omega,by go_num,HC.out⟩
      ·simp[intOf]
    ·have i1:¬(a:Int)<(b:Int):=by omega
     have i2:¬a<b:=hlt;go_wp2_with fail;go_meet;exact⟨b,hab,hbs,rfl,HC.out⟩
  case rest=>
   obtain⟨b,hab,hbs,rfl,hb⟩:=hcut;have HC:=qD hb;have i0:(a:Int)<=(b:Int):=by omega
   have i1:(b:Int)<=(s.size:Int):=by omega
   have i2:(0:Int)<=(a:Int):=by omega
   clear hb;go_wp2_with fail;go_ret;exact⟨_,rfl,dF,HC.out⟩
end
structure kO(wx:World)(v:Value)(n:Nat)(xs:List ByteArray)(wr:World):Prop where
 own:wr.ownsRow wx.heap.size 9 1 v n (aO bv xs)
 bel:Below wx.heap.size wx wr
section
variable {l xs ys:List ByteArray} {c k K o n B m size:Nat} {x d:Int} {s:ByteArray} {w w' wr w3 wx:World} {A:Option Addr} {v v':Value}
theorem kO.next{wx:World}{v v':Value}{n m n':Nat}{xs ys:List ByteArray}{wr w':World}{news:List Value}(h:kO wx v n xs wr)(hn:news=aO bv ys)(hn':n'=m)(ho:w'.ownsRow wx.heap.size 9 1 v' m (aO bv xs++news))(hg:wr.grownBy w' v.ownBlock):kO wx v' n' (xs++ys) w':=by
 subst hn hn';exact⟨by rw[di];exact ho,h.bel.grown hg h.bel.size (bF h.own)⟩
theorem kO.alloc{wx:World}{v:Value}{n:Nat}{xs:List ByteArray}{wr:World}(h:kO wx v n xs wr)(o:Obj):kO wx v n xs (wr.alloc o):=⟨h.own.alloc _,h.bel.alloc h.bel.size o⟩
theorem kO.step{wx:World}{v:Value}{n:Nat}{xs:List ByteArray}{wr w':World}(h:kO wx v n xs wr)(hb:Below wr.heap.size wr w'):kO wx v n xs w':=⟨bJ h.own hb,h.bel.Ih hb⟩
theorem bf(xs:List ByteArray):∀u∈aO bv xs,u.oneCell'=true:=by
 intro u hu;obtain⟨p,_,h⟩:=Lj.1 hu;exact uF p u h
theorem kO.ins{w wc w3:World}{v3:Value}{n k K:Nat}{l:List ByteArray}{x:ByteArray}(h:kO wc v3 n ([]++l.take k++[x]++l.drop k) w3)(hn:n=l.length+1)(hel:∀s∈l,s.size<=1000000)(hx:x.size<=1000000)(hK:n<=K)(hbc:Below w.heap.size w wc)(A0:Option Addr):CU A0 K w (.returned v3) w3:=by
 have hl:([]++l.take k++[x]++l.drop k).length=n:=by
  have:=(tp l x k).length_eq;simp at this ⊢;omega
 obtain⟨A,c,rfl,ht,hfr⟩:=TL.Ik h.own hl (fun s hs=>by
  simp at hs
  rcases hs with hs|rfl|hs
  ·exact hel s (MT hs)
  ·exact hx
  ·exact hel s (Ns hs))
 exact⟨A,n,c,_,rfl,ht,hK,hbc.Ih h.bel,.inr fun a ha=>⟨KM hbc.size (hfr a ha).1,(hfr a ha).2⟩⟩
theorem CV(l:List ByteArray)(x:ByteArray)(A:Option Addr)(n c:Nat)(w:World)(h:TL w A n c l)(hn:n<=100000000)(hx:x.size<=1000000):Calls prog 320 #[.slice A n c,.string x] w (CU A (n+1) w):=by
 obtain⟨j0,hj0,hy0,hy1,hy2⟩:=LM fx;have HTL:=qD h;have HLN:=qD h.sr.ln;have HEL:=qD h.el;have HXS:=qD hx;have hnc:n<=c:=h.sr.lc;have HH:=qD (kN l x A n c w h (by omega));go_enter func320,ntmps320;go_wp2_with fail;refine HH.out.mono ?_;rintro e w1 ⟨r,rfl,_,hb⟩;have HB:=qD hb;replace HTL:=qD (HTL.out.step hb);clear hb h hx HH;cases r;rotate_left
 ·go_wp2_with fail;go_ret;exact⟨A,n,c,l,rfl,HTL.out,Nu _,HB.out,.inl rfl⟩
 go_upto_block 0 with fail
 go_cut [5] (fun v wx=>∃k:Nat,k<=n/\v=.int .i64 k/\Below w1.heap.size w1 wx)
 case first=>
  go_wp2_with fail
  go_loopw [5] (fun v wr=>∃k:Nat,k<=n/\v=.int .i64 k/\Below w1.heap.size w1 wr) (fun v _=>(intOf v).toNat)
  ·exact⟨n,qL,rfl,Ju _ _⟩
  case round=>
   obtain⟨k,hk,rfl,hb⟩:=hrel;have HC:=qD hb;rcases LH k with rfl|hk0
   ·clear hb;go_wp2_with fail;go_meet;exact⟨0,KD _,rfl,HC.out⟩
   ·obtain⟨d,rfl⟩:∃d,k=d+1:=⟨k-1,by omega⟩;obtain⟨b,off,y,rfl,hbb,hy,e0⟩:=HTL.out.sr.JH (i:=d) (by omega);have e1:=(hb.cell (p:=⟨b,off+d,none⟩) hbb).trans e0;have i0:(0:Int)<=(d:Int):=by omega
    have i1:(d:Int)<(n:Int):=by omega
    have i2:(0:Int)<(d:Int)+1:=by omega
    clear hb e0 hy;go_wp2_with fail
    all_goals first
     | (go_meet;exact⟨d+1,hk,rfl,HC.out⟩)
     | (go_roundw
        ·exact⟨d,by omega,by go_num,HC.out⟩
        ·simp[intOf])
 case rest=>
  obtain⟨k,hk,rfl,hb⟩:=hcut;replace HTL:=qD (HTL.out.step hb);replace HB:=qD (HB.out.Ih hb);clear hb;generalize wc=wd at*;have N0:Hid (kO wd (.slice none 0 0) 0 [] wd):=qD ⟨bX _ _ _ _,Ju _ _⟩;have HRd:=qD (HTL.out.sr.reads ez (by decide))
  have R1:Hid (eE wd wd.heap.size 1 A k (aO bv (l.take k))):=by
   have:=HRd.out.take hk;rw[zM ez] at this;exact this
  have R2:Hid (eE wd wd.heap.size 1 (if c=k then A else A.map (·.add (k*1))) (n-k) (aO bv (l.drop k))):=by
   have:=HRd.out.cut hk hnc;rw[zN ez] at this;exact this
  have HNL:=qD HTL.out.form;rcases HNL.out with⟨rfl,rfl⟩|⟨gb,go,rfl⟩
  ·obtain rfl:n=0:=by omega
   obtain rfl:k=0:=by omega
   simp only[Oh] at R2;go_wp2_with (at_builtin;refine aJ _ rfl _ _ 25 rfl wd.heap.size 9 j0 (.string empty) 1 16 Kr hj0 hy0 hy1 hy2 rfl (by decide) (.slice none 0 0) 0 (aO bv ([])) rfl N0.out.own _ _ 0 _ (aO bv (l.take 0)) rfl R1.out ?c1 (by unfold maxLen;omega) (by omega) (qL) ?_)
   case c1=>exact bf _
   intro v1 w1 ho1 hg1 _;have N1:Hid (kO wd v1 0 ([]++l.take 0) w1):=qD (N0.out.next rfl (by omega) ho1 hg1);clear ho1 hg1;have hw1:=N1.out.bel.size;go_wp2_with (at_builtin;refine aJ _ rfl _ _ 25 rfl wd.heap.size 9 j0 (.string empty) 1 16 Kr hj0 hy0 hy1 hy2 rfl (by decide) v1 0 (aO bv ([]++l.take 0)) rfl (N1.out.alloc _).own _ _ 1 _ (aO bv [x]) rfl ⟨rfl,fun _=>⟨_,rfl,Km _,ao _ _ _⟩⟩ ?c1 (by unfold maxLen;omega) (by omega) (cg hw1 _) ?_)
   case c1=>exact bf _
   intro v2 w2 ho2 hg2 _;have N2:Hid (kO wd v2 (0+1) ([]++l.take 0++[x]) w2):=qD ((N1.out.alloc _).next rfl (by omega) ho2 hg2);clear ho2 hg2;have hw2:=N2.out.bel.size;go_wp2_with (at_builtin;refine aJ _ rfl _ _ 25 rfl wd.heap.size 9 j0 (.string empty) 1 16 Kr hj0 hy0 hy1 hy2 rfl (by decide) v2 (0+1) (aO bv ([]++l.take 0++[x])) rfl N2.out.own _ _ 0 _ (aO bv (l.drop 0)) rfl (R2.out.below N2.out.bel) ?c1 (by unfold maxLen;omega) (by omega) hw2 ?_)
   case c1=>exact bf _
   intro v3 w3 ho3 hg3 _;have N3:Hid (kO wd v3 (0+1+0) ([]++l.take 0++[x]++l.drop 0) w3):=qD (N2.out.next rfl (by omega) ho3 hg3);clear ho3 hg3;go_wp2_with fail;go_ret;exact N3.out.ins (by have:=HLN.out;omega) HEL.out HXS.out (by omega) HB.out _
  ·by_cases hck:c=k
   ·subst hck;simp only[Oh] at R2;rw[show n-c=0 by omega] at R2;go_wp2_with (at_builtin;refine aJ _ rfl _ _ 25 rfl wd.heap.size 9 j0 (.string empty) 1 16 Kr hj0 hy0 hy1 hy2 rfl (by decide) (.slice none 0 0) 0 (aO bv ([])) rfl N0.out.own _ _ c _ (aO bv (l.take c)) rfl R1.out ?c1 (by unfold maxLen;omega) (by omega) (qL) ?_)
    case c1=>exact bf _
    intro v1 w1 ho1 hg1 _;have N1:Hid (kO wd v1 c ([]++l.take c) w1):=qD (N0.out.next rfl (by omega) ho1 hg1);clear ho1 hg1;have hw1:=N1.out.bel.size;go_wp2_with (at_builtin;refine aJ _ rfl _ _ 25 rfl wd.heap.size 9 j0 (.string empty) 1 16 Kr hj0 hy0 hy1 hy2 rfl (by decide) v1 c (aO bv ([]++l.take c)) rfl (N1.out.alloc _).own _ _ 1 _ (aO bv [x]) rfl ⟨rfl,fun _=>⟨_,rfl,Km _,ao _ _ _⟩⟩ ?c1 (by unfold maxLen;omega) (by omega) (cg hw1 _) ?_)
    case c1=>exact bf _
    intro v2 w2 ho2 hg2 _;have N2:Hid (kO wd v2 (c+1) ([]++l.take c++[x]) w2):=qD ((N1.out.alloc _).next rfl (by omega) ho2 hg2);clear ho2 hg2;have hw2:=N2.out.bel.size;go_wp2_with (at_builtin;refine aJ _ rfl _ _ 25 rfl wd.heap.size 9 j0 (.string empty) 1 16 Kr hj0 hy0 hy1 hy2 rfl (by decide) v2 (c+1) (aO bv ([]++l.take c++[x])) rfl N2.out.own _ _ 0 _ (aO bv (l.drop c)) rfl (R2.out.below N2.out.bel) ?c1 (by unfold maxLen;omega) (by omega) hw2 ?_)
    case c1=>exact bf _
    intro v3 w3 ho3 hg3 _;have N3:Hid (kO wd v3 (c+1+0) ([]++l.take c++[x]++l.drop c) w3):=qD (N2.out.next rfl (by omega) ho3 hg3);clear ho3 hg3;go_wp2_with fail;go_ret;exact N3.out.ins (by have:=HLN.out;omega) HEL.out HXS.out (by omega) HB.out _
   ·rw[KU hck] at R2;simp only[Ls,dM,My] at R2;have hck':(c=k)=False:=by simp;omega
    go_wp2_with (at_builtin;refine aJ _ rfl _ _ 25 rfl wd.heap.size 9 j0 (.string empty) 1 16 Kr hj0 hy0 hy1 hy2 rfl (by decide) (.slice none 0 0) 0 (aO bv ([])) rfl N0.out.own _ _ k _ (aO bv (l.take k)) rfl R1.out ?c1 (by unfold maxLen;omega) (by omega) (qL) ?_)
    case c1=>exact bf _
    intro v1 w1 ho1 hg1 _;have N1:Hid (kO wd v1 k ([]++l.take k) w1):=qD (N0.out.next rfl (by omega) ho1 hg1);clear ho1 hg1;have hw1:=N1.out.bel.size;go_wp2_with (at_builtin;refine aJ _ rfl _ _ 25 rfl wd.heap.size 9 j0 (.string empty) 1 16 Kr hj0 hy0 hy1 hy2 rfl (by decide) v1 k (aO bv ([]++l.take k)) rfl (N1.out.alloc _).own _ _ 1 _ (aO bv [x]) rfl ⟨rfl,fun _=>⟨_,rfl,Km _,ao _ _ _⟩⟩ ?c1 (by unfold maxLen;omega) (by omega) (cg hw1 _) ?_)
    case c1=>exact bf _
    intro v2 w2 ho2 hg2 _;have N2:Hid (kO wd v2 (k+1) ([]++l.take k++[x]) w2):=qD ((N1.out.alloc _).next rfl (by omega) ho2 hg2);clear ho2 hg2;have hw2:=N2.out.bel.size;go_wp2_with (at_builtin;refine aJ _ rfl _ _ 25 rfl wd.heap.size 9 j0 (.string empty) 1 16 Kr hj0 hy0 hy1 hy2 rfl (by decide) v2 (k+1) (aO bv ([]++l.take k++[x])) rfl N2.out.own _ _ (n-k) _ (aO bv (l.drop k)) rfl (R2.out.below N2.out.bel) ?c1 (by unfold maxLen;omega) (by omega) hw2 ?_)
    case c1=>exact bf _
    intro v3 w3 ho3 hg3 _;have N3:Hid (kO wd v3 (k+1+(n-k)) ([]++l.take k++[x]++l.drop k) w3):=qD (N2.out.next rfl (by omega) ho3 hg3);clear ho3 hg3;go_wp2_with fail;go_ret;exact N3.out.ins (by have:=HLN.out;omega) HEL.out HXS.out (by omega) HB.out _
theorem TL.take{w:World}{A:Option Addr}{n c:Nat}{l:List ByteArray}(h:TL w A n c l){k:Nat}(hk:k<=n):TL w A k c (l.take k):=by
 refine⟨⟨?_,KM hk h.sr.lc,fun h0=>?_⟩,fun s hs=>h.el s (MT hs),h.form⟩
 ·rw[LI];have:=h.sr.ln;omega
 ·obtain⟨b,off,e,hb,hc⟩:=h.sr.el (by omega);refine⟨b,off,e,hb,fun i a hi j v hj=>hc i a ?_ j v hj⟩;rw[MR] at hi;split at hi
  ·exact hi
  ·cases hi
theorem eh(l ws:List ByteArray)(A B:Option Addr)(n c m d:Nat)(w:World)(hS:dJ w)(h:TL w A n c l)(h':TL w B m d ws)(hn:n+m<=100000000):Calls prog 296 #[.slice A n c,.slice B m d] w (CU A (n+m) w):=by
 have HS:=qD hS;have H:=qD h;have H':=qD h';clear h h' hS;go_enter func296,ntmps296;go_upto_region 2 with fail
 go_loopw [0,5] (fun v0 v5 wr=>∃(i k:Nat) (A1:Option Addr) (c1:Nat) (l1:List ByteArray),i<=m/\v5=.int .i64 i/\v0=.slice A1 k c1/\k<=n+i/\TL wr A1 k c1 l1/\Below w.heap.size w wr/\(A1=A\/∀a,A1=some a->w.heap.size<=a.block/\a.block<wr.heap.size)) (fun _ v5 _=>m-(intOf v5).toNat)
 ·exact⟨0,n,A,c,l,KD _,rfl,rfl,qL,H.out,Ju _ _,.inl rfl⟩
 case round=>
  obtain⟨i,k,A1,c1,l1,hi,rfl,rfl,hk,htl,hb,hfr⟩:=hrel;have HFR:=qD hfr;clear hfr;have HT:=qD htl;have HB:=qD hb;by_cases hlt:i<m
  ·obtain⟨b,off,y,rfl,hbb,hy,e0⟩:=H'.out.sr.JH hlt;have e1:=(hb.cell (p:=⟨b,off+i,none⟩) hbb).trans e0;have HY:=qD (H'.out.el y (Jx hy));have HBB:=qD hbb;have HE0:=qD e0;have i0:(0:Int)<=(i:Int):=by omega
   have i1:(i:Int)<(m:Int):=by omega
   clear hb e0 hy htl hbb;go_wp2_with fail;refine(AG y wr (HS.out.step HB.out)).mono ?_;rintro e w1 ⟨r,rfl,_,hb⟩;replace HFR:Hid (A1=A\/∀a,A1=some a->w.heap.size<=a.block/\a.block<w1.heap.size):=qD (HFR.out.imp id fun h a ha=>⟨(h a ha).1,Ka (h a ha).2 hb.size⟩);replace HT:=qD (HT.out.step hb);replace HB:=qD (HB.out.Ih hb);clear hb e1;cases r
   ·have e1:=(HB.out.cell (p:=⟨b,off+i,none⟩) HBB.out).trans HE0.out;go_wp2_with fail;refine(zn y w1 (KM HY.out (by decide))).mono ?_;rintro e w2 ⟨z,rfl,hz,hb⟩;replace HFR:Hid (A1=A\/∀a,A1=some a->w.heap.size<=a.block/\a.block<w2.heap.size):=qD (HFR.out.imp id fun h a ha=>⟨(h a ha).1,Ka (h a ha).2 hb.size⟩);replace HT:=qD (HT.out.step hb);replace HB:=qD (HB.out.Ih hb);have HZ:=qD (KM hz HY.out);clear hb e1 hz;go_wp2_with fail;refine(CV l1 z A1 k c1 w2 HT.out (by omega) HZ.out).mono ?_;rintro e w3 ⟨A2,k2,c2,l2,rfl,ht2,hk2,hb,hf2⟩
    have HF2:Hid (A2=A\/∀a,A2=some a->w.heap.size<=a.block/\a.block<w3.heap.size):=by
     rcases hf2 with rfl|h
     ·exact qD (HFR.out.imp id fun h a ha=>⟨(h a ha).1,Ka (h a ha).2 hb.size⟩)
     ·exact qD (.inr fun a ha=>⟨KM HB.out.size (h a ha).1,(h a ha).2⟩)
    clear hf2;replace HB:=qD (HB.out.Ih hb);have HT2:=qD ht2;clear hb ht2 HT;go_wp2_with fail;go_roundw
    ·exact⟨i+1,k2,A2,c2,l2,by omega,by go_num,rfl,by omega,HT2.out,HB.out,HF2.out⟩
    ·simp[intOf];omega
   ·go_wp2_with fail;go_roundw
    ·exact⟨i+1,k,A1,c1,l1,by omega,by go_num,rfl,by omega,HT.out,HB.out,HFR.out⟩
    ·simp[intOf];omega
  ·obtain rfl:i=m:=by omega
   clear hb htl;go_wp2_with fail;go_ret;exact⟨A1,k,c1,l1,rfl,HT.out,hk,HB.out,HFR.out⟩
theorem kP(s:ByteArray)(w:World)(hs:s.size<=1000000):Calls prog 297 #[.string s] w (CU none (s.size+1) w):=by
 obtain⟨j0,hj0,hy0,hy1,hy2⟩:=LM fx;go_enter func297,ntmps297;go_upto_region 4 with fail
 go_loopw [3,4,5] (fun v3 v4 v5 wr=>∃(i b k:Nat) (xs:List ByteArray),i<=s.size+1/\v5=.int .i64 i/\v4=.int .i64 b/\b<=i/\kO w v3 k xs wr/\xs.length=k/\k<=i/\∀x∈xs,x.size<=1000000) (fun _ _ v5 _=>s.size+1-(intOf v5).toNat)
 ·exact⟨0,0,0,[],KD _,rfl,rfl,qL,⟨bX _ _ _ _,Ju _ _⟩,rfl,qL,by simp⟩
 case round=>
  obtain⟨i,b,k,xs,hi,rfl,rfl,hbi0,hI,hln,hk,hel⟩:=hrel;have HI:=qD hI;have HLN:=qD hln;have HEL:=qD hel;clear hI hln hel;by_cases hle:i<=s.size
  ·have j0':(i:Int)<=(s.size:Int):=by omega
   have ji:(0:Int)<=(i:Int):=by omega
   by_cases hlt:i<s.size
   ·have jl:(i:Int)<(s.size:Int):=by omega
    go_wp2_with fail;refine(nj _ _).mono ?_;rintro e w1 ⟨r,rfl,_,hb⟩;replace HI:=qD (HI.out.step hb);clear hb;cases r
    ·by_cases hbi:b<i
     ·have j1:(b:Int)<(i:Int):=by omega
      have j2:(0:Int)<=(b:Int):=by omega
      have j3:(i:Int)<=(s.size:Int):=by omega
      go_wp2_with fail;refine(dE (s.extract b i) _ (KM dF (by omega))).mono ?_;rintro e w2 ⟨z,rfl,hz,hb⟩;replace HI:=qD (HI.out.step hb);have HZ:Hid (z.size<=1000000):=qD (KM hz (KM dF (by omega)));have hlo:w.heap.size<=w2.heap.size:=HI.out.bel.size;clear hb hz;go_wp2_with (at_builtin;refine aJ _ rfl _ _ 25 rfl w.heap.size 9 j0 (.string empty) 1 16 Kr hj0 hy0 hy1 hy2 rfl (by decide) u3 k (aO bv (xs)) rfl (HI.out.alloc _).own _ _ 1 _ (aO bv [z]) rfl ⟨rfl,fun _=>⟨_,rfl,Km _,ao _ _ _⟩⟩ ?c1 (by unfold maxLen;omega) (by omega) (cg hlo _) ?_)
      case c1=>exact bf _
      intro v' w3 ho hg _;have HN:Hid (kO w v' (k+1) (xs++[z]) w3):=qD ((HI.out.alloc _).next rfl rfl ho hg);clear ho hg;go_wp2_with fail;go_roundw
      case rel=>exact⟨i+1,i+1,k+1,xs++[z],by omega,by go_num,by go_num,qL,HN.out,by simp;exact HLN.out,by omega,fun x hx=>by
       rcases KI.1 hx with hx|hx
       ·exact HEL.out x hx
       ·obtain rfl:x=z:=by simpa using hx
        exact HZ.out⟩
      case measure=>simp[intOf];omega
     ·have j1:¬(b:Int)<(i:Int):=by omega
      go_wp2_with fail;go_roundw
      ·exact⟨i+1,i+1,k,xs,by omega,by go_num,by go_num,qL,HI.out,HLN.out,by omega,HEL.out⟩
      ·simp[intOf];omega
    ·go_wp2_with fail;go_roundw
     ·exact⟨i+1,b,k,xs,by omega,by go_num,rfl,by omega,HI.out,HLN.out,by omega,HEL.out⟩
     ·simp[intOf];omega
   ·have jl:¬(i:Int)<(s.size:Int):=by omega
    have jn:¬i<s.size:=hlt;by_cases hbi:b<i
    ·have j1:(b:Int)<(i:Int):=by omega
     have j2:(0:Int)<=(b:Int):=by omega
     have j3:(i:Int)<=(s.size:Int):=by omega
     go_wp2_with fail;refine(dE (s.extract b i) _ (KM dF (by omega))).mono ?_;rintro e w2 ⟨z,rfl,hz,hb⟩;replace HI:=qD (HI.out.step hb);have HZ:Hid (z.size<=1000000):=qD (KM hz (KM dF (by omega)));have hlo:w.heap.size<=w2.heap.size:=HI.out.bel.size;clear hb hz;go_wp2_with (at_builtin;refine aJ _ rfl _ _ 25 rfl w.heap.size 9 j0 (.string empty) 1 16 Kr hj0 hy0 hy1 hy2 rfl (by decide) u3 k (aO bv (xs)) rfl (HI.out.alloc _).own _ _ 1 _ (aO bv [z]) rfl ⟨rfl,fun _=>⟨_,rfl,Km _,ao _ _ _⟩⟩ ?c1 (by unfold maxLen;omega) (by omega) (cg hlo _) ?_)
     case c1=>exact bf _
     intro v' w3 ho hg _;have HN:Hid (kO w v' (k+1) (xs++[z]) w3):=qD ((HI.out.alloc _).next rfl rfl ho hg);clear ho hg;go_wp2_with fail;go_roundw
     case rel=>exact⟨i+1,i+1,k+1,xs++[z],by omega,by go_num,by go_num,qL,HN.out,by simp;exact HLN.out,by omega,fun x hx=>by
      rcases KI.1 hx with hx|hx
      ·exact HEL.out x hx
      ·obtain rfl:x=z:=by simpa using hx
       exact HZ.out⟩
     case measure=>simp[intOf];omega
    ·have j1:¬(b:Int)<(i:Int):=by omega
     go_wp2_with fail;go_roundw
     ·exact⟨i+1,i+1,k,xs,by omega,by go_num,by go_num,qL,HI.out,HLN.out,by omega,HEL.out⟩
     ·simp[intOf];omega
  ·have j0':¬(i:Int)<=(s.size:Int):=by omega
   have jn:¬i<=s.size:=hle;go_wp2_with fail;go_ret;obtain⟨A,c,rfl,ht,hfr⟩:=TL.Ik HI.out.own HLN.out HEL.out;exact⟨A,k,c,xs,rfl,ht,by omega,HI.out.bel,.inr hfr⟩
theorem xM(s:ByteArray)(w:World)(hS:dJ w)(hs:s.size<=1000000):Calls prog 254 #[.string s] w (CU none 128 w):=by
 have HS:=qD hS;clear hS;go_enter func254,ntmps254;go_wp2_with fail;refine(kP s w hs).mono ?_;rintro e w1 ⟨A,n,c,l,rfl,ht,hn,hb,_⟩;have HB:=qD hb;have HT:=qD ht;clear hb ht;go_wp2_with fail;refine(eh [] l none A 0 0 n c w1 (HS.out.step HB.out) TL.zero HT.out (by omega)).mono ?_;rintro e w2 ⟨A2,n2,c2,l2,rfl,ht,hn2,hb,hfr⟩;have HFR:Hid (A2=none\/∀a,A2=some a->w.heap.size<=a.block/\a.block<w2.heap.size):=qD (hfr.imp id fun h a ha=>⟨KM HB.out.size (h a ha).1,(h a ha).2⟩);clear hfr;replace HB:=qD (HB.out.Ih hb);have HT2:=qD ht;have hnc:=ht.sr.lc;clear hb ht HT;obtain⟨k,hk⟩:∃k:Nat,k=min n2 128:=⟨_,rfl⟩;have hk1:k<=n2:=by omega
 have hk2:k<=128:=by omega
 have hk3:min (n2:Int) 128=(k:Int):=by omega
 have HK:=qD hk;clear hk;go_wp2_with fail;go_ret;exact⟨A2,k,c2,_,rfl,HT2.out.take hk1,hk2,HB.out,HFR.out⟩
def Gh(K:Nat)(w:World)(e:Ending)(w':World):Prop:=∃A n c l B m d k,e=.returned (.tuple #[.slice A n c,.slice B m d])/\TL w' A n c l/\TL w' B m d k/\n<=K/\m<=K/\Below w.heap.size w w'
end
structure AH(w:World)(i:Nat)(v4 v5:Value)(k m:Nat)(xs ys:List ByteArray)(wr:World):Prop where
 r4:kO w v4 k xs wr
 r5:kO w v5 m ys wr
 ne:v4.ownBlock=none\/v4.ownBlock≠v5.ownBlock
 l4:xs.length=k
 l5:ys.length=m
 k4:k<=i
 k5:m<=i
 e4:∀x∈xs,x.size<=1000000
 e5:∀x∈ys,x.size<=1000000
section
variable {xs ys:List ByteArray} {b k i g o n m base size:Nat} {s:ByteArray} {w w' wr wx:World} {e:TypeId} {v v' v4 v5:Value}
theorem AH.step{w:World}{i:Nat}{v4 v5:Value}{k m:Nat}{xs ys:List ByteArray}{wr w':World}(h:AH w i v4 v5 k m xs ys wr)(hb:Below wr.heap.size wr w'):AH w i v4 v5 k m xs ys w':=⟨h.r4.step hb,h.r5.step hb,h.ne,h.l4,h.l5,h.k4,h.k5,h.e4,h.e5⟩
theorem AH.up{w:World}{i:Nat}{v4 v5:Value}{k m:Nat}{xs ys:List ByteArray}{wr:World}(h:AH w i v4 v5 k m xs ys wr):AH w (i+1) v4 v5 k m xs ys wr:=⟨h.r4,h.r5,h.ne,h.l4,h.l5,MJ h.k4,MJ h.k5,h.e4,h.e5⟩
theorem xN{w w':World}{base n:Nat}{v v':Value}{xs:List Value}{e:TypeId}(h:w.ownsRow base e 1 v n xs)(hg:w.grownBy w' v'.ownBlock)(hne:v.ownBlock=none\/v.ownBlock≠v'.ownBlock):w'.ownsRow base e 1 v n xs:=by
 refine⟨h.1,?_⟩;rcases h.2 with h1|⟨g,cap,cur,hv,hge,hh,r2⟩
 ·exact .inl h1
 ·have hl:g<w.heap.size:=aG.lt (t:=e) (cs:=cur) hh;have hb:v.ownBlock=some g:=by rw[hv];rfl
  refine .inr ⟨g,cap,cur,hv,hge,?_,r2⟩
  exact(hg.block g hl (fun e=>by
   rcases hne with h0|h0
   ·rw[hb] at h0;cases h0
   ·exact h0 (by rw[hb,e]))).trans hh
theorem Gi{v v':Value}{g:Nat}{o:Option Nat}(hat:v'.ownBlock=v.ownBlock\/v'.ownBlock=some g)(hne:o=none\/v.ownBlock≠o)(hlt:∀b,o=some b->b<g):o=none\/v'.ownBlock≠o:=by
 rcases hne with h|h
 ·exact .inl h
 ·rcases hat with k|k
  ·exact .inr (by rw[k];exact h)
  ·cases o with
   | none=>exact .inl rfl
   | some b=>exact .inr (by rw[k];intro e;injection e with e;have:=hlt b rfl;omega)
theorem kO.other{wx wr w':World}{v v4:Value}{n m:Nat}{xs ys:List ByteArray}(h:kO wx v n xs wr)(h4:kO wx v4 m ys wr)(hg:wr.grownBy w' v4.ownBlock)(hne:v.ownBlock=none\/v.ownBlock≠v4.ownBlock):kO wx v n xs w':=⟨xN h.own hg hne,h4.bel.grown hg h4.bel.size (bF h4.own)⟩
theorem kO.lt{wx wr:World}{v:Value}{n:Nat}{xs:List ByteArray}(h:kO wx v n xs wr):∀b,v.ownBlock=some b->b<wr.heap.size:=by
 intro b hb;rcases h.own.2 with⟨h1,_⟩|⟨g,cap,cur,hv,_,hh,_⟩
 ·rw[h1] at hb;cases hb
 ·rw[hv] at hb;injection hb with hb
  subst hb;exact aG.lt (t:=9) (cs:=cur) hh
theorem AH.JJ{w:World}{i:Nat}{v4 v5 v':Value}{k m:Nat}{xs ys:List ByteArray}{wr w':World}{z:ByteArray}{o:Obj}(h:AH w i v4 v5 k m xs ys wr)(hz:z.size<=1000000)(ho:w'.ownsRow w.heap.size 9 1 v' (k+1) (aO bv xs++aO bv [z]))(hg:(wr.alloc o).grownBy w' v4.ownBlock)(hat':v'.ownBlock=v4.ownBlock\/v'.ownBlock=some (wr.heap.size+1)):AH w (i+1) v' v5 (k+1) m (xs++[z]) ys w':=by
 have h4:=h.r4.alloc o;have h5:=h.r5.alloc o;have hat:v'.ownBlock=v4.ownBlock\/v'.ownBlock=some (wr.alloc o).heap.size:=by simpa using hat'
 have hne:v5.ownBlock=none\/v5.ownBlock≠v4.ownBlock:=by
  rcases h.ne with e|e
  ·rcases hv:v5.ownBlock with _|b
   ·exact .inl rfl
   ·exact .inr (by rw[e];simp)
  ·exact .inr fun k=>e k.symm
 refine⟨h4.next rfl rfl ho hg,h5.other h4 hg hne,?_,by simp[h.l4],h.l5,by have:=h.k4;omega,MJ h.k5,fun x hx=>?_,h.e5⟩
 ·rcases hv:v5.ownBlock with _|b
  ·rcases hv':v'.ownBlock with _|b'
   ·exact .inl rfl
   ·exact .inr (by simp)
  ·rcases Gi (o:=some b) hat (by
    rcases h.ne with e|e
    ·exact .inr (by rw[e];simp)
    ·exact .inr (by rw[<-hv];exact e)) (fun c hc=>by injection hc with hc;subst hc;exact h5.lt b hv) with e|e
   ·cases e
   ·exact .inr e
 ·rcases KI.1 hx with hx|hx
  ·exact h.e4 x hx
  ·obtain rfl:x=z:=by simpa using hx
   exact hz
theorem AH.swap{w:World}{i:Nat}{v4 v5:Value}{k m:Nat}{xs ys:List ByteArray}{wr:World}(h:AH w i v4 v5 k m xs ys wr):AH w i v5 v4 m k ys xs wr:=by
 refine⟨h.r5,h.r4,?_,h.l5,h.l4,h.k5,h.k4,h.e5,h.e4⟩;rcases h.ne with e|e
 ·rcases hv:v5.ownBlock with _|b
  ·exact .inl rfl
  ·exact .inr (by rw[e];simp)
 ·exact .inr fun k=>e k.symm
theorem pO(s:ByteArray)(w:World)(hs:s.size<=1000000):Calls prog 299 #[.string s] w (Gh (s.size+1) w):=by
 obtain⟨j0,hj0,hy0,hy1,hy2⟩:=LM fx;go_enter func299,ntmps299;go_upto_region 4 with fail
 go_loopw [4,5,6,7] (fun v4 v5 v6 v7 wr=>∃(i b k m:Nat) (xs ys:List ByteArray),i<=s.size+1/\v7=.int .i64 i/\v6=.int .i64 b/\b<=i/\AH w i v4 v5 k m xs ys wr) (fun _ _ _ v7 _=>s.size+1-(intOf v7).toNat)
 ·exact⟨0,0,0,0,[],[],KD _,rfl,rfl,qL,⟨bX _ _ _ _,Ju _ _⟩,⟨bX _ _ _ _,Ju _ _⟩,.inl rfl,rfl,rfl,qL,qL,by simp,by simp⟩
 case round=>
  obtain⟨i,b,k,m,xs,ys,hi,rfl,rfl,hbi0,hI⟩:=hrel;have HI:=qD hI;clear hI;by_cases hle:i<=s.size
  ·have j0':(i:Int)<=(s.size:Int):=by omega
   have ji:(0:Int)<=(i:Int):=by omega
   by_cases hlt:i<s.size
   ·have jl:(i:Int)<(s.size:Int):=by omega
    go_wp2_with fail;refine(nj _ _).mono ?_;rintro e w1 ⟨r,rfl,_,hb⟩;replace HI:=qD (HI.out.step hb);clear hb;cases r
    ·by_cases hbi:b<i
     ·have j1:(b:Int)<(i:Int):=by omega
      have j2:(0:Int)<=(b:Int):=by omega
      have j3:(i:Int)<=(s.size:Int):=by omega
      have hsz2:(s.extract b i).size<=1000000000:=KM dF (by omega);have HSZ:Hid ((s.extract b i).size<=1000000):=qD (KM dF hs);rcases LH b with rfl|hb0
      ·go_wp2_with fail;refine(dE (s.extract 0 i) _ hsz2).mono ?_;rintro e w2 ⟨z,rfl,hz,hb⟩;replace HI:=qD (HI.out.step hb);have HZ:Hid (z.size<=1000000):=qD (KM hz HSZ.out);have hlo:w.heap.size<=w2.heap.size:=HI.out.r4.bel.size;have hkz:k<=1000001:=by have h1:=HI.out.k4;have h2:=HI.out.k5;omega
       clear hb hz;go_wp2_with (at_builtin;refine aJ _ rfl _ _ 25 rfl w.heap.size 9 j0 (.string empty) 1 16 Kr hj0 hy0 hy1 hy2 rfl (by decide) u4 k (aO bv (xs)) rfl (HI.out.r4.alloc _).own _ _ 1 _ (aO bv [z]) rfl ⟨rfl,fun _=>⟨_,rfl,Km _,ao _ _ _⟩⟩ ?c1 (by unfold maxLen;omega) (by omega) (cg hlo _) ?_)
       case c1=>exact bf _
       intro v' w3 ho hg hat;have HN:=qD (HI.out.JJ HZ.out ho hg hat);clear ho hg hat;go_wp2_with fail;go_roundw
       ·exact⟨i+1,i+1,k+1,m,xs++[z],ys,by omega,by go_num,by go_num,qL,HN.out⟩
       ·simp[intOf];omega
      ·obtain⟨d,rfl⟩:∃d,b=d+1:=⟨b-1,by omega⟩;have hds:d<s.size:=by omega
       have j4:(0:Int)<(d:Int)+1:=by omega
       have j6:(d:Int)<(s.size:Int):=by omega
       have j7:(0:Int)<=(d:Int):=by omega
       obtain⟨y,hy⟩:=eX hds;cases hq:(y==45)
       ·go_wp2_with fail;refine(dE (s.extract (d+1) i) _ hsz2).mono ?_;rintro e w2 ⟨z,rfl,hz,hb⟩;replace HI:=qD (HI.out.step hb);have HZ:Hid (z.size<=1000000):=qD (KM hz HSZ.out);have hlo:w.heap.size<=w2.heap.size:=HI.out.r4.bel.size;have hkz:k<=1000001:=by have h1:=HI.out.k4;have h2:=HI.out.k5;omega
        clear hb hz;go_wp2_with (at_builtin;refine aJ _ rfl _ _ 25 rfl w.heap.size 9 j0 (.string empty) 1 16 Kr hj0 hy0 hy1 hy2 rfl (by decide) u4 k (aO bv (xs)) rfl (HI.out.r4.alloc _).own _ _ 1 _ (aO bv [z]) rfl ⟨rfl,fun _=>⟨_,rfl,Km _,ao _ _ _⟩⟩ ?c1 (by unfold maxLen;omega) (by omega) (cg hlo _) ?_)
        case c1=>exact bf _
        intro v' w3 ho hg hat;have HN:=qD (HI.out.JJ HZ.out ho hg hat);clear ho hg hat;go_wp2_with fail;go_roundw
        ·exact⟨i+1,i+1,k+1,m,xs++[z],ys,by omega,by go_num,by go_num,qL,HN.out⟩
        ·simp[intOf];omega
       ·go_wp2_with fail;refine(dE (s.extract (d+1) i) _ hsz2).mono ?_;rintro e w2 ⟨z,rfl,hz,hb⟩;replace HI:=qD (HI.out.step hb);have HZ:Hid (z.size<=1000000):=qD (KM hz HSZ.out);have hlo:w.heap.size<=w2.heap.size:=HI.out.r4.bel.size;have hkz:m<=1000001:=by have h1:=HI.out.k4;have h2:=HI.out.k5;omega
        clear hb hz;go_wp2_with (at_builtin;refine aJ _ rfl _ _ 25 rfl w.heap.size 9 j0 (.string empty) 1 16 Kr hj0 hy0 hy1 hy2 rfl (by decide) u5 m (aO bv (ys)) rfl (HI.out.r5.alloc _).own _ _ 1 _ (aO bv [z]) rfl ⟨rfl,fun _=>⟨_,rfl,Km _,ao _ _ _⟩⟩ ?c1 (by unfold maxLen;omega) (by omega) (cg hlo _) ?_)
        case c1=>exact bf _
        intro v' w3 ho hg hat;have HN:=qD ((HI.out.swap.JJ HZ.out ho hg hat).swap);clear ho hg hat;go_wp2_with fail;go_roundw
        ·exact⟨i+1,i+1,k,m+1,xs,ys++[z],by omega,by go_num,by go_num,qL,HN.out⟩
        ·simp[intOf];omega
     ·have j1:¬(b:Int)<(i:Int):=by omega
      go_wp2_with fail;go_roundw
      ·exact⟨i+1,i+1,k,m,xs,ys,by omega,by go_num,by go_num,qL,HI.out.up⟩
      ·simp[intOf];omega
    ·go_wp2_with fail;go_roundw
     ·exact⟨i+1,b,k,m,xs,ys,by omega,by go_num,rfl,by omega,HI.out.up⟩
     ·simp[intOf];omega
   ·have jl:¬(i:Int)<(s.size:Int):=by omega
    have jn:¬i<s.size:=hlt;by_cases hbi:b<i
    ·have j1:(b:Int)<(i:Int):=by omega
     have j2:(0:Int)<=(b:Int):=by omega
     have j3:(i:Int)<=(s.size:Int):=by omega
     have hsz2:(s.extract b i).size<=1000000000:=KM dF (by omega);have HSZ:Hid ((s.extract b i).size<=1000000):=qD (KM dF hs);rcases LH b with rfl|hb0
     ·go_wp2_with fail;refine(dE (s.extract 0 i) _ hsz2).mono ?_;rintro e w2 ⟨z,rfl,hz,hb⟩;replace HI:=qD (HI.out.step hb);have HZ:Hid (z.size<=1000000):=qD (KM hz HSZ.out);have hlo:w.heap.size<=w2.heap.size:=HI.out.r4.bel.size;have hkz:k<=1000001:=by have h1:=HI.out.k4;have h2:=HI.out.k5;omega
      clear hb hz;go_wp2_with (at_builtin;refine aJ _ rfl _ _ 25 rfl w.heap.size 9 j0 (.string empty) 1 16 Kr hj0 hy0 hy1 hy2 rfl (by decide) u4 k (aO bv (xs)) rfl (HI.out.r4.alloc _).own _ _ 1 _ (aO bv [z]) rfl ⟨rfl,fun _=>⟨_,rfl,Km _,ao _ _ _⟩⟩ ?c1 (by unfold maxLen;omega) (by omega) (cg hlo _) ?_)
      case c1=>exact bf _
      intro v' w3 ho hg hat;have HN:=qD (HI.out.JJ HZ.out ho hg hat);clear ho hg hat;go_wp2_with fail;go_roundw
      ·exact⟨i+1,i+1,k+1,m,xs++[z],ys,by omega,by go_num,by go_num,qL,HN.out⟩
      ·simp[intOf];omega
     ·obtain⟨d,rfl⟩:∃d,b=d+1:=⟨b-1,by omega⟩;have hds:d<s.size:=by omega
      have j4:(0:Int)<(d:Int)+1:=by omega
      have j6:(d:Int)<(s.size:Int):=by omega
      have j7:(0:Int)<=(d:Int):=by omega
      obtain⟨y,hy⟩:=eX hds;cases hq:(y==45)
      ·go_wp2_with fail;refine(dE (s.extract (d+1) i) _ hsz2).mono ?_;rintro e w2 ⟨z,rfl,hz,hb⟩;replace HI:=qD (HI.out.step hb);have HZ:Hid (z.size<=1000000):=qD (KM hz HSZ.out);have hlo:w.heap.size<=w2.heap.size:=HI.out.r4.bel.size;have hkz:k<=1000001:=by have h1:=HI.out.k4;have h2:=HI.out.k5;omega
       clear hb hz;go_wp2_with (at_builtin;refine aJ _ rfl _ _ 25 rfl w.heap.size 9 j0 (.string empty) 1 16 Kr hj0 hy0 hy1 hy2 rfl (by decide) u4 k (aO bv (xs)) rfl (HI.out.r4.alloc _).own _ _ 1 _ (aO bv [z]) rfl ⟨rfl,fun _=>⟨_,rfl,Km _,ao _ _ _⟩⟩ ?c1 (by unfold maxLen;omega) (by omega) (cg hlo _) ?_)
       case c1=>exact bf _
       intro v' w3 ho hg hat;have HN:=qD (HI.out.JJ HZ.out ho hg hat);clear ho hg hat;go_wp2_with fail;go_roundw
       ·exact⟨i+1,i+1,k+1,m,xs++[z],ys,by omega,by go_num,by go_num,qL,HN.out⟩
       ·simp[intOf];omega
      ·go_wp2_with fail;refine(dE (s.extract (d+1) i) _ hsz2).mono ?_;rintro e w2 ⟨z,rfl,hz,hb⟩;replace HI:=qD (HI.out.step hb);have HZ:Hid (z.size<=1000000):=qD (KM hz HSZ.out);have hlo:w.heap.size<=w2.heap.size:=HI.out.r4.bel.size;have hkz:m<=1000001:=by have h1:=HI.out.k4;have h2:=HI.out.k5;omega
       clear hb hz;go_wp2_with (at_builtin;refine aJ _ rfl _ _ 25 rfl w.heap.size 9 j0 (.string empty) 1 16 Kr hj0 hy0 hy1 hy2 rfl (by decide) u5 m (aO bv (ys)) rfl (HI.out.r5.alloc _).own _ _ 1 _ (aO bv [z]) rfl ⟨rfl,fun _=>⟨_,rfl,Km _,ao _ _ _⟩⟩ ?c1 (by unfold maxLen;omega) (by omega) (cg hlo _) ?_)
       case c1=>exact bf _
       intro v' w3 ho hg hat;have HN:=qD ((HI.out.swap.JJ HZ.out ho hg hat).swap);clear ho hg hat;go_wp2_with fail;go_roundw
       ·exact⟨i+1,i+1,k,m+1,xs,ys++[z],by omega,by go_num,by go_num,qL,HN.out⟩
       ·simp[intOf];omega
    ·have j1:¬(b:Int)<(i:Int):=by omega
     go_wp2_with fail;go_roundw
     ·exact⟨i+1,i+1,k,m,xs,ys,by omega,by go_num,by go_num,qL,HI.out.up⟩
     ·simp[intOf];omega
  ·have j0':¬(i:Int)<=(s.size:Int):=by omega
   have jn:¬i<=s.size:=hle;go_wp2_with fail;go_ret2;obtain⟨A,c,rfl,ht,_⟩:=TL.Ik HI.out.r4.own HI.out.l4 HI.out.e4;obtain⟨B,d,rfl,ht',_⟩:=TL.Ik HI.out.r5.own HI.out.l5 HI.out.e5;exact⟨A,k,c,xs,B,m,d,ys,rfl,ht,ht',by have:=HI.out.k4;omega,by have:=HI.out.k5;omega,HI.out.r4.bel⟩
theorem un(p s:ByteArray)(w:World)(hp:p.size<=1000000000)(hs:s.size<=1000000000):Calls prog 256 #[.string p,.string s] w (am (fun _=>True) w):=by
 go_enter func256,ntmps256;go_upto_region 2 with fail
 go_loopw [5] (fun v wr=>∃i:Nat,i<=s.size+1/\v=.int .i64 i/\Below w.heap.size w wr) (fun v _=>s.size+1-(intOf v).toNat)
 ·exact⟨0,KD _,rfl,Ju _ _⟩
 case round=>
  obtain⟨i,hi,rfl,hb⟩:=hrel;have HB:=qD hb;clear hb;by_cases hle:i+p.size<=s.size
  ·have j0:(i:Int)+(p.size:Int)<=(s.size:Int):=by omega
   have j1:(0:Int)<=(i:Int):=by omega
   have j2:(i:Int)<=(i:Int)+(p.size:Int):=by omega
   go_wp2_with fail
   all_goals first
    | (go_ret;exact am.of trivial HB.out)
    | (go_roundw
       ·exact⟨i+1,by omega,by go_num,HB.out⟩
       ·simp[intOf];omega)
  ·have j0:¬(i:Int)+(p.size:Int)<=(s.size:Int):=by omega
   go_wp2_with fail;go_ret;exact am.of trivial HB.out
end
end Go.Proofs.YtgfoliedmhgpnaaGreatDoor
