/- A part of the proof. -/
import Derived.Test.YtgfoliedmhgpnaaGreatDoorCn16
import Derived.DeepKeys
import Derived.Laws.StructEq
import Derived.Deep.Quiet
import Derived.Laws.IdiomCopy
import Derived.Lib.SliceRun
import Derived.Laws.OwnMore
set_option maxRecDepth 100000
set_option maxHeartbeats 16000000
open Go.Proofs.Tryz
open ByteArray (empty)
namespace Go.Proofs.YtgfoliedmhgpnaaGreatDoor
open Go.RowKit
section
variable {α:Type} {cm:α->α->Int}
end
def qC(g:Nat)(w:World)(A X Y D:List (B2×Nat))(e:Ending)(w':World):Prop:=e=.returned (.tuple #[])/\∃S,aS bU (X++Y) S/\iv g w (A++S++D) w'
structure gT(A X Y D:List (B2×Nat))(g n:Nat)(w:World):Prop where
 row:cJ w g (A++X++Y++D)
 ln:n=(A++X++Y++D).length
 sz:n*32<=aF
 hX:X.Pairwise (RT bU)
 hY:Y.Pairwise (RT bU)
 hT:∀x∈X,∀y∈Y,x.2<y.2
 cmp:lS g w (X++Y)
section
variable {b n g m c:Nat} {w w1:World} {a x y:Int} {A:Option Addr} {ha:Bool}
theorem Ky(H:cM bU)(A:List (B2×Nat))(x:B2×Nat)(Y D:List (B2×Nat))(g n c a m b:Nat)(aI mI bI:Int)(w:World)(h:gT A [x] Y D g n w)(ha:a=A.length)(hm:m=a+1)(hb:b=m+Y.length)(haI:aI=a)(hmI:mI=m)(hbI:bI=b):
  Calls prog 214 #[.slice (some ⟨g,0,none⟩) n c,.int .i64 aI,.int .i64 mI,.int .i64 bI,.func (.func 111) #[] #[]] w (qC g w A [x] Y D):=by
  subst haI hmI hbI;have hz:=h.sz;unfold aF at hz;have hbn:b<=n:=by have:=h.ln;simp at this;omega
  have ham:((m:Int)-(a:Int)==1)=true:=by simp;omega
  have HA:=qD ha;have HM:=qD hm;have hm1:a<m:=oM
  have hmb:m<=b:=oM
  have HBq:=qD hb;have HH:=qD h;have HO:=qD H;have I0:Hid (iv g w (A++[x]++Y++D) w):=qD ⟨h.row,fD.refl⟩;clear h ha hm hb H;go_enter func214,ntmps214;go_wp2_with fail
  go_loopw [10,11] (fun v10 v11 wr=>∃(i j:Nat),v10=.int .i64 i/\v11=.int .i64 j/\m<=i/\i<=j/\j<=b/\(∀(k:Nat) y,Y[k]?=some y->m+k<i->bU y.1 x.1<0)/\(∀(k:Nat) y,Y[k]?=some y->j<=m+k->¬bU y.1 x.1<0)/\iv g w (A++[x]++Y++D) wr) (fun v10 v11 _=>(intOf v11).toNat-(intOf v10).toNat)
  ·exact⟨m,b,rfl,rfl,qL,hmb,qL,fun k y _ hk=>by omega,fun k y hy hk=>by have:=(OI.1 hy).1;have:=HBq.out;omega,I0.out⟩
  case round=>
   obtain⟨i,j,rfl,rfl,hmi,hij,hjb,hlo,hhi,I⟩:=hrel;have HLo:=qD hlo;have HHi:=qD hhi;have J:=qD I;clear hlo hhi;by_cases hlt:i<j
   ·go_upto_region 5 with fail
    obtain⟨h,hh⟩:∃h:Nat,((i:Int)+(j:Int))/2=(h:Int):=⟨(i+j)/2,by omega⟩;rw[hh];have h1:i<=h:=oM
    have h2:h<j:=oM
    clear hh;obtain⟨y,hyY⟩:∃y,Y[h-m]?=some y:=⟨_,OH (by have:=HBq.out;omega)⟩
    have hy:(A++[x]++Y++D)[h]?=some y:=by
     have hA:=HA.out;have hM:=HM.out;rw[OY,Oa sO,PX (by have:=(OI.1 hyY).1;simp;omega)];rw[show h-(A++[x]).length=h-m by simp;omega];exact hyY
    have hx:(A++[x]++Y++D)[a]?=some x:=by
     rw[HA.out];simp
    have p0:wr.cell? ⟨g,h*2,none⟩=some (.string y.1.1):=I.row.cell hy 0 _ rfl;have p1:wr.cell? ⟨g,h*2+1,none⟩=some (.string y.1.2):=I.row.cell hy 1 _ rfl;have r0:wr.cell? ⟨g,a*2,none⟩=some (.string x.1.1):=I.row.cell hx 0 _ rfl;have r1:wr.cell? ⟨g,a*2+1,none⟩=some (.string x.1.2):=I.row.cell hx 1 _ rfl;have P0:=aX p0;have P1:=aX p1;have R0:=aX r0;have R1:=aX r1;have i0:(0:Int)<=(h:Int):=oM
    have i1:(h:Int)<(n:Int):=oM
    have i2:(0:Int)<=(a:Int):=oM
    have i3:(a:Int)<(n:Int):=oM
    have K1:Hid (∀k:BW wr,Calls prog 111 #[sU y,sU x] k.val fun e w''=>e=.returned (.int .i64 (bU y.1 x.1))/\∃k:BW wr,w''=k.val):=fun k=>
     Calls.bw (HH.out.cmp y x (by simp[OJ hyY]) sM k.val (I.but.step k.below))
    have HY:=qD hyY;clear p0 p1 r0 r1 hx hy hyY I;refine aL kR kR ?_
    repeat(go_big_quiet_step (with_reducible exact K1.out _))
    refine Oc ?_;rintro _ ⟨kw,rfl⟩;have J2:=qD (J.out.step kw.below);clear P0 P1 R0 R1 K1 i0 i1 i2 i3;generalize kw.val=w2 at*;by_cases hc:bU y.1 x.1<0
    ·have HLo2:Hid (∀(k:Nat) z,Y[k]?=some z->m+k<h+1->bU z.1 x.1<0):=fun k z hz hk=>by
      by_cases e:k=h-m
      ·subst e;rw[HY.out] at hz;cases hz;exact hc
      ·exact qg HO.out (RT.le (oB HH.out.hY oM hz HY.out)) hc
     go_wp2_with fail;go_roundw
     ·exact⟨h+1,j,by go_num,rfl,by omega,by omega,hjb,HLo2.out,HHi.out,J2.out⟩
     ·exact iO
    ·have HHi2:Hid (∀(k:Nat) z,Y[k]?=some z->h<=m+k->¬bU z.1 x.1<0):=fun k z hz hk=>by
      by_cases e:k=h-m
      ·subst e;rw[HY.out] at hz;cases hz;exact hc
      ·have q1:=RT.le (oB HH.out.hY oM HY.out hz);have q2:bU x.1 y.1=-(bU y.1 x.1):=HO.out.anti y.1 x.1;have q3:bU x.1 z.1<=0:=jo HO.out (y:=y.1) (show bU x.1 y.1<=0 by omega) q1;have q4:bU z.1 x.1=-(bU x.1 z.1):=HO.out.anti x.1 z.1;omega
     go_wp2_with fail;go_roundw
     ·exact⟨i,h,rfl,rfl,hmi,h1,by omega,HLo.out,HHi2.out,J2.out⟩
     ·exact iO
   ·obtain rfl:i=j:=oM
    obtain⟨Y1,Y2,hYY,hY1⟩:∃Y1 Y2,Y=Y1++Y2/\Y1.length=i-m:=⟨Y.take (i-m),Y.drop (i-m),(Oh _ Y).symm,by rw[Ow];have:=HBq.out;omega⟩
    have HS:Hid (aS bU ([x]++Y) (Y1++x::Y2)):=by
     have hp:=HH.out.hY;have ht:=HH.out.hT x sM;rw[hYY] at hp ht;rw[Hid,hYY];refine tI HO.out hp ht (fun y hy=>?_) (fun y hy=>?_)
     ·obtain⟨k,hk⟩:=PP hy;have hkl:=(OI.1 hk).1;exact HLo.out k y (by rw[hYY,PX hkl];exact hk) oM
     ·obtain⟨k,hk⟩:=PP hy;exact HHi.out (Y1.length+k) y (by rw[hYY,Oa oM];simpa using hk) oM
    have HYY:=qD hYY;have HY1:=qD hY1;clear hYY hY1 I HLo HHi;go_wp2_with fail
    go_loopw [13] (fun v13 wr=>∃(k:Nat) (P1 P2:List (B2×Nat)),v13=.int .i64 k/\k=a+P1.length/\Y1=P1++P2/\iv g w (A++(P1++x::P2)++(Y2++D)) wr) (fun v13 _=>n-(intOf v13).toNat)
    case atStart=>
     refine⟨a,[],Y1,rfl,rfl,rfl,?_⟩;have:=J.out;rw[HYY.out] at this;simpa using this
    case round=>
     obtain⟨k,P1,P2,rfl,hk,hPP,I⟩:=hrel;have HPP:=qD hPP;have HK:=qD hk;have J2:=qD I;have hkl:P1.length<=i-m:=by rw[<-HY1.out,hPP];simp
     by_cases hlt2:k<i-1
     ·obtain⟨y,P3,hP3⟩:∃y P3,P2=y::P3:=by
       cases P2 with
       | nil=>have h1:=HY1.out;rw[hPP] at h1;simp at h1;have:=HM.out;omega
       | cons y P3=>exact⟨y,P3,rfl⟩
      subst hP3;have hkA:k=A.length+P1.length:=by rw[hk,HA.out]
      have HX:Hid ((A++(P1++x::y::P3)++(Y2++D))[k]?=some x):=by rw[Hid,hkA];simp
      have HYk:Hid ((A++(P1++x::y::P3)++(Y2++D))[k+1]?=some y):=by
       rw[Hid,hkA,show A++(P1++x::y::P3)++(Y2++D)=(A++P1++[x])++y::(P3++(Y2++D)) by simp,Oa sO,show A.length+P1.length+1-(A++P1++[x]).length=0 by simp;omega];rfl
      have HSw:Hid (((A++(P1++x::y::P3)++(Y2++D)).set k y).set (k+1) x=A++((P1++[y])++x::P3)++(Y2++D)):=by
       rw[Hid,hkA];exact qj A P1 P3 (Y2++D) x y
      have hkn:k+1<n:=oM
      have p0:wr.cell? ⟨g,k*2,none⟩=some (.string x.1.1):=J2.out.row.cell HX.out 0 _ rfl;have p1:wr.cell? ⟨g,k*2+1,none⟩=some (.string x.1.2):=J2.out.row.cell HX.out 1 _ rfl;have r0:wr.cell? ⟨g,(k+1)*2,none⟩=some (.string y.1.1):=J2.out.row.cell HYk.out 0 _ rfl;have r1:wr.cell? ⟨g,(k+1)*2+1,none⟩=some (.string y.1.2):=J2.out.row.cell HYk.out 1 _ rfl;have z:=cJ.frozen J2.out.row;clear hk hPP I hkA hkl;go_upto_region 11 with fail
      go_region
      all_goals
       clear p0 p1 r0 r1 z;go_wp2_with fail;refine⟨⟨k+1,P1++[y],P3,by go_num,by rw[HK.out];simp;omega,by rw[HPP.out];simp,?_⟩,by simp[intOf];omega⟩;have r1:=J2.out.NN (OI.1 HX.out).1 (OI.1 HYk.out).1 x y;rw[HSw.out] at r1;exact r1
     ·have HE:Hid (iv g w (A++(Y1++x::Y2)++D) wr):=by
       have e:P2=[]:=OL (by have h1:=HY1.out;rw[hPP] at h1;simp at h1;have:=HM.out;omega);rw[e,Om] at hPP;rw[e] at I;rw[Hid,hPP];simpa using I
      clear hk hPP I hkl;go_wp2_with fail
      go_end0
      exact⟨rfl,_,HS.out,HE.out⟩
theorem Kz(H:cM bU)(A X:List (B2×Nat))(y:B2×Nat)(D:List (B2×Nat))(g n c a m b:Nat)(aI mI bI:Int)(w:World)(h:gT A X [y] D g n w)(ha:a=A.length)(hm:m=a+X.length)(hb:b=m+1)(hX2:2<=X.length)(haI:aI=a)(hmI:mI=m)(hbI:bI=b):
  Calls prog 214 #[.slice (some ⟨g,0,none⟩) n c,.int .i64 aI,.int .i64 mI,.int .i64 bI,.func (.func 111) #[] #[]] w (qC g w A X [y] D):=by
  subst haI hmI hbI;have hz:=h.sz;unfold aF at hz;have hbn:b<=n:=by have:=h.ln;simp at this;omega
  have ham:((m:Int)-(a:Int)==1)=false:=by simp;omega
  have hbm:((b:Int)-(m:Int)==1)=true:=by simp;omega
  have HA:=qD ha;have HM:=qD hm;have hm1:a<=m:=oM
  have hmb:m<b:=oM
  have HH:=qD h;have HO:=qD H;have I0:Hid (iv g w (A++X++[y]++D) w):=qD ⟨h.row,fD.refl⟩;clear h ha hm hb H;go_enter func214,ntmps214;go_wp2_with fail
  go_loopw [14,15] (fun v14 v15 wr=>∃(i j:Nat),v14=.int .i64 i/\v15=.int .i64 j/\a<=i/\i<=j/\j<=m/\(∀(k:Nat) x,X[k]?=some x->a+k<i->¬bU y.1 x.1<0)/\(∀(k:Nat) x,X[k]?=some x->j<=a+k->bU y.1 x.1<0)/\iv g w (A++X++[y]++D) wr) (fun v14 v15 _=>(intOf v15).toNat-(intOf v14).toNat)
  ·exact⟨a,m,rfl,rfl,qL,hm1,qL,fun k y _ hk=>by omega,fun k y hy hk=>by have:=(OI.1 hy).1;have:=HM.out;omega,I0.out⟩
  case round=>
   obtain⟨i,j,rfl,rfl,hmi,hij,hjb,hlo,hhi,I⟩:=hrel;have HLo:=qD hlo;have HHi:=qD hhi;have J:=qD I;clear hlo hhi;by_cases hlt:i<j
   ·go_upto_region 17 with fail
    obtain⟨h,hh⟩:∃h:Nat,((i:Int)+(j:Int))/2=(h:Int):=⟨(i+j)/2,by omega⟩;rw[hh];have h1:i<=h:=oM
    have h2:h<j:=oM
    clear hh;obtain⟨x,hxX⟩:∃x,X[h-a]?=some x:=⟨_,OH (by have:=HM.out;omega)⟩
    have hx:(A++X++[y]++D)[h]?=some x:=by
     have hA:=HA.out;rw[OY,OY,Oa oM,PX (by have:=(OI.1 hxX).1;omega),<-hA];exact hxX
    have hy:(A++X++[y]++D)[m]?=some y:=by
     have hA:=HA.out;have hM:=HM.out;rw[OY,Oa sO,show m-(A++X).length=0 by simp;omega];rfl
    have p0:wr.cell? ⟨g,h*2,none⟩=some (.string x.1.1):=I.row.cell hx 0 _ rfl;have p1:wr.cell? ⟨g,h*2+1,none⟩=some (.string x.1.2):=I.row.cell hx 1 _ rfl;have r0:wr.cell? ⟨g,m*2,none⟩=some (.string y.1.1):=I.row.cell hy 0 _ rfl;have r1:wr.cell? ⟨g,m*2+1,none⟩=some (.string y.1.2):=I.row.cell hy 1 _ rfl;have P0:=aX p0;have P1:=aX p1;have R0:=aX r0;have R1:=aX r1;have i0:(0:Int)<=(h:Int):=oM
    have i1:(h:Int)<(n:Int):=oM
    have i2:(0:Int)<=(m:Int):=oM
    have i3:(m:Int)<(n:Int):=oM
    have K1:Hid (∀k:BW wr,Calls prog 111 #[sU y,sU x] k.val fun e w''=>e=.returned (.int .i64 (bU y.1 x.1))/\∃k:BW wr,w''=k.val):=fun k=>
     Calls.bw (HH.out.cmp y x sM (by simp[OJ hxX]) k.val (I.but.step k.below))
    have HY:=qD hxX;clear p0 p1 r0 r1 hx hy hxX I;refine aL kR kR ?_
    repeat(go_big_quiet_step (with_reducible exact K1.out _))
    refine Oc ?_;rintro _ ⟨kw,rfl⟩;have J2:=qD (J.out.step kw.below);clear P0 P1 R0 R1 K1 i0 i1 i2 i3;generalize kw.val=w2 at*;by_cases hc:bU y.1 x.1<0
    ·have HHi2:Hid (∀(k:Nat) z,X[k]?=some z->h<=a+k->bU y.1 z.1<0):=fun k z hz hk=>by
      by_cases e:k=h-a
      ·subst e;rw[HY.out] at hz;cases hz;exact hc
      ·exact qi HO.out (y:=x.1) hc (RT.le (oB HH.out.hX oM HY.out hz))
     have d4:(!decide (bU y.1 x.1<0))=false:=by rw[OM hc];rfl
     go_wp2_with fail
     all_goals first|(rename_i e;rw[d4] at e;contradiction)|skip
     go_roundw
     ·exact⟨i,h,rfl,rfl,hmi,h1,by omega,HLo.out,HHi2.out,J2.out⟩
     ·exact iO
    ·have HLo2:Hid (∀(k:Nat) z,X[k]?=some z->a+k<h+1->¬bU y.1 z.1<0):=fun k z hz hk=>by
      by_cases e:k=h-a
      ·subst e;rw[HY.out] at hz;cases hz;exact hc
      ·have q1:=RT.le (oB HH.out.hX oM hz HY.out);have q2:bU x.1 y.1=-(bU y.1 x.1):=HO.out.anti y.1 x.1;have q3:bU z.1 y.1<=0:=jo HO.out (y:=x.1) q1 (show bU x.1 y.1<=0 by omega);have q4:bU y.1 z.1=-(bU z.1 y.1):=HO.out.anti z.1 y.1;omega
     have d4:(!decide (bU y.1 x.1<0))=true:=by rw[OV hc];rfl
     go_wp2_with fail
     all_goals first|(rename_i e;rw[d4] at e;contradiction)|skip
     go_roundw
     ·exact⟨h+1,j,by go_num,rfl,by omega,by omega,hjb,HLo2.out,HHi.out,J2.out⟩
     ·exact iO
   ·obtain rfl:i=j:=oM
    obtain⟨X1,X2,hXX,hX1⟩:∃X1 X2,X=X1++X2/\X1.length=i-a:=⟨X.take (i-a),X.drop (i-a),(Oh _ X).symm,by rw[Ow];have:=HM.out;omega⟩
    have HS:Hid (aS bU (X++[y]) (X1++y::X2)):=by
     have hp:=HH.out.hX;have ht:∀x∈X,x.2<y.2:=fun x hx=>HH.out.hT x hx y sM;rw[hXX] at hp ht;rw[Hid,hXX];refine qk HO.out hp ht (fun x hx=>?_) (fun x hx=>?_)
     ·obtain⟨k,hk⟩:=PP hx;have hkl:=(OI.1 hk).1;exact HLo.out k x (by rw[hXX,PX hkl];exact hk) oM
     ·obtain⟨k,hk⟩:=PP hx;exact HHi.out (X1.length+k) x (by rw[hXX,Oa oM];simpa using hk) oM
    have HXX:=qD hXX;have HX1:=qD hX1;have hX2l:X2.length=m-i:=by have h1:=HM.out;rw[hXX] at h1;simp at h1;omega
    have HX2:=qD hX2l;clear hXX hX1 I HLo HHi hX2l;go_wp2_with fail
    go_loopw [17] (fun v17 wr=>∃(k:Nat) (P1 P2:List (B2×Nat)),v17=.int .i64 k/\k=i+P1.length/\X2=P1++P2/\iv g w ((A++X1)++(P1++y::P2)++D) wr) (fun v17 _=>(intOf v17).toNat)
    case atStart=>
     refine⟨m,X2,[],rfl,by have:=HX2.out;omega,by simp,?_⟩;have:=J.out;rw[HXX.out] at this;simpa using this
    case round=>
     obtain⟨k,P1,P2,rfl,hk,hPP,I⟩:=hrel;have HPP:=qD hPP;have HK:=qD hk;have J2:=qD I;have hkm:k<=m:=by have h1:=HX2.out;rw[hPP] at h1;simp at h1;omega
     by_cases hlt2:i<k
     ·obtain⟨P0,z,hP0⟩:∃P0 z,P1=P0++[z]:=by
       rcases QT P1 with h|⟨P0,z,h⟩
       ·rw[h] at hk;simp at hk;omega
       ·exact⟨P0,z,by rw[h,QG]⟩
      have hkA:k=(A++X1).length+(P0.length+1):=by rw[hk,hP0];have:=HX1.out;have:=HA.out;simp;omega
      have HYk:Hid (((A++X1)++(P1++y::P2)++D)[k]?=some y):=by
       rw[Hid,hP0,hkA,show(A++X1)++((P0++[z])++y::P2)++D=(A++X1++P0++[z])++y::(P2++D) by simp,Oa sO,show(A++X1).length+(P0.length+1)-(A++X1++P0++[z]).length=0 by simp;omega];rfl
      have HZk:Hid (((A++X1)++(P1++y::P2)++D)[k-1]?=some z):=by
       rw[Hid,hP0,hkA,show(A++X1)++((P0++[z])++y::P2)++D=(A++X1++P0)++z::(y::(P2++D)) by simp,Oa sO,show(A++X1).length+(P0.length+1)-1-(A++X1++P0).length=0 by simp;omega];rfl
      have HSw:Hid ((((A++X1)++(P1++y::P2)++D).set k z).set (k-1) y=(A++X1)++(P0++y::z::P2)++D):=by
       rw[Hid,hP0,hkA];exact mU (A++X1) P0 P2 D y z
      have HP0:=qD hP0;have hk1:1<=k:=oM
      have p0:wr.cell? ⟨g,k*2,none⟩=some (.string y.1.1):=J2.out.row.cell HYk.out 0 _ rfl;have p1:wr.cell? ⟨g,k*2+1,none⟩=some (.string y.1.2):=J2.out.row.cell HYk.out 1 _ rfl;have r0:wr.cell? ⟨g,(k-1)*2,none⟩=some (.string z.1.1):=J2.out.row.cell HZk.out 0 _ rfl;have r1:wr.cell? ⟨g,(k-1)*2+1,none⟩=some (.string z.1.2):=J2.out.row.cell HZk.out 1 _ rfl;have zf:=cJ.frozen J2.out.row;clear hk hPP I hkA hP0;go_upto_region 23 with fail
      go_region
      all_goals
       clear p0 p1 r0 r1 zf;go_wp2_with fail;refine⟨⟨k-1,P0,z::P2,by rw[show((k-1:Nat):Int)=(k:Int)-1 by omega],by have h1:=HK.out;rw[HP0.out] at h1;simp at h1;omega,by rw[HPP.out,HP0.out];simp,?_⟩,by simp[intOf];omega⟩;have r1:=J2.out.swap (OI.1 HYk.out).1 y z;rw[HSw.out] at r1;exact r1
     ·have HE:Hid (iv g w (A++(X1++y::X2)++D) wr):=by
       have e:P1=[]:=OL oM;rw[e,PG] at hPP;rw[e] at I;rw[Hid,hPP];simpa using I
      clear hk hPP I;go_wp2_with fail
      go_end0
      exact⟨rfl,_,HS.out,HE.out⟩
section
variable {α:Type} {cm:α->α->Int}
end
theorem lS.less{U U':List (B2×Nat)}(h:lS g w U)(hb:fD g w w1)(hs:∀x∈U',x∈U):lS g w1 U':=fun x y hx hy wr hr=>h x y (hs x hx) (hs y hy) wr (hb.trans hr)
theorem Ed{A X1 X2 Y1 Y2 D:List (B2×Nat)}(h:gT A (X1++X2) (Y1++Y2) D g n w)(I:iv g w (A++X1++Y1++X2++Y2++D) w1):gT A X1 Y1 (X2++Y2++D) g n w1:=
 ⟨by have:=I.row;simpa using this,by rw[h.ln];simp;omega,h.sz,(Oi.1 h.hX).1,(Oi.1 h.hY).1,fun x hx y hy=>h.hT x (by simp[hx]) y (by simp[hy]),h.cmp.less I.but (fun x hx=>by rcases OP.1 hx with hx|hx<;>simp[hx])⟩
theorem Ee{A X1 X2 Y1 Y2 D S1:List (B2×Nat)}(h:gT A (X1++X2) (Y1++Y2) D g n w)(hl:S1.length=X1.length+Y1.length)(I:iv g w (A++S1++(X2++Y2++D)) w1):gT (A++S1) X2 Y2 D g n w1:=
 ⟨by have:=I.row;simpa using this,by rw[h.ln];simp;omega,h.sz,(Oi.1 h.hX).2.1,(Oi.1 h.hY).2.1,fun x hx y hy=>h.hT x (by simp[hx]) y (by simp[hy]),h.cmp.less I.but (fun x hx=>by rcases OP.1 hx with hx|hx<;>simp[hx])⟩
def Ef(N:Nat):Prop:=∀(A X Y D:List (B2×Nat)) (g n c a m b:Nat) (aI mI bI:Int) (w:World),gT A X Y D g n w->a=A.length->m=a+X.length->b=m+Y.length->1<=X.length->1<=Y.length->X.length+Y.length<N->aI=a->mI=m->bI=b->
 Calls prog 214 #[.slice (some ⟨g,0,none⟩) n c,.int .i64 aI,.int .i64 mI,.int .i64 bI,.func (.func 111) #[] #[]] w (qC g w A X Y D)
def MZ(L:List (B2×Nat))(s0 nn t:Nat):Prop:=t=s0\/∃x y,L[t-1]?=some x/\L[nn-t]?=some y/\¬bU y.1 x.1<0
def Ma(L:List (B2×Nat))(r0 nn t:Nat):Prop:=t=r0\/∃x y,L[t]?=some x/\L[nn-1-t]?=some y/\bU y.1 x.1<0
theorem LD(H:cM bU)(A X Y D:List (B2×Nat))(g n c a m b:Nat)(aI mI bI:Int)(w:World)(h:gT A X Y D g n w)(ha:a=A.length)(hm:m=a+X.length)(hb:b=m+Y.length)(hX2:2<=X.length)(hY2:2<=Y.length)(ih:Ef (X.length+Y.length))(haI:aI=a)(hmI:mI=m)(hbI:bI=b):
  Calls prog 214 #[.slice (some ⟨g,0,none⟩) n c,.int .i64 aI,.int .i64 mI,.int .i64 bI,.func (.func 111) #[] #[]] w (qC g w A X Y D):=by
  subst haI hmI hbI;have hz:=h.sz;unfold aF at hz;have hbn:b<=n:=by have:=h.ln;simp at this;omega
  have ham:((m:Int)-(a:Int)==1)=false:=by simp;omega
  have hbm:((b:Int)-(m:Int)==1)=false:=by simp;omega
  have HA:=qD ha;have HM:=qD hm;have HB:=qD hb;have hm1:a+2<=m:=oM
  have hmb:m+2<=b:=oM
  have HH:=qD h;have HO:=qD H;have HI:=qD ih;have I0:Hid (iv g w (A++X++Y++D) w):=qD ⟨h.row,fD.refl⟩;clear h ha hm hb H ih hX2 hY2;go_enter func214,ntmps214;go_upto_region 25 with fail
  obtain⟨mid,hh⟩:∃mid:Nat,((a:Int)+(b:Int))/2=(mid:Int):=⟨(a+b)/2,by omega⟩;rw[hh];have HMid:Hid (mid=(a+b)/2):=by unfold Hid;omega
  have hmid1:a<mid:=oM
  have hmid2:mid<b:=oM
  have hmid3:2*mid<=a+b:=oM
  have hmid4:a+b<=2*mid+1:=oM
  clear hh
  obtain⟨s0,r0,hc⟩:∃s0 r0:Nat,(mid<m/\s0=mid+m-b/\r0=mid)\/(m<=mid/\s0=a/\r0=m):=by
   by_cases e:mid<m
   ·exact⟨_,_,.inl ⟨e,rfl,rfl⟩⟩
   ·exact⟨_,_,.inr ⟨by omega,rfl,rfl⟩⟩
  have HC:=qD hc;have hs1:a<=s0:=oM
  have hs2:s0<=r0:=oM
  have hr1:r0<=m:=oM
  have hr2:r0<=mid:=oM
  have hs3:mid+m<=b+s0:=oM
  clear hc;go_upto_region 26 with fail
  obtain⟨p,hp⟩:∃p:Nat,mid+m=p+1:=⟨mid+m-1,by omega⟩;have HP:=qD hp;have hp1:p+1<=b+s0:=oM
  have hp2:m+r0<=p+1:=oM
  rw[show(mid:Int)+(m:Int)=(p:Int)+1 by omega];clear hp
  go_upto_if 140 with fail
  go_cut [20,21] (fun s20 s21 wx=>s20=.int .i64 s0/\s21=.int .i64 r0/\w=wx)
  case first=>as_aux_lemma=>
   rcases HC.out with⟨q1,q2,q3⟩|⟨q1,q2,q3⟩
   all_goals
    have Q2:=qD q2;have Q3:=qD q3;clear q2 q3;go_wp2_with fail;go_meet;exact⟨congrArg (Value.int .i64) (by have:=Q2.out;have:=HP.out;omega),congrArg (Value.int .i64) (by have:=Q3.out;omega),rfl⟩
  case rest=>
   obtain⟨rfl,rfl,rfl⟩:=hcut;go_wp2_with fail
   go_loopw [20,21] (fun v20 v21 wr=>∃(i j:Nat),v20=.int .i64 i/\v21=.int .i64 j/\s0<=i/\i<=j/\j<=r0/\MZ (A++X++Y++D) s0 (p+1) i/\Ma (A++X++Y++D) r0 (p+1) j/\iv g w (A++X++Y++D) wr) (fun v20 v21 _=>(intOf v21).toNat-(intOf v20).toNat)
   ·exact⟨s0,r0,rfl,rfl,qL,hs2,qL,.inl rfl,.inl rfl,I0.out⟩
   case round=>
    obtain⟨i,j,rfl,rfl,hmi,hij,hjb,hlo,hhi,I⟩:=hrel;have HLo:=qD hlo;have HHi:=qD hhi;have J:=qD I;clear hlo hhi;by_cases hlt:i<j
    ·as_aux_lemma=>
     go_upto_region 35 with fail
     obtain⟨h,hh⟩:∃h:Nat,((i:Int)+(j:Int))/2=(h:Int):=⟨(i+j)/2,by omega⟩;rw[hh];have h1:i<=h:=oM
     have h2:h<j:=oM
     clear hh
     obtain⟨x,hx,hxX⟩:∃x,(A++X++Y++D)[h]?=some x/\x∈X:=by
      have hA:=HA.out;have hM:=HM.out;rw[Lo oM oM];exact⟨_,OH oM,Pw _⟩
     obtain⟨y,hy,hyY⟩:∃y,(A++X++Y++D)[p-h]?=some y/\y∈Y:=by
      have hA:=HA.out;have hM:=HM.out;have hB:=HB.out;rw[Lp oM oM];exact⟨_,OH oM,Pw _⟩
     have p0:wr.cell? ⟨g,h*2,none⟩=some (.string x.1.1):=I.row.cell hx 0 _ rfl;have p1:wr.cell? ⟨g,h*2+1,none⟩=some (.string x.1.2):=I.row.cell hx 1 _ rfl;have r0:wr.cell? ⟨g,(p-h)*2,none⟩=some (.string y.1.1):=I.row.cell hy 0 _ rfl;have r1:wr.cell? ⟨g,(p-h)*2+1,none⟩=some (.string y.1.2):=I.row.cell hy 1 _ rfl;have P0:=aX p0;have P1:=aX p1;have R0:=aX r0;have R1:=aX r1;have i0:(0:Int)<=(h:Int):=oM
     have i1:(h:Int)<(n:Int):=oM
     have i2:(0:Int)<=(p:Int)-(h:Int):=oM
     have i3:(p:Int)-(h:Int)<(n:Int):=oM
     have K1:Hid (∀k:BW wr,Calls prog 111 #[sU y,sU x] k.val fun e w''=>e=.returned (.int .i64 (bU y.1 x.1))/\∃k:BW wr,w''=k.val):=fun k=>
      Calls.bw (HH.out.cmp y x (by simp[hyY]) (by simp[hxX]) k.val (I.but.step k.below))
     have HX:=qD hx;have HY:=qD hy;clear p0 p1 r0 r1 hx hy hxX hyY I;refine aL (by as_aux_lemma=>kernel_rfl) (by as_aux_lemma=>kernel_rfl) ?_
     repeat(go_big_quiet_step (with_reducible exact K1.out _))
     refine Oc ?_;rintro _ ⟨kw,rfl⟩;have J2:=qD (J.out.step kw.below);clear P0 P1 R0 R1 K1 i0 i1 i2 i3;generalize kw.val=w2 at*;by_cases hc:bU y.1 x.1<0
     ·have HHi2:Hid (Ma (A++X++Y++D) r0 (p+1) h):=.inr ⟨x,y,HX.out,HY.out,hc⟩;have d4:(!decide (bU y.1 x.1<0))=false:=by rw[OM hc];rfl
      go_wp2_with fail
      all_goals first|(rename_i e;rw[d4] at e;contradiction)|skip
      go_roundw
      ·exact⟨i,h,rfl,rfl,hmi,h1,by omega,HLo.out,HHi2.out,J2.out⟩
      ·exact iO
     ·have HLo2:Hid (MZ (A++X++Y++D) s0 (p+1) (h+1)):=.inr ⟨x,y,HX.out,by rw[Nat.add_sub_add_right];exact HY.out,hc⟩;have d4:(!decide (bU y.1 x.1<0))=true:=by rw[OV hc];rfl
      go_wp2_with fail
      all_goals first|(rename_i e;rw[d4] at e;contradiction)|skip
      go_roundw
      ·exact⟨h+1,j,by go_num,rfl,by omega,by omega,hjb,HLo2.out,HHi.out,J2.out⟩
      ·exact iO
    ·obtain rfl:i=j:=oM
     obtain⟨X1,X2,Y1,Y2,hXX,hYY,l1,l2,l3,l4,h12,h21⟩:=tJ (D:=D) HO.out HA.out HM.out HB.out HH.out.hX HH.out.hY HH.out.hT hmi hjb HMid.out HC.out (by rw[HP.out];exact HLo.out) (by rw[HP.out];exact HHi.out)
     have HS:Hid (∀S1 S2,aS bU (X1++Y1) S1->aS bU (X2++Y2) S2->aS bU (X++Y) (S1++S2)):=fun S1 S2 q1 q2=>by
      have hp:=HH.out.hX;have hq:=HH.out.hY;rw[hXX] at hp ⊢;rw[hYY] at hq ⊢;exact oD hp hq h12 h21 q1 q2
     have HH2:Hid (gT A (X1++X2) (Y1++Y2) D g n w):=by have:=HH.out;rw[hXX,hYY] at this;exact this
     have HJ:Hid (iv g w (A++X1++X2++Y1++Y2++D) wr):=by have:=J.out;rw[hXX,hYY] at this;rw[Hid];simpa using this
     have HL1:=qD l1;have HL2:=qD l2;have HL3:=qD l3;have HL4:=qD l4;have hsum:mid-a<X.length+Y.length:=by have:=HM.out;have:=HB.out;omega
     have hsum2:b-mid<X.length+Y.length:=by have:=HM.out;have:=HB.out;omega
     clear hXX hYY l1 l2 l3 l4 h12 h21 I J HLo HHi;go_upto_region 39 with fail
     obtain⟨en,hen⟩:∃en:Nat,(p:Int)+1-(i:Int)=(en:Int):=⟨p+1-i,by omega⟩;have HEn:Hid (en+i=mid+m):=by unfold Hid;have:=HP.out;omega
     have hen1:en<=b:=oM
     rw[hen];clear hen
     go_cut [185] (fun s wx=>s=.bool (decide (i<m/\m<en))/\wr=wx)
     case first=>as_aux_lemma=>
      by_cases e1:i<m<;>by_cases e2:m<en
      all_goals
       go_wp2_with fail;go_meet;exact⟨congrArg Value.bool (by simp[e1,e2]),rfl⟩
     case rest=>
      obtain⟨rfl,rfl⟩:=hcut
      go_upto_if 185 with fail
      go_cut [] (fun wx=>iv g w (A++X1++Y1++X2++Y2++D) wx)
      case first=>as_aux_lemma=>
       by_cases e:i<m/\m<en
       ·have d:decide (i<m/\m<en)=true:=OM e;rw[d];clear d;go_wp2_with fail;refine(vu (A++X1) X2 Y1 (Y2++D) g n c i m en _ _ _ _ _ (by have:=HJ.out.row;simpa using this) (by rw[HH2.out.ln];simp) (by have:=HA.out;have:=HL1.out;simp;omega) (by have:=HA.out;have:=HL1.out;have:=HL2.out;simp;omega) (by have:=HA.out;have:=HL1.out;have:=HL2.out;have:=HL3.out;have:=HEn.out;simp;omega) (by have:=HL2.out;omega) (by have:=HL3.out;have:=HEn.out;omega) rfl rfl rfl HH2.out.sz).mono ?_;rintro e w1 ⟨rfl,h1⟩;have H1:=qD (HJ.out.then h1);clear h1;go_wp2_with fail;go_meet;have:=H1.out;simpa using this
       ·have d:decide (i<m/\m<en)=false:=OV e;rw[d];clear d;go_wp2_with fail;go_meet;have h1:=HJ.out
        have q:X2=[]\/Y1=[]:=by
         by_cases e1:i<m
         ·exact .inr (OL (by have:=HL3.out;have:=HEn.out;omega))
         ·exact .inl (OL (by have:=HL2.out;omega))
        rcases q with q|q
        ·rw[q] at h1 ⊢;simpa using h1
        ·rw[q] at h1 ⊢;simpa using h1
      case rest=>
       have HJ2:=qD hcut;clear hcut;go_upto_region 41 with fail
       go_cut [199] (fun s wx=>s=.bool (decide (a<i/\i<mid))/\wc=wx)
       case first=>as_aux_lemma=>
        by_cases e1:a<i<;>by_cases e2:i<mid
        all_goals
         go_wp2_with fail;go_meet;exact⟨congrArg Value.bool (by simp[e1,e2]),rfl⟩
       case rest=>
        obtain⟨rfl,rfl⟩:=hcut
        go_upto_if 199 with fail
        go_cut [] (fun wx=>∃S1,aS bU (X1++Y1) S1/\iv g w (A++S1++(X2++Y2++D)) wx)
        case first=>as_aux_lemma=>
         by_cases e:a<i/\i<mid
         ·have d:decide (a<i/\i<mid)=true:=OM e;rw[d];clear d;go_wp2_with fail;refine(HI.out A X1 Y1 (X2++Y2++D) g n c a i mid _ _ _ _ (Ed HH2.out HJ2.out) HA.out (by have:=HL1.out;omega) (by have:=HL3.out;omega) (by have:=HL1.out;omega) (by have:=HL3.out;omega) (by have:=HL1.out;have:=HL3.out;omega) rfl rfl rfl).mono ?_;rintro e w1 ⟨rfl,S1,h1,h2⟩;have H1:=qD h1;have H2:=qD (HJ2.out.then h2);clear h1 h2;go_wp2_with fail;go_meet;exact⟨S1,H1.out,H2.out⟩
         ·have d:decide (a<i/\i<mid)=false:=OV e;rw[d];clear d;go_wp2_with fail;go_meet;have hh:=Ed HH2.out HJ2.out;refine⟨X1++Y1,jH ?_,by have:=HJ2.out;simpa using this⟩
          have q:X1=[]\/Y1=[]:=by
           by_cases e1:a<i
           ·exact .inr (OL (by have:=HL3.out;omega))
           ·exact .inl (OL (by have:=HL1.out;omega))
          rcases q with q|q
          ·rw[q];simpa using hh.hY
          ·rw[q];simpa using hh.hX
        case rest=>
         obtain⟨S1,hS1,I⟩:=hcut;have HS1:=qD hS1;have HJ3:=qD I;have HLS:Hid (S1.length=X1.length+Y1.length):=by rw[Hid,hS1.1.length_eq];simp
         clear hS1 I;go_upto_region 43 with fail
         go_cut [213] (fun s wx=>s=.bool (decide (mid<en/\en<b))/\wc=wx)
         case first=>as_aux_lemma=>
          by_cases e1:mid<en<;>by_cases e2:en<b
          all_goals
           go_wp2_with fail;go_meet;exact⟨congrArg Value.bool (by simp[e1,e2]),rfl⟩
         case rest=>
          obtain⟨rfl,rfl⟩:=hcut;by_cases e:mid<en/\en<b
          ·as_aux_lemma=>
           have d:decide (mid<en/\en<b)=true:=OM e;rw[d];clear d;go_wp2_with fail;refine(HI.out (A++S1) X2 Y2 D g n c mid en b _ _ _ _ (Ee HH2.out HLS.out HJ3.out) (by have:=HA.out;have:=HLS.out;have:=HL1.out;have:=HL3.out;simp;omega) (by have:=HL2.out;have:=HEn.out;omega) (by have:=HL4.out;have:=HEn.out;omega) (by have:=HL2.out;have:=HEn.out;omega) (by have:=HL4.out;have:=HEn.out;omega) (by have:=HL2.out;have:=HL4.out;have:=HEn.out;omega) rfl rfl rfl).mono ?_;rintro e w1 ⟨rfl,S2,h1,h2⟩;have H1:=qD h1;have H2:=qD (HJ3.out.then h2);clear h1 h2;go_wp2_with fail
           go_end0
           exact⟨rfl,S1++S2,HS.out S1 S2 HS1.out H1.out,by have:=H2.out;simpa using this⟩
          ·as_aux_lemma=>
           have d:decide (mid<en/\en<b)=false:=OV e;rw[d];clear d;go_wp2_with fail
           go_end0
           have hh:=Ee HH2.out HLS.out HJ3.out;refine⟨rfl,S1++(X2++Y2),HS.out S1 _ HS1.out (jH ?_),by have:=HJ3.out;simpa using this⟩
           have q:X2=[]\/Y2=[]:=by
            by_cases e1:mid<en
            ·exact .inr (OL (by have:=HL4.out;have:=HEn.out;omega))
            ·exact .inl (OL (by have:=HL2.out;have:=HEn.out;omega))
           rcases q with q|q
           ·rw[q];simpa using hh.hY
           ·rw[q];simpa using hh.hX
theorem vv(H:cM bU)(N:Nat):Ef N:=by
 induction N with
 | zero=>exact fun A X Y D g n c a m b aI mI bI w h ha hm hb h1 h2 h3=>absurd h3 oM
 | succ N ih=>
  intro A X Y D g n c a m b aI mI bI w h ha hm hb h1 h2 h3 haI hmI hbI;by_cases e1:X.length=1
  ·obtain⟨x,rfl⟩:=QY.1 e1;exact Ky H A x Y D g n c a m b aI mI bI w h ha (by simpa using hm) hb haI hmI hbI
  ·by_cases e2:Y.length=1
   ·obtain⟨y,rfl⟩:=QY.1 e2;exact Kz H A X y D g n c a m b aI mI bI w h ha hm (by simpa using hb) oM haI hmI hbI
   ·exact LD H A X Y D g n c a m b aI mI bI w h ha hm hb oM oM (fun A' X' Y' D' g' n' c' a' m' b' aI' mI' bI' w' q1 q2 q3 q4 q5 q6 q7 q8 q9 q10=>ih A' X' Y' D' g' n' c' a' m' b' aI' mI' bI' w' q1 q2 q3 q4 q5 q6 oM q8 q9 q10) haI hmI hbI
end
structure LF(bs:Nat)(L0:List (B2×Nat))(k:Nat)(A0 A R:List (B2×Nat)):Prop where
 e:L0=A0++R
 l0:A0.length=k*bs
 l:A.length=k*bs
 s:∀q,q<k->aS bU (blk bs q A0) (blk bs q A)
structure pk(bs:Nat)(L0:List (B2×Nat))(k:Nat)(A0 A R0 R:List (B2×Nat)):Prop where
 e:L0=A0++R0
 l0:A0.length=k*(2*bs)
 l:A.length=k*(2*bs)
 rl:R.length=R0.length
 s:∀q,q<k->aS bU (blk (2*bs) q A0) (blk (2*bs) q A)
 t:∀q,aS bU (blk bs q R0) (blk bs q R)
structure qo(bs:Nat)(R0 R X0 Y0 D0 X Y D:List (B2×Nat)):Prop where
 e0:R0=X0++(Y0++D0)
 e:R=X++(Y++D)
 x0:X0.length=bs
 x:X.length=bs
 y0:Y0.length=bs\/(Y0.length<=bs/\D0=[])
 y:Y.length=bs\/(Y.length<=bs/\D=[])
section
variable {k b n g m i c q size bs S:Nat} {w w' wr:World} {e t:TypeId} {a x y:Int} {l:List ByteArray} {A:Option Addr} {xs:List Value}
theorem vw(bs:Nat)(R0 R:List (B2×Nat))(hl:R.length=R0.length)(hb:bs<=R.length):qo bs R0 R (R0.take bs) ((R0.drop bs).take bs) ((R0.drop bs).drop bs) (R.take bs) ((R.drop bs).take bs) ((R.drop bs).drop bs):=by
 have aux:∀l:List (B2×Nat),(l.take bs).length=bs\/((l.take bs).length<=bs/\l.drop bs=[]):=fun l=>by
  by_cases e:bs<=l.length
  ·exact .inl (by rw[Ow];omega)
  ·exact .inr ⟨by rw[Ow];omega,Re oM⟩
 exact⟨by rw[Oh,Oh],by rw[Oh,Oh],by rw[Ow];omega,by rw[Ow];omega,aux _,aux _⟩
theorem pk.sorted{L0 A0 A R0 R X0 Y0 D0 X Y D:List (B2×Nat)}(h:pk bs L0 k A0 A R0 R)(hp:qo bs R0 R X0 Y0 D0 X Y D):aS bU X0 X/\aS bU Y0 Y:=
 tM hp.x0 hp.y0 hp.x hp.y (by have:=h.t;rw[hp.e0,hp.e] at this;exact this)
theorem pk.NH{L0 A0 A R0 R X0 Y0 D0 X Y D:List (B2×Nat)}(h:pk bs L0 k A0 A R0 R)(hp:qo bs R0 R X0 Y0 D0 X Y D)(ht:gH L0)(hc:lS g w L0)(I:iv g w (A++R) wr)(hn:n=L0.length)(hz:n*32<=aF):gT A X Y D g n wr:=by
 obtain⟨s1,s2⟩:=h.sorted hp;have ht2:gH (A0++(X0++(Y0++D0))):=by rw[<-hp.e0,<-h.e];exact ht
 refine⟨?_,?_,hz,s1.2,s2.2,fun x hx y hy=>?_,hc.less I.but fun x hx=>?_⟩
 ·have:=I.row;rw[hp.e] at this;simpa using this
 ·rw[hn,h.e,OY,OY,<-hp.e,OK,OK,h.l0,h.l,h.rl]
 ·have q:=(Oi.1 (Oi.1 ht2).2.1).2.2;exact q x (s1.1.mem_iff.1 hx) y (by simp[s2.1.mem_iff.1 hy])
 ·rw[h.e,hp.e0];rcases OP.1 hx with hx|hx
  ·simp[s1.1.mem_iff.1 hx]
  ·simp[s2.1.mem_iff.1 hx]
theorem pk.next{L0 A0 A R0 R X0 Y0 D0 X Y D S:List (B2×Nat)}(h:pk bs L0 k A0 A R0 R)(hp:qo bs R0 R X0 Y0 D0 X Y D)(hS:aS bU (X++Y) S)(hy:Y.length=bs)(hy0:Y0.length=bs):pk bs L0 (k+1) (A0++(X0++Y0)) (A++S) D0 D:=by
 obtain⟨s1,s2⟩:=h.sorted hp;have hS2:=aS.both s1 s2 hS;have l1:(X0++Y0).length=2*bs:=by rw[OK,hp.x0,hy0];omega
 have l2:(X++Y).length=2*bs:=by rw[OK,hp.x,hy];omega
 refine⟨?_,?_,?_,?_,mV h.l0 h.l h.s l1 hS2,fun q=>tN l1 l2 ?_ q⟩
 ·rw[h.e,hp.e0];simp
 ·rw[OK,h.l0,l1];exact(SK k (2*bs)).symm
 ·rw[OK,h.l,hS.1.length_eq,l2];exact(SK k (2*bs)).symm
 ·have:=h.rl;rw[hp.e,hp.e0] at this;simp[hp.x,hp.x0,hy,hy0] at this;exact this
 ·have:=h.t;rw[hp.e0,hp.e] at this;simpa using this
theorem pk.last{L0 A0 A R0 R X0 Y0 X Y S:List (B2×Nat)}(h:pk bs L0 k A0 A R0 R)(hp:qo bs R0 R X0 Y0 [] X Y [])(hS:aS bU (X++Y) S)(q:Nat):aS bU (blk (2*bs) q L0) (blk (2*bs) q (A++S)):=by
 obtain⟨s1,s2⟩:=h.sorted hp;have e:L0=A0++(X0++Y0):=by rw[h.e,hp.e0,Om]
 rw[e];exact iU h.l0 h.l h.s (by rw[OK,hp.x0];rcases hp.y0 with q|⟨q,_⟩<;>omega) (aS.both s1 s2 hS) q
theorem pk.lone{L0 A0 A R0 R:List (B2×Nat)}(h:pk bs L0 k A0 A R0 R)(hl:R.length<=bs)(q:Nat):aS bU (blk (2*bs) q L0) (blk (2*bs) q (A++R)):=by
 rw[h.e];exact iU h.l0 h.l h.s (by rw[<-h.rl];omega) (oE (by rw[<-h.rl];exact hl) hl h.t) q
theorem vz(H:cM bU)(L0:List (B2×Nat))(g n c:Nat)(w:World)(hr:cJ w g L0)(hn:n=L0.length)(hz:n*32<=aF)(ht:gH L0)(hc:lS g w L0):
 Calls prog 162 #[.slice (some ⟨g,0,none⟩) n c,.int .i64 n,.func (.func 111) #[] #[]] w (uX g w [] L0 []):=by
 have HZ:=qD hz;unfold aF at hz;have HN:=qD hn;have HT:=qD ht;have HC:=qD hc;have HO:=qD H;have I0:Hid (iv g w L0 w):=qD ⟨hr,fD.refl⟩;clear hr hn ht hc H;go_enter func162,ntmps162;go_wp2_with fail
 go_loopw [7,8] (fun v7 v8 wr=>∃(k a b:Nat) (A0 A R:List (B2×Nat)),v7=.int .i64 a/\v8=.int .i64 b/\b=a+20/\a=k*20/\a<=n/\LF 20 L0 k A0 A R/\iv g w (A++R) wr) (fun _ v8 _=>n+40-(intOf v8).toNat)
 ·exact⟨0,0,20,[],[],L0,rfl,rfl,rfl,rfl,ON _,⟨rfl,rfl,rfl,fun q hq=>absurd hq oM⟩,I0.out⟩
 case round=>
  obtain⟨k,a,b,A0,A,R,rfl,rfl,hb,hk,han,hD,I⟩:=hrel;have HB:=qD hb;have HK:=qD hk;have HD:=qD hD;have J:=qD I;have hRl:R.length=n-a:=by have h1:=HN.out;rw[hD.e] at h1;simp[hD.l0] at h1;omega
  have HRl:=qD hRl;clear hk hD I hRl;by_cases hlt:b<=n
  ·have hb2:b=a+20:=hb;have hl1:(R.take 20).length=20:=by rw[Ow];have:=HRl.out;omega
   have HL1:=qD hl1;have HR:Hid (R=R.take 20++R.drop 20):=(Oh 20 R).symm;have HM:∀x∈R,x∈L0:=fun x hx=>by rw[HD.out.e];simp[hx]
   have HM':=qD HM;clear hb hb2 hl1 HM;go_wp2_with fail;refine(qm HO.out A (R.take 20) (R.drop 20) g n c a b _ (by rw[OY,<-HR.out];exact J.out.row) (by rw[OY,<-HR.out,OK,HD.out.l,HRl.out,<-HK.out];omega) (by rw[HD.out.l];exact HK.out) (by rw[HD.out.l,HL1.out,<-HK.out];exact HB.out) HZ.out ?_ ?_).mono ?_
   ·have:=HT.out;rw[HD.out.e,HR.out] at this;exact(Oi.1 (Oi.1 this).2.1).1
   ·exact HC.out.less J.out.but (fun x hx=>HM'.out x (Qh hx))
   rintro e w1 ⟨rfl,S,hS,h1⟩;have HS:=qD hS;have H1:=qD (J.out.then h1);clear hS h1;go_wp2_with fail;go_roundw
   case rel=>
    refine⟨k+1,b,b+20,A0++R.take 20,A++S,R.drop 20,rfl,by go_num,rfl,by have:=HB.out;have:=HK.out;omega,hlt,⟨by rw[OY,<-HR.out];exact HD.out.e,?_,?_,?_⟩,H1.out⟩
    ·rw[OK,HD.out.l0,HL1.out];omega
    ·rw[OK,HD.out.l,HS.out.1.length_eq,HL1.out];omega
    ·exact mV HD.out.l0 HD.out.l HD.out.s HL1.out HS.out
   case measure=>exact iO
  ·have hRl2:R.length<=20:=by have:=HRl.out;omega
   have HM:∀x∈R,x∈L0:=fun x hx=>by rw[HD.out.e];simp[hx]
   have HM':=qD HM;clear hb HM;go_wp2_with fail;refine(qm HO.out A R [] g n c a n _ (by rw[Om];exact J.out.row) (by rw[Om,OK,HD.out.l,HRl.out,<-HK.out];omega) (by rw[HD.out.l];exact HK.out) (by rw[HD.out.l,HRl.out,<-HK.out];omega) HZ.out ?_ ?_).mono ?_
   ·have:=HT.out;rw[HD.out.e] at this;exact(Oi.1 this).2.1
   ·exact HC.out.less J.out.but HM'.out
   rintro e w1 ⟨rfl,S,hS,h1⟩;have J1:Hid (iv g w (A++S) w1):=by have:=J.out.then h1;rw[Om] at this;exact this
   have HR1:Hid (∀q,aS bU (blk 20 q L0) (blk 20 q (A++S))):=by rw[Hid,HD.out.e];exact iU HD.out.l0 HD.out.l HD.out.s hRl2 hS
   have HLl:Hid ((A++S).length=L0.length):=by rw[Hid,HD.out.e,OK,OK,HD.out.l,HD.out.l0,hS.1.length_eq]
   clear hS h1;go_wp2_with fail
   go_loopw [6] (fun v6 wr=>∃(bs:Nat) (L:List (B2×Nat)),v6=.int .i64 bs/\20<=bs/\bs<=2*n+20/\L.length=L0.length/\(∀q,aS bU (blk bs q L0) (blk bs q L))/\iv g w L wr) (fun v6 _=>n-(intOf v6).toNat)
   ·exact⟨20,A++S,rfl,qL,by omega,HLl.out,HR1.out,J1.out⟩
   case round=>
    clear HB HK HD J HRl HM' J1 HR1 HLl;obtain⟨bs,L,rfl,hb1,hb2,hl,hR,I⟩:=hrel;have HL:=qD hl;have HRu:=qD hR;have J:=qD I;clear hl hR I;by_cases hlt2:bs<n
    ·go_wp2_with fail
     go_loopw [7,8] (fun v7 v8 wr=>∃(k a b:Nat) (A0 A R0 R:List (B2×Nat)),v7=.int .i64 a/\v8=.int .i64 b/\b=a+2*bs/\a<=n/\A.length=a/\pk bs L0 k A0 A R0 R/\iv g w (A++R) wr) (fun _ v8 _=>n+1-(intOf v8).toNat)
     ·exact⟨0,0,2*bs,[],[],L0,L,rfl,by go_num,by omega,ON _,rfl,⟨rfl,by simp,by simp,HL.out,fun q hq=>absurd hq oM,HRu.out⟩,J.out⟩
     case round=>
      clear HL HRu J;obtain⟨k,a,b,A0,A,R0,R,rfl,rfl,hb,han,hA,hM,I⟩:=hrel;have HB:=qD hb;have HA:=qD hA;have HM:=qD hM;have J:=qD I;have hRl:R.length=n-a:=by have h1:=HN.out;rw[hM.e] at h1;have h2:=hM.l0;have h3:=hM.l;simp at h1;rw[hM.rl];omega
      have HRl:=qD hRl;clear hM I hA;by_cases hlt3:b<=n
      ·obtain⟨X0,Y0,D0,X,Y,D,hp⟩:∃X0 Y0 D0 X Y D,qo bs R0 R X0 Y0 D0 X Y D:=⟨_,_,_,_,_,_,vw bs R0 R HM.out.rl oM⟩
       have hy:Y.length=bs:=by
        have h1:=HRl.out;rw[hp.e,OK,OK,hp.x] at h1;rcases hp.y with q|⟨q,rfl⟩
        ·exact q
        ·simp at h1;omega
       have hy0:Y0.length=bs:=by
        have h1:=HRl.out;rw[HM.out.rl,hp.e0,OK,OK,hp.x0] at h1;rcases hp.y0 with q|⟨q,rfl⟩
        ·exact q
        ·simp at h1;omega
       have HPa:=qD hp;have HY:=qD hy;have HY0:=qD hy0;have hbn:a+2*bs<=n:=oM
       clear hp hy hy0 hb hRl;go_wp2_with fail;refine(vv HO.out _ A X Y D g n c a (a+bs) b _ _ _ _ (HM.out.NH HPa.out HT.out HC.out J.out HN.out HZ.out) HA.out.symm (by rw[HPa.out.x]) (by rw[HY.out];have:=HB.out;omega) (by rw[HPa.out.x];omega) (by rw[HY.out];omega) (On _) rfl oM rfl).mono ?_;rintro e w2 ⟨rfl,S,hS,h1⟩;have HS:=qD hS;have H1:=qD (J.out.then h1);clear hS h1;go_wp2_with fail;go_roundw
       case rel=>
        exact⟨k+1,b,b+2*bs,_,A++S,_,D,rfl,by go_num,rfl,hlt3,by rw[OK,HS.out.1.length_eq,OK,HA.out,HPa.out.x,HY.out];have:=HB.out;omega,HM.out.next HPa.out HS.out HY.out HY0.out,H1.out⟩
       case measure=>exact iO
      ·have hab:n<a+2*bs:=oM
       clear hb hRl;by_cases hm:a+bs<n
       ·obtain⟨X0,Y0,X,Y,hp⟩:∃X0 Y0 X Y,qo bs R0 R X0 Y0 [] X Y []:=by
         have q:=vw bs R0 R HM.out.rl (by have:=HRl.out;omega);rw[show(R0.drop bs).drop bs=[] from OL (by have:=HRl.out;have:=HM.out.rl;simp;omega),show(R.drop bs).drop bs=[] from OL (by have:=HRl.out;simp;omega)] at q;exact⟨_,_,_,_,q⟩
        have hy:Y.length=n-a-bs:=by have h1:=HRl.out;rw[hp.e] at h1;have:=hp.x;simp at h1;omega
        have HPa:=qD hp;have HY:=qD hy;clear hp hy;go_wp2_with fail;refine(vv HO.out _ A X Y [] g n c a (a+bs) n _ _ _ _ (HM.out.NH HPa.out HT.out HC.out J.out HN.out HZ.out) HA.out.symm (by rw[HPa.out.x]) (by rw[HY.out];omega) (by rw[HPa.out.x];omega) (by rw[HY.out];omega) (On _) rfl oM rfl).mono ?_;rintro e w2 ⟨rfl,S,hS,h1⟩;have HS:=qD hS;have H1:Hid (iv g w (A++S) w2):=by have:=J.out.then h1;rw[Om] at this;exact this
        clear hS h1;go_wp2_with fail;go_roundw
        case rel=>
         exact⟨2*bs,A++S,by go_num,by omega,by omega,by rw[OK,HS.out.1.length_eq,OK,HA.out,HPa.out.x,HY.out,<-HN.out];omega,HM.out.last HPa.out HS.out,H1.out⟩
        case measure=>exact iO
       ·go_wp2_with fail;go_roundw
        case rel=>
         exact⟨2*bs,A++R,by go_num,by omega,by omega,by rw[OK,HA.out,HRl.out,<-HN.out];omega,HM.out.lone (by have:=HRl.out;omega),J.out⟩
        case measure=>exact iO
    ·have HE:Hid (aS bU L0 L):=oE (by rw[<-HN.out];omega) (by rw[HL.out,<-HN.out];omega) HRu.out;go_wp2_with fail
     go_end0
     exact⟨rfl,L,HE.out,by have:=J.out;simpa using this⟩
theorem ME:cM bU:=by
 refine⟨fun x y=>je (gC _ _) (gC _ _),fun x y z=>TR.lx (nk _ _ _) (nk _ _ _)⟩
theorem yy(w:World):Calls prog 213 #[.slice none 0 0,.int .i64 0,.int .i64 0,.func (.func 111) #[] #[]] w fun e w'=>e=.returned (.tuple #[])/\w=w':=by
 go_enter func213,TB;go_wp2_with fail
 go_loopw [8] (fun v8 wr=>v8=.int .i64 1/\wr=w) (fun _ _=>0)
 ·exact⟨rfl,rfl⟩
 case round=>
  obtain⟨rfl,rfl⟩:=hrel;go_wp2_with fail
  go_end0
  exact⟨rfl,rfl⟩
theorem wG(w:World):Calls prog 162 #[.slice none 0 0,.int .i64 0,.func (.func 111) #[] #[]] w fun e w'=>e=.returned (.tuple #[])/\w=w':=by
 go_enter func162,ntmps162;go_wp2_with fail
 go_loop [7,8] (fun v7 v8=>v7=.int .i64 0/\v8=.int .i64 20) (fun _ _=>0)
 case atStart=>exact⟨rfl,rfl⟩
 case round=>
  obtain⟨rfl,rfl⟩:=hrel;go_wp2_with fail;refine(yy _).mono ?_;rintro e w1 ⟨rfl,rfl⟩;go_wp2_with fail
  go_loop [6] (fun v6=>v6=.int .i64 20) (fun _=>0)
  case atStart=>rfl
  case round=>
   subst hrel;go_wp2_with fail
   go_end0
   exact⟨rfl,rfl⟩
theorem Ca(w:World):Calls prog 110 #[.slice none 0 0,.func (.func 111) #[] #[]] w fun e w'=>e=.returned (.tuple #[])/\w=w':=by
 go_enter func110,ntmps110;go_wp2_with fail;refine(wG _).mono ?_;rintro e w1 ⟨rfl,rfl⟩;go_wp2_with fail
 go_end0
 exact⟨rfl,rfl⟩
theorem Cb(L:List (B2×Nat))(g n c:Nat)(w:World)(hr:cJ w g L)(hn:n=L.length)(hz:n*32<=aF)(ht:gH L)(hc:lS g w L):
 Calls prog 110 #[.slice (some ⟨g,0,none⟩) n c,.func (.func 111) #[] #[]] w (uX g w [] L []):=by
 have HR:=qD hr;have HN:=qD hn;have HT:=qD ht;have HC:=qD hc;have HZ:=qD hz;clear hr hn ht hc hz;go_enter func110,ntmps110;go_wp2_with fail;refine(vz ME L g n c _ HR.out HN.out HZ.out HT.out HC.out).mono ?_;rintro e w1 hd;have HD:=qD hd;obtain⟨rfl,_⟩:=hd;go_wp2_with fail
 go_end0
 exact HD.out
def mW(xs ys:List B2):Prop:=ys.Perm xs/\ys.Pairwise fun p q=>bU p q<=0
theorem mW.of{xs:List B2}{S:List (B2×Nat)}(h:aS bU (bi 0 xs) S):mW xs (S.map Prod.fst):=by
 refine⟨?_,?_⟩
 ·have:=h.perm.map Prod.fst
  rwa [lO] at this
 ·rw[Sx];refine h.ord.imp fun {a b} hab=>?_;have hab':bU a.1 b.1<0\/bU a.1 b.1=0/\a.2<b.2:=hab;omega
def Iz(ha:Bool)(m:List (cx×cx))(L:List B2):Prop:=
 (ha=false/\∃Z,mW (m.map fY) Z/\L=fw empty (fL Z))\/
  (ha=true/\L=[(empty,empty)]/\∃s∈m,aZ s.1.1 s.2.1≠0)\/
  (ha=true/\(∀s∈m,aZ s.1.1 s.2.1=0)/\∃Z,mW ((m.map fun s=>cL s.1.1).map kS) Z/\L=fw empty (fL Z))
theorem iV(x y:Int)(w:World):Calls prog 201 #[.int .i64 x,.int .i64 y] w fun e w'=>e=.returned (.int .i64 (cd x y))/\w'=w:=by
 go_enter func201,ntmps201
 go_wp2
 all_goals (go_ret;refine⟨?_,rfl⟩;unfold cd Lib.compareInt;(repeat' split)<;>first|rfl|(exfalso;omega))
theorem qp(a:ByteArray)(i:Nat)(h:i<a.size):a.data.toList.drop i=a[i]::a.data.toList.drop (i+1):=by
 rw[QP (by simpa using h)];rfl
theorem Cc{l m:List UInt8}(h1:i<=l.length)(h2:i<=m.length)(h:l.length<=i\/m.length<=i):Lib.compareBytes (l.drop i) (m.drop i)=cd (l.length:Int) (m.length:Int):=by
 rw[gW];by_cases hl:l.length<=i
 ·rw[Og hl];by_cases hm:m.length<=i
  ·rw[Og hm,OQ oM,OQ oM];rfl
  ·rw[QP (by omega:i<m.length),OW oM];rfl
 ·have hm:m.length<=i:=oM
  rw[Og hm,QP (by omega:i<l.length),OQ oM,OW oM];rfl
theorem wH(a b:UInt8)(l m:List UInt8):Lib.compareBytes (a::l) (b::m)=if(a.toNat:Int)=(b.toNat:Int) then Lib.compareBytes l m else cd (a.toNat:Int) (b.toNat:Int):=by
 rw[Lib.compareBytes];unfold cd Lib.compareInt;have e1:a<b↔a.toNat<b.toNat:=Pg;have e2:b<a↔b.toNat<a.toNat:=Pg;rcases RL a.toNat b.toNat with h|h|h
 ·rw[OW (e1.2 h),OQ oM,OW oM]
 ·rw[OQ (by rw[e1];omega),OQ (by rw[e2];omega),OW oM]
 ·rw[OQ (by rw[e1];omega),OW (e2.2 h),OQ oM,OQ oM,OW oM]
theorem qt(a b:ByteArray)(w:World)(h1:a.size<=aF):Calls prog 202 #[.string a,.string b] w (Rt w (.int .i64 (bh a b))):=by
 unfold aF at h1;go_enter func202,ntmps202;go_wp2_with fail
 go_loopw [5] (fun v5 wr=>∃i:Nat,i<=a.size/\i<=b.size/\v5=.int .i64 i/\bh a b=Lib.compareBytes (a.data.toList.drop i) (b.data.toList.drop i)/\Bl w wr) (fun v5 _=>a.size-(intOf v5).toNat)
 ·exact⟨0,ON _,ON _,rfl,rfl,OG _ _⟩
 case round=>
  obtain⟨i,hi1,hi2,rfl,hq,I⟩:=hrel;have HQ:=qD hq;have J:=qD I;clear hq I;by_cases hlt:i<a.size/\i<b.size
  ·obtain⟨hl1,hl2⟩:=hlt;have HA:=qD (HQ.out.trans (by rw[qp a i hl1,qp b i hl2,wH]));cases hc:((a[i].toNat:Int) != (b[i].toNat:Int))
   ·go_upto_region 4 with fail
    go_quiet (fail)
    have HC:Hid (bh a b=Lib.compareBytes (a.data.toList.drop (i+1)) (b.data.toList.drop (i+1))):=by
     have:(a[i].toNat:Int)=(b[i].toNat:Int):=by simpa using hc
     rw[Hid,HA.out,OW this]
    go_wp2_with fail;go_roundw
    ·exact⟨i+1,by omega,by omega,by go_num,HC.out,J.out.drewN _⟩
    ·exact iO
   ·have HC:Hid (bh a b=cd (a[i].toNat:Int) (b[i].toNat:Int)):=by
     have:¬(a[i].toNat:Int)=(b[i].toNat:Int):=by simpa using hc
     rw[Hid,HA.out,OQ this]
    have b1:a[i].toNat<256:=a[i].toNat_lt;have b2:b[i].toNat<256:=b[i].toNat_lt;go_upto_region 4 with fail
    go_quiet (fail)
    have J2:=qD (J.out.drewN nq);generalize wr.drewN nq=w2 at*;have W1:IntKind.i64.wrap (a[i].toNat:Int)=(a[i].toNat:Int):=jc oM oM;have W2:IntKind.i64.wrap (b[i].toNat:Int)=(b[i].toNat:Int):=jc oM oM;go_upto_region 5 with fail
    go_quiet ((go_at_call 201;exact Calls.quiet_of_same (iV _ _ _)))
    go_wp2;go_ret;exact⟨by rw[HC.out];rfl,J2.out.drewN _⟩
  ·have HE:=qD (HQ.out.trans (Cc sO sO sO));by_cases hl1:i<a.size
   all_goals
    first|have hx9:b.size<=i:=by omega|have hx9:a.size<=i:=oM
    go_wp2_with fail;refine(iV _ _ _).mono ?_;rintro e w' ⟨rfl,rfl⟩;go_wp2;go_ret;exact⟨by rw[HE.out];simp,J.out⟩
theorem Hs(a b:UInt8)(x y:List UInt8):Op.bytesLess (a::x) (b::y)=true↔a.toNat<b.toNat\/(a=b/\Op.bytesLess x y=true):=by
 simp[Op.bytesLess,Pg]
theorem Eg:∀l m:List UInt8,Op.bytesLess l m=true↔Lib.compareBytes l m<0
 | [],[]=>by decide
 | [],b::m=>by simp[Op.bytesLess,Lib.compareBytes]
 | a::l,[]=>by simp[Op.bytesLess,Lib.compareBytes]
 | a::l,b::m=>by
  have ih:=Eg l m;rw[Hs,wH];by_cases h:(a.toNat:Int)=(b.toNat:Int)
  ·rw[OW h,<-ih];have h2:a=b:=QM.1 oM;constructor
   ·rintro(h3|h3)
    ·omega
    ·exact h3.2
   ·intro h3;exact .inr ⟨h2,h3⟩
  ·rw[OQ h];simp only[cd,Lib.compareInt];constructor
   ·rintro(h3|h3)
    ·rw[OW oM];omega
    ·exact absurd (congrArg (fun x:UInt8=>(x.toNat:Int)) h3.1) h
   ·intro h3;by_cases h4:a.toNat<b.toNat
    ·exact .inl h4
    ·exfalso;rw[OQ oM] at h3;split at h3<;>omega
theorem BO(a b:ByteArray):Op.bytesLess a.toList b.toList=decide (bh a b<0):=by
 have h:=Eg a.data.toList b.data.toList;rw[PO,PO];show _=decide (Lib.compareBytes a.data.toList b.data.toList<0);rw[Ob,h,Py]
theorem wI(x:ByteArray)(w:World):Calls prog 163 #[.string x] w fun e w'=>e=.returned (.bool false)/\w=w':=by
 go_enter func163,ntmps163;go_wp2;go_ret;exact⟨by simp,rfl⟩
theorem wJ(x y:ByteArray)(w:World):Calls prog 113 #[.string x,.string y] w fun e w'=>e=.returned (.int .i64 (bh x y))/\w=w':=by
 have h1:=BO x y;have an:=gC x y;have rg:=qN x y
 have hz:(x.toList==y.toList)=decide (bh x y=0):=by
  rw[Ob,QR,Py,jf,PO,PO];constructor
  ·intro h;exact QO (QD.1 h)
  ·intro h;rw[h]
 obtain⟨c,hc⟩:∃c,c=bh x y:=⟨_,rfl⟩;rw[<-hc] at h1 hz rg ⊢;have h3:c=-1\/c=0\/c=1:=oM
 clear hc rg an;rcases h3 with rfl|rfl|rfl
 all_goals
  first|replace h1:Op.bytesLess x.toList y.toList=true:=h1|replace h1:Op.bytesLess x.toList y.toList=false:=h1
  first|replace hz:(x.toList==y.toList)=true:=hz|replace hz:(x.toList==y.toList)=false:=hz
  go_enter func113,ntmps113;go_wp2_with fail;refine(wI x _).mono ?_;rintro e w1 ⟨rfl,rfl⟩;go_wp2_with fail;refine(wI y _).mono ?_;rintro e w1 ⟨rfl,rfl⟩;go_wp2;go_ret;exact⟨rfl,rfl⟩
theorem Ht(x y:Int)(g:Nat)(t:TypeId)(w:World)(h:aG w g t #[.int .i64 x,.int .i64 y]):Calls prog 112 #[.slice (some ⟨g,0,none⟩) 2 2] w (Rt w (.int .i64 (mi x y))):=by
 have H:=qD h;have q0:=h.cell 0;have q1:=h.cell 1;simp at q0 q1;clear h;go_enter func112,ntmps112;go_wp2_with fail
 go_loopw [8] (fun v wr=>(v=.int .i64 0\/v=.int .i64 1/\x=0\/v=.int .i64 2/\x=0/\y=0)/\wr=w) (fun v _=>match v with | .int _ n=>(5-n).toNat|_=>0)
 ·exact⟨.inl rfl,rfl⟩
 case round=>
  obtain⟨rfl|⟨rfl,rfl⟩|⟨rfl,rfl,rfl⟩,rfl⟩:=hrel
  ·by_cases h0:x=0
   ·subst h0;go_wp2_with fail;refine⟨by simp,by decide⟩
   ·have hx:(x != 0)=true:=by simpa using h0
    have HL:Hid (mi x y=x):=qD (by unfold mi;rw[OW h0]);clear h0;go_wp2;go_ret;exact⟨by rw[HL.out];rfl,OG _ _⟩
  ·have HL:Hid (mi 0 y=y):=qD rfl;by_cases h0:y=0
   ·subst h0;go_wp2_with fail;refine⟨by simp,by decide⟩
   ·have hx:(y != 0)=true:=by simpa using h0
    clear h0;go_wp2;go_ret;exact⟨by rw[HL.out];rfl,OG _ _⟩
  ·go_wp2;go_ret;exact⟨rfl,OG _ _⟩
theorem Eh(p q:B2)(w:World):Calls prog 111 #[.agg #[.string p.1,.string p.2],.agg #[.string q.1,.string q.2]] w (Rt w (.int .i64 (bU p q))):=by
 have HL:Hid (bU p q=mi (bh p.1 q.1) (bh p.2 q.2)):=qD rfl;go_enter func111,ntmps111;go_upto_region 1 with fail
 refine yS (#[.string p.1,.string p.2]) 49 (#[.string q.1,.string q.2]) 49 ?_;intro wa B0 B1 BE
 have KS:Hid (∀w',Bl wa w'->w'.cell? ⟨w.heap.size,0,none⟩=some (.string p.1)/\w'.cell? ⟨w.heap.size,1,none⟩=some (.string p.2)/\w'.cell? ⟨w.heap.size+1,0,none⟩=some (.string q.1)/\w'.cell? ⟨w.heap.size+1,1,none⟩=some (.string q.2)):=qD fun w' hb=>
  ⟨((B0.out.step hb).cell 0).trans rfl,((B0.out.step hb).cell 1).trans rfl,((B1.out.step hb).cell 0).trans rfl,((B1.out.step hb).cell 1).trans rfl⟩
 have B:=qD ((OG wa.heap.size wa).drewN 1);obtain⟨k1,hk1⟩:∃k,k=bh p.1 q.1:=⟨_,rfl⟩;obtain⟨k2,hk2⟩:∃k,k=bh p.2 q.2:=⟨_,rfl⟩;have C1:Hid (∀wr,Calls prog 113 #[.string p.1,.string q.1] wr fun e w'=>e=.returned (.int .i64 k1)/\wr=w'):=qD fun wr=>by rw[hk1];exact wJ _ _ _
 have C2:Hid (∀wr,Calls prog 113 #[.string p.2,.string q.2] wr fun e w'=>e=.returned (.int .i64 k2)/\wr=w'):=qD fun wr=>by rw[hk2];exact wJ _ _ _
 rw[<-hk1,<-hk2] at HL;clear hk1 hk2
 go_region_held3 (fun w'=>w'.cell? ⟨w.heap.size,0,none⟩=some (.string p.1)/\w'.cell? ⟨w.heap.size,1,none⟩=some (.string p.2)/\w'.cell? ⟨w.heap.size+1,0,none⟩=some (.string q.1)/\w'.cell? ⟨w.heap.size+1,1,none⟩=some (.string q.2))
  (first|exact KS.out _ B.out|exact KS.out _ (B.out.alloc B.out.size _)|((try dsimp only);assumption)|go_keep)
  (first
    | (go_at_call 113;with_reducible refine(C1.out _).mono ?_;rintro e3 w3 ⟨rfl,rfl⟩)
    | (go_at_call 113;with_reducible refine(C2.out _).mono ?_;rintro e3 w3 ⟨rfl,rfl⟩)
    | (go_at_call 112;refine(Ht k1 k2 wa.heap.size 3 _ (aG.drew (aG.Mm rfl))).mono ?_;rintro e3 w3 ⟨rfl,hb⟩;replace B:=qD (((OG _ _).alloc (qL) _).drew.Ml hb);clear hb))
 all_goals
  go_wp2;go_ret;exact⟨by rw[HL.out];rfl,BE.out.Ml B.out⟩
end
open Go
section
variable {k b n g o B c q size K:Nat} {w w' w1:World} {e t t2:TypeId} {a op x y:Int} {l:List ByteArray} {s:ByteArray} {A:Option Addr} {xs:List Value}
theorem uY(p q:B2)(w:World):(Op.equal 49 (.agg #[.string p.1,.string p.2]) (.agg #[.string q.1,.string q.2])).run prog w=.ok (decide (p=q)) w:=by
 obtain⟨i,hi⟩:=info_of_underlying (P:=prog) PY;have h:=run_equalIn_array (P:=prog) w 9999 #[.string p.1,.string p.2] #[.string q.1,.string q.2] (t:=49) (e:=9) (n:=2) underlying49 hi
 have e:decide (p=q)=((p.1.toList==q.1.toList)&&(p.2.toList==q.2.toList)):=by
  rw[Ob,Py,Ov,QR,QR];constructor
  ·rintro rfl;exact⟨rfl,rfl⟩
  ·rintro⟨h1,h2⟩;refine Prod.ext ?_ ?_
   ·rw[PO,PO] at h1;exact QO (QD.1 h1)
   ·rw[PO,PO] at h2;exact QO (QD.1 h2)
 rw[e];show(Op.equalIn (9999+1) 49 _ _).run _ _=_;rw[h];have hs:∀(a b:ByteArray),(Op.equalIn 9999 9 (.string a) (.string b)).run prog w=.ok (a.toList==b.toList) w:=fun a b=>run_equalIn_string w 9998 _ a b PY;have hc:Tryz.prog.cellsOf 9=1:=kR
 have hp:∀(xs:Array Value) (k:Nat) (a:ByteArray),xs[k]?=some (.string a)->(part 9 xs k).run prog w=.ok (.string a) w:=by
  intro xs k a hk;simp[part,SC PY,isAgg,hk]
 simp[Op.eqItems,List.range,List.range.loop,hc,hp,hs];by_cases h1:p.1.toList=q.1.toList<;>by_cases h2:p.2.toList=q.2.toList<;>simp[h1,h2]
theorem Ei:Tryz.prog.eqGuardType Tryz.prog.depth 49=false:=kR
theorem Cd{ev:Operand->Value}{o:Oper}{x y:Operand}(p q:B2)(w:World)(ho:o.op=.binOp .eql 49 x y t2)(hx:ev x=.agg #[.string p.1,.string p.2])(hy:ev y=.agg #[.string q.1,.string q.2]):
 (execOp ev o).run prog w=.ok (.value (.bool (decide (p=q)))) w:=by
 unfold execOp;rw[ho];have h1:=uY p q w
 have h2:(binOp .eql 49 (.agg #[.string p.1,.string p.2]) (.agg #[.string q.1,.string q.2])).run prog w=.ok (.bool (decide (p=q))) w:=by
  show(do pure (Value.bool (<-Op.equal _ _ _))).run _ _=_;rw[Qo,h1];rfl
 simp only[hx,hy,Qo,run_eqGuard_agg _ _ _ _ _ _ _ Ei,Qj,h2,Ro]
theorem Ce{ev:Operand->Value}{o:Oper}{x y:Operand}(p q:B2)(w:World)(ho:o.op=.binOp .neq 49 x y t2)(hx:ev x=.agg #[.string p.1,.string p.2])(hy:ev y=.agg #[.string q.1,.string q.2]):
 (execOp ev o).run prog w=.ok (.value (.bool (!decide (p=q)))) w:=by
 unfold execOp;rw[ho];have h1:=uY p q w
 have h2:(binOp .neq 49 (.agg #[.string p.1,.string p.2]) (.agg #[.string q.1,.string q.2])).run prog w=.ok (.bool (!decide (p=q))) w:=by
  show(do pure (Value.bool (!(<-Op.equal _ _ _)))).run _ _=_;rw[Qo,h1];rfl
 simp only[hx,hy,Qo,run_eqGuard_agg _ _ _ _ _ _ _ Ei,Qj,h2,Ro]
theorem yz{C:World->Prop}{K:Act->Prop}{a:Act}{o:Oper}{x y:Operand}(p q:B2){z:Bool}(hz:z=decide (p=q))(ho:o.op=.binOp .eql 49 x y t2)(hx:a.eval x=.agg #[.string p.1,.string p.2])(hy:a.eval y=.agg #[.string q.1,.string q.2])(h:K (a.put o.dst (.bool z))):o.quiet prog a C K:=by
  refine⟨.bool z,fun w _=>?_,h⟩;unfold Oper.quietAt;rw[Cd p q w ho hx hy,hz];exact⟨rfl,rfl⟩
theorem zA{C:World->Prop}{K:Act->Prop}{a:Act}{o:Oper}{x y:Operand}(p q:B2){z:Bool}(hz:z=!decide (p=q))(ho:o.op=.binOp .neq 49 x y t2)(hx:a.eval x=.agg #[.string p.1,.string p.2])(hy:a.eval y=.agg #[.string q.1,.string q.2])(h:K (a.put o.dst (.bool z))):o.quiet prog a C K:=by
  refine⟨.bool z,fun w _=>?_,h⟩;unfold Oper.quietAt;rw[Ce p q w ho hx hy,hz];exact⟨rfl,rfl⟩
theorem Cf{α:Type}{rec:α->List Value}{s:Nat}(hs:∀a,(rec a).length=s):∀(xs:List α) (k:Nat),(aN rec xs).take (k*s)=aN rec (xs.take k):=by
 intro xs
 induction xs with
 | nil=>intro k;simp[aN]
 | cons a l ih=>
  intro k;cases k with
  | zero=>simp[aN]
  | succ k=>
   have e:∀(y:α) (t:List α),aN rec (y::t)=rec y++aN rec t:=fun _ _=>rfl;rw[Pl,e,e,<-ih k,show(k+1)*s=(rec a).length+k*s by rw[hs,QJ];omega,Sk]
theorem Cg{α:Type}{rec:α->List Value}{s:Nat}(hs:∀a,(rec a).length=s):∀(xs:List α) (k:Nat),(aN rec xs).drop (k*s)=aN rec (xs.drop k):=by
 intro xs
 induction xs with
 | nil=>intro k;simp[aN]
 | cons a l ih=>
  intro k;cases k with
  | zero=>simp[aN]
  | succ k=>
   have e:∀(y:α) (t:List α),aN rec (y::t)=rec y++aN rec t:=fun _ _=>rfl;rw[QQ,e,<-ih k,show(k+1)*s=(rec a).length+k*s by rw[hs,QJ];omega,Ri]
theorem dz.take(h:dz w B size A n xs)(hk:k<=n):dz w B size A k (xs.take (k*size)):=by
 refine⟨by rw[Ow,h.1];exact Nat.min_eq_left (Ot _ hk),fun hn=>?_⟩;obtain⟨ad,rfl,hb,hc⟩:=h.2 oM;refine⟨ad,rfl,hb,fun j u hu=>hc j u ?_⟩;rw[QK] at hu;split at hu
 ·exact hu
 ·cases hu
theorem aG.setCells:∀(vs:List Value) {l:List Value} (o:Nat) {w:World},aG w g t l.toArray->aG (w.setCells g o vs) g t (dO l o vs).toArray
 | [],_,_,_,h=>h
 | v::r,l,o,w,h=>by
  have h1:=h.Mo o v;rw[show l.toArray.setIfInBounds o v=(l.set o v).toArray by simp] at h1;exact aG.setCells r (o+1) h1
theorem mq(g:Nat):∀(vs:List Value) (o:Nat) (w:World) (b:Nat),b≠g->(w.setCells g o vs).heap[b]?=w.heap[b]?
 | [],_,_,_,_=>rfl
 | v::r,o,w,b,h=>by
  rw[World.setCells,mq g r (o+1) _ b h];exact PQ w ⟨g,o,none⟩ v b h
theorem fD.setCells:∀(vs:List Value) (o:Nat) {w1:World},fD g w w1->fD g w (w1.setCells g o vs)
 | [],_,_,h=>h
 | v::r,o,_,h=>fD.setCells r (o+1) (h.set (p:=⟨g,o,none⟩) rfl v)
theorem zB(A:Option Addr)(c:Nat)(f:Value)(w:World):
 Calls prog 213 #[.slice A 1 c,.int .i64 0,.int .i64 1,f] w fun e w'=>e=.returned (.tuple #[])/\w'=w:=by
 go_enter func213,TB;go_wp2_with fail
 go_loopw [8,9] (fun v8 _ wr=>v8=.int .i64 1/\wr=w) (fun _ _ _=>0)
 ·exact⟨rfl,rfl⟩
 case round=>
  obtain⟨rfl,rfl⟩:=hrel;go_wp2_with fail
  go_end0
  exact⟨rfl,rfl⟩
theorem wK(A:Option Addr)(c:Nat)(f:Value)(w:World):
 Calls prog 162 #[.slice A 1 c,.int .i64 1,f] w fun e w'=>e=.returned (.tuple #[])/\w'=w:=by
 go_enter func162,ntmps162;go_wp2_with fail
 go_loop [7,8] (fun v7 v8=>v7=.int .i64 0/\v8=.int .i64 20) (fun _ _=>0)
 case atStart=>exact⟨rfl,rfl⟩
 case round=>
  obtain⟨rfl,rfl⟩:=hrel;go_wp2_with fail;refine(zB _ _ _ _).mono ?_;rintro e w1 ⟨rfl,rfl⟩;go_wp2_with fail
  go_loop [6,7,8,9] (fun v6 _ _ _=>v6=.int .i64 20) (fun _ _ _ _=>0)
  case atStart=>rfl
  case round=>
   subst hrel;go_wp2_with fail
   go_end0
   exact⟨rfl,rfl⟩
theorem uZ(A:Option Addr)(c:Nat)(f:Value)(w:World):
 Calls prog 110 #[.slice A 1 c,f] w fun e w'=>e=.returned (.tuple #[])/\w'=w:=by
 go_enter func110,ntmps110;go_wp2_with fail;refine(wK _ _ _ _).mono ?_;rintro e w1 ⟨rfl,rfl⟩;go_wp2_with fail
 go_end0
 exact⟨rfl,rfl⟩
theorem ua(A:Option Addr)(c:Nat)(w:World):
 Calls prog 114 #[.slice A 1 c] w fun e w'=>e=.returned (.slice A 1 c)/\w'=w:=by
 go_enter func114,TC;go_wp2;go_ret;exact⟨rfl,rfl⟩
theorem zC(s : ByteArray)(x : Nat)(w : World)(hs : s.size = 9)(hx : ((s[8]'(by omega)).toNat : Int) = (x : Int))(hx2 : x < 255) :
 Calls prog 109 #[.string s] w (Rt w (.tuple #[.string (s.extract 0 8++strOfNums [((x+1:Nat):Int)]),.bool true])):=by
 have h1:((x:Int)==255)=false:=by simp;omega
 have h2:((x:Int)+1)%256=((x+1:Nat):Int):=oM
 obtain⟨z,hz⟩:∃z:Int,z=((x+1:Nat):Int):=⟨_,rfl⟩;have hzx:z=(x:Int)+1:=oM
 have hcv:(convert 133 9 (.slice (some ⟨w.heap.size,0,none⟩) 1 1)).run prog ((w.alloc (.cells #[.int .u8 ((x:Int)+1)] 5)).drew)=.ok (.string (strOfNums [z])) ((w.alloc (.cells #[.int .u8 ((x:Int)+1)] 5)).drew):=by
  rw[<-hzx];refine Qz (P:=prog) _ 133 5 Pd QX w.heap.size 0 1 1 [z] rfl (fun i hi=>?_) 9 PY;obtain rfl:i=0:=oM
  exact(aG.new w 5 #[.int .u8 z]).drew.cell 0
 rw[<-hz];obtain⟨Z,hZ⟩:∃Z,Z=strOfNums [z]:=⟨_,rfl⟩;rw[<-hZ] at hcv ⊢;have hZs:Z.size=1:=by rw[hZ,Qg];rfl
 have HZ:=qD hZ;have HZZ:=qD hz;clear hz hZ h2 hzx;go_enter func109,ntmps109;go_upto_region 2 with fail
 go_loopw [4] (fun v wr=>v=.int .i64 9/\wr=w) (fun _ _=>0)
 ·exact⟨rfl,rfl⟩
 case round=>
  obtain⟨rfl,rfl⟩:=hrel;go_wp2_with fail
  go_region
  all_goals
   go_wp2;go_ret2;exact⟨rfl,((OG _ _).alloc (qL) _).drew⟩
def MF(is:List PI)(w:World)(e:Ending)(w':World):Prop:=
 ∃(A:Option Addr) (m c:Nat) (xs:List PS),e=.returned (.slice A m c)/\xs.map ai=aV (is.map dg)/\(∀x∈xs,∃p∈is,x=iD p)/\m<=is.length/\SS w' A m c xs/\Bl w w'
end
structure Ej(w:World)(is:List PI)(i:Nat)(v:Value)(xs:List PS)(wr:World):Prop where
 own:wr.ownsRow w.heap.size 167 12 v xs.length (aN dR xs)
 eq:xs.map ai=aV ((is.take i).map dg)
 le:xs.length<=i
 ok:∀x∈xs,vr w x
 pr:∀x∈xs,∃p∈is,x=iD p
 bel:Bl w wr
section
variable {m i size:Nat} {w w' wr:World} {v v':Value} {xs:List Value}
theorem Ej.step{is:List PI}{xs:List PS}(h:Ej w is i v xs wr)(hb:Bl wr w'):Ej w is i v xs w':=⟨af h.own hb,h.eq,h.le,h.ok,h.pr,h.bel.Ml hb⟩
theorem Ej.skip{is:List PI}{xs:List PS}{p:PI}(h:Ej w is i v xs wr)(hp:is[i]?=some p)(hn:(dg p).ne=false):Ej w is (i+1) v xs wr:=by
 refine⟨h.own,?_,by have:=h.le;omega,h.ok,h.pr,h.bel⟩;rw[take_snoc' hp,Oo,Pv,jM,hn];exact h.eq
theorem Ej.next{is:List PI}{xs:List PS}{p:PI}(h:Ej w is i v xs wr)(hp:is[i]?=some p)(hn:(dg p).ne=true)(hok:qd w p)(hg:wr.grownBy w' v.ownBlock)(hm:m=xs.length+1)(ho:w'.ownsRow w.heap.size 167 12 v' m (aN dR xs++dR (iD p))):Ej w is (i+1) v' (xs++[iD p]) w':=by
  subst hm;refine⟨?_,?_,by have:=h.le;simp;omega,fun x hx=>?_,fun x hx=>?_,h.bel.grown hg h.bel.size (ak h.own)⟩
  ·rw[cS,OK];exact ho
  ·have e:aV ((is.take (i+1)).map dg)=aV ((is.take i).map dg)++[(dg p).sp]:=by
    rw[take_snoc' hp,Oo,Pv,jM,hn];rfl
   rw[e,Oo,h.eq];rfl
  ·rcases OP.1 hx with hx|hx
   ·exact h.ok x hx
   ·simp at hx;subst hx;exact hok.span
  ·rcases OP.1 hx with hx|hx
   ·exact h.pr x hx
   ·simp at hx;subst hx;exact⟨p,OJ hp,rfl⟩
theorem Ch{p:PI}(h:aJ p.1.1.2=false):(dg p).ne=false:=by show(aJ p.1.1.2&&_&&_)=false;rw[h];rfl
theorem Ci{p:PI}(h:aJ p.1.2.2=false):(dg p).ne=false:=by show(aJ p.1.1.2&&aJ p.1.2.2&&_)=false;rw[h,Sn];rfl
theorem Cj{p:PI}(h:¬aq (dg p).sp.1 (dg p).sp.2<0):(dg p).ne=false:=by unfold Iv.ne;rw[OV h,Sn]
theorem Hu{p:PI}(h1:aJ p.1.1.2=true)(h2:aJ p.1.2.2=true)(h:aq (dg p).sp.1 (dg p).sp.2<0):(dg p).ne=true:=by
 show(aJ p.1.1.2&&aJ p.1.2.2&&_)=true;rw[h1,h2,OM h];rfl
end
structure Lr(w:World)(is:List PI)(i:Nat)(v:Value)(xs:List PS)(g:Nat)(p:PI)(wr:World):Prop where
 i:Ej w is i v xs wr
 b5:aG wr g 85 (ae p)
 b6:aG wr (g+1) 167 (iy (iD p))
section
variable {n g i c base q cap size S:Nat} {w w' wr:World} {e:TypeId} {a x:Int} {ys:List ByteArray} {v:Value} {A:Option Addr} {xs:List Value}
theorem Lr.step{is:List PI}{xs:List PS}{p:PI}(h:Lr w is i v xs g p wr)(hb:Bl wr w'):Lr w is i v xs g p w':=⟨h.i.step hb,h.b5.step hb,h.b6.step hb⟩
theorem Ck(is:List PI)(A:Option Addr)(n c:Nat)(w:World)(hT:cZ w)(h:SI w A n c is)(hn:n<=1000000000):
 Calls prog 136 #[.slice A n c] w (MF is w):=by
 obtain⟨j0,hj0,hy0,hy1,hy2⟩:=Pb mT;have HT:=qD hT;have H:=qD h;have HL:=qD h.sr.ln;clear hT h;go_enter func136,ntmps136;go_wp2_with fail
 go_loopw [3,9] (fun v3 v9 wr=>∃(i:Nat) (xs:List PS),i<=n/\v9=.int .i64 i/\Ej w is i v3 xs wr) (fun _ v9 _=>n-(intOf v9).toNat)
 ·exact⟨0,[],ON _,rfl,⟨bP _ _ _ _,rfl,qL,by simp,by simp,OG _ _⟩⟩
 case round=>
  obtain⟨i,xs,hi,rfl,I⟩:=hrel;have J:=qD I;by_cases hlt:i<n
  ·obtain⟨p,hp⟩:∃p,is[i]?=some p:=⟨_,OH (by have:=HL.out;omega)⟩;obtain⟨b,off,rfl,hbl,hat,hok⟩:=H.out.at hp;have HP:=qD hp;have HOk:=qD hok;have hbr:b<wr.heap.size:=by have:=I.bel.size;omega
   have hle:=I.le;obtain⟨⟨p0,p1,p2,p3,p4⟩,⟨q0,q1,q2,q3,q4⟩,r0,r1⟩:=hat.keep (I.bel.block b hbl);clear hp hok hat I hbl;go_upto_region 6 with fail
   have KB:Lr w is i u3 xs wr.heap.size p ((wr.alloc (.cells (ae p) 85)).alloc (.cells (iy (iD p)) 167)):=
    ⟨(J.out.step ((OG wr.heap.size wr).alloc (qL) _)).step ((OG _ _).alloc (qL) _),(aG.Mm rfl).alloc _,aG.Mm sM⟩
   change (Code.region 6 _ _).wp _ _ _ ((wr.alloc (.cells (ae p) 85)).alloc (.cells (iy (iD p)) 167));generalize (wr.alloc (.cells (ae p) 85)).alloc (.cells (iy (iD p)) 167)=wa at*;generalize wr.heap.size=ga at*;have LB:=qD KB;clear p0 p1 p2 p3 p4 q0 q1 q2 q3 q4 r0 r1 J KB hbr;obtain⟨⟨p0,p1,p2,p3,p4⟩,⟨q0,q1,q2,q3,q4⟩,r0,r1⟩:=jE.Mn LB.out.b5;go_wp2_with fail;refine(iX p.1.1.2 p.1.1.1 _ (HT.out.step LB.out.i.bel) (HOk.out.step LB.out.i.bel).1).mono ?_;rintro e w1 ⟨rfl,hb1⟩;have L1:=qD (LB.out.step hb1);clear hb1 p0 p1 p2 p3 p4 q0 q1 q2 q3 q4 r0 r1 LB;cases h1:aJ p.1.1.2
   ·have HI:=qD (L1.out.i.skip HP.out (Ch h1));clear h1;go_wp2_with fail;go_roundw
    ·exact⟨i+1,xs,by omega,by go_num,HI.out⟩
    ·exact iO
   have V1:=qD h1;clear h1;obtain⟨⟨p0,p1,p2,p3,p4⟩,⟨q0,q1,q2,q3,q4⟩,r0,r1⟩:=jE.Mn L1.out.b5;go_wp2_with fail;refine(iX p.1.2.2 p.1.2.1 _ (HT.out.step L1.out.i.bel) (HOk.out.step L1.out.i.bel).2).mono ?_;rintro e w2 ⟨rfl,hb2⟩;have L2:=qD (L1.out.step hb2);clear hb2 p0 p1 p2 p3 p4 q0 q1 q2 q3 q4 r0 r1 L1;cases h2:aJ p.1.2.2
   ·have HI:=qD (L2.out.i.skip HP.out (Ci h2));clear h2;go_wp2_with fail;go_roundw
    ·exact⟨i+1,xs,by omega,by go_num,HI.out⟩
    ·exact iO
   have V2:=qD h2;clear h2;obtain⟨⟨⟨p0,p1,p2,p3,p4⟩,p5⟩,⟨⟨q0,q1,q2,q3,q4⟩,q5⟩⟩:=yM.Mn L2.out.b6;go_wp2_with fail;refine(jF (iD p).1 (iD p).2 _ (HOk.out.step L2.out.i.bel).1 (HOk.out.step L2.out.i.bel).2).mono ?_;rintro e w3 ⟨rfl,hb3⟩;have L3:=qD (L2.out.step hb3);clear hb3 p0 p1 p2 p3 p4 p5 q0 q1 q2 q3 q4 q5 L2;by_cases h3:aq (ix (iD p).1) (ix (iD p).2)<0
   ·have HN:=qD (Hu V1.out V2.out h3);obtain⟨⟨⟨p0,p1,p2,p3,p4⟩,p5⟩,⟨⟨q0,q1,q2,q3,q4⟩,q5⟩⟩:=yM.Mn L3.out.b6;have hlo:w.heap.size<=w3.heap.size:=L3.out.i.bel.size;have LK:=qD (L3.out.i.step ((OG w3.heap.size w3).alloc (qL) (Obj.cells (iy (iD p)) 167)));go_wp2_with (at_builtin;refine aE _ rfl _ _ 163 rfl w.heap.size 167 j0 (vq (((VC.zero,aC.zero),false),((VC.zero,aC.zero),false))) 12 176 Qf hj0 hy0 hy1 hy2 rfl dE u3 xs.length (aN dR xs) rfl LK.out.own _ _ 1 _ (dR (iD p)) rfl ⟨rfl,fun _=>⟨_,rfl,On _,ag _ _ _⟩⟩ (lR _) (by unfold maxLen;omega) oM ?c5 ?_)
    case c5=>first|omega|(simp;omega)
    intro v' w4 hown hg _;have HI:=qD (LK.out.next HP.out HN.out HOk.out hg rfl hown);clear hown hg p0 p1 p2 p3 p4 p5 q0 q1 q2 q3 q4 q5 h3;go_wp2_with fail;go_roundw
    ·exact⟨i+1,xs++[iD p],by omega,by go_num,HI.out⟩
    ·exact iO
   ·have HI:=qD (L3.out.i.skip HP.out (Cj h3));go_wp2_with fail;go_roundw
    ·exact⟨i+1,xs,by omega,by go_num,HI.out⟩
    ·exact iO
  ·clear I;go_wp2;go_ret;obtain⟨A',c',e,hs⟩:=SS.Mq J.out.own rfl (by have:=J.out.le;unfold aF;omega) (fun x hx=>(J.out.ok x hx).step J.out.bel);exact⟨A',_,c',xs,by rw[<-e];rfl,by rw[J.out.eq,OS (by have:=HL.out;omega)],J.out.pr,by have:=J.out.le;have:=HL.out;omega,hs,J.out.bel⟩
theorem LG:cM (fun p q:PS=>aq (ai p).1 (ai q).1):=⟨fun _ _=>dF.anti _ _,fun _ _ _=>dF.tr _ _ _⟩
theorem wL(xs:List PS)(A:Option Addr)(n c:Nat)(w:World)(h:SS w A n c xs)(hn:n<=1000000000):
 Calls prog 188 #[.slice A n c] w fun e w'=>∃v,e=.returned v/\w'.ownsRow w.heap.size 167 12 v n (aN dR xs)/\Bl w w':=by
 obtain⟨j0,hj0,hy0,hy1,hy2⟩:=Pb mT;have HL:=qD h.sr.ln;cases A with
 | none=>
  have h0:n=0:=by
   rcases PZ n with h0|h0
   ·exact h0
   ·obtain⟨b,off,e,_⟩:=h.sr.el h0;cases e
  subst h0;have HX:Hid (xs=[]):=OL HL.out.symm;clear h;have kn:=fun(w:World)=>Lib.run_eql_slice_nil (P:=prog) w 163 167 none 0 c 0 0 Qf;go_enter func188,ntmps188;go_wp2;go_ret;exact⟨_,rfl,by rw[HX.out];exact bP _ _ _ _,OG _ _⟩
 | some ad=>
  have hR:dz w w.heap.size 12 (some ad) n (aN dR xs):=by
   refine⟨by rw[bv dW,HL.out],fun hp=>?_⟩;obtain⟨b,off,e,hb,hel⟩:=h.sr.el hp;cases e;refine⟨_,rfl,hb,fun j u hu=>?_⟩;have hj:=(OI.1 hu).1;rw[bv dW] at hj;obtain⟨a,v,g1,g2,g3⟩:=flat_at' dW oM xs j hj;have:=hel (j/12) a g1 (j%12) v g2;rw[cW];rw[g3] at hu;cases hu;rw[show off+j=off+j/12*12+j%12 by omega];exact this
  have HR:=qD hR
  have hO:(w.alloc (.cells #[] 167)).ownsRow w.heap.size 167 12 (.slice (some ⟨w.heap.size,0,none⟩) 0 0) 0 []:=
   ⟨rfl,.inr ⟨w.heap.size,0,#[],rfl,qL,aG.Mm rfl,qL,ON _,rfl,rfl⟩⟩
  have HO:=qD hO
  have h1:∀u∈aN dR xs,u.oneCell'=true:=by
   intro u hu;obtain⟨p,_,hp⟩:=SX.1 hu;exact lR p u hp
  have H1:=qD h1;clear h hR hO h1;have kn:=fun(w:World)=>Lib.run_eql_slice_nil (P:=prog) w 163 167 (some ad) n c 0 0 Qf;go_enter func188,ntmps188;go_wp2_with (at_builtin;refine aE _ rfl _ _ 163 rfl w.heap.size 167 j0 (vq (((VC.zero,aC.zero),false),((VC.zero,aC.zero),false))) 12 176 Qf hj0 hy0 hy1 hy2 rfl dE (.slice (some ⟨w.heap.size,0,none⟩) 0 0) 0 [] rfl HO.out w.heap.size (some ad) n c (aN dR xs) rfl (HR.out.alloc (qL) _) H1.out (by unfold maxLen;omega) oM sM ?_);intro v' w2 hown hg _;go_wp2;go_ret;refine⟨v',rfl,by simpa using hown,?_⟩;exact((OG w.heap.size w).alloc (qL) _).grown hg sM (fun k hk=>by simp[Value.ownBlock] at hk;omega)
theorem wM(w:World):Calls prog 292 #[.slice none 0 0,.int .i64 0,.int .i64 0,.func (.func 190) #[] #[]] w fun e w'=>e=.returned (.tuple #[])/\w=w':=by
 go_enter func292,ntmps292;go_wp2_with fail
 go_loopw [8] (fun v8 wr=>v8=.int .i64 1/\wr=w) (fun _ _=>0)
 ·exact⟨rfl,rfl⟩
 case round=>
  obtain⟨rfl,rfl⟩:=hrel;go_wp2_with fail
  go_end0
  exact⟨rfl,rfl⟩
theorem ub(w:World):Calls prog 243 #[.slice none 0 0,.int .i64 0,.func (.func 190) #[] #[]] w fun e w'=>e=.returned (.tuple #[])/\w=w':=by
 go_enter func243,ntmps243;go_wp2_with fail
 go_loop [7,8] (fun v7 v8=>v7=.int .i64 0/\v8=.int .i64 20) (fun _ _=>0)
 case atStart=>exact⟨rfl,rfl⟩
 case round=>
  obtain⟨rfl,rfl⟩:=hrel;go_wp2_with fail;refine(wM _).mono ?_;rintro e w1 ⟨rfl,rfl⟩;go_wp2_with fail
  go_loop [6] (fun v6=>v6=.int .i64 20) (fun _=>0)
  case atStart=>rfl
  case round=>
   subst hrel;go_wp2_with fail
   go_end0
   exact⟨rfl,rfl⟩
theorem zD(w:World):Calls prog 189 #[.slice none 0 0,.func (.func 190) #[] #[]] w fun e w'=>e=.returned (.tuple #[])/\w=w':=by
 go_enter func189,ntmps189;go_wp2_with fail;refine(ub _).mono ?_;rintro e w1 ⟨rfl,rfl⟩;go_wp2_with fail
 go_end0
 exact⟨rfl,rfl⟩
theorem zE(L:List (PS×Nat))(g n c:Nat)(w:World)(hr:bW w g L)(hn:n=L.length)(hz:n*176<=aF)(ht:gH L)(hc:jG g w L):
 Calls prog 189 #[.slice (some ⟨g,0,none⟩) n c,.func (.func 190) #[] #[]] w (qe g w [] L []):=by
 have HR:=qD hr;have HN:=qD hn;have HT:=qD ht;have HC:=qD hc;have HZ:=qD hz;clear hr hn ht hc hz;go_enter func189,ntmps189;go_wp2_with fail;refine(uW LG L g n c _ HR.out HN.out HZ.out HT.out HC.out).mono ?_;rintro e w1 hd;have HD:=qD hd;obtain⟨rfl,_⟩:=hd;go_wp2_with fail
 go_end0
 exact HD.out
def ik(xs ys:List PS):Prop:=ys.Perm xs/\ys.Pairwise fun p q=>aq (ai p).1 (ai q).1<=0
theorem ik.of{xs:List PS}{S:List (PS×Nat)}(h:aS (fun p q:PS=>aq (ai p).1 (ai q).1) (bi 0 xs) S):ik xs (S.map Prod.fst):=by
 refine⟨?_,?_⟩
 ·have:=h.perm.map Prod.fst
  rwa [lO] at this
 ·rw[Sx];refine h.ord.imp fun {a b} hab=>?_;have hab':aq (ai a.1).1 (ai b.1).1<0\/aq (ai a.1).1 (ai b.1).1=0/\a.2<b.2:=hab;omega
theorem ik.merge{xs ys:List PS}(h:ik xs ys)(hne:∀x∈xs,aq (ai x).1 (ai x).2<0/\jb (ai x).1/\jb (ai x).2):
 jw (fun a=>ei aq a (xs.map ai)) (gL aq (ys.map ai))/\(gL aq (ys.map ai)).length<=xs.length:=by
 have h1:∀s∈ys.map ai,aq s.1 s.2<0/\jb s.1/\jb s.2:=by
  intro s hs;obtain⟨x,hx,rfl⟩:=PK.1 hs;exact hne x (h.1.subset hx)
 have h2:(ys.map ai).Pairwise fun s t=>aq s.1 t.1<=0:=by rw[Sx];exact h.2
 have hm:=Cq dF h1 h2;refine⟨⟨hm.nf,fun a=>by rw[hm.mem];exact Ep (h.1.map ai)⟩,?_⟩;have:=zJ (cm:=aq) (ys.map ai);have hl:=h.1.length_eq;simp only[Oe] at this;omega
theorem bW.Mq{xs:List PS}(h:w.ownsRow base 167 12 (.slice (some ⟨g,0,none⟩) n cap) n (aN dR xs)):bW w g (bi 0 xs):=by
 rcases h.2 with⟨h',_⟩|⟨g',cap',cur,h',_,hg,_,_,_,htake⟩
 ·simp at h'
 ·simp only[Value.slice.injEq,PU,Addr.mk.injEq,Qw,true_and] at h';obtain⟨rfl,rfl⟩:=h'
  have e:aN gI (bi 0 xs)=aN dR xs:=by
   have:∀k,aN gI (bi k xs)=aN dR xs:=by
    intro k;clear hg htake h
    induction xs generalizing k with
    | nil=>rfl
    | cons x r ih=>
     have e1:aN gI (bi k (x::r))=dR x++aN gI (bi (k+1) r):=rfl;rw[e1,ih];rfl
   exact this 0
  refine⟨cur.toList.drop (n*12),?_⟩;show w.heap[g]?=_;rw[hg,e,<-htake,Oh]
theorem bW.reads{L:List (PS×Nat)}(h:bW w g L)(hn:n=L.length)(hc:n<=cap):SR 12 dR w (some ⟨g,0,none⟩) n cap (L.map Prod.fst):=by
 refine⟨by rw[Oe,hn],hc,fun _=>⟨g,0,rfl,h.lt,fun i a hi j v hj=>?_⟩⟩;rw[OT] at hi;obtain⟨p,hp,rfl⟩:=PT.1 hi;rw[OX];exact h.cell hp j v hj
end
structure yN(w w2:World)(S:List PS)(i:Nat)(v:Value)(cs:List PS)(wr:World):Prop where
 own:wr.ownsRow w2.heap.size 167 12 v cs.length (aN dR cs)
 eq:cs.map ai=gL aq ((S.take i).map ai)
 le:cs.length<=i
 ok:∀x∈cs,vr w x
 pr:∀x∈cs,(∃y∈S,x.1=y.1)/\∃y∈S,x.2=y.2
 bel:Bl w2 wr
section
variable {b n g B m i c base q cap off size S:Nat} {w w' wr w2:World} {t:TypeId} {cs:Array Value} {a d:Int} {l:List ByteArray} {v v':Value} {s:ByteArray} {xs:List Value}
section
variable {w w2:World} {S:List PS} {i:Nat} {v:Value} {cs:List PS} {wr w':World}
theorem yN.step(h:yN w w2 S i v cs wr)(hb:Bl wr w'):yN w w2 S i v cs w':=⟨af h.own hb,h.eq,h.le,h.ok,h.pr,h.bel.Ml hb⟩
theorem tP{α:Type}{cm:α->α->Int}{c:List (α×α)}{s:α×α}(h:c=[]\/∃d l,c=d++[l]/\cm l.2 s.1<0):fA cm c s=c++[s]:=by
 rcases h with rfl|⟨d,l,rfl,h⟩
 ·rfl
 ·unfold fA;have e0:(d++[l]).getLast?=some l:=by simp
  rw[e0];simp only;rw[OW h]
theorem Ek{α:Type}{cm:α->α->Int}{d:List (α×α)}{l s:α×α}(h1:¬cm l.2 s.1<0)(h2:cm l.2 s.2<0):fA cm (d++[l]) s=d++[(l.1,s.2)]:=by
 unfold fA;have e0:(d++[l]).getLast?=some l:=by simp
 rw[e0];simp only;rw[OQ h1,OW h2,Rk]
theorem El{α:Type}{cm:α->α->Int}{d:List (α×α)}{l s:α×α}(h1:¬cm l.2 s.1<0)(h2:¬cm l.2 s.2<0):fA cm (d++[l]) s=d++[l]:=by
 unfold fA;have e0:(d++[l]).getLast?=some l:=by simp
 rw[e0];simp only;rw[OQ h1,OQ h2]
theorem yN.same(h:yN w w2 S i v cs wr){p:PS}(hp:S[i]?=some p)(hs:fA aq (cs.map ai) (ai p)=cs.map ai):yN w w2 S (i+1) v cs wr:=by
 refine⟨h.own,?_,by have:=h.le;omega,h.ok,h.pr,h.bel⟩;rw[take_snoc' hp,Oo,Pv,jJ,<-h.eq,hs]
theorem yN.add(h:yN w w2 S i v cs wr){p:PS}(hp:S[i]?=some p)(hs:fA aq (cs.map ai) (ai p)=cs.map ai++[ai p])(hok:vr w p)(hg:wr.grownBy w' v.ownBlock)(hm:m=cs.length+1)(ho:w'.ownsRow w2.heap.size 167 12 v' m (aN dR cs++dR p)):yN w w2 S (i+1) v' (cs++[p]) w':=by
  subst hm;refine⟨?_,?_,by have:=h.le;simp;omega,fun x hx=>?_,fun x hx=>?_,h.bel.grown hg h.bel.size (ak h.own)⟩
  ·rw[cS,OK];exact ho
  ·rw[take_snoc' hp,Oo (l₁:=S.take i),Pv,jJ,<-h.eq,hs,Oo];rfl
  ·rcases OP.1 hx with hx|hx
   ·exact h.ok x hx
   ·simp at hx;subst hx;exact hok
  ·rcases OP.1 hx with hx|hx
   ·exact h.pr x hx
   ·simp at hx;subst hx;exact⟨⟨x,OJ hp,rfl⟩,x,OJ hp,rfl⟩
end
abbrev Cm(w:World)(g off:Nat)(q:PC):World:=(bM w g off q.1.1).setCell ⟨g,off+5,none⟩ (.bool q.2)
theorem Em(h:w.ownsRow base t 12 (.slice (some ⟨g,0,none⟩) n cap) n xs)(off:Nat)(q:PC):
 (Cm w g off q).ownsRow base t 12 (.slice (some ⟨g,0,none⟩) n cap) n (dO xs off (lQ q)):=by
 have h1:=(h.stored off (.int .i64 q.1.1.k)).1;have h2:=(h1.stored (off+1) (.int .i64 q.1.1.n)).1;have h3:=(h2.stored (off+2) (.string q.1.1.t)).1;have h4:=(h3.stored (off+3) (.slice q.1.1.LA q.1.1.ln q.1.1.lc)).1;have h5:=(h4.stored (off+4) (.slice q.1.1.DA q.1.1.dn q.1.1.dc)).1;exact(h5.stored (off+5) (.bool q.2)).1
theorem Hv(d:List PS)(l:PS)(q:PC):dO (aN dR (d++[l])) (d.length*12+6) (lQ q)=aN dR (d++[(l.1,q)]):=by
 have e1:aN dR (d++[l])=(aN dR d++lQ l.1)++lQ l.2:=by rw[cS];simp[dR]
 have hl:(aN dR d++lQ l.1).length=d.length*12+6:=by rw[OK,bv dW,cA]
 rw[mx _ _ _ (by rw[e1,OK,hl,cA,cA];omega),e1,<-hl,List.take_left,cA,Og (by rw[OK,cA];omega),Om,cS];simp[dR]
theorem zF{a:World}(h:Below B a w)(hB:B<=b)(off:Nat)(q:PC):Below B a (Cm w b off q):=(aW h hB off q.1.1).setCell hB _
theorem yN.put{S:List PS}{d:List PS}{l p:PS}(h:yN w w2 S i (.slice (some ⟨g,0,none⟩) n cap) (d++[l]) wr)(hp:S[i]?=some p)(hs:fA aq ((d++[l]).map ai) (ai p)=(d++[(l.1,p.2)]).map ai)(hok:vr w p)(hn:n=d.length+1):yN w w2 S (i+1) (.slice (some ⟨g,0,none⟩) n cap) (d++[(l.1,p.2)]) (Cm wr g (d.length*12+6) p.2):=by
  have ho:=h.own;have hl:(d++[l]).length=n:=by rw[hn];simp
  rw[hl] at ho;refine⟨?_,?_,by have:=h.le;simp at this ⊢;omega,fun x hx=>?_,fun x hx=>?_,zF h.bel (ak h.own g rfl) _ _⟩
  ·rw[<-Hv d l p.2,show(d++[(l.1,p.2)]).length=n by rw[hn];simp];exact Em ho _ _
  ·rw[take_snoc' hp,Oo (l₁:=S.take i),Pv,jJ,<-h.eq,hs]
  ·rcases OP.1 hx with hx|hx
   ·exact h.ok x (by simp[hx])
   ·simp at hx;subst hx;exact⟨(h.ok l sM).1,hok.2⟩
  ·rcases OP.1 hx with hx|hx
   ·exact h.pr x (by simp[hx])
   ·simp at hx;subst hx;exact⟨(h.pr l sM).1,p,OJ hp,rfl⟩
end
structure Ls(w w2:World)(S:List PS)(i:Nat)(v:Value)(cs:List PS)(g:Nat)(p:PS)(wr:World):Prop where
 i:yN w w2 S i v cs wr
 b5:aG wr g 167 (iy p)
section
variable {n g i c size S:Nat} {w w' wr w2:World} {cs:Array Value} {v:Value} {A:Option Addr} {xs:List Value}
theorem Ls.step{S:List PS}{cs:List PS}{p:PS}(h:Ls w w2 S i v cs g p wr)(hb:Bl wr w'):Ls w w2 S i v cs g p w':=⟨h.i.step hb,h.b5.step hb⟩
def MG(xs:List PS)(w:World)(e:Ending)(w':World):Prop:=
 ∃(A:Option Addr) (m c:Nat) (ys:List PS),e=.returned (.slice A m c)/\(∃S,ik xs S/\ys.map ai=gL aq (S.map ai))/\(∀y∈ys,(∃x∈xs,y.1=x.1)/\∃x∈xs,y.2=x.2)/\(∀b off,A=some ⟨b,off,none⟩->w.heap.size<=b)/\SS w' A m c ys/\m<=xs.length/\Bl w w'
theorem qu(xs:List PS)(A:Option Addr)(n c:Nat)(w:World)(h:SS w A n c xs)(hn:n<=1000000000):
 Calls prog 135 #[.slice A n c] w (MG xs w):=by
 obtain⟨j0,hj0,hy0,hy1,hy2⟩:=Pb mT;have H:=qD h;have HL:=qD h.sr.ln;clear h;go_enter func135,ntmps135;go_wp2_with fail;refine(wL xs A n c _ H.out hn).mono ?_;rintro e w1 ⟨v1,rfl,hown,hb1⟩;have HB1:=qD hb1;obtain⟨A1,c1,rfl,hc1⟩:=aY hown;have HO:=qD hown;clear hown hb1
 have sorted:Hid (Calls prog 189 #[.slice A1 n c1,.func (.func 190) #[] #[]] w1 fun e w'=>e=.returned (.tuple #[])/\∃S,ik xs S/\SR 12 dR w' A1 n c1 S/\Bl w w'):=by
  rcases HO.out.2 with⟨h',h0⟩|⟨g,cap,cur,h',hg,_⟩
  ·cases h';have hx:xs=[]:=OL (by have:=HL.out;omega);refine qD ((zD w1).mono ?_);rintro e w' ⟨rfl,rfl⟩;exact⟨rfl,[],by rw[hx];exact⟨.nil,.nil⟩,SR.nil,HB1.out⟩
  ·cases h';refine qD ((zE (bi 0 xs) g n c1 w1 (bW.Mq HO.out) (by rw[fh];exact HL.out) (by unfold aF;omega) (lP _ _) ?_).mono ?_)
   ·intro x y hx hy wr hbt
    have okx:∀z∈bi 0 xs,vr wr z.1:=by
     intro z hz
     have hz':z.1∈xs:=by
      have:=PD (f:=Prod.fst) hz
      rwa [lO] at this
     exact(H.out.ok z.1 hz').step (HB1.out.trans (hbt.below HB1.out.size hg))
    exact Ec x.1 y.1 wr (okx x hx) (okx y hy)
   ·rintro e w' ⟨rfl,S,hS,hI⟩;simp only[PG,Om] at hI;have hl:n=S.length:=by rw[hS.perm.length_eq,fh];exact HL.out
    exact⟨rfl,S.map Prod.fst,ik.of hS,hI.row.reads hl hc1,HB1.out.trans (hI.but.below HB1.out.size hg)⟩
 go_wp2_with fail;refine sorted.out.mono ?_;rintro e w2 ⟨rfl,S,hS,hSR,hb2⟩;clear sorted HO HB1 hc1;have HS:=qD hS;have HSR:=qD hSR;have HB2:=qD hb2;have HSL:Hid (n=S.length):=hSR.ln;have hokS:∀x∈S,vr w x:=fun x hx=>H.out.ok x (hS.1.subset hx);have HOk:=qD hokS;clear hS hSR hb2 hokS;go_wp2_with fail
 go_loopw [3,13] (fun v3 v13 wr=>∃(i:Nat) (cs:List PS),i<=n/\v13=.int .i64 i/\yN w w2 S i v3 cs wr) (fun _ v13 _=>n-(intOf v13).toNat)
 ·exact⟨0,[],ON _,rfl,⟨bP _ _ _ _,rfl,qL,by simp,by simp,OG _ _⟩⟩
 case round=>
  obtain⟨i,cs,hi,rfl,I⟩:=hrel;have J:=qD I;by_cases hlt:i<n
  ·obtain⟨p,hp⟩:∃p,S[i]?=some p:=⟨_,OH (by have:=HSL.out;omega)⟩;obtain⟨b,off,rfl,hbl,hel⟩:=HSR.out.el oM;have hat:yM w2 b (off+i*12) p:=yx fun j v hj=>hel i p hp j v hj;have HP:=qD hp;have HPk:=qD (HOk.out p (OJ hp));have hbr:b<wr.heap.size:=by have:=I.bel.size;omega
   have hle:=I.le;obtain⟨⟨⟨p0,p1,p2,p3,p4⟩,p5⟩,⟨⟨q0,q1,q2,q3,q4⟩,q5⟩⟩:=hat.keep (I.bel.block b hbl);obtain⟨m,hm⟩:∃m,m=cs.length:=⟨_,rfl⟩;obtain⟨A3,c3,hv3,hc3⟩:=aY I.own;rw[<-hm] at hv3 hc3 hle;subst hv3;have HM:=qD hm;clear hp hat I hbl hel hm;go_upto_region 8 with fail
   have KB:Ls w w2 S i (.slice A3 m c3) cs wr.heap.size p (wr.alloc (.cells (iy p) 167)):=⟨J.out.step ((OG wr.heap.size wr).alloc (qL) _),aG.Mm rfl⟩;change (Code.region 8 _ _).wp _ _ _ (wr.alloc (.cells (iy p) 167));generalize wr.alloc (.cells (iy p) 167)=wa at*;generalize wr.heap.size=ga at*;have LB:=qD KB;clear p0 p1 p2 p3 p4 p5 q0 q1 q2 q3 q4 q5 J KB hbr;rcases QT cs with hcs|⟨d,l,hcs⟩
   ·have hm1:decide ((m:Int)-1<0)=true:=OM (by have:=HM.out;rw[hcs] at this;simp at this;omega);have HSt:Hid (fA aq (cs.map ai) (ai p)=cs.map ai++[ai p]):=qD (tP (.inl (by rw[hcs];rfl)));clear hcs;refine aL kR kR ?_
    repeat(go_big_quiet_step (fail))
    refine Oc ?_;rintro _ ⟨kw,rfl⟩;have L1:=qD (LB.out.step kw.below);clear hm1 LB;generalize kw.val=w3 at*;obtain⟨⟨⟨p0,p1,p2,p3,p4⟩,p5⟩,⟨⟨q0,q1,q2,q3,q4⟩,q5⟩⟩:=yM.Mn L1.out.b5;have hlo:w2.heap.size<=w3.heap.size:=L1.out.i.bel.size;have LK:=qD (L1.out.i.step ((OG w3.heap.size w3).alloc (qL) (Obj.cells (iy p) 167)));have hown:(w3.alloc (.cells (iy p) 167)).ownsRow w2.heap.size 167 12 (.slice A3 m c3) m (aN dR cs):=by have:=LK.out.own;rw[<-HM.out] at this;exact this
    have HOw:=qD hown;clear hown;go_wp2_with (at_builtin;refine aE _ rfl _ _ 163 rfl w2.heap.size 167 j0 (vq (((VC.zero,aC.zero),false),((VC.zero,aC.zero),false))) 12 176 Qf hj0 hy0 hy1 hy2 rfl dE (.slice A3 m c3) m (aN dR cs) rfl HOw.out _ _ 1 _ (dR p) rfl ⟨rfl,fun _=>⟨_,rfl,On _,ag _ _ _⟩⟩ (lR _) (by unfold maxLen;omega) oM sO ?_);intro v' w4 hown hg _;have HI:=qD (LK.out.add HP.out HSt.out HPk.out hg (by rw[HM.out]) hown);clear hown hg p0 p1 p2 p3 p4 p5 q0 q1 q2 q3 q4 q5;go_wp2_with fail;go_roundw
    ·exact⟨i+1,cs++[p],by omega,by go_num,HI.out⟩
    ·exact iO
   ·rw[QG] at hcs;have hml:m=d.length+1:=by rw[HM.out,hcs];simp
    obtain⟨g,hA3⟩:∃g,A3=some ⟨g,0,none⟩:=by
     obtain⟨g,cap,hv,_⟩:=LB.out.i.own.form (by rw[hcs];simp);injection hv with hv
     exact⟨g,hv⟩
    subst hA3
    have hrow:CZ wa g ((m-1)*12+6) l.2:=by
     have ho:=LB.out.i.own;rw[<-HM.out] at ho;refine uU fun j v hj=>?_;have hlt:=(OI.1 hj).1;rw[cA] at hlt;rw[Sb,ho.cellAt _ oM];refine gX dW (xs:=cs) (a:=l) (by rw[hcs,show m-1=d.length by omega];simp) ?_;show(lQ l.1++lQ l.2)[6+j]?=some v;rw[Oa (by rw[cA];omega),cA,show 6+j-6=j by omega];exact hj
    have hokl:vr w l:=LB.out.i.ok l (by rw[hcs];simp);have HOl:=qD hokl;have HML:=qD hml;have HCS:=qD hcs;have hwb:Hid (Bl w wa):=qD (HB2.out.trans (LB.out.i.bel.mono HB2.out.size));obtain⟨⟨r0,r1,r2,r3,r4⟩,r5⟩:=hrow;obtain⟨⟨⟨p0,p1,p2,p3,p4⟩,p5⟩,⟨⟨q0,q1,q2,q3,q4⟩,q5⟩⟩:=yM.Mn LB.out.b5;have R0:=aX r0;have R1:=aX r1;have R2:=aX r2;have R3:=aX r3;have R4:=aX r4;have R5:=aX r5;have P0:=aX p0;have P1:=aX p1;have P2:=aX p2;have P3:=aX p3;have P4:=aX p4;have P5:=aX p5;have i0:(0:Int)<=(m:Int)-1:=oM
    have i1:(m:Int)-1<(m:Int):=oM
    have W2:((m:Int)-1).toNat=m-1:=oM
    have hm1:decide ((m:Int)-1<0)=false:=OV oM
    have K1:Hid (∀k:BW wa,Calls prog 178 #[CY l.2,CY p.1] k.val fun e w''=>e=.returned (.int .i64 (aq (ix l.2) (ix p.1)))/\∃k:BW wa,w''=k.val):=fun k=>
     Calls.bw (jF l.2 p.1 k.val ((HOl.out.step hwb.out).2.step k.below) ((HPk.out.step hwb.out).1.step k.below))
    clear hcs hokl hml r0 r1 r2 r3 r4 r5 p0 p1 p2 p3 p4 p5 q0 q1 q2 q3 q4 q5;refine aL kR kR ?_
    repeat(go_big_quiet_step (with_reducible exact K1.out _))
    refine Oc ?_;rintro _ ⟨kw,rfl⟩;have L1:=qD (LB.out.step kw.below);clear R0 R1 R2 R3 R4 R5 P0 P1 P2 P3 P4 P5 K1 i0 i1 W2 hm1 LB hwb;generalize kw.val=w3 at*;by_cases hc:aq (ix l.2) (ix p.1)<0
    ·have HSt:Hid (fA aq (cs.map ai) (ai p)=cs.map ai++[ai p]):=qD (tP (.inr ⟨d.map ai,ai l,by rw[HCS.out,Oo];rfl,hc⟩));obtain⟨⟨⟨p0,p1,p2,p3,p4⟩,p5⟩,⟨⟨q0,q1,q2,q3,q4⟩,q5⟩⟩:=yM.Mn L1.out.b5;have hlo:w2.heap.size<=w3.heap.size:=L1.out.i.bel.size;have LK:=qD (L1.out.i.step ((OG w3.heap.size w3).alloc (qL) (Obj.cells (iy p) 167)));have hown:(w3.alloc (.cells (iy p) 167)).ownsRow w2.heap.size 167 12 (.slice (some ⟨g,0,none⟩) m c3) m (aN dR cs):=by have:=LK.out.own;rw[<-HM.out] at this;exact this
     have HOw:=qD hown;clear hown;go_wp2_with (at_builtin;refine aE _ rfl _ _ 163 rfl w2.heap.size 167 j0 (vq (((VC.zero,aC.zero),false),((VC.zero,aC.zero),false))) 12 176 Qf hj0 hy0 hy1 hy2 rfl dE (.slice (some ⟨g,0,none⟩) m c3) m (aN dR cs) rfl HOw.out _ _ 1 _ (dR p) rfl ⟨rfl,fun _=>⟨_,rfl,On _,ag _ _ _⟩⟩ (lR _) (by unfold maxLen;omega) oM sO ?_);intro v' w4 hown hg _;have HI:=qD (LK.out.add HP.out HSt.out HPk.out hg (by rw[HM.out]) hown);clear hown hg p0 p1 p2 p3 p4 p5 q0 q1 q2 q3 q4 q5;go_wp2_with fail;go_roundw
     ·exact⟨i+1,cs++[p],by omega,by go_num,HI.out⟩
     ·exact iO
    ·go_upto_region 10 with fail
     have hrow:CZ w3 g ((m-1)*12+6) l.2:=by
      have ho:=L1.out.i.own;rw[<-HM.out] at ho;have hml:=HML.out;refine uU fun j v hj=>?_;have hlt:=(OI.1 hj).1;rw[cA] at hlt;rw[Sb,ho.cellAt _ oM];refine gX dW (xs:=cs) (a:=l) (by rw[HCS.out,show m-1=d.length by omega];simp) ?_;show(lQ l.1++lQ l.2)[6+j]?=some v;rw[Oa (by rw[cA];omega),cA,show 6+j-6=j by omega];exact hj
     have hwb:Hid (Bl w w3):=qD (HB2.out.trans (L1.out.i.bel.mono HB2.out.size));obtain⟨⟨r0,r1,r2,r3,r4⟩,r5⟩:=hrow;obtain⟨_,⟨⟨q0,q1,q2,q3,q4⟩,q5⟩⟩:=yM.Mn L1.out.b5;have R0:=aX r0;have R1:=aX r1;have R2:=aX r2;have R3:=aX r3;have R4:=aX r4;have R5:=aX r5;have Q0:=aX q0;have Q1:=aX q1;have Q2:=aX q2;have Q3:=aX q3;have Q4:=aX q4;have Q5:=aX q5;have hml:=HML.out;have i0:(0:Int)<=(m:Int)-1:=oM
     have i1:(m:Int)-1<(m:Int):=oM
     have W2:((m:Int)-1).toNat=m-1:=oM
     have K1:Hid (∀k:BW w3,Calls prog 178 #[CY l.2,CY p.2] k.val fun e w''=>e=.returned (.int .i64 (aq (ix l.2) (ix p.2)))/\∃k:BW w3,w''=k.val):=fun k=>
      Calls.bw (jF l.2 p.2 k.val ((HOl.out.step hwb.out).2.step k.below) ((HPk.out.step hwb.out).2.step k.below))
     clear hml r0 r1 r2 r3 r4 r5 q0 q1 q2 q3 q4 q5;refine aL kR kR ?_
     repeat(go_big_quiet_step (with_reducible exact K1.out _))
     refine Oc ?_;rintro _ ⟨kw,rfl⟩;have L2:=qD (L1.out.step kw.below);clear R0 R1 R2 R3 R4 R5 Q0 Q1 Q2 Q3 Q4 Q5 K1 i0 i1 W2 L1 hwb;generalize kw.val=w4 at*;by_cases hd:aq (ix l.2) (ix p.2)<0
     ·have hml:=HML.out
      have hst:fA aq ((d++[l]).map ai) (ai p)=(d++[(l.1,p.2)]).map ai:=by
       rw[Oo,Oo];exact Ek hc hd
      have HI:Hid (yN w w2 S (i+1) (.slice (some ⟨g,0,none⟩) m c3) (d++[(l.1,p.2)]) (Cm w4 g ((m-1)*12+6) p.2)):=by
       have h0:=L2.out.i;rw[HCS.out] at h0;have:=h0.put HP.out hst HPk.out hml;rw[show d.length=m-1 by omega] at this;exact qD this
      have ho:w4.ownsRow w2.heap.size 167 12 (.slice (some ⟨g,0,none⟩) m c3) m (aN dR cs):=by have:=L2.out.i.own;rw[<-HM.out] at this;exact this
      have z:=ho.frozenAt
      have hrow:CZ w4 g ((m-1)*12+6) l.2:=by
       have ho:=L2.out.i.own;rw[<-HM.out] at ho;have hml:=HML.out;refine uU fun j v hj=>?_;have hlt:=(OI.1 hj).1;rw[cA] at hlt;rw[Sb,ho.cellAt _ oM];refine gX dW (xs:=cs) (a:=l) (by rw[HCS.out,show m-1=d.length by omega];simp) ?_;show(lQ l.1++lQ l.2)[6+j]?=some v;rw[Oa (by rw[cA];omega),cA,show 6+j-6=j by omega];exact hj
      obtain⟨⟨r0,r1,r2,r3,r4⟩,r5⟩:=hrow;obtain⟨_,⟨⟨q0,q1,q2,q3,q4⟩,q5⟩⟩:=yM.Mn L2.out.b5;have i0:(0:Int)<=(m:Int)-1:=oM
      have i1:(m:Int)-1<(m:Int):=oM
      have W2:((m:Int)-1).toNat=m-1:=oM
      clear ho hst hml;go_upto_region 12 with fail
      clear r0 r1 r2 r3 r4 r5 q0 q1 q2 q3 q4 q5 z i0 i1 W2;obtain⟨w5,hw5,HI5⟩:∃w5,Cm w4 g ((m-1)*12+6) p.2=w5/\Hid (yN w w2 S (i+1) (.slice (some ⟨g,0,none⟩) m c3) (d++[(l.1,p.2)]) w5):=⟨_,rfl,HI⟩;unfold Cm bM at hw5;rw[hw5];clear hw5 HI;go_wp2_with fail;go_roundw
      ·exact⟨i+1,d++[(l.1,p.2)],by omega,by go_num,HI5.out⟩
      ·exact iO
     ·have hst:fA aq (cs.map ai) (ai p)=cs.map ai:=by
       rw[HCS.out,Oo];exact El hc hd
      have HI:=qD (L2.out.i.same HP.out hst);clear hst;go_wp2_with fail;go_roundw
      ·exact⟨i+1,cs,by omega,by go_num,HI.out⟩
      ·exact iO
  ·clear I;go_wp2;go_ret;obtain⟨A',c',e,hs⟩:=SS.Mq J.out.own rfl (by have:=J.out.le;unfold aF;omega) (fun x hx=>(J.out.ok x hx).step (HB2.out.trans (J.out.bel.mono HB2.out.size)));refine⟨A',_,c',cs,by rw[<-e];rfl,⟨S,HS.out,by rw[J.out.eq,OS (by have:=HSL.out;omega)]⟩,fun y hy=>⟨by obtain⟨z,hz,e⟩:=(J.out.pr y hy).1;exact⟨z,HS.out.1.subset hz,e⟩,by obtain⟨z,hz,e⟩:=(J.out.pr y hy).2;exact⟨z,HS.out.1.subset hz,e⟩⟩,fun b off hA=>?_,hs,?_,HB2.out.trans (J.out.bel.mono HB2.out.size)⟩
   ·have h1:=J.out.own;rw[e,hA] at h1;have:=ak h1 b rfl;have:=HB2.out.size;omega
   ·have:=J.out.le;have:=HL.out;omega
end
end Go.Proofs.YtgfoliedmhgpnaaGreatDoor
