/- A part of the proof. -/
import Derived.Test.YtgfoliedmhgpnaaGreatDoorBn7
set_option maxRecDepth 100000
set_option maxHeartbeats 16000000
set_option linter.unusedSimpArgs false
open Go.Proofs.Tryz
open ByteArray (empty)
namespace Go.Proofs.YtgfoliedmhgpnaaGreatDoor
open Go.RowKit
section
variable {l:List ByteArray} {i j:Nat} {x y:Int} {A:Option Addr}
section
variable {α:Type} {cm:α->α->Int}
theorem RT.le{x y:α×Nat}(h:RT cm x y):cm x.1 y.1<=0:=by unfold RT at h;omega
theorem vV(H:db cm){x y z:α}(h1:cm x y<=0)(h2:cm y z<0):cm x z<0:=by
 have:=H.tr x y z h1 (by omega);omega
theorem vW(H:db cm){x y z:α}(h1:cm x y<0)(h2:cm y z<=0):cm x z<0:=by
 have:=H.tr x y z (by omega) h2;omega
theorem mr(H:db cm){x y z:α}(h1:cm x y<=0)(h2:cm y z<=0):cm x z<=0:=(H.tr x y z h1 h2).1
theorem vX{R:α×Nat->α×Nat->Prop}{l:List (α×Nat)}(h:l.Pairwise R){i j:Nat}{x y:α×Nat}(hij:i<j)(hx:l[i]?=some x)(hy:l[j]?=some y):R x y:=by
 obtain⟨hi,rfl⟩:=KF.1 hx;obtain⟨hj,rfl⟩:=KF.1 hy;exact List.pairwise_iff_getElem.1 h i j hi hj hij
theorem Ah(H:db cm){x:α×Nat}{Y1 Y2:List (α×Nat)}(hY:(Y1++Y2).Pairwise (RT cm))(ht:∀y∈Y1++Y2,x.2<y.2)(h1:∀y∈Y1,cm y.1 x.1<0)(h2:∀y∈Y2,¬cm y.1 x.1<0):ah cm ([x]++(Y1++Y2)) (Y1++x::Y2):=by
 refine⟨by rw[List.singleton_append];exact Np,?_⟩;rw[Ky] at hY ⊢;refine⟨hY.1,NY.2 ⟨fun y hy=>?_,hY.2.1⟩,fun y hy z hz=>?_⟩
 ·unfold RT;have:=h2 y hy;have:=H.anti y.1 x.1;have:=ht y (by simp[hy]);omega
 ·rcases LG.1 hz with rfl|hz
  ·exact .inl (h1 y hy)
  ·exact hY.2.2 y hy z hz
end
theorem yI{α:Type}(A P1 P3 E:List α)(x y:α):((A++(P1++x::y::P3)++E).set (A.length+P1.length) y).set (A.length+P1.length+1) x=A++((P1++[y])++x::P3)++E:=by
 have e1:(A++(P1++x::y::P3)++E).set (A.length+P1.length) y=(A++P1++[y])++y::(P3++E):=by
  rw[show A++(P1++x::y::P3)++E=(A++P1)++x::(y::(P3++E)) by simp,Mb _ _ (by simp),show A.length+P1.length-(A++P1).length=0 by simp];simp
 rw[e1,Mb _ _ (by simp;omega),show A.length+P1.length+1-(A++P1++[y]).length=0 by simp;omega];simp
def ms(g:Nat)(w:World)(A X Y D:List (PS×Nat))(e:Ending)(w':World):Prop:=e=.returned (.tuple #[])/\∃S,ah (fun p q:PS=>aZ (ai p).1 (ai q).1) (X++Y) S/\dK g w (A++S++D) w'
end
structure ea(A X Y D:List (PS×Nat))(g n:Nat)(w:World):Prop where
 row:bT w g (A++X++Y++D)
 ln:n=(A++X++Y++D).length
 sz:n*176<=aH
 hX:X.Pairwise (RT (fun p q:PS=>aZ (ai p).1 (ai q).1))
 hY:Y.Pairwise (RT (fun p q:PS=>aZ (ai p).1 (ai q).1))
 hT:∀x∈X,∀y∈Y,x.2<y.2
 cmp:iR g w (X++Y)
section
variable {l:List ByteArray} {b c k i g n j m lo q bs S:Nat} {a x y:Int} {w w1:World} {A:Option Addr} {t:TypeId}
theorem GH(H:db (fun p q:PS=>aZ (ai p).1 (ai q).1))(A:List (PS×Nat))(x:PS×Nat)(Y D:List (PS×Nat))(g n c a m b:Nat)(aI mI bI:Int)(w:World)(h:ea A [x] Y D g n w)(ha:a=A.length)(hm:m=a+1)(hb:b=m+Y.length)(haI:aI=a)(hmI:mI=m)(hbI:bI=b):
 Calls prog 293 #[.slice (some ⟨g,0,none⟩) n c,.int .i64 aI,.int .i64 mI,.int .i64 bI,.func (.func 190) #[] #[]] w (ms g w A [x] Y D):=by
 subst haI hmI hbI;have hz:=h.sz;unfold aH at hz;have hbn:b<=n:=by have:=h.ln;simp at this;omega
 have ham:((m:Int)-(a:Int)==1)=true:=by simp;omega
 have HA:=qD ha;have HM:=qD hm;have hm1:a<m:=by omega
 have hmb:m<=b:=by omega
 have HBq:=qD hb;have HH:=qD h;have HO:=qD H;have I0:Hid (dK g w (A++[x]++Y++D) w):=qD ⟨h.row,iG.refl⟩;clear h ha hm hb H;go_enter func293,ntmps293;go_wp2_with fail
 go_loopw [10,11] (fun v10 v11 wr=>∃(i j:Nat),v10=.int .i64 i/\v11=.int .i64 j/\m<=i/\i<=j/\j<=b/\(∀(k:Nat) y,Y[k]?=some y->m+k<i->aZ (ai y.1).1 (ai x.1).1<0)/\(∀(k:Nat) y,Y[k]?=some y->j<=m+k->¬aZ (ai y.1).1 (ai x.1).1<0)/\dK g w (A++[x]++Y++D) wr) (fun v10 v11 _=>(intOf v11).toNat-(intOf v10).toNat)
 ·exact⟨m,b,rfl,rfl,qL,hmb,qL,fun k y _ hk=>by omega,fun k y hy hk=>by have:=(KF.1 hy).1;have:=HBq.out;omega,I0.out⟩
 case round=>
  obtain⟨i,j,rfl,rfl,hmi,hij,hjb,hlo,hhi,I⟩:=hrel;have HLo:=qD hlo;have HHi:=qD hhi;have J:=qD I;clear hlo hhi;by_cases hlt:i<j
  ·go_upto_region 5 with fail
   obtain⟨h,hh⟩:∃h:Nat,((i:Int)+(j:Int))/2=(h:Int):=⟨(i+j)/2,by omega⟩;rw[hh];have h1:i<=h:=by omega
   have h2:h<j:=by omega
   clear hh;obtain⟨y,hyY⟩:∃y,Y[h-m]?=some y:=⟨_,Jv (by have:=HBq.out;omega)⟩
   have hy:(A++[x]++Y++D)[h]?=some y:=by
    have hA:=HA.out;have hM:=HM.out;rw[LN,Kl (by simp;omega),Lc (by have:=(KF.1 hyY).1;simp;omega)];rw[show h-(A++[x]).length=h-m by simp;omega];exact hyY
   have hx:(A++[x]++Y++D)[a]?=some x:=by
    rw[HA.out];simp
   have p0:wr.cell? ⟨g,h*12,none⟩=some (.int .i64 y.1.1.1.1.k):=I.row.cell hy 0 _ rfl;have p1:wr.cell? ⟨g,h*12+1,none⟩=some (.int .i64 y.1.1.1.1.n):=I.row.cell hy 1 _ rfl;have p2:wr.cell? ⟨g,h*12+2,none⟩=some (.string y.1.1.1.1.t):=I.row.cell hy 2 _ rfl;have p3:wr.cell? ⟨g,h*12+3,none⟩=some (.slice y.1.1.1.1.LA y.1.1.1.1.ln y.1.1.1.1.lc):=I.row.cell hy 3 _ rfl;have p4:wr.cell? ⟨g,h*12+4,none⟩=some (.slice y.1.1.1.1.DA y.1.1.1.1.dn y.1.1.1.1.dc):=I.row.cell hy 4 _ rfl;have p5:wr.cell? ⟨g,h*12+5,none⟩=some (.bool y.1.1.2):=I.row.cell hy 5 _ rfl;have p6:wr.cell? ⟨g,h*12+6,none⟩=some (.int .i64 y.1.2.1.1.k):=I.row.cell hy 6 _ rfl;have p7:wr.cell? ⟨g,h*12+7,none⟩=some (.int .i64 y.1.2.1.1.n):=I.row.cell hy 7 _ rfl;have p8:wr.cell? ⟨g,h*12+8,none⟩=some (.string y.1.2.1.1.t):=I.row.cell hy 8 _ rfl;have p9:wr.cell? ⟨g,h*12+9,none⟩=some (.slice y.1.2.1.1.LA y.1.2.1.1.ln y.1.2.1.1.lc):=I.row.cell hy 9 _ rfl;have p10:wr.cell? ⟨g,h*12+10,none⟩=some (.slice y.1.2.1.1.DA y.1.2.1.1.dn y.1.2.1.1.dc):=I.row.cell hy 10 _ rfl;have p11:wr.cell? ⟨g,h*12+11,none⟩=some (.bool y.1.2.2):=I.row.cell hy 11 _ rfl;have r0:wr.cell? ⟨g,a*12,none⟩=some (.int .i64 x.1.1.1.1.k):=I.row.cell hx 0 _ rfl;have r1:wr.cell? ⟨g,a*12+1,none⟩=some (.int .i64 x.1.1.1.1.n):=I.row.cell hx 1 _ rfl;have r2:wr.cell? ⟨g,a*12+2,none⟩=some (.string x.1.1.1.1.t):=I.row.cell hx 2 _ rfl;have r3:wr.cell? ⟨g,a*12+3,none⟩=some (.slice x.1.1.1.1.LA x.1.1.1.1.ln x.1.1.1.1.lc):=I.row.cell hx 3 _ rfl
   have r4:wr.cell? ⟨g,a*12+4,none⟩=some (.slice x.1.1.1.1.DA x.1.1.1.1.dn x.1.1.1.1.dc):=I.row.cell hx 4 _ rfl;have r5:wr.cell? ⟨g,a*12+5,none⟩=some (.bool x.1.1.2):=I.row.cell hx 5 _ rfl;have r6:wr.cell? ⟨g,a*12+6,none⟩=some (.int .i64 x.1.2.1.1.k):=I.row.cell hx 6 _ rfl;have r7:wr.cell? ⟨g,a*12+7,none⟩=some (.int .i64 x.1.2.1.1.n):=I.row.cell hx 7 _ rfl;have r8:wr.cell? ⟨g,a*12+8,none⟩=some (.string x.1.2.1.1.t):=I.row.cell hx 8 _ rfl;have r9:wr.cell? ⟨g,a*12+9,none⟩=some (.slice x.1.2.1.1.LA x.1.2.1.1.ln x.1.2.1.1.lc):=I.row.cell hx 9 _ rfl;have r10:wr.cell? ⟨g,a*12+10,none⟩=some (.slice x.1.2.1.1.DA x.1.2.1.1.dn x.1.2.1.1.dc):=I.row.cell hx 10 _ rfl;have r11:wr.cell? ⟨g,a*12+11,none⟩=some (.bool x.1.2.2):=I.row.cell hx 11 _ rfl;have P0:∀k:BW wr,k.val.cell? ⟨g,h*12,none⟩=some (.int .i64 y.1.1.1.1.k):=fun k=>k.cell p0;have P1:∀k:BW wr,k.val.cell? ⟨g,h*12+1,none⟩=some (.int .i64 y.1.1.1.1.n):=fun k=>k.cell p1;have P2:∀k:BW wr,k.val.cell? ⟨g,h*12+2,none⟩=some (.string y.1.1.1.1.t):=fun k=>k.cell p2;have P3:∀k:BW wr,k.val.cell? ⟨g,h*12+3,none⟩=some (.slice y.1.1.1.1.LA y.1.1.1.1.ln y.1.1.1.1.lc):=fun k=>k.cell p3;have P4:∀k:BW wr,k.val.cell? ⟨g,h*12+4,none⟩=some (.slice y.1.1.1.1.DA y.1.1.1.1.dn y.1.1.1.1.dc):=fun k=>k.cell p4;have P5:∀k:BW wr,k.val.cell? ⟨g,h*12+5,none⟩=some (.bool y.1.1.2):=fun k=>k.cell p5;have P6:∀k:BW wr,k.val.cell? ⟨g,h*12+6,none⟩=some (.int .i64 y.1.2.1.1.k):=fun k=>k.cell p6
   have P7:∀k:BW wr,k.val.cell? ⟨g,h*12+7,none⟩=some (.int .i64 y.1.2.1.1.n):=fun k=>k.cell p7;have P8:∀k:BW wr,k.val.cell? ⟨g,h*12+8,none⟩=some (.string y.1.2.1.1.t):=fun k=>k.cell p8;have P9:∀k:BW wr,k.val.cell? ⟨g,h*12+9,none⟩=some (.slice y.1.2.1.1.LA y.1.2.1.1.ln y.1.2.1.1.lc):=fun k=>k.cell p9;have P10:∀k:BW wr,k.val.cell? ⟨g,h*12+10,none⟩=some (.slice y.1.2.1.1.DA y.1.2.1.1.dn y.1.2.1.1.dc):=fun k=>k.cell p10;have P11:∀k:BW wr,k.val.cell? ⟨g,h*12+11,none⟩=some (.bool y.1.2.2):=fun k=>k.cell p11;have R0:∀k:BW wr,k.val.cell? ⟨g,a*12,none⟩=some (.int .i64 x.1.1.1.1.k):=fun k=>k.cell r0;have R1:∀k:BW wr,k.val.cell? ⟨g,a*12+1,none⟩=some (.int .i64 x.1.1.1.1.n):=fun k=>k.cell r1;have R2:∀k:BW wr,k.val.cell? ⟨g,a*12+2,none⟩=some (.string x.1.1.1.1.t):=fun k=>k.cell r2;have R3:∀k:BW wr,k.val.cell? ⟨g,a*12+3,none⟩=some (.slice x.1.1.1.1.LA x.1.1.1.1.ln x.1.1.1.1.lc):=fun k=>k.cell r3;have R4:∀k:BW wr,k.val.cell? ⟨g,a*12+4,none⟩=some (.slice x.1.1.1.1.DA x.1.1.1.1.dn x.1.1.1.1.dc):=fun k=>k.cell r4;have R5:∀k:BW wr,k.val.cell? ⟨g,a*12+5,none⟩=some (.bool x.1.1.2):=fun k=>k.cell r5;have R6:∀k:BW wr,k.val.cell? ⟨g,a*12+6,none⟩=some (.int .i64 x.1.2.1.1.k):=fun k=>k.cell r6;have R7:∀k:BW wr,k.val.cell? ⟨g,a*12+7,none⟩=some (.int .i64 x.1.2.1.1.n):=fun k=>k.cell r7;have R8:∀k:BW wr,k.val.cell? ⟨g,a*12+8,none⟩=some (.string x.1.2.1.1.t):=fun k=>k.cell r8;have R9:∀k:BW wr,k.val.cell? ⟨g,a*12+9,none⟩=some (.slice x.1.2.1.1.LA x.1.2.1.1.ln x.1.2.1.1.lc):=fun k=>k.cell r9
   have R10:∀k:BW wr,k.val.cell? ⟨g,a*12+10,none⟩=some (.slice x.1.2.1.1.DA x.1.2.1.1.dn x.1.2.1.1.dc):=fun k=>k.cell r10;have R11:∀k:BW wr,k.val.cell? ⟨g,a*12+11,none⟩=some (.bool x.1.2.2):=fun k=>k.cell r11;have i0:(0:Int)<=(h:Int):=by omega
   have i1:(h:Int)<(n:Int):=by omega
   have i2:(0:Int)<=(a:Int):=by omega
   have i3:(a:Int)<(n:Int):=by omega
   have K1:Hid (∀k:BW wr,Calls prog 190 #[lM y,lM x] k.val fun e w''=>e=.returned (.int .i64 (aZ (ai y.1).1 (ai x.1).1))/\∃k:BW wr,w''=k.val):=fun k=>
    Calls.bw (HH.out.cmp y x (by simp[Jx hyY]) (by simp) k.val (I.but.step k.below))
   have HY:=qD hyY;clear p0 p1 p2 p3 p4 p5 p6 p7 p8 p9 p10 p11 r0 r1 r2 r3 r4 r5 r6 r7 r8 r9 r10 r11 hx hy hyY I;refine aM (by kernel_rfl) (by kernel_rfl) ?_
   repeat(go_big_quiet_step (with_reducible exact K1.out _))
   refine Kd ?_;rintro _ ⟨kw,rfl⟩;have J2:=qD (J.out.step kw.below);clear P0 P1 P2 P3 P4 P5 P6 P7 P8 P9 P10 P11 R0 R1 R2 R3 R4 R5 R6 R7 R8 R9 R10 R11 K1 i0 i1 i2 i3;generalize kw.val=w2 at*;by_cases hc:aZ (ai y.1).1 (ai x.1).1<0
   ·have HLo2:Hid (∀(k:Nat) z,Y[k]?=some z->m+k<h+1->aZ (ai z.1).1 (ai x.1).1<0):=fun k z hz hk=>by
     by_cases e:k=h-m
     ·subst e;rw[HY.out] at hz;cases hz;exact hc
     ·exact vV HO.out (RT.le (vX HH.out.hY (by omega) hz HY.out)) hc
    go_wp2_with fail;go_roundw
    ·exact⟨h+1,j,by go_num,rfl,by omega,by omega,hjb,HLo2.out,HHi.out,J2.out⟩
    ·simp[intOf];omega
   ·have HHi2:Hid (∀(k:Nat) z,Y[k]?=some z->h<=m+k->¬aZ (ai z.1).1 (ai x.1).1<0):=fun k z hz hk=>by
     by_cases e:k=h-m
     ·subst e;rw[HY.out] at hz;cases hz;exact hc
     ·have q1:=RT.le (vX HH.out.hY (by omega) HY.out hz);have q2:aZ (ai x.1).1 (ai y.1).1=-(aZ (ai y.1).1 (ai x.1).1):=HO.out.anti y.1 x.1;have q3:aZ (ai x.1).1 (ai z.1).1<=0:=mr HO.out (y:=y.1) (show aZ (ai x.1).1 (ai y.1).1<=0 by omega) q1;have q4:aZ (ai z.1).1 (ai x.1).1=-(aZ (ai x.1).1 (ai z.1).1):=HO.out.anti x.1 z.1;omega
    go_wp2_with fail;go_roundw
    ·exact⟨i,h,rfl,rfl,hmi,h1,by omega,HLo.out,HHi2.out,J2.out⟩
    ·simp[intOf];omega
  ·obtain rfl:i=j:=by omega
   obtain⟨Y1,Y2,hYY,hY1⟩:∃Y1 Y2,Y=Y1++Y2/\Y1.length=i-m:=⟨Y.take (i-m),Y.drop (i-m),(LC _ Y).symm,by rw[LI];have:=HBq.out;omega⟩
   have HS:Hid (ah (fun p q:PS=>aZ (ai p).1 (ai q).1) ([x]++Y) (Y1++x::Y2)):=by
    have hp:=HH.out.hY;have ht:=HH.out.hT x (by simp);rw[hYY] at hp ht;rw[Hid,hYY];refine Ah HO.out hp ht (fun y hy=>?_) (fun y hy=>?_)
    ·obtain⟨k,hk⟩:=LP hy;have hkl:=(KF.1 hk).1;exact HLo.out k y (by rw[hYY,Lc hkl];exact hk) (by omega)
    ·obtain⟨k,hk⟩:=LP hy;exact HHi.out (Y1.length+k) y (by rw[hYY,Kl (by omega)];simpa using hk) (by omega)
   have HYY:=qD hYY;have HY1:=qD hY1;clear hYY hY1 I HLo HHi;go_wp2_with fail
   go_loopw [13] (fun v13 wr=>∃(k:Nat) (P1 P2:List (PS×Nat)),v13=.int .i64 k/\k=a+P1.length/\Y1=P1++P2/\dK g w (A++(P1++x::P2)++(Y2++D)) wr) (fun v13 _=>n-(intOf v13).toNat)
   case atStart=>
    refine⟨a,[],Y1,rfl,rfl,rfl,?_⟩;have:=J.out;rw[HYY.out] at this;simpa using this
   case round=>
    obtain⟨k,P1,P2,rfl,hk,hPP,I⟩:=hrel;have HPP:=qD hPP;have HK:=qD hk;have J2:=qD I;have hkl:P1.length<=i-m:=by rw[<-HY1.out,hPP];simp
    by_cases hlt2:k<i-1
    ·obtain⟨y,P3,hP3⟩:∃y P3,P2=y::P3:=by
      cases P2 with
      | nil=>have h1:=HY1.out;rw[hPP] at h1;simp at h1;have:=HM.out;omega
      | cons y P3=>exact⟨y,P3,rfl⟩
     subst hP3;have hkA:k=A.length+P1.length:=by rw[hk,HA.out]
     have HX:Hid ((A++(P1++x::y::P3)++(Y2++D))[k]?=some x):=by rw[Hid,hkA];simp
     have HYk:Hid ((A++(P1++x::y::P3)++(Y2++D))[k+1]?=some y):=by
      rw[Hid,hkA,show A++(P1++x::y::P3)++(Y2++D)=(A++P1++[x])++y::(P3++(Y2++D)) by simp,Kl (by simp;omega),show A.length+P1.length+1-(A++P1++[x]).length=0 by simp;omega];rfl
     have HSw:Hid (((A++(P1++x::y::P3)++(Y2++D)).set k y).set (k+1) x=A++((P1++[y])++x::P3)++(Y2++D)):=by
      rw[Hid,hkA];exact yI A P1 P3 (Y2++D) x y
     have hkn:k+1<n:=by omega
     have p0:wr.cell? ⟨g,k*12,none⟩=some (.int .i64 x.1.1.1.1.k):=J2.out.row.cell HX.out 0 _ rfl;have p1:wr.cell? ⟨g,k*12+1,none⟩=some (.int .i64 x.1.1.1.1.n):=J2.out.row.cell HX.out 1 _ rfl;have p2:wr.cell? ⟨g,k*12+2,none⟩=some (.string x.1.1.1.1.t):=J2.out.row.cell HX.out 2 _ rfl;have p3:wr.cell? ⟨g,k*12+3,none⟩=some (.slice x.1.1.1.1.LA x.1.1.1.1.ln x.1.1.1.1.lc):=J2.out.row.cell HX.out 3 _ rfl;have p4:wr.cell? ⟨g,k*12+4,none⟩=some (.slice x.1.1.1.1.DA x.1.1.1.1.dn x.1.1.1.1.dc):=J2.out.row.cell HX.out 4 _ rfl;have p5:wr.cell? ⟨g,k*12+5,none⟩=some (.bool x.1.1.2):=J2.out.row.cell HX.out 5 _ rfl;have p6:wr.cell? ⟨g,k*12+6,none⟩=some (.int .i64 x.1.2.1.1.k):=J2.out.row.cell HX.out 6 _ rfl;have p7:wr.cell? ⟨g,k*12+7,none⟩=some (.int .i64 x.1.2.1.1.n):=J2.out.row.cell HX.out 7 _ rfl;have p8:wr.cell? ⟨g,k*12+8,none⟩=some (.string x.1.2.1.1.t):=J2.out.row.cell HX.out 8 _ rfl;have p9:wr.cell? ⟨g,k*12+9,none⟩=some (.slice x.1.2.1.1.LA x.1.2.1.1.ln x.1.2.1.1.lc):=J2.out.row.cell HX.out 9 _ rfl;have p10:wr.cell? ⟨g,k*12+10,none⟩=some (.slice x.1.2.1.1.DA x.1.2.1.1.dn x.1.2.1.1.dc):=J2.out.row.cell HX.out 10 _ rfl;have p11:wr.cell? ⟨g,k*12+11,none⟩=some (.bool x.1.2.2):=J2.out.row.cell HX.out 11 _ rfl;have r0:wr.cell? ⟨g,(k+1)*12,none⟩=some (.int .i64 y.1.1.1.1.k):=J2.out.row.cell HYk.out 0 _ rfl;have r1:wr.cell? ⟨g,(k+1)*12+1,none⟩=some (.int .i64 y.1.1.1.1.n):=J2.out.row.cell HYk.out 1 _ rfl
     have r2:wr.cell? ⟨g,(k+1)*12+2,none⟩=some (.string y.1.1.1.1.t):=J2.out.row.cell HYk.out 2 _ rfl;have r3:wr.cell? ⟨g,(k+1)*12+3,none⟩=some (.slice y.1.1.1.1.LA y.1.1.1.1.ln y.1.1.1.1.lc):=J2.out.row.cell HYk.out 3 _ rfl;have r4:wr.cell? ⟨g,(k+1)*12+4,none⟩=some (.slice y.1.1.1.1.DA y.1.1.1.1.dn y.1.1.1.1.dc):=J2.out.row.cell HYk.out 4 _ rfl;have r5:wr.cell? ⟨g,(k+1)*12+5,none⟩=some (.bool y.1.1.2):=J2.out.row.cell HYk.out 5 _ rfl;have r6:wr.cell? ⟨g,(k+1)*12+6,none⟩=some (.int .i64 y.1.2.1.1.k):=J2.out.row.cell HYk.out 6 _ rfl;have r7:wr.cell? ⟨g,(k+1)*12+7,none⟩=some (.int .i64 y.1.2.1.1.n):=J2.out.row.cell HYk.out 7 _ rfl;have r8:wr.cell? ⟨g,(k+1)*12+8,none⟩=some (.string y.1.2.1.1.t):=J2.out.row.cell HYk.out 8 _ rfl;have r9:wr.cell? ⟨g,(k+1)*12+9,none⟩=some (.slice y.1.2.1.1.LA y.1.2.1.1.ln y.1.2.1.1.lc):=J2.out.row.cell HYk.out 9 _ rfl;have r10:wr.cell? ⟨g,(k+1)*12+10,none⟩=some (.slice y.1.2.1.1.DA y.1.2.1.1.dn y.1.2.1.1.dc):=J2.out.row.cell HYk.out 10 _ rfl;have r11:wr.cell? ⟨g,(k+1)*12+11,none⟩=some (.bool y.1.2.2):=J2.out.row.cell HYk.out 11 _ rfl;have z:=bT.frozen J2.out.row;clear hk hPP I hkA hkl;go_upto_region 11 with fail
     go_region
     all_goals
      clear p0 p1 p2 p3 p4 p5 p6 p7 p8 p9 p10 p11 r0 r1 r2 r3 r4 r5 r6 r7 r8 r9 r10 r11 z;go_wp2_with fail;refine⟨⟨k+1,P1++[y],P3,by go_num,by rw[HK.out];simp;omega,by rw[HPP.out];simp,?_⟩,by simp[intOf];omega⟩;have r1:=J2.out.JS (KF.1 HX.out).1 (KF.1 HYk.out).1 x y;rw[HSw.out] at r1;exact r1
    ·have HE:Hid (dK g w (A++(Y1++x::Y2)++D) wr):=by
      have e:P2=[]:=KN (by have h1:=HY1.out;rw[hPP] at h1;simp at h1;have:=HM.out;omega);rw[e,LQ] at hPP;rw[e] at I;rw[Hid,hPP];simpa using I
     clear hk hPP I hkl;go_wp2_with fail
     go_end0
     exact⟨rfl,_,HS.out,HE.out⟩
theorem yJ{α:Type}{cm:α->α->Int}(H:db cm){y:α×Nat}{X1 X2:List (α×Nat)}(hX:(X1++X2).Pairwise (RT cm))(ht:∀x∈X1++X2,x.2<y.2)(h1:∀x∈X1,¬cm y.1 x.1<0)(h2:∀x∈X2,cm y.1 x.1<0):ah cm ((X1++X2)++[y]) (X1++y::X2):=by
 refine⟨Np.trans (Mw y _).symm,?_⟩;rw[Ky] at hX ⊢;refine⟨hX.1,NY.2 ⟨fun x hx=>.inl (h2 x hx),hX.2.1⟩,fun x hx z hz=>?_⟩;rcases LG.1 hz with rfl|hz
 ·unfold RT;have:=h1 x hx;have:=H.anti z.1 x.1;have:=ht x (by simp[hx]);omega
 ·exact hX.2.2 x hx z hz
theorem GI(H:db (fun p q:PS=>aZ (ai p).1 (ai q).1))(A X:List (PS×Nat))(y:PS×Nat)(D:List (PS×Nat))(g n c a m b:Nat)(aI mI bI:Int)(w:World)(h:ea A X [y] D g n w)(ha:a=A.length)(hm:m=a+X.length)(hb:b=m+1)(hX2:2<=X.length)(haI:aI=a)(hmI:mI=m)(hbI:bI=b):
 Calls prog 293 #[.slice (some ⟨g,0,none⟩) n c,.int .i64 aI,.int .i64 mI,.int .i64 bI,.func (.func 190) #[] #[]] w (ms g w A X [y] D):=by
 subst haI hmI hbI;have hz:=h.sz;unfold aH at hz;have hbn:b<=n:=by have:=h.ln;simp at this;omega
 have ham:((m:Int)-(a:Int)==1)=false:=by simp;omega
 have hbm:((b:Int)-(m:Int)==1)=true:=by simp;omega
 have HA:=qD ha;have HM:=qD hm;have hm1:a<=m:=by omega
 have hmb:m<b:=by omega
 have HH:=qD h;have HO:=qD H;have I0:Hid (dK g w (A++X++[y]++D) w):=qD ⟨h.row,iG.refl⟩;clear h ha hm hb H;go_enter func293,ntmps293;go_wp2_with fail
 go_loopw [14,15] (fun v14 v15 wr=>∃(i j:Nat),v14=.int .i64 i/\v15=.int .i64 j/\a<=i/\i<=j/\j<=m/\(∀(k:Nat) x,X[k]?=some x->a+k<i->¬aZ (ai y.1).1 (ai x.1).1<0)/\(∀(k:Nat) x,X[k]?=some x->j<=a+k->aZ (ai y.1).1 (ai x.1).1<0)/\dK g w (A++X++[y]++D) wr) (fun v14 v15 _=>(intOf v15).toNat-(intOf v14).toNat)
 ·exact⟨a,m,rfl,rfl,qL,hm1,qL,fun k y _ hk=>by omega,fun k y hy hk=>by have:=(KF.1 hy).1;have:=HM.out;omega,I0.out⟩
 case round=>
  obtain⟨i,j,rfl,rfl,hmi,hij,hjb,hlo,hhi,I⟩:=hrel;have HLo:=qD hlo;have HHi:=qD hhi;have J:=qD I;clear hlo hhi;by_cases hlt:i<j
  ·go_upto_region 17 with fail
   obtain⟨h,hh⟩:∃h:Nat,((i:Int)+(j:Int))/2=(h:Int):=⟨(i+j)/2,by omega⟩;rw[hh];have h1:i<=h:=by omega
   have h2:h<j:=by omega
   clear hh;obtain⟨x,hxX⟩:∃x,X[h-a]?=some x:=⟨_,Jv (by have:=HM.out;omega)⟩
   have hx:(A++X++[y]++D)[h]?=some x:=by
    have hA:=HA.out;rw[LN,LN,Kl (by omega),Lc (by have:=(KF.1 hxX).1;omega),<-hA];exact hxX
   have hy:(A++X++[y]++D)[m]?=some y:=by
    have hA:=HA.out;have hM:=HM.out;rw[LN,Kl (by simp;omega),show m-(A++X).length=0 by simp;omega];rfl
   have p0:wr.cell? ⟨g,h*12,none⟩=some (.int .i64 x.1.1.1.1.k):=I.row.cell hx 0 _ rfl;have p1:wr.cell? ⟨g,h*12+1,none⟩=some (.int .i64 x.1.1.1.1.n):=I.row.cell hx 1 _ rfl;have p2:wr.cell? ⟨g,h*12+2,none⟩=some (.string x.1.1.1.1.t):=I.row.cell hx 2 _ rfl;have p3:wr.cell? ⟨g,h*12+3,none⟩=some (.slice x.1.1.1.1.LA x.1.1.1.1.ln x.1.1.1.1.lc):=I.row.cell hx 3 _ rfl;have p4:wr.cell? ⟨g,h*12+4,none⟩=some (.slice x.1.1.1.1.DA x.1.1.1.1.dn x.1.1.1.1.dc):=I.row.cell hx 4 _ rfl;have p5:wr.cell? ⟨g,h*12+5,none⟩=some (.bool x.1.1.2):=I.row.cell hx 5 _ rfl;have p6:wr.cell? ⟨g,h*12+6,none⟩=some (.int .i64 x.1.2.1.1.k):=I.row.cell hx 6 _ rfl;have p7:wr.cell? ⟨g,h*12+7,none⟩=some (.int .i64 x.1.2.1.1.n):=I.row.cell hx 7 _ rfl;have p8:wr.cell? ⟨g,h*12+8,none⟩=some (.string x.1.2.1.1.t):=I.row.cell hx 8 _ rfl;have p9:wr.cell? ⟨g,h*12+9,none⟩=some (.slice x.1.2.1.1.LA x.1.2.1.1.ln x.1.2.1.1.lc):=I.row.cell hx 9 _ rfl;have p10:wr.cell? ⟨g,h*12+10,none⟩=some (.slice x.1.2.1.1.DA x.1.2.1.1.dn x.1.2.1.1.dc):=I.row.cell hx 10 _ rfl;have p11:wr.cell? ⟨g,h*12+11,none⟩=some (.bool x.1.2.2):=I.row.cell hx 11 _ rfl;have r0:wr.cell? ⟨g,m*12,none⟩=some (.int .i64 y.1.1.1.1.k):=I.row.cell hy 0 _ rfl;have r1:wr.cell? ⟨g,m*12+1,none⟩=some (.int .i64 y.1.1.1.1.n):=I.row.cell hy 1 _ rfl;have r2:wr.cell? ⟨g,m*12+2,none⟩=some (.string y.1.1.1.1.t):=I.row.cell hy 2 _ rfl;have r3:wr.cell? ⟨g,m*12+3,none⟩=some (.slice y.1.1.1.1.LA y.1.1.1.1.ln y.1.1.1.1.lc):=I.row.cell hy 3 _ rfl
   have r4:wr.cell? ⟨g,m*12+4,none⟩=some (.slice y.1.1.1.1.DA y.1.1.1.1.dn y.1.1.1.1.dc):=I.row.cell hy 4 _ rfl;have r5:wr.cell? ⟨g,m*12+5,none⟩=some (.bool y.1.1.2):=I.row.cell hy 5 _ rfl;have r6:wr.cell? ⟨g,m*12+6,none⟩=some (.int .i64 y.1.2.1.1.k):=I.row.cell hy 6 _ rfl;have r7:wr.cell? ⟨g,m*12+7,none⟩=some (.int .i64 y.1.2.1.1.n):=I.row.cell hy 7 _ rfl;have r8:wr.cell? ⟨g,m*12+8,none⟩=some (.string y.1.2.1.1.t):=I.row.cell hy 8 _ rfl;have r9:wr.cell? ⟨g,m*12+9,none⟩=some (.slice y.1.2.1.1.LA y.1.2.1.1.ln y.1.2.1.1.lc):=I.row.cell hy 9 _ rfl;have r10:wr.cell? ⟨g,m*12+10,none⟩=some (.slice y.1.2.1.1.DA y.1.2.1.1.dn y.1.2.1.1.dc):=I.row.cell hy 10 _ rfl;have r11:wr.cell? ⟨g,m*12+11,none⟩=some (.bool y.1.2.2):=I.row.cell hy 11 _ rfl;have P0:∀k:BW wr,k.val.cell? ⟨g,h*12,none⟩=some (.int .i64 x.1.1.1.1.k):=fun k=>k.cell p0;have P1:∀k:BW wr,k.val.cell? ⟨g,h*12+1,none⟩=some (.int .i64 x.1.1.1.1.n):=fun k=>k.cell p1;have P2:∀k:BW wr,k.val.cell? ⟨g,h*12+2,none⟩=some (.string x.1.1.1.1.t):=fun k=>k.cell p2;have P3:∀k:BW wr,k.val.cell? ⟨g,h*12+3,none⟩=some (.slice x.1.1.1.1.LA x.1.1.1.1.ln x.1.1.1.1.lc):=fun k=>k.cell p3;have P4:∀k:BW wr,k.val.cell? ⟨g,h*12+4,none⟩=some (.slice x.1.1.1.1.DA x.1.1.1.1.dn x.1.1.1.1.dc):=fun k=>k.cell p4;have P5:∀k:BW wr,k.val.cell? ⟨g,h*12+5,none⟩=some (.bool x.1.1.2):=fun k=>k.cell p5;have P6:∀k:BW wr,k.val.cell? ⟨g,h*12+6,none⟩=some (.int .i64 x.1.2.1.1.k):=fun k=>k.cell p6
   have P7:∀k:BW wr,k.val.cell? ⟨g,h*12+7,none⟩=some (.int .i64 x.1.2.1.1.n):=fun k=>k.cell p7;have P8:∀k:BW wr,k.val.cell? ⟨g,h*12+8,none⟩=some (.string x.1.2.1.1.t):=fun k=>k.cell p8;have P9:∀k:BW wr,k.val.cell? ⟨g,h*12+9,none⟩=some (.slice x.1.2.1.1.LA x.1.2.1.1.ln x.1.2.1.1.lc):=fun k=>k.cell p9;have P10:∀k:BW wr,k.val.cell? ⟨g,h*12+10,none⟩=some (.slice x.1.2.1.1.DA x.1.2.1.1.dn x.1.2.1.1.dc):=fun k=>k.cell p10;have P11:∀k:BW wr,k.val.cell? ⟨g,h*12+11,none⟩=some (.bool x.1.2.2):=fun k=>k.cell p11;have R0:∀k:BW wr,k.val.cell? ⟨g,m*12,none⟩=some (.int .i64 y.1.1.1.1.k):=fun k=>k.cell r0;have R1:∀k:BW wr,k.val.cell? ⟨g,m*12+1,none⟩=some (.int .i64 y.1.1.1.1.n):=fun k=>k.cell r1;have R2:∀k:BW wr,k.val.cell? ⟨g,m*12+2,none⟩=some (.string y.1.1.1.1.t):=fun k=>k.cell r2;have R3:∀k:BW wr,k.val.cell? ⟨g,m*12+3,none⟩=some (.slice y.1.1.1.1.LA y.1.1.1.1.ln y.1.1.1.1.lc):=fun k=>k.cell r3;have R4:∀k:BW wr,k.val.cell? ⟨g,m*12+4,none⟩=some (.slice y.1.1.1.1.DA y.1.1.1.1.dn y.1.1.1.1.dc):=fun k=>k.cell r4;have R5:∀k:BW wr,k.val.cell? ⟨g,m*12+5,none⟩=some (.bool y.1.1.2):=fun k=>k.cell r5;have R6:∀k:BW wr,k.val.cell? ⟨g,m*12+6,none⟩=some (.int .i64 y.1.2.1.1.k):=fun k=>k.cell r6;have R7:∀k:BW wr,k.val.cell? ⟨g,m*12+7,none⟩=some (.int .i64 y.1.2.1.1.n):=fun k=>k.cell r7;have R8:∀k:BW wr,k.val.cell? ⟨g,m*12+8,none⟩=some (.string y.1.2.1.1.t):=fun k=>k.cell r8;have R9:∀k:BW wr,k.val.cell? ⟨g,m*12+9,none⟩=some (.slice y.1.2.1.1.LA y.1.2.1.1.ln y.1.2.1.1.lc):=fun k=>k.cell r9
   have R10:∀k:BW wr,k.val.cell? ⟨g,m*12+10,none⟩=some (.slice y.1.2.1.1.DA y.1.2.1.1.dn y.1.2.1.1.dc):=fun k=>k.cell r10;have R11:∀k:BW wr,k.val.cell? ⟨g,m*12+11,none⟩=some (.bool y.1.2.2):=fun k=>k.cell r11;have i0:(0:Int)<=(h:Int):=by omega
   have i1:(h:Int)<(n:Int):=by omega
   have i2:(0:Int)<=(m:Int):=by omega
   have i3:(m:Int)<(n:Int):=by omega
   have K1:Hid (∀k:BW wr,Calls prog 190 #[lM y,lM x] k.val fun e w''=>e=.returned (.int .i64 (aZ (ai y.1).1 (ai x.1).1))/\∃k:BW wr,w''=k.val):=fun k=>
    Calls.bw (HH.out.cmp y x (by simp) (by simp[Jx hxX]) k.val (I.but.step k.below))
   have HY:=qD hxX;clear p0 p1 p2 p3 p4 p5 p6 p7 p8 p9 p10 p11 r0 r1 r2 r3 r4 r5 r6 r7 r8 r9 r10 r11 hx hy hxX I;refine aM (by kernel_rfl) (by kernel_rfl) ?_
   repeat(go_big_quiet_step (with_reducible exact K1.out _))
   refine Kd ?_;rintro _ ⟨kw,rfl⟩;have J2:=qD (J.out.step kw.below);clear P0 P1 P2 P3 P4 P5 P6 P7 P8 P9 P10 P11 R0 R1 R2 R3 R4 R5 R6 R7 R8 R9 R10 R11 K1 i0 i1 i2 i3;generalize kw.val=w2 at*;by_cases hc:aZ (ai y.1).1 (ai x.1).1<0
   ·have HHi2:Hid (∀(k:Nat) z,X[k]?=some z->h<=a+k->aZ (ai y.1).1 (ai z.1).1<0):=fun k z hz hk=>by
     by_cases e:k=h-a
     ·subst e;rw[HY.out] at hz;cases hz;exact hc
     ·exact vW HO.out (y:=x.1) hc (RT.le (vX HH.out.hX (by omega) HY.out hz))
    have d4:(!decide (aZ (ai y.1).1 (ai x.1).1<0))=false:=by rw[Jy hc];rfl
    go_wp2_with fail
    all_goals first|(rename_i e;rw[d4] at e;contradiction)|skip
    go_roundw
    ·exact⟨i,h,rfl,rfl,hmi,h1,by omega,HLo.out,HHi2.out,J2.out⟩
    ·simp[intOf];omega
   ·have HLo2:Hid (∀(k:Nat) z,X[k]?=some z->a+k<h+1->¬aZ (ai y.1).1 (ai z.1).1<0):=fun k z hz hk=>by
     by_cases e:k=h-a
     ·subst e;rw[HY.out] at hz;cases hz;exact hc
     ·have q1:=RT.le (vX HH.out.hX (by omega) hz HY.out);have q2:aZ (ai x.1).1 (ai y.1).1=-(aZ (ai y.1).1 (ai x.1).1):=HO.out.anti y.1 x.1;have q3:aZ (ai z.1).1 (ai y.1).1<=0:=mr HO.out (y:=x.1) q1 (show aZ (ai x.1).1 (ai y.1).1<=0 by omega);have q4:aZ (ai y.1).1 (ai z.1).1=-(aZ (ai z.1).1 (ai y.1).1):=HO.out.anti z.1 y.1;omega
    have d4:(!decide (aZ (ai y.1).1 (ai x.1).1<0))=true:=by rw[KQ hc];rfl
    go_wp2_with fail
    all_goals first|(rename_i e;rw[d4] at e;contradiction)|skip
    go_roundw
    ·exact⟨h+1,j,by go_num,rfl,by omega,by omega,hjb,HLo2.out,HHi.out,J2.out⟩
    ·simp[intOf];omega
  ·obtain rfl:i=j:=by omega
   obtain⟨X1,X2,hXX,hX1⟩:∃X1 X2,X=X1++X2/\X1.length=i-a:=⟨X.take (i-a),X.drop (i-a),(LC _ X).symm,by rw[LI];have:=HM.out;omega⟩
   have HS:Hid (ah (fun p q:PS=>aZ (ai p).1 (ai q).1) (X++[y]) (X1++y::X2)):=by
    have hp:=HH.out.hX;have ht:∀x∈X,x.2<y.2:=fun x hx=>HH.out.hT x hx y (by simp);rw[hXX] at hp ht;rw[Hid,hXX];refine yJ HO.out hp ht (fun x hx=>?_) (fun x hx=>?_)
    ·obtain⟨k,hk⟩:=LP hx;have hkl:=(KF.1 hk).1;exact HLo.out k x (by rw[hXX,Lc hkl];exact hk) (by omega)
    ·obtain⟨k,hk⟩:=LP hx;exact HHi.out (X1.length+k) x (by rw[hXX,Kl (by omega)];simpa using hk) (by omega)
   have HXX:=qD hXX;have HX1:=qD hX1;have hX2l:X2.length=m-i:=by have h1:=HM.out;rw[hXX] at h1;simp at h1;omega
   have HX2:=qD hX2l;clear hXX hX1 I HLo HHi hX2l;go_wp2_with fail
   go_loopw [17] (fun v17 wr=>∃(k:Nat) (P1 P2:List (PS×Nat)),v17=.int .i64 k/\k=i+P1.length/\X2=P1++P2/\dK g w ((A++X1)++(P1++y::P2)++D) wr) (fun v17 _=>(intOf v17).toNat)
   case atStart=>
    refine⟨m,X2,[],rfl,by have:=HX2.out;omega,by simp,?_⟩;have:=J.out;rw[HXX.out] at this;simpa using this
   case round=>
    obtain⟨k,P1,P2,rfl,hk,hPP,I⟩:=hrel;have HPP:=qD hPP;have HK:=qD hk;have J2:=qD I;have hkm:k<=m:=by have h1:=HX2.out;rw[hPP] at h1;simp at h1;omega
    by_cases hlt2:i<k
    ·obtain⟨P0,z,hP0⟩:∃P0 z,P1=P0++[z]:=by
      rcases Mc P1 with h|⟨P0,z,h⟩
      ·rw[h] at hk;simp at hk;omega
      ·exact⟨P0,z,by rw[h,MP]⟩
     have hkA:k=(A++X1).length+(P0.length+1):=by rw[hk,hP0];have:=HX1.out;have:=HA.out;simp;omega
     have HYk:Hid (((A++X1)++(P1++y::P2)++D)[k]?=some y):=by
      rw[Hid,hP0,hkA,show(A++X1)++((P0++[z])++y::P2)++D=(A++X1++P0++[z])++y::(P2++D) by simp,Kl (by simp;omega),show(A++X1).length+(P0.length+1)-(A++X1++P0++[z]).length=0 by simp;omega];rfl
     have HZk:Hid (((A++X1)++(P1++y::P2)++D)[k-1]?=some z):=by
      rw[Hid,hP0,hkA,show(A++X1)++((P0++[z])++y::P2)++D=(A++X1++P0)++z::(y::(P2++D)) by simp,Kl (by simp;omega),show(A++X1).length+(P0.length+1)-1-(A++X1++P0).length=0 by simp;omega];rfl
     have HSw:Hid ((((A++X1)++(P1++y::P2)++D).set k z).set (k-1) y=(A++X1)++(P0++y::z::P2)++D):=by
      rw[Hid,hP0,hkA];exact sB (A++X1) P0 P2 D y z
     have HP0:=qD hP0;have hk1:1<=k:=by omega
     have p0:wr.cell? ⟨g,k*12,none⟩=some (.int .i64 y.1.1.1.1.k):=J2.out.row.cell HYk.out 0 _ rfl;have p1:wr.cell? ⟨g,k*12+1,none⟩=some (.int .i64 y.1.1.1.1.n):=J2.out.row.cell HYk.out 1 _ rfl;have p2:wr.cell? ⟨g,k*12+2,none⟩=some (.string y.1.1.1.1.t):=J2.out.row.cell HYk.out 2 _ rfl;have p3:wr.cell? ⟨g,k*12+3,none⟩=some (.slice y.1.1.1.1.LA y.1.1.1.1.ln y.1.1.1.1.lc):=J2.out.row.cell HYk.out 3 _ rfl;have p4:wr.cell? ⟨g,k*12+4,none⟩=some (.slice y.1.1.1.1.DA y.1.1.1.1.dn y.1.1.1.1.dc):=J2.out.row.cell HYk.out 4 _ rfl;have p5:wr.cell? ⟨g,k*12+5,none⟩=some (.bool y.1.1.2):=J2.out.row.cell HYk.out 5 _ rfl;have p6:wr.cell? ⟨g,k*12+6,none⟩=some (.int .i64 y.1.2.1.1.k):=J2.out.row.cell HYk.out 6 _ rfl;have p7:wr.cell? ⟨g,k*12+7,none⟩=some (.int .i64 y.1.2.1.1.n):=J2.out.row.cell HYk.out 7 _ rfl;have p8:wr.cell? ⟨g,k*12+8,none⟩=some (.string y.1.2.1.1.t):=J2.out.row.cell HYk.out 8 _ rfl;have p9:wr.cell? ⟨g,k*12+9,none⟩=some (.slice y.1.2.1.1.LA y.1.2.1.1.ln y.1.2.1.1.lc):=J2.out.row.cell HYk.out 9 _ rfl;have p10:wr.cell? ⟨g,k*12+10,none⟩=some (.slice y.1.2.1.1.DA y.1.2.1.1.dn y.1.2.1.1.dc):=J2.out.row.cell HYk.out 10 _ rfl;have p11:wr.cell? ⟨g,k*12+11,none⟩=some (.bool y.1.2.2):=J2.out.row.cell HYk.out 11 _ rfl;have r0:wr.cell? ⟨g,(k-1)*12,none⟩=some (.int .i64 z.1.1.1.1.k):=J2.out.row.cell HZk.out 0 _ rfl;have r1:wr.cell? ⟨g,(k-1)*12+1,none⟩=some (.int .i64 z.1.1.1.1.n):=J2.out.row.cell HZk.out 1 _ rfl
     have r2:wr.cell? ⟨g,(k-1)*12+2,none⟩=some (.string z.1.1.1.1.t):=J2.out.row.cell HZk.out 2 _ rfl;have r3:wr.cell? ⟨g,(k-1)*12+3,none⟩=some (.slice z.1.1.1.1.LA z.1.1.1.1.ln z.1.1.1.1.lc):=J2.out.row.cell HZk.out 3 _ rfl;have r4:wr.cell? ⟨g,(k-1)*12+4,none⟩=some (.slice z.1.1.1.1.DA z.1.1.1.1.dn z.1.1.1.1.dc):=J2.out.row.cell HZk.out 4 _ rfl;have r5:wr.cell? ⟨g,(k-1)*12+5,none⟩=some (.bool z.1.1.2):=J2.out.row.cell HZk.out 5 _ rfl;have r6:wr.cell? ⟨g,(k-1)*12+6,none⟩=some (.int .i64 z.1.2.1.1.k):=J2.out.row.cell HZk.out 6 _ rfl;have r7:wr.cell? ⟨g,(k-1)*12+7,none⟩=some (.int .i64 z.1.2.1.1.n):=J2.out.row.cell HZk.out 7 _ rfl;have r8:wr.cell? ⟨g,(k-1)*12+8,none⟩=some (.string z.1.2.1.1.t):=J2.out.row.cell HZk.out 8 _ rfl;have r9:wr.cell? ⟨g,(k-1)*12+9,none⟩=some (.slice z.1.2.1.1.LA z.1.2.1.1.ln z.1.2.1.1.lc):=J2.out.row.cell HZk.out 9 _ rfl;have r10:wr.cell? ⟨g,(k-1)*12+10,none⟩=some (.slice z.1.2.1.1.DA z.1.2.1.1.dn z.1.2.1.1.dc):=J2.out.row.cell HZk.out 10 _ rfl;have r11:wr.cell? ⟨g,(k-1)*12+11,none⟩=some (.bool z.1.2.2):=J2.out.row.cell HZk.out 11 _ rfl;have zf:=bT.frozen J2.out.row;clear hk hPP I hkA hP0;go_upto_region 23 with fail
     go_region
     all_goals
      clear p0 p1 p2 p3 p4 p5 p6 p7 p8 p9 p10 p11 r0 r1 r2 r3 r4 r5 r6 r7 r8 r9 r10 r11 zf;go_wp2_with fail;refine⟨⟨k-1,P0,z::P2,by rw[show((k-1:Nat):Int)=(k:Int)-1 by omega],by have h1:=HK.out;rw[HP0.out] at h1;simp at h1;omega,by rw[HPP.out,HP0.out];simp,?_⟩,by simp[intOf];omega⟩;have r1:=J2.out.swap (KF.1 HYk.out).1 y z;rw[HSw.out] at r1;exact r1
    ·have HE:Hid (dK g w (A++(X1++y::X2)++D) wr):=by
      have e:P1=[]:=KN (by omega);rw[e,NV] at hPP;rw[e] at I;rw[Hid,hPP];simpa using I
     clear hk hPP I;go_wp2_with fail
     go_end0
     exact⟨rfl,_,HS.out,HE.out⟩
section
variable {α:Type} {cm:α->α->Int}
theorem zA(H:db cm){l:List (α×Nat)}(h:l.Pairwise (RT cm)){i j:Nat}{x y:α×Nat}(hij:i<=j)(hx:l[i]?=some x)(hy:l[j]?=some y):cm x.1 y.1<=0:=by
 by_cases e:i=j
 ·subst e;rw[hx] at hy;cases hy;have:=H.anti x.1 x.1;omega
 ·exact RT.le (vX h (by omega) hx hy)
theorem tU{X1 X2 Y1 Y2 S1 S2:List (α×Nat)}(hX:(X1++X2).Pairwise (RT cm))(hY:(Y1++Y2).Pairwise (RT cm))(h12:∀x∈X1,∀y∈Y2,RT cm x y)(h21:∀y∈Y1,∀x∈X2,RT cm y x)(h1:ah cm (X1++Y1) S1)(h2:ah cm (X2++Y2) S2):ah cm ((X1++X2)++(Y1++Y2)) (S1++S2):=by
 refine⟨(h1.1.append h2.1).trans ?_,Ky.2 ⟨h1.2,h2.2,fun u hu v hv=>?_⟩⟩
 ·rw[LN,LN];refine List.Perm.append_left X1 ?_;rw[<-LN,<-LN];exact List.Perm.append_right Y2 List.perm_append_comm
 ·rcases KI.1 (h1.1.mem_iff.1 hu) with hu|hu<;>rcases KI.1 (h2.1.mem_iff.1 hv) with hv|hv
  ·exact(Ky.1 hX).2.2 u hu v hv
  ·exact h12 u hu v hv
  ·exact h21 u hu v hv
  ·exact(Ky.1 hY).2.2 u hu v hv
theorem IC{A X Y D:List (α×Nat)}{i:Nat}(h1:A.length<=i)(h2:i<A.length+X.length):(A++X++Y++D)[i]?=X[i-A.length]?:=by
 rw[LN,LN,Kl h1,Lc (by omega)]
theorem IE{A X Y D:List (α×Nat)}{i:Nat}(h1:A.length+X.length<=i)(h2:i<A.length+X.length+Y.length):(A++X++Y++D)[i]?=Y[i-(A.length+X.length)]?:=by
 rw[LN,Kl (by simp;omega),Lc (by simp;omega)];simp
theorem Ai(H:db cm){A X Y D:List (α×Nat)}{a m b mid s0 r0 t:Nat}(ha:a=A.length)(hm:m=a+X.length)(hb:b=m+Y.length)(hX:X.Pairwise (RT cm))(hY:Y.Pairwise (RT cm))(hT:∀x∈X,∀y∈Y,x.2<y.2)(hs:s0<=t)(hr:t<=r0)(hmid:mid=(a+b)/2)(hc:(mid<m/\s0=mid+m-b/\r0=mid)\/(m<=mid/\s0=a/\r0=m))(lo:t=s0\/∃x y,(A++X++Y++D)[t-1]?=some x/\(A++X++Y++D)[mid+m-t]?=some y/\¬cm y.1 x.1<0)(hi:t=r0\/∃x y,(A++X++Y++D)[t]?=some x/\(A++X++Y++D)[mid+m-1-t]?=some y/\cm y.1 x.1<0):
 ∃X1 X2 Y1 Y2,X=X1++X2/\Y=Y1++Y2/\X1.length=t-a/\X2.length=m-t/\Y1.length=mid-t/\Y2.length=b+t-(mid+m)/\(∀x∈X1,∀y∈Y2,RT cm x y)/\(∀y∈Y1,∀x∈X2,RT cm y x):=by
 have HLo:=qD lo;have HHi:=qD hi;clear lo hi;have l1:(X.take (t-a)).length=t-a:=by rw[LI];omega
 have l2:(X.drop (t-a)).length=m-t:=by rw[NG];omega
 have l3:(Y.take (mid-t)).length=mid-t:=by rw[LI];omega
 have l4:(Y.drop (mid-t)).length=b+t-(mid+m):=by rw[NG];omega
 refine⟨_,_,_,_,(LC (t-a) X).symm,(LC (mid-t) Y).symm,l1,l2,l3,l4,fun x hx y hy=>?_,fun y hy x hx=>?_⟩
 ·obtain⟨k,hk⟩:=LP hx;obtain⟨k',hk'⟩:=LP hy;have q1:=(KF.1 hk).1;have q2:=(KF.1 hk').1;rw[Oa (by omega)] at hk;rw[MQ] at hk';have ht:=hT x (Jx hk) y (Jx hk');rcases HLo.out with lo|⟨x0,y0,e1,e2,e3⟩
  ·omega
  ·rw[IC (by omega) (by omega)] at e1;rw[IE (by omega) (by omega)] at e2;have r1:=zA H hX (by omega) hk e1;have r2:=zA H hY (by omega) e2 hk';have r3:=H.anti y0.1 x0.1;have r4:=mr H r1 (show cm x0.1 y0.1<=0 by omega);have r5:=mr H r4 r2;unfold RT;omega
 ·obtain⟨k,hk⟩:=LP hx;obtain⟨k',hk'⟩:=LP hy;have q1:=(KF.1 hk).1;have q2:=(KF.1 hk').1;rw[MQ] at hk;rw[Oa (by omega)] at hk';rcases HHi.out with hi|⟨x0,y0,e1,e2,e3⟩
  ·omega
  ·rw[IC (by omega) (by omega)] at e1;rw[IE (by omega) (by omega)] at e2;have r1:=zA H hX (by omega) e1 hk;have r2:=zA H hY (by omega) hk' e2;exact .inl (vW H (vV H r2 e3) r1)
end
theorem iR.less{g:Nat}{w w1:World}{U U':List (PS×Nat)}(h:iR g w U)(hb:iG g w w1)(hs:∀x∈U',x∈U):iR g w1 U':=fun x y hx hy wr hr=>h x y (hs x hx) (hs y hy) wr (hb.trans hr)
theorem zB{A X1 X2 Y1 Y2 D:List (PS×Nat)}{g n:Nat}{w w1:World}(h:ea A (X1++X2) (Y1++Y2) D g n w)(I:dK g w (A++X1++Y1++X2++Y2++D) w1):ea A X1 Y1 (X2++Y2++D) g n w1:=
 ⟨by have:=I.row;simpa using this,by rw[h.ln];simp;omega,h.sz,(Ky.1 h.hX).1,(Ky.1 h.hY).1,fun x hx y hy=>h.hT x (by simp[hx]) y (by simp[hy]),h.cmp.less I.but (fun x hx=>by rcases KI.1 hx with hx|hx<;>simp[hx])⟩
theorem zC{A X1 X2 Y1 Y2 D S1:List (PS×Nat)}{g n:Nat}{w w1:World}(h:ea A (X1++X2) (Y1++Y2) D g n w)(hl:S1.length=X1.length+Y1.length)(I:dK g w (A++S1++(X2++Y2++D)) w1):ea (A++S1) X2 Y2 D g n w1:=
 ⟨by have:=I.row;simpa using this,by rw[h.ln];simp;omega,h.sz,(Ky.1 h.hX).2.1,(Ky.1 h.hY).2.1,fun x hx y hy=>h.hT x (by simp[hx]) y (by simp[hy]),h.cmp.less I.but (fun x hx=>by rcases KI.1 hx with hx|hx<;>simp[hx])⟩
theorem oK{α:Type}{cm:α->α->Int}{l:List (α×Nat)}(h:l.Pairwise (RT cm)):ah cm l l:=⟨List.Perm.refl _,h⟩
def zD(N:Nat):Prop:=∀(A X Y D:List (PS×Nat)) (g n c a m b:Nat) (aI mI bI:Int) (w:World),ea A X Y D g n w->a=A.length->m=a+X.length->b=m+Y.length->1<=X.length->1<=Y.length->X.length+Y.length<N->aI=a->mI=m->bI=b->
 Calls prog 293 #[.slice (some ⟨g,0,none⟩) n c,.int .i64 aI,.int .i64 mI,.int .i64 bI,.func (.func 190) #[] #[]] w (ms g w A X Y D)
def Gw(L:List (PS×Nat))(s0 nn t:Nat):Prop:=t=s0\/∃x y,L[t-1]?=some x/\L[nn-t]?=some y/\¬aZ (ai y.1).1 (ai x.1).1<0
def Gx(L:List (PS×Nat))(r0 nn t:Nat):Prop:=t=r0\/∃x y,L[t]?=some x/\L[nn-1-t]?=some y/\aZ (ai y.1).1 (ai x.1).1<0
theorem GJ(H:db (fun p q:PS=>aZ (ai p).1 (ai q).1))(A X Y D:List (PS×Nat))(g n c a m b:Nat)(aI mI bI:Int)(w:World)(h:ea A X Y D g n w)(ha:a=A.length)(hm:m=a+X.length)(hb:b=m+Y.length)(hX2:2<=X.length)(hY2:2<=Y.length)(ih:zD (X.length+Y.length))(haI:aI=a)(hmI:mI=m)(hbI:bI=b):
 Calls prog 293 #[.slice (some ⟨g,0,none⟩) n c,.int .i64 aI,.int .i64 mI,.int .i64 bI,.func (.func 190) #[] #[]] w (ms g w A X Y D):=by
 subst haI hmI hbI;have hz:=h.sz;unfold aH at hz;have hbn:b<=n:=by have:=h.ln;simp at this;omega
 have ham:((m:Int)-(a:Int)==1)=false:=by simp;omega
 have hbm:((b:Int)-(m:Int)==1)=false:=by simp;omega
 have HA:=qD ha;have HM:=qD hm;have HB:=qD hb;have hm1:a+2<=m:=by omega
 have hmb:m+2<=b:=by omega
 have HH:=qD h;have HO:=qD H;have HI:=qD ih;have I0:Hid (dK g w (A++X++Y++D) w):=qD ⟨h.row,iG.refl⟩;clear h ha hm hb H ih hX2 hY2;go_enter func293,ntmps293;go_upto_region 25 with fail
 obtain⟨mid,hh⟩:∃mid:Nat,((a:Int)+(b:Int))/2=(mid:Int):=⟨(a+b)/2,by omega⟩;rw[hh];have HMid:Hid (mid=(a+b)/2):=by unfold Hid;omega
 have hmid1:a<mid:=by omega
 have hmid2:mid<b:=by omega
 have hmid3:2*mid<=a+b:=by omega
 have hmid4:a+b<=2*mid+1:=by omega
 clear hh
 obtain⟨s0,r0,hc⟩:∃s0 r0:Nat,(mid<m/\s0=mid+m-b/\r0=mid)\/(m<=mid/\s0=a/\r0=m):=by
  by_cases e:mid<m
  ·exact⟨_,_,.inl ⟨e,rfl,rfl⟩⟩
  ·exact⟨_,_,.inr ⟨by omega,rfl,rfl⟩⟩
 have HC:=qD hc;have hs1:a<=s0:=by omega
 have hs2:s0<=r0:=by omega
 have hr1:r0<=m:=by omega
 have hr2:r0<=mid:=by omega
 have hs3:mid+m<=b+s0:=by omega
 clear hc;go_upto_region 26 with fail
 obtain⟨p,hp⟩:∃p:Nat,mid+m=p+1:=⟨mid+m-1,by omega⟩;have HP:=qD hp;have hp1:p+1<=b+s0:=by omega
 have hp2:m+r0<=p+1:=by omega
 rw[show(mid:Int)+(m:Int)=(p:Int)+1 by omega];clear hp
 go_upto_if 140 with fail
 go_cut [20,21] (fun s20 s21 wx=>s20=.int .i64 s0/\s21=.int .i64 r0/\w=wx)
 case first=>as_aux_lemma=>
  rcases HC.out with⟨q1,q2,q3⟩|⟨q1,q2,q3⟩
  all_goals
   have Q2:=qD q2;have Q3:=qD q3;clear q2 q3;go_wp2_with fail;go_meet;exact⟨congrArg (Value.int .i64) (by have:=Q2.out;have:=HP.out;omega),congrArg (Value.int .i64) (by have:=Q3.out;omega),rfl⟩
 case rest=>
  obtain⟨rfl,rfl,rfl⟩:=hcut;go_wp2_with fail
  go_loopw [20,21] (fun v20 v21 wr=>∃(i j:Nat),v20=.int .i64 i/\v21=.int .i64 j/\s0<=i/\i<=j/\j<=r0/\Gw (A++X++Y++D) s0 (p+1) i/\Gx (A++X++Y++D) r0 (p+1) j/\dK g w (A++X++Y++D) wr) (fun v20 v21 _=>(intOf v21).toNat-(intOf v20).toNat)
  ·exact⟨s0,r0,rfl,rfl,qL,hs2,qL,.inl rfl,.inl rfl,I0.out⟩
  case round=>
   obtain⟨i,j,rfl,rfl,hmi,hij,hjb,hlo,hhi,I⟩:=hrel;have HLo:=qD hlo;have HHi:=qD hhi;have J:=qD I;clear hlo hhi;by_cases hlt:i<j
   ·as_aux_lemma=>
    go_upto_region 35 with fail
    obtain⟨h,hh⟩:∃h:Nat,((i:Int)+(j:Int))/2=(h:Int):=⟨(i+j)/2,by omega⟩;rw[hh];have h1:i<=h:=by omega
    have h2:h<j:=by omega
    clear hh
    obtain⟨x,hx,hxX⟩:∃x,(A++X++Y++D)[h]?=some x/\x∈X:=by
     have hA:=HA.out;have hM:=HM.out;rw[IC (by omega) (by omega)];exact⟨_,Jv (by omega),MB _⟩
    obtain⟨y,hy,hyY⟩:∃y,(A++X++Y++D)[p-h]?=some y/\y∈Y:=by
     have hA:=HA.out;have hM:=HM.out;have hB:=HB.out;rw[IE (by omega) (by omega)];exact⟨_,Jv (by omega),MB _⟩
    have p0:wr.cell? ⟨g,h*12,none⟩=some (.int .i64 x.1.1.1.1.k):=I.row.cell hx 0 _ rfl;have p1:wr.cell? ⟨g,h*12+1,none⟩=some (.int .i64 x.1.1.1.1.n):=I.row.cell hx 1 _ rfl;have p2:wr.cell? ⟨g,h*12+2,none⟩=some (.string x.1.1.1.1.t):=I.row.cell hx 2 _ rfl;have p3:wr.cell? ⟨g,h*12+3,none⟩=some (.slice x.1.1.1.1.LA x.1.1.1.1.ln x.1.1.1.1.lc):=I.row.cell hx 3 _ rfl;have p4:wr.cell? ⟨g,h*12+4,none⟩=some (.slice x.1.1.1.1.DA x.1.1.1.1.dn x.1.1.1.1.dc):=I.row.cell hx 4 _ rfl;have p5:wr.cell? ⟨g,h*12+5,none⟩=some (.bool x.1.1.2):=I.row.cell hx 5 _ rfl;have p6:wr.cell? ⟨g,h*12+6,none⟩=some (.int .i64 x.1.2.1.1.k):=I.row.cell hx 6 _ rfl;have p7:wr.cell? ⟨g,h*12+7,none⟩=some (.int .i64 x.1.2.1.1.n):=I.row.cell hx 7 _ rfl;have p8:wr.cell? ⟨g,h*12+8,none⟩=some (.string x.1.2.1.1.t):=I.row.cell hx 8 _ rfl;have p9:wr.cell? ⟨g,h*12+9,none⟩=some (.slice x.1.2.1.1.LA x.1.2.1.1.ln x.1.2.1.1.lc):=I.row.cell hx 9 _ rfl;have p10:wr.cell? ⟨g,h*12+10,none⟩=some (.slice x.1.2.1.1.DA x.1.2.1.1.dn x.1.2.1.1.dc):=I.row.cell hx 10 _ rfl;have p11:wr.cell? ⟨g,h*12+11,none⟩=some (.bool x.1.2.2):=I.row.cell hx 11 _ rfl;have r0:wr.cell? ⟨g,(p-h)*12,none⟩=some (.int .i64 y.1.1.1.1.k):=I.row.cell hy 0 _ rfl;have r1:wr.cell? ⟨g,(p-h)*12+1,none⟩=some (.int .i64 y.1.1.1.1.n):=I.row.cell hy 1 _ rfl;have r2:wr.cell? ⟨g,(p-h)*12+2,none⟩=some (.string y.1.1.1.1.t):=I.row.cell hy 2 _ rfl;have r3:wr.cell? ⟨g,(p-h)*12+3,none⟩=some (.slice y.1.1.1.1.LA y.1.1.1.1.ln y.1.1.1.1.lc):=I.row.cell hy 3 _ rfl
    have r4:wr.cell? ⟨g,(p-h)*12+4,none⟩=some (.slice y.1.1.1.1.DA y.1.1.1.1.dn y.1.1.1.1.dc):=I.row.cell hy 4 _ rfl;have r5:wr.cell? ⟨g,(p-h)*12+5,none⟩=some (.bool y.1.1.2):=I.row.cell hy 5 _ rfl;have r6:wr.cell? ⟨g,(p-h)*12+6,none⟩=some (.int .i64 y.1.2.1.1.k):=I.row.cell hy 6 _ rfl;have r7:wr.cell? ⟨g,(p-h)*12+7,none⟩=some (.int .i64 y.1.2.1.1.n):=I.row.cell hy 7 _ rfl;have r8:wr.cell? ⟨g,(p-h)*12+8,none⟩=some (.string y.1.2.1.1.t):=I.row.cell hy 8 _ rfl;have r9:wr.cell? ⟨g,(p-h)*12+9,none⟩=some (.slice y.1.2.1.1.LA y.1.2.1.1.ln y.1.2.1.1.lc):=I.row.cell hy 9 _ rfl;have r10:wr.cell? ⟨g,(p-h)*12+10,none⟩=some (.slice y.1.2.1.1.DA y.1.2.1.1.dn y.1.2.1.1.dc):=I.row.cell hy 10 _ rfl;have r11:wr.cell? ⟨g,(p-h)*12+11,none⟩=some (.bool y.1.2.2):=I.row.cell hy 11 _ rfl;have P0:∀k:BW wr,k.val.cell? ⟨g,h*12,none⟩=some (.int .i64 x.1.1.1.1.k):=fun k=>k.cell p0;have P1:∀k:BW wr,k.val.cell? ⟨g,h*12+1,none⟩=some (.int .i64 x.1.1.1.1.n):=fun k=>k.cell p1;have P2:∀k:BW wr,k.val.cell? ⟨g,h*12+2,none⟩=some (.string x.1.1.1.1.t):=fun k=>k.cell p2;have P3:∀k:BW wr,k.val.cell? ⟨g,h*12+3,none⟩=some (.slice x.1.1.1.1.LA x.1.1.1.1.ln x.1.1.1.1.lc):=fun k=>k.cell p3;have P4:∀k:BW wr,k.val.cell? ⟨g,h*12+4,none⟩=some (.slice x.1.1.1.1.DA x.1.1.1.1.dn x.1.1.1.1.dc):=fun k=>k.cell p4;have P5:∀k:BW wr,k.val.cell? ⟨g,h*12+5,none⟩=some (.bool x.1.1.2):=fun k=>k.cell p5;have P6:∀k:BW wr,k.val.cell? ⟨g,h*12+6,none⟩=some (.int .i64 x.1.2.1.1.k):=fun k=>k.cell p6
    have P7:∀k:BW wr,k.val.cell? ⟨g,h*12+7,none⟩=some (.int .i64 x.1.2.1.1.n):=fun k=>k.cell p7;have P8:∀k:BW wr,k.val.cell? ⟨g,h*12+8,none⟩=some (.string x.1.2.1.1.t):=fun k=>k.cell p8;have P9:∀k:BW wr,k.val.cell? ⟨g,h*12+9,none⟩=some (.slice x.1.2.1.1.LA x.1.2.1.1.ln x.1.2.1.1.lc):=fun k=>k.cell p9;have P10:∀k:BW wr,k.val.cell? ⟨g,h*12+10,none⟩=some (.slice x.1.2.1.1.DA x.1.2.1.1.dn x.1.2.1.1.dc):=fun k=>k.cell p10;have P11:∀k:BW wr,k.val.cell? ⟨g,h*12+11,none⟩=some (.bool x.1.2.2):=fun k=>k.cell p11;have R0:∀k:BW wr,k.val.cell? ⟨g,(p-h)*12,none⟩=some (.int .i64 y.1.1.1.1.k):=fun k=>k.cell r0;have R1:∀k:BW wr,k.val.cell? ⟨g,(p-h)*12+1,none⟩=some (.int .i64 y.1.1.1.1.n):=fun k=>k.cell r1;have R2:∀k:BW wr,k.val.cell? ⟨g,(p-h)*12+2,none⟩=some (.string y.1.1.1.1.t):=fun k=>k.cell r2;have R3:∀k:BW wr,k.val.cell? ⟨g,(p-h)*12+3,none⟩=some (.slice y.1.1.1.1.LA y.1.1.1.1.ln y.1.1.1.1.lc):=fun k=>k.cell r3;have R4:∀k:BW wr,k.val.cell? ⟨g,(p-h)*12+4,none⟩=some (.slice y.1.1.1.1.DA y.1.1.1.1.dn y.1.1.1.1.dc):=fun k=>k.cell r4;have R5:∀k:BW wr,k.val.cell? ⟨g,(p-h)*12+5,none⟩=some (.bool y.1.1.2):=fun k=>k.cell r5;have R6:∀k:BW wr,k.val.cell? ⟨g,(p-h)*12+6,none⟩=some (.int .i64 y.1.2.1.1.k):=fun k=>k.cell r6;have R7:∀k:BW wr,k.val.cell? ⟨g,(p-h)*12+7,none⟩=some (.int .i64 y.1.2.1.1.n):=fun k=>k.cell r7;have R8:∀k:BW wr,k.val.cell? ⟨g,(p-h)*12+8,none⟩=some (.string y.1.2.1.1.t):=fun k=>k.cell r8
    have R9:∀k:BW wr,k.val.cell? ⟨g,(p-h)*12+9,none⟩=some (.slice y.1.2.1.1.LA y.1.2.1.1.ln y.1.2.1.1.lc):=fun k=>k.cell r9;have R10:∀k:BW wr,k.val.cell? ⟨g,(p-h)*12+10,none⟩=some (.slice y.1.2.1.1.DA y.1.2.1.1.dn y.1.2.1.1.dc):=fun k=>k.cell r10;have R11:∀k:BW wr,k.val.cell? ⟨g,(p-h)*12+11,none⟩=some (.bool y.1.2.2):=fun k=>k.cell r11;have i0:(0:Int)<=(h:Int):=by omega
    have i1:(h:Int)<(n:Int):=by omega
    have i2:(0:Int)<=(p:Int)-(h:Int):=by omega
    have i3:(p:Int)-(h:Int)<(n:Int):=by omega
    have K1:Hid (∀k:BW wr,Calls prog 190 #[lM y,lM x] k.val fun e w''=>e=.returned (.int .i64 (aZ (ai y.1).1 (ai x.1).1))/\∃k:BW wr,w''=k.val):=fun k=>
     Calls.bw (HH.out.cmp y x (by simp[hyY]) (by simp[hxX]) k.val (I.but.step k.below))
    have HX:=qD hx;have HY:=qD hy;clear p0 p1 p2 p3 p4 p5 p6 p7 p8 p9 p10 p11 r0 r1 r2 r3 r4 r5 r6 r7 r8 r9 r10 r11 hx hy hxX hyY I;refine aM (by as_aux_lemma=>kernel_rfl) (by as_aux_lemma=>kernel_rfl) ?_
    repeat(go_big_quiet_step (with_reducible exact K1.out _))
    refine Kd ?_;rintro _ ⟨kw,rfl⟩;have J2:=qD (J.out.step kw.below);clear P0 P1 P2 P3 P4 P5 P6 P7 P8 P9 P10 P11 R0 R1 R2 R3 R4 R5 R6 R7 R8 R9 R10 R11 K1 i0 i1 i2 i3;generalize kw.val=w2 at*;by_cases hc:aZ (ai y.1).1 (ai x.1).1<0
    ·have HHi2:Hid (Gx (A++X++Y++D) r0 (p+1) h):=.inr ⟨x,y,HX.out,HY.out,hc⟩;have d4:(!decide (aZ (ai y.1).1 (ai x.1).1<0))=false:=by rw[Jy hc];rfl
     go_wp2_with fail
     all_goals first|(rename_i e;rw[d4] at e;contradiction)|skip
     go_roundw
     ·exact⟨i,h,rfl,rfl,hmi,h1,by omega,HLo.out,HHi2.out,J2.out⟩
     ·simp[intOf];omega
    ·have HLo2:Hid (Gw (A++X++Y++D) s0 (p+1) (h+1)):=.inr ⟨x,y,HX.out,by rw[Nat.add_sub_add_right];exact HY.out,hc⟩;have d4:(!decide (aZ (ai y.1).1 (ai x.1).1<0))=true:=by rw[KQ hc];rfl
     go_wp2_with fail
     all_goals first|(rename_i e;rw[d4] at e;contradiction)|skip
     go_roundw
     ·exact⟨h+1,j,by go_num,rfl,by omega,by omega,hjb,HLo2.out,HHi.out,J2.out⟩
     ·simp[intOf];omega
   ·obtain rfl:i=j:=by omega
    obtain⟨X1,X2,Y1,Y2,hXX,hYY,l1,l2,l3,l4,h12,h21⟩:=Ai (D:=D) HO.out HA.out HM.out HB.out HH.out.hX HH.out.hY HH.out.hT hmi hjb HMid.out HC.out (by rw[HP.out];exact HLo.out) (by rw[HP.out];exact HHi.out)
    have HS:Hid (∀S1 S2,ah (fun p q:PS=>aZ (ai p).1 (ai q).1) (X1++Y1) S1->ah (fun p q:PS=>aZ (ai p).1 (ai q).1) (X2++Y2) S2->ah (fun p q:PS=>aZ (ai p).1 (ai q).1) (X++Y) (S1++S2)):=fun S1 S2 q1 q2=>by
     have hp:=HH.out.hX;have hq:=HH.out.hY;rw[hXX] at hp ⊢;rw[hYY] at hq ⊢;exact tU hp hq h12 h21 q1 q2
    have HH2:Hid (ea A (X1++X2) (Y1++Y2) D g n w):=by have:=HH.out;rw[hXX,hYY] at this;exact this
    have HJ:Hid (dK g w (A++X1++X2++Y1++Y2++D) wr):=by have:=J.out;rw[hXX,hYY] at this;rw[Hid];simpa using this
    have HL1:=qD l1;have HL2:=qD l2;have HL3:=qD l3;have HL4:=qD l4;have hsum:mid-a<X.length+Y.length:=by have:=HM.out;have:=HB.out;omega
    have hsum2:b-mid<X.length+Y.length:=by have:=HM.out;have:=HB.out;omega
    clear hXX hYY l1 l2 l3 l4 h12 h21 I J HLo HHi;go_upto_region 39 with fail
    obtain⟨en,hen⟩:∃en:Nat,(p:Int)+1-(i:Int)=(en:Int):=⟨p+1-i,by omega⟩;have HEn:Hid (en+i=mid+m):=by unfold Hid;have:=HP.out;omega
    have hen1:en<=b:=by omega
    rw[hen];clear hen
    go_cut [185] (fun s wx=>s=.bool (decide (i<m/\m<en))/\wr=wx)
    case first=>as_aux_lemma=>
     by_cases e1:i<m<;>by_cases e2:m<en
     all_goals
      go_wp2_with fail;go_meet;exact⟨congrArg Value.bool (by simp[e1,e2]),rfl⟩
    case rest=>
     obtain⟨rfl,rfl⟩:=hcut
     go_upto_if 185 with fail
     go_cut [] (fun wx=>dK g w (A++X1++Y1++X2++Y2++D) wx)
     case first=>as_aux_lemma=>
      by_cases e:i<m/\m<en
      ·have d:decide (i<m/\m<en)=true:=Jy e;rw[d];clear d;go_wp2_with fail;refine(tT (A++X1) X2 Y1 (Y2++D) g n c i m en _ _ _ _ _ (by have:=HJ.out.row;simpa using this) (by rw[HH2.out.ln];simp) (by have:=HA.out;have:=HL1.out;simp;omega) (by have:=HA.out;have:=HL1.out;have:=HL2.out;simp;omega) (by have:=HA.out;have:=HL1.out;have:=HL2.out;have:=HL3.out;have:=HEn.out;simp;omega) (by have:=HL2.out;omega) (by have:=HL3.out;have:=HEn.out;omega) rfl rfl rfl HH2.out.sz).mono ?_;rintro e w1 ⟨rfl,h1⟩;have H1:=qD (HJ.out.then h1);clear h1;go_wp2_with fail;go_meet;have:=H1.out;simpa using this
      ·have d:decide (i<m/\m<en)=false:=KQ e;rw[d];clear d;go_wp2_with fail;go_meet;have h1:=HJ.out
       have q:X2=[]\/Y1=[]:=by
        by_cases e1:i<m
        ·exact .inr (KN (by have:=HL3.out;have:=HEn.out;omega))
        ·exact .inl (KN (by have:=HL2.out;omega))
       rcases q with q|q
       ·rw[q] at h1 ⊢;simpa using h1
       ·rw[q] at h1 ⊢;simpa using h1
     case rest=>
      have HJ2:=qD hcut;clear hcut;go_upto_region 41 with fail
      go_cut [199] (fun s wx=>s=.bool (decide (a<i/\i<mid))/\wc=wx)
      case first=>as_aux_lemma=>
       by_cases e1:a<i<;>by_cases e2:i<mid
       all_goals
        go_wp2_with fail;go_meet;exact⟨congrArg Value.bool (by simp[e1,e2]),rfl⟩
      case rest=>
       obtain⟨rfl,rfl⟩:=hcut
       go_upto_if 199 with fail
       go_cut [] (fun wx=>∃S1,ah (fun p q:PS=>aZ (ai p).1 (ai q).1) (X1++Y1) S1/\dK g w (A++S1++(X2++Y2++D)) wx)
       case first=>as_aux_lemma=>
        by_cases e:a<i/\i<mid
        ·have d:decide (a<i/\i<mid)=true:=Jy e;rw[d];clear d;go_wp2_with fail;refine(HI.out A X1 Y1 (X2++Y2++D) g n c a i mid _ _ _ _ (zB HH2.out HJ2.out) HA.out (by have:=HL1.out;omega) (by have:=HL3.out;omega) (by have:=HL1.out;omega) (by have:=HL3.out;omega) (by have:=HL1.out;have:=HL3.out;omega) rfl rfl rfl).mono ?_;rintro e w1 ⟨rfl,S1,h1,h2⟩;have H1:=qD h1;have H2:=qD (HJ2.out.then h2);clear h1 h2;go_wp2_with fail;go_meet;exact⟨S1,H1.out,H2.out⟩
        ·have d:decide (a<i/\i<mid)=false:=KQ e;rw[d];clear d;go_wp2_with fail;go_meet;have hh:=zB HH2.out HJ2.out;refine⟨X1++Y1,oK ?_,by have:=HJ2.out;simpa using this⟩
         have q:X1=[]\/Y1=[]:=by
          by_cases e1:a<i
          ·exact .inr (KN (by have:=HL3.out;omega))
          ·exact .inl (KN (by have:=HL1.out;omega))
         rcases q with q|q
         ·rw[q];simpa using hh.hY
         ·rw[q];simpa using hh.hX
       case rest=>
        obtain⟨S1,hS1,I⟩:=hcut;have HS1:=qD hS1;have HJ3:=qD I;have HLS:Hid (S1.length=X1.length+Y1.length):=by rw[Hid,hS1.1.length_eq];simp
        clear hS1 I;go_upto_region 43 with fail
        go_cut [213] (fun s wx=>s=.bool (decide (mid<en/\en<b))/\wc=wx)
        case first=>as_aux_lemma=>
         by_cases e1:mid<en<;>by_cases e2:en<b
         all_goals
          go_wp2_with fail;go_meet;exact⟨congrArg Value.bool (by simp[e1,e2]),rfl⟩
        case rest=>
         obtain⟨rfl,rfl⟩:=hcut;by_cases e:mid<en/\en<b
         ·as_aux_lemma=>
          have d:decide (mid<en/\en<b)=true:=Jy e;rw[d];clear d;go_wp2_with fail;refine(HI.out (A++S1) X2 Y2 D g n c mid en b _ _ _ _ (zC HH2.out HLS.out HJ3.out) (by have:=HA.out;have:=HLS.out;have:=HL1.out;have:=HL3.out;simp;omega) (by have:=HL2.out;have:=HEn.out;omega) (by have:=HL4.out;have:=HEn.out;omega) (by have:=HL2.out;have:=HEn.out;omega) (by have:=HL4.out;have:=HEn.out;omega) (by have:=HL2.out;have:=HL4.out;have:=HEn.out;omega) rfl rfl rfl).mono ?_;rintro e w1 ⟨rfl,S2,h1,h2⟩;have H1:=qD h1;have H2:=qD (HJ3.out.then h2);clear h1 h2;go_wp2_with fail
          go_end0
          exact⟨rfl,S1++S2,HS.out S1 S2 HS1.out H1.out,by have:=H2.out;simpa using this⟩
         ·as_aux_lemma=>
          have d:decide (mid<en/\en<b)=false:=KQ e;rw[d];clear d;go_wp2_with fail
          go_end0
          have hh:=zC HH2.out HLS.out HJ3.out;refine⟨rfl,S1++(X2++Y2),HS.out S1 _ HS1.out (oK ?_),by have:=HJ3.out;simpa using this⟩
          have q:X2=[]\/Y2=[]:=by
           by_cases e1:mid<en
           ·exact .inr (KN (by have:=HL4.out;have:=HEn.out;omega))
           ·exact .inl (KN (by have:=HL2.out;have:=HEn.out;omega))
          rcases q with q|q
          ·rw[q];simpa using hh.hY
          ·rw[q];simpa using hh.hX
theorem sD(H:db (fun p q:PS=>aZ (ai p).1 (ai q).1))(N:Nat):zD N:=by
 induction N with
 | zero=>exact fun A X Y D g n c a m b aI mI bI w h ha hm hb h1 h2 h3=>absurd h3 (by omega)
 | succ N ih=>
  intro A X Y D g n c a m b aI mI bI w h ha hm hb h1 h2 h3 haI hmI hbI;by_cases e1:X.length=1
  ·obtain⟨x,rfl⟩:=MH.1 e1;exact GH H A x Y D g n c a m b aI mI bI w h ha (by simpa using hm) hb haI hmI hbI
  ·by_cases e2:Y.length=1
   ·obtain⟨y,rfl⟩:=MH.1 e2;exact GI H A X y D g n c a m b aI mI bI w h ha hm (by simpa using hb) (by omega) haI hmI hbI
   ·exact GJ H A X Y D g n c a m b aI mI bI w h ha hm hb (by omega) (by omega) (fun A' X' Y' D' g' n' c' a' m' b' aI' mI' bI' w' q1 q2 q3 q4 q5 q6 q7 q8 q9 q10=>ih A' X' Y' D' g' n' c' a' m' b' aI' mI' bI' w' q1 q2 q3 q4 q5 q6 (by omega) q8 q9 q10) haI hmI hbI
section
variable {α:Type}
def blk(bs q:Nat)(L:List α):List α:=(L.drop (q*bs)).take bs
theorem jX{A T:List α}{bs q:Nat}(h:q*bs+bs<=A.length):blk bs q (A++T)=blk bs q A:=by
 unfold blk;rw[List.drop_append_of_le_length (by omega),Mn (by rw[NG];omega)]
theorem eM{A T:List α}{bs q k:Nat}(hA:A.length=k*bs)(h:k<=q):blk bs q (A++T)=blk bs (q-k) T:=by
 unfold blk;have e:q*bs=A.length+(q-k)*bs:=by rw[hA,<-Lk,Nat.add_sub_cancel' h]
 rw[e,Mu]
theorem ed{S T:List α}{bs:Nat}(h:S.length=bs\/(S.length<=bs/\T=[])):blk bs 0 (S++T)=S:=by
 unfold blk;rcases h with h|⟨h,rfl⟩
 ·subst h;simp
 ·simp[KL h]
variable {cm:α->α->Int}
theorem sE{A0 A Seg S:List (α×Nat)}{bs k:Nat}(hA0:A0.length=k*bs)(hA:A.length=k*bs)(h:∀q,q<k->ah cm (blk bs q A0) (blk bs q A))(hl:Seg.length=bs)(hS:ah cm Seg S):
 ∀q,q<k+1->ah cm (blk bs q (A0++Seg)) (blk bs q (A++S)):=fun q hq=>by
 by_cases e:q=k
 ·subst e;have hl2:S.length=bs:=by rw[<-hl];exact hS.1.length_eq
  have e1:blk bs 0 (Seg++[])=Seg:=ed (.inl hl);have e2:blk bs 0 (S++[])=S:=ed (.inl hl2);rw[LQ] at e1 e2;rw[eM hA0 (qL),eM hA (qL),Nf,e1,e2];exact hS
 ·have hk:(q+1)*bs<=k*bs:=Ki _ (by omega);rw[Ol] at hk;rw[jX (by omega),jX (by omega)];exact h q (by omega)
theorem nV{A0 A Seg S:List (α×Nat)}{bs k:Nat}(hA0:A0.length=k*bs)(hA:A.length=k*bs)(h:∀q,q<k->ah cm (blk bs q A0) (blk bs q A))(hl:Seg.length<=bs)(hS:ah cm Seg S):
 ∀q,ah cm (blk bs q (A0++Seg)) (blk bs q (A++S)):=fun q=>by
 have hl2:S.length<=bs:=by rw[hS.1.length_eq];exact hl
 by_cases e:q<k
 ·have hk:(q+1)*bs<=k*bs:=Ki _ (by omega);rw[Ol] at hk;rw[jX (by omega),jX (by omega)];exact h q e
 ·rw[eM hA0 (by omega),eM hA (by omega)];by_cases e0:q=k
  ·subst e0;have e1:blk bs 0 (Seg++[])=Seg:=ed (.inr ⟨hl,rfl⟩);have e2:blk bs 0 (S++[])=S:=ed (.inr ⟨hl2,rfl⟩);rw[LQ] at e1 e2;rw[Nf,e1,e2];exact hS
  ·have hk:1*bs<=(q-k)*bs:=Ki _ (by omega);unfold blk;rw[Nl (by omega),Nl (by omega),List.take_nil];exact⟨List.Perm.refl _,List.Pairwise.nil⟩
theorem Aj{X0 Y0 D0 X Y D:List (α×Nat)}{bs:Nat}(h1:X0.length=bs)(h2:Y0.length=bs\/(Y0.length<=bs/\D0=[]))(h3:X.length=bs)(h4:Y.length=bs\/(Y.length<=bs/\D=[]))(h:∀q,ah cm (blk bs q (X0++(Y0++D0))) (blk bs q (X++(Y++D)))):
 ah cm X0 X/\ah cm Y0 Y:=by
 refine⟨?_,?_⟩
 ·have:=h 0
  rwa [ed (.inl h1),ed (.inl h3)] at this
 ·have:=h 1
  rwa [eM (k:=1) (by omega) (qL),eM (k:=1) (by omega) (qL),Nf,ed h2,ed h4] at this
theorem Ak{Z0 D0 Z D:List (α×Nat)}{bs:Nat}(h1:Z0.length=2*bs)(h3:Z.length=2*bs)(h:∀q,ah cm (blk bs q (Z0++D0)) (blk bs q (Z++D)))(q:Nat):ah cm (blk bs q D0) (blk bs q D):=by
 have:=h (q+2)
 rwa [eM (k:=2) h1 (by omega),eM (k:=2) h3 (by omega),Nat.add_sub_cancel] at this
theorem vY{L0 L:List (α×Nat)}{bs:Nat}(hl:L0.length<=bs)(hl2:L.length<=bs)(h:∀q,ah cm (blk bs q L0) (blk bs q L)):ah cm L0 L:=by
 have:=h 0;have e1:blk bs 0 (L0++[])=L0:=ed (.inr ⟨hl,rfl⟩);have e2:blk bs 0 (L++[])=L:=ed (.inr ⟨hl2,rfl⟩);rw[LQ] at e1 e2
 rwa [e1,e2] at this
end
end
end Go.Proofs.YtgfoliedmhgpnaaGreatDoor
