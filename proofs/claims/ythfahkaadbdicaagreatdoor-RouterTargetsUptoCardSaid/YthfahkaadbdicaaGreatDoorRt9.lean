/- Parts of the proof, joined: SortGSp, SortTP, SortTSp, IvSpans, IvMerged, IvMergedWalk, ValOpen. -/
import Derived.Test.YthfahkaadbdicaaGreatDoorRt1
import Derived.Test.YthfahkaadbdicaaGreatDoorRt8
import Derived.Test.YthfahkaadbdicaaGreatDoorRt6
import Derived.Test.YthfahkaadbdicaaGreatDoorRt5
import Derived.Test.YthfahkaadbdicaaGreatDoorRt2
import Derived.Laws.OwnMore
import Derived.Lib.SmallJoins
import Derived.ProofKit
import Derived.OpenShut
import Derived.Deep.Slices
set_option maxRecDepth 100000
set_option maxHeartbeats 16000000
set_option linter.unusedSimpArgs false
open Go.Proofs.Tryz
open ByteArray (empty)
namespace Go.Proofs.YthfahkaadbdicaaGreatDoor
open Go.RowKit
section
variable {α:Type} {cm:α->α->Int}
theorem Ac(H:cL cm){l:List (α×Nat)}(h:l.Pairwise (RT cm)){i j:Nat}{x y:α×Nat}(hij:i<=j)(hx:l[i]?=some x)(hy:l[j]?=some y):cm x.1 y.1<=0:=by
 by_cases e:i=j
 ·subst e;rw[hx] at hy;cases hy;have:=H.anti x.1 x.1;omega
 ·exact RT.le (mx h (by omega) hx hy)
theorem nB{X1 X2 Y1 Y2 S1 S2:List (α×Nat)}(hX:(X1++X2).Pairwise (RT cm))(hY:(Y1++Y2).Pairwise (RT cm))(h12:∀x∈X1,∀y∈Y2,RT cm x y)(h21:∀y∈Y1,∀x∈X2,RT cm y x)(h1:aR cm (X1++Y1) S1)(h2:aR cm (X2++Y2) S2):aR cm ((X1++X2)++(Y1++Y2)) (S1++S2):=by
 refine⟨(h1.1.append h2.1).trans ?_,Le.2 ⟨h1.2,h2.2,fun u hu v hv=>?_⟩⟩
 ·rw[Ld,Ld];refine List.Perm.append_left X1 ?_;rw[<-Ld,<-Ld];exact List.Perm.append_right Y2 List.perm_append_comm
 ·rcases LY.1 (h1.1.mem_iff.1 hu) with hu|hu<;>rcases LY.1 (h2.1.mem_iff.1 hv) with hv|hv
  ·exact(Le.1 hX).2.2 u hu v hv
  ·exact h12 u hu v hv
  ·exact h21 u hu v hv
  ·exact(Le.1 hY).2.2 u hu v hv
theorem JF{A X Y D:List (α×Nat)}{i:Nat}(h1:A.length<=i)(h2:i<A.length+X.length):(A++X++Y++D)[i]?=X[i-A.length]?:=by
 rw[Ld,Ld,Lh h1,MG (by omega)]
theorem JH{A X Y D:List (α×Nat)}{i:Nat}(h1:A.length+X.length<=i)(h2:i<A.length+X.length+Y.length):(A++X++Y++D)[i]?=Y[i-(A.length+X.length)]?:=by
 rw[Ld,Lh (by simp;omega),MG (by simp;omega)];simp
theorem su(H:cL cm){A X Y D:List (α×Nat)}{a m b mid s0 r0 t:Nat}(ha:a=A.length)(hm:m=a+X.length)(hb:b=m+Y.length)(hX:X.Pairwise (RT cm))(hY:Y.Pairwise (RT cm))(hT:∀x∈X,∀y∈Y,x.2<y.2)(hs:s0<=t)(hr:t<=r0)(hmid:mid=(a+b)/2)(hc:(mid<m/\s0=mid+m-b/\r0=mid)\/(m<=mid/\s0=a/\r0=m))(lo:t=s0\/∃x y,(A++X++Y++D)[t-1]?=some x/\(A++X++Y++D)[mid+m-t]?=some y/\¬cm y.1 x.1<0)(hi:t=r0\/∃x y,(A++X++Y++D)[t]?=some x/\(A++X++Y++D)[mid+m-1-t]?=some y/\cm y.1 x.1<0):
 ∃X1 X2 Y1 Y2,X=X1++X2/\Y=Y1++Y2/\X1.length=t-a/\X2.length=m-t/\Y1.length=mid-t/\Y2.length=b+t-(mid+m)/\(∀x∈X1,∀y∈Y2,RT cm x y)/\(∀y∈Y1,∀x∈X2,RT cm y x):=by
 have HLo:=qD lo;have HHi:=qD hi;clear lo hi;have l1:(X.take (t-a)).length=t-a:=by rw[Lx];omega
 have l2:(X.drop (t-a)).length=m-t:=by rw[Nz];omega
 have l3:(Y.take (mid-t)).length=mid-t:=by rw[Lx];omega
 have l4:(Y.drop (mid-t)).length=b+t-(mid+m):=by rw[Nz];omega
 refine⟨_,_,_,_,(Lf (t-a) X).symm,(Lf (mid-t) Y).symm,l1,l2,l3,l4,fun x hx y hy=>?_,fun y hy x hx=>?_⟩
 ·obtain⟨k,hk⟩:=MK hx;obtain⟨k',hk'⟩:=MK hy;have q1:=(LJ.1 hk).1;have q2:=(LJ.1 hk').1;rw[Nx (by omega)] at hk;rw[Nr] at hk';have ht:=hT x (LP hk) y (LP hk');rcases HLo.out with lo|⟨x0,y0,e1,e2,e3⟩
  ·omega
  ·rw[JF (by omega) (by omega)] at e1;rw[JH (by omega) (by omega)] at e2;have r1:=Ac H hX (by omega) hk e1;have r2:=Ac H hY (by omega) e2 hk';have r3:=H.anti y0.1 x0.1;have r4:=jS H r1 (show cm x0.1 y0.1<=0 by omega);have r5:=jS H r4 r2;unfold RT;omega
 ·obtain⟨k,hk⟩:=MK hx;obtain⟨k',hk'⟩:=MK hy;have q1:=(LJ.1 hk).1;have q2:=(LJ.1 hk').1;rw[Nr] at hk;rw[Nx (by omega)] at hk';rcases HHi.out with hi|⟨x0,y0,e1,e2,e3⟩
  ·omega
  ·rw[JF (by omega) (by omega)] at e1;rw[JH (by omega) (by omega)] at e2;have r1:=Ac H hX (by omega) e1 hk;have r2:=Ac H hY (by omega) hk' e2;exact .inl (qb H (qa H r2 e3) r1)
end
theorem it.less{g:Nat}{w w1:World}{U U':List (PS×Nat)}(h:it g w U)(hb:ey g w w1)(hs:∀x∈U',x∈U):it g w1 U':=fun x y hx hy wr hr=>h x y (hs x hx) (hs y hy) wr (hb.trans hr)
theorem Ad{A X1 X2 Y1 Y2 D:List (PS×Nat)}{g n:Nat}{w w1:World}(h:fF A (X1++X2) (Y1++Y2) D g n w)(I:dM g w (A++X1++Y1++X2++Y2++D) w1):fF A X1 Y1 (X2++Y2++D) g n w1:=
 ⟨by have:=I.row;simpa using this,by rw[h.ln];simp;omega,h.sz,(Le.1 h.hX).1,(Le.1 h.hY).1,fun x hx y hy=>h.hT x (by simp[hx]) y (by simp[hy]),h.cmp.less I.but (fun x hx=>by rcases LY.1 hx with hx|hx<;>simp[hx])⟩
theorem Ae{A X1 X2 Y1 Y2 D S1:List (PS×Nat)}{g n:Nat}{w w1:World}(h:fF A (X1++X2) (Y1++Y2) D g n w)(hl:S1.length=X1.length+Y1.length)(I:dM g w (A++S1++(X2++Y2++D)) w1):fF (A++S1) X2 Y2 D g n w1:=
 ⟨by have:=I.row;simpa using this,by rw[h.ln];simp;omega,h.sz,(Le.1 h.hX).2.1,(Le.1 h.hY).2.1,fun x hx y hy=>h.hT x (by simp[hx]) y (by simp[hy]),h.cmp.less I.but (fun x hx=>by rcases LY.1 hx with hx|hx<;>simp[hx])⟩
theorem iu{α:Type}{cm:α->α->Int}{l:List (α×Nat)}(h:l.Pairwise (RT cm)):aR cm l l:=⟨List.Perm.refl _,h⟩
def Af(N:Nat):Prop:=∀(A X Y D:List (PS×Nat)) (g n c a m b:Nat) (aI mI bI:Int) (w:World),fF A X Y D g n w->a=A.length->m=a+X.length->b=m+Y.length->1<=X.length->1<=Y.length->X.length+Y.length<N->aI=a->mI=m->bI=b->
 Calls prog 267 #[.slice (some ⟨g,0,none⟩) n c,.int .i64 aI,.int .i64 mI,.int .i64 bI,.func (.func 203) #[] #[]] w (my g w A X Y D)
def Iw(L:List (PS×Nat))(s0 nn t:Nat):Prop:=t=s0\/∃x y,L[t-1]?=some x/\L[nn-t]?=some y/\¬ae (al y.1).1 (al x.1).1<0
def Ix(L:List (PS×Nat))(r0 nn t:Nat):Prop:=t=r0\/∃x y,L[t]?=some x/\L[nn-1-t]?=some y/\ae (al y.1).1 (al x.1).1<0
theorem Hv(H:cL (fun p q:PS=>ae (al p).1 (al q).1))(A X Y D:List (PS×Nat))(g n c a m b:Nat)(aI mI bI:Int)(w:World)(h:fF A X Y D g n w)(ha:a=A.length)(hm:m=a+X.length)(hb:b=m+Y.length)(hX2:2<=X.length)(hY2:2<=Y.length)(ih:Af (X.length+Y.length))(haI:aI=a)(hmI:mI=m)(hbI:bI=b):
 Calls prog 267 #[.slice (some ⟨g,0,none⟩) n c,.int .i64 aI,.int .i64 mI,.int .i64 bI,.func (.func 203) #[] #[]] w (my g w A X Y D):=by
 subst haI hmI hbI;have hz:=h.sz;unfold aF at hz;have hbn:b<=n:=by have:=h.ln;simp at this;omega
 have ham:((m:Int)-(a:Int)==1)=false:=by simp;omega
 have hbm:((b:Int)-(m:Int)==1)=false:=by simp;omega
 have HA:=qD ha;have HM:=qD hm;have HB:=qD hb;have hm1:a+2<=m:=by omega
 have hmb:m+2<=b:=by omega
 have HH:=qD h;have HO:=qD H;have HI:=qD ih;have I0:Hid (dM g w (A++X++Y++D) w):=qD ⟨h.row,ey.refl⟩;clear h ha hm hb H ih hX2 hY2;go_enter func267,ntmps267;go_upto_region 25 with fail
 obtain⟨mid,hh⟩:∃mid:Nat,((a:Int)+(b:Int))/2=(mid:Int):=⟨(a+b)/2,by omega⟩;rw[hh];have HMid:Hid (mid=(a+b)/2):=by unfold Hid;omega
 have hmid1:a<mid:=by omega
 have hmid2:mid<b:=by omega
 have hmid3:2*mid<=a+b:=by omega
 have hmid4:a+b<=2*mid+1:=by omega
 clear hh
 obtain⟨s0,r0,hc⟩:∃s0 r0:Nat,(mid<m/\s0=mid+m-b/\r0=mid)\/(m<=mid/\s0=a/\r0=m):=by
  by_cases e:mid<m
  ·exact⟨_,_,.inl ⟨e,rfl,rfl⟩⟩
  ·exact⟨_,_,.inr ⟨by omega,rfl,rfl⟩⟩
 have HC:=qD hc;have hs1:a<=s0:=by omega
 have hs2:s0<=r0:=by omega
 have hr1:r0<=m:=by omega
 have hr2:r0<=mid:=by omega
 have hs3:mid+m<=b+s0:=by omega
 clear hc;go_upto_region 26 with fail
 obtain⟨p,hp⟩:∃p:Nat,mid+m=p+1:=⟨mid+m-1,by omega⟩;have HP:=qD hp;have hp1:p+1<=b+s0:=by omega
 have hp2:m+r0<=p+1:=by omega
 rw[show(mid:Int)+(m:Int)=(p:Int)+1 by omega];clear hp
 go_upto_if 140 with fail
 go_cut [20,21] (fun s20 s21 wx=>s20=.int .i64 s0/\s21=.int .i64 r0/\w=wx)
 case first=>as_aux_lemma=>
  rcases HC.out with⟨q1,q2,q3⟩|⟨q1,q2,q3⟩
  all_goals
   have Q2:=qD q2;have Q3:=qD q3;clear q2 q3;go_wp2_with fail;go_meet;exact⟨congrArg (Value.int .i64) (by have:=Q2.out;have:=HP.out;omega),congrArg (Value.int .i64) (by have:=Q3.out;omega),rfl⟩
 case rest=>
  obtain⟨rfl,rfl,rfl⟩:=hcut;go_wp2_with fail
  go_loopw [20,21] (fun v20 v21 wr=>∃(i j:Nat),v20=.int .i64 i/\v21=.int .i64 j/\s0<=i/\i<=j/\j<=r0/\Iw (A++X++Y++D) s0 (p+1) i/\Ix (A++X++Y++D) r0 (p+1) j/\dM g w (A++X++Y++D) wr) (fun v20 v21 _=>(intOf v21).toNat-(intOf v20).toNat)
  ·exact⟨s0,r0,rfl,rfl,qL,hs2,qL,.inl rfl,.inl rfl,I0.out⟩
  case round=>
   obtain⟨i,j,rfl,rfl,hmi,hij,hjb,hlo,hhi,I⟩:=hrel;have HLo:=qD hlo;have HHi:=qD hhi;have J:=qD I;clear hlo hhi;by_cases hlt:i<j
   ·as_aux_lemma=>
    go_upto_region 35 with fail
    obtain⟨h,hh⟩:∃h:Nat,((i:Int)+(j:Int))/2=(h:Int):=⟨(i+j)/2,by omega⟩;rw[hh];have h1:i<=h:=by omega
    have h2:h<j:=by omega
    clear hh
    obtain⟨x,hx,hxX⟩:∃x,(A++X++Y++D)[h]?=some x/\x∈X:=by
     have hA:=HA.out;have hM:=HM.out;rw[JF (by omega) (by omega)];exact⟨_,LI (by omega),Mz _⟩
    obtain⟨y,hy,hyY⟩:∃y,(A++X++Y++D)[p-h]?=some y/\y∈Y:=by
     have hA:=HA.out;have hM:=HM.out;have hB:=HB.out;rw[JH (by omega) (by omega)];exact⟨_,LI (by omega),Mz _⟩
    have p0:wr.cell? ⟨g,h*12,none⟩=some (.int .i64 x.1.1.1.1.k):=I.row.cell hx 0 _ rfl;have p1:wr.cell? ⟨g,h*12+1,none⟩=some (.int .i64 x.1.1.1.1.n):=I.row.cell hx 1 _ rfl;have p2:wr.cell? ⟨g,h*12+2,none⟩=some (.string x.1.1.1.1.t):=I.row.cell hx 2 _ rfl;have p3:wr.cell? ⟨g,h*12+3,none⟩=some (.slice x.1.1.1.1.LA x.1.1.1.1.ln x.1.1.1.1.lc):=I.row.cell hx 3 _ rfl;have p4:wr.cell? ⟨g,h*12+4,none⟩=some (.slice x.1.1.1.1.DA x.1.1.1.1.dn x.1.1.1.1.dc):=I.row.cell hx 4 _ rfl;have p5:wr.cell? ⟨g,h*12+5,none⟩=some (.bool x.1.1.2):=I.row.cell hx 5 _ rfl;have p6:wr.cell? ⟨g,h*12+6,none⟩=some (.int .i64 x.1.2.1.1.k):=I.row.cell hx 6 _ rfl;have p7:wr.cell? ⟨g,h*12+7,none⟩=some (.int .i64 x.1.2.1.1.n):=I.row.cell hx 7 _ rfl;have p8:wr.cell? ⟨g,h*12+8,none⟩=some (.string x.1.2.1.1.t):=I.row.cell hx 8 _ rfl;have p9:wr.cell? ⟨g,h*12+9,none⟩=some (.slice x.1.2.1.1.LA x.1.2.1.1.ln x.1.2.1.1.lc):=I.row.cell hx 9 _ rfl;have p10:wr.cell? ⟨g,h*12+10,none⟩=some (.slice x.1.2.1.1.DA x.1.2.1.1.dn x.1.2.1.1.dc):=I.row.cell hx 10 _ rfl;have p11:wr.cell? ⟨g,h*12+11,none⟩=some (.bool x.1.2.2):=I.row.cell hx 11 _ rfl;have r0:wr.cell? ⟨g,(p-h)*12,none⟩=some (.int .i64 y.1.1.1.1.k):=I.row.cell hy 0 _ rfl;have r1:wr.cell? ⟨g,(p-h)*12+1,none⟩=some (.int .i64 y.1.1.1.1.n):=I.row.cell hy 1 _ rfl;have r2:wr.cell? ⟨g,(p-h)*12+2,none⟩=some (.string y.1.1.1.1.t):=I.row.cell hy 2 _ rfl;have r3:wr.cell? ⟨g,(p-h)*12+3,none⟩=some (.slice y.1.1.1.1.LA y.1.1.1.1.ln y.1.1.1.1.lc):=I.row.cell hy 3 _ rfl
    have r4:wr.cell? ⟨g,(p-h)*12+4,none⟩=some (.slice y.1.1.1.1.DA y.1.1.1.1.dn y.1.1.1.1.dc):=I.row.cell hy 4 _ rfl;have r5:wr.cell? ⟨g,(p-h)*12+5,none⟩=some (.bool y.1.1.2):=I.row.cell hy 5 _ rfl;have r6:wr.cell? ⟨g,(p-h)*12+6,none⟩=some (.int .i64 y.1.2.1.1.k):=I.row.cell hy 6 _ rfl;have r7:wr.cell? ⟨g,(p-h)*12+7,none⟩=some (.int .i64 y.1.2.1.1.n):=I.row.cell hy 7 _ rfl;have r8:wr.cell? ⟨g,(p-h)*12+8,none⟩=some (.string y.1.2.1.1.t):=I.row.cell hy 8 _ rfl;have r9:wr.cell? ⟨g,(p-h)*12+9,none⟩=some (.slice y.1.2.1.1.LA y.1.2.1.1.ln y.1.2.1.1.lc):=I.row.cell hy 9 _ rfl;have r10:wr.cell? ⟨g,(p-h)*12+10,none⟩=some (.slice y.1.2.1.1.DA y.1.2.1.1.dn y.1.2.1.1.dc):=I.row.cell hy 10 _ rfl;have r11:wr.cell? ⟨g,(p-h)*12+11,none⟩=some (.bool y.1.2.2):=I.row.cell hy 11 _ rfl;have P0:∀k:BW wr,k.val.cell? ⟨g,h*12,none⟩=some (.int .i64 x.1.1.1.1.k):=fun k=>k.cell p0;have P1:∀k:BW wr,k.val.cell? ⟨g,h*12+1,none⟩=some (.int .i64 x.1.1.1.1.n):=fun k=>k.cell p1;have P2:∀k:BW wr,k.val.cell? ⟨g,h*12+2,none⟩=some (.string x.1.1.1.1.t):=fun k=>k.cell p2;have P3:∀k:BW wr,k.val.cell? ⟨g,h*12+3,none⟩=some (.slice x.1.1.1.1.LA x.1.1.1.1.ln x.1.1.1.1.lc):=fun k=>k.cell p3;have P4:∀k:BW wr,k.val.cell? ⟨g,h*12+4,none⟩=some (.slice x.1.1.1.1.DA x.1.1.1.1.dn x.1.1.1.1.dc):=fun k=>k.cell p4;have P5:∀k:BW wr,k.val.cell? ⟨g,h*12+5,none⟩=some (.bool x.1.1.2):=fun k=>k.cell p5;have P6:∀k:BW wr,k.val.cell? ⟨g,h*12+6,none⟩=some (.int .i64 x.1.2.1.1.k):=fun k=>k.cell p6
    have P7:∀k:BW wr,k.val.cell? ⟨g,h*12+7,none⟩=some (.int .i64 x.1.2.1.1.n):=fun k=>k.cell p7;have P8:∀k:BW wr,k.val.cell? ⟨g,h*12+8,none⟩=some (.string x.1.2.1.1.t):=fun k=>k.cell p8;have P9:∀k:BW wr,k.val.cell? ⟨g,h*12+9,none⟩=some (.slice x.1.2.1.1.LA x.1.2.1.1.ln x.1.2.1.1.lc):=fun k=>k.cell p9;have P10:∀k:BW wr,k.val.cell? ⟨g,h*12+10,none⟩=some (.slice x.1.2.1.1.DA x.1.2.1.1.dn x.1.2.1.1.dc):=fun k=>k.cell p10;have P11:∀k:BW wr,k.val.cell? ⟨g,h*12+11,none⟩=some (.bool x.1.2.2):=fun k=>k.cell p11;have R0:∀k:BW wr,k.val.cell? ⟨g,(p-h)*12,none⟩=some (.int .i64 y.1.1.1.1.k):=fun k=>k.cell r0;have R1:∀k:BW wr,k.val.cell? ⟨g,(p-h)*12+1,none⟩=some (.int .i64 y.1.1.1.1.n):=fun k=>k.cell r1;have R2:∀k:BW wr,k.val.cell? ⟨g,(p-h)*12+2,none⟩=some (.string y.1.1.1.1.t):=fun k=>k.cell r2;have R3:∀k:BW wr,k.val.cell? ⟨g,(p-h)*12+3,none⟩=some (.slice y.1.1.1.1.LA y.1.1.1.1.ln y.1.1.1.1.lc):=fun k=>k.cell r3;have R4:∀k:BW wr,k.val.cell? ⟨g,(p-h)*12+4,none⟩=some (.slice y.1.1.1.1.DA y.1.1.1.1.dn y.1.1.1.1.dc):=fun k=>k.cell r4;have R5:∀k:BW wr,k.val.cell? ⟨g,(p-h)*12+5,none⟩=some (.bool y.1.1.2):=fun k=>k.cell r5;have R6:∀k:BW wr,k.val.cell? ⟨g,(p-h)*12+6,none⟩=some (.int .i64 y.1.2.1.1.k):=fun k=>k.cell r6;have R7:∀k:BW wr,k.val.cell? ⟨g,(p-h)*12+7,none⟩=some (.int .i64 y.1.2.1.1.n):=fun k=>k.cell r7;have R8:∀k:BW wr,k.val.cell? ⟨g,(p-h)*12+8,none⟩=some (.string y.1.2.1.1.t):=fun k=>k.cell r8
    have R9:∀k:BW wr,k.val.cell? ⟨g,(p-h)*12+9,none⟩=some (.slice y.1.2.1.1.LA y.1.2.1.1.ln y.1.2.1.1.lc):=fun k=>k.cell r9;have R10:∀k:BW wr,k.val.cell? ⟨g,(p-h)*12+10,none⟩=some (.slice y.1.2.1.1.DA y.1.2.1.1.dn y.1.2.1.1.dc):=fun k=>k.cell r10;have R11:∀k:BW wr,k.val.cell? ⟨g,(p-h)*12+11,none⟩=some (.bool y.1.2.2):=fun k=>k.cell r11;have i0:(0:Int)<=(h:Int):=by omega
    have i1:(h:Int)<(n:Int):=by omega
    have i2:(0:Int)<=(p:Int)-(h:Int):=by omega
    have i3:(p:Int)-(h:Int)<(n:Int):=by omega
    have K1:Hid (∀k:BW wr,Calls prog 203 #[lU y,lU x] k.val fun e w''=>e=.returned (.int .i64 (ae (al y.1).1 (al x.1).1))/\∃k:BW wr,w''=k.val):=fun k=>
     Calls.bw (HH.out.cmp y x (by simp[hyY]) (by simp[hxX]) k.val (I.but.step k.below))
    have HX:=qD hx;have HY:=qD hy;clear p0 p1 p2 p3 p4 p5 p6 p7 p8 p9 p10 p11 r0 r1 r2 r3 r4 r5 r6 r7 r8 r9 r10 r11 hx hy hxX hyY I;refine aL (by as_aux_lemma=>kernel_rfl) (by as_aux_lemma=>kernel_rfl) ?_
    repeat(go_big_quiet_step (with_reducible exact K1.out _))
    refine Ln ?_;rintro _ ⟨kw,rfl⟩;have J2:=qD (J.out.step kw.below);clear P0 P1 P2 P3 P4 P5 P6 P7 P8 P9 P10 P11 R0 R1 R2 R3 R4 R5 R6 R7 R8 R9 R10 R11 K1 i0 i1 i2 i3;generalize kw.val=w2 at*;by_cases hc:ae (al y.1).1 (al x.1).1<0
    ·have HHi2:Hid (Ix (A++X++Y++D) r0 (p+1) h):=.inr ⟨x,y,HX.out,HY.out,hc⟩;have d4:(!decide (ae (al y.1).1 (al x.1).1<0))=false:=by rw[LN hc];rfl
     go_wp2_with fail
     all_goals first|(rename_i e;rw[d4] at e;contradiction)|skip
     go_roundw
     ·exact⟨i,h,rfl,rfl,hmi,h1,by omega,HLo.out,HHi2.out,J2.out⟩
     ·simp[intOf];omega
    ·have HLo2:Hid (Iw (A++X++Y++D) s0 (p+1) (h+1)):=.inr ⟨x,y,HX.out,by rw[Nat.add_sub_add_right];exact HY.out,hc⟩;have d4:(!decide (ae (al y.1).1 (al x.1).1<0))=true:=by rw[LW hc];rfl
     go_wp2_with fail
     all_goals first|(rename_i e;rw[d4] at e;contradiction)|skip
     go_roundw
     ·exact⟨h+1,j,by go_num,rfl,by omega,by omega,hjb,HLo2.out,HHi.out,J2.out⟩
     ·simp[intOf];omega
   ·obtain rfl:i=j:=by omega
    obtain⟨X1,X2,Y1,Y2,hXX,hYY,l1,l2,l3,l4,h12,h21⟩:=su (D:=D) HO.out HA.out HM.out HB.out HH.out.hX HH.out.hY HH.out.hT hmi hjb HMid.out HC.out (by rw[HP.out];exact HLo.out) (by rw[HP.out];exact HHi.out)
    have HS:Hid (∀S1 S2,aR (fun p q:PS=>ae (al p).1 (al q).1) (X1++Y1) S1->aR (fun p q:PS=>ae (al p).1 (al q).1) (X2++Y2) S2->aR (fun p q:PS=>ae (al p).1 (al q).1) (X++Y) (S1++S2)):=fun S1 S2 q1 q2=>by
     have hp:=HH.out.hX;have hq:=HH.out.hY;rw[hXX] at hp ⊢;rw[hYY] at hq ⊢;exact nB hp hq h12 h21 q1 q2
    have HH2:Hid (fF A (X1++X2) (Y1++Y2) D g n w):=by have:=HH.out;rw[hXX,hYY] at this;exact this
    have HJ:Hid (dM g w (A++X1++X2++Y1++Y2++D) wr):=by have:=J.out;rw[hXX,hYY] at this;rw[Hid];simpa using this
    have HL1:=qD l1;have HL2:=qD l2;have HL3:=qD l3;have HL4:=qD l4;have hsum:mid-a<X.length+Y.length:=by have:=HM.out;have:=HB.out;omega
    have hsum2:b-mid<X.length+Y.length:=by have:=HM.out;have:=HB.out;omega
    clear hXX hYY l1 l2 l3 l4 h12 h21 I J HLo HHi;go_upto_region 39 with fail
    obtain⟨en,hen⟩:∃en:Nat,(p:Int)+1-(i:Int)=(en:Int):=⟨p+1-i,by omega⟩;have HEn:Hid (en+i=mid+m):=by unfold Hid;have:=HP.out;omega
    have hen1:en<=b:=by omega
    rw[hen];clear hen
    go_cut [185] (fun s wx=>s=.bool (decide (i<m/\m<en))/\wr=wx)
    case first=>as_aux_lemma=>
     by_cases e1:i<m<;>by_cases e2:m<en
     all_goals
      go_wp2_with fail;go_meet;exact⟨congrArg Value.bool (by simp[e1,e2]),rfl⟩
    case rest=>
     obtain⟨rfl,rfl⟩:=hcut
     go_upto_if 185 with fail
     go_cut [] (fun wx=>dM g w (A++X1++Y1++X2++Y2++D) wx)
     case first=>as_aux_lemma=>
      by_cases e:i<m/\m<en
      ·have d:decide (i<m/\m<en)=true:=LN e;rw[d];clear d;go_wp2_with fail;refine(uG (A++X1) X2 Y1 (Y2++D) g n c i m en _ _ _ _ _ (by have:=HJ.out.row;simpa using this) (by rw[HH2.out.ln];simp) (by have:=HA.out;have:=HL1.out;simp;omega) (by have:=HA.out;have:=HL1.out;have:=HL2.out;simp;omega) (by have:=HA.out;have:=HL1.out;have:=HL2.out;have:=HL3.out;have:=HEn.out;simp;omega) (by have:=HL2.out;omega) (by have:=HL3.out;have:=HEn.out;omega) rfl rfl rfl HH2.out.sz).mono ?_;rintro e w1 ⟨rfl,h1⟩;have H1:=qD (HJ.out.then h1);clear h1;go_wp2_with fail;go_meet;have:=H1.out;simpa using this
      ·have d:decide (i<m/\m<en)=false:=LW e;rw[d];clear d;go_wp2_with fail;go_meet;have h1:=HJ.out
       have q:X2=[]\/Y1=[]:=by
        by_cases e1:i<m
        ·exact .inr (LO (by have:=HL3.out;have:=HEn.out;omega))
        ·exact .inl (LO (by have:=HL2.out;omega))
       rcases q with q|q
       ·rw[q] at h1 ⊢;simpa using h1
       ·rw[q] at h1 ⊢;simpa using h1
     case rest=>
      have HJ2:=qD hcut;clear hcut;go_upto_region 41 with fail
      go_cut [199] (fun s wx=>s=.bool (decide (a<i/\i<mid))/\wc=wx)
      case first=>as_aux_lemma=>
       by_cases e1:a<i<;>by_cases e2:i<mid
       all_goals
        go_wp2_with fail;go_meet;exact⟨congrArg Value.bool (by simp[e1,e2]),rfl⟩
      case rest=>
       obtain⟨rfl,rfl⟩:=hcut
       go_upto_if 199 with fail
       go_cut [] (fun wx=>∃S1,aR (fun p q:PS=>ae (al p).1 (al q).1) (X1++Y1) S1/\dM g w (A++S1++(X2++Y2++D)) wx)
       case first=>as_aux_lemma=>
        by_cases e:a<i/\i<mid
        ·have d:decide (a<i/\i<mid)=true:=LN e;rw[d];clear d;go_wp2_with fail;refine(HI.out A X1 Y1 (X2++Y2++D) g n c a i mid _ _ _ _ (Ad HH2.out HJ2.out) HA.out (by have:=HL1.out;omega) (by have:=HL3.out;omega) (by have:=HL1.out;omega) (by have:=HL3.out;omega) (by have:=HL1.out;have:=HL3.out;omega) rfl rfl rfl).mono ?_;rintro e w1 ⟨rfl,S1,h1,h2⟩;have H1:=qD h1;have H2:=qD (HJ2.out.then h2);clear h1 h2;go_wp2_with fail;go_meet;exact⟨S1,H1.out,H2.out⟩
        ·have d:decide (a<i/\i<mid)=false:=LW e;rw[d];clear d;go_wp2_with fail;go_meet;have hh:=Ad HH2.out HJ2.out;refine⟨X1++Y1,iu ?_,by have:=HJ2.out;simpa using this⟩
         have q:X1=[]\/Y1=[]:=by
          by_cases e1:a<i
          ·exact .inr (LO (by have:=HL3.out;omega))
          ·exact .inl (LO (by have:=HL1.out;omega))
         rcases q with q|q
         ·rw[q];simpa using hh.hY
         ·rw[q];simpa using hh.hX
       case rest=>
        obtain⟨S1,hS1,I⟩:=hcut;have HS1:=qD hS1;have HJ3:=qD I;have HLS:Hid (S1.length=X1.length+Y1.length):=by rw[Hid,hS1.1.length_eq];simp
        clear hS1 I;go_upto_region 43 with fail
        go_cut [213] (fun s wx=>s=.bool (decide (mid<en/\en<b))/\wc=wx)
        case first=>as_aux_lemma=>
         by_cases e1:mid<en<;>by_cases e2:en<b
         all_goals
          go_wp2_with fail;go_meet;exact⟨congrArg Value.bool (by simp[e1,e2]),rfl⟩
        case rest=>
         obtain⟨rfl,rfl⟩:=hcut;by_cases e:mid<en/\en<b
         ·as_aux_lemma=>
          have d:decide (mid<en/\en<b)=true:=LN e;rw[d];clear d;go_wp2_with fail;refine(HI.out (A++S1) X2 Y2 D g n c mid en b _ _ _ _ (Ae HH2.out HLS.out HJ3.out) (by have:=HA.out;have:=HLS.out;have:=HL1.out;have:=HL3.out;simp;omega) (by have:=HL2.out;have:=HEn.out;omega) (by have:=HL4.out;have:=HEn.out;omega) (by have:=HL2.out;have:=HEn.out;omega) (by have:=HL4.out;have:=HEn.out;omega) (by have:=HL2.out;have:=HL4.out;have:=HEn.out;omega) rfl rfl rfl).mono ?_;rintro e w1 ⟨rfl,S2,h1,h2⟩;have H1:=qD h1;have H2:=qD (HJ3.out.then h2);clear h1 h2;go_wp2_with fail
          go_end0
          exact⟨rfl,S1++S2,HS.out S1 S2 HS1.out H1.out,by have:=H2.out;simpa using this⟩
         ·as_aux_lemma=>
          have d:decide (mid<en/\en<b)=false:=LW e;rw[d];clear d;go_wp2_with fail
          go_end0
          have hh:=Ae HH2.out HLS.out HJ3.out;refine⟨rfl,S1++(X2++Y2),HS.out S1 _ HS1.out (iu ?_),by have:=HJ3.out;simpa using this⟩
          have q:X2=[]\/Y2=[]:=by
           by_cases e1:mid<en
           ·exact .inr (LO (by have:=HL4.out;have:=HEn.out;omega))
           ·exact .inl (LO (by have:=HL2.out;have:=HEn.out;omega))
          rcases q with q|q
          ·rw[q];simpa using hh.hY
          ·rw[q];simpa using hh.hX
theorem sw(H:cL (fun p q:PS=>ae (al p).1 (al q).1))(N:Nat):Af N:=by
 induction N with
 | zero=>exact fun A X Y D g n c a m b aI mI bI w h ha hm hb h1 h2 h3=>absurd h3 (by omega)
 | succ N ih=>
  intro A X Y D g n c a m b aI mI bI w h ha hm hb h1 h2 h3 haI hmI hbI;by_cases e1:X.length=1
  ·obtain⟨x,rfl⟩:=NV.1 e1;exact Ht H A x Y D g n c a m b aI mI bI w h ha (by simpa using hm) hb haI hmI hbI
  ·by_cases e2:Y.length=1
   ·obtain⟨y,rfl⟩:=NV.1 e2;exact Hu H A X y D g n c a m b aI mI bI w h ha hm (by simpa using hb) (by omega) haI hmI hbI
   ·exact Hv H A X Y D g n c a m b aI mI bI w h ha hm hb (by omega) (by omega) (fun A' X' Y' D' g' n' c' a' m' b' aI' mI' bI' w' q1 q2 q3 q4 q5 q6 q7 q8 q9 q10=>ih A' X' Y' D' g' n' c' a' m' b' aI' mI' bI' w' q1 q2 q3 q4 q5 q6 (by omega) q8 q9 q10) haI hmI hbI
section
variable {α:Type}
def blk(bs q:Nat)(L:List α):List α:=(L.drop (q*bs)).take bs
theorem jl{A T:List α}{bs q:Nat}(h:q*bs+bs<=A.length):blk bs q (A++T)=blk bs q A:=by
 unfold blk;rw[OG (by omega),OF (by rw[Nz];omega)]
theorem ea{A T:List α}{bs q k:Nat}(hA:A.length=k*bs)(h:k<=q):blk bs q (A++T)=blk bs (q-k) T:=by
 unfold blk;have e:q*bs=A.length+(q-k)*bs:=by rw[hA,<-Nn,Nat.add_sub_cancel' h]
 rw[e,OM]
theorem fG{S T:List α}{bs:Nat}(h:S.length=bs\/(S.length<=bs/\T=[])):blk bs 0 (S++T)=S:=by
 unfold blk;rcases h with h|⟨h,rfl⟩
 ·subst h;simp
 ·simp[LS h]
variable {cm:α->α->Int}
theorem lK{A0 A Seg S:List (α×Nat)}{bs k:Nat}(hA0:A0.length=k*bs)(hA:A.length=k*bs)(h:∀q,q<k->aR cm (blk bs q A0) (blk bs q A))(hl:Seg.length=bs)(hS:aR cm Seg S):
 ∀q,q<k+1->aR cm (blk bs q (A0++Seg)) (blk bs q (A++S)):=fun q hq=>by
 by_cases e:q=k
 ·subst e;have hl2:S.length=bs:=by rw[<-hl];exact hS.1.length_eq
  have e1:blk bs 0 (Seg++[])=Seg:=fG (.inl hl);have e2:blk bs 0 (S++[])=S:=fG (.inl hl2);rw[Lm] at e1 e2;rw[ea hA0 (qL),ea hA (qL),Nat.sub_self,e1,e2];exact hS
 ·have hk:(q+1)*bs<=k*bs:=MU _ (by omega);rw[PG] at hk;rw[jl (by omega),jl (by omega)];exact h q (by omega)
theorem iE{A0 A Seg S:List (α×Nat)}{bs k:Nat}(hA0:A0.length=k*bs)(hA:A.length=k*bs)(h:∀q,q<k->aR cm (blk bs q A0) (blk bs q A))(hl:Seg.length<=bs)(hS:aR cm Seg S):
 ∀q,aR cm (blk bs q (A0++Seg)) (blk bs q (A++S)):=fun q=>by
 have hl2:S.length<=bs:=by rw[hS.1.length_eq];exact hl
 by_cases e:q<k
 ·have hk:(q+1)*bs<=k*bs:=MU _ (by omega);rw[PG] at hk;rw[jl (by omega),jl (by omega)];exact h q e
 ·rw[ea hA0 (by omega),ea hA (by omega)];by_cases e0:q=k
  ·subst e0;have e1:blk bs 0 (Seg++[])=Seg:=fG (.inr ⟨hl,rfl⟩);have e2:blk bs 0 (S++[])=S:=fG (.inr ⟨hl2,rfl⟩);rw[Lm] at e1 e2;rw[Nat.sub_self,e1,e2];exact hS
  ·have hk:1*bs<=(q-k)*bs:=MU _ (by omega);unfold blk;rw[Nl (by omega),Nl (by omega),List.take_nil];exact⟨List.Perm.refl _,List.Pairwise.nil⟩
theorem sx{X0 Y0 D0 X Y D:List (α×Nat)}{bs:Nat}(h1:X0.length=bs)(h2:Y0.length=bs\/(Y0.length<=bs/\D0=[]))(h3:X.length=bs)(h4:Y.length=bs\/(Y.length<=bs/\D=[]))(h:∀q,aR cm (blk bs q (X0++(Y0++D0))) (blk bs q (X++(Y++D)))):
 aR cm X0 X/\aR cm Y0 Y:=by
 refine⟨?_,?_⟩
 ·have:=h 0
  rwa [fG (.inl h1),fG (.inl h3)] at this
 ·have:=h 1
  rwa [ea (k:=1) (by omega) (qL),ea (k:=1) (by omega) (qL),Nat.sub_self,fG h2,fG h4] at this
theorem sy{Z0 D0 Z D:List (α×Nat)}{bs:Nat}(h1:Z0.length=2*bs)(h3:Z.length=2*bs)(h:∀q,aR cm (blk bs q (Z0++D0)) (blk bs q (Z++D)))(q:Nat):aR cm (blk bs q D0) (blk bs q D):=by
 have:=h (q+2)
 rwa [ea (k:=2) h1 (by omega),ea (k:=2) h3 (by omega),Oh] at this
theorem nC{L0 L:List (α×Nat)}{bs:Nat}(hl:L0.length<=bs)(hl2:L.length<=bs)(h:∀q,aR cm (blk bs q L0) (blk bs q L)):aR cm L0 L:=by
 have:=h 0;have e1:blk bs 0 (L0++[])=L0:=fG (.inr ⟨hl,rfl⟩);have e2:blk bs 0 (L++[])=L:=fG (.inr ⟨hl2,rfl⟩);rw[Lm] at e1 e2
 rwa [e1,e2] at this
end
structure Hw(bs:Nat)(L0:List (PS×Nat))(k:Nat)(A0 A R:List (PS×Nat)):Prop where
 e:L0=A0++R
 l0:A0.length=k*bs
 l:A.length=k*bs
 s:∀q,q<k->aR (fun p q:PS=>ae (al p).1 (al q).1) (blk bs q A0) (blk bs q A)
structure jq(bs:Nat)(L0:List (PS×Nat))(k:Nat)(A0 A R0 R:List (PS×Nat)):Prop where
 e:L0=A0++R0
 l0:A0.length=k*(2*bs)
 l:A.length=k*(2*bs)
 rl:R.length=R0.length
 s:∀q,q<k->aR (fun p q:PS=>ae (al p).1 (al q).1) (blk (2*bs) q A0) (blk (2*bs) q A)
 t:∀q,aR (fun p q:PS=>ae (al p).1 (al q).1) (blk bs q R0) (blk bs q R)
structure mJ(bs:Nat)(R0 R X0 Y0 D0 X Y D:List (PS×Nat)):Prop where
 e0:R0=X0++(Y0++D0)
 e:R=X++(Y++D)
 x0:X0.length=bs
 x:X.length=bs
 y0:Y0.length=bs\/(Y0.length<=bs/\D0=[])
 y:Y.length=bs\/(Y.length<=bs/\D=[])
theorem tA(bs:Nat)(R0 R:List (PS×Nat))(hl:R.length=R0.length)(hb:bs<=R.length):mJ bs R0 R (R0.take bs) ((R0.drop bs).take bs) ((R0.drop bs).drop bs) (R.take bs) ((R.drop bs).take bs) ((R.drop bs).drop bs):=by
 have aux:∀l:List (PS×Nat),(l.take bs).length=bs\/((l.take bs).length<=bs/\l.drop bs=[]):=fun l=>by
  by_cases e:bs<=l.length
  ·exact .inl (by rw[Lx];omega)
  ·exact .inr ⟨by rw[Lx];omega,Nl (by omega)⟩
 exact⟨by rw[Lf,Lf],by rw[Lf,Lf],by rw[Lx];omega,by rw[Lx];omega,aux _,aux _⟩
theorem jq.sorted{bs k:Nat}{L0 A0 A R0 R X0 Y0 D0 X Y D:List (PS×Nat)}(h:jq bs L0 k A0 A R0 R)(hp:mJ bs R0 R X0 Y0 D0 X Y D):aR (fun p q:PS=>ae (al p).1 (al q).1) X0 X/\aR (fun p q:PS=>ae (al p).1 (al q).1) Y0 Y:=
 sx hp.x0 hp.y0 hp.x hp.y (by have:=h.t;rw[hp.e0,hp.e] at this;exact this)
theorem jq.KM{bs k:Nat}{L0 A0 A R0 R X0 Y0 D0 X Y D:List (PS×Nat)}(h:jq bs L0 k A0 A R0 R)(hp:mJ bs R0 R X0 Y0 D0 X Y D){g n:Nat}{w wr:World}(ht:gE L0)(hc:it g w L0)(I:dM g w (A++R) wr)(hn:n=L0.length)(hz:n*176<=aF):fF A X Y D g n wr:=by
 obtain⟨s1,s2⟩:=h.sorted hp;have ht2:gE (A0++(X0++(Y0++D0))):=by rw[<-hp.e0,<-h.e];exact ht
 refine⟨?_,?_,hz,s1.2,s2.2,fun x hx y hy=>?_,hc.less I.but fun x hx=>?_⟩
 ·have:=I.row;rw[hp.e] at this;simpa using this
 ·rw[hn,h.e,Ld,Ld,<-hp.e,LM,LM,h.l0,h.l,h.rl]
 ·have q:=(Le.1 (Le.1 ht2).2.1).2.2;exact q x (s1.1.mem_iff.1 hx) y (by simp[s2.1.mem_iff.1 hy])
 ·rw[h.e,hp.e0];rcases LY.1 hx with hx|hx
  ·simp[s1.1.mem_iff.1 hx]
  ·simp[s2.1.mem_iff.1 hx]
theorem aR.both{α:Type}{cm:α->α->Int}{X0 Y0 X Y S:List (α×Nat)}(h1:aR cm X0 X)(h2:aR cm Y0 Y)(h:aR cm (X++Y) S):aR cm (X0++Y0) S:=⟨h.1.trans (h1.1.append h2.1),h.2⟩
theorem jq.next{bs k:Nat}{L0 A0 A R0 R X0 Y0 D0 X Y D S:List (PS×Nat)}(h:jq bs L0 k A0 A R0 R)(hp:mJ bs R0 R X0 Y0 D0 X Y D)(hS:aR (fun p q:PS=>ae (al p).1 (al q).1) (X++Y) S)(hy:Y.length=bs)(hy0:Y0.length=bs):jq bs L0 (k+1) (A0++(X0++Y0)) (A++S) D0 D:=by
 obtain⟨s1,s2⟩:=h.sorted hp;have hS2:=aR.both s1 s2 hS;have l1:(X0++Y0).length=2*bs:=by rw[LM,hp.x0,hy0];omega
 have l2:(X++Y).length=2*bs:=by rw[LM,hp.x,hy];omega
 refine⟨?_,?_,?_,?_,lK h.l0 h.l h.s l1 hS2,fun q=>sy l1 l2 ?_ q⟩
 ·rw[h.e,hp.e0];simp
 ·rw[LM,h.l0,l1];exact(PG k (2*bs)).symm
 ·rw[LM,h.l,hS.1.length_eq,l2];exact(PG k (2*bs)).symm
 ·have:=h.rl;rw[hp.e,hp.e0] at this;simp[hp.x,hp.x0,hy,hy0] at this;exact this
 ·have:=h.t;rw[hp.e0,hp.e] at this;simpa using this
theorem jq.last{bs k:Nat}{L0 A0 A R0 R X0 Y0 X Y S:List (PS×Nat)}(h:jq bs L0 k A0 A R0 R)(hp:mJ bs R0 R X0 Y0 [] X Y [])(hS:aR (fun p q:PS=>ae (al p).1 (al q).1) (X++Y) S)(q:Nat):aR (fun p q:PS=>ae (al p).1 (al q).1) (blk (2*bs) q L0) (blk (2*bs) q (A++S)):=by
 obtain⟨s1,s2⟩:=h.sorted hp;have e:L0=A0++(X0++Y0):=by rw[h.e,hp.e0,Lm]
 rw[e];exact iE h.l0 h.l h.s (by rw[LM,hp.x0];rcases hp.y0 with q|⟨q,_⟩<;>omega) (aR.both s1 s2 hS) q
theorem jq.lone{bs k:Nat}{L0 A0 A R0 R:List (PS×Nat)}(h:jq bs L0 k A0 A R0 R)(hl:R.length<=bs)(q:Nat):aR (fun p q:PS=>ae (al p).1 (al q).1) (blk (2*bs) q L0) (blk (2*bs) q (A++R)):=by
 rw[h.e];exact iE h.l0 h.l h.s (by rw[<-h.rl];omega) (nC (by rw[<-h.rl];exact hl) hl h.t) q
theorem uH(H:cL (fun p q:PS=>ae (al p).1 (al q).1))(L0:List (PS×Nat))(g n c:Nat)(w:World)(hr:bV w g L0)(hn:n=L0.length)(hz:n*176<=aF)(ht:gE L0)(hc:it g w L0):
 Calls prog 249 #[.slice (some ⟨g,0,none⟩) n c,.int .i64 n,.func (.func 203) #[] #[]] w (qY g w [] L0 []):=by
 have HZ:=qD hz;unfold aF at hz;have HN:=qD hn;have HT:=qD ht;have HC:=qD hc;have HO:=qD H;have I0:Hid (dM g w L0 w):=qD ⟨hr,ey.refl⟩;clear hr hn ht hc H;go_enter func249,ntmps249;go_wp2_with fail
 go_loopw [7,8] (fun v7 v8 wr=>∃(k a b:Nat) (A0 A R:List (PS×Nat)),v7=.int .i64 a/\v8=.int .i64 b/\b=a+20/\a=k*20/\a<=n/\Hw 20 L0 k A0 A R/\dM g w (A++R) wr) (fun _ v8 _=>n+40-(intOf v8).toNat)
 ·exact⟨0,0,20,[],[],L0,rfl,rfl,rfl,rfl,LQ _,⟨rfl,rfl,rfl,fun q hq=>absurd hq (by omega)⟩,I0.out⟩
 case round=>
  obtain⟨k,a,b,A0,A,R,rfl,rfl,hb,hk,han,hD,I⟩:=hrel;have HB:=qD hb;have HK:=qD hk;have HD:=qD hD;have J:=qD I;have hRl:R.length=n-a:=by have h1:=HN.out;rw[hD.e] at h1;simp[hD.l0] at h1;omega
  have HRl:=qD hRl;clear hk hD I hRl;by_cases hlt:b<=n
  ·have hb2:b=a+20:=hb;have hl1:(R.take 20).length=20:=by rw[Lx];have:=HRl.out;omega
   have HL1:=qD hl1;have HR:Hid (R=R.take 20++R.drop 20):=(Lf 20 R).symm;have HM:∀x∈R,x∈L0:=fun x hx=>by rw[HD.out.e];simp[hx]
   have HM':=qD HM;clear hb hb2 hl1 HM;go_wp2_with fail;refine(oS HO.out A (R.take 20) (R.drop 20) g n c a b _ (by rw[Ld,<-HR.out];exact J.out.row) (by rw[Ld,<-HR.out,LM,HD.out.l,HRl.out,<-HK.out];omega) (by rw[HD.out.l];exact HK.out) (by rw[HD.out.l,HL1.out,<-HK.out];exact HB.out) HZ.out ?_ ?_).mono ?_
   ·have:=HT.out;rw[HD.out.e,HR.out] at this;exact(Le.1 (Le.1 this).2.1).1
   ·exact HC.out.less J.out.but (fun x hx=>HM'.out x (Nw hx))
   rintro e w1 ⟨rfl,S,hS,h1⟩;have HS:=qD hS;have H1:=qD (J.out.then h1);clear hS h1;go_wp2_with fail;go_roundw
   case rel=>
    refine⟨k+1,b,b+20,A0++R.take 20,A++S,R.drop 20,rfl,by go_num,rfl,by have:=HB.out;have:=HK.out;omega,hlt,⟨by rw[Ld,<-HR.out];exact HD.out.e,?_,?_,?_⟩,H1.out⟩
    ·rw[LM,HD.out.l0,HL1.out];omega
    ·rw[LM,HD.out.l,HS.out.1.length_eq,HL1.out];omega
    ·exact lK HD.out.l0 HD.out.l HD.out.s HL1.out HS.out
   case measure=>simp[intOf];omega
  ·have hRl2:R.length<=20:=by have:=HRl.out;omega
   have HM:∀x∈R,x∈L0:=fun x hx=>by rw[HD.out.e];simp[hx]
   have HM':=qD HM;clear hb HM;go_wp2_with fail;refine(oS HO.out A R [] g n c a n _ (by rw[Lm];exact J.out.row) (by rw[Lm,LM,HD.out.l,HRl.out,<-HK.out];omega) (by rw[HD.out.l];exact HK.out) (by rw[HD.out.l,HRl.out,<-HK.out];omega) HZ.out ?_ ?_).mono ?_
   ·have:=HT.out;rw[HD.out.e] at this;exact(Le.1 this).2.1
   ·exact HC.out.less J.out.but HM'.out
   rintro e w1 ⟨rfl,S,hS,h1⟩;have J1:Hid (dM g w (A++S) w1):=by have:=J.out.then h1;rw[Lm] at this;exact this
   have HR1:Hid (∀q,aR (fun p q:PS=>ae (al p).1 (al q).1) (blk 20 q L0) (blk 20 q (A++S))):=by rw[Hid,HD.out.e];exact iE HD.out.l0 HD.out.l HD.out.s hRl2 hS
   have HLl:Hid ((A++S).length=L0.length):=by rw[Hid,HD.out.e,LM,LM,HD.out.l,HD.out.l0,hS.1.length_eq]
   clear hS h1;go_wp2_with fail
   go_loopw [6] (fun v6 wr=>∃(bs:Nat) (L:List (PS×Nat)),v6=.int .i64 bs/\20<=bs/\bs<=2*n+20/\L.length=L0.length/\(∀q,aR (fun p q:PS=>ae (al p).1 (al q).1) (blk bs q L0) (blk bs q L))/\dM g w L wr) (fun v6 _=>n-(intOf v6).toNat)
   ·exact⟨20,A++S,rfl,qL,by omega,HLl.out,HR1.out,J1.out⟩
   case round=>
    clear HB HK HD J HRl HM' J1 HR1 HLl;obtain⟨bs,L,rfl,hb1,hb2,hl,hR,I⟩:=hrel;have HL:=qD hl;have HRu:=qD hR;have J:=qD I;clear hl hR I;by_cases hlt2:bs<n
    ·go_wp2_with fail
     go_loopw [7,8] (fun v7 v8 wr=>∃(k a b:Nat) (A0 A R0 R:List (PS×Nat)),v7=.int .i64 a/\v8=.int .i64 b/\b=a+2*bs/\a<=n/\A.length=a/\jq bs L0 k A0 A R0 R/\dM g w (A++R) wr) (fun _ v8 _=>n+1-(intOf v8).toNat)
     ·exact⟨0,0,2*bs,[],[],L0,L,rfl,by go_num,by omega,LQ _,rfl,⟨rfl,by simp,by simp,HL.out,fun q hq=>absurd hq (by omega),HRu.out⟩,J.out⟩
     case round=>
      clear HL HRu J;obtain⟨k,a,b,A0,A,R0,R,rfl,rfl,hb,han,hA,hM,I⟩:=hrel;have HB:=qD hb;have HA:=qD hA;have HM:=qD hM;have J:=qD I;have hRl:R.length=n-a:=by have h1:=HN.out;rw[hM.e] at h1;have h2:=hM.l0;have h3:=hM.l;simp at h1;rw[hM.rl];omega
      have HRl:=qD hRl;clear hM I hA;by_cases hlt3:b<=n
      ·obtain⟨X0,Y0,D0,X,Y,D,hp⟩:∃X0 Y0 D0 X Y D,mJ bs R0 R X0 Y0 D0 X Y D:=⟨_,_,_,_,_,_,tA bs R0 R HM.out.rl (by omega)⟩
       have hy:Y.length=bs:=by
        have h1:=HRl.out;rw[hp.e,LM,LM,hp.x] at h1;rcases hp.y with q|⟨q,rfl⟩
        ·exact q
        ·simp at h1;omega
       have hy0:Y0.length=bs:=by
        have h1:=HRl.out;rw[HM.out.rl,hp.e0,LM,LM,hp.x0] at h1;rcases hp.y0 with q|⟨q,rfl⟩
        ·exact q
        ·simp at h1;omega
       have HPa:=qD hp;have HY:=qD hy;have HY0:=qD hy0;have hbn:a+2*bs<=n:=by omega
       clear hp hy hy0 hb hRl;go_wp2_with fail;refine(sw HO.out _ A X Y D g n c a (a+bs) b _ _ _ _ (HM.out.KM HPa.out HT.out HC.out J.out HN.out HZ.out) HA.out.symm (by rw[HPa.out.x]) (by rw[HY.out];have:=HB.out;omega) (by rw[HPa.out.x];omega) (by rw[HY.out];omega) (Lo _) rfl (by omega) rfl).mono ?_;rintro e w2 ⟨rfl,S,hS,h1⟩;have HS:=qD hS;have H1:=qD (J.out.then h1);clear hS h1;go_wp2_with fail;go_roundw
       case rel=>
        exact⟨k+1,b,b+2*bs,_,A++S,_,D,rfl,by go_num,rfl,hlt3,by rw[LM,HS.out.1.length_eq,LM,HA.out,HPa.out.x,HY.out];have:=HB.out;omega,HM.out.next HPa.out HS.out HY.out HY0.out,H1.out⟩
       case measure=>simp[intOf];omega
      ·have hab:n<a+2*bs:=by omega
       clear hb hRl;by_cases hm:a+bs<n
       ·obtain⟨X0,Y0,X,Y,hp⟩:∃X0 Y0 X Y,mJ bs R0 R X0 Y0 [] X Y []:=by
         have q:=tA bs R0 R HM.out.rl (by have:=HRl.out;omega);rw[show(R0.drop bs).drop bs=[] from LO (by have:=HRl.out;have:=HM.out.rl;simp;omega),show(R.drop bs).drop bs=[] from LO (by have:=HRl.out;simp;omega)] at q;exact⟨_,_,_,_,q⟩
        have hy:Y.length=n-a-bs:=by have h1:=HRl.out;rw[hp.e] at h1;have:=hp.x;simp at h1;omega
        have HPa:=qD hp;have HY:=qD hy;clear hp hy;go_wp2_with fail;refine(sw HO.out _ A X Y [] g n c a (a+bs) n _ _ _ _ (HM.out.KM HPa.out HT.out HC.out J.out HN.out HZ.out) HA.out.symm (by rw[HPa.out.x]) (by rw[HY.out];omega) (by rw[HPa.out.x];omega) (by rw[HY.out];omega) (Lo _) rfl (by omega) rfl).mono ?_;rintro e w2 ⟨rfl,S,hS,h1⟩;have HS:=qD hS;have H1:Hid (dM g w (A++S) w2):=by have:=J.out.then h1;rw[Lm] at this;exact this
        clear hS h1;go_wp2_with fail;go_roundw
        case rel=>
         exact⟨2*bs,A++S,by go_num,by omega,by omega,by rw[LM,HS.out.1.length_eq,LM,HA.out,HPa.out.x,HY.out,<-HN.out];omega,HM.out.last HPa.out HS.out,H1.out⟩
        case measure=>simp[intOf];omega
       ·go_wp2_with fail;go_roundw
        case rel=>
         exact⟨2*bs,A++R,by go_num,by omega,by omega,by rw[LM,HA.out,HRl.out,<-HN.out];omega,HM.out.lone (by have:=HRl.out;omega),J.out⟩
        case measure=>simp[intOf];omega
    ·have HE:Hid (aR (fun p q:PS=>ae (al p).1 (al q).1) L0 L):=nC (by rw[<-HN.out];omega) (by rw[HL.out,<-HN.out];omega) HRu.out;go_wp2_with fail
     go_end0
     exact⟨rfl,L,HE.out,by have:=J.out;simpa using this⟩
def Jc(is:List PI)(w:World)(e:Ending)(w':World):Prop:=
 ∃(A:Option Addr) (m c:Nat) (xs:List PS),e=.returned (.slice A m c)/\xs.map al=aT (is.map ar)/\(∀x∈xs,∃p∈is,x=gU p)/\m<=is.length/\SS w' A m c xs/\Below w.heap.size w w'
structure Ej(w:World)(is:List PI)(i:Nat)(v:Value)(xs:List PS)(wr:World):Prop where
 own:wr.ownsRow w.heap.size 167 12 v xs.length (aJ dP xs)
 eq:xs.map al=aT ((is.take i).map ar)
 le:xs.length<=i
 ok:∀x∈xs,xO w x
 pr:∀x∈xs,∃p∈is,x=gU p
 bel:Below w.heap.size w wr
theorem Ej.step{w:World}{is:List PI}{i:Nat}{v:Value}{xs:List PS}{wr w':World}(h:Ej w is i v xs wr)(hb:Below wr.heap.size wr w'):Ej w is i v xs w':=⟨aV h.own hb,h.eq,h.le,h.ok,h.pr,h.bel.Jp hb⟩
theorem Ej.skip{w:World}{is:List PI}{i:Nat}{v:Value}{xs:List PS}{wr:World}{p:PI}(h:Ej w is i v xs wr)(hp:is[i]?=some p)(hn:(ar p).ne=false):Ej w is (i+1) v xs wr:=by
 refine⟨h.own,?_,by have:=h.le;omega,h.ok,h.pr,h.bel⟩;rw[take_snoc' hp,Lc,Md,io,hn];exact h.eq
theorem Ej.next{w:World}{is:List PI}{i m:Nat}{v v':Value}{xs:List PS}{wr w':World}{p:PI}(h:Ej w is i v xs wr)(hp:is[i]?=some p)(hn:(ar p).ne=true)(hok:iY w p)(hg:wr.grownBy w' v.ownBlock)(hm:m=xs.length+1)(ho:w'.ownsRow w.heap.size 167 12 v' m (aJ dP xs++dP (gU p))):Ej w is (i+1) v' (xs++[gU p]) w':=by
 subst hm;refine⟨?_,?_,by have:=h.le;simp;omega,fun x hx=>?_,fun x hx=>?_,h.bel.grown hg h.bel.size (bU h.own)⟩
 ·rw[bN,LM];exact ho
 ·have e:aT ((is.take (i+1)).map ar)=aT ((is.take i).map ar)++[(ar p).sp]:=by
   rw[take_snoc' hp,Lc,Md,io,hn];rfl
  rw[e,Lc,h.eq];rfl
 ·rcases LY.1 hx with hx|hx
  ·exact h.ok x hx
  ·simp at hx;subst hx;exact hok.span
 ·rcases LY.1 hx with hx|hx
  ·exact h.pr x hx
  ·simp at hx;subst hx;exact⟨p,LP hp,rfl⟩
theorem tB{p:PI}(h:aO p.1.1.2=false):(ar p).ne=false:=by show(aO p.1.1.2&&_&&_)=false;rw[h];rfl
theorem tC{p:PI}(h:aO p.1.2.2=false):(ar p).ne=false:=by show(aO p.1.1.2&&aO p.1.2.2&&_)=false;rw[h,OO];rfl
theorem Ce{p:PI}(h:¬ae (ar p).sp.1 (ar p).sp.2<0):(ar p).ne=false:=by unfold Iv.ne;rw[LW h,OO]
theorem GJ{p:PI}(h1:aO p.1.1.2=true)(h2:aO p.1.2.2=true)(h:ae (ar p).sp.1 (ar p).sp.2<0):(ar p).ne=true:=by
 show(aO p.1.1.2&&aO p.1.2.2&&_)=true;rw[h1,h2,LN h];rfl
structure JI(w:World)(is:List PI)(i:Nat)(v:Value)(xs:List PS)(g:Nat)(p:PI)(wr:World):Prop where
 i:Ej w is i v xs wr
 b5:aE wr g 84 (aM p)
 b6:aE wr (g+1) 167 (ib (gU p))
theorem JI.step{w:World}{is:List PI}{i:Nat}{v:Value}{xs:List PS}{g:Nat}{p:PI}{wr w':World}(h:JI w is i v xs g p wr)(hb:Below wr.heap.size wr w'):JI w is i v xs g p w':=⟨h.i.step hb,h.b5.step hb,h.b6.step hb⟩
theorem Cf(is:List PI)(A:Option Addr)(n c:Nat)(w:World)(hT:cg w)(h:SI w A n c is)(hn:n<=1000000000):
 Calls prog 153 #[.slice A n c] w (Jc is w):=by
 obtain⟨j0,hj0,hy0,hy1,hy2⟩:=Mc lI;have HT:=qD hT;have H:=qD h;have HL:=qD h.sr.ln;clear hT h;go_enter func153,ntmps153;go_wp2_with fail
 go_loopw [3,9] (fun v3 v9 wr=>∃(i:Nat) (xs:List PS),i<=n/\v9=.int .i64 i/\Ej w is i v3 xs wr) (fun _ v9 _=>n-(intOf v9).toNat)
 ·exact⟨0,[],LQ _,rfl,⟨bC _ _ _ _,rfl,qL,by simp,by simp,LH _ _⟩⟩
 case round=>
  obtain⟨i,xs,hi,rfl,I⟩:=hrel;have J:=qD I;by_cases hlt:i<n
  ·obtain⟨p,hp⟩:∃p,is[i]?=some p:=⟨_,LI (by have:=HL.out;omega)⟩;obtain⟨b,off,rfl,hbl,hat,hok⟩:=H.out.at hp;have HP:=qD hp;have HOk:=qD hok;have hbr:b<wr.heap.size:=by have:=I.bel.size;omega
   have hle:=I.le;obtain⟨⟨p0,p1,p2,p3,p4⟩,⟨q0,q1,q2,q3,q4⟩,r0,r1⟩:=hat.keep (I.bel.block b hbl);clear hp hok hat I hbl;go_upto_region 6 with fail
   have KB:JI w is i u3 xs wr.heap.size p ((wr.alloc (.cells (aM p) 84)).alloc (.cells (ib (gU p)) 167)):=
    ⟨(J.out.step ((LH wr.heap.size wr).alloc (qL) _)).step ((LH _ _).alloc (qL) _),(aE.Jq rfl).alloc _,aE.Jq (by simp)⟩
   change (Code.region 6 _ _).wp _ _ _ ((wr.alloc (.cells (aM p) 84)).alloc (.cells (ib (gU p)) 167));generalize (wr.alloc (.cells (aM p) 84)).alloc (.cells (ib (gU p)) 167)=wa at*;generalize wr.heap.size=ga at*;have LB:=qD KB;clear p0 p1 p2 p3 p4 q0 q1 q2 q3 q4 r0 r1 J KB hbr;obtain⟨⟨p0,p1,p2,p3,p4⟩,⟨q0,q1,q2,q3,q4⟩,r0,r1⟩:=cw.Jr LB.out.b5;go_wp2_with fail;refine(iB p.1.1.2 p.1.1.1 _ (HT.out.step LB.out.i.bel) (HOk.out.step LB.out.i.bel).1).mono ?_;rintro e w1 ⟨rfl,hb1⟩;have L1:=qD (LB.out.step hb1);clear hb1 p0 p1 p2 p3 p4 q0 q1 q2 q3 q4 r0 r1 LB;cases h1:aO p.1.1.2
   ·have HI:=qD (L1.out.i.skip HP.out (tB h1));clear h1;go_wp2_with fail;go_roundw
    ·exact⟨i+1,xs,by omega,by go_num,HI.out⟩
    ·simp[intOf];omega
   have V1:=qD h1;clear h1;obtain⟨⟨p0,p1,p2,p3,p4⟩,⟨q0,q1,q2,q3,q4⟩,r0,r1⟩:=cw.Jr L1.out.b5;go_wp2_with fail;refine(iB p.1.2.2 p.1.2.1 _ (HT.out.step L1.out.i.bel) (HOk.out.step L1.out.i.bel).2).mono ?_;rintro e w2 ⟨rfl,hb2⟩;have L2:=qD (L1.out.step hb2);clear hb2 p0 p1 p2 p3 p4 q0 q1 q2 q3 q4 r0 r1 L1;cases h2:aO p.1.2.2
   ·have HI:=qD (L2.out.i.skip HP.out (tC h2));clear h2;go_wp2_with fail;go_roundw
    ·exact⟨i+1,xs,by omega,by go_num,HI.out⟩
    ·simp[intOf];omega
   have V2:=qD h2;clear h2;obtain⟨⟨⟨p0,p1,p2,p3,p4⟩,p5⟩,⟨⟨q0,q1,q2,q3,q4⟩,q5⟩⟩:=xT.Jr L2.out.b6;go_wp2_with fail;refine(ir (gU p).1 (gU p).2 _ (HOk.out.step L2.out.i.bel).1 (HOk.out.step L2.out.i.bel).2).mono ?_;rintro e w3 ⟨rfl,hb3⟩;have L3:=qD (L2.out.step hb3);clear hb3 p0 p1 p2 p3 p4 p5 q0 q1 q2 q3 q4 q5 L2;by_cases h3:ae (ia (gU p).1) (ia (gU p).2)<0
   ·have HN:=qD (GJ V1.out V2.out h3);obtain⟨⟨⟨p0,p1,p2,p3,p4⟩,p5⟩,⟨⟨q0,q1,q2,q3,q4⟩,q5⟩⟩:=xT.Jr L3.out.b6;have hlo:w.heap.size<=w3.heap.size:=L3.out.i.bel.size;have LK:=qD (L3.out.i.step ((LH w3.heap.size w3).alloc (qL) (Obj.cells (ib (gU p)) 167)));go_wp2_with (at_builtin;refine aD _ rfl _ _ 163 rfl w.heap.size 167 j0 (xN (((VC.zero,aC.zero),false),((VC.zero,aC.zero),false))) 12 176 Nc hj0 hy0 hy1 hy2 rfl (by decide) u3 xs.length (aJ dP xs) rfl LK.out.own _ _ 1 _ (dP (gU p)) rfl ⟨rfl,fun _=>⟨_,rfl,Lo _,ap _ _ _⟩⟩ (kg _) (by unfold maxLen;omega) (by omega) ?c5 ?_)
    case c5=>first|omega|(simp;omega)
    intro v' w4 hown hg _;have HI:=qD (LK.out.next HP.out HN.out HOk.out hg rfl hown);clear hown hg p0 p1 p2 p3 p4 p5 q0 q1 q2 q3 q4 q5 h3;go_wp2_with fail;go_roundw
    ·exact⟨i+1,xs++[gU p],by omega,by go_num,HI.out⟩
    ·simp[intOf];omega
   ·have HI:=qD (L3.out.i.skip HP.out (Ce h3));go_wp2_with fail;go_roundw
    ·exact⟨i+1,xs,by omega,by go_num,HI.out⟩
    ·simp[intOf];omega
  ·clear I;go_wp2_with fail;go_ret;obtain⟨A',c',e,hs⟩:=SS.Jt J.out.own rfl (by have:=J.out.le;unfold aF;omega) (fun x hx=>(J.out.ok x hx).step J.out.bel);exact⟨A',_,c',xs,by rw[<-e];rfl,by rw[J.out.eq,LS (by have:=HL.out;omega)],J.out.pr,by have:=J.out.le;have:=HL.out;omega,hs,J.out.bel⟩
theorem Iy:cL (fun p q:PS=>ae (al p).1 (al q).1):=⟨fun _ _=>cO.anti _ _,fun _ _ _=>cO.tr _ _ _⟩
theorem xP(xs:List PS)(A:Option Addr)(n c:Nat)(w:World)(h:SS w A n c xs)(hn:n<=1000000000):
 Calls prog 201 #[.slice A n c] w fun e w'=>∃v,e=.returned v/\w'.ownsRow w.heap.size 167 12 v n (aJ dP xs)/\Below w.heap.size w w':=by
 obtain⟨j0,hj0,hy0,hy1,hy2⟩:=Mc lI;have HL:=qD h.sr.ln;cases A with
 | none=>
  have h0:n=0:=by
   rcases MH n with h0|h0
   ·exact h0
   ·obtain⟨b,off,e,_⟩:=h.sr.el h0;cases e
  subst h0;have HX:Hid (xs=[]):=LO HL.out.symm;clear h;have kn:=fun(w:World)=>Na (P:=prog) w 163 167 none 0 c 0 0 Nc;go_enter func201,ntmps201;go_wp2_with fail;go_ret;exact⟨_,rfl,by rw[HX.out];exact bC _ _ _ _,LH _ _⟩
 | some ad=>
  have hR:cP w w.heap.size 12 (some ad) n (aJ dP xs):=by
   refine⟨by rw[bP db,HL.out],fun hp=>?_⟩;obtain⟨b,off,e,hb,hel⟩:=h.sr.el hp;cases e;refine⟨_,rfl,hb,fun j u hu=>?_⟩;have hj:=(LJ.1 hu).1;rw[bP db] at hj;obtain⟨a,v,g1,g2,g3⟩:=flat_at' db (by omega) xs j hj;have:=hel (j/12) a g1 (j%12) v g2;rw[bn];rw[g3] at hu;cases hu;rw[show off+j=off+j/12*12+j%12 by omega];exact this
  have HR:=qD hR
  have hO:(w.alloc (.cells #[] 167)).ownsRow w.heap.size 167 12 (.slice (some ⟨w.heap.size,0,none⟩) 0 0) 0 []:=
   ⟨rfl,.inr ⟨w.heap.size,0,#[],rfl,qL,aE.Jq rfl,qL,LQ _,rfl,rfl⟩⟩
  have HO:=qD hO
  have h1:∀u∈aJ dP xs,u.oneCell'=true:=by
   intro u hu;obtain⟨p,_,hp⟩:=OU.1 hu;exact kg p u hp
  have H1:=qD h1;clear h hR hO h1;have kn:=fun(w:World)=>Na (P:=prog) w 163 167 (some ad) n c 0 0 Nc;go_enter func201,ntmps201;go_wp2_with (at_builtin;refine aD _ rfl _ _ 163 rfl w.heap.size 167 j0 (xN (((VC.zero,aC.zero),false),((VC.zero,aC.zero),false))) 12 176 Nc hj0 hy0 hy1 hy2 rfl (by decide) (.slice (some ⟨w.heap.size,0,none⟩) 0 0) 0 [] rfl HO.out w.heap.size (some ad) n c (aJ dP xs) rfl (HR.out.alloc (qL) _) H1.out (by unfold maxLen;omega) (by omega) (by simp) ?_);intro v' w2 hown hg _;go_wp2_with fail;go_ret;refine⟨v',rfl,by simpa using hown,?_⟩;exact((LH w.heap.size w).alloc (qL) _).grown hg (by simp) (fun k hk=>by simp[Value.ownBlock] at hk;omega)
theorem xQ(w:World):Calls prog 266 #[.slice none 0 0,.int .i64 0,.int .i64 0,.func (.func 203) #[] #[]] w fun e w'=>e=.returned (.tuple #[])/\w=w':=by
 go_enter func266,ntmps266;go_wp2_with fail
 go_loopw [8] (fun v8 wr=>v8=.int .i64 1/\wr=w) (fun _ _=>0)
 ·exact⟨rfl,rfl⟩
 case round=>
  obtain⟨rfl,rfl⟩:=hrel;go_wp2_with fail
  go_end0
  exact⟨rfl,rfl⟩
theorem uI(w:World):Calls prog 249 #[.slice none 0 0,.int .i64 0,.func (.func 203) #[] #[]] w fun e w'=>e=.returned (.tuple #[])/\w=w':=by
 go_enter func249,ntmps249;go_wp2_with fail
 go_loop [7,8] (fun v7 v8=>v7=.int .i64 0/\v8=.int .i64 20) (fun _ _=>0)
 case atStart=>exact⟨rfl,rfl⟩
 case round=>
  obtain⟨rfl,rfl⟩:=hrel;go_wp2_with fail;refine(xQ _).mono ?_;rintro e w1 ⟨rfl,rfl⟩;go_wp2_with fail
  go_loop [6] (fun v6=>v6=.int .i64 20) (fun _=>0)
  case atStart=>rfl
  case round=>
   subst hrel;go_wp2_with fail
   go_end0
   exact⟨rfl,rfl⟩
theorem zX(w:World):Calls prog 202 #[.slice none 0 0,.func (.func 203) #[] #[]] w fun e w'=>e=.returned (.tuple #[])/\w=w':=by
 go_enter func202,ntmps202;go_wp2_with fail;refine(uI _).mono ?_;rintro e w1 ⟨rfl,rfl⟩;go_wp2_with fail
 go_end0
 exact⟨rfl,rfl⟩
theorem zY(L:List (PS×Nat))(g n c:Nat)(w:World)(hr:bV w g L)(hn:n=L.length)(hz:n*176<=aF)(ht:gE L)(hc:it g w L):
 Calls prog 202 #[.slice (some ⟨g,0,none⟩) n c,.func (.func 203) #[] #[]] w (qY g w [] L []):=by
 have HR:=qD hr;have HN:=qD hn;have HT:=qD ht;have HC:=qD hc;have HZ:=qD hz;clear hr hn ht hc hz;go_enter func202,ntmps202;go_wp2_with fail;refine(uH Iy L g n c _ HR.out HN.out HZ.out HT.out HC.out).mono ?_;rintro e w1 hd;have HD:=qD hd;obtain⟨rfl,_⟩:=hd;go_wp2_with fail
 go_end0
 exact HD.out
def iW(xs ys:List PS):Prop:=ys.Perm xs/\ys.Pairwise fun p q=>ae (al p).1 (al q).1<=0
theorem iW.of{xs:List PS}{S:List (PS×Nat)}(h:aR (fun p q:PS=>ae (al p).1 (al q).1) (bd 0 xs) S):iW xs (S.map Prod.fst):=by
 refine⟨?_,?_⟩
 ·have:=h.perm.map Prod.fst
  rwa [kZ] at this
 ·rw[Nv];refine h.ord.imp fun {a b} hab=>?_;have hab':ae (al a.1).1 (al b.1).1<0\/ae (al a.1).1 (al b.1).1=0/\a.2<b.2:=hab;omega
theorem iW.merge{xs ys:List PS}(h:iW xs ys)(hne:∀x∈xs,ae (al x).1 (al x).2<0/\iy (al x).1/\iy (al x).2):
 fg (fun a=>dj ae a (xs.map al)) (fe ae (ys.map al))/\(fe ae (ys.map al)).length<=xs.length:=by
 have h1:∀s∈ys.map al,ae s.1 s.2<0/\iy s.1/\iy s.2:=by
  intro s hs;obtain⟨x,hx,rfl⟩:=MS.1 hs;exact hne x (h.1.subset hx)
 have h2:(ys.map al).Pairwise fun s t=>ae s.1 t.1<=0:=by rw[Nv];exact h.2
 have hm:=sm cO h1 h2;refine⟨⟨hm.nf,fun a=>by rw[hm.mem];exact xL (h.1.map al)⟩,?_⟩;have:=zU (cm:=ae) (ys.map al);have hl:=h.1.length_eq;simp only[Lb] at this;omega
theorem bV.Jt{w:World}{base g n cap:Nat}{xs:List PS}(h:w.ownsRow base 167 12 (.slice (some ⟨g,0,none⟩) n cap) n (aJ dP xs)):bV w g (bd 0 xs):=by
 rcases h.2 with⟨h',_⟩|⟨g',cap',cur,h',_,hg,_,_,_,htake⟩
 ·simp at h'
 ·simp only[Value.slice.injEq,MP,Addr.mk.injEq,NW,true_and] at h';obtain⟨rfl,rfl⟩:=h'
  have e:aJ gG (bd 0 xs)=aJ dP xs:=by
   have:∀k,aJ gG (bd k xs)=aJ dP xs:=by
    intro k;clear hg htake h
    induction xs generalizing k with
    | nil=>rfl
    | cons x r ih=>
     have e1:aJ gG (bd k (x::r))=dP x++aJ gG (bd (k+1) r):=rfl;rw[e1,ih];rfl
   exact this 0
  refine⟨cur.toList.drop (n*12),?_⟩;show w.heap[g]?=_;rw[hg,e,<-htake,Lf]
theorem bV.reads{w:World}{g n cap:Nat}{L:List (PS×Nat)}(h:bV w g L)(hn:n=L.length)(hc:n<=cap):SR 12 dP w (some ⟨g,0,none⟩) n cap (L.map Prod.fst):=by
 refine⟨by rw[Lb,hn],hc,fun _=>⟨g,0,rfl,h.lt,fun i a hi j v hj=>?_⟩⟩;rw[LV] at hi;obtain⟨p,hp,rfl⟩:=Mn.1 hi;rw[LL];exact h.cell hp j v hj
structure xU(w w2:World)(S:List PS)(i:Nat)(v:Value)(cs:List PS)(wr:World):Prop where
 own:wr.ownsRow w2.heap.size 167 12 v cs.length (aJ dP cs)
 eq:cs.map al=fe ae ((S.take i).map al)
 le:cs.length<=i
 ok:∀x∈cs,xO w x
 pr:∀x∈cs,(∃y∈S,x.1=y.1)/\∃y∈S,x.2=y.2
 bel:Below w2.heap.size w2 wr
section
variable {w w2:World} {S:List PS} {i:Nat} {v:Value} {cs:List PS} {wr w':World}
theorem xU.step(h:xU w w2 S i v cs wr)(hb:Below wr.heap.size wr w'):xU w w2 S i v cs w':=⟨aV h.own hb,h.eq,h.le,h.ok,h.pr,h.bel.Jp hb⟩
theorem lL{α:Type}{cm:α->α->Int}{c:List (α×α)}{s:α×α}(h:c=[]\/∃d l,c=d++[l]/\cm l.2 s.1<0):dF cm c s=c++[s]:=by
 rcases h with rfl|⟨d,l,rfl,h⟩
 ·rfl
 ·unfold dF;have e0:(d++[l]).getLast?=some l:=by simp
  rw[e0];simp only;rw[LZ h]
theorem nD{α:Type}{cm:α->α->Int}{d:List (α×α)}{l s:α×α}(h1:¬cm l.2 s.1<0)(h2:cm l.2 s.2<0):dF cm (d++[l]) s=d++[(l.1,s.2)]:=by
 unfold dF;have e0:(d++[l]).getLast?=some l:=by simp
 rw[e0];simp only;rw[LU h1,LZ h2,PY]
theorem nE{α:Type}{cm:α->α->Int}{d:List (α×α)}{l s:α×α}(h1:¬cm l.2 s.1<0)(h2:¬cm l.2 s.2<0):dF cm (d++[l]) s=d++[l]:=by
 unfold dF;have e0:(d++[l]).getLast?=some l:=by simp
 rw[e0];simp only;rw[LU h1,LU h2]
theorem xU.same(h:xU w w2 S i v cs wr){p:PS}(hp:S[i]?=some p)(hs:dF ae (cs.map al) (al p)=cs.map al):xU w w2 S (i+1) v cs wr:=by
 refine⟨h.own,?_,by have:=h.le;omega,h.ok,h.pr,h.bel⟩;rw[take_snoc' hp,Lc,Md,fR,<-h.eq,hs]
theorem xU.add(h:xU w w2 S i v cs wr){p:PS}(hp:S[i]?=some p)(hs:dF ae (cs.map al) (al p)=cs.map al++[al p])(hok:xO w p){v':Value}{m:Nat}(hg:wr.grownBy w' v.ownBlock)(hm:m=cs.length+1)(ho:w'.ownsRow w2.heap.size 167 12 v' m (aJ dP cs++dP p)):xU w w2 S (i+1) v' (cs++[p]) w':=by
 subst hm;refine⟨?_,?_,by have:=h.le;simp;omega,fun x hx=>?_,fun x hx=>?_,h.bel.grown hg h.bel.size (bU h.own)⟩
 ·rw[bN,LM];exact ho
 ·rw[take_snoc' hp,Lc (l₁:=S.take i),Md,fR,<-h.eq,hs,Lc];rfl
 ·rcases LY.1 hx with hx|hx
  ·exact h.ok x hx
  ·simp at hx;subst hx;exact hok
 ·rcases LY.1 hx with hx|hx
  ·exact h.pr x hx
  ·simp at hx;subst hx;exact⟨⟨x,LP hp,rfl⟩,x,LP hp,rfl⟩
end
abbrev Cg(w:World)(g off:Nat)(q:PC):World:=(cy w g off q.1.1).setCell ⟨g,off+5,none⟩ (.bool q.2)
theorem Ek{w:World}{base g n cap:Nat}{t:TypeId}{xs:List Value}(h:w.ownsRow base t 12 (.slice (some ⟨g,0,none⟩) n cap) n xs)(off:Nat)(q:PC):
 (Cg w g off q).ownsRow base t 12 (.slice (some ⟨g,0,none⟩) n cap) n (cF xs off (kf q)):=by
 have h1:=(h.stored off (.int .i64 q.1.1.k)).1;have h2:=(h1.stored (off+1) (.int .i64 q.1.1.n)).1;have h3:=(h2.stored (off+2) (.string q.1.1.t)).1;have h4:=(h3.stored (off+3) (.slice q.1.1.LA q.1.1.ln q.1.1.lc)).1;have h5:=(h4.stored (off+4) (.slice q.1.1.DA q.1.1.dn q.1.1.dc)).1;exact(h5.stored (off+5) (.bool q.2)).1
theorem GK(d:List PS)(l:PS)(q:PC):cF (aJ dP (d++[l])) (d.length*12+6) (kf q)=aJ dP (d++[(l.1,q)]):=by
 have e1:aJ dP (d++[l])=(aJ dP d++kf l.1)++kf l.2:=by rw[bN];simp[dP]
 have hl:(aJ dP d++kf l.1).length=d.length*12+6:=by rw[LM,bP db,bk]
 rw[gA _ _ _ (by rw[e1,LM,hl,bk,bk];omega),e1,<-hl,QN,bk,La (by rw[LM,bk];omega),Lm,bN];simp[dP]
theorem zZ{B:Nat}{a w:World}(h:Below B a w){b:Nat}(hB:B<=b)(off:Nat)(q:PC):Below B a (Cg w b off q):=(cH h hB off q.1.1).setCell hB _
theorem xU.put{w w2:World}{S:List PS}{i g n cap:Nat}{d:List PS}{l p:PS}{wr:World}(h:xU w w2 S i (.slice (some ⟨g,0,none⟩) n cap) (d++[l]) wr)(hp:S[i]?=some p)(hs:dF ae ((d++[l]).map al) (al p)=(d++[(l.1,p.2)]).map al)(hok:xO w p)(hn:n=d.length+1):xU w w2 S (i+1) (.slice (some ⟨g,0,none⟩) n cap) (d++[(l.1,p.2)]) (Cg wr g (d.length*12+6) p.2):=by
 have ho:=h.own;have hl:(d++[l]).length=n:=by rw[hn];simp
 rw[hl] at ho;refine⟨?_,?_,by have:=h.le;simp at this ⊢;omega,fun x hx=>?_,fun x hx=>?_,zZ h.bel (bU h.own g rfl) _ _⟩
 ·rw[<-GK d l p.2,show(d++[(l.1,p.2)]).length=n by rw[hn];simp];exact Ek ho _ _
 ·rw[take_snoc' hp,Lc (l₁:=S.take i),Md,fR,<-h.eq,hs]
 ·rcases LY.1 hx with hx|hx
  ·exact h.ok x (by simp[hx])
  ·simp at hx;subst hx;exact⟨(h.ok l (by simp)).1,hok.2⟩
 ·rcases LY.1 hx with hx|hx
  ·exact h.pr x (by simp[hx])
  ·simp at hx;subst hx;exact⟨(h.pr l (by simp)).1,p,LP hp,rfl⟩
structure JJ(w w2:World)(S:List PS)(i:Nat)(v:Value)(cs:List PS)(g:Nat)(p:PS)(wr:World):Prop where
 i:xU w w2 S i v cs wr
 b5:aE wr g 167 (ib p)
theorem JJ.step{w w2:World}{S:List PS}{i:Nat}{v:Value}{cs:List PS}{g:Nat}{p:PS}{wr w':World}(h:JJ w w2 S i v cs g p wr)(hb:Below wr.heap.size wr w'):JJ w w2 S i v cs g p w':=⟨h.i.step hb,h.b5.step hb⟩
def Jd(xs:List PS)(w:World)(e:Ending)(w':World):Prop:=
 ∃(A:Option Addr) (m c:Nat) (ys:List PS),e=.returned (.slice A m c)/\(∃S,iW xs S/\ys.map al=fe ae (S.map al))/\(∀y∈ys,(∃x∈xs,y.1=x.1)/\∃x∈xs,y.2=x.2)/\(∀b off,A=some ⟨b,off,none⟩->w.heap.size<=b)/\SS w' A m c ys/\m<=xs.length/\Below w.heap.size w w'
theorem qf(xs:List PS)(A:Option Addr)(n c:Nat)(w:World)(h:SS w A n c xs)(hn:n<=1000000000):
 Calls prog 152 #[.slice A n c] w (Jd xs w):=by
 obtain⟨j0,hj0,hy0,hy1,hy2⟩:=Mc lI;have H:=qD h;have HL:=qD h.sr.ln;clear h;go_enter func152,ntmps152;go_wp2_with fail;refine(xP xs A n c _ H.out hn).mono ?_;rintro e w1 ⟨v1,rfl,hown,hb1⟩;have HB1:=qD hb1;obtain⟨A1,c1,rfl,hc1⟩:=aa hown;have HO:=qD hown;clear hown hb1
 have sorted:Hid (Calls prog 202 #[.slice A1 n c1,.func (.func 203) #[] #[]] w1 fun e w'=>e=.returned (.tuple #[])/\∃S,iW xs S/\SR 12 dP w' A1 n c1 S/\Below w.heap.size w w'):=by
  rcases HO.out.2 with⟨h',h0⟩|⟨g,cap,cur,h',hg,_⟩
  ·cases h';have hx:xs=[]:=LO (by have:=HL.out;omega);refine qD ((zX w1).mono ?_);rintro e w' ⟨rfl,rfl⟩;exact⟨rfl,[],by rw[hx];exact⟨.nil,.nil⟩,SR.nil,HB1.out⟩
  ·cases h';refine qD ((zY (bd 0 xs) g n c1 w1 (bV.Jt HO.out) (by rw[fh];exact HL.out) (by unfold aF;omega) (kd _ _) ?_).mono ?_)
   ·intro x y hx hy wr hbt
    have okx:∀z∈bd 0 xs,xO wr z.1:=by
     intro z hz
     have hz':z.1∈xs:=by
      have:=MT (f:=Prod.fst) hz
      rwa [kZ] at this
     exact(H.out.ok z.1 hz').step (HB1.out.trans (hbt.below HB1.out.size hg))
    exact Ei x.1 y.1 wr (okx x hx) (okx y hy)
   ·rintro e w' ⟨rfl,S,hS,hI⟩;simp only[MC,Lm] at hI;have hl:n=S.length:=by rw[hS.perm.length_eq,fh];exact HL.out
    exact⟨rfl,S.map Prod.fst,iW.of hS,hI.row.reads hl hc1,HB1.out.trans (hI.but.below HB1.out.size hg)⟩
 go_wp2_with fail;refine sorted.out.mono ?_;rintro e w2 ⟨rfl,S,hS,hSR,hb2⟩;clear sorted HO HB1 hc1;have HS:=qD hS;have HSR:=qD hSR;have HB2:=qD hb2;have HSL:Hid (n=S.length):=hSR.ln;have hokS:∀x∈S,xO w x:=fun x hx=>H.out.ok x (hS.1.subset hx);have HOk:=qD hokS;clear hS hSR hb2 hokS;go_wp2_with fail
 go_loopw [3,13] (fun v3 v13 wr=>∃(i:Nat) (cs:List PS),i<=n/\v13=.int .i64 i/\xU w w2 S i v3 cs wr) (fun _ v13 _=>n-(intOf v13).toNat)
 ·exact⟨0,[],LQ _,rfl,⟨bC _ _ _ _,rfl,qL,by simp,by simp,LH _ _⟩⟩
 case round=>
  obtain⟨i,cs,hi,rfl,I⟩:=hrel;have J:=qD I;by_cases hlt:i<n
  ·obtain⟨p,hp⟩:∃p,S[i]?=some p:=⟨_,LI (by have:=HSL.out;omega)⟩;obtain⟨b,off,rfl,hbl,hel⟩:=HSR.out.el (by omega);have hat:xT w2 b (off+i*12) p:=zW fun j v hj=>hel i p hp j v hj;have HP:=qD hp;have HPk:=qD (HOk.out p (LP hp));have hbr:b<wr.heap.size:=by have:=I.bel.size;omega
   have hle:=I.le;obtain⟨⟨⟨p0,p1,p2,p3,p4⟩,p5⟩,⟨⟨q0,q1,q2,q3,q4⟩,q5⟩⟩:=hat.keep (I.bel.block b hbl);obtain⟨m,hm⟩:∃m,m=cs.length:=⟨_,rfl⟩;obtain⟨A3,c3,hv3,hc3⟩:=aa I.own;rw[<-hm] at hv3 hc3 hle;subst hv3;have HM:=qD hm;clear hp hat I hbl hel hm;go_upto_region 8 with fail
   have KB:JJ w w2 S i (.slice A3 m c3) cs wr.heap.size p (wr.alloc (.cells (ib p) 167)):=⟨J.out.step ((LH wr.heap.size wr).alloc (qL) _),aE.Jq rfl⟩;change (Code.region 8 _ _).wp _ _ _ (wr.alloc (.cells (ib p) 167));generalize wr.alloc (.cells (ib p) 167)=wa at*;generalize wr.heap.size=ga at*;have LB:=qD KB;clear p0 p1 p2 p3 p4 p5 q0 q1 q2 q3 q4 q5 J KB hbr;rcases NI cs with hcs|⟨d,l,hcs⟩
   ·have hm1:decide ((m:Int)-1<0)=true:=LN (by have:=HM.out;rw[hcs] at this;simp at this;omega);have HSt:Hid (dF ae (cs.map al) (al p)=cs.map al++[al p]):=qD (lL (.inl (by rw[hcs];rfl)));clear hcs;refine aL (by kernel_rfl) (by kernel_rfl) ?_
    repeat(go_big_quiet_step (fail))
    refine Ln ?_;rintro _ ⟨kw,rfl⟩;have L1:=qD (LB.out.step kw.below);clear hm1 LB;generalize kw.val=w3 at*;obtain⟨⟨⟨p0,p1,p2,p3,p4⟩,p5⟩,⟨⟨q0,q1,q2,q3,q4⟩,q5⟩⟩:=xT.Jr L1.out.b5;have hlo:w2.heap.size<=w3.heap.size:=L1.out.i.bel.size;have LK:=qD (L1.out.i.step ((LH w3.heap.size w3).alloc (qL) (Obj.cells (ib p) 167)));have hown:(w3.alloc (.cells (ib p) 167)).ownsRow w2.heap.size 167 12 (.slice A3 m c3) m (aJ dP cs):=by have:=LK.out.own;rw[<-HM.out] at this;exact this
    have HOw:=qD hown;clear hown;go_wp2_with (at_builtin;refine aD _ rfl _ _ 163 rfl w2.heap.size 167 j0 (xN (((VC.zero,aC.zero),false),((VC.zero,aC.zero),false))) 12 176 Nc hj0 hy0 hy1 hy2 rfl (by decide) (.slice A3 m c3) m (aJ dP cs) rfl HOw.out _ _ 1 _ (dP p) rfl ⟨rfl,fun _=>⟨_,rfl,Lo _,ap _ _ _⟩⟩ (kg _) (by unfold maxLen;omega) (by omega) (by simp;omega) ?_);intro v' w4 hown hg _;have HI:=qD (LK.out.add HP.out HSt.out HPk.out hg (by rw[HM.out]) hown);clear hown hg p0 p1 p2 p3 p4 p5 q0 q1 q2 q3 q4 q5;go_wp2_with fail;go_roundw
    ·exact⟨i+1,cs++[p],by omega,by go_num,HI.out⟩
    ·simp[intOf];omega
   ·rw[My] at hcs;have hml:m=d.length+1:=by rw[HM.out,hcs];simp
    obtain⟨g,hA3⟩:∃g,A3=some ⟨g,0,none⟩:=by
     obtain⟨g,cap,hv,_⟩:=LB.out.i.own.form (by rw[hcs];simp);injection hv with hv
     exact⟨g,hv⟩
    subst hA3
    have hrow:Cd wa g ((m-1)*12+6) l.2:=by
     have ho:=LB.out.i.own;rw[<-HM.out] at ho;refine uF fun j v hj=>?_;have hlt:=(LJ.1 hj).1;rw[bk] at hlt;rw[PT,ho.cellAt _ (by omega)];refine bg db (xs:=cs) (a:=l) (by rw[hcs,show m-1=d.length by omega];simp) ?_;show(kf l.1++kf l.2)[6+j]?=some v;rw[Lh (by rw[bk];omega),bk,show 6+j-6=j by omega];exact hj
    have hokl:xO w l:=LB.out.i.ok l (by rw[hcs];simp);have HOl:=qD hokl;have HML:=qD hml;have HCS:=qD hcs;have hwb:Hid (Below w.heap.size w wa):=qD (HB2.out.trans (LB.out.i.bel.mono HB2.out.size));obtain⟨⟨r0,r1,r2,r3,r4⟩,r5⟩:=hrow;obtain⟨⟨⟨p0,p1,p2,p3,p4⟩,p5⟩,⟨⟨q0,q1,q2,q3,q4⟩,q5⟩⟩:=xT.Jr LB.out.b5;have R0:∀k:BW wa,k.val.cell? ⟨g,(m-1)*12+6,none⟩=some (.int .i64 l.2.1.1.k):=fun k=>k.cell r0;have R1:∀k:BW wa,k.val.cell? ⟨g,(m-1)*12+6+1,none⟩=some (.int .i64 l.2.1.1.n):=fun k=>k.cell r1;have R2:∀k:BW wa,k.val.cell? ⟨g,(m-1)*12+6+2,none⟩=some (.string l.2.1.1.t):=fun k=>k.cell r2;have R3:∀k:BW wa,k.val.cell? ⟨g,(m-1)*12+6+3,none⟩=some (.slice l.2.1.1.LA l.2.1.1.ln l.2.1.1.lc):=fun k=>k.cell r3;have R4:∀k:BW wa,k.val.cell? ⟨g,(m-1)*12+6+4,none⟩=some (.slice l.2.1.1.DA l.2.1.1.dn l.2.1.1.dc):=fun k=>k.cell r4;have R5:∀k:BW wa,k.val.cell? ⟨g,(m-1)*12+6+5,none⟩=some (.bool l.2.2):=fun k=>k.cell r5;have P0:∀k:BW wa,k.val.cell? ⟨ga,0,none⟩=some (.int .i64 p.1.1.1.k):=fun k=>k.cell p0;have P1:∀k:BW wa,k.val.cell? ⟨ga,1,none⟩=some (.int .i64 p.1.1.1.n):=fun k=>k.cell p1;have P2:∀k:BW wa,k.val.cell? ⟨ga,2,none⟩=some (.string p.1.1.1.t):=fun k=>k.cell p2;have P3:∀k:BW wa,k.val.cell? ⟨ga,3,none⟩=some (.slice p.1.1.1.LA p.1.1.1.ln p.1.1.1.lc):=fun k=>k.cell p3;have P4:∀k:BW wa,k.val.cell? ⟨ga,4,none⟩=some (.slice p.1.1.1.DA p.1.1.1.dn p.1.1.1.dc):=fun k=>k.cell p4;have P5:∀k:BW wa,k.val.cell? ⟨ga,5,none⟩=some (.bool p.1.2):=fun k=>k.cell p5;have i0:(0:Int)<=(m:Int)-1:=by omega
    have i1:(m:Int)-1<(m:Int):=by omega
    have W2:((m:Int)-1).toNat=m-1:=by omega
    have hm1:decide ((m:Int)-1<0)=false:=LW (by omega)
    have K1:Hid (∀k:BW wa,Calls prog 204 #[Cc l.2,Cc p.1] k.val fun e w''=>e=.returned (.int .i64 (ae (ia l.2) (ia p.1)))/\∃k:BW wa,w''=k.val):=fun k=>
     Calls.bw (ir l.2 p.1 k.val ((HOl.out.step hwb.out).2.step k.below) ((HPk.out.step hwb.out).1.step k.below))
    clear hcs hokl hml r0 r1 r2 r3 r4 r5 p0 p1 p2 p3 p4 p5 q0 q1 q2 q3 q4 q5;refine aL (by kernel_rfl) (by kernel_rfl) ?_
    repeat(go_big_quiet_step (with_reducible exact K1.out _))
    refine Ln ?_;rintro _ ⟨kw,rfl⟩;have L1:=qD (LB.out.step kw.below);clear R0 R1 R2 R3 R4 R5 P0 P1 P2 P3 P4 P5 K1 i0 i1 W2 hm1 LB hwb;generalize kw.val=w3 at*;by_cases hc:ae (ia l.2) (ia p.1)<0
    ·have HSt:Hid (dF ae (cs.map al) (al p)=cs.map al++[al p]):=qD (lL (.inr ⟨d.map al,al l,by rw[HCS.out,Lc];rfl,hc⟩));obtain⟨⟨⟨p0,p1,p2,p3,p4⟩,p5⟩,⟨⟨q0,q1,q2,q3,q4⟩,q5⟩⟩:=xT.Jr L1.out.b5;have hlo:w2.heap.size<=w3.heap.size:=L1.out.i.bel.size;have LK:=qD (L1.out.i.step ((LH w3.heap.size w3).alloc (qL) (Obj.cells (ib p) 167)));have hown:(w3.alloc (.cells (ib p) 167)).ownsRow w2.heap.size 167 12 (.slice (some ⟨g,0,none⟩) m c3) m (aJ dP cs):=by have:=LK.out.own;rw[<-HM.out] at this;exact this
     have HOw:=qD hown;clear hown;go_wp2_with (at_builtin;refine aD _ rfl _ _ 163 rfl w2.heap.size 167 j0 (xN (((VC.zero,aC.zero),false),((VC.zero,aC.zero),false))) 12 176 Nc hj0 hy0 hy1 hy2 rfl (by decide) (.slice (some ⟨g,0,none⟩) m c3) m (aJ dP cs) rfl HOw.out _ _ 1 _ (dP p) rfl ⟨rfl,fun _=>⟨_,rfl,Lo _,ap _ _ _⟩⟩ (kg _) (by unfold maxLen;omega) (by omega) (by simp;omega) ?_);intro v' w4 hown hg _;have HI:=qD (LK.out.add HP.out HSt.out HPk.out hg (by rw[HM.out]) hown);clear hown hg p0 p1 p2 p3 p4 p5 q0 q1 q2 q3 q4 q5;go_wp2_with fail;go_roundw
     ·exact⟨i+1,cs++[p],by omega,by go_num,HI.out⟩
     ·simp[intOf];omega
    ·go_upto_region 10 with fail
     have hrow:Cd w3 g ((m-1)*12+6) l.2:=by
      have ho:=L1.out.i.own;rw[<-HM.out] at ho;have hml:=HML.out;refine uF fun j v hj=>?_;have hlt:=(LJ.1 hj).1;rw[bk] at hlt;rw[PT,ho.cellAt _ (by omega)];refine bg db (xs:=cs) (a:=l) (by rw[HCS.out,show m-1=d.length by omega];simp) ?_;show(kf l.1++kf l.2)[6+j]?=some v;rw[Lh (by rw[bk];omega),bk,show 6+j-6=j by omega];exact hj
     have hwb:Hid (Below w.heap.size w w3):=qD (HB2.out.trans (L1.out.i.bel.mono HB2.out.size));obtain⟨⟨r0,r1,r2,r3,r4⟩,r5⟩:=hrow;obtain⟨_,⟨⟨q0,q1,q2,q3,q4⟩,q5⟩⟩:=xT.Jr L1.out.b5;have R0:∀k:BW w3,k.val.cell? ⟨g,(m-1)*12+6,none⟩=some (.int .i64 l.2.1.1.k):=fun k=>k.cell r0;have R1:∀k:BW w3,k.val.cell? ⟨g,(m-1)*12+6+1,none⟩=some (.int .i64 l.2.1.1.n):=fun k=>k.cell r1;have R2:∀k:BW w3,k.val.cell? ⟨g,(m-1)*12+6+2,none⟩=some (.string l.2.1.1.t):=fun k=>k.cell r2;have R3:∀k:BW w3,k.val.cell? ⟨g,(m-1)*12+6+3,none⟩=some (.slice l.2.1.1.LA l.2.1.1.ln l.2.1.1.lc):=fun k=>k.cell r3;have R4:∀k:BW w3,k.val.cell? ⟨g,(m-1)*12+6+4,none⟩=some (.slice l.2.1.1.DA l.2.1.1.dn l.2.1.1.dc):=fun k=>k.cell r4;have R5:∀k:BW w3,k.val.cell? ⟨g,(m-1)*12+6+5,none⟩=some (.bool l.2.2):=fun k=>k.cell r5;have Q0:∀k:BW w3,k.val.cell? ⟨ga,6,none⟩=some (.int .i64 p.2.1.1.k):=fun k=>k.cell q0;have Q1:∀k:BW w3,k.val.cell? ⟨ga,7,none⟩=some (.int .i64 p.2.1.1.n):=fun k=>k.cell q1;have Q2:∀k:BW w3,k.val.cell? ⟨ga,8,none⟩=some (.string p.2.1.1.t):=fun k=>k.cell q2;have Q3:∀k:BW w3,k.val.cell? ⟨ga,9,none⟩=some (.slice p.2.1.1.LA p.2.1.1.ln p.2.1.1.lc):=fun k=>k.cell q3;have Q4:∀k:BW w3,k.val.cell? ⟨ga,10,none⟩=some (.slice p.2.1.1.DA p.2.1.1.dn p.2.1.1.dc):=fun k=>k.cell q4;have Q5:∀k:BW w3,k.val.cell? ⟨ga,11,none⟩=some (.bool p.2.2):=fun k=>k.cell q5;have hml:=HML.out;have i0:(0:Int)<=(m:Int)-1:=by omega
     have i1:(m:Int)-1<(m:Int):=by omega
     have W2:((m:Int)-1).toNat=m-1:=by omega
     have K1:Hid (∀k:BW w3,Calls prog 204 #[Cc l.2,Cc p.2] k.val fun e w''=>e=.returned (.int .i64 (ae (ia l.2) (ia p.2)))/\∃k:BW w3,w''=k.val):=fun k=>
      Calls.bw (ir l.2 p.2 k.val ((HOl.out.step hwb.out).2.step k.below) ((HPk.out.step hwb.out).2.step k.below))
     clear hml r0 r1 r2 r3 r4 r5 q0 q1 q2 q3 q4 q5;refine aL (by kernel_rfl) (by kernel_rfl) ?_
     repeat(go_big_quiet_step (with_reducible exact K1.out _))
     refine Ln ?_;rintro _ ⟨kw,rfl⟩;have L2:=qD (L1.out.step kw.below);clear R0 R1 R2 R3 R4 R5 Q0 Q1 Q2 Q3 Q4 Q5 K1 i0 i1 W2 L1 hwb;generalize kw.val=w4 at*;by_cases hd:ae (ia l.2) (ia p.2)<0
     ·have hml:=HML.out
      have hst:dF ae ((d++[l]).map al) (al p)=(d++[(l.1,p.2)]).map al:=by
       rw[Lc,Lc];exact nD hc hd
      have HI:Hid (xU w w2 S (i+1) (.slice (some ⟨g,0,none⟩) m c3) (d++[(l.1,p.2)]) (Cg w4 g ((m-1)*12+6) p.2)):=by
       have h0:=L2.out.i;rw[HCS.out] at h0;have:=h0.put HP.out hst HPk.out hml;rw[show d.length=m-1 by omega] at this;exact qD this
      have ho:w4.ownsRow w2.heap.size 167 12 (.slice (some ⟨g,0,none⟩) m c3) m (aJ dP cs):=by have:=L2.out.i.own;rw[<-HM.out] at this;exact this
      have z:=ho.frozenAt
      have hrow:Cd w4 g ((m-1)*12+6) l.2:=by
       have ho:=L2.out.i.own;rw[<-HM.out] at ho;have hml:=HML.out;refine uF fun j v hj=>?_;have hlt:=(LJ.1 hj).1;rw[bk] at hlt;rw[PT,ho.cellAt _ (by omega)];refine bg db (xs:=cs) (a:=l) (by rw[HCS.out,show m-1=d.length by omega];simp) ?_;show(kf l.1++kf l.2)[6+j]?=some v;rw[Lh (by rw[bk];omega),bk,show 6+j-6=j by omega];exact hj
      obtain⟨⟨r0,r1,r2,r3,r4⟩,r5⟩:=hrow;obtain⟨_,⟨⟨q0,q1,q2,q3,q4⟩,q5⟩⟩:=xT.Jr L2.out.b5;have i0:(0:Int)<=(m:Int)-1:=by omega
      have i1:(m:Int)-1<(m:Int):=by omega
      have W2:((m:Int)-1).toNat=m-1:=by omega
      clear ho hst hml;go_upto_region 12 with fail
      clear r0 r1 r2 r3 r4 r5 q0 q1 q2 q3 q4 q5 z i0 i1 W2;obtain⟨w5,hw5,HI5⟩:∃w5,Cg w4 g ((m-1)*12+6) p.2=w5/\Hid (xU w w2 S (i+1) (.slice (some ⟨g,0,none⟩) m c3) (d++[(l.1,p.2)]) w5):=⟨_,rfl,HI⟩;unfold Cg cy at hw5;rw[hw5];clear hw5 HI;go_wp2_with fail;go_roundw
      ·exact⟨i+1,d++[(l.1,p.2)],by omega,by go_num,HI5.out⟩
      ·simp[intOf];omega
     ·have hst:dF ae (cs.map al) (al p)=cs.map al:=by
       rw[HCS.out,Lc];exact nE hc hd
      have HI:=qD (L2.out.i.same HP.out hst);clear hst;go_wp2_with fail;go_roundw
      ·exact⟨i+1,cs,by omega,by go_num,HI.out⟩
      ·simp[intOf];omega
  ·clear I;go_wp2_with fail;go_ret;obtain⟨A',c',e,hs⟩:=SS.Jt J.out.own rfl (by have:=J.out.le;unfold aF;omega) (fun x hx=>(J.out.ok x hx).step (HB2.out.trans (J.out.bel.mono HB2.out.size)));refine⟨A',_,c',cs,by rw[<-e];rfl,⟨S,HS.out,by rw[J.out.eq,LS (by have:=HSL.out;omega)]⟩,fun y hy=>⟨by obtain⟨z,hz,e⟩:=(J.out.pr y hy).1;exact⟨z,HS.out.1.subset hz,e⟩,by obtain⟨z,hz,e⟩:=(J.out.pr y hy).2;exact⟨z,HS.out.1.subset hz,e⟩⟩,fun b off hA=>?_,hs,?_,HB2.out.trans (J.out.bel.mono HB2.out.size)⟩
   ·have h1:=J.out.own;rw[e,hA] at h1;have:=bU h1 b rfl;have:=HB2.out.size;omega
   ·have:=J.out.le;have:=HL.out;omega
open Go.ChangeShapes Go.WideShapes Go.ChangeAt Go.Joins Go.Deep
def cC{H:Type}(t:TypeId)(d:DataW H):Prop:=∀z∈d.weights prog t,z<=jT
theorem gH{H:Type}{t:TypeId}{l:List (DataW H)}(h:∀z∈DataW.weightsAll prog t l,z<=jT):∀d∈l,cC t d:=by
 induction l with
 | nil=>intro d hd;simp at hd
 | cons x r ih=>
  intro d hd;simp only[DataW.weightsAll,LY] at h;rcases Li.1 hd with rfl|hd
  ·exact fun z hz=>h z (.inl hz)
  ·exact ih (fun z hz=>h z (.inr hz)) d hd
theorem qg{H:Type}{t:TypeId}{ts:List TypeId}{d:DataW H}{r:List (DataW H)}(h:(DataW.weightsEach prog (t::ts) (d::r)).all (·<=reachBytes)=true):cC t d/\(DataW.weightsEach prog ts r).all (·<=reachBytes)=true:=by
 simp only[DataW.weightsEach,OK,ME] at h;refine⟨fun z hz=>?_,h.2⟩;have:=PN.1 h.1 z hz;exact NN this
theorem ki:Tryz.prog.bytesOf 29=80:=by kernel_rfl
theorem oT:Tryz.prog.bytesOf 73=96:=by kernel_rfl
theorem bJ:Tryz.prog.cellsOf 29=5:=by kernel_rfl
theorem iv:Tryz.prog.cellsOf 73=6:=by kernel_rfl
theorem ag:Tryz.prog.cellsOf 3=1:=by kernel_rfl
theorem ak:Tryz.prog.cellsOf 9=1:=by kernel_rfl
theorem eb:Tryz.prog.cellsOf 26=1:=by kernel_rfl
theorem tD:Tryz.prog.cellsOf 27=1:=by kernel_rfl
theorem za{α:Type}{l:List α}(h:l.length=5):∃a b c d e,l=[a,b,c,d,e]:=by
 match l,h with
 | [a,b,c,d,e],_=>exact⟨a,b,c,d,e,rfl⟩
theorem Je{α:Type}{l:List α}(h:l.length=6):∃a b c d e f,l=[a,b,c,d,e,f]:=by
 match l,h with
 | [a,b,c,d,e,f],_=>exact⟨a,b,c,d,e,f,rfl⟩
theorem Hy{α:Type}{l:List α}(h:l.length=2):∃a b,l=[a,b]:=by
 match l,h with
 | [a,b],_=>exact⟨a,b,rfl⟩
section
variable {H:Type} {enc:TypeId×Value->H} {W:World} {base:Nat} {spare:Nat->Bool} {held:Bool}
theorem cx{a:Addr}{n:Nat}{cs:List Value}(h:W.cells? base a n=some cs)(hn:0<n):∃b off,a=⟨b,off,none⟩/\∀i,i<n->W.cell? ⟨b,off+i,none⟩=cs[i]?:=by
 obtain⟨_,hl,hat⟩:=World.cells?_some h;obtain⟨b,off,spot⟩:=a;have h0:=hat 0 hn;rw[LI (by omega)] at h0;have hs:spot=none:=by simpa[Addr.add] using World.cell?_spot h0
 subst hs;exact⟨b,off,rfl,fun i hi=>by rw[<-bn];exact hat i hi⟩
def zc(H:Type)(enc:TypeId×Value->H)(W:World)(base:Nat)(spare:Nat->Bool)(held:Bool)(n:Nat):Prop:=
 ∀(cs:List Value) (y:DataW H×List MemPlace),DataW.trod enc prog W base spare held n 29 cs=some y->cC 29 y.1->∃c x,cs=c.list/\RW W c x
theorem fS{α:Type}{p:Nat->α->Prop}(d:α)(len:Nat)(h:∀i,i<len->∃x,p i x):∃f:Nat->α,∀i,i<len->p i (f i):=by
 refine⟨fun i=>if h':i<len then(h i h').choose else d,fun i h'=>?_⟩;simp only[dif_pos h'];exact(h i h').choose_spec
theorem Ci(n:Nat){v:Value}{y:DataW H×List MemPlace}(ih:∀n',n'<n->zc H enc W base spare held n')(h:DataW.trod enc prog W base spare held n 26 [v]=some y)(hw:cC 26 y.1):
 ∃(LA:Option Addr) (ln lc:Nat) (l:List aC),v=.slice LA ln lc/\ln=l.length/\ln<=lc/\ln*80<=aF/\(0<ln->∃b off,LA=some ⟨b,off,none⟩/\∀(i:Nat) (y:aC),l[i]?=some y->∃e,bS W b (off+i*5) e/\RW W e y):=by
 rcases Nf Mh h with⟨hcs,_⟩|⟨a,len,cap,elems,rest,n',rfl,hcs,rfl,_,hlc,hcm,hel,hat,_,_⟩
 ·simp at hcs;exact⟨none,0,0,[],hcs,rfl,qL,by decide,fun h=>absurd h (by omega)⟩
 ·simp at hcs;subst hcs;simp only[cC,DataW.weights,Mh,Li,LY,ki] at hw
  have hsz:len*80<=aF:=by
   have:=hw _ (.inl rfl);simp only[Lb,hel] at this;have h2:len*80<=(len+rest.length)*80:=MU _ (by omega);have:=dG;omega
  have wl:=gH (l:=elems.map (·.1)) (fun z hz=>hw z (.inr (.inl hz)));rcases MH len with h0|hp
  ·exact⟨some a,len,cap,[],rfl,h0,hlc,hsz,fun h=>absurd h (by omega)⟩
  have step:∀i,i<len->∃cs',W.cells? base (a.add (i*5)) 5=some cs'/\∃e x,cs'=VC.list e/\RW W e x:=by
   intro i hi;have h1:=hat i hi;rw[bJ,LI (by omega)] at h1;obtain⟨cs',hcs',ht'⟩:=NA.1 h1;exact⟨cs',hcs',ih n' (by omega) cs' _ ht' (wl _ (MT (Mz _)))⟩
  obtain⟨cs0,h0,_⟩:=step 0 hp;obtain⟨b,off,ha,_⟩:=cx h0 (by omega);have ha':a=⟨b,off,none⟩:=by simpa[Addr.add] using ha
  subst ha'
  obtain⟨f,hf⟩:=fS (p:=fun i x=>∃e,bS W b (off+i*5) e/\RW W e x) aC.zero len (fun i hi=>by
   obtain⟨cs',hcs',e,x,rfl,hx⟩:=step i hi
   rw[bn] at hcs'
   obtain⟨b',off',ha',hc⟩:=cx hcs' (by omega)
   injection ha' with e1 e2
   subst e1 e2
   exact⟨x,e,⟨hc 0 (by omega),hc 1 (by omega),hc 2 (by omega),hc 3 (by omega),hc 4 (by omega)⟩,hx⟩)
  refine⟨_,len,cap,(List.range len).map f,rfl,by simp,hlc,hsz,fun _=>⟨b,off,rfl,fun i y hi=>?_⟩⟩;have hlt:i<len:=by have:=(LJ.1 hi).1;simpa using this
  rw[LV,NH hlt] at hi;simp only[Mj,MP] at hi;subst hi;exact hf i hlt
theorem El(n:Nat){v:Value}{y:DataW H×List MemPlace}(ih:∀n',n'<n->zc H enc W base spare held n')(h:DataW.trod enc prog W base spare held n 27 [v]=some y)(hw:cC 27 y.1):
 ∃(DA:Option Addr) (dn dc:Nat) (d:List bf),v=.slice DA dn dc/\dn=d.length/\dn<=dc/\dn*96<=jT/\(0<dn->∃b off,DA=some ⟨b,off,none⟩/\∀(i:Nat) (f:bf),d[i]?=some f->W.cell? ⟨b,off+i*6,none⟩=some (.string f.s)/\f.s.size<=aF/\∃e,bS W b (off+i*6+1) e/\RW W e f.v):=by
 rcases Nf NM h with⟨hcs,_⟩|⟨a,len,cap,elems,rest,n',rfl,hcs,rfl,_,hlc,hcm,hel,hat,_,_⟩
 ·simp at hcs;exact⟨none,0,0,[],hcs,rfl,qL,by decide,fun h=>absurd h (by omega)⟩
 ·simp at hcs;subst hcs;simp only[cC,DataW.weights,NM,Li,LY,oT] at hw
  have hsz:len*96<=jT:=by
   have:=hw _ (.inl rfl);simp only[Lb,hel] at this;have h2:len*96<=(len+rest.length)*96:=MU _ (by omega);omega
  have wl:=gH (l:=elems.map (·.1)) (fun z hz=>hw z (.inr (.inl hz)));rcases MH len with h0|hp
  ·exact⟨some a,len,cap,[],rfl,h0,hlc,hsz,fun h=>absurd h (by omega)⟩
  have step:∀i,i<len->∃cs',W.cells? base (a.add (i*6)) 6=some cs'/\∃(s:ByteArray) (e:VC) (x:aC),cs'=.string s::VC.list e/\s.size<=aF/\RW W e x:=by
   intro i hi;have h1:=hat i hi;rw[iv,LI (by omega)] at h1;obtain⟨cs',hcs',ht'⟩:=NA.1 h1;have hwi:=wl _ (MT (Mz (l:=elems) (n:=i) (by omega)));generalize elems[i]=q at*;obtain⟨ys,n'',rfl,rfl,hcl,hyl,hf⟩:=Mu PH ht';rw[iv] at hcl;obtain⟨v0,v1,v2,v3,v4,v5,rfl⟩:=Je hcl;obtain⟨y0,y1,rfl⟩:=Hy hyl;have f0:DataW.trod enc prog W base spare held n'' 9 [v0]=some y0:=by simpa[ak] using hf 0 _ rfl
   have f1:DataW.trod enc prog W base spare held n'' 29 [v1,v2,v3,v4,v5]=some y1:=by simpa[bJ] using hf 1 _ rfl
   obtain⟨s,e0,rfl,_⟩:=NO MB f0;simp only[Ml,NW] at e0;subst e0;simp only[cC,DataW.weights,PH,List.map,DataW.weightsEach,LY] at hwi;obtain⟨e,x,he,hx⟩:=ih n'' (by omega) _ _ f1 (fun z hz=>hwi z (.inr (.inl hz)));refine⟨_,hcs',s,e,x,by rw[he],Lt (hwi s.size (.inl (by simp))) dG,hx⟩
  obtain⟨cs0,h0,_⟩:=step 0 hp;obtain⟨b,off,ha,_⟩:=cx h0 (by omega);have ha':a=⟨b,off,none⟩:=by simpa[Addr.add] using ha
  subst ha'
  obtain⟨f,hf⟩:=fS (p:=fun i (f:bf)=>W.cell? ⟨b,off+i*6,none⟩=some (.string f.s)/\f.s.size<=aF/\∃e,bS W b (off+i*6+1) e/\RW W e f.v) (.mk empty aC.zero) len (fun i hi=>by
   obtain⟨cs',hcs',s,e,x,rfl,hs,hx⟩:=step i hi
   rw[bn] at hcs'
   obtain⟨b',off',ha',hc⟩:=cx hcs' (by omega)
   injection ha' with e1 e2
   subst e1 e2
   exact⟨.mk s x,hc 0 (by omega),hs,e,⟨hc 1 (by omega),hc 2 (by omega),hc 3 (by omega),hc 4 (by omega),hc 5 (by omega)⟩,hx⟩)
  refine⟨_,len,cap,(List.range len).map f,rfl,by simp,hlc,hsz,fun _=>⟨b,off,rfl,fun i y hi=>?_⟩⟩;have hlt:i<len:=by have:=(LJ.1 hi).1;simpa using this
  rw[LV,NH hlt] at hi;simp only[Mj,MP] at hi;subst hi;exact hf i hlt
theorem uJ:∀(fuel:Nat) (cs:List Value) (y:DataW H×List MemPlace),DataW.trod enc prog W base spare held fuel 29 cs=some y->cC 29 y.1->∃c x,cs=c.list/\RW W c x/\c.dn*96<=jT:=by
 intro fuel
 induction fuel using Nat.strongRecOn with
 | _ fuel ih=>
 intro cs y h hw;obtain⟨ys,n,rfl,rfl,hcl,hyl,hf⟩:=Mu Mt h;rw[bJ] at hcl;obtain⟨v0,v1,v2,v3,v4,rfl⟩:=za hcl;obtain⟨y0,y1,y2,y3,y4,rfl⟩:=za hyl;have f0:DataW.trod enc prog W base spare held n 3 [v0]=some y0:=by simpa[ag] using hf 0 _ rfl
 have f1:DataW.trod enc prog W base spare held n 3 [v1]=some y1:=by simpa[ag] using hf 1 _ rfl
 have f2:DataW.trod enc prog W base spare held n 9 [v2]=some y2:=by simpa[ak] using hf 2 _ rfl
 have f3:DataW.trod enc prog W base spare held n 26 [v3]=some y3:=by simpa[eb] using hf 3 _ rfl
 have f4:DataW.trod enc prog W base spare held n 27 [v4]=some y4:=by simpa[tD] using hf 4 _ rfl
 obtain⟨k,e0,rfl,_⟩:=Mm MY f0;obtain⟨m,e1,rfl,_⟩:=Mm MY f1;obtain⟨t,e2,rfl,_⟩:=NO MB f2;simp only[Ml,NW] at e0 e1 e2;subst e0 e1 e2
 have hw':cC 9 (DataW.lit (H:=H) (.string t.data.toList))/\cC 26 y3.1/\cC 27 y4.1:=by
  simp only[cC,DataW.weights,Mt,List.map,DataW.weightsEach,LY] at hw;refine⟨fun z hz=>hw z ?_,fun z hz=>hw z ?_,fun z hz=>hw z ?_⟩
  ·simp only[DataW.weights] at hz;exact .inr (.inr (.inl hz))
  ·exact .inr (.inr (.inr (.inl hz)))
  ·exact .inr (.inr (.inr (.inr (.inl hz))))
 obtain⟨w2,w3,w4⟩:=hw';have htz:t.size<=aF:=Lt (w2 t.size (by simp[DataW.weights])) dG
 have ih':∀n',n'<n+1->zc H enc W base spare held n':=fun n' hn cs y h1 h2=>by
  obtain⟨c,x,e,r,_⟩:=ih n' (by omega) cs y h1 h2;exact⟨c,x,e,r⟩
 obtain⟨LA,ln,lc,l,rfl,hl1,hl2,hl3,hl4⟩:=Ci n (fun n' hn=>ih' n' (by omega)) f3 w3;obtain⟨DA,dn,dc,d,rfl,hd1,hd2,hd3,hd4⟩:=El n (fun n' hn=>ih' n' (by omega)) f4 w4;refine⟨⟨k,m,t,LA,ln,lc,DA,dn,dc⟩,.mk k m t l d,rfl,mK.shut ⟨rfl,rfl,rfl,htz,hl1,hl2,hl3,fun hp=>?_,hd1,hd2,Lt hd3 dG,fun hp=>?_⟩,hd3⟩
 ·obtain⟨b,off,e,h⟩:=hl4 hp;exact⟨b,off,e,Ft.Kp,h⟩
 ·obtain⟨b,off,e,h⟩:=hd4 hp;exact⟨b,off,e,Ft.Kp,h⟩
theorem zd(fuel:Nat)(cs:List Value)(y:DataW H×List MemPlace)(h:DataW.trod enc prog W base spare held fuel 29 cs=some y)(hl:cC 29 y.1):∃c x,cs=c.list/\RW W c x:=by
 obtain⟨c,x,e,r,_⟩:=uJ fuel cs y h hl;exact⟨c,x,e,r⟩
end
end Go.Proofs.YthfahkaadbdicaaGreatDoor
