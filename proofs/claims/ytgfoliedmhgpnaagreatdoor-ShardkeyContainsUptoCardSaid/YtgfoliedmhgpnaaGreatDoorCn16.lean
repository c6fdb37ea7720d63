/- A part of the proof. -/
import Derived.Test.YtgfoliedmhgpnaaGreatDoorCn15
set_option maxRecDepth 100000
set_option maxHeartbeats 16000000
open Go.Proofs.Tryz
open ByteArray (empty)
namespace Go.Proofs.YtgfoliedmhgpnaaGreatDoor
open Go.RowKit
section
variable {k b n g m i c ln dn q lc j dc:Nat} {w w2 w1:World} {t:TypeId} {P:Program} {Q:Exit -> Act -> World -> Prop} {a x y:Int} {l:List ByteArray} {A LA DA:Option Addr} {ha:Bool}
theorem dQ.NN{L:List (PS×Nat)}(h:dQ g w L w2){p:Nat}(hp:p<L.length)(hq:q<L.length)(x y:PS×Nat):dQ g w ((L.set p y).set q x) ((((((((((((((((((((((((w2.setCell ⟨g,p*12,none⟩ (.int .i64 y.1.1.1.1.k)).setCell ⟨g,p*12+1,none⟩ (.int .i64 y.1.1.1.1.n)).setCell ⟨g,p*12+2,none⟩ (.string y.1.1.1.1.t)).setCell ⟨g,p*12+3,none⟩ (.slice y.1.1.1.1.LA y.1.1.1.1.ln y.1.1.1.1.lc)).setCell ⟨g,p*12+4,none⟩ (.slice y.1.1.1.1.DA y.1.1.1.1.dn y.1.1.1.1.dc)).setCell ⟨g,p*12+5,none⟩ (.bool y.1.1.2)).setCell ⟨g,p*12+6,none⟩ (.int .i64 y.1.2.1.1.k)).setCell ⟨g,p*12+7,none⟩ (.int .i64 y.1.2.1.1.n)).setCell ⟨g,p*12+8,none⟩ (.string y.1.2.1.1.t)).setCell ⟨g,p*12+9,none⟩ (.slice y.1.2.1.1.LA y.1.2.1.1.ln y.1.2.1.1.lc)).setCell ⟨g,p*12+10,none⟩ (.slice y.1.2.1.1.DA y.1.2.1.1.dn y.1.2.1.1.dc)).setCell ⟨g,p*12+11,none⟩ (.bool y.1.2.2)).setCell ⟨g,q*12,none⟩ (.int .i64 x.1.1.1.1.k)).setCell ⟨g,q*12+1,none⟩ (.int .i64 x.1.1.1.1.n)).setCell ⟨g,q*12+2,none⟩ (.string x.1.1.1.1.t)).setCell ⟨g,q*12+3,none⟩ (.slice x.1.1.1.1.LA x.1.1.1.1.ln x.1.1.1.1.lc)).setCell ⟨g,q*12+4,none⟩ (.slice x.1.1.1.1.DA x.1.1.1.1.dn x.1.1.1.1.dc)).setCell ⟨g,q*12+5,none⟩ (.bool x.1.1.2)).setCell ⟨g,q*12+6,none⟩ (.int .i64 x.1.2.1.1.k)).setCell ⟨g,q*12+7,none⟩ (.int .i64 x.1.2.1.1.n)).setCell ⟨g,q*12+8,none⟩ (.string x.1.2.1.1.t)).setCell ⟨g,q*12+9,none⟩ (.slice x.1.2.1.1.LA x.1.2.1.1.ln x.1.2.1.1.lc)).setCell ⟨g,q*12+10,none⟩ (.slice x.1.2.1.1.DA x.1.2.1.1.dn x.1.2.1.1.dc)).setCell ⟨g,q*12+11,none⟩ (.bool x.1.2.2)).drew:=
 ⟨bW.drew ((h.row.put hp y).put (j:=q) (by rw[Qm];exact hq) x),fD.step ((((((((((((((((((((((((h.but.set (p:=⟨g,p*12,none⟩) rfl (.int .i64 y.1.1.1.1.k)).set (p:=⟨g,p*12+1,none⟩) rfl (.int .i64 y.1.1.1.1.n)).set (p:=⟨g,p*12+2,none⟩) rfl (.string y.1.1.1.1.t)).set (p:=⟨g,p*12+3,none⟩) rfl (.slice y.1.1.1.1.LA y.1.1.1.1.ln y.1.1.1.1.lc)).set (p:=⟨g,p*12+4,none⟩) rfl (.slice y.1.1.1.1.DA y.1.1.1.1.dn y.1.1.1.1.dc)).set (p:=⟨g,p*12+5,none⟩) rfl (.bool y.1.1.2)).set (p:=⟨g,p*12+6,none⟩) rfl (.int .i64 y.1.2.1.1.k)).set (p:=⟨g,p*12+7,none⟩) rfl (.int .i64 y.1.2.1.1.n)).set (p:=⟨g,p*12+8,none⟩) rfl (.string y.1.2.1.1.t)).set (p:=⟨g,p*12+9,none⟩) rfl (.slice y.1.2.1.1.LA y.1.2.1.1.ln y.1.2.1.1.lc)).set (p:=⟨g,p*12+10,none⟩) rfl (.slice y.1.2.1.1.DA y.1.2.1.1.dn y.1.2.1.1.dc)).set (p:=⟨g,p*12+11,none⟩) rfl (.bool y.1.2.2)).set (p:=⟨g,q*12,none⟩) rfl (.int .i64 x.1.1.1.1.k)).set (p:=⟨g,q*12+1,none⟩) rfl (.int .i64 x.1.1.1.1.n)).set (p:=⟨g,q*12+2,none⟩) rfl (.string x.1.1.1.1.t)).set (p:=⟨g,q*12+3,none⟩) rfl (.slice x.1.1.1.1.LA x.1.1.1.1.ln x.1.1.1.1.lc)).set (p:=⟨g,q*12+4,none⟩) rfl (.slice x.1.1.1.1.DA x.1.1.1.1.dn x.1.1.1.1.dc)).set (p:=⟨g,q*12+5,none⟩) rfl (.bool x.1.1.2)).set (p:=⟨g,q*12+6,none⟩) rfl (.int .i64 x.1.2.1.1.k)).set (p:=⟨g,q*12+7,none⟩) rfl (.int .i64 x.1.2.1.1.n)).set (p:=⟨g,q*12+8,none⟩) rfl (.string x.1.2.1.1.t)).set (p:=⟨g,q*12+9,none⟩) rfl (.slice x.1.2.1.1.LA x.1.2.1.1.ln x.1.2.1.1.lc)).set (p:=⟨g,q*12+10,none⟩) rfl (.slice x.1.2.1.1.DA x.1.2.1.1.dn x.1.2.1.1.dc)).set (p:=⟨g,q*12+11,none⟩) rfl (.bool x.1.2.2)) ((OG _ _).drew)⟩
theorem qf{α:Type}(A V1 U2 M U1 V2 D:List α)(x y:α):
 ((A++(V1++x::U2)++M++(U1++y::V2)++D).set (A.length+V1.length) y).set (A.length+(V1.length+(U2.length+1))+M.length+U1.length) x=A++((V1++[y])++U2)++M++((U1++[x])++V2)++D:=by
 have e1:(A++(V1++x::U2)++M++(U1++y::V2)++D).set (A.length+V1.length) y=(A++V1++y::U2++M++U1)++y::(V2++D):=by
  rw[show A++(V1++x::U2)++M++(U1++y::V2)++D=(A++V1)++x::(U2++(M++(U1++y::(V2++D)))) by simp,Qb _ _ sM,show A.length+V1.length-(A++V1).length=0 by simp];simp
 rw[e1,Qb _ _ sO,show A.length+(V1.length+(U2.length+1))+M.length+U1.length-(A++V1++y::U2++M++U1).length=0 by simp;omega];simp
theorem BH{α:Type}(A V1 U2 M U1 V2 D:List α)(x y:α):(A++(V1++x::U2)++M++(U1++y::V2)++D)[A.length+V1.length]?=some x:=by
 rw[show A++(V1++x::U2)++M++(U1++y::V2)++D=(A++V1)++x::(U2++(M++(U1++y::(V2++D)))) by simp,Oa sM];simp
theorem BI{α:Type}(A V1 U2 M U1 V2 D:List α)(x y:α):(A++(V1++x::U2)++M++(U1++y::V2)++D)[A.length+(V1.length+(U2.length+1))+M.length+U1.length]?=some y:=by
 rw[show A++(V1++x::U2)++M++(U1++y::V2)++D=(A++V1++x::U2++M++U1)++y::(V2++D) by simp,Oa sO];rw[show A.length+(V1.length+(U2.length+1))+M.length+U1.length-(A++V1++x::U2++M++U1).length=0 by simp;omega];rfl
def tH(g:Nat)(w:World)(L:List (PS×Nat))(e:Ending)(w':World):Prop:=e=.returned (.tuple #[])/\dQ g w L w'
theorem gw(A U M V D:List (PS×Nat))(g n c a b k:Nat)(aI bI kI:Int)(fv:Value)(w:World)(hr:bW w g (A++U++M++V++D))(hn:n=(A++U++M++V++D).length)(ha:a=A.length)(hb:b=A.length+U.length+M.length)(hk:k=U.length)(hkv:k=V.length)(haI:aI=a)(hbI:bI=b)(hkI:kI=k)(hz:n*176<=aF):
  Calls prog 340 #[.slice (some ⟨g,0,none⟩) n c,.int .i64 aI,.int .i64 bI,.int .i64 kI,fv] w (tH g w (A++V++M++U++D)):=by
  subst haI hbI hkI;unfold aF at hz;have hbn:b+k<=n:=by rw[hn];simp;omega
  have hab:a+k<=b:=oM
  have HA:=qD ha;have HBq:=qD hb;have HK:=qD hk;have HKV:=qD hkv;have HN:=qD hn;have I0:Hid (dQ g w (A++U++M++V++D) w):=qD ⟨hr,fD.refl⟩;clear hr hn ha hb hk hkv;go_enter func340,ntmps340;go_wp2_with fail
  go_loopw [10] (fun v10 wr=>∃(i:Nat) (U1 U2 V1 V2:List (PS×Nat)),v10=.int .i64 i/\i<=k/\i=U1.length/\i=V1.length/\U=U1++U2/\V=V1++V2/\dQ g w (A++(V1++U2)++M++(U1++V2)++D) wr) (fun v10 _=>k-(intOf v10).toNat)
  ·exact⟨0,[],U,[],V,rfl,ON _,rfl,rfl,rfl,rfl,I0.out⟩
  case round=>
   obtain⟨i,U1,U2,V1,V2,rfl,hik,hU1,hV1,hU,hV,I⟩:=hrel;have HU1:=qD hU1;have HV1:=qD hV1;have HU:=qD hU;have HV:=qD hV;have J:=qD I;by_cases hlt:i<k
   ·obtain⟨x,U3,hx⟩:∃x U3,U2=x::U3:=by
     cases U2 with
     | nil=>have h1:=HK.out;rw[hU] at h1;simp at h1;omega
     | cons x U3=>exact⟨x,U3,rfl⟩
    obtain⟨y,V3,hy⟩:∃y V3,V2=y::V3:=by
     cases V2 with
     | nil=>have h1:=HKV.out;rw[hV] at h1;simp at h1;omega
     | cons y V3=>exact⟨y,V3,rfl⟩
    subst hx hy;have hp:a+i=A.length+V1.length:=by rw[HA.out,<-hV1]
    have hq:b+i=A.length+(V1.length+(U3.length+1))+M.length+U1.length:=by
     have h1:=HBq.out;rw[hU] at h1;simp at h1;omega
    have HX:Hid ((A++(V1++x::U3)++M++(U1++y::V3)++D)[a+i]?=some x):=by rw[Hid,hp];exact BH A V1 U3 M U1 V3 D x y
    have HY:Hid ((A++(V1++x::U3)++M++(U1++y::V3)++D)[b+i]?=some y):=by rw[Hid,hq];exact BI A V1 U3 M U1 V3 D x y
    have HSw:Hid (((A++(V1++x::U3)++M++(U1++y::V3)++D).set (a+i) y).set (b+i) x=A++((V1++[y])++U3)++M++((U1++[x])++V3)++D):=by
     rw[Hid,hp,hq];exact qf A V1 U3 M U1 V3 D x y
    have p0:wr.cell? ⟨g,(a+i)*12,none⟩=some (.int .i64 x.1.1.1.1.k):=J.out.row.cell HX.out 0 _ rfl;have p1:wr.cell? ⟨g,(a+i)*12+1,none⟩=some (.int .i64 x.1.1.1.1.n):=J.out.row.cell HX.out 1 _ rfl;have p2:wr.cell? ⟨g,(a+i)*12+2,none⟩=some (.string x.1.1.1.1.t):=J.out.row.cell HX.out 2 _ rfl;have p3:wr.cell? ⟨g,(a+i)*12+3,none⟩=some (.slice x.1.1.1.1.LA x.1.1.1.1.ln x.1.1.1.1.lc):=J.out.row.cell HX.out 3 _ rfl;have p4:wr.cell? ⟨g,(a+i)*12+4,none⟩=some (.slice x.1.1.1.1.DA x.1.1.1.1.dn x.1.1.1.1.dc):=J.out.row.cell HX.out 4 _ rfl;have p5:wr.cell? ⟨g,(a+i)*12+5,none⟩=some (.bool x.1.1.2):=J.out.row.cell HX.out 5 _ rfl;have p6:wr.cell? ⟨g,(a+i)*12+6,none⟩=some (.int .i64 x.1.2.1.1.k):=J.out.row.cell HX.out 6 _ rfl;have p7:wr.cell? ⟨g,(a+i)*12+7,none⟩=some (.int .i64 x.1.2.1.1.n):=J.out.row.cell HX.out 7 _ rfl;have p8:wr.cell? ⟨g,(a+i)*12+8,none⟩=some (.string x.1.2.1.1.t):=J.out.row.cell HX.out 8 _ rfl;have p9:wr.cell? ⟨g,(a+i)*12+9,none⟩=some (.slice x.1.2.1.1.LA x.1.2.1.1.ln x.1.2.1.1.lc):=J.out.row.cell HX.out 9 _ rfl;have p10:wr.cell? ⟨g,(a+i)*12+10,none⟩=some (.slice x.1.2.1.1.DA x.1.2.1.1.dn x.1.2.1.1.dc):=J.out.row.cell HX.out 10 _ rfl;have p11:wr.cell? ⟨g,(a+i)*12+11,none⟩=some (.bool x.1.2.2):=J.out.row.cell HX.out 11 _ rfl;have r0:wr.cell? ⟨g,(b+i)*12,none⟩=some (.int .i64 y.1.1.1.1.k):=J.out.row.cell HY.out 0 _ rfl;have r1:wr.cell? ⟨g,(b+i)*12+1,none⟩=some (.int .i64 y.1.1.1.1.n):=J.out.row.cell HY.out 1 _ rfl
    have r2:wr.cell? ⟨g,(b+i)*12+2,none⟩=some (.string y.1.1.1.1.t):=J.out.row.cell HY.out 2 _ rfl;have r3:wr.cell? ⟨g,(b+i)*12+3,none⟩=some (.slice y.1.1.1.1.LA y.1.1.1.1.ln y.1.1.1.1.lc):=J.out.row.cell HY.out 3 _ rfl;have r4:wr.cell? ⟨g,(b+i)*12+4,none⟩=some (.slice y.1.1.1.1.DA y.1.1.1.1.dn y.1.1.1.1.dc):=J.out.row.cell HY.out 4 _ rfl;have r5:wr.cell? ⟨g,(b+i)*12+5,none⟩=some (.bool y.1.1.2):=J.out.row.cell HY.out 5 _ rfl;have r6:wr.cell? ⟨g,(b+i)*12+6,none⟩=some (.int .i64 y.1.2.1.1.k):=J.out.row.cell HY.out 6 _ rfl;have r7:wr.cell? ⟨g,(b+i)*12+7,none⟩=some (.int .i64 y.1.2.1.1.n):=J.out.row.cell HY.out 7 _ rfl;have r8:wr.cell? ⟨g,(b+i)*12+8,none⟩=some (.string y.1.2.1.1.t):=J.out.row.cell HY.out 8 _ rfl;have r9:wr.cell? ⟨g,(b+i)*12+9,none⟩=some (.slice y.1.2.1.1.LA y.1.2.1.1.ln y.1.2.1.1.lc):=J.out.row.cell HY.out 9 _ rfl;have r10:wr.cell? ⟨g,(b+i)*12+10,none⟩=some (.slice y.1.2.1.1.DA y.1.2.1.1.dn y.1.2.1.1.dc):=J.out.row.cell HY.out 10 _ rfl;have r11:wr.cell? ⟨g,(b+i)*12+11,none⟩=some (.bool y.1.2.2):=J.out.row.cell HY.out 11 _ rfl;have z:=bW.frozen J.out.row;clear hU1 hV1 hU hV I hp hq;go_upto_region 3 with fail
    go_region
    all_goals
     clear p0 r0 p1 r1 p2 r2 p3 r3 p4 r4 p5 r5 p6 r6 p7 r7 p8 r8 p9 r9 p10 r10 p11 r11 z;go_wp2_with fail;refine⟨⟨i+1,U1++[x],U3,V1++[y],V3,by go_num,by omega,by rw[HU1.out];simp,by rw[HV1.out];simp,by rw[HU.out];simp,by rw[HV.out];simp,?_⟩,by simp[intOf];omega⟩;have r1:=J.out.NN (OI.1 HX.out).1 (OI.1 HY.out).1 x y;rw[HSw.out] at r1;exact r1
   ·have e1:U2=[]:=OL (by have h1:=HK.out;rw[hU] at h1;simp at h1;omega);have e2:V2=[]:=OL (by have h1:=HKV.out;rw[hV] at h1;simp at h1;omega)
    have HF:Hid (dQ g w (A++V++M++U++D) wr):=by
     rw[Hid,hU,hV,e1,e2];simp only[Om];rw[e1,e2] at I;simp only[Om] at I;exact I
    clear hU1 hV1 hU hV I e1 e2;go_wp2_with fail
    go_end0
    exact⟨rfl,HF.out⟩
theorem dQ.then{L L':List (PS×Nat)}(h:dQ g w L w1)(h':dQ g w1 L' w2):dQ g w L' w2:=⟨h'.row,h.but.trans h'.but⟩
theorem uV(A P Q D:List (PS×Nat))(g n c a m b:Nat)(aI mI bI:Int)(fv:Value)(w:World)(hr:bW w g (A++P++Q++D))(hn:n=(A++P++Q++D).length)(ha:a=A.length)(hm:m=A.length+P.length)(hb:b=A.length+P.length+Q.length)(hP:1<=P.length)(hQ:1<=Q.length)(haI:aI=a)(hmI:mI=m)(hbI:bI=b)(hz:n*176<=aF):
  Calls prog 318 #[.slice (some ⟨g,0,none⟩) n c,.int .i64 aI,.int .i64 mI,.int .i64 bI,fv] w (tH g w (A++Q++P++D)):=by
  subst haI hmI hbI;have HZ:=qD hz;unfold aF at hz;have ham:a<=m:=oM
  have hmb:m<=b:=oM
  have hbn:b<=n:=by rw[hn];simp;omega
  have HN:=qD hn;have I0:Hid (dQ g w (A++P++Q++D) w):=qD ⟨hr,fD.refl⟩;have HP:Hid (m-a=P.length):=by unfold Hid;omega
  have HQ:Hid (b-m=Q.length):=by unfold Hid;omega
  have HM:Hid (A.length+P.length=m):=hm.symm;have hi1:1<=m-a:=oM
  have hj1:1<=b-m:=oM
  clear hr hn ha hm hb hP hQ;go_enter func318,ntmps318;go_wp2_with fail
  go_loopw [10,11] (fun v10 v11 wr=>∃(i j:Nat) (A' U V D':List (PS×Nat)),v10=.int .i64 i/\v11=.int .i64 j/\i=U.length/\j=V.length/\1<=i/\1<=j/\A'.length+i=m/\n=(A'++U++V++D').length/\A'++V++U++D'=A++Q++P++D/\dQ g w (A'++U++V++D') wr) (fun v10 v11 _=>(intOf v10).toNat+(intOf v11).toNat)
  ·exact⟨m-a,b-m,A,P,Q,D,by go_num,by go_num,HP.out,HQ.out,hi1,hj1,by rw[HP.out];exact HM.out,HN.out,rfl,I0.out⟩
  case round=>
   obtain⟨i,j,A',U,V,D',rfl,rfl,hU,hV,hi,hj,hm',hn',ht,I⟩:=hrel;have HU:=qD hU;have HV:=qD hV;have HM':=qD hm';have HN':=qD hn';have HTg:=qD ht;have J:=qD I;have him:i<=m:=oM
   have hjn:m+j<=n:=by rw[hn'];simp;omega
   clear hU hV hn' ht I hm';cases hne:((i:Int) != (j:Int))
   ·have hij:i=j:=by simp at hne;omega
    have HR:Hid (bW wr g (A'++U++[]++V++D')):=by rw[Hid,Om];exact J.out.row
    have HN2:Hid (n=(A'++U++[]++V++D').length):=by rw[Hid,Om];exact HN'.out
    have HIJ:=qD hij;clear hij;go_wp2_with fail;refine(gw A' U [] V D' g n c A'.length m i _ _ _ _ _ HR.out HN2.out rfl (by have:=HU.out;have:=HM'.out;simp;omega) HU.out (by rw[HIJ.out];exact HV.out) (by have:=HM'.out;omega) oM rfl HZ.out).mono ?_;rintro e w1 ⟨rfl,h1⟩;have H1:=qD (J.out.then h1);clear h1;go_wp2_with fail
    go_end0
    refine⟨rfl,?_⟩;have:=H1.out;rw[Om,HTg.out] at this;exact this
   ·have hij:i≠j:=by simp at hne;omega
    by_cases hgt:j<i
    ·obtain⟨U1,U2,hUU,hU1⟩:∃U1 U2,U=U1++U2/\U1.length=j:=⟨U.take j,U.drop j,(Oh j U).symm,by rw[Ow];have:=HU.out;omega⟩;have hU2:U2.length=i-j:=by have h1:=HU.out;rw[hUU] at h1;simp at h1;omega
     have HR:Hid (bW wr g (A'++U1++U2++V++D')):=by have:=J.out.row;rw[hUU] at this;rw[Hid];simpa using this
     have HN2:Hid (n=(A'++U1++U2++V++D').length):=by have:=HN'.out;rw[hUU] at this;rw[Hid,this];simp
     have HUU:=qD hUU;have HU1:=qD hU1;have HU2:=qD hU2;clear hUU hU1 hU2 hij;go_wp2_with fail;refine(gw A' U1 U2 V D' g n c A'.length m j _ _ _ _ _ HR.out HN2.out rfl (by have:=HU1.out;have:=HU2.out;have:=HM'.out;omega) HU1.out.symm HV.out (by have:=HM'.out;omega) rfl rfl HZ.out).mono ?_;rintro e w1 ⟨rfl,h1⟩;have H1:=qD (J.out.then h1);clear h1;go_wp2_with fail;go_roundw
     case rel=>
      refine⟨i-j,j,A'++V,U2,U1,D',by go_num,rfl,HU2.out.symm,HU1.out.symm,by omega,hj,by rw[OK,<-HV.out];have:=HM'.out;omega,?_,?_,?_⟩
      ·have:=HN2.out;simp at this;simp;omega
      ·rw[<-HTg.out,HUU.out];simp
      ·exact H1.out
     case measure=>exact iO
    ·obtain⟨V1,V2,hVV,hV1⟩:∃V1 V2,V=V1++V2/\V1.length=j-i:=⟨V.take (j-i),V.drop (j-i),(Oh (j-i) V).symm,by rw[Ow];have:=HV.out;omega⟩;have hV2:V2.length=i:=by have h1:=HV.out;rw[hVV] at h1;simp at h1;omega
     have HR:Hid (bW wr g (A'++U++V1++V2++D')):=by have:=J.out.row;rw[hVV] at this;rw[Hid];simpa using this
     have HN2:Hid (n=(A'++U++V1++V2++D').length):=by have:=HN'.out;rw[hVV] at this;rw[Hid,this];simp
     have HVV:=qD hVV;have HV1:=qD hV1;have HV2:=qD hV2;have hlt:i<j:=oM
     clear hVV hV1 hV2 hij;go_wp2_with fail;refine(gw A' U V1 V2 D' g n c A'.length (m+j-i) i _ _ _ _ _ HR.out HN2.out rfl (by have:=HU.out;have:=HV1.out;have:=HM'.out;omega) HU.out HV2.out.symm (by have:=HM'.out;omega) oM rfl HZ.out).mono ?_;rintro e w1 ⟨rfl,h1⟩;have H1:=qD (J.out.then h1);clear h1;go_wp2_with fail;go_roundw
     case rel=>
      refine⟨i,j-i,A',V2,V1,U++D',rfl,by go_num,HV2.out.symm,HV1.out.symm,hi,by omega,HM'.out,?_,?_,?_⟩
      ·have:=HN2.out;simp at this;simp;omega
      ·rw[<-HTg.out,HVV.out];simp
      ·have:=H1.out;simpa using this
     case measure=>exact iO
section
variable {α:Type} {cm:α->α->Int}
theorem RT.le{x y:α×Nat}(h:RT cm x y):cm x.1 y.1<=0:=by unfold RT at h;omega
theorem qg(H:cM cm){x y z:α}(h1:cm x y<=0)(h2:cm y z<0):cm x z<0:=by
 have:=H.tr x y z h1 oM;omega
theorem qi(H:cM cm){x y z:α}(h1:cm x y<0)(h2:cm y z<=0):cm x z<0:=by
 have:=H.tr x y z oM h2;omega
theorem jo(H:cM cm){x y z:α}(h1:cm x y<=0)(h2:cm y z<=0):cm x z<=0:=(H.tr x y z h1 h2).1
theorem oB{R:α×Nat->α×Nat->Prop}{l:List (α×Nat)}(h:l.Pairwise R){x y:α×Nat}(hij:i<j)(hx:l[i]?=some x)(hy:l[j]?=some y):R x y:=by
 obtain⟨hi,rfl⟩:=OI.1 hx;obtain⟨hj,rfl⟩:=OI.1 hy;exact RC.1 h i j hi hj hij
theorem tI(H:cM cm){x:α×Nat}{Y1 Y2:List (α×Nat)}(hY:(Y1++Y2).Pairwise (RT cm))(ht:∀y∈Y1++Y2,x.2<y.2)(h1:∀y∈Y1,cm y.1 x.1<0)(h2:∀y∈Y2,¬cm y.1 x.1<0):aS cm ([x]++(Y1++Y2)) (Y1++x::Y2):=by
 refine⟨by rw[List.singleton_append];exact SW,?_⟩;rw[Oi] at hY ⊢;refine⟨hY.1,SA.2 ⟨fun y hy=>?_,hY.2.1⟩,fun y hy z hz=>?_⟩
 ·unfold RT;have:=h2 y hy;have:=H.anti y.1 x.1;have:=ht y (by simp[hy]);omega
 ·rcases PB.1 hz with rfl|hz
  ·exact .inl (h1 y hy)
  ·exact hY.2.2 y hy z hz
end
theorem qj{α:Type}(A P1 P3 E:List α)(x y:α):((A++(P1++x::y::P3)++E).set (A.length+P1.length) y).set (A.length+P1.length+1) x=A++((P1++[y])++x::P3)++E:=by
 have e1:(A++(P1++x::y::P3)++E).set (A.length+P1.length) y=(A++P1++[y])++y::(P3++E):=by
  rw[show A++(P1++x::y::P3)++E=(A++P1)++x::(y::(P3++E)) by simp,Qb _ _ sM,show A.length+P1.length-(A++P1).length=0 by simp];simp
 rw[e1,Qb _ _ sO,show A.length+P1.length+1-(A++P1++[y]).length=0 by simp;omega];simp
def oC(g:Nat)(w:World)(A X Y D:List (PS×Nat))(e:Ending)(w':World):Prop:=e=.returned (.tuple #[])/\∃S,aS (fun p q:PS=>aq (ai p).1 (ai q).1) (X++Y) S/\dQ g w (A++S++D) w'
end
structure fE(A X Y D:List (PS×Nat))(g n:Nat)(w:World):Prop where
 row:bW w g (A++X++Y++D)
 ln:n=(A++X++Y++D).length
 sz:n*176<=aF
 hX:X.Pairwise (RT (fun p q:PS=>aq (ai p).1 (ai q).1))
 hY:Y.Pairwise (RT (fun p q:PS=>aq (ai p).1 (ai q).1))
 hT:∀x∈X,∀y∈Y,x.2<y.2
 cmp:jG g w (X++Y)
section
variable {k b n g m i lo c q j mid bs S:Nat} {w w1:World} {t:TypeId} {a x y:Int} {l:List ByteArray} {A:Option Addr} {ha:Bool}
theorem JX(H:cM (fun p q:PS=>aq (ai p).1 (ai q).1))(A:List (PS×Nat))(x:PS×Nat)(Y D:List (PS×Nat))(g n c a m b:Nat)(aI mI bI:Int)(w:World)(h:fE A [x] Y D g n w)(ha:a=A.length)(hm:m=a+1)(hb:b=m+Y.length)(haI:aI=a)(hmI:mI=m)(hbI:bI=b):
  Calls prog 293 #[.slice (some ⟨g,0,none⟩) n c,.int .i64 aI,.int .i64 mI,.int .i64 bI,.func (.func 190) #[] #[]] w (oC g w A [x] Y D):=by
  subst haI hmI hbI;have hz:=h.sz;unfold aF at hz;have hbn:b<=n:=by have:=h.ln;simp at this;omega
  have ham:((m:Int)-(a:Int)==1)=true:=by simp;omega
  have HA:=qD ha;have HM:=qD hm;have hm1:a<m:=oM
  have hmb:m<=b:=oM
  have HBq:=qD hb;have HH:=qD h;have HO:=qD H;have I0:Hid (dQ g w (A++[x]++Y++D) w):=qD ⟨h.row,fD.refl⟩;clear h ha hm hb H;go_enter func293,ntmps293;go_wp2_with fail
  go_loopw [10,11] (fun v10 v11 wr=>∃(i j:Nat),v10=.int .i64 i/\v11=.int .i64 j/\m<=i/\i<=j/\j<=b/\(∀(k:Nat) y,Y[k]?=some y->m+k<i->aq (ai y.1).1 (ai x.1).1<0)/\(∀(k:Nat) y,Y[k]?=some y->j<=m+k->¬aq (ai y.1).1 (ai x.1).1<0)/\dQ g w (A++[x]++Y++D) wr) (fun v10 v11 _=>(intOf v11).toNat-(intOf v10).toNat)
  ·exact⟨m,b,rfl,rfl,qL,hmb,qL,fun k y _ hk=>by omega,fun k y hy hk=>by have:=(OI.1 hy).1;have:=HBq.out;omega,I0.out⟩
  case round=>
   obtain⟨i,j,rfl,rfl,hmi,hij,hjb,hlo,hhi,I⟩:=hrel;have HLo:=qD hlo;have HHi:=qD hhi;have J:=qD I;clear hlo hhi;by_cases hlt:i<j
   ·go_upto_region 5 with fail
    obtain⟨h,hh⟩:∃h:Nat,((i:Int)+(j:Int))/2=(h:Int):=⟨(i+j)/2,by omega⟩;rw[hh];have h1:i<=h:=oM
    have h2:h<j:=oM
    clear hh;obtain⟨y,hyY⟩:∃y,Y[h-m]?=some y:=⟨_,OH (by have:=HBq.out;omega)⟩
    have hy:(A++[x]++Y++D)[h]?=some y:=by
     have hA:=HA.out;have hM:=HM.out;rw[OY,Oa sO,PX (by have:=(OI.1 hyY).1;simp;omega)];rw[show h-(A++[x]).length=h-m by simp;omega];exact hyY
    have hx:(A++[x]++Y++D)[a]?=some x:=by
     rw[HA.out];simp
    have p0:wr.cell? ⟨g,h*12,none⟩=some (.int .i64 y.1.1.1.1.k):=I.row.cell hy 0 _ rfl;have p1:wr.cell? ⟨g,h*12+1,none⟩=some (.int .i64 y.1.1.1.1.n):=I.row.cell hy 1 _ rfl;have p2:wr.cell? ⟨g,h*12+2,none⟩=some (.string y.1.1.1.1.t):=I.row.cell hy 2 _ rfl;have p3:wr.cell? ⟨g,h*12+3,none⟩=some (.slice y.1.1.1.1.LA y.1.1.1.1.ln y.1.1.1.1.lc):=I.row.cell hy 3 _ rfl;have p4:wr.cell? ⟨g,h*12+4,none⟩=some (.slice y.1.1.1.1.DA y.1.1.1.1.dn y.1.1.1.1.dc):=I.row.cell hy 4 _ rfl;have p5:wr.cell? ⟨g,h*12+5,none⟩=some (.bool y.1.1.2):=I.row.cell hy 5 _ rfl;have p6:wr.cell? ⟨g,h*12+6,none⟩=some (.int .i64 y.1.2.1.1.k):=I.row.cell hy 6 _ rfl;have p7:wr.cell? ⟨g,h*12+7,none⟩=some (.int .i64 y.1.2.1.1.n):=I.row.cell hy 7 _ rfl;have p8:wr.cell? ⟨g,h*12+8,none⟩=some (.string y.1.2.1.1.t):=I.row.cell hy 8 _ rfl;have p9:wr.cell? ⟨g,h*12+9,none⟩=some (.slice y.1.2.1.1.LA y.1.2.1.1.ln y.1.2.1.1.lc):=I.row.cell hy 9 _ rfl;have p10:wr.cell? ⟨g,h*12+10,none⟩=some (.slice y.1.2.1.1.DA y.1.2.1.1.dn y.1.2.1.1.dc):=I.row.cell hy 10 _ rfl;have p11:wr.cell? ⟨g,h*12+11,none⟩=some (.bool y.1.2.2):=I.row.cell hy 11 _ rfl;have r0:wr.cell? ⟨g,a*12,none⟩=some (.int .i64 x.1.1.1.1.k):=I.row.cell hx 0 _ rfl;have r1:wr.cell? ⟨g,a*12+1,none⟩=some (.int .i64 x.1.1.1.1.n):=I.row.cell hx 1 _ rfl;have r2:wr.cell? ⟨g,a*12+2,none⟩=some (.string x.1.1.1.1.t):=I.row.cell hx 2 _ rfl;have r3:wr.cell? ⟨g,a*12+3,none⟩=some (.slice x.1.1.1.1.LA x.1.1.1.1.ln x.1.1.1.1.lc):=I.row.cell hx 3 _ rfl
    have r4:wr.cell? ⟨g,a*12+4,none⟩=some (.slice x.1.1.1.1.DA x.1.1.1.1.dn x.1.1.1.1.dc):=I.row.cell hx 4 _ rfl;have r5:wr.cell? ⟨g,a*12+5,none⟩=some (.bool x.1.1.2):=I.row.cell hx 5 _ rfl;have r6:wr.cell? ⟨g,a*12+6,none⟩=some (.int .i64 x.1.2.1.1.k):=I.row.cell hx 6 _ rfl;have r7:wr.cell? ⟨g,a*12+7,none⟩=some (.int .i64 x.1.2.1.1.n):=I.row.cell hx 7 _ rfl;have r8:wr.cell? ⟨g,a*12+8,none⟩=some (.string x.1.2.1.1.t):=I.row.cell hx 8 _ rfl;have r9:wr.cell? ⟨g,a*12+9,none⟩=some (.slice x.1.2.1.1.LA x.1.2.1.1.ln x.1.2.1.1.lc):=I.row.cell hx 9 _ rfl;have r10:wr.cell? ⟨g,a*12+10,none⟩=some (.slice x.1.2.1.1.DA x.1.2.1.1.dn x.1.2.1.1.dc):=I.row.cell hx 10 _ rfl;have r11:wr.cell? ⟨g,a*12+11,none⟩=some (.bool x.1.2.2):=I.row.cell hx 11 _ rfl;have P0:=aX p0;have P1:=aX p1;have P2:=aX p2;have P3:=aX p3;have P4:=aX p4;have P5:=aX p5;have P6:=aX p6;have P7:=aX p7;have P8:=aX p8;have P9:=aX p9;have P10:=aX p10;have P11:=aX p11;have R0:=aX r0;have R1:=aX r1;have R2:=aX r2;have R3:=aX r3;have R4:=aX r4;have R5:=aX r5;have R6:=aX r6;have R7:=aX r7;have R8:=aX r8;have R9:=aX r9;have R10:=aX r10;have R11:=aX r11;have i0:(0:Int)<=(h:Int):=oM
    have i1:(h:Int)<(n:Int):=oM
    have i2:(0:Int)<=(a:Int):=oM
    have i3:(a:Int)<(n:Int):=oM
    have K1:Hid (∀k:BW wr,Calls prog 190 #[mo y,mo x] k.val fun e w''=>e=.returned (.int .i64 (aq (ai y.1).1 (ai x.1).1))/\∃k:BW wr,w''=k.val):=fun k=>
     Calls.bw (HH.out.cmp y x (by simp[OJ hyY]) sM k.val (I.but.step k.below))
    have HY:=qD hyY;clear p0 p1 p2 p3 p4 p5 p6 p7 p8 p9 p10 p11 r0 r1 r2 r3 r4 r5 r6 r7 r8 r9 r10 r11 hx hy hyY I;refine aL kR kR ?_
    repeat(go_big_quiet_step (with_reducible exact K1.out _))
    refine Oc ?_;rintro _ ⟨kw,rfl⟩;have J2:=qD (J.out.step kw.below);clear P0 P1 P2 P3 P4 P5 P6 P7 P8 P9 P10 P11 R0 R1 R2 R3 R4 R5 R6 R7 R8 R9 R10 R11 K1 i0 i1 i2 i3;generalize kw.val=w2 at*;by_cases hc:aq (ai y.1).1 (ai x.1).1<0
    ·have HLo2:Hid (∀(k:Nat) z,Y[k]?=some z->m+k<h+1->aq (ai z.1).1 (ai x.1).1<0):=fun k z hz hk=>by
      by_cases e:k=h-m
      ·subst e;rw[HY.out] at hz;cases hz;exact hc
      ·exact qg HO.out (RT.le (oB HH.out.hY oM hz HY.out)) hc
     go_wp2_with fail;go_roundw
     ·exact⟨h+1,j,by go_num,rfl,by omega,by omega,hjb,HLo2.out,HHi.out,J2.out⟩
     ·exact iO
    ·have HHi2:Hid (∀(k:Nat) z,Y[k]?=some z->h<=m+k->¬aq (ai z.1).1 (ai x.1).1<0):=fun k z hz hk=>by
      by_cases e:k=h-m
      ·subst e;rw[HY.out] at hz;cases hz;exact hc
      ·have q1:=RT.le (oB HH.out.hY oM HY.out hz);have q2:aq (ai x.1).1 (ai y.1).1=-(aq (ai y.1).1 (ai x.1).1):=HO.out.anti y.1 x.1;have q3:aq (ai x.1).1 (ai z.1).1<=0:=jo HO.out (y:=y.1) (show aq (ai x.1).1 (ai y.1).1<=0 by omega) q1;have q4:aq (ai z.1).1 (ai x.1).1=-(aq (ai x.1).1 (ai z.1).1):=HO.out.anti x.1 z.1;omega
     go_wp2_with fail;go_roundw
     ·exact⟨i,h,rfl,rfl,hmi,h1,by omega,HLo.out,HHi2.out,J2.out⟩
     ·exact iO
   ·obtain rfl:i=j:=oM
    obtain⟨Y1,Y2,hYY,hY1⟩:∃Y1 Y2,Y=Y1++Y2/\Y1.length=i-m:=⟨Y.take (i-m),Y.drop (i-m),(Oh _ Y).symm,by rw[Ow];have:=HBq.out;omega⟩
    have HS:Hid (aS (fun p q:PS=>aq (ai p).1 (ai q).1) ([x]++Y) (Y1++x::Y2)):=by
     have hp:=HH.out.hY;have ht:=HH.out.hT x sM;rw[hYY] at hp ht;rw[Hid,hYY];refine tI HO.out hp ht (fun y hy=>?_) (fun y hy=>?_)
     ·obtain⟨k,hk⟩:=PP hy;have hkl:=(OI.1 hk).1;exact HLo.out k y (by rw[hYY,PX hkl];exact hk) oM
     ·obtain⟨k,hk⟩:=PP hy;exact HHi.out (Y1.length+k) y (by rw[hYY,Oa oM];simpa using hk) oM
    have HYY:=qD hYY;have HY1:=qD hY1;clear hYY hY1 I HLo HHi;go_wp2_with fail
    go_loopw [13] (fun v13 wr=>∃(k:Nat) (P1 P2:List (PS×Nat)),v13=.int .i64 k/\k=a+P1.length/\Y1=P1++P2/\dQ g w (A++(P1++x::P2)++(Y2++D)) wr) (fun v13 _=>n-(intOf v13).toNat)
    case atStart=>
     refine⟨a,[],Y1,rfl,rfl,rfl,?_⟩;have:=J.out;rw[HYY.out] at this;simpa using this
    case round=>
     obtain⟨k,P1,P2,rfl,hk,hPP,I⟩:=hrel;have HPP:=qD hPP;have HK:=qD hk;have J2:=qD I;have hkl:P1.length<=i-m:=by rw[<-HY1.out,hPP];simp
     by_cases hlt2:k<i-1
     ·obtain⟨y,P3,hP3⟩:∃y P3,P2=y::P3:=by
       cases P2 with
       | nil=>have h1:=HY1.out;rw[hPP] at h1;simp at h1;have:=HM.out;omega
       | cons y P3=>exact⟨y,P3,rfl⟩
      subst hP3;have hkA:k=A.length+P1.length:=by rw[hk,HA.out]
      have HX:Hid ((A++(P1++x::y::P3)++(Y2++D))[k]?=some x):=by rw[Hid,hkA];simp
      have HYk:Hid ((A++(P1++x::y::P3)++(Y2++D))[k+1]?=some y):=by
       rw[Hid,hkA,show A++(P1++x::y::P3)++(Y2++D)=(A++P1++[x])++y::(P3++(Y2++D)) by simp,Oa sO,show A.length+P1.length+1-(A++P1++[x]).length=0 by simp;omega];rfl
      have HSw:Hid (((A++(P1++x::y::P3)++(Y2++D)).set k y).set (k+1) x=A++((P1++[y])++x::P3)++(Y2++D)):=by
       rw[Hid,hkA];exact qj A P1 P3 (Y2++D) x y
      have hkn:k+1<n:=oM
      have p0:wr.cell? ⟨g,k*12,none⟩=some (.int .i64 x.1.1.1.1.k):=J2.out.row.cell HX.out 0 _ rfl;have p1:wr.cell? ⟨g,k*12+1,none⟩=some (.int .i64 x.1.1.1.1.n):=J2.out.row.cell HX.out 1 _ rfl;have p2:wr.cell? ⟨g,k*12+2,none⟩=some (.string x.1.1.1.1.t):=J2.out.row.cell HX.out 2 _ rfl;have p3:wr.cell? ⟨g,k*12+3,none⟩=some (.slice x.1.1.1.1.LA x.1.1.1.1.ln x.1.1.1.1.lc):=J2.out.row.cell HX.out 3 _ rfl;have p4:wr.cell? ⟨g,k*12+4,none⟩=some (.slice x.1.1.1.1.DA x.1.1.1.1.dn x.1.1.1.1.dc):=J2.out.row.cell HX.out 4 _ rfl;have p5:wr.cell? ⟨g,k*12+5,none⟩=some (.bool x.1.1.2):=J2.out.row.cell HX.out 5 _ rfl;have p6:wr.cell? ⟨g,k*12+6,none⟩=some (.int .i64 x.1.2.1.1.k):=J2.out.row.cell HX.out 6 _ rfl;have p7:wr.cell? ⟨g,k*12+7,none⟩=some (.int .i64 x.1.2.1.1.n):=J2.out.row.cell HX.out 7 _ rfl;have p8:wr.cell? ⟨g,k*12+8,none⟩=some (.string x.1.2.1.1.t):=J2.out.row.cell HX.out 8 _ rfl;have p9:wr.cell? ⟨g,k*12+9,none⟩=some (.slice x.1.2.1.1.LA x.1.2.1.1.ln x.1.2.1.1.lc):=J2.out.row.cell HX.out 9 _ rfl;have p10:wr.cell? ⟨g,k*12+10,none⟩=some (.slice x.1.2.1.1.DA x.1.2.1.1.dn x.1.2.1.1.dc):=J2.out.row.cell HX.out 10 _ rfl;have p11:wr.cell? ⟨g,k*12+11,none⟩=some (.bool x.1.2.2):=J2.out.row.cell HX.out 11 _ rfl;have r0:wr.cell? ⟨g,(k+1)*12,none⟩=some (.int .i64 y.1.1.1.1.k):=J2.out.row.cell HYk.out 0 _ rfl;have r1:wr.cell? ⟨g,(k+1)*12+1,none⟩=some (.int .i64 y.1.1.1.1.n):=J2.out.row.cell HYk.out 1 _ rfl
      have r2:wr.cell? ⟨g,(k+1)*12+2,none⟩=some (.string y.1.1.1.1.t):=J2.out.row.cell HYk.out 2 _ rfl;have r3:wr.cell? ⟨g,(k+1)*12+3,none⟩=some (.slice y.1.1.1.1.LA y.1.1.1.1.ln y.1.1.1.1.lc):=J2.out.row.cell HYk.out 3 _ rfl;have r4:wr.cell? ⟨g,(k+1)*12+4,none⟩=some (.slice y.1.1.1.1.DA y.1.1.1.1.dn y.1.1.1.1.dc):=J2.out.row.cell HYk.out 4 _ rfl;have r5:wr.cell? ⟨g,(k+1)*12+5,none⟩=some (.bool y.1.1.2):=J2.out.row.cell HYk.out 5 _ rfl;have r6:wr.cell? ⟨g,(k+1)*12+6,none⟩=some (.int .i64 y.1.2.1.1.k):=J2.out.row.cell HYk.out 6 _ rfl;have r7:wr.cell? ⟨g,(k+1)*12+7,none⟩=some (.int .i64 y.1.2.1.1.n):=J2.out.row.cell HYk.out 7 _ rfl;have r8:wr.cell? ⟨g,(k+1)*12+8,none⟩=some (.string y.1.2.1.1.t):=J2.out.row.cell HYk.out 8 _ rfl;have r9:wr.cell? ⟨g,(k+1)*12+9,none⟩=some (.slice y.1.2.1.1.LA y.1.2.1.1.ln y.1.2.1.1.lc):=J2.out.row.cell HYk.out 9 _ rfl;have r10:wr.cell? ⟨g,(k+1)*12+10,none⟩=some (.slice y.1.2.1.1.DA y.1.2.1.1.dn y.1.2.1.1.dc):=J2.out.row.cell HYk.out 10 _ rfl;have r11:wr.cell? ⟨g,(k+1)*12+11,none⟩=some (.bool y.1.2.2):=J2.out.row.cell HYk.out 11 _ rfl;have z:=bW.frozen J2.out.row;clear hk hPP I hkA hkl;go_upto_region 11 with fail
      go_region
      all_goals
       clear p0 p1 p2 p3 p4 p5 p6 p7 p8 p9 p10 p11 r0 r1 r2 r3 r4 r5 r6 r7 r8 r9 r10 r11 z;go_wp2_with fail;refine⟨⟨k+1,P1++[y],P3,by go_num,by rw[HK.out];simp;omega,by rw[HPP.out];simp,?_⟩,by simp[intOf];omega⟩;have r1:=J2.out.NN (OI.1 HX.out).1 (OI.1 HYk.out).1 x y;rw[HSw.out] at r1;exact r1
     ·have HE:Hid (dQ g w (A++(Y1++x::Y2)++D) wr):=by
       have e:P2=[]:=OL (by have h1:=HY1.out;rw[hPP] at h1;simp at h1;have:=HM.out;omega);rw[e,Om] at hPP;rw[e] at I;rw[Hid,hPP];simpa using I
      clear hk hPP I hkl;go_wp2_with fail
      go_end0
      exact⟨rfl,_,HS.out,HE.out⟩
theorem qk{α:Type}{cm:α->α->Int}(H:cM cm){y:α×Nat}{X1 X2:List (α×Nat)}(hX:(X1++X2).Pairwise (RT cm))(ht:∀x∈X1++X2,x.2<y.2)(h1:∀x∈X1,¬cm y.1 x.1<0)(h2:∀x∈X2,cm y.1 x.1<0):aS cm ((X1++X2)++[y]) (X1++y::X2):=by
 refine⟨SW.trans (Rm y _).symm,?_⟩;rw[Oi] at hX ⊢;refine⟨hX.1,SA.2 ⟨fun x hx=>.inl (h2 x hx),hX.2.1⟩,fun x hx z hz=>?_⟩;rcases PB.1 hz with rfl|hz
 ·unfold RT;have:=h1 x hx;have:=H.anti z.1 x.1;have:=ht x (by simp[hx]);omega
 ·exact hX.2.2 x hx z hz
theorem JY(H:cM (fun p q:PS=>aq (ai p).1 (ai q).1))(A X:List (PS×Nat))(y:PS×Nat)(D:List (PS×Nat))(g n c a m b:Nat)(aI mI bI:Int)(w:World)(h:fE A X [y] D g n w)(ha:a=A.length)(hm:m=a+X.length)(hb:b=m+1)(hX2:2<=X.length)(haI:aI=a)(hmI:mI=m)(hbI:bI=b):
  Calls prog 293 #[.slice (some ⟨g,0,none⟩) n c,.int .i64 aI,.int .i64 mI,.int .i64 bI,.func (.func 190) #[] #[]] w (oC g w A X [y] D):=by
  subst haI hmI hbI;have hz:=h.sz;unfold aF at hz;have hbn:b<=n:=by have:=h.ln;simp at this;omega
  have ham:((m:Int)-(a:Int)==1)=false:=by simp;omega
  have hbm:((b:Int)-(m:Int)==1)=true:=by simp;omega
  have HA:=qD ha;have HM:=qD hm;have hm1:a<=m:=oM
  have hmb:m<b:=oM
  have HH:=qD h;have HO:=qD H;have I0:Hid (dQ g w (A++X++[y]++D) w):=qD ⟨h.row,fD.refl⟩;clear h ha hm hb H;go_enter func293,ntmps293;go_wp2_with fail
  go_loopw [14,15] (fun v14 v15 wr=>∃(i j:Nat),v14=.int .i64 i/\v15=.int .i64 j/\a<=i/\i<=j/\j<=m/\(∀(k:Nat) x,X[k]?=some x->a+k<i->¬aq (ai y.1).1 (ai x.1).1<0)/\(∀(k:Nat) x,X[k]?=some x->j<=a+k->aq (ai y.1).1 (ai x.1).1<0)/\dQ g w (A++X++[y]++D) wr) (fun v14 v15 _=>(intOf v15).toNat-(intOf v14).toNat)
  ·exact⟨a,m,rfl,rfl,qL,hm1,qL,fun k y _ hk=>by omega,fun k y hy hk=>by have:=(OI.1 hy).1;have:=HM.out;omega,I0.out⟩
  case round=>
   obtain⟨i,j,rfl,rfl,hmi,hij,hjb,hlo,hhi,I⟩:=hrel;have HLo:=qD hlo;have HHi:=qD hhi;have J:=qD I;clear hlo hhi;by_cases hlt:i<j
   ·go_upto_region 17 with fail
    obtain⟨h,hh⟩:∃h:Nat,((i:Int)+(j:Int))/2=(h:Int):=⟨(i+j)/2,by omega⟩;rw[hh];have h1:i<=h:=oM
    have h2:h<j:=oM
    clear hh;obtain⟨x,hxX⟩:∃x,X[h-a]?=some x:=⟨_,OH (by have:=HM.out;omega)⟩
    have hx:(A++X++[y]++D)[h]?=some x:=by
     have hA:=HA.out;rw[OY,OY,Oa oM,PX (by have:=(OI.1 hxX).1;omega),<-hA];exact hxX
    have hy:(A++X++[y]++D)[m]?=some y:=by
     have hA:=HA.out;have hM:=HM.out;rw[OY,Oa sO,show m-(A++X).length=0 by simp;omega];rfl
    have p0:wr.cell? ⟨g,h*12,none⟩=some (.int .i64 x.1.1.1.1.k):=I.row.cell hx 0 _ rfl;have p1:wr.cell? ⟨g,h*12+1,none⟩=some (.int .i64 x.1.1.1.1.n):=I.row.cell hx 1 _ rfl;have p2:wr.cell? ⟨g,h*12+2,none⟩=some (.string x.1.1.1.1.t):=I.row.cell hx 2 _ rfl;have p3:wr.cell? ⟨g,h*12+3,none⟩=some (.slice x.1.1.1.1.LA x.1.1.1.1.ln x.1.1.1.1.lc):=I.row.cell hx 3 _ rfl;have p4:wr.cell? ⟨g,h*12+4,none⟩=some (.slice x.1.1.1.1.DA x.1.1.1.1.dn x.1.1.1.1.dc):=I.row.cell hx 4 _ rfl;have p5:wr.cell? ⟨g,h*12+5,none⟩=some (.bool x.1.1.2):=I.row.cell hx 5 _ rfl;have p6:wr.cell? ⟨g,h*12+6,none⟩=some (.int .i64 x.1.2.1.1.k):=I.row.cell hx 6 _ rfl;have p7:wr.cell? ⟨g,h*12+7,none⟩=some (.int .i64 x.1.2.1.1.n):=I.row.cell hx 7 _ rfl;have p8:wr.cell? ⟨g,h*12+8,none⟩=some (.string x.1.2.1.1.t):=I.row.cell hx 8 _ rfl;have p9:wr.cell? ⟨g,h*12+9,none⟩=some (.slice x.1.2.1.1.LA x.1.2.1.1.ln x.1.2.1.1.lc):=I.row.cell hx 9 _ rfl;have p10:wr.cell? ⟨g,h*12+10,none⟩=some (.slice x.1.2.1.1.DA x.1.2.1.1.dn x.1.2.1.1.dc):=I.row.cell hx 10 _ rfl;have p11:wr.cell? ⟨g,h*12+11,none⟩=some (.bool x.1.2.2):=I.row.cell hx 11 _ rfl;have r0:wr.cell? ⟨g,m*12,none⟩=some (.int .i64 y.1.1.1.1.k):=I.row.cell hy 0 _ rfl;have r1:wr.cell? ⟨g,m*12+1,none⟩=some (.int .i64 y.1.1.1.1.n):=I.row.cell hy 1 _ rfl;have r2:wr.cell? ⟨g,m*12+2,none⟩=some (.string y.1.1.1.1.t):=I.row.cell hy 2 _ rfl;have r3:wr.cell? ⟨g,m*12+3,none⟩=some (.slice y.1.1.1.1.LA y.1.1.1.1.ln y.1.1.1.1.lc):=I.row.cell hy 3 _ rfl
    have r4:wr.cell? ⟨g,m*12+4,none⟩=some (.slice y.1.1.1.1.DA y.1.1.1.1.dn y.1.1.1.1.dc):=I.row.cell hy 4 _ rfl;have r5:wr.cell? ⟨g,m*12+5,none⟩=some (.bool y.1.1.2):=I.row.cell hy 5 _ rfl;have r6:wr.cell? ⟨g,m*12+6,none⟩=some (.int .i64 y.1.2.1.1.k):=I.row.cell hy 6 _ rfl;have r7:wr.cell? ⟨g,m*12+7,none⟩=some (.int .i64 y.1.2.1.1.n):=I.row.cell hy 7 _ rfl;have r8:wr.cell? ⟨g,m*12+8,none⟩=some (.string y.1.2.1.1.t):=I.row.cell hy 8 _ rfl;have r9:wr.cell? ⟨g,m*12+9,none⟩=some (.slice y.1.2.1.1.LA y.1.2.1.1.ln y.1.2.1.1.lc):=I.row.cell hy 9 _ rfl;have r10:wr.cell? ⟨g,m*12+10,none⟩=some (.slice y.1.2.1.1.DA y.1.2.1.1.dn y.1.2.1.1.dc):=I.row.cell hy 10 _ rfl;have r11:wr.cell? ⟨g,m*12+11,none⟩=some (.bool y.1.2.2):=I.row.cell hy 11 _ rfl;have P0:=aX p0;have P1:=aX p1;have P2:=aX p2;have P3:=aX p3;have P4:=aX p4;have P5:=aX p5;have P6:=aX p6;have P7:=aX p7;have P8:=aX p8;have P9:=aX p9;have P10:=aX p10;have P11:=aX p11;have R0:=aX r0;have R1:=aX r1;have R2:=aX r2;have R3:=aX r3;have R4:=aX r4;have R5:=aX r5;have R6:=aX r6;have R7:=aX r7;have R8:=aX r8;have R9:=aX r9;have R10:=aX r10;have R11:=aX r11;have i0:(0:Int)<=(h:Int):=oM
    have i1:(h:Int)<(n:Int):=oM
    have i2:(0:Int)<=(m:Int):=oM
    have i3:(m:Int)<(n:Int):=oM
    have K1:Hid (∀k:BW wr,Calls prog 190 #[mo y,mo x] k.val fun e w''=>e=.returned (.int .i64 (aq (ai y.1).1 (ai x.1).1))/\∃k:BW wr,w''=k.val):=fun k=>
     Calls.bw (HH.out.cmp y x sM (by simp[OJ hxX]) k.val (I.but.step k.below))
    have HY:=qD hxX;clear p0 p1 p2 p3 p4 p5 p6 p7 p8 p9 p10 p11 r0 r1 r2 r3 r4 r5 r6 r7 r8 r9 r10 r11 hx hy hxX I;refine aL kR kR ?_
    repeat(go_big_quiet_step (with_reducible exact K1.out _))
    refine Oc ?_;rintro _ ⟨kw,rfl⟩;have J2:=qD (J.out.step kw.below);clear P0 P1 P2 P3 P4 P5 P6 P7 P8 P9 P10 P11 R0 R1 R2 R3 R4 R5 R6 R7 R8 R9 R10 R11 K1 i0 i1 i2 i3;generalize kw.val=w2 at*;by_cases hc:aq (ai y.1).1 (ai x.1).1<0
    ·have HHi2:Hid (∀(k:Nat) z,X[k]?=some z->h<=a+k->aq (ai y.1).1 (ai z.1).1<0):=fun k z hz hk=>by
      by_cases e:k=h-a
      ·subst e;rw[HY.out] at hz;cases hz;exact hc
      ·exact qi HO.out (y:=x.1) hc (RT.le (oB HH.out.hX oM HY.out hz))
     have d4:(!decide (aq (ai y.1).1 (ai x.1).1<0))=false:=by rw[OM hc];rfl
     go_wp2_with fail
     all_goals first|(rename_i e;rw[d4] at e;contradiction)|skip
     go_roundw
     ·exact⟨i,h,rfl,rfl,hmi,h1,by omega,HLo.out,HHi2.out,J2.out⟩
     ·exact iO
    ·have HLo2:Hid (∀(k:Nat) z,X[k]?=some z->a+k<h+1->¬aq (ai y.1).1 (ai z.1).1<0):=fun k z hz hk=>by
      by_cases e:k=h-a
      ·subst e;rw[HY.out] at hz;cases hz;exact hc
      ·have q1:=RT.le (oB HH.out.hX oM hz HY.out);have q2:aq (ai x.1).1 (ai y.1).1=-(aq (ai y.1).1 (ai x.1).1):=HO.out.anti y.1 x.1;have q3:aq (ai z.1).1 (ai y.1).1<=0:=jo HO.out (y:=x.1) q1 (show aq (ai x.1).1 (ai y.1).1<=0 by omega);have q4:aq (ai y.1).1 (ai z.1).1=-(aq (ai z.1).1 (ai y.1).1):=HO.out.anti z.1 y.1;omega
     have d4:(!decide (aq (ai y.1).1 (ai x.1).1<0))=true:=by rw[OV hc];rfl
     go_wp2_with fail
     all_goals first|(rename_i e;rw[d4] at e;contradiction)|skip
     go_roundw
     ·exact⟨h+1,j,by go_num,rfl,by omega,by omega,hjb,HLo2.out,HHi.out,J2.out⟩
     ·exact iO
   ·obtain rfl:i=j:=oM
    obtain⟨X1,X2,hXX,hX1⟩:∃X1 X2,X=X1++X2/\X1.length=i-a:=⟨X.take (i-a),X.drop (i-a),(Oh _ X).symm,by rw[Ow];have:=HM.out;omega⟩
    have HS:Hid (aS (fun p q:PS=>aq (ai p).1 (ai q).1) (X++[y]) (X1++y::X2)):=by
     have hp:=HH.out.hX;have ht:∀x∈X,x.2<y.2:=fun x hx=>HH.out.hT x hx y sM;rw[hXX] at hp ht;rw[Hid,hXX];refine qk HO.out hp ht (fun x hx=>?_) (fun x hx=>?_)
     ·obtain⟨k,hk⟩:=PP hx;have hkl:=(OI.1 hk).1;exact HLo.out k x (by rw[hXX,PX hkl];exact hk) oM
     ·obtain⟨k,hk⟩:=PP hx;exact HHi.out (X1.length+k) x (by rw[hXX,Oa oM];simpa using hk) oM
    have HXX:=qD hXX;have HX1:=qD hX1;have hX2l:X2.length=m-i:=by have h1:=HM.out;rw[hXX] at h1;simp at h1;omega
    have HX2:=qD hX2l;clear hXX hX1 I HLo HHi hX2l;go_wp2_with fail
    go_loopw [17] (fun v17 wr=>∃(k:Nat) (P1 P2:List (PS×Nat)),v17=.int .i64 k/\k=i+P1.length/\X2=P1++P2/\dQ g w ((A++X1)++(P1++y::P2)++D) wr) (fun v17 _=>(intOf v17).toNat)
    case atStart=>
     refine⟨m,X2,[],rfl,by have:=HX2.out;omega,by simp,?_⟩;have:=J.out;rw[HXX.out] at this;simpa using this
    case round=>
     obtain⟨k,P1,P2,rfl,hk,hPP,I⟩:=hrel;have HPP:=qD hPP;have HK:=qD hk;have J2:=qD I;have hkm:k<=m:=by have h1:=HX2.out;rw[hPP] at h1;simp at h1;omega
     by_cases hlt2:i<k
     ·obtain⟨P0,z,hP0⟩:∃P0 z,P1=P0++[z]:=by
       rcases QT P1 with h|⟨P0,z,h⟩
       ·rw[h] at hk;simp at hk;omega
       ·exact⟨P0,z,by rw[h,QG]⟩
      have hkA:k=(A++X1).length+(P0.length+1):=by rw[hk,hP0];have:=HX1.out;have:=HA.out;simp;omega
      have HYk:Hid (((A++X1)++(P1++y::P2)++D)[k]?=some y):=by
       rw[Hid,hP0,hkA,show(A++X1)++((P0++[z])++y::P2)++D=(A++X1++P0++[z])++y::(P2++D) by simp,Oa sO,show(A++X1).length+(P0.length+1)-(A++X1++P0++[z]).length=0 by simp;omega];rfl
      have HZk:Hid (((A++X1)++(P1++y::P2)++D)[k-1]?=some z):=by
       rw[Hid,hP0,hkA,show(A++X1)++((P0++[z])++y::P2)++D=(A++X1++P0)++z::(y::(P2++D)) by simp,Oa sO,show(A++X1).length+(P0.length+1)-1-(A++X1++P0).length=0 by simp;omega];rfl
      have HSw:Hid ((((A++X1)++(P1++y::P2)++D).set k z).set (k-1) y=(A++X1)++(P0++y::z::P2)++D):=by
       rw[Hid,hP0,hkA];exact mU (A++X1) P0 P2 D y z
      have HP0:=qD hP0;have hk1:1<=k:=oM
      have p0:wr.cell? ⟨g,k*12,none⟩=some (.int .i64 y.1.1.1.1.k):=J2.out.row.cell HYk.out 0 _ rfl;have p1:wr.cell? ⟨g,k*12+1,none⟩=some (.int .i64 y.1.1.1.1.n):=J2.out.row.cell HYk.out 1 _ rfl;have p2:wr.cell? ⟨g,k*12+2,none⟩=some (.string y.1.1.1.1.t):=J2.out.row.cell HYk.out 2 _ rfl;have p3:wr.cell? ⟨g,k*12+3,none⟩=some (.slice y.1.1.1.1.LA y.1.1.1.1.ln y.1.1.1.1.lc):=J2.out.row.cell HYk.out 3 _ rfl;have p4:wr.cell? ⟨g,k*12+4,none⟩=some (.slice y.1.1.1.1.DA y.1.1.1.1.dn y.1.1.1.1.dc):=J2.out.row.cell HYk.out 4 _ rfl;have p5:wr.cell? ⟨g,k*12+5,none⟩=some (.bool y.1.1.2):=J2.out.row.cell HYk.out 5 _ rfl;have p6:wr.cell? ⟨g,k*12+6,none⟩=some (.int .i64 y.1.2.1.1.k):=J2.out.row.cell HYk.out 6 _ rfl;have p7:wr.cell? ⟨g,k*12+7,none⟩=some (.int .i64 y.1.2.1.1.n):=J2.out.row.cell HYk.out 7 _ rfl;have p8:wr.cell? ⟨g,k*12+8,none⟩=some (.string y.1.2.1.1.t):=J2.out.row.cell HYk.out 8 _ rfl;have p9:wr.cell? ⟨g,k*12+9,none⟩=some (.slice y.1.2.1.1.LA y.1.2.1.1.ln y.1.2.1.1.lc):=J2.out.row.cell HYk.out 9 _ rfl;have p10:wr.cell? ⟨g,k*12+10,none⟩=some (.slice y.1.2.1.1.DA y.1.2.1.1.dn y.1.2.1.1.dc):=J2.out.row.cell HYk.out 10 _ rfl;have p11:wr.cell? ⟨g,k*12+11,none⟩=some (.bool y.1.2.2):=J2.out.row.cell HYk.out 11 _ rfl;have r0:wr.cell? ⟨g,(k-1)*12,none⟩=some (.int .i64 z.1.1.1.1.k):=J2.out.row.cell HZk.out 0 _ rfl;have r1:wr.cell? ⟨g,(k-1)*12+1,none⟩=some (.int .i64 z.1.1.1.1.n):=J2.out.row.cell HZk.out 1 _ rfl
      have r2:wr.cell? ⟨g,(k-1)*12+2,none⟩=some (.string z.1.1.1.1.t):=J2.out.row.cell HZk.out 2 _ rfl;have r3:wr.cell? ⟨g,(k-1)*12+3,none⟩=some (.slice z.1.1.1.1.LA z.1.1.1.1.ln z.1.1.1.1.lc):=J2.out.row.cell HZk.out 3 _ rfl;have r4:wr.cell? ⟨g,(k-1)*12+4,none⟩=some (.slice z.1.1.1.1.DA z.1.1.1.1.dn z.1.1.1.1.dc):=J2.out.row.cell HZk.out 4 _ rfl;have r5:wr.cell? ⟨g,(k-1)*12+5,none⟩=some (.bool z.1.1.2):=J2.out.row.cell HZk.out 5 _ rfl;have r6:wr.cell? ⟨g,(k-1)*12+6,none⟩=some (.int .i64 z.1.2.1.1.k):=J2.out.row.cell HZk.out 6 _ rfl;have r7:wr.cell? ⟨g,(k-1)*12+7,none⟩=some (.int .i64 z.1.2.1.1.n):=J2.out.row.cell HZk.out 7 _ rfl;have r8:wr.cell? ⟨g,(k-1)*12+8,none⟩=some (.string z.1.2.1.1.t):=J2.out.row.cell HZk.out 8 _ rfl;have r9:wr.cell? ⟨g,(k-1)*12+9,none⟩=some (.slice z.1.2.1.1.LA z.1.2.1.1.ln z.1.2.1.1.lc):=J2.out.row.cell HZk.out 9 _ rfl;have r10:wr.cell? ⟨g,(k-1)*12+10,none⟩=some (.slice z.1.2.1.1.DA z.1.2.1.1.dn z.1.2.1.1.dc):=J2.out.row.cell HZk.out 10 _ rfl;have r11:wr.cell? ⟨g,(k-1)*12+11,none⟩=some (.bool z.1.2.2):=J2.out.row.cell HZk.out 11 _ rfl;have zf:=bW.frozen J2.out.row;clear hk hPP I hkA hP0;go_upto_region 23 with fail
      go_region
      all_goals
       clear p0 p1 p2 p3 p4 p5 p6 p7 p8 p9 p10 p11 r0 r1 r2 r3 r4 r5 r6 r7 r8 r9 r10 r11 zf;go_wp2_with fail;refine⟨⟨k-1,P0,z::P2,by rw[show((k-1:Nat):Int)=(k:Int)-1 by omega],by have h1:=HK.out;rw[HP0.out] at h1;simp at h1;omega,by rw[HPP.out,HP0.out];simp,?_⟩,by simp[intOf];omega⟩;have r1:=J2.out.swap (OI.1 HYk.out).1 y z;rw[HSw.out] at r1;exact r1
     ·have HE:Hid (dQ g w (A++(X1++y::X2)++D) wr):=by
       have e:P1=[]:=OL oM;rw[e,PG] at hPP;rw[e] at I;rw[Hid,hPP];simpa using I
      clear hk hPP I;go_wp2_with fail
      go_end0
      exact⟨rfl,_,HS.out,HE.out⟩
section
variable {α:Type} {cm:α->α->Int}
theorem BJ(H:cM cm){l:List (α×Nat)}(h:l.Pairwise (RT cm)){x y:α×Nat}(hij:i<=j)(hx:l[i]?=some x)(hy:l[j]?=some y):cm x.1 y.1<=0:=by
 by_cases e:i=j
 ·subst e;rw[hx] at hy;cases hy;have:=H.anti x.1 x.1;omega
 ·exact RT.le (oB h oM hx hy)
theorem oD{X1 X2 Y1 Y2 S1 S2:List (α×Nat)}(hX:(X1++X2).Pairwise (RT cm))(hY:(Y1++Y2).Pairwise (RT cm))(h12:∀x∈X1,∀y∈Y2,RT cm x y)(h21:∀y∈Y1,∀x∈X2,RT cm y x)(h1:aS cm (X1++Y1) S1)(h2:aS cm (X2++Y2) S2):aS cm ((X1++X2)++(Y1++Y2)) (S1++S2):=by
  refine⟨(h1.1.append h2.1).trans ?_,Oi.2 ⟨h1.2,h2.2,fun u hu v hv=>?_⟩⟩
  ·rw[OY,OY];refine List.Perm.append_left X1 ?_;rw[<-OY,<-OY];exact List.Perm.append_right Y2 List.perm_append_comm
  ·rcases OP.1 (h1.1.mem_iff.1 hu) with hu|hu<;>rcases OP.1 (h2.1.mem_iff.1 hv) with hv|hv
   ·exact(Oi.1 hX).2.2 u hu v hv
   ·exact h12 u hu v hv
   ·exact h21 u hu v hv
   ·exact(Oi.1 hY).2.2 u hu v hv
theorem Lo{A X Y D:List (α×Nat)}(h1:A.length<=i)(h2:i<A.length+X.length):(A++X++Y++D)[i]?=X[i-A.length]?:=by
 rw[OY,OY,Oa h1,PX oM]
theorem Lp{A X Y D:List (α×Nat)}(h1:A.length+X.length<=i)(h2:i<A.length+X.length+Y.length):(A++X++Y++D)[i]?=Y[i-(A.length+X.length)]?:=by
 rw[OY,Oa sO,PX sO];simp
theorem tJ(H:cM cm){A X Y D:List (α×Nat)}{a s0 r0 t:Nat}(ha:a=A.length)(hm:m=a+X.length)(hb:b=m+Y.length)(hX:X.Pairwise (RT cm))(hY:Y.Pairwise (RT cm))(hT:∀x∈X,∀y∈Y,x.2<y.2)(hs:s0<=t)(hr:t<=r0)(hmid:mid=(a+b)/2)(hc:(mid<m/\s0=mid+m-b/\r0=mid)\/(m<=mid/\s0=a/\r0=m))(lo:t=s0\/∃x y,(A++X++Y++D)[t-1]?=some x/\(A++X++Y++D)[mid+m-t]?=some y/\¬cm y.1 x.1<0)(hi:t=r0\/∃x y,(A++X++Y++D)[t]?=some x/\(A++X++Y++D)[mid+m-1-t]?=some y/\cm y.1 x.1<0):
  ∃X1 X2 Y1 Y2,X=X1++X2/\Y=Y1++Y2/\X1.length=t-a/\X2.length=m-t/\Y1.length=mid-t/\Y2.length=b+t-(mid+m)/\(∀x∈X1,∀y∈Y2,RT cm x y)/\(∀y∈Y1,∀x∈X2,RT cm y x):=by
  have HLo:=qD lo;have HHi:=qD hi;clear lo hi;have l1:(X.take (t-a)).length=t-a:=by rw[Ow];omega
  have l2:(X.drop (t-a)).length=m-t:=by rw[Rn];omega
  have l3:(Y.take (mid-t)).length=mid-t:=by rw[Ow];omega
  have l4:(Y.drop (mid-t)).length=b+t-(mid+m):=by rw[Rn];omega
  refine⟨_,_,_,_,(Oh (t-a) X).symm,(Oh (mid-t) Y).symm,l1,l2,l3,l4,fun x hx y hy=>?_,fun y hy x hx=>?_⟩
  ·obtain⟨k,hk⟩:=PP hx;obtain⟨k',hk'⟩:=PP hy;have q1:=(OI.1 hk).1;have q2:=(OI.1 hk').1;rw[Rv oM] at hk;rw[Qc] at hk';have ht:=hT x (OJ hk) y (OJ hk');rcases HLo.out with lo|⟨x0,y0,e1,e2,e3⟩
   ·omega
   ·rw[Lo oM oM] at e1;rw[Lp oM oM] at e2;have r1:=BJ H hX oM hk e1;have r2:=BJ H hY oM e2 hk';have r3:=H.anti y0.1 x0.1;have r4:=jo H r1 (show cm x0.1 y0.1<=0 by omega);have r5:=jo H r4 r2;unfold RT;omega
  ·obtain⟨k,hk⟩:=PP hx;obtain⟨k',hk'⟩:=PP hy;have q1:=(OI.1 hk).1;have q2:=(OI.1 hk').1;rw[Qc] at hk;rw[Rv oM] at hk';rcases HHi.out with hi|⟨x0,y0,e1,e2,e3⟩
   ·omega
   ·rw[Lo oM oM] at e1;rw[Lp oM oM] at e2;have r1:=BJ H hX oM e1 hk;have r2:=BJ H hY oM hk' e2;exact .inl (qi H (qg H r2 e3) r1)
end
theorem jG.less{U U':List (PS×Nat)}(h:jG g w U)(hb:fD g w w1)(hs:∀x∈U',x∈U):jG g w1 U':=fun x y hx hy wr hr=>h x y (hs x hx) (hs y hy) wr (hb.trans hr)
theorem BL{A X1 X2 Y1 Y2 D:List (PS×Nat)}(h:fE A (X1++X2) (Y1++Y2) D g n w)(I:dQ g w (A++X1++Y1++X2++Y2++D) w1):fE A X1 Y1 (X2++Y2++D) g n w1:=
 ⟨by have:=I.row;simpa using this,by rw[h.ln];simp;omega,h.sz,(Oi.1 h.hX).1,(Oi.1 h.hY).1,fun x hx y hy=>h.hT x (by simp[hx]) y (by simp[hy]),h.cmp.less I.but (fun x hx=>by rcases OP.1 hx with hx|hx<;>simp[hx])⟩
theorem BM{A X1 X2 Y1 Y2 D S1:List (PS×Nat)}(h:fE A (X1++X2) (Y1++Y2) D g n w)(hl:S1.length=X1.length+Y1.length)(I:dQ g w (A++S1++(X2++Y2++D)) w1):fE (A++S1) X2 Y2 D g n w1:=
 ⟨by have:=I.row;simpa using this,by rw[h.ln];simp;omega,h.sz,(Oi.1 h.hX).2.1,(Oi.1 h.hY).2.1,fun x hx y hy=>h.hT x (by simp[hx]) y (by simp[hy]),h.cmp.less I.but (fun x hx=>by rcases OP.1 hx with hx|hx<;>simp[hx])⟩
theorem jH{α:Type}{cm:α->α->Int}{l:List (α×Nat)}(h:l.Pairwise (RT cm)):aS cm l l:=⟨List.Perm.refl _,h⟩
def BN(N:Nat):Prop:=∀(A X Y D:List (PS×Nat)) (g n c a m b:Nat) (aI mI bI:Int) (w:World),fE A X Y D g n w->a=A.length->m=a+X.length->b=m+Y.length->1<=X.length->1<=Y.length->X.length+Y.length<N->aI=a->mI=m->bI=b->
 Calls prog 293 #[.slice (some ⟨g,0,none⟩) n c,.int .i64 aI,.int .i64 mI,.int .i64 bI,.func (.func 190) #[] #[]] w (oC g w A X Y D)
def Kw(L:List (PS×Nat))(s0 nn t:Nat):Prop:=t=s0\/∃x y,L[t-1]?=some x/\L[nn-t]?=some y/\¬aq (ai y.1).1 (ai x.1).1<0
def Kx(L:List (PS×Nat))(r0 nn t:Nat):Prop:=t=r0\/∃x y,L[t]?=some x/\L[nn-1-t]?=some y/\aq (ai y.1).1 (ai x.1).1<0
theorem JZ(H:cM (fun p q:PS=>aq (ai p).1 (ai q).1))(A X Y D:List (PS×Nat))(g n c a m b:Nat)(aI mI bI:Int)(w:World)(h:fE A X Y D g n w)(ha:a=A.length)(hm:m=a+X.length)(hb:b=m+Y.length)(hX2:2<=X.length)(hY2:2<=Y.length)(ih:BN (X.length+Y.length))(haI:aI=a)(hmI:mI=m)(hbI:bI=b):
  Calls prog 293 #[.slice (some ⟨g,0,none⟩) n c,.int .i64 aI,.int .i64 mI,.int .i64 bI,.func (.func 190) #[] #[]] w (oC g w A X Y D):=by
  subst haI hmI hbI;have hz:=h.sz;unfold aF at hz;have hbn:b<=n:=by have:=h.ln;simp at this;omega
  have ham:((m:Int)-(a:Int)==1)=false:=by simp;omega
  have hbm:((b:Int)-(m:Int)==1)=false:=by simp;omega
  have HA:=qD ha;have HM:=qD hm;have HB:=qD hb;have hm1:a+2<=m:=oM
  have hmb:m+2<=b:=oM
  have HH:=qD h;have HO:=qD H;have HI:=qD ih;have I0:Hid (dQ g w (A++X++Y++D) w):=qD ⟨h.row,fD.refl⟩;clear h ha hm hb H ih hX2 hY2;go_enter func293,ntmps293;go_upto_region 25 with fail
  obtain⟨mid,hh⟩:∃mid:Nat,((a:Int)+(b:Int))/2=(mid:Int):=⟨(a+b)/2,by omega⟩;rw[hh];have HMid:Hid (mid=(a+b)/2):=by unfold Hid;omega
  have hmid1:a<mid:=oM
  have hmid2:mid<b:=oM
  have hmid3:2*mid<=a+b:=oM
  have hmid4:a+b<=2*mid+1:=oM
  clear hh
  obtain⟨s0,r0,hc⟩:∃s0 r0:Nat,(mid<m/\s0=mid+m-b/\r0=mid)\/(m<=mid/\s0=a/\r0=m):=by
   by_cases e:mid<m
   ·exact⟨_,_,.inl ⟨e,rfl,rfl⟩⟩
   ·exact⟨_,_,.inr ⟨by omega,rfl,rfl⟩⟩
  have HC:=qD hc;have hs1:a<=s0:=oM
  have hs2:s0<=r0:=oM
  have hr1:r0<=m:=oM
  have hr2:r0<=mid:=oM
  have hs3:mid+m<=b+s0:=oM
  clear hc;go_upto_region 26 with fail
  obtain⟨p,hp⟩:∃p:Nat,mid+m=p+1:=⟨mid+m-1,by omega⟩;have HP:=qD hp;have hp1:p+1<=b+s0:=oM
  have hp2:m+r0<=p+1:=oM
  rw[show(mid:Int)+(m:Int)=(p:Int)+1 by omega];clear hp
  go_upto_if 140 with fail
  go_cut [20,21] (fun s20 s21 wx=>s20=.int .i64 s0/\s21=.int .i64 r0/\w=wx)
  case first=>as_aux_lemma=>
   rcases HC.out with⟨q1,q2,q3⟩|⟨q1,q2,q3⟩
   all_goals
    have Q2:=qD q2;have Q3:=qD q3;clear q2 q3;go_wp2_with fail;go_meet;exact⟨congrArg (Value.int .i64) (by have:=Q2.out;have:=HP.out;omega),congrArg (Value.int .i64) (by have:=Q3.out;omega),rfl⟩
  case rest=>
   obtain⟨rfl,rfl,rfl⟩:=hcut;go_wp2_with fail
   go_loopw [20,21] (fun v20 v21 wr=>∃(i j:Nat),v20=.int .i64 i/\v21=.int .i64 j/\s0<=i/\i<=j/\j<=r0/\Kw (A++X++Y++D) s0 (p+1) i/\Kx (A++X++Y++D) r0 (p+1) j/\dQ g w (A++X++Y++D) wr) (fun v20 v21 _=>(intOf v21).toNat-(intOf v20).toNat)
   ·exact⟨s0,r0,rfl,rfl,qL,hs2,qL,.inl rfl,.inl rfl,I0.out⟩
   case round=>
    obtain⟨i,j,rfl,rfl,hmi,hij,hjb,hlo,hhi,I⟩:=hrel;have HLo:=qD hlo;have HHi:=qD hhi;have J:=qD I;clear hlo hhi;by_cases hlt:i<j
    ·as_aux_lemma=>
     go_upto_region 35 with fail
     obtain⟨h,hh⟩:∃h:Nat,((i:Int)+(j:Int))/2=(h:Int):=⟨(i+j)/2,by omega⟩;rw[hh];have h1:i<=h:=oM
     have h2:h<j:=oM
     clear hh
     obtain⟨x,hx,hxX⟩:∃x,(A++X++Y++D)[h]?=some x/\x∈X:=by
      have hA:=HA.out;have hM:=HM.out;rw[Lo oM oM];exact⟨_,OH oM,Pw _⟩
     obtain⟨y,hy,hyY⟩:∃y,(A++X++Y++D)[p-h]?=some y/\y∈Y:=by
      have hA:=HA.out;have hM:=HM.out;have hB:=HB.out;rw[Lp oM oM];exact⟨_,OH oM,Pw _⟩
     have p0:wr.cell? ⟨g,h*12,none⟩=some (.int .i64 x.1.1.1.1.k):=I.row.cell hx 0 _ rfl;have p1:wr.cell? ⟨g,h*12+1,none⟩=some (.int .i64 x.1.1.1.1.n):=I.row.cell hx 1 _ rfl;have p2:wr.cell? ⟨g,h*12+2,none⟩=some (.string x.1.1.1.1.t):=I.row.cell hx 2 _ rfl;have p3:wr.cell? ⟨g,h*12+3,none⟩=some (.slice x.1.1.1.1.LA x.1.1.1.1.ln x.1.1.1.1.lc):=I.row.cell hx 3 _ rfl;have p4:wr.cell? ⟨g,h*12+4,none⟩=some (.slice x.1.1.1.1.DA x.1.1.1.1.dn x.1.1.1.1.dc):=I.row.cell hx 4 _ rfl;have p5:wr.cell? ⟨g,h*12+5,none⟩=some (.bool x.1.1.2):=I.row.cell hx 5 _ rfl;have p6:wr.cell? ⟨g,h*12+6,none⟩=some (.int .i64 x.1.2.1.1.k):=I.row.cell hx 6 _ rfl;have p7:wr.cell? ⟨g,h*12+7,none⟩=some (.int .i64 x.1.2.1.1.n):=I.row.cell hx 7 _ rfl;have p8:wr.cell? ⟨g,h*12+8,none⟩=some (.string x.1.2.1.1.t):=I.row.cell hx 8 _ rfl;have p9:wr.cell? ⟨g,h*12+9,none⟩=some (.slice x.1.2.1.1.LA x.1.2.1.1.ln x.1.2.1.1.lc):=I.row.cell hx 9 _ rfl;have p10:wr.cell? ⟨g,h*12+10,none⟩=some (.slice x.1.2.1.1.DA x.1.2.1.1.dn x.1.2.1.1.dc):=I.row.cell hx 10 _ rfl;have p11:wr.cell? ⟨g,h*12+11,none⟩=some (.bool x.1.2.2):=I.row.cell hx 11 _ rfl;have r0:wr.cell? ⟨g,(p-h)*12,none⟩=some (.int .i64 y.1.1.1.1.k):=I.row.cell hy 0 _ rfl;have r1:wr.cell? ⟨g,(p-h)*12+1,none⟩=some (.int .i64 y.1.1.1.1.n):=I.row.cell hy 1 _ rfl;have r2:wr.cell? ⟨g,(p-h)*12+2,none⟩=some (.string y.1.1.1.1.t):=I.row.cell hy 2 _ rfl;have r3:wr.cell? ⟨g,(p-h)*12+3,none⟩=some (.slice y.1.1.1.1.LA y.1.1.1.1.ln y.1.1.1.1.lc):=I.row.cell hy 3 _ rfl
     have r4:wr.cell? ⟨g,(p-h)*12+4,none⟩=some (.slice y.1.1.1.1.DA y.1.1.1.1.dn y.1.1.1.1.dc):=I.row.cell hy 4 _ rfl;have r5:wr.cell? ⟨g,(p-h)*12+5,none⟩=some (.bool y.1.1.2):=I.row.cell hy 5 _ rfl;have r6:wr.cell? ⟨g,(p-h)*12+6,none⟩=some (.int .i64 y.1.2.1.1.k):=I.row.cell hy 6 _ rfl;have r7:wr.cell? ⟨g,(p-h)*12+7,none⟩=some (.int .i64 y.1.2.1.1.n):=I.row.cell hy 7 _ rfl;have r8:wr.cell? ⟨g,(p-h)*12+8,none⟩=some (.string y.1.2.1.1.t):=I.row.cell hy 8 _ rfl;have r9:wr.cell? ⟨g,(p-h)*12+9,none⟩=some (.slice y.1.2.1.1.LA y.1.2.1.1.ln y.1.2.1.1.lc):=I.row.cell hy 9 _ rfl;have r10:wr.cell? ⟨g,(p-h)*12+10,none⟩=some (.slice y.1.2.1.1.DA y.1.2.1.1.dn y.1.2.1.1.dc):=I.row.cell hy 10 _ rfl;have r11:wr.cell? ⟨g,(p-h)*12+11,none⟩=some (.bool y.1.2.2):=I.row.cell hy 11 _ rfl;have P0:=aX p0;have P1:=aX p1;have P2:=aX p2;have P3:=aX p3;have P4:=aX p4;have P5:=aX p5;have P6:=aX p6;have P7:=aX p7;have P8:=aX p8;have P9:=aX p9;have P10:=aX p10;have P11:=aX p11;have R0:=aX r0;have R1:=aX r1;have R2:=aX r2;have R3:=aX r3;have R4:=aX r4;have R5:=aX r5;have R6:=aX r6;have R7:=aX r7;have R8:=aX r8;have R9:=aX r9;have R10:=aX r10;have R11:=aX r11;have i0:(0:Int)<=(h:Int):=oM
     have i1:(h:Int)<(n:Int):=oM
     have i2:(0:Int)<=(p:Int)-(h:Int):=oM
     have i3:(p:Int)-(h:Int)<(n:Int):=oM
     have K1:Hid (∀k:BW wr,Calls prog 190 #[mo y,mo x] k.val fun e w''=>e=.returned (.int .i64 (aq (ai y.1).1 (ai x.1).1))/\∃k:BW wr,w''=k.val):=fun k=>
      Calls.bw (HH.out.cmp y x (by simp[hyY]) (by simp[hxX]) k.val (I.but.step k.below))
     have HX:=qD hx;have HY:=qD hy;clear p0 p1 p2 p3 p4 p5 p6 p7 p8 p9 p10 p11 r0 r1 r2 r3 r4 r5 r6 r7 r8 r9 r10 r11 hx hy hxX hyY I;refine aL (by as_aux_lemma=>kernel_rfl) (by as_aux_lemma=>kernel_rfl) ?_
     repeat(go_big_quiet_step (with_reducible exact K1.out _))
     refine Oc ?_;rintro _ ⟨kw,rfl⟩;have J2:=qD (J.out.step kw.below);clear P0 P1 P2 P3 P4 P5 P6 P7 P8 P9 P10 P11 R0 R1 R2 R3 R4 R5 R6 R7 R8 R9 R10 R11 K1 i0 i1 i2 i3;generalize kw.val=w2 at*;by_cases hc:aq (ai y.1).1 (ai x.1).1<0
     ·have HHi2:Hid (Kx (A++X++Y++D) r0 (p+1) h):=.inr ⟨x,y,HX.out,HY.out,hc⟩;have d4:(!decide (aq (ai y.1).1 (ai x.1).1<0))=false:=by rw[OM hc];rfl
      go_wp2_with fail
      all_goals first|(rename_i e;rw[d4] at e;contradiction)|skip
      go_roundw
      ·exact⟨i,h,rfl,rfl,hmi,h1,by omega,HLo.out,HHi2.out,J2.out⟩
      ·exact iO
     ·have HLo2:Hid (Kw (A++X++Y++D) s0 (p+1) (h+1)):=.inr ⟨x,y,HX.out,by rw[Nat.add_sub_add_right];exact HY.out,hc⟩;have d4:(!decide (aq (ai y.1).1 (ai x.1).1<0))=true:=by rw[OV hc];rfl
      go_wp2_with fail
      all_goals first|(rename_i e;rw[d4] at e;contradiction)|skip
      go_roundw
      ·exact⟨h+1,j,by go_num,rfl,by omega,by omega,hjb,HLo2.out,HHi.out,J2.out⟩
      ·exact iO
    ·obtain rfl:i=j:=oM
     obtain⟨X1,X2,Y1,Y2,hXX,hYY,l1,l2,l3,l4,h12,h21⟩:=tJ (D:=D) HO.out HA.out HM.out HB.out HH.out.hX HH.out.hY HH.out.hT hmi hjb HMid.out HC.out (by rw[HP.out];exact HLo.out) (by rw[HP.out];exact HHi.out)
     have HS:Hid (∀S1 S2,aS (fun p q:PS=>aq (ai p).1 (ai q).1) (X1++Y1) S1->aS (fun p q:PS=>aq (ai p).1 (ai q).1) (X2++Y2) S2->aS (fun p q:PS=>aq (ai p).1 (ai q).1) (X++Y) (S1++S2)):=fun S1 S2 q1 q2=>by
      have hp:=HH.out.hX;have hq:=HH.out.hY;rw[hXX] at hp ⊢;rw[hYY] at hq ⊢;exact oD hp hq h12 h21 q1 q2
     have HH2:Hid (fE A (X1++X2) (Y1++Y2) D g n w):=by have:=HH.out;rw[hXX,hYY] at this;exact this
     have HJ:Hid (dQ g w (A++X1++X2++Y1++Y2++D) wr):=by have:=J.out;rw[hXX,hYY] at this;rw[Hid];simpa using this
     have HL1:=qD l1;have HL2:=qD l2;have HL3:=qD l3;have HL4:=qD l4;have hsum:mid-a<X.length+Y.length:=by have:=HM.out;have:=HB.out;omega
     have hsum2:b-mid<X.length+Y.length:=by have:=HM.out;have:=HB.out;omega
     clear hXX hYY l1 l2 l3 l4 h12 h21 I J HLo HHi;go_upto_region 39 with fail
     obtain⟨en,hen⟩:∃en:Nat,(p:Int)+1-(i:Int)=(en:Int):=⟨p+1-i,by omega⟩;have HEn:Hid (en+i=mid+m):=by unfold Hid;have:=HP.out;omega
     have hen1:en<=b:=oM
     rw[hen];clear hen
     go_cut [185] (fun s wx=>s=.bool (decide (i<m/\m<en))/\wr=wx)
     case first=>as_aux_lemma=>
      by_cases e1:i<m<;>by_cases e2:m<en
      all_goals
       go_wp2_with fail;go_meet;exact⟨congrArg Value.bool (by simp[e1,e2]),rfl⟩
     case rest=>
      obtain⟨rfl,rfl⟩:=hcut
      go_upto_if 185 with fail
      go_cut [] (fun wx=>dQ g w (A++X1++Y1++X2++Y2++D) wx)
      case first=>as_aux_lemma=>
       by_cases e:i<m/\m<en
       ·have d:decide (i<m/\m<en)=true:=OM e;rw[d];clear d;go_wp2_with fail;refine(uV (A++X1) X2 Y1 (Y2++D) g n c i m en _ _ _ _ _ (by have:=HJ.out.row;simpa using this) (by rw[HH2.out.ln];simp) (by have:=HA.out;have:=HL1.out;simp;omega) (by have:=HA.out;have:=HL1.out;have:=HL2.out;simp;omega) (by have:=HA.out;have:=HL1.out;have:=HL2.out;have:=HL3.out;have:=HEn.out;simp;omega) (by have:=HL2.out;omega) (by have:=HL3.out;have:=HEn.out;omega) rfl rfl rfl HH2.out.sz).mono ?_;rintro e w1 ⟨rfl,h1⟩;have H1:=qD (HJ.out.then h1);clear h1;go_wp2_with fail;go_meet;have:=H1.out;simpa using this
       ·have d:decide (i<m/\m<en)=false:=OV e;rw[d];clear d;go_wp2_with fail;go_meet;have h1:=HJ.out
        have q:X2=[]\/Y1=[]:=by
         by_cases e1:i<m
         ·exact .inr (OL (by have:=HL3.out;have:=HEn.out;omega))
         ·exact .inl (OL (by have:=HL2.out;omega))
        rcases q with q|q
        ·rw[q] at h1 ⊢;simpa using h1
        ·rw[q] at h1 ⊢;simpa using h1
      case rest=>
       have HJ2:=qD hcut;clear hcut;go_upto_region 41 with fail
       go_cut [199] (fun s wx=>s=.bool (decide (a<i/\i<mid))/\wc=wx)
       case first=>as_aux_lemma=>
        by_cases e1:a<i<;>by_cases e2:i<mid
        all_goals
         go_wp2_with fail;go_meet;exact⟨congrArg Value.bool (by simp[e1,e2]),rfl⟩
       case rest=>
        obtain⟨rfl,rfl⟩:=hcut
        go_upto_if 199 with fail
        go_cut [] (fun wx=>∃S1,aS (fun p q:PS=>aq (ai p).1 (ai q).1) (X1++Y1) S1/\dQ g w (A++S1++(X2++Y2++D)) wx)
        case first=>as_aux_lemma=>
         by_cases e:a<i/\i<mid
         ·have d:decide (a<i/\i<mid)=true:=OM e;rw[d];clear d;go_wp2_with fail;refine(HI.out A X1 Y1 (X2++Y2++D) g n c a i mid _ _ _ _ (BL HH2.out HJ2.out) HA.out (by have:=HL1.out;omega) (by have:=HL3.out;omega) (by have:=HL1.out;omega) (by have:=HL3.out;omega) (by have:=HL1.out;have:=HL3.out;omega) rfl rfl rfl).mono ?_;rintro e w1 ⟨rfl,S1,h1,h2⟩;have H1:=qD h1;have H2:=qD (HJ2.out.then h2);clear h1 h2;go_wp2_with fail;go_meet;exact⟨S1,H1.out,H2.out⟩
         ·have d:decide (a<i/\i<mid)=false:=OV e;rw[d];clear d;go_wp2_with fail;go_meet;have hh:=BL HH2.out HJ2.out;refine⟨X1++Y1,jH ?_,by have:=HJ2.out;simpa using this⟩
          have q:X1=[]\/Y1=[]:=by
           by_cases e1:a<i
           ·exact .inr (OL (by have:=HL3.out;omega))
           ·exact .inl (OL (by have:=HL1.out;omega))
          rcases q with q|q
          ·rw[q];simpa using hh.hY
          ·rw[q];simpa using hh.hX
        case rest=>
         obtain⟨S1,hS1,I⟩:=hcut;have HS1:=qD hS1;have HJ3:=qD I;have HLS:Hid (S1.length=X1.length+Y1.length):=by rw[Hid,hS1.1.length_eq];simp
         clear hS1 I;go_upto_region 43 with fail
         go_cut [213] (fun s wx=>s=.bool (decide (mid<en/\en<b))/\wc=wx)
         case first=>as_aux_lemma=>
          by_cases e1:mid<en<;>by_cases e2:en<b
          all_goals
           go_wp2_with fail;go_meet;exact⟨congrArg Value.bool (by simp[e1,e2]),rfl⟩
         case rest=>
          obtain⟨rfl,rfl⟩:=hcut;by_cases e:mid<en/\en<b
          ·as_aux_lemma=>
           have d:decide (mid<en/\en<b)=true:=OM e;rw[d];clear d;go_wp2_with fail;refine(HI.out (A++S1) X2 Y2 D g n c mid en b _ _ _ _ (BM HH2.out HLS.out HJ3.out) (by have:=HA.out;have:=HLS.out;have:=HL1.out;have:=HL3.out;simp;omega) (by have:=HL2.out;have:=HEn.out;omega) (by have:=HL4.out;have:=HEn.out;omega) (by have:=HL2.out;have:=HEn.out;omega) (by have:=HL4.out;have:=HEn.out;omega) (by have:=HL2.out;have:=HL4.out;have:=HEn.out;omega) rfl rfl rfl).mono ?_;rintro e w1 ⟨rfl,S2,h1,h2⟩;have H1:=qD h1;have H2:=qD (HJ3.out.then h2);clear h1 h2;go_wp2_with fail
           go_end0
           exact⟨rfl,S1++S2,HS.out S1 S2 HS1.out H1.out,by have:=H2.out;simpa using this⟩
          ·as_aux_lemma=>
           have d:decide (mid<en/\en<b)=false:=OV e;rw[d];clear d;go_wp2_with fail
           go_end0
           have hh:=BM HH2.out HLS.out HJ3.out;refine⟨rfl,S1++(X2++Y2),HS.out S1 _ HS1.out (jH ?_),by have:=HJ3.out;simpa using this⟩
           have q:X2=[]\/Y2=[]:=by
            by_cases e1:mid<en
            ·exact .inr (OL (by have:=HL4.out;have:=HEn.out;omega))
            ·exact .inl (OL (by have:=HL2.out;have:=HEn.out;omega))
           rcases q with q|q
           ·rw[q];simpa using hh.hY
           ·rw[q];simpa using hh.hX
theorem tL(H:cM (fun p q:PS=>aq (ai p).1 (ai q).1))(N:Nat):BN N:=by
 induction N with
 | zero=>exact fun A X Y D g n c a m b aI mI bI w h ha hm hb h1 h2 h3=>absurd h3 oM
 | succ N ih=>
  intro A X Y D g n c a m b aI mI bI w h ha hm hb h1 h2 h3 haI hmI hbI;by_cases e1:X.length=1
  ·obtain⟨x,rfl⟩:=QY.1 e1;exact JX H A x Y D g n c a m b aI mI bI w h ha (by simpa using hm) hb haI hmI hbI
  ·by_cases e2:Y.length=1
   ·obtain⟨y,rfl⟩:=QY.1 e2;exact JY H A X y D g n c a m b aI mI bI w h ha hm (by simpa using hb) oM haI hmI hbI
   ·exact JZ H A X Y D g n c a m b aI mI bI w h ha hm hb oM oM (fun A' X' Y' D' g' n' c' a' m' b' aI' mI' bI' w' q1 q2 q3 q4 q5 q6 q7 q8 q9 q10=>ih A' X' Y' D' g' n' c' a' m' b' aI' mI' bI' w' q1 q2 q3 q4 q5 q6 oM q8 q9 q10) haI hmI hbI
section
variable {α:Type}
def blk(bs q:Nat)(L:List α):List α:=(L.drop (q*bs)).take bs
theorem kT{A T:List α}(h:q*bs+bs<=A.length):blk bs q (A++T)=blk bs q A:=by
 unfold blk;rw[List.drop_append_of_le_length oM,RZ (by rw[Rn];omega)]
theorem eW{A T:List α}(hA:A.length=k*bs)(h:k<=q):blk bs q (A++T)=blk bs (q-k) T:=by
 unfold blk;have e:q*bs=A.length+(q-k)*bs:=by rw[hA,<-QJ,Nat.add_sub_cancel' h]
 rw[e,Ri]
theorem fF{S T:List α}(h:S.length=bs\/(S.length<=bs/\T=[])):blk bs 0 (S++T)=S:=by
 unfold blk;rcases h with h|⟨h,rfl⟩
 ·subst h;simp
 ·simp[OS h]
variable {cm:α->α->Int}
theorem mV{A0 A Seg S:List (α×Nat)}(hA0:A0.length=k*bs)(hA:A.length=k*bs)(h:∀q,q<k->aS cm (blk bs q A0) (blk bs q A))(hl:Seg.length=bs)(hS:aS cm Seg S):
 ∀q,q<k+1->aS cm (blk bs q (A0++Seg)) (blk bs q (A++S)):=fun q hq=>by
 by_cases e:q=k
 ·subst e;have hl2:S.length=bs:=by rw[<-hl];exact hS.1.length_eq
  have e1:blk bs 0 (Seg++[])=Seg:=fF (.inl hl);have e2:blk bs 0 (S++[])=S:=fF (.inl hl2);rw[Om] at e1 e2;rw[eW hA0 (qL),eW hA (qL),SJ,e1,e2];exact hS
 ·have hk:(q+1)*bs<=k*bs:=Ot _ oM;rw[SK] at hk;rw[kT oM,kT oM];exact h q oM
theorem iU{A0 A Seg S:List (α×Nat)}(hA0:A0.length=k*bs)(hA:A.length=k*bs)(h:∀q,q<k->aS cm (blk bs q A0) (blk bs q A))(hl:Seg.length<=bs)(hS:aS cm Seg S):
 ∀q,aS cm (blk bs q (A0++Seg)) (blk bs q (A++S)):=fun q=>by
 have hl2:S.length<=bs:=by rw[hS.1.length_eq];exact hl
 by_cases e:q<k
 ·have hk:(q+1)*bs<=k*bs:=Ot _ oM;rw[SK] at hk;rw[kT oM,kT oM];exact h q e
 ·rw[eW hA0 oM,eW hA oM];by_cases e0:q=k
  ·subst e0;have e1:blk bs 0 (Seg++[])=Seg:=fF (.inr ⟨hl,rfl⟩);have e2:blk bs 0 (S++[])=S:=fF (.inr ⟨hl2,rfl⟩);rw[Om] at e1 e2;rw[SJ,e1,e2];exact hS
  ·have hk:1*bs<=(q-k)*bs:=Ot _ oM;unfold blk;rw[Re oM,Re oM,List.take_nil];exact⟨List.Perm.refl _,List.Pairwise.nil⟩
theorem tM{X0 Y0 D0 X Y D:List (α×Nat)}(h1:X0.length=bs)(h2:Y0.length=bs\/(Y0.length<=bs/\D0=[]))(h3:X.length=bs)(h4:Y.length=bs\/(Y.length<=bs/\D=[]))(h:∀q,aS cm (blk bs q (X0++(Y0++D0))) (blk bs q (X++(Y++D)))):
 aS cm X0 X/\aS cm Y0 Y:=by
 refine⟨?_,?_⟩
 ·have:=h 0
  rwa [fF (.inl h1),fF (.inl h3)] at this
 ·have:=h 1
  rwa [eW (k:=1) oM (qL),eW (k:=1) oM (qL),SJ,fF h2,fF h4] at this
theorem tN{Z0 D0 Z D:List (α×Nat)}(h1:Z0.length=2*bs)(h3:Z.length=2*bs)(h:∀q,aS cm (blk bs q (Z0++D0)) (blk bs q (Z++D)))(q:Nat):aS cm (blk bs q D0) (blk bs q D):=by
 have:=h (q+2)
 rwa [eW (k:=2) h1 oM,eW (k:=2) h3 oM,Sq] at this
theorem oE{L0 L:List (α×Nat)}(hl:L0.length<=bs)(hl2:L.length<=bs)(h:∀q,aS cm (blk bs q L0) (blk bs q L)):aS cm L0 L:=by
 have:=h 0;have e1:blk bs 0 (L0++[])=L0:=fF (.inr ⟨hl,rfl⟩);have e2:blk bs 0 (L++[])=L:=fF (.inr ⟨hl2,rfl⟩);rw[Om] at e1 e2
 rwa [e1,e2] at this
end
end
structure Ja(bs:Nat)(L0:List (PS×Nat))(k:Nat)(A0 A R:List (PS×Nat)):Prop where
 e:L0=A0++R
 l0:A0.length=k*bs
 l:A.length=k*bs
 s:∀q,q<k->aS (fun p q:PS=>aq (ai p).1 (ai q).1) (blk bs q A0) (blk bs q A)
structure lA(bs:Nat)(L0:List (PS×Nat))(k:Nat)(A0 A R0 R:List (PS×Nat)):Prop where
 e:L0=A0++R0
 l0:A0.length=k*(2*bs)
 l:A.length=k*(2*bs)
 rl:R.length=R0.length
 s:∀q,q<k->aS (fun p q:PS=>aq (ai p).1 (ai q).1) (blk (2*bs) q A0) (blk (2*bs) q A)
 t:∀q,aS (fun p q:PS=>aq (ai p).1 (ai q).1) (blk bs q R0) (blk bs q R)
structure nF(bs:Nat)(R0 R X0 Y0 D0 X Y D:List (PS×Nat)):Prop where
 e0:R0=X0++(Y0++D0)
 e:R=X++(Y++D)
 x0:X0.length=bs
 x:X.length=bs
 y0:Y0.length=bs\/(Y0.length<=bs/\D0=[])
 y:Y.length=bs\/(Y.length<=bs/\D=[])
section
variable {k n g i c q size j bs S:Nat} {w w' wr:World} {e:TypeId} {v:Value} {A:Option Addr}
theorem tO(bs:Nat)(R0 R:List (PS×Nat))(hl:R.length=R0.length)(hb:bs<=R.length):nF bs R0 R (R0.take bs) ((R0.drop bs).take bs) ((R0.drop bs).drop bs) (R.take bs) ((R.drop bs).take bs) ((R.drop bs).drop bs):=by
 have aux:∀l:List (PS×Nat),(l.take bs).length=bs\/((l.take bs).length<=bs/\l.drop bs=[]):=fun l=>by
  by_cases e:bs<=l.length
  ·exact .inl (by rw[Ow];omega)
  ·exact .inr ⟨by rw[Ow];omega,Re oM⟩
 exact⟨by rw[Oh,Oh],by rw[Oh,Oh],by rw[Ow];omega,by rw[Ow];omega,aux _,aux _⟩
theorem lA.sorted{L0 A0 A R0 R X0 Y0 D0 X Y D:List (PS×Nat)}(h:lA bs L0 k A0 A R0 R)(hp:nF bs R0 R X0 Y0 D0 X Y D):aS (fun p q:PS=>aq (ai p).1 (ai q).1) X0 X/\aS (fun p q:PS=>aq (ai p).1 (ai q).1) Y0 Y:=
 tM hp.x0 hp.y0 hp.x hp.y (by have:=h.t;rw[hp.e0,hp.e] at this;exact this)
theorem lA.NH{L0 A0 A R0 R X0 Y0 D0 X Y D:List (PS×Nat)}(h:lA bs L0 k A0 A R0 R)(hp:nF bs R0 R X0 Y0 D0 X Y D)(ht:gH L0)(hc:jG g w L0)(I:dQ g w (A++R) wr)(hn:n=L0.length)(hz:n*176<=aF):fE A X Y D g n wr:=by
 obtain⟨s1,s2⟩:=h.sorted hp;have ht2:gH (A0++(X0++(Y0++D0))):=by rw[<-hp.e0,<-h.e];exact ht
 refine⟨?_,?_,hz,s1.2,s2.2,fun x hx y hy=>?_,hc.less I.but fun x hx=>?_⟩
 ·have:=I.row;rw[hp.e] at this;simpa using this
 ·rw[hn,h.e,OY,OY,<-hp.e,OK,OK,h.l0,h.l,h.rl]
 ·have q:=(Oi.1 (Oi.1 ht2).2.1).2.2;exact q x (s1.1.mem_iff.1 hx) y (by simp[s2.1.mem_iff.1 hy])
 ·rw[h.e,hp.e0];rcases OP.1 hx with hx|hx
  ·simp[s1.1.mem_iff.1 hx]
  ·simp[s2.1.mem_iff.1 hx]
theorem aS.both{α:Type}{cm:α->α->Int}{X0 Y0 X Y S:List (α×Nat)}(h1:aS cm X0 X)(h2:aS cm Y0 Y)(h:aS cm (X++Y) S):aS cm (X0++Y0) S:=⟨h.1.trans (h1.1.append h2.1),h.2⟩
theorem lA.next{L0 A0 A R0 R X0 Y0 D0 X Y D S:List (PS×Nat)}(h:lA bs L0 k A0 A R0 R)(hp:nF bs R0 R X0 Y0 D0 X Y D)(hS:aS (fun p q:PS=>aq (ai p).1 (ai q).1) (X++Y) S)(hy:Y.length=bs)(hy0:Y0.length=bs):lA bs L0 (k+1) (A0++(X0++Y0)) (A++S) D0 D:=by
 obtain⟨s1,s2⟩:=h.sorted hp;have hS2:=aS.both s1 s2 hS;have l1:(X0++Y0).length=2*bs:=by rw[OK,hp.x0,hy0];omega
 have l2:(X++Y).length=2*bs:=by rw[OK,hp.x,hy];omega
 refine⟨?_,?_,?_,?_,mV h.l0 h.l h.s l1 hS2,fun q=>tN l1 l2 ?_ q⟩
 ·rw[h.e,hp.e0];simp
 ·rw[OK,h.l0,l1];exact(SK k (2*bs)).symm
 ·rw[OK,h.l,hS.1.length_eq,l2];exact(SK k (2*bs)).symm
 ·have:=h.rl;rw[hp.e,hp.e0] at this;simp[hp.x,hp.x0,hy,hy0] at this;exact this
 ·have:=h.t;rw[hp.e0,hp.e] at this;simpa using this
theorem lA.last{L0 A0 A R0 R X0 Y0 X Y S:List (PS×Nat)}(h:lA bs L0 k A0 A R0 R)(hp:nF bs R0 R X0 Y0 [] X Y [])(hS:aS (fun p q:PS=>aq (ai p).1 (ai q).1) (X++Y) S)(q:Nat):aS (fun p q:PS=>aq (ai p).1 (ai q).1) (blk (2*bs) q L0) (blk (2*bs) q (A++S)):=by
 obtain⟨s1,s2⟩:=h.sorted hp;have e:L0=A0++(X0++Y0):=by rw[h.e,hp.e0,Om]
 rw[e];exact iU h.l0 h.l h.s (by rw[OK,hp.x0];rcases hp.y0 with q|⟨q,_⟩<;>omega) (aS.both s1 s2 hS) q
theorem lA.lone{L0 A0 A R0 R:List (PS×Nat)}(h:lA bs L0 k A0 A R0 R)(hl:R.length<=bs)(q:Nat):aS (fun p q:PS=>aq (ai p).1 (ai q).1) (blk (2*bs) q L0) (blk (2*bs) q (A++R)):=by
 rw[h.e];exact iU h.l0 h.l h.s (by rw[<-h.rl];omega) (oE (by rw[<-h.rl];exact hl) hl h.t) q
theorem uW(H:cM (fun p q:PS=>aq (ai p).1 (ai q).1))(L0:List (PS×Nat))(g n c:Nat)(w:World)(hr:bW w g L0)(hn:n=L0.length)(hz:n*176<=aF)(ht:gH L0)(hc:jG g w L0):
 Calls prog 243 #[.slice (some ⟨g,0,none⟩) n c,.int .i64 n,.func (.func 190) #[] #[]] w (qe g w [] L0 []):=by
 have HZ:=qD hz;unfold aF at hz;have HN:=qD hn;have HT:=qD ht;have HC:=qD hc;have HO:=qD H;have I0:Hid (dQ g w L0 w):=qD ⟨hr,fD.refl⟩;clear hr hn ht hc H;go_enter func243,ntmps243;go_wp2_with fail
 go_loopw [7,8] (fun v7 v8 wr=>∃(k a b:Nat) (A0 A R:List (PS×Nat)),v7=.int .i64 a/\v8=.int .i64 b/\b=a+20/\a=k*20/\a<=n/\Ja 20 L0 k A0 A R/\dQ g w (A++R) wr) (fun _ v8 _=>n+40-(intOf v8).toNat)
 ·exact⟨0,0,20,[],[],L0,rfl,rfl,rfl,rfl,ON _,⟨rfl,rfl,rfl,fun q hq=>absurd hq oM⟩,I0.out⟩
 case round=>
  obtain⟨k,a,b,A0,A,R,rfl,rfl,hb,hk,han,hD,I⟩:=hrel;have HB:=qD hb;have HK:=qD hk;have HD:=qD hD;have J:=qD I;have hRl:R.length=n-a:=by have h1:=HN.out;rw[hD.e] at h1;simp[hD.l0] at h1;omega
  have HRl:=qD hRl;clear hk hD I hRl;by_cases hlt:b<=n
  ·have hb2:b=a+20:=hb;have hl1:(R.take 20).length=20:=by rw[Ow];have:=HRl.out;omega
   have HL1:=qD hl1;have HR:Hid (R=R.take 20++R.drop 20):=(Oh 20 R).symm;have HM:∀x∈R,x∈L0:=fun x hx=>by rw[HD.out.e];simp[hx]
   have HM':=qD HM;clear hb hb2 hl1 HM;go_wp2_with fail;refine(pM HO.out A (R.take 20) (R.drop 20) g n c a b _ (by rw[OY,<-HR.out];exact J.out.row) (by rw[OY,<-HR.out,OK,HD.out.l,HRl.out,<-HK.out];omega) (by rw[HD.out.l];exact HK.out) (by rw[HD.out.l,HL1.out,<-HK.out];exact HB.out) HZ.out ?_ ?_).mono ?_
   ·have:=HT.out;rw[HD.out.e,HR.out] at this;exact(Oi.1 (Oi.1 this).2.1).1
   ·exact HC.out.less J.out.but (fun x hx=>HM'.out x (Qh hx))
   rintro e w1 ⟨rfl,S,hS,h1⟩;have HS:=qD hS;have H1:=qD (J.out.then h1);clear hS h1;go_wp2_with fail;go_roundw
   case rel=>
    refine⟨k+1,b,b+20,A0++R.take 20,A++S,R.drop 20,rfl,by go_num,rfl,by have:=HB.out;have:=HK.out;omega,hlt,⟨by rw[OY,<-HR.out];exact HD.out.e,?_,?_,?_⟩,H1.out⟩
    ·rw[OK,HD.out.l0,HL1.out];omega
    ·rw[OK,HD.out.l,HS.out.1.length_eq,HL1.out];omega
    ·exact mV HD.out.l0 HD.out.l HD.out.s HL1.out HS.out
   case measure=>exact iO
  ·have hRl2:R.length<=20:=by have:=HRl.out;omega
   have HM:∀x∈R,x∈L0:=fun x hx=>by rw[HD.out.e];simp[hx]
   have HM':=qD HM;clear hb HM;go_wp2_with fail;refine(pM HO.out A R [] g n c a n _ (by rw[Om];exact J.out.row) (by rw[Om,OK,HD.out.l,HRl.out,<-HK.out];omega) (by rw[HD.out.l];exact HK.out) (by rw[HD.out.l,HRl.out,<-HK.out];omega) HZ.out ?_ ?_).mono ?_
   ·have:=HT.out;rw[HD.out.e] at this;exact(Oi.1 this).2.1
   ·exact HC.out.less J.out.but HM'.out
   rintro e w1 ⟨rfl,S,hS,h1⟩;have J1:Hid (dQ g w (A++S) w1):=by have:=J.out.then h1;rw[Om] at this;exact this
   have HR1:Hid (∀q,aS (fun p q:PS=>aq (ai p).1 (ai q).1) (blk 20 q L0) (blk 20 q (A++S))):=by rw[Hid,HD.out.e];exact iU HD.out.l0 HD.out.l HD.out.s hRl2 hS
   have HLl:Hid ((A++S).length=L0.length):=by rw[Hid,HD.out.e,OK,OK,HD.out.l,HD.out.l0,hS.1.length_eq]
   clear hS h1;go_wp2_with fail
   go_loopw [6] (fun v6 wr=>∃(bs:Nat) (L:List (PS×Nat)),v6=.int .i64 bs/\20<=bs/\bs<=2*n+20/\L.length=L0.length/\(∀q,aS (fun p q:PS=>aq (ai p).1 (ai q).1) (blk bs q L0) (blk bs q L))/\dQ g w L wr) (fun v6 _=>n-(intOf v6).toNat)
   ·exact⟨20,A++S,rfl,qL,by omega,HLl.out,HR1.out,J1.out⟩
   case round=>
    clear HB HK HD J HRl HM' J1 HR1 HLl;obtain⟨bs,L,rfl,hb1,hb2,hl,hR,I⟩:=hrel;have HL:=qD hl;have HRu:=qD hR;have J:=qD I;clear hl hR I;by_cases hlt2:bs<n
    ·go_wp2_with fail
     go_loopw [7,8] (fun v7 v8 wr=>∃(k a b:Nat) (A0 A R0 R:List (PS×Nat)),v7=.int .i64 a/\v8=.int .i64 b/\b=a+2*bs/\a<=n/\A.length=a/\lA bs L0 k A0 A R0 R/\dQ g w (A++R) wr) (fun _ v8 _=>n+1-(intOf v8).toNat)
     ·exact⟨0,0,2*bs,[],[],L0,L,rfl,by go_num,by omega,ON _,rfl,⟨rfl,by simp,by simp,HL.out,fun q hq=>absurd hq oM,HRu.out⟩,J.out⟩
     case round=>
      clear HL HRu J;obtain⟨k,a,b,A0,A,R0,R,rfl,rfl,hb,han,hA,hM,I⟩:=hrel;have HB:=qD hb;have HA:=qD hA;have HM:=qD hM;have J:=qD I;have hRl:R.length=n-a:=by have h1:=HN.out;rw[hM.e] at h1;have h2:=hM.l0;have h3:=hM.l;simp at h1;rw[hM.rl];omega
      have HRl:=qD hRl;clear hM I hA;by_cases hlt3:b<=n
      ·obtain⟨X0,Y0,D0,X,Y,D,hp⟩:∃X0 Y0 D0 X Y D,nF bs R0 R X0 Y0 D0 X Y D:=⟨_,_,_,_,_,_,tO bs R0 R HM.out.rl oM⟩
       have hy:Y.length=bs:=by
        have h1:=HRl.out;rw[hp.e,OK,OK,hp.x] at h1;rcases hp.y with q|⟨q,rfl⟩
        ·exact q
        ·simp at h1;omega
       have hy0:Y0.length=bs:=by
        have h1:=HRl.out;rw[HM.out.rl,hp.e0,OK,OK,hp.x0] at h1;rcases hp.y0 with q|⟨q,rfl⟩
        ·exact q
        ·simp at h1;omega
       have HPa:=qD hp;have HY:=qD hy;have HY0:=qD hy0;have hbn:a+2*bs<=n:=oM
       clear hp hy hy0 hb hRl;go_wp2_with fail;refine(tL HO.out _ A X Y D g n c a (a+bs) b _ _ _ _ (HM.out.NH HPa.out HT.out HC.out J.out HN.out HZ.out) HA.out.symm (by rw[HPa.out.x]) (by rw[HY.out];have:=HB.out;omega) (by rw[HPa.out.x];omega) (by rw[HY.out];omega) (On _) rfl oM rfl).mono ?_;rintro e w2 ⟨rfl,S,hS,h1⟩;have HS:=qD hS;have H1:=qD (J.out.then h1);clear hS h1;go_wp2_with fail;go_roundw
       case rel=>
        exact⟨k+1,b,b+2*bs,_,A++S,_,D,rfl,by go_num,rfl,hlt3,by rw[OK,HS.out.1.length_eq,OK,HA.out,HPa.out.x,HY.out];have:=HB.out;omega,HM.out.next HPa.out HS.out HY.out HY0.out,H1.out⟩
       case measure=>exact iO
      ·have hab:n<a+2*bs:=oM
       clear hb hRl;by_cases hm:a+bs<n
       ·obtain⟨X0,Y0,X,Y,hp⟩:∃X0 Y0 X Y,nF bs R0 R X0 Y0 [] X Y []:=by
         have q:=tO bs R0 R HM.out.rl (by have:=HRl.out;omega);rw[show(R0.drop bs).drop bs=[] from OL (by have:=HRl.out;have:=HM.out.rl;simp;omega),show(R.drop bs).drop bs=[] from OL (by have:=HRl.out;simp;omega)] at q;exact⟨_,_,_,_,q⟩
        have hy:Y.length=n-a-bs:=by have h1:=HRl.out;rw[hp.e] at h1;have:=hp.x;simp at h1;omega
        have HPa:=qD hp;have HY:=qD hy;clear hp hy;go_wp2_with fail;refine(tL HO.out _ A X Y [] g n c a (a+bs) n _ _ _ _ (HM.out.NH HPa.out HT.out HC.out J.out HN.out HZ.out) HA.out.symm (by rw[HPa.out.x]) (by rw[HY.out];omega) (by rw[HPa.out.x];omega) (by rw[HY.out];omega) (On _) rfl oM rfl).mono ?_;rintro e w2 ⟨rfl,S,hS,h1⟩;have HS:=qD hS;have H1:Hid (dQ g w (A++S) w2):=by have:=J.out.then h1;rw[Om] at this;exact this
        clear hS h1;go_wp2_with fail;go_roundw
        case rel=>
         exact⟨2*bs,A++S,by go_num,by omega,by omega,by rw[OK,HS.out.1.length_eq,OK,HA.out,HPa.out.x,HY.out,<-HN.out];omega,HM.out.last HPa.out HS.out,H1.out⟩
        case measure=>exact iO
       ·go_wp2_with fail;go_roundw
        case rel=>
         exact⟨2*bs,A++R,by go_num,by omega,by omega,by rw[OK,HA.out,HRl.out,<-HN.out];omega,HM.out.lone (by have:=HRl.out;omega),J.out⟩
        case measure=>exact iO
    ·have HE:Hid (aS (fun p q:PS=>aq (ai p).1 (ai q).1) L0 L):=oE (by rw[<-HN.out];omega) (by rw[HL.out,<-HN.out];omega) HRu.out;go_wp2_with fail
     go_end0
     exact⟨rfl,L,HE.out,by have:=J.out;simpa using this⟩
abbrev B2:=ByteArray×ByteArray
def cG(p:B2):List Value:=[.string p.1,.string p.2]
theorem fi(p:B2):(cG p).length=2:=rfl
theorem jp(p:B2):∀u∈cG p,u.oneCell'=true:=by simp[cG,Value.oneCell']
def bU(p q:B2):Int:=mi (bh p.1 q.1) (bh p.2 q.2)
def jq(e:B2×Nat):List Value:=cG e.1
theorem iM(e:B2×Nat):(jq e).length=2:=fi e.1
def cJ(w:World)(g:Nat)(L:List (B2×Nat)):Prop:=∃R:List Value,aG w g 49 (aN jq L++R).toArray
abbrev sU(p:B2×Nat):Value:=.agg #[.string p.1.1,.string p.1.2]
section
variable {w w':World} {g:Nat} {L:List (B2×Nat)}
theorem cJ.cell(h:cJ w g L){p:B2×Nat}(hj:L[j]?=some p)(i:Nat)(v:Value)(hi:(jq p)[i]?=some v):w.cell? ⟨g,j*2+i,none⟩=some v:=by
 obtain⟨R,h⟩:=h;have hf:=gX iM hj hi;rw[aG.cell h (j*2+i),Rh,PX (OI.1 hf).1];exact hf
theorem cJ.step(h:cJ w g L)(hb:Bl w w'):cJ w' g L:=by obtain⟨R,h⟩:=h;exact⟨R,aG.step h hb⟩
theorem cJ.drew(h:cJ w g L):cJ w.drew g L:=by obtain⟨R,h⟩:=h;exact⟨R,aG.drew h⟩
theorem cJ.frozen(h:cJ w g L)(i:Nat):w.frozen? ⟨g,i,none⟩=false:=by obtain⟨R,h⟩:=h;exact aG.frozen h i
theorem cJ.lt(h:cJ w g L):g<w.heap.size:=by obtain⟨R,h⟩:=h;exact aG.lt h
theorem cJ.put(h:cJ w g L)(hj:j<L.length)(p:B2×Nat):cJ ((w.setCell ⟨g,j*2,none⟩ (.string p.1.1)).setCell ⟨g,j*2+1,none⟩ (.string p.1.2)) g (L.set j p):=by
 obtain⟨R,h⟩:=h;have hl:=bv iM L
 have e:aN jq (L.set j p)++R=dO (aN jq L++R) (j*2) (jq p):=by
  rw[vo iM L j p hj,pL _ _ _ _ (by rw[iM];omega)]
 refine⟨R,?_⟩;rw[e];clear e hl;generalize aN jq L++R=X at h ⊢;have:=aG.Mo (aG.Mo h (j*2) (.string p.1.1)) (j*2+1) (.string p.1.2);rw[show(dO X (j*2) (jq p)).toArray=((X.toArray.setIfInBounds (j*2) (.string p.1.1)).setIfInBounds (j*2+1) (.string p.1.2)) from by simp[dO,jq,cG]];exact this
end
def lS(g:Nat)(w:World)(U:List (B2×Nat)):Prop:=∀(x y:B2×Nat),x∈U->y∈U->∀wr,fD g w wr->
 Calls prog 111 #[sU x,sU y] wr (Rt wr (.int .i64 (bU x.1 y.1)))
end
structure iv(g:Nat)(w:World)(L:List (B2×Nat))(wr:World):Prop where
 row:cJ wr g L
 but:fD g w wr
section
variable {k b n g m c q size:Nat} {w w' wr w2 w1:World} {P:Program} {Q:Exit -> Act -> World -> Prop} {a x y:Int} {A:Option Addr} {ha:Bool}
theorem iv.step{L:List (B2×Nat)}(h:iv g w L wr)(hb:Bl wr w'):iv g w L w':=⟨h.row.step hb,h.but.step hb⟩
theorem iv.swap{L:List (B2×Nat)}(h:iv g w L w2){jj:Nat}(hl:jj<L.length)(x y:B2×Nat):iv g w ((L.set jj y).set (jj-1) x) ((((w2.setCell ⟨g,jj*2,none⟩ (.string y.1.1)).setCell ⟨g,jj*2+1,none⟩ (.string y.1.2)).setCell ⟨g,(jj-1)*2,none⟩ (.string x.1.1)).setCell ⟨g,(jj-1)*2+1,none⟩ (.string x.1.2)).drew:=
 ⟨cJ.drew ((h.row.put hl y).put (j:=jj-1) (by rw[Qm];omega) x),fD.step ((((h.but.set (p:=⟨g,jj*2,none⟩) rfl (.string y.1.1)).set (p:=⟨g,jj*2+1,none⟩) rfl (.string y.1.2)).set (p:=⟨g,(jj-1)*2,none⟩) rfl (.string x.1.1)).set (p:=⟨g,(jj-1)*2+1,none⟩) rfl (.string x.1.2)) ((OG _ _).drew)⟩
def uX(g:Nat)(w:World)(A Seg D:List (B2×Nat))(e:Ending)(w':World):Prop:=
 e=.returned (.tuple #[])/\∃S,aS bU Seg S/\iv g w (A++S++D) w'
theorem qm(H:cM bU)(A Seg D:List (B2×Nat))(g n c a b:Nat)(w:World)(hr:cJ w g (A++Seg++D))(hn:n=(A++Seg++D).length)(ha:a=A.length)(hb:b=A.length+Seg.length)(hz:n*32<=aF)(ht:gH Seg)(hc:lS g w Seg):
  Calls prog 213 #[.slice (some ⟨g,0,none⟩) n c,.int .i64 a,.int .i64 b,.func (.func 111) #[] #[]] w (uX g w A Seg D):=by
  unfold aF at hz;have HN:=qD hn;have HA:=qD ha;have HBq:=qD hb;have hab:a<=b:=oM
  have hbn:b<=n:=by rw[hn];simp;omega
  have HC:=qD hc;have HT:=qD ht;have HO:=qD H;have I0:Hid (iv g w (A++Seg++D) w):=qD ⟨hr,fD.refl⟩;clear hr hn ha hb ht hc H;cases hs:Seg with
  | nil=>
   have hab':b<=a:=by have:=HA.out;have:=HBq.out;rw[hs] at this;simp at this;omega
   have HS:=qD hs;clear hs;go_enter func213,TB;go_wp2_with fail
   go_loopw [8] (fun v8 wr=>v8=.int .i64 (a+1)/\wr=w) (fun _ _=>0)
   ·exact⟨by go_num,rfl⟩
   case round=>
    obtain⟨rfl,rfl⟩:=hrel;go_wp2_with fail
    go_end0
    exact⟨rfl,[],aS.nil,by have:=I0.out;rw[HS.out] at this;exact this⟩
  | cons x0 rest=>
   have HS:=qD hs;clear hs;rw[<-HS.out];go_enter func213,TB;go_wp2_with fail
   go_loopw [8] (fun v8 wr=>∃(i:Nat) (P Q S:List (B2×Nat)),v8=.int .i64 i/\i=a+P.length/\1<=P.length/\i<=b/\Seg=P++Q/\aS bU P S/\iv g w (A++S++(Q++D)) wr) (fun v8 _=>b-(intOf v8).toNat)
   case atStart=>
    refine⟨a+1,[x0],rest,[x0],by go_num,rfl,qL,?_,HS.out,aS.one x0,?_⟩
    ·have:=HBq.out;have:=HA.out;rw[HS.out] at*;simp at*;omega
    ·have:=I0.out;rw[HS.out] at this;simpa using this
   case round=>
    obtain⟨i,P,Q,S,rfl,hi,hP,hib,hPQ,hS,I⟩:=hrel;have HI:=qD hi;have HPQ:=qD hPQ;have HSo:=qD hS;have J:=qD I;clear hi hPQ hS;by_cases hlt:i<b
    ·obtain⟨x,Q',hQ⟩:∃x Q',Q=x::Q':=by
      cases Q with
      | nil=>
       have h1:=HBq.out;have h2:=HI.out;have h3:=HA.out;rw[HPQ.out] at h1;simp at h1;omega
      | cons x Q'=>exact⟨x,Q',rfl⟩
     have HQ:=qD hQ;have hSl:S.length=P.length:=HSo.out.perm.length_eq;have HSl:=qD hSl;clear I hSl hQ;go_wp2_with fail
     go_loopw [9] (fun v9 wr=>∃(jj:Nat) (S1 S2:List (B2×Nat)),v9=.int .i64 jj/\jj=a+S1.length/\jj<=i/\S=S1++S2/\(∀y∈S2,bU x.1 y.1<0)/\iv g w (A++(S1++x::S2)++(Q'++D)) wr) (fun v9 _=>(intOf v9).toNat)
     case atStart=>
      refine⟨i,S,[],rfl,by rw[HI.out,HSl.out],qL,by simp,by simp,?_⟩;have:=J.out;rw[HQ.out] at this;simpa using this
     case round=>
      clear J;obtain⟨jj,S1,S2,rfl,hj,hji,hSS,hall,I⟩:=hrel;have HJ:=qD hj;have HSS:=qD hSS;have HAll:=qD hall;have J:=qD I;clear hj hSS hall;by_cases hgt:a<jj
      ·obtain⟨S3,y,hS3⟩:∃S3 y,S1=S3++[y]:=by
        rcases QT S1 with h|⟨S3,y,h⟩
        ·have:=HJ.out;rw[h] at this;simp at this;omega
        ·exact⟨S3,y,by rw[h,QG]⟩
       have hA:=HA.out;have hj1:jj=A.length+(S3.length+1):=by rw[HJ.out,hS3];simp;omega
       have hx:(A++(S1++x::S2)++(Q'++D))[jj]?=some x:=by
        rw[hS3,hj1];simp
       have hy:(A++(S1++x::S2)++(Q'++D))[jj-1]?=some y:=by
        rw[hS3,hj1];simp
       have hxm:x∈Seg:=by rw[HPQ.out,HQ.out];simp
       have hym:y∈Seg:=by
        rw[HPQ.out];exact Sf _ (HSo.out.perm.subset (by rw[HSS.out,hS3];simp))
       have p0:wr.cell? ⟨g,jj*2,none⟩=some (.string x.1.1):=I.row.cell hx 0 _ rfl;have p1:wr.cell? ⟨g,jj*2+1,none⟩=some (.string x.1.2):=I.row.cell hx 1 _ rfl;have r0:wr.cell? ⟨g,(jj-1)*2,none⟩=some (.string y.1.1):=I.row.cell hy 0 _ rfl;have r1:wr.cell? ⟨g,(jj-1)*2+1,none⟩=some (.string y.1.2):=I.row.cell hy 1 _ rfl;have P0:=aX p0;have P1:=aX p1;have R0:=aX r0;have R1:=aX r1;have hjn:jj<n:=oM
       have i0:(0:Int)<=(jj:Int):=oM
       have i1:(jj:Int)<(n:Int):=oM
       have i2:(0:Int)<=(jj:Int)-1:=oM
       have i3:(jj:Int)-1<(n:Int):=oM
       have W1:IntKind.i64.wrap ((jj:Int)-1)=(jj:Int)-1:=wrap_i64' oM oM;have W2:((jj:Int)-1).toNat=jj-1:=oM
       have K1:Hid (∀k:BW wr,Calls prog 111 #[sU x,sU y] k.val fun e w''=>e=.returned (.int .i64 (bU x.1 y.1))/\∃k:BW wr,w''=k.val):=fun k=>
        Calls.bw (HC.out x y hxm hym k.val (I.but.step k.below))
       have HX:=qD hx;have HY:=qD hy;have HS3:=qD hS3;have HJ1:=qD hj1;clear p0 r0 p1 r1 hx hy hxm hym I hS3 hj1 hA;go_upto_region 4 with fail
       refine aL kR kR ?_
       repeat(go_big_quiet_step (with_reducible exact K1.out _))
       refine Oc ?_;rintro _ ⟨kw,rfl⟩;have J2:=qD (J.out.step kw.below);clear P0 R0 P1 R1 K1 W1 W2 i0 i1 i2 i3;generalize kw.val=w2 at*;by_cases hc:bU x.1 y.1<0
       ·have p0:w2.cell? ⟨g,jj*2,none⟩=some (.string x.1.1):=J2.out.row.cell HX.out 0 _ rfl;have p1:w2.cell? ⟨g,jj*2+1,none⟩=some (.string x.1.2):=J2.out.row.cell HX.out 1 _ rfl;have r0:w2.cell? ⟨g,(jj-1)*2,none⟩=some (.string y.1.1):=J2.out.row.cell HY.out 0 _ rfl;have r1:w2.cell? ⟨g,(jj-1)*2+1,none⟩=some (.string y.1.2):=J2.out.row.cell HY.out 1 _ rfl;have z:=cJ.frozen J2.out.row;go_upto_region 6 with fail
        go_region
        all_goals
         clear p0 r0 p1 r1 z;go_wp2_with fail;refine⟨⟨jj-1,S3,y::S2,by rw[show((jj-1:Nat):Int)=(jj:Int)-1 by omega],by rw[HJ1.out,HA.out];omega,by omega,by rw[HSS.out,HS3.out];simp,?_,?_⟩,by simp[intOf];omega⟩
         ·intro q hq;rcases PB.1 hq with rfl|hq
          ·exact hc
          ·exact HAll.out q hq
         ·have hl:jj<(A++(S1++x::S2)++(Q'++D)).length:=(OI.1 HX.out).1;have r1:=J2.out.swap hl x y;rw[HS3.out,HJ1.out,mU,<-HJ1.out] at r1;exact r1
       ·have HD:Hid (aS bU (P++[x]) (S1++x::S2)):=by
         refine aS.insert HO.out (by rw[<-HSS.out];exact HSo.out) (fun y hy=>?_) HAll.out (fun q hq=>?_)
         ·have h:=HT.out;rw[HPQ.out,HQ.out] at h;exact(Oi.1 h).2.2 y hy x sM
         ·rw[HS3.out] at hq;simp at hq;subst hq;exact hc
        go_wp2_with fail;go_roundw
        ·exact⟨i+1,P++[x],Q',S1++x::S2,by go_num,by rw[HI.out];simp;omega,by simp,by omega,by rw[HPQ.out,HQ.out];simp,HD.out,J2.out⟩
        ·exact iO
      ·have HN1:Hid (S1=[]):=OL (by have:=HJ.out;omega)
       have HD:Hid (aS bU (P++[x]) (S1++x::S2)):=by
        refine aS.insert HO.out (by rw[<-HSS.out];exact HSo.out) (fun y hy=>?_) HAll.out (fun q hq=>?_)
        ·have h:=HT.out;rw[HPQ.out,HQ.out] at h;exact(Oi.1 h).2.2 y hy x sM
        ·rw[HN1.out] at hq;simp at hq
       clear I;have hgt':decide ((a:Int)<(jj:Int))=false:=OV oM;go_upto_region 4 with fail
       go_quiet (fail)
       go_wp2_with fail;go_roundw
       ·exact⟨i+1,P++[x],Q',S1++x::S2,by go_num,by rw[HI.out];simp;omega,by simp,by omega,by rw[HPQ.out,HQ.out];simp,HD.out,J.out.step (Below.drewN (OG _ _) _)⟩
       ·exact iO
    ·have HF:Hid (Q=[]):=by
      have h1:=HBq.out;have h2:=HI.out;have h3:=HA.out;rw[HPQ.out] at h1;simp at h1;exact OL oM
     clear I;go_wp2_with fail
     go_end0
     refine⟨rfl,S,?_,?_⟩
     ·have:=HSo.out;rw[HPQ.out,HF.out,Om];exact this
     ·have:=J.out;rw[HF.out,PG] at this;exact this
theorem iv.NN{L:List (B2×Nat)}(h:iv g w L w2){p:Nat}(hp:p<L.length)(hq:q<L.length)(x y:B2×Nat):iv g w ((L.set p y).set q x) ((((w2.setCell ⟨g,p*2,none⟩ (.string y.1.1)).setCell ⟨g,p*2+1,none⟩ (.string y.1.2)).setCell ⟨g,q*2,none⟩ (.string x.1.1)).setCell ⟨g,q*2+1,none⟩ (.string x.1.2)).drew:=
 ⟨cJ.drew ((h.row.put hp y).put (j:=q) (by rw[Qm];exact hq) x),fD.step ((((h.but.set (p:=⟨g,p*2,none⟩) rfl (.string y.1.1)).set (p:=⟨g,p*2+1,none⟩) rfl (.string y.1.2)).set (p:=⟨g,q*2,none⟩) rfl (.string x.1.1)).set (p:=⟨g,q*2+1,none⟩) rfl (.string x.1.2)) ((OG _ _).drew)⟩
def vt(g:Nat)(w:World)(L:List (B2×Nat))(e:Ending)(w':World):Prop:=e=.returned (.tuple #[])/\iv g w L w'
theorem ij(A U M V D:List (B2×Nat))(g n c a b k:Nat)(aI bI kI:Int)(fv:Value)(w:World)(hr:cJ w g (A++U++M++V++D))(hn:n=(A++U++M++V++D).length)(ha:a=A.length)(hb:b=A.length+U.length+M.length)(hk:k=U.length)(hkv:k=V.length)(haI:aI=a)(hbI:bI=b)(hkI:kI=k)(hz:n*32<=aF):
  Calls prog 303 #[.slice (some ⟨g,0,none⟩) n c,.int .i64 aI,.int .i64 bI,.int .i64 kI,fv] w (vt g w (A++V++M++U++D)):=by
  subst haI hbI hkI;unfold aF at hz;have hbn:b+k<=n:=by rw[hn];simp;omega
  have hab:a+k<=b:=oM
  have HA:=qD ha;have HBq:=qD hb;have HK:=qD hk;have HKV:=qD hkv;have HN:=qD hn;have I0:Hid (iv g w (A++U++M++V++D) w):=qD ⟨hr,fD.refl⟩;clear hr hn ha hb hk hkv;go_enter func303,ntmps303;go_wp2_with fail
  go_loopw [10] (fun v10 wr=>∃(i:Nat) (U1 U2 V1 V2:List (B2×Nat)),v10=.int .i64 i/\i<=k/\i=U1.length/\i=V1.length/\U=U1++U2/\V=V1++V2/\iv g w (A++(V1++U2)++M++(U1++V2)++D) wr) (fun v10 _=>k-(intOf v10).toNat)
  ·exact⟨0,[],U,[],V,rfl,ON _,rfl,rfl,rfl,rfl,I0.out⟩
  case round=>
   obtain⟨i,U1,U2,V1,V2,rfl,hik,hU1,hV1,hU,hV,I⟩:=hrel;have HU1:=qD hU1;have HV1:=qD hV1;have HU:=qD hU;have HV:=qD hV;have J:=qD I;by_cases hlt:i<k
   ·obtain⟨x,U3,hx⟩:∃x U3,U2=x::U3:=by
     cases U2 with
     | nil=>have h1:=HK.out;rw[hU] at h1;simp at h1;omega
     | cons x U3=>exact⟨x,U3,rfl⟩
    obtain⟨y,V3,hy⟩:∃y V3,V2=y::V3:=by
     cases V2 with
     | nil=>have h1:=HKV.out;rw[hV] at h1;simp at h1;omega
     | cons y V3=>exact⟨y,V3,rfl⟩
    subst hx hy;have hp:a+i=A.length+V1.length:=by rw[HA.out,<-hV1]
    have hq:b+i=A.length+(V1.length+(U3.length+1))+M.length+U1.length:=by
     have h1:=HBq.out;rw[hU] at h1;simp at h1;omega
    have HX:Hid ((A++(V1++x::U3)++M++(U1++y::V3)++D)[a+i]?=some x):=by rw[Hid,hp];exact BH A V1 U3 M U1 V3 D x y
    have HY:Hid ((A++(V1++x::U3)++M++(U1++y::V3)++D)[b+i]?=some y):=by rw[Hid,hq];exact BI A V1 U3 M U1 V3 D x y
    have HSw:Hid (((A++(V1++x::U3)++M++(U1++y::V3)++D).set (a+i) y).set (b+i) x=A++((V1++[y])++U3)++M++((U1++[x])++V3)++D):=by
     rw[Hid,hp,hq];exact qf A V1 U3 M U1 V3 D x y
    have p0:wr.cell? ⟨g,(a+i)*2,none⟩=some (.string x.1.1):=J.out.row.cell HX.out 0 _ rfl;have p1:wr.cell? ⟨g,(a+i)*2+1,none⟩=some (.string x.1.2):=J.out.row.cell HX.out 1 _ rfl;have r0:wr.cell? ⟨g,(b+i)*2,none⟩=some (.string y.1.1):=J.out.row.cell HY.out 0 _ rfl;have r1:wr.cell? ⟨g,(b+i)*2+1,none⟩=some (.string y.1.2):=J.out.row.cell HY.out 1 _ rfl;have z:=cJ.frozen J.out.row;clear hU1 hV1 hU hV I hp hq;go_upto_region 3 with fail
    go_region
    all_goals
     clear p0 r0 p1 r1 z;go_wp2_with fail;refine⟨⟨i+1,U1++[x],U3,V1++[y],V3,by go_num,by omega,by rw[HU1.out];simp,by rw[HV1.out];simp,by rw[HU.out];simp,by rw[HV.out];simp,?_⟩,by simp[intOf];omega⟩;have r1:=J.out.NN (OI.1 HX.out).1 (OI.1 HY.out).1 x y;rw[HSw.out] at r1;exact r1
   ·have e1:U2=[]:=OL (by have h1:=HK.out;rw[hU] at h1;simp at h1;omega);have e2:V2=[]:=OL (by have h1:=HKV.out;rw[hV] at h1;simp at h1;omega)
    have HF:Hid (iv g w (A++V++M++U++D) wr):=by
     rw[Hid,hU,hV,e1,e2];simp only[Om];rw[e1,e2] at I;simp only[Om] at I;exact I
    clear hU1 hV1 hU hV I e1 e2;go_wp2_with fail
    go_end0
    exact⟨rfl,HF.out⟩
theorem iv.then{L L':List (B2×Nat)}(h:iv g w L w1)(h':iv g w1 L' w2):iv g w L' w2:=⟨h'.row,h.but.trans h'.but⟩
theorem vu(A P Q D:List (B2×Nat))(g n c a m b:Nat)(aI mI bI:Int)(fv:Value)(w:World)(hr:cJ w g (A++P++Q++D))(hn:n=(A++P++Q++D).length)(ha:a=A.length)(hm:m=A.length+P.length)(hb:b=A.length+P.length+Q.length)(hP:1<=P.length)(hQ:1<=Q.length)(haI:aI=a)(hmI:mI=m)(hbI:bI=b)(hz:n*32<=aF):
  Calls prog 274 #[.slice (some ⟨g,0,none⟩) n c,.int .i64 aI,.int .i64 mI,.int .i64 bI,fv] w (vt g w (A++Q++P++D)):=by
  subst haI hmI hbI;have HZ:=qD hz;unfold aF at hz;have ham:a<=m:=oM
  have hmb:m<=b:=oM
  have hbn:b<=n:=by rw[hn];simp;omega
  have HN:=qD hn;have I0:Hid (iv g w (A++P++Q++D) w):=qD ⟨hr,fD.refl⟩;have HP:Hid (m-a=P.length):=by unfold Hid;omega
  have HQ:Hid (b-m=Q.length):=by unfold Hid;omega
  have HM:Hid (A.length+P.length=m):=hm.symm;have hi1:1<=m-a:=oM
  have hj1:1<=b-m:=oM
  clear hr hn ha hm hb hP hQ;go_enter func274,ntmps274;go_wp2_with fail
  go_loopw [10,11] (fun v10 v11 wr=>∃(i j:Nat) (A' U V D':List (B2×Nat)),v10=.int .i64 i/\v11=.int .i64 j/\i=U.length/\j=V.length/\1<=i/\1<=j/\A'.length+i=m/\n=(A'++U++V++D').length/\A'++V++U++D'=A++Q++P++D/\iv g w (A'++U++V++D') wr) (fun v10 v11 _=>(intOf v10).toNat+(intOf v11).toNat)
  ·exact⟨m-a,b-m,A,P,Q,D,by go_num,by go_num,HP.out,HQ.out,hi1,hj1,by rw[HP.out];exact HM.out,HN.out,rfl,I0.out⟩
  case round=>
   obtain⟨i,j,A',U,V,D',rfl,rfl,hU,hV,hi,hj,hm',hn',ht,I⟩:=hrel;have HU:=qD hU;have HV:=qD hV;have HM':=qD hm';have HN':=qD hn';have HTg:=qD ht;have J:=qD I;have him:i<=m:=oM
   have hjn:m+j<=n:=by rw[hn'];simp;omega
   clear hU hV hn' ht I hm';cases hne:((i:Int) != (j:Int))
   ·have hij:i=j:=by simp at hne;omega
    have HR:Hid (cJ wr g (A'++U++[]++V++D')):=by rw[Hid,Om];exact J.out.row
    have HN2:Hid (n=(A'++U++[]++V++D').length):=by rw[Hid,Om];exact HN'.out
    have HIJ:=qD hij;clear hij;go_wp2_with fail;refine(ij A' U [] V D' g n c A'.length m i _ _ _ _ _ HR.out HN2.out rfl (by have:=HU.out;have:=HM'.out;simp;omega) HU.out (by rw[HIJ.out];exact HV.out) (by have:=HM'.out;omega) oM rfl HZ.out).mono ?_;rintro e w1 ⟨rfl,h1⟩;have H1:=qD (J.out.then h1);clear h1;go_wp2_with fail
    go_end0
    refine⟨rfl,?_⟩;have:=H1.out;rw[Om,HTg.out] at this;exact this
   ·have hij:i≠j:=by simp at hne;omega
    by_cases hgt:j<i
    ·obtain⟨U1,U2,hUU,hU1⟩:∃U1 U2,U=U1++U2/\U1.length=j:=⟨U.take j,U.drop j,(Oh j U).symm,by rw[Ow];have:=HU.out;omega⟩;have hU2:U2.length=i-j:=by have h1:=HU.out;rw[hUU] at h1;simp at h1;omega
     have HR:Hid (cJ wr g (A'++U1++U2++V++D')):=by have:=J.out.row;rw[hUU] at this;rw[Hid];simpa using this
     have HN2:Hid (n=(A'++U1++U2++V++D').length):=by have:=HN'.out;rw[hUU] at this;rw[Hid,this];simp
     have HUU:=qD hUU;have HU1:=qD hU1;have HU2:=qD hU2;clear hUU hU1 hU2 hij;go_wp2_with fail;refine(ij A' U1 U2 V D' g n c A'.length m j _ _ _ _ _ HR.out HN2.out rfl (by have:=HU1.out;have:=HU2.out;have:=HM'.out;omega) HU1.out.symm HV.out (by have:=HM'.out;omega) rfl rfl HZ.out).mono ?_;rintro e w1 ⟨rfl,h1⟩;have H1:=qD (J.out.then h1);clear h1;go_wp2_with fail;go_roundw
     case rel=>
      refine⟨i-j,j,A'++V,U2,U1,D',by go_num,rfl,HU2.out.symm,HU1.out.symm,by omega,hj,by rw[OK,<-HV.out];have:=HM'.out;omega,?_,?_,?_⟩
      ·have:=HN2.out;simp at this;simp;omega
      ·rw[<-HTg.out,HUU.out];simp
      ·exact H1.out
     case measure=>exact iO
    ·obtain⟨V1,V2,hVV,hV1⟩:∃V1 V2,V=V1++V2/\V1.length=j-i:=⟨V.take (j-i),V.drop (j-i),(Oh (j-i) V).symm,by rw[Ow];have:=HV.out;omega⟩;have hV2:V2.length=i:=by have h1:=HV.out;rw[hVV] at h1;simp at h1;omega
     have HR:Hid (cJ wr g (A'++U++V1++V2++D')):=by have:=J.out.row;rw[hVV] at this;rw[Hid];simpa using this
     have HN2:Hid (n=(A'++U++V1++V2++D').length):=by have:=HN'.out;rw[hVV] at this;rw[Hid,this];simp
     have HVV:=qD hVV;have HV1:=qD hV1;have HV2:=qD hV2;have hlt:i<j:=oM
     clear hVV hV1 hV2 hij;go_wp2_with fail;refine(ij A' U V1 V2 D' g n c A'.length (m+j-i) i _ _ _ _ _ HR.out HN2.out rfl (by have:=HU.out;have:=HV1.out;have:=HM'.out;omega) HU.out HV2.out.symm (by have:=HM'.out;omega) oM rfl HZ.out).mono ?_;rintro e w1 ⟨rfl,h1⟩;have H1:=qD (J.out.then h1);clear h1;go_wp2_with fail;go_roundw
     case rel=>
      refine⟨i,j-i,A',V2,V1,U++D',rfl,by go_num,HV2.out.symm,HV1.out.symm,hi,by omega,HM'.out,?_,?_,?_⟩
      ·have:=HN2.out;simp at this;simp;omega
      ·rw[<-HTg.out,HVV.out];simp
      ·have:=H1.out;simpa using this
     case measure=>exact iO
end
end Go.Proofs.YtgfoliedmhgpnaaGreatDoor
