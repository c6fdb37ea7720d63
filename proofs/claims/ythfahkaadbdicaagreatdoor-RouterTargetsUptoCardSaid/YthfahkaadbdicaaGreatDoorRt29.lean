/- Parts of the proof, joined: RgLaw, RgAftP, RgSpan, RgSpanN, RfSpan, RgCmp, RgPair, RgEq, RgComp, RgJoin. -/
import Derived.Test.YthfahkaadbdicaaGreatDoorRt1
import Derived.Test.YthfahkaadbdicaaGreatDoorRt28
import Derived.Test.YthfahkaadbdicaaGreatDoorRt6
import Derived.Test.YthfahkaadbdicaaGreatDoorRt12
import Derived.Test.YthfahkaadbdicaaGreatDoorRt13
import Derived.Test.YthfahkaadbdicaaGreatDoorRt22
import Derived.Test.YthfahkaadbdicaaGreatDoorRt25
import Derived.Test.YthfahkaadbdicaaGreatDoorRt26
import Derived.DeepKeys
import Derived.Laws.StructEq
import Derived.Deep.Quiet
set_option maxRecDepth 100000
set_option maxHeartbeats 16000000
set_option linter.unusedSimpArgs false
open Go.Proofs.Tryz
open ByteArray (empty)
namespace Go.Proofs.YthfahkaadbdicaaGreatDoor
theorem ja.inj{α:Type}{lt:α->α->Prop}(o:yr lt):∀{l:List (α×α)},ja lt l->∀x∈l,∀y∈l,x.1=y.1->x=y
 | [],_,x,hx,_,_,_=>by simp at hx
 | a::r,h,x,hx,y,hy,e=>by
  obtain⟨h1,h2⟩:=Mi.1 h;rcases Li.1 hx with kx|kx
  ·rcases Li.1 hy with ky|ky
   ·rw[kx,ky]
   ·subst kx;have:=h1 y ky;rw[e] at this;exact absurd this (o.irr _)
  ·rcases Li.1 hy with ky|ky
   ·subst ky;have:=h1 x kx;rw[e] at this;exact absurd this (o.irr _)
   ·exact ja.inj o h2 x kx y ky e
theorem sJ{xs Z:List B2}(h:jd xs Z):Z.Pairwise fun p q=>¬vv q.1 p.1:=h.2.imp fun k=>FG k
theorem wJ{ns:List Int}(_hn:∀n∈ns,jb n):∀x∈ns.map eE,∀y∈ns.map eE,x.1=y.1->x=y:=by
 intro x hx y hy e;obtain⟨n,_,rfl⟩:=MS.1 hx;obtain⟨k,_,rfl⟩:=MS.1 hy;exact Bx e
def EJ(ha:Bool)(m:List (cA×cA))(L:List B2):Prop:=
 (ha=false/\∃Z,jd (m.map eB) Z/\L=dm empty (eZ Z))\/
  (ha=true/\L=[(empty,empty)]/\∃s∈m,aU s.1.1 s.2.1≠0)\/
  (ha=true/\(∀s∈m,aU s.1.1 s.2.1=0)/\∃Z,jd ((m.map fun s=>bB s.1.1).map eE) Z/\L=dm empty (eZ Z))
theorem sK(x:aC):jb (bB x):=by
 have:=xE x;unfold jb;omega
theorem qC:∀l:List Int,bF (l++[255])=bF l
 | []=>by simp[bF]
 | y::r=>by rw[Lj,bF,bF,qC r]
theorem oG{x:Int}(hx:x≠255):∀l:List Int,bF (l++[x])=some (l++[x+1])
 | []=>by simp[bF,hx]
 | y::r=>by rw[Lj,bF,oG hx r];rfl
theorem Fs{s:ByteArray}{i:Nat}{x:UInt8}(h:s.data[i]?=some x):(eP s)[i]?=some (x.toNat:Int):=by
 unfold eP;rw[LV,Lk,h];rfl
def AP(s:ByteArray):Nat->Option (List Int)
 | 0=>none
 | n+1=>some ((eP s).take n++[((s.data[n]?.getD 0).toNat:Int)+1])
theorem mn(s:ByteArray):∀n,n<=s.size->bF ((eP s).take n)=AP s (cY s n)
 | 0,_=>by simp[bF,cY,AP]
 | n+1,h=>by
  obtain ⟨x, hx⟩ : ∃ x, s.data[n]? = some x := ⟨s.data[n]'(by have : s.data.size = s.size := rfl; omega), by rw [Nt]; exact ⟨_, rfl⟩⟩;have hN:=Fs hx;have e:(eP s).take (n+1)=(eP s).take n++[(x.toNat:Int)]:=by rw[MW,hN];rfl
  have ih:=mn s n (by omega);unfold cY;by_cases h255:x=255
  ·rw[hx,LZ (by rw[h255]),e,h255];exact(qC _).trans ih
  ·have hn:(x.toNat:Int)≠255:=by
    intro k;apply h255;apply Mr.1;have:(255:UInt8).toNat=255:=rfl;omega
   rw[hx,LU (by simpa using h255),e,oG hn];show _=some ((eP s).take n++[((s.data[n]?.getD 0).toNat:Int)+1]);rw[hx];rfl
theorem wK(s:ByteArray):bF (eP s)=AP s (cY s s.size):=by
 have:=mn s s.size (qL)
 rwa [LS (by rw[mX];omega)] at this
theorem zA(s:ByteArray)(n:Nat):strOfNums ((eP s).take n)=s.extract 0 n:=by
 apply Mw;apply Mq.1;rw[OA,ByteArray.data_extract,Array.toList_extract];have:=congrArg (fun b=>b.data.toList) (jz s);simp only[OA] at this;rw[List.map_take,this,Pk];simp
theorem zB(x:UInt8)(h:x≠255):strOfNums [(x.toNat:Int)+1]=⟨#[x+1]⟩:=by
 have hx:x.toNat+1<256:=by
  have h1:=x.toNat_lt;have:x.toNat≠255:=fun k=>h (Mr.1 k);omega
 apply Mw;apply Mq.1;rw[OA];simp only[Mb,NR]
 have:UInt8.ofNat ((x.toNat:Int)+1).toNat=x+1:=by
  apply Mr.1;rw[Of,QK];have:(1:UInt8).toNat=1:=rfl;rw[this]
  congr 1
 rw[this]
theorem wL{s:ByteArray}:∀{n m:Nat},cY s n=m+1->s.data[m]?≠some 255
 | 0,m,h=>by simp[cY] at h
 | n+1,m,h=>by
  unfold cY at h;split at h
  ·exact wL h
  ·rename_i k
   obtain rfl:n=m:=by omega
   exact k
theorem sL(s:ByteArray):fa s=(bF (eP s)).map strOfNums:=by
 rw[wK];unfold fa;cases h:cY s s.size with
 | zero=>rfl
 | succ n=>
  have hle:=rM s s.size;have hat:=wL h;obtain ⟨x, hx⟩ : ∃ x, s.data[n]? = some x := ⟨s.data[n]'(by have : s.data.size = s.size := rfl; omega), by rw [Nt]; exact ⟨_, rfl⟩⟩;unfold AP;simp only[hx,PR,Mj,MP];rw[aW,zA,zB x fun k=>hat (by rw[hx,k])]
open Go.RowKit
theorem EK(p:PI)(S1 S2 T1 T2 KL KH:ByteArray)(w:World)(hT:cg w)(hp:iY w p)(h1:eD [p.1.1.2]=(S1,0))(h2:eD [p.1.2.2]=(S2,0))(hlo:((p.1.1.1.k==1)=true/\p.2.1=true/\KL=empty)\/((p.1.1.1.k==1)=false/\p.2.1=true/\KL=S1)\/((p.1.1.1.k==1)=true/\p.2.1=false/\KL=T1)\/((p.1.1.1.k==1)=false/\p.2.1=false/\KL=T1))(hhi:((p.1.2.1.k==11)=true/\p.2.2=true/\KH=empty)\/((p.1.2.1.k==11)=false/\p.2.2=true/\KH=T2)\/((p.1.2.1.k==11)=true/\p.2.2=false/\KH=S2)\/((p.1.2.1.k==11)=false/\p.2.2=false/\KH=S2))(hA1:∀w,Calls prog 102 #[.string S1] w fun e w'=>e=.returned (.tuple #[.string T1,.bool true])/\Below w.heap.size w w')(hA2:∀w,Calls prog 102 #[.string S2] w fun e w'=>e=.returned (.tuple #[.string T2,.bool true])/\Below w.heap.size w w'):
 Calls prog 38 #[cR p,.bool false] w fun e w'=>e=.returned (.tuple #[.agg #[.string KL,.string KH],.bool true])/\Below w.heap.size w w':=by
 obtain⟨⟨⟨c1,x1⟩,⟨c2,x2⟩⟩,⟨f1,f2⟩⟩:=p;have R1:Hid (RW w c1 x1):=hp.1;have R2:Hid (RW w c2 x2):=hp.2;have HT:=qD hT;have HA1:=qD hA1;have HA2:=qD hA2;have HK1:Hid (eD [x1]=(S1,0)):=h1;have HK2:Hid (eD [x2]=(S2,0)):=h2;have HLO:=qD hlo;have HHI:=qD hhi;clear hp hT hA1 hA2 h1 h2 hlo hhi
 have hcode1:Hid (∀wr,Below w.heap.size w wr->Calls prog 74 #[c1.val] wr fun e w'=>e=.returned (.tuple #[.string S1,.int .i64 0])/\Below wr.heap.size wr w'):=qD fun wr hb=>by
  have:=jQ x1 c1 wr (HT.out.step hb) (R1.out.step hb);rw[HK1.out] at this;exact this
 have hcode2:Hid (∀wr,Below w.heap.size w wr->Calls prog 74 #[c2.val] wr fun e w'=>e=.returned (.tuple #[.string S2,.int .i64 0])/\Below wr.heap.size wr w'):=qD fun wr hb=>by
  have:=jQ x2 c2 wr (HT.out.step hb) (R2.out.step hb);rw[HK2.out] at this;exact this
 have B0:Hid (aE ((w.alloc (.cells (aM (((c1,x1),(c2,x2)),(f1,f2))) 84)).alloc (.cells #[.string empty,.string empty] 49)) w.heap.size 84 (aM (((c1,x1),(c2,x2)),(f1,f2)))):=(aE.Jq rfl).alloc _;have B1:Hid (aE ((w.alloc (.cells (aM (((c1,x1),(c2,x2)),(f1,f2))) 84)).alloc (.cells #[.string empty,.string empty] 49)) (w.heap.size+1) 49 #[.string empty,.string empty]):=aE.Jq (by simp);have BE:Hid (Below w.heap.size w ((w.alloc (.cells (aM (((c1,x1),(c2,x2)),(f1,f2))) 84)).alloc (.cells #[.string empty,.string empty] 49))):=((LH _ _).alloc (qL) _).alloc (by simp) _;go_enter func38,ntmps38;go_upto_region 1 with fail
 change Code.wp _ _ _ _ ((w.alloc (.cells (aM (((c1,x1),(c2,x2)),(f1,f2))) 84)).alloc (.cells #[.string empty,.string empty] 49));generalize ((w.alloc (.cells (aM (((c1,x1),(c2,x2)),(f1,f2))) 84)).alloc (.cells #[.string empty,.string empty] 49))=wa at*;obtain⟨⟨a0,a1,a2,a3,a4⟩,⟨b0,b1,b2,b3,b4⟩,b5,b6⟩:=cw.Jr B0.out;simp only[LL] at a0 a1 a2 a3 a4 b0 b1 b2 b3 b4 b5 b6;go_wp2_with fail;refine(hcode1.out _ BE.out).mono ?_;rintro e w1 ⟨rfl,hb⟩;replace B0:=qD (B0.out.step hb);replace B1:=qD (B1.out.step hb);replace BE:=qD (BE.out.Jp hb);clear hb a0 a1 a2 a3 a4 b0 b1 b2 b3 b4 b5 b6 hcode1;obtain⟨⟨a0,a1,a2,a3,a4⟩,⟨b0,b1,b2,b3,b4⟩,b5,b6⟩:=cw.Jr B0.out;simp only[LL] at a0 a1 a2 a3 a4 b0 b1 b2 b3 b4 b5 b6;go_wp2_with fail;refine(hcode2.out _ BE.out).mono ?_;rintro e w2 ⟨rfl,hb⟩;replace B0:=qD (B0.out.step hb);replace B1:=qD (B1.out.step hb);replace BE:=qD (BE.out.Jp hb);clear hb a0 a1 a2 a3 a4 b0 b1 b2 b3 b4 b5 b6 hcode2;obtain⟨⟨a0,a1,a2,a3,a4⟩,⟨b0,b1,b2,b3,b4⟩,b5,b6⟩:=cw.Jr B0.out;simp only[LL] at a0 a1 a2 a3 a4 b0 b1 b2 b3 b4 b5 b6;have r0:=B1.out.cell 0;have r1:=B1.out.cell 1;have rz:=B1.out.frozen;simp at r0 r1;rcases HLO.out with⟨kb1,rfl,rfl⟩|⟨kb1,rfl,rfl⟩|⟨kb1,rfl,rfl⟩|⟨kb1,rfl,rfl⟩
 all_goals
  (try simp only at kb1)
  clear HLO;rcases HHI.out with⟨kb2,rfl,rfl⟩|⟨kb2,rfl,rfl⟩|⟨kb2,rfl,rfl⟩|⟨kb2,rfl,rfl⟩
  all_goals
   (try simp only at kb2)
   clear HHI;go_wp2_with (go_at_call 102;(first|with_reducible refine(HA1.out _).mono ?_|with_reducible refine(HA2.out _).mono ?_);rintro e w3 ⟨rfl,hb⟩;replace B0:=qD (B0.out.step hb);replace B1:=qD (B1.out.step hb);replace BE:=qD (BE.out.Jp hb);clear hb a0 a1 a2 a3 a4 b0 b1 b2 b3 b4 b5 b6 r0 r1 rz;obtain⟨⟨a0,a1,a2,a3,a4⟩,⟨b0,b1,b2,b3,b4⟩,b5,b6⟩:=cw.Jr B0.out;simp only[LL] at a0 a1 a2 a3 a4 b0 b1 b2 b3 b4 b5 b6;have r0:=B1.out.cell 0;have r1:=B1.out.cell 1;have rz:=B1.out.frozen;simp at r0 r1);refine Lp (fH rfl _ _ _ rfl _ rfl _ _ _ (((B1.out.Js 0 _).Js 1 _).cell 0 |>.trans rfl) (((B1.out.Js 0 _).Js 1 _).cell 1 |>.trans rfl)) rfl ⟨rfl,(BE.out.setCell (by show w.heap.size<=w.heap.size+1;omega) _).setCell (by show w.heap.size<=w.heap.size+1;omega) _⟩
theorem wM{x y:aC}(h:x.k=y.k)(hk:x.k=1\/x.k=11):aU x y=0:=by
 rw[gh,LU (fun k=>k h),LU (by omega),LU (by omega),LU (by omega),LU (by omega)]
theorem wN{x:aC}(h:aO x=true)(hk:x.k=1):x=eL:=
 congrArg Prod.fst (cO.eq (x,false) (eL,false) h nZ ((fC (wM (by rw[hk];rfl) (.inl hk))).trans rfl))
theorem wO{x:aC}(h:aO x=true)(hk:x.k=11):x=ff:=
 congrArg Prod.fst (cO.eq (x,false) (ff,false) h nd ((fC (wM (by rw[hk];rfl) (.inr hk))).trans rfl))
theorem wP{l:List Int}(h:fi l):eP (strOfNums l)=l:=px h
theorem ik{l t:List Int}(h:fi l)(ht:bF l=some t):eu (strOfNums l)=.returned (.tuple #[.string (strOfNums t),.bool true]):=by
 unfold eu;rw[sL,wP h,ht];rfl
theorem Fu(p:PI)(s:cA×cA)(w:World)(hT:cg w)(hp:iY w p)(hs:ar p=dr s)(v1:VO s.1)(v2:VO s.2):
 Calls prog 38 #[cR p,.bool false] w fun e w'=>e=.returned (.tuple #[.agg #[.string (eB s).1,.string (eB s).2],.bool true])/\Below w.heap.size w w':=by
 obtain⟨⟨x1,i1⟩,⟨x2,i2⟩⟩:=s;obtain⟨⟨⟨c1,y1⟩,⟨c2,y2⟩⟩,⟨f1,f2⟩⟩:=p;simp only[ar,dr,Iv.mk.injEq] at hs;obtain⟨rfl,rfl,rfl,rfl⟩:=hs;obtain⟨t1,ht1⟩:=v1.after;obtain⟨t2,ht2⟩:=v2.after;have k1:c1.k=y1.k:=hp.1.open.k;have k2:c2.k=y2.k:=hp.2.open.k
 have z1:(strOfNums (aq y1)).size<=aF:=by
  have:=(eF (iQ v1.1)).2;rw[MQ];unfold aF;simp only at this;omega
 have z2:(strOfNums (aq y2)).size<=aF:=by
  have:=(eF (iQ v2.1)).2;rw[MQ];unfold aF;simp only at this;omega
 refine EK (((c1,y1),(c2,y2)),(!i1,f2)) (strOfNums (aq y1)) (strOfNums (aq y2)) (strOfNums t1) (strOfNums t2) _ _ w hT hp (dZ (iQ v1.1)) (dZ (iQ v2.1)) ?_ ?_ (fun w=>?_) (fun w=>?_)
 ·simp only;rw[k1];show _\/_;by_cases hk:y1.k=1
  ·have hb:(y1.k==1)=true:=by simpa using hk
   cases i1
   ·refine .inl ⟨hb,rfl,?_⟩;show ei (y1,false)=_;have e:=wN (x:=y1) v1.1 hk;rw[e];exact LZ rfl
   ·refine .inr (.inr (.inl ⟨hb,rfl,?_⟩));show ei (y1,true)=_;unfold ei;rw[LU (by simp)];unfold eK;rw[LZ rfl,ht1];rfl
  ·have hb:(y1.k==1)=false:=by simpa using hk
   cases i1
   ·refine .inr (.inl ⟨hb,rfl,?_⟩);show ei (y1,false)=_;unfold ei;rw[LU (by intro e;simp only[OL,NW] at e;rw[e] at hk;exact hk rfl)];rfl
   ·refine .inr (.inr (.inr ⟨hb,rfl,?_⟩));show ei (y1,true)=_;unfold ei;rw[LU (by simp)];unfold eK;rw[LZ rfl,ht1];rfl
 ·simp only;rw[k2];by_cases hk:y2.k=11
  ·have hb:(y2.k==11)=true:=by simpa using hk
   cases f2
   ·refine .inr (.inr (.inl ⟨hb,rfl,?_⟩));show iR (y2,false)=_;unfold iR;rw[LU (by simp)];rfl
   ·refine .inl ⟨hb,rfl,?_⟩;show iR (y2,true)=_;have e:=wO (x:=y2) v2.1 hk;rw[e];exact LZ rfl
  ·have hb:(y2.k==11)=false:=by simpa using hk
   cases f2
   ·refine .inr (.inr (.inr ⟨hb,rfl,?_⟩));show iR (y2,false)=_;unfold iR;rw[LU (by simp)];rfl
   ·refine .inr (.inl ⟨hb,rfl,?_⟩);show iR (y2,true)=_;unfold iR;rw[LU (by intro e;simp only[OL,NW] at e;rw[e] at hk;exact hk rfl)];unfold eK;rw[LZ rfl,ht2];rfl
 ·have:=jI (strOfNums (aq y1)) w z1;rw[ik v1.rng ht1] at this;exact this
 ·have:=jI (strOfNums (aq y2)) w z2;rw[ik v2.rng ht2] at this;exact this
theorem sM(x:aC):aq (jr x)=fk (bB x):=by
 rw[dA];rfl
theorem zC(x:aC)(c:VC)(w:World)(hT:cg w)(h:RW w c x):
 Calls prog 101 #[c.val] w fun e w'=>e=.returned (.tuple #[.string (strOfNums (fk (bB x))),.int .i64 0])/\Below w.heap.size w w':=by
 have H:=qD h;have HT:=qD hT;clear h hT;obtain⟨hv,hhv⟩:∃hv,hv=bB x:=⟨_,rfl⟩;rw[<-hhv];have HHV:=qD hhv;clear hhv;have B0:Hid (aE (w.alloc (.cells c.arr 29)) w.heap.size 29 c.arr):=aE.Jq rfl;have BE:=qD ((LH w.heap.size w).alloc (qL) (Obj.cells c.arr 29));go_enter func101,ntmps101;go_upto_region 1 with fail
 change Code.wp _ _ _ _ (w.alloc (.cells c.arr 29));generalize w.alloc (.cells c.arr 29)=wa at*;obtain⟨q0,q1,q2,q3,q4⟩:=bS.Jr B0.out;simp only[LL] at q0 q1 q2 q3 q4;have K1:=qD (mu x c wa (HT.out.step BE.out) (H.out.step BE.out));rw[<-HHV.out] at K1
 have K2:Hid (∀wr,Below w.heap.size w wr->Calls prog 74 #[.agg #[.int .i64 3,.int .i64 hv,.string empty,.slice none 0 0,.slice none 0 0]] wr fun e w'=>e=.returned (.tuple #[.string (strOfNums (fk hv)),.int .i64 0])/\Below wr.heap.size wr w'):=qD fun wr hb=>by
  have:=jQ (jr x) (Gx x) wr (HT.out.step hb) (yQ x);rw[dZ (iQ (Ig x)),sM] at this;rw[HHV.out];exact this
 go_wp2_with fail;refine K1.out.mono ?_;rintro e w1 ⟨rfl,hb⟩;replace BE:=qD (BE.out.Jp hb);clear hb q0 q1 q2 q3 q4;go_wp2_with fail;refine(K2.out _ BE.out).mono ?_;rintro e w2 ⟨rfl,hb⟩;replace BE:=qD (BE.out.Jp hb);clear hb;go_wp2_with fail;go_ret2;exact⟨rfl,BE.out⟩
theorem CB(p:PI)(w:World)(hT:cg w)(hp:iY w p):
 Calls prog 38 #[cR p,.bool true] w fun e w'=>e=.returned (.tuple #[.agg #[.string (eE (bB p.1.1.2)).1,.string (eE (bB p.1.1.2)).2],.bool true])/\Below w.heap.size w w':=by
 obtain⟨⟨⟨c1,x1⟩,⟨c2,x2⟩⟩,⟨f1,f2⟩⟩:=p;have R1:Hid (RW w c1 x1):=hp.1;have HT:=qD hT;clear hp hT;obtain⟨t,ht⟩:=pz (bB x1);have hK:Hid (eE (bB x1)=(strOfNums (fk (bB x1)),strOfNums t)):=by unfold Hid eE;rw[ht];rfl
 have hA:Hid (∀w,Calls prog 102 #[.string (strOfNums (fk (bB x1)))] w fun e w'=>e=.returned (.tuple #[.string (strOfNums t),.bool true])/\Below w.heap.size w w'):=qD fun w=>by
  have:=jI (strOfNums (fk (bB x1))) w (by rw[MQ];unfold aF fk;simp[nums,fp]);rw[ik (ml _) ht] at this;exact this
 have hH:Hid (∀wr,Below w.heap.size w wr->Calls prog 101 #[c1.val] wr fun e w'=>e=.returned (.tuple #[.string (strOfNums (fk (bB x1))),.int .i64 0])/\Below wr.heap.size wr w'):=qD fun wr hb=>zC x1 c1 wr (HT.out.step hb) (R1.out.step hb);clear ht;simp only;rw[hK.out];obtain⟨S1,hS1⟩:∃S,S=strOfNums (fk (bB x1)):=⟨_,rfl⟩;obtain⟨T1,hT1⟩:∃S,S=strOfNums t:=⟨_,rfl⟩;rw[<-hS1] at hH hA ⊢;rw[<-hT1] at hA ⊢;clear hS1 hT1 hK;have B0:Hid (aE ((w.alloc (.cells (aM (((c1,x1),(c2,x2)),(f1,f2))) 84)).alloc (.cells #[.string empty,.string empty] 49)) w.heap.size 84 (aM (((c1,x1),(c2,x2)),(f1,f2)))):=(aE.Jq rfl).alloc _;have B1:Hid (aE ((w.alloc (.cells (aM (((c1,x1),(c2,x2)),(f1,f2))) 84)).alloc (.cells #[.string empty,.string empty] 49)) (w.heap.size+1) 49 #[.string empty,.string empty]):=aE.Jq (by simp);have BE:Hid (Below w.heap.size w ((w.alloc (.cells (aM (((c1,x1),(c2,x2)),(f1,f2))) 84)).alloc (.cells #[.string empty,.string empty] 49))):=((LH _ _).alloc (qL) _).alloc (by simp) _;go_enter func38,ntmps38;go_upto_region 1 with fail
 change Code.wp _ _ _ _ ((w.alloc (.cells (aM (((c1,x1),(c2,x2)),(f1,f2))) 84)).alloc (.cells #[.string empty,.string empty] 49));generalize ((w.alloc (.cells (aM (((c1,x1),(c2,x2)),(f1,f2))) 84)).alloc (.cells #[.string empty,.string empty] 49))=wa at*;obtain⟨⟨a0,a1,a2,a3,a4⟩,_,_,_⟩:=cw.Jr B0.out;simp only[LL] at a0 a1 a2 a3 a4;go_wp2_with fail;refine(hH.out _ BE.out).mono ?_;rintro e w1 ⟨rfl,hb⟩;replace B1:=qD (B1.out.step hb);replace BE:=qD (BE.out.Jp hb);clear hb a0 a1 a2 a3 a4 hH B0;go_wp2_with fail;refine(hA.out _).mono ?_;rintro e w2 ⟨rfl,hb⟩;replace B1:=qD (B1.out.step hb);replace BE:=qD (BE.out.Jp hb);clear hb hA;have r0:=B1.out.cell 0;have r1:=B1.out.cell 1;have rz:=B1.out.frozen;simp at r0 r1;go_wp2_with fail;refine Lp (fH rfl _ _ _ rfl _ rfl _ _ _ (((B1.out.Js 0 _).Js 1 _).cell 0 |>.trans rfl) (((B1.out.Js 0 _).Js 1 _).cell 1 |>.trans rfl)) rfl ⟨rfl,(BE.out.setCell (by show w.heap.size<=w.heap.size+1;omega) _).setCell (by show w.heap.size<=w.heap.size+1;omega) _⟩
theorem rB{fn:Func}{p:Tmp}(h:fn.results=#[.cell p 49])(tmps:Array Value)(g1 off:Nat)(h1:tmps[p]?.getD undef=.pointer (some ⟨g1,off,none⟩))(W:World)(a b:ByteArray)(q0:W.cell? ⟨g1,off,none⟩=some (.string a))(q1:W.cell? ⟨g1,off+1,none⟩=some (.string b)):
 (results fn tmps).run prog W=.ok (.agg #[.string a,.string b]) W:=by
 simp[results,h,h1,asAddr,go_sem,q0,q1]
theorem kV{l t:List Int}(h:fi l)(ht:bF l=some t)(hz:(strOfNums l).size<=aF)(w:World):Calls prog 124 #[.string (strOfNums l)] w fun e w'=>e=.returned (.string (strOfNums t))/\Below w.heap.size w w':=by
 have:=lr (strOfNums l) w hz;rw[ik h ht] at this;have K:=qD this;generalize strOfNums l=S at*;generalize strOfNums t=T at*;clear h ht hz this;go_enter func124,ntmps124;go_wp2_with fail;refine K.out.mono ?_;rintro e w1 ⟨rfl,hb⟩;have HB:=qD hb;clear hb;go_wp2_with fail;go_ret;exact⟨rfl,HB.out⟩
theorem CC(p:PI)(S1 S2 T1 T2 KL KH:ByteArray)(w:World)(hp:iY w p)(h1:eD [p.1.1.2]=(S1,0))(h2:eD [p.1.2.2]=(S2,0))(hlo:((p.1.1.1.k==1)=true/\p.2.1=true/\KL=empty)\/((p.1.1.1.k==1)=false/\p.2.1=true/\KL=S1)\/((p.1.1.1.k==1)=true/\p.2.1=false/\KL=T1)\/((p.1.1.1.k==1)=false/\p.2.1=false/\KL=T1))(hhi:((p.1.2.1.k==11)=true/\p.2.2=true/\KH=empty)\/((p.1.2.1.k==11)=false/\p.2.2=true/\KH=T2)\/((p.1.2.1.k==11)=true/\p.2.2=false/\KH=S2)\/((p.1.2.1.k==11)=false/\p.2.2=false/\KH=S2))(hA1:∀w,Calls prog 124 #[.string S1] w fun e w'=>e=.returned (.string T1)/\Below w.heap.size w w')(hA2:∀w,Calls prog 124 #[.string S2] w fun e w'=>e=.returned (.string T2)/\Below w.heap.size w w'):
 Calls prog 120 #[cR p] w fun e w'=>e=.returned (.agg #[.string KL,.string KH])/\Below w.heap.size w w':=by
 obtain⟨⟨⟨c1,x1⟩,⟨c2,x2⟩⟩,⟨f1,f2⟩⟩:=p;have R1:Hid (RW w c1 x1):=hp.1;have R2:Hid (RW w c2 x2):=hp.2;have HA1:=qD hA1;have HA2:=qD hA2;have HK1:Hid (eD [x1]=(S1,0)):=h1;have HK2:Hid (eD [x2]=(S2,0)):=h2;have HLO:=qD hlo;have HHI:=qD hhi;clear hp hA1 hA2 h1 h2 hlo hhi
 have hcode1:Hid (∀wr,Below w.heap.size w wr->Calls prog 122 #[c1.val] wr fun e w'=>e=.returned (.tuple #[.string S1,.int .i64 0])/\Below wr.heap.size wr w'):=qD fun wr hb=>by
  have:=ku x1 c1 wr (R1.out.step hb);rw[HK1.out] at this;exact this
 have hcode2:Hid (∀wr,Below w.heap.size w wr->Calls prog 122 #[c2.val] wr fun e w'=>e=.returned (.tuple #[.string S2,.int .i64 0])/\Below wr.heap.size wr w'):=qD fun wr hb=>by
  have:=ku x2 c2 wr (R2.out.step hb);rw[HK2.out] at this;exact this
 have B0:Hid (aE ((w.alloc (.cells (aM (((c1,x1),(c2,x2)),(f1,f2))) 84)).alloc (.cells #[.string empty,.string empty] 49)) w.heap.size 84 (aM (((c1,x1),(c2,x2)),(f1,f2)))):=(aE.Jq rfl).alloc _;have B1:Hid (aE ((w.alloc (.cells (aM (((c1,x1),(c2,x2)),(f1,f2))) 84)).alloc (.cells #[.string empty,.string empty] 49)) (w.heap.size+1) 49 #[.string empty,.string empty]):=aE.Jq (by simp);have BE:Hid (Below w.heap.size w ((w.alloc (.cells (aM (((c1,x1),(c2,x2)),(f1,f2))) 84)).alloc (.cells #[.string empty,.string empty] 49))):=((LH _ _).alloc (qL) _).alloc (by simp) _;go_enter func120,ntmps120;go_upto_region 1 with fail
 change Code.wp _ _ _ _ ((w.alloc (.cells (aM (((c1,x1),(c2,x2)),(f1,f2))) 84)).alloc (.cells #[.string empty,.string empty] 49));generalize ((w.alloc (.cells (aM (((c1,x1),(c2,x2)),(f1,f2))) 84)).alloc (.cells #[.string empty,.string empty] 49))=wa at*;obtain⟨⟨a0,a1,a2,a3,a4⟩,⟨b0,b1,b2,b3,b4⟩,b5,b6⟩:=cw.Jr B0.out;simp only[LL] at a0 a1 a2 a3 a4 b0 b1 b2 b3 b4 b5 b6;go_wp2_with fail;refine(hcode1.out _ BE.out).mono ?_;rintro e w1 ⟨rfl,hb⟩;replace B0:=qD (B0.out.step hb);replace B1:=qD (B1.out.step hb);replace BE:=qD (BE.out.Jp hb);clear hb a0 a1 a2 a3 a4 b0 b1 b2 b3 b4 b5 b6 hcode1;obtain⟨⟨a0,a1,a2,a3,a4⟩,⟨b0,b1,b2,b3,b4⟩,b5,b6⟩:=cw.Jr B0.out;simp only[LL] at a0 a1 a2 a3 a4 b0 b1 b2 b3 b4 b5 b6;go_wp2_with fail;refine(hcode2.out _ BE.out).mono ?_;rintro e w2 ⟨rfl,hb⟩;replace B0:=qD (B0.out.step hb);replace B1:=qD (B1.out.step hb);replace BE:=qD (BE.out.Jp hb);clear hb a0 a1 a2 a3 a4 b0 b1 b2 b3 b4 b5 b6 hcode2;obtain⟨⟨a0,a1,a2,a3,a4⟩,⟨b0,b1,b2,b3,b4⟩,b5,b6⟩:=cw.Jr B0.out;simp only[LL] at a0 a1 a2 a3 a4 b0 b1 b2 b3 b4 b5 b6;have r0:=B1.out.cell 0;have r1:=B1.out.cell 1;have rz:=B1.out.frozen;simp at r0 r1;rcases HLO.out with⟨kb1,rfl,rfl⟩|⟨kb1,rfl,rfl⟩|⟨kb1,rfl,rfl⟩|⟨kb1,rfl,rfl⟩
 all_goals
  (try simp only at kb1)
  clear HLO;rcases HHI.out with⟨kb2,rfl,rfl⟩|⟨kb2,rfl,rfl⟩|⟨kb2,rfl,rfl⟩|⟨kb2,rfl,rfl⟩
  all_goals
   (try simp only at kb2)
   clear HHI;go_wp2_with (go_at_call 124;(first|with_reducible refine(HA1.out _).mono ?_|with_reducible refine(HA2.out _).mono ?_);rintro e w3 ⟨rfl,hb⟩;replace B0:=qD (B0.out.step hb);replace B1:=qD (B1.out.step hb);replace BE:=qD (BE.out.Jp hb);clear hb a0 a1 a2 a3 a4 b0 b1 b2 b3 b4 b5 b6 r0 r1 rz;obtain⟨⟨a0,a1,a2,a3,a4⟩,⟨b0,b1,b2,b3,b4⟩,b5,b6⟩:=cw.Jr B0.out;simp only[LL] at a0 a1 a2 a3 a4 b0 b1 b2 b3 b4 b5 b6;have r0:=B1.out.cell 0;have r1:=B1.out.cell 1;have rz:=B1.out.frozen;simp at r0 r1);refine Lp (rB rfl _ _ _ rfl _ _ _ (((B1.out.Js 0 _).Js 1 _).cell 0 |>.trans rfl) (((B1.out.Js 0 _).Js 1 _).cell 1 |>.trans rfl)) rfl ⟨rfl,(BE.out.setCell (by show w.heap.size<=w.heap.size+1;omega) _).setCell (by show w.heap.size<=w.heap.size+1;omega) _⟩
theorem EL(p:PI)(s:cA×cA)(w:World)(hp:iY w p)(hs:ar p=dr s)(v1:VO s.1)(v2:VO s.2):
 Calls prog 120 #[cR p] w fun e w'=>e=.returned (.agg #[.string (eB s).1,.string (eB s).2])/\Below w.heap.size w w':=by
 obtain⟨⟨x1,i1⟩,⟨x2,i2⟩⟩:=s;obtain⟨⟨⟨c1,y1⟩,⟨c2,y2⟩⟩,⟨f1,f2⟩⟩:=p;simp only[ar,dr,Iv.mk.injEq] at hs;obtain⟨rfl,rfl,rfl,rfl⟩:=hs;obtain⟨t1,ht1⟩:=v1.after;obtain⟨t2,ht2⟩:=v2.after;have k1:c1.k=y1.k:=hp.1.open.k;have k2:c2.k=y2.k:=hp.2.open.k
 have z1:(strOfNums (aq y1)).size<=aF:=by
  have:=(eF (iQ v1.1)).2;rw[MQ];unfold aF;simp only at this;omega
 have z2:(strOfNums (aq y2)).size<=aF:=by
  have:=(eF (iQ v2.1)).2;rw[MQ];unfold aF;simp only at this;omega
 refine CC (((c1,y1),(c2,y2)),(!i1,f2)) (strOfNums (aq y1)) (strOfNums (aq y2)) (strOfNums t1) (strOfNums t2) _ _ w hp (dZ (iQ v1.1)) (dZ (iQ v2.1)) ?_ ?_ (fun w=>?_) (fun w=>?_)
 ·simp only;rw[k1];show _\/_;by_cases hk:y1.k=1
  ·have hb:(y1.k==1)=true:=by simpa using hk
   cases i1
   ·refine .inl ⟨hb,rfl,?_⟩;show ei (y1,false)=_;have e:=wN (x:=y1) v1.1 hk;rw[e];exact LZ rfl
   ·refine .inr (.inr (.inl ⟨hb,rfl,?_⟩));show ei (y1,true)=_;unfold ei;rw[LU (by simp)];unfold eK;rw[LZ rfl,ht1];rfl
  ·have hb:(y1.k==1)=false:=by simpa using hk
   cases i1
   ·refine .inr (.inl ⟨hb,rfl,?_⟩);show ei (y1,false)=_;unfold ei;rw[LU (by intro e;simp only[OL,NW] at e;rw[e] at hk;exact hk rfl)];rfl
   ·refine .inr (.inr (.inr ⟨hb,rfl,?_⟩));show ei (y1,true)=_;unfold ei;rw[LU (by simp)];unfold eK;rw[LZ rfl,ht1];rfl
 ·simp only;rw[k2];by_cases hk:y2.k=11
  ·have hb:(y2.k==11)=true:=by simpa using hk
   cases f2
   ·refine .inr (.inr (.inl ⟨hb,rfl,?_⟩));show iR (y2,false)=_;unfold iR;rw[LU (by simp)];rfl
   ·refine .inl ⟨hb,rfl,?_⟩;show iR (y2,true)=_;have e:=wO (x:=y2) v2.1 hk;rw[e];exact LZ rfl
  ·have hb:(y2.k==11)=false:=by simpa using hk
   cases f2
   ·refine .inr (.inr (.inr ⟨hb,rfl,?_⟩));show iR (y2,false)=_;unfold iR;rw[LU (by simp)];rfl
   ·refine .inr (.inl ⟨hb,rfl,?_⟩);show iR (y2,true)=_;unfold iR;rw[LU (by intro e;simp only[OL,NW] at e;rw[e] at hk;exact hk rfl)];unfold eK;rw[LZ rfl,ht2];rfl
 ·exact kV v1.rng ht1 z1 w
 ·exact kV v2.rng ht2 z2 w
theorem wQ(x:ByteArray)(w:World):Calls prog 157 #[.string x] w fun e w'=>e=.returned (.bool false)/\w=w':=by
 go_enter func157,ntmps157;go_wp2_with fail;go_ret;exact⟨by simp,rfl⟩
theorem wR(x y:ByteArray)(w:World):Calls prog 106 #[.string x,.string y] w fun e w'=>e=.returned (.int .i64 (bm x y))/\w=w':=by
 have h1:=Fg x y;have an:=gD x y;have rg:=qS x y
 have hz:(x.toList==y.toList)=decide (bm x y=0):=by
  rw[Lg,Ns,NJ,iD,MD,MD];constructor
  ·intro h;exact Mw (Mq.1 h)
  ·intro h;rw[h]
 obtain⟨c,hc⟩:∃c,c=bm x y:=⟨_,rfl⟩;rw[<-hc] at h1 hz rg ⊢;have h3:c=-1\/c=0\/c=1:=by omega
 clear hc rg an;rcases h3 with rfl|rfl|rfl
 all_goals
  first|replace h1:Op.bytesLess x.toList y.toList=true:=h1|replace h1:Op.bytesLess x.toList y.toList=false:=h1
  first|replace hz:(x.toList==y.toList)=true:=hz|replace hz:(x.toList==y.toList)=false:=hz
  go_enter func106,ntmps106;go_wp2_with fail;refine(wQ x _).mono ?_;rintro e w1 ⟨rfl,rfl⟩;go_wp2_with fail;refine(wQ y _).mono ?_;rintro e w1 ⟨rfl,rfl⟩;go_wp2_with fail;go_ret;exact⟨rfl,rfl⟩
theorem Fv(x y:Int)(g:Nat)(t:TypeId)(w:World)(h:aE w g t #[.int .i64 x,.int .i64 y]):Calls prog 105 #[.slice (some ⟨g,0,none⟩) 2 2] w fun e w'=>e=.returned (.int .i64 (lT x y))/\Below w.heap.size w w':=by
 have H:=qD h;have q0:=h.cell 0;have q1:=h.cell 1;simp at q0 q1;clear h;go_enter func105,ntmps105;go_wp2_with fail
 go_loopw [8] (fun v wr=>(v=.int .i64 0\/v=.int .i64 1/\x=0\/v=.int .i64 2/\x=0/\y=0)/\wr=w) (fun v _=>match v with | .int _ n=>(5-n).toNat|_=>0)
 ·exact⟨.inl rfl,rfl⟩
 case round=>
  obtain⟨rfl|⟨rfl,rfl⟩|⟨rfl,rfl,rfl⟩,rfl⟩:=hrel
  ·by_cases h0:x=0
   ·subst h0;go_wp2_with fail;refine⟨by simp,by decide⟩
   ·have hx:(x != 0)=true:=by simpa using h0
    have HL:Hid (lT x y=x):=qD (by unfold lT;rw[LZ h0]);clear h0;go_wp2_with fail;go_ret;exact⟨by rw[HL.out];rfl,LH _ _⟩
  ·have HL:Hid (lT 0 y=y):=qD rfl;by_cases h0:y=0
   ·subst h0;go_wp2_with fail;refine⟨by simp,by decide⟩
   ·have hx:(y != 0)=true:=by simpa using h0
    clear h0;go_wp2_with fail;go_ret;exact⟨by rw[HL.out];rfl,LH _ _⟩
  ·go_wp2_with fail;go_ret;exact⟨rfl,LH _ _⟩
theorem EM(p q:B2)(w:World):Calls prog 104 #[.agg #[.string p.1,.string p.2],.agg #[.string q.1,.string q.2]] w fun e w'=>e=.returned (.int .i64 (bL p q))/\Below w.heap.size w w':=by
 have B0:Hid (aE ((w.alloc (.cells #[.string p.1,.string p.2] 49)).alloc (.cells #[.string q.1,.string q.2] 49)) w.heap.size 49 #[.string p.1,.string p.2]):=(aE.Jq rfl).alloc _;have B1:Hid (aE ((w.alloc (.cells #[.string p.1,.string p.2] 49)).alloc (.cells #[.string q.1,.string q.2] 49)) (w.heap.size+1) 49 #[.string q.1,.string q.2]):=aE.Jq (by simp);have BE:Hid (Below w.heap.size w ((w.alloc (.cells #[.string p.1,.string p.2] 49)).alloc (.cells #[.string q.1,.string q.2] 49))):=((LH _ _).alloc (qL) _).alloc (by simp) _;have HL:Hid (bL p q=lT (bm p.1 q.1) (bm p.2 q.2)):=qD rfl;go_enter func104,ntmps104;go_upto_region 1 with fail
 change Code.wp _ _ _ _ ((w.alloc (.cells #[.string p.1,.string p.2] 49)).alloc (.cells #[.string q.1,.string q.2] 49));generalize ((w.alloc (.cells #[.string p.1,.string p.2] 49)).alloc (.cells #[.string q.1,.string q.2] 49))=wa at*
 have KS:Hid (∀w',Below wa.heap.size wa w'->w'.cell? ⟨w.heap.size,0,none⟩=some (.string p.1)/\w'.cell? ⟨w.heap.size,1,none⟩=some (.string p.2)/\w'.cell? ⟨w.heap.size+1,0,none⟩=some (.string q.1)/\w'.cell? ⟨w.heap.size+1,1,none⟩=some (.string q.2)):=qD fun w' hb=>
  ⟨((B0.out.step hb).cell 0).trans rfl,((B0.out.step hb).cell 1).trans rfl,((B1.out.step hb).cell 0).trans rfl,((B1.out.step hb).cell 1).trans rfl⟩
 have B:=qD ((LH wa.heap.size wa).drewN 1);obtain⟨k1,hk1⟩:∃k,k=bm p.1 q.1:=⟨_,rfl⟩;obtain⟨k2,hk2⟩:∃k,k=bm p.2 q.2:=⟨_,rfl⟩;have C1:Hid (∀wr,Calls prog 106 #[.string p.1,.string q.1] wr fun e w'=>e=.returned (.int .i64 k1)/\wr=w'):=qD fun wr=>by rw[hk1];exact wR _ _ _
 have C2:Hid (∀wr,Calls prog 106 #[.string p.2,.string q.2] wr fun e w'=>e=.returned (.int .i64 k2)/\wr=w'):=qD fun wr=>by rw[hk2];exact wR _ _ _
 rw[<-hk1,<-hk2] at HL;clear hk1 hk2
 go_region_held3 (fun w'=>w'.cell? ⟨w.heap.size,0,none⟩=some (.string p.1)/\w'.cell? ⟨w.heap.size,1,none⟩=some (.string p.2)/\w'.cell? ⟨w.heap.size+1,0,none⟩=some (.string q.1)/\w'.cell? ⟨w.heap.size+1,1,none⟩=some (.string q.2))
  (first|exact KS.out _ B.out|exact KS.out _ (B.out.alloc B.out.size _)|((try dsimp only);assumption)|go_keep)
  (first
    | (go_at_call 106;with_reducible refine(C1.out _).mono ?_;rintro e3 w3 ⟨rfl,rfl⟩)
    | (go_at_call 106;with_reducible refine(C2.out _).mono ?_;rintro e3 w3 ⟨rfl,rfl⟩)
    | (go_at_call 105;refine(Fv k1 k2 wa.heap.size 3 _ (aE.drew (aE.Jq rfl))).mono ?_;rintro e3 w3 ⟨rfl,hb⟩;replace B:=qD (((LH _ _).alloc (qL) _).drew.Jp hb);clear hb))
 all_goals
  go_wp2_with fail;go_ret;exact⟨by rw[HL.out];rfl,BE.out.Jp B.out⟩
open Go
theorem oo(p q:B2)(w:World):(Op.equal 49 (.agg #[.string p.1,.string p.2]) (.agg #[.string q.1,.string q.2])).run prog w=.ok (decide (p=q)) w:=by
 obtain⟨i,hi⟩:=info_of_underlying (P:=prog) MB;have h:=run_equalIn_array (P:=prog) w 9999 #[.string p.1,.string p.2] #[.string q.1,.string q.2] (t:=49) (e:=9) (n:=2) underlying49 hi
 have e:decide (p=q)=((p.1.toList==q.1.toList)&&(p.2.toList==q.2.toList)):=by
  rw[Lg,NJ,ME,Ns,Ns];constructor
  ·rintro rfl;exact⟨rfl,rfl⟩
  ·rintro⟨h1,h2⟩;refine Prod.ext ?_ ?_
   ·rw[MD,MD] at h1;exact Mw (Mq.1 h1)
   ·rw[MD,MD] at h2;exact Mw (Mq.1 h2)
 rw[e];show(Op.equalIn (9999+1) 49 _ _).run _ _=_;rw[h];have hs:∀(a b:ByteArray),(Op.equalIn 9999 9 (.string a) (.string b)).run prog w=.ok (a.toList==b.toList) w:=fun a b=>run_equalIn_string w 9998 _ a b MB;have hc:Tryz.prog.cellsOf 9=1:=by kernel_rfl
 have hp:∀(xs:Array Value) (k:Nat) (a:ByteArray),xs[k]?=some (.string a)->(part 9 xs k).run prog w=.ok (.string a) w:=by
  intro xs k a hk;simp[part,Oo MB,isAgg,hk]
 simp[Op.eqItems,List.range,List.range.loop,hc,hp,hs];by_cases h1:p.1.toList=q.1.toList<;>by_cases h2:p.2.toList=q.2.toList<;>simp[h1,h2]
theorem EN:Tryz.prog.eqGuardType Tryz.prog.depth 49=false:=by kernel_rfl
theorem CF{ev:Operand->Value}{o:Oper}{x y:Operand}{t2:TypeId}(p q:B2)(w:World)(ho:o.op=.binOp .eql 49 x y t2)(hx:ev x=.agg #[.string p.1,.string p.2])(hy:ev y=.agg #[.string q.1,.string q.2]):
 (execOp ev o).run prog w=.ok (.value (.bool (decide (p=q)))) w:=by
 unfold execOp;rw[ho];have h1:=oo p q w
 have h2:(binOp .eql 49 (.agg #[.string p.1,.string p.2]) (.agg #[.string q.1,.string q.2])).run prog w=.ok (.bool (decide (p=q))) w:=by
  show(do pure (Value.bool (<-Op.equal _ _ _))).run _ _=_;rw[Ng,h1];rfl
 simp only[hx,hy,Ng,run_eqGuard_agg _ _ _ _ _ _ _ EN,NT,h2,OI]
theorem CG{ev:Operand->Value}{o:Oper}{x y:Operand}{t2:TypeId}(p q:B2)(w:World)(ho:o.op=.binOp .neq 49 x y t2)(hx:ev x=.agg #[.string p.1,.string p.2])(hy:ev y=.agg #[.string q.1,.string q.2]):
 (execOp ev o).run prog w=.ok (.value (.bool (!decide (p=q)))) w:=by
 unfold execOp;rw[ho];have h1:=oo p q w
 have h2:(binOp .neq 49 (.agg #[.string p.1,.string p.2]) (.agg #[.string q.1,.string q.2])).run prog w=.ok (.bool (!decide (p=q))) w:=by
  show(do pure (Value.bool (!(<-Op.equal _ _ _)))).run _ _=_;rw[Ng,h1];rfl
 simp only[hx,hy,Ng,run_eqGuard_agg _ _ _ _ _ _ _ EN,NT,h2,OI]
theorem qE{C:World->Prop}{K:Act->Prop}{a:Act}{o:Oper}{x y:Operand}{t2:TypeId}(p q:B2){z:Bool}(hz:z=decide (p=q))(ho:o.op=.binOp .eql 49 x y t2)(hx:a.eval x=.agg #[.string p.1,.string p.2])(hy:a.eval y=.agg #[.string q.1,.string q.2])(h:K (a.put o.dst (.bool z))):o.quiet prog a C K:=by
 refine⟨.bool z,fun w _=>?_,h⟩;unfold Oper.quietAt;rw[CF p q w ho hx hy,hz];exact⟨rfl,rfl⟩
theorem zD{C:World->Prop}{K:Act->Prop}{a:Act}{o:Oper}{x y:Operand}{t2:TypeId}(p q:B2){z:Bool}(hz:z=!decide (p=q))(ho:o.op=.binOp .neq 49 x y t2)(hx:a.eval x=.agg #[.string p.1,.string p.2])(hy:a.eval y=.agg #[.string q.1,.string q.2])(h:K (a.put o.dst (.bool z))):o.quiet prog a C K:=by
 refine⟨.bool z,fun w _=>?_,h⟩;unfold Oper.quietAt;rw[CG p q w ho hx hy,hz];exact⟨rfl,rfl⟩
theorem cG.Jt{w:World}{base g n cap:Nat}{xs:List B2}(h:w.ownsRow base 49 2 (.slice (some ⟨g,0,none⟩) n cap) n (aJ aY xs)):cG w g (bd 0 xs):=by
 rcases h.2 with⟨h',_⟩|⟨g',cap',cur,h',_,hg,_,_,_,htake⟩
 ·simp at h'
 ·simp only[Value.slice.injEq,MP,Addr.mk.injEq,NW,true_and] at h';obtain⟨rfl,rfl⟩:=h'
  have e:aJ jO (bd 0 xs)=aJ aY xs:=by
   have:∀k,aJ jO (bd k xs)=aJ aY xs:=by
    intro k;clear hg htake h
    induction xs generalizing k with
    | nil=>rfl
    | cons x r ih=>
     have e1:aJ jO (bd k (x::r))=aY x++aJ jO (bd (k+1) r):=rfl;rw[e1,ih];rfl
   exact this 0
  refine⟨cur.toList.drop (n*2),?_⟩;show w.heap[g]?=_;rw[hg,e,<-htake,Lf]
theorem cG.reads{w:World}{g n cap:Nat}{L:List (B2×Nat)}(h:cG w g L)(hn:n=L.length)(hc:n<=cap):SR 2 aY w (some ⟨g,0,none⟩) n cap (L.map Prod.fst):=by
 refine⟨by rw[Lb,hn],hc,fun _=>⟨g,0,rfl,h.lt,fun i a hi j v hj=>?_⟩⟩;rw[LV] at hi;obtain⟨p,hp,rfl⟩:=Mn.1 hi;rw[LL];exact h.cell hp j v hj
theorem wS{P:Program}(w:World)(t e ty:TypeId)(z:Value)(zs:List Value)(n:Nat)(ht:P.underlying t=some (.slice e))(hv:∀w,(zeroValue e).run P w=.ok z w)(hz:(Builtin.zeroCells z.cells n).toList=zs)(h1:∀v∈zs,v.oneCell'=true)(b o c:Nat)(hc:∀j,j<zs.length->(w.cell? ⟨b,o+j,none⟩).isSome=true)(hf:∀j,j<zs.length->w.frozen? ⟨b,o+j,none⟩=false):
 (Builtin.clear_ #[t] ty #[.slice (some ⟨b,o,none⟩) n c]).run P w=.ok (.tuple #[]) (w.setCells b o zs):=by
 have hst:=run_storeCells_cells (P:=P) b o zs 0 w (by simpa using hc) (by simpa using hf) h1;simp only[Ms] at hst;cases n with
 | zero=>
  have:zs=[]:=by rw[<-hz];simp[Builtin.zeroCells]
  subst this;simp[Builtin.clear_,Oo ht,World.setCells]
 | succ n=>simp[Builtin.clear_,Oo ht,hv,hz,hst]
theorem EP(l:List B2):(eZ l).length<=l.length:=by
 induction l with
 | nil=>simp[eZ]
 | cons x r ih=>
  unfold eZ;cases h:eZ r with
  | nil=>simp
  | cons y s=>
   rw[h] at ih;simp only;split<;>simp at*<;>omega
theorem CH{x:B2}{r:List B2}:∃s,eZ (x::r)=x::s:=by
 unfold eZ;cases h:eZ r with
 | nil=>exact⟨[],rfl⟩
 | cons y s=>
  simp only;split
  ·rename_i e;exact⟨s,by rw[e]⟩
  ·exact⟨y::s,rfl⟩
theorem sN:∀(l:List B2) (a b:B2),eZ (l++[a]++[b])=if a=b then eZ (l++[a]) else eZ (l++[a])++[b]
 | [],a,b=>by
  simp only[MC,Lj,eZ];split
  ·rename_i e;rw[e]
  ·rfl
 | x::r,a,b=>by
  have ih:=sN r a b
  obtain⟨y,q,hy⟩:∃y q,r++[a]=y::q:=by
   cases r with
   | nil=>exact⟨a,[],rfl⟩
   | cons y q=>exact⟨y,q++[a],rfl⟩
  obtain⟨s,hs⟩:=CH (x:=y) (r:=q);have e1:eZ (r++[a])=y::s:=by rw[hy,hs]
  simp only[Lj];unfold eZ;rw[ih,e1];by_cases e:a=b
  ·rw[LZ e,LZ e]
  ·rw[LU e,LU e];simp only[Lj];split<;>rfl
theorem lB{l:List B2}{a b:B2}{i:Nat}(ha:l[i]?=some a)(hb:l[i+1]?=some b):eZ (l.take (i+2))=if a=b then eZ (l.take (i+1)) else eZ (l.take (i+1))++[b]:=by
 have e1:l.take (i+1)=l.take i++[a]:=by rw[MW,ha];rfl
 have e2:l.take (i+2)=l.take i++[a]++[b]:=by rw[show i+2=i+1+1 from rfl,MW,hb,e1];rfl
 rw[e2,sN,e1]
theorem CI(w:World):Calls prog 107 #[.slice none 0 0] w fun e w'=>e=.returned (.slice none 0 0)/\w=w':=by
 go_enter func107,QB;go_wp2_with fail;go_ret;exact⟨rfl,rfl⟩
structure Er(L:List (B2×Nat))(n j:Nat)(g:Nat)(w:World)(k t:Nat)(M:List (B2×Nat))(wr:World):Prop where
 row:cG wr g M
 but:ey g w wr
 ln:M.length=n
 k1:1<=k
 kt:k<=j+1+t
 tn:j+1+t+1<=n
 eq:(M.map Prod.fst).take k=eZ ((L.map Prod.fst).take (j+1+t+1))
 same:∀i,j+1+t<=i->M[i]?=L[i]?
theorem Er.step{L:List (B2×Nat)}{n j g:Nat}{w:World}{k t:Nat}{M:List (B2×Nat)}{wr w':World}(h:Er L n j g w k t M wr)(hb:Below wr.heap.size wr w'):Er L n j g w k t M w':=
 ⟨h.row.step hb,h.but.step hb,h.ln,h.k1,h.kt,h.tn,h.eq,h.same⟩
theorem Er.skip{L:List (B2×Nat)}{n j g:Nat}{w:World}{k t:Nat}{M:List (B2×Nat)}{wr:World}{p q:B2×Nat}(h:Er L n j g w k t M wr)(hp:L[j+1+t]?=some p)(hq:L[j+1+t+1]?=some q)(hl:j+1+t+2<=n)(e:p.1=q.1):Er L n j g w k (t+1) M wr:=by
 refine⟨h.row,h.but,h.ln,h.k1,by have:=h.kt;omega,by omega,?_,fun i hi=>h.same i (by omega)⟩;have:=lB (l:=L.map Prod.fst) (i:=j+1+t) (a:=p.1) (b:=q.1) (by rw[LV,hp];rfl) (by rw[LV,hq];rfl);rw[LZ e] at this;rw[show j+1+(t+1)+1=j+1+t+2 from by omega,this,h.eq]
theorem Er.put{L:List (B2×Nat)}{n j g:Nat}{w:World}{k t:Nat}{M:List (B2×Nat)}{wr:World}{p q:B2×Nat}(h:Er L n j g w k t M wr)(hp:L[j+1+t]?=some p)(hq:L[j+1+t+1]?=some q)(hl:j+1+t+2<=n)(e:p.1≠q.1):
 Er L n j g w (k+1) (t+1) (M.set k q) ((wr.setCell ⟨g,k*2,none⟩ (.string q.1.1)).setCell ⟨g,k*2+1,none⟩ (.string q.1.2)):=by
 have hkl:k<M.length:=by have:=h.ln;have:=h.kt;omega
 refine⟨h.row.put hkl q,(h.but.set (p:=⟨g,k*2,none⟩) rfl _).set (p:=⟨g,k*2+1,none⟩) rfl _,by rw[NK];exact h.ln,by omega,by have:=h.kt;omega,by omega,?_,fun i hi=>?_⟩
 ·have:=lB (l:=L.map Prod.fst) (i:=j+1+t) (a:=p.1) (b:=q.1) (by rw[LV,hp];rfl) (by rw[LV,hq];rfl);rw[LU e] at this;rw[show j+1+(t+1)+1=j+1+t+2 from by omega,this,<-h.eq,MW,LV,PE hkl,List.map_set];rw[List.take_set_of_le (Nat.le_refl k)];rfl
 ·rw[PW (by have:=h.kt;omega)];exact h.same i (by omega)
theorem kW(g:Nat):∀(vs:List Value) (o:Nat) (w:World),(w.setCells g o vs).heap.size=w.heap.size
 | [],_,_=>rfl
 | v::r,o,w=>by
  show((w.setCell ⟨g,o,none⟩ v).setCells g (o+1) r).heap.size=_;rw[kW g r];simp
theorem CJ(w:World):(zeroValue 49).run prog w=.ok (.agg #[.string empty,.string empty]) w:=by
 obtain⟨j0,hj0,hy0,hy1,hy2⟩:=Mc fq;simp[zeroValue,typeInfo,hj0,hy0,Ng]
def Hk(L:List (B2×Nat))(g:Nat)(w:World)(e:Ending)(w':World):Prop:=
 ∃m c,e=.returned (.slice (some ⟨g,0,none⟩) m c)/\SR 2 aY w' (some ⟨g,0,none⟩) m c (eZ (L.map Prod.fst))/\ey g w w'
theorem CK(L:List (B2×Nat))(g n c:Nat)(w:World)(hr:cG w g L)(hn:n=L.length)(hc:n<=c)(hz:n*32<=aF):
 Calls prog 107 #[.slice (some ⟨g,0,none⟩) n c] w (Hk L g w):=by
 have hzz:n<=140737488355328:=by unfold aF at hz;omega
 have HR:=qD hr;have HN:=qD hn;have HC:=qD hc;clear hr hn hc hz;by_cases h2:n<2
 ·have HO:Hid (eZ (L.map Prod.fst)=L.map Prod.fst):=by
   have hl:=HN.out
   match L,hl with
   | [],_=>exact qD rfl
   | [x],_=>exact qD rfl
   | x::y::r,hl=>simp at hl;omega
  go_enter func107,QB;go_wp2_with fail;go_ret;exact⟨n,c,rfl,by rw[HO.out];exact HR.out.reads HN.out HC.out,ey.refl⟩
 go_enter func107,QB;go_upto_region 4 with fail
 go_loopw [3,4,5] (fun v3 _ _ wr=>∃j:Nat,j+1<=n/\v3=.int .i64 ((j+1:Nat):Int)/\eZ ((L.map Prod.fst).take (j+1))=(L.map Prod.fst).take (j+1)/\cG wr g L/\ey g w wr) (fun v3 _ _ _=>n-(intOf v3).toNat)
 case atStart=>
  refine⟨0,by omega,rfl,?_,HR.out,ey.refl⟩;cases h:L.map Prod.fst with
  | nil=>rfl
  | cons x r=>rfl
 case round=>
  obtain⟨j,hj,rfl,ho,hrow,hbut⟩:=hrel;have HO:=qD ho;have HRW:=qD hrow;have HBT:=qD hbut;clear ho hrow hbut;by_cases hlt:j+1<n
  ·obtain⟨p,hp⟩:∃p,L[j]?=some p:=⟨_,LI (by have:=HN.out;omega)⟩;obtain⟨q,hq⟩:∃q,L[j+1]?=some q:=⟨_,LI (by have:=HN.out;omega)⟩;have X0:∀kk:BW wr,kk.val.cell? ⟨g,j*2,none⟩=some (.string p.1.1):=fun kk=>kk.cell (HRW.out.cell hp 0 _ rfl);have X1:∀kk:BW wr,kk.val.cell? ⟨g,j*2+1,none⟩=some (.string p.1.2):=fun kk=>kk.cell (HRW.out.cell hp 1 _ rfl);have Y0:∀kk:BW wr,kk.val.cell? ⟨g,(j+1)*2,none⟩=some (.string q.1.1):=fun kk=>kk.cell (HRW.out.cell hq 0 _ rfl);have Y1:∀kk:BW wr,kk.val.cell? ⟨g,(j+1)*2+1,none⟩=some (.string q.1.2):=fun kk=>kk.cell (HRW.out.cell hq 1 _ rfl);have HP:=qD hp;have HQ:=qD hq;clear hp hq;have i0:(0:Int)<=(j:Int):=by omega
   have i1:(j:Int)+1<(n:Int):=by omega
   have i2:(j:Int)<(n:Int):=by omega
   go_upto_region 6 with fail
   refine aL (by kernel_rfl) (by kernel_rfl) ?_;have hEQ:=oo q.1 p.1;obtain⟨z,hz⟩:∃z,z=decide (q.1=p.1):=⟨_,rfl⟩;rw[<-hz] at hEQ;have HZ:=qD hz;clear hz
   repeat(go_big_quiet_step (fail))
   go_big_quiet_want
   refine qE q.1 p.1 HZ.out rfl rfl rfl ?_;go_frame
   go_big_quiet_on
   refine Ln ?_;rintro _ ⟨kw,rfl⟩;replace HRW:=qD (HRW.out.step kw.below);replace HBT:=qD (HBT.out.step kw.below);generalize kw.val=w5 at*;clear X0 X1 Y0 Y1 hEQ;cases z
   ·have hne:q.1≠p.1:=by have:=HZ.out;simpa using this.symm
    go_wp2_with fail;go_roundw
    case rel=>
     refine⟨j+1,by omega,by go_num,?_,HRW.out,HBT.out⟩;have:=lB (l:=L.map Prod.fst) (i:=j) (a:=p.1) (b:=q.1) (by rw[LV,HP.out];rfl) (by rw[LV,HQ.out];rfl);rw[show j+1+1=j+2 from rfl,this,LU (fun e=>hne e.symm),HO.out,MW (i:=j+1),LV,HQ.out];rfl
    case measure=>simp[intOf];omega
   ·have heq:q.1=p.1:=by have:=HZ.out;simpa using this.symm
    have cj:j+1<c:=by have:=HC.out;omega
    have cj1:(j:Int)+1<(c:Int):=by omega
    have cj2:(c==j+1)=false:=by simp;omega
    have cj3:¬c=j+1:=by omega
    go_upto_region 9 with fail
    obtain⟨m,hm⟩:∃m,n-(j+1)=m:=⟨_,rfl⟩;obtain⟨cm,hcm⟩:∃m,c-(j+1)=m:=⟨_,rfl⟩;rw[hm,hcm];have HM:=qD hm;have HCM:=qD hcm;clear hm hcm cj cj1 cj2 cj3
    go_loopw [3,5] (fun v3 v5 wr=>∃(k t:Nat) (M:List (B2×Nat)),v3=.int .i64 (k:Int)/\v5=.int .i64 ((t+1:Nat):Int)/\Er L n j g w k t M wr) (fun _ v5 _=>n-(intOf v5).toNat)
    case atStart=>
     refine⟨j+1,0,L,rfl,rfl,HRW.out,HBT.out,HN.out.symm,by omega,by omega,by omega,?_,fun _ _=>rfl⟩;have:=lB (l:=L.map Prod.fst) (i:=j) (a:=p.1) (b:=q.1) (by rw[LV,HP.out];rfl) (by rw[LV,HQ.out];rfl);rw[LZ heq.symm] at this;rw[show j+1+0+1=j+2 from rfl,this,HO.out]
    case round=>
     obtain⟨k,t,M,rfl,rfl,hI⟩:=hrel;have HI:=qD hI;have k1:=hI.k1;have kt:=hI.kt;have tn:=hI.tn;clear hI HRW HBT;by_cases htl:j+1+t+2<=n
     ·obtain⟨p',hp'⟩:∃p,L[j+1+t]?=some p:=⟨_,LI (by have:=HN.out;omega)⟩;obtain⟨q',hq'⟩:∃q,L[j+1+t+1]?=some q:=⟨_,LI (by have:=HN.out;omega)⟩;have hpm:=(HI.out.same _ (qL)).trans hp';have hqm:=(HI.out.same (j+1+t+1) (by omega)).trans hq';have X0:∀kk:BW wr,kk.val.cell? ⟨g,(j+1)*2+t*2,none⟩=some (.string p'.1.1):=fun kk=>kk.cell (by have:=HI.out.row.cell hpm 0 _ rfl;rw[show(j+1)*2+t*2=(j+1+t)*2+0 from by omega];exact this);have X1:∀kk:BW wr,kk.val.cell? ⟨g,(j+1)*2+t*2+1,none⟩=some (.string p'.1.2):=fun kk=>kk.cell (by have:=HI.out.row.cell hpm 1 _ rfl;rw[show(j+1)*2+t*2+1=(j+1+t)*2+1 from by omega];exact this);have Y0:∀kk:BW wr,kk.val.cell? ⟨g,(j+1)*2+(t+1)*2,none⟩=some (.string q'.1.1):=fun kk=>kk.cell (by have:=HI.out.row.cell hqm 0 _ rfl;rw[show(j+1)*2+(t+1)*2=(j+1+t+1)*2+0 from by omega];exact this);have Y1:∀kk:BW wr,kk.val.cell? ⟨g,(j+1)*2+(t+1)*2+1,none⟩=some (.string q'.1.2):=fun kk=>kk.cell (by have:=HI.out.row.cell hqm 1 _ rfl;rw[show(j+1)*2+(t+1)*2+1=(j+1+t+1)*2+1 from by omega];exact this);have HP':=qD hp';have HQ':=qD hq';clear hp' hq' hpm hqm;have t0:(0:Int)<=(t:Int):=by omega
      have hm:t+1<m:=by have:=HM.out;omega
      have t1:(t:Int)<(m:Int):=by omega
      have t2:(t:Int)+1<(m:Int):=by omega
      have HTL:=qD htl;clear htl;go_upto_region 11 with fail
      refine aL (by kernel_rfl) (by kernel_rfl) ?_
      repeat(go_big_quiet_step (fail))
      go_big_quiet_want
      obtain⟨z,hz⟩:∃z,z=!decide (q'.1=p'.1):=⟨_,rfl⟩;refine zD q'.1 p'.1 hz rfl rfl rfl ?_;go_frame;have HZ:=qD hz;clear hz
      go_big_quiet_on
      refine Ln ?_;rintro _ ⟨kw,rfl⟩;replace HI:=qD (HI.out.step kw.below);generalize kw.val=w6 at*;clear X0 X1 Y0 Y1;cases z
      ·have heq':p'.1=q'.1:=by
        have h:=HZ.out;by_cases e:q'.1=p'.1
        ·exact e.symm
        ·rw[LW e] at h;simp at h
       go_wp2_with fail;go_roundw
       ·exact⟨k,t+1,M,rfl,by go_num,HI.out.skip HP'.out HQ'.out HTL.out heq'⟩
       ·simp[intOf];omega
      ·have hne':p'.1≠q'.1:=by have:=HZ.out;intro e;rw[e] at this;simp at this
       have hqm:=(HI.out.same (j+1+t+1) (by omega)).trans HQ'.out;have y0:w6.cell? ⟨g,(j+1)*2+(t+1)*2,none⟩=some (.string q'.1.1):=by have:=HI.out.row.cell hqm 0 _ rfl;rw[show(j+1)*2+(t+1)*2=(j+1+t+1)*2+0 from by omega];exact this
       have y1:w6.cell? ⟨g,(j+1)*2+(t+1)*2+1,none⟩=some (.string q'.1.2):=by have:=HI.out.row.cell hqm 1 _ rfl;rw[show(j+1)*2+(t+1)*2+1=(j+1+t+1)*2+1 from by omega];exact this
       have z0:=HI.out.row.frozen;obtain⟨r,hr⟩:∃p,M[k]?=some p:=⟨_,LI (by have:=HI.out.ln;have:=HI.out.kt;omega)⟩;have s0:w6.cell? ⟨g,k*2,none⟩=some (.string r.1.1):=HI.out.row.cell hr 0 _ rfl;have s1:w6.cell? ⟨g,k*2+1,none⟩=some (.string r.1.2):=HI.out.row.cell hr 1 _ rfl;have kn:k<n:=by have:=HI.out.kt;omega
       have kn1:(k:Int)<(n:Int):=by omega
       clear hqm hr;go_wp2_with fail;go_roundw
       ·exact⟨k+1,t+1,M.set k q',by go_num,by go_num,HI.out.put HP'.out HQ'.out HTL.out hne'⟩
       ·simp[intOf];omega
     ·have hm:m=t+1:=by have:=HM.out;omega
      have hmi:¬((t:Int)+1<(m:Int)):=by omega
      have kn:k<n:=by have:=HI.out.kt;omega
      have kn1:(k:Int)<(n:Int):=by omega
      have kc:k<c:=by have:=HC.out;omega
      have kc1:(k:Int)<(c:Int):=by omega
      have kc2:¬c=k:=by omega
      have hfin:Hid ((M.map Prod.fst).take k=eZ (L.map Prod.fst)):=by
       have:=HI.out.eq;rw[LS (l:=L.map Prod.fst) (by rw[Lb];have:=HN.out;omega)] at this;exact qD this
      obtain⟨zs,hzs⟩:∃zs,(Builtin.zeroCells (Value.cells (.agg #[.string empty,.string empty])) (n-k)).toList=zs:=⟨_,rfl⟩;have hzl:zs.length=(n-k)*2:=by rw[<-hzs];simp[Builtin.zeroCells,Value.cells]
      have hz1:∀v∈zs,v.oneCell'=true:=by
       rw[<-hzs];intro v hv;obtain⟨i,hi,rfl⟩:=Pb hv;have hd:i%2=0\/i%2=1:=by omega
       simp only[Builtin.zeroCells,Value.cells];rcases hd with hd|hd<;>simp[hd,Value.oneCell']
      have hcl:∀ty,(Builtin.clear_ #[47] ty #[.slice (some ⟨g,k*2,none⟩) (n-k) (c-k)]).run prog wr=.ok (.tuple #[]) (wr.setCells g (k*2) zs):=fun ty=>
       wS wr _ _ ty _ zs (n-k) MJ CJ hzs hz1 g _ _ (fun i hi=>by
        obtain⟨e,he⟩:∃e,M[k+i/2]?=some e:=⟨_,LI (by have:=HI.out.ln;omega)⟩
        have hd:i%2=0\/i%2=1:=by omega
        rcases hd with hd|hd
        ·have:=HI.out.row.cell he 0 _ rfl
         rw[show k*2+i=(k+i/2)*2+0 from by omega,this];rfl
        ·have:=HI.out.row.cell he 1 _ rfl
         rw[show k*2+i=(k+i/2)*2+1 from by omega,this];rfl) (fun i _=>HI.out.row.frozen _)
      go_wp2_with fail;go_ret;refine⟨k,c,rfl,⟨?_,Nat.le_of_lt kc,fun _=>⟨g,0,rfl,?_,fun i a hi q hq=>?_⟩⟩,HI.out.but.setCells _ _⟩
      ·rw[<-hfin.out,Lx,Lb,HI.out.ln];omega
      ·exact Mv HI.out.row.lt (by rw[show(wr.setCells g (k*2) zs).heap.size=wr.heap.size from kW _ _ _ _];exact qL)
      ·intro hv;rw[<-hfin.out] at hi;have hik:i<k:=by have:=(LJ.1 hi).1;rw[Lx] at this;omega
       rw[Nx hik,LV] at hi;obtain⟨e,he,rfl⟩:=Mn.1 hi;have hq2:q<2:=by have:=(LJ.1 hv).1;simpa[aY] using this
       rw[LL,World.cell?_setCells_out g zs (k*2) wr ⟨g,i*2+q,none⟩ (fun _ _=>.inl (by show i*2+q<k*2;omega))];exact HI.out.row.cell he q _ hv
  ·obtain rfl:n=j+1:=by omega
   have HO2:Hid (eZ (L.map Prod.fst)=L.map Prod.fst):=by
    have:=HO.out;rw[LS (by rw[Lb];have:=HN.out;omega)] at this;exact this
   go_wp2_with fail;go_ret;exact⟨j+1,c,rfl,by rw[HO2.out];exact HRW.out.reads HN.out HC.out,HBT.out⟩
theorem sO{xs:List B2}{i:Nat}{a:B2}{v:ByteArray}(h:xs[i]?=some a):(aJ aY xs).set (i*2+1) (.string v)=aJ aY (xs.set i (a.1,v)):=by
 induction xs generalizing i with
 | nil=>simp at h
 | cons b l ih=>
  have e:∀(y:B2) (t:List B2),aJ aY (y::t)=aY y++aJ aY t:=fun _ _=>rfl;cases i with
  | zero=>
   simp at h;subst h;rfl
  | succ i=>
   have:=ih (i:=i) (by simpa using h);rw[List.set_cons_succ,e,e,<-this,Nb _ _ (by rw[aw];omega),aw,show(i+1)*2+1-2=i*2+1 by omega]
theorem qF{w:World}{base:Nat}{e:TypeId}{size n c g:Nat}{xs:List Value}(h:w.ownsRow base e size (.slice (some ⟨g,0,none⟩) n c) n xs)(k:Nat)(u:Value):
 (w.setCell ⟨g,k,none⟩ u).ownsRow base e size (.slice (some ⟨g,0,none⟩) n c) n (xs.set k u):=by
 refine⟨by rw[NK];exact h.1,?_⟩;rcases h.2 with⟨h1,_⟩|⟨g',cap,cur,hv,hg,hh,hnc,hm,hsz,htk⟩
 ·cases h1
 ·injection hv with h1 h2 h3
  injection h1 with h1
  injection h1 with h1
  subst h1 h3;have hb:aE w g e cur:=hh;refine .inr ⟨g,c,cur.setIfInBounds k u,rfl,hg,hb.Js k u,hnc,hm,by simpa using hsz,?_⟩;rw[Array.toList_setIfInBounds,List.take_set,htk]
theorem iA{w:World}{base:Nat}{e:TypeId}{size n c g:Nat}{xs:List Value}(h:w.ownsRow base e size (.slice (some ⟨g,0,none⟩) n c) n xs){k:Nat}{u:Value}(hk:xs[k]?=some u):w.cell? ⟨g,k,none⟩=some u/\w.frozen? ⟨g,k,none⟩=false:=by
 have:=h.cells (g:=g) rfl k u hk;rw[bn,LL] at this;refine⟨this,?_⟩;rcases h.2 with⟨h1,_⟩|⟨g',cap,cur,hv,hg,hh,_⟩
 ·cases h1
 ·injection hv with h1
  injection h1 with h1
  injection h1 with h1
  subst h1;exact aE.frozen (t:=e) (cs:=cur) hh k
theorem qG{w:World}{base:Nat}{e:TypeId}{size n:Nat}{v:Value}{xs:List Value}(h:w.ownsRow base e size v n xs)(h0:0<n):∃g c,v=.slice (some ⟨g,0,none⟩) n c/\base<=g/\g<w.heap.size:=by
 rcases h.2 with⟨_,h1⟩|⟨g,cap,cur,hv,hg,hh,_⟩
 ·omega
 ·exact⟨g,cap,hv,hg,aE.lt (t:=e) (cs:=cur) hh⟩
structure zE(w2:World)(Q:List B2)(i l:Nat)(v:Value)(wr:World):Prop where
 own:wr.ownsRow w2.heap.size 49 2 v l (aJ aY (dm empty (Q.take i)))
 bel:Below w2.heap.size w2 wr
 ln:(dm empty (Q.take i)).length=l
theorem zE.step{w2:World}{Q:List B2}{i l:Nat}{v:Value}{wr w':World}(h:zE w2 Q i l v wr)(hb:Below wr.heap.size wr w'):zE w2 Q i l v w':=⟨aV h.own hb,h.bel.Jp hb,h.ln⟩
theorem zE.alloc{w2:World}{Q:List B2}{i l:Nat}{v:Value}{wr:World}(h:zE w2 Q i l v wr)(o:Obj):zE w2 Q i l v (wr.alloc o):=⟨h.own.alloc _,h.bel.alloc h.bel.size o,h.ln⟩
theorem zE.last{w2:World}{Q:List B2}{i l g c:Nat}{wr:World}(h:zE w2 Q i (l+1) (.slice (some ⟨g,0,none⟩) (l+1) c) wr):∃q:B2,(dm empty (Q.take i))[l]?=some q/\wr.cell? ⟨g,l*2+1,none⟩=some (.string q.2)/\wr.frozen? ⟨g,l*2+1,none⟩=false:=by
 obtain⟨q,hq⟩:∃q,(dm empty (Q.take i))[l]?=some q:=⟨_,LI (by have:=h.ln;omega)⟩;obtain⟨h1,h2⟩:=iA h.own (bg aw hq (j:=1) (v:=.string q.2) rfl);exact⟨q,hq,h1,h2⟩
theorem iT(b:ByteArray):b.toList=[]↔b=empty:=by
 rw[MD];constructor
 ·intro h;exact Mw (Mq.1 h)
 ·rintro rfl;rfl
theorem lC(a b:ByteArray):a.toList=b.toList↔a=b:=by
 rw[MD,MD];constructor
 ·intro h;exact Mw (Mq.1 h)
 ·rintro rfl;rfl
def Hl(xs:List B2)(base:Nat)(w:World)(e:Ending)(w':World):Prop:=
 ∃A m c Z,e=.returned (.slice A m c)/\jd xs Z/\SR 2 aY w' A m c (dm empty (eZ Z))/\m<=xs.length/\Below base w w'
theorem oH(xs:List B2)(base n:Nat)(v:Value)(w:World)(h:w.ownsRow base 49 2 v n (aJ aY xs))(hn:xs.length=n)(hb:base<=w.heap.size)(hz:n<=4000000000):
 Calls prog 39 #[v] w (Hl xs base w):=by
 obtain⟨j0,hj0,hy0,hy1,hy2⟩:=Mc fq;have HN:=qD hn;have HZ:=qD hz;have HBS:=qD hb
 have sorted:Hid (Calls prog 103 #[v,.func (.func 104) #[] #[]] w fun e w'=>e=.returned (.tuple #[])/\∃S,aR bL (bd 0 xs) S/\Below base w w'/\(v=.slice none 0 0/\S=[]\/∃g c,v=.slice (some ⟨g,0,none⟩) n c/\base<=g/\cG w' g S/\n<=c)):=by
  rcases h.2 with⟨h',h0⟩|⟨g,cap,cur,h',hg,_,hnc,_⟩
  ·subst h';have hx:xs=[]:=LO (by omega);refine qD ((By w).mono ?_);rintro e w' ⟨rfl,rfl⟩;exact⟨rfl,[],by rw[hx];exact⟨.nil,.nil⟩,(LH _ _).mono hb,.inl ⟨rfl,rfl⟩⟩
  ·subst h';refine qD ((Bz (bd 0 xs) g n cap w (cG.Jt h) (by rw[fh];exact hn.symm) (by unfold aF;omega) (kd _ _) (fun x y _ _ wr _=>EM x.1 y.1 wr)).mono ?_);rintro e w' ⟨rfl,S,hS,hI⟩;simp only[MC,Lm] at hI;exact⟨rfl,S,hS,hI.but.below hb hg,.inr ⟨g,cap,rfl,hg,hI.row,hnc⟩⟩
 clear h hn hb hz;go_enter func39,ntmps39;go_wp2_with fail;refine sorted.out.mono ?_;rintro e w1 ⟨rfl,S,hS,hb1,hv⟩;have HS:=qD (jd.of hS);have HSL:Hid (S.length=n):=by rw[Hid,hS.perm.length_eq,fh];exact HN.out
 have HB1:=qD hb1
 have comp:Hid (Calls prog 107 #[v] w1 fun e w'=>∃A m c,e=.returned (.slice A m c)/\SR 2 aY w' A m c (eZ (S.map Prod.fst))/\Below base w w'):=by
  rcases hv with⟨h',rfl⟩|⟨g,c,h',hg,hrow,hnc⟩
  ·subst h';refine qD ((CI w1).mono ?_);rintro e w' ⟨rfl,rfl⟩;exact⟨none,0,0,rfl,SR.nil,hb1⟩
  ·subst h';refine qD ((CK S g n c w1 hrow HSL.out.symm hnc (by have:=HZ.out;unfold aF;omega)).mono ?_);rintro e w' ⟨m,c',rfl,hsr,hbt⟩;exact⟨_,m,c',rfl,hsr,hb1.trans (hbt.below (Lt HBS.out hb1.size) hg)⟩
 clear sorted hS hb1 hv;go_wp2_with fail;refine comp.out.mono ?_;rintro e w2 ⟨A,m,c,rfl,hsr,hb2⟩;obtain⟨Q,hQ⟩:∃Q,Q=eZ (S.map Prod.fst):=⟨_,rfl⟩;rw[<-hQ] at hsr;have HSR:=qD hsr;have HB2:=qD hb2;have HQ:=qD hQ;have HQL:Hid (Q.length=m):=qD hsr.ln.symm
 have HMN:Hid (m<=n):=by
  have:=EP (S.map Prod.fst);rw[<-hQ,Lb,HSL.out,HQL.out] at this;exact qD this
 have mz:m<=4000000000:=Lt HMN.out HZ.out;clear comp hsr hb2 hQ;go_upto_region 4 with fail
 go_loopw [3,5,6,12] (fun v3 _ _ v12 wr=>∃(i l:Nat),i<=m/\v12=.int .i64 i/\zE w2 Q i l v3 wr) (fun _ _ _ v12 _=>m-(intOf v12).toNat)
 ·exact⟨0,0,LQ _,rfl,bC _ _ _ _,LH _ _,rfl⟩
 case round=>
  obtain⟨i,l,hi,rfl,hI⟩:=hrel;have HI:=qD hI;obtain⟨A3,c3,rfl,hlc⟩:=aa hI.own;have HLM:Hid (l<=i):=by have:=vl empty Q i;rw[hI.ln] at this;exact qD this
  clear hI;by_cases hlt:i<m
  ·obtain⟨b,off,r,rfl,hb,hr,_,hrg⟩:=HSR.out.row hlt;have HR:=qD hr;have e0:=(HI.out.bel.cell (p:=⟨b,off+i*2,none⟩) hb).trans (hrg 0 _ rfl);have e1:=(HI.out.bel.cell (p:=⟨b,off+i*2+1,none⟩) hb).trans (hrg 1 _ rfl);have i0:(0:Int)<=(i:Int):=by omega
   have i1:(i:Int)<(m:Int):=by omega
   have lz:l<=4000000000:=by have:=HLM.out;omega
   clear hr hrg;go_upto_region 6 with fail
   change Code.wp _ _ _ _ (wr.alloc (.cells #[.string r.1,.string r.2] 49));have JB:Hid (aE (wr.alloc (.cells #[.string r.1,.string r.2] 49)) wr.heap.size 49 #[.string r.1,.string r.2]):=aE.Jq rfl;replace HI:=qD (HI.out.alloc (.cells #[.string r.1,.string r.2] 49));generalize wr.alloc (.cells #[.string r.1,.string r.2] 49)=wa at*;generalize wr.heap.size=ga at*;clear e0 e1;rcases MH l with rfl|hl0
   ·have R0:∀kk:BW wa,kk.val.cell? ⟨ga,0,none⟩=some (.string r.1):=fun kk=>kk.cell ((JB.out.cell 0).trans rfl);go_upto_region 7 with fail
    refine aL (by kernel_rfl) (by kernel_rfl) ?_
    repeat(go_big_quiet_step (fail))
    refine Ln ?_;rintro _ ⟨kw,rfl⟩;clear R0;replace JB:=qD (JB.out.step kw.below);replace HI:=qD (HI.out.step kw.below);generalize kw.val=w5 at*;have k0:=JB.out.cell 0;have k1:=JB.out.cell 1;simp at k0 k1;go_wp2_with (at_builtin;refine aD _ rfl _ _ 47 rfl w2.heap.size 49 j0 (.agg #[.string empty,.string empty]) 2 32 MJ hj0 hy0 hy1 hy2 rfl (by decide) (.slice A3 0 c3) 0 (aJ aY (dm empty (Q.take i))) rfl (HI.out.own.alloc _) _ _ 1 _ (aY r) rfl ⟨rfl,fun _=>⟨_,rfl,Lo _,ap _ _ _⟩⟩ (dR _) (by unfold maxLen;omega) (by omega) (af HI.out.bel.size _) ?_);intro v' w6 hown hgr hat
    have HX:Hid (zE w2 Q (i+1) (0+1) v' w6):=by
     have e:dm empty (Q.take (i+1))=dm empty (Q.take i)++[r]:=by
      rw[ef HR.out]
      exact jN (fun qq hq=>by
       have h0:=HI.out.ln
       have h1:=(LJ.1 hq).1
       omega)
     refine⟨?_,(HI.out.bel.alloc HI.out.bel.size _).grown hgr (af HI.out.bel.size _) (bU HI.out.own),?_⟩
     ·rw[e,bN];exact hown
     ·rw[e,LM,HI.out.ln];rfl
    clear hown hgr hat k0 k1;go_wp2_with fail;go_roundw
    ·exact⟨i+1,0+1,by omega,by go_num,HX.out⟩
    ·simp[intOf];omega
   ·obtain⟨l',rfl⟩:∃l',l=l'+1:=⟨l-1,by omega⟩;obtain⟨g,c4,hA3,hg,hgl⟩:=qG HI.out.own (by omega);injection hA3 with hA3 _ hc34
    subst hA3 hc34;obtain⟨q,hq,hqc,hqf⟩:=HI.out.last;have HQQ:=qD hq;have R0:∀kk:BW wa,kk.val.cell? ⟨ga,0,none⟩=some (.string r.1):=fun kk=>kk.cell ((JB.out.cell 0).trans rfl);have X0:∀kk:BW wa,kk.val.cell? ⟨g,l'*2+1,none⟩=some (.string q.2):=fun kk=>kk.cell hqc;have l0:(0:Int)<=(l':Int):=by omega
    have l1:(l':Int)<(l':Int)+1:=by omega
    have l2:(0:Int)<(l':Int)+1:=by omega
    clear hq hqc hqf hl0;go_upto_region 7 with fail
    cases hc1:(!q.2.toList.isEmpty)
    all_goals simp only[Pt,Bool.not_eq_false'] at hc1
    ·refine aL (by kernel_rfl) (by kernel_rfl) ?_
     repeat(go_big_quiet_step (fail))
     refine Ln ?_;rintro _ ⟨kw,rfl⟩;clear R0 X0;replace JB:=qD (JB.out.step kw.below);replace HI:=qD (HI.out.step kw.below);generalize kw.val=w5 at*;have k0:=JB.out.cell 0;have k1:=JB.out.cell 1;simp at k0 k1;go_wp2_with (at_builtin;refine aD _ rfl _ _ 47 rfl w2.heap.size 49 j0 (.agg #[.string empty,.string empty]) 2 32 MJ hj0 hy0 hy1 hy2 rfl (by decide) (.slice (some ⟨g,0,none⟩) (l'+1) c3) (l'+1) (aJ aY (dm empty (Q.take i))) rfl (HI.out.own.alloc _) _ _ 1 _ (aY r) rfl ⟨rfl,fun _=>⟨_,rfl,Lo _,ap _ _ _⟩⟩ (dR _) (by unfold maxLen;omega) (by omega) (af HI.out.bel.size _) ?_);intro v' w6 hown hgr hat
     have HX:Hid (zE w2 Q (i+1) ((l'+1)+1) v' w6):=by
      have e:dm empty (Q.take (i+1))=dm empty (Q.take i)++[r]:=by
       rw[ef HR.out]
       exact jN (fun qq hq=>by
        have h0:=HI.out.ln
        have h1:(dm empty (Q.take i))[l']?=some q:=HQQ.out
        rw[h0,Oh,h1] at hq
        obtain rfl:=Mk hq
        rintro⟨h2,_⟩
        exact h2 ((iT _).1 (Nq.1 hc1)))
      refine⟨?_,(HI.out.bel.alloc HI.out.bel.size _).grown hgr (af HI.out.bel.size _) (bU HI.out.own),?_⟩
      ·rw[e,bN];exact hown
      ·rw[e,LM,HI.out.ln];rfl
     clear hown hgr hat k0 k1;go_wp2_with fail;go_roundw
     ·exact⟨i+1,(l'+1)+1,by omega,by go_num,HX.out⟩
     ·simp[intOf];omega
    ·cases hc2:(q.2.toList==r.1.toList)
     ·refine aL (by kernel_rfl) (by kernel_rfl) ?_
      repeat(go_big_quiet_step (fail))
      refine Ln ?_;rintro _ ⟨kw,rfl⟩;clear R0 X0;replace JB:=qD (JB.out.step kw.below);replace HI:=qD (HI.out.step kw.below);generalize kw.val=w5 at*;have k0:=JB.out.cell 0;have k1:=JB.out.cell 1;simp at k0 k1;go_wp2_with (at_builtin;refine aD _ rfl _ _ 47 rfl w2.heap.size 49 j0 (.agg #[.string empty,.string empty]) 2 32 MJ hj0 hy0 hy1 hy2 rfl (by decide) (.slice (some ⟨g,0,none⟩) (l'+1) c3) (l'+1) (aJ aY (dm empty (Q.take i))) rfl (HI.out.own.alloc _) _ _ 1 _ (aY r) rfl ⟨rfl,fun _=>⟨_,rfl,Lo _,ap _ _ _⟩⟩ (dR _) (by unfold maxLen;omega) (by omega) (af HI.out.bel.size _) ?_);intro v' w6 hown hgr hat
      have HX:Hid (zE w2 Q (i+1) ((l'+1)+1) v' w6):=by
       have e:dm empty (Q.take (i+1))=dm empty (Q.take i)++[r]:=by
        rw[ef HR.out]
        exact jN (fun qq hq=>by
         have h0:=HI.out.ln
         have h1:(dm empty (Q.take i))[l']?=some q:=HQQ.out
         rw[h0,Oh,h1] at hq
         obtain rfl:=Mk hq
         rintro⟨_,h2⟩
         rw[h2] at hc2
         simp at hc2)
       refine⟨?_,(HI.out.bel.alloc HI.out.bel.size _).grown hgr (af HI.out.bel.size _) (bU HI.out.own),?_⟩
       ·rw[e,bN];exact hown
       ·rw[e,LM,HI.out.ln];rfl
      clear hown hgr hat k0 k1;go_wp2_with fail;go_roundw
      ·exact⟨i+1,(l'+1)+1,by omega,by go_num,HX.out⟩
      ·simp[intOf];omega
     ·refine aL (by kernel_rfl) (by kernel_rfl) ?_
      repeat(go_big_quiet_step (fail))
      refine Ln ?_;rintro _ ⟨kw,rfl⟩;clear R0 X0;replace JB:=qD (JB.out.step kw.below);replace HI:=qD (HI.out.step kw.below);generalize kw.val=w5 at*;have k1:=JB.out.cell 1;simp at k1;obtain⟨q',hq',hqc,hqf⟩:=HI.out.last;obtain rfl:q=q':=by have:=HQQ.out.symm.trans hq';simpa using this
      clear hq';have H1:=qD hc1;have H2:=qD hc2;go_upto_region 8 with fail
      go_region
      all_goals
       go_wp2_with fail;go_roundw
       case rel=>
        refine⟨i+1,l'+1,by omega,by go_num,?_,?_,?_⟩
        ·have e:dm empty (Q.take (i+1))=(dm empty (Q.take i)).set l' (q.1,r.2):=by
          rw[ef HR.out];refine nQ HI.out.ln HQQ.out ?_ ((lC _ _).1 (by simpa using H2.out));intro e;have:=H1.out;rw[e] at this;exact absurd (Nq.2 ((iT _).2 rfl)) (by rw[this];decide)
         rw[e,<-sO HQQ.out];exact qF HI.out.own _ _
        ·exact(MR (p:=⟨g,l'*2+1,none⟩) HI.out.bel hg _).drew
        ·rw[ef HR.out,nQ HI.out.ln HQQ.out (by
          intro e
          have:=H1.out
          rw[e] at this
          exact absurd (Nq.2 ((iT _).2 rfl)) (by rw[this];decide)) ((lC _ _).1 (by simpa using H2.out)),NK]
         exact HI.out.ln
       case measure=>simp[intOf];omega
  ·obtain rfl:i=m:=by omega
   have hq:Q.take i=Q:=LS (by have:=HQL.out;omega)
   have HF:Hid (SR 2 aY wr A3 l c3 (dm empty Q)):=by
    obtain⟨A',c',he,hs⟩:=SR.Jt aw HI.out.own HI.out.ln;injection he with h1 h2 h3
    subst h1 h3;rw[hq] at hs;exact qD hs
   go_wp2_with fail;go_ret;refine⟨A3,l,c3,S.map Prod.fst,rfl,HS.out,?_,?_,?_⟩
   ·rw[<-HQ.out];exact HF.out
   ·have:=HLM.out;have:=HMN.out;have:=HN.out;omega
   ·exact HB2.out.trans (HI.out.bel.mono (Lt HBS.out HB2.out.size))
end Go.Proofs.YthfahkaadbdicaaGreatDoor
