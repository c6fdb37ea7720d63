/- A part of the proof. -/
import Derived.Test.YtgfoliedmhgpnaaGreatDoorCn13
set_option maxRecDepth 100000
set_option maxHeartbeats 16000000
open Go.Proofs.Tryz
open ByteArray (empty)
namespace Go.Proofs.YtgfoliedmhgpnaaGreatDoor
open Go.RowKit
section
variable {k n g o i base ln dn lc size dc:Nat} {w w':World} {e t:TypeId} {a x d:Int} {l:List ByteArray} {v v':Value} {s:ByteArray} {LA DA:Option Addr}
theorem Hb(hb:Bl w w'){a:Addr}(h:w.cell? a=some v):w'.cell? a=some v:=(hb.cell (Oj w a h)).trans h
theorem Au{a:Nat}(h:a<=w.heap.size)(o:Obj):a<=(w.alloc o).heap.size:=by simp;omega
theorem Kp{row:Option Nat}{u:VC}(hg:w.grownBy w' row)(hne:row≠some g)(h:w.cell? ⟨g,0,none⟩=some (.int .i64 u.k)/\w.cell? ⟨g,1,none⟩=some (.int .i64 u.n)/\w.cell? ⟨g,2,none⟩=some (.string u.t)/\w.cell? ⟨g,3,none⟩=some (.slice u.LA u.ln u.lc)/\w.cell? ⟨g,4,none⟩=some (.slice u.DA u.dn u.dc)):w'.cell? ⟨g,0,none⟩=some (.int .i64 u.k)/\w'.cell? ⟨g,1,none⟩=some (.int .i64 u.n)/\w'.cell? ⟨g,2,none⟩=some (.string u.t)/\w'.cell? ⟨g,3,none⟩=some (.slice u.LA u.ln u.lc)/\w'.cell? ⟨g,4,none⟩=some (.slice u.DA u.dn u.dc):=by
 obtain⟨h0,h1,h2,h3,h4⟩:=h;have hb:=Oj w _ h0;have e:∀i,w'.cell? ⟨g,i,none⟩=w.cell? ⟨g,i,none⟩:=fun i=>PE (w:=w) (a:=⟨g,i,none⟩) (hg.block g hb (fun e=>hne e.symm));exact⟨(e 0).trans h0,(e 1).trans h1,(e 2).trans h2,(e 3).trans h3,(e 4).trans h4⟩
theorem Kq{row:Option Nat}{u:VC}(hg:w.grownBy w' row)(hne:row≠some g)(h:w.cell? ⟨g,1,none⟩=some (.int .i64 u.k)/\w.cell? ⟨g,2,none⟩=some (.int .i64 u.n)/\w.cell? ⟨g,3,none⟩=some (.string u.t)/\w.cell? ⟨g,4,none⟩=some (.slice u.LA u.ln u.lc)/\w.cell? ⟨g,5,none⟩=some (.slice u.DA u.dn u.dc)):
 w'.cell? ⟨g,1,none⟩=some (.int .i64 u.k)/\w'.cell? ⟨g,2,none⟩=some (.int .i64 u.n)/\w'.cell? ⟨g,3,none⟩=some (.string u.t)/\w'.cell? ⟨g,4,none⟩=some (.slice u.LA u.ln u.lc)/\w'.cell? ⟨g,5,none⟩=some (.slice u.DA u.dn u.dc):=by
 obtain⟨h0,h1,h2,h3,h4⟩:=h;have hb:=Oj w _ h0;have e:∀i,w'.cell? ⟨g,i,none⟩=w.cell? ⟨g,i,none⟩:=fun i=>PE (w:=w) (a:=⟨g,i,none⟩) (hg.block g hb (fun e=>hne e.symm));exact⟨(e 1).trans h0,(e 2).trans h1,(e 3).trans h2,(e 4).trans h3,(e 5).trans h4⟩
theorem uR(h:v.ownBlock≠some g)(hk:g<k)(hat:v'.ownBlock=v.ownBlock\/v'.ownBlock=some k):v'.ownBlock≠some g:=by
 rcases hat with e|e
 ·rw[e];exact h
 ·rw[e];intro e';injection e' with e';omega
theorem nv(l:List aC)(i:Nat):(eP (l.take i)).length<=(eP l).length:=by
 conv=>rhs;rw[<-Oh i l,lX,OK]
 omega
theorem nw(l:List bf)(i:Nat):(eJ (l.take i)).length<=(eJ l).length:=by
 conv=>rhs;rw[<-Oh i l,lY,OK]
 omega
theorem Hm(n:Int):bits .xor .u64 (IntKind.u64.wrap n) 9223372036854775808=((IA n:Nat):Int):=by
 rw[IntKind.wrap_u64];have ha:(n%18446744073709551616).toNat<18446744073709551616:=oM
 have e1:(BitVec.ofInt 64 (n%18446744073709551616)).toNat=(n%18446744073709551616).toNat:=by
  rw[BitVec.toNat_ofInt];omega
 have e2:(BitVec.ofInt 64 (9223372036854775808:Int)).toNat=9223372036854775808:=by decide
 show IntKind.u64.wrap ((BitVec.ofInt 64 (n%18446744073709551616) ^^^ BitVec.ofInt 64 (9223372036854775808:Int)).toNat:Int)=_;rw[BitVec.toNat_xor,e1,e2,Hk _ ha,IntKind.wrap_u64];unfold IA;omega
theorem CI(a s:Nat):(a:Int)/2^s=((a/2^s:Nat):Int):=by push_cast;rfl
theorem ER(n:Int)(s:Nat):((IA n/2^s:Nat):Int)%256=sX n s:=by unfold sX;omega
theorem ES{k n:Int}{t:ByteArray}{l:List aC}{d:List bf}(h:k=3\/k=9\/k=10):bR (.mk k n t l d)=k::nums n:=by rw[dG];exact congrArg _ (OW h)
theorem CJ{k n:Int}{t:ByteArray}{l:List aC}{d:List bf}(h:k=4\/k=7\/k=8):bR (.mk k n t l d)=k::(cX t.data.toList++[0,0]):=by
 have h1:¬(k=3\/k=9\/k=10):=oM
 rw[dG];exact congrArg _ ((OQ h1).trans (OW h))
theorem CK{k n:Int}{t:ByteArray}{l:List aC}{d:List bf}(h:k=6):bR (.mk k n t l d)=k::(eP l++[0]):=by
 have h1:¬(k=3\/k=9\/k=10):=oM
 have h2:¬(k=4\/k=7\/k=8):=oM
 rw[dG];exact congrArg _ ((OQ h1).trans ((OQ h2).trans (OW h)))
theorem ET{k n:Int}{t:ByteArray}{l:List aC}{d:List bf}(h:k=5):bR (.mk k n t l d)=k::(eJ d++[0]):=by
 have h1:¬(k=3\/k=9\/k=10):=oM
 have h2:¬(k=4\/k=7\/k=8):=oM
 have h3:¬k=6:=oM
 rw[dG];exact congrArg _ ((OQ h1).trans ((OQ h2).trans ((OQ h3).trans (OW h))))
theorem CM{k n:Int}{t:ByteArray}{l:List aC}{d:List bf}(h1:¬(k=3\/k=9\/k=10))(h2:¬(k=4\/k=7\/k=8))(h3:k≠6)(h4:k≠5):bR (.mk k n t l d)=[k]:=by
 rw[dG];exact congrArg _ ((OQ h1).trans ((OQ h2).trans ((OQ h3).trans (OQ h4))))
theorem jB.eq{L L':List Int}{e:Ending}(h:L'=L)(hf:jB base v L w e w'):jB base v L' w e w':=by rw[h];exact hf
theorem jB.grown{L:List Int}{e:Ending}(h:jB base v L w e w'):w.grownBy w' v.ownBlock:=by obtain⟨_,_,_,hg,_⟩:=h;exact hg
def Kr(x:aC):Prop:=∀(c:VC) (v0:Value) (L:List Int) (base m:Nat) (w:World),RV (fun b=>b<base) w c x->po x->base<=w.heap.size->m=L.length->w.ownsRow base 5 1 v0 m (ah L)->L.length+(bR x).length<=100000000->
 Calls prog 98 #[v0,c.val] w (jB base v0 (L++bR x) w)
theorem Hn(x:aC):Kr x:=by
 induction x using aC.ind with
 | h k n t l d ihl ihd=>
  intro c v0 L base n0 w h he hba hln hown htot;obtain⟨ck,cn,ct,LA,ln,lc,DA,dn,dc⟩:=c;have ho:=h.open;obtain rfl:ck=k:=ho.k;obtain rfl:cn=n:=ho.n;obtain rfl:ct=t:=ho.t;obtain⟨A0,c0,hv0,hlc0⟩:=aY hown;subst hv0;have hkind:=he.kind;simp only[aC.k] at hkind;have htx:=he.text;simp only[aC.t] at htx;obtain⟨T,hT⟩:∃T,bR (.mk ck cn ct l d)=ck::T:=⟨_,dG _⟩;rw[hT] at htot ⊢;rw[OZ] at htot;have HE:=qD hT;have hn0:n0<=100000000:=oM
  have HO:=qD ho;have HEN:=qD he;have HTO:=qD htot;have HLN:=qD hln;clear h he ho hT;obtain⟨i0,hi0,hy0,hy1,hy2⟩:=Pb Hl;have I0:Hid (nC w ⟨ck,cn,ct,LA,ln,lc,DA,dn,dc⟩ base (.slice A0 n0 c0) (.slice A0 n0 c0) n0 L (w.alloc (.cells #[.int .i64 ck,.int .i64 cn,.string ct,.slice LA ln lc,.slice DA dn dc] 29))):=nC.start (c:=⟨ck,cn,ct,LA,ln,lc,DA,dn,dc⟩) hba hln hown;clear hown hln htot;go_enter func98,ntmps98;go_upto_region 1 with fail
  change (Code.region 1 _ _).wp _ _ _ (w.alloc (.cells #[.int .i64 ck,.int .i64 cn,.string ct,.slice LA ln lc,.slice DA dn dc] 29));obtain⟨w0,hw0⟩:∃w0,w.alloc (.cells #[.int .i64 ck,.int .i64 cn,.string ct,.slice LA ln lc,.slice DA dn dc] 29)=w0:=⟨_,rfl⟩;rw[hw0] at I0 ⊢;clear hw0;have hk8:ck%256=ck:=oM
  obtain⟨b0,b1,b2,b3,b4⟩:=aO.Mp I0.out.b0;have OW0:Hid ((w0.alloc (.cells #[.int .u8 ck] 5)).ownsRow base 5 1 (.slice A0 n0 c0) n0 (ah (L))):=af I0.out.own ((OG _ _).alloc (qL) _);have HR0:=qD (kN w0 ck);have HM0:Hid (n0+1<=maxLen):=by unfold Hid maxLen;omega
  have HT0:Hid ((n0+1)*1<=140737488355328):=by unfold Hid;omega
  have HB0:Hid (base<=(w0.alloc (.cells #[.int .u8 ck] 5)).heap.size):=by have h1:=I0.out.ba;have h2:=I0.out.sz;simp[Hid];omega
  go_wp2_with (at_builtin;(refine aE _ rfl _ _ 133 rfl base 5 i0 (.int .u8 0) 1 1 Pd hi0 hy0 hy1 hy2 rfl dE (.slice A0 n0 c0) n0 (ah (L)) rfl OW0.out (w0.heap.size+1) (some ⟨w0.heap.size,0,none⟩) 1 1 (ah [ck]) rfl HR0.out (dk _) HM0.out HT0.out HB0.out ?_));intro v1 w1 ho hg hat;obtain⟨n1,hn1⟩:∃n,n=n0+1:=⟨_,rfl⟩;have I1:=qD (I0.out.app (xs:=[ck]) rfl hn1 ho hg (by simpa using hat));obtain⟨L1,hL1⟩:∃L',L'=L++[ck]:=⟨_,rfl⟩;rw[<-hL1] at I1;have HL1:=qD hL1;have HNE1:=qD hn1;clear ho hg hat hL1 hn1 OW0 HR0 HM0 HT0 HB0;obtain⟨A1,c1,hv1,hlc1⟩:=aY I1.out.own;subst hv1;clear b0 b1 b2 b3 b4 I0 hn0 hk8;obtain⟨b0,b1,b2,b3,b4⟩:=aO.Mp I1.out.b0;have hb1:n1=L.length+1:=by rw[HNE1.out,HLN.out]
  have HN1:=qD hb1;clear hb1;by_cases k3:ck=3\/ck=9\/ck=10
  ·have hT:T=nums cn:=by have:=HE.out.symm.trans (ES k3);simpa using this
   have HEQ:Hid (L++(ck::T)=L1++io cn 8):=by unfold Hid;rw[hT,HL1.out];simp[nums]
   have hnb:n1<=99999992:=by have:=HTO.out;rw[hT,nums,nJ] at this;have:=HN1.out;omega
   clear hT HTO HE;obtain⟨U,hU⟩:∃U,IA cn=U:=⟨_,rfl⟩;have hux:=Hm cn;rw[hU] at hux;have hub:U<18446744073709551616:=by rw[<-hU];unfold IA;omega
   have HU:=qD hU;clear hU;rcases k3 with rfl|rfl|rfl
   all_goals
    go_upto_region 8 with fail
    clear b0 b1 b2 b3 b4 hux
    go_loopw [0,6] (fun u0 u6 wr=>∃i m:Nat,i<=8/\m=n1+i/\u6=.int .i64 (56-8*(i:Int))/\nC w ⟨_,cn,ct,LA,ln,lc,DA,dn,dc⟩ base (.slice A0 n0 c0) u0 m (L1++io cn i) wr) (fun _ u6 _=>(intOf u6+8).toNat)
    ·exact⟨0,n1,ON _,rfl,rfl,by simpa[io] using I1.out⟩
    case round=>
     obtain⟨i,n2,hi,hm,rfl,J⟩:=hrel;have J2:=qD J;have HM:=qD hm;clear J hm;by_cases hlt:i<8
     ·obtain⟨s,hs⟩:∃s:Nat,s=56-8*i:=⟨_,rfl⟩;have hs2:(56-8*(i:Int))=(s:Int):=oM
      rw[hs2];have s0:(0:Int)<=(s:Int):=oM
      have s1:(s:Int)<=56:=oM
      have hq:=CI U s;obtain⟨q,hqe⟩:∃q,q=U/2^s:=⟨_,rfl⟩;rw[<-hqe] at hq;have hz:(q:Int)%256=sX cn s:=by rw[hqe,<-HU.out];exact ER cn s
      obtain⟨z,hze⟩:∃z,sX cn s=z:=⟨_,rfl⟩;rw[hze] at hz;have HS:=qD hs;have HS2:=qD hs2;have HZE:=qD hze;clear hs hs2 hqe hze;have hn2:n2<=100000000:=by have:=HM.out;omega
      obtain⟨A2,c2,hv2,hlc2⟩:=aY J2.out.own;subst hv2;obtain⟨L2,hL2⟩:∃L',L'=L1++io cn i:=⟨_,rfl⟩;have I2:=J2;rw[<-hL2] at I2;have HL2:=qD hL2;clear hL2;obtain⟨w2,hw2⟩:∃w2,wr=w2:=⟨_,rfl⟩;subst hw2;have OW2:Hid ((wr.alloc (.cells #[.int .u8 z] 5)).ownsRow base 5 1 (.slice A2 n2 c2) n2 (ah (L2))):=af I2.out.own ((OG _ _).alloc (qL) _);have HR2:=qD (kN wr z);have HM2:Hid (n2+1<=maxLen):=by unfold Hid maxLen;omega
      have HT2:Hid ((n2+1)*1<=140737488355328):=by unfold Hid;omega
      have HB2:Hid (base<=(wr.alloc (.cells #[.int .u8 z] 5)).heap.size):=by have h1:=I2.out.ba;have h2:=I2.out.sz;simp[Hid];omega
      go_wp2_with (at_builtin;(refine aE _ rfl _ _ 133 rfl base 5 i0 (.int .u8 0) 1 1 Pd hi0 hy0 hy1 hy2 rfl dE (.slice A2 n2 c2) n2 (ah (L2)) rfl OW2.out (wr.heap.size+1) (some ⟨wr.heap.size,0,none⟩) 1 1 (ah [z]) rfl HR2.out (dk _) HM2.out HT2.out HB2.out ?_));intro v3 w3 ho hg hat;obtain⟨n3,hn3⟩:∃n,n=n2+1:=⟨_,rfl⟩;have I3:=qD (I2.out.app (xs:=[z]) rfl hn3 ho hg (by simpa using hat));obtain⟨L3,hL3⟩:∃L',L'=L2++[z]:=⟨_,rfl⟩;rw[<-hL3] at I3;have HL3:=qD hL3;have HNE3:=qD hn3;clear ho hg hat hL3 hn3 OW2 HR2 HM2 HT2 HB2;obtain⟨A3,c3,hv3,hlc3⟩:=aY I3.out.own;subst hv3;clear I2;go_wp2_with fail;go_roundw
      ·exact⟨i+1,n3,by omega,by rw[HNE3.out,HM.out];omega,by rw[<-HS2.out];go_num,by rw[wU,<-HS.out,HZE.out,<-OY,<-HL2.out,<-HL3.out];exact I3.out⟩
      ·rw[<-HS2.out];simp[intOf];omega
     ·obtain rfl:i=8:=oM
      obtain⟨A2,c2,hv2,hlc2⟩:=aY J2.out.own;subst hv2;go_wp2;go_ret;exact jB.eq HEQ.out J2.out.done
  by_cases k4:ck=4\/ck=7\/ck=8
  ·have hT:T=cX ct.data.toList++[0,0]:=by have:=HE.out.symm.trans (CJ k4);simpa using this
   have HEQ:Hid (L++(ck::T)=L1++cX ct.data.toList++[0,0]):=by unfold Hid;rw[hT,HL1.out];simp
   have hnb:n1<=99999999:=by have:=HTO.out;rw[hT,OK] at this;simp only[OZ] at this;have:=HN1.out;omega
   have HNB:=qD hnb;clear hT HTO HE k3;have ctz:(ct.size:Int)<=4096:=oM
   rcases k4 with rfl|rfl|rfl
   all_goals
    go_upto_region 15 with fail
    clear b0 b1 b2 b3 b4
    go_loopw [0,7,46] (fun u0 _ u46 wr=>∃i m:Nat,i<=ct.size/\u46=.int .i64 i/\nC w ⟨_,cn,ct,LA,ln,lc,DA,dn,dc⟩ base (.slice A0 n0 c0) u0 m (L1++cX (ct.data.toList.take i)) wr) (fun _ _ u46 _=>ct.size-(intOf u46).toNat)
    ·exact⟨0,n1,ON _,rfl,by simpa[cX] using I1.out⟩
    case round=>
     obtain⟨i,n2,hi,rfl,J⟩:=hrel;have J2:=qD J
     have hn2:n2<=100010000:=by
      have h1:=J.ln;have h2:=oo (ct.data.toList.take i);have h3:(ct.data.toList.take i).length<=i:=List.length_take_le _ _;have h4:=I1.out.ln;rw[OK] at h1;omega
     clear J;obtain⟨A2,c2,hv2,hlc2⟩:=aY J2.out.own;subst hv2;by_cases hlt:i<ct.size
     ·have i0':(0:Int)<=(i:Int):=oM
      have i1':(i:Int)<(ct.size:Int):=oM
      have HSN:=qD (zQ (ia ct i hlt));obtain⟨L2,hL2⟩:∃L',L'=L1++cX (ct.data.toList.take i):=⟨_,rfl⟩;have I2:=J2;rw[<-hL2] at I2;have HL2:=qD hL2;obtain⟨w2,hw2⟩:∃w2,wr=w2:=⟨_,rfl⟩;subst hw2;clear hL2 J2;obtain⟨b0,b1,b2,b3,b4⟩:=aO.Mp I2.out.b0;have hx:=ct[i].toNat_lt;have OW2:Hid ((wr.alloc (.cells #[.int .u8 (ct[i].toNat:Int)] 5)).ownsRow base 5 1 (.slice A2 n2 c2) n2 (ah (L2))):=af I2.out.own ((OG _ _).alloc (qL) _);have HR2:=qD (kN wr (ct[i].toNat:Int));have HM2:Hid (n2+1<=maxLen):=by unfold Hid maxLen;omega
      have HT2:Hid ((n2+1)*1<=140737488355328):=by unfold Hid;omega
      have HB2:Hid (base<=(wr.alloc (.cells #[.int .u8 (ct[i].toNat:Int)] 5)).heap.size):=by have h1:=I2.out.ba;have h2:=I2.out.sz;simp[Hid];omega
      go_wp2_with (at_builtin;(refine aE _ rfl _ _ 133 rfl base 5 i0 (.int .u8 0) 1 1 Pd hi0 hy0 hy1 hy2 rfl dE (.slice A2 n2 c2) n2 (ah (L2)) rfl OW2.out (wr.heap.size+1) (some ⟨wr.heap.size,0,none⟩) 1 1 (ah [(ct[i].toNat:Int)]) rfl HR2.out (dk _) HM2.out HT2.out HB2.out ?_));intro v3 w3 ho hg hat;obtain⟨n3,hn3⟩:∃n,n=n2+1:=⟨_,rfl⟩;have I3:=qD (I2.out.app (xs:=[(ct[i].toNat:Int)]) rfl hn3 ho hg (by simpa using hat));obtain⟨L3,hL3⟩:∃L',L'=L2++[(ct[i].toNat:Int)]:=⟨_,rfl⟩;rw[<-hL3] at I3;have HL3:=qD hL3;have HNE3:=qD hn3;clear ho hg hat hL3 hn3 OW2 HR2 HM2 HT2 HB2;obtain⟨A3,c3,hv3,hlc3⟩:=aY I3.out.own;subst hv3;clear b0 b1 b2 b3 b4 I2;obtain⟨b0,b1,b2,b3,b4⟩:=aO.Mp I3.out.b0;have hb3:n3<=100010001:=by have:=HNE3.out;omega
      cases hd:((ct[i].toNat:Int)==0)
      ·have HB:Hid (mr ct[i]=[(ct[i].toNat:Int)]):=by
        have hne:¬ct[i]=0:=fun e=>by rw[e] at hd;exact absurd hd dE
        unfold Hid mr;rw[OQ hne]
       have HSB:Hid (cX (ct.data.toList.take (i+1))=cX (ct.data.toList.take i)++[(ct[i].toNat:Int)]):=HSN.out.trans (congrArg (fun z=>cX (ct.data.toList.take i)++z) HB.out);go_wp2_with fail;go_roundw
       ·exact⟨i+1,n3,hlt,by go_num,by rw[HSB.out,<-OY,<-HL2.out,<-HL3.out];exact I3.out⟩
       ·have:=hlt;simp[intOf];omega
      ·have HB:Hid (mr ct[i]=[(ct[i].toNat:Int),255]):=by
        have e:ct[i]=0:=by
         apply QM.1;have:(ct[i].toNat:Int)=0:=by simpa using hd
         show ct[i].toNat=0;omega
        rw[e];rfl
       have HSB:Hid (cX (ct.data.toList.take (i+1))=cX (ct.data.toList.take i)++[(ct[i].toNat:Int)]++[255]):=HSN.out.trans ((congrArg (fun z=>cX (ct.data.toList.take i)++z) HB.out).trans sM);have OW3:Hid ((w3.alloc (.cells #[.int .u8 255] 5)).ownsRow base 5 1 (.slice A3 n3 c3) n3 (ah (L3))):=af I3.out.own ((OG _ _).alloc (qL) _);have HR3:=qD (kN w3 255);have HM3:Hid (n3+1<=maxLen):=by unfold Hid maxLen;omega
       have HT3:Hid ((n3+1)*1<=140737488355328):=by unfold Hid;omega
       have HB3:Hid (base<=(w3.alloc (.cells #[.int .u8 255] 5)).heap.size):=by have h1:=I3.out.ba;have h2:=I3.out.sz;simp[Hid];omega
       go_wp2_with (at_builtin;(refine aE _ rfl _ _ 133 rfl base 5 i0 (.int .u8 0) 1 1 Pd hi0 hy0 hy1 hy2 rfl dE (.slice A3 n3 c3) n3 (ah (L3)) rfl OW3.out (w3.heap.size+1) (some ⟨w3.heap.size,0,none⟩) 1 1 (ah [255]) rfl HR3.out (dk _) HM3.out HT3.out HB3.out ?_));intro v4 w4 ho hg hat;obtain⟨n4,hn4⟩:∃n,n=n3+1:=⟨_,rfl⟩;have I4:=qD (I3.out.app (xs:=[255]) rfl hn4 ho hg (by simpa using hat));obtain⟨L4,hL4⟩:∃L',L'=L3++[255]:=⟨_,rfl⟩;rw[<-hL4] at I4;have HL4:=qD hL4;have HNE4:=qD hn4;clear ho hg hat hL4 hn4 OW3 HR3 HM3 HT3 HB3;obtain⟨A4,c4,hv4,hlc4⟩:=aY I4.out.own;subst hv4;clear b0 b1 b2 b3 b4 I3;go_wp2_with fail;go_roundw
       ·exact⟨i+1,n4,hlt,by go_num,by rw[HSB.out,<-OY,<-OY,<-HL2.out,<-HL3.out,<-HL4.out];exact I4.out⟩
       ·have:=hlt;simp[intOf];omega
     ·obtain rfl:i=ct.size:=oM
      have HTK:Hid (ct.data.toList.take ct.size=ct.data.toList):=OS (by rw[tU];exact qL);obtain⟨L2,hL2⟩:∃L',L'=L1++cX (ct.data.toList.take ct.size):=⟨_,rfl⟩;have I2:=J2;rw[<-hL2] at I2;have HL2:=qD hL2;clear hL2 J2;have OW2:Hid ((wr.alloc (.cells #[.int .u8 0,.int .u8 0] 5)).ownsRow base 5 1 (.slice A2 n2 c2) n2 (ah (L2))):=af I2.out.own ((OG _ _).alloc (qL) _);have HR2:=qD (JO wr 0 0);have HM2:Hid (n2+2<=maxLen):=by unfold Hid maxLen;omega
      have HT2:Hid ((n2+2)*1<=140737488355328):=by unfold Hid;omega
      have HB2:Hid (base<=(wr.alloc (.cells #[.int .u8 0,.int .u8 0] 5)).heap.size):=by have h1:=I2.out.ba;have h2:=I2.out.sz;simp[Hid];omega
      go_wp2_with (at_builtin;(refine aE _ rfl _ _ 133 rfl base 5 i0 (.int .u8 0) 1 1 Pd hi0 hy0 hy1 hy2 rfl dE (.slice A2 n2 c2) n2 (ah (L2)) rfl OW2.out (wr.heap.size+1) (some ⟨wr.heap.size,0,none⟩) 2 2 (ah [0,0]) rfl HR2.out (dk _) HM2.out HT2.out HB2.out ?_));intro v3 w3 ho hg hat;obtain⟨n3,hn3⟩:∃n,n=n2+2:=⟨_,rfl⟩;have I3:=qD (I2.out.app (xs:=[0,0]) rfl hn3 ho hg (by simpa using hat));obtain⟨L3,hL3⟩:∃L',L'=L2++[0,0]:=⟨_,rfl⟩;rw[<-hL3] at I3;have HL3:=qD hL3;have HNE3:=qD hn3;clear ho hg hat hL3 hn3 OW2 HR2 HM2 HT2 HB2;obtain⟨A3,c3,hv3,hlc3⟩:=aY I3.out.own;subst hv3;go_wp2;go_ret;exact jB.eq (by rw[HEQ.out,HL3.out,HL2.out,HTK.out]) I3.out.done
  by_cases k6:ck=6
  ·subst k6;have hT:T=eP l++[0]:=by have:=HE.out.symm.trans (CK (k:=6) rfl);simpa using this
   have HEQ:Hid (L++(6::T)=L1++eP l++[0]):=by unfold Hid;rw[hT,HL1.out];simp
   have hnb:L.length+(eP l).length+2<=100000000:=by have:=HTO.out;rw[hT,OK] at this;simp only[OZ,QN] at this;omega
   have HNB:=qD hnb;have hlm:n1=L1.length:=I1.out.ln;have HLM:Hid (n1=L.length+1):=HN1.out;clear hT HTO HE k3 k4 hnb hlm;obtain⟨ps,hps,hsl⟩:=(pw.shut HO.out).sl;simp only[aC.l] at hps;have SLh:=qD hsl;have HPS:=qD hps;have HLL:Hid (ln=ps.length):=hsl.sr.ln;have hlz:(ln:Int)<=1759218604441:=by have:=hsl.sz;unfold aF at this;simp only at this;omega
   clear hps hsl;go_upto_region 24 with fail
   clear b0 b1 b2 b3 b4
   go_loopw [0,9,73] (fun u0 _ u73 wr=>∃i m:Nat,i<=ln/\u73=.int .i64 i/\nC w ⟨6,cn,ct,LA,ln,lc,DA,dn,dc⟩ base (.slice A0 n0 c0) u0 m (L1++eP (l.take i)) wr) (fun _ _ u73 _=>ln-(intOf u73).toNat)
   ·exact⟨0,n1,ON _,rfl,by simpa[eP] using I1.out⟩
   case round=>
    obtain⟨i,n2,hi,rfl,J⟩:=hrel;have J2:=qD J
    have hn2:n2<=L.length+1+(eP l).length:=by
     have h1:=J.ln;have h2:=nv l i;have h4:=I1.out.ln;have h5:=HLM.out;rw[OK] at h1;omega
    have hn3:n2<=99999999:=by have:=HNB.out;omega
    have HN2:=qD hn2;clear J hn2;obtain⟨A2,c2,hv2,hlc2⟩:=aY J2.out.own;subst hv2;by_cases hlt:i<ln
    ·obtain⟨p,hp⟩:∃p,ps[i]?=some p:=⟨_,OH (by have:=HLL.out;omega)⟩;obtain⟨b,off,hLA,hbF,hat,hrv⟩:=SLh.out.Mw hp;subst hLA;have hpl:l[i]?=some p.2:=by rw[<-HPS.out,OT,hp];rfl
     have hmem:=OJ hpl;have hSN:=Cv hpl
     have hbd:(L1++eP (l.take i)++[1]).length+(bR p.2).length<=100000000:=by
      have h2:=nv l (i+1);rw[hSN,OK,OZ] at h2;have h4:=I1.out.ln;have h5:=HLM.out;have h6:=HNB.out;simp only[OK,OZ,QN];omega
     obtain⟨L2,hL2⟩:∃L',L'=L1++eP (l.take i):=⟨_,rfl⟩;have I2:=J2;rw[<-hL2] at I2 hbd;have HEN1:=qD (HEN.out.list p.2 hmem);have HIH:=qD (ihl p.2 hmem);have HSNh:=qD hSN;have HBD:=qD hbd;have HL2:=qD hL2;have HRV:=qD hrv;obtain⟨q0,q1,q2,q3,q4⟩:=hat.keep (I2.out.below.block b hbF);have hbw:b<wr.heap.size:=by have:=I2.out.ba;have:=I2.out.sz;omega
     have i0':(0:Int)<=(i:Int):=oM
     have i1':(i:Int)<(ln:Int):=oM
     clear hL2 J2 hp hrv hpl hmem hSN hbd hat;go_upto_region 26 with fail
     change (Code.region 26 _ _).wp _ _ _ (wr.alloc (.cells p.1.arr 29));have hne:(Value.slice A2 n2 c2).ownBlock≠some wr.heap.size:=fun e=>absurd (eO I2.out.own e) oM;have KJ:=I2.out.step ((OG wr.heap.size wr).alloc (qL) (Obj.cells p.1.arr 29));have KB:aG (wr.alloc (.cells p.1.arr 29)) wr.heap.size 29 p.1.arr:=aG.Mm rfl;generalize wr.alloc (.cells p.1.arr 29)=wa at*;generalize wr.heap.size=ga at*;have JA:=qD KJ;have JB:=qD KB;clear KJ KB q0 q1 q2 q3 q4 I2;obtain⟨q0,q1,q2,q3,q4⟩:=aO.Mp JB.out;have B:=qD ((OG wa.heap.size wa).drewN 1);have HGA:Hid (ga<((wa.drewN 1).alloc (.cells #[.int .u8 1] 5)).heap.size):=by have:=JB.out.lt;simp[Hid];omega
     have F1:Hid (n2+1<=maxLen):=by unfold Hid maxLen;omega
     have F2:Hid ((n2+1)*1<=140737488355328):=by unfold Hid;omega
     have KG:Hid (∀w' w'' o,Bl wa w'->(w'.alloc o).grownBy w'' (Value.slice A2 n2 c2).ownBlock->w''.cell? ⟨ga,0,none⟩=some (.int .i64 p.1.k)/\w''.cell? ⟨ga,1,none⟩=some (.int .i64 p.1.n)/\w''.cell? ⟨ga,2,none⟩=some (.string p.1.t)/\w''.cell? ⟨ga,3,none⟩=some (.slice p.1.LA p.1.ln p.1.lc)/\w''.cell? ⟨ga,4,none⟩=some (.slice p.1.DA p.1.dn p.1.dc)):=qD fun w' w'' o hb hg=>⟨cH hg (Hb hb q0) hne,cH hg (Hb hb q1) hne,cH hg (Hb hb q2) hne,cH hg (Hb hb q3) hne,cH hg (Hb hb q4) hne⟩
     go_region_held3 (fun w'=>w'.cell? ⟨ga,0,none⟩=some (.int .i64 p.1.k)/\w'.cell? ⟨ga,1,none⟩=some (.int .i64 p.1.n)/\w'.cell? ⟨ga,2,none⟩=some (.string p.1.t)/\w'.cell? ⟨ga,3,none⟩=some (.slice p.1.LA p.1.ln p.1.lc)/\w'.cell? ⟨ga,4,none⟩=some (.slice p.1.DA p.1.dn p.1.dc))
      (first|exact⟨q0,q1,q2,q3,q4⟩|((try dsimp only);assumption)|go_keep)
      (first
        | (refine bG _ rfl (.tmp 77) (.tmp 78) 133 rfl base 5 i0 (.int .u8 0) 1 1 Pd hi0 hy0 hy1 hy2 rfl dE (.slice A2 n2 c2) n2 (ah L2) (by simp[Act.eval]) ((af JA.out.own B.out).alloc _) (wa.heap.size+1) (some ⟨wa.heap.size,0,none⟩) 1 1 (ah [1]) (by simp[Act.eval]) (kN (wa.drewN 1) 1) (dk _) F1.out F2.out (Au (JA.out.step B.out).Nk _) ?_;intro v' w5 hown hgr hat;have hs:=KG.out _ _ _ B.out hgr;have I5:=qD ((JA.out.step B.out).app (xs:=[1]) rfl rfl hown hgr hat);have hne2:=uR hne HGA.out hat)
        | (go_at_call 98;refine(HIH.out p.1 v' (L2++[1]) base (n2+1) w5 (HRV.out.Mr fun b hb _=>⟨hb,I5.out.below.block b hb⟩) HEN1.out I5.out.Nk I5.out.ln I5.out.own HBD.out).mono ?_;rintro e3 w3 hap;have hs3:=Kp hap.grown hne2 hs;obtain⟨v3,rfl,hI6⟩:=I5.out.call hap;have I6:=qD hI6))
     all_goals
      have HI:=qD I6.out;clear hown hgr hat KG hs hs3 hne hne2 I5 I6;obtain⟨A6,c6,hv6,hlc6⟩:=aY HI.out.own;subst hv6;go_wp2_with fail;go_roundw
      ·exact⟨i+1,_,hlt,by go_num,by rw[HSNh.out,<-OY,<-HL2.out,show L2++1::bR p.2=L2++[1]++bR p.2 by simp];exact HI.out⟩
      ·exact iO
    ·obtain rfl:i=ln:=oM
     have HTK:Hid (l.take i=l):=OS (by have h1:=HLL.out;have h2:=congrArg List.length HPS.out;simp at h2;omega);obtain⟨L2,hL2⟩:∃L',L'=L1++eP (l.take i):=⟨_,rfl⟩;have I2:=J2;rw[<-hL2] at I2;have HL2:=qD hL2;clear hL2 J2;have OW2:Hid ((wr.alloc (.cells #[.int .u8 0] 5)).ownsRow base 5 1 (.slice A2 n2 c2) n2 (ah (L2))):=af I2.out.own ((OG _ _).alloc (qL) _);have HR2:=qD (kN wr 0);have HM2:Hid (n2+1<=maxLen):=by unfold Hid maxLen;omega
     have HT2:Hid ((n2+1)*1<=140737488355328):=by unfold Hid;omega
     have HB2:Hid (base<=(wr.alloc (.cells #[.int .u8 0] 5)).heap.size):=by have h1:=I2.out.ba;have h2:=I2.out.sz;simp[Hid];omega
     go_wp2_with (at_builtin;(refine aE _ rfl _ _ 133 rfl base 5 i0 (.int .u8 0) 1 1 Pd hi0 hy0 hy1 hy2 rfl dE (.slice A2 n2 c2) n2 (ah (L2)) rfl OW2.out (wr.heap.size+1) (some ⟨wr.heap.size,0,none⟩) 1 1 (ah [0]) rfl HR2.out (dk _) HM2.out HT2.out HB2.out ?_));intro v3 w3 ho hg hat;obtain⟨n3,hn3⟩:∃n,n=n2+1:=⟨_,rfl⟩;have I3:=qD (I2.out.app (xs:=[0]) rfl hn3 ho hg (by simpa using hat));obtain⟨L3,hL3⟩:∃L',L'=L2++[0]:=⟨_,rfl⟩;rw[<-hL3] at I3;have HL3:=qD hL3;have HNE3:=qD hn3;clear ho hg hat hL3 hn3 OW2 HR2 HM2 HT2 HB2;obtain⟨A3,c3,hv3,hlc3⟩:=aY I3.out.own;subst hv3;go_wp2;go_ret;exact jB.eq (by rw[HEQ.out,HL3.out,HL2.out,HTK.out]) I3.out.done
  by_cases k5:ck=5
  ·subst k5;have hT:T=eJ d++[0]:=by have:=HE.out.symm.trans (ET (k:=5) rfl);simpa using this
   have HEQ:Hid (L++(5::T)=L1++eJ d++[0]):=by unfold Hid;rw[hT,HL1.out];simp
   have hnb:L.length+(eJ d).length+2<=100000000:=by have:=HTO.out;rw[hT,OK] at this;simp only[OZ,QN] at this;omega
   have HNB:=qD hnb;have HLM:Hid (n1=L.length+1):=HN1.out;clear hT HTO HE k3 k4 k6 hnb;obtain⟨ps,hps,hsd⟩:=(pw.shut HO.out).sd;simp only[aC.d] at hps;have SDh:=qD hsd;have HPS:=qD hps;have HLL:Hid (dn=ps.length):=hsd.sr.ln;have hlz:(dn:Int)<=1466015503701:=by have:=hsd.sz;unfold aF at this;simp only at this;omega
   clear hps hsd;go_upto_region 31 with fail
   clear b0 b1 b2 b3 b4
   go_loopw [0,11,91] (fun u0 _ u91 wr=>∃i m:Nat,i<=dn/\u91=.int .i64 i/\nC w ⟨5,cn,ct,LA,ln,lc,DA,dn,dc⟩ base (.slice A0 n0 c0) u0 m (L1++eJ (d.take i)) wr) (fun _ _ u91 _=>dn-(intOf u91).toNat)
   ·exact⟨0,n1,ON _,rfl,by simpa[eJ] using I1.out⟩
   case round=>
    obtain⟨i,n2,hi,rfl,J⟩:=hrel;have J2:=qD J
    have hn2:n2<=L.length+1+(eJ d).length:=by
     have h1:=J.ln;have h2:=nw d i;have h4:=I1.out.ln;have h5:=HLM.out;rw[OK] at h1;omega
    have hn3:n2<=99999999:=by have:=HNB.out;omega
    clear J hn2;obtain⟨A2,c2,hv2,hlc2⟩:=aY J2.out.own;subst hv2;by_cases hlt:i<dn
    ·obtain⟨p,hp⟩:∃p,ps[i]?=some p:=⟨_,OH (by have:=HLL.out;omega)⟩;obtain⟨b,off,hDA,hbF,hnm,hat,hrv⟩:=SDh.out.Mw hp;subst hDA;have hpl:d[i]?=some p.2:=by rw[<-HPS.out,OT,hp];rfl
     have hmem:=OJ hpl;have hSN:=Cw hpl
     have hbd:L1.length+(eJ (d.take i)).length+1+(eI p.2.s).length+1+(bR p.2.v).length<=100000000:=by
      have h2:=nw d (i+1);rw[hSN,OK,OZ,OK,OZ] at h2;have h4:=I1.out.ln;have h5:=HLM.out;have h6:=HNB.out;omega
     rw[rH] at hbd;obtain⟨L2,hL2⟩:∃L',L'=L1++eJ (d.take i):=⟨_,rfl⟩;have hl2:L2.length=L1.length+(eJ (d.take i)).length:=by rw[hL2,OK]
     have I2:=J2;rw[<-hL2] at I2;have hl3:=I2.out.ln;have hbd2:n2+1+p.2.s.size+1+(bR p.2.v).length<=100000000:=oM
     have HEN1:=qD (HEN.out.doc p.2 hmem).1;have HIH:=qD (ihd p.2 hmem);have HSNh:=qD hSN;have HBD:=qD hbd2;have HL2:=qD hL2;have HRV:=qD hrv;have q0':=(I2.out.below.cell (p:=⟨b,off+i*6,none⟩) hbF).trans hnm;obtain⟨q0,q1,q2,q3,q4⟩:=hat.keep (I2.out.below.block b hbF);have hbw:b<wr.heap.size:=by have:=I2.out.ba;have:=I2.out.sz;omega
     have i0':(0:Int)<=(i:Int):=oM
     have i1':(i:Int)<(dn:Int):=oM
     have hsz:p.2.s.size<=100000000:=oM
     have hn2:n2<=99999990\/True:=.inr trivial;clear hL2 J2 hp hrv hpl hmem hSN hbd hat hnm hl2 hl3 hbd2 hn2;go_upto_region 33 with fail
     change (Code.region 33 _ _).wp _ _ _ (wr.alloc (.cells #[.string p.2.s,.int .i64 p.1.k,.int .i64 p.1.n,.string p.1.t,.slice p.1.LA p.1.ln p.1.lc,.slice p.1.DA p.1.dn p.1.dc] 77));have NE2:(Value.slice A2 n2 c2).ownBlock≠some wr.heap.size:=fun e=>absurd (eO I2.out.own e) oM;have KJ:=I2.out.step ((OG wr.heap.size wr).alloc (qL) (Obj.cells #[.string p.2.s,.int .i64 p.1.k,.int .i64 p.1.n,.string p.1.t,.slice p.1.LA p.1.ln p.1.lc,.slice p.1.DA p.1.dn p.1.dc] 77));have KB:aG (wr.alloc (.cells #[.string p.2.s,.int .i64 p.1.k,.int .i64 p.1.n,.string p.1.t,.slice p.1.LA p.1.ln p.1.lc,.slice p.1.DA p.1.dn p.1.dc] 77)) wr.heap.size 77 #[.string p.2.s,.int .i64 p.1.k,.int .i64 p.1.n,.string p.1.t,.slice p.1.LA p.1.ln p.1.lc,.slice p.1.DA p.1.dn p.1.dc]:=aG.Mm rfl;generalize wr.alloc (.cells #[.string p.2.s,.int .i64 p.1.k,.int .i64 p.1.n,.string p.1.t,.slice p.1.LA p.1.ln p.1.lc,.slice p.1.DA p.1.dn p.1.dc] 77)=w2 at*;generalize wr.heap.size=ga at*;have JB2:=qD KB;clear q0' q0 q1 q2 q3 q4 I2 hbw;have I2:=qD KJ;clear KJ KB;have OW2:Hid ((w2.alloc (.cells #[.int .u8 1] 5)).ownsRow base 5 1 (.slice A2 n2 c2) n2 (ah (L2))):=af I2.out.own ((OG _ _).alloc (qL) _);have HR2:=qD (kN w2 1);have HM2:Hid (n2+1<=maxLen):=by unfold Hid maxLen;omega
     have HT2:Hid ((n2+1)*1<=140737488355328):=by unfold Hid;omega
     have HB2:Hid (base<=(w2.alloc (.cells #[.int .u8 1] 5)).heap.size):=by have h1:=I2.out.ba;have h2:=I2.out.sz;simp[Hid];omega
     go_wp2_with (at_builtin;(refine aE _ rfl _ _ 133 rfl base 5 i0 (.int .u8 0) 1 1 Pd hi0 hy0 hy1 hy2 rfl dE (.slice A2 n2 c2) n2 (ah (L2)) rfl OW2.out (w2.heap.size+1) (some ⟨w2.heap.size,0,none⟩) 1 1 (ah [1]) rfl HR2.out (dk _) HM2.out HT2.out HB2.out ?_));intro v3 w3 ho hg hat;obtain⟨n3,hn3⟩:∃n,n=n2+1:=⟨_,rfl⟩;have I3:=qD (I2.out.app (xs:=[1]) rfl hn3 ho hg (by simpa using hat));obtain⟨L3,hL3⟩:∃L',L'=L2++[1]:=⟨_,rfl⟩;rw[<-hL3] at I3;have HL3:=qD hL3;have HNE3:=qD hn3;have NE3:=uR NE2 (k:=w2.heap.size+1) (by have:=JB2.out.lt;omega) (by simpa using hat);have JB3:=qD ((JB2.out.alloc _).grown hg (fun e=>NE2 e.symm));clear ho hg hat hL3 hn3 OW2 HR2 HM2 HT2 HB2;obtain⟨A3,c3,hv3,hlc3⟩:=aY I3.out.own;subst hv3;clear I2 JB2 NE2;have f0:=JB3.out.cell 0;simp at f0;have HM3:Hid (n3+p.2.s.size<=maxLen):=by have:=HNE3.out;unfold Hid maxLen;omega
     have HT3:Hid (n3+p.2.s.size<=140737488355328):=by have:=HNE3.out;unfold Hid;omega
     have HB3:=qD I3.out.Nk;go_wp2_with (at_builtin;(refine nr rfl _ _ 133 9 rfl base 5 i0 Pd PY hi0 hy0 hy1 hy2 (.slice A3 n3 c3) n3 (ah L3) rfl I3.out.own p.2.s rfl HM3.out HT3.out HB3.out ?_));intro v4 w4 ho hg hat;rw[vZ] at ho;obtain⟨n4,hn4⟩:∃n,n=n3+p.2.s.size:=⟨_,rfl⟩;have I4:=qD (I3.out.Nu (xs:=eI p.2.s) (rH _).symm hn4 ho hg hat);obtain⟨L4,hL4⟩:∃L',L'=L3++eI p.2.s:=⟨_,rfl⟩;rw[<-hL4] at I4;have HL4:=qD hL4;have HNE4:=qD hn4;have NE4:=uR NE3 (k:=w3.heap.size) JB3.out.lt hat;have JB4:=qD (JB3.out.grown hg (fun e=>NE3 e.symm));clear ho hg hat hL4 hn4 f0 HM3 HT3 HB3 I3 JB3 NE3;obtain⟨A4,c4,hv4,hlc4⟩:=aY I4.out.own;subst hv4;go_upto_region 35 with fail
     have q0:=JB4.out.cell 1;have q1:=JB4.out.cell 2;have q2:=JB4.out.cell 3;have q3:=JB4.out.cell 4;have q4:=JB4.out.cell 5;simp at q0 q1 q2 q3 q4;have hn4b:n4+1+(bR p.2.v).length<=100000000:=by have:=HBD.out;have:=HNE3.out;have:=HNE4.out;omega
     have B:=qD ((OG w4.heap.size w4).drewN 1);have F1:Hid (n4+1<=maxLen):=by unfold Hid maxLen;omega
     have F2:Hid ((n4+1)*1<=140737488355328):=by unfold Hid;omega
     have F3:Hid ((L4++[0]).length+(bR p.2.v).length<=100000000):=by have:=I4.out.ln;unfold Hid;rw[OK,OZ,QN];omega
     have HGA:Hid (ga<((w4.drewN 1).alloc (.cells #[.int .u8 0] 5)).heap.size):=by have:=JB4.out.lt;simp[Hid];omega
     have KG:Hid (∀w' w'' o,Bl w4 w'->(w'.alloc o).grownBy w'' (Value.slice A4 n4 c4).ownBlock->w''.cell? ⟨ga,1,none⟩=some (.int .i64 p.1.k)/\w''.cell? ⟨ga,2,none⟩=some (.int .i64 p.1.n)/\w''.cell? ⟨ga,3,none⟩=some (.string p.1.t)/\w''.cell? ⟨ga,4,none⟩=some (.slice p.1.LA p.1.ln p.1.lc)/\w''.cell? ⟨ga,5,none⟩=some (.slice p.1.DA p.1.dn p.1.dc)):=qD fun w' w'' o hb hg=>⟨cH hg (Hb hb q0) NE4,cH hg (Hb hb q1) NE4,cH hg (Hb hb q2) NE4,cH hg (Hb hb q3) NE4,cH hg (Hb hb q4) NE4⟩;clear hn4b
     go_region_held3 (fun w'=>w'.cell? ⟨ga,1,none⟩=some (.int .i64 p.1.k)/\w'.cell? ⟨ga,2,none⟩=some (.int .i64 p.1.n)/\w'.cell? ⟨ga,3,none⟩=some (.string p.1.t)/\w'.cell? ⟨ga,4,none⟩=some (.slice p.1.LA p.1.ln p.1.lc)/\w'.cell? ⟨ga,5,none⟩=some (.slice p.1.DA p.1.dn p.1.dc))
      (first|exact⟨q0,q1,q2,q3,q4⟩|((try dsimp only);assumption)|go_keep)
      (first
        | (refine bG _ rfl (.tmp 102) (.tmp 103) 133 rfl base 5 i0 (.int .u8 0) 1 1 Pd hi0 hy0 hy1 hy2 rfl dE (.slice A4 n4 c4) n4 (ah L4) (by simp[Act.eval]) ((af I4.out.own B.out).alloc _) (w4.heap.size+1) (some ⟨w4.heap.size,0,none⟩) 1 1 (ah [0]) (by simp[Act.eval]) (kN (w4.drewN 1) 0) (dk _) F1.out F2.out (Au (I4.out.step B.out).Nk _) ?_;intro v' w5 hown hgr hat;have hs:=KG.out _ _ _ B.out hgr;have I5:=qD ((I4.out.step B.out).app (xs:=[0]) rfl rfl hown hgr hat);have hne2:=uR NE4 HGA.out hat)
        | (go_at_call 98;refine(HIH.out p.1 v' (L4++[0]) base (n4+1) w5 (HRV.out.Mr fun b hb _=>⟨hb,I5.out.below.block b hb⟩) HEN1.out I5.out.Nk I5.out.ln I5.out.own F3.out).mono ?_;rintro e3 w6 hap;have hs3:=Kq hap.grown hne2 hs;obtain⟨v3,rfl,hI6⟩:=I5.out.call hap;have I6:=qD hI6))
     all_goals
      have HI:=qD I6.out;clear hown hgr hat KG hs hs3 NE4 hne2 I5 I6;obtain⟨A6,c6,hv6,hlc6⟩:=aY HI.out.own;subst hv6;go_wp2_with fail;go_roundw
      ·exact⟨i+1,_,hlt,by go_num,by rw[HSNh.out,<-OY,<-HL2.out,show L2++1::(eI p.2.s++0::bR p.2.v)=L4++[0]++bR p.2.v by rw[HL4.out,HL3.out];simp];exact HI.out⟩
      ·exact iO
    ·obtain rfl:i=dn:=oM
     have HTK:Hid (d.take i=d):=OS (by have h1:=HLL.out;have h2:=congrArg List.length HPS.out;simp at h2;omega);obtain⟨L2,hL2⟩:∃L',L'=L1++eJ (d.take i):=⟨_,rfl⟩;have I2:=J2;rw[<-hL2] at I2;have HL2:=qD hL2;clear hL2 J2;have OW2:Hid ((wr.alloc (.cells #[.int .u8 0] 5)).ownsRow base 5 1 (.slice A2 n2 c2) n2 (ah (L2))):=af I2.out.own ((OG _ _).alloc (qL) _);have HR2:=qD (kN wr 0);have HM2:Hid (n2+1<=maxLen):=by unfold Hid maxLen;omega
     have HT2:Hid ((n2+1)*1<=140737488355328):=by unfold Hid;omega
     have HB2:Hid (base<=(wr.alloc (.cells #[.int .u8 0] 5)).heap.size):=by have h1:=I2.out.ba;have h2:=I2.out.sz;simp[Hid];omega
     go_wp2_with (at_builtin;(refine aE _ rfl _ _ 133 rfl base 5 i0 (.int .u8 0) 1 1 Pd hi0 hy0 hy1 hy2 rfl dE (.slice A2 n2 c2) n2 (ah (L2)) rfl OW2.out (wr.heap.size+1) (some ⟨wr.heap.size,0,none⟩) 1 1 (ah [0]) rfl HR2.out (dk _) HM2.out HT2.out HB2.out ?_));intro v3 w3 ho hg hat;obtain⟨n3,hn3⟩:∃n,n=n2+1:=⟨_,rfl⟩;have I3:=qD (I2.out.app (xs:=[0]) rfl hn3 ho hg (by simpa using hat));obtain⟨L3,hL3⟩:∃L',L'=L2++[0]:=⟨_,rfl⟩;rw[<-hL3] at I3;have HL3:=qD hL3;have HNE3:=qD hn3;clear ho hg hat hL3 hn3 OW2 HR2 HM2 HT2 HB2;obtain⟨A3,c3,hv3,hlc3⟩:=aY I3.out.own;subst hv3;go_wp2;go_ret;exact jB.eq (by rw[HEQ.out,HL3.out,HL2.out,HTK.out]) I3.out.done
  have hT:T=[]:=by have:=HE.out.symm.trans (CM k3 k4 k6 k5);simpa using this
  have HEQ:Hid (L++(ck::T)=L1):=by unfold Hid;rw[hT,HL1.out]
  have q3:(ck==3)=false:=by simp;omega
  have q9:(ck==9)=false:=by simp;omega
  have q10:(ck==10)=false:=by simp;omega
  have q4:(ck==4)=false:=by simp;omega
  have q7:(ck==7)=false:=by simp;omega
  have q8:(ck==8)=false:=by simp;omega
  have q6:(ck==6)=false:=by simp;omega
  have q5:(ck==5)=false:=by simp;omega
  clear hT HTO HE k3 k4 k6 k5;go_wp2;go_ret;exact jB.eq HEQ.out I1.out.done
end
end Go.Proofs.YtgfoliedmhgpnaaGreatDoor
