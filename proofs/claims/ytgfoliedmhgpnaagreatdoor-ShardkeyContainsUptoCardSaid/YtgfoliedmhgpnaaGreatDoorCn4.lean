/- A part of the proof. -/
import Derived.Test.YtgfoliedmhgpnaaGreatDoorCn2
set_option maxRecDepth 100000
set_option maxHeartbeats 16000000
open Go.Proofs.Tryz
open ByteArray (empty)
namespace Go.Proofs.YtgfoliedmhgpnaaGreatDoor
open Go.RowKit
section
variable {k n o B m i c:Nat} {w w':World} {e:TypeId} {x y d:Int} {l:List ByteArray} {A:Option Addr} {ha:Bool}
theorem pE:∀{l m:List ByteArray},l.length≠m.length->bK l m=false
 | [],[],h=>absurd rfl h
 | [],_::_,_=>rfl
 | _::_,[],_=>rfl
 | a::r,b::s,h=>by rw[bK,pE (l:=r) (m:=s) (by simpa using h)];simp
theorem yI{m:List ByteArray}{x y:ByteArray}(hx:l[i]?=some x)(hy:m[i]?=some y):bK (l.drop i) (m.drop i)=((x.toList==y.toList)&&bK (l.drop (i+1)) (m.drop (i+1))):=by rw[cU hx,cU hy,bK]
theorem uG{m:List ByteArray}(h1:l.length<=i)(h2:m.length<=i):bK (l.drop i) (m.drop i)=true:=by rw[Og h1,Og h2];rfl
theorem eu(l m:List ByteArray)(A B:Option Addr)(n c k d:Nat)(w:World)(h:ST w A n c l)(h':ST w B k d m):
 Calls prog 66 #[.slice A n c,.slice B k d] w (Rt w (.bool (bK l m))):=by
 have hz:n<=140737488355328:=by have:=h.sz;unfold aF at this;omega
 have hk:k<=140737488355328:=by have:=h'.sz;unfold aF at this;omega
 have H:=qD h;have H':=qD h';clear h h';by_cases hnk:n=k
 ·subst hnk;go_enter func66,ntmps66;go_wp2_with fail
  go_loopw [13] (fun v wr=>∃i:Nat,i<=n/\v=.int .i64 i/\bK l m=bK (l.drop i) (m.drop i)/\Bl w wr) (fun v _=>n-(intOf v).toNat)
  ·exact⟨0,ON _,rfl,rfl,OG _ _⟩
  case round=>
   obtain⟨i,hi,rfl,ha,hbel⟩:=hrel;have HA:=qD ha;have HB:=qD hbel;clear ha;by_cases hlt:i<n
   ·obtain⟨b,off,x,hA,hb,hx,e0⟩:=H.out.sr.NR hlt;obtain⟨b',off',y,hA',hb',hy,f0⟩:=H'.out.sr.NR hlt;subst hA hA';have HX:=qD (yI hx hy);have e1:=(hbel.cell (p:=⟨b,off+i,none⟩) hb).trans e0;have f1:=(hbel.cell (p:=⟨b',off'+i,none⟩) hb').trans f0;have X0:=aX e1;have Y0:=aX f1;have i0:(0:Int)<=(i:Int):=oM
    have i1:(i:Int)<(n:Int):=oM
    clear hx hy e0 f0 hbel;go_upto_region 6 with fail
    clear e1 f1;refine aL kR kR ?_
    repeat(go_big_quiet_step (fail))
    refine Oc ?_;rintro _ ⟨kw,rfl⟩;have HK:=qD kw.below;generalize kw.val=w5 at*;clear X0 Y0;cases hq:(x.toList==y.toList)
    ·have HF:Hid (bK l m=false):=by rw[Hid,HA.out,HX.out,hq];rfl
     go_wp2;go_ret;exact⟨by rw[HF.out];rfl,HB.out.Ml HK.out⟩
    ·have HF:Hid (bK l m=bK (l.drop (i+1)) (m.drop (i+1))):=by rw[Hid,HA.out,HX.out,hq];rfl
     go_wp2_with fail;go_roundw
     ·exact⟨i+1,by omega,by go_num,HF.out,HB.out.Ml HK.out⟩
     ·exact iO
   ·have HF:Hid (bK l m=true):=by rw[Hid,HA.out];exact uG (by have:=H.out.sr.ln;omega) (by have:=H'.out.sr.ln;omega)
    clear hbel;go_wp2;go_ret;exact⟨by rw[HF.out];rfl,HB.out⟩
 ·have HF:Hid (bK l m=false):=pE (by have:=H.out.sr.ln;have:=H'.out.sr.ln;omega);have hnk':((n:Int) != (k:Int))=true:=by simp;omega
  go_enter func66,ntmps66;go_wp2;go_ret;exact⟨by rw[HF.out];rfl,OG _ _⟩
theorem Bq{l:List Od}{o:Od}(h:l[i]?=some o):lV (l.take i) (l.drop i)=if dw o.p=false then 10 else if(l.take i).any (fun e=>bK e.p o.p) then 12 else lV (l.take (i+1)) (l.drop (i+1)):=by
 rw[cU h,lV,Pf,h];rfl
theorem yJ{l:List Od}(h:l.length<=i):lV (l.take i) (l.drop i)=0:=by rw[Og h,lV]
theorem EB(ks:List Od)(A:Option Addr)(n c:Nat)(w:World)(h:KS w A n c ks):
 Calls prog 90 #[.slice A n c] w (Rt w (.int .i64 (fZ ks))):=by
 have hln:=qD h.ln;obtain⟨os,h⟩:=h;have hz:n<=140737488355328:=by have:=h.sz;unfold aF at this;omega
 have hc:=h.sr.lc;have H:=qD h;clear h;by_cases h8:8<n
 ·have HV:Hid (fZ ks=2):=by unfold Hid fZ;rw[OW (by have:=hln.out;omega)]
  go_enter func90,ntmps90;go_wp2;go_ret;exact⟨by rw[HV.out];rfl,OG _ _⟩
 have HV:Hid (fZ ks=lV (ks.take 0) (ks.drop 0)):=by unfold Hid fZ;rw[OQ (by have:=hln.out;omega)];rfl
 go_enter func90,ntmps90;go_wp2_with fail
 go_loopw [12] (fun v wr=>∃i:Nat,i<=n/\v=.int .i64 i/\fZ ks=lV (ks.take i) (ks.drop i)/\Bl w wr) (fun v _=>n-(intOf v).toNat)
 ·exact⟨0,ON _,rfl,HV.out,OG _ _⟩
 case round=>
  obtain⟨i,hi,rfl,ha,hbel⟩:=hrel;have HA:=qD ha;have HB:=qD hbel;clear ha;by_cases hlt:i<n
  ·obtain⟨b,off,x,hA,hb,hx,e0,e1⟩:=H.out.sr.Ng hlt;obtain⟨q,hq⟩:∃q,ks[i]?=some q:=⟨_,OH (by have:=hln.out;omega)⟩;subst hA;have HOR:=qD (H.out.el i x q hx hq);have HX:=qD (Bq hq);have g0:=(hbel.cell (p:=⟨b,off+i*2,none⟩) hb).trans e0;have g1:=(hbel.cell (p:=⟨b,off+i*2+1,none⟩) hb).trans e1;have hb2:b<wr.heap.size:=by have:=hbel.size;omega
   obtain⟨xA,xn,xc,xd⟩:=x;have HBA:=qD ((OG wr.heap.size wr).alloc (qL) (Obj.cells #[.slice xA xn xc,.bool xd] 70));have HB5:Hid (aG (wr.alloc (.cells #[.slice xA xn xc,.bool xd] 70)) wr.heap.size 70 #[.slice xA xn xc,.bool xd]):=aG.Mm rfl;clear hx hq e0 e1 hbel;simp only at g0 g1;go_wp2_with fail;refine(Es q.p _ _ _ _ (HOR.out.st.step (HB.out.Ml HBA.out))).mono ?_;rintro e w1 ⟨rfl,rfl⟩;cases hp:dw q.p
   ·have HF:Hid (fZ ks=10):=by rw[Hid,HA.out,HX.out,OW hp]
    go_wp2;go_ret;exact⟨by rw[HF.out];rfl,HB.out.Ml HBA.out⟩
   have HY:Hid (lV (ks.take i) (ks.drop i)=if(ks.take i).any (fun e=>bK e.p q.p) then 12 else lV (ks.take (i+1)) (ks.drop (i+1))):=by rw[Hid,HX.out,OQ (by rw[hp];simp)]
   have hic:i<=c:=oM
   have HW:=qD (HB.out.Ml HBA.out);obtain⟨g,hg⟩:∃g,g=wr.heap.size:=⟨_,rfl⟩;have hwg:w.heap.size<=g:=by rw[hg];exact HB.out.size
   rw[<-hg] at HB5 ⊢;generalize wr.alloc (.cells #[.slice xA xn xc,.bool xd] 70)=w5 at*;clear hg HX hp g0 g1 HBA;go_wp2_with fail
   go_loopw [25] (fun v wr=>∃j:Nat,j<=i/\v=.int .i64 j/\(ks.take i).any (fun e=>bK e.p q.p)=((ks.take i).drop j).any (fun e=>bK e.p q.p)/\aG wr g 70 #[.slice xA xn xc,.bool xd]/\Bl w wr) (fun v _=>i-(intOf v).toNat)
   ·exact⟨0,ON _,rfl,rfl,HB5.out,HW.out⟩
   case round=>
    obtain⟨j,hj,rfl,hany,hblk,hbel2⟩:=hrel;have HN:=qD hany;have HBl:=qD hblk;have HB2:=qD hbel2;clear hany;by_cases hjl:j<i
    ·obtain⟨b2,off2,y,hA2,hbb,hy,e0,e1⟩:=H.out.sr.Ng (i:=j) oM;obtain⟨r,hr⟩:∃r,ks[j]?=some r:=⟨_,OH (by have:=hln.out;omega)⟩;injection hA2 with hA2
     injection hA2 with hb1 ho1
     subst hb1 ho1;have HOR2:=qD (H.out.el j y r hy hr)
     have HY2:Hid (((ks.take i).drop j).any (fun e=>bK e.p q.p)=(bK r.p q.p||((ks.take i).drop (j+1)).any (fun e=>bK e.p q.p))):=by
      rw[Hid,cU (show(ks.take i)[j]?=some r by rw[QK,OW hjl];exact hr)];rfl
     have g0:=(hbel2.cell (p:=⟨b,off+j*2,none⟩) hb).trans e0;have g1:=(hbel2.cell (p:=⟨b,off+j*2+1,none⟩) hb).trans e1;have k0:=hblk.cell 0;simp at k0;have hgl:=hblk.lt;obtain⟨yA,yn,yc,yd⟩:=y;have HBA:=qD (HB2.out.alloc HB2.out.size (Obj.cells #[.slice yA yn yc,.bool yd] 70));have HB6:=qD (HBl.out.alloc (.cells #[.slice yA yn yc,.bool yd] 70));clear hy hr e0 e1 hbel2 hblk;simp only at g0 g1;go_wp2_with fail;refine(eu r.p q.p _ _ _ _ _ _ _ (HOR2.out.st.step HBA.out) (HOR.out.st.step HBA.out)).mono ?_;rintro e w1 ⟨rfl,hb3⟩;have HB3:=qD (HBA.out.Ml hb3);have HBl3:=qD (HB6.out.step hb3);clear hb3;cases hs:bK r.p q.p
     ·have HF:Hid ((ks.take i).any (fun e=>bK e.p q.p)=((ks.take i).drop (j+1)).any (fun e=>bK e.p q.p)):=by rw[Hid,HN.out,HY2.out,hs];rfl
      go_wp2_with fail;go_roundw
      ·exact⟨j+1,by omega,by go_num,HF.out,HBl3.out,HB3.out⟩
      ·exact iO
     ·have HF:Hid (fZ ks=12):=by rw[Hid,HA.out,HY.out,OW (by rw[HN.out,HY2.out,hs];rfl)]
      go_wp2;go_ret;exact⟨by rw[HF.out];rfl,HB3.out⟩
    ·have HF:Hid (fZ ks=lV (ks.take (i+1)) (ks.drop (i+1))):=by
      rw[Hid,HA.out,HY.out,OQ];rw[HN.out,Og sO];simp
     clear hbel2 hblk;go_wp2_with fail;go_roundw
     ·exact⟨i+1,by omega,by go_num,HF.out,HB2.out⟩
     ·exact iO
  ·have HF:Hid (fZ ks=0):=by rw[Hid,HA.out];exact yJ (by have:=hln.out;omega)
   clear hbel;go_wp2;go_ret;exact⟨by rw[HF.out];rfl,HB.out⟩
theorem oW(ks:List Od)(ha:Bool)(A:Option Addr)(n c:Nat)(w:World)(h:KS w A n c ks):
 Calls prog 32 #[.agg #[.slice A n c,.bool ha]] w (Rt w (.int .i64 (il ks ha))):=by
 have hln:=qD h.ln;have hz:n<=140737488355328:=by obtain⟨os,h⟩:=h;have:=h.sz;unfold aF at this;omega
 have H:=qD h;clear h;have HB0:Hid (aG (w.alloc (.cells #[.slice A n c,.bool ha] 24)) w.heap.size 24 #[.slice A n c,.bool ha]):=aG.Mm rfl;have HZ:=qD ((OG w.heap.size w).alloc (qL) (Obj.cells #[.slice A n c,.bool ha] 24));go_enter func32,ntmps32;go_wp2_with fail;refine(EB ks _ _ _ _ (H.out.step HZ.out)).mono ?_;rintro e w1 ⟨rfl,hb⟩;have HB1:=qD (HZ.out.Ml hb);have k0:=(HB0.out.step hb).cell 0;have k1:=(HB0.out.step hb).cell 1;simp at k0 k1;have HBk:=qD (HB0.out.step hb);clear hb;by_cases ho:fZ ks=0
 ·have HO:Hid (il ks ha=if ks.length=0\/(ha=true/\1<ks.length) then 11 else if ks.any (·.d) then 11 else 0):=by unfold Hid il;rw[OQ (by simp[ho])]
  rw[ho];by_cases hn0:n=0
  ·have HF:Hid (il ks ha=11):=by rw[Hid,HO.out,OW (.inl (by have:=hln.out;omega))]
   subst hn0;go_wp2;go_ret;exact⟨by rw[HF.out];rfl,HB1.out⟩
  by_cases hh:ha=true/\1<n
  ·have HF:Hid (il ks ha=11):=by rw[Hid,HO.out,OW (.inr ⟨hh.1,by have:=hln.out;omega⟩)]
   obtain⟨rfl,h1⟩:=hh;go_wp2;go_ret;exact⟨by rw[HF.out];rfl,HB1.out⟩
  have HF:Hid (il ks ha=if ks.any (·.d) then 11 else 0):=by rw[Hid,HO.out,OQ (by have:=hln.out;rintro(h|⟨h,h'⟩);omega;exact hh ⟨h,by omega⟩)]
  have hn1:((n:Int)==0)=false:=by simp;omega
  have hh1:ha=true->(n:Int)<=1:=fun h=>by rcases Qn 1 n with h1|h1;exact absurd ⟨h,h1⟩ hh;omega
  obtain⟨os,hko⟩:=H.out;have HKO:=qD hko;clear hko hh hn0;cases ha
  all_goals
   first|have hh2:(n:Int)<=1:=hh1 rfl|skip
   clear hh1;go_wp2_with fail
   go_loopw [29] (fun v wr=>∃i:Nat,i<=n/\v=.int .i64 i/\ks.any (·.d)=(ks.drop i).any (·.d)/\Bl w wr) (fun v _=>n-(intOf v).toNat)
   ·exact⟨0,ON _,rfl,rfl,HB1.out⟩
   case round=>
    obtain⟨i,hi,rfl,hany,hbel⟩:=hrel;have HA:=qD hany;have HB:=qD hbel;clear hany;by_cases hlt:i<n
    ·obtain⟨b,off,x,hA,hb,hx,e0,e1⟩:=HKO.out.sr.Ng hlt;obtain⟨q,hq⟩:∃q,ks[i]?=some q:=⟨_,OH (by have:=hln.out;omega)⟩;subst hA;have HOR:=qD (HKO.out.el i x q hx hq);have HX:=qD (cU hq);have g0:=(hbel.cell (p:=⟨b,off+i*2,none⟩) hb).trans e0;have g1:=(hbel.cell (p:=⟨b,off+i*2+1,none⟩) hb).trans e1;have hb2:b<wr.heap.size:=by have:=hbel.size;omega
     obtain⟨xA,xn,xc,xd⟩:=x;have hd:=HOR.out.d;simp only at g0 g1 hd;subst hd;have HBA:=qD (HB.out.alloc HB.out.size (Obj.cells #[.slice xA xn xc,.bool q.d] 70));clear hx hq e0 e1 hbel;cases hqd:q.d
     ·have HN:Hid (ks.any (·.d)=(ks.drop (i+1)).any (·.d)):=by rw[Hid,HA.out,HX.out,TH,hqd];rfl
      rw[hqd] at g1 HBA;go_wp2_with fail;go_roundw
      ·exact⟨i+1,by omega,by go_num,HN.out,HBA.out⟩
      ·exact iO
     ·have HN:=qD (HF.out.trans (OW (by rw[HA.out,HX.out,TH,hqd];rfl)));rw[hqd] at g1 HBA;go_wp2;go_ret;exact⟨by rw[HN.out];rfl,HBA.out⟩
    ·have HN:=qD (HF.out.trans (OQ (by rw[HA.out,Og (by have:=hln.out;omega)];simp)));clear hbel;go_wp2;go_ret;exact⟨by rw[HN.out];rfl,HB.out⟩
 ·have HF:Hid (il ks ha=fZ ks):=by unfold Hid il;rw[OW ho]
  have ho':(fZ ks != 0)=true:=by simpa using ho
  go_wp2;go_ret;exact⟨by rw[HF.out];rfl,HB1.out⟩
theorem sP:∀(l m:List ByteArray),bK l m=bK m l
 | [],[]=>rfl
 | [],_::_=>rfl
 | _::_,[]=>rfl
 | a::r,b::s=>by
  rw[bK,bK,sP r s];congr 1;rw[Ob,QR,QR];exact eq_comm
theorem mh(l:List ByteArray)(A:Option Addr)(n c:Nat)(w:World)(h:ST w A n c l):
 Calls prog 20 #[.slice A n c] w fun e w'=>e=.returned (.bool (dw l))/\w'=w:=by
 have hz:n<=140737488355328:=by have:=h.sz;unfold aF at this;omega
 have H:=qD h;have hn:=qD h.sr.ln;clear h;by_cases h1:n<1
 ·have HV:Hid (dw l=false):=by unfold Hid dw;rw[<-hn.out,OV oM];rfl
  go_enter func20,ntmps20;go_wp2;go_ret;exact⟨by rw[HV.out];rfl,rfl⟩
 by_cases h2:16<n
 ·have HV:Hid (dw l=false):=by unfold Hid dw;rw[<-hn.out,OM oM,OV oM];rfl
  go_enter func20,ntmps20;go_wp2;go_ret;exact⟨by rw[HV.out];rfl,rfl⟩
 have HV:Hid (dw l=(l.drop 0).all aM):=by unfold Hid dw;rw[<-hn.out,OM oM,OM oM];rfl
 go_enter func20,ntmps20;go_wp2_with fail
 go_loopw [3] (fun v wr=>∃i:Nat,i<=n/\v=.int .i64 i/\dw l=(l.drop i).all aM/\wr=w) (fun v _=>n-(intOf v).toNat)
 ·exact⟨0,ON _,rfl,HV.out,rfl⟩
 case round=>
  obtain⟨i,hi,rfl,ha,rfl⟩:=hrel;have HA:=qD ha;clear ha;by_cases hlt:i<n
  ·obtain⟨b,off,x,hA,hb,hx,e0⟩:=H.out.sr.NR hlt;subst hA;have HX:=qD (cU hx);clear hx;go_wp2_with fail;refine(iR x _).mono ?_;rintro e w1 ⟨rfl,rfl⟩;cases hq:aM x
   ·have HF:Hid (dw l=false):=by rw[Hid,HA.out,HX.out,Sc,hq];rfl
    go_wp2;go_ret;exact⟨by rw[HF.out];rfl,rfl⟩
   ·have HF:Hid (dw l=(l.drop (i+1)).all aM):=by rw[Hid,HA.out,HX.out,Sc,hq];rfl
    go_wp2_with fail;go_roundw
    ·exact⟨i+1,by omega,by go_num,HF.out,trivial⟩
    ·exact iO
  ·have HF:Hid (dw l=true):=by rw[Hid,HA.out,Og (by have:=hn.out;omega)];rfl
   go_wp2;go_ret;exact⟨by rw[HF.out];rfl,rfl⟩
theorem yK(l m:List ByteArray)(A B:Option Addr)(n c k d:Nat)(w:World)(h:ST w A n c l)(h':ST w B k d m):
 Calls prog 76 #[.slice A n c,.slice B k d] w (Rt w (.bool (bK l m))):=by
 have hz:n<=140737488355328:=by have:=h.sz;unfold aF at this;omega
 have hk:k<=140737488355328:=by have:=h'.sz;unfold aF at this;omega
 have H:=qD h;have H':=qD h';clear h h';by_cases hnk:n=k;rotate_left
 ·have HF:Hid (bK l m=false):=pE (by have:=H.out.sr.ln;have:=H'.out.sr.ln;omega);have hnk':((n:Int) != (k:Int))=true:=by simp;omega
  go_enter func76,ntmps76;go_wp2;go_ret;exact⟨by rw[HF.out];rfl,OG _ _⟩
 subst hnk;go_enter func76,ntmps76;go_wp2_with fail
 go_loopw [5] (fun v wr=>∃i:Nat,i<=n/\v=.int .i64 i/\bK l m=bK (l.drop i) (m.drop i)/\Bl w wr) (fun v _=>n-(intOf v).toNat)
 ·exact⟨0,ON _,rfl,rfl,OG _ _⟩
 case round=>
  obtain⟨i,hi,rfl,ha,hbel⟩:=hrel;have HA:=qD ha;have HB:=qD hbel;clear ha;by_cases hlt:i<n
  ·obtain⟨b,off,x,hA,hb,hx,e0⟩:=H.out.sr.NR hlt;obtain⟨b',off',y,hA',hb',hy,f0⟩:=H'.out.sr.NR hlt;subst hA hA';have HX:=qD (yI hx hy);have e1:=(hbel.cell (p:=⟨b,off+i,none⟩) hb).trans e0;have f1:=(hbel.cell (p:=⟨b',off'+i,none⟩) hb').trans f0;have X0:=aX e1;have Y0:=aX f1;have i0:(0:Int)<=(i:Int):=oM
   have i1:(i:Int)<(n:Int):=oM
   clear hx hy e0 f0 hbel;go_upto_region 6 with fail
   clear e1 f1;refine aL kR kR ?_
   repeat(go_big_quiet_step (fail))
   refine Oc ?_;rintro _ ⟨kw,rfl⟩;have HK:=qD kw.below;generalize kw.val=w5 at*;clear X0 Y0;cases hq:(x.toList==y.toList)
   ·have HF:Hid (bK l m=false):=by rw[Hid,HA.out,HX.out,hq];rfl
    go_wp2;go_ret;exact⟨by rw[HF.out];rfl,HB.out.Ml HK.out⟩
   ·have HF:Hid (bK l m=bK (l.drop (i+1)) (m.drop (i+1))):=by rw[Hid,HA.out,HX.out,hq];rfl
    go_wp2_with fail;go_roundw
    ·exact⟨i+1,by omega,by go_num,HF.out,HB.out.Ml HK.out⟩
    ·exact iO
  ·have HF:Hid (bK l m=true):=by rw[Hid,HA.out];exact uG (by have:=H.out.sr.ln;omega) (by have:=H'.out.sr.ln;omega)
   clear hbel;go_wp2;go_ret;exact⟨by rw[HF.out];rfl,HB.out⟩
theorem Ah(ks:List Od)(A:Option Addr)(n c:Nat)(w:World)(h:KS w A n c ks):
 Calls prog 24 #[.slice A n c] w (Rt w (.int .i64 (fZ ks))):=by
 have hln:=qD h.ln;obtain⟨os,h⟩:=h;have hz:n<=140737488355328:=by have:=h.sz;unfold aF at this;omega
 have hc:=h.sr.lc;have H:=qD h;clear h;by_cases h8:8<n
 ·have HV:Hid (fZ ks=2):=by unfold Hid fZ;rw[OW (by have:=hln.out;omega)]
  go_enter func24,ntmps24;go_wp2;go_ret;exact⟨by rw[HV.out];rfl,OG _ _⟩
 have HV:Hid (fZ ks=lV (ks.take 0) (ks.drop 0)):=by unfold Hid fZ;rw[OQ (by have:=hln.out;omega)];rfl
 go_enter func24,ntmps24;go_wp2_with fail
 go_loopw [3] (fun v wr=>∃i:Nat,i<=n/\v=.int .i64 i/\fZ ks=lV (ks.take i) (ks.drop i)/\Bl w wr) (fun v _=>n-(intOf v).toNat)
 ·exact⟨0,ON _,rfl,HV.out,OG _ _⟩
 case round=>
  obtain⟨i,hi,rfl,ha,hbel⟩:=hrel;have HA:=qD ha;have HB:=qD hbel;clear ha;by_cases hlt:i<n
  ·obtain⟨b,off,x,hA,hb,hx,e0,e1⟩:=H.out.sr.Ng hlt;obtain⟨q,hq⟩:∃q,ks[i]?=some q:=⟨_,OH (by have:=hln.out;omega)⟩;subst hA;have HOR:=qD (H.out.el i x q hx hq);have HX:=qD (Bq hq);have HE0:=qD e0;have g0:=(hbel.cell (p:=⟨b,off+i*2,none⟩) hb).trans e0;obtain⟨xA,xn,xc,xd⟩:=x;clear hx hq e0 e1 hbel;simp only at g0;go_wp2_with fail;refine(mh q.p _ _ _ _ (HOR.out.st.step HB.out)).mono ?_;rintro e w1 ⟨rfl,rfl⟩;cases hp:dw q.p
   ·have HF:Hid (fZ ks=10):=by rw[Hid,HA.out,HX.out,OW hp]
    go_wp2;go_ret;exact⟨by rw[HF.out];rfl,HB.out⟩
   have HY:Hid (lV (ks.take i) (ks.drop i)=if(ks.take i).any (fun e=>bK e.p q.p) then 12 else lV (ks.take (i+1)) (ks.drop (i+1))):=by
    rw[Hid,HX.out,OQ (by rw[hp];simp)]
   have hic:i<=c:=oM
   clear HX hp g0;go_wp2_with fail;obtain⟨wo,hwo⟩:∃wo:World,wo=w1:=⟨_,rfl⟩;rw[<-hwo] at HB ⊢;clear hwo
   go_loopw [4] (fun v wr=>∃j:Nat,j<=i/\v=.int .i64 j/\(ks.take i).any (fun e=>bK e.p q.p)=((ks.take i).drop j).any (fun e=>bK e.p q.p)/\Bl w wr) (fun v _=>i-(intOf v).toNat)
   ·exact⟨0,ON _,rfl,rfl,HB.out⟩
   case round=>
    obtain⟨j,hj,rfl,hany,hbel2⟩:=hrel;have HN:=qD hany;have HB2:=qD hbel2;clear hany;by_cases hjl:j<i
    ·obtain⟨b2,off2,y,hA2,hbb,hy,e0,e1⟩:=H.out.sr.Ng (i:=j) oM;obtain⟨r,hr⟩:∃r,ks[j]?=some r:=⟨_,OH (by have:=hln.out;omega)⟩;injection hA2 with hA2
     injection hA2 with hb1 ho1
     subst hb1 ho1;have HOR2:=qD (H.out.el j y r hy hr)
     have HY2:Hid (((ks.take i).drop j).any (fun e=>bK e.p q.p)=(bK r.p q.p||((ks.take i).drop (j+1)).any (fun e=>bK e.p q.p))):=by
      rw[Hid,cU (show(ks.take i)[j]?=some r by rw[QK,OW hjl];exact hr)];rfl
     have g1:=(hbel2.cell (p:=⟨b,off+j*2,none⟩) hb).trans e0;have g0:=(hbel2.cell (p:=⟨b,off+i*2,none⟩) hb).trans HE0.out;obtain⟨yA,yn,yc,yd⟩:=y;clear hy hr e0 e1 hbel2;simp only at g0 g1;have X0:=aX g0;have Y0:=aX g1
     have K1:Hid (∀kk:BW wr,Calls prog 76 #[.slice xA xn xc,.slice yA yn yc] kk.val fun e w''=>e=.returned (.bool (bK r.p q.p))/\∃kk:BW wr,w''=kk.val):=fun kk=>
      Calls.bw (by rw[sP r.p q.p];exact yK q.p r.p _ _ _ _ _ _ _ (HOR.out.st.step (HB2.out.Ml kk.below)) (HOR2.out.st.step (HB2.out.Ml kk.below)))
     have i0:(0:Int)<=(i:Int):=oM
     have i1:(i:Int)<(n:Int):=oM
     have j0:(0:Int)<=(j:Int):=oM
     have j1:(j:Int)<(n:Int):=oM
     go_upto_region 11 with fail
     clear g0 g1;refine aL kR kR ?_
     repeat(go_big_quiet_step ((go_at_call 76;with_reducible exact K1.out _)))
     refine Oc ?_;rintro _ ⟨kw,rfl⟩;have HK:=qD kw.below;generalize kw.val=w5 at*;clear X0 Y0 K1;cases hs:bK r.p q.p
     ·have HF:Hid ((ks.take i).any (fun e=>bK e.p q.p)=((ks.take i).drop (j+1)).any (fun e=>bK e.p q.p)):=by rw[Hid,HN.out,HY2.out,hs];rfl
      go_wp2_with fail;go_roundw
      ·exact⟨j+1,by omega,by go_num,HF.out,HB2.out.Ml HK.out⟩
      ·exact iO
     ·have HF:Hid (fZ ks=12):=by rw[Hid,HA.out,HY.out,OW (by rw[HN.out,HY2.out,hs];rfl)]
      go_wp2;go_ret;exact⟨by rw[HF.out];rfl,HB2.out.Ml HK.out⟩
    ·have HF:Hid (fZ ks=lV (ks.take (i+1)) (ks.drop (i+1))):=by
      rw[Hid,HA.out,HY.out,OQ];rw[HN.out,Og sO];simp
     clear hbel2;go_wp2_with fail;go_roundw
     ·exact⟨i+1,by omega,by go_num,HF.out,HB2.out⟩
     ·exact iO
  ·have HF:Hid (fZ ks=0):=by rw[Hid,HA.out];exact yJ (by have:=hln.out;omega)
   clear hbel;go_wp2;go_ret;exact⟨by rw[HF.out];rfl,HB.out⟩
theorem sj(ks:List Od)(ha:Bool)(A:Option Addr)(n c:Nat)(w:World)(h:KS w A n c ks):
 Calls prog 6 #[.agg #[.slice A n c,.bool ha]] w (Rt w (.int .i64 (il ks ha))):=by
 have hln:=qD h.ln;have hz:n<=140737488355328:=by obtain⟨os,h⟩:=h;have:=h.sz;unfold aF at this;omega
 have H:=qD h;clear h;have HB0:Hid (aG (w.alloc (.cells #[.slice A n c,.bool ha] 24)) w.heap.size 24 #[.slice A n c,.bool ha]):=aG.Mm rfl;have HZ:=qD ((OG w.heap.size w).alloc (qL) (Obj.cells #[.slice A n c,.bool ha] 24));go_enter func6,ntmps6;go_wp2_with fail;refine(Ah ks _ _ _ _ (H.out.step HZ.out)).mono ?_;rintro e w1 ⟨rfl,hb⟩;have HB1:=qD (HZ.out.Ml hb);have k0:=(HB0.out.step hb).cell 0;have k1:=(HB0.out.step hb).cell 1;simp at k0 k1;have HBk:=qD (HB0.out.step hb);clear hb;by_cases ho:fZ ks=0
 ·have HO:Hid (il ks ha=if ks.length=0\/(ha=true/\1<ks.length) then 11 else if ks.any (·.d) then 11 else 0):=by unfold Hid il;rw[OQ (by simp[ho])]
  rw[ho];by_cases hn0:n=0
  ·have HF:Hid (il ks ha=11):=by rw[Hid,HO.out,OW (.inl (by have:=hln.out;omega))]
   subst hn0;go_wp2;go_ret;exact⟨by rw[HF.out];rfl,HB1.out⟩
  by_cases hh:ha=true/\1<n
  ·have HF:Hid (il ks ha=11):=by rw[Hid,HO.out,OW (.inr ⟨hh.1,by have:=hln.out;omega⟩)]
   obtain⟨rfl,h1⟩:=hh;go_wp2;go_ret;exact⟨by rw[HF.out];rfl,HB1.out⟩
  have HF:Hid (il ks ha=if ks.any (·.d) then 11 else 0):=by rw[Hid,HO.out,OQ (by have:=hln.out;rintro(h|⟨h,h'⟩);omega;exact hh ⟨h,by omega⟩)]
  have hn1:((n:Int)==0)=false:=by simp;omega
  have hh1:ha=true->(n:Int)<=1:=fun h=>by rcases Qn 1 n with h1|h1;exact absurd ⟨h,h1⟩ hh;omega
  obtain⟨os,hko⟩:=H.out;have HKO:=qD hko;clear hko hh hn0;cases ha
  all_goals
   first|have hh2:(n:Int)<=1:=hh1 rfl|skip
   clear hh1;go_wp2_with fail;clear k0 k1
   go_loopw [4] (fun v wr=>∃i:Nat,i<=n/\v=.int .i64 i/\ks.any (·.d)=(ks.drop i).any (·.d)/\Bl w1 wr) (fun v _=>n-(intOf v).toNat)
   ·exact⟨0,ON _,rfl,rfl,OG _ _⟩
   case round=>
    obtain⟨i,hi,rfl,hany,hbel⟩:=hrel;have HA:=qD hany;have HB:=qD hbel;have k0:=(HBk.out.step hbel).cell 0;simp at k0;clear hany;by_cases hlt:i<n
    ·obtain⟨b,off,x,hA,hb,hx,e0,e1⟩:=HKO.out.sr.Ng hlt;obtain⟨q,hq⟩:∃q,ks[i]?=some q:=⟨_,OH (by have:=hln.out;omega)⟩;subst hA;have HOR:=qD (HKO.out.el i x q hx hq);have HX:=qD (cU hq);have g1:=((HB1.out.Ml hbel).cell (p:=⟨b,off+i*2+1,none⟩) hb).trans e1;obtain⟨xA,xn,xc,xd⟩:=x;have hd:=HOR.out.d;simp only at g1 hd;subst hd;clear hx hq e0 e1 hbel;cases hqd:q.d
     ·have HN:Hid (ks.any (·.d)=(ks.drop (i+1)).any (·.d)):=by rw[Hid,HA.out,HX.out,TH,hqd];rfl
      rw[hqd] at g1;go_wp2_with fail;go_roundw
      ·exact⟨i+1,by omega,by go_num,HN.out,HB.out⟩
      ·exact iO
     ·have HN:=qD (HF.out.trans (OW (by rw[HA.out,HX.out,TH,hqd];rfl)));rw[hqd] at g1;go_wp2;go_ret;exact⟨by rw[HN.out];rfl,HB1.out.Ml HB.out⟩
    ·have HN:=qD (HF.out.trans (OQ (by rw[HA.out,Og (by have:=hln.out;omega)];simp)));clear hbel;go_wp2;go_ret;exact⟨by rw[HN.out];rfl,HB1.out.Ml HB.out⟩
 ·have HF:Hid (il ks ha=fZ ks):=by unfold Hid il;rw[OW ho]
  have ho':(fZ ks != 0)=true:=by simpa using ho
  go_wp2;go_ret;exact⟨by rw[HF.out];rfl,HB1.out⟩
end
end Go.Proofs.YtgfoliedmhgpnaaGreatDoor
