/- Parts of the proof, joined: ChKeys. -/
import Derived.Test.YthfahkaadbdicaaGreatDoorRt1
import Derived.Test.YthfahkaadbdicaaGreatDoorRt12
set_option maxRecDepth 100000
set_option maxHeartbeats 16000000
set_option linter.unusedSimpArgs false
open Go.Proofs.Tryz
open ByteArray (empty)
namespace Go.Proofs.YthfahkaadbdicaaGreatDoor
open Go.RowKit
theorem kr:∀{l m:List ByteArray},l.length≠m.length->ah l m=false
 | [],[],h=>absurd rfl h
 | [],_::_,_=>rfl
 | _::_,[],_=>rfl
 | a::r,b::s,h=>by rw[ah,kr (l:=r) (m:=s) (by simpa using h)];simp
theorem pP{l m:List ByteArray}{i:Nat}{x y:ByteArray}(hx:l[i]?=some x)(hy:m[i]?=some y):ah (l.drop i) (m.drop i)=((x.toList==y.toList)&&ah (l.drop (i+1)) (m.drop (i+1))):=by rw[bM hx,bM hy,ah]
theorem nJ{l m:List ByteArray}{i:Nat}(h1:l.length<=i)(h2:m.length<=i):ah (l.drop i) (m.drop i)=true:=by rw[La h1,La h2];rfl
theorem eG(l m:List ByteArray)(A B:Option Addr)(n c k d:Nat)(w:World)(h:ST w A n c l)(h':ST w B k d m):
 Calls prog 92 #[.slice A n c,.slice B k d] w fun e w'=>e=.returned (.bool (ah l m))/\Below w.heap.size w w':=by
 have hz:n<=140737488355328:=by have:=h.sz;unfold aF at this;omega
 have hk:k<=140737488355328:=by have:=h'.sz;unfold aF at this;omega
 have H:=qD h;have H':=qD h';clear h h';by_cases hnk:n=k
 ·subst hnk;go_enter func92,ntmps92;go_wp2_with fail
  go_loopw [13] (fun v wr=>∃i:Nat,i<=n/\v=.int .i64 i/\ah l m=ah (l.drop i) (m.drop i)/\Below w.heap.size w wr) (fun v _=>n-(intOf v).toNat)
  ·exact⟨0,LQ _,rfl,rfl,LH _ _⟩
  case round=>
   obtain⟨i,hi,rfl,ha,hbel⟩:=hrel;have HA:=qD ha;have HB:=qD hbel;clear ha;by_cases hlt:i<n
   ·obtain⟨b,off,x,hA,hb,hx,e0⟩:=H.out.sr.Ko hlt;obtain⟨b',off',y,hA',hb',hy,f0⟩:=H'.out.sr.Ko hlt;subst hA hA';have HX:=qD (pP hx hy);have e1:=(hbel.cell (p:=⟨b,off+i,none⟩) hb).trans e0;have f1:=(hbel.cell (p:=⟨b',off'+i,none⟩) hb').trans f0;have X0:∀kk:BW wr,kk.val.cell? ⟨b,off+i,none⟩=some (.string x):=fun kk=>kk.cell e1;have Y0:∀kk:BW wr,kk.val.cell? ⟨b',off'+i,none⟩=some (.string y):=fun kk=>kk.cell f1;have i0:(0:Int)<=(i:Int):=by omega
    have i1:(i:Int)<(n:Int):=by omega
    clear hx hy e0 f0 hbel;go_upto_region 6 with fail
    clear e1 f1;refine aL (by kernel_rfl) (by kernel_rfl) ?_
    repeat(go_big_quiet_step (fail))
    refine Ln ?_;rintro _ ⟨kw,rfl⟩;have HK:=qD kw.below;generalize kw.val=w5 at*;clear X0 Y0;cases hq:(x.toList==y.toList)
    ·have HF:Hid (ah l m=false):=by rw[Hid,HA.out,HX.out,hq];rfl
     go_wp2_with fail;go_ret;exact⟨by rw[HF.out];rfl,HB.out.Jp HK.out⟩
    ·have HF:Hid (ah l m=ah (l.drop (i+1)) (m.drop (i+1))):=by rw[Hid,HA.out,HX.out,hq];rfl
     go_wp2_with fail;go_roundw
     ·exact⟨i+1,by omega,by go_num,HF.out,HB.out.Jp HK.out⟩
     ·simp[intOf];omega
   ·have HF:Hid (ah l m=true):=by rw[Hid,HA.out];exact nJ (by have:=H.out.sr.ln;omega) (by have:=H'.out.sr.ln;omega)
    clear hbel;go_wp2_with fail;go_ret;exact⟨by rw[HF.out];rfl,HB.out⟩
 ·have HF:Hid (ah l m=false):=kr (by have:=H.out.sr.ln;have:=H'.out.sr.ln;omega);have hnk':((n:Int) != (k:Int))=true:=by simp;omega
  go_enter func92,ntmps92;go_wp2_with fail;go_ret;exact⟨by rw[HF.out];rfl,LH _ _⟩
theorem zv{l:List Od}{i:Nat}{o:Od}(h:l[i]?=some o):kE (l.take i) (l.drop i)=if du o.p=false then 10 else if(l.take i).any (fun e=>ah e.p o.p) then 12 else kE (l.take (i+1)) (l.drop (i+1)):=by
 rw[bM h,kE,MW,h];rfl
theorem uy{l:List Od}{i:Nat}(h:l.length<=i):kE (l.take i) (l.drop i)=0:=by rw[La h,kE]
theorem Aw(ks:List Od)(A:Option Addr)(n c:Nat)(w:World)(h:KS w A n c ks):
 Calls prog 73 #[.slice A n c] w fun e w'=>e=.returned (.int .i64 (fT ks))/\Below w.heap.size w w':=by
 have hln:=qD h.ln;obtain⟨os,h⟩:=h;have hz:n<=140737488355328:=by have:=h.sz;unfold aF at this;omega
 have hc:=h.sr.lc;have H:=qD h;clear h;by_cases h8:8<n
 ·have HV:Hid (fT ks=2):=by unfold Hid fT;rw[LZ (by have:=hln.out;omega)]
  go_enter func73,ntmps73;go_wp2_with fail;go_ret;exact⟨by rw[HV.out];rfl,LH _ _⟩
 have HV:Hid (fT ks=kE (ks.take 0) (ks.drop 0)):=by unfold Hid fT;rw[LU (by have:=hln.out;omega)];rfl
 go_enter func73,ntmps73;go_wp2_with fail
 go_loopw [12] (fun v wr=>∃i:Nat,i<=n/\v=.int .i64 i/\fT ks=kE (ks.take i) (ks.drop i)/\Below w.heap.size w wr) (fun v _=>n-(intOf v).toNat)
 ·exact⟨0,LQ _,rfl,HV.out,LH _ _⟩
 case round=>
  obtain⟨i,hi,rfl,ha,hbel⟩:=hrel;have HA:=qD ha;have HB:=qD hbel;clear ha;by_cases hlt:i<n
  ·obtain⟨b,off,x,hA,hb,hx,e0,e1⟩:=H.out.sr.Kq hlt;obtain⟨q,hq⟩:∃q,ks[i]?=some q:=⟨_,LI (by have:=hln.out;omega)⟩;subst hA;have HOR:=qD (H.out.el i x q hx hq);have HX:=qD (zv hq);have g0:=(hbel.cell (p:=⟨b,off+i*2,none⟩) hb).trans e0;have g1:=(hbel.cell (p:=⟨b,off+i*2+1,none⟩) hb).trans e1;have hb2:b<wr.heap.size:=by have:=hbel.size;omega
   obtain⟨xA,xn,xc,xd⟩:=x;have HBA:=qD ((LH wr.heap.size wr).alloc (qL) (Obj.cells #[.slice xA xn xc,.bool xd] 66));have HB5:Hid (aE (wr.alloc (.cells #[.slice xA xn xc,.bool xd] 66)) wr.heap.size 66 #[.slice xA xn xc,.bool xd]):=aE.Jq rfl;clear hx hq e0 e1 hbel;simp only at g0 g1;go_wp2_with fail;refine(Cs q.p _ _ _ _ (HOR.out.st.step (HB.out.Jp HBA.out))).mono ?_;rintro e w1 ⟨rfl,rfl⟩;cases hp:du q.p
   ·have HF:Hid (fT ks=10):=by rw[Hid,HA.out,HX.out,LZ hp]
    go_wp2_with fail;go_ret;exact⟨by rw[HF.out];rfl,HB.out.Jp HBA.out⟩
   have HY:Hid (kE (ks.take i) (ks.drop i)=if(ks.take i).any (fun e=>ah e.p q.p) then 12 else kE (ks.take (i+1)) (ks.drop (i+1))):=by rw[Hid,HX.out,LU (by rw[hp];simp)]
   have hic:i<=c:=by omega
   have HW:=qD (HB.out.Jp HBA.out);obtain⟨g,hg⟩:∃g,g=wr.heap.size:=⟨_,rfl⟩;have hwg:w.heap.size<=g:=by rw[hg];exact HB.out.size
   rw[<-hg] at HB5 ⊢;generalize wr.alloc (.cells #[.slice xA xn xc,.bool xd] 66)=w5 at*;clear hg HX hp g0 g1 HBA;go_wp2_with fail
   go_loopw [25] (fun v wr=>∃j:Nat,j<=i/\v=.int .i64 j/\(ks.take i).any (fun e=>ah e.p q.p)=((ks.take i).drop j).any (fun e=>ah e.p q.p)/\aE wr g 66 #[.slice xA xn xc,.bool xd]/\Below w.heap.size w wr) (fun v _=>i-(intOf v).toNat)
   ·exact⟨0,LQ _,rfl,rfl,HB5.out,HW.out⟩
   case round=>
    obtain⟨j,hj,rfl,hany,hblk,hbel2⟩:=hrel;have HN:=qD hany;have HBl:=qD hblk;have HB2:=qD hbel2;clear hany;by_cases hjl:j<i
    ·obtain⟨b2,off2,y,hA2,hbb,hy,e0,e1⟩:=H.out.sr.Kq (i:=j) (by omega);obtain⟨r,hr⟩:∃r,ks[j]?=some r:=⟨_,LI (by have:=hln.out;omega)⟩;injection hA2 with hA2
     injection hA2 with hb1 ho1
     subst hb1 ho1;have HOR2:=qD (H.out.el j y r hy hr)
     have HY2:Hid (((ks.take i).drop j).any (fun e=>ah e.p q.p)=(ah r.p q.p||((ks.take i).drop (j+1)).any (fun e=>ah e.p q.p))):=by
      rw[Hid,bM (show(ks.take i)[j]?=some r by rw[Nd,LZ hjl];exact hr)];rfl
     have g0:=(hbel2.cell (p:=⟨b,off+j*2,none⟩) hb).trans e0;have g1:=(hbel2.cell (p:=⟨b,off+j*2+1,none⟩) hb).trans e1;have k0:=hblk.cell 0;simp at k0;have hgl:=hblk.lt;obtain⟨yA,yn,yc,yd⟩:=y;have HBA:=qD (HB2.out.alloc HB2.out.size (Obj.cells #[.slice yA yn yc,.bool yd] 66));have HB6:=qD (HBl.out.alloc (.cells #[.slice yA yn yc,.bool yd] 66));clear hy hr e0 e1 hbel2 hblk;simp only at g0 g1;go_wp2_with fail;refine(eG r.p q.p _ _ _ _ _ _ _ (HOR2.out.st.step HBA.out) (HOR.out.st.step HBA.out)).mono ?_;rintro e w1 ⟨rfl,hb3⟩;have HB3:=qD (HBA.out.Jp hb3);have HBl3:=qD (HB6.out.step hb3);clear hb3;cases hs:ah r.p q.p
     ·have HF:Hid ((ks.take i).any (fun e=>ah e.p q.p)=((ks.take i).drop (j+1)).any (fun e=>ah e.p q.p)):=by rw[Hid,HN.out,HY2.out,hs];rfl
      go_wp2_with fail;go_roundw
      ·exact⟨j+1,by omega,by go_num,HF.out,HBl3.out,HB3.out⟩
      ·simp[intOf];omega
     ·have HF:Hid (fT ks=12):=by rw[Hid,HA.out,HY.out,LZ (by rw[HN.out,HY2.out,hs];rfl)]
      go_wp2_with fail;go_ret;exact⟨by rw[HF.out];rfl,HB3.out⟩
    ·have HF:Hid (fT ks=kE (ks.take (i+1)) (ks.drop (i+1))):=by
      rw[Hid,HA.out,HY.out,LU];rw[HN.out,La (by simp;omega)];simp
     clear hbel2 hblk;go_wp2_with fail;go_roundw
     ·exact⟨i+1,by omega,by go_num,HF.out,HB2.out⟩
     ·simp[intOf];omega
  ·have HF:Hid (fT ks=0):=by rw[Hid,HA.out];exact uy (by have:=hln.out;omega)
   clear hbel;go_wp2_with fail;go_ret;exact⟨by rw[HF.out];rfl,HB.out⟩
theorem mb(ks:List Od)(ha:Bool)(A:Option Addr)(n c:Nat)(w:World)(h:KS w A n c ks):
 Calls prog 29 #[.agg #[.slice A n c,.bool ha]] w fun e w'=>e=.returned (.int .i64 (gO ks ha))/\Below w.heap.size w w':=by
 have hln:=qD h.ln;have hz:n<=140737488355328:=by obtain⟨os,h⟩:=h;have:=h.sz;unfold aF at this;omega
 have H:=qD h;clear h;have HB0:Hid (aE (w.alloc (.cells #[.slice A n c,.bool ha] 24)) w.heap.size 24 #[.slice A n c,.bool ha]):=aE.Jq rfl;have HZ:=qD ((LH w.heap.size w).alloc (qL) (Obj.cells #[.slice A n c,.bool ha] 24));go_enter func29,ntmps29;go_wp2_with fail;refine(Aw ks _ _ _ _ (H.out.step HZ.out)).mono ?_;rintro e w1 ⟨rfl,hb⟩;have HB1:=qD (HZ.out.Jp hb);have k0:=(HB0.out.step hb).cell 0;have k1:=(HB0.out.step hb).cell 1;simp at k0 k1;have HBk:=qD (HB0.out.step hb);clear hb;by_cases ho:fT ks=0
 ·have HO:Hid (gO ks ha=if ks.length=0\/(ha=true/\1<ks.length) then 11 else if ks.any (·.d) then 11 else 0):=by unfold Hid gO;rw[LU (by simp[ho])]
  rw[ho];by_cases hn0:n=0
  ·have HF:Hid (gO ks ha=11):=by rw[Hid,HO.out,LZ (.inl (by have:=hln.out;omega))]
   subst hn0;go_wp2_with fail;go_ret;exact⟨by rw[HF.out];rfl,HB1.out⟩
  by_cases hh:ha=true/\1<n
  ·have HF:Hid (gO ks ha=11):=by rw[Hid,HO.out,LZ (.inr ⟨hh.1,by have:=hln.out;omega⟩)]
   obtain⟨rfl,h1⟩:=hh;go_wp2_with fail;go_ret;exact⟨by rw[HF.out];rfl,HB1.out⟩
  have HF:Hid (gO ks ha=if ks.any (·.d) then 11 else 0):=by rw[Hid,HO.out,LU (by have:=hln.out;rintro(h|⟨h,h'⟩);omega;exact hh ⟨h,by omega⟩)]
  have hn1:((n:Int)==0)=false:=by simp;omega
  have hh1:ha=true->(n:Int)<=1:=fun h=>by rcases NS 1 n with h1|h1;exact absurd ⟨h,h1⟩ hh;omega
  obtain⟨os,hko⟩:=H.out;have HKO:=qD hko;clear hko hh hn0;cases ha
  all_goals
   first|have hh2:(n:Int)<=1:=hh1 rfl|skip
   clear hh1;go_wp2_with fail
   go_loopw [29] (fun v wr=>∃i:Nat,i<=n/\v=.int .i64 i/\ks.any (·.d)=(ks.drop i).any (·.d)/\Below w.heap.size w wr) (fun v _=>n-(intOf v).toNat)
   ·exact⟨0,LQ _,rfl,rfl,HB1.out⟩
   case round=>
    obtain⟨i,hi,rfl,hany,hbel⟩:=hrel;have HA:=qD hany;have HB:=qD hbel;clear hany;by_cases hlt:i<n
    ·obtain⟨b,off,x,hA,hb,hx,e0,e1⟩:=HKO.out.sr.Kq hlt;obtain⟨q,hq⟩:∃q,ks[i]?=some q:=⟨_,LI (by have:=hln.out;omega)⟩;subst hA;have HOR:=qD (HKO.out.el i x q hx hq);have HX:=qD (bM hq);have g0:=(hbel.cell (p:=⟨b,off+i*2,none⟩) hb).trans e0;have g1:=(hbel.cell (p:=⟨b,off+i*2+1,none⟩) hb).trans e1;have hb2:b<wr.heap.size:=by have:=hbel.size;omega
     obtain⟨xA,xn,xc,xd⟩:=x;have hd:=HOR.out.d;simp only at g0 g1 hd;subst hd;have HBA:=qD (HB.out.alloc HB.out.size (Obj.cells #[.slice xA xn xc,.bool q.d] 66));clear hx hq e0 e1 hbel;cases hqd:q.d
     ·have HN:Hid (ks.any (·.d)=(ks.drop (i+1)).any (·.d)):=by rw[Hid,HA.out,HX.out,Py,hqd];rfl
      rw[hqd] at g1 HBA;go_wp2_with fail;go_roundw
      ·exact⟨i+1,by omega,by go_num,HN.out,HBA.out⟩
      ·simp[intOf];omega
     ·have HN:=qD (HF.out.trans (LZ (by rw[HA.out,HX.out,Py,hqd];rfl)));rw[hqd] at g1 HBA;go_wp2_with fail;go_ret;exact⟨by rw[HN.out];rfl,HBA.out⟩
    ·have HN:=qD (HF.out.trans (LU (by rw[HA.out,La (by have:=hln.out;omega)];simp)));clear hbel;go_wp2_with fail;go_ret;exact⟨by rw[HN.out];rfl,HB.out⟩
 ·have HF:Hid (gO ks ha=fT ks):=by unfold Hid gO;rw[LZ ho]
  have ho':(fT ks != 0)=true:=by simpa using ho
  go_wp2_with fail;go_ret;exact⟨by rw[HF.out];rfl,HB1.out⟩
theorem pQ:∀(l m:List ByteArray),ah l m=ah m l
 | [],[]=>rfl
 | [],_::_=>rfl
 | _::_,[]=>rfl
 | a::r,b::s=>by
  rw[ah,ah,pQ r s]
  congr 1
  rw[Lg,Ns,Ns];exact eq_comm
theorem nK(l:List ByteArray)(A:Option Addr)(n c:Nat)(w:World)(h:ST w A n c l):
 Calls prog 58 #[.slice A n c] w fun e w'=>e=.returned (.bool (du l))/\w'=w:=by
 have hz:n<=140737488355328:=by have:=h.sz;unfold aF at this;omega
 have H:=qD h;have hn:=qD h.sr.ln;clear h;by_cases h1:n<1
 ·have HV:Hid (du l=false):=by unfold Hid du;rw[<-hn.out,LW (by omega)];rfl
  go_enter func58,ntmps58;go_wp2_with fail;go_ret;exact⟨by rw[HV.out];rfl,rfl⟩
 by_cases h2:16<n
 ·have HV:Hid (du l=false):=by unfold Hid du;rw[<-hn.out,LN (by omega),LW (by omega)];rfl
  go_enter func58,ntmps58;go_wp2_with fail;go_ret;exact⟨by rw[HV.out];rfl,rfl⟩
 have HV:Hid (du l=(l.drop 0).all aN):=by unfold Hid du;rw[<-hn.out,LN (by omega),LN (by omega)];rfl
 go_enter func58,ntmps58;go_wp2_with fail
 go_loopw [3] (fun v wr=>∃i:Nat,i<=n/\v=.int .i64 i/\du l=(l.drop i).all aN/\wr=w) (fun v _=>n-(intOf v).toNat)
 ·exact⟨0,LQ _,rfl,HV.out,rfl⟩
 case round=>
  obtain⟨i,hi,rfl,ha,rfl⟩:=hrel;have HA:=qD ha;clear ha;by_cases hlt:i<n
  ·obtain⟨b,off,x,hA,hb,hx,e0⟩:=H.out.sr.Ko hlt;subst hA;have HX:=qD (bM hx);clear hx;go_wp2_with fail;refine(gi x _).mono ?_;rintro e w1 ⟨rfl,rfl⟩;cases hq:aN x
   ·have HF:Hid (du l=false):=by rw[Hid,HA.out,HX.out,QQ,hq];rfl
    go_wp2_with fail;go_ret;exact⟨by rw[HF.out];rfl,rfl⟩
   ·have HF:Hid (du l=(l.drop (i+1)).all aN):=by rw[Hid,HA.out,HX.out,QQ,hq];rfl
    go_wp2_with fail;go_roundw
    ·exact⟨i+1,by omega,by go_num,HF.out,trivial⟩
    ·simp[intOf];omega
  ·have HF:Hid (du l=true):=by rw[Hid,HA.out,La (by have:=hn.out;omega)];rfl
   go_wp2_with fail;go_ret;exact⟨by rw[HF.out];rfl,rfl⟩
theorem uz(l m:List ByteArray)(A B:Option Addr)(n c k d:Nat)(w:World)(h:ST w A n c l)(h':ST w B k d m):
 Calls prog 59 #[.slice A n c,.slice B k d] w fun e w'=>e=.returned (.bool (ah l m))/\Below w.heap.size w w':=by
 have hz:n<=140737488355328:=by have:=h.sz;unfold aF at this;omega
 have hk:k<=140737488355328:=by have:=h'.sz;unfold aF at this;omega
 have H:=qD h;have H':=qD h';clear h h';by_cases hnk:n=k;rotate_left
 ·have HF:Hid (ah l m=false):=kr (by have:=H.out.sr.ln;have:=H'.out.sr.ln;omega);have hnk':((n:Int) != (k:Int))=true:=by simp;omega
  go_enter func59,ntmps59;go_wp2_with fail;go_ret;exact⟨by rw[HF.out];rfl,LH _ _⟩
 subst hnk;go_enter func59,ntmps59;go_wp2_with fail
 go_loopw [5] (fun v wr=>∃i:Nat,i<=n/\v=.int .i64 i/\ah l m=ah (l.drop i) (m.drop i)/\Below w.heap.size w wr) (fun v _=>n-(intOf v).toNat)
 ·exact⟨0,LQ _,rfl,rfl,LH _ _⟩
 case round=>
  obtain⟨i,hi,rfl,ha,hbel⟩:=hrel;have HA:=qD ha;have HB:=qD hbel;clear ha;by_cases hlt:i<n
  ·obtain⟨b,off,x,hA,hb,hx,e0⟩:=H.out.sr.Ko hlt;obtain⟨b',off',y,hA',hb',hy,f0⟩:=H'.out.sr.Ko hlt;subst hA hA';have HX:=qD (pP hx hy);have e1:=(hbel.cell (p:=⟨b,off+i,none⟩) hb).trans e0;have f1:=(hbel.cell (p:=⟨b',off'+i,none⟩) hb').trans f0;have X0:∀kk:BW wr,kk.val.cell? ⟨b,off+i,none⟩=some (.string x):=fun kk=>kk.cell e1;have Y0:∀kk:BW wr,kk.val.cell? ⟨b',off'+i,none⟩=some (.string y):=fun kk=>kk.cell f1;have i0:(0:Int)<=(i:Int):=by omega
   have i1:(i:Int)<(n:Int):=by omega
   clear hx hy e0 f0 hbel;go_upto_region 6 with fail
   clear e1 f1;refine aL (by kernel_rfl) (by kernel_rfl) ?_
   repeat(go_big_quiet_step (fail))
   refine Ln ?_;rintro _ ⟨kw,rfl⟩;have HK:=qD kw.below;generalize kw.val=w5 at*;clear X0 Y0;cases hq:(x.toList==y.toList)
   ·have HF:Hid (ah l m=false):=by rw[Hid,HA.out,HX.out,hq];rfl
    go_wp2_with fail;go_ret;exact⟨by rw[HF.out];rfl,HB.out.Jp HK.out⟩
   ·have HF:Hid (ah l m=ah (l.drop (i+1)) (m.drop (i+1))):=by rw[Hid,HA.out,HX.out,hq];rfl
    go_wp2_with fail;go_roundw
    ·exact⟨i+1,by omega,by go_num,HF.out,HB.out.Jp HK.out⟩
    ·simp[intOf];omega
  ·have HF:Hid (ah l m=true):=by rw[Hid,HA.out];exact nJ (by have:=H.out.sr.ln;omega) (by have:=H'.out.sr.ln;omega)
   clear hbel;go_wp2_with fail;go_ret;exact⟨by rw[HF.out];rfl,HB.out⟩
theorem xy(ks:List Od)(A:Option Addr)(n c:Nat)(w:World)(h:KS w A n c ks):
 Calls prog 21 #[.slice A n c] w fun e w'=>e=.returned (.int .i64 (fT ks))/\Below w.heap.size w w':=by
 have hln:=qD h.ln;obtain⟨os,h⟩:=h;have hz:n<=140737488355328:=by have:=h.sz;unfold aF at this;omega
 have hc:=h.sr.lc;have H:=qD h;clear h;by_cases h8:8<n
 ·have HV:Hid (fT ks=2):=by unfold Hid fT;rw[LZ (by have:=hln.out;omega)]
  go_enter func21,ntmps21;go_wp2_with fail;go_ret;exact⟨by rw[HV.out];rfl,LH _ _⟩
 have HV:Hid (fT ks=kE (ks.take 0) (ks.drop 0)):=by unfold Hid fT;rw[LU (by have:=hln.out;omega)];rfl
 go_enter func21,ntmps21;go_wp2_with fail
 go_loopw [3] (fun v wr=>∃i:Nat,i<=n/\v=.int .i64 i/\fT ks=kE (ks.take i) (ks.drop i)/\Below w.heap.size w wr) (fun v _=>n-(intOf v).toNat)
 ·exact⟨0,LQ _,rfl,HV.out,LH _ _⟩
 case round=>
  obtain⟨i,hi,rfl,ha,hbel⟩:=hrel;have HA:=qD ha;have HB:=qD hbel;clear ha;by_cases hlt:i<n
  ·obtain⟨b,off,x,hA,hb,hx,e0,e1⟩:=H.out.sr.Kq hlt;obtain⟨q,hq⟩:∃q,ks[i]?=some q:=⟨_,LI (by have:=hln.out;omega)⟩;subst hA;have HOR:=qD (H.out.el i x q hx hq);have HX:=qD (zv hq);have HE0:=qD e0;have g0:=(hbel.cell (p:=⟨b,off+i*2,none⟩) hb).trans e0;obtain⟨xA,xn,xc,xd⟩:=x;clear hx hq e0 e1 hbel;simp only at g0;go_wp2_with fail;refine(nK q.p _ _ _ _ (HOR.out.st.step HB.out)).mono ?_;rintro e w1 ⟨rfl,rfl⟩;cases hp:du q.p
   ·have HF:Hid (fT ks=10):=by rw[Hid,HA.out,HX.out,LZ hp]
    go_wp2_with fail;go_ret;exact⟨by rw[HF.out];rfl,HB.out⟩
   have HY:Hid (kE (ks.take i) (ks.drop i)=if(ks.take i).any (fun e=>ah e.p q.p) then 12 else kE (ks.take (i+1)) (ks.drop (i+1))):=by
    rw[Hid,HX.out,LU (by rw[hp];simp)]
   have hic:i<=c:=by omega
   clear HX hp g0;go_wp2_with fail;obtain⟨wo,hwo⟩:∃wo:World,wo=w1:=⟨_,rfl⟩;rw[<-hwo] at HB ⊢;clear hwo
   go_loopw [4] (fun v wr=>∃j:Nat,j<=i/\v=.int .i64 j/\(ks.take i).any (fun e=>ah e.p q.p)=((ks.take i).drop j).any (fun e=>ah e.p q.p)/\Below w.heap.size w wr) (fun v _=>i-(intOf v).toNat)
   ·exact⟨0,LQ _,rfl,rfl,HB.out⟩
   case round=>
    obtain⟨j,hj,rfl,hany,hbel2⟩:=hrel;have HN:=qD hany;have HB2:=qD hbel2;clear hany;by_cases hjl:j<i
    ·obtain⟨b2,off2,y,hA2,hbb,hy,e0,e1⟩:=H.out.sr.Kq (i:=j) (by omega);obtain⟨r,hr⟩:∃r,ks[j]?=some r:=⟨_,LI (by have:=hln.out;omega)⟩;injection hA2 with hA2
     injection hA2 with hb1 ho1
     subst hb1 ho1;have HOR2:=qD (H.out.el j y r hy hr)
     have HY2:Hid (((ks.take i).drop j).any (fun e=>ah e.p q.p)=(ah r.p q.p||((ks.take i).drop (j+1)).any (fun e=>ah e.p q.p))):=by
      rw[Hid,bM (show(ks.take i)[j]?=some r by rw[Nd,LZ hjl];exact hr)];rfl
     have g1:=(hbel2.cell (p:=⟨b,off+j*2,none⟩) hb).trans e0;have g0:=(hbel2.cell (p:=⟨b,off+i*2,none⟩) hb).trans HE0.out;obtain⟨yA,yn,yc,yd⟩:=y;clear hy hr e0 e1 hbel2;simp only at g0 g1;have X0:∀kk:BW wr,kk.val.cell? ⟨b,off+i*2,none⟩=some (.slice xA xn xc):=fun kk=>kk.cell g0;have Y0:∀kk:BW wr,kk.val.cell? ⟨b,off+j*2,none⟩=some (.slice yA yn yc):=fun kk=>kk.cell g1
     have K1:Hid (∀kk:BW wr,Calls prog 59 #[.slice xA xn xc,.slice yA yn yc] kk.val fun e w''=>e=.returned (.bool (ah r.p q.p))/\∃kk:BW wr,w''=kk.val):=fun kk=>
      Calls.bw (by rw[pQ r.p q.p];exact uz q.p r.p _ _ _ _ _ _ _ (HOR.out.st.step (HB2.out.Jp kk.below)) (HOR2.out.st.step (HB2.out.Jp kk.below)))
     have i0:(0:Int)<=(i:Int):=by omega
     have i1:(i:Int)<(n:Int):=by omega
     have j0:(0:Int)<=(j:Int):=by omega
     have j1:(j:Int)<(n:Int):=by omega
     go_upto_region 11 with fail
     clear g0 g1;refine aL (by kernel_rfl) (by kernel_rfl) ?_
     repeat(go_big_quiet_step ((go_at_call 59;with_reducible exact K1.out _)))
     refine Ln ?_;rintro _ ⟨kw,rfl⟩;have HK:=qD kw.below;generalize kw.val=w5 at*;clear X0 Y0 K1;cases hs:ah r.p q.p
     ·have HF:Hid ((ks.take i).any (fun e=>ah e.p q.p)=((ks.take i).drop (j+1)).any (fun e=>ah e.p q.p)):=by rw[Hid,HN.out,HY2.out,hs];rfl
      go_wp2_with fail;go_roundw
      ·exact⟨j+1,by omega,by go_num,HF.out,HB2.out.Jp HK.out⟩
      ·simp[intOf];omega
     ·have HF:Hid (fT ks=12):=by rw[Hid,HA.out,HY.out,LZ (by rw[HN.out,HY2.out,hs];rfl)]
      go_wp2_with fail;go_ret;exact⟨by rw[HF.out];rfl,HB2.out.Jp HK.out⟩
    ·have HF:Hid (fT ks=kE (ks.take (i+1)) (ks.drop (i+1))):=by
      rw[Hid,HA.out,HY.out,LU];rw[HN.out,La (by simp;omega)];simp
     clear hbel2;go_wp2_with fail;go_roundw
     ·exact⟨i+1,by omega,by go_num,HF.out,HB2.out⟩
     ·simp[intOf];omega
  ·have HF:Hid (fT ks=0):=by rw[Hid,HA.out];exact uy (by have:=hln.out;omega)
   clear hbel;go_wp2_with fail;go_ret;exact⟨by rw[HF.out];rfl,HB.out⟩
theorem qt(ks:List Od)(ha:Bool)(A:Option Addr)(n c:Nat)(w:World)(h:KS w A n c ks):
 Calls prog 6 #[.agg #[.slice A n c,.bool ha]] w fun e w'=>e=.returned (.int .i64 (gO ks ha))/\Below w.heap.size w w':=by
 have hln:=qD h.ln;have hz:n<=140737488355328:=by obtain⟨os,h⟩:=h;have:=h.sz;unfold aF at this;omega
 have H:=qD h;clear h;have HB0:Hid (aE (w.alloc (.cells #[.slice A n c,.bool ha] 24)) w.heap.size 24 #[.slice A n c,.bool ha]):=aE.Jq rfl;have HZ:=qD ((LH w.heap.size w).alloc (qL) (Obj.cells #[.slice A n c,.bool ha] 24));go_enter func6,ntmps6;go_wp2_with fail;refine(xy ks _ _ _ _ (H.out.step HZ.out)).mono ?_;rintro e w1 ⟨rfl,hb⟩;have HB1:=qD (HZ.out.Jp hb);have k0:=(HB0.out.step hb).cell 0;have k1:=(HB0.out.step hb).cell 1;simp at k0 k1;have HBk:=qD (HB0.out.step hb);clear hb;by_cases ho:fT ks=0
 ·have HO:Hid (gO ks ha=if ks.length=0\/(ha=true/\1<ks.length) then 11 else if ks.any (·.d) then 11 else 0):=by unfold Hid gO;rw[LU (by simp[ho])]
  rw[ho];by_cases hn0:n=0
  ·have HF:Hid (gO ks ha=11):=by rw[Hid,HO.out,LZ (.inl (by have:=hln.out;omega))]
   subst hn0;go_wp2_with fail;go_ret;exact⟨by rw[HF.out];rfl,HB1.out⟩
  by_cases hh:ha=true/\1<n
  ·have HF:Hid (gO ks ha=11):=by rw[Hid,HO.out,LZ (.inr ⟨hh.1,by have:=hln.out;omega⟩)]
   obtain⟨rfl,h1⟩:=hh;go_wp2_with fail;go_ret;exact⟨by rw[HF.out];rfl,HB1.out⟩
  have HF:Hid (gO ks ha=if ks.any (·.d) then 11 else 0):=by rw[Hid,HO.out,LU (by have:=hln.out;rintro(h|⟨h,h'⟩);omega;exact hh ⟨h,by omega⟩)]
  have hn1:((n:Int)==0)=false:=by simp;omega
  have hh1:ha=true->(n:Int)<=1:=fun h=>by rcases NS 1 n with h1|h1;exact absurd ⟨h,h1⟩ hh;omega
  obtain⟨os,hko⟩:=H.out;have HKO:=qD hko;clear hko hh hn0;cases ha
  all_goals
   first|have hh2:(n:Int)<=1:=hh1 rfl|skip
   clear hh1;go_wp2_with fail;clear k0 k1
   go_loopw [4] (fun v wr=>∃i:Nat,i<=n/\v=.int .i64 i/\ks.any (·.d)=(ks.drop i).any (·.d)/\Below w1.heap.size w1 wr) (fun v _=>n-(intOf v).toNat)
   ·exact⟨0,LQ _,rfl,rfl,LH _ _⟩
   case round=>
    obtain⟨i,hi,rfl,hany,hbel⟩:=hrel;have HA:=qD hany;have HB:=qD hbel;have k0:=(HBk.out.step hbel).cell 0;simp at k0;clear hany;by_cases hlt:i<n
    ·obtain⟨b,off,x,hA,hb,hx,e0,e1⟩:=HKO.out.sr.Kq hlt;obtain⟨q,hq⟩:∃q,ks[i]?=some q:=⟨_,LI (by have:=hln.out;omega)⟩;subst hA;have HOR:=qD (HKO.out.el i x q hx hq);have HX:=qD (bM hq);have g1:=((HB1.out.Jp hbel).cell (p:=⟨b,off+i*2+1,none⟩) hb).trans e1;obtain⟨xA,xn,xc,xd⟩:=x;have hd:=HOR.out.d;simp only at g1 hd;subst hd;clear hx hq e0 e1 hbel;cases hqd:q.d
     ·have HN:Hid (ks.any (·.d)=(ks.drop (i+1)).any (·.d)):=by rw[Hid,HA.out,HX.out,Py,hqd];rfl
      rw[hqd] at g1;go_wp2_with fail;go_roundw
      ·exact⟨i+1,by omega,by go_num,HN.out,HB.out⟩
      ·simp[intOf];omega
     ·have HN:=qD (HF.out.trans (LZ (by rw[HA.out,HX.out,Py,hqd];rfl)));rw[hqd] at g1;go_wp2_with fail;go_ret;exact⟨by rw[HN.out];rfl,HB1.out.Jp HB.out⟩
    ·have HN:=qD (HF.out.trans (LU (by rw[HA.out,La (by have:=hln.out;omega)];simp)));clear hbel;go_wp2_with fail;go_ret;exact⟨by rw[HN.out];rfl,HB1.out.Jp HB.out⟩
 ·have HF:Hid (gO ks ha=fT ks):=by unfold Hid gO;rw[LZ ho]
  have ho':(fT ks != 0)=true:=by simpa using ho
  go_wp2_with fail;go_ret;exact⟨by rw[HF.out];rfl,HB1.out⟩
end Go.Proofs.YthfahkaadbdicaaGreatDoor
