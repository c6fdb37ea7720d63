/- A part of the proof. -/
import Derived.Test.YtgfoliedmhgpnaaGreatDoorCn1
import Derived.Lib.ValidLaws
set_option maxRecDepth 100000
set_option maxHeartbeats 16000000
open Go.Proofs.Tryz
open ByteArray (empty)
namespace Go.Proofs.YtgfoliedmhgpnaaGreatDoor
section
variable {k b n i lo size:Nat} {r:List ByteArray} {s:ByteArray}
def ee(b:UInt8):Bool:=decide (128<=b.toNat)&&decide (b.toNat<=191)
def bQ(l:List UInt8)(n:Nat):Bool:=decide (n<=l.length)&&(l.take n).all ee
theorem MW(r:List UInt8)(lo hi:Nat)(hlo:128<=lo)(hhi:hi<=191):
 (match Lib.checkN (r.length+1) (r.getD 0 0).toNat (r.getD 1 0).toNat (r.getD 2 0).toNat 2 lo hi with|none=>false|some k=>Lib.validD (r.drop (k-1)))=(bQ r 1&&(decide (lo<=(r.getD 0 0).toNat)&&decide ((r.getD 0 0).toNat<=hi))&&Lib.validD (r.drop 1)):=by
 match r with
 | []=>simp[Lib.checkN,bQ]
 | a::r=>
  by_cases c1:lo<=a.toNat
  ·by_cases c2:a.toNat<=hi
   ·have c3:128<=a.toNat:=oM
    have c4:a.toNat<=191:=oM
    have e:¬(a.toNat<lo\/hi<a.toNat):=oM
    have e2:¬(r.length+1+1<2):=oM
    simp[Lib.checkN,bQ,ee,c1,c2,c3,c4,e,e2]
   ·have e:a.toNat<lo\/hi<a.toNat:=oM
    simp[Lib.checkN,bQ,c2,e]
  ·have e:a.toNat<lo\/hi<a.toNat:=oM
   simp[Lib.checkN,bQ,c1,e]
theorem MX(r:List UInt8)(lo hi:Nat)(hlo:128<=lo)(hhi:hi<=191):
 (match Lib.checkN (r.length+1) (r.getD 0 0).toNat (r.getD 1 0).toNat (r.getD 2 0).toNat 3 lo hi with|none=>false|some k=>Lib.validD (r.drop (k-1)))=(bQ r 2&&(decide (lo<=(r.getD 0 0).toNat)&&decide ((r.getD 0 0).toNat<=hi))&&Lib.validD (r.drop 2)):=by
 match r with
 | []=>simp[Lib.checkN,bQ]
 | [a]=>simp[Lib.checkN,bQ]
 | a::a2::r=>
  cases hc:ee a2
  ·have e:a.toNat<lo\/hi<a.toNat\/a2.toNat<128\/191<a2.toNat:=by
    unfold ee at hc;simp at hc;omega
   simp[Lib.checkN,bQ,hc,e]
  ·have h2:128<=a2.toNat/\a2.toNat<=191:=by unfold ee at hc;simpa using hc
   by_cases c1:lo<=a.toNat
   ·by_cases c2:a.toNat<=hi
    ·have c3:ee a=true:=by unfold ee;simp;omega
     have e:¬(a.toNat<lo\/hi<a.toNat\/a2.toNat<128\/191<a2.toNat):=oM
     have e2:¬(r.length+1+1+1<3):=oM
     simp[Lib.checkN,bQ,c1,c2,c3,hc,e,e2]
    ·have e:a.toNat<lo\/hi<a.toNat\/a2.toNat<128\/191<a2.toNat:=oM
     simp[Lib.checkN,bQ,c2,e]
   ·have e:a.toNat<lo\/hi<a.toNat\/a2.toNat<128\/191<a2.toNat:=oM
    simp[Lib.checkN,bQ,c1,e]
theorem MY(r:List UInt8)(lo hi:Nat)(hlo:128<=lo)(hhi:hi<=191):
 (match Lib.checkN (r.length+1) (r.getD 0 0).toNat (r.getD 1 0).toNat (r.getD 2 0).toNat 4 lo hi with|none=>false|some k=>Lib.validD (r.drop (k-1)))=(bQ r 3&&(decide (lo<=(r.getD 0 0).toNat)&&decide ((r.getD 0 0).toNat<=hi))&&Lib.validD (r.drop 3)):=by
 match r with
 | []=>simp[Lib.checkN,bQ]
 | [a]=>simp[Lib.checkN,bQ]
 | [a,a2]=>simp[Lib.checkN,bQ]
 | a::a2::a3::r=>
  cases hc:ee a2
  ·have e:a.toNat<lo\/hi<a.toNat\/a2.toNat<128\/191<a2.toNat\/a3.toNat<128\/191<a3.toNat:=by
    unfold ee at hc;simp at hc;omega
   simp[Lib.checkN,bQ,hc,e]
  ·have h2:128<=a2.toNat/\a2.toNat<=191:=by unfold ee at hc;simpa using hc
   cases hd:ee a3
   ·have e:a.toNat<lo\/hi<a.toNat\/a2.toNat<128\/191<a2.toNat\/a3.toNat<128\/191<a3.toNat:=by
     unfold ee at hd;simp at hd;omega
    simp[Lib.checkN,bQ,hd,e]
   ·have h3:128<=a3.toNat/\a3.toNat<=191:=by unfold ee at hd;simpa using hd
    by_cases c1:lo<=a.toNat
    ·by_cases c2:a.toNat<=hi
     ·have c3:ee a=true:=by unfold ee;simp;omega
      have e:¬(a.toNat<lo\/hi<a.toNat\/a2.toNat<128\/191<a2.toNat\/a3.toNat<128\/191<a3.toNat):=oM
      have e2:¬(r.length+1+1+1+1<4):=oM
      simp[Lib.checkN,bQ,c1,c2,c3,hc,hd,e,e2]
     ·have e:a.toNat<lo\/hi<a.toNat\/a2.toNat<128\/191<a2.toNat\/a3.toNat<128\/191<a3.toNat:=oM
      simp[Lib.checkN,bQ,c2,e]
    ·have e:a.toNat<lo\/hi<a.toNat\/a2.toNat<128\/191<a2.toNat\/a3.toNat<128\/191<a3.toNat:=oM
     simp[Lib.checkN,bQ,c1,e]
theorem fX{b:UInt8}{r:List UInt8}(n lo hi:Nat)(hn:1<=n)(hn3:n<=3)(h0:128<=b.toNat)(hlo:128<=lo)(hhi:hi<=191)(h1:Lib.firstT b.toNat%8=n+1)(h2:Lib.accLo (Lib.firstT b.toNat/16)=lo)(h3:Lib.accHi (Lib.firstT b.toNat/16)=hi):
 Lib.validD (b::r)=(bQ r n&&(decide (lo<=(r.getD 0 0).toNat)&&decide ((r.getD 0 0).toNat<=hi))&&Lib.validD (r.drop n)):=by
 rw[Lib.validD_lead (b::r) sM (by simpa using h0)];have e0:((b::r).getD 0 0).toNat=b.toNat:=by simp
 have e1:((b::r).getD 1 0)=r.getD 0 0:=by simp
 have e2:((b::r).getD 2 0)=r.getD 1 0:=by simp
 have e3:((b::r).getD 3 0)=r.getD 2 0:=by simp
 rw[e0,h1,h2,h3,e1,e2,e3,OZ]
 have key:∀o:Option Nat,(∀k,o=some k->1<=k)->(match o with|none=>false|some k=>Lib.validD ((b::r).drop k))=(match o with|none=>false|some k=>Lib.validD (r.drop (k-1))):=by
  intro o ho;cases o with
  | none=>rfl
  | some k=>
   have:=ho k rfl;obtain⟨m,rfl⟩:∃m,k=m+1:=⟨k-1,by omega⟩;simp
 refine(key _ ?_).trans ?_
 ·intro k hk;unfold Lib.checkN at hk
  repeat' split at hk
  all_goals first|(cases hk;done)|(injection hk with hk;omega)
 obtain rfl|rfl|rfl:n=1\/n=2\/n=3:=oM
 ·exact MW r lo hi hlo hhi
 ·exact MX r lo hi hlo hhi
 ·exact MY r lo hi hlo hhi
theorem Gy{b:UInt8}{r:List UInt8}(h:128<=b.toNat/\b.toNat<194\/244<b.toNat):Lib.validD (b::r)=false:=by
 have h0:128<=b.toNat:=oM
 have hb:=b.toNat_lt;rw[Lib.validD_lead (b::r) sM (by simpa using h0)];have e0:((b::r).getD 0 0).toNat=b.toNat:=by simp
 have e1:Lib.firstT b.toNat%8=1:=by
  unfold Lib.firstT
  repeat' split
  all_goals first|rfl|(exfalso;omega)
 rw[e0,e1];simp[Lib.checkN]
theorem ef{hi:Nat}(hn:1<=n)(h:bQ (s.data.toList.drop (i+1)) n=true)(HV:cE s=(bQ (s.data.toList.drop (i+1)) n&&(decide (lo<=((s.data.toList.drop (i+1)).getD 0 0).toNat)&&decide (((s.data.toList.drop (i+1)).getD 0 0).toNat<=hi))&&Lib.validD ((s.data.toList.drop (i+1)).drop n))):
 i+1+n<=s.size/\∃hx:i+1<s.size,(128<=s[i+1].toNat/\s[i+1].toNat<=191)/\cE s=(decide (lo<=s[i+1].toNat)&&decide (s[i+1].toNat<=hi)&&Lib.validD (s.data.toList.drop (i+n+1))):=by
 have h0:=h;unfold bQ at h;simp only[Ov,Pm,Qd,Rn,Pk] at h;have hz:s.data.size=s.size:=rfl;have hsz:i+1+n<=s.size:=oM
 have hx:i+1<s.size:=oM
 have e1:(s.data.toList.drop (i+1))[0]?=some s[i+1]:=by rw[Qc];exact ia s (i+1) hx
 have e2:(s.data.toList.drop (i+1)).getD 0 0=s[i+1]:=by rw[Rl,e1];rfl
 refine⟨hsz,hx,?_,?_⟩
 ·have:=h.2 s[i+1] (OJ (i:=0) (by rw[QK,OW oM];exact e1));unfold ee at this;simpa using this
 ·rw[HV,h0,e2,List.drop_drop,show i+1+n=i+n+1 by omega];rfl
end
end Go.Proofs.YtgfoliedmhgpnaaGreatDoor
