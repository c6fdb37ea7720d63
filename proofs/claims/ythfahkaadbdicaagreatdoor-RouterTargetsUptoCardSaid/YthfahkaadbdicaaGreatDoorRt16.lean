/- Parts of the proof, joined: ValUtf8Pure. -/
import Derived.Test.YthfahkaadbdicaaGreatDoorRt1
import Derived.Lib.ValidLaws
set_option maxRecDepth 100000
set_option maxHeartbeats 16000000
set_option linter.unusedSimpArgs false
open Go.Proofs.Tryz
open ByteArray (empty)
namespace Go.Proofs.YthfahkaadbdicaaGreatDoor
def eT(b:UInt8):Bool:=decide (128<=b.toNat)&&decide (b.toNat<=191)
def bK(l:List UInt8)(n:Nat):Bool:=decide (n<=l.length)&&(l.take n).all eT
theorem JO(r:List UInt8)(lo hi:Nat)(hlo:128<=lo)(hhi:hi<=191):
 (match Lib.checkN (r.length+1) (r.getD 0 0).toNat (r.getD 1 0).toNat (r.getD 2 0).toNat 2 lo hi with|none=>false|some k=>Lib.validD (r.drop (k-1)))=(bK r 1&&(decide (lo<=(r.getD 0 0).toNat)&&decide ((r.getD 0 0).toNat<=hi))&&Lib.validD (r.drop 1)):=by
 match r with
 | []=>simp[Lib.checkN,bK]
 | a::r=>
  by_cases c1:lo<=a.toNat
  ·by_cases c2:a.toNat<=hi
   ·have c3:128<=a.toNat:=by omega
    have c4:a.toNat<=191:=by omega
    have e:¬(a.toNat<lo\/hi<a.toNat):=by omega
    have e2:¬(r.length+1+1<2):=by omega
    simp[Lib.checkN,bK,eT,c1,c2,c3,c4,e,e2]
   ·have e:a.toNat<lo\/hi<a.toNat:=by omega
    simp[Lib.checkN,bK,c2,e]
  ·have e:a.toNat<lo\/hi<a.toNat:=by omega
   simp[Lib.checkN,bK,c1,e]
theorem JP(r:List UInt8)(lo hi:Nat)(hlo:128<=lo)(hhi:hi<=191):
 (match Lib.checkN (r.length+1) (r.getD 0 0).toNat (r.getD 1 0).toNat (r.getD 2 0).toNat 3 lo hi with|none=>false|some k=>Lib.validD (r.drop (k-1)))=(bK r 2&&(decide (lo<=(r.getD 0 0).toNat)&&decide ((r.getD 0 0).toNat<=hi))&&Lib.validD (r.drop 2)):=by
 match r with
 | []=>simp[Lib.checkN,bK]
 | [a]=>simp[Lib.checkN,bK]
 | a::a2::r=>
  cases hc:eT a2
  ·have e:a.toNat<lo\/hi<a.toNat\/a2.toNat<128\/191<a2.toNat:=by
    unfold eT at hc;simp at hc;omega
   simp[Lib.checkN,bK,hc,e]
  ·have h2:128<=a2.toNat/\a2.toNat<=191:=by unfold eT at hc;simpa using hc
   by_cases c1:lo<=a.toNat
   ·by_cases c2:a.toNat<=hi
    ·have c3:eT a=true:=by unfold eT;simp;omega
     have e:¬(a.toNat<lo\/hi<a.toNat\/a2.toNat<128\/191<a2.toNat):=by omega
     have e2:¬(r.length+1+1+1<3):=by omega
     simp[Lib.checkN,bK,c1,c2,c3,hc,e,e2]
    ·have e:a.toNat<lo\/hi<a.toNat\/a2.toNat<128\/191<a2.toNat:=by omega
     simp[Lib.checkN,bK,c2,e]
   ·have e:a.toNat<lo\/hi<a.toNat\/a2.toNat<128\/191<a2.toNat:=by omega
    simp[Lib.checkN,bK,c1,e]
theorem JQ(r:List UInt8)(lo hi:Nat)(hlo:128<=lo)(hhi:hi<=191):
 (match Lib.checkN (r.length+1) (r.getD 0 0).toNat (r.getD 1 0).toNat (r.getD 2 0).toNat 4 lo hi with|none=>false|some k=>Lib.validD (r.drop (k-1)))=(bK r 3&&(decide (lo<=(r.getD 0 0).toNat)&&decide ((r.getD 0 0).toNat<=hi))&&Lib.validD (r.drop 3)):=by
 match r with
 | []=>simp[Lib.checkN,bK]
 | [a]=>simp[Lib.checkN,bK]
 | [a,a2]=>simp[Lib.checkN,bK]
 | a::a2::a3::r=>
  cases hc:eT a2
  ·have e:a.toNat<lo\/hi<a.toNat\/a2.toNat<128\/191<a2.toNat\/a3.toNat<128\/191<a3.toNat:=by
    unfold eT at hc;simp at hc;omega
   simp[Lib.checkN,bK,hc,e]
  ·have h2:128<=a2.toNat/\a2.toNat<=191:=by unfold eT at hc;simpa using hc
   cases hd:eT a3
   ·have e:a.toNat<lo\/hi<a.toNat\/a2.toNat<128\/191<a2.toNat\/a3.toNat<128\/191<a3.toNat:=by
     unfold eT at hd;simp at hd;omega
    simp[Lib.checkN,bK,hd,e]
   ·have h3:128<=a3.toNat/\a3.toNat<=191:=by unfold eT at hd;simpa using hd
    by_cases c1:lo<=a.toNat
    ·by_cases c2:a.toNat<=hi
     ·have c3:eT a=true:=by unfold eT;simp;omega
      have e:¬(a.toNat<lo\/hi<a.toNat\/a2.toNat<128\/191<a2.toNat\/a3.toNat<128\/191<a3.toNat):=by omega
      have e2:¬(r.length+1+1+1+1<4):=by omega
      simp[Lib.checkN,bK,c1,c2,c3,hc,hd,e,e2]
     ·have e:a.toNat<lo\/hi<a.toNat\/a2.toNat<128\/191<a2.toNat\/a3.toNat<128\/191<a3.toNat:=by omega
      simp[Lib.checkN,bK,c2,e]
    ·have e:a.toNat<lo\/hi<a.toNat\/a2.toNat<128\/191<a2.toNat\/a3.toNat<128\/191<a3.toNat:=by omega
     simp[Lib.checkN,bK,c1,e]
theorem fK{b:UInt8}{r:List UInt8}(n lo hi:Nat)(hn:1<=n)(hn3:n<=3)(h0:128<=b.toNat)(hlo:128<=lo)(hhi:hi<=191)(h1:Lib.firstT b.toNat%8=n+1)(h2:Lib.accLo (Lib.firstT b.toNat/16)=lo)(h3:Lib.accHi (Lib.firstT b.toNat/16)=hi):
 Lib.validD (b::r)=(bK r n&&(decide (lo<=(r.getD 0 0).toNat)&&decide ((r.getD 0 0).toNat<=hi))&&Lib.validD (r.drop n)):=by
 rw[Lib.validD_lead (b::r) (by simp) (by simpa using h0)];have e0:((b::r).getD 0 0).toNat=b.toNat:=by simp
 have e1:((b::r).getD 1 0)=r.getD 0 0:=by simp
 have e2:((b::r).getD 2 0)=r.getD 1 0:=by simp
 have e3:((b::r).getD 3 0)=r.getD 2 0:=by simp
 rw[e0,h1,h2,h3,e1,e2,e3,Ll]
 have key:∀o:Option Nat,(∀k,o=some k->1<=k)->(match o with|none=>false|some k=>Lib.validD ((b::r).drop k))=(match o with|none=>false|some k=>Lib.validD (r.drop (k-1))):=by
  intro o ho;cases o with
  | none=>rfl
  | some k=>
   have:=ho k rfl;obtain⟨m,rfl⟩:∃m,k=m+1:=⟨k-1,by omega⟩;simp
 refine(key _ ?_).trans ?_
 ·intro k hk;unfold Lib.checkN at hk
  repeat' split at hk
  all_goals first|(cases hk;done)|(injection hk with hk;omega)
 obtain rfl|rfl|rfl:n=1\/n=2\/n=3:=by omega
 ·exact JO r lo hi hlo hhi
 ·exact JP r lo hi hlo hhi
 ·exact JQ r lo hi hlo hhi
theorem DI{b:UInt8}{r:List UInt8}(h:128<=b.toNat/\b.toNat<194\/244<b.toNat):Lib.validD (b::r)=false:=by
 have h0:128<=b.toNat:=by omega
 have hb:=b.toNat_lt;rw[Lib.validD_lead (b::r) (by simp) (by simpa using h0)];have e0:((b::r).getD 0 0).toNat=b.toNat:=by simp
 have e1:Lib.firstT b.toNat%8=1:=by
  unfold Lib.firstT
  repeat' split
  all_goals first|rfl|(exfalso;omega)
 rw[e0,e1];simp[Lib.checkN]
theorem eU{s:ByteArray}{i n lo hi:Nat}(hn:1<=n)(h:bK (s.data.toList.drop (i+1)) n=true)(HV:bt s=(bK (s.data.toList.drop (i+1)) n&&(decide (lo<=((s.data.toList.drop (i+1)).getD 0 0).toNat)&&decide (((s.data.toList.drop (i+1)).getD 0 0).toNat<=hi))&&Lib.validD ((s.data.toList.drop (i+1)).drop n))):
 i+1+n<=s.size/\∃hx:i+1<s.size,(128<=s[i+1].toNat/\s[i+1].toNat<=191)/\bt s=(decide (lo<=s[i+1].toNat)&&decide (s[i+1].toNat<=hi)&&Lib.validD (s.data.toList.drop (i+n+1))):=by
 have h0:=h;unfold bK at h;simp only[ME,Mg,PN,Nz,Lv] at h;have hz:s.data.size=s.size:=rfl;have hsz:i+1+n<=s.size:=by omega
 have hx:i+1<s.size:=by omega
 have e1:(s.data.toList.drop (i+1))[0]?=some s[i+1]:=by rw[Nr];exact fX s (i+1) hx
 have e2:(s.data.toList.drop (i+1)).getD 0 0=s[i+1]:=by rw[Ph,e1];rfl
 refine⟨hsz,hx,?_,?_⟩
 ·have:=h.2 s[i+1] (LP (i:=0) (by rw[Nd,LZ (by omega)];exact e1));unfold eT at this;simpa using this
 ·rw[HV,h0,e2,List.drop_drop,show i+1+n=i+n+1 by omega];rfl
end Go.Proofs.YthfahkaadbdicaaGreatDoor
