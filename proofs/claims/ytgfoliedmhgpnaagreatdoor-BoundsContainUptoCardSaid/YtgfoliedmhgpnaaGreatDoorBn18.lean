/- A part of the proof. -/
import Derived.Test.YtgfoliedmhgpnaaGreatDoorBn2
set_option maxRecDepth 100000
set_option maxHeartbeats 16000000
set_option linter.unusedSimpArgs false
open Go.Proofs.Tryz
open ByteArray (empty)
namespace Go.Proofs.YtgfoliedmhgpnaaGreatDoor
open Go.RowKit
section
variable {l:List ByteArray} {c k i n B m size:Nat} {x y d:Int} {w w':World} {A:Option Addr} {e:TypeId}
theorem qq:∀{l m:List ByteArray},l.length≠m.length->de l m=false
 | [],[],h=>absurd rfl h
 | [],_::_,_=>rfl
 | _::_,[],_=>rfl
 | a::r,b::s,h=>by rw[de,qq (l:=r) (m:=s) (by simpa using h)];simp
theorem Bk{l m:List ByteArray}{i:Nat}{x y:ByteArray}(hx:l[i]?=some x)(hy:m[i]?=some y):de (l.drop i) (m.drop i)=((x.toList==y.toList)&&de (l.drop (i+1)) (m.drop (i+1))):=by rw[dX hx,dX hy,de]
theorem zU{l m:List ByteArray}{i:Nat}(h1:l.length<=i)(h2:m.length<=i):de (l.drop i) (m.drop i)=true:=by rw[Kk h1,Kk h2];rfl
theorem fW(l m:List ByteArray)(A B:Option Addr)(n c k d:Nat)(w:World)(h:ST w A n c l)(h':ST w B k d m):
 Calls prog 66 #[.slice A n c,.slice B k d] w fun e w'=>e=.returned (.bool (de l m))/\Below w.heap.size w w':=by
 have hz:n<=140737488355328:=by have:=h.sz;unfold aH at this;omega
 have hk:k<=140737488355328:=by have:=h'.sz;unfold aH at this;omega
 have H:=qD h;have H':=qD h';clear h h';by_cases hnk:n=k
 ·subst hnk;go_enter func66,ntmps66;go_wp2_with fail
  go_loopw [13] (fun v wr=>∃i:Nat,i<=n/\v=.int .i64 i/\de l m=de (l.drop i) (m.drop i)/\Below w.heap.size w wr) (fun v _=>n-(intOf v).toNat)
  ·exact⟨0,KD _,rfl,rfl,Ju _ _⟩
  case round=>
   obtain⟨i,hi,rfl,ha,hbel⟩:=hrel;have HA:=qD ha;have HB:=qD hbel;clear ha;by_cases hlt:i<n
   ·obtain⟨b,off,x,hA,hb,hx,e0⟩:=H.out.sr.JH hlt;obtain⟨b',off',y,hA',hb',hy,f0⟩:=H'.out.sr.JH hlt;subst hA hA';have HX:=qD (Bk hx hy);have e1:=(hbel.cell (p:=⟨b,off+i,none⟩) hb).trans e0;have f1:=(hbel.cell (p:=⟨b',off'+i,none⟩) hb').trans f0;have X0:∀kk:BW wr,kk.val.cell? ⟨b,off+i,none⟩=some (.string x):=fun kk=>kk.cell e1;have Y0:∀kk:BW wr,kk.val.cell? ⟨b',off'+i,none⟩=some (.string y):=fun kk=>kk.cell f1;have i0:(0:Int)<=(i:Int):=by omega
    have i1:(i:Int)<(n:Int):=by omega
    clear hx hy e0 f0 hbel;go_upto_region 6 with fail
    clear e1 f1;refine aM (by kernel_rfl) (by kernel_rfl) ?_
    repeat(go_big_quiet_step (fail))
    refine Kd ?_;rintro _ ⟨kw,rfl⟩;have HK:=qD kw.below;generalize kw.val=w5 at*;clear X0 Y0;cases hq:(x.toList==y.toList)
    ·have HF:Hid (de l m=false):=by rw[Hid,HA.out,HX.out,hq];rfl
     go_wp2_with fail;go_ret;exact⟨by rw[HF.out];rfl,HB.out.Ih HK.out⟩
    ·have HF:Hid (de l m=de (l.drop (i+1)) (m.drop (i+1))):=by rw[Hid,HA.out,HX.out,hq];rfl
     go_wp2_with fail;go_roundw
     ·exact⟨i+1,by omega,by go_num,HF.out,HB.out.Ih HK.out⟩
     ·simp[intOf];omega
   ·have HF:Hid (de l m=true):=by rw[Hid,HA.out];exact zU (by have:=H.out.sr.ln;omega) (by have:=H'.out.sr.ln;omega)
    clear hbel;go_wp2_with fail;go_ret;exact⟨by rw[HF.out];rfl,HB.out⟩
 ·have HF:Hid (de l m=false):=qq (by have:=H.out.sr.ln;have:=H'.out.sr.ln;omega);have hnk':((n:Int) != (k:Int))=true:=by simp;omega
  go_enter func66,ntmps66;go_wp2_with fail;go_ret;exact⟨by rw[HF.out];rfl,Ju _ _⟩
theorem kq(l:List ByteArray)(A:Option Addr)(n c:Nat)(w:World)(h:ST w A n c l):
 Calls prog 20 #[.slice A n c] w fun e w'=>e=.returned (.bool (dk l))/\w'=w:=by
 have hz:n<=140737488355328:=by have:=h.sz;unfold aH at this;omega
 have H:=qD h;have hn:=qD h.sr.ln;clear h;by_cases h1:n<1
 ·have HV:Hid (dk l=false):=by unfold Hid dk;rw[<-hn.out,KQ (by omega)];rfl
  go_enter func20,ntmps20;go_wp2_with fail;go_ret;exact⟨by rw[HV.out];rfl,rfl⟩
 by_cases h2:16<n
 ·have HV:Hid (dk l=false):=by unfold Hid dk;rw[<-hn.out,Jy (by omega),KQ (by omega)];rfl
  go_enter func20,ntmps20;go_wp2_with fail;go_ret;exact⟨by rw[HV.out];rfl,rfl⟩
 have HV:Hid (dk l=(l.drop 0).all aV):=by unfold Hid dk;rw[<-hn.out,Jy (by omega),Jy (by omega)];rfl
 go_enter func20,ntmps20;go_wp2_with fail
 go_loopw [3] (fun v wr=>∃i:Nat,i<=n/\v=.int .i64 i/\dk l=(l.drop i).all aV/\wr=w) (fun v _=>n-(intOf v).toNat)
 ·exact⟨0,KD _,rfl,HV.out,rfl⟩
 case round=>
  obtain⟨i,hi,rfl,ha,rfl⟩:=hrel;have HA:=qD ha;clear ha;by_cases hlt:i<n
  ·obtain⟨b,off,x,hA,hb,hx,e0⟩:=H.out.sr.JH hlt;subst hA;have HX:=qD (dX hx);clear hx;go_wp2_with fail;refine(gl x _).mono ?_;rintro e w1 ⟨rfl,rfl⟩;cases hq:aV x
   ·have HF:Hid (dk l=false):=by rw[Hid,HA.out,HX.out,OU,hq];rfl
    go_wp2_with fail;go_ret;exact⟨by rw[HF.out];rfl,rfl⟩
   ·have HF:Hid (dk l=(l.drop (i+1)).all aV):=by rw[Hid,HA.out,HX.out,OU,hq];rfl
    go_wp2_with fail;go_roundw
    ·exact⟨i+1,by omega,by go_num,HF.out,trivial⟩
    ·simp[intOf];omega
  ·have HF:Hid (dk l=true):=by rw[Hid,HA.out,Kk (by have:=hn.out;omega)];rfl
   go_wp2_with fail;go_ret;exact⟨by rw[HF.out];rfl,rfl⟩
end
end Go.Proofs.YtgfoliedmhgpnaaGreatDoor
