/- A part of the proof. -/
import Derived.Test.YtgfoliedmhgpnaaGreatDoorCn1
set_option maxRecDepth 100000
set_option maxHeartbeats 16000000
open Go.Proofs.Tryz
open ByteArray (empty)
namespace Go.Proofs.YtgfoliedmhgpnaaGreatDoor
open Go.RowKit
section
variable {w w':World} {e:TypeId} {s:ByteArray}
theorem uL(s:ByteArray)(w:World):Calls prog 147 #[.string s] w fun e w'=>e=.returned (.bool (jd s))/\w'=w:=by
 by_cases h1:s.size<1
 ·have HV:Hid (jd s=false):=by unfold Hid jd;rw[OV oM];rfl
  go_enter func147,ntmps147;go_wp2;go_ret;exact⟨by rw[HV.out];rfl,rfl⟩
 by_cases h2:128<s.size
 ·have HV:Hid (jd s=false):=by unfold Hid jd;rw[OM oM,OV oM];rfl
  go_enter func147,ntmps147;go_wp2;go_ret;exact⟨by rw[HV.out];rfl,rfl⟩
 have HA:Hid (jd s=s.data.toList.all JN):=by
  unfold Hid jd;rw[OM oM,OM oM];simp
 go_enter func147,ntmps147;go_wp2_with fail
 go_loopw [3] (fun v wr=>∃i:Nat,i<=s.size/\v=.int .i64 i/\(s.data.toList.take i).all JN=true/\wr=w) (fun v _=>s.size-(intOf v).toNat)
 ·exact⟨0,ON _,rfl,ng,rfl⟩
 case round=>
  obtain⟨i,hi,rfl,ha,rfl⟩:=hrel;have HL:=qD ha;clear ha;by_cases hlt:i<s.size
  ·have hx:=s[i].toNat_lt;by_cases hb:(s[i].toNat:Int)<32
   ·have HV:Hid (jd s=false):=by rw[Hid,HA.out];exact fg hlt (by unfold JN;rw[OV oM];rfl)
    go_wp2;go_ret;exact⟨by rw[HV.out];rfl,rfl⟩
   by_cases hc:126<(s[i].toNat:Int)
   ·have HV:Hid (jd s=false):=by rw[Hid,HA.out];exact fg hlt (by unfold JN;rw[OM oM,OV oM];rfl)
    go_wp2;go_ret;exact⟨by rw[HV.out];rfl,rfl⟩
   have HN:Hid ((s.data.toList.take (i+1)).all JN=true):=nd hlt HL.out (by unfold JN;rw[OM oM,OM oM];rfl);go_wp2_with fail;go_roundw
   ·exact⟨i+1,by omega,by go_num,HN.out,trivial⟩
   ·exact iO
  ·have HV:Hid (jd s=true):=by rw[Hid,HA.out];exact qA oM HL.out
   go_wp2;go_ret;exact⟨by rw[HV.out];rfl,rfl⟩
end
end Go.Proofs.YtgfoliedmhgpnaaGreatDoor
