/- Parts of the proof, joined: ValWide. -/
import Derived.Test.YtfkapannahcjiaaGreatDoorRa1
set_option maxRecDepth 100000
set_option maxHeartbeats 16000000
set_option linter.unusedSimpArgs false
namespace Go.Proofs.YtfkapannahcjiaaGreatDoor
open Go.RowKit
theorem rwide_any(s:ByteArray)(w:World):Calls Tryz.prog 128 #[.string s] w fun e w'=>e=.returned (.bool (wideB s))∧w'=w:=by
 by_cases h1:s.size<1
 ·have HV:Hid (wideB s=false):=by unfold Hid wideB;rw[decide_eq_false (by omega)];rfl
  go_enter Tryz.func128,Tryz.ntmps128
  go_wp2_with fail
  go_ret
  exact⟨by rw[HV.out];rfl,rfl⟩
 by_cases h2:128<s.size
 ·have HV:Hid (wideB s=false):=by unfold Hid wideB;rw[decide_eq_true (by omega),decide_eq_false (by omega)];rfl
  go_enter Tryz.func128,Tryz.ntmps128
  go_wp2_with fail
  go_ret
  exact⟨by rw[HV.out];rfl,rfl⟩
 have HA:Hid (wideB s=s.data.toList.all okW):=by
  unfold Hid wideB
  rw[decide_eq_true (by omega),decide_eq_true (by omega)]
  simp
 go_enter Tryz.func128,Tryz.ntmps128
 go_wp2_with fail
 go_loopw [3] (fun v wr=>∃i:Nat,i≤s.size∧v=.int .i64 i∧(s.data.toList.take i).all okW=true∧wr=w) (fun v _=>s.size-(intOf v).toNat)
 case atStart=>exact⟨0,Nat.zero_le _,rfl,all_zero,rfl⟩
 case round=>
  obtain⟨i,hi,rfl,ha,rfl⟩:=hrel
  have HL:=qD ha
  clear ha
  by_cases hlt:i<s.size
  ·have hx:=s[i].toNat_lt
   by_cases hb:(s[i].toNat:Int)<32
   ·have HV:Hid (wideB s=false):=by rw[Hid,HA.out];exact all_not hlt (by unfold okW;rw[decide_eq_false (by omega)];rfl)
    go_wp2_with fail
    go_ret
    exact⟨by rw[HV.out];rfl,rfl⟩
   by_cases hc:126<(s[i].toNat:Int)
   ·have HV:Hid (wideB s=false):=by rw[Hid,HA.out];exact all_not hlt (by unfold okW;rw[decide_eq_true (by omega),decide_eq_false (by omega)];rfl)
    go_wp2_with fail
    go_ret
    exact⟨by rw[HV.out];rfl,rfl⟩
   have HN:Hid ((s.data.toList.take (i+1)).all okW=true):=all_next hlt HL.out (by unfold okW;rw[decide_eq_true (by omega),decide_eq_true (by omega)];rfl)
   go_wp2_with fail
   go_roundw
   case rel=>exact⟨i+1,by omega,by go_num,HN.out,trivial⟩
   case measure=>simp[intOf];omega
  ·have HV:Hid (wideB s=true):=by rw[Hid,HA.out];exact all_end (by omega) HL.out
   go_wp2_with fail
   go_ret
   exact⟨by rw[HV.out];rfl,rfl⟩
end Go.Proofs.YtfkapannahcjiaaGreatDoor
