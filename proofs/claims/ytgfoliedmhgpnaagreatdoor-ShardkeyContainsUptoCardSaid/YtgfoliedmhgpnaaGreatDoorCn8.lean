/- A part of the proof. -/
import Derived.Test.YtgfoliedmhgpnaaGreatDoorCn7
set_option maxRecDepth 100000
set_option maxHeartbeats 16000000
open Go.Proofs.Tryz
open ByteArray (empty)
namespace Go.Proofs.YtgfoliedmhgpnaaGreatDoor
open Go.RowKit
section
variable {n m i size j:Nat} {w w':World} {e:TypeId} {a:Int} {s:ByteArray}
theorem bytes_drop'(a:ByteArray)(i:Nat)(h:i<a.size):a.data.toList.drop i=a[i]::a.data.toList.drop (i+1):=by
 rw[QP (by simpa using h)];rfl
theorem ez(s:ByteArray)(jn n:Nat)(j m:Int)(hj:j=jn)(hm:m=n)(hjs:jn<=s.size)(hn:n<=3)(hs:s.size<=aF)(w:World):
 Calls prog 146 #[.string s,.int .i64 j,.int .i64 m] w fun e w'=>e=.returned (.bool (bQ (s.data.toList.drop jn) n))/\w'=w:=by
 subst hj hm;unfold aF at hs;by_cases hl:s.size<jn+n
 ·have HV:Hid (bQ (s.data.toList.drop jn) n=false):=by unfold Hid bQ;rw[OV sO];rfl
  go_enter func146,ntmps146;go_wp2;go_ret;exact⟨by rw[HV.out];rfl,rfl⟩
 have HA:Hid (bQ (s.data.toList.drop jn) n=((s.data.toList.drop jn).take n).all ee):=by unfold Hid bQ;rw[OM sO];rfl
 go_enter func146,ntmps146;go_wp2_with fail
 go_loopw [7] (fun v wr=>∃i:Nat,i<=n/\v=.int .i64 i/\((s.data.toList.drop jn).take i).all ee=true/\wr=w) (fun v _=>n-(intOf v).toNat)
 ·exact⟨0,ON _,rfl,by simp,rfl⟩
 case round=>
  obtain⟨i,hi,rfl,ha,rfl⟩:=hrel;have HL:=qD ha;clear ha;by_cases hlt:i<n
  ·have hx:=s[jn+i].toNat_lt;have HG:Hid ((s.data.toList.drop jn)[i]?=some s[jn+i]):=by rw[Hid,Qc];exact ia s (jn+i) oM
   have HN:Hid (ee s[jn+i]=false->bQ (s.data.toList.drop jn) n=false):=fun h=>by
    rw[HA.out,SF];refine⟨s[jn+i],?_,by simp[h]⟩;exact OJ (i:=i) (by rw[QK,OW hlt];exact HG.out)
   by_cases hb:(s[jn+i].toNat:Int)<128
   ·have HV:Hid (bQ (s.data.toList.drop jn) n=false):=HN.out (by unfold ee;rw[OV oM];rfl);go_wp2;go_ret;exact⟨by rw[HV.out];rfl,rfl⟩
   by_cases hc:191<(s[jn+i].toNat:Int)
   ·have HV:Hid (bQ (s.data.toList.drop jn) n=false):=HN.out (by unfold ee;rw[OM oM,OV oM];rfl);go_wp2;go_ret;exact⟨by rw[HV.out];rfl,rfl⟩
   have HX:Hid (((s.data.toList.drop jn).take (i+1)).all ee=true):=by
    rw[Hid,take_snoc' HG.out,Rz,HL.out];unfold ee;simp;omega
   go_wp2_with fail;go_roundw
   ·exact⟨i+1,by omega,by go_num,HX.out,trivial⟩
   ·exact iO
  ·have HV:Hid (bQ (s.data.toList.drop jn) n=true):=by
    have:=HL.out;rw[show i=n by omega] at this;rw[Hid,HA.out,this]
   go_wp2;go_ret;exact⟨by rw[HV.out];rfl,rfl⟩
theorem EF(s:ByteArray)(w:World)(hs:s.size<=aF):Calls prog 88 #[.string s] w fun e w'=>e=.returned (.bool (cE s))/\w'=w:=by
 have HZ:=qD hs;unfold aF at hs;go_enter func88,ntmps88;go_wp2_with fail
 go_loopw [3] (fun v wr=>∃i:Nat,i<=s.size/\v=.int .i64 i/\cE s=Lib.validD (s.data.toList.drop i)/\wr=w) (fun v _=>s.size-(intOf v).toNat)
 ·exact⟨0,ON _,rfl,rfl,rfl⟩
 case round=>
  obtain⟨i,hi,rfl,ha,rfl⟩:=hrel;have HL:=qD ha;clear ha;by_cases hlt:i<s.size
  ·have hx:=s[i].toNat_lt;have HD:Hid (cE s=Lib.validD (s[i]::s.data.toList.drop (i+1))):=by rw[Hid,HL.out,bytes_drop' s i hlt]
   by_cases ha:(s[i].toNat:Int)<128
   ·have f224:((s[i].toNat:Int)==224)=false:=by simp;omega
    have f237:((s[i].toNat:Int)==237)=false:=by simp;omega
    have f240:((s[i].toNat:Int)==240)=false:=by simp;omega
    have f244:((s[i].toNat:Int)==244)=false:=by simp;omega
    have HN:Hid (cE s=Lib.validD (s.data.toList.drop (i+1))):=by rw[Hid,HD.out];exact Lib.validD_cons _ _ oM
    have HT0:Hid (bQ (s.data.toList.drop (i+1)) 0=true):=by simp[Hid,bQ]
    go_wp2_with fail;refine(ez s (i+1) 0 _ _ oM oM oM oM HZ.out _).mono ?_;rintro e w' ⟨rfl,rfl⟩;rw[HT0.out];go_wp2_with fail;go_roundw
    ·exact⟨i+1,by omega,by go_num,HN.out,trivial⟩
    ·exact iO
   by_cases hc:194<=(s[i].toNat:Int)/\(s[i].toNat:Int)<=223
   ·obtain⟨hb1,hb2⟩:=hc;have f224:((s[i].toNat:Int)==224)=false:=by simp;omega
    have f237:((s[i].toNat:Int)==237)=false:=by simp;omega
    have f240:((s[i].toNat:Int)==240)=false:=by simp;omega
    have f244:((s[i].toNat:Int)==244)=false:=by simp;omega
    have HV:Hid (cE s=(bQ (s.data.toList.drop (i+1)) 1&&(decide (128<=((s.data.toList.drop (i+1)).getD 0 0).toNat)&&decide (((s.data.toList.drop (i+1)).getD 0 0).toNat<=191))&&Lib.validD ((s.data.toList.drop (i+1)).drop 1))):=by
     rw[Hid,HD.out]
     have e:Lib.firstT s[i].toNat=2:=by
      unfold Lib.firstT
      repeat' split
      all_goals first|rfl|(exfalso;omega)
     exact fX 1 128 191 oM oM oM oM oM (by rw[e]) (by rw[e];rfl) (by rw[e];rfl)
    go_wp2_with fail;refine(ez s (i+1) 1 _ _ oM oM oM oM HZ.out _).mono ?_;rintro e w' ⟨rfl,rfl⟩;cases ht:bQ (s.data.toList.drop (i+1)) 1
    ·have HF:Hid (cE s=false):=by rw[Hid,HV.out,ht];rfl
     clear ht;go_wp2;go_ret;exact⟨by rw[HF.out];rfl,rfl⟩
    obtain⟨hsz,hx1,hc,hX⟩:=ef oM ht HV.out;have HX:=qD hX;clear ht hX;have HN:Hid (cE s=Lib.validD (s.data.toList.drop (i+1+1))):=by rw[Hid,HX.out,OM oM,OM oM];rfl
    go_wp2_with fail;go_roundw
    ·exact⟨i+1+1,by omega,by go_num,HN.out,trivial⟩
    ·exact iO
   by_cases hd:224<=(s[i].toNat:Int)/\(s[i].toNat:Int)<=224
   ·obtain⟨hb1,hb2⟩:=hd;have f224:((s[i].toNat:Int)==224)=true:=by simp;omega
    have f237:((s[i].toNat:Int)==237)=false:=by simp;omega
    have f240:((s[i].toNat:Int)==240)=false:=by simp;omega
    have f244:((s[i].toNat:Int)==244)=false:=by simp;omega
    have HV:Hid (cE s=(bQ (s.data.toList.drop (i+1)) 2&&(decide (160<=((s.data.toList.drop (i+1)).getD 0 0).toNat)&&decide (((s.data.toList.drop (i+1)).getD 0 0).toNat<=191))&&Lib.validD ((s.data.toList.drop (i+1)).drop 2))):=by
     rw[Hid,HD.out]
     have e:Lib.firstT s[i].toNat=19:=by
      unfold Lib.firstT
      repeat' split
      all_goals first|rfl|(exfalso;omega)
     exact fX 2 160 191 oM oM oM oM oM (by rw[e]) (by rw[e];rfl) (by rw[e];rfl)
    go_wp2_with fail;refine(ez s (i+1) 2 _ _ oM oM oM oM HZ.out _).mono ?_;rintro e w' ⟨rfl,rfl⟩;cases ht:bQ (s.data.toList.drop (i+1)) 2
    ·have HF:Hid (cE s=false):=by rw[Hid,HV.out,ht];rfl
     clear ht;go_wp2;go_ret;exact⟨by rw[HF.out];rfl,rfl⟩
    obtain⟨hsz,hx1,hc,hX⟩:=ef oM ht HV.out;have HX:=qD hX;clear ht hX;by_cases hq:(s[i+1].toNat:Int)<160
    ·have HF:Hid (cE s=false):=by rw[Hid,HX.out,OV oM];rfl
     go_wp2;go_ret;exact⟨by rw[HF.out];rfl,rfl⟩
    have HN:Hid (cE s=Lib.validD (s.data.toList.drop (i+2+1))):=by rw[Hid,HX.out,OM oM,OM oM];rfl
    go_wp2_with fail;go_roundw
    ·exact⟨i+2+1,by omega,by go_num,HN.out,trivial⟩
    ·exact iO
   by_cases he:225<=(s[i].toNat:Int)/\(s[i].toNat:Int)<=236
   ·obtain⟨hb1,hb2⟩:=he;have f224:((s[i].toNat:Int)==224)=false:=by simp;omega
    have f237:((s[i].toNat:Int)==237)=false:=by simp;omega
    have f240:((s[i].toNat:Int)==240)=false:=by simp;omega
    have f244:((s[i].toNat:Int)==244)=false:=by simp;omega
    have HV:Hid (cE s=(bQ (s.data.toList.drop (i+1)) 2&&(decide (128<=((s.data.toList.drop (i+1)).getD 0 0).toNat)&&decide (((s.data.toList.drop (i+1)).getD 0 0).toNat<=191))&&Lib.validD ((s.data.toList.drop (i+1)).drop 2))):=by
     rw[Hid,HD.out]
     have e:Lib.firstT s[i].toNat=3:=by
      unfold Lib.firstT
      repeat' split
      all_goals first|rfl|(exfalso;omega)
     exact fX 2 128 191 oM oM oM oM oM (by rw[e]) (by rw[e];rfl) (by rw[e];rfl)
    go_wp2_with fail;refine(ez s (i+1) 2 _ _ oM oM oM oM HZ.out _).mono ?_;rintro e w' ⟨rfl,rfl⟩;cases ht:bQ (s.data.toList.drop (i+1)) 2
    ·have HF:Hid (cE s=false):=by rw[Hid,HV.out,ht];rfl
     clear ht;go_wp2;go_ret;exact⟨by rw[HF.out];rfl,rfl⟩
    obtain⟨hsz,hx1,hc,hX⟩:=ef oM ht HV.out;have HX:=qD hX;clear ht hX;have HN:Hid (cE s=Lib.validD (s.data.toList.drop (i+2+1))):=by rw[Hid,HX.out,OM oM,OM oM];rfl
    go_wp2_with fail;go_roundw
    ·exact⟨i+2+1,by omega,by go_num,HN.out,trivial⟩
    ·exact iO
   by_cases hf:237<=(s[i].toNat:Int)/\(s[i].toNat:Int)<=237
   ·obtain⟨hb1,hb2⟩:=hf;have f224:((s[i].toNat:Int)==224)=false:=by simp;omega
    have f237:((s[i].toNat:Int)==237)=true:=by simp;omega
    have f240:((s[i].toNat:Int)==240)=false:=by simp;omega
    have f244:((s[i].toNat:Int)==244)=false:=by simp;omega
    have HV:Hid (cE s=(bQ (s.data.toList.drop (i+1)) 2&&(decide (128<=((s.data.toList.drop (i+1)).getD 0 0).toNat)&&decide (((s.data.toList.drop (i+1)).getD 0 0).toNat<=159))&&Lib.validD ((s.data.toList.drop (i+1)).drop 2))):=by
     rw[Hid,HD.out]
     have e:Lib.firstT s[i].toNat=35:=by
      unfold Lib.firstT
      repeat' split
      all_goals first|rfl|(exfalso;omega)
     exact fX 2 128 159 oM oM oM oM oM (by rw[e]) (by rw[e];rfl) (by rw[e];rfl)
    go_wp2_with fail;refine(ez s (i+1) 2 _ _ oM oM oM oM HZ.out _).mono ?_;rintro e w' ⟨rfl,rfl⟩;cases ht:bQ (s.data.toList.drop (i+1)) 2
    ·have HF:Hid (cE s=false):=by rw[Hid,HV.out,ht];rfl
     clear ht;go_wp2;go_ret;exact⟨by rw[HF.out];rfl,rfl⟩
    obtain⟨hsz,hx1,hc,hX⟩:=ef oM ht HV.out;have HX:=qD hX;clear ht hX;by_cases hq:159<(s[i+1].toNat:Int)
    ·have HF:Hid (cE s=false):=by rw[Hid,HX.out,OM oM,OV oM];rfl
     go_wp2;go_ret;exact⟨by rw[HF.out];rfl,rfl⟩
    have HN:Hid (cE s=Lib.validD (s.data.toList.drop (i+2+1))):=by rw[Hid,HX.out,OM oM,OM oM];rfl
    go_wp2_with fail;go_roundw
    ·exact⟨i+2+1,by omega,by go_num,HN.out,trivial⟩
    ·exact iO
   by_cases hg:238<=(s[i].toNat:Int)/\(s[i].toNat:Int)<=239
   ·obtain⟨hb1,hb2⟩:=hg;have f224:((s[i].toNat:Int)==224)=false:=by simp;omega
    have f237:((s[i].toNat:Int)==237)=false:=by simp;omega
    have f240:((s[i].toNat:Int)==240)=false:=by simp;omega
    have f244:((s[i].toNat:Int)==244)=false:=by simp;omega
    have HV:Hid (cE s=(bQ (s.data.toList.drop (i+1)) 2&&(decide (128<=((s.data.toList.drop (i+1)).getD 0 0).toNat)&&decide (((s.data.toList.drop (i+1)).getD 0 0).toNat<=191))&&Lib.validD ((s.data.toList.drop (i+1)).drop 2))):=by
     rw[Hid,HD.out]
     have e:Lib.firstT s[i].toNat=3:=by
      unfold Lib.firstT
      repeat' split
      all_goals first|rfl|(exfalso;omega)
     exact fX 2 128 191 oM oM oM oM oM (by rw[e]) (by rw[e];rfl) (by rw[e];rfl)
    go_wp2_with fail;refine(ez s (i+1) 2 _ _ oM oM oM oM HZ.out _).mono ?_;rintro e w' ⟨rfl,rfl⟩;cases ht:bQ (s.data.toList.drop (i+1)) 2
    ·have HF:Hid (cE s=false):=by rw[Hid,HV.out,ht];rfl
     clear ht;go_wp2;go_ret;exact⟨by rw[HF.out];rfl,rfl⟩
    obtain⟨hsz,hx1,hc,hX⟩:=ef oM ht HV.out;have HX:=qD hX;clear ht hX;have HN:Hid (cE s=Lib.validD (s.data.toList.drop (i+2+1))):=by rw[Hid,HX.out,OM oM,OM oM];rfl
    go_wp2_with fail;go_roundw
    ·exact⟨i+2+1,by omega,by go_num,HN.out,trivial⟩
    ·exact iO
   by_cases hh:240<=(s[i].toNat:Int)/\(s[i].toNat:Int)<=240
   ·obtain⟨hb1,hb2⟩:=hh;have f224:((s[i].toNat:Int)==224)=false:=by simp;omega
    have f237:((s[i].toNat:Int)==237)=false:=by simp;omega
    have f240:((s[i].toNat:Int)==240)=true:=by simp;omega
    have f244:((s[i].toNat:Int)==244)=false:=by simp;omega
    have HV:Hid (cE s=(bQ (s.data.toList.drop (i+1)) 3&&(decide (144<=((s.data.toList.drop (i+1)).getD 0 0).toNat)&&decide (((s.data.toList.drop (i+1)).getD 0 0).toNat<=191))&&Lib.validD ((s.data.toList.drop (i+1)).drop 3))):=by
     rw[Hid,HD.out]
     have e:Lib.firstT s[i].toNat=52:=by
      unfold Lib.firstT
      repeat' split
      all_goals first|rfl|(exfalso;omega)
     exact fX 3 144 191 oM oM oM oM oM (by rw[e]) (by rw[e];rfl) (by rw[e];rfl)
    go_wp2_with fail;refine(ez s (i+1) 3 _ _ oM oM oM oM HZ.out _).mono ?_;rintro e w' ⟨rfl,rfl⟩;cases ht:bQ (s.data.toList.drop (i+1)) 3
    ·have HF:Hid (cE s=false):=by rw[Hid,HV.out,ht];rfl
     clear ht;go_wp2;go_ret;exact⟨by rw[HF.out];rfl,rfl⟩
    obtain⟨hsz,hx1,hc,hX⟩:=ef oM ht HV.out;have HX:=qD hX;clear ht hX;by_cases hq:(s[i+1].toNat:Int)<144
    ·have HF:Hid (cE s=false):=by rw[Hid,HX.out,OV oM];rfl
     go_wp2;go_ret;exact⟨by rw[HF.out];rfl,rfl⟩
    have HN:Hid (cE s=Lib.validD (s.data.toList.drop (i+3+1))):=by rw[Hid,HX.out,OM oM,OM oM];rfl
    go_wp2_with fail;go_roundw
    ·exact⟨i+3+1,by omega,by go_num,HN.out,trivial⟩
    ·exact iO
   by_cases hk:241<=(s[i].toNat:Int)/\(s[i].toNat:Int)<=243
   ·obtain⟨hb1,hb2⟩:=hk;have f224:((s[i].toNat:Int)==224)=false:=by simp;omega
    have f237:((s[i].toNat:Int)==237)=false:=by simp;omega
    have f240:((s[i].toNat:Int)==240)=false:=by simp;omega
    have f244:((s[i].toNat:Int)==244)=false:=by simp;omega
    have HV:Hid (cE s=(bQ (s.data.toList.drop (i+1)) 3&&(decide (128<=((s.data.toList.drop (i+1)).getD 0 0).toNat)&&decide (((s.data.toList.drop (i+1)).getD 0 0).toNat<=191))&&Lib.validD ((s.data.toList.drop (i+1)).drop 3))):=by
     rw[Hid,HD.out]
     have e:Lib.firstT s[i].toNat=4:=by
      unfold Lib.firstT
      repeat' split
      all_goals first|rfl|(exfalso;omega)
     exact fX 3 128 191 oM oM oM oM oM (by rw[e]) (by rw[e];rfl) (by rw[e];rfl)
    go_wp2_with fail;refine(ez s (i+1) 3 _ _ oM oM oM oM HZ.out _).mono ?_;rintro e w' ⟨rfl,rfl⟩;cases ht:bQ (s.data.toList.drop (i+1)) 3
    ·have HF:Hid (cE s=false):=by rw[Hid,HV.out,ht];rfl
     clear ht;go_wp2;go_ret;exact⟨by rw[HF.out];rfl,rfl⟩
    obtain⟨hsz,hx1,hc,hX⟩:=ef oM ht HV.out;have HX:=qD hX;clear ht hX;have HN:Hid (cE s=Lib.validD (s.data.toList.drop (i+3+1))):=by rw[Hid,HX.out,OM oM,OM oM];rfl
    go_wp2_with fail;go_roundw
    ·exact⟨i+3+1,by omega,by go_num,HN.out,trivial⟩
    ·exact iO
   by_cases hl:244<=(s[i].toNat:Int)/\(s[i].toNat:Int)<=244
   ·obtain⟨hb1,hb2⟩:=hl;have f224:((s[i].toNat:Int)==224)=false:=by simp;omega
    have f237:((s[i].toNat:Int)==237)=false:=by simp;omega
    have f240:((s[i].toNat:Int)==240)=false:=by simp;omega
    have f244:((s[i].toNat:Int)==244)=true:=by simp;omega
    have HV:Hid (cE s=(bQ (s.data.toList.drop (i+1)) 3&&(decide (128<=((s.data.toList.drop (i+1)).getD 0 0).toNat)&&decide (((s.data.toList.drop (i+1)).getD 0 0).toNat<=143))&&Lib.validD ((s.data.toList.drop (i+1)).drop 3))):=by
     rw[Hid,HD.out]
     have e:Lib.firstT s[i].toNat=68:=by
      unfold Lib.firstT
      repeat' split
      all_goals first|rfl|(exfalso;omega)
     exact fX 3 128 143 oM oM oM oM oM (by rw[e]) (by rw[e];rfl) (by rw[e];rfl)
    go_wp2_with fail;refine(ez s (i+1) 3 _ _ oM oM oM oM HZ.out _).mono ?_;rintro e w' ⟨rfl,rfl⟩;cases ht:bQ (s.data.toList.drop (i+1)) 3
    ·have HF:Hid (cE s=false):=by rw[Hid,HV.out,ht];rfl
     clear ht;go_wp2;go_ret;exact⟨by rw[HF.out];rfl,rfl⟩
    obtain⟨hsz,hx1,hc,hX⟩:=ef oM ht HV.out;have HX:=qD hX;clear ht hX;by_cases hq:143<(s[i+1].toNat:Int)
    ·have HF:Hid (cE s=false):=by rw[Hid,HX.out,OM oM,OV oM];rfl
     go_wp2;go_ret;exact⟨by rw[HF.out];rfl,rfl⟩
    have HN:Hid (cE s=Lib.validD (s.data.toList.drop (i+3+1))):=by rw[Hid,HX.out,OM oM,OM oM];rfl
    go_wp2_with fail;go_roundw
    ·exact⟨i+3+1,by omega,by go_num,HN.out,trivial⟩
    ·exact iO
   have hb:128<=s[i].toNat/\s[i].toNat<194\/244<s[i].toNat:=oM
   have HF:Hid (cE s=false):=by rw[Hid,HD.out];exact Gy hb
   rcases hb with⟨hb1,hb2⟩|hb1
   all_goals
    clear ha hc hd he hf hg hh hk hl;go_wp2;go_ret;exact⟨by rw[HF.out];rfl,rfl⟩
  ·have HF:Hid (cE s=true):=by rw[Hid,HL.out,Og sO];rfl
   go_wp2;go_ret;exact⟨by rw[HF.out];rfl,rfl⟩
end
end Go.Proofs.YtgfoliedmhgpnaaGreatDoor
