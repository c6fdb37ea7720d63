/- Parts of the proof, joined: ValFormed. -/
import Derived.Test.YtfkdihlbaghajaaGreatDoorOf1
import Derived.Test.YtfkdihlbaghajaaGreatDoorOf4
import Derived.Test.YtfkdihlbaghajaaGreatDoorOf12
import Derived.Test.YtfkdihlbaghajaaGreatDoorOf13
set_option maxRecDepth 100000
set_option maxHeartbeats 16000000
set_option linter.unusedSimpArgs false
namespace Go.Proofs.YtfkdihlbaghajaaGreatDoor
open Go.RowKit
theorem sound_loop{nm:ByteArray→Bool}{x:Val}(hh:HeadP x.k x.n x.t x.l.length x.d.length)(h:∀y∈x.l,SoundV nm y):soundB nm x=fieldsB nm x.d:=by
 by_cases hf:FieldsP nm x.d
 ·rw[fieldsB_true hf]
  exact soundB_true ((SoundV_iff nm x).2 ⟨hh,h,hf.2,hf.1⟩)
 ·rw[fieldsB_false hf]
  exact soundB_false fun hs=>hf ⟨((SoundV_iff nm x).1 hs).2.2.2,((SoundV_iff nm x).1 hs).2.2.1⟩
theorem rformed_any:∀x,RFormedAt x:=by
 intro x
 induction x using Val.ind with
 | h k n t l d ihl ihd=>
 intro names c w h
 obtain⟨ck,cn,ct,LA,cln,clc,DA,cdn,cdc⟩:=c
 have hk:ck=k:=h.open.k
 have hn:cn=n:=h.open.n
 have ht:ct=t:=h.open.t
 subst hk hn ht
 have HL:Hid (cln=l.length):=h.open.ln
 have HD:Hid (cdn=d.length):=h.open.dn
 have HX:=qD h
 have IH:=qD ihl
 have ID:=qD ihd
 obtain⟨nm,hnm⟩:∃nm,nmOf names=nm:=⟨_,rfl⟩
 have HNM:=qD hnm
 rw[hnm]
 clear h ihl ihd hnm
 by_cases e6:ck=6
 ·subst e6
  by_cases hd0:0<cdn
  ·have HV:Hid (soundB nm (Val.mk 6 cn ct l d)=false):=sound_not (by
    have q1:=HL.out
    have q2:=HD.out
    rintro⟨h1,h2,h3,h4,h5⟩
    simp only[Val.k,Val.n,Val.t,Val.l,Val.d] at h1 h2 h3 h4 h5
    omega)
   go_enter Tryz.func70,Tryz.ntmps70
   go_wp2_with fail
   all_goals
    go_ret
    exact⟨by rw[HV.out];rfl,(Below.refl _ _).alloc (qL) _⟩
  cases hn0:(cn != 0)
  rotate_left
  ·have hn1:¬cn=0:=by simpa using hn0
   have HV:Hid (soundB nm (Val.mk 6 cn ct l d)=false):=sound_not (by
    have q1:=HL.out
    have q2:=HD.out
    rintro⟨h1,h2,h3,h4,h5⟩
    simp only[Val.k,Val.n,Val.t,Val.l,Val.d] at h1 h2 h3 h4 h5
    omega)
   go_enter Tryz.func70,Tryz.ntmps70
   go_wp2_with fail
   all_goals
    go_ret
    exact⟨by rw[HV.out];rfl,(Below.refl _ _).alloc (qL) _⟩
  obtain rfl:cn=0:=by simpa using hn0
  by_cases ht0:ct.size=0
  rotate_left
  ·have HV:Hid (soundB nm (Val.mk 6 0 ct l d)=false):=sound_not (by
    have q1:=HL.out
    have q2:=HD.out
    rintro⟨h1,h2,h3,h4,h5⟩
    simp only[Val.k,Val.n,Val.t,Val.l,Val.d] at h1 h2 h3 h4 h5
    omega)
   obtain⟨f1,f2,f3⟩:=bytes_not ht0
   go_enter Tryz.func70,Tryz.ntmps70
   go_wp2_with fail
   all_goals
    go_ret
    exact⟨by rw[HV.out];rfl,(Below.refl _ _).alloc (qL) _⟩
  obtain rfl:=bytes_empty ht0
  have HH:Hid (HeadP 6 0 ByteArray.empty l.length d.length):=⟨by simp,by simp,.inl rfl,.inr (by have:=HD.out;omega),by simp⟩
  obtain⟨ps,hps,hsl⟩:=HX.out.sl
  simp only at hsl
  have HP:=qD hsl
  have HS:Hid (ps.map Prod.snd=l):=hps
  have HN:=qD hsl.sr.ln
  have hz1:=hsl.sz
  unfold reach at hz1
  clear hps hsl
  go_enter Tryz.func70,Tryz.ntmps70
  go_wp2_with fail
  go_loopw [7] (fun v7 wr=>∃i:Nat,i≤cln∧v7=.int .i64 i∧(∀y∈l.take i,SoundV nm y)∧Blk wr w.heap.size 32 (VC.arr ⟨6,0,ByteArray.empty,LA,cln,clc,DA,cdn,cdc⟩)∧Below w.heap.size w wr) (fun v7 _=>cln-(intOf v7).toNat)
  case atStart=>exact⟨0,Nat.zero_le _,rfl,by simp,Blk.new_at rfl,(Below.refl _ _).alloc (qL) _⟩
  case round=>
   obtain⟨i,hi,rfl,ha,hK,I⟩:=hrel
   have HA:=qD ha
   have J:=qD I
   have JK:=qD hK
   have q3:=hK.cell 3
   simp at q3
   clear ha
   by_cases hlt:i<cln
   ·obtain⟨p,hp⟩:∃p,ps[i]?=some p:=⟨_,List.getElem?_eq_getElem (by have:=HN.out;omega)⟩
    have hy:l[i]?=some p.2:=by rw[←HS.out,List.getElem?_map,hp];rfl
    obtain⟨b,off,rfl,_,hu,hr⟩:=HP.out.vat hp
    obtain⟨y0,y1,y2,y3,y4⟩:=hu.keep (I.block b hu.lt)
    have HC:=qD (IH.out p.2 (List.mem_of_getElem? hy))
    have HR:=qD (hr.step I)
    have HY:=qD hy
    clear hp hy hu hr I hK
    go_wp2_with fail
    refine(HC.out names p.1 _ HR.out).mono ?_
    rintro e w2 ⟨rfl,hb2⟩
    rw[HNM.out]
    have J2:=qD (J.out.step' hb2)
    have JK2:=qD (JK.out.step hb2)
    clear y0 y1 y2 y3 y4 hb2 q3
    cases hso:soundB nm p.2
    ·have HV:Hid (soundB nm (Val.mk 6 0 ByteArray.empty l d)=false):=sound_not_at HY.out (soundB_not.1 hso)
     go_wp2_with fail
     go_ret
     exact⟨by rw[HV.out];rfl,J2.out⟩
    ·have HN2:Hid (∀y∈l.take (i+1),SoundV nm y):=by
      rw[Hid,take_snoc' HY.out]
      intro y hy
      rcases List.mem_append.1 hy with hy|hy
      ·exact HA.out y hy
      ·simp at hy
       subst hy
       exact soundB_iff.1 hso
     go_wp2_with fail
     go_roundw
     case rel=>exact⟨i+1,by omega,by go_num,HN2.out,JK2.out,J2.out⟩
     case measure=>simp[intOf];omega
   ·have HV:Hid (soundB nm (Val.mk 6 0 ByteArray.empty l d)=fieldsB nm d):=by
     have:=HA.out
     rw[List.take_of_length_le (by have:=HL.out;omega)] at this
     exact sound_loop HH.out this
    have HR:=qD (HX.out.step I)
    obtain⟨k0,k1,k2,_,k4⟩:=VAt.of_blk hK
    clear I hK
    go_wp2_with fail
    refine(rfields_any names (Val.mk 6 0 ByteArray.empty l d) ⟨6,0,ByteArray.empty,LA,cln,clc,DA,cdn,cdc⟩ _ HR.out ID.out).mono ?_
    rintro e w2 ⟨rfl,hb2⟩
    rw[HNM.out]
    have J2:=qD (J.out.step' hb2)
    clear hb2 q3 k0 k1 k2 k4
    go_wp2_with fail
    go_ret
    exact⟨by rw[HV.out];rfl,J2.out⟩
 by_cases e5:ck=5
 ·subst e5
  by_cases hl0:0<cln
  ·have HV:Hid (soundB nm (Val.mk 5 cn ct l d)=false):=sound_not (by
    have q1:=HL.out
    have q2:=HD.out
    rintro⟨h1,h2,h3,h4,h5⟩
    simp only[Val.k,Val.n,Val.t,Val.l,Val.d] at h1 h2 h3 h4 h5
    omega)
   go_enter Tryz.func70,Tryz.ntmps70
   go_wp2_with fail
   all_goals
    go_ret
    exact⟨by rw[HV.out];rfl,(Below.refl _ _).alloc (qL) _⟩
  cases hn0:(cn != 0)
  rotate_left
  ·have hn1:¬cn=0:=by simpa using hn0
   have HV:Hid (soundB nm (Val.mk 5 cn ct l d)=false):=sound_not (by
    have q1:=HL.out
    have q2:=HD.out
    rintro⟨h1,h2,h3,h4,h5⟩
    simp only[Val.k,Val.n,Val.t,Val.l,Val.d] at h1 h2 h3 h4 h5
    omega)
   go_enter Tryz.func70,Tryz.ntmps70
   go_wp2_with fail
   all_goals
    go_ret
    exact⟨by rw[HV.out];rfl,(Below.refl _ _).alloc (qL) _⟩
  obtain rfl:cn=0:=by simpa using hn0
  by_cases ht0:ct.size=0
  rotate_left
  ·have HV:Hid (soundB nm (Val.mk 5 0 ct l d)=false):=sound_not (by
    have q1:=HL.out
    have q2:=HD.out
    rintro⟨h1,h2,h3,h4,h5⟩
    simp only[Val.k,Val.n,Val.t,Val.l,Val.d] at h1 h2 h3 h4 h5
    omega)
   obtain⟨f1,f2,f3⟩:=bytes_not ht0
   go_enter Tryz.func70,Tryz.ntmps70
   go_wp2_with fail
   all_goals
    go_ret
    exact⟨by rw[HV.out];rfl,(Below.refl _ _).alloc (qL) _⟩
  obtain rfl:=bytes_empty ht0
  have HH:Hid (HeadP 5 0 ByteArray.empty l.length d.length):=⟨by simp,by simp,.inr (by have:=HL.out;omega),.inl rfl,by simp⟩
  obtain⟨ps,hps,hsl⟩:=HX.out.sl
  simp only at hsl
  have hz1:=hsl.sz
  unfold reach at hz1
  clear hps hsl
  go_enter Tryz.func70,Tryz.ntmps70
  go_wp2_with fail
  go_loopw [7] (fun v7 wr=>∃i:Nat,i≤cln∧v7=.int .i64 i∧(∀y∈l.take i,SoundV nm y)∧Blk wr w.heap.size 32 (VC.arr ⟨5,0,ByteArray.empty,LA,cln,clc,DA,cdn,cdc⟩)∧Below w.heap.size w wr) (fun v7 _=>cln-(intOf v7).toNat)
  case atStart=>exact⟨0,Nat.zero_le _,rfl,by simp,Blk.new_at rfl,(Below.refl _ _).alloc (qL) _⟩
  case round=>
   obtain⟨i,hi,rfl,ha,hK,I⟩:=hrel
   have HA:=qD ha
   have J:=qD I
   have JK:=qD hK
   have q3:=hK.cell 3
   simp at q3
   clear ha
   have hlt:¬i<cln:=by omega
   have HV:Hid (soundB nm (Val.mk 5 0 ByteArray.empty l d)=fieldsB nm d):=by
    have:=HA.out
    rw[List.take_of_length_le (by have:=HL.out;omega)] at this
    exact sound_loop HH.out this
   have HR:=qD (HX.out.step I)
   obtain⟨k0,k1,k2,_,k4⟩:=VAt.of_blk hK
   clear I hK
   go_wp2_with fail
   refine(rfields_any names (Val.mk 5 0 ByteArray.empty l d) ⟨5,0,ByteArray.empty,LA,cln,clc,DA,cdn,cdc⟩ _ HR.out ID.out).mono ?_
   rintro e w2 ⟨rfl,hb2⟩
   rw[HNM.out]
   have J2:=qD (J.out.step' hb2)
   clear hb2 q3 k0 k1 k2 k4
   go_wp2_with fail
   go_ret
   exact⟨by rw[HV.out];rfl,J2.out⟩
 have m6:(ck != 6)=true:=by simpa using e6
 have m5:(ck != 5)=true:=by simpa using e5
 by_cases hl0:0<cln
 ·have HV:Hid (soundB nm (Val.mk ck cn ct l d)=false):=sound_not (by
   have q1:=HL.out
   have q2:=HD.out
   rintro⟨h1,h2,h3,h4,h5⟩
   simp only[Val.k,Val.n,Val.t,Val.l,Val.d] at h1 h2 h3 h4 h5
   omega)
  clear e5 e6
  go_enter Tryz.func70,Tryz.ntmps70
  go_wp2_with fail
  all_goals
   go_ret
   exact⟨by rw[HV.out];rfl,(Below.refl _ _).alloc (qL) _⟩
 by_cases hd0:0<cdn
 ·have HV:Hid (soundB nm (Val.mk ck cn ct l d)=false):=sound_not (by
   have q1:=HL.out
   have q2:=HD.out
   rintro⟨h1,h2,h3,h4,h5⟩
   simp only[Val.k,Val.n,Val.t,Val.l,Val.d] at h1 h2 h3 h4 h5
   omega)
  clear e5 e6
  go_enter Tryz.func70,Tryz.ntmps70
  go_wp2_with fail
  all_goals
   go_ret
   exact⟨by rw[HV.out];rfl,(Below.refl _ _).alloc (qL) _⟩
 rcases int_ways ck with hi|⟨e3,e9,e10⟩
 ·clear m5 m6
  by_cases ht0:ct.size=0
  ·obtain rfl:=bytes_empty ht0
   rcases hi with rfl|rfl|rfl
   ·have HH:Hid (HeadP 3 cn ByteArray.empty l.length d.length):=⟨by simp,by simp,.inr (by have:=HL.out;omega),.inr (by have:=HD.out;omega),by simp⟩
    obtain⟨ps,hps,hsl⟩:=HX.out.sl
    simp only at hsl
    have hz1:=hsl.sz
    unfold reach at hz1
    clear hps hsl
    go_enter Tryz.func70,Tryz.ntmps70
    go_wp2_with fail
    go_loopw [7] (fun v7 wr=>∃i:Nat,i≤cln∧v7=.int .i64 i∧(∀y∈l.take i,SoundV nm y)∧Blk wr w.heap.size 32 (VC.arr ⟨3,cn,ByteArray.empty,LA,cln,clc,DA,cdn,cdc⟩)∧Below w.heap.size w wr) (fun v7 _=>cln-(intOf v7).toNat)
    case atStart=>exact⟨0,Nat.zero_le _,rfl,by simp,Blk.new_at rfl,(Below.refl _ _).alloc (qL) _⟩
    case round=>
     obtain⟨i,hi,rfl,ha,hK,I⟩:=hrel
     have HA:=qD ha
     have J:=qD I
     have JK:=qD hK
     have q3:=hK.cell 3
     simp at q3
     clear ha
     have hlt:¬i<cln:=by omega
     have HV:Hid (soundB nm (Val.mk 3 cn ByteArray.empty l d)=fieldsB nm d):=by
      have:=HA.out
      rw[List.take_of_length_le (by have:=HL.out;omega)] at this
      exact sound_loop HH.out this
     have HR:=qD (HX.out.step I)
     obtain⟨k0,k1,k2,_,k4⟩:=VAt.of_blk hK
     clear I hK
     go_wp2_with fail
     refine(rfields_any names (Val.mk 3 cn ByteArray.empty l d) ⟨3,cn,ByteArray.empty,LA,cln,clc,DA,cdn,cdc⟩ _ HR.out ID.out).mono ?_
     rintro e w2 ⟨rfl,hb2⟩
     rw[HNM.out]
     have J2:=qD (J.out.step' hb2)
     clear hb2 q3 k0 k1 k2 k4
     go_wp2_with fail
     go_ret
     exact⟨by rw[HV.out];rfl,J2.out⟩
   ·cases hn0:(cn==0)
    ·cases hn1:(cn==1)
     ·have h0:¬cn=0:=by simpa using hn0
      have h1:¬cn=1:=by simpa using hn1
      have HV:Hid (soundB nm (Val.mk 9 cn ByteArray.empty l d)=false):=by
       exact sound_not (by rintro⟨h1,h2,h3,h4,h5⟩;simp only[Val.k,Val.n,Val.t] at h5;omega)
      go_enter Tryz.func70,Tryz.ntmps70
      go_wp2_with fail
      all_goals
       go_ret
       exact⟨by rw[HV.out];rfl,(Below.refl _ _).alloc (qL) _⟩
     ·obtain rfl:cn=1:=by simpa using hn1
      have HV:Hid (soundB nm (Val.mk 9 1 ByteArray.empty l d)=true):=by
       exact sound_leaf (by simp only[Val.k];omega) (by simp only[Val.k];omega) ⟨by simp[Val.k,Val.n],by simp[Val.k,Val.t],by have:=HL.out;simp only[Val.k,Val.l];omega,by have:=HD.out;simp only[Val.k,Val.d];omega,by simp[Val.k,Val.n]⟩
      go_enter Tryz.func70,Tryz.ntmps70
      go_wp2_with fail
      all_goals
       go_ret
       exact⟨by rw[HV.out];rfl,(Below.refl _ _).alloc (qL) _⟩
    ·obtain rfl:cn=0:=by simpa using hn0
     have HV:Hid (soundB nm (Val.mk 9 0 ByteArray.empty l d)=true):=by
      exact sound_leaf (by simp only[Val.k];omega) (by simp only[Val.k];omega) ⟨by simp[Val.k,Val.n],by simp[Val.k,Val.t],by have:=HL.out;simp only[Val.k,Val.l];omega,by have:=HD.out;simp only[Val.k,Val.d];omega,by simp[Val.k,Val.n]⟩
     go_enter Tryz.func70,Tryz.ntmps70
     go_wp2_with fail
     all_goals
      go_ret
      exact⟨by rw[HV.out];rfl,(Below.refl _ _).alloc (qL) _⟩
   ·by_cases hn0:0≤cn
    ·have hd':decide (0≤cn)=true:=decide_eq_true hn0
     have HV:Hid (soundB nm (Val.mk 10 cn ByteArray.empty l d)=true):=by
      exact sound_leaf (by simp only[Val.k];omega) (by simp only[Val.k];omega) ⟨by simp[Val.k,Val.n],by simp[Val.k,Val.t],by have:=HL.out;simp only[Val.k,Val.l];omega,by have:=HD.out;simp only[Val.k,Val.d];omega,by simpa[Val.k,Val.n] using hn0⟩
     go_enter Tryz.func70,Tryz.ntmps70
     go_wp2_with fail
     all_goals
      go_ret
      exact⟨by rw[HV.out];rfl,(Below.refl _ _).alloc (qL) _⟩
    ·have hd':decide (0≤cn)=false:=decide_eq_false hn0
     have HV:Hid (soundB nm (Val.mk 10 cn ByteArray.empty l d)=false):=by
      exact sound_not (by rintro⟨h1,h2,h3,h4,h5⟩;simp only[Val.k,Val.n,Val.t] at h5;omega)
     go_enter Tryz.func70,Tryz.ntmps70
     go_wp2_with fail
     all_goals
      go_ret
      exact⟨by rw[HV.out];rfl,(Below.refl _ _).alloc (qL) _⟩
  ·rcases hi with rfl|rfl|rfl
   ·have HV:Hid (soundB nm (Val.mk 3 cn ct l d)=false):=sound_not (by
     have q1:=HL.out
     have q2:=HD.out
     rintro⟨h1,h2,h3,h4,h5⟩
     simp only[Val.k,Val.n,Val.t,Val.l,Val.d] at h1 h2 h3 h4 h5
     omega)
    obtain⟨f1,f2,f3⟩:=bytes_not ht0
    go_enter Tryz.func70,Tryz.ntmps70
    go_wp2_with fail
    all_goals
     go_ret
     exact⟨by rw[HV.out];rfl,(Below.refl _ _).alloc (qL) _⟩
   ·have HV:Hid (soundB nm (Val.mk 9 cn ct l d)=false):=sound_not (by
     have q1:=HL.out
     have q2:=HD.out
     rintro⟨h1,h2,h3,h4,h5⟩
     simp only[Val.k,Val.n,Val.t,Val.l,Val.d] at h1 h2 h3 h4 h5
     omega)
    obtain⟨f1,f2,f3⟩:=bytes_not ht0
    go_enter Tryz.func70,Tryz.ntmps70
    go_wp2_with fail
    all_goals
     go_ret
     exact⟨by rw[HV.out];rfl,(Below.refl _ _).alloc (qL) _⟩
   ·have HV:Hid (soundB nm (Val.mk 10 cn ct l d)=false):=sound_not (by
     have q1:=HL.out
     have q2:=HD.out
     rintro⟨h1,h2,h3,h4,h5⟩
     simp only[Val.k,Val.n,Val.t,Val.l,Val.d] at h1 h2 h3 h4 h5
     omega)
    obtain⟨f1,f2,f3⟩:=bytes_not ht0
    go_enter Tryz.func70,Tryz.ntmps70
    go_wp2_with fail
    all_goals
     go_ret
     exact⟨by rw[HV.out];rfl,(Below.refl _ _).alloc (qL) _⟩
 have g3:=beq_no e3
 have g9:=beq_no e9
 have g10:=beq_no e10
 cases hn0:(cn != 0)
 rotate_left
 ·have hn1:¬cn=0:=by simpa using hn0
  have HV:Hid (soundB nm (Val.mk ck cn ct l d)=false):=sound_not (by
   have q1:=HL.out
   have q2:=HD.out
   rintro⟨h1,h2,h3,h4,h5⟩
   simp only[Val.k,Val.n,Val.t,Val.l,Val.d] at h1 h2 h3 h4 h5
   omega)
  clear e3 e9 e10 hn1 e5 e6
  go_enter Tryz.func70,Tryz.ntmps70
  go_wp2_with fail
  all_goals
   go_ret
   exact⟨by rw[HV.out];rfl,(Below.refl _ _).alloc (qL) _⟩
 obtain rfl:cn=0:=by simpa using hn0
 rcases text_ways ck with hi|⟨e4,e7,e8⟩
 ·clear m5 m6 g3 g9 g10
  rcases hi with rfl|rfl|rfl
  ·by_cases hs:ct.size≤4096
   ·have HU:Hid (soundB nm (Val.mk 4 0 ct l d)=utf8B ct):=by
     cases hu:utf8B ct
     ·exact sound_not (by rintro⟨h1,h2,h3,h4,h5⟩;simp only[Val.k,Val.n,Val.t,hu] at h5;simp at h5)
     ·exact sound_leaf (by simp only[Val.k];omega) (by simp only[Val.k];omega) ⟨by simp[Val.k,Val.n],by simp[Val.k,Val.t],by have:=HL.out;simp only[Val.k,Val.l];omega,by have:=HD.out;simp only[Val.k,Val.d];omega,.inr (.inr (.inr (.inr (.inr (.inr (.inl ⟨rfl,hs,hu⟩))))))⟩
    have HZ:Hid (ct.size≤reach):=by unfold Hid reach;omega
    have hd':decide ((ct.size:Int)≤4096)=true:=decide_eq_true (by omega)
    go_enter Tryz.func70,Tryz.ntmps70
    go_wp2_with fail
    refine(rutf8_any ct _ HZ.out).mono ?_
    rintro e w' ⟨rfl,rfl⟩
    go_wp2_with fail
    go_ret
    exact⟨by rw[HU.out];rfl,(Below.refl _ _).alloc (qL) _⟩
   ·have hd':decide ((ct.size:Int)≤4096)=false:=decide_eq_false (by omega)
    have HV:Hid (soundB nm (Val.mk 4 0 ct l d)=false):=by
     exact sound_not (by rintro⟨h1,h2,h3,h4,h5⟩;simp only[Val.k,Val.n,Val.t] at h5;omega)
    go_enter Tryz.func70,Tryz.ntmps70
    go_wp2_with fail
    all_goals
     go_ret
     exact⟨by rw[HV.out];rfl,(Below.refl _ _).alloc (qL) _⟩
  ·by_cases hs:ct.size≤4096
   ·have hd':decide ((ct.size:Int)≤4096)=true:=decide_eq_true (by omega)
    have HV:Hid (soundB nm (Val.mk 7 0 ct l d)=true):=by
     exact sound_leaf (by simp only[Val.k];omega) (by simp only[Val.k];omega) ⟨by simp[Val.k,Val.n],by simp[Val.k,Val.t],by have:=HL.out;simp only[Val.k,Val.l];omega,by have:=HD.out;simp only[Val.k,Val.d];omega,by simpa[Val.k,Val.t] using hs⟩
    go_enter Tryz.func70,Tryz.ntmps70
    go_wp2_with fail
    all_goals
     go_ret
     exact⟨by rw[HV.out];rfl,(Below.refl _ _).alloc (qL) _⟩
   ·have hd':decide ((ct.size:Int)≤4096)=false:=decide_eq_false (by omega)
    have HV:Hid (soundB nm (Val.mk 7 0 ct l d)=false):=by
     exact sound_not (by rintro⟨h1,h2,h3,h4,h5⟩;simp only[Val.k,Val.n,Val.t] at h5;omega)
    go_enter Tryz.func70,Tryz.ntmps70
    go_wp2_with fail
    all_goals
     go_ret
     exact⟨by rw[HV.out];rfl,(Below.refl _ _).alloc (qL) _⟩
  ·cases hs:((ct.size:Int)==12)
   ·have hs':¬ct.size=12:=by simp at hs;omega
    have HV:Hid (soundB nm (Val.mk 8 0 ct l d)=false):=by
     exact sound_not (by rintro⟨h1,h2,h3,h4,h5⟩;simp only[Val.k,Val.n,Val.t] at h5;omega)
    go_enter Tryz.func70,Tryz.ntmps70
    go_wp2_with fail
    all_goals
     go_ret
     exact⟨by rw[HV.out];rfl,(Below.refl _ _).alloc (qL) _⟩
   ·have hs':ct.size=12:=by simp at hs;omega
    have HV:Hid (soundB nm (Val.mk 8 0 ct l d)=true):=by
     exact sound_leaf (by simp only[Val.k];omega) (by simp only[Val.k];omega) ⟨by simp[Val.k,Val.n],by simp[Val.k,Val.t],by have:=HL.out;simp only[Val.k,Val.l];omega,by have:=HD.out;simp only[Val.k,Val.d];omega,by simpa[Val.k,Val.t] using hs'⟩
    clear hs'
    go_enter Tryz.func70,Tryz.ntmps70
    go_wp2_with fail
    all_goals
     go_ret
     exact⟨by rw[HV.out];rfl,(Below.refl _ _).alloc (qL) _⟩
 have g4:=beq_no e4
 have g7:=beq_no e7
 have g8:=beq_no e8
 by_cases ht0:ct.size=0
 rotate_left
 ·have HV:Hid (soundB nm (Val.mk ck 0 ct l d)=false):=sound_not (by
   have q1:=HL.out
   have q2:=HD.out
   rintro⟨h1,h2,h3,h4,h5⟩
   simp only[Val.k,Val.n,Val.t,Val.l,Val.d] at h1 h2 h3 h4 h5
   omega)
  obtain⟨f1,f2,f3⟩:=bytes_not ht0
  clear e3 e9 e10 e4 e7 e8 e5 e6
  go_enter Tryz.func70,Tryz.ntmps70
  go_wp2_with fail
  all_goals
   go_ret
   exact⟨by rw[HV.out];rfl,(Below.refl _ _).alloc (qL) _⟩
 obtain rfl:=bytes_empty ht0
 rcases rest_ways ck with h|h|h|h|h|⟨e1,e2,e11,_,_⟩
 ·subst h
  clear m5 m6 g3 g9 g10 g4 g7 g8
  have HH:Hid (HeadP 1 0 ByteArray.empty l.length d.length):=⟨by simp,by simp,.inr (by have:=HL.out;omega),.inr (by have:=HD.out;omega),by simp⟩
  obtain⟨ps,hps,hsl⟩:=HX.out.sl
  simp only at hsl
  have hz1:=hsl.sz
  unfold reach at hz1
  clear hps hsl
  go_enter Tryz.func70,Tryz.ntmps70
  go_wp2_with fail
  go_loopw [7] (fun v7 wr=>∃i:Nat,i≤cln∧v7=.int .i64 i∧(∀y∈l.take i,SoundV nm y)∧Blk wr w.heap.size 32 (VC.arr ⟨1,0,ByteArray.empty,LA,cln,clc,DA,cdn,cdc⟩)∧Below w.heap.size w wr) (fun v7 _=>cln-(intOf v7).toNat)
  case atStart=>exact⟨0,Nat.zero_le _,rfl,by simp,Blk.new_at rfl,(Below.refl _ _).alloc (qL) _⟩
  case round=>
   obtain⟨i,hi,rfl,ha,hK,I⟩:=hrel
   have HA:=qD ha
   have J:=qD I
   have JK:=qD hK
   have q3:=hK.cell 3
   simp at q3
   clear ha
   have hlt:¬i<cln:=by omega
   have HV:Hid (soundB nm (Val.mk 1 0 ByteArray.empty l d)=fieldsB nm d):=by
    have:=HA.out
    rw[List.take_of_length_le (by have:=HL.out;omega)] at this
    exact sound_loop HH.out this
   have HR:=qD (HX.out.step I)
   obtain⟨k0,k1,k2,_,k4⟩:=VAt.of_blk hK
   clear I hK
   go_wp2_with fail
   refine(rfields_any names (Val.mk 1 0 ByteArray.empty l d) ⟨1,0,ByteArray.empty,LA,cln,clc,DA,cdn,cdc⟩ _ HR.out ID.out).mono ?_
   rintro e w2 ⟨rfl,hb2⟩
   rw[HNM.out]
   have J2:=qD (J.out.step' hb2)
   clear hb2 q3 k0 k1 k2 k4
   go_wp2_with fail
   go_ret
   exact⟨by rw[HV.out];rfl,J2.out⟩
 ·subst h
  clear m5 m6 g3 g9 g10 g4 g7 g8
  have HH:Hid (HeadP 2 0 ByteArray.empty l.length d.length):=⟨by simp,by simp,.inr (by have:=HL.out;omega),.inr (by have:=HD.out;omega),by simp⟩
  obtain⟨ps,hps,hsl⟩:=HX.out.sl
  simp only at hsl
  have hz1:=hsl.sz
  unfold reach at hz1
  clear hps hsl
  go_enter Tryz.func70,Tryz.ntmps70
  go_wp2_with fail
  go_loopw [7] (fun v7 wr=>∃i:Nat,i≤cln∧v7=.int .i64 i∧(∀y∈l.take i,SoundV nm y)∧Blk wr w.heap.size 32 (VC.arr ⟨2,0,ByteArray.empty,LA,cln,clc,DA,cdn,cdc⟩)∧Below w.heap.size w wr) (fun v7 _=>cln-(intOf v7).toNat)
  case atStart=>exact⟨0,Nat.zero_le _,rfl,by simp,Blk.new_at rfl,(Below.refl _ _).alloc (qL) _⟩
  case round=>
   obtain⟨i,hi,rfl,ha,hK,I⟩:=hrel
   have HA:=qD ha
   have J:=qD I
   have JK:=qD hK
   have q3:=hK.cell 3
   simp at q3
   clear ha
   have hlt:¬i<cln:=by omega
   have HV:Hid (soundB nm (Val.mk 2 0 ByteArray.empty l d)=fieldsB nm d):=by
    have:=HA.out
    rw[List.take_of_length_le (by have:=HL.out;omega)] at this
    exact sound_loop HH.out this
   have HR:=qD (HX.out.step I)
   obtain⟨k0,k1,k2,_,k4⟩:=VAt.of_blk hK
   clear I hK
   go_wp2_with fail
   refine(rfields_any names (Val.mk 2 0 ByteArray.empty l d) ⟨2,0,ByteArray.empty,LA,cln,clc,DA,cdn,cdc⟩ _ HR.out ID.out).mono ?_
   rintro e w2 ⟨rfl,hb2⟩
   rw[HNM.out]
   have J2:=qD (J.out.step' hb2)
   clear hb2 q3 k0 k1 k2 k4
   go_wp2_with fail
   go_ret
   exact⟨by rw[HV.out];rfl,J2.out⟩
 ·subst h
  clear m5 m6 g3 g9 g10 g4 g7 g8
  have HH:Hid (HeadP 11 0 ByteArray.empty l.length d.length):=⟨by simp,by simp,.inr (by have:=HL.out;omega),.inr (by have:=HD.out;omega),by simp⟩
  obtain⟨ps,hps,hsl⟩:=HX.out.sl
  simp only at hsl
  have hz1:=hsl.sz
  unfold reach at hz1
  clear hps hsl
  go_enter Tryz.func70,Tryz.ntmps70
  go_wp2_with fail
  go_loopw [7] (fun v7 wr=>∃i:Nat,i≤cln∧v7=.int .i64 i∧(∀y∈l.take i,SoundV nm y)∧Blk wr w.heap.size 32 (VC.arr ⟨11,0,ByteArray.empty,LA,cln,clc,DA,cdn,cdc⟩)∧Below w.heap.size w wr) (fun v7 _=>cln-(intOf v7).toNat)
  case atStart=>exact⟨0,Nat.zero_le _,rfl,by simp,Blk.new_at rfl,(Below.refl _ _).alloc (qL) _⟩
  case round=>
   obtain⟨i,hi,rfl,ha,hK,I⟩:=hrel
   have HA:=qD ha
   have J:=qD I
   have JK:=qD hK
   have q3:=hK.cell 3
   simp at q3
   clear ha
   have hlt:¬i<cln:=by omega
   have HV:Hid (soundB nm (Val.mk 11 0 ByteArray.empty l d)=fieldsB nm d):=by
    have:=HA.out
    rw[List.take_of_length_le (by have:=HL.out;omega)] at this
    exact sound_loop HH.out this
   have HR:=qD (HX.out.step I)
   obtain⟨k0,k1,k2,_,k4⟩:=VAt.of_blk hK
   clear I hK
   go_wp2_with fail
   refine(rfields_any names (Val.mk 11 0 ByteArray.empty l d) ⟨11,0,ByteArray.empty,LA,cln,clc,DA,cdn,cdc⟩ _ HR.out ID.out).mono ?_
   rintro e w2 ⟨rfl,hb2⟩
   rw[HNM.out]
   have J2:=qD (J.out.step' hb2)
   clear hb2 q3 k0 k1 k2 k4
   go_wp2_with fail
   go_ret
   exact⟨by rw[HV.out];rfl,J2.out⟩
 ·exact absurd h e6
 ·exact absurd h e5
 ·have hlo:ck<1∨11<ck:=by omega
  rcases hlo with hlo|hlo
  ·have HV:Hid (soundB nm (Val.mk ck 0 ByteArray.empty l d)=false):=sound_not (by
    have q1:=HL.out
    have q2:=HD.out
    rintro⟨h1,h2,h3,h4,h5⟩
    simp only[Val.k,Val.n,Val.t,Val.l,Val.d] at h1 h2 h3 h4 h5
    omega)
   clear e3 e9 e10 e4 e7 e8 e1 e2 e11 e5 e6
   go_enter Tryz.func70,Tryz.ntmps70
   go_wp2_with fail
   all_goals
    go_ret
    exact⟨by rw[HV.out];rfl,(Below.refl _ _).alloc (qL) _⟩
  ·have HV:Hid (soundB nm (Val.mk ck 0 ByteArray.empty l d)=false):=sound_not (by
    have q1:=HL.out
    have q2:=HD.out
    rintro⟨h1,h2,h3,h4,h5⟩
    simp only[Val.k,Val.n,Val.t,Val.l,Val.d] at h1 h2 h3 h4 h5
    omega)
   clear e3 e9 e10 e4 e7 e8 e1 e2 e11 e5 e6
   go_enter Tryz.func70,Tryz.ntmps70
   go_wp2_with fail
   all_goals
    go_ret
    exact⟨by rw[HV.out];rfl,(Below.refl _ _).alloc (qL) _⟩
theorem rvalid_any(x:Val)(c:VC)(w:World)(h:RW w c x):Calls Tryz.prog 24 #[c.val] w fun e w'=>e=.returned (.bool (validV x))∧Below w.heap.size w w':=by
 have H:=qD (h.alloc (.cells c.arr 32))
 have HB:Hid (Blk (w.alloc (.cells c.arr 32)) w.heap.size 32 c.arr):=Blk.new_at rfl
 have HZ:=qD ((Below.refl w.heap.size w).alloc (qL) (Obj.cells c.arr 32))
 clear h
 go_enter Tryz.func24,Tryz.ntmps24
 go_wp2_with fail
 refine(rdepthV_any x c _ H.out).mono ?_
 rintro e w1 ⟨rfl,hb1⟩
 obtain⟨a0,a1,a2,a3,a4⟩:=VAt.of_blk (HB.out.step hb1)
 have HB1:=qD (HB.out.step hb1)
 have H1:=qD (H.out.step hb1)
 have HZ1:=qD (HZ.out.step' hb1)
 clear hb1
 by_cases h1:depthV x≤16
 ·have HD1:Hid (decide (x.height≤16)=true):=by rw[Hid,←depth_le];exact decide_eq_true h1
  go_wp2_with fail
  refine(rnodesV_any x c _ H1.out).mono ?_
  rintro e w2 ⟨rfl,hb2⟩
  clear a0 a1 a2 a3 a4
  obtain⟨a0,a1,a2,a3,a4⟩:=VAt.of_blk (HB1.out.step hb2)
  have H2:=qD (H1.out.step hb2)
  have HZ2:=qD (HZ1.out.step' hb2)
  clear hb2
  by_cases h2:nodesV x≤1024
  ·have HD2:Hid (decide (x.size≤1024)=true):=by rw[Hid,←nodes_le];exact decide_eq_true h2
   go_wp2_with fail
   refine(rformed_any x true c _ H2.out).mono ?_
   rintro e w3 ⟨rfl,hb3⟩
   go_wp2_with fail
   go_ret
   exact⟨by unfold validV;rw[HD1.out,HD2.out];rfl,HZ2.out.step' hb3⟩
  ·have HD2:Hid (decide (x.size≤1024)=false):=by rw[Hid,←nodes_le];exact decide_eq_false h2
   go_wp2_with fail
   go_ret
   exact⟨by unfold validV;rw[HD2.out];rfl,HZ2.out⟩
 ·have HD1:Hid (decide (x.height≤16)=false):=by rw[Hid,←depth_le];exact decide_eq_false h1
  go_wp2_with fail
  go_ret
  exact⟨by unfold validV;rw[HD1.out,Bool.and_false];rfl,HZ1.out⟩
end Go.Proofs.YtfkdihlbaghajaaGreatDoor
