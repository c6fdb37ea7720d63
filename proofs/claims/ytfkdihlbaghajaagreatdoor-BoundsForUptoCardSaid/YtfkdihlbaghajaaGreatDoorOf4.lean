/- Parts of the proof, joined: ValSound. -/
import Derived.Test.YtfkdihlbaghajaaGreatDoorOf1
import Derived.Test.YtfkdihlbaghajaaGreatDoorOf3
set_option maxRecDepth 100000
set_option maxHeartbeats 16000000
set_option linter.unusedSimpArgs false
namespace Go.Proofs.YtfkdihlbaghajaaGreatDoor
open Go.RowKit
theorem int_ways(k:Int):(k=3∨k=9∨k=10)∨(k≠3∧k≠9∧k≠10):=by omega
theorem text_ways(k:Int):(k=4∨k=7∨k=8)∨(k≠4∧k≠7∧k≠8):=by omega
theorem rest_ways(k:Int):k=1∨k=2∨k=11∨k=6∨k=5∨(k≠1∧k≠2∧k≠11∧k≠6∧k≠5):=by omega
theorem bytes_empty{t:ByteArray}(h:t.size=0):t=ByteArray.empty:=by
 obtain⟨⟨l⟩⟩:=t
 simp[ByteArray.size] at h
 subst h
 rfl
theorem bytes_not{t:ByteArray}(h:¬t.size=0):(t.toList==[])=false∧t.toList≠[]∧t.toList.isEmpty=false:=by
 have:t.toList≠[]:=fun e=>h (by rw[Go.ByteArray.toList_eq] at e;have:=congrArg List.length e;simpa using this)
 exact⟨by simpa using this,this,by simpa using this⟩
theorem beq_no{a b:Int}(h:a≠b):(a==b)=false:=by simpa using h
structure SoB(w:World)(wr:World):Prop where
 bel:Below w.heap.size w wr
theorem SoB.bel0{w wr:World}(h:SoB w wr):Below w.heap.size w wr:=h.bel
theorem sound_any:∀x,SoundAt x:=by
 intro x
 induction x using Val.ind with
 | h k n t l d ihl ihd=>
 intro c w hT h
 obtain⟨ck,cn,ct,LA,cln,clc,DA,cdn,cdc⟩:=c
 have hk:ck=k:=h.open.k
 have hn:cn=n:=h.open.n
 have ht:ct=t:=h.open.t
 subst hk hn ht
 have HL:Hid (cln=l.length):=h.open.ln
 have HD:Hid (cdn=d.length):=h.open.dn
 have HX:=qD h
 have HT:=qD hT
 have IH:=qD ihl
 have ID:=qD ihd
 clear h hT ihl ihd
 have B0:Hid (SoB w (w.alloc (.cells #[.int .i64 ck,.int .i64 cn,.string ct,.slice LA cln clc,.slice DA cdn cdc] 32))):=qD ⟨(Below.refl _ _).alloc (qL) _⟩
 rcases int_ways ck with hi|⟨e3,e9,e10⟩
 ·by_cases ht0:ct.size=0
  ·obtain rfl:=bytes_empty ht0
   rcases hi with rfl|rfl|rfl
   ·by_cases hl0:0<cln
    ·have HV:Hid (soundB nameB (Val.mk 3 cn ByteArray.empty l d)=false):=sound_not (by
      have q1:=HL.out
      have q2:=HD.out
      rintro⟨h1,h2,h3,h4,h5⟩
      simp only[Val.k,Val.n,Val.t,Val.l,Val.d] at h1 h2 h3 h4 h5
      omega)
     go_enter Tryz.func173,Tryz.ntmps173
     go_wp2_with fail
     all_goals
      go_ret
      exact⟨by rw[HV.out];rfl,(Below.refl _ _).alloc (qL) _⟩
    obtain rfl:cln=0:=by omega
    by_cases hd0:0<cdn
    ·have HV:Hid (soundB nameB (Val.mk 3 cn ByteArray.empty l d)=false):=sound_not (by
      have q1:=HL.out
      have q2:=HD.out
      rintro⟨h1,h2,h3,h4,h5⟩
      simp only[Val.k,Val.n,Val.t,Val.l,Val.d] at h1 h2 h3 h4 h5
      omega)
     go_enter Tryz.func173,Tryz.ntmps173
     go_wp2_with fail
     all_goals
      go_ret
      exact⟨by rw[HV.out];rfl,(Below.refl _ _).alloc (qL) _⟩
    obtain rfl:cdn=0:=by omega
    have HV:Hid (soundB nameB (Val.mk 3 cn ByteArray.empty l d)=true):=by
     exact sound_leaf (by simp only[Val.k];omega) (by simp only[Val.k];omega) ⟨by simp[Val.k,Val.n],by simp[Val.k,Val.t],by have:=HL.out;simp only[Val.k,Val.l];omega,by have:=HD.out;simp only[Val.k,Val.d];omega,by simp[Val.k]⟩
    go_enter Tryz.func173,Tryz.ntmps173
    go_wp2_with fail
    all_goals
     go_ret
     exact⟨by rw[HV.out];rfl,(Below.refl _ _).alloc (qL) _⟩
   ·by_cases hl0:0<cln
    ·have HV:Hid (soundB nameB (Val.mk 9 cn ByteArray.empty l d)=false):=sound_not (by
      have q1:=HL.out
      have q2:=HD.out
      rintro⟨h1,h2,h3,h4,h5⟩
      simp only[Val.k,Val.n,Val.t,Val.l,Val.d] at h1 h2 h3 h4 h5
      omega)
     go_enter Tryz.func173,Tryz.ntmps173
     go_wp2_with fail
     all_goals
      go_ret
      exact⟨by rw[HV.out];rfl,(Below.refl _ _).alloc (qL) _⟩
    obtain rfl:cln=0:=by omega
    by_cases hd0:0<cdn
    ·have HV:Hid (soundB nameB (Val.mk 9 cn ByteArray.empty l d)=false):=sound_not (by
      have q1:=HL.out
      have q2:=HD.out
      rintro⟨h1,h2,h3,h4,h5⟩
      simp only[Val.k,Val.n,Val.t,Val.l,Val.d] at h1 h2 h3 h4 h5
      omega)
     go_enter Tryz.func173,Tryz.ntmps173
     go_wp2_with fail
     all_goals
      go_ret
      exact⟨by rw[HV.out];rfl,(Below.refl _ _).alloc (qL) _⟩
    obtain rfl:cdn=0:=by omega
    cases hn0:(cn==0)
    ·cases hn1:(cn==1)
     ·have h0:¬cn=0:=by simpa using hn0
      have h1:¬cn=1:=by simpa using hn1
      have HV:Hid (soundB nameB (Val.mk 9 cn ByteArray.empty l d)=false):=by
       exact sound_not (by rintro⟨h1,h2,h3,h4,h5⟩;simp only[Val.k,Val.n,Val.t] at h5;omega)
      go_enter Tryz.func173,Tryz.ntmps173
      go_wp2_with fail
      all_goals
       go_ret
       exact⟨by rw[HV.out];rfl,(Below.refl _ _).alloc (qL) _⟩
     ·obtain rfl:cn=1:=by simpa using hn1
      have HV:Hid (soundB nameB (Val.mk 9 1 ByteArray.empty l d)=true):=by
       exact sound_leaf (by simp only[Val.k];omega) (by simp only[Val.k];omega) ⟨by simp[Val.k,Val.n],by simp[Val.k,Val.t],by have:=HL.out;simp only[Val.k,Val.l];omega,by have:=HD.out;simp only[Val.k,Val.d];omega,by simp[Val.k,Val.n]⟩
      go_enter Tryz.func173,Tryz.ntmps173
      go_wp2_with fail
      all_goals
       go_ret
       exact⟨by rw[HV.out];rfl,(Below.refl _ _).alloc (qL) _⟩
    ·obtain rfl:cn=0:=by simpa using hn0
     have HV:Hid (soundB nameB (Val.mk 9 0 ByteArray.empty l d)=true):=by
      exact sound_leaf (by simp only[Val.k];omega) (by simp only[Val.k];omega) ⟨by simp[Val.k,Val.n],by simp[Val.k,Val.t],by have:=HL.out;simp only[Val.k,Val.l];omega,by have:=HD.out;simp only[Val.k,Val.d];omega,by simp[Val.k,Val.n]⟩
     go_enter Tryz.func173,Tryz.ntmps173
     go_wp2_with fail
     all_goals
      go_ret
      exact⟨by rw[HV.out];rfl,(Below.refl _ _).alloc (qL) _⟩
   ·by_cases hl0:0<cln
    ·have HV:Hid (soundB nameB (Val.mk 10 cn ByteArray.empty l d)=false):=sound_not (by
      have q1:=HL.out
      have q2:=HD.out
      rintro⟨h1,h2,h3,h4,h5⟩
      simp only[Val.k,Val.n,Val.t,Val.l,Val.d] at h1 h2 h3 h4 h5
      omega)
     go_enter Tryz.func173,Tryz.ntmps173
     go_wp2_with fail
     all_goals
      go_ret
      exact⟨by rw[HV.out];rfl,(Below.refl _ _).alloc (qL) _⟩
    obtain rfl:cln=0:=by omega
    by_cases hd0:0<cdn
    ·have HV:Hid (soundB nameB (Val.mk 10 cn ByteArray.empty l d)=false):=sound_not (by
      have q1:=HL.out
      have q2:=HD.out
      rintro⟨h1,h2,h3,h4,h5⟩
      simp only[Val.k,Val.n,Val.t,Val.l,Val.d] at h1 h2 h3 h4 h5
      omega)
     go_enter Tryz.func173,Tryz.ntmps173
     go_wp2_with fail
     all_goals
      go_ret
      exact⟨by rw[HV.out];rfl,(Below.refl _ _).alloc (qL) _⟩
    obtain rfl:cdn=0:=by omega
    by_cases hn0:0≤cn
    ·have hd':decide (0≤cn)=true:=decide_eq_true hn0
     have HV:Hid (soundB nameB (Val.mk 10 cn ByteArray.empty l d)=true):=by
      exact sound_leaf (by simp only[Val.k];omega) (by simp only[Val.k];omega) ⟨by simp[Val.k,Val.n],by simp[Val.k,Val.t],by have:=HL.out;simp only[Val.k,Val.l];omega,by have:=HD.out;simp only[Val.k,Val.d];omega,by simpa[Val.k,Val.n] using hn0⟩
     go_enter Tryz.func173,Tryz.ntmps173
     go_wp2_with fail
     all_goals
      go_ret
      exact⟨by rw[HV.out];rfl,(Below.refl _ _).alloc (qL) _⟩
    ·have hd':decide (0≤cn)=false:=decide_eq_false hn0
     have HV:Hid (soundB nameB (Val.mk 10 cn ByteArray.empty l d)=false):=by
      exact sound_not (by rintro⟨h1,h2,h3,h4,h5⟩;simp only[Val.k,Val.n,Val.t] at h5;omega)
     go_enter Tryz.func173,Tryz.ntmps173
     go_wp2_with fail
     all_goals
      go_ret
      exact⟨by rw[HV.out];rfl,(Below.refl _ _).alloc (qL) _⟩
  ·rcases hi with rfl|rfl|rfl
   ·have HV:Hid (soundB nameB (Val.mk 3 cn ct l d)=false):=sound_not (by
     have q1:=HL.out
     have q2:=HD.out
     rintro⟨h1,h2,h3,h4,h5⟩
     simp only[Val.k,Val.n,Val.t,Val.l,Val.d] at h1 h2 h3 h4 h5
     omega)
    obtain⟨f1,f2,f3⟩:=bytes_not ht0
    go_enter Tryz.func173,Tryz.ntmps173
    go_wp2_with fail
    all_goals
     go_ret
     exact⟨by rw[HV.out];rfl,(Below.refl _ _).alloc (qL) _⟩
   ·have HV:Hid (soundB nameB (Val.mk 9 cn ct l d)=false):=sound_not (by
     have q1:=HL.out
     have q2:=HD.out
     rintro⟨h1,h2,h3,h4,h5⟩
     simp only[Val.k,Val.n,Val.t,Val.l,Val.d] at h1 h2 h3 h4 h5
     omega)
    obtain⟨f1,f2,f3⟩:=bytes_not ht0
    go_enter Tryz.func173,Tryz.ntmps173
    go_wp2_with fail
    all_goals
     go_ret
     exact⟨by rw[HV.out];rfl,(Below.refl _ _).alloc (qL) _⟩
   ·have HV:Hid (soundB nameB (Val.mk 10 cn ct l d)=false):=sound_not (by
     have q1:=HL.out
     have q2:=HD.out
     rintro⟨h1,h2,h3,h4,h5⟩
     simp only[Val.k,Val.n,Val.t,Val.l,Val.d] at h1 h2 h3 h4 h5
     omega)
    obtain⟨f1,f2,f3⟩:=bytes_not ht0
    go_enter Tryz.func173,Tryz.ntmps173
    go_wp2_with fail
    all_goals
     go_ret
     exact⟨by rw[HV.out];rfl,(Below.refl _ _).alloc (qL) _⟩
 cases hn0:(cn != 0)
 rotate_left
 ·have hn1:¬cn=0:=by simpa using hn0
  have g3:=beq_no e3
  have g9:=beq_no e9
  have g10:=beq_no e10
  have HV:Hid (soundB nameB (Val.mk ck cn ct l d)=false):=sound_not (by
   have q1:=HL.out
   have q2:=HD.out
   rintro⟨h1,h2,h3,h4,h5⟩
   simp only[Val.k,Val.n,Val.t,Val.l,Val.d] at h1 h2 h3 h4 h5
   omega)
  clear e3 e9 e10 hn1
  go_enter Tryz.func173,Tryz.ntmps173
  go_wp2_with fail
  all_goals
   go_ret
   exact⟨by rw[HV.out];rfl,(Below.refl _ _).alloc (qL) _⟩
 obtain rfl:cn=0:=by simpa using hn0
 rcases text_ways ck with hi|⟨e4,e7,e8⟩
 ·rcases hi with rfl|rfl|rfl
  ·by_cases hl0:0<cln
   ·have HV:Hid (soundB nameB (Val.mk 4 0 ct l d)=false):=sound_not (by
     have q1:=HL.out
     have q2:=HD.out
     rintro⟨h1,h2,h3,h4,h5⟩
     simp only[Val.k,Val.n,Val.t,Val.l,Val.d] at h1 h2 h3 h4 h5
     omega)
    go_enter Tryz.func173,Tryz.ntmps173
    go_wp2_with fail
    all_goals
     go_ret
     exact⟨by rw[HV.out];rfl,(Below.refl _ _).alloc (qL) _⟩
   obtain rfl:cln=0:=by omega
   by_cases hd0:0<cdn
   ·have HV:Hid (soundB nameB (Val.mk 4 0 ct l d)=false):=sound_not (by
     have q1:=HL.out
     have q2:=HD.out
     rintro⟨h1,h2,h3,h4,h5⟩
     simp only[Val.k,Val.n,Val.t,Val.l,Val.d] at h1 h2 h3 h4 h5
     omega)
    go_enter Tryz.func173,Tryz.ntmps173
    go_wp2_with fail
    all_goals
     go_ret
     exact⟨by rw[HV.out];rfl,(Below.refl _ _).alloc (qL) _⟩
   obtain rfl:cdn=0:=by omega
   by_cases hs:ct.size≤4096
   ·have HU:Hid (soundB nameB (Val.mk 4 0 ct l d)=utf8B ct):=by
     cases hu:utf8B ct
     ·exact sound_not (by rintro⟨h1,h2,h3,h4,h5⟩;simp only[Val.k,Val.n,Val.t,hu] at h5;simp at h5)
     ·exact sound_leaf (by simp only[Val.k];omega) (by simp only[Val.k];omega) ⟨by simp[Val.k,Val.n],by simp[Val.k,Val.t],by have:=HL.out;simp only[Val.k,Val.l];omega,by have:=HD.out;simp only[Val.k,Val.d];omega,.inr (.inr (.inr (.inr (.inr (.inr (.inl ⟨rfl,hs,hu⟩))))))⟩
    have HZ:Hid (ct.size≤reach):=by unfold Hid reach;omega
    have hd':decide ((ct.size:Int)≤4096)=true:=decide_eq_true (by omega)
    go_enter Tryz.func173,Tryz.ntmps173
    go_wp2_with fail
    refine(validString_any ct _ HZ.out (HT.out.step (B0.out.bel0))).mono ?_
    rintro e w' ⟨rfl,hb⟩
    go_wp2_with fail
    go_ret
    exact⟨by rw[HU.out];rfl,B0.out.bel.step' hb⟩
   ·have hd':decide ((ct.size:Int)≤4096)=false:=decide_eq_false (by omega)
    have HV:Hid (soundB nameB (Val.mk 4 0 ct l d)=false):=by
     exact sound_not (by rintro⟨h1,h2,h3,h4,h5⟩;simp only[Val.k,Val.n,Val.t] at h5;omega)
    go_enter Tryz.func173,Tryz.ntmps173
    go_wp2_with fail
    all_goals
     go_ret
     exact⟨by rw[HV.out];rfl,(Below.refl _ _).alloc (qL) _⟩
  ·by_cases hl0:0<cln
   ·have HV:Hid (soundB nameB (Val.mk 7 0 ct l d)=false):=sound_not (by
     have q1:=HL.out
     have q2:=HD.out
     rintro⟨h1,h2,h3,h4,h5⟩
     simp only[Val.k,Val.n,Val.t,Val.l,Val.d] at h1 h2 h3 h4 h5
     omega)
    go_enter Tryz.func173,Tryz.ntmps173
    go_wp2_with fail
    all_goals
     go_ret
     exact⟨by rw[HV.out];rfl,(Below.refl _ _).alloc (qL) _⟩
   obtain rfl:cln=0:=by omega
   by_cases hd0:0<cdn
   ·have HV:Hid (soundB nameB (Val.mk 7 0 ct l d)=false):=sound_not (by
     have q1:=HL.out
     have q2:=HD.out
     rintro⟨h1,h2,h3,h4,h5⟩
     simp only[Val.k,Val.n,Val.t,Val.l,Val.d] at h1 h2 h3 h4 h5
     omega)
    go_enter Tryz.func173,Tryz.ntmps173
    go_wp2_with fail
    all_goals
     go_ret
     exact⟨by rw[HV.out];rfl,(Below.refl _ _).alloc (qL) _⟩
   obtain rfl:cdn=0:=by omega
   by_cases hs:ct.size≤4096
   ·have hd':decide ((ct.size:Int)≤4096)=true:=decide_eq_true (by omega)
    have HV:Hid (soundB nameB (Val.mk 7 0 ct l d)=true):=by
     exact sound_leaf (by simp only[Val.k];omega) (by simp only[Val.k];omega) ⟨by simp[Val.k,Val.n],by simp[Val.k,Val.t],by have:=HL.out;simp only[Val.k,Val.l];omega,by have:=HD.out;simp only[Val.k,Val.d];omega,by simpa[Val.k,Val.t] using hs⟩
    go_enter Tryz.func173,Tryz.ntmps173
    go_wp2_with fail
    all_goals
     go_ret
     exact⟨by rw[HV.out];rfl,(Below.refl _ _).alloc (qL) _⟩
   ·have hd':decide ((ct.size:Int)≤4096)=false:=decide_eq_false (by omega)
    have HV:Hid (soundB nameB (Val.mk 7 0 ct l d)=false):=by
     exact sound_not (by rintro⟨h1,h2,h3,h4,h5⟩;simp only[Val.k,Val.n,Val.t] at h5;omega)
    go_enter Tryz.func173,Tryz.ntmps173
    go_wp2_with fail
    all_goals
     go_ret
     exact⟨by rw[HV.out];rfl,(Below.refl _ _).alloc (qL) _⟩
  ·by_cases hl0:0<cln
   ·have HV:Hid (soundB nameB (Val.mk 8 0 ct l d)=false):=sound_not (by
     have q1:=HL.out
     have q2:=HD.out
     rintro⟨h1,h2,h3,h4,h5⟩
     simp only[Val.k,Val.n,Val.t,Val.l,Val.d] at h1 h2 h3 h4 h5
     omega)
    go_enter Tryz.func173,Tryz.ntmps173
    go_wp2_with fail
    all_goals
     go_ret
     exact⟨by rw[HV.out];rfl,(Below.refl _ _).alloc (qL) _⟩
   obtain rfl:cln=0:=by omega
   by_cases hd0:0<cdn
   ·have HV:Hid (soundB nameB (Val.mk 8 0 ct l d)=false):=sound_not (by
     have q1:=HL.out
     have q2:=HD.out
     rintro⟨h1,h2,h3,h4,h5⟩
     simp only[Val.k,Val.n,Val.t,Val.l,Val.d] at h1 h2 h3 h4 h5
     omega)
    go_enter Tryz.func173,Tryz.ntmps173
    go_wp2_with fail
    all_goals
     go_ret
     exact⟨by rw[HV.out];rfl,(Below.refl _ _).alloc (qL) _⟩
   obtain rfl:cdn=0:=by omega
   cases hs:((ct.size:Int)==12)
   ·have hs':¬ct.size=12:=by simp at hs;omega
    have HV:Hid (soundB nameB (Val.mk 8 0 ct l d)=false):=by
     exact sound_not (by rintro⟨h1,h2,h3,h4,h5⟩;simp only[Val.k,Val.n,Val.t] at h5;omega)
    go_enter Tryz.func173,Tryz.ntmps173
    go_wp2_with fail
    all_goals
     go_ret
     exact⟨by rw[HV.out];rfl,(Below.refl _ _).alloc (qL) _⟩
   ·have hs':ct.size=12:=by simp at hs;omega
    have HV:Hid (soundB nameB (Val.mk 8 0 ct l d)=true):=by
     exact sound_leaf (by simp only[Val.k];omega) (by simp only[Val.k];omega) ⟨by simp[Val.k,Val.n],by simp[Val.k,Val.t],by have:=HL.out;simp only[Val.k,Val.l];omega,by have:=HD.out;simp only[Val.k,Val.d];omega,by simpa[Val.k,Val.t] using hs'⟩
    clear hs'
    go_enter Tryz.func173,Tryz.ntmps173
    go_wp2_with fail
    all_goals
     go_ret
     exact⟨by rw[HV.out];rfl,(Below.refl _ _).alloc (qL) _⟩
 by_cases ht0:ct.size=0
 rotate_left
 ·have g3:=beq_no e3
  have g9:=beq_no e9
  have g10:=beq_no e10
  have g4:=beq_no e4
  have g7:=beq_no e7
  have g8:=beq_no e8
  have HV:Hid (soundB nameB (Val.mk ck 0 ct l d)=false):=sound_not (by
   have q1:=HL.out
   have q2:=HD.out
   rintro⟨h1,h2,h3,h4,h5⟩
   simp only[Val.k,Val.n,Val.t,Val.l,Val.d] at h1 h2 h3 h4 h5
   omega)
  obtain⟨f1,f2,f3⟩:=bytes_not ht0
  clear e3 e9 e10 e4 e7 e8
  go_enter Tryz.func173,Tryz.ntmps173
  go_wp2_with fail
  all_goals
   go_ret
   exact⟨by rw[HV.out];rfl,(Below.refl _ _).alloc (qL) _⟩
 obtain rfl:=bytes_empty ht0
 rcases rest_ways ck with rfl|rfl|rfl|rfl|rfl|⟨e1,e2,e11,e6,e5⟩
 ·by_cases hl0:0<cln
  ·have HV:Hid (soundB nameB (Val.mk 1 0 ByteArray.empty l d)=false):=sound_not (by
    have q1:=HL.out
    have q2:=HD.out
    rintro⟨h1,h2,h3,h4,h5⟩
    simp only[Val.k,Val.n,Val.t,Val.l,Val.d] at h1 h2 h3 h4 h5
    omega)
   go_enter Tryz.func173,Tryz.ntmps173
   go_wp2_with fail
   all_goals
    go_ret
    exact⟨by rw[HV.out];rfl,(Below.refl _ _).alloc (qL) _⟩
  obtain rfl:cln=0:=by omega
  by_cases hd0:0<cdn
  ·have HV:Hid (soundB nameB (Val.mk 1 0 ByteArray.empty l d)=false):=sound_not (by
    have q1:=HL.out
    have q2:=HD.out
    rintro⟨h1,h2,h3,h4,h5⟩
    simp only[Val.k,Val.n,Val.t,Val.l,Val.d] at h1 h2 h3 h4 h5
    omega)
   go_enter Tryz.func173,Tryz.ntmps173
   go_wp2_with fail
   all_goals
    go_ret
    exact⟨by rw[HV.out];rfl,(Below.refl _ _).alloc (qL) _⟩
  obtain rfl:cdn=0:=by omega
  have HV:Hid (soundB nameB (Val.mk 1 0 ByteArray.empty l d)=true):=by
   exact sound_leaf (by simp only[Val.k];omega) (by simp only[Val.k];omega) ⟨by simp[Val.k,Val.n],by simp[Val.k,Val.t],by have:=HL.out;simp only[Val.k,Val.l];omega,by have:=HD.out;simp only[Val.k,Val.d];omega,by simp[Val.k]⟩
  go_enter Tryz.func173,Tryz.ntmps173
  go_wp2_with fail
  all_goals
   go_ret
   exact⟨by rw[HV.out];rfl,(Below.refl _ _).alloc (qL) _⟩
 ·by_cases hl0:0<cln
  ·have HV:Hid (soundB nameB (Val.mk 2 0 ByteArray.empty l d)=false):=sound_not (by
    have q1:=HL.out
    have q2:=HD.out
    rintro⟨h1,h2,h3,h4,h5⟩
    simp only[Val.k,Val.n,Val.t,Val.l,Val.d] at h1 h2 h3 h4 h5
    omega)
   go_enter Tryz.func173,Tryz.ntmps173
   go_wp2_with fail
   all_goals
    go_ret
    exact⟨by rw[HV.out];rfl,(Below.refl _ _).alloc (qL) _⟩
  obtain rfl:cln=0:=by omega
  by_cases hd0:0<cdn
  ·have HV:Hid (soundB nameB (Val.mk 2 0 ByteArray.empty l d)=false):=sound_not (by
    have q1:=HL.out
    have q2:=HD.out
    rintro⟨h1,h2,h3,h4,h5⟩
    simp only[Val.k,Val.n,Val.t,Val.l,Val.d] at h1 h2 h3 h4 h5
    omega)
   go_enter Tryz.func173,Tryz.ntmps173
   go_wp2_with fail
   all_goals
    go_ret
    exact⟨by rw[HV.out];rfl,(Below.refl _ _).alloc (qL) _⟩
  obtain rfl:cdn=0:=by omega
  have HV:Hid (soundB nameB (Val.mk 2 0 ByteArray.empty l d)=true):=by
   exact sound_leaf (by simp only[Val.k];omega) (by simp only[Val.k];omega) ⟨by simp[Val.k,Val.n],by simp[Val.k,Val.t],by have:=HL.out;simp only[Val.k,Val.l];omega,by have:=HD.out;simp only[Val.k,Val.d];omega,by simp[Val.k]⟩
  go_enter Tryz.func173,Tryz.ntmps173
  go_wp2_with fail
  all_goals
   go_ret
   exact⟨by rw[HV.out];rfl,(Below.refl _ _).alloc (qL) _⟩
 ·by_cases hl0:0<cln
  ·have HV:Hid (soundB nameB (Val.mk 11 0 ByteArray.empty l d)=false):=sound_not (by
    have q1:=HL.out
    have q2:=HD.out
    rintro⟨h1,h2,h3,h4,h5⟩
    simp only[Val.k,Val.n,Val.t,Val.l,Val.d] at h1 h2 h3 h4 h5
    omega)
   go_enter Tryz.func173,Tryz.ntmps173
   go_wp2_with fail
   all_goals
    go_ret
    exact⟨by rw[HV.out];rfl,(Below.refl _ _).alloc (qL) _⟩
  obtain rfl:cln=0:=by omega
  by_cases hd0:0<cdn
  ·have HV:Hid (soundB nameB (Val.mk 11 0 ByteArray.empty l d)=false):=sound_not (by
    have q1:=HL.out
    have q2:=HD.out
    rintro⟨h1,h2,h3,h4,h5⟩
    simp only[Val.k,Val.n,Val.t,Val.l,Val.d] at h1 h2 h3 h4 h5
    omega)
   go_enter Tryz.func173,Tryz.ntmps173
   go_wp2_with fail
   all_goals
    go_ret
    exact⟨by rw[HV.out];rfl,(Below.refl _ _).alloc (qL) _⟩
  obtain rfl:cdn=0:=by omega
  have HV:Hid (soundB nameB (Val.mk 11 0 ByteArray.empty l d)=true):=by
   exact sound_leaf (by simp only[Val.k];omega) (by simp only[Val.k];omega) ⟨by simp[Val.k,Val.n],by simp[Val.k,Val.t],by have:=HL.out;simp only[Val.k,Val.l];omega,by have:=HD.out;simp only[Val.k,Val.d];omega,by simp[Val.k]⟩
  go_enter Tryz.func173,Tryz.ntmps173
  go_wp2_with fail
  all_goals
   go_ret
   exact⟨by rw[HV.out];rfl,(Below.refl _ _).alloc (qL) _⟩
 ·by_cases hd0:0<cdn
  ·have HV:Hid (soundB nameB (Val.mk 6 0 ByteArray.empty l d)=false):=sound_not (by
    have q1:=HL.out
    have q2:=HD.out
    rintro⟨h1,h2,h3,h4,h5⟩
    simp only[Val.k,Val.n,Val.t,Val.l,Val.d] at h1 h2 h3 h4 h5
    omega)
   go_enter Tryz.func173,Tryz.ntmps173
   go_wp2_with fail
   all_goals
    go_ret
    exact⟨by rw[HV.out];rfl,(Below.refl _ _).alloc (qL) _⟩
  obtain rfl:cdn=0:=by omega
  obtain⟨ps,hps,hsl⟩:=HX.out.sl
  simp only at hsl
  have HP:=qD hsl
  have HS:Hid (ps.map Prod.snd=l):=hps
  have HN:=qD hsl.sr.ln
  have hz1:=hsl.sz
  unfold reach at hz1
  have HH:Hid (HeadP 6 0 ByteArray.empty l.length d.length):=⟨.inr (.inr (.inr rfl)),.inr (.inr (.inr rfl)),.inl rfl,.inr (by have:=HD.out;omega),by simp⟩
  clear hps hsl
  go_enter Tryz.func173,Tryz.ntmps173
  go_wp2_with fail
  go_loopw [119] (fun v119 wr=>∃i:Nat,i≤cln∧v119=.int .i64 i∧(∀y∈l.take i,SoundV nameB y)∧Below w.heap.size w wr) (fun v119 _=>cln-(intOf v119).toNat)
  case atStart=>exact⟨0,Nat.zero_le _,rfl,by simp,B0.out.bel⟩
  case round=>
   obtain⟨i,hi,rfl,ha,I⟩:=hrel
   have HA:=qD ha
   have J:=qD I
   clear ha
   by_cases hlt:i<cln
   ·obtain⟨p,hp⟩:∃p,ps[i]?=some p:=⟨_,List.getElem?_eq_getElem (by have:=HN.out;omega)⟩
    have hy:l[i]?=some p.2:=by rw[←HS.out,List.getElem?_map,hp];rfl
    obtain⟨b,off,rfl,_,hu,hr⟩:=HP.out.vat hp
    obtain⟨y0,y1,y2,y3,y4⟩:=hu.keep (I.block b hu.lt)
    have hb:b<wr.heap.size:=by have:=hu.lt;have:=I.size;omega
    have HC:=qD (IH.out p.2 (List.mem_of_getElem? hy))
    have hA1:=(Below.refl wr.heap.size wr).alloc (qL) (Obj.cells p.1.arr 32)
    have HR:=qD ((hr.step I).step hA1)
    have HT1:=qD ((HT.out.step I).step hA1)
    have J1:=qD (I.step' hA1)
    have HY:=qD hy
    clear hp hy hu hr I hA1
    go_wp2_with fail
    refine(HC.out p.1 _ HT1.out HR.out).mono ?_
    rintro e w2 ⟨rfl,hb2⟩
    have J2:=qD (J1.out.step' hb2)
    clear y0 y1 y2 y3 y4 hb2
    cases hso:soundB nameB p.2
    ·have HV:Hid (soundB nameB (Val.mk 6 0 ByteArray.empty l d)=false):=sound_not_at HY.out (soundB_not.1 hso)
     go_wp2_with fail
     go_ret
     exact⟨by rw[HV.out];rfl,J2.out⟩
    ·have HN2:Hid (∀y∈l.take (i+1),SoundV nameB y):=by
      rw[Hid,take_snoc' HY.out]
      intro y hy
      rcases List.mem_append.1 hy with hy|hy
      ·exact HA.out y hy
      ·simp at hy
       subst hy
       exact soundB_iff.1 hso
     go_wp2_with fail
     go_roundw
     case rel=>exact⟨i+1,by omega,by go_num,HN2.out,J2.out⟩
     case measure=>simp[intOf];omega
   ·have HV:Hid (soundB nameB (Val.mk 6 0 ByteArray.empty l d)=true):=by
     have:=HA.out
     rw[List.take_of_length_le (by have:=HL.out;omega)] at this
     exact sound_list (by rfl) HH.out this
    clear I
    go_wp2_with fail
    go_ret
    exact⟨by rw[HV.out];rfl,J.out⟩
 ·by_cases hl0:0<cln
  ·have HV:Hid (soundB nameB (Val.mk 5 0 ByteArray.empty l d)=false):=sound_not (by
    have q1:=HL.out
    have q2:=HD.out
    rintro⟨h1,h2,h3,h4,h5⟩
    simp only[Val.k,Val.n,Val.t,Val.l,Val.d] at h1 h2 h3 h4 h5
    omega)
   go_enter Tryz.func173,Tryz.ntmps173
   go_wp2_with fail
   all_goals
    go_ret
    exact⟨by rw[HV.out];rfl,(Below.refl _ _).alloc (qL) _⟩
  obtain rfl:cln=0:=by omega
  obtain⟨fs,hfs,hfl⟩:=HX.out.sd
  simp only at hfl
  have HF:=qD hfl
  have HS:Hid (fs.map Prod.snd=d):=hfs
  have HV:Hid (soundB nameB (Val.mk 5 0 ByteArray.empty l d)=fieldsB nameB d):=sound_doc (by rfl) ⟨.inr (.inr (.inr rfl)),.inr (.inr (.inr rfl)),.inr (by have:=HL.out;simp only[Val.l];omega),.inl rfl,by simp[Val.k]⟩
  clear hfs hfl
  go_enter Tryz.func173,Tryz.ntmps173
  go_wp2_with fail
  refine(soundFields_any fs _ _ _ _ (HF.out.step B0.out.bel0) (HT.out.step B0.out.bel0) (fun p hp=>ID.out p.2 (by rw[←HS.out];exact List.mem_map_of_mem hp))).mono ?_
  rintro e w' ⟨rfl,hb⟩
  go_wp2_with fail
  go_ret
  exact⟨by rw[HV.out,←HS.out];rfl,B0.out.bel.step' hb⟩
 ·have g3:=beq_no e3
  have g9:=beq_no e9
  have g10:=beq_no e10
  have g4:=beq_no e4
  have g7:=beq_no e7
  have g8:=beq_no e8
  have g1:=beq_no e1
  have g2:=beq_no e2
  have g11:=beq_no e11
  have g6:=beq_no e6
  have g5:=beq_no e5
  have m6:(ck != 6)=true:=by simpa using e6
  have m5:(ck != 5)=true:=by simpa using e5
  by_cases hl0:0<cln
  ·have HV:Hid (soundB nameB (Val.mk ck 0 ByteArray.empty l d)=false):=sound_not (by
    have q1:=HL.out
    have q2:=HD.out
    rintro⟨h1,h2,h3,h4,h5⟩
    simp only[Val.k,Val.n,Val.t,Val.l,Val.d] at h1 h2 h3 h4 h5
    omega)
   clear e3 e9 e10 e4 e7 e8 e1 e2 e11 e6 e5
   go_enter Tryz.func173,Tryz.ntmps173
   go_wp2_with fail
   all_goals
    go_ret
    exact⟨by rw[HV.out];rfl,(Below.refl _ _).alloc (qL) _⟩
  obtain rfl:cln=0:=by omega
  by_cases hd0:0<cdn
  ·have HV:Hid (soundB nameB (Val.mk ck 0 ByteArray.empty l d)=false):=sound_not (by
    have q1:=HL.out
    have q2:=HD.out
    rintro⟨h1,h2,h3,h4,h5⟩
    simp only[Val.k,Val.n,Val.t,Val.l,Val.d] at h1 h2 h3 h4 h5
    omega)
   clear e3 e9 e10 e4 e7 e8 e1 e2 e11 e6 e5
   go_enter Tryz.func173,Tryz.ntmps173
   go_wp2_with fail
   all_goals
    go_ret
    exact⟨by rw[HV.out];rfl,(Below.refl _ _).alloc (qL) _⟩
  obtain rfl:cdn=0:=by omega
  have HV:Hid (soundB nameB (Val.mk ck 0 ByteArray.empty l d)=false):=sound_not (by
   have q1:=HL.out
   have q2:=HD.out
   rintro⟨h1,h2,h3,h4,h5⟩
   simp only[Val.k,Val.n,Val.t,Val.l,Val.d] at h1 h2 h3 h4 h5
   omega)
  clear e3 e9 e10 e4 e7 e8 e1 e2 e11 e6 e5
  go_enter Tryz.func173,Tryz.ntmps173
  go_wp2_with fail
  all_goals
   go_ret
   exact⟨by rw[HV.out];rfl,(Below.refl _ _).alloc (qL) _⟩
theorem nodes_le(x:Val):decide (nodesV x≤1024)=decide (x.size≤1024):=by
 unfold nodesV nodesI
 by_cases h:x.size≤1024
 ·rw[decide_eq_true h,decide_eq_true (by omega)]
 ·rw[decide_eq_false h,decide_eq_false (by omega)]
theorem depth_le(x:Val):decide (depthV x≤16)=decide (x.height≤16):=by
 unfold depthV depthI
 by_cases h:x.height≤16
 ·rw[decide_eq_true h,decide_eq_true (by omega)]
 ·rw[decide_eq_false h,decide_eq_false (by omega)]
theorem valid_any(x:Val)(c:VC)(w:World)(hT:Tabs w)(h:RW w c x):Calls Tryz.prog 105 #[c.val] w fun e w'=>e=.returned (.bool (validV x))∧Below w.heap.size w w':=by
 have H:=qD (h.alloc (.cells c.arr 32))
 have HT:=qD (hT.alloc (.cells c.arr 32))
 have HB:Hid (Blk (w.alloc (.cells c.arr 32)) w.heap.size 32 c.arr):=Blk.new_at rfl
 have HZ:=qD ((Below.refl w.heap.size w).alloc (qL) (Obj.cells c.arr 32))
 clear h hT
 go_enter Tryz.func105,Tryz.ntmps105
 go_wp2_with fail
 refine(nodesV_any x c _ H.out).mono ?_
 rintro e w1 ⟨rfl,hb1⟩
 obtain⟨a0,a1,a2,a3,a4⟩:=VAt.of_blk (HB.out.step hb1)
 have HB1:=qD (HB.out.step hb1)
 have H1:=qD (H.out.step hb1)
 have HT1:=qD (HT.out.step hb1)
 have HZ1:=qD (HZ.out.step' hb1)
 clear hb1
 by_cases h1:nodesV x≤1024
 ·have HD1:Hid (decide (x.size≤1024)=true):=by rw[Hid,←nodes_le];exact decide_eq_true h1
  go_wp2_with fail
  refine(depthV_any x c _ H1.out).mono ?_
  rintro e w2 ⟨rfl,hb2⟩
  clear a0 a1 a2 a3 a4
  obtain⟨a0,a1,a2,a3,a4⟩:=VAt.of_blk (HB1.out.step hb2)
  have H2:=qD (H1.out.step hb2)
  have HT2:=qD (HT1.out.step hb2)
  have HZ2:=qD (HZ1.out.step' hb2)
  clear hb2
  by_cases h2:depthV x≤16
  ·have HD2:Hid (decide (x.height≤16)=true):=by rw[Hid,←depth_le];exact decide_eq_true h2
   go_wp2_with fail
   refine(sound_any x c _ HT2.out H2.out).mono ?_
   rintro e w3 ⟨rfl,hb3⟩
   go_wp2_with fail
   go_ret
   exact⟨by unfold validV;rw[HD1.out,HD2.out];rfl,HZ2.out.step' hb3⟩
  ·have HD2:Hid (decide (x.height≤16)=false):=by rw[Hid,←depth_le];exact decide_eq_false h2
   go_wp2_with fail
   go_ret
   exact⟨by unfold validV;rw[HD1.out,HD2.out];rfl,HZ2.out⟩
 ·have HD1:Hid (decide (x.size≤1024)=false):=by rw[Hid,←nodes_le];exact decide_eq_false h1
  go_wp2_with fail
  go_ret
  exact⟨by unfold validV;rw[HD1.out];rfl,HZ1.out⟩
end Go.Proofs.YtfkdihlbaghajaaGreatDoor
