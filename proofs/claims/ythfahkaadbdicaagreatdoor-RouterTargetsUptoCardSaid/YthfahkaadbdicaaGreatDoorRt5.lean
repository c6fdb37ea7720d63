/- Parts of the proof, joined: ValSound. -/
import Derived.Test.YthfahkaadbdicaaGreatDoorRt1
import Derived.Test.YthfahkaadbdicaaGreatDoorRt4
set_option maxRecDepth 100000
set_option maxHeartbeats 16000000
set_option linter.unusedSimpArgs false
open Go.Proofs.Tryz
open ByteArray (empty)
namespace Go.Proofs.YthfahkaadbdicaaGreatDoor
open Go.RowKit
theorem wv(k:Int):(k=3\/k=9\/k=10)\/(k≠3/\k≠9/\k≠10):=by omega
theorem sW(k:Int):(k=4\/k=7\/k=8)\/(k≠4/\k≠7/\k≠8):=by omega
theorem sX(k:Int):k=1\/k=2\/k=11\/k=6\/k=5\/(k≠1/\k≠2/\k≠11/\k≠6/\k≠5):=by omega
theorem fP{t:ByteArray}(h:t.size=0):t=empty:=by
 obtain⟨⟨l⟩⟩:=t;simp[ByteArray.size] at h;subst h;rfl
theorem eI{t:ByteArray}(h:¬t.size=0):(t.toList==[])=false/\t.toList≠[]/\t.toList.isEmpty=false:=by
 have:t.toList≠[]:=fun e=>h (by rw[MD] at e;have:=congrArg List.length e;simpa using this);exact⟨by simpa using this,this,by simpa using this⟩
theorem ci{a b:Int}(h:a≠b):(a==b)=false:=by simpa using h
structure JY(w:World)(wr:World):Prop where
 bel:Below w.heap.size w wr
theorem JY.Kt{w wr:World}(h:JY w wr):Below w.heap.size w wr:=h.bel
theorem CU:∀x,AU x:=by
 intro x
 induction x using aC.ind with
 | h k n t l d ihl ihd=>
 intro c w hT h;obtain⟨ck,cn,ct,LA,cln,clc,DA,cdn,cdc⟩:=c;have hk:ck=k:=h.open.k;have hn:cn=n:=h.open.n;have ht:ct=t:=h.open.t;subst hk hn ht;have HL:Hid (cln=l.length):=h.open.ln;have HD:Hid (cdn=d.length):=h.open.dn;have HX:=qD h;have HT:=qD hT;have IH:=qD ihl;have ID:=qD ihd;clear h hT ihl ihd;have B0:Hid (JY w (w.alloc (.cells #[.int .i64 ck,.int .i64 cn,.string ct,.slice LA cln clc,.slice DA cdn cdc] 29))):=qD ⟨(LH _ _).alloc (qL) _⟩;rcases wv ck with hi|⟨e3,e9,e10⟩
 ·by_cases ht0:ct.size=0
  ·obtain rfl:=fP ht0;rcases hi with rfl|rfl|rfl
   ·by_cases hl0:0<cln
    ·have HV:Hid (aP aN (aC.mk 3 cn empty l d)=false):=aQ (by
      have q1:=HL.out
      have q2:=HD.out
      rintro⟨h1,h2,h3,h4,h5⟩
      simp only[aC.k,aC.n,aC.t,aC.l,aC.d] at h1 h2 h3 h4 h5
      omega)
     go_enter Lw,Ls;go_wp2_with fail
     all_goals
      go_ret;exact⟨by rw[HV.out];rfl,(LH _ _).alloc (qL) _⟩
    obtain rfl:cln=0:=by omega
    by_cases hd0:0<cdn
    ·have HV:Hid (aP aN (aC.mk 3 cn empty l d)=false):=aQ (by
      have q1:=HL.out
      have q2:=HD.out
      rintro⟨h1,h2,h3,h4,h5⟩
      simp only[aC.k,aC.n,aC.t,aC.l,aC.d] at h1 h2 h3 h4 h5
      omega)
     go_enter Lw,Ls;go_wp2_with fail
     all_goals
      go_ret;exact⟨by rw[HV.out];rfl,(LH _ _).alloc (qL) _⟩
    obtain rfl:cdn=0:=by omega
    have HV:Hid (aP aN (aC.mk 3 cn empty l d)=true):=by
     exact bh (by simp only[aC.k];omega) (by simp only[aC.k];omega) ⟨by simp[aC.k,aC.n],by simp[aC.k,aC.t],by have:=HL.out;simp only[aC.k,aC.l];omega,by have:=HD.out;simp only[aC.k,aC.d];omega,by simp[aC.k]⟩
    go_enter Lw,Ls;go_wp2_with fail
    all_goals
     go_ret;exact⟨by rw[HV.out];rfl,(LH _ _).alloc (qL) _⟩
   ·by_cases hl0:0<cln
    ·have HV:Hid (aP aN (aC.mk 9 cn empty l d)=false):=aQ (by
      have q1:=HL.out
      have q2:=HD.out
      rintro⟨h1,h2,h3,h4,h5⟩
      simp only[aC.k,aC.n,aC.t,aC.l,aC.d] at h1 h2 h3 h4 h5
      omega)
     go_enter Lw,Ls;go_wp2_with fail
     all_goals
      go_ret;exact⟨by rw[HV.out];rfl,(LH _ _).alloc (qL) _⟩
    obtain rfl:cln=0:=by omega
    by_cases hd0:0<cdn
    ·have HV:Hid (aP aN (aC.mk 9 cn empty l d)=false):=aQ (by
      have q1:=HL.out
      have q2:=HD.out
      rintro⟨h1,h2,h3,h4,h5⟩
      simp only[aC.k,aC.n,aC.t,aC.l,aC.d] at h1 h2 h3 h4 h5
      omega)
     go_enter Lw,Ls;go_wp2_with fail
     all_goals
      go_ret;exact⟨by rw[HV.out];rfl,(LH _ _).alloc (qL) _⟩
    obtain rfl:cdn=0:=by omega
    cases hn0:(cn==0)
    ·cases hn1:(cn==1)
     ·have h0:¬cn=0:=by simpa using hn0
      have h1:¬cn=1:=by simpa using hn1
      have HV:Hid (aP aN (aC.mk 9 cn empty l d)=false):=by
       exact aQ (by rintro⟨h1,h2,h3,h4,h5⟩;simp only[aC.k,aC.n,aC.t] at h5;omega)
      go_enter Lw,Ls;go_wp2_with fail
      all_goals
       go_ret;exact⟨by rw[HV.out];rfl,(LH _ _).alloc (qL) _⟩
     ·obtain rfl:cn=1:=by simpa using hn1
      have HV:Hid (aP aN (aC.mk 9 1 empty l d)=true):=by
       exact bh (by simp only[aC.k];omega) (by simp only[aC.k];omega) ⟨by simp[aC.k,aC.n],by simp[aC.k,aC.t],by have:=HL.out;simp only[aC.k,aC.l];omega,by have:=HD.out;simp only[aC.k,aC.d];omega,by simp[aC.k,aC.n]⟩
      go_enter Lw,Ls;go_wp2_with fail
      all_goals
       go_ret;exact⟨by rw[HV.out];rfl,(LH _ _).alloc (qL) _⟩
    ·obtain rfl:cn=0:=by simpa using hn0
     have HV:Hid (aP aN (aC.mk 9 0 empty l d)=true):=by
      exact bh (by simp only[aC.k];omega) (by simp only[aC.k];omega) ⟨by simp[aC.k,aC.n],by simp[aC.k,aC.t],by have:=HL.out;simp only[aC.k,aC.l];omega,by have:=HD.out;simp only[aC.k,aC.d];omega,by simp[aC.k,aC.n]⟩
     go_enter Lw,Ls;go_wp2_with fail
     all_goals
      go_ret;exact⟨by rw[HV.out];rfl,(LH _ _).alloc (qL) _⟩
   ·by_cases hl0:0<cln
    ·have HV:Hid (aP aN (aC.mk 10 cn empty l d)=false):=aQ (by
      have q1:=HL.out
      have q2:=HD.out
      rintro⟨h1,h2,h3,h4,h5⟩
      simp only[aC.k,aC.n,aC.t,aC.l,aC.d] at h1 h2 h3 h4 h5
      omega)
     go_enter Lw,Ls;go_wp2_with fail
     all_goals
      go_ret;exact⟨by rw[HV.out];rfl,(LH _ _).alloc (qL) _⟩
    obtain rfl:cln=0:=by omega
    by_cases hd0:0<cdn
    ·have HV:Hid (aP aN (aC.mk 10 cn empty l d)=false):=aQ (by
      have q1:=HL.out
      have q2:=HD.out
      rintro⟨h1,h2,h3,h4,h5⟩
      simp only[aC.k,aC.n,aC.t,aC.l,aC.d] at h1 h2 h3 h4 h5
      omega)
     go_enter Lw,Ls;go_wp2_with fail
     all_goals
      go_ret;exact⟨by rw[HV.out];rfl,(LH _ _).alloc (qL) _⟩
    obtain rfl:cdn=0:=by omega
    by_cases hn0:0<=cn
    ·have hd':decide (0<=cn)=true:=LN hn0
     have HV:Hid (aP aN (aC.mk 10 cn empty l d)=true):=by
      exact bh (by simp only[aC.k];omega) (by simp only[aC.k];omega) ⟨by simp[aC.k,aC.n],by simp[aC.k,aC.t],by have:=HL.out;simp only[aC.k,aC.l];omega,by have:=HD.out;simp only[aC.k,aC.d];omega,by simpa[aC.k,aC.n] using hn0⟩
     go_enter Lw,Ls;go_wp2_with fail
     all_goals
      go_ret;exact⟨by rw[HV.out];rfl,(LH _ _).alloc (qL) _⟩
    ·have hd':decide (0<=cn)=false:=LW hn0
     have HV:Hid (aP aN (aC.mk 10 cn empty l d)=false):=by
      exact aQ (by rintro⟨h1,h2,h3,h4,h5⟩;simp only[aC.k,aC.n,aC.t] at h5;omega)
     go_enter Lw,Ls;go_wp2_with fail
     all_goals
      go_ret;exact⟨by rw[HV.out];rfl,(LH _ _).alloc (qL) _⟩
  ·rcases hi with rfl|rfl|rfl
   ·have HV:Hid (aP aN (aC.mk 3 cn ct l d)=false):=aQ (by
     have q1:=HL.out
     have q2:=HD.out
     rintro⟨h1,h2,h3,h4,h5⟩
     simp only[aC.k,aC.n,aC.t,aC.l,aC.d] at h1 h2 h3 h4 h5
     omega)
    obtain⟨f1,f2,f3⟩:=eI ht0;go_enter Lw,Ls;go_wp2_with fail
    all_goals
     go_ret;exact⟨by rw[HV.out];rfl,(LH _ _).alloc (qL) _⟩
   ·have HV:Hid (aP aN (aC.mk 9 cn ct l d)=false):=aQ (by
     have q1:=HL.out
     have q2:=HD.out
     rintro⟨h1,h2,h3,h4,h5⟩
     simp only[aC.k,aC.n,aC.t,aC.l,aC.d] at h1 h2 h3 h4 h5
     omega)
    obtain⟨f1,f2,f3⟩:=eI ht0;go_enter Lw,Ls;go_wp2_with fail
    all_goals
     go_ret;exact⟨by rw[HV.out];rfl,(LH _ _).alloc (qL) _⟩
   ·have HV:Hid (aP aN (aC.mk 10 cn ct l d)=false):=aQ (by
     have q1:=HL.out
     have q2:=HD.out
     rintro⟨h1,h2,h3,h4,h5⟩
     simp only[aC.k,aC.n,aC.t,aC.l,aC.d] at h1 h2 h3 h4 h5
     omega)
    obtain⟨f1,f2,f3⟩:=eI ht0;go_enter Lw,Ls;go_wp2_with fail
    all_goals
     go_ret;exact⟨by rw[HV.out];rfl,(LH _ _).alloc (qL) _⟩
 cases hn0:(cn != 0);rotate_left
 ·have hn1:¬cn=0:=by simpa using hn0
  have g3:=ci e3;have g9:=ci e9;have g10:=ci e10
  have HV:Hid (aP aN (aC.mk ck cn ct l d)=false):=aQ (by
   have q1:=HL.out
   have q2:=HD.out
   rintro⟨h1,h2,h3,h4,h5⟩
   simp only[aC.k,aC.n,aC.t,aC.l,aC.d] at h1 h2 h3 h4 h5
   omega)
  clear e3 e9 e10 hn1;go_enter Lw,Ls;go_wp2_with fail
  all_goals
   go_ret;exact⟨by rw[HV.out];rfl,(LH _ _).alloc (qL) _⟩
 obtain rfl:cn=0:=by simpa using hn0
 rcases sW ck with hi|⟨e4,e7,e8⟩
 ·rcases hi with rfl|rfl|rfl
  ·by_cases hl0:0<cln
   ·have HV:Hid (aP aN (aC.mk 4 0 ct l d)=false):=aQ (by
     have q1:=HL.out
     have q2:=HD.out
     rintro⟨h1,h2,h3,h4,h5⟩
     simp only[aC.k,aC.n,aC.t,aC.l,aC.d] at h1 h2 h3 h4 h5
     omega)
    go_enter Lw,Ls;go_wp2_with fail
    all_goals
     go_ret;exact⟨by rw[HV.out];rfl,(LH _ _).alloc (qL) _⟩
   obtain rfl:cln=0:=by omega
   by_cases hd0:0<cdn
   ·have HV:Hid (aP aN (aC.mk 4 0 ct l d)=false):=aQ (by
     have q1:=HL.out
     have q2:=HD.out
     rintro⟨h1,h2,h3,h4,h5⟩
     simp only[aC.k,aC.n,aC.t,aC.l,aC.d] at h1 h2 h3 h4 h5
     omega)
    go_enter Lw,Ls;go_wp2_with fail
    all_goals
     go_ret;exact⟨by rw[HV.out];rfl,(LH _ _).alloc (qL) _⟩
   obtain rfl:cdn=0:=by omega
   by_cases hs:ct.size<=4096
   ·have HU:Hid (aP aN (aC.mk 4 0 ct l d)=bt ct):=by
     cases hu:bt ct
     ·exact aQ (by rintro⟨h1,h2,h3,h4,h5⟩;simp only[aC.k,aC.n,aC.t,hu] at h5;simp at h5)
     ·exact bh (by simp only[aC.k];omega) (by simp only[aC.k];omega) ⟨by simp[aC.k,aC.n],by simp[aC.k,aC.t],by have:=HL.out;simp only[aC.k,aC.l];omega,by have:=HD.out;simp only[aC.k,aC.d];omega,.inr (.inr (.inr (.inr (.inr (.inr (.inl ⟨rfl,hs,hu⟩))))))⟩
    have HZ:Hid (ct.size<=aF):=by unfold Hid aF;omega
    have hd':decide ((ct.size:Int)<=4096)=true:=LN (by omega);go_enter Lw,Ls;go_wp2_with fail;refine(oa ct _ HZ.out (HT.out.step (B0.out.Kt))).mono ?_;rintro e w' ⟨rfl,hb⟩;go_wp2_with fail;go_ret;exact⟨by rw[HU.out];rfl,B0.out.bel.Jp hb⟩
   ·have hd':decide ((ct.size:Int)<=4096)=false:=LW (by omega)
    have HV:Hid (aP aN (aC.mk 4 0 ct l d)=false):=by
     exact aQ (by rintro⟨h1,h2,h3,h4,h5⟩;simp only[aC.k,aC.n,aC.t] at h5;omega)
    go_enter Lw,Ls;go_wp2_with fail
    all_goals
     go_ret;exact⟨by rw[HV.out];rfl,(LH _ _).alloc (qL) _⟩
  ·by_cases hl0:0<cln
   ·have HV:Hid (aP aN (aC.mk 7 0 ct l d)=false):=aQ (by
     have q1:=HL.out
     have q2:=HD.out
     rintro⟨h1,h2,h3,h4,h5⟩
     simp only[aC.k,aC.n,aC.t,aC.l,aC.d] at h1 h2 h3 h4 h5
     omega)
    go_enter Lw,Ls;go_wp2_with fail
    all_goals
     go_ret;exact⟨by rw[HV.out];rfl,(LH _ _).alloc (qL) _⟩
   obtain rfl:cln=0:=by omega
   by_cases hd0:0<cdn
   ·have HV:Hid (aP aN (aC.mk 7 0 ct l d)=false):=aQ (by
     have q1:=HL.out
     have q2:=HD.out
     rintro⟨h1,h2,h3,h4,h5⟩
     simp only[aC.k,aC.n,aC.t,aC.l,aC.d] at h1 h2 h3 h4 h5
     omega)
    go_enter Lw,Ls;go_wp2_with fail
    all_goals
     go_ret;exact⟨by rw[HV.out];rfl,(LH _ _).alloc (qL) _⟩
   obtain rfl:cdn=0:=by omega
   by_cases hs:ct.size<=4096
   ·have hd':decide ((ct.size:Int)<=4096)=true:=LN (by omega)
    have HV:Hid (aP aN (aC.mk 7 0 ct l d)=true):=by
     exact bh (by simp only[aC.k];omega) (by simp only[aC.k];omega) ⟨by simp[aC.k,aC.n],by simp[aC.k,aC.t],by have:=HL.out;simp only[aC.k,aC.l];omega,by have:=HD.out;simp only[aC.k,aC.d];omega,by simpa[aC.k,aC.t] using hs⟩
    go_enter Lw,Ls;go_wp2_with fail
    all_goals
     go_ret;exact⟨by rw[HV.out];rfl,(LH _ _).alloc (qL) _⟩
   ·have hd':decide ((ct.size:Int)<=4096)=false:=LW (by omega)
    have HV:Hid (aP aN (aC.mk 7 0 ct l d)=false):=by
     exact aQ (by rintro⟨h1,h2,h3,h4,h5⟩;simp only[aC.k,aC.n,aC.t] at h5;omega)
    go_enter Lw,Ls;go_wp2_with fail
    all_goals
     go_ret;exact⟨by rw[HV.out];rfl,(LH _ _).alloc (qL) _⟩
  ·by_cases hl0:0<cln
   ·have HV:Hid (aP aN (aC.mk 8 0 ct l d)=false):=aQ (by
     have q1:=HL.out
     have q2:=HD.out
     rintro⟨h1,h2,h3,h4,h5⟩
     simp only[aC.k,aC.n,aC.t,aC.l,aC.d] at h1 h2 h3 h4 h5
     omega)
    go_enter Lw,Ls;go_wp2_with fail
    all_goals
     go_ret;exact⟨by rw[HV.out];rfl,(LH _ _).alloc (qL) _⟩
   obtain rfl:cln=0:=by omega
   by_cases hd0:0<cdn
   ·have HV:Hid (aP aN (aC.mk 8 0 ct l d)=false):=aQ (by
     have q1:=HL.out
     have q2:=HD.out
     rintro⟨h1,h2,h3,h4,h5⟩
     simp only[aC.k,aC.n,aC.t,aC.l,aC.d] at h1 h2 h3 h4 h5
     omega)
    go_enter Lw,Ls;go_wp2_with fail
    all_goals
     go_ret;exact⟨by rw[HV.out];rfl,(LH _ _).alloc (qL) _⟩
   obtain rfl:cdn=0:=by omega
   cases hs:((ct.size:Int)==12)
   ·have hs':¬ct.size=12:=by simp at hs;omega
    have HV:Hid (aP aN (aC.mk 8 0 ct l d)=false):=by
     exact aQ (by rintro⟨h1,h2,h3,h4,h5⟩;simp only[aC.k,aC.n,aC.t] at h5;omega)
    go_enter Lw,Ls;go_wp2_with fail
    all_goals
     go_ret;exact⟨by rw[HV.out];rfl,(LH _ _).alloc (qL) _⟩
   ·have hs':ct.size=12:=by simp at hs;omega
    have HV:Hid (aP aN (aC.mk 8 0 ct l d)=true):=by
     exact bh (by simp only[aC.k];omega) (by simp only[aC.k];omega) ⟨by simp[aC.k,aC.n],by simp[aC.k,aC.t],by have:=HL.out;simp only[aC.k,aC.l];omega,by have:=HD.out;simp only[aC.k,aC.d];omega,by simpa[aC.k,aC.t] using hs'⟩
    clear hs';go_enter Lw,Ls;go_wp2_with fail
    all_goals
     go_ret;exact⟨by rw[HV.out];rfl,(LH _ _).alloc (qL) _⟩
 by_cases ht0:ct.size=0;rotate_left
 ·have g3:=ci e3;have g9:=ci e9;have g10:=ci e10;have g4:=ci e4;have g7:=ci e7;have g8:=ci e8
  have HV:Hid (aP aN (aC.mk ck 0 ct l d)=false):=aQ (by
   have q1:=HL.out
   have q2:=HD.out
   rintro⟨h1,h2,h3,h4,h5⟩
   simp only[aC.k,aC.n,aC.t,aC.l,aC.d] at h1 h2 h3 h4 h5
   omega)
  obtain⟨f1,f2,f3⟩:=eI ht0;clear e3 e9 e10 e4 e7 e8;go_enter Lw,Ls;go_wp2_with fail
  all_goals
   go_ret;exact⟨by rw[HV.out];rfl,(LH _ _).alloc (qL) _⟩
 obtain rfl:=fP ht0;rcases sX ck with rfl|rfl|rfl|rfl|rfl|⟨e1,e2,e11,e6,e5⟩
 ·by_cases hl0:0<cln
  ·have HV:Hid (aP aN (aC.mk 1 0 empty l d)=false):=aQ (by
    have q1:=HL.out
    have q2:=HD.out
    rintro⟨h1,h2,h3,h4,h5⟩
    simp only[aC.k,aC.n,aC.t,aC.l,aC.d] at h1 h2 h3 h4 h5
    omega)
   go_enter Lw,Ls;go_wp2_with fail
   all_goals
    go_ret;exact⟨by rw[HV.out];rfl,(LH _ _).alloc (qL) _⟩
  obtain rfl:cln=0:=by omega
  by_cases hd0:0<cdn
  ·have HV:Hid (aP aN (aC.mk 1 0 empty l d)=false):=aQ (by
    have q1:=HL.out
    have q2:=HD.out
    rintro⟨h1,h2,h3,h4,h5⟩
    simp only[aC.k,aC.n,aC.t,aC.l,aC.d] at h1 h2 h3 h4 h5
    omega)
   go_enter Lw,Ls;go_wp2_with fail
   all_goals
    go_ret;exact⟨by rw[HV.out];rfl,(LH _ _).alloc (qL) _⟩
  obtain rfl:cdn=0:=by omega
  have HV:Hid (aP aN (aC.mk 1 0 empty l d)=true):=by
   exact bh (by simp only[aC.k];omega) (by simp only[aC.k];omega) ⟨by simp[aC.k,aC.n],by simp[aC.k,aC.t],by have:=HL.out;simp only[aC.k,aC.l];omega,by have:=HD.out;simp only[aC.k,aC.d];omega,by simp[aC.k]⟩
  go_enter Lw,Ls;go_wp2_with fail
  all_goals
   go_ret;exact⟨by rw[HV.out];rfl,(LH _ _).alloc (qL) _⟩
 ·by_cases hl0:0<cln
  ·have HV:Hid (aP aN (aC.mk 2 0 empty l d)=false):=aQ (by
    have q1:=HL.out
    have q2:=HD.out
    rintro⟨h1,h2,h3,h4,h5⟩
    simp only[aC.k,aC.n,aC.t,aC.l,aC.d] at h1 h2 h3 h4 h5
    omega)
   go_enter Lw,Ls;go_wp2_with fail
   all_goals
    go_ret;exact⟨by rw[HV.out];rfl,(LH _ _).alloc (qL) _⟩
  obtain rfl:cln=0:=by omega
  by_cases hd0:0<cdn
  ·have HV:Hid (aP aN (aC.mk 2 0 empty l d)=false):=aQ (by
    have q1:=HL.out
    have q2:=HD.out
    rintro⟨h1,h2,h3,h4,h5⟩
    simp only[aC.k,aC.n,aC.t,aC.l,aC.d] at h1 h2 h3 h4 h5
    omega)
   go_enter Lw,Ls;go_wp2_with fail
   all_goals
    go_ret;exact⟨by rw[HV.out];rfl,(LH _ _).alloc (qL) _⟩
  obtain rfl:cdn=0:=by omega
  have HV:Hid (aP aN (aC.mk 2 0 empty l d)=true):=by
   exact bh (by simp only[aC.k];omega) (by simp only[aC.k];omega) ⟨by simp[aC.k,aC.n],by simp[aC.k,aC.t],by have:=HL.out;simp only[aC.k,aC.l];omega,by have:=HD.out;simp only[aC.k,aC.d];omega,by simp[aC.k]⟩
  go_enter Lw,Ls;go_wp2_with fail
  all_goals
   go_ret;exact⟨by rw[HV.out];rfl,(LH _ _).alloc (qL) _⟩
 ·by_cases hl0:0<cln
  ·have HV:Hid (aP aN (aC.mk 11 0 empty l d)=false):=aQ (by
    have q1:=HL.out
    have q2:=HD.out
    rintro⟨h1,h2,h3,h4,h5⟩
    simp only[aC.k,aC.n,aC.t,aC.l,aC.d] at h1 h2 h3 h4 h5
    omega)
   go_enter Lw,Ls;go_wp2_with fail
   all_goals
    go_ret;exact⟨by rw[HV.out];rfl,(LH _ _).alloc (qL) _⟩
  obtain rfl:cln=0:=by omega
  by_cases hd0:0<cdn
  ·have HV:Hid (aP aN (aC.mk 11 0 empty l d)=false):=aQ (by
    have q1:=HL.out
    have q2:=HD.out
    rintro⟨h1,h2,h3,h4,h5⟩
    simp only[aC.k,aC.n,aC.t,aC.l,aC.d] at h1 h2 h3 h4 h5
    omega)
   go_enter Lw,Ls;go_wp2_with fail
   all_goals
    go_ret;exact⟨by rw[HV.out];rfl,(LH _ _).alloc (qL) _⟩
  obtain rfl:cdn=0:=by omega
  have HV:Hid (aP aN (aC.mk 11 0 empty l d)=true):=by
   exact bh (by simp only[aC.k];omega) (by simp only[aC.k];omega) ⟨by simp[aC.k,aC.n],by simp[aC.k,aC.t],by have:=HL.out;simp only[aC.k,aC.l];omega,by have:=HD.out;simp only[aC.k,aC.d];omega,by simp[aC.k]⟩
  go_enter Lw,Ls;go_wp2_with fail
  all_goals
   go_ret;exact⟨by rw[HV.out];rfl,(LH _ _).alloc (qL) _⟩
 ·by_cases hd0:0<cdn
  ·have HV:Hid (aP aN (aC.mk 6 0 empty l d)=false):=aQ (by
    have q1:=HL.out
    have q2:=HD.out
    rintro⟨h1,h2,h3,h4,h5⟩
    simp only[aC.k,aC.n,aC.t,aC.l,aC.d] at h1 h2 h3 h4 h5
    omega)
   go_enter Lw,Ls;go_wp2_with fail
   all_goals
    go_ret;exact⟨by rw[HV.out];rfl,(LH _ _).alloc (qL) _⟩
  obtain rfl:cdn=0:=by omega
  obtain⟨ps,hps,hsl⟩:=HX.out.sl;simp only at hsl;have HP:=qD hsl;have HS:Hid (ps.map Prod.snd=l):=hps;have HN:=qD hsl.sr.ln;have hz1:=hsl.sz;unfold aF at hz1;have HH:Hid (eN 6 0 empty l.length d.length):=⟨.inr (.inr (.inr rfl)),.inr (.inr (.inr rfl)),.inl rfl,.inr (by have:=HD.out;omega),by simp⟩;clear hps hsl;go_enter Lw,Ls;go_wp2_with fail
  go_loopw [119] (fun v119 wr=>∃i:Nat,i<=cln/\v119=.int .i64 i/\(∀y∈l.take i,av aN y)/\Below w.heap.size w wr) (fun v119 _=>cln-(intOf v119).toNat)
  ·exact⟨0,LQ _,rfl,by simp,B0.out.bel⟩
  case round=>
   obtain⟨i,hi,rfl,ha,I⟩:=hrel;have HA:=qD ha;have J:=qD I;clear ha;by_cases hlt:i<cln
   ·obtain⟨p,hp⟩:∃p,ps[i]?=some p:=⟨_,LI (by have:=HN.out;omega)⟩;have hy:l[i]?=some p.2:=by rw[<-HS.out,LV,hp];rfl
    obtain⟨b,off,rfl,_,hu,hr⟩:=HP.out.KE hp;obtain⟨y0,y1,y2,y3,y4⟩:=hu.keep (I.block b hu.lt);have hb:b<wr.heap.size:=by have:=hu.lt;have:=I.size;omega
    have HC:=qD (IH.out p.2 (LP hy));have hA1:=(LH wr.heap.size wr).alloc (qL) (Obj.cells p.1.arr 29);have HR:=qD ((hr.step I).step hA1);have HT1:=qD ((HT.out.step I).step hA1);have J1:=qD (I.Jp hA1);have HY:=qD hy;clear hp hy hu hr I hA1;go_wp2_with fail;refine(HC.out p.1 _ HT1.out HR.out).mono ?_;rintro e w2 ⟨rfl,hb2⟩;have J2:=qD (J1.out.Jp hb2);clear y0 y1 y2 y3 y4 hb2;cases hso:aP aN p.2
    ·have HV:Hid (aP aN (aC.mk 6 0 empty l d)=false):=mU HY.out (jU.1 hso);go_wp2_with fail;go_ret;exact⟨by rw[HV.out];rfl,J2.out⟩
    ·have HN2:Hid (∀y∈l.take (i+1),av aN y):=by
      rw[Hid,take_snoc' HY.out];intro y hy;rcases LY.1 hy with hy|hy
      ·exact HA.out y hy
      ·simp at hy;subst hy;exact eO.1 hso
     go_wp2_with fail;go_roundw
     ·exact⟨i+1,by omega,by go_num,HN2.out,J2.out⟩
     ·simp[intOf];omega
   ·have HV:Hid (aP aN (aC.mk 6 0 empty l d)=true):=by
     have:=HA.out;rw[LS (by have:=HL.out;omega)] at this;exact xh (by rfl) HH.out this
    clear I;go_wp2_with fail;go_ret;exact⟨by rw[HV.out];rfl,J.out⟩
 ·by_cases hl0:0<cln
  ·have HV:Hid (aP aN (aC.mk 5 0 empty l d)=false):=aQ (by
    have q1:=HL.out
    have q2:=HD.out
    rintro⟨h1,h2,h3,h4,h5⟩
    simp only[aC.k,aC.n,aC.t,aC.l,aC.d] at h1 h2 h3 h4 h5
    omega)
   go_enter Lw,Ls;go_wp2_with fail
   all_goals
    go_ret;exact⟨by rw[HV.out];rfl,(LH _ _).alloc (qL) _⟩
  obtain rfl:cln=0:=by omega
  obtain⟨fs,hfs,hfl⟩:=HX.out.sd;simp only at hfl;have HF:=qD hfl;have HS:Hid (fs.map Prod.snd=d):=hfs;have HV:Hid (aP aN (aC.mk 5 0 empty l d)=dT aN d):=Ai (by rfl) ⟨.inr (.inr (.inr rfl)),.inr (.inr (.inr rfl)),.inr (by have:=HL.out;simp only[aC.l];omega),.inl rfl,by simp[aC.k]⟩;clear hfs hfl;go_enter Lw,Ls;go_wp2_with fail;refine(oZ fs _ _ _ _ (HF.out.step B0.out.Kt) (HT.out.step B0.out.Kt) (fun p hp=>ID.out p.2 (by rw[<-HS.out];exact MT hp))).mono ?_;rintro e w' ⟨rfl,hb⟩;go_wp2_with fail;go_ret;exact⟨by rw[HV.out,<-HS.out];rfl,B0.out.bel.Jp hb⟩
 ·have g3:=ci e3;have g9:=ci e9;have g10:=ci e10;have g4:=ci e4;have g7:=ci e7;have g8:=ci e8;have g1:=ci e1;have g2:=ci e2;have g11:=ci e11;have g6:=ci e6;have g5:=ci e5;have m6:(ck != 6)=true:=by simpa using e6
  have m5:(ck != 5)=true:=by simpa using e5
  by_cases hl0:0<cln
  ·have HV:Hid (aP aN (aC.mk ck 0 empty l d)=false):=aQ (by
    have q1:=HL.out
    have q2:=HD.out
    rintro⟨h1,h2,h3,h4,h5⟩
    simp only[aC.k,aC.n,aC.t,aC.l,aC.d] at h1 h2 h3 h4 h5
    omega)
   clear e3 e9 e10 e4 e7 e8 e1 e2 e11 e6 e5;go_enter Lw,Ls;go_wp2_with fail
   all_goals
    go_ret;exact⟨by rw[HV.out];rfl,(LH _ _).alloc (qL) _⟩
  obtain rfl:cln=0:=by omega
  by_cases hd0:0<cdn
  ·have HV:Hid (aP aN (aC.mk ck 0 empty l d)=false):=aQ (by
    have q1:=HL.out
    have q2:=HD.out
    rintro⟨h1,h2,h3,h4,h5⟩
    simp only[aC.k,aC.n,aC.t,aC.l,aC.d] at h1 h2 h3 h4 h5
    omega)
   clear e3 e9 e10 e4 e7 e8 e1 e2 e11 e6 e5;go_enter Lw,Ls;go_wp2_with fail
   all_goals
    go_ret;exact⟨by rw[HV.out];rfl,(LH _ _).alloc (qL) _⟩
  obtain rfl:cdn=0:=by omega
  have HV:Hid (aP aN (aC.mk ck 0 empty l d)=false):=aQ (by
   have q1:=HL.out
   have q2:=HD.out
   rintro⟨h1,h2,h3,h4,h5⟩
   simp only[aC.k,aC.n,aC.t,aC.l,aC.d] at h1 h2 h3 h4 h5
   omega)
  clear e3 e9 e10 e4 e7 e8 e1 e2 e11 e6 e5;go_enter Lw,Ls;go_wp2_with fail
  all_goals
   go_ret;exact⟨by rw[HV.out];rfl,(LH _ _).alloc (qL) _⟩
theorem mr(x:aC):decide (nU x<=1024)=decide (x.size<=1024):=by
 unfold nU bT;by_cases h:x.size<=1024
 ·rw[LN h,LN (by omega)]
 ·rw[LW h,LW (by omega)]
theorem ms(x:aC):decide (nV x<=16)=decide (x.Ju<=16):=by
 unfold nV bE;by_cases h:x.Ju<=16
 ·rw[LN h,LN (by omega)]
 ·rw[LW h,LW (by omega)]
theorem iB(x:aC)(c:VC)(w:World)(hT:cg w)(h:RW w c x):Calls prog 32 #[c.val] w fun e w'=>e=.returned (.bool (aO x))/\Below w.heap.size w w':=by
 have H:=qD (h.alloc (.cells c.arr 29));have HT:=qD (hT.alloc (.cells c.arr 29));have HB:Hid (aE (w.alloc (.cells c.arr 29)) w.heap.size 29 c.arr):=aE.Jq rfl;have HZ:=qD ((LH w.heap.size w).alloc (qL) (Obj.cells c.arr 29));clear h hT;go_enter func32,ntmps32;go_wp2_with fail;refine(zP x c _ H.out).mono ?_;rintro e w1 ⟨rfl,hb1⟩;obtain⟨a0,a1,a2,a3,a4⟩:=bS.Jr (HB.out.step hb1);have HB1:=qD (HB.out.step hb1);have H1:=qD (H.out.step hb1);have HT1:=qD (HT.out.step hb1);have HZ1:=qD (HZ.out.Jp hb1);clear hb1;by_cases h1:nU x<=1024
 ·have HD1:Hid (decide (x.size<=1024)=true):=by rw[Hid,<-mr];exact LN h1
  go_wp2_with fail;refine(zQ x c _ H1.out).mono ?_;rintro e w2 ⟨rfl,hb2⟩;clear a0 a1 a2 a3 a4;obtain⟨a0,a1,a2,a3,a4⟩:=bS.Jr (HB1.out.step hb2);have H2:=qD (H1.out.step hb2);have HT2:=qD (HT1.out.step hb2);have HZ2:=qD (HZ1.out.Jp hb2);clear hb2;by_cases h2:nV x<=16
  ·have HD2:Hid (decide (x.Ju<=16)=true):=by rw[Hid,<-ms];exact LN h2
   go_wp2_with fail;refine(CU x c _ HT2.out H2.out).mono ?_;rintro e w3 ⟨rfl,hb3⟩;go_wp2_with fail;go_ret;exact⟨by unfold aO;rw[HD1.out,HD2.out];rfl,HZ2.out.Jp hb3⟩
  ·have HD2:Hid (decide (x.Ju<=16)=false):=by rw[Hid,<-ms];exact LW h2
   go_wp2_with fail;go_ret;exact⟨by unfold aO;rw[HD1.out,HD2.out];rfl,HZ2.out⟩
 ·have HD1:Hid (decide (x.size<=1024)=false):=by rw[Hid,<-mr];exact LW h1
  go_wp2_with fail;go_ret;exact⟨by unfold aO;rw[HD1.out];rfl,HZ1.out⟩
end Go.Proofs.YthfahkaadbdicaaGreatDoor
