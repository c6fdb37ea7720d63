/- A part of the proof. -/
import Derived.Test.YtgfoliedmhgpnaaGreatDoorCn5
set_option maxRecDepth 100000
set_option maxHeartbeats 16000000
open Go.Proofs.Tryz
open ByteArray (empty)
namespace Go.Proofs.YtgfoliedmhgpnaaGreatDoor
open Go.RowKit
section
variable {k b size:Nat} {t:TypeId} {a:Int}
theorem yL(k:Int):(k=3\/k=9\/k=10)\/(k≠3/\k≠9/\k≠10):=oM
theorem uJ(k:Int):(k=4\/k=7\/k=8)\/(k≠4/\k≠7/\k≠8):=oM
theorem uK(k:Int):k=1\/k=2\/k=11\/k=6\/k=5\/(k≠1/\k≠2/\k≠11/\k≠6/\k≠5):=oM
theorem fW{t:ByteArray}(h:t.size=0):t=empty:=by
 obtain⟨⟨l⟩⟩:=t;simp[ByteArray.size] at h;subst h;rfl
theorem eN{t:ByteArray}(h:¬t.size=0):(t.toList==[])=false/\t.toList≠[]/\t.toList.isEmpty=false:=by
 have:t.toList≠[]:=fun e=>h (by rw[PO] at e;have:=congrArg List.length e;simpa using this);exact⟨by simpa using this,this,by simpa using this⟩
theorem cv{b:Int}(h:a≠b):(a==b)=false:=by simpa using h
end
structure MV(w:World)(wr:World):Prop where
 bel:Bl w wr
section
variable {c size:Nat} {w wr:World} {x:Int}
theorem MV.Nj(h:MV w wr):Bl w wr:=h.bel
theorem EC:∀x,Br x:=by
 intro x
 induction x using aC.ind with
 | h k n t l d ihl ihd=>
 intro c w hT h;obtain⟨ck,cn,ct,LA,cln,clc,DA,cdn,cdc⟩:=c;have hk:ck=k:=h.open.k;have hn:cn=n:=h.open.n;have ht:ct=t:=h.open.t;subst hk hn ht;have HL:Hid (cln=l.length):=h.open.ln;have HD:Hid (cdn=d.length):=h.open.dn;have HX:=qD h;have HT:=qD hT;have IH:=qD ihl;have ID:=qD ihd;clear h hT ihl ihd;have B0:Hid (MV w (w.alloc (.cells #[.int .i64 ck,.int .i64 cn,.string ct,.slice LA cln clc,.slice DA cdn cdc] 29))):=qD ⟨(OG _ _).alloc (qL) _⟩;rcases yL ck with hi|⟨e3,e9,e10⟩
 ·by_cases ht0:ct.size=0
  ·obtain rfl:=fW ht0;rcases hi with rfl|rfl|rfl
   ·by_cases hl0:0<cln
    ·have HV:Hid (aQ aM (aC.mk 3 cn empty l d)=false):=aR (by
      have q1:=HL.out
      have q2:=HD.out
      rintro⟨h1,h2,h3,h4,h5⟩
      simp only[aC.k,aC.n,aC.t,aC.l,aC.d] at h1 h2 h3 h4 h5
      omega)
     go_enter Oz,Ou;go_wp2_with fail
     all_goals
      go_ret;exact⟨by rw[HV.out];rfl,(OG _ _).alloc (qL) _⟩
    obtain rfl:cln=0:=oM
    by_cases hd0:0<cdn
    ·have HV:Hid (aQ aM (aC.mk 3 cn empty l d)=false):=aR (by
      have q1:=HL.out
      have q2:=HD.out
      rintro⟨h1,h2,h3,h4,h5⟩
      simp only[aC.k,aC.n,aC.t,aC.l,aC.d] at h1 h2 h3 h4 h5
      omega)
     go_enter Oz,Ou;go_wp2_with fail
     all_goals
      go_ret;exact⟨by rw[HV.out];rfl,(OG _ _).alloc (qL) _⟩
    obtain rfl:cdn=0:=oM
    have HV:Hid (aQ aM (aC.mk 3 cn empty l d)=true):=by
     exact br (by simp only[aC.k];omega) (by simp only[aC.k];omega) ⟨by simp[aC.k,aC.n],by simp[aC.k,aC.t],by have:=HL.out;simp only[aC.k,aC.l];omega,by have:=HD.out;simp only[aC.k,aC.d];omega,by simp[aC.k]⟩
    go_enter Oz,Ou;go_wp2_with fail
    all_goals
     go_ret;exact⟨by rw[HV.out];rfl,(OG _ _).alloc (qL) _⟩
   ·by_cases hl0:0<cln
    ·have HV:Hid (aQ aM (aC.mk 9 cn empty l d)=false):=aR (by
      have q1:=HL.out
      have q2:=HD.out
      rintro⟨h1,h2,h3,h4,h5⟩
      simp only[aC.k,aC.n,aC.t,aC.l,aC.d] at h1 h2 h3 h4 h5
      omega)
     go_enter Oz,Ou;go_wp2_with fail
     all_goals
      go_ret;exact⟨by rw[HV.out];rfl,(OG _ _).alloc (qL) _⟩
    obtain rfl:cln=0:=oM
    by_cases hd0:0<cdn
    ·have HV:Hid (aQ aM (aC.mk 9 cn empty l d)=false):=aR (by
      have q1:=HL.out
      have q2:=HD.out
      rintro⟨h1,h2,h3,h4,h5⟩
      simp only[aC.k,aC.n,aC.t,aC.l,aC.d] at h1 h2 h3 h4 h5
      omega)
     go_enter Oz,Ou;go_wp2_with fail
     all_goals
      go_ret;exact⟨by rw[HV.out];rfl,(OG _ _).alloc (qL) _⟩
    obtain rfl:cdn=0:=oM
    cases hn0:(cn==0)
    ·cases hn1:(cn==1)
     ·have h0:¬cn=0:=by simpa using hn0
      have h1:¬cn=1:=by simpa using hn1
      have HV:Hid (aQ aM (aC.mk 9 cn empty l d)=false):=by
       exact aR (by rintro⟨h1,h2,h3,h4,h5⟩;simp only[aC.k,aC.n,aC.t] at h5;omega)
      go_enter Oz,Ou;go_wp2_with fail
      all_goals
       go_ret;exact⟨by rw[HV.out];rfl,(OG _ _).alloc (qL) _⟩
     ·obtain rfl:cn=1:=by simpa using hn1
      have HV:Hid (aQ aM (aC.mk 9 1 empty l d)=true):=by
       exact br (by simp only[aC.k];omega) (by simp only[aC.k];omega) ⟨by simp[aC.k,aC.n],by simp[aC.k,aC.t],by have:=HL.out;simp only[aC.k,aC.l];omega,by have:=HD.out;simp only[aC.k,aC.d];omega,by simp[aC.k,aC.n]⟩
      go_enter Oz,Ou;go_wp2_with fail
      all_goals
       go_ret;exact⟨by rw[HV.out];rfl,(OG _ _).alloc (qL) _⟩
    ·obtain rfl:cn=0:=by simpa using hn0
     have HV:Hid (aQ aM (aC.mk 9 0 empty l d)=true):=by
      exact br (by simp only[aC.k];omega) (by simp only[aC.k];omega) ⟨by simp[aC.k,aC.n],by simp[aC.k,aC.t],by have:=HL.out;simp only[aC.k,aC.l];omega,by have:=HD.out;simp only[aC.k,aC.d];omega,by simp[aC.k,aC.n]⟩
     go_enter Oz,Ou;go_wp2_with fail
     all_goals
      go_ret;exact⟨by rw[HV.out];rfl,(OG _ _).alloc (qL) _⟩
   ·by_cases hl0:0<cln
    ·have HV:Hid (aQ aM (aC.mk 10 cn empty l d)=false):=aR (by
      have q1:=HL.out
      have q2:=HD.out
      rintro⟨h1,h2,h3,h4,h5⟩
      simp only[aC.k,aC.n,aC.t,aC.l,aC.d] at h1 h2 h3 h4 h5
      omega)
     go_enter Oz,Ou;go_wp2_with fail
     all_goals
      go_ret;exact⟨by rw[HV.out];rfl,(OG _ _).alloc (qL) _⟩
    obtain rfl:cln=0:=oM
    by_cases hd0:0<cdn
    ·have HV:Hid (aQ aM (aC.mk 10 cn empty l d)=false):=aR (by
      have q1:=HL.out
      have q2:=HD.out
      rintro⟨h1,h2,h3,h4,h5⟩
      simp only[aC.k,aC.n,aC.t,aC.l,aC.d] at h1 h2 h3 h4 h5
      omega)
     go_enter Oz,Ou;go_wp2_with fail
     all_goals
      go_ret;exact⟨by rw[HV.out];rfl,(OG _ _).alloc (qL) _⟩
    obtain rfl:cdn=0:=oM
    by_cases hn0:0<=cn
    ·have hd':decide (0<=cn)=true:=OM hn0
     have HV:Hid (aQ aM (aC.mk 10 cn empty l d)=true):=by
      exact br (by simp only[aC.k];omega) (by simp only[aC.k];omega) ⟨by simp[aC.k,aC.n],by simp[aC.k,aC.t],by have:=HL.out;simp only[aC.k,aC.l];omega,by have:=HD.out;simp only[aC.k,aC.d];omega,by simpa[aC.k,aC.n] using hn0⟩
     go_enter Oz,Ou;go_wp2_with fail
     all_goals
      go_ret;exact⟨by rw[HV.out];rfl,(OG _ _).alloc (qL) _⟩
    ·have hd':decide (0<=cn)=false:=OV hn0
     have HV:Hid (aQ aM (aC.mk 10 cn empty l d)=false):=by
      exact aR (by rintro⟨h1,h2,h3,h4,h5⟩;simp only[aC.k,aC.n,aC.t] at h5;omega)
     go_enter Oz,Ou;go_wp2_with fail
     all_goals
      go_ret;exact⟨by rw[HV.out];rfl,(OG _ _).alloc (qL) _⟩
  ·rcases hi with rfl|rfl|rfl
   ·have HV:Hid (aQ aM (aC.mk 3 cn ct l d)=false):=aR (by
     have q1:=HL.out
     have q2:=HD.out
     rintro⟨h1,h2,h3,h4,h5⟩
     simp only[aC.k,aC.n,aC.t,aC.l,aC.d] at h1 h2 h3 h4 h5
     omega)
    obtain⟨f1,f2,f3⟩:=eN ht0;go_enter Oz,Ou;go_wp2_with fail
    all_goals
     go_ret;exact⟨by rw[HV.out];rfl,(OG _ _).alloc (qL) _⟩
   ·have HV:Hid (aQ aM (aC.mk 9 cn ct l d)=false):=aR (by
     have q1:=HL.out
     have q2:=HD.out
     rintro⟨h1,h2,h3,h4,h5⟩
     simp only[aC.k,aC.n,aC.t,aC.l,aC.d] at h1 h2 h3 h4 h5
     omega)
    obtain⟨f1,f2,f3⟩:=eN ht0;go_enter Oz,Ou;go_wp2_with fail
    all_goals
     go_ret;exact⟨by rw[HV.out];rfl,(OG _ _).alloc (qL) _⟩
   ·have HV:Hid (aQ aM (aC.mk 10 cn ct l d)=false):=aR (by
     have q1:=HL.out
     have q2:=HD.out
     rintro⟨h1,h2,h3,h4,h5⟩
     simp only[aC.k,aC.n,aC.t,aC.l,aC.d] at h1 h2 h3 h4 h5
     omega)
    obtain⟨f1,f2,f3⟩:=eN ht0;go_enter Oz,Ou;go_wp2_with fail
    all_goals
     go_ret;exact⟨by rw[HV.out];rfl,(OG _ _).alloc (qL) _⟩
 cases hn0:(cn != 0);rotate_left
 ·have hn1:¬cn=0:=by simpa using hn0
  have g3:=cv e3;have g9:=cv e9;have g10:=cv e10
  have HV:Hid (aQ aM (aC.mk ck cn ct l d)=false):=aR (by
   have q1:=HL.out
   have q2:=HD.out
   rintro⟨h1,h2,h3,h4,h5⟩
   simp only[aC.k,aC.n,aC.t,aC.l,aC.d] at h1 h2 h3 h4 h5
   omega)
  clear e3 e9 e10 hn1;go_enter Oz,Ou;go_wp2_with fail
  all_goals
   go_ret;exact⟨by rw[HV.out];rfl,(OG _ _).alloc (qL) _⟩
 obtain rfl:cn=0:=by simpa using hn0
 rcases uJ ck with hi|⟨e4,e7,e8⟩
 ·rcases hi with rfl|rfl|rfl
  ·by_cases hl0:0<cln
   ·have HV:Hid (aQ aM (aC.mk 4 0 ct l d)=false):=aR (by
     have q1:=HL.out
     have q2:=HD.out
     rintro⟨h1,h2,h3,h4,h5⟩
     simp only[aC.k,aC.n,aC.t,aC.l,aC.d] at h1 h2 h3 h4 h5
     omega)
    go_enter Oz,Ou;go_wp2_with fail
    all_goals
     go_ret;exact⟨by rw[HV.out];rfl,(OG _ _).alloc (qL) _⟩
   obtain rfl:cln=0:=oM
   by_cases hd0:0<cdn
   ·have HV:Hid (aQ aM (aC.mk 4 0 ct l d)=false):=aR (by
     have q1:=HL.out
     have q2:=HD.out
     rintro⟨h1,h2,h3,h4,h5⟩
     simp only[aC.k,aC.n,aC.t,aC.l,aC.d] at h1 h2 h3 h4 h5
     omega)
    go_enter Oz,Ou;go_wp2_with fail
    all_goals
     go_ret;exact⟨by rw[HV.out];rfl,(OG _ _).alloc (qL) _⟩
   obtain rfl:cdn=0:=oM
   by_cases hs:ct.size<=4096
   ·have HU:Hid (aQ aM (aC.mk 4 0 ct l d)=cE ct):=by
     cases hu:cE ct
     ·exact aR (by rintro⟨h1,h2,h3,h4,h5⟩;simp only[aC.k,aC.n,aC.t,hu] at h5;simp at h5)
     ·exact br (by simp only[aC.k];omega) (by simp only[aC.k];omega) ⟨by simp[aC.k,aC.n],by simp[aC.k,aC.t],by have:=HL.out;simp only[aC.k,aC.l];omega,by have:=HD.out;simp only[aC.k,aC.d];omega,.inr (.inr (.inr (.inr (.inr (.inr (.inl ⟨rfl,hs,hu⟩))))))⟩
    have HZ:Hid (ct.size<=aF):=by unfold Hid aF;omega
    have hd':decide ((ct.size:Int)<=4096)=true:=OM oM;go_enter Oz,Ou;go_wp2_with fail;refine(pv ct _ HZ.out (HT.out.step (B0.out.Nj))).mono ?_;rintro e w' ⟨rfl,hb⟩;go_wp2;go_ret;exact⟨by rw[HU.out];rfl,B0.out.bel.Ml hb⟩
   ·have hd':decide ((ct.size:Int)<=4096)=false:=OV oM
    have HV:Hid (aQ aM (aC.mk 4 0 ct l d)=false):=by
     exact aR (by rintro⟨h1,h2,h3,h4,h5⟩;simp only[aC.k,aC.n,aC.t] at h5;omega)
    go_enter Oz,Ou;go_wp2_with fail
    all_goals
     go_ret;exact⟨by rw[HV.out];rfl,(OG _ _).alloc (qL) _⟩
  ·by_cases hl0:0<cln
   ·have HV:Hid (aQ aM (aC.mk 7 0 ct l d)=false):=aR (by
     have q1:=HL.out
     have q2:=HD.out
     rintro⟨h1,h2,h3,h4,h5⟩
     simp only[aC.k,aC.n,aC.t,aC.l,aC.d] at h1 h2 h3 h4 h5
     omega)
    go_enter Oz,Ou;go_wp2_with fail
    all_goals
     go_ret;exact⟨by rw[HV.out];rfl,(OG _ _).alloc (qL) _⟩
   obtain rfl:cln=0:=oM
   by_cases hd0:0<cdn
   ·have HV:Hid (aQ aM (aC.mk 7 0 ct l d)=false):=aR (by
     have q1:=HL.out
     have q2:=HD.out
     rintro⟨h1,h2,h3,h4,h5⟩
     simp only[aC.k,aC.n,aC.t,aC.l,aC.d] at h1 h2 h3 h4 h5
     omega)
    go_enter Oz,Ou;go_wp2_with fail
    all_goals
     go_ret;exact⟨by rw[HV.out];rfl,(OG _ _).alloc (qL) _⟩
   obtain rfl:cdn=0:=oM
   by_cases hs:ct.size<=4096
   ·have hd':decide ((ct.size:Int)<=4096)=true:=OM oM
    have HV:Hid (aQ aM (aC.mk 7 0 ct l d)=true):=by
     exact br (by simp only[aC.k];omega) (by simp only[aC.k];omega) ⟨by simp[aC.k,aC.n],by simp[aC.k,aC.t],by have:=HL.out;simp only[aC.k,aC.l];omega,by have:=HD.out;simp only[aC.k,aC.d];omega,by simpa[aC.k,aC.t] using hs⟩
    go_enter Oz,Ou;go_wp2_with fail
    all_goals
     go_ret;exact⟨by rw[HV.out];rfl,(OG _ _).alloc (qL) _⟩
   ·have hd':decide ((ct.size:Int)<=4096)=false:=OV oM
    have HV:Hid (aQ aM (aC.mk 7 0 ct l d)=false):=by
     exact aR (by rintro⟨h1,h2,h3,h4,h5⟩;simp only[aC.k,aC.n,aC.t] at h5;omega)
    go_enter Oz,Ou;go_wp2_with fail
    all_goals
     go_ret;exact⟨by rw[HV.out];rfl,(OG _ _).alloc (qL) _⟩
  ·by_cases hl0:0<cln
   ·have HV:Hid (aQ aM (aC.mk 8 0 ct l d)=false):=aR (by
     have q1:=HL.out
     have q2:=HD.out
     rintro⟨h1,h2,h3,h4,h5⟩
     simp only[aC.k,aC.n,aC.t,aC.l,aC.d] at h1 h2 h3 h4 h5
     omega)
    go_enter Oz,Ou;go_wp2_with fail
    all_goals
     go_ret;exact⟨by rw[HV.out];rfl,(OG _ _).alloc (qL) _⟩
   obtain rfl:cln=0:=oM
   by_cases hd0:0<cdn
   ·have HV:Hid (aQ aM (aC.mk 8 0 ct l d)=false):=aR (by
     have q1:=HL.out
     have q2:=HD.out
     rintro⟨h1,h2,h3,h4,h5⟩
     simp only[aC.k,aC.n,aC.t,aC.l,aC.d] at h1 h2 h3 h4 h5
     omega)
    go_enter Oz,Ou;go_wp2_with fail
    all_goals
     go_ret;exact⟨by rw[HV.out];rfl,(OG _ _).alloc (qL) _⟩
   obtain rfl:cdn=0:=oM
   cases hs:((ct.size:Int)==12)
   ·have hs':¬ct.size=12:=by simp at hs;omega
    have HV:Hid (aQ aM (aC.mk 8 0 ct l d)=false):=by
     exact aR (by rintro⟨h1,h2,h3,h4,h5⟩;simp only[aC.k,aC.n,aC.t] at h5;omega)
    go_enter Oz,Ou;go_wp2_with fail
    all_goals
     go_ret;exact⟨by rw[HV.out];rfl,(OG _ _).alloc (qL) _⟩
   ·have hs':ct.size=12:=by simp at hs;omega
    have HV:Hid (aQ aM (aC.mk 8 0 ct l d)=true):=by
     exact br (by simp only[aC.k];omega) (by simp only[aC.k];omega) ⟨by simp[aC.k,aC.n],by simp[aC.k,aC.t],by have:=HL.out;simp only[aC.k,aC.l];omega,by have:=HD.out;simp only[aC.k,aC.d];omega,by simpa[aC.k,aC.t] using hs'⟩
    clear hs';go_enter Oz,Ou;go_wp2_with fail
    all_goals
     go_ret;exact⟨by rw[HV.out];rfl,(OG _ _).alloc (qL) _⟩
 by_cases ht0:ct.size=0;rotate_left
 ·have g3:=cv e3;have g9:=cv e9;have g10:=cv e10;have g4:=cv e4;have g7:=cv e7;have g8:=cv e8
  have HV:Hid (aQ aM (aC.mk ck 0 ct l d)=false):=aR (by
   have q1:=HL.out
   have q2:=HD.out
   rintro⟨h1,h2,h3,h4,h5⟩
   simp only[aC.k,aC.n,aC.t,aC.l,aC.d] at h1 h2 h3 h4 h5
   omega)
  obtain⟨f1,f2,f3⟩:=eN ht0;clear e3 e9 e10 e4 e7 e8;go_enter Oz,Ou;go_wp2_with fail
  all_goals
   go_ret;exact⟨by rw[HV.out];rfl,(OG _ _).alloc (qL) _⟩
 obtain rfl:=fW ht0;rcases uK ck with rfl|rfl|rfl|rfl|rfl|⟨e1,e2,e11,e6,e5⟩
 ·by_cases hl0:0<cln
  ·have HV:Hid (aQ aM (aC.mk 1 0 empty l d)=false):=aR (by
    have q1:=HL.out
    have q2:=HD.out
    rintro⟨h1,h2,h3,h4,h5⟩
    simp only[aC.k,aC.n,aC.t,aC.l,aC.d] at h1 h2 h3 h4 h5
    omega)
   go_enter Oz,Ou;go_wp2_with fail
   all_goals
    go_ret;exact⟨by rw[HV.out];rfl,(OG _ _).alloc (qL) _⟩
  obtain rfl:cln=0:=oM
  by_cases hd0:0<cdn
  ·have HV:Hid (aQ aM (aC.mk 1 0 empty l d)=false):=aR (by
    have q1:=HL.out
    have q2:=HD.out
    rintro⟨h1,h2,h3,h4,h5⟩
    simp only[aC.k,aC.n,aC.t,aC.l,aC.d] at h1 h2 h3 h4 h5
    omega)
   go_enter Oz,Ou;go_wp2_with fail
   all_goals
    go_ret;exact⟨by rw[HV.out];rfl,(OG _ _).alloc (qL) _⟩
  obtain rfl:cdn=0:=oM
  have HV:Hid (aQ aM (aC.mk 1 0 empty l d)=true):=by
   exact br (by simp only[aC.k];omega) (by simp only[aC.k];omega) ⟨by simp[aC.k,aC.n],by simp[aC.k,aC.t],by have:=HL.out;simp only[aC.k,aC.l];omega,by have:=HD.out;simp only[aC.k,aC.d];omega,by simp[aC.k]⟩
  go_enter Oz,Ou;go_wp2_with fail
  all_goals
   go_ret;exact⟨by rw[HV.out];rfl,(OG _ _).alloc (qL) _⟩
 ·by_cases hl0:0<cln
  ·have HV:Hid (aQ aM (aC.mk 2 0 empty l d)=false):=aR (by
    have q1:=HL.out
    have q2:=HD.out
    rintro⟨h1,h2,h3,h4,h5⟩
    simp only[aC.k,aC.n,aC.t,aC.l,aC.d] at h1 h2 h3 h4 h5
    omega)
   go_enter Oz,Ou;go_wp2_with fail
   all_goals
    go_ret;exact⟨by rw[HV.out];rfl,(OG _ _).alloc (qL) _⟩
  obtain rfl:cln=0:=oM
  by_cases hd0:0<cdn
  ·have HV:Hid (aQ aM (aC.mk 2 0 empty l d)=false):=aR (by
    have q1:=HL.out
    have q2:=HD.out
    rintro⟨h1,h2,h3,h4,h5⟩
    simp only[aC.k,aC.n,aC.t,aC.l,aC.d] at h1 h2 h3 h4 h5
    omega)
   go_enter Oz,Ou;go_wp2_with fail
   all_goals
    go_ret;exact⟨by rw[HV.out];rfl,(OG _ _).alloc (qL) _⟩
  obtain rfl:cdn=0:=oM
  have HV:Hid (aQ aM (aC.mk 2 0 empty l d)=true):=by
   exact br (by simp only[aC.k];omega) (by simp only[aC.k];omega) ⟨by simp[aC.k,aC.n],by simp[aC.k,aC.t],by have:=HL.out;simp only[aC.k,aC.l];omega,by have:=HD.out;simp only[aC.k,aC.d];omega,by simp[aC.k]⟩
  go_enter Oz,Ou;go_wp2_with fail
  all_goals
   go_ret;exact⟨by rw[HV.out];rfl,(OG _ _).alloc (qL) _⟩
 ·by_cases hl0:0<cln
  ·have HV:Hid (aQ aM (aC.mk 11 0 empty l d)=false):=aR (by
    have q1:=HL.out
    have q2:=HD.out
    rintro⟨h1,h2,h3,h4,h5⟩
    simp only[aC.k,aC.n,aC.t,aC.l,aC.d] at h1 h2 h3 h4 h5
    omega)
   go_enter Oz,Ou;go_wp2_with fail
   all_goals
    go_ret;exact⟨by rw[HV.out];rfl,(OG _ _).alloc (qL) _⟩
  obtain rfl:cln=0:=oM
  by_cases hd0:0<cdn
  ·have HV:Hid (aQ aM (aC.mk 11 0 empty l d)=false):=aR (by
    have q1:=HL.out
    have q2:=HD.out
    rintro⟨h1,h2,h3,h4,h5⟩
    simp only[aC.k,aC.n,aC.t,aC.l,aC.d] at h1 h2 h3 h4 h5
    omega)
   go_enter Oz,Ou;go_wp2_with fail
   all_goals
    go_ret;exact⟨by rw[HV.out];rfl,(OG _ _).alloc (qL) _⟩
  obtain rfl:cdn=0:=oM
  have HV:Hid (aQ aM (aC.mk 11 0 empty l d)=true):=by
   exact br (by simp only[aC.k];omega) (by simp only[aC.k];omega) ⟨by simp[aC.k,aC.n],by simp[aC.k,aC.t],by have:=HL.out;simp only[aC.k,aC.l];omega,by have:=HD.out;simp only[aC.k,aC.d];omega,by simp[aC.k]⟩
  go_enter Oz,Ou;go_wp2_with fail
  all_goals
   go_ret;exact⟨by rw[HV.out];rfl,(OG _ _).alloc (qL) _⟩
 ·by_cases hd0:0<cdn
  ·have HV:Hid (aQ aM (aC.mk 6 0 empty l d)=false):=aR (by
    have q1:=HL.out
    have q2:=HD.out
    rintro⟨h1,h2,h3,h4,h5⟩
    simp only[aC.k,aC.n,aC.t,aC.l,aC.d] at h1 h2 h3 h4 h5
    omega)
   go_enter Oz,Ou;go_wp2_with fail
   all_goals
    go_ret;exact⟨by rw[HV.out];rfl,(OG _ _).alloc (qL) _⟩
  obtain rfl:cdn=0:=oM
  obtain⟨ps,hps,hsl⟩:=HX.out.sl;simp only at hsl;have HP:=qD hsl;have HS:Hid (ps.map Prod.snd=l):=hps;have HN:=qD hsl.sr.ln;have hz1:=hsl.sz;unfold aF at hz1;have HH:Hid (dU 6 0 empty l.length d.length):=⟨.inr (.inr (.inr rfl)),.inr (.inr (.inr rfl)),.inl rfl,.inr (by have:=HD.out;omega),by simp⟩;clear hps hsl;go_enter Oz,Ou;go_wp2_with fail
  go_loopw [119] (fun v119 wr=>∃i:Nat,i<=cln/\v119=.int .i64 i/\(∀y∈l.take i,aw aM y)/\Bl w wr) (fun v119 _=>cln-(intOf v119).toNat)
  ·exact⟨0,ON _,rfl,by simp,B0.out.bel⟩
  case round=>
   obtain⟨i,hi,rfl,ha,I⟩:=hrel;have HA:=qD ha;have J:=qD I;clear ha;by_cases hlt:i<cln
   ·obtain⟨p,hp⟩:∃p,ps[i]?=some p:=⟨_,OH (by have:=HN.out;omega)⟩;have hy:l[i]?=some p.2:=by rw[<-HS.out,OT,hp];rfl
    obtain⟨b,off,rfl,_,hu,hr⟩:=HP.out.Mw hp;obtain⟨y0,y1,y2,y3,y4⟩:=hu.keep (I.block b hu.lt);have hb:b<wr.heap.size:=by have:=hu.lt;have:=I.size;omega
    have HC:=qD (IH.out p.2 (OJ hy));have hA1:=(OG wr.heap.size wr).alloc (qL) (Obj.cells p.1.arr 29);have HR:=qD ((hr.step I).step hA1);have HT1:=qD ((HT.out.step I).step hA1);have J1:=qD (I.Ml hA1);have HY:=qD hy;clear hp hy hu hr I hA1;go_wp2_with fail;refine(HC.out p.1 _ HT1.out HR.out).mono ?_;rintro e w2 ⟨rfl,hb2⟩;have J2:=qD (J1.out.Ml hb2);clear y0 y1 y2 y3 y4 hb2;cases hso:aQ aM p.2
    ·have HV:Hid (aQ aM (aC.mk 6 0 empty l d)=false):=nj HY.out (kL.1 hso);go_wp2;go_ret;exact⟨by rw[HV.out];rfl,J2.out⟩
    ·have HN2:Hid (∀y∈l.take (i+1),aw aM y):=by
      rw[Hid,take_snoc' HY.out];intro y hy;rcases OP.1 hy with hy|hy
      ·exact HA.out y hy
      ·simp at hy;subst hy;exact eE.1 hso
     go_wp2_with fail;go_roundw
     ·exact⟨i+1,by omega,by go_num,HN2.out,J2.out⟩
     ·exact iO
   ·have HV:Hid (aQ aM (aC.mk 6 0 empty l d)=true):=by
     have:=HA.out;rw[OS (by have:=HL.out;omega)] at this;exact ye (by rfl) HH.out this
    clear I;go_wp2;go_ret;exact⟨by rw[HV.out];rfl,J.out⟩
 ·by_cases hl0:0<cln
  ·have HV:Hid (aQ aM (aC.mk 5 0 empty l d)=false):=aR (by
    have q1:=HL.out
    have q2:=HD.out
    rintro⟨h1,h2,h3,h4,h5⟩
    simp only[aC.k,aC.n,aC.t,aC.l,aC.d] at h1 h2 h3 h4 h5
    omega)
   go_enter Oz,Ou;go_wp2_with fail
   all_goals
    go_ret;exact⟨by rw[HV.out];rfl,(OG _ _).alloc (qL) _⟩
  obtain rfl:cln=0:=oM
  obtain⟨fs,hfs,hfl⟩:=HX.out.sd;simp only at hfl;have HF:=qD hfl;have HS:Hid (fs.map Prod.snd=d):=hfs;have HV:Hid (aQ aM (aC.mk 5 0 empty l d)=dV aM d):=Bw (by rfl) ⟨.inr (.inr (.inr rfl)),.inr (.inr (.inr rfl)),.inr (by have:=HL.out;simp only[aC.l];omega),.inl rfl,by simp[aC.k]⟩;clear hfs hfl;go_enter Oz,Ou;go_wp2_with fail;refine(pu fs _ _ _ _ (HF.out.step B0.out.Nj) (HT.out.step B0.out.Nj) (fun p hp=>ID.out p.2 (by rw[<-HS.out];exact PD hp))).mono ?_;rintro e w' ⟨rfl,hb⟩;go_wp2;go_ret;exact⟨by rw[HV.out,<-HS.out];rfl,B0.out.bel.Ml hb⟩
 ·have g3:=cv e3;have g9:=cv e9;have g10:=cv e10;have g4:=cv e4;have g7:=cv e7;have g8:=cv e8;have g1:=cv e1;have g2:=cv e2;have g11:=cv e11;have g6:=cv e6;have g5:=cv e5;have m6:(ck != 6)=true:=by simpa using e6
  have m5:(ck != 5)=true:=by simpa using e5
  by_cases hl0:0<cln
  ·have HV:Hid (aQ aM (aC.mk ck 0 empty l d)=false):=aR (by
    have q1:=HL.out
    have q2:=HD.out
    rintro⟨h1,h2,h3,h4,h5⟩
    simp only[aC.k,aC.n,aC.t,aC.l,aC.d] at h1 h2 h3 h4 h5
    omega)
   clear e3 e9 e10 e4 e7 e8 e1 e2 e11 e6 e5;go_enter Oz,Ou;go_wp2_with fail
   all_goals
    go_ret;exact⟨by rw[HV.out];rfl,(OG _ _).alloc (qL) _⟩
  obtain rfl:cln=0:=oM
  by_cases hd0:0<cdn
  ·have HV:Hid (aQ aM (aC.mk ck 0 empty l d)=false):=aR (by
    have q1:=HL.out
    have q2:=HD.out
    rintro⟨h1,h2,h3,h4,h5⟩
    simp only[aC.k,aC.n,aC.t,aC.l,aC.d] at h1 h2 h3 h4 h5
    omega)
   clear e3 e9 e10 e4 e7 e8 e1 e2 e11 e6 e5;go_enter Oz,Ou;go_wp2_with fail
   all_goals
    go_ret;exact⟨by rw[HV.out];rfl,(OG _ _).alloc (qL) _⟩
  obtain rfl:cdn=0:=oM
  have HV:Hid (aQ aM (aC.mk ck 0 empty l d)=false):=aR (by
   have q1:=HL.out
   have q2:=HD.out
   rintro⟨h1,h2,h3,h4,h5⟩
   simp only[aC.k,aC.n,aC.t,aC.l,aC.d] at h1 h2 h3 h4 h5
   omega)
  clear e3 e9 e10 e4 e7 e8 e1 e2 e11 e6 e5;go_enter Oz,Ou;go_wp2_with fail
  all_goals
   go_ret;exact⟨by rw[HV.out];rfl,(OG _ _).alloc (qL) _⟩
theorem oX(x:aC):decide (pF x<=1024)=decide (x.size<=1024):=by
 unfold pF bV;by_cases h:x.size<=1024
 ·rw[OM h,OM oM]
 ·rw[OV h,OV oM]
theorem oY(x:aC):decide (pG x<=16)=decide (x.Ms<=16):=by
 unfold pG bH;by_cases h:x.Ms<=16
 ·rw[OM h,OM oM]
 ·rw[OV h,OV oM]
theorem iX(x:aC)(c:VC)(w:World)(hT:cZ w)(h:RW w c x):Calls prog 35 #[c.val] w (Rt w (.bool (aJ x))):=by
 have H:=qD (h.alloc (.cells c.arr 29));have HT:=qD (hT.alloc (.cells c.arr 29));have HB:Hid (aG (w.alloc (.cells c.arr 29)) w.heap.size 29 c.arr):=aG.Mm rfl;have HZ:=qD ((OG w.heap.size w).alloc (qL) (Obj.cells c.arr 29));clear h hT;go_enter func35,ntmps35;go_wp2_with fail;refine(Ai x c _ H.out).mono ?_;rintro e w1 ⟨rfl,hb1⟩;obtain⟨a0,a1,a2,a3,a4⟩:=aO.Mn (HB.out.step hb1);have HB1:=qD (HB.out.step hb1);have H1:=qD (H.out.step hb1);have HT1:=qD (HT.out.step hb1);have HZ1:=qD (HZ.out.Ml hb1);clear hb1;by_cases h1:pF x<=1024
 ·have HD1:Hid (decide (x.size<=1024)=true):=by rw[Hid,<-oX];exact OM h1
  go_wp2_with fail;refine(Aj x c _ H1.out).mono ?_;rintro e w2 ⟨rfl,hb2⟩;clear a0 a1 a2 a3 a4;obtain⟨a0,a1,a2,a3,a4⟩:=aO.Mn (HB1.out.step hb2);have H2:=qD (H1.out.step hb2);have HT2:=qD (HT1.out.step hb2);have HZ2:=qD (HZ1.out.Ml hb2);clear hb2;by_cases h2:pG x<=16
  ·have HD2:Hid (decide (x.Ms<=16)=true):=by rw[Hid,<-oY];exact OM h2
   go_wp2_with fail;refine(EC x c _ HT2.out H2.out).mono ?_;rintro e w3 ⟨rfl,hb3⟩;go_wp2;go_ret;exact⟨by unfold aJ;rw[HD1.out,HD2.out];rfl,HZ2.out.Ml hb3⟩
  ·have HD2:Hid (decide (x.Ms<=16)=false):=by rw[Hid,<-oY];exact OV h2
   go_wp2;go_ret;exact⟨by unfold aJ;rw[HD1.out,HD2.out];rfl,HZ2.out⟩
 ·have HD1:Hid (decide (x.size<=1024)=false):=by rw[Hid,<-oX];exact OV h1
  go_wp2;go_ret;exact⟨by unfold aJ;rw[HD1.out];rfl,HZ1.out⟩
end
end Go.Proofs.YtgfoliedmhgpnaaGreatDoor
