/- Parts of the proof, joined: ChKeys. -/
import Derived.Test.YtfkdihlbaghajaaGreatDoorOf1
import Derived.Test.YtfkdihlbaghajaaGreatDoorOf2
set_option maxRecDepth 100000
set_option maxHeartbeats 16000000
set_option linter.unusedSimpArgs false
namespace Go.Proofs.YtfkdihlbaghajaaGreatDoor
open Go.RowKit
theorem sameP_len:∀{l m:List ByteArray},l.length≠m.length→sameP l m=false
 | [],[],h=>absurd rfl h
 | [],_::_,_=>rfl
 | _::_,[],_=>rfl
 | a::r,b::s,h=>by rw[sameP,sameP_len (l:=r) (m:=s) (by simpa using h)];simp
theorem sameP_at{l m:List ByteArray}{i:Nat}{x y:ByteArray}(hx:l[i]?=some x)(hy:m[i]?=some y):sameP (l.drop i) (m.drop i)=((x.toList==y.toList)&&sameP (l.drop (i+1)) (m.drop (i+1))):=by rw[drop_of hx,drop_of hy,sameP]
theorem sameP_end{l m:List ByteArray}{i:Nat}(h1:l.length≤i)(h2:m.length≤i):sameP (l.drop i) (m.drop i)=true:=by rw[List.drop_of_length_le h1,List.drop_of_length_le h2];rfl
theorem equal_any(l m:List ByteArray)(A B:Option Addr)(n c k d:Nat)(w:World)(h:ST w A n c l)(h':ST w B k d m):
 Calls Tryz.prog 46 #[.slice A n c,.slice B k d] w fun e w'=>e=.returned (.bool (sameP l m))∧Below w.heap.size w w':=by
 have hz:n≤140737488355328:=by have:=h.sz;unfold reach at this;omega
 have hk:k≤140737488355328:=by have:=h'.sz;unfold reach at this;omega
 have H:=qD h
 have H':=qD h'
 clear h h'
 by_cases hnk:n=k
 ·subst hnk
  go_enter Tryz.func46,Tryz.ntmps46
  go_wp2_with fail
  go_loopw [13] (fun v wr=>∃i:Nat,i≤n∧v=.int .i64 i∧sameP l m=sameP (l.drop i) (m.drop i)∧Below w.heap.size w wr) (fun v _=>n-(intOf v).toNat)
  case atStart=>exact⟨0,Nat.zero_le _,rfl,rfl,Below.refl _ _⟩
  case round=>
   obtain⟨i,hi,rfl,ha,hbel⟩:=hrel
   have HA:=qD ha
   have HB:=qD hbel
   clear ha
   by_cases hlt:i<n
   ·obtain⟨b,off,x,hA,hb,hx,e0⟩:=H.out.sr.at1 hlt
    obtain⟨b',off',y,hA',hb',hy,f0⟩:=H'.out.sr.at1 hlt
    subst hA hA'
    have HX:=qD (sameP_at hx hy)
    have e1:=(hbel.cell (p:=⟨b,off+i,none⟩) hb).trans e0
    have f1:=(hbel.cell (p:=⟨b',off'+i,none⟩) hb').trans f0
    have X0:∀kk:BW wr,kk.val.cell? ⟨b,off+i,none⟩=some (.string x):=fun kk=>kk.cell e1
    have Y0:∀kk:BW wr,kk.val.cell? ⟨b',off'+i,none⟩=some (.string y):=fun kk=>kk.cell f1
    have i0:(0:Int)≤(i:Int):=by omega
    have i1:(i:Int)<(n:Int):=by omega
    clear hx hy e0 f0 hbel
    go_upto_region 6 with fail
    clear e1 f1
    refine wp_region_bw (by kernel_rfl) (by kernel_rfl) ?_
    repeat(go_big_quiet_step (fail))
    refine wpQuiet_nil ?_
    rintro _ ⟨kw,rfl⟩
    have HK:=qD kw.below
    generalize kw.val=w5 at*
    clear X0 Y0
    cases hq:(x.toList==y.toList)
    ·have HF:Hid (sameP l m=false):=by rw[Hid,HA.out,HX.out,hq];rfl
     go_wp2_with fail
     go_ret
     exact⟨by rw[HF.out];rfl,HB.out.step' HK.out⟩
    ·have HF:Hid (sameP l m=sameP (l.drop (i+1)) (m.drop (i+1))):=by rw[Hid,HA.out,HX.out,hq];rfl
     go_wp2_with fail
     go_roundw
     case rel=>exact⟨i+1,by omega,by go_num,HF.out,HB.out.step' HK.out⟩
     case measure=>simp[intOf];omega
   ·have HF:Hid (sameP l m=true):=by rw[Hid,HA.out];exact sameP_end (by have:=H.out.sr.ln;omega) (by have:=H'.out.sr.ln;omega)
    clear hbel
    go_wp2_with fail
    go_ret
    exact⟨by rw[HF.out];rfl,HB.out⟩
 ·have HF:Hid (sameP l m=false):=sameP_len (by have:=H.out.sr.ln;have:=H'.out.sr.ln;omega)
  have hnk':((n:Int) != (k:Int))=true:=by simp;omega
  go_enter Tryz.func46,Tryz.ntmps46
  go_wp2_with fail
  go_ret
  exact⟨by rw[HF.out];rfl,Below.refl _ _⟩
theorem rpath_any(l:List ByteArray)(A:Option Addr)(n c:Nat)(w:World)(h:ST w A n c l):
 Calls Tryz.prog 12 #[.slice A n c] w fun e w'=>e=.returned (.bool (pathB l))∧w'=w:=by
 have hz:n≤140737488355328:=by have:=h.sz;unfold reach at this;omega
 have H:=qD h
 have hn:=qD h.sr.ln
 clear h
 by_cases h1:n<1
 ·have HV:Hid (pathB l=false):=by unfold Hid pathB;rw[←hn.out,decide_eq_false (by omega)];rfl
  go_enter Tryz.func12,Tryz.ntmps12
  go_wp2_with fail
  go_ret
  exact⟨by rw[HV.out];rfl,rfl⟩
 by_cases h2:16<n
 ·have HV:Hid (pathB l=false):=by unfold Hid pathB;rw[←hn.out,decide_eq_true (by omega),decide_eq_false (by omega)];rfl
  go_enter Tryz.func12,Tryz.ntmps12
  go_wp2_with fail
  go_ret
  exact⟨by rw[HV.out];rfl,rfl⟩
 have HV:Hid (pathB l=(l.drop 0).all nameB):=by unfold Hid pathB;rw[←hn.out,decide_eq_true (by omega),decide_eq_true (by omega)];rfl
 go_enter Tryz.func12,Tryz.ntmps12
 go_wp2_with fail
 go_loopw [3] (fun v wr=>∃i:Nat,i≤n∧v=.int .i64 i∧pathB l=(l.drop i).all nameB∧wr=w) (fun v _=>n-(intOf v).toNat)
 case atStart=>exact⟨0,Nat.zero_le _,rfl,HV.out,rfl⟩
 case round=>
  obtain⟨i,hi,rfl,ha,rfl⟩:=hrel
  have HA:=qD ha
  clear ha
  by_cases hlt:i<n
  ·obtain⟨b,off,x,hA,hb,hx,e0⟩:=H.out.sr.at1 hlt
   subst hA
   have HX:=qD (drop_of hx)
   clear hx
   go_wp2_with fail
   refine(rname_any x _).mono ?_
   rintro e w1 ⟨rfl,rfl⟩
   cases hq:nameB x
   ·have HF:Hid (pathB l=false):=by rw[Hid,HA.out,HX.out,List.all_cons,hq];rfl
    go_wp2_with fail
    go_ret
    exact⟨by rw[HF.out];rfl,rfl⟩
   ·have HF:Hid (pathB l=(l.drop (i+1)).all nameB):=by rw[Hid,HA.out,HX.out,List.all_cons,hq];rfl
    go_wp2_with fail
    go_roundw
    case rel=>exact⟨i+1,by omega,by go_num,HF.out,trivial⟩
    case measure=>simp[intOf];omega
  ·have HF:Hid (pathB l=true):=by rw[Hid,HA.out,List.drop_of_length_le (by have:=hn.out;omega)];rfl
   go_wp2_with fail
   go_ret
   exact⟨by rw[HF.out];rfl,rfl⟩
end Go.Proofs.YtfkdihlbaghajaaGreatDoor
