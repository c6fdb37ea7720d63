/- Parts of the proof, joined: ChKeys. -/
import Derived.Test.YtfkapannahcjiaaGreatDoorRa1
import Derived.Test.YtfkapannahcjiaaGreatDoorRa2
set_option maxRecDepth 100000
set_option maxHeartbeats 16000000
set_option linter.unusedSimpArgs false
namespace Go.Proofs.YtfkapannahcjiaaGreatDoor
open Go.RowKit
theorem sameP_len:∀{l m:List ByteArray},l.length≠m.length→sameP l m=false
 | [],[],h=>absurd rfl h
 | [],_::_,_=>rfl
 | _::_,[],_=>rfl
 | a::r,b::s,h=>by rw[sameP,sameP_len (l:=r) (m:=s) (by simpa using h)];simp
theorem sameP_at{l m:List ByteArray}{i:Nat}{x y:ByteArray}(hx:l[i]?=some x)(hy:m[i]?=some y):sameP (l.drop i) (m.drop i)=((x.toList==y.toList)&&sameP (l.drop (i+1)) (m.drop (i+1))):=by rw[drop_of hx,drop_of hy,sameP]
theorem sameP_end{l m:List ByteArray}{i:Nat}(h1:l.length≤i)(h2:m.length≤i):sameP (l.drop i) (m.drop i)=true:=by rw[List.drop_of_length_le h1,List.drop_of_length_le h2];rfl
theorem equal_any(l m:List ByteArray)(A B:Option Addr)(n c k d:Nat)(w:World)(h:ST w A n c l)(h':ST w B k d m):
 Calls Tryz.prog 57 #[.slice A n c,.slice B k d] w fun e w'=>e=.returned (.bool (sameP l m))∧Below w.heap.size w w':=by
 have hz:n≤140737488355328:=by have:=h.sz;unfold reach at this;omega
 have hk:k≤140737488355328:=by have:=h'.sz;unfold reach at this;omega
 have H:=qD h
 have H':=qD h'
 clear h h'
 by_cases hnk:n=k
 ·subst hnk
  go_enter Tryz.func57,Tryz.ntmps57
  go_wp2_with fail
  go_loopw [13] (fun v wr=>∃i:Nat,i≤n∧v=.int .i64 i∧sameP l m=sameP (l.drop i) (m.drop i)∧Below w.heap.size w wr) (fun v _=>n-(intOf v).toNat)
  case atStart=>exact⟨0,Nat.zero_le _,rfl,rfl,Below.refl _ _⟩
  case round=>
   obtain⟨i,hi,rfl,ha,hbel⟩:=hrel
   have HA:=qD ha
   have HB:=qD hbel
   clear ha
   by_cases hlt:i<n
   ·obtain⟨b,off,x,hA,hb,hx,e0⟩:=H.out.sr.at1 hlt
    obtain⟨b',off',y,hA',hb',hy,f0⟩:=H'.out.sr.at1 hlt
    subst hA hA'
    have HX:=qD (sameP_at hx hy)
    have e1:=(hbel.cell (p:=⟨b,off+i,none⟩) hb).trans e0
    have f1:=(hbel.cell (p:=⟨b',off'+i,none⟩) hb').trans f0
    have X0:∀kk:BW wr,kk.val.cell? ⟨b,off+i,none⟩=some (.string x):=fun kk=>kk.cell e1
    have Y0:∀kk:BW wr,kk.val.cell? ⟨b',off'+i,none⟩=some (.string y):=fun kk=>kk.cell f1
    have i0:(0:Int)≤(i:Int):=by omega
    have i1:(i:Int)<(n:Int):=by omega
    clear hx hy e0 f0 hbel
    go_upto_region 6 with fail
    clear e1 f1
    refine wp_region_bw (by kernel_rfl) (by kernel_rfl) ?_
    repeat(go_big_quiet_step (fail))
    refine wpQuiet_nil ?_
    rintro _ ⟨kw,rfl⟩
    have HK:=qD kw.below
    generalize kw.val=w5 at*
    clear X0 Y0
    cases hq:(x.toList==y.toList)
    ·have HF:Hid (sameP l m=false):=by rw[Hid,HA.out,HX.out,hq];rfl
     go_wp2_with fail
     go_ret
     exact⟨by rw[HF.out];rfl,HB.out.step' HK.out⟩
    ·have HF:Hid (sameP l m=sameP (l.drop (i+1)) (m.drop (i+1))):=by rw[Hid,HA.out,HX.out,hq];rfl
     go_wp2_with fail
     go_roundw
     case rel=>exact⟨i+1,by omega,by go_num,HF.out,HB.out.step' HK.out⟩
     case measure=>simp[intOf];omega
   ·have HF:Hid (sameP l m=true):=by rw[Hid,HA.out];exact sameP_end (by have:=H.out.sr.ln;omega) (by have:=H'.out.sr.ln;omega)
    clear hbel
    go_wp2_with fail
    go_ret
    exact⟨by rw[HF.out];rfl,HB.out⟩
 ·have HF:Hid (sameP l m=false):=sameP_len (by have:=H.out.sr.ln;have:=H'.out.sr.ln;omega)
  have hnk':((n:Int) != (k:Int))=true:=by simp;omega
  go_enter Tryz.func57,Tryz.ntmps57
  go_wp2_with fail
  go_ret
  exact⟨by rw[HF.out];rfl,Below.refl _ _⟩
theorem ordL_at{l:List Od}{i:Nat}{o:Od}(h:l[i]?=some o):ordL (l.take i) (l.drop i)=if pathB o.p=false then 10 else if(l.take i).any (fun e=>sameP e.p o.p) then 12 else ordL (l.take (i+1)) (l.drop (i+1)):=by
 rw[drop_of h,ordL,List.take_add_one,h]
 rfl
theorem ordL_end{l:List Od}{i:Nat}(h:l.length≤i):ordL (l.take i) (l.drop i)=0:=by rw[List.drop_of_length_le h,ordL]
theorem order_any(ks:List Od)(A:Option Addr)(n c:Nat)(w:World)(h:KS w A n c ks):
 Calls Tryz.prog 52 #[.slice A n c] w fun e w'=>e=.returned (.int .i64 (ordE ks))∧Below w.heap.size w w':=by
 have hln:=qD h.ln
 obtain⟨os,h⟩:=h
 have hz:n≤140737488355328:=by have:=h.sz;unfold reach at this;omega
 have hc:=h.sr.lc
 have H:=qD h
 clear h
 by_cases h8:8<n
 ·have HV:Hid (ordE ks=2):=by unfold Hid ordE;rw[if_pos (by have:=hln.out;omega)]
  go_enter Tryz.func52,Tryz.ntmps52
  go_wp2_with fail
  go_ret
  exact⟨by rw[HV.out];rfl,Below.refl _ _⟩
 have HV:Hid (ordE ks=ordL (ks.take 0) (ks.drop 0)):=by unfold Hid ordE;rw[if_neg (by have:=hln.out;omega)];rfl
 go_enter Tryz.func52,Tryz.ntmps52
 go_wp2_with fail
 go_loopw [12] (fun v wr=>∃i:Nat,i≤n∧v=.int .i64 i∧ordE ks=ordL (ks.take i) (ks.drop i)∧Below w.heap.size w wr) (fun v _=>n-(intOf v).toNat)
 case atStart=>exact⟨0,Nat.zero_le _,rfl,HV.out,Below.refl _ _⟩
 case round=>
  obtain⟨i,hi,rfl,ha,hbel⟩:=hrel
  have HA:=qD ha
  have HB:=qD hbel
  clear ha
  by_cases hlt:i<n
  ·obtain⟨b,off,x,hA,hb,hx,e0,e1⟩:=H.out.sr.at2 hlt
   obtain⟨q,hq⟩:∃q,ks[i]?=some q:=⟨_,List.getElem?_eq_getElem (by have:=hln.out;omega)⟩
   subst hA
   have HOR:=qD (H.out.el i x q hx hq)
   have HX:=qD (ordL_at hq)
   have g0:=(hbel.cell (p:=⟨b,off+i*2,none⟩) hb).trans e0
   have g1:=(hbel.cell (p:=⟨b,off+i*2+1,none⟩) hb).trans e1
   have hb2:b<wr.heap.size:=by have:=hbel.size;omega
   obtain⟨xA,xn,xc,xd⟩:=x
   have HBA:=qD ((Below.refl wr.heap.size wr).alloc (qL) (Obj.cells #[.slice xA xn xc,.bool xd] 54))
   have HB5:Hid (Blk (wr.alloc (.cells #[.slice xA xn xc,.bool xd] 54)) wr.heap.size 54 #[.slice xA xn xc,.bool xd]):=Blk.new_at rfl
   clear hx hq e0 e1 hbel
   simp only at g0 g1
   go_wp2_with fail
   refine(path_any q.p _ _ _ _ (HOR.out.st.step (HB.out.step' HBA.out))).mono ?_
   rintro e w1 ⟨rfl,rfl⟩
   cases hp:pathB q.p
   ·have HF:Hid (ordE ks=10):=by rw[Hid,HA.out,HX.out,if_pos hp]
    go_wp2_with fail
    go_ret
    exact⟨by rw[HF.out];rfl,HB.out.step' HBA.out⟩
   have HY:Hid (ordL (ks.take i) (ks.drop i)=if(ks.take i).any (fun e=>sameP e.p q.p) then 12 else ordL (ks.take (i+1)) (ks.drop (i+1))):=by rw[Hid,HX.out,if_neg (by rw[hp];simp)]
   have hic:i≤c:=by omega
   have HW:=qD (HB.out.step' HBA.out)
   obtain⟨g,hg⟩:∃g,g=wr.heap.size:=⟨_,rfl⟩
   have hwg:w.heap.size≤g:=by rw[hg];exact HB.out.size
   rw[←hg] at HB5 ⊢
   generalize wr.alloc (.cells #[.slice xA xn xc,.bool xd] 54)=w5 at*
   clear hg HX hp g0 g1 HBA
   go_wp2_with fail
   go_loopw [25] (fun v wr=>∃j:Nat,j≤i∧v=.int .i64 j∧(ks.take i).any (fun e=>sameP e.p q.p)=((ks.take i).drop j).any (fun e=>sameP e.p q.p)∧Blk wr g 54 #[.slice xA xn xc,.bool xd]∧Below w.heap.size w wr) (fun v _=>i-(intOf v).toNat)
   case atStart=>exact⟨0,Nat.zero_le _,rfl,rfl,HB5.out,HW.out⟩
   case round=>
    obtain⟨j,hj,rfl,hany,hblk,hbel2⟩:=hrel
    have HN:=qD hany
    have HBl:=qD hblk
    have HB2:=qD hbel2
    clear hany
    by_cases hjl:j<i
    ·obtain⟨b2,off2,y,hA2,hbb,hy,e0,e1⟩:=H.out.sr.at2 (i:=j) (by omega)
     obtain⟨r,hr⟩:∃r,ks[j]?=some r:=⟨_,List.getElem?_eq_getElem (by have:=hln.out;omega)⟩
     injection hA2 with hA2
     injection hA2 with hb1 ho1
     subst hb1 ho1
     have HOR2:=qD (H.out.el j y r hy hr)
     have HY2:Hid (((ks.take i).drop j).any (fun e=>sameP e.p q.p)=(sameP r.p q.p||((ks.take i).drop (j+1)).any (fun e=>sameP e.p q.p))):=by
      rw[Hid,drop_of (show(ks.take i)[j]?=some r by rw[List.getElem?_take,if_pos hjl];exact hr)]
      rfl
     have g0:=(hbel2.cell (p:=⟨b,off+j*2,none⟩) hb).trans e0
     have g1:=(hbel2.cell (p:=⟨b,off+j*2+1,none⟩) hb).trans e1
     have k0:=hblk.cell 0
     simp at k0
     have hgl:=hblk.lt
     obtain⟨yA,yn,yc,yd⟩:=y
     have HBA:=qD (HB2.out.alloc HB2.out.size (Obj.cells #[.slice yA yn yc,.bool yd] 54))
     have HB6:=qD (HBl.out.alloc (.cells #[.slice yA yn yc,.bool yd] 54))
     clear hy hr e0 e1 hbel2 hblk
     simp only at g0 g1
     go_wp2_with fail
     refine(equal_any r.p q.p _ _ _ _ _ _ _ (HOR2.out.st.step HBA.out) (HOR.out.st.step HBA.out)).mono ?_
     rintro e w1 ⟨rfl,hb3⟩
     have HB3:=qD (HBA.out.step' hb3)
     have HBl3:=qD (HB6.out.step hb3)
     clear hb3
     cases hs:sameP r.p q.p
     ·have HF:Hid ((ks.take i).any (fun e=>sameP e.p q.p)=((ks.take i).drop (j+1)).any (fun e=>sameP e.p q.p)):=by rw[Hid,HN.out,HY2.out,hs];rfl
      go_wp2_with fail
      go_roundw
      case rel=>exact⟨j+1,by omega,by go_num,HF.out,HBl3.out,HB3.out⟩
      case measure=>simp[intOf];omega
     ·have HF:Hid (ordE ks=12):=by rw[Hid,HA.out,HY.out,if_pos (by rw[HN.out,HY2.out,hs];rfl)]
      go_wp2_with fail
      go_ret
      exact⟨by rw[HF.out];rfl,HB3.out⟩
    ·have HF:Hid (ordE ks=ordL (ks.take (i+1)) (ks.drop (i+1))):=by
      rw[Hid,HA.out,HY.out,if_neg]
      rw[HN.out,List.drop_of_length_le (by simp;omega)]
      simp
     clear hbel2 hblk
     go_wp2_with fail
     go_roundw
     case rel=>exact⟨i+1,by omega,by go_num,HF.out,HB2.out⟩
     case measure=>simp[intOf];omega
  ·have HF:Hid (ordE ks=0):=by rw[Hid,HA.out];exact ordL_end (by have:=hln.out;omega)
   clear hbel
   go_wp2_with fail
   go_ret
   exact⟨by rw[HF.out];rfl,HB.out⟩
theorem shardkey_any(ks:List Od)(ha:Bool)(A:Option Addr)(n c:Nat)(w:World)(h:KS w A n c ks):
 Calls Tryz.prog 19 #[.agg #[.slice A n c,.bool ha]] w fun e w'=>e=.returned (.int .i64 (keyE ks ha))∧Below w.heap.size w w':=by
 have hln:=qD h.ln
 have hz:n≤140737488355328:=by obtain⟨os,h⟩:=h;have:=h.sz;unfold reach at this;omega
 have H:=qD h
 clear h
 have HB0:Hid (Blk (w.alloc (.cells #[.slice A n c,.bool ha] 24)) w.heap.size 24 #[.slice A n c,.bool ha]):=Blk.new_at rfl
 have HZ:=qD ((Below.refl w.heap.size w).alloc (qL) (Obj.cells #[.slice A n c,.bool ha] 24))
 go_enter Tryz.func19,Tryz.ntmps19
 go_wp2_with fail
 refine(order_any ks _ _ _ _ (H.out.step HZ.out)).mono ?_
 rintro e w1 ⟨rfl,hb⟩
 have HB1:=qD (HZ.out.step' hb)
 have k0:=(HB0.out.step hb).cell 0
 have k1:=(HB0.out.step hb).cell 1
 simp at k0 k1
 have HBk:=qD (HB0.out.step hb)
 clear hb
 by_cases ho:ordE ks=0
 ·have HO:Hid (keyE ks ha=if ks.length=0∨(ha=true∧1<ks.length) then 11 else if ks.any (·.d) then 11 else 0):=by unfold Hid keyE;rw[if_neg (by simp[ho])]
  rw[ho]
  by_cases hn0:n=0
  ·have HF:Hid (keyE ks ha=11):=by rw[Hid,HO.out,if_pos (.inl (by have:=hln.out;omega))]
   subst hn0
   go_wp2_with fail
   go_ret
   exact⟨by rw[HF.out];rfl,HB1.out⟩
  by_cases hh:ha=true∧1<n
  ·have HF:Hid (keyE ks ha=11):=by rw[Hid,HO.out,if_pos (.inr ⟨hh.1,by have:=hln.out;omega⟩)]
   obtain⟨rfl,h1⟩:=hh
   go_wp2_with fail
   go_ret
   exact⟨by rw[HF.out];rfl,HB1.out⟩
  have HF:Hid (keyE ks ha=if ks.any (·.d) then 11 else 0):=by rw[Hid,HO.out,if_neg (by have:=hln.out;rintro(h|⟨h,h'⟩);omega;exact hh ⟨h,by omega⟩)]
  have hn1:((n:Int)==0)=false:=by simp;omega
  have hh1:ha=true→(n:Int)≤1:=fun h=>by rcases Nat.lt_or_ge 1 n with h1|h1;exact absurd ⟨h,h1⟩ hh;omega
  obtain⟨os,hko⟩:=H.out
  have HKO:=qD hko
  clear hko hh hn0
  cases ha
  all_goals
   first|have hh2:(n:Int)≤1:=hh1 rfl|skip
   clear hh1
   go_wp2_with fail
   go_loopw [29] (fun v wr=>∃i:Nat,i≤n∧v=.int .i64 i∧ks.any (·.d)=(ks.drop i).any (·.d)∧Below w.heap.size w wr) (fun v _=>n-(intOf v).toNat)
   case atStart=>exact⟨0,Nat.zero_le _,rfl,rfl,HB1.out⟩
   case round=>
    obtain⟨i,hi,rfl,hany,hbel⟩:=hrel
    have HA:=qD hany
    have HB:=qD hbel
    clear hany
    by_cases hlt:i<n
    ·obtain⟨b,off,x,hA,hb,hx,e0,e1⟩:=HKO.out.sr.at2 hlt
     obtain⟨q,hq⟩:∃q,ks[i]?=some q:=⟨_,List.getElem?_eq_getElem (by have:=hln.out;omega)⟩
     subst hA
     have HOR:=qD (HKO.out.el i x q hx hq)
     have HX:=qD (drop_of hq)
     have g0:=(hbel.cell (p:=⟨b,off+i*2,none⟩) hb).trans e0
     have g1:=(hbel.cell (p:=⟨b,off+i*2+1,none⟩) hb).trans e1
     have hb2:b<wr.heap.size:=by have:=hbel.size;omega
     obtain⟨xA,xn,xc,xd⟩:=x
     have hd:=HOR.out.d
     simp only at g0 g1 hd
     subst hd
     have HBA:=qD (HB.out.alloc HB.out.size (Obj.cells #[.slice xA xn xc,.bool q.d] 54))
     clear hx hq e0 e1 hbel
     cases hqd:q.d
     ·have HN:Hid (ks.any (·.d)=(ks.drop (i+1)).any (·.d)):=by rw[Hid,HA.out,HX.out,List.any_cons,hqd];rfl
      rw[hqd] at g1 HBA
      go_wp2_with fail
      go_roundw
      case rel=>exact⟨i+1,by omega,by go_num,HN.out,HBA.out⟩
      case measure=>simp[intOf];omega
     ·have HN:=qD (HF.out.trans (if_pos (by rw[HA.out,HX.out,List.any_cons,hqd];rfl)))
      rw[hqd] at g1 HBA
      go_wp2_with fail
      go_ret
      exact⟨by rw[HN.out];rfl,HBA.out⟩
    ·have HN:=qD (HF.out.trans (if_neg (by rw[HA.out,List.drop_of_length_le (by have:=hln.out;omega)];simp)))
     clear hbel
     go_wp2_with fail
     go_ret
     exact⟨by rw[HN.out];rfl,HB.out⟩
 ·have HF:Hid (keyE ks ha=ordE ks):=by unfold Hid keyE;rw[if_pos ho]
  have ho':(ordE ks != 0)=true:=by simpa using ho
  go_wp2_with fail
  go_ret
  exact⟨by rw[HF.out];rfl,HB1.out⟩
theorem sameP_comm:∀(l m:List ByteArray),sameP l m=sameP m l
 | [],[]=>rfl
 | [],_::_=>rfl
 | _::_,[]=>rfl
 | a::r,b::s=>by
  rw[sameP,sameP,sameP_comm r s]
  congr 1
  rw[Bool.eq_iff_iff,beq_iff_eq,beq_iff_eq]
  exact eq_comm
theorem rpath_any(l:List ByteArray)(A:Option Addr)(n c:Nat)(w:World)(h:ST w A n c l):
 Calls Tryz.prog 41 #[.slice A n c] w fun e w'=>e=.returned (.bool (pathB l))∧w'=w:=by
 have hz:n≤140737488355328:=by have:=h.sz;unfold reach at this;omega
 have H:=qD h
 have hn:=qD h.sr.ln
 clear h
 by_cases h1:n<1
 ·have HV:Hid (pathB l=false):=by unfold Hid pathB;rw[←hn.out,decide_eq_false (by omega)];rfl
  go_enter Tryz.func41,Tryz.ntmps41
  go_wp2_with fail
  go_ret
  exact⟨by rw[HV.out];rfl,rfl⟩
 by_cases h2:16<n
 ·have HV:Hid (pathB l=false):=by unfold Hid pathB;rw[←hn.out,decide_eq_true (by omega),decide_eq_false (by omega)];rfl
  go_enter Tryz.func41,Tryz.ntmps41
  go_wp2_with fail
  go_ret
  exact⟨by rw[HV.out];rfl,rfl⟩
 have HV:Hid (pathB l=(l.drop 0).all nameB):=by unfold Hid pathB;rw[←hn.out,decide_eq_true (by omega),decide_eq_true (by omega)];rfl
 go_enter Tryz.func41,Tryz.ntmps41
 go_wp2_with fail
 go_loopw [3] (fun v wr=>∃i:Nat,i≤n∧v=.int .i64 i∧pathB l=(l.drop i).all nameB∧wr=w) (fun v _=>n-(intOf v).toNat)
 case atStart=>exact⟨0,Nat.zero_le _,rfl,HV.out,rfl⟩
 case round=>
  obtain⟨i,hi,rfl,ha,rfl⟩:=hrel
  have HA:=qD ha
  clear ha
  by_cases hlt:i<n
  ·obtain⟨b,off,x,hA,hb,hx,e0⟩:=H.out.sr.at1 hlt
   subst hA
   have HX:=qD (drop_of hx)
   clear hx
   go_wp2_with fail
   refine(rname_any x _).mono ?_
   rintro e w1 ⟨rfl,rfl⟩
   cases hq:nameB x
   ·have HF:Hid (pathB l=false):=by rw[Hid,HA.out,HX.out,List.all_cons,hq];rfl
    go_wp2_with fail
    go_ret
    exact⟨by rw[HF.out];rfl,rfl⟩
   ·have HF:Hid (pathB l=(l.drop (i+1)).all nameB):=by rw[Hid,HA.out,HX.out,List.all_cons,hq];rfl
    go_wp2_with fail
    go_roundw
    case rel=>exact⟨i+1,by omega,by go_num,HF.out,trivial⟩
    case measure=>simp[intOf];omega
  ·have HF:Hid (pathB l=true):=by rw[Hid,HA.out,List.drop_of_length_le (by have:=hn.out;omega)];rfl
   go_wp2_with fail
   go_ret
   exact⟨by rw[HF.out];rfl,rfl⟩
theorem rsame12_any(l m:List ByteArray)(A B:Option Addr)(n c k d:Nat)(w:World)(h:ST w A n c l)(h':ST w B k d m):
 Calls Tryz.prog 42 #[.slice A n c,.slice B k d] w fun e w'=>e=.returned (.bool (sameP l m))∧Below w.heap.size w w':=by
 have hz:n≤140737488355328:=by have:=h.sz;unfold reach at this;omega
 have hk:k≤140737488355328:=by have:=h'.sz;unfold reach at this;omega
 have H:=qD h
 have H':=qD h'
 clear h h'
 by_cases hnk:n=k
 rotate_left
 ·have HF:Hid (sameP l m=false):=sameP_len (by have:=H.out.sr.ln;have:=H'.out.sr.ln;omega)
  have hnk':((n:Int) != (k:Int))=true:=by simp;omega
  go_enter Tryz.func42,Tryz.ntmps42
  go_wp2_with fail
  go_ret
  exact⟨by rw[HF.out];rfl,Below.refl _ _⟩
 subst hnk
 go_enter Tryz.func42,Tryz.ntmps42
 go_wp2_with fail
 go_loopw [5] (fun v wr=>∃i:Nat,i≤n∧v=.int .i64 i∧sameP l m=sameP (l.drop i) (m.drop i)∧Below w.heap.size w wr) (fun v _=>n-(intOf v).toNat)
 case atStart=>exact⟨0,Nat.zero_le _,rfl,rfl,Below.refl _ _⟩
 case round=>
  obtain⟨i,hi,rfl,ha,hbel⟩:=hrel
  have HA:=qD ha
  have HB:=qD hbel
  clear ha
  by_cases hlt:i<n
  ·obtain⟨b,off,x,hA,hb,hx,e0⟩:=H.out.sr.at1 hlt
   obtain⟨b',off',y,hA',hb',hy,f0⟩:=H'.out.sr.at1 hlt
   subst hA hA'
   have HX:=qD (sameP_at hx hy)
   have e1:=(hbel.cell (p:=⟨b,off+i,none⟩) hb).trans e0
   have f1:=(hbel.cell (p:=⟨b',off'+i,none⟩) hb').trans f0
   have X0:∀kk:BW wr,kk.val.cell? ⟨b,off+i,none⟩=some (.string x):=fun kk=>kk.cell e1
   have Y0:∀kk:BW wr,kk.val.cell? ⟨b',off'+i,none⟩=some (.string y):=fun kk=>kk.cell f1
   have i0:(0:Int)≤(i:Int):=by omega
   have i1:(i:Int)<(n:Int):=by omega
   clear hx hy e0 f0 hbel
   go_upto_region 6 with fail
   clear e1 f1
   refine wp_region_bw (by kernel_rfl) (by kernel_rfl) ?_
   repeat(go_big_quiet_step (fail))
   refine wpQuiet_nil ?_
   rintro _ ⟨kw,rfl⟩
   have HK:=qD kw.below
   generalize kw.val=w5 at*
   clear X0 Y0
   cases hq:(x.toList==y.toList)
   ·have HF:Hid (sameP l m=false):=by rw[Hid,HA.out,HX.out,hq];rfl
    go_wp2_with fail
    go_ret
    exact⟨by rw[HF.out];rfl,HB.out.step' HK.out⟩
   ·have HF:Hid (sameP l m=sameP (l.drop (i+1)) (m.drop (i+1))):=by rw[Hid,HA.out,HX.out,hq];rfl
    go_wp2_with fail
    go_roundw
    case rel=>exact⟨i+1,by omega,by go_num,HF.out,HB.out.step' HK.out⟩
    case measure=>simp[intOf];omega
  ·have HF:Hid (sameP l m=true):=by rw[Hid,HA.out];exact sameP_end (by have:=H.out.sr.ln;omega) (by have:=H'.out.sr.ln;omega)
   clear hbel
   go_wp2_with fail
   go_ret
   exact⟨by rw[HF.out];rfl,HB.out⟩
theorem rorder_any(ks:List Od)(A:Option Addr)(n c:Nat)(w:World)(h:KS w A n c ks):
 Calls Tryz.prog 14 #[.slice A n c] w fun e w'=>e=.returned (.int .i64 (ordE ks))∧Below w.heap.size w w':=by
 have hln:=qD h.ln
 obtain⟨os,h⟩:=h
 have hz:n≤140737488355328:=by have:=h.sz;unfold reach at this;omega
 have hc:=h.sr.lc
 have H:=qD h
 clear h
 by_cases h8:8<n
 ·have HV:Hid (ordE ks=2):=by unfold Hid ordE;rw[if_pos (by have:=hln.out;omega)]
  go_enter Tryz.func14,Tryz.ntmps14
  go_wp2_with fail
  go_ret
  exact⟨by rw[HV.out];rfl,Below.refl _ _⟩
 have HV:Hid (ordE ks=ordL (ks.take 0) (ks.drop 0)):=by unfold Hid ordE;rw[if_neg (by have:=hln.out;omega)];rfl
 go_enter Tryz.func14,Tryz.ntmps14
 go_wp2_with fail
 go_loopw [3] (fun v wr=>∃i:Nat,i≤n∧v=.int .i64 i∧ordE ks=ordL (ks.take i) (ks.drop i)∧Below w.heap.size w wr) (fun v _=>n-(intOf v).toNat)
 case atStart=>exact⟨0,Nat.zero_le _,rfl,HV.out,Below.refl _ _⟩
 case round=>
  obtain⟨i,hi,rfl,ha,hbel⟩:=hrel
  have HA:=qD ha
  have HB:=qD hbel
  clear ha
  by_cases hlt:i<n
  ·obtain⟨b,off,x,hA,hb,hx,e0,e1⟩:=H.out.sr.at2 hlt
   obtain⟨q,hq⟩:∃q,ks[i]?=some q:=⟨_,List.getElem?_eq_getElem (by have:=hln.out;omega)⟩
   subst hA
   have HOR:=qD (H.out.el i x q hx hq)
   have HX:=qD (ordL_at hq)
   have HE0:=qD e0
   have g0:=(hbel.cell (p:=⟨b,off+i*2,none⟩) hb).trans e0
   obtain⟨xA,xn,xc,xd⟩:=x
   clear hx hq e0 e1 hbel
   simp only at g0
   go_wp2_with fail
   refine(rpath_any q.p _ _ _ _ (HOR.out.st.step HB.out)).mono ?_
   rintro e w1 ⟨rfl,rfl⟩
   cases hp:pathB q.p
   ·have HF:Hid (ordE ks=10):=by rw[Hid,HA.out,HX.out,if_pos hp]
    go_wp2_with fail
    go_ret
    exact⟨by rw[HF.out];rfl,HB.out⟩
   have HY:Hid (ordL (ks.take i) (ks.drop i)=if(ks.take i).any (fun e=>sameP e.p q.p) then 12 else ordL (ks.take (i+1)) (ks.drop (i+1))):=by
    rw[Hid,HX.out,if_neg (by rw[hp];simp)]
   have hic:i≤c:=by omega
   clear HX hp g0
   go_wp2_with fail
   obtain⟨wo,hwo⟩:∃wo:World,wo=w1:=⟨_,rfl⟩
   rw[←hwo] at HB ⊢
   clear hwo
   go_loopw [4] (fun v wr=>∃j:Nat,j≤i∧v=.int .i64 j∧(ks.take i).any (fun e=>sameP e.p q.p)=((ks.take i).drop j).any (fun e=>sameP e.p q.p)∧Below w.heap.size w wr) (fun v _=>i-(intOf v).toNat)
   case atStart=>exact⟨0,Nat.zero_le _,rfl,rfl,HB.out⟩
   case round=>
    obtain⟨j,hj,rfl,hany,hbel2⟩:=hrel
    have HN:=qD hany
    have HB2:=qD hbel2
    clear hany
    by_cases hjl:j<i
    ·obtain⟨b2,off2,y,hA2,hbb,hy,e0,e1⟩:=H.out.sr.at2 (i:=j) (by omega)
     obtain⟨r,hr⟩:∃r,ks[j]?=some r:=⟨_,List.getElem?_eq_getElem (by have:=hln.out;omega)⟩
     injection hA2 with hA2
     injection hA2 with hb1 ho1
     subst hb1 ho1
     have HOR2:=qD (H.out.el j y r hy hr)
     have HY2:Hid (((ks.take i).drop j).any (fun e=>sameP e.p q.p)=(sameP r.p q.p||((ks.take i).drop (j+1)).any (fun e=>sameP e.p q.p))):=by
      rw[Hid,drop_of (show(ks.take i)[j]?=some r by rw[List.getElem?_take,if_pos hjl];exact hr)]
      rfl
     have g1:=(hbel2.cell (p:=⟨b,off+j*2,none⟩) hb).trans e0
     have g0:=(hbel2.cell (p:=⟨b,off+i*2,none⟩) hb).trans HE0.out
     obtain⟨yA,yn,yc,yd⟩:=y
     clear hy hr e0 e1 hbel2
     simp only at g0 g1
     have X0:∀kk:BW wr,kk.val.cell? ⟨b,off+i*2,none⟩=some (.slice xA xn xc):=fun kk=>kk.cell g0
     have Y0:∀kk:BW wr,kk.val.cell? ⟨b,off+j*2,none⟩=some (.slice yA yn yc):=fun kk=>kk.cell g1
     have K1:Hid (∀kk:BW wr,Calls Tryz.prog 42 #[.slice xA xn xc,.slice yA yn yc] kk.val fun e w''=>e=.returned (.bool (sameP r.p q.p))∧∃kk:BW wr,w''=kk.val):=fun kk=>
      Calls.bw (by rw[sameP_comm r.p q.p];exact rsame12_any q.p r.p _ _ _ _ _ _ _ (HOR.out.st.step (HB2.out.step' kk.below)) (HOR2.out.st.step (HB2.out.step' kk.below)))
     have i0:(0:Int)≤(i:Int):=by omega
     have i1:(i:Int)<(n:Int):=by omega
     have j0:(0:Int)≤(j:Int):=by omega
     have j1:(j:Int)<(n:Int):=by omega
     go_upto_region 11 with fail
     clear g0 g1
     refine wp_region_bw (by kernel_rfl) (by kernel_rfl) ?_
     repeat(go_big_quiet_step ((go_at_call 42;with_reducible exact K1.out _)))
     refine wpQuiet_nil ?_
     rintro _ ⟨kw,rfl⟩
     have HK:=qD kw.below
     generalize kw.val=w5 at*
     clear X0 Y0 K1
     cases hs:sameP r.p q.p
     ·have HF:Hid ((ks.take i).any (fun e=>sameP e.p q.p)=((ks.take i).drop (j+1)).any (fun e=>sameP e.p q.p)):=by rw[Hid,HN.out,HY2.out,hs];rfl
      go_wp2_with fail
      go_roundw
      case rel=>exact⟨j+1,by omega,by go_num,HF.out,HB2.out.step' HK.out⟩
      case measure=>simp[intOf];omega
     ·have HF:Hid (ordE ks=12):=by rw[Hid,HA.out,HY.out,if_pos (by rw[HN.out,HY2.out,hs];rfl)]
      go_wp2_with fail
      go_ret
      exact⟨by rw[HF.out];rfl,HB2.out.step' HK.out⟩
    ·have HF:Hid (ordE ks=ordL (ks.take (i+1)) (ks.drop (i+1))):=by
      rw[Hid,HA.out,HY.out,if_neg]
      rw[HN.out,List.drop_of_length_le (by simp;omega)]
      simp
     clear hbel2
     go_wp2_with fail
     go_roundw
     case rel=>exact⟨i+1,by omega,by go_num,HF.out,HB2.out⟩
     case measure=>simp[intOf];omega
  ·have HF:Hid (ordE ks=0):=by rw[Hid,HA.out];exact ordL_end (by have:=hln.out;omega)
   clear hbel
   go_wp2_with fail
   go_ret
   exact⟨by rw[HF.out];rfl,HB.out⟩
theorem rshardkey_any(ks:List Od)(ha:Bool)(A:Option Addr)(n c:Nat)(w:World)(h:KS w A n c ks):
 Calls Tryz.prog 6 #[.agg #[.slice A n c,.bool ha]] w fun e w'=>e=.returned (.int .i64 (keyE ks ha))∧Below w.heap.size w w':=by
 have hln:=qD h.ln
 have hz:n≤140737488355328:=by obtain⟨os,h⟩:=h;have:=h.sz;unfold reach at this;omega
 have H:=qD h
 clear h
 have HB0:Hid (Blk (w.alloc (.cells #[.slice A n c,.bool ha] 24)) w.heap.size 24 #[.slice A n c,.bool ha]):=Blk.new_at rfl
 have HZ:=qD ((Below.refl w.heap.size w).alloc (qL) (Obj.cells #[.slice A n c,.bool ha] 24))
 go_enter Tryz.func6,Tryz.ntmps6
 go_wp2_with fail
 refine(rorder_any ks _ _ _ _ (H.out.step HZ.out)).mono ?_
 rintro e w1 ⟨rfl,hb⟩
 have HB1:=qD (HZ.out.step' hb)
 have k0:=(HB0.out.step hb).cell 0
 have k1:=(HB0.out.step hb).cell 1
 simp at k0 k1
 have HBk:=qD (HB0.out.step hb)
 clear hb
 by_cases ho:ordE ks=0
 ·have HO:Hid (keyE ks ha=if ks.length=0∨(ha=true∧1<ks.length) then 11 else if ks.any (·.d) then 11 else 0):=by unfold Hid keyE;rw[if_neg (by simp[ho])]
  rw[ho]
  by_cases hn0:n=0
  ·have HF:Hid (keyE ks ha=11):=by rw[Hid,HO.out,if_pos (.inl (by have:=hln.out;omega))]
   subst hn0
   go_wp2_with fail
   go_ret
   exact⟨by rw[HF.out];rfl,HB1.out⟩
  by_cases hh:ha=true∧1<n
  ·have HF:Hid (keyE ks ha=11):=by rw[Hid,HO.out,if_pos (.inr ⟨hh.1,by have:=hln.out;omega⟩)]
   obtain⟨rfl,h1⟩:=hh
   go_wp2_with fail
   go_ret
   exact⟨by rw[HF.out];rfl,HB1.out⟩
  have HF:Hid (keyE ks ha=if ks.any (·.d) then 11 else 0):=by rw[Hid,HO.out,if_neg (by have:=hln.out;rintro(h|⟨h,h'⟩);omega;exact hh ⟨h,by omega⟩)]
  have hn1:((n:Int)==0)=false:=by simp;omega
  have hh1:ha=true→(n:Int)≤1:=fun h=>by rcases Nat.lt_or_ge 1 n with h1|h1;exact absurd ⟨h,h1⟩ hh;omega
  obtain⟨os,hko⟩:=H.out
  have HKO:=qD hko
  clear hko hh hn0
  cases ha
  all_goals
   first|have hh2:(n:Int)≤1:=hh1 rfl|skip
   clear hh1
   go_wp2_with fail
   clear k0 k1
   go_loopw [4] (fun v wr=>∃i:Nat,i≤n∧v=.int .i64 i∧ks.any (·.d)=(ks.drop i).any (·.d)∧Below w1.heap.size w1 wr) (fun v _=>n-(intOf v).toNat)
   case atStart=>exact⟨0,Nat.zero_le _,rfl,rfl,Below.refl _ _⟩
   case round=>
    obtain⟨i,hi,rfl,hany,hbel⟩:=hrel
    have HA:=qD hany
    have HB:=qD hbel
    have k0:=(HBk.out.step hbel).cell 0
    simp at k0
    clear hany
    by_cases hlt:i<n
    ·obtain⟨b,off,x,hA,hb,hx,e0,e1⟩:=HKO.out.sr.at2 hlt
     obtain⟨q,hq⟩:∃q,ks[i]?=some q:=⟨_,List.getElem?_eq_getElem (by have:=hln.out;omega)⟩
     subst hA
     have HOR:=qD (HKO.out.el i x q hx hq)
     have HX:=qD (drop_of hq)
     have g1:=((HB1.out.step' hbel).cell (p:=⟨b,off+i*2+1,none⟩) hb).trans e1
     obtain⟨xA,xn,xc,xd⟩:=x
     have hd:=HOR.out.d
     simp only at g1 hd
     subst hd
     clear hx hq e0 e1 hbel
     cases hqd:q.d
     ·have HN:Hid (ks.any (·.d)=(ks.drop (i+1)).any (·.d)):=by rw[Hid,HA.out,HX.out,List.any_cons,hqd];rfl
      rw[hqd] at g1
      go_wp2_with fail
      go_roundw
      case rel=>exact⟨i+1,by omega,by go_num,HN.out,HB.out⟩
      case measure=>simp[intOf];omega
     ·have HN:=qD (HF.out.trans (if_pos (by rw[HA.out,HX.out,List.any_cons,hqd];rfl)))
      rw[hqd] at g1
      go_wp2_with fail
      go_ret
      exact⟨by rw[HN.out];rfl,HB1.out.step' HB.out⟩
    ·have HN:=qD (HF.out.trans (if_neg (by rw[HA.out,List.drop_of_length_le (by have:=hln.out;omega)];simp)))
     clear hbel
     go_wp2_with fail
     go_ret
     exact⟨by rw[HN.out];rfl,HB1.out.step' HB.out⟩
 ·have HF:Hid (keyE ks ha=ordE ks):=by unfold Hid keyE;rw[if_pos ho]
  have ho':(ordE ks != 0)=true:=by simpa using ho
  go_wp2_with fail
  go_ret
  exact⟨by rw[HF.out];rfl,HB1.out⟩
end Go.Proofs.YtfkapannahcjiaaGreatDoor
