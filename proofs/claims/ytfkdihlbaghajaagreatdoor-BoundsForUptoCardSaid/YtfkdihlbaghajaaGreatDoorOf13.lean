/- Parts of the proof, joined: ValWide, ValSame, ValRefFields, ValParts, ValCount. -/
import Derived.Test.YtfkdihlbaghajaaGreatDoorOf1
import Derived.Test.YtfkdihlbaghajaaGreatDoorOf6
import Derived.Test.YtfkdihlbaghajaaGreatDoorOf2
import Derived.Test.YtfkdihlbaghajaaGreatDoorOf3
import Derived.Laws.Strings
import Derived.WideShapes
set_option maxRecDepth 100000
set_option maxHeartbeats 16000000
set_option linter.unusedSimpArgs false
namespace Go.Proofs.YtfkdihlbaghajaaGreatDoor
open Go.RowKit
theorem rwide_any(s:ByteArray)(w:World):Calls Tryz.prog 184 #[.string s] w fun e w'=>e=.returned (.bool (wideB s))∧w'=w:=by
 by_cases h1:s.size<1
 ·have HV:Hid (wideB s=false):=by unfold Hid wideB;rw[decide_eq_false (by omega)];rfl
  go_enter Tryz.func184,Tryz.ntmps184
  go_wp2_with fail
  go_ret
  exact⟨by rw[HV.out];rfl,rfl⟩
 by_cases h2:128<s.size
 ·have HV:Hid (wideB s=false):=by unfold Hid wideB;rw[decide_eq_true (by omega),decide_eq_false (by omega)];rfl
  go_enter Tryz.func184,Tryz.ntmps184
  go_wp2_with fail
  go_ret
  exact⟨by rw[HV.out];rfl,rfl⟩
 have HA:Hid (wideB s=s.data.toList.all okW):=by
  unfold Hid wideB
  rw[decide_eq_true (by omega),decide_eq_true (by omega)]
  simp
 go_enter Tryz.func184,Tryz.ntmps184
 go_wp2_with fail
 go_loopw [3] (fun v wr=>∃i:Nat,i≤s.size∧v=.int .i64 i∧(s.data.toList.take i).all okW=true∧wr=w) (fun v _=>s.size-(intOf v).toNat)
 case atStart=>exact⟨0,Nat.zero_le _,rfl,all_zero,rfl⟩
 case round=>
  obtain⟨i,hi,rfl,ha,rfl⟩:=hrel
  have HL:=qD ha
  clear ha
  by_cases hlt:i<s.size
  ·have hx:=s[i].toNat_lt
   by_cases hb:(s[i].toNat:Int)<32
   ·have HV:Hid (wideB s=false):=by rw[Hid,HA.out];exact all_not hlt (by unfold okW;rw[decide_eq_false (by omega)];rfl)
    go_wp2_with fail
    go_ret
    exact⟨by rw[HV.out];rfl,rfl⟩
   by_cases hc:126<(s[i].toNat:Int)
   ·have HV:Hid (wideB s=false):=by rw[Hid,HA.out];exact all_not hlt (by unfold okW;rw[decide_eq_true (by omega),decide_eq_false (by omega)];rfl)
    go_wp2_with fail
    go_ret
    exact⟨by rw[HV.out];rfl,rfl⟩
   have HN:Hid ((s.data.toList.take (i+1)).all okW=true):=all_next hlt HL.out (by unfold okW;rw[decide_eq_true (by omega),decide_eq_true (by omega)];rfl)
   go_wp2_with fail
   go_roundw
   case rel=>exact⟨i+1,by omega,by go_num,HN.out,trivial⟩
   case measure=>simp[intOf];omega
  ·have HV:Hid (wideB s=true):=by rw[Hid,HA.out];exact all_end (by omega) HL.out
   go_wp2_with fail
   go_ret
   exact⟨by rw[HV.out];rfl,rfl⟩
noncomputable def sameV(x y:Val):Bool:=@decide (x=y) (Classical.propDecidable _)
theorem sameV_true{x y:Val}(h:x=y):sameV x y=true:=by unfold sameV;exact @decide_eq_true _ (Classical.propDecidable _) h
theorem sameV_false{x y:Val}(h:x≠y):sameV x y=false:=by unfold sameV;exact @decide_eq_false _ (Classical.propDecidable _) h
theorem sameV_eq{x y:Val}(h:sameV x y=true):x=y:=by unfold sameV at h;exact @of_decide_eq_true _ (Classical.propDecidable _) h
theorem sameV_ne{x y:Val}(h:sameV x y=false):x≠y:=by unfold sameV at h;exact @of_decide_eq_false _ (Classical.propDecidable _) h
theorem Val.ext'{x y:Val}(h1:x.k=y.k)(h2:x.n=y.n)(h3:x.t=y.t)(h4:x.l=y.l)(h5:x.d=y.d):x=y:=by
 cases x;cases y
 simp only[Val.k,Val.n,Val.t,Val.l,Val.d] at*
 subst h1 h2 h3 h4 h5
 rfl
theorem Fld.ext'{x y:Fld}(h1:x.s=y.s)(h2:x.v=y.v):x=y:=by
 cases x;cases y
 simp only[Fld.s,Fld.v] at*
 subst h1 h2
 rfl
theorem bytes_eq{a b:ByteArray}:a.toList=b.toList↔a=b:=by
 constructor
 ·intro h
  rw[Go.ByteArray.toList_eq,Go.ByteArray.toList_eq] at h
  exact Go.WideShapes.bytes_inj h
 ·rintro rfl;rfl
theorem take_eq_next{α:Type}{l m:List α}{i:Nat}{x y:α}(h:l.take i=m.take i)(hx:l[i]?=some x)(hy:m[i]?=some y)(e:x=y):l.take (i+1)=m.take (i+1):=by
 rw[take_snoc' hx,take_snoc' hy,h,e]
theorem ne_of_at{α:Type}{l m:List α}{i:Nat}{x y:α}(hx:l[i]?=some x)(hy:m[i]?=some y)(e:x≠y):l≠m:=by
 rintro rfl
 rw[hx] at hy
 exact e (by simpa using hy)
def RSameAt(x:Val):Prop:=∀(y:Val) (c d:VC) (w:World),RW w c x→RW w d y→
 Calls Tryz.prog 117 #[c.val,d.val] w fun e w'=>e=.returned (.bool (sameV x y))∧Below w.heap.size w w'
theorem rsame_any:∀x,RSameAt x:=by
 intro x
 induction x using Val.ind with
 | h k n t l d ihl ihd=>
 intro y c e w hx hy
 obtain⟨ck,cn,ct,cLA,cln,clc,cDA,cdn,cdc⟩:=c
 obtain⟨ek,en,et,eLA,eln,elc,eDA,edn,edc⟩:=e
 have hk:ck=k:=hx.open.k
 have hn:cn=n:=hx.open.n
 have ht:ct=t:=hx.open.t
 subst hk hn ht
 have hk2:ek=y.k:=hy.open.k
 have hn2:en=y.n:=hy.open.n
 have ht2:et=y.t:=hy.open.t
 have hl1:cln=l.length:=hx.open.ln
 have hl2:eln=y.l.length:=hy.open.ln
 have hd1:cdn=d.length:=hx.open.dn
 have hd2:edn=y.d.length:=hy.open.dn
 have I0:Hid (CpInv w ⟨ck,cn,ct,cLA,cln,clc,cDA,cdn,cdc⟩ ⟨ek,en,et,eLA,eln,elc,eDA,edn,edc⟩ ((w.alloc (.cells #[.int .i64 ck,.int .i64 cn,.string ct,.slice cLA cln clc,.slice cDA cdn cdc] 32)).alloc (.cells #[.int .i64 ek,.int .i64 en,.string et,.slice eLA eln elc,.slice eDA edn edc] 32))):=
  qD ⟨(Blk.new_at rfl).alloc _,Blk.new_at (by simp),((Below.refl _ _).alloc (qL) _).alloc (by simp) _⟩
 cases h1:(ck != ek)
 rotate_left
 ·have HV:Hid (sameV (.mk ck cn ct l d) y=false):=sameV_false (by rintro rfl;simp[hk2,Val.k] at h1)
  clear hx hy ihl ihd hk2 hn2 ht2 hl1 hl2 hd1 hd2
  go_enter Tryz.func117,Tryz.ntmps117
  go_wp2_with fail
  go_ret
  exact⟨by rw[HV.out];rfl,I0.out.bel⟩
 cases h2:(cn != en)
 rotate_left
 ·have HV:Hid (sameV (.mk ck cn ct l d) y=false):=sameV_false (by rintro rfl;simp[hn2,Val.n] at h2)
  clear hx hy ihl ihd hk2 hn2 ht2 hl1 hl2 hd1 hd2
  go_enter Tryz.func117,Tryz.ntmps117
  go_wp2_with fail
  go_ret
  exact⟨by rw[HV.out];rfl,I0.out.bel⟩
 cases h3:(ct.toList==et.toList)
 ·have HV:Hid (sameV (.mk ck cn ct l d) y=false):=sameV_false (by rintro rfl;simp[ht2,Val.t] at h3)
  clear hx hy ihl ihd hk2 hn2 ht2 hl1 hl2 hd1 hd2
  go_enter Tryz.func117,Tryz.ntmps117
  go_wp2_with fail
  go_ret
  exact⟨by rw[HV.out];rfl,I0.out.bel⟩
 cases h4:((cln:Int) != (eln:Int))
 rotate_left
 ·have HV:Hid (sameV (.mk ck cn ct l d) y=false):=sameV_false (by rintro rfl;simp[hl1,hl2,Val.l] at h4)
  clear hx hy ihl ihd hk2 hn2 ht2 hl1 hl2 hd1 hd2
  go_enter Tryz.func117,Tryz.ntmps117
  go_wp2_with fail
  go_ret
  exact⟨by rw[HV.out];rfl,I0.out.bel⟩
 cases h5:((cdn:Int) != (edn:Int))
 rotate_left
 ·have HV:Hid (sameV (.mk ck cn ct l d) y=false):=sameV_false (by rintro rfl;simp[hd1,hd2,Val.d] at h5)
  clear hx hy ihl ihd hk2 hn2 ht2 hl1 hl2 hd1 hd2
  go_enter Tryz.func117,Tryz.ntmps117
  go_wp2_with fail
  go_ret
  exact⟨by rw[HV.out];rfl,I0.out.bel⟩
 have e1:ck=ek:=by simpa using h1
 have e2:cn=en:=by simpa using h2
 have e3:ct=et:=bytes_eq.1 (by simpa using h3)
 have e4:cln=eln:=by simp at h4;omega
 have e5:cdn=edn:=by simp at h5;omega
 subst e1 e2 e3 e4 e5
 have HV:Hid (l=y.l→d=y.d→sameV (.mk ck cn ct l d) y=true):=fun a b=>sameV_true (Val.ext' hk2 hn2 ht2 a b)
 have HV1:Hid (l≠y.l→sameV (.mk ck cn ct l d) y=false):=fun a=>sameV_false (by rintro rfl;exact a rfl)
 have HV2:Hid (d≠y.d→sameV (.mk ck cn ct l d) y=false):=fun a=>sameV_false (by rintro rfl;exact a rfl)
 obtain⟨ps,hps,hsl⟩:=hx.sl
 obtain⟨qs,hqs,hql⟩:=hy.sl
 obtain⟨fs,hfs,hfl⟩:=hx.sd
 obtain⟨gs,hgs,hgl⟩:=hy.sd
 simp only at hsl hql hfl hgl
 have hz1:=hsl.sz
 have hz2:=hfl.sz
 unfold reach at hz1 hz2
 have P1:=qD hsl
 have P2:=qD hql
 have Q1:=qD hfl
 have Q2:=qD hgl
 have HN1:=qD hl1
 have HN2:=qD hl2
 have HM1:=qD hd1
 have HM2:=qD hd2
 have HS1:Hid (ps.map Prod.snd=l):=hps
 have HS2:Hid (qs.map Prod.snd=y.l):=hqs
 have HT1:Hid (fs.map Prod.snd=d):=hfs
 have HT2:Hid (gs.map Prod.snd=y.d):=hgs
 have IH:=qD ihl
 have ID:=qD ihd
 clear hx hy ihl ihd hk2 hn2 ht2 hsl hql hps hqs hfl hgl hfs hgs hl1 hl2 hd1 hd2 h1 h2 h3 h4 h5
 go_enter Tryz.func117,Tryz.ntmps117
 go_wp2_with fail
 go_loopw [5] (fun v5 wr=>∃i:Nat,i≤cln∧v5=.int .i64 i∧l.take i=y.l.take i∧CpInv w ⟨ck,cn,ct,cLA,cln,clc,cDA,cdn,cdc⟩ ⟨ck,cn,ct,eLA,cln,elc,eDA,cdn,edc⟩ wr) (fun v5 _=>cln-(intOf v5).toNat)
 case atStart=>exact⟨0,Nat.zero_le _,rfl,rfl,I0.out⟩
 case round=>
  obtain⟨i,hi1,rfl,hq,I⟩:=hrel
  have HQ:=qD hq
  have J:=qD I
  have q0:=I.b0.cell 3
  have q1:=I.b1.cell 3
  simp at q0 q1
  clear hq
  by_cases hlt:i<cln
  ·obtain⟨p,hp⟩:∃p,ps[i]?=some p:=⟨_,List.getElem?_eq_getElem (by have:=P1.out.sr.ln;omega)⟩
   obtain⟨q,hq⟩:∃q,qs[i]?=some q:=⟨_,List.getElem?_eq_getElem (by have:=P2.out.sr.ln;omega)⟩
   obtain⟨b1,o1,rfl,_,hu1,hr1⟩:=P1.out.vat hp
   obtain⟨b2,o2,rfl,_,hu2,hr2⟩:=P2.out.vat hq
   have g1:l[i]?=some p.2:=by rw[←HS1.out,List.getElem?_map,hp];rfl
   have g2:y.l[i]?=some q.2:=by rw[←HS2.out,List.getElem?_map,hq];rfl
   have HA:Hid (sameV p.2 q.2=true→l.take (i+1)=y.l.take (i+1)):=fun h=>take_eq_next HQ.out g1 g2 (sameV_eq h)
   have HB:Hid (sameV p.2 q.2=false→l≠y.l):=fun h=>ne_of_at g1 g2 (sameV_ne h)
   obtain⟨y0,y1,y2,y3,y4⟩:=hu1.keep (I.bel.block b1 hu1.lt)
   obtain⟨z0,z1,z2,z3,z4⟩:=hu2.keep (I.bel.block b2 hu2.lt)
   have E0:∀k:BW wr,k.val.cell? ⟨w.heap.size,3,none⟩=some (.slice (some ⟨b1,o1,none⟩) cln clc):=fun k=>k.cell (J.out.b0.cell 3)
   have E1:∀k:BW wr,k.val.cell? ⟨w.heap.size+1,3,none⟩=some (.slice (some ⟨b2,o2,none⟩) cln elc):=fun k=>k.cell (J.out.b1.cell 3)
   have Y0:∀k:BW wr,k.val.cell? ⟨b1,o1+i*5,none⟩=some (.int .i64 p.1.k):=fun k=>k.cell y0
   have Y1:∀k:BW wr,k.val.cell? ⟨b1,o1+i*5+1,none⟩=some (.int .i64 p.1.n):=fun k=>k.cell y1
   have Y2:∀k:BW wr,k.val.cell? ⟨b1,o1+i*5+2,none⟩=some (.string p.1.t):=fun k=>k.cell y2
   have Y3:∀k:BW wr,k.val.cell? ⟨b1,o1+i*5+3,none⟩=some (.slice p.1.LA p.1.ln p.1.lc):=fun k=>k.cell y3
   have Y4:∀k:BW wr,k.val.cell? ⟨b1,o1+i*5+4,none⟩=some (.slice p.1.DA p.1.dn p.1.dc):=fun k=>k.cell y4
   have Z0:∀k:BW wr,k.val.cell? ⟨b2,o2+i*5,none⟩=some (.int .i64 q.1.k):=fun k=>k.cell z0
   have Z1:∀k:BW wr,k.val.cell? ⟨b2,o2+i*5+1,none⟩=some (.int .i64 q.1.n):=fun k=>k.cell z1
   have Z2:∀k:BW wr,k.val.cell? ⟨b2,o2+i*5+2,none⟩=some (.string q.1.t):=fun k=>k.cell z2
   have Z3:∀k:BW wr,k.val.cell? ⟨b2,o2+i*5+3,none⟩=some (.slice q.1.LA q.1.ln q.1.lc):=fun k=>k.cell z3
   have Z4:∀k:BW wr,k.val.cell? ⟨b2,o2+i*5+4,none⟩=some (.slice q.1.DA q.1.dn q.1.dc):=fun k=>k.cell z4
   have K0:Hid (∀k:BW wr,Calls Tryz.prog 117 #[p.1.val,q.1.val] k.val fun e w''=>e=.returned (.bool (sameV p.2 q.2))∧∃k:BW wr,w''=k.val):=fun k=>
    Calls.bw (IH.out p.2 (List.mem_of_getElem? g1) q.2 p.1 q.1 k.val ((hr1.step I.bel).step k.below) ((hr2.step I.bel).step k.below))
   have hi0:(0:Int)≤(i:Int):=by omega
   have hi3:(i:Int)<(cln:Int):=by omega
   clear hp hq hu1 hu2 hr1 hr2 g1 g2 y0 y1 y2 y3 y4 z0 z1 z2 z3 z4 I
   cases hs:sameV p.2 q.2
   ·rw[hs] at K0
    go_upto_region 6 with fail
    refine wp_region_bw (by kernel_rfl) (by kernel_rfl) ?_
    repeat(go_big_quiet_step (with_reducible exact K0.out _))
    refine wpQuiet_nil ?_
    rintro _ ⟨kw,rfl⟩
    have J2:=qD (J.out.step kw.below)
    clear E0 E1 Y0 Y1 Y2 Y3 Y4 Z0 Z1 Z2 Z3 Z4 K0 hi0 hi3 q0 q1
    generalize kw.val=w2 at*
    go_wp2_with fail
    go_ret
    exact⟨by rw[HV1.out (HB.out hs)];rfl,J2.out.bel⟩
   ·rw[hs] at K0
    go_upto_region 6 with fail
    refine wp_region_bw (by kernel_rfl) (by kernel_rfl) ?_
    repeat(go_big_quiet_step (with_reducible exact K0.out _))
    refine wpQuiet_nil ?_
    rintro _ ⟨kw,rfl⟩
    have J2:=qD (J.out.step kw.below)
    clear E0 E1 Y0 Y1 Y2 Y3 Y4 Z0 Z1 Z2 Z3 Z4 K0 hi0 hi3 q0 q1
    generalize kw.val=w2 at*
    go_wp2_with fail
    go_roundw
    case rel=>exact⟨i+1,by omega,by go_num,HA.out hs,J2.out⟩
    case measure=>simp[intOf];omega
  ·have HE:Hid (l=y.l):=by
    have:=HQ.out
    rw[List.take_of_length_le (by have:=HN1.out;omega),List.take_of_length_le (by have:=HN2.out;omega)] at this
    exact this
   clear I
   go_wp2_with fail
   go_loopw [6] (fun v6 wr=>∃i:Nat,i≤cdn∧v6=.int .i64 i∧d.take i=y.d.take i∧CpInv w ⟨ck,cn,ct,cLA,cln,clc,cDA,cdn,cdc⟩ ⟨ck,cn,ct,eLA,cln,elc,eDA,cdn,edc⟩ wr) (fun v6 _=>cdn-(intOf v6).toNat)
   case atStart=>exact⟨0,Nat.zero_le _,rfl,rfl,J.out⟩
   case round=>
    clear q0 q1 J HQ hlt
    obtain⟨i,hi1,rfl,hq,I⟩:=hrel
    have HQ:=qD hq
    have J:=qD I
    have q0:=I.b0.cell 4
    have q1:=I.b1.cell 4
    simp at q0 q1
    clear hq
    by_cases hlt:i<cdn
    ·obtain⟨p,hp⟩:∃p,fs[i]?=some p:=⟨_,List.getElem?_eq_getElem (by have:=Q1.out.sr.ln;omega)⟩
     obtain⟨q,hq⟩:∃q,gs[i]?=some q:=⟨_,List.getElem?_eq_getElem (by have:=Q2.out.sr.ln;omega)⟩
     obtain⟨b1,o1,rfl,_,hs1,hu1,hr1⟩:=Q1.out.vat hp
     obtain⟨b2,o2,rfl,_,hs2,hu2,hr2⟩:=Q2.out.vat hq
     have g1:d[i]?=some p.2:=by rw[←HT1.out,List.getElem?_map,hp];rfl
     have g2:y.d[i]?=some q.2:=by rw[←HT2.out,List.getElem?_map,hq];rfl
     have HA:Hid (p.2=q.2→d.take (i+1)=y.d.take (i+1)):=fun h=>take_eq_next HQ.out g1 g2 h
     have HB:Hid (p.2≠q.2→d≠y.d):=fun h=>ne_of_at g1 g2 h
     obtain⟨y0,y1,y2,y3,y4⟩:=hu1.keep (I.bel.block b1 hu1.lt)
     obtain⟨z0,z1,z2,z3,z4⟩:=hu2.keep (I.bel.block b2 hu2.lt)
     have n0:=(I.bel.cell (p:=⟨b1,o1+i*6,none⟩) hu1.lt).trans hs1
     have n1:=(I.bel.cell (p:=⟨b2,o2+i*6,none⟩) hu2.lt).trans hs2
     have N0:∀k:BW wr,k.val.cell? ⟨b1,o1+i*6,none⟩=some (.string p.2.s):=fun k=>k.cell n0
     have N1:∀k:BW wr,k.val.cell? ⟨b2,o2+i*6,none⟩=some (.string q.2.s):=fun k=>k.cell n1
     have E0:∀k:BW wr,k.val.cell? ⟨w.heap.size,4,none⟩=some (.slice (some ⟨b1,o1,none⟩) cdn cdc):=fun k=>k.cell (J.out.b0.cell 4)
     have E1:∀k:BW wr,k.val.cell? ⟨w.heap.size+1,4,none⟩=some (.slice (some ⟨b2,o2,none⟩) cdn edc):=fun k=>k.cell (J.out.b1.cell 4)
     have Y0:∀k:BW wr,k.val.cell? ⟨b1,o1+i*6+1,none⟩=some (.int .i64 p.1.k):=fun k=>k.cell y0
     have Y1:∀k:BW wr,k.val.cell? ⟨b1,o1+i*6+1+1,none⟩=some (.int .i64 p.1.n):=fun k=>k.cell y1
     have Y2:∀k:BW wr,k.val.cell? ⟨b1,o1+i*6+1+2,none⟩=some (.string p.1.t):=fun k=>k.cell y2
     have Y3:∀k:BW wr,k.val.cell? ⟨b1,o1+i*6+1+3,none⟩=some (.slice p.1.LA p.1.ln p.1.lc):=fun k=>k.cell y3
     have Y4:∀k:BW wr,k.val.cell? ⟨b1,o1+i*6+1+4,none⟩=some (.slice p.1.DA p.1.dn p.1.dc):=fun k=>k.cell y4
     have Z0:∀k:BW wr,k.val.cell? ⟨b2,o2+i*6+1,none⟩=some (.int .i64 q.1.k):=fun k=>k.cell z0
     have Z1:∀k:BW wr,k.val.cell? ⟨b2,o2+i*6+1+1,none⟩=some (.int .i64 q.1.n):=fun k=>k.cell z1
     have Z2:∀k:BW wr,k.val.cell? ⟨b2,o2+i*6+1+2,none⟩=some (.string q.1.t):=fun k=>k.cell z2
     have Z3:∀k:BW wr,k.val.cell? ⟨b2,o2+i*6+1+3,none⟩=some (.slice q.1.LA q.1.ln q.1.lc):=fun k=>k.cell z3
     have Z4:∀k:BW wr,k.val.cell? ⟨b2,o2+i*6+1+4,none⟩=some (.slice q.1.DA q.1.dn q.1.dc):=fun k=>k.cell z4
     have K0:Hid (∀k:BW wr,Calls Tryz.prog 117 #[p.1.val,q.1.val] k.val fun e w''=>e=.returned (.bool (sameV p.2.v q.2.v))∧∃k:BW wr,w''=k.val):=fun k=>
      Calls.bw (ID.out p.2 (List.mem_of_getElem? g1) q.2.v p.1 q.1 k.val ((hr1.step I.bel).step k.below) ((hr2.step I.bel).step k.below))
     have hi0:(0:Int)≤(i:Int):=by omega
     have hi3:(i:Int)<(cdn:Int):=by omega
     clear hp hq hu1 hu2 hr1 hr2 g1 g2 y0 y1 y2 y3 y4 z0 z1 z2 z3 z4 I hs1 hs2 n0 n1
     cases hn:(p.2.s.toList==q.2.s.toList)
     rotate_left
     ·cases hs:sameV p.2.v q.2.v
      ·rw[hs] at K0
       go_upto_region 11 with fail
       refine wp_region_bw (by kernel_rfl) (by kernel_rfl) ?_
       repeat(go_big_quiet_step (with_reducible exact K0.out _))
       refine wpQuiet_nil ?_
       rintro _ ⟨kw,rfl⟩
       have J2:=qD (J.out.step kw.below)
       clear E0 E1 Y0 Y1 Y2 Y3 Y4 Z0 Z1 Z2 Z3 Z4 N0 N1 K0 hi0 hi3 q0 q1
       generalize kw.val=w2 at*
       go_wp2_with fail
       go_ret
       exact⟨by rw[HV2.out (HB.out (fun h=>sameV_ne hs (by rw[h])))];rfl,J2.out.bel⟩
      ·rw[hs] at K0
       have HF:Hid (p.2=q.2):=Fld.ext' (bytes_eq.1 (by simpa using hn)) (sameV_eq hs)
       go_upto_region 11 with fail
       refine wp_region_bw (by kernel_rfl) (by kernel_rfl) ?_
       repeat(go_big_quiet_step (with_reducible exact K0.out _))
       refine wpQuiet_nil ?_
       rintro _ ⟨kw,rfl⟩
       have J2:=qD (J.out.step kw.below)
       clear E0 E1 Y0 Y1 Y2 Y3 Y4 Z0 Z1 Z2 Z3 Z4 N0 N1 K0 hi0 hi3 q0 q1
       generalize kw.val=w2 at*
       go_wp2_with fail
       go_roundw
       case rel=>exact⟨i+1,by omega,by go_num,HA.out HF.out,J2.out⟩
       case measure=>simp[intOf];omega
     ·have HF:Hid (p.2≠q.2):=fun h=>by rw[h] at hn;simp at hn
      go_upto_region 11 with fail
      refine wp_region_bw (by kernel_rfl) (by kernel_rfl) ?_
      repeat(go_big_quiet_step (with_reducible exact K0.out _))
      refine wpQuiet_nil ?_
      rintro _ ⟨kw,rfl⟩
      have J2:=qD (J.out.step kw.below)
      clear E0 E1 Y0 Y1 Y2 Y3 Y4 Z0 Z1 Z2 Z3 Z4 N0 N1 K0 hi0 hi3 q0 q1
      generalize kw.val=w2 at*
      go_wp2_with fail
      go_ret
      exact⟨by rw[HV2.out (HB.out HF.out)];rfl,J2.out.bel⟩
    ·have HD:Hid (d=y.d):=by
      have:=HQ.out
      rw[List.take_of_length_le (by have:=HM1.out;omega),List.take_of_length_le (by have:=HM2.out;omega)] at this
      exact this
     clear I
     go_wp2_with fail
     go_ret
     exact⟨by rw[HV.out HE.out HD.out];rfl,J.out.bel⟩
def nmOf(names:Bool):ByteArray→Bool:=if names then nameB else wideB
def RFormedAt(x:Val):Prop:=∀(names:Bool) (c:VC) (w:World),RW w c x→
 Calls Tryz.prog 70 #[c.val,.bool names] w fun e w'=>e=.returned (.bool (soundB (nmOf names) x))∧Below w.heap.size w w'
theorem not_mem_take{d:List Fld}{i:Nat}{s:ByteArray}(h:∀j g,j<i→d[j]?=some g→g.s≠s):s∉(d.take i).map Fld.s:=by
 intro hm
 obtain⟨g,hg,rfl⟩:=List.mem_map.1 hm
 obtain⟨j,hj⟩:=List.getElem?_of_mem hg
 have hlt:j<i:=by
  have:=(List.getElem?_eq_some_iff.1 hj).1
  simp at this
  omega
 rw[List.getElem?_take,if_pos hlt] at hj
 exact h j g hlt hj rfl
theorem mem_take{d:List Fld}{i j:Nat}{g:Fld}(hj:j<i)(h:d[j]?=some g):g.s∈(d.take i).map Fld.s:=
 List.mem_map_of_mem (List.mem_of_getElem? (i:=j) (by rw[List.getElem?_take,if_pos hj];exact h))
structure RfI(w:World)(c:VC)(g:Nat)(s:ByteArray)(wr:World):Prop where
 b0:Blk wr w.heap.size 32 c.arr
 s0:wr.cell? ⟨g,0,none⟩=some (.string s)
 bel:Below w.heap.size w wr
theorem RfI.step{w wr w':World}{c:VC}{g:Nat}{s:ByteArray}(h:RfI w c g s wr)(hb:Below wr.heap.size wr w'):RfI w c g s w':=
 ⟨h.b0.step hb,(hb.cell (p:=⟨g,0,none⟩) (World.block_lt_of_cell? wr _ h.s0)).trans h.s0,h.bel.step' hb⟩
theorem rfields_any(names:Bool)(x:Val)(c:VC)(w:World)(h:RW w c x)(ih:∀f∈x.d,RFormedAt f.v):
 Calls Tryz.prog 125 #[c.val,.bool names] w fun e w'=>e=.returned (.bool (fieldsB (nmOf names) x.d))∧Below w.heap.size w w':=by
 obtain⟨ck,cn,ct,LA,ln,lc,DA,dn,dc⟩:=c
 obtain⟨fs,hfs,hfl⟩:=h.sd
 simp only at hfl
 have hz:=hfl.sz
 unfold reach at hz
 have HF:=qD hfl
 have HN:=qD hfl.sr.ln
 have HS:=qD hfs
 have IH:=qD ih
 obtain⟨nm,hnm⟩:∃nm,nmOf names=nm:=⟨_,rfl⟩
 have HNM:=qD hnm
 rw[hnm]
 clear h hfs hfl ih hnm
 go_enter Tryz.func125,Tryz.ntmps125
 go_wp2_with fail
 go_loopw [5] (fun v5 wr=>∃i:Nat,i≤dn∧v5=.int .i64 i∧FieldsP nm (x.d.take i)∧Blk wr w.heap.size 32 (VC.arr ⟨ck,cn,ct,LA,ln,lc,DA,dn,dc⟩)∧Below w.heap.size w wr) (fun v5 _=>dn-(intOf v5).toNat)
 case atStart=>exact⟨0,Nat.zero_le _,rfl,by rw[List.take_zero];exact FieldsP.nil,Blk.new_at rfl,(Below.refl _ _).alloc (qL) _⟩
 case round=>
  obtain⟨i,hi,rfl,hP,hK,hB⟩:=hrel
  have HP:=qD hP
  have J:=qD hB
  have q4:=hK.cell 4
  simp at q4
  by_cases hlt:i<dn
  ·obtain⟨p,hp⟩:∃p,fs[i]?=some p:=⟨_,List.getElem?_eq_getElem (by have:=HN.out;omega)⟩
   have hd:x.d[i]?=some p.2:=by rw[←HS.out,List.getElem?_map,hp];rfl
   obtain⟨b,off,hA,_,hs,hu,hr⟩:=HF.out.vat hp
   subst hA
   obtain⟨y0,y1,y2,y3,y4⟩:=hu.keep (hB.block b hu.lt)
   have n0:=(hB.cell (p:=⟨b,off+i*6,none⟩) hu.lt).trans hs
   have hb:b<wr.heap.size:=by have:=hu.lt;have:=hB.size;omega
   have hA1:=(Below.refl wr.heap.size wr).alloc (qL) (Obj.cells #[.string p.2.s,.int .i64 p.1.k,.int .i64 p.1.n,.string p.1.t,.slice p.1.LA p.1.ln p.1.lc,.slice p.1.DA p.1.dn p.1.dc] 120)
   have HI:Hid (RfI w ⟨ck,cn,ct,LA,ln,lc,some ⟨b,off,none⟩,dn,dc⟩ wr.heap.size p.2.s (wr.alloc (.cells #[.string p.2.s,.int .i64 p.1.k,.int .i64 p.1.n,.string p.1.t,.slice p.1.LA p.1.ln p.1.lc,.slice p.1.DA p.1.dn p.1.dc] 120))):=
    qD ⟨hK.step hA1,(Blk.new_at (w:=wr) rfl).cell 0,hB.step' hA1⟩
   have HR:=qD ((hr.step hB).step hA1)
   have HD:=qD hd
   have HC:=qD (IH.out p.2 (List.mem_of_getElem? hd))
   clear hp hd hs hu hr hP hB hA1 hK
   cases hnm:nm p.2.s
   ·have HV:=qD (fieldsB_false (FieldsP.not_name HD.out hnm))
    have hnm':Hid (nmOf names p.2.s=false):=by rw[Hid,HNM.out];exact hnm
    clear hnm
    cases names
    all_goals
     go_wp2_with fail
     first|(with_reducible refine(rname_any _ _).mono ?_)|(with_reducible refine(rwide_any _ _).mono ?_)
     rintro e w' ⟨rfl,rfl⟩
     first|rw[show nameB p.2.s=false from hnm'.out]|rw[show wideB p.2.s=false from hnm'.out]
     go_wp2_with fail
     go_ret
     exact⟨by rw[HV.out];rfl,HI.out.bel⟩
   have hnm':Hid (nmOf names p.2.s=true):=by rw[Hid,HNM.out];exact hnm
   have HNm:=qD hnm
   clear hnm
   cases names
   all_goals
    go_wp2_with fail
    first|(with_reducible refine(rname_any _ _).mono ?_)|(with_reducible refine(rwide_any _ _).mono ?_)
    rintro e w' ⟨rfl,rfl⟩
    first|rw[show nameB p.2.s=true from hnm'.out]|rw[show wideB p.2.s=true from hnm'.out]
    go_wp2_with fail
    refine(HC.out _ p.1 _ HR.out).mono ?_
    rintro e w2 ⟨rfl,hb2⟩
    rw[HNM.out]
    have HI2:=qD (HI.out.step hb2)
    clear y0 y1 y2 y3 y4 n0 q4 hb2
    cases hso:soundB nm p.2.v
    ·have HV:=qD (fieldsB_false (FieldsP.not_sound HD.out (soundB_not.1 hso)))
     go_wp2_with fail
     go_ret
     exact⟨by rw[HV.out];rfl,HI2.out.bel⟩
    ·have HSo:=qD (soundB_iff.1 hso)
     clear hso
     go_wp2_with fail
     clear HI HR J HC hnm'
     generalize wr.heap.size=gF at*
     go_loopw [7] (fun v7 wi=>∃j:Nat,j≤i∧v7=.int .i64 j∧(∀m g,m<j→x.d[m]?=some g→g.s≠p.2.s)∧RfI w ⟨ck,cn,ct,LA,ln,lc,some ⟨b,off,none⟩,dn,dc⟩ gF p.2.s wi) (fun v7 _=>i-(intOf v7).toNat)
     case atStart=>exact⟨0,Nat.zero_le _,rfl,fun m g h=>by omega,HI2.out⟩
     case round=>
      obtain⟨j,hj,rfl,hall,I⟩:=hrel
      have HAll:=qD hall
      have K:=qD I
      clear hall
      by_cases hjl:j<i
      ·obtain⟨q,hq⟩:∃q,fs[j]?=some q:=⟨_,List.getElem?_eq_getElem (by have:=HN.out;omega)⟩
       have hd2:x.d[j]?=some q.2:=by rw[←HS.out,List.getElem?_map,hq];rfl
       obtain⟨b2,off2,hA2,_,hs2,hu2,_⟩:=HF.out.vat hq
       cases hA2
       have n1:=(I.bel.cell (p:=⟨b,off+j*6,none⟩) hu2.lt).trans hs2
       have q4:=I.b0.cell 4
       have k0:=I.s0
       simp at q4
       have HD2:=qD hd2
       have hj0:(0:Int)≤(j:Int):=by omega
       have hj1:(j:Int)<(dn:Int):=by omega
       clear hq hd2 hs2 hu2 I
       cases hc:(q.2.s.toList==p.2.s.toList)
       ·have HA2:Hid (∀m g,m<j+1→x.d[m]?=some g→g.s≠p.2.s):=fun m g hm hg=>by
         by_cases e:m=j
         ·subst e
          rw[HD2.out] at hg
          cases hg
          exact fun h=>by rw[h] at hc;simp at hc
         ·exact HAll.out m g (by omega) hg
        go_upto_region 10 with fail
        go_quiet (fail)
        clear q4 k0 n1 hj0 hj1
        go_wp2_with fail
        go_roundw
        case rel=>exact⟨j+1,by omega,by go_num,HA2.out,K.out.step (Below.drewN (Below.refl _ _) _)⟩
        case measure=>simp[intOf];omega
       ·have HV:=qD (fieldsB_false (nm:=nm) (FieldsP.not_new HD.out (by rw[←show q.2.s=p.2.s from bytes_eq.1 (by simpa using hc)];exact mem_take hjl HD2.out)))
        go_upto_region 10 with fail
        go_quiet (fail)
        clear q4 k0 n1 hj0 hj1
        go_wp2_with fail
        go_ret
        exact⟨by rw[HV.out];rfl,K.out.bel.drewN _⟩
      ·have HX:=qD (HP.out.next HD.out HNm.out (not_mem_take (fun m g hm hg=>HAll.out m g (by omega) hg)) HSo.out)
       clear I
       go_wp2_with fail
       go_roundw
       case rel=>exact⟨i+1,by omega,by go_num,HX.out,K.out.b0,K.out.bel⟩
       case measure=>simp[intOf];omega
  ·have HV:Hid (fieldsB nm x.d=true):=by
    have:=HP.out
    rw[List.take_of_length_le (by rw[←HS.out,List.length_map,←HN.out];omega)] at this
    exact fieldsB_true this
   clear hP hK hB
   go_wp2_with fail
   go_ret
   exact⟨by rw[HV.out];rfl,J.out⟩
def PartsOk(x:Val)(w:World)(e:Ending)(w':World):Prop:=
 ∃(A:Option Addr) (n c:Nat) (ps:List PV),e=.returned (.slice A n c)∧ps.map Prod.snd=x.parts∧SL (fun _=>True) w' A n c ps∧Below w.heap.size w w'
structure PtInv(w:World)(c:VC)(ps:List PV)(i:Nat)(v:Value)(wr:World):Prop where
 b0:Blk wr w.heap.size 32 c.arr
 own:wr.ownsRow (w.heap.size+1) 32 5 v i (flat recV (ps.take i))
 bel:Below w.heap.size w wr
theorem PtInv.next{w:World}{c:VC}{ps:List PV}{i:Nat}{v v':Value}{wr w':World}{o:Obj}{p:PV}(h:PtInv w c ps i v wr)(hp:ps[i]?=some p)(hg:(wr.alloc o).grownBy w' v.ownBlock)(ho:w'.ownsRow (w.heap.size+1) 32 5 v' (i+1) (flat recV (ps.take i)++recV p)):PtInv w c ps (i+1) v' w':=by
 have n1:v.ownBlock≠some w.heap.size:=own_ne h.own (by omega)
 refine⟨(h.b0.alloc o).grown hg (fun e=>n1 e.symm),by rw[take_snoc' hp,flat_snoc];exact ho,?_⟩
 exact(h.bel.alloc h.bel.size o).grown hg (by have:=h.bel.size;show _≤(wr.alloc o).heap.size;simp;omega) (fun q hq=>by have:=own_ge h.own q hq;omega)
theorem PtInv.done{w:World}{c:VC}{ps:List PV}{v:Value}{wr:World}{n:Nat}{x:Val}(h:PtInv w c ps n v wr)(hn:ps.length=n)(hz:n*80≤reach)(hx:ps.map Prod.snd=x.parts)(hr:∀p∈ps,RW w p.1 p.2):PartsOk x w (.returned v) wr:=by
 have ho:=h.own
 rw[List.take_of_length_le (by omega)] at ho
 obtain⟨A,c',rfl,hs⟩:=SL.of_own (F:=fun _=>True) ho hn hz (fun _ _=>trivial) (fun p hp=>(hr p hp).step h.bel)
 exact⟨A,n,c',ps,rfl,hx,hs,h.bel⟩
theorem rparts_any(x:Val)(c:VC)(w:World)(h:RW w c x):Calls Tryz.prog 182 #[c.val] w (PartsOk x w):=by
 obtain⟨i0,hi0,hz0,hz1,hz2⟩:=info_parts info_value
 obtain⟨ck,cn,ct,LA,ln,lc,DA,dn,dc⟩:=c
 have hk:ck=x.k:=h.open.k
 have B0:Hid (PtInv w ⟨ck,cn,ct,LA,ln,lc,DA,dn,dc⟩ [] 0 (.slice none 0 0) (w.alloc (.cells #[.int .i64 ck,.int .i64 cn,.string ct,.slice LA ln lc,.slice DA dn dc] 32))):=
  qD ⟨Blk.new_at rfl,own_nil _ _ _ _,(Below.refl _ _).alloc (qL) _⟩
 cases h6:(ck==6)
 ·cases h5:(ck==5)
  ·have HP:Hid (x.parts=[]):=by
    simp at h6 h5
    simp[Hid,Val.parts,←hk,h6,h5]
   clear h hk
   go_enter Tryz.func182,Tryz.ntmps182
   go_wp2_with fail
   go_ret
   exact PtInv.done B0.out rfl (by decide) HP.out.symm (fun p hp=>by simp at hp)
  ·have HP:Hid (x.parts=x.d.map Fld.v):=by
    simp at h5
    simp[Hid,Val.parts,←hk,h5]
   obtain⟨fs,hps,hsl⟩:=h.sd
   simp only at hsl
   obtain⟨ps,hpe⟩:∃ps:List PV,ps=fs.map fun p=>(p.1,p.2.v):=⟨_,rfl⟩
   have HQE:=qD hpe
   have HPR:Hid (∀p∈ps,RW w p.1 p.2):=by
    rw[Hid,hpe]
    intro p hp
    obtain⟨q,hq,rfl⟩:=List.mem_map.1 hp
    exact hsl.rv q hq
   have hz:=hsl.sz
   unfold reach at hz
   have HL:=qD hsl
   have HN:Hid (dn=ps.length):=by rw[Hid,hpe,List.length_map];exact hsl.sr.ln
   have HX:Hid (ps.map Prod.snd=x.parts):=by rw[Hid,HP.out,←hps,hpe];simp
   have B1:Hid (PtInv w ⟨ck,cn,ct,LA,ln,lc,DA,dn,dc⟩ ps 0 (.slice none 0 0) (w.alloc (.cells #[.int .i64 ck,.int .i64 cn,.string ct,.slice LA ln lc,.slice DA dn dc] 32))):=qD ⟨B0.out.b0,B0.out.own,B0.out.bel⟩
   clear h hsl hps hk B0 hpe
   go_enter Tryz.func182,Tryz.ntmps182
   go_wp2_with fail
   go_loopw [3,5] (fun v3 v5 wr=>∃i:Nat,i≤dn∧v5=.int .i64 i∧PtInv w ⟨ck,cn,ct,LA,ln,lc,DA,dn,dc⟩ ps i v3 wr) (fun _ v5 _=>dn-(intOf v5).toNat)
   case atStart=>exact⟨0,Nat.zero_le _,rfl,B1.out⟩
   case round=>
    obtain⟨i,hi,rfl,I⟩:=hrel
    have J:=qD I
    have q0:=I.b0.cell 0
    have q4:=I.b0.cell 4
    simp at q0 q4
    by_cases hlt:i<dn
    ·obtain⟨f,hf⟩:∃f,fs[i]?=some f:=⟨_,List.getElem?_eq_getElem (by have:=HL.out.sr.ln;omega)⟩
     obtain⟨b,off,rfl,_,_,hu,_⟩:=HL.out.vat hf
     have hp:ps[i]?=some (f.1,f.2.v):=by rw[HQE.out,List.getElem?_map,hf];rfl
     obtain⟨y0,y1,y2,y3,y4⟩:=hu.keep (I.bel.block b hu.lt)
     have hb:b<wr.heap.size:=by have:=hu.lt;have:=I.bel.size;omega
     have HQ:=qD hp
     clear hp hu I hf
     have hsz:=J.out.bel.size
     go_wp2_with (at_builtin;refine wpList_append_own _ rfl _ _ 29 rfl (w.heap.size+1) 32 i0 VC.zero.val 5 80 Tryz.underlying29 hi0 hz0 hz1 hz2 rfl (by decide) u3 i (flat recV (ps.take i)) rfl (J.out.own.alloc _) ⟨wr.heap.size,0,none⟩ 1 1 (recV (f.1,f.2.v)) rfl rfl ?c1 ?c2 ?c3 ?c4 ?c5 ?_)
     case c1=>exact news_at _ _ _
     case c2=>exact recV_one _
     case c3=>unfold maxLen;omega
     case c4=>omega
     case c5=>simp;have:=J.out.b0.lt;omega
     intro v' w2 hown hg _
     have HI:=qD (J.out.next HQ.out hg hown)
     clear hown hg q0 q4 y0 y1 y2 y3 y4
     go_wp2_with fail
     go_roundw
     case rel=>exact⟨i+1,by omega,by go_num,HI.out⟩
     case measure=>simp[intOf];omega
    ·obtain rfl:i=dn:=by omega
     clear I
     go_wp2_with fail
     go_ret
     exact PtInv.done J.out HN.out.symm (by have:=HL.out.sz;unfold reach at*;omega) HX.out HPR.out
 ·have HP:Hid (x.parts=x.l):=by
   simp at h6
   simp[Hid,Val.parts,←hk,h6]
  have h5:(ck==5)=false:=by simp at h6 ⊢;omega
  obtain⟨ps,hps,hsl⟩:=h.sl
  simp only at hsl
  have hz:=hsl.sz
  unfold reach at hz
  have HL:=qD hsl
  have HN:=qD hsl.sr.ln
  have HX:Hid (ps.map Prod.snd=x.parts):=by rw[Hid,HP.out];exact hps
  have B1:Hid (PtInv w ⟨ck,cn,ct,LA,ln,lc,DA,dn,dc⟩ ps 0 (.slice none 0 0) (w.alloc (.cells #[.int .i64 ck,.int .i64 cn,.string ct,.slice LA ln lc,.slice DA dn dc] 32))):=qD ⟨B0.out.b0,B0.out.own,B0.out.bel⟩
  clear h hsl hps hk B0
  go_enter Tryz.func182,Tryz.ntmps182
  go_wp2_with fail
  go_loopw [3,4] (fun v3 v4 wr=>∃i:Nat,i≤ln∧v4=.int .i64 i∧PtInv w ⟨ck,cn,ct,LA,ln,lc,DA,dn,dc⟩ ps i v3 wr) (fun _ v4 _=>ln-(intOf v4).toNat)
  case atStart=>exact⟨0,Nat.zero_le _,rfl,B1.out⟩
  case round=>
   obtain⟨i,hi,rfl,I⟩:=hrel
   have J:=qD I
   have q0:=I.b0.cell 0
   have q3:=I.b0.cell 3
   simp at q0 q3
   by_cases hlt:i<ln
   ·obtain⟨p,hp⟩:∃p,ps[i]?=some p:=⟨_,List.getElem?_eq_getElem (by have:=HN.out;omega)⟩
    obtain⟨b,off,rfl,_,hu,_⟩:=HL.out.vat hp
    obtain⟨y0,y1,y2,y3,y4⟩:=hu.keep (I.bel.block b hu.lt)
    have hb:b<wr.heap.size:=by have:=hu.lt;have:=I.bel.size;omega
    have HQ:=qD hp
    clear hp hu I
    have hsz:=J.out.bel.size
    go_wp2_with (at_builtin;refine wpList_append_own _ rfl _ _ 29 rfl (w.heap.size+1) 32 i0 VC.zero.val 5 80 Tryz.underlying29 hi0 hz0 hz1 hz2 rfl (by decide) u3 i (flat recV (ps.take i)) rfl (J.out.own.alloc _) ⟨wr.heap.size,0,none⟩ 1 1 (recV p) rfl rfl ?c1 ?c2 ?c3 ?c4 ?c5 ?_)
    case c1=>exact news_at _ _ _
    case c2=>exact recV_one p
    case c3=>unfold maxLen;omega
    case c4=>omega
    case c5=>simp;have:=J.out.b0.lt;omega
    intro v' w2 hown hg _
    have HI:=qD (J.out.next HQ.out hg hown)
    clear hown hg q0 q3 y0 y1 y2 y3 y4
    go_wp2_with fail
    go_roundw
    case rel=>exact⟨i+1,by omega,by go_num,HI.out⟩
    case measure=>simp[intOf];omega
   ·obtain rfl:i=ln:=by omega
    clear I
    go_wp2_with fail
    go_ret
    exact PtInv.done J.out HN.out.symm HL.out.sz HX.out HL.out.rv
def cntI(l:List Val)(most:Int):Int:=min (1+(sizeL l:Int)) most
def lvlI(l:List Val)(most:Int):Int:=min (heightL l:Int) (most-1)
theorem cntI_next{l:List Val}{i:Nat}{y:Val}{most:Int}(hy:l[i]?=some y)(h:cntI (l.take i) most<most):
 cntI (l.take i) most+nodesI y (most-cntI (l.take i) most)=cntI (l.take (i+1)) most:=by
 have h1:=sizeL_snoc hy
 unfold cntI nodesI at*
 omega
theorem cntI_end{x:Val}{i:Nat}{most:Int}(h:x.parts.length≤i∨most≤cntI (x.parts.take i) most):cntI (x.parts.take i) most=nodesI x most:=by
 have h1:=sizeL_take x.parts i
 have h2:=size_parts x
 rcases h with h|h
 ·rw[List.take_of_length_le h]
  unfold cntI nodesI
  omega
 ·unfold cntI nodesI at*
  omega
theorem lvlI_next{l:List Val}{i:Nat}{y:Val}{most:Int}(hy:l[i]?=some y):
 max (lvlI (l.take i) most) (depthI y (most-1))=lvlI (l.take (i+1)) most:=by
 have h1:=heightL_snoc hy
 unfold lvlI depthI at*
 omega
theorem lvlI_end{x:Val}{i:Nat}{most:Int}(h:x.parts.length≤i):lvlI (x.parts.take i) most+1=depthI x most:=by
 have h2:=height_parts x
 rw[List.take_of_length_le h]
 unfold lvlI depthI
 omega
def RCountAt(x:Val):Prop:=∀(c:VC) (most:Int) (w:World),RW w c x→1≤most→most≤1025→
 Calls Tryz.prog 123 #[c.val,.int .i64 most] w fun e w'=>e=.returned (.int .i64 (nodesI x most))∧Below w.heap.size w w'
def RLevelsAt(x:Val):Prop:=∀(c:VC) (most:Int) (w:World),RW w c x→1≤most→most≤17→
 Calls Tryz.prog 122 #[c.val,.int .i64 most] w fun e w'=>e=.returned (.int .i64 (depthI x most))∧Below w.heap.size w w'
theorem rcount_any:∀x,RCountAt x:=by
 refine Val.indP fun x ih=>?_
 intro c most w h h1 h2
 have H:=qD h
 have IH:=qD ih
 clear h ih
 go_enter Tryz.func123,Tryz.ntmps123
 go_wp2_with fail
 refine(rparts_any x c _ (H.out.alloc _)).mono ?_
 rintro e w1 ⟨A,n,cc,ps,rfl,hx,hsl,hb⟩
 have HB:=qD (((Below.refl _ _).alloc (qL) _).step' hb)
 have HX:=qD hx
 have HL:=qD hsl
 have HN:=qD hsl.sr.ln
 have hz:=hsl.sz
 unfold reach at hz
 clear hx hsl hb
 go_wp2_with fail
 go_loopw [5,7] (fun v5 v7 wr=>∃i:Nat,i≤n∧v7=.int .i64 i∧v5=.int .i64 (cntI (x.parts.take i) most)∧Below w1.heap.size w1 wr) (fun _ v7 _=>n-(intOf v7).toNat)
 case atStart=>exact⟨0,Nat.zero_le _,rfl,by congr 1;unfold cntI;simp[sizeL];omega,Below.refl _ _⟩
 case round=>
  obtain⟨i,hi,rfl,rfl,I⟩:=hrel
  have J:=qD I
  have r:1≤cntI (x.parts.take i) most∧cntI (x.parts.take i) most≤most:=by unfold cntI;omega
  obtain⟨N,hN⟩:∃N,cntI (x.parts.take i) most=N:=⟨_,rfl⟩
  rw[hN] at r ⊢
  have HNN:=qD hN
  clear hN
  by_cases hlt:i<n
  ·by_cases hm:N<most
   ·obtain⟨p,hp⟩:∃p,ps[i]?=some p:=⟨_,List.getElem?_eq_getElem (by have:=HN.out;omega)⟩
    obtain⟨b,off,rfl,_,hu,hr⟩:=HL.out.vat hp
    obtain⟨y0,y1,y2,y3,y4⟩:=hu.keep (I.block b hu.lt)
    have hy:x.parts[i]?=some p.2:=by rw[←HX.out,List.getElem?_map,hp];rfl
    have HR:=qD (hr.step I)
    have HC:=qD (IH.out p.2 (List.mem_of_getElem? hy))
    have r2:1≤nodesI p.2 (most-N)∧nodesI p.2 (most-N)≤most-N:=by
     have:=size_pos p.2
     unfold nodesI
     omega
    have HV:Hid (N+nodesI p.2 (most-N)=cntI (x.parts.take (i+1)) most):=by
     rw[Hid,←HNN.out]
     exact cntI_next hy (by rw[HNN.out];exact hm)
    clear hp hu hr hy I
    go_wp2_with fail
    refine(HC.out p.1 (most-N) _ HR.out (by omega) (by omega)).mono ?_
    rintro e w2 ⟨rfl,hb2⟩
    have J2:=qD (J.out.step' hb2)
    clear y0 y1 y2 y3 y4 hb2
    go_wp2_with fail
    go_roundw
    case rel=>exact⟨i+1,by omega,by go_num,by rw[HV.out],J2.out⟩
    case measure=>simp[intOf];omega
   ·have HV:Hid (N=nodesI x most):=by rw[Hid,←HNN.out];exact cntI_end (.inr (by rw[HNN.out];omega))
    go_wp2_with fail
    go_ret
    exact⟨by rw[←HV.out];rfl,HB.out.step' J.out⟩
  ·have HV:Hid (N=nodesI x most):=by rw[Hid,←HNN.out];exact cntI_end (.inl (by rw[←HX.out,List.length_map,←HN.out];omega))
   go_wp2_with fail
   go_ret
   exact⟨by rw[←HV.out];rfl,HB.out.step' J.out⟩
theorem rlevels_any:∀x,RLevelsAt x:=by
 refine Val.indP fun x ih=>?_
 intro c most w h h1 h2
 have H:=qD h
 have IH:=qD ih
 clear h ih
 go_enter Tryz.func122,Tryz.ntmps122
 go_wp2_with fail
 refine(rparts_any x c _ (H.out.alloc _)).mono ?_
 rintro e w1 ⟨A,n,cc,ps,rfl,hx,hsl,hb⟩
 have HB:=qD (((Below.refl _ _).alloc (qL) _).step' hb)
 have HX:=qD hx
 have HL:=qD hsl
 have HN:=qD hsl.sr.ln
 have hz:=hsl.sz
 unfold reach at hz
 clear hx hsl hb
 by_cases hm:most<2
 ·have HV:Hid (depthI x most=1):=by
   have:=height_pos x
   unfold Hid depthI
   omega
  go_wp2_with fail
  go_ret
  exact⟨by rw[HV.out];rfl,HB.out⟩
 ·cases hn0:((n:Int)==0)
  ·go_wp2_with fail
   go_loopw [6,7] (fun v6 v7 wr=>∃i:Nat,i≤n∧v7=.int .i64 i∧v6=.int .i64 (lvlI (x.parts.take i) most)∧Below w1.heap.size w1 wr) (fun _ v7 _=>n-(intOf v7).toNat)
   case atStart=>exact⟨0,Nat.zero_le _,rfl,by congr 1;unfold lvlI;simp[heightL];omega,Below.refl _ _⟩
   case round=>
    obtain⟨i,hi,rfl,rfl,I⟩:=hrel
    have J:=qD I
    have r:0≤lvlI (x.parts.take i) most∧lvlI (x.parts.take i) most≤17:=by unfold lvlI;omega
    obtain⟨N,hN⟩:∃N,lvlI (x.parts.take i) most=N:=⟨_,rfl⟩
    rw[hN] at r ⊢
    have HNN:=qD hN
    clear hN
    by_cases hlt:i<n
    ·obtain⟨p,hp⟩:∃p,ps[i]?=some p:=⟨_,List.getElem?_eq_getElem (by have:=HN.out;omega)⟩
     obtain⟨b,off,rfl,_,hu,hr⟩:=HL.out.vat hp
     obtain⟨y0,y1,y2,y3,y4⟩:=hu.keep (I.block b hu.lt)
     have hy:x.parts[i]?=some p.2:=by rw[←HX.out,List.getElem?_map,hp];rfl
     have HR:=qD (hr.step I)
     have HC:=qD (IH.out p.2 (List.mem_of_getElem? hy))
     have HV:Hid (max N (depthI p.2 (most-1))=lvlI (x.parts.take (i+1)) most):=by
      rw[Hid,←HNN.out]
      exact lvlI_next hy
     clear hp hu hr hy I
     go_wp2_with fail
     refine(HC.out p.1 (most-1) _ HR.out (by omega) (by omega)).mono ?_
     rintro e w2 ⟨rfl,hb2⟩
     have J2:=qD (J.out.step' hb2)
     clear y0 y1 y2 y3 y4 hb2
     by_cases hle:N<depthI p.2 (most-1)
     all_goals
      go_wp2_with fail
      go_roundw
      case rel=>exact⟨i+1,by omega,by go_num,by rw[←HV.out]<;>congr 1<;>omega,J2.out⟩
      case measure=>simp[intOf];omega
    ·have HV:Hid (N+1=depthI x most):=by rw[Hid,←HNN.out];exact lvlI_end (by rw[←HX.out,List.length_map,←HN.out];omega)
     go_wp2_with fail
     go_ret
     exact⟨by rw[←HV.out];rfl,HB.out.step' J.out⟩
  ·have HV:Hid (1=depthI x most):=by
    have:=lvlI_end (x:=x) (i:=0) (most:=most) (by rw[←HX.out,List.length_map,←HN.out];simp at hn0;omega)
    unfold Hid
    rw[←this]
    unfold lvlI
    simp[heightL]
    omega
   go_wp2_with fail
   go_ret
   exact⟨by rw[←HV.out];rfl,HB.out⟩
theorem rnodesV_any(x:Val)(c:VC)(w:World)(h:RW w c x):Calls Tryz.prog 69 #[c.val] w fun e w'=>e=.returned (.int .i64 (nodesV x))∧Below w.heap.size w w':=by
 have H:=qD h
 clear h
 go_enter Tryz.func69,Tryz.ntmps69
 go_wp2_with fail
 refine(rcount_any x c 1025 _ (H.out.alloc _) (by omega) (by omega)).mono ?_
 rintro e w1 ⟨rfl,hb⟩
 go_wp2_with fail
 go_ret
 exact⟨rfl,((Below.refl _ _).alloc (qL) _).step' hb⟩
theorem rdepthV_any(x:Val)(c:VC)(w:World)(h:RW w c x):Calls Tryz.prog 68 #[c.val] w fun e w'=>e=.returned (.int .i64 (depthV x))∧Below w.heap.size w w':=by
 have H:=qD h
 clear h
 go_enter Tryz.func68,Tryz.ntmps68
 go_wp2_with fail
 refine(rlevels_any x c 17 _ (H.out.alloc _) (by omega) (by omega)).mono ?_
 rintro e w1 ⟨rfl,hb⟩
 go_wp2_with fail
 go_ret
 exact⟨rfl,((Below.refl _ _).alloc (qL) _).step' hb⟩
end Go.Proofs.YtfkdihlbaghajaaGreatDoor
