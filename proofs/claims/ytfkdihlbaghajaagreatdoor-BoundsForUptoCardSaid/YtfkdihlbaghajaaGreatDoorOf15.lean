/- Parts of the proof, joined: ValTexts, ValRefCmp, IvBaseB, Kit6, IvBaseD. -/
import Derived.Test.YtfkdihlbaghajaaGreatDoorOf1
import Derived.Test.YtfkdihlbaghajaaGreatDoorOf6
import Derived.Test.YtfkdihlbaghajaaGreatDoorOf11
import Derived.Test.YtfkdihlbaghajaaGreatDoorOf13
import Derived.Test.YtfkdihlbaghajaaGreatDoorOf5
import Derived.Test.YtfkdihlbaghajaaGreatDoorOf2
import Derived.Test.YtfkdihlbaghajaaGreatDoorOf8
import Derived.Laws.IdiomCopy
import Derived.Lib.SliceRun
import Derived.Lib.AppendZerosOnto
set_option maxRecDepth 100000
set_option maxHeartbeats 16000000
set_option linter.unusedSimpArgs false
namespace Go.Proofs.YtfkdihlbaghajaaGreatDoor
open Go.RowKit
theorem rints_any(x y:Int)(w:World):Calls Tryz.prog 200 #[.int .i64 x,.int .i64 y] w fun e w'=>e=.returned (.int .i64 (cmpI x y))∧w'=w:=by
 go_enter Tryz.func200,Tryz.ntmps200
 go_wp2
 all_goals (go_ret;refine⟨?_,rfl⟩;unfold cmpI Lib.compareInt;(repeat' split)<;>first|rfl|(exfalso;omega))
theorem bytes_drop(a:ByteArray)(i:Nat)(h:i<a.size):a.data.toList.drop i=a[i]::a.data.toList.drop (i+1):=by
 rw[List.drop_eq_getElem_cons (by simpa using h)]
 rfl
theorem cmpBy_end{l m:List UInt8}{i:Nat}(h1:i≤l.length)(h2:i≤m.length)(h:l.length≤i∨m.length≤i):Lib.compareBytes (l.drop i) (m.drop i)=cmpI (l.length:Int) (m.length:Int):=by
 rw[cmpI_nat]
 by_cases hl:l.length≤i
 ·rw[List.drop_of_length_le hl]
  by_cases hm:m.length≤i
  ·rw[List.drop_of_length_le hm,if_neg (by omega),if_neg (by omega)];rfl
  ·rw[List.drop_eq_getElem_cons (by omega:i<m.length),if_pos (by omega)];rfl
 ·have hm:m.length≤i:=by omega
  rw[List.drop_of_length_le hm,List.drop_eq_getElem_cons (by omega:i<l.length),if_neg (by omega),if_pos (by omega)];rfl
theorem cmpBy_at(a b:UInt8)(l m:List UInt8):Lib.compareBytes (a::l) (b::m)=if(a.toNat:Int)=(b.toNat:Int) then Lib.compareBytes l m else cmpI (a.toNat:Int) (b.toNat:Int):=by
 rw[Lib.compareBytes]
 unfold cmpI Lib.compareInt
 have e1:a<b↔a.toNat<b.toNat:=UInt8.lt_iff_toNat_lt
 have e2:b<a↔b.toNat<a.toNat:=UInt8.lt_iff_toNat_lt
 rcases Nat.lt_trichotomy a.toNat b.toNat with h|h|h
 ·rw[if_pos (e1.2 h),if_neg (by omega),if_pos (by omega)]
 ·rw[if_neg (by rw[e1];omega),if_neg (by rw[e2];omega),if_pos (by omega)]
 ·rw[if_neg (by rw[e1];omega),if_pos (e2.2 h),if_neg (by omega),if_neg (by omega),if_pos (by omega)]
theorem rtexts_any(a b:ByteArray)(w:World)(h1:a.size≤reach):Calls Tryz.prog 160 #[.string a,.string b] w fun e w'=>e=.returned (.int .i64 (cmpB a b))∧Below w.heap.size w w':=by
 unfold reach at h1
 go_enter Tryz.func160,Tryz.ntmps160
 go_wp2_with fail
 go_loopw [5] (fun v5 wr=>∃i:Nat,i≤a.size∧i≤b.size∧v5=.int .i64 i∧cmpB a b=Lib.compareBytes (a.data.toList.drop i) (b.data.toList.drop i)∧Below w.heap.size w wr) (fun v5 _=>a.size-(intOf v5).toNat)
 case atStart=>exact⟨0,Nat.zero_le _,Nat.zero_le _,rfl,rfl,Below.refl _ _⟩
 case round=>
  obtain⟨i,hi1,hi2,rfl,hq,I⟩:=hrel
  have HQ:=qD hq
  have J:=qD I
  clear hq I
  by_cases hlt:i<a.size∧i<b.size
  ·obtain⟨hl1,hl2⟩:=hlt
   have HA:=qD (HQ.out.trans (by rw[bytes_drop a i hl1,bytes_drop b i hl2,cmpBy_at]))
   cases hc:((a[i].toNat:Int) != (b[i].toNat:Int))
   ·go_upto_region 4 with fail
    go_quiet (fail)
    have HC:Hid (cmpB a b=Lib.compareBytes (a.data.toList.drop (i+1)) (b.data.toList.drop (i+1))):=by
     have:(a[i].toNat:Int)=(b[i].toNat:Int):=by simpa using hc
     rw[Hid,HA.out,if_pos this]
    go_wp2_with fail
    go_roundw
    case rel=>exact⟨i+1,by omega,by omega,by go_num,HC.out,J.out.drewN _⟩
    case measure=>simp[intOf];omega
   ·have HC:Hid (cmpB a b=cmpI (a[i].toNat:Int) (b[i].toNat:Int)):=by
     have:¬(a[i].toNat:Int)=(b[i].toNat:Int):=by simpa using hc
     rw[Hid,HA.out,if_neg this]
    have b1:a[i].toNat<256:=a[i].toNat_lt
    have b2:b[i].toNat<256:=b[i].toNat_lt
    go_upto_region 4 with fail
    go_quiet (fail)
    have J2:=qD (J.out.drewN nq)
    generalize wr.drewN nq=w2 at*
    have W1:IntKind.i64.wrap (a[i].toNat:Int)=(a[i].toNat:Int):=wrap_i64 (by omega) (by omega)
    have W2:IntKind.i64.wrap (b[i].toNat:Int)=(b[i].toNat:Int):=wrap_i64 (by omega) (by omega)
    go_upto_region 5 with fail
    go_quiet ((go_at_call 200;exact Calls.quiet_of_same (rints_any _ _ _)))
    go_wp2_with fail
    go_ret
    exact⟨by rw[HC.out];rfl,J2.out.drewN _⟩
  ·have HE:=qD (HQ.out.trans (cmpBy_end (by simp;omega) (by simp;omega) (by simp;omega)))
   by_cases hl1:i<a.size
   all_goals
    first|have hx9:b.size≤i:=by omega|have hx9:a.size≤i:=by omega
    go_wp2_with fail
    refine(rints_any _ _ _).mono ?_
    rintro e w' ⟨rfl,rfl⟩
    go_wp2_with fail
    go_ret
    exact⟨by rw[HE.out];simp,J.out⟩
def RCmpAt(x:Val):Prop:=∀(y:Val) (c d:VC) (w:World),RW w c x→RW w d y→
 Calls Tryz.prog 161 #[c.val,d.val] w fun e w'=>e=.returned (.int .i64 (cmpV x y))∧Below w.heap.size w w'
theorem rcmp_any:∀x,RCmpAt x:=by
 intro x
 induction x using Val.ind with
 | h k n t l d ihl ihd=>
 intro y c e w hx hy
 obtain⟨ck,cn,ct,cLA,cln,clc,cDA,cdn,cdc⟩:=c
 obtain⟨ek,en,et,eLA,eln,elc,eDA,edn,edc⟩:=e
 have hk:ck=k:=hx.open.k
 have hn:cn=n:=hx.open.n
 have ht:ct=t:=hx.open.t
 subst hk hn ht
 have hk2:ek=y.k:=hy.open.k
 have hn2:en=y.n:=hy.open.n
 have ht2:et=y.t:=hy.open.t
 have I0:Hid (CpInv w ⟨ck,cn,ct,cLA,cln,clc,cDA,cdn,cdc⟩ ⟨ek,en,et,eLA,eln,elc,eDA,edn,edc⟩ ((w.alloc (.cells #[.int .i64 ck,.int .i64 cn,.string ct,.slice cLA cln clc,.slice cDA cdn cdc] 32)).alloc (.cells #[.int .i64 ek,.int .i64 en,.string et,.slice eLA eln elc,.slice eDA edn edc] 32))):=
  qD ⟨(Blk.new_at rfl).alloc _,Blk.new_at (by simp),((Below.refl _ _).alloc (qL) _).alloc (by simp) _⟩
 cases hne:(ck != ek)
 ·have he:ck=ek:=by simpa using hne
  have hxy:(Val.mk ck cn ct l d).k=y.k:=by rw[←hk2];exact he
  subst he
  rcases kind_ways ck with hi|ht' | hl|hd|ho
  ·have HV:Hid (cmpV (.mk ck cn ct l d) y=cmpI cn en):=by rw[Hid,cmpV_int hxy hi,hn2];rfl
   clear hx hy ihl ihd hk2 hn2 ht2 hxy
   rcases hi with rfl|rfl|rfl
   all_goals
    go_enter Tryz.func161,Tryz.ntmps161
    go_wp2_with fail
    refine(rints_any _ _ _).mono ?_
    rintro e w' ⟨rfl,rfl⟩
    go_wp2_with fail
    go_ret
    exact⟨by rw[HV.out];rfl,I0.out.bel⟩
  ·have HV:Hid (cmpV (.mk ck cn ct l d) y=cmpB ct et):=by rw[Hid,cmpV_text hxy ht',ht2];rfl
   have HT:Hid (ct.size≤reach):=hx.open.tsz
   clear hx hy ihl ihd hk2 hn2 ht2 hxy
   rcases ht' with rfl|rfl|rfl
   all_goals
    go_enter Tryz.func161,Tryz.ntmps161
    go_wp2_with fail
    refine(rtexts_any _ _ _ HT.out).mono ?_
    rintro e w' ⟨rfl,hb⟩
    go_wp2_with fail
    go_ret
    exact⟨by rw[HV.out];rfl,I0.out.bel.step' hb⟩
  ·have HV:=qD (cmpV_list hxy hl)
   obtain⟨ps,hps,hsl⟩:=hx.sl
   obtain⟨qs,hqs,hql⟩:=hy.sl
   simp only at hsl hql
   have hz1:=hsl.sz
   have hz2:=hql.sz
   unfold reach at hz1 hz2
   have P1:=qD hsl
   have P2:=qD hql
   have HN1:Hid (cln=l.length):=hx.open.ln
   have HN2:Hid (eln=y.l.length):=hy.open.ln
   have HS1:Hid (ps.map Prod.snd=l):=hps
   have HS2:Hid (qs.map Prod.snd=y.l):=hqs
   have IH:=qD ihl
   clear hx hy ihl ihd hk2 hn2 ht2 hxy hsl hql hps hqs
   subst hl
   all_goals
    go_enter Tryz.func161,Tryz.ntmps161
    go_wp2_with fail
    go_loopw [5] (fun v5 wr=>∃i:Nat,i≤cln∧i≤eln∧v5=.int .i64 i∧cmpL l y.l=cmpL (l.drop i) (y.l.drop i)∧CpInv w ⟨6,cn,ct,cLA,cln,clc,cDA,cdn,cdc⟩ ⟨6,en,et,eLA,eln,elc,eDA,edn,edc⟩ wr) (fun v5 _=>cln-(intOf v5).toNat)
    case atStart=>exact⟨0,Nat.zero_le _,Nat.zero_le _,rfl,rfl,I0.out⟩
    case round=>
     obtain⟨i,hi1,hi2,rfl,hq,I⟩:=hrel
     have HQ:=qD hq
     have J:=qD I
     have q0:=I.b0.cell 3
     have q1:=I.b1.cell 3
     simp at q0 q1
     clear hq
     by_cases hlt:i<cln∧i<eln
     ·obtain⟨hl1,hl2⟩:=hlt
      obtain⟨p,hp⟩:∃p,ps[i]?=some p:=⟨_,List.getElem?_eq_getElem (by have:=P1.out.sr.ln;omega)⟩
      obtain⟨q,hq⟩:∃q,qs[i]?=some q:=⟨_,List.getElem?_eq_getElem (by have:=P2.out.sr.ln;omega)⟩
      obtain⟨b1,o1,rfl,_,hu1,hr1⟩:=P1.out.vat hp
      obtain⟨b2,o2,rfl,_,hu2,hr2⟩:=P2.out.vat hq
      have g1:l[i]?=some p.2:=by rw[←HS1.out,List.getElem?_map,hp];rfl
      have g2:y.l[i]?=some q.2:=by rw[←HS2.out,List.getElem?_map,hq];rfl
      have HA:=qD (HQ.out.trans (cmpL_at g1 g2))
      obtain⟨y0,y1,y2,y3,y4⟩:=hu1.keep (I.bel.block b1 hu1.lt)
      obtain⟨z0,z1,z2,z3,z4⟩:=hu2.keep (I.bel.block b2 hu2.lt)
      have E0:∀q:BW wr,q.val.cell? ⟨w.heap.size,3,none⟩=some (.slice (some ⟨b1,o1,none⟩) cln clc):=fun q=>q.cell (J.out.b0.cell 3)
      have E1:∀q:BW wr,q.val.cell? ⟨w.heap.size+1,3,none⟩=some (.slice (some ⟨b2,o2,none⟩) eln elc):=fun q=>q.cell (J.out.b1.cell 3)
      have Y0:∀k:BW wr,k.val.cell? ⟨b1,o1+i*5,none⟩=some (.int .i64 p.1.k):=fun k=>k.cell y0
      have Y1:∀k:BW wr,k.val.cell? ⟨b1,o1+i*5+1,none⟩=some (.int .i64 p.1.n):=fun k=>k.cell y1
      have Y2:∀k:BW wr,k.val.cell? ⟨b1,o1+i*5+2,none⟩=some (.string p.1.t):=fun k=>k.cell y2
      have Y3:∀k:BW wr,k.val.cell? ⟨b1,o1+i*5+3,none⟩=some (.slice p.1.LA p.1.ln p.1.lc):=fun k=>k.cell y3
      have Y4:∀k:BW wr,k.val.cell? ⟨b1,o1+i*5+4,none⟩=some (.slice p.1.DA p.1.dn p.1.dc):=fun k=>k.cell y4
      have Z0:∀k:BW wr,k.val.cell? ⟨b2,o2+i*5,none⟩=some (.int .i64 q.1.k):=fun k=>k.cell z0
      have Z1:∀k:BW wr,k.val.cell? ⟨b2,o2+i*5+1,none⟩=some (.int .i64 q.1.n):=fun k=>k.cell z1
      have Z2:∀k:BW wr,k.val.cell? ⟨b2,o2+i*5+2,none⟩=some (.string q.1.t):=fun k=>k.cell z2
      have Z3:∀k:BW wr,k.val.cell? ⟨b2,o2+i*5+3,none⟩=some (.slice q.1.LA q.1.ln q.1.lc):=fun k=>k.cell z3
      have Z4:∀k:BW wr,k.val.cell? ⟨b2,o2+i*5+4,none⟩=some (.slice q.1.DA q.1.dn q.1.dc):=fun k=>k.cell z4
      have K1:Hid (∀k:BW wr,Calls Tryz.prog 161 #[p.1.val,q.1.val] k.val fun e w''=>e=.returned (.int .i64 (cmpV p.2 q.2))∧∃k:BW wr,w''=k.val):=fun k=>
       Calls.bw (IH.out p.2 (List.mem_of_getElem? g1) q.2 p.1 q.1 k.val ((hr1.step I.bel).step k.below) ((hr2.step I.bel).step k.below))
      have hi0:(0:Int)≤(i:Int):=by omega
      have hi3:(i:Int)<(cln:Int):=by omega
      have hi4:(i:Int)<(eln:Int):=by omega
      clear hp hq hu1 hu2 hr1 hr2 g1 g2 y0 y1 y2 y3 y4 z0 z1 z2 z3 z4 I
      go_upto_region 16 with fail
      refine wp_region_bw (by kernel_rfl) (by kernel_rfl) ?_
      repeat(go_big_quiet_step (with_reducible exact K1.out _))
      refine wpQuiet_nil ?_
      rintro _ ⟨kw,rfl⟩
      have J2:=qD (J.out.step kw.below)
      clear E0 E1 Y0 Y1 Y2 Y3 Y4 Z0 Z1 Z2 Z3 Z4 K1 hi0 hi3 hi4
      generalize kw.val=w2 at*
      cases hc:(cmpV p.2 q.2 != 0)
      ·have HC:Hid (cmpL l y.l=cmpL (l.drop (i+1)) (y.l.drop (i+1))):=by
        have:cmpV p.2 q.2=0:=by simpa using hc
        rw[Hid,HA.out,if_neg (by simpa using this)]
       go_wp2_with fail
       go_roundw
       case rel=>exact⟨i+1,by omega,by omega,by go_num,HC.out,J2.out⟩
       case measure=>simp[intOf];omega
      ·have HC:Hid (cmpL l y.l=cmpV p.2 q.2):=by
        rw[Hid,HA.out,if_pos (by simpa using hc)]
       go_wp2_with fail
       go_ret
       exact⟨by rw[HV.out];show _=Ending.returned (.int .i64 (cmpL l y.l));rw[HC.out];rfl,J2.out.bel⟩
     ·have HE:=qD (HQ.out.trans (cmpL_end (by have:=HN1.out;omega) (by have:=HN2.out;omega) (by have:=HN1.out;have:=HN2.out;omega)))
      clear I
      by_cases hl1:i<cln
      all_goals
       first|have hx9:eln≤i:=by omega|have hx9:cln≤i:=by omega
       go_wp2_with fail
       refine(rints_any _ _ _).mono ?_
       rintro e w' ⟨rfl,rfl⟩
       go_wp2_with fail
       go_ret
       exact⟨by rw[HV.out];show _=Ending.returned (.int .i64 (cmpL l y.l));rw[HE.out,←HN1.out,←HN2.out];rfl,J.out.bel⟩
  ·have HV:=qD (cmpV_doc hxy hd)
   obtain⟨ps,hps,hsl⟩:=hx.sd
   obtain⟨qs,hqs,hql⟩:=hy.sd
   simp only at hsl hql
   have hz1:=hsl.sz
   have hz2:=hql.sz
   unfold reach at hz1 hz2
   have P1:=qD hsl
   have P2:=qD hql
   have HN1:Hid (cdn=d.length):=hx.open.dn
   have HN2:Hid (edn=y.d.length):=hy.open.dn
   have HS1:Hid (ps.map Prod.snd=d):=hps
   have HS2:Hid (qs.map Prod.snd=y.d):=hqs
   have IH:=qD ihd
   clear hx hy ihl ihd hk2 hn2 ht2 hxy hsl hql hps hqs
   subst hd
   all_goals
    go_enter Tryz.func161,Tryz.ntmps161
    go_wp2_with fail
    go_loopw [7] (fun v7 wr=>∃i:Nat,i≤cdn∧i≤edn∧v7=.int .i64 i∧cmpD d y.d=cmpD (d.drop i) (y.d.drop i)∧CpInv w ⟨5,cn,ct,cLA,cln,clc,cDA,cdn,cdc⟩ ⟨5,en,et,eLA,eln,elc,eDA,edn,edc⟩ wr) (fun v7 _=>cdn-(intOf v7).toNat)
    case atStart=>exact⟨0,Nat.zero_le _,Nat.zero_le _,rfl,rfl,I0.out⟩
    case round=>
     obtain⟨i,hi1,hi2,rfl,hq,I⟩:=hrel
     have HQ:=qD hq
     have J:=qD I
     have q0:=I.b0.cell 4
     have q1:=I.b1.cell 4
     simp at q0 q1
     clear hq
     by_cases hlt:i<cdn∧i<edn
     ·obtain⟨hl1,hl2⟩:=hlt
      obtain⟨p,hp⟩:∃p,ps[i]?=some p:=⟨_,List.getElem?_eq_getElem (by have:=P1.out.sr.ln;omega)⟩
      obtain⟨q,hq⟩:∃q,qs[i]?=some q:=⟨_,List.getElem?_eq_getElem (by have:=P2.out.sr.ln;omega)⟩
      obtain⟨b1,o1,rfl,_,hs1,hu1,hr1⟩:=P1.out.vat hp
      obtain⟨b2,o2,rfl,_,hs2,hu2,hr2⟩:=P2.out.vat hq
      have g1:d[i]?=some p.2:=by rw[←HS1.out,List.getElem?_map,hp];rfl
      have g2:y.d[i]?=some q.2:=by rw[←HS2.out,List.getElem?_map,hq];rfl
      have HA:=qD (HQ.out.trans (cmpD_at g1 g2))
      obtain⟨y0,y1,y2,y3,y4⟩:=hu1.keep (I.bel.block b1 hu1.lt)
      obtain⟨z0,z1,z2,z3,z4⟩:=hu2.keep (I.bel.block b2 hu2.lt)
      have n0:=(I.bel.cell (p:=⟨b1,o1+i*6,none⟩) hu1.lt).trans hs1
      have n1:=(I.bel.cell (p:=⟨b2,o2+i*6,none⟩) hu2.lt).trans hs2
      have N0:∀k:BW wr,k.val.cell? ⟨b1,o1+i*6,none⟩=some (.string p.2.s):=fun k=>k.cell n0
      have N1:∀k:BW wr,k.val.cell? ⟨b2,o2+i*6,none⟩=some (.string q.2.s):=fun k=>k.cell n1
      have E0:∀q:BW wr,q.val.cell? ⟨w.heap.size,4,none⟩=some (.slice (some ⟨b1,o1,none⟩) cdn cdc):=fun q=>q.cell (J.out.b0.cell 4)
      have E1:∀q:BW wr,q.val.cell? ⟨w.heap.size+1,4,none⟩=some (.slice (some ⟨b2,o2,none⟩) edn edc):=fun q=>q.cell (J.out.b1.cell 4)
      have Y0:∀k:BW wr,k.val.cell? ⟨b1,o1+i*6+1,none⟩=some (.int .i64 p.1.k):=fun k=>k.cell y0
      have Y1:∀k:BW wr,k.val.cell? ⟨b1,o1+i*6+1+1,none⟩=some (.int .i64 p.1.n):=fun k=>k.cell y1
      have Y2:∀k:BW wr,k.val.cell? ⟨b1,o1+i*6+1+2,none⟩=some (.string p.1.t):=fun k=>k.cell y2
      have Y3:∀k:BW wr,k.val.cell? ⟨b1,o1+i*6+1+3,none⟩=some (.slice p.1.LA p.1.ln p.1.lc):=fun k=>k.cell y3
      have Y4:∀k:BW wr,k.val.cell? ⟨b1,o1+i*6+1+4,none⟩=some (.slice p.1.DA p.1.dn p.1.dc):=fun k=>k.cell y4
      have Z0:∀k:BW wr,k.val.cell? ⟨b2,o2+i*6+1,none⟩=some (.int .i64 q.1.k):=fun k=>k.cell z0
      have Z1:∀k:BW wr,k.val.cell? ⟨b2,o2+i*6+1+1,none⟩=some (.int .i64 q.1.n):=fun k=>k.cell z1
      have Z2:∀k:BW wr,k.val.cell? ⟨b2,o2+i*6+1+2,none⟩=some (.string q.1.t):=fun k=>k.cell z2
      have Z3:∀k:BW wr,k.val.cell? ⟨b2,o2+i*6+1+3,none⟩=some (.slice q.1.LA q.1.ln q.1.lc):=fun k=>k.cell z3
      have Z4:∀k:BW wr,k.val.cell? ⟨b2,o2+i*6+1+4,none⟩=some (.slice q.1.DA q.1.dn q.1.dc):=fun k=>k.cell z4
      have KB:Hid (∀(W:World),Below w.heap.size w W→∀k:BW W,Calls Tryz.prog 161 #[p.1.val,q.1.val] k.val fun e w''=>e=.returned (.int .i64 (cmpV p.2.v q.2.v))∧∃k:BW W,w''=k.val):=fun W hW k=>
       Calls.bw (IH.out p.2 (List.mem_of_getElem? g1) q.2.v p.1 q.1 k.val ((hr1.step hW).step k.below) ((hr2.step hW).step k.below))
      have hi0:(0:Int)≤(i:Int):=by omega
      have hi3:(i:Int)<(cdn:Int):=by omega
      have hi4:(i:Int)<(edn:Int):=by omega
      clear hq hu1 hu2 hr1 hr2 g1 g2 y0 y1 y2 y3 y4 z0 z1 z2 z3 z4 I hs1 hs2 n0 n1
      have K2:Hid (∀k:BW wr,Calls Tryz.prog 160 #[.string p.2.s,.string q.2.s] k.val fun e w''=>e=.returned (.int .i64 (cmpB p.2.s q.2.s))∧∃k:BW wr,w''=k.val):=fun k=>
       Calls.bw (rtexts_any _ _ _ (P1.out.ns p (List.mem_of_getElem? hp)))
      clear hp
      go_upto_region 24 with fail
      refine wp_region_bw (by kernel_rfl) (by kernel_rfl) ?_
      repeat(go_big_quiet_step (with_reducible exact K2.out _))
      refine wpQuiet_nil ?_
      rintro _ ⟨kw,rfl⟩
      clear q0 q1
      cases hb:(cmpB p.2.s q.2.s != 0)
      ·have hb0:(cmpB p.2.s q.2.s==0)=true:=by simpa using hb
       have HA':Hid (cmpD d y.d=if cmpV p.2.v q.2.v≠0 then cmpV p.2.v q.2.v else cmpD (d.drop (i+1)) (y.d.drop (i+1))):=by
        have:cmpB p.2.s q.2.s=0:=by simpa using hb
        rw[Hid,HA.out,if_neg (by simpa using this)]
       have J1:=qD (J.out.step kw.below)
       have E0':∀q:BW kw.val,q.val.cell? ⟨w.heap.size,4,none⟩=some (.slice (some ⟨b1,o1,none⟩) cdn cdc):=fun q=>q.cell (E0 kw)
       have E1':∀q:BW kw.val,q.val.cell? ⟨w.heap.size+1,4,none⟩=some (.slice (some ⟨b2,o2,none⟩) edn edc):=fun q=>q.cell (E1 kw)
       have Y0':∀k:BW kw.val,k.val.cell? ⟨b1,o1+i*6+1,none⟩=some (.int .i64 p.1.k):=fun k=>k.cell (Y0 kw)
       have Y1':∀k:BW kw.val,k.val.cell? ⟨b1,o1+i*6+1+1,none⟩=some (.int .i64 p.1.n):=fun k=>k.cell (Y1 kw)
       have Y2':∀k:BW kw.val,k.val.cell? ⟨b1,o1+i*6+1+2,none⟩=some (.string p.1.t):=fun k=>k.cell (Y2 kw)
       have Y3':∀k:BW kw.val,k.val.cell? ⟨b1,o1+i*6+1+3,none⟩=some (.slice p.1.LA p.1.ln p.1.lc):=fun k=>k.cell (Y3 kw)
       have Y4':∀k:BW kw.val,k.val.cell? ⟨b1,o1+i*6+1+4,none⟩=some (.slice p.1.DA p.1.dn p.1.dc):=fun k=>k.cell (Y4 kw)
       have Z0':∀k:BW kw.val,k.val.cell? ⟨b2,o2+i*6+1,none⟩=some (.int .i64 q.1.k):=fun k=>k.cell (Z0 kw)
       have Z1':∀k:BW kw.val,k.val.cell? ⟨b2,o2+i*6+1+1,none⟩=some (.int .i64 q.1.n):=fun k=>k.cell (Z1 kw)
       have Z2':∀k:BW kw.val,k.val.cell? ⟨b2,o2+i*6+1+2,none⟩=some (.string q.1.t):=fun k=>k.cell (Z2 kw)
       have Z3':∀k:BW kw.val,k.val.cell? ⟨b2,o2+i*6+1+3,none⟩=some (.slice q.1.LA q.1.ln q.1.lc):=fun k=>k.cell (Z3 kw)
       have Z4':∀k:BW kw.val,k.val.cell? ⟨b2,o2+i*6+1+4,none⟩=some (.slice q.1.DA q.1.dn q.1.dc):=fun k=>k.cell (Z4 kw)
       have K1':Hid (∀k:BW kw.val,Calls Tryz.prog 161 #[p.1.val,q.1.val] k.val fun e w''=>e=.returned (.int .i64 (cmpV p.2.v q.2.v))∧∃k:BW kw.val,w''=k.val):=fun k=>
        KB.out kw.val (J1.out.bel) k
       clear E0 E1 Y0 Y1 Y2 Y3 Y4 Z0 Z1 Z2 Z3 Z4 N0 N1 K2
       generalize kw.val=w2 at*
       go_upto_region 26 with fail
       refine wp_region_bw (by kernel_rfl) (by kernel_rfl) ?_
       repeat(go_big_quiet_step (with_reducible exact K1'.out _))
       refine wpQuiet_nil ?_
       rintro _ ⟨kv,rfl⟩
       have J2:=qD (J1.out.step kv.below)
       clear E0' E1' Y0' Y1' Y2' Y3' Y4' Z0' Z1' Z2' Z3' Z4' K1' hi0 hi3 hi4
       generalize kv.val=w3 at*
       cases hc:(cmpV p.2.v q.2.v != 0)
       ·have HC:Hid (cmpD d y.d=cmpD (d.drop (i+1)) (y.d.drop (i+1))):=by
         have:cmpV p.2.v q.2.v=0:=by simpa using hc
         rw[Hid,HA'.out,if_neg (by simpa using this)]
        go_wp2_with fail
        go_roundw
        case rel=>exact⟨i+1,by omega,by omega,by go_num,HC.out,J2.out⟩
        case measure=>simp[intOf];omega
       ·have HC:Hid (cmpD d y.d=cmpV p.2.v q.2.v):=by
         rw[Hid,HA'.out,if_pos (by simpa using hc)]
        go_wp2_with fail
        go_ret
        exact⟨by rw[HV.out];show _=Ending.returned (.int .i64 (cmpD d y.d));rw[HC.out];rfl,J2.out.bel⟩
      ·have hb0:(cmpB p.2.s q.2.s==0)=false:=by simpa using hb
       have HC:Hid (cmpD d y.d=cmpB p.2.s q.2.s):=by
        rw[Hid,HA.out,if_pos (by simpa using hb)]
       have J2:=qD (J.out.step kw.below)
       clear E0 E1 Y0 Y1 Y2 Y3 Y4 Z0 Z1 Z2 Z3 Z4 N0 N1 K2 hi0 hi3 hi4
       generalize kw.val=w2 at*
       go_wp2_with fail
       go_ret
       exact⟨by rw[HV.out];show _=Ending.returned (.int .i64 (cmpD d y.d));rw[HC.out];rfl,J2.out.bel⟩
     ·have HE:=qD (HQ.out.trans (cmpD_end (by have:=HN1.out;omega) (by have:=HN2.out;omega) (by have:=HN1.out;have:=HN2.out;omega)))
      clear I
      by_cases hl1:i<cdn
      all_goals
       first|have hx9:edn≤i:=by omega|have hx9:cdn≤i:=by omega
       go_wp2_with fail
       refine(rints_any _ _ _).mono ?_
       rintro e w' ⟨rfl,rfl⟩
       go_wp2_with fail
       go_ret
       exact⟨by rw[HV.out];show _=Ending.returned (.int .i64 (cmpD d y.d));rw[HE.out,←HN1.out,←HN2.out];rfl,J.out.bel⟩
  ·obtain⟨h3,h9,h10,h4,h7,h8,h6,h5⟩:=ho
   have HV:=qD (cmpV_other hxy h3 h9 h10 h4 h7 h8 h6 h5)
   clear hx hy ihl ihd hk2 hn2 ht2 hxy
   have e3:(ck==3)=false:=by simpa using h3
   have e9:(ck==9)=false:=by simpa using h9
   have e10:(ck==10)=false:=by simpa using h10
   have e4:(ck==4)=false:=by simpa using h4
   have e7:(ck==7)=false:=by simpa using h7
   have e8:(ck==8)=false:=by simpa using h8
   have e6:(ck==6)=false:=by simpa using h6
   have e5:(ck==5)=false:=by simpa using h5
   clear h3 h9 h10 h4 h7 h8 h6 h5
   go_enter Tryz.func161,Tryz.ntmps161
   go_wp2_with fail
   go_ret
   exact⟨by rw[HV.out];rfl,I0.out.bel⟩
 ·have HV:Hid (cmpV (.mk ck cn ct l d) y=cmpI ck ek):=by
   have:ck≠ek:=by simpa using hne
   rw[Hid,cmpV_kind (by rw[←hk2];exact this),←hk2]
   rfl
  clear hx hy ihl ihd hk2 hn2 ht2
  go_enter Tryz.func161,Tryz.ntmps161
  go_wp2_with fail
  refine(rints_any _ _ _).mono ?_
  rintro e w' ⟨rfl,rfl⟩
  go_wp2_with fail
  go_ret
  exact⟨by rw[HV.out];rfl,I0.out.bel⟩
structure MtI(w4:World)(l m:List (Cut×Cut))(i k:Nat)(v:Value)(cs:List PS)(wr:World):Prop where
 own:wr.ownsRow w4.heap.size 140 12 v cs.length (flat recS cs)
 me:MeI cmC VC1 l m (l.drop i) (m.drop k) (cs.map spP)
 le:cs.length≤i+k
 ok:∀x∈cs,okS w4 x
 bel:Below w4.heap.size w4 wr
structure MtB(w4:World)(l m:List (Cut×Cut))(i k:Nat)(v:Value)(cs:List PS)(ga:Nat)(u:PS)(wr:World):Prop where
 i:MtI w4 l m i k v cs wr
 b:Blk wr ga 140 (arrS u)
 hg:w4.heap.size≤ga
 hno:v.ownBlock≠some ga
 oku:okS w4 u
section
variable {w4:World} {l m:List (Cut×Cut)} {i k:Nat} {v:Value} {cs:List PS} {ga:Nat} {u:PS} {wr w':World}
theorem MtI.step(h:MtI w4 l m i k v cs wr)(hb:Below wr.heap.size wr w'):MtI w4 l m i k v cs w':=⟨own_step h.own hb,h.me,h.le,h.ok,h.bel.step' hb⟩
theorem MtB.step(h:MtB w4 l m i k v cs ga u wr)(hb:Below wr.heap.size wr w'):MtB w4 l m i k v cs ga u w':=⟨h.i.step hb,h.b.step hb,h.hg,h.hno,h.oku⟩
theorem MtI.far(h:MtI w4 l m i k v cs wr)(hg:w4.heap.size≤ga)(hno:v.ownBlock≠some ga)(off:Nat)(q:PC):MtI w4 l m i k v cs (setC wr ga off q):=
 ⟨own_keep h.own fun g hh=>heap_setC (by rintro rfl;exact hno hh),h.me,h.le,h.ok,below_setC h.bel hg _ _⟩
theorem MtB.put1(h:MtB w4 l m i k v cs ga u wr)(q:PC)(hq:okC w4 q):MtB w4 l m i k v cs ga (q,u.2) (setC wr ga 0 q):=
 ⟨h.i.far h.hg h.hno 0 q,(((((h.b.set_ 0 _).set_ 1 _).set_ 2 _).set_ 3 _).set_ 4 _).set_ 5 _,h.hg,h.hno,⟨hq,h.oku.2⟩⟩
theorem MtB.put2(h:MtB w4 l m i k v cs ga u wr)(q:PC)(hq:okC w4 q):MtB w4 l m i k v cs ga (u.1,q) (setC wr ga 6 q):=
 ⟨h.i.far h.hg h.hno 6 q,(((((h.b.set_ 6 _).set_ 7 _).set_ 8 _).set_ 9 _).set_ 10 _).set_ 11 _,h.hg,h.hno,⟨h.oku.1,hq⟩⟩
end
theorem maxS_pos{a b:Cut}(h:cmC a b<0):maxS cmC a b=b:=if_pos h
theorem maxS_neg{a b:Cut}(h:¬cmC a b<0):maxS cmC a b=a:=if_neg h
theorem minS_pos{a b:Cut}(h:cmC b a<0):minS cmC a b=b:=if_pos h
theorem minS_neg{a b:Cut}(h:¬cmC b a<0):minS cmC a b=a:=if_neg h
theorem meet_any(is js:List PI)(A B:Option Addr)(n c n' c':Nat)(w:World)(hT:Tabs w)(h:SI w A n c is)(h':SI w B n' c' js)(hn:n≤400000000)(hn':n'≤400000000):
 Calls Tryz.prog 63 #[.slice A n c,.slice B n' c'] w (NormOk (fun a=>inS cmC a (spansL (is.map ivP))∧inS cmC a (spansL (js.map ivP))) (n+n') w):=by
 obtain⟨j0,hj0,hy0,hy1,hy2⟩:=info_parts info_span
 have HT:=qD hT
 have H:=qD h
 have H':=qD h'
 have HL:=qD h.sr.ln
 have HL':=qD h'.sr.ln
 clear hT h h'
 go_enter Tryz.func63,Tryz.ntmps63
 go_wp2_with fail
 refine(spans_any is A n c _ HT.out H.out (by omega)).mono ?_
 rintro e w1 ⟨A1,m1,c1,xs,rfl,hxs,_,hm1,hss,hb1⟩
 have HX:=qD hxs
 have HS1:=qD hss
 have HX1:=qD hss.sr.ln
 have HB1:=qD hb1
 have hm1n:m1≤n:=by have:=HL.out;omega
 clear hxs hss hb1 hm1
 go_wp2_with fail
 refine(merged_any xs A1 m1 c1 _ HS1.out (by omega)).mono ?_
 rintro e w2 ⟨A2,nl,c2,ys,rfl,⟨S,hS,hys⟩,_,_,hss2,hm2,hb2⟩
 have HY:=qD (hS.merge (span_ne HX.out))
 rw[←hys] at HY
 have HS2:=qD hss2
 have HB2:=qD (HB1.out.step' hb2)
 have hnl:nl≤n:=by have:=HX1.out;omega
 clear hS hys hss2 hm2 hb2 HB1 HS1
 go_wp2_with fail
 refine(spans_any js B n' c' _ (HT.out.step HB2.out) (H'.out.step HB2.out) (by omega)).mono ?_
 rintro e w3 ⟨A3,m3,c3,xs',rfl,hxs,_,hm3,hss,hb3⟩
 have HX':=qD hxs
 have HS3:=qD hss
 have HX3:=qD hss.sr.ln
 have HB3:=qD (HB2.out.step' hb3)
 have HL3:=qD (HS2.out.step hb3)
 have hm3n:m3≤n':=by have:=HL'.out;omega
 clear hxs hss hb3 hm3 HS2 HB2
 go_wp2_with fail
 refine(merged_any xs' A3 m3 c3 _ HS3.out (by omega)).mono ?_
 rintro e w4 ⟨A4,nr,c4,zs,rfl,⟨S',hS',hzs⟩,_,_,hss4,hm4,hb4⟩
 have HZ:=qD (hS'.merge (span_ne HX'.out))
 rw[←hzs] at HZ
 have HR:=qD hss4
 have HLf:=qD (HL3.out.step hb4)
 have HB4:=qD (HB3.out.step' hb4)
 have hnr:nr≤n':=by have:=HX3.out;omega
 have HLl:=qD HLf.out.sr.ln
 have HRl:=qD hss4.sr.ln
 have NL:Hid (NF cmC VC1 (ys.map spP)):=qD HY.out.1.1
 have NR:Hid (NF cmC VC1 (zs.map spP)):=qD HZ.out.1.1
 clear hS' hzs hss4 hm4 hb4 HB3 HL3 HS3
 go_wp2_with fail
 go_loopw [7,8,9] (fun v7 v8 v9 wr=>∃(i k:Nat) (cs:List PS),i≤nl∧k≤nr∧v8=.int .i64 i∧v9=.int .i64 k∧MtI w4 (ys.map spP) (zs.map spP) i k v7 cs wr) (fun _ v8 v9 _=>(nl-(intOf v8).toNat)+(nr-(intOf v9).toNat))
 case atStart=>exact⟨0,0,[],Nat.zero_le _,Nat.zero_le _,rfl,rfl,⟨own_nil _ _ _ _,MeI.start,qL,by simp,Below.refl _ _⟩⟩
 case round=>
  obtain⟨i,k,cs,hi,hk,rfl,rfl,I⟩:=hrel
  have J:=qD I
  by_cases hgo:i<nl∧k<nr
  ·obtain⟨hlt,hkt⟩:=hgo
   obtain⟨s,hs⟩:∃s,ys[i]?=some s:=⟨_,List.getElem?_eq_getElem (by have:=HLl.out;omega)⟩
   obtain⟨t,ht⟩:∃t,zs[k]?=some t:=⟨_,List.getElem?_eq_getElem (by have:=HRl.out;omega)⟩
   obtain⟨b,off,rfl,hbl,hat,hoks⟩:=HLf.out.at hs
   obtain⟨b',off',rfl,hbl',hat',hokt⟩:=HR.out.at ht
   have DL:Hid ((ys.map spP).drop i=spP s::(ys.map spP).drop (i+1)):=qD (drop_of (by rw[List.getElem?_map,hs];rfl))
   have DR:Hid ((zs.map spP).drop k=spP t::(zs.map spP).drop (k+1)):=qD (drop_of (by rw[List.getElem?_map,ht];rfl))
   have OS:=qD hoks
   have OT:=qD hokt
   have HAs:=qD hat
   have HAt:=qD hat'
   have hbr:b<wr.heap.size:=by have:=I.bel.size;omega
   have hle:=I.le
   obtain⟨⟨⟨p0,p1,p2,p3,p4⟩,p5⟩,⟨⟨q0,q1,q2,q3,q4⟩,q5⟩⟩:=hat.keep (I.bel.block b hbl)
   clear hs ht hat hat' hoks hokt I
   go_upto_region 6 with fail
   have KB:MtB w4 (ys.map spP) (zs.map spP) i k u7 cs wr.heap.size s (wr.alloc (.cells (arrS s) 140)):=
    ⟨J.out.step ((Below.refl wr.heap.size wr).alloc (qL) _),Blk.new_at rfl,J.out.bel.size,fun e=>absurd (own_lt J.out.own e) (by omega),OS.out⟩
   change (Code.region 6 _ _).wp _ _ _ (wr.alloc (.cells (arrS s) 140))
   generalize wr.alloc (.cells (arrS s) 140)=wa at*
   generalize wr.heap.size=ga at*
   have LB:=qD KB
   clear p0 p1 p2 p3 p4 p5 q0 q1 q2 q3 q4 q5 J KB hbr
   have hga:=LB.out.hg
   have hbg:b'≠ga:=by omega
   have hbg2:b≠ga:=by omega
   obtain⟨⟨⟨x0,x1,x2,x3,x4⟩,x5⟩,_⟩:=SAt.of_blk LB.out.b
   obtain⟨⟨⟨y0,y1,y2,y3,y4⟩,y5⟩,_⟩:=HAt.out.keep (LB.out.i.bel.block b' hbl')
   have X0:∀kk:BW wa,kk.val.cell? ⟨ga,0,none⟩=some (.int .i64 s.1.1.1.k):=fun kk=>kk.cell x0
   have X1:∀kk:BW wa,kk.val.cell? ⟨ga,1,none⟩=some (.int .i64 s.1.1.1.n):=fun kk=>kk.cell x1
   have X2:∀kk:BW wa,kk.val.cell? ⟨ga,2,none⟩=some (.string s.1.1.1.t):=fun kk=>kk.cell x2
   have X3:∀kk:BW wa,kk.val.cell? ⟨ga,3,none⟩=some (.slice s.1.1.1.LA s.1.1.1.ln s.1.1.1.lc):=fun kk=>kk.cell x3
   have X4:∀kk:BW wa,kk.val.cell? ⟨ga,4,none⟩=some (.slice s.1.1.1.DA s.1.1.1.dn s.1.1.1.dc):=fun kk=>kk.cell x4
   have X5:∀kk:BW wa,kk.val.cell? ⟨ga,5,none⟩=some (.bool s.1.2):=fun kk=>kk.cell x5
   have Y0:∀kk:BW wa,kk.val.cell? ⟨b',off'+k*12,none⟩=some (.int .i64 t.1.1.1.k):=fun kk=>kk.cell y0
   have Y1:∀kk:BW wa,kk.val.cell? ⟨b',off'+k*12+1,none⟩=some (.int .i64 t.1.1.1.n):=fun kk=>kk.cell y1
   have Y2:∀kk:BW wa,kk.val.cell? ⟨b',off'+k*12+2,none⟩=some (.string t.1.1.1.t):=fun kk=>kk.cell y2
   have Y3:∀kk:BW wa,kk.val.cell? ⟨b',off'+k*12+3,none⟩=some (.slice t.1.1.1.LA t.1.1.1.ln t.1.1.1.lc):=fun kk=>kk.cell y3
   have Y4:∀kk:BW wa,kk.val.cell? ⟨b',off'+k*12+4,none⟩=some (.slice t.1.1.1.DA t.1.1.1.dn t.1.1.1.dc):=fun kk=>kk.cell y4
   have Y5:∀kk:BW wa,kk.val.cell? ⟨b',off'+k*12+5,none⟩=some (.bool t.1.2):=fun kk=>kk.cell y5
   have i0:(0:Int)≤(k:Int):=by omega
   have i1:(k:Int)<(nr:Int):=by omega
   have K1:Hid (∀kk:BW wa,Calls Tryz.prog 119 #[aggK s.1,aggK t.1] kk.val fun e w''=>e=.returned (.int .i64 (cmC (cutP s.1) (cutP t.1)))∧∃kk:BW wa,w''=kk.val):=fun kk=>
    Calls.bw (compare_any s.1 t.1 kk.val ((OS.out.1.step LB.out.i.bel).step kk.below) ((OT.out.1.step LB.out.i.bel).step kk.below))
   clear x0 x1 x2 x3 x4 x5 y0 y1 y2 y3 y4 y5
   refine wp_region_bw (by kernel_rfl) (by kernel_rfl) ?_
   repeat(go_big_quiet_step (with_reducible exact K1.out _))
   refine wpQuiet_nil ?_
   rintro _ ⟨kw,rfl⟩
   have L1:=qD (LB.out.step kw.below)
   clear X0 X1 X2 X3 X4 X5 Y0 Y1 Y2 Y3 Y4 Y5 K1 i0 i1 LB
   generalize kw.val=wb at*
   go_upto_if 39 with fail
   go_cut [] (fun wx=>∃f:PC,cutP f=maxS cmC (cutP s.1) (cutP t.1)∧MtB w4 (ys.map spP) (zs.map spP) i k u7 cs ga (f,s.2) wx)
   case first=>
    by_cases hc:cmC (cutP s.1) (cutP t.1)<0
    ·have HC:=qD hc
     obtain⟨⟨⟨x0,x1,x2,x3,x4⟩,x5⟩,_⟩:=SAt.of_blk L1.out.b
     obtain⟨⟨⟨y0,y1,y2,y3,y4⟩,y5⟩,_⟩:=HAt.out.keep (L1.out.i.bel.block b' hbl')
     have z:=L1.out.b.frozen
     go_wp2_with fail
     go_meet
     exact⟨t.1,(maxS_pos HC.out).symm,L1.out.put1 t.1 OT.out.1⟩
    ·have HC:=qD hc
     go_wp2_with fail
     go_meet
     exact⟨s.1,(maxS_neg (by have:=HC.out;omega)).symm,L1.out⟩
   case rest=>
    obtain⟨f,hf,L2'⟩:=hcut
    have HFm:=qD hf
    have L2:=qD L2'
    clear hf L2' L1
    obtain⟨_,⟨⟨y0,y1,y2,y3,y4⟩,y5⟩⟩:=SAt.of_blk L2.out.b
    obtain⟨_,⟨⟨x0,x1,x2,x3,x4⟩,x5⟩⟩:=HAt.out.keep (L2.out.i.bel.block b' hbl')
    go_upto_region 8 with fail
    have X0:∀kk:BW wc,kk.val.cell? ⟨b',off'+k*12+6,none⟩=some (.int .i64 t.2.1.1.k):=fun kk=>kk.cell x0
    have X1:∀kk:BW wc,kk.val.cell? ⟨b',off'+k*12+6+1,none⟩=some (.int .i64 t.2.1.1.n):=fun kk=>kk.cell x1
    have X2:∀kk:BW wc,kk.val.cell? ⟨b',off'+k*12+6+2,none⟩=some (.string t.2.1.1.t):=fun kk=>kk.cell x2
    have X3:∀kk:BW wc,kk.val.cell? ⟨b',off'+k*12+6+3,none⟩=some (.slice t.2.1.1.LA t.2.1.1.ln t.2.1.1.lc):=fun kk=>kk.cell x3
    have X4:∀kk:BW wc,kk.val.cell? ⟨b',off'+k*12+6+4,none⟩=some (.slice t.2.1.1.DA t.2.1.1.dn t.2.1.1.dc):=fun kk=>kk.cell x4
    have X5:∀kk:BW wc,kk.val.cell? ⟨b',off'+k*12+6+5,none⟩=some (.bool t.2.2):=fun kk=>kk.cell x5
    have Y0:∀kk:BW wc,kk.val.cell? ⟨ga,6,none⟩=some (.int .i64 s.2.1.1.k):=fun kk=>kk.cell y0
    have Y1:∀kk:BW wc,kk.val.cell? ⟨ga,7,none⟩=some (.int .i64 s.2.1.1.n):=fun kk=>kk.cell y1
    have Y2:∀kk:BW wc,kk.val.cell? ⟨ga,8,none⟩=some (.string s.2.1.1.t):=fun kk=>kk.cell y2
    have Y3:∀kk:BW wc,kk.val.cell? ⟨ga,9,none⟩=some (.slice s.2.1.1.LA s.2.1.1.ln s.2.1.1.lc):=fun kk=>kk.cell y3
    have Y4:∀kk:BW wc,kk.val.cell? ⟨ga,10,none⟩=some (.slice s.2.1.1.DA s.2.1.1.dn s.2.1.1.dc):=fun kk=>kk.cell y4
    have Y5:∀kk:BW wc,kk.val.cell? ⟨ga,11,none⟩=some (.bool s.2.2):=fun kk=>kk.cell y5
    have i0:(0:Int)≤(k:Int):=by omega
    have i1:(k:Int)<(nr:Int):=by omega
    have K1:Hid (∀kk:BW wc,Calls Tryz.prog 119 #[aggK t.2,aggK s.2] kk.val fun e w''=>e=.returned (.int .i64 (cmC (cutP t.2) (cutP s.2)))∧∃kk:BW wc,w''=kk.val):=fun kk=>
     Calls.bw (compare_any t.2 s.2 kk.val ((OT.out.2.step L2.out.i.bel).step kk.below) ((OS.out.2.step L2.out.i.bel).step kk.below))
    clear x0 x1 x2 x3 x4 x5 y0 y1 y2 y3 y4 y5
    refine wp_region_bw (by kernel_rfl) (by kernel_rfl) ?_
    repeat(go_big_quiet_step (with_reducible exact K1.out _))
    refine wpQuiet_nil ?_
    rintro _ ⟨kw,rfl⟩
    have L3:=qD (L2.out.step kw.below)
    clear X0 X1 X2 X3 X4 X5 Y0 Y1 Y2 Y3 Y4 Y5 K1 i0 i1 L2
    generalize kw.val=wd at*
    go_upto_if 54 with fail
    go_cut [] (fun wx=>∃g:PC,cutP g=minS cmC (cutP s.2) (cutP t.2)∧MtB w4 (ys.map spP) (zs.map spP) i k u7 cs ga (f,g) wx)
    case first=>
     by_cases hc:cmC (cutP t.2) (cutP s.2)<0
     ·have HC:=qD hc
      obtain⟨_,⟨⟨x0,x1,x2,x3,x4⟩,x5⟩⟩:=SAt.of_blk L3.out.b
      obtain⟨_,⟨⟨y0,y1,y2,y3,y4⟩,y5⟩⟩:=HAt.out.keep (L3.out.i.bel.block b' hbl')
      have z:=L3.out.b.frozen
      go_wp2_with fail
      go_meet
      exact⟨t.2,(minS_pos HC.out).symm,L3.out.put2 t.2 OT.out.2⟩
     ·have HC:=qD hc
      go_wp2_with fail
      go_meet
      exact⟨s.2,(minS_neg (by have:=HC.out;omega)).symm,L3.out⟩
    case rest=>
     obtain⟨g,hg,L4'⟩:=hcut
     have HGm:=qD hg
     have L4:=qD L4'
     clear hg L4' L3
     obtain⟨⟨⟨x0,x1,x2,x3,x4⟩,x5⟩,⟨⟨y0,y1,y2,y3,y4⟩,y5⟩⟩:=SAt.of_blk L4.out.b
     go_wp2_with fail
     refine(compare_any f g _ (L4.out.oku.1.step L4.out.i.bel) (L4.out.oku.2.step L4.out.i.bel)).mono ?_
     rintro e w6 ⟨rfl,hb6⟩
     have L5:=qD (L4.out.step hb6)
     clear hb6 x0 x1 x2 x3 x4 x5 y0 y1 y2 y3 y4 y5 L4
     go_upto_if 66 with fail
     go_cut [7] (fun v7 wx=>∃ds:List PS,wx.ownsRow w4.heap.size 140 12 v7 ds.length (flat recS ds)∧ds.map spP=addS cmC (cs.map spP) (cutP f,cutP g)∧ds.length≤i+k+1∧(∀x∈ds,okS w4 x)∧Below w4.heap.size w4 wx)
     case first=>
      by_cases hc:cmC (cutP f) (cutP g)<0
      ·have HC:=qD hc
       obtain⟨⟨⟨x0,x1,x2,x3,x4⟩,x5⟩,⟨⟨y0,y1,y2,y3,y4⟩,y5⟩⟩:=SAt.of_blk L5.out.b
       have hlo6:w4.heap.size≤w6.heap.size:=L5.out.i.bel.size
       have LK:=qD (L5.out.i.step ((Below.refl w6.heap.size w6).alloc (qL) (Obj.cells (arrS (f,g)) 140)))
       go_wp2_with (at_builtin;refine wpList_append_any _ rfl _ _ 136 rfl w4.heap.size 140 j0 (aggS (((VC.zero,Val.zero),false),((VC.zero,Val.zero),false))) 12 176 Tryz.underlying136 hj0 hy0 hy1 hy2 rfl (by decide) u7 cs.length (flat recS cs) rfl LK.out.own _ _ 1 _ (recS (f,g)) rfl ⟨rfl,fun _=>⟨_,rfl,Nat.lt_succ_self _,news_at _ _ _⟩⟩ (recS_one _) (by unfold maxLen;omega) (by omega) (le_alloc hlo6 _) ?_)
       intro v' w7 hown hg7 _
       have HOw:=qD hown
       have HBw:=qD (LK.out.bel.grown hg7 LK.out.bel.size (own_ge LK.out.own))
       clear hown hg7
       go_wp2_with fail
       go_meet
       refine⟨cs++[(f,g)],by rw[flat_snoc,List.length_append];exact HOw.out,?_,by simp;omega,fun x hx=>?_,HBw.out⟩
       ·rw[addS_pos (u:=(cutP f,cutP g)) HC.out,List.map_append,List.map_singleton];rfl
       ·rcases List.mem_append.1 hx with hx|hx
        ·exact L5.out.i.ok x hx
        ·simp at hx;subst hx;exact L5.out.oku
      ·have HC:=qD hc
       go_wp2_with fail
       go_meet
       exact⟨cs,L5.out.i.own,by rw[addS_neg (u:=(cutP f,cutP g)) (by show ¬cmC (cutP f) (cutP g)<0;have:=HC.out;omega)],by omega,L5.out.i.ok,L5.out.i.bel⟩
     case rest=>
      obtain⟨ds,hown,hds,hdl,hok,hbw⟩:=hcut
      have hme:=L5.out.i.me
      rw[DL.out,DR.out] at hme
      have hnl2:NF cmC VC1 (spP s::(ys.map spP).drop (i+1)):=by rw[←DL.out];exact⟨fun z hz=>NL.out.ne z (List.mem_of_mem_drop hz),NL.out.ord.sublist (List.drop_sublist _ _)⟩
      have hnr2:NF cmC VC1 (spP t::(zs.map spP).drop (k+1)):=by rw[←DR.out];exact⟨fun z hz=>NR.out.ne z (List.mem_of_mem_drop hz),NR.out.ord.sublist (List.drop_sublist _ _)⟩
      have hds2:ds.map spP=addS cmC (cs.map spP) (maxS cmC (spP s).1 (spP t).1,minS cmC (spP s).2 (spP t).2):=by rw[hds,HFm.out,HGm.out];rfl
      have IL:Hid (cmC (cutP s.2) (cutP t.2)<0→∀wy,Below wc.heap.size wc wy→MtI w4 (ys.map spP) (zs.map spP) (i+1) k u7 ds wy):=qD fun hc wy hy=>
       ⟨own_step hown hy,by rw[hds2,DR.out];exact hme.left lin_cut hnl2 hnr2 hc,by omega,hok,hbw.step' hy⟩
      have IR:Hid (¬cmC (cutP s.2) (cutP t.2)<0→∀wy,Below wc.heap.size wc wy→MtI w4 (ys.map spP) (zs.map spP) i (k+1) u7 ds wy):=qD fun hc wy hy=>
       ⟨own_step hown hy,by rw[hds2,DL.out];exact hme.right lin_cut hnl2 hnr2 hc,by omega,hok,hbw.step' hy⟩
      have HBw:=qD hbw
      clear hown hds hds2 hdl hok hbw hme hnl2 hnr2 L5
      obtain⟨_,⟨⟨x0,x1,x2,x3,x4⟩,x5⟩⟩:=HAs.out.keep (HBw.out.block b hbl)
      obtain⟨_,⟨⟨y0,y1,y2,y3,y4⟩,y5⟩⟩:=HAt.out.keep (HBw.out.block b' hbl')
      go_upto_region 12 with fail
      have X0:∀kk:BW wc,kk.val.cell? ⟨b,off+i*12+6,none⟩=some (.int .i64 s.2.1.1.k):=fun kk=>kk.cell x0
      have X1:∀kk:BW wc,kk.val.cell? ⟨b,off+i*12+6+1,none⟩=some (.int .i64 s.2.1.1.n):=fun kk=>kk.cell x1
      have X2:∀kk:BW wc,kk.val.cell? ⟨b,off+i*12+6+2,none⟩=some (.string s.2.1.1.t):=fun kk=>kk.cell x2
      have X3:∀kk:BW wc,kk.val.cell? ⟨b,off+i*12+6+3,none⟩=some (.slice s.2.1.1.LA s.2.1.1.ln s.2.1.1.lc):=fun kk=>kk.cell x3
      have X4:∀kk:BW wc,kk.val.cell? ⟨b,off+i*12+6+4,none⟩=some (.slice s.2.1.1.DA s.2.1.1.dn s.2.1.1.dc):=fun kk=>kk.cell x4
      have X5:∀kk:BW wc,kk.val.cell? ⟨b,off+i*12+6+5,none⟩=some (.bool s.2.2):=fun kk=>kk.cell x5
      have Y0:∀kk:BW wc,kk.val.cell? ⟨b',off'+k*12+6,none⟩=some (.int .i64 t.2.1.1.k):=fun kk=>kk.cell y0
      have Y1:∀kk:BW wc,kk.val.cell? ⟨b',off'+k*12+6+1,none⟩=some (.int .i64 t.2.1.1.n):=fun kk=>kk.cell y1
      have Y2:∀kk:BW wc,kk.val.cell? ⟨b',off'+k*12+6+2,none⟩=some (.string t.2.1.1.t):=fun kk=>kk.cell y2
      have Y3:∀kk:BW wc,kk.val.cell? ⟨b',off'+k*12+6+3,none⟩=some (.slice t.2.1.1.LA t.2.1.1.ln t.2.1.1.lc):=fun kk=>kk.cell y3
      have Y4:∀kk:BW wc,kk.val.cell? ⟨b',off'+k*12+6+4,none⟩=some (.slice t.2.1.1.DA t.2.1.1.dn t.2.1.1.dc):=fun kk=>kk.cell y4
      have Y5:∀kk:BW wc,kk.val.cell? ⟨b',off'+k*12+6+5,none⟩=some (.bool t.2.2):=fun kk=>kk.cell y5
      have i0:(0:Int)≤(k:Int):=by omega
      have i1:(k:Int)<(nr:Int):=by omega
      have i2:(0:Int)≤(i:Int):=by omega
      have i3:(i:Int)<(nl:Int):=by omega
      have K1:Hid (∀kk:BW wc,Calls Tryz.prog 119 #[aggK s.2,aggK t.2] kk.val fun e w''=>e=.returned (.int .i64 (cmC (cutP s.2) (cutP t.2)))∧∃kk:BW wc,w''=kk.val):=fun kk=>
       Calls.bw (compare_any s.2 t.2 kk.val ((OS.out.2.step HBw.out).step kk.below) ((OT.out.2.step HBw.out).step kk.below))
      clear x0 x1 x2 x3 x4 x5 y0 y1 y2 y3 y4 y5
      refine wp_region_bw (by kernel_rfl) (by kernel_rfl) ?_
      repeat(go_big_quiet_step (with_reducible exact K1.out _))
      refine wpQuiet_nil ?_
      rintro _ ⟨kw,rfl⟩
      have LK8:=qD kw.below
      clear X0 X1 X2 X3 X4 X5 Y0 Y1 Y2 Y3 Y4 Y5 K1 i0 i1 i2 i3
      generalize kw.val=w8 at*
      by_cases hc:cmC (cutP s.2) (cutP t.2)<0
      ·have HI:=qD (IL.out hc _ LK8.out)
       go_wp2_with fail
       go_roundw
       case rel=>exact⟨i+1,k,ds,by omega,by omega,by go_num,rfl,HI.out⟩
       case measure=>simp[intOf];omega
      ·have HI:=qD (IR.out (by omega) _ LK8.out)
       go_wp2_with fail
       go_roundw
       case rel=>exact⟨i,k+1,ds,by omega,by omega,rfl,by go_num,HI.out⟩
       case measure=>simp[intOf];omega
  ·have hend:(ys.map spP).drop i=[]∨(zs.map spP).drop k=[]:=by
    have h1:=HLl.out
    have h2:=HRl.out
    by_cases hx:i<nl
    ·exact .inr (List.drop_of_length_le (by rw[List.length_map];omega))
    ·exact .inl (List.drop_of_length_le (by rw[List.length_map];omega))
   have HD:=qD (I.me.done hend)
   obtain⟨A8,c8,hv,hs8⟩:=SS.of_own I.own rfl (by have:=I.le;unfold reach;omega) (fun x hx=>(I.ok x hx).step I.bel)
   have hle:=I.le
   subst hv
   obtain⟨q,hq⟩:∃q,q=cs.length:=⟨_,rfl⟩
   have HS8:=qD hs8
   rw[←hq] at HS8 hle ⊢
   have HQ:=qD hq
   have HBr:=qD (HB4.out.step' I.bel)
   have ways:(¬i<nl)∨(i<nl∧¬k<nr):=by omega
   clear I J hgo hend hs8 hq
   rcases ways with hw1|⟨hw1,hw2⟩
   all_goals
    go_wp2_with fail
    refine(intervals_any cs A8 q c8 _ HS8.out (by omega)).mono ?_
    rintro e w9 ⟨A9,m9,c9,ts,rfl,hts,hsi,hb9⟩
    have HTs:=qD hts
    have HS9:=qD hsi
    have HB9:=qD (HBr.out.step' hb9)
    have HT9:=qD hsi.sr.ln
    clear hts hsi hb9
    go_wp2_with fail
    go_ret
    refine⟨A9,m9,c9,ts,cs.map spP,rfl,by rw[HTs.out,List.map_map];rfl,⟨HD.out.1,fun a=>?_⟩,?_,HS9.out,HB9.out⟩
    ·have hy:inS cmC a (ys.map spP)↔inS cmC a (spansL (is.map ivP)):=by rw[←HX.out];exact HY.out.1.2 a
     have hz:inS cmC a (zs.map spP)↔inS cmC a (spansL (js.map ivP)):=by rw[←HX'.out];exact HZ.out.1.2 a
     exact(HD.out.2 a).trans (and_congr hy hz)
    ·have h1:=congrArg List.length HTs.out
     simp only[List.length_map] at h1
     have:=HT9.out;have:=HQ.out
     omega
theorem rall_any(w:World):Calls Tryz.prog 55 #[] w (NormOk (fun a=>inS cmC a (spansL [allIv])) 1 w):=by
 go_enter Tryz.func55,Tryz.ntmps55
 go_wp2_with fail
 go_ret
 exact⟨_,1,1,[pAll],_,rfl,rfl,all_nf,qL,si_one (Blk.new_at rfl) ⟨rw_min _,rw_max _⟩,(Below.refl _ _).alloc (qL) _⟩
theorem norm_same{S T:Cut→Prop}{ys zs:List PI}{n m:List (Cut×Cut)}(h1:ys.map ivP=n.map ivOf)(h2:zs.map ivP=m.map ivOf)(k1:IsNF S n)(k2:IsNF T m)(e:∀a,VC1 a→(S a↔T a)):ys.map ivP=zs.map ivP:=by
 rw[h1,h2,k1.unique k2 e]
def vI(n:Int):Val:=.mk 3 n ByteArray.empty [] []
abbrev cI(n:Int):VC:=⟨3,n,ByteArray.empty,none,0,0,none,0,0⟩
theorem valid_int(n:Int):validV (vI n)=true:=by
 refine validV_of ?_ ?_ ?_
 ·rw[size_parts];unfold Val.parts;rw[if_neg (by show ¬(3:Int)=6;omega),if_neg (by show ¬(3:Int)=5;omega)];simp[sizeL]
 ·rw[height_parts];unfold Val.parts;rw[if_neg (by show ¬(3:Int)=6;omega),if_neg (by show ¬(3:Int)=5;omega)];simp[heightL]
 ·exact(SoundV_iff _ _).2 ⟨by simp[HeadP,vI,Val.k,Val.n,Val.t,Val.l,Val.d],by simp[vI,Val.l],by simp[vI,Val.d],by simp[vI,Val.d,NamesP]⟩
def cuI(n:Int)(b:Bool):Cut:=(vI n,b)
theorem cm_int(a b:Int)(x y:Bool):cmC (cuI a x) (cuI b y)=lex (cmpI a b) (cmB x y):=by
 unfold cmC cuI
 rw[cmpV_int (x:=vI a) (y:=vI b) rfl (.inl rfl)]
 rfl
theorem V_int(n:Int)(b:Bool):VC1 (cuI n b):=valid_int n
abbrev ivI(a b:Int)(li hi:Bool):Iv:=⟨vI a,vI b,li,hi⟩
theorem ne_int{a b:Int}{li hi:Bool}(h:lex (cmpI a b) (cmB (!li) hi)<0):(ivI a b li hi).ne=true:=by
 have h2:cmC (ivI a b li hi).sp.1 (ivI a b li hi).sp.2<0:=by
  show cmC (cuI a (!li)) (cuI b hi)<0
  rw[cm_int];exact h
 unfold Iv.ne
 rw[decide_eq_true h2]
 show(validV (vI a)&&validV (vI b)&&true)=true
 rw[valid_int,valid_int];rfl
theorem spansL_all{l:List Iv}(h:∀x∈l,x.ne=true):spansL l=l.map Iv.sp:=by unfold spansL;rw[List.filter_eq_self.2 h]
theorem min_lt_int(n:Int)(b:Bool):cmC (vMin,false) (cuI n b)<0:=by
 rw[cmC_ne (a:=(vMin,false)) (b:=cuI n b) (by show cmpV vMin (vI n)≠0;rw[cmpV_kind (by show(1:Int)≠3;omega)];show cmpI 1 3≠0;decide)]
 show cmpV vMin (vI n)<0
 rw[cmpV_kind (by show(1:Int)≠3;omega)]
 show cmpI 1 3<0
 decide
theorem int_lt_max(n:Int)(b:Bool):cmC (cuI n b) (vMax,true)<0:=by
 rw[cmC_ne (a:=cuI n b) (b:=(vMax,true)) (by show cmpV (vI n) vMax≠0;rw[cmpV_kind (by show(3:Int)≠11;omega)];show cmpI 3 11≠0;decide)]
 show cmpV (vI n) vMax<0
 rw[cmpV_kind (by show(3:Int)≠11;omega)]
 show cmpI 3 11<0
 decide
theorem flat_take{α:Type}{rec:α→List Value}{s:Nat}(hs:∀a,(rec a).length=s):∀(xs:List α) (k:Nat),(flat rec xs).take (k*s)=flat rec (xs.take k):=by
 intro xs
 induction xs with
 | nil=>intro k;simp[flat]
 | cons a l ih=>
  intro k
  cases k with
  | zero=>simp[flat]
  | succ k=>
   have e:∀(y:α) (t:List α),flat rec (y::t)=rec y++flat rec t:=fun _ _=>rfl
   rw[List.take_succ_cons,e,e,←ih k,show(k+1)*s=(rec a).length+k*s by rw[hs,Nat.add_mul];omega,List.take_length_add_append]
theorem flat_drop{α:Type}{rec:α→List Value}{s:Nat}(hs:∀a,(rec a).length=s):∀(xs:List α) (k:Nat),(flat rec xs).drop (k*s)=flat rec (xs.drop k):=by
 intro xs
 induction xs with
 | nil=>intro k;simp[flat]
 | cons a l ih=>
  intro k
  cases k with
  | zero=>simp[flat]
  | succ k=>
   have e:∀(y:α) (t:List α),flat rec (y::t)=rec y++flat rec t:=fun _ _=>rfl
   rw[List.drop_succ_cons,e,←ih k,show(k+1)*s=(rec a).length+k*s by rw[hs,Nat.add_mul];omega,List.drop_length_add_append]
theorem Reads.take{w:World}{B size n:Nat}{A:Option Addr}{xs:List Value}(h:Reads w B size A n xs){k:Nat}(hk:k≤n):Reads w B size A k (xs.take (k*size)):=by
 refine⟨by rw[List.length_take,h.1];exact Nat.min_eq_left (Nat.mul_le_mul_right _ hk),fun hn=>?_⟩
 obtain⟨ad,rfl,hb,hc⟩:=h.2 (by omega)
 refine⟨ad,rfl,hb,fun j u hu=>hc j u ?_⟩
 rw[List.getElem?_take] at hu
 split at hu
 ·exact hu
 ·cases hu
theorem Blk.setCells{g:Nat}{t:TypeId}:∀(vs:List Value) {l:List Value} (o:Nat) {w:World},Blk w g t l.toArray→Blk (w.setCells g o vs) g t (setList l o vs).toArray
 | [],_,_,_,h=>h
 | v::r,l,o,w,h=>by
  have h1:=h.set_ o v
  rw[show l.toArray.setIfInBounds o v=(l.set o v).toArray by simp] at h1
  exact Blk.setCells r (o+1) h1
theorem heap_setCells(g:Nat):∀(vs:List Value) (o:Nat) (w:World) (b:Nat),b≠g→(w.setCells g o vs).heap[b]?=w.heap[b]?
 | [],_,_,_,_=>rfl
 | v::r,o,w,b,h=>by
  rw[World.setCells,heap_setCells g r (o+1) _ b h]
  exact Below.heap_setCell w ⟨g,o,none⟩ v b h
theorem SI.reads{w:World}{A:Option Addr}{n c:Nat}{xs:List PI}(h:SI w A n c xs):Reads w w.heap.size 12 A n (flat recI xs):=by
 refine⟨by rw[flat_length recI_length,h.sr.ln],fun hp=>?_⟩
 obtain⟨b,off,e,hb,hel⟩:=h.sr.el hp
 cases e
 refine⟨_,rfl,hb,fun j u hu=>?_⟩
 have hj:=(List.getElem?_eq_some_iff.1 hu).1
 rw[flat_length recI_length] at hj
 obtain⟨a,v,g1,g2,g3⟩:=flat_at' recI_length (by omega) xs j hj
 have:=hel (j/12) a g1 (j%12) v g2
 rw[addr_add]
 rw[g3] at hu
 cases hu
 rw[show off+j=off+j/12*12+j%12 by omega]
 exact this
end Go.Proofs.YtfkdihlbaghajaaGreatDoor
