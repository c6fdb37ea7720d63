/- Parts of the proof, joined: ValRefCmp, MgRef, RefSort, MgCarI, MgSortW. -/
import Derived.Test.YtlicnjecnehaoaaGreatDoorRa1
import Derived.Test.YtlicnjecnehaoaaGreatDoorRa17
import Derived.Test.YtlicnjecnehaoaaGreatDoorRa18
import Derived.Test.YtlicnjecnehaoaaGreatDoorRa10
import Derived.Test.YtlicnjecnehaoaaGreatDoorRa4
import Derived.Test.YtlicnjecnehaoaaGreatDoorRa14
import Derived.Test.YtlicnjecnehaoaaGreatDoorRa11
import Derived.Test.YtlicnjecnehaoaaGreatDoorRa12
import Derived.Deep.RegionHeld3
import Derived.IntWalk
set_option maxRecDepth 100000
set_option maxHeartbeats 16000000
set_option linter.unusedSimpArgs false
namespace Go.Proofs.YtlicnjecnehaoaaGreatDoor
open Go.RowKit
def RCmpAt(x:Val):Prop:=∀(y:Val) (c d:VC) (w:World),RW w c x→RW w d y→
 Calls Tryz.prog 72 #[c.val,d.val] w fun e w'=>e=.returned (.int .i64 (cmpV x y))∧Below w.heap.size w w'
theorem rcmp_any:∀x,RCmpAt x:=by
 intro x
 induction x using Val.ind with
 | h k n t l d ihl ihd=>
 intro y c e w hx hy
 obtain⟨ck,cn,ct,cLA,cln,clc,cDA,cdn,cdc⟩:=c
 obtain⟨ek,en,et,eLA,eln,elc,eDA,edn,edc⟩:=e
 have hk:ck=k:=hx.open.k
 have hn:cn=n:=hx.open.n
 have ht:ct=t:=hx.open.t
 subst hk hn ht
 have hk2:ek=y.k:=hy.open.k
 have hn2:en=y.n:=hy.open.n
 have ht2:et=y.t:=hy.open.t
 have I0:Hid (CpInv w ⟨ck,cn,ct,cLA,cln,clc,cDA,cdn,cdc⟩ ⟨ek,en,et,eLA,eln,elc,eDA,edn,edc⟩ ((w.alloc (.cells #[.int .i64 ck,.int .i64 cn,.string ct,.slice cLA cln clc,.slice cDA cdn cdc] 45)).alloc (.cells #[.int .i64 ek,.int .i64 en,.string et,.slice eLA eln elc,.slice eDA edn edc] 45))):=
  qD ⟨(Blk.new_at rfl).alloc _,Blk.new_at (by simp),((Below.refl _ _).alloc (qL) _).alloc (by simp) _⟩
 cases hne:(ck != ek)
 ·have he:ck=ek:=by simpa using hne
  have hxy:(Val.mk ck cn ct l d).k=y.k:=by rw[←hk2];exact he
  subst he
  rcases kind_ways ck with hi|ht' | hl|hd|ho
  ·have HV:Hid (cmpV (.mk ck cn ct l d) y=cmpI cn en):=by rw[Hid,cmpV_int hxy hi,hn2];rfl
   clear hx hy ihl ihd hk2 hn2 ht2 hxy
   rcases hi with rfl|rfl|rfl
   all_goals
    go_enter Tryz.func72,Tryz.ntmps72
    go_wp2_with fail
    refine(rints_any _ _ _).mono ?_
    rintro e w' ⟨rfl,rfl⟩
    go_wp2_with fail
    go_ret
    exact⟨by rw[HV.out];rfl,I0.out.bel⟩
  ·have HV:Hid (cmpV (.mk ck cn ct l d) y=cmpB ct et):=by rw[Hid,cmpV_text hxy ht',ht2];rfl
   have HT:Hid (ct.size≤reach):=hx.open.tsz
   clear hx hy ihl ihd hk2 hn2 ht2 hxy
   rcases ht' with rfl|rfl|rfl
   all_goals
    go_enter Tryz.func72,Tryz.ntmps72
    go_wp2_with fail
    refine(rtexts_any _ _ _ HT.out).mono ?_
    rintro e w' ⟨rfl,hb⟩
    go_wp2_with fail
    go_ret
    exact⟨by rw[HV.out];rfl,I0.out.bel.step' hb⟩
  ·have HV:=qD (cmpV_list hxy hl)
   obtain⟨ps,hps,hsl⟩:=hx.sl
   obtain⟨qs,hqs,hql⟩:=hy.sl
   simp only at hsl hql
   have hz1:=hsl.sz
   have hz2:=hql.sz
   unfold reach at hz1 hz2
   have P1:=qD hsl
   have P2:=qD hql
   have HN1:Hid (cln=l.length):=hx.open.ln
   have HN2:Hid (eln=y.l.length):=hy.open.ln
   have HS1:Hid (ps.map Prod.snd=l):=hps
   have HS2:Hid (qs.map Prod.snd=y.l):=hqs
   have IH:=qD ihl
   clear hx hy ihl ihd hk2 hn2 ht2 hxy hsl hql hps hqs
   subst hl
   all_goals
    go_enter Tryz.func72,Tryz.ntmps72
    go_wp2_with fail
    go_loopw [5] (fun v5 wr=>∃i:Nat,i≤cln∧i≤eln∧v5=.int .i64 i∧cmpL l y.l=cmpL (l.drop i) (y.l.drop i)∧CpInv w ⟨6,cn,ct,cLA,cln,clc,cDA,cdn,cdc⟩ ⟨6,en,et,eLA,eln,elc,eDA,edn,edc⟩ wr) (fun v5 _=>cln-(intOf v5).toNat)
    case atStart=>exact⟨0,Nat.zero_le _,Nat.zero_le _,rfl,rfl,I0.out⟩
    case round=>
     obtain⟨i,hi1,hi2,rfl,hq,I⟩:=hrel
     have HQ:=qD hq
     have J:=qD I
     have q0:=I.b0.cell 3
     have q1:=I.b1.cell 3
     simp at q0 q1
     clear hq
     by_cases hlt:i<cln∧i<eln
     ·obtain⟨hl1,hl2⟩:=hlt
      obtain⟨p,hp⟩:∃p,ps[i]?=some p:=⟨_,List.getElem?_eq_getElem (by have:=P1.out.sr.ln;omega)⟩
      obtain⟨q,hq⟩:∃q,qs[i]?=some q:=⟨_,List.getElem?_eq_getElem (by have:=P2.out.sr.ln;omega)⟩
      obtain⟨b1,o1,rfl,_,hu1,hr1⟩:=P1.out.vat hp
      obtain⟨b2,o2,rfl,_,hu2,hr2⟩:=P2.out.vat hq
      have g1:l[i]?=some p.2:=by rw[←HS1.out,List.getElem?_map,hp];rfl
      have g2:y.l[i]?=some q.2:=by rw[←HS2.out,List.getElem?_map,hq];rfl
      have HA:=qD (HQ.out.trans (cmpL_at g1 g2))
      obtain⟨y0,y1,y2,y3,y4⟩:=hu1.keep (I.bel.block b1 hu1.lt)
      obtain⟨z0,z1,z2,z3,z4⟩:=hu2.keep (I.bel.block b2 hu2.lt)
      have E0:∀q:BW wr,q.val.cell? ⟨w.heap.size,3,none⟩=some (.slice (some ⟨b1,o1,none⟩) cln clc):=fun q=>q.cell (J.out.b0.cell 3)
      have E1:∀q:BW wr,q.val.cell? ⟨w.heap.size+1,3,none⟩=some (.slice (some ⟨b2,o2,none⟩) eln elc):=fun q=>q.cell (J.out.b1.cell 3)
      have Y0:∀k:BW wr,k.val.cell? ⟨b1,o1+i*5,none⟩=some (.int .i64 p.1.k):=fun k=>k.cell y0
      have Y1:∀k:BW wr,k.val.cell? ⟨b1,o1+i*5+1,none⟩=some (.int .i64 p.1.n):=fun k=>k.cell y1
      have Y2:∀k:BW wr,k.val.cell? ⟨b1,o1+i*5+2,none⟩=some (.string p.1.t):=fun k=>k.cell y2
      have Y3:∀k:BW wr,k.val.cell? ⟨b1,o1+i*5+3,none⟩=some (.slice p.1.LA p.1.ln p.1.lc):=fun k=>k.cell y3
      have Y4:∀k:BW wr,k.val.cell? ⟨b1,o1+i*5+4,none⟩=some (.slice p.1.DA p.1.dn p.1.dc):=fun k=>k.cell y4
      have Z0:∀k:BW wr,k.val.cell? ⟨b2,o2+i*5,none⟩=some (.int .i64 q.1.k):=fun k=>k.cell z0
      have Z1:∀k:BW wr,k.val.cell? ⟨b2,o2+i*5+1,none⟩=some (.int .i64 q.1.n):=fun k=>k.cell z1
      have Z2:∀k:BW wr,k.val.cell? ⟨b2,o2+i*5+2,none⟩=some (.string q.1.t):=fun k=>k.cell z2
      have Z3:∀k:BW wr,k.val.cell? ⟨b2,o2+i*5+3,none⟩=some (.slice q.1.LA q.1.ln q.1.lc):=fun k=>k.cell z3
      have Z4:∀k:BW wr,k.val.cell? ⟨b2,o2+i*5+4,none⟩=some (.slice q.1.DA q.1.dn q.1.dc):=fun k=>k.cell z4
      have K1:Hid (∀k:BW wr,Calls Tryz.prog 72 #[p.1.val,q.1.val] k.val fun e w''=>e=.returned (.int .i64 (cmpV p.2 q.2))∧∃k:BW wr,w''=k.val):=fun k=>
       Calls.bw (IH.out p.2 (List.mem_of_getElem? g1) q.2 p.1 q.1 k.val ((hr1.step I.bel).step k.below) ((hr2.step I.bel).step k.below))
      have hi0:(0:Int)≤(i:Int):=by omega
      have hi3:(i:Int)<(cln:Int):=by omega
      have hi4:(i:Int)<(eln:Int):=by omega
      clear hp hq hu1 hu2 hr1 hr2 g1 g2 y0 y1 y2 y3 y4 z0 z1 z2 z3 z4 I
      go_upto_region 16 with fail
      refine wp_region_bw (by kernel_rfl) (by kernel_rfl) ?_
      repeat(go_big_quiet_step (with_reducible exact K1.out _))
      refine wpQuiet_nil ?_
      rintro _ ⟨kw,rfl⟩
      have J2:=qD (J.out.step kw.below)
      clear E0 E1 Y0 Y1 Y2 Y3 Y4 Z0 Z1 Z2 Z3 Z4 K1 hi0 hi3 hi4
      generalize kw.val=w2 at*
      cases hc:(cmpV p.2 q.2 != 0)
      ·have HC:Hid (cmpL l y.l=cmpL (l.drop (i+1)) (y.l.drop (i+1))):=by
        have:cmpV p.2 q.2=0:=by simpa using hc
        rw[Hid,HA.out,if_neg (by simpa using this)]
       go_wp2_with fail
       go_roundw
       case rel=>exact⟨i+1,by omega,by omega,by go_num,HC.out,J2.out⟩
       case measure=>simp[intOf];omega
      ·have HC:Hid (cmpL l y.l=cmpV p.2 q.2):=by
        rw[Hid,HA.out,if_pos (by simpa using hc)]
       go_wp2_with fail
       go_ret
       exact⟨by rw[HV.out];show _=Ending.returned (.int .i64 (cmpL l y.l));rw[HC.out];rfl,J2.out.bel⟩
     ·have HE:=qD (HQ.out.trans (cmpL_end (by have:=HN1.out;omega) (by have:=HN2.out;omega) (by have:=HN1.out;have:=HN2.out;omega)))
      clear I
      by_cases hl1:i<cln
      all_goals
       first|have hx9:eln≤i:=by omega|have hx9:cln≤i:=by omega
       go_wp2_with fail
       refine(rints_any _ _ _).mono ?_
       rintro e w' ⟨rfl,rfl⟩
       go_wp2_with fail
       go_ret
       exact⟨by rw[HV.out];show _=Ending.returned (.int .i64 (cmpL l y.l));rw[HE.out,←HN1.out,←HN2.out];rfl,J.out.bel⟩
  ·have HV:=qD (cmpV_doc hxy hd)
   obtain⟨ps,hps,hsl⟩:=hx.sd
   obtain⟨qs,hqs,hql⟩:=hy.sd
   simp only at hsl hql
   have hz1:=hsl.sz
   have hz2:=hql.sz
   unfold reach at hz1 hz2
   have P1:=qD hsl
   have P2:=qD hql
   have HN1:Hid (cdn=d.length):=hx.open.dn
   have HN2:Hid (edn=y.d.length):=hy.open.dn
   have HS1:Hid (ps.map Prod.snd=d):=hps
   have HS2:Hid (qs.map Prod.snd=y.d):=hqs
   have IH:=qD ihd
   clear hx hy ihl ihd hk2 hn2 ht2 hxy hsl hql hps hqs
   subst hd
   all_goals
    go_enter Tryz.func72,Tryz.ntmps72
    go_wp2_with fail
    go_loopw [7] (fun v7 wr=>∃i:Nat,i≤cdn∧i≤edn∧v7=.int .i64 i∧cmpD d y.d=cmpD (d.drop i) (y.d.drop i)∧CpInv w ⟨5,cn,ct,cLA,cln,clc,cDA,cdn,cdc⟩ ⟨5,en,et,eLA,eln,elc,eDA,edn,edc⟩ wr) (fun v7 _=>cdn-(intOf v7).toNat)
    case atStart=>exact⟨0,Nat.zero_le _,Nat.zero_le _,rfl,rfl,I0.out⟩
    case round=>
     obtain⟨i,hi1,hi2,rfl,hq,I⟩:=hrel
     have HQ:=qD hq
     have J:=qD I
     have q0:=I.b0.cell 4
     have q1:=I.b1.cell 4
     simp at q0 q1
     clear hq
     by_cases hlt:i<cdn∧i<edn
     ·obtain⟨hl1,hl2⟩:=hlt
      obtain⟨p,hp⟩:∃p,ps[i]?=some p:=⟨_,List.getElem?_eq_getElem (by have:=P1.out.sr.ln;omega)⟩
      obtain⟨q,hq⟩:∃q,qs[i]?=some q:=⟨_,List.getElem?_eq_getElem (by have:=P2.out.sr.ln;omega)⟩
      obtain⟨b1,o1,rfl,_,hs1,hu1,hr1⟩:=P1.out.vat hp
      obtain⟨b2,o2,rfl,_,hs2,hu2,hr2⟩:=P2.out.vat hq
      have g1:d[i]?=some p.2:=by rw[←HS1.out,List.getElem?_map,hp];rfl
      have g2:y.d[i]?=some q.2:=by rw[←HS2.out,List.getElem?_map,hq];rfl
      have HA:=qD (HQ.out.trans (cmpD_at g1 g2))
      obtain⟨y0,y1,y2,y3,y4⟩:=hu1.keep (I.bel.block b1 hu1.lt)
      obtain⟨z0,z1,z2,z3,z4⟩:=hu2.keep (I.bel.block b2 hu2.lt)
      have n0:=(I.bel.cell (p:=⟨b1,o1+i*6,none⟩) hu1.lt).trans hs1
      have n1:=(I.bel.cell (p:=⟨b2,o2+i*6,none⟩) hu2.lt).trans hs2
      have N0:∀k:BW wr,k.val.cell? ⟨b1,o1+i*6,none⟩=some (.string p.2.s):=fun k=>k.cell n0
      have N1:∀k:BW wr,k.val.cell? ⟨b2,o2+i*6,none⟩=some (.string q.2.s):=fun k=>k.cell n1
      have E0:∀q:BW wr,q.val.cell? ⟨w.heap.size,4,none⟩=some (.slice (some ⟨b1,o1,none⟩) cdn cdc):=fun q=>q.cell (J.out.b0.cell 4)
      have E1:∀q:BW wr,q.val.cell? ⟨w.heap.size+1,4,none⟩=some (.slice (some ⟨b2,o2,none⟩) edn edc):=fun q=>q.cell (J.out.b1.cell 4)
      have Y0:∀k:BW wr,k.val.cell? ⟨b1,o1+i*6+1,none⟩=some (.int .i64 p.1.k):=fun k=>k.cell y0
      have Y1:∀k:BW wr,k.val.cell? ⟨b1,o1+i*6+1+1,none⟩=some (.int .i64 p.1.n):=fun k=>k.cell y1
      have Y2:∀k:BW wr,k.val.cell? ⟨b1,o1+i*6+1+2,none⟩=some (.string p.1.t):=fun k=>k.cell y2
      have Y3:∀k:BW wr,k.val.cell? ⟨b1,o1+i*6+1+3,none⟩=some (.slice p.1.LA p.1.ln p.1.lc):=fun k=>k.cell y3
      have Y4:∀k:BW wr,k.val.cell? ⟨b1,o1+i*6+1+4,none⟩=some (.slice p.1.DA p.1.dn p.1.dc):=fun k=>k.cell y4
      have Z0:∀k:BW wr,k.val.cell? ⟨b2,o2+i*6+1,none⟩=some (.int .i64 q.1.k):=fun k=>k.cell z0
      have Z1:∀k:BW wr,k.val.cell? ⟨b2,o2+i*6+1+1,none⟩=some (.int .i64 q.1.n):=fun k=>k.cell z1
      have Z2:∀k:BW wr,k.val.cell? ⟨b2,o2+i*6+1+2,none⟩=some (.string q.1.t):=fun k=>k.cell z2
      have Z3:∀k:BW wr,k.val.cell? ⟨b2,o2+i*6+1+3,none⟩=some (.slice q.1.LA q.1.ln q.1.lc):=fun k=>k.cell z3
      have Z4:∀k:BW wr,k.val.cell? ⟨b2,o2+i*6+1+4,none⟩=some (.slice q.1.DA q.1.dn q.1.dc):=fun k=>k.cell z4
      have KB:Hid (∀(W:World),Below w.heap.size w W→∀k:BW W,Calls Tryz.prog 72 #[p.1.val,q.1.val] k.val fun e w''=>e=.returned (.int .i64 (cmpV p.2.v q.2.v))∧∃k:BW W,w''=k.val):=fun W hW k=>
       Calls.bw (IH.out p.2 (List.mem_of_getElem? g1) q.2.v p.1 q.1 k.val ((hr1.step hW).step k.below) ((hr2.step hW).step k.below))
      have hi0:(0:Int)≤(i:Int):=by omega
      have hi3:(i:Int)<(cdn:Int):=by omega
      have hi4:(i:Int)<(edn:Int):=by omega
      clear hq hu1 hu2 hr1 hr2 g1 g2 y0 y1 y2 y3 y4 z0 z1 z2 z3 z4 I hs1 hs2 n0 n1
      have K2:Hid (∀k:BW wr,Calls Tryz.prog 93 #[.string p.2.s,.string q.2.s] k.val fun e w''=>e=.returned (.int .i64 (cmpB p.2.s q.2.s))∧∃k:BW wr,w''=k.val):=fun k=>
       Calls.bw (rtexts_any _ _ _ (P1.out.ns p (List.mem_of_getElem? hp)))
      clear hp
      go_upto_region 24 with fail
      refine wp_region_bw (by kernel_rfl) (by kernel_rfl) ?_
      repeat(go_big_quiet_step (with_reducible exact K2.out _))
      refine wpQuiet_nil ?_
      rintro _ ⟨kw,rfl⟩
      clear q0 q1
      cases hb:(cmpB p.2.s q.2.s != 0)
      ·have hb0:(cmpB p.2.s q.2.s==0)=true:=by simpa using hb
       have HA':Hid (cmpD d y.d=if cmpV p.2.v q.2.v≠0 then cmpV p.2.v q.2.v else cmpD (d.drop (i+1)) (y.d.drop (i+1))):=by
        have:cmpB p.2.s q.2.s=0:=by simpa using hb
        rw[Hid,HA.out,if_neg (by simpa using this)]
       have J1:=qD (J.out.step kw.below)
       have E0':∀q:BW kw.val,q.val.cell? ⟨w.heap.size,4,none⟩=some (.slice (some ⟨b1,o1,none⟩) cdn cdc):=fun q=>q.cell (E0 kw)
       have E1':∀q:BW kw.val,q.val.cell? ⟨w.heap.size+1,4,none⟩=some (.slice (some ⟨b2,o2,none⟩) edn edc):=fun q=>q.cell (E1 kw)
       have Y0':∀k:BW kw.val,k.val.cell? ⟨b1,o1+i*6+1,none⟩=some (.int .i64 p.1.k):=fun k=>k.cell (Y0 kw)
       have Y1':∀k:BW kw.val,k.val.cell? ⟨b1,o1+i*6+1+1,none⟩=some (.int .i64 p.1.n):=fun k=>k.cell (Y1 kw)
       have Y2':∀k:BW kw.val,k.val.cell? ⟨b1,o1+i*6+1+2,none⟩=some (.string p.1.t):=fun k=>k.cell (Y2 kw)
       have Y3':∀k:BW kw.val,k.val.cell? ⟨b1,o1+i*6+1+3,none⟩=some (.slice p.1.LA p.1.ln p.1.lc):=fun k=>k.cell (Y3 kw)
       have Y4':∀k:BW kw.val,k.val.cell? ⟨b1,o1+i*6+1+4,none⟩=some (.slice p.1.DA p.1.dn p.1.dc):=fun k=>k.cell (Y4 kw)
       have Z0':∀k:BW kw.val,k.val.cell? ⟨b2,o2+i*6+1,none⟩=some (.int .i64 q.1.k):=fun k=>k.cell (Z0 kw)
       have Z1':∀k:BW kw.val,k.val.cell? ⟨b2,o2+i*6+1+1,none⟩=some (.int .i64 q.1.n):=fun k=>k.cell (Z1 kw)
       have Z2':∀k:BW kw.val,k.val.cell? ⟨b2,o2+i*6+1+2,none⟩=some (.string q.1.t):=fun k=>k.cell (Z2 kw)
       have Z3':∀k:BW kw.val,k.val.cell? ⟨b2,o2+i*6+1+3,none⟩=some (.slice q.1.LA q.1.ln q.1.lc):=fun k=>k.cell (Z3 kw)
       have Z4':∀k:BW kw.val,k.val.cell? ⟨b2,o2+i*6+1+4,none⟩=some (.slice q.1.DA q.1.dn q.1.dc):=fun k=>k.cell (Z4 kw)
       have K1':Hid (∀k:BW kw.val,Calls Tryz.prog 72 #[p.1.val,q.1.val] k.val fun e w''=>e=.returned (.int .i64 (cmpV p.2.v q.2.v))∧∃k:BW kw.val,w''=k.val):=fun k=>
        KB.out kw.val (J1.out.bel) k
       clear E0 E1 Y0 Y1 Y2 Y3 Y4 Z0 Z1 Z2 Z3 Z4 N0 N1 K2
       generalize kw.val=w2 at*
       go_upto_region 26 with fail
       refine wp_region_bw (by kernel_rfl) (by kernel_rfl) ?_
       repeat(go_big_quiet_step (with_reducible exact K1'.out _))
       refine wpQuiet_nil ?_
       rintro _ ⟨kv,rfl⟩
       have J2:=qD (J1.out.step kv.below)
       clear E0' E1' Y0' Y1' Y2' Y3' Y4' Z0' Z1' Z2' Z3' Z4' K1' hi0 hi3 hi4
       generalize kv.val=w3 at*
       cases hc:(cmpV p.2.v q.2.v != 0)
       ·have HC:Hid (cmpD d y.d=cmpD (d.drop (i+1)) (y.d.drop (i+1))):=by
         have:cmpV p.2.v q.2.v=0:=by simpa using hc
         rw[Hid,HA'.out,if_neg (by simpa using this)]
        go_wp2_with fail
        go_roundw
        case rel=>exact⟨i+1,by omega,by omega,by go_num,HC.out,J2.out⟩
        case measure=>simp[intOf];omega
       ·have HC:Hid (cmpD d y.d=cmpV p.2.v q.2.v):=by
         rw[Hid,HA'.out,if_pos (by simpa using hc)]
        go_wp2_with fail
        go_ret
        exact⟨by rw[HV.out];show _=Ending.returned (.int .i64 (cmpD d y.d));rw[HC.out];rfl,J2.out.bel⟩
      ·have hb0:(cmpB p.2.s q.2.s==0)=false:=by simpa using hb
       have HC:Hid (cmpD d y.d=cmpB p.2.s q.2.s):=by
        rw[Hid,HA.out,if_pos (by simpa using hb)]
       have J2:=qD (J.out.step kw.below)
       clear E0 E1 Y0 Y1 Y2 Y3 Y4 Z0 Z1 Z2 Z3 Z4 N0 N1 K2 hi0 hi3 hi4
       generalize kw.val=w2 at*
       go_wp2_with fail
       go_ret
       exact⟨by rw[HV.out];show _=Ending.returned (.int .i64 (cmpD d y.d));rw[HC.out];rfl,J2.out.bel⟩
     ·have HE:=qD (HQ.out.trans (cmpD_end (by have:=HN1.out;omega) (by have:=HN2.out;omega) (by have:=HN1.out;have:=HN2.out;omega)))
      clear I
      by_cases hl1:i<cdn
      all_goals
       first|have hx9:edn≤i:=by omega|have hx9:cdn≤i:=by omega
       go_wp2_with fail
       refine(rints_any _ _ _).mono ?_
       rintro e w' ⟨rfl,rfl⟩
       go_wp2_with fail
       go_ret
       exact⟨by rw[HV.out];show _=Ending.returned (.int .i64 (cmpD d y.d));rw[HE.out,←HN1.out,←HN2.out];rfl,J.out.bel⟩
  ·obtain⟨h3,h9,h10,h4,h7,h8,h6,h5⟩:=ho
   have HV:=qD (cmpV_other hxy h3 h9 h10 h4 h7 h8 h6 h5)
   clear hx hy ihl ihd hk2 hn2 ht2 hxy
   have e3:(ck==3)=false:=by simpa using h3
   have e9:(ck==9)=false:=by simpa using h9
   have e10:(ck==10)=false:=by simpa using h10
   have e4:(ck==4)=false:=by simpa using h4
   have e7:(ck==7)=false:=by simpa using h7
   have e8:(ck==8)=false:=by simpa using h8
   have e6:(ck==6)=false:=by simpa using h6
   have e5:(ck==5)=false:=by simpa using h5
   clear h3 h9 h10 h4 h7 h8 h6 h5
   go_enter Tryz.func72,Tryz.ntmps72
   go_wp2_with fail
   go_ret
   exact⟨by rw[HV.out];rfl,I0.out.bel⟩
 ·have HV:Hid (cmpV (.mk ck cn ct l d) y=cmpI ck ek):=by
   have:ck≠ek:=by simpa using hne
   rw[Hid,cmpV_kind (by rw[←hk2];exact this),←hk2]
   rfl
  clear hx hy ihl ihd hk2 hn2 ht2
  go_enter Tryz.func72,Tryz.ntmps72
  go_wp2_with fail
  refine(rints_any _ _ _).mono ?_
  rintro e w' ⟨rfl,rfl⟩
  go_wp2_with fail
  go_ret
  exact⟨by rw[HV.out];rfl,I0.out.bel⟩
theorem bl_cmp:∀l m:List UInt8,Op.bytesLess l m=true↔Lib.compareBytes l m<0
 | [],[]=>by decide
 | [],b::m=>by simp[Op.bytesLess,Lib.compareBytes]
 | a::l,[]=>by simp[Op.bytesLess,Lib.compareBytes]
 | a::l,b::m=>by
  have ih:=bl_cmp l m
  rw[bl_cons,cmpBy_at]
  by_cases h:(a.toNat:Int)=(b.toNat:Int)
  ·rw[if_pos h,←ih]
   have h2:a=b:=UInt8.toNat_inj.1 (by omega)
   constructor
   ·rintro(h3|h3)
    ·omega
    ·exact h3.2
   ·intro h3;exact .inr ⟨h2,h3⟩
  ·rw[if_neg h]
   simp only[cmpI,Lib.compareInt]
   constructor
   ·rintro(h3|h3)
    ·rw[if_pos (by omega)];omega
    ·exact absurd (congrArg (fun x:UInt8=>(x.toNat:Int)) h3.1) h
   ·intro h3
    by_cases h4:a.toNat<b.toNat
    ·exact .inl h4
    ·exfalso
     rw[if_neg (by omega)] at h3
     split at h3<;>omega
theorem bl_cmpB(a b:ByteArray):Op.bytesLess a.toList b.toList=decide (cmpB a b<0):=by
 have h:=bl_cmp a.data.toList b.data.toList
 rw[Go.ByteArray.toList_eq,Go.ByteArray.toList_eq]
 show _=decide (Lib.compareBytes a.data.toList b.data.toList<0)
 rw[Bool.eq_iff_iff,h,decide_eq_true_iff]
theorem keyR_size(l:List Val):(keyR l).1.size≤8500000*l.length:=by
 unfold keyR
 split
 ·rename_i h
  rw[strOfNums_size]
  exact encAll_len h
 ·exact Nat.zero_le _
theorem rencR_size{ks:List Od}{ha:Bool}{x:Val}(h8:ks.length≤8):(rencR ks ha x).1.size≤68000000:=by
 cases hv:valsR ks x with
 | none=>rw[rencR_none hv];exact Nat.zero_le _
 | some ys=>
  have hl:=valsR_len hv
  unfold rencR
  rw[hv]
  simp only
  split
  ·have:=keyR_size [intH (by assumption)]
   simp only[List.length_singleton] at this
   omega
  ·have:=keyR_size ys
   have:8500000*ys.length≤8500000*8:=Nat.mul_le_mul_left _ (by omega)
   omega
theorem rin48_any(lo hi key:ByteArray)(w:World)(h1:lo.size≤reach)(h2:key.size≤reach):Calls Tryz.prog 60 #[.agg #[.string lo,.string hi],.string key] w fun e w'=>e=.returned (.bool (inB key (spanC lo hi)))∧Below w.heap.size w w':=by
 have B0:Hid (Blk (w.alloc (.cells #[.string lo,.string hi] 123)) w.heap.size 123 #[.string lo,.string hi]):=Blk.new_at rfl
 have BE:Hid (Below w.heap.size w (w.alloc (.cells #[.string lo,.string hi] 123))):=(Below.refl _ _).alloc (qL) _
 have HT1:=qD fun(wr:World)=>rtexts_any lo key wr h1
 have HT2:=qD fun(wr:World)=>rtexts_any key hi wr h2
 have HA:Hid (inB key (spanC lo hi)=(!decide (cmpB key lo<0)&&(hi.toList==[]||decide (cmpB key hi<0)))):=by
  rw[Hid,←bl_cmpB,←bl_cmpB];rfl
 have HB:=qD (cmpB_anti lo key)
 clear h1 h2
 go_enter Tryz.func60,Tryz.ntmps60
 go_upto_region 1 with fail
 change Code.wp _ _ _ _ (w.alloc (.cells #[.string lo,.string hi] 123))
 generalize w.alloc (.cells #[.string lo,.string hi] 123)=wa at*
 have q0:wa.cell? ⟨w.heap.size,0,none⟩=some (.string lo):=B0.out.cell 0
 go_wp2_with fail
 refine(HT1.out _).mono ?_
 rintro e w1 ⟨rfl,hb⟩
 obtain⟨c1,hc1⟩:∃c,cmpB lo key=c:=⟨_,rfl⟩
 rw[hc1] at HB ⊢
 clear hc1
 have C0:=qD (B0.out.step hb)
 have CE:=qD (BE.out.step' hb)
 clear hb q0 B0 BE HT1
 have q1:w1.cell? ⟨w.heap.size,1,none⟩=some (.string hi):=C0.out.cell 1
 by_cases hc:c1≤0
 ·cases h2:(hi.toList==[])
  ·go_wp2_with fail
   refine(HT2.out _).mono ?_
   rintro e w2 ⟨rfl,hb⟩
   have CE2:=qD (CE.out.step' hb)
   have HV:Hid (inB key (spanC lo hi)=decide (cmpB key hi<0)):=by
    rw[Hid,HA.out,HB.out,h2,decide_eq_false (by omega)];simp
   generalize cmpB key hi=c2 at HV ⊢
   clear hb h2
   by_cases hd:c2<0
   ·go_wp2_with fail
    go_ret
    exact⟨by rw[HV.out,decide_eq_true hd];rfl,CE2.out⟩
   ·go_wp2_with fail
    go_ret
    exact⟨by rw[HV.out];rfl,CE2.out⟩
  ·have HV:Hid (inB key (spanC lo hi)=true):=by
    rw[Hid,HA.out,HB.out,h2,decide_eq_false (by omega)];simp
   go_wp2_with fail
   go_ret
   exact⟨by rw[HV.out];rfl,CE.out⟩
 ·have HV:Hid (inB key (spanC lo hi)=false):=by
   rw[Hid,HA.out,HB.out,decide_eq_true (by omega)];simp
  go_wp2_with fail
  go_ret
  exact⟨by rw[HV.out];rfl,CE.out⟩
theorem rin_any(M:Mv)(ma:MA)(R:Ro)(a:RA)(x:Val)(c:VC)(w:World)(h:RR w a R)(hx:RW w c x)(h8:R.ks.length≤8)(hk:R.ha=true→R.ks.length=1)(hlo:M.lo.size≤reach):
 Calls Tryz.prog 38 #[mval ma M,rval a R,c.val] w fun e w'=>e=.returned (.bool (insD R M.lo M.hi x))∧Below w.heap.size w w':=by
 obtain⟨KA,kn,kc,CA,cn,cc⟩:=a
 have HE:=qD fun(wr:World) (hb:Below w.heap.size w wr)=>rsenc_any R.ks R.ha KA kn kc x c wr (h.ks.step hb) (hx.step hb) h8
 have HEQ:=qD (enc_same (x:=x) hk)
 have HSZ:Hid ((rencR R.ks R.ha x).1.size≤68000000):=rencR_size h8
 clear h hx
 obtain⟨⟨K1,K2⟩,hK⟩:∃K,rencR R.ks R.ha x=K:=⟨_,rfl⟩
 rw[hK] at HE HEQ HSZ
 have HK:Hid (encR R.ks R.ha x=(K1,K2)):=HEQ.out.symm
 clear hK HEQ
 obtain⟨wa,hwa⟩:∃wa,(((w.alloc (.cells (marr ma M) 35)).alloc (.cells (rarr ⟨KA,kn,kc,CA,cn,cc⟩ R) 27)).alloc (.cells c.arr 45))=wa:=⟨_,rfl⟩
 have BM:Hid (Blk wa w.heap.size 35 (marr ma M)):=by rw[←hwa];exact((Blk.new_at rfl).alloc _).alloc _
 have B0:Hid (Blk wa (w.heap.size+1) 27 (rarr ⟨KA,kn,kc,CA,cn,cc⟩ R)):=by rw[←hwa];exact(Blk.new_at (by simp)).alloc _
 have B1:Hid (Blk wa (w.heap.size+2) 45 c.arr):=by rw[←hwa];exact Blk.new_at (by simp)
 have BE:Hid (Below w.heap.size w wa):=by rw[←hwa];exact(((Below.refl _ _).alloc (qL) _).alloc (by simp) _).alloc (by simp;omega) _
 have HWA:=qD hwa
 clear hwa
 go_enter Tryz.func38,Tryz.ntmps38
 go_upto_region 1 with fail
 change Code.wp _ _ _ _ (((w.alloc (.cells (marr ma M) 35)).alloc (.cells (rarr ⟨KA,kn,kc,CA,cn,cc⟩ R) 27)).alloc (.cells c.arr 45))
 rw[HWA.out]
 clear HWA
 obtain⟨q0,q1,q2,q3,q4,q5,qz⟩:=blk_ro B0.out
 simp only at q1 q5
 obtain⟨a0,a1,a2,a3,a4⟩:=VAt.of_blk B1.out
 simp only[Nat.zero_add] at a0 a1 a2 a3 a4
 go_wp2_with fail
 refine(HE.out wa BE.out).mono ?_
 rintro e w1 ⟨rfl,hb⟩
 have CE:=qD (BE.out.step' hb)
 have CM:=qD (BM.out.step hb)
 clear hb BE B0 B1 BM HE q0 q1 q2 q3 q4 q5 qz a0 a1 a2 a3 a4
 obtain⟨m0,m1,m2,m3,m4,m5,m6,m7⟩:=blk_mv CM.out
 by_cases hk:K2=0
 rotate_left
 ·have hkb:(K2==0)=false:=by simpa using hk
  have HF:=qD (insD_no (lo:=M.lo) (hi:=M.hi) HK.out hk)
  clear hk
  go_wp2_with fail
  go_ret
  exact⟨by rw[HF.out];rfl,CE.out⟩
 subst hk
 have HI:=qD (insD_yes (lo:=M.lo) (hi:=M.hi) HK.out)
 have HC:=qD (rin48_any M.lo M.hi K1 w1 hlo (by have:=HSZ.out;unfold reach;omega))
 go_wp2_with fail
 refine HC.out.mono ?_
 rintro e w2 ⟨rfl,hb⟩
 have CE2:=qD (CE.out.step' hb)
 clear hb
 go_wp2_with fail
 go_ret
 exact⟨by rw[HI.out];rfl,CE2.out⟩
theorem insert_sorted{α:Type}{cm:α→α→Int}(H:Ordered cm){L S1 S2:List (α×Nat)}{x:α×Nat}(hS:Sorted cm L (S1++S2))(ht:∀s∈L,s.2<x.2)(h1:∀s∈S1,cm s.1 x.1≤0)(h2:∀s,S2[0]?=some s→¬cm s.1 x.1≤0):Sorted cm (L++[x]) (S1++x::S2):=by
 refine⟨List.perm_middle.trans ((List.Perm.cons x hS.perm).trans (List.perm_append_singleton x L).symm),?_⟩
 have hp:=List.pairwise_append.1 hS.ord
 refine List.pairwise_append.2 ⟨hp.1,List.pairwise_cons.2 ⟨fun s hs=>?_,hp.2.1⟩,fun s hs z hz=>?_⟩
 ·obtain⟨k,hk⟩:=List.getElem?_of_mem hs
  obtain⟨s0,h0⟩:∃s0,S2[0]?=some s0:=⟨_,List.getElem?_eq_getElem (by have:=(List.getElem?_eq_some_iff.1 hk).1;omega)⟩
  have q1:=h2 s0 h0
  have q2:=H.anti s0.1 x.1
  have q3:=at_le H hp.2.1 (Nat.zero_le k) h0 hk
  exact .inl (cm_lt_le H (y:=s0.1) (by omega) q3)
 ·rcases List.mem_cons.1 hz with rfl|hz
  ·have q1:=h1 s hs
   have q2:=ht s (hS.perm.mem_iff.1 (by simp[hs]))
   unfold RT
   omega
  ·exact hp.2.2 s hs z hz
theorem own_less{w:World}{base base':Nat}{e:TypeId}{size n:Nat}{v:Value}{xs:List Value}(h:w.ownsRow base e size v n xs)(hb:base'≤base):w.ownsRow base' e size v n xs:=by
 refine⟨h.1,?_⟩
 rcases h.2 with h2|⟨g,cap,cur,hv,hg,hr⟩
 ·exact .inl h2
 ·exact .inr ⟨g,cap,cur,hv,by omega,hr⟩
structure RsInv(w:World)(ps:List PV)(i:Nat)(S:List (PV×Nat))(v:Value)(wr:World):Prop where
 own:wr.ownsRow w.heap.size 45 5 v i (flat recV (S.map Prod.fst))
 so:Sorted (fun p q:PV=>cmpV p.2 q.2) ((tagFrom 0 ps).take i) S
 bel:Below w.heap.size w wr
 z:i=0→v=.slice none 0 0
theorem RsInv.step{w wr w':World}{ps:List PV}{i:Nat}{S:List (PV×Nat)}{v:Value}(h:RsInv w ps i S v wr)(hb:Below wr.heap.size wr w'):RsInv w ps i S v w':=⟨own_step h.own hb,h.so,h.bel.step' hb,h.z⟩
theorem RsInv.at{w wr:World}{ps:List PV}{i:Nat}{S:List (PV×Nat)}{B:Option Addr}{cb:Nat}(h:RsInv w ps i S (.slice B i cb) wr){k:Nat}{s:PV×Nat}(hs:S[k]?=some s):∃g,B=some ⟨g,0,none⟩∧g<wr.heap.size∧VAt wr g (k*5) s.1.1:=by
 have hl:(S.map Prod.fst).length=i:=by
  have:=flat_length recV_length (S.map Prod.fst)
  rw[h.own.1] at this
  omega
 have hk:=(List.getElem?_eq_some_iff.1 hs).1
 rcases h.own.2 with⟨h1,h2⟩|⟨g,cap,cur,hv,_,hh,hnc,_⟩
 ·simp at hl;omega
 ·cases hv
  refine⟨g,rfl,own_lt h.own rfl,vat_of fun j v hj=>?_⟩
  have:=h.own.cells (g:=g) rfl (k*5+j) v (flat_get recV_length (by rw[List.getElem?_map,hs];rfl) hj)
  rw[addr_add,Nat.zero_add] at this
  exact this
structure NxInv(wx:World)(v:Value)(n:Nat)(xs:List PV)(wr:World):Prop where
 own:wr.ownsRow wx.heap.size 45 5 v n (flat recV xs)
 bel:Below wx.heap.size wx wr
theorem NxInv.next{wx:World}{v v':Value}{n m n':Nat}{xs ys:List PV}{wr w':World}{news:List Value}(h:NxInv wx v n xs wr)(hn:news=flat recV ys)(hn':n'=m)(ho:w'.ownsRow wx.heap.size 45 5 v' m (flat recV xs++news))(hg:wr.grownBy w' v.ownBlock):NxInv wx v' n' (xs++ys) w':=
 ⟨by rw[flat_append,←hn,hn'];exact ho,h.bel.grown hg h.bel.size (fun q hq=>own_ge h.own q hq)⟩
theorem NxInv.done{w wx:World}{ps:List PV}{v0 v:Value}{i m:Nat}{S S':List (PV×Nat)}{xs:List PV}{wr:World}(h:NxInv wx v m xs wr)(I:RsInv w ps i S v0 wx)(hm:m=i+1)(hx:xs=S'.map Prod.fst)(hs:Sorted (fun p q:PV=>cmpV p.2 q.2) ((tagFrom 0 ps).take (i+1)) S'):RsInv w ps (i+1) S' v wr:=by
 subst hm hx
 exact⟨own_less h.own I.bel.size,hs,I.bel.step' h.bel,fun h=>by omega⟩
theorem NxInv.alloc{wx:World}{v:Value}{n:Nat}{xs:List PV}{wr:World}(h:NxInv wx v n xs wr)(o:Obj):NxInv wx v n xs (wr.alloc o):=⟨h.own.alloc _,h.bel.alloc h.bel.size o⟩
theorem RsInv.rv{w wr:World}{A:Option Addr}{n c i k:Nat}{ps:List PV}{S:List (PV×Nat)}{v:Value}{s:PV×Nat}(hp:SL (fun _=>True) w A n c ps)(h:RsInv w ps i S v wr)(hs:S[k]?=some s):RW wr s.1.1 s.1.2:=by
 have h1:s∈tagFrom 0 ps:=List.mem_of_mem_take (h.so.perm.subset (List.mem_of_getElem? hs))
 have h2:s.1∈ps:=by rw[←tagFrom_map ps 0];exact List.mem_map_of_mem h1
 exact(hp.rv s.1 h2).step h.bel
theorem tagFrom_get(l:List PV):∀(n i:Nat) (p:PV),l[i]?=some p→(tagFrom n l)[i]?=some (p,n+i):=by
 induction l with
 | nil=>intro n i p h;simp at h
 | cons x r ih=>
  intro n i p h
  cases i with
  | zero=>simp at h;subst h;rfl
  | succ i=>
   have:=ih (n+1) i p (by simpa using h)
   simp only[tagFrom,List.getElem?_cons_succ]
   rw[this,show n+1+i=n+(i+1) by omega]
theorem round_sorted{ps:List PV}{i k:Nat}{S:List (PV×Nat)}{p:PV}(h:Sorted (fun p q:PV=>cmpV p.2 q.2) ((tagFrom 0 ps).take i) S)(hp:ps[i]?=some p)(hlo:∀(q:Nat) s,S[q]?=some s→q<k→cmpV s.1.2 p.2≤0)(hhi:∀s,S[k]?=some s→¬cmpV s.1.2 p.2≤0):
 Sorted (fun p q:PV=>cmpV p.2 q.2) ((tagFrom 0 ps).take (i+1)) (S.take k++(p,i)::S.drop k):=by
 have hg:=tagFrom_get ps 0 i p hp
 rw[Nat.zero_add] at hg
 rw[take_snoc' hg]
 refine insert_sorted ordV (by rw[List.take_append_drop];exact h) (fun s hs=>?_) (fun s hs=>?_) (fun s hs=>?_)
 ·obtain⟨q,hq⟩:=List.getElem?_of_mem hs
  have hlt:=(List.getElem?_eq_some_iff.1 hq).1
  rw[List.length_take] at hlt
  rw[List.getElem?_take_of_lt (by omega)] at hq
  exact pw_at (tagFrom_tagged ps 0) (by omega:q<i) hq hg
 ·obtain⟨q,hq⟩:=List.getElem?_of_mem hs
  have hlt:=(List.getElem?_eq_some_iff.1 hq).1
  rw[List.length_take] at hlt
  rw[List.getElem?_take_of_lt (by omega)] at hq
  exact hlo q s hq (by omega)
 ·rw[List.getElem?_drop,Nat.add_zero] at hs
  exact hhi s hs
theorem flat_oneV(xs:List PV):∀u∈flat recV xs,u.oneCell'=true:=by
 intro u hu
 obtain⟨p,_,h⟩:=List.mem_flatMap.1 hu
 exact recV_one p u h
theorem refSort_any(ps:List PV)(A:Option Addr)(n c:Nat)(w:World)(h:SL (fun _=>True) w A n c ps):Calls Tryz.prog 49 #[.slice A n c] w (fun e w'=>∃(A':Option Addr) (n' c':Nat) (qs:List PV),e=.returned (.slice A' n' c')∧StV (ps.map Prod.snd) (qs.map Prod.snd)∧SL (fun _=>True) w' A' n' c' qs∧Below w.heap.size w w'):=by
 obtain⟨i0,hi0,hz0,hz1,hz2⟩:=info_parts info_value
 have hz:=h.sz
 unfold reach at hz
 have HP:=qD h
 have HN:=qD h.sr.ln
 have I0:Hid (RsInv w ps 0 [] (.slice none 0 0) w):=qD ⟨own_nil _ _ _ _,Sorted.nil,Below.refl _ _,fun _=>rfl⟩
 clear h
 go_enter Tryz.func49,Tryz.ntmps49
 go_wp2_with fail
 go_loopw [3,4] (fun v3 v4 wr=>∃(i:Nat) (S:List (PV×Nat)),i≤n∧v4=.int .i64 i∧RsInv w ps i S v3 wr) (fun _ v4 _=>n-(intOf v4).toNat)
 case atStart=>exact⟨0,[],Nat.zero_le _,rfl,I0.out⟩
 case round=>
  obtain⟨i,S,hi,rfl,I⟩:=hrel
  obtain⟨B,cb,rfl,hcb⟩:=own_slice I.own
  have J:=qD I
  have HSl:Hid (S.length=i):=by
   have h1:=flat_length recV_length (S.map Prod.fst)
   rw[I.own.1] at h1
   rw[List.length_map] at h1
   rw[Hid]
   omega
  by_cases hlt:i<n
  ·obtain⟨p,hp⟩:∃p,ps[i]?=some p:=⟨_,List.getElem?_eq_getElem (by have:=HN.out;omega)⟩
   obtain⟨b,off,rfl,_,hu,hr⟩:=HP.out.vat hp
   have HU:=qD hu
   have HR:=qD hr
   have HPi:=qD hp
   clear hp hu hr I
   go_upto_block 2 with fail
   go_cut [5] (fun s5 wx=>∃k:Nat,k≤i∧s5=.int .i64 k∧(∀(q:Nat) s,S[q]?=some s→q<k→cmpV s.1.2 p.2≤0)∧(∀s,S[k]?=some s→¬cmpV s.1.2 p.2≤0)∧RsInv w ps i S (.slice B i cb) wx)
   case first=>as_aux_lemma=>
    go_wp2_with fail
    go_loopw [5] (fun v5 wr=>∃k:Nat,k≤i∧v5=.int .i64 k∧(∀(q:Nat) s,S[q]?=some s→q<k→cmpV s.1.2 p.2≤0)∧RsInv w ps i S (.slice B i cb) wr) (fun v5 _=>n-(intOf v5).toNat)
    case atStart=>exact⟨0,Nat.zero_le _,rfl,fun q s _ hq=>by omega,J.out⟩
    case round=>
     obtain⟨k,hk,rfl,hlo,I⟩:=hrel
     have HLo:=qD hlo
     have J2:=qD I
     clear hlo
     by_cases hki:k<i
     ·obtain⟨s,hs⟩:∃s,S[k]?=some s:=⟨_,List.getElem?_eq_getElem (by have:=HSl.out;omega)⟩
      obtain⟨g,rfl,hg,r0,r1,r2,r3,r4⟩:=I.at hs
      obtain⟨p0,p1,p2,p3,p4⟩:=HU.out.keep (I.bel.block b HU.out.lt)
      have P0:∀k:BW wr,k.val.cell? ⟨b,off+i*5,none⟩=some (.int .i64 p.1.k):=fun k=>k.cell p0
      have P1:∀k:BW wr,k.val.cell? ⟨b,off+i*5+1,none⟩=some (.int .i64 p.1.n):=fun k=>k.cell p1
      have P2:∀k:BW wr,k.val.cell? ⟨b,off+i*5+2,none⟩=some (.string p.1.t):=fun k=>k.cell p2
      have P3:∀k:BW wr,k.val.cell? ⟨b,off+i*5+3,none⟩=some (.slice p.1.LA p.1.ln p.1.lc):=fun k=>k.cell p3
      have P4:∀k:BW wr,k.val.cell? ⟨b,off+i*5+4,none⟩=some (.slice p.1.DA p.1.dn p.1.dc):=fun k=>k.cell p4
      have R0:∀q:BW wr,q.val.cell? ⟨g,k*5,none⟩=some (.int .i64 s.1.1.k):=fun q=>q.cell r0
      have R1:∀q:BW wr,q.val.cell? ⟨g,k*5+1,none⟩=some (.int .i64 s.1.1.n):=fun q=>q.cell r1
      have R2:∀q:BW wr,q.val.cell? ⟨g,k*5+2,none⟩=some (.string s.1.1.t):=fun q=>q.cell r2
      have R3:∀q:BW wr,q.val.cell? ⟨g,k*5+3,none⟩=some (.slice s.1.1.LA s.1.1.ln s.1.1.lc):=fun q=>q.cell r3
      have R4:∀q:BW wr,q.val.cell? ⟨g,k*5+4,none⟩=some (.slice s.1.1.DA s.1.1.dn s.1.1.dc):=fun q=>q.cell r4
      have i0':(0:Int)≤(k:Int):=by omega
      have i1':(k:Int)<(i:Int):=by omega
      have i2':(0:Int)≤(i:Int):=by omega
      have i3':(i:Int)<(n:Int):=by omega
      have K1:Hid (∀q:BW wr,Calls Tryz.prog 72 #[s.1.1.val,p.1.val] q.val fun e w''=>e=.returned (.int .i64 (cmpV s.1.2 p.2))∧∃k:BW wr,w''=k.val):=fun q=>
       Calls.bw (rcmp_any s.1.2 p.2 s.1.1 p.1 q.val (RsInv.rv HP.out (I.step q.below) hs) ((HR.out.step I.bel).step q.below))
      have HS:=qD hs
      clear p0 p1 p2 p3 p4 r0 r1 r2 r3 r4 I hs
      go_upto_region 6 with fail
      refine wp_region_bw (by kernel_rfl) (by kernel_rfl) ?_
      repeat(go_big_quiet_step (with_reducible exact K1.out _))
      refine wpQuiet_nil ?_
      rintro _ ⟨kw,rfl⟩
      have J3:=qD (J2.out.step kw.below)
      clear P0 P1 P2 P3 P4 R0 R1 R2 R3 R4 K1 i0' i1' i2' i3'
      generalize kw.val=w2 at*
      by_cases hc:cmpV s.1.2 p.2≤0
      ·have HLo2:Hid (∀(q:Nat) s,S[q]?=some s→q<k+1→cmpV s.1.2 p.2≤0):=fun q z hz hq=>by
        by_cases e:q=k
        ·subst e
         rw[HS.out] at hz
         cases hz
         exact hc
        ·exact HLo.out q z hz (by omega)
       go_wp2_with fail
       go_roundw
       case rel=>exact⟨k+1,by omega,by go_num,HLo2.out,J3.out⟩
       case measure=>simp[intOf];omega
      ·have HHi:Hid (∀z,S[k]?=some z→¬cmpV z.1.2 p.2≤0):=fun z hz=>by
        rw[HS.out] at hz
        cases hz
        exact hc
       go_wp2_with fail
       go_meet
       exact⟨k,by omega,rfl,HLo.out,HHi.out,J3.out⟩
     ·have HHi:Hid (∀z,S[k]?=some z→¬cmpV z.1.2 p.2≤0):=fun z hz=>by
       have:=(List.getElem?_eq_some_iff.1 hz).1
       have:=HSl.out
       omega
      have hki':decide ((k:Int)<(i:Int))=false:=decide_eq_false (by omega)
      clear I
      go_upto_region 6 with fail
      go_quiet (fail)
      go_wp2_with fail
      go_meet
      exact⟨k,by omega,rfl,HLo.out,HHi.out,J2.out.step (Below.drewN (Below.refl _ _) _)⟩
   case rest=>
    obtain⟨k,hk,rfl,hlo,hhi,I⟩:=hcut
    have HD:Hid (Sorted (fun p q:PV=>cmpV p.2 q.2) ((tagFrom 0 ps).take (i+1)) (S.take k++(p,i)::S.drop k)):=round_sorted I.so HPi.out hlo hhi
    have J2:=qD I
    have HRd:=qD (Reads.of_own I.own)
    have HUc:=qD (HU.out.keep (I.bel.block b HU.out.lt))
    have hbw:b<wc.heap.size:=HUc.out.lt
    clear hlo hhi I
    have N0:Hid (NxInv wc (.slice none 0 0) 0 [] wc):=qD ⟨own_nil _ _ _ _,Below.refl _ _⟩
    have R1:Hid (Reads wc wc.heap.size 5 B k (flat recV ((S.map Prod.fst).take k))):=by
     have:=HRd.out.take hk
     rw[flat_take recV_length] at this
     exact this
    have R2:Hid (Reads wc wc.heap.size 5 (if cb=k then B else B.map (·.add (k*5))) (i-k) (flat recV ((S.map Prod.fst).drop k))):=by
     have:=HRd.out.cut hk hcb
     rw[flat_drop recV_length] at this
     exact this
    have hB:B=none∧i=0∧cb=0∨∃g,B=some ⟨g,0,none⟩∧0<i:=by
     rcases Nat.eq_zero_or_pos i with h0|h0
     ·have:=J2.out.z h0
      cases this
      exact .inl ⟨rfl,h0,rfl⟩
     ·rcases J2.out.own.2 with⟨h1,h2⟩|⟨g,cap,cur,hv,hge,hh,hnc,hr⟩
      ·omega
      ·cases hv
       exact .inr ⟨g,rfl,h0⟩
    obtain⟨p0,p1,p2,p3,p4⟩:=HUc.out
    have hin:(i:Int)<(n:Int):=by omega
    rcases hB with⟨rfl,rfl,rfl⟩|⟨g,rfl,h0⟩
    ·obtain rfl:k=0:=by omega
     simp only[if_true] at R2
     simp only[Nat.zero_mul,Nat.add_zero] at p0 p1 p2 p3 p4
     go_wp2_with (at_builtin;refine wpList_append_any _ rfl _ _ 42 rfl wc.heap.size 45 i0 VC.zero.val 5 80 Tryz.underlying42 hi0 hz0 hz1 hz2 rfl (by decide) (.slice none 0 0) 0 (flat recV []) rfl N0.out.own _ _ 0 _ (flat recV ((S.map Prod.fst).take 0)) rfl R1.out ?c1 (by unfold maxLen;omega) (by omega) (qL) ?_)
     case c1=>exact flat_oneV _
     intro v1 w1 ho1 hg1 _
     have N1:Hid (NxInv wc v1 0 ([]++(S.map Prod.fst).take 0) w1):=qD (N0.out.next rfl (by omega) ho1 hg1)
     clear ho1 hg1 p0 p1 p2 p3 p4
     obtain⟨p0,p1,p2,p3,p4⟩:=HUc.out.keep (N1.out.bel.block b hbw)
     simp only[Nat.zero_mul,Nat.add_zero] at p0 p1 p2 p3 p4
     have hb1:b<w1.heap.size:=by have:=N1.out.bel.size;omega
     have hw1:=N1.out.bel.size
     go_wp2_with (at_builtin;refine wpList_append_any _ rfl _ _ 42 rfl wc.heap.size 45 i0 VC.zero.val 5 80 Tryz.underlying42 hi0 hz0 hz1 hz2 rfl (by decide) v1 0 (flat recV ([]++(S.map Prod.fst).take 0)) rfl (N1.out.alloc _).own _ _ 1 _ (recV p) rfl ⟨rfl,fun _=>⟨_,rfl,Nat.lt_succ_self _,news_at _ _ _⟩⟩ ?c1 (by unfold maxLen;omega) (by omega) (by simp;omega) ?_)
     case c1=>exact recV_one p
     intro v2 w2 ho2 hg2 _
     have N2:Hid (NxInv wc v2 1 ([]++(S.map Prod.fst).take 0++[p]) w2):=qD ((N1.out.alloc _).next (by simp[flat]) (by omega) ho2 hg2)
     clear ho2 hg2 p0 p1 p2 p3 p4
     have hw2:=N2.out.bel.size
     go_wp2_with (at_builtin;refine wpList_append_any _ rfl _ _ 42 rfl wc.heap.size 45 i0 VC.zero.val 5 80 Tryz.underlying42 hi0 hz0 hz1 hz2 rfl (by decide) v2 1 (flat recV ([]++(S.map Prod.fst).take 0++[p])) rfl N2.out.own _ _ 0 _ (flat recV ((S.map Prod.fst).drop 0)) rfl (R2.out.below N2.out.bel) ?c1 (by unfold maxLen;omega) (by omega) hw2 ?_)
     case c1=>exact flat_oneV _
     intro v3 w3 ho3 hg3 _
     have N3:Hid (NxInv wc v3 (1) ([]++(S.map Prod.fst).take 0++[p]++(S.map Prod.fst).drop 0) w3):=qD (N2.out.next rfl (by omega) ho3 hg3)
     clear ho3 hg3
     go_wp2_with fail
     go_roundw
     case rel=>exact⟨0+1,_,by omega,by go_num,N3.out.done J2.out (by omega) (by simp) HD.out⟩
     case measure=>simp[intOf];omega
    ·have hc0:(cb=0)=False:=by simp;omega
     by_cases hck:cb=k
     ·subst hck
      simp only[if_true] at R2
      rw[show i-cb=0 by omega] at R2
      go_wp2_with (at_builtin;refine wpList_append_any _ rfl _ _ 42 rfl wc.heap.size 45 i0 VC.zero.val 5 80 Tryz.underlying42 hi0 hz0 hz1 hz2 rfl (by decide) (.slice none 0 0) 0 (flat recV []) rfl N0.out.own _ _ cb _ (flat recV ((S.map Prod.fst).take cb)) rfl R1.out ?c1 (by unfold maxLen;omega) (by omega) (qL) ?_)
      case c1=>exact flat_oneV _
      intro v1 w1 ho1 hg1 _
      have N1:Hid (NxInv wc v1 cb ([]++(S.map Prod.fst).take cb) w1):=qD (N0.out.next rfl (by omega) ho1 hg1)
      clear ho1 hg1 p0 p1 p2 p3 p4
      obtain⟨p0,p1,p2,p3,p4⟩:=HUc.out.keep (N1.out.bel.block b hbw)
      have hb1:b<w1.heap.size:=by have:=N1.out.bel.size;omega
      have hw1:=N1.out.bel.size
      go_wp2_with (at_builtin;refine wpList_append_any _ rfl _ _ 42 rfl wc.heap.size 45 i0 VC.zero.val 5 80 Tryz.underlying42 hi0 hz0 hz1 hz2 rfl (by decide) v1 cb (flat recV ([]++(S.map Prod.fst).take cb)) rfl (N1.out.alloc _).own _ _ 1 _ (recV p) rfl ⟨rfl,fun _=>⟨_,rfl,Nat.lt_succ_self _,news_at _ _ _⟩⟩ ?c1 (by unfold maxLen;omega) (by omega) (by simp;omega) ?_)
      case c1=>exact recV_one p
      intro v2 w2 ho2 hg2 _
      have N2:Hid (NxInv wc v2 (cb+1) ([]++(S.map Prod.fst).take cb++[p]) w2):=qD ((N1.out.alloc _).next (by simp[flat]) (by omega) ho2 hg2)
      clear ho2 hg2 p0 p1 p2 p3 p4
      have hw2:=N2.out.bel.size
      go_wp2_with (at_builtin;refine wpList_append_any _ rfl _ _ 42 rfl wc.heap.size 45 i0 VC.zero.val 5 80 Tryz.underlying42 hi0 hz0 hz1 hz2 rfl (by decide) v2 (cb+1) (flat recV ([]++(S.map Prod.fst).take cb++[p])) rfl N2.out.own _ _ 0 _ (flat recV ((S.map Prod.fst).drop cb)) rfl (R2.out.below N2.out.bel) ?c1 (by unfold maxLen;omega) (by omega) hw2 ?_)
      case c1=>exact flat_oneV _
      intro v3 w3 ho3 hg3 _
      have N3:Hid (NxInv wc v3 (cb+1) ([]++(S.map Prod.fst).take cb++[p]++(S.map Prod.fst).drop cb) w3):=qD (N2.out.next rfl (by omega) ho3 hg3)
      clear ho3 hg3
      go_wp2_with fail
      go_roundw
      case rel=>exact⟨i+1,_,by omega,by go_num,N3.out.done J2.out (by omega) (by simp) HD.out⟩
      case measure=>simp[intOf];omega
     ·rw[if_neg hck] at R2
      simp only[Option.map_some,addr_add,Nat.zero_add] at R2
      have hck':(cb=k)=False:=by simp;omega
      go_wp2_with (at_builtin;refine wpList_append_any _ rfl _ _ 42 rfl wc.heap.size 45 i0 VC.zero.val 5 80 Tryz.underlying42 hi0 hz0 hz1 hz2 rfl (by decide) (.slice none 0 0) 0 (flat recV []) rfl N0.out.own _ _ k _ (flat recV ((S.map Prod.fst).take k)) rfl R1.out ?c1 (by unfold maxLen;omega) (by omega) (qL) ?_)
      case c1=>exact flat_oneV _
      intro v1 w1 ho1 hg1 _
      have N1:Hid (NxInv wc v1 k ([]++(S.map Prod.fst).take k) w1):=qD (N0.out.next rfl (by omega) ho1 hg1)
      clear ho1 hg1 p0 p1 p2 p3 p4
      obtain⟨p0,p1,p2,p3,p4⟩:=HUc.out.keep (N1.out.bel.block b hbw)
      have hb1:b<w1.heap.size:=by have:=N1.out.bel.size;omega
      have hw1:=N1.out.bel.size
      go_wp2_with (at_builtin;refine wpList_append_any _ rfl _ _ 42 rfl wc.heap.size 45 i0 VC.zero.val 5 80 Tryz.underlying42 hi0 hz0 hz1 hz2 rfl (by decide) v1 k (flat recV ([]++(S.map Prod.fst).take k)) rfl (N1.out.alloc _).own _ _ 1 _ (recV p) rfl ⟨rfl,fun _=>⟨_,rfl,Nat.lt_succ_self _,news_at _ _ _⟩⟩ ?c1 (by unfold maxLen;omega) (by omega) (by simp;omega) ?_)
      case c1=>exact recV_one p
      intro v2 w2 ho2 hg2 _
      have N2:Hid (NxInv wc v2 (k+1) ([]++(S.map Prod.fst).take k++[p]) w2):=qD ((N1.out.alloc _).next (by simp[flat]) (by omega) ho2 hg2)
      clear ho2 hg2 p0 p1 p2 p3 p4
      have hw2:=N2.out.bel.size
      go_wp2_with (at_builtin;refine wpList_append_any _ rfl _ _ 42 rfl wc.heap.size 45 i0 VC.zero.val 5 80 Tryz.underlying42 hi0 hz0 hz1 hz2 rfl (by decide) v2 (k+1) (flat recV ([]++(S.map Prod.fst).take k++[p])) rfl N2.out.own _ _ (i-k) _ (flat recV ((S.map Prod.fst).drop k)) rfl (R2.out.below N2.out.bel) ?c1 (by unfold maxLen;omega) (by omega) hw2 ?_)
      case c1=>exact flat_oneV _
      intro v3 w3 ho3 hg3 _
      have N3:Hid (NxInv wc v3 (k+1+(i-k)) ([]++(S.map Prod.fst).take k++[p]++(S.map Prod.fst).drop k) w3):=qD (N2.out.next rfl (by omega) ho3 hg3)
      clear ho3 hg3
      go_wp2_with fail
      go_roundw
      case rel=>exact⟨i+1,_,by omega,by go_num,N3.out.done J2.out (by omega) (by simp) HD.out⟩
      case measure=>simp[intOf];omega
  ·have HF:Hid ((tagFrom 0 ps).take i=tagFrom 0 ps):=List.take_of_length_le (by rw[tagFrom_length];have:=HN.out;omega)
   clear I
   go_wp2_with fail
   go_ret
   have ho:=J.out.own
   obtain⟨A',c',e,hs⟩:=SL.of_own (F:=fun _=>True) ho (by rw[List.length_map];exact HSl.out) (by unfold reach;omega) (fun _ _=>trivial) (fun q hq=>by
    obtain⟨s,hs,rfl⟩:=List.mem_map.1 hq
    obtain⟨k,hk⟩:=List.getElem?_of_mem hs
    exact RsInv.rv HP.out J.out hk)
   cases e
   refine⟨B,i,cb,S.map Prod.fst,rfl,⟨S.map (fun p=>(p.1.2,p.2)),?_,by simp⟩,hs,J.out.bel⟩
   have:=J.out.so
   rw[HF.out] at this
   have:=this.toVal
   rw[tag_val] at this
   exact this
theorem keyE_partsM{ks:List Od}{ha:Bool}(h:keyE ks ha=0):ks.length≤8∧(ha=true→ks.length=1):=by
 unfold keyE at h
 split at h
 ·rename_i h1;exact absurd h h1
 ·rename_i h1
  split at h
  ·cases h
  ·rename_i h2
   have h3:ordE ks=0:=by simpa using h1
   unfold ordE at h3
   split at h3
   ·cases h3
   ·rename_i h4
    have h5:¬ks.length=0:=fun e=>h2 (.inl e)
    exact⟨by omega,fun hh=>by
     have:¬1<ks.length:=fun e=>h2 (.inr ⟨hh,e⟩)
     omega⟩
theorem exec_mid{P:Program}{op:Oper}{a:Act}{w:World}{ty:TypeId}{x:Operand}{b o:Nat}{cs:List Value}{d:TypeDesc}(ho:op.op=.load ty x)(hx:a.eval x=.pointer (some ⟨b,o,none⟩))(hc:w.rangeAt b o cs)(hu:P.underlying ty=some d)(hd:d.isRow=true)(hi:(P.info? ty).map (·.size)=some cs.length):(execOp a.eval op).run P w=.ok (.value (.agg cs.toArray)) w:=by
 unfold execOp
 simp only[ho,hx,Instr.loadAt,Instr.sureAddr,Sem.run_bind,Sem.run_pure,Result.andThen_ok,run_loadVar_mid w b o ty cs d hc hu hd hi]
theorem rangeAt_step{w w':World}{b o:Nat}{cs:List Value}(h:w.rangeAt b o cs)(hb:Below w.heap.size w w'):w'.rangeAt b o cs:=
 fun j v hj=>(hb.cell (World.block_lt_of_cell? w _ (h j v hj))).trans (h j v hj)
theorem rangeAt_row{w:World}{b o g:Nat}{cs:List Value}(h:w.rangeAt b o cs)(hne:b≠g)(row:Array Value):(w.setRow g row).rangeAt b o cs:=
 fun j v hj=>(World.cell?_of_block (setRow_other w g b row hne)).trans (h j v hj)
theorem WS.range{F:Nat→Prop}{w:World}{A:Option Addr}{n c:Nat}{ps:List PW}(h:WS F w A n c ps){i:Nat}{p:PW}(hp:ps[i]?=some p):∃b off,A=some ⟨b,off,none⟩∧b<w.heap.size∧w.rangeAt b (off+i*78) (recC78 p.1)∧RW1 F w p.1 p.2:=by
 have hi:i<ps.length:=(List.getElem?_eq_some_iff.1 hp).1
 obtain⟨b,off,e,hl,hc⟩:=h.sr.el (by have:=h.sr.ln;omega)
 exact⟨b,off,e,hl,fun j v hj=>hc i p hp j v hj,h.el p (List.mem_of_getElem? hp)⟩
theorem wrap_i64W{a:Int}(h1:-9223372036854775808≤a)(h2:a≤9223372036854775807):IntKind.i64.wrap a=a:=IntWalk.i64_in _ ⟨h1,h2⟩
def recTW(e:PW×Nat):List Value:=recW e.1
theorem recTW_length(e:PW×Nat):(recTW e).length=78:=rfl
def SRowW(w:World)(g:Nat)(L:List (PW×Nat)):Prop:=∃R:List Value,Blk w g 67 (flat recTW L++R).toArray
theorem setList_appW{α:Type}:∀(vs l R:List α) (k:Nat),k+vs.length≤l.length→setList (l++R) k vs=setList l k vs++R:=by
 intro vs
 induction vs with
 | nil=>intro l R k _;rfl
 | cons v vs ih=>
  intro l R k h
  simp only[List.length_cons] at h
  rw[setList,setList,List.set_append_left _ _ (by omega),ih _ _ _ (by rw[List.length_set];omega)]
section
variable {w w':World} {g:Nat} {L:List (PW×Nat)}
theorem SRowW.range(h:SRowW w g L){j:Nat}{p:PW×Nat}(hj:L[j]?=some p):w.rangeAt g (j*78) (recW p.1):=fun i v hi=>by
 obtain⟨R,h⟩:=h
 have hf:=flat_get recTW_length hj (show(recTW p)[i]?=some v from hi)
 rw[Blk.cell h (j*78+i),List.getElem?_toArray,List.getElem?_append_left (List.getElem?_eq_some_iff.1 hf).1]
 exact hf
theorem SRowW.step(h:SRowW w g L)(hb:Below w.heap.size w w'):SRowW w' g L:=by obtain⟨R,h⟩:=h;exact⟨R,Blk.step h hb⟩
theorem SRowW.drew(h:SRowW w g L):SRowW w.drew g L:=by obtain⟨R,h⟩:=h;exact⟨R,Blk.drew h⟩
theorem SRowW.there(h:SRowW w g L){j:Nat}(hj:j<L.length):w.there g (j*78) 78:=fun i hi=>by
 obtain⟨p,hp⟩:∃p,L[j]?=some p:=⟨_,List.getElem?_eq_getElem hj⟩
 have hr:=h.range hp
 refine⟨?_,?_⟩
 ·rw[hr i _ (List.getElem?_eq_getElem (by rw[recW_length];exact hi))]
  rfl
 ·obtain⟨R,h⟩:=h
  exact Blk.frozen h _
theorem SRowW.put(h:SRowW w g L){j:Nat}(hj:j<L.length)(p:PW×Nat):SRowW (w.setCells g (j*78) (recW p.1)) g (L.set j p):=by
 obtain⟨R,h⟩:=h
 have hl:=flat_length recTW_length L
 have e:flat recTW (L.set j p)++R=setList (flat recTW L++R) (j*78) (recTW p):=by
  rw[flat_set recTW_length L j p hj,setList_appW _ _ _ _ (by rw[recTW_length];omega)]
 refine⟨R,?_⟩
 rw[e]
 exact Blk.setCells (recW p.1) (j*78) h
end
theorem swap_listW{α:Type}(A S3 S2 E:List α)(x y:α):((A++((S3++[y])++x::S2)++E).set (A.length+(S3.length+1)) y).set (A.length+(S3.length+1)-1) x=A++(S3++x::y::S2)++E:=by
 rw[show A.length+(S3.length+1)-1=A.length+S3.length by omega]
 simp
def CmpOkW(g:Nat)(w:World)(U:List (PW×Nat)):Prop:=∀(x y:PW×Nat),x∈U→y∈U→∀wr,But g w wr→
 Calls Tryz.prog 46 #[.agg (recW x.1).toArray,.agg (recW y.1).toArray] wr fun e w'=>e=.returned (.int .i64 (cmpV x.1.2.key y.1.2.key))∧Below wr.heap.size wr w'
structure IsW2(g:Nat)(w:World)(L:List (PW×Nat))(wr:World):Prop where
 row:SRowW wr g L
 but:But g w wr
theorem IsW2.step{g:Nat}{w wr w':World}{L:List (PW×Nat)}(h:IsW2 g w L wr)(hb:Below wr.heap.size wr w'):IsW2 g w L w':=⟨h.row.step hb,h.but.step hb⟩
theorem IsW2.then{g:Nat}{w w1 w2:World}{L S:List (PW×Nat)}(h:IsW2 g w L w1)(h2:IsW2 g w1 S w2):IsW2 g w S w2:=⟨h2.row,h.but.trans h2.but⟩
def IsDoneW(g:Nat)(w:World)(A Seg D:List (PW×Nat))(e:Ending)(w':World):Prop:=
 e=.returned (.tuple #[])∧∃S,Sorted (fun p q:PW=>cmpV p.2.key q.2.key) Seg S∧IsW2 g w (A++S++D) w'
theorem isortW_any(H:Ordered (fun p q:PW=>cmpV p.2.key q.2.key))(A Seg D:List (PW×Nat))(g n c a b:Nat)(w:World)(hr:SRowW w g (A++Seg++D))(hn:n=(A++Seg++D).length)(ha:a=A.length)(hb:b=A.length+Seg.length)(hz:n≤100000)(ht:Tagged Seg)(hc:CmpOkW g w Seg):
 Calls Tryz.prog 97 #[.slice (some ⟨g,0,none⟩) n c,.int .i64 a,.int .i64 b,.func (.func 46) #[] #[]] w (IsDoneW g w A Seg D):=by
 have HN:=qD hn
 have HA:=qD ha
 have HBq:=qD hb
 have hab:a≤b:=by omega
 have hbn:b≤n:=by rw[hn];simp;omega
 have HC:=qD hc
 have HT:=qD ht
 have HO:=qD H
 have I0:Hid (IsW2 g w (A++Seg++D) w):=qD ⟨hr,But.refl⟩
 clear hr hn ha hb ht hc H
 cases hs:Seg with
 | nil=>
  have hab':b≤a:=by have:=HA.out;have:=HBq.out;rw[hs] at this;simp at this;omega
  have HS:=qD hs
  clear hs
  go_enter Tryz.func97,Tryz.ntmps97
  go_wp2_with fail
  go_loopw [8] (fun v8 wr=>v8=.int .i64 (a+1)∧wr=w) (fun _ _=>0)
  case atStart=>exact⟨by go_num,rfl⟩
  case round=>
   obtain⟨rfl,rfl⟩:=hrel
   go_wp2_with fail
   go_end0
   exact⟨rfl,[],Sorted.nil,by have:=I0.out;rw[HS.out] at this;exact this⟩
 | cons x0 rest=>
  have HS:=qD hs
  clear hs
  rw[←HS.out]
  go_enter Tryz.func97,Tryz.ntmps97
  go_wp2_with fail
  go_loopw [8] (fun v8 wr=>∃(i:Nat) (P Q S:List (PW×Nat)),v8=.int .i64 i∧i=a+P.length∧1≤P.length∧i≤b∧Seg=P++Q∧Sorted (fun p q:PW=>cmpV p.2.key q.2.key) P S∧IsW2 g w (A++S++(Q++D)) wr) (fun v8 _=>b-(intOf v8).toNat)
  case atStart=>
   refine⟨a+1,[x0],rest,[x0],by go_num,rfl,qL,?_,HS.out,Sorted.one x0,?_⟩
   ·have:=HBq.out;have:=HA.out;rw[HS.out] at*;simp at*;omega
   ·have:=I0.out
    rw[HS.out] at this
    simpa using this
  case round=>
   obtain⟨i,P,Q,S,rfl,hi,hP,hib,hPQ,hS,I⟩:=hrel
   have HI:=qD hi
   have HPQ:=qD hPQ
   have HSo:=qD hS
   have J:=qD I
   clear hi hPQ hS
   by_cases hlt:i<b
   ·obtain⟨x,Q',hQ⟩:∃x Q',Q=x::Q':=by
     cases Q with
     | nil=>
      have h1:=HBq.out
      have h2:=HI.out
      have h3:=HA.out
      rw[HPQ.out] at h1
      simp at h1
      omega
     | cons x Q'=>exact⟨x,Q',rfl⟩
    have HQ:=qD hQ
    have hSl:S.length=P.length:=HSo.out.perm.length_eq
    have HSl:=qD hSl
    clear I hSl hQ
    go_wp2_with fail
    go_loopw [9] (fun v9 wr=>∃(jj:Nat) (S1 S2:List (PW×Nat)),v9=.int .i64 jj∧jj=a+S1.length∧jj≤i∧S=S1++S2∧(∀y∈S2,cmpV x.1.2.key y.1.2.key<0)∧IsW2 g w (A++(S1++x::S2)++(Q'++D)) wr) (fun v9 _=>(intOf v9).toNat)
    case atStart=>
     refine⟨i,S,[],rfl,by rw[HI.out,HSl.out],qL,by simp,by simp,?_⟩
     have:=J.out
     rw[HQ.out] at this
     simpa using this
    case round=>
     clear J
     obtain⟨jj,S1,S2,rfl,hj,hji,hSS,hall,I⟩:=hrel
     have HJ:=qD hj
     have HSS:=qD hSS
     have HAll:=qD hall
     have J:=qD I
     clear hj hSS hall
     by_cases hgt:a<jj
     ·obtain⟨S3,y,hS3⟩:∃S3 y,S1=S3++[y]:=by
       rcases List.eq_nil_or_concat S1 with h|⟨S3,y,h⟩
       ·have:=HJ.out;rw[h] at this;simp at this;omega
       ·exact⟨S3,y,by rw[h,List.concat_eq_append]⟩
      have hA:=HA.out
      have hj1:jj=A.length+(S3.length+1):=by rw[HJ.out,hS3];simp;omega
      have hx:(A++(S1++x::S2)++(Q'++D))[jj]?=some x:=by
       rw[hS3,hj1];simp
      have hy:(A++(S1++x::S2)++(Q'++D))[jj-1]?=some y:=by
       rw[hS3,hj1];simp
      have HXM:Hid (x∈Seg):=by rw[Hid,HPQ.out,HQ.out];simp
      have HYM:Hid (y∈Seg):=by
       rw[Hid,HPQ.out]
       exact List.mem_append_left _ (HSo.out.perm.subset (by rw[HSS.out,hS3];simp))
      have hjn:jj<n:=by omega
      have i0:(0:Int)≤(jj:Int):=by omega
      have i1:(jj:Int)<(n:Int):=by omega
      have i2:(0:Int)≤(jj:Int)-1:=by omega
      have i3:(jj:Int)-1<(n:Int):=by omega
      have i4:(1:Int)≤(jj:Int):=by omega
      have W1:IntKind.i64.wrap ((jj:Int)-1)=(jj:Int)-1:=wrap_i64W (by omega) (by omega)
      have W2:((jj:Int)-1).toNat=jj-1:=by omega
      have HX:=qD hx
      have HY:=qD hy
      have HS3:=qD hS3
      have HJ1:=qD hj1
      clear hx hy I hS3 hj1 hA
      go_upto_region 4 with fail
      have B:Hid (Below wr.heap.size wr wr.drew):=qD ((Below.refl wr.heap.size wr).drew)
      have KSS:Hid (∀w':World,Below wr.heap.size wr w'→(fun w'=>w'.rangeAt g (jj*78) (recW x.1)∧w'.rangeAt g ((jj-1)*78) (recW y.1)) w'):=qD fun w' hb=>⟨SRowW.range (J.out.row.step hb) HX.out,SRowW.range (J.out.row.step hb) HY.out⟩
      refine wp_region_noPanic ?_
      refine wp_region_held_drew (S:=(fun w'=>w'.rangeAt g (jj*78) (recW x.1)∧w'.rangeAt g ((jj-1)*78) (recW y.1))) (by kernel_rfl) ?_ (fun hHeld=>?_)
      ·(try dsimp only);exact KSS.out _ B.out
      generalize wr.drew=v0 at*
      refine rU 0 rfl ?_
      try go_frame
      refine rU 1 rfl ?_
      try go_frame
      refine rU 2 rfl ?_
      try go_frame
      refine rU 3 rfl ?_
      try go_frame
      refine rU 4 rfl ?_
      try go_frame
      refine rU 5 rfl ?_
      try go_frame
      refine rU 6 rfl ?_
      try go_frame
      refine rU 7 rfl ?_
      try go_frame
      refine rT (v:=.agg (recW x.1).toArray) 8 rfl ?_ ?_
      ·intro w' hSw;exact exec_mid rfl rfl hSw.1 Tryz.underlying67 rfl (by rw[sizeW];rfl)
      try go_frame
      refine rU 9 rfl ?_
      try go_frame
      refine rU 10 rfl ?_
      try go_frame
      refine rU 11 rfl ?_
      try go_frame
      refine rU 12 rfl ?_
      try go_frame
      refine rT (v:=.agg (recW y.1).toArray) 13 rfl ?_ ?_
      ·intro w' hSw;exact exec_mid rfl rfl hSw.2 Tryz.underlying67 rfl (by rw[sizeW];rfl)
      try go_frame
      refine rY 14 rfl fun K hK=>?_
      go_simp
      refine(HC.out x y HXM.out HYM.out v0 (J.out.but.step B.out)).mono ?_
      rintro e3 y1 ⟨rfl,hb⟩
      replace B:=qD (B.out.step' hb)
      clear hb
      (try go_wp2_with fail)
      clear hHeld
      refine hK.out _ _ ?_ fun hHeld=>?_
      ·(try dsimp only);exact KSS.out _ B.out
      clear hK K
      try go_frame
      refine rU 15 rfl ?_
      try go_frame
      refine rU 16 rfl ?_
      try go_frame
      refine rD ?_ _
      refine NoPanic.normal ?_
      have J2:=qD (J.out.step B.out)
      clear W1 W2 i0 i1 i2 i3 i4 KSS B hHeld
      generalize y1=w2 at*
      by_cases hc:cmpV x.1.2.key y.1.2.key<0
      ·have HCL:=qD hc
       have i0:(0:Int)≤(jj:Int):=by omega
       have i1:(jj:Int)<(n:Int):=by omega
       have i2:(0:Int)≤(jj:Int)-1:=by omega
       have i3:(jj:Int)-1<(n:Int):=by omega
       have i4:(1:Int)≤(jj:Int):=by omega
       have W1:IntKind.i64.wrap ((jj:Int)-1)=(jj:Int)-1:=wrap_i64W (by omega) (by omega)
       have W2:((jj:Int)-1).toNat=jj-1:=by omega
       go_upto_region 6 with fail
       have DR:Hid (SRowW w2.drew g (A++(S1++x::S2)++(Q'++D))):=SRowW.drew J2.out.row
       have DB:Hid (But g w w2.drew):=J2.out.but.step ((Below.refl _ _).drew)
       have HL:Hid (jj<(A++(S1++x::S2)++(Q'++D)).length):=(List.getElem?_eq_some_iff.1 HX.out).1
       have RX:Hid (w2.drew.rangeAt g (jj*78) (recW x.1)):=SRowW.range DR.out HX.out
       have RY:Hid (w2.drew.rangeAt g ((jj-1)*78) (recW y.1)):=SRowW.range DR.out HY.out
       refine wp_region_noPanic ?_
       refine wp_region_held_drew (S:=(fun _=>True)) (by kernel_rfl) ?_ (fun hHeld=>?_)
       ·(try dsimp only);skip
       generalize w2.drew=v0 at*
       refine rU 0 rfl ?_
       try go_frame
       refine rU 1 rfl ?_
       try go_frame
       refine rU 2 rfl ?_
       try go_frame
       refine rU 3 rfl ?_
       try go_frame
       refine rU 4 rfl ?_
       try go_frame
       refine rU 5 rfl ?_
       try go_frame
       refine rU 6 rfl ?_
       try go_frame
       refine rU 7 rfl ?_
       try go_frame
       refine rU 8 rfl ?_
       try go_frame
       refine rU 10 rfl ?_
       try go_frame
       refine rU 11 rfl ?_
       try go_frame
       refine rU 12 rfl ?_
       try go_frame
       refine rR [9,13] ?_
       refine rC (fun K hK=>?_) (rC (fun K hK=>?_) rN)
       ·refine wp_load_mid 67 _ rfl g ((jj-1)*78) rfl _ _ (RY.out) Tryz.underlying67 rfl (by rw[sizeW];rfl) ?_
        clear hHeld
        refine hK.out _ _ ?_ fun hHeld=>?_
        ·(try dsimp only);skip
        clear hK K
        try go_frame
        refine rY 13 rfl fun K hK=>?_
        refine wp_load_mid 67 _ rfl g (jj*78) rfl _ _ (RX.out) Tryz.underlying67 rfl (by rw[sizeW];rfl) ?_
        clear hHeld
        refine hK.out _ _ ?_ fun hHeld=>?_
        ·(try dsimp only);skip
        clear hK K
        try go_frame
        refine rU 14 rfl ?_
        try go_frame
        refine rY 15 rfl fun K hK=>?_
        refine wp_store_mid 67 _ _ rfl g (jj*78) (recW y.1).toArray rfl rfl (SRowW.there DR.out HL.out) (by rw[sizeW];rfl) (recC78_all _) ?_
        have D2:=qD (SRowW.put DR.out HL.out y)
        have U2:=qD (But.setCells (recW y.1) (jj*78) DB.out)
        change K _ (v0.setCells g (jj*78) (recW y.1))
        generalize v0.setCells g (jj*78) (recW y.1)=z1 at*
        clear hHeld
        refine hK.out _ _ ?_ fun hHeld=>?_
        ·(try dsimp only);skip
        clear hK K
        try go_frame
        refine rU 16 rfl ?_
        try go_frame
        refine rY 17 rfl fun K hK=>?_
        refine wp_store_mid 67 _ _ rfl g ((jj-1)*78) (recW x.1).toArray rfl rfl (SRowW.there D2.out (by rw[List.length_set];have:=HL.out;omega)) (by rw[sizeW];rfl) (recC78_all _) ?_
        have D3:=qD (SRowW.put D2.out (j:=jj-1) (by rw[List.length_set];have:=HL.out;omega) x)
        have U3:=qD (But.setCells (recW x.1) ((jj-1)*78) U2.out)
        change K _ (z1.setCells g ((jj-1)*78) (recW x.1))
        generalize z1.setCells g ((jj-1)*78) (recW x.1)=z2 at*
        clear hHeld
        refine hK.out _ _ ?_ fun hHeld=>?_
        ·(try dsimp only);skip
        clear hK K
        try go_frame
        refine rD ?_ _
        refine NoPanic.normal ?_
        clear RX RY DR DB D2 U2 hHeld
        go_wp2_with fail
        refine⟨⟨jj-1,S3,y::S2,by rw[show((jj-1:Nat):Int)=(jj:Int)-1 by omega],by rw[HJ1.out,HA.out];omega,by omega,by rw[HSS.out,HS3.out];simp,?_,?_⟩,by simp[intOf];omega⟩
        ·intro q hq
         rcases List.mem_cons.1 hq with rfl|hq
         ·exact HCL.out
         ·exact HAll.out q hq
        ·have r1:=D3.out
         rw[HS3.out,HJ1.out,swap_listW] at r1
         exact⟨r1,U3.out⟩
       ·refine wp_load_mid 67 _ rfl g (jj*78) rfl _ _ (RX.out) Tryz.underlying67 rfl (by rw[sizeW];rfl) ?_
        clear hHeld
        refine hK.out _ _ ?_ fun hHeld=>?_
        ·(try dsimp only);skip
        clear hK K
        try go_frame
        refine rY 9 rfl fun K hK=>?_
        refine wp_load_mid 67 _ rfl g ((jj-1)*78) rfl _ _ (RY.out) Tryz.underlying67 rfl (by rw[sizeW];rfl) ?_
        clear hHeld
        refine hK.out _ _ ?_ fun hHeld=>?_
        ·(try dsimp only);skip
        clear hK K
        try go_frame
        refine rU 14 rfl ?_
        try go_frame
        refine rY 15 rfl fun K hK=>?_
        refine wp_store_mid 67 _ _ rfl g (jj*78) (recW y.1).toArray rfl rfl (SRowW.there DR.out HL.out) (by rw[sizeW];rfl) (recC78_all _) ?_
        have D2:=qD (SRowW.put DR.out HL.out y)
        have U2:=qD (But.setCells (recW y.1) (jj*78) DB.out)
        change K _ (v0.setCells g (jj*78) (recW y.1))
        generalize v0.setCells g (jj*78) (recW y.1)=z1 at*
        clear hHeld
        refine hK.out _ _ ?_ fun hHeld=>?_
        ·(try dsimp only);skip
        clear hK K
        try go_frame
        refine rU 16 rfl ?_
        try go_frame
        refine rY 17 rfl fun K hK=>?_
        refine wp_store_mid 67 _ _ rfl g ((jj-1)*78) (recW x.1).toArray rfl rfl (SRowW.there D2.out (by rw[List.length_set];have:=HL.out;omega)) (by rw[sizeW];rfl) (recC78_all _) ?_
        have D3:=qD (SRowW.put D2.out (j:=jj-1) (by rw[List.length_set];have:=HL.out;omega) x)
        have U3:=qD (But.setCells (recW x.1) ((jj-1)*78) U2.out)
        change K _ (z1.setCells g ((jj-1)*78) (recW x.1))
        generalize z1.setCells g ((jj-1)*78) (recW x.1)=z2 at*
        clear hHeld
        refine hK.out _ _ ?_ fun hHeld=>?_
        ·(try dsimp only);skip
        clear hK K
        try go_frame
        refine rD ?_ _
        refine NoPanic.normal ?_
        clear RX RY DR DB D2 U2 hHeld
        go_wp2_with fail
        refine⟨⟨jj-1,S3,y::S2,by rw[show((jj-1:Nat):Int)=(jj:Int)-1 by omega],by rw[HJ1.out,HA.out];omega,by omega,by rw[HSS.out,HS3.out];simp,?_,?_⟩,by simp[intOf];omega⟩
        ·intro q hq
         rcases List.mem_cons.1 hq with rfl|hq
         ·exact HCL.out
         ·exact HAll.out q hq
        ·have r1:=D3.out
         rw[HS3.out,HJ1.out,swap_listW] at r1
         exact⟨r1,U3.out⟩
      ·have HD:Hid (Sorted (fun p q:PW=>cmpV p.2.key q.2.key) (P++[x]) (S1++x::S2)):=by
        refine Sorted.insert HO.out (by rw[←HSS.out];exact HSo.out) (fun y hy=>?_) HAll.out (fun q hq=>?_)
        ·have h:=HT.out
         rw[HPQ.out,HQ.out] at h
         exact(List.pairwise_append.1 h).2.2 y hy x (by simp)
        ·rw[HS3.out] at hq
         simp at hq
         subst hq
         exact hc
       go_wp2_with fail
       go_roundw
       case rel=>exact⟨i+1,P++[x],Q',S1++x::S2,by go_num,by rw[HI.out];simp;omega,by simp,by omega,by rw[HPQ.out,HQ.out];simp,HD.out,J2.out⟩
       case measure=>simp[intOf];omega
     ·have HN1:Hid (S1=[]):=List.eq_nil_of_length_eq_zero (by have:=HJ.out;omega)
      have HD:Hid (Sorted (fun p q:PW=>cmpV p.2.key q.2.key) (P++[x]) (S1++x::S2)):=by
       refine Sorted.insert HO.out (by rw[←HSS.out];exact HSo.out) (fun y hy=>?_) HAll.out (fun q hq=>?_)
       ·have h:=HT.out
        rw[HPQ.out,HQ.out] at h
        exact(List.pairwise_append.1 h).2.2 y hy x (by simp)
       ·rw[HN1.out] at hq
        simp at hq
      clear I
      have hgt':decide ((a:Int)<(jj:Int))=false:=decide_eq_false (by omega)
      go_upto_region 4 with fail
      go_quiet (fail)
      go_wp2_with fail
      go_roundw
      case rel=>exact⟨i+1,P++[x],Q',S1++x::S2,by go_num,by rw[HI.out];simp;omega,by simp,by omega,by rw[HPQ.out,HQ.out];simp,HD.out,J.out.step (Below.drewN (Below.refl _ _) _)⟩
      case measure=>simp[intOf];omega
   ·have HF:Hid (Q=[]):=by
     have h1:=HBq.out
     have h2:=HI.out
     have h3:=HA.out
     rw[HPQ.out] at h1
     simp at h1
     exact List.eq_nil_of_length_eq_zero (by omega)
    clear I
    go_wp2_with fail
    go_end0
    refine⟨rfl,S,?_,?_⟩
    ·have:=HSo.out;rw[HPQ.out,HF.out,List.append_nil];exact this
    ·have:=J.out;rw[HF.out,List.nil_append] at this;exact this
theorem ordW:Ordered (fun p q:PW=>cmpV p.2.key q.2.key):=⟨fun _ _=>cmpV_anti _ _,fun _ _ _=>cmpV_tr _ _ _⟩
theorem stableW_any(L:List (PW×Nat))(g n c:Nat)(w:World)(hr:SRowW w g L)(hn:n=L.length)(h20:n≤20)(ht:Tagged L)(hc:CmpOkW g w L):
 Calls Tryz.prog 69 #[.slice (some ⟨g,0,none⟩) n c,.int .i64 n,.func (.func 46) #[] #[]] w (IsDoneW g w [] L []):=by
 have HN:=qD hn
 have HT:=qD ht
 have HC:=qD hc
 have I0:Hid (SRowW w g ([]++L++[])):=by rw[Hid,List.nil_append,List.append_nil];exact hr
 have HLN:Hid (n=([]++L++[]).length):=by rw[Hid,List.nil_append,List.append_nil];exact hn
 clear hr hn ht hc
 go_enter Tryz.func69,Tryz.ntmps69
 go_wp2_with fail
 go_loopw [7,8] (fun v7 v8 wr=>(v7=.int .i64 0∧v8=.int .i64 20∧w=wr)∨(n=20∧v7=.int .i64 20∧v8=.int .i64 40∧∃S,Sorted (fun p q:PW=>cmpV p.2.key q.2.key) L S∧IsW2 g w S wr)) (fun _ v8 _=>60-(intOf v8).toNat)
 case atStart=>exact .inl ⟨rfl,rfl,rfl⟩
 case round=>
  rcases hrel with⟨rfl,rfl,rfl⟩|⟨hn20,rfl,rfl,S,hS,hI⟩
  ·by_cases hlt:n=20
   ·have HX:=qD (isortW_any ordW [] L [] g n c 0 20 w I0.out HLN.out rfl (by rw[←HN.out,hlt];rfl) (by omega) HT.out HC.out)
    have HN20:=qD hlt
    have hl1:(20:Int)≤(n:Int):=by omega
    clear hlt
    go_wp2_with fail
    refine HX.out.mono ?_
    rintro e w1 ⟨rfl,S,hS,h1⟩
    have HS:=qD hS
    have H1:Hid (IsW2 g w S w1):=by rw[List.nil_append,List.append_nil] at h1;exact h1
    clear hS h1
    go_wp2_with fail
    go_roundw
    case rel=>exact .inr ⟨HN20.out,rfl,rfl,S,HS.out,H1.out⟩
    case measure=>simp[intOf]
   ·have HX:=qD (isortW_any ordW [] L [] g n c 0 n w I0.out HLN.out rfl (by rw[←HN.out];simp) (by omega) HT.out HC.out)
    have hlt':n<20:=by omega
    clear hlt
    go_wp2_with fail
    refine HX.out.mono ?_
    rintro e w1 ⟨rfl,S,hS,h1⟩
    have HS:=qD hS
    have H1:=qD h1
    clear hS h1
    go_wp2_with fail
    go_loopw [6] (fun v6 wr=>v6=.int .i64 20∧wr=w1) (fun _ _=>0)
    case atStart=>exact⟨rfl,rfl⟩
    case round=>
     obtain⟨rfl,rfl⟩:=hrel
     go_wp2_with fail
     go_end0
     exact⟨rfl,S,HS.out,H1.out⟩
  ·have HN20:=qD hn20
   have hl1:(n:Int)≤20:=by omega
   have hl2:(n:Int)<40:=by omega
   clear hn20
   have HS:=qD hS
   have HIs:=qD hI
   have HSl:Hid (S.length=20):=by rw[Hid,hS.perm.length_eq,←HN.out,HN20.out]
   have HX:=qD (isortW_any ordW S [] [] g n c 20 n wr (by rw[List.append_nil,List.append_nil];exact hI.row) (by rw[List.append_nil,List.append_nil,HSl.out,HN20.out]) HSl.out.symm (by rw[HSl.out,HN20.out];rfl) (by omega) List.Pairwise.nil (fun x y hx=>by simp at hx))
   clear hS hI
   go_wp2_with fail
   refine HX.out.mono ?_
   rintro e w1 ⟨rfl,S2,hS2,h1⟩
   have hS2':S2=[]:=List.eq_nil_of_length_eq_zero (by have:=hS2.perm.length_eq;simpa using this)
   subst hS2'
   have H1:Hid (IsW2 g w ([]++S++[]) w1):=by rw[List.append_nil,List.append_nil] at h1;rw[List.nil_append,List.append_nil];exact HIs.out.then h1
   clear hS2 h1
   go_wp2_with fail
   go_loopw [6] (fun v6 wr=>v6=.int .i64 20∧wr=w1) (fun _ _=>0)
   case atStart=>exact⟨rfl,rfl⟩
   case round=>
    obtain⟨rfl,rfl⟩:=hrel
    go_wp2_with fail
    go_end0
    exact⟨rfl,S,HS.out,H1.out⟩
theorem sortStableW_any(L:List (PW×Nat))(g n c:Nat)(w:World)(hr:SRowW w g L)(hn:n=L.length)(h20:n≤20)(ht:Tagged L)(hc:CmpOkW g w L):
 Calls Tryz.prog 45 #[.slice (some ⟨g,0,none⟩) n c,.func (.func 46) #[] #[]] w (IsDoneW g w [] L []):=by
 have HR:=qD hr
 have HN:=qD hn
 have HT:=qD ht
 have HC:=qD hc
 clear hr hn ht hc
 go_enter Tryz.func45,Tryz.ntmps45
 go_wp2_with fail
 refine(stableW_any L g n c _ HR.out HN.out h20 HT.out HC.out).mono ?_
 rintro e w1 hd
 have HD:=qD hd
 obtain⟨rfl,_⟩:=hd
 go_wp2_with fail
 go_end0
 exact HD.out
theorem orph1_any(x y:PW)(w:World)(h:RW w x.1.key x.2.key)(h':RW w y.1.key y.2.key):
 Calls Tryz.prog 46 #[.agg (recW x).toArray,.agg (recW y).toArray] w fun e w'=>e=.returned (.int .i64 (cmpV x.2.key y.2.key))∧Below w.heap.size w w':=by
 have H:=qD h
 have H':=qD h'
 clear h h'
 obtain⟨wa,hwa⟩:∃wa,(w.alloc (.cells (recW x).toArray 67)).alloc (.cells (recW y).toArray 67)=wa:=⟨_,rfl⟩
 have B0:Hid (Blk wa w.heap.size 67 (recW x).toArray):=by rw[←hwa];exact(Blk.new_at rfl).alloc _
 have B1:Hid (Blk wa (w.heap.size+1) 67 (recW y).toArray):=by rw[←hwa];exact Blk.new_at (by simp)
 have BE:Hid (Below w.heap.size w wa):=by rw[←hwa];exact((Below.refl _ _).alloc (qL) _).alloc (by simp) _
 have HWA:=qD hwa
 clear hwa
 obtain⟨⟨kd,sp,kx,dx,si⟩,xt⟩:=x
 obtain⟨⟨kd2,sp2,ky,dy,si2⟩,yt⟩:=y
 go_enter Tryz.func46,Tryz.ntmps46
 go_upto_region 1 with fail
 change Code.wp _ _ _ _ ((w.alloc (.cells (recW (⟨kd,sp,kx,dx,si⟩,xt)).toArray 67)).alloc (.cells (recW (⟨kd2,sp2,ky,dy,si2⟩,yt)).toArray 67))
 rw[HWA.out]
 clear HWA
 have a0:wa.cell? ⟨w.heap.size,2,none⟩=some (.int .i64 kx.k):=B0.out.cellL rfl
 have a1:wa.cell? ⟨w.heap.size,3,none⟩=some (.int .i64 kx.n):=B0.out.cellL rfl
 have a2:wa.cell? ⟨w.heap.size,4,none⟩=some (.string kx.t):=B0.out.cellL rfl
 have a3:wa.cell? ⟨w.heap.size,5,none⟩=some (.slice kx.LA kx.ln kx.lc):=B0.out.cellL rfl
 have a4:wa.cell? ⟨w.heap.size,6,none⟩=some (.slice kx.DA kx.dn kx.dc):=B0.out.cellL rfl
 have b0:wa.cell? ⟨w.heap.size+1,2,none⟩=some (.int .i64 ky.k):=B1.out.cellL rfl
 have b1:wa.cell? ⟨w.heap.size+1,3,none⟩=some (.int .i64 ky.n):=B1.out.cellL rfl
 have b2:wa.cell? ⟨w.heap.size+1,4,none⟩=some (.string ky.t):=B1.out.cellL rfl
 have b3:wa.cell? ⟨w.heap.size+1,5,none⟩=some (.slice ky.LA ky.ln ky.lc):=B1.out.cellL rfl
 have b4:wa.cell? ⟨w.heap.size+1,6,none⟩=some (.slice ky.DA ky.dn ky.dc):=B1.out.cellL rfl
 have HCM:=qD (cmp_any xt.key yt.key kx ky wa (H.out.step BE.out) (H'.out.step BE.out))
 go_wp2_with fail
 refine HCM.out.mono ?_
 rintro e w1 ⟨rfl,hb⟩
 have BZ:=qD (BE.out.step' hb)
 clear hb HCM
 go_wp2_with fail
 go_ret
 exact⟨rfl,BZ.out⟩
end Go.Proofs.YtlicnjecnehaoaaGreatDoor
