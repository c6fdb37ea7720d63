/- Parts of the proof, joined: MrRef5, MrRef6, ChSame, ShSame23, MrSame. -/
import Derived.Test.YtlicnjecnehaoaaGreatDoorRa1
import Derived.Test.YtlicnjecnehaoaaGreatDoorRa22
import Derived.Test.YtlicnjecnehaoaaGreatDoorRa19
import Derived.Test.YtlicnjecnehaoaaGreatDoorRa5
import Derived.Test.YtlicnjecnehaoaaGreatDoorRa15
import Derived.Deep.RegionHeld3
set_option maxRecDepth 100000
set_option maxHeartbeats 16000000
set_option linter.unusedSimpArgs false
namespace Go.Proofs.YtlicnjecnehaoaaGreatDoor
open Go.RowKit
theorem wpList_builtC{P:Program}{ops:Array Oper}{rest:List Oper}{o:Oper}{a:Act}{w:World}{Q:Exit→Act→World→Prop}(hg:o.guard=none)(t:TypeId)(parts:Array (Nat×Operand))(ho:o.op=.build t parts)(cells:Array Value)(hb:P.built t (parts.map fun(i,x)=>(i,a.eval x)).toList=some cells)(h:wpList P ops Q rest (a.put o.dst (.agg cells)) w):wpList P ops Q (o::rest) a w:=
 wpList_build hg t parts ho (by rw[hb];rfl) (by rw[hb];exact h)
theorem noteX_none{R:Ro}{sp lo hi:ByteArray}{x:Wx}(h:x.sp≠sp∨(x.kd≠2∧x.kd≠3)):noteX R sp lo hi x=[]:=by
 unfold noteX noteL
 by_cases hsp:x.sp=sp
 ·rcases h with h|⟨h2,h3⟩
  ·exact absurd hsp h
  ·rw[if_pos hsp,if_neg (fun h=>h2 h.1),if_neg h3]
 ·rw[if_neg hsp]
theorem rnote_any(M:Mv)(ma:MA)(R:Ro)(a:RA)(cs:List Value)(x:Wx)(w:World)(h:RR w a R)(h8:R.ks.length≤8)(hk:R.ha=true→R.ks.length=1)(hm:MR w ma M)(hx:IsW w cs x)(hlo:M.lo.size≤reach)(hsto:x.kd=2→StoD x.doc)(hst:M.st=2)(hh:M.ch.length≤900):
 Calls Tryz.prog 21 #[mval ma M,rval a R,.agg cs.toArray] w (MvR (noteM M R x) w):=by
 obtain⟨j0,hj0,hw0,hw1,hw2⟩:=info_parts info_write
 obtain⟨CA,cn,cc,HA,hn,hc2⟩:=ma
 obtain⟨sp,lo,hi,fr,tt,st,cp,ch⟩:=M
 simp only at hlo hst hh
 subst hst
 obtain⟨qs,hqs,Q⟩:=hm.ch
 simp only at hqs Q
 have hhn:hn=qs.length:=Q.sr.ln
 subst hhn
 have HLQ:Hid (qs.length≤900):=by have:=congrArg List.length hqs;rw[List.length_map] at this;unfold Hid;omega
 have HQ:=qD Q
 have HQS:=qD hqs
 have HR:=qD h
 have H8:=qD h8
 have HK:=qD hk
 have HM:=qD hm
 have HLO:=qD hlo
 have HSTO:=qD hsto
 have HSP:Hid (sp.size≤reach):=hm.sp
 have HXK:=qD hx.hk
 have HXD:=qD hx.hd
 have HRK:=qD hx.key
 have HRD:=qD hx.doc
 have HX0:=qD hx.h0
 have HX1:=qD hx.h1
 have HCS:Hid (cs.toArray.size=78):=by rw[Hid,List.size_toArray];exact hx.len
 clear h h8 hk hm hlo hsto hx hqs Q
 obtain⟨wa,hwa⟩:∃wa,(((w.alloc (.cells (marr ⟨CA,cn,cc,HA,qs.length,hc2⟩ ⟨sp,lo,hi,fr,tt,2,cp,ch⟩) 35)).alloc (.cells (rarr a R) 27)).alloc (.cells cs.toArray 67)).alloc (.cells (marr MA.zero Mv.zero) 35)=wa:=⟨_,rfl⟩
 have B0:Hid (Blk wa w.heap.size 35 (marr ⟨CA,cn,cc,HA,qs.length,hc2⟩ ⟨sp,lo,hi,fr,tt,2,cp,ch⟩)):=by rw[←hwa];exact(((Blk.new_at rfl).alloc _).alloc _).alloc _
 have BR:Hid (Blk wa (w.heap.size+1) 27 (rarr a R)):=by rw[←hwa];exact((Blk.new_at (by simp)).alloc _).alloc _
 have BW:Hid (Blk wa (w.heap.size+2) 67 cs.toArray):=by rw[←hwa];exact(Blk.new_at (by simp)).alloc _
 have BZ:Hid (Blk wa (w.heap.size+3) 35 (marr MA.zero Mv.zero)):=by rw[←hwa];exact Blk.new_at (by simp)
 have BE:Hid (Below w.heap.size w wa):=by rw[←hwa];exact((((Below.refl _ _).alloc (qL) _).alloc (by simp) _).alloc (by simp;omega) _).alloc (by simp;omega) _
 have HW3:Hid (wa.heap.size=w.heap.size+4):=by rw[←hwa];simp[Hid]
 have HWA:=qD hwa
 clear hwa
 go_enter Tryz.func21,Tryz.ntmps21
 go_upto_region 1 with fail
 change Code.wp _ _ _ _ ((((w.alloc (.cells (marr ⟨CA,cn,cc,HA,qs.length,hc2⟩ ⟨sp,lo,hi,fr,tt,2,cp,ch⟩) 35)).alloc (.cells (rarr a R) 27)).alloc (.cells cs.toArray 67)).alloc (.cells (marr MA.zero Mv.zero) 35))
 rw[HWA.out]
 clear HWA
 have hlq:=HLQ.out
 have q5:wa.cell? ⟨w.heap.size,5,none⟩=some (.int .i64 2):=B0.out.cell 5
 have q7:wa.cell? ⟨w.heap.size,7,none⟩=some (.slice HA qs.length hc2):=B0.out.cell 7
 have V0:Hid (RgI wa.heap.size w (.slice none 0 0) [] wa):=RgI.start BE.out.size BE.out
 have QA:=qD (HQ.out.step BE.out)
 go_upto_region 5 with(at_builtin;refine wpList_append_any _ rfl _ _ 33 rfl wa.heap.size 67 j0 _ 78 1168 Tryz.underlying33 hj0 hw0 hw1 hw2 rfl (by decide) (.slice none 0 0) 0 (flat recW []) rfl V0.out.own _ HA qs.length hc2 (flat recW qs) rfl (QA.out.sr.reads recW_length (by decide)) (flat_oneW _) (by unfold maxLen;omega) (by omega) (qL) ?_)
 intro v1 w1 hown hgr hat
 have V1:=qD (V0.out.addL (qs:=qs) (fun p hp=>(HQ.out.el p hp).low) (by simp) hown hgr)
 have ho0:∀b,b<wa.heap.size→some b≠(Value.slice none 0 0).ownBlock:=fun b hb e=>by cases e
 have hW2:=HW3.out
 have K0:=qD (B0.out.grown hgr (ho0 _ (by omega)))
 have KR:=qD (BR.out.grown hgr (ho0 _ (by omega)))
 have KW:=qD (BW.out.grown hgr (ho0 _ (by omega)))
 have KZ:=qD (BZ.out.grown hgr (ho0 _ (by omega)))
 have HS1:Hid (wa.heap.size≤w1.heap.size):=hgr.size
 rw[List.nil_append] at V1
 clear hown hgr hat q5 q7 B0 BR BW BZ V0 QA ho0 hlq hW2
 have s1:w1.cell? ⟨w.heap.size+2,1,none⟩=some (.string x.sp):=KW.out.cellL HX1.out
 have s2:w1.cell? ⟨w.heap.size+2,0,none⟩=some (.int .i64 x.kd):=KW.out.cellL HX0.out
 by_cases hk2:x.kd=2
 ·rw[hk2] at s2
  have HKD:=qD hk2
  clear hk2
  by_cases hsp:x.sp=sp
  ·have HSE:=qD hsp
   rw[hsp] at s1
   clear hsp
   have d0:w1.cell? ⟨w.heap.size+2,7,none⟩=some (.int .i64 x.dc.k):=KW.out.cellL (HXD.out 0 _ rfl)
   have d1:w1.cell? ⟨w.heap.size+2,8,none⟩=some (.int .i64 x.dc.n):=KW.out.cellL (HXD.out 1 _ rfl)
   have d2:w1.cell? ⟨w.heap.size+2,9,none⟩=some (.string x.dc.t):=KW.out.cellL (HXD.out 2 _ rfl)
   have d3:w1.cell? ⟨w.heap.size+2,10,none⟩=some (.slice x.dc.LA x.dc.ln x.dc.lc):=KW.out.cellL (HXD.out 3 _ rfl)
   have d4:w1.cell? ⟨w.heap.size+2,11,none⟩=some (.slice x.dc.DA x.dc.dn x.dc.dc):=KW.out.cellL (HXD.out 4 _ rfl)
   obtain⟨m0,m1,m2,m3,m4,m5,m6,m7⟩:=blk_mv K0.out
   obtain⟨q0,q1,q2,q3,q4,q5,qz⟩:=blk_ro KR.out
   simp only at m6 m7
   obtain⟨ib,hib⟩:∃ib,insD R lo hi x.doc=ib:=⟨_,rfl⟩
   have HIN:=rin_any ⟨sp,lo,hi,fr,tt,2,[],[]⟩ ⟨CA,cn,cc,HA,qs.length,hc2⟩ R a x.doc x.dc w1 (HR.out.step V1.out.bel) (HRD.out.step V1.out.bel) H8.out HK.out HLO.out
   rw[hib] at HIN
   have HIN2:=qD HIN
   have HIB:=qD hib
   clear hib HIN qz
   go_wp2_with fail
   refine HIN2.out.mono ?_
   rintro e w2 ⟨rfl,hb⟩
   have L0:=qD (K0.out.step hb)
   have LW:=qD (KW.out.step hb)
   have LZ:=qD (KZ.out.step hb)
   have LV:=qD (V1.out.step hb)
   have HS2:Hid (wa.heap.size≤w2.heap.size):=Nat.le_trans HS1.out hb.size
   clear hb m0 m1 m2 m3 m4 m5 m6 m7 q0 q1 q2 q3 q4 q5 s1 s2 d0 d1 d2 d3 d4 K0 KR KW KZ V1 HIN2
   cases ib
   ·have s2:w2.cell? ⟨w.heap.size+2,0,none⟩=some (.int .i64 2):=by rw[←HKD.out];exact LW.out.cellL HX0.out
    go_upto_region 9 with fail
    clear s2
    obtain⟨Ae,ce,hve,hce⟩:=own_slice LV.out.own
    subst hve
    have q7:w2.cell? ⟨w.heap.size,7,none⟩=some (.slice HA qs.length hc2):=L0.out.cell 7
    have z7:=L0.out.frozen 7
    go_upto_region 10 with fail
    change Code.wp _ _ _ _ (w2.setCell ⟨w.heap.size,7,none⟩ (.slice Ae (qs).length ce))
    have G0:Hid (Blk (w2.setCell ⟨w.heap.size,7,none⟩ (.slice Ae (qs).length ce)) w.heap.size 35 (marr ⟨CA,cn,cc,Ae,(qs).length,ce⟩ ⟨sp,lo,hi,fr,tt,2,[],[]⟩)):=L0.out.set_ 7 _
    have GZ:=qD (LZ.out.far (p:=⟨w.heap.size,7,none⟩) (by show w.heap.size+3≠w.heap.size;omega) (.slice Ae (qs).length ce))
    have GE:=qD (LV.out.bel.setCell (p:=⟨w.heap.size,7,none⟩) (qL) (.slice Ae (qs).length ce))
    have GV:=qD (LV.out.keep (w':=w2.setCell ⟨w.heap.size,7,none⟩ (.slice Ae (qs).length ce)) (fun b hb _=>Below.heap_setCell _ _ _ b (by show b≠w.heap.size;have:=HW3.out;omega)) GE.out)
    clear q7 z7 L0 LZ LV
    generalize w2.setCell ⟨w.heap.size,7,none⟩ (.slice Ae (qs).length ce)=w9 at*
    go_wp2_with (first|(refine wpList_load_row rfl 35 _ rfl (w.heap.size) rfl _ _ _ _ G0.out Tryz.underlying35 rfl (by rw[sizeM];rfl) ?_)|(refine wpList_store_row rfl 35 _ _ rfl (w.heap.size+3) (marr ⟨CA,cn,cc,Ae,(qs).length,ce⟩ ⟨sp,lo,hi,fr,tt,2,[],[]⟩) rfl rfl 35 _ GZ.out (by rw[sizeM];rfl) rfl (marr_all _ _) ?_))
    have VZ:=GV.out.keep (w':=w9.setRow (w.heap.size+3) (marr ⟨CA,cn,cc,Ae,(qs).length,ce⟩ ⟨sp,lo,hi,fr,tt,2,[],[]⟩)) (fun b hb _=>setRow_other _ _ _ _ (by have:=HW3.out;omega)) (below_row GE.out (by omega) _)
    obtain⟨A9,c9,he9,hws⟩:=VZ.sl (by have:=HLQ.out;omega)
    injection he9 with e1 e2 e3
    subst e1 e3
    obtain⟨us,hus,U⟩:=HM.out.cp
    refine bodyPost_ret (results_mv rfl _ (w.heap.size+3) rfl (.int .i64 0) rfl _ ⟨CA,cn,cc,Ae,(qs).length,ce⟩ ⟨sp,lo,hi,fr,tt,2,[],[]⟩ (Blk.row GZ.out _)) rfl ?_
    have hnx:noteX R sp lo hi x=[]:=noteX_out HSE.out HKD.out HIB.out
    unfold MvR noteM
    rw[if_pos rfl]
    exact⟨⟨CA,cn,cc,Ae,(qs).length,ce⟩,rfl,⟨HSP.out,⟨us,hus,U.step VZ.bel⟩,⟨qs,by rw[hnx,←HQS.out];simp,hws⟩⟩,VZ.bel⟩
   ·have d0:w2.cell? ⟨w.heap.size+2,7,none⟩=some (.int .i64 x.dc.k):=LW.out.cellL (HXD.out 0 _ rfl)
    have d1:w2.cell? ⟨w.heap.size+2,8,none⟩=some (.int .i64 x.dc.n):=LW.out.cellL (HXD.out 1 _ rfl)
    have d2:w2.cell? ⟨w.heap.size+2,9,none⟩=some (.string x.dc.t):=LW.out.cellL (HXD.out 2 _ rfl)
    have d3:w2.cell? ⟨w.heap.size+2,10,none⟩=some (.slice x.dc.LA x.dc.ln x.dc.lc):=LW.out.cellL (HXD.out 3 _ rfl)
    have d4:w2.cell? ⟨w.heap.size+2,11,none⟩=some (.slice x.dc.DA x.dc.dn x.dc.dc):=LW.out.cellL (HXD.out 4 _ rfl)
    obtain⟨m0,m1,m2,m3,m4,m5,m6,m7⟩:=blk_mv L0.out
    simp only at m6 m7
    have HRX:Hid (RV (fun b=>b<w.heap.size) w x.dc x.doc):=((HRD.out).lt).mono fun _ h=>h.2
    have HPUT:=qD (rput51_any ⟨sp,lo,hi,fr,tt,2,[],[]⟩ ⟨CA,cn,cc,HA,qs.length,hc2⟩ x.doc x.dc w2 HSP.out (HRX.out.step LV.out.bel) (HSTO.out HKD.out))
    go_wp2_with fail
    refine HPUT.out.mono ?_
    rintro e w3 ⟨wc,rfl,hr,hb⟩
    have P1:=qD (hr.back LV.out.bel)
    have N0:=qD (L0.out.step hb)
    have NW:=qD (LW.out.step hb)
    have NZ:=qD (LZ.out.step hb)
    have NV:=qD (LV.out.step hb)
    have HS3:Hid (wa.heap.size≤w3.heap.size):=Nat.le_trans HS2.out hb.size
    clear hb hr m0 m1 m2 m3 m4 m5 m6 m7 d0 d1 d2 d3 d4 L0 LW LZ LV HPUT HRX
    have O2:=qD (NV.out.step ((Below.refl w3.heap.size w3).alloc (qL) (Obj.cells (recC78 wc).toArray 67)))
    have N2:Hid (Blk (w3.alloc (.cells (recC78 wc).toArray 67)) w3.heap.size 67 (recC78 wc).toArray):=Blk.new_at rfl
    have R0:=qD (N0.out.alloc (.cells (recC78 wc).toArray 67))
    have RW:=qD (NW.out.alloc (.cells (recC78 wc).toArray 67))
    have RZ:=qD (NZ.out.alloc (.cells (recC78 wc).toArray 67))
    have HS5:Hid (wa.heap.size≤(w3.alloc (.cells (recC78 wc).toArray 67)).heap.size):=by have:=HS3.out;unfold Hid;simp;omega
    have hlq:=HLQ.out
    clear N0 NW NZ
    go_upto_region 7 with(first
     | (refine wpList_buildSlice rfl 33 67 1 _ rfl (recC78 wc).toArray j0 _ Tryz.underlying33 hj0 hw0 (by rw[hw1];decide) (by rw[hw1];decide) (by rw[hw1];exact build_write rfl) ?_)
     | (at_builtin;refine wpList_append_any _ rfl _ _ 33 rfl wa.heap.size 67 j0 _ 78 1168 Tryz.underlying33 hj0 hw0 hw1 hw2 rfl (by decide) v1 qs.length (flat recW qs) rfl O2.out.own _ _ 1 _ (recC78 wc) rfl (reads_one N2.out N2.out.lt) (recC78_one wc) (by unfold maxLen;omega) (by omega) HS5.out ?_))
    intro v5 w5 hown hgr hat
    have V5:=qD (O2.out.addL (qs:=[(wc,putW sp x.doc)]) (fun q hq=>by rw[List.mem_singleton.1 hq];exact P1.out) rfl (by rw[flat_single];exact hown) hgr)
    have ho1:∀b,b<wa.heap.size→some b≠v1.ownBlock:=fun b hb e=>by have:=own_ge O2.out.own b e.symm;omega
    have hW2:=HW3.out
    have S0:=qD (R0.out.grown hgr (ho1 _ (by omega)))
    have SW:=qD (RW.out.grown hgr (ho1 _ (by omega)))
    have SZ:=qD (RZ.out.grown hgr (ho1 _ (by omega)))
    clear hown hgr hat R0 RW RZ O2 N2 ho1 hlq hW2
    have s2:w5.cell? ⟨w.heap.size+2,0,none⟩=some (.int .i64 2):=by rw[←HKD.out];exact SW.out.cellL HX0.out
    go_upto_region 9 with fail
    clear s2
    obtain⟨P9,hP9⟩:∃P9,qs++[(wc,putW sp x.doc)]=P9:=⟨_,rfl⟩
    rw[hP9] at V5
    have HP9:=qD hP9
    clear hP9
    obtain⟨Ae,ce,hve,hce⟩:=own_slice V5.out.own
    subst hve
    have q7:w5.cell? ⟨w.heap.size,7,none⟩=some (.slice HA qs.length hc2):=S0.out.cell 7
    have z7:=S0.out.frozen 7
    go_upto_region 10 with fail
    change Code.wp _ _ _ _ (w5.setCell ⟨w.heap.size,7,none⟩ (.slice Ae (P9).length ce))
    have G0:Hid (Blk (w5.setCell ⟨w.heap.size,7,none⟩ (.slice Ae (P9).length ce)) w.heap.size 35 (marr ⟨CA,cn,cc,Ae,(P9).length,ce⟩ ⟨sp,lo,hi,fr,tt,2,[],[]⟩)):=S0.out.set_ 7 _
    have GZ:=qD (SZ.out.far (p:=⟨w.heap.size,7,none⟩) (by show w.heap.size+3≠w.heap.size;omega) (.slice Ae (P9).length ce))
    have GE:=qD (V5.out.bel.setCell (p:=⟨w.heap.size,7,none⟩) (qL) (.slice Ae (P9).length ce))
    have GV:=qD (V5.out.keep (w':=w5.setCell ⟨w.heap.size,7,none⟩ (.slice Ae (P9).length ce)) (fun b hb _=>Below.heap_setCell _ _ _ b (by show b≠w.heap.size;have:=HW3.out;omega)) GE.out)
    clear q7 z7 S0 SZ V5
    generalize w5.setCell ⟨w.heap.size,7,none⟩ (.slice Ae (P9).length ce)=w9 at*
    go_wp2_with (first|(refine wpList_load_row rfl 35 _ rfl (w.heap.size) rfl _ _ _ _ G0.out Tryz.underlying35 rfl (by rw[sizeM];rfl) ?_)|(refine wpList_store_row rfl 35 _ _ rfl (w.heap.size+3) (marr ⟨CA,cn,cc,Ae,(P9).length,ce⟩ ⟨sp,lo,hi,fr,tt,2,[],[]⟩) rfl rfl 35 _ GZ.out (by rw[sizeM];rfl) rfl (marr_all _ _) ?_))
    have VZ:=GV.out.keep (w':=w9.setRow (w.heap.size+3) (marr ⟨CA,cn,cc,Ae,(P9).length,ce⟩ ⟨sp,lo,hi,fr,tt,2,[],[]⟩)) (fun b hb _=>setRow_other _ _ _ _ (by have:=HW3.out;omega)) (below_row GE.out (by omega) _)
    obtain⟨A9,c9,he9,hws⟩:=VZ.sl (by have:=HLQ.out;have:=congrArg List.length HP9.out;simp at this;omega)
    injection he9 with e1 e2 e3
    subst e1 e3
    obtain⟨us,hus,U⟩:=HM.out.cp
    refine bodyPost_ret (results_mv rfl _ (w.heap.size+3) rfl (.int .i64 0) rfl _ ⟨CA,cn,cc,Ae,(P9).length,ce⟩ ⟨sp,lo,hi,fr,tt,2,[],[]⟩ (Blk.row GZ.out _)) rfl ?_
    have hnx:noteX R sp lo hi x=[putW sp x.doc]:=noteX_put HSE.out HKD.out HIB.out
    unfold MvR noteM
    rw[if_pos rfl]
    exact⟨⟨CA,cn,cc,Ae,(P9).length,ce⟩,rfl,⟨HSP.out,⟨us,hus,U.step VZ.bel⟩,⟨P9,by rw[hnx,←HQS.out,←HP9.out];simp,hws⟩⟩,VZ.bel⟩
  ·have e1:(x.sp.toList==sp.toList)=false:=by
    cases he:(x.sp.toList==sp.toList)
    ·rfl
    ·exact absurd (bytes_eq.1 (by simpa using he)) hsp
   have m0:w1.cell? ⟨w.heap.size,0,none⟩=some (.string sp):=K0.out.cell 0
   have HSE:=qD hsp
   clear hsp
   go_upto_region 9 with fail
   clear m0 s1 s2 e1
   obtain⟨Ae,ce,hve,hce⟩:=own_slice V1.out.own
   subst hve
   have q7:w1.cell? ⟨w.heap.size,7,none⟩=some (.slice HA qs.length hc2):=K0.out.cell 7
   have z7:=K0.out.frozen 7
   go_upto_region 10 with fail
   change Code.wp _ _ _ _ (w1.setCell ⟨w.heap.size,7,none⟩ (.slice Ae (qs).length ce))
   have G0:Hid (Blk (w1.setCell ⟨w.heap.size,7,none⟩ (.slice Ae (qs).length ce)) w.heap.size 35 (marr ⟨CA,cn,cc,Ae,(qs).length,ce⟩ ⟨sp,lo,hi,fr,tt,2,[],[]⟩)):=K0.out.set_ 7 _
   have GZ:=qD (KZ.out.far (p:=⟨w.heap.size,7,none⟩) (by show w.heap.size+3≠w.heap.size;omega) (.slice Ae (qs).length ce))
   have GE:=qD (V1.out.bel.setCell (p:=⟨w.heap.size,7,none⟩) (qL) (.slice Ae (qs).length ce))
   have GV:=qD (V1.out.keep (w':=w1.setCell ⟨w.heap.size,7,none⟩ (.slice Ae (qs).length ce)) (fun b hb _=>Below.heap_setCell _ _ _ b (by show b≠w.heap.size;have:=HW3.out;omega)) GE.out)
   clear q7 z7 K0 KZ V1
   generalize w1.setCell ⟨w.heap.size,7,none⟩ (.slice Ae (qs).length ce)=w9 at*
   go_wp2_with (first|(refine wpList_load_row rfl 35 _ rfl (w.heap.size) rfl _ _ _ _ G0.out Tryz.underlying35 rfl (by rw[sizeM];rfl) ?_)|(refine wpList_store_row rfl 35 _ _ rfl (w.heap.size+3) (marr ⟨CA,cn,cc,Ae,(qs).length,ce⟩ ⟨sp,lo,hi,fr,tt,2,[],[]⟩) rfl rfl 35 _ GZ.out (by rw[sizeM];rfl) rfl (marr_all _ _) ?_))
   have VZ:=GV.out.keep (w':=w9.setRow (w.heap.size+3) (marr ⟨CA,cn,cc,Ae,(qs).length,ce⟩ ⟨sp,lo,hi,fr,tt,2,[],[]⟩)) (fun b hb _=>setRow_other _ _ _ _ (by have:=HW3.out;omega)) (below_row GE.out (by omega) _)
   obtain⟨A9,c9,he9,hws⟩:=VZ.sl (by have:=HLQ.out;omega)
   injection he9 with e1 e2 e3
   subst e1 e3
   obtain⟨us,hus,U⟩:=HM.out.cp
   refine bodyPost_ret (results_mv rfl _ (w.heap.size+3) rfl (.int .i64 0) rfl _ ⟨CA,cn,cc,Ae,(qs).length,ce⟩ ⟨sp,lo,hi,fr,tt,2,[],[]⟩ (Blk.row GZ.out _)) rfl ?_
   have hnx:noteX R sp lo hi x=[]:=noteX_none (.inl HSE.out)
   unfold MvR noteM
   rw[if_pos rfl]
   exact⟨⟨CA,cn,cc,Ae,(qs).length,ce⟩,rfl,⟨HSP.out,⟨us,hus,U.step VZ.bel⟩,⟨qs,by rw[hnx,←HQS.out];simp,hws⟩⟩,VZ.bel⟩
 by_cases hk3:x.kd=3
 ·rw[hk3] at s2
  have HKD:=qD hk3
  clear hk2 hk3
  by_cases hsp:x.sp=sp
  ·have HSE:=qD hsp
   rw[hsp] at s1
   clear hsp
   have d0:w1.cell? ⟨w.heap.size+2,2,none⟩=some (.int .i64 x.kc.k):=KW.out.cellL (HXK.out 0 _ rfl)
   have d1:w1.cell? ⟨w.heap.size+2,3,none⟩=some (.int .i64 x.kc.n):=KW.out.cellL (HXK.out 1 _ rfl)
   have d2:w1.cell? ⟨w.heap.size+2,4,none⟩=some (.string x.kc.t):=KW.out.cellL (HXK.out 2 _ rfl)
   have d3:w1.cell? ⟨w.heap.size+2,5,none⟩=some (.slice x.kc.LA x.kc.ln x.kc.lc):=KW.out.cellL (HXK.out 3 _ rfl)
   have d4:w1.cell? ⟨w.heap.size+2,6,none⟩=some (.slice x.kc.DA x.kc.dn x.kc.dc):=KW.out.cellL (HXK.out 4 _ rfl)
   have m0:w1.cell? ⟨w.heap.size,0,none⟩=some (.string sp):=K0.out.cell 0
   have P1:Hid (RW1 (fun b=>b<w.heap.size) w ⟨3,sp,x.kc,VC.zero,true⟩ (remW sp x.key)):=⟨rfl,rfl,rfl,HSP.out,((HRK.out).lt).mono (fun _ h=>h.2),rv_zero⟩
   go_upto_region 8 with fail
   obtain⟨wc,hwc⟩:∃wc:WC,(⟨3,sp,x.kc,VC.zero,true⟩:WC)=wc:=⟨_,rfl⟩
   rw[hwc] at P1
   have HWC:=qD hwc
   clear hwc
   have O2:=qD (V1.out.step ((Below.refl w1.heap.size w1).alloc (qL) (Obj.cells (recC78 wc).toArray 67)))
   have N2:Hid (Blk (w1.alloc (.cells (recC78 wc).toArray 67)) w1.heap.size 67 (recC78 wc).toArray):=Blk.new_at rfl
   have R0:=qD (K0.out.alloc (.cells (recC78 wc).toArray 67))
   have RW:=qD (KW.out.alloc (.cells (recC78 wc).toArray 67))
   have RZ:=qD (KZ.out.alloc (.cells (recC78 wc).toArray 67))
   have HS5:Hid (wa.heap.size≤(w1.alloc (.cells (recC78 wc).toArray 67)).heap.size):=by have:=HS1.out;unfold Hid;simp;omega
   have hlq:=HLQ.out
   clear K0 KW KZ
   go_upto_region 9 with(first
    | (refine wpList_buildSlice rfl 33 67 1 _ rfl (recC78 wc).toArray j0 _ Tryz.underlying33 hj0 hw0 (by rw[hw1];decide) (by rw[hw1];decide) (by rw[hw1];exact build_write rfl) ?_)
    | (at_builtin;refine wpList_append_any _ rfl _ _ 33 rfl wa.heap.size 67 j0 _ 78 1168 Tryz.underlying33 hj0 hw0 hw1 hw2 rfl (by decide) v1 qs.length (flat recW qs) rfl O2.out.own _ _ 1 _ (recC78 wc) rfl (reads_one N2.out N2.out.lt) (recC78_one wc) (by unfold maxLen;omega) (by omega) HS5.out ?_)
    | (refine wpList_builtC rfl 67 _ rfl (recC78 wc).toArray (by rw[←HWC.out];kernel_rfl) ?_))
   intro v5 w5 hown hgr hat
   have V5:=qD (O2.out.addL (qs:=[(wc,remW sp x.key)]) (fun q hq=>by rw[List.mem_singleton.1 hq];exact P1.out) rfl (by rw[flat_single];exact hown) hgr)
   have ho1:∀b,b<wa.heap.size→some b≠v1.ownBlock:=fun b hb e=>by have:=own_ge O2.out.own b e.symm;omega
   have hW2:=HW3.out
   have S0:=qD (R0.out.grown hgr (ho1 _ (by omega)))
   have SW:=qD (RW.out.grown hgr (ho1 _ (by omega)))
   have SZ:=qD (RZ.out.grown hgr (ho1 _ (by omega)))
   clear hown hgr hat R0 RW RZ O2 N2 ho1 hlq hW2
   clear s1 s2 d0 d1 d2 d3 d4 m0
   obtain⟨P9,hP9⟩:∃P9,qs++[(wc,remW sp x.key)]=P9:=⟨_,rfl⟩
   rw[hP9] at V5
   have HP9:=qD hP9
   clear hP9
   obtain⟨Ae,ce,hve,hce⟩:=own_slice V5.out.own
   subst hve
   have q7:w5.cell? ⟨w.heap.size,7,none⟩=some (.slice HA qs.length hc2):=S0.out.cell 7
   have z7:=S0.out.frozen 7
   go_upto_region 10 with fail
   change Code.wp _ _ _ _ (w5.setCell ⟨w.heap.size,7,none⟩ (.slice Ae (P9).length ce))
   have G0:Hid (Blk (w5.setCell ⟨w.heap.size,7,none⟩ (.slice Ae (P9).length ce)) w.heap.size 35 (marr ⟨CA,cn,cc,Ae,(P9).length,ce⟩ ⟨sp,lo,hi,fr,tt,2,[],[]⟩)):=S0.out.set_ 7 _
   have GZ:=qD (SZ.out.far (p:=⟨w.heap.size,7,none⟩) (by show w.heap.size+3≠w.heap.size;omega) (.slice Ae (P9).length ce))
   have GE:=qD (V5.out.bel.setCell (p:=⟨w.heap.size,7,none⟩) (qL) (.slice Ae (P9).length ce))
   have GV:=qD (V5.out.keep (w':=w5.setCell ⟨w.heap.size,7,none⟩ (.slice Ae (P9).length ce)) (fun b hb _=>Below.heap_setCell _ _ _ b (by show b≠w.heap.size;have:=HW3.out;omega)) GE.out)
   clear q7 z7 S0 SZ V5
   generalize w5.setCell ⟨w.heap.size,7,none⟩ (.slice Ae (P9).length ce)=w9 at*
   go_wp2_with (first|(refine wpList_load_row rfl 35 _ rfl (w.heap.size) rfl _ _ _ _ G0.out Tryz.underlying35 rfl (by rw[sizeM];rfl) ?_)|(refine wpList_store_row rfl 35 _ _ rfl (w.heap.size+3) (marr ⟨CA,cn,cc,Ae,(P9).length,ce⟩ ⟨sp,lo,hi,fr,tt,2,[],[]⟩) rfl rfl 35 _ GZ.out (by rw[sizeM];rfl) rfl (marr_all _ _) ?_))
   have VZ:=GV.out.keep (w':=w9.setRow (w.heap.size+3) (marr ⟨CA,cn,cc,Ae,(P9).length,ce⟩ ⟨sp,lo,hi,fr,tt,2,[],[]⟩)) (fun b hb _=>setRow_other _ _ _ _ (by have:=HW3.out;omega)) (below_row GE.out (by omega) _)
   obtain⟨A9,c9,he9,hws⟩:=VZ.sl (by have:=HLQ.out;have:=congrArg List.length HP9.out;simp at this;omega)
   injection he9 with e1 e2 e3
   subst e1 e3
   obtain⟨us,hus,U⟩:=HM.out.cp
   refine bodyPost_ret (results_mv rfl _ (w.heap.size+3) rfl (.int .i64 0) rfl _ ⟨CA,cn,cc,Ae,(P9).length,ce⟩ ⟨sp,lo,hi,fr,tt,2,[],[]⟩ (Blk.row GZ.out _)) rfl ?_
   have hnx:noteX R sp lo hi x=[remW sp x.key]:=noteX_rem HSE.out HKD.out
   unfold MvR noteM
   rw[if_pos rfl]
   exact⟨⟨CA,cn,cc,Ae,(P9).length,ce⟩,rfl,⟨HSP.out,⟨us,hus,U.step VZ.bel⟩,⟨P9,by rw[hnx,←HQS.out,←HP9.out];simp,hws⟩⟩,VZ.bel⟩
  ·have e1:(x.sp.toList==sp.toList)=false:=by
    cases he:(x.sp.toList==sp.toList)
    ·rfl
    ·exact absurd (bytes_eq.1 (by simpa using he)) hsp
   have m0:w1.cell? ⟨w.heap.size,0,none⟩=some (.string sp):=K0.out.cell 0
   have HSE:=qD hsp
   clear hsp
   go_upto_region 9 with fail
   clear m0 s1 s2 e1
   obtain⟨Ae,ce,hve,hce⟩:=own_slice V1.out.own
   subst hve
   have q7:w1.cell? ⟨w.heap.size,7,none⟩=some (.slice HA qs.length hc2):=K0.out.cell 7
   have z7:=K0.out.frozen 7
   go_upto_region 10 with fail
   change Code.wp _ _ _ _ (w1.setCell ⟨w.heap.size,7,none⟩ (.slice Ae (qs).length ce))
   have G0:Hid (Blk (w1.setCell ⟨w.heap.size,7,none⟩ (.slice Ae (qs).length ce)) w.heap.size 35 (marr ⟨CA,cn,cc,Ae,(qs).length,ce⟩ ⟨sp,lo,hi,fr,tt,2,[],[]⟩)):=K0.out.set_ 7 _
   have GZ:=qD (KZ.out.far (p:=⟨w.heap.size,7,none⟩) (by show w.heap.size+3≠w.heap.size;omega) (.slice Ae (qs).length ce))
   have GE:=qD (V1.out.bel.setCell (p:=⟨w.heap.size,7,none⟩) (qL) (.slice Ae (qs).length ce))
   have GV:=qD (V1.out.keep (w':=w1.setCell ⟨w.heap.size,7,none⟩ (.slice Ae (qs).length ce)) (fun b hb _=>Below.heap_setCell _ _ _ b (by show b≠w.heap.size;have:=HW3.out;omega)) GE.out)
   clear q7 z7 K0 KZ V1
   generalize w1.setCell ⟨w.heap.size,7,none⟩ (.slice Ae (qs).length ce)=w9 at*
   go_wp2_with (first|(refine wpList_load_row rfl 35 _ rfl (w.heap.size) rfl _ _ _ _ G0.out Tryz.underlying35 rfl (by rw[sizeM];rfl) ?_)|(refine wpList_store_row rfl 35 _ _ rfl (w.heap.size+3) (marr ⟨CA,cn,cc,Ae,(qs).length,ce⟩ ⟨sp,lo,hi,fr,tt,2,[],[]⟩) rfl rfl 35 _ GZ.out (by rw[sizeM];rfl) rfl (marr_all _ _) ?_))
   have VZ:=GV.out.keep (w':=w9.setRow (w.heap.size+3) (marr ⟨CA,cn,cc,Ae,(qs).length,ce⟩ ⟨sp,lo,hi,fr,tt,2,[],[]⟩)) (fun b hb _=>setRow_other _ _ _ _ (by have:=HW3.out;omega)) (below_row GE.out (by omega) _)
   obtain⟨A9,c9,he9,hws⟩:=VZ.sl (by have:=HLQ.out;omega)
   injection he9 with e1 e2 e3
   subst e1 e3
   obtain⟨us,hus,U⟩:=HM.out.cp
   refine bodyPost_ret (results_mv rfl _ (w.heap.size+3) rfl (.int .i64 0) rfl _ ⟨CA,cn,cc,Ae,(qs).length,ce⟩ ⟨sp,lo,hi,fr,tt,2,[],[]⟩ (Blk.row GZ.out _)) rfl ?_
   have hnx:noteX R sp lo hi x=[]:=noteX_none (.inl HSE.out)
   unfold MvR noteM
   rw[if_pos rfl]
   exact⟨⟨CA,cn,cc,Ae,(qs).length,ce⟩,rfl,⟨HSP.out,⟨us,hus,U.step VZ.bel⟩,⟨qs,by rw[hnx,←HQS.out];simp,hws⟩⟩,VZ.bel⟩
 have e2:(x.kd==2)=false:=by simpa using hk2
 have e3:(x.kd==3)=false:=by simpa using hk3
 have HNE:Hid (x.kd≠2∧x.kd≠3):=⟨hk2,hk3⟩
 clear hk2 hk3
 go_upto_region 9 with fail
 clear s1 s2 e2 e3
 obtain⟨Ae,ce,hve,hce⟩:=own_slice V1.out.own
 subst hve
 have q7:w1.cell? ⟨w.heap.size,7,none⟩=some (.slice HA qs.length hc2):=K0.out.cell 7
 have z7:=K0.out.frozen 7
 go_upto_region 10 with fail
 change Code.wp _ _ _ _ (w1.setCell ⟨w.heap.size,7,none⟩ (.slice Ae (qs).length ce))
 have G0:Hid (Blk (w1.setCell ⟨w.heap.size,7,none⟩ (.slice Ae (qs).length ce)) w.heap.size 35 (marr ⟨CA,cn,cc,Ae,(qs).length,ce⟩ ⟨sp,lo,hi,fr,tt,2,[],[]⟩)):=K0.out.set_ 7 _
 have GZ:=qD (KZ.out.far (p:=⟨w.heap.size,7,none⟩) (by show w.heap.size+3≠w.heap.size;omega) (.slice Ae (qs).length ce))
 have GE:=qD (V1.out.bel.setCell (p:=⟨w.heap.size,7,none⟩) (qL) (.slice Ae (qs).length ce))
 have GV:=qD (V1.out.keep (w':=w1.setCell ⟨w.heap.size,7,none⟩ (.slice Ae (qs).length ce)) (fun b hb _=>Below.heap_setCell _ _ _ b (by show b≠w.heap.size;have:=HW3.out;omega)) GE.out)
 clear q7 z7 K0 KZ V1
 generalize w1.setCell ⟨w.heap.size,7,none⟩ (.slice Ae (qs).length ce)=w9 at*
 go_wp2_with (first|(refine wpList_load_row rfl 35 _ rfl (w.heap.size) rfl _ _ _ _ G0.out Tryz.underlying35 rfl (by rw[sizeM];rfl) ?_)|(refine wpList_store_row rfl 35 _ _ rfl (w.heap.size+3) (marr ⟨CA,cn,cc,Ae,(qs).length,ce⟩ ⟨sp,lo,hi,fr,tt,2,[],[]⟩) rfl rfl 35 _ GZ.out (by rw[sizeM];rfl) rfl (marr_all _ _) ?_))
 have VZ:=GV.out.keep (w':=w9.setRow (w.heap.size+3) (marr ⟨CA,cn,cc,Ae,(qs).length,ce⟩ ⟨sp,lo,hi,fr,tt,2,[],[]⟩)) (fun b hb _=>setRow_other _ _ _ _ (by have:=HW3.out;omega)) (below_row GE.out (by omega) _)
 obtain⟨A9,c9,he9,hws⟩:=VZ.sl (by have:=HLQ.out;omega)
 injection he9 with e1 e2 e3
 subst e1 e3
 obtain⟨us,hus,U⟩:=HM.out.cp
 refine bodyPost_ret (results_mv rfl _ (w.heap.size+3) rfl (.int .i64 0) rfl _ ⟨CA,cn,cc,Ae,(qs).length,ce⟩ ⟨sp,lo,hi,fr,tt,2,[],[]⟩ (Blk.row GZ.out _)) rfl ?_
 have hnx:noteX R sp lo hi x=[]:=noteX_none (.inr HNE.out)
 unfold MvR noteM
 rw[if_pos rfl]
 exact⟨⟨CA,cn,cc,Ae,(qs).length,ce⟩,rfl,⟨HSP.out,⟨us,hus,U.step VZ.bel⟩,⟨qs,by rw[hnx,←HQS.out];simp,hws⟩⟩,VZ.bel⟩
theorem rnote(M:Mv)(ma:MA)(R:Ro)(a:RA)(cs:List Value)(x:Wx)(w:World)(h:RR w a R)(h8:R.ks.length≤8)(hk:R.ha=true→R.ks.length=1)(hm:MR w ma M)(hx:IsW w cs x)(hlo:M.lo.size≤reach)(hsto:x.kd=2→StoD x.doc)(hh:M.ch.length≤900):
 Calls Tryz.prog 21 #[mval ma M,rval a R,.agg cs.toArray] w (MvR (noteM M R x) w):=by
 by_cases hs:M.st=2
 ·exact rnote_any M ma R a cs x w h h8 hk hm hx hlo hsto hs hh
 ·refine(rnote_ref M ma R a cs w hs).mono ?_
  rintro e w' ⟨rfl,hb⟩
  unfold MvR noteM
  rw[if_neg hs]
  exact⟨MA.zero,rfl,MR.zero,hb⟩
noncomputable def keyL(R:Ro)(lo hi:ByteArray)(l:List Val):List Val:=(l.filter (insD R lo hi)).map idV
theorem keyL_snoc(R:Ro)(lo hi:ByteArray)(l:List Val)(x:Val):keyL R lo hi (l++[x])=keyL R lo hi l++(if insD R lo hi x=true then [idV x] else []):=by
 unfold keyL
 rw[List.filter_append,List.map_append]
 congr 1
 cases h:insD R lo hi x<;>simp[h]
theorem keyL_len(R:Ro)(lo hi:ByteArray)(l:List Val):(keyL R lo hi l).length≤l.length:=by
 unfold keyL
 rw[List.length_map]
 exact List.length_filter_le _ _
theorem remL_key(R:Ro)(sp lo hi:ByteArray)(l:List Val):remL R sp lo hi l=(keyL R lo hi l).map (remW sp):=by
 unfold remL keyL
 rw[List.map_map]
 rfl
theorem StW.of_keys{sp:ByteArray}{l m:List Val}(h:StV l m):StW (l.map (remW sp)) (m.map (remW sp)):=by
 obtain⟨S,hS,rfl⟩:=h
 refine⟨S.map fun p=>(remW sp p.1,p.2),⟨?_,?_⟩,?_⟩
 ·rw[tagFrom_mapW]
  exact hS.perm.map _
 ·rw[List.pairwise_map]
  exact hS.ord
 ·rw[List.map_map,List.map_map]
  rfl
theorem StW.unique{l m m':List Wt}(h:StW l m)(h':StW l m'):m=m':=by
 obtain⟨S,h1,rfl⟩:=h
 obtain⟨S',h1',rfl⟩:=h'
 rw[sorted_unique (⟨fun _ _=>cmpV_anti _ _,fun _ _ _=>cmpV_tr _ _ _⟩:Ordered (fun p q:Wt=>cmpV p.key q.key)) h1.ord h1'.ord (h1.perm.trans h1'.perm.symm)]
theorem rorph_any(M:Mv)(ma:MA)(R:Ro)(a:RA)(ps:List PV)(DA:Option Addr)(dn dc:Nat)(w:World)(h:RR w a R)(h8:R.ks.length≤8)(hk:R.ha=true→R.ks.length=1)(hd:SL (fun _=>True) w DA dn dc ps)(hsto:∀p∈ps,StoD p.2)(hz:dn≤900)(hsp:M.sp.size≤reach)(hlo:M.lo.size≤reach)(hst:M.st=4∨M.st=5):
 Calls Tryz.prog 29 #[mval ma M,rval a R,.slice DA dn dc] w (OrR (remL R M.sp M.lo M.hi (ps.map Prod.snd)) w):=by
 obtain⟨i0,hi0,hy0,hy1,hy2⟩:=info_parts info_value
 obtain⟨j0,hj0,hw0,hw1,hw2⟩:=info_parts info_write
 have HR:=qD h
 have H8:=qD h8
 have HK:=qD hk
 have H:=qD hd
 have HLO:=qD hlo
 have HSTO:=qD hsto
 have HSP:=qD hsp
 have HLN:Hid (dn=ps.length):=hd.sr.ln
 clear h h8 hk hd hlo hsto hsp
 obtain⟨wa,hwa⟩:∃wa,(w.alloc (.cells (marr ma M) 35)).alloc (.cells (rarr a R) 27)=wa:=⟨_,rfl⟩
 have B0:Hid (Blk wa w.heap.size 35 (marr ma M)):=by rw[←hwa];exact(Blk.new_at rfl).alloc _
 have B1:Hid (Blk wa (w.heap.size+1) 27 (rarr a R)):=by rw[←hwa];exact Blk.new_at (by simp)
 have BE:Hid (Below w.heap.size w wa):=by rw[←hwa];exact((Below.refl _ _).alloc (qL) _).alloc (by simp) _
 have HWA:=qD hwa
 clear hwa
 go_enter Tryz.func29,Tryz.ntmps29
 go_upto_region 1 with fail
 change Code.wp _ _ _ _ ((w.alloc (.cells (marr ma M) 35)).alloc (.cells (rarr a R) 27))
 rw[HWA.out]
 clear HWA
 obtain⟨st,hste⟩:∃st,M.st=st:=⟨_,rfl⟩
 have q5:wa.cell? ⟨w.heap.size,5,none⟩=some (.int .i64 st):=by rw[←hste];exact B0.out.cell 5
 rw[hste] at hst
 have HS0:Hid (st=4∨st=5):=hst
 clear hste hst
 by_cases hs4:st=4
 ·subst hs4
  go_wp2_with fail
  clear q5
  go_loopw [7,8] (fun u7 u8 wr=>∃(i:Nat) (qs:List PV),i≤dn∧u8=.int .i64 i∧qs.map Prod.snd=keyL R M.lo M.hi ((ps.map Prod.snd).take i)∧VsI wa u7 qs wr) (fun _ u8 _=>dn-(intOf u8).toNat)
  case atStart=>exact⟨0,[],Nat.zero_le _,rfl,rfl,VsI.start wa⟩
  case round=>
   obtain⟨i,qs,hile,rfl,hqs,hvs⟩:=hrel
   have HQS:=qD hqs
   have VS:=qD hvs
   have HQL:Hid (qs.length≤i):=by
    have h1:=congrArg List.length hqs
    have h2:=keyL_len R M.lo M.hi ((ps.map Prod.snd).take i)
    rw[List.length_map] at h1
    rw[List.length_take] at h2
    unfold Hid
    omega
   have HBR:=qD (BE.out.step' VS.out.bel)
   clear hqs hvs
   by_cases hlt:i<dn
   ·obtain⟨p,hp⟩:∃p,ps[i]?=some p:=⟨_,List.getElem?_eq_getElem (by have:=HLN.out;omega)⟩
    obtain⟨b,off,rfl,_,hu0,hr0⟩:=H.out.vat hp
    have hbl:b<w.heap.size:=hu0.lt
    have HRX:Hid (RV (fun b=>b<w.heap.size) w p.1 p.2):=(hr0.lt).mono fun _ h=>h.2
    have HST:=qD (HSTO.out p (List.mem_of_getElem? hp))
    obtain⟨ib,hib⟩:∃ib,insD R M.lo M.hi p.2=ib:=⟨_,rfl⟩
    have HCI:Hid (keyL R M.lo M.hi ((ps.map Prod.snd).take (i+1))=qs.map Prod.snd++(if ib=true then [idV p.2] else [])):=by
     rw[Hid,take_snoc' (show(ps.map Prod.snd)[i]?=some p.2 by rw[List.getElem?_map,hp];rfl),keyL_snoc,←HQS.out,hib]
    have HIN:Hid (∀w2,Below wr.heap.size wr w2→Calls Tryz.prog 38 #[.agg (marr ma M),.agg (rarr a R),p.1.val] w2 fun e w'=>e=.returned (.bool ib)∧Below w2.heap.size w2 w'):=qD fun w2 hb=>by
     rw[←hib]
     have hbw:=HBR.out.step' hb
     exact rin_any M ma R a p.2 p.1 w2 (HR.out.step hbw) ((HRX.out.step hbw).mono fun _ _=>trivial) H8.out HK.out HLO.out
    obtain⟨a0,a1,a2,a3,a4⟩:=hu0.keep (HBR.out.block b hbl)
    have hbw:b<wr.heap.size:=Nat.lt_of_lt_of_le hbl HBR.out.size
    have K7:Hid (∀w2,Below wr.heap.size wr w2→(fun w'=>(Blk w' w.heap.size 35 (marr ma M)∧Blk w' (w.heap.size+1) 27 (rarr a R))∧w'.cell? ⟨b,off+i*5,none⟩=some (.int .i64 p.1.k)∧w'.cell? ⟨b,off+i*5+1,none⟩=some (.int .i64 p.1.n)∧w'.cell? ⟨b,off+i*5+2,none⟩=some (.string p.1.t)∧w'.cell? ⟨b,off+i*5+3,none⟩=some (.slice p.1.LA p.1.ln p.1.lc)∧w'.cell? ⟨b,off+i*5+4,none⟩=some (.slice p.1.DA p.1.dn p.1.dc)) w2):=qD fun w2 hb=>⟨⟨(B0.out.step VS.out.bel).step hb,(B1.out.step VS.out.bel).step hb⟩,(hb.cell (p:=⟨b,off+i*5,none⟩) hbw).trans a0,(hb.cell (p:=⟨b,off+i*5+1,none⟩) hbw).trans a1,(hb.cell (p:=⟨b,off+i*5+2,none⟩) hbw).trans a2,(hb.cell (p:=⟨b,off+i*5+3,none⟩) hbw).trans a3,(hb.cell (p:=⟨b,off+i*5+4,none⟩) hbw).trans a4⟩
    have i0':(0:Int)≤(i:Int):=by omega
    have i1':(i:Int)<(dn:Int):=by omega
    clear hu0 hr0 hp hib a0 a1 a2 a3 a4 hbw
    go_upto_region 7 with fail
    have B:Hid (Below wr.heap.size wr wr.drew):=qD ((Below.refl wr.heap.size wr).drew)
    refine wp_region_noPanic ?_
    refine wp_region_held_drew (S:=(fun w'=>(Blk w' w.heap.size 35 (marr ma M)∧Blk w' (w.heap.size+1) 27 (rarr a R))∧w'.cell? ⟨b,off+i*5,none⟩=some (.int .i64 p.1.k)∧w'.cell? ⟨b,off+i*5+1,none⟩=some (.int .i64 p.1.n)∧w'.cell? ⟨b,off+i*5+2,none⟩=some (.string p.1.t)∧w'.cell? ⟨b,off+i*5+3,none⟩=some (.slice p.1.LA p.1.ln p.1.lc)∧w'.cell? ⟨b,off+i*5+4,none⟩=some (.slice p.1.DA p.1.dn p.1.dc))) (by kernel_rfl) ?_ (fun hHeld=>?_)
    ·(try dsimp only);exact K7.out _ B.out
    generalize wr.drew=v0 at*
    refine rT (v:=.agg (marr ma M)) 0 rfl ?_ ?_
    ·intro w' hSw;exact exec_row rfl rfl hSw.1.1 Tryz.underlying35 rfl (by rw[sizeM];rfl)
    try go_frame
    refine rT (v:=.agg (rarr a R)) 1 rfl ?_ ?_
    ·intro w' hSw;exact exec_row rfl rfl hSw.1.2 Tryz.underlying27 rfl (by rw[sizeR];rfl)
    try go_frame
    refine rU 2 rfl ?_
    try go_frame
    refine rU 3 rfl ?_
    try go_frame
    refine rU 4 rfl ?_
    try go_frame
    refine rU 5 rfl ?_
    try go_frame
    refine rY 6 rfl fun K hK=>?_
    go_simp
    refine(HIN.out v0 B.out).mono ?_
    rintro e3 y1 ⟨rfl,hb⟩
    replace B:=qD (B.out.step' hb)
    clear hb
    (try go_wp2_with fail)
    clear hHeld
    refine hK.out _ _ ?_ fun hHeld=>?_
    ·(try dsimp only);exact K7.out _ B.out
    clear hK K
    try go_frame
    refine rD ?_ _
    refine NoPanic.normal ?_
    have VG:=qD (VS.out.step B.out)
    have K8:=qD (K7.out _ B.out)
    clear B VS K7 HIN HBR HQS
    generalize y1=wb at*
    cases ib
    ·have HTT:Hid (qs.map Prod.snd=keyL R M.lo M.hi ((ps.map Prod.snd).take (i+1))):=(HCI.out.trans (List.append_nil _)).symm
     go_wp2_with fail
     go_roundw
     case rel=>exact⟨i+1,qs,by omega,by go_num,HTT.out,VG.out⟩
     case measure=>simp[intOf];omega
    ·have HTT:Hid (keyL R M.lo M.hi ((ps.map Prod.snd).take (i+1))=qs.map Prod.snd++[idV p.2]):=HCI.out
     obtain⟨_,a0,a1,a2,a3,a4⟩:=K8.out
     have hbw2:=BE.out.step' VG.out.bel
     have HKC:=qD (rkey51_any p.2 p.1 wb (HRX.out.step hbw2) HST.out)
     clear hbw2
     go_wp2_with fail
     refine HKC.out.mono ?_
     rintro e wc ⟨c1,rfl,hr,hb⟩
     have VS2:=qD (VG.out.step hb)
     have HRP:Hid (RV (fun b=>Value.ownBlock u7≠some b) wc c1 (idV p.2)):=(hr.step hb).mono fun b hb=>VS2.out.far (.inl (Nat.lt_of_lt_of_le hb BE.out.size))
     clear hr hb VG a0 a1 a2 a3 a4 K8 HKC
     have HLO6:Hid (wa.heap.size≤wc.heap.size):=VS2.out.bel.size
     have hql:=HQL.out
     have LK:=qD (VS2.out.step ((Below.refl wc.heap.size wc).alloc (qL) (Obj.cells (VC.arr c1) 45)))
     have HRZ:Hid (RV (fun b=>Value.ownBlock u7≠some b) (wc.alloc (.cells (VC.arr c1) 45)) c1 (idV p.2)):=RV.alloc (HRP.out) _
     clear VS2 HRP
     go_wp2_with (at_builtin;refine wpList_append_any _ rfl _ _ 42 rfl wa.heap.size 45 i0 VC.zero.val 5 80 Tryz.underlying42 hi0 hy0 hy1 hy2 rfl (by decide) u7 qs.length (flat recV qs) rfl LK.out.own _ _ 1 _ (recV (c1,(idV p.2))) rfl ⟨rfl,fun _=>⟨_,rfl,Nat.lt_succ_self _,news_at _ _ _⟩⟩ (recV_one _) (by unfold maxLen;omega) (by omega) (by have:=HLO6.out;rw[size_alloc];omega) ?_)
     intro v' w6 hown hgr hat
     have HI:=qD (LK.out.add (p:=(c1,(idV p.2))) HRZ.out rfl hown hgr (by rw[size_alloc];exact hat))
     clear hown hgr hat LK HRZ
     go_wp2_with fail
     go_roundw
     case rel=>exact⟨i+1,qs++[(c1,idV p.2)],by omega,by go_num,by rw[List.map_append];exact HTT.out.symm,HI.out⟩
     case measure=>simp[intOf];omega
   ·have hik:i=dn:=by omega
    subst hik
    have HALL:Hid (qs.map Prod.snd=keyL R M.lo M.hi (ps.map Prod.snd)):=by
     have:=HQS.out
     rwa [List.take_of_length_le (by rw[List.length_map,HLN.out];exact qL)] at this
    obtain⟨A1,c1,hu,hsl⟩:=VS.out.sl (by have:=HQL.out;omega)
    have HSL:=qD hsl
    have VB:=qD VS.out.bel
    subst hu
    clear hsl VS HQS
    generalize wr=wq at*
    go_wp2_with fail
    refine(refSort_any qs A1 qs.length c1 wq HSL.out).mono ?_
    rintro e wS ⟨A2,n2,c2,ks,rfl,hst,hsl,hb⟩
    have hkn:n2=ks.length:=hsl.sr.ln
    have hkl:ks.length=qs.length:=by
     have h1:=hst
     obtain⟨S,hS,hS2⟩:=h1
     have h2:=hS.perm.length_eq
     have h3:=congrArg List.length hS2
     have h4:(tagFrom 0 (qs.map Prod.snd)).length=(qs.map Prod.snd).length:=by
      have:=congrArg List.length (tagFrom_map (qs.map Prod.snd) 0)
      rwa [List.length_map] at this
     rw[List.length_map] at h3
     rw[List.length_map] at h4
     rw[List.length_map] at h3
     omega
    have HSO:Hid (StV (keyL R M.lo M.hi (ps.map Prod.snd)) (ks.map Prod.snd)):=by rw[Hid,←HALL.out];exact hst
    have HKN:=qD hkn
    have hn2:n2≤900:=by have:=HQL.out;omega
    have HKS:=qD hsl
    have BM:=qD ((B0.out.step VB.out).step hb)
    have BS:=qD (HBR.out.step' hb)
    clear hst hsl hb HSL HBR hkn hkl HALL VB
    go_wp2_with fail
    go_loopw [9,10] (fun u9 u10 wr=>∃(j:Nat) (os:List PW),j≤n2∧u10=.int .i64 j∧os.map Prod.snd=((ks.map Prod.snd).take j).map (remW M.sp)∧os.length≤j∧RgI wS.heap.size wS u9 os wr) (fun _ u10 _=>n2-(intOf u10).toNat)
    case atStart=>exact⟨0,[],Nat.zero_le _,rfl,rfl,qL,RgI.start (qL) (Below.refl _ _)⟩
    case round=>
     obtain⟨j,os,hjle,rfl,hos,hol,hvs⟩:=hrel
     have HOS:=qD hos
     have HOL:Hid (os.length≤900):=by unfold Hid;omega
     have VX:=qD hvs
     clear hos hvs
     by_cases hlt2:j<n2
     ·obtain⟨q,hq⟩:∃q,ks[j]?=some q:=⟨_,List.getElem?_eq_getElem (by have:=HKN.out;omega)⟩
      obtain⟨b,off,rfl,_,hu,hr⟩:=HKS.out.vat hq
      have hbl:b<wS.heap.size:=hu.lt
      have P1:Hid (RW1 (fun b=>b<wS.heap.size) wS (⟨3,M.sp,q.1,VC.zero,true⟩:WC) (remW M.sp q.2)):=⟨rfl,rfl,rfl,HSP.out,(hr.lt).mono (fun _ h=>h.2),rv_zero⟩
      have HTJ:Hid (((ks.map Prod.snd).take (j+1)).map (remW M.sp)=((ks.map Prod.snd).take j).map (remW M.sp)++[remW M.sp q.2]):=by
       rw[Hid,take_snoc' (show(ks.map Prod.snd)[j]?=some q.2 by rw[List.getElem?_map,hq];rfl),List.map_append]
       rfl
      obtain⟨a0,a1,a2,a3,a4⟩:=hu.keep (VX.out.bel.block b hbl)
      have m0:wr.cell? ⟨w.heap.size,0,none⟩=some (.string M.sp):=(BM.out.step VX.out.bel).cell 0
      have hbw:b<wr.heap.size:=Nat.lt_of_lt_of_le hbl VX.out.bel.size
      have hmw:w.heap.size<wr.heap.size:=Nat.lt_of_lt_of_le BM.out.lt VX.out.bel.size
      have hcl:∀(g k:Nat) (u:Value) (y:World),wr.cell? ⟨g,k,none⟩=some u→y.heap[g]?=wr.heap[g]?→y.cell? ⟨g,k,none⟩=some u:=fun g k u y h1 h2=>(World.cell?_of_block (a:=⟨g,k,none⟩) h2).trans h1
      have HS9:Hid (∀y:World,y.heap[b]?=wr.heap[b]?→y.heap[w.heap.size]?=wr.heap[w.heap.size]?→(fun w'=>w'.cell? ⟨w.heap.size,0,none⟩=some (.string M.sp)∧w'.cell? ⟨b,off+j*5,none⟩=some (.int .i64 q.1.k)∧w'.cell? ⟨b,off+j*5+1,none⟩=some (.int .i64 q.1.n)∧w'.cell? ⟨b,off+j*5+2,none⟩=some (.string q.1.t)∧w'.cell? ⟨b,off+j*5+3,none⟩=some (.slice q.1.LA q.1.ln q.1.lc)∧w'.cell? ⟨b,off+j*5+4,none⟩=some (.slice q.1.DA q.1.dn q.1.dc)) y):=qD fun y hy hz=>⟨hcl _ _ _ y m0 hz,hcl _ _ _ y a0 hy,hcl _ _ _ y a1 hy,hcl _ _ _ y a2 hy,hcl _ _ _ y a3 hy,hcl _ _ _ y a4 hy⟩
      have KSS:Hid (∀y:World,Below wr.heap.size wr y→(fun w'=>w'.cell? ⟨w.heap.size,0,none⟩=some (.string M.sp)∧w'.cell? ⟨b,off+j*5,none⟩=some (.int .i64 q.1.k)∧w'.cell? ⟨b,off+j*5+1,none⟩=some (.int .i64 q.1.n)∧w'.cell? ⟨b,off+j*5+2,none⟩=some (.string q.1.t)∧w'.cell? ⟨b,off+j*5+3,none⟩=some (.slice q.1.LA q.1.ln q.1.lc)∧w'.cell? ⟨b,off+j*5+4,none⟩=some (.slice q.1.DA q.1.dn q.1.dc)) y):=qD fun y hb=>HS9.out y (hb.block b hbw) (hb.block _ hmw)
      have hown0:∀g,g<wS.heap.size→some g≠(Value.ownBlock u9):=fun g hg e=>by have:=own_ge VX.out.own g e.symm;omega
      have KSA:Hid (∀y2 y3:World,Below wr.heap.size wr y2→y2.grownBy y3 (Value.ownBlock u9)→(fun w'=>w'.cell? ⟨w.heap.size,0,none⟩=some (.string M.sp)∧w'.cell? ⟨b,off+j*5,none⟩=some (.int .i64 q.1.k)∧w'.cell? ⟨b,off+j*5+1,none⟩=some (.int .i64 q.1.n)∧w'.cell? ⟨b,off+j*5+2,none⟩=some (.string q.1.t)∧w'.cell? ⟨b,off+j*5+3,none⟩=some (.slice q.1.LA q.1.ln q.1.lc)∧w'.cell? ⟨b,off+j*5+4,none⟩=some (.slice q.1.DA q.1.dn q.1.dc)) y3):=qD fun y2 y3 h2 hg=>HS9.out y3 ((hg.block b (Nat.lt_of_lt_of_le hbw h2.size) (hown0 b hbl)).trans (h2.block b hbw)) ((hg.block _ (Nat.lt_of_lt_of_le hmw h2.size) (hown0 _ BM.out.lt)).trans (h2.block _ hmw))
      have HBASE:Hid (wS.heap.size≤wr.heap.size):=VX.out.bel.size
      have i0':(0:Int)≤(j:Int):=by omega
      have i1':(j:Int)<(n2:Int):=by omega
      clear hq hu hr a0 a1 a2 a3 a4 m0 hbw hmw hcl HS9 hown0 hbl
      go_upto_region 14 with fail
      have B:Hid (Below wr.heap.size wr wr.drew):=qD ((Below.refl wr.heap.size wr).drew)
      refine wp_region_noPanic ?_
      refine wp_region_held_drew (S:=(fun w'=>w'.cell? ⟨w.heap.size,0,none⟩=some (.string M.sp)∧w'.cell? ⟨b,off+j*5,none⟩=some (.int .i64 q.1.k)∧w'.cell? ⟨b,off+j*5+1,none⟩=some (.int .i64 q.1.n)∧w'.cell? ⟨b,off+j*5+2,none⟩=some (.string q.1.t)∧w'.cell? ⟨b,off+j*5+3,none⟩=some (.slice q.1.LA q.1.ln q.1.lc)∧w'.cell? ⟨b,off+j*5+4,none⟩=some (.slice q.1.DA q.1.dn q.1.dc))) (by kernel_rfl) ?_ (fun hHeld=>?_)
      ·(try dsimp only);exact KSS.out _ B.out
      generalize wr.drew=v0 at*
      refine rU 0 rfl ?_
      try go_frame
      refine rU 1 rfl ?_
      try go_frame
      refine rU 2 rfl ?_
      try go_frame
      refine rU 3 rfl ?_
      try go_frame
      refine rU 4 rfl ?_
      try go_frame
      refine rU 5 rfl ?_
      try go_frame
      refine rU 6 rfl ?_
      try go_frame
      refine rT (v:=.agg (recC78 (⟨3,M.sp,q.1,VC.zero,true⟩:WC)).toArray) 7 rfl ?_ ?_
      ·intro w' hSw;exact exec_built rfl (by kernel_rfl)
      try go_frame
      refine rY 8 rfl fun K hK=>?_
      refine wp_buildSlice 33 67 1 _ rfl (recC78 (⟨3,M.sp,q.1,VC.zero,true⟩:WC)).toArray j0 _ Tryz.underlying33 hj0 hw0 (by rw[hw1];decide) (by rw[hw1];decide) (by rw[hw1];exact build_write rfl) ?_
      have N2:Hid (Blk (v0.alloc (.cells (recC78 (⟨3,M.sp,q.1,VC.zero,true⟩:WC)).toArray 67)) v0.heap.size 67 (recC78 (⟨3,M.sp,q.1,VC.zero,true⟩:WC)).toArray):=Blk.new_at rfl
      have B2:=qD (B.out.alloc B.out.size (Obj.cells (recC78 (⟨3,M.sp,q.1,VC.zero,true⟩:WC)).toArray 67))
      generalize v0.alloc (.cells (recC78 (⟨3,M.sp,q.1,VC.zero,true⟩:WC)).toArray 67)=y2 at*
      generalize v0.heap.size=gn at*
      clear hHeld
      refine hK.out _ _ ?_ fun hHeld=>?_
      ·(try dsimp only);exact KSS.out _ B2.out
      clear hK K
      try go_frame
      refine rY 9 rfl fun K hK=>?_
      have O2:=qD (VX.out.step B2.out)
      refine wp_append_any y2 (.tmp 48) (.tmp 56) 33 rfl wS.heap.size 67 j0 _ 78 1168 Tryz.underlying33 hj0 hw0 hw1 hw2 rfl (by decide) u9 os.length (flat recW os) rfl O2.out.own y2.heap.size (some ⟨gn,0,none⟩) 1 1 (recC78 (⟨3,M.sp,q.1,VC.zero,true⟩:WC)) rfl (reads_one N2.out N2.out.lt) (recC78_one _) (by unfold maxLen;have:=HOL.out;omega) (by have:=HOL.out;omega) (Nat.le_trans HBASE.out B2.out.size) ?_
      intro v5 y3 hown hgr hat
      have V3:=qD (O2.out.addL (qs:=[((⟨3,M.sp,q.1,VC.zero,true⟩:WC),remW M.sp q.2)]) (fun z hz=>by rw[List.mem_singleton.1 hz];exact P1.out) rfl (by rw[flat_single];exact hown) hgr)
      have KS3:=qD (KSA.out _ _ B2.out hgr)
      clear hown hgr hat
      clear hHeld
      refine hK.out _ _ ?_ fun hHeld=>?_
      ·(try dsimp only);exact KS3.out
      clear hK K
      try go_frame
      refine rU 10 rfl ?_
      try go_frame
      refine rD ?_ _
      refine NoPanic.normal ?_
      go_wp2_with fail
      go_roundw
      case rel=>exact⟨j+1,os++[((⟨3,M.sp,q.1,VC.zero,true⟩:WC),remW M.sp q.2)],by omega,by go_num,by rw[List.map_append,HTJ.out,HOS.out];rfl,by simp;omega,V3.out⟩
      case measure=>simp[intOf];omega
     ·have hjk:j=n2:=by omega
      subst hjk
      have HOUT:Hid (os.map Prod.snd=(ks.map Prod.snd).map (remW M.sp)):=by
       have:=HOS.out
       rwa [List.take_of_length_le (by rw[List.length_map,HKN.out];exact qL)] at this
      obtain⟨A9,c9,hu9,hws⟩:=VX.out.sl (by have:=HOL.out;omega)
      have HWS:=qD hws
      have HEN:=qD (BS.out.step' VX.out.bel)
      subst hu9
      clear hws VX HOS
      go_wp2_with fail
      go_ret
      exact⟨A9,os.length,c9,os,rfl,by rw[remL_key,HOUT.out];exact StW.of_keys HSO.out,HWS.out,HEN.out⟩
 ·have hs5:st=5:=(HS0.out).resolve_left hs4
  subst hs5
  clear hs4
  go_wp2_with fail
  clear q5
  go_loopw [7,8] (fun u7 u8 wr=>∃(i:Nat) (qs:List PV),i≤dn∧u8=.int .i64 i∧qs.map Prod.snd=keyL R M.lo M.hi ((ps.map Prod.snd).take i)∧VsI wa u7 qs wr) (fun _ u8 _=>dn-(intOf u8).toNat)
  case atStart=>exact⟨0,[],Nat.zero_le _,rfl,rfl,VsI.start wa⟩
  case round=>
   obtain⟨i,qs,hile,rfl,hqs,hvs⟩:=hrel
   have HQS:=qD hqs
   have VS:=qD hvs
   have HQL:Hid (qs.length≤i):=by
    have h1:=congrArg List.length hqs
    have h2:=keyL_len R M.lo M.hi ((ps.map Prod.snd).take i)
    rw[List.length_map] at h1
    rw[List.length_take] at h2
    unfold Hid
    omega
   have HBR:=qD (BE.out.step' VS.out.bel)
   clear hqs hvs
   by_cases hlt:i<dn
   ·obtain⟨p,hp⟩:∃p,ps[i]?=some p:=⟨_,List.getElem?_eq_getElem (by have:=HLN.out;omega)⟩
    obtain⟨b,off,rfl,_,hu0,hr0⟩:=H.out.vat hp
    have hbl:b<w.heap.size:=hu0.lt
    have HRX:Hid (RV (fun b=>b<w.heap.size) w p.1 p.2):=(hr0.lt).mono fun _ h=>h.2
    have HST:=qD (HSTO.out p (List.mem_of_getElem? hp))
    obtain⟨ib,hib⟩:∃ib,insD R M.lo M.hi p.2=ib:=⟨_,rfl⟩
    have HCI:Hid (keyL R M.lo M.hi ((ps.map Prod.snd).take (i+1))=qs.map Prod.snd++(if ib=true then [idV p.2] else [])):=by
     rw[Hid,take_snoc' (show(ps.map Prod.snd)[i]?=some p.2 by rw[List.getElem?_map,hp];rfl),keyL_snoc,←HQS.out,hib]
    have HIN:Hid (∀w2,Below wr.heap.size wr w2→Calls Tryz.prog 38 #[.agg (marr ma M),.agg (rarr a R),p.1.val] w2 fun e w'=>e=.returned (.bool ib)∧Below w2.heap.size w2 w'):=qD fun w2 hb=>by
     rw[←hib]
     have hbw:=HBR.out.step' hb
     exact rin_any M ma R a p.2 p.1 w2 (HR.out.step hbw) ((HRX.out.step hbw).mono fun _ _=>trivial) H8.out HK.out HLO.out
    obtain⟨a0,a1,a2,a3,a4⟩:=hu0.keep (HBR.out.block b hbl)
    have hbw:b<wr.heap.size:=Nat.lt_of_lt_of_le hbl HBR.out.size
    have K7:Hid (∀w2,Below wr.heap.size wr w2→(fun w'=>(Blk w' w.heap.size 35 (marr ma M)∧Blk w' (w.heap.size+1) 27 (rarr a R))∧w'.cell? ⟨b,off+i*5,none⟩=some (.int .i64 p.1.k)∧w'.cell? ⟨b,off+i*5+1,none⟩=some (.int .i64 p.1.n)∧w'.cell? ⟨b,off+i*5+2,none⟩=some (.string p.1.t)∧w'.cell? ⟨b,off+i*5+3,none⟩=some (.slice p.1.LA p.1.ln p.1.lc)∧w'.cell? ⟨b,off+i*5+4,none⟩=some (.slice p.1.DA p.1.dn p.1.dc)) w2):=qD fun w2 hb=>⟨⟨(B0.out.step VS.out.bel).step hb,(B1.out.step VS.out.bel).step hb⟩,(hb.cell (p:=⟨b,off+i*5,none⟩) hbw).trans a0,(hb.cell (p:=⟨b,off+i*5+1,none⟩) hbw).trans a1,(hb.cell (p:=⟨b,off+i*5+2,none⟩) hbw).trans a2,(hb.cell (p:=⟨b,off+i*5+3,none⟩) hbw).trans a3,(hb.cell (p:=⟨b,off+i*5+4,none⟩) hbw).trans a4⟩
    have i0':(0:Int)≤(i:Int):=by omega
    have i1':(i:Int)<(dn:Int):=by omega
    clear hu0 hr0 hp hib a0 a1 a2 a3 a4 hbw
    go_upto_region 7 with fail
    have B:Hid (Below wr.heap.size wr wr.drew):=qD ((Below.refl wr.heap.size wr).drew)
    refine wp_region_noPanic ?_
    refine wp_region_held_drew (S:=(fun w'=>(Blk w' w.heap.size 35 (marr ma M)∧Blk w' (w.heap.size+1) 27 (rarr a R))∧w'.cell? ⟨b,off+i*5,none⟩=some (.int .i64 p.1.k)∧w'.cell? ⟨b,off+i*5+1,none⟩=some (.int .i64 p.1.n)∧w'.cell? ⟨b,off+i*5+2,none⟩=some (.string p.1.t)∧w'.cell? ⟨b,off+i*5+3,none⟩=some (.slice p.1.LA p.1.ln p.1.lc)∧w'.cell? ⟨b,off+i*5+4,none⟩=some (.slice p.1.DA p.1.dn p.1.dc))) (by kernel_rfl) ?_ (fun hHeld=>?_)
    ·(try dsimp only);exact K7.out _ B.out
    generalize wr.drew=v0 at*
    refine rT (v:=.agg (marr ma M)) 0 rfl ?_ ?_
    ·intro w' hSw;exact exec_row rfl rfl hSw.1.1 Tryz.underlying35 rfl (by rw[sizeM];rfl)
    try go_frame
    refine rT (v:=.agg (rarr a R)) 1 rfl ?_ ?_
    ·intro w' hSw;exact exec_row rfl rfl hSw.1.2 Tryz.underlying27 rfl (by rw[sizeR];rfl)
    try go_frame
    refine rU 2 rfl ?_
    try go_frame
    refine rU 3 rfl ?_
    try go_frame
    refine rU 4 rfl ?_
    try go_frame
    refine rU 5 rfl ?_
    try go_frame
    refine rY 6 rfl fun K hK=>?_
    go_simp
    refine(HIN.out v0 B.out).mono ?_
    rintro e3 y1 ⟨rfl,hb⟩
    replace B:=qD (B.out.step' hb)
    clear hb
    (try go_wp2_with fail)
    clear hHeld
    refine hK.out _ _ ?_ fun hHeld=>?_
    ·(try dsimp only);exact K7.out _ B.out
    clear hK K
    try go_frame
    refine rD ?_ _
    refine NoPanic.normal ?_
    have VG:=qD (VS.out.step B.out)
    have K8:=qD (K7.out _ B.out)
    clear B VS K7 HIN HBR HQS
    generalize y1=wb at*
    cases ib
    ·have HTT:Hid (qs.map Prod.snd=keyL R M.lo M.hi ((ps.map Prod.snd).take (i+1))):=(HCI.out.trans (List.append_nil _)).symm
     go_wp2_with fail
     go_roundw
     case rel=>exact⟨i+1,qs,by omega,by go_num,HTT.out,VG.out⟩
     case measure=>simp[intOf];omega
    ·have HTT:Hid (keyL R M.lo M.hi ((ps.map Prod.snd).take (i+1))=qs.map Prod.snd++[idV p.2]):=HCI.out
     obtain⟨_,a0,a1,a2,a3,a4⟩:=K8.out
     have hbw2:=BE.out.step' VG.out.bel
     have HKC:=qD (rkey51_any p.2 p.1 wb (HRX.out.step hbw2) HST.out)
     clear hbw2
     go_wp2_with fail
     refine HKC.out.mono ?_
     rintro e wc ⟨c1,rfl,hr,hb⟩
     have VS2:=qD (VG.out.step hb)
     have HRP:Hid (RV (fun b=>Value.ownBlock u7≠some b) wc c1 (idV p.2)):=(hr.step hb).mono fun b hb=>VS2.out.far (.inl (Nat.lt_of_lt_of_le hb BE.out.size))
     clear hr hb VG a0 a1 a2 a3 a4 K8 HKC
     have HLO6:Hid (wa.heap.size≤wc.heap.size):=VS2.out.bel.size
     have hql:=HQL.out
     have LK:=qD (VS2.out.step ((Below.refl wc.heap.size wc).alloc (qL) (Obj.cells (VC.arr c1) 45)))
     have HRZ:Hid (RV (fun b=>Value.ownBlock u7≠some b) (wc.alloc (.cells (VC.arr c1) 45)) c1 (idV p.2)):=RV.alloc (HRP.out) _
     clear VS2 HRP
     go_wp2_with (at_builtin;refine wpList_append_any _ rfl _ _ 42 rfl wa.heap.size 45 i0 VC.zero.val 5 80 Tryz.underlying42 hi0 hy0 hy1 hy2 rfl (by decide) u7 qs.length (flat recV qs) rfl LK.out.own _ _ 1 _ (recV (c1,(idV p.2))) rfl ⟨rfl,fun _=>⟨_,rfl,Nat.lt_succ_self _,news_at _ _ _⟩⟩ (recV_one _) (by unfold maxLen;omega) (by omega) (by have:=HLO6.out;rw[size_alloc];omega) ?_)
     intro v' w6 hown hgr hat
     have HI:=qD (LK.out.add (p:=(c1,(idV p.2))) HRZ.out rfl hown hgr (by rw[size_alloc];exact hat))
     clear hown hgr hat LK HRZ
     go_wp2_with fail
     go_roundw
     case rel=>exact⟨i+1,qs++[(c1,idV p.2)],by omega,by go_num,by rw[List.map_append];exact HTT.out.symm,HI.out⟩
     case measure=>simp[intOf];omega
   ·have hik:i=dn:=by omega
    subst hik
    have HALL:Hid (qs.map Prod.snd=keyL R M.lo M.hi (ps.map Prod.snd)):=by
     have:=HQS.out
     rwa [List.take_of_length_le (by rw[List.length_map,HLN.out];exact qL)] at this
    obtain⟨A1,c1,hu,hsl⟩:=VS.out.sl (by have:=HQL.out;omega)
    have HSL:=qD hsl
    have VB:=qD VS.out.bel
    subst hu
    clear hsl VS HQS
    generalize wr=wq at*
    go_wp2_with fail
    refine(refSort_any qs A1 qs.length c1 wq HSL.out).mono ?_
    rintro e wS ⟨A2,n2,c2,ks,rfl,hst,hsl,hb⟩
    have hkn:n2=ks.length:=hsl.sr.ln
    have hkl:ks.length=qs.length:=by
     have h1:=hst
     obtain⟨S,hS,hS2⟩:=h1
     have h2:=hS.perm.length_eq
     have h3:=congrArg List.length hS2
     have h4:(tagFrom 0 (qs.map Prod.snd)).length=(qs.map Prod.snd).length:=by
      have:=congrArg List.length (tagFrom_map (qs.map Prod.snd) 0)
      rwa [List.length_map] at this
     rw[List.length_map] at h3
     rw[List.length_map] at h4
     rw[List.length_map] at h3
     omega
    have HSO:Hid (StV (keyL R M.lo M.hi (ps.map Prod.snd)) (ks.map Prod.snd)):=by rw[Hid,←HALL.out];exact hst
    have HKN:=qD hkn
    have hn2:n2≤900:=by have:=HQL.out;omega
    have HKS:=qD hsl
    have BM:=qD ((B0.out.step VB.out).step hb)
    have BS:=qD (HBR.out.step' hb)
    clear hst hsl hb HSL HBR hkn hkl HALL VB
    go_wp2_with fail
    go_loopw [9,10] (fun u9 u10 wr=>∃(j:Nat) (os:List PW),j≤n2∧u10=.int .i64 j∧os.map Prod.snd=((ks.map Prod.snd).take j).map (remW M.sp)∧os.length≤j∧RgI wS.heap.size wS u9 os wr) (fun _ u10 _=>n2-(intOf u10).toNat)
    case atStart=>exact⟨0,[],Nat.zero_le _,rfl,rfl,qL,RgI.start (qL) (Below.refl _ _)⟩
    case round=>
     obtain⟨j,os,hjle,rfl,hos,hol,hvs⟩:=hrel
     have HOS:=qD hos
     have HOL:Hid (os.length≤900):=by unfold Hid;omega
     have VX:=qD hvs
     clear hos hvs
     by_cases hlt2:j<n2
     ·obtain⟨q,hq⟩:∃q,ks[j]?=some q:=⟨_,List.getElem?_eq_getElem (by have:=HKN.out;omega)⟩
      obtain⟨b,off,rfl,_,hu,hr⟩:=HKS.out.vat hq
      have hbl:b<wS.heap.size:=hu.lt
      have P1:Hid (RW1 (fun b=>b<wS.heap.size) wS (⟨3,M.sp,q.1,VC.zero,true⟩:WC) (remW M.sp q.2)):=⟨rfl,rfl,rfl,HSP.out,(hr.lt).mono (fun _ h=>h.2),rv_zero⟩
      have HTJ:Hid (((ks.map Prod.snd).take (j+1)).map (remW M.sp)=((ks.map Prod.snd).take j).map (remW M.sp)++[remW M.sp q.2]):=by
       rw[Hid,take_snoc' (show(ks.map Prod.snd)[j]?=some q.2 by rw[List.getElem?_map,hq];rfl),List.map_append]
       rfl
      obtain⟨a0,a1,a2,a3,a4⟩:=hu.keep (VX.out.bel.block b hbl)
      have m0:wr.cell? ⟨w.heap.size,0,none⟩=some (.string M.sp):=(BM.out.step VX.out.bel).cell 0
      have hbw:b<wr.heap.size:=Nat.lt_of_lt_of_le hbl VX.out.bel.size
      have hmw:w.heap.size<wr.heap.size:=Nat.lt_of_lt_of_le BM.out.lt VX.out.bel.size
      have hcl:∀(g k:Nat) (u:Value) (y:World),wr.cell? ⟨g,k,none⟩=some u→y.heap[g]?=wr.heap[g]?→y.cell? ⟨g,k,none⟩=some u:=fun g k u y h1 h2=>(World.cell?_of_block (a:=⟨g,k,none⟩) h2).trans h1
      have HS9:Hid (∀y:World,y.heap[b]?=wr.heap[b]?→y.heap[w.heap.size]?=wr.heap[w.heap.size]?→(fun w'=>w'.cell? ⟨w.heap.size,0,none⟩=some (.string M.sp)∧w'.cell? ⟨b,off+j*5,none⟩=some (.int .i64 q.1.k)∧w'.cell? ⟨b,off+j*5+1,none⟩=some (.int .i64 q.1.n)∧w'.cell? ⟨b,off+j*5+2,none⟩=some (.string q.1.t)∧w'.cell? ⟨b,off+j*5+3,none⟩=some (.slice q.1.LA q.1.ln q.1.lc)∧w'.cell? ⟨b,off+j*5+4,none⟩=some (.slice q.1.DA q.1.dn q.1.dc)) y):=qD fun y hy hz=>⟨hcl _ _ _ y m0 hz,hcl _ _ _ y a0 hy,hcl _ _ _ y a1 hy,hcl _ _ _ y a2 hy,hcl _ _ _ y a3 hy,hcl _ _ _ y a4 hy⟩
      have KSS:Hid (∀y:World,Below wr.heap.size wr y→(fun w'=>w'.cell? ⟨w.heap.size,0,none⟩=some (.string M.sp)∧w'.cell? ⟨b,off+j*5,none⟩=some (.int .i64 q.1.k)∧w'.cell? ⟨b,off+j*5+1,none⟩=some (.int .i64 q.1.n)∧w'.cell? ⟨b,off+j*5+2,none⟩=some (.string q.1.t)∧w'.cell? ⟨b,off+j*5+3,none⟩=some (.slice q.1.LA q.1.ln q.1.lc)∧w'.cell? ⟨b,off+j*5+4,none⟩=some (.slice q.1.DA q.1.dn q.1.dc)) y):=qD fun y hb=>HS9.out y (hb.block b hbw) (hb.block _ hmw)
      have hown0:∀g,g<wS.heap.size→some g≠(Value.ownBlock u9):=fun g hg e=>by have:=own_ge VX.out.own g e.symm;omega
      have KSA:Hid (∀y2 y3:World,Below wr.heap.size wr y2→y2.grownBy y3 (Value.ownBlock u9)→(fun w'=>w'.cell? ⟨w.heap.size,0,none⟩=some (.string M.sp)∧w'.cell? ⟨b,off+j*5,none⟩=some (.int .i64 q.1.k)∧w'.cell? ⟨b,off+j*5+1,none⟩=some (.int .i64 q.1.n)∧w'.cell? ⟨b,off+j*5+2,none⟩=some (.string q.1.t)∧w'.cell? ⟨b,off+j*5+3,none⟩=some (.slice q.1.LA q.1.ln q.1.lc)∧w'.cell? ⟨b,off+j*5+4,none⟩=some (.slice q.1.DA q.1.dn q.1.dc)) y3):=qD fun y2 y3 h2 hg=>HS9.out y3 ((hg.block b (Nat.lt_of_lt_of_le hbw h2.size) (hown0 b hbl)).trans (h2.block b hbw)) ((hg.block _ (Nat.lt_of_lt_of_le hmw h2.size) (hown0 _ BM.out.lt)).trans (h2.block _ hmw))
      have HBASE:Hid (wS.heap.size≤wr.heap.size):=VX.out.bel.size
      have i0':(0:Int)≤(j:Int):=by omega
      have i1':(j:Int)<(n2:Int):=by omega
      clear hq hu hr a0 a1 a2 a3 a4 m0 hbw hmw hcl HS9 hown0 hbl
      go_upto_region 14 with fail
      have B:Hid (Below wr.heap.size wr wr.drew):=qD ((Below.refl wr.heap.size wr).drew)
      refine wp_region_noPanic ?_
      refine wp_region_held_drew (S:=(fun w'=>w'.cell? ⟨w.heap.size,0,none⟩=some (.string M.sp)∧w'.cell? ⟨b,off+j*5,none⟩=some (.int .i64 q.1.k)∧w'.cell? ⟨b,off+j*5+1,none⟩=some (.int .i64 q.1.n)∧w'.cell? ⟨b,off+j*5+2,none⟩=some (.string q.1.t)∧w'.cell? ⟨b,off+j*5+3,none⟩=some (.slice q.1.LA q.1.ln q.1.lc)∧w'.cell? ⟨b,off+j*5+4,none⟩=some (.slice q.1.DA q.1.dn q.1.dc))) (by kernel_rfl) ?_ (fun hHeld=>?_)
      ·(try dsimp only);exact KSS.out _ B.out
      generalize wr.drew=v0 at*
      refine rU 0 rfl ?_
      try go_frame
      refine rU 1 rfl ?_
      try go_frame
      refine rU 2 rfl ?_
      try go_frame
      refine rU 3 rfl ?_
      try go_frame
      refine rU 4 rfl ?_
      try go_frame
      refine rU 5 rfl ?_
      try go_frame
      refine rU 6 rfl ?_
      try go_frame
      refine rT (v:=.agg (recC78 (⟨3,M.sp,q.1,VC.zero,true⟩:WC)).toArray) 7 rfl ?_ ?_
      ·intro w' hSw;exact exec_built rfl (by kernel_rfl)
      try go_frame
      refine rY 8 rfl fun K hK=>?_
      refine wp_buildSlice 33 67 1 _ rfl (recC78 (⟨3,M.sp,q.1,VC.zero,true⟩:WC)).toArray j0 _ Tryz.underlying33 hj0 hw0 (by rw[hw1];decide) (by rw[hw1];decide) (by rw[hw1];exact build_write rfl) ?_
      have N2:Hid (Blk (v0.alloc (.cells (recC78 (⟨3,M.sp,q.1,VC.zero,true⟩:WC)).toArray 67)) v0.heap.size 67 (recC78 (⟨3,M.sp,q.1,VC.zero,true⟩:WC)).toArray):=Blk.new_at rfl
      have B2:=qD (B.out.alloc B.out.size (Obj.cells (recC78 (⟨3,M.sp,q.1,VC.zero,true⟩:WC)).toArray 67))
      generalize v0.alloc (.cells (recC78 (⟨3,M.sp,q.1,VC.zero,true⟩:WC)).toArray 67)=y2 at*
      generalize v0.heap.size=gn at*
      clear hHeld
      refine hK.out _ _ ?_ fun hHeld=>?_
      ·(try dsimp only);exact KSS.out _ B2.out
      clear hK K
      try go_frame
      refine rY 9 rfl fun K hK=>?_
      have O2:=qD (VX.out.step B2.out)
      refine wp_append_any y2 (.tmp 48) (.tmp 56) 33 rfl wS.heap.size 67 j0 _ 78 1168 Tryz.underlying33 hj0 hw0 hw1 hw2 rfl (by decide) u9 os.length (flat recW os) rfl O2.out.own y2.heap.size (some ⟨gn,0,none⟩) 1 1 (recC78 (⟨3,M.sp,q.1,VC.zero,true⟩:WC)) rfl (reads_one N2.out N2.out.lt) (recC78_one _) (by unfold maxLen;have:=HOL.out;omega) (by have:=HOL.out;omega) (Nat.le_trans HBASE.out B2.out.size) ?_
      intro v5 y3 hown hgr hat
      have V3:=qD (O2.out.addL (qs:=[((⟨3,M.sp,q.1,VC.zero,true⟩:WC),remW M.sp q.2)]) (fun z hz=>by rw[List.mem_singleton.1 hz];exact P1.out) rfl (by rw[flat_single];exact hown) hgr)
      have KS3:=qD (KSA.out _ _ B2.out hgr)
      clear hown hgr hat
      clear hHeld
      refine hK.out _ _ ?_ fun hHeld=>?_
      ·(try dsimp only);exact KS3.out
      clear hK K
      try go_frame
      refine rU 10 rfl ?_
      try go_frame
      refine rD ?_ _
      refine NoPanic.normal ?_
      go_wp2_with fail
      go_roundw
      case rel=>exact⟨j+1,os++[((⟨3,M.sp,q.1,VC.zero,true⟩:WC),remW M.sp q.2)],by omega,by go_num,by rw[List.map_append,HTJ.out,HOS.out];rfl,by simp;omega,V3.out⟩
      case measure=>simp[intOf];omega
     ·have hjk:j=n2:=by omega
      subst hjk
      have HOUT:Hid (os.map Prod.snd=(ks.map Prod.snd).map (remW M.sp)):=by
       have:=HOS.out
       rwa [List.take_of_length_le (by rw[List.length_map,HKN.out];exact qL)] at this
      obtain⟨A9,c9,hu9,hws⟩:=VX.out.sl (by have:=HOL.out;omega)
      have HWS:=qD hws
      have HEN:=qD (BS.out.step' VX.out.bel)
      subst hu9
      clear hws VX HOS
      go_wp2_with fail
      go_ret
      exact⟨A9,os.length,c9,os,rfl,by rw[remL_key,HOUT.out];exact StW.of_keys HSO.out,HWS.out,HEN.out⟩
theorem rorph_no(M:Mv)(ma:MA)(R:Ro)(a:RA)(DA:Option Addr)(dn dc:Nat)(w:World)(h4:M.st≠4)(h5:M.st≠5):
 Calls Tryz.prog 29 #[mval ma M,rval a R,.slice DA dn dc] w (NoOrph w):=by
 obtain⟨wa,hwa⟩:∃wa,(w.alloc (.cells (marr ma M) 35)).alloc (.cells (rarr a R) 27)=wa:=⟨_,rfl⟩
 have B0:Hid (Blk wa w.heap.size 35 (marr ma M)):=by rw[←hwa];exact(Blk.new_at rfl).alloc _
 have BE:Hid (Below w.heap.size w wa):=by rw[←hwa];exact((Below.refl _ _).alloc (qL) _).alloc (by simp) _
 have HWA:=qD hwa
 clear hwa
 go_enter Tryz.func29,Tryz.ntmps29
 go_upto_region 1 with fail
 change Code.wp _ _ _ _ ((w.alloc (.cells (marr ma M) 35)).alloc (.cells (rarr a R) 27))
 rw[HWA.out]
 clear HWA
 have q5:wa.cell? ⟨w.heap.size,5,none⟩=some (.int .i64 M.st):=B0.out.cell 5
 have s4:(M.st != 4)=true:=by simpa using h4
 have s5:(M.st != 5)=true:=by simpa using h5
 go_wp2_with fail
 go_ret
 exact⟨rfl,BE.out⟩
theorem rorph(M:Mv)(ma:MA)(R:Ro)(a:RA)(ps:List PV)(DA:Option Addr)(dn dc:Nat)(w:World)(h:RR w a R)(h8:R.ks.length≤8)(hk:R.ha=true→R.ks.length=1)(hd:SL (fun _=>True) w DA dn dc ps)(hsto:∀p∈ps,StoD p.2)(hz:dn≤900)(hsp:M.sp.size≤reach)(hlo:M.lo.size≤reach):
 Calls Tryz.prog 29 #[mval ma M,rval a R,.slice DA dn dc] w (OrR (if M.st=4∨M.st=5 then remL R M.sp M.lo M.hi (ps.map Prod.snd) else []) w):=by
 by_cases hs:M.st=4∨M.st=5
 ·rw[if_pos hs];exact rorph_any M ma R a ps DA dn dc w h h8 hk hd hsto hz hsp hlo hs
 ·rw[if_neg hs]
  refine(rorph_no M ma R a DA dn dc w (fun h=>hs (.inl h)) (fun h=>hs (.inr h))).mono ?_
  rintro e w' ⟨rfl,hb⟩
  exact⟨none,0,0,[],rfl,⟨[],Sorted.nil,rfl⟩,WS.nil,hb⟩
theorem porph(M:Mv)(ma:MA)(R:Ro)(a:RA)(ps:List PV)(DA:Option Addr)(dn dc:Nat)(w:World)(hT:Tabs w)(h:RR w a R)(h8:R.ks.length≤8)(hd:SL (fun _=>True) w DA dn dc ps)(hz:dn≤20)(hsp:M.sp.size≤reach):
 Calls Tryz.prog 28 #[mval ma M,rval a R,.slice DA dn dc] w (OrR (if M.st=4∨M.st=5 then remL R M.sp M.lo M.hi (ps.map Prod.snd) else []) w):=by
 by_cases h4:M.st=4
 ·rw[if_pos (.inl h4)];exact orph_any M ma R a ps DA dn dc w hT h h8 hd hz hsp h4
 by_cases h5:M.st=5
 ·rw[if_pos (.inr h5)];exact orph5_any M ma R a ps DA dn dc w hT h h8 hd hz hsp h5
 rw[if_neg (fun h=>h.elim h4 h5)]
 refine(orph_no M ma R a DA dn dc w h4 h5).mono ?_
 rintro e w' ⟨rfl,hb⟩
 exact⟨none,0,0,[],rfl,⟨[],Sorted.nil,rfl⟩,WS.nil,hb⟩
def sameOd(a b:Od):Bool:=(a.d==b.d)&&sameP a.p b.p
def sameK:List Od→List Od→Bool
 | [],[]=>true
 | a::r,b::s=>sameOd a b&&sameK r s
 | _,_=>false
theorem sameP_refl:∀l,sameP l l=true
 | []=>rfl
 | a::r=>by rw[sameP,sameP_refl r];simp
theorem sameK_refl:∀l,sameK l l=true
 | []=>rfl
 | a::r=>by rw[sameK,sameK_refl r,sameOd,sameP_refl];simp
theorem sameK_len:∀{l m:List Od},l.length≠m.length→sameK l m=false
 | [],[],h=>absurd rfl h
 | [],_::_,_=>rfl
 | _::_,[],_=>rfl
 | a::r,b::s,h=>by rw[sameK,sameK_len (l:=r) (m:=s) (by simpa using h)];simp
theorem sameK_at{l m:List Od}{i:Nat}{x y:Od}(hx:l[i]?=some x)(hy:m[i]?=some y):sameK (l.drop i) (m.drop i)=(sameOd x y&&sameK (l.drop (i+1)) (m.drop (i+1))):=by rw[drop_of hx,drop_of hy,sameK]
theorem sameK_end{l m:List Od}{i:Nat}(h1:l.length≤i)(h2:m.length≤i):sameK (l.drop i) (m.drop i)=true:=by rw[List.drop_of_length_le h1,List.drop_of_length_le h2];rfl
theorem sameO23_any(l m:List Od)(A B:Option Addr)(n c k d:Nat)(w:World)(h:KS w A n c l)(h':KS w B k d m):
 Calls Tryz.prog 43 #[.slice A n c,.slice B k d] w fun e w'=>e=.returned (.bool (sameK l m))∧Below w.heap.size w w':=by
 have hl:=qD h.ln
 have hl':=qD h'.ln
 obtain⟨os,h⟩:=h
 obtain⟨os',h'⟩:=h'
 have hz:n≤140737488355328:=by have:=h.sz;unfold reach at this;omega
 have hk:k≤140737488355328:=by have:=h'.sz;unfold reach at this;omega
 have H:=qD h
 have H':=qD h'
 clear h h'
 by_cases hnk:n=k
 rotate_left
 ·have HF:Hid (sameK l m=false):=sameK_len (by have:=hl.out;have:=hl'.out;omega)
  have hnk':((n:Int) != (k:Int))=true:=by simp;omega
  go_enter Tryz.func43,Tryz.ntmps43
  go_wp2_with fail
  go_ret
  exact⟨by rw[HF.out];rfl,Below.refl _ _⟩
 subst hnk
 go_enter Tryz.func43,Tryz.ntmps43
 go_wp2_with fail
 go_loopw [5] (fun v wr=>∃i:Nat,i≤n∧v=.int .i64 i∧sameK l m=sameK (l.drop i) (m.drop i)∧Below w.heap.size w wr) (fun v _=>n-(intOf v).toNat)
 case atStart=>exact⟨0,Nat.zero_le _,rfl,rfl,Below.refl _ _⟩
 case round=>
  obtain⟨i,hi,rfl,ha,hbel⟩:=hrel
  have HA:=qD ha
  have HB:=qD hbel
  clear ha
  by_cases hlt:i<n
  ·obtain⟨b,off,x,hA,hb,hx,e0,e1⟩:=H.out.sr.at2 hlt
   obtain⟨b',off',y,hA',hb',hy,f0,f1⟩:=H'.out.sr.at2 hlt
   obtain⟨q,hq⟩:∃q,l[i]?=some q:=⟨_,List.getElem?_eq_getElem (by have:=hl.out;omega)⟩
   obtain⟨r,hr⟩:∃r,m[i]?=some r:=⟨_,List.getElem?_eq_getElem (by have:=hl'.out;omega)⟩
   subst hA hA'
   have OQ:=qD (H.out.el i x q hx hq)
   have OR':=qD (H'.out.el i y r hy hr)
   have HX:=qD (sameK_at hq hr)
   replace e0:=(hbel.cell (p:=⟨b,off+i*2,none⟩) hb).trans e0
   replace e1:=(hbel.cell (p:=⟨b,off+i*2+1,none⟩) hb).trans e1
   replace f0:=(hbel.cell (p:=⟨b',off'+i*2,none⟩) hb').trans f0
   replace f1:=(hbel.cell (p:=⟨b',off'+i*2+1,none⟩) hb').trans f1
   obtain⟨xA,xn,xc,xd⟩:=x
   obtain⟨yA,yn,yc,yd⟩:=y
   have dq:xd=q.d:=OQ.out.d
   have dr:yd=r.d:=OR'.out.d
   simp only at e0 e1 f0 f1
   have X0:∀kk:BW wr,kk.val.cell? ⟨b,off+i*2,none⟩=some (.slice xA xn xc):=fun kk=>kk.cell e0
   have X1:∀kk:BW wr,kk.val.cell? ⟨b,off+i*2+1,none⟩=some (.bool xd):=fun kk=>kk.cell e1
   have Y0:∀kk:BW wr,kk.val.cell? ⟨b',off'+i*2,none⟩=some (.slice yA yn yc):=fun kk=>kk.cell f0
   have Y1:∀kk:BW wr,kk.val.cell? ⟨b',off'+i*2+1,none⟩=some (.bool yd):=fun kk=>kk.cell f1
   have K1:Hid (∀kk:BW wr,Calls Tryz.prog 66 #[.slice xA xn xc,.slice yA yn yc] kk.val fun e w''=>e=.returned (.bool (sameP q.p r.p))∧∃kk:BW wr,w''=kk.val):=fun kk=>
    Calls.bw (rsame04_any q.p r.p _ _ _ _ _ _ _ (OQ.out.st.step (HB.out.step' kk.below)) (OR'.out.st.step (HB.out.step' kk.below)))
   have HOD:Hid (sameOd q r=((xd==yd)&&sameP q.p r.p)):=by rw[Hid,dq,dr];rfl
   have i0:(0:Int)≤(i:Int):=by omega
   have i1:(i:Int)<(n:Int):=by omega
   clear hx hy hq hr hbel dq dr
   go_upto_region 6 with fail
   clear e0 e1 f0 f1
   cases xd<;>cases yd
   all_goals
    refine wp_region_bw (by kernel_rfl) (by kernel_rfl) ?_
    repeat(go_big_quiet_step ((go_at_call 66;with_reducible exact K1.out _)))
    refine wpQuiet_nil ?_
    rintro _ ⟨kw,rfl⟩
    have HK:=qD kw.below
    generalize kw.val=w5 at*
    clear X0 X1 Y0 Y1 K1
   case' false.true|true.false=>
    have HF:Hid (sameK l m=false):=by rw[Hid,HA.out,HX.out,HOD.out];rfl
    go_wp2_with fail
    go_ret
    exact⟨by rw[HF.out];rfl,HB.out.step' HK.out⟩
   all_goals
    cases hq:sameP q.p r.p
    ·have HF:Hid (sameK l m=false):=by rw[Hid,HA.out,HX.out,HOD.out,hq];rfl
     go_wp2_with fail
     go_ret
     exact⟨by rw[HF.out];rfl,HB.out.step' HK.out⟩
    ·have HF:Hid (sameK l m=sameK (l.drop (i+1)) (m.drop (i+1))):=by rw[Hid,HA.out,HX.out,HOD.out,hq];rfl
     go_wp2_with fail
     go_roundw
     case rel=>exact⟨i+1,by omega,by go_num,HF.out,HB.out.step' HK.out⟩
     case measure=>simp[intOf];omega
  ·have HF:Hid (sameK l m=true):=by rw[Hid,HA.out];exact sameK_end (by have:=hl.out;omega) (by have:=hl'.out;omega)
   clear hbel
   go_wp2_with fail
   go_ret
   exact⟨by rw[HF.out];rfl,HB.out⟩
theorem sizeEn:(Tryz.prog.info? 100).map (·.size)=some 82:=by kernel_rfl
theorem rcode40_any(x:Wt)(c:WC)(w:World)(hr:RW1 (fun _=>True) w c x)(hs:SmW x):Calls Tryz.prog 37 #[.agg (entL c).toArray] w fun e w'=>e=.returned (.string (entryC x))∧Below w.heap.size w w':=by
 have HS:Hid ((entryC x).size≤4611686018427387904):=entryC_size hs hr.sz
 obtain⟨wa,hwa⟩:∃wa,(w.alloc (.cells (entL c).toArray 100)).alloc (.cells #[.string ByteArray.empty,.bool false,.bool true] 120)=wa:=⟨_,rfl⟩
 have X0:Hid (Blk wa w.heap.size 100 (entL c).toArray):=by rw[←hwa];exact(Blk.new_at rfl).alloc _
 have O0:Hid (OW wa (w.heap.size+1) ByteArray.empty):=by rw[←hwa];exact Blk.new_at (by simp)
 have BE:Hid (Below w.heap.size w wa):=by rw[←hwa];exact((Below.refl _ _).alloc (qL) _).alloc (by simp) _
 have HR:Hid (RW1 (fun b=>b≠w.heap.size+1) wa c x):=hr.keepG fun b _ hl=>⟨by omega,BE.out.block b hl⟩
 have HWA:=qD hwa
 clear hwa hr hs
 go_enter Tryz.func37,Tryz.ntmps37
 go_upto_region 2 with fail
 change Code.wp _ _ _ _ ((w.alloc (.cells (entL c).toArray 100)).alloc (.cells #[.string ByteArray.empty,.bool false,.bool true] 120))
 rw[HWA.out]
 clear HWA
 have HC:=qD (oentry_any x c (w.heap.size+1) ByteArray.empty wa HR.out O0.out (by have:=HS.out;show 0+_≤_;omega))
 go_wp2_with (refine wpList_load_row rfl 100 _ rfl w.heap.size rfl _ _ _ _ X0.out Tryz.underlying100 rfl (by rw[sizeEn];rfl) ?_)
 refine HC.out.mono ?_
 rintro e w1 ⟨rfl,hO,hb⟩
 have q0:w1.cell? ⟨w.heap.size+1,0,none⟩=some (.string (ByteArray.empty++entryC x)):=Blk.cell hO 0
 rw[ByteArray.empty_append] at q0
 obtain⟨E,hE⟩:∃E,entryC x=E:=⟨_,rfl⟩
 rw[hE] at q0
 have HEE:=qD hE
 clear hE
 have BZ:Hid (Below w.heap.size w w1):=BE.out.trans (hb.below BE.out.size (by omega))
 clear hO hb HC X0 O0 BE HR
 go_wp2_with fail
 go_ret
 exact⟨by rw[HEE.out];rfl,BZ.out⟩
theorem sameWr_eq(ps qs:List PW)(A B:Option Addr)(n c m d:Nat)(w:World)(h:WS (fun _=>True) w A n c ps)(h':WS (fun _=>True) w B m d qs)(he:ps.map Prod.snd=qs.map Prod.snd)(hs:∀p∈ps,SmW p.2):
 Calls Tryz.prog 18 #[.slice A n c,.slice B m d] w fun e w'=>e=.returned (.bool true)∧Below w.heap.size w w':=by
 have hnm:n=m:=by
  have h1:=h.sr.ln
  have h2:=h'.sr.ln
  have h3:=congrArg List.length he
  simp only[List.length_map] at h3
  omega
 subst hnm
 have hz:=h.sz
 unfold reach at hz
 have H:=qD h
 have H':=qD h'
 have HE:=qD he
 have HS:=qD hs
 clear h h' he hs
 go_enter Tryz.func18,Tryz.ntmps18
 go_wp2_with fail
 go_loopw [5] (fun v wr=>∃i:Nat,i≤n∧v=.int .i64 i∧Below w.heap.size w wr) (fun v _=>n-(intOf v).toNat)
 case atStart=>exact⟨0,Nat.zero_le _,rfl,Below.refl _ _⟩
 case round=>
  obtain⟨i,hi,rfl,hbel⟩:=hrel
  have HB:=qD hbel
  clear hbel
  by_cases hlt:i<n
  ·obtain⟨p,hp⟩:∃p,ps[i]?=some p:=⟨_,List.getElem?_eq_getElem (by have:=H.out.sr.ln;omega)⟩
   obtain⟨q,hq⟩:∃q,qs[i]?=some q:=⟨_,List.getElem?_eq_getElem (by have:=H'.out.sr.ln;omega)⟩
   have hpq:p.2=q.2:=by
    have h1:=congrArg (fun l=>l[i]?) HE.out
    simp only[List.getElem?_map,hp,hq,Option.map_some,Option.some.injEq] at h1
    exact h1
   obtain⟨b1,o1,hA,hb1,hr1,hx1⟩:=H.out.range hp
   obtain⟨b2,o2,hB,hb2,hr2,hx2⟩:=H'.out.range hq
   subst hA hB
   have hsm:=HS.out p (List.mem_of_getElem? hp)
   obtain⟨E,hE⟩:∃E,entryC p.2=E:=⟨_,rfl⟩
   have HC1:Hid (∀w2,Below wr.heap.size wr w2→Calls Tryz.prog 37 #[.agg (entL p.1).toArray] w2 fun e w'=>e=.returned (.string E)∧Below w2.heap.size w2 w'):=qD fun w2 hb=>by
    rw[←hE];exact rcode40_any p.2 p.1 w2 ((hx1.step HB.out).step hb) hsm
   have HC2:Hid (∀w2,Below wr.heap.size wr w2→Calls Tryz.prog 37 #[.agg (entL q.1).toArray] w2 fun e w'=>e=.returned (.string E)∧Below w2.heap.size w2 w'):=qD fun w2 hb=>by
    rw[←hE,hpq];exact rcode40_any q.2 q.1 w2 ((hx2.step HB.out).step hb) (hpq▸hsm)
   have KSS:Hid (∀w2,Below wr.heap.size wr w2→(fun w'=>w'.rangeAt b1 (o1+i*78) (recC78 p.1)∧w'.rangeAt b2 (o2+i*78) (recC78 q.1)) w2):=qD fun w2 hb=>⟨rangeAt_step (rangeAt_step hr1 HB.out) hb,rangeAt_step (rangeAt_step hr2 HB.out) hb⟩
   have i0:(0:Int)≤(i:Int):=by omega
   have i1:(i:Int)<(n:Int):=by omega
   clear hp hq hpq hr1 hr2 hx1 hx2 hsm hE
   go_upto_region 6 with fail
   have B:Hid (Below wr.heap.size wr wr.drew):=qD ((Below.refl wr.heap.size wr).drew)
   refine wp_region_noPanic ?_
   refine wp_region_held_drew (S:=(fun w'=>w'.rangeAt b1 (o1+i*78) (recC78 p.1)∧w'.rangeAt b2 (o2+i*78) (recC78 q.1))) (by kernel_rfl) ?_ (fun hHeld=>?_)
   ·(try dsimp only);exact KSS.out _ B.out
   generalize wr.drew=v0 at*
   refine rU 0 rfl ?_
   try go_frame
   refine rU 1 rfl ?_
   try go_frame
   refine rU 2 rfl ?_
   try go_frame
   refine rT (v:=.agg (recC78 p.1).toArray) 3 rfl ?_ ?_
   ·intro w' hSw;exact exec_mid rfl rfl hSw.1 Tryz.underlying67 rfl (by rw[sizeW];rfl)
   try go_frame
   refine rT (v:=.agg (entL p.1).toArray) 4 rfl ?_ ?_
   ·intro w' hSw;exact exec_built rfl (by kernel_rfl)
   try go_frame
   refine rU 6 rfl ?_
   try go_frame
   refine rU 7 rfl ?_
   try go_frame
   refine rU 8 rfl ?_
   try go_frame
   refine rT (v:=.agg (recC78 q.1).toArray) 9 rfl ?_ ?_
   ·intro w' hSw;exact exec_mid rfl rfl hSw.2 Tryz.underlying67 rfl (by rw[sizeW];rfl)
   try go_frame
   refine rT (v:=.agg (entL q.1).toArray) 10 rfl ?_ ?_
   ·intro w' hSw;exact exec_built rfl (by kernel_rfl)
   try go_frame
   refine rY 5 rfl fun K hK=>?_
   go_simp
   refine(HC1.out v0 B.out).mono ?_
   rintro e3 y1 ⟨rfl,hb⟩
   replace B:=qD (B.out.step' hb)
   clear hb
   (try go_wp2_with fail)
   clear hHeld
   refine hK.out _ _ ?_ fun hHeld=>?_
   ·(try dsimp only);exact KSS.out _ B.out
   clear hK K
   try go_frame
   refine rY 11 rfl fun K hK=>?_
   go_simp
   refine(HC2.out y1 B.out).mono ?_
   rintro e3 y2 ⟨rfl,hb⟩
   replace B:=qD (B.out.step' hb)
   clear hb
   (try go_wp2_with fail)
   clear hHeld
   refine hK.out _ _ ?_ fun hHeld=>?_
   ·(try dsimp only);exact KSS.out _ B.out
   clear hK K
   try go_frame
   refine rU 12 rfl ?_
   try go_frame
   refine rD ?_ _
   refine NoPanic.normal ?_
   all_goals
    go_wp2_with fail
    go_roundw
    case rel=>exact⟨i+1,by omega,by go_num,HB.out.step' B.out⟩
    case measure=>simp[intOf];omega
  ·go_wp2_with fail
   go_ret
   exact⟨rfl,HB.out⟩
theorem same51_eq(M:Mv)(ma mb:MA)(w:World)(h:MR w ma M)(h':MR w mb M)(hs:∀x,x∈M.cp∨x∈M.ch→SmW x):
 Calls Tryz.prog 8 #[mval ma M,mval mb M] w fun e w'=>e=.returned (.bool true)∧Below w.heap.size w w':=by
 obtain⟨ps,hps,P1⟩:=h.cp
 obtain⟨qs,hqs,P2⟩:=h'.cp
 obtain⟨us,hus,U1⟩:=h.ch
 obtain⟨vs,hvs,U2⟩:=h'.ch
 have s1:∀p∈ps,SmW p.2:=fun p hp=>hs p.2 (.inl (by rw[←hps];exact List.mem_map_of_mem hp))
 have s2:∀p∈us,SmW p.2:=fun p hp=>hs p.2 (.inr (by rw[←hus];exact List.mem_map_of_mem hp))
 obtain⟨wa,hwa⟩:∃wa,(w.alloc (.cells (marr ma M) 35)).alloc (.cells (marr mb M) 35)=wa:=⟨_,rfl⟩
 have B0:Hid (Blk wa w.heap.size 35 (marr ma M)):=by rw[←hwa];exact(Blk.new_at rfl).alloc _
 have B1:Hid (Blk wa (w.heap.size+1) 35 (marr mb M)):=by rw[←hwa];exact Blk.new_at (by simp)
 have BE:Hid (Below w.heap.size w wa):=by rw[←hwa];exact((Below.refl _ _).alloc (qL) _).alloc (by simp) _
 have HC1:=qD (sameWr_eq ps qs ma.CA mb.CA ma.cn ma.cc mb.cn mb.cc wa (P1.step BE.out) (P2.step BE.out) (hps.trans hqs.symm) s1)
 have HC2:Hid (∀w2,Below wa.heap.size wa w2→Calls Tryz.prog 18 #[.slice ma.HA ma.hn ma.hc,.slice mb.HA mb.hn mb.hc] w2 fun e w'=>e=.returned (.bool true)∧Below w2.heap.size w2 w'):=
  qD fun w2 hb=>sameWr_eq us vs ma.HA mb.HA ma.hn ma.hc mb.hn mb.hc w2 ((U1.step BE.out).step hb) ((U2.step BE.out).step hb) (hus.trans hvs.symm) s2
 have HWA:=qD hwa
 clear hwa h h' hs hps hqs hus hvs P1 P2 U1 U2 s1 s2
 go_enter Tryz.func8,Tryz.ntmps8
 go_upto_region 1 with fail
 change Code.wp _ _ _ _ ((w.alloc (.cells (marr ma M) 35)).alloc (.cells (marr mb M) 35))
 rw[HWA.out]
 clear HWA
 obtain⟨m0,m1,m2,m3,m4,m5,m6,m7⟩:=blk_mv B0.out
 obtain⟨n0,n1,n2,n3,n4,n5,n6,n7⟩:=blk_mv B1.out
 go_wp2_with fail
 refine HC1.out.mono ?_
 rintro e w1 ⟨rfl,hb⟩
 have BE2:=qD (BE.out.step' hb)
 have n7':=(B1.out.step hb).cell 7
 have m7':=(B0.out.step hb).cell 7
 have HC3:=qD (HC2.out w1 hb)
 simp at n7' m7'
 clear hb m0 m1 m2 m3 m4 m5 m6 m7 n0 n1 n2 n3 n4 n5 n6 n7 HC1 HC2 B0 B1 BE
 go_wp2_with fail
 refine HC3.out.mono ?_
 rintro e w2 ⟨rfl,hb⟩
 have BE3:=qD (BE2.out.step' hb)
 clear hb
 go_wp2_with fail
 go_ret
 exact⟨rfl,BE3.out⟩
theorem sameRo_eq(R:Ro)(a b:RA)(w:World)(h:RR w a R)(h':RR w b R):
 Calls Tryz.prog 25 #[rval a R,rval b R] w fun e w'=>e=.returned (.bool true)∧Below w.heap.size w w':=by
 obtain⟨KA,kn,kc,CA,cn,cc⟩:=a
 obtain⟨KB,jn,jc,CB,dn,dc⟩:=b
 have hcd:cn=dn:=by have h1:=h.cs.ln;have h2:=h'.cs.ln;simp only at h1 h2;omega
 subst hcd
 have hz:=h.cs.sz
 unfold reach at hz
 simp only at hz
 have H:=qD h.cs
 have H':=qD h'.cs
 have HK1:=qD h.ks
 have HK2:=qD h'.ks
 clear h h'
 obtain⟨wa,hwa⟩:∃wa,(w.alloc (.cells (rarr ⟨KA,kn,kc,CA,cn,cc⟩ R) 27)).alloc (.cells (rarr ⟨KB,jn,jc,CB,cn,dc⟩ R) 27)=wa:=⟨_,rfl⟩
 have B0:Hid (Blk wa w.heap.size 27 (rarr ⟨KA,kn,kc,CA,cn,cc⟩ R)):=by rw[←hwa];exact(Blk.new_at rfl).alloc _
 have B1:Hid (Blk wa (w.heap.size+1) 27 (rarr ⟨KB,jn,jc,CB,cn,dc⟩ R)):=by rw[←hwa];exact Blk.new_at (by simp)
 have BE:Hid (Below w.heap.size w wa):=by rw[←hwa];exact((Below.refl _ _).alloc (qL) _).alloc (by simp) _
 have HO:=qD (sameO23_any R.ks R.ks KA KB kn kc jn jc wa (HK1.out.step BE.out) (HK2.out.step BE.out))
 have HWA:=qD hwa
 clear hwa
 go_enter Tryz.func25,Tryz.ntmps25
 go_upto_region 1 with fail
 change Code.wp _ _ _ _ ((w.alloc (.cells (rarr ⟨KA,kn,kc,CA,cn,cc⟩ R) 27)).alloc (.cells (rarr ⟨KB,jn,jc,CB,cn,dc⟩ R) 27))
 rw[HWA.out]
 clear HWA
 obtain⟨m0,m1,m2,m3,m4,m5,mz⟩:=blk_ro B0.out
 obtain⟨n0,n1,n2,n3,n4,n5,nz⟩:=blk_ro B1.out
 simp only at m1 m5 n1 n5
 go_wp2_with fail
 refine HO.out.mono ?_
 rintro e w1 ⟨rfl,hb⟩
 have C0:=qD (B0.out.step hb)
 have C1:=qD (B1.out.step hb)
 have CE:=qD (BE.out.step' hb)
 have hsk:sameK R.ks R.ks=true:=sameK_refl _
 rw[hsk]
 clear hb m0 m1 m2 m3 m4 m5 mz n0 n1 n2 n3 n4 n5 nz HO B0 B1 BE hsk
 obtain⟨m0,m1,m2,m3,m4,m5,mz⟩:=blk_ro C0.out
 obtain⟨n0,n1,n2,n3,n4,n5,nz⟩:=blk_ro C1.out
 simp only at m1 m5 n1 n5
 go_wp2_with fail
 go_loopw [5] (fun v wr=>∃i:Nat,i≤cn∧v=.int .i64 i∧Below w1.heap.size w1 wr) (fun v _=>cn-(intOf v).toNat)
 case atStart=>exact⟨0,Nat.zero_le _,rfl,Below.refl _ _⟩
 case round=>
  clear m0 m1 m2 m3 m4 m5 mz n0 n1 n2 n3 n4 n5 nz
  obtain⟨i,hi,rfl,hbel⟩:=hrel
  have HB:=qD (CE.out.step' hbel)
  have m5:wr.cell? ⟨w.heap.size,5,none⟩=some (.slice CA cn cc):=(C0.out.step hbel).cell 5
  have n5:wr.cell? ⟨w.heap.size+1,5,none⟩=some (.slice CB cn dc):=(C1.out.step hbel).cell 5
  have HL:=qD hbel
  clear hbel
  by_cases hlt:i<cn
  ·obtain⟨b,off,x,hA,hb,hx,e0,e1,e2,e3,e4⟩:=H.out.sr.at5 hlt
   obtain⟨b',off',y,hA',hb',hy,f0,f1,f2,f3,f4⟩:=H'.out.sr.at5 hlt
   subst hA hA'
   rw[hx] at hy
   injection hy with hy
   subst hy
   replace e0:=(HB.out.cell (p:=⟨b,off+i*5,none⟩) hb).trans e0
   replace e1:=(HB.out.cell (p:=⟨b,off+i*5+1,none⟩) hb).trans e1
   replace e2:=(HB.out.cell (p:=⟨b,off+i*5+2,none⟩) hb).trans e2
   replace e3:=(HB.out.cell (p:=⟨b,off+i*5+3,none⟩) hb).trans e3
   replace e4:=(HB.out.cell (p:=⟨b,off+i*5+4,none⟩) hb).trans e4
   replace f0:=(HB.out.cell (p:=⟨b',off'+i*5,none⟩) hb').trans f0
   replace f1:=(HB.out.cell (p:=⟨b',off'+i*5+1,none⟩) hb').trans f1
   replace f2:=(HB.out.cell (p:=⟨b',off'+i*5+2,none⟩) hb').trans f2
   replace f3:=(HB.out.cell (p:=⟨b',off'+i*5+3,none⟩) hb').trans f3
   replace f4:=(HB.out.cell (p:=⟨b',off'+i*5+4,none⟩) hb').trans f4
   have i0:(0:Int)≤(i:Int):=by omega
   have i1:(i:Int)<(cn:Int):=by omega
   clear hx
   go_upto_region 6 with fail
   go_region
   all_goals
    go_wp2_with fail
    go_roundw
    case rel=>exact⟨i+1,by omega,by go_num,HL.out.drew⟩
    case measure=>simp[intOf];omega
  ·go_wp2_with fail
   go_ret
   exact⟨rfl,HB.out⟩
end Go.Proofs.YtlicnjecnehaoaaGreatDoor
