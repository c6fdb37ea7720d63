/- Parts of the proof, joined: LfImp2, RoSame, BoIs25, BoAwake, PrShape. -/
import Derived.Test.YtfkdihlbaghajaaGreatDoorOf1
import Derived.Test.YtfkdihlbaghajaaGreatDoorOf22
import Derived.Test.YtfkdihlbaghajaaGreatDoorOf13
import Derived.Test.YtfkdihlbaghajaaGreatDoorOf18
import Derived.Test.YtfkdihlbaghajaaGreatDoorOf2
set_option maxRecDepth 100000
set_option maxHeartbeats 16000000
set_option linter.unusedSimpArgs false
namespace Go.Proofs.YtfkdihlbaghajaaGreatDoor
open Go.RowKit
theorem bImplied_gen{op op':Int}{p q:PrT}(ho:Two op)(ho':Two op')(hne:op≠op')(hp:Lf op p)(hq:Lf op' q){Sp Sq:Cut→Prop}{np nm:List (Cut×Cut)}(e1:ofS [aP] p=(Sp,true))(e2:ofS [aP] q=(Sq,true))(n1:IsNF Sp np)(n3:IsNF (fun a=>Sp a∧Sq a) nm)(h1:isAllB Sp=false)(b:Bool)(hb:b=true↔nm=np)(A:Option Addr)(c:Nat)(w:World)(hT:Tabs w)(hsr:SR 25 recPr w A 1 c [p])(hwp:WP w p)(hwq:WP w q):
 Calls Tryz.prog 103 #[.slice A 1 c,aggPr q] w fun e w'=>e=.returned (.bool b)∧Below w.heap.size w w':=by
 have HT:=qD hT
 have HSR:=qD hsr
 have HLP:=qD hp
 have HLQ:=qD hq
 have HO2:=qD ho'
 have HNE:=qD hne
 have N1:=qD n1
 have N3:=qD n3
 have HA:=qD h1
 have HB:=qD hb
 have HOQ:Hid (∀wr,Below w.heap.size w wr→Calls Tryz.prog 14 #[aggPr q,.slice q.path.A q.path.n q.path.c] wr (OfOk (Sq,true) 1 wr)):=qD fun wr hb=>by
  have h:=of_any q q.path.A q.path.n q.path.c [aP] wr (hwq.step hb) (hq.vpr ho') (hT.step hb) (by have:=(hwq.step hb).open.path;rwa [hq.xs] at this) (by rw[hq.sz];decide)
  rw[e2,hq.sz] at h
  exact h
 have HOP:Hid (∀wr,Below w.heap.size w wr→Calls Tryz.prog 14 #[aggPr p,.slice q.path.A q.path.n q.path.c] wr (OfOk (Sp,true) 1 wr)):=qD fun wr hb=>by
  have h:=of_any p q.path.A q.path.n q.path.c [aP] wr (hwp.step hb) (hp.vpr ho) (hT.step hb) (by have:=(hwq.step hb).open.path;rwa [hq.xs] at this) (by rw[hp.sz];decide)
  rw[e1,hp.sz] at h
  exact h
 have B0:Hid (Blk (w.alloc (.cells (arrPr q) 41)) w.heap.size 41 (arrPr q)):=Blk.new_at rfl
 have BE:=qD ((Below.refl w.heap.size w).alloc (qL) (Obj.cells (arrPr q) 41))
 have hq1:(op'==1)=false:=by rcases ho' with rfl|rfl<;>decide
 clear hT hsr hp hq ho ho' hne n1 n3 h1 hb e1 e2 hwp hwq
 go_enter Tryz.func103,Tryz.ntmps103
 go_upto_region 1 with fail
 change Code.wp _ _ _ _ (w.alloc (.cells (arrPr q) 41))
 generalize w.alloc (.cells (arrPr q) 41)=wa at*
 have d0:=(pr_cells B0.out).d0
 rw[HLQ.out.op_] at d0
 go_upto_region 4 with fail
 clear d0
 go_loopw [18] (fun v wr=>∃i:Nat,i≤1∧v=.int .i64 i∧Below wa.heap.size wa wr) (fun v _=>1-(intOf v).toNat)
 case atStart=>exact⟨0,by omega,rfl,Below.refl _ _⟩
 case round=>
  obtain⟨i,hi,rfl,hbel⟩:=hrel
  have I:=qD hbel
  clear hbel
  rcases Nat.eq_zero_or_pos i with h0|h0
  ·subst h0
   obtain⟨b5,off5,k,hA5,hkb,hx,hm,hrg⟩:=(HSR.out.step (BE.out.step' I.out)).row (i:=0) (by omega)
   obtain rfl:k=p:=by simpa using hx.symm
   have RG:=qD hrg
   subst hA5
   clear hx hm hrg hkb
   go_upto_region 6 with(first
    | ((with_reducible show wpList _ _ _ (⟨_,.load 41 _,_,_,_,_⟩::_) _ _);refine wpList_mid_w rfl 41 _ rfl b5 (off5+0*25) rfl _ _ RG.out Tryz.underlying41 rfl (by kernel_rfl) ?_)
    | ((with_reducible show wpList _ _ _ (⟨_,.store 41 _ _,_,_,_,_⟩::_) _ _);refine wpList_store_row rfl 41 _ _ rfl wr.heap.size (arrPr k) rfl rfl 41 _ (Blk.new_at rfl) (by kernel_rfl) rfl (arrPr_all _) ?_;refine wpl_name ?_;intro w4 hw4;have KB:Hid (Blk w4 wr.heap.size 41 (arrPr k)):=(by rw[Hid,hw4];exact blk_row (Blk.new_at rfl) _);have BW4:Hid (Below wr.heap.size wr w4):=(by rw[Hid,hw4];exact bel_row ((Below.refl _ _).alloc (qL) _) (qL) _);clear hw4))
   have C0:=qD (B0.out.step (I.out.step' BW4.out))
   have CE:=qD (I.out.step' BW4.out)
   generalize wr.heap.size=gk at*
   have R1:=qD (pr_full KB.out)
   have R2:=qD (pr_full C0.out)
   clear BW4 RG I
   go_wp2_with (first
    | ((with_reducible show wpList _ _ _ (⟨_,.load 41 _,_,_,_,_⟩::_) _ _);refine wpList_mid_w rfl 41 _ rfl gk 0 rfl _ _ R1.out Tryz.underlying41 rfl (by kernel_rfl) ?_)
    | ((with_reducible show wpList _ _ _ (⟨_,.load 41 _,_,_,_,_⟩::_) _ _);refine wpList_mid_w rfl 41 _ rfl w.heap.size 0 rfl _ _ R2.out Tryz.underlying41 rfl (by kernel_rfl) ?_)
    | (go_at_call 168;refine(bSame_any HLP.out HLQ.out HNE.out _).mono ?_;rintro e w5 ⟨rfl,hb5⟩;have DE:=qD (CE.out.step' hb5);clear hb5))
   go_roundw
   case rel=>exact⟨1,by omega,by go_num,DE.out⟩
   case measure=>simp[intOf]
  ·obtain rfl:i=1:=by omega
   have C0:=qD (B0.out.step I.out)
   have CE:=qD (BE.out.step' I.out)
   have d0:=(pr_cells C0.out).d0
   rw[HLQ.out.op_] at d0
   have d1:=(pr_cells C0.out).d1
   have R2:=qD (pr_full C0.out)
   clear I B0 BE
   go_upto_region 14 with(first
    | (go_at_call 169;refine(bOnPath_any HO2.out _).mono ?_;rintro e w5 ⟨rfl,rfl⟩)
    | ((with_reducible show wpList _ _ _ (⟨_,.load 41 _,_,_,_,_⟩::_) _ _);refine wpList_mid_w rfl 41 _ rfl w.heap.size 0 rfl _ _ R2.out Tryz.underlying41 rfl (by kernel_rfl) ?_)
    | (go_at_call 14;refine(HOQ.out _ CE.out).mono ?_;rintro e w6 ⟨A3,m3,c3,zs,nq,rfl,hyq,hnq,hmq,hsq,hb6,_⟩))
   have D0:=qD (C0.out.step hb6)
   have DE:=qD (CE.out.step' hb6)
   have HSQ:=qD hsq
   have HYQ:=qD hyq
   have HNQ:=qD hnq
   have HMQ:=qD hmq
   clear hyq hnq hmq hsq hb6 d0 d1 R2 C0 CE HOQ
   go_upto_region 15 with fail
   go_loopw [41] (fun v w7=>∃i:Nat,i≤1∧v=.int .i64 i∧Below w6.heap.size w6 w7∧(i=1→b=false)) (fun v _=>1-(intOf v).toNat)
   case atStart=>exact⟨0,by omega,rfl,Below.refl _ _,fun h=>by omega⟩
   case round=>
    obtain⟨i,hi,rfl,hbel,hbf⟩:=hrel
    have I:=qD hbel
    clear hbel
    rcases Nat.eq_zero_or_pos i with h0|h0
    ·subst h0
     clear hbf
     obtain⟨b5,off5,k,hA5,hkb,hx,hm,hrg⟩:=(HSR.out.step (DE.out.step' I.out)).row (i:=0) (by omega)
     obtain rfl:k=p:=by simpa using hx.symm
     have RG:=qD hrg
     subst hA5
     clear hx hm hrg hkb
     go_upto_region 17 with(first
      | ((with_reducible show wpList _ _ _ (⟨_,.load 41 _,_,_,_,_⟩::_) _ _);refine wpList_mid_w rfl 41 _ rfl b5 (off5+0*25) rfl _ _ RG.out Tryz.underlying41 rfl (by kernel_rfl) ?_)
      | ((with_reducible show wpList _ _ _ (⟨_,.store 41 _ _,_,_,_,_⟩::_) _ _);refine wpList_store_row rfl 41 _ _ rfl wr.heap.size (arrPr k) rfl rfl 41 _ (Blk.new_at rfl) (by kernel_rfl) rfl (arrPr_all _) ?_;refine wpl_name ?_;intro w4 hw4;have KB:Hid (Blk w4 wr.heap.size 41 (arrPr k)):=(by rw[Hid,hw4];exact blk_row (Blk.new_at rfl) _);have BW4:Hid (Below wr.heap.size wr w4):=(by rw[Hid,hw4];exact bel_row ((Below.refl _ _).alloc (qL) _) (qL) _);clear hw4))
     have E0:=qD (D0.out.step (I.out.step' BW4.out))
     have X1:=qD (I.out.step' BW4.out)
     have EE:=qD (DE.out.step' (I.out.step' BW4.out))
     have ESQ:=qD (HSQ.out.step (I.out.step' BW4.out))
     generalize wr.heap.size=gk at*
     have R1:=qD (pr_full KB.out)
     have d1:=(pr_cells E0.out).d1
     clear BW4 RG I HSQ D0 DE
     go_upto_region 18 with(first
      | ((with_reducible show wpList _ _ _ (⟨_,.load 41 _,_,_,_,_⟩::_) _ _);refine wpList_mid_w rfl 41 _ rfl gk 0 rfl _ _ R1.out Tryz.underlying41 rfl (by kernel_rfl) ?_)
      | (go_at_call 14;refine(HOP.out _ EE.out).mono ?_;rintro e w8 ⟨A4,m4,c4,ys,np',rfl,hyp,hnp,hmp,hsp,hb8,_⟩))
     have FE:=qD (EE.out.step' hb8)
     have X2:=qD (X1.out.step' hb8)
     have FSQ:=qD (ESQ.out.step hb8)
     have HSP:=qD hsp
     have HNN:=qD hnp
     have HYP:=qD hyp
     have HMP:=qD hmp
     clear hyp hnp hmp hsp hb8 R1 E0 EE ESQ d1 KB
     have HIA:=qD (isAll_any ys A4 m4 c4 w8 HSP.out HYP.out HNN.out)
     rw[HA.out] at HIA
     go_wp2_with fail
     refine HIA.out.mono ?_
     rintro e w9 ⟨rfl,hb9⟩
     have GE:=qD (FE.out.step' hb9)
     have X3:=qD (X2.out.step' hb9)
     have GSQ:=qD (FSQ.out.step hb9)
     have GSP:=qD (HSP.out.step hb9)
     clear hb9 HIA FE FSQ HSP
     have HME:=qD (meetN_any ys zs A4 A3 m4 c4 m3 c3 w9 (HT.out.step GE.out) GSP.out GSQ.out HYP.out HYQ.out HNN.out HNQ.out (Nat.le_trans HMP.out (by decide)) (Nat.le_trans HMQ.out (by decide)))
     go_wp2_with fail
     refine HME.out.mono ?_
     rintro e wB ⟨A5,m5,c5,xs,nm',rfl,hy5,hn5,hm5,hs5,hb5⟩
     have JE:=qD (GE.out.step' hb5)
     have X4:=qD (X3.out.step' hb5)
     have JSP:=qD (GSP.out.step hb5)
     have HSI:=qD (sameIvs_any xs ys A5 A4 m5 c5 m4 c4 wB hs5 JSP.out)
     have hval:sameIvs (xs.map ivP) (ys.map ivP)=b:=by
      rw[hy5,HYP.out,hn5.unique N3.out fun _ _=>Iff.rfl,HNN.out.unique N1.out fun _ _=>Iff.rfl,Bool.eq_iff_iff,sameIvs_iff (fun s hs=>(N3.out.1.ne s hs).2) (fun s hs=>(N1.out.1.ne s hs).2)]
      exact HB.out.symm
     rw[hval] at HSI
     clear hy5 hn5 hm5 hs5 hb5 HME GE GSQ GSP hval HYP HNN HMP
     go_wp2_with fail
     refine HSI.out.mono ?_
     rintro e wC ⟨rfl,hbC⟩
     have KE:=qD (JE.out.step' hbC)
     have X5:=qD (X4.out.step' hbC)
     clear hbC HSI JE JSP X1 X2 X3 X4
     cases b
     ·go_wp2_with fail
      go_roundw
      case rel=>exact⟨1,by omega,by go_num,X5.out,by simp⟩
      case measure=>simp[intOf]
     ·go_wp2_with fail
      go_ret
      exact⟨rfl,KE.out⟩
    ·obtain rfl:i=1:=by omega
     have hbf:=hbf rfl
     subst hbf
     go_wp2_with fail
     go_ret
     exact⟨rfl,DE.out.step' I.out⟩
theorem copy_st{op:Int}{w w':World}{e:Ending}(h:LfCopy op w e w'):∃(A:Option Addr) (c:Nat) (xA kA:Option Addr),e=.returned (aggPr (lfZ op A c xA kA))∧ST w' A 1 c [aP]∧Below w.heap.size w w':=by
 obtain⟨b,off,c,xA,kA,e,hc,hn,_,hb⟩:=h
 exact⟨_,c,xA,kA,e,st_cell hc hn,hb⟩
theorem lf_parts{op:Int}(ho:Two op)(A:Option Addr)(c:Nat)(xA kA:Option Addr):partsP (lfZ op A c xA kA)=[lfZ op A c xA kA]:=(lfZ_lf op A c xA kA).parts ho
theorem bImplied_any{op op':Int}(hh:(op=2∧op'=5)∨(op=5∧op'=2))(p q:PrT)(hp:Lf op p)(hq:Lf op' q)(A:Option Addr)(c:Nat)(w:World)(hT:Tabs w)(hsr:SR 25 recPr w A 1 c [p])(hwp:WP w p)(hwq:WP w q):
 Calls Tryz.prog 103 #[.slice A 1 c,aggPr q] w fun e w'=>e=.returned (.bool (decide (op=2)))∧Below w.heap.size w w':=by
 rcases hh with⟨rfl,rfl⟩|⟨rfl,rfl⟩
 ·exact bImplied_gen (.inl rfl) (.inr rfl) (by decide) hp hq hp.of2 hq.of5 nf_pt meet_pt (nf_notAll nf_pt pt_ne_all) _ (by simp) A c w hT hsr hwp hwq
 ·exact bImplied_gen (.inr rfl) (.inl rfl) (by decide) hp hq hp.of5 hq.of2 nf_up meet_pt' (nf_notAll nf_up up_ne_all) _ ⟨fun h=>absurd h (by decide),fun h=>absurd h pt_ne_up⟩ A c w hT hsr hwp hwq
theorem bImplies_any{op op':Int}(hh:(op=2∧op'=5)∨(op=5∧op'=2))(A B:Option Addr)(c d:Nat)(w:World)(hT:Tabs w)(hN:NmT w)(hl:ST w A 1 c [aP])(hl':ST w B 1 d [aP]):
 Calls Tryz.prog 43 #[aggPr (lfZ op A c none none),aggPr (lfZ op' B d none none)] w fun e w'=>e=.returned (.bool (decide (op=2)))∧Below w.heap.size w w':=by
 have ho:Two op:=by rcases hh with⟨rfl,_⟩|⟨rfl,_⟩;exact .inl rfl;exact .inr rfl
 have ho':Two op':=by rcases hh with⟨_,rfl⟩|⟨_,rfl⟩;exact .inr rfl;exact .inl rfl
 have HT:=qD hT
 have HN:=qD hN
 have HL:=qD hl
 have HL':=qD hl'
 have HO:=qD ho
 have HO':=qD ho'
 have HH:=qD hh
 have B0:Hid (Blk ((w.alloc (.cells (arrPr (lfZ op A c none none)) 41)).alloc (.cells (arrPr (lfZ op' B d none none)) 41)) w.heap.size 41 (arrPr (lfZ op A c none none))):=(Blk.new_at rfl).alloc _
 have B1:Hid (Blk ((w.alloc (.cells (arrPr (lfZ op A c none none)) 41)).alloc (.cells (arrPr (lfZ op' B d none none)) 41)) (w.heap.size+1) 41 (arrPr (lfZ op' B d none none))):=Blk.new_at (by simp)
 have BE:Hid (Below w.heap.size w ((w.alloc (.cells (arrPr (lfZ op A c none none)) 41)).alloc (.cells (arrPr (lfZ op' B d none none)) 41))):=((Below.refl _ _).alloc (qL) _).alloc (by simp) _
 obtain⟨rb,hrb⟩:∃b,b=decide (op=2):=⟨_,rfl⟩
 rw[←hrb]
 have HRB:=qD hrb
 clear hT hN hl hl' ho ho' hh hrb
 go_enter Tryz.func43,Tryz.ntmps43
 go_upto_region 1 with fail
 change Code.wp _ _ _ _ ((w.alloc (.cells (arrPr (lfZ op A c none none)) 41)).alloc (.cells (arrPr (lfZ op' B d none none)) 41))
 generalize (w.alloc (.cells (arrPr (lfZ op A c none none)) 41)).alloc (.cells (arrPr (lfZ op' B d none none)) 41)=wa at*
 have R0:=qD (pr_full B0.out)
 go_wp2_with ((with_reducible show wpList _ _ _ (⟨_,.load 41 _,_,_,_,_⟩::_) _ _);refine wpList_mid_w rfl 41 _ rfl w.heap.size 0 rfl _ _ R0.out Tryz.underlying41 rfl (by kernel_rfl) ?_)
 refine(bBuild_any (lfZ_lf op A c none none) HO.out _).mono ?_
 rintro e w1 ⟨rfl,hb⟩
 have C0:=qD (B0.out.step hb)
 have C1:=qD (B1.out.step hb)
 have CE:=qD (BE.out.step' hb)
 clear hb R0 B0 B1 BE
 have R1:=qD (pr_full C1.out)
 go_wp2_with ((with_reducible show wpList _ _ _ (⟨_,.load 41 _,_,_,_,_⟩::_) _ _);refine wpList_mid_w rfl 41 _ rfl (w.heap.size+1) 0 rfl _ _ R1.out Tryz.underlying41 rfl (by kernel_rfl) ?_)
 refine(bBuild_any (lfZ_lf op' B d none none) HO'.out _).mono ?_
 rintro e w2 ⟨rfl,hb⟩
 have B0:=qD (C0.out.step hb)
 have B1:=qD (C1.out.step hb)
 have BE:=qD (CE.out.step' hb)
 clear hb R1 C0 C1 CE
 have R0:=qD (pr_full B0.out)
 go_wp2_with ((with_reducible show wpList _ _ _ (⟨_,.load 41 _,_,_,_,_⟩::_) _ _);refine wpList_mid_w rfl 41 _ rfl w.heap.size 0 rfl _ _ R0.out Tryz.underlying41 rfl (by kernel_rfl) ?_)
 refine(pNormal_any HO.out A c _ (HT.out.step BE.out) (HN.out.step BE.out) (HL.out.step BE.out)).mono ?_
 rintro e w3 hcp
 obtain⟨A3,c3,xA,kA,rfl,hst,hb⟩:=copy_st hcp
 have C1:=qD (B1.out.step hb)
 have CE:=qD (BE.out.step' hb)
 have HS3:=qD hst
 clear hb hst hcp R0 B0 B1 BE
 go_wp2_with fail
 refine(parts_any (lfZ op A3 c3 xA kA) w3 (lfZ_wp HS3.out)).mono ?_
 rintro e w4 ⟨PA,pn,pc,rfl,hsr,_,hb⟩
 rw[lf_parts HO.out] at hsr
 obtain rfl:pn=1:=hsr.ln
 have D1:=qD (C1.out.step hb)
 have DE:=qD (CE.out.step' hb)
 have HS4:=qD (HS3.out.step hb)
 have HP4:=qD hsr
 clear hb hsr C1 CE HS3
 have R1:=qD (pr_full D1.out)
 go_wp2_with ((with_reducible show wpList _ _ _ (⟨_,.load 41 _,_,_,_,_⟩::_) _ _);refine wpList_mid_w rfl 41 _ rfl (w.heap.size+1) 0 rfl _ _ R1.out Tryz.underlying41 rfl (by kernel_rfl) ?_)
 refine(pNormal_any HO'.out B d _ (HT.out.step DE.out) (HN.out.step DE.out) (HL'.out.step DE.out)).mono ?_
 rintro e w5 hcp
 obtain⟨A5,c5,yA,lA,rfl,hst,hb⟩:=copy_st hcp
 have CE:=qD (DE.out.step' hb)
 have HS5:=qD (HS4.out.step hb)
 have HP5:=qD (HP4.out.step hb)
 have HQ5:=qD hst
 clear hb hst hcp R1 D1 DE HS4 HP4
 go_wp2_with fail
 refine(parts_any (lfZ op' A5 c5 yA lA) w5 (lfZ_wp HQ5.out)).mono ?_
 rintro e w6 ⟨QA,qn,qc,rfl,hsr,_,hb⟩
 rw[lf_parts HO'.out] at hsr
 obtain rfl:qn=1:=hsr.ln
 have DE:=qD (CE.out.step' hb)
 have HS6:=qD (HS5.out.step hb)
 have HP6:=qD (HP5.out.step hb)
 have HQ6:=qD (HQ5.out.step hb)
 have HR6:=qD hsr
 clear hb hsr CE HS5 HP5 HQ5
 go_upto_region 5 with fail
 go_loopw [23] (fun v wr=>∃i:Nat,i≤1∧v=.int .i64 i∧Below w6.heap.size w6 wr∧(i=1→rb=true)) (fun v _=>1-(intOf v).toNat)
 case atStart=>exact⟨0,by omega,rfl,Below.refl _ _,fun h=>by omega⟩
 case round=>
  obtain⟨i,hi,rfl,hbel,hbf⟩:=hrel
  have I:=qD hbel
  clear hbel
  rcases Nat.eq_zero_or_pos i with h0|h0
  ·subst h0
   clear hbf
   obtain⟨b5,off5,k,hA5,hkb,hx,hm,hrg⟩:=(HR6.out.step I.out).row (i:=0) (by omega)
   obtain rfl:k=lfZ op' A5 c5 yA lA:=by simpa using hx.symm
   have RG:=qD hrg
   subst hA5
   clear hx hm hrg hkb
   go_upto_region 7 with(first
    | ((with_reducible show wpList _ _ _ (⟨_,.load 41 _,_,_,_,_⟩::_) _ _);refine wpList_mid_w rfl 41 _ rfl b5 (off5+0*25) rfl _ _ RG.out Tryz.underlying41 rfl (by kernel_rfl) ?_)
    | ((with_reducible show wpList _ _ _ (⟨_,.store 41 _ _,_,_,_,_⟩::_) _ _);refine wpList_store_row rfl 41 _ _ rfl wr.heap.size (arrPr (lfZ op' A5 c5 yA lA)) rfl rfl 41 _ (Blk.new_at rfl) (by kernel_rfl) rfl (arrPr_all _) ?_;refine wpl_name ?_;intro w7 hw4;have KB:Hid (Blk w7 wr.heap.size 41 (arrPr (lfZ op' A5 c5 yA lA))):=(by rw[Hid,hw4];exact blk_row (Blk.new_at rfl) _);have BW4:Hid (Below wr.heap.size wr w7):=(by rw[Hid,hw4];exact bel_row ((Below.refl _ _).alloc (qL) _) (qL) _);clear hw4))
   have X1:=qD (I.out.step' BW4.out)
   generalize wr.heap.size=gk at*
   have R1:=qD (pr_full KB.out)
   clear BW4 RG I
   have HIM:=qD (bImplied_any HH.out (lfZ op A3 c3 xA kA) (lfZ op' A5 c5 yA lA) (lfZ_lf _ _ _ _ _) (lfZ_lf _ _ _ _ _) PA pc w7 (HT.out.step (DE.out.step' X1.out)) (HP6.out.step X1.out) (lfZ_wp (HS6.out.step X1.out)) (lfZ_wp (HQ6.out.step X1.out)))
   rw[←HRB.out] at HIM
   go_wp2_with ((with_reducible show wpList _ _ _ (⟨_,.load 41 _,_,_,_,_⟩::_) _ _);refine wpList_mid_w rfl 41 _ rfl gk 0 rfl _ _ R1.out Tryz.underlying41 rfl (by kernel_rfl) ?_)
   refine HIM.out.mono ?_
   rintro e w8 ⟨rfl,hb⟩
   have X2:=qD (X1.out.step' hb)
   clear hb HIM R1 KB X1
   cases rb
   ·go_wp2_with fail
    go_ret
    exact⟨rfl,DE.out.step' X2.out⟩
   ·go_wp2_with fail
    go_roundw
    case rel=>exact⟨1,by omega,by go_num,X2.out,by simp⟩
    case measure=>simp[intOf]
  ·obtain rfl:i=1:=by omega
   have hbf:=hbf rfl
   subst hbf
   go_wp2_with fail
   go_ret
   exact⟨rfl,DE.out.step' I.out⟩
def SameEq(x:Val):Prop:=∀(c d:VC) (w:World),RW w c x→RW w d x→Calls Tryz.prog 42 #[c.val,d.val] w fun e w'=>e=.returned (.bool true)∧Below w.heap.size w w'
theorem samelist03_of(L:List Val)(ih:∀x∈L,SameEq x)(ps qs:List PV)(A B:Option Addr)(n c m d:Nat)(w:World)(h:SL (fun _=>True) w A n c ps)(h':SL (fun _=>True) w B m d qs)(hp:ps.map Prod.snd=L)(hq:qs.map Prod.snd=L):
 Calls Tryz.prog 100 #[.slice A n c,.slice B m d] w fun e w'=>e=.returned (.bool true)∧Below w.heap.size w w':=by
 have hn1:n=L.length:=by rw[←hp,List.length_map];exact h.sr.ln
 have hn2:m=L.length:=by rw[←hq,List.length_map];exact h'.sr.ln
 obtain rfl:m=n:=by omega
 have hz:=h.sz
 unfold reach at hz
 have hz2:(m:Int)≤140737488355328:=by omega
 have P1:=qD h
 have P2:=qD h'
 have HS1:=qD hp
 have HS2:=qD hq
 have HN1:=qD hn1
 have IH:=qD ih
 have mm:((m:Int) != (m:Int))=false:=by simp
 clear h h' hp hq hn1 hn2 ih hz
 go_enter Tryz.func100,Tryz.ntmps100
 go_wp2_with fail
 go_loopw [13] (fun v13 wr=>∃i:Nat,i≤m∧v13=.int .i64 i∧Below w.heap.size w wr) (fun v13 _=>m-(intOf v13).toNat)
 case atStart=>exact⟨0,Nat.zero_le _,rfl,Below.refl _ _⟩
 case round=>
  obtain⟨i,hi1,rfl,hbel⟩:=hrel
  have HB:=qD hbel
  by_cases hlt:i<m
  ·obtain⟨p,hp⟩:∃p,ps[i]?=some p:=⟨_,List.getElem?_eq_getElem (by have:=P1.out.sr.ln;omega)⟩
   obtain⟨q,hq⟩:∃q,qs[i]?=some q:=⟨_,List.getElem?_eq_getElem (by have:=P2.out.sr.ln;omega)⟩
   obtain⟨b1,o1,hA1,_,hu1,hr1⟩:=P1.out.vat hp
   obtain⟨b2,o2,hA2,_,hu2,hr2⟩:=P2.out.vat hq
   subst hA1 hA2
   have g1:L[i]?=some p.2:=by rw[←HS1.out,List.getElem?_map,hp];rfl
   have g2:L[i]?=some q.2:=by rw[←HS2.out,List.getElem?_map,hq];rfl
   have hpq:q.2=p.2:=by rw[g1] at g2;exact(Option.some.inj g2).symm
   rw[hpq] at hr2
   obtain⟨y0,y1,y2,y3,y4⟩:=hu1.keep (hbel.block b1 hu1.lt)
   obtain⟨z0,z1,z2,z3,z4⟩:=hu2.keep (hbel.block b2 hu2.lt)
   have Y0:∀kk:BW wr,kk.val.cell? ⟨b1,o1+i*5,none⟩=some (.int .i64 p.1.k):=fun kk=>kk.cell y0
   have Y1:∀kk:BW wr,kk.val.cell? ⟨b1,o1+i*5+1,none⟩=some (.int .i64 p.1.n):=fun kk=>kk.cell y1
   have Y2:∀kk:BW wr,kk.val.cell? ⟨b1,o1+i*5+2,none⟩=some (.string p.1.t):=fun kk=>kk.cell y2
   have Y3:∀kk:BW wr,kk.val.cell? ⟨b1,o1+i*5+3,none⟩=some (.slice p.1.LA p.1.ln p.1.lc):=fun kk=>kk.cell y3
   have Y4:∀kk:BW wr,kk.val.cell? ⟨b1,o1+i*5+4,none⟩=some (.slice p.1.DA p.1.dn p.1.dc):=fun kk=>kk.cell y4
   have Z0:∀kk:BW wr,kk.val.cell? ⟨b2,o2+i*5,none⟩=some (.int .i64 q.1.k):=fun kk=>kk.cell z0
   have Z1:∀kk:BW wr,kk.val.cell? ⟨b2,o2+i*5+1,none⟩=some (.int .i64 q.1.n):=fun kk=>kk.cell z1
   have Z2:∀kk:BW wr,kk.val.cell? ⟨b2,o2+i*5+2,none⟩=some (.string q.1.t):=fun kk=>kk.cell z2
   have Z3:∀kk:BW wr,kk.val.cell? ⟨b2,o2+i*5+3,none⟩=some (.slice q.1.LA q.1.ln q.1.lc):=fun kk=>kk.cell z3
   have Z4:∀kk:BW wr,kk.val.cell? ⟨b2,o2+i*5+4,none⟩=some (.slice q.1.DA q.1.dn q.1.dc):=fun kk=>kk.cell z4
   have K0:Hid (∀kk:BW wr,Calls Tryz.prog 42 #[p.1.val,q.1.val] kk.val fun e w''=>e=.returned (.bool true)∧∃kk:BW wr,w''=kk.val):=fun kk=>
    Calls.bw (IH.out p.2 (List.mem_of_getElem? g1) p.1 q.1 kk.val ((hr1.step hbel).step kk.below) ((hr2.step hbel).step kk.below))
   have hi0:(0:Int)≤(i:Int):=by omega
   have hi3:(i:Int)<(m:Int):=by omega
   clear hp hq hu1 hu2 hr1 hr2 g1 g2 hpq hbel y0 y1 y2 y3 y4 z0 z1 z2 z3 z4
   go_upto_region 6 with fail
   refine wp_region_bw (by kernel_rfl) (by kernel_rfl) ?_
   repeat(go_big_quiet_step (with_reducible exact K0.out _))
   refine wpQuiet_nil ?_
   rintro _ ⟨kw,rfl⟩
   have HB2:=qD (HB.out.step' kw.below)
   clear Y0 Y1 Y2 Y3 Y4 Z0 Z1 Z2 Z3 Z4 K0
   generalize kw.val=w2 at*
   go_wp2_with fail
   go_roundw
   case rel=>exact⟨i+1,by omega,by go_num,HB2.out⟩
   case measure=>simp[intOf];omega
  ·obtain rfl:i=m:=by omega
   clear hbel
   go_wp2_with fail
   go_ret
   exact⟨rfl,HB.out⟩
structure SmI(w:World)(c d:VC)(wr:World):Prop where
 b0:Blk wr w.heap.size 32 c.arr
 b1:Blk wr (w.heap.size+1) 32 d.arr
 bel:Below w.heap.size w wr
theorem SmI.step{w wr w':World}{c d:VC}(h:SmI w c d wr)(hb:Below wr.heap.size wr w'):SmI w c d w':=⟨h.b0.step hb,h.b1.step hb,h.bel.step' hb⟩
theorem same03_any:∀x,SameEq x:=by
 intro x
 induction x using Val.ind with
 | h k n t l d ihl ihd=>
 intro c e w hx hy
 obtain⟨ck,cn,ct,cLA,cln,clc,cDA,cdn,cdc⟩:=c
 obtain⟨ek,en,et,eLA,eln,elc,eDA,edn,edc⟩:=e
 have hk:ck=k:=hx.open.k
 have hn:cn=n:=hx.open.n
 have ht:ct=t:=hx.open.t
 subst hk hn ht
 have hk2:ek=ck:=hy.open.k
 have hn2:en=cn:=hy.open.n
 have ht2:et=ct:=hy.open.t
 subst hk2 hn2 ht2
 have hd1:cdn=d.length:=hx.open.dn
 have hd2:edn=d.length:=hy.open.dn
 obtain rfl:edn=cdn:=by omega
 have I0:Hid (SmI w ⟨ek,en,et,cLA,cln,clc,cDA,edn,cdc⟩ ⟨ek,en,et,eLA,eln,elc,eDA,edn,edc⟩ ((w.alloc (.cells #[.int .i64 ek,.int .i64 en,.string et,.slice cLA cln clc,.slice cDA edn cdc] 32)).alloc (.cells #[.int .i64 ek,.int .i64 en,.string et,.slice eLA eln elc,.slice eDA edn edc] 32))):=
  qD ⟨(Blk.new_at rfl).alloc _,Blk.new_at (by simp),((Below.refl _ _).alloc (qL) _).alloc (by simp) _⟩
 obtain⟨ps,hps,hsl⟩:=hx.sl
 obtain⟨qs,hqs,hql⟩:=hy.sl
 obtain⟨fs,hfs,hfl⟩:=hx.sd
 obtain⟨gs,hgs,hgl⟩:=hy.sd
 simp only at hsl hql hfl hgl
 have hz2:=hfl.sz
 unfold reach at hz2
 have hz3:(edn:Int)≤140737488355328:=by omega
 have hps':ps.map Prod.snd=l:=hps
 have hqs':qs.map Prod.snd=l:=hqs
 have HLI:=qD fun(wr:World) (hb:Below w.heap.size w wr)=>samelist03_of l ihl ps qs cLA eLA cln clc eln elc wr (hsl.step hb) (hql.step hb) hps' hqs'
 have Q1:=qD hfl
 have Q2:=qD hgl
 have HT1:Hid (fs.map Prod.snd=d):=hfs
 have HT2:Hid (gs.map Prod.snd=d):=hgs
 have ID:=qD ihd
 have a1:(ek != ek)=false:=by simp
 have a2:(en != en)=false:=by simp
 have a3:(et.toList==et.toList)=true:=by simp
 have a4:((edn:Int) != (edn:Int))=false:=by simp
 clear hx hy ihl ihd hsl hql hps hqs hps' hqs' hfl hgl hfs hgs hd1 hd2 hz2
 go_enter Tryz.func42,Tryz.ntmps42
 go_wp2_with fail
 go_loopw [37] (fun v wr=>∃i:Nat,i≤edn∧v=.int .i64 i∧SmI w ⟨ek,en,et,cLA,cln,clc,cDA,edn,cdc⟩ ⟨ek,en,et,eLA,eln,elc,eDA,edn,edc⟩ wr) (fun v _=>edn-(intOf v).toNat)
 case atStart=>exact⟨0,Nat.zero_le _,rfl,I0.out⟩
 case round=>
  obtain⟨i,hi1,rfl,I⟩:=hrel
  have J:=qD I
  by_cases hlt:i<edn
  ·obtain⟨p,hp⟩:∃p,fs[i]?=some p:=⟨_,List.getElem?_eq_getElem (by have:=Q1.out.sr.ln;omega)⟩
   obtain⟨q,hq⟩:∃q,gs[i]?=some q:=⟨_,List.getElem?_eq_getElem (by have:=Q2.out.sr.ln;omega)⟩
   obtain⟨b1,o1,hA1,_,hs1,hu1,hr1⟩:=Q1.out.vat hp
   obtain⟨b2,o2,hA2,_,hs2,hu2,hr2⟩:=Q2.out.vat hq
   subst hA1 hA2
   have g1:d[i]?=some p.2:=by rw[←HT1.out,List.getElem?_map,hp];rfl
   have g2:d[i]?=some q.2:=by rw[←HT2.out,List.getElem?_map,hq];rfl
   have hpq:q.2=p.2:=by rw[g1] at g2;exact(Option.some.inj g2).symm
   rw[hpq] at hr2 hs2
   obtain⟨y0,y1,y2,y3,y4⟩:=hu1.keep (I.bel.block b1 hu1.lt)
   obtain⟨z0,z1,z2,z3,z4⟩:=hu2.keep (I.bel.block b2 hu2.lt)
   have n0:=(I.bel.cell (p:=⟨b1,o1+i*6,none⟩) hu1.lt).trans hs1
   have n1:=(I.bel.cell (p:=⟨b2,o2+i*6,none⟩) hu2.lt).trans hs2
   have N0:∀kk:BW wr,kk.val.cell? ⟨b1,o1+i*6,none⟩=some (.string p.2.s):=fun kk=>kk.cell n0
   have N1:∀kk:BW wr,kk.val.cell? ⟨b2,o2+i*6,none⟩=some (.string p.2.s):=fun kk=>kk.cell n1
   have E0:∀kk:BW wr,kk.val.cell? ⟨w.heap.size,4,none⟩=some (.slice (some ⟨b1,o1,none⟩) edn cdc):=fun kk=>kk.cell (J.out.b0.cell 4)
   have E1:∀kk:BW wr,kk.val.cell? ⟨w.heap.size+1,4,none⟩=some (.slice (some ⟨b2,o2,none⟩) edn edc):=fun kk=>kk.cell (J.out.b1.cell 4)
   have Y0:∀kk:BW wr,kk.val.cell? ⟨b1,o1+i*6+1,none⟩=some (.int .i64 p.1.k):=fun kk=>kk.cell y0
   have Y1:∀kk:BW wr,kk.val.cell? ⟨b1,o1+i*6+1+1,none⟩=some (.int .i64 p.1.n):=fun kk=>kk.cell y1
   have Y2:∀kk:BW wr,kk.val.cell? ⟨b1,o1+i*6+1+2,none⟩=some (.string p.1.t):=fun kk=>kk.cell y2
   have Y3:∀kk:BW wr,kk.val.cell? ⟨b1,o1+i*6+1+3,none⟩=some (.slice p.1.LA p.1.ln p.1.lc):=fun kk=>kk.cell y3
   have Y4:∀kk:BW wr,kk.val.cell? ⟨b1,o1+i*6+1+4,none⟩=some (.slice p.1.DA p.1.dn p.1.dc):=fun kk=>kk.cell y4
   have Z0:∀kk:BW wr,kk.val.cell? ⟨b2,o2+i*6+1,none⟩=some (.int .i64 q.1.k):=fun kk=>kk.cell z0
   have Z1:∀kk:BW wr,kk.val.cell? ⟨b2,o2+i*6+1+1,none⟩=some (.int .i64 q.1.n):=fun kk=>kk.cell z1
   have Z2:∀kk:BW wr,kk.val.cell? ⟨b2,o2+i*6+1+2,none⟩=some (.string q.1.t):=fun kk=>kk.cell z2
   have Z3:∀kk:BW wr,kk.val.cell? ⟨b2,o2+i*6+1+3,none⟩=some (.slice q.1.LA q.1.ln q.1.lc):=fun kk=>kk.cell z3
   have Z4:∀kk:BW wr,kk.val.cell? ⟨b2,o2+i*6+1+4,none⟩=some (.slice q.1.DA q.1.dn q.1.dc):=fun kk=>kk.cell z4
   have K0:Hid (∀kk:BW wr,Calls Tryz.prog 42 #[p.1.val,q.1.val] kk.val fun e w''=>e=.returned (.bool true)∧∃kk:BW wr,w''=kk.val):=fun kk=>
    Calls.bw (ID.out p.2 (List.mem_of_getElem? g1) p.1 q.1 kk.val ((hr1.step I.bel).step kk.below) ((hr2.step I.bel).step kk.below))
   have hi0:(0:Int)≤(i:Int):=by omega
   have hi3:(i:Int)<(edn:Int):=by omega
   have nn:(p.2.s.toList==p.2.s.toList)=true:=by simp
   clear hp hq hu1 hu2 hr1 hr2 g1 g2 hpq I hs1 hs2 n0 n1 y0 y1 y2 y3 y4 z0 z1 z2 z3 z4
   go_upto_region 6 with fail
   refine wp_region_bw (by kernel_rfl) (by kernel_rfl) ?_
   repeat(go_big_quiet_step (with_reducible exact K0.out _))
   refine wpQuiet_nil ?_
   rintro _ ⟨kw,rfl⟩
   have J2:=qD (J.out.step kw.below)
   clear E0 E1 N0 N1 Y0 Y1 Y2 Y3 Y4 Z0 Z1 Z2 Z3 Z4 K0
   generalize kw.val=w2 at*
   go_wp2_with fail
   go_roundw
   case rel=>exact⟨i+1,by omega,by go_num,J2.out⟩
   case measure=>simp[intOf];omega
  ·obtain rfl:i=edn:=by omega
   have q0:=I.b0.cell 3
   have q1:=I.b1.cell 3
   have r0:=I.b0.cell 4
   simp at q0 q1 r0
   clear I
   go_wp2_with fail
   refine(HLI.out _ J.out.bel).mono ?_
   rintro e w5 ⟨rfl,hb⟩
   have CE:=qD (J.out.bel.step' hb)
   clear hb q0 q1 r0
   go_wp2_with fail
   go_ret
   exact⟨rfl,CE.out⟩
theorem sameIs25_any(ys zs:List PI)(A B:Option Addr)(n m c d:Nat)(w:World)(h:SI w A n c ys)(h':SI w B m d zs)(heq:ys.map ivP=zs.map ivP):
 Calls Tryz.prog 16 #[.slice A n c,.slice B m d] w fun e w'=>e=.returned (.bool true)∧Below w.heap.size w w':=by
 have hl:n=m:=by have h1:=h.sr.ln;have h2:=h'.sr.ln;have h3:=congrArg List.length heq;simp only[List.length_map] at h3;omega
 subst hl
 have H:=qD h
 have H':=qD h'
 have HE:=qD heq
 have HL:=qD h.sr.ln
 have HL':=qD h'.sr.ln
 have hz:=h.sz
 unfold reach at hz
 clear h h' heq
 have hnn:((n:Int) != (n:Int))=false:=by simp
 go_enter Tryz.func16,Tryz.ntmps16
 go_wp2_with fail
 go_loopw [13] (fun v5 wr=>∃i:Nat,i≤n∧v5=.int .i64 i∧Below w.heap.size w wr) (fun v5 _=>n-(intOf v5).toNat)
 case atStart=>exact⟨0,Nat.zero_le _,rfl,Below.refl _ _⟩
 case round=>
  obtain⟨i,hi,rfl,I⟩:=hrel
  have J:=qD I
  by_cases hlt:i<n
  ·obtain⟨p,hp⟩:∃p,ys[i]?=some p:=⟨_,List.getElem?_eq_getElem (by have:=HL.out;omega)⟩
   obtain⟨q,hq⟩:∃q,zs[i]?=some q:=⟨_,List.getElem?_eq_getElem (by have:=HL'.out;omega)⟩
   have hpq:ivP p=ivP q:=by
    have h1:(ys.map ivP)[i]?=some (ivP p):=by rw[List.getElem?_map,hp];rfl
    have h2:(zs.map ivP)[i]?=some (ivP q):=by rw[List.getElem?_map,hq];rfl
    rw[HE.out,h2] at h1
    exact(Option.some.inj h1).symm
   have e1:q.1.1.2=p.1.1.2:=(congrArg Iv.lo hpq).symm
   have e2:q.1.2.2=p.1.2.2:=(congrArg Iv.hi hpq).symm
   have e3:q.2.1=p.2.1:=(congrArg Iv.li hpq).symm
   have e4:q.2.2=p.2.2:=(congrArg Iv.hin hpq).symm
   obtain⟨b,off,rfl,hbl,hat,hok⟩:=H.out.at hp
   obtain⟨b',off',rfl,hbl',hat',hok'⟩:=H'.out.at hq
   obtain⟨⟨p0,p1,p2,p3,p4⟩,⟨q0,q1,q2,q3,q4⟩,r0,r1⟩:=hat.keep (I.block b hbl)
   obtain⟨⟨s0,s1,s2,s3,s4⟩,⟨t0,t1,t2,t3,t4⟩,x0,x1⟩:=hat'.keep (I.block b' hbl')
   rw[e3] at x0
   rw[e4] at x1
   have P0:∀k:BW wr,k.val.cell? ⟨b,off+i*12,none⟩=some (.int .i64 p.1.1.1.k):=fun k=>k.cell p0
   have P1:∀k:BW wr,k.val.cell? ⟨b,off+i*12+1,none⟩=some (.int .i64 p.1.1.1.n):=fun k=>k.cell p1
   have P2:∀k:BW wr,k.val.cell? ⟨b,off+i*12+2,none⟩=some (.string p.1.1.1.t):=fun k=>k.cell p2
   have P3:∀k:BW wr,k.val.cell? ⟨b,off+i*12+3,none⟩=some (.slice p.1.1.1.LA p.1.1.1.ln p.1.1.1.lc):=fun k=>k.cell p3
   have P4:∀k:BW wr,k.val.cell? ⟨b,off+i*12+4,none⟩=some (.slice p.1.1.1.DA p.1.1.1.dn p.1.1.1.dc):=fun k=>k.cell p4
   have Q0:∀k:BW wr,k.val.cell? ⟨b,off+i*12+5,none⟩=some (.int .i64 p.1.2.1.k):=fun k=>k.cell q0
   have Q1:∀k:BW wr,k.val.cell? ⟨b,off+i*12+5+1,none⟩=some (.int .i64 p.1.2.1.n):=fun k=>k.cell q1
   have Q2:∀k:BW wr,k.val.cell? ⟨b,off+i*12+5+2,none⟩=some (.string p.1.2.1.t):=fun k=>k.cell q2
   have Q3:∀k:BW wr,k.val.cell? ⟨b,off+i*12+5+3,none⟩=some (.slice p.1.2.1.LA p.1.2.1.ln p.1.2.1.lc):=fun k=>k.cell q3
   have Q4:∀k:BW wr,k.val.cell? ⟨b,off+i*12+5+4,none⟩=some (.slice p.1.2.1.DA p.1.2.1.dn p.1.2.1.dc):=fun k=>k.cell q4
   have S0:∀k:BW wr,k.val.cell? ⟨b',off'+i*12,none⟩=some (.int .i64 q.1.1.1.k):=fun k=>k.cell s0
   have S1:∀k:BW wr,k.val.cell? ⟨b',off'+i*12+1,none⟩=some (.int .i64 q.1.1.1.n):=fun k=>k.cell s1
   have S2:∀k:BW wr,k.val.cell? ⟨b',off'+i*12+2,none⟩=some (.string q.1.1.1.t):=fun k=>k.cell s2
   have S3:∀k:BW wr,k.val.cell? ⟨b',off'+i*12+3,none⟩=some (.slice q.1.1.1.LA q.1.1.1.ln q.1.1.1.lc):=fun k=>k.cell s3
   have S4:∀k:BW wr,k.val.cell? ⟨b',off'+i*12+4,none⟩=some (.slice q.1.1.1.DA q.1.1.1.dn q.1.1.1.dc):=fun k=>k.cell s4
   have T0:∀k:BW wr,k.val.cell? ⟨b',off'+i*12+5,none⟩=some (.int .i64 q.1.2.1.k):=fun k=>k.cell t0
   have T1:∀k:BW wr,k.val.cell? ⟨b',off'+i*12+5+1,none⟩=some (.int .i64 q.1.2.1.n):=fun k=>k.cell t1
   have T2:∀k:BW wr,k.val.cell? ⟨b',off'+i*12+5+2,none⟩=some (.string q.1.2.1.t):=fun k=>k.cell t2
   have T3:∀k:BW wr,k.val.cell? ⟨b',off'+i*12+5+3,none⟩=some (.slice q.1.2.1.LA q.1.2.1.ln q.1.2.1.lc):=fun k=>k.cell t3
   have T4:∀k:BW wr,k.val.cell? ⟨b',off'+i*12+5+4,none⟩=some (.slice q.1.2.1.DA q.1.2.1.dn q.1.2.1.dc):=fun k=>k.cell t4
   have R0:∀k:BW wr,k.val.cell? ⟨b,off+i*12+10,none⟩=some (.bool p.2.1):=fun k=>k.cell r0
   have R1:∀k:BW wr,k.val.cell? ⟨b,off+i*12+11,none⟩=some (.bool p.2.2):=fun k=>k.cell r1
   have X0:∀k:BW wr,k.val.cell? ⟨b',off'+i*12+10,none⟩=some (.bool p.2.1):=fun k=>k.cell x0
   have X1:∀k:BW wr,k.val.cell? ⟨b',off'+i*12+11,none⟩=some (.bool p.2.2):=fun k=>k.cell x1
   have i0:(0:Int)≤(i:Int):=by omega
   have i1:(i:Int)<(n:Int):=by omega
   have b1:(p.2.1 != p.2.1)=false:=by simp
   have b2:(p.2.2 != p.2.2)=false:=by simp
   have K1:Hid (∀k:BW wr,Calls Tryz.prog 42 #[p.1.1.1.val,q.1.1.1.val] k.val fun e w''=>e=.returned (.bool true)∧∃k:BW wr,w''=k.val):=fun k=>
    Calls.bw (same03_any p.1.1.2 p.1.1.1 q.1.1.1 k.val ((hok.step I).1.step k.below) (by rw[←e1];exact(hok'.step I).1.step k.below))
   have K2:Hid (∀k:BW wr,Calls Tryz.prog 42 #[p.1.2.1.val,q.1.2.1.val] k.val fun e w''=>e=.returned (.bool true)∧∃k:BW wr,w''=k.val):=fun k=>
    Calls.bw (same03_any p.1.2.2 p.1.2.1 q.1.2.1 k.val ((hok.step I).2.step k.below) (by rw[←e2];exact(hok'.step I).2.step k.below))
   clear p0 p1 p2 p3 p4 q0 q1 q2 q3 q4 r0 r1 s0 s1 s2 s3 s4 t0 t1 t2 t3 t4 x0 x1 e1 e2 e3 e4 hp hq hpq hat hat' hok hok' I hbl hbl'
   go_upto_region 6 with fail
   refine wp_region_bw (by kernel_rfl) (by kernel_rfl) ?_
   repeat(go_big_quiet_step (first|(with_reducible exact K1.out _)|(with_reducible exact K2.out _)))
   refine wpQuiet_nil ?_
   rintro _ ⟨kw,rfl⟩
   have J2:=qD (J.out.step' kw.below)
   clear P0 P1 P2 P3 P4 Q0 Q1 Q2 Q3 Q4 R0 R1 S0 S1 S2 S3 S4 T0 T1 T2 T3 T4 X0 X1 K1 K2 i0 i1 b1 b2
   generalize kw.val=w2 at*
   go_wp2_with fail
   go_roundw
   case rel=>exact⟨i+1,by omega,by go_num,J2.out⟩
   case measure=>simp[intOf];omega
  ·clear I
   go_wp2_with fail
   go_ret
   exact⟨rfl,J.out⟩
abbrev lfA(op:Int)(g:Nat):PrT:=lfZ op (some ⟨g,0,none⟩) 1 none none
abbrev andP(g k:Nat):PrT:=.mk 20 .nil (VC.zero,Val.zero) .nil 0 0 0 .nil 0 ExT.zero (some ⟨k,0,none⟩) 2 2 [lfA 2 g,lfA 5 g]
abbrev ixA(o:Nat):IxT:=⟨⟨#[120]⟩,1,some ⟨o,0,none⟩,1,1,[⟨[aP],false⟩],false,false,false,PrT.zero⟩
theorem andP_vpr(g k:Nat):VPr (andP g k):=by
 refine VPo.shut ⟨fun h=>?_,fun h=>?_,fun h=>?_,fun h=>?_,fun _=>by simp[PrT.kids],fun h=>?_,fun _=>?_⟩
 ·simp[PrT.op] at h
 ·simp[PrT.op] at h
 ·simp[PrT.op] at h
 ·simp[PrT.op] at h
 ·simp[PrT.op] at h
 ·intro x hx
  simp[PrT.kids] at hx
  rcases hx with rfl|rfl
  ·exact(lfZ_lf 2 _ _ _ _).vpr (.inl rfl)
  ·exact(lfZ_lf 5 _ _ _ _).vpr (.inr rfl)
theorem andP_sz(g k:Nat):(andP g k).sz=3:=by
 rw[PrT.sz_eq]
 show 1+0+((lfA 2 g).sz+((lfA 5 g).sz+0))=3
 rw[(lfZ_lf 2 _ _ _ _).sz,(lfZ_lf 5 _ _ _ _).sz]
theorem two_sr{w:World}{g k:Nat}(h:Blk w k 41 (recPr (lfA 2 g)++recPr (lfA 5 g)).toArray):SR 25 recPr w (some ⟨k,0,none⟩) 2 2 [lfA 2 g,lfA 5 g]:=by
 refine⟨rfl,qL,fun _=>⟨k,0,rfl,h.lt,fun i x hi j v hj=>?_⟩⟩
 rw[Nat.zero_add,h.cell,List.getElem?_toArray]
 match i,hi with
 | 0,hi=>
  simp at hi
  subst hi
  rw[Nat.zero_mul,Nat.zero_add,List.getElem?_append_left (List.getElem?_eq_some_iff.1 hj).1]
  exact hj
 | 1,hi=>
  simp at hi
  subst hi
  rw[Nat.one_mul,List.getElem?_append_right (by rw[recPr_length];omega),recPr_length,Nat.add_sub_cancel_left]
  exact hj
 | i+2,hi=>simp at hi
theorem andP_wp{w:World}{g k:Nat}(h:Blk w k 41 (recPr (lfA 2 g)++recPr (lfA 5 g)).toArray)(hs:ST w (some ⟨g,0,none⟩) 1 1 [aP]):WP w (andP g k):=by
 refine WPo.shut ⟨st_nil,rw_zero w,sl_nil,Nat.zero_le _,SR.nil,z_le _,wx_zero w none,two_sr h,by show 2*400≤reach;decide,fun x hx=>?_⟩
 simp[PrT.kids] at hx
 rcases hx with rfl|rfl
 ·exact lfZ_wp hs
 ·exact lfZ_wp hs
theorem zero_wp(w:World):WP w PrT.zero:=WPo.shut ⟨st_nil,rw_zero w,sl_nil,Nat.zero_le _,SR.nil,z_le _,wx_zero w none,SR.nil,z_le _,fun k hk=>by cases hk⟩
theorem ixA_wix{w:World}{g o:Nat}(h:Blk w o 73 #[.slice (some ⟨g,0,none⟩) 1 1,.bool false])(hs:ST w (some ⟨g,0,none⟩) 1 1 [aP]):WIx w (ixA o):=by
 refine⟨by show(⟨#[120]⟩:ByteArray).size≤reach;decide,⟨[⟨some ⟨g,0,none⟩,1,1,false⟩],⟨rfl,qL,fun _=>⟨o,0,rfl,h.lt,fun i x hi j v hj=>?_⟩⟩,by show 1*32≤reach;decide,rfl,fun i x q hx hq=>?_⟩,zero_wp w⟩
 ·match i,hi with
  | 0,hi=>
   simp at hi
   subst hi
   rw[Nat.zero_mul,Nat.zero_add,h.cell]
   match j,hj with
   | 0,hj=>exact hj
   | 1,hj=>exact hj
   | j+2,hj=>simp[recO] at hj
  | i+1,hi=>simp at hi
 ·match i,hx,hq with
  | 0,hx,hq=>
   simp at hx hq
   subst hx
   subst hq
   exact⟨rfl,hs⟩
  | i+1,hx,_=>simp at hx
theorem andP_for(g k:Nat):forR 1 false [⟨[aP],false⟩] (andP g k)=([forP [aP] [lfA 2 g,lfA 5 g]],true):=by
 rw[forR_plain]
 have h:partsP (andP g k)=[lfA 2 g,lfA 5 g]:=by unfold partsP;rw[if_pos (show(andP g k).op=20 from rfl)];rfl
 rw[h]
 simp[(lfZ_lf 2 (some ⟨g,0,none⟩) 1 none none).of2,(lfZ_lf 5 (some ⟨g,0,none⟩) 1 none none).of5]
theorem fill_pred2(A:Option Addr)(n c:Nat):Instr.fill (fun i=>some (i*25,25)) ((Array.range (2*25)).map ((aggPr PrT.zero).cells[·%(aggPr PrT.zero).cells.size]!)) [(0,.agg (recPr (lfZ 2 A c none none)).toArray),(1,.agg (recPr (lfZ 5 A n none none)).toArray)]=some (recPr (lfZ 2 A c none none)++recPr (lfZ 5 A n none none)).toArray:=by
 kernel_rfl
theorem build_pred2{a:Act}{t u:Tmp}{A:Option Addr}{n c:Nat}(ht:a.eval (.tmp t)=.agg (recPr (lfZ 2 A c none none)).toArray)(hu:a.eval (.tmp u)=.agg (recPr (lfZ 5 A n none none)).toArray):
 Instr.fill (fun i=>some (i*25,25)) ((Array.range (2*25)).map ((aggPr PrT.zero).cells[·%(aggPr PrT.zero).cells.size]!)) ((#[(0,Operand.tmp t),(1,Operand.tmp u)]:Array (Nat×Operand)).map fun(i,x)=>(i,a.eval x)).toList=some (recPr (lfZ 2 A c none none)++recPr (lfZ 5 A n none none)).toArray:=by
 have h:((#[(0,Operand.tmp t),(1,Operand.tmp u)]:Array (Nat×Operand)).map fun(i,x)=>(i,a.eval x)).toList=[(0,.agg (recPr (lfZ 2 A c none none)).toArray),(1,.agg (recPr (lfZ 5 A n none none)).toArray)]:=by simp[ht,hu]
 rw[h]
 exact fill_pred2 A n c
theorem st_cellB{w:World}{b off:Nat}(h:w.cell? ⟨b,off,none⟩=some (.string ⟨#[98]⟩)):ST w (some ⟨b,off,none⟩) 1 1 [bP]:=by
 refine⟨⟨rfl,qL,fun _=>⟨b,off,rfl,World.block_lt_of_cell? w _ h,fun i x hi j v hj=>?_⟩⟩,by decide,fun s hs=>by simp at hs;subst hs;decide⟩
 match i,j,hi,hj with
 | 0,0,hi,hj=>
  simp[recT] at hi hj
  subst hi
  subst hj
  rw[Nat.zero_mul]
  exact h
 | 0,j+1,hi,hj=>simp[recT] at hj
 | i+1,_,hi,_=>simp at hi
theorem awake25_any(w:World)(hT:Tabs w)(hN:NmT w):Calls Tryz.prog 13 #[] w fun e w'=>e=.returned (.bool true)∧Below w.heap.size w w':=by
 have HT:=qD hT
 have HN:=qD hN
 clear hT hN
 go_enter Tryz.func13,Tryz.ntmps13
 go_upto_region 3 with fail
 change Code.wp _ _ _ _ ((w.alloc (.cells #[.string ⟨#[97]⟩] 9)).alloc (.cells cOne.arr 32))
 have B0:Hid (Blk ((w.alloc (.cells #[.string ⟨#[97]⟩] 9)).alloc (.cells cOne.arr 32)) w.heap.size 9 #[.string ⟨#[97]⟩]):=(Blk.new_at rfl).alloc _
 have B1:Hid (Blk ((w.alloc (.cells #[.string ⟨#[97]⟩] 9)).alloc (.cells cOne.arr 32)) (w.heap.size+1) 32 cOne.arr):=Blk.new_at (by simp)
 have BE:Hid (Below w.heap.size w ((w.alloc (.cells #[.string ⟨#[97]⟩] 9)).alloc (.cells cOne.arr 32))):=((Below.refl _ _).alloc (qL) _).alloc (by simp) _
 generalize (w.alloc (.cells #[.string ⟨#[97]⟩] 9)).alloc (.cells cOne.arr 32)=wa at*
 obtain⟨a0,a1,a2,a3,a4⟩:=VAt.of_blk B1.out
 simp only[Nat.zero_add] at a0 a1 a2 a3 a4
 go_cut [3,4] (fun v3 v4 wx=>∃g3 g4:Nat,v3=.pointer (some ⟨g3,0,none⟩)∧v4=.pointer (some ⟨g4,0,none⟩)∧Blk wx g3 41 (arrPr (lfZ 2 (some ⟨w.heap.size,0,none⟩) 1 none none))∧Blk wx g4 41 (arrPr (lfZ 5 (some ⟨w.heap.size,0,none⟩) 1 none none))∧Below wa.heap.size wa wx)
 case first=>
  have B:Hid (Below wa.heap.size wa wa.drew):=qD ((Below.refl wa.heap.size wa).drew)
  have KS:Hid (∀w',Below wa.heap.size wa w'→(fun w'=>w'.cell? ⟨w.heap.size+1,0,none⟩=some (.int .i64 3)∧w'.cell? ⟨w.heap.size+1,1,none⟩=some (.int .i64 1)∧w'.cell? ⟨w.heap.size+1,2,none⟩=some (.string ByteArray.empty)∧w'.cell? ⟨w.heap.size+1,3,none⟩=some (.slice none 0 0)∧w'.cell? ⟨w.heap.size+1,4,none⟩=some (.slice none 0 0)) w'):=qD fun w' hb=>⟨(hb.cell (p:=⟨w.heap.size+1,0,none⟩) B1.out.lt).trans a0,(hb.cell (p:=⟨w.heap.size+1,1,none⟩) B1.out.lt).trans a1,(hb.cell (p:=⟨w.heap.size+1,2,none⟩) B1.out.lt).trans a2,(hb.cell (p:=⟨w.heap.size+1,3,none⟩) B1.out.lt).trans a3,(hb.cell (p:=⟨w.heap.size+1,4,none⟩) B1.out.lt).trans a4⟩
  clear a0 a1 a2 a3 a4
  refine wp_region_noPanic ?_
  refine wp_region_held_drew (S:=(fun w'=>w'.cell? ⟨w.heap.size+1,0,none⟩=some (.int .i64 3)∧w'.cell? ⟨w.heap.size+1,1,none⟩=some (.int .i64 1)∧w'.cell? ⟨w.heap.size+1,2,none⟩=some (.string ByteArray.empty)∧w'.cell? ⟨w.heap.size+1,3,none⟩=some (.slice none 0 0)∧w'.cell? ⟨w.heap.size+1,4,none⟩=some (.slice none 0 0))) (by kernel_rfl) ?_ (fun hHeld=>?_)
  ·(try dsimp only);exact KS.out _ B.out
  generalize wa.drew=v0 at*
  refine rU 0 rfl ?_
  try go_frame
  refine rU 1 rfl ?_
  try go_frame
  refine rU 2 rfl ?_
  try go_frame
  refine rU 3 rfl ?_
  try go_frame
  refine rU 4 rfl ?_
  try go_frame
  refine rU 5 rfl ?_
  try go_frame
  refine rR [6,7] ?_
  refine rC (fun K hK=>?_) (rC (fun K hK=>?_) rN)
  ·go_simp
   have Q6:Hid (Blk (v0.alloc (.cells (arrPr PrT.zero) 41)) v0.heap.size 41 (arrPr PrT.zero)):=Blk.new_at rfl
   have G6:Hid (wa.heap.size≤v0.heap.size):=qD B.out.size
   replace B:=qD (B.out.alloc B.out.size (Obj.cells (arrPr PrT.zero) 41))
   change K _ (v0.alloc (.cells (arrPr PrT.zero) 41))
   generalize v0.alloc (.cells (arrPr PrT.zero) 41)=v1 at*
   generalize v0.heap.size=g6 at*
   clear hHeld
   refine hK.out _ _ ?_ fun hHeld=>?_
   ·(try dsimp only);exact KS.out _ B.out
   clear hK K
   try go_frame
   refine rY 7 rfl fun K hK=>?_
   go_simp
   have Q7:Hid (Blk (v1.alloc (.cells (arrPr PrT.zero) 41)) v1.heap.size 41 (arrPr PrT.zero)):=Blk.new_at rfl
   have HNE:Hid (g6≠v1.heap.size):=qD (by have:=Q6.out.lt;omega)
   replace Q6:=qD (Q6.out.alloc (.cells (arrPr PrT.zero) 41))
   have G7:Hid (wa.heap.size≤v1.heap.size):=qD B.out.size
   replace B:=qD (B.out.alloc B.out.size (Obj.cells (arrPr PrT.zero) 41))
   change K _ (v1.alloc (.cells (arrPr PrT.zero) 41))
   generalize v1.alloc (.cells (arrPr PrT.zero) 41)=v2 at*
   generalize v1.heap.size=g7 at*
   clear hHeld
   refine hK.out _ _ ?_ fun hHeld=>?_
   ·(try dsimp only);exact KS.out _ B.out
   clear hK K
   try go_frame
   refine rY 8 rfl fun K hK=>?_
   refine wp_store_row 41 _ _ rfl g6 (arrPr (lfZ 2 (some ⟨w.heap.size,0,none⟩) 1 none none)) rfl rfl 41 _ Q6.out (by kernel_rfl) rfl (arrPr_all _) ?_
   have P6:Hid (Blk (v2.setRow g6 (arrPr (lfZ 2 (some ⟨w.heap.size,0,none⟩) 1 none none))) g6 41 (arrPr (lfZ 2 (some ⟨w.heap.size,0,none⟩) 1 none none))):=qD (blk_row Q6.out _)
   replace Q7:=qD ((setRow_other v2 g6 g7 (arrPr (lfZ 2 (some ⟨w.heap.size,0,none⟩) 1 none none)) HNE.out.symm).trans Q7.out)
   replace B:=qD (bel_row B.out G6.out (arrPr (lfZ 2 (some ⟨w.heap.size,0,none⟩) 1 none none)))
   change K _ (v2.setRow g6 (arrPr (lfZ 2 (some ⟨w.heap.size,0,none⟩) 1 none none)))
   generalize (v2.setRow g6 (arrPr (lfZ 2 (some ⟨w.heap.size,0,none⟩) 1 none none)))=v3 at*
   clear Q6
   clear hHeld
   refine hK.out _ _ ?_ fun hHeld=>?_
   ·(try dsimp only);exact KS.out _ B.out
   clear hK K
   try go_frame
   refine rY 9 rfl fun K hK=>?_
   refine wp_store_row 41 _ _ rfl g7 (arrPr (lfZ 5 (some ⟨w.heap.size,0,none⟩) 1 none none)) rfl rfl 41 _ Q7.out (by kernel_rfl) rfl (arrPr_all _) ?_
   have P7:Hid (Blk (v3.setRow g7 (arrPr (lfZ 5 (some ⟨w.heap.size,0,none⟩) 1 none none))) g7 41 (arrPr (lfZ 5 (some ⟨w.heap.size,0,none⟩) 1 none none))):=qD (blk_row Q7.out _)
   replace P6:=qD ((setRow_other v3 g7 g6 (arrPr (lfZ 5 (some ⟨w.heap.size,0,none⟩) 1 none none)) HNE.out).trans P6.out)
   replace B:=qD (bel_row B.out G7.out (arrPr (lfZ 5 (some ⟨w.heap.size,0,none⟩) 1 none none)))
   change K _ (v3.setRow g7 (arrPr (lfZ 5 (some ⟨w.heap.size,0,none⟩) 1 none none)))
   generalize (v3.setRow g7 (arrPr (lfZ 5 (some ⟨w.heap.size,0,none⟩) 1 none none)))=v4 at*
   clear Q7
   clear hHeld
   refine hK.out _ _ ?_ fun hHeld=>?_
   ·(try dsimp only);exact KS.out _ B.out
   clear hK K
   try go_frame
   refine rD ?_ _
   refine NoPanic.normal ?_
   clear hHeld
   go_wp2_with fail
   go_meet
   exact⟨g6,g7,rfl,rfl,P6.out,P7.out,B.out⟩
  ·go_simp
   have Q7:Hid (Blk (v0.alloc (.cells (arrPr PrT.zero) 41)) v0.heap.size 41 (arrPr PrT.zero)):=Blk.new_at rfl
   have G7:Hid (wa.heap.size≤v0.heap.size):=qD B.out.size
   replace B:=qD (B.out.alloc B.out.size (Obj.cells (arrPr PrT.zero) 41))
   change K _ (v0.alloc (.cells (arrPr PrT.zero) 41))
   generalize v0.alloc (.cells (arrPr PrT.zero) 41)=v5 at*
   generalize v0.heap.size=g7 at*
   clear hHeld
   refine hK.out _ _ ?_ fun hHeld=>?_
   ·(try dsimp only);exact KS.out _ B.out
   clear hK K
   try go_frame
   refine rY 6 rfl fun K hK=>?_
   go_simp
   have Q6:Hid (Blk (v5.alloc (.cells (arrPr PrT.zero) 41)) v5.heap.size 41 (arrPr PrT.zero)):=Blk.new_at rfl
   have HNE:Hid (g7≠v5.heap.size):=qD (by have:=Q7.out.lt;omega)
   replace Q7:=qD (Q7.out.alloc (.cells (arrPr PrT.zero) 41))
   have G6:Hid (wa.heap.size≤v5.heap.size):=qD B.out.size
   replace B:=qD (B.out.alloc B.out.size (Obj.cells (arrPr PrT.zero) 41))
   change K _ (v5.alloc (.cells (arrPr PrT.zero) 41))
   generalize v5.alloc (.cells (arrPr PrT.zero) 41)=v6 at*
   generalize v5.heap.size=g6 at*
   clear hHeld
   refine hK.out _ _ ?_ fun hHeld=>?_
   ·(try dsimp only);exact KS.out _ B.out
   clear hK K
   try go_frame
   refine rY 8 rfl fun K hK=>?_
   refine wp_store_row 41 _ _ rfl g6 (arrPr (lfZ 2 (some ⟨w.heap.size,0,none⟩) 1 none none)) rfl rfl 41 _ Q6.out (by kernel_rfl) rfl (arrPr_all _) ?_
   have P6:Hid (Blk (v6.setRow g6 (arrPr (lfZ 2 (some ⟨w.heap.size,0,none⟩) 1 none none))) g6 41 (arrPr (lfZ 2 (some ⟨w.heap.size,0,none⟩) 1 none none))):=qD (blk_row Q6.out _)
   replace Q7:=qD ((setRow_other v6 g6 g7 (arrPr (lfZ 2 (some ⟨w.heap.size,0,none⟩) 1 none none)) HNE.out).trans Q7.out)
   replace B:=qD (bel_row B.out G6.out (arrPr (lfZ 2 (some ⟨w.heap.size,0,none⟩) 1 none none)))
   change K _ (v6.setRow g6 (arrPr (lfZ 2 (some ⟨w.heap.size,0,none⟩) 1 none none)))
   generalize (v6.setRow g6 (arrPr (lfZ 2 (some ⟨w.heap.size,0,none⟩) 1 none none)))=v7 at*
   clear Q6
   clear hHeld
   refine hK.out _ _ ?_ fun hHeld=>?_
   ·(try dsimp only);exact KS.out _ B.out
   clear hK K
   try go_frame
   refine rY 9 rfl fun K hK=>?_
   refine wp_store_row 41 _ _ rfl g7 (arrPr (lfZ 5 (some ⟨w.heap.size,0,none⟩) 1 none none)) rfl rfl 41 _ Q7.out (by kernel_rfl) rfl (arrPr_all _) ?_
   have P7:Hid (Blk (v7.setRow g7 (arrPr (lfZ 5 (some ⟨w.heap.size,0,none⟩) 1 none none))) g7 41 (arrPr (lfZ 5 (some ⟨w.heap.size,0,none⟩) 1 none none))):=qD (blk_row Q7.out _)
   replace P6:=qD ((setRow_other v7 g7 g6 (arrPr (lfZ 5 (some ⟨w.heap.size,0,none⟩) 1 none none)) HNE.out.symm).trans P6.out)
   replace B:=qD (bel_row B.out G7.out (arrPr (lfZ 5 (some ⟨w.heap.size,0,none⟩) 1 none none)))
   change K _ (v7.setRow g7 (arrPr (lfZ 5 (some ⟨w.heap.size,0,none⟩) 1 none none)))
   generalize (v7.setRow g7 (arrPr (lfZ 5 (some ⟨w.heap.size,0,none⟩) 1 none none)))=v8 at*
   clear Q7
   clear hHeld
   refine hK.out _ _ ?_ fun hHeld=>?_
   ·(try dsimp only);exact KS.out _ B.out
   clear hK K
   try go_frame
   refine rD ?_ _
   refine NoPanic.normal ?_
   clear hHeld
   go_wp2_with fail
   go_meet
   exact⟨g6,g7,rfl,rfl,P6.out,P7.out,B.out⟩
 case rest=>
  obtain⟨g3,g4,rfl,rfl,hp3,hp4,hb⟩:=hcut
  have Q3:=qD hp3
  have Q4:=qD hp4
  have C0:=qD (B0.out.step hb)
  have C1:=qD (B1.out.step hb)
  have CE:=qD (BE.out.step' hb)
  clear hb hp3 hp4 B0 B1 BE a0 a1 a2 a3 a4
  generalize wc=wb at*
  have HS:Hid (∀wr,Below wb.heap.size wb wr→ST wr (some ⟨w.heap.size,0,none⟩) 1 1 [aP]):=qD fun wr hb=>st_cell ((hb.cell (p:=⟨w.heap.size,0,none⟩) C0.out.lt).trans (C0.out.cell 0)) (qL)
  have R3:=qD (pr_full Q3.out)
  have HO1:=qD (of_any (lfZ 2 (some ⟨w.heap.size,0,none⟩) 1 none none) (some ⟨w.heap.size,0,none⟩) 1 1 [aP] wb (lfZ_wp (HS.out wb (Below.refl _ _))) ((lfZ_lf 2 _ _ _ _).vpr (.inl rfl)) (HT.out.step CE.out) (HS.out wb (Below.refl _ _)) (by rw[(lfZ_lf 2 _ _ _ _).sz];decide))
  rw[(lfZ_lf 2 (some ⟨w.heap.size,0,none⟩) 1 none none).of2] at HO1
  go_upto_region 5 with(first
   | ((with_reducible show wpList _ _ _ (⟨_,.load 41 _,_,_,_,_⟩::_) _ _);refine wpList_mid_w rfl 41 _ rfl g3 0 rfl _ _ R3.out Tryz.underlying41 rfl (by kernel_rfl) ?_)
   | (go_at_call 14;refine HO1.out.mono ?_;rintro e w1 ⟨A3,m3,c3,ys,nf,rfl,hy,hnf,_,hsi,hb1,_⟩))
  obtain rfl:=hnf.unique nf_pt fun _ _=>Iff.rfl
  obtain⟨y,rfl⟩:∃y,ys=[y]:=by
   have h:=congrArg List.length hy
   simp only[List.length_map] at h
   exact List.length_eq_one_iff.1 h
  have hyy:ivP y=ivOf (cuI 1 false,cuI 1 true):=by simpa using hy
  obtain rfl:m3=1:=hsi.sr.ln
  have HYY:=qD hyy
  have HY1:=qD hy
  have D3:=qD (Q3.out.step hb1)
  have D4:=qD (Q4.out.step hb1)
  have D1:=qD (C1.out.step hb1)
  have DB:=qD hb1
  have SI1:=qD hsi
  clear hy hnf hsi hb1 hyy R3 HO1 Q3 Q4 C0 C1
  have R3:=qD (pr_full D3.out)
  have SB:Hid (Blk (w1.alloc (.cells #[.string ⟨#[98]⟩] 9)) w1.heap.size 9 #[.string ⟨#[98]⟩]):=Blk.new_at rfl
  have BA:=(Below.refl w1.heap.size w1).alloc (qL) (Obj.cells #[.string ⟨#[98]⟩] 9)
  have E3:=qD (D3.out.step BA)
  have E4:=qD (D4.out.step BA)
  have E1:=qD (D1.out.step BA)
  have EB:=qD (DB.out.step' BA)
  have SI2:=qD (SI1.out.step BA)
  have HO2:=qD (of_any (lfZ 2 (some ⟨w.heap.size,0,none⟩) 1 none none) (some ⟨w1.heap.size,0,none⟩) 1 1 [bP] (w1.alloc (.cells #[.string ⟨#[98]⟩] 9)) (lfZ_wp (HS.out _ EB.out)) ((lfZ_lf 2 _ _ _ _).vpr (.inl rfl)) (HT.out.step (CE.out.step' EB.out)) (st_cellB (SB.out.cell 0)) (by rw[(lfZ_lf 2 _ _ _ _).sz];decide))
  rw[(lfZ_lf 2 (some ⟨w.heap.size,0,none⟩) 1 none none).ofb (.inl rfl)] at HO2
  go_upto_region 6 with(first
   | ((with_reducible show wpList _ _ _ (⟨_,.load 41 _,_,_,_,_⟩::_) _ _);refine wpList_mid_w rfl 41 _ rfl g3 0 rfl _ _ R3.out Tryz.underlying41 rfl (by kernel_rfl) ?_)
   | (go_at_call 14;refine HO2.out.mono ?_;rintro e w2 ⟨A4,m4,c4,ys4,nf4,rfl,hy,hnf,_,hsi,hb1,_⟩))
  have F3:=qD (E3.out.step hb1)
  have F4:=qD (E4.out.step hb1)
  have F1:=qD (E1.out.step hb1)
  have FB:=qD (EB.out.step' hb1)
  have SI3:=qD (SI2.out.step hb1)
  clear hy hnf hsi hb1 R3 HO2 D3 D4 D1 DB E3 E4 E1 EB SI1 SI2 SB BA
  obtain⟨j0,hj0,hw0,hw1,hw2⟩:=info_parts info_predF
  have BO:=(Below.refl w2.heap.size w2).alloc (qL) (Obj.cells #[.slice (some ⟨w.heap.size,0,none⟩) 1 1,.bool false] 73)
  have SO:Hid (Blk (w2.alloc (.cells #[.slice (some ⟨w.heap.size,0,none⟩) 1 1,.bool false] 73)) w2.heap.size 73 #[.slice (some ⟨w.heap.size,0,none⟩) 1 1,.bool false]):=Blk.new_at rfl
  have G3:=qD (F3.out.step BO)
  have G4:=qD (F4.out.step BO)
  have G1:=qD (F1.out.step BO)
  have GB:=qD (FB.out.step' BO)
  have SI4:=qD (SI3.out.step BO)
  clear BO F3 F4 F1 FB SI3
  have R3:=qD (pr_full G3.out)
  have R4:=qD (pr_full G4.out)
  go_wp2_with (first
   | ((with_reducible show wpList _ _ _ (⟨_,.load 41 _,_,_,_,_⟩::_) _ _);refine wpList_mid_w rfl 41 _ rfl g3 0 rfl _ _ R3.out Tryz.underlying41 rfl (by kernel_rfl) ?_)
   | ((with_reducible show wpList _ _ _ (⟨_,.load 41 _,_,_,_,_⟩::_) _ _);refine wpList_mid_w rfl 41 _ rfl g4 0 rfl _ _ R4.out Tryz.underlying41 rfl (by kernel_rfl) ?_)
   | ((with_reducible show wpList _ _ _ (⟨_,.buildSlice 39 _ _,_,_,_,_⟩::_) _ _);refine wpList_buildSlice rfl 39 41 2 _ rfl (recPr (lfZ 2 (some ⟨w.heap.size,0,none⟩) 1 none none)++recPr (lfZ 5 (some ⟨w.heap.size,0,none⟩) 1 none none)).toArray j0 _ Tryz.underlying39 hj0 hw0 (by rw[hw1];decide) (by rw[hw1];decide) (by rw[hw1];exact build_pred2 rfl rfl) ?_))
  have SK:Hid (Blk ((w2.alloc (.cells #[.slice (some ⟨w.heap.size,0,none⟩) 1 1,.bool false] 73)).alloc (.cells (recPr (lfA 2 w.heap.size)++recPr (lfA 5 w.heap.size)).toArray 41)) (w2.heap.size+1) 41 (recPr (lfA 2 w.heap.size)++recPr (lfA 5 w.heap.size)).toArray):=Blk.new_at (by simp)
  have BK:=(Below.refl (w2.alloc (.cells #[.slice (some ⟨w.heap.size,0,none⟩) 1 1,.bool false] 73)).heap.size (w2.alloc (.cells #[.slice (some ⟨w.heap.size,0,none⟩) 1 1,.bool false] 73))).alloc (qL) (Obj.cells (recPr (lfA 2 w.heap.size)++recPr (lfA 5 w.heap.size)).toArray 41)
  have SO2:=qD (SO.out.step BK)
  have H3:=qD (G3.out.step BK)
  have H4:=qD (G4.out.step BK)
  have H1:=qD (G1.out.step BK)
  have HB:=qD (GB.out.step' BK)
  have SI5:=qD (SI4.out.step BK)
  generalize ((w2.alloc (.cells #[.slice (some ⟨w.heap.size,0,none⟩) 1 1,.bool false] 73)).alloc (.cells (recPr (lfA 2 w.heap.size)++recPr (lfA 5 w.heap.size)).toArray 41))=w5 at*
  generalize w2.heap.size=go at*
  have HFOR:=qD (for_any (ixA go) false (andP w.heap.size (go+1)) w5 (HT.out.step (CE.out.step' HB.out)) (ixA_wix SO2.out (HS.out _ HB.out)) (andP_wp SK.out (HS.out _ HB.out)) (andP_vpr _ _) (by rw[andP_sz];decide))
  rw[show(ixA go).ks=[⟨[aP],false⟩] from rfl,show(ixA go).kind=1 from rfl,andP_for] at HFOR
  clear BK SO SK SO2 G3 G4 G1 GB SI4 R3 R4 hj0 hw0 hw1 hw2
  refine HFOR.out.mono ?_
  rintro e w6 ⟨A6,n6,c6,ls,rfl,hbl,hnfs,hb6⟩
  obtain⟨h6,rfl⟩:∃h,ls=[h]:=List.length_eq_one_iff.1 hnfs.ln
  obtain rfl:n6=1:=hbl.sr.ln
  have hn6:=hnfs.at_ 0 _ h6 rfl rfl
  obtain⟨b6,o6,k6,hA6,hbl6,hk6,_,hr6⟩:=hbl.sr.row (i:=0) (by omega)
  obtain rfl:k6=h6:=by simpa using hk6.symm
  subst hA6
  have e6:=hr6 0 _ rfl
  rw[Nat.zero_mul,Nat.add_zero] at e6
  have hs6:=hbl.el k6 (by simp)
  have hyk:k6.ys.map ivP=[y].map ivP:=by
   obtain⟨n,hn,hi⟩:=hn6.nf
   rw[hn,hi.unique (for_pt (lfZ_lf 2 _ _ _ _) (lfZ_lf 5 _ _ _ _)) fun _ _=>Iff.rfl,HY1.out]
  have K3:=qD (H3.out.step hb6)
  have K4:=qD (H4.out.step hb6)
  have K1:=qD (H1.out.step hb6)
  have KB:=qD (HB.out.step' hb6)
  have SI6:=qD (SI5.out.step hb6)
  have E6:=qD e6
  have HS6:=qD hs6
  have HYK:=qD hyk
  clear hbl hnfs hb6 hn6 hk6 hr6 e6 hs6 hyk H3 H4 H1 HB SI5 HFOR
  obtain⟨bA,oA,hAA,hbA,hat,hok⟩:=SI6.out.at (i:=0) (p:=y) rfl
  subst hAA
  have y1:y.1.1.2=vI 1:=congrArg Iv.lo HYY.out
  have y2:y.1.2.2=vI 1:=congrArg Iv.hi HYY.out
  have y3:y.2.1=true:=congrArg Iv.li HYY.out
  have y4:y.2.2=true:=congrArg Iv.hin HYY.out
  have HAT:=qD hat
  have HOK:Hid (RW w6 y.1.1.1 (vI 1)∧RW w6 y.1.2.1 (vI 1)):=by rw[Hid,←y1];exact⟨hok.1,by rw[y1,←y2];exact hok.2⟩
  have Y3:=qD y3
  have Y4:=qD y4
  clear hat hok y1 y2 y3 y4 HYY
  rw[Nat.zero_mul,Nat.add_zero] at HAT
  obtain⟨⟨p0,p1,p2,p3,p4⟩,⟨p5,p6,p7,p8,p9⟩,p10,p11⟩:=HAT.out
  rw[Y3.out] at p10
  rw[Y4.out] at p11
  obtain⟨a0,a1,a2,a3,a4⟩:=VAt.of_blk K1.out
  simp only[Nat.zero_add] at a0 a1 a2 a3 a4
  have e6:=E6.out
  have hbl6w:b6<w6.heap.size:=hbl6
  have HI1:Hid (∀wr,Below w6.heap.size w6 wr→Calls Tryz.prog 43 #[aggPr (lfA 2 w.heap.size),aggPr (lfA 5 w.heap.size)] wr fun e w'=>e=.returned (.bool true)∧Below wr.heap.size wr w'):=qD fun wr hb=>bImplies_any (op:=2) (op':=5) (.inl ⟨rfl,rfl⟩) _ _ 1 1 wr (HT.out.step (CE.out.step' (KB.out.step' hb))) (HN.out.step (CE.out.step' (KB.out.step' hb))) (HS.out _ (KB.out.step' hb)) (HS.out _ (KB.out.step' hb))
  have HI2:Hid (∀wr,Below w6.heap.size w6 wr→Calls Tryz.prog 43 #[aggPr (lfA 5 w.heap.size),aggPr (lfA 2 w.heap.size)] wr fun e w'=>e=.returned (.bool false)∧Below wr.heap.size wr w'):=qD fun wr hb=>bImplies_any (op:=5) (op':=2) (.inr ⟨rfl,rfl⟩) _ _ 1 1 wr (HT.out.step (CE.out.step' (KB.out.step' hb))) (HN.out.step (CE.out.step' (KB.out.step' hb))) (HS.out _ (KB.out.step' hb)) (HS.out _ (KB.out.step' hb))
  go_upto_region 7 with fail
  have B:=qD ((Below.refl w6.heap.size w6).drewN 1)
  have KS:Hid (∀w',Below w6.heap.size w6 w'→(fun w'=>(Instr.loadAt 41 (.pointer (some ⟨g3,0,none⟩))).run Tryz.prog w'=.ok (aggPr (lfA 2 w.heap.size)) w'∧(Instr.loadAt 41 (.pointer (some ⟨g4,0,none⟩))).run Tryz.prog w'=.ok (aggPr (lfA 5 w.heap.size)) w'∧w'.cell? ⟨bA,oA,none⟩=some (.int .i64 y.1.1.1.k)∧w'.cell? ⟨bA,oA+1,none⟩=some (.int .i64 y.1.1.1.n)∧w'.cell? ⟨bA,oA+2,none⟩=some (.string y.1.1.1.t)∧w'.cell? ⟨bA,oA+3,none⟩=some (.slice y.1.1.1.LA y.1.1.1.ln y.1.1.1.lc)∧w'.cell? ⟨bA,oA+4,none⟩=some (.slice y.1.1.1.DA y.1.1.1.dn y.1.1.1.dc)∧w'.cell? ⟨bA,oA+5,none⟩=some (.int .i64 y.1.2.1.k)∧w'.cell? ⟨bA,oA+5+1,none⟩=some (.int .i64 y.1.2.1.n)∧w'.cell? ⟨bA,oA+5+2,none⟩=some (.string y.1.2.1.t)∧w'.cell? ⟨bA,oA+5+3,none⟩=some (.slice y.1.2.1.LA y.1.2.1.ln y.1.2.1.lc)∧w'.cell? ⟨bA,oA+5+4,none⟩=some (.slice y.1.2.1.DA y.1.2.1.dn y.1.2.1.dc)∧w'.cell? ⟨bA,oA+10,none⟩=some (.bool true)∧w'.cell? ⟨bA,oA+11,none⟩=some (.bool true)∧w'.cell? ⟨w.heap.size+1,0,none⟩=some (.int .i64 3)∧w'.cell? ⟨w.heap.size+1,1,none⟩=some (.int .i64 1)∧w'.cell? ⟨w.heap.size+1,2,none⟩=some (.string ByteArray.empty)∧w'.cell? ⟨w.heap.size+1,3,none⟩=some (.slice none 0 0)∧w'.cell? ⟨w.heap.size+1,4,none⟩=some (.slice none 0 0)∧w'.cell? ⟨b6,o6,none⟩=some (.slice k6.A k6.n k6.c)) w'):=qD fun w' hb=>⟨load_pred (arrPr (lfA 2 w.heap.size)) rfl _ _ (K3.out.step hb),load_pred (arrPr (lfA 5 w.heap.size)) rfl _ _ (K4.out.step hb),(hb.cell hbA).trans p0,(hb.cell hbA).trans p1,(hb.cell hbA).trans p2,(hb.cell hbA).trans p3,(hb.cell hbA).trans p4,(hb.cell hbA).trans p5,(hb.cell hbA).trans p6,(hb.cell hbA).trans p7,(hb.cell hbA).trans p8,(hb.cell hbA).trans p9,(hb.cell hbA).trans p10,(hb.cell hbA).trans p11,(hb.cell K1.out.lt).trans a0,(hb.cell K1.out.lt).trans a1,(hb.cell K1.out.lt).trans a2,(hb.cell K1.out.lt).trans a3,(hb.cell K1.out.lt).trans a4,(hb.cell hbl6w).trans e6⟩
  clear p0 p1 p2 p3 p4 p5 p6 p7 p8 p9 p10 p11 a0 a1 a2 a3 a4 e6
  refine wp_region_noPanic ?_
  refine wp_region_held_drew (S:=(fun w'=>(Instr.loadAt 41 (.pointer (some ⟨g3,0,none⟩))).run Tryz.prog w'=.ok (aggPr (lfA 2 w.heap.size)) w'∧(Instr.loadAt 41 (.pointer (some ⟨g4,0,none⟩))).run Tryz.prog w'=.ok (aggPr (lfA 5 w.heap.size)) w'∧w'.cell? ⟨bA,oA,none⟩=some (.int .i64 y.1.1.1.k)∧w'.cell? ⟨bA,oA+1,none⟩=some (.int .i64 y.1.1.1.n)∧w'.cell? ⟨bA,oA+2,none⟩=some (.string y.1.1.1.t)∧w'.cell? ⟨bA,oA+3,none⟩=some (.slice y.1.1.1.LA y.1.1.1.ln y.1.1.1.lc)∧w'.cell? ⟨bA,oA+4,none⟩=some (.slice y.1.1.1.DA y.1.1.1.dn y.1.1.1.dc)∧w'.cell? ⟨bA,oA+5,none⟩=some (.int .i64 y.1.2.1.k)∧w'.cell? ⟨bA,oA+5+1,none⟩=some (.int .i64 y.1.2.1.n)∧w'.cell? ⟨bA,oA+5+2,none⟩=some (.string y.1.2.1.t)∧w'.cell? ⟨bA,oA+5+3,none⟩=some (.slice y.1.2.1.LA y.1.2.1.ln y.1.2.1.lc)∧w'.cell? ⟨bA,oA+5+4,none⟩=some (.slice y.1.2.1.DA y.1.2.1.dn y.1.2.1.dc)∧w'.cell? ⟨bA,oA+10,none⟩=some (.bool true)∧w'.cell? ⟨bA,oA+11,none⟩=some (.bool true)∧w'.cell? ⟨w.heap.size+1,0,none⟩=some (.int .i64 3)∧w'.cell? ⟨w.heap.size+1,1,none⟩=some (.int .i64 1)∧w'.cell? ⟨w.heap.size+1,2,none⟩=some (.string ByteArray.empty)∧w'.cell? ⟨w.heap.size+1,3,none⟩=some (.slice none 0 0)∧w'.cell? ⟨w.heap.size+1,4,none⟩=some (.slice none 0 0)∧w'.cell? ⟨b6,o6,none⟩=some (.slice k6.A k6.n k6.c))) (by kernel_rfl) ?_ (fun hHeld=>?_)
  ·(try dsimp only);exact KS.out _ B.out
  refine rT (v:=?_) 0 rfl ?_ ?_
  rotate_left
  ·intro w' hSw;(try dsimp only at hSw);obtain⟨_,_,hS0,hS1,hS2,hS3,hS4,hS5,hS6,hS7,hS8,hS9,hS10,hS11,hS12,hS13,hS14,hS15,hS16,hS17⟩:=hSw;go_simp;(try with_reducible rfl)
  try go_frame
  refine rT (v:=?_) 1 rfl ?_ ?_
  rotate_left
  ·intro w' hSw;(try dsimp only at hSw);obtain⟨_,_,hS0,hS1,hS2,hS3,hS4,hS5,hS6,hS7,hS8,hS9,hS10,hS11,hS12,hS13,hS14,hS15,hS16,hS17⟩:=hSw;go_simp;(try with_reducible rfl)
  try go_frame
  refine rT (v:=?_) 2 rfl ?_ ?_
  rotate_left
  ·intro w' hSw;(try dsimp only at hSw);obtain⟨_,_,hS0,hS1,hS2,hS3,hS4,hS5,hS6,hS7,hS8,hS9,hS10,hS11,hS12,hS13,hS14,hS15,hS16,hS17⟩:=hSw;go_simp;(try with_reducible rfl)
  try go_frame
  refine rT (v:=?_) 3 rfl ?_ ?_
  rotate_left
  ·intro w' hSw;(try dsimp only at hSw);obtain⟨_,_,hS0,hS1,hS2,hS3,hS4,hS5,hS6,hS7,hS8,hS9,hS10,hS11,hS12,hS13,hS14,hS15,hS16,hS17⟩:=hSw;go_simp;(try with_reducible rfl)
  try go_frame
  refine rT (v:=?_) 4 rfl ?_ ?_
  rotate_left
  ·intro w' hSw;(try dsimp only at hSw);obtain⟨_,_,hS0,hS1,hS2,hS3,hS4,hS5,hS6,hS7,hS8,hS9,hS10,hS11,hS12,hS13,hS14,hS15,hS16,hS17⟩:=hSw;go_simp;(try with_reducible rfl)
  try go_frame
  refine rT (v:=?_) 5 rfl ?_ ?_
  rotate_left
  ·intro w' hSw;(try dsimp only at hSw);obtain⟨_,_,hS0,hS1,hS2,hS3,hS4,hS5,hS6,hS7,hS8,hS9,hS10,hS11,hS12,hS13,hS14,hS15,hS16,hS17⟩:=hSw;go_simp;(try with_reducible rfl)
  try go_frame
  refine rT (v:=?_) 6 rfl ?_ ?_
  rotate_left
  ·intro w' hSw;(try dsimp only at hSw);obtain⟨_,_,hS0,hS1,hS2,hS3,hS4,hS5,hS6,hS7,hS8,hS9,hS10,hS11,hS12,hS13,hS14,hS15,hS16,hS17⟩:=hSw;go_simp;(try with_reducible rfl)
  try go_frame
  refine rT (v:=?_) 7 rfl ?_ ?_
  rotate_left
  ·intro w' hSw;(try dsimp only at hSw);obtain⟨_,_,hS0,hS1,hS2,hS3,hS4,hS5,hS6,hS7,hS8,hS9,hS10,hS11,hS12,hS13,hS14,hS15,hS16,hS17⟩:=hSw;go_simp;(try with_reducible rfl)
  try go_frame
  refine rT (v:=?_) 8 rfl ?_ ?_
  rotate_left
  ·intro w' hSw;(try dsimp only at hSw);obtain⟨_,_,hS0,hS1,hS2,hS3,hS4,hS5,hS6,hS7,hS8,hS9,hS10,hS11,hS12,hS13,hS14,hS15,hS16,hS17⟩:=hSw;go_simp;(try with_reducible rfl)
  try go_frame
  refine rT (v:=?_) 9 rfl ?_ ?_
  rotate_left
  ·intro w' hSw;(try dsimp only at hSw);obtain⟨_,_,hS0,hS1,hS2,hS3,hS4,hS5,hS6,hS7,hS8,hS9,hS10,hS11,hS12,hS13,hS14,hS15,hS16,hS17⟩:=hSw;go_simp;(try with_reducible rfl)
  try go_frame
  refine rT (v:=?_) 10 rfl ?_ ?_
  rotate_left
  ·intro w' hSw;(try dsimp only at hSw);obtain⟨_,_,hS0,hS1,hS2,hS3,hS4,hS5,hS6,hS7,hS8,hS9,hS10,hS11,hS12,hS13,hS14,hS15,hS16,hS17⟩:=hSw;go_simp;(try with_reducible rfl)
  try go_frame
  refine rT (v:=?_) 11 rfl ?_ ?_
  rotate_left
  ·intro w' hSw;(try dsimp only at hSw);obtain⟨_,_,hS0,hS1,hS2,hS3,hS4,hS5,hS6,hS7,hS8,hS9,hS10,hS11,hS12,hS13,hS14,hS15,hS16,hS17⟩:=hSw;go_simp;(try with_reducible rfl)
  try go_frame
  refine rT (v:=?_) 12 rfl ?_ ?_
  rotate_left
  ·intro w' hSw;(try dsimp only at hSw);obtain⟨_,_,hS0,hS1,hS2,hS3,hS4,hS5,hS6,hS7,hS8,hS9,hS10,hS11,hS12,hS13,hS14,hS15,hS16,hS17⟩:=hSw;go_simp;(try with_reducible rfl)
  try go_frame
  refine rT (v:=?_) 13 rfl ?_ ?_
  rotate_left
  ·intro w' hSw;(try dsimp only at hSw);obtain⟨_,_,hS0,hS1,hS2,hS3,hS4,hS5,hS6,hS7,hS8,hS9,hS10,hS11,hS12,hS13,hS14,hS15,hS16,hS17⟩:=hSw;go_simp;(try with_reducible rfl)
  try go_frame
  refine rT (v:=?_) 14 rfl ?_ ?_
  rotate_left
  ·intro w' hSw;(try dsimp only at hSw);obtain⟨_,_,hS0,hS1,hS2,hS3,hS4,hS5,hS6,hS7,hS8,hS9,hS10,hS11,hS12,hS13,hS14,hS15,hS16,hS17⟩:=hSw;go_simp;(try with_reducible rfl)
  try go_frame
  refine rT (v:=?_) 15 rfl ?_ ?_
  rotate_left
  ·intro w' hSw;(try dsimp only at hSw);obtain⟨_,_,hS0,hS1,hS2,hS3,hS4,hS5,hS6,hS7,hS8,hS9,hS10,hS11,hS12,hS13,hS14,hS15,hS16,hS17⟩:=hSw;go_simp;(try with_reducible rfl)
  try go_frame
  refine rY 16 rfl fun K hK=>?_
  go_simp
  refine(same03_any (vI 1) y.1.1.1 cOne _ (HOK.out.1.step B.out) (rw_one _)).mono ?_
  rintro e w7 ⟨rfl,hb3⟩
  replace B:=qD (B.out.step' hb3)
  clear hb3
  (try go_wp2_with fail)
  clear hHeld
  refine hK.out _ _ ?_ fun hHeld=>?_
  ·(try dsimp only);exact KS.out _ B.out
  clear hK K
  try go_frame
  refine rT (v:=?_) 17 rfl ?_ ?_
  rotate_left
  ·intro w' hSw;(try dsimp only at hSw);obtain⟨_,_,hS0,hS1,hS2,hS3,hS4,hS5,hS6,hS7,hS8,hS9,hS10,hS11,hS12,hS13,hS14,hS15,hS16,hS17⟩:=hSw;go_simp;(try with_reducible rfl)
  try go_frame
  refine rT (v:=?_) 18 rfl ?_ ?_
  rotate_left
  ·intro w' hSw;(try dsimp only at hSw);obtain⟨_,_,hS0,hS1,hS2,hS3,hS4,hS5,hS6,hS7,hS8,hS9,hS10,hS11,hS12,hS13,hS14,hS15,hS16,hS17⟩:=hSw;go_simp;(try with_reducible rfl)
  try go_frame
  refine rT (v:=?_) 19 rfl ?_ ?_
  rotate_left
  ·intro w' hSw;(try dsimp only at hSw);obtain⟨_,_,hS0,hS1,hS2,hS3,hS4,hS5,hS6,hS7,hS8,hS9,hS10,hS11,hS12,hS13,hS14,hS15,hS16,hS17⟩:=hSw;go_simp;(try with_reducible rfl)
  try go_frame
  refine rT (v:=?_) 20 rfl ?_ ?_
  rotate_left
  ·intro w' hSw;(try dsimp only at hSw);obtain⟨_,_,hS0,hS1,hS2,hS3,hS4,hS5,hS6,hS7,hS8,hS9,hS10,hS11,hS12,hS13,hS14,hS15,hS16,hS17⟩:=hSw;go_simp;(try with_reducible rfl)
  try go_frame
  refine rT (v:=?_) 21 rfl ?_ ?_
  rotate_left
  ·intro w' hSw;(try dsimp only at hSw);obtain⟨_,_,hS0,hS1,hS2,hS3,hS4,hS5,hS6,hS7,hS8,hS9,hS10,hS11,hS12,hS13,hS14,hS15,hS16,hS17⟩:=hSw;go_simp;(try with_reducible rfl)
  try go_frame
  refine rT (v:=?_) 22 rfl ?_ ?_
  rotate_left
  ·intro w' hSw;(try dsimp only at hSw);obtain⟨_,_,hS0,hS1,hS2,hS3,hS4,hS5,hS6,hS7,hS8,hS9,hS10,hS11,hS12,hS13,hS14,hS15,hS16,hS17⟩:=hSw;go_simp;(try with_reducible rfl)
  try go_frame
  refine rT (v:=?_) 23 rfl ?_ ?_
  rotate_left
  ·intro w' hSw;(try dsimp only at hSw);obtain⟨_,_,hS0,hS1,hS2,hS3,hS4,hS5,hS6,hS7,hS8,hS9,hS10,hS11,hS12,hS13,hS14,hS15,hS16,hS17⟩:=hSw;go_simp;(try with_reducible rfl)
  try go_frame
  refine rY 24 rfl fun K hK=>?_
  go_simp
  refine(same03_any (vI 1) y.1.2.1 cOne _ (HOK.out.2.step B.out) (rw_one _)).mono ?_
  rintro e w8 ⟨rfl,hb3⟩
  replace B:=qD (B.out.step' hb3)
  clear hb3
  (try go_wp2_with fail)
  clear hHeld
  refine hK.out _ _ ?_ fun hHeld=>?_
  ·(try dsimp only);exact KS.out _ B.out
  clear hK K
  try go_frame
  refine rT (v:=?_) 25 rfl ?_ ?_
  rotate_left
  ·intro w' hSw;(try dsimp only at hSw);obtain⟨_,_,hS0,hS1,hS2,hS3,hS4,hS5,hS6,hS7,hS8,hS9,hS10,hS11,hS12,hS13,hS14,hS15,hS16,hS17⟩:=hSw;go_simp;(try with_reducible rfl)
  try go_frame
  refine rT (v:=?_) 26 rfl ?_ ?_
  rotate_left
  ·intro w' hSw;(try dsimp only at hSw);obtain⟨_,_,hS0,hS1,hS2,hS3,hS4,hS5,hS6,hS7,hS8,hS9,hS10,hS11,hS12,hS13,hS14,hS15,hS16,hS17⟩:=hSw;go_simp;(try with_reducible rfl)
  try go_frame
  refine rT (v:=?_) 27 rfl ?_ ?_
  rotate_left
  ·intro w' hSw;(try dsimp only at hSw);obtain⟨_,_,hS0,hS1,hS2,hS3,hS4,hS5,hS6,hS7,hS8,hS9,hS10,hS11,hS12,hS13,hS14,hS15,hS16,hS17⟩:=hSw;go_simp;(try with_reducible rfl)
  try go_frame
  refine rT (v:=?_) 28 rfl ?_ ?_
  rotate_left
  ·intro w' hSw;(try dsimp only at hSw);obtain⟨_,_,hS0,hS1,hS2,hS3,hS4,hS5,hS6,hS7,hS8,hS9,hS10,hS11,hS12,hS13,hS14,hS15,hS16,hS17⟩:=hSw;go_simp;(try with_reducible rfl)
  try go_frame
  refine rT (v:=?_) 29 rfl ?_ ?_
  rotate_left
  ·intro w' hSw;(try dsimp only at hSw);obtain⟨_,_,hS0,hS1,hS2,hS3,hS4,hS5,hS6,hS7,hS8,hS9,hS10,hS11,hS12,hS13,hS14,hS15,hS16,hS17⟩:=hSw;go_simp;(try with_reducible rfl)
  try go_frame
  refine rT (v:=?_) 30 rfl ?_ ?_
  rotate_left
  ·intro w' hSw;(try dsimp only at hSw);obtain⟨_,_,hS0,hS1,hS2,hS3,hS4,hS5,hS6,hS7,hS8,hS9,hS10,hS11,hS12,hS13,hS14,hS15,hS16,hS17⟩:=hSw;go_simp;(try with_reducible rfl)
  try go_frame
  refine rT (v:=?_) 31 rfl ?_ ?_
  rotate_left
  ·intro w' hSw;(try dsimp only at hSw);obtain⟨_,_,hS0,hS1,hS2,hS3,hS4,hS5,hS6,hS7,hS8,hS9,hS10,hS11,hS12,hS13,hS14,hS15,hS16,hS17⟩:=hSw;go_simp;(try with_reducible rfl)
  try go_frame
  refine rT (v:=?_) 32 rfl ?_ ?_
  rotate_left
  ·intro w' hSw;(try dsimp only at hSw);obtain⟨_,_,hS0,hS1,hS2,hS3,hS4,hS5,hS6,hS7,hS8,hS9,hS10,hS11,hS12,hS13,hS14,hS15,hS16,hS17⟩:=hSw;go_simp;(try with_reducible rfl)
  try go_frame
  refine rT (v:=?_) 33 rfl ?_ ?_
  rotate_left
  ·intro w' hSw;(try dsimp only at hSw);obtain⟨_,_,hS0,hS1,hS2,hS3,hS4,hS5,hS6,hS7,hS8,hS9,hS10,hS11,hS12,hS13,hS14,hS15,hS16,hS17⟩:=hSw;go_simp;(try with_reducible rfl)
  try go_frame
  refine rT (v:=?_) 34 rfl ?_ ?_
  rotate_left
  ·intro w' hSw;(try dsimp only at hSw);obtain⟨_,_,hS0,hS1,hS2,hS3,hS4,hS5,hS6,hS7,hS8,hS9,hS10,hS11,hS12,hS13,hS14,hS15,hS16,hS17⟩:=hSw;go_simp;(try with_reducible rfl)
  try go_frame
  refine rT (v:=?_) 35 rfl ?_ ?_
  rotate_left
  ·intro w' hSw;(try dsimp only at hSw);obtain⟨_,_,hS0,hS1,hS2,hS3,hS4,hS5,hS6,hS7,hS8,hS9,hS10,hS11,hS12,hS13,hS14,hS15,hS16,hS17⟩:=hSw;go_simp;(try with_reducible rfl)
  try go_frame
  refine rT (v:=?_) 36 rfl ?_ ?_
  rotate_left
  ·intro w' hSw;(try dsimp only at hSw);obtain⟨_,_,hS0,hS1,hS2,hS3,hS4,hS5,hS6,hS7,hS8,hS9,hS10,hS11,hS12,hS13,hS14,hS15,hS16,hS17⟩:=hSw;go_simp;(try with_reducible rfl)
  try go_frame
  refine rT (v:=?_) 37 rfl ?_ ?_
  rotate_left
  ·intro w' hSw;(try dsimp only at hSw);obtain⟨_,_,hS0,hS1,hS2,hS3,hS4,hS5,hS6,hS7,hS8,hS9,hS10,hS11,hS12,hS13,hS14,hS15,hS16,hS17⟩:=hSw;go_simp;(try with_reducible rfl)
  try go_frame
  refine rT (v:=?_) 38 rfl ?_ ?_
  rotate_left
  ·intro w' hSw;(try dsimp only at hSw);obtain⟨_,_,hS0,hS1,hS2,hS3,hS4,hS5,hS6,hS7,hS8,hS9,hS10,hS11,hS12,hS13,hS14,hS15,hS16,hS17⟩:=hSw;go_simp;(try with_reducible rfl)
  try go_frame
  refine rT (v:=?_) 39 rfl ?_ ?_
  rotate_left
  ·intro w' hSw;(try dsimp only at hSw);obtain⟨_,_,hS0,hS1,hS2,hS3,hS4,hS5,hS6,hS7,hS8,hS9,hS10,hS11,hS12,hS13,hS14,hS15,hS16,hS17⟩:=hSw;go_simp;(try with_reducible rfl)
  try go_frame
  refine rT (v:=?_) 40 rfl ?_ ?_
  rotate_left
  ·intro w' hSw;(try dsimp only at hSw);obtain⟨_,_,hS0,hS1,hS2,hS3,hS4,hS5,hS6,hS7,hS8,hS9,hS10,hS11,hS12,hS13,hS14,hS15,hS16,hS17⟩:=hSw;go_simp;(try with_reducible rfl)
  try go_frame
  refine rT (v:=?_) 41 rfl ?_ ?_
  rotate_left
  ·intro w' hSw;(try dsimp only at hSw);obtain⟨_,_,hS0,hS1,hS2,hS3,hS4,hS5,hS6,hS7,hS8,hS9,hS10,hS11,hS12,hS13,hS14,hS15,hS16,hS17⟩:=hSw;go_simp;(try with_reducible rfl)
  try go_frame
  refine rT (v:=?_) 42 rfl ?_ ?_
  rotate_left
  ·intro w' hSw;(try dsimp only at hSw);obtain⟨_,_,hS0,hS1,hS2,hS3,hS4,hS5,hS6,hS7,hS8,hS9,hS10,hS11,hS12,hS13,hS14,hS15,hS16,hS17⟩:=hSw;go_simp;(try with_reducible rfl)
  try go_frame
  refine rT (v:=?_) 43 rfl ?_ ?_
  rotate_left
  ·intro w' hSw;(try dsimp only at hSw);obtain⟨_,_,hS0,hS1,hS2,hS3,hS4,hS5,hS6,hS7,hS8,hS9,hS10,hS11,hS12,hS13,hS14,hS15,hS16,hS17⟩:=hSw;go_simp;(try with_reducible rfl)
  try go_frame
  refine rT (v:=?_) 44 rfl ?_ ?_
  rotate_left
  ·intro w' hSw;(try dsimp only at hSw);obtain⟨_,_,hS0,hS1,hS2,hS3,hS4,hS5,hS6,hS7,hS8,hS9,hS10,hS11,hS12,hS13,hS14,hS15,hS16,hS17⟩:=hSw;go_simp;(try with_reducible rfl)
  try go_frame
  refine rT (v:=?_) 45 rfl ?_ ?_
  rotate_left
  ·intro w' hSw;(try dsimp only at hSw);obtain⟨_,_,hS0,hS1,hS2,hS3,hS4,hS5,hS6,hS7,hS8,hS9,hS10,hS11,hS12,hS13,hS14,hS15,hS16,hS17⟩:=hSw;go_simp;(try with_reducible rfl)
  try go_frame
  refine rT (v:=?_) 46 rfl ?_ ?_
  rotate_left
  ·intro w' hSw;(try dsimp only at hSw);obtain⟨_,_,hS0,hS1,hS2,hS3,hS4,hS5,hS6,hS7,hS8,hS9,hS10,hS11,hS12,hS13,hS14,hS15,hS16,hS17⟩:=hSw;go_simp;(try with_reducible rfl)
  try go_frame
  refine rT (v:=?_) 47 rfl ?_ ?_
  rotate_left
  ·intro w' hSw;(try dsimp only at hSw);obtain⟨_,_,hS0,hS1,hS2,hS3,hS4,hS5,hS6,hS7,hS8,hS9,hS10,hS11,hS12,hS13,hS14,hS15,hS16,hS17⟩:=hSw;go_simp;(try with_reducible rfl)
  try go_frame
  refine rT (v:=?_) 48 rfl ?_ ?_
  rotate_left
  ·intro w' hSw;(try dsimp only at hSw);obtain⟨_,_,hS0,hS1,hS2,hS3,hS4,hS5,hS6,hS7,hS8,hS9,hS10,hS11,hS12,hS13,hS14,hS15,hS16,hS17⟩:=hSw;go_simp;(try with_reducible rfl)
  try go_frame
  refine rT (v:=?_) 49 rfl ?_ ?_
  rotate_left
  ·intro w' hSw;(try dsimp only at hSw);obtain⟨_,_,hS0,hS1,hS2,hS3,hS4,hS5,hS6,hS7,hS8,hS9,hS10,hS11,hS12,hS13,hS14,hS15,hS16,hS17⟩:=hSw;go_simp;(try with_reducible rfl)
  try go_frame
  refine rT (v:=?_) 50 rfl ?_ ?_
  rotate_left
  ·intro w' hSw;(try dsimp only at hSw);obtain⟨_,_,hS0,hS1,hS2,hS3,hS4,hS5,hS6,hS7,hS8,hS9,hS10,hS11,hS12,hS13,hS14,hS15,hS16,hS17⟩:=hSw;go_simp;(try with_reducible rfl)
  try go_frame
  refine rY 51 rfl fun K hK=>?_
  go_simp
  refine(sameIs25_any k6.ys [y] k6.A (some ⟨bA,oA,none⟩) k6.n 1 k6.c c3 _ (HS6.out.step B.out) (SI6.out.step B.out) HYK.out).mono ?_
  rintro e w9 ⟨rfl,hb3⟩
  replace B:=qD (B.out.step' hb3)
  clear hb3
  (try go_wp2_with fail)
  clear hHeld
  refine hK.out _ _ ?_ fun hHeld=>?_
  ·(try dsimp only);exact KS.out _ B.out
  clear hK K
  try go_frame
  refine rT (v:=?_) 52 rfl ?_ ?_
  rotate_left
  ·intro w' hSw;(try dsimp only at hSw);obtain⟨_,_,hS0,hS1,hS2,hS3,hS4,hS5,hS6,hS7,hS8,hS9,hS10,hS11,hS12,hS13,hS14,hS15,hS16,hS17⟩:=hSw;go_simp;(try with_reducible rfl)
  try go_frame
  refine rT (v:=?_) 53 rfl ?_ ?_
  rotate_left
  ·intro w' hSw;(try dsimp only at hSw);obtain⟨_,_,hS0,hS1,hS2,hS3,hS4,hS5,hS6,hS7,hS8,hS9,hS10,hS11,hS12,hS13,hS14,hS15,hS16,hS17⟩:=hSw;go_simp;(try with_reducible rfl)
  try go_frame
  refine rT (v:=aggPr (lfA 2 w.heap.size)) 54 rfl ?_ ?_
  (skip)
  ·intro w' hSw;exact exec_load (p:=.pointer (some ⟨g3,0,none⟩)) rfl rfl hSw.1
  try go_frame
  refine rT (v:=aggPr (lfA 5 w.heap.size)) 55 rfl ?_ ?_
  (skip)
  ·intro w' hSw;exact exec_load (p:=.pointer (some ⟨g4,0,none⟩)) rfl rfl hSw.2.1
  try go_frame
  refine rY 56 rfl fun K hK=>?_
  go_simp
  refine(HI1.out _ B.out).mono ?_
  rintro e wA ⟨rfl,hb3⟩
  replace B:=qD (B.out.step' hb3)
  clear hb3
  (try go_wp2_with fail)
  clear hHeld
  refine hK.out _ _ ?_ fun hHeld=>?_
  ·(try dsimp only);exact KS.out _ B.out
  clear hK K
  try go_frame
  refine rT (v:=?_) 57 rfl ?_ ?_
  rotate_left
  ·intro w' hSw;(try dsimp only at hSw);obtain⟨_,_,hS0,hS1,hS2,hS3,hS4,hS5,hS6,hS7,hS8,hS9,hS10,hS11,hS12,hS13,hS14,hS15,hS16,hS17⟩:=hSw;go_simp;(try with_reducible rfl)
  try go_frame
  refine rT (v:=?_) 58 rfl ?_ ?_
  rotate_left
  ·intro w' hSw;(try dsimp only at hSw);obtain⟨_,_,hS0,hS1,hS2,hS3,hS4,hS5,hS6,hS7,hS8,hS9,hS10,hS11,hS12,hS13,hS14,hS15,hS16,hS17⟩:=hSw;go_simp;(try with_reducible rfl)
  try go_frame
  refine rT (v:=aggPr (lfA 5 w.heap.size)) 59 rfl ?_ ?_
  (skip)
  ·intro w' hSw;exact exec_load (p:=.pointer (some ⟨g4,0,none⟩)) rfl rfl hSw.2.1
  try go_frame
  refine rT (v:=aggPr (lfA 2 w.heap.size)) 60 rfl ?_ ?_
  (skip)
  ·intro w' hSw;exact exec_load (p:=.pointer (some ⟨g3,0,none⟩)) rfl rfl hSw.1
  try go_frame
  refine rY 61 rfl fun K hK=>?_
  go_simp
  refine(HI2.out _ B.out).mono ?_
  rintro e wB ⟨rfl,hb3⟩
  replace B:=qD (B.out.step' hb3)
  clear hb3
  (try go_wp2_with fail)
  clear hHeld
  refine hK.out _ _ ?_ fun hHeld=>?_
  ·(try dsimp only);exact KS.out _ B.out
  clear hK K
  try go_frame
  refine rT (v:=?_) 62 rfl ?_ ?_
  rotate_left
  ·intro w' hSw;(try dsimp only at hSw);obtain⟨_,_,hS0,hS1,hS2,hS3,hS4,hS5,hS6,hS7,hS8,hS9,hS10,hS11,hS12,hS13,hS14,hS15,hS16,hS17⟩:=hSw;go_simp;(try with_reducible rfl)
  try go_frame
  refine rT (v:=?_) 63 rfl ?_ ?_
  rotate_left
  ·intro w' hSw;(try dsimp only at hSw);obtain⟨_,_,hS0,hS1,hS2,hS3,hS4,hS5,hS6,hS7,hS8,hS9,hS10,hS11,hS12,hS13,hS14,hS15,hS16,hS17⟩:=hSw;go_simp;(try with_reducible rfl)
  try go_frame
  refine rT (v:=?_) 64 rfl ?_ ?_
  rotate_left
  ·intro w' hSw;(try dsimp only at hSw);obtain⟨_,_,hS0,hS1,hS2,hS3,hS4,hS5,hS6,hS7,hS8,hS9,hS10,hS11,hS12,hS13,hS14,hS15,hS16,hS17⟩:=hSw;go_simp;(try with_reducible rfl)
  try go_frame
  refine rD ?_ _
  refine NoPanic.normal ?_
  clear hHeld
  go_wp2_with fail
  go_ret
  exact⟨rfl,CE.out.step' (KB.out.step' B.out)⟩
def AnyN(w:World)(e:Ending)(w':World):Prop:=∃n:Int,e=.returned (.int .i64 n)∧Below w.heap.size w w'
def SomeB(w:World)(e:Ending)(w':World):Prop:=∃b:Bool,e=.returned (.bool b)∧w'=w
theorem in10_any(n:Int)(w:World):Calls Tryz.prog 127 #[.int .i64 n] w (SomeB w):=by
 go_enter Tryz.func127,Tryz.ntmps127
 go_wp2_with fail
 all_goals go_ret
 all_goals exact⟨_,rfl,rfl⟩
theorem is10_any(x y:Int)(w:World):Calls Tryz.prog 126 #[.agg #[.int .i64 x,.int .i64 y]] w (AnyB w):=by
 go_enter Tryz.func126,Tryz.ntmps126
 go_wp2_with (go_at_call 127;refine(in10_any _ _).mono ?_;rintro e w1 ⟨b,rfl,rfl⟩;cases b)
 all_goals go_ret
 all_goals exact⟨_,rfl,(Below.refl _ _).alloc (qL) _⟩
theorem shape_any(k r:Int)(s:Slc (Int×Int))(w:World)(h:SR 2 recPt w s.A s.n s.c s.xs)(hz:s.n*16≤reach):Calls Tryz.prog 76 #[.agg #[.int .i64 k,s.v,.int .i64 r]] w (AnyN w):=by
 have hzz:s.n≤140737488355328:=by unfold reach at hz;omega
 have H:=qD h
 clear h hz
 have B0:Hid (Blk (w.alloc (.cells #[.int .i64 k,.slice s.A s.n s.c,.int .i64 r] 35)) w.heap.size 35 #[.int .i64 k,.slice s.A s.n s.c,.int .i64 r]):=Blk.new_at rfl
 have BE:=qD ((Below.refl w.heap.size w).alloc (qL) (Obj.cells #[.int .i64 k,.slice s.A s.n s.c,.int .i64 r] 35))
 go_enter Tryz.func76,Tryz.ntmps76
 go_upto_region 1 with fail
 change Code.wp _ _ _ _ (w.alloc (.cells #[.int .i64 k,.slice s.A s.n s.c,.int .i64 r] 35))
 generalize w.alloc (.cells #[.int .i64 k,.slice s.A s.n s.c,.int .i64 r] 35)=wa at*
 have d1:=B0.out.cell 1
 simp at d1
 by_cases h64:64<s.n
 ·go_wp2_with fail
  go_ret
  exact⟨_,rfl,BE.out⟩
 ·go_upto_region 5 with fail
  go_loopw [4] (fun v wr=>∃i:Nat,i≤s.n∧v=.int .i64 i∧Blk wr w.heap.size 35 #[.int .i64 k,.slice s.A s.n s.c,.int .i64 r]∧Below w.heap.size w wr) (fun v _=>s.n-(intOf v).toNat)
  case atStart=>exact⟨0,Nat.zero_le _,rfl,B0.out,BE.out⟩
  case round=>
   obtain⟨i,hi,rfl,hb0,hbe⟩:=hrel
   clear B0 BE d1
   have B0:=qD hb0
   have BE:=qD hbe
   have d0:=B0.out.cell 0
   have d1:=B0.out.cell 1
   have d2:=B0.out.cell 2
   simp at d0 d1 d2
   clear hb0 hbe
   by_cases hlt:i<s.n
   ·obtain⟨b,off,⟨x,y⟩,hA,hb,_,_,hrg⟩:=H.out.row hlt
    have RG:=qD (range_step hrg BE.out hb)
    rw[hA] at d1
    clear hrg hA
    go_wp2_with (first
     | ((with_reducible show wpList _ _ _ (⟨_,.load 157 _,_,_,_,_⟩::_) _ _);refine wpList_mid_w rfl 157 _ rfl b (off+i*2) rfl _ _ RG.out Tryz.underlying157 rfl (by kernel_rfl) ?_)
     | (go_at_call 126;refine(is10_any x y _).mono ?_;rintro e w1 ⟨bb,rfl,hbb⟩;replace B0:=qD (B0.out.step hbb);replace BE:=qD (BE.out.step' hbb);clear hbb;cases bb))
    ·go_ret
     exact⟨_,rfl,BE.out⟩
    ·go_roundw
     case rel=>exact⟨i+1,by omega,by go_num,B0.out,BE.out⟩
     case measure=>simp[intOf];omega
   ·obtain rfl:i=s.n:=by omega
    go_wp2_with (go_at_call 127;refine(in10_any _ _).mono ?_;rintro e w1 ⟨b,rfl,rfl⟩;cases b)
    all_goals go_ret
    all_goals exact⟨_,rfl,BE.out⟩
end Go.Proofs.YtfkdihlbaghajaaGreatDoor
