/- Parts of the proof, joined: MrCall4, MrCall5, ShAwPure, ShKey0. -/
import Derived.Test.YtlicnjecnehaoaaGreatDoorRa1
import Derived.Test.YtlicnjecnehaoaaGreatDoorRa24
import Derived.Test.YtlicnjecnehaoaaGreatDoorRa14
import Derived.Test.YtlicnjecnehaoaaGreatDoorRa17
import Derived.Deep.RegionHeld3
set_option maxRecDepth 100000
set_option maxHeartbeats 16000000
set_option linter.unusedSimpArgs false
namespace Go.Proofs.YtlicnjecnehaoaaGreatDoor
open Go.RowKit
theorem call4_any(n:Nat)(R0:Ro)(M:Mv)(ma:MA)(R:Ro)(a:RA)(o:OpX)(w:World)(hT:Tabs w)(h0:0<w.heap.size)(hs:StR n R0 M ma R)(hkf:KeyF R)(_:n≤40)(hM:MR w ma M)(hR:RR w a R)(hO:IsOp w o)(hok:OpOk o)(hk:o.k=4):
 Calls Tryz.prog 9 #[mval ma M,rval a R,.agg (recOp o).toArray] w (CallOk n R0 M w):=by
 have HT:=qD hT
 have HS:=qD hs
 have HKF:=qD hkf
 have HM:=qD hM
 have HR:=qD hR
 have HOP:=qD hO
 have HOK:=qD hok
 have HLN:Hid ((recOp o).length=80):=recOp_len hO
 clear hT hs hkf hM hR hO hok
 obtain⟨wa,hwa⟩:∃wa,((((w.alloc (.cells (marr ma M) 35)).alloc (.cells (rarr a R) 27)).alloc (.cells (recOp o).toArray 69)).alloc (.cells (marr MA.zero Mv.zero) 35)).alloc (.cells (rarr RA.zero Ro.zero) 27)=wa:=⟨_,rfl⟩
 have B0:Hid (Blk wa w.heap.size 35 (marr ma M)):=by rw[←hwa];exact((((Blk.new_at rfl).alloc _).alloc _).alloc _).alloc _
 have B1:Hid (Blk wa (w.heap.size+1) 27 (rarr a R)):=by rw[←hwa];exact(((Blk.new_at (by simp)).alloc _).alloc _).alloc _
 have B2:Hid (Blk wa (w.heap.size+2) 69 (recOp o).toArray):=by rw[←hwa];exact((Blk.new_at (by simp)).alloc _).alloc _
 have B3:Hid (Blk wa (w.heap.size+3) 35 (marr MA.zero Mv.zero)):=by rw[←hwa];exact(Blk.new_at (by simp)).alloc _
 have B4:Hid (Blk wa (w.heap.size+4) 27 (rarr RA.zero Ro.zero)):=by rw[←hwa];exact Blk.new_at (by simp)
 have BE:Hid (Below w.heap.size w wa):=by rw[←hwa];exact(((((Below.refl _ _).alloc (qL) _).alloc (by simp) _).alloc (by simp;omega) _).alloc (by simp;omega) _).alloc (by simp;omega) _
 have HWS:Hid (wa.heap.size=w.heap.size+5):=by rw[←hwa];simp[Hid]
 have HWA:=qD hwa
 clear hwa
 go_enter Tryz.func9,Tryz.ntmps9
 go_upto_region 1 with fail
 change Code.wp _ _ _ _ (((((w.alloc (.cells (marr ma M) 35)).alloc (.cells (rarr a R) 27)).alloc (.cells (recOp o).toArray 69)).alloc (.cells (marr MA.zero Mv.zero) 35)).alloc (.cells (rarr RA.zero Ro.zero) 27))
 rw[HWA.out]
 clear HWA
 obtain⟨wz,hwz⟩:∃wz,((wa.alloc (.cells (marr MA.zero Mv.zero) 35)).alloc (.cells (marr MA.zero Mv.zero) 35))=wz:=⟨_,rfl⟩
 have hws:=HWS.out
 have C0:Hid (Blk wz w.heap.size 35 (marr ma M)):=by rw[←hwz];exact(B0.out.alloc _).alloc _
 have C1:Hid (Blk wz (w.heap.size+1) 27 (rarr a R)):=by rw[←hwz];exact(B1.out.alloc _).alloc _
 have C2:Hid (Blk wz (w.heap.size+2) 69 (recOp o).toArray):=by rw[←hwz];exact(B2.out.alloc _).alloc _
 have C3:Hid (Blk wz (w.heap.size+3) 35 (marr MA.zero Mv.zero)):=by rw[←hwz];exact(B3.out.alloc _).alloc _
 have C4:Hid (Blk wz (w.heap.size+4) 27 (rarr RA.zero Ro.zero)):=by rw[←hwz];exact(B4.out.alloc _).alloc _
 have C5:Hid (Blk wz (w.heap.size+5) 35 (marr MA.zero Mv.zero)):=by rw[←hwz,←hws];exact(Blk.new_at rfl).alloc _
 have C6:Hid (Blk wz (w.heap.size+6) 35 (marr MA.zero Mv.zero)):=by rw[←hwz,show w.heap.size+6=wa.heap.size+1 from by omega];exact Blk.new_at (by simp)
 have CE:Hid (Below w.heap.size w wz):=by rw[←hwz];exact(BE.out.alloc BE.out.size _).alloc (by rw[size_alloc];have:=BE.out.size;omega) _
 have HWZ:=qD hwz
 clear hwz B0 B1 B2 B3 B4 BE hws
 have E6:Hid (Blk (wz.setRow wa.heap.size (marr MA.zero Mv.zero)) (wa.heap.size+1) 35 (marr MA.zero Mv.zero)):=by rw[HWS.out];exact Blk.row_far C6.out (by omega) _
 have E5:Hid (Blk ((wa.alloc (.cells (marr MA.zero Mv.zero) 35)).alloc (.cells (marr MA.zero Mv.zero) 35)) wa.heap.size 35 (marr MA.zero Mv.zero)):=by rw[HWZ.out,HWS.out];exact C5.out
 rw[←HWZ.out] at E6
 go_upto_region 2 with(first|(refine wpList_store_row rfl 35 _ _ rfl wa.heap.size (marr MA.zero Mv.zero) rfl rfl 35 _ E5.out (by rw[sizeM];rfl) rfl (marr_all _ _) ?_)|(refine wpList_store_row rfl 35 _ _ rfl (wa.heap.size+1) (marr MA.zero Mv.zero) rfl rfl 35 _ E6.out (by rw[sizeM];rfl) rfl (marr_all _ _) ?_))
 change Code.wp _ _ _ _ ((((wa.alloc (.cells (marr MA.zero Mv.zero) 35)).alloc (.cells (marr MA.zero Mv.zero) 35)).setRow wa.heap.size (marr MA.zero Mv.zero)).setRow (wa.heap.size+1) (marr MA.zero Mv.zero))
 rw[HWZ.out,HWS.out]
 have D0:=qD (Blk.row_far (Blk.row_far C0.out (by omega:w.heap.size≠w.heap.size+5) (marr MA.zero Mv.zero)) (by omega:w.heap.size≠w.heap.size+5+1) (marr MA.zero Mv.zero))
 have D1:=qD (Blk.row_far (Blk.row_far C1.out (by omega:w.heap.size+1≠w.heap.size+5) (marr MA.zero Mv.zero)) (by omega:w.heap.size+1≠w.heap.size+5+1) (marr MA.zero Mv.zero))
 have D2:=qD (Blk.row_far (Blk.row_far C2.out (by omega:w.heap.size+2≠w.heap.size+5) (marr MA.zero Mv.zero)) (by omega:w.heap.size+2≠w.heap.size+5+1) (marr MA.zero Mv.zero))
 have D3:=qD (Blk.row_far (Blk.row_far C3.out (by omega:w.heap.size+3≠w.heap.size+5) (marr MA.zero Mv.zero)) (by omega:w.heap.size+3≠w.heap.size+5+1) (marr MA.zero Mv.zero))
 have D4:=qD (Blk.row_far (Blk.row_far C4.out (by omega:w.heap.size+4≠w.heap.size+5) (marr MA.zero Mv.zero)) (by omega:w.heap.size+4≠w.heap.size+5+1) (marr MA.zero Mv.zero))
 have D5:=qD (Blk.row_far (Blk.row C5.out (marr MA.zero Mv.zero)) (by omega:w.heap.size+5≠w.heap.size+5+1) (marr MA.zero Mv.zero))
 have D6:=qD (Blk.row (Blk.row_far C6.out (by omega:w.heap.size+6≠w.heap.size+5) (marr MA.zero Mv.zero)) (marr MA.zero Mv.zero))
 have DE:=qD (below_row (below_row CE.out (by omega:w.heap.size≤w.heap.size+5) (marr MA.zero Mv.zero)) (by omega:w.heap.size≤w.heap.size+5+1) (marr MA.zero Mv.zero))
 change Code.wp _ _ _ _ ((wz.setRow (w.heap.size+5) (marr MA.zero Mv.zero)).setRow (w.heap.size+5+1) (marr MA.zero Mv.zero))
 obtain⟨wd,hwd⟩:∃wd,(wz.setRow (w.heap.size+5) (marr MA.zero Mv.zero)).setRow (w.heap.size+5+1) (marr MA.zero Mv.zero)=wd:=⟨_,rfl⟩
 have G0:Hid (Blk wd w.heap.size 35 (marr ma M)):=by rw[←hwd];exact D0.out
 have G1:Hid (Blk wd (w.heap.size+1) 27 (rarr a R)):=by rw[←hwd];exact D1.out
 have G2:Hid (Blk wd (w.heap.size+2) 69 (recOp o).toArray):=by rw[←hwd];exact D2.out
 have G3:Hid (Blk wd (w.heap.size+3) 35 (marr MA.zero Mv.zero)):=by rw[←hwd];exact D3.out
 have G4:Hid (Blk wd (w.heap.size+4) 27 (rarr RA.zero Ro.zero)):=by rw[←hwd];exact D4.out
 have G5:Hid (Blk wd (w.heap.size+5) 35 (marr MA.zero Mv.zero)):=by rw[←hwd];exact D5.out
 have G6:Hid (Blk wd (w.heap.size+6) 35 (marr MA.zero Mv.zero)):=by rw[←hwd];exact D6.out
 have GE:Hid (Below w.heap.size w wd):=by rw[←hwd];exact DE.out
 rw[hwd]
 clear hwd D0 D1 D2 D3 D4 D5 D6 DE C0 C1 C2 C3 C4 C5 C6 CE HWZ HWS E5 E6
 have k0:wd.cell? ⟨w.heap.size+2,0,none⟩=some (.int .i64 o.k):=G2.out.cellM rfl
 have HPA:Hid (M.st=2→(giveR R M.lo M.tt).2=0∧R.cs.length≤80∧∀q∈(giveR R M.lo M.tt).1.ks,pathB q.p=true):=qD fun h=>by
  have h1:=HS.out.gv (.inr h)
  exact⟨h1.1,h1.2,by rw[(give_parts h1.1).1];exact HKF.out.pa⟩
 obtain⟨⟨N,Q,z⟩,hN⟩:∃r,commitM M R=r:=⟨_,rfl⟩
 have TR3:=HS.out.commit
 rw[hN] at TR3
 have TSM:Hid (∀x,x∈N.cp∨x∈N.ch→SmW x):=TR3.1
 have TS1:Hid (z=0→SameM M N∧Q.ks=R.ks∧Q.sp=R.sp∧∀mb,StR (n+1) R0 N mb Q):=TR3.2
 have HN:=qD hN
 clear TR3 hN
 rw[hk] at k0
 clear hk
 have HP1:Hid (∀y:World,Below w.heap.size w y→Calls Tryz.prog 23 #[.agg (marr ma M),.agg (rarr a R)] y fun e w'=>∃(mb:MA) (rb:RA),e=.returned (.tuple #[mval mb N,rval rb Q,.int .i64 z])∧MR w' mb N∧RR w' rb Q∧Below y.heap.size y w'):=qD fun y hb=>by
  have h:=pcommit M ma R a y (HR.out.step hb) (HM.out.step hb) (fun h=>(HPA.out h).1) (fun h=>(HPA.out h).2.2)
  rw[HN.out] at h
  exact h
 have HP2:Hid (∀y:World,Below w.heap.size w y→Calls Tryz.prog 24 #[.agg (marr ma M),.agg (rarr a R)] y fun e w'=>∃(mb:MA) (rb:RA),e=.returned (.tuple #[mval mb N,rval rb Q,.int .i64 z])∧MR w' mb N∧RR w' rb Q∧Below y.heap.size y w'):=qD fun y hb=>by
  by_cases h2:M.st=2
  ·have h:=rcommit M ma R a y (HR.out.step hb) (HPA.out h2).2.1 (HM.out.step hb) (fun h=>(HPA.out h).1) (fun h=>(HPA.out h).2.2)
   rw[HN.out] at h
   exact h
  ·have e:commitM M R=(Mv.zero,Ro.zero,23):=by unfold commitM;rw[if_neg (fun h=>h2 h.1)]
   rw[HN.out] at e
   injection e with e1 e2
   injection e2 with e2 e3
   subst e1 e2 e3
   refine(rcommit_ref M ma R a y h2).mono ?_
   rintro e w' ⟨rfl,hb2⟩
   exact⟨MA.zero,RA.zero,rfl,MR.zero,RR.zero,hb2⟩
 have HQP:Hid (∀q∈Q.ks,pathB q.p=true):=by
  have e:=HN.out
  unfold commitM at e
  split at e
  ·rename_i h
   injection e with e1 e2
   injection e2 with e2 e3
   rw[Hid,←e2]
   exact(HPA.out h.1).2.2
  ·injection e with e1 e2
   injection e2 with e2 e3
   rw[Hid,←e2]
   intro q hq
   simp[Ro.zero] at hq
 have HC1:=qD (HP1.out wd GE.out)
 go_wp2_with (first|(refine wpList_load_row rfl 35 _ rfl w.heap.size rfl _ _ _ _ G0.out Tryz.underlying35 rfl (by rw[sizeM];rfl) ?_)|(refine wpList_load_row rfl 27 _ rfl (w.heap.size+1) rfl _ _ _ _ G1.out Tryz.underlying27 rfl (by rw[sizeR];rfl) ?_))
 refine HC1.out.mono ?_
 rintro e w1 ⟨pa,ra,rfl,hr,hrr,hb⟩
 have J0:=qD (G0.out.step hb)
 have J1:=qD (G1.out.step hb)
 have J2:=qD (G2.out.step hb)
 have J3:=qD (G3.out.step hb)
 have J4:=qD (G4.out.step hb)
 have J5:=qD (G5.out.step hb)
 have J6:=qD (G6.out.step hb)
 have JE:=qD (GE.out.step' hb)
 have JA:=qD hr
 have JR:=qD hrr
 clear hb hr hrr HC1 k0 G0 G1 G2 G3 G4 G5 G6 GE
 have HZ:Hid (Blk ((w1.alloc (.cells (marr MA.zero Mv.zero) 35)).alloc (.cells (rarr RA.zero Ro.zero) 27)) w1.heap.size 35 (marr MA.zero Mv.zero)):=(Blk.new_at rfl).alloc _
 have HZ2:Hid (Blk ((w1.alloc (.cells (marr MA.zero Mv.zero) 35)).alloc (.cells (rarr RA.zero Ro.zero) 27)) (w1.heap.size+1) 27 (rarr RA.zero Ro.zero)):=Blk.new_at (by simp)
 have Z0:=qD ((J0.out.alloc (.cells (marr MA.zero Mv.zero) 35)).alloc (.cells (rarr RA.zero Ro.zero) 27))
 have Z1:=qD ((J1.out.alloc (.cells (marr MA.zero Mv.zero) 35)).alloc (.cells (rarr RA.zero Ro.zero) 27))
 have Z2:=qD ((J2.out.alloc (.cells (marr MA.zero Mv.zero) 35)).alloc (.cells (rarr RA.zero Ro.zero) 27))
 have Z3:=qD ((J3.out.alloc (.cells (marr MA.zero Mv.zero) 35)).alloc (.cells (rarr RA.zero Ro.zero) 27))
 have Z4:=qD ((J4.out.alloc (.cells (marr MA.zero Mv.zero) 35)).alloc (.cells (rarr RA.zero Ro.zero) 27))
 have Z5:=qD ((J5.out.alloc (.cells (marr MA.zero Mv.zero) 35)).alloc (.cells (rarr RA.zero Ro.zero) 27))
 have Z6:=qD ((J6.out.alloc (.cells (marr MA.zero Mv.zero) 35)).alloc (.cells (rarr RA.zero Ro.zero) 27))
 have ZA:=qD ((JA.out.alloc (.cells (marr MA.zero Mv.zero) 35)).alloc (.cells (rarr RA.zero Ro.zero) 27))
 have ZR:=qD ((JR.out.alloc (.cells (marr MA.zero Mv.zero) 35)).alloc (.cells (rarr RA.zero Ro.zero) 27))
 have ZE:=qD ((JE.out.alloc JE.out.size (Obj.cells (marr MA.zero Mv.zero) 35)).alloc (by rw[size_alloc];have:=JE.out.size;omega) (Obj.cells (rarr RA.zero Ro.zero) 27))
 have hgx:w.heap.size+6<w1.heap.size:=J6.out.lt
 have HZ3:=qD (Blk.row_far HZ2.out (by omega:w1.heap.size+1≠w1.heap.size) (marr pa N))
 go_upto_region 19 with(first|(refine wpList_store_row rfl 35 _ _ rfl w1.heap.size (marr pa N) rfl rfl 35 _ HZ.out (by rw[sizeM];rfl) rfl (marr_all _ _) ?_)|(refine wpList_store_row rfl 27 _ _ rfl (w1.heap.size+1) (rarr ra Q) rfl rfl 27 _ HZ3.out (by rw[sizeR];rfl) rfl (rarr_all _ _) ?_))
 change Code.wp _ _ _ _ ((((w1.alloc (.cells (marr MA.zero Mv.zero) 35)).alloc (.cells (rarr RA.zero Ro.zero) 27)).setRow w1.heap.size (marr pa N)).setRow (w1.heap.size+1) (rarr ra Q))
 have K0:=qD (Blk.row_far (Blk.row_far Z0.out (by omega:w.heap.size≠w1.heap.size) (marr pa N)) (by omega:w.heap.size≠w1.heap.size+1) (rarr ra Q))
 have K1:=qD (Blk.row_far (Blk.row_far Z1.out (by omega:w.heap.size+1≠w1.heap.size) (marr pa N)) (by omega:w.heap.size+1≠w1.heap.size+1) (rarr ra Q))
 have K2:=qD (Blk.row_far (Blk.row_far Z2.out (by omega:w.heap.size+2≠w1.heap.size) (marr pa N)) (by omega:w.heap.size+2≠w1.heap.size+1) (rarr ra Q))
 have K3:=qD (Blk.row_far (Blk.row_far Z3.out (by omega:w.heap.size+3≠w1.heap.size) (marr pa N)) (by omega:w.heap.size+3≠w1.heap.size+1) (rarr ra Q))
 have K4:=qD (Blk.row_far (Blk.row_far Z4.out (by omega:w.heap.size+4≠w1.heap.size) (marr pa N)) (by omega:w.heap.size+4≠w1.heap.size+1) (rarr ra Q))
 have K5:=qD (Blk.row_far (Blk.row_far Z5.out (by omega:w.heap.size+5≠w1.heap.size) (marr pa N)) (by omega:w.heap.size+5≠w1.heap.size+1) (rarr ra Q))
 have K6:=qD (Blk.row_far (Blk.row_far Z6.out (by omega:w.heap.size+6≠w1.heap.size) (marr pa N)) (by omega:w.heap.size+6≠w1.heap.size+1) (rarr ra Q))
 have KX:=qD (Blk.row_far (Blk.row HZ.out (marr pa N)) (by omega:w1.heap.size≠w1.heap.size+1) (rarr ra Q))
 have KS:=qD (Blk.row HZ3.out (rarr ra Q))
 have KA:=qD ((ZA.out.row_move HZ.out (by omega) (marr pa N)).row_ro HZ3.out (by omega) (rarr ra Q))
 have KR:=qD ((ZR.out.row_mv0 HQP.out HZ.out (marr pa N)).row_ro0 HQP.out HZ3.out (rarr ra Q))
 have KE:=qD (below_row (below_row ZE.out (by omega:w.heap.size≤w1.heap.size) (marr pa N)) (by omega:w.heap.size≤w1.heap.size+1) (rarr ra Q))
 clear HZ HZ2 HZ3 ZE J0 J1 J2 J3 J4 J5 J6 JE JA JR Z0 Z1 Z2 Z3 Z4 Z5 Z6 ZA ZR
 generalize (((w1.alloc (.cells (marr MA.zero Mv.zero) 35)).alloc (.cells (rarr RA.zero Ro.zero) 27)).setRow w1.heap.size (marr pa N)).setRow (w1.heap.size+1) (rarr ra Q)=w2 at*
 generalize w1.heap.size=gx at*
 have HC2:=qD (HP2.out w2 KE.out)
 go_wp2_with (first|(refine wpList_load_row rfl 35 _ rfl w.heap.size rfl _ _ _ _ K0.out Tryz.underlying35 rfl (by rw[sizeM];rfl) ?_)|(refine wpList_load_row rfl 27 _ rfl (w.heap.size+1) rfl _ _ _ _ K1.out Tryz.underlying27 rfl (by rw[sizeR];rfl) ?_))
 refine HC2.out.mono ?_
 rintro e w3 ⟨pb,rb,rfl,hr,hrr,hb⟩
 have L0:=qD (K0.out.step hb)
 have L1:=qD (K1.out.step hb)
 have L2:=qD (K2.out.step hb)
 have L3:=qD (K3.out.step hb)
 have L4:=qD (K4.out.step hb)
 have L5:=qD (K5.out.step hb)
 have L6:=qD (K6.out.step hb)
 have LX:=qD (KX.out.step hb)
 have LS:=qD (KS.out.step hb)
 have LA:=qD (KA.out.step hb)
 have LR:=qD (KR.out.step hb)
 have LE:=qD (KE.out.step' hb)
 have LB:=qD hr
 have LT:=qD hrr
 clear hb hr hrr HC2 K0 K1 K2 K3 K4 K5 K6 KX KS KA KR KE
 have HZ:Hid (Blk ((w3.alloc (.cells (marr MA.zero Mv.zero) 35)).alloc (.cells (rarr RA.zero Ro.zero) 27)) w3.heap.size 35 (marr MA.zero Mv.zero)):=(Blk.new_at rfl).alloc _
 have HZ2:Hid (Blk ((w3.alloc (.cells (marr MA.zero Mv.zero) 35)).alloc (.cells (rarr RA.zero Ro.zero) 27)) (w3.heap.size+1) 27 (rarr RA.zero Ro.zero)):=Blk.new_at (by simp)
 have Z0:=qD ((L0.out.alloc (.cells (marr MA.zero Mv.zero) 35)).alloc (.cells (rarr RA.zero Ro.zero) 27))
 have Z1:=qD ((L1.out.alloc (.cells (marr MA.zero Mv.zero) 35)).alloc (.cells (rarr RA.zero Ro.zero) 27))
 have Z2:=qD ((L2.out.alloc (.cells (marr MA.zero Mv.zero) 35)).alloc (.cells (rarr RA.zero Ro.zero) 27))
 have Z3:=qD ((L3.out.alloc (.cells (marr MA.zero Mv.zero) 35)).alloc (.cells (rarr RA.zero Ro.zero) 27))
 have Z4:=qD ((L4.out.alloc (.cells (marr MA.zero Mv.zero) 35)).alloc (.cells (rarr RA.zero Ro.zero) 27))
 have Z5:=qD ((L5.out.alloc (.cells (marr MA.zero Mv.zero) 35)).alloc (.cells (rarr RA.zero Ro.zero) 27))
 have Z6:=qD ((L6.out.alloc (.cells (marr MA.zero Mv.zero) 35)).alloc (.cells (rarr RA.zero Ro.zero) 27))
 have ZX:=qD ((LX.out.alloc (.cells (marr MA.zero Mv.zero) 35)).alloc (.cells (rarr RA.zero Ro.zero) 27))
 have ZS:=qD ((LS.out.alloc (.cells (marr MA.zero Mv.zero) 35)).alloc (.cells (rarr RA.zero Ro.zero) 27))
 have ZA:=qD ((LA.out.alloc (.cells (marr MA.zero Mv.zero) 35)).alloc (.cells (rarr RA.zero Ro.zero) 27))
 have ZB:=qD ((LB.out.alloc (.cells (marr MA.zero Mv.zero) 35)).alloc (.cells (rarr RA.zero Ro.zero) 27))
 have ZR:=qD ((LR.out.alloc (.cells (marr MA.zero Mv.zero) 35)).alloc (.cells (rarr RA.zero Ro.zero) 27))
 have ZT:=qD ((LT.out.alloc (.cells (marr MA.zero Mv.zero) 35)).alloc (.cells (rarr RA.zero Ro.zero) 27))
 have ZE:=qD ((LE.out.alloc LE.out.size (Obj.cells (marr MA.zero Mv.zero) 35)).alloc (by rw[size_alloc];have:=LE.out.size;omega) (Obj.cells (rarr RA.zero Ro.zero) 27))
 have hgy:w.heap.size+6<w3.heap.size:=L6.out.lt
 have hgx2:gx+1<w3.heap.size:=LS.out.lt
 have HZ3:=qD (Blk.row_far HZ2.out (by omega:w3.heap.size+1≠w3.heap.size) (marr pb N))
 go_upto_region 20 with(first|(refine wpList_store_row rfl 35 _ _ rfl w3.heap.size (marr pb N) rfl rfl 35 _ HZ.out (by rw[sizeM];rfl) rfl (marr_all _ _) ?_)|(refine wpList_store_row rfl 27 _ _ rfl (w3.heap.size+1) (rarr rb Q) rfl rfl 27 _ HZ3.out (by rw[sizeR];rfl) rfl (rarr_all _ _) ?_))
 change Code.wp _ _ _ _ ((((w3.alloc (.cells (marr MA.zero Mv.zero) 35)).alloc (.cells (rarr RA.zero Ro.zero) 27)).setRow w3.heap.size (marr pb N)).setRow (w3.heap.size+1) (rarr rb Q))
 have N0:=qD (Blk.row_far (Blk.row_far Z0.out (by omega:w.heap.size≠w3.heap.size) (marr pb N)) (by omega:w.heap.size≠w3.heap.size+1) (rarr rb Q))
 have N1:=qD (Blk.row_far (Blk.row_far Z1.out (by omega:w.heap.size+1≠w3.heap.size) (marr pb N)) (by omega:w.heap.size+1≠w3.heap.size+1) (rarr rb Q))
 have N2:=qD (Blk.row_far (Blk.row_far Z2.out (by omega:w.heap.size+2≠w3.heap.size) (marr pb N)) (by omega:w.heap.size+2≠w3.heap.size+1) (rarr rb Q))
 have N3:=qD (Blk.row_far (Blk.row_far Z3.out (by omega:w.heap.size+3≠w3.heap.size) (marr pb N)) (by omega:w.heap.size+3≠w3.heap.size+1) (rarr rb Q))
 have N4:=qD (Blk.row_far (Blk.row_far Z4.out (by omega:w.heap.size+4≠w3.heap.size) (marr pb N)) (by omega:w.heap.size+4≠w3.heap.size+1) (rarr rb Q))
 have N5:=qD (Blk.row_far (Blk.row_far Z5.out (by omega:w.heap.size+5≠w3.heap.size) (marr pb N)) (by omega:w.heap.size+5≠w3.heap.size+1) (rarr rb Q))
 have N6:=qD (Blk.row_far (Blk.row_far Z6.out (by omega:w.heap.size+6≠w3.heap.size) (marr pb N)) (by omega:w.heap.size+6≠w3.heap.size+1) (rarr rb Q))
 have NY:=qD (Blk.row_far (Blk.row HZ.out (marr pb N)) (by omega:w3.heap.size≠w3.heap.size+1) (rarr rb Q))
 have NU:=qD (Blk.row HZ3.out (rarr rb Q))
 have NX:=qD (Blk.row_far (Blk.row_far ZX.out (by omega:gx≠w3.heap.size) (marr pb N)) (by omega:gx≠w3.heap.size+1) (rarr rb Q))
 have NS:=qD (Blk.row_far (Blk.row_far ZS.out (by omega:(gx+1)≠w3.heap.size) (marr pb N)) (by omega:(gx+1)≠w3.heap.size+1) (rarr rb Q))
 have NA:=qD ((ZA.out.row_move HZ.out (by omega) (marr pb N)).row_ro HZ3.out (by omega) (rarr rb Q))
 have NB:=qD ((ZB.out.row_move HZ.out (by omega) (marr pb N)).row_ro HZ3.out (by omega) (rarr rb Q))
 have NR:=qD ((ZR.out.row_mv0 HQP.out HZ.out (marr pb N)).row_ro0 HQP.out HZ3.out (rarr rb Q))
 have NT:=qD ((ZT.out.row_mv0 HQP.out HZ.out (marr pb N)).row_ro0 HQP.out HZ3.out (rarr rb Q))
 have NE:=qD (below_row (below_row ZE.out (by omega:w.heap.size≤w3.heap.size) (marr pb N)) (by omega:w.heap.size≤w3.heap.size+1) (rarr rb Q))
 clear HZ HZ2 HZ3 ZE L0 L1 L2 L3 L4 L5 L6 LE LX LS LA LB LR LT Z0 Z1 Z2 Z3 Z4 Z5 Z6 ZX ZS ZA ZB ZR ZT
 generalize (((w3.alloc (.cells (marr MA.zero Mv.zero) 35)).alloc (.cells (rarr RA.zero Ro.zero) 27)).setRow w3.heap.size (marr pb N)).setRow (w3.heap.size+1) (rarr rb Q)=w4 at*
 generalize w3.heap.size=gy at*
 have HC3:=qD (sameRo_eq Q ra rb w4 NR.out NT.out)
 go_wp2_with (first|(refine wpList_load_row rfl 27 _ rfl (gx+1) rfl _ _ _ _ NS.out Tryz.underlying27 rfl (by rw[sizeR];rfl) ?_)|(refine wpList_load_row rfl 27 _ rfl (gy+1) rfl _ _ _ _ NU.out Tryz.underlying27 rfl (by rw[sizeR];rfl) ?_))
 refine HC3.out.mono ?_
 rintro e wp ⟨rfl,hb⟩
 have P0:=qD (N0.out.step hb)
 have P1:=qD (N1.out.step hb)
 have P2:=qD (N2.out.step hb)
 have P3:=qD (N3.out.step hb)
 have P4:=qD (N4.out.step hb)
 have P5:=qD (N5.out.step hb)
 have P6:=qD (N6.out.step hb)
 have PX:=qD (NX.out.step hb)
 have PY:=qD (NY.out.step hb)
 have PU:=qD (NU.out.step hb)
 have PA:=qD (NA.out.step hb)
 have PB:=qD (NB.out.step hb)
 have PT:=qD (NT.out.step hb)
 have PE:=qD (NE.out.step' hb)
 clear hb HC3 N0 N1 N2 N3 N4 N5 N6 NX NY NS NU NA NB NR NT NE
 by_cases hz:z=0
 ·subst hz
  have TS2:=qD (TS1.out rfl)
  have TST2:Hid (SameM M N∧∀mb,StR (n+1) R0 N mb Q):=⟨TS2.out.1,TS2.out.2.2.2⟩
  go_upto_region 24 with(first|(refine wpList_load_row rfl 27 _ rfl (gy+1) rfl _ _ _ _ PU.out Tryz.underlying27 rfl (by rw[sizeR];rfl) ?_)|(refine wpList_store_row rfl 27 _ _ rfl (w.heap.size+1) (rarr rb Q) rfl rfl 27 _ P1.out (by rw[sizeR];rfl) rfl (rarr_all _ _) ?_))
  have O1:=qD (Blk.row P1.out (rarr rb Q))
  have O0:=qD (Blk.row_far P0.out (by omega:w.heap.size≠w.heap.size+1) (rarr rb Q))
  have O3:=qD (Blk.row_far P3.out (by omega:w.heap.size+3≠w.heap.size+1) (rarr rb Q))
  have O4:=qD (Blk.row_far P4.out (by omega:w.heap.size+4≠w.heap.size+1) (rarr rb Q))
  have O5:=qD (Blk.row_far P5.out (by omega:w.heap.size+5≠w.heap.size+1) (rarr rb Q))
  have O6:=qD (Blk.row_far P6.out (by omega:w.heap.size+6≠w.heap.size+1) (rarr rb Q))
  have OX:=qD (Blk.row_far PX.out (by omega:gx≠w.heap.size+1) (rarr rb Q))
  have OY:=qD (Blk.row_far PY.out (by omega:gy≠w.heap.size+1) (rarr rb Q))
  have OA:=qD (PA.out.row_ro P1.out (by omega) (rarr rb Q))
  have OB:=qD (PB.out.row_ro P1.out (by omega) (rarr rb Q))
  have OR:=qD (PT.out.keep_r HQP.out (size_setRowM _ _ (rarr rb Q)) (fun _ hk=>setRow_other _ _ _ _ hk) P1.out (HR.out.step PE.out) HKF.out.pos (by rw[←TS2.out.2.2.1];exact O1.out.cell 0))
  have OE:=qD (below_row PE.out (by omega:w.heap.size≤w.heap.size+1) (rarr rb Q))
  clear P0 P1 P2 P3 P4 P5 P6 PX PY PU PA PB PT PE
  generalize wp.setRow (w.heap.size+1) (rarr rb Q)=wo at*
  have B:Hid (Below wo.heap.size wo wo.drew):=qD ((Below.refl wo.heap.size wo).drew)
  refine wp_region_noPanic ?_
  refine wp_region_held_drew (S:=(fun w'=>Blk w' gx 35 (marr pa N)∧Blk w' gy 35 (marr pb N))) (by kernel_rfl) ?_ (fun hHeld=>?_)
  ·(try dsimp only);exact⟨OX.out.step B.out,OY.out.step B.out⟩
  generalize wo.drew=v0 at*
  refine rT (v:=.agg (marr pa N)) 0 rfl ?_ ?_
  ·intro w' hSw;exact exec_row rfl rfl hSw.1 Tryz.underlying35 rfl (by rw[sizeM];rfl)
  try go_frame
  refine rT (v:=.agg (marr pb N)) 1 rfl ?_ ?_
  ·intro w' hSw;exact exec_row rfl rfl hSw.2 Tryz.underlying35 rfl (by rw[sizeM];rfl)
  try go_frame
  refine rU 2 rfl ?_
  try go_frame
  refine rU 3 rfl ?_
  try go_frame
  refine rY 4 rfl fun K hK=>?_
  refine wp_store_row 35 _ _ rfl (w.heap.size+5) (marr pa N) rfl rfl 35 _ (O5.out.step B.out) (by rw[sizeM];rfl) rfl (marr_all _ _) ?_
  have Q5:=qD (Blk.row (O5.out.step B.out) (marr pa N))
  have Q0:=qD (Blk.row_far (O0.out.step B.out) (by omega:w.heap.size≠w.heap.size+5) (marr pa N))
  have Q1:=qD (Blk.row_far (O1.out.step B.out) (by omega:w.heap.size+1≠w.heap.size+5) (marr pa N))
  have Q3:=qD (Blk.row_far (O3.out.step B.out) (by omega:w.heap.size+3≠w.heap.size+5) (marr pa N))
  have Q4:=qD (Blk.row_far (O4.out.step B.out) (by omega:w.heap.size+4≠w.heap.size+5) (marr pa N))
  have Q6:=qD (Blk.row_far (O6.out.step B.out) (by omega:w.heap.size+6≠w.heap.size+5) (marr pa N))
  have QX:=qD (Blk.row_far (OX.out.step B.out) (by omega:gx≠w.heap.size+5) (marr pa N))
  have QY:=qD (Blk.row_far (OY.out.step B.out) (by omega:gy≠w.heap.size+5) (marr pa N))
  have QA:=qD ((OA.out.step B.out).row_move (O5.out.step B.out) (by omega) (marr pa N))
  have QB:=qD ((OB.out.step B.out).row_move (O5.out.step B.out) (by omega) (marr pa N))
  have QE:=qD (below_row (OE.out.step' B.out) (by omega:w.heap.size≤w.heap.size+5) (marr pa N))
  have QR:=qD ((OR.out.step B.out).row_mv0 HQP.out (O5.out.step B.out) (marr pa N))
  generalize v0.setRow (w.heap.size+5) (marr pa N)=v1 at*
  clear hHeld
  refine hK.out _ _ ?_ fun hHeld=>?_
  ·(try dsimp only);exact⟨QX.out,QY.out⟩
  clear hK K
  try go_frame
  refine rY 5 rfl fun K hK=>?_
  refine wp_store_row 35 _ _ rfl (w.heap.size+6) (marr pb N) rfl rfl 35 _ Q6.out (by rw[sizeM];rfl) rfl (marr_all _ _) ?_
  have T6:=qD (Blk.row Q6.out (marr pb N))
  have T0:=qD (Blk.row_far Q0.out (by omega:w.heap.size≠w.heap.size+6) (marr pb N))
  have T1:=qD (Blk.row_far Q1.out (by omega:w.heap.size+1≠w.heap.size+6) (marr pb N))
  have T3:=qD (Blk.row_far Q3.out (by omega:w.heap.size+3≠w.heap.size+6) (marr pb N))
  have T4:=qD (Blk.row_far Q4.out (by omega:w.heap.size+4≠w.heap.size+6) (marr pb N))
  have T5:=qD (Blk.row_far Q5.out (by omega:w.heap.size+5≠w.heap.size+6) (marr pb N))
  have TX:=qD (Blk.row_far QX.out (by omega:gx≠w.heap.size+6) (marr pb N))
  have TY:=qD (Blk.row_far QY.out (by omega:gy≠w.heap.size+6) (marr pb N))
  have TA:=qD (QA.out.row_move Q6.out (by omega) (marr pb N))
  have TB:=qD (QB.out.row_move Q6.out (by omega) (marr pb N))
  have TE:=qD (below_row QE.out (by omega:w.heap.size≤w.heap.size+6) (marr pb N))
  have TR:=qD (QR.out.row_mv0 HQP.out Q6.out (marr pb N))
  generalize v1.setRow (w.heap.size+6) (marr pb N)=wt at*
  clear hHeld
  refine hK.out _ _ ?_ fun hHeld=>?_
  ·(try dsimp only);exact⟨TX.out,TY.out⟩
  clear hK K
  try go_frame
  refine rU 6 rfl ?_
  try go_frame
  refine rU 7 rfl ?_
  try go_frame
  refine rD ?_ _
  refine NoPanic.normal ?_
  have TM:=qD (HM.out.step TE.out)
  have TPA:=HQP
  clear TX TY Q0 Q1 Q3 Q4 Q5 Q6 QA QB QE QX QY QR O0 O1 O3 O4 O5 O6 OA OB OE OX OY OR
  go_upto_region 30 with(first|(refine wpList_load_row rfl 35 _ rfl (w.heap.size+6) rfl _ _ _ _ T6.out Tryz.underlying35 rfl (by rw[sizeM];rfl) ?_)|(refine wpList_store_row rfl 35 _ _ rfl w.heap.size (marr pb N) rfl rfl 35 _ T0.out (by rw[sizeM];rfl) rfl (marr_all _ _) ?_))
  have U0:=qD (Blk.row T0.out (marr pb N))
  have U1:=qD (Blk.row_far T1.out (by omega:w.heap.size+1≠w.heap.size) (marr pb N))
  have U3:=qD (Blk.row_far T3.out (by omega:w.heap.size+3≠w.heap.size) (marr pb N))
  have U4:=qD (Blk.row_far T4.out (by omega:w.heap.size+4≠w.heap.size) (marr pb N))
  have U5:=qD (Blk.row_far T5.out (by omega:w.heap.size+5≠w.heap.size) (marr pb N))
  have U6:=qD (Blk.row_far T6.out (by omega:w.heap.size+6≠w.heap.size) (marr pb N))
  have UA:=qD (TA.out.row_move T0.out h0 (marr pb N))
  have UM:=qD (TB.out.row_move T0.out h0 (marr pb N))
  have UB:=UM
  have UR:=qD (TR.out.row_mv TPA.out T0.out (c:=pb) TST2.out.1)
  have UE:=qD (below_row TE.out (qL) (marr pb N))
  have UST:Hid (StR (n+1) R0 N pb Q∧SameM M N):=⟨TST2.out.2 pb,TST2.out.1⟩
  clear T0 T1 T3 T4 T5 T6 TA TB TM TR TE TST2
  generalize wt.setRow w.heap.size (marr pb N)=wu at*
  have KSS:Hid (∀y:World,Below wu.heap.size wu y→(fun w'=>(Blk w' w.heap.size 35 (marr pb N)∧Blk w' (w.heap.size+1) 27 (rarr rb Q))∧(Blk w' (w.heap.size+5) 35 (marr pa N)∧Blk w' (w.heap.size+6) 35 (marr pb N))) y):=qD fun y hb=>⟨⟨U0.out.step hb,U1.out.step hb⟩,⟨U5.out.step hb,U6.out.step hb⟩⟩
  have HSM:Hid (∀y:World,Below wu.heap.size wu y→Calls Tryz.prog 8 #[.agg (marr pa N),.agg (marr pb N)] y fun e w'=>e=.returned (.bool true)∧Below y.heap.size y w'):=qD fun y hb=>same51_eq N pa pb y (UA.out.step hb) (UB.out.step hb) TSM.out
  have B:Hid (Below wu.heap.size wu wu.drew):=qD ((Below.refl wu.heap.size wu).drew)
  refine wp_region_noPanic ?_
  refine wp_region_held_drew (S:=(fun w'=>(Blk w' w.heap.size 35 (marr pb N)∧Blk w' (w.heap.size+1) 27 (rarr rb Q))∧(Blk w' (w.heap.size+5) 35 (marr pa N)∧Blk w' (w.heap.size+6) 35 (marr pb N)))) (by kernel_rfl) ?_ (fun hHeld=>?_)
  ·(try dsimp only);exact KSS.out _ B.out
  generalize wu.drew=v0 at*
  refine rT (v:=.agg (marr pb N)) 0 rfl ?_ ?_
  ·intro w' hSw;exact exec_row rfl rfl hSw.1.1 Tryz.underlying35 rfl (by rw[sizeM];rfl)
  try go_frame
  refine rT (v:=.agg (rarr rb Q)) 1 rfl ?_ ?_
  ·intro w' hSw;exact exec_row rfl rfl hSw.1.2 Tryz.underlying27 rfl (by rw[sizeR];rfl)
  try go_frame
  refine rU 2 rfl ?_
  try go_frame
  refine rU 3 rfl ?_
  try go_frame
  refine rT (v:=.bool true) 4 rfl ?_ ?_
  ·intro w' hSw;clear hSw;go_simp;(try simp)
  try go_frame
  refine rU 5 rfl ?_
  try go_frame
  refine rT (v:=.agg (marr pa N)) 6 rfl ?_ ?_
  ·intro w' hSw;exact exec_row rfl rfl hSw.2.1 Tryz.underlying35 rfl (by rw[sizeM];rfl)
  try go_frame
  refine rT (v:=.agg (marr pb N)) 7 rfl ?_ ?_
  ·intro w' hSw;exact exec_row rfl rfl hSw.2.2 Tryz.underlying35 rfl (by rw[sizeM];rfl)
  try go_frame
  refine rY 8 rfl fun K hK=>?_
  go_simp
  refine(HSM.out _ B.out).mono ?_
  rintro e3 y1 ⟨rfl,hb⟩
  replace B:=qD (B.out.step' hb)
  clear hb
  (try go_wp2_with fail)
  clear hHeld
  refine hK.out _ _ ?_ fun hHeld=>?_
  ·(try dsimp only);exact KSS.out _ B.out
  clear hK K
  try go_frame
  refine rU 9 rfl ?_
  try go_frame
  refine rY 10 rfl fun K hK=>?_
  refine wp_store_row 35 _ _ rfl (w.heap.size+3) (marr pb N) rfl rfl 35 _ (U3.out.step B.out) (by rw[sizeM];rfl) rfl (marr_all _ _) ?_
  have V3:=qD (Blk.row (U3.out.step B.out) (marr pb N))
  have V0:=qD (Blk.row_far (U0.out.step B.out) (by omega:w.heap.size≠w.heap.size+3) (marr pb N))
  have V1:=qD (Blk.row_far (U1.out.step B.out) (by omega:w.heap.size+1≠w.heap.size+3) (marr pb N))
  have V4:=qD (Blk.row_far (U4.out.step B.out) (by omega:w.heap.size+4≠w.heap.size+3) (marr pb N))
  have V5:=qD (Blk.row_far (U5.out.step B.out) (by omega:w.heap.size+5≠w.heap.size+3) (marr pb N))
  have V6:=qD (Blk.row_far (U6.out.step B.out) (by omega:w.heap.size+6≠w.heap.size+3) (marr pb N))
  have VM:=qD ((UM.out.step B.out).row_move (U3.out.step B.out) (by omega) (marr pb N))
  have VR:=qD ((UR.out.step B.out).row_mv0 TPA.out (U3.out.step B.out) (marr pb N))
  have VE:=qD (below_row (UE.out.step' B.out) (by omega:w.heap.size≤w.heap.size+3) (marr pb N))
  generalize y1.setRow (w.heap.size+3) (marr pb N)=y2 at*
  clear hHeld
  refine hK.out _ _ ?_ fun hHeld=>?_
  ·(try dsimp only);exact⟨⟨V0.out,V1.out⟩,⟨V5.out,V6.out⟩⟩
  clear hK K
  try go_frame
  refine rY 11 rfl fun K hK=>?_
  refine wp_store_row 27 _ _ rfl (w.heap.size+4) (rarr rb Q) rfl rfl 27 _ V4.out (by rw[sizeR];rfl) rfl (rarr_all _ _) ?_
  have X4:=qD (Blk.row V4.out (rarr rb Q))
  have X0:=qD (Blk.row_far V0.out (by omega:w.heap.size≠w.heap.size+4) (rarr rb Q))
  have X1:=qD (Blk.row_far V1.out (by omega:w.heap.size+1≠w.heap.size+4) (rarr rb Q))
  have X3:=qD (Blk.row_far V3.out (by omega:w.heap.size+3≠w.heap.size+4) (rarr rb Q))
  have X5:=qD (Blk.row_far V5.out (by omega:w.heap.size+5≠w.heap.size+4) (rarr rb Q))
  have X6:=qD (Blk.row_far V6.out (by omega:w.heap.size+6≠w.heap.size+4) (rarr rb Q))
  have XM:=qD (VM.out.row_ro V4.out (by omega) (rarr rb Q))
  have XR:=qD (VR.out.row_ro0 TPA.out V4.out (rarr rb Q))
  have XE:=qD (below_row VE.out (by omega:w.heap.size≤w.heap.size+4) (rarr rb Q))
  generalize y2.setRow (w.heap.size+4) (rarr rb Q)=y3 at*
  clear hHeld
  refine hK.out _ _ ?_ fun hHeld=>?_
  ·(try dsimp only);exact⟨⟨X0.out,X1.out⟩,⟨X5.out,X6.out⟩⟩
  clear hK K
  try go_frame
  refine rU 12 rfl ?_
  try go_frame
  refine rD ?_ _
  refine NoPanic.normal ?_
  go_wp2_with fail
  exact bodyPost_ret (results_commit rfl _ (w.heap.size+3) (w.heap.size+4) rfl rfl (.bool true) rfl _ pb N rb Q X3.out X4.out) rfl ⟨N,pb,Q,rb,rfl,UST.out.1,UST.out.2,XM.out,XR.out,XE.out⟩
 ·have hzb:(z==0)=false:=by simpa using hz
  have TS0:Hid (z≠0→StR (n+1) R0 M ma R):=fun _=>HS.out.up
  go_upto_region 24 with fail
  clear hzb
  have B:Hid (Below wp.heap.size wp wp.drew):=qD ((Below.refl wp.heap.size wp).drew)
  refine wp_region_noPanic ?_
  refine wp_region_held_drew (S:=(fun w'=>Blk w' gx 35 (marr pa N)∧Blk w' gy 35 (marr pb N))) (by kernel_rfl) ?_ (fun hHeld=>?_)
  ·(try dsimp only);exact⟨PX.out.step B.out,PY.out.step B.out⟩
  generalize wp.drew=v0 at*
  refine rT (v:=.agg (marr pa N)) 0 rfl ?_ ?_
  ·intro w' hSw;exact exec_row rfl rfl hSw.1 Tryz.underlying35 rfl (by rw[sizeM];rfl)
  try go_frame
  refine rT (v:=.agg (marr pb N)) 1 rfl ?_ ?_
  ·intro w' hSw;exact exec_row rfl rfl hSw.2 Tryz.underlying35 rfl (by rw[sizeM];rfl)
  try go_frame
  refine rU 2 rfl ?_
  try go_frame
  refine rU 3 rfl ?_
  try go_frame
  refine rY 4 rfl fun K hK=>?_
  refine wp_store_row 35 _ _ rfl (w.heap.size+5) (marr pa N) rfl rfl 35 _ (P5.out.step B.out) (by rw[sizeM];rfl) rfl (marr_all _ _) ?_
  have Q5:=qD (Blk.row (P5.out.step B.out) (marr pa N))
  have Q0:=qD (Blk.row_far (P0.out.step B.out) (by omega:w.heap.size≠w.heap.size+5) (marr pa N))
  have Q1:=qD (Blk.row_far (P1.out.step B.out) (by omega:w.heap.size+1≠w.heap.size+5) (marr pa N))
  have Q3:=qD (Blk.row_far (P3.out.step B.out) (by omega:w.heap.size+3≠w.heap.size+5) (marr pa N))
  have Q4:=qD (Blk.row_far (P4.out.step B.out) (by omega:w.heap.size+4≠w.heap.size+5) (marr pa N))
  have Q6:=qD (Blk.row_far (P6.out.step B.out) (by omega:w.heap.size+6≠w.heap.size+5) (marr pa N))
  have QX:=qD (Blk.row_far (PX.out.step B.out) (by omega:gx≠w.heap.size+5) (marr pa N))
  have QY:=qD (Blk.row_far (PY.out.step B.out) (by omega:gy≠w.heap.size+5) (marr pa N))
  have QA:=qD ((PA.out.step B.out).row_move (P5.out.step B.out) (by omega) (marr pa N))
  have QB:=qD ((PB.out.step B.out).row_move (P5.out.step B.out) (by omega) (marr pa N))
  have QE:=qD (below_row (PE.out.step' B.out) (by omega:w.heap.size≤w.heap.size+5) (marr pa N))
  generalize v0.setRow (w.heap.size+5) (marr pa N)=v1 at*
  clear hHeld
  refine hK.out _ _ ?_ fun hHeld=>?_
  ·(try dsimp only);exact⟨QX.out,QY.out⟩
  clear hK K
  try go_frame
  refine rY 5 rfl fun K hK=>?_
  refine wp_store_row 35 _ _ rfl (w.heap.size+6) (marr pb N) rfl rfl 35 _ Q6.out (by rw[sizeM];rfl) rfl (marr_all _ _) ?_
  have T6:=qD (Blk.row Q6.out (marr pb N))
  have T0:=qD (Blk.row_far Q0.out (by omega:w.heap.size≠w.heap.size+6) (marr pb N))
  have T1:=qD (Blk.row_far Q1.out (by omega:w.heap.size+1≠w.heap.size+6) (marr pb N))
  have T3:=qD (Blk.row_far Q3.out (by omega:w.heap.size+3≠w.heap.size+6) (marr pb N))
  have T4:=qD (Blk.row_far Q4.out (by omega:w.heap.size+4≠w.heap.size+6) (marr pb N))
  have T5:=qD (Blk.row_far Q5.out (by omega:w.heap.size+5≠w.heap.size+6) (marr pb N))
  have TX:=qD (Blk.row_far QX.out (by omega:gx≠w.heap.size+6) (marr pb N))
  have TY:=qD (Blk.row_far QY.out (by omega:gy≠w.heap.size+6) (marr pb N))
  have TA:=qD (QA.out.row_move Q6.out (by omega) (marr pb N))
  have TB:=qD (QB.out.row_move Q6.out (by omega) (marr pb N))
  have TE:=qD (below_row QE.out (by omega:w.heap.size≤w.heap.size+6) (marr pb N))
  generalize v1.setRow (w.heap.size+6) (marr pb N)=wt at*
  clear hHeld
  refine hK.out _ _ ?_ fun hHeld=>?_
  ·(try dsimp only);exact⟨TX.out,TY.out⟩
  clear hK K
  try go_frame
  refine rU 6 rfl ?_
  try go_frame
  refine rU 7 rfl ?_
  try go_frame
  refine rD ?_ _
  refine NoPanic.normal ?_
  have TM:=qD (HM.out.step TE.out)
  have TR:=qD (HR.out.step TE.out)
  have TPA:Hid (∀q∈R.ks,pathB q.p=true):=HKF.out.pa
  clear TX TY Q0 Q1 Q3 Q4 Q5 Q6 QA QB QE QX QY P0 P1 P2 P3 P4 P5 P6 PA PB PE PX PY PU PT
  have hzb:(z==0)=false:=by simpa using hz
  have UST:Hid (StR (n+1) R0 M ma R∧SameM M M):=⟨TS0.out hz,SameM.refl M⟩
  go_upto_region 30 with fail
  clear hzb hz TS0
  have U0:=T0
  have U1:=T1
  have U3:=T3
  have U4:=T4
  have U5:=T5
  have U6:=T6
  have UA:=TA
  have UB:=TB
  have UM:=TM
  have UR:=TR
  have UE:=TE
  clear T0 T1 T3 T4 T5 T6 TA TB TM TR TE
  generalize wt=wu at*
  have KSS:Hid (∀y:World,Below wu.heap.size wu y→(fun w'=>(Blk w' w.heap.size 35 (marr ma M)∧Blk w' (w.heap.size+1) 27 (rarr a R))∧(Blk w' (w.heap.size+5) 35 (marr pa N)∧Blk w' (w.heap.size+6) 35 (marr pb N))) y):=qD fun y hb=>⟨⟨U0.out.step hb,U1.out.step hb⟩,⟨U5.out.step hb,U6.out.step hb⟩⟩
  have HSM:Hid (∀y:World,Below wu.heap.size wu y→Calls Tryz.prog 8 #[.agg (marr pa N),.agg (marr pb N)] y fun e w'=>e=.returned (.bool true)∧Below y.heap.size y w'):=qD fun y hb=>same51_eq N pa pb y (UA.out.step hb) (UB.out.step hb) TSM.out
  have B:Hid (Below wu.heap.size wu wu.drew):=qD ((Below.refl wu.heap.size wu).drew)
  refine wp_region_noPanic ?_
  refine wp_region_held_drew (S:=(fun w'=>(Blk w' w.heap.size 35 (marr ma M)∧Blk w' (w.heap.size+1) 27 (rarr a R))∧(Blk w' (w.heap.size+5) 35 (marr pa N)∧Blk w' (w.heap.size+6) 35 (marr pb N)))) (by kernel_rfl) ?_ (fun hHeld=>?_)
  ·(try dsimp only);exact KSS.out _ B.out
  generalize wu.drew=v0 at*
  refine rT (v:=.agg (marr ma M)) 0 rfl ?_ ?_
  ·intro w' hSw;exact exec_row rfl rfl hSw.1.1 Tryz.underlying35 rfl (by rw[sizeM];rfl)
  try go_frame
  refine rT (v:=.agg (rarr a R)) 1 rfl ?_ ?_
  ·intro w' hSw;exact exec_row rfl rfl hSw.1.2 Tryz.underlying27 rfl (by rw[sizeR];rfl)
  try go_frame
  refine rU 2 rfl ?_
  try go_frame
  refine rU 3 rfl ?_
  try go_frame
  refine rT (v:=.bool true) 4 rfl ?_ ?_
  ·intro w' hSw;clear hSw;go_simp;(try simp)
  try go_frame
  refine rU 5 rfl ?_
  try go_frame
  refine rT (v:=.agg (marr pa N)) 6 rfl ?_ ?_
  ·intro w' hSw;exact exec_row rfl rfl hSw.2.1 Tryz.underlying35 rfl (by rw[sizeM];rfl)
  try go_frame
  refine rT (v:=.agg (marr pb N)) 7 rfl ?_ ?_
  ·intro w' hSw;exact exec_row rfl rfl hSw.2.2 Tryz.underlying35 rfl (by rw[sizeM];rfl)
  try go_frame
  refine rY 8 rfl fun K hK=>?_
  go_simp
  refine(HSM.out _ B.out).mono ?_
  rintro e3 y1 ⟨rfl,hb⟩
  replace B:=qD (B.out.step' hb)
  clear hb
  (try go_wp2_with fail)
  clear hHeld
  refine hK.out _ _ ?_ fun hHeld=>?_
  ·(try dsimp only);exact KSS.out _ B.out
  clear hK K
  try go_frame
  refine rU 9 rfl ?_
  try go_frame
  refine rY 10 rfl fun K hK=>?_
  refine wp_store_row 35 _ _ rfl (w.heap.size+3) (marr ma M) rfl rfl 35 _ (U3.out.step B.out) (by rw[sizeM];rfl) rfl (marr_all _ _) ?_
  have V3:=qD (Blk.row (U3.out.step B.out) (marr ma M))
  have V0:=qD (Blk.row_far (U0.out.step B.out) (by omega:w.heap.size≠w.heap.size+3) (marr ma M))
  have V1:=qD (Blk.row_far (U1.out.step B.out) (by omega:w.heap.size+1≠w.heap.size+3) (marr ma M))
  have V4:=qD (Blk.row_far (U4.out.step B.out) (by omega:w.heap.size+4≠w.heap.size+3) (marr ma M))
  have V5:=qD (Blk.row_far (U5.out.step B.out) (by omega:w.heap.size+5≠w.heap.size+3) (marr ma M))
  have V6:=qD (Blk.row_far (U6.out.step B.out) (by omega:w.heap.size+6≠w.heap.size+3) (marr ma M))
  have VM:=qD ((UM.out.step B.out).row_move (U3.out.step B.out) (by omega) (marr ma M))
  have VR:=qD ((UR.out.step B.out).row_mv0 TPA.out (U3.out.step B.out) (marr ma M))
  have VE:=qD (below_row (UE.out.step' B.out) (by omega:w.heap.size≤w.heap.size+3) (marr ma M))
  generalize y1.setRow (w.heap.size+3) (marr ma M)=y2 at*
  clear hHeld
  refine hK.out _ _ ?_ fun hHeld=>?_
  ·(try dsimp only);exact⟨⟨V0.out,V1.out⟩,⟨V5.out,V6.out⟩⟩
  clear hK K
  try go_frame
  refine rY 11 rfl fun K hK=>?_
  refine wp_store_row 27 _ _ rfl (w.heap.size+4) (rarr a R) rfl rfl 27 _ V4.out (by rw[sizeR];rfl) rfl (rarr_all _ _) ?_
  have X4:=qD (Blk.row V4.out (rarr a R))
  have X0:=qD (Blk.row_far V0.out (by omega:w.heap.size≠w.heap.size+4) (rarr a R))
  have X1:=qD (Blk.row_far V1.out (by omega:w.heap.size+1≠w.heap.size+4) (rarr a R))
  have X3:=qD (Blk.row_far V3.out (by omega:w.heap.size+3≠w.heap.size+4) (rarr a R))
  have X5:=qD (Blk.row_far V5.out (by omega:w.heap.size+5≠w.heap.size+4) (rarr a R))
  have X6:=qD (Blk.row_far V6.out (by omega:w.heap.size+6≠w.heap.size+4) (rarr a R))
  have XM:=qD (VM.out.row_ro V4.out (by omega) (rarr a R))
  have XR:=qD (VR.out.row_ro0 TPA.out V4.out (rarr a R))
  have XE:=qD (below_row VE.out (by omega:w.heap.size≤w.heap.size+4) (rarr a R))
  generalize y2.setRow (w.heap.size+4) (rarr a R)=y3 at*
  clear hHeld
  refine hK.out _ _ ?_ fun hHeld=>?_
  ·(try dsimp only);exact⟨⟨X0.out,X1.out⟩,⟨X5.out,X6.out⟩⟩
  clear hK K
  try go_frame
  refine rU 12 rfl ?_
  try go_frame
  refine rD ?_ _
  refine NoPanic.normal ?_
  go_wp2_with fail
  exact bodyPost_ret (results_commit rfl _ (w.heap.size+3) (w.heap.size+4) rfl rfl (.bool true) rfl _ ma M a R X3.out X4.out) rfl ⟨M,ma,R,a,rfl,UST.out.1,UST.out.2,XM.out,XR.out,XE.out⟩
theorem call5_any(n:Nat)(R0:Ro)(M:Mv)(ma:MA)(R:Ro)(a:RA)(o:OpX)(w:World)(hT:Tabs w)(h0:0<w.heap.size)(hs:StR n R0 M ma R)(hkf:KeyF R)(_:n≤40)(hM:MR w ma M)(hR:RR w a R)(hO:IsOp w o)(hok:OpOk o)(hk:o.k=5):
 Calls Tryz.prog 9 #[mval ma M,rval a R,.agg (recOp o).toArray] w (CallOk n R0 M w):=by
 have HT:=qD hT
 have HS:=qD hs
 have HKF:=qD hkf
 have HM:=qD hM
 have HR:=qD hR
 have HOP:=qD hO
 have HOK:=qD hok
 have HLN:Hid ((recOp o).length=80):=recOp_len hO
 clear hT hs hkf hM hR hO hok
 obtain⟨wa,hwa⟩:∃wa,((((w.alloc (.cells (marr ma M) 35)).alloc (.cells (rarr a R) 27)).alloc (.cells (recOp o).toArray 69)).alloc (.cells (marr MA.zero Mv.zero) 35)).alloc (.cells (rarr RA.zero Ro.zero) 27)=wa:=⟨_,rfl⟩
 have B0:Hid (Blk wa w.heap.size 35 (marr ma M)):=by rw[←hwa];exact((((Blk.new_at rfl).alloc _).alloc _).alloc _).alloc _
 have B1:Hid (Blk wa (w.heap.size+1) 27 (rarr a R)):=by rw[←hwa];exact(((Blk.new_at (by simp)).alloc _).alloc _).alloc _
 have B2:Hid (Blk wa (w.heap.size+2) 69 (recOp o).toArray):=by rw[←hwa];exact((Blk.new_at (by simp)).alloc _).alloc _
 have B3:Hid (Blk wa (w.heap.size+3) 35 (marr MA.zero Mv.zero)):=by rw[←hwa];exact(Blk.new_at (by simp)).alloc _
 have B4:Hid (Blk wa (w.heap.size+4) 27 (rarr RA.zero Ro.zero)):=by rw[←hwa];exact Blk.new_at (by simp)
 have BE:Hid (Below w.heap.size w wa):=by rw[←hwa];exact(((((Below.refl _ _).alloc (qL) _).alloc (by simp) _).alloc (by simp;omega) _).alloc (by simp;omega) _).alloc (by simp;omega) _
 have HWS:Hid (wa.heap.size=w.heap.size+5):=by rw[←hwa];simp[Hid]
 have HWA:=qD hwa
 clear hwa
 go_enter Tryz.func9,Tryz.ntmps9
 go_upto_region 1 with fail
 change Code.wp _ _ _ _ (((((w.alloc (.cells (marr ma M) 35)).alloc (.cells (rarr a R) 27)).alloc (.cells (recOp o).toArray 69)).alloc (.cells (marr MA.zero Mv.zero) 35)).alloc (.cells (rarr RA.zero Ro.zero) 27))
 rw[HWA.out]
 clear HWA
 obtain⟨wz,hwz⟩:∃wz,((wa.alloc (.cells (marr MA.zero Mv.zero) 35)).alloc (.cells (marr MA.zero Mv.zero) 35))=wz:=⟨_,rfl⟩
 have hws:=HWS.out
 have C0:Hid (Blk wz w.heap.size 35 (marr ma M)):=by rw[←hwz];exact(B0.out.alloc _).alloc _
 have C1:Hid (Blk wz (w.heap.size+1) 27 (rarr a R)):=by rw[←hwz];exact(B1.out.alloc _).alloc _
 have C2:Hid (Blk wz (w.heap.size+2) 69 (recOp o).toArray):=by rw[←hwz];exact(B2.out.alloc _).alloc _
 have C3:Hid (Blk wz (w.heap.size+3) 35 (marr MA.zero Mv.zero)):=by rw[←hwz];exact(B3.out.alloc _).alloc _
 have C4:Hid (Blk wz (w.heap.size+4) 27 (rarr RA.zero Ro.zero)):=by rw[←hwz];exact(B4.out.alloc _).alloc _
 have C5:Hid (Blk wz (w.heap.size+5) 35 (marr MA.zero Mv.zero)):=by rw[←hwz,←hws];exact(Blk.new_at rfl).alloc _
 have C6:Hid (Blk wz (w.heap.size+6) 35 (marr MA.zero Mv.zero)):=by rw[←hwz,show w.heap.size+6=wa.heap.size+1 from by omega];exact Blk.new_at (by simp)
 have CE:Hid (Below w.heap.size w wz):=by rw[←hwz];exact(BE.out.alloc BE.out.size _).alloc (by rw[size_alloc];have:=BE.out.size;omega) _
 have HWZ:=qD hwz
 clear hwz B0 B1 B2 B3 B4 BE hws
 have E6:Hid (Blk (wz.setRow wa.heap.size (marr MA.zero Mv.zero)) (wa.heap.size+1) 35 (marr MA.zero Mv.zero)):=by rw[HWS.out];exact Blk.row_far C6.out (by omega) _
 have E5:Hid (Blk ((wa.alloc (.cells (marr MA.zero Mv.zero) 35)).alloc (.cells (marr MA.zero Mv.zero) 35)) wa.heap.size 35 (marr MA.zero Mv.zero)):=by rw[HWZ.out,HWS.out];exact C5.out
 rw[←HWZ.out] at E6
 go_upto_region 2 with(first|(refine wpList_store_row rfl 35 _ _ rfl wa.heap.size (marr MA.zero Mv.zero) rfl rfl 35 _ E5.out (by rw[sizeM];rfl) rfl (marr_all _ _) ?_)|(refine wpList_store_row rfl 35 _ _ rfl (wa.heap.size+1) (marr MA.zero Mv.zero) rfl rfl 35 _ E6.out (by rw[sizeM];rfl) rfl (marr_all _ _) ?_))
 change Code.wp _ _ _ _ ((((wa.alloc (.cells (marr MA.zero Mv.zero) 35)).alloc (.cells (marr MA.zero Mv.zero) 35)).setRow wa.heap.size (marr MA.zero Mv.zero)).setRow (wa.heap.size+1) (marr MA.zero Mv.zero))
 rw[HWZ.out,HWS.out]
 have D0:=qD (Blk.row_far (Blk.row_far C0.out (by omega:w.heap.size≠w.heap.size+5) (marr MA.zero Mv.zero)) (by omega:w.heap.size≠w.heap.size+5+1) (marr MA.zero Mv.zero))
 have D1:=qD (Blk.row_far (Blk.row_far C1.out (by omega:w.heap.size+1≠w.heap.size+5) (marr MA.zero Mv.zero)) (by omega:w.heap.size+1≠w.heap.size+5+1) (marr MA.zero Mv.zero))
 have D2:=qD (Blk.row_far (Blk.row_far C2.out (by omega:w.heap.size+2≠w.heap.size+5) (marr MA.zero Mv.zero)) (by omega:w.heap.size+2≠w.heap.size+5+1) (marr MA.zero Mv.zero))
 have D3:=qD (Blk.row_far (Blk.row_far C3.out (by omega:w.heap.size+3≠w.heap.size+5) (marr MA.zero Mv.zero)) (by omega:w.heap.size+3≠w.heap.size+5+1) (marr MA.zero Mv.zero))
 have D4:=qD (Blk.row_far (Blk.row_far C4.out (by omega:w.heap.size+4≠w.heap.size+5) (marr MA.zero Mv.zero)) (by omega:w.heap.size+4≠w.heap.size+5+1) (marr MA.zero Mv.zero))
 have D5:=qD (Blk.row_far (Blk.row C5.out (marr MA.zero Mv.zero)) (by omega:w.heap.size+5≠w.heap.size+5+1) (marr MA.zero Mv.zero))
 have D6:=qD (Blk.row (Blk.row_far C6.out (by omega:w.heap.size+6≠w.heap.size+5) (marr MA.zero Mv.zero)) (marr MA.zero Mv.zero))
 have DE:=qD (below_row (below_row CE.out (by omega:w.heap.size≤w.heap.size+5) (marr MA.zero Mv.zero)) (by omega:w.heap.size≤w.heap.size+5+1) (marr MA.zero Mv.zero))
 change Code.wp _ _ _ _ ((wz.setRow (w.heap.size+5) (marr MA.zero Mv.zero)).setRow (w.heap.size+5+1) (marr MA.zero Mv.zero))
 obtain⟨wd,hwd⟩:∃wd,(wz.setRow (w.heap.size+5) (marr MA.zero Mv.zero)).setRow (w.heap.size+5+1) (marr MA.zero Mv.zero)=wd:=⟨_,rfl⟩
 have G0:Hid (Blk wd w.heap.size 35 (marr ma M)):=by rw[←hwd];exact D0.out
 have G1:Hid (Blk wd (w.heap.size+1) 27 (rarr a R)):=by rw[←hwd];exact D1.out
 have G2:Hid (Blk wd (w.heap.size+2) 69 (recOp o).toArray):=by rw[←hwd];exact D2.out
 have G3:Hid (Blk wd (w.heap.size+3) 35 (marr MA.zero Mv.zero)):=by rw[←hwd];exact D3.out
 have G4:Hid (Blk wd (w.heap.size+4) 27 (rarr RA.zero Ro.zero)):=by rw[←hwd];exact D4.out
 have G5:Hid (Blk wd (w.heap.size+5) 35 (marr MA.zero Mv.zero)):=by rw[←hwd];exact D5.out
 have G6:Hid (Blk wd (w.heap.size+6) 35 (marr MA.zero Mv.zero)):=by rw[←hwd];exact D6.out
 have GE:Hid (Below w.heap.size w wd):=by rw[←hwd];exact DE.out
 rw[hwd]
 clear hwd D0 D1 D2 D3 D4 D5 D6 DE C0 C1 C2 C3 C4 C5 C6 CE HWZ HWS E5 E6
 have k0:wd.cell? ⟨w.heap.size+2,0,none⟩=some (.int .i64 o.k):=G2.out.cellM rfl
 obtain⟨⟨N,z⟩,hN⟩:∃r,abortM M=r:=⟨_,rfl⟩
 have TR3:=HS.out.abort
 rw[hN] at TR3
 have TSM:Hid (∀x,x∈N.cp∨x∈N.ch→SmW x):=TR3.1
 have TST:Hid (z=0→SameM M N∧∀mb,StR (n+1) R0 N mb R):=TR3.2
 have TS0:Hid (z≠0→StR (n+1) R0 M ma R):=fun _=>HS.out.up
 have HN:=qD hN
 clear TR3 hN
 rw[hk] at k0
 clear hk
 have HP1:Hid (∀y:World,Below w.heap.size w y→Calls Tryz.prog 26 #[.agg (marr ma M)] y fun e w'=>∃mb:MA,e=.returned (.tuple #[mval mb N,.int .i64 z])∧MR w' mb N∧Below y.heap.size y w'):=qD fun y hb=>by
  have h:=pabort M ma y (HM.out.step hb)
  rw[HN.out] at h
  exact h
 have HP2:Hid (∀y:World,Below w.heap.size w y→Calls Tryz.prog 27 #[.agg (marr ma M)] y fun e w'=>∃mb:MA,e=.returned (.tuple #[mval mb N,.int .i64 z])∧MR w' mb N∧Below y.heap.size y w'):=qD fun y hb=>by
  have h:=rabort M ma y (HM.out.step hb)
  rw[HN.out] at h
  exact h
 have HC1:=qD (HP1.out wd GE.out)
 go_wp2_with (refine wpList_load_row rfl 35 _ rfl w.heap.size rfl _ _ _ _ G0.out Tryz.underlying35 rfl (by rw[sizeM];rfl) ?_)
 refine HC1.out.mono ?_
 rintro e w1 ⟨pa,rfl,hr,hb⟩
 have J0:=qD (G0.out.step hb)
 have J1:=qD (G1.out.step hb)
 have J2:=qD (G2.out.step hb)
 have J3:=qD (G3.out.step hb)
 have J4:=qD (G4.out.step hb)
 have J5:=qD (G5.out.step hb)
 have J6:=qD (G6.out.step hb)
 have JE:=qD (GE.out.step' hb)
 have JA:=qD hr
 clear hb hr HC1 k0 G0 G1 G2 G3 G4 G5 G6 GE
 go_upto_region 27 with(refine wpList_store_row rfl 35 _ _ rfl (w.heap.size+5) (marr pa N) rfl rfl 35 _ J5.out (by rw[sizeM];rfl) rfl (marr_all _ _) ?_)
 have K5:=qD (Blk.row J5.out (marr pa N))
 have K0:=qD (Blk.row_far J0.out (by omega:w.heap.size≠w.heap.size+5) (marr pa N))
 have K1:=qD (Blk.row_far J1.out (by omega:w.heap.size+1≠w.heap.size+5) (marr pa N))
 have K2:=qD (Blk.row_far J2.out (by omega:w.heap.size+2≠w.heap.size+5) (marr pa N))
 have K3:=qD (Blk.row_far J3.out (by omega:w.heap.size+3≠w.heap.size+5) (marr pa N))
 have K4:=qD (Blk.row_far J4.out (by omega:w.heap.size+4≠w.heap.size+5) (marr pa N))
 have K6:=qD (Blk.row_far J6.out (by omega:w.heap.size+6≠w.heap.size+5) (marr pa N))
 have KA:=qD (JA.out.row_move J5.out (by omega) (marr pa N))
 have KE:=qD (below_row JE.out (by omega:w.heap.size≤w.heap.size+5) (marr pa N))
 clear J0 J1 J2 J3 J4 J5 J6 JE JA
 generalize w1.setRow (w.heap.size+5) (marr pa N)=w2 at*
 have HC2:=qD (HP2.out w2 KE.out)
 go_wp2_with (refine wpList_load_row rfl 35 _ rfl w.heap.size rfl _ _ _ _ K0.out Tryz.underlying35 rfl (by rw[sizeM];rfl) ?_)
 refine HC2.out.mono ?_
 rintro e w3 ⟨pb,rfl,hr,hb⟩
 have L0:=qD (K0.out.step hb)
 have L1:=qD (K1.out.step hb)
 have L2:=qD (K2.out.step hb)
 have L3:=qD (K3.out.step hb)
 have L4:=qD (K4.out.step hb)
 have L5:=qD (K5.out.step hb)
 have L6:=qD (K6.out.step hb)
 have LE:=qD (KE.out.step' hb)
 have LA:=qD (KA.out.step hb)
 have LB:=qD hr
 clear hb hr HC2 K0 K1 K2 K3 K4 K5 K6 KE KA
 go_upto_region 28 with(refine wpList_store_row rfl 35 _ _ rfl (w.heap.size+6) (marr pb N) rfl rfl 35 _ L6.out (by rw[sizeM];rfl) rfl (marr_all _ _) ?_)
 have T6:=qD (Blk.row L6.out (marr pb N))
 have T0:=qD (Blk.row_far L0.out (by omega:w.heap.size≠w.heap.size+6) (marr pb N))
 have T1:=qD (Blk.row_far L1.out (by omega:w.heap.size+1≠w.heap.size+6) (marr pb N))
 have T3:=qD (Blk.row_far L3.out (by omega:w.heap.size+3≠w.heap.size+6) (marr pb N))
 have T4:=qD (Blk.row_far L4.out (by omega:w.heap.size+4≠w.heap.size+6) (marr pb N))
 have T5:=qD (Blk.row_far L5.out (by omega:w.heap.size+5≠w.heap.size+6) (marr pb N))
 have TA:=qD (LA.out.row_move L6.out (by omega) (marr pb N))
 have TB:=qD (LB.out.row_move L6.out (by omega) (marr pb N))
 have TE:=qD (below_row LE.out (by omega:w.heap.size≤w.heap.size+6) (marr pb N))
 have TM:=qD (HM.out.step TE.out)
 have TR:=qD (HR.out.step TE.out)
 have TPA:Hid (∀q∈R.ks,pathB q.p=true):=HKF.out.pa
 clear L0 L1 L2 L3 L4 L5 L6 LE LA LB
 generalize w3.setRow (w.heap.size+6) (marr pb N)=wt at*
 by_cases hz:z=0
 ·subst hz
  have TST2:=qD (TST.out rfl)
  go_upto_region 30 with(first|(refine wpList_load_row rfl 35 _ rfl (w.heap.size+6) rfl _ _ _ _ T6.out Tryz.underlying35 rfl (by rw[sizeM];rfl) ?_)|(refine wpList_store_row rfl 35 _ _ rfl w.heap.size (marr pb N) rfl rfl 35 _ T0.out (by rw[sizeM];rfl) rfl (marr_all _ _) ?_))
  have U0:=qD (Blk.row T0.out (marr pb N))
  have U1:=qD (Blk.row_far T1.out (by omega:w.heap.size+1≠w.heap.size) (marr pb N))
  have U3:=qD (Blk.row_far T3.out (by omega:w.heap.size+3≠w.heap.size) (marr pb N))
  have U4:=qD (Blk.row_far T4.out (by omega:w.heap.size+4≠w.heap.size) (marr pb N))
  have U5:=qD (Blk.row_far T5.out (by omega:w.heap.size+5≠w.heap.size) (marr pb N))
  have U6:=qD (Blk.row_far T6.out (by omega:w.heap.size+6≠w.heap.size) (marr pb N))
  have UA:=qD (TA.out.row_move T0.out h0 (marr pb N))
  have UM:=qD (TB.out.row_move T0.out h0 (marr pb N))
  have UB:=UM
  have UR:=qD (TR.out.row_mv TPA.out T0.out (c:=pb) TST2.out.1)
  have UE:=qD (below_row TE.out (qL) (marr pb N))
  have UST:Hid (StR (n+1) R0 N pb R∧SameM M N):=⟨TST2.out.2 pb,TST2.out.1⟩
  clear T0 T1 T3 T4 T5 T6 TA TB TM TR TE TST2 TST TS0
  generalize wt.setRow w.heap.size (marr pb N)=wu at*
  have KSS:Hid (∀y:World,Below wu.heap.size wu y→(fun w'=>(Blk w' w.heap.size 35 (marr pb N)∧Blk w' (w.heap.size+1) 27 (rarr a R))∧(Blk w' (w.heap.size+5) 35 (marr pa N)∧Blk w' (w.heap.size+6) 35 (marr pb N))) y):=qD fun y hb=>⟨⟨U0.out.step hb,U1.out.step hb⟩,⟨U5.out.step hb,U6.out.step hb⟩⟩
  have HSM:Hid (∀y:World,Below wu.heap.size wu y→Calls Tryz.prog 8 #[.agg (marr pa N),.agg (marr pb N)] y fun e w'=>e=.returned (.bool true)∧Below y.heap.size y w'):=qD fun y hb=>same51_eq N pa pb y (UA.out.step hb) (UB.out.step hb) TSM.out
  have B:Hid (Below wu.heap.size wu wu.drew):=qD ((Below.refl wu.heap.size wu).drew)
  refine wp_region_noPanic ?_
  refine wp_region_held_drew (S:=(fun w'=>(Blk w' w.heap.size 35 (marr pb N)∧Blk w' (w.heap.size+1) 27 (rarr a R))∧(Blk w' (w.heap.size+5) 35 (marr pa N)∧Blk w' (w.heap.size+6) 35 (marr pb N)))) (by kernel_rfl) ?_ (fun hHeld=>?_)
  ·(try dsimp only);exact KSS.out _ B.out
  generalize wu.drew=v0 at*
  refine rT (v:=.agg (marr pb N)) 0 rfl ?_ ?_
  ·intro w' hSw;exact exec_row rfl rfl hSw.1.1 Tryz.underlying35 rfl (by rw[sizeM];rfl)
  try go_frame
  refine rT (v:=.agg (rarr a R)) 1 rfl ?_ ?_
  ·intro w' hSw;exact exec_row rfl rfl hSw.1.2 Tryz.underlying27 rfl (by rw[sizeR];rfl)
  try go_frame
  refine rU 2 rfl ?_
  try go_frame
  refine rU 3 rfl ?_
  try go_frame
  refine rT (v:=.bool true) 4 rfl ?_ ?_
  ·intro w' hSw;clear hSw;go_simp;(try simp)
  try go_frame
  refine rU 5 rfl ?_
  try go_frame
  refine rT (v:=.agg (marr pa N)) 6 rfl ?_ ?_
  ·intro w' hSw;exact exec_row rfl rfl hSw.2.1 Tryz.underlying35 rfl (by rw[sizeM];rfl)
  try go_frame
  refine rT (v:=.agg (marr pb N)) 7 rfl ?_ ?_
  ·intro w' hSw;exact exec_row rfl rfl hSw.2.2 Tryz.underlying35 rfl (by rw[sizeM];rfl)
  try go_frame
  refine rY 8 rfl fun K hK=>?_
  go_simp
  refine(HSM.out _ B.out).mono ?_
  rintro e3 y1 ⟨rfl,hb⟩
  replace B:=qD (B.out.step' hb)
  clear hb
  (try go_wp2_with fail)
  clear hHeld
  refine hK.out _ _ ?_ fun hHeld=>?_
  ·(try dsimp only);exact KSS.out _ B.out
  clear hK K
  try go_frame
  refine rU 9 rfl ?_
  try go_frame
  refine rY 10 rfl fun K hK=>?_
  refine wp_store_row 35 _ _ rfl (w.heap.size+3) (marr pb N) rfl rfl 35 _ (U3.out.step B.out) (by rw[sizeM];rfl) rfl (marr_all _ _) ?_
  have V3:=qD (Blk.row (U3.out.step B.out) (marr pb N))
  have V0:=qD (Blk.row_far (U0.out.step B.out) (by omega:w.heap.size≠w.heap.size+3) (marr pb N))
  have V1:=qD (Blk.row_far (U1.out.step B.out) (by omega:w.heap.size+1≠w.heap.size+3) (marr pb N))
  have V4:=qD (Blk.row_far (U4.out.step B.out) (by omega:w.heap.size+4≠w.heap.size+3) (marr pb N))
  have V5:=qD (Blk.row_far (U5.out.step B.out) (by omega:w.heap.size+5≠w.heap.size+3) (marr pb N))
  have V6:=qD (Blk.row_far (U6.out.step B.out) (by omega:w.heap.size+6≠w.heap.size+3) (marr pb N))
  have VM:=qD ((UM.out.step B.out).row_move (U3.out.step B.out) (by omega) (marr pb N))
  have VR:=qD ((UR.out.step B.out).row_mv0 TPA.out (U3.out.step B.out) (marr pb N))
  have VE:=qD (below_row (UE.out.step' B.out) (by omega:w.heap.size≤w.heap.size+3) (marr pb N))
  generalize y1.setRow (w.heap.size+3) (marr pb N)=y2 at*
  clear hHeld
  refine hK.out _ _ ?_ fun hHeld=>?_
  ·(try dsimp only);exact⟨⟨V0.out,V1.out⟩,⟨V5.out,V6.out⟩⟩
  clear hK K
  try go_frame
  refine rY 11 rfl fun K hK=>?_
  refine wp_store_row 27 _ _ rfl (w.heap.size+4) (rarr a R) rfl rfl 27 _ V4.out (by rw[sizeR];rfl) rfl (rarr_all _ _) ?_
  have X4:=qD (Blk.row V4.out (rarr a R))
  have X0:=qD (Blk.row_far V0.out (by omega:w.heap.size≠w.heap.size+4) (rarr a R))
  have X1:=qD (Blk.row_far V1.out (by omega:w.heap.size+1≠w.heap.size+4) (rarr a R))
  have X3:=qD (Blk.row_far V3.out (by omega:w.heap.size+3≠w.heap.size+4) (rarr a R))
  have X5:=qD (Blk.row_far V5.out (by omega:w.heap.size+5≠w.heap.size+4) (rarr a R))
  have X6:=qD (Blk.row_far V6.out (by omega:w.heap.size+6≠w.heap.size+4) (rarr a R))
  have XM:=qD (VM.out.row_ro V4.out (by omega) (rarr a R))
  have XR:=qD (VR.out.row_ro0 TPA.out V4.out (rarr a R))
  have XE:=qD (below_row VE.out (by omega:w.heap.size≤w.heap.size+4) (rarr a R))
  generalize y2.setRow (w.heap.size+4) (rarr a R)=y3 at*
  clear hHeld
  refine hK.out _ _ ?_ fun hHeld=>?_
  ·(try dsimp only);exact⟨⟨X0.out,X1.out⟩,⟨X5.out,X6.out⟩⟩
  clear hK K
  try go_frame
  refine rU 12 rfl ?_
  try go_frame
  refine rD ?_ _
  refine NoPanic.normal ?_
  go_wp2_with fail
  exact bodyPost_ret (results_commit rfl _ (w.heap.size+3) (w.heap.size+4) rfl rfl (.bool true) rfl _ pb N a R X3.out X4.out) rfl ⟨N,pb,R,a,rfl,UST.out.1,UST.out.2,XM.out,XR.out,XE.out⟩
 ·have hzb:(z==0)=false:=by simpa using hz
  have UST:Hid (StR (n+1) R0 M ma R∧SameM M M):=⟨TS0.out hz,SameM.refl M⟩
  go_upto_region 30 with fail
  clear hzb hz TST TS0
  have U0:=T0
  have U1:=T1
  have U3:=T3
  have U4:=T4
  have U5:=T5
  have U6:=T6
  have UA:=TA
  have UB:=TB
  have UM:=TM
  have UR:=TR
  have UE:=TE
  clear T0 T1 T3 T4 T5 T6 TA TB TM TR TE
  generalize wt=wu at*
  have KSS:Hid (∀y:World,Below wu.heap.size wu y→(fun w'=>(Blk w' w.heap.size 35 (marr ma M)∧Blk w' (w.heap.size+1) 27 (rarr a R))∧(Blk w' (w.heap.size+5) 35 (marr pa N)∧Blk w' (w.heap.size+6) 35 (marr pb N))) y):=qD fun y hb=>⟨⟨U0.out.step hb,U1.out.step hb⟩,⟨U5.out.step hb,U6.out.step hb⟩⟩
  have HSM:Hid (∀y:World,Below wu.heap.size wu y→Calls Tryz.prog 8 #[.agg (marr pa N),.agg (marr pb N)] y fun e w'=>e=.returned (.bool true)∧Below y.heap.size y w'):=qD fun y hb=>same51_eq N pa pb y (UA.out.step hb) (UB.out.step hb) TSM.out
  have B:Hid (Below wu.heap.size wu wu.drew):=qD ((Below.refl wu.heap.size wu).drew)
  refine wp_region_noPanic ?_
  refine wp_region_held_drew (S:=(fun w'=>(Blk w' w.heap.size 35 (marr ma M)∧Blk w' (w.heap.size+1) 27 (rarr a R))∧(Blk w' (w.heap.size+5) 35 (marr pa N)∧Blk w' (w.heap.size+6) 35 (marr pb N)))) (by kernel_rfl) ?_ (fun hHeld=>?_)
  ·(try dsimp only);exact KSS.out _ B.out
  generalize wu.drew=v0 at*
  refine rT (v:=.agg (marr ma M)) 0 rfl ?_ ?_
  ·intro w' hSw;exact exec_row rfl rfl hSw.1.1 Tryz.underlying35 rfl (by rw[sizeM];rfl)
  try go_frame
  refine rT (v:=.agg (rarr a R)) 1 rfl ?_ ?_
  ·intro w' hSw;exact exec_row rfl rfl hSw.1.2 Tryz.underlying27 rfl (by rw[sizeR];rfl)
  try go_frame
  refine rU 2 rfl ?_
  try go_frame
  refine rU 3 rfl ?_
  try go_frame
  refine rT (v:=.bool true) 4 rfl ?_ ?_
  ·intro w' hSw;clear hSw;go_simp;(try simp)
  try go_frame
  refine rU 5 rfl ?_
  try go_frame
  refine rT (v:=.agg (marr pa N)) 6 rfl ?_ ?_
  ·intro w' hSw;exact exec_row rfl rfl hSw.2.1 Tryz.underlying35 rfl (by rw[sizeM];rfl)
  try go_frame
  refine rT (v:=.agg (marr pb N)) 7 rfl ?_ ?_
  ·intro w' hSw;exact exec_row rfl rfl hSw.2.2 Tryz.underlying35 rfl (by rw[sizeM];rfl)
  try go_frame
  refine rY 8 rfl fun K hK=>?_
  go_simp
  refine(HSM.out _ B.out).mono ?_
  rintro e3 y1 ⟨rfl,hb⟩
  replace B:=qD (B.out.step' hb)
  clear hb
  (try go_wp2_with fail)
  clear hHeld
  refine hK.out _ _ ?_ fun hHeld=>?_
  ·(try dsimp only);exact KSS.out _ B.out
  clear hK K
  try go_frame
  refine rU 9 rfl ?_
  try go_frame
  refine rY 10 rfl fun K hK=>?_
  refine wp_store_row 35 _ _ rfl (w.heap.size+3) (marr ma M) rfl rfl 35 _ (U3.out.step B.out) (by rw[sizeM];rfl) rfl (marr_all _ _) ?_
  have V3:=qD (Blk.row (U3.out.step B.out) (marr ma M))
  have V0:=qD (Blk.row_far (U0.out.step B.out) (by omega:w.heap.size≠w.heap.size+3) (marr ma M))
  have V1:=qD (Blk.row_far (U1.out.step B.out) (by omega:w.heap.size+1≠w.heap.size+3) (marr ma M))
  have V4:=qD (Blk.row_far (U4.out.step B.out) (by omega:w.heap.size+4≠w.heap.size+3) (marr ma M))
  have V5:=qD (Blk.row_far (U5.out.step B.out) (by omega:w.heap.size+5≠w.heap.size+3) (marr ma M))
  have V6:=qD (Blk.row_far (U6.out.step B.out) (by omega:w.heap.size+6≠w.heap.size+3) (marr ma M))
  have VM:=qD ((UM.out.step B.out).row_move (U3.out.step B.out) (by omega) (marr ma M))
  have VR:=qD ((UR.out.step B.out).row_mv0 TPA.out (U3.out.step B.out) (marr ma M))
  have VE:=qD (below_row (UE.out.step' B.out) (by omega:w.heap.size≤w.heap.size+3) (marr ma M))
  generalize y1.setRow (w.heap.size+3) (marr ma M)=y2 at*
  clear hHeld
  refine hK.out _ _ ?_ fun hHeld=>?_
  ·(try dsimp only);exact⟨⟨V0.out,V1.out⟩,⟨V5.out,V6.out⟩⟩
  clear hK K
  try go_frame
  refine rY 11 rfl fun K hK=>?_
  refine wp_store_row 27 _ _ rfl (w.heap.size+4) (rarr a R) rfl rfl 27 _ V4.out (by rw[sizeR];rfl) rfl (rarr_all _ _) ?_
  have X4:=qD (Blk.row V4.out (rarr a R))
  have X0:=qD (Blk.row_far V0.out (by omega:w.heap.size≠w.heap.size+4) (rarr a R))
  have X1:=qD (Blk.row_far V1.out (by omega:w.heap.size+1≠w.heap.size+4) (rarr a R))
  have X3:=qD (Blk.row_far V3.out (by omega:w.heap.size+3≠w.heap.size+4) (rarr a R))
  have X5:=qD (Blk.row_far V5.out (by omega:w.heap.size+5≠w.heap.size+4) (rarr a R))
  have X6:=qD (Blk.row_far V6.out (by omega:w.heap.size+6≠w.heap.size+4) (rarr a R))
  have XM:=qD (VM.out.row_ro V4.out (by omega) (rarr a R))
  have XR:=qD (VR.out.row_ro0 TPA.out V4.out (rarr a R))
  have XE:=qD (below_row VE.out (by omega:w.heap.size≤w.heap.size+4) (rarr a R))
  generalize y2.setRow (w.heap.size+4) (rarr a R)=y3 at*
  clear hHeld
  refine hK.out _ _ ?_ fun hHeld=>?_
  ·(try dsimp only);exact⟨⟨X0.out,X1.out⟩,⟨X5.out,X6.out⟩⟩
  clear hK K
  try go_frame
  refine rU 12 rfl ?_
  try go_frame
  refine rD ?_ _
  refine NoPanic.normal ?_
  go_wp2_with fail
  exact bodyPost_ret (results_commit rfl _ (w.heap.size+3) (w.heap.size+4) rfl rfl (.bool true) rfl _ ma M a R X3.out X4.out) rfl ⟨M,ma,R,a,rfl,UST.out.1,UST.out.2,XM.out,XR.out,XE.out⟩
def ka:ByteArray:=⟨#[97]⟩
def vI(n:Int):Val:=.mk 3 n ByteArray.empty [] []
def cI(n:Int):VC:=⟨3,n,ByteArray.empty,none,0,0,none,0,0⟩
def ks1:List Od:=[⟨[ka],false⟩]
theorem sound_i(n:Int):SoundV nameB (vI n):=(SoundV_iff _ _).2 ⟨⟨.inl rfl,.inr (.inr (.inr rfl)),.inr rfl,.inr rfl,.inr (.inr (.inr (.inl rfl)))⟩,by simp[vI,Val.l],by simp[vI,Val.d],by simp[vI,Val.d,NamesP]⟩
theorem sound_null:SoundV nameB nullV:=(SoundV_iff _ _).2 ⟨by simp[HeadP,nullV,Val.k,Val.n,Val.t,Val.l,Val.d],by simp[nullV,Val.l],by simp[nullV,Val.d],by simp[nullV,Val.d,NamesP]⟩
theorem valid_null:validV nullV=true:=by
 have h1:nullV.size=1:=by simp[nullV,Val.size]
 have h2:nullV.height=1:=by simp[nullV,Val.height]
 unfold validV
 rw[decide_eq_true (by omega),decide_eq_true (by omega),soundB_true sound_null]
 rfl
theorem allow_valid{x:Val}(h:validV x=true):allowB x=true:=by unfold allowB;rw[h,Bool.or_true]
theorem st_ka{w:World}{g:Nat}(h:Blk w g 9 #[.string ka]):ST w (some ⟨g,0,none⟩) 1 1 [ka]:=by
 refine⟨⟨rfl,qL,fun _=>⟨g,0,rfl,h.lt,fun i a hi j v hj=>?_⟩⟩,by show 1*16≤reach;decide,fun s hs=>?_⟩
 ·cases i with
  | zero=>
   simp at hi
   subst hi
   cases j with
   | zero=>simp[recT] at hj;subst hj;exact h.cell 0
   | succ j=>simp[recT] at hj
  | succ i=>simp at hi
 ·simp at hs;subst hs;show 1≤reach;decide
theorem ks_ka{w:World}{g1 g2:Nat}(h1:Blk w g1 9 #[.string ka])(h2:Blk w g2 93 #[.slice (some ⟨g1,0,none⟩) 1 1,.bool false]):KS w (some ⟨g2,0,none⟩) 1 1 ks1:=by
 refine⟨[⟨some ⟨g1,0,none⟩,1,1,false⟩],⟨⟨rfl,qL,fun _=>⟨g2,0,rfl,h2.lt,fun i a hi j v hj=>?_⟩⟩,by show 1*32≤reach;decide,rfl,fun i o q ho hq=>?_⟩⟩
 ·cases i with
  | zero=>
   simp at hi
   subst hi
   match j,hj with
   | 0,hj=>simp[recO] at hj;subst hj;exact h2.cell 0
   | 1,hj=>simp[recO] at hj;subst hj;exact h2.cell 1
   | j+2,hj=>simp[recO] at hj
  | succ i=>simp at hi
 ·cases i with
  | zero=>
   simp at ho
   simp[ks1] at hq
   subst ho hq
   exact⟨rfl,st_ka h1⟩
  | succ i=>simp at ho
theorem rw_i{F:Nat→Prop}(n:Int)(w:World):RV F w (cI n) (vI n):=RVs.shut ⟨rfl,rfl,rfl,by show 0≤reach;decide,rfl,qL,by show 0*80≤reach;decide,fun h=>absurd h (by show ¬(0<0);omega),rfl,qL,by show 0*96≤reach;decide,fun h=>absurd h (by show ¬(0<0);omega)⟩
abbrev cD(g:Nat):VC:=⟨5,0,ByteArray.empty,none,0,0,some ⟨g,0,none⟩,1,1⟩
end Go.Proofs.YtlicnjecnehaoaaGreatDoor
