/- Parts of the proof, joined: MrCall1, MrCall2, MrCall3. -/
import Derived.Test.YtlicnjecnehaoaaGreatDoorRa1
import Derived.Test.YtlicnjecnehaoaaGreatDoorRa24
set_option maxRecDepth 100000
set_option maxHeartbeats 16000000
set_option linter.unusedSimpArgs false
namespace Go.Proofs.YtlicnjecnehaoaaGreatDoor
open Go.RowKit
theorem call1_any(n:Nat)(R0:Ro)(M:Mv)(ma:MA)(R:Ro)(a:RA)(o:OpX)(w:World)(hT:Tabs w)(h0:0<w.heap.size)(hs:StR n R0 M ma R)(hkf:KeyF R)(_:n≤40)(hM:MR w ma M)(hR:RR w a R)(hO:IsOp w o)(hok:OpOk o)(hk:o.k=1):
 Calls Tryz.prog 9 #[mval ma M,rval a R,.agg (recOp o).toArray] w (CallOk n R0 M w):=by
 have HT:=qD hT
 have HS:=qD hs
 have HKF:=qD hkf
 have HM:=qD hM
 have HR:=qD hR
 have HOP:=qD hO
 have HOK:=qD hok
 have HLN:Hid ((recOp o).length=80):=recOp_len hO
 clear hT hs hkf hM hR hO hok
 obtain⟨wa,hwa⟩:∃wa,((((w.alloc (.cells (marr ma M) 35)).alloc (.cells (rarr a R) 27)).alloc (.cells (recOp o).toArray 69)).alloc (.cells (marr MA.zero Mv.zero) 35)).alloc (.cells (rarr RA.zero Ro.zero) 27)=wa:=⟨_,rfl⟩
 have B0:Hid (Blk wa w.heap.size 35 (marr ma M)):=by rw[←hwa];exact((((Blk.new_at rfl).alloc _).alloc _).alloc _).alloc _
 have B1:Hid (Blk wa (w.heap.size+1) 27 (rarr a R)):=by rw[←hwa];exact(((Blk.new_at (by simp)).alloc _).alloc _).alloc _
 have B2:Hid (Blk wa (w.heap.size+2) 69 (recOp o).toArray):=by rw[←hwa];exact((Blk.new_at (by simp)).alloc _).alloc _
 have B3:Hid (Blk wa (w.heap.size+3) 35 (marr MA.zero Mv.zero)):=by rw[←hwa];exact(Blk.new_at (by simp)).alloc _
 have B4:Hid (Blk wa (w.heap.size+4) 27 (rarr RA.zero Ro.zero)):=by rw[←hwa];exact Blk.new_at (by simp)
 have BE:Hid (Below w.heap.size w wa):=by rw[←hwa];exact(((((Below.refl _ _).alloc (qL) _).alloc (by simp) _).alloc (by simp;omega) _).alloc (by simp;omega) _).alloc (by simp;omega) _
 have HWS:Hid (wa.heap.size=w.heap.size+5):=by rw[←hwa];simp[Hid]
 have HWA:=qD hwa
 clear hwa
 go_enter Tryz.func9,Tryz.ntmps9
 go_upto_region 1 with fail
 change Code.wp _ _ _ _ (((((w.alloc (.cells (marr ma M) 35)).alloc (.cells (rarr a R) 27)).alloc (.cells (recOp o).toArray 69)).alloc (.cells (marr MA.zero Mv.zero) 35)).alloc (.cells (rarr RA.zero Ro.zero) 27))
 rw[HWA.out]
 clear HWA
 obtain⟨wz,hwz⟩:∃wz,((wa.alloc (.cells (marr MA.zero Mv.zero) 35)).alloc (.cells (marr MA.zero Mv.zero) 35))=wz:=⟨_,rfl⟩
 have hws:=HWS.out
 have C0:Hid (Blk wz w.heap.size 35 (marr ma M)):=by rw[←hwz];exact(B0.out.alloc _).alloc _
 have C1:Hid (Blk wz (w.heap.size+1) 27 (rarr a R)):=by rw[←hwz];exact(B1.out.alloc _).alloc _
 have C2:Hid (Blk wz (w.heap.size+2) 69 (recOp o).toArray):=by rw[←hwz];exact(B2.out.alloc _).alloc _
 have C3:Hid (Blk wz (w.heap.size+3) 35 (marr MA.zero Mv.zero)):=by rw[←hwz];exact(B3.out.alloc _).alloc _
 have C4:Hid (Blk wz (w.heap.size+4) 27 (rarr RA.zero Ro.zero)):=by rw[←hwz];exact(B4.out.alloc _).alloc _
 have C5:Hid (Blk wz (w.heap.size+5) 35 (marr MA.zero Mv.zero)):=by rw[←hwz,←hws];exact(Blk.new_at rfl).alloc _
 have C6:Hid (Blk wz (w.heap.size+6) 35 (marr MA.zero Mv.zero)):=by rw[←hwz,show w.heap.size+6=wa.heap.size+1 from by omega];exact Blk.new_at (by simp)
 have CE:Hid (Below w.heap.size w wz):=by rw[←hwz];exact(BE.out.alloc BE.out.size _).alloc (by rw[size_alloc];have:=BE.out.size;omega) _
 have HWZ:=qD hwz
 clear hwz B0 B1 B2 B3 B4 BE hws
 have E6:Hid (Blk (wz.setRow wa.heap.size (marr MA.zero Mv.zero)) (wa.heap.size+1) 35 (marr MA.zero Mv.zero)):=by rw[HWS.out];exact Blk.row_far C6.out (by omega) _
 have E5:Hid (Blk ((wa.alloc (.cells (marr MA.zero Mv.zero) 35)).alloc (.cells (marr MA.zero Mv.zero) 35)) wa.heap.size 35 (marr MA.zero Mv.zero)):=by rw[HWZ.out,HWS.out];exact C5.out
 rw[←HWZ.out] at E6
 go_upto_region 2 with(first|(refine wpList_store_row rfl 35 _ _ rfl wa.heap.size (marr MA.zero Mv.zero) rfl rfl 35 _ E5.out (by rw[sizeM];rfl) rfl (marr_all _ _) ?_)|(refine wpList_store_row rfl 35 _ _ rfl (wa.heap.size+1) (marr MA.zero Mv.zero) rfl rfl 35 _ E6.out (by rw[sizeM];rfl) rfl (marr_all _ _) ?_))
 change Code.wp _ _ _ _ ((((wa.alloc (.cells (marr MA.zero Mv.zero) 35)).alloc (.cells (marr MA.zero Mv.zero) 35)).setRow wa.heap.size (marr MA.zero Mv.zero)).setRow (wa.heap.size+1) (marr MA.zero Mv.zero))
 rw[HWZ.out,HWS.out]
 have D0:=qD (Blk.row_far (Blk.row_far C0.out (by omega:w.heap.size≠w.heap.size+5) (marr MA.zero Mv.zero)) (by omega:w.heap.size≠w.heap.size+5+1) (marr MA.zero Mv.zero))
 have D1:=qD (Blk.row_far (Blk.row_far C1.out (by omega:w.heap.size+1≠w.heap.size+5) (marr MA.zero Mv.zero)) (by omega:w.heap.size+1≠w.heap.size+5+1) (marr MA.zero Mv.zero))
 have D2:=qD (Blk.row_far (Blk.row_far C2.out (by omega:w.heap.size+2≠w.heap.size+5) (marr MA.zero Mv.zero)) (by omega:w.heap.size+2≠w.heap.size+5+1) (marr MA.zero Mv.zero))
 have D3:=qD (Blk.row_far (Blk.row_far C3.out (by omega:w.heap.size+3≠w.heap.size+5) (marr MA.zero Mv.zero)) (by omega:w.heap.size+3≠w.heap.size+5+1) (marr MA.zero Mv.zero))
 have D4:=qD (Blk.row_far (Blk.row_far C4.out (by omega:w.heap.size+4≠w.heap.size+5) (marr MA.zero Mv.zero)) (by omega:w.heap.size+4≠w.heap.size+5+1) (marr MA.zero Mv.zero))
 have D5:=qD (Blk.row_far (Blk.row C5.out (marr MA.zero Mv.zero)) (by omega:w.heap.size+5≠w.heap.size+5+1) (marr MA.zero Mv.zero))
 have D6:=qD (Blk.row (Blk.row_far C6.out (by omega:w.heap.size+6≠w.heap.size+5) (marr MA.zero Mv.zero)) (marr MA.zero Mv.zero))
 have DE:=qD (below_row (below_row CE.out (by omega:w.heap.size≤w.heap.size+5) (marr MA.zero Mv.zero)) (by omega:w.heap.size≤w.heap.size+5+1) (marr MA.zero Mv.zero))
 change Code.wp _ _ _ _ ((wz.setRow (w.heap.size+5) (marr MA.zero Mv.zero)).setRow (w.heap.size+5+1) (marr MA.zero Mv.zero))
 obtain⟨wd,hwd⟩:∃wd,(wz.setRow (w.heap.size+5) (marr MA.zero Mv.zero)).setRow (w.heap.size+5+1) (marr MA.zero Mv.zero)=wd:=⟨_,rfl⟩
 have G0:Hid (Blk wd w.heap.size 35 (marr ma M)):=by rw[←hwd];exact D0.out
 have G1:Hid (Blk wd (w.heap.size+1) 27 (rarr a R)):=by rw[←hwd];exact D1.out
 have G2:Hid (Blk wd (w.heap.size+2) 69 (recOp o).toArray):=by rw[←hwd];exact D2.out
 have G3:Hid (Blk wd (w.heap.size+3) 35 (marr MA.zero Mv.zero)):=by rw[←hwd];exact D3.out
 have G4:Hid (Blk wd (w.heap.size+4) 27 (rarr RA.zero Ro.zero)):=by rw[←hwd];exact D4.out
 have G5:Hid (Blk wd (w.heap.size+5) 35 (marr MA.zero Mv.zero)):=by rw[←hwd];exact D5.out
 have G6:Hid (Blk wd (w.heap.size+6) 35 (marr MA.zero Mv.zero)):=by rw[←hwd];exact D6.out
 have GE:Hid (Below w.heap.size w wd):=by rw[←hwd];exact DE.out
 rw[hwd]
 clear hwd D0 D1 D2 D3 D4 D5 D6 DE C0 C1 C2 C3 C4 C5 C6 CE HWZ HWS E5 E6
 have k0:wd.cell? ⟨w.heap.size+2,0,none⟩=some (.int .i64 o.k):=G2.out.cellM rfl
 obtain⟨⟨N,z⟩,hN⟩:∃r,copyM M R (o.ps.map Prod.snd)=r:=⟨_,rfl⟩
 have TR3:=HS.out.copy (L:=(o.ps.map Prod.snd)) (by rw[List.length_map,←HOP.out.sl.sr.ln];exact HOK.out.1) (fun d hd=>by obtain⟨p,hp,rfl⟩:=List.mem_map.1 hd;exact⟨HOK.out.2.2 p hp,HOP.out.sm p hp⟩)
 rw[hN] at TR3
 have TSM:Hid (∀x,x∈N.cp∨x∈N.ch→SmW x):=TR3.1
 have TST:Hid (z=0→SameM M N∧∀mb,StR (n+1) R0 N mb R):=TR3.2
 have TS0:Hid (z≠0→StR (n+1) R0 M ma R):=fun _=>HS.out.up
 have HN:=qD hN
 clear TR3 hN
 rw[hk] at k0
 clear hk
 have HP1:Hid (∀y:World,Below w.heap.size w y→Calls Tryz.prog 14 #[.agg (marr ma M),.agg (rarr a R),.slice o.DA o.dn o.dc] y fun e w'=>∃mb:MA,e=.returned (.tuple #[mval mb N,.int .i64 z])∧MR w' mb N∧Below y.heap.size y w'):=qD fun y hb=>by
  have h:=pcopy M ma R a o.ps o.DA o.dn o.dc y (HT.out.step hb) (HR.out.step hb) HKF.out.le (HOP.out.sl.step hb) (Nat.le_trans HOK.out.1 (by omega)) (HM.out.step hb) HS.out.s1
  rw[HN.out] at h
  exact h
 have HP2:Hid (∀y:World,Below w.heap.size w y→Calls Tryz.prog 19 #[.agg (marr ma M),.agg (rarr a R),.slice o.DA o.dn o.dc] y fun e w'=>∃mb:MA,e=.returned (.tuple #[mval mb N,.int .i64 z])∧MR w' mb N∧Below y.heap.size y w'):=qD fun y hb=>by
  have h:=rcopy M ma R a o.ps o.DA o.dn o.dc y (HR.out.step hb) HKF.out.le HKF.out.one (HOP.out.sl.step hb) HOK.out.2.2 (Nat.le_trans HOK.out.1 (by omega)) (HM.out.step hb) HS.out.lo
  rw[HN.out] at h
  exact h
 have HC1:=qD (HP1.out wd GE.out)
 have d1:wd.cell? ⟨w.heap.size+2,1,none⟩=some (.slice o.DA o.dn o.dc):=G2.out.cellM rfl
 go_wp2_with (first|(refine wpList_load_row rfl 35 _ rfl w.heap.size rfl _ _ _ _ G0.out Tryz.underlying35 rfl (by rw[sizeM];rfl) ?_)|(refine wpList_load_row rfl 27 _ rfl (w.heap.size+1) rfl _ _ _ _ G1.out Tryz.underlying27 rfl (by rw[sizeR];rfl) ?_))
 refine HC1.out.mono ?_
 rintro e w1 ⟨pa,rfl,hr,hb⟩
 have J0:=qD (G0.out.step hb)
 have J1:=qD (G1.out.step hb)
 have J2:=qD (G2.out.step hb)
 have J3:=qD (G3.out.step hb)
 have J4:=qD (G4.out.step hb)
 have J5:=qD (G5.out.step hb)
 have J6:=qD (G6.out.step hb)
 have JE:=qD (GE.out.step' hb)
 have JA:=qD hr
 clear hb hr HC1 d1 k0 G0 G1 G2 G3 G4 G5 G6 GE
 go_upto_region 7 with(refine wpList_store_row rfl 35 _ _ rfl (w.heap.size+5) (marr pa N) rfl rfl 35 _ J5.out (by rw[sizeM];rfl) rfl (marr_all _ _) ?_)
 have K5:=qD (Blk.row J5.out (marr pa N))
 have K0:=qD (Blk.row_far J0.out (by omega:w.heap.size≠w.heap.size+5) (marr pa N))
 have K1:=qD (Blk.row_far J1.out (by omega:w.heap.size+1≠w.heap.size+5) (marr pa N))
 have K2:=qD (Blk.row_far J2.out (by omega:w.heap.size+2≠w.heap.size+5) (marr pa N))
 have K3:=qD (Blk.row_far J3.out (by omega:w.heap.size+3≠w.heap.size+5) (marr pa N))
 have K4:=qD (Blk.row_far J4.out (by omega:w.heap.size+4≠w.heap.size+5) (marr pa N))
 have K6:=qD (Blk.row_far J6.out (by omega:w.heap.size+6≠w.heap.size+5) (marr pa N))
 have KA:=qD (JA.out.row_move J5.out (by omega) (marr pa N))
 have KE:=qD (below_row JE.out (by omega:w.heap.size≤w.heap.size+5) (marr pa N))
 clear J0 J1 J2 J3 J4 J5 J6 JE JA
 generalize w1.setRow (w.heap.size+5) (marr pa N)=w2 at*
 have HC2:=qD (HP2.out w2 KE.out)
 have d1:w2.cell? ⟨w.heap.size+2,1,none⟩=some (.slice o.DA o.dn o.dc):=K2.out.cellM rfl
 go_wp2_with (first|(refine wpList_load_row rfl 35 _ rfl w.heap.size rfl _ _ _ _ K0.out Tryz.underlying35 rfl (by rw[sizeM];rfl) ?_)|(refine wpList_load_row rfl 27 _ rfl (w.heap.size+1) rfl _ _ _ _ K1.out Tryz.underlying27 rfl (by rw[sizeR];rfl) ?_))
 refine HC2.out.mono ?_
 rintro e w3 ⟨pb,rfl,hr,hb⟩
 have L0:=qD (K0.out.step hb)
 have L1:=qD (K1.out.step hb)
 have L2:=qD (K2.out.step hb)
 have L3:=qD (K3.out.step hb)
 have L4:=qD (K4.out.step hb)
 have L5:=qD (K5.out.step hb)
 have L6:=qD (K6.out.step hb)
 have LE:=qD (KE.out.step' hb)
 have LA:=qD (KA.out.step hb)
 have LB:=qD hr
 clear hb hr HC2 d1 K0 K1 K2 K3 K4 K5 K6 KE KA
 go_upto_region 28 with(refine wpList_store_row rfl 35 _ _ rfl (w.heap.size+6) (marr pb N) rfl rfl 35 _ L6.out (by rw[sizeM];rfl) rfl (marr_all _ _) ?_)
 have T6:=qD (Blk.row L6.out (marr pb N))
 have T0:=qD (Blk.row_far L0.out (by omega:w.heap.size≠w.heap.size+6) (marr pb N))
 have T1:=qD (Blk.row_far L1.out (by omega:w.heap.size+1≠w.heap.size+6) (marr pb N))
 have T3:=qD (Blk.row_far L3.out (by omega:w.heap.size+3≠w.heap.size+6) (marr pb N))
 have T4:=qD (Blk.row_far L4.out (by omega:w.heap.size+4≠w.heap.size+6) (marr pb N))
 have T5:=qD (Blk.row_far L5.out (by omega:w.heap.size+5≠w.heap.size+6) (marr pb N))
 have TA:=qD (LA.out.row_move L6.out (by omega) (marr pb N))
 have TB:=qD (LB.out.row_move L6.out (by omega) (marr pb N))
 have TE:=qD (below_row LE.out (by omega:w.heap.size≤w.heap.size+6) (marr pb N))
 have TM:=qD (HM.out.step TE.out)
 have TR:=qD (HR.out.step TE.out)
 have TPA:Hid (∀q∈R.ks,pathB q.p=true):=HKF.out.pa
 clear L0 L1 L2 L3 L4 L5 L6 LE LA LB
 generalize w3.setRow (w.heap.size+6) (marr pb N)=wt at*
 by_cases hz:z=0
 ·subst hz
  have TST2:=qD (TST.out rfl)
  go_upto_region 30 with(first|(refine wpList_load_row rfl 35 _ rfl (w.heap.size+6) rfl _ _ _ _ T6.out Tryz.underlying35 rfl (by rw[sizeM];rfl) ?_)|(refine wpList_store_row rfl 35 _ _ rfl w.heap.size (marr pb N) rfl rfl 35 _ T0.out (by rw[sizeM];rfl) rfl (marr_all _ _) ?_))
  have U0:=qD (Blk.row T0.out (marr pb N))
  have U1:=qD (Blk.row_far T1.out (by omega:w.heap.size+1≠w.heap.size) (marr pb N))
  have U3:=qD (Blk.row_far T3.out (by omega:w.heap.size+3≠w.heap.size) (marr pb N))
  have U4:=qD (Blk.row_far T4.out (by omega:w.heap.size+4≠w.heap.size) (marr pb N))
  have U5:=qD (Blk.row_far T5.out (by omega:w.heap.size+5≠w.heap.size) (marr pb N))
  have U6:=qD (Blk.row_far T6.out (by omega:w.heap.size+6≠w.heap.size) (marr pb N))
  have UA:=qD (TA.out.row_move T0.out h0 (marr pb N))
  have UM:=qD (TB.out.row_move T0.out h0 (marr pb N))
  have UB:=UM
  have UR:=qD (TR.out.row_mv TPA.out T0.out (c:=pb) TST2.out.1)
  have UE:=qD (below_row TE.out (qL) (marr pb N))
  have UST:Hid (StR (n+1) R0 N pb R∧SameM M N):=⟨TST2.out.2 pb,TST2.out.1⟩
  clear T0 T1 T3 T4 T5 T6 TA TB TM TR TE TST2 TST TS0
  generalize wt.setRow w.heap.size (marr pb N)=wu at*
  have KSS:Hid (∀y:World,Below wu.heap.size wu y→(fun w'=>(Blk w' w.heap.size 35 (marr pb N)∧Blk w' (w.heap.size+1) 27 (rarr a R))∧(Blk w' (w.heap.size+5) 35 (marr pa N)∧Blk w' (w.heap.size+6) 35 (marr pb N))) y):=qD fun y hb=>⟨⟨U0.out.step hb,U1.out.step hb⟩,⟨U5.out.step hb,U6.out.step hb⟩⟩
  have HSM:Hid (∀y:World,Below wu.heap.size wu y→Calls Tryz.prog 8 #[.agg (marr pa N),.agg (marr pb N)] y fun e w'=>e=.returned (.bool true)∧Below y.heap.size y w'):=qD fun y hb=>same51_eq N pa pb y (UA.out.step hb) (UB.out.step hb) TSM.out
  have B:Hid (Below wu.heap.size wu wu.drew):=qD ((Below.refl wu.heap.size wu).drew)
  refine wp_region_noPanic ?_
  refine wp_region_held_drew (S:=(fun w'=>(Blk w' w.heap.size 35 (marr pb N)∧Blk w' (w.heap.size+1) 27 (rarr a R))∧(Blk w' (w.heap.size+5) 35 (marr pa N)∧Blk w' (w.heap.size+6) 35 (marr pb N)))) (by kernel_rfl) ?_ (fun hHeld=>?_)
  ·(try dsimp only);exact KSS.out _ B.out
  generalize wu.drew=v0 at*
  refine rT (v:=.agg (marr pb N)) 0 rfl ?_ ?_
  ·intro w' hSw;exact exec_row rfl rfl hSw.1.1 Tryz.underlying35 rfl (by rw[sizeM];rfl)
  try go_frame
  refine rT (v:=.agg (rarr a R)) 1 rfl ?_ ?_
  ·intro w' hSw;exact exec_row rfl rfl hSw.1.2 Tryz.underlying27 rfl (by rw[sizeR];rfl)
  try go_frame
  refine rU 2 rfl ?_
  try go_frame
  refine rU 3 rfl ?_
  try go_frame
  refine rT (v:=.bool true) 4 rfl ?_ ?_
  ·intro w' hSw;clear hSw;go_simp;(try simp)
  try go_frame
  refine rU 5 rfl ?_
  try go_frame
  refine rT (v:=.agg (marr pa N)) 6 rfl ?_ ?_
  ·intro w' hSw;exact exec_row rfl rfl hSw.2.1 Tryz.underlying35 rfl (by rw[sizeM];rfl)
  try go_frame
  refine rT (v:=.agg (marr pb N)) 7 rfl ?_ ?_
  ·intro w' hSw;exact exec_row rfl rfl hSw.2.2 Tryz.underlying35 rfl (by rw[sizeM];rfl)
  try go_frame
  refine rY 8 rfl fun K hK=>?_
  go_simp
  refine(HSM.out _ B.out).mono ?_
  rintro e3 y1 ⟨rfl,hb⟩
  replace B:=qD (B.out.step' hb)
  clear hb
  (try go_wp2_with fail)
  clear hHeld
  refine hK.out _ _ ?_ fun hHeld=>?_
  ·(try dsimp only);exact KSS.out _ B.out
  clear hK K
  try go_frame
  refine rU 9 rfl ?_
  try go_frame
  refine rY 10 rfl fun K hK=>?_
  refine wp_store_row 35 _ _ rfl (w.heap.size+3) (marr pb N) rfl rfl 35 _ (U3.out.step B.out) (by rw[sizeM];rfl) rfl (marr_all _ _) ?_
  have V3:=qD (Blk.row (U3.out.step B.out) (marr pb N))
  have V0:=qD (Blk.row_far (U0.out.step B.out) (by omega:w.heap.size≠w.heap.size+3) (marr pb N))
  have V1:=qD (Blk.row_far (U1.out.step B.out) (by omega:w.heap.size+1≠w.heap.size+3) (marr pb N))
  have V4:=qD (Blk.row_far (U4.out.step B.out) (by omega:w.heap.size+4≠w.heap.size+3) (marr pb N))
  have V5:=qD (Blk.row_far (U5.out.step B.out) (by omega:w.heap.size+5≠w.heap.size+3) (marr pb N))
  have V6:=qD (Blk.row_far (U6.out.step B.out) (by omega:w.heap.size+6≠w.heap.size+3) (marr pb N))
  have VM:=qD ((UM.out.step B.out).row_move (U3.out.step B.out) (by omega) (marr pb N))
  have VR:=qD ((UR.out.step B.out).row_mv0 TPA.out (U3.out.step B.out) (marr pb N))
  have VE:=qD (below_row (UE.out.step' B.out) (by omega:w.heap.size≤w.heap.size+3) (marr pb N))
  generalize y1.setRow (w.heap.size+3) (marr pb N)=y2 at*
  clear hHeld
  refine hK.out _ _ ?_ fun hHeld=>?_
  ·(try dsimp only);exact⟨⟨V0.out,V1.out⟩,⟨V5.out,V6.out⟩⟩
  clear hK K
  try go_frame
  refine rY 11 rfl fun K hK=>?_
  refine wp_store_row 27 _ _ rfl (w.heap.size+4) (rarr a R) rfl rfl 27 _ V4.out (by rw[sizeR];rfl) rfl (rarr_all _ _) ?_
  have X4:=qD (Blk.row V4.out (rarr a R))
  have X0:=qD (Blk.row_far V0.out (by omega:w.heap.size≠w.heap.size+4) (rarr a R))
  have X1:=qD (Blk.row_far V1.out (by omega:w.heap.size+1≠w.heap.size+4) (rarr a R))
  have X3:=qD (Blk.row_far V3.out (by omega:w.heap.size+3≠w.heap.size+4) (rarr a R))
  have X5:=qD (Blk.row_far V5.out (by omega:w.heap.size+5≠w.heap.size+4) (rarr a R))
  have X6:=qD (Blk.row_far V6.out (by omega:w.heap.size+6≠w.heap.size+4) (rarr a R))
  have XM:=qD (VM.out.row_ro V4.out (by omega) (rarr a R))
  have XR:=qD (VR.out.row_ro0 TPA.out V4.out (rarr a R))
  have XE:=qD (below_row VE.out (by omega:w.heap.size≤w.heap.size+4) (rarr a R))
  generalize y2.setRow (w.heap.size+4) (rarr a R)=y3 at*
  clear hHeld
  refine hK.out _ _ ?_ fun hHeld=>?_
  ·(try dsimp only);exact⟨⟨X0.out,X1.out⟩,⟨X5.out,X6.out⟩⟩
  clear hK K
  try go_frame
  refine rU 12 rfl ?_
  try go_frame
  refine rD ?_ _
  refine NoPanic.normal ?_
  go_wp2_with fail
  exact bodyPost_ret (results_commit rfl _ (w.heap.size+3) (w.heap.size+4) rfl rfl (.bool true) rfl _ pb N a R X3.out X4.out) rfl ⟨N,pb,R,a,rfl,UST.out.1,UST.out.2,XM.out,XR.out,XE.out⟩
 ·have hzb:(z==0)=false:=by simpa using hz
  have UST:Hid (StR (n+1) R0 M ma R∧SameM M M):=⟨TS0.out hz,SameM.refl M⟩
  go_upto_region 30 with fail
  clear hzb hz TST TS0
  have U0:=T0
  have U1:=T1
  have U3:=T3
  have U4:=T4
  have U5:=T5
  have U6:=T6
  have UA:=TA
  have UB:=TB
  have UM:=TM
  have UR:=TR
  have UE:=TE
  clear T0 T1 T3 T4 T5 T6 TA TB TM TR TE
  generalize wt=wu at*
  have KSS:Hid (∀y:World,Below wu.heap.size wu y→(fun w'=>(Blk w' w.heap.size 35 (marr ma M)∧Blk w' (w.heap.size+1) 27 (rarr a R))∧(Blk w' (w.heap.size+5) 35 (marr pa N)∧Blk w' (w.heap.size+6) 35 (marr pb N))) y):=qD fun y hb=>⟨⟨U0.out.step hb,U1.out.step hb⟩,⟨U5.out.step hb,U6.out.step hb⟩⟩
  have HSM:Hid (∀y:World,Below wu.heap.size wu y→Calls Tryz.prog 8 #[.agg (marr pa N),.agg (marr pb N)] y fun e w'=>e=.returned (.bool true)∧Below y.heap.size y w'):=qD fun y hb=>same51_eq N pa pb y (UA.out.step hb) (UB.out.step hb) TSM.out
  have B:Hid (Below wu.heap.size wu wu.drew):=qD ((Below.refl wu.heap.size wu).drew)
  refine wp_region_noPanic ?_
  refine wp_region_held_drew (S:=(fun w'=>(Blk w' w.heap.size 35 (marr ma M)∧Blk w' (w.heap.size+1) 27 (rarr a R))∧(Blk w' (w.heap.size+5) 35 (marr pa N)∧Blk w' (w.heap.size+6) 35 (marr pb N)))) (by kernel_rfl) ?_ (fun hHeld=>?_)
  ·(try dsimp only);exact KSS.out _ B.out
  generalize wu.drew=v0 at*
  refine rT (v:=.agg (marr ma M)) 0 rfl ?_ ?_
  ·intro w' hSw;exact exec_row rfl rfl hSw.1.1 Tryz.underlying35 rfl (by rw[sizeM];rfl)
  try go_frame
  refine rT (v:=.agg (rarr a R)) 1 rfl ?_ ?_
  ·intro w' hSw;exact exec_row rfl rfl hSw.1.2 Tryz.underlying27 rfl (by rw[sizeR];rfl)
  try go_frame
  refine rU 2 rfl ?_
  try go_frame
  refine rU 3 rfl ?_
  try go_frame
  refine rT (v:=.bool true) 4 rfl ?_ ?_
  ·intro w' hSw;clear hSw;go_simp;(try simp)
  try go_frame
  refine rU 5 rfl ?_
  try go_frame
  refine rT (v:=.agg (marr pa N)) 6 rfl ?_ ?_
  ·intro w' hSw;exact exec_row rfl rfl hSw.2.1 Tryz.underlying35 rfl (by rw[sizeM];rfl)
  try go_frame
  refine rT (v:=.agg (marr pb N)) 7 rfl ?_ ?_
  ·intro w' hSw;exact exec_row rfl rfl hSw.2.2 Tryz.underlying35 rfl (by rw[sizeM];rfl)
  try go_frame
  refine rY 8 rfl fun K hK=>?_
  go_simp
  refine(HSM.out _ B.out).mono ?_
  rintro e3 y1 ⟨rfl,hb⟩
  replace B:=qD (B.out.step' hb)
  clear hb
  (try go_wp2_with fail)
  clear hHeld
  refine hK.out _ _ ?_ fun hHeld=>?_
  ·(try dsimp only);exact KSS.out _ B.out
  clear hK K
  try go_frame
  refine rU 9 rfl ?_
  try go_frame
  refine rY 10 rfl fun K hK=>?_
  refine wp_store_row 35 _ _ rfl (w.heap.size+3) (marr ma M) rfl rfl 35 _ (U3.out.step B.out) (by rw[sizeM];rfl) rfl (marr_all _ _) ?_
  have V3:=qD (Blk.row (U3.out.step B.out) (marr ma M))
  have V0:=qD (Blk.row_far (U0.out.step B.out) (by omega:w.heap.size≠w.heap.size+3) (marr ma M))
  have V1:=qD (Blk.row_far (U1.out.step B.out) (by omega:w.heap.size+1≠w.heap.size+3) (marr ma M))
  have V4:=qD (Blk.row_far (U4.out.step B.out) (by omega:w.heap.size+4≠w.heap.size+3) (marr ma M))
  have V5:=qD (Blk.row_far (U5.out.step B.out) (by omega:w.heap.size+5≠w.heap.size+3) (marr ma M))
  have V6:=qD (Blk.row_far (U6.out.step B.out) (by omega:w.heap.size+6≠w.heap.size+3) (marr ma M))
  have VM:=qD ((UM.out.step B.out).row_move (U3.out.step B.out) (by omega) (marr ma M))
  have VR:=qD ((UR.out.step B.out).row_mv0 TPA.out (U3.out.step B.out) (marr ma M))
  have VE:=qD (below_row (UE.out.step' B.out) (by omega:w.heap.size≤w.heap.size+3) (marr ma M))
  generalize y1.setRow (w.heap.size+3) (marr ma M)=y2 at*
  clear hHeld
  refine hK.out _ _ ?_ fun hHeld=>?_
  ·(try dsimp only);exact⟨⟨V0.out,V1.out⟩,⟨V5.out,V6.out⟩⟩
  clear hK K
  try go_frame
  refine rY 11 rfl fun K hK=>?_
  refine wp_store_row 27 _ _ rfl (w.heap.size+4) (rarr a R) rfl rfl 27 _ V4.out (by rw[sizeR];rfl) rfl (rarr_all _ _) ?_
  have X4:=qD (Blk.row V4.out (rarr a R))
  have X0:=qD (Blk.row_far V0.out (by omega:w.heap.size≠w.heap.size+4) (rarr a R))
  have X1:=qD (Blk.row_far V1.out (by omega:w.heap.size+1≠w.heap.size+4) (rarr a R))
  have X3:=qD (Blk.row_far V3.out (by omega:w.heap.size+3≠w.heap.size+4) (rarr a R))
  have X5:=qD (Blk.row_far V5.out (by omega:w.heap.size+5≠w.heap.size+4) (rarr a R))
  have X6:=qD (Blk.row_far V6.out (by omega:w.heap.size+6≠w.heap.size+4) (rarr a R))
  have XM:=qD (VM.out.row_ro V4.out (by omega) (rarr a R))
  have XR:=qD (VR.out.row_ro0 TPA.out V4.out (rarr a R))
  have XE:=qD (below_row VE.out (by omega:w.heap.size≤w.heap.size+4) (rarr a R))
  generalize y2.setRow (w.heap.size+4) (rarr a R)=y3 at*
  clear hHeld
  refine hK.out _ _ ?_ fun hHeld=>?_
  ·(try dsimp only);exact⟨⟨X0.out,X1.out⟩,⟨X5.out,X6.out⟩⟩
  clear hK K
  try go_frame
  refine rU 12 rfl ?_
  try go_frame
  refine rD ?_ _
  refine NoPanic.normal ?_
  go_wp2_with fail
  exact bodyPost_ret (results_commit rfl _ (w.heap.size+3) (w.heap.size+4) rfl rfl (.bool true) rfl _ ma M a R X3.out X4.out) rfl ⟨M,ma,R,a,rfl,UST.out.1,UST.out.2,XM.out,XR.out,XE.out⟩
theorem call2_any(n:Nat)(R0:Ro)(M:Mv)(ma:MA)(R:Ro)(a:RA)(o:OpX)(w:World)(hT:Tabs w)(h0:0<w.heap.size)(hs:StR n R0 M ma R)(hkf:KeyF R)(hn:n≤40)(hM:MR w ma M)(hR:RR w a R)(hO:IsOp w o)(hok:OpOk o)(hk:o.k=2):
 Calls Tryz.prog 9 #[mval ma M,rval a R,.agg (recOp o).toArray] w (CallOk n R0 M w):=by
 have HT:=qD hT
 have HS:=qD hs
 have HKF:=qD hkf
 have HM:=qD hM
 have HR:=qD hR
 have HOP:=qD hO
 have HOK:=qD hok
 have HLN:Hid ((recOp o).length=80):=recOp_len hO
 clear hT hs hkf hM hR hO hok
 obtain⟨wa,hwa⟩:∃wa,((((w.alloc (.cells (marr ma M) 35)).alloc (.cells (rarr a R) 27)).alloc (.cells (recOp o).toArray 69)).alloc (.cells (marr MA.zero Mv.zero) 35)).alloc (.cells (rarr RA.zero Ro.zero) 27)=wa:=⟨_,rfl⟩
 have B0:Hid (Blk wa w.heap.size 35 (marr ma M)):=by rw[←hwa];exact((((Blk.new_at rfl).alloc _).alloc _).alloc _).alloc _
 have B1:Hid (Blk wa (w.heap.size+1) 27 (rarr a R)):=by rw[←hwa];exact(((Blk.new_at (by simp)).alloc _).alloc _).alloc _
 have B2:Hid (Blk wa (w.heap.size+2) 69 (recOp o).toArray):=by rw[←hwa];exact((Blk.new_at (by simp)).alloc _).alloc _
 have B3:Hid (Blk wa (w.heap.size+3) 35 (marr MA.zero Mv.zero)):=by rw[←hwa];exact(Blk.new_at (by simp)).alloc _
 have B4:Hid (Blk wa (w.heap.size+4) 27 (rarr RA.zero Ro.zero)):=by rw[←hwa];exact Blk.new_at (by simp)
 have BE:Hid (Below w.heap.size w wa):=by rw[←hwa];exact(((((Below.refl _ _).alloc (qL) _).alloc (by simp) _).alloc (by simp;omega) _).alloc (by simp;omega) _).alloc (by simp;omega) _
 have HWS:Hid (wa.heap.size=w.heap.size+5):=by rw[←hwa];simp[Hid]
 have HWA:=qD hwa
 clear hwa
 go_enter Tryz.func9,Tryz.ntmps9
 go_upto_region 1 with fail
 change Code.wp _ _ _ _ (((((w.alloc (.cells (marr ma M) 35)).alloc (.cells (rarr a R) 27)).alloc (.cells (recOp o).toArray 69)).alloc (.cells (marr MA.zero Mv.zero) 35)).alloc (.cells (rarr RA.zero Ro.zero) 27))
 rw[HWA.out]
 clear HWA
 obtain⟨wz,hwz⟩:∃wz,((wa.alloc (.cells (marr MA.zero Mv.zero) 35)).alloc (.cells (marr MA.zero Mv.zero) 35))=wz:=⟨_,rfl⟩
 have hws:=HWS.out
 have C0:Hid (Blk wz w.heap.size 35 (marr ma M)):=by rw[←hwz];exact(B0.out.alloc _).alloc _
 have C1:Hid (Blk wz (w.heap.size+1) 27 (rarr a R)):=by rw[←hwz];exact(B1.out.alloc _).alloc _
 have C2:Hid (Blk wz (w.heap.size+2) 69 (recOp o).toArray):=by rw[←hwz];exact(B2.out.alloc _).alloc _
 have C3:Hid (Blk wz (w.heap.size+3) 35 (marr MA.zero Mv.zero)):=by rw[←hwz];exact(B3.out.alloc _).alloc _
 have C4:Hid (Blk wz (w.heap.size+4) 27 (rarr RA.zero Ro.zero)):=by rw[←hwz];exact(B4.out.alloc _).alloc _
 have C5:Hid (Blk wz (w.heap.size+5) 35 (marr MA.zero Mv.zero)):=by rw[←hwz,←hws];exact(Blk.new_at rfl).alloc _
 have C6:Hid (Blk wz (w.heap.size+6) 35 (marr MA.zero Mv.zero)):=by rw[←hwz,show w.heap.size+6=wa.heap.size+1 from by omega];exact Blk.new_at (by simp)
 have CE:Hid (Below w.heap.size w wz):=by rw[←hwz];exact(BE.out.alloc BE.out.size _).alloc (by rw[size_alloc];have:=BE.out.size;omega) _
 have HWZ:=qD hwz
 clear hwz B0 B1 B2 B3 B4 BE hws
 have E6:Hid (Blk (wz.setRow wa.heap.size (marr MA.zero Mv.zero)) (wa.heap.size+1) 35 (marr MA.zero Mv.zero)):=by rw[HWS.out];exact Blk.row_far C6.out (by omega) _
 have E5:Hid (Blk ((wa.alloc (.cells (marr MA.zero Mv.zero) 35)).alloc (.cells (marr MA.zero Mv.zero) 35)) wa.heap.size 35 (marr MA.zero Mv.zero)):=by rw[HWZ.out,HWS.out];exact C5.out
 rw[←HWZ.out] at E6
 go_upto_region 2 with(first|(refine wpList_store_row rfl 35 _ _ rfl wa.heap.size (marr MA.zero Mv.zero) rfl rfl 35 _ E5.out (by rw[sizeM];rfl) rfl (marr_all _ _) ?_)|(refine wpList_store_row rfl 35 _ _ rfl (wa.heap.size+1) (marr MA.zero Mv.zero) rfl rfl 35 _ E6.out (by rw[sizeM];rfl) rfl (marr_all _ _) ?_))
 change Code.wp _ _ _ _ ((((wa.alloc (.cells (marr MA.zero Mv.zero) 35)).alloc (.cells (marr MA.zero Mv.zero) 35)).setRow wa.heap.size (marr MA.zero Mv.zero)).setRow (wa.heap.size+1) (marr MA.zero Mv.zero))
 rw[HWZ.out,HWS.out]
 have D0:=qD (Blk.row_far (Blk.row_far C0.out (by omega:w.heap.size≠w.heap.size+5) (marr MA.zero Mv.zero)) (by omega:w.heap.size≠w.heap.size+5+1) (marr MA.zero Mv.zero))
 have D1:=qD (Blk.row_far (Blk.row_far C1.out (by omega:w.heap.size+1≠w.heap.size+5) (marr MA.zero Mv.zero)) (by omega:w.heap.size+1≠w.heap.size+5+1) (marr MA.zero Mv.zero))
 have D2:=qD (Blk.row_far (Blk.row_far C2.out (by omega:w.heap.size+2≠w.heap.size+5) (marr MA.zero Mv.zero)) (by omega:w.heap.size+2≠w.heap.size+5+1) (marr MA.zero Mv.zero))
 have D3:=qD (Blk.row_far (Blk.row_far C3.out (by omega:w.heap.size+3≠w.heap.size+5) (marr MA.zero Mv.zero)) (by omega:w.heap.size+3≠w.heap.size+5+1) (marr MA.zero Mv.zero))
 have D4:=qD (Blk.row_far (Blk.row_far C4.out (by omega:w.heap.size+4≠w.heap.size+5) (marr MA.zero Mv.zero)) (by omega:w.heap.size+4≠w.heap.size+5+1) (marr MA.zero Mv.zero))
 have D5:=qD (Blk.row_far (Blk.row C5.out (marr MA.zero Mv.zero)) (by omega:w.heap.size+5≠w.heap.size+5+1) (marr MA.zero Mv.zero))
 have D6:=qD (Blk.row (Blk.row_far C6.out (by omega:w.heap.size+6≠w.heap.size+5) (marr MA.zero Mv.zero)) (marr MA.zero Mv.zero))
 have DE:=qD (below_row (below_row CE.out (by omega:w.heap.size≤w.heap.size+5) (marr MA.zero Mv.zero)) (by omega:w.heap.size≤w.heap.size+5+1) (marr MA.zero Mv.zero))
 change Code.wp _ _ _ _ ((wz.setRow (w.heap.size+5) (marr MA.zero Mv.zero)).setRow (w.heap.size+5+1) (marr MA.zero Mv.zero))
 obtain⟨wd,hwd⟩:∃wd,(wz.setRow (w.heap.size+5) (marr MA.zero Mv.zero)).setRow (w.heap.size+5+1) (marr MA.zero Mv.zero)=wd:=⟨_,rfl⟩
 have G0:Hid (Blk wd w.heap.size 35 (marr ma M)):=by rw[←hwd];exact D0.out
 have G1:Hid (Blk wd (w.heap.size+1) 27 (rarr a R)):=by rw[←hwd];exact D1.out
 have G2:Hid (Blk wd (w.heap.size+2) 69 (recOp o).toArray):=by rw[←hwd];exact D2.out
 have G3:Hid (Blk wd (w.heap.size+3) 35 (marr MA.zero Mv.zero)):=by rw[←hwd];exact D3.out
 have G4:Hid (Blk wd (w.heap.size+4) 27 (rarr RA.zero Ro.zero)):=by rw[←hwd];exact D4.out
 have G5:Hid (Blk wd (w.heap.size+5) 35 (marr MA.zero Mv.zero)):=by rw[←hwd];exact D5.out
 have G6:Hid (Blk wd (w.heap.size+6) 35 (marr MA.zero Mv.zero)):=by rw[←hwd];exact D6.out
 have GE:Hid (Below w.heap.size w wd):=by rw[←hwd];exact DE.out
 rw[hwd]
 clear hwd D0 D1 D2 D3 D4 D5 D6 DE C0 C1 C2 C3 C4 C5 C6 CE HWZ HWS E5 E6
 have k0:wd.cell? ⟨w.heap.size+2,0,none⟩=some (.int .i64 o.k):=G2.out.cellM rfl
 obtain⟨⟨N,z⟩,hN⟩:∃r,noteM M R o.x=r:=⟨_,rfl⟩
 have TR3:=HS.out.noted (x:=o.x) HOK.out.2.1 HOP.out.sd HOP.out.sk
 rw[hN] at TR3
 have TSM:Hid (∀x,x∈N.cp∨x∈N.ch→SmW x):=TR3.1
 have TST:Hid (z=0→SameM M N∧∀mb,StR (n+1) R0 N mb R):=TR3.2
 have TS0:Hid (z≠0→StR (n+1) R0 M ma R):=fun _=>HS.out.up
 have HN:=qD hN
 clear TR3 hN
 rw[hk] at k0
 clear hk
 have HCL:Hid (o.cs.length=78):=HOP.out.is.len
 have HP1:Hid (∀y:World,Below w.heap.size w y→Calls Tryz.prog 20 #[.agg (marr ma M),.agg (rarr a R),.agg o.cs.toArray] y fun e w'=>∃mb:MA,e=.returned (.tuple #[mval mb N,.int .i64 z])∧MR w' mb N∧Below y.heap.size y w'):=qD fun y hb=>by
  have h:=pnote M ma R a o.cs o.x y (HT.out.step hb) (HR.out.step hb) HKF.out.le (HM.out.step hb) (HOP.out.is.step hb) (Nat.le_trans HS.out.cp (by omega)) (Nat.le_trans HS.out.ch (by omega))
  rw[HN.out] at h
  exact h
 have HP2:Hid (∀y:World,Below w.heap.size w y→Calls Tryz.prog 21 #[.agg (marr ma M),.agg (rarr a R),.agg o.cs.toArray] y fun e w'=>∃mb:MA,e=.returned (.tuple #[mval mb N,.int .i64 z])∧MR w' mb N∧Below y.heap.size y w'):=qD fun y hb=>by
  have h:=rnote M ma R a o.cs o.x y (HR.out.step hb) HKF.out.le HKF.out.one (HM.out.step hb) (HOP.out.is.step hb) HS.out.lo HOK.out.2.1 (Nat.le_trans HS.out.ch (by omega))
  rw[HN.out] at h
  exact h
 have HC1:=qD (HP1.out wd GE.out)
 have rw2:Hid (wd.rangeAt (w.heap.size+2) 2 o.cs):=qD fun j v hj=>G2.out.cellM (by show(recOp o)[2+j]?=some v;rw[show 2+j=j+1+1 from by omega];exact hj)
 go_wp2_with (first|(refine wpList_load_row rfl 35 _ rfl w.heap.size rfl _ _ _ _ G0.out Tryz.underlying35 rfl (by rw[sizeM];rfl) ?_)|(refine wpList_load_row rfl 27 _ rfl (w.heap.size+1) rfl _ _ _ _ G1.out Tryz.underlying27 rfl (by rw[sizeR];rfl) ?_)|(refine wpList_load_mid rfl 67 _ rfl (w.heap.size+2) 2 rfl _ _ rw2.out Tryz.underlying67 rfl (by rw[sizeW,HCL.out]) ?_))
 refine HC1.out.mono ?_
 rintro e w1 ⟨pa,rfl,hr,hb⟩
 have J0:=qD (G0.out.step hb)
 have J1:=qD (G1.out.step hb)
 have J2:=qD (G2.out.step hb)
 have J3:=qD (G3.out.step hb)
 have J4:=qD (G4.out.step hb)
 have J5:=qD (G5.out.step hb)
 have J6:=qD (G6.out.step hb)
 have JE:=qD (GE.out.step' hb)
 have JA:=qD hr
 clear hb hr HC1 rw2 k0 G0 G1 G2 G3 G4 G5 G6 GE
 go_upto_region 10 with(refine wpList_store_row rfl 35 _ _ rfl (w.heap.size+5) (marr pa N) rfl rfl 35 _ J5.out (by rw[sizeM];rfl) rfl (marr_all _ _) ?_)
 have K5:=qD (Blk.row J5.out (marr pa N))
 have K0:=qD (Blk.row_far J0.out (by omega:w.heap.size≠w.heap.size+5) (marr pa N))
 have K1:=qD (Blk.row_far J1.out (by omega:w.heap.size+1≠w.heap.size+5) (marr pa N))
 have K2:=qD (Blk.row_far J2.out (by omega:w.heap.size+2≠w.heap.size+5) (marr pa N))
 have K3:=qD (Blk.row_far J3.out (by omega:w.heap.size+3≠w.heap.size+5) (marr pa N))
 have K4:=qD (Blk.row_far J4.out (by omega:w.heap.size+4≠w.heap.size+5) (marr pa N))
 have K6:=qD (Blk.row_far J6.out (by omega:w.heap.size+6≠w.heap.size+5) (marr pa N))
 have KA:=qD (JA.out.row_move J5.out (by omega) (marr pa N))
 have KE:=qD (below_row JE.out (by omega:w.heap.size≤w.heap.size+5) (marr pa N))
 clear J0 J1 J2 J3 J4 J5 J6 JE JA
 generalize w1.setRow (w.heap.size+5) (marr pa N)=w2 at*
 have HC2:=qD (HP2.out w2 KE.out)
 have rw2:Hid (w2.rangeAt (w.heap.size+2) 2 o.cs):=qD fun j v hj=>K2.out.cellM (by show(recOp o)[2+j]?=some v;rw[show 2+j=j+1+1 from by omega];exact hj)
 go_wp2_with (first|(refine wpList_load_row rfl 35 _ rfl w.heap.size rfl _ _ _ _ K0.out Tryz.underlying35 rfl (by rw[sizeM];rfl) ?_)|(refine wpList_load_row rfl 27 _ rfl (w.heap.size+1) rfl _ _ _ _ K1.out Tryz.underlying27 rfl (by rw[sizeR];rfl) ?_)|(refine wpList_load_mid rfl 67 _ rfl (w.heap.size+2) 2 rfl _ _ rw2.out Tryz.underlying67 rfl (by rw[sizeW,HCL.out]) ?_))
 refine HC2.out.mono ?_
 rintro e w3 ⟨pb,rfl,hr,hb⟩
 have L0:=qD (K0.out.step hb)
 have L1:=qD (K1.out.step hb)
 have L2:=qD (K2.out.step hb)
 have L3:=qD (K3.out.step hb)
 have L4:=qD (K4.out.step hb)
 have L5:=qD (K5.out.step hb)
 have L6:=qD (K6.out.step hb)
 have LE:=qD (KE.out.step' hb)
 have LA:=qD (KA.out.step hb)
 have LB:=qD hr
 clear hb hr HC2 rw2 K0 K1 K2 K3 K4 K5 K6 KE KA
 go_upto_region 28 with(refine wpList_store_row rfl 35 _ _ rfl (w.heap.size+6) (marr pb N) rfl rfl 35 _ L6.out (by rw[sizeM];rfl) rfl (marr_all _ _) ?_)
 have T6:=qD (Blk.row L6.out (marr pb N))
 have T0:=qD (Blk.row_far L0.out (by omega:w.heap.size≠w.heap.size+6) (marr pb N))
 have T1:=qD (Blk.row_far L1.out (by omega:w.heap.size+1≠w.heap.size+6) (marr pb N))
 have T3:=qD (Blk.row_far L3.out (by omega:w.heap.size+3≠w.heap.size+6) (marr pb N))
 have T4:=qD (Blk.row_far L4.out (by omega:w.heap.size+4≠w.heap.size+6) (marr pb N))
 have T5:=qD (Blk.row_far L5.out (by omega:w.heap.size+5≠w.heap.size+6) (marr pb N))
 have TA:=qD (LA.out.row_move L6.out (by omega) (marr pb N))
 have TB:=qD (LB.out.row_move L6.out (by omega) (marr pb N))
 have TE:=qD (below_row LE.out (by omega:w.heap.size≤w.heap.size+6) (marr pb N))
 have TM:=qD (HM.out.step TE.out)
 have TR:=qD (HR.out.step TE.out)
 have TPA:Hid (∀q∈R.ks,pathB q.p=true):=HKF.out.pa
 clear L0 L1 L2 L3 L4 L5 L6 LE LA LB
 generalize w3.setRow (w.heap.size+6) (marr pb N)=wt at*
 by_cases hz:z=0
 ·subst hz
  have TST2:=qD (TST.out rfl)
  go_upto_region 30 with(first|(refine wpList_load_row rfl 35 _ rfl (w.heap.size+6) rfl _ _ _ _ T6.out Tryz.underlying35 rfl (by rw[sizeM];rfl) ?_)|(refine wpList_store_row rfl 35 _ _ rfl w.heap.size (marr pb N) rfl rfl 35 _ T0.out (by rw[sizeM];rfl) rfl (marr_all _ _) ?_))
  have U0:=qD (Blk.row T0.out (marr pb N))
  have U1:=qD (Blk.row_far T1.out (by omega:w.heap.size+1≠w.heap.size) (marr pb N))
  have U3:=qD (Blk.row_far T3.out (by omega:w.heap.size+3≠w.heap.size) (marr pb N))
  have U4:=qD (Blk.row_far T4.out (by omega:w.heap.size+4≠w.heap.size) (marr pb N))
  have U5:=qD (Blk.row_far T5.out (by omega:w.heap.size+5≠w.heap.size) (marr pb N))
  have U6:=qD (Blk.row_far T6.out (by omega:w.heap.size+6≠w.heap.size) (marr pb N))
  have UA:=qD (TA.out.row_move T0.out h0 (marr pb N))
  have UM:=qD (TB.out.row_move T0.out h0 (marr pb N))
  have UB:=UM
  have UR:=qD (TR.out.row_mv TPA.out T0.out (c:=pb) TST2.out.1)
  have UE:=qD (below_row TE.out (qL) (marr pb N))
  have UST:Hid (StR (n+1) R0 N pb R∧SameM M N):=⟨TST2.out.2 pb,TST2.out.1⟩
  clear T0 T1 T3 T4 T5 T6 TA TB TM TR TE TST2 TST TS0
  generalize wt.setRow w.heap.size (marr pb N)=wu at*
  have KSS:Hid (∀y:World,Below wu.heap.size wu y→(fun w'=>(Blk w' w.heap.size 35 (marr pb N)∧Blk w' (w.heap.size+1) 27 (rarr a R))∧(Blk w' (w.heap.size+5) 35 (marr pa N)∧Blk w' (w.heap.size+6) 35 (marr pb N))) y):=qD fun y hb=>⟨⟨U0.out.step hb,U1.out.step hb⟩,⟨U5.out.step hb,U6.out.step hb⟩⟩
  have HSM:Hid (∀y:World,Below wu.heap.size wu y→Calls Tryz.prog 8 #[.agg (marr pa N),.agg (marr pb N)] y fun e w'=>e=.returned (.bool true)∧Below y.heap.size y w'):=qD fun y hb=>same51_eq N pa pb y (UA.out.step hb) (UB.out.step hb) TSM.out
  have B:Hid (Below wu.heap.size wu wu.drew):=qD ((Below.refl wu.heap.size wu).drew)
  refine wp_region_noPanic ?_
  refine wp_region_held_drew (S:=(fun w'=>(Blk w' w.heap.size 35 (marr pb N)∧Blk w' (w.heap.size+1) 27 (rarr a R))∧(Blk w' (w.heap.size+5) 35 (marr pa N)∧Blk w' (w.heap.size+6) 35 (marr pb N)))) (by kernel_rfl) ?_ (fun hHeld=>?_)
  ·(try dsimp only);exact KSS.out _ B.out
  generalize wu.drew=v0 at*
  refine rT (v:=.agg (marr pb N)) 0 rfl ?_ ?_
  ·intro w' hSw;exact exec_row rfl rfl hSw.1.1 Tryz.underlying35 rfl (by rw[sizeM];rfl)
  try go_frame
  refine rT (v:=.agg (rarr a R)) 1 rfl ?_ ?_
  ·intro w' hSw;exact exec_row rfl rfl hSw.1.2 Tryz.underlying27 rfl (by rw[sizeR];rfl)
  try go_frame
  refine rU 2 rfl ?_
  try go_frame
  refine rU 3 rfl ?_
  try go_frame
  refine rT (v:=.bool true) 4 rfl ?_ ?_
  ·intro w' hSw;clear hSw;go_simp;(try simp)
  try go_frame
  refine rU 5 rfl ?_
  try go_frame
  refine rT (v:=.agg (marr pa N)) 6 rfl ?_ ?_
  ·intro w' hSw;exact exec_row rfl rfl hSw.2.1 Tryz.underlying35 rfl (by rw[sizeM];rfl)
  try go_frame
  refine rT (v:=.agg (marr pb N)) 7 rfl ?_ ?_
  ·intro w' hSw;exact exec_row rfl rfl hSw.2.2 Tryz.underlying35 rfl (by rw[sizeM];rfl)
  try go_frame
  refine rY 8 rfl fun K hK=>?_
  go_simp
  refine(HSM.out _ B.out).mono ?_
  rintro e3 y1 ⟨rfl,hb⟩
  replace B:=qD (B.out.step' hb)
  clear hb
  (try go_wp2_with fail)
  clear hHeld
  refine hK.out _ _ ?_ fun hHeld=>?_
  ·(try dsimp only);exact KSS.out _ B.out
  clear hK K
  try go_frame
  refine rU 9 rfl ?_
  try go_frame
  refine rY 10 rfl fun K hK=>?_
  refine wp_store_row 35 _ _ rfl (w.heap.size+3) (marr pb N) rfl rfl 35 _ (U3.out.step B.out) (by rw[sizeM];rfl) rfl (marr_all _ _) ?_
  have V3:=qD (Blk.row (U3.out.step B.out) (marr pb N))
  have V0:=qD (Blk.row_far (U0.out.step B.out) (by omega:w.heap.size≠w.heap.size+3) (marr pb N))
  have V1:=qD (Blk.row_far (U1.out.step B.out) (by omega:w.heap.size+1≠w.heap.size+3) (marr pb N))
  have V4:=qD (Blk.row_far (U4.out.step B.out) (by omega:w.heap.size+4≠w.heap.size+3) (marr pb N))
  have V5:=qD (Blk.row_far (U5.out.step B.out) (by omega:w.heap.size+5≠w.heap.size+3) (marr pb N))
  have V6:=qD (Blk.row_far (U6.out.step B.out) (by omega:w.heap.size+6≠w.heap.size+3) (marr pb N))
  have VM:=qD ((UM.out.step B.out).row_move (U3.out.step B.out) (by omega) (marr pb N))
  have VR:=qD ((UR.out.step B.out).row_mv0 TPA.out (U3.out.step B.out) (marr pb N))
  have VE:=qD (below_row (UE.out.step' B.out) (by omega:w.heap.size≤w.heap.size+3) (marr pb N))
  generalize y1.setRow (w.heap.size+3) (marr pb N)=y2 at*
  clear hHeld
  refine hK.out _ _ ?_ fun hHeld=>?_
  ·(try dsimp only);exact⟨⟨V0.out,V1.out⟩,⟨V5.out,V6.out⟩⟩
  clear hK K
  try go_frame
  refine rY 11 rfl fun K hK=>?_
  refine wp_store_row 27 _ _ rfl (w.heap.size+4) (rarr a R) rfl rfl 27 _ V4.out (by rw[sizeR];rfl) rfl (rarr_all _ _) ?_
  have X4:=qD (Blk.row V4.out (rarr a R))
  have X0:=qD (Blk.row_far V0.out (by omega:w.heap.size≠w.heap.size+4) (rarr a R))
  have X1:=qD (Blk.row_far V1.out (by omega:w.heap.size+1≠w.heap.size+4) (rarr a R))
  have X3:=qD (Blk.row_far V3.out (by omega:w.heap.size+3≠w.heap.size+4) (rarr a R))
  have X5:=qD (Blk.row_far V5.out (by omega:w.heap.size+5≠w.heap.size+4) (rarr a R))
  have X6:=qD (Blk.row_far V6.out (by omega:w.heap.size+6≠w.heap.size+4) (rarr a R))
  have XM:=qD (VM.out.row_ro V4.out (by omega) (rarr a R))
  have XR:=qD (VR.out.row_ro0 TPA.out V4.out (rarr a R))
  have XE:=qD (below_row VE.out (by omega:w.heap.size≤w.heap.size+4) (rarr a R))
  generalize y2.setRow (w.heap.size+4) (rarr a R)=y3 at*
  clear hHeld
  refine hK.out _ _ ?_ fun hHeld=>?_
  ·(try dsimp only);exact⟨⟨X0.out,X1.out⟩,⟨X5.out,X6.out⟩⟩
  clear hK K
  try go_frame
  refine rU 12 rfl ?_
  try go_frame
  refine rD ?_ _
  refine NoPanic.normal ?_
  go_wp2_with fail
  exact bodyPost_ret (results_commit rfl _ (w.heap.size+3) (w.heap.size+4) rfl rfl (.bool true) rfl _ pb N a R X3.out X4.out) rfl ⟨N,pb,R,a,rfl,UST.out.1,UST.out.2,XM.out,XR.out,XE.out⟩
 ·have hzb:(z==0)=false:=by simpa using hz
  have UST:Hid (StR (n+1) R0 M ma R∧SameM M M):=⟨TS0.out hz,SameM.refl M⟩
  go_upto_region 30 with fail
  clear hzb hz TST TS0
  have U0:=T0
  have U1:=T1
  have U3:=T3
  have U4:=T4
  have U5:=T5
  have U6:=T6
  have UA:=TA
  have UB:=TB
  have UM:=TM
  have UR:=TR
  have UE:=TE
  clear T0 T1 T3 T4 T5 T6 TA TB TM TR TE
  generalize wt=wu at*
  have KSS:Hid (∀y:World,Below wu.heap.size wu y→(fun w'=>(Blk w' w.heap.size 35 (marr ma M)∧Blk w' (w.heap.size+1) 27 (rarr a R))∧(Blk w' (w.heap.size+5) 35 (marr pa N)∧Blk w' (w.heap.size+6) 35 (marr pb N))) y):=qD fun y hb=>⟨⟨U0.out.step hb,U1.out.step hb⟩,⟨U5.out.step hb,U6.out.step hb⟩⟩
  have HSM:Hid (∀y:World,Below wu.heap.size wu y→Calls Tryz.prog 8 #[.agg (marr pa N),.agg (marr pb N)] y fun e w'=>e=.returned (.bool true)∧Below y.heap.size y w'):=qD fun y hb=>same51_eq N pa pb y (UA.out.step hb) (UB.out.step hb) TSM.out
  have B:Hid (Below wu.heap.size wu wu.drew):=qD ((Below.refl wu.heap.size wu).drew)
  refine wp_region_noPanic ?_
  refine wp_region_held_drew (S:=(fun w'=>(Blk w' w.heap.size 35 (marr ma M)∧Blk w' (w.heap.size+1) 27 (rarr a R))∧(Blk w' (w.heap.size+5) 35 (marr pa N)∧Blk w' (w.heap.size+6) 35 (marr pb N)))) (by kernel_rfl) ?_ (fun hHeld=>?_)
  ·(try dsimp only);exact KSS.out _ B.out
  generalize wu.drew=v0 at*
  refine rT (v:=.agg (marr ma M)) 0 rfl ?_ ?_
  ·intro w' hSw;exact exec_row rfl rfl hSw.1.1 Tryz.underlying35 rfl (by rw[sizeM];rfl)
  try go_frame
  refine rT (v:=.agg (rarr a R)) 1 rfl ?_ ?_
  ·intro w' hSw;exact exec_row rfl rfl hSw.1.2 Tryz.underlying27 rfl (by rw[sizeR];rfl)
  try go_frame
  refine rU 2 rfl ?_
  try go_frame
  refine rU 3 rfl ?_
  try go_frame
  refine rT (v:=.bool true) 4 rfl ?_ ?_
  ·intro w' hSw;clear hSw;go_simp;(try simp)
  try go_frame
  refine rU 5 rfl ?_
  try go_frame
  refine rT (v:=.agg (marr pa N)) 6 rfl ?_ ?_
  ·intro w' hSw;exact exec_row rfl rfl hSw.2.1 Tryz.underlying35 rfl (by rw[sizeM];rfl)
  try go_frame
  refine rT (v:=.agg (marr pb N)) 7 rfl ?_ ?_
  ·intro w' hSw;exact exec_row rfl rfl hSw.2.2 Tryz.underlying35 rfl (by rw[sizeM];rfl)
  try go_frame
  refine rY 8 rfl fun K hK=>?_
  go_simp
  refine(HSM.out _ B.out).mono ?_
  rintro e3 y1 ⟨rfl,hb⟩
  replace B:=qD (B.out.step' hb)
  clear hb
  (try go_wp2_with fail)
  clear hHeld
  refine hK.out _ _ ?_ fun hHeld=>?_
  ·(try dsimp only);exact KSS.out _ B.out
  clear hK K
  try go_frame
  refine rU 9 rfl ?_
  try go_frame
  refine rY 10 rfl fun K hK=>?_
  refine wp_store_row 35 _ _ rfl (w.heap.size+3) (marr ma M) rfl rfl 35 _ (U3.out.step B.out) (by rw[sizeM];rfl) rfl (marr_all _ _) ?_
  have V3:=qD (Blk.row (U3.out.step B.out) (marr ma M))
  have V0:=qD (Blk.row_far (U0.out.step B.out) (by omega:w.heap.size≠w.heap.size+3) (marr ma M))
  have V1:=qD (Blk.row_far (U1.out.step B.out) (by omega:w.heap.size+1≠w.heap.size+3) (marr ma M))
  have V4:=qD (Blk.row_far (U4.out.step B.out) (by omega:w.heap.size+4≠w.heap.size+3) (marr ma M))
  have V5:=qD (Blk.row_far (U5.out.step B.out) (by omega:w.heap.size+5≠w.heap.size+3) (marr ma M))
  have V6:=qD (Blk.row_far (U6.out.step B.out) (by omega:w.heap.size+6≠w.heap.size+3) (marr ma M))
  have VM:=qD ((UM.out.step B.out).row_move (U3.out.step B.out) (by omega) (marr ma M))
  have VR:=qD ((UR.out.step B.out).row_mv0 TPA.out (U3.out.step B.out) (marr ma M))
  have VE:=qD (below_row (UE.out.step' B.out) (by omega:w.heap.size≤w.heap.size+3) (marr ma M))
  generalize y1.setRow (w.heap.size+3) (marr ma M)=y2 at*
  clear hHeld
  refine hK.out _ _ ?_ fun hHeld=>?_
  ·(try dsimp only);exact⟨⟨V0.out,V1.out⟩,⟨V5.out,V6.out⟩⟩
  clear hK K
  try go_frame
  refine rY 11 rfl fun K hK=>?_
  refine wp_store_row 27 _ _ rfl (w.heap.size+4) (rarr a R) rfl rfl 27 _ V4.out (by rw[sizeR];rfl) rfl (rarr_all _ _) ?_
  have X4:=qD (Blk.row V4.out (rarr a R))
  have X0:=qD (Blk.row_far V0.out (by omega:w.heap.size≠w.heap.size+4) (rarr a R))
  have X1:=qD (Blk.row_far V1.out (by omega:w.heap.size+1≠w.heap.size+4) (rarr a R))
  have X3:=qD (Blk.row_far V3.out (by omega:w.heap.size+3≠w.heap.size+4) (rarr a R))
  have X5:=qD (Blk.row_far V5.out (by omega:w.heap.size+5≠w.heap.size+4) (rarr a R))
  have X6:=qD (Blk.row_far V6.out (by omega:w.heap.size+6≠w.heap.size+4) (rarr a R))
  have XM:=qD (VM.out.row_ro V4.out (by omega) (rarr a R))
  have XR:=qD (VR.out.row_ro0 TPA.out V4.out (rarr a R))
  have XE:=qD (below_row VE.out (by omega:w.heap.size≤w.heap.size+4) (rarr a R))
  generalize y2.setRow (w.heap.size+4) (rarr a R)=y3 at*
  clear hHeld
  refine hK.out _ _ ?_ fun hHeld=>?_
  ·(try dsimp only);exact⟨⟨X0.out,X1.out⟩,⟨X5.out,X6.out⟩⟩
  clear hK K
  try go_frame
  refine rU 12 rfl ?_
  try go_frame
  refine rD ?_ _
  refine NoPanic.normal ?_
  go_wp2_with fail
  exact bodyPost_ret (results_commit rfl _ (w.heap.size+3) (w.heap.size+4) rfl rfl (.bool true) rfl _ ma M a R X3.out X4.out) rfl ⟨M,ma,R,a,rfl,UST.out.1,UST.out.2,XM.out,XR.out,XE.out⟩
theorem call3_any(n:Nat)(R0:Ro)(M:Mv)(ma:MA)(R:Ro)(a:RA)(o:OpX)(w:World)(hT:Tabs w)(h0:0<w.heap.size)(hs:StR n R0 M ma R)(hkf:KeyF R)(hn:n≤40)(hM:MR w ma M)(hR:RR w a R)(hO:IsOp w o)(hok:OpOk o)(hk:o.k=3):
 Calls Tryz.prog 9 #[mval ma M,rval a R,.agg (recOp o).toArray] w (CallOk n R0 M w):=by
 have HT:=qD hT
 have HS:=qD hs
 have HKF:=qD hkf
 have HM:=qD hM
 have HR:=qD hR
 have HOP:=qD hO
 have HOK:=qD hok
 have HLN:Hid ((recOp o).length=80):=recOp_len hO
 clear hT hs hkf hM hR hO hok
 obtain⟨wa,hwa⟩:∃wa,((((w.alloc (.cells (marr ma M) 35)).alloc (.cells (rarr a R) 27)).alloc (.cells (recOp o).toArray 69)).alloc (.cells (marr MA.zero Mv.zero) 35)).alloc (.cells (rarr RA.zero Ro.zero) 27)=wa:=⟨_,rfl⟩
 have B0:Hid (Blk wa w.heap.size 35 (marr ma M)):=by rw[←hwa];exact((((Blk.new_at rfl).alloc _).alloc _).alloc _).alloc _
 have B1:Hid (Blk wa (w.heap.size+1) 27 (rarr a R)):=by rw[←hwa];exact(((Blk.new_at (by simp)).alloc _).alloc _).alloc _
 have B2:Hid (Blk wa (w.heap.size+2) 69 (recOp o).toArray):=by rw[←hwa];exact((Blk.new_at (by simp)).alloc _).alloc _
 have B3:Hid (Blk wa (w.heap.size+3) 35 (marr MA.zero Mv.zero)):=by rw[←hwa];exact(Blk.new_at (by simp)).alloc _
 have B4:Hid (Blk wa (w.heap.size+4) 27 (rarr RA.zero Ro.zero)):=by rw[←hwa];exact Blk.new_at (by simp)
 have BE:Hid (Below w.heap.size w wa):=by rw[←hwa];exact(((((Below.refl _ _).alloc (qL) _).alloc (by simp) _).alloc (by simp;omega) _).alloc (by simp;omega) _).alloc (by simp;omega) _
 have HWS:Hid (wa.heap.size=w.heap.size+5):=by rw[←hwa];simp[Hid]
 have HWA:=qD hwa
 clear hwa
 go_enter Tryz.func9,Tryz.ntmps9
 go_upto_region 1 with fail
 change Code.wp _ _ _ _ (((((w.alloc (.cells (marr ma M) 35)).alloc (.cells (rarr a R) 27)).alloc (.cells (recOp o).toArray 69)).alloc (.cells (marr MA.zero Mv.zero) 35)).alloc (.cells (rarr RA.zero Ro.zero) 27))
 rw[HWA.out]
 clear HWA
 obtain⟨wz,hwz⟩:∃wz,((wa.alloc (.cells (marr MA.zero Mv.zero) 35)).alloc (.cells (marr MA.zero Mv.zero) 35))=wz:=⟨_,rfl⟩
 have hws:=HWS.out
 have C0:Hid (Blk wz w.heap.size 35 (marr ma M)):=by rw[←hwz];exact(B0.out.alloc _).alloc _
 have C1:Hid (Blk wz (w.heap.size+1) 27 (rarr a R)):=by rw[←hwz];exact(B1.out.alloc _).alloc _
 have C2:Hid (Blk wz (w.heap.size+2) 69 (recOp o).toArray):=by rw[←hwz];exact(B2.out.alloc _).alloc _
 have C3:Hid (Blk wz (w.heap.size+3) 35 (marr MA.zero Mv.zero)):=by rw[←hwz];exact(B3.out.alloc _).alloc _
 have C4:Hid (Blk wz (w.heap.size+4) 27 (rarr RA.zero Ro.zero)):=by rw[←hwz];exact(B4.out.alloc _).alloc _
 have C5:Hid (Blk wz (w.heap.size+5) 35 (marr MA.zero Mv.zero)):=by rw[←hwz,←hws];exact(Blk.new_at rfl).alloc _
 have C6:Hid (Blk wz (w.heap.size+6) 35 (marr MA.zero Mv.zero)):=by rw[←hwz,show w.heap.size+6=wa.heap.size+1 from by omega];exact Blk.new_at (by simp)
 have CE:Hid (Below w.heap.size w wz):=by rw[←hwz];exact(BE.out.alloc BE.out.size _).alloc (by rw[size_alloc];have:=BE.out.size;omega) _
 have HWZ:=qD hwz
 clear hwz B0 B1 B2 B3 B4 BE hws
 have E6:Hid (Blk (wz.setRow wa.heap.size (marr MA.zero Mv.zero)) (wa.heap.size+1) 35 (marr MA.zero Mv.zero)):=by rw[HWS.out];exact Blk.row_far C6.out (by omega) _
 have E5:Hid (Blk ((wa.alloc (.cells (marr MA.zero Mv.zero) 35)).alloc (.cells (marr MA.zero Mv.zero) 35)) wa.heap.size 35 (marr MA.zero Mv.zero)):=by rw[HWZ.out,HWS.out];exact C5.out
 rw[←HWZ.out] at E6
 go_upto_region 2 with(first|(refine wpList_store_row rfl 35 _ _ rfl wa.heap.size (marr MA.zero Mv.zero) rfl rfl 35 _ E5.out (by rw[sizeM];rfl) rfl (marr_all _ _) ?_)|(refine wpList_store_row rfl 35 _ _ rfl (wa.heap.size+1) (marr MA.zero Mv.zero) rfl rfl 35 _ E6.out (by rw[sizeM];rfl) rfl (marr_all _ _) ?_))
 change Code.wp _ _ _ _ ((((wa.alloc (.cells (marr MA.zero Mv.zero) 35)).alloc (.cells (marr MA.zero Mv.zero) 35)).setRow wa.heap.size (marr MA.zero Mv.zero)).setRow (wa.heap.size+1) (marr MA.zero Mv.zero))
 rw[HWZ.out,HWS.out]
 have D0:=qD (Blk.row_far (Blk.row_far C0.out (by omega:w.heap.size≠w.heap.size+5) (marr MA.zero Mv.zero)) (by omega:w.heap.size≠w.heap.size+5+1) (marr MA.zero Mv.zero))
 have D1:=qD (Blk.row_far (Blk.row_far C1.out (by omega:w.heap.size+1≠w.heap.size+5) (marr MA.zero Mv.zero)) (by omega:w.heap.size+1≠w.heap.size+5+1) (marr MA.zero Mv.zero))
 have D2:=qD (Blk.row_far (Blk.row_far C2.out (by omega:w.heap.size+2≠w.heap.size+5) (marr MA.zero Mv.zero)) (by omega:w.heap.size+2≠w.heap.size+5+1) (marr MA.zero Mv.zero))
 have D3:=qD (Blk.row_far (Blk.row_far C3.out (by omega:w.heap.size+3≠w.heap.size+5) (marr MA.zero Mv.zero)) (by omega:w.heap.size+3≠w.heap.size+5+1) (marr MA.zero Mv.zero))
 have D4:=qD (Blk.row_far (Blk.row_far C4.out (by omega:w.heap.size+4≠w.heap.size+5) (marr MA.zero Mv.zero)) (by omega:w.heap.size+4≠w.heap.size+5+1) (marr MA.zero Mv.zero))
 have D5:=qD (Blk.row_far (Blk.row C5.out (marr MA.zero Mv.zero)) (by omega:w.heap.size+5≠w.heap.size+5+1) (marr MA.zero Mv.zero))
 have D6:=qD (Blk.row (Blk.row_far C6.out (by omega:w.heap.size+6≠w.heap.size+5) (marr MA.zero Mv.zero)) (marr MA.zero Mv.zero))
 have DE:=qD (below_row (below_row CE.out (by omega:w.heap.size≤w.heap.size+5) (marr MA.zero Mv.zero)) (by omega:w.heap.size≤w.heap.size+5+1) (marr MA.zero Mv.zero))
 change Code.wp _ _ _ _ ((wz.setRow (w.heap.size+5) (marr MA.zero Mv.zero)).setRow (w.heap.size+5+1) (marr MA.zero Mv.zero))
 obtain⟨wd,hwd⟩:∃wd,(wz.setRow (w.heap.size+5) (marr MA.zero Mv.zero)).setRow (w.heap.size+5+1) (marr MA.zero Mv.zero)=wd:=⟨_,rfl⟩
 have G0:Hid (Blk wd w.heap.size 35 (marr ma M)):=by rw[←hwd];exact D0.out
 have G1:Hid (Blk wd (w.heap.size+1) 27 (rarr a R)):=by rw[←hwd];exact D1.out
 have G2:Hid (Blk wd (w.heap.size+2) 69 (recOp o).toArray):=by rw[←hwd];exact D2.out
 have G3:Hid (Blk wd (w.heap.size+3) 35 (marr MA.zero Mv.zero)):=by rw[←hwd];exact D3.out
 have G4:Hid (Blk wd (w.heap.size+4) 27 (rarr RA.zero Ro.zero)):=by rw[←hwd];exact D4.out
 have G5:Hid (Blk wd (w.heap.size+5) 35 (marr MA.zero Mv.zero)):=by rw[←hwd];exact D5.out
 have G6:Hid (Blk wd (w.heap.size+6) 35 (marr MA.zero Mv.zero)):=by rw[←hwd];exact D6.out
 have GE:Hid (Below w.heap.size w wd):=by rw[←hwd];exact DE.out
 rw[hwd]
 clear hwd D0 D1 D2 D3 D4 D5 D6 DE C0 C1 C2 C3 C4 C5 C6 CE HWZ HWS E5 E6
 have k0:wd.cell? ⟨w.heap.size+2,0,none⟩=some (.int .i64 o.k):=G2.out.cellM rfl
 obtain⟨⟨N,l,z⟩,hN⟩:∃r,loadM2 M=r:=⟨_,rfl⟩
 have TR3:=HS.out.loaded
 rw[hN] at TR3
 have TSM:Hid (∀x,x∈N.cp∨x∈N.ch→SmW x):=TR3.1
 have HSL:Hid (∀x∈l,SmW x):=TR3.2.1
 have TST:Hid (z=0→SameM M N∧∀mb,StR (n+1) R0 N mb R):=TR3.2.2
 have TS0:Hid (z≠0→StR (n+1) R0 M ma R):=fun _=>HS.out.up
 have HN:=qD hN
 clear TR3 hN
 rw[hk] at k0
 clear hk
 have HP1:Hid (∀y:World,Below w.heap.size w y→Calls Tryz.prog 15 #[.agg (marr ma M)] y fun e w'=>∃(mb:MA) (A:Option Addr) (m c:Nat) (qs:List PW),e=.returned (.tuple #[mval mb N,.slice A m c,.int .i64 z])∧MR w' mb N∧qs.map Prod.snd=l∧WS (fun _=>True) w' A m c qs∧Below y.heap.size y w'):=qD fun y hb=>by
  have h:=pload M ma y (HM.out.step hb) (Nat.le_trans HS.out.cp (by omega)) (Nat.le_trans HS.out.ch (by omega))
  rw[HN.out] at h
  exact h
 have HP2:Hid (∀y:World,Below w.heap.size w y→Calls Tryz.prog 22 #[.agg (marr ma M)] y fun e w'=>∃(mb:MA) (A:Option Addr) (m c:Nat) (qs:List PW),e=.returned (.tuple #[mval mb N,.slice A m c,.int .i64 z])∧MR w' mb N∧qs.map Prod.snd=l∧WS (fun _=>True) w' A m c qs∧Below y.heap.size y w'):=qD fun y hb=>by
  have h:=rload M ma y (HM.out.step hb) (Nat.le_trans HS.out.cp (by omega)) (Nat.le_trans HS.out.ch (by omega))
  rw[HN.out] at h
  exact h
 have HC1:=qD (HP1.out wd GE.out)
 go_wp2_with (refine wpList_load_row rfl 35 _ rfl w.heap.size rfl _ _ _ _ G0.out Tryz.underlying35 rfl (by rw[sizeM];rfl) ?_)
 refine HC1.out.mono ?_
 rintro e w1 ⟨pa,A1,m1,c1,ps1,rfl,hr,hq,hw,hb⟩
 have J0:=qD (G0.out.step hb)
 have J1:=qD (G1.out.step hb)
 have J2:=qD (G2.out.step hb)
 have J3:=qD (G3.out.step hb)
 have J4:=qD (G4.out.step hb)
 have J5:=qD (G5.out.step hb)
 have J6:=qD (G6.out.step hb)
 have JE:=qD (GE.out.step' hb)
 have JA:=qD hr
 have JQ:=qD hq
 have JW:=qD hw
 clear hb hr hq hw HC1 k0 G0 G1 G2 G3 G4 G5 G6 GE
 go_upto_region 13 with fail
 change Code.wp _ _ _ _ (w1.alloc (.cells (marr pa N) 35))
 have KX:Hid (Blk (w1.alloc (.cells (marr pa N) 35)) w1.heap.size 35 (marr pa N)):=Blk.new_at rfl
 have K0:=qD (J0.out.alloc (.cells (marr pa N) 35))
 have K1:=qD (J1.out.alloc (.cells (marr pa N) 35))
 have K2:=qD (J2.out.alloc (.cells (marr pa N) 35))
 have K3:=qD (J3.out.alloc (.cells (marr pa N) 35))
 have K4:=qD (J4.out.alloc (.cells (marr pa N) 35))
 have K5:=qD (J5.out.alloc (.cells (marr pa N) 35))
 have K6:=qD (J6.out.alloc (.cells (marr pa N) 35))
 have KE:=qD (JE.out.alloc JE.out.size (Obj.cells (marr pa N) 35))
 have KA:=qD (JA.out.alloc (.cells (marr pa N) 35))
 have KW:=qD (JW.out.alloc (.cells (marr pa N) 35))
 have hgx:w.heap.size+6<w1.heap.size:=J6.out.lt
 clear J0 J1 J2 J3 J4 J5 J6 JE JA JW
 generalize w1.alloc (.cells (marr pa N) 35)=w2 at*
 generalize w1.heap.size=gx at*
 have HC2:=qD (HP2.out w2 KE.out)
 go_wp2_with (refine wpList_load_row rfl 35 _ rfl w.heap.size rfl _ _ _ _ K0.out Tryz.underlying35 rfl (by rw[sizeM];rfl) ?_)
 refine HC2.out.mono ?_
 rintro e w3 ⟨pb,A2,m2,c2,ps2,rfl,hr,hq,hw,hb⟩
 have L0:=qD (K0.out.step hb)
 have L1:=qD (K1.out.step hb)
 have L2:=qD (K2.out.step hb)
 have L3:=qD (K3.out.step hb)
 have L4:=qD (K4.out.step hb)
 have L5:=qD (K5.out.step hb)
 have L6:=qD (K6.out.step hb)
 have LX:=qD (KX.out.step hb)
 have LE:=qD (KE.out.step' hb)
 have LA:=qD (KA.out.step hb)
 have LW:=qD (KW.out.step hb)
 have LB:=qD hr
 have LQ:=qD hq
 have LV:=qD hw
 clear hb hr hq hw HC2 K0 K1 K2 K3 K4 K5 K6 KE KA KW KX
 go_upto_region 14 with fail
 change Code.wp _ _ _ _ (w3.alloc (.cells (marr pb N) 35))
 have NY:Hid (Blk (w3.alloc (.cells (marr pb N) 35)) w3.heap.size 35 (marr pb N)):=Blk.new_at rfl
 have NX:=qD (LX.out.alloc (.cells (marr pb N) 35))
 have N0:=qD (L0.out.alloc (.cells (marr pb N) 35))
 have N1:=qD (L1.out.alloc (.cells (marr pb N) 35))
 have N2:=qD (L2.out.alloc (.cells (marr pb N) 35))
 have N3:=qD (L3.out.alloc (.cells (marr pb N) 35))
 have N4:=qD (L4.out.alloc (.cells (marr pb N) 35))
 have N5:=qD (L5.out.alloc (.cells (marr pb N) 35))
 have N6:=qD (L6.out.alloc (.cells (marr pb N) 35))
 have NE:=qD (LE.out.alloc LE.out.size (Obj.cells (marr pb N) 35))
 have NA:=qD (LA.out.alloc (.cells (marr pb N) 35))
 have NB:=qD (LB.out.alloc (.cells (marr pb N) 35))
 have NW:=qD (LW.out.alloc (.cells (marr pb N) 35))
 have NV:=qD (LV.out.alloc (.cells (marr pb N) 35))
 have hgy:gx<w3.heap.size:=LX.out.lt
 clear L0 L1 L2 L3 L4 L5 L6 LE LA LB LW LV LX
 generalize w3.alloc (.cells (marr pb N) 35)=w4 at*
 generalize w3.heap.size=gy at*
 have HC3:=qD (sameWr_eq ps1 ps2 A1 A2 m1 c1 m2 c2 w4 NW.out NV.out (JQ.out.trans LQ.out.symm) (fun p hp=>HSL.out p.2 (by rw[←JQ.out];exact List.mem_map_of_mem hp)))
 go_wp2_with fail
 refine HC3.out.mono ?_
 rintro e wp ⟨rfl,hb⟩
 have P0:=qD (N0.out.step hb)
 have P1:=qD (N1.out.step hb)
 have P2:=qD (N2.out.step hb)
 have P3:=qD (N3.out.step hb)
 have P4:=qD (N4.out.step hb)
 have P5:=qD (N5.out.step hb)
 have P6:=qD (N6.out.step hb)
 have PX:=qD (NX.out.step hb)
 have PY:=qD (NY.out.step hb)
 have PE:=qD (NE.out.step' hb)
 have PA:=qD (NA.out.step hb)
 have PB:=qD (NB.out.step hb)
 clear hb HC3 N0 N1 N2 N3 N4 N5 N6 NE NA NB NW NV NX NY
 go_upto_region 16 with fail
 have B:Hid (Below wp.heap.size wp wp.drew):=qD ((Below.refl wp.heap.size wp).drew)
 refine wp_region_noPanic ?_
 refine wp_region_held_drew (S:=(fun w'=>Blk w' gx 35 (marr pa N)∧Blk w' gy 35 (marr pb N))) (by kernel_rfl) ?_ (fun hHeld=>?_)
 ·(try dsimp only);exact⟨PX.out.step B.out,PY.out.step B.out⟩
 generalize wp.drew=v0 at*
 refine rT (v:=.agg (marr pa N)) 0 rfl ?_ ?_
 ·intro w' hSw;exact exec_row rfl rfl hSw.1 Tryz.underlying35 rfl (by rw[sizeM];rfl)
 try go_frame
 refine rT (v:=.agg (marr pb N)) 1 rfl ?_ ?_
 ·intro w' hSw;exact exec_row rfl rfl hSw.2 Tryz.underlying35 rfl (by rw[sizeM];rfl)
 try go_frame
 refine rU 2 rfl ?_
 try go_frame
 refine rU 3 rfl ?_
 try go_frame
 refine rY 4 rfl fun K hK=>?_
 refine wp_store_row 35 _ _ rfl (w.heap.size+5) (marr pa N) rfl rfl 35 _ (P5.out.step B.out) (by rw[sizeM];rfl) rfl (marr_all _ _) ?_
 have Q5:=qD (Blk.row (P5.out.step B.out) (marr pa N))
 have Q0:=qD (Blk.row_far (P0.out.step B.out) (by omega:w.heap.size≠w.heap.size+5) (marr pa N))
 have Q1:=qD (Blk.row_far (P1.out.step B.out) (by omega:w.heap.size+1≠w.heap.size+5) (marr pa N))
 have Q3:=qD (Blk.row_far (P3.out.step B.out) (by omega:w.heap.size+3≠w.heap.size+5) (marr pa N))
 have Q4:=qD (Blk.row_far (P4.out.step B.out) (by omega:w.heap.size+4≠w.heap.size+5) (marr pa N))
 have Q6:=qD (Blk.row_far (P6.out.step B.out) (by omega:w.heap.size+6≠w.heap.size+5) (marr pa N))
 have QX:=qD (Blk.row_far (PX.out.step B.out) (by omega:gx≠w.heap.size+5) (marr pa N))
 have QY:=qD (Blk.row_far (PY.out.step B.out) (by omega:gy≠w.heap.size+5) (marr pa N))
 have QA:=qD ((PA.out.step B.out).row_move (P5.out.step B.out) (by omega) (marr pa N))
 have QB:=qD ((PB.out.step B.out).row_move (P5.out.step B.out) (by omega) (marr pa N))
 have QE:=qD (below_row (PE.out.step' B.out) (by omega:w.heap.size≤w.heap.size+5) (marr pa N))
 generalize v0.setRow (w.heap.size+5) (marr pa N)=v1 at*
 clear hHeld
 refine hK.out _ _ ?_ fun hHeld=>?_
 ·(try dsimp only);exact⟨QX.out,QY.out⟩
 clear hK K
 try go_frame
 refine rY 5 rfl fun K hK=>?_
 refine wp_store_row 35 _ _ rfl (w.heap.size+6) (marr pb N) rfl rfl 35 _ Q6.out (by rw[sizeM];rfl) rfl (marr_all _ _) ?_
 have T6:=qD (Blk.row Q6.out (marr pb N))
 have T0:=qD (Blk.row_far Q0.out (by omega:w.heap.size≠w.heap.size+6) (marr pb N))
 have T1:=qD (Blk.row_far Q1.out (by omega:w.heap.size+1≠w.heap.size+6) (marr pb N))
 have T3:=qD (Blk.row_far Q3.out (by omega:w.heap.size+3≠w.heap.size+6) (marr pb N))
 have T4:=qD (Blk.row_far Q4.out (by omega:w.heap.size+4≠w.heap.size+6) (marr pb N))
 have T5:=qD (Blk.row_far Q5.out (by omega:w.heap.size+5≠w.heap.size+6) (marr pb N))
 have TX:=qD (Blk.row_far QX.out (by omega:gx≠w.heap.size+6) (marr pb N))
 have TY:=qD (Blk.row_far QY.out (by omega:gy≠w.heap.size+6) (marr pb N))
 have TA:=qD (QA.out.row_move Q6.out (by omega) (marr pb N))
 have TB:=qD (QB.out.row_move Q6.out (by omega) (marr pb N))
 have TE:=qD (below_row QE.out (by omega:w.heap.size≤w.heap.size+6) (marr pb N))
 generalize v1.setRow (w.heap.size+6) (marr pb N)=wt at*
 clear hHeld
 refine hK.out _ _ ?_ fun hHeld=>?_
 ·(try dsimp only);exact⟨TX.out,TY.out⟩
 clear hK K
 try go_frame
 refine rU 6 rfl ?_
 try go_frame
 refine rU 7 rfl ?_
 try go_frame
 refine rD ?_ _
 refine NoPanic.normal ?_
 have TM:=qD (HM.out.step TE.out)
 have TR:=qD (HR.out.step TE.out)
 have TPA:Hid (∀q∈R.ks,pathB q.p=true):=HKF.out.pa
 clear TX TY Q0 Q1 Q3 Q4 Q5 Q6 QA QB QE QX QY P0 P1 P2 P3 P4 P5 P6 PA PB PE PX PY
 by_cases hz:z=0
 ·subst hz
  have TST2:=qD (TST.out rfl)
  go_upto_region 30 with(first|(refine wpList_load_row rfl 35 _ rfl (w.heap.size+6) rfl _ _ _ _ T6.out Tryz.underlying35 rfl (by rw[sizeM];rfl) ?_)|(refine wpList_store_row rfl 35 _ _ rfl w.heap.size (marr pb N) rfl rfl 35 _ T0.out (by rw[sizeM];rfl) rfl (marr_all _ _) ?_))
  have U0:=qD (Blk.row T0.out (marr pb N))
  have U1:=qD (Blk.row_far T1.out (by omega:w.heap.size+1≠w.heap.size) (marr pb N))
  have U3:=qD (Blk.row_far T3.out (by omega:w.heap.size+3≠w.heap.size) (marr pb N))
  have U4:=qD (Blk.row_far T4.out (by omega:w.heap.size+4≠w.heap.size) (marr pb N))
  have U5:=qD (Blk.row_far T5.out (by omega:w.heap.size+5≠w.heap.size) (marr pb N))
  have U6:=qD (Blk.row_far T6.out (by omega:w.heap.size+6≠w.heap.size) (marr pb N))
  have UA:=qD (TA.out.row_move T0.out h0 (marr pb N))
  have UM:=qD (TB.out.row_move T0.out h0 (marr pb N))
  have UB:=UM
  have UR:=qD (TR.out.row_mv TPA.out T0.out (c:=pb) TST2.out.1)
  have UE:=qD (below_row TE.out (qL) (marr pb N))
  have UST:Hid (StR (n+1) R0 N pb R∧SameM M N):=⟨TST2.out.2 pb,TST2.out.1⟩
  clear T0 T1 T3 T4 T5 T6 TA TB TM TR TE TST2 TST TS0
  generalize wt.setRow w.heap.size (marr pb N)=wu at*
  have KSS:Hid (∀y:World,Below wu.heap.size wu y→(fun w'=>(Blk w' w.heap.size 35 (marr pb N)∧Blk w' (w.heap.size+1) 27 (rarr a R))∧(Blk w' (w.heap.size+5) 35 (marr pa N)∧Blk w' (w.heap.size+6) 35 (marr pb N))) y):=qD fun y hb=>⟨⟨U0.out.step hb,U1.out.step hb⟩,⟨U5.out.step hb,U6.out.step hb⟩⟩
  have HSM:Hid (∀y:World,Below wu.heap.size wu y→Calls Tryz.prog 8 #[.agg (marr pa N),.agg (marr pb N)] y fun e w'=>e=.returned (.bool true)∧Below y.heap.size y w'):=qD fun y hb=>same51_eq N pa pb y (UA.out.step hb) (UB.out.step hb) TSM.out
  have B:Hid (Below wu.heap.size wu wu.drew):=qD ((Below.refl wu.heap.size wu).drew)
  refine wp_region_noPanic ?_
  refine wp_region_held_drew (S:=(fun w'=>(Blk w' w.heap.size 35 (marr pb N)∧Blk w' (w.heap.size+1) 27 (rarr a R))∧(Blk w' (w.heap.size+5) 35 (marr pa N)∧Blk w' (w.heap.size+6) 35 (marr pb N)))) (by kernel_rfl) ?_ (fun hHeld=>?_)
  ·(try dsimp only);exact KSS.out _ B.out
  generalize wu.drew=v0 at*
  refine rT (v:=.agg (marr pb N)) 0 rfl ?_ ?_
  ·intro w' hSw;exact exec_row rfl rfl hSw.1.1 Tryz.underlying35 rfl (by rw[sizeM];rfl)
  try go_frame
  refine rT (v:=.agg (rarr a R)) 1 rfl ?_ ?_
  ·intro w' hSw;exact exec_row rfl rfl hSw.1.2 Tryz.underlying27 rfl (by rw[sizeR];rfl)
  try go_frame
  refine rU 2 rfl ?_
  try go_frame
  refine rU 3 rfl ?_
  try go_frame
  refine rT (v:=.bool true) 4 rfl ?_ ?_
  ·intro w' hSw;clear hSw;go_simp;(try simp)
  try go_frame
  refine rU 5 rfl ?_
  try go_frame
  refine rT (v:=.agg (marr pa N)) 6 rfl ?_ ?_
  ·intro w' hSw;exact exec_row rfl rfl hSw.2.1 Tryz.underlying35 rfl (by rw[sizeM];rfl)
  try go_frame
  refine rT (v:=.agg (marr pb N)) 7 rfl ?_ ?_
  ·intro w' hSw;exact exec_row rfl rfl hSw.2.2 Tryz.underlying35 rfl (by rw[sizeM];rfl)
  try go_frame
  refine rY 8 rfl fun K hK=>?_
  go_simp
  refine(HSM.out _ B.out).mono ?_
  rintro e3 y1 ⟨rfl,hb⟩
  replace B:=qD (B.out.step' hb)
  clear hb
  (try go_wp2_with fail)
  clear hHeld
  refine hK.out _ _ ?_ fun hHeld=>?_
  ·(try dsimp only);exact KSS.out _ B.out
  clear hK K
  try go_frame
  refine rU 9 rfl ?_
  try go_frame
  refine rY 10 rfl fun K hK=>?_
  refine wp_store_row 35 _ _ rfl (w.heap.size+3) (marr pb N) rfl rfl 35 _ (U3.out.step B.out) (by rw[sizeM];rfl) rfl (marr_all _ _) ?_
  have V3:=qD (Blk.row (U3.out.step B.out) (marr pb N))
  have V0:=qD (Blk.row_far (U0.out.step B.out) (by omega:w.heap.size≠w.heap.size+3) (marr pb N))
  have V1:=qD (Blk.row_far (U1.out.step B.out) (by omega:w.heap.size+1≠w.heap.size+3) (marr pb N))
  have V4:=qD (Blk.row_far (U4.out.step B.out) (by omega:w.heap.size+4≠w.heap.size+3) (marr pb N))
  have V5:=qD (Blk.row_far (U5.out.step B.out) (by omega:w.heap.size+5≠w.heap.size+3) (marr pb N))
  have V6:=qD (Blk.row_far (U6.out.step B.out) (by omega:w.heap.size+6≠w.heap.size+3) (marr pb N))
  have VM:=qD ((UM.out.step B.out).row_move (U3.out.step B.out) (by omega) (marr pb N))
  have VR:=qD ((UR.out.step B.out).row_mv0 TPA.out (U3.out.step B.out) (marr pb N))
  have VE:=qD (below_row (UE.out.step' B.out) (by omega:w.heap.size≤w.heap.size+3) (marr pb N))
  generalize y1.setRow (w.heap.size+3) (marr pb N)=y2 at*
  clear hHeld
  refine hK.out _ _ ?_ fun hHeld=>?_
  ·(try dsimp only);exact⟨⟨V0.out,V1.out⟩,⟨V5.out,V6.out⟩⟩
  clear hK K
  try go_frame
  refine rY 11 rfl fun K hK=>?_
  refine wp_store_row 27 _ _ rfl (w.heap.size+4) (rarr a R) rfl rfl 27 _ V4.out (by rw[sizeR];rfl) rfl (rarr_all _ _) ?_
  have X4:=qD (Blk.row V4.out (rarr a R))
  have X0:=qD (Blk.row_far V0.out (by omega:w.heap.size≠w.heap.size+4) (rarr a R))
  have X1:=qD (Blk.row_far V1.out (by omega:w.heap.size+1≠w.heap.size+4) (rarr a R))
  have X3:=qD (Blk.row_far V3.out (by omega:w.heap.size+3≠w.heap.size+4) (rarr a R))
  have X5:=qD (Blk.row_far V5.out (by omega:w.heap.size+5≠w.heap.size+4) (rarr a R))
  have X6:=qD (Blk.row_far V6.out (by omega:w.heap.size+6≠w.heap.size+4) (rarr a R))
  have XM:=qD (VM.out.row_ro V4.out (by omega) (rarr a R))
  have XR:=qD (VR.out.row_ro0 TPA.out V4.out (rarr a R))
  have XE:=qD (below_row VE.out (by omega:w.heap.size≤w.heap.size+4) (rarr a R))
  generalize y2.setRow (w.heap.size+4) (rarr a R)=y3 at*
  clear hHeld
  refine hK.out _ _ ?_ fun hHeld=>?_
  ·(try dsimp only);exact⟨⟨X0.out,X1.out⟩,⟨X5.out,X6.out⟩⟩
  clear hK K
  try go_frame
  refine rU 12 rfl ?_
  try go_frame
  refine rD ?_ _
  refine NoPanic.normal ?_
  go_wp2_with fail
  exact bodyPost_ret (results_commit rfl _ (w.heap.size+3) (w.heap.size+4) rfl rfl (.bool true) rfl _ pb N a R X3.out X4.out) rfl ⟨N,pb,R,a,rfl,UST.out.1,UST.out.2,XM.out,XR.out,XE.out⟩
 ·have hzb:(z==0)=false:=by simpa using hz
  have UST:Hid (StR (n+1) R0 M ma R∧SameM M M):=⟨TS0.out hz,SameM.refl M⟩
  go_upto_region 30 with fail
  clear hzb hz TST TS0
  have U0:=T0
  have U1:=T1
  have U3:=T3
  have U4:=T4
  have U5:=T5
  have U6:=T6
  have UA:=TA
  have UB:=TB
  have UM:=TM
  have UR:=TR
  have UE:=TE
  clear T0 T1 T3 T4 T5 T6 TA TB TM TR TE
  generalize wt=wu at*
  have KSS:Hid (∀y:World,Below wu.heap.size wu y→(fun w'=>(Blk w' w.heap.size 35 (marr ma M)∧Blk w' (w.heap.size+1) 27 (rarr a R))∧(Blk w' (w.heap.size+5) 35 (marr pa N)∧Blk w' (w.heap.size+6) 35 (marr pb N))) y):=qD fun y hb=>⟨⟨U0.out.step hb,U1.out.step hb⟩,⟨U5.out.step hb,U6.out.step hb⟩⟩
  have HSM:Hid (∀y:World,Below wu.heap.size wu y→Calls Tryz.prog 8 #[.agg (marr pa N),.agg (marr pb N)] y fun e w'=>e=.returned (.bool true)∧Below y.heap.size y w'):=qD fun y hb=>same51_eq N pa pb y (UA.out.step hb) (UB.out.step hb) TSM.out
  have B:Hid (Below wu.heap.size wu wu.drew):=qD ((Below.refl wu.heap.size wu).drew)
  refine wp_region_noPanic ?_
  refine wp_region_held_drew (S:=(fun w'=>(Blk w' w.heap.size 35 (marr ma M)∧Blk w' (w.heap.size+1) 27 (rarr a R))∧(Blk w' (w.heap.size+5) 35 (marr pa N)∧Blk w' (w.heap.size+6) 35 (marr pb N)))) (by kernel_rfl) ?_ (fun hHeld=>?_)
  ·(try dsimp only);exact KSS.out _ B.out
  generalize wu.drew=v0 at*
  refine rT (v:=.agg (marr ma M)) 0 rfl ?_ ?_
  ·intro w' hSw;exact exec_row rfl rfl hSw.1.1 Tryz.underlying35 rfl (by rw[sizeM];rfl)
  try go_frame
  refine rT (v:=.agg (rarr a R)) 1 rfl ?_ ?_
  ·intro w' hSw;exact exec_row rfl rfl hSw.1.2 Tryz.underlying27 rfl (by rw[sizeR];rfl)
  try go_frame
  refine rU 2 rfl ?_
  try go_frame
  refine rU 3 rfl ?_
  try go_frame
  refine rT (v:=.bool true) 4 rfl ?_ ?_
  ·intro w' hSw;clear hSw;go_simp;(try simp)
  try go_frame
  refine rU 5 rfl ?_
  try go_frame
  refine rT (v:=.agg (marr pa N)) 6 rfl ?_ ?_
  ·intro w' hSw;exact exec_row rfl rfl hSw.2.1 Tryz.underlying35 rfl (by rw[sizeM];rfl)
  try go_frame
  refine rT (v:=.agg (marr pb N)) 7 rfl ?_ ?_
  ·intro w' hSw;exact exec_row rfl rfl hSw.2.2 Tryz.underlying35 rfl (by rw[sizeM];rfl)
  try go_frame
  refine rY 8 rfl fun K hK=>?_
  go_simp
  refine(HSM.out _ B.out).mono ?_
  rintro e3 y1 ⟨rfl,hb⟩
  replace B:=qD (B.out.step' hb)
  clear hb
  (try go_wp2_with fail)
  clear hHeld
  refine hK.out _ _ ?_ fun hHeld=>?_
  ·(try dsimp only);exact KSS.out _ B.out
  clear hK K
  try go_frame
  refine rU 9 rfl ?_
  try go_frame
  refine rY 10 rfl fun K hK=>?_
  refine wp_store_row 35 _ _ rfl (w.heap.size+3) (marr ma M) rfl rfl 35 _ (U3.out.step B.out) (by rw[sizeM];rfl) rfl (marr_all _ _) ?_
  have V3:=qD (Blk.row (U3.out.step B.out) (marr ma M))
  have V0:=qD (Blk.row_far (U0.out.step B.out) (by omega:w.heap.size≠w.heap.size+3) (marr ma M))
  have V1:=qD (Blk.row_far (U1.out.step B.out) (by omega:w.heap.size+1≠w.heap.size+3) (marr ma M))
  have V4:=qD (Blk.row_far (U4.out.step B.out) (by omega:w.heap.size+4≠w.heap.size+3) (marr ma M))
  have V5:=qD (Blk.row_far (U5.out.step B.out) (by omega:w.heap.size+5≠w.heap.size+3) (marr ma M))
  have V6:=qD (Blk.row_far (U6.out.step B.out) (by omega:w.heap.size+6≠w.heap.size+3) (marr ma M))
  have VM:=qD ((UM.out.step B.out).row_move (U3.out.step B.out) (by omega) (marr ma M))
  have VR:=qD ((UR.out.step B.out).row_mv0 TPA.out (U3.out.step B.out) (marr ma M))
  have VE:=qD (below_row (UE.out.step' B.out) (by omega:w.heap.size≤w.heap.size+3) (marr ma M))
  generalize y1.setRow (w.heap.size+3) (marr ma M)=y2 at*
  clear hHeld
  refine hK.out _ _ ?_ fun hHeld=>?_
  ·(try dsimp only);exact⟨⟨V0.out,V1.out⟩,⟨V5.out,V6.out⟩⟩
  clear hK K
  try go_frame
  refine rY 11 rfl fun K hK=>?_
  refine wp_store_row 27 _ _ rfl (w.heap.size+4) (rarr a R) rfl rfl 27 _ V4.out (by rw[sizeR];rfl) rfl (rarr_all _ _) ?_
  have X4:=qD (Blk.row V4.out (rarr a R))
  have X0:=qD (Blk.row_far V0.out (by omega:w.heap.size≠w.heap.size+4) (rarr a R))
  have X1:=qD (Blk.row_far V1.out (by omega:w.heap.size+1≠w.heap.size+4) (rarr a R))
  have X3:=qD (Blk.row_far V3.out (by omega:w.heap.size+3≠w.heap.size+4) (rarr a R))
  have X5:=qD (Blk.row_far V5.out (by omega:w.heap.size+5≠w.heap.size+4) (rarr a R))
  have X6:=qD (Blk.row_far V6.out (by omega:w.heap.size+6≠w.heap.size+4) (rarr a R))
  have XM:=qD (VM.out.row_ro V4.out (by omega) (rarr a R))
  have XR:=qD (VR.out.row_ro0 TPA.out V4.out (rarr a R))
  have XE:=qD (below_row VE.out (by omega:w.heap.size≤w.heap.size+4) (rarr a R))
  generalize y2.setRow (w.heap.size+4) (rarr a R)=y3 at*
  clear hHeld
  refine hK.out _ _ ?_ fun hHeld=>?_
  ·(try dsimp only);exact⟨⟨X0.out,X1.out⟩,⟨X5.out,X6.out⟩⟩
  clear hK K
  try go_frame
  refine rU 12 rfl ?_
  try go_frame
  refine rD ?_ _
  refine NoPanic.normal ?_
  go_wp2_with fail
  exact bodyPost_ret (results_commit rfl _ (w.heap.size+3) (w.heap.size+4) rfl rfl (.bool true) rfl _ ma M a R X3.out X4.out) rfl ⟨M,ma,R,a,rfl,UST.out.1,UST.out.2,XM.out,XR.out,XE.out⟩
end Go.Proofs.YtlicnjecnehaoaaGreatDoor
