/- Parts of the proof, joined: MgStart, ChBaseC, MgMove, MgPut, EncRef, EncOne, EncKeyR, ShCodeR. -/
import Derived.Test.YtlicnjecnehaoaaGreatDoorRa1
import Derived.Test.YtlicnjecnehaoaaGreatDoorRa14
import Derived.Test.YtlicnjecnehaoaaGreatDoorRa15
import Derived.Test.YtlicnjecnehaoaaGreatDoorRa12
import Derived.Test.YtlicnjecnehaoaaGreatDoorRa2
import Derived.Test.YtlicnjecnehaoaaGreatDoorRa13
import Derived.Test.YtlicnjecnehaoaaGreatDoorRa11
import Derived.Deep.RegionHeld3
import Derived.Laws.Concat
set_option maxRecDepth 100000
set_option maxHeartbeats 16000000
set_option linter.unusedSimpArgs false
namespace Go.Proofs.YtlicnjecnehaoaaGreatDoor
open Go.RowKit
theorem sizeM:(Tryz.prog.info? 35).map (·.size)=some 8:=by kernel_rfl
theorem marr_all(a:MA)(M:Mv):(marr a M).all (·.oneCell')=true:=by simp[marr,Value.oneCell']
theorem loadM{w:World}{g:Nat}{cs:Array Value}(h:Blk w g 35 cs)(hz:cs.size=8):(loadVar 35 ⟨g,0,none⟩).run Tryz.prog w=.ok (.agg cs) w:=
 run_loadVar_row w g _ _ cs _ _ h Tryz.underlying35 rfl (by rw[sizeM,hz])
theorem results_mv{fn:Func}{p u:Tmp}(h:fn.results=#[.cell p 35,.tmp u])(tmps:Array Value)(g:Nat)(h1:tmps.getD p undef=.pointer (some ⟨g,0,none⟩))(e:Value)(h2:tmps.getD u undef=e)(W:World)(a:MA)(M:Mv)(q:Blk W g 35 (marr a M)):(results fn tmps).run Tryz.prog W=.ok (.tuple #[mval a M,e]) W:=by
 rw[results_cell_tmp h,h1,h2]
 simp[asAddr,loadM q rfl]
theorem results_mv1{fn:Func}{p:Tmp}(h:fn.results=#[.cell p 35])(tmps:Array Value)(g:Nat)(h1:tmps.getD p undef=.pointer (some ⟨g,0,none⟩))(W:World)(a:MA)(M:Mv)(q:Blk W g 35 (marr a M)):(results fn tmps).run Tryz.prog W=.ok (mval a M) W:=
 results_cell_row h tmps W g _ _ _ _ h1 q Tryz.underlying35 rfl (by rw[sizeM];rfl)
theorem mstart1_any(x:Ch)(m:Nat)(key:ByteArray)(w:World)(h:w.cell? ⟨m,0,none⟩=some (.string key)):
 Calls Tryz.prog 17 #[aggC x,.pointer (some ⟨m,0,none⟩)] w fun e w'=>e=.returned (.bool (begB key x))∧Below w.heap.size w w':=by
 have hm:=World.block_lt_of_cell? w _ h
 go_enter Tryz.func17,Tryz.ntmps17
 go_wp2_with fail
 go_ret
 exact⟨rfl,(Below.refl _ _).alloc (qL) _⟩
theorem start_any(R:Ro)(a:RA)(lo:ByteArray)(t:Int)(w:World)(h:RR w a R):Calls Tryz.prog 6 #[rval a R,.string lo,.int .i64 t] w
 fun e w'=>e=.returned (.tuple #[mval MA.zero (startR R lo t).1,.int .i64 (startR R lo t).2])∧Below w.heap.size w w':=by
 obtain⟨KA,kn,kc,CA,cn,cc⟩:=a
 have H:=qD h
 clear h
 have B0:Hid (Blk (((w.alloc (.cells (rarr ⟨KA,kn,kc,CA,cn,cc⟩ R) 27)).alloc (.cells #[.string lo] 9)).alloc (.cells (marr MA.zero Mv.zero) 35)) w.heap.size 27 (rarr ⟨KA,kn,kc,CA,cn,cc⟩ R)):=((Blk.new_at rfl).alloc _).alloc _
 have B1:Hid (Blk (((w.alloc (.cells (rarr ⟨KA,kn,kc,CA,cn,cc⟩ R) 27)).alloc (.cells #[.string lo] 9)).alloc (.cells (marr MA.zero Mv.zero) 35)) (w.heap.size+1) 9 #[.string lo]):=(Blk.new_at (by simp)).alloc _
 have B2:Hid (Blk (((w.alloc (.cells (rarr ⟨KA,kn,kc,CA,cn,cc⟩ R) 27)).alloc (.cells #[.string lo] 9)).alloc (.cells (marr MA.zero Mv.zero) 35)) (w.heap.size+2) 35 (marr MA.zero Mv.zero)):=Blk.new_at (by simp)
 have BE:Hid (Below w.heap.size w (((w.alloc (.cells (rarr ⟨KA,kn,kc,CA,cn,cc⟩ R) 27)).alloc (.cells #[.string lo] 9)).alloc (.cells (marr MA.zero Mv.zero) 35))):=(((Below.refl _ _).alloc (qL) _).alloc (by simp) _).alloc (by simp;omega) _
 go_enter Tryz.func6,Tryz.ntmps6
 go_upto_region 1 with fail
 change Code.wp _ _ _ _ (((w.alloc (.cells (rarr ⟨KA,kn,kc,CA,cn,cc⟩ R) 27)).alloc (.cells #[.string lo] 9)).alloc (.cells (marr MA.zero Mv.zero) 35))
 generalize (((w.alloc (.cells (rarr ⟨KA,kn,kc,CA,cn,cc⟩ R) 27)).alloc (.cells #[.string lo] 9)).alloc (.cells (marr MA.zero Mv.zero) 35))=wa at*
 have HIX:=qD (indexC_any 17 (w.heap.size+1) (begB lo) R.cs CA cn cc wa (H.out.cs.step BE.out) (fun _ _=>rfl) fun x wr hb=>mstart1_any x _ lo wr ((B1.out.step hb).cell 0))
 have q5:wa.cell? ⟨w.heap.size,5,none⟩=some (.slice CA cn cc):=B0.out.cell 5
 go_wp2_with fail
 refine HIX.out.mono ?_
 rintro e w2 ⟨rfl,hb1⟩
 have F0:=qD (B0.out.step hb1)
 have F2:=qD (B2.out.step hb1)
 have FE:=qD (BE.out.step' hb1)
 clear hb1 B0 B1 B2 BE q5 HIX
 rcases idxI_range (begB lo) R.cs with⟨hf,_⟩|⟨i,c,hf,hic,hin,_⟩
 ·rw[hf]
  have HV:Hid (startR R lo t=(Mv.zero,15)):=by unfold Hid startR;rw[hf];rfl
  clear hf
  go_wp2_with (refine wpList_store_row rfl 35 _ _ rfl (w.heap.size+2) (marr MA.zero Mv.zero) rfl rfl 35 _ F2.out (by rw[sizeM];rfl) rfl (marr_all _ _) ?_)
  refine bodyPost_ret (results_mv rfl _ (w.heap.size+2) rfl (.int .i64 15) rfl _ MA.zero Mv.zero (Blk.row F2.out _)) rfl ?_
  exact⟨by rw[HV.out],below_row FE.out (by omega) _⟩
 rw[hf]
 have hn:Hid (cn=R.cs.length):=H.out.cs.ln
 have HV:Hid (startR R lo t=if t<0∨8≤t then(Mv.zero,1) else if c.sh=t∨c.ju=true then(Mv.zero,23) else(⟨R.sp,c.lo,c.hi,c.sh,t,1,[],[]⟩,0)):=by
  unfold Hid startR
  rw[if_neg (by omega),hf,Int.toNat_natCast,hic]
 have HIC:=qD hic
 clear hic hin hf
 by_cases hz0:t<0
 ·have HVE:Hid (startR R lo t=(Mv.zero,1)):=by rw[Hid,HV.out,if_pos (.inl hz0)]
  go_wp2_with (refine wpList_store_row rfl 35 _ _ rfl (w.heap.size+2) (marr MA.zero Mv.zero) rfl rfl 35 _ F2.out (by rw[sizeM];rfl) rfl (marr_all _ _) ?_)
  refine bodyPost_ret (results_mv rfl _ (w.heap.size+2) rfl (.int .i64 1) rfl _ MA.zero Mv.zero (Blk.row F2.out _)) rfl ?_
  exact⟨by rw[HVE.out],below_row FE.out (by omega) _⟩
 by_cases hz8:8≤t
 ·have HVE:Hid (startR R lo t=(Mv.zero,1)):=by rw[Hid,HV.out,if_pos (.inr hz8)]
  go_wp2_with (refine wpList_store_row rfl 35 _ _ rfl (w.heap.size+2) (marr MA.zero Mv.zero) rfl rfl 35 _ F2.out (by rw[sizeM];rfl) rfl (marr_all _ _) ?_)
  refine bodyPost_ret (results_mv rfl _ (w.heap.size+2) rfl (.int .i64 1) rfl _ MA.zero Mv.zero (Blk.row F2.out _)) rfl ?_
  exact⟨by rw[HVE.out],below_row FE.out (by omega) _⟩
 have HV2:Hid (startR R lo t=if c.sh=t∨c.ju=true then(Mv.zero,23) else(⟨R.sp,c.lo,c.hi,c.sh,t,1,[],[]⟩,0)):=by rw[Hid,HV.out,if_neg (by omega)]
 clear HV
 obtain⟨q0,q1,q2,q3,q4,q5,qz⟩:=blk_ro F0.out
 simp only at q1 q5
 have hicn:i<cn:=by rw[hn.out];exact(List.getElem?_eq_some_iff.1 HIC.out).1
 obtain⟨b,off,x,hA,hbl,hx,e0,e1,e2,e3,e4⟩:=H.out.cs.sr.at5 hicn
 rw[HIC.out] at hx
 injection hx with hx
 subst hx
 simp only at hA
 subst hA
 obtain⟨clo,chi,csh,cver,cju⟩:=c
 have j0:=(FE.out.cell (p:=⟨b,off+i*5,none⟩) hbl).trans e0
 have j1:=(FE.out.cell (p:=⟨b,off+i*5+1,none⟩) hbl).trans e1
 have j2:=(FE.out.cell (p:=⟨b,off+i*5+2,none⟩) hbl).trans e2
 have j3:=(FE.out.cell (p:=⟨b,off+i*5+3,none⟩) hbl).trans e3
 have j4:=(FE.out.cell (p:=⟨b,off+i*5+4,none⟩) hbl).trans e4
 simp only at j0 j1 j2 j3 j4
 have HV:Hid (startR R lo t=if csh=t∨cju=true then(Mv.zero,23) else(⟨R.sp,clo,chi,csh,t,1,[],[]⟩,0)):=HV2.out
 clear e0 e1 e2 e3 e4 HV2 HIC
 go_upto_region 7 with fail
 change Code.wp _ _ _ _ (w2.alloc (.cells (recC ⟨clo,chi,csh,cver,cju⟩).toArray 81))
 have P0:=qD (F0.out.alloc (.cells (recC ⟨clo,chi,csh,cver,cju⟩).toArray 81))
 have P2:=qD (F2.out.alloc (.cells (recC ⟨clo,chi,csh,cver,cju⟩).toArray 81))
 have PC:Hid (Blk (w2.alloc (.cells (recC ⟨clo,chi,csh,cver,cju⟩).toArray 81)) w2.heap.size 81 (recC ⟨clo,chi,csh,cver,cju⟩).toArray):=Blk.new_at rfl
 have PE:=qD (FE.out.alloc FE.out.size (Obj.cells (recC ⟨clo,chi,csh,cver,cju⟩).toArray 81))
 clear j0 j1 j2 j3 j4 q0 q1 q2 q3 q4 q5 qz F0 F2 FE
 generalize w2.alloc (.cells (recC ⟨clo,chi,csh,cver,cju⟩).toArray 81)=wf at*
 generalize w2.heap.size=gc at*
 obtain⟨q0,q1,q2,q3,q4,q5,qz⟩:=blk_ro P0.out
 have k0:wf.cell? ⟨gc,0,none⟩=some (.string clo):=PC.out.cell 0
 have k1:wf.cell? ⟨gc,1,none⟩=some (.string chi):=PC.out.cell 1
 have k2:wf.cell? ⟨gc,2,none⟩=some (.int .i64 csh):=PC.out.cell 2
 have k4:wf.cell? ⟨gc,4,none⟩=some (.bool cju):=PC.out.cell 4
 simp only at q1 q5
 cases hsz:(csh==t)
 rotate_left
 ·have HVE:Hid (startR R lo t=(Mv.zero,23)):=by rw[Hid,HV.out,if_pos (.inl (by simpa using hsz))]
  go_wp2_with (refine wpList_store_row rfl 35 _ _ rfl (w.heap.size+2) (marr MA.zero Mv.zero) rfl rfl 35 _ P2.out (by rw[sizeM];rfl) rfl (marr_all _ _) ?_)
  refine bodyPost_ret (results_mv rfl _ (w.heap.size+2) rfl (.int .i64 23) rfl _ MA.zero Mv.zero (Blk.row P2.out _)) rfl ?_
  exact⟨by rw[HVE.out],below_row PE.out (by omega) _⟩
 cases cju
 rotate_left
 ·have HVE:Hid (startR R lo t=(Mv.zero,23)):=by rw[Hid,HV.out,if_pos (.inr rfl)]
  go_wp2_with (refine wpList_store_row rfl 35 _ _ rfl (w.heap.size+2) (marr MA.zero Mv.zero) rfl rfl 35 _ P2.out (by rw[sizeM];rfl) rfl (marr_all _ _) ?_)
  refine bodyPost_ret (results_mv rfl _ (w.heap.size+2) rfl (.int .i64 23) rfl _ MA.zero Mv.zero (Blk.row P2.out _)) rfl ?_
  exact⟨by rw[HVE.out],below_row PE.out (by omega) _⟩
 have HVE:Hid (startR R lo t=(⟨R.sp,clo,chi,csh,t,1,[],[]⟩,0)):=by rw[Hid,HV.out,if_neg (by simpa using hsz)]
 go_wp2_with (refine wpList_store_row rfl 35 _ _ rfl (w.heap.size+2) (marr MA.zero ⟨R.sp,clo,chi,csh,t,1,[],[]⟩) rfl rfl 35 _ P2.out (by rw[sizeM];rfl) rfl (marr_all _ _) ?_)
 refine bodyPost_ret (results_mv rfl _ (w.heap.size+2) rfl (.int .i64 0) rfl _ MA.zero ⟨R.sp,clo,chi,csh,t,1,[],[]⟩ (Blk.row P2.out _)) rfl ?_
 exact⟨by rw[HVE.out],below_row PE.out (by omega) _⟩
theorem give_any(R:Ro)(a:RA)(key:ByteArray)(z:Int)(w:World)(h:RR w a R):Calls Tryz.prog 41 #[rval a R,.string key,.int .i64 z] w (RouOk (giveR R key z) w):=by
 obtain⟨KA,kn,kc,CA,cn,cc⟩:=a
 have H:=qD h
 clear h
 have B0:Hid (Blk ((w.alloc (.cells (rarr ⟨KA,kn,kc,CA,cn,cc⟩ R) 27)).alloc (.cells (rarr RA.zero Ro.zero) 27)) w.heap.size 27 (rarr ⟨KA,kn,kc,CA,cn,cc⟩ R)):=(Blk.new_at rfl).alloc _
 have B1:Hid (Blk ((w.alloc (.cells (rarr ⟨KA,kn,kc,CA,cn,cc⟩ R) 27)).alloc (.cells (rarr RA.zero Ro.zero) 27)) (w.heap.size+1) 27 (rarr RA.zero Ro.zero)):=Blk.new_at (by simp)
 have BE:Hid (Below w.heap.size w ((w.alloc (.cells (rarr ⟨KA,kn,kc,CA,cn,cc⟩ R) 27)).alloc (.cells (rarr RA.zero Ro.zero) 27))):=((Below.refl _ _).alloc (qL) _).alloc (by simp) _
 go_enter Tryz.func41,Tryz.ntmps41
 go_upto_region 1 with fail
 change (Code.region 1 _ _).wp _ _ _ ((w.alloc (.cells (rarr ⟨KA,kn,kc,CA,cn,cc⟩ R) 27)).alloc (.cells (rarr RA.zero Ro.zero) 27))
 generalize (w.alloc (.cells (rarr ⟨KA,kn,kc,CA,cn,cc⟩ R) 27)).alloc (.cells (rarr RA.zero Ro.zero) 27)=wa at*
 obtain⟨q0,q1,q2,q3,q4,q5,qz⟩:=blk_ro B0.out
 simp only at q1 q5
 go_wp2_with fail
 clear q0 q1 q2 q3 q4 q5 qz
 refine(begins_any R ⟨KA,kn,kc,CA,cn,cc⟩ key wa (H.out.step BE.out)).mono ?_
 rintro e w2 ⟨rfl,hb1⟩
 have F0:=qD (B0.out.step hb1)
 have F1:=qD (B1.out.step hb1)
 have FE:=qD (BE.out.step' hb1)
 clear hb1 B0 B1 BE
 rcases idxI_range (begB key) R.cs with⟨hf,_⟩|⟨i,c,hf,hic,hin,_⟩
 ·rw[hf]
  have HVE:Hid (giveR R key z=(Ro.zero,15)):=by unfold Hid giveR;rw[hf];rfl
  obtain⟨r0,r1,r2,r3,r4,r5,rz⟩:=blk_ro F1.out
  have E:=qD (change_err 15 F1.out (by omega) FE.out)
  go_wp2_with fail
  refine bodyPost_ret (results_ro_err rfl _ (w.heap.size+1) rfl _ rfl _ RA.zero Ro.zero E.out.2) rfl ?_
  exact E.out.1.eq HVE.out
 rw[hf]
 have hn:Hid (cn=R.cs.length):=H.out.cs.ln
 have HV:Hid (giveR R key z=if z<0∨8≤z then(Ro.zero,1) else if c.sh=z∨c.ju=true then(Ro.zero,23) else(⟨R.sp,R.ks,R.ha,R.ep,nx R.ver,touch (repl R.cs i 1 [⟨c.lo,c.hi,z,nx R.ver,c.ju⟩]) c.sh (nx R.ver)⟩,0)):=by
  unfold Hid giveR
  rw[if_neg (by omega),hf,Int.toNat_natCast,hic]
 have HIC:=qD hic
 clear hic hin hf
 by_cases hz0:z<0
 ·have HVE:Hid (giveR R key z=(Ro.zero,1)):=by rw[Hid,HV.out,if_pos (.inl hz0)]
  obtain⟨r0,r1,r2,r3,r4,r5,rz⟩:=blk_ro F1.out
  have E:=qD (change_err 1 F1.out (by omega) FE.out)
  go_wp2_with fail
  refine bodyPost_ret (results_ro_err rfl _ (w.heap.size+1) rfl _ rfl _ RA.zero Ro.zero E.out.2) rfl ?_
  exact E.out.1.eq HVE.out
 by_cases hz8:8≤z
 ·have HVE:Hid (giveR R key z=(Ro.zero,1)):=by rw[Hid,HV.out,if_pos (.inr hz8)]
  obtain⟨r0,r1,r2,r3,r4,r5,rz⟩:=blk_ro F1.out
  have E:=qD (change_err 1 F1.out (by omega) FE.out)
  go_wp2_with fail
  refine bodyPost_ret (results_ro_err rfl _ (w.heap.size+1) rfl _ rfl _ RA.zero Ro.zero E.out.2) rfl ?_
  exact E.out.1.eq HVE.out
 have HV:Hid (giveR R key z=if c.sh=z∨c.ju=true then(Ro.zero,23) else(⟨R.sp,R.ks,R.ha,R.ep,nx R.ver,touch (repl R.cs i 1 [⟨c.lo,c.hi,z,nx R.ver,c.ju⟩]) c.sh (nx R.ver)⟩,0)):=by rw[Hid,HV.out,if_neg (by omega)]
 rename_i HV0
 clear HV0
 obtain⟨q0,q1,q2,q3,q4,q5,qz⟩:=blk_ro F0.out
 simp only at q1 q5
 have hicn:i<cn:=by rw[hn.out];exact(List.getElem?_eq_some_iff.1 HIC.out).1
 obtain⟨b,off,x,hA,hbl,hx,_,_,e2,_,e4⟩:=H.out.cs.sr.at5 hicn
 rw[HIC.out] at hx
 injection hx with hx
 subst hx
 simp only at hA
 subst hA
 obtain⟨clo,chi,csh,cver,cju⟩:=c
 have j2:=(FE.out.cell (p:=⟨b,off+i*5+2,none⟩) hbl).trans e2
 have j4:=(FE.out.cell (p:=⟨b,off+i*5+4,none⟩) hbl).trans e4
 have hb2:b<w2.heap.size:=by have:=FE.out.size;omega
 simp only at j2 j4 HV
 clear e2 e4
 go_upto_region 7 with fail
 have P0:=qD (F0.out.alloc (.cells #[.int .i64 csh] 3))
 have P1:=qD (F1.out.alloc (.cells #[.int .i64 csh] 3))
 have P2:Hid (Blk (w2.alloc (.cells #[.int .i64 csh] 3)) w2.heap.size 3 #[.int .i64 csh]):=Blk.new_at rfl
 have PE:=qD (FE.out.alloc FE.out.size (Obj.cells #[.int .i64 csh] 3))
 have i4:=(((Below.refl w2.heap.size w2).alloc (qL) (Obj.cells #[.int .i64 csh] 3)).cell (p:=⟨b,off+i*5+4,none⟩) hb2).trans j4
 have hNf:w.heap.size+1<w2.heap.size:=F1.out.lt
 clear j2 j4 q0 q1 q2 q3 q4 q5 qz F0 F1 FE
 change (Code.region 7 _ _).wp _ _ _ (w2.alloc (.cells #[.int .i64 csh] 3))
 have hwf:(w2.alloc (.cells #[.int .i64 csh] 3)).heap.size=w2.heap.size+1:=by simp
 generalize w2.alloc (.cells #[.int .i64 csh] 3)=wf at*
 have HWF:=qD hwf
 clear hwf hb2
 obtain⟨f,hf⟩:∃f,f=w2.heap.size:=⟨_,rfl⟩
 rw[←hf] at HWF hNf P2 ⊢
 clear hf
 have k0:=P2.out.cell 0
 simp at k0
 obtain⟨q0,q1,q2,q3,q4,q5,qz⟩:=blk_ro P0.out
 simp only at q1 q5
 cases hsz:(csh==z)
 rotate_left
 ·have HVE:Hid (giveR R key z=(Ro.zero,23)):=by rw[Hid,HV.out,if_pos (.inl (by simpa using hsz))]
  obtain⟨r0,r1,r2,r3,r4,r5,rz⟩:=blk_ro P1.out
  have E:=qD (change_err 23 P1.out (by omega) PE.out)
  go_wp2_with fail
  refine bodyPost_ret (results_ro_err rfl _ (w.heap.size+1) rfl _ rfl _ RA.zero Ro.zero E.out.2) rfl ?_
  exact E.out.1.eq HVE.out
 cases hju:cju
 rotate_left
 ·subst hju
  have HVE:Hid (giveR R key z=(Ro.zero,23)):=by rw[Hid,HV.out,if_pos (.inr rfl)]
  obtain⟨r0,r1,r2,r3,r4,r5,rz⟩:=blk_ro P1.out
  have E:=qD (change_err 23 P1.out (by omega) PE.out)
  go_wp2_with fail
  refine bodyPost_ret (results_ro_err rfl _ (w.heap.size+1) rfl _ rfl _ RA.zero Ro.zero E.out.2) rfl ?_
  exact E.out.1.eq HVE.out
 subst hju
 have HV:Hid (giveR R key z=(⟨R.sp,R.ks,R.ha,R.ep,nx R.ver,touch (repl R.cs i 1 [⟨clo,chi,z,nx R.ver,false⟩]) csh (nx R.ver)⟩,0)):=by rw[Hid,HV.out,if_neg (by simpa using hsz)]
 have hch:=changed_any w.heap.size R ⟨KA,kn,kc,some ⟨b,off,none⟩,cn,cc⟩ wf PE.out.size (H.out.ks.toB PE.out) (H.out.cs.step PE.out)
 have hSR:R.nx.cs=R.cs:=rfl
 obtain⟨S,hS⟩:∃S,S=R.nx:=⟨_,rfl⟩
 rw[←hS] at hch hSR
 have HS:=qD hS
 have HSR:=qD hSR
 clear hS hSR
 have HCH:=qD hch
 clear hch
 go_wp2_with fail
 clear q0 q1 q2 q3 q4 q5 qz i4 k0
 refine HCH.out.mono ?_
 rintro e w3 ⟨⟨KA',kn',kc',CA',cn',cc'⟩,rfl,hks,hown,hln,hcz,hb3⟩
 have hN:=P0.out.lt
 have hN1:=P1.out.lt
 have hcn':cn'=cn:=by rw[hn.out,←HSR.out];exact hln
 have V0:=qD (Vr.of (B:=w.heap.size) (w:=w) (lo:=wf.heap.size) (N:=w.heap.size) (P0.out.step hb3) (qL) hN hks hown hln hcz hb3.size (PE.out.step' hb3))
 have V1:Hid (Blk (setR w3 w.heap.size ⟨KA',kn',kc',CA',cn',cc'⟩ S) (w.heap.size+1) 27 (rarr RA.zero Ro.zero)):=(heap_setR _ _ _ _ _ (by omega)).trans (P1.out.step hb3)
 have V2:Hid (Blk (setR w3 w.heap.size ⟨KA',kn',kc',CA',cn',cc'⟩ S) f 3 #[.int .i64 csh]):=(heap_setR _ _ _ _ _ (by omega)).trans (P2.out.step hb3)
 obtain⟨q0,q1,q2,q3,q4,q5,qz⟩:=blk_ro (P0.out.step hb3)
 simp only at q1 q5
 subst hcn'
 clear hks hown hb3
 have HCZ:=qD hcz
 clear hcz hln
 have hh2:=qD (show wf.heap.size≤w3.heap.size from V0.out.hn.2.2.1)
 go_upto_region 10 with fail
 clear q0 q1 q2 q3 q4 q5 qz
 change (Code.region 10 _ _).wp _ _ _ (setR w3 w.heap.size ⟨KA',kn',kc',CA',cn',cc'⟩ S)
 generalize setR w3 w.heap.size ⟨KA',kn',kc',CA',cn',cc'⟩ S=w4 at*
 rw[HSR.out] at V0
 obtain⟨g,hgA,hgl,hgh,hgc⟩:=V0.out.get HIC.out
 simp only at hgA
 subst hgA
 obtain⟨q0,q1,q2,q3,q4,q5,qz⟩:=blk_ro V0.out.b0
 simp only at q1 q5
 obtain⟨c2,z2⟩:=hgc 2 _ rfl
 clear hgc
 have W0:=qD (V0.out.put (g:=g) rfl HIC.out (j:=2) (v:=.int .i64 z) (c':=⟨clo,chi,z,cver,false⟩) (by omega) rfl)
 have W1:=qD (V1.out.far (p:=⟨g,i*5+2,none⟩) (by show w.heap.size+1≠g;omega) (.int .i64 z))
 have W2:=qD (V2.out.far (p:=⟨g,i*5+2,none⟩) (by show f≠g;have:=HWF.out;omega) (.int .i64 z))
 go_upto_region 11 with fail
 clear q0 q1 q2 q3 q4 q5 qz c2 z2 V0 V1 V2
 generalize w4.setCell ⟨g,i*5+2,none⟩ (.int .i64 z)=w5 at*
 have HI':Hid ((R.cs.set i ⟨clo,chi,z,cver,false⟩)[i]?=some ⟨clo,chi,z,cver,false⟩):=by rw[Hid,List.getElem?_set,if_pos rfl,if_pos (List.getElem?_eq_some_iff.1 HIC.out).1]
 obtain⟨g',hgA,_,_,hgc⟩:=W0.out.get HI'.out
 injection hgA with hgA
 injection hgA with hgA
 subst hgA
 obtain⟨q0,q1,q2,q3,q4,q5,qz⟩:=blk_ro W0.out.b0
 simp only at q1 q5
 obtain⟨c3,z3⟩:=hgc 3 _ rfl
 clear hgc
 have hset:(R.cs.set i ⟨clo,chi,z,cver,false⟩).set i ⟨clo,chi,z,S.ver,false⟩=repl R.cs i 1 [⟨clo,chi,z,S.ver,false⟩]:=by rw[set_two,set_repl (by rw[←hn.out];exact hicn)]
 have X0:=qD (W0.out.put (g:=g) rfl HI'.out (j:=3) (v:=.int .i64 S.ver) (c':=⟨clo,chi,z,S.ver,false⟩) (by omega) rfl)
 rw[hset] at X0
 clear hset
 have X1:=qD (W1.out.far (p:=⟨g,i*5+3,none⟩) (by show w.heap.size+1≠g;omega) (.int .i64 S.ver))
 have X2:=qD (W2.out.far (p:=⟨g,i*5+3,none⟩) (by show f≠g;have:=HWF.out;omega) (.int .i64 S.ver))
 go_upto_region 12 with fail
 clear q0 q1 q2 q3 q4 q5 qz c3 z3 W0 W1 W2
 generalize w5.setCell ⟨g,i*5+3,none⟩ (.int .i64 S.ver)=w6 at*
 have HVS:Hid (giveR R key z=(⟨S.sp,S.ks,S.ha,S.ep,S.ver,touch (repl R.cs i 1 [⟨clo,chi,z,S.ver,false⟩]) csh S.ver⟩,0)):=by
  rw[Hid,HV.out,HS.out]
  rfl
 have hsp:Hid (S.sp.size≤reach):=by rw[Hid,HS.out];exact H.out.sp
 clear HV HS HSR
 obtain⟨L,hL⟩:∃L,L=repl R.cs i 1 [⟨clo,chi,z,S.ver,false⟩]:=⟨_,rfl⟩
 rw[←hL] at X0 HVS
 clear hL
 have hLn:Hid (cn'=L.length):=X0.out.ln
 obtain⟨q0,q1,q2,q3,q4,q5,qz⟩:=blk_ro X0.out.b0
 simp only at q1 q5
 obtain⟨A',c',hv',hsr'⟩:=SR.of_own recC_length X0.out.own X0.out.ln.symm
 injection hv' with e1 e2 e3
 subst e1 e3
 have HIX:=qD (indexC_any 63 f (shB csh) L _ _ _ w6 ⟨hsr',X0.out.sz⟩ (fun _ _=>rfl) fun x wr hb=>give1_any x f csh wr ((X2.out.step hb).cell 0))
 clear hsr'
 go_wp2_with fail
 clear q0 q1 q2 q3 q4 q5 qz
 refine HIX.out.mono ?_
 rintro e w7 ⟨rfl,hb7⟩
 have Y0:=qD (X0.out.step hb7)
 have Y1:=qD (X1.out.step hb7)
 clear hb7 X0 X1 X2 HIX
 rcases idxI_range (shB csh) L with⟨hf,_⟩|⟨k,d,hf,hkd,_,_⟩
 ·rw[hf]
  have HVS:Hid (giveR R key z=(⟨S.sp,S.ks,S.ha,S.ep,S.ver,L⟩,0)):=by
   rw[Hid,HVS.out]
   unfold touch
   rw[if_pos (by omega)]
  clear hf
  obtain⟨q0,q1,q2,q3,q4,q5,qz⟩:=blk_ro Y0.out.b0
  simp only at q1 q5
  obtain⟨r0,r1,r2,r3,r4,r5,rz⟩:=blk_ro Y1.out
  have E:=qD (change_end (R:=⟨S.sp,S.ks,S.ha,S.ep,S.ver,L⟩) (a:=⟨KA',kn',kc',some ⟨g,0,none⟩,cn',cc'⟩) rfl Y1.out (by omega) (by omega) hsp.out (Y0.out.ks.keep (qL) fun b hF _=>⟨hF.1.1,rfl⟩) Y0.out.own Y0.out.ln Y0.out.sz Y0.out.bel)
  clear Y0 Y1
  go_wp2_with fail
  clear q0 q1 q2 q3 q4 q5 qz r0 r1 r2 r3 r4 r5 rz
  refine bodyPost_ret (results_ro_err rfl _ (w.heap.size+1) rfl _ rfl _ ⟨KA',kn',kc',some ⟨g,0,none⟩,cn',cc'⟩ _ E.out.2) rfl ?_
  exact E.out.1.eq HVS.out
 ·rw[hf]
  have HVS:Hid (giveR R key z=(⟨S.sp,S.ks,S.ha,S.ep,S.ver,L.set k ⟨d.lo,d.hi,d.sh,S.ver,d.ju⟩⟩,0)):=by
   rw[Hid,HVS.out]
   unfold touch
   rw[if_neg (by omega),hf,Int.toNat_natCast,hkd]
  have HK:=qD hkd
  have hkl:k<cn':=by rw[hLn.out];exact(List.getElem?_eq_some_iff.1 hkd).1
  clear hf hkd
  obtain⟨dlo,dhi,dsh,dver,dju⟩:=d
  simp only at HVS
  obtain⟨g',hgA,_,_,hgc⟩:=Y0.out.get HK.out
  injection hgA with hgA
  injection hgA with hgA
  subst hgA
  obtain⟨q0,q1,q2,q3,q4,q5,qz⟩:=blk_ro Y0.out.b0
  simp only at q1 q5
  obtain⟨c3,z3⟩:=hgc 3 _ rfl
  clear hgc
  have Z0:=qD (Y0.out.put (g:=g) rfl HK.out (j:=3) (v:=.int .i64 S.ver) (c':=⟨dlo,dhi,dsh,S.ver,dju⟩) (by omega) rfl)
  have Z1:=qD (Y1.out.far (p:=⟨g,k*5+3,none⟩) (by show w.heap.size+1≠g;omega) (.int .i64 S.ver))
  go_upto_region 15 with fail
  clear q0 q1 q2 q3 q4 q5 qz c3 z3 Y0 Y1
  generalize w7.setCell ⟨g,k*5+3,none⟩ (.int .i64 S.ver)=w8 at*
  obtain⟨q0,q1,q2,q3,q4,q5,qz⟩:=blk_ro Z0.out.b0
  simp only at q1 q5
  obtain⟨r0,r1,r2,r3,r4,r5,rz⟩:=blk_ro Z1.out
  have E:=qD (change_end (R:=⟨S.sp,S.ks,S.ha,S.ep,S.ver,L.set k ⟨dlo,dhi,dsh,S.ver,dju⟩⟩) (a:=⟨KA',kn',kc',some ⟨g,0,none⟩,cn',cc'⟩) rfl Z1.out (by omega) (by omega) hsp.out (Z0.out.ks.keep (qL) fun b hF _=>⟨hF.1.1,rfl⟩) Z0.out.own Z0.out.ln Z0.out.sz Z0.out.bel)
  clear Z0 Z1
  go_wp2_with fail
  clear q0 q1 q2 q3 q4 q5 qz r0 r1 r2 r3 r4 r5 rz
  refine bodyPost_ret (results_ro_err rfl _ (w.heap.size+1) rfl _ rfl _ ⟨KA',kn',kc',some ⟨g,0,none⟩,cn',cc'⟩ _ E.out.2) rfl ?_
  exact E.out.1.eq HVS.out
structure MO(B:Nat)(a:MA)(M:Mv)(ps qs:List PW)(wr:World):Prop where
 sp:M.sp.size≤reach
 cp:ps.map Prod.snd=M.cp
 ch:qs.map Prod.snd=M.ch
 cn:a.cn=ps.length
 hn:a.hn=qs.length
 oc:wr.ownsRow B 67 78 (.slice a.CA a.cn a.cc) ps.length (flat recW ps)
 oh:wr.ownsRow B 67 78 (.slice a.HA a.hn a.hc) qs.length (flat recW qs)
 ne:∀b,(Value.slice a.CA a.cn a.cc).ownBlock=some b→(Value.slice a.HA a.hn a.hc).ownBlock≠some b
 rc:∀p∈ps,RW1 (fun b=>B≤b∧(Value.slice a.CA a.cn a.cc).ownBlock≠some b∧(Value.slice a.HA a.hn a.hc).ownBlock≠some b) wr p.1 p.2
 rh:∀q∈qs,RW1 (fun b=>B≤b∧(Value.slice a.CA a.cn a.cc).ownBlock≠some b∧(Value.slice a.HA a.hn a.hc).ownBlock≠some b) wr q.1 q.2
theorem MO.keep{B:Nat}{wr w':World}{a:MA}{M:Mv}{ps qs:List PW}(h:MO B a M ps qs wr)(hk:∀b,B≤b→b<wr.heap.size→w'.heap[b]?=wr.heap[b]?):MO B a M ps qs w':=
 ⟨h.sp,h.cp,h.ch,h.cn,h.hn,own_keep h.oc fun g hg=>hk g (own_ge h.oc g hg) (own_lt h.oc hg),own_keep h.oh fun g hg=>hk g (own_ge h.oh g hg) (own_lt h.oh hg),h.ne,
  fun p hp=>(h.rc p hp).keepG fun b hb hl=>⟨hb,hk b hb.1 hl⟩,fun p hp=>(h.rh p hp).keepG fun b hb hl=>⟨hb,hk b hb.1 hl⟩⟩
theorem MO.step{B:Nat}{wr w':World}{a:MA}{M:Mv}{ps qs:List PW}(h:MO B a M ps qs wr)(hb:Below wr.heap.size wr w'):MO B a M ps qs w':=h.keep fun b _ hl=>hb.block b hl
theorem own_ws{B:Nat}{wr:World}{A:Option Addr}{n c:Nat}{ps:List PW}{F:Nat→Prop}(h:wr.ownsRow B 67 78 (.slice A n c) ps.length (flat recW ps))(hn:n=ps.length)(hz:ps.length≤100000)(hr:∀p∈ps,RW1 F wr p.1 p.2):WS (fun _=>True) wr A n c ps:=by
 refine⟨?_,by rw[hn];unfold reach;omega,fun p hp=>(hr p hp).mono fun _ _=>trivial⟩
 obtain⟨A',c',e,hs⟩:=SR.of_own recW_length h rfl
 injection e with e1 e2 e3
 rw[e1,e2,e3]
 exact hs
theorem MO.wc{B:Nat}{wr:World}{a:MA}{M:Mv}{ps qs:List PW}(h:MO B a M ps qs wr)(h1:ps.length≤100000):WS (fun _=>True) wr a.CA a.cn a.cc ps:=own_ws h.oc h.cn h1 h.rc
theorem MO.wh{B:Nat}{wr:World}{a:MA}{M:Mv}{ps qs:List PW}(h:MO B a M ps qs wr)(h1:qs.length≤100000):WS (fun _=>True) wr a.HA a.hn a.hc qs:=own_ws h.oh h.hn h1 h.rh
theorem MO.mr{B:Nat}{wr:World}{a:MA}{M:Mv}{ps qs:List PW}(h:MO B a M ps qs wr)(h1:ps.length≤100000)(h2:qs.length≤100000):MR wr a M:=⟨h.sp,⟨ps,h.cp,h.wc h1⟩,⟨qs,h.ch,h.wh h2⟩⟩
theorem reads_one{w:World}{g B:Nat}{c:WC}(h:Blk w g 67 (recC78 c).toArray)(hB:g<B):Reads w B 78 (some ⟨g,0,none⟩) 1 (recC78 c):=by
 refine⟨recC78_length c,fun _=>⟨_,rfl,hB,fun j u hu=>?_⟩⟩
 rw[addr_add,Nat.zero_add,h.cell,List.getElem?_toArray]
 exact hu
theorem flatW_snoc(ps:List PW)(c:WC)(x:Wt):flat recW (ps++[(c,x)])=flat recW ps++recC78 c:=flat_snoc recW ps (c,x)
theorem MO.addH{B:Nat}{w w':World}{a:MA}{M:Mv}{ps qs:List PW}{c:WC}{x:Wt}{A:Option Addr}{cc:Nat}(h:MO B a M ps qs w)(hr:RW1 (fun b=>B≤b∧(Value.slice a.CA a.cn a.cc).ownBlock≠some b∧(Value.slice a.HA a.hn a.hc).ownBlock≠some b) w c x)(ho:w'.ownsRow B 67 78 (.slice A (qs.length+1) cc) (qs.length+1) (flat recW qs++recC78 c))(hg:w.grownBy w' (Value.slice a.HA a.hn a.hc).ownBlock)(hat:(Value.slice A (qs.length+1) cc).ownBlock=(Value.slice a.HA a.hn a.hc).ownBlock∨(Value.slice A (qs.length+1) cc).ownBlock=some w.heap.size):
 MO B ⟨a.CA,a.cn,a.cc,A,qs.length+1,cc⟩ ⟨M.sp,M.lo,M.hi,M.fr,M.tt,M.st,M.cp,M.ch++[x]⟩ ps (qs++[(c,x)]) w':=by
 have key:∀b,(B≤b∧(Value.slice a.CA a.cn a.cc).ownBlock≠some b∧(Value.slice a.HA a.hn a.hc).ownBlock≠some b)→b<w.heap.size→(B≤b∧(Value.slice a.CA a.cn a.cc).ownBlock≠some b∧(Value.slice A (qs.length+1) cc).ownBlock≠some b)∧w'.heap[b]?=w.heap[b]?:=fun b hb hl=>by
  refine⟨⟨hb.1,hb.2.1,?_⟩,hg.block b hl (fun e=>hb.2.2 e.symm)⟩
  rcases hat with e|e<;>rw[e]
  ·exact hb.2.2
  ·intro e'
   injection e' with e'
   omega
 refine⟨h.sp,h.cp,by rw[List.map_append,h.ch];rfl,h.cn,by rw[List.length_append];rfl,own_keep h.oc fun g e=>hg.block g (own_lt h.oc e) (fun e2=>h.ne g e e2.symm),by rw[flatW_snoc,List.length_append];exact ho,fun b e=>?_,fun p hp=>(h.rc p hp).keepG key,fun p hp=>?_⟩
 ·rcases hat with e2|e2<;>rw[e2]
  ·exact h.ne b e
  ·intro e3
   injection e3 with e3
   have:=own_lt h.oc e
   omega
 ·rcases List.mem_append.1 hp with hp|hp
  ·exact(h.rh p hp).keepG key
  ·simp only[List.mem_singleton] at hp
   subst hp
   exact hr.keepG key
theorem MO.addC{B:Nat}{w w':World}{a:MA}{M:Mv}{ps qs:List PW}{c:WC}{x:Wt}{A:Option Addr}{cc:Nat}(h:MO B a M ps qs w)(hr:RW1 (fun b=>B≤b∧(Value.slice a.CA a.cn a.cc).ownBlock≠some b∧(Value.slice a.HA a.hn a.hc).ownBlock≠some b) w c x)(ho:w'.ownsRow B 67 78 (.slice A (ps.length+1) cc) (ps.length+1) (flat recW ps++recC78 c))(hg:w.grownBy w' (Value.slice a.CA a.cn a.cc).ownBlock)(hat:(Value.slice A (ps.length+1) cc).ownBlock=(Value.slice a.CA a.cn a.cc).ownBlock∨(Value.slice A (ps.length+1) cc).ownBlock=some w.heap.size):
 MO B ⟨A,ps.length+1,cc,a.HA,a.hn,a.hc⟩ ⟨M.sp,M.lo,M.hi,M.fr,M.tt,M.st,M.cp++[x],M.ch⟩ (ps++[(c,x)]) qs w':=by
 have key:∀b,(B≤b∧(Value.slice a.CA a.cn a.cc).ownBlock≠some b∧(Value.slice a.HA a.hn a.hc).ownBlock≠some b)→b<w.heap.size→(B≤b∧(Value.slice A (ps.length+1) cc).ownBlock≠some b∧(Value.slice a.HA a.hn a.hc).ownBlock≠some b)∧w'.heap[b]?=w.heap[b]?:=fun b hb hl=>by
  refine⟨⟨hb.1,?_,hb.2.2⟩,hg.block b hl (fun e=>hb.2.1 e.symm)⟩
  rcases hat with e|e<;>rw[e]
  ·exact hb.2.1
  ·intro e'
   injection e' with e'
   omega
 refine⟨h.sp,by rw[List.map_append,h.cp];rfl,h.ch,by rw[List.length_append];rfl,h.hn,by rw[flatW_snoc,List.length_append];exact ho,own_keep h.oh fun g e=>hg.block g (own_lt h.oh e) (fun e2=>h.ne g e2.symm e),fun b e=>?_,fun p hp=>?_,fun p hp=>(h.rh p hp).keepG key⟩
 ·rcases hat with e2|e2<;>rw[e2] at e
  ·exact h.ne b e
  ·intro e3
   injection e with e
   have:=own_lt h.oh e3
   omega
 ·rcases List.mem_append.1 hp with hp|hp
  ·exact(h.rc p hp).keepG key
  ·simp only[List.mem_singleton] at hp
   subst hp
   exact hr.keepG key
def CmOk(w:World)(M:Mv)(e:Ending)(w':World):Prop:=∃(mb:MA) (ps qs:List PW),e=.returned (mval mb M)∧MO w.heap.size mb M ps qs w'∧Below w.heap.size w w'
theorem copyMove_any(M:Mv)(ma:MA)(w:World)(h:MR w ma M)(hc:M.cp.length≤1000)(hh:M.ch.length≤1000):Calls Tryz.prog 33 #[mval ma M] w (CmOk w M):=by
 obtain⟨ps,hps,hP⟩:=h.cp
 obtain⟨qs,hqs,hQ⟩:=h.ch
 obtain⟨CA,cn,cc,HA,hn,hc2⟩:=ma
 obtain⟨sp,lo,hi,fr,tt,st,cp,ch⟩:=M
 simp only at hps hqs hP hQ hc hh
 have hcl:cn=ps.length:=hP.sr.ln
 have hhl:hn=qs.length:=hQ.sr.ln
 have hc3:cn≤1000:=by rw[hcl,←List.length_map (f:=Prod.snd),hps];exact hc
 have hh3:hn≤1000:=by rw[hhl,←List.length_map (f:=Prod.snd),hqs];exact hh
 have HP:=qD hP
 have HQ:=qD hQ
 have HPS:=qD hps
 have HQS:=qD hqs
 have HSP:Hid (sp.size≤reach):=h.sp
 have HC3:=qD hc3
 have HH3:=qD hh3
 have HCL:=qD hcl
 have HHL:=qD hhl
 clear h hP hQ hps hqs hc hh hcl hhl hc3 hh3
 obtain⟨wa,hwa⟩:∃wa,(w.alloc (.cells #[.string sp,.string lo,.string hi,.int .i64 fr,.int .i64 tt,.int .i64 st,.slice CA cn cc,.slice HA hn hc2] 35)).alloc (.cells (marr MA.zero Mv.zero) 35)=wa:=⟨_,rfl⟩
 have B0:Hid (Blk wa w.heap.size 35 #[.string sp,.string lo,.string hi,.int .i64 fr,.int .i64 tt,.int .i64 st,.slice CA cn cc,.slice HA hn hc2]):=by rw[←hwa];exact(Blk.new_at rfl).alloc _
 have B1:Hid (Blk wa (w.heap.size+1) 35 (marr MA.zero Mv.zero)):=by rw[←hwa];exact Blk.new_at (by simp)
 have BE:Hid (Below w.heap.size w wa):=by rw[←hwa];exact((Below.refl _ _).alloc (qL) _).alloc (by simp) _
 have HWA:=qD hwa
 clear hwa
 go_enter Tryz.func33,Tryz.ntmps33
 go_upto_region 1 with fail
 change Code.wp _ _ _ _ ((w.alloc (.cells #[.string sp,.string lo,.string hi,.int .i64 fr,.int .i64 tt,.int .i64 st,.slice CA cn cc,.slice HA hn hc2] 35)).alloc (.cells (marr MA.zero Mv.zero) 35))
 rw[HWA.out]
 clear HWA
 have q6:wa.cell? ⟨w.heap.size,6,none⟩=some (.slice CA cn cc):=B0.out.cell 6
 have HCW:=qD (copyWrites_any ps CA cn cc wa (HP.out.step BE.out) (by have:=HC3.out;omega))
 go_wp2_with fail
 refine HCW.out.mono ?_
 rintro e w1 ⟨A1,c1,ps1,rfl,hm1,hl1,hown1,hr1,hb1⟩
 have HM1:=qD hm1
 have HL1:=qD hl1
 have C0:=qD (B0.out.step hb1)
 have C1:=qD (B1.out.step hb1)
 have CE:=qD (BE.out.step' hb1)
 have HWL:Hid (w.heap.size+1<wa.heap.size):=B1.out.lt
 have hne1:(Value.slice A1 cn c1).ownBlock≠some w.heap.size:=own_ne hown1 (by have:=HWL.out;omega)
 have O1:Hid ((w1.setCell ⟨w.heap.size,6,none⟩ (.slice A1 cn c1)).ownsRow wa.heap.size 67 78 (.slice A1 cn c1) cn (flat recW ps1)):=own_far hown1 hne1 _
 have R1:Hid (∀p∈ps1,RW1 (fun b=>wa.heap.size≤b∧(Value.slice A1 cn c1).ownBlock≠some b) (w1.setCell ⟨w.heap.size,6,none⟩ (.slice A1 cn c1)) p.1 p.2):=fun p hp=>(hr1 p hp).keepG fun b hb _=>⟨hb,Below.heap_setCell _ _ _ b (by show b≠w.heap.size;have:=HWL.out;omega)⟩
 have D0:Hid (Blk (w1.setCell ⟨w.heap.size,6,none⟩ (.slice A1 cn c1)) w.heap.size 35 #[.string sp,.string lo,.string hi,.int .i64 fr,.int .i64 tt,.int .i64 st,.slice A1 cn c1,.slice HA hn hc2]):=C0.out.set_ 6 _
 have D1:Hid (Blk (w1.setCell ⟨w.heap.size,6,none⟩ (.slice A1 cn c1)) (w.heap.size+1) 35 (marr MA.zero Mv.zero)):=C1.out.far (p:=⟨w.heap.size,6,none⟩) (by show w.heap.size+1≠w.heap.size;omega) _
 have DE:Hid (Below w.heap.size w (w1.setCell ⟨w.heap.size,6,none⟩ (.slice A1 cn c1))):=CE.out.setCell (qL) _
 have HSZ1:Hid (wa.heap.size≤(w1.setCell ⟨w.heap.size,6,none⟩ (.slice A1 cn c1)).heap.size):=by have:=hb1.size;simpa[Hid,World.setCell] using this
 clear q6 hm1 hl1 hown1 hr1 hb1 hne1 HCW B0 B1 BE CE C1
 have q6:=C0.out.cell 6
 have z6:=C0.out.frozen 6
 simp at q6
 go_upto_region 2 with fail
 clear q6 z6
 change Code.wp _ _ _ _ (w1.setCell ⟨w.heap.size,6,none⟩ (.slice A1 cn c1))
 generalize w1.setCell ⟨w.heap.size,6,none⟩ (.slice A1 cn c1)=w2 at*
 have q7:w2.cell? ⟨w.heap.size,7,none⟩=some (.slice HA hn hc2):=D0.out.cell 7
 have HCW:=qD (copyWrites_any qs HA hn hc2 w2 (HQ.out.step DE.out) (by have:=HH3.out;omega))
 go_wp2_with fail
 refine HCW.out.mono ?_
 rintro e w3 ⟨A3,c3,qs1,rfl,hm3,hl3,hown3,hr3,hb3⟩
 have HM3:=qD hm3
 have HL3:=qD hl3
 have E0:=qD (D0.out.step hb3)
 have E1:=qD (D1.out.step hb3)
 have EE:=qD (DE.out.step' hb3)
 have O2:=qD (own_step O1.out hb3)
 have R2:=qD (fun p hp=>((R1.out p hp).step hb3))
 have HD1:Hid (w.heap.size+1<w2.heap.size):=D1.out.lt
 have hge3:=own_ge hown3
 have hlt1:∀b,(Value.slice A1 cn c1).ownBlock=some b→b<w2.heap.size:=fun b e=>own_lt O1.out e
 have hne3:(Value.slice A3 hn c3).ownBlock≠some w.heap.size:=own_ne hown3 (by have:=HD1.out;omega)
 have O3:Hid ((w3.setCell ⟨w.heap.size,7,none⟩ (.slice A3 hn c3)).ownsRow w2.heap.size 67 78 (.slice A3 hn c3) hn (flat recW qs1)):=own_far hown3 hne3 _
 have O4:Hid ((w3.setCell ⟨w.heap.size,7,none⟩ (.slice A3 hn c3)).ownsRow wa.heap.size 67 78 (.slice A1 cn c1) cn (flat recW ps1)):=own_far O2.out (fun e=>by have h1:=own_ge O2.out _ e;have:=HWL.out;simp only at h1;omega) _
 have F0:Hid (Blk (w3.setCell ⟨w.heap.size,7,none⟩ (.slice A3 hn c3)) w.heap.size 35 (marr ⟨A1,cn,c1,A3,hn,c3⟩ ⟨sp,lo,hi,fr,tt,st,cp,ch⟩)):=E0.out.set_ 7 _
 have F1:Hid (Blk (w3.setCell ⟨w.heap.size,7,none⟩ (.slice A3 hn c3)) (w.heap.size+1) 35 (marr MA.zero Mv.zero)):=E1.out.far (p:=⟨w.heap.size,7,none⟩) (by show w.heap.size+1≠w.heap.size;omega) _
 have FE:Hid (Below w.heap.size w (w3.setCell ⟨w.heap.size,7,none⟩ (.slice A3 hn c3))):=EE.out.setCell (qL) _
 have hs3:∀b,b≠w.heap.size→(w3.setCell ⟨w.heap.size,7,none⟩ (.slice A3 hn c3)).heap[b]?=w3.heap[b]?:=fun b hb=>Below.heap_setCell _ _ _ b hb
 have HC:Hid (∀p∈ps1,RW1 (fun b=>w.heap.size+2≤b∧(Value.slice A1 cn c1).ownBlock≠some b∧(Value.slice A3 hn c3).ownBlock≠some b) (w3.setCell ⟨w.heap.size,7,none⟩ (.slice A3 hn c3)) p.1 p.2):=fun p hp=>
  ((R1.out p hp).keepG (G:=fun b=>wa.heap.size≤b∧b<w2.heap.size∧(Value.slice A1 cn c1).ownBlock≠some b) fun b hb hlt=>⟨⟨hb.1,hlt,hb.2⟩,hb3.block b hlt⟩).keepG fun b hb _=>⟨⟨by have:=HWL.out;omega,hb.2.2,fun e=>by have:=hge3 b e;omega⟩,hs3 b (by have:=HWL.out;omega)⟩
 have HH:Hid (∀p∈qs1,RW1 (fun b=>w.heap.size+2≤b∧(Value.slice A1 cn c1).ownBlock≠some b∧(Value.slice A3 hn c3).ownBlock≠some b) (w3.setCell ⟨w.heap.size,7,none⟩ (.slice A3 hn c3)) p.1 p.2):=fun p hp=>
  (hr3 p hp).keepG fun b hb _=>⟨⟨by have:=HD1.out;omega,fun e=>by have:=hlt1 b e;omega,hb.2⟩,hs3 b (by have:=HD1.out;omega)⟩
 have HNE:Hid (∀b,(Value.slice A1 cn c1).ownBlock=some b→(Value.slice A3 hn c3).ownBlock≠some b):=fun b e1 e3=>by have:=hlt1 b e1;have:=hge3 b e3;omega
 clear q7 hm3 hl3 hown3 hr3 hb3 hge3 hlt1 hne3 hs3 HCW O1 R1 R2 O2 D0 D1 DE EE E1
 have q7:=E0.out.cell 7
 have z7:=E0.out.frozen 7
 simp at q7
 go_upto_region 3 with fail
 clear q7 z7 E0 C0
 change Code.wp _ _ _ _ (w3.setCell ⟨w.heap.size,7,none⟩ (.slice A3 hn c3))
 generalize w3.setCell ⟨w.heap.size,7,none⟩ (.slice A3 hn c3)=w4 at*
 go_wp2_with (first|(refine wpList_load_row rfl 35 _ rfl (w.heap.size) rfl _ _ _ _ F0.out Tryz.underlying35 rfl (by rw[sizeM];rfl) ?_)|(refine wpList_store_row rfl 35 _ _ rfl (w.heap.size+1) (marr ⟨A1,cn,c1,A3,hn,c3⟩ ⟨sp,lo,hi,fr,tt,st,cp,ch⟩) rfl rfl 35 _ F1.out (by rw[sizeM];rfl) rfl (marr_all _ _) ?_))
 have hfar:∀b,b≠w.heap.size+1→(w4.setRow (w.heap.size+1) (marr ⟨A1,cn,c1,A3,hn,c3⟩ ⟨sp,lo,hi,fr,tt,st,cp,ch⟩)).heap[b]?=w4.heap[b]?:=fun b hb=>setRow_other _ _ _ _ hb
 refine bodyPost_ret (results_mv1 rfl _ (w.heap.size+1) rfl _ ⟨A1,cn,c1,A3,hn,c3⟩ ⟨sp,lo,hi,fr,tt,st,cp,ch⟩ (Blk.row F1.out _)) rfl ⟨⟨A1,cn,c1,A3,hn,c3⟩,ps1,qs1,rfl,?_⟩
 have hl1:=HL1.out
 have hl3:=HL3.out
 subst hl1 hl3
 exact⟨⟨HSP.out,by rw[HM1.out,HPS.out],by rw[HM3.out,HQS.out],rfl,rfl,
  own_mono (own_keep O4.out fun g hg=>hfar g (by have:=own_ge O4.out g hg;have:=HWL.out;omega)) (by have:=HWL.out;omega),
  own_mono (own_keep O3.out fun g hg=>hfar g (by have:=own_ge O3.out g hg;have:=HD1.out;omega)) (by have:=HD1.out;omega),HNE.out,
  fun p hp=>(HC.out p hp).keepG fun b hb _=>⟨⟨by omega,hb.2⟩,hfar b (by omega)⟩,fun p hp=>(HH.out p hp).keepG fun b hb _=>⟨⟨by omega,hb.2⟩,hfar b (by omega)⟩⟩,below_row FE.out (by omega) _⟩
def PutOk(w:World)(x:Wt)(e:Ending)(w':World):Prop:=∃wc:WC,e=.returned (.agg (recC78 wc).toArray)∧RW1 (fun b=>w.heap.size≤b) w' wc x∧Below w.heap.size w w'
theorem put_any(M:Mv)(ma:MA)(x:Val)(c:VC)(w:World)(hs:M.sp.size≤reach)(hx:RW w c x):Calls Tryz.prog 35 #[mval ma M,c.val] w (PutOk w (putW M.sp x)):=by
 have HS:=qD hs
 have HX:=qD hx
 clear hs hx
 have BM:Hid (Blk (((w.alloc (.cells (marr ma M) 35)).alloc (.cells c.arr 45)).alloc (.cells (recC78 WC.zero).toArray 67)) w.heap.size 35 (marr ma M)):=((Blk.new_at rfl).alloc _).alloc _
 have BV:Hid (Blk (((w.alloc (.cells (marr ma M) 35)).alloc (.cells c.arr 45)).alloc (.cells (recC78 WC.zero).toArray 67)) (w.heap.size+1) 45 c.arr):=(Blk.new_at (by simp)).alloc _
 have B4:Hid (Blk (((w.alloc (.cells (marr ma M) 35)).alloc (.cells c.arr 45)).alloc (.cells (recC78 WC.zero).toArray 67)) (w.heap.size+2) 67 (recC78 WC.zero).toArray):=Blk.new_at (by simp)
 have BE:Hid (Below w.heap.size w (((w.alloc (.cells (marr ma M) 35)).alloc (.cells c.arr 45)).alloc (.cells (recC78 WC.zero).toArray 67))):=(((Below.refl _ _).alloc (qL) _).alloc (by simp) _).alloc (by simp;omega) _
 go_enter Tryz.func35,Tryz.ntmps35
 go_upto_region 1 with fail
 change Code.wp _ _ _ _ (((w.alloc (.cells (marr ma M) 35)).alloc (.cells c.arr 45)).alloc (.cells (recC78 WC.zero).toArray 67))
 generalize (((w.alloc (.cells (marr ma M) 35)).alloc (.cells c.arr 45)).alloc (.cells (recC78 WC.zero).toArray 67))=wa at*
 obtain⟨a0,a1,a2,a3,a4⟩:=VAt.of_blk BV.out
 simp only[Nat.zero_add] at a0 a1 a2 a3 a4
 have HG:=qD (get_any x c idB wa (HX.out.step BE.out))
 go_wp2_with fail
 refine HG.out.mono ?_
 rintro e w1 ⟨c1,rfl,hr,hb⟩
 have RC1:=qD hr
 have CM:=qD (BM.out.step hb)
 have CV:=qD (BV.out.step hb)
 have C4:=qD (B4.out.step hb)
 have CE:=qD (BE.out.step' hb)
 clear hb hr HG a0 a1 a2 a3 a4 BM BV B4 BE
 go_upto_region 2 with fail
 change Code.wp _ _ _ _ (w1.alloc (.cells c1.arr 45))
 have DV1:Hid (Blk (w1.alloc (.cells c1.arr 45)) w1.heap.size 45 c1.arr):=Blk.new_at rfl
 have DM:=qD (CM.out.alloc (.cells c1.arr 45))
 have DV:=qD (CV.out.alloc (.cells c1.arr 45))
 have B4:=qD (C4.out.alloc (.cells c1.arr 45))
 have DE:=qD (CE.out.alloc CE.out.size (Obj.cells c1.arr 45))
 have R1:Hid (RW (w1.alloc (.cells c1.arr 45)) c1 (idV x)):=(RC1.out.alloc _).mono fun _ _=>trivial
 have RX:=qD (HX.out.step DE.out)
 have hG5:w.heap.size+2<w1.heap.size:=C4.out.lt
 generalize w1.alloc (.cells c1.arr 45)=wb at*
 generalize w1.heap.size=g5 at*
 clear RC1 CM CV C4 CE HX
 have hN:w.heap.size+2<wb.heap.size:=B4.out.lt
 obtain⟨a0,a1,a2,a3,a4⟩:=VAt.of_blk DV.out
 obtain⟨e0,e1,e2,e3,e4⟩:=VAt.of_blk DV1.out
 simp only[Nat.zero_add] at a0 a1 a2 a3 a4 e0 e1 e2 e3 e4
 have m0:wb.cell? ⟨w.heap.size,0,none⟩=some (.string M.sp):=DM.out.cell 0
 have B:Hid (Below wb.heap.size wb wb.drew):=qD ((Below.refl wb.heap.size wb).drew)
 have KSS:Hid (∀w1:World,Below wb.heap.size wb w1→(fun w'=>w'.cell? ⟨w.heap.size,0,none⟩=some (.string M.sp)∧w'.cell? ⟨w.heap.size+1,0,none⟩=some (.int .i64 c.k)∧w'.cell? ⟨w.heap.size+1,1,none⟩=some (.int .i64 c.n)∧w'.cell? ⟨w.heap.size+1,2,none⟩=some (.string c.t)∧w'.cell? ⟨w.heap.size+1,3,none⟩=some (.slice c.LA c.ln c.lc)∧w'.cell? ⟨w.heap.size+1,4,none⟩=some (.slice c.DA c.dn c.dc)∧w'.cell? ⟨g5,0,none⟩=some (.int .i64 c1.k)∧w'.cell? ⟨g5,1,none⟩=some (.int .i64 c1.n)∧w'.cell? ⟨g5,2,none⟩=some (.string c1.t)∧w'.cell? ⟨g5,3,none⟩=some (.slice c1.LA c1.ln c1.lc)∧w'.cell? ⟨g5,4,none⟩=some (.slice c1.DA c1.dn c1.dc)) w1):=qD fun w1 hb=>⟨(hb.cell (p:=⟨w.heap.size,0,none⟩) DM.out.lt).trans m0,(hb.cell (p:=⟨w.heap.size+1,0,none⟩) DV.out.lt).trans a0,(hb.cell (p:=⟨w.heap.size+1,1,none⟩) DV.out.lt).trans a1,(hb.cell (p:=⟨w.heap.size+1,2,none⟩) DV.out.lt).trans a2,(hb.cell (p:=⟨w.heap.size+1,3,none⟩) DV.out.lt).trans a3,(hb.cell (p:=⟨w.heap.size+1,4,none⟩) DV.out.lt).trans a4,(hb.cell (p:=⟨g5,0,none⟩) DV1.out.lt).trans e0,(hb.cell (p:=⟨g5,1,none⟩) DV1.out.lt).trans e1,(hb.cell (p:=⟨g5,2,none⟩) DV1.out.lt).trans e2,(hb.cell (p:=⟨g5,3,none⟩) DV1.out.lt).trans e3,(hb.cell (p:=⟨g5,4,none⟩) DV1.out.lt).trans e4⟩
 have KST:Hid (∀w1:World,Below wb.heap.size wb w1→∀cs:Array Value,(fun w'=>w'.cell? ⟨w.heap.size,0,none⟩=some (.string M.sp)∧w'.cell? ⟨w.heap.size+1,0,none⟩=some (.int .i64 c.k)∧w'.cell? ⟨w.heap.size+1,1,none⟩=some (.int .i64 c.n)∧w'.cell? ⟨w.heap.size+1,2,none⟩=some (.string c.t)∧w'.cell? ⟨w.heap.size+1,3,none⟩=some (.slice c.LA c.ln c.lc)∧w'.cell? ⟨w.heap.size+1,4,none⟩=some (.slice c.DA c.dn c.dc)∧w'.cell? ⟨g5,0,none⟩=some (.int .i64 c1.k)∧w'.cell? ⟨g5,1,none⟩=some (.int .i64 c1.n)∧w'.cell? ⟨g5,2,none⟩=some (.string c1.t)∧w'.cell? ⟨g5,3,none⟩=some (.slice c1.LA c1.ln c1.lc)∧w'.cell? ⟨g5,4,none⟩=some (.slice c1.DA c1.dn c1.dc)) (w1.setRow (w.heap.size+2) cs)):=qD fun w1 hb cs=>by obtain⟨h0,h1,h2,h3,h4,h5,h6,h7,h8,h9,h10⟩:=KSS.out w1 hb;exact⟨(cell_setRow_other _ _ _ _ (by dsimp only;omega)).trans h0,(cell_setRow_other _ _ _ _ (by dsimp only;omega)).trans h1,(cell_setRow_other _ _ _ _ (by dsimp only;omega)).trans h2,(cell_setRow_other _ _ _ _ (by dsimp only;omega)).trans h3,(cell_setRow_other _ _ _ _ (by dsimp only;omega)).trans h4,(cell_setRow_other _ _ _ _ (by dsimp only;omega)).trans h5,(cell_setRow_other _ _ _ _ (by dsimp only;omega)).trans h6,(cell_setRow_other _ _ _ _ (by dsimp only;omega)).trans h7,(cell_setRow_other _ _ _ _ (by dsimp only;omega)).trans h8,(cell_setRow_other _ _ _ _ (by dsimp only;omega)).trans h9,(cell_setRow_other _ _ _ _ (by dsimp only;omega)).trans h10⟩
 have SRX:Hid (∀w':World,Below wb.heap.size wb w'→RW w' c x):=qD fun w' hb=>RX.out.step hb
 have SR1:Hid (∀w':World,Below wb.heap.size wb w'→RW w' c1 (idV x)):=qD fun w' hb=>R1.out.step hb
 refine wp_region_noPanic ?_
 refine wp_region_held_drew (S:=(fun w'=>w'.cell? ⟨w.heap.size,0,none⟩=some (.string M.sp)∧w'.cell? ⟨w.heap.size+1,0,none⟩=some (.int .i64 c.k)∧w'.cell? ⟨w.heap.size+1,1,none⟩=some (.int .i64 c.n)∧w'.cell? ⟨w.heap.size+1,2,none⟩=some (.string c.t)∧w'.cell? ⟨w.heap.size+1,3,none⟩=some (.slice c.LA c.ln c.lc)∧w'.cell? ⟨w.heap.size+1,4,none⟩=some (.slice c.DA c.dn c.dc)∧w'.cell? ⟨g5,0,none⟩=some (.int .i64 c1.k)∧w'.cell? ⟨g5,1,none⟩=some (.int .i64 c1.n)∧w'.cell? ⟨g5,2,none⟩=some (.string c1.t)∧w'.cell? ⟨g5,3,none⟩=some (.slice c1.LA c1.ln c1.lc)∧w'.cell? ⟨g5,4,none⟩=some (.slice c1.DA c1.dn c1.dc))) (by kernel_rfl) ?_ (fun hHeld=>?_)
 ·(try dsimp only);exact KSS.out _ B.out
 generalize wb.drew=v0 at*
 refine rU 0 rfl ?_
 try go_frame
 refine rU 1 rfl ?_
 try go_frame
 refine rU 2 rfl ?_
 try go_frame
 refine rU 4 rfl ?_
 try go_frame
 refine rY 3 rfl fun K hK=>?_
 go_simp
 refine(mcopy_any (idV x) _ v0 (SR1.out _ B.out)).mono ?_
 rintro e3 v1 ⟨d1,rfl,hr,hb⟩
 have DR1:=qD (hr.mono (G:=fun b=>wb.heap.size≤b) (fun b hb2=>Nat.le_trans B.out.size hb2))
 replace B:=qD (B.out.step' hb)
 clear hb hr
 (try go_wp2_with fail)
 clear hHeld
 refine hK.out _ _ ?_ fun hHeld=>?_
 ·(try dsimp only);exact KSS.out _ B.out
 clear hK K
 try go_frame
 refine rY 5 rfl fun K hK=>?_
 go_simp
 refine(mcopy_any x _ v1 (SRX.out _ B.out)).mono ?_
 rintro e3 v2 ⟨d2,rfl,hr,hb⟩
 have DR2:=qD (hr.mono (G:=fun b=>wb.heap.size≤b) (fun b hb2=>Nat.le_trans B.out.size hb2))
 replace DR1:=qD (DR1.out.step hb)
 replace B:=qD (B.out.step' hb)
 clear hb hr
 (try go_wp2_with fail)
 clear hHeld
 refine hK.out _ _ ?_ fun hHeld=>?_
 ·(try dsimp only);exact KSS.out _ B.out
 clear hK K
 try go_frame
 refine rT (v:=.agg (recC78 (⟨2,M.sp,d1,d2,true⟩:WC)).toArray) 6 rfl ?_ ?_
 ·intro w' hSw;exact exec_built rfl (by kernel_rfl)
 try go_frame
 refine rY 7 rfl fun K hK=>?_
 refine wp_store_row 67 _ _ rfl (w.heap.size+2) (recC78 ⟨2,M.sp,d1,d2,true⟩).toArray rfl rfl 67 (recC78 WC.zero).toArray (B4.out.step B.out) (by rw[sizeW];rfl) rfl (recC78_all _) ?_
 clear hHeld
 refine hK.out _ _ ?_ fun hHeld=>?_
 ·(try dsimp only);exact KST.out _ B.out _
 clear hK K
 try go_frame
 refine rD ?_ _
 refine NoPanic.normal ?_
 all_goals
  go_wp2_with fail
  exact bodyPost_ret (results_write rfl _ _ _ ⟨2,M.sp,d1,d2,true⟩ rfl (Blk.row (B4.out.step B.out) _)) rfl ⟨_,rfl,⟨rfl,rfl,rfl,HS.out,(DR1.out.keepG fun b hb _=>⟨by omega,setRow_other _ _ _ _ (by omega)⟩),(DR2.out.keepG fun b hb _=>⟨by omega,setRow_other _ _ _ _ (by omega)⟩)⟩,below_row (DE.out.step' B.out) (by omega) _⟩
theorem remove_any(M:Mv)(ma:MA)(x:Val)(c:VC)(w:World)(hs:M.sp.size≤reach)(hx:RW w c x):Calls Tryz.prog 40 #[mval ma M,c.val] w (PutOk w (remW M.sp x)):=by
 have HS:=qD hs
 have HX:=qD hx
 clear hs hx
 have DM:Hid (Blk (((w.alloc (.cells (marr ma M) 35)).alloc (.cells c.arr 45)).alloc (.cells (recC78 WC.zero).toArray 67)) w.heap.size 35 (marr ma M)):=((Blk.new_at rfl).alloc _).alloc _
 have DV:Hid (Blk (((w.alloc (.cells (marr ma M) 35)).alloc (.cells c.arr 45)).alloc (.cells (recC78 WC.zero).toArray 67)) (w.heap.size+1) 45 c.arr):=(Blk.new_at (by simp)).alloc _
 have B4:Hid (Blk (((w.alloc (.cells (marr ma M) 35)).alloc (.cells c.arr 45)).alloc (.cells (recC78 WC.zero).toArray 67)) (w.heap.size+2) 67 (recC78 WC.zero).toArray):=Blk.new_at (by simp)
 have DE:Hid (Below w.heap.size w (((w.alloc (.cells (marr ma M) 35)).alloc (.cells c.arr 45)).alloc (.cells (recC78 WC.zero).toArray 67))):=(((Below.refl _ _).alloc (qL) _).alloc (by simp) _).alloc (by simp;omega) _
 go_enter Tryz.func40,Tryz.ntmps40
 go_upto_region 1 with fail
 change Code.wp _ _ _ _ (((w.alloc (.cells (marr ma M) 35)).alloc (.cells c.arr 45)).alloc (.cells (recC78 WC.zero).toArray 67))
 generalize (((w.alloc (.cells (marr ma M) 35)).alloc (.cells c.arr 45)).alloc (.cells (recC78 WC.zero).toArray 67))=wb at*
 have RX:=qD (HX.out.step DE.out)
 have hN:w.heap.size+2<wb.heap.size:=B4.out.lt
 obtain⟨a0,a1,a2,a3,a4⟩:=VAt.of_blk DV.out
 simp only[Nat.zero_add] at a0 a1 a2 a3 a4
 have m0:wb.cell? ⟨w.heap.size,0,none⟩=some (.string M.sp):=DM.out.cell 0
 have B:Hid (Below wb.heap.size wb wb.drew):=qD ((Below.refl wb.heap.size wb).drew)
 have KSS:Hid (∀w1:World,Below wb.heap.size wb w1→(fun w'=>w'.cell? ⟨w.heap.size,0,none⟩=some (.string M.sp)∧w'.cell? ⟨w.heap.size+1,0,none⟩=some (.int .i64 c.k)∧w'.cell? ⟨w.heap.size+1,1,none⟩=some (.int .i64 c.n)∧w'.cell? ⟨w.heap.size+1,2,none⟩=some (.string c.t)∧w'.cell? ⟨w.heap.size+1,3,none⟩=some (.slice c.LA c.ln c.lc)∧w'.cell? ⟨w.heap.size+1,4,none⟩=some (.slice c.DA c.dn c.dc)) w1):=qD fun w1 hb=>⟨(hb.cell (p:=⟨w.heap.size,0,none⟩) DM.out.lt).trans m0,(hb.cell (p:=⟨w.heap.size+1,0,none⟩) DV.out.lt).trans a0,(hb.cell (p:=⟨w.heap.size+1,1,none⟩) DV.out.lt).trans a1,(hb.cell (p:=⟨w.heap.size+1,2,none⟩) DV.out.lt).trans a2,(hb.cell (p:=⟨w.heap.size+1,3,none⟩) DV.out.lt).trans a3,(hb.cell (p:=⟨w.heap.size+1,4,none⟩) DV.out.lt).trans a4⟩
 have KST:Hid (∀w1:World,Below wb.heap.size wb w1→∀cs:Array Value,(fun w'=>w'.cell? ⟨w.heap.size,0,none⟩=some (.string M.sp)∧w'.cell? ⟨w.heap.size+1,0,none⟩=some (.int .i64 c.k)∧w'.cell? ⟨w.heap.size+1,1,none⟩=some (.int .i64 c.n)∧w'.cell? ⟨w.heap.size+1,2,none⟩=some (.string c.t)∧w'.cell? ⟨w.heap.size+1,3,none⟩=some (.slice c.LA c.ln c.lc)∧w'.cell? ⟨w.heap.size+1,4,none⟩=some (.slice c.DA c.dn c.dc)) (w1.setRow (w.heap.size+2) cs)):=qD fun w1 hb cs=>by obtain⟨h0,h1,h2,h3,h4,h5⟩:=KSS.out w1 hb;exact⟨(cell_setRow_other _ _ _ _ (by dsimp only;omega)).trans h0,(cell_setRow_other _ _ _ _ (by dsimp only;omega)).trans h1,(cell_setRow_other _ _ _ _ (by dsimp only;omega)).trans h2,(cell_setRow_other _ _ _ _ (by dsimp only;omega)).trans h3,(cell_setRow_other _ _ _ _ (by dsimp only;omega)).trans h4,(cell_setRow_other _ _ _ _ (by dsimp only;omega)).trans h5⟩
 have SRX:Hid (∀w':World,Below wb.heap.size wb w'→RW w' c x):=qD fun w' hb=>RX.out.step hb
 refine wp_region_noPanic ?_
 refine wp_region_held_drew (S:=(fun w'=>w'.cell? ⟨w.heap.size,0,none⟩=some (.string M.sp)∧w'.cell? ⟨w.heap.size+1,0,none⟩=some (.int .i64 c.k)∧w'.cell? ⟨w.heap.size+1,1,none⟩=some (.int .i64 c.n)∧w'.cell? ⟨w.heap.size+1,2,none⟩=some (.string c.t)∧w'.cell? ⟨w.heap.size+1,3,none⟩=some (.slice c.LA c.ln c.lc)∧w'.cell? ⟨w.heap.size+1,4,none⟩=some (.slice c.DA c.dn c.dc))) (by kernel_rfl) ?_ (fun hHeld=>?_)
 ·(try dsimp only);exact KSS.out _ B.out
 generalize wb.drew=v0 at*
 refine rU 0 rfl ?_
 try go_frame
 refine rU 1 rfl ?_
 try go_frame
 refine rU 2 rfl ?_
 try go_frame
 refine rY 3 rfl fun K hK=>?_
 go_simp
 refine(mcopy_any x _ v0 (SRX.out _ B.out)).mono ?_
 rintro e3 v2 ⟨d2,rfl,hr,hb⟩
 have DR2:=qD (hr.mono (G:=fun b=>wb.heap.size≤b) (fun b hb2=>Nat.le_trans B.out.size hb2))
 skip
 replace B:=qD (B.out.step' hb)
 clear hb hr
 (try go_wp2_with fail)
 clear hHeld
 refine hK.out _ _ ?_ fun hHeld=>?_
 ·(try dsimp only);exact KSS.out _ B.out
 clear hK K
 try go_frame
 refine rT (v:=.agg (recC78 (⟨3,M.sp,d2,VC.zero,true⟩:WC)).toArray) 4 rfl ?_ ?_
 ·intro w' hSw;exact exec_built rfl (by kernel_rfl)
 try go_frame
 refine rY 5 rfl fun K hK=>?_
 refine wp_store_row 67 _ _ rfl (w.heap.size+2) (recC78 ⟨3,M.sp,d2,VC.zero,true⟩).toArray rfl rfl 67 (recC78 WC.zero).toArray (B4.out.step B.out) (by rw[sizeW];rfl) rfl (recC78_all _) ?_
 clear hHeld
 refine hK.out _ _ ?_ fun hHeld=>?_
 ·(try dsimp only);exact KST.out _ B.out _
 clear hK K
 try go_frame
 refine rD ?_ _
 refine NoPanic.normal ?_
 all_goals
  go_wp2_with fail
  exact bodyPost_ret (results_write rfl _ _ _ ⟨3,M.sp,d2,VC.zero,true⟩ rfl (Blk.row (B4.out.step B.out) _)) rfl ⟨_,rfl,⟨rfl,rfl,rfl,HS.out,(DR2.out.keepG fun b hb _=>⟨by omega,setRow_other _ _ _ _ (by omega)⟩),RV.zero⟩,below_row (DE.out.step' B.out) (by omega) _⟩
theorem str1(z:Int)(w:World)(h:Tryz.prog.underlying 5=some (.int .u8)):(convert 152 9 (.slice (some ⟨w.heap.size,0,none⟩) 1 1)).run Tryz.prog (w.alloc (.cells #[.int .u8 z] 5))=.ok (.string (strOfNums [z])) (w.alloc (.cells #[.int .u8 z] 5)):=by
 refine run_convert_bytes_arg (P:=Tryz.prog) _ 152 5 Tryz.underlying152 h w.heap.size 0 1 1 [z] rfl (fun i hi=>?_) 9 Tryz.underlying9
 obtain rfl:i=0:=by omega
 exact(Blk.new w 5 #[.int .u8 z]).cell 0
theorem shr64_nat'(a s:Nat):(a:Int)/2^s=((a/2^s:Nat):Int):=by push_cast;rfl
theorem u64_xor'(n:Int):bits .xor .u64 (IntKind.u64.wrap n) 9223372036854775808=((U64 n:Nat):Int):=by
 rw[IntKind.wrap_u64]
 have ha:(n%18446744073709551616).toNat<18446744073709551616:=by omega
 have e1:(BitVec.ofInt 64 (n%18446744073709551616)).toNat=(n%18446744073709551616).toNat:=by
  rw[BitVec.toNat_ofInt]
  omega
 have e2:(BitVec.ofInt 64 (9223372036854775808:Int)).toNat=9223372036854775808:=by decide
 show IntKind.u64.wrap ((BitVec.ofInt 64 (n%18446744073709551616) ^^^ BitVec.ofInt 64 (9223372036854775808:Int)).toNat:Int)=_
 rw[BitVec.toNat_xor,e1,e2,xor_top _ ha,IntKind.wrap_u64]
 unfold U64
 omega
theorem num8_mod'(n:Int)(s:Nat):((U64 n/2^s:Nat):Int)%256=num8 n s:=by unfold num8;omega
theorem rnumber_any(n:Int)(w:World):
 Calls Tryz.prog 139 #[.int .i64 n] w fun e w'=>e=.returned (.string (strOfNums (nums n)))∧Below w.heap.size w w':=by
 obtain⟨U,hU⟩:∃U,U64 n=U:=⟨_,rfl⟩
 have hux:=u64_xor' n
 rw[hU] at hux
 have hub:U<18446744073709551616:=by rw[←hU];unfold U64;omega
 have HU:=qD hU
 clear hU
 go_enter Tryz.func139,Tryz.ntmps139
 go_upto_region 4 with fail
 clear hux
 go_loopw [4,5] (fun u4 u5 wr=>∃i:Nat,i≤8∧u5=.int .i64 i∧u4=.string (strOfNums (numsTo n i))∧Below w.heap.size w wr) (fun _ u5 _=>9-(intOf u5).toNat)
 case atStart=>exact⟨0,Nat.zero_le _,rfl,rfl,Below.refl _ _⟩
 case round=>
  obtain⟨i,hi,rfl,rfl,hb⟩:=hrel
  have HB:=qD hb
  have i0:(0:Int)≤(i:Int):=by omega
  by_cases hlt:i<8
  ·obtain⟨s,hs⟩:∃s:Nat,s=56-8*i:=⟨_,rfl⟩
   have hs2:(56-8*(i:Int))=(s:Int):=by omega
   have s0:(0:Int)≤(s:Int):=by omega
   have s1:(s:Int)≤56:=by omega
   have hq:=shr64_nat' U s
   obtain⟨q,hqe⟩:∃q,q=U/2^s:=⟨_,rfl⟩
   rw[←hqe] at hq
   have hz:(q:Int)%256=num8 n s:=by rw[hqe,←HU.out];exact num8_mod' n s
   obtain⟨z,hze⟩:∃z,num8 n s=z:=⟨_,rfl⟩
   rw[hze] at hz
   have HS:=qD hs
   have HZE:=qD hze
   have hcv:=str1 z wr Tryz.underlying5
   obtain⟨S,hS⟩:∃S,S=strOfNums (numsTo n i):=⟨_,rfl⟩
   obtain⟨Z,hZ⟩:∃Z,Z=strOfNums [z]:=⟨_,rfl⟩
   rw[←hZ] at hcv
   rw[←hS]
   have hz1:S.size+Z.size≤9223372036854775807:=by rw[hS,hZ,strOfNums_size,strOfNums_size,numsTo_len];simp;omega
   have hz2:¬(9223372036854775807<S.size+Z.size):=by omega
   have HSS:=qD hS
   have HZZ:=qD hZ
   clear hs hqe hze hS hZ hb
   go_wp2_with fail
   go_roundw
   case rel=>exact⟨i+1,by omega,by go_num,by rw[numsTo_succ,strOfNums_append,←HS.out,HZE.out,←HSS.out,←HZZ.out],HB.out.alloc HB.out.size _⟩
   case measure=>simp[intOf];omega
  ·obtain rfl:i=8:=by omega
   clear hb
   go_wp2_with fail
   go_ret
   exact⟨rfl,HB.out⟩
theorem extract_one(t:ByteArray)(i:Nat)(h:i<t.size):t.extract i (i+1)=strOfNums [(t[i].toNat:Int)]:=by
 apply ByteArray.ext
 apply Array.ext'
 have e:t.data.toList[i]?=some t[i]:=by rw[List.getElem?_eq_getElem (by simpa using h)];rfl
 simp only[ByteArray.data_extract,Array.toList_extract,strOfNums,List.map_cons,List.map_nil,List.toList_toArray]
 rw[List.extract_eq_take_drop,List.drop_eq_getElem?_toList_append,e]
 simp
theorem rtext_any(t:ByteArray)(w:World)(ht:t.size≤4096):
 Calls Tryz.prog 140 #[.string t] w fun e w'=>e=.returned (.string (strOfNums (textN t.data.toList++[0,0])))∧Below w.heap.size w w':=by
 go_enter Tryz.func140,Tryz.ntmps140
 go_upto_region 3 with fail
 go_loopw [3,4] (fun u3 u4 wr=>∃i:Nat,i≤t.size∧u4=.int .i64 i∧u3=.string (strOfNums (textN (t.data.toList.take i)))∧wr=w) (fun _ u4 _=>t.size-(intOf u4).toNat)
 case atStart=>exact⟨0,Nat.zero_le _,rfl,rfl,rfl⟩
 case round=>
  obtain⟨i,hi,rfl,rfl,rfl⟩:=hrel
  have hlen:(textN (t.data.toList.take i)).length≤8192:=by
   have h2:=textN_len (t.data.toList.take i)
   have h3:(t.data.toList.take i).length≤i:=List.length_take_le _ _
   omega
  obtain⟨S,hS⟩:∃S,S=strOfNums (textN (t.data.toList.take i)):=⟨_,rfl⟩
  rw[←hS]
  have hSz:S.size≤8192:=by rw[hS,strOfNums_size];exact hlen
  have HSS:=qD hS
  clear hS hlen
  have i0:(0:Int)≤(i:Int):=by omega
  have tz:(t.size:Int)≤4096:=by omega
  by_cases hlt:i<t.size
  ·have hx:=t[i].toNat_lt
   have i1:(i:Int)<(t.size:Int):=by omega
   have hex:=extract_one t i hlt
   obtain⟨Z,hZ⟩:∃Z,Z=strOfNums [(t[i].toNat:Int)]:=⟨_,rfl⟩
   rw[←hZ] at hex
   have hZs:Z.size=1:=by rw[hZ,strOfNums_size];rfl
   have hz2:¬(9223372036854775807<S.size+Z.size):=by omega
   have hz3:¬(9223372036854775807<S.size+Z.size+1):=by omega
   have HZ:=qD hZ
   clear hZ hZs
   have HSN:=qD (textN_snoc (bytes_at t i hlt))
   cases hd:((t[i].toNat:Int)==0)
   ·have HB:Hid (byteN t[i]=[(t[i].toNat:Int)]):=by
     have hne:¬t[i]=0:=fun e=>by rw[e] at hd;exact absurd hd (by decide)
     unfold Hid byteN
     rw[if_neg hne]
    have HSB:Hid (textN (t.data.toList.take (i+1))=textN (t.data.toList.take i)++[(t[i].toNat:Int)]):=HSN.out.trans (congrArg (fun z=>textN (t.data.toList.take i)++z) HB.out)
    go_wp2_with fail
    go_roundw
    case rel=>exact⟨i+1,by omega,by go_num,by rw[HSB.out,strOfNums_append,←HSS.out,←HZ.out],trivial⟩
    case measure=>simp[intOf];omega
   ·have HB:Hid (byteN t[i]=[(t[i].toNat:Int),255]):=by
     have e:t[i]=0:=by
      apply UInt8.toNat_inj.1
      have:(t[i].toNat:Int)=0:=by simpa using hd
      show t[i].toNat=0
      omega
     rw[e]
     rfl
    have HSB:Hid (textN (t.data.toList.take (i+1))=textN (t.data.toList.take i)++[(t[i].toNat:Int)]++[255]):=HSN.out.trans ((congrArg (fun z=>textN (t.data.toList.take i)++z) HB.out).trans (by simp))
    go_wp2_with fail
    go_roundw
    case rel=>exact⟨i+1,by omega,by go_num,by rw[HSB.out,strOfNums_append,strOfNums_append,←HSS.out,←HZ.out];rfl,trivial⟩
    case measure=>simp[intOf];omega
  ·obtain rfl:i=t.size:=by omega
   have HTK:Hid (t.data.toList.take t.size=t.data.toList):=List.take_of_length_le (by rw[dsize];exact qL)
   have hz2:¬(9223372036854775807<S.size+2):=by omega
   go_wp2_with fail
   go_ret
   exact⟨by rw[strOfNums_append,←HTK.out,←HSS.out];rfl,Below.refl _ _⟩
structure OnI(w:World)(c:VC)(wr:World):Prop where
 b0:Blk wr w.heap.size 45 c.arr
 bel:Below w.heap.size w wr
theorem OnI.step{w wr w':World}{c:VC}(h:OnI w c wr)(hb:Below wr.heap.size wr w'):OnI w c w':=⟨h.b0.step hb,h.bel.step' hb⟩
theorem rone_any(x:Val):∀(c:VC) (w:World),RW w c x→Enc1 x→(encV x).length≤100000000→
 Calls Tryz.prog 121 #[c.val] w fun e w'=>e=.returned (.string (strOfNums (encV x)))∧Below w.heap.size w w':=by
 induction x using Val.ind with
 | h k n t l d ihl ihd=>
  intro c w h he htot
  obtain⟨ck,cn,ct,LA,ln,lc,DA,dn,dc⟩:=c
  have ho:=h.open
  obtain rfl:ck=k:=ho.k
  obtain rfl:cn=n:=ho.n
  obtain rfl:ct=t:=ho.t
  have hkind:=he.kind
  simp only[Val.k] at hkind
  have htx:=he.text
  simp only[Val.t] at htx
  obtain⟨T,hT⟩:∃T,encV (.mk ck cn ct l d)=ck::T:=⟨_,encV_eq _⟩
  rw[hT] at htot ⊢
  rw[List.length_cons] at htot
  have HE:=qD hT
  have HO:=qD ho
  have HEN:=qD he
  have HTO:=qD htot
  clear h he ho hT
  have I0:Hid (OnI w ⟨ck,cn,ct,LA,ln,lc,DA,dn,dc⟩ (w.alloc (.cells #[.int .i64 ck,.int .i64 cn,.string ct,.slice LA ln lc,.slice DA dn dc] 45))):=⟨Blk.new_at rfl,(Below.refl _ _).alloc (qL) _⟩
  clear htot
  go_enter Tryz.func121,Tryz.ntmps121
  go_upto_region 1 with fail
  change (Code.region 1 _ _).wp _ _ _ (w.alloc (.cells #[.int .i64 ck,.int .i64 cn,.string ct,.slice LA ln lc,.slice DA dn dc] 45))
  obtain⟨w0,hw0⟩:∃w0,w.alloc (.cells #[.int .i64 ck,.int .i64 cn,.string ct,.slice LA ln lc,.slice DA dn dc] 45)=w0:=⟨_,rfl⟩
  rw[hw0] at I0 ⊢
  clear hw0
  have hk8:ck%256=ck:=by omega
  obtain⟨b0,b1,b2,b3,b4⟩:=VAt.of_blk I0.out.b0
  simp only[Nat.zero_add] at b0 b1 b2 b3 b4
  have hcv:=str1 ck w0 Tryz.underlying5
  obtain⟨K,hK⟩:∃K,K=strOfNums [ck]:=⟨_,rfl⟩
  rw[←hK] at hcv
  have hKs:K.size=1:=by rw[hK,strOfNums_size];rfl
  have HK:=qD hK
  clear hK
  go_upto_region 2 with fail
  have I1:=qD (I0.out.step ((Below.refl w0.heap.size w0).alloc (qL) (Obj.cells #[.int .u8 ck] 5)))
  generalize w0.alloc (.cells #[.int .u8 ck] 5)=w1 at*
  clear b0 b1 b2 b3 b4 hcv I0
  obtain⟨b0,b1,b2,b3,b4⟩:=VAt.of_blk I1.out.b0
  simp only[Nat.zero_add] at b0 b1 b2 b3 b4
  by_cases k3:ck=3∨ck=9∨ck=10
  ·have hT:T=nums cn:=by have:=HE.out.symm.trans (encT_num k3);simpa using this
   have HEQ:Hid (strOfNums (ck::T)=K++strOfNums (nums cn)):=by unfold Hid;rw[hT,HK.out,←strOfNums_append];rfl
   have hz2:¬(9223372036854775807<K.size+(strOfNums (nums cn)).size):=by rw[strOfNums_size,nums,numsTo_len];omega
   clear hT HTO HE hKs
   rcases k3 with rfl|rfl|rfl
   all_goals
    go_upto_region 6 with fail
    go_wp2_with fail
    refine(rnumber_any cn _).mono ?_
    rintro e w2 ⟨rfl,hb2⟩
    have I2:=qD (I1.out.step hb2)
    clear b0 b1 b2 b3 b4 I1 hb2
    go_wp2_with fail
    go_ret
    exact⟨by rw[HEQ.out];rfl,I2.out.bel⟩
  by_cases k4:ck=4∨ck=7∨ck=8
  ·have hT:T=textN ct.data.toList++[0,0]:=by have:=HE.out.symm.trans (encT_text k4);simpa using this
   have HEQ:Hid (strOfNums (ck::T)=K++strOfNums (textN ct.data.toList++[0,0])):=by unfold Hid;rw[hT,HK.out,←strOfNums_append];rfl
   have hz2:¬(9223372036854775807<K.size+(strOfNums (textN ct.data.toList++[0,0])).size):=by
    have h2:=textN_len ct.data.toList
    rw[dsize] at h2
    rw[strOfNums_size,List.length_append]
    simp only[List.length_cons,List.length_nil]
    omega
   have HTX:=qD htx
   clear hT HTO HE hKs k3 htx
   rcases k4 with rfl|rfl|rfl
   all_goals
    go_upto_region 10 with fail
    go_wp2_with fail
    refine(rtext_any ct _ HTX.out).mono ?_
    rintro e w2 ⟨rfl,hb2⟩
    have I2:=qD (I1.out.step hb2)
    clear b0 b1 b2 b3 b4 I1 hb2
    go_wp2_with fail
    go_ret
    exact⟨by rw[HEQ.out];rfl,I2.out.bel⟩
  by_cases k6:ck=6
  ·subst k6
   have hT:T=encL l++[0]:=by have:=HE.out.symm.trans (encT_list (k:=6) rfl);simpa using this
   have hnb:(encL l).length+1≤100000000:=by have:=HTO.out;rw[hT,List.length_append] at this;simp only[List.length_cons,List.length_nil] at this;omega
   have HEQ:Hid (strOfNums (6::T)=K++strOfNums (encL l)++strOfNums [0]):=by unfold Hid;rw[hT,HK.out,←strOfNums_append,←strOfNums_append];simp
   have HNB:=qD hnb
   clear hT HTO HE k3 k4 hnb
   obtain⟨ps,hps,hsl⟩:=(RVs.shut HO.out).sl
   simp only[Val.l] at hps
   have SLh:=qD hsl
   have HPS:=qD hps
   have HLL:Hid (ln=ps.length):=hsl.sr.ln
   have hlz:(ln:Int)≤1759218604441:=by have:=hsl.sz;unfold reach at this;simp only at this;omega
   clear hps hsl
   go_upto_region 13 with fail
   clear b0 b1 b2 b3 b4
   go_loopw [3,4] (fun u3 u4 wr=>∃i:Nat,i≤ln∧u4=.int .i64 i∧u3=.string (K++strOfNums (encL (l.take i)))∧OnI w ⟨6,cn,ct,LA,ln,lc,DA,dn,dc⟩ wr) (fun _ u4 _=>ln-(intOf u4).toNat)
   case atStart=>exact⟨0,Nat.zero_le _,rfl,by simp[encL,strOfNums_nil],I1.out⟩
   case round=>
    obtain⟨i,hi,rfl,rfl,J⟩:=hrel
    have J2:=qD J
    clear J
    obtain⟨b0,b1,b2,b3,b4⟩:=VAt.of_blk J2.out.b0
    simp only[Nat.zero_add] at b0 b1 b2 b3 b4
    obtain⟨S,hS⟩:∃S,S=K++strOfNums (encL (l.take i)):=⟨_,rfl⟩
    rw[←hS]
    have hSz:S.size≤1+(encL l).length:=by
     have h2:=encL_take_le l i
     rw[hS,ByteArray.size_append,strOfNums_size]
     omega
    have hSb:S.size≤100000000:=by have:=HNB.out;omega
    have HS:=qD hS
    clear hS hSz
    by_cases hlt:i<ln
    ·obtain⟨p,hp⟩:∃p,ps[i]?=some p:=⟨_,List.getElem?_eq_getElem (by have:=HLL.out;omega)⟩
     obtain⟨b,off,hLA,hbF,hat,hrv⟩:=SLh.out.vat hp
     subst hLA
     have hpl:l[i]?=some p.2:=by rw[←HPS.out,List.getElem?_map,hp];rfl
     have hmem:=List.mem_of_getElem? hpl
     have hSN:=encL_snoc hpl
     have hbd:(encV p.2).length≤100000000:=by
      have h2:=encL_take_le l (i+1)
      rw[hSN,List.length_append,List.length_cons] at h2
      have h6:=HNB.out
      omega
     obtain⟨q0,q1,q2,q3,q4⟩:=hat.step J2.out.bel
     obtain⟨Y,hY⟩:∃Y,Y=strOfNums (encV p.2):=⟨_,rfl⟩
     have hYs:Y.size≤100000000:=by rw[hY,strOfNums_size];exact hbd
     have hcal:=ihl p.2 hmem p.1 wr (hrv.step J2.out.bel) (HEN.out.list p.2 hmem) hbd
     rw[←hY] at hcal
     have HCA:=qD hcal
     have HEQS:Hid (K++strOfNums (encL (l.take (i+1)))=S++(⟨#[1]⟩++Y)):=by
      have e:strOfNums (1::encV p.2)=⟨#[1]⟩++strOfNums (encV p.2):=(strOfNums_append [1] (encV p.2))
      unfold Hid
      rw[hSN,strOfNums_append,HS.out,hY,ByteArray.append_assoc,e]
     have hz1:¬(9223372036854775807<1+Y.size):=by omega
     have hz2:¬(9223372036854775807<S.size+(1+Y.size)):=by omega
     have i0':(0:Int)≤(i:Int):=by omega
     have i1':(i:Int)<(ln:Int):=by omega
     clear hp hrv hpl hmem hSN hbd hat hcal hY hYs
     go_upto_region 15 with fail
     go_wp2_with fail
     refine HCA.out.mono ?_
     rintro e w2 ⟨rfl,hb2⟩
     have I2:=qD (J2.out.step hb2)
     clear b0 b1 b2 b3 b4 q0 q1 q2 q3 q4 HCA J2 hb2
     go_wp2_with fail
     go_roundw
     case rel=>exact⟨i+1,hlt,by go_num,by rw[HEQS.out],I2.out⟩
     case measure=>simp[intOf];omega
    ·obtain rfl:i=ln:=by omega
     have HTK:Hid (l.take i=l):=List.take_of_length_le (by have h1:=HLL.out;have h2:=congrArg List.length HPS.out;simp at h2;omega)
     have hz1:¬(9223372036854775807<S.size+1):=by omega
     go_wp2_with fail
     go_ret
     exact⟨by rw[HEQ.out,←HTK.out,←HS.out];rfl,J2.out.bel⟩
  by_cases k5:ck=5
  ·subst k5
   have hT:T=encD d++[0]:=by have:=HE.out.symm.trans (encT_doc (k:=5) rfl);simpa using this
   have hnb:(encD d).length+1≤100000000:=by have:=HTO.out;rw[hT,List.length_append] at this;simp only[List.length_cons,List.length_nil] at this;omega
   have HEQ:Hid (strOfNums (5::T)=K++strOfNums (encD d)++strOfNums [0]):=by unfold Hid;rw[hT,HK.out,←strOfNums_append,←strOfNums_append];simp
   have HNB:=qD hnb
   clear hT HTO HE k3 k4 k6 hnb
   obtain⟨ps,hps,hsd⟩:=(RVs.shut HO.out).sd
   simp only[Val.d] at hps
   have SDh:=qD hsd
   have HPS:=qD hps
   have HLL:Hid (dn=ps.length):=hsd.sr.ln
   have hlz:(dn:Int)≤1466015503701:=by have:=hsd.sz;unfold reach at this;simp only at this;omega
   clear hps hsd
   go_upto_region 19 with fail
   clear b0 b1 b2 b3 b4
   go_loopw [3,5] (fun u3 u5 wr=>∃i:Nat,i≤dn∧u5=.int .i64 i∧u3=.string (K++strOfNums (encD (d.take i)))∧OnI w ⟨5,cn,ct,LA,ln,lc,DA,dn,dc⟩ wr) (fun _ u5 _=>dn-(intOf u5).toNat)
   case atStart=>exact⟨0,Nat.zero_le _,rfl,by simp[encD,strOfNums_nil],I1.out⟩
   case round=>
    obtain⟨i,hi,rfl,rfl,J⟩:=hrel
    have J2:=qD J
    clear J
    obtain⟨b0,b1,b2,b3,b4⟩:=VAt.of_blk J2.out.b0
    simp only[Nat.zero_add] at b0 b1 b2 b3 b4
    obtain⟨S,hS⟩:∃S,S=K++strOfNums (encD (d.take i)):=⟨_,rfl⟩
    rw[←hS]
    have hSz:S.size≤1+(encD d).length:=by
     have h2:=encD_take_le d i
     rw[hS,ByteArray.size_append,strOfNums_size]
     omega
    have hSb:S.size≤100000000:=by have:=HNB.out;omega
    have HS:=qD hS
    clear hS hSz
    by_cases hlt:i<dn
    ·obtain⟨p,hp⟩:∃p,ps[i]?=some p:=⟨_,List.getElem?_eq_getElem (by have:=HLL.out;omega)⟩
     obtain⟨b,off,hDA,hbF,hnm,hat,hrv⟩:=SDh.out.vat hp
     subst hDA
     have hpl:d[i]?=some p.2:=by rw[←HPS.out,List.getElem?_map,hp];rfl
     have hmem:=List.mem_of_getElem? hpl
     have hSN:=encD_snoc hpl
     have hbd0:(strN p.2.s).length+(encV p.2.v).length≤100000000:=by
      have h2:=encD_take_le d (i+1)
      rw[hSN,List.length_append,List.length_cons,List.length_append,List.length_cons] at h2
      have h6:=HNB.out
      omega
     rw[strN_len] at hbd0
     have hbd:(encV p.2.v).length≤100000000:=by omega
     have hns:p.2.s.size≤100000000:=by omega
     have q5:=(J2.out.bel.cell (p:=⟨b,off+i*6,none⟩) (World.block_lt_of_cell? w _ hnm)).trans hnm
     obtain⟨q0,q1,q2,q3,q4⟩:=hat.step J2.out.bel
     have R0:∀kk:BW wr,kk.val.cell? ⟨b,off+i*6+1,none⟩=some (.int .i64 p.1.k):=fun kk=>kk.cell q0
     have R1:∀kk:BW wr,kk.val.cell? ⟨b,off+i*6+1+1,none⟩=some (.int .i64 p.1.n):=fun kk=>kk.cell q1
     have R2:∀kk:BW wr,kk.val.cell? ⟨b,off+i*6+1+2,none⟩=some (.string p.1.t):=fun kk=>kk.cell q2
     have R3:∀kk:BW wr,kk.val.cell? ⟨b,off+i*6+1+3,none⟩=some (.slice p.1.LA p.1.ln p.1.lc):=fun kk=>kk.cell q3
     have R4:∀kk:BW wr,kk.val.cell? ⟨b,off+i*6+1+4,none⟩=some (.slice p.1.DA p.1.dn p.1.dc):=fun kk=>kk.cell q4
     have R5:∀kk:BW wr,kk.val.cell? ⟨b,off+i*6,none⟩=some (.string p.2.s):=fun kk=>kk.cell q5
     have R6:∀kk:BW wr,kk.val.cell? ⟨w.heap.size,4,none⟩=some (.slice (some ⟨b,off,none⟩) dn dc):=fun kk=>kk.cell b4
     obtain⟨Y,hY⟩:∃Y,Y=strOfNums (encV p.2.v):=⟨_,rfl⟩
     have hYs:Y.size≤100000000:=by rw[hY,strOfNums_size];exact hbd
     have HCA:Hid (∀kk:BW wr,Calls Tryz.prog 121 #[p.1.val] kk.val fun e w''=>e=.returned (.string Y)∧∃kk:BW wr,w''=kk.val):=fun kk=>by
      rw[hY]
      exact Calls.bw (ihd p.2 hmem p.1 kk.val ((hrv.step J2.out.bel).step kk.below) (HEN.out.doc p.2 hmem).1 hbd)
     have HEQS:Hid (K++strOfNums (encD (d.take (i+1)))=S++(⟨#[1]⟩++p.2.s++⟨#[0]⟩++Y)):=by
      have e:strOfNums (1::(strN p.2.s++0::encV p.2.v))=⟨#[1]⟩++p.2.s++⟨#[0]⟩++strOfNums (encV p.2.v):=by
       have h2:1::(strN p.2.s++0::encV p.2.v)=[1]++strN p.2.s++[0]++encV p.2.v:=by simp
       have h3:strOfNums ([1]++strN p.2.s)=⟨#[1]⟩++p.2.s:=(strOfNums_append [1] (strN p.2.s)).trans (congrArg (fun z=>strOfNums [1]++z) (strOfNums_strN p.2.s))
       have h4:strOfNums ([1]++strN p.2.s++[0])=⟨#[1]⟩++p.2.s++⟨#[0]⟩:=(strOfNums_append _ [0]).trans (congrArg (fun z=>z++strOfNums [0]) h3)
       rw[h2]
       exact(strOfNums_append _ _).trans (congrArg (fun z=>z++strOfNums (encV p.2.v)) h4)
      unfold Hid
      rw[hSN,strOfNums_append,HS.out,hY,ByteArray.append_assoc,e]
     obtain⟨N,hN⟩:∃N,N=p.2.s:=⟨_,rfl⟩
     rw[←hN] at R5 hns HEQS
     have hz1:¬(9223372036854775807<1+N.size):=by omega
     have hz2:¬(9223372036854775807<1+N.size+1):=by omega
     have hz3:¬(9223372036854775807<1+N.size+1+Y.size):=by omega
     have hz4:¬(9223372036854775807<S.size+(1+N.size+1+Y.size)):=by omega
     have i0':(0:Int)≤(i:Int):=by omega
     have i1':(i:Int)<(dn:Int):=by omega
     clear hp hrv hpl hmem hSN hbd hbd0 hat hY hYs hns q0 q1 q2 q3 q4 q5 hnm hN
     go_upto_region 21 with fail
     clear b0 b1 b2 b3 b4
     refine wp_region_bw (by kernel_rfl) (by kernel_rfl) ?_
     repeat(go_big_quiet_step ((with_reducible exact HCA.out _)))
     refine wpQuiet_nil ?_
     rintro _ ⟨kw,rfl⟩
     have I2:=qD (J2.out.step kw.below)
     clear R0 R1 R2 R3 R4 R5 R6 HCA J2
     generalize kw.val=w2 at*
     clear kw
     go_wp2_with fail
     go_roundw
     case rel=>exact⟨i+1,hlt,by go_num,by rw[HEQS.out],I2.out⟩
     case measure=>simp[intOf];omega
    ·obtain rfl:i=dn:=by omega
     have HTK:Hid (d.take i=d):=List.take_of_length_le (by have h1:=HLL.out;have h2:=congrArg List.length HPS.out;simp at h2;omega)
     have hz1:¬(9223372036854775807<S.size+1):=by omega
     go_wp2_with fail
     go_ret
     exact⟨by rw[HEQ.out,←HTK.out,←HS.out];rfl,J2.out.bel⟩
  have hT:T=[]:=by have:=HE.out.symm.trans (encT_none k3 k4 k6 k5);simpa using this
  have HEQ:Hid (strOfNums (ck::T)=K):=by unfold Hid;rw[hT,HK.out]
  have q3:(ck==3)=false:=by simp;omega
  have q9:(ck==9)=false:=by simp;omega
  have q10:(ck==10)=false:=by simp;omega
  have q4:(ck==4)=false:=by simp;omega
  have q7:(ck==7)=false:=by simp;omega
  have q8:(ck==8)=false:=by simp;omega
  have q6:(ck==6)=false:=by simp;omega
  have q5:(ck==5)=false:=by simp;omega
  clear hT HTO HE k3 k4 k6 k5
  go_wp2_with fail
  go_ret
  exact⟨by rw[HEQ.out];rfl,I1.out.bel⟩
theorem keyR_take{l:List Val}{i:Nat}{y:Val}(h:l[i]?=some y):strOfNums (encAll (l.take (i+1)))=strOfNums (encAll (l.take i))++strOfNums (encV y):=by rw[encAll_snoc h,strOfNums_append]
theorem rencode_any(ps:List PV)(A B:Option Addr)(n c bc:Nat)(w:World)(h:SL (fun _=>True) w A n c ps)(hd:SR 1 recX w B n bc (List.replicate n false))(hn:n≤10):
 Calls Tryz.prog 92 #[.slice A n c,.slice B n bc] w fun e w'=>e=.returned (.tuple #[.string (keyR (ps.map Prod.snd)).1,.int .i64 (keyR (ps.map Prod.snd)).2])∧Below w.heap.size w w':=by
 have H:=qD h
 have HD:=qD hd
 have HL:Hid (n=ps.length):=h.sr.ln
 clear h hd
 go_enter Tryz.func92,Tryz.ntmps92
 go_upto_region 5 with fail
 go_loopw [6,7] (fun u6 u7 wr=>∃i:Nat,i≤n∧u7=.int .i64 i∧allowsB ((ps.map Prod.snd).take i)=true∧u6=.string (strOfNums (encAll ((ps.map Prod.snd).take i)))∧Below w.heap.size w wr) (fun _ u7 _=>n-(intOf u7).toNat)
 case atStart=>exact⟨0,Nat.zero_le _,rfl,rfl,rfl,Below.refl _ _⟩
 case round=>
  obtain⟨i,hi,rfl,hal,rfl,hb⟩:=hrel
  have HAL:=qD hal
  have HB:=qD hb
  obtain⟨S,hS⟩:∃S,S=strOfNums (encAll ((ps.map Prod.snd).take i)):=⟨_,rfl⟩
  rw[←hS]
  have hSz:S.size≤85000000:=by
   have h2:=encAll_len hal
   have h3:((ps.map Prod.snd).take i).length≤i:=List.length_take_le _ _
   rw[hS,strOfNums_size]
   omega
  have HS:=qD hS
  clear hal hb hS
  by_cases hlt:i<n
  ·obtain⟨p,hp⟩:∃p,ps[i]?=some p:=⟨_,List.getElem?_eq_getElem (by have:=HL.out;omega)⟩
   obtain⟨b,off,hA,_,hat,hrv⟩:=H.out.vat hp
   subst hA
   have hpl:(ps.map Prod.snd)[i]?=some p.2:=by rw[List.getElem?_map,hp];rfl
   obtain⟨q0,q1,q2,q3,q4⟩:=hat.step HB.out
   have HAT:=qD hat
   have HR:=qD hrv
   have HPL:=qD hpl
   have i0':(0:Int)≤(i:Int):=by omega
   have i1':(i:Int)<(n:Int):=by omega
   clear hp hat hrv hpl
   have HMI:=qD (missing_any p.2 p.1 wr (HR.out.step HB.out))
   go_upto_region 7 with fail
   go_cut [32] (fun s32 wx=>s32=.bool (!allowB p.2)∧Below w.heap.size w wx)
   case first=>
    cases hM:missB p.2
    ·have HA:Hid (allowB p.2=validV p.2):=by unfold Hid allowB;rw[hM];rfl
     rw[hM] at HMI
     clear hM
     go_wp2_with fail
     refine HMI.out.mono ?_
     rintro e w1 ⟨rfl,hb⟩
     have HB1:=qD (HB.out.step' hb)
     clear q0 q1 q2 q3 q4 hb HMI
     obtain⟨q0,q1,q2,q3,q4⟩:=HAT.out.step HB1.out
     go_wp2_with fail
     refine(rvalid_any p.2 p.1 w1 (HR.out.step HB1.out)).mono ?_
     rintro e w2 ⟨rfl,hb⟩
     have HB2:=qD (HB1.out.step' hb)
     clear q0 q1 q2 q3 q4 hb HB1
     go_wp2_with fail
     go_meet
     exact⟨by rw[HA.out],HB2.out⟩
    ·have HA:Hid (allowB p.2=true):=by unfold Hid allowB;rw[hM];rfl
     rw[hM] at HMI
     clear hM
     go_wp2_with fail
     refine HMI.out.mono ?_
     rintro e w1 ⟨rfl,hb⟩
     have HB1:=qD (HB.out.step' hb)
     clear q0 q1 q2 q3 q4 hb HMI
     go_wp2_with fail
     go_meet
     exact⟨by rw[HA.out];rfl,HB1.out⟩
   case rest=>
    obtain⟨rfl,hbc⟩:=hcut
    have HBC:=qD hbc
    clear hbc q0 q1 q2 q3 q4 HMI HB
    cases hA:allowB p.2
    ·have HK:=qD (keyR_no HPL.out hA)
     clear hA
     go_wp2_with fail
     go_ret2
     exact⟨by rw[HK.out];rfl,HBC.out⟩
    ·have HAS:=qD (allows_snoc HPL.out HAL.out hA)
     have HE1:=qD (allow_enc hA)
     have HTA:=qD (keyR_take HPL.out)
     clear hA
     obtain⟨q0,q1,q2,q3,q4⟩:=HAT.out.step HBC.out
     obtain⟨Y,hY⟩:∃Y,Y=strOfNums (encV p.2):=⟨_,rfl⟩
     have hYs:Y.size≤8500000:=by rw[hY,strOfNums_size];exact HE1.out.2
     have hz:¬(9223372036854775807<S.size+Y.size):=by omega
     have hcal:=rone_any p.2 p.1 wc (HR.out.step HBC.out) HE1.out.1 (by have:=HE1.out.2;omega)
     rw[←hY] at hcal
     have HCA:=qD hcal
     have HY:=qD hY
     obtain⟨b',off',hB,hbB,hel⟩:=HD.out.el (by omega)
     have hde:=hel i false (by rw[List.getElem?_replicate,if_pos hlt]) 0 _ rfl
     have hde2:=(HBC.out.cell (p:=⟨b',off'+i*1+0,none⟩) hbB).trans hde
     rw[Nat.mul_one,Nat.add_zero] at hde2
     subst hB
     clear hel hde hcal hY hYs
     go_wp2_with fail
     refine HCA.out.mono ?_
     rintro e w2 ⟨rfl,hb⟩
     have HB2:=qD (HBC.out.step' hb)
     clear q0 q1 q2 q3 q4 hb HCA
     go_wp2_with fail
     go_roundw
     case rel=>exact⟨i+1,hlt,by go_num,HAS.out,by rw[HTA.out,←HS.out,←HY.out],HB2.out⟩
     case measure=>simp[intOf];omega
  ·obtain rfl:i=n:=by omega
   have hTK:(ps.map Prod.snd).take i=ps.map Prod.snd:=List.take_of_length_le (by rw[List.length_map];have:=HL.out;omega)
   have hal:=HAL.out
   rw[hTK] at hal
   have HK:Hid (keyR (ps.map Prod.snd)=(S,0)):=by rw[HS.out,hTK];exact keyR_yes hal
   clear hTK hal
   go_wp2_with fail
   go_ret2
   exact⟨by rw[HK.out];rfl,HB.out⟩
theorem rcode_any(x:Val)(c:VC)(w:World)(h:RW w c x):
 Calls Tryz.prog 90 #[c.val] w fun e w'=>e=.returned (.tuple #[.string (keyR [x]).1,.int .i64 (keyR [x]).2])∧Below w.heap.size w w':=by
 have H:=qD h
 have BE:Hid (Below w.heap.size w (((w.alloc (.cells c.arr 45)).alloc (.cells c.arr 45)).alloc (.cells #[.bool false] 4))):=(((Below.refl _ _).alloc (qL) _).alloc (by simp) _).alloc (by simp;omega) _
 have B1:Hid (Blk (((w.alloc (.cells c.arr 45)).alloc (.cells c.arr 45)).alloc (.cells #[.bool false] 4)) (w.heap.size+1) 45 c.arr):=(Blk.new_at (by simp)).alloc _
 have B2:Hid (Blk (((w.alloc (.cells c.arr 45)).alloc (.cells c.arr 45)).alloc (.cells #[.bool false] 4)) (w.heap.size+2) 4 #[.bool false]):=Blk.new_at (by simp)
 obtain⟨wb,hwb⟩:∃wb,wb=(((w.alloc (.cells c.arr 45)).alloc (.cells c.arr 45)).alloc (.cells #[.bool false] 4)):=⟨_,rfl⟩
 rw[←hwb] at BE B1 B2
 have HC:=qD (rencode_any [(c,x)] (some ⟨w.heap.size+1,0,none⟩) (some ⟨w.heap.size+2,0,none⟩) 1 1 1 wb (sl_one B1.out (H.out.step BE.out)) (sx_one B2.out) (by omega))
 rw[hwb] at HC
 have HWB:=qD hwb
 clear h hwb
 simp only[List.map_cons,List.map_nil] at HC
 obtain⟨K,hK⟩:∃K,keyR [x]=K:=⟨_,rfl⟩
 rw[hK] at HC ⊢
 clear hK
 obtain⟨K1,K2⟩:=K
 go_enter Tryz.func90,Tryz.ntmps90
 go_wp2_with fail
 refine HC.out.mono ?_
 rintro e w1 ⟨rfl,hb⟩
 rw[←HWB.out] at hb
 have CE:=qD (BE.out.step' hb)
 clear hb HC B1 B2
 go_wp2_with fail
 go_ret2
 exact⟨rfl,CE.out⟩
theorem rhash_any(x:Val)(c:VC)(w:World)(h:RW w c x):
 Calls Tryz.prog 91 #[c.val] w fun e w'=>e=.returned (.int .i64 (hashV x))∧Below w.heap.size w w':=by
 have H:=qD h
 have B0:Hid (Blk (w.alloc (.cells c.arr 45)) w.heap.size 45 c.arr):=Blk.new_at rfl
 have BE:Hid (Below w.heap.size w (w.alloc (.cells c.arr 45))):=(Below.refl _ _).alloc (qL) _
 have HC:=qD fun(w1:World) (hb:Below w.heap.size w w1)=>rcode_any x c w1 (h.step hb)
 clear h
 go_enter Tryz.func91,Tryz.ntmps91
 go_upto_region 1 with fail
 change (Code.region 1 _ _).wp _ _ _ (w.alloc (.cells c.arr 45))
 generalize w.alloc (.cells c.arr 45)=wa at*
 obtain⟨q0,q1,q2,q3,q4⟩:=VAt.of_blk B0.out
 simp only[Nat.zero_add] at q0 q1 q2 q3 q4
 have HCA:=qD (HC.out wa BE.out)
 cases hA:allowB x
 ·have HV:Hid (hashV x=0):=by unfold Hid hashV;rw[hA];rfl
  rw[keyR_one_no hA] at HCA
  clear hA HC
  go_wp2_with fail
  refine HCA.out.mono ?_
  rintro e w1 ⟨rfl,hb⟩
  have CE:=qD (BE.out.step' hb)
  clear q0 q1 q2 q3 q4 hb HCA B0
  go_wp2_with fail
  go_ret
  exact⟨by rw[HV.out];rfl,CE.out⟩
 ·have HV:Hid (hashV x=((crcSum (strOfNums (encV x)):Nat):Int)):=by unfold Hid hashV;rw[hA];rfl
  have hz:=(allow_enc hA).2
  have hzz:(strOfNums (encV x)).size≤140737488355328:=by rw[strOfNums_size];omega
  rw[keyR_one_yes hA] at HCA
  have hlt:=crcSum_lt (strOfNums (encV x))
  obtain⟨S,hS⟩:∃S,S=strOfNums (encV x):=⟨_,rfl⟩
  rw[←hS] at HCA HV hzz hlt
  have HZ:=qD hzz
  obtain⟨q,hq⟩:∃q,q=crcSum S:=⟨_,rfl⟩
  rw[←hq] at HV hlt
  have HQ:=qD hq
  have qz:(q:Int)<4294967296:=by omega
  clear hA HC hS hz hzz hlt hq
  go_wp2_with fail
  refine HCA.out.mono ?_
  rintro e w1 ⟨rfl,hb⟩
  have CE:=qD (BE.out.step' hb)
  clear q0 q1 q2 q3 q4 hb HCA B0
  go_wp2_with fail
  refine(rcrc_any S w1 HZ.out).mono ?_
  rintro e w2 ⟨rfl,rfl⟩
  rw[←HQ.out]
  go_wp2_with fail
  go_ret
  exact⟨by rw[HV.out];rfl,CE.out⟩
end Go.Proofs.YtlicnjecnehaoaaGreatDoor
