/- Parts of the proof, joined: MgAwake, MrRuns, MrRunsLaw. -/
import Derived.Test.YtlicnjecnehaoaaGreatDoorRa1
import Derived.Test.YtlicnjecnehaoaaGreatDoorRa26
import Derived.Test.YtlicnjecnehaoaaGreatDoorRa18
import Derived.Test.YtlicnjecnehaoaaGreatDoorRa17
import Derived.Test.YtlicnjecnehaoaaGreatDoorRa14
import Derived.Test.YtlicnjecnehaoaaGreatDoorRa24
import Derived.Test.YtlicnjecnehaoaaGreatDoorRa25
import Derived.Test.YtlicnjecnehaoaaGreatDoorRa6
import Derived.Test.YtlicnjecnehaoaaGreatDoorCards
import Derived.Test.YtlicnjecnehaoaaGreatDoorTie
import Derived.Lib.LaidIn
import Derived.Lib.LaidU8T
import Derived.PinnedBridge
import Derived.Deep.DeepHandedRow
import Derived.Deep.DeepWitnessRowRef
import Derived.ProofKit
import Derived.SizedLaws
import Derived.OpenShut
import Derived.ShutString
import Derived.ChangeOld
import Derived.Below
import Derived.SevenTiedAt
set_option maxRecDepth 100000
set_option maxHeartbeats 16000000
set_option linter.unusedSimpArgs false
namespace Go.Proofs.YtlicnjecnehaoaaGreatDoor
open Go.RowKit
def vId:Val:=.mk 5 0 ByteArray.empty [] [.mk idB (vI 1)]
theorem sound_id:SoundV nameB vId:=(SoundV_iff _ _).2 ⟨⟨.inr (.inr (.inr rfl)),.inr (.inr (.inr rfl)),.inr rfl,.inl rfl,by simp[vId,Val.k]⟩,by simp[vId,Val.l],by intro f hf;simp[vId,Val.d] at hf;subst hf;exact sound_i 1,by
 refine⟨fun f hf=>?_,by simp[vId,Val.d]⟩
 simp[vId,Val.d] at hf
 subst hf
 show nameB idB=true
 kernel_rfl⟩
theorem valid_id:validV vId=true:=by
 have h1:vId.size=2:=by simp[vId,vI,Val.size,sizeD,sizeF]
 have h2:vId.height=2:=by simp[vId,vI,Val.height,heightD,heightF]
 unfold validV
 rw[decide_eq_true (by omega),decide_eq_true (by omega),soundB_true sound_id]
 rfl
theorem at_id:keyAt vId [ka]=some nullV:=by
 refine keyAt_none (by show(5:Int)≠6;decide) ?_
 have h:(getV vId ka).isNone=true:=by kernel_rfl
 exact Option.isNone_iff_eq_none.1 h
theorem vals_id:valsR ks1 vId=some [nullV]:=by
 rw[valsR_yes rfl valid_id,ks1,valsAt,at_id]
 rfl
theorem keyR_null:keyR [nullV]=(strOfNums (encAll [nullV]),0):=keyR_yes (by unfold allowsB;simp[allow_valid valid_null])
theorem enc_id:encR ks1 false vId=(strOfNums (encAll [nullV]),0):=by rw[encR_some vals_id,hashes_no,keyR_null]
abbrev R51:Ro:=⟨⟨#[99]⟩,ks1,false,1,1,[⟨ByteArray.empty,ByteArray.empty,0,1,false⟩]⟩
theorem ins_id:insD R51 ByteArray.empty ByteArray.empty vId=true:=by
 rw[insD_yes (K1:=strOfNums (encAll [nullV])) enc_id,inB_open]
 ·rw[show ByteArray.empty.toList=[] by kernel_rfl]
  generalize (strOfNums (encAll [nullV])).toList=l
  cases l<;>rfl
 ·kernel_rfl
abbrev M51:Mv:=⟨⟨#[99]⟩,ByteArray.empty,ByteArray.empty,0,1,1,[],[]⟩
noncomputable abbrev M52:Mv:=⟨⟨#[99]⟩,ByteArray.empty,ByteArray.empty,0,1,2,[putW ⟨#[99]⟩ vId],[]⟩
theorem start_1:startR R51 ByteArray.empty 1=(M51,0):=by kernel_rfl
theorem start_0:startR R51 ByteArray.empty 0=(Mv.zero,23):=by kernel_rfl
theorem copyL_id:copyL R51 ⟨#[99]⟩ ByteArray.empty ByteArray.empty [vId]=[putW ⟨#[99]⟩ vId]:=by
 unfold copyL
 rw[List.filter_cons,ins_id]
 rfl
theorem rw_id{w:World}{g:Nat}(h:Blk w g 75 #[.string idB,.int .i64 3,.int .i64 1,.string ByteArray.empty,.slice none 0 0,.slice none 0 0]):RW w (cD g) vId:=by
 refine RVs.shut ⟨rfl,rfl,rfl,by show 0≤reach;decide,rfl,qL,by show 0*80≤reach;decide,fun h=>absurd h (by show ¬(0<0);omega),rfl,qL,by show 1*96≤reach;decide,fun _=>⟨g,0,rfl,Ft.top,fun i f hi=>?_⟩⟩
 cases i with
 | zero=>
  simp[vId,Val.d] at hi
  subst hi
  exact⟨h.cell 0,by show 3≤reach;decide,cI 1,⟨h.cell 1,h.cell 2,h.cell 3,h.cell 4,h.cell 5⟩,rw_i 1 w⟩
 | succ i=>simp[vId,Val.d] at hi
theorem cs_one{w:World}{g:Nat}{c:Ch}(h:Blk w g 81 (recC c).toArray):CS w (some ⟨g,0,none⟩) 1 1 [c]:=by
 refine⟨⟨rfl,qL,fun _=>⟨g,0,rfl,h.lt,fun i a hi j v hj=>?_⟩⟩,by show 1*56≤reach;decide⟩
 cases i with
 | zero=>
  simp at hi
  subst hi
  simp only[Nat.zero_mul,Nat.zero_add]
  rw[h.cell,List.getElem?_toArray]
  exact hj
 | succ i=>simp at hi
def PlOk(w:World)(e:Ending)(w':World):Prop:=∃a:RA,e=.returned (rval a R51)∧RR w' a R51∧Below w.heap.size w w'
theorem plain_any(w:World):Calls Tryz.prog 12 #[] w (PlOk w):=by
 obtain⟨W2,hW⟩:∃W2,(((w.alloc (.cells (rarr ⟨some ⟨w.heap.size+1+1,0,none⟩,1,1,some ⟨w.heap.size+1+1+1,0,none⟩,1,1⟩ R51) 27)).alloc (.cells #[.string ka] 9)).alloc (.cells #[.slice (some ⟨w.heap.size+1,0,none⟩) 1 1,.bool false] 93)).alloc (.cells (recC ⟨ByteArray.empty,ByteArray.empty,0,1,false⟩).toArray 81)=W2:=⟨_,rfl⟩
 have hR:Hid (Blk W2 w.heap.size 27 (rarr ⟨some ⟨w.heap.size+1+1,0,none⟩,1,1,some ⟨w.heap.size+1+1+1,0,none⟩,1,1⟩ R51)):=by rw[←hW];exact(((Blk.new_at rfl).alloc _).alloc _).alloc _
 have hS:Hid (Blk W2 (w.heap.size+1) 9 #[.string ka]):=by rw[←hW];exact((Blk.new_at (by simp)).alloc _).alloc _
 have hO:Hid (Blk W2 (w.heap.size+1+1) 93 #[.slice (some ⟨w.heap.size+1,0,none⟩) 1 1,.bool false]):=by rw[←hW];exact(Blk.new_at (by simp)).alloc _
 have hC:Hid (Blk W2 (w.heap.size+1+1+1) 81 (recC ⟨ByteArray.empty,ByteArray.empty,0,1,false⟩).toArray):=by rw[←hW];exact Blk.new_at (by simp)
 have hE:Hid (Below w.heap.size w W2):=by rw[←hW];exact((((Below.refl _ _).alloc (qL) _).alloc (by simp) _).alloc (by simp;omega) _).alloc (by simp;omega) _
 have HW:=qD hW
 clear hW
 go_enter Tryz.func12,Tryz.ntmps12
 go_wp2_with fail
 change bodyPost _ _ _ _ _ ((((w.alloc (.cells (rarr ⟨some ⟨w.heap.size+1+1,0,none⟩,1,1,some ⟨w.heap.size+1+1+1,0,none⟩,1,1⟩ R51) 27)).alloc (.cells #[.string ka] 9)).alloc (.cells #[.slice (some ⟨w.heap.size+1,0,none⟩) 1 1,.bool false] 93)).alloc (.cells (recC ⟨ByteArray.empty,ByteArray.empty,0,1,false⟩).toArray 81))
 rw[HW.out]
 exact bodyPost_ret (results_ro rfl _ w.heap.size rfl W2 ⟨some ⟨w.heap.size+1+1,0,none⟩,1,1,some ⟨w.heap.size+1+1+1,0,none⟩,1,1⟩ R51 hR.out) rfl
  ⟨⟨some ⟨w.heap.size+1+1,0,none⟩,1,1,some ⟨w.heap.size+1+1+1,0,none⟩,1,1⟩,rfl,⟨by show 1≤reach;decide,ks_ka hS.out hO.out,cs_one hC.out⟩,hE.out⟩
theorem awake51_any(w:World)(hT:Tabs w):Calls Tryz.prog 5 #[] w fun e w'=>e=.returned (.bool true)∧Below w.heap.size w w':=by
 have HT:=qD hT
 clear hT
 have Z:=qD (Below.refl w.heap.size w)
 go_enter Tryz.func5,Tryz.ntmps5
 go_wp2_with fail
 refine(plain_any _).mono ?_
 rintro e w1 ⟨a1,rfl,hr,hb⟩
 have HS:=start_any R51 a1 ByteArray.empty 1 w1 hr
 rw[start_1] at HS
 have HS1:=qD HS
 have Z1:=qD (Z.out.step' hb)
 clear hb hr Z HS
 go_wp2_with fail
 refine HS1.out.mono ?_
 rintro e w2 ⟨rfl,hb⟩
 have Z2:=qD (Z1.out.step' hb)
 clear hb HS1 Z1
 go_upto_region 2 with fail
 change Code.wp _ _ _ _ (w2.alloc (.cells (marr MA.zero M51) 35))
 have P1:Hid (Blk (w2.alloc (.cells (marr MA.zero M51) 35)) w2.heap.size 35 (marr MA.zero M51)):=Blk.new_at rfl
 have Z3:=qD (Z2.out.alloc Z2.out.size (Obj.cells (marr MA.zero M51) 35))
 clear Z2
 generalize w2.alloc (.cells (marr MA.zero M51) 35)=w3 at*
 generalize w2.heap.size=gm at*
 go_wp2_with fail
 refine(plain_any _).mono ?_
 rintro e w4 ⟨a2,rfl,hr,hb⟩
 have HS:=start_any R51 a2 ByteArray.empty 0 w4 hr
 rw[start_0] at HS
 have HS1:=qD HS
 have Z4:=qD (Z3.out.step' hb)
 replace P1:=qD (P1.out.step hb)
 clear hb hr Z3 HS
 go_wp2_with fail
 refine HS1.out.mono ?_
 rintro e w5 ⟨rfl,hb⟩
 have Z5:=qD (Z4.out.step' hb)
 replace P1:=qD (P1.out.step hb)
 clear hb HS1 Z4
 go_upto_region 3 with fail
 change Code.wp _ _ _ _ (w5.alloc (.cells (marr MA.zero Mv.zero) 35))
 have Z6:=qD (Z5.out.alloc Z5.out.size (Obj.cells (marr MA.zero Mv.zero) 35))
 replace P1:=qD (P1.out.alloc (.cells (marr MA.zero Mv.zero) 35))
 clear Z5
 generalize w5.alloc (.cells (marr MA.zero Mv.zero) 35)=w5b at*
 generalize w5.heap.size=gz at*
 go_wp2_with fail
 refine(rint01_any 1 _).mono ?_
 rintro e w5c ⟨rfl,hb⟩
 have Z7:=qD (Z6.out.step' hb)
 replace P1:=qD (P1.out.step hb)
 clear hb Z6
 go_upto_region 4 with fail
 obtain⟨w6,hW⟩:∃w6,(w5c.alloc (.cells #[.string idB,.int .i64 3,.int .i64 1,.string ByteArray.empty,.slice none 0 0,.slice none 0 0] 75)).alloc (.cells (cD w5c.heap.size).arr 45)=w6:=⟨_,rfl⟩
 have P2:Hid (Blk w6 (w5c.heap.size+1) 45 (cD w5c.heap.size).arr):=by rw[←hW];exact Blk.new_at (by simp)
 have P3:Hid (Blk w6 w5c.heap.size 75 #[.string idB,.int .i64 3,.int .i64 1,.string ByteArray.empty,.slice none 0 0,.slice none 0 0]):=by rw[←hW];exact(Blk.new_at rfl).alloc _
 have hb6:Below w5c.heap.size w5c w6:=by rw[←hW];exact((Below.refl _ _).alloc (qL) _).alloc (by simp) _
 replace P1:=qD (P1.out.step hb6)
 have Z6:=qD (Z7.out.step' hb6)
 change Code.wp _ _ _ _ ((w5c.alloc (.cells #[.string idB,.int .i64 3,.int .i64 1,.string ByteArray.empty,.slice none 0 0,.slice none 0 0] 75)).alloc (.cells (cD w5c.heap.size).arr 45))
 rw[hW]
 have P1L:=qD P1.out.lt
 have P2L:=qD P2.out.lt
 clear hW hb6 Z7
 generalize w5c.heap.size+1=gd at*
 generalize w5c.heap.size=gf at*
 go_cut [6,7] (fun v6 v7 wx=>∃(g9:Nat) (mb:MA),v6=.pointer (some ⟨g9,0,none⟩)∧v7=.int .i64 0∧Blk wx g9 35 (marr mb M52)∧MR wx mb M52∧Blk wx gm 35 (marr MA.zero M51)∧Below w6.heap.size w6 wx)
 case first=>
  refine wp_region_noPanic ?_
  refine wp_region_held_drew (S:=(fun w'=>Blk w' gm 35 (marr MA.zero M51)∧Blk w' gd 45 (cD gf).arr)) (by kernel_rfl) ?_ (fun hHeld=>?_)
  ·(try dsimp only);exact⟨P1.out,P2.out⟩
  have B:Hid (Below w6.heap.size w6 w6.drew):=qD ((Below.refl w6.heap.size w6).drew)
  replace P1:=qD P1.out.drew
  replace P2:=qD P2.out.drew
  replace P3:=qD P3.out.drew
  generalize w6.drew=v0 at*
  refine rT (v:=.agg (marr MA.zero M51)) 0 rfl ?_ ?_
  ·intro w' hSw;exact exec_row rfl rfl hSw.1 Tryz.underlying35 rfl (by rw[sizeM];rfl)
  try go_frame
  refine rT (v:=.agg (cD gf).arr) 2 rfl ?_ ?_
  ·intro w' hSw;exact exec_row rfl rfl hSw.2 Tryz.underlying45 rfl (by rw[sizeV];rfl)
  try go_frame
  refine rR [1,3,8] ?_
  refine rC (fun K hK=>?_) (rC (fun K hK=>?_) (rC (fun K hK=>?_) rN))
  ·go_simp
   refine(plain_any v0).mono ?_
   rintro e3 y1 ⟨a9,rfl,hr,hb⟩
   replace P1:=qD (P1.out.step hb)
   replace P2:=qD (P2.out.step hb)
   replace P3:=qD (P3.out.step hb)
   have RP:=qD hr
   replace B:=qD (B.out.step' hb)
   clear hb hr
   (try go_wp2_with fail)
   clear hHeld
   refine hK.out _ _ ?_ fun hHeld=>?_
   ·(try dsimp only);exact⟨P1.out,P2.out⟩
   clear hK K
   try go_frame
   refine rR [3,8] ?_
   refine rC (fun K hK=>?_) (rC (fun K hK=>?_) rN)
   ·go_simp
    have GS:Hid (Blk (y1.alloc (.cells (cD gf).arr 45)) y1.heap.size 45 (cD gf).arr):=Blk.new_at rfl
    replace P1:=qD (P1.out.alloc (.cells (cD gf).arr 45))
    replace P2:=qD (P2.out.alloc (.cells (cD gf).arr 45))
    replace P3:=qD (P3.out.alloc (.cells (cD gf).arr 45))
    replace RP:=qD (RP.out.alloc (.cells (cD gf).arr 45))
    replace B:=qD (B.out.alloc B.out.size (Obj.cells (cD gf).arr 45))
    change K _ (y1.alloc (.cells (cD gf).arr 45))
    generalize y1.alloc (.cells (cD gf).arr 45)=y2 at*
    generalize y1.heap.size=g3 at*
    clear hHeld
    refine hK.out _ _ ?_ fun hHeld=>?_
    ·(try dsimp only);exact⟨P1.out,P2.out⟩
    clear hK K
    try go_frame
    refine rR [4,8] ?_
    refine rC (fun K hK=>?_) (rC (fun K hK=>?_) rN)
    ·go_simp
     have HC:=mgcopy_any M51 R51 a9 [(cD gf,vId)] (some ⟨g3,0,none⟩) 1 1 y2 (HT.out.step (Z6.out.step' B.out)) RP.out (by decide) (sl_one GS.out (rw_id P3.out)) (by omega) (by show 1≤reach;decide) rfl rfl rfl
     rw[show copyL R51 M51.sp M51.lo M51.hi ([(cD gf,vId)].map Prod.snd)=[putW ⟨#[99]⟩ vId] from copyL_id] at HC
     have HC2:=qD HC
     clear HC
     refine HC2.out.mono ?_
     rintro e3 y3 ⟨mb,rfl,hr,hb⟩
     replace P1:=qD (P1.out.step hb)
     replace P2:=qD (P2.out.step hb)
     replace P3:=qD (P3.out.step hb)
     replace RP:=qD (RP.out.step hb)
     replace GS:=qD (GS.out.step hb)
     have RM:=qD hr
     replace B:=qD (B.out.step' hb)
     clear hb hr HC2
     (try go_wp2_with fail)
     clear hHeld
     refine hK.out _ _ ?_ fun hHeld=>?_
     ·(try dsimp only);exact⟨P1.out,P2.out⟩
     clear hK K
     try go_frame
     refine rU 5 rfl ?_
     try go_frame
     refine rU 6 rfl ?_
     try go_frame
     refine rU 7 rfl ?_
     try go_frame
     refine rY 8 rfl fun K hK=>?_
     go_simp
     have hg9:w6.heap.size≤y3.heap.size:=B.out.size
     have Q9:Hid (Blk (y3.alloc (.cells (marr MA.zero Mv.zero) 35)) y3.heap.size 35 (marr MA.zero Mv.zero)):=Blk.new_at rfl
     replace P1:=qD (P1.out.alloc (.cells (marr MA.zero Mv.zero) 35))
     replace P2:=qD (P2.out.alloc (.cells (marr MA.zero Mv.zero) 35))
     replace P3:=qD (P3.out.alloc (.cells (marr MA.zero Mv.zero) 35))
     replace RP:=qD (RP.out.alloc (.cells (marr MA.zero Mv.zero) 35))
     replace GS:=qD (GS.out.alloc (.cells (marr MA.zero Mv.zero) 35))
     replace RM:=qD (RM.out.alloc (.cells (marr MA.zero Mv.zero) 35))
     replace B:=qD (B.out.alloc B.out.size (Obj.cells (marr MA.zero Mv.zero) 35))
     change K _ (y3.alloc (.cells (marr MA.zero Mv.zero) 35))
     generalize y3.alloc (.cells (marr MA.zero Mv.zero) 35)=y4 at*
     generalize y3.heap.size=g9 at*
     clear hHeld
     refine hK.out _ _ ?_ fun hHeld=>?_
     ·(try dsimp only);exact⟨P1.out,P2.out⟩
     clear hK K
     try go_frame
     refine rY 9 rfl fun K hK=>?_
     refine wp_store_row 35 _ _ rfl g9 (marr mb M52) rfl rfl 35 _ Q9.out (by rw[sizeM];rfl) rfl (marr_all _ _) ?_
     have Q8:=qD (Blk.row Q9.out (marr mb M52))
     have P8:=qD (Blk.row_far P1.out (by have:=P1L.out;omega:gm≠g9) (marr mb M52))
     have V8:=qD (Blk.row_far P2.out (by have:=P2L.out;omega:gd≠g9) (marr mb M52))
     have RM8:Hid (MR (y4.setRow g9 (marr mb M52)) mb M52):=RM.out.row_move Q9.out (by have:=P1L.out;omega) (marr mb M52)
     have B8:=qD (below_row B.out hg9 (marr mb M52))
     clear Q9 P1 P2 RM B
     have Q9:=Q8
     have P1:=P8
     have P2:=V8
     have RM:=RM8
     have B:=B8
     clear Q8 P8 V8 RM8 B8
     generalize y4.setRow g9 (marr mb M52)=y5 at*
     clear hHeld
     refine hK.out _ _ ?_ fun hHeld=>?_
     ·(try dsimp only);exact⟨P1.out,P2.out⟩
     clear hK K
     try go_frame
     refine rU 10 rfl ?_
     try go_frame
     refine rD ?_ _
     refine NoPanic.normal ?_
     go_wp2_with fail
     go_meet
     exact⟨g9,mb,rfl,rfl,Q9.out,RM.out,P1.out,B.out⟩
    ·go_simp
     have hg9:w6.heap.size≤y2.heap.size:=B.out.size
     have Q9:Hid (Blk (y2.alloc (.cells (marr MA.zero Mv.zero) 35)) y2.heap.size 35 (marr MA.zero Mv.zero)):=Blk.new_at rfl
     replace P1:=qD (P1.out.alloc (.cells (marr MA.zero Mv.zero) 35))
     replace P2:=qD (P2.out.alloc (.cells (marr MA.zero Mv.zero) 35))
     replace P3:=qD (P3.out.alloc (.cells (marr MA.zero Mv.zero) 35))
     replace RP:=qD (RP.out.alloc (.cells (marr MA.zero Mv.zero) 35))
     replace GS:=qD (GS.out.alloc (.cells (marr MA.zero Mv.zero) 35))
     replace B:=qD (B.out.alloc B.out.size (Obj.cells (marr MA.zero Mv.zero) 35))
     change K _ (y2.alloc (.cells (marr MA.zero Mv.zero) 35))
     generalize y2.alloc (.cells (marr MA.zero Mv.zero) 35)=y6 at*
     generalize y2.heap.size=g9 at*
     clear hHeld
     refine hK.out _ _ ?_ fun hHeld=>?_
     ·(try dsimp only);exact⟨P1.out,P2.out⟩
     clear hK K
     try go_frame
     refine rY 4 rfl fun K hK=>?_
     go_simp
     have HC:=mgcopy_any M51 R51 a9 [(cD gf,vId)] (some ⟨g3,0,none⟩) 1 1 y6 (HT.out.step (Z6.out.step' B.out)) RP.out (by decide) (sl_one GS.out (rw_id P3.out)) (by omega) (by show 1≤reach;decide) rfl rfl rfl
     rw[show copyL R51 M51.sp M51.lo M51.hi ([(cD gf,vId)].map Prod.snd)=[putW ⟨#[99]⟩ vId] from copyL_id] at HC
     have HC2:=qD HC
     clear HC
     refine HC2.out.mono ?_
     rintro e3 y7 ⟨mb,rfl,hr,hb⟩
     replace P1:=qD (P1.out.step hb)
     replace P2:=qD (P2.out.step hb)
     replace P3:=qD (P3.out.step hb)
     replace RP:=qD (RP.out.step hb)
     replace GS:=qD (GS.out.step hb)
     replace Q9:=qD (Q9.out.step hb)
     have RM:=qD hr
     replace B:=qD (B.out.step' hb)
     clear hb hr HC2
     (try go_wp2_with fail)
     clear hHeld
     refine hK.out _ _ ?_ fun hHeld=>?_
     ·(try dsimp only);exact⟨P1.out,P2.out⟩
     clear hK K
     try go_frame
     refine rU 5 rfl ?_
     try go_frame
     refine rU 6 rfl ?_
     try go_frame
     refine rU 7 rfl ?_
     try go_frame
     refine rY 9 rfl fun K hK=>?_
     refine wp_store_row 35 _ _ rfl g9 (marr mb M52) rfl rfl 35 _ Q9.out (by rw[sizeM];rfl) rfl (marr_all _ _) ?_
     have Q8:=qD (Blk.row Q9.out (marr mb M52))
     have P8:=qD (Blk.row_far P1.out (by have:=P1L.out;omega:gm≠g9) (marr mb M52))
     have V8:=qD (Blk.row_far P2.out (by have:=P2L.out;omega:gd≠g9) (marr mb M52))
     have RM8:Hid (MR (y7.setRow g9 (marr mb M52)) mb M52):=RM.out.row_move Q9.out (by have:=P1L.out;omega) (marr mb M52)
     have B8:=qD (below_row B.out hg9 (marr mb M52))
     clear Q9 P1 P2 RM B
     have Q9:=Q8
     have P1:=P8
     have P2:=V8
     have RM:=RM8
     have B:=B8
     clear Q8 P8 V8 RM8 B8
     generalize y7.setRow g9 (marr mb M52)=y8 at*
     clear hHeld
     refine hK.out _ _ ?_ fun hHeld=>?_
     ·(try dsimp only);exact⟨P1.out,P2.out⟩
     clear hK K
     try go_frame
     refine rU 10 rfl ?_
     try go_frame
     refine rD ?_ _
     refine NoPanic.normal ?_
     go_wp2_with fail
     go_meet
     exact⟨g9,mb,rfl,rfl,Q9.out,RM.out,P1.out,B.out⟩
   ·go_simp
    have hg9:w6.heap.size≤y1.heap.size:=B.out.size
    have Q9:Hid (Blk (y1.alloc (.cells (marr MA.zero Mv.zero) 35)) y1.heap.size 35 (marr MA.zero Mv.zero)):=Blk.new_at rfl
    replace P1:=qD (P1.out.alloc (.cells (marr MA.zero Mv.zero) 35))
    replace P2:=qD (P2.out.alloc (.cells (marr MA.zero Mv.zero) 35))
    replace P3:=qD (P3.out.alloc (.cells (marr MA.zero Mv.zero) 35))
    replace RP:=qD (RP.out.alloc (.cells (marr MA.zero Mv.zero) 35))
    replace B:=qD (B.out.alloc B.out.size (Obj.cells (marr MA.zero Mv.zero) 35))
    change K _ (y1.alloc (.cells (marr MA.zero Mv.zero) 35))
    generalize y1.alloc (.cells (marr MA.zero Mv.zero) 35)=y9 at*
    generalize y1.heap.size=g9 at*
    clear hHeld
    refine hK.out _ _ ?_ fun hHeld=>?_
    ·(try dsimp only);exact⟨P1.out,P2.out⟩
    clear hK K
    try go_frame
    refine rY 3 rfl fun K hK=>?_
    go_simp
    have GS:Hid (Blk (y9.alloc (.cells (cD gf).arr 45)) y9.heap.size 45 (cD gf).arr):=Blk.new_at rfl
    replace P1:=qD (P1.out.alloc (.cells (cD gf).arr 45))
    replace P2:=qD (P2.out.alloc (.cells (cD gf).arr 45))
    replace P3:=qD (P3.out.alloc (.cells (cD gf).arr 45))
    replace RP:=qD (RP.out.alloc (.cells (cD gf).arr 45))
    replace Q9:=qD (Q9.out.alloc (.cells (cD gf).arr 45))
    replace B:=qD (B.out.alloc B.out.size (Obj.cells (cD gf).arr 45))
    change K _ (y9.alloc (.cells (cD gf).arr 45))
    generalize y9.alloc (.cells (cD gf).arr 45)=y10 at*
    generalize y9.heap.size=g3 at*
    clear hHeld
    refine hK.out _ _ ?_ fun hHeld=>?_
    ·(try dsimp only);exact⟨P1.out,P2.out⟩
    clear hK K
    try go_frame
    refine rY 4 rfl fun K hK=>?_
    go_simp
    have HC:=mgcopy_any M51 R51 a9 [(cD gf,vId)] (some ⟨g3,0,none⟩) 1 1 y10 (HT.out.step (Z6.out.step' B.out)) RP.out (by decide) (sl_one GS.out (rw_id P3.out)) (by omega) (by show 1≤reach;decide) rfl rfl rfl
    rw[show copyL R51 M51.sp M51.lo M51.hi ([(cD gf,vId)].map Prod.snd)=[putW ⟨#[99]⟩ vId] from copyL_id] at HC
    have HC2:=qD HC
    clear HC
    refine HC2.out.mono ?_
    rintro e3 y11 ⟨mb,rfl,hr,hb⟩
    replace P1:=qD (P1.out.step hb)
    replace P2:=qD (P2.out.step hb)
    replace P3:=qD (P3.out.step hb)
    replace RP:=qD (RP.out.step hb)
    replace Q9:=qD (Q9.out.step hb)
    replace GS:=qD (GS.out.step hb)
    have RM:=qD hr
    replace B:=qD (B.out.step' hb)
    clear hb hr HC2
    (try go_wp2_with fail)
    clear hHeld
    refine hK.out _ _ ?_ fun hHeld=>?_
    ·(try dsimp only);exact⟨P1.out,P2.out⟩
    clear hK K
    try go_frame
    refine rU 5 rfl ?_
    try go_frame
    refine rU 6 rfl ?_
    try go_frame
    refine rU 7 rfl ?_
    try go_frame
    refine rY 9 rfl fun K hK=>?_
    refine wp_store_row 35 _ _ rfl g9 (marr mb M52) rfl rfl 35 _ Q9.out (by rw[sizeM];rfl) rfl (marr_all _ _) ?_
    have Q8:=qD (Blk.row Q9.out (marr mb M52))
    have P8:=qD (Blk.row_far P1.out (by have:=P1L.out;omega:gm≠g9) (marr mb M52))
    have V8:=qD (Blk.row_far P2.out (by have:=P2L.out;omega:gd≠g9) (marr mb M52))
    have RM8:Hid (MR (y11.setRow g9 (marr mb M52)) mb M52):=RM.out.row_move Q9.out (by have:=P1L.out;omega) (marr mb M52)
    have B8:=qD (below_row B.out hg9 (marr mb M52))
    clear Q9 P1 P2 RM B
    have Q9:=Q8
    have P1:=P8
    have P2:=V8
    have RM:=RM8
    have B:=B8
    clear Q8 P8 V8 RM8 B8
    generalize y11.setRow g9 (marr mb M52)=y12 at*
    clear hHeld
    refine hK.out _ _ ?_ fun hHeld=>?_
    ·(try dsimp only);exact⟨P1.out,P2.out⟩
    clear hK K
    try go_frame
    refine rU 10 rfl ?_
    try go_frame
    refine rD ?_ _
    refine NoPanic.normal ?_
    go_wp2_with fail
    go_meet
    exact⟨g9,mb,rfl,rfl,Q9.out,RM.out,P1.out,B.out⟩
  ·go_simp
   have GS:Hid (Blk (v0.alloc (.cells (cD gf).arr 45)) v0.heap.size 45 (cD gf).arr):=Blk.new_at rfl
   replace P1:=qD (P1.out.alloc (.cells (cD gf).arr 45))
   replace P2:=qD (P2.out.alloc (.cells (cD gf).arr 45))
   replace P3:=qD (P3.out.alloc (.cells (cD gf).arr 45))
   replace B:=qD (B.out.alloc B.out.size (Obj.cells (cD gf).arr 45))
   change K _ (v0.alloc (.cells (cD gf).arr 45))
   generalize v0.alloc (.cells (cD gf).arr 45)=y13 at*
   generalize v0.heap.size=g3 at*
   clear hHeld
   refine hK.out _ _ ?_ fun hHeld=>?_
   ·(try dsimp only);exact⟨P1.out,P2.out⟩
   clear hK K
   try go_frame
   refine rR [1,8] ?_
   refine rC (fun K hK=>?_) (rC (fun K hK=>?_) rN)
   ·go_simp
    refine(plain_any y13).mono ?_
    rintro e3 y14 ⟨a9,rfl,hr,hb⟩
    replace P1:=qD (P1.out.step hb)
    replace P2:=qD (P2.out.step hb)
    replace P3:=qD (P3.out.step hb)
    replace GS:=qD (GS.out.step hb)
    have RP:=qD hr
    replace B:=qD (B.out.step' hb)
    clear hb hr
    (try go_wp2_with fail)
    clear hHeld
    refine hK.out _ _ ?_ fun hHeld=>?_
    ·(try dsimp only);exact⟨P1.out,P2.out⟩
    clear hK K
    try go_frame
    refine rR [4,8] ?_
    refine rC (fun K hK=>?_) (rC (fun K hK=>?_) rN)
    ·go_simp
     have HC:=mgcopy_any M51 R51 a9 [(cD gf,vId)] (some ⟨g3,0,none⟩) 1 1 y14 (HT.out.step (Z6.out.step' B.out)) RP.out (by decide) (sl_one GS.out (rw_id P3.out)) (by omega) (by show 1≤reach;decide) rfl rfl rfl
     rw[show copyL R51 M51.sp M51.lo M51.hi ([(cD gf,vId)].map Prod.snd)=[putW ⟨#[99]⟩ vId] from copyL_id] at HC
     have HC2:=qD HC
     clear HC
     refine HC2.out.mono ?_
     rintro e3 y15 ⟨mb,rfl,hr,hb⟩
     replace P1:=qD (P1.out.step hb)
     replace P2:=qD (P2.out.step hb)
     replace P3:=qD (P3.out.step hb)
     replace GS:=qD (GS.out.step hb)
     replace RP:=qD (RP.out.step hb)
     have RM:=qD hr
     replace B:=qD (B.out.step' hb)
     clear hb hr HC2
     (try go_wp2_with fail)
     clear hHeld
     refine hK.out _ _ ?_ fun hHeld=>?_
     ·(try dsimp only);exact⟨P1.out,P2.out⟩
     clear hK K
     try go_frame
     refine rU 5 rfl ?_
     try go_frame
     refine rU 6 rfl ?_
     try go_frame
     refine rU 7 rfl ?_
     try go_frame
     refine rY 8 rfl fun K hK=>?_
     go_simp
     have hg9:w6.heap.size≤y15.heap.size:=B.out.size
     have Q9:Hid (Blk (y15.alloc (.cells (marr MA.zero Mv.zero) 35)) y15.heap.size 35 (marr MA.zero Mv.zero)):=Blk.new_at rfl
     replace P1:=qD (P1.out.alloc (.cells (marr MA.zero Mv.zero) 35))
     replace P2:=qD (P2.out.alloc (.cells (marr MA.zero Mv.zero) 35))
     replace P3:=qD (P3.out.alloc (.cells (marr MA.zero Mv.zero) 35))
     replace GS:=qD (GS.out.alloc (.cells (marr MA.zero Mv.zero) 35))
     replace RP:=qD (RP.out.alloc (.cells (marr MA.zero Mv.zero) 35))
     replace RM:=qD (RM.out.alloc (.cells (marr MA.zero Mv.zero) 35))
     replace B:=qD (B.out.alloc B.out.size (Obj.cells (marr MA.zero Mv.zero) 35))
     change K _ (y15.alloc (.cells (marr MA.zero Mv.zero) 35))
     generalize y15.alloc (.cells (marr MA.zero Mv.zero) 35)=y16 at*
     generalize y15.heap.size=g9 at*
     clear hHeld
     refine hK.out _ _ ?_ fun hHeld=>?_
     ·(try dsimp only);exact⟨P1.out,P2.out⟩
     clear hK K
     try go_frame
     refine rY 9 rfl fun K hK=>?_
     refine wp_store_row 35 _ _ rfl g9 (marr mb M52) rfl rfl 35 _ Q9.out (by rw[sizeM];rfl) rfl (marr_all _ _) ?_
     have Q8:=qD (Blk.row Q9.out (marr mb M52))
     have P8:=qD (Blk.row_far P1.out (by have:=P1L.out;omega:gm≠g9) (marr mb M52))
     have V8:=qD (Blk.row_far P2.out (by have:=P2L.out;omega:gd≠g9) (marr mb M52))
     have RM8:Hid (MR (y16.setRow g9 (marr mb M52)) mb M52):=RM.out.row_move Q9.out (by have:=P1L.out;omega) (marr mb M52)
     have B8:=qD (below_row B.out hg9 (marr mb M52))
     clear Q9 P1 P2 RM B
     have Q9:=Q8
     have P1:=P8
     have P2:=V8
     have RM:=RM8
     have B:=B8
     clear Q8 P8 V8 RM8 B8
     generalize y16.setRow g9 (marr mb M52)=y17 at*
     clear hHeld
     refine hK.out _ _ ?_ fun hHeld=>?_
     ·(try dsimp only);exact⟨P1.out,P2.out⟩
     clear hK K
     try go_frame
     refine rU 10 rfl ?_
     try go_frame
     refine rD ?_ _
     refine NoPanic.normal ?_
     go_wp2_with fail
     go_meet
     exact⟨g9,mb,rfl,rfl,Q9.out,RM.out,P1.out,B.out⟩
    ·go_simp
     have hg9:w6.heap.size≤y14.heap.size:=B.out.size
     have Q9:Hid (Blk (y14.alloc (.cells (marr MA.zero Mv.zero) 35)) y14.heap.size 35 (marr MA.zero Mv.zero)):=Blk.new_at rfl
     replace P1:=qD (P1.out.alloc (.cells (marr MA.zero Mv.zero) 35))
     replace P2:=qD (P2.out.alloc (.cells (marr MA.zero Mv.zero) 35))
     replace P3:=qD (P3.out.alloc (.cells (marr MA.zero Mv.zero) 35))
     replace GS:=qD (GS.out.alloc (.cells (marr MA.zero Mv.zero) 35))
     replace RP:=qD (RP.out.alloc (.cells (marr MA.zero Mv.zero) 35))
     replace B:=qD (B.out.alloc B.out.size (Obj.cells (marr MA.zero Mv.zero) 35))
     change K _ (y14.alloc (.cells (marr MA.zero Mv.zero) 35))
     generalize y14.alloc (.cells (marr MA.zero Mv.zero) 35)=y18 at*
     generalize y14.heap.size=g9 at*
     clear hHeld
     refine hK.out _ _ ?_ fun hHeld=>?_
     ·(try dsimp only);exact⟨P1.out,P2.out⟩
     clear hK K
     try go_frame
     refine rY 4 rfl fun K hK=>?_
     go_simp
     have HC:=mgcopy_any M51 R51 a9 [(cD gf,vId)] (some ⟨g3,0,none⟩) 1 1 y18 (HT.out.step (Z6.out.step' B.out)) RP.out (by decide) (sl_one GS.out (rw_id P3.out)) (by omega) (by show 1≤reach;decide) rfl rfl rfl
     rw[show copyL R51 M51.sp M51.lo M51.hi ([(cD gf,vId)].map Prod.snd)=[putW ⟨#[99]⟩ vId] from copyL_id] at HC
     have HC2:=qD HC
     clear HC
     refine HC2.out.mono ?_
     rintro e3 y19 ⟨mb,rfl,hr,hb⟩
     replace P1:=qD (P1.out.step hb)
     replace P2:=qD (P2.out.step hb)
     replace P3:=qD (P3.out.step hb)
     replace GS:=qD (GS.out.step hb)
     replace RP:=qD (RP.out.step hb)
     replace Q9:=qD (Q9.out.step hb)
     have RM:=qD hr
     replace B:=qD (B.out.step' hb)
     clear hb hr HC2
     (try go_wp2_with fail)
     clear hHeld
     refine hK.out _ _ ?_ fun hHeld=>?_
     ·(try dsimp only);exact⟨P1.out,P2.out⟩
     clear hK K
     try go_frame
     refine rU 5 rfl ?_
     try go_frame
     refine rU 6 rfl ?_
     try go_frame
     refine rU 7 rfl ?_
     try go_frame
     refine rY 9 rfl fun K hK=>?_
     refine wp_store_row 35 _ _ rfl g9 (marr mb M52) rfl rfl 35 _ Q9.out (by rw[sizeM];rfl) rfl (marr_all _ _) ?_
     have Q8:=qD (Blk.row Q9.out (marr mb M52))
     have P8:=qD (Blk.row_far P1.out (by have:=P1L.out;omega:gm≠g9) (marr mb M52))
     have V8:=qD (Blk.row_far P2.out (by have:=P2L.out;omega:gd≠g9) (marr mb M52))
     have RM8:Hid (MR (y19.setRow g9 (marr mb M52)) mb M52):=RM.out.row_move Q9.out (by have:=P1L.out;omega) (marr mb M52)
     have B8:=qD (below_row B.out hg9 (marr mb M52))
     clear Q9 P1 P2 RM B
     have Q9:=Q8
     have P1:=P8
     have P2:=V8
     have RM:=RM8
     have B:=B8
     clear Q8 P8 V8 RM8 B8
     generalize y19.setRow g9 (marr mb M52)=y20 at*
     clear hHeld
     refine hK.out _ _ ?_ fun hHeld=>?_
     ·(try dsimp only);exact⟨P1.out,P2.out⟩
     clear hK K
     try go_frame
     refine rU 10 rfl ?_
     try go_frame
     refine rD ?_ _
     refine NoPanic.normal ?_
     go_wp2_with fail
     go_meet
     exact⟨g9,mb,rfl,rfl,Q9.out,RM.out,P1.out,B.out⟩
   ·go_simp
    have hg9:w6.heap.size≤y13.heap.size:=B.out.size
    have Q9:Hid (Blk (y13.alloc (.cells (marr MA.zero Mv.zero) 35)) y13.heap.size 35 (marr MA.zero Mv.zero)):=Blk.new_at rfl
    replace P1:=qD (P1.out.alloc (.cells (marr MA.zero Mv.zero) 35))
    replace P2:=qD (P2.out.alloc (.cells (marr MA.zero Mv.zero) 35))
    replace P3:=qD (P3.out.alloc (.cells (marr MA.zero Mv.zero) 35))
    replace GS:=qD (GS.out.alloc (.cells (marr MA.zero Mv.zero) 35))
    replace B:=qD (B.out.alloc B.out.size (Obj.cells (marr MA.zero Mv.zero) 35))
    change K _ (y13.alloc (.cells (marr MA.zero Mv.zero) 35))
    generalize y13.alloc (.cells (marr MA.zero Mv.zero) 35)=y21 at*
    generalize y13.heap.size=g9 at*
    clear hHeld
    refine hK.out _ _ ?_ fun hHeld=>?_
    ·(try dsimp only);exact⟨P1.out,P2.out⟩
    clear hK K
    try go_frame
    refine rY 1 rfl fun K hK=>?_
    go_simp
    refine(plain_any y21).mono ?_
    rintro e3 y22 ⟨a9,rfl,hr,hb⟩
    replace P1:=qD (P1.out.step hb)
    replace P2:=qD (P2.out.step hb)
    replace P3:=qD (P3.out.step hb)
    replace GS:=qD (GS.out.step hb)
    replace Q9:=qD (Q9.out.step hb)
    have RP:=qD hr
    replace B:=qD (B.out.step' hb)
    clear hb hr
    (try go_wp2_with fail)
    clear hHeld
    refine hK.out _ _ ?_ fun hHeld=>?_
    ·(try dsimp only);exact⟨P1.out,P2.out⟩
    clear hK K
    try go_frame
    refine rY 4 rfl fun K hK=>?_
    go_simp
    have HC:=mgcopy_any M51 R51 a9 [(cD gf,vId)] (some ⟨g3,0,none⟩) 1 1 y22 (HT.out.step (Z6.out.step' B.out)) RP.out (by decide) (sl_one GS.out (rw_id P3.out)) (by omega) (by show 1≤reach;decide) rfl rfl rfl
    rw[show copyL R51 M51.sp M51.lo M51.hi ([(cD gf,vId)].map Prod.snd)=[putW ⟨#[99]⟩ vId] from copyL_id] at HC
    have HC2:=qD HC
    clear HC
    refine HC2.out.mono ?_
    rintro e3 y23 ⟨mb,rfl,hr,hb⟩
    replace P1:=qD (P1.out.step hb)
    replace P2:=qD (P2.out.step hb)
    replace P3:=qD (P3.out.step hb)
    replace GS:=qD (GS.out.step hb)
    replace Q9:=qD (Q9.out.step hb)
    replace RP:=qD (RP.out.step hb)
    have RM:=qD hr
    replace B:=qD (B.out.step' hb)
    clear hb hr HC2
    (try go_wp2_with fail)
    clear hHeld
    refine hK.out _ _ ?_ fun hHeld=>?_
    ·(try dsimp only);exact⟨P1.out,P2.out⟩
    clear hK K
    try go_frame
    refine rU 5 rfl ?_
    try go_frame
    refine rU 6 rfl ?_
    try go_frame
    refine rU 7 rfl ?_
    try go_frame
    refine rY 9 rfl fun K hK=>?_
    refine wp_store_row 35 _ _ rfl g9 (marr mb M52) rfl rfl 35 _ Q9.out (by rw[sizeM];rfl) rfl (marr_all _ _) ?_
    have Q8:=qD (Blk.row Q9.out (marr mb M52))
    have P8:=qD (Blk.row_far P1.out (by have:=P1L.out;omega:gm≠g9) (marr mb M52))
    have V8:=qD (Blk.row_far P2.out (by have:=P2L.out;omega:gd≠g9) (marr mb M52))
    have RM8:Hid (MR (y23.setRow g9 (marr mb M52)) mb M52):=RM.out.row_move Q9.out (by have:=P1L.out;omega) (marr mb M52)
    have B8:=qD (below_row B.out hg9 (marr mb M52))
    clear Q9 P1 P2 RM B
    have Q9:=Q8
    have P1:=P8
    have P2:=V8
    have RM:=RM8
    have B:=B8
    clear Q8 P8 V8 RM8 B8
    generalize y23.setRow g9 (marr mb M52)=y24 at*
    clear hHeld
    refine hK.out _ _ ?_ fun hHeld=>?_
    ·(try dsimp only);exact⟨P1.out,P2.out⟩
    clear hK K
    try go_frame
    refine rU 10 rfl ?_
    try go_frame
    refine rD ?_ _
    refine NoPanic.normal ?_
    go_wp2_with fail
    go_meet
    exact⟨g9,mb,rfl,rfl,Q9.out,RM.out,P1.out,B.out⟩
  ·go_simp
   have hg9:w6.heap.size≤v0.heap.size:=B.out.size
   have Q9:Hid (Blk (v0.alloc (.cells (marr MA.zero Mv.zero) 35)) v0.heap.size 35 (marr MA.zero Mv.zero)):=Blk.new_at rfl
   replace P1:=qD (P1.out.alloc (.cells (marr MA.zero Mv.zero) 35))
   replace P2:=qD (P2.out.alloc (.cells (marr MA.zero Mv.zero) 35))
   replace P3:=qD (P3.out.alloc (.cells (marr MA.zero Mv.zero) 35))
   replace B:=qD (B.out.alloc B.out.size (Obj.cells (marr MA.zero Mv.zero) 35))
   change K _ (v0.alloc (.cells (marr MA.zero Mv.zero) 35))
   generalize v0.alloc (.cells (marr MA.zero Mv.zero) 35)=y25 at*
   generalize v0.heap.size=g9 at*
   clear hHeld
   refine hK.out _ _ ?_ fun hHeld=>?_
   ·(try dsimp only);exact⟨P1.out,P2.out⟩
   clear hK K
   try go_frame
   refine rR [1,3] ?_
   refine rC (fun K hK=>?_) (rC (fun K hK=>?_) rN)
   ·go_simp
    refine(plain_any y25).mono ?_
    rintro e3 y26 ⟨a9,rfl,hr,hb⟩
    replace P1:=qD (P1.out.step hb)
    replace P2:=qD (P2.out.step hb)
    replace P3:=qD (P3.out.step hb)
    replace Q9:=qD (Q9.out.step hb)
    have RP:=qD hr
    replace B:=qD (B.out.step' hb)
    clear hb hr
    (try go_wp2_with fail)
    clear hHeld
    refine hK.out _ _ ?_ fun hHeld=>?_
    ·(try dsimp only);exact⟨P1.out,P2.out⟩
    clear hK K
    try go_frame
    refine rY 3 rfl fun K hK=>?_
    go_simp
    have GS:Hid (Blk (y26.alloc (.cells (cD gf).arr 45)) y26.heap.size 45 (cD gf).arr):=Blk.new_at rfl
    replace P1:=qD (P1.out.alloc (.cells (cD gf).arr 45))
    replace P2:=qD (P2.out.alloc (.cells (cD gf).arr 45))
    replace P3:=qD (P3.out.alloc (.cells (cD gf).arr 45))
    replace Q9:=qD (Q9.out.alloc (.cells (cD gf).arr 45))
    replace RP:=qD (RP.out.alloc (.cells (cD gf).arr 45))
    replace B:=qD (B.out.alloc B.out.size (Obj.cells (cD gf).arr 45))
    change K _ (y26.alloc (.cells (cD gf).arr 45))
    generalize y26.alloc (.cells (cD gf).arr 45)=y27 at*
    generalize y26.heap.size=g3 at*
    clear hHeld
    refine hK.out _ _ ?_ fun hHeld=>?_
    ·(try dsimp only);exact⟨P1.out,P2.out⟩
    clear hK K
    try go_frame
    refine rY 4 rfl fun K hK=>?_
    go_simp
    have HC:=mgcopy_any M51 R51 a9 [(cD gf,vId)] (some ⟨g3,0,none⟩) 1 1 y27 (HT.out.step (Z6.out.step' B.out)) RP.out (by decide) (sl_one GS.out (rw_id P3.out)) (by omega) (by show 1≤reach;decide) rfl rfl rfl
    rw[show copyL R51 M51.sp M51.lo M51.hi ([(cD gf,vId)].map Prod.snd)=[putW ⟨#[99]⟩ vId] from copyL_id] at HC
    have HC2:=qD HC
    clear HC
    refine HC2.out.mono ?_
    rintro e3 y28 ⟨mb,rfl,hr,hb⟩
    replace P1:=qD (P1.out.step hb)
    replace P2:=qD (P2.out.step hb)
    replace P3:=qD (P3.out.step hb)
    replace Q9:=qD (Q9.out.step hb)
    replace RP:=qD (RP.out.step hb)
    replace GS:=qD (GS.out.step hb)
    have RM:=qD hr
    replace B:=qD (B.out.step' hb)
    clear hb hr HC2
    (try go_wp2_with fail)
    clear hHeld
    refine hK.out _ _ ?_ fun hHeld=>?_
    ·(try dsimp only);exact⟨P1.out,P2.out⟩
    clear hK K
    try go_frame
    refine rU 5 rfl ?_
    try go_frame
    refine rU 6 rfl ?_
    try go_frame
    refine rU 7 rfl ?_
    try go_frame
    refine rY 9 rfl fun K hK=>?_
    refine wp_store_row 35 _ _ rfl g9 (marr mb M52) rfl rfl 35 _ Q9.out (by rw[sizeM];rfl) rfl (marr_all _ _) ?_
    have Q8:=qD (Blk.row Q9.out (marr mb M52))
    have P8:=qD (Blk.row_far P1.out (by have:=P1L.out;omega:gm≠g9) (marr mb M52))
    have V8:=qD (Blk.row_far P2.out (by have:=P2L.out;omega:gd≠g9) (marr mb M52))
    have RM8:Hid (MR (y28.setRow g9 (marr mb M52)) mb M52):=RM.out.row_move Q9.out (by have:=P1L.out;omega) (marr mb M52)
    have B8:=qD (below_row B.out hg9 (marr mb M52))
    clear Q9 P1 P2 RM B
    have Q9:=Q8
    have P1:=P8
    have P2:=V8
    have RM:=RM8
    have B:=B8
    clear Q8 P8 V8 RM8 B8
    generalize y28.setRow g9 (marr mb M52)=y29 at*
    clear hHeld
    refine hK.out _ _ ?_ fun hHeld=>?_
    ·(try dsimp only);exact⟨P1.out,P2.out⟩
    clear hK K
    try go_frame
    refine rU 10 rfl ?_
    try go_frame
    refine rD ?_ _
    refine NoPanic.normal ?_
    go_wp2_with fail
    go_meet
    exact⟨g9,mb,rfl,rfl,Q9.out,RM.out,P1.out,B.out⟩
   ·go_simp
    have GS:Hid (Blk (y25.alloc (.cells (cD gf).arr 45)) y25.heap.size 45 (cD gf).arr):=Blk.new_at rfl
    replace P1:=qD (P1.out.alloc (.cells (cD gf).arr 45))
    replace P2:=qD (P2.out.alloc (.cells (cD gf).arr 45))
    replace P3:=qD (P3.out.alloc (.cells (cD gf).arr 45))
    replace Q9:=qD (Q9.out.alloc (.cells (cD gf).arr 45))
    replace B:=qD (B.out.alloc B.out.size (Obj.cells (cD gf).arr 45))
    change K _ (y25.alloc (.cells (cD gf).arr 45))
    generalize y25.alloc (.cells (cD gf).arr 45)=y30 at*
    generalize y25.heap.size=g3 at*
    clear hHeld
    refine hK.out _ _ ?_ fun hHeld=>?_
    ·(try dsimp only);exact⟨P1.out,P2.out⟩
    clear hK K
    try go_frame
    refine rY 1 rfl fun K hK=>?_
    go_simp
    refine(plain_any y30).mono ?_
    rintro e3 y31 ⟨a9,rfl,hr,hb⟩
    replace P1:=qD (P1.out.step hb)
    replace P2:=qD (P2.out.step hb)
    replace P3:=qD (P3.out.step hb)
    replace Q9:=qD (Q9.out.step hb)
    replace GS:=qD (GS.out.step hb)
    have RP:=qD hr
    replace B:=qD (B.out.step' hb)
    clear hb hr
    (try go_wp2_with fail)
    clear hHeld
    refine hK.out _ _ ?_ fun hHeld=>?_
    ·(try dsimp only);exact⟨P1.out,P2.out⟩
    clear hK K
    try go_frame
    refine rY 4 rfl fun K hK=>?_
    go_simp
    have HC:=mgcopy_any M51 R51 a9 [(cD gf,vId)] (some ⟨g3,0,none⟩) 1 1 y31 (HT.out.step (Z6.out.step' B.out)) RP.out (by decide) (sl_one GS.out (rw_id P3.out)) (by omega) (by show 1≤reach;decide) rfl rfl rfl
    rw[show copyL R51 M51.sp M51.lo M51.hi ([(cD gf,vId)].map Prod.snd)=[putW ⟨#[99]⟩ vId] from copyL_id] at HC
    have HC2:=qD HC
    clear HC
    refine HC2.out.mono ?_
    rintro e3 y32 ⟨mb,rfl,hr,hb⟩
    replace P1:=qD (P1.out.step hb)
    replace P2:=qD (P2.out.step hb)
    replace P3:=qD (P3.out.step hb)
    replace Q9:=qD (Q9.out.step hb)
    replace GS:=qD (GS.out.step hb)
    replace RP:=qD (RP.out.step hb)
    have RM:=qD hr
    replace B:=qD (B.out.step' hb)
    clear hb hr HC2
    (try go_wp2_with fail)
    clear hHeld
    refine hK.out _ _ ?_ fun hHeld=>?_
    ·(try dsimp only);exact⟨P1.out,P2.out⟩
    clear hK K
    try go_frame
    refine rU 5 rfl ?_
    try go_frame
    refine rU 6 rfl ?_
    try go_frame
    refine rU 7 rfl ?_
    try go_frame
    refine rY 9 rfl fun K hK=>?_
    refine wp_store_row 35 _ _ rfl g9 (marr mb M52) rfl rfl 35 _ Q9.out (by rw[sizeM];rfl) rfl (marr_all _ _) ?_
    have Q8:=qD (Blk.row Q9.out (marr mb M52))
    have P8:=qD (Blk.row_far P1.out (by have:=P1L.out;omega:gm≠g9) (marr mb M52))
    have V8:=qD (Blk.row_far P2.out (by have:=P2L.out;omega:gd≠g9) (marr mb M52))
    have RM8:Hid (MR (y32.setRow g9 (marr mb M52)) mb M52):=RM.out.row_move Q9.out (by have:=P1L.out;omega) (marr mb M52)
    have B8:=qD (below_row B.out hg9 (marr mb M52))
    clear Q9 P1 P2 RM B
    have Q9:=Q8
    have P1:=P8
    have P2:=V8
    have RM:=RM8
    have B:=B8
    clear Q8 P8 V8 RM8 B8
    generalize y32.setRow g9 (marr mb M52)=y33 at*
    clear hHeld
    refine hK.out _ _ ?_ fun hHeld=>?_
    ·(try dsimp only);exact⟨P1.out,P2.out⟩
    clear hK K
    try go_frame
    refine rU 10 rfl ?_
    try go_frame
    refine rD ?_ _
    refine NoPanic.normal ?_
    go_wp2_with fail
    go_meet
    exact⟨g9,mb,rfl,rfl,Q9.out,RM.out,P1.out,B.out⟩
 case rest=>
  obtain⟨g9,mb,rfl,rfl,hq,hm,hp,hb⟩:=hcut
  have Q9:=qD hq
  have RM:=qD hm
  clear P1
  have P1:=qD hp
  have ZC:=qD (Z6.out.step' hb)
  clear hq hm hp hb Z6 P2 P3 P1L P2L
  generalize wc=w7 at*
  have HL:=qD (load_any M52 mb w7 RM.out rfl (by decide) (by decide))
  go_wp2_with (refine wpList_load_row rfl 35 _ rfl g9 rfl _ _ _ _ Q9.out Tryz.underlying35 rfl (by rw[sizeM];rfl) ?_)
  refine HL.out.mono ?_
  rintro e w8 ⟨LA,ln,lc,ls,rfl,hls,hws,hb⟩
  have hl1:ls.length=1:=by
   have:=congrArg List.length hls
   simpa using this
  obtain⟨⟨wc1,wt1⟩,rfl⟩:∃p,ls=[p]:=List.length_eq_one_iff.1 hl1
  have hwt:wt1=putW ⟨#[99]⟩ vId:=by simpa using hls
  subst hwt
  obtain rfl:ln=1:=hws.sr.ln
  obtain⟨bl,ol,rfl,_,hel⟩:=hws.sr.el (by omega)
  have hrw:=hws.el _ (List.mem_singleton.2 rfl)
  have e0:=hel 0 _ rfl 0 _ rfl
  have e77:=hel 0 (wc1,putW ⟨#[99]⟩ vId) rfl 77 (.bool wc1.si) rfl
  have hk1:wc1.kd=2:=hrw.kd
  have hs1:wc1.si=true:=hrw.si
  rw[hk1] at e0
  rw[hs1] at e77
  simp only[Nat.zero_mul,Nat.add_zero] at e0 e77
  have E0:=qD e0
  have E77:=qD e77
  have ZD:=qD (ZC.out.step' hb)
  replace P1:=qD (P1.out.step hb)
  replace Q9:=qD (Q9.out.step hb)
  clear hls hws hb hel hrw hk1 hs1 e0 e77 hl1 ZC HL RM
  go_upto_region 6 with fail
  have MZ:Hid (Below w8.heap.size w8 (w8.alloc (.cells (marr MA.zero ⟨⟨#[99]⟩,ByteArray.empty,ByteArray.empty,0,1,2,[],[]⟩) 35))):=qD ((Below.refl _ _).alloc (qL) _)
  change Code.wp _ _ _ _ (w8.alloc (.cells (marr MA.zero ⟨⟨#[99]⟩,ByteArray.empty,ByteArray.empty,0,1,2,[],[]⟩) 35))
  generalize w8.alloc (.cells (marr MA.zero ⟨⟨#[99]⟩,ByteArray.empty,ByteArray.empty,0,1,2,[],[]⟩) 35)=w9 at*
  have c0:w9.cell? ⟨bl,ol,none⟩=some (.int .i64 2):=(MZ.out.cell (World.block_lt_of_cell? w8 _ E0.out)).trans E0.out
  have c77:w9.cell? ⟨bl,ol+77,none⟩=some (.bool true):=(MZ.out.cell (World.block_lt_of_cell? w8 _ E77.out)).trans E77.out
  replace P1:=qD (P1.out.step MZ.out)
  replace Q9:=qD (Q9.out.step MZ.out)
  have m3:w9.cell? ⟨gm,3,none⟩=some (.int .i64 0):=P1.out.cell 3
  have m4:w9.cell? ⟨gm,4,none⟩=some (.int .i64 1):=P1.out.cell 4
  have m5:w9.cell? ⟨gm,5,none⟩=some (.int .i64 1):=P1.out.cell 5
  have n5:w9.cell? ⟨g9,5,none⟩=some (.int .i64 2):=Q9.out.cell 5
  have ZE:=qD (ZD.out.step' MZ.out)
  clear E0 E77 MZ ZD P1 Q9
  go_wp2_with fail
  go_ret
  exact⟨rfl,ZE.out⟩
theorem call_any(n:Nat)(R0:Ro)(M:Mv)(ma:MA)(R:Ro)(a:RA)(o:OpX)(w:World)(hT:Tabs w)(h0:0<w.heap.size)(hs:StR n R0 M ma R)(hkf:KeyF R)(hn:n≤40)(hM:MR w ma M)(hR:RR w a R)(hO:IsOp w o)(hok:OpOk o):
 Calls Tryz.prog 9 #[mval ma M,rval a R,.agg (recOp o).toArray] w (CallOk n R0 M w):=by
 by_cases h1:o.k=1
 ·exact call1_any n R0 M ma R a o w hT h0 hs hkf hn hM hR hO hok h1
 by_cases h2:o.k=2
 ·exact call2_any n R0 M ma R a o w hT h0 hs hkf hn hM hR hO hok h2
 by_cases h3:o.k=3
 ·exact call3_any n R0 M ma R a o w hT h0 hs hkf hn hM hR hO hok h3
 by_cases h4:o.k=4
 ·exact call4_any n R0 M ma R a o w hT h0 hs hkf hn hM hR hO hok h4
 by_cases h5:o.k=5
 ·exact call5_any n R0 M ma R a o w hT h0 hs hkf hn hM hR hO hok h5
 exact call0_any n R0 M ma R a o w hT h0 hs hkf hn hM hR hO hok ⟨h1,h2,h3,h4,h5⟩
theorem keyF_of{R:Ro}(h:VR R):KeyF R:=by
 have hk:=h.ke
 have h1:=keyE_partsM hk
 refine⟨?_,h1.1,h1.2,?_⟩
 ·unfold keyE at hk
  split at hk
  ·rename_i h1;exact absurd hk h1
  ·split at hk
   ·cases hk
   ·rename_i h2
    rcases Nat.eq_zero_or_pos R.ks.length with h|h
    ·exact absurd (.inl h) h2
    ·exact h
 ·unfold keyE at hk
  split at hk
  ·rename_i h1;exact absurd hk h1
  ·rename_i h1
   have h3:ordE R.ks=0:=by simpa using h1
   unfold ordE at h3
   split at h3
   ·cases h3
   ·exact ordL_path R.ks [] h3
theorem stR_start{R:Ro}{lo:ByteArray}{t:Int}{M:Mv}(hv:VR R)(hl:lo.size≤reach)(h:startR R lo t=(M,0)):StR 0 R M MA.zero R:=by
 have h2:(startR R lo t).2=0:=by rw[h]
 have s:=startR_ok h2
 rw[h] at s
 refine⟨by rw[s.lo];exact hl,by rw[s.cp];exact Nat.zero_le _,by rw[s.ch];exact qL,fun x hx=>?_,fun _=>⟨s.cp,s.ch,rfl⟩,fun _=>⟨by rw[s.lo,s.tt];exact s.gi,Nat.le_trans hv.ln (by omega)⟩,rfl,rfl,rfl⟩
 rw[s.cp,s.ch] at hx
 simp at hx
theorem startR_zero{R:Ro}{lo:ByteArray}{t:Int}:(∀x,x∈(startR R lo t).1.cp∨x∈(startR R lo t).1.ch→SmW x)∧((startR R lo t).1.sp=R.sp∨(startR R lo t).1.sp=ByteArray.empty)∧(startR R lo t).1.cp=[]∧(startR R lo t).1.ch=[]:=by
 unfold startR
 split
 ·exact⟨fun x hx=>by simp[Mv.zero] at hx,.inr rfl,rfl,rfl⟩
 split
 ·exact⟨fun x hx=>by simp[Mv.zero] at hx,.inr rfl,rfl,rfl⟩
 split
 ·exact⟨fun x hx=>by simp[Mv.zero] at hx,.inr rfl,rfl,rfl⟩
 split
 ·exact⟨fun x hx=>by simp[Mv.zero] at hx,.inr rfl,rfl,rfl⟩
 ·exact⟨fun x hx=>by simp at hx,.inl rfl,rfl,rfl⟩
theorem sizeRun:(Tryz.prog.info? 30).map (·.size)=some 9:=by kernel_rfl
theorem migrateRuns_walk(R:Ro)(a:RA)(lo:ByteArray)(tt:Int)(OA:Option Addr)(on oc:Nat)(os:List OpX)(w:World)(hT:Tabs w)(h:RR w a R)(hlo:lo.size≤reach)(hO:OS w OA on oc os):
 Calls Tryz.prog 3 #[.agg #[.string R.sp,.slice a.KA a.kn a.kc,.bool R.ha,.int .i64 R.ep,.int .i64 R.ver,.slice a.CA a.cn a.cc,.string lo,.int .i64 tt,.slice OA on oc]] w fun e w'=>e=.returned (.bool true)∧Below w.heap.size w w':=by
 obtain⟨KA,kn,kc,CA,cn,cc⟩:=a
 have HT:=qD hT
 have HR:=qD h
 have HLO:=qD hlo
 have HO:=qD hO
 have HON:Hid (on=os.length):=hO.sr.ln
 have HAW:=qD fun(wr:World) (hb:Below w.heap.size w wr)=>awake51_any wr (hT.step hb)
 clear hT h hlo hO
 have B0:Hid (Blk (w.alloc (.cells (runA KA kn kc CA cn cc R lo tt OA on oc) 30)) w.heap.size 30 (runA KA kn kc CA cn cc R lo tt OA on oc)):=Blk.new_at rfl
 have BE:Hid (Below w.heap.size w (w.alloc (.cells (runA KA kn kc CA cn cc R lo tt OA on oc) 30))):=(Below.refl _ _).alloc (qL) _
 go_enter Tryz.func3,Tryz.ntmps3
 go_upto_region 1 with fail
 change Code.wp _ _ _ _ (w.alloc (.cells (runA KA kn kc CA cn cc R lo tt OA on oc) 30))
 generalize w.alloc (.cells (runA KA kn kc CA cn cc R lo tt OA on oc) 30)=wa at*
 have HG:=qD (good_any R KA kn kc CA cn cc lo tt OA on oc os wa (HR.out.step BE.out) (HO.out.step BE.out))
 go_wp2_with (refine wpList_load_row rfl 30 _ rfl w.heap.size rfl _ _ _ _ B0.out Tryz.underlying30 rfl (by rw[sizeRun];rfl) ?_)
 refine HG.out.mono ?_
 rintro e w1 ⟨bb,rfl,hbb,hb⟩
 have HBB:=qD hbb
 have B1:=qD (B0.out.step hb)
 have E1:=qD (BE.out.step' hb)
 clear hb hbb HG B0 BE
 cases bb
 ·go_wp2_with fail
  refine(HAW.out _ E1.out).mono ?_
  rintro e wz ⟨rfl,hbz⟩
  have BZ:=qD (Below.step' E1.out hbz)
  clear hbz
  go_wp2_with fail
  go_ret
  exact⟨rfl,BZ.out⟩
 have HOK:=qD (HBB.out rfl)
 have HKF0:=qD (keyF_of HOK.out.1)
 obtain⟨⟨M0,z⟩,hst⟩:∃r,startR R lo tt=r:=⟨_,rfl⟩
 have hz0:=@startR_zero R lo tt
 rw[hst] at hz0
 have HZ0:=qD hz0
 have HSP0:Hid (M0.sp.size≤reach):=by
  rcases hz0.2.1 with h|h
  ·rw[Hid,show M0.sp=R.sp from h];exact HR.out.sp
  ·rw[Hid,show M0.sp=ByteArray.empty from h];exact Nat.zero_le _
 have HS1:Hid (∀y:World,Below w.heap.size w y→Calls Tryz.prog 6 #[.agg #[.string R.sp,.slice KA kn kc,.bool R.ha,.int .i64 R.ep,.int .i64 R.ver,.slice CA cn cc],.string lo,.int .i64 tt] y fun e w'=>e=.returned (.tuple #[.agg (marr MA.zero M0),.int .i64 z])∧Below y.heap.size y w'):=qD fun y hb=>by
  have h:=start_any R ⟨KA,kn,kc,CA,cn,cc⟩ lo tt y (HR.out.step hb)
  rw[hst] at h
  exact h
 have HS2:Hid (∀y:World,Below w.heap.size w y→Calls Tryz.prog 7 #[.agg #[.string R.sp,.slice KA kn kc,.bool R.ha,.int .i64 R.ep,.int .i64 R.ver,.slice CA cn cc],.string lo,.int .i64 tt] y fun e w'=>e=.returned (.tuple #[.agg (marr MA.zero M0),.int .i64 z])∧Below y.heap.size y w'):=qD fun y hb=>by
  have h:=rstart51_any R ⟨KA,kn,kc,CA,cn,cc⟩ lo tt y (HR.out.step hb)
  rw[hst] at h
  exact h
 have HST:=qD hst
 have HM0:Hid (∀y:World,MR y MA.zero M0):=qD fun y=>⟨HSP0.out,⟨[],hz0.2.2.1.symm,WS.nil⟩,⟨[],hz0.2.2.2.symm,WS.nil⟩⟩
 clear hst hz0
 have x0:w1.cell? ⟨w.heap.size,0,none⟩=some (.string R.sp):=B1.out.cell 0
 have x1:w1.cell? ⟨w.heap.size,1,none⟩=some (.slice KA kn kc):=B1.out.cell 1
 have x2:w1.cell? ⟨w.heap.size,2,none⟩=some (.bool R.ha):=B1.out.cell 2
 have x3:w1.cell? ⟨w.heap.size,3,none⟩=some (.int .i64 R.ep):=B1.out.cell 3
 have x4:w1.cell? ⟨w.heap.size,4,none⟩=some (.int .i64 R.ver):=B1.out.cell 4
 have x5:w1.cell? ⟨w.heap.size,5,none⟩=some (.slice CA cn cc):=B1.out.cell 5
 have x6:w1.cell? ⟨w.heap.size,6,none⟩=some (.string lo):=B1.out.cell 6
 have x7:w1.cell? ⟨w.heap.size,7,none⟩=some (.int .i64 tt):=B1.out.cell 7
 have HC1:=qD (HS1.out w1 E1.out)
 go_wp2_with fail
 refine HC1.out.mono ?_
 rintro e w2 ⟨rfl,hb⟩
 have B2:=qD (B1.out.step hb)
 have E2:=qD (E1.out.step' hb)
 clear hb x0 x1 x2 x3 x4 x5 x6 x7 B1 E1 HC1 HS1
 go_upto_region 4 with fail
 change Code.wp _ _ _ _ (w2.alloc (.cells (marr MA.zero M0) 35))
 have D3:Hid (Blk (w2.alloc (.cells (marr MA.zero M0) 35)) w2.heap.size 35 (marr MA.zero M0)):=Blk.new_at rfl
 have B3:=qD (B2.out.alloc (.cells (marr MA.zero M0) 35))
 have E3:=qD (E2.out.alloc E2.out.size (Obj.cells (marr MA.zero M0) 35))
 clear B2 E2
 generalize w2.alloc (.cells (marr MA.zero M0) 35)=w3 at*
 generalize w2.heap.size=g3 at*
 have x0:w3.cell? ⟨w.heap.size,0,none⟩=some (.string R.sp):=B3.out.cell 0
 have x1:w3.cell? ⟨w.heap.size,1,none⟩=some (.slice KA kn kc):=B3.out.cell 1
 have x2:w3.cell? ⟨w.heap.size,2,none⟩=some (.bool R.ha):=B3.out.cell 2
 have x3:w3.cell? ⟨w.heap.size,3,none⟩=some (.int .i64 R.ep):=B3.out.cell 3
 have x4:w3.cell? ⟨w.heap.size,4,none⟩=some (.int .i64 R.ver):=B3.out.cell 4
 have x5:w3.cell? ⟨w.heap.size,5,none⟩=some (.slice CA cn cc):=B3.out.cell 5
 have x6:w3.cell? ⟨w.heap.size,6,none⟩=some (.string lo):=B3.out.cell 6
 have x7:w3.cell? ⟨w.heap.size,7,none⟩=some (.int .i64 tt):=B3.out.cell 7
 have HC1:=qD (HS2.out w3 E3.out)
 go_wp2_with fail
 refine HC1.out.mono ?_
 rintro e w4 ⟨rfl,hb⟩
 have B4:=qD (B3.out.step hb)
 have D4:=qD (D3.out.step hb)
 have E4:=qD (E3.out.step' hb)
 clear hb x0 x1 x2 x3 x4 x5 x6 x7 B3 E3 D3 HC1 HS2
 go_upto_region 5 with fail
 change Code.wp _ _ _ _ (w4.alloc (.cells (marr MA.zero M0) 35))
 have F5:Hid (Blk (w4.alloc (.cells (marr MA.zero M0) 35)) w4.heap.size 35 (marr MA.zero M0)):=Blk.new_at rfl
 have F3:=qD (D4.out.alloc (.cells (marr MA.zero M0) 35))
 have FX:=qD (B4.out.alloc (.cells (marr MA.zero M0) 35))
 have FE:=qD (E4.out.alloc E4.out.size (Obj.cells (marr MA.zero M0) 35))
 have HL5:Hid (w.heap.size≤w4.heap.size):=E4.out.size
 have HNX5:Hid (w.heap.size≠w4.heap.size):=by have:=B4.out.lt;unfold Hid;omega
 clear B4 D4 E4
 generalize w4.alloc (.cells (marr MA.zero M0) 35)=w5 at*
 generalize w4.heap.size=g5 at*
 obtain⟨m0,m1,m2,m3,m4,m5,m6,m7⟩:=blk_mv F3.out
 obtain⟨n0,n1,n2,n3,n4,n5,n6,n7⟩:=blk_mv F5.out
 have HC1:=qD (same51_eq M0 MA.zero MA.zero w5 (HM0.out w5) (HM0.out w5) HZ0.out.1)
 go_wp2_with fail
 refine HC1.out.mono ?_
 rintro e w6 ⟨rfl,hb⟩
 have G5:=qD (F5.out.step hb)
 have GX:=qD (FX.out.step hb)
 have GE:=qD (FE.out.step' hb)
 clear hb m0 m1 m2 m3 m4 m5 m6 m7 n0 n1 n2 n3 n4 n5 n6 n7 F3 F5 FX FE HC1
 have x0:w6.cell? ⟨w.heap.size,0,none⟩=some (.string R.sp):=GX.out.cell 0
 have x1:w6.cell? ⟨w.heap.size,1,none⟩=some (.slice KA kn kc):=GX.out.cell 1
 have x2:w6.cell? ⟨w.heap.size,2,none⟩=some (.bool R.ha):=GX.out.cell 2
 have x3:w6.cell? ⟨w.heap.size,3,none⟩=some (.int .i64 R.ep):=GX.out.cell 3
 have x4:w6.cell? ⟨w.heap.size,4,none⟩=some (.int .i64 R.ver):=GX.out.cell 4
 have x5:w6.cell? ⟨w.heap.size,5,none⟩=some (.slice CA cn cc):=GX.out.cell 5
 go_upto_region 8 with fail
 change Code.wp _ _ _ _ (w6.alloc (.cells (rarr ⟨KA,kn,kc,CA,cn,cc⟩ R) 27))
 have I7:Hid (Blk (w6.alloc (.cells (rarr ⟨KA,kn,kc,CA,cn,cc⟩ R) 27)) w6.heap.size 27 (rarr ⟨KA,kn,kc,CA,cn,cc⟩ R)):=Blk.new_at rfl
 have I5:=qD (G5.out.alloc (.cells (rarr ⟨KA,kn,kc,CA,cn,cc⟩ R) 27))
 have IX:=qD (GX.out.alloc (.cells (rarr ⟨KA,kn,kc,CA,cn,cc⟩ R) 27))
 have IE:=qD (GE.out.alloc GE.out.size (Obj.cells (rarr ⟨KA,kn,kc,CA,cn,cc⟩ R) 27))
 have HL7:Hid (w.heap.size≤w6.heap.size):=GE.out.size
 have HNX7:Hid (w.heap.size≠w6.heap.size):=by have:=GX.out.lt;unfold Hid;omega
 have HN57:Hid (g5≠w6.heap.size):=by have:=G5.out.lt;unfold Hid;omega
 have HP5:Hid (0<g5):=by have h1:=HL5.out;have h2:=HNX5.out;unfold Hid;omega
 have HP7:Hid (0<w6.heap.size):=by have h1:=HL7.out;have h2:=HNX7.out;unfold Hid;omega
 clear x0 x1 x2 x3 x4 x5 G5 GX GE
 generalize w6.alloc (.cells (rarr ⟨KA,kn,kc,CA,cn,cc⟩ R) 27)=w7 at*
 generalize w6.heap.size=g7 at*
 by_cases hz:z=0
 rotate_left
 ·have hzb:(z==0)=false:=by simpa using hz
  have x8:w7.cell? ⟨w.heap.size,8,none⟩=some (.slice OA on oc):=IX.out.cell 8
  clear hz
  go_upto_region 9 with fail
  go_loopw [8,9] (fun v8 _ wr=>v8=.int .i64 0∧wr=w7) (fun _ _ _=>0)
  case atStart=>exact⟨rfl,rfl⟩
  case round=>
   obtain⟨rfl,hw⟩:=hrel
   rw[hw]
   clear hw
   by_cases hon:0<on
   ·have h1:(0:Int)<(on:Int):=by omega
    go_wp2_with fail
    refine(HAW.out _ IE.out).mono ?_
    rintro e wz ⟨rfl,hbz⟩
    have BZ:=qD (Below.step' IE.out hbz)
    clear hbz
    go_wp2_with fail
    go_ret
    exact⟨rfl,BZ.out⟩
   ·have h1:¬(0:Int)<(on:Int):=by omega
    go_wp2_with fail
    refine(HAW.out _ IE.out).mono ?_
    rintro e wz ⟨rfl,hbz⟩
    have BZ:=qD (Below.step' IE.out hbz)
    clear hbz
    go_wp2_with fail
    go_ret
    exact⟨rfl,BZ.out⟩
 subst hz
 have HS0:=qD (stR_start HOK.out.1 HLO.out HST.out)
 have HRR0:=qD (HR.out.step IE.out)
 have HMR0:=qD (HM0.out w7)
 go_upto_region 9 with fail
 go_loopw [8,9] (fun v8 _ wr=>∃(i:Nat) (M:Mv) (ma:MA) (R1:Ro) (a1:RA),i≤on∧v8=.int .i64 i∧Blk wr g5 35 (marr ma M)∧Blk wr g7 27 (rarr a1 R1)∧Blk wr w.heap.size 30 (runA KA kn kc CA cn cc R lo tt OA on oc)∧MR wr ma M∧RR wr a1 R1∧StR i R M ma R1∧Below w.heap.size w wr) (fun v8 _ _=>on-(intOf v8).toNat)
 case atStart=>exact⟨0,M0,MA.zero,R,⟨KA,kn,kc,CA,cn,cc⟩,Nat.zero_le _,rfl,I5.out,I7.out,IX.out,HMR0.out,HRR0.out,HS0.out,IE.out⟩
 case round=>
  clear I5 I7 IX IE HMR0 HRR0 HS0
  obtain⟨i,M,ma,R1,a1,hi,rfl,b5,b7,bx,hmr,hrr,hsr,hbe⟩:=hrel
  have B5:=qD b5
  have B7:=qD b7
  have BX:=qD bx
  have MRP:=qD hmr
  have RRP:=qD hrr
  have HS1:=qD hsr
  have WE:=qD hbe
  clear b5 b7 bx hmr hrr hsr hbe
  have x8:wr.cell? ⟨w.heap.size,8,none⟩=some (.slice OA on oc):=BX.out.cell 8
  by_cases hlt:i<on
  rotate_left
  ·have hin:¬(i:Int)<(on:Int):=by omega
   go_wp2_with fail
   refine(HAW.out _ WE.out).mono ?_
   rintro e wz ⟨rfl,hbz⟩
   have BZ:=qD (Below.step' WE.out hbz)
   clear hbz
   go_wp2_with fail
   go_ret
   exact⟨rfl,BZ.out⟩
  obtain⟨o,ho⟩:∃o,os[i]?=some o:=⟨_,List.getElem?_eq_getElem (by have:=HON.out;omega)⟩
  obtain⟨b,off,hA,hbl,hc⟩:=HO.out.sr.el (by omega)
  subst hA
  have RG0:w.rangeAt b (off+i*80) (recOp o):=fun j v hj=>hc i o ho j v hj
  have HOP:=qD (HO.out.is o (List.mem_of_getElem? ho))
  have HOO:=qD (HOK.out.2.2 o (List.mem_of_getElem? ho))
  have HLN:Hid ((recOp o).length=80):=recOp_len HOP.out
  have HKF:Hid (KeyF R):=HKF0
  have HKF1:Hid (KeyF R1):=⟨by rw[HS1.out.ks];exact HKF.out.pos,by rw[HS1.out.ks];exact HKF.out.le,by rw[HS1.out.ks,HS1.out.ha];exact HKF.out.one,by rw[HS1.out.ks];exact HKF.out.pa⟩
  have HPA1:Hid (∀q∈R1.ks,pathB q.p=true):=HKF1.out.pa
  have HKP:Hid (0<R1.ks.length):=HKF1.out.pos
  have HNB5:Hid (b≠g5):=by have h1:=HL5.out;have h2:=HNX5.out;unfold Hid;omega
  have HNB7:Hid (b≠g7):=by have h1:=HL7.out;have h2:=HNX7.out;unfold Hid;omega
  have KSS:Hid (∀y:World,Below wr.heap.size wr y→(fun w'=>w'.cell? ⟨w.heap.size,8,none⟩=some (.slice (some ⟨b,off,none⟩) on oc)∧w'.rangeAt b (off+i*80) (recOp o)) y):=qD fun y hb=>⟨(BX.out.step hb).cell 8,rangeAt_step RG0 (WE.out.step' hb)⟩
  have hi40:i≤40:=by have h1:=HOK.out.2.1;have h2:=HON.out;omega
  have HI40:=qD hi40
  have HCALL:Hid (∀y:World,Below wr.heap.size wr y→Calls Tryz.prog 9 #[.agg (marr ma M),.agg (rarr a1 R1),.agg (recOp o).toArray] y (CallOk i R M y)):=qD fun y hb=>by
   have hw:=WE.out.step' hb
   exact call_any i R M ma R1 a1 o y (HT.out.step hw) (by have:=(B5.out.step hb).lt;omega) HS1.out HKF1.out HI40.out (MRP.out.step hb) (RRP.out.step hb) (HOP.out.step hw) HOO.out
  have i0:(0:Int)≤(i:Int):=by omega
  have i1:(i:Int)<(on:Int):=by omega
  have i4:(i:Int)≤40:=by omega
  clear ho hc RG0 hbl hi40
  go_upto_region 12 with fail
  clear x8
  have B:Hid (Below wr.heap.size wr wr.drew):=qD ((Below.refl wr.heap.size wr).drew)
  refine wp_region_noPanic ?_
  refine wp_region_held_drew (S:=(fun w'=>w'.cell? ⟨w.heap.size,8,none⟩=some (.slice (some ⟨b,off,none⟩) on oc)∧w'.rangeAt b (off+i*80) (recOp o))) (by kernel_rfl) ?_ (fun hHeld=>?_)
  ·(try dsimp only);exact KSS.out _ B.out
  generalize wr.drew=v0 at*
  refine rU 2 rfl ?_
  try go_frame
  refine rU 3 rfl ?_
  try go_frame
  refine rU 4 rfl ?_
  try go_frame
  refine rU 5 rfl ?_
  try go_frame
  refine rT (v:=.agg (recOp o).toArray) 6 rfl ?_ ?_
  ·intro w' hSw;exact exec_mid rfl rfl hSw.2 Tryz.underlying69 rfl (by rw[sizeOp,HLN.out])
  try go_frame
  refine rR [0,1] ?_
  refine rC (fun K hK=>?_) (rC (fun K hK=>?_) rN)
  ·refine wp_load_row 35 _ rfl g5 rfl _ _ _ _ (B5.out.step B.out) Tryz.underlying35 rfl (by rw[sizeM];rfl) ?_
   clear hHeld
   refine hK.out _ _ ?_ fun hHeld=>?_
   ·(try dsimp only);exact KSS.out _ B.out
   clear hK K
   try go_frame
   refine rY 1 rfl fun K hK=>?_
   refine wp_load_row 27 _ rfl g7 rfl _ _ _ _ (B7.out.step B.out) Tryz.underlying27 rfl (by rw[sizeR];rfl) ?_
   clear hHeld
   refine hK.out _ _ ?_ fun hHeld=>?_
   ·(try dsimp only);exact KSS.out _ B.out
   clear hK K
   try go_frame
   refine rY 7 rfl fun K hK=>?_
   go_simp
   refine(HCALL.out _ B.out).mono ?_
   rintro e3 y1 ⟨M2,mb,R2,b2,rfl,hst,hsm,hmr,hrr,hb⟩
   have ST2:=qD hst
   have SM2:=qD hsm
   have MR2:=qD hmr
   have RR2:=qD hrr
   replace B:=qD (B.out.step' hb)
   clear hb hst hsm hmr hrr
   (try go_wp2_with fail)
   clear hHeld
   refine hK.out _ _ ?_ fun hHeld=>?_
   ·(try dsimp only);exact KSS.out _ B.out
   clear hK K
   try go_frame
   refine rU 8 rfl ?_
   try go_frame
   refine rU 9 rfl ?_
   try go_frame
   refine rU 10 rfl ?_
   try go_frame
   refine rU 11 rfl ?_
   try go_frame
   refine rY 12 rfl fun K hK=>?_
   refine wp_store_row 35 _ _ rfl g5 (marr mb M2) rfl rfl 35 _ (B5.out.step B.out) (by rw[sizeM];rfl) rfl (marr_all _ _) ?_
   have V5:=qD (Blk.row (B5.out.step B.out) (marr mb M2))
   have V7:=qD (Blk.row_far (B7.out.step B.out) HN57.out.symm (marr mb M2))
   have VX:=qD (Blk.row_far (BX.out.step B.out) HNX5.out (marr mb M2))
   have VM:=qD (MR2.out.row_move (B5.out.step B.out) HP5.out (marr mb M2))
   have HPA2:Hid (∀q∈R2.ks,pathB q.p=true):=by rw[Hid,ST2.out.ks];exact HKF.out.pa
   have VR:=qD (RR2.out.row_mv HPA2.out (B5.out.step B.out) (c:=mb) SM2.out)
   have VO:=qD ((RRP.out.step B.out).row_mv HPA1.out (B5.out.step B.out) (c:=mb) SM2.out)
   have VE:=qD (below_row (WE.out.step' B.out) HL5.out (marr mb M2))
   have VG:Hid ((y1.setRow g5 (marr mb M2)).rangeAt b (off+i*80) (recOp o)):=rangeAt_row (KSS.out _ B.out).2 HNB5.out (marr mb M2)
   generalize y1.setRow g5 (marr mb M2)=y2 at*
   clear hHeld
   refine hK.out _ _ ?_ fun hHeld=>?_
   ·(try dsimp only);exact⟨VX.out.cell 8,VG.out⟩
   clear hK K
   try go_frame
   refine rY 13 rfl fun K hK=>?_
   refine wp_store_row 27 _ _ rfl g7 (rarr b2 R2) rfl rfl 27 _ V7.out (by rw[sizeR];rfl) rfl (rarr_all _ _) ?_
   have X7:=qD (Blk.row V7.out (rarr b2 R2))
   have X5:=qD (Blk.row_far V5.out HN57.out (rarr b2 R2))
   have XX:=qD (Blk.row_far VX.out HNX7.out (rarr b2 R2))
   have XM:=qD (VM.out.row_ro V7.out HP7.out (rarr b2 R2))
   have XR:=qD (VR.out.keep_r HPA2.out (size_setRowM _ _ (rarr b2 R2)) (fun _ hk=>setRow_other _ _ _ _ hk) V7.out VO.out HKP.out (by rw[show R1.sp=R2.sp from HS1.out.sp.trans ST2.out.sp.symm];exact X7.out.cell 0))
   have XE:=qD (below_row VE.out HL7.out (rarr b2 R2))
   have XG:Hid ((y2.setRow g7 (rarr b2 R2)).rangeAt b (off+i*80) (recOp o)):=rangeAt_row VG.out HNB7.out (rarr b2 R2)
   generalize y2.setRow g7 (rarr b2 R2)=y3 at*
   clear hHeld
   refine hK.out _ _ ?_ fun hHeld=>?_
   ·(try dsimp only);exact⟨XX.out.cell 8,XG.out⟩
   clear hK K
   try go_frame
   refine rU 14 rfl ?_
   try go_frame
   refine rD ?_ _
   refine NoPanic.normal ?_
   go_wp2_with fail
   go_roundw
   case rel=>exact⟨i+1,M2,mb,R2,b2,by omega,by go_num,X5.out,X7.out,XX.out,XM.out,XR.out,ST2.out,XE.out⟩
   case measure=>simp[intOf];omega
  ·refine wp_load_row 27 _ rfl g7 rfl _ _ _ _ (B7.out.step B.out) Tryz.underlying27 rfl (by rw[sizeR];rfl) ?_
   clear hHeld
   refine hK.out _ _ ?_ fun hHeld=>?_
   ·(try dsimp only);exact KSS.out _ B.out
   clear hK K
   try go_frame
   refine rY 0 rfl fun K hK=>?_
   refine wp_load_row 35 _ rfl g5 rfl _ _ _ _ (B5.out.step B.out) Tryz.underlying35 rfl (by rw[sizeM];rfl) ?_
   clear hHeld
   refine hK.out _ _ ?_ fun hHeld=>?_
   ·(try dsimp only);exact KSS.out _ B.out
   clear hK K
   try go_frame
   refine rY 7 rfl fun K hK=>?_
   go_simp
   refine(HCALL.out _ B.out).mono ?_
   rintro e3 y1 ⟨M2,mb,R2,b2,rfl,hst,hsm,hmr,hrr,hb⟩
   have ST2:=qD hst
   have SM2:=qD hsm
   have MR2:=qD hmr
   have RR2:=qD hrr
   replace B:=qD (B.out.step' hb)
   clear hb hst hsm hmr hrr
   (try go_wp2_with fail)
   clear hHeld
   refine hK.out _ _ ?_ fun hHeld=>?_
   ·(try dsimp only);exact KSS.out _ B.out
   clear hK K
   try go_frame
   refine rU 8 rfl ?_
   try go_frame
   refine rU 9 rfl ?_
   try go_frame
   refine rU 10 rfl ?_
   try go_frame
   refine rU 11 rfl ?_
   try go_frame
   refine rY 12 rfl fun K hK=>?_
   refine wp_store_row 35 _ _ rfl g5 (marr mb M2) rfl rfl 35 _ (B5.out.step B.out) (by rw[sizeM];rfl) rfl (marr_all _ _) ?_
   have V5:=qD (Blk.row (B5.out.step B.out) (marr mb M2))
   have V7:=qD (Blk.row_far (B7.out.step B.out) HN57.out.symm (marr mb M2))
   have VX:=qD (Blk.row_far (BX.out.step B.out) HNX5.out (marr mb M2))
   have VM:=qD (MR2.out.row_move (B5.out.step B.out) HP5.out (marr mb M2))
   have HPA2:Hid (∀q∈R2.ks,pathB q.p=true):=by rw[Hid,ST2.out.ks];exact HKF.out.pa
   have VR:=qD (RR2.out.row_mv HPA2.out (B5.out.step B.out) (c:=mb) SM2.out)
   have VO:=qD ((RRP.out.step B.out).row_mv HPA1.out (B5.out.step B.out) (c:=mb) SM2.out)
   have VE:=qD (below_row (WE.out.step' B.out) HL5.out (marr mb M2))
   have VG:Hid ((y1.setRow g5 (marr mb M2)).rangeAt b (off+i*80) (recOp o)):=rangeAt_row (KSS.out _ B.out).2 HNB5.out (marr mb M2)
   generalize y1.setRow g5 (marr mb M2)=y2 at*
   clear hHeld
   refine hK.out _ _ ?_ fun hHeld=>?_
   ·(try dsimp only);exact⟨VX.out.cell 8,VG.out⟩
   clear hK K
   try go_frame
   refine rY 13 rfl fun K hK=>?_
   refine wp_store_row 27 _ _ rfl g7 (rarr b2 R2) rfl rfl 27 _ V7.out (by rw[sizeR];rfl) rfl (rarr_all _ _) ?_
   have X7:=qD (Blk.row V7.out (rarr b2 R2))
   have X5:=qD (Blk.row_far V5.out HN57.out (rarr b2 R2))
   have XX:=qD (Blk.row_far VX.out HNX7.out (rarr b2 R2))
   have XM:=qD (VM.out.row_ro V7.out HP7.out (rarr b2 R2))
   have XR:=qD (VR.out.keep_r HPA2.out (size_setRowM _ _ (rarr b2 R2)) (fun _ hk=>setRow_other _ _ _ _ hk) V7.out VO.out HKP.out (by rw[show R1.sp=R2.sp from HS1.out.sp.trans ST2.out.sp.symm];exact X7.out.cell 0))
   have XE:=qD (below_row VE.out HL7.out (rarr b2 R2))
   have XG:Hid ((y2.setRow g7 (rarr b2 R2)).rangeAt b (off+i*80) (recOp o)):=rangeAt_row VG.out HNB7.out (rarr b2 R2)
   generalize y2.setRow g7 (rarr b2 R2)=y3 at*
   clear hHeld
   refine hK.out _ _ ?_ fun hHeld=>?_
   ·(try dsimp only);exact⟨XX.out.cell 8,XG.out⟩
   clear hK K
   try go_frame
   refine rU 14 rfl ?_
   try go_frame
   refine rD ?_ _
   refine NoPanic.normal ?_
   go_wp2_with fail
   go_roundw
   case rel=>exact⟨i+1,M2,mb,R2,b2,by omega,by go_num,X5.out,X7.out,XX.out,XM.out,XR.out,ST2.out,XE.out⟩
   case measure=>simp[intOf];omega
end Go.Proofs.YtlicnjecnehaoaaGreatDoor
namespace Go.Proofs.YtlicnjecnehaoaaGreatDoor.migrateRuns
open Go Go.Shelf Go.ChangeShapes Go.WideShapes Go.ChangeAt Go.RowKit Go.Lib
set_option linter.unusedVariables false
theorem own:ownKnob Tryz.prog.godebug=none:=by kernel_rfl
theorem laidOut:laidOutB Tryz.prog=true:=by kernel_rfl
theorem accept_eq:Rows.laid_unicode_utf8_acceptRanges=Lib.acceptData:=by kernel_rfl
theorem first_eq:Rows.laid_unicode_utf8_first=Lib.firstData:=Go.Pinned.utf8First_eq
noncomputable def laidWorld(os:Os):World:=
 let w0:=World.holding Tryz.prog os ⟨#[],#[],[]⟩
 let put (h:Array Obj) (g:Nat) (cs:Array Value):Array Obj:=h.modify g fun
  | .cells _ t frozen=>.cells cs t frozen
  | o=>o
 let h1:=put w0.heap 1 (Lib.firstTab.map fun z=>Value.int .u8 z).toArray
 let h2:=put h1 2 ((List.range 16).flatMap fun i=>[Value.int .u8 (Lib.accLo i),Value.int .u8 (Lib.accHi i)]).toArray
 {w0 with heap:=h2}
theorem laid_met(os:Os)(args:Array Value):laidMet Tryz.prog Rows.migrateRunsUptoRow.laid ((laidWorld os).forCall (fun _ _=>0) ⟨#[],args,[]⟩).memory:=
 (LaidIn.of_run (l := [("unicode/utf8.acceptRanges", Rows.laid_unicode_utf8_acceptRanges), ("unicode/utf8.first", Rows.laid_unicode_utf8_first)]) [2, 1] 8 (by kernel_rfl) (by kernel_rfl) (by kernel_rfl) (by kernel_rfl)).met
theorem witness_row(os:Os){H:Type}(enc:TypeId×Value→H):
 (Rows.OpenSpec.upto Rows.migrateRunsSpec).preRow enc Tryz.prog Tryz.f3 Rows.migrateRunsUptoRow.domain false Rows.migrateRunsUptoRow.laid ((laidWorld os).forCall (fun _ _=>0) ⟨#[],#[.agg #[.string ⟨#[]⟩,.slice none 0 0,.bool false,.int .i64 0,.int .i64 0,.slice none 0 0,.string ⟨#[]⟩,.int .i64 0,.slice none 0 0]],[]⟩).memory #[.agg #[.string ⟨#[]⟩,.slice none 0 0,.bool false,.int .i64 0,.int .i64 0,.slice none 0 0,.string ⟨#[]⟩,.int .i64 0,.slice none 0 0]]:=by
 have hw:(DataW.whole enc Tryz.prog ((laidWorld os).forCall (fun _ _=>0) ⟨#[],#[.agg #[.string ⟨#[]⟩,.slice none 0 0,.bool false,.int .i64 0,.int .i64 0,.slice none 0 0,.string ⟨#[]⟩,.int .i64 0,.slice none 0 0]],[]⟩).memory Tryz.f3.params.toList (Rows.OpenSpec.upto Rows.migrateRunsSpec).vars false (#[.agg #[.string ⟨#[]⟩,.slice none 0 0,.bool false,.int .i64 0,.int .i64 0,.slice none 0 0,.string ⟨#[]⟩,.int .i64 0,.slice none 0 0]]:Array Value).toList 8).map (fun x=>(x.1,x.2.1))=
  some ([.agg [.agg [.lit (.string []),.agg [.nil,.lit (.bool false)],.lit (.int .i64 0),.lit (.int .i64 0),.nil],.lit (.string []),.lit (.int .i64 0),.nil]],[]):=by kernel_rfl
 obtain⟨⟨x1,x2,x3⟩,hx,hx1⟩:=Option.map_eq_some_iff.1 hw
 simp only[Prod.mk.injEq] at hx1
 obtain⟨rfl,rfl⟩:=hx1
 exact OpenSpec.preRow_of_cond 8 hx (by kernel_rfl) (fun k hk=>by cases hk;kernel_rfl) (by kernel_rfl) (laid_met os _)
theorem lifted(os:Os)(started:os.Started)(H:Type)(enc:TypeId×Value→H)(F0:Stop.Interp):
 ReturnsInHanded {} Tryz.checked os 3 .any ((Rows.OpenSpec.upto Rows.migrateRunsSpec).preRow enc Tryz.prog Tryz.f3 Rows.migrateRunsUptoRow.domain false Rows.migrateRunsUptoRow.laid) (((Rows.OpenSpec.upto Rows.migrateRunsSpec).at F0).post enc Tryz.prog Tryz.f3 false true false false):=by
 refine returnsInHanded_of_row (C:=Tryz.checked) (s:=Rows.OpenSpec.upto Rows.migrateRunsSpec) own started (by kernel_rfl) Tryz.func3
  (witness_row_atRef (enc:=enc) (C:=Tryz.checked) false (laidWorld os) #[.agg #[.string ⟨#[]⟩,.slice none 0 0,.bool false,.int .i64 0,.int .i64 0,.slice none 0 0,.string ⟨#[]⟩,.int .i64 0,.slice none 0 0]] rfl (by kernel_rfl) (by kernel_rfl) (by kernel_rfl) (witness_row os enc)) ?_
 intro W base args ds gs before hval0 hW hq1 hq2 hwt hL hq5 hq6
 have hval:∀(j:Nat) t v,Tryz.f3.params[j]?=some t→args[j]?=some v→Value.okWide Tryz.prog W .any base t v:=hval0
 have hW':=hW
 obtain⟨p,q,hA0,hV,rfl,hfz,hnd⟩:=hW
 have hA:DataW.TrodAll enc Tryz.prog W 0 (fun _=>true) true Tryz.f3.params.toList args.toList ds p:=hA0
 rw[Tryz.params3] at hA hval hwt
 obtain⟨v0,vs0,d0,ds0,p0,q0,hargs,rfl,rfl,h0,r0⟩:=trodAll_cons hA
 obtain⟨rfl,rfl,rfl⟩:=trodAll_nil r0
 obtain rfl:args=#[v0]:=by cases args;simp_all
 obtain⟨rfl,rfl⟩:=trodVars_none hV
 obtain⟨hlt0,hwt0⟩:=light_each hwt
 have hk9:=of_decide_eq_true (hq2 _ rfl)
 simp only[List.append_nil,Rows.uptoBulkAll] at hk9
 have bulk0:Rows.uptoBulk d0≤1048576:=by omega
 have trd0:=h0
 have lt0:∀x∈p0,x.block<W.heap.size:=by obtain⟨m,hm⟩:=trd0;exact DataW.trod_lt m _ _ _ hm
 obtain⟨ra0,R0,lo0,tt0,OA0,on0,oc0,os0,rfl,o0,oL0,oO0⟩:=open_run (hval 0 30 v0 rfl rfl) h0 hlt0 bulk0
 clear hA0 hval0
 have htab:Tabs W:=by
  have r1:=Lib.laidMet.reads hL (.tail _ (.head _))
  have r2:=Lib.laidMet.reads hL (.head _)
  rw[first_eq] at r1
  rw[accept_eq] at r2
  exact utf8Tabs_of_readsT (U8Types.of196 laysValid) ⟨by kernel_rfl,by kernel_rfl,by kernel_rfl,by kernel_rfl,by kernel_rfl,by kernel_rfl,by kernel_rfl⟩ r1 r2
 refine(migrateRuns_walk R0 ra0 lo0 tt0 OA0 on0 oc0 os0 W htab o0 oL0 oO0).mono fun e W' ⟨he,bel⟩=>?_
 subst he
 exact⟨_,rfl,_,_,_,[],_,[],hW',trodAll_mk1 (shut_bool Tryz.underlying4 _),(trodAll_cons_mk (Below.trod laidOut (by kernel_rfl) (of_decide_eq_true (by kernel_rfl)) trd0 bel lt0) trodAll_mk0),rfl,bel.frame _,fun h=>by cases h⟩
theorem over:Rows.MigrateRunsUptoSaid:=
 OpenClaim.holds_of_cond 3 Tryz.f3 rfl rfl rfl rfl rfl rfl rfl ⟨rfl,rfl,rfl,rfl,rfl⟩ rfl rfl rfl rfl rfl (by kernel_rfl) Tryz.func3 (by kernel_rfl)
  (of_decide_eq_true (by kernel_rfl)) (by unfold Func.isWrapper;first|(rw[if_pos (by decide+kernel)];kernel_rfl)|(rw[if_neg (by decide+kernel)];exact⟨rfl,rfl⟩))
  (fun os started H enc _ F0=>by rw[OpenClaim.pre_eq_preRow];exact lifted os started H enc F0)
theorem proved:Rows.MigrateRunsUptoCardSaid:=
 Claim7.holds_tied_plain_at .later [] [.data, .pinned] true (true, "42c1040547a654844c10cecefc0e20cad72b5f4a47008fae5dd5e25bcd1c8ef4") false
  over (fun _ h=>by cases h) (by kernel_rfl) (fun _ h=>by cases h) migrateRunsUpto_row_tie rfl ⟨rfl,rfl⟩ (by kernel_rfl) rfl
  (fun f fn hf hfn=>by
   obtain rfl : f = 3 := Option.some.inj ((show Tryz.prog.funcNamed "docstore/docstorelaw51.MigrateRuns" = some 3 by kernel_rfl).symm.trans hf) |>.symm
   obtain rfl:fn=Tryz.f3:=(Option.some.inj (Tryz.func3.symm.trans hfn)).symm
   exact⟨by kernel_rfl,fun j t ht=>by
    rw[Tryz.params3] at ht
    have h3:t=30:=by
     rcases j with _|j
     ·exact(by simpa using ht.symm)
     ·simp at ht
    rcases h3 with rfl
    exact(show Tryz.prog.wantsStandIn 30=false by kernel_rfl)⟩)
  (by kernel_rfl)
#print axioms proved
end Go.Proofs.YtlicnjecnehaoaaGreatDoor.migrateRuns
