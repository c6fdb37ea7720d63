/- Parts of the proof, joined: MgNote. -/
import Derived.Test.YtlicnjecnehaoaaGreatDoorRa1
import Derived.Test.YtlicnjecnehaoaaGreatDoorRa16
import Derived.Test.YtlicnjecnehaoaaGreatDoorRa17
import Derived.Deep.RegionHeld3
set_option maxRecDepth 100000
set_option maxHeartbeats 16000000
set_option linter.unusedSimpArgs false
namespace Go.Proofs.YtlicnjecnehaoaaGreatDoor
open Go.RowKit
theorem sizeV:(Tryz.prog.info? 45).map (·.size)=some 5:=by kernel_rfl
theorem Blk.cellL{w:World}{g:Nat}{t:TypeId}{l:List Value}(h:Blk w g t l.toArray){i:Nat}{u:Value}(e:l[i]?=some u):w.cell? ⟨g,i,none⟩=some u:=by
 rw[h.cell,List.getElem?_toArray]
 exact e
noncomputable def copyL(R:Ro)(sp lo hi:ByteArray)(l:List Val):List Wt:=(l.filter (insD R lo hi)).map (putW sp)
theorem copyL_snoc(R:Ro)(sp lo hi:ByteArray)(l:List Val)(x:Val):copyL R sp lo hi (l++[x])=copyL R sp lo hi l++(if insD R lo hi x=true then [putW sp x] else []):=by
 unfold copyL
 rw[List.filter_append,List.map_append]
 congr 1
 cases h:insD R lo hi x<;>simp[h]
theorem copyL_len(R:Ro)(sp lo hi:ByteArray)(l:List Val):(copyL R sp lo hi l).length≤l.length:=by
 unfold copyL
 rw[List.length_map]
 exact List.length_filter_le _ _
def MvOk(w:World)(M:Mv)(e:Ending)(w':World):Prop:=∃mb:MA,e=.returned (.tuple #[mval mb M,.int .i64 0])∧MR w' mb M∧Below w.heap.size w w'
theorem mgcopy_any(M:Mv)(R:Ro)(a:RA)(ps:List PV)(DA:Option Addr)(dn dc:Nat)(w:World)(hT:Tabs w)(h:RR w a R)(h8:R.ks.length≤8)(hd:SL (fun _=>True) w DA dn dc ps)(hz:dn≤1000)(hsp:M.sp.size≤reach)(hst:M.st=1)(hcp:M.cp=[])(hch:M.ch=[]):
 Calls Tryz.prog 14 #[mval MA.zero M,rval a R,.slice DA dn dc] w (MvOk w ⟨M.sp,M.lo,M.hi,M.fr,M.tt,2,copyL R M.sp M.lo M.hi (ps.map Prod.snd),[]⟩):=by
 obtain⟨i0,hi0,hz0,hz1,hz2⟩:=info_parts info_write
 obtain⟨sp,lo,hi,fr,tt,st,cp,ch⟩:=M
 simp only at hsp hst hcp hch ⊢
 subst hst hcp hch
 have HT:=qD hT
 have HR:=qD h
 have H8:=qD h8
 have HD:=qD hd
 have HZ:=qD hz
 have HSP:=qD hsp
 have HDL:Hid (dn=ps.length):=hd.sr.ln
 clear hT h h8 hd hsp
 obtain⟨wa,hwa⟩:∃wa,((w.alloc (.cells (marr MA.zero ⟨sp,lo,hi,fr,tt,1,[],[]⟩) 35)).alloc (.cells (rarr a R) 27)).alloc (.cells (marr MA.zero Mv.zero) 35)=wa:=⟨_,rfl⟩
 have B0:Hid (Blk wa w.heap.size 35 (marr MA.zero ⟨sp,lo,hi,fr,tt,1,[],[]⟩)):=by rw[←hwa];exact((Blk.new_at rfl).alloc _).alloc _
 have BR:Hid (Blk wa (w.heap.size+1) 27 (rarr a R)):=by rw[←hwa];exact(Blk.new_at (by simp)).alloc _
 have BZ:Hid (Blk wa (w.heap.size+2) 35 (marr MA.zero Mv.zero)):=by rw[←hwa];exact Blk.new_at (by simp)
 have BE:Hid (Below w.heap.size w wa):=by rw[←hwa];exact(((Below.refl _ _).alloc (qL) _).alloc (by simp) _).alloc (by simp;omega) _
 have HW3:Hid (wa.heap.size=w.heap.size+3):=by rw[←hwa];simp[Hid]
 have HWA:=qD hwa
 clear hwa
 go_enter Tryz.func14,Tryz.ntmps14
 go_upto_region 1 with fail
 change Code.wp _ _ _ _ (((w.alloc (.cells (marr MA.zero ⟨sp,lo,hi,fr,tt,1,[],[]⟩) 35)).alloc (.cells (rarr a R) 27)).alloc (.cells (marr MA.zero Mv.zero) 35))
 rw[HWA.out]
 clear HWA
 have q5:wa.cell? ⟨w.heap.size,5,none⟩=some (.int .i64 1):=B0.out.cell 5
 have HCM:=qD (copyMove_any ⟨sp,lo,hi,fr,tt,1,[],[]⟩ MA.zero wa ⟨HSP.out,⟨[],rfl,WS.nil⟩,⟨[],rfl,WS.nil⟩⟩ (Nat.zero_le _) (Nat.zero_le _))
 go_wp2_with (refine wpList_load_row rfl 35 _ rfl (w.heap.size) rfl _ _ _ _ B0.out Tryz.underlying35 rfl (by rw[sizeM];rfl) ?_)
 refine HCM.out.mono ?_
 rintro e w1 ⟨⟨A1,n1,c1,A2,n2,c2⟩,ps0,qs1,rfl,hmo,hb⟩
 have hps0:ps0=[]:=List.map_eq_nil_iff.1 hmo.cp
 have hqs1:qs1=[]:=List.map_eq_nil_iff.1 hmo.ch
 subst hps0 hqs1
 have hn1:n1=0:=hmo.cn
 subst hn1
 have HMO:=qD hmo
 have C0:=qD (B0.out.step hb)
 have CR:=qD (BR.out.step hb)
 have CZ:=qD (BZ.out.step hb)
 have CE:=qD (BE.out.step' hb)
 clear hmo hb HCM q5 B0 BR BZ BE
 go_upto_region 4 with(refine wpList_store_row rfl 35 _ _ rfl (w.heap.size) (marr ⟨A1,0,c1,A2,n2,c2⟩ ⟨sp,lo,hi,fr,tt,1,[],[]⟩) rfl rfl 35 _ C0.out (by rw[sizeM];rfl) rfl (marr_all _ _) ?_)
 have D0:Hid (Blk (w1.setRow w.heap.size (marr ⟨A1,0,c1,A2,n2,c2⟩ ⟨sp,lo,hi,fr,tt,1,[],[]⟩)) w.heap.size 35 #[.string sp,.string lo,.string hi,.int .i64 fr,.int .i64 tt,.int .i64 1,.slice A1 ([]:List PW).length c1,.slice A2 n2 c2]):=Blk.row C0.out _
 have DR:=qD (Blk.row_far CR.out (by omega:w.heap.size+1≠w.heap.size) (marr ⟨A1,0,c1,A2,n2,c2⟩ ⟨sp,lo,hi,fr,tt,1,[],[]⟩))
 have DZ:=qD (Blk.row_far CZ.out (by omega:w.heap.size+2≠w.heap.size) (marr ⟨A1,0,c1,A2,n2,c2⟩ ⟨sp,lo,hi,fr,tt,1,[],[]⟩))
 have DE:=qD (below_row CE.out (qL) (marr ⟨A1,0,c1,A2,n2,c2⟩ ⟨sp,lo,hi,fr,tt,1,[],[]⟩))
 have DMO:Hid (MO wa.heap.size ⟨A1,([]:List PW).length,c1,A2,n2,c2⟩ ⟨sp,lo,hi,fr,tt,1,[],[]⟩ [] [] (w1.setRow w.heap.size (marr ⟨A1,0,c1,A2,n2,c2⟩ ⟨sp,lo,hi,fr,tt,1,[],[]⟩))):=HMO.out.keep fun b hb _=>setRow_other _ _ _ _ (by have:=HW3.out;omega)
 clear C0 CR CZ CE HMO
 generalize w1.setRow w.heap.size (marr ⟨A1,0,c1,A2,n2,c2⟩ ⟨sp,lo,hi,fr,tt,1,[],[]⟩)=w2 at*
 go_wp2_with fail
 go_loopw [9,18] (fun _ u18 wr=>∃(i:Nat) (A1:Option Addr) (c1:Nat) (ps1:List PW),i≤dn∧u18=.int .i64 i∧Blk wr w.heap.size 35 #[.string sp,.string lo,.string hi,.int .i64 fr,.int .i64 tt,.int .i64 1,.slice A1 ps1.length c1,.slice A2 n2 c2]∧Blk wr (w.heap.size+1) 27 (rarr a R)∧Blk wr (w.heap.size+2) 35 (marr MA.zero Mv.zero)∧
  MO wa.heap.size ⟨A1,ps1.length,c1,A2,n2,c2⟩ ⟨sp,lo,hi,fr,tt,1,copyL R sp lo hi ((ps.map Prod.snd).take i),[]⟩ ps1 [] wr∧Below w.heap.size w wr) (fun _ u18 _=>dn-(intOf u18).toNat)
 case atStart=>exact⟨0,A1,c1,[],Nat.zero_le _,rfl,D0.out,DR.out,DZ.out,DMO.out,DE.out⟩
 case round=>
  clear D0 DR DZ DE DMO
  obtain⟨i,A1,c1,ps1,hile,rfl,f0,fr2,fz,fmo,fe⟩:=hrel
  have F0:=qD f0
  have FR:=qD fr2
  have FZ:=qD fz
  have FMO:=qD fmo
  have FE:=qD fe
  clear f0 fr2 fz fmo fe
  by_cases hlt:i<dn
  ·obtain⟨p,hp⟩:∃p,ps[i]?=some p:=⟨_,List.getElem?_eq_getElem (by have:=HDL.out;omega)⟩
   obtain⟨b,off,rfl,_,hu,hr⟩:=(HD.out.step FE.out).vat hp
   have HRX:=qD hr
   have HCI:Hid (copyL R sp lo hi ((ps.map Prod.snd).take (i+1))=copyL R sp lo hi ((ps.map Prod.snd).take i)++(if insD R lo hi p.2=true then [putW sp p.2] else [])):=by
    rw[Hid,take_snoc' (show(ps.map Prod.snd)[i]?=some p.2 by rw[List.getElem?_map,hp];rfl),copyL_snoc]
   obtain⟨a0,a1,a2,a3,a4⟩:=hu
   have hpl:Hid (ps1.length≤1000):=by
    have h1:=congrArg List.length FMO.out.cp
    have h2:=copyL_len R sp lo hi ((ps.map Prod.snd).take i)
    rw[List.length_map] at h1
    rw[List.length_take] at h2
    simp only at h1
    unfold Hid
    omega
   have i0':(0:Int)≤(i:Int):=by omega
   have i1':(i:Int)<(dn:Int):=by omega
   clear hr hp
   go_upto_region 7 with fail
   change Code.wp _ _ _ _ (wr.alloc (.cells p.1.arr 45))
   have GV:Hid (Blk (wr.alloc (.cells p.1.arr 45)) wr.heap.size 45 p.1.arr):=Blk.new_at rfl
   have G0:=qD (F0.out.alloc (.cells p.1.arr 45))
   have GR:=qD (FR.out.alloc (.cells p.1.arr 45))
   have GZ:=qD (FZ.out.alloc (.cells p.1.arr 45))
   have GE:=qD (FE.out.alloc FE.out.size (Obj.cells p.1.arr 45))
   have GMO:=qD (FMO.out.step ((Below.refl wr.heap.size wr).alloc (qL) (Obj.cells p.1.arr 45)))
   have GX:=qD (HRX.out.alloc (.cells p.1.arr 45))
   have HG9:Hid (some wr.heap.size≠(Value.slice A1 ps1.length c1).ownBlock):=fun e=>by have:=own_lt FMO.out.oc e.symm;omega
   have HG8:Hid (w.heap.size+2<wr.heap.size):=FZ.out.lt
   clear a0 a1 a2 a3 a4 F0 FR FZ FE FMO HRX
   generalize wr.alloc (.cells p.1.arr 45)=wq at*
   generalize wr.heap.size=g9 at*
   have HIN:=qD (inside_any ⟨sp,lo,hi,fr,tt,1,[],[]⟩ ⟨A1,ps1.length,c1,A2,n2,c2⟩ R a p.2 p.1 wq (HT.out.step GE.out) (HR.out.step GE.out) GX.out H8.out)
   obtain⟨a0,a1,a2,a3,a4⟩:=VAt.of_blk GV.out
   simp only[Nat.zero_add] at a0 a1 a2 a3 a4
   go_wp2_with (first|(refine wpList_load_row rfl 35 _ rfl (w.heap.size) rfl _ _ _ _ G0.out Tryz.underlying35 rfl (by rw[sizeM];rfl) ?_)|(refine wpList_load_row rfl 27 _ rfl (w.heap.size+1) rfl _ _ _ _ GR.out Tryz.underlying27 rfl (by rw[sizeR];rfl) ?_))
   refine HIN.out.mono ?_
   rintro e wb ⟨rfl,hb⟩
   have K0:=qD (G0.out.step hb)
   have KR:=qD (GR.out.step hb)
   have KZ:=qD (GZ.out.step hb)
   have KE:=qD (GE.out.step' hb)
   have KV:=qD (GV.out.step hb)
   have MOB:=qD (GMO.out.step hb)
   have KX:=qD (GX.out.step hb)
   clear hb a0 a1 a2 a3 a4 G0 GR GZ GE GV GMO GX HIN
   cases hin:insD R lo hi p.2
   ·have HCL:Hid (copyL R sp lo hi ((ps.map Prod.snd).take (i+1))=copyL R sp lo hi ((ps.map Prod.snd).take i)):=by rw[Hid,HCI.out,hin];simp
    clear hin
    go_wp2_with fail
    go_roundw
    case rel=>exact⟨i+1,A1,c1,ps1,by omega,by go_num,K0.out,KR.out,KZ.out,by rw[HCL.out];exact MOB.out,KE.out⟩
    case measure=>simp[intOf];omega
   ·have HCL:Hid (copyL R sp lo hi ((ps.map Prod.snd).take (i+1))=copyL R sp lo hi ((ps.map Prod.snd).take i)++[putW sp p.2]):=by rw[Hid,HCI.out,hin];simp
    clear hin HCI
    go_upto_region 8 with fail
    have B:Hid (Below wb.heap.size wb wb.drew):=qD ((Below.refl wb.heap.size wb).drew)
    have MVS:Hid (∀w':World,Below wb.heap.size wb w'→Blk w' w.heap.size 35 #[.string sp,.string lo,.string hi,.int .i64 fr,.int .i64 tt,.int .i64 1,.slice A1 ps1.length c1,.slice A2 n2 c2]):=qD fun w' hb=>K0.out.step hb
    have KSS:Hid (∀w':World,Below wb.heap.size wb w'→Blk w' g9 45 p.1.arr):=qD fun w' hb=>KV.out.step hb
    have SRX:Hid (∀w':World,Below wb.heap.size wb w'→RW w' p.1 p.2):=qD fun w' hb=>KX.out.step hb
    have OWNT:Hid (∀w':World,Below wb.heap.size wb w'→w'.ownsRow wa.heap.size 67 78 (.slice A1 ps1.length c1) ps1.length (flat recW ps1)):=qD fun w' hb=>own_step MOB.out.oc hb
    have HLEN:Hid (ps1.length≤1000):=hpl
    have HBASE:Hid (wa.heap.size≤wb.heap.size):=by have h1:=KZ.out.lt;have h2:=HW3.out;unfold Hid;omega
    have HNB:Hid (w.heap.size+2<wa.heap.size):=by have h2:=HW3.out;unfold Hid;omega
    have hown0:∀b,b<wa.heap.size→some b≠(Value.slice A1 ps1.length c1).ownBlock:=fun b hb e=>by have:=own_ge MOB.out.oc b e.symm;omega
    have HNE0:Hid (some w.heap.size≠(Value.slice A1 ps1.length c1).ownBlock):=hown0 _ (by have:=HNB.out;omega)
    have FRC:Hid (∀b,wb.heap.size≤b→(Value.slice A1 ps1.length c1).ownBlock≠some b):=qD fun b hb e=>by have:=own_lt MOB.out.oc e;omega
    have FRH:Hid (∀b,wb.heap.size≤b→(Value.slice A2 n2 c2).ownBlock≠some b):=qD fun b hb e=>by have:=own_lt MOB.out.oh e;omega
    have KSA:Hid (∀y2 y3:World,Below wb.heap.size wb y2→y2.grownBy y3 (Value.slice A1 ps1.length c1).ownBlock→Blk y3 g9 45 p.1.arr):=qD fun y2 y3 h2 hg=>(KV.out.step h2).grown hg HG9.out
    have OTH:Hid (∀y2 y3:World,Below wb.heap.size wb y2→y2.grownBy y3 (Value.slice A1 ps1.length c1).ownBlock→∀(k:Nat) (v:Value),Blk (y3.setCell ⟨w.heap.size,k,none⟩ v) g9 45 p.1.arr∧Blk (y3.setCell ⟨w.heap.size,k,none⟩ v) (w.heap.size+1) 27 (rarr a R)∧Blk (y3.setCell ⟨w.heap.size,k,none⟩ v) (w.heap.size+2) 35 (marr MA.zero Mv.zero)∧Below w.heap.size w (y3.setCell ⟨w.heap.size,k,none⟩ v)):=by
     refine qD fun y2 y3 h2 hg k v=>?_
     have h1:=HNB.out
     have h9:=HG8.out
     have e:∀{b:Nat} {t:TypeId} {cs:Array Value},Blk wb b t cs→b≠w.heap.size→some b≠(Value.slice A1 ps1.length c1).ownBlock→Blk (y3.setCell ⟨w.heap.size,k,none⟩ v) b t cs:=fun hB h1 h3=>((hB.step h2).grown hg h3).far h1 v
     exact⟨e KV.out (by omega) HG9.out,e KR.out (by omega) (hown0 _ (by omega)),e KZ.out (by omega) (hown0 _ (by omega)),((KE.out.step' h2).grown hg (Nat.le_trans KE.out.size h2.size) (fun g e=>by have:=own_ge MOB.out.oc g e;omega)).setCell (qL) v⟩
    clear hown0 K0 KR KZ KV KX
    refine wp_region_noPanic ?_
    refine wp_region_held_drew (S:=(fun w'=>Blk w' g9 45 p.1.arr)) (by kernel_rfl) ?_ (fun hHeld=>?_)
    ·(try dsimp only);exact KSS.out _ B.out
    generalize wb.drew=v0 at*
    refine rU 0 rfl ?_
    try go_frame
    refine rT (v:=.agg p.1.arr) 3 rfl ?_ ?_
    ·intro w' hSw;exact exec_row rfl rfl hSw Tryz.underlying45 rfl (by rw[sizeV];rfl)
    try go_frame
    refine rR [1,2] ?_
    refine rC (fun K hK=>?_) (rC (fun K hK=>?_) rN)
    ·have q6:v0.cell? ⟨w.heap.size,6,none⟩=some (.slice A1 ps1.length c1):=(MVS.out _ B.out).cell 6
     go_simp
     clear q6
     clear hHeld
     refine hK.out _ _ ?_ fun hHeld=>?_
     ·(try dsimp only);exact KSS.out _ B.out
     clear hK K
     try go_frame
     refine rY 2 rfl fun K hK=>?_
     refine wp_load_row 35 _ rfl w.heap.size rfl _ _ _ _ (MVS.out _ B.out) Tryz.underlying35 rfl (by rw[sizeM];rfl) ?_
     clear hHeld
     refine hK.out _ _ ?_ fun hHeld=>?_
     ·(try dsimp only);exact KSS.out _ B.out
     clear hK K
     try go_frame
     refine rY 4 rfl fun K hK=>?_
     go_simp
     refine(put_any ⟨sp,lo,hi,fr,tt,1,[],[]⟩ ⟨A1,ps1.length,c1,A2,n2,c2⟩ p.2 p.1 v0 HSP.out (SRX.out _ B.out)).mono ?_
     rintro e3 y1 ⟨wc,rfl,hr,hb⟩
     have P1:=qD (hr.mono (G:=fun b=>wb.heap.size≤b) (fun b hb2=>Nat.le_trans B.out.size hb2))
     have B1:=qD (B.out.step' hb)
     clear hb hr
     (try go_wp2_with fail)
     clear hHeld
     refine hK.out _ _ ?_ fun hHeld=>?_
     ·(try dsimp only);exact KSS.out _ B1.out
     clear hK K
     try go_frame
     refine rY 5 rfl fun K hK=>?_
     refine wp_buildSlice 33 67 1 _ rfl (recC78 wc).toArray i0 _ Tryz.underlying33 hi0 hz0 (by rw[hz1];decide) (by rw[hz1];decide) (by rw[hz1];exact build_write rfl) ?_
     have N2:Hid (Blk (y1.alloc (.cells (recC78 wc).toArray 67)) y1.heap.size 67 (recC78 wc).toArray):=Blk.new_at rfl
     have P2:=qD (P1.out.alloc (.cells (recC78 wc).toArray 67))
     have B2:=qD (B1.out.alloc B1.out.size (Obj.cells (recC78 wc).toArray 67))
     generalize y1.alloc (.cells (recC78 wc).toArray 67)=y2 at*
     generalize y1.heap.size=gn at*
     clear hHeld
     refine hK.out _ _ ?_ fun hHeld=>?_
     ·(try dsimp only);exact KSS.out _ B2.out
     clear hK K
     try go_frame
     refine rY 6 rfl fun K hK=>?_
     have O2:=qD (OWNT.out _ B2.out)
     refine wp_append_any y2 (.tmp 27) (.tmp 31) 33 rfl wa.heap.size 67 i0 _ 78 1168 Tryz.underlying33 hi0 hz0 hz1 hz2 rfl (by decide) (.slice A1 ps1.length c1) ps1.length (flat recW ps1) rfl O2.out y2.heap.size (some ⟨gn,0,none⟩) 1 1 (recC78 wc) rfl (reads_one N2.out N2.out.lt) (recC78_one wc) (by unfold maxLen;have:=HLEN.out;omega) (by have:=HLEN.out;omega) (Nat.le_trans HBASE.out B2.out.size) ?_
     intro v5 y3 hown hgr hat
     obtain⟨A5,c5,rfl,hc5⟩:=own_slice hown
     have BM3:=qD ((MVS.out _ B2.out).grown hgr HNE0.out)
     have MO3:=qD ((MOB.out.step B2.out).addC (P2.out.mono fun b hb=>⟨Nat.le_trans HBASE.out hb,FRC.out b hb,FRH.out b hb⟩) hown hgr hat)
     have GR:=qD hgr
     clear hown hgr hat hc5
     clear hHeld
     refine hK.out _ _ ?_ fun hHeld=>?_
     ·(try dsimp only);exact KSA.out _ _ B2.out GR.out
     clear hK K
     try go_frame
     refine rU 7 rfl ?_
     try go_frame
     refine rY 8 rfl fun K hK=>?_
     have q6:y3.cell? ⟨w.heap.size,6,none⟩=some (.slice A1 ps1.length c1):=BM3.out.cell 6
     have z6:=BM3.out.frozen 6
     go_simp
     change K _ (y3.setCell ⟨w.heap.size,6,none⟩ (.slice A5 (ps1.length+1) c5))
     have BM4:Hid (Blk (y3.setCell ⟨w.heap.size,6,none⟩ (.slice A5 (ps1.length+1) c5)) w.heap.size 35 #[.string sp,.string lo,.string hi,.int .i64 fr,.int .i64 tt,.int .i64 1,.slice A5 (ps1.length+1) c5,.slice A2 n2 c2]):=BM3.out.set_ 6 _
     have MO4:=qD (MO3.out.keep (w':=y3.setCell ⟨w.heap.size,6,none⟩ (.slice A5 (ps1.length+1) c5)) fun b hb _=>Below.heap_setCell _ _ _ b (by show b≠w.heap.size;have:=HNB.out;omega))
     have OT4:=qD (OTH.out _ _ B2.out GR.out 6 (.slice A5 (ps1.length+1) c5))
     clear q6 z6 BM3 MO3 GR
     generalize y3.setCell ⟨w.heap.size,6,none⟩ (.slice A5 (ps1.length+1) c5)=y4 at*
     clear hHeld
     refine hK.out _ _ ?_ fun hHeld=>?_
     ·(try dsimp only);exact OT4.out.1
     clear hK K
     try go_frame
     refine rD ?_ _
     refine NoPanic.normal ?_
     go_wp2_with fail
     go_roundw
     case rel=>exact⟨i+1,A5,c5,ps1++[(wc,putW sp p.2)],by omega,by go_num,by rw[List.length_append];exact BM4.out,OT4.out.2.1,OT4.out.2.2.1,by rw[List.length_append,HCL.out];exact MO4.out,OT4.out.2.2.2⟩
     case measure=>simp[intOf];omega
    ·refine wp_load_row 35 _ rfl w.heap.size rfl _ _ _ _ (MVS.out _ B.out) Tryz.underlying35 rfl (by rw[sizeM];rfl) ?_
     clear hHeld
     refine hK.out _ _ ?_ fun hHeld=>?_
     ·(try dsimp only);exact KSS.out _ B.out
     clear hK K
     try go_frame
     refine rR [1,4] ?_
     refine rC (fun K hK=>?_) (rC (fun K hK=>?_) rN)
     ·have q6:v0.cell? ⟨w.heap.size,6,none⟩=some (.slice A1 ps1.length c1):=(MVS.out _ B.out).cell 6
      go_simp
      clear q6
      clear hHeld
      refine hK.out _ _ ?_ fun hHeld=>?_
      ·(try dsimp only);exact KSS.out _ B.out
      clear hK K
      try go_frame
      refine rY 4 rfl fun K hK=>?_
      go_simp
      refine(put_any ⟨sp,lo,hi,fr,tt,1,[],[]⟩ ⟨A1,ps1.length,c1,A2,n2,c2⟩ p.2 p.1 v0 HSP.out (SRX.out _ B.out)).mono ?_
      rintro e3 y1 ⟨wc,rfl,hr,hb⟩
      have P1:=qD (hr.mono (G:=fun b=>wb.heap.size≤b) (fun b hb2=>Nat.le_trans B.out.size hb2))
      have B1:=qD (B.out.step' hb)
      clear hb hr
      (try go_wp2_with fail)
      clear hHeld
      refine hK.out _ _ ?_ fun hHeld=>?_
      ·(try dsimp only);exact KSS.out _ B1.out
      clear hK K
      try go_frame
      refine rY 5 rfl fun K hK=>?_
      refine wp_buildSlice 33 67 1 _ rfl (recC78 wc).toArray i0 _ Tryz.underlying33 hi0 hz0 (by rw[hz1];decide) (by rw[hz1];decide) (by rw[hz1];exact build_write rfl) ?_
      have N2:Hid (Blk (y1.alloc (.cells (recC78 wc).toArray 67)) y1.heap.size 67 (recC78 wc).toArray):=Blk.new_at rfl
      have P2:=qD (P1.out.alloc (.cells (recC78 wc).toArray 67))
      have B2:=qD (B1.out.alloc B1.out.size (Obj.cells (recC78 wc).toArray 67))
      generalize y1.alloc (.cells (recC78 wc).toArray 67)=y2 at*
      generalize y1.heap.size=gn at*
      clear hHeld
      refine hK.out _ _ ?_ fun hHeld=>?_
      ·(try dsimp only);exact KSS.out _ B2.out
      clear hK K
      try go_frame
      refine rY 6 rfl fun K hK=>?_
      have O2:=qD (OWNT.out _ B2.out)
      refine wp_append_any y2 (.tmp 27) (.tmp 31) 33 rfl wa.heap.size 67 i0 _ 78 1168 Tryz.underlying33 hi0 hz0 hz1 hz2 rfl (by decide) (.slice A1 ps1.length c1) ps1.length (flat recW ps1) rfl O2.out y2.heap.size (some ⟨gn,0,none⟩) 1 1 (recC78 wc) rfl (reads_one N2.out N2.out.lt) (recC78_one wc) (by unfold maxLen;have:=HLEN.out;omega) (by have:=HLEN.out;omega) (Nat.le_trans HBASE.out B2.out.size) ?_
      intro v5 y3 hown hgr hat
      obtain⟨A5,c5,rfl,hc5⟩:=own_slice hown
      have BM3:=qD ((MVS.out _ B2.out).grown hgr HNE0.out)
      have MO3:=qD ((MOB.out.step B2.out).addC (P2.out.mono fun b hb=>⟨Nat.le_trans HBASE.out hb,FRC.out b hb,FRH.out b hb⟩) hown hgr hat)
      have GR:=qD hgr
      clear hown hgr hat hc5
      clear hHeld
      refine hK.out _ _ ?_ fun hHeld=>?_
      ·(try dsimp only);exact KSA.out _ _ B2.out GR.out
      clear hK K
      try go_frame
      refine rU 7 rfl ?_
      try go_frame
      refine rY 8 rfl fun K hK=>?_
      have q6:y3.cell? ⟨w.heap.size,6,none⟩=some (.slice A1 ps1.length c1):=BM3.out.cell 6
      have z6:=BM3.out.frozen 6
      go_simp
      change K _ (y3.setCell ⟨w.heap.size,6,none⟩ (.slice A5 (ps1.length+1) c5))
      have BM4:Hid (Blk (y3.setCell ⟨w.heap.size,6,none⟩ (.slice A5 (ps1.length+1) c5)) w.heap.size 35 #[.string sp,.string lo,.string hi,.int .i64 fr,.int .i64 tt,.int .i64 1,.slice A5 (ps1.length+1) c5,.slice A2 n2 c2]):=BM3.out.set_ 6 _
      have MO4:=qD (MO3.out.keep (w':=y3.setCell ⟨w.heap.size,6,none⟩ (.slice A5 (ps1.length+1) c5)) fun b hb _=>Below.heap_setCell _ _ _ b (by show b≠w.heap.size;have:=HNB.out;omega))
      have OT4:=qD (OTH.out _ _ B2.out GR.out 6 (.slice A5 (ps1.length+1) c5))
      clear q6 z6 BM3 MO3 GR
      generalize y3.setCell ⟨w.heap.size,6,none⟩ (.slice A5 (ps1.length+1) c5)=y4 at*
      clear hHeld
      refine hK.out _ _ ?_ fun hHeld=>?_
      ·(try dsimp only);exact OT4.out.1
      clear hK K
      try go_frame
      refine rD ?_ _
      refine NoPanic.normal ?_
      go_wp2_with fail
      go_roundw
      case rel=>exact⟨i+1,A5,c5,ps1++[(wc,putW sp p.2)],by omega,by go_num,by rw[List.length_append];exact BM4.out,OT4.out.2.1,OT4.out.2.2.1,by rw[List.length_append,HCL.out];exact MO4.out,OT4.out.2.2.2⟩
      case measure=>simp[intOf];omega
     ·go_simp
      refine(put_any ⟨sp,lo,hi,fr,tt,1,[],[]⟩ ⟨A1,ps1.length,c1,A2,n2,c2⟩ p.2 p.1 v0 HSP.out (SRX.out _ B.out)).mono ?_
      rintro e3 y1 ⟨wc,rfl,hr,hb⟩
      have P1:=qD (hr.mono (G:=fun b=>wb.heap.size≤b) (fun b hb2=>Nat.le_trans B.out.size hb2))
      have B1:=qD (B.out.step' hb)
      clear hb hr
      (try go_wp2_with fail)
      clear hHeld
      refine hK.out _ _ ?_ fun hHeld=>?_
      ·(try dsimp only);exact KSS.out _ B1.out
      clear hK K
      try go_frame
      refine rR [1,5] ?_
      refine rC (fun K hK=>?_) (rC (fun K hK=>?_) rN)
      ·have q6:y1.cell? ⟨w.heap.size,6,none⟩=some (.slice A1 ps1.length c1):=(MVS.out _ B1.out).cell 6
       go_simp
       clear q6
       clear hHeld
       refine hK.out _ _ ?_ fun hHeld=>?_
       ·(try dsimp only);exact KSS.out _ B1.out
       clear hK K
       try go_frame
       refine rY 5 rfl fun K hK=>?_
       refine wp_buildSlice 33 67 1 _ rfl (recC78 wc).toArray i0 _ Tryz.underlying33 hi0 hz0 (by rw[hz1];decide) (by rw[hz1];decide) (by rw[hz1];exact build_write rfl) ?_
       have N2:Hid (Blk (y1.alloc (.cells (recC78 wc).toArray 67)) y1.heap.size 67 (recC78 wc).toArray):=Blk.new_at rfl
       have P2:=qD (P1.out.alloc (.cells (recC78 wc).toArray 67))
       have B2:=qD (B1.out.alloc B1.out.size (Obj.cells (recC78 wc).toArray 67))
       generalize y1.alloc (.cells (recC78 wc).toArray 67)=y2 at*
       generalize y1.heap.size=gn at*
       clear hHeld
       refine hK.out _ _ ?_ fun hHeld=>?_
       ·(try dsimp only);exact KSS.out _ B2.out
       clear hK K
       try go_frame
       refine rY 6 rfl fun K hK=>?_
       have O2:=qD (OWNT.out _ B2.out)
       refine wp_append_any y2 (.tmp 27) (.tmp 31) 33 rfl wa.heap.size 67 i0 _ 78 1168 Tryz.underlying33 hi0 hz0 hz1 hz2 rfl (by decide) (.slice A1 ps1.length c1) ps1.length (flat recW ps1) rfl O2.out y2.heap.size (some ⟨gn,0,none⟩) 1 1 (recC78 wc) rfl (reads_one N2.out N2.out.lt) (recC78_one wc) (by unfold maxLen;have:=HLEN.out;omega) (by have:=HLEN.out;omega) (Nat.le_trans HBASE.out B2.out.size) ?_
       intro v5 y3 hown hgr hat
       obtain⟨A5,c5,rfl,hc5⟩:=own_slice hown
       have BM3:=qD ((MVS.out _ B2.out).grown hgr HNE0.out)
       have MO3:=qD ((MOB.out.step B2.out).addC (P2.out.mono fun b hb=>⟨Nat.le_trans HBASE.out hb,FRC.out b hb,FRH.out b hb⟩) hown hgr hat)
       have GR:=qD hgr
       clear hown hgr hat hc5
       clear hHeld
       refine hK.out _ _ ?_ fun hHeld=>?_
       ·(try dsimp only);exact KSA.out _ _ B2.out GR.out
       clear hK K
       try go_frame
       refine rU 7 rfl ?_
       try go_frame
       refine rY 8 rfl fun K hK=>?_
       have q6:y3.cell? ⟨w.heap.size,6,none⟩=some (.slice A1 ps1.length c1):=BM3.out.cell 6
       have z6:=BM3.out.frozen 6
       go_simp
       change K _ (y3.setCell ⟨w.heap.size,6,none⟩ (.slice A5 (ps1.length+1) c5))
       have BM4:Hid (Blk (y3.setCell ⟨w.heap.size,6,none⟩ (.slice A5 (ps1.length+1) c5)) w.heap.size 35 #[.string sp,.string lo,.string hi,.int .i64 fr,.int .i64 tt,.int .i64 1,.slice A5 (ps1.length+1) c5,.slice A2 n2 c2]):=BM3.out.set_ 6 _
       have MO4:=qD (MO3.out.keep (w':=y3.setCell ⟨w.heap.size,6,none⟩ (.slice A5 (ps1.length+1) c5)) fun b hb _=>Below.heap_setCell _ _ _ b (by show b≠w.heap.size;have:=HNB.out;omega))
       have OT4:=qD (OTH.out _ _ B2.out GR.out 6 (.slice A5 (ps1.length+1) c5))
       clear q6 z6 BM3 MO3 GR
       generalize y3.setCell ⟨w.heap.size,6,none⟩ (.slice A5 (ps1.length+1) c5)=y4 at*
       clear hHeld
       refine hK.out _ _ ?_ fun hHeld=>?_
       ·(try dsimp only);exact OT4.out.1
       clear hK K
       try go_frame
       refine rD ?_ _
       refine NoPanic.normal ?_
       go_wp2_with fail
       go_roundw
       case rel=>exact⟨i+1,A5,c5,ps1++[(wc,putW sp p.2)],by omega,by go_num,by rw[List.length_append];exact BM4.out,OT4.out.2.1,OT4.out.2.2.1,by rw[List.length_append,HCL.out];exact MO4.out,OT4.out.2.2.2⟩
       case measure=>simp[intOf];omega
      ·refine wp_buildSlice 33 67 1 _ rfl (recC78 wc).toArray i0 _ Tryz.underlying33 hi0 hz0 (by rw[hz1];decide) (by rw[hz1];decide) (by rw[hz1];exact build_write rfl) ?_
       have N2:Hid (Blk (y1.alloc (.cells (recC78 wc).toArray 67)) y1.heap.size 67 (recC78 wc).toArray):=Blk.new_at rfl
       have P2:=qD (P1.out.alloc (.cells (recC78 wc).toArray 67))
       have B2:=qD (B1.out.alloc B1.out.size (Obj.cells (recC78 wc).toArray 67))
       generalize y1.alloc (.cells (recC78 wc).toArray 67)=y2 at*
       generalize y1.heap.size=gn at*
       clear hHeld
       refine hK.out _ _ ?_ fun hHeld=>?_
       ·(try dsimp only);exact KSS.out _ B2.out
       clear hK K
       try go_frame
       refine rY 1 rfl fun K hK=>?_
       have q6:y2.cell? ⟨w.heap.size,6,none⟩=some (.slice A1 ps1.length c1):=(MVS.out _ B2.out).cell 6
       go_simp
       clear q6
       clear hHeld
       refine hK.out _ _ ?_ fun hHeld=>?_
       ·(try dsimp only);exact KSS.out _ B2.out
       clear hK K
       try go_frame
       refine rY 6 rfl fun K hK=>?_
       have O2:=qD (OWNT.out _ B2.out)
       refine wp_append_any y2 (.tmp 27) (.tmp 31) 33 rfl wa.heap.size 67 i0 _ 78 1168 Tryz.underlying33 hi0 hz0 hz1 hz2 rfl (by decide) (.slice A1 ps1.length c1) ps1.length (flat recW ps1) rfl O2.out y2.heap.size (some ⟨gn,0,none⟩) 1 1 (recC78 wc) rfl (reads_one N2.out N2.out.lt) (recC78_one wc) (by unfold maxLen;have:=HLEN.out;omega) (by have:=HLEN.out;omega) (Nat.le_trans HBASE.out B2.out.size) ?_
       intro v5 y3 hown hgr hat
       obtain⟨A5,c5,rfl,hc5⟩:=own_slice hown
       have BM3:=qD ((MVS.out _ B2.out).grown hgr HNE0.out)
       have MO3:=qD ((MOB.out.step B2.out).addC (P2.out.mono fun b hb=>⟨Nat.le_trans HBASE.out hb,FRC.out b hb,FRH.out b hb⟩) hown hgr hat)
       have GR:=qD hgr
       clear hown hgr hat hc5
       clear hHeld
       refine hK.out _ _ ?_ fun hHeld=>?_
       ·(try dsimp only);exact KSA.out _ _ B2.out GR.out
       clear hK K
       try go_frame
       refine rU 7 rfl ?_
       try go_frame
       refine rY 8 rfl fun K hK=>?_
       have q6:y3.cell? ⟨w.heap.size,6,none⟩=some (.slice A1 ps1.length c1):=BM3.out.cell 6
       have z6:=BM3.out.frozen 6
       go_simp
       change K _ (y3.setCell ⟨w.heap.size,6,none⟩ (.slice A5 (ps1.length+1) c5))
       have BM4:Hid (Blk (y3.setCell ⟨w.heap.size,6,none⟩ (.slice A5 (ps1.length+1) c5)) w.heap.size 35 #[.string sp,.string lo,.string hi,.int .i64 fr,.int .i64 tt,.int .i64 1,.slice A5 (ps1.length+1) c5,.slice A2 n2 c2]):=BM3.out.set_ 6 _
       have MO4:=qD (MO3.out.keep (w':=y3.setCell ⟨w.heap.size,6,none⟩ (.slice A5 (ps1.length+1) c5)) fun b hb _=>Below.heap_setCell _ _ _ b (by show b≠w.heap.size;have:=HNB.out;omega))
       have OT4:=qD (OTH.out _ _ B2.out GR.out 6 (.slice A5 (ps1.length+1) c5))
       clear q6 z6 BM3 MO3 GR
       generalize y3.setCell ⟨w.heap.size,6,none⟩ (.slice A5 (ps1.length+1) c5)=y4 at*
       clear hHeld
       refine hK.out _ _ ?_ fun hHeld=>?_
       ·(try dsimp only);exact OT4.out.1
       clear hK K
       try go_frame
       refine rD ?_ _
       refine NoPanic.normal ?_
       go_wp2_with fail
       go_roundw
       case rel=>exact⟨i+1,A5,c5,ps1++[(wc,putW sp p.2)],by omega,by go_num,by rw[List.length_append];exact BM4.out,OT4.out.2.1,OT4.out.2.2.1,by rw[List.length_append,HCL.out];exact MO4.out,OT4.out.2.2.2⟩
       case measure=>simp[intOf];omega
  ·have hin2:i=dn:=by omega
   subst hin2
   have hpl:ps1.length≤1000:=by
    have h1:=congrArg List.length FMO.out.cp
    have h2:=copyL_len R sp lo hi ((ps.map Prod.snd).take i)
    rw[List.length_map] at h1
    rw[List.length_take] at h2
    simp only at h1
    omega
   have HPL:=qD hpl
   have HALL:Hid ((ps.map Prod.snd).take i=ps.map Prod.snd):=List.take_of_length_le (by rw[List.length_map,HDL.out];exact qL)
   rw[HALL.out] at FMO
   clear hpl HALL
   have q5:wr.cell? ⟨w.heap.size,5,none⟩=some (.int .i64 1):=F0.out.cell 5
   have z5:=F0.out.frozen 5
   go_upto_region 11 with fail
   change Code.wp _ _ _ _ (wr.setCell ⟨w.heap.size,5,none⟩ (.int .i64 2))
   have G0:Hid (Blk (wr.setCell ⟨w.heap.size,5,none⟩ (.int .i64 2)) w.heap.size 35 (marr ⟨A1,ps1.length,c1,A2,n2,c2⟩ ⟨sp,lo,hi,fr,tt,2,[],[]⟩)):=F0.out.set_ 5 _
   have GZ:=qD (FZ.out.far (p:=⟨w.heap.size,5,none⟩) (by show w.heap.size+2≠w.heap.size;omega) (.int .i64 2))
   have GE:=qD (FE.out.setCell (p:=⟨w.heap.size,5,none⟩) (qL) (.int .i64 2))
   have GMO:Hid (MO wa.heap.size ⟨A1,ps1.length,c1,A2,n2,c2⟩ ⟨sp,lo,hi,fr,tt,1,copyL R sp lo hi (ps.map Prod.snd),[]⟩ ps1 [] (wr.setCell ⟨w.heap.size,5,none⟩ (.int .i64 2))):=FMO.out.keep fun b hb _=>Below.heap_setCell _ _ _ b (by show b≠w.heap.size;have:=HW3.out;omega)
   clear q5 z5 F0 FR FZ FE FMO
   generalize wr.setCell ⟨w.heap.size,5,none⟩ (.int .i64 2)=w5 at*
   go_wp2_with (first|(refine wpList_load_row rfl 35 _ rfl (w.heap.size) rfl _ _ _ _ G0.out Tryz.underlying35 rfl (by rw[sizeM];rfl) ?_)|(refine wpList_store_row rfl 35 _ _ rfl (w.heap.size+2) (marr ⟨A1,ps1.length,c1,A2,n2,c2⟩ ⟨sp,lo,hi,fr,tt,2,[],[]⟩) rfl rfl 35 _ GZ.out (by rw[sizeM];rfl) rfl (marr_all _ _) ?_))
   refine bodyPost_ret (results_mv rfl _ (w.heap.size+2) rfl (.int .i64 0) rfl _ ⟨A1,ps1.length,c1,A2,n2,c2⟩ ⟨sp,lo,hi,fr,tt,2,[],[]⟩ (Blk.row GZ.out _)) rfl ⟨_,rfl,?_,below_row GE.out (by omega) _⟩
   have h1:=(GMO.out.keep (w':=w5.setRow (w.heap.size+2) (marr ⟨A1,ps1.length,c1,A2,n2,c2⟩ ⟨sp,lo,hi,fr,tt,2,[],[]⟩)) fun b hb _=>setRow_other _ _ _ _ (by have:=HW3.out;omega)).mr (by have:=HPL.out;omega) (by simp)
   exact⟨h1.sp,h1.cp,h1.ch⟩
noncomputable def noteX(R:Ro)(sp lo hi:ByteArray)(x:Wx):List Wt:=noteL R sp lo hi ⟨x.kd,x.sp,x.key,x.doc,false⟩
theorem noteX_put{R:Ro}{sp lo hi:ByteArray}{x:Wx}(h:x.sp=sp)(hk:x.kd=2)(hi2:insD R lo hi x.doc=true):noteX R sp lo hi x=[putW sp x.doc]:=by
 unfold noteX noteL
 rw[if_pos h,if_pos ⟨hk,hi2⟩]
theorem noteX_out{R:Ro}{sp lo hi:ByteArray}{x:Wx}(h:x.sp=sp)(hk:x.kd=2)(hi2:insD R lo hi x.doc=false):noteX R sp lo hi x=[]:=by
 unfold noteX noteL
 rw[if_pos h,if_neg (by simp[hi2]),if_neg (by simp;omega)]
theorem noteX_rem{R:Ro}{sp lo hi:ByteArray}{x:Wx}(h:x.sp=sp)(hk:x.kd=3):noteX R sp lo hi x=[remW sp x.key]:=by
 unfold noteX noteL
 rw[if_pos h,if_neg (by simp;omega),if_pos hk]
theorem mgnote_any(M:Mv)(ma:MA)(R:Ro)(a:RA)(cs:List Value)(x:Wx)(w:World)(hT:Tabs w)(h:RR w a R)(h8:R.ks.length≤8)(hm:MR w ma M)(hx:IsW w cs x)(hst:M.st=2)(hs:x.sp=M.sp)(hk:x.kd=2∨x.kd=3)(hc:M.cp.length≤1000)(hh:M.ch.length≤900):
 Calls Tryz.prog 20 #[mval ma M,rval a R,.agg cs.toArray] w (MvOk w ⟨M.sp,M.lo,M.hi,M.fr,M.tt,2,M.cp,M.ch++noteX R M.sp M.lo M.hi x⟩):=by
 obtain⟨i0,hi0,hz0,hz1,hz2⟩:=info_parts info_write
 obtain⟨CA,cn,cc,HA,hn,hc2⟩:=ma
 obtain⟨sp,lo,hi,fr,tt,st,cp,ch⟩:=M
 simp only at hst hs hc hh ⊢
 subst hst
 have HT:=qD hT
 have HR:=qD h
 have H8:=qD h8
 have HM:=qD hm
 have HC:=qD hc
 have HH:=qD hh
 have HSP:Hid (sp.size≤reach):=hm.sp
 have HXK:=qD hx.hk
 have HXD:=qD hx.hd
 have HRK:=qD hx.key
 have HRD:=qD hx.doc
 have HX0:=qD hx.h0
 have HX1:=qD hx.h1
 have HCS:Hid (cs.toArray.size=78):=by rw[Hid,List.size_toArray];exact hx.len
 have HS:=qD hs
 have HK:=qD hk
 clear hT h h8 hm hc hh hx hs hk
 obtain⟨wa,hwa⟩:∃wa,(((w.alloc (.cells (marr ⟨CA,cn,cc,HA,hn,hc2⟩ ⟨sp,lo,hi,fr,tt,2,cp,ch⟩) 35)).alloc (.cells (rarr a R) 27)).alloc (.cells cs.toArray 67)).alloc (.cells (marr MA.zero Mv.zero) 35)=wa:=⟨_,rfl⟩
 have B0:Hid (Blk wa w.heap.size 35 (marr ⟨CA,cn,cc,HA,hn,hc2⟩ ⟨sp,lo,hi,fr,tt,2,cp,ch⟩)):=by rw[←hwa];exact(((Blk.new_at rfl).alloc _).alloc _).alloc _
 have BR:Hid (Blk wa (w.heap.size+1) 27 (rarr a R)):=by rw[←hwa];exact((Blk.new_at (by simp)).alloc _).alloc _
 have BW:Hid (Blk wa (w.heap.size+2) 67 cs.toArray):=by rw[←hwa];exact(Blk.new_at (by simp)).alloc _
 have BZ:Hid (Blk wa (w.heap.size+3) 35 (marr MA.zero Mv.zero)):=by rw[←hwa];exact Blk.new_at (by simp)
 have BE:Hid (Below w.heap.size w wa):=by rw[←hwa];exact((((Below.refl _ _).alloc (qL) _).alloc (by simp) _).alloc (by simp;omega) _).alloc (by simp;omega) _
 have HW3:Hid (wa.heap.size=w.heap.size+4):=by rw[←hwa];simp[Hid]
 have HWA:=qD hwa
 clear hwa
 go_enter Tryz.func20,Tryz.ntmps20
 go_upto_region 1 with fail
 change Code.wp _ _ _ _ ((((w.alloc (.cells (marr ⟨CA,cn,cc,HA,hn,hc2⟩ ⟨sp,lo,hi,fr,tt,2,cp,ch⟩) 35)).alloc (.cells (rarr a R) 27)).alloc (.cells cs.toArray 67)).alloc (.cells (marr MA.zero Mv.zero) 35))
 rw[HWA.out]
 clear HWA
 have q5:wa.cell? ⟨w.heap.size,5,none⟩=some (.int .i64 2):=B0.out.cell 5
 have HCM:=qD (copyMove_any ⟨sp,lo,hi,fr,tt,2,cp,ch⟩ ⟨CA,cn,cc,HA,hn,hc2⟩ wa (HM.out.step BE.out) HC.out (by have:=HH.out;simp only;omega))
 go_wp2_with (refine wpList_load_row rfl 35 _ rfl (w.heap.size) rfl _ _ _ _ B0.out Tryz.underlying35 rfl (by rw[sizeM];rfl) ?_)
 refine HCM.out.mono ?_
 rintro e w1 ⟨⟨A1,n1,c1,A2,n2,c2⟩,ps1,qs1,rfl,hmo,hb⟩
 have hn2:n2=qs1.length:=hmo.hn
 subst hn2
 have HMO:=qD hmo
 have C0:=qD (B0.out.step hb)
 have CR:=qD (BR.out.step hb)
 have CW:=qD (BW.out.step hb)
 have CZ:=qD (BZ.out.step hb)
 have CE:=qD (BE.out.step' hb)
 clear hmo hb HCM q5 B0 BR BW BZ BE HM
 go_upto_region 4 with(refine wpList_store_row rfl 35 _ _ rfl (w.heap.size) (marr ⟨A1,n1,c1,A2,qs1.length,c2⟩ ⟨sp,lo,hi,fr,tt,2,cp,ch⟩) rfl rfl 35 _ C0.out (by rw[sizeM];rfl) rfl (marr_all _ _) ?_)
 have K0:Hid (Blk (w1.setRow w.heap.size (marr ⟨A1,n1,c1,A2,qs1.length,c2⟩ ⟨sp,lo,hi,fr,tt,2,cp,ch⟩)) w.heap.size 35 (marr ⟨A1,n1,c1,A2,qs1.length,c2⟩ ⟨sp,lo,hi,fr,tt,2,[],[]⟩)):=Blk.row C0.out _
 have KR:=qD (Blk.row_far CR.out (by omega:w.heap.size+1≠w.heap.size) (marr ⟨A1,n1,c1,A2,qs1.length,c2⟩ ⟨sp,lo,hi,fr,tt,2,cp,ch⟩))
 have KW:=qD (Blk.row_far CW.out (by omega:w.heap.size+2≠w.heap.size) (marr ⟨A1,n1,c1,A2,qs1.length,c2⟩ ⟨sp,lo,hi,fr,tt,2,cp,ch⟩))
 have KZ:=qD (Blk.row_far CZ.out (by omega:w.heap.size+3≠w.heap.size) (marr ⟨A1,n1,c1,A2,qs1.length,c2⟩ ⟨sp,lo,hi,fr,tt,2,cp,ch⟩))
 have KE:=qD (below_row CE.out (qL) (marr ⟨A1,n1,c1,A2,qs1.length,c2⟩ ⟨sp,lo,hi,fr,tt,2,cp,ch⟩))
 have MOB:Hid (MO wa.heap.size ⟨A1,n1,c1,A2,qs1.length,c2⟩ ⟨sp,lo,hi,fr,tt,2,cp,ch⟩ ps1 qs1 (w1.setRow w.heap.size (marr ⟨A1,n1,c1,A2,qs1.length,c2⟩ ⟨sp,lo,hi,fr,tt,2,cp,ch⟩))):=HMO.out.keep fun b hb _=>setRow_other _ _ _ _ (by have:=HW3.out;omega)
 clear C0 CR CW CZ CE HMO
 generalize w1.setRow w.heap.size (marr ⟨A1,n1,c1,A2,qs1.length,c2⟩ ⟨sp,lo,hi,fr,tt,2,cp,ch⟩)=wq at*
 have HLP:Hid (ps1.length≤1000):=by have h1:=congrArg List.length MOB.out.cp;rw[List.length_map] at h1;have:=HC.out;unfold Hid;simp only at h1;omega
 have HLEN:Hid (qs1.length≤900):=by have h1:=congrArg List.length MOB.out.ch;rw[List.length_map] at h1;have:=HH.out;unfold Hid;simp only at h1;omega
 have s0:wq.cell? ⟨w.heap.size,0,none⟩=some (.string sp):=K0.out.cell 0
 have s1:wq.cell? ⟨w.heap.size+2,1,none⟩=some (.string sp):=by rw[←HS.out];exact KW.out.cellL HX1.out
 have s2:wq.cell? ⟨w.heap.size+2,0,none⟩=some (.int .i64 x.kd):=KW.out.cellL HX0.out
 rcases HK.out with hk|hk
 ·have d0:wq.cell? ⟨w.heap.size+2,7,none⟩=some (.int .i64 x.dc.k):=KW.out.cellL (HXD.out 0 _ rfl)
  have d1:wq.cell? ⟨w.heap.size+2,8,none⟩=some (.int .i64 x.dc.n):=KW.out.cellL (HXD.out 1 _ rfl)
  have d2:wq.cell? ⟨w.heap.size+2,9,none⟩=some (.string x.dc.t):=KW.out.cellL (HXD.out 2 _ rfl)
  have d3:wq.cell? ⟨w.heap.size+2,10,none⟩=some (.slice x.dc.LA x.dc.ln x.dc.lc):=KW.out.cellL (HXD.out 3 _ rfl)
  have d4:wq.cell? ⟨w.heap.size+2,11,none⟩=some (.slice x.dc.DA x.dc.dn x.dc.dc):=KW.out.cellL (HXD.out 4 _ rfl)
  have HIN:=qD (inside_any ⟨sp,lo,hi,fr,tt,2,[],[]⟩ ⟨A1,n1,c1,A2,qs1.length,c2⟩ R a x.doc x.dc wq (HT.out.step KE.out) (HR.out.step KE.out) (HRD.out.step KE.out) H8.out)
  rw[hk] at s2
  have HKD:=qD hk
  clear hk
  obtain⟨m0,m1,m2,m3,m4,m5,m6,m7⟩:=blk_mv K0.out
  obtain⟨q0,q1,q2,q3,q4,q5,qz⟩:=blk_ro KR.out
  simp only at m6 m7
  clear s0 qz
  go_wp2_with fail
  refine HIN.out.mono ?_
  rintro e wb ⟨rfl,hb⟩
  clear m0 m1 m2 m3 m4 m5 m6 m7 q0 q1 q2 q3 q4 q5
  replace K0:=qD (K0.out.step hb)
  replace KW:=qD (KW.out.step hb)
  replace KZ:=qD (KZ.out.step hb)
  replace KE:=qD (KE.out.step' hb)
  replace MOB:=qD (MOB.out.step hb)
  have KX:=qD (HRD.out)
  have HXC:=HXD
  have t2:wb.cell? ⟨w.heap.size+2,0,none⟩=some (.int .i64 2):=by rw[←HKD.out];exact KW.out.cellL HX0.out
  clear hb s1 s2 d0 d1 d2 d3 d4 KR HIN
  cases hin:insD R lo hi x.doc
  ·have HCL:Hid (noteX R sp lo hi x=[]):=noteX_out HS.out HKD.out hin
   clear hin
   go_wp2_with (first|(refine wpList_load_row rfl 35 _ rfl (w.heap.size) rfl _ _ _ _ K0.out Tryz.underlying35 rfl (by rw[sizeM];rfl) ?_)|(refine wpList_store_row rfl 35 _ _ rfl (w.heap.size+3) (marr ⟨A1,n1,c1,A2,qs1.length,c2⟩ ⟨sp,lo,hi,fr,tt,2,[],[]⟩) rfl rfl 35 _ KZ.out (by rw[sizeM];rfl) rfl (marr_all _ _) ?_))
   refine bodyPost_ret (results_mv rfl _ (w.heap.size+3) rfl (.int .i64 0) rfl _ ⟨A1,n1,c1,A2,qs1.length,c2⟩ ⟨sp,lo,hi,fr,tt,2,[],[]⟩ (Blk.row KZ.out _)) rfl ⟨_,rfl,?_,below_row KE.out (by omega) _⟩
   have h1:=(MOB.out.keep (w':=wb.setRow (w.heap.size+3) (marr ⟨A1,n1,c1,A2,qs1.length,c2⟩ ⟨sp,lo,hi,fr,tt,2,[],[]⟩)) fun b hb _=>setRow_other _ _ _ _ (by have:=HW3.out;omega)).mr (by have:=HLP.out;omega) (by have:=HLEN.out;omega)
   exact⟨h1.sp,h1.cp,by rw[HCL.out,List.append_nil];exact h1.ch⟩
  ·have HCL:Hid (noteX R sp lo hi x=[putW sp x.doc]):=noteX_put HS.out HKD.out hin
   clear hin t2
   go_upto_region 7 with fail
   have B:Hid (Below wb.heap.size wb wb.drew):=qD ((Below.refl wb.heap.size wb).drew)
   have MVS:Hid (∀w':World,Below wb.heap.size wb w'→Blk w' w.heap.size 35 #[.string sp,.string lo,.string hi,.int .i64 fr,.int .i64 tt,.int .i64 2,.slice A1 n1 c1,.slice A2 qs1.length c2]):=qD fun w' hb=>K0.out.step hb
   have KSB:Hid (∀w':World,Blk w' (w.heap.size+2) 67 cs.toArray→(fun w'=>w'.cell? ⟨w.heap.size+2,7,none⟩=some (.int .i64 x.dc.k)∧w'.cell? ⟨w.heap.size+2,8,none⟩=some (.int .i64 x.dc.n)∧w'.cell? ⟨w.heap.size+2,9,none⟩=some (.string x.dc.t)∧w'.cell? ⟨w.heap.size+2,10,none⟩=some (.slice x.dc.LA x.dc.ln x.dc.lc)∧w'.cell? ⟨w.heap.size+2,11,none⟩=some (.slice x.dc.DA x.dc.dn x.dc.dc)) w'):=by
    refine qD fun w' hB=>⟨hB.cellL (HXC.out 0 _ rfl),hB.cellL (HXC.out 1 _ rfl),hB.cellL (HXC.out 2 _ rfl),hB.cellL (HXC.out 3 _ rfl),hB.cellL (HXC.out 4 _ rfl)⟩
   have KSS:Hid (∀w':World,Below wb.heap.size wb w'→(fun w'=>w'.cell? ⟨w.heap.size+2,7,none⟩=some (.int .i64 x.dc.k)∧w'.cell? ⟨w.heap.size+2,8,none⟩=some (.int .i64 x.dc.n)∧w'.cell? ⟨w.heap.size+2,9,none⟩=some (.string x.dc.t)∧w'.cell? ⟨w.heap.size+2,10,none⟩=some (.slice x.dc.LA x.dc.ln x.dc.lc)∧w'.cell? ⟨w.heap.size+2,11,none⟩=some (.slice x.dc.DA x.dc.dn x.dc.dc)) w'):=qD fun w' hb=>KSB.out _ (KW.out.step hb)
   have SRX:Hid (∀w':World,Below wb.heap.size wb w'→RW w' x.dc x.doc):=qD fun w' hb=>KX.out.step (KE.out.step' hb)
   have OWNT:Hid (∀w':World,Below wb.heap.size wb w'→w'.ownsRow wa.heap.size 67 78 (.slice A2 qs1.length c2) qs1.length (flat recW qs1)):=qD fun w' hb=>own_step MOB.out.oh hb
   have HBASE:Hid (wa.heap.size≤wb.heap.size):=by have h1:=KZ.out.lt;have h2:=HW3.out;unfold Hid;omega
   have HNB:Hid (w.heap.size+3<wa.heap.size):=by have h2:=HW3.out;unfold Hid;omega
   have hown0:∀b,b<wa.heap.size→some b≠(Value.slice A2 qs1.length c2).ownBlock:=fun b hb e=>by have:=own_ge MOB.out.oh b e.symm;omega
   have HNE0:Hid (some w.heap.size≠(Value.slice A2 qs1.length c2).ownBlock):=hown0 _ (by have:=HNB.out;omega)
   have FRC:Hid (∀b,wb.heap.size≤b→(Value.slice A1 n1 c1).ownBlock≠some b):=qD fun b hb e=>by have:=own_lt MOB.out.oc e;omega
   have FRH:Hid (∀b,wb.heap.size≤b→(Value.slice A2 qs1.length c2).ownBlock≠some b):=qD fun b hb e=>by have:=own_lt MOB.out.oh e;omega
   have KSA:Hid (∀y2 y3:World,Below wb.heap.size wb y2→y2.grownBy y3 (Value.slice A2 qs1.length c2).ownBlock→(fun w'=>w'.cell? ⟨w.heap.size+2,7,none⟩=some (.int .i64 x.dc.k)∧w'.cell? ⟨w.heap.size+2,8,none⟩=some (.int .i64 x.dc.n)∧w'.cell? ⟨w.heap.size+2,9,none⟩=some (.string x.dc.t)∧w'.cell? ⟨w.heap.size+2,10,none⟩=some (.slice x.dc.LA x.dc.ln x.dc.lc)∧w'.cell? ⟨w.heap.size+2,11,none⟩=some (.slice x.dc.DA x.dc.dn x.dc.dc)) y3):=qD fun y2 y3 h2 hg=>KSB.out _ ((KW.out.step h2).grown hg (hown0 _ (by have:=HNB.out;omega)))
   have OTH:Hid (∀y2 y3:World,Below wb.heap.size wb y2→y2.grownBy y3 (Value.slice A2 qs1.length c2).ownBlock→∀(k:Nat) (v:Value),(fun w'=>w'.cell? ⟨w.heap.size+2,7,none⟩=some (.int .i64 x.dc.k)∧w'.cell? ⟨w.heap.size+2,8,none⟩=some (.int .i64 x.dc.n)∧w'.cell? ⟨w.heap.size+2,9,none⟩=some (.string x.dc.t)∧w'.cell? ⟨w.heap.size+2,10,none⟩=some (.slice x.dc.LA x.dc.ln x.dc.lc)∧w'.cell? ⟨w.heap.size+2,11,none⟩=some (.slice x.dc.DA x.dc.dn x.dc.dc)) (y3.setCell ⟨w.heap.size,k,none⟩ v)∧Blk (y3.setCell ⟨w.heap.size,k,none⟩ v) (w.heap.size+3) 35 (marr MA.zero Mv.zero)∧Below w.heap.size w (y3.setCell ⟨w.heap.size,k,none⟩ v)):=by
    refine qD fun y2 y3 h2 hg k v=>?_
    have h1:=HNB.out
    have e:∀{b:Nat} {t:TypeId} {cs:Array Value},Blk wb b t cs→b≠w.heap.size→some b≠(Value.slice A2 qs1.length c2).ownBlock→Blk (y3.setCell ⟨w.heap.size,k,none⟩ v) b t cs:=fun hB h1 h3=>((hB.step h2).grown hg h3).far h1 v
    exact⟨KSB.out _ (e KW.out (by omega) (hown0 _ (by omega))),e KZ.out (by omega) (hown0 _ (by omega)),((KE.out.step' h2).grown hg (Nat.le_trans KE.out.size h2.size) (fun g e=>by have:=own_ge MOB.out.oh g e;omega)).setCell (qL) v⟩
   clear hown0 K0 KZ KW KX
   refine wp_region_noPanic ?_
   refine wp_region_held_drew (S:=(fun w'=>w'.cell? ⟨w.heap.size+2,7,none⟩=some (.int .i64 x.dc.k)∧w'.cell? ⟨w.heap.size+2,8,none⟩=some (.int .i64 x.dc.n)∧w'.cell? ⟨w.heap.size+2,9,none⟩=some (.string x.dc.t)∧w'.cell? ⟨w.heap.size+2,10,none⟩=some (.slice x.dc.LA x.dc.ln x.dc.lc)∧w'.cell? ⟨w.heap.size+2,11,none⟩=some (.slice x.dc.DA x.dc.dn x.dc.dc))) (by kernel_rfl) ?_ (fun hHeld=>?_)
   ·(try dsimp only);exact KSS.out _ B.out
   generalize wb.drew=v0 at*
   refine rU 0 rfl ?_
   try go_frame
   refine rU 3 rfl ?_
   try go_frame
   refine rU 4 rfl ?_
   try go_frame
   refine rR [1,2] ?_
   refine rC (fun K hK=>?_) (rC (fun K hK=>?_) rN)
   ·have q6:v0.cell? ⟨w.heap.size,7,none⟩=some (.slice A2 qs1.length c2):=(MVS.out _ B.out).cell 7
    go_simp
    clear q6
    clear hHeld
    refine hK.out _ _ ?_ fun hHeld=>?_
    ·(try dsimp only);exact KSS.out _ B.out
    clear hK K
    try go_frame
    refine rY 2 rfl fun K hK=>?_
    refine wp_load_row 35 _ rfl w.heap.size rfl _ _ _ _ (MVS.out _ B.out) Tryz.underlying35 rfl (by rw[sizeM];rfl) ?_
    clear hHeld
    refine hK.out _ _ ?_ fun hHeld=>?_
    ·(try dsimp only);exact KSS.out _ B.out
    clear hK K
    try go_frame
    refine rY 5 rfl fun K hK=>?_
    go_simp
    refine(put_any ⟨sp,lo,hi,fr,tt,2,cp,ch⟩ ⟨A1,n1,c1,A2,qs1.length,c2⟩ x.doc x.dc v0 HSP.out (SRX.out _ B.out)).mono ?_
    rintro e3 y1 ⟨wc,rfl,hr,hb⟩
    have P1:=qD (hr.mono (G:=fun b=>wb.heap.size≤b) (fun b hb2=>Nat.le_trans B.out.size hb2))
    have B1:=qD (B.out.step' hb)
    clear hb hr
    (try go_wp2_with fail)
    clear hHeld
    refine hK.out _ _ ?_ fun hHeld=>?_
    ·(try dsimp only);exact KSS.out _ B1.out
    clear hK K
    try go_frame
    refine rY 6 rfl fun K hK=>?_
    refine wp_buildSlice 33 67 1 _ rfl (recC78 wc).toArray i0 _ Tryz.underlying33 hi0 hz0 (by rw[hz1];decide) (by rw[hz1];decide) (by rw[hz1];exact build_write rfl) ?_
    have N2:Hid (Blk (y1.alloc (.cells (recC78 wc).toArray 67)) y1.heap.size 67 (recC78 wc).toArray):=Blk.new_at rfl
    have P2:=qD (P1.out.alloc (.cells (recC78 wc).toArray 67))
    have B2:=qD (B1.out.alloc B1.out.size (Obj.cells (recC78 wc).toArray 67))
    generalize y1.alloc (.cells (recC78 wc).toArray 67)=y2 at*
    generalize y1.heap.size=gn at*
    clear hHeld
    refine hK.out _ _ ?_ fun hHeld=>?_
    ·(try dsimp only);exact KSS.out _ B2.out
    clear hK K
    try go_frame
    refine rY 7 rfl fun K hK=>?_
    have O2:=qD (OWNT.out _ B2.out)
    refine wp_append_any y2 (.tmp 32) (.tmp 37) 33 rfl wa.heap.size 67 i0 _ 78 1168 Tryz.underlying33 hi0 hz0 hz1 hz2 rfl (by decide) (.slice A2 qs1.length c2) qs1.length (flat recW qs1) rfl O2.out y2.heap.size (some ⟨gn,0,none⟩) 1 1 (recC78 wc) rfl (reads_one N2.out N2.out.lt) (recC78_one wc) (by unfold maxLen;have:=HLEN.out;omega) (by have:=HLEN.out;omega) (Nat.le_trans HBASE.out B2.out.size) ?_
    intro v5 y3 hown hgr hat
    obtain⟨A5,c5,rfl,hc5⟩:=own_slice hown
    have BM3:=qD ((MVS.out _ B2.out).grown hgr HNE0.out)
    have MO3:=qD ((MOB.out.step B2.out).addH (P2.out.mono fun b hb=>⟨Nat.le_trans HBASE.out hb,FRC.out b hb,FRH.out b hb⟩) hown hgr hat)
    have GR:=qD hgr
    clear hown hgr hat hc5
    clear hHeld
    refine hK.out _ _ ?_ fun hHeld=>?_
    ·(try dsimp only);exact KSA.out _ _ B2.out GR.out
    clear hK K
    try go_frame
    refine rU 8 rfl ?_
    try go_frame
    refine rY 9 rfl fun K hK=>?_
    have q6:y3.cell? ⟨w.heap.size,7,none⟩=some (.slice A2 qs1.length c2):=BM3.out.cell 7
    have z6:=BM3.out.frozen 7
    go_simp
    change K _ (y3.setCell ⟨w.heap.size,7,none⟩ (.slice A5 (qs1.length+1) c5))
    have BM4:Hid (Blk (y3.setCell ⟨w.heap.size,7,none⟩ (.slice A5 (qs1.length+1) c5)) w.heap.size 35 #[.string sp,.string lo,.string hi,.int .i64 fr,.int .i64 tt,.int .i64 2,.slice A1 n1 c1,.slice A5 (qs1.length+1) c5]):=BM3.out.set_ 7 _
    have MO4:=qD (MO3.out.keep (w':=y3.setCell ⟨w.heap.size,7,none⟩ (.slice A5 (qs1.length+1) c5)) fun b hb _=>Below.heap_setCell _ _ _ b (by show b≠w.heap.size;have:=HNB.out;omega))
    have OT4:=qD (OTH.out _ _ B2.out GR.out 7 (.slice A5 (qs1.length+1) c5))
    clear q6 z6 BM3 MO3 GR
    generalize y3.setCell ⟨w.heap.size,7,none⟩ (.slice A5 (qs1.length+1) c5)=y4 at*
    clear hHeld
    refine hK.out _ _ ?_ fun hHeld=>?_
    ·(try dsimp only);exact OT4.out.1
    clear hK K
    try go_frame
    refine rD ?_ _
    refine NoPanic.normal ?_
    go_wp2_with (first|(refine wpList_load_row rfl 35 _ rfl (w.heap.size) rfl _ _ _ _ BM4.out Tryz.underlying35 rfl (by rw[sizeM];rfl) ?_)|(refine wpList_store_row rfl 35 _ _ rfl (w.heap.size+3) (marr ⟨A1,n1,c1,A5,(qs1.length+1),c5⟩ ⟨sp,lo,hi,fr,tt,2,[],[]⟩) rfl rfl 35 _ OT4.out.2.1 (by rw[sizeM];rfl) rfl (marr_all _ _) ?_))
    refine bodyPost_ret (results_mv rfl _ (w.heap.size+3) rfl (.int .i64 0) rfl _ ⟨A1,n1,c1,A5,(qs1.length+1),c5⟩ ⟨sp,lo,hi,fr,tt,2,[],[]⟩ (Blk.row OT4.out.2.1 _)) rfl ⟨_,rfl,?_,below_row OT4.out.2.2 (by omega) _⟩
    have h1:=(MO4.out.keep (w':=y4.setRow (w.heap.size+3) (marr ⟨A1,n1,c1,A5,(qs1.length+1),c5⟩ ⟨sp,lo,hi,fr,tt,2,[],[]⟩)) fun b hb _=>setRow_other _ _ _ _ (by have:=HW3.out;omega)).mr (by have:=HLP.out;omega) (by rw[List.length_append];simp only[List.length_singleton];have:=HLEN.out;omega)
    exact⟨h1.sp,h1.cp,by rw[HCL.out];exact h1.ch⟩
   ·refine wp_load_row 35 _ rfl w.heap.size rfl _ _ _ _ (MVS.out _ B.out) Tryz.underlying35 rfl (by rw[sizeM];rfl) ?_
    clear hHeld
    refine hK.out _ _ ?_ fun hHeld=>?_
    ·(try dsimp only);exact KSS.out _ B.out
    clear hK K
    try go_frame
    refine rR [1,5] ?_
    refine rC (fun K hK=>?_) (rC (fun K hK=>?_) rN)
    ·have q6:v0.cell? ⟨w.heap.size,7,none⟩=some (.slice A2 qs1.length c2):=(MVS.out _ B.out).cell 7
     go_simp
     clear q6
     clear hHeld
     refine hK.out _ _ ?_ fun hHeld=>?_
     ·(try dsimp only);exact KSS.out _ B.out
     clear hK K
     try go_frame
     refine rY 5 rfl fun K hK=>?_
     go_simp
     refine(put_any ⟨sp,lo,hi,fr,tt,2,cp,ch⟩ ⟨A1,n1,c1,A2,qs1.length,c2⟩ x.doc x.dc v0 HSP.out (SRX.out _ B.out)).mono ?_
     rintro e3 y1 ⟨wc,rfl,hr,hb⟩
     have P1:=qD (hr.mono (G:=fun b=>wb.heap.size≤b) (fun b hb2=>Nat.le_trans B.out.size hb2))
     have B1:=qD (B.out.step' hb)
     clear hb hr
     (try go_wp2_with fail)
     clear hHeld
     refine hK.out _ _ ?_ fun hHeld=>?_
     ·(try dsimp only);exact KSS.out _ B1.out
     clear hK K
     try go_frame
     refine rY 6 rfl fun K hK=>?_
     refine wp_buildSlice 33 67 1 _ rfl (recC78 wc).toArray i0 _ Tryz.underlying33 hi0 hz0 (by rw[hz1];decide) (by rw[hz1];decide) (by rw[hz1];exact build_write rfl) ?_
     have N2:Hid (Blk (y1.alloc (.cells (recC78 wc).toArray 67)) y1.heap.size 67 (recC78 wc).toArray):=Blk.new_at rfl
     have P2:=qD (P1.out.alloc (.cells (recC78 wc).toArray 67))
     have B2:=qD (B1.out.alloc B1.out.size (Obj.cells (recC78 wc).toArray 67))
     generalize y1.alloc (.cells (recC78 wc).toArray 67)=y2 at*
     generalize y1.heap.size=gn at*
     clear hHeld
     refine hK.out _ _ ?_ fun hHeld=>?_
     ·(try dsimp only);exact KSS.out _ B2.out
     clear hK K
     try go_frame
     refine rY 7 rfl fun K hK=>?_
     have O2:=qD (OWNT.out _ B2.out)
     refine wp_append_any y2 (.tmp 32) (.tmp 37) 33 rfl wa.heap.size 67 i0 _ 78 1168 Tryz.underlying33 hi0 hz0 hz1 hz2 rfl (by decide) (.slice A2 qs1.length c2) qs1.length (flat recW qs1) rfl O2.out y2.heap.size (some ⟨gn,0,none⟩) 1 1 (recC78 wc) rfl (reads_one N2.out N2.out.lt) (recC78_one wc) (by unfold maxLen;have:=HLEN.out;omega) (by have:=HLEN.out;omega) (Nat.le_trans HBASE.out B2.out.size) ?_
     intro v5 y3 hown hgr hat
     obtain⟨A5,c5,rfl,hc5⟩:=own_slice hown
     have BM3:=qD ((MVS.out _ B2.out).grown hgr HNE0.out)
     have MO3:=qD ((MOB.out.step B2.out).addH (P2.out.mono fun b hb=>⟨Nat.le_trans HBASE.out hb,FRC.out b hb,FRH.out b hb⟩) hown hgr hat)
     have GR:=qD hgr
     clear hown hgr hat hc5
     clear hHeld
     refine hK.out _ _ ?_ fun hHeld=>?_
     ·(try dsimp only);exact KSA.out _ _ B2.out GR.out
     clear hK K
     try go_frame
     refine rU 8 rfl ?_
     try go_frame
     refine rY 9 rfl fun K hK=>?_
     have q6:y3.cell? ⟨w.heap.size,7,none⟩=some (.slice A2 qs1.length c2):=BM3.out.cell 7
     have z6:=BM3.out.frozen 7
     go_simp
     change K _ (y3.setCell ⟨w.heap.size,7,none⟩ (.slice A5 (qs1.length+1) c5))
     have BM4:Hid (Blk (y3.setCell ⟨w.heap.size,7,none⟩ (.slice A5 (qs1.length+1) c5)) w.heap.size 35 #[.string sp,.string lo,.string hi,.int .i64 fr,.int .i64 tt,.int .i64 2,.slice A1 n1 c1,.slice A5 (qs1.length+1) c5]):=BM3.out.set_ 7 _
     have MO4:=qD (MO3.out.keep (w':=y3.setCell ⟨w.heap.size,7,none⟩ (.slice A5 (qs1.length+1) c5)) fun b hb _=>Below.heap_setCell _ _ _ b (by show b≠w.heap.size;have:=HNB.out;omega))
     have OT4:=qD (OTH.out _ _ B2.out GR.out 7 (.slice A5 (qs1.length+1) c5))
     clear q6 z6 BM3 MO3 GR
     generalize y3.setCell ⟨w.heap.size,7,none⟩ (.slice A5 (qs1.length+1) c5)=y4 at*
     clear hHeld
     refine hK.out _ _ ?_ fun hHeld=>?_
     ·(try dsimp only);exact OT4.out.1
     clear hK K
     try go_frame
     refine rD ?_ _
     refine NoPanic.normal ?_
     go_wp2_with (first|(refine wpList_load_row rfl 35 _ rfl (w.heap.size) rfl _ _ _ _ BM4.out Tryz.underlying35 rfl (by rw[sizeM];rfl) ?_)|(refine wpList_store_row rfl 35 _ _ rfl (w.heap.size+3) (marr ⟨A1,n1,c1,A5,(qs1.length+1),c5⟩ ⟨sp,lo,hi,fr,tt,2,[],[]⟩) rfl rfl 35 _ OT4.out.2.1 (by rw[sizeM];rfl) rfl (marr_all _ _) ?_))
     refine bodyPost_ret (results_mv rfl _ (w.heap.size+3) rfl (.int .i64 0) rfl _ ⟨A1,n1,c1,A5,(qs1.length+1),c5⟩ ⟨sp,lo,hi,fr,tt,2,[],[]⟩ (Blk.row OT4.out.2.1 _)) rfl ⟨_,rfl,?_,below_row OT4.out.2.2 (by omega) _⟩
     have h1:=(MO4.out.keep (w':=y4.setRow (w.heap.size+3) (marr ⟨A1,n1,c1,A5,(qs1.length+1),c5⟩ ⟨sp,lo,hi,fr,tt,2,[],[]⟩)) fun b hb _=>setRow_other _ _ _ _ (by have:=HW3.out;omega)).mr (by have:=HLP.out;omega) (by rw[List.length_append];simp only[List.length_singleton];have:=HLEN.out;omega)
     exact⟨h1.sp,h1.cp,by rw[HCL.out];exact h1.ch⟩
    ·go_simp
     refine(put_any ⟨sp,lo,hi,fr,tt,2,cp,ch⟩ ⟨A1,n1,c1,A2,qs1.length,c2⟩ x.doc x.dc v0 HSP.out (SRX.out _ B.out)).mono ?_
     rintro e3 y1 ⟨wc,rfl,hr,hb⟩
     have P1:=qD (hr.mono (G:=fun b=>wb.heap.size≤b) (fun b hb2=>Nat.le_trans B.out.size hb2))
     have B1:=qD (B.out.step' hb)
     clear hb hr
     (try go_wp2_with fail)
     clear hHeld
     refine hK.out _ _ ?_ fun hHeld=>?_
     ·(try dsimp only);exact KSS.out _ B1.out
     clear hK K
     try go_frame
     refine rR [1,6] ?_
     refine rC (fun K hK=>?_) (rC (fun K hK=>?_) rN)
     ·have q6:y1.cell? ⟨w.heap.size,7,none⟩=some (.slice A2 qs1.length c2):=(MVS.out _ B1.out).cell 7
      go_simp
      clear q6
      clear hHeld
      refine hK.out _ _ ?_ fun hHeld=>?_
      ·(try dsimp only);exact KSS.out _ B1.out
      clear hK K
      try go_frame
      refine rY 6 rfl fun K hK=>?_
      refine wp_buildSlice 33 67 1 _ rfl (recC78 wc).toArray i0 _ Tryz.underlying33 hi0 hz0 (by rw[hz1];decide) (by rw[hz1];decide) (by rw[hz1];exact build_write rfl) ?_
      have N2:Hid (Blk (y1.alloc (.cells (recC78 wc).toArray 67)) y1.heap.size 67 (recC78 wc).toArray):=Blk.new_at rfl
      have P2:=qD (P1.out.alloc (.cells (recC78 wc).toArray 67))
      have B2:=qD (B1.out.alloc B1.out.size (Obj.cells (recC78 wc).toArray 67))
      generalize y1.alloc (.cells (recC78 wc).toArray 67)=y2 at*
      generalize y1.heap.size=gn at*
      clear hHeld
      refine hK.out _ _ ?_ fun hHeld=>?_
      ·(try dsimp only);exact KSS.out _ B2.out
      clear hK K
      try go_frame
      refine rY 7 rfl fun K hK=>?_
      have O2:=qD (OWNT.out _ B2.out)
      refine wp_append_any y2 (.tmp 32) (.tmp 37) 33 rfl wa.heap.size 67 i0 _ 78 1168 Tryz.underlying33 hi0 hz0 hz1 hz2 rfl (by decide) (.slice A2 qs1.length c2) qs1.length (flat recW qs1) rfl O2.out y2.heap.size (some ⟨gn,0,none⟩) 1 1 (recC78 wc) rfl (reads_one N2.out N2.out.lt) (recC78_one wc) (by unfold maxLen;have:=HLEN.out;omega) (by have:=HLEN.out;omega) (Nat.le_trans HBASE.out B2.out.size) ?_
      intro v5 y3 hown hgr hat
      obtain⟨A5,c5,rfl,hc5⟩:=own_slice hown
      have BM3:=qD ((MVS.out _ B2.out).grown hgr HNE0.out)
      have MO3:=qD ((MOB.out.step B2.out).addH (P2.out.mono fun b hb=>⟨Nat.le_trans HBASE.out hb,FRC.out b hb,FRH.out b hb⟩) hown hgr hat)
      have GR:=qD hgr
      clear hown hgr hat hc5
      clear hHeld
      refine hK.out _ _ ?_ fun hHeld=>?_
      ·(try dsimp only);exact KSA.out _ _ B2.out GR.out
      clear hK K
      try go_frame
      refine rU 8 rfl ?_
      try go_frame
      refine rY 9 rfl fun K hK=>?_
      have q6:y3.cell? ⟨w.heap.size,7,none⟩=some (.slice A2 qs1.length c2):=BM3.out.cell 7
      have z6:=BM3.out.frozen 7
      go_simp
      change K _ (y3.setCell ⟨w.heap.size,7,none⟩ (.slice A5 (qs1.length+1) c5))
      have BM4:Hid (Blk (y3.setCell ⟨w.heap.size,7,none⟩ (.slice A5 (qs1.length+1) c5)) w.heap.size 35 #[.string sp,.string lo,.string hi,.int .i64 fr,.int .i64 tt,.int .i64 2,.slice A1 n1 c1,.slice A5 (qs1.length+1) c5]):=BM3.out.set_ 7 _
      have MO4:=qD (MO3.out.keep (w':=y3.setCell ⟨w.heap.size,7,none⟩ (.slice A5 (qs1.length+1) c5)) fun b hb _=>Below.heap_setCell _ _ _ b (by show b≠w.heap.size;have:=HNB.out;omega))
      have OT4:=qD (OTH.out _ _ B2.out GR.out 7 (.slice A5 (qs1.length+1) c5))
      clear q6 z6 BM3 MO3 GR
      generalize y3.setCell ⟨w.heap.size,7,none⟩ (.slice A5 (qs1.length+1) c5)=y4 at*
      clear hHeld
      refine hK.out _ _ ?_ fun hHeld=>?_
      ·(try dsimp only);exact OT4.out.1
      clear hK K
      try go_frame
      refine rD ?_ _
      refine NoPanic.normal ?_
      go_wp2_with (first|(refine wpList_load_row rfl 35 _ rfl (w.heap.size) rfl _ _ _ _ BM4.out Tryz.underlying35 rfl (by rw[sizeM];rfl) ?_)|(refine wpList_store_row rfl 35 _ _ rfl (w.heap.size+3) (marr ⟨A1,n1,c1,A5,(qs1.length+1),c5⟩ ⟨sp,lo,hi,fr,tt,2,[],[]⟩) rfl rfl 35 _ OT4.out.2.1 (by rw[sizeM];rfl) rfl (marr_all _ _) ?_))
      refine bodyPost_ret (results_mv rfl _ (w.heap.size+3) rfl (.int .i64 0) rfl _ ⟨A1,n1,c1,A5,(qs1.length+1),c5⟩ ⟨sp,lo,hi,fr,tt,2,[],[]⟩ (Blk.row OT4.out.2.1 _)) rfl ⟨_,rfl,?_,below_row OT4.out.2.2 (by omega) _⟩
      have h1:=(MO4.out.keep (w':=y4.setRow (w.heap.size+3) (marr ⟨A1,n1,c1,A5,(qs1.length+1),c5⟩ ⟨sp,lo,hi,fr,tt,2,[],[]⟩)) fun b hb _=>setRow_other _ _ _ _ (by have:=HW3.out;omega)).mr (by have:=HLP.out;omega) (by rw[List.length_append];simp only[List.length_singleton];have:=HLEN.out;omega)
      exact⟨h1.sp,h1.cp,by rw[HCL.out];exact h1.ch⟩
     ·refine wp_buildSlice 33 67 1 _ rfl (recC78 wc).toArray i0 _ Tryz.underlying33 hi0 hz0 (by rw[hz1];decide) (by rw[hz1];decide) (by rw[hz1];exact build_write rfl) ?_
      have N2:Hid (Blk (y1.alloc (.cells (recC78 wc).toArray 67)) y1.heap.size 67 (recC78 wc).toArray):=Blk.new_at rfl
      have P2:=qD (P1.out.alloc (.cells (recC78 wc).toArray 67))
      have B2:=qD (B1.out.alloc B1.out.size (Obj.cells (recC78 wc).toArray 67))
      generalize y1.alloc (.cells (recC78 wc).toArray 67)=y2 at*
      generalize y1.heap.size=gn at*
      clear hHeld
      refine hK.out _ _ ?_ fun hHeld=>?_
      ·(try dsimp only);exact KSS.out _ B2.out
      clear hK K
      try go_frame
      refine rY 1 rfl fun K hK=>?_
      have q6:y2.cell? ⟨w.heap.size,7,none⟩=some (.slice A2 qs1.length c2):=(MVS.out _ B2.out).cell 7
      go_simp
      clear q6
      clear hHeld
      refine hK.out _ _ ?_ fun hHeld=>?_
      ·(try dsimp only);exact KSS.out _ B2.out
      clear hK K
      try go_frame
      refine rY 7 rfl fun K hK=>?_
      have O2:=qD (OWNT.out _ B2.out)
      refine wp_append_any y2 (.tmp 32) (.tmp 37) 33 rfl wa.heap.size 67 i0 _ 78 1168 Tryz.underlying33 hi0 hz0 hz1 hz2 rfl (by decide) (.slice A2 qs1.length c2) qs1.length (flat recW qs1) rfl O2.out y2.heap.size (some ⟨gn,0,none⟩) 1 1 (recC78 wc) rfl (reads_one N2.out N2.out.lt) (recC78_one wc) (by unfold maxLen;have:=HLEN.out;omega) (by have:=HLEN.out;omega) (Nat.le_trans HBASE.out B2.out.size) ?_
      intro v5 y3 hown hgr hat
      obtain⟨A5,c5,rfl,hc5⟩:=own_slice hown
      have BM3:=qD ((MVS.out _ B2.out).grown hgr HNE0.out)
      have MO3:=qD ((MOB.out.step B2.out).addH (P2.out.mono fun b hb=>⟨Nat.le_trans HBASE.out hb,FRC.out b hb,FRH.out b hb⟩) hown hgr hat)
      have GR:=qD hgr
      clear hown hgr hat hc5
      clear hHeld
      refine hK.out _ _ ?_ fun hHeld=>?_
      ·(try dsimp only);exact KSA.out _ _ B2.out GR.out
      clear hK K
      try go_frame
      refine rU 8 rfl ?_
      try go_frame
      refine rY 9 rfl fun K hK=>?_
      have q6:y3.cell? ⟨w.heap.size,7,none⟩=some (.slice A2 qs1.length c2):=BM3.out.cell 7
      have z6:=BM3.out.frozen 7
      go_simp
      change K _ (y3.setCell ⟨w.heap.size,7,none⟩ (.slice A5 (qs1.length+1) c5))
      have BM4:Hid (Blk (y3.setCell ⟨w.heap.size,7,none⟩ (.slice A5 (qs1.length+1) c5)) w.heap.size 35 #[.string sp,.string lo,.string hi,.int .i64 fr,.int .i64 tt,.int .i64 2,.slice A1 n1 c1,.slice A5 (qs1.length+1) c5]):=BM3.out.set_ 7 _
      have MO4:=qD (MO3.out.keep (w':=y3.setCell ⟨w.heap.size,7,none⟩ (.slice A5 (qs1.length+1) c5)) fun b hb _=>Below.heap_setCell _ _ _ b (by show b≠w.heap.size;have:=HNB.out;omega))
      have OT4:=qD (OTH.out _ _ B2.out GR.out 7 (.slice A5 (qs1.length+1) c5))
      clear q6 z6 BM3 MO3 GR
      generalize y3.setCell ⟨w.heap.size,7,none⟩ (.slice A5 (qs1.length+1) c5)=y4 at*
      clear hHeld
      refine hK.out _ _ ?_ fun hHeld=>?_
      ·(try dsimp only);exact OT4.out.1
      clear hK K
      try go_frame
      refine rD ?_ _
      refine NoPanic.normal ?_
      go_wp2_with (first|(refine wpList_load_row rfl 35 _ rfl (w.heap.size) rfl _ _ _ _ BM4.out Tryz.underlying35 rfl (by rw[sizeM];rfl) ?_)|(refine wpList_store_row rfl 35 _ _ rfl (w.heap.size+3) (marr ⟨A1,n1,c1,A5,(qs1.length+1),c5⟩ ⟨sp,lo,hi,fr,tt,2,[],[]⟩) rfl rfl 35 _ OT4.out.2.1 (by rw[sizeM];rfl) rfl (marr_all _ _) ?_))
      refine bodyPost_ret (results_mv rfl _ (w.heap.size+3) rfl (.int .i64 0) rfl _ ⟨A1,n1,c1,A5,(qs1.length+1),c5⟩ ⟨sp,lo,hi,fr,tt,2,[],[]⟩ (Blk.row OT4.out.2.1 _)) rfl ⟨_,rfl,?_,below_row OT4.out.2.2 (by omega) _⟩
      have h1:=(MO4.out.keep (w':=y4.setRow (w.heap.size+3) (marr ⟨A1,n1,c1,A5,(qs1.length+1),c5⟩ ⟨sp,lo,hi,fr,tt,2,[],[]⟩)) fun b hb _=>setRow_other _ _ _ _ (by have:=HW3.out;omega)).mr (by have:=HLP.out;omega) (by rw[List.length_append];simp only[List.length_singleton];have:=HLEN.out;omega)
      exact⟨h1.sp,h1.cp,by rw[HCL.out];exact h1.ch⟩
 ·generalize wq=wb at*
  have HCL:Hid (noteX R sp lo hi x=[remW sp x.key]):=noteX_rem HS.out hk
  rw[hk] at s2
  clear hk
  have KX:=qD (HRK.out)
  have HXC:=HXK
  go_upto_region 9 with fail
  clear s0 s1 s2 KR
  have B:Hid (Below wb.heap.size wb wb.drew):=qD ((Below.refl wb.heap.size wb).drew)
  have MVS:Hid (∀w':World,Below wb.heap.size wb w'→Blk w' w.heap.size 35 #[.string sp,.string lo,.string hi,.int .i64 fr,.int .i64 tt,.int .i64 2,.slice A1 n1 c1,.slice A2 qs1.length c2]):=qD fun w' hb=>K0.out.step hb
  have KSB:Hid (∀w':World,Blk w' (w.heap.size+2) 67 cs.toArray→(fun w'=>w'.cell? ⟨w.heap.size+2,2,none⟩=some (.int .i64 x.kc.k)∧w'.cell? ⟨w.heap.size+2,3,none⟩=some (.int .i64 x.kc.n)∧w'.cell? ⟨w.heap.size+2,4,none⟩=some (.string x.kc.t)∧w'.cell? ⟨w.heap.size+2,5,none⟩=some (.slice x.kc.LA x.kc.ln x.kc.lc)∧w'.cell? ⟨w.heap.size+2,6,none⟩=some (.slice x.kc.DA x.kc.dn x.kc.dc)) w'):=by
   refine qD fun w' hB=>⟨hB.cellL (HXC.out 0 _ rfl),hB.cellL (HXC.out 1 _ rfl),hB.cellL (HXC.out 2 _ rfl),hB.cellL (HXC.out 3 _ rfl),hB.cellL (HXC.out 4 _ rfl)⟩
  have KSS:Hid (∀w':World,Below wb.heap.size wb w'→(fun w'=>w'.cell? ⟨w.heap.size+2,2,none⟩=some (.int .i64 x.kc.k)∧w'.cell? ⟨w.heap.size+2,3,none⟩=some (.int .i64 x.kc.n)∧w'.cell? ⟨w.heap.size+2,4,none⟩=some (.string x.kc.t)∧w'.cell? ⟨w.heap.size+2,5,none⟩=some (.slice x.kc.LA x.kc.ln x.kc.lc)∧w'.cell? ⟨w.heap.size+2,6,none⟩=some (.slice x.kc.DA x.kc.dn x.kc.dc)) w'):=qD fun w' hb=>KSB.out _ (KW.out.step hb)
  have SRX:Hid (∀w':World,Below wb.heap.size wb w'→RW w' x.kc x.key):=qD fun w' hb=>KX.out.step (KE.out.step' hb)
  have OWNT:Hid (∀w':World,Below wb.heap.size wb w'→w'.ownsRow wa.heap.size 67 78 (.slice A2 qs1.length c2) qs1.length (flat recW qs1)):=qD fun w' hb=>own_step MOB.out.oh hb
  have HBASE:Hid (wa.heap.size≤wb.heap.size):=by have h1:=KZ.out.lt;have h2:=HW3.out;unfold Hid;omega
  have HNB:Hid (w.heap.size+3<wa.heap.size):=by have h2:=HW3.out;unfold Hid;omega
  have hown0:∀b,b<wa.heap.size→some b≠(Value.slice A2 qs1.length c2).ownBlock:=fun b hb e=>by have:=own_ge MOB.out.oh b e.symm;omega
  have HNE0:Hid (some w.heap.size≠(Value.slice A2 qs1.length c2).ownBlock):=hown0 _ (by have:=HNB.out;omega)
  have FRC:Hid (∀b,wb.heap.size≤b→(Value.slice A1 n1 c1).ownBlock≠some b):=qD fun b hb e=>by have:=own_lt MOB.out.oc e;omega
  have FRH:Hid (∀b,wb.heap.size≤b→(Value.slice A2 qs1.length c2).ownBlock≠some b):=qD fun b hb e=>by have:=own_lt MOB.out.oh e;omega
  have KSA:Hid (∀y2 y3:World,Below wb.heap.size wb y2→y2.grownBy y3 (Value.slice A2 qs1.length c2).ownBlock→(fun w'=>w'.cell? ⟨w.heap.size+2,2,none⟩=some (.int .i64 x.kc.k)∧w'.cell? ⟨w.heap.size+2,3,none⟩=some (.int .i64 x.kc.n)∧w'.cell? ⟨w.heap.size+2,4,none⟩=some (.string x.kc.t)∧w'.cell? ⟨w.heap.size+2,5,none⟩=some (.slice x.kc.LA x.kc.ln x.kc.lc)∧w'.cell? ⟨w.heap.size+2,6,none⟩=some (.slice x.kc.DA x.kc.dn x.kc.dc)) y3):=qD fun y2 y3 h2 hg=>KSB.out _ ((KW.out.step h2).grown hg (hown0 _ (by have:=HNB.out;omega)))
  have OTH:Hid (∀y2 y3:World,Below wb.heap.size wb y2→y2.grownBy y3 (Value.slice A2 qs1.length c2).ownBlock→∀(k:Nat) (v:Value),(fun w'=>w'.cell? ⟨w.heap.size+2,2,none⟩=some (.int .i64 x.kc.k)∧w'.cell? ⟨w.heap.size+2,3,none⟩=some (.int .i64 x.kc.n)∧w'.cell? ⟨w.heap.size+2,4,none⟩=some (.string x.kc.t)∧w'.cell? ⟨w.heap.size+2,5,none⟩=some (.slice x.kc.LA x.kc.ln x.kc.lc)∧w'.cell? ⟨w.heap.size+2,6,none⟩=some (.slice x.kc.DA x.kc.dn x.kc.dc)) (y3.setCell ⟨w.heap.size,k,none⟩ v)∧Blk (y3.setCell ⟨w.heap.size,k,none⟩ v) (w.heap.size+3) 35 (marr MA.zero Mv.zero)∧Below w.heap.size w (y3.setCell ⟨w.heap.size,k,none⟩ v)):=by
   refine qD fun y2 y3 h2 hg k v=>?_
   have h1:=HNB.out
   have e:∀{b:Nat} {t:TypeId} {cs:Array Value},Blk wb b t cs→b≠w.heap.size→some b≠(Value.slice A2 qs1.length c2).ownBlock→Blk (y3.setCell ⟨w.heap.size,k,none⟩ v) b t cs:=fun hB h1 h3=>((hB.step h2).grown hg h3).far h1 v
   exact⟨KSB.out _ (e KW.out (by omega) (hown0 _ (by omega))),e KZ.out (by omega) (hown0 _ (by omega)),((KE.out.step' h2).grown hg (Nat.le_trans KE.out.size h2.size) (fun g e=>by have:=own_ge MOB.out.oh g e;omega)).setCell (qL) v⟩
  clear hown0 K0 KZ KW KX
  refine wp_region_noPanic ?_
  refine wp_region_held_drew (S:=(fun w'=>w'.cell? ⟨w.heap.size+2,2,none⟩=some (.int .i64 x.kc.k)∧w'.cell? ⟨w.heap.size+2,3,none⟩=some (.int .i64 x.kc.n)∧w'.cell? ⟨w.heap.size+2,4,none⟩=some (.string x.kc.t)∧w'.cell? ⟨w.heap.size+2,5,none⟩=some (.slice x.kc.LA x.kc.ln x.kc.lc)∧w'.cell? ⟨w.heap.size+2,6,none⟩=some (.slice x.kc.DA x.kc.dn x.kc.dc))) (by kernel_rfl) ?_ (fun hHeld=>?_)
  ·(try dsimp only);exact KSS.out _ B.out
  generalize wb.drew=v0 at*
  refine rU 0 rfl ?_
  try go_frame
  refine rU 3 rfl ?_
  try go_frame
  refine rU 4 rfl ?_
  try go_frame
  refine rR [1,2] ?_
  refine rC (fun K hK=>?_) (rC (fun K hK=>?_) rN)
  ·have q6:v0.cell? ⟨w.heap.size,7,none⟩=some (.slice A2 qs1.length c2):=(MVS.out _ B.out).cell 7
   go_simp
   clear q6
   clear hHeld
   refine hK.out _ _ ?_ fun hHeld=>?_
   ·(try dsimp only);exact KSS.out _ B.out
   clear hK K
   try go_frame
   refine rY 2 rfl fun K hK=>?_
   refine wp_load_row 35 _ rfl w.heap.size rfl _ _ _ _ (MVS.out _ B.out) Tryz.underlying35 rfl (by rw[sizeM];rfl) ?_
   clear hHeld
   refine hK.out _ _ ?_ fun hHeld=>?_
   ·(try dsimp only);exact KSS.out _ B.out
   clear hK K
   try go_frame
   refine rY 5 rfl fun K hK=>?_
   go_simp
   refine(remove_any ⟨sp,lo,hi,fr,tt,2,cp,ch⟩ ⟨A1,n1,c1,A2,qs1.length,c2⟩ x.key x.kc v0 HSP.out (SRX.out _ B.out)).mono ?_
   rintro e3 y1 ⟨wc,rfl,hr,hb⟩
   have P1:=qD (hr.mono (G:=fun b=>wb.heap.size≤b) (fun b hb2=>Nat.le_trans B.out.size hb2))
   have B1:=qD (B.out.step' hb)
   clear hb hr
   (try go_wp2_with fail)
   clear hHeld
   refine hK.out _ _ ?_ fun hHeld=>?_
   ·(try dsimp only);exact KSS.out _ B1.out
   clear hK K
   try go_frame
   refine rY 6 rfl fun K hK=>?_
   refine wp_buildSlice 33 67 1 _ rfl (recC78 wc).toArray i0 _ Tryz.underlying33 hi0 hz0 (by rw[hz1];decide) (by rw[hz1];decide) (by rw[hz1];exact build_write rfl) ?_
   have N2:Hid (Blk (y1.alloc (.cells (recC78 wc).toArray 67)) y1.heap.size 67 (recC78 wc).toArray):=Blk.new_at rfl
   have P2:=qD (P1.out.alloc (.cells (recC78 wc).toArray 67))
   have B2:=qD (B1.out.alloc B1.out.size (Obj.cells (recC78 wc).toArray 67))
   generalize y1.alloc (.cells (recC78 wc).toArray 67)=y2 at*
   generalize y1.heap.size=gn at*
   clear hHeld
   refine hK.out _ _ ?_ fun hHeld=>?_
   ·(try dsimp only);exact KSS.out _ B2.out
   clear hK K
   try go_frame
   refine rY 7 rfl fun K hK=>?_
   have O2:=qD (OWNT.out _ B2.out)
   refine wp_append_any y2 (.tmp 45) (.tmp 50) 33 rfl wa.heap.size 67 i0 _ 78 1168 Tryz.underlying33 hi0 hz0 hz1 hz2 rfl (by decide) (.slice A2 qs1.length c2) qs1.length (flat recW qs1) rfl O2.out y2.heap.size (some ⟨gn,0,none⟩) 1 1 (recC78 wc) rfl (reads_one N2.out N2.out.lt) (recC78_one wc) (by unfold maxLen;have:=HLEN.out;omega) (by have:=HLEN.out;omega) (Nat.le_trans HBASE.out B2.out.size) ?_
   intro v5 y3 hown hgr hat
   obtain⟨A5,c5,rfl,hc5⟩:=own_slice hown
   have BM3:=qD ((MVS.out _ B2.out).grown hgr HNE0.out)
   have MO3:=qD ((MOB.out.step B2.out).addH (P2.out.mono fun b hb=>⟨Nat.le_trans HBASE.out hb,FRC.out b hb,FRH.out b hb⟩) hown hgr hat)
   have GR:=qD hgr
   clear hown hgr hat hc5
   clear hHeld
   refine hK.out _ _ ?_ fun hHeld=>?_
   ·(try dsimp only);exact KSA.out _ _ B2.out GR.out
   clear hK K
   try go_frame
   refine rU 8 rfl ?_
   try go_frame
   refine rY 9 rfl fun K hK=>?_
   have q6:y3.cell? ⟨w.heap.size,7,none⟩=some (.slice A2 qs1.length c2):=BM3.out.cell 7
   have z6:=BM3.out.frozen 7
   go_simp
   change K _ (y3.setCell ⟨w.heap.size,7,none⟩ (.slice A5 (qs1.length+1) c5))
   have BM4:Hid (Blk (y3.setCell ⟨w.heap.size,7,none⟩ (.slice A5 (qs1.length+1) c5)) w.heap.size 35 #[.string sp,.string lo,.string hi,.int .i64 fr,.int .i64 tt,.int .i64 2,.slice A1 n1 c1,.slice A5 (qs1.length+1) c5]):=BM3.out.set_ 7 _
   have MO4:=qD (MO3.out.keep (w':=y3.setCell ⟨w.heap.size,7,none⟩ (.slice A5 (qs1.length+1) c5)) fun b hb _=>Below.heap_setCell _ _ _ b (by show b≠w.heap.size;have:=HNB.out;omega))
   have OT4:=qD (OTH.out _ _ B2.out GR.out 7 (.slice A5 (qs1.length+1) c5))
   clear q6 z6 BM3 MO3 GR
   generalize y3.setCell ⟨w.heap.size,7,none⟩ (.slice A5 (qs1.length+1) c5)=y4 at*
   clear hHeld
   refine hK.out _ _ ?_ fun hHeld=>?_
   ·(try dsimp only);exact OT4.out.1
   clear hK K
   try go_frame
   refine rD ?_ _
   refine NoPanic.normal ?_
   go_wp2_with (first|(refine wpList_load_row rfl 35 _ rfl (w.heap.size) rfl _ _ _ _ BM4.out Tryz.underlying35 rfl (by rw[sizeM];rfl) ?_)|(refine wpList_store_row rfl 35 _ _ rfl (w.heap.size+3) (marr ⟨A1,n1,c1,A5,(qs1.length+1),c5⟩ ⟨sp,lo,hi,fr,tt,2,[],[]⟩) rfl rfl 35 _ OT4.out.2.1 (by rw[sizeM];rfl) rfl (marr_all _ _) ?_))
   refine bodyPost_ret (results_mv rfl _ (w.heap.size+3) rfl (.int .i64 0) rfl _ ⟨A1,n1,c1,A5,(qs1.length+1),c5⟩ ⟨sp,lo,hi,fr,tt,2,[],[]⟩ (Blk.row OT4.out.2.1 _)) rfl ⟨_,rfl,?_,below_row OT4.out.2.2 (by omega) _⟩
   have h1:=(MO4.out.keep (w':=y4.setRow (w.heap.size+3) (marr ⟨A1,n1,c1,A5,(qs1.length+1),c5⟩ ⟨sp,lo,hi,fr,tt,2,[],[]⟩)) fun b hb _=>setRow_other _ _ _ _ (by have:=HW3.out;omega)).mr (by have:=HLP.out;omega) (by rw[List.length_append];simp only[List.length_singleton];have:=HLEN.out;omega)
   exact⟨h1.sp,h1.cp,by rw[HCL.out];exact h1.ch⟩
  ·refine wp_load_row 35 _ rfl w.heap.size rfl _ _ _ _ (MVS.out _ B.out) Tryz.underlying35 rfl (by rw[sizeM];rfl) ?_
   clear hHeld
   refine hK.out _ _ ?_ fun hHeld=>?_
   ·(try dsimp only);exact KSS.out _ B.out
   clear hK K
   try go_frame
   refine rR [1,5] ?_
   refine rC (fun K hK=>?_) (rC (fun K hK=>?_) rN)
   ·have q6:v0.cell? ⟨w.heap.size,7,none⟩=some (.slice A2 qs1.length c2):=(MVS.out _ B.out).cell 7
    go_simp
    clear q6
    clear hHeld
    refine hK.out _ _ ?_ fun hHeld=>?_
    ·(try dsimp only);exact KSS.out _ B.out
    clear hK K
    try go_frame
    refine rY 5 rfl fun K hK=>?_
    go_simp
    refine(remove_any ⟨sp,lo,hi,fr,tt,2,cp,ch⟩ ⟨A1,n1,c1,A2,qs1.length,c2⟩ x.key x.kc v0 HSP.out (SRX.out _ B.out)).mono ?_
    rintro e3 y1 ⟨wc,rfl,hr,hb⟩
    have P1:=qD (hr.mono (G:=fun b=>wb.heap.size≤b) (fun b hb2=>Nat.le_trans B.out.size hb2))
    have B1:=qD (B.out.step' hb)
    clear hb hr
    (try go_wp2_with fail)
    clear hHeld
    refine hK.out _ _ ?_ fun hHeld=>?_
    ·(try dsimp only);exact KSS.out _ B1.out
    clear hK K
    try go_frame
    refine rY 6 rfl fun K hK=>?_
    refine wp_buildSlice 33 67 1 _ rfl (recC78 wc).toArray i0 _ Tryz.underlying33 hi0 hz0 (by rw[hz1];decide) (by rw[hz1];decide) (by rw[hz1];exact build_write rfl) ?_
    have N2:Hid (Blk (y1.alloc (.cells (recC78 wc).toArray 67)) y1.heap.size 67 (recC78 wc).toArray):=Blk.new_at rfl
    have P2:=qD (P1.out.alloc (.cells (recC78 wc).toArray 67))
    have B2:=qD (B1.out.alloc B1.out.size (Obj.cells (recC78 wc).toArray 67))
    generalize y1.alloc (.cells (recC78 wc).toArray 67)=y2 at*
    generalize y1.heap.size=gn at*
    clear hHeld
    refine hK.out _ _ ?_ fun hHeld=>?_
    ·(try dsimp only);exact KSS.out _ B2.out
    clear hK K
    try go_frame
    refine rY 7 rfl fun K hK=>?_
    have O2:=qD (OWNT.out _ B2.out)
    refine wp_append_any y2 (.tmp 45) (.tmp 50) 33 rfl wa.heap.size 67 i0 _ 78 1168 Tryz.underlying33 hi0 hz0 hz1 hz2 rfl (by decide) (.slice A2 qs1.length c2) qs1.length (flat recW qs1) rfl O2.out y2.heap.size (some ⟨gn,0,none⟩) 1 1 (recC78 wc) rfl (reads_one N2.out N2.out.lt) (recC78_one wc) (by unfold maxLen;have:=HLEN.out;omega) (by have:=HLEN.out;omega) (Nat.le_trans HBASE.out B2.out.size) ?_
    intro v5 y3 hown hgr hat
    obtain⟨A5,c5,rfl,hc5⟩:=own_slice hown
    have BM3:=qD ((MVS.out _ B2.out).grown hgr HNE0.out)
    have MO3:=qD ((MOB.out.step B2.out).addH (P2.out.mono fun b hb=>⟨Nat.le_trans HBASE.out hb,FRC.out b hb,FRH.out b hb⟩) hown hgr hat)
    have GR:=qD hgr
    clear hown hgr hat hc5
    clear hHeld
    refine hK.out _ _ ?_ fun hHeld=>?_
    ·(try dsimp only);exact KSA.out _ _ B2.out GR.out
    clear hK K
    try go_frame
    refine rU 8 rfl ?_
    try go_frame
    refine rY 9 rfl fun K hK=>?_
    have q6:y3.cell? ⟨w.heap.size,7,none⟩=some (.slice A2 qs1.length c2):=BM3.out.cell 7
    have z6:=BM3.out.frozen 7
    go_simp
    change K _ (y3.setCell ⟨w.heap.size,7,none⟩ (.slice A5 (qs1.length+1) c5))
    have BM4:Hid (Blk (y3.setCell ⟨w.heap.size,7,none⟩ (.slice A5 (qs1.length+1) c5)) w.heap.size 35 #[.string sp,.string lo,.string hi,.int .i64 fr,.int .i64 tt,.int .i64 2,.slice A1 n1 c1,.slice A5 (qs1.length+1) c5]):=BM3.out.set_ 7 _
    have MO4:=qD (MO3.out.keep (w':=y3.setCell ⟨w.heap.size,7,none⟩ (.slice A5 (qs1.length+1) c5)) fun b hb _=>Below.heap_setCell _ _ _ b (by show b≠w.heap.size;have:=HNB.out;omega))
    have OT4:=qD (OTH.out _ _ B2.out GR.out 7 (.slice A5 (qs1.length+1) c5))
    clear q6 z6 BM3 MO3 GR
    generalize y3.setCell ⟨w.heap.size,7,none⟩ (.slice A5 (qs1.length+1) c5)=y4 at*
    clear hHeld
    refine hK.out _ _ ?_ fun hHeld=>?_
    ·(try dsimp only);exact OT4.out.1
    clear hK K
    try go_frame
    refine rD ?_ _
    refine NoPanic.normal ?_
    go_wp2_with (first|(refine wpList_load_row rfl 35 _ rfl (w.heap.size) rfl _ _ _ _ BM4.out Tryz.underlying35 rfl (by rw[sizeM];rfl) ?_)|(refine wpList_store_row rfl 35 _ _ rfl (w.heap.size+3) (marr ⟨A1,n1,c1,A5,(qs1.length+1),c5⟩ ⟨sp,lo,hi,fr,tt,2,[],[]⟩) rfl rfl 35 _ OT4.out.2.1 (by rw[sizeM];rfl) rfl (marr_all _ _) ?_))
    refine bodyPost_ret (results_mv rfl _ (w.heap.size+3) rfl (.int .i64 0) rfl _ ⟨A1,n1,c1,A5,(qs1.length+1),c5⟩ ⟨sp,lo,hi,fr,tt,2,[],[]⟩ (Blk.row OT4.out.2.1 _)) rfl ⟨_,rfl,?_,below_row OT4.out.2.2 (by omega) _⟩
    have h1:=(MO4.out.keep (w':=y4.setRow (w.heap.size+3) (marr ⟨A1,n1,c1,A5,(qs1.length+1),c5⟩ ⟨sp,lo,hi,fr,tt,2,[],[]⟩)) fun b hb _=>setRow_other _ _ _ _ (by have:=HW3.out;omega)).mr (by have:=HLP.out;omega) (by rw[List.length_append];simp only[List.length_singleton];have:=HLEN.out;omega)
    exact⟨h1.sp,h1.cp,by rw[HCL.out];exact h1.ch⟩
   ·go_simp
    refine(remove_any ⟨sp,lo,hi,fr,tt,2,cp,ch⟩ ⟨A1,n1,c1,A2,qs1.length,c2⟩ x.key x.kc v0 HSP.out (SRX.out _ B.out)).mono ?_
    rintro e3 y1 ⟨wc,rfl,hr,hb⟩
    have P1:=qD (hr.mono (G:=fun b=>wb.heap.size≤b) (fun b hb2=>Nat.le_trans B.out.size hb2))
    have B1:=qD (B.out.step' hb)
    clear hb hr
    (try go_wp2_with fail)
    clear hHeld
    refine hK.out _ _ ?_ fun hHeld=>?_
    ·(try dsimp only);exact KSS.out _ B1.out
    clear hK K
    try go_frame
    refine rR [1,6] ?_
    refine rC (fun K hK=>?_) (rC (fun K hK=>?_) rN)
    ·have q6:y1.cell? ⟨w.heap.size,7,none⟩=some (.slice A2 qs1.length c2):=(MVS.out _ B1.out).cell 7
     go_simp
     clear q6
     clear hHeld
     refine hK.out _ _ ?_ fun hHeld=>?_
     ·(try dsimp only);exact KSS.out _ B1.out
     clear hK K
     try go_frame
     refine rY 6 rfl fun K hK=>?_
     refine wp_buildSlice 33 67 1 _ rfl (recC78 wc).toArray i0 _ Tryz.underlying33 hi0 hz0 (by rw[hz1];decide) (by rw[hz1];decide) (by rw[hz1];exact build_write rfl) ?_
     have N2:Hid (Blk (y1.alloc (.cells (recC78 wc).toArray 67)) y1.heap.size 67 (recC78 wc).toArray):=Blk.new_at rfl
     have P2:=qD (P1.out.alloc (.cells (recC78 wc).toArray 67))
     have B2:=qD (B1.out.alloc B1.out.size (Obj.cells (recC78 wc).toArray 67))
     generalize y1.alloc (.cells (recC78 wc).toArray 67)=y2 at*
     generalize y1.heap.size=gn at*
     clear hHeld
     refine hK.out _ _ ?_ fun hHeld=>?_
     ·(try dsimp only);exact KSS.out _ B2.out
     clear hK K
     try go_frame
     refine rY 7 rfl fun K hK=>?_
     have O2:=qD (OWNT.out _ B2.out)
     refine wp_append_any y2 (.tmp 45) (.tmp 50) 33 rfl wa.heap.size 67 i0 _ 78 1168 Tryz.underlying33 hi0 hz0 hz1 hz2 rfl (by decide) (.slice A2 qs1.length c2) qs1.length (flat recW qs1) rfl O2.out y2.heap.size (some ⟨gn,0,none⟩) 1 1 (recC78 wc) rfl (reads_one N2.out N2.out.lt) (recC78_one wc) (by unfold maxLen;have:=HLEN.out;omega) (by have:=HLEN.out;omega) (Nat.le_trans HBASE.out B2.out.size) ?_
     intro v5 y3 hown hgr hat
     obtain⟨A5,c5,rfl,hc5⟩:=own_slice hown
     have BM3:=qD ((MVS.out _ B2.out).grown hgr HNE0.out)
     have MO3:=qD ((MOB.out.step B2.out).addH (P2.out.mono fun b hb=>⟨Nat.le_trans HBASE.out hb,FRC.out b hb,FRH.out b hb⟩) hown hgr hat)
     have GR:=qD hgr
     clear hown hgr hat hc5
     clear hHeld
     refine hK.out _ _ ?_ fun hHeld=>?_
     ·(try dsimp only);exact KSA.out _ _ B2.out GR.out
     clear hK K
     try go_frame
     refine rU 8 rfl ?_
     try go_frame
     refine rY 9 rfl fun K hK=>?_
     have q6:y3.cell? ⟨w.heap.size,7,none⟩=some (.slice A2 qs1.length c2):=BM3.out.cell 7
     have z6:=BM3.out.frozen 7
     go_simp
     change K _ (y3.setCell ⟨w.heap.size,7,none⟩ (.slice A5 (qs1.length+1) c5))
     have BM4:Hid (Blk (y3.setCell ⟨w.heap.size,7,none⟩ (.slice A5 (qs1.length+1) c5)) w.heap.size 35 #[.string sp,.string lo,.string hi,.int .i64 fr,.int .i64 tt,.int .i64 2,.slice A1 n1 c1,.slice A5 (qs1.length+1) c5]):=BM3.out.set_ 7 _
     have MO4:=qD (MO3.out.keep (w':=y3.setCell ⟨w.heap.size,7,none⟩ (.slice A5 (qs1.length+1) c5)) fun b hb _=>Below.heap_setCell _ _ _ b (by show b≠w.heap.size;have:=HNB.out;omega))
     have OT4:=qD (OTH.out _ _ B2.out GR.out 7 (.slice A5 (qs1.length+1) c5))
     clear q6 z6 BM3 MO3 GR
     generalize y3.setCell ⟨w.heap.size,7,none⟩ (.slice A5 (qs1.length+1) c5)=y4 at*
     clear hHeld
     refine hK.out _ _ ?_ fun hHeld=>?_
     ·(try dsimp only);exact OT4.out.1
     clear hK K
     try go_frame
     refine rD ?_ _
     refine NoPanic.normal ?_
     go_wp2_with (first|(refine wpList_load_row rfl 35 _ rfl (w.heap.size) rfl _ _ _ _ BM4.out Tryz.underlying35 rfl (by rw[sizeM];rfl) ?_)|(refine wpList_store_row rfl 35 _ _ rfl (w.heap.size+3) (marr ⟨A1,n1,c1,A5,(qs1.length+1),c5⟩ ⟨sp,lo,hi,fr,tt,2,[],[]⟩) rfl rfl 35 _ OT4.out.2.1 (by rw[sizeM];rfl) rfl (marr_all _ _) ?_))
     refine bodyPost_ret (results_mv rfl _ (w.heap.size+3) rfl (.int .i64 0) rfl _ ⟨A1,n1,c1,A5,(qs1.length+1),c5⟩ ⟨sp,lo,hi,fr,tt,2,[],[]⟩ (Blk.row OT4.out.2.1 _)) rfl ⟨_,rfl,?_,below_row OT4.out.2.2 (by omega) _⟩
     have h1:=(MO4.out.keep (w':=y4.setRow (w.heap.size+3) (marr ⟨A1,n1,c1,A5,(qs1.length+1),c5⟩ ⟨sp,lo,hi,fr,tt,2,[],[]⟩)) fun b hb _=>setRow_other _ _ _ _ (by have:=HW3.out;omega)).mr (by have:=HLP.out;omega) (by rw[List.length_append];simp only[List.length_singleton];have:=HLEN.out;omega)
     exact⟨h1.sp,h1.cp,by rw[HCL.out];exact h1.ch⟩
    ·refine wp_buildSlice 33 67 1 _ rfl (recC78 wc).toArray i0 _ Tryz.underlying33 hi0 hz0 (by rw[hz1];decide) (by rw[hz1];decide) (by rw[hz1];exact build_write rfl) ?_
     have N2:Hid (Blk (y1.alloc (.cells (recC78 wc).toArray 67)) y1.heap.size 67 (recC78 wc).toArray):=Blk.new_at rfl
     have P2:=qD (P1.out.alloc (.cells (recC78 wc).toArray 67))
     have B2:=qD (B1.out.alloc B1.out.size (Obj.cells (recC78 wc).toArray 67))
     generalize y1.alloc (.cells (recC78 wc).toArray 67)=y2 at*
     generalize y1.heap.size=gn at*
     clear hHeld
     refine hK.out _ _ ?_ fun hHeld=>?_
     ·(try dsimp only);exact KSS.out _ B2.out
     clear hK K
     try go_frame
     refine rY 1 rfl fun K hK=>?_
     have q6:y2.cell? ⟨w.heap.size,7,none⟩=some (.slice A2 qs1.length c2):=(MVS.out _ B2.out).cell 7
     go_simp
     clear q6
     clear hHeld
     refine hK.out _ _ ?_ fun hHeld=>?_
     ·(try dsimp only);exact KSS.out _ B2.out
     clear hK K
     try go_frame
     refine rY 7 rfl fun K hK=>?_
     have O2:=qD (OWNT.out _ B2.out)
     refine wp_append_any y2 (.tmp 45) (.tmp 50) 33 rfl wa.heap.size 67 i0 _ 78 1168 Tryz.underlying33 hi0 hz0 hz1 hz2 rfl (by decide) (.slice A2 qs1.length c2) qs1.length (flat recW qs1) rfl O2.out y2.heap.size (some ⟨gn,0,none⟩) 1 1 (recC78 wc) rfl (reads_one N2.out N2.out.lt) (recC78_one wc) (by unfold maxLen;have:=HLEN.out;omega) (by have:=HLEN.out;omega) (Nat.le_trans HBASE.out B2.out.size) ?_
     intro v5 y3 hown hgr hat
     obtain⟨A5,c5,rfl,hc5⟩:=own_slice hown
     have BM3:=qD ((MVS.out _ B2.out).grown hgr HNE0.out)
     have MO3:=qD ((MOB.out.step B2.out).addH (P2.out.mono fun b hb=>⟨Nat.le_trans HBASE.out hb,FRC.out b hb,FRH.out b hb⟩) hown hgr hat)
     have GR:=qD hgr
     clear hown hgr hat hc5
     clear hHeld
     refine hK.out _ _ ?_ fun hHeld=>?_
     ·(try dsimp only);exact KSA.out _ _ B2.out GR.out
     clear hK K
     try go_frame
     refine rU 8 rfl ?_
     try go_frame
     refine rY 9 rfl fun K hK=>?_
     have q6:y3.cell? ⟨w.heap.size,7,none⟩=some (.slice A2 qs1.length c2):=BM3.out.cell 7
     have z6:=BM3.out.frozen 7
     go_simp
     change K _ (y3.setCell ⟨w.heap.size,7,none⟩ (.slice A5 (qs1.length+1) c5))
     have BM4:Hid (Blk (y3.setCell ⟨w.heap.size,7,none⟩ (.slice A5 (qs1.length+1) c5)) w.heap.size 35 #[.string sp,.string lo,.string hi,.int .i64 fr,.int .i64 tt,.int .i64 2,.slice A1 n1 c1,.slice A5 (qs1.length+1) c5]):=BM3.out.set_ 7 _
     have MO4:=qD (MO3.out.keep (w':=y3.setCell ⟨w.heap.size,7,none⟩ (.slice A5 (qs1.length+1) c5)) fun b hb _=>Below.heap_setCell _ _ _ b (by show b≠w.heap.size;have:=HNB.out;omega))
     have OT4:=qD (OTH.out _ _ B2.out GR.out 7 (.slice A5 (qs1.length+1) c5))
     clear q6 z6 BM3 MO3 GR
     generalize y3.setCell ⟨w.heap.size,7,none⟩ (.slice A5 (qs1.length+1) c5)=y4 at*
     clear hHeld
     refine hK.out _ _ ?_ fun hHeld=>?_
     ·(try dsimp only);exact OT4.out.1
     clear hK K
     try go_frame
     refine rD ?_ _
     refine NoPanic.normal ?_
     go_wp2_with (first|(refine wpList_load_row rfl 35 _ rfl (w.heap.size) rfl _ _ _ _ BM4.out Tryz.underlying35 rfl (by rw[sizeM];rfl) ?_)|(refine wpList_store_row rfl 35 _ _ rfl (w.heap.size+3) (marr ⟨A1,n1,c1,A5,(qs1.length+1),c5⟩ ⟨sp,lo,hi,fr,tt,2,[],[]⟩) rfl rfl 35 _ OT4.out.2.1 (by rw[sizeM];rfl) rfl (marr_all _ _) ?_))
     refine bodyPost_ret (results_mv rfl _ (w.heap.size+3) rfl (.int .i64 0) rfl _ ⟨A1,n1,c1,A5,(qs1.length+1),c5⟩ ⟨sp,lo,hi,fr,tt,2,[],[]⟩ (Blk.row OT4.out.2.1 _)) rfl ⟨_,rfl,?_,below_row OT4.out.2.2 (by omega) _⟩
     have h1:=(MO4.out.keep (w':=y4.setRow (w.heap.size+3) (marr ⟨A1,n1,c1,A5,(qs1.length+1),c5⟩ ⟨sp,lo,hi,fr,tt,2,[],[]⟩)) fun b hb _=>setRow_other _ _ _ _ (by have:=HW3.out;omega)).mr (by have:=HLP.out;omega) (by rw[List.length_append];simp only[List.length_singleton];have:=HLEN.out;omega)
     exact⟨h1.sp,h1.cp,by rw[HCL.out];exact h1.ch⟩
end Go.Proofs.YtlicnjecnehaoaaGreatDoor
