/- Parts of the proof, joined: MrRef4, MrOut, MrCode. -/
import Derived.Test.YtlicnjecnehaoaaGreatDoorRa1
import Derived.Test.YtlicnjecnehaoaaGreatDoorRa21
import Derived.Test.YtlicnjecnehaoaaGreatDoorRa20
import Derived.Deep.MidRow
set_option maxRecDepth 100000
set_option maxHeartbeats 16000000
set_option linter.unusedSimpArgs false
namespace Go.Proofs.YtlicnjecnehaoaaGreatDoor
open Go.RowKit
theorem rcopy_any(M:Mv)(ma:MA)(R:Ro)(a:RA)(ps:List PV)(DA:Option Addr)(dn dc:Nat)(w:World)(h:RR w a R)(h8:R.ks.length≤8)(hk:R.ha=true→R.ks.length=1)(hd:SL (fun _=>True) w DA dn dc ps)(hsto:∀p∈ps,StoD p.2)(hz:dn≤1000)(hm:MR w ma M)(hlo:M.lo.size≤reach)(hst:M.st=1):
 Calls Tryz.prog 19 #[mval ma M,rval a R,.slice DA dn dc] w (MvR (copyM M R (ps.map Prod.snd)) w):=by
 obtain⟨j0,hj0,hw0,hw1,hw2⟩:=info_parts info_write
 obtain⟨CA,cn,cc,HA,hn,hc2⟩:=ma
 obtain⟨sp,lo,hi,fr,tt,st,cp,ch⟩:=M
 simp only at hlo hst
 subst hst
 have HR:=qD h
 have H8:=qD h8
 have HK:=qD hk
 have HD:=qD hd
 have HM:=qD hm
 have HLO:=qD hlo
 have HSTO:=qD hsto
 have HSP:Hid (sp.size≤reach):=hm.sp
 have HDL:Hid (dn=ps.length):=hd.sr.ln
 clear h h8 hk hd hm hlo hsto
 obtain⟨wa,hwa⟩:∃wa,((w.alloc (.cells (marr ⟨CA,cn,cc,HA,hn,hc2⟩ ⟨sp,lo,hi,fr,tt,1,cp,ch⟩) 35)).alloc (.cells (rarr a R) 27)).alloc (.cells (marr MA.zero Mv.zero) 35)=wa:=⟨_,rfl⟩
 have B0:Hid (Blk wa w.heap.size 35 (marr ⟨CA,cn,cc,HA,hn,hc2⟩ ⟨sp,lo,hi,fr,tt,1,cp,ch⟩)):=by rw[←hwa];exact((Blk.new_at rfl).alloc _).alloc _
 have BR:Hid (Blk wa (w.heap.size+1) 27 (rarr a R)):=by rw[←hwa];exact(Blk.new_at (by simp)).alloc _
 have BZ:Hid (Blk wa (w.heap.size+2) 35 (marr MA.zero Mv.zero)):=by rw[←hwa];exact Blk.new_at (by simp)
 have BE:Hid (Below w.heap.size w wa):=by rw[←hwa];exact(((Below.refl _ _).alloc (qL) _).alloc (by simp) _).alloc (by simp;omega) _
 have HW3:Hid (wa.heap.size=w.heap.size+3):=by rw[←hwa];simp[Hid]
 have HWA:=qD hwa
 clear hwa
 go_enter Tryz.func19,Tryz.ntmps19
 go_upto_region 1 with fail
 change Code.wp _ _ _ _ (((w.alloc (.cells (marr ⟨CA,cn,cc,HA,hn,hc2⟩ ⟨sp,lo,hi,fr,tt,1,cp,ch⟩) 35)).alloc (.cells (rarr a R) 27)).alloc (.cells (marr MA.zero Mv.zero) 35))
 rw[HWA.out]
 clear HWA
 have q5:wa.cell? ⟨w.heap.size,5,none⟩=some (.int .i64 1):=B0.out.cell 5
 have q6:wa.cell? ⟨w.heap.size,6,none⟩=some (.slice CA cn cc):=B0.out.cell 6
 have z6:=B0.out.frozen 6
 go_upto_region 4 with fail
 change Code.wp _ _ _ _ (wa.setCell ⟨w.heap.size,6,none⟩ (.slice none 0 0))
 have D0:Hid (Blk (wa.setCell ⟨w.heap.size,6,none⟩ (.slice none 0 0)) w.heap.size 35 #[.string sp,.string lo,.string hi,.int .i64 fr,.int .i64 tt,.int .i64 1,.slice none ([]:List PW).length 0,.slice HA hn hc2]):=B0.out.set_ 6 _
 have DR:=qD (BR.out.far (p:=⟨w.heap.size,6,none⟩) (by show w.heap.size+1≠w.heap.size;omega) (.slice none 0 0))
 have DZ:=qD (BZ.out.far (p:=⟨w.heap.size,6,none⟩) (by show w.heap.size+2≠w.heap.size;omega) (.slice none 0 0))
 have DE:=qD (BE.out.setCell (p:=⟨w.heap.size,6,none⟩) (qL) (.slice none 0 0))
 have DV:Hid (RgI wa.heap.size w (.slice none ([]:List PW).length 0) [] (wa.setCell ⟨w.heap.size,6,none⟩ (.slice none 0 0))):=RgI.start BE.out.size DE.out
 clear q5 q6 z6 B0 BR BZ
 generalize wa.setCell ⟨w.heap.size,6,none⟩ (.slice none 0 0)=w2 at*
 go_wp2_with fail
 go_loopw [8] (fun u8 wr=>∃(i:Nat) (A1:Option Addr) (c1:Nat) (ps1:List PW),i≤dn∧u8=.int .i64 i∧Blk wr w.heap.size 35 #[.string sp,.string lo,.string hi,.int .i64 fr,.int .i64 tt,.int .i64 1,.slice A1 ps1.length c1,.slice HA hn hc2]∧Blk wr (w.heap.size+1) 27 (rarr a R)∧Blk wr (w.heap.size+2) 35 (marr MA.zero Mv.zero)∧
  RgI wa.heap.size w (.slice A1 ps1.length c1) ps1 wr∧ps1.map Prod.snd=copyL R sp lo hi ((ps.map Prod.snd).take i)) (fun u8 _=>dn-(intOf u8).toNat)
 case atStart=>exact⟨0,none,0,[],Nat.zero_le _,rfl,D0.out,DR.out,DZ.out,DV.out,rfl⟩
 case round=>
  clear D0 DR DZ DE DV
  obtain⟨i,A1,c1,ps1,hile,rfl,f0,fr2,fz,fv,fl⟩:=hrel
  have F0:=qD f0
  have FR:=qD fr2
  have FZ:=qD fz
  have FV:=qD fv
  have FL:=qD fl
  clear f0 fr2 fz fv fl
  have HPL:Hid (ps1.length≤1000):=by
   have h1:=congrArg List.length FL.out
   have h2:=copyL_len R sp lo hi ((ps.map Prod.snd).take i)
   rw[List.length_map] at h1
   rw[List.length_take] at h2
   unfold Hid
   omega
  by_cases hlt:i<dn
  ·obtain⟨p,hp⟩:∃p,ps[i]?=some p:=⟨_,List.getElem?_eq_getElem (by have:=HDL.out;omega)⟩
   obtain⟨b,off,rfl,_,hu0,hr0⟩:=HD.out.vat hp
   have hbl:b<w.heap.size:=hu0.lt
   have HRX:Hid (RV (fun b=>b<w.heap.size) w p.1 p.2):=(hr0.lt).mono fun _ h=>h.2
   have hu:=hu0.keep (FV.out.bel.block b hbl)
   have HST:=qD (HSTO.out p (List.mem_of_getElem? hp))
   obtain⟨ib,hib⟩:∃ib,insD R lo hi p.2=ib:=⟨_,rfl⟩
   have HCI:Hid (copyL R sp lo hi ((ps.map Prod.snd).take (i+1))=ps1.map Prod.snd++(if ib=true then [putW sp p.2] else [])):=by
    rw[Hid,take_snoc' (show(ps.map Prod.snd)[i]?=some p.2 by rw[List.getElem?_map,hp];rfl),copyL_snoc,←FL.out,hib]
   have HIN:Hid (∀w2,Below wr.heap.size wr w2→Calls Tryz.prog 38 #[.agg (marr ⟨A1,ps1.length,c1,HA,hn,hc2⟩ ⟨sp,lo,hi,fr,tt,1,[],[]⟩),.agg (rarr a R),p.1.val] w2 fun e w'=>e=.returned (.bool ib)∧Below w2.heap.size w2 w'):=qD fun w2 hb=>by
    rw[←hib]
    have hbw:=FV.out.bel.step' hb
    exact rin_any ⟨sp,lo,hi,fr,tt,1,[],[]⟩ ⟨A1,ps1.length,c1,HA,hn,hc2⟩ R a p.2 p.1 w2 (HR.out.step hbw) ((HRX.out.step hbw).mono fun _ _=>trivial) H8.out HK.out HLO.out
   obtain⟨a0,a1,a2,a3,a4⟩:=hu
   have K7:Hid (∀w2,Below wr.heap.size wr w2→(fun w'=>(Blk w' w.heap.size 35 (marr ⟨A1,ps1.length,c1,HA,hn,hc2⟩ ⟨sp,lo,hi,fr,tt,1,[],[]⟩)∧Blk w' (w.heap.size+1) 27 (rarr a R))∧w'.cell? ⟨b,off+i*5,none⟩=some (.int .i64 p.1.k)∧w'.cell? ⟨b,off+i*5+1,none⟩=some (.int .i64 p.1.n)∧w'.cell? ⟨b,off+i*5+2,none⟩=some (.string p.1.t)∧w'.cell? ⟨b,off+i*5+3,none⟩=some (.slice p.1.LA p.1.ln p.1.lc)∧w'.cell? ⟨b,off+i*5+4,none⟩=some (.slice p.1.DA p.1.dn p.1.dc)) w2):=qD fun w2 hb=>⟨⟨F0.out.step hb,FR.out.step hb⟩,(hb.cell (p:=⟨b,off+i*5,none⟩) (Nat.lt_of_lt_of_le hbl FV.out.bel.size)).trans a0,(hb.cell (p:=⟨b,off+i*5+1,none⟩) (Nat.lt_of_lt_of_le hbl FV.out.bel.size)).trans a1,(hb.cell (p:=⟨b,off+i*5+2,none⟩) (Nat.lt_of_lt_of_le hbl FV.out.bel.size)).trans a2,(hb.cell (p:=⟨b,off+i*5+3,none⟩) (Nat.lt_of_lt_of_le hbl FV.out.bel.size)).trans a3,(hb.cell (p:=⟨b,off+i*5+4,none⟩) (Nat.lt_of_lt_of_le hbl FV.out.bel.size)).trans a4⟩
   have i0':(0:Int)≤(i:Int):=by omega
   have i1':(i:Int)<(dn:Int):=by omega
   clear hu0 hr0 hp hib a0 a1 a2 a3 a4
   go_upto_region 7 with fail
   have B:Hid (Below wr.heap.size wr wr.drew):=qD ((Below.refl wr.heap.size wr).drew)
   refine wp_region_noPanic ?_
   refine wp_region_held_drew (S:=(fun w'=>(Blk w' w.heap.size 35 (marr ⟨A1,ps1.length,c1,HA,hn,hc2⟩ ⟨sp,lo,hi,fr,tt,1,[],[]⟩)∧Blk w' (w.heap.size+1) 27 (rarr a R))∧w'.cell? ⟨b,off+i*5,none⟩=some (.int .i64 p.1.k)∧w'.cell? ⟨b,off+i*5+1,none⟩=some (.int .i64 p.1.n)∧w'.cell? ⟨b,off+i*5+2,none⟩=some (.string p.1.t)∧w'.cell? ⟨b,off+i*5+3,none⟩=some (.slice p.1.LA p.1.ln p.1.lc)∧w'.cell? ⟨b,off+i*5+4,none⟩=some (.slice p.1.DA p.1.dn p.1.dc))) (by kernel_rfl) ?_ (fun hHeld=>?_)
   ·(try dsimp only);exact K7.out _ B.out
   generalize wr.drew=v0 at*
   refine rT (v:=.agg (marr ⟨A1,ps1.length,c1,HA,hn,hc2⟩ ⟨sp,lo,hi,fr,tt,1,[],[]⟩)) 0 rfl ?_ ?_
   ·intro w' hSw;exact exec_row rfl rfl hSw.1.1 Tryz.underlying35 rfl (by rw[sizeM];rfl)
   try go_frame
   refine rT (v:=.agg (rarr a R)) 1 rfl ?_ ?_
   ·intro w' hSw;exact exec_row rfl rfl hSw.1.2 Tryz.underlying27 rfl (by rw[sizeR];rfl)
   try go_frame
   refine rU 2 rfl ?_
   try go_frame
   refine rU 3 rfl ?_
   try go_frame
   refine rU 4 rfl ?_
   try go_frame
   refine rU 5 rfl ?_
   try go_frame
   refine rY 6 rfl fun K hK=>?_
   go_simp
   refine(HIN.out v0 B.out).mono ?_
   rintro e3 y1 ⟨rfl,hb⟩
   replace B:=qD (B.out.step' hb)
   clear hb
   (try go_wp2_with fail)
   clear hHeld
   refine hK.out _ _ ?_ fun hHeld=>?_
   ·(try dsimp only);exact K7.out _ B.out
   clear hK K
   try go_frame
   refine rD ?_ _
   refine NoPanic.normal ?_
   have K0:=qD (F0.out.step B.out)
   have KR:=qD (FR.out.step B.out)
   have KZ:=qD (FZ.out.step B.out)
   have VG:=qD (FV.out.step B.out)
   have K8:=qD (K7.out _ B.out)
   clear B F0 FR FZ FV K7 HIN FL
   generalize y1=wb at*
   cases ib
   ·have HTT:Hid (ps1.map Prod.snd=copyL R sp lo hi ((ps.map Prod.snd).take (i+1))):=(HCI.out.trans (List.append_nil _)).symm
    go_wp2_with fail
    go_roundw
    case rel=>exact⟨i+1,A1,c1,ps1,by omega,by go_num,K0.out,KR.out,KZ.out,VG.out,HTT.out⟩
    case measure=>simp[intOf];omega
   ·go_upto_region 8 with fail
    have HLEN:=HPL
    have GE:Hid (Below w.heap.size w wb):=VG.out.bel
    have B:Hid (Below wb.heap.size wb wb.drew):=qD ((Below.refl wb.heap.size wb).drew)
    have MVS:Hid (∀w':World,Below wb.heap.size wb w'→Blk w' w.heap.size 35 #[.string sp,.string lo,.string hi,.int .i64 fr,.int .i64 tt,.int .i64 1,.slice A1 ps1.length c1,.slice HA hn hc2]):=qD fun w' hb=>K0.out.step hb
    have HPUT:Hid (∀w',Below wb.heap.size wb w'→Calls Tryz.prog 39 #[.agg #[.string sp,.string lo,.string hi,.int .i64 fr,.int .i64 tt,.int .i64 1,.slice A1 ps1.length c1,.slice HA hn hc2],p.1.val] w' (Put51Ok (fun b=>b<w.heap.size) (putW sp p.2) w')):=qD fun w' hb=>rput51_any ⟨sp,lo,hi,fr,tt,1,[],[]⟩ ⟨A1,ps1.length,c1,HA,hn,hc2⟩ p.2 p.1 w' HSP.out (HRX.out.step (GE.out.step' hb)) HST.out
    have hcl:∀(j:Nat) (u:Value) (y:World),wb.cell? ⟨b,off+i*5+j,none⟩=some u→y.heap[b]?=wb.heap[b]?→y.cell? ⟨b,off+i*5+j,none⟩=some u:=fun j u y h1 h2=>(World.cell?_of_block (a:=⟨b,off+i*5+j,none⟩) h2).trans h1
    have HS8:Hid (∀y:World,y.heap[b]?=wb.heap[b]?→(fun w'=>w'.cell? ⟨b,off+i*5,none⟩=some (.int .i64 p.1.k)∧w'.cell? ⟨b,off+i*5+1,none⟩=some (.int .i64 p.1.n)∧w'.cell? ⟨b,off+i*5+2,none⟩=some (.string p.1.t)∧w'.cell? ⟨b,off+i*5+3,none⟩=some (.slice p.1.LA p.1.ln p.1.lc)∧w'.cell? ⟨b,off+i*5+4,none⟩=some (.slice p.1.DA p.1.dn p.1.dc)) y):=by
     obtain⟨_,a0,a1,a2,a3,a4⟩:=K8.out
     exact qD fun y hy=>⟨hcl 0 _ y a0 hy,hcl 1 _ y a1 hy,hcl 2 _ y a2 hy,hcl 3 _ y a3 hy,hcl 4 _ y a4 hy⟩
    have hbw:b<wb.heap.size:=Nat.lt_of_lt_of_le hbl GE.out.size
    have KSS:Hid (∀w':World,Below wb.heap.size wb w'→(fun w'=>w'.cell? ⟨b,off+i*5,none⟩=some (.int .i64 p.1.k)∧w'.cell? ⟨b,off+i*5+1,none⟩=some (.int .i64 p.1.n)∧w'.cell? ⟨b,off+i*5+2,none⟩=some (.string p.1.t)∧w'.cell? ⟨b,off+i*5+3,none⟩=some (.slice p.1.LA p.1.ln p.1.lc)∧w'.cell? ⟨b,off+i*5+4,none⟩=some (.slice p.1.DA p.1.dn p.1.dc)) w'):=qD fun w' hb=>HS8.out w' (hb.block b hbw)
    have HBASE:Hid (wa.heap.size≤wb.heap.size):=by have h1:=KZ.out.lt;have h2:=HW3.out;unfold Hid;omega
    have HNB:Hid (w.heap.size+2<wa.heap.size):=by have h2:=HW3.out;unfold Hid;omega
    have hown0:∀b,b<wa.heap.size→some b≠(Value.slice A1 ps1.length c1).ownBlock:=fun b hb e=>by have:=own_ge VG.out.own b e.symm;omega
    have HNE0:Hid (some w.heap.size≠(Value.slice A1 ps1.length c1).ownBlock):=hown0 _ (by have:=HNB.out;omega)
    have hbn:some b≠(Value.slice A1 ps1.length c1).ownBlock:=hown0 _ (by have:=HNB.out;omega)
    have KSA:Hid (∀y2 y3:World,Below wb.heap.size wb y2→y2.grownBy y3 (Value.slice A1 ps1.length c1).ownBlock→(fun w'=>w'.cell? ⟨b,off+i*5,none⟩=some (.int .i64 p.1.k)∧w'.cell? ⟨b,off+i*5+1,none⟩=some (.int .i64 p.1.n)∧w'.cell? ⟨b,off+i*5+2,none⟩=some (.string p.1.t)∧w'.cell? ⟨b,off+i*5+3,none⟩=some (.slice p.1.LA p.1.ln p.1.lc)∧w'.cell? ⟨b,off+i*5+4,none⟩=some (.slice p.1.DA p.1.dn p.1.dc)) y3):=qD fun y2 y3 h2 hg=>HS8.out y3 ((hg.block b (Nat.lt_of_lt_of_le hbw h2.size) hbn).trans (h2.block b hbw))
    have OTH:Hid (∀y2 y3:World,Below wb.heap.size wb y2→y2.grownBy y3 (Value.slice A1 ps1.length c1).ownBlock→∀(k:Nat) (v:Value),(fun w'=>w'.cell? ⟨b,off+i*5,none⟩=some (.int .i64 p.1.k)∧w'.cell? ⟨b,off+i*5+1,none⟩=some (.int .i64 p.1.n)∧w'.cell? ⟨b,off+i*5+2,none⟩=some (.string p.1.t)∧w'.cell? ⟨b,off+i*5+3,none⟩=some (.slice p.1.LA p.1.ln p.1.lc)∧w'.cell? ⟨b,off+i*5+4,none⟩=some (.slice p.1.DA p.1.dn p.1.dc)) (y3.setCell ⟨w.heap.size,k,none⟩ v)∧Blk (y3.setCell ⟨w.heap.size,k,none⟩ v) (w.heap.size+1) 27 (rarr a R)∧Blk (y3.setCell ⟨w.heap.size,k,none⟩ v) (w.heap.size+2) 35 (marr MA.zero Mv.zero)∧Below w.heap.size w (y3.setCell ⟨w.heap.size,k,none⟩ v)):=by
     refine qD fun y2 y3 h2 hg k v=>?_
     have h1:=HNB.out
     have e:∀{b:Nat} {t:TypeId} {cs:Array Value},Blk wb b t cs→b≠w.heap.size→some b≠(Value.slice A1 ps1.length c1).ownBlock→Blk (y3.setCell ⟨w.heap.size,k,none⟩ v) b t cs:=fun hB h1 h3=>((hB.step h2).grown hg h3).far h1 v
     exact⟨HS8.out _ (by rw[Below.heap_setCell _ _ _ b (by show b≠w.heap.size;omega)];exact(hg.block b (Nat.lt_of_lt_of_le hbw h2.size) hbn).trans (h2.block b hbw)),e KR.out (by omega) (hown0 _ (by omega)),e KZ.out (by omega) (hown0 _ (by omega)),((GE.out.step' h2).grown hg (Nat.le_trans GE.out.size h2.size) (fun g e=>by have:=own_ge VG.out.own g e;omega)).setCell (qL) v⟩
    have HTT:Hid (∀wc:WC,(ps1++[(wc,putW sp p.2)]).map Prod.snd=copyL R sp lo hi ((ps.map Prod.snd).take (i+1))):=qD fun wc=>by rw[List.map_append];exact HCI.out.symm
    clear hown0 hcl HS8 K8 K0 KR KZ hbn HST HCI
    refine wp_region_noPanic ?_
    refine wp_region_held_drew (S:=(fun w'=>w'.cell? ⟨b,off+i*5,none⟩=some (.int .i64 p.1.k)∧w'.cell? ⟨b,off+i*5+1,none⟩=some (.int .i64 p.1.n)∧w'.cell? ⟨b,off+i*5+2,none⟩=some (.string p.1.t)∧w'.cell? ⟨b,off+i*5+3,none⟩=some (.slice p.1.LA p.1.ln p.1.lc)∧w'.cell? ⟨b,off+i*5+4,none⟩=some (.slice p.1.DA p.1.dn p.1.dc))) (by kernel_rfl) ?_ (fun hHeld=>?_)
    ·(try dsimp only);exact KSS.out _ B.out
    generalize wb.drew=v0 at*
    refine rU 0 rfl ?_
    try go_frame
    refine rU 3 rfl ?_
    try go_frame
    refine rU 4 rfl ?_
    try go_frame
    refine rU 5 rfl ?_
    try go_frame
    refine rU 6 rfl ?_
    try go_frame
    refine rR [1,2] ?_
    refine rC (fun K hK=>?_) (rC (fun K hK=>?_) rN)
    ·have q6:v0.cell? ⟨w.heap.size,6,none⟩=some (.slice A1 ps1.length c1):=(MVS.out _ B.out).cell 6
     go_simp
     clear q6
     clear hHeld
     refine hK.out _ _ ?_ fun hHeld=>?_
     ·(try dsimp only);exact KSS.out _ B.out
     clear hK K
     try go_frame
     refine rY 2 rfl fun K hK=>?_
     refine wp_load_row 35 _ rfl w.heap.size rfl _ _ _ _ (MVS.out _ B.out) Tryz.underlying35 rfl (by rw[sizeM];rfl) ?_
     clear hHeld
     refine hK.out _ _ ?_ fun hHeld=>?_
     ·(try dsimp only);exact KSS.out _ B.out
     clear hK K
     try go_frame
     refine rY 7 rfl fun K hK=>?_
     go_simp
     refine(HPUT.out v0 B.out).mono ?_
     rintro e3 y1 ⟨wc,rfl,hr,hb⟩
     have P1:=qD (hr.back (GE.out.step' B.out))
     have B1:=qD (B.out.step' hb)
     clear hb hr
     (try go_wp2_with fail)
     clear hHeld
     refine hK.out _ _ ?_ fun hHeld=>?_
     ·(try dsimp only);exact KSS.out _ B1.out
     clear hK K
     try go_frame
     refine rY 8 rfl fun K hK=>?_
     refine wp_buildSlice 33 67 1 _ rfl (recC78 wc).toArray j0 _ Tryz.underlying33 hj0 hw0 (by rw[hw1];decide) (by rw[hw1];decide) (by rw[hw1];exact build_write rfl) ?_
     have N2:Hid (Blk (y1.alloc (.cells (recC78 wc).toArray 67)) y1.heap.size 67 (recC78 wc).toArray):=Blk.new_at rfl
     have B2:=qD (B1.out.alloc B1.out.size (Obj.cells (recC78 wc).toArray 67))
     generalize y1.alloc (.cells (recC78 wc).toArray 67)=y2 at*
     generalize y1.heap.size=gn at*
     clear hHeld
     refine hK.out _ _ ?_ fun hHeld=>?_
     ·(try dsimp only);exact KSS.out _ B2.out
     clear hK K
     try go_frame
     refine rY 9 rfl fun K hK=>?_
     have O2:=qD (VG.out.step B2.out)
     refine wp_append_any y2 (.tmp 28) (.tmp 35) 33 rfl wa.heap.size 67 j0 _ 78 1168 Tryz.underlying33 hj0 hw0 hw1 hw2 rfl (by decide) (.slice A1 ps1.length c1) ps1.length (flat recW ps1) rfl O2.out.own y2.heap.size (some ⟨gn,0,none⟩) 1 1 (recC78 wc) rfl (reads_one N2.out N2.out.lt) (recC78_one wc) (by unfold maxLen;have:=HLEN.out;omega) (by have:=HLEN.out;omega) (Nat.le_trans HBASE.out B2.out.size) ?_
     intro v5 y3 hown hgr hat
     obtain⟨A5,c5,rfl,hc5⟩:=own_slice hown
     have BM3:=qD ((MVS.out _ B2.out).grown hgr HNE0.out)
     have V3:=qD (O2.out.addL (qs:=[(wc,putW sp p.2)]) (fun q hq=>by rw[List.mem_singleton.1 hq];exact P1.out) rfl (by rw[flat_single];exact hown) hgr)
     have GR:=qD hgr
     clear hown hgr hat hc5
     clear hHeld
     refine hK.out _ _ ?_ fun hHeld=>?_
     ·(try dsimp only);exact KSA.out _ _ B2.out GR.out
     clear hK K
     try go_frame
     refine rU 10 rfl ?_
     try go_frame
     refine rY 11 rfl fun K hK=>?_
     have q6:y3.cell? ⟨w.heap.size,6,none⟩=some (.slice A1 ps1.length c1):=BM3.out.cell 6
     have z6:=BM3.out.frozen 6
     go_simp
     change K _ (y3.setCell ⟨w.heap.size,6,none⟩ (.slice A5 (ps1.length+1) c5))
     have BM4:Hid (Blk (y3.setCell ⟨w.heap.size,6,none⟩ (.slice A5 (ps1.length+1) c5)) w.heap.size 35 #[.string sp,.string lo,.string hi,.int .i64 fr,.int .i64 tt,.int .i64 1,.slice A5 (ps1.length+1) c5,.slice HA hn hc2]):=BM3.out.set_ 6 _
     have OT4:=qD (OTH.out _ _ B2.out GR.out 6 (.slice A5 (ps1.length+1) c5))
     have V4:=qD (V3.out.keep (w':=y3.setCell ⟨w.heap.size,6,none⟩ (.slice A5 (ps1.length+1) c5)) (fun b hb _=>Below.heap_setCell _ _ _ b (by show b≠w.heap.size;have:=HNB.out;omega)) OT4.out.2.2.2)
     clear q6 z6 BM3 V3 GR
     generalize y3.setCell ⟨w.heap.size,6,none⟩ (.slice A5 (ps1.length+1) c5)=y4 at*
     clear hHeld
     refine hK.out _ _ ?_ fun hHeld=>?_
     ·(try dsimp only);exact OT4.out.1
     clear hK K
     try go_frame
     refine rD ?_ _
     refine NoPanic.normal ?_
     go_wp2_with fail
     go_roundw
     case rel=>exact⟨i+1,A5,c5,ps1++[(wc,putW sp p.2)],by omega,by go_num,by rw[List.length_append];exact BM4.out,OT4.out.2.1,OT4.out.2.2.1,by rw[List.length_append];exact V4.out,HTT.out wc⟩
     case measure=>simp[intOf];omega
    ·refine wp_load_row 35 _ rfl w.heap.size rfl _ _ _ _ (MVS.out _ B.out) Tryz.underlying35 rfl (by rw[sizeM];rfl) ?_
     clear hHeld
     refine hK.out _ _ ?_ fun hHeld=>?_
     ·(try dsimp only);exact KSS.out _ B.out
     clear hK K
     try go_frame
     refine rR [1,7] ?_
     refine rC (fun K hK=>?_) (rC (fun K hK=>?_) rN)
     ·have q6:v0.cell? ⟨w.heap.size,6,none⟩=some (.slice A1 ps1.length c1):=(MVS.out _ B.out).cell 6
      go_simp
      clear q6
      clear hHeld
      refine hK.out _ _ ?_ fun hHeld=>?_
      ·(try dsimp only);exact KSS.out _ B.out
      clear hK K
      try go_frame
      refine rY 7 rfl fun K hK=>?_
      go_simp
      refine(HPUT.out v0 B.out).mono ?_
      rintro e3 y1 ⟨wc,rfl,hr,hb⟩
      have P1:=qD (hr.back (GE.out.step' B.out))
      have B1:=qD (B.out.step' hb)
      clear hb hr
      (try go_wp2_with fail)
      clear hHeld
      refine hK.out _ _ ?_ fun hHeld=>?_
      ·(try dsimp only);exact KSS.out _ B1.out
      clear hK K
      try go_frame
      refine rY 8 rfl fun K hK=>?_
      refine wp_buildSlice 33 67 1 _ rfl (recC78 wc).toArray j0 _ Tryz.underlying33 hj0 hw0 (by rw[hw1];decide) (by rw[hw1];decide) (by rw[hw1];exact build_write rfl) ?_
      have N2:Hid (Blk (y1.alloc (.cells (recC78 wc).toArray 67)) y1.heap.size 67 (recC78 wc).toArray):=Blk.new_at rfl
      have B2:=qD (B1.out.alloc B1.out.size (Obj.cells (recC78 wc).toArray 67))
      generalize y1.alloc (.cells (recC78 wc).toArray 67)=y2 at*
      generalize y1.heap.size=gn at*
      clear hHeld
      refine hK.out _ _ ?_ fun hHeld=>?_
      ·(try dsimp only);exact KSS.out _ B2.out
      clear hK K
      try go_frame
      refine rY 9 rfl fun K hK=>?_
      have O2:=qD (VG.out.step B2.out)
      refine wp_append_any y2 (.tmp 28) (.tmp 35) 33 rfl wa.heap.size 67 j0 _ 78 1168 Tryz.underlying33 hj0 hw0 hw1 hw2 rfl (by decide) (.slice A1 ps1.length c1) ps1.length (flat recW ps1) rfl O2.out.own y2.heap.size (some ⟨gn,0,none⟩) 1 1 (recC78 wc) rfl (reads_one N2.out N2.out.lt) (recC78_one wc) (by unfold maxLen;have:=HLEN.out;omega) (by have:=HLEN.out;omega) (Nat.le_trans HBASE.out B2.out.size) ?_
      intro v5 y3 hown hgr hat
      obtain⟨A5,c5,rfl,hc5⟩:=own_slice hown
      have BM3:=qD ((MVS.out _ B2.out).grown hgr HNE0.out)
      have V3:=qD (O2.out.addL (qs:=[(wc,putW sp p.2)]) (fun q hq=>by rw[List.mem_singleton.1 hq];exact P1.out) rfl (by rw[flat_single];exact hown) hgr)
      have GR:=qD hgr
      clear hown hgr hat hc5
      clear hHeld
      refine hK.out _ _ ?_ fun hHeld=>?_
      ·(try dsimp only);exact KSA.out _ _ B2.out GR.out
      clear hK K
      try go_frame
      refine rU 10 rfl ?_
      try go_frame
      refine rY 11 rfl fun K hK=>?_
      have q6:y3.cell? ⟨w.heap.size,6,none⟩=some (.slice A1 ps1.length c1):=BM3.out.cell 6
      have z6:=BM3.out.frozen 6
      go_simp
      change K _ (y3.setCell ⟨w.heap.size,6,none⟩ (.slice A5 (ps1.length+1) c5))
      have BM4:Hid (Blk (y3.setCell ⟨w.heap.size,6,none⟩ (.slice A5 (ps1.length+1) c5)) w.heap.size 35 #[.string sp,.string lo,.string hi,.int .i64 fr,.int .i64 tt,.int .i64 1,.slice A5 (ps1.length+1) c5,.slice HA hn hc2]):=BM3.out.set_ 6 _
      have OT4:=qD (OTH.out _ _ B2.out GR.out 6 (.slice A5 (ps1.length+1) c5))
      have V4:=qD (V3.out.keep (w':=y3.setCell ⟨w.heap.size,6,none⟩ (.slice A5 (ps1.length+1) c5)) (fun b hb _=>Below.heap_setCell _ _ _ b (by show b≠w.heap.size;have:=HNB.out;omega)) OT4.out.2.2.2)
      clear q6 z6 BM3 V3 GR
      generalize y3.setCell ⟨w.heap.size,6,none⟩ (.slice A5 (ps1.length+1) c5)=y4 at*
      clear hHeld
      refine hK.out _ _ ?_ fun hHeld=>?_
      ·(try dsimp only);exact OT4.out.1
      clear hK K
      try go_frame
      refine rD ?_ _
      refine NoPanic.normal ?_
      go_wp2_with fail
      go_roundw
      case rel=>exact⟨i+1,A5,c5,ps1++[(wc,putW sp p.2)],by omega,by go_num,by rw[List.length_append];exact BM4.out,OT4.out.2.1,OT4.out.2.2.1,by rw[List.length_append];exact V4.out,HTT.out wc⟩
      case measure=>simp[intOf];omega
     ·go_simp
      refine(HPUT.out v0 B.out).mono ?_
      rintro e3 y1 ⟨wc,rfl,hr,hb⟩
      have P1:=qD (hr.back (GE.out.step' B.out))
      have B1:=qD (B.out.step' hb)
      clear hb hr
      (try go_wp2_with fail)
      clear hHeld
      refine hK.out _ _ ?_ fun hHeld=>?_
      ·(try dsimp only);exact KSS.out _ B1.out
      clear hK K
      try go_frame
      refine rR [1,8] ?_
      refine rC (fun K hK=>?_) (rC (fun K hK=>?_) rN)
      ·have q6:y1.cell? ⟨w.heap.size,6,none⟩=some (.slice A1 ps1.length c1):=(MVS.out _ B1.out).cell 6
       go_simp
       clear q6
       clear hHeld
       refine hK.out _ _ ?_ fun hHeld=>?_
       ·(try dsimp only);exact KSS.out _ B1.out
       clear hK K
       try go_frame
       refine rY 8 rfl fun K hK=>?_
       refine wp_buildSlice 33 67 1 _ rfl (recC78 wc).toArray j0 _ Tryz.underlying33 hj0 hw0 (by rw[hw1];decide) (by rw[hw1];decide) (by rw[hw1];exact build_write rfl) ?_
       have N2:Hid (Blk (y1.alloc (.cells (recC78 wc).toArray 67)) y1.heap.size 67 (recC78 wc).toArray):=Blk.new_at rfl
       have B2:=qD (B1.out.alloc B1.out.size (Obj.cells (recC78 wc).toArray 67))
       generalize y1.alloc (.cells (recC78 wc).toArray 67)=y2 at*
       generalize y1.heap.size=gn at*
       clear hHeld
       refine hK.out _ _ ?_ fun hHeld=>?_
       ·(try dsimp only);exact KSS.out _ B2.out
       clear hK K
       try go_frame
       refine rY 9 rfl fun K hK=>?_
       have O2:=qD (VG.out.step B2.out)
       refine wp_append_any y2 (.tmp 28) (.tmp 35) 33 rfl wa.heap.size 67 j0 _ 78 1168 Tryz.underlying33 hj0 hw0 hw1 hw2 rfl (by decide) (.slice A1 ps1.length c1) ps1.length (flat recW ps1) rfl O2.out.own y2.heap.size (some ⟨gn,0,none⟩) 1 1 (recC78 wc) rfl (reads_one N2.out N2.out.lt) (recC78_one wc) (by unfold maxLen;have:=HLEN.out;omega) (by have:=HLEN.out;omega) (Nat.le_trans HBASE.out B2.out.size) ?_
       intro v5 y3 hown hgr hat
       obtain⟨A5,c5,rfl,hc5⟩:=own_slice hown
       have BM3:=qD ((MVS.out _ B2.out).grown hgr HNE0.out)
       have V3:=qD (O2.out.addL (qs:=[(wc,putW sp p.2)]) (fun q hq=>by rw[List.mem_singleton.1 hq];exact P1.out) rfl (by rw[flat_single];exact hown) hgr)
       have GR:=qD hgr
       clear hown hgr hat hc5
       clear hHeld
       refine hK.out _ _ ?_ fun hHeld=>?_
       ·(try dsimp only);exact KSA.out _ _ B2.out GR.out
       clear hK K
       try go_frame
       refine rU 10 rfl ?_
       try go_frame
       refine rY 11 rfl fun K hK=>?_
       have q6:y3.cell? ⟨w.heap.size,6,none⟩=some (.slice A1 ps1.length c1):=BM3.out.cell 6
       have z6:=BM3.out.frozen 6
       go_simp
       change K _ (y3.setCell ⟨w.heap.size,6,none⟩ (.slice A5 (ps1.length+1) c5))
       have BM4:Hid (Blk (y3.setCell ⟨w.heap.size,6,none⟩ (.slice A5 (ps1.length+1) c5)) w.heap.size 35 #[.string sp,.string lo,.string hi,.int .i64 fr,.int .i64 tt,.int .i64 1,.slice A5 (ps1.length+1) c5,.slice HA hn hc2]):=BM3.out.set_ 6 _
       have OT4:=qD (OTH.out _ _ B2.out GR.out 6 (.slice A5 (ps1.length+1) c5))
       have V4:=qD (V3.out.keep (w':=y3.setCell ⟨w.heap.size,6,none⟩ (.slice A5 (ps1.length+1) c5)) (fun b hb _=>Below.heap_setCell _ _ _ b (by show b≠w.heap.size;have:=HNB.out;omega)) OT4.out.2.2.2)
       clear q6 z6 BM3 V3 GR
       generalize y3.setCell ⟨w.heap.size,6,none⟩ (.slice A5 (ps1.length+1) c5)=y4 at*
       clear hHeld
       refine hK.out _ _ ?_ fun hHeld=>?_
       ·(try dsimp only);exact OT4.out.1
       clear hK K
       try go_frame
       refine rD ?_ _
       refine NoPanic.normal ?_
       go_wp2_with fail
       go_roundw
       case rel=>exact⟨i+1,A5,c5,ps1++[(wc,putW sp p.2)],by omega,by go_num,by rw[List.length_append];exact BM4.out,OT4.out.2.1,OT4.out.2.2.1,by rw[List.length_append];exact V4.out,HTT.out wc⟩
       case measure=>simp[intOf];omega
      ·refine wp_buildSlice 33 67 1 _ rfl (recC78 wc).toArray j0 _ Tryz.underlying33 hj0 hw0 (by rw[hw1];decide) (by rw[hw1];decide) (by rw[hw1];exact build_write rfl) ?_
       have N2:Hid (Blk (y1.alloc (.cells (recC78 wc).toArray 67)) y1.heap.size 67 (recC78 wc).toArray):=Blk.new_at rfl
       have B2:=qD (B1.out.alloc B1.out.size (Obj.cells (recC78 wc).toArray 67))
       generalize y1.alloc (.cells (recC78 wc).toArray 67)=y2 at*
       generalize y1.heap.size=gn at*
       clear hHeld
       refine hK.out _ _ ?_ fun hHeld=>?_
       ·(try dsimp only);exact KSS.out _ B2.out
       clear hK K
       try go_frame
       refine rY 1 rfl fun K hK=>?_
       have q6:y2.cell? ⟨w.heap.size,6,none⟩=some (.slice A1 ps1.length c1):=(MVS.out _ B2.out).cell 6
       go_simp
       clear q6
       clear hHeld
       refine hK.out _ _ ?_ fun hHeld=>?_
       ·(try dsimp only);exact KSS.out _ B2.out
       clear hK K
       try go_frame
       refine rY 9 rfl fun K hK=>?_
       have O2:=qD (VG.out.step B2.out)
       refine wp_append_any y2 (.tmp 28) (.tmp 35) 33 rfl wa.heap.size 67 j0 _ 78 1168 Tryz.underlying33 hj0 hw0 hw1 hw2 rfl (by decide) (.slice A1 ps1.length c1) ps1.length (flat recW ps1) rfl O2.out.own y2.heap.size (some ⟨gn,0,none⟩) 1 1 (recC78 wc) rfl (reads_one N2.out N2.out.lt) (recC78_one wc) (by unfold maxLen;have:=HLEN.out;omega) (by have:=HLEN.out;omega) (Nat.le_trans HBASE.out B2.out.size) ?_
       intro v5 y3 hown hgr hat
       obtain⟨A5,c5,rfl,hc5⟩:=own_slice hown
       have BM3:=qD ((MVS.out _ B2.out).grown hgr HNE0.out)
       have V3:=qD (O2.out.addL (qs:=[(wc,putW sp p.2)]) (fun q hq=>by rw[List.mem_singleton.1 hq];exact P1.out) rfl (by rw[flat_single];exact hown) hgr)
       have GR:=qD hgr
       clear hown hgr hat hc5
       clear hHeld
       refine hK.out _ _ ?_ fun hHeld=>?_
       ·(try dsimp only);exact KSA.out _ _ B2.out GR.out
       clear hK K
       try go_frame
       refine rU 10 rfl ?_
       try go_frame
       refine rY 11 rfl fun K hK=>?_
       have q6:y3.cell? ⟨w.heap.size,6,none⟩=some (.slice A1 ps1.length c1):=BM3.out.cell 6
       have z6:=BM3.out.frozen 6
       go_simp
       change K _ (y3.setCell ⟨w.heap.size,6,none⟩ (.slice A5 (ps1.length+1) c5))
       have BM4:Hid (Blk (y3.setCell ⟨w.heap.size,6,none⟩ (.slice A5 (ps1.length+1) c5)) w.heap.size 35 #[.string sp,.string lo,.string hi,.int .i64 fr,.int .i64 tt,.int .i64 1,.slice A5 (ps1.length+1) c5,.slice HA hn hc2]):=BM3.out.set_ 6 _
       have OT4:=qD (OTH.out _ _ B2.out GR.out 6 (.slice A5 (ps1.length+1) c5))
       have V4:=qD (V3.out.keep (w':=y3.setCell ⟨w.heap.size,6,none⟩ (.slice A5 (ps1.length+1) c5)) (fun b hb _=>Below.heap_setCell _ _ _ b (by show b≠w.heap.size;have:=HNB.out;omega)) OT4.out.2.2.2)
       clear q6 z6 BM3 V3 GR
       generalize y3.setCell ⟨w.heap.size,6,none⟩ (.slice A5 (ps1.length+1) c5)=y4 at*
       clear hHeld
       refine hK.out _ _ ?_ fun hHeld=>?_
       ·(try dsimp only);exact OT4.out.1
       clear hK K
       try go_frame
       refine rD ?_ _
       refine NoPanic.normal ?_
       go_wp2_with fail
       go_roundw
       case rel=>exact⟨i+1,A5,c5,ps1++[(wc,putW sp p.2)],by omega,by go_num,by rw[List.length_append];exact BM4.out,OT4.out.2.1,OT4.out.2.2.1,by rw[List.length_append];exact V4.out,HTT.out wc⟩
       case measure=>simp[intOf];omega
  ·have hik:i=dn:=by omega
   subst hik
   have HALL:Hid (ps1.map Prod.snd=copyL R sp lo hi (ps.map Prod.snd)):=by
    have:=FL.out
    rwa [List.take_of_length_le (by rw[List.length_map,HDL.out];exact qL)] at this
   have q5:wr.cell? ⟨w.heap.size,5,none⟩=some (.int .i64 1):=F0.out.cell 5
   have z5:=F0.out.frozen 5
   go_upto_region 10 with fail
   change Code.wp _ _ _ _ (wr.setCell ⟨w.heap.size,5,none⟩ (.int .i64 2))
   have G0:Hid (Blk (wr.setCell ⟨w.heap.size,5,none⟩ (.int .i64 2)) w.heap.size 35 (marr ⟨A1,ps1.length,c1,HA,hn,hc2⟩ ⟨sp,lo,hi,fr,tt,2,[],[]⟩)):=F0.out.set_ 5 _
   have GZ:=qD (FZ.out.far (p:=⟨w.heap.size,5,none⟩) (by show w.heap.size+2≠w.heap.size;omega) (.int .i64 2))
   have GE:=qD (FV.out.bel.setCell (p:=⟨w.heap.size,5,none⟩) (qL) (.int .i64 2))
   have GV:=qD (FV.out.keep (w':=wr.setCell ⟨w.heap.size,5,none⟩ (.int .i64 2)) (fun b hb _=>Below.heap_setCell _ _ _ b (by show b≠w.heap.size;have:=HW3.out;omega)) GE.out)
   clear q5 z5 F0 FR FZ FV
   generalize wr.setCell ⟨w.heap.size,5,none⟩ (.int .i64 2)=w5 at*
   go_wp2_with (first|(refine wpList_load_row rfl 35 _ rfl (w.heap.size) rfl _ _ _ _ G0.out Tryz.underlying35 rfl (by rw[sizeM];rfl) ?_)|(refine wpList_store_row rfl 35 _ _ rfl (w.heap.size+2) (marr ⟨A1,ps1.length,c1,HA,hn,hc2⟩ ⟨sp,lo,hi,fr,tt,2,[],[]⟩) rfl rfl 35 _ GZ.out (by rw[sizeM];rfl) rfl (marr_all _ _) ?_))
   have VZ:=GV.out.keep (w':=w5.setRow (w.heap.size+2) (marr ⟨A1,ps1.length,c1,HA,hn,hc2⟩ ⟨sp,lo,hi,fr,tt,2,[],[]⟩)) (fun b hb _=>setRow_other _ _ _ _ (by have:=HW3.out;omega)) (below_row GE.out (by omega) _)
   obtain⟨A9,c9,he9,hws⟩:=VZ.sl (by have:=HPL.out;omega)
   injection he9 with e1 e2 e3
   subst e1 e3
   obtain⟨qs,hqs,Q⟩:=HM.out.ch
   refine bodyPost_ret (results_mv rfl _ (w.heap.size+2) rfl (.int .i64 0) rfl _ ⟨A1,ps1.length,c1,HA,hn,hc2⟩ ⟨sp,lo,hi,fr,tt,2,[],[]⟩ (Blk.row GZ.out _)) rfl ?_
   unfold MvR copyM
   rw[if_pos rfl]
   exact⟨⟨A1,ps1.length,c1,HA,hn,hc2⟩,rfl,⟨HSP.out,⟨ps1,HALL.out,hws⟩,⟨qs,hqs,Q.step VZ.bel⟩⟩,VZ.bel⟩
theorem rcopy(M:Mv)(ma:MA)(R:Ro)(a:RA)(ps:List PV)(DA:Option Addr)(dn dc:Nat)(w:World)(h:RR w a R)(h8:R.ks.length≤8)(hk:R.ha=true→R.ks.length=1)(hd:SL (fun _=>True) w DA dn dc ps)(hsto:∀p∈ps,StoD p.2)(hz:dn≤1000)(hm:MR w ma M)(hlo:M.lo.size≤reach):
 Calls Tryz.prog 19 #[mval ma M,rval a R,.slice DA dn dc] w (MvR (copyM M R (ps.map Prod.snd)) w):=by
 by_cases hs:M.st=1
 ·exact rcopy_any M ma R a ps DA dn dc w h h8 hk hd hsto hz hm hlo hs
 ·refine(rcopy_ref M ma R a DA dn dc w hs).mono ?_
  rintro e w' ⟨rfl,hb⟩
  unfold MvR copyM
  rw[if_neg hs]
  exact⟨MA.zero,rfl,MR.zero,hb⟩
def OW(w:World)(g:Nat)(S:ByteArray):Prop:=Blk w g 120 #[.string S,.bool false,.bool true]
def Wrote(g:Nat)(S L:ByteArray)(w:World)(e:Ending)(w':World):Prop:=e=.returned (.tuple #[])∧OW w' g (S++L)∧But g w w'
theorem RV.butG{g:Nat}{w w':World}{c:VC}{x:Val}(h:RV (fun b=>b≠g) w c x)(hb:But g w w'):RV (fun b=>b≠g) w' c x:=h.keepG fun b hF hl=>⟨hF,hb.block b hl hF⟩
theorem But.alloc{g:Nat}{w w':World}(h:But g w w')(o:Obj):But g w (w'.alloc o):=h.step ((Below.refl _ _).alloc (qL) o)
theorem SL.but{g:Nat}{w w':World}{A:Option Addr}{n c:Nat}{ps:List PV}(h:SL (fun b=>b≠g) w A n c ps)(hb:But g w w'):SL (fun b=>b≠g) w' A n c ps:=by
 refine⟨⟨h.sr.ln,h.sr.lc,fun hn=>?_⟩,h.sz,fun hn=>?_,fun p hp=>(h.rv p hp).butG hb⟩
 ·obtain⟨b,off,e,hl,hc⟩:=h.sr.el hn
  obtain⟨b',off',e',hF⟩:=h.blk hn
  rw[e] at e'
  cases e'
  exact⟨b,off,e,Nat.lt_of_lt_of_le hl hb.size,fun i p hi j v hj=>(hb.cell (p:=⟨b,off+i*5+j,none⟩) hl hF.1).trans (hc i p hi j v hj)⟩
 ·obtain⟨b,off,e,hl,hc⟩:=h.sr.el hn
  obtain⟨b',off',e',hF⟩:=h.blk hn
  rw[e] at e'
  cases e'
  exact⟨b,off,e,hF.keepG hl fun k hk hl2=>⟨hk,hb.block k hl2 hk⟩⟩
theorem onum_any(n:Int)(g:Nat)(S:ByteArray)(w:World)(h:OW w g S)(hs:S.size+(numB n).size≤9223372036854775807):Calls Tryz.prog 86 #[.pointer (some ⟨g,0,none⟩),.int .i64 n] w (Wrote g S (numB n) w):=by
 have HO:Hid (Blk w g 120 #[.string S,.bool false,.bool true]):=h
 have hgl:g<w.heap.size:=h.lt
 obtain⟨Z,hZ⟩:∃Z,numB n=Z:=⟨_,rfl⟩
 rw[hZ] at hs
 have hz:¬(9223372036854775807<S.size+Z.size):=by omega
 have K1:Hid (∀q:BW w,Calls Tryz.prog 112 #[.int .i64 n] q.val fun e w''=>e=.returned (.string Z)∧∃q:BW w,w''=q.val):=fun q=>Calls.bw (hZ▸rnum_any n q.val)
 have HZ:=qD hZ
 have E0:∀q:BW w,q.val.cell? ⟨g,0,none⟩=some (.string S):=fun q=>q.cell (HO.out.cell 0)
 clear h hs hZ
 go_enter Tryz.func86,Tryz.ntmps86
 refine wp_region_bw_tail 9 (by kernel_rfl) (by kernel_rfl) ?_
 simp only[List.take_succ_cons,List.take_zero,List.drop_succ_cons,List.drop_zero]
 repeat(go_big_quiet_step (with_reducible exact K1.out _))
 refine wpQuiet_nil ?_
 rintro _ ⟨kw,rfl⟩
 have F0:=(HO.out.step kw.below).frozen 0
 have e0:=E0 kw
 have JG:Hid (Blk (kw.val.setCell ⟨g,0,none⟩ (.string (S++Z))) g 120 #[.string (S++Z),.bool false,.bool true]):=(HO.out.step kw.below).set_ 0 _
 have JB:=qD ((But.of_below (g:=g) kw.below).set (p:=⟨g,0,none⟩) rfl (.string (S++Z)))
 clear E0 K1 HO
 generalize kw.val=w2 at*
 go_wp2_with fail
 go_end0
 exact⟨rfl,by rw[HZ.out];exact JG.out,JB.out⟩
theorem ostr_any(s:ByteArray)(g:Nat)(S:ByteArray)(w:World)(h:OW w g S)(hs:S.size+(strB s).size≤9223372036854775807):Calls Tryz.prog 87 #[.pointer (some ⟨g,0,none⟩),.string s] w (Wrote g S (strB s) w):=by
 have hsz:S.size+((numB (s.size:Int)).size+s.size)≤9223372036854775807:=by rw[strB,ByteArray.size_append] at hs;exact hs
 have HN:=qD (onum_any (s.size:Int) g S w h (by omega))
 have hz2:(S++numB (s.size:Int)).size+s.size≤9223372036854775807:=by rw[ByteArray.size_append];omega
 obtain⟨U,hU⟩:∃U,S++numB (s.size:Int)=U:=⟨_,rfl⟩
 rw[hU] at hz2
 have HU:=qD hU
 have hz3:¬(9223372036854775807<U.size+s.size):=by omega
 clear h hs hsz hz2 hU
 go_enter Tryz.func87,Tryz.ntmps87
 go_wp2_with fail
 refine HN.out.mono ?_
 rintro e w1 ⟨rfl,hO,hb⟩
 rw[HU.out] at hO
 have HO:Hid (Blk w1 g 120 #[.string U,.bool false,.bool true]):=hO
 have q0:w1.cell? ⟨g,0,none⟩=some (.string U):=HO.out.cell 0
 have f0:=HO.out.frozen 0
 have hgl:g<w1.heap.size:=HO.out.lt
 have JG:Hid (Blk (w1.setCell ⟨g,0,none⟩ (.string (U++s))) g 120 #[.string (U++s),.bool false,.bool true]):=HO.out.set_ 0 _
 have JB:=qD (hb.set (p:=⟨g,0,none⟩) rfl (.string (U++s)))
 clear hO hb HO HN
 go_wp2_with fail
 go_end0
 refine⟨rfl,?_,JB.out⟩
 have e:U++s=S++strB s:=by rw[←HU.out,ByteArray.append_assoc,strB]
 rw[←e]
 exact JG.out
theorem oflag_any(b:Bool)(g:Nat)(S:ByteArray)(w:World)(h:OW w g S)(hs:S.size+(flagB b).size≤9223372036854775807):Calls Tryz.prog 116 #[.pointer (some ⟨g,0,none⟩),.bool b] w (Wrote g S (flagB b) w):=by
 have HO:Hid (Blk w g 120 #[.string S,.bool false,.bool true]):=h
 rw[flagB_size] at hs
 have q0:w.cell? ⟨g,0,none⟩=some (.string S):=HO.out.cell 0
 have f0:=HO.out.frozen 0
 have hgl:g<w.heap.size:=HO.out.lt
 have hz:¬(9223372036854775807<S.size+1):=by omega
 cases b
 ·have JG:Hid (Blk (w.setCell ⟨g,0,none⟩ (.string (S++⟨#[0]⟩))) g 120 #[.string (S++⟨#[0]⟩),.bool false,.bool true]):=HO.out.set_ 0 _
  have JB:=qD ((But.refl (g:=g) (w:=w)).set (p:=⟨g,0,none⟩) rfl (.string (S++⟨#[0]⟩)))
  have hz2:¬(9223372036854775807<S.size+ByteArray.size ⟨#[0]⟩):=hz
  clear h hs HO
  go_enter Tryz.func116,Tryz.ntmps116
  go_wp2_with fail
  go_end0
  exact⟨rfl,JG.out,JB.out⟩
 ·have JG:Hid (Blk (w.setCell ⟨g,0,none⟩ (.string (S++⟨#[1]⟩))) g 120 #[.string (S++⟨#[1]⟩),.bool false,.bool true]):=HO.out.set_ 0 _
  have JB:=qD ((But.refl (g:=g) (w:=w)).set (p:=⟨g,0,none⟩) rfl (.string (S++⟨#[1]⟩)))
  have hz2:¬(9223372036854775807<S.size+ByteArray.size ⟨#[1]⟩):=hz
  clear h hs HO
  go_enter Tryz.func116,Tryz.ntmps116
  go_wp2_with fail
  go_end0
  exact⟨rfl,JG.out,JB.out⟩
def OvalAt(x:Val):Prop:=∀(c:VC) (g:Nat) (S:ByteArray) (w:World),RV (fun b=>b≠g) w c x→OW w g S→S.size+(codeV x).size≤9223372036854775807→Calls Tryz.prog 113 #[.pointer (some ⟨g,0,none⟩),c.val] w (Wrote g S (codeV x) w)
theorem ovals_any(l:List Val)(ih:∀y∈l,OvalAt y)(ps:List PV)(A:Option Addr)(n c:Nat)(g:Nat)(S:ByteArray)(w:World)(hp:SL (fun b=>b≠g) w A n c ps)(hl:ps.map Prod.snd=l)(h:OW w g S)(hs:S.size+((numB (l.length:Int)).size+(codeL l).size)≤9223372036854775807):
 Calls Tryz.prog 131 #[.pointer (some ⟨g,0,none⟩),.slice A n c] w (Wrote g S (numB (l.length:Int)++codeL l) w):=by
 have HP:=qD hp
 have HL:=qD hl
 have IH:=qD ih
 have HS:=qD hs
 have hnl:n=l.length:=by rw[←hl,List.length_map];exact hp.sr.ln
 have HNL:=qD hnl
 have HN:=qD (onum_any (n:Int) g S w h (by rw[hnl];omega))
 have hnz:=hp.sz
 unfold reach at hnz
 clear hp hl ih hs h hnl
 go_enter Tryz.func131,Tryz.ntmps131
 go_wp2_with fail
 refine HN.out.mono ?_
 rintro e w1 ⟨rfl,hO,hb⟩
 have HO:=qD hO
 have HB:=qD hb
 clear hO hb HN
 go_wp2_with fail
 go_loopw [4] (fun v4 wr=>∃i:Nat,i≤n∧v4=.int .i64 i∧OW wr g (S++numB (n:Int)++codeL (l.take i))∧But g w wr) (fun v4 _=>n-(intOf v4).toNat)
 case atStart=>exact⟨0,Nat.zero_le _,rfl,by rw[List.take_zero,codeL,ByteArray.append_empty];exact HO.out,HB.out⟩
 case round=>
  clear HO HB
  obtain⟨i,hi1,rfl,hO,hb⟩:=hrel
  have HO:=qD hO
  have HB:=qD hb
  clear hO hb
  by_cases hlt:i<n
  ·obtain⟨p,hp⟩:∃p,ps[i]?=some p:=⟨_,List.getElem?_eq_getElem (by have:=HP.out.sr.ln;omega)⟩
   obtain⟨b,off,rfl,hbg,hu,hr⟩:=HP.out.vat hp
   have g1:l[i]?=some p.2:=by rw[←HL.out,List.getElem?_map,hp];rfl
   obtain⟨y0,y1,y2,y3,y4⟩:=hu.keep (HB.out.block b hu.lt hbg)
   have HSN:=qD (codeL_snoc g1)
   have hz:(S++numB (n:Int)++codeL (l.take i)).size+(codeV p.2).size≤9223372036854775807:=by
    have h1:=codeL_take_le l (i+1)
    rw[HSN.out,ByteArray.size_append] at h1
    have h2:=HS.out
    rw[←HNL.out] at h2
    rw[ByteArray.size_append,ByteArray.size_append]
    omega
   have HC:=qD (IH.out p.2 (List.mem_of_getElem? g1) p.1 g _ wr (hr.butG HB.out) HO.out hz)
   have hi0:(0:Int)≤(i:Int):=by omega
   have hi3:(i:Int)<(n:Int):=by omega
   clear hp hu hr g1 hz HO
   go_wp2_with fail
   refine HC.out.mono ?_
   rintro e w2 ⟨rfl,hO,hb⟩
   have HO2:=qD hO
   have HB2:=qD (HB.out.trans hb)
   clear hO hb HC HB y0 y1 y2 y3 y4
   go_wp2_with fail
   go_roundw
   case rel=>exact⟨i+1,by omega,by go_num,by rw[HSN.out,←ByteArray.append_assoc];exact HO2.out,HB2.out⟩
   case measure=>simp[intOf];omega
  ·have hin:i=n:=by omega
   subst hin
   go_wp2_with fail
   go_end0
   refine⟨rfl,?_,HB.out⟩
   have h1:=HO.out
   rw[List.take_of_length_le (by rw[HNL.out];exact qL),ByteArray.append_assoc,HNL.out] at h1
   exact h1
theorem oval_any:∀x,OvalAt x:=by
 intro x
 induction x using Val.ind with
 | h k n t l d ihl ihd=>
 intro c g S w hx ho hs
 obtain⟨ck,cn,ct,cLA,cln,clc,cDA,cdn,cdc⟩:=c
 have hk:ck=k:=hx.open.k
 have hn:cn=n:=hx.open.n
 have ht:ct=t:=hx.open.t
 subst hk hn ht
 have hl1:cln=l.length:=hx.open.ln
 have hd1:cdn=d.length:=hx.open.dn
 obtain⟨ps,hps,hsl⟩:=hx.sl
 obtain⟨fs,hfs,hfl⟩:=hx.sd
 simp only at hsl hfl
 have hz2:=hfl.sz
 unfold reach at hz2
 have hgl:g<w.heap.size:=ho.lt
 have P1:=qD hsl
 have Q1:=qD hfl
 have HS1:Hid (ps.map Prod.snd=l):=hps
 have HT1:Hid (fs.map Prod.snd=d):=hfs
 have HN1:=qD hl1
 have HM1:=qD hd1
 have IH:=qD ihl
 have ID:=qD ihd
 have HSZ:Hid (S.size+((numB ck).size+((numB cn).size+((strB ct).size+((numB (l.length:Int)).size+((codeL l).size+((numB (d.length:Int)).size+(codeD d).size))))))≤9223372036854775807):=by
  have:=hs
  rw[codeV_size] at this
  exact this
 clear hx hps hfs hsl hfl hl1 hd1 ihl ihd hs
 obtain⟨w0,hw0⟩:∃w0,w.alloc (.cells #[.int .i64 ck,.int .i64 cn,.string ct,.slice cLA cln clc,.slice cDA cdn cdc] 45)=w0:=⟨_,rfl⟩
 have X0:Hid (Blk w0 w.heap.size 45 #[.int .i64 ck,.int .i64 cn,.string ct,.slice cLA cln clc,.slice cDA cdn cdc]):=by rw[←hw0];exact Blk.new_at rfl
 have T0:Hid (But g w w0):=by rw[←hw0];exact But.refl.alloc _
 have O0:Hid (OW w0 g S):=by rw[←hw0];exact Blk.alloc ho _
 have HW:=qD hw0
 clear hw0 ho
 go_enter Tryz.func113,Tryz.ntmps113
 go_upto_region 1 with fail
 change Code.wp _ _ _ _ (w.alloc (.cells #[.int .i64 ck,.int .i64 cn,.string ct,.slice cLA cln clc,.slice cDA cdn cdc] 45))
 rw[HW.out]
 clear HW
 have r2:w0.cell? ⟨g,2,none⟩=some (.bool true):=Blk.cell O0.out 2
 have c0:w0.cell? ⟨w.heap.size,0,none⟩=some (.int .i64 ck):=X0.out.cell 0
 have HC1:=qD (onum_any ck g S w0 O0.out (by have:=HSZ.out;omega))
 go_wp2_with fail
 refine HC1.out.mono ?_
 rintro e w1 ⟨rfl,hO,hb⟩
 have O1:=qD hO
 have T1:=qD (T0.out.trans hb)
 have X1:=qD (X0.out.but hb (by omega))
 clear hO hb HC1 r2 c0 O0 T0 X0
 have c1:w1.cell? ⟨w.heap.size,1,none⟩=some (.int .i64 cn):=X1.out.cell 1
 have HC1:=qD (onum_any cn g _ w1 O1.out (by have:=HSZ.out;simp only[ByteArray.size_append];omega))
 go_wp2_with fail
 refine HC1.out.mono ?_
 rintro e w2 ⟨rfl,hO,hb⟩
 have O2:=qD hO
 have T2:=qD (T1.out.trans hb)
 have X2:=qD (X1.out.but hb (by omega))
 clear hO hb HC1 c1 O1 T1 X1
 have c2:w2.cell? ⟨w.heap.size,2,none⟩=some (.string ct):=X2.out.cell 2
 have HC1:=qD (ostr_any ct g _ w2 O2.out (by have:=HSZ.out;simp only[ByteArray.size_append];omega))
 go_wp2_with fail
 refine HC1.out.mono ?_
 rintro e w3 ⟨rfl,hO,hb⟩
 have O3:=qD hO
 have T3:=qD (T2.out.trans hb)
 have X3:=qD (X2.out.but hb (by omega))
 clear hO hb HC1 c2 O2 T2 X2
 have c3:w3.cell? ⟨w.heap.size,3,none⟩=some (.slice cLA cln clc):=X3.out.cell 3
 have HC1:=qD (ovals_any l IH.out ps cLA cln clc g _ w3 (P1.out.but T3.out) HS1.out O3.out (by have:=HSZ.out;simp only[ByteArray.size_append];omega))
 go_wp2_with fail
 refine HC1.out.mono ?_
 rintro e w4 ⟨rfl,hO,hb⟩
 have O4:=qD hO
 have T4:=qD (T3.out.trans hb)
 have X4:=qD (X3.out.but hb (by omega))
 clear hO hb HC1 c3 O3 T3 X3
 have c4:w4.cell? ⟨w.heap.size,4,none⟩=some (.slice cDA cdn cdc):=X4.out.cell 4
 have HC1:=qD (onum_any (cdn:Int) g _ w4 O4.out (by have:=HSZ.out;rw[HM1.out];simp only[ByteArray.size_append];omega))
 go_wp2_with fail
 refine HC1.out.mono ?_
 rintro e w5 ⟨rfl,hO,hb⟩
 have O5:=qD hO
 have T5:=qD (T4.out.trans hb)
 have X5:=qD (X4.out.but hb (by omega))
 clear hO hb HC1 c4 O4 T4 X4
 obtain⟨U,hU⟩:∃U,S++numB ck++numB cn++strB ct++(numB (l.length:Int)++codeL l)++numB (cdn:Int)=U:=⟨_,rfl⟩
 have HU:=qD hU
 rw[hU] at O5
 clear hU
 have HUZ:Hid (U.size+(codeD d).size≤9223372036854775807):=by
  have:=HSZ.out
  rw[Hid,←HU.out,HM1.out]
  simp only[ByteArray.size_append]
  omega
 go_wp2_with fail
 go_loopw [4] (fun v4 wr=>∃i:Nat,i≤cdn∧v4=.int .i64 i∧OW wr g (U++codeD (d.take i))∧But g w wr∧Blk wr w.heap.size 45 #[.int .i64 ck,.int .i64 cn,.string ct,.slice cLA cln clc,.slice cDA cdn cdc]) (fun v4 _=>cdn-(intOf v4).toNat)
 case atStart=>exact⟨0,Nat.zero_le _,rfl,by rw[List.take_zero,codeD,ByteArray.append_empty];exact O5.out,T5.out,X5.out⟩
 case round=>
  clear O5 T5 X5
  obtain⟨i,hi1,rfl,hO,hb,hX⟩:=hrel
  have HO:=qD hO
  have HB:=qD hb
  have HX:=qD hX
  have c4:wr.cell? ⟨w.heap.size,4,none⟩=some (.slice cDA cdn cdc):=HX.out.cell 4
  clear hO hb hX
  by_cases hlt:i<cdn
  ·obtain⟨p,hp⟩:∃p,fs[i]?=some p:=⟨_,List.getElem?_eq_getElem (by have:=Q1.out.sr.ln;omega)⟩
   obtain⟨b,off,rfl,hbg,hns,hu,hr⟩:=Q1.out.vat hp
   have g1:d[i]?=some p.2:=by rw[←HT1.out,List.getElem?_map,hp];rfl
   have HSN:=qD (codeD_snoc g1)
   have HIZ:Hid (U.size+(codeD (d.take i)).size+((strB p.2.s).size+(codeV p.2.v).size)≤9223372036854775807):=by
    have h1:=codeD_take_le d (i+1)
    rw[HSN.out,ByteArray.size_append,ByteArray.size_append] at h1
    have h2:=HUZ.out
    unfold Hid
    omega
   have hns2:=(HB.out.cell (p:=⟨b,off+i*6,none⟩) hu.lt hbg).trans hns
   have HV:=qD (hu.keep (HB.out.block b hu.lt hbg))
   have HR:=qD hr
   have HC:=qD (ostr_any p.2.s g _ wr HO.out (by have:=HIZ.out;simp only[ByteArray.size_append];omega))
   have hi0:(0:Int)≤(i:Int):=by omega
   have hi3:(i:Int)<(cdn:Int):=by omega
   have ID1:=qD (ID.out p.2 (List.mem_of_getElem? g1))
   clear hp hu hr g1 hns HO
   go_wp2_with fail
   refine HC.out.mono ?_
   rintro e w6 ⟨rfl,hO,hb⟩
   have O6:=qD hO
   have T6:=qD (HB.out.trans hb)
   have X6:=qD (HX.out.but hb (by omega))
   obtain⟨y0,y1,y2,y3,y4⟩:=HV.out.keep (hb.block b HV.out.lt hbg)
   clear hO hb HC HB HX c4 hns2 HV
   have c4:w6.cell? ⟨w.heap.size,4,none⟩=some (.slice (some ⟨b,off,none⟩) cdn cdc):=X6.out.cell 4
   have HC:=qD (ID1.out p.1 g _ w6 (HR.out.butG T6.out) O6.out (by have:=HIZ.out;simp only[ByteArray.size_append];omega))
   go_wp2_with fail
   refine HC.out.mono ?_
   rintro e w7 ⟨rfl,hO,hb⟩
   have O7:=qD hO
   have T7:=qD (T6.out.trans hb)
   have X7:=qD (X6.out.but hb (by omega))
   clear hO hb HC T6 X6 c4 y0 y1 y2 y3 y4 O6
   go_wp2_with fail
   go_roundw
   case rel=>exact⟨i+1,by omega,by go_num,by rw[HSN.out,←ByteArray.append_assoc,←ByteArray.append_assoc];exact O7.out,T7.out,X7.out⟩
   case measure=>simp[intOf];omega
  ·have hin:i=cdn:=by omega
   subst hin
   go_wp2_with fail
   go_end0
   refine⟨rfl,?_,HB.out⟩
   have h1:=HO.out
   rw[List.take_of_length_le (by rw[HM1.out];exact qL),←HU.out,HM1.out] at h1
   rw[codeV]
   simpa only[ByteArray.append_assoc] using h1
def spaceL:List Value:=(tailW.drop 5).take 25
def indexL:List Value:=(tailW.drop 30).take 31
def schemaL:List Value:=(spaceL.drop 2).take 21
def predL:List Value:=(indexL.drop 6).take 25
def shapeL:List Value:=(predL.drop 10).take 3
def exprL:List Value:=(predL.drop 13).take 11
def entL(x:WC):List Value:=.int .i64 0::.int .i64 0::.string ByteArray.empty::.int .i64 0::recC78 x
theorem Blk.cellM{w:World}{g:Nat}{t:TypeId}{l:List Value}(h:Blk w g t l.toArray){i:Nat}{u:Value}(e:l[i]?=some u):w.cell? ⟨g,i,none⟩=some u:=by
 rw[h.cell];simpa using e
theorem take_dropM{cs l:List Value}{o n:Nat}(e:(cs.drop o).take n=l)(j:Nat)(u:Value)(h:l[j]?=some u):cs[o+j]?=some u:=by
 rw[←e,List.getElem?_take] at h
 split at h
 ·rw[List.getElem?_drop] at h;exact h
 ·cases h
theorem Blk.rangeL{w:World}{b:Nat}{t:TypeId}{cs l:List Value}(o n:Nat)(h:Blk w b t cs.toArray)(e:(cs.drop o).take n=l):w.rangeAt b o l:=
 fun j v hj=>h.cellM (take_dropM e j v hj)
theorem OW.app_{w:World}{g:Nat}{S A L:ByteArray}(h:OW w g A)(e:A=S++L):OW w g (S++L):=e▸h
theorem rv_zero{F:Nat→Prop}{w:World}:RV F w VC.zero Val.zero:=
 RVs.shut ⟨rfl,rfl,rfl,by show(0:Nat)≤reach;decide,rfl,qL,by show(0:Nat)*80≤reach;decide,fun h=>absurd h (Nat.lt_irrefl 0),rfl,qL,by show(0:Nat)*96≤reach;decide,fun h=>absurd h (Nat.lt_irrefl 0)⟩
theorem ostrs0_any(g:Nat)(S:ByteArray)(w:World)(h:OW w g S)(hs:S.size+(numB 0).size≤9223372036854775807):Calls Tryz.prog 135 #[.pointer (some ⟨g,0,none⟩),.slice none 0 0] w (Wrote g S (numB 0) w):=by
 have HN:=qD (onum_any 0 g S w h hs)
 clear h hs
 go_enter Tryz.func135,Tryz.ntmps135
 go_wp2_with fail
 refine HN.out.mono ?_
 rintro e w1 ⟨rfl,hO,hb⟩
 have HO:=qD hO
 have HB:=qD hb
 clear hO hb HN
 go_wp2_with fail
 go_loopw [4] (fun v4 wr=>v4=.int .i64 0∧wr=w1) (fun _ _=>0)
 case atStart=>exact⟨rfl,rfl⟩
 case round=>
  obtain⟨rfl,rfl⟩:=hrel
  go_wp2_with fail
  go_end0
  exact⟨rfl,HO.out,HB.out⟩
theorem ovals0_any(g:Nat)(S:ByteArray)(w:World)(h:OW w g S)(hs:S.size+(numB 0).size≤9223372036854775807):Calls Tryz.prog 131 #[.pointer (some ⟨g,0,none⟩),.slice none 0 0] w (Wrote g S (numB 0) w):=by
 have h1:=ovals_any [] (fun y hy=>by simp at hy) [] none 0 0 g S w SL.nil rfl h (by rw[codeL];exact hs)
 rw[codeL,ByteArray.append_empty] at h1
 exact h1
theorem oval0_any(g:Nat)(S:ByteArray)(w:World)(h:OW w g S)(hs:S.size+valZ.size≤9223372036854775807):Calls Tryz.prog 113 #[.pointer (some ⟨g,0,none⟩),VC.zero.val] w (Wrote g S valZ w):=oval_any Val.zero VC.zero g S w rv_zero h hs
theorem oshape_any(g:Nat)(S:ByteArray)(w:World)(h:OW w g S)(hs:S.size+(shapeZ).size≤9223372036854775807):Calls Tryz.prog 148 #[.pointer (some ⟨g,0,none⟩),.agg shapeL.toArray] w (Wrote g S (shapeZ) w):=by
 have hgl:g<w.heap.size:=h.lt
 have HSZ:Hid (S.size+((numB 0).size+((numB 0).size+(numB 0).size))≤9223372036854775807):=by have:=hs;unfold Hid;simp only[shapeZ,ByteArray.size_append] at this ⊢;omega
 clear hs
 obtain⟨w0,hw0⟩:∃w0,w.alloc (.cells shapeL.toArray 56)=w0:=⟨_,rfl⟩
 have X0:Hid (Blk w0 w.heap.size 56 shapeL.toArray):=by rw[←hw0];exact Blk.new_at rfl
 have T0:Hid (But g w w0):=by rw[←hw0];exact But.refl.alloc _
 have O0:Hid (OW w0 g S):=by rw[←hw0];exact Blk.alloc h _
 have HW:=qD hw0
 clear hw0 h
 go_enter Tryz.func148,Tryz.ntmps148
 go_upto_region 1 with fail
 change Code.wp _ _ _ _ (w.alloc (.cells shapeL.toArray 56))
 rw[HW.out]
 clear HW
 have c0:w0.cell? ⟨w.heap.size,0,none⟩=some (.int .i64 0):=X0.out.cellM rfl
 have HC:=qD (onum_any 0 g _ w0 O0.out (by have:=HSZ.out;(try simp only[ByteArray.size_append]);omega))
 go_wp2_with fail
 refine HC.out.mono ?_
 rintro e w1 ⟨rfl,hO,hb⟩
 have O1:=qD hO
 have T1:=qD (T0.out.trans hb)
 have X1:=qD (X0.out.but hb (by omega))
 clear hO hb HC c0 O0 T0 X0
 have c0:w1.cell? ⟨w.heap.size,1,none⟩=some (.slice none 0 0):=X1.out.cellM rfl
 have HC:=qD (onum_any 0 g _ w1 O1.out (by have:=HSZ.out;(try simp only[ByteArray.size_append]);omega))
 go_wp2_with fail
 refine HC.out.mono ?_
 rintro e w2 ⟨rfl,hO,hb⟩
 have O2:=qD hO
 have T2:=qD (T1.out.trans hb)
 have X2:=qD (X1.out.but hb (by omega))
 clear hO hb HC c0 O1 T1 X1
 have c0:w2.cell? ⟨w.heap.size,1,none⟩=some (.slice none 0 0):=X2.out.cellM rfl
 go_wp2_with fail
 go_loopw [4] (fun v wr=>v=.int .i64 0∧wr=w2) (fun _ _=>0)
 case atStart=>exact⟨rfl,rfl⟩
 case round=>
  obtain⟨rfl,hw⟩:=hrel
  rw[hw]
  clear hw
  have c0:w2.cell? ⟨w.heap.size,2,none⟩=some (.int .i64 0):=X2.out.cellM rfl
  have HC:=qD (onum_any 0 g _ w2 O2.out (by have:=HSZ.out;(try simp only[ByteArray.size_append]);omega))
  go_wp2_with fail
  refine HC.out.mono ?_
  rintro e w3 ⟨rfl,hO,hb⟩
  have O3:=qD hO
  have T3:=qD (T2.out.trans hb)
  have X3:=qD (X2.out.but hb (by omega))
  clear hO hb HC c0 O2 T2 X2
  go_wp2_with fail
  go_end0
  refine⟨rfl,O3.out.app_ ?_,T3.out⟩
  simp only[shapeZ,ByteArray.append_assoc]
theorem oexpr_any(g:Nat)(S:ByteArray)(w:World)(h:OW w g S)(hs:S.size+(exprZ).size≤9223372036854775807):Calls Tryz.prog 149 #[.pointer (some ⟨g,0,none⟩),.agg exprL.toArray] w (Wrote g S (exprZ) w):=by
 have hgl:g<w.heap.size:=h.lt
 have HSZ:Hid (S.size+((numB 0).size+((numB 0).size+((strB ByteArray.empty).size+((numB 0).size+((valZ).size+((numB 0).size+(numB 0).size))))))≤9223372036854775807):=by have:=hs;unfold Hid;simp only[exprZ,ByteArray.size_append] at this ⊢;omega
 clear hs
 obtain⟨w0,hw0⟩:∃w0,w.alloc (.cells exprL.toArray 59)=w0:=⟨_,rfl⟩
 have X0:Hid (Blk w0 w.heap.size 59 exprL.toArray):=by rw[←hw0];exact Blk.new_at rfl
 have T0:Hid (But g w w0):=by rw[←hw0];exact But.refl.alloc _
 have O0:Hid (OW w0 g S):=by rw[←hw0];exact Blk.alloc h _
 have HW:=qD hw0
 clear hw0 h
 go_enter Tryz.func149,Tryz.ntmps149
 go_upto_region 1 with fail
 change Code.wp _ _ _ _ (w.alloc (.cells exprL.toArray 59))
 rw[HW.out]
 clear HW
 have c0:w0.cell? ⟨w.heap.size,0,none⟩=some (.int .i64 0):=X0.out.cellM rfl
 have HC:=qD (onum_any 0 g _ w0 O0.out (by have:=HSZ.out;(try simp only[ByteArray.size_append]);omega))
 go_wp2_with fail
 refine HC.out.mono ?_
 rintro e w1 ⟨rfl,hO,hb⟩
 have O1:=qD hO
 have T1:=qD (T0.out.trans hb)
 have X1:=qD (X0.out.but hb (by omega))
 clear hO hb HC c0 O0 T0 X0
 have c0:w1.cell? ⟨w.heap.size,1,none⟩=some (.slice none 0 0):=X1.out.cellM rfl
 have HC:=qD (ostrs0_any g _ w1 O1.out (by have:=HSZ.out;(try simp only[ByteArray.size_append]);omega))
 go_wp2_with fail
 refine HC.out.mono ?_
 rintro e w2 ⟨rfl,hO,hb⟩
 have O2:=qD hO
 have T2:=qD (T1.out.trans hb)
 have X2:=qD (X1.out.but hb (by omega))
 clear hO hb HC c0 O1 T1 X1
 have c0:w2.cell? ⟨w.heap.size,2,none⟩=some (.string ByteArray.empty):=X2.out.cellM rfl
 have HC:=qD (ostr_any ByteArray.empty g _ w2 O2.out (by have:=HSZ.out;(try simp only[ByteArray.size_append]);omega))
 go_wp2_with fail
 refine HC.out.mono ?_
 rintro e w3 ⟨rfl,hO,hb⟩
 have O3:=qD hO
 have T3:=qD (T2.out.trans hb)
 have X3:=qD (X2.out.but hb (by omega))
 clear hO hb HC c0 O2 T2 X2
 have c0:w3.cell? ⟨w.heap.size,3,none⟩=some (.slice none 0 0):=X3.out.cellM rfl
 have HC:=qD (ostrs0_any g _ w3 O3.out (by have:=HSZ.out;(try simp only[ByteArray.size_append]);omega))
 go_wp2_with fail
 refine HC.out.mono ?_
 rintro e w4 ⟨rfl,hO,hb⟩
 have O4:=qD hO
 have T4:=qD (T3.out.trans hb)
 have X4:=qD (X3.out.but hb (by omega))
 clear hO hb HC c0 O3 T3 X3
 have c0:w4.cell? ⟨w.heap.size,4,none⟩=some (.int .i64 VC.zero.k):=X4.out.cellM rfl
 have c1:w4.cell? ⟨w.heap.size,5,none⟩=some (.int .i64 VC.zero.n):=X4.out.cellM rfl
 have c2:w4.cell? ⟨w.heap.size,6,none⟩=some (.string VC.zero.t):=X4.out.cellM rfl
 have c3:w4.cell? ⟨w.heap.size,7,none⟩=some (.slice VC.zero.LA VC.zero.ln VC.zero.lc):=X4.out.cellM rfl
 have c4:w4.cell? ⟨w.heap.size,8,none⟩=some (.slice VC.zero.DA VC.zero.dn VC.zero.dc):=X4.out.cellM rfl
 have HC:=qD (oval0_any g _ w4 O4.out (by have:=HSZ.out;(try simp only[ByteArray.size_append]);omega))
 go_wp2_with fail
 refine HC.out.mono ?_
 rintro e w5 ⟨rfl,hO,hb⟩
 have O5:=qD hO
 have T5:=qD (T4.out.trans hb)
 have X5:=qD (X4.out.but hb (by omega))
 clear hO hb HC c0 c1 c2 c3 c4 O4 T4 X4
 have c0:w5.cell? ⟨w.heap.size,9,none⟩=some (.int .i64 0):=X5.out.cellM rfl
 have HC:=qD (onum_any 0 g _ w5 O5.out (by have:=HSZ.out;(try simp only[ByteArray.size_append]);omega))
 go_wp2_with fail
 refine HC.out.mono ?_
 rintro e w6 ⟨rfl,hO,hb⟩
 have O6:=qD hO
 have T6:=qD (T5.out.trans hb)
 have X6:=qD (X5.out.but hb (by omega))
 clear hO hb HC c0 O5 T5 X5
 have c0:w6.cell? ⟨w.heap.size,10,none⟩=some (.slice none 0 0):=X6.out.cellM rfl
 have HC:=qD (onum_any 0 g _ w6 O6.out (by have:=HSZ.out;(try simp only[ByteArray.size_append]);omega))
 go_wp2_with fail
 refine HC.out.mono ?_
 rintro e w7 ⟨rfl,hO,hb⟩
 have O7:=qD hO
 have T7:=qD (T6.out.trans hb)
 have X7:=qD (X6.out.but hb (by omega))
 clear hO hb HC c0 O6 T6 X6
 have c0:w7.cell? ⟨w.heap.size,10,none⟩=some (.slice none 0 0):=X7.out.cellM rfl
 go_wp2_with fail
 go_loopw [4] (fun v wr=>v=.int .i64 0∧wr=w7) (fun _ _=>0)
 case atStart=>exact⟨rfl,rfl⟩
 case round=>
  obtain⟨rfl,hw⟩:=hrel
  rw[hw]
  clear hw
  go_wp2_with fail
  go_end0
  refine⟨rfl,O7.out.app_ ?_,T7.out⟩
  simp only[exprZ,ByteArray.append_assoc]
theorem opred_any(g:Nat)(S:ByteArray)(w:World)(h:OW w g S)(hs:S.size+(predZ).size≤9223372036854775807):Calls Tryz.prog 136 #[.pointer (some ⟨g,0,none⟩),.agg predL.toArray] w (Wrote g S (predZ) w):=by
 have hgl:g<w.heap.size:=h.lt
 have HSZ:Hid (S.size+((numB 0).size+((numB 0).size+((valZ).size+((numB 0).size+((numB 0).size+((numB 0).size+((shapeZ).size+((exprZ).size+(numB 0).size))))))))≤9223372036854775807):=by have:=hs;unfold Hid;simp only[predZ,ByteArray.size_append] at this ⊢;omega
 clear hs
 obtain⟨w0,hw0⟩:∃w0,w.alloc (.cells predL.toArray 62)=w0:=⟨_,rfl⟩
 have X0:Hid (Blk w0 w.heap.size 62 predL.toArray):=by rw[←hw0];exact Blk.new_at rfl
 have T0:Hid (But g w w0):=by rw[←hw0];exact But.refl.alloc _
 have O0:Hid (OW w0 g S):=by rw[←hw0];exact Blk.alloc h _
 have HW:=qD hw0
 clear hw0 h
 go_enter Tryz.func136,Tryz.ntmps136
 go_upto_region 1 with fail
 change Code.wp _ _ _ _ (w.alloc (.cells predL.toArray 62))
 rw[HW.out]
 clear HW
 have c0:w0.cell? ⟨w.heap.size,0,none⟩=some (.int .i64 0):=X0.out.cellM rfl
 have HC:=qD (onum_any 0 g _ w0 O0.out (by have:=HSZ.out;(try simp only[ByteArray.size_append]);omega))
 go_wp2_with fail
 refine HC.out.mono ?_
 rintro e w1 ⟨rfl,hO,hb⟩
 have O1:=qD hO
 have T1:=qD (T0.out.trans hb)
 have X1:=qD (X0.out.but hb (by omega))
 clear hO hb HC c0 O0 T0 X0
 have c0:w1.cell? ⟨w.heap.size,1,none⟩=some (.slice none 0 0):=X1.out.cellM rfl
 have HC:=qD (ostrs0_any g _ w1 O1.out (by have:=HSZ.out;(try simp only[ByteArray.size_append]);omega))
 go_wp2_with fail
 refine HC.out.mono ?_
 rintro e w2 ⟨rfl,hO,hb⟩
 have O2:=qD hO
 have T2:=qD (T1.out.trans hb)
 have X2:=qD (X1.out.but hb (by omega))
 clear hO hb HC c0 O1 T1 X1
 have c0:w2.cell? ⟨w.heap.size,2,none⟩=some (.int .i64 VC.zero.k):=X2.out.cellM rfl
 have c1:w2.cell? ⟨w.heap.size,3,none⟩=some (.int .i64 VC.zero.n):=X2.out.cellM rfl
 have c2:w2.cell? ⟨w.heap.size,4,none⟩=some (.string VC.zero.t):=X2.out.cellM rfl
 have c3:w2.cell? ⟨w.heap.size,5,none⟩=some (.slice VC.zero.LA VC.zero.ln VC.zero.lc):=X2.out.cellM rfl
 have c4:w2.cell? ⟨w.heap.size,6,none⟩=some (.slice VC.zero.DA VC.zero.dn VC.zero.dc):=X2.out.cellM rfl
 have HC:=qD (oval0_any g _ w2 O2.out (by have:=HSZ.out;(try simp only[ByteArray.size_append]);omega))
 go_wp2_with fail
 refine HC.out.mono ?_
 rintro e w3 ⟨rfl,hO,hb⟩
 have O3:=qD hO
 have T3:=qD (T2.out.trans hb)
 have X3:=qD (X2.out.but hb (by omega))
 clear hO hb HC c0 c1 c2 c3 c4 O2 T2 X2
 have c0:w3.cell? ⟨w.heap.size,7,none⟩=some (.slice none 0 0):=X3.out.cellM rfl
 have HC:=qD (ovals0_any g _ w3 O3.out (by have:=HSZ.out;(try simp only[ByteArray.size_append]);omega))
 go_wp2_with fail
 refine HC.out.mono ?_
 rintro e w4 ⟨rfl,hO,hb⟩
 have O4:=qD hO
 have T4:=qD (T3.out.trans hb)
 have X4:=qD (X3.out.but hb (by omega))
 clear hO hb HC c0 O3 T3 X3
 have c0:w4.cell? ⟨w.heap.size,8,none⟩=some (.int .i64 0):=X4.out.cellM rfl
 have HC:=qD (onum_any 0 g _ w4 O4.out (by have:=HSZ.out;(try simp only[ByteArray.size_append]);omega))
 go_wp2_with fail
 refine HC.out.mono ?_
 rintro e w5 ⟨rfl,hO,hb⟩
 have O5:=qD hO
 have T5:=qD (T4.out.trans hb)
 have X5:=qD (X4.out.but hb (by omega))
 clear hO hb HC c0 O4 T4 X4
 have c0:w5.cell? ⟨w.heap.size,9,none⟩=some (.int .i64 0):=X5.out.cellM rfl
 have HC:=qD (onum_any 0 g _ w5 O5.out (by have:=HSZ.out;(try simp only[ByteArray.size_append]);omega))
 go_wp2_with fail
 refine HC.out.mono ?_
 rintro e w6 ⟨rfl,hO,hb⟩
 have O6:=qD hO
 have T6:=qD (T5.out.trans hb)
 have X6:=qD (X5.out.but hb (by omega))
 clear hO hb HC c0 O5 T5 X5
 have c0:Hid (w6.rangeAt w.heap.size 10 shapeL):=Blk.rangeL 10 3 X6.out rfl
 have HC:=qD (oshape_any g _ w6 O6.out (by have:=HSZ.out;(try simp only[ByteArray.size_append]);omega))
 go_wp2_with (refine wpList_load_mid rfl 56 _ rfl w.heap.size 10 rfl _ _ c0.out Tryz.underlying56 rfl (by kernel_rfl) ?_)
 refine HC.out.mono ?_
 rintro e w7 ⟨rfl,hO,hb⟩
 have O7:=qD hO
 have T7:=qD (T6.out.trans hb)
 have X7:=qD (X6.out.but hb (by omega))
 clear hO hb HC c0 O6 T6 X6
 have c0:Hid (w7.rangeAt w.heap.size 13 exprL):=Blk.rangeL 13 11 X7.out rfl
 have HC:=qD (oexpr_any g _ w7 O7.out (by have:=HSZ.out;(try simp only[ByteArray.size_append]);omega))
 go_wp2_with (refine wpList_load_mid rfl 59 _ rfl w.heap.size 13 rfl _ _ c0.out Tryz.underlying59 rfl (by kernel_rfl) ?_)
 refine HC.out.mono ?_
 rintro e w8 ⟨rfl,hO,hb⟩
 have O8:=qD hO
 have T8:=qD (T7.out.trans hb)
 have X8:=qD (X7.out.but hb (by omega))
 clear hO hb HC c0 O7 T7 X7
 have c0:w8.cell? ⟨w.heap.size,24,none⟩=some (.slice none 0 0):=X8.out.cellM rfl
 have HC:=qD (onum_any 0 g _ w8 O8.out (by have:=HSZ.out;(try simp only[ByteArray.size_append]);omega))
 go_wp2_with fail
 refine HC.out.mono ?_
 rintro e w9 ⟨rfl,hO,hb⟩
 have O9:=qD hO
 have T9:=qD (T8.out.trans hb)
 have X9:=qD (X8.out.but hb (by omega))
 clear hO hb HC c0 O8 T8 X8
 have c0:w9.cell? ⟨w.heap.size,24,none⟩=some (.slice none 0 0):=X9.out.cellM rfl
 go_wp2_with fail
 go_loopw [4] (fun v wr=>v=.int .i64 0∧wr=w9) (fun _ _=>0)
 case atStart=>exact⟨rfl,rfl⟩
 case round=>
  obtain⟨rfl,hw⟩:=hrel
  rw[hw]
  clear hw
  go_wp2_with fail
  go_end0
  refine⟨rfl,O9.out.app_ ?_,T9.out⟩
  simp only[predZ,ByteArray.append_assoc]
theorem oindex_any(g:Nat)(S:ByteArray)(w:World)(h:OW w g S)(hs:S.size+(indexZ).size≤9223372036854775807):Calls Tryz.prog 115 #[.pointer (some ⟨g,0,none⟩),.agg indexL.toArray] w (Wrote g S (indexZ) w):=by
 have hgl:g<w.heap.size:=h.lt
 have HSZ:Hid (S.size+((strB ByteArray.empty).size+((numB 0).size+((numB 0).size+((flagB false).size+((flagB false).size+((flagB false).size+(predZ).size))))))≤9223372036854775807):=by have:=hs;unfold Hid;simp only[indexZ,ByteArray.size_append] at this ⊢;omega
 clear hs
 obtain⟨w0,hw0⟩:∃w0,w.alloc (.cells indexL.toArray 64)=w0:=⟨_,rfl⟩
 have X0:Hid (Blk w0 w.heap.size 64 indexL.toArray):=by rw[←hw0];exact Blk.new_at rfl
 have T0:Hid (But g w w0):=by rw[←hw0];exact But.refl.alloc _
 have O0:Hid (OW w0 g S):=by rw[←hw0];exact Blk.alloc h _
 have HW:=qD hw0
 clear hw0 h
 go_enter Tryz.func115,Tryz.ntmps115
 go_upto_region 1 with fail
 change Code.wp _ _ _ _ (w.alloc (.cells indexL.toArray 64))
 rw[HW.out]
 clear HW
 have c0:w0.cell? ⟨w.heap.size,0,none⟩=some (.string ByteArray.empty):=X0.out.cellM rfl
 have HC:=qD (ostr_any ByteArray.empty g _ w0 O0.out (by have:=HSZ.out;(try simp only[ByteArray.size_append]);omega))
 go_wp2_with fail
 refine HC.out.mono ?_
 rintro e w1 ⟨rfl,hO,hb⟩
 have O1:=qD hO
 have T1:=qD (T0.out.trans hb)
 have X1:=qD (X0.out.but hb (by omega))
 clear hO hb HC c0 O0 T0 X0
 have c0:w1.cell? ⟨w.heap.size,1,none⟩=some (.int .i64 0):=X1.out.cellM rfl
 have HC:=qD (onum_any 0 g _ w1 O1.out (by have:=HSZ.out;(try simp only[ByteArray.size_append]);omega))
 go_wp2_with fail
 refine HC.out.mono ?_
 rintro e w2 ⟨rfl,hO,hb⟩
 have O2:=qD hO
 have T2:=qD (T1.out.trans hb)
 have X2:=qD (X1.out.but hb (by omega))
 clear hO hb HC c0 O1 T1 X1
 have c0:w2.cell? ⟨w.heap.size,2,none⟩=some (.slice none 0 0):=X2.out.cellM rfl
 have HC:=qD (onum_any 0 g _ w2 O2.out (by have:=HSZ.out;(try simp only[ByteArray.size_append]);omega))
 go_wp2_with fail
 refine HC.out.mono ?_
 rintro e w3 ⟨rfl,hO,hb⟩
 have O3:=qD hO
 have T3:=qD (T2.out.trans hb)
 have X3:=qD (X2.out.but hb (by omega))
 clear hO hb HC c0 O2 T2 X2
 have c0:w3.cell? ⟨w.heap.size,2,none⟩=some (.slice none 0 0):=X3.out.cellM rfl
 go_wp2_with fail
 go_loopw [4] (fun v wr=>v=.int .i64 0∧wr=w3) (fun _ _=>0)
 case atStart=>exact⟨rfl,rfl⟩
 case round=>
  obtain⟨rfl,hw⟩:=hrel
  rw[hw]
  clear hw
  have c0:w3.cell? ⟨w.heap.size,3,none⟩=some (.bool false):=X3.out.cellM rfl
  have HC:=qD (oflag_any false g _ w3 O3.out (by have:=HSZ.out;(try simp only[ByteArray.size_append]);omega))
  go_wp2_with fail
  refine HC.out.mono ?_
  rintro e w4 ⟨rfl,hO,hb⟩
  have O4:=qD hO
  have T4:=qD (T3.out.trans hb)
  have X4:=qD (X3.out.but hb (by omega))
  clear hO hb HC c0 O3 T3 X3
  have c0:w4.cell? ⟨w.heap.size,4,none⟩=some (.bool false):=X4.out.cellM rfl
  have HC:=qD (oflag_any false g _ w4 O4.out (by have:=HSZ.out;(try simp only[ByteArray.size_append]);omega))
  go_wp2_with fail
  refine HC.out.mono ?_
  rintro e w5 ⟨rfl,hO,hb⟩
  have O5:=qD hO
  have T5:=qD (T4.out.trans hb)
  have X5:=qD (X4.out.but hb (by omega))
  clear hO hb HC c0 O4 T4 X4
  have c0:w5.cell? ⟨w.heap.size,5,none⟩=some (.bool false):=X5.out.cellM rfl
  have HC:=qD (oflag_any false g _ w5 O5.out (by have:=HSZ.out;(try simp only[ByteArray.size_append]);omega))
  go_wp2_with fail
  refine HC.out.mono ?_
  rintro e w6 ⟨rfl,hO,hb⟩
  have O6:=qD hO
  have T6:=qD (T5.out.trans hb)
  have X6:=qD (X5.out.but hb (by omega))
  clear hO hb HC c0 O5 T5 X5
  have c0:Hid (w6.rangeAt w.heap.size 6 predL):=Blk.rangeL 6 25 X6.out rfl
  have HC:=qD (opred_any g _ w6 O6.out (by have:=HSZ.out;(try simp only[ByteArray.size_append]);omega))
  go_wp2_with (refine wpList_load_mid rfl 62 _ rfl w.heap.size 6 rfl _ _ c0.out Tryz.underlying62 rfl (by kernel_rfl) ?_)
  refine HC.out.mono ?_
  rintro e w7 ⟨rfl,hO,hb⟩
  have O7:=qD hO
  have T7:=qD (T6.out.trans hb)
  have X7:=qD (X6.out.but hb (by omega))
  clear hO hb HC c0 O6 T6 X6
  go_wp2_with fail
  go_end0
  refine⟨rfl,O7.out.app_ ?_,T7.out⟩
  simp only[indexZ,ByteArray.append_assoc]
theorem oschema_any(g:Nat)(S:ByteArray)(w:World)(h:OW w g S)(hs:S.size+(schemaZ).size≤9223372036854775807):Calls Tryz.prog 134 #[.pointer (some ⟨g,0,none⟩),.agg schemaL.toArray] w (Wrote g S (schemaZ) w):=by
 have hgl:g<w.heap.size:=h.lt
 have HSZ:Hid (S.size+((numB 0).size+((flagB false).size+((valZ).size+((flagB false).size+((valZ).size+((numB 0).size+((numB 0).size+((numB 0).size+((numB 0).size+((numB 0).size+((flagB false).size+((numB 0).size+(flagB false).size))))))))))))≤9223372036854775807):=by have:=hs;unfold Hid;simp only[schemaZ,ByteArray.size_append] at this ⊢;omega
 clear hs
 obtain⟨w0,hw0⟩:∃w0,w.alloc (.cells schemaL.toArray 51)=w0:=⟨_,rfl⟩
 have X0:Hid (Blk w0 w.heap.size 51 schemaL.toArray):=by rw[←hw0];exact Blk.new_at rfl
 have T0:Hid (But g w w0):=by rw[←hw0];exact But.refl.alloc _
 have O0:Hid (OW w0 g S):=by rw[←hw0];exact Blk.alloc h _
 have HW:=qD hw0
 clear hw0 h
 go_enter Tryz.func134,Tryz.ntmps134
 go_upto_region 1 with fail
 change Code.wp _ _ _ _ (w.alloc (.cells schemaL.toArray 51))
 rw[HW.out]
 clear HW
 have c0:w0.cell? ⟨w.heap.size,0,none⟩=some (.int .i64 0):=X0.out.cellM rfl
 have HC:=qD (onum_any 0 g _ w0 O0.out (by have:=HSZ.out;(try simp only[ByteArray.size_append]);omega))
 go_wp2_with fail
 refine HC.out.mono ?_
 rintro e w1 ⟨rfl,hO,hb⟩
 have O1:=qD hO
 have T1:=qD (T0.out.trans hb)
 have X1:=qD (X0.out.but hb (by omega))
 clear hO hb HC c0 O0 T0 X0
 have c0:w1.cell? ⟨w.heap.size,1,none⟩=some (.bool false):=X1.out.cellM rfl
 have HC:=qD (oflag_any false g _ w1 O1.out (by have:=HSZ.out;(try simp only[ByteArray.size_append]);omega))
 go_wp2_with fail
 refine HC.out.mono ?_
 rintro e w2 ⟨rfl,hO,hb⟩
 have O2:=qD hO
 have T2:=qD (T1.out.trans hb)
 have X2:=qD (X1.out.but hb (by omega))
 clear hO hb HC c0 O1 T1 X1
 have c0:w2.cell? ⟨w.heap.size,2,none⟩=some (.int .i64 VC.zero.k):=X2.out.cellM rfl
 have c1:w2.cell? ⟨w.heap.size,3,none⟩=some (.int .i64 VC.zero.n):=X2.out.cellM rfl
 have c2:w2.cell? ⟨w.heap.size,4,none⟩=some (.string VC.zero.t):=X2.out.cellM rfl
 have c3:w2.cell? ⟨w.heap.size,5,none⟩=some (.slice VC.zero.LA VC.zero.ln VC.zero.lc):=X2.out.cellM rfl
 have c4:w2.cell? ⟨w.heap.size,6,none⟩=some (.slice VC.zero.DA VC.zero.dn VC.zero.dc):=X2.out.cellM rfl
 have HC:=qD (oval0_any g _ w2 O2.out (by have:=HSZ.out;(try simp only[ByteArray.size_append]);omega))
 go_wp2_with fail
 refine HC.out.mono ?_
 rintro e w3 ⟨rfl,hO,hb⟩
 have O3:=qD hO
 have T3:=qD (T2.out.trans hb)
 have X3:=qD (X2.out.but hb (by omega))
 clear hO hb HC c0 c1 c2 c3 c4 O2 T2 X2
 have c0:w3.cell? ⟨w.heap.size,7,none⟩=some (.bool false):=X3.out.cellM rfl
 have HC:=qD (oflag_any false g _ w3 O3.out (by have:=HSZ.out;(try simp only[ByteArray.size_append]);omega))
 go_wp2_with fail
 refine HC.out.mono ?_
 rintro e w4 ⟨rfl,hO,hb⟩
 have O4:=qD hO
 have T4:=qD (T3.out.trans hb)
 have X4:=qD (X3.out.but hb (by omega))
 clear hO hb HC c0 O3 T3 X3
 have c0:w4.cell? ⟨w.heap.size,8,none⟩=some (.int .i64 VC.zero.k):=X4.out.cellM rfl
 have c1:w4.cell? ⟨w.heap.size,9,none⟩=some (.int .i64 VC.zero.n):=X4.out.cellM rfl
 have c2:w4.cell? ⟨w.heap.size,10,none⟩=some (.string VC.zero.t):=X4.out.cellM rfl
 have c3:w4.cell? ⟨w.heap.size,11,none⟩=some (.slice VC.zero.LA VC.zero.ln VC.zero.lc):=X4.out.cellM rfl
 have c4:w4.cell? ⟨w.heap.size,12,none⟩=some (.slice VC.zero.DA VC.zero.dn VC.zero.dc):=X4.out.cellM rfl
 have HC:=qD (oval0_any g _ w4 O4.out (by have:=HSZ.out;(try simp only[ByteArray.size_append]);omega))
 go_wp2_with fail
 refine HC.out.mono ?_
 rintro e w5 ⟨rfl,hO,hb⟩
 have O5:=qD hO
 have T5:=qD (T4.out.trans hb)
 have X5:=qD (X4.out.but hb (by omega))
 clear hO hb HC c0 c1 c2 c3 c4 O4 T4 X4
 have c0:w5.cell? ⟨w.heap.size,13,none⟩=some (.slice none 0 0):=X5.out.cellM rfl
 have HC:=qD (ovals0_any g _ w5 O5.out (by have:=HSZ.out;(try simp only[ByteArray.size_append]);omega))
 go_wp2_with fail
 refine HC.out.mono ?_
 rintro e w6 ⟨rfl,hO,hb⟩
 have O6:=qD hO
 have T6:=qD (T5.out.trans hb)
 have X6:=qD (X5.out.but hb (by omega))
 clear hO hb HC c0 O5 T5 X5
 have c0:w6.cell? ⟨w.heap.size,14,none⟩=some (.int .i64 0):=X6.out.cellM rfl
 have HC:=qD (onum_any 0 g _ w6 O6.out (by have:=HSZ.out;(try simp only[ByteArray.size_append]);omega))
 go_wp2_with fail
 refine HC.out.mono ?_
 rintro e w7 ⟨rfl,hO,hb⟩
 have O7:=qD hO
 have T7:=qD (T6.out.trans hb)
 have X7:=qD (X6.out.but hb (by omega))
 clear hO hb HC c0 O6 T6 X6
 have c0:w7.cell? ⟨w.heap.size,15,none⟩=some (.int .i64 0):=X7.out.cellM rfl
 have HC:=qD (onum_any 0 g _ w7 O7.out (by have:=HSZ.out;(try simp only[ByteArray.size_append]);omega))
 go_wp2_with fail
 refine HC.out.mono ?_
 rintro e w8 ⟨rfl,hO,hb⟩
 have O8:=qD hO
 have T8:=qD (T7.out.trans hb)
 have X8:=qD (X7.out.but hb (by omega))
 clear hO hb HC c0 O7 T7 X7
 have c0:w8.cell? ⟨w.heap.size,16,none⟩=some (.slice none 0 0):=X8.out.cellM rfl
 have HC:=qD (ostrs0_any g _ w8 O8.out (by have:=HSZ.out;(try simp only[ByteArray.size_append]);omega))
 go_wp2_with fail
 refine HC.out.mono ?_
 rintro e w9 ⟨rfl,hO,hb⟩
 have O9:=qD hO
 have T9:=qD (T8.out.trans hb)
 have X9:=qD (X8.out.but hb (by omega))
 clear hO hb HC c0 O8 T8 X8
 have c0:w9.cell? ⟨w.heap.size,17,none⟩=some (.slice none 0 0):=X9.out.cellM rfl
 have HC:=qD (onum_any 0 g _ w9 O9.out (by have:=HSZ.out;(try simp only[ByteArray.size_append]);omega))
 go_wp2_with fail
 refine HC.out.mono ?_
 rintro e w10 ⟨rfl,hO,hb⟩
 have O10:=qD hO
 have T10:=qD (T9.out.trans hb)
 have X10:=qD (X9.out.but hb (by omega))
 clear hO hb HC c0 O9 T9 X9
 have c0:w10.cell? ⟨w.heap.size,17,none⟩=some (.slice none 0 0):=X10.out.cellM rfl
 go_wp2_with fail
 go_loopw [4] (fun v wr=>v=.int .i64 0∧wr=w10) (fun _ _=>0)
 case atStart=>exact⟨rfl,rfl⟩
 case round=>
  obtain⟨rfl,hw⟩:=hrel
  rw[hw]
  clear hw
  have c0:w10.cell? ⟨w.heap.size,18,none⟩=some (.bool false):=X10.out.cellM rfl
  have HC:=qD (oflag_any false g _ w10 O10.out (by have:=HSZ.out;(try simp only[ByteArray.size_append]);omega))
  go_wp2_with fail
  refine HC.out.mono ?_
  rintro e w11 ⟨rfl,hO,hb⟩
  have O11:=qD hO
  have T11:=qD (T10.out.trans hb)
  have X11:=qD (X10.out.but hb (by omega))
  clear hO hb HC c0 O10 T10 X10
  have c0:w11.cell? ⟨w.heap.size,19,none⟩=some (.slice none 0 0):=X11.out.cellM rfl
  have HC:=qD (onum_any 0 g _ w11 O11.out (by have:=HSZ.out;(try simp only[ByteArray.size_append]);omega))
  go_wp2_with fail
  refine HC.out.mono ?_
  rintro e w12 ⟨rfl,hO,hb⟩
  have O12:=qD hO
  have T12:=qD (T11.out.trans hb)
  have X12:=qD (X11.out.but hb (by omega))
  clear hO hb HC c0 O11 T11 X11
  have c0:w12.cell? ⟨w.heap.size,19,none⟩=some (.slice none 0 0):=X12.out.cellM rfl
  go_wp2_with fail
  go_loopw [5] (fun v wr=>v=.int .i64 0∧wr=w12) (fun _ _=>0)
  case atStart=>exact⟨rfl,rfl⟩
  case round=>
   obtain⟨rfl,hw⟩:=hrel
   rw[hw]
   clear hw
   have c0:w12.cell? ⟨w.heap.size,20,none⟩=some (.bool false):=X12.out.cellM rfl
   have HC:=qD (oflag_any false g _ w12 O12.out (by have:=HSZ.out;(try simp only[ByteArray.size_append]);omega))
   go_wp2_with fail
   refine HC.out.mono ?_
   rintro e w13 ⟨rfl,hO,hb⟩
   have O13:=qD hO
   have T13:=qD (T12.out.trans hb)
   have X13:=qD (X12.out.but hb (by omega))
   clear hO hb HC c0 O12 T12 X12
   go_wp2_with fail
   go_end0
   refine⟨rfl,O13.out.app_ ?_,T13.out⟩
   simp only[schemaZ,ByteArray.append_assoc]
theorem ospace_any(g:Nat)(S:ByteArray)(w:World)(h:OW w g S)(hs:S.size+(spaceZ).size≤9223372036854775807):Calls Tryz.prog 114 #[.pointer (some ⟨g,0,none⟩),.agg spaceL.toArray] w (Wrote g S (spaceZ) w):=by
 have hgl:g<w.heap.size:=h.lt
 have HSZ:Hid (S.size+((strB ByteArray.empty).size+((numB 0).size+((schemaZ).size+((numB 0).size+(numB 0).size))))≤9223372036854775807):=by have:=hs;unfold Hid;simp only[spaceZ,ByteArray.size_append] at this ⊢;omega
 clear hs
 obtain⟨w0,hw0⟩:∃w0,w.alloc (.cells spaceL.toArray 53)=w0:=⟨_,rfl⟩
 have X0:Hid (Blk w0 w.heap.size 53 spaceL.toArray):=by rw[←hw0];exact Blk.new_at rfl
 have T0:Hid (But g w w0):=by rw[←hw0];exact But.refl.alloc _
 have O0:Hid (OW w0 g S):=by rw[←hw0];exact Blk.alloc h _
 have HW:=qD hw0
 clear hw0 h
 go_enter Tryz.func114,Tryz.ntmps114
 go_upto_region 1 with fail
 change Code.wp _ _ _ _ (w.alloc (.cells spaceL.toArray 53))
 rw[HW.out]
 clear HW
 have c0:w0.cell? ⟨w.heap.size,0,none⟩=some (.string ByteArray.empty):=X0.out.cellM rfl
 have HC:=qD (ostr_any ByteArray.empty g _ w0 O0.out (by have:=HSZ.out;(try simp only[ByteArray.size_append]);omega))
 go_wp2_with fail
 refine HC.out.mono ?_
 rintro e w1 ⟨rfl,hO,hb⟩
 have O1:=qD hO
 have T1:=qD (T0.out.trans hb)
 have X1:=qD (X0.out.but hb (by omega))
 clear hO hb HC c0 O0 T0 X0
 have c0:w1.cell? ⟨w.heap.size,1,none⟩=some (.slice none 0 0):=X1.out.cellM rfl
 have HC:=qD (onum_any 0 g _ w1 O1.out (by have:=HSZ.out;(try simp only[ByteArray.size_append]);omega))
 go_wp2_with fail
 refine HC.out.mono ?_
 rintro e w2 ⟨rfl,hO,hb⟩
 have O2:=qD hO
 have T2:=qD (T1.out.trans hb)
 have X2:=qD (X1.out.but hb (by omega))
 clear hO hb HC c0 O1 T1 X1
 have c0:w2.cell? ⟨w.heap.size,1,none⟩=some (.slice none 0 0):=X2.out.cellM rfl
 go_wp2_with fail
 go_loopw [4] (fun v wr=>v=.int .i64 0∧wr=w2) (fun _ _=>0)
 case atStart=>exact⟨rfl,rfl⟩
 case round=>
  obtain⟨rfl,hw⟩:=hrel
  rw[hw]
  clear hw
  have c0:Hid (w2.rangeAt w.heap.size 2 schemaL):=Blk.rangeL 2 21 X2.out rfl
  have HC:=qD (oschema_any g _ w2 O2.out (by have:=HSZ.out;(try simp only[ByteArray.size_append]);omega))
  go_wp2_with (refine wpList_load_mid rfl 51 _ rfl w.heap.size 2 rfl _ _ c0.out Tryz.underlying51 rfl (by kernel_rfl) ?_)
  refine HC.out.mono ?_
  rintro e w3 ⟨rfl,hO,hb⟩
  have O3:=qD hO
  have T3:=qD (T2.out.trans hb)
  have X3:=qD (X2.out.but hb (by omega))
  clear hO hb HC c0 O2 T2 X2
  have c0:w3.cell? ⟨w.heap.size,23,none⟩=some (.int .i64 0):=X3.out.cellM rfl
  have HC:=qD (onum_any 0 g _ w3 O3.out (by have:=HSZ.out;(try simp only[ByteArray.size_append]);omega))
  go_wp2_with fail
  refine HC.out.mono ?_
  rintro e w4 ⟨rfl,hO,hb⟩
  have O4:=qD hO
  have T4:=qD (T3.out.trans hb)
  have X4:=qD (X3.out.but hb (by omega))
  clear hO hb HC c0 O3 T3 X3
  have c0:w4.cell? ⟨w.heap.size,24,none⟩=some (.int .i64 0):=X4.out.cellM rfl
  have HC:=qD (onum_any 0 g _ w4 O4.out (by have:=HSZ.out;(try simp only[ByteArray.size_append]);omega))
  go_wp2_with fail
  refine HC.out.mono ?_
  rintro e w5 ⟨rfl,hO,hb⟩
  have O5:=qD hO
  have T5:=qD (T4.out.trans hb)
  have X5:=qD (X4.out.but hb (by omega))
  clear hO hb HC c0 O4 T4 X4
  go_wp2_with fail
  go_end0
  refine⟨rfl,O5.out.app_ ?_,T5.out⟩
  simp only[spaceZ,ByteArray.append_assoc]
theorem owrite_any(x:Wt)(c:WC)(g:Nat)(S:ByteArray)(w:World)(hr:RW1 (fun b=>b≠g) w c x)(h:OW w g S)(hs:S.size+(codeW x).size≤9223372036854775807):Calls Tryz.prog 88 #[.pointer (some ⟨g,0,none⟩),.agg (recC78 c).toArray] w (Wrote g S (codeW x) w):=by
 obtain⟨xkd,xsp,xkey,xdoc,xsi⟩:=x
 have hk:Hid (RV (fun b=>b≠g) w c.key xkey):=hr.key
 have hd:Hid (RV (fun b=>b≠g) w c.doc xdoc):=hr.doc
 have hkd:c.kd=xkd:=hr.kd
 have hsp:c.sp=xsp:=hr.sp
 have hsi:c.si=xsi:=hr.si
 clear hr
 subst hkd hsp hsi
 have hgl:g<w.heap.size:=h.lt
 have HSZ:Hid (S.size+((numB c.kd).size+((strB c.sp).size+((codeV xkey).size+((codeV xdoc).size+((valZ).size+((spaceZ).size+((indexZ).size+((strB ByteArray.empty).size+((numB 0).size+((numB 0).size+((numB 0).size+(flagB c.si).size)))))))))))≤9223372036854775807):=by have:=hs;unfold Hid;simp only[codeW,ByteArray.size_append] at this ⊢;omega
 clear hs
 obtain⟨w0,hw0⟩:∃w0,w.alloc (.cells (recC78 c).toArray 67)=w0:=⟨_,rfl⟩
 have X0:Hid (Blk w0 w.heap.size 67 (recC78 c).toArray):=by rw[←hw0];exact Blk.new_at rfl
 have T0:Hid (But g w w0):=by rw[←hw0];exact But.refl.alloc _
 have O0:Hid (OW w0 g S):=by rw[←hw0];exact Blk.alloc h _
 have HW:=qD hw0
 clear hw0 h
 go_enter Tryz.func88,Tryz.ntmps88
 go_upto_region 1 with fail
 change Code.wp _ _ _ _ (w.alloc (.cells (recC78 c).toArray 67))
 rw[HW.out]
 clear HW
 have c0:w0.cell? ⟨w.heap.size,0,none⟩=some (.int .i64 c.kd):=X0.out.cellM rfl
 have HC:=qD (onum_any c.kd g _ w0 O0.out (by have:=HSZ.out;(try simp only[ByteArray.size_append]);omega))
 go_wp2_with fail
 refine HC.out.mono ?_
 rintro e w1 ⟨rfl,hO,hb⟩
 have O1:=qD hO
 have T1:=qD (T0.out.trans hb)
 have X1:=qD (X0.out.but hb (by omega))
 clear hO hb HC c0 O0 T0 X0
 have c0:w1.cell? ⟨w.heap.size,1,none⟩=some (.string c.sp):=X1.out.cellM rfl
 have HC:=qD (ostr_any c.sp g _ w1 O1.out (by have:=HSZ.out;(try simp only[ByteArray.size_append]);omega))
 go_wp2_with fail
 refine HC.out.mono ?_
 rintro e w2 ⟨rfl,hO,hb⟩
 have O2:=qD hO
 have T2:=qD (T1.out.trans hb)
 have X2:=qD (X1.out.but hb (by omega))
 clear hO hb HC c0 O1 T1 X1
 have c0:w2.cell? ⟨w.heap.size,2,none⟩=some (.int .i64 c.key.k):=X2.out.cellM rfl
 have c1:w2.cell? ⟨w.heap.size,3,none⟩=some (.int .i64 c.key.n):=X2.out.cellM rfl
 have c2:w2.cell? ⟨w.heap.size,4,none⟩=some (.string c.key.t):=X2.out.cellM rfl
 have c3:w2.cell? ⟨w.heap.size,5,none⟩=some (.slice c.key.LA c.key.ln c.key.lc):=X2.out.cellM rfl
 have c4:w2.cell? ⟨w.heap.size,6,none⟩=some (.slice c.key.DA c.key.dn c.key.dc):=X2.out.cellM rfl
 have HC:=qD (oval_any xkey c.key g _ w2 (hk.out.butG T2.out) O2.out (by have:=HSZ.out;(try simp only[ByteArray.size_append]);omega))
 go_wp2_with fail
 refine HC.out.mono ?_
 rintro e w3 ⟨rfl,hO,hb⟩
 have O3:=qD hO
 have T3:=qD (T2.out.trans hb)
 have X3:=qD (X2.out.but hb (by omega))
 clear hO hb HC c0 c1 c2 c3 c4 O2 T2 X2
 have c0:w3.cell? ⟨w.heap.size,7,none⟩=some (.int .i64 c.doc.k):=X3.out.cellM rfl
 have c1:w3.cell? ⟨w.heap.size,8,none⟩=some (.int .i64 c.doc.n):=X3.out.cellM rfl
 have c2:w3.cell? ⟨w.heap.size,9,none⟩=some (.string c.doc.t):=X3.out.cellM rfl
 have c3:w3.cell? ⟨w.heap.size,10,none⟩=some (.slice c.doc.LA c.doc.ln c.doc.lc):=X3.out.cellM rfl
 have c4:w3.cell? ⟨w.heap.size,11,none⟩=some (.slice c.doc.DA c.doc.dn c.doc.dc):=X3.out.cellM rfl
 have HC:=qD (oval_any xdoc c.doc g _ w3 (hd.out.butG T3.out) O3.out (by have:=HSZ.out;(try simp only[ByteArray.size_append]);omega))
 go_wp2_with fail
 refine HC.out.mono ?_
 rintro e w4 ⟨rfl,hO,hb⟩
 have O4:=qD hO
 have T4:=qD (T3.out.trans hb)
 have X4:=qD (X3.out.but hb (by omega))
 clear hO hb HC c0 c1 c2 c3 c4 O3 T3 X3
 have c0:w4.cell? ⟨w.heap.size,12,none⟩=some (.int .i64 VC.zero.k):=X4.out.cellM rfl
 have c1:w4.cell? ⟨w.heap.size,13,none⟩=some (.int .i64 VC.zero.n):=X4.out.cellM rfl
 have c2:w4.cell? ⟨w.heap.size,14,none⟩=some (.string VC.zero.t):=X4.out.cellM rfl
 have c3:w4.cell? ⟨w.heap.size,15,none⟩=some (.slice VC.zero.LA VC.zero.ln VC.zero.lc):=X4.out.cellM rfl
 have c4:w4.cell? ⟨w.heap.size,16,none⟩=some (.slice VC.zero.DA VC.zero.dn VC.zero.dc):=X4.out.cellM rfl
 have HC:=qD (oval0_any g _ w4 O4.out (by have:=HSZ.out;(try simp only[ByteArray.size_append]);omega))
 go_wp2_with fail
 refine HC.out.mono ?_
 rintro e w5 ⟨rfl,hO,hb⟩
 have O5:=qD hO
 have T5:=qD (T4.out.trans hb)
 have X5:=qD (X4.out.but hb (by omega))
 clear hO hb HC c0 c1 c2 c3 c4 O4 T4 X4
 have c0:Hid (w5.rangeAt w.heap.size 17 spaceL):=Blk.rangeL 17 25 X5.out rfl
 have HC:=qD (ospace_any g _ w5 O5.out (by have:=HSZ.out;(try simp only[ByteArray.size_append]);omega))
 go_wp2_with (refine wpList_load_mid rfl 53 _ rfl w.heap.size 17 rfl _ _ c0.out Tryz.underlying53 rfl (by kernel_rfl) ?_)
 refine HC.out.mono ?_
 rintro e w6 ⟨rfl,hO,hb⟩
 have O6:=qD hO
 have T6:=qD (T5.out.trans hb)
 have X6:=qD (X5.out.but hb (by omega))
 clear hO hb HC c0 O5 T5 X5
 have c0:Hid (w6.rangeAt w.heap.size 42 indexL):=Blk.rangeL 42 31 X6.out rfl
 have HC:=qD (oindex_any g _ w6 O6.out (by have:=HSZ.out;(try simp only[ByteArray.size_append]);omega))
 go_wp2_with (refine wpList_load_mid rfl 64 _ rfl w.heap.size 42 rfl _ _ c0.out Tryz.underlying64 rfl (by kernel_rfl) ?_)
 refine HC.out.mono ?_
 rintro e w7 ⟨rfl,hO,hb⟩
 have O7:=qD hO
 have T7:=qD (T6.out.trans hb)
 have X7:=qD (X6.out.but hb (by omega))
 clear hO hb HC c0 O6 T6 X6
 have c0:w7.cell? ⟨w.heap.size,73,none⟩=some (.string ByteArray.empty):=X7.out.cellM rfl
 have HC:=qD (ostr_any ByteArray.empty g _ w7 O7.out (by have:=HSZ.out;(try simp only[ByteArray.size_append]);omega))
 go_wp2_with fail
 refine HC.out.mono ?_
 rintro e w8 ⟨rfl,hO,hb⟩
 have O8:=qD hO
 have T8:=qD (T7.out.trans hb)
 have X8:=qD (X7.out.but hb (by omega))
 clear hO hb HC c0 O7 T7 X7
 have c0:w8.cell? ⟨w.heap.size,74,none⟩=some (.int .i64 0):=X8.out.cellM rfl
 have HC:=qD (onum_any 0 g _ w8 O8.out (by have:=HSZ.out;(try simp only[ByteArray.size_append]);omega))
 go_wp2_with fail
 refine HC.out.mono ?_
 rintro e w9 ⟨rfl,hO,hb⟩
 have O9:=qD hO
 have T9:=qD (T8.out.trans hb)
 have X9:=qD (X8.out.but hb (by omega))
 clear hO hb HC c0 O8 T8 X8
 have c0:w9.cell? ⟨w.heap.size,75,none⟩=some (.slice none 0 0):=X9.out.cellM rfl
 have HC:=qD (onum_any 0 g _ w9 O9.out (by have:=HSZ.out;(try simp only[ByteArray.size_append]);omega))
 go_wp2_with fail
 refine HC.out.mono ?_
 rintro e w10 ⟨rfl,hO,hb⟩
 have O10:=qD hO
 have T10:=qD (T9.out.trans hb)
 have X10:=qD (X9.out.but hb (by omega))
 clear hO hb HC c0 O9 T9 X9
 have c0:w10.cell? ⟨w.heap.size,75,none⟩=some (.slice none 0 0):=X10.out.cellM rfl
 go_wp2_with fail
 go_loopw [4] (fun v wr=>v=.int .i64 0∧wr=w10) (fun _ _=>0)
 case atStart=>exact⟨rfl,rfl⟩
 case round=>
  obtain⟨rfl,hw⟩:=hrel
  rw[hw]
  clear hw
  have c0:w10.cell? ⟨w.heap.size,76,none⟩=some (.slice none 0 0):=X10.out.cellM rfl
  have HC:=qD (onum_any 0 g _ w10 O10.out (by have:=HSZ.out;(try simp only[ByteArray.size_append]);omega))
  go_wp2_with fail
  refine HC.out.mono ?_
  rintro e w11 ⟨rfl,hO,hb⟩
  have O11:=qD hO
  have T11:=qD (T10.out.trans hb)
  have X11:=qD (X10.out.but hb (by omega))
  clear hO hb HC c0 O10 T10 X10
  have c0:w11.cell? ⟨w.heap.size,76,none⟩=some (.slice none 0 0):=X11.out.cellM rfl
  go_wp2_with fail
  go_loopw [5] (fun v wr=>v=.int .i64 0∧wr=w11) (fun _ _=>0)
  case atStart=>exact⟨rfl,rfl⟩
  case round=>
   obtain⟨rfl,hw⟩:=hrel
   rw[hw]
   clear hw
   have c0:w11.cell? ⟨w.heap.size,77,none⟩=some (.bool c.si):=X11.out.cellM rfl
   have HC:=qD (oflag_any c.si g _ w11 O11.out (by have:=HSZ.out;(try simp only[ByteArray.size_append]);omega))
   go_wp2_with fail
   refine HC.out.mono ?_
   rintro e w12 ⟨rfl,hO,hb⟩
   have O12:=qD hO
   have T12:=qD (T11.out.trans hb)
   have X12:=qD (X11.out.but hb (by omega))
   clear hO hb HC c0 O11 T11 X11
   go_wp2_with fail
   go_end0
   refine⟨rfl,O12.out.app_ ?_,T12.out⟩
   simp only[codeW,ByteArray.append_assoc]
theorem RW1.but_{g:Nat}{w w':World}{c:WC}{x:Wt}(h:RW1 (fun b=>b≠g) w c x)(hb:But g w w'):RW1 (fun b=>b≠g) w' c x:=⟨h.kd,h.sp,h.si,h.sz,RV.butG h.key hb,RV.butG h.doc hb⟩
theorem oentry_any(x:Wt)(c:WC)(g:Nat)(S:ByteArray)(w:World)(hr:RW1 (fun b=>b≠g) w c x)(h:OW w g S)(hs:S.size+(entryC x).size≤9223372036854775807):Calls Tryz.prog 58 #[.pointer (some ⟨g,0,none⟩),.agg (entL c).toArray] w (Wrote g S (entryC x) w):=by
 have hgl:g<w.heap.size:=h.lt
 have HSZ:Hid (S.size+((numB 0).size+((numB 0).size+((strB ByteArray.empty).size+((numB 0).size+(codeW x).size))))≤9223372036854775807):=by have:=hs;unfold Hid;simp only[entryC,ByteArray.size_append] at this ⊢;omega
 clear hs
 obtain⟨w0,hw0⟩:∃w0,w.alloc (.cells (entL c).toArray 100)=w0:=⟨_,rfl⟩
 have X0:Hid (Blk w0 w.heap.size 100 (entL c).toArray):=by rw[←hw0];exact Blk.new_at rfl
 have T0:Hid (But g w w0):=by rw[←hw0];exact But.refl.alloc _
 have O0:Hid (OW w0 g S):=by rw[←hw0];exact Blk.alloc h _
 have HW:=qD hw0
 clear hw0 h
 go_enter Tryz.func58,Tryz.ntmps58
 go_upto_region 1 with fail
 change Code.wp _ _ _ _ (w.alloc (.cells (entL c).toArray 100))
 rw[HW.out]
 clear HW
 have c0:w0.cell? ⟨w.heap.size,0,none⟩=some (.int .i64 0):=X0.out.cellM rfl
 have HC:=qD (onum_any 0 g _ w0 O0.out (by have:=HSZ.out;(try simp only[ByteArray.size_append]);omega))
 go_wp2_with fail
 refine HC.out.mono ?_
 rintro e w1 ⟨rfl,hO,hb⟩
 have O1:=qD hO
 have T1:=qD (T0.out.trans hb)
 have X1:=qD (X0.out.but hb (by omega))
 clear hO hb HC c0 O0 T0 X0
 have c0:w1.cell? ⟨w.heap.size,1,none⟩=some (.int .i64 0):=X1.out.cellM rfl
 have HC:=qD (onum_any 0 g _ w1 O1.out (by have:=HSZ.out;(try simp only[ByteArray.size_append]);omega))
 go_wp2_with fail
 refine HC.out.mono ?_
 rintro e w2 ⟨rfl,hO,hb⟩
 have O2:=qD hO
 have T2:=qD (T1.out.trans hb)
 have X2:=qD (X1.out.but hb (by omega))
 clear hO hb HC c0 O1 T1 X1
 have c0:w2.cell? ⟨w.heap.size,2,none⟩=some (.string ByteArray.empty):=X2.out.cellM rfl
 have HC:=qD (ostr_any ByteArray.empty g _ w2 O2.out (by have:=HSZ.out;(try simp only[ByteArray.size_append]);omega))
 go_wp2_with fail
 refine HC.out.mono ?_
 rintro e w3 ⟨rfl,hO,hb⟩
 have O3:=qD hO
 have T3:=qD (T2.out.trans hb)
 have X3:=qD (X2.out.but hb (by omega))
 clear hO hb HC c0 O2 T2 X2
 have c0:w3.cell? ⟨w.heap.size,3,none⟩=some (.int .i64 0):=X3.out.cellM rfl
 have HC:=qD (onum_any 0 g _ w3 O3.out (by have:=HSZ.out;(try simp only[ByteArray.size_append]);omega))
 go_wp2_with fail
 refine HC.out.mono ?_
 rintro e w4 ⟨rfl,hO,hb⟩
 have O4:=qD hO
 have T4:=qD (T3.out.trans hb)
 have X4:=qD (X3.out.but hb (by omega))
 clear hO hb HC c0 O3 T3 X3
 have c0:Hid (w4.rangeAt w.heap.size 4 (recC78 c)):=Blk.rangeL 4 78 X4.out rfl
 have HC:=qD (owrite_any x c g _ w4 (hr.but_ T4.out) O4.out (by have:=HSZ.out;(try simp only[ByteArray.size_append]);omega))
 go_wp2_with (refine wpList_load_mid rfl 67 _ rfl w.heap.size 4 rfl _ _ c0.out Tryz.underlying67 rfl (by kernel_rfl) ?_)
 refine HC.out.mono ?_
 rintro e w5 ⟨rfl,hO,hb⟩
 have O5:=qD hO
 have T5:=qD (T4.out.trans hb)
 have X5:=qD (X4.out.but hb (by omega))
 clear hO hb HC c0 O4 T4 X4
 go_wp2_with fail
 go_end0
 refine⟨rfl,O5.out.app_ ?_,T5.out⟩
 simp only[entryC,ByteArray.append_assoc]
end Go.Proofs.YtlicnjecnehaoaaGreatDoor
