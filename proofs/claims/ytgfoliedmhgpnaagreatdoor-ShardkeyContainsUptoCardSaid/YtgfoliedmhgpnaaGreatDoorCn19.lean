/- A part of the proof. -/
import Derived.Test.YtgfoliedmhgpnaaGreatDoorCn18
set_option maxRecDepth 100000
set_option maxHeartbeats 16000000
open Go.Proofs.Tryz
open ByteArray (empty)
namespace Go.Proofs.YtgfoliedmhgpnaaGreatDoor
open Go.RowKit
section
variable {c:Nat} {w:World} {x:Int}
theorem wN(x:aC):∀(c:VC) (w:World),RW w c x->Calls prog 187 #[c.val] w (Eo w x):=by
 induction x using aC.ind with
 | h k n t l d ihl ihd=>
 intro c w h;obtain⟨i0,hi0,hz0,hz1,hz2⟩:=Pb dB;obtain⟨j0,hj0,hy0,hy1,hy2⟩:=Pb kW;have H:=qD h;have IHL:=qD ihl;have IHD:=qD ihd;obtain⟨ps0,hps0,hsl⟩:=h.sl;obtain⟨fs0,hfs0,hsd⟩:=h.sd;obtain⟨ck,cn,ct,cLA,cln,clc,cDA,cdn,cdc⟩:=c;simp only[aC.l,aC.d] at hps0 hfs0 hsl hsd;have hlz:cln*80<=140737488355328:=hsl.sz;have hdz:cdn*96<=140737488355328:=hsd.sz;have HLn:=qD hsl.sr.ln;have HDn:=qD hsd.sr.ln;have HSL:=qD hsl;have HSD:=qD hsd;have HP:=qD hps0;have HF:=qD hfs0
 have I0:Hid (Hy w ⟨ck,cn,ct,cLA,cln,clc,cDA,cdn,cdc⟩ l 0 none 0 [] (((w.alloc (.cells #[.int .i64 ck,.int .i64 cn,.string ct,.slice cLA cln clc,.slice cDA cdn cdc] 29)).alloc (.cells VC.zero.arr 29)).alloc (.cells #[.int .i64 ck,.int .i64 cn,.string ct,.slice none 0 0,.slice none 0 0] 29))):=
  qD ⟨((aG.Mm rfl).alloc _).alloc _,(aG.Mm sM).alloc _,aG.Mm sM,bP _ _ _ _,rfl,by simp,(((OG _ _).alloc (qL) _).alloc sM _).alloc sO _⟩
 clear h ihl ihd hsl hsd hps0 hfs0;go_enter func187,ntmps187;go_upto_region 2 with fail
 change (Code.region 2 _ _).wp _ _ _ (((w.alloc (.cells #[.int .i64 ck,.int .i64 cn,.string ct,.slice cLA cln clc,.slice cDA cdn cdc] 29)).alloc (.cells VC.zero.arr 29)).alloc (.cells #[.int .i64 ck,.int .i64 cn,.string ct,.slice none 0 0,.slice none 0 0] 29));generalize ((w.alloc (.cells #[.int .i64 ck,.int .i64 cn,.string ct,.slice cLA cln clc,.slice cDA cdn cdc] 29)).alloc (.cells VC.zero.arr 29)).alloc (.cells #[.int .i64 ck,.int .i64 cn,.string ct,.slice none 0 0,.slice none 0 0] 29)=wa at*;obtain⟨a0,a1,a2,a3,a4⟩:=aO.Mn I0.out.b0;go_wp2_with fail;clear a0 a1 a2 a3 a4
 go_loopw [18] (fun v18 wr=>∃(i:Nat) (A:Option Addr) (cap:Nat) (ps:List PV),i<=cln/\v18=.int .i64 i/\Hy w ⟨ck,cn,ct,cLA,cln,clc,cDA,cdn,cdc⟩ l i A cap ps wr) (fun v18 _=>cln-(intOf v18).toNat)
 ·exact⟨0,none,0,[],ON _,rfl,I0.out⟩
 case round=>
  obtain⟨i,A,cap,ps,hi,rfl,I⟩:=hrel;have J:=qD I;by_cases hlt:i<cln
  ·obtain⟨p,hp⟩:∃p,ps0[i]?=some p:=⟨_,OH (by have:=HLn.out;omega)⟩;obtain⟨b,off,rfl,_,hu,hr⟩:=HSL.out.Mw hp;have hy:l[i]?=some p.2:=by rw[<-HP.out,OT,hp];rfl
   have HY:=qD hy;have hbr:b<wr.heap.size:=by have:=hu.lt;have:=I.bel.size;omega
   have HR:=qD (hr.step I.bel);obtain⟨y0,y1,y2,y3,y4⟩:=hu.keep (I.bel.block b hu.lt);clear hp hu hr hy I;go_upto_region 5 with fail
   have K:=J.out.step ((OG wr.heap.size wr).alloc (qL) (Obj.cells p.1.arr 29));have KB:aG (wr.alloc (.cells p.1.arr 29)) wr.heap.size 29 p.1.arr:=aG.Mm rfl;have R2:=qD (HR.out.alloc (.cells p.1.arr 29));change (Code.region 5 _ _).wp _ _ _ (wr.alloc (.cells p.1.arr 29));generalize wr.alloc (.cells p.1.arr 29)=w2 at*;generalize wr.heap.size=ga at*;have J2:=qD K;have JB:=qD KB;clear y0 y1 y2 y3 y4 J HR hbr K KB;have q3:=J2.out.b2.cell 3;simp at q3;obtain⟨v0,v1,v2,v3,v4⟩:=aO.Mp JB.out;have hs:(Value.slice A i cap).ownBlock≠some (w.heap.size+1+1):=gr J2.out.own oM
   go_region_law (first
    | (refine bG _ rfl (.tmp 23) (.tmp 26) 26 rfl (w.heap.size+3) 29 i0 VC.zero.val 5 80 PM hi0 hz0 hz1 hz2 rfl dE (.slice A i cap) i (aN bD ps) (by simp[Act.eval]) ((af J2.out.own HB3.out).alloc _) (w3.heap.size+1) (some ⟨w3.heap.size,0,none⟩) 1 1 (bD (c2,p.2)) (by simp[Act.eval]) ⟨rfl,fun _=>⟨_,rfl,by simp,ag _ _ _⟩⟩ (cq _) (by simp only[maxLen];omega) oM (by simp;have:=(J2.out.step HB3.out).b2.lt;omega) ?_;intro v' w4 hown4 hgr hat;obtain⟨A4,cap4,hv4,hle4⟩:=aY hown4;rw[hv4];have f2:w4.cell? ⟨w.heap.size+1+1,3,none⟩=some (.slice A i cap):=cH hgr s0 hs;have z2:w4.frozen? ⟨w.heap.size+1+1,3,none⟩=false:=(tS hgr (J2.out.step HB3.out).b2.lt hs).trans ((J2.out.step HB3.out).b2.frozen 3))
    | (go_simp;go_at_call 187;refine(IHL.out p.2 (OJ HY.out) p.1 _ (R2.out.drewN 1)).mono ?_;rintro e3 w3 ⟨c2,rfl,hcl2,hb3⟩;replace hb3:Bl w2 w3:=hb3.Mt;replace hcl2:RV (fun b=>w2.heap.size<=b) w3 c2 p.2:=hcl2;have s0:=(hb3.cell (p:=⟨w.heap.size+1+1,3,none⟩) J2.out.b2.lt).trans q3;have s1:=(hb3.cell (p:=⟨ga,0,none⟩) JB.out.lt).trans v0;have s2:=(hb3.cell (p:=⟨ga,1,none⟩) JB.out.lt).trans v1;have s3:=(hb3.cell (p:=⟨ga,2,none⟩) JB.out.lt).trans v2;have s4:=(hb3.cell (p:=⟨ga,3,none⟩) JB.out.lt).trans v3;have s5:=(hb3.cell (p:=⟨ga,4,none⟩) JB.out.lt).trans v4;have l3:w.heap.size+1+1<w3.heap.size:=(J2.out.step hb3).b2.lt;have HC3:=qD hcl2;have HB3:=qD hb3;clear hcl2 hb3))
   all_goals
    have HI:=qD ((J2.out.step HB3.out).next HY.out (HC3.out.mono fun q hq=>⟨by have:=J2.out.b2.lt;omega,fun e=>by have:=eO J2.out.own e;omega⟩) hgr (by rw[<-hv4];exact hat) (by rw[<-hv4];exact hown4));clear f2 z2 s0 s1 s2 s3 s4 s5 q3 v0 v1 v2 v3 v4 hgr hat hown4 hv4 J2 JB R2 HB3 HC3 l3 hs;generalize w4.setCell ⟨w.heap.size+1+1,3,none⟩ (.slice A4 (i+1) cap4)=w5 at*;go_wp2_with fail;go_roundw
    ·exact⟨i+1,A4,cap4,_,by omega,by go_num,HI.out⟩
    ·exact iO
  ·have hpl:ps.length=i:=by have:=congrArg List.length I.eq;have h2:=HLn.out;have h3:=congrArg List.length HP.out;rw[Oe] at this h3;rw[Ow] at this;omega
   have HPS:Hid (ps.map Prod.snd=l):=by rw[Hid,I.eq];exact OS (by have h2:=HLn.out;have h3:=congrArg List.length HP.out;rw[Oe] at h3;omega)
   have D0:=qD (Co.start (d:=d) I hpl (by unfold aF;omega));clear I J hpl;obtain⟨a0,a1,a2,a3,a4⟩:=aO.Mn D0.out.b0;go_wp2_with fail;clear a0 a1 a2 a3 a4;obtain⟨wo,hwo⟩:∃wo:World,wo=wr:=⟨_,rfl⟩;rw[<-hwo] at D0 ⊢;clear hwo
   go_loopw [33] (fun v33 wr=>∃(j:Nat) (B:Option Addr) (cap':Nat) (fs:List PF),j<=cdn/\v33=.int .i64 j/\Co w ⟨ck,cn,ct,cLA,cln,clc,cDA,cdn,cdc⟩ d A i cap ps j B cap' fs wr) (fun v33 _=>cdn-(intOf v33).toNat)
   ·exact⟨0,none,0,[],ON _,rfl,D0.out⟩
   case round=>
    obtain⟨j,B,cap',fs,hj,rfl,I⟩:=hrel;have J:=qD I;clear D0;by_cases hjt:j<cdn
    ·obtain⟨p,hp⟩:∃p,fs0[j]?=some p:=⟨_,OH (by have:=HDn.out;omega)⟩;have hns:=HSD.out.ns p (OJ hp);obtain⟨b,off,rfl,_,hs0,hu,hr⟩:=HSD.out.Mw hp;have hy:d[j]?=some p.2:=by rw[<-HF.out,OT,hp];rfl
     have HY:=qD hy;have HNS:=qD hns;have hbr:b<wr.heap.size:=by have:=hu.lt;have:=I.bel.size;omega
     have HR:=qD (hr.step I.bel);have y5:=(I.bel.cell (p:=⟨b,off+j*6,none⟩) hu.lt).trans hs0;obtain⟨y0,y1,y2,y3,y4⟩:=hu.keep (I.bel.block b hu.lt);clear hp hu hr hy I hs0 hns;go_upto_region 10 with fail
     have K:=J.out.step ((OG wr.heap.size wr).alloc (qL) (Obj.cells (cw p).toArray 77));have KB:aG (wr.alloc (.cells (cw p).toArray 77)) wr.heap.size 77 (cw p).toArray:=aG.Mm rfl;have R2:=qD (HR.out.alloc (.cells (cw p).toArray 77));change (Code.region 10 _ _).wp _ _ _ (wr.alloc (.cells (cw p).toArray 77));generalize wr.alloc (.cells (cw p).toArray 77)=w2 at*;generalize wr.heap.size=ga at*;have J2:=qD K;have JB:=qD KB;clear y0 y1 y2 y3 y4 y5 J HR hbr K KB;have q3:=J2.out.b2.cell 4;simp at q3;have v5:w2.cell? ⟨ga,0,none⟩=some (.string p.2.s):=by rw[JB.out.cell];rfl
     have v0:w2.cell? ⟨ga,1,none⟩=some (.int .i64 p.1.k):=by rw[JB.out.cell];rfl
     have v1:w2.cell? ⟨ga,2,none⟩=some (.int .i64 p.1.n):=by rw[JB.out.cell];rfl
     have v2:w2.cell? ⟨ga,3,none⟩=some (.string p.1.t):=by rw[JB.out.cell];rfl
     have v3:w2.cell? ⟨ga,4,none⟩=some (.slice p.1.LA p.1.ln p.1.lc):=by rw[JB.out.cell];rfl
     have v4:w2.cell? ⟨ga,5,none⟩=some (.slice p.1.DA p.1.dn p.1.dc):=by rw[JB.out.cell];rfl
     have hs:(Value.slice B j cap').ownBlock≠some (w.heap.size+1+1):=gr J2.out.own oM
     go_region_law (first
      | (refine bG _ rfl (.tmp 38) (.tmp 45) 27 rfl (w.heap.size+3) 77 j0 (.agg (#[.string empty]++VC.zero.arr)) 6 96 QS hj0 hy0 hy1 hy2 rfl dE (.slice B j cap') j (aN cw fs) (by simp[Act.eval]) ((af J2.out.own HB3.out).alloc _) (w3.heap.size+1) (some ⟨w3.heap.size,0,none⟩) 1 1 (cw (c2,p.2)) (by simp[Act.eval]) ⟨rfl,fun _=>⟨_,rfl,by simp,ag _ _ _⟩⟩ (js _) (by simp only[maxLen];omega) oM (by simp;have:=(J2.out.step HB3.out).b2.lt;omega) ?_;intro v' w4 hown4 hgr hat;obtain⟨A4,cap4,hv4,hle4⟩:=aY hown4;rw[hv4];have f2:w4.cell? ⟨w.heap.size+1+1,4,none⟩=some (.slice B j cap'):=cH hgr s0 hs;have z2:w4.frozen? ⟨w.heap.size+1+1,4,none⟩=false:=(tS hgr (J2.out.step HB3.out).b2.lt hs).trans ((J2.out.step HB3.out).b2.frozen 4))
      | (go_simp;go_at_call 187;refine(IHD.out p.2 (OJ HY.out) p.1 _ (R2.out.drewN 1)).mono ?_;rintro e3 w3 ⟨c2,rfl,hcl2,hb3⟩;replace hb3:Bl w2 w3:=hb3.Mt;replace hcl2:RV (fun b=>w2.heap.size<=b) w3 c2 p.2.v:=hcl2;have s0:=(hb3.cell (p:=⟨w.heap.size+1+1,4,none⟩) J2.out.b2.lt).trans q3;have s6:=(hb3.cell (p:=⟨ga,0,none⟩) JB.out.lt).trans v5;have s1:=(hb3.cell (p:=⟨ga,1,none⟩) JB.out.lt).trans v0;have s2:=(hb3.cell (p:=⟨ga,2,none⟩) JB.out.lt).trans v1;have s3:=(hb3.cell (p:=⟨ga,3,none⟩) JB.out.lt).trans v2;have s4:=(hb3.cell (p:=⟨ga,4,none⟩) JB.out.lt).trans v3;have s5:=(hb3.cell (p:=⟨ga,5,none⟩) JB.out.lt).trans v4;have l3:w.heap.size+1+1<w3.heap.size:=(J2.out.step hb3).b2.lt;have HC3:=qD hcl2;have HB3:=qD hb3;clear hcl2 hb3))
     all_goals
      have HI:=qD ((J2.out.step HB3.out).next HY.out HNS.out (HC3.out.mono fun q hq=>⟨by have:=J2.out.b2.lt;omega,fun e=>by have:=eO J2.out.own e;omega⟩) hgr (by rw[<-hv4];exact hat) (by rw[<-hv4];exact hown4));clear f2 z2 s0 s1 s2 s3 s4 s5 s6 q3 v0 v1 v2 v3 v4 v5 hgr hat hown4 hv4 J2 JB R2 HB3 HC3 l3 hs;generalize w4.setCell ⟨w.heap.size+1+1,4,none⟩ (.slice A4 (j+1) cap4)=w5 at*;go_wp2_with fail;go_roundw
      ·exact⟨j+1,A4,cap4,_,by omega,by go_num,HI.out⟩
      ·exact iO
    ·have hjd:j=d.length:=by have h2:=HDn.out;have h3:=congrArg List.length HF.out;rw[Oe] at h3;omega
     have HD:=qD (Co.done (x:=.mk k n t l d) J.out H.out HPS.out hjd (by unfold aF;omega));obtain⟨a0,a1,a2,a3,a4⟩:=aO.Mn J.out.b2;obtain⟨b0,b1,b2,b3,b4⟩:=aO.Mn J.out.b1;have z:=J.out.b1.frozen;clear I hjd;go_wp2_with fail;have q:=aO.Mn (J.out.b1.putV ⟨ck,cn,ct,A,i,cap,B,j,cap'⟩);exact OO (aD rfl _ _ _ rfl _ ⟨ck,cn,ct,A,i,cap,B,j,cap'⟩ q) rfl HD.out
end
end Go.Proofs.YtgfoliedmhgpnaaGreatDoor
