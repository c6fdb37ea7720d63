/- A part of the proof. -/
import Derived.Test.YtgfoliedmhgpnaaGreatDoorBn9
set_option maxRecDepth 100000
set_option maxHeartbeats 16000000
set_option linter.unusedSimpArgs false
open Go.Proofs.Tryz
open ByteArray (empty)
namespace Go.Proofs.YtgfoliedmhgpnaaGreatDoor
open Go.RowKit
section
variable {c:Nat} {x:Int} {w:World}
theorem tc(x:aC):∀(c:VC) (w:World),RW w c x->Calls prog 187 #[c.val] w (DU w x):=by
 induction x using aC.ind with
 | h k n t l d ihl ihd=>
 intro c w h;obtain⟨i0,hi0,hz0,hz1,hz2⟩:=LM dC;obtain⟨j0,hj0,hy0,hy1,hy2⟩:=LM lO;have H:=qD h;have IHL:=qD ihl;have IHD:=qD ihd;obtain⟨ps0,hps0,hsl⟩:=h.sl;obtain⟨fs0,hfs0,hsd⟩:=h.sd;obtain⟨ck,cn,ct,cLA,cln,clc,cDA,cdn,cdc⟩:=c;simp only[aC.l,aC.d] at hps0 hfs0 hsl hsd;have hlz:cln*80<=140737488355328:=hsl.sz;have hdz:cdn*96<=140737488355328:=hsd.sz;have HLn:=qD hsl.sr.ln;have HDn:=qD hsd.sr.ln;have HSL:=qD hsl;have HSD:=qD hsd;have HP:=qD hps0;have HF:=qD hfs0
 have I0:Hid (Ei w ⟨ck,cn,ct,cLA,cln,clc,cDA,cdn,cdc⟩ l 0 none 0 [] (((w.alloc (.cells #[.int .i64 ck,.int .i64 cn,.string ct,.slice cLA cln clc,.slice cDA cdn cdc] 29)).alloc (.cells VC.zero.arr 29)).alloc (.cells #[.int .i64 ck,.int .i64 cn,.string ct,.slice none 0 0,.slice none 0 0] 29))):=
  qD ⟨((aG.Ii rfl).alloc _).alloc _,(aG.Ii (by simp)).alloc _,aG.Ii (by simp),bX _ _ _ _,rfl,by simp,(((Ju _ _).alloc (qL) _).alloc (by simp) _).alloc (by simp;omega) _⟩
 clear h ihl ihd hsl hsd hps0 hfs0;go_enter func187,ntmps187;go_upto_region 2 with fail
 change (Code.region 2 _ _).wp _ _ _ (((w.alloc (.cells #[.int .i64 ck,.int .i64 cn,.string ct,.slice cLA cln clc,.slice cDA cdn cdc] 29)).alloc (.cells VC.zero.arr 29)).alloc (.cells #[.int .i64 ck,.int .i64 cn,.string ct,.slice none 0 0,.slice none 0 0] 29));generalize ((w.alloc (.cells #[.int .i64 ck,.int .i64 cn,.string ct,.slice cLA cln clc,.slice cDA cdn cdc] 29)).alloc (.cells VC.zero.arr 29)).alloc (.cells #[.int .i64 ck,.int .i64 cn,.string ct,.slice none 0 0,.slice none 0 0] 29)=wa at*;obtain⟨a0,a1,a2,a3,a4⟩:=aS.Ig I0.out.b0;go_wp2_with fail;clear a0 a1 a2 a3 a4
 go_loopw [18] (fun v18 wr=>∃(i:Nat) (A:Option Addr) (cap:Nat) (ps:List PV),i<=cln/\v18=.int .i64 i/\Ei w ⟨ck,cn,ct,cLA,cln,clc,cDA,cdn,cdc⟩ l i A cap ps wr) (fun v18 _=>cln-(intOf v18).toNat)
 ·exact⟨0,none,0,[],KD _,rfl,I0.out⟩
 case round=>
  obtain⟨i,A,cap,ps,hi,rfl,I⟩:=hrel;have J:=qD I;by_cases hlt:i<cln
  ·obtain⟨p,hp⟩:∃p,ps0[i]?=some p:=⟨_,Jv (by have:=HLn.out;omega)⟩;obtain⟨b,off,rfl,_,hu,hr⟩:=HSL.out.Iq hp;have hy:l[i]?=some p.2:=by rw[<-HP.out,KP,hp];rfl
   have HY:=qD hy;have hbr:b<wr.heap.size:=by have:=hu.lt;have:=I.bel.size;omega
   have HR:=qD (hr.step I.bel);obtain⟨y0,y1,y2,y3,y4⟩:=hu.keep (I.bel.block b hu.lt);clear hp hu hr hy I;go_upto_region 5 with fail
   have K:=J.out.step ((Ju wr.heap.size wr).alloc (qL) (Obj.cells p.1.arr 29));have KB:aG (wr.alloc (.cells p.1.arr 29)) wr.heap.size 29 p.1.arr:=aG.Ii rfl;have R2:=qD (HR.out.alloc (.cells p.1.arr 29));change (Code.region 5 _ _).wp _ _ _ (wr.alloc (.cells p.1.arr 29));generalize wr.alloc (.cells p.1.arr 29)=w2 at*;generalize wr.heap.size=ga at*;have J2:=qD K;have JB:=qD KB;clear y0 y1 y2 y3 y4 J HR hbr K KB;have q3:=J2.out.b2.cell 3;simp at q3;obtain⟨v0,v1,v2,v3,v4⟩:=aS.Ig JB.out;simp only[Jw] at v1 v2 v3 v4;have hs:(Value.slice A i cap).ownBlock≠some (w.heap.size+1+1):=gL J2.out.own (by omega)
   go_region_law (first
    | (refine bW _ rfl (.tmp 23) (.tmp 26) 26 rfl (w.heap.size+3) 29 i0 VC.zero.val 5 80 Kv hi0 hz0 hz1 hz2 rfl (by decide) (.slice A i cap) i (aO bC ps) (by simp[Act.eval]) ((bJ J2.out.own HB3.out).alloc _) (w3.heap.size+1) (some ⟨w3.heap.size,0,none⟩) 1 1 (bC (c2,p.2)) (by simp[Act.eval]) ⟨rfl,fun _=>⟨_,rfl,by simp,ao _ _ _⟩⟩ (cG _) (by simp only[maxLen];omega) (by omega) (by simp;have:=(J2.out.step HB3.out).b2.lt;omega) ?_;intro v' w4 hown4 hgr hat;obtain⟨A4,cap4,hv4,hle4⟩:=cK hown4;rw[hv4];have f2:w4.cell? ⟨w.heap.size+1+1,3,none⟩=some (.slice A i cap):=eF hgr s0 hs;have z2:w4.frozen? ⟨w.heap.size+1+1,3,none⟩=false:=(qh hgr (J2.out.step HB3.out).b2.lt hs).trans ((J2.out.step HB3.out).b2.frozen 3))
    | (go_simp;go_at_call 187;refine(IHL.out p.2 (Jx HY.out) p.1 _ (R2.out.drewN 1)).mono ?_;rintro e3 w3 ⟨c2,rfl,hcl2,hb3⟩;replace hb3:Below w2.heap.size w2 w3:=hb3.Io;replace hcl2:RV (fun b=>w2.heap.size<=b) w3 c2 p.2:=hcl2;have s0:=(hb3.cell (p:=⟨w.heap.size+1+1,3,none⟩) J2.out.b2.lt).trans q3;have s1:=(hb3.cell (p:=⟨ga,0,none⟩) JB.out.lt).trans v0;have s2:=(hb3.cell (p:=⟨ga,1,none⟩) JB.out.lt).trans v1;have s3:=(hb3.cell (p:=⟨ga,2,none⟩) JB.out.lt).trans v2;have s4:=(hb3.cell (p:=⟨ga,3,none⟩) JB.out.lt).trans v3;have s5:=(hb3.cell (p:=⟨ga,4,none⟩) JB.out.lt).trans v4;have l3:w.heap.size+1+1<w3.heap.size:=(J2.out.step hb3).b2.lt;have HC3:=qD hcl2;have HB3:=qD hb3;clear hcl2 hb3))
   all_goals
    have HI:=qD ((J2.out.step HB3.out).next HY.out (HC3.out.mono fun q hq=>⟨by have:=J2.out.b2.lt;omega,fun e=>by have:=fH J2.out.own e;omega⟩) hgr (by rw[<-hv4];exact hat) (by rw[<-hv4];exact hown4));clear f2 z2 s0 s1 s2 s3 s4 s5 q3 v0 v1 v2 v3 v4 hgr hat hown4 hv4 J2 JB R2 HB3 HC3 l3 hs;generalize w4.setCell ⟨w.heap.size+1+1,3,none⟩ (.slice A4 (i+1) cap4)=w5 at*;go_wp2_with fail;go_roundw
    ·exact⟨i+1,A4,cap4,_,by omega,by go_num,HI.out⟩
    ·simp[intOf];omega
  ·have hpl:ps.length=i:=by have:=congrArg List.length I.eq;have h2:=HLn.out;have h3:=congrArg List.length HP.out;rw[KX] at this h3;rw[LI] at this;omega
   have HPS:Hid (ps.map Prod.snd=l):=by rw[Hid,I.eq];exact KL (by have h2:=HLn.out;have h3:=congrArg List.length HP.out;rw[KX] at h3;omega)
   have D0:=qD (An.start (d:=d) I hpl (by unfold aH;omega));clear I J hpl;obtain⟨a0,a1,a2,a3,a4⟩:=aS.Ig D0.out.b0;go_wp2_with fail;clear a0 a1 a2 a3 a4;obtain⟨wo,hwo⟩:∃wo:World,wo=wr:=⟨_,rfl⟩;rw[<-hwo] at D0 ⊢;clear hwo
   go_loopw [33] (fun v33 wr=>∃(j:Nat) (B:Option Addr) (cap':Nat) (fs:List PF),j<=cdn/\v33=.int .i64 j/\An w ⟨ck,cn,ct,cLA,cln,clc,cDA,cdn,cdc⟩ d A i cap ps j B cap' fs wr) (fun v33 _=>cdn-(intOf v33).toNat)
   ·exact⟨0,none,0,[],KD _,rfl,D0.out⟩
   case round=>
    obtain⟨j,B,cap',fs,hj,rfl,I⟩:=hrel;have J:=qD I;clear D0;by_cases hjt:j<cdn
    ·obtain⟨p,hp⟩:∃p,fs0[j]?=some p:=⟨_,Jv (by have:=HDn.out;omega)⟩;have hns:=HSD.out.ns p (Jx hp);obtain⟨b,off,rfl,_,hs0,hu,hr⟩:=HSD.out.Iq hp;have hy:d[j]?=some p.2:=by rw[<-HF.out,KP,hp];rfl
     have HY:=qD hy;have HNS:=qD hns;have hbr:b<wr.heap.size:=by have:=hu.lt;have:=I.bel.size;omega
     have HR:=qD (hr.step I.bel);have y5:=(I.bel.cell (p:=⟨b,off+j*6,none⟩) hu.lt).trans hs0;obtain⟨y0,y1,y2,y3,y4⟩:=hu.keep (I.bel.block b hu.lt);clear hp hu hr hy I hs0 hns;go_upto_region 10 with fail
     have K:=J.out.step ((Ju wr.heap.size wr).alloc (qL) (Obj.cells (cX p).toArray 77));have KB:aG (wr.alloc (.cells (cX p).toArray 77)) wr.heap.size 77 (cX p).toArray:=aG.Ii rfl;have R2:=qD (HR.out.alloc (.cells (cX p).toArray 77));change (Code.region 10 _ _).wp _ _ _ (wr.alloc (.cells (cX p).toArray 77));generalize wr.alloc (.cells (cX p).toArray 77)=w2 at*;generalize wr.heap.size=ga at*;have J2:=qD K;have JB:=qD KB;clear y0 y1 y2 y3 y4 y5 J HR hbr K KB;have q3:=J2.out.b2.cell 4;simp at q3;have v5:w2.cell? ⟨ga,0,none⟩=some (.string p.2.s):=by rw[JB.out.cell];rfl
     have v0:w2.cell? ⟨ga,1,none⟩=some (.int .i64 p.1.k):=by rw[JB.out.cell];rfl
     have v1:w2.cell? ⟨ga,2,none⟩=some (.int .i64 p.1.n):=by rw[JB.out.cell];rfl
     have v2:w2.cell? ⟨ga,3,none⟩=some (.string p.1.t):=by rw[JB.out.cell];rfl
     have v3:w2.cell? ⟨ga,4,none⟩=some (.slice p.1.LA p.1.ln p.1.lc):=by rw[JB.out.cell];rfl
     have v4:w2.cell? ⟨ga,5,none⟩=some (.slice p.1.DA p.1.dn p.1.dc):=by rw[JB.out.cell];rfl
     have hs:(Value.slice B j cap').ownBlock≠some (w.heap.size+1+1):=gL J2.out.own (by omega)
     go_region_law (first
      | (refine bW _ rfl (.tmp 38) (.tmp 45) 27 rfl (w.heap.size+3) 77 j0 (.agg (#[.string empty]++VC.zero.arr)) 6 96 ME hj0 hy0 hy1 hy2 rfl (by decide) (.slice B j cap') j (aO cX fs) (by simp[Act.eval]) ((bJ J2.out.own HB3.out).alloc _) (w3.heap.size+1) (some ⟨w3.heap.size,0,none⟩) 1 1 (cX (c2,p.2)) (by simp[Act.eval]) ⟨rfl,fun _=>⟨_,rfl,by simp,ao _ _ _⟩⟩ (iZ _) (by simp only[maxLen];omega) (by omega) (by simp;have:=(J2.out.step HB3.out).b2.lt;omega) ?_;intro v' w4 hown4 hgr hat;obtain⟨A4,cap4,hv4,hle4⟩:=cK hown4;rw[hv4];have f2:w4.cell? ⟨w.heap.size+1+1,4,none⟩=some (.slice B j cap'):=eF hgr s0 hs;have z2:w4.frozen? ⟨w.heap.size+1+1,4,none⟩=false:=(qh hgr (J2.out.step HB3.out).b2.lt hs).trans ((J2.out.step HB3.out).b2.frozen 4))
      | (go_simp;go_at_call 187;refine(IHD.out p.2 (Jx HY.out) p.1 _ (R2.out.drewN 1)).mono ?_;rintro e3 w3 ⟨c2,rfl,hcl2,hb3⟩;replace hb3:Below w2.heap.size w2 w3:=hb3.Io;replace hcl2:RV (fun b=>w2.heap.size<=b) w3 c2 p.2.v:=hcl2;have s0:=(hb3.cell (p:=⟨w.heap.size+1+1,4,none⟩) J2.out.b2.lt).trans q3;have s6:=(hb3.cell (p:=⟨ga,0,none⟩) JB.out.lt).trans v5;have s1:=(hb3.cell (p:=⟨ga,1,none⟩) JB.out.lt).trans v0;have s2:=(hb3.cell (p:=⟨ga,2,none⟩) JB.out.lt).trans v1;have s3:=(hb3.cell (p:=⟨ga,3,none⟩) JB.out.lt).trans v2;have s4:=(hb3.cell (p:=⟨ga,4,none⟩) JB.out.lt).trans v3;have s5:=(hb3.cell (p:=⟨ga,5,none⟩) JB.out.lt).trans v4;have l3:w.heap.size+1+1<w3.heap.size:=(J2.out.step hb3).b2.lt;have HC3:=qD hcl2;have HB3:=qD hb3;clear hcl2 hb3))
     all_goals
      have HI:=qD ((J2.out.step HB3.out).next HY.out HNS.out (HC3.out.mono fun q hq=>⟨by have:=J2.out.b2.lt;omega,fun e=>by have:=fH J2.out.own e;omega⟩) hgr (by rw[<-hv4];exact hat) (by rw[<-hv4];exact hown4));clear f2 z2 s0 s1 s2 s3 s4 s5 s6 q3 v0 v1 v2 v3 v4 v5 hgr hat hown4 hv4 J2 JB R2 HB3 HC3 l3 hs;generalize w4.setCell ⟨w.heap.size+1+1,4,none⟩ (.slice A4 (j+1) cap4)=w5 at*;go_wp2_with fail;go_roundw
      ·exact⟨j+1,A4,cap4,_,by omega,by go_num,HI.out⟩
      ·simp[intOf];omega
    ·have hjd:j=d.length:=by have h2:=HDn.out;have h3:=congrArg List.length HF.out;rw[KX] at h3;omega
     have HD:=qD (An.done (x:=.mk k n t l d) J.out H.out HPS.out hjd (by unfold aH;omega));obtain⟨a0,a1,a2,a3,a4⟩:=aS.Ig J.out.b2;obtain⟨b0,b1,b2,b3,b4⟩:=aS.Ig J.out.b1;have z:=J.out.b1.frozen;clear I hjd;go_wp2_with fail;have q:=aS.Ig (J.out.b1.putV ⟨ck,cn,ct,A,i,cap,B,j,cap'⟩);exact Jz (aF rfl _ _ _ rfl _ ⟨ck,cn,ct,A,i,cap,B,j,cap'⟩ q) rfl HD.out
end
end Go.Proofs.YtgfoliedmhgpnaaGreatDoor
