/- Parts of the proof, joined: BoOfB, BoOfC, BoOfD, RfSingle, BoOf, RfOf. -/
import Derived.Test.YthfahkaadbdicaaGreatDoorRt1
import Derived.Test.YthfahkaadbdicaaGreatDoorRt23
import Derived.Test.YthfahkaadbdicaaGreatDoorRt12
import Derived.Test.YthfahkaadbdicaaGreatDoorRt21
import Derived.Test.YthfahkaadbdicaaGreatDoorRt22
import Derived.Test.YthfahkaadbdicaaGreatDoorRt20
import Derived.Test.YthfahkaadbdicaaGreatDoorRt19
set_option maxRecDepth 100000
set_option maxHeartbeats 16000000
set_option linter.unusedSimpArgs false
open Go.Proofs.Tryz
open ByteArray (empty)
namespace Go.Proofs.YthfahkaadbdicaaGreatDoor
open Go.RowKit
theorem Gq(p:ao)(h:p.op=2)(A:Option Addr)(n c:Nat)(l:List ByteArray)(w:World)(hw:WP w p)(hT:cg w)(hl:ST w A n c l)(hp:p.path.xs=l):
 Calls prog 36 #[am p,.slice A n c] w (dO (bZ 2 p.arg.2 (p.args.xs.map Prod.snd) p.n) p.sz w):=by
 have HE:Hid (∀wr,Below w.heap.size w wr->Calls prog 92 #[.slice p.path.A p.path.n p.path.c,.slice A n c] wr fun e w'=>e=.returned (.bool (ah p.path.xs l))/\Below wr.heap.size wr w'):=qD fun wr hb=>eG p.path.xs l p.path.A A p.path.n p.path.c n c wr (hw.open.path.step hb) (hl.step hb);rw[ee.2 hp] at HE;have HT:=qD hT;have HSZ:Hid (1<=p.sz):=by rw[Hid,p.Jx];omega
 have HX:=qD hw.open.arg;have HK:Hid (p.arg.1.k=p.arg.2.k):=qD hw.open.arg.open.k;clear hw hT hl hp;have B0:Hid (aE (w.alloc (.cells (aH p) 38)) w.heap.size 38 (aH p)):=aE.Jq rfl;have BE:=qD ((LH w.heap.size w).alloc (qL) (Obj.cells (aH p) 38));go_enter No,Ni;go_upto_region 1 with fail
 change Code.wp _ _ _ _ (w.alloc (.cells (aH p) 38));generalize w.alloc (.cells (aH p) 38)=wa at*;obtain⟨d0,d1,_,_,_,_,_,_⟩:=aS B0.out;rw[h] at d0;go_wp2_with fail;refine(HE.out _ BE.out).mono ?_;rintro e w1 ⟨rfl,hb⟩;replace BE:=qD (BE.out.Jp hb);replace B0:=qD (B0.out.step hb);clear hb d0 d1 HE;obtain⟨d0,_,_,_,_,_,_,_⟩:=aS B0.out;rw[h] at d0;clear h;have f2:=(aX B0.out) 0 _ rfl;have f3:=(aX B0.out) 1 _ rfl;have f4:=(aX B0.out) 2 _ rfl;have f5:=(aX B0.out) 3 _ rfl;have f6:=(aX B0.out) 4 _ rfl;simp only[Nat.reduceAdd] at f2 f3 f4 f5 f6;by_cases h6:p.arg.1.k=6
 ·have HL:Hid (bZ 2 p.arg.2 (p.args.xs.map Prod.snd) p.n=(dV,false)):=qD (dH (rP (by rw[<-HK.out];exact h6)));have k6:(p.arg.1.k != 6)=false:=by simpa using h6
  clear h6;go_wp2_with fail;refine(fZ _).mono ?_;rintro e w2 ⟨A3,m3,c3,ys,nf,rfl,hy,hnf,hmk,hsi,hb3,hfr⟩;have HNO:=qD (show dO (dV,false) 1 w1 (.returned (.tuple #[.slice A3 m3 c3,.bool false])) w2 from⟨A3,m3,c3,ys,nf,rfl,hy,hnf,hmk,hsi,hb3,hfr⟩);clear hy hnf hmk hsi hb3 hfr;go_wp2_with fail;go_ret2;rw[HL.out];exact HNO.out.up BE.out HSZ.out
 ·have HL:Hid (bZ 2 p.arg.2 (p.args.xs.map Prod.snd) p.n=((fun a=>dj ae a (aT ([p.arg].map fun q=>eM q.2))),decide (p.arg.2.k≠2))):=by
   rw[Hid,cI (ui (by rw[<-HK.out];exact h6))];rfl
  have k6:(p.arg.1.k != 6)=true:=by simpa using h6
  clear h6;obtain⟨b2,hb2⟩:∃b,b=decide (p.arg.2.k≠2):=⟨_,rfl⟩;rw[<-hb2] at HL;have k2:(p.arg.1.k != 2)=b2:=by rw[hb2,HK.out,Lg];simp
  clear hb2;go_upto_region 11 with fail
  have B:=qD ((LH w1.heap.size w1).drewN 1);have KS:Hid (∀w',Below w1.heap.size w1 w'->w'.cell? ⟨w.heap.size,2,none⟩=some (.int .i64 p.arg.1.k)/\w'.cell? ⟨w.heap.size,3,none⟩=some (.int .i64 p.arg.1.n)/\w'.cell? ⟨w.heap.size,4,none⟩=some (.string p.arg.1.t)/\w'.cell? ⟨w.heap.size,5,none⟩=some (.slice p.arg.1.LA p.arg.1.ln p.arg.1.lc)/\w'.cell? ⟨w.heap.size,6,none⟩=some (.slice p.arg.1.DA p.arg.1.dn p.arg.1.dc)):=qD fun w' hb=>⟨(hb.cell (p:=⟨w.heap.size,2,none⟩) B0.out.lt).trans f2,(hb.cell (p:=⟨w.heap.size,3,none⟩) B0.out.lt).trans f3,(hb.cell (p:=⟨w.heap.size,4,none⟩) B0.out.lt).trans f4,(hb.cell (p:=⟨w.heap.size,5,none⟩) B0.out.lt).trans f5,(hb.cell (p:=⟨w.heap.size,6,none⟩) B0.out.lt).trans f6⟩;clear f2 f3 f4 f5 f6 d0
  go_region_held3 (fun w'=>w'.cell? ⟨w.heap.size,2,none⟩=some (.int .i64 p.arg.1.k)/\w'.cell? ⟨w.heap.size,3,none⟩=some (.int .i64 p.arg.1.n)/\w'.cell? ⟨w.heap.size,4,none⟩=some (.string p.arg.1.t)/\w'.cell? ⟨w.heap.size,5,none⟩=some (.slice p.arg.1.LA p.arg.1.ln p.arg.1.lc)/\w'.cell? ⟨w.heap.size,6,none⟩=some (.slice p.arg.1.DA p.arg.1.dn p.arg.1.dc))
   (first|exact KS.out _ B.out|exact KS.out _ (B.out.alloc B.out.size _)|((try dsimp only);assumption)|go_keep)
   ((go_at_call 94;refine(kD [p.arg] _ 1 1 _ (HT.out.step (BE.out.Jp (B.out.alloc B.out.size _))) (qO (aE.Jq rfl) (HX.out.step (BE.out.Jp (B.out.alloc B.out.size _)))) (by omega)).mono ?_;rintro e3 w3 ⟨A3,m3,c3,ys,nf,rfl,hy,hnf,hmk,hsi,hb3,hfr⟩;have HNO:=qD (show dO ((fun a=>dj ae a (aT ([p.arg].map fun q=>eM q.2))),b2) 1 _ (.returned (.tuple #[.slice A3 m3 c3,.bool b2])) w3 from⟨A3,m3,c3,ys,nf,rfl,hy,hnf,hmk,hsi,hb3,hfr⟩);replace HNO:=qD (HNO.out.up (B.out.alloc B.out.size _) (qL));replace B:=qD ((B.out.alloc B.out.size _).Jp hb3);clear hy hnf hmk hsi hb3 hfr))
  all_goals
   go_wp2_with fail;go_ret2;rw[HL.out];exact HNO.out.up BE.out HSZ.out
theorem FT(p:ao)(h:p.op=11)(hn:1<=p.n/\p.n<=11)(A:Option Addr)(n c:Nat)(l:List ByteArray)(w:World)(hw:WP w p)(hT:cg w)(hl:ST w A n c l)(hp:p.path.xs=l):
 Calls prog 36 #[am p,.slice A n c] w (dO (bZ 11 p.arg.2 (p.args.xs.map Prod.snd) p.n) p.sz w):=by
 have HE:Hid (∀wr,Below w.heap.size w wr->Calls prog 92 #[.slice p.path.A p.path.n p.path.c,.slice A n c] wr fun e w'=>e=.returned (.bool (ah p.path.xs l))/\Below wr.heap.size wr w'):=qD fun wr hb=>eG p.path.xs l p.path.A A p.path.n p.path.c n c wr (hw.open.path.step hb) (hl.step hb);rw[ee.2 hp] at HE;have HT:=qD hT;have HSZ:Hid (1<=p.sz):=by rw[Hid,p.Jx];omega
 have HN:=qD hn;clear hw hT hl hp hn;have B0:Hid (aE (w.alloc (.cells (aH p) 38)) w.heap.size 38 (aH p)):=aE.Jq rfl;have BE:=qD ((LH w.heap.size w).alloc (qL) (Obj.cells (aH p) 38));go_enter No,Ni;go_upto_region 1 with fail
 change Code.wp _ _ _ _ (w.alloc (.cells (aH p) 38));generalize w.alloc (.cells (aH p) 38)=wa at*;obtain⟨d0,d1,_,_,_,_,_,_⟩:=aS B0.out;rw[h] at d0;go_wp2_with fail;refine(HE.out _ BE.out).mono ?_;rintro e w1 ⟨rfl,hb⟩;replace BE:=qD (BE.out.Jp hb);replace B0:=qD (B0.out.step hb);clear hb d0 d1 HE;obtain⟨d0,_,_,_,_,d8,_,_⟩:=aS B0.out;rw[h] at d0;clear h;by_cases h6:p.n=6
 ·have HL:Hid (bZ 11 p.arg.2 (p.args.xs.map Prod.snd) p.n=(dV,false)):=qD (dH (by rw[h6];exact np));rw[h6] at d8;clear h6;go_wp2_with fail;refine(pa w1).mono ?_;rintro e w2 ⟨rfl,hb⟩;replace BE:=qD (BE.out.Jp hb);clear hb B0 d0 d8;go_upto_region 25 with fail
  change Code.wp _ _ _ _ (w2.alloc (.cells (aM zI) 84));replace BE:=qD (BE.out.alloc BE.out.size (Obj.cells (aM zI) 84));generalize w2.alloc (.cells (aM zI) 84)=w3 at*;go_wp2_with fail;refine(fZ _).mono ?_;rintro e w4 ⟨A3,m3,c3,ys,nf,rfl,hy,hnf,hmk,hsi,hb3,hfr⟩;have HNO:=qD (show dO (dV,false) 1 w3 (.returned (.tuple #[.slice A3 m3 c3,.bool false])) w4 from⟨A3,m3,c3,ys,nf,rfl,hy,hnf,hmk,hsi,hb3,hfr⟩);clear hy hnf hmk hsi hb3 hfr;go_wp2_with fail;go_ret2;rw[HL.out];exact HNO.out.up BE.out HSZ.out
 ·have HL:Hid (bZ 11 p.arg.2 (p.args.xs.map Prod.snd) p.n=((fun a=>dj ae a (aT ([ay p.n].map ar))),decide (p.n≠2))):=by
   rw[Hid,cI (pJ h6),Md,og HN.out h6]
  have KR:=qD (iw p.n w1 HN.out h6);clear h6;obtain⟨b2,hb2⟩:∃b,b=decide (p.n≠2):=⟨_,rfl⟩;rw[<-hb2] at HL;have k2:(p.n != 2)=b2:=by rw[hb2,Lg];simp
  clear hb2;have HQ:Hid (∀wq:World,iY wq (ay p.n)):=qD fun wq=>gX p.n wq;go_wp2_with fail;refine KR.out.mono ?_;obtain⟨q,hq⟩:∃q,q=ay p.n:=⟨_,rfl⟩;rw[<-hq] at HL HQ;rintro e w2 ⟨rfl,hb⟩;rw[<-hq];clear hq KR;replace BE:=qD (BE.out.Jp hb);replace B0:=qD (B0.out.step hb);clear hb d0 d8;go_upto_region 25 with fail
  change Code.wp _ _ _ _ (w2.alloc (.cells (aM q) 84));have J:Hid (aE (w2.alloc (.cells (aM q) 84)) w2.heap.size 84 (aM q)):=aE.Jq rfl;replace BE:=qD (BE.out.alloc BE.out.size (Obj.cells (aM q) 84));replace B0:=qD (B0.out.alloc (.cells (aM q) 84));generalize w2.alloc (.cells (aM q) 84)=w3 at*;generalize w2.heap.size=gj at*;obtain⟨_,_,_,_,_,d8,_,_⟩:=aS B0.out;go_upto_region 26 with fail
  have B:=qD ((LH w3.heap.size w3).drewN 1);obtain⟨⟨a0,a1,a2,a3,a4⟩,⟨b0,b1,b2',b3,b4⟩,b5,b6⟩:=cw.Jr J.out;simp only[LL] at a0 a1 a2 a3 a4 b0 b1 b2' b3 b4 b5 b6
  have KS:Hid (∀w',Below w3.heap.size w3 w'->(fun w'=>w'.cell? ⟨gj,0,none⟩=some (.int .i64 q.1.1.1.k)/\w'.cell? ⟨gj,1,none⟩=some (.int .i64 q.1.1.1.n)/\w'.cell? ⟨gj,2,none⟩=some (.string q.1.1.1.t)/\w'.cell? ⟨gj,3,none⟩=some (.slice q.1.1.1.LA q.1.1.1.ln q.1.1.1.lc)/\w'.cell? ⟨gj,4,none⟩=some (.slice q.1.1.1.DA q.1.1.1.dn q.1.1.1.dc)/\w'.cell? ⟨gj,5,none⟩=some (.int .i64 q.1.2.1.k)/\w'.cell? ⟨gj,6,none⟩=some (.int .i64 q.1.2.1.n)/\w'.cell? ⟨gj,7,none⟩=some (.string q.1.2.1.t)/\w'.cell? ⟨gj,8,none⟩=some (.slice q.1.2.1.LA q.1.2.1.ln q.1.2.1.lc)/\w'.cell? ⟨gj,9,none⟩=some (.slice q.1.2.1.DA q.1.2.1.dn q.1.2.1.dc)/\w'.cell? ⟨gj,10,none⟩=some (.bool q.2.1)/\w'.cell? ⟨gj,11,none⟩=some (.bool q.2.2)/\w'.cell? ⟨w.heap.size,8,none⟩=some (.int .i64 p.n)) w'):=qD fun w' hb=>⟨(hb.cell (p:=⟨gj,0,none⟩) J.out.lt).trans a0,(hb.cell (p:=⟨gj,1,none⟩) J.out.lt).trans a1,(hb.cell (p:=⟨gj,2,none⟩) J.out.lt).trans a2,(hb.cell (p:=⟨gj,3,none⟩) J.out.lt).trans a3,(hb.cell (p:=⟨gj,4,none⟩) J.out.lt).trans a4,(hb.cell (p:=⟨gj,5,none⟩) J.out.lt).trans b0,(hb.cell (p:=⟨gj,6,none⟩) J.out.lt).trans b1,(hb.cell (p:=⟨gj,7,none⟩) J.out.lt).trans b2',(hb.cell (p:=⟨gj,8,none⟩) J.out.lt).trans b3,(hb.cell (p:=⟨gj,9,none⟩) J.out.lt).trans b4,(hb.cell (p:=⟨gj,10,none⟩) J.out.lt).trans b5,(hb.cell (p:=⟨gj,11,none⟩) J.out.lt).trans b6,(hb.cell (p:=⟨w.heap.size,8,none⟩) B0.out.lt).trans d8⟩;clear a0 a1 a2 a3 a4 b0 b1 b2' b3 b4 b5 b6 d8
  go_region_held3 (fun w'=>w'.cell? ⟨gj,0,none⟩=some (.int .i64 q.1.1.1.k)/\w'.cell? ⟨gj,1,none⟩=some (.int .i64 q.1.1.1.n)/\w'.cell? ⟨gj,2,none⟩=some (.string q.1.1.1.t)/\w'.cell? ⟨gj,3,none⟩=some (.slice q.1.1.1.LA q.1.1.1.ln q.1.1.1.lc)/\w'.cell? ⟨gj,4,none⟩=some (.slice q.1.1.1.DA q.1.1.1.dn q.1.1.1.dc)/\w'.cell? ⟨gj,5,none⟩=some (.int .i64 q.1.2.1.k)/\w'.cell? ⟨gj,6,none⟩=some (.int .i64 q.1.2.1.n)/\w'.cell? ⟨gj,7,none⟩=some (.string q.1.2.1.t)/\w'.cell? ⟨gj,8,none⟩=some (.slice q.1.2.1.LA q.1.2.1.ln q.1.2.1.lc)/\w'.cell? ⟨gj,9,none⟩=some (.slice q.1.2.1.DA q.1.2.1.dn q.1.2.1.dc)/\w'.cell? ⟨gj,10,none⟩=some (.bool q.2.1)/\w'.cell? ⟨gj,11,none⟩=some (.bool q.2.2)/\w'.cell? ⟨w.heap.size,8,none⟩=some (.int .i64 p.n))
   (first|exact KS.out _ B.out|exact KS.out _ (B.out.alloc B.out.size _)|((try dsimp only);assumption)|go_keep)
   ((go_at_call 96;refine(dt [q] _ 1 1 _ (HT.out.step (BE.out.Jp (B.out.alloc B.out.size _))) (fI (aE.Jq rfl) (HQ.out _)) (by omega)).mono ?_;rintro e3 w5 ⟨A3,m3,c3,ys,nf,rfl,hy,hnf,hmk,hsi,hb3,hfr⟩;have HNO:=qD (show dO ((fun a=>dj ae a (aT ([q].map ar))),b2) 1 _ (.returned (.tuple #[.slice A3 m3 c3,.bool b2])) w5 from⟨A3,m3,c3,ys,nf,rfl,hy,hnf,hmk,hsi,hb3,hfr⟩);replace HNO:=qD (HNO.out.up (B.out.alloc B.out.size _) (qL));replace B:=qD ((B.out.alloc B.out.size _).Jp hb3);clear hy hnf hmk hsi hb3 hfr))
  all_goals
   go_wp2_with fail;go_ret2;rw[HL.out];exact HNO.out.up BE.out HSZ.out
theorem nN{w:World}{g:Nat}{cs:Array Value}(h:aE w g 84 cs)(hz:cs.size=12):(Instr.loadAt 84 (.pointer (some ⟨g,0,none⟩))).run prog w=.ok (.agg cs) w:=by
 simp only[Instr.loadAt,Instr.sureAddr,Ng,OI,NT,tM h hz]
theorem Gr(p:ao)(ho:p.op=4\/p.op=5\/p.op=6\/p.op=7)(hv:aO p.arg.2=true)(A:Option Addr)(n c:Nat)(l:List ByteArray)(w:World)(hw:WP w p)(hT:cg w)(hl:ST w A n c l)(hp:p.path.xs=l):
 Calls prog 36 #[am p,.slice A n c] w (dO (bZ p.op p.arg.2 (p.args.xs.map Prod.snd) p.n) p.sz w):=by
 have HE:Hid (∀wr,Below w.heap.size w wr->Calls prog 92 #[.slice p.path.A p.path.n p.path.c,.slice A n c] wr fun e w'=>e=.returned (.bool (ah p.path.xs l))/\Below wr.heap.size wr w'):=qD fun wr hb=>eG p.path.xs l p.path.A A p.path.n p.path.c n c wr (hw.open.path.step hb) (hl.step hb);rw[ee.2 hp] at HE;have HT:=qD hT;have HSZ:Hid (1<=p.sz):=by rw[Hid,p.Jx];omega
 have HX:=qD hw.open.arg;have HK:Hid (p.arg.1.k=p.arg.2.k):=qD hw.open.arg.open.k;have HN:Hid (1<=p.arg.1.k/\p.arg.1.k<=11):=by rw[HK.out];exact qD (iV hv)
 have HO:=qD ho;clear hw hT hl hp hv;have B0:Hid (aE (w.alloc (.cells (aH p) 38)) w.heap.size 38 (aH p)):=aE.Jq rfl;have BE:=qD ((LH w.heap.size w).alloc (qL) (Obj.cells (aH p) 38));go_enter No,Ni;go_upto_region 1 with fail
 change Code.wp _ _ _ _ (w.alloc (.cells (aH p) 38));generalize w.alloc (.cells (aH p) 38)=wa at*;obtain⟨d0,d1,_,_,_,_,_,_⟩:=aS B0.out;obtain⟨op,hop⟩:∃op,op=p.op:=⟨_,rfl⟩;rw[<-hop] at d0 ho;have HOP:=qD hop;clear hop;rcases ho with rfl|rfl|rfl|rfl
 all_goals
  go_wp2_with fail;refine(HE.out _ BE.out).mono ?_;rintro e w1 ⟨rfl,hb⟩;replace BE:=qD (BE.out.Jp hb);replace B0:=qD (B0.out.step hb);clear hb d0 d1 HE;obtain⟨d0,_,_,_,_,_,_,_⟩:=aS B0.out;rw[<-HOP.out] at d0;have f2:=(aX B0.out) 0 _ rfl;simp only[Nat.reduceAdd] at f2;by_cases h6:p.arg.1.k=6
  ·have HL:Hid (bZ p.op p.arg.2 (p.args.xs.map Prod.snd) p.n=(dV,false)):=qD (dH (pI HO.out (by rw[<-HK.out];exact h6)));have K6:Hid (Calls prog 95 #[.int .i64 p.arg.1.k] w1 fun e w'=>e=.returned (.tuple #[cR zI,.bool false])/\Below w1.heap.size w1 w'):=by rw[h6];exact qD (pa w1)
   clear h6;go_wp2_with fail;refine K6.out.mono ?_;rintro e w2 ⟨rfl,hb⟩;replace BE:=qD (BE.out.Jp hb);clear hb B0 d0 f2;go_upto_region 17 with fail
   change Code.wp _ _ _ _ (w2.alloc (.cells (aM zI) 84));replace BE:=qD (BE.out.alloc BE.out.size (Obj.cells (aM zI) 84));generalize w2.alloc (.cells (aM zI) 84)=w3 at*;go_wp2_with fail;refine(fZ _).mono ?_;rintro e w4 ⟨A3,m3,c3,ys,nf,rfl,hy,hnf,hmk,hsi,hb3,hfr⟩;have HNO:=qD (show dO (dV,false) 1 w3 (.returned (.tuple #[.slice A3 m3 c3,.bool false])) w4 from⟨A3,m3,c3,ys,nf,rfl,hy,hnf,hmk,hsi,hb3,hfr⟩);clear hy hnf hmk hsi hb3 hfr;go_wp2_with fail;go_ret2;rw[HL.out];exact HNO.out.up BE.out HSZ.out
  ·have KR:=qD (iw p.arg.1.k w1 HN.out h6);have HQI:Hid (ar (ay p.arg.1.k)=cd p.arg.2.k):=by rw[Hid,og HN.out h6,HK.out]
   have HQO:Hid (∀wq:World,iY wq (ay p.arg.1.k)):=qD fun wq=>gX _ wq
   have HL:Hid (bZ p.op p.arg.2 (p.args.xs.map Prod.snd) p.n=((fun a=>dj ae a (aT ([kM p.op (ay p.arg.1.k) p.arg].map ar))),decide (p.arg.2.k≠2))):=by
    rw[Hid,cI (rQ HO.out (by rw[<-HK.out];exact h6)),Md];rw[show ar (kM p.op (ay p.arg.1.k) p.arg)=ud p.op p.arg.2 from zr (x:=p.arg.2) (c:=p.arg.1) HQI.out]
   clear h6;obtain⟨b2,hb2⟩:∃b,b=decide (p.arg.2.k≠2):=⟨_,rfl⟩;rw[<-hb2] at HL;have k2:(p.arg.1.k != 2)=b2:=by rw[hb2,HK.out,Lg];simp
   clear hb2;go_wp2_with fail;refine KR.out.mono ?_;obtain⟨q,hq⟩:∃q,q=ay p.arg.1.k:=⟨_,rfl⟩;rw[<-hq] at HL HQO;rintro e w2 ⟨rfl,hb⟩;rw[<-hq];clear hq KR HQI
   have HQ:Hid (∀wq:World,Below w.heap.size w wq->iY wq (kM p.op q p.arg)):=qD fun wq hb=>by
    unfold kM;split
    ·exact⟨HX.out.step hb,(HQO.out wq).2⟩
    ·exact⟨(HQO.out wq).1,HX.out.step hb⟩
   replace BE:=qD (BE.out.Jp hb);replace B0:=qD (B0.out.step hb);clear hb d0 f2;go_upto_region 17 with fail
   change Code.wp _ _ _ _ (w2.alloc (.cells (aM q) 84));have J:Hid (aE (w2.alloc (.cells (aM q) 84)) w2.heap.size 84 (aM q)):=aE.Jq rfl;replace BE:=qD (BE.out.alloc BE.out.size (Obj.cells (aM q) 84));replace B0:=qD (B0.out.alloc (.cells (aM q) 84));generalize w2.alloc (.cells (aM q) 84)=w3 at*;generalize w2.heap.size=gj at*;have f2:=(aX B0.out) 0 _ rfl;simp only[Nat.reduceAdd] at f2;go_upto_region 18 with fail
   have B:=qD ((LH w3.heap.size w3).drew);have KS:Hid (∀w',Below w3.heap.size w3 w'->(fun w'=>(Instr.loadAt 84 (.pointer (some ⟨gj,0,none⟩))).run prog w'=.ok (cR q) w'/\(Instr.loadAt 38 (.pointer (some ⟨w.heap.size,0,none⟩))).run prog w'=.ok (am p) w'/\w'.cell? ⟨w.heap.size,2,none⟩=some (.int .i64 p.arg.1.k)) w'):=qD fun w' hb=>⟨nN (J.out.step hb) rfl,gq (aH p) rfl _ _ (B0.out.step hb),(hb.cell (p:=⟨w.heap.size,2,none⟩) B0.out.lt).trans f2⟩;clear f2;refine MX ?_;refine ML (S:=(fun w'=>(Instr.loadAt 84 (.pointer (some ⟨gj,0,none⟩))).run prog w'=.ok (cR q) w'/\(Instr.loadAt 38 (.pointer (some ⟨w.heap.size,0,none⟩))).run prog w'=.ok (am p) w'/\w'.cell? ⟨w.heap.size,2,none⟩=some (.int .i64 p.arg.1.k))) (by kernel_rfl) ?_ (fun hHeld=>?_)
   ·(try dsimp only);exact KS.out _ B.out
   refine rT (v:=cR q) 0 rfl ?_ ?_
   (skip)
   ·intro w' hSw;exact cM (p:=.pointer (some ⟨gj,0,none⟩)) rfl rfl hSw.1
   try go_frame
   refine rT (v:=am p) 1 rfl ?_ ?_
   (skip)
   ·intro w' hSw;exact cM (p:=.pointer (some ⟨w.heap.size,0,none⟩)) rfl rfl hSw.2.1
   try go_frame
   refine rT (v:=?_) 5 rfl ?_ ?_;rotate_left
   ·intro w' hSw;(try dsimp only at hSw);obtain⟨_,_,hSw2⟩:=hSw;go_simp;(try with_reducible rfl)
   try go_frame
   refine rT (v:=?_) 6 rfl ?_ ?_;rotate_left
   ·intro w' hSw;(try dsimp only at hSw);obtain⟨_,_,hSw2⟩:=hSw;go_simp;(try with_reducible rfl)
   try go_frame
   refine rT (v:=?_) 7 rfl ?_ ?_;rotate_left
   ·intro w' hSw;(try dsimp only at hSw);obtain⟨_,_,hSw2⟩:=hSw;go_simp;(try with_reducible rfl)
   try go_frame
   refine rT (v:=?_) 8 rfl ?_ ?_;rotate_left
   ·intro w' hSw;(try dsimp only at hSw);obtain⟨_,_,hSw2⟩:=hSw;go_simp;(try with_reducible rfl)
   try go_frame
   refine rY 2 rfl fun K hK=>?_;go_simp;refine((um q p _ HO.out)).mono ?_;rintro e4 w4 ⟨rfl,hb⟩;replace B:=qD (B.out.Jp hb);clear hb
   (try go_wp2_with fail)
   clear hHeld;refine hK.out _ _ ?_ fun hHeld=>?_
   ·(try dsimp only);exact KS.out _ B.out
   clear hK K
   try go_frame
   refine rY 3 rfl fun K hK=>?_;go_simp;clear hHeld;refine hK.out _ _ ?_ fun hHeld=>?_
   ·(try dsimp only);exact KS.out _ (B.out.alloc B.out.size _)
   clear hK K
   try go_frame
   refine rY 4 rfl fun K hK=>?_;go_simp;refine(dt [kM p.op q p.arg] _ 1 1 _ (HT.out.step (BE.out.Jp (B.out.alloc B.out.size _))) (fI (aE.Jq rfl) (HQ.out _ (BE.out.Jp (B.out.alloc B.out.size _)))) (by omega)).mono ?_;rintro e3 w5 ⟨A3,m3,c3,ys,nf,rfl,hy,hnf,hmk,hsi,hb3,hfr⟩;have HNO:=qD (show dO ((fun a=>dj ae a (aT ([kM p.op q p.arg].map ar))),b2) 1 _ (.returned (.tuple #[.slice A3 m3 c3,.bool b2])) w5 from⟨A3,m3,c3,ys,nf,rfl,hy,hnf,hmk,hsi,hb3,hfr⟩);replace HNO:=qD (HNO.out.up (B.out.alloc B.out.size _) (qL));replace B:=qD ((B.out.alloc B.out.size _).Jp hb3);clear hy hnf hmk hsi hb3 hfr
   (try go_wp2_with fail)
   clear hHeld;refine hK.out _ _ ?_ fun hHeld=>?_
   ·(try dsimp only);exact KS.out _ B.out
   clear hK K
   try go_frame
   refine rT (v:=?_) 9 rfl ?_ ?_;rotate_left
   ·intro w' hSw;(try dsimp only at hSw);obtain⟨_,_,hSw2⟩:=hSw;go_simp;(try with_reducible rfl)
   try go_frame
   refine rT (v:=?_) 10 rfl ?_ ?_;rotate_left
   ·intro w' hSw;(try dsimp only at hSw);obtain⟨_,_,hSw2⟩:=hSw;go_simp;(try with_reducible rfl)
   try go_frame
   refine rD ?_ _;refine Mf ?_;clear hHeld;go_wp2_with fail;go_ret2;rw[HL.out];exact HNO.out.up BE.out HSZ.out
def lS(r:iH)(k:Nat)(w:World)(e:Ending)(w':World):Prop:=
 ∃(A:Option Addr) (m c:Nat) (ys:List PI) (nf:List (cA×cA)),e=.returned (.tuple #[.slice A m c,.bool r.2])/\ys.map ar=nf.map dr/\fg r.1 nf/\m<=k/\SI w' A m c ys/\Below w.heap.size w w'
theorem lS.up{r:iH}{k k':Nat}{w0 w w':World}{e:Ending}(h:lS r k w e w')(hb:Below w0.heap.size w0 w)(hk:k<=k'):lS r k' w0 e w':=by
 obtain⟨A,m,c,ys,nf,h1,h2,h3,h4,h5,h6⟩:=h;exact⟨A,m,c,ys,nf,h1,h2,h3,Lt h4 hk,h5,hb.Jp h6⟩
def qu(xs:List PV)(k:Int):Bool:=xs.any fun x=>x.1.k==k
theorem pb{xs:List PV}{k:Int}(h:qu xs k=false):∀x∈xs,x.1.k≠k:=by
 intro x hx e;have:qu xs k=true:=OD.2 ⟨x,hx,by simp[e]⟩;rw[h] at this;cases this
theorem rh{xs:List PV}{k:Int}(h:qu xs k=true):∃x∈xs,x.1.k=k:=by
 obtain⟨x,hx,e⟩:=OD.1 h;exact⟨x,hx,by simpa using e⟩
theorem pd(xs:List PV)(A:Option Addr)(n c:Nat)(k:Int)(w:World)(h:SL (fun _=>True) w A n c xs):
 Calls prog 216 #[.slice A n c,.int .i64 k] w fun e w'=>e=.returned (.bool (qu xs k))/\Below w.heap.size w w':=by
 have hz:n<=140737488355328:=by have:=h.sz;unfold aF at this;omega
 have H:=qD h;have HL:=qD h.sr.ln;clear h;go_enter func216,ntmps216;go_upto_region 2 with fail
 go_loopw [5] (fun v wr=>∃i:Nat,i<=n/\v=.int .i64 i/\qu xs k=qu (xs.drop i) k/\Below w.heap.size w wr) (fun v _=>n-(intOf v).toNat)
 ·exact⟨0,LQ _,rfl,rfl,LH _ _⟩
 case round=>
  obtain⟨i,hi,rfl,ha,hbel⟩:=hrel;have HA:=qD ha;have HB:=qD hbel;clear ha hbel;by_cases hlt:i<n
  ·obtain⟨x,hx⟩:∃x,xs[i]?=some x:=⟨_,LI (by have:=HL.out;omega)⟩;obtain⟨b,off,rfl,_,hu,_⟩:=H.out.KE hx
   have HX:Hid (qu (xs.drop i) k=((x.1.k==k)||qu (xs.drop (i+1)) k)):=by
    rw[Hid,bM hx];rfl
   obtain⟨y0,_,_,_,_⟩:=hu.keep (HB.out.block b hu.lt);have i0:(0:Int)<=(i:Int):=by omega
   have i1:(i:Int)<(n:Int):=by omega
   obtain⟨q,hq⟩:∃q,(x.1.k==k)=q:=⟨_,rfl⟩;rw[hq] at HX;clear hx hu;cases q
   ·go_wp2_with fail;go_roundw
    ·exact⟨i+1,by omega,by go_num,by rw[HA.out,HX.out];rfl,HB.out⟩
    ·simp[intOf];omega
   ·go_wp2_with fail;go_ret;exact⟨by rw[HA.out,HX.out];rfl,HB.out⟩
  ·obtain rfl:i=n:=by omega
   go_wp2_with fail;go_ret;exact⟨by rw[HA.out,La (by have:=HL.out;omega)];rfl,HB.out⟩
theorem DT(p:ao)(h:p.op≠2/\p.op≠4/\p.op≠5/\p.op≠6/\p.op≠7/\p.op≠8/\p.op≠16/\p.op≠11)(w:World):
 Calls prog 176 #[am p] w (lS (bZ p.op p.arg.2 (p.args.xs.map Prod.snd) p.n) (p.args.n+1) w):=by
 have HL:Hid (bZ p.op p.arg.2 (p.args.xs.map Prod.snd) p.n=(dV,false)):=qD (dH (kH (by omega)));have B0:Hid (aE (w.alloc (.cells (aH p) 38)) w.heap.size 38 (aH p)):=aE.Jq rfl;have BE:=qD ((LH w.heap.size w).alloc (qL) (Obj.cells (aH p) 38));go_enter PB,Oc;go_upto_region 1 with fail
 change Code.wp _ _ _ _ (w.alloc (.cells (aH p) 38));generalize w.alloc (.cells (aH p) 38)=wa at*;obtain⟨d0,-,-,-,d7,d8,-,-⟩:=aS B0.out;have f2:=(aX B0.out) 0 _ rfl;simp only[Nat.reduceAdd] at f2;obtain⟨h3,h4,h5,h6,h7,h8,h9,h10⟩:=h;have g3:(p.op==2)=false:=by simpa using h3
 have g4:(p.op==4)=false:=by simpa using h4
 have g5:(p.op==5)=false:=by simpa using h5
 have g6:(p.op==6)=false:=by simpa using h6
 have g7:(p.op==7)=false:=by simpa using h7
 have g8:(p.op==8)=false:=by simpa using h8
 have g9:(p.op==16)=false:=by simpa using h9
 have g10:(p.op==11)=false:=by simpa using h10
 clear h3 h4 h5 h6 h7 h8 h9 h10;go_wp2_with fail;refine(fA _).mono ?_;rintro e w9 ⟨A3,m3,c3,ys,nf,rfl,hy,hnf,hmk,hsi,hb3⟩;have HNO:=qD (show lS (dV,false) 1 wa (.returned (.tuple #[.slice A3 m3 c3,.bool false])) w9 from⟨A3,m3,c3,ys,nf,rfl,hy,hnf,hmk,hsi,hb3⟩);clear hy hnf hmk hsi hb3;go_wp2_with fail;go_ret2;rw[HL.out];exact HNO.out.up BE.out (by omega)
theorem IN(p:ao)(h:p.op=2)(hv:aO p.arg.2=true)(w:World)(hw:WP w p):
 Calls prog 176 #[am p] w (lS (bZ p.op p.arg.2 (p.args.xs.map Prod.snd) p.n) (p.args.n+1) w):=by
 have HX:=qD hw.open.arg;have HK:Hid (p.arg.1.k=p.arg.2.k):=qD hw.open.arg.open.k;have HV:=qD hv;clear hw hv;have B0:Hid (aE (w.alloc (.cells (aH p) 38)) w.heap.size 38 (aH p)):=aE.Jq rfl;have BE:=qD ((LH w.heap.size w).alloc (qL) (Obj.cells (aH p) 38));go_enter PB,Oc;go_upto_region 1 with fail
 change Code.wp _ _ _ _ (w.alloc (.cells (aH p) 38));generalize w.alloc (.cells (aH p) 38)=wa at*;obtain⟨d0,-,-,-,d7,d8,-,-⟩:=aS B0.out;have f2:=(aX B0.out) 0 _ rfl;simp only[Nat.reduceAdd] at f2;rw[h] at d0;have HOPH:=qD h;clear h;by_cases h6:p.arg.1.k=6
 ·have HL:Hid (bZ 2 p.arg.2 (p.args.xs.map Prod.snd) p.n=(dV,false)):=qD (dH (rP (by rw[<-HK.out];exact h6)));rw[h6] at f2;clear h6;go_wp2_with fail;refine(fA _).mono ?_;rintro e w9 ⟨A3,m3,c3,ys,nf,rfl,hy,hnf,hmk,hsi,hb3⟩;have HNO:=qD (show lS (dV,false) 1 wa (.returned (.tuple #[.slice A3 m3 c3,.bool false])) w9 from⟨A3,m3,c3,ys,nf,rfl,hy,hnf,hmk,hsi,hb3⟩);clear hy hnf hmk hsi hb3;go_wp2_with fail;go_ret2;rw[HOPH.out,HL.out];exact HNO.out.up BE.out (by omega)
 ·have h6':(p.arg.1.k != 6)=true:=by simpa using h6
  obtain⟨b2,hb2⟩:∃b,b=decide (p.arg.2.k≠2):=⟨_,rfl⟩
  have HL:Hid (bZ 2 p.arg.2 (p.args.xs.map Prod.snd) p.n=((fun a=>dj ae a (aT [eM p.arg.2])),b2)):=by
   rw[Hid,cI (ui (by rw[<-HK.out];exact h6)),hb2]
  have k2:(p.arg.1.k != 2)=b2:=by rw[hb2,HK.out,Lg];simp
  have f3:=(aX B0.out) 1 _ rfl;have f4:=(aX B0.out) 2 _ rfl;have f5:=(aX B0.out) 3 _ rfl;have f6:=(aX B0.out) 4 _ rfl;simp only[Nat.reduceAdd] at f3 f4 f5 f6;clear h6 hb2;go_upto_region 4 with fail
  have B:=qD ((LH wa.heap.size wa).drew);have KS:Hid (∀w',Below wa.heap.size wa w'->(fun w'=>w'.cell? ⟨w.heap.size,2,none⟩=some (.int .i64 p.arg.1.k)/\w'.cell? ⟨w.heap.size,3,none⟩=some (.int .i64 p.arg.1.n)/\w'.cell? ⟨w.heap.size,4,none⟩=some (.string p.arg.1.t)/\w'.cell? ⟨w.heap.size,5,none⟩=some (.slice p.arg.1.LA p.arg.1.ln p.arg.1.lc)/\w'.cell? ⟨w.heap.size,6,none⟩=some (.slice p.arg.1.DA p.arg.1.dn p.arg.1.dc)) w'):=qD fun w' hb=>⟨(hb.cell (p:=⟨w.heap.size,2,none⟩) B0.out.lt).trans f2,(hb.cell (p:=⟨w.heap.size,3,none⟩) B0.out.lt).trans f3,(hb.cell (p:=⟨w.heap.size,4,none⟩) B0.out.lt).trans f4,(hb.cell (p:=⟨w.heap.size,5,none⟩) B0.out.lt).trans f5,(hb.cell (p:=⟨w.heap.size,6,none⟩) B0.out.lt).trans f6⟩;clear f2 f3 f4 f5 f6 d0 d7 d8;refine MX ?_;refine ML (S:=(fun w'=>w'.cell? ⟨w.heap.size,2,none⟩=some (.int .i64 p.arg.1.k)/\w'.cell? ⟨w.heap.size,3,none⟩=some (.int .i64 p.arg.1.n)/\w'.cell? ⟨w.heap.size,4,none⟩=some (.string p.arg.1.t)/\w'.cell? ⟨w.heap.size,5,none⟩=some (.slice p.arg.1.LA p.arg.1.ln p.arg.1.lc)/\w'.cell? ⟨w.heap.size,6,none⟩=some (.slice p.arg.1.DA p.arg.1.dn p.arg.1.dc))) (by kernel_rfl) ?_ (fun hHeld=>?_)
  ·(try dsimp only);exact KS.out _ B.out
  refine rT (v:=?_) 0 rfl ?_ ?_;rotate_left
  ·intro w' hSw;(try dsimp only at hSw);obtain⟨hSw2,hSw3,hSw4,hSw5,hSw6⟩:=hSw;go_simp;(try with_reducible rfl)
  try go_frame
  refine rT (v:=?_) 1 rfl ?_ ?_;rotate_left
  ·intro w' hSw;(try dsimp only at hSw);obtain⟨hSw2,hSw3,hSw4,hSw5,hSw6⟩:=hSw;go_simp;(try with_reducible rfl)
  try go_frame
  refine rT (v:=?_) 2 rfl ?_ ?_;rotate_left
  ·intro w' hSw;(try dsimp only at hSw);obtain⟨hSw2,hSw3,hSw4,hSw5,hSw6⟩:=hSw;go_simp;(try with_reducible rfl)
  try go_frame
  refine rT (v:=?_) 3 rfl ?_ ?_;rotate_left
  ·intro w' hSw;(try dsimp only at hSw);obtain⟨hSw2,hSw3,hSw4,hSw5,hSw6⟩:=hSw;go_simp;(try with_reducible rfl)
  try go_frame
  refine rT (v:=?_) 4 rfl ?_ ?_;rotate_left
  ·intro w' hSw;(try dsimp only at hSw);obtain⟨hSw2,hSw3,hSw4,hSw5,hSw6⟩:=hSw;go_simp;(try with_reducible rfl)
  try go_frame
  refine rT (v:=?_) 6 rfl ?_ ?_;rotate_left
  ·intro w' hSw;(try dsimp only at hSw);obtain⟨hSw2,hSw3,hSw4,hSw5,hSw6⟩:=hSw;go_simp;(try with_reducible rfl)
  try go_frame
  refine rT (v:=?_) 7 rfl ?_ ?_;rotate_left
  ·intro w' hSw;(try dsimp only at hSw);obtain⟨hSw2,hSw3,hSw4,hSw5,hSw6⟩:=hSw;go_simp;(try with_reducible rfl)
  try go_frame
  refine rT (v:=?_) 8 rfl ?_ ?_;rotate_left
  ·intro w' hSw;(try dsimp only at hSw);obtain⟨hSw2,hSw3,hSw4,hSw5,hSw6⟩:=hSw;go_simp;(try with_reducible rfl)
  try go_frame
  refine rT (v:=?_) 9 rfl ?_ ?_;rotate_left
  ·intro w' hSw;(try dsimp only at hSw);obtain⟨hSw2,hSw3,hSw4,hSw5,hSw6⟩:=hSw;go_simp;(try with_reducible rfl)
  try go_frame
  refine rY 5 rfl fun K hK=>?_;go_simp;clear hHeld;refine hK.out _ _ ?_ fun hHeld=>?_
  ·(try dsimp only);exact KS.out _ (B.out.alloc B.out.size _)
  clear hK K
  try go_frame
  refine rT (v:=?_) 10 rfl ?_ ?_;rotate_left
  ·intro w' hSw;(try dsimp only at hSw);obtain⟨hSw2,hSw3,hSw4,hSw5,hSw6⟩:=hSw;go_simp;(try with_reducible rfl)
  try go_frame
  refine rT (v:=?_) 11 rfl ?_ ?_;rotate_left
  ·intro w' hSw;(try dsimp only at hSw);obtain⟨hSw2,hSw3,hSw4,hSw5,hSw6⟩:=hSw;go_simp;(try with_reducible rfl)
  try go_frame
  refine rD ?_ _;refine Mf ?_;clear hHeld;go_wp2_with fail;go_ret2;rw[HOPH.out,HL.out];exact⟨_,1,1,[yN p.arg],_,rfl,rfl,GP HV.out,by omega,fI (aE.Jq rfl) ⟨HX.out.step (BE.out.Jp (B.out.alloc B.out.size _)),HX.out.step (BE.out.Jp (B.out.alloc B.out.size _))⟩,BE.out.Jp (B.out.alloc B.out.size _)⟩
theorem Gs(p:ao)(ho:p.op=4\/p.op=5\/p.op=6\/p.op=7)(hv:aO p.arg.2=true)(w:World)(hw:WP w p):
 Calls prog 176 #[am p] w (lS (bZ p.op p.arg.2 (p.args.xs.map Prod.snd) p.n) (p.args.n+1) w):=by
 have HX:=qD hw.open.arg;have HK:Hid (p.arg.1.k=p.arg.2.k):=qD hw.open.arg.open.k;have HN:Hid (1<=p.arg.1.k/\p.arg.1.k<=11):=by rw[HK.out];exact qD (iV hv)
 have HO:=qD ho;clear hw hv;have B0:Hid (aE (w.alloc (.cells (aH p) 38)) w.heap.size 38 (aH p)):=aE.Jq rfl;have BE:=qD ((LH w.heap.size w).alloc (qL) (Obj.cells (aH p) 38));go_enter PB,Oc;go_upto_region 1 with fail
 change Code.wp _ _ _ _ (w.alloc (.cells (aH p) 38));generalize w.alloc (.cells (aH p) 38)=wa at*;obtain⟨d0,-,-,-,d7,d8,-,-⟩:=aS B0.out;have f2:=(aX B0.out) 0 _ rfl;simp only[Nat.reduceAdd] at f2;obtain⟨op,hop⟩:∃op,op=p.op:=⟨_,rfl⟩;rw[<-hop] at d0 ho;have HOP:=qD hop;clear hop;by_cases h6:p.arg.1.k=6
 ·have HL:Hid (bZ p.op p.arg.2 (p.args.xs.map Prod.snd) p.n=(dV,false)):=qD (dH (pI HO.out (by rw[<-HK.out];exact h6)));rw[h6] at f2;clear h6;rcases ho with rfl|rfl|rfl|rfl
  all_goals
   go_wp2_with fail;refine(fA _).mono ?_;rintro e w9 ⟨A3,m3,c3,ys,nf,rfl,hy,hnf,hmk,hsi,hb3⟩;have HNO:=qD (show lS (dV,false) 1 wa (.returned (.tuple #[.slice A3 m3 c3,.bool false])) w9 from⟨A3,m3,c3,ys,nf,rfl,hy,hnf,hmk,hsi,hb3⟩);clear hy hnf hmk hsi hb3;go_wp2_with fail;go_ret2;rw[HL.out];exact HNO.out.up BE.out (by omega)
 ·have h6':(p.arg.1.k != 6)=true:=by simpa using h6
  have HQI:Hid (ar (ay p.arg.1.k)=cd p.arg.2.k):=by rw[Hid,og HN.out h6,HK.out]
  have H6:=qD h6;obtain⟨q,hq⟩:∃q,q=kM p.op (ay p.arg.1.k) p.arg:=⟨_,rfl⟩;have HQE:=qD hq
  have HL:Hid (bZ p.op p.arg.2 (p.args.xs.map Prod.snd) p.n=((fun a=>dj ae a (aT ([q].map ar))),decide (p.arg.2.k≠2))):=by
   rw[Hid,cI (rQ HO.out (by rw[<-HK.out];exact h6)),Md,hq];rw[show ar (kM p.op (ay p.arg.1.k) p.arg)=ud p.op p.arg.2 from zr (x:=p.arg.2) (c:=p.arg.1) HQI.out]
  have HQ:Hid (∀wq:World,Below w.heap.size w wq->iY wq q):=qD fun wq hb=>by
   rw[hq];unfold kM;split
   ·exact⟨HX.out.step hb,(gX _ wq).2⟩
   ·exact⟨(gX _ wq).1,HX.out.step hb⟩
  obtain⟨b2,hb2⟩:∃b,b=decide (p.arg.2.k≠2):=⟨_,rfl⟩;rw[<-hb2] at HL;have k2:(p.arg.1.k != 2)=b2:=by rw[hb2,HK.out,Lg];simp
  clear h6 hb2 hq HQI;rcases ho with rfl|rfl|rfl|rfl
  all_goals
   go_upto_region 10 with fail
   have B:=qD ((LH wa.heap.size wa).drew);have KS:Hid (∀w',Below wa.heap.size wa w'->(fun w'=>(Instr.loadAt 38 (.pointer (some ⟨w.heap.size,0,none⟩))).run prog w'=.ok (am p) w'/\w'.cell? ⟨w.heap.size,2,none⟩=some (.int .i64 p.arg.1.k)) w'):=qD fun w' hb=>⟨gq (aH p) rfl _ _ (B0.out.step hb),(hb.cell (p:=⟨w.heap.size,2,none⟩) B0.out.lt).trans f2⟩;clear f2 d0 d7 d8;refine MX ?_;refine ML (S:=(fun w'=>(Instr.loadAt 38 (.pointer (some ⟨w.heap.size,0,none⟩))).run prog w'=.ok (am p) w'/\w'.cell? ⟨w.heap.size,2,none⟩=some (.int .i64 p.arg.1.k))) (by kernel_rfl) ?_ (fun hHeld=>?_)
   ·(try dsimp only);exact KS.out _ B.out
   refine rT (v:=am p) 0 rfl ?_ ?_
   (skip)
   ·intro w' hSw;exact cM (p:=.pointer (some ⟨w.heap.size,0,none⟩)) rfl rfl hSw.1
   try go_frame
   refine rT (v:=?_) 4 rfl ?_ ?_;rotate_left
   ·intro w' hSw;(try dsimp only at hSw);obtain⟨_,hSwc⟩:=hSw;go_simp;(try with_reducible rfl)
   try go_frame
   refine rT (v:=?_) 5 rfl ?_ ?_;rotate_left
   ·intro w' hSw;(try dsimp only at hSw);obtain⟨_,hSwc⟩:=hSw;go_simp;(try with_reducible rfl)
   try go_frame
   refine rT (v:=?_) 6 rfl ?_ ?_;rotate_left
   ·intro w' hSw;(try dsimp only at hSw);obtain⟨_,hSwc⟩:=hSw;go_simp;(try with_reducible rfl)
   try go_frame
   refine rT (v:=?_) 7 rfl ?_ ?_;rotate_left
   ·intro w' hSw;(try dsimp only at hSw);obtain⟨_,hSwc⟩:=hSw;go_simp;(try with_reducible rfl)
   try go_frame
   refine rY 1 rfl fun K hK=>?_;go_simp;refine(oU p _ HO.out HN.out H6.out).mono ?_;rintro e4 w4 ⟨rfl,hb⟩;replace B:=qD (B.out.Jp hb);clear hb;rw[<-HQE.out]
   (try go_wp2_with fail)
   clear hHeld;refine hK.out _ _ ?_ fun hHeld=>?_
   ·(try dsimp only);exact KS.out _ B.out
   clear hK K
   try go_frame
   refine rY 2 rfl fun K hK=>?_;go_simp;clear hHeld;refine hK.out _ _ ?_ fun hHeld=>?_
   ·(try dsimp only);exact KS.out _ (B.out.alloc B.out.size _)
   clear hK K
   try go_frame
   refine rY 3 rfl fun K hK=>?_;go_simp;refine(eY [q] _ 1 1 _ (fI (aE.Jq rfl) (HQ.out _ (BE.out.Jp (B.out.alloc B.out.size _)))) (by omega)).mono ?_;rintro e3 w5 ⟨A3,m3,c3,ys,nf,rfl,hy,hnf,hmk,hsi,hb3⟩;have HNO:=qD (show lS ((fun a=>dj ae a (aT ([q].map ar))),b2) 1 _ (.returned (.tuple #[.slice A3 m3 c3,.bool b2])) w5 from⟨A3,m3,c3,ys,nf,rfl,hy,hnf,hmk,hsi,hb3⟩);replace HNO:=qD (HNO.out.up (B.out.alloc B.out.size _) (qL));replace B:=qD ((B.out.alloc B.out.size _).Jp hb3);clear hy hnf hmk hsi hb3
   (try go_wp2_with fail)
   clear hHeld;refine hK.out _ _ ?_ fun hHeld=>?_
   ·(try dsimp only);exact KS.out _ B.out
   clear hK K
   try go_frame
   refine rT (v:=?_) 8 rfl ?_ ?_;rotate_left
   ·intro w' hSw;(try dsimp only at hSw);obtain⟨_,hSwc⟩:=hSw;go_simp;(try with_reducible rfl)
   try go_frame
   refine rT (v:=?_) 9 rfl ?_ ?_;rotate_left
   ·intro w' hSw;(try dsimp only at hSw);obtain⟨_,hSwc⟩:=hSw;go_simp;(try with_reducible rfl)
   try go_frame
   refine rD ?_ _;refine Mf ?_;clear hHeld;go_wp2_with fail;go_ret2;rw[HL.out];exact HNO.out.up BE.out (by omega)
theorem FU(p:ao)(h:p.op=11)(hn:1<=p.n/\p.n<=11)(w:World):
 Calls prog 176 #[am p] w (lS (bZ p.op p.arg.2 (p.args.xs.map Prod.snd) p.n) (p.args.n+1) w):=by
 have HN:=qD hn;clear hn;have B0:Hid (aE (w.alloc (.cells (aH p) 38)) w.heap.size 38 (aH p)):=aE.Jq rfl;have BE:=qD ((LH w.heap.size w).alloc (qL) (Obj.cells (aH p) 38));go_enter PB,Oc;go_upto_region 1 with fail
 change Code.wp _ _ _ _ (w.alloc (.cells (aH p) 38));generalize w.alloc (.cells (aH p) 38)=wa at*;obtain⟨d0,-,-,-,d7,d8,-,-⟩:=aS B0.out;have f2:=(aX B0.out) 0 _ rfl;simp only[Nat.reduceAdd] at f2;rw[h] at d0;have HOPH:=qD h;clear h;by_cases h6:p.n=6
 ·have HL:Hid (bZ 11 p.arg.2 (p.args.xs.map Prod.snd) p.n=(dV,false)):=by rw[h6];exact qD (dH np)
  rw[h6] at d8;clear h6;go_wp2_with fail;refine(fA _).mono ?_;rintro e w9 ⟨A3,m3,c3,ys,nf,rfl,hy,hnf,hmk,hsi,hb3⟩;have HNO:=qD (show lS (dV,false) 1 wa (.returned (.tuple #[.slice A3 m3 c3,.bool false])) w9 from⟨A3,m3,c3,ys,nf,rfl,hy,hnf,hmk,hsi,hb3⟩);clear hy hnf hmk hsi hb3;go_wp2_with fail;go_ret2;rw[HOPH.out,HL.out];exact HNO.out.up BE.out (by omega)
 ·have h6':(p.n != 6)=true:=by simpa using h6
  have H6:=qD h6;obtain⟨q,hq⟩:∃q,q=ay p.n:=⟨_,rfl⟩;have HQE:=qD hq
  have HL:Hid (bZ 11 p.arg.2 (p.args.xs.map Prod.snd) p.n=((fun a=>dj ae a (aT ([q].map ar))),decide (p.n≠2))):=by
   rw[Hid,cI (pJ h6),Md,hq,og HN.out h6]
  have HQ:Hid (∀wq:World,Below w.heap.size w wq->iY wq q):=qD fun wq hb=>by
   rw[hq];exact gX _ wq
  obtain⟨b2,hb2⟩:∃b,b=decide (p.n≠2):=⟨_,rfl⟩;rw[<-hb2] at HL;have k2:(p.n != 2)=b2:=by rw[hb2,Lg];simp
  clear h6 hb2 hq;go_upto_region 30 with fail
  have B:=qD ((LH wa.heap.size wa).drew);have KS:Hid (∀w',Below wa.heap.size wa w'->(fun w'=>w'.cell? ⟨w.heap.size,8,none⟩=some (.int .i64 p.n)) w'):=qD fun w' hb=>(hb.cell (p:=⟨w.heap.size,8,none⟩) B0.out.lt).trans d8;clear f2 d0 d7 d8;refine MX ?_;refine ML (S:=(fun w'=>w'.cell? ⟨w.heap.size,8,none⟩=some (.int .i64 p.n))) (by kernel_rfl) ?_ (fun hHeld=>?_)
  ·(try dsimp only);exact KS.out _ B.out
  refine rU 0 rfl ?_
  try go_frame
  refine rU 1 rfl ?_
  try go_frame
  refine rU 5 rfl ?_
  try go_frame
  refine rU 6 rfl ?_
  try go_frame
  refine rU 7 rfl ?_
  try go_frame
  refine rY 2 rfl fun K hK=>?_;go_simp;refine(lq p.n _ HN.out H6.out).mono ?_;rintro e4 w4 ⟨rfl,hb⟩;replace B:=qD (B.out.Jp hb);clear hb;rw[<-HQE.out]
  (try go_wp2_with fail)
  clear hHeld;refine hK.out _ _ ?_ fun hHeld=>?_
  ·(try dsimp only);exact KS.out _ B.out
  clear hK K
  try go_frame
  refine rY 3 rfl fun K hK=>?_;go_simp;clear hHeld;refine hK.out _ _ ?_ fun hHeld=>?_
  ·(try dsimp only);exact KS.out _ (B.out.alloc B.out.size _)
  clear hK K
  try go_frame
  refine rY 4 rfl fun K hK=>?_;go_simp;refine(eY [q] _ 1 1 _ (fI (aE.Jq rfl) (HQ.out _ (BE.out.Jp (B.out.alloc B.out.size _)))) (by omega)).mono ?_;rintro e3 w5 ⟨A3,m3,c3,ys,nf,rfl,hy,hnf,hmk,hsi,hb3⟩;have HNO:=qD (show lS ((fun a=>dj ae a (aT ([q].map ar))),b2) 1 _ (.returned (.tuple #[.slice A3 m3 c3,.bool b2])) w5 from⟨A3,m3,c3,ys,nf,rfl,hy,hnf,hmk,hsi,hb3⟩);replace HNO:=qD (HNO.out.up (B.out.alloc B.out.size _) (qL));replace B:=qD ((B.out.alloc B.out.size _).Jp hb3);clear hy hnf hmk hsi hb3
  (try go_wp2_with fail)
  clear hHeld;refine hK.out _ _ ?_ fun hHeld=>?_
  ·(try dsimp only);exact KS.out _ B.out
  clear hK K
  try go_frame
  refine rU 8 rfl ?_
  try go_frame
  refine rU 9 rfl ?_
  try go_frame
  refine rD ?_ _;refine Mf ?_;clear hHeld;go_wp2_with fail;go_ret2;rw[HOPH.out,HL.out];exact HNO.out.up BE.out (by omega)
theorem IP(p:ao)(h:p.op=8)(w:World)(hw:WP w p):
 Calls prog 176 #[am p] w (lS (bZ p.op p.arg.2 (p.args.xs.map Prod.snd) p.n) (p.args.n+1) w):=by
 obtain⟨i0,hi0,hz0,hz1,hz2⟩:=Mc fE;have HAR:=qD hw.open.args;have HLN:=qD hw.open.args.sr.ln;have HNZ:Hid (p.args.n<=1000000000):=by have:=hw.open.few;exact qD (by omega)
 have HKK:Hid (∀x∈p.args.xs,x.1.k=x.2.k):=qD fun x hx=>(hw.open.args.rv x hx).open.k;have haz:p.args.n<=1048576:=hw.open.few;clear hw;have B0:Hid (aE (w.alloc (.cells (aH p) 38)) w.heap.size 38 (aH p)):=aE.Jq rfl;have BE:=qD ((LH w.heap.size w).alloc (qL) (Obj.cells (aH p) 38));go_enter PB,Oc;go_upto_region 1 with fail
 change Code.wp _ _ _ _ (w.alloc (.cells (aH p) 38));generalize w.alloc (.cells (aH p) 38)=wa at*;obtain⟨d0,-,-,-,d7,d8,-,-⟩:=aS B0.out;have f2:=(aX B0.out) 0 _ rfl;simp only[Nat.reduceAdd] at f2;rw[h] at d0;have HOPH:=qD h;clear h;go_wp2_with fail;refine(pd p.args.xs _ _ _ 6 _ (HAR.out.step BE.out)).mono ?_;rintro e w1 ⟨rfl,hb⟩;replace B0:=qD (B0.out.step hb);replace BE:=qD (BE.out.Jp hb);clear hb d0 d7 d8 f2;cases hb6:qu p.args.xs 6
 ·have H6:=qD (pb hb6);clear hb6;obtain⟨b2,hb2⟩:∃b,qu p.args.xs 2=b:=⟨_,rfl⟩;have HB2:=qD hb2
  have HL:Hid (bZ 8 p.arg.2 (p.args.xs.map Prod.snd) p.n=((fun a=>dj ae a (aT ((p.args.xs.map yN).map ar))),!b2)):=by
   have e:(p.args.xs.map yN).map ar=(p.args.xs.map Prod.snd).map eM:=by rw[NU,NU];rfl
   rw[Hid,cI (un (b:=!b2) (fun x hx=>by rw[<-HKK.out x hx];exact H6.out x hx) ?_),e];rw[Pt];constructor
   ·rintro rfl x hx;rw[<-HKK.out x hx];exact pb hb2 x hx
   ·intro h;cases b2
    ·rfl
    ·obtain⟨x,hx,e⟩:=rh hb2;exact absurd ((HKK.out x hx).symm.trans e) (h x hx)
  clear hb2;go_upto_region 15 with fail
  go_loopw [4,5] (fun v4 v5 wr=>∃i:Nat,i<=p.args.n/\v5=.int .i64 i/\nz w1 v4 i ((p.args.xs.take i).map yN) wr) (fun _ v5 _=>p.args.n-(intOf v5).toNat)
  ·exact⟨0,LQ _,rfl,⟨bC _ _ _ _,LH _ _⟩⟩
  case round=>
   obtain⟨i,hi,rfl,I⟩:=hrel;have J:=qD I;have B5:=qD (B0.out.step I.bel);obtain⟨_,_,_,_,d7,_,_,_⟩:=aS B5.out;by_cases hlt:i<p.args.n
   ·obtain⟨x,hx⟩:∃x,p.args.xs[i]?=some x:=⟨_,LI (by have:=HLN.out;omega)⟩;have HT:Hid ((p.args.xs.take (i+1)).map yN=(p.args.xs.take i).map yN++[yN x]):=by unfold Hid;rw[take_snoc' hx,Lc];rfl
    obtain⟨b,off,eA,_,hu,hr⟩:=(HAR.out.step BE.out).KE hx;rw[eA] at d7;have hbr:b<wr.heap.size:=by have:=hu.lt;have:=I.bel.size;omega
    have hlo:w1.heap.size<=wr.heap.size:=I.bel.size;obtain⟨y0,y1,y2,y3,y4⟩:=hu.keep (I.bel.block b hu.lt);have i0':(0:Int)<=(i:Int):=by omega
    have i1':(i:Int)<(p.args.n:Int):=by omega
    have HEA:=qD eA;clear hx hu hr I eA;go_upto_region 17 with fail
    go_region_law ((refine dQ _ rfl (.tmp 58) (.tmp 70) 80 rfl w1.heap.size 84 i0 (cR (((VC.zero,aC.zero),(VC.zero,aC.zero)),(false,false))) 12 168 Ma hi0 hz0 hz1 hz2 rfl (by decide) u4 i (aJ ax ((p.args.xs.take i).map yN)) (by simp[Act.eval]) ((J.out.own.alloc _).drew) (wr.heap.size+1) (some ⟨wr.heap.size,0,none⟩) 1 1 (ax (yN x)) (by simp[Act.eval]) ⟨rfl,fun _=>⟨_,rfl,by simp,ap _ _ _⟩⟩ (fD _) (by simp only[maxLen];omega) (by omega) (by simp;omega) ?_;intro v' w' hown hgr hat))
    all_goals
     have HI:Hid (nz w1 v' (i+1) ((p.args.xs.take i).map yN++[yN x]) w'):=qD ((J.out.alloc _).drew.next (ys:=[yN x]) (by simp[aJ]) rfl hown hgr);rw[<-HT.out] at HI;clear hown hgr hat y0 y1 y2 y3 y4 i0' i1' J HT d7;go_wp2_with fail;go_roundw
     ·exact⟨i+1,by omega,by go_num,HI.out⟩
     ·simp[intOf];omega
   ·obtain rfl:i=p.args.n:=by omega
    have hps:p.args.xs.take p.args.n=p.args.xs:=LS (by have:=HLN.out;omega);rw[hps] at I
    obtain⟨A2,c2,rfl,hs⟩:=SI.Jt (xs:=p.args.xs.map yN) I.own (by rw[Lb];exact HLN.out.symm) (by unfold aF;omega) (fun x hx=>by
     obtain⟨q,hq,rfl⟩:=MS.1 hx
     have:=((HAR.out.rv q hq).step BE.out).step I.bel
     exact⟨this,this⟩)
    have HSI:=qD hs;replace BE:=qD (BE.out.Jp I.bel);clear hs I J hps B0;go_upto_region 18 with fail
    have B:=qD ((LH wr.heap.size wr).drew);have KS:Hid (∀w',Below wr.heap.size wr w'->(fun w'=>w'.cell? ⟨w.heap.size,7,none⟩=some (.slice p.args.A p.args.n p.args.c)) w'):=qD fun w' hb=>(hb.cell (p:=⟨w.heap.size,7,none⟩) B5.out.lt).trans d7;clear d7;refine MX ?_;refine ML (S:=(fun w'=>w'.cell? ⟨w.heap.size,7,none⟩=some (.slice p.args.A p.args.n p.args.c))) (by kernel_rfl) ?_ (fun hHeld=>?_)
    ·(try dsimp only);exact KS.out _ B.out
    refine rU 0 rfl ?_
    try go_frame
    refine rU 2 rfl ?_
    try go_frame
    refine rU 3 rfl ?_
    try go_frame
    refine rY 1 rfl fun K hK=>?_;go_simp;refine(eY (p.args.xs.map yN) _ _ _ _ (HSI.out.step B.out) (Lt HNZ.out (by decide))).mono ?_;rintro e3 w5 ⟨A3,m3,c3,ys,nf,rfl,hy,hnf,hmk,hsi,hb3⟩;have HNO:Hid (∀w6,Below w5.heap.size w5 w6->lS ((fun a=>dj ae a (aT ((p.args.xs.map yN).map ar))),!b2) p.args.n w (.returned (.tuple #[.slice A3 m3 c3,.bool (!b2)])) w6):=qD fun w6 hb6=>⟨A3,m3,c3,ys,nf,rfl,hy,hnf,hmk,hsi.step hb6,(BE.out.Jp (B.out.Jp hb3)).Jp hb6⟩;replace B:=qD (B.out.Jp hb3);clear hy hnf hmk hsi hb3
    (try go_wp2_with fail)
    clear hHeld;refine hK.out _ _ ?_ fun hHeld=>?_
    ·(try dsimp only);exact KS.out _ B.out
    clear hK K
    try go_frame
    refine rY 4 rfl fun K hK=>?_;go_simp;refine(pd p.args.xs _ _ _ 2 _ (HAR.out.step (BE.out.Jp B.out))).mono ?_;rintro e4 w6 ⟨rfl,hb⟩;rw[HB2.out];replace B:=qD (B.out.Jp hb);replace HNO:=qD (HNO.out _ hb);clear hb
    (try go_wp2_with fail)
    clear hHeld;refine hK.out _ _ ?_ fun hHeld=>?_
    ·(try dsimp only);exact KS.out _ B.out
    clear hK K
    try go_frame
    refine rU 5 rfl ?_
    try go_frame
    refine rU 6 rfl ?_
    try go_frame
    refine rU 7 rfl ?_
    try go_frame
    refine rD ?_ _;refine Mf ?_;clear hHeld;go_wp2_with fail;go_ret2;rw[HOPH.out,HL.out];exact HNO.out.up (LH _ _) (by omega)
 ·have HL:Hid (bZ 8 p.arg.2 (p.args.xs.map Prod.snd) p.n=(dV,false)):=by
   obtain⟨x,hx,e⟩:=rh hb6;exact qD (dH (rS ⟨x.2,MT hx,by rw[<-HKK.out x hx];exact e⟩))
  clear hb6;go_wp2_with fail;refine(fA _).mono ?_;rintro e w9 ⟨A3,m3,c3,ys,nf,rfl,hy,hnf,hmk,hsi,hb3⟩;have HNO:=qD (show lS (dV,false) 1 w1 (.returned (.tuple #[.slice A3 m3 c3,.bool false])) w9 from⟨A3,m3,c3,ys,nf,rfl,hy,hnf,hmk,hsi,hb3⟩);clear hy hnf hmk hsi hb3;go_wp2_with fail;go_ret2;rw[HOPH.out,HL.out];exact HNO.out.up BE.out (by omega)
theorem Gt(p:ao)(h:p.op=16)(w:World)(hw:WP w p)(hT:cg w):
 Calls prog 176 #[am p] w (lS (bZ p.op p.arg.2 (p.args.xs.map Prod.snd) p.n) (p.args.n+1) w):=by
 have HT:=qD hT;have W:=qD hw.open;have HKT:Hid (p.arg.1.t=p.arg.2.t):=qD hw.open.arg.open.t;have HTZ:Hid (p.arg.1.t.size<=aF):=by have:=hw.open.arg.open.tsz;exact qD (by rw[hw.open.arg.open.t];exact this)
 clear hw hT;have B0:Hid (aE (w.alloc (.cells (aH p) 38)) w.heap.size 38 (aH p)):=aE.Jq rfl;have BE:=qD ((LH w.heap.size w).alloc (qL) (Obj.cells (aH p) 38));go_enter PB,Oc;go_upto_region 1 with fail
 change Code.wp _ _ _ _ (w.alloc (.cells (aH p) 38));generalize w.alloc (.cells (aH p) 38)=wa at*;obtain⟨d0,-,-,-,d7,d8,-,-⟩:=aS B0.out;have f2:=(aX B0.out) 0 _ rfl;simp only[Nat.reduceAdd] at f2;rw[h] at d0;have HOPH:=qD h;clear h;go_wp2_with fail;refine(lq 4 wa (by omega) (by omega)).mono ?_;rintro e w1 ⟨rfl,hb⟩;replace B0:=qD (B0.out.step hb);replace BE:=qD (BE.out.Jp hb);clear hb d0 d7 d8 f2;go_upto_region 21 with fail
 change Code.wp _ _ _ _ (w1.alloc (.cells (aM (ay 4)) 84));have J:Hid (aE (w1.alloc (.cells (aM (ay 4)) 84)) w1.heap.size 84 (aM (ay 4))):=aE.Jq rfl;have HGJ:Hid (w.heap.size<w1.heap.size):=qD B0.out.lt;replace B0:=qD (B0.out.alloc (.cells (aM (ay 4)) 84));replace BE:=qD (BE.out.alloc BE.out.size (Obj.cells (aM (ay 4)) 84));generalize w1.alloc (.cells (aM (ay 4)) 84)=w2 at*;generalize w1.heap.size=gj at*;have RA:=qD (aX B0.out);have gle:=HGJ.out
 go_upto_region 22 with(first
  | ((with_reducible show wpList _ _ _ (⟨_,.load 29 _,_,_,_,_⟩::_) _ _);refine aG rfl 29 _ rfl w.heap.size 2 rfl _ _ RA.out Mt rfl (by kernel_rfl) ?_)
  | ((with_reducible show wpList _ _ _ (⟨_,.store 29 _ _,_,_,_,_⟩::_) _ _);refine ur (c:=p.arg.1) rfl _ _ rfl rfl rfl J.out BE.out (by omega) p.arg.2 ?_;intro w6 hJ hfar hBE;have B6:=qD (hfar _ _ _ (by omega) B0.out);clear J BE B0 RA hfar;have J:=qD hJ;have BE:=qD hBE;have B0:=qD B6.out;clear hJ hBE B6))
 obtain⟨_,_,_,d4,_,_,_,_⟩:=aS B0.out;obtain⟨tx,htx⟩:∃t,t=p.arg.1.t:=⟨_,rfl⟩;rw[<-htx] at d4 HKT HTZ;have HTX:=qD htx;clear htx;have HAR:Hid (RW w p.arg.1 p.arg.2):=W.out.arg
 have hEd:decide (p.arg.2.t=empty)=tx.toList.isEmpty:=by
  rw[<-HKT.out,Lg,NJ,Nq,MD];constructor
  ·rintro rfl;rfl
  ·intro h;exact Mw (Mq.1 h)
 have HED:=qD hEd;clear hEd;cases hA:fa tx with
 | none=>
  have hq:mZ p.arg.2=(⟨p.arg.2,iZ 5,true,false⟩,decide (p.arg.2.t=empty)):=uq (by rw[<-HKT.out];exact hA);have hE:eu tx=.returned (.tuple #[.string empty,.bool false]):=by unfold eu;rw[hA];rfl
  have hAf:=lr tx w6 HTZ.out;rw[hE] at hAf;have HAF:=qD hAf;have HPQ:=qD hq;clear hAf hE hq hA;go_wp2_with fail;refine HAF.out.mono ?_;rintro e w3 ⟨rfl,hb⟩;replace J:=qD (J.out.step hb);replace B0:=qD (B0.out.step hb);replace BE:=qD (BE.out.Jp hb);clear hb d4 HAF;go_upto_region 24 with fail
  change Code.wp _ _ _ _ (w3.alloc (.cells (cu 4 0 empty).arr 29));replace J:=qD (J.out.alloc (.cells (cu 4 0 empty).arr 29));replace B0:=qD (B0.out.alloc (.cells (cu 4 0 empty).arr 29));replace BE:=qD (BE.out.alloc BE.out.size (Obj.cells (cu 4 0 empty).arr 29));generalize w3.alloc (.cells (cu 4 0 empty).arr 29)=w4 at*;generalize w3.heap.size=gv at*;obtain⟨_,_,_,d4,_,_,_,_⟩:=aS B0.out;rw[<-HTX.out] at d4;have HQ:Hid (∀wr,Below w.heap.size w wr->iY wr ((p.arg,(ay 4).1.2),(ay 4).2)):=qD fun wr hb=>⟨HAR.out.step hb,(gX 4 wr).2⟩;obtain⟨be,hbe⟩:∃b,b=tx.toList.isEmpty:=⟨_,rfl⟩
  have HL:Hid (bZ 16 p.arg.2 (p.args.xs.map Prod.snd) p.n=((fun a=>dj ae a (aT ([((p.arg,(ay 4).1.2),(ay 4).2)].map ar))),be)):=by
   rw[Hid,cI gm,HPQ.out,HED.out,hbe];rfl
  replace hbe:=hbe.symm;go_upto_region 27 with fail
  have B:=qD ((LH w4.heap.size w4).drew);have KS:Hid (∀w',Below w4.heap.size w4 w'->(fun w'=>(Instr.loadAt 84 (.pointer (some ⟨gj,0,none⟩))).run prog w'=.ok (cR ((p.arg,(ay 4).1.2),(ay 4).2)) w'/\w'.cell? ⟨w.heap.size,4,none⟩=some (.string tx)) w'):=qD fun w' hb=>⟨nN (J.out.step hb) rfl,(hb.cell (p:=⟨w.heap.size,4,none⟩) B0.out.lt).trans d4⟩;clear d4;refine MX ?_;refine ML (S:=(fun w'=>(Instr.loadAt 84 (.pointer (some ⟨gj,0,none⟩))).run prog w'=.ok (cR ((p.arg,(ay 4).1.2),(ay 4).2)) w'/\w'.cell? ⟨w.heap.size,4,none⟩=some (.string tx))) (by kernel_rfl) ?_ (fun hHeld=>?_)
  ·(try dsimp only);exact KS.out _ B.out
  refine rT (v:=cR ((p.arg,(ay 4).1.2),(ay 4).2)) 0 rfl ?_ ?_
  (skip)
  ·intro w' hSw;exact cM (p:=.pointer (some ⟨gj,0,none⟩)) rfl rfl hSw.1
  try go_frame
  refine rT (v:=?_) 3 rfl ?_ ?_;rotate_left
  ·intro w' hSw;(try dsimp only at hSw);obtain⟨_,hSwc⟩:=hSw;go_simp;(try with_reducible rfl)
  try go_frame
  refine rT (v:=?_) 4 rfl ?_ ?_;rotate_left
  ·intro w' hSw;(try dsimp only at hSw);obtain⟨_,hSwc⟩:=hSw;go_simp;(try with_reducible rfl)
  try go_frame
  refine rT (v:=?_) 5 rfl ?_ ?_;rotate_left
  ·intro w' hSw;(try dsimp only at hSw);obtain⟨_,hSwc⟩:=hSw;go_simp;(try with_reducible rfl)
  try go_frame
  refine rT (v:=?_) 6 rfl ?_ ?_;rotate_left
  ·intro w' hSw;(try dsimp only at hSw);obtain⟨_,hSwc⟩:=hSw;go_simp;(try with_reducible rfl)
  try go_frame
  refine rY 1 rfl fun K hK=>?_;go_simp;clear hHeld;refine hK.out _ _ ?_ fun hHeld=>?_
  ·(try dsimp only);exact KS.out _ (B.out.alloc B.out.size _)
  clear hK K
  try go_frame
  refine rY 2 rfl fun K hK=>?_;go_simp;refine(eY [((p.arg,(ay 4).1.2),(ay 4).2)] _ 1 1 _ (fI (aE.Jq rfl) (HQ.out _ (BE.out.Jp (B.out.alloc B.out.size _)))) (by omega)).mono ?_;rintro e3 w5 ⟨A3,m3,c3,ys,nf,rfl,hy,hnf,hmk,hsi,hb3⟩;have HNO:=qD (show lS ((fun a=>dj ae a (aT ([((p.arg,(ay 4).1.2),(ay 4).2)].map ar))),be) 1 _ (.returned (.tuple #[.slice A3 m3 c3,.bool be])) w5 from⟨A3,m3,c3,ys,nf,rfl,hy,hnf,hmk,hsi,hb3⟩);replace HNO:=qD (HNO.out.up (B.out.alloc B.out.size _) (qL));replace B:=qD ((B.out.alloc B.out.size _).Jp hb3);clear hy hnf hmk hsi hb3
  (try go_wp2_with fail)
  clear hHeld;refine hK.out _ _ ?_ fun hHeld=>?_
  ·(try dsimp only);exact KS.out _ B.out
  clear hK K
  try go_frame
  refine rT (v:=?_) 7 rfl ?_ ?_;rotate_left
  ·intro w' hSw;(try dsimp only at hSw);obtain⟨_,hSwc⟩:=hSw;go_simp;(try with_reducible rfl)
  try go_frame
  refine rT (v:=?_) 8 rfl ?_ ?_;rotate_left
  ·intro w' hSw;(try dsimp only at hSw);obtain⟨_,hSwc⟩:=hSw;go_simp;(try with_reducible rfl)
  try go_frame
  refine rD ?_ _;refine Mf ?_;clear hHeld;go_wp2_with fail;go_ret2;rw[HOPH.out,HL.out];exact HNO.out.up BE.out (by omega)
 | some s=>
  have hE:eu tx=.returned (.tuple #[.string s,.bool true]):=by unfold eu;rw[hA];rfl
  have hAf:=lr tx w6 HTZ.out;rw[hE] at hAf;have HAF:=qD hAf;have HSZ:Hid (s.size<=aF):=qD (Lt (kN hA) HTZ.out);have HAS:=qD hA;clear hAf hE hA;go_wp2_with fail;refine HAF.out.mono ?_;rintro e w3 ⟨rfl,hb⟩;replace J:=qD (J.out.step hb);replace B0:=qD (B0.out.step hb);replace BE:=qD (BE.out.Jp hb);have HJ3:Hid (gj<w3.heap.size):=qD J.out.lt;clear hb d4 HAF;go_upto_region 24 with fail
  change Code.wp _ _ _ _ (w3.alloc (.cells (cu 4 0 s).arr 29));have JB:Hid (aE (w3.alloc (.cells (cu 4 0 s).arr 29)) w3.heap.size 29 (cu 4 0 s).arr):=aE.Jq rfl;replace J:=qD (J.out.alloc (.cells (cu 4 0 s).arr 29));replace B0:=qD (B0.out.alloc (.cells (cu 4 0 s).arr 29));replace BE:=qD (BE.out.alloc BE.out.size (Obj.cells (cu 4 0 s).arr 29));generalize w3.alloc (.cells (cu 4 0 s).arr 29)=w4 at*;generalize w3.heap.size=gv at*;obtain⟨_,_,_,d4,_,_,_,_⟩:=aS B0.out;rw[<-HTX.out] at d4;obtain⟨q0,q1,q2,q3,q4⟩:=bS.Jr JB.out;simp only[LL] at q0 q1 q2 q3 q4;obtain⟨vb,hvb⟩:∃b,b=aO (.mk 4 0 s [] []):=⟨_,rfl⟩
  have HVC:Hid (∀wr,Below w.heap.size w wr->Calls prog 8 #[(cu 4 0 s).val] wr fun e w'=>e=.returned (.bool vb)/\Below wr.heap.size wr w'):=qD fun wr hb=>by
   rw[hvb];exact eW (.mk 4 0 s [] []) (cu 4 0 s) wr (kp _ _ _ HSZ.out)
  obtain⟨be,hbe⟩:∃b,b=tx.toList.isEmpty:=⟨_,rfl⟩;have HBE:=qD hbe;have HVB:=qD hvb;replace hbe:=hbe.symm;clear hvb
  go_upto_if 97 with(go_at_call 8;refine(HVC.out _ BE.out).mono ?_;rintro e w5 ⟨rfl,hb⟩;replace J:=qD (J.out.step hb);replace JB:=qD (JB.out.step hb);replace BE:=qD (BE.out.Jp hb);replace B0:=qD (B0.out.step hb);clear hb d4 q0 q1 q2 q3 q4;obtain⟨q0,q1,q2,q3,q4⟩:=bS.Jr JB.out;simp only[LL] at q0 q1 q2 q3 q4)
  cases vb
  ·have HQ:Hid (∀wr,Below w.heap.size w wr->iY wr ((p.arg,(ay 4).1.2),(ay 4).2)):=qD fun wr hb=>⟨HAR.out.step hb,(gX 4 wr).2⟩
   have HL:Hid (bZ 16 p.arg.2 (p.args.xs.map Prod.snd) p.n=((fun a=>dj ae a (aT ([((p.arg,(ay 4).1.2),(ay 4).2)].map ar))),be)):=by
    rw[Hid,cI gm,zt (x:=p.arg.2) (s:=s) (by rw[<-HKT.out];exact HAS.out) HVB.out.symm,HED.out,HBE.out];rfl
   clear HBE;obtain⟨_,_,_,d4,_,_,_,_⟩:=aS B0.out;rw[<-HTX.out] at d4;go_upto_region 27 with fail
   have B:=qD ((LH w5.heap.size w5).drew);have KS:Hid (∀w',Below w5.heap.size w5 w'->(fun w'=>(Instr.loadAt 84 (.pointer (some ⟨gj,0,none⟩))).run prog w'=.ok (cR ((p.arg,(ay 4).1.2),(ay 4).2)) w'/\w'.cell? ⟨w.heap.size,4,none⟩=some (.string tx)) w'):=qD fun w' hb=>⟨nN (J.out.step hb) rfl,(hb.cell (p:=⟨w.heap.size,4,none⟩) B0.out.lt).trans d4⟩;clear d4;refine MX ?_;refine ML (S:=(fun w'=>(Instr.loadAt 84 (.pointer (some ⟨gj,0,none⟩))).run prog w'=.ok (cR ((p.arg,(ay 4).1.2),(ay 4).2)) w'/\w'.cell? ⟨w.heap.size,4,none⟩=some (.string tx))) (by kernel_rfl) ?_ (fun hHeld=>?_)
   ·(try dsimp only);exact KS.out _ B.out
   refine rT (v:=cR ((p.arg,(ay 4).1.2),(ay 4).2)) 0 rfl ?_ ?_
   (skip)
   ·intro w' hSw;exact cM (p:=.pointer (some ⟨gj,0,none⟩)) rfl rfl hSw.1
   try go_frame
   refine rT (v:=?_) 3 rfl ?_ ?_;rotate_left
   ·intro w' hSw;(try dsimp only at hSw);obtain⟨_,hSwc⟩:=hSw;go_simp;(try with_reducible rfl)
   try go_frame
   refine rT (v:=?_) 4 rfl ?_ ?_;rotate_left
   ·intro w' hSw;(try dsimp only at hSw);obtain⟨_,hSwc⟩:=hSw;go_simp;(try with_reducible rfl)
   try go_frame
   refine rT (v:=?_) 5 rfl ?_ ?_;rotate_left
   ·intro w' hSw;(try dsimp only at hSw);obtain⟨_,hSwc⟩:=hSw;go_simp;(try with_reducible rfl)
   try go_frame
   refine rT (v:=?_) 6 rfl ?_ ?_;rotate_left
   ·intro w' hSw;(try dsimp only at hSw);obtain⟨_,hSwc⟩:=hSw;go_simp;(try with_reducible rfl)
   try go_frame
   refine rY 1 rfl fun K hK=>?_;go_simp;clear hHeld;refine hK.out _ _ ?_ fun hHeld=>?_
   ·(try dsimp only);exact KS.out _ (B.out.alloc B.out.size _)
   clear hK K
   try go_frame
   refine rY 2 rfl fun K hK=>?_;go_simp;refine(eY [((p.arg,(ay 4).1.2),(ay 4).2)] _ 1 1 _ (fI (aE.Jq rfl) (HQ.out _ (BE.out.Jp (B.out.alloc B.out.size _)))) (by omega)).mono ?_;rintro e3 w5 ⟨A3,m3,c3,ys,nf,rfl,hy,hnf,hmk,hsi,hb3⟩;have HNO:=qD (show lS ((fun a=>dj ae a (aT ([((p.arg,(ay 4).1.2),(ay 4).2)].map ar))),be) 1 _ (.returned (.tuple #[.slice A3 m3 c3,.bool be])) w5 from⟨A3,m3,c3,ys,nf,rfl,hy,hnf,hmk,hsi,hb3⟩);replace HNO:=qD (HNO.out.up (B.out.alloc B.out.size _) (qL));replace B:=qD ((B.out.alloc B.out.size _).Jp hb3);clear hy hnf hmk hsi hb3
   (try go_wp2_with fail)
   clear hHeld;refine hK.out _ _ ?_ fun hHeld=>?_
   ·(try dsimp only);exact KS.out _ B.out
   clear hK K
   try go_frame
   refine rT (v:=?_) 7 rfl ?_ ?_;rotate_left
   ·intro w' hSw;(try dsimp only at hSw);obtain⟨_,hSwc⟩:=hSw;go_simp;(try with_reducible rfl)
   try go_frame
   refine rT (v:=?_) 8 rfl ?_ ?_;rotate_left
   ·intro w' hSw;(try dsimp only at hSw);obtain⟨_,hSwc⟩:=hSw;go_simp;(try with_reducible rfl)
   try go_frame
   refine rD ?_ _;refine Mf ?_;clear hHeld;go_wp2_with fail;go_ret2;rw[HOPH.out,HL.out];exact HNO.out.up BE.out (by omega)
  ·have HQ:Hid (∀wr,Below w.heap.size w wr->iY wr ((p.arg,(cu 4 0 s,.mk 4 0 s [] [])),(true,false))):=qD fun wr hb=>⟨HAR.out.step hb,kp _ _ _ HSZ.out⟩
   have HL:Hid (bZ 16 p.arg.2 (p.args.xs.map Prod.snd) p.n=((fun a=>dj ae a (aT ([((p.arg,(cu 4 0 s,.mk 4 0 s [] [])),(true,false))].map ar))),true)):=by
    rw[Hid,cI gm,uo (x:=p.arg.2) (s:=s) (by rw[<-HKT.out];exact HAS.out) HVB.out.symm];rfl
   go_upto_region 26 with((with_reducible show wpList _ _ _ (⟨_,.store 29 _ _,_,_,_,_⟩::_) _ _);refine ut (c:=cu 4 0 s) rfl _ _ rfl rfl rfl J.out BE.out (by omega) (.mk 4 0 s [] []) ?_;intro w7 hJ hfar hBE;clear J BE hfar q0 q1 q2 q3 q4 JB;have J:=qD hJ;have BE:=qD hBE;clear hJ hBE)
   have J2:Hid (aE w7 gj 84 (aM ((p.arg,(cu 4 0 s,.mk 4 0 s [] [])),(true,false)))):=J;have RGJ:=qD (jJ J2.out);go_wp2_with ((with_reducible show wpList _ _ _ (⟨_,.load 84 _,_,_,_,_⟩::_) _ _);refine aG rfl 84 _ rfl gj 0 rfl _ _ RGJ.out Lu rfl (by kernel_rfl) ?_);refine(eY [((p.arg,(cu 4 0 s,.mk 4 0 s [] [])),(true,false))] _ 1 1 _ (fI (aE.Jq rfl) ((HQ.out _ (BE.out.alloc BE.out.size _)))) (by omega)).mono ?_;rintro e w9 ⟨A3,m3,c3,ys,nf,rfl,hy,hnf,hmk,hsi,hb3⟩;have HNO:=qD (show lS ((fun a=>dj ae a (aT ([((p.arg,(cu 4 0 s,.mk 4 0 s [] [])),(true,false))].map ar))),true) 1 _ (.returned (.tuple #[.slice A3 m3 c3,.bool (true)])) w9 from⟨A3,m3,c3,ys,nf,rfl,hy,hnf,hmk,hsi,hb3⟩);clear hy hnf hmk hsi hb3;go_wp2_with fail;go_ret2;rw[HOPH.out,HL.out];exact HNO.out.up (BE.out.alloc BE.out.size _) (by omega)
theorem vW(p:ao)(w:World)(hw:WP w p)(hv:od p)(hT:cg w):
 Calls prog 176 #[am p] w (lS (bZ p.op p.arg.2 (p.args.xs.map Prod.snd) p.n) (p.args.n+1) w):=by
 by_cases h2:p.op=2
 ·exact IN p h2 (hv.open.arg (by omega)) w hw
 by_cases ho:p.op=4\/p.op=5\/p.op=6\/p.op=7
 ·exact Gs p ho (hv.open.arg (by omega)) w hw
 by_cases h8:p.op=8
 ·exact IP p h8 w hw
 by_cases h16:p.op=16
 ·exact Gt p h16 w hw hT
 by_cases h11:p.op=11
 ·exact FU p h11 (hv.open.kind h11) w
 exact DT p (by omega) w
theorem Gu:∀p,xt p:=by
 refine ao.ind fun p ih=>?_;by_cases h20:p.op=20
 ·exact Gn p ih h20
 by_cases h21:p.op=21
 ·exact IL p ih h21
 intro A n c l w hw hv hT hl hz;by_cases hp:p.path.xs=l
 ·rw[pE h20 h21 hp];by_cases h2:p.op=2
  ·rw[h2];exact Gq p h2 A n c l w hw hT hl hp
  by_cases ho:p.op=4\/p.op=5\/p.op=6\/p.op=7
  ·exact Gr p ho (hv.open.arg (by omega)) A n c l w hw hT hl hp
  by_cases h8:p.op=8
  ·rw[h8];exact IM p h8 A n c l w hw hl hp _ fun wr hb=>(DB p wr (hw.step hb) (hT.step hb)).mono fun e w' h=>h.up (LH _ _) (by rw[p.Jx];omega)
  by_cases h16:p.op=16
  ·rw[h16];exact Gp p h16 A n c l w hw hl hp _ fun wr hb=>(tN p wr (hw.step hb) (hT.step hb)).mono fun e w' h=>h.up (LH _ _) (by rw[p.Jx];omega)
  by_cases h11:p.op=11
  ·rw[h11];exact FT p h11 (hv.open.kind h11) A n c l w hw hT hl hp
  rw[dH (kH (by omega))];exact DS p (by omega) A n c l w hw hl hp
 ·rw[pF h20 h21 hp];exact FS p h20 h21 A n c l w hw hl hp
theorem vX(l m:List ByteArray)(A B:Option Addr)(n c k d:Nat)(w:World)(h:ST w A n c l)(h':ST w B k d m):
 Calls prog 175 #[.slice A n c,.slice B k d] w fun e w'=>e=.returned (.bool (ah l m))/\Below w.heap.size w w':=by
 have hz:n<=140737488355328:=by have:=h.sz;unfold aF at this;omega
 have hk:k<=140737488355328:=by have:=h'.sz;unfold aF at this;omega
 have H:=qD h;have H':=qD h';clear h h';by_cases hnk:n=k;rotate_left
 ·have HF:Hid (ah l m=false):=kr (by have:=H.out.sr.ln;have:=H'.out.sr.ln;omega);have hnk':((n:Int) != (k:Int))=true:=by simp;omega
  go_enter func175,ntmps175;go_wp2_with fail;go_ret;exact⟨by rw[HF.out];rfl,LH _ _⟩
 subst hnk;go_enter func175,ntmps175;go_wp2_with fail
 go_loopw [5] (fun v wr=>∃i:Nat,i<=n/\v=.int .i64 i/\ah l m=ah (l.drop i) (m.drop i)/\Below w.heap.size w wr) (fun v _=>n-(intOf v).toNat)
 ·exact⟨0,LQ _,rfl,rfl,LH _ _⟩
 case round=>
  obtain⟨i,hi,rfl,ha,hbel⟩:=hrel;have HA:=qD ha;have HB:=qD hbel;clear ha;by_cases hlt:i<n
  ·obtain⟨b,off,x,hA,hb,hx,e0⟩:=H.out.sr.Ko hlt;obtain⟨b',off',y,hA',hb',hy,f0⟩:=H'.out.sr.Ko hlt;subst hA hA';have HX:=qD (pP hx hy);have e1:=(hbel.cell (p:=⟨b,off+i,none⟩) hb).trans e0;have f1:=(hbel.cell (p:=⟨b',off'+i,none⟩) hb').trans f0;have X0:∀kk:BW wr,kk.val.cell? ⟨b,off+i,none⟩=some (.string x):=fun kk=>kk.cell e1;have Y0:∀kk:BW wr,kk.val.cell? ⟨b',off'+i,none⟩=some (.string y):=fun kk=>kk.cell f1;have i0:(0:Int)<=(i:Int):=by omega
   have i1:(i:Int)<(n:Int):=by omega
   clear hx hy e0 f0 hbel;go_upto_region 6 with fail
   clear e1 f1;refine aL (by kernel_rfl) (by kernel_rfl) ?_
   repeat(go_big_quiet_step (fail))
   refine Ln ?_;rintro _ ⟨kw,rfl⟩;have HK:=qD kw.below;generalize kw.val=w5 at*;clear X0 Y0;cases hq:(x.toList==y.toList)
   ·have HF:Hid (ah l m=false):=by rw[Hid,HA.out,HX.out,hq];rfl
    go_wp2_with fail;go_ret;exact⟨by rw[HF.out];rfl,HB.out.Jp HK.out⟩
   ·have HF:Hid (ah l m=ah (l.drop (i+1)) (m.drop (i+1))):=by rw[Hid,HA.out,HX.out,hq];rfl
    go_wp2_with fail;go_roundw
    ·exact⟨i+1,by omega,by go_num,HF.out,HB.out.Jp HK.out⟩
    ·simp[intOf];omega
  ·have HF:Hid (ah l m=true):=by rw[Hid,HA.out];exact nJ (by have:=H.out.sr.ln;omega) (by have:=H'.out.sr.ln;omega)
   clear hbel;go_wp2_with fail;go_ret;exact⟨by rw[HF.out];rfl,HB.out⟩
def ri(p:ao):Prop:=∀(A:Option Addr) (n c:Nat) (l:List ByteArray) (w:World),WP w p->od p->cg w->ST w A n c l->p.sz<=300000000->Calls prog 118 #[am p,.slice A n c] w (lS (dE l p) p.sz w)
theorem vY{l:List ByteArray}{ks:List ao}{i:Nat}{k:ao}(h:ks[i]?=some k):dx ((ks.drop i).map (dE l))=if dd (dE l k).1 then dx ((ks.drop (i+1)).map (dE l)) else((dE l k).1,false):=by
 rw[bM h,Mb,dx]
theorem FV(p:ao)(ih:∀k∈p.kids,ri k)(h:p.op=20):ri p:=by
 intro A n c l w hw hv hT hl hz;rw[tL h];have HT:=qD hT;have W:=qD hw.open;have HL:=qD hl;have HKV:=qD (hv.open.kids (.inl h))
 have IH:Hid (∀k∈p.kids,∀wr,Below w.heap.size w wr->Calls prog 118 #[am k,.slice A n c] wr (lS (dE l k) k.sz wr)):=qD fun k hkm wr hb=>by
  have hs:k.sz<=p.sz:=by rw[p.Jx];have:=nG hkm;omega
  exact ih k hkm A n c l wr ((W.out.kids k hkm).step hb) (HKV.out k hkm) (HT.out.step hb) (HL.out.step hb) (by omega)
 have HSK:Hid (∀k∈p.kids,k.sz<=p.sz):=qD fun k hkm=>by rw[p.Jx];have:=nG hkm;omega
 have HS1:Hid (1<=p.sz):=by rw[Hid,p.Jx];omega
 have hkz:p.kn<=140737488355328:=by have:=W.out.ksz;unfold aF at this;omega
 have HKN:=qD W.out.sr.ln;clear hw hv hT hl hz ih;have B0:Hid (aE (w.alloc (.cells (aH p) 38)) w.heap.size 38 (aH p)):=aE.Jq rfl;have BE:=qD ((LH w.heap.size w).alloc (qL) (Obj.cells (aH p) 38));go_enter func118,ntmps118;go_upto_region 1 with fail
 change Code.wp _ _ _ _ (w.alloc (.cells (aH p) 38));generalize w.alloc (.cells (aH p) 38)=wa at*;obtain⟨d0,_,_,_,_,_,_,d24⟩:=aS B0.out;rw[h] at d0;clear h;by_cases h1:p.kn=1
 ·obtain⟨b,off,k,hA,hb,hx,hm,hrg⟩:=W.out.sr.row (i:=0) (by omega)
  have HK1:Hid (p.kids=[k]):=by
   have:=HKN.out
   match hk:p.kids,this,hx with
   | [y],_,hx=>simp at hx;rw[hx];exact qD rfl
   | [],this,_=>simp at this;omega
   | _::_::_,this,_=>simp at this;omega
  have RG:=qD (bi hrg BE.out hb);have HM:=qD hm;rw[hA] at d24;rw[h1] at d24;have HAK:=qD hA;clear hrg hx hm hA;go_wp2_with ((with_reducible show wpList _ _ _ (⟨_,.load 38 _,_,_,_,_⟩::_) _ _);refine aG rfl 38 _ rfl b off rfl _ _ (by have:=RG.out;simpa using this) Ly rfl (by kernel_rfl) ?_);refine(IH.out k HM.out _ BE.out).mono ?_;rintro e w1 ⟨A3,m3,c3,ys,nf,rfl,hy,hnf,hmk,hsi,hb3⟩;have HNO:=qD (show lS (dE l k) k.sz wa (.returned (.tuple #[.slice A3 m3 c3,.bool (dE l k).2])) w1 from⟨A3,m3,c3,ys,nf,rfl,hy,hnf,hmk,hsi,hb3⟩);clear hy hnf hmk hsi hb3;go_wp2_with fail;go_ret2;have e:lg (p.kids.map (dE l))=dE l k:=by rw[HK1.out];rfl
  rw[e];exact HNO.out.up BE.out (HSK.out k HM.out)
 ·have h1b:((p.kn:Int)==1)=false:=by simp;omega
  have HAN:Hid (lg (p.kids.map (dE l))=dx (p.kids.map (dE l))):=by
   have:=HKN.out
   match hk:p.kids,this with
   | [y],this=>simp at this;omega
   | [],_=>exact qD rfl
   | _::_::_,_=>exact qD rfl
  clear h1;go_upto_region 6 with fail
  go_loopw [6,7,8] (fun v6 _ _ wr=>∃i:Nat,i<=p.kn/\v6=.int .i64 i/\dx (p.kids.map (dE l))=dx ((p.kids.drop i).map (dE l))/\aE wr w.heap.size 38 (aH p)/\Below w.heap.size w wr) (fun v6 _ _ _=>p.kn-(intOf v6).toNat)
  ·exact⟨0,LQ _,rfl,rfl,B0.out,BE.out⟩
  case round=>
   obtain⟨i,hi,rfl,hf,hB0,hBE⟩:=hrel;clear B0 BE d0 d24;have B0:=qD hB0;have BE:=qD hBE;have HF:=qD hf;obtain⟨_,_,_,_,_,_,_,d24⟩:=aS B0.out;clear hB0 hBE hf;by_cases hlt:i<p.kn
   ·obtain⟨b,off,k,hA,hb,hx,hm,hrg⟩:=W.out.sr.row hlt;have HX:=qD (vY (l:=l) hx);have RG:=qD (bi hrg BE.out hb);have HM:=qD hm;have i0:(0:Int)<=(i:Int):=by omega
    have i1:(i:Int)<(p.kn:Int):=by omega
    rw[hA] at d24;have HAK:=qD hA;clear hrg hx hm hA;go_wp2_with ((with_reducible show wpList _ _ _ (⟨_,.load 38 _,_,_,_,_⟩::_) _ _);refine aG rfl 38 _ rfl b (off+i*25) rfl _ _ RG.out Ly rfl (by kernel_rfl) ?_);refine(IH.out k HM.out _ BE.out).mono ?_;rintro e w1 ⟨A3,m3,c3,ys,nf,rfl,hy,hnf,hmk,hsi,hb3⟩;have HSI:=qD hsi;have HY:=qD hy;have HN:=qD hnf;have HM3:Hid (m3<=p.sz):=qD (Lt hmk (HSK.out k HM.out));replace B0:=qD (B0.out.step hb3);replace BE:=qD (BE.out.Jp hb3);clear hy hnf hmk hsi hb3 d24;obtain⟨bx,hbx⟩:∃b,b=dd (dE l k).1:=⟨_,rfl⟩
    have HIA:Hid (Calls prog 172 #[.slice A3 m3 c3] w1 fun e w'=>e=.returned (.bool bx)/\Below w1.heap.size w1 w'):=by
     rw[hbx];exact qD (pX ys A3 m3 c3 w1 HSI.out HY.out HN.out)
    rw[<-hbx] at HX;clear hbx;go_wp2_with fail;refine HIA.out.mono ?_;rintro e w2 ⟨rfl,hb⟩;replace HSI:=qD (HSI.out.step hb);replace B0:=qD (B0.out.step hb);replace BE:=qD (BE.out.Jp hb);clear hb HIA;cases bx
    ·go_wp2_with fail;go_ret2;have e:lg (p.kids.map (dE l))=((dE l k).1,false):=by rw[HAN.out,HF.out,HX.out];rfl
     rw[e];exact⟨A3,m3,c3,ys,nf,rfl,HY.out,HN.out,HM3.out,HSI.out,BE.out⟩
    ·go_wp2_with fail;go_roundw
     ·exact⟨i+1,by omega,by go_num,by rw[HF.out,HX.out];rfl,B0.out,BE.out⟩
     ·simp[intOf];omega
   ·obtain rfl:i=p.kn:=by omega
    go_wp2_with fail;refine(fA _).mono ?_;rintro e w9 ⟨A3,m3,c3,ys,nf,rfl,hy,hnf,hmk,hsi,hb3⟩;have HNO:=qD (show lS (dV,false) 1 wr (.returned (.tuple #[.slice A3 m3 c3,.bool false])) w9 from⟨A3,m3,c3,ys,nf,rfl,hy,hnf,hmk,hsi,hb3⟩);clear hy hnf hmk hsi hb3;go_wp2_with fail;go_ret2;have e:lg (p.kids.map (dE l))=(dV,false):=by rw[HAN.out,HF.out,La (by have:=HKN.out;omega)];rfl
    rw[e];exact HNO.out.up BE.out HS1.out
structure vZ(l:List ByteArray)(p:ao)(w:World)(i m:Nat)(A:Option Addr)(c:Nat)(b:Bool)(ys:List PI)(nf:List (cA×cA))(wr:World):Prop where
 eq:ys.map ar=nf.map dr
 nf:fg (fun a=>∃r∈(p.kids.take i).map (dE l),r.1 a) nf
 le:m<=ao.sz.szL (p.kids.take i)
 si:SI wr A m c ys
 no:∀r∈(p.kids.take i).map (dE l),dd r.1=false
 ex:b=((p.kids.take i).map (dE l)).all fun r=>r.2
 b0:aE wr w.heap.size 38 (aH p)
 bel:Below w.heap.size w wr
theorem vZ.step{l:List ByteArray}{p:ao}{w:World}{i m:Nat}{A:Option Addr}{c:Nat}{b:Bool}{ys:List PI}{nf:List (cA×cA)}{wr w':World}(h:vZ l p w i m A c b ys nf wr)(hb:Below wr.heap.size wr w'):vZ l p w i m A c b ys nf w':=
 ⟨h.eq,h.nf,h.le,h.si.step hb,h.no,h.ex,h.b0.step hb,h.bel.Jp hb⟩
theorem vZ.next{l:List ByteArray}{p k:ao}{w:World}{i m m3 m9:Nat}{A A9:Option Addr}{c c9:Nat}{b b':Bool}{ys zs:List PI}{nf nf9:List (cA×cA)}{wr:World}{T:cA->Prop}(h:vZ l p w i m A c b ys nf wr)(hk:p.kids[i]?=some k)(hall:dd (dE l k).1=false)(hm3:m3<=k.sz)(hb':b'=(b&&(dE l k).2))(he:zs.map ar=nf9.map dr)(hn:fg (fun a=>dj ae a (aT (ys.map ar))\/T a) nf9)(hT:∀a,T a↔(dE l k).1 a)(hm:m9<=m+m3)(hsi:SI wr A9 m9 c9 zs):vZ l p w (i+1) m9 A9 c9 b' zs nf9 wr:=by
 have tk:p.kids.take (i+1)=p.kids.take i++[k]:=by rw[MW,hk];rfl
 refine⟨he,⟨hn.1,fun a=>?_⟩,by rw[pG _ _ hk];have:=h.le;omega,hsi,fun r hr=>?_,?_,h.b0,h.bel⟩
 ·rw[hn.2 a];show(dj ae a (aT (ys.map ar))\/T a)↔∃r∈(p.kids.take (i+1)).map (dE l),r.1 a;rw[pZ h.eq h.nf a,hT a,tk,Lc];constructor
  ·rintro(⟨r,hr,ha⟩|ha)
   ·exact⟨r,OT _ hr,ha⟩
   ·exact⟨dE l k,by simp,ha⟩
  ·rintro⟨r,hr,ha⟩;rcases LY.1 hr with hr|hr
   ·exact .inl ⟨r,hr,ha⟩
   ·obtain rfl:r=dE l k:=by simpa using hr
    exact .inr ha
 ·rw[tk,Lc] at hr;rcases LY.1 hr with hr|hr
  ·exact h.no r hr
  ·obtain rfl:r=dE l k:=by simpa using hr
   exact hall
 ·rw[hb',h.ex,tk,Lc,OK];simp
theorem Gv(p:ao)(ih:∀k∈p.kids,ri k)(h:p.op=21):ri p:=by
 intro A n c l w hw hv hT hl hz;rw[xo h];have HT:=qD hT;have W:=qD hw.open;have HL:=qD hl;have HKV:=qD (hv.open.kids (.inr h))
 have IH:Hid (∀k∈p.kids,∀wr,Below w.heap.size w wr->Calls prog 118 #[am k,.slice A n c] wr (lS (dE l k) k.sz wr)):=qD fun k hkm wr hb=>by
  have hs:k.sz<=p.sz:=by rw[p.Jx];have:=nG hkm;omega
  exact ih k hkm A n c l wr ((W.out.kids k hkm).step hb) (HKV.out k hkm) (HT.out.step hb) (HL.out.step hb) (by omega)
 have HSK:Hid (∀k∈p.kids,k.sz<=p.sz):=qD fun k hkm=>by rw[p.Jx];have:=nG hkm;omega
 have HSZ:Hid (ao.sz.szL p.kids+1<=p.sz):=by rw[Hid,p.Jx];omega
 have HZ:=qD hz;have hkz:p.kn<=140737488355328:=by have:=W.out.ksz;unfold aF at this;omega
 have HKN:=qD W.out.sr.ln;clear hw hv hT hl hz ih;have B0:Hid (aE (w.alloc (.cells (aH p) 38)) w.heap.size 38 (aH p)):=aE.Jq rfl;have BE:=qD ((LH w.heap.size w).alloc (qL) (Obj.cells (aH p) 38));go_enter func118,ntmps118;go_upto_region 1 with fail
 change Code.wp _ _ _ _ (w.alloc (.cells (aH p) 38));generalize w.alloc (.cells (aH p) 38)=wa at*;obtain⟨d0,_,_,_,_,_,_,d24⟩:=aS B0.out;rw[h] at d0;clear h;go_upto_region 16 with fail
 go_loopw [9,10,11,12,13] (fun v9 v10 v11 _ _ wr=>∃(i m:Nat) (A9:Option Addr) (c9:Nat) (bx:Bool) (ys:List PI) (nf:List (cA×cA)),i<=p.kn/\v11=.int .i64 i/\v10=.bool bx/\v9=.slice A9 m c9/\vZ l p w i m A9 c9 bx ys nf wr) (fun _ _ v11 _ _ _=>p.kn-(intOf v11).toNat)
 case atStart=>
  refine⟨0,0,none,0,true,[],[],LQ _,rfl,rfl,rfl,rfl,⟨NF.nil,fun a=>?_⟩,LQ _,⟨SR.nil,by decide,by simp⟩,by simp,rfl,B0.out,BE.out⟩;constructor
  ·rintro⟨s,hs,_⟩;simp at hs
  ·rintro⟨r,hr,_⟩;simp at hr
 case round=>
  obtain⟨i,m,A9,c9,bx,ys,nf,hi,rfl,rfl,rfl,hI⟩:=hrel;clear B0 BE d0 d24;have HI:=qD hI;have HMZ:Hid (m<=300000000):=by have h1:=hI.le;have h2:=ic p.kids i;have h3:=HSZ.out;have h4:=HZ.out;exact qD (by omega)
  obtain⟨_,_,_,_,_,_,_,d24⟩:=aS hI.b0;clear hI;by_cases hlt:i<p.kn
  ·obtain⟨b,off,k,hA,hb,hx,hm,hrg⟩:=W.out.sr.row hlt;have HX:=qD hx;have RG:=qD (bi hrg HI.out.bel hb);have HM:=qD hm;have i0:(0:Int)<=(i:Int):=by omega
   have i1:(i:Int)<(p.kn:Int):=by omega
   rw[hA] at d24;have HAK:=qD hA;clear hrg hx hm hA;go_wp2_with ((with_reducible show wpList _ _ _ (⟨_,.load 38 _,_,_,_,_⟩::_) _ _);refine aG rfl 38 _ rfl b (off+i*25) rfl _ _ RG.out Ly rfl (by kernel_rfl) ?_);refine(IH.out k HM.out _ HI.out.bel).mono ?_;rintro e w1 ⟨A3,m3,c3,zs,n3,rfl,hy,hnf,hmk,hsi,hb3⟩;have HSI:=qD hsi;have HY:=qD hy;have HN:=qD hnf;have HM3:=qD hmk;replace HI:=qD (HI.out.step hb3);clear hy hnf hmk hsi hb3 d24;obtain⟨ba,hba⟩:∃b,b=dd (dE l k).1:=⟨_,rfl⟩
   have HIA:Hid (Calls prog 172 #[.slice A3 m3 c3] w1 fun e w'=>e=.returned (.bool ba)/\Below w1.heap.size w1 w'):=by
    rw[hba];exact qD (pX zs A3 m3 c3 w1 HSI.out HY.out HN.out)
   have HAB:=qD hba;clear hba;obtain⟨be,hbe⟩:∃b,b=(dE l k).2:=⟨_,rfl⟩;rw[<-hbe];have HBE:=qD hbe;clear hbe;go_wp2_with fail;refine HIA.out.mono ?_;rintro e w2 ⟨rfl,hb⟩;replace HSI:=qD (HSI.out.step hb);replace HI:=qD (HI.out.step hb);clear hb HIA;cases ba
   ·cases bx
    all_goals
     go_wp2_with fail;refine(yM ys zs A9 A3 m c9 m3 c3 w2 HI.out.si HSI.out (by have:=HMZ.out;omega) (by have h1:=HM3.out;have h2:=HSK.out k HM.out;have h3:=HZ.out;omega)).mono ?_;rintro e w3 ⟨A7,m7,c7,us,n7,rfl,he,hn7,hm7,hs7,hb7⟩;have HNX:=qD (vZ.next (b':=_&&be) (HI.out.step hb7) HX.out HAB.out.symm HM3.out (by rw[HBE.out]) he hn7 (fun a=>pZ HY.out HN.out a) hm7 hs7);clear he hn7 hm7 hs7 hb7;go_wp2_with fail;go_roundw
     ·exact⟨i+1,m7,A7,c7,_,us,n7,by omega,by go_num,rfl,rfl,HNX.out⟩
     ·simp[intOf];omega
   ·have HE:Hid (xm (p.kids.map (dE l))=(dV,false)):=qD (AB (MT HM.out) HAB.out.symm);go_wp2_with fail;refine(fA w2).mono ?_;rintro e w3 ⟨A7,m7,c7,us,n7,rfl,hy,hnf,hmk,hsi,hb3⟩;have HNO:=qD (show lS (dV,false) 1 w2 (.returned (.tuple #[.slice A7 m7 c7,.bool false])) w3 from⟨A7,m7,c7,us,n7,rfl,hy,hnf,hmk,hsi,hb3⟩);clear hy hnf hmk hsi hb3;go_wp2_with fail;go_ret2;rw[HE.out];exact HNO.out.up HI.out.bel (by have:=HSZ.out;omega)
  ·obtain rfl:i=p.kn:=by omega
   have HTK:p.kids.take p.kn=p.kids:=LS (by have:=HKN.out;omega)
   have HE:Hid (xm (p.kids.map (dE l))=(fun a=>∃r∈p.kids.map (dE l),r.1 a,bx)):=by
    have h1:=HI.out.no;have h3:=HI.out.ex;rw[HTK] at h1 h3;rw[Hid,vV h1,<-h3]
   have HNF:Hid (fg (fun a=>∃r∈p.kids.map (dE l),r.1 a) nf):=by
    have:=HI.out.nf;rw[HTK] at this;exact qD this
   clear HTK;go_wp2_with fail;go_ret2;rw[HE.out];exact⟨A9,m,c9,ys,nf,rfl,HI.out.eq,HNF.out,by have h1:=HI.out.le;have h2:=ic p.kids p.kn;have h3:=HSZ.out;omega,HI.out.si,HI.out.bel⟩
theorem DU(p:ao)(h:p.op≠20)(h':p.op≠21):ri p:=by
 intro A n c l w hw hv hT hl hz;have HT:=qD hT;have HW:=qD hw;have HV:=qD hv;have HS1:Hid (p.args.n+1<=p.sz):=by rw[Hid,p.Jx];omega
 have HSM:Hid (∀wr,Below w.heap.size w wr->Calls prog 175 #[.slice p.path.A p.path.n p.path.c,.slice A n c] wr fun e w'=>e=.returned (.bool (ah p.path.xs l))/\Below wr.heap.size wr w'):=qD fun wr hb=>vX _ _ _ _ _ _ _ _ _ (hw.open.path.step hb) (hl.step hb);have HSI:Hid (∀wr,Below w.heap.size w wr->Calls prog 176 #[am p] wr (lS (bZ p.op p.arg.2 (p.args.xs.map Prod.snd) p.n) (p.args.n+1) wr)):=qD fun wr hb=>vW p wr (HW.out.step hb) HV.out (HT.out.step hb);have g20:(p.op==20)=false:=by simpa using h
 have g21:(p.op==21)=false:=by simpa using h'
 obtain⟨bs,hbs⟩:∃b,b=ah p.path.xs l:=⟨_,rfl⟩;rw[<-hbs] at HSM;obtain⟨bo,hbo⟩:∃b,b=cq p.op:=⟨_,rfl⟩
 have HE:Hid (dE l p=if(bo&&bs)=true then bZ p.op p.arg.2 (p.args.xs.map Prod.snd) p.n else(dV,false)):=by
  rw[Hid];by_cases hp:p.path.xs=l
  ·have e:bs=true:=by rw[hbs,ee];exact hp
   rw[pE h h' hp,e,Bool.and_true];cases bo
   ·rw[LU (by decide)];refine dH (kH ?_);have:cq p.op=false:=hbo.symm;unfold cq at this;simp at this;omega
   ·rw[LZ rfl]
  ·have e:bs=false:=by
    rw[hbs,<-Bool.not_eq_true,ee];exact hp
   rw[pF h h' hp,e,OO,LU (by decide)]
 have HBO:=qD hbo;clear hw hv hT hl hz h h' hbs hbo;have B0:Hid (aE (w.alloc (.cells (aH p) 38)) w.heap.size 38 (aH p)):=aE.Jq rfl;have BE:=qD ((LH w.heap.size w).alloc (qL) (Obj.cells (aH p) 38));go_enter func118,ntmps118;go_upto_region 1 with fail
 change Code.wp _ _ _ _ (w.alloc (.cells (aH p) 38));generalize w.alloc (.cells (aH p) 38)=wa at*;obtain⟨d0,d1,_,_,_,_,_,_⟩:=aS B0.out;go_wp2_with fail;refine(lj _ _).mono ?_;rintro e w1 ⟨rfl,rfl⟩;rw[<-HBO.out];cases bo
 ·go_wp2_with fail;refine(fA _).mono ?_;rintro e w9 ⟨A3,m3,c3,ys,nf,rfl,hy,hnf,hmk,hsi,hb3⟩;have HNO:=qD (show lS (dV,false) 1 w1 (.returned (.tuple #[.slice A3 m3 c3,.bool false])) w9 from⟨A3,m3,c3,ys,nf,rfl,hy,hnf,hmk,hsi,hb3⟩);clear hy hnf hmk hsi hb3;go_wp2_with fail;go_ret2;rw[HE.out];exact HNO.out.up BE.out (by have:=HS1.out;omega)
 ·go_wp2_with fail;refine(HSM.out _ BE.out).mono ?_;rintro e w2 ⟨rfl,hb⟩;replace B0:=qD (B0.out.step hb);replace BE:=qD (BE.out.Jp hb);clear hb d0 d1 HSM;cases bs
  ·go_wp2_with fail;refine(fA _).mono ?_;rintro e w9 ⟨A3,m3,c3,ys,nf,rfl,hy,hnf,hmk,hsi,hb3⟩;have HNO:=qD (show lS (dV,false) 1 w2 (.returned (.tuple #[.slice A3 m3 c3,.bool false])) w9 from⟨A3,m3,c3,ys,nf,rfl,hy,hnf,hmk,hsi,hb3⟩);clear hy hnf hmk hsi hb3;go_wp2_with fail;go_ret2;rw[HE.out];exact HNO.out.up BE.out (by have:=HS1.out;omega)
  ·obtain⟨r,hr⟩:∃r,r=bZ p.op p.arg.2 (p.args.xs.map Prod.snd) p.n:=⟨_,rfl⟩;rw[<-hr] at HSI HE;clear hr;have RG:=qD (dy B0.out);go_wp2_with ((with_reducible show wpList _ _ _ (⟨_,.load 38 _,_,_,_,_⟩::_) _ _);refine aG rfl 38 _ rfl w.heap.size 0 rfl _ _ RG.out Ly rfl (by kernel_rfl) ?_);refine(HSI.out _ BE.out).mono ?_;rintro e w9 ⟨A3,m3,c3,ys,nf,rfl,hy,hnf,hmk,hsi,hb3⟩;have HNO:=qD (show lS r (p.args.n+1) w2 (.returned (.tuple #[.slice A3 m3 c3,.bool r.2])) w9 from⟨A3,m3,c3,ys,nf,rfl,hy,hnf,hmk,hsi,hb3⟩);clear hy hnf hmk hsi hb3;go_wp2_with fail;go_ret2;rw[HE.out];exact HNO.out.up BE.out HS1.out
theorem FW:∀p,ri p:=by
 refine ao.ind fun p ih=>?_;by_cases h20:p.op=20
 ·exact FV p ih h20
 by_cases h21:p.op=21
 ·exact Gv p ih h21
 exact DU p h20 h21
end Go.Proofs.YthfahkaadbdicaaGreatDoor
