/- A part of the proof. -/
import Derived.Test.YtgfoliedmhgpnaaGreatDoorCn29
import Derived.Lib.LaidU8
set_option maxRecDepth 100000
set_option maxHeartbeats 16000000
open Go.Proofs.Tryz
open ByteArray (empty)
namespace Go.Proofs.YtgfoliedmhgpnaaGreatDoor
open Go.RowKit
section
variable {k b n c bs:Nat} {w:World} {e:TypeId} {a op x:Int} {xs:List Value}
def Gk:Prop:=∀(e:dS) (x:aC) (c:VC) (w:World),WX w e->RW w c x->tz x->cZ w->Calls prog 106 #[.agg (dY e).toArray,c.val] w fun en w'=>∃d:VC,en=.returned d.val/\Bl w w'
section
variable {p:aj} {x:aC} {b:Bool}
theorem oQ.OD(h:p.op=2)(e:b=(ch x p.path.xs).any (lD p.arg.2)):oQ p x b:=⟨fun _=>e,fun k=>by omega,fun k=>by omega,fun k=>by omega,fun k=>by omega,fun k=>by omega,fun k=>by omega⟩
theorem oQ.OE(h:p.op=4\/p.op=5\/p.op=6\/p.op=7)(e:b=(ch x p.path.xs).any (iE p.op p.arg.2)):oQ p x b:=⟨fun k=>by omega,fun _=>e,fun k=>by omega,fun k=>by omega,fun k=>by omega,fun k=>by omega,fun k=>by omega⟩
theorem Du(h:p.args.xs.length=p.args.n):decide (0<mE p x p.args.n)=p.args.xs.any fun a=>sE x p.path.xs a.2:=by
 unfold mE;rw[OS oM,Ob,Py];constructor
 ·intro h0;have h1:0<(p.args.xs.filter fun a=>sE x p.path.xs a.2).length:=oM
  obtain⟨a,ha⟩:=List.exists_mem_of_length_pos h1;obtain⟨h2,h3⟩:=RI.1 ha;exact RX.2 ⟨a,h2,h3⟩
 ·intro h0;obtain⟨a,h2,h3⟩:=RX.1 h0;have:=List.length_pos_of_mem ((RI (p:=fun a:PV=>sE x p.path.xs a.2)).2 ⟨h2,h3⟩);omega
theorem oQ.OF(h:p.op=8)(hl:p.args.xs.length=p.args.n):oQ p x (decide (0<mE p x p.args.n)):=⟨fun k=>by omega,fun k=>by omega,fun _=>Du hl,fun k=>by omega,fun k=>by omega,fun k=>by omega,fun k=>by omega⟩
theorem Gl:∀bs:List Bool,(mF bs=bs.length↔bs.all id=true):=by
 intro bs
 induction bs with
 | nil=>simp[mF]
 | cons a r ih=>
  have:=Bj r;cases a
  ·simp[mF] at this ⊢;omega
  ·simp only[mF,List.filter_cons,id,Rr,OZ,Sc,Rw] at ih ⊢;rw[<-ih];omega
theorem Gm:∀bs:List Bool,(0<mF bs↔bs.any id=true):=by
 intro bs
 induction bs with
 | nil=>simp[mF]
 | cons a r ih=>
  cases a
  ·exact ih
  ·simp[mF]
theorem oQ.Nx{bs:List Bool}(h:p.op=20)(hb:iw.ElRs p.kids x bs)(hn:p.kids.length=n):oQ p x ((mF bs:Int)==(n:Int)):=⟨fun k=>by omega,fun k=>by omega,fun k=>by omega,fun k=>by omega,fun k=>by omega,fun _=>⟨bs,hb,by
 rw[Ob,<-Gl,ElRs.len hb,hn,QR]
 omega⟩,fun k=>by omega⟩
theorem oQ.Ny{bs:List Bool}(h:p.op=21)(hb:iw.ElRs p.kids x bs):oQ p x (decide (0<mF bs)):=⟨fun k=>by omega,fun k=>by omega,fun k=>by omega,fun k=>by omega,fun k=>by omega,fun k=>by omega,fun _=>⟨bs,hb,by
 rw[Ob,<-Gm,Py]⟩⟩
theorem oQ.some(h2:p.op≠2)(h4:¬(p.op=4\/p.op=5\/p.op=6\/p.op=7))(h8:p.op≠8)(h20:p.op≠20)(h21:p.op≠21)(h:fu p x b):oQ p x b:=⟨fun k=>absurd k h2,fun k=>absurd k h4,fun k=>absurd k h8,h.1,h.2,fun k=>absurd k h20,fun k=>absurd k h21⟩
end
theorem Gn(H8:Gk):∀p,GN p:=by
 intro p
 induction p using aj.ind with
 | h p ih=>
 intro x c w hw hv hx hok hS hT;have W:=qD hw.open;have V:=qD hv.open;have HX:=qD hx;have HOK:=qD hok;have HKL:Hid (p.kids.length=p.kn):=qD hw.open.sr.ln.symm;have HAL:Hid (p.args.xs.length=p.args.n):=qD hw.open.args.sr.ln.symm;have HAR:Hid (RW w p.arg.1 p.arg.2):=qD hw.open.arg;have HEV:Hid (∀wr,Bl w wr->Calls prog 106 #[.agg (dY p.ex).toArray,c.val] wr fun en w'=>∃d:VC,en=.returned d.val/\Bl wr w'):=qD fun wr hb=>H8 p.ex x c wr (hw.open.ex.step hb) (hx.step hb) hok (hT.step hb);have HKD0:Hid (p.op≠24->∀wr,Bl w wr->Calls prog 104 #[al p,c.val] wr fun e w'=>∃bs,e=.returned (.int .i64 (mF bs:Nat))/\iw.ElRs p.kids x bs/\Bl wr w'):=qD fun h wr hb=>AO p ih x c wr (hw.step hb) (hv.open.kidsA h) (hx.step hb) hok (hS.step hb) (hT.step hb);have HAG0:Hid (2<=p.op/\p.op<=19->∀wr,Bl w wr->Calls prog 102 #[al p,c.val] wr (Rt wr (.int .i64 (mE p x p.args.n:Nat)))):=qD fun h wr hb=>AN p x c wr (hw.step hb) (hx.step hb) hok (hv.open.pathA h);have HSM0:Hid (2<=p.op/\p.op<=19->∀wr,Bl w wr->Calls prog 103 #[al p,c.val] wr (am (fu p x) wr)):=qD fun h wr hb=>AZ p ih x c wr (hw.step hb) hv (hx.step hb) hok (hS.step hb) (hT.step hb) (hv.open.pathA h)
 have HLV0:Hid (2<=p.op/\p.op<=19->∀wr,Bl w wr->Calls prog 100 #[c.val,.slice p.path.A p.path.n p.path.c] wr (uq (fun b=>b<w.heap.size) x (ch x p.path.xs) 68719476736 wr)):=qD fun h wr hb=>nP x (fun b=>b<w.heap.size) p.path.xs c p.path.A p.path.n p.path.c wr (fun b hl=>Ol hl hb.size) ((hx.lt.mono fun b hl=>hl.2).keep fun b hl=>hb.block b hl) (hw.open.path.step hb) hok.size (hv.open.pathA h);clear hw hv hx hok hS hT ih;go_enter func38,ntmps38;go_upto_region 1 with fail
 refine yS (bL p) 38 c.arr 29 ?_;intro wa B0 B1 BE
 have KS:Hid (∀w',Bl wa w'->(fun w'=>(Instr.loadAt 29 (.pointer (some ⟨w.heap.size,2,none⟩))).run prog w'=.ok (.agg p.arg.1.list.toArray) w'/\(Instr.loadAt 38 (.pointer (some ⟨w.heap.size,0,none⟩))).run prog w'=.ok (al p) w'/\(w'.cell? ⟨w.heap.size,0,none⟩=some (.int .i64 p.op)/\w'.cell? ⟨w.heap.size,1,none⟩=some (.slice p.path.A p.path.n p.path.c)/\w'.cell? ⟨w.heap.size,7,none⟩=some (.slice p.args.A p.args.n p.args.c)/\w'.cell? ⟨w.heap.size,8,none⟩=some (.int .i64 p.n)/\w'.cell? ⟨w.heap.size,24,none⟩=some (.slice p.kA p.kn p.kc))/\w'.cell? ⟨w.heap.size+1,0,none⟩=some (.int .i64 c.k)/\w'.cell? ⟨w.heap.size+1,1,none⟩=some (.int .i64 c.n)/\w'.cell? ⟨w.heap.size+1,2,none⟩=some (.string c.t)/\w'.cell? ⟨w.heap.size+1,3,none⟩=some (.slice c.LA c.ln c.lc)/\w'.cell? ⟨w.heap.size+1,4,none⟩=some (.slice c.DA c.dn c.dc)) w'):=qD fun w' hb=>by
  have C0:=B0.out.step hb;obtain⟨d0,d1,-,-,d7,d8,-,d24⟩:=aU C0;obtain⟨a0,a1,a2,a3,a4⟩:=aO.Mp (B1.out.step hb);exact⟨Qy w' w.heap.size 2 29 p.arg.1.list _ (bZ C0) Pj rfl kR,iW (bL p) rfl _ _ C0,⟨d0,d1,d7,d8,d24⟩,a0,a1,a2,a3,a4⟩
 obtain⟨d0,d1,-,-,d7,d8,-,d24⟩:=aU B0.out;obtain⟨a0,a1,a2,a3,a4⟩:=aO.Mp B1.out;by_cases h1:p.op=1
 ·have HO:=qD h1;rw[h1] at d0;clear h1;go_wp2;go_ret;exact am.of (iw.any (by have:=HO.out;omega) (by have:=HO.out;omega) (by have:=HO.out;omega)) BE.out
 by_cases h2:p.op=2
 ·have HO:=qD h2;have HLV:=qD fun(wr:World) (hb:Bl wa wr)=>HLV0.out oM wr (BE.out.Ml hb);rw[h2] at d0;clear h2;go_upto_region 5 with fail
  have B:=qD ((OG wa.heap.size wa).drewN 1);refine PH ?_;refine Oy (S:=(fun w'=>(Instr.loadAt 29 (.pointer (some ⟨w.heap.size,2,none⟩))).run prog w'=.ok (.agg p.arg.1.list.toArray) w'/\(Instr.loadAt 38 (.pointer (some ⟨w.heap.size,0,none⟩))).run prog w'=.ok (al p) w'/\(w'.cell? ⟨w.heap.size,0,none⟩=some (.int .i64 p.op)/\w'.cell? ⟨w.heap.size,1,none⟩=some (.slice p.path.A p.path.n p.path.c)/\w'.cell? ⟨w.heap.size,7,none⟩=some (.slice p.args.A p.args.n p.args.c)/\w'.cell? ⟨w.heap.size,8,none⟩=some (.int .i64 p.n)/\w'.cell? ⟨w.heap.size,24,none⟩=some (.slice p.kA p.kn p.kc))/\w'.cell? ⟨w.heap.size+1,0,none⟩=some (.int .i64 c.k)/\w'.cell? ⟨w.heap.size+1,1,none⟩=some (.int .i64 c.n)/\w'.cell? ⟨w.heap.size+1,2,none⟩=some (.string c.t)/\w'.cell? ⟨w.heap.size+1,3,none⟩=some (.slice c.LA c.ln c.lc)/\w'.cell? ⟨w.heap.size+1,4,none⟩=some (.slice c.DA c.dn c.dc))) kR ?_ (fun hHeld=>?_)
  ·(try dsimp only);exact KS.out _ B.out
  refine rV 0 rfl ?_
  try go_frame
  refine rV 1 rfl ?_
  try go_frame
  refine rV 2 rfl ?_
  try go_frame
  refine rV 4 rfl ?_
  try go_frame
  refine rT (v:=.agg p.arg.1.list.toArray) 5 rfl (fun w' hSw=>bm (p:=.pointer (some ⟨w.heap.size,2,none⟩)) rfl rfl hSw.1) ?_
  try go_frame
  refine rY 3 rfl fun K hK=>?_;go_simp;refine(HLV.out _ B.out).mono ?_;rintro e3 w3 ⟨A1,M,c1,ps,rfl,hsr,hlf,hM,hb3⟩;have HSR:=qD hsr;have HLF:=qD hlf.fn;have HRV:Hid (∀q∈ps,RW w3 q.1 q.2):=qD fun q hq=>((hlf.rv q hq).step hb3).mono fun _ _=>trivial;have HM:=qD hM;replace B:=qD (B.out.Ml hb3);clear hsr hlf hM hb3
  (try go_wp2_with fail)
  clear hHeld;refine hK.out _ _ (KS.out _ B.out) fun hHeld=>?_;clear hK K
  try go_frame
  refine rY 6 rfl fun K hK=>?_;go_simp;refine(ls ps p.arg.2 p.arg.1 A1 M c1 _ HSR.out HRV.out (HAR.out.step (BE.out.Ml B.out)) HM.out).mono ?_;rintro e4 w4 ⟨rfl,hb4⟩;rw[jT HLF.out (lD p.arg.2)];replace B:=qD (B.out.Ml hb4);clear hb4
  (try go_wp2_with fail)
  clear hHeld;refine hK.out _ _ (KS.out _ B.out) fun hHeld=>?_;clear hK K
  try go_frame
  refine rV 7 rfl ?_
  try go_frame
  refine rD ?_ _;refine PL ?_;clear hHeld
  all_goals
   go_wp2;go_ret;exact am.of (oQ.shut (oQ.OD HO.out rfl)) (BE.out.Ml B.out)
 by_cases h3:p.op=3
 ·have HO:=qD h3;have HLV:=qD fun(wr:World) (hb:Bl wa wr)=>HLV0.out oM wr (BE.out.Ml hb);rw[h3] at d0;clear h3;go_upto_region 7 with fail
  have B:=qD ((OG wa.heap.size wa).drewN 1);refine PH ?_;refine Oy (S:=(fun w'=>(Instr.loadAt 29 (.pointer (some ⟨w.heap.size,2,none⟩))).run prog w'=.ok (.agg p.arg.1.list.toArray) w'/\(Instr.loadAt 38 (.pointer (some ⟨w.heap.size,0,none⟩))).run prog w'=.ok (al p) w'/\(w'.cell? ⟨w.heap.size,0,none⟩=some (.int .i64 p.op)/\w'.cell? ⟨w.heap.size,1,none⟩=some (.slice p.path.A p.path.n p.path.c)/\w'.cell? ⟨w.heap.size,7,none⟩=some (.slice p.args.A p.args.n p.args.c)/\w'.cell? ⟨w.heap.size,8,none⟩=some (.int .i64 p.n)/\w'.cell? ⟨w.heap.size,24,none⟩=some (.slice p.kA p.kn p.kc))/\w'.cell? ⟨w.heap.size+1,0,none⟩=some (.int .i64 c.k)/\w'.cell? ⟨w.heap.size+1,1,none⟩=some (.int .i64 c.n)/\w'.cell? ⟨w.heap.size+1,2,none⟩=some (.string c.t)/\w'.cell? ⟨w.heap.size+1,3,none⟩=some (.slice c.LA c.ln c.lc)/\w'.cell? ⟨w.heap.size+1,4,none⟩=some (.slice c.DA c.dn c.dc))) kR ?_ (fun hHeld=>?_)
  ·(try dsimp only);exact KS.out _ B.out
  refine rV 0 rfl ?_
  try go_frame
  refine rV 1 rfl ?_
  try go_frame
  refine rV 2 rfl ?_
  try go_frame
  refine rV 4 rfl ?_
  try go_frame
  refine rT (v:=.agg p.arg.1.list.toArray) 5 rfl (fun w' hSw=>bm (p:=.pointer (some ⟨w.heap.size,2,none⟩)) rfl rfl hSw.1) ?_
  try go_frame
  refine rY 3 rfl fun K hK=>?_;go_simp;refine(HLV.out _ B.out).mono ?_;rintro e3 w3 ⟨A1,M,c1,ps,rfl,hsr,hlf,hM,hb3⟩;have HSR:=qD hsr;have HLF:=qD hlf.fn;have HRV:Hid (∀q∈ps,RW w3 q.1 q.2):=qD fun q hq=>((hlf.rv q hq).step hb3).mono fun _ _=>trivial;have HM:=qD hM;replace B:=qD (B.out.Ml hb3);clear hsr hlf hM hb3
  (try go_wp2_with fail)
  clear hHeld;refine hK.out _ _ (KS.out _ B.out) fun hHeld=>?_;clear hK K
  try go_frame
  refine rY 6 rfl fun K hK=>?_;go_simp;refine(ls ps p.arg.2 p.arg.1 A1 M c1 _ HSR.out HRV.out (HAR.out.step (BE.out.Ml B.out)) HM.out).mono ?_;rintro e4 w4 ⟨rfl,hb4⟩;rw[jT HLF.out (lD p.arg.2)];replace B:=qD (B.out.Ml hb4);clear hb4
  (try go_wp2_with fail)
  clear hHeld;refine hK.out _ _ (KS.out _ B.out) fun hHeld=>?_;clear hK K
  try go_frame
  refine rV 7 rfl ?_
  try go_frame
  refine rV 8 rfl ?_
  try go_frame
  refine rD ?_ _;refine PL ?_;clear hHeld
  all_goals
   go_wp2;go_ret;exact am.of (iw.any (by have:=HO.out;omega) (by have:=HO.out;omega) (by have:=HO.out;omega)) (BE.out.Ml B.out)
 by_cases h4:p.op=4\/p.op=5\/p.op=6\/p.op=7
 ·have HO4:=qD h4;have HLV:=qD fun(wr:World) (hb:Bl wa wr)=>HLV0.out oM wr (BE.out.Ml hb);rcases h4 with h4|h4|h4|h4
  all_goals
   rw[h4] at d0;clear h4;go_upto_region 12 with fail
   have B:=qD ((OG wa.heap.size wa).drewN 1);refine PH ?_;refine Oy (S:=(fun w'=>(Instr.loadAt 29 (.pointer (some ⟨w.heap.size,2,none⟩))).run prog w'=.ok (.agg p.arg.1.list.toArray) w'/\(Instr.loadAt 38 (.pointer (some ⟨w.heap.size,0,none⟩))).run prog w'=.ok (al p) w'/\(w'.cell? ⟨w.heap.size,0,none⟩=some (.int .i64 p.op)/\w'.cell? ⟨w.heap.size,1,none⟩=some (.slice p.path.A p.path.n p.path.c)/\w'.cell? ⟨w.heap.size,7,none⟩=some (.slice p.args.A p.args.n p.args.c)/\w'.cell? ⟨w.heap.size,8,none⟩=some (.int .i64 p.n)/\w'.cell? ⟨w.heap.size,24,none⟩=some (.slice p.kA p.kn p.kc))/\w'.cell? ⟨w.heap.size+1,0,none⟩=some (.int .i64 c.k)/\w'.cell? ⟨w.heap.size+1,1,none⟩=some (.int .i64 c.n)/\w'.cell? ⟨w.heap.size+1,2,none⟩=some (.string c.t)/\w'.cell? ⟨w.heap.size+1,3,none⟩=some (.slice c.LA c.ln c.lc)/\w'.cell? ⟨w.heap.size+1,4,none⟩=some (.slice c.DA c.dn c.dc))) kR ?_ (fun hHeld=>?_)
   ·(try dsimp only);exact KS.out _ B.out
   refine rV 0 rfl ?_
   try go_frame
   refine rV 1 rfl ?_
   try go_frame
   refine rV 2 rfl ?_
   try go_frame
   refine rV 4 rfl ?_
   try go_frame
   refine rV 5 rfl ?_
   try go_frame
   refine rV 6 rfl ?_
   try go_frame
   refine rT (v:=.agg p.arg.1.list.toArray) 7 rfl (fun w' hSw=>bm (p:=.pointer (some ⟨w.heap.size,2,none⟩)) rfl rfl hSw.1) ?_
   try go_frame
   refine rY 3 rfl fun K hK=>?_;go_simp;refine(HLV.out _ B.out).mono ?_;rintro e3 w3 ⟨A1,M,c1,ps,rfl,hsr,hlf,hM,hb3⟩;have HSR:=qD hsr;have HLF:=qD hlf.fn;have HRV:Hid (∀q∈ps,RW w3 q.1 q.2):=qD fun q hq=>((hlf.rv q hq).step hb3).mono fun _ _=>trivial;have HM:=qD hM;replace B:=qD (B.out.Ml hb3);clear hsr hlf hM hb3
   (try go_wp2_with fail)
   clear hHeld;refine hK.out _ _ (KS.out _ B.out) fun hHeld=>?_;clear hK K
   try go_frame
   refine rY 8 rfl fun K hK=>?_;go_simp;refine(sY ps p.op p.arg.2 p.arg.1 A1 M c1 _ HSR.out HRV.out (HAR.out.step (BE.out.Ml B.out)) HM.out HO4.out).mono ?_;rintro e4 w4 ⟨rfl,hb4⟩;rw[jT HLF.out (iE p.op p.arg.2)];replace B:=qD (B.out.Ml hb4);clear hb4
   (try go_wp2_with fail)
   clear hHeld;refine hK.out _ _ (KS.out _ B.out) fun hHeld=>?_;clear hK K
   try go_frame
   refine rV 9 rfl ?_
   try go_frame
   refine rD ?_ _;refine PL ?_;clear hHeld
   all_goals
    go_wp2;go_ret;exact am.of (oQ.shut (oQ.OE HO4.out rfl)) (BE.out.Ml B.out)
 by_cases h8:p.op=8
 ·have HO:=qD h8;have HAG:=qD fun(wr:World) (hb:Bl wa wr)=>HAG0.out oM wr (BE.out.Ml hb);rw[h8] at d0;clear h8;have RF:=qD (cg B0.out)
  go_wp2_with (first
   | ((with_reducible show wpList _ _ _ (⟨_,.load 38 _,_,_,_,_⟩::_) _ _);refine aH rfl 38 _ rfl w.heap.size 0 rfl _ _ RF.out Oq rfl kR ?_)
   | (go_at_call 102;refine(HAG.out _ (OG _ _)).mono ?_;rintro e w1 ⟨rfl,hb⟩;have HB1:=qD hb;clear hb))
  go_ret;exact am.of (oQ.shut (oQ.OF HO.out HAL.out)) (BE.out.Ml HB1.out)
 by_cases h9:p.op=9
 ·have HO:=qD h9;have HAG:=qD fun(wr:World) (hb:Bl wa wr)=>HAG0.out oM wr (BE.out.Ml hb);rw[h9] at d0;clear h9;have RF:=qD (cg B0.out)
  go_wp2_with (first
   | ((with_reducible show wpList _ _ _ (⟨_,.load 38 _,_,_,_,_⟩::_) _ _);refine aH rfl 38 _ rfl w.heap.size 0 rfl _ _ RF.out Oq rfl kR ?_)
   | (go_at_call 102;refine(HAG.out _ (OG _ _)).mono ?_;rintro e w1 ⟨rfl,hb⟩;have HB1:=qD hb;clear hb))
  go_ret;exact am.of (iw.any (by have:=HO.out;omega) (by have:=HO.out;omega) (by have:=HO.out;omega)) (BE.out.Ml HB1.out)
 by_cases h14:p.op=14
 ·have HO:=qD h14;have HAG:=qD fun(wr:World) (hb:Bl wa wr)=>HAG0.out oM wr (BE.out.Ml hb);rw[h14] at d0;clear h14;go_upto_region 18 with fail
  have B:=qD ((OG wa.heap.size wa).drewN 1);refine PH ?_;refine Oy (S:=(fun w'=>(Instr.loadAt 29 (.pointer (some ⟨w.heap.size,2,none⟩))).run prog w'=.ok (.agg p.arg.1.list.toArray) w'/\(Instr.loadAt 38 (.pointer (some ⟨w.heap.size,0,none⟩))).run prog w'=.ok (al p) w'/\(w'.cell? ⟨w.heap.size,0,none⟩=some (.int .i64 p.op)/\w'.cell? ⟨w.heap.size,1,none⟩=some (.slice p.path.A p.path.n p.path.c)/\w'.cell? ⟨w.heap.size,7,none⟩=some (.slice p.args.A p.args.n p.args.c)/\w'.cell? ⟨w.heap.size,8,none⟩=some (.int .i64 p.n)/\w'.cell? ⟨w.heap.size,24,none⟩=some (.slice p.kA p.kn p.kc))/\w'.cell? ⟨w.heap.size+1,0,none⟩=some (.int .i64 c.k)/\w'.cell? ⟨w.heap.size+1,1,none⟩=some (.int .i64 c.n)/\w'.cell? ⟨w.heap.size+1,2,none⟩=some (.string c.t)/\w'.cell? ⟨w.heap.size+1,3,none⟩=some (.slice c.LA c.ln c.lc)/\w'.cell? ⟨w.heap.size+1,4,none⟩=some (.slice c.DA c.dn c.dc))) kR ?_ (fun hHeld=>?_)
  ·(try dsimp only);exact KS.out _ B.out
  refine rT (v:=al p) 0 rfl (fun w' hSw=>bm (p:=.pointer (some ⟨w.heap.size,0,none⟩)) rfl rfl hSw.2.1) ?_
  try go_frame
  refine rV 1 rfl ?_
  try go_frame
  refine rV 3 rfl ?_
  try go_frame
  refine rV 4 rfl ?_
  try go_frame
  refine rV 5 rfl ?_
  try go_frame
  refine rY 2 rfl fun K hK=>?_;go_simp;refine(HAG.out _ B.out).mono ?_;rintro e3 w3 ⟨rfl,hb3⟩;replace B:=qD (B.out.Ml hb3);clear hb3
  (try go_wp2_with fail)
  clear hHeld;refine hK.out _ _ (KS.out _ B.out) fun hHeld=>?_;clear hK K
  try go_frame
  refine rV 6 rfl ?_
  try go_frame
  refine rV 7 rfl ?_
  try go_frame
  refine rD ?_ _;refine PL ?_;clear hHeld
  all_goals
   go_wp2;go_ret;exact am.of (iw.any (by have:=HO.out;omega) (by have:=HO.out;omega) (by have:=HO.out;omega)) (BE.out.Ml B.out)
 by_cases h10:p.op=10
 ·have HO:=qD h10;have HSM:=qD fun(wr:World) (hb:Bl wa wr)=>HSM0.out oM wr (BE.out.Ml hb);rw[h10] at d0;clear h10;go_upto_region 20 with fail
  have B:=qD ((OG wa.heap.size wa).drewN 1);refine PH ?_;refine Oy (S:=(fun w'=>(Instr.loadAt 29 (.pointer (some ⟨w.heap.size,2,none⟩))).run prog w'=.ok (.agg p.arg.1.list.toArray) w'/\(Instr.loadAt 38 (.pointer (some ⟨w.heap.size,0,none⟩))).run prog w'=.ok (al p) w'/\(w'.cell? ⟨w.heap.size,0,none⟩=some (.int .i64 p.op)/\w'.cell? ⟨w.heap.size,1,none⟩=some (.slice p.path.A p.path.n p.path.c)/\w'.cell? ⟨w.heap.size,7,none⟩=some (.slice p.args.A p.args.n p.args.c)/\w'.cell? ⟨w.heap.size,8,none⟩=some (.int .i64 p.n)/\w'.cell? ⟨w.heap.size,24,none⟩=some (.slice p.kA p.kn p.kc))/\w'.cell? ⟨w.heap.size+1,0,none⟩=some (.int .i64 c.k)/\w'.cell? ⟨w.heap.size+1,1,none⟩=some (.int .i64 c.n)/\w'.cell? ⟨w.heap.size+1,2,none⟩=some (.string c.t)/\w'.cell? ⟨w.heap.size+1,3,none⟩=some (.slice c.LA c.ln c.lc)/\w'.cell? ⟨w.heap.size+1,4,none⟩=some (.slice c.DA c.dn c.dc))) kR ?_ (fun hHeld=>?_)
  ·(try dsimp only);exact KS.out _ B.out
  refine rT (v:=al p) 0 rfl (fun w' hSw=>bm (p:=.pointer (some ⟨w.heap.size,0,none⟩)) rfl rfl hSw.2.1) ?_
  try go_frame
  refine rV 1 rfl ?_
  try go_frame
  refine rV 3 rfl ?_
  try go_frame
  refine rV 4 rfl ?_
  try go_frame
  refine rV 5 rfl ?_
  try go_frame
  refine rY 2 rfl fun K hK=>?_;go_simp;refine(HSM.out _ B.out).mono ?_;rintro e3 w3 ⟨r,rfl,_,hb3⟩;replace B:=qD (B.out.Ml hb3);clear hb3
  (try go_wp2_with fail)
  clear hHeld;refine hK.out _ _ (KS.out _ B.out) fun hHeld=>?_;clear hK K
  try go_frame
  refine rV 6 rfl ?_
  try go_frame
  refine rV 7 rfl ?_
  try go_frame
  refine rD ?_ _;refine PL ?_;clear hHeld
  all_goals
   go_wp2;go_ret;exact am.of (iw.any (by have:=HO.out;omega) (by have:=HO.out;omega) (by have:=HO.out;omega)) (BE.out.Ml B.out)
 by_cases h20:p.op=20
 ·have HO:=qD h20;have HKD:=qD fun(wr:World) (hb:Bl wa wr)=>HKD0.out oM wr (BE.out.Ml hb);rw[h20] at d0;clear h20;go_upto_region 22 with fail
  have B:=qD ((OG wa.heap.size wa).drewN 1);refine PH ?_;refine Oy (S:=(fun w'=>(Instr.loadAt 29 (.pointer (some ⟨w.heap.size,2,none⟩))).run prog w'=.ok (.agg p.arg.1.list.toArray) w'/\(Instr.loadAt 38 (.pointer (some ⟨w.heap.size,0,none⟩))).run prog w'=.ok (al p) w'/\(w'.cell? ⟨w.heap.size,0,none⟩=some (.int .i64 p.op)/\w'.cell? ⟨w.heap.size,1,none⟩=some (.slice p.path.A p.path.n p.path.c)/\w'.cell? ⟨w.heap.size,7,none⟩=some (.slice p.args.A p.args.n p.args.c)/\w'.cell? ⟨w.heap.size,8,none⟩=some (.int .i64 p.n)/\w'.cell? ⟨w.heap.size,24,none⟩=some (.slice p.kA p.kn p.kc))/\w'.cell? ⟨w.heap.size+1,0,none⟩=some (.int .i64 c.k)/\w'.cell? ⟨w.heap.size+1,1,none⟩=some (.int .i64 c.n)/\w'.cell? ⟨w.heap.size+1,2,none⟩=some (.string c.t)/\w'.cell? ⟨w.heap.size+1,3,none⟩=some (.slice c.LA c.ln c.lc)/\w'.cell? ⟨w.heap.size+1,4,none⟩=some (.slice c.DA c.dn c.dc))) kR ?_ (fun hHeld=>?_)
  ·(try dsimp only);exact KS.out _ B.out
  refine rT (v:=al p) 0 rfl (fun w' hSw=>bm (p:=.pointer (some ⟨w.heap.size,0,none⟩)) rfl rfl hSw.2.1) ?_
  try go_frame
  refine rV 1 rfl ?_
  try go_frame
  refine rV 3 rfl ?_
  try go_frame
  refine rV 4 rfl ?_
  try go_frame
  refine rV 5 rfl ?_
  try go_frame
  refine rY 2 rfl fun K hK=>?_;go_simp;refine(HKD.out _ B.out).mono ?_;rintro e3 w3 ⟨bs,rfl,hbs,hb3⟩;have HBS:=qD hbs;replace B:=qD (B.out.Ml hb3);clear hb3 hbs
  (try go_wp2_with fail)
  clear hHeld;refine hK.out _ _ (KS.out _ B.out) fun hHeld=>?_;clear hK K
  try go_frame
  refine rV 6 rfl ?_
  try go_frame
  refine rV 7 rfl ?_
  try go_frame
  refine rD ?_ _;refine PL ?_;clear hHeld
  all_goals
   go_wp2;go_ret;exact am.of (oQ.shut (oQ.Nx HO.out HBS.out (by rw[HKL.out]))) (BE.out.Ml B.out)
 by_cases h21:p.op=21
 ·have HO:=qD h21;have HKD:=qD fun(wr:World) (hb:Bl wa wr)=>HKD0.out oM wr (BE.out.Ml hb);rw[h21] at d0;clear h21;have RF:=qD (cg B0.out)
  go_wp2_with (first
   | ((with_reducible show wpList _ _ _ (⟨_,.load 38 _,_,_,_,_⟩::_) _ _);refine aH rfl 38 _ rfl w.heap.size 0 rfl _ _ RF.out Oq rfl kR ?_)
   | (go_at_call 104;refine(HKD.out _ (OG _ _)).mono ?_;rintro e w1 ⟨bs,rfl,hbs,hb⟩;have HBS:=qD hbs;have HB1:=qD hb;clear hb hbs))
  go_ret;exact am.of (oQ.shut (oQ.Ny HO.out HBS.out)) (BE.out.Ml HB1.out)
 by_cases h22:p.op=22
 ·have HO:=qD h22;have HKD:=qD fun(wr:World) (hb:Bl wa wr)=>HKD0.out oM wr (BE.out.Ml hb);rw[h22] at d0;clear h22;have RF:=qD (cg B0.out)
  go_wp2_with (first
   | ((with_reducible show wpList _ _ _ (⟨_,.load 38 _,_,_,_,_⟩::_) _ _);refine aH rfl 38 _ rfl w.heap.size 0 rfl _ _ RF.out Oq rfl kR ?_)
   | (go_at_call 104;refine(HKD.out _ (OG _ _)).mono ?_;rintro e w1 ⟨bs,rfl,hbs,hb⟩;have HBS:=qD hbs;have HB1:=qD hb;clear hb hbs))
  go_ret;exact am.of (iw.any (by have:=HO.out;omega) (by have:=HO.out;omega) (by have:=HO.out;omega)) (BE.out.Ml HB1.out)
 by_cases h23:p.op=23
 ·have HO:=qD h23;have HKD:=qD fun(wr:World) (hb:Bl wa wr)=>HKD0.out oM wr (BE.out.Ml hb);rw[h23] at d0;clear h23;have RF:=qD (cg B0.out)
  go_wp2_with (first
   | ((with_reducible show wpList _ _ _ (⟨_,.load 38 _,_,_,_,_⟩::_) _ _);refine aH rfl 38 _ rfl w.heap.size 0 rfl _ _ RF.out Oq rfl kR ?_)
   | (go_at_call 104;refine(HKD.out _ (OG _ _)).mono ?_;rintro e w1 ⟨bs,rfl,hbs,hb⟩;have HBS:=qD hbs;have HB1:=qD hb;clear hb hbs))
  go_ret;exact am.of (iw.any (by have:=HO.out;omega) (by have:=HO.out;omega) (by have:=HO.out;omega)) (BE.out.Ml HB1.out)
 by_cases h24:p.op=24
 ·have HO:=qD h24;rw[h24] at d0;clear h24;have RE:=qD (mb B0.out)
  go_wp2_with (first
   | ((with_reducible show wpList _ _ _ (⟨_,.load 35 _,_,_,_,_⟩::_) _ _);refine aH rfl 35 _ rfl w.heap.size 13 rfl _ _ RE.out Pe rfl kR ?_)
   | (go_at_call 106;refine(HEV.out _ BE.out).mono ?_;rintro e w1 ⟨d,rfl,hb⟩;have HB1:=qD hb;clear hb)
   | (go_at_call 105;refine(zt d _).mono ?_;rintro e w2 ⟨r,rfl,_,hb⟩;have HB2:=qD hb;clear hb))
  go_ret;exact am.of (iw.any (by have:=HO.out;omega) (by have:=HO.out;omega) (by have:=HO.out;omega)) (BE.out.Ml (HB1.out.Ml HB2.out))
 have hop:=V.out.op;have c1:(p.op==1)=false:=by simp only[PJ,Si];omega
 have c2:(p.op==2)=false:=by simp only[PJ,Si];omega
 have c3:(p.op==3)=false:=by simp only[PJ,Si];omega
 have c4:(p.op==4)=false:=by simp only[PJ,Si];omega
 have c5:(p.op==5)=false:=by simp only[PJ,Si];omega
 have c6:(p.op==6)=false:=by simp only[PJ,Si];omega
 have c7:(p.op==7)=false:=by simp only[PJ,Si];omega
 have c8:(p.op==8)=false:=by simp only[PJ,Si];omega
 have c9:(p.op==9)=false:=by simp only[PJ,Si];omega
 have c14:(p.op==14)=false:=by simp only[PJ,Si];omega
 have c10:(p.op==10)=false:=by simp only[PJ,Si];omega
 have c20:(p.op==20)=false:=by simp only[PJ,Si];omega
 have c21:(p.op==21)=false:=by simp only[PJ,Si];omega
 have c22:(p.op==22)=false:=by simp only[PJ,Si];omega
 have c23:(p.op==23)=false:=by simp only[PJ,Si];omega
 have c24:(p.op==24)=false:=by simp only[PJ,Si];omega
 have HSM:=qD fun(wr:World) (hb:Bl wa wr)=>HSM0.out oM wr (BE.out.Ml hb);have HFI:Hid (∀b,fu p x b->oQ p x b):=qD fun b h=>oQ.some h2 h4 h8 h20 h21 h;clear hop h1 h2 h3 h4 h8 h9 h10 h14 h20 h21 h22 h23 h24;have RF:=qD (cg B0.out)
 go_wp2_with (first
  | ((with_reducible show wpList _ _ _ (⟨_,.load 38 _,_,_,_,_⟩::_) _ _);refine aH rfl 38 _ rfl w.heap.size 0 rfl _ _ RF.out Oq rfl kR ?_)
  | (go_at_call 103;refine(HSM.out _ (OG _ _)).mono ?_;rintro e w1 ⟨r,rfl,hr,hb⟩;have HSO:=qD hr;have HB1:=qD hb;clear hb hr))
 go_ret;exact am.of (oQ.shut (HFI.out _ HSO.out)) (BE.out.Ml HB1.out)
theorem Kc:Gk:=fun e x c w h1 h2 h3 h4=>AY e x c w h1 h2 h3.ok h4
theorem tz.of{x:aC}(h:aJ x=true):tz x:=by
 refine⟨(cf h).1,fun y hy h4=>?_,.inr h⟩;rcases oP hy (.inr h) with rfl|hv
 ·exact absurd h4 dE
 ·exact ut hv h4
theorem vA(HE:∀p,GN p)(p:aj)(x:aC)(c:VC)(w:World)(hw:WP w p)(hv:oZ p)(hx:RW w c x)(hok:tz x)(hS:dP w)(hT:cZ w):
 Calls prog 11 #[al p,c.val] w (am (fun b=>(b=true->x.k=5)/\(x.k=5->iw p x b)) w):=by
 have HK:Hid (c.k=x.k):=qD hx.open.k;have HEL:Hid (∀wr,Bl w wr->Calls prog 38 #[al p,c.val] wr (am (iw p x) wr)):=qD fun wr hb=>HE p x c wr (hw.step hb) hv (hx.step hb) hok (hS.step hb) (hT.step hb);clear hw hv hx hok hS hT HE;go_enter func11,ntmps11;go_upto_region 1 with fail
 refine yS (bL p) 38 c.arr 29 ?_;intro wa B0 B1 BE;obtain⟨a0,a1,a2,a3,a4⟩:=aO.Mp B1.out;cases hk:(c.k==5)
 ·have HK5:Hid (x.k≠5):=qD (by rw[<-HK.out];simpa using hk);go_wp2;go_ret;exact am.of ⟨fun h=>Bool.noConfusion h,fun h=>absurd h HK5.out⟩ BE.out
 ·have HK5:Hid (x.k=5):=qD (by rw[<-HK.out];simpa using hk);have RF:=qD (cg B0.out);have HEW:=qD (HEL.out wa BE.out)
  go_wp2_with (first
   | ((with_reducible show wpList _ _ _ (⟨_,.load 38 _,_,_,_,_⟩::_) _ _);refine aH rfl 38 _ rfl w.heap.size 0 rfl _ _ RF.out Oq rfl kR ?_)
   | (go_at_call 38;refine HEW.out.mono ?_;rintro e w1 ⟨r,rfl,hr,hb⟩;have HR:=qD hr;have HB1:=qD hb;clear hb hr))
  go_ret;exact am.of ⟨fun _=>HK5.out,fun _=>HR.out⟩ (BE.out.Ml HB1.out)
theorem Dv(p:aj)(x:aC)(c:VC)(w:World)(hw:WP w p)(hv:oZ p)(hx:RW w c x)(hok:aJ x=true)(hS:dP w)(hT:cZ w):
 Calls prog 11 #[al p,c.val] w (am (fun b=>(b=true->x.k=5)/\(x.k=5->iw p x b)) w):=
 vA (fun p=>Gn Kc p) p x c w hw hv hx (.of hok) hS hT
end
structure Kd(w:World)(k P D:Array Value)(wr:World):Prop where
 b0:aG wr w.heap.size 24 k
 b1:aG wr (w.heap.size+1) 38 P
 b2:aG wr (w.heap.size+2) 29 D
 bel:Bl w wr
section
variable {k n c size:Nat} {w w' wr:World} {P:Program} {x:Int} {A:Option Addr} {ha:Bool}
theorem Kd.step{k P D:Array Value}(h:Kd w k P D wr)(hb:Bl wr w'):Kd w k P D w':=⟨h.b0.step hb,h.b1.step hb,h.b2.step hb,h.bel.Ml hb⟩
theorem Kd.start{k P D:Array Value}:Kd w k P D (((w.alloc (.cells k 24)).alloc (.cells P 38)).alloc (.cells D 29)):=
 ⟨((aG.Mm rfl).alloc _).alloc _,(aG.Mm sM).alloc _,aG.Mm sM,(((OG _ _).alloc (qL) _).alloc sM _).alloc sO _⟩
theorem lE(ks:List Od)(ha:Bool)(A:Option Addr)(n cc:Nat)(p:aj)(x:aC)(c:VC)(w:World)(hT:cZ w)(hS:dP w)(hk:KS w A n cc ks)(hp:WP w p)(hn:jN p)(hx:RW w c x)(hnx:bS x):
 Calls prog 3 #[.agg #[.slice A n cc,.bool ha],al p,c.val] w (Rt w (.bool true)):=by
 have HT:=qD hT;have HST:=qD hS;have HN:=qD hk.ln;have HK:=qD hk;have HP:=qD hp;have NP:=qD hn;have HX:=qD hx;have NX:=qD hnx;have hnz:(n:Int)<=8796093022208:=by obtain⟨os,h⟩:=hk;have:=h.sz;unfold aF at this;omega
 have I0:Hid (Kd w #[.slice A n cc,.bool ha] (bL p) c.arr (((w.alloc (.cells #[.slice A n cc,.bool ha] 24)).alloc (.cells (bL p) 38)).alloc (.cells c.arr 29))):=Kd.start;clear hk hp hT hn hx hnx hS;go_enter func3,ntmps3;go_upto_region 1 with fail
 change Code.wp _ _ _ _ (((w.alloc (.cells #[.slice A n cc,.bool ha] 24)).alloc (.cells (bL p) 38)).alloc (.cells c.arr 29));generalize (((w.alloc (.cells #[.slice A n cc,.bool ha] 24)).alloc (.cells (bL p) 38)).alloc (.cells c.arr 29))=wa at*;have k0:=I0.out.b0.cell 0;have k1:=I0.out.b0.cell 1;simp at k0 k1;by_cases h20:20<n
 ·have h20':(20:Int)<(n:Int):=oM
  go_wp2_with fail;refine(ea wa (HT.out.step I0.out.bel)).mono ?_;rintro e w1 ⟨rfl,hb⟩;have CE:=qD (I0.out.bel.Ml hb);clear hb I0;go_wp2;go_ret;exact⟨rfl,CE.out⟩
 have h20':¬((20:Int)<(n:Int)):=oM
 have HV:=qD (sj ks ha A n cc wa (HK.out.step I0.out.bel));by_cases hE:il ks ha=0;rotate_left
 ·have hEb:(il ks ha != 0)=true:=by simpa using hE
  obtain⟨E,hEE⟩:∃E,il ks ha=E:=⟨_,rfl⟩;rw[hEE] at HV hEb;clear hE hEE;go_wp2_with fail;refine HV.out.mono ?_;rintro e w1 ⟨rfl,hb⟩;have CE:=qD (I0.out.bel.Ml hb);clear hb I0 HV k0 k1;go_wp2_with fail;refine(ea w1 (HT.out.step CE.out)).mono ?_;rintro e w2 ⟨rfl,hb⟩;have DE:=qD (CE.out.Ml hb);clear hb CE;go_wp2;go_ret;exact⟨rfl,DE.out⟩
 rw[hE] at HV;have HKP:=qD (zo hE);clear hE;go_wp2_with fail;refine HV.out.mono ?_;rintro e w1 ⟨rfl,hb⟩;have I1:=qD (I0.out.step hb);clear hb HV I0 k0 k1;have RF:=qD (cg I1.out.b1);go_wp2_with ((with_reducible show wpList _ _ _ (⟨_,.load 38 _,_,_,_,_⟩::_) _ _);refine aH rfl 38 _ rfl (w.heap.size+1) 0 rfl _ _ RF.out Oq rfl kR ?_);refine(DW p w1 (HP.out.step I1.out.bel) (HT.out.step I1.out.bel)).mono ?_;rintro e w2 ⟨er,rfl,hv,hb⟩;have I2:=qD (I1.out.step hb);have HV:=qD hv;clear hb hv I1 RF;by_cases he:er=0;rotate_left
 ·have heb:(er != 0)=true:=by simpa using he
  clear he HV;go_wp2_with fail;refine(ea w2 (HT.out.step I2.out.bel)).mono ?_;rintro e w3 ⟨rfl,hb⟩;have DE:=qD (I2.out.bel.Ml hb);clear hb I2;go_wp2;go_ret;exact⟨rfl,DE.out⟩
 subst he;have VP:=qD (HV.out rfl);clear HV;obtain⟨a0,a1,a2,a3,a4⟩:=aO.Mp I2.out.b2;have HV:=qD (di x c w2 (HX.out.step I2.out.bel));cases hvx:aJ x
 ·rw[hvx] at HV;clear hvx;go_wp2_with fail;refine HV.out.mono ?_;rintro e w3 ⟨rfl,hb⟩;have DE:=qD (I2.out.bel.Ml hb);clear hb I2 HV a0 a1 a2 a3 a4;go_wp2_with fail;refine(ea w3 (HT.out.step DE.out)).mono ?_;rintro e w4 ⟨rfl,hb⟩;have EE:=qD (DE.out.Ml hb);clear hb DE;go_wp2;go_ret;exact⟨rfl,EE.out⟩
 rw[hvx] at HV;have VX:Hid (aJ x=true):=qD hvx;clear hvx;go_wp2_with fail;refine HV.out.mono ?_;rintro e w3 ⟨rfl,hb⟩;have I3:=qD (I2.out.step hb);clear hb I2 HV a0 a1 a2 a3 a4;obtain⟨a0,a1,a2,a3,a4⟩:=aO.Mp I3.out.b2;have k0:=I3.out.b0.cell 0;have k1:=I3.out.b0.cell 1;simp at k0 k1;have HEA:=qD (vi ks ha A n cc x c w3 (HT.out.step I3.out.bel) (HK.out.step I3.out.bel) (HX.out.step I3.out.bel) HKP.out.1);cases hvr:jA ks x with
 | none=>
  rw[mP hvr] at HEA;clear hvr;go_wp2_with fail;refine HEA.out.mono ?_;rintro e w4 ⟨rfl,hb⟩;have DE:=qD (I3.out.bel.Ml hb);clear hb HEA I3 a0 a1 a2 a3 a4 k0 k1;go_wp2_with fail;refine(ea w4 (HT.out.step DE.out)).mono ?_;rintro e w5 ⟨rfl,hb⟩;have EE:=qD (DE.out.Ml hb);clear hb DE;go_wp2;go_ret;exact⟨rfl,EE.out⟩
 | some ys=>
 have HVR:=qD hvr;obtain⟨⟨K1,K2⟩,hKK⟩:∃K,nD ks ha x=K:=⟨_,rfl⟩;have hK2:K2=0:=by have:=JT (ha:=ha) hvr NX.out;rw[hKK] at this;exact congrArg Prod.snd this
 subst hK2;rw[hKK] at HEA;have HKK:=qD hKK;clear hvr hKK;go_wp2_with fail;refine HEA.out.mono ?_;rintro e w4 ⟨rfl,hb⟩;have I4:=qD (I3.out.step hb);clear hb HEA I3 a0 a1 a2 a3 a4 k0 k1;obtain⟨a0,a1,a2,a3,a4⟩:=aO.Mp I4.out.b2;have RF:=qD (cg I4.out.b1);have HM:=qD (Dv p x c w4 (HP.out.step I4.out.bel) VP.out.1 (HX.out.step I4.out.bel) VX.out (HST.out.step I4.out.bel) (HT.out.step I4.out.bel));go_wp2_with ((with_reducible show wpList _ _ _ (⟨_,.load 38 _,_,_,_,_⟩::_) _ _);refine aH rfl 38 _ rfl (w.heap.size+1) 0 rfl _ _ RF.out Oq rfl kR ?_);refine HM.out.mono ?_;rintro e w5 ⟨b,rfl,hbm,hb⟩;have I5:=qD (I4.out.step hb);have HB:=qD hbm;clear hb hbm HM I4 RF a0 a1 a2 a3 a4;cases b
 ·clear HB;go_wp2_with fail;refine(ea w5 (HT.out.step I5.out.bel)).mono ?_;rintro e w6 ⟨rfl,hb⟩;have DE:=qD (I5.out.bel.Ml hb);clear hb I5;go_wp2;go_ret;exact⟨rfl,DE.out⟩
 have HEL:=qD (HB.out.2 (HB.out.1 rfl));clear HB;have hn0:0<n:=by have:=HKP.out.2.1;have:=HN.out;omega
 obtain⟨kb,ko,o,q,rfl,hko,hst,hq⟩:=HK.out.first hn0;have HQ:=qD hq;have HG:=qD (EX q.p NP.out)
 have HR:Hid (∀wr,Bl w wr->Calls prog 12 #[.agg #[.slice (some ⟨kb,ko,none⟩) n cc,.bool ha],al p] wr (xN ha (gN q.p p).1 wr)):=qD fun wr hb=>
  zh p ha q.p o kb ko n cc wr (HT.out.step hb) hn0 ((hb.cell (p:=⟨kb,ko,none⟩) (Oj w _ hko)).trans hko) (hst.step hb) (HP.out.step hb) VP.out.1 (OU (LI HP.out) (by have:=VP.out.2;omega)) HG.out
 clear hko hst hq;have k0:=I5.out.b0.cell 0;have k1:=I5.out.b0.cell 1;simp at k0 k1;have RF:=qD (cg I5.out.b1);go_wp2_with ((with_reducible show wpList _ _ _ (⟨_,.load 38 _,_,_,_,_⟩::_) _ _);refine aH rfl 38 _ rfl (w.heap.size+1) 0 rfl _ _ RF.out Oq rfl kR ?_);refine(HR.out _ I5.out.bel).mono ?_;rintro e w6 ⟨A3,m3,c3,nf,L,rfl,hnf,hran,hsr,hm3',hb⟩;have I6:=qD (I5.out.bel.Ml hb)
 have HC:Hid (∃r∈L,yR K1 r):=qD (by
  have:=KU (ks:=ks) (ha:=ha) (x:=x) (L:=L) HQ.out HVR.out NX.out (fun h=>HKP.out.2.2 h) (fun y hy vy ny=>by
   obtain⟨v,hv,h⟩:=KQ (Lu.key hy vy ((fT _).1 ny).1) VP.out.1 HEL.out
   rwa [Ox.1 hv] at h) HG.out hnf hran
  rwa [HKK.out] at this)
 have HS:=qD hsr;have HLN:=qD hsr.ln;have hm3:m3<=140737488355328:=oM
 clear hb hnf hran hsr I5 RF k0 k1 HR;obtain⟨r0,hr0,hcov⟩:=HC.out;obtain⟨jj,hjj,hjr⟩:=Sg.1 hr0;have hjm:jj<m3:=by have:=HLN.out;omega
 have HJ:Hid (L[jj]?=some r0):=qD (OI.2 ⟨hjj,hjr⟩);have HCV:=qD hcov;clear hr0 hcov hjj hjr HC;go_upto_region 8 with fail
 go_loopw [10] (fun v wr=>∃i:Nat,i<=jj/\v=.int .i64 i/\Bl w6 wr) (fun v _=>m3-(intOf v).toNat)
 ·exact⟨0,ON _,rfl,OG _ _⟩
 case round=>
  obtain⟨i,hi,rfl,hbel⟩:=hrel;have HB:=qD hbel;clear hbel;have hlt:i<m3:=oM
  obtain⟨b,off,r,rfl,hb,hr,hm,hrg⟩:=HS.out.row hlt;have e0:=(HB.out.cell (p:=⟨b,off+i*2,none⟩) hb).trans (hrg 0 _ rfl);have e1:=(HB.out.cell (p:=⟨b,off+i*2+1,none⟩) hb).trans (hrg 1 _ rfl);have i0:(0:Int)<=(i:Int):=oM
  have i1:(i:Int)<(m3:Int):=oM
  have HNC:Hid (yR K1 r\/i+1<=jj):=qD (by
   by_cases h:i=jj
   ·subst h
    have:=HJ.out
    rw[hr] at this
    obtain rfl:=QB this
    exact .inl HCV.out
   ·exact .inr oM)
  clear hrg hm hr hb;obtain⟨b0,hb0⟩:∃b0,Op.bytesLess r.1.toList K1.toList=b0:=⟨_,rfl⟩;obtain⟨b3,hb3⟩:∃b3,(r.1.toList==K1.toList)=b3:=⟨_,rfl⟩;obtain⟨b1,hb1⟩:∃b1,(r.2.toList==[])=b1:=⟨_,rfl⟩;obtain⟨b2,hb2⟩:∃b2,Op.bytesLess K1.toList r.2.toList=b2:=⟨_,rfl⟩
  have HF:Hid (((b0=true\/b3=true)/\(b1=true\/b2=true))\/i+1<=jj):=qD (by
   rcases HNC.out with h|h
   ·left
    refine⟨?_,?_⟩
    ·rcases qZ.tot r.1 K1 with k|k|k
     ·left;rw[<-hb0];exact Bg k
     ·right;rw[<-hb3,k];simp
     ·exact absurd k h.1
    rcases h.2 with h|h
    ·left;rw[<-hb1,QR];exact(kd _).2 h
    ·right;rw[<-hb2];exact Bg h
   ·exact .inr h)
  clear HNC;cases b0<;>cases b1<;>cases b2<;>cases b3
  all_goals go_wp2_with fail
  all_goals first
   | (go_roundw
      ·exact⟨i+1,HF.out.resolve_left sM,by go_num,HB.out⟩
      ·simp[intOf];omega)
   | (refine(ea wr (HT.out.step (I6.out.Ml HB.out))).mono ?_
      rintro e w8 ⟨rfl,hb⟩
      have DE:=qD ((I6.out.Ml HB.out).Ml hb)
      clear hb
      go_wp2_with fail
      go_ret
      exact⟨rfl,DE.out⟩)
end
open Go
section
variable {n g i:Nat} {W:World} {e t:TypeId} {P:Program} {l:List ByteArray} {s:ByteArray}
theorem It{name:String}{l:List (DataW Unit)}(hg:P.globalNamed name=some g)(hty:(P.globals[g]?).map (·.type)=some t)(ht:P.underlying t=some (.array n e))(he:P.underlying e=some .string)(hce:P.cellsOf e=1)(h:Lib.VarReads P W name (.agg l))(i:Nat)(hi:i<n)(s:List UInt8)(hs:l[i]?=some (.lit (.string s))):W.cell? ⟨g,i,none⟩=some (.string ⟨s.toArray⟩):=by
  obtain⟨g',t',cs,fuel,p,h1,h2,h3,h4⟩:=h;obtain rfl:=QB (hg.symm.trans h1);obtain rfl:=QB (hty.symm.trans h2);obtain⟨xs,m,rfl,hx,hcl,hxl,hf⟩:=DataW.trod_array ht h4
  have hl:l=xs.map (·.1):=by
   have:=congrArg Prod.fst hx;injection this
  have h5:=hf i hi;rw[hce,RY] at h5;have hxi : xs[i]? = some (xs[i]'(by omega)) := OH oM;rw[hxi] at h5;obtain⟨s',hc,hx',_⟩:=Ql he h5;rw[hl,OT,hxi] at hs;simp only[Ps,PU] at hs;rw[hx'] at hs;simp only[DataW.lit.injEq,Lit.string.injEq] at hs;rw[World.var?_cell hg h3 i]
  have h6:cs.toList[i]?=some (.string s'):=by
   have:=congrArg (·[0]?) hc;simpa[QK,Qc] using this
  rw[PN] at h6;rw[h6,<-hs]
def Ke:DataW Unit->Array Value
 | .agg l=>(l.map fun
  | .lit (.string s)=>Value.string ⟨s.toArray⟩
  | _=>undef).toArray
 | _=>#[]
theorem Kf(h : Lib.VarReads Tryz.prog W "docstore/docstoreref09.Stops" Rows.laid_docstore_docstoreref09_Stops) : dP W := by
 intro i hi
 have hs:∃s,[DataW.lit (H:=Unit) (.string [97]),.lit (.string [97,110]),.lit (.string [97,110,100]),.lit (.string [97,114,101]),.lit (.string [97,115]),.lit (.string [97,116]),.lit (.string [98,101]),.lit (.string [98,121]),.lit (.string [102,111,114]),.lit (.string [102,114,111,109]),.lit (.string [105,110]),.lit (.string [105,115]),.lit (.string [105,116]),.lit (.string [111,102]),.lit (.string [111,110]),.lit (.string [111,114]),.lit (.string [116,104,97,116]),.lit (.string [116,104,101]),.lit (.string [116,111]),.lit (.string [119,105,116,104])][i]?=some (.lit (.string s)):=by
  have:i=0\/i=1\/i=2\/i=3\/i=4\/i=5\/i=6\/i=7\/i=8\/i=9\/i=10\/i=11\/i=12\/i=13\/i=14\/i=15\/i=16\/i=17\/i=18\/i=19:=oM
  rcases this with rfl|rfl|rfl|rfl|rfl|rfl|rfl|rfl|rfl|rfl|rfl|rfl|rfl|rfl|rfl|rfl|rfl|rfl|rfl|rfl<;>exact⟨_,rfl⟩
 obtain⟨s,hs⟩:=hs;exact⟨_,It (t:=309) (e:=9) (n:=20) kR kR underlying309 PY kR h i hi s hs⟩
end
open Go.ChangeShapes Go.WideShapes Go.ChangeAt Go.Joins Go.Deep
section
variable {b n g B i c base b0 ln dn q lc off size dc:Nat} {W:World} {e t:TypeId} {cs:Array Value} {P:Program} {a x y d:Int} {l r:List ByteArray} {v:Value} {s:ByteArray} {A LA DA:Option Addr} {ha:Bool} {xs:List Value}
theorem vB:Tryz.prog.bytesOf 9=16:=kR
section
variable {H:Type} {enc:TypeId×Value->H} {W:World} {base:Nat} {spare:Nat->Bool} {held:Bool}
theorem kq(n:Nat){y:DataW H×List MemPlace}(h:DataW.trod enc prog W base spare held n 25 [v]=some y)(hw:cN 25 y.1):
 ∃(A:Option Addr) (n c:Nat) (xs:List ByteArray),v=.slice A n c/\ST W A n c xs:=by
 rcases Qt PW h with⟨hcs,_⟩|⟨a,len,cap,elems,rest,n',rfl,hcs,rfl,_,hlc,hcm,hel,hat,_,_⟩
 ·simp at hcs;exact⟨none,0,0,[],hcs,⟨SR.nil,by show 0*16<=aF;decide,fun s hs=>by simp at hs⟩⟩
 ·simp at hcs;subst hcs;simp only[cN,DataW.weights,PW,PB,OP,vB] at hw
  have hsz:len*16<=aF:=by
   have:=hw _ (.inl rfl);simp only[Oe,hel] at this;have h2:len*16<=(len+rest.length)*16:=Ot _ oM;have:=du;omega
  have wl:=gJ (l:=elems.map (·.1)) (fun z hz=>hw z (.inr (.inl hz)));rcases PZ len with h0|hp
  ·subst h0;exact⟨some a,0,cap,[],rfl,⟨SR.nil,by show 0*16<=aF;decide,fun s hs=>by simp at hs⟩⟩
  have step:∀i,i<len->∃s:ByteArray,W.cells? base (a.add (i*1)) 1=some [.string s]/\s.size<=aF:=by
   intro i hi;have h1:=hat i hi;rw[ce,OH oM] at h1;obtain⟨cs',hcs',ht'⟩:=QI.1 h1;have hwi:=wl _ (PD (Pw (l:=elems) (n:=i) oM));generalize elems[i]=q at*;obtain⟨s,e0,rfl,_⟩:=Ql PY ht';subst e0;refine⟨s,hcs',OU (hwi s.size ?_) du⟩;simp[DataW.weights]
  obtain⟨s0,h0,_⟩:=step 0 hp;obtain⟨b,off,ha,_⟩:=dX h0 oM;have ha':a=⟨b,off,none⟩:=by simpa[Addr.add] using ha
  subst ha'
  obtain⟨f,hf⟩:=gK (p:=fun i (s:ByteArray)=>W.cell? ⟨b,off+i,none⟩=some (.string s)/\s.size<=aF) empty len (fun i hi=>by
   obtain⟨s,hcs',hs⟩:=step i hi
   rw[cW] at hcs'
   obtain⟨b',off',ha',hc⟩:=dX hcs' oM
   injection ha' with e1 e2
   subst e1 e2
   have:=hc 0 oM
   rw[RY] at this
   exact⟨s,this,hs⟩)
  refine⟨_,len,cap,(List.range len).map f,rfl,⟨⟨by simp,hlc,fun _=>⟨b,off,rfl,Oj W _ (hf 0 hp).1,fun i x hi j u hj=>?_⟩⟩,hsz,fun s hs=>?_⟩⟩
  ·have hlt:i<len:=by have:=(OI.1 hi).1;simpa using this
   rw[OT,QF hlt] at hi;simp only[Ps,PU] at hi;subst hi;have hj0:j=0:=by have:=(OI.1 hj).1;simpa[cO] using this
   subst hj0;simp[cO] at hj;subst hj;rw[RY,QW];exact(hf i hlt).1
  ·obtain⟨i,hi,rfl⟩:=PK.1 hs;exact(hf i (SQ.1 hi)).2
end
theorem xz:Tryz.prog.bytesOf 70=32:=kR
theorem pg:Tryz.prog.cellsOf 70=2:=kR
theorem bT:Tryz.prog.cellsOf 25=1:=kR
theorem sL:Tryz.prog.cellsOf 4=1:=kR
section
variable {H:Type} {enc:TypeId×Value->H} {W:World} {base:Nat} {spare:Nat->Bool} {held:Bool}
theorem yB(n:Nat){y:DataW H×List MemPlace}(h:DataW.trod enc prog W base spare held n 22 [v]=some y)(hw:cN 22 y.1):
 ∃(A:Option Addr) (n c:Nat) (ks:List Od),v=.slice A n c/\KS W A n c ks:=by
 rcases Qt underlying22 h with⟨hcs,_⟩|⟨a,len,cap,elems,rest,n',rfl,hcs,rfl,_,hlc,hcm,hel,hat,_,_⟩
 ·simp at hcs;exact⟨none,0,0,[],hcs,KS.nil⟩
 ·simp at hcs;subst hcs;simp only[cN,DataW.weights,underlying22,PB,OP,xz] at hw
  have hsz:len*32<=aF:=by
   have:=hw _ (.inl rfl);simp only[Oe,hel] at this;have h2:len*32<=(len+rest.length)*32:=Ot _ oM;have:=du;omega
  have wl:=gJ (l:=elems.map (·.1)) (fun z hz=>hw z (.inr (.inl hz)));rcases PZ len with h0|hp
  ·subst h0;exact⟨some a,0,cap,[],rfl,KS.nil⟩
  have step:∀i,i<len->∃(o:OC) (q:Od),W.cells? base (a.add (i*2)) 2=some [.slice o.A o.n o.c,.bool o.d]/\OR W o q:=by
   intro i hi;have h1:=hat i hi;rw[pg,OH oM] at h1;obtain⟨cs',hcs',ht'⟩:=QI.1 h1;have hwi:=wl _ (PD (Pw (l:=elems) (n:=i) oM));generalize elems[i]=q at*;obtain⟨ys,n'',rfl,rfl,hcl,hyl,hf⟩:=QH underlying70 ht';rw[pg] at hcl;obtain⟨v0,v1,rfl⟩:=JD hcl;obtain⟨y0,y1,rfl⟩:=JD hyl;have f0:DataW.trod enc prog W base spare held n'' 25 [v0]=some y0:=by simpa[bT] using hf 0 _ rfl
   have f1:DataW.trod enc prog W base spare held n'' 4 [v1]=some y1:=by simpa[bT,sL] using hf 1 _ rfl
   simp only[cN,DataW.weights,underlying70,List.map,DataW.weightsEach,OP] at hwi;obtain⟨A,m,c,xs,rfl,hx⟩:=kq n'' f0 (fun z hz=>hwi z (.inl hz));obtain⟨d,e1,rfl⟩:=DataW.trod_bool Qu f1;simp only[Pu,Qw] at e1;subst e1;exact⟨⟨A,m,c,d⟩,⟨xs,d⟩,hcs',rfl,hx⟩
  obtain⟨o0,q0,h0,_⟩:=step 0 hp;obtain⟨b,off,ha,_⟩:=dX h0 oM;have ha':a=⟨b,off,none⟩:=by simpa[Addr.add] using ha
  subst ha'
  obtain⟨f,hf⟩:=gK (p:=fun i (z:OC×Od)=>W.cell? ⟨b,off+i*2,none⟩=some (.slice z.1.A z.1.n z.1.c)/\W.cell? ⟨b,off+i*2+1,none⟩=some (.bool z.1.d)/\OR W z.1 z.2) (o0,q0) len (fun i hi=>by
   obtain⟨o,q,hcs',ho⟩:=step i hi
   rw[cW] at hcs'
   obtain⟨b',off',ha',hc⟩:=dX hcs' oM
   injection ha' with e1 e2
   subst e1 e2
   exact⟨(o,q),hc 0 oM,hc 1 oM,ho⟩)
  refine⟨_,len,cap,(List.range len).map fun i=>(f i).2,rfl,(List.range len).map (fun i=>(f i).1),⟨by simp,hlc,fun _=>⟨b,off,rfl,Oj W _ (hf 0 hp).1,fun i x hi j u hj=>?_⟩⟩,hsz,by simp,fun i o q hi hq=>?_⟩
  ·have hlt:i<len:=by have:=(OI.1 hi).1;simpa using this
   rw[OT,QF hlt] at hi;simp only[Ps,PU] at hi;subst hi;have hj2:j<2:=by have:=(OI.1 hj).1;simpa[wO] using this
   rcases(show j=0\/j=1 by omega) with rfl|rfl
   ·simp[wO] at hj;subst hj;rw[QW];exact(hf i hlt).1
   ·simp[wO] at hj;subst hj;exact(hf i hlt).2.1
  ·have hlt:i<len:=by have:=(OI.1 hi).1;simpa using this
   rw[OT,QF hlt] at hi hq;simp only[Ps,PU] at hi hq;subst hi hq;exact(hf i hlt).2.2
theorem oU:Tryz.prog.cellsOf 22=1:=kR
end
section
variable {H:Type} {enc:TypeId×Value->H} {W:World} {base:Nat} {spare:Nat->Bool} {held:Bool}
end
section
variable {H:Type} {enc:TypeId×Value->H} {W:World} {base:Nat} {spare:Nat->Bool} {held:Bool}
end
section
variable {H:Type} {enc:TypeId×Value->H} {W:World} {base:Nat} {spare:Nat->Bool} {held:Bool}
theorem Aa:Tryz.prog.cellsOf 24=2:=kR
theorem Gp(fuel:Nat)(cs:List Value)(y:DataW H×List MemPlace)(h:DataW.trod enc prog W base spare held fuel 24 cs=some y)(hw:cN 24 y.1):
 ∃(A:Option Addr) (n c:Nat) (ha:Bool) (ks:List Od),cs=[.slice A n c,.bool ha]/\KS W A n c ks:=by
 obtain⟨ys,n2,rfl,rfl,hcl2,hyl2,hf2⟩:=QH underlying24 h;rw[Aa] at hcl2;obtain⟨v1,v2,rfl⟩:=JD hcl2;obtain⟨z0,z1,rfl⟩:=JD hyl2;have g0:DataW.trod enc prog W base spare held n2 22 [v1]=some z0:=by simpa[oU] using hf2 0 _ rfl
 have g1:DataW.trod enc prog W base spare held n2 4 [v2]=some z1:=by simpa[oU,sL] using hf2 1 _ rfl
 simp only[cN,DataW.weights,underlying24,List.map,DataW.weightsEach,OP] at hw;obtain⟨A,n,c,ks,rfl,hk⟩:=yB n2 g0 (fun z hz=>hw z (.inl hz));obtain⟨ha,e3,rfl⟩:=DataW.trod_bool Qu g1;simp only[Pu,Qw] at e3;subst e3;exact⟨A,n,c,ha,ks,rfl,hk⟩
theorem Gq{r:Reach}{d:DataW H}{p:List MemPlace}(hv:Value.okWide prog W r b0 24 v)(h:DataW.Trod enc prog W base spare held 24 v d p)(hw:cN 24 d):
 ∃(A:Option Addr) (n c:Nat) (ha:Bool) (ks:List Od),v=.agg #[.slice A n c,.bool ha]/\KS W A n c ks:=by
 obtain⟨cs,rfl,hsz⟩:=okWide_struct underlying24 hv;obtain⟨fuel,hf⟩:=h;obtain⟨A,n,c,ha,ks,hc,h1⟩:=Gp fuel _ _ hf hw;refine⟨A,n,c,ha,ks,?_,h1⟩;obtain⟨l⟩:=cs;simp only[Value.cells] at hc;rw[show l=_ from hc]
end
theorem Iu{n:Int}(h:(Lit.int .i64 n).wf=true):gx n:=by
 have h:(decide (IntKind.i64.min<=n)&&decide (n<=IntKind.i64.max))=true:=h;simp only[Ov,Pm] at h;exact h
section
variable {H:Type} {enc:TypeId×Value->H} {W:World} {base:Nat} {spare:Nat->Bool} {held:Bool}
def Gr(H:Type)(enc:TypeId×Value->H)(W:World)(base:Nat)(spare:Nat->Bool)(held:Bool)(n:Nat):Prop:=
 ∀(cs:List Value) (y:DataW H×List MemPlace),DataW.trod enc prog W base spare held n 29 cs=some y->cN 29 y.1->∃c x,cs=c.list/\RW W c x/\bS x
theorem Ab(n:Nat){y:DataW H×List MemPlace}(ih:∀n',n'<n->Gr H enc W base spare held n')(h:DataW.trod enc prog W base spare held n 26 [v]=some y)(hw:cN 26 y.1):
 ∃(LA:Option Addr) (ln lc:Nat) (l:List aC),v=.slice LA ln lc/\ln=l.length/\ln<=lc/\ln*80<=aF/\(0<ln->∃b off,LA=some ⟨b,off,none⟩/\∀(i:Nat) (y:aC),l[i]?=some y->∃e,aO W b (off+i*5) e/\RW W e y)/\∀y∈l,bS y:=by
 rcases Qt PM h with⟨hcs,_⟩|⟨a,len,cap,elems,rest,n',rfl,hcs,rfl,_,hlc,hcm,hel,hat,_,_⟩
 ·simp at hcs;exact⟨none,0,0,[],hcs,rfl,qL,by decide,fun h=>absurd h oM,by simp⟩
 ·simp at hcs;subst hcs;simp only[cN,DataW.weights,PM,PB,OP,lT] at hw
  have hsz:len*80<=aF:=by
   have:=hw _ (.inl rfl);simp only[Oe,hel] at this;have h2:len*80<=(len+rest.length)*80:=Ot _ oM;have:=du;omega
  have wl:=gJ (l:=elems.map (·.1)) (fun z hz=>hw z (.inr (.inl hz)));rcases PZ len with h0|hp
  ·exact⟨some a,len,cap,[],rfl,h0,hlc,hsz,fun h=>absurd h oM,by simp⟩
  have step:∀i,i<len->∃cs',W.cells? base (a.add (i*5)) 5=some cs'/\∃e x,cs'=VC.list e/\RW W e x/\bS x:=by
   intro i hi;have h1:=hat i hi;rw[bN,OH oM] at h1;obtain⟨cs',hcs',ht'⟩:=QI.1 h1;exact⟨cs',hcs',ih n' oM cs' _ ht' (wl _ (PD (Pw _)))⟩
  obtain⟨cs0,h0,_⟩:=step 0 hp;obtain⟨b,off,ha,_⟩:=dX h0 oM;have ha':a=⟨b,off,none⟩:=by simpa[Addr.add] using ha
  subst ha'
  obtain⟨f,hf⟩:=gK (p:=fun i x=>(∃e,aO W b (off+i*5) e/\RW W e x)/\bS x) aC.zero len (fun i hi=>by
   obtain⟨cs',hcs',e,x,rfl,hx,hnx⟩:=step i hi
   rw[cW] at hcs'
   obtain⟨b',off',ha',hc⟩:=dX hcs' oM
   injection ha' with e1 e2
   subst e1 e2
   exact⟨x,⟨e,⟨hc 0 oM,hc 1 oM,hc 2 oM,hc 3 oM,hc 4 oM⟩,hx⟩,hnx⟩)
  refine⟨_,len,cap,(List.range len).map f,rfl,by simp,hlc,hsz,fun _=>⟨b,off,rfl,fun i y hi=>?_⟩,fun y hy=>(by obtain⟨i,hi,rfl⟩:=PK.1 hy;exact(hf i (SQ.1 hi)).2)⟩;have hlt:i<len:=by have:=(OI.1 hi).1;simpa using this
  rw[OT,QF hlt] at hi;simp only[Ps,PU] at hi;subst hi;exact(hf i hlt).1
theorem Dw(n:Nat){y:DataW H×List MemPlace}(ih:∀n',n'<n->Gr H enc W base spare held n')(h:DataW.trod enc prog W base spare held n 27 [v]=some y)(hw:cN 27 y.1):
 ∃(DA:Option Addr) (dn dc:Nat) (d:List bf),v=.slice DA dn dc/\dn=d.length/\dn<=dc/\dn*96<=lG/\(0<dn->∃b off,DA=some ⟨b,off,none⟩/\∀(i:Nat) (f:bf),d[i]?=some f->W.cell? ⟨b,off+i*6,none⟩=some (.string f.s)/\f.s.size<=aF/\∃e,aO W b (off+i*6+1) e/\RW W e f.v)/\∀f∈d,bS f.v:=by
 rcases Qt QS h with⟨hcs,_⟩|⟨a,len,cap,elems,rest,n',rfl,hcs,rfl,_,hlc,hcm,hel,hat,_,_⟩
 ·simp at hcs;exact⟨none,0,0,[],hcs,rfl,qL,by decide,fun h=>absurd h oM,by simp⟩
 ·simp at hcs;subst hcs;simp only[cN,DataW.weights,QS,PB,OP,pN] at hw
  have hsz:len*96<=lG:=by
   have:=hw _ (.inl rfl);simp only[Oe,hel] at this;have h2:len*96<=(len+rest.length)*96:=Ot _ oM;omega
  have wl:=gJ (l:=elems.map (·.1)) (fun z hz=>hw z (.inr (.inl hz)));rcases PZ len with h0|hp
  ·exact⟨some a,len,cap,[],rfl,h0,hlc,hsz,fun h=>absurd h oM,by simp⟩
  have step:∀i,i<len->∃cs',W.cells? base (a.add (i*6)) 6=some cs'/\∃(s:ByteArray) (e:VC) (x:aC),cs'=.string s::VC.list e/\s.size<=aF/\RW W e x/\bS x:=by
   intro i hi;have h1:=hat i hi;rw[jI,OH oM] at h1;obtain⟨cs',hcs',ht'⟩:=QI.1 h1;have hwi:=wl _ (PD (Pw (l:=elems) (n:=i) oM));generalize elems[i]=q at*;obtain⟨ys,n'',rfl,rfl,hcl,hyl,hf⟩:=QH SM ht';rw[jI] at hcl;obtain⟨v0,v1,v2,v3,v4,v5,rfl⟩:=Mb hcl;obtain⟨y0,y1,rfl⟩:=JD hyl;have f0:DataW.trod enc prog W base spare held n'' 9 [v0]=some y0:=by simpa[ce] using hf 0 _ rfl
   have f1:DataW.trod enc prog W base spare held n'' 29 [v1,v2,v3,v4,v5]=some y1:=by simpa[bN] using hf 1 _ rfl
   obtain⟨s,e0,rfl,_⟩:=Ql PY f0;simp only[Pu,Qw] at e0;subst e0;simp only[cN,DataW.weights,SM,List.map,DataW.weightsEach,OP] at hwi;obtain⟨e,x,he,hx,hnx⟩:=ih n'' oM _ _ f1 (fun z hz=>hwi z (.inr (.inl hz)));refine⟨_,hcs',s,e,x,by rw[he],OU (hwi s.size (.inl sM)) du,hx,hnx⟩
  obtain⟨cs0,h0,_⟩:=step 0 hp;obtain⟨b,off,ha,_⟩:=dX h0 oM;have ha':a=⟨b,off,none⟩:=by simpa[Addr.add] using ha
  subst ha'
  obtain⟨f,hf⟩:=gK (p:=fun i (f:bf)=>(W.cell? ⟨b,off+i*6,none⟩=some (.string f.s)/\f.s.size<=aF/\∃e,aO W b (off+i*6+1) e/\RW W e f.v)/\bS f.v) (.mk empty aC.zero) len (fun i hi=>by
   obtain⟨cs',hcs',s,e,x,rfl,hs,hx,hnx⟩:=step i hi
   rw[cW] at hcs'
   obtain⟨b',off',ha',hc⟩:=dX hcs' oM
   injection ha' with e1 e2
   subst e1 e2
   exact⟨.mk s x,⟨hc 0 oM,hs,e,⟨hc 1 oM,hc 2 oM,hc 3 oM,hc 4 oM,hc 5 oM⟩,hx⟩,hnx⟩)
  refine⟨_,len,cap,(List.range len).map f,rfl,by simp,hlc,hsz,fun _=>⟨b,off,rfl,fun i y hi=>?_⟩,fun y hy=>(by obtain⟨i,hi,rfl⟩:=PK.1 hy;exact(hf i (SQ.1 hi)).2)⟩;have hlt:i<len:=by have:=(OI.1 hi).1;simpa using this
  rw[OT,QF hlt] at hi;simp only[Ps,PU] at hi;subst hi;exact(hf i hlt).1
theorem mK:∀(fuel:Nat) (cs:List Value) (y:DataW H×List MemPlace),DataW.trod enc prog W base spare held fuel 29 cs=some y->cN 29 y.1->∃c x,cs=c.list/\RW W c x/\bS x:=by
 intro fuel
 induction fuel using Nat.strongRecOn with
 | _ fuel ih=>
 intro cs y h hw;obtain⟨ys,n,rfl,rfl,hcl,hyl,hf⟩:=QH Pj h;rw[bN] at hcl;obtain⟨v0,v1,v2,v3,v4,rfl⟩:=Hw hcl;obtain⟨y0,y1,y2,y3,y4,rfl⟩:=Hw hyl;have f0:DataW.trod enc prog W base spare held n 3 [v0]=some y0:=by simpa[av] using hf 0 _ rfl
 have f1:DataW.trod enc prog W base spare held n 3 [v1]=some y1:=by simpa[av] using hf 1 _ rfl
 have f2:DataW.trod enc prog W base spare held n 9 [v2]=some y2:=by simpa[ce] using hf 2 _ rfl
 have f3:DataW.trod enc prog W base spare held n 26 [v3]=some y3:=by simpa[eX] using hf 3 _ rfl
 have f4:DataW.trod enc prog W base spare held n 27 [v4]=some y4:=by simpa[tQ] using hf 4 _ rfl
 obtain⟨k,e0,rfl,_⟩:=QC Pq f0;obtain⟨m,e1,rfl,hm⟩:=QC Pq f1;obtain⟨t,e2,rfl,_⟩:=Ql PY f2;simp only[Pu,Qw] at e0 e1 e2;subst e0 e1 e2
 have hw':cN 9 (DataW.lit (H:=H) (.string t.data.toList))/\cN 26 y3.1/\cN 27 y4.1:=by
  simp only[cN,DataW.weights,Pj,List.map,DataW.weightsEach,OP] at hw;refine⟨fun z hz=>hw z ?_,fun z hz=>hw z ?_,fun z hz=>hw z ?_⟩
  ·simp only[DataW.weights] at hz;exact .inr (.inr (.inl hz))
  ·exact .inr (.inr (.inr (.inl hz)))
  ·exact .inr (.inr (.inr (.inr (.inl hz))))
 obtain⟨w2,w3,w4⟩:=hw';have htz:t.size<=aF:=OU (w2 t.size (by simp[DataW.weights])) du;obtain⟨LA,ln,lc,l,rfl,hl1,hl2,hl3,hl4,hl5⟩:=Ab n (fun n' hn=>ih n' oM) f3 w3;obtain⟨DA,dn,dc,d,rfl,hd1,hd2,hd3,hd4,hd5⟩:=Dw n (fun n' hn=>ih n' oM) f4 w4;refine⟨⟨k,m,t,LA,ln,lc,DA,dn,dc⟩,.mk k m t l d,rfl,pw.shut ⟨rfl,rfl,rfl,htz,hl1,hl2,hl3,fun hp=>?_,hd1,hd2,OU hd3 du,fun hp=>?_⟩,(fT _).2 ⟨Iu hm,hl5,hd5⟩⟩
 ·obtain⟨b,off,e,h⟩:=hl4 hp;exact⟨b,off,e,Ft.Nd,h⟩
 ·obtain⟨b,off,e,h⟩:=hd4 hp;exact⟨b,off,e,Ft.Nd,h⟩
theorem vC{r:Reach}{d:DataW H}{p:List MemPlace}(hv:Value.okWide prog W r b0 29 v)(h:DataW.Trod enc prog W base spare held 29 v d p)(hw:cN 29 d):∃(c:VC) (x:aC),v=c.val/\RW W c x/\bS x:=by
 obtain⟨cs,rfl,hsz⟩:=okWide_struct Pj hv;obtain⟨fuel,hf⟩:=h;obtain⟨c,x,hc,hx,hn⟩:=mK fuel _ _ hf hw;refine⟨c,x,?_,hx,hn⟩;obtain⟨l⟩:=cs;simp only[Value.cells] at hc;rw[show l=c.list from hc];rfl
end
theorem yC{H:Type}(d:DataW H):1<=Rows.uptoBulk d:=by
 cases d with
 | lit l=>cases l<;>simp[Rows.uptoBulk]
 | _=>simp[Rows.uptoBulk]
theorem Gs{H:Type}{d:DataW H}{l:List (DataW H)}(h:d∈l):Rows.uptoBulk d<=Rows.uptoBulkAll l:=by
 induction l with
 | nil=>cases h
 | cons x r ih=>
  simp only[Rows.uptoBulkAll];rcases PB.1 h with rfl|h
  ·omega
  ·have:=ih h;omega
theorem yD{H:Type}(l:List (DataW H)):l.length<=Rows.uptoBulkAll l:=by
 induction l with
 | nil=>simp[Rows.uptoBulkAll]
 | cons x r ih=>have:=yC x;simp only[Rows.uptoBulkAll,OZ];omega
def He{H:Type}(t:TypeId)(d:DataW H):Prop:=cN t d/\Rows.uptoBulk d<=1048576
theorem yE:Tryz.prog.bytesOf 174=16:=kR
theorem Ac:Tryz.prog.bytesOf 35=184:=kR
theorem Ad:Tryz.prog.bytesOf 38=400:=kR
theorem ph:Tryz.prog.cellsOf 174=2:=kR
theorem kr:Tryz.prog.cellsOf 35=11:=kR
theorem sN:Tryz.prog.cellsOf 38=25:=kR
theorem mL:Tryz.prog.cellsOf 32=3:=kR
theorem oV:Tryz.prog.cellsOf 30=1:=kR
theorem yF:Tryz.prog.cellsOf 33=1:=kR
theorem yG:Tryz.prog.cellsOf 36=1:=kR
section
variable {H:Type} {enc:TypeId×Value->H} {W:World} {base:Nat} {spare:Nat->Bool} {held:Bool}
theorem Gt{H:Type}(l:List (DataW H)):Rows.uptoBulkAll l=(l.map Rows.uptoBulk).sum:=by
 induction l with
 | nil=>simp[Rows.uptoBulkAll]
 | cons x r ih=>simp only[Rows.uptoBulkAll,Pp,TG,ih]
theorem Ae{α:Type}{f g:α->Nat}(l:List α)(h:∀a∈l,f a<=g a):(l.map f).sum<=(l.map g).sum:=by
 induction l with
 | nil=>simp
 | cons x r ih=>
  have:=h x sM;have:=ih fun a ha=>h a (by simp[ha]);simp only[Pp,TG];omega
theorem nU{α:Type}(μ:α->Nat)(rec:α->List Value)(s B:Nat)(hs0:0<s)(hs:∀a,(rec a).length=s)(P:α->Prop)(d0:α)(hu:Tryz.prog.underlying t=some (.slice e))(hB:Tryz.prog.bytesOf e=B)(hc:Tryz.prog.cellsOf e=s)(n:Nat){y:DataW H×List MemPlace}(each:∀n',n'<n->∀(cs:List Value) (z:DataW H×List MemPlace),DataW.trod enc prog W base spare held n' e cs=some z->He e z.1->∃a,cs=rec a/\P a/\μ a<=Rows.uptoBulk z.1)(h:DataW.trod enc prog W base spare held n t [v]=some y)(hw:He t y.1):
  ∃(A:Option Addr) (ln lc:Nat) (l:List α),v=.slice A ln lc/\SR s rec W A ln lc l/\ln*B<=aF/\ln<=1048576/\(∀a∈l,P a)/\(l.map μ).sum<=Rows.uptoBulk y.1:=by
  rcases Qt hu h with⟨hcs,_⟩|⟨a,len,cap,elems,rest,n',rfl,hcs,rfl,_,hlc,hcm,hel,hat,_,_⟩
  ·simp at hcs;exact⟨none,0,0,[],hcs,SR.nil,by rw[Rp];exact ON _,ON _,fun a h=>by simp at h,ON _⟩
  ·simp at hcs;subst hcs;obtain⟨hl,hk⟩:=hw;simp only[cN,DataW.weights,hu,PB,OP,hB] at hl;simp only[Rows.uptoBulk] at hk
   have hsz:len*B<=aF:=by
    have:=hl _ (.inl rfl);simp only[Oe,hel] at this;have h2:len*B<=(len+rest.length)*B:=Ot _ oM;have:=du;omega
   have hfew:len<=1048576:=by
    have:=yD (elems.map (·.1));simp only[Oe,hel] at this;omega
   have wl:=gJ (l:=elems.map (·.1)) (fun z hz=>hl z (.inr (.inl hz)));rcases PZ len with h0|hp
   ·subst h0;exact⟨some a,0,cap,[],rfl,SR.nil,hsz,hfew,fun a h=>by simp at h,ON _⟩
   have step:∀i,i<len->∃cs',W.cells? base (a.add (i*s)) s=some cs'/\∃x,cs'=rec x/\P x/\μ x<=((elems.map fun z=>Rows.uptoBulk z.1)[i]?).getD 0:=by
    intro i hi;have h1:=hat i hi;rw[hc,OH oM] at h1;obtain⟨cs',hcs',ht'⟩:=QI.1 h1;have hm : (elems[i]'(by omega)).1 ∈ elems.map (·.1) := PD (Pw _);have hb:=Gs hm;obtain⟨x,e1,e2,e3⟩:=each n' oM cs' _ ht' ⟨wl _ hm,by omega⟩;exact⟨cs',hcs',x,e1,e2,by rw[OT,OH oM];exact e3⟩
   obtain⟨cs0,h0,_⟩:=step 0 hp;obtain⟨b,off,ha,_⟩:=dX h0 hs0;have ha':a=⟨b,off,none⟩:=by simpa[Addr.add] using ha
   subst ha'
   obtain⟨f,hf⟩:=gK (p:=fun i x=>(∀(j:Nat) (u:Value),(rec x)[j]?=some u->W.cell? ⟨b,off+i*s+j,none⟩=some u)/\P x/\μ x<=((elems.map fun z=>Rows.uptoBulk z.1)[i]?).getD 0) d0 len (fun i hi=>by
    obtain⟨cs',hcs',x,rfl,hx⟩:=step i hi
    rw[cW] at hcs'
    obtain⟨b',off',ha',hcx⟩:=dX hcs' hs0
    injection ha' with e1 e2
    subst e1 e2
    refine⟨x,fun j u hj=>?_,hx⟩
    have hjs:j<s:=by have:=(OI.1 hj).1;rw[hs] at this;exact this
    rw[hcx j hjs]
    exact hj)
   refine⟨_,len,cap,(List.range len).map f,rfl,⟨by simp,hlc,fun _=>⟨b,off,rfl,?_,fun i x hi j u hj=>?_⟩⟩,hsz,hfew,fun x hx=>?_,?_⟩
   ·have hl0:0<(rec (f 0)).length:=by rw[hs];exact hs0
    exact Oj W _ ((hf 0 hp).1 0 _ (OH hl0))
   ·have hlt:i<len:=by have:=(OI.1 hi).1;simpa using this
    rw[OT,QF hlt] at hi;simp only[Ps,PU] at hi;subst hi;exact(hf i hlt).1 j u hj
   ·obtain⟨i,hi,rfl⟩:=PK.1 hx;exact(hf i (SQ.1 hi)).2.1
   ·have h1:(((List.range len).map f).map μ).sum<=(elems.map fun z=>Rows.uptoBulk z.1).sum:=by
     rw[Rc]
     have e:elems.map (fun z=>Rows.uptoBulk z.1)=(List.range len).map fun i=>((elems.map fun z=>Rows.uptoBulk z.1)[i]?).getD 0:=by
      refine List.ext_getElem (by simp[hel]) fun i h1 h2=>?_;simp at h1;simp[OH h1]
     rw[e];exact Ae _ fun i hi=>(hf i (SQ.1 hi)).2.2
    have h2:(elems.map fun z=>Rows.uptoBulk z.1).sum=Rows.uptoBulkAll (elems.map (·.1)):=by
     rw[Gt,Rc];rfl
    simp only[Rows.uptoBulk];omega
theorem uF{α:Type}(rec:α->List Value)(s B:Nat)(hs0:0<s)(hs:∀a,(rec a).length=s)(P:α->Prop)(d0:α)(hu:Tryz.prog.underlying t=some (.slice e))(hB:Tryz.prog.bytesOf e=B)(hc:Tryz.prog.cellsOf e=s)(n:Nat){y:DataW H×List MemPlace}(each:∀n',n'<n->∀(cs:List Value) (z:DataW H×List MemPlace),DataW.trod enc prog W base spare held n' e cs=some z->He e z.1->∃a,cs=rec a/\P a)(h:DataW.trod enc prog W base spare held n t [v]=some y)(hw:He t y.1):
  ∃(A:Option Addr) (ln lc:Nat) (l:List α),v=.slice A ln lc/\SR s rec W A ln lc l/\ln*B<=aF/\ln<=1048576/\∀a∈l,P a:=by
  obtain⟨A,ln,lc,l,e,h1,h2,h3,h4,_⟩:=nU (fun _=>0) rec s B hs0 hs P d0 hu hB hc n (fun n' hn cs z h1 h2=>by obtain⟨a,e,k⟩:=each n' hn cs z h1 h2;exact⟨a,e,k,ON _⟩) h hw;exact⟨A,ln,lc,l,e,h1,h2,h3,h4⟩
theorem Af(n:Nat)(cs:List Value)(y:DataW H×List MemPlace)(h:DataW.trod enc prog W base spare held n 174 cs=some y):∃p:Int×Int,cs=pP p:=by
 obtain⟨ys,n1,rfl,rfl,hcl,hyl,hf⟩:=QH underlying174 h;rw[ph] at hcl;obtain⟨v0,v1,rfl⟩:=JD hcl;obtain⟨y0,y1,rfl⟩:=JD hyl;have f0:DataW.trod enc prog W base spare held n1 3 [v0]=some y0:=by simpa[av] using hf 0 _ rfl
 have f1:DataW.trod enc prog W base spare held n1 3 [v1]=some y1:=by simpa[av] using hf 1 _ rfl
 obtain⟨k,e0,rfl,_⟩:=QC Pq f0;obtain⟨m,e1,rfl,_⟩:=QC Pq f1;simp only[Pu,Qw] at e0 e1;subst e0 e1;exact⟨(k,m),rfl⟩
theorem Kg{α:Type}{l:List α}(h:l.length=7):∃a0 a1 a2 a3 a4 a5 a6,l=[a0,a1,a2,a3,a4,a5,a6]:=by
 match l,h with
 | [a0,a1,a2,a3,a4,a5,a6],_=>exact⟨_,_,_,_,_,_,_,rfl⟩
theorem Kh{α:Type}{l:List α}(h:l.length=3):∃a0 a1 a2,l=[a0,a1,a2]:=by
 match l,h with
 | [a0,a1,a2],_=>exact⟨_,_,_,rfl⟩
theorem Ll{α:Type}{l:List α}(h:l.length=9):∃a0 a1 a2 a3 a4 a5 a6 a7 a8,l=[a0,a1,a2,a3,a4,a5,a6,a7,a8]:=by
 match l,h with
 | [a0,a1,a2,a3,a4,a5,a6,a7,a8],_=>exact⟨_,_,_,_,_,_,_,_,_,rfl⟩
theorem Lm{α:Type}{l:List α}(h:l.length=11):∃a0 a1 a2 a3 a4 a5 a6 a7 a8 a9 a10,l=[a0,a1,a2,a3,a4,a5,a6,a7,a8,a9,a10]:=by
 match l,h with
 | [a0,a1,a2,a3,a4,a5,a6,a7,a8,a9,a10],_=>exact⟨_,_,_,_,_,_,_,_,_,_,_,rfl⟩
theorem Ki{α:Type}{l:List α}(h:l.length=25):∃a0 a1 a2 a3 a4 a5 a6 a7 a8 a9 b0 b1 b2 b3 b4 b5 b6 b7 b8 b9 c0 c1 c2 c3 c4,l=[a0,a1,a2,a3,a4,a5,a6,a7,a8,a9,b0,b1,b2,b3,b4,b5,b6,b7,b8,b9,c0,c1,c2,c3,c4]:=by
 match l,h with
 | [a0,a1,a2,a3,a4,a5,a6,a7,a8,a9,b0,b1,b2,b3,b4,b5,b6,b7,b8,b9,c0,c1,c2,c3,c4],_=>exact⟨_,_,_,_,_,_,_,_,_,_,_,_,_,_,_,_,_,_,_,_,_,_,_,_,_,rfl⟩
theorem Dx:∀(fuel:Nat) (cs:List Value) (y:DataW H×List MemPlace),DataW.trod enc prog W base spare held fuel 35 cs=some y->He 35 y.1->∃x:dS,cs=dY x/\WX W x:=by
 intro fuel
 induction fuel using Nat.strongRecOn with
 | _ fuel ih=>
 intro cs y h hw;obtain⟨ys,n,rfl,rfl,hcl,hyl,hf⟩:=QH Pe h;rw[kr] at hcl;obtain⟨v0,v1,v2,v3,v4,v5,v6,v7,v8,v9,v10,rfl⟩:=Lm hcl;obtain⟨y0,y1,y2,y3,y4,y5,y6,rfl⟩:=Kg hyl;have f0:DataW.trod enc prog W base spare held n 3 [v0]=some y0:=by simpa[av] using hf 0 _ rfl
 have f1:DataW.trod enc prog W base spare held n 25 [v1]=some y1:=by simpa[av,bT] using hf 1 _ rfl
 have f2:DataW.trod enc prog W base spare held n 9 [v2]=some y2:=by simpa[av,bT,ce] using hf 2 _ rfl
 have f3:DataW.trod enc prog W base spare held n 25 [v3]=some y3:=by simpa[av,bT,ce] using hf 3 _ rfl
 have f4:DataW.trod enc prog W base spare held n 29 [v4,v5,v6,v7,v8]=some y4:=by simpa[av,bT,ce,bN] using hf 4 _ rfl
 have f5:DataW.trod enc prog W base spare held n 3 [v9]=some y5:=by simpa[av,bT,ce,bN] using hf 5 _ rfl
 have f6:DataW.trod enc prog W base spare held n 33 [v10]=some y6:=by simpa[av,bT,ce,bN,yF] using hf 6 _ rfl
 obtain⟨hl,hk⟩:=hw;simp only[cN,DataW.weights,Pe,List.map,DataW.weightsEach,OP] at hl;simp only[Rows.uptoBulk,List.map,Rows.uptoBulkAll] at hk;obtain⟨k,e0,rfl,_⟩:=QC Pq f0;obtain⟨pA,pn,pc,ps,rfl,hps⟩:=kq n f1 (fun z hz=>hl z (.inr (.inl hz)));obtain⟨s,e2,e2',_⟩:=Ql PY f2;obtain⟨nA,nn,nc,ns,rfl,hns⟩:=kq n f3 (fun z hz=>hl z (.inr (.inr (.inr (.inl hz)))));obtain⟨c,x,e4,hx⟩:=zH n _ _ f4 (fun z hz=>hl z (.inr (.inr (.inr (.inr (.inl hz))))));obtain⟨m,e5,rfl,_⟩:=QC Pq f5;have hsz:s.size<=aF:=OU (hl s.size (.inr (.inr (.inl (by rw[e2'];simp[DataW.weights]))))) du;obtain⟨kA,kn,kc,ks,rfl,hks,kz,_,hkk⟩:=uF dY 11 184 oM ue (WX W) dS.zero underlying33 Ac kr n (fun n' hn cs z h1 h2=>ih n' oM cs z h1 h2) f6 ⟨fun z hz=>hl z (.inr (.inr (.inr (.inr (.inr (.inr (.inl hz))))))),by omega⟩;simp only[Pu,Qw] at e0 e2 e5;subst e0 e2 e5;refine⟨.mk k ⟨pA,pn,pc,ps⟩ s ⟨nA,nn,nc,ns⟩ (c,x) m kA kn kc ks,?_,LH.shut ⟨hps,hsz,hns,hx,hks,kz,hkk⟩⟩;simp only[VC.list,Pu,Qw] at e4;obtain⟨a4,a5,a6,a7,a8⟩:=e4;subst a4 a5 a6 a7 a8;rfl
theorem Gu{α:Type}(l:List α):(l.map fun _=>1).sum=l.length:=by
 induction l with
 | nil=>rfl
 | cons x r ih=>simp only[Pp,TG,ih,OZ];omega
theorem Iw(l:List aj):aj.sz.szL l=(l.map aj.sz).sum:=by
 induction l with
 | nil=>rfl
 | cons x r ih=>simp only[aj.sz.szL,Pp,TG,ih]
theorem Ag:∀(fuel:Nat) (cs:List Value) (y:DataW H×List MemPlace),DataW.trod enc prog W base spare held fuel 38 cs=some y->He 38 y.1->∃p:aj,cs=eY p/\(WP W p/\jN p)/\p.sz<=Rows.uptoBulk y.1:=by
 intro fuel
 induction fuel using Nat.strongRecOn with
 | _ fuel ih=>
 intro cs y h hw;obtain⟨ys,n,rfl,rfl,hcl,hyl,hf⟩:=QH Oq h;rw[sN] at hcl;obtain⟨v0,v1,v2,v3,v4,v5,v6,v7,v8,v9,w0,w1,w2,w3,w4,w5,w6,w7,w8,w9,x0,x1,x2,x3,x4,rfl⟩:=Ki hcl;obtain⟨y0,y1,y2,y3,y4,y5,y6,y7,y8,rfl⟩:=Ll hyl
 have hTot:1+Rows.uptoBulk y3.1+Rows.uptoBulk y8.1<=Rows.uptoBulk (DataW.agg (List.map (·.1) [y0,y1,y2,y3,y4,y5,y6,y7,y8])):=by
  simp only[Rows.uptoBulk,List.map,Rows.uptoBulkAll];omega
 have f0:DataW.trod enc prog W base spare held n 3 [v0]=some y0:=by simpa[av] using hf 0 _ rfl
 have f1:DataW.trod enc prog W base spare held n 25 [v1]=some y1:=by simpa[av,bT] using hf 1 _ rfl
 have f2:DataW.trod enc prog W base spare held n 29 [v2,v3,v4,v5,v6]=some y2:=by simpa[av,bT,bN] using hf 2 _ rfl
 have f3:DataW.trod enc prog W base spare held n 26 [v7]=some y3:=by simpa[av,bT,bN,eX] using hf 3 _ rfl
 have f4:DataW.trod enc prog W base spare held n 3 [v8]=some y4:=by simpa[av,bT,bN,eX] using hf 4 _ rfl
 have f5:DataW.trod enc prog W base spare held n 3 [v9]=some y5:=by simpa[av,bT,bN,eX] using hf 5 _ rfl
 have f6:DataW.trod enc prog W base spare held n 32 [w0,w1,w2]=some y6:=by simpa[av,bT,bN,eX,mL] using hf 6 _ rfl
 have f7:DataW.trod enc prog W base spare held n 35 [w3,w4,w5,w6,w7,w8,w9,x0,x1,x2,x3]=some y7:=by simpa[av,bT,bN,eX,mL,kr] using hf 7 _ rfl
 have f8:DataW.trod enc prog W base spare held n 36 [x4]=some y8:=by simpa[av,bT,bN,eX,mL,kr,yG] using hf 8 _ rfl
 obtain⟨hl,hk⟩:=hw;simp only[cN,DataW.weights,Oq,List.map,DataW.weightsEach,OP] at hl;simp only[Rows.uptoBulk,List.map,Rows.uptoBulkAll] at hk;obtain⟨k,e0,rfl,_⟩:=QC Pq f0;obtain⟨pA,pn,pc,ps,rfl,hps⟩:=kq n f1 (fun z hz=>hl z (.inr (.inl hz)));obtain⟨c,x,e2,hx,hnx⟩:=mK n _ _ f2 (fun z hz=>hl z (.inr (.inr (.inl hz))));have hls:He 26 y3.1:=⟨fun z hz=>hl z (.inr (.inr (.inr (.inl hz)))),by omega⟩
 obtain⟨aA,an,ac,avs,rfl,has,az,afew,hrv,aB⟩:=nU (fun _=>1) bD 5 80 oM cB (fun p=>RW W p.1 p.2/\bS p.2) (VC.zero,aC.zero) PM lT bN n (fun n' hn cs z h1 h2=>by
  obtain⟨c,x,e,r,m⟩:=mK n' cs z h1 h2.1
  exact⟨(c,x),e,⟨r,m⟩,yC _⟩) f3 hls
 obtain⟨nn,e4,rfl,_⟩:=QC Pq f4;obtain⟨mm,e5,rfl,_⟩:=QC Pq f5;obtain⟨xe,e7,hxe⟩:=Dx n _ _ f7 ⟨fun z hz=>hl z (.inr (.inr (.inr (.inr (.inr (.inr (.inr (.inl hz)))))))),by omega⟩;obtain⟨kA,kn,kc,ks,rfl,hks,kz,_,hkk,kB⟩:=nU aj.sz eY 25 400 oM uf (fun k=>WP W k/\jN k) (.mk 0 .nil (VC.zero,aC.zero) .nil 0 0 0 .nil 0 dS.zero none 0 0 []) underlying36 Ad sN n (fun n' hn cs z h1 h2=>ih n' oM cs z h1 h2) f8 ⟨fun z hz=>hl z (.inr (.inr (.inr (.inr (.inr (.inr (.inr (.inr (.inl hz))))))))),by omega⟩;have hsh:He 32 y6.1:=⟨fun z hz=>hl z (.inr (.inr (.inr (.inr (.inr (.inr (.inl hz))))))),by omega⟩;clear hl hk;obtain⟨ys6,n6,rfl,rfl,hcl6,hyl6,hf6⟩:=QH Rj f6;obtain⟨z0,z1,z2,rfl⟩:=Kh hyl6;have g0:DataW.trod enc prog W base spare held n6 3 [w0]=some z0:=by simpa[av] using hf6 0 _ rfl
 have g1:DataW.trod enc prog W base spare held n6 30 [w1]=some z1:=by simpa[av,oV] using hf6 1 _ rfl
 have g2:DataW.trod enc prog W base spare held n6 3 [w2]=some z2:=by simpa[av,oV] using hf6 2 _ rfl
 obtain⟨hl6,hk6⟩:=hsh;simp only[cN,DataW.weights,Rj,List.map,DataW.weightsEach,OP] at hl6;simp only[Rows.uptoBulk,List.map,Rows.uptoBulkAll] at hk6;obtain⟨sk,d0,rfl,_⟩:=QC Pq g0
 obtain⟨sA,sn,sc,ss,rfl,hss,sz,_,_⟩:=uF pP 2 16 oM ug (fun _=>True) (0,0) underlying30 yE ph n6 (fun n' hn cs z h1 h2=>by
  obtain⟨p,e⟩:=Af n' cs z h1
  exact⟨p,e,trivial⟩) g1 ⟨fun z hz=>hl6 z (.inr (.inl hz)),by omega⟩
 obtain⟨sr,d2,rfl,_⟩:=QC Pq g2;simp only[Pu,Qw] at e0 e4 e5 d0 d2;subst e0 e4 e5 d0 d2
 have hblk:0<an->∃b off,aA=some ⟨b,off,none⟩/\Ft (fun _=>True) W b:=fun hn=>by
  obtain⟨b,off,e,_,_⟩:=has.el hn;exact⟨b,off,e,Ft.Nd⟩
 refine⟨.mk k ⟨pA,pn,pc,ps⟩ (c,x) ⟨aA,an,ac,avs⟩ nn mm sk ⟨sA,sn,sc,ss⟩ sr xe kA kn kc ks,?_,⟨Kk.shut ⟨hps,hx,⟨has,az,hblk,fun p hp=>(hrv p hp).1⟩,afew,hss,sz,hxe,hks,kz,fun k hk=>(hkk k hk).1⟩,(ta _).2 ⟨hnx,fun x hx=>(hrv x hx).2,fun k hk=>(hkk k hk).2⟩⟩,?_⟩;rotate_left
 ·rw[aj.Mx,Iw];refine OU ?_ hTot;have e:(avs.map fun _=>1).sum=an:=(Gu avs).trans has.ln.symm;rw[e] at aB;show 1+an+(ks.map aj.sz).sum<=_;omega
 simp only[VC.list,Pu,Qw] at e2;obtain⟨a4,a5,a6,a7,a8⟩:=e2;subst a4 a5 a6 a7 a8;simp only[dY,Pu,Qw] at e7;obtain⟨b0,b1,b2,b3,b4,b5,b6,b7,b8,b9,b10⟩:=e7;subst b0 b1 b2 b3 b4 b5 b6 b7 b8 b9 b10;rfl
theorem Dy(fuel:Nat)(cs:List Value)(y:DataW H×List MemPlace)(h:DataW.trod enc prog W base spare held fuel 38 cs=some y)(hw:He 38 y.1):∃p:aj,cs=eY p/\WP W p/\jN p:=by
 obtain⟨p,e,k,_⟩:=Ag fuel cs y h hw;exact⟨p,e,k⟩
theorem Dz{r:Reach}{d:DataW H}{p:List MemPlace}(hv:Value.okWide prog W r b0 38 v)(h:DataW.Trod enc prog W base spare held 38 v d p)(hw:He 38 d):∃q:aj,v=al q/\WP W q/\jN q:=by
 obtain⟨cs,rfl,hsz⟩:=okWide_struct Oq hv;obtain⟨fuel,hf⟩:=h;obtain⟨q,hc,hx,hn⟩:=Dy fuel _ _ hf hw;refine⟨q,?_,hx,hn⟩;obtain⟨l⟩:=cs;simp only[Value.cells] at hc;rw[show l=eY q from hc];rfl
end
end
end Go.Proofs.YtgfoliedmhgpnaaGreatDoor
