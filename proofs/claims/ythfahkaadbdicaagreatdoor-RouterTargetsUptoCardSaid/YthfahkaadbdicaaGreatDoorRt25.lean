/- Parts of the proof, joined: RtWalk, ValFind, ValClone, ValGet, ShAt, ShKv, ShVals, ShEnc, ShAwPure, EncOne, EncKeyR, ShCodeR, ShEncR, ShKey0. -/
import Derived.Test.YthfahkaadbdicaaGreatDoorRt1
import Derived.Test.YthfahkaadbdicaaGreatDoorRt14
import Derived.Test.YthfahkaadbdicaaGreatDoorRt22
import Derived.Test.YthfahkaadbdicaaGreatDoorRt24
import Derived.Test.YthfahkaadbdicaaGreatDoorRt2
import Derived.Test.YthfahkaadbdicaaGreatDoorRt12
import Derived.Test.YthfahkaadbdicaaGreatDoorRt20
import Derived.Test.YthfahkaadbdicaaGreatDoorRt15
import Derived.Test.YthfahkaadbdicaaGreatDoorRt19
import Derived.Test.YthfahkaadbdicaaGreatDoorRt6
import Derived.Test.YthfahkaadbdicaaGreatDoorRt3
import Derived.Deep.RegionHeld3
set_option maxRecDepth 100000
set_option maxHeartbeats 16000000
set_option linter.unusedSimpArgs false
open Go.Proofs.Tryz
open ByteArray (empty)
namespace Go.Proofs.YthfahkaadbdicaaGreatDoor
open Go.RowKit
theorem FX(P:Array Value)(hs:P.size=6)(g:Nat)(W:World)(q:aE W g 53 P):(Instr.loadAt 53 (.pointer (some ⟨g,0,none⟩))).run prog W=.ok (.agg P) W:=by
 simp only[Instr.loadAt,Instr.sureAddr,Ng,OI,NT,QJ W g 53 53 P (0,0) _ q PD rfl (by rw[hs];kernel_rfl)]
theorem iO(R:Ro)(a:RA)(p:ao)(w:World)(hT:cg w)(h:RR w a R)(hp:WP w p)(fb:Bool)(Q Q':List B2->Prop)(hQ:∀L L',Q L->Q' L'->L=L')(hFI:∀wr,Below w.heap.size w wr->Calls prog 13 #[ft a R,.slice none 0 0] wr fun e w'=>e=.returned (.bool fb)/\Below wr.heap.size wr w')(hAW:∀wr,Below w.heap.size w wr->Calls prog 14 #[] wr fun e w'=>e=.returned (.bool true)/\Below wr.heap.size wr w')(hcn:fb=true->a.cn<=64/\∀c∈R.cs,0<=c.sh/\c.sh<8)(hRG:fb=true->od p->p.nodes<=256->∀wr,Below w.heap.size w wr->Calls prog 12 #[.agg #[.slice a.KA a.kn a.kc,.bool R.ha],am p] wr fun e w'=>∃A' n c' L,e=.returned (.slice A' n c')/\Q L/\SR 2 aY w' A' n c' L/\n<=1000000000/\Below wr.heap.size wr w')(hRR:fb=true->od p->p.nodes<=256->∀wr,Below w.heap.size w wr->Calls prog 53 #[.agg #[.slice a.KA a.kn a.kc,.bool R.ha],am p] wr fun e w'=>∃A' n c' L,e=.returned (.slice A' n c')/\Q' L/\SR 2 aY w' A' n c' L/\n<=1000000000/\Below wr.heap.size wr w'):
 Calls prog 4 #[ft a R,am p] w fun e w'=>e=.returned (.bool true)/\Below w.heap.size w w':=by
 have HT:=qD hT;have H:=qD h;have HP:=qD hp;have HQE:=qD hQ;have HFI:=qD hFI;have HAW:=qD hAW;have B0:Hid (aE ((w.alloc (.cells (bW a R) 53)).alloc (.cells (aH p) 38)) w.heap.size 53 (bW a R)):=(aE.Jq rfl).alloc _;have B1:Hid (aE ((w.alloc (.cells (bW a R) 53)).alloc (.cells (aH p) 38)) (w.heap.size+1) 38 (aH p)):=aE.Jq (by simp);have BE:Hid (Below w.heap.size w ((w.alloc (.cells (bW a R) 53)).alloc (.cells (aH p) 38))):=((LH _ _).alloc (qL) _).alloc (by simp) _;have HX:=qD hcn;have HG:=qD hRG;have HR:=qD hRR;clear hT h hp hQ hFI hAW hcn hRG hRR;go_enter func4,ntmps4;go_upto_region 1 with fail
 change Code.wp _ _ _ _ ((w.alloc (.cells (bW a R) 53)).alloc (.cells (aH p) 38));generalize ((w.alloc (.cells (bW a R) 53)).alloc (.cells (aH p) 38))=wa at*;obtain⟨q0,q1,q2,q3,q4,q5⟩:wa.cell? ⟨w.heap.size,0,none⟩=some (.string R.sp)/\wa.cell? ⟨w.heap.size,1,none⟩=some (.slice a.KA a.kn a.kc)/\wa.cell? ⟨w.heap.size,2,none⟩=some (.bool R.ha)/\wa.cell? ⟨w.heap.size,3,none⟩=some (.int .i64 R.ep)/\wa.cell? ⟨w.heap.size,4,none⟩=some (.int .i64 R.ver)/\wa.cell? ⟨w.heap.size,5,none⟩=some (.slice a.CA a.cn a.cc):=⟨B0.out.cell 0,B0.out.cell 1,B0.out.cell 2,B0.out.cell 3,B0.out.cell 4,B0.out.cell 5⟩;cases fb
 ·clear HX HG HR;go_wp2_with fail;refine(HFI.out _ BE.out).mono ?_;rintro e w1 ⟨rfl,hb⟩;replace BE:=qD (BE.out.Jp hb);clear hb HFI q0 q1 q2 q3 q4 q5;go_wp2_with fail;refine(HAW.out _ BE.out).mono ?_;rintro e w2 ⟨rfl,hb⟩;have CE:=qD (BE.out.Jp hb);clear hb;go_wp2_with fail;go_ret;exact⟨rfl,CE.out⟩
 have HCN:=qD (HX.out rfl);clear HX;go_wp2_with fail;refine(HFI.out _ BE.out).mono ?_;rintro e w1 ⟨rfl,hb⟩;replace B0:=qD (B0.out.step hb);replace B1:=qD (B1.out.step hb);replace BE:=qD (BE.out.Jp hb);clear hb HFI q0 q1 q2 q3 q4 q5;have RF:=qD (dy B1.out);go_wp2_with ((with_reducible show wpList _ _ _ (⟨_,.load 38 _,_,_,_,_⟩::_) _ _);refine aG rfl 38 _ rfl (w.heap.size+1) 0 rfl _ _ RF.out Ly rfl (by kernel_rfl) ?_);refine(BN p w1 (HP.out.step BE.out) (HT.out.step BE.out)).mono ?_;rintro e w2 ⟨er,rfl,hv,hb⟩;replace B0:=qD (B0.out.step hb);replace B1:=qD (B1.out.step hb);replace BE:=qD (BE.out.Jp hb);have HV:=qD hv;clear hb hv RF;by_cases he:er=0;rotate_left
 ·have heb:(er != 0)=true:=by simpa using he
  clear he HV HG HR;go_wp2_with fail;refine(HAW.out _ BE.out).mono ?_;rintro e w3 ⟨rfl,hb⟩;have DE:=qD (BE.out.Jp hb);clear hb;go_wp2_with fail;go_ret;exact⟨rfl,DE.out⟩
 subst he;have VP:=qD (HV.out rfl);have HRG:=qD (HG.out trivial VP.out.1 VP.out.2);have HRR:=qD (HR.out trivial VP.out.1 VP.out.2);clear HV HG HR;go_upto_region 3 with fail
 have KS:Hid (∀w',Below w2.heap.size w2 w'->(fun w'=>(Instr.loadAt 53 (.pointer (some ⟨w.heap.size,0,none⟩))).run prog w'=.ok (ft a R) w'/\(Instr.loadAt 38 (.pointer (some ⟨w.heap.size+1,0,none⟩))).run prog w'=.ok (am p) w') w'):=qD fun w' hb=>⟨FX (bW a R) rfl _ _ (B0.out.step hb),gq (aH p) rfl _ _ (B1.out.step hb)⟩;have B:=qD ((LH w2.heap.size w2).drewN 1);clear B0 B1;refine MX ?_;refine ML (S:=(fun w'=>(Instr.loadAt 53 (.pointer (some ⟨w.heap.size,0,none⟩))).run prog w'=.ok (ft a R) w'/\(Instr.loadAt 38 (.pointer (some ⟨w.heap.size+1,0,none⟩))).run prog w'=.ok (am p) w')) (by kernel_rfl) ?_ (fun hHeld=>?_)
 ·(try dsimp only);exact KS.out _ B.out
 refine rT (v:=ft a R) 0 rfl ?_ ?_
 (skip)
 ·intro w' hSw;exact cM (p:=.pointer (some ⟨w.heap.size,0,none⟩)) rfl rfl hSw.1
 try go_frame
 refine rT (v:=am p) 1 rfl ?_ ?_
 (skip)
 ·intro w' hSw;exact cM (p:=.pointer (some ⟨w.heap.size+1,0,none⟩)) rfl rfl hSw.2
 try go_frame
 refine rT (v:=ft a R) 3 rfl ?_ ?_
 (skip)
 ·intro w' hSw;exact cM (p:=.pointer (some ⟨w.heap.size,0,none⟩)) rfl rfl hSw.1
 try go_frame
 refine rT (v:=am p) 4 rfl ?_ ?_
 (skip)
 ·intro w' hSw;exact cM (p:=.pointer (some ⟨w.heap.size+1,0,none⟩)) rfl rfl hSw.2
 try go_frame
 refine rY 2 rfl fun K hK=>?_;go_simp;refine(tP R a p Q _ (H.out.step (BE.out.Jp B.out)) HCN.out.1 (fun wr hb=>HRG.out wr ((BE.out.Jp B.out).Jp hb))).mono ?_;rintro e3 w3 ⟨A3,n3,c3,L3,rfl,hq3,hs3,hb3⟩;replace B:=qD (B.out.Jp hb3);have HS3:=qD hs3;have HQ3:=qD hq3;clear hb3 hs3 hq3
 (try go_wp2_with fail)
 clear hHeld;refine hK.out _ _ ?_ fun hHeld=>?_
 ·(try dsimp only);exact KS.out _ B.out
 clear hK K
 try go_frame
 refine rY 5 rfl fun K hK=>?_;go_simp;refine(tO R a p Q' _ (H.out.step (BE.out.Jp B.out)) HCN.out.1 (fun wr hb=>HRR.out wr ((BE.out.Jp B.out).Jp hb))).mono ?_;rintro e4 w4 ⟨A4,n4,c4,L4,rfl,hq4,hs4,hb4⟩;replace B:=qD (B.out.Jp hb4);replace HS3:=qD (HS3.out.step hb4);obtain rfl:L3=L4:=HQE.out _ _ HQ3.out hq4;rw[DG R.cs L3 HCN.out.2] at HS3;obtain rfl:n3=n4:=HS3.out.ln.trans hs4.ln.symm;have HEQ:=qD (ld (jK R.cs L3 8) A3 A4 n3 c3 c4 w4 HS3.out hs4 (by have h1:=hs4.ln;have h2:=FH R.cs L3 8;omega));clear hb4 hs4 hq4
 (try go_wp2_with fail)
 clear hHeld;refine hK.out _ _ ?_ fun hHeld=>?_
 ·(try dsimp only);exact KS.out _ B.out
 clear hK K
 try go_frame
 refine rY 6 rfl fun K hK=>?_;go_simp;refine HEQ.out.mono ?_;rintro e5 w5 ⟨rfl,hb5⟩;replace B:=qD (B.out.Jp hb5);clear hb5
 (try go_wp2_with fail)
 clear hHeld;refine hK.out _ _ ?_ fun hHeld=>?_
 ·(try dsimp only);exact KS.out _ B.out
 clear hK K
 try go_frame
 refine rT (v:=?_) 7 rfl ?_ ?_;rotate_left
 ·intro w' hSw;(try dsimp only at hSw);obtain⟨_,hSw2⟩:=hSw;go_simp;(try with_reducible rfl)
 try go_frame
 refine rY 8 rfl fun K hK=>?_;go_simp;refine(HAW.out _ (BE.out.Jp B.out)).mono ?_;rintro e6 w6 ⟨rfl,hb6⟩;replace B:=qD (B.out.Jp hb6);clear hb6
 (try go_wp2_with fail)
 clear hHeld;refine hK.out _ _ ?_ fun hHeld=>?_
 ·(try dsimp only);exact KS.out _ B.out
 clear hK K
 try go_frame
 refine rT (v:=?_) 9 rfl ?_ ?_;rotate_left
 ·intro w' hSw;(try dsimp only at hSw);obtain⟨_,hSw2⟩:=hSw;go_simp;(try with_reducible rfl)
 try go_frame
 refine rT (v:=?_) 10 rfl ?_ ?_;rotate_left
 ·intro w' hSw;(try dsimp only at hSw);obtain⟨_,hSw2⟩:=hSw;go_simp;(try with_reducible rfl)
 try go_frame
 refine rD ?_ _;refine Mf ?_;clear hHeld
 all_goals
  go_wp2_with fail;go_ret;exact⟨rfl,BE.out.Jp B.out⟩
def dY(name:ByteArray):List bf->Nat->Int
 | [],_=>-1
 | f::r,i=>if f.s.toList==name.toList then(i:Int) else dY name r (i+1)
def jM(x:aC)(name:ByteArray):Int:=if x.k==5 then dY name x.d 0 else -1
theorem DV(x:aC)(c:VC)(name:ByteArray)(w:World)(h:RW w c x):
 Calls prog 143 #[c.val,.string name] w fun e w'=>e=.returned (.int .i64 (jM x name))/\Below w.heap.size w w':=by
 have HO:=qD h.open;clear h;cases hk:(c.k != 5)
 ·have hn:c.dn<=140737488355328:=by have:=HO.out.dsz;unfold aF at this;omega
  have HE:Hid (jM x name=dY name x.d 0):=by
   have:=HO.out.k;simp at hk;simp[jM,<-this,hk,Hid]
  go_enter func143,ntmps143;go_wp2_with fail
  go_loopw [4,5,12] (fun v4 v5 v12 wr=>∃i:Nat,i<=c.dn/\v4=.int .i64 0/\v12=.int .i64 i/\dY name x.d 0=dY name (x.d.drop i) i/\aE wr w.heap.size 29 c.arr/\Below w.heap.size w wr) (fun _ _ v12 _=>c.dn-(intOf v12).toNat)
  ·exact⟨0,LQ _,rfl,rfl,rfl,aE.Jq rfl,(LH _ _).alloc (qL) _⟩
  case round=>
   obtain⟨i,hi,rfl,rfl,hall,N1,N2⟩:=hrel;have e4:=N1.cell 4;simp at e4;have HA:=qD hall;clear hall;by_cases hlt:i<c.dn
   ·obtain⟨b,off,hDA,_,hel⟩:=HO.out.da (by omega);obtain⟨f,hf⟩:∃f,x.d[i]?=some f:=⟨_,LI (by have:=HO.out.dn;omega)⟩;obtain⟨hs,_,_⟩:=hel i f hf;have hs':=(N2.cell (p:=⟨b,off+i*6,none⟩) (Lr w _ hs)).trans hs;rw[hDA] at e4;have HD:=qD (bM hf);have J1:=qD N1;have J2:=qD N2;clear hs hel hf hDA N1 N2;cases hq:(f.s.toList==name.toList)
    ·have HF:Hid (dY name x.d 0=dY name (x.d.drop (i+1)) (i+1)):=by rw[Hid,HA.out,HD.out,dY,hq];rfl
     go_wp2_with fail;go_roundw
     ·exact⟨i+1,by omega,rfl,by go_num,HF.out,J1.out,J2.out⟩
     ·simp[intOf];omega
    ·have HF:Hid (dY name x.d 0=(i:Int)):=by rw[Hid,HA.out,HD.out,dY,hq];rfl
     go_wp2_with fail;go_ret;exact⟨by rw[HE.out,HF.out];rfl,J2.out⟩
   ·have HF:Hid (dY name x.d 0=-1):=by rw[Hid,HA.out,La (by have:=HO.out.dn;omega)];rfl
    have J2:=qD N2;clear N1 N2;go_wp2_with fail;go_ret;exact⟨by rw[HE.out,HF.out];rfl,J2.out⟩
 ·have HE:Hid (jM x name=-1):=by
   have:=HO.out.k;simp at hk;simp[jM,<-this,hk,Hid]
  go_enter func143,ntmps143;go_wp2_with fail;go_ret;exact⟨by rw[HE.out];rfl,(LH _ _).alloc (qL) _⟩
theorem BQ(x:aC):∀(c:VC) (w:World),RW w c x->Calls prog 144 #[c.val] w (zx w x):=by
 induction x using aC.ind with
 | h k n t l d ihl ihd=>
 intro c w h;obtain⟨ck,cn,ct,LA,ln,lc,DA,dn,dc⟩:=c;obtain⟨i0,hi0,hz0,hz1,hz2⟩:=Mc fx;obtain⟨j0,hj0,hy0,hy1,hy2⟩:=Mc ll;have ho:=h.open;have hls:ln*80<=140737488355328:=ho.lsz;have hds:dn*96<=140737488355328:=ho.dsz;have hll:ln=l.length:=ho.ln;have hdl:dn=d.length:=ho.dn;have hmk:=gI (P:=prog) 26 29 i0 VC.zero.val Mh hi0 hz0 ln (by rw[hz2];omega) (by omega);have hmd:=gI (P:=prog) 27 73 j0 (.agg (#[.string empty]++VC.zero.arr)) NM hj0 hy0 dn (by rw[hy2];omega) (by omega);rw[hz1] at hmk;rw[hy1] at hmd;have hln:ln<=140737488355328:=by omega
 have hdn:dn<=140737488355328:=by omega
 have HLL:=qD hll;have HDL:=qD hdl;clear hll hdl;have HI:=qD ihl;have HJ:=qD ihd;have HO:=qD ho;clear ihl ihd ho h hi0 hz0 hz1 hz2 hj0 hy0 hy1 hy2;go_enter func144,ntmps144
 go_upto_if 18 with fail
 go_cut [] (fun wx=>∃r,JR w ⟨ck,cn,ct,LA,ln,lc,DA,dn,dc⟩ (.mk k n t l d) wx r)
 case first=>
  by_cases hl0:0<ln
  ·obtain⟨b,off,hLA,_,hel⟩:=HO.out.la hl0;have hLA':LA=some ⟨b,off,none⟩:=hLA;subst hLA';have HEL:=qD hel;clear hLA hel;have hd:decide (0<ln)=true:=by simpa using hl0
   rw[hd];clear hd;go_wp2_with fail
   go_loopw [4,5,27] (fun v4 v5 v27 wr=>∃i:Nat,i<=ln/\v27=.int .i64 i/\CL w ⟨ck,cn,ct,some ⟨b,off,none⟩,ln,lc,DA,dn,dc⟩ l i wr) (fun _ _ v27 _=>ln-(intOf v27).toNat)
   case atStart=>
    refine⟨0,LQ _,rfl,⟨((aE.Jq rfl).alloc _).alloc _ |>.alloc _,((aE.Jq (by simp)).alloc _).alloc _,(aE.Jq (by simp)).alloc _,⟨_,aE.Jq (by simp),size_madeCells _ _⟩,fun j y hj=>by omega,((((LH _ _).alloc (qL) _).alloc (by simp) _).alloc (by simp;omega) _).alloc (by simp;omega) _⟩⟩
   case round=>
    obtain⟨i,hi,rfl,I⟩:=hrel;have J:=qD I;by_cases hlt:i<ln
    ·obtain⟨y,hy⟩:∃y,l[i]?=some y:=⟨_,LI (by have:=HLL.out;omega)⟩;obtain⟨u,hu,hr⟩:=HEL.out i y hy;have hr':=hr.lt.Jp I.bel;obtain⟨u0,u1,u2,u3,u4⟩:=hu.keep (I.bel.block b hu.lt);have HY:=qD hy;have HR:=qD hr';have HC:=qD (HI.out y (LP hy));have hb:b<wr.heap.size:=by have:=hu.lt;have:=I.bel.size;omega
     have r3:=I.b2.cell 3;simp at r3;clear hy hr hr' hu I hmk hmd;go_wp2_with fail;have K:=J.out.step ((LH wr.heap.size wr).alloc (qL) (Obj.cells u.arr 29));have KB:aE (wr.alloc (.cells u.arr 29)) wr.heap.size 29 u.arr:=aE.Jq rfl;have KR:=HR.out.alloc (.cells u.arr 29);clear HR u0 u1 u2 u3 u4 r3;have hga:w.heap.size+3<wr.heap.size:=J.out.row.lt;generalize wr.alloc (.cells u.arr 29)=wa at*;generalize wr.heap.size=ga at*;have hne:w.heap.size+3≠ga:=by omega
     obtain⟨u0,u1,u2,u3,u4⟩:=bS.Jr KB;simp only[LL] at u1 u2 u3 u4;have r3:=K.b2.cell 3;simp at r3;have LB:=qD KB;have LK:=qD K;have LR:=qD KR;clear KB K KR;have hi0:(0:Int)<=(i:Int):=by omega
     have hi1:(i:Int)<(ln:Int):=by omega
     go_region_held3 (fun w'=>w'.cell? ⟨w.heap.size+2,3,none⟩=some (.slice (some ⟨w.heap.size+3,0,none⟩) ln ln)/\w'.cell? ⟨ga,0,none⟩=some (.int .i64 u.k)/\w'.cell? ⟨ga,1,none⟩=some (.int .i64 u.n)/\w'.cell? ⟨ga,2,none⟩=some (.string u.t)/\w'.cell? ⟨ga,3,none⟩=some (.slice u.LA u.ln u.lc)/\w'.cell? ⟨ga,4,none⟩=some (.slice u.DA u.dn u.dc))
      (first|go_keep|exact⟨s0,s1,s2,s3,s4,s5⟩|((try dsimp only);repeat' apply And.intro;all_goals go_keep))
      ((go_at_call 144;refine(HC.out u _ (LR.out.drewN 1)).mono ?_;rintro e w1 ⟨c',mid,rfl,hcl,hb1⟩;replace hb1:Below wa.heap.size wa w1:=hb1.KK;replace hcl:Cl wa.heap.size mid w1 c' y:=hcl;have s0:=(hb1.cell (p:=⟨w.heap.size+2,3,none⟩) LK.out.b2.lt).trans r3;have s1:=(hb1.cell (p:=⟨ga,0,none⟩) LB.out.lt).trans u0;have s2:=(hb1.cell (p:=⟨ga,1,none⟩) LB.out.lt).trans u1;have s3:=(hb1.cell (p:=⟨ga,2,none⟩) LB.out.lt).trans u2;have s4:=(hb1.cell (p:=⟨ga,3,none⟩) LB.out.lt).trans u3;have s5:=(hb1.cell (p:=⟨ga,4,none⟩) LB.out.lt).trans u4;have row:me w1 (w.heap.size+3) 29 (ln*5):=(LK.out.step hb1).row;have z:=row.frozen;obtain⟨o0,p0⟩:=row.cell (i:=i*5) (by omega);obtain⟨o1,p1⟩:=row.cell (i:=i*5+1) (by omega);obtain⟨o2,p2⟩:=row.cell (i:=i*5+2) (by omega);obtain⟨o3,p3⟩:=row.cell (i:=i*5+3) (by omega);obtain⟨o4,p4⟩:=row.cell (i:=i*5+4) (by omega);have LC:=qD hcl;have LX:=qD (LK.out.step hb1);clear hcl hb1 row))
     clear s0 s1 s2 s3 s4 s5 p0 p1 p2 p3 p4 z u0 u1 u2 u3 u4 r3;go_wp2_with fail;go_roundw
     ·exact⟨i+1,by omega,by go_num,LX.out.next hlt HY.out (LC.out.rv.mono fun q hq=>by have:=LK.out.row.lt;omega)⟩
     ·simp[intOf];omega
    ·obtain rfl:i=ln:=by omega
     clear hmk hmd;go_wp2_with fail;go_meet;exact⟨_,I.b0,I.b1,I.b2,I.bel,⟨rfl,rfl,rfl,rfl,rfl,rfl,rfl,rfl⟩,fun h=>absurd h (by show i≠0;omega),fun _=>⟨w.heap.size+3,rfl,qL,I.row,fun j y hj=>I.el j y (by have:=(LJ.1 hj).1;have:=HLL.out;simp only[aC.l] at*;omega) hj⟩⟩
  ·have hz:ln=0:=by omega
   have hz':decide ((0:Int)<(ln:Int))=false:=by simp;omega
   subst hz;clear hmk hmd;go_wp2_with fail;go_meet;exact⟨⟨ck,cn,ct,none,0,0,none,0,0⟩,((aE.Jq rfl).alloc _).alloc _,(aE.Jq (by simp)).alloc _,aE.Jq (by simp),(((LH _ _).alloc (qL) _).alloc (by simp) _).alloc (by simp;omega) _,⟨rfl,rfl,rfl,rfl,rfl,rfl,rfl,rfl⟩,fun _=>rfl,fun h=>absurd h (Nh 0)⟩
 case rest=>
  obtain⟨r,I⟩:=hcut;obtain⟨rk,rn,rt,rLA,rln,rlc,rDA,rdn,rdc⟩:=r;have he:=I.e;simp only at he;obtain⟨rfl,rfl,rfl,rfl,rfl,rfl,rfl,rfl⟩:=he;have e4:=I.b0.cell 4;simp at e4;have J:=qD I;clear I hmk
  go_upto_if 42 with fail
  go_cut [] (fun wx=>∃r mid,CE w (.mk k n t l d) r mid wx)
  case first=>
   by_cases hd0:0<dn
   ·obtain⟨b,off,hDA,_,hel⟩:=HO.out.da hd0;have hDA':DA=some ⟨b,off,none⟩:=hDA;subst hDA';have HEL:=qD hel;clear hDA hel;have hd:decide (0<dn)=true:=by simpa using hd0
    rw[hd];clear hd;have g0:=J.out.b2.cell 4;have z0:=J.out.b2.frozen 4;have l0:=J.out.b0.lt;have l2:=J.out.b2.lt;simp at g0;go_wp2_with fail
    go_loopw [6,7,51] (fun v6 v7 v51 wr=>∃i:Nat,i<=dn/\v51=.int .i64 i/\CD w ⟨rk,rn,rt,LA,rlc,lc,some ⟨b,off,none⟩,dn,dc⟩ ⟨rk,rn,rt,rLA,rlc,rlc,none,0,0⟩ wc.heap.size l d i wr) (fun _ _ v51 _=>dn-(intOf v51).toNat)
    case atStart=>
     refine⟨0,LQ _,rfl,?_⟩;exact CD.start J.out
    case round=>
     obtain⟨i,hi,rfl,I⟩:=hrel;have J2:=qD I;clear g0 z0 e4 hmd;by_cases hlt:i<dn
     ·obtain⟨f,hf⟩:∃f,d[i]?=some f:=⟨_,LI (by have:=HDL.out;omega)⟩;obtain⟨hs,hz,u,hu,hr⟩:=HEL.out i f hf;have hr':=hr.lt.Jp I.bel;have s0:=(I.bel.cell (p:=⟨b,off+i*6,none⟩) hu.lt).trans hs;obtain⟨u0,u1,u2,u3,u4⟩:=hu.keep (I.bel.block b hu.lt);have HY:=qD hf;have HR:=qD hr';have HC:=qD (HJ.out f (LP hf));have hb:b<wr.heap.size:=by have:=hu.lt;have:=I.bel.size;omega
      have r3:=I.b2.cell 4;simp at r3;clear hf hr hr' hu I hs hz;go_wp2_with fail;have K:=J2.out.step ((LH wr.heap.size wr).alloc (qL) (Obj.cells #[.string f.s,.int .i64 u.k,.int .i64 u.n,.string u.t,.slice u.LA u.ln u.lc,.slice u.DA u.dn u.dc] 73));have KB:aE (wr.alloc (.cells #[.string f.s,.int .i64 u.k,.int .i64 u.n,.string u.t,.slice u.LA u.ln u.lc,.slice u.DA u.dn u.dc] 73)) wr.heap.size 73 #[.string f.s,.int .i64 u.k,.int .i64 u.n,.string u.t,.slice u.LA u.ln u.lc,.slice u.DA u.dn u.dc]:=aE.Jq rfl;have KR:=HR.out.alloc (.cells #[.string f.s,.int .i64 u.k,.int .i64 u.n,.string u.t,.slice u.LA u.ln u.lc,.slice u.DA u.dn u.dc] 73);have hga:wc.heap.size<wr.heap.size:=J2.out.row.lt;clear HR u0 u1 u2 u3 u4 r3 s0;generalize wr.alloc (.cells #[.string f.s,.int .i64 u.k,.int .i64 u.n,.string u.t,.slice u.LA u.ln u.lc,.slice u.DA u.dn u.dc] 73)=wa at*;generalize wr.heap.size=ga at*;have hne:wc.heap.size≠ga:=by omega
      have hne2:wc.heap.size≠w.heap.size+2:=by omega
      have f0:=KB.cell 0;have f1:=KB.cell 1;have f2:=KB.cell 2;have f3:=KB.cell 3;have f4:=KB.cell 4;have f5:=KB.cell 5;have r3:=K.b2.cell 4;simp at r3 f0 f1 f2 f3 f4 f5;have LB:=qD KB;have LK:=qD K;have LR:=qD KR;clear KB K KR;have hi0:(0:Int)<=(i:Int):=by omega
      have hi1:(i:Int)<(dn:Int):=by omega
      go_region_held3 (fun w'=>w'.cell? ⟨w.heap.size+2,4,none⟩=some (.slice (some ⟨wc.heap.size,0,none⟩) dn dn)/\w'.cell? ⟨ga,0,none⟩=some (.string f.s)/\w'.cell? ⟨ga,1,none⟩=some (.int .i64 u.k)/\w'.cell? ⟨ga,2,none⟩=some (.int .i64 u.n)/\w'.cell? ⟨ga,3,none⟩=some (.string u.t)/\w'.cell? ⟨ga,4,none⟩=some (.slice u.LA u.ln u.lc)/\w'.cell? ⟨ga,5,none⟩=some (.slice u.DA u.dn u.dc))
       (first|go_keep|exact⟨s0,s6,s1,s2,s3,s4,s5⟩|((try dsimp only);repeat' apply And.intro;all_goals go_keep))
       ((go_at_call 144;refine(HC.out u _ (LR.out.drewN 1)).mono ?_;rintro e w1 ⟨c',mid,rfl,hcl,hb1⟩;replace hb1:Below wa.heap.size wa w1:=hb1.KK;replace hcl:Cl wa.heap.size mid w1 c' f.v:=hcl;have s0:=(hb1.cell (p:=⟨w.heap.size+2,4,none⟩) LK.out.b2.lt).trans r3;have s6:=(hb1.cell (p:=⟨ga,0,none⟩) LB.out.lt).trans f0;have s1:=(hb1.cell (p:=⟨ga,1,none⟩) LB.out.lt).trans f1;have s2:=(hb1.cell (p:=⟨ga,2,none⟩) LB.out.lt).trans f2;have s3:=(hb1.cell (p:=⟨ga,3,none⟩) LB.out.lt).trans f3;have s4:=(hb1.cell (p:=⟨ga,4,none⟩) LB.out.lt).trans f4;have s5:=(hb1.cell (p:=⟨ga,5,none⟩) LB.out.lt).trans f5;have row:me w1 wc.heap.size 73 (dn*6):=(LK.out.step hb1).row;have z:=row.frozen;obtain⟨o0,p0⟩:=row.cell (i:=i*6) (by omega);obtain⟨o1,p1⟩:=row.cell (i:=i*6+1) (by omega);obtain⟨o2,p2⟩:=row.cell (i:=i*6+2) (by omega);obtain⟨o3,p3⟩:=row.cell (i:=i*6+3) (by omega);obtain⟨o4,p4⟩:=row.cell (i:=i*6+4) (by omega);obtain⟨o5,p5⟩:=row.cell (i:=i*6+5) (by omega);have LC:=qD hcl;have LX:=qD (LK.out.step hb1);clear hcl hb1 row))
      clear s0 s1 s2 s3 s4 s5 s6 p0 p1 p2 p3 p4 p5 z f0 f1 f2 f3 f4 f5 r3;go_wp2_with fail;go_roundw
      ·exact⟨i+1,by omega,by go_num,LX.out.next hlt HY.out (LC.out.rv.mono fun q hq=>by have:=LK.out.row.lt;omega)⟩
      ·simp[intOf];omega
     ·obtain rfl:i=dn:=by omega
      go_wp2_with fail;go_meet;exact⟨_,wc.heap.size,CE.Kw J2.out HO.out (by have:=HDL.out;omega) J.out.l0 hd0⟩
   ·have hz:dn=0:=by omega
    subst hz;clear hmd;have hd:decide (0<0)=false:=by decide
    rw[hd];clear hd;go_wp2_with fail;go_meet;exact⟨_,wc.heap.size,CE.Kr J.out HO.out⟩
  case rest=>
   obtain⟨r,mid,I⟩:=hcut;have J3:=qD I;obtain⟨a0,a1,a2,a3,a4⟩:=bS.Jr I.b2;obtain⟨b0,b1,b2,b3,b4⟩:=bS.Jr I.b1;have z:=I.b1.frozen;clear I e4 hmd;go_wp2_with fail;have q:=bS.Jr (J3.out.b1.KF r);refine Lp (dX rfl _ _ _ rfl _ r q) rfl ?_;exact CE.done J3.out
theorem pe(name:ByteArray)(d:List bf):∀i:Nat,dY name d i=-1\/∃j:Nat,dY name d i=(i+j:Nat)/\j<d.length:=by
 induction d with
 | nil=>intro i;exact .inl rfl
 | cons f r ih=>
  intro i;simp only[dY];split
  ·exact .inr ⟨0,by simp,by simp⟩
  ·rcases ih (i+1) with h|⟨j,h1,h2⟩
   ·exact .inl h
   ·exact .inr ⟨j+1,by rw[h1];congr 1;omega,by simp;omega⟩
theorem va(x:aC)(name:ByteArray):jM x name=-1\/∃j:Nat,jM x name=j/\∃f,x.d[j]?=some f:=by
 unfold jM;split
 ·rcases pe name x.d 0 with h|⟨j,h1,h2⟩
  ·exact .inl h
  ·exact .inr ⟨j,by rw[h1];simp,_,LI h2⟩
 ·exact .inl rfl
def oV(x:aC)(name:ByteArray):Option aC:=if 0<=jM x name then(x.d[(jM x name).toNat]?).map bf.v else none
theorem rj{x:aC}{name:ByteArray}(h:jM x name=-1):oV x name=none:=by simp[oV,h]
theorem rm{x:aC}{name:ByteArray}{j:Nat}{f:bf}(h:jM x name=j)(hf:x.d[j]?=some f):oV x name=some f.v:=by
 simp[oV,h,hf]
theorem dI{fn:Func}{p u:Tmp}(h:fn.results=#[.cell p 29,.tmp u])(tmps:Array Value)(g1 off:Nat)(h1:tmps.getD p undef=.pointer (some ⟨g1,off,none⟩))(e:Value)(h2:tmps.getD u undef=e)(W:World)(v:VC)(q:bS W g1 off v):(results fn tmps).run prog W=.ok (.tuple #[v.val,e]) W:=by
 obtain⟨q0,q1,q2,q3,q4⟩:=q;rw[QE h,h1,h2];simp[asAddr,go_sem,q0,q1,q2,q3,q4]
def IQ(x:aC)(name:ByteArray)(w:World)(e:Ending)(w':World):Prop:=
 ∃(c:VC),e=.returned (.tuple #[c.val,.bool (oV x name).isSome])/\RV (fun b=>w.heap.size<=b) w' c ((oV x name).getD aC.zero)/\Below w.heap.size w w'
theorem FY(x:aC)(c:VC)(name:ByteArray)(w:World)(h:RW w c x):
 Calls prog 79 #[c.val,.string name] w (IQ x name w):=by
 have H:=qD h;clear h;go_enter func79,ntmps79;go_wp2_with fail;refine(DV x c name _ ((H.out.alloc _).alloc _)).mono ?_;rintro e w1 ⟨rfl,hb⟩;have B0:aE w1 w.heap.size 29 c.arr:=((aE.Jq rfl).alloc _).step hb;have B1:aE w1 (w.heap.size+1) 29 VC.zero.arr:=(aE.Jq (by simp)).step hb;have B2:Below w.heap.size w w1:=(((LH _ _).alloc (qL) _).alloc (by simp) _).trans (hb.mono (by simp;omega));clear hb;have J0:=qD B0;have J1:=qD B1;have J2:=qD B2;obtain⟨b0,b1,b2,b3,b4⟩:=bS.Jr B1;have e4:=B0.cell 4;have z:=B1.frozen;simp at e4;clear B0 B1 B2;rcases va x name with hf|⟨j,hf,f,hj⟩
 ·have HG:=qD (rj hf);rw[hf];clear hf;go_wp2_with fail;have q:=bS.Jr (J1.out.KF VC.zero);refine Lp (dI rfl _ _ _ rfl _ rfl _ VC.zero q) rfl ?_;refine⟨VC.zero,?_,?_,cH J2.out (by omega) 0 VC.zero⟩
  ·rw[HG.out];rfl
  ·rw[HG.out];exact RV.zero
 ·have HG:=qD (rm hf hj);rw[hf];clear hf;have ho:=H.out.open;have hjlt:j<c.dn:=by have:=(LJ.1 hj).1;have:=ho.dn;omega
  have hdz:c.dn<=140737488355328:=by have:=ho.dsz;unfold aF at this;omega
  obtain⟨b,off,hDA,_,hel⟩:=ho.da (by omega);obtain⟨_,_,u,hu,hr⟩:=hel j f hj;rw[hDA] at e4;obtain⟨u0,u1,u2,u3,u4⟩:=hu.keep (J2.out.block b hu.lt);have HR:=qD (hr.lt.Jp J2.out);clear ho hel hr hu hDA hj;go_wp2_with fail;have hlt:w.heap.size+1<w1.heap.size:=J1.out.lt;refine(BQ f.v u _ HR.out).mono ?_;rintro e w2 ⟨c',mid,rfl,hcl,hb⟩;have K1:=J1.out.step hb;have K2:=J2.out.Jp hb;have LC:=qD hcl;clear b0 b1 b2 b3 b4 z e4 u0 u1 u2 u3 u4 J0 J1 J2 hcl hb HR;obtain⟨b0,b1,b2,b3,b4⟩:=bS.Jr K1;have z:=K1.frozen;have L1:=qD K1;have L2:=qD K2;clear K1 K2;go_wp2_with fail;have q:=bS.Jr (L1.out.KF c');refine Lp (dI rfl _ _ _ rfl _ rfl _ c' q) rfl ?_;refine⟨c',?_,?_,cH L2.out (by omega) 0 c'⟩
  ·rw[HG.out];rfl
  ·rw[HG.out];exact((LC.out.keep (w':=cy w2 (w.heap.size+1) 0 c') fun q hq=>dS (by omega)).rv).mono fun q hq=>by omega
def fB:aC:=.mk 2 0 empty [] []
def iP:VC:=⟨2,0,empty,none,0,0,none,0,0⟩
theorem tV{F:Nat->Prop}{w:World}:RV F w iP fB:=
 mK.shut ⟨rfl,rfl,rfl,by decide,rfl,qL,by decide,fun h=>absurd h (by decide),rfl,qL,by decide,fun h=>absurd h (by decide)⟩
def dl:aC->List ByteArray->Option aC
 | x,[]=>if x.k=6 then none else some x
 | x,s::r=>if x.k=6 then none else match oV x s with
  | none=>some fB
  | some y=>dl y r
theorem pf{x:aC}(h:x.k=6)(l:List ByteArray):dl x l=none:=by cases l<;>rw[dl,LZ h]
theorem rp{x:aC}(h:x.k≠6):dl x []=some x:=by rw[dl,LU h]
theorem pg{x:aC}{s:ByteArray}{r:List ByteArray}(h:x.k≠6)(hg:oV x s=none):dl x (s::r)=some fB:=by rw[dl,LU h,hg]
theorem ph{x y:aC}{s:ByteArray}{r:List ByteArray}(h:x.k≠6)(hg:oV x s=some y):dl x (s::r)=dl y r:=by rw[dl,LU h,hg]
theorem BR{x:aC}(s:ByteArray)(h:x.k≠5):oV x s=none:=by
 refine rj ?_;unfold jM;rw[LU (by simpa using h)]
def DW(F:Nat->Prop)(x:aC)(l:List ByteArray)(w:World)(e:Ending)(w':World):Prop:=
 ∃u:VC,e=.returned (.tuple #[u.val,.bool (dl x l).isSome])/\(∀y,dl x l=some y->RV (fun b=>F b\/w.heap.size<=b) w' u y)/\Below w.heap.size w w'
theorem DW.drew{F:Nat->Prop}{x:aC}{l:List ByteArray}{w:World}{e:Ending}{w':World}(h:DW F x l w e w'):DW F x l w e w'.drew:=by
 obtain⟨u,h1,h2,h3⟩:=h;exact⟨u,h1,fun y hy=>(h2 y hy).keep fun _ _=>rfl,h3.drew⟩
structure BS(F:Nat->Prop)(w:World)(u:VC)(y:aC)(wr:World):Prop where
 b1:aE wr (w.heap.size+1) 29 VC.zero.arr
 b2:aE wr (w.heap.size+2) 29 iP.arr
 b3:aE wr (w.heap.size+3) 29 u.arr
 rv:RV (fun b=>(F b/\b<w.heap.size)\/w.heap.size+4<=b) wr u y
 bel:Below w.heap.size w wr
theorem BS.step{F:Nat->Prop}{w wr w':World}{u:VC}{y:aC}(h:BS F w u y wr)(hb:Below wr.heap.size wr w'):BS F w u y w':=⟨h.b1.step hb,h.b2.step hb,h.b3.step hb,h.rv.step hb,h.bel.Jp hb⟩
theorem BS.start{F:Nat->Prop}{w:World}{c:VC}{x:aC}(h:RV F w c x):BS F w c x ((((w.alloc (.cells c.arr 29)).alloc (.cells VC.zero.arr 29)).alloc (.cells iP.arr 29)).alloc (.cells c.arr 29)):=by
 have h1:Below w.heap.size w ((((w.alloc (.cells c.arr 29)).alloc (.cells VC.zero.arr 29)).alloc (.cells iP.arr 29)).alloc (.cells c.arr 29)):=((((LH _ _).alloc (qL) _).alloc (by simp) _).alloc (by simp;omega) _).alloc (by simp;omega) _;exact⟨((aE.Jq (by simp)).alloc _).alloc _,(aE.Jq (by simp)).alloc _,aE.Jq (by simp),h.lt.Jv fun b hb hl=>⟨.inl hb,h1.block b hb.2⟩,h1⟩
theorem pj{F:Nat->Prop}{w wr w':World}{u:VC}{y x:aC}{l:List ByteArray}{e:Ending}(h:BS F w u y wr)(c':VC)(o:Option aC)(ho:dl x l=o)(b:Bool)(hb:b=o.isSome)(he:e=.returned (.tuple #[c'.val,.bool b]))(hw:w'=cy wr (w.heap.size+1) 0 c')(hr:∀z,o=some z->RV (fun b=>F b\/w.heap.size<=b) (cy wr (w.heap.size+1) 0 c') c' z):DW F x l w e w':=by
 subst ho;subst hb;subst he;subst hw;exact⟨c',rfl,hr,cH h.bel (by omega) 0 c'⟩
theorem BS.put{F:Nat->Prop}{w wr:World}{u c':VC}{y z:aC}(h:BS F w u y wr)(hr:RV (fun b=>w.heap.size+4<=b) wr c' z):BS F w c' z (cy wr (w.heap.size+3) 0 c'):=
 ⟨h.b1.KI (by omega) 0 c',h.b2.KI (by omega) 0 c',h.b3.KF c',hr.Jv fun b hb _=>⟨.inr hb,dS (by omega)⟩,cH h.bel (by omega) 0 c'⟩
theorem BS.Ky{F:Nat->Prop}{w wr:World}{u:VC}{y:aC}(h:BS F w u y wr):RV (fun b=>F b\/w.heap.size<=b) (cy wr (w.heap.size+1) 0 u) u y:=
 h.rv.Jv fun b hb _=>⟨hb.elim (fun q=>.inl q.1) (fun q=>.inr (by omega)),dS (hb.elim (fun q=>by have:=q.2;omega) (fun q=>by omega))⟩
theorem Gw{F:Nat->Prop}(x:aC)(c:VC)(A:Option Addr)(n cc:Nat)(l:List ByteArray)(w:World)(h:RV F w c x)(hp:ST w A n cc l):
 Calls prog 33 #[c.val,.slice A n cc] w (DW F x l w):=by
 have HP:=qD hp;have HL:Hid (n=l.length):=hp.sr.ln;have hnz:(n:Int)<=8796093022208:=by have:=hp.sz;unfold aF at this;omega
 have I0:=qD (BS.start h);clear h hp;go_enter func33,ntmps33;go_upto_region 4 with fail
 change Code.wp _ _ _ _ ((((w.alloc (.cells c.arr 29)).alloc (.cells VC.zero.arr 29)).alloc (.cells iP.arr 29)).alloc (.cells c.arr 29));generalize ((((w.alloc (.cells c.arr 29)).alloc (.cells VC.zero.arr 29)).alloc (.cells iP.arr 29)).alloc (.cells c.arr 29))=wa at*
 go_loopw [9,10,11,16,28] (fun _ _ _ u16 _ wr=>∃(i:Nat) (u:VC) (y:aC),i<=n/\u16=.int .i64 i/\dl x l=dl y (l.drop i)/\BS F w u y wr) (fun _ _ _ u16 _ _=>n-(intOf u16).toNat)
 ·exact⟨0,c,x,LQ _,rfl,rfl,I0.out⟩
 case round=>
  obtain⟨i,u,y,hi,rfl,hk,J⟩:=hrel;have HK:=qD hk;have J2:=qD J;clear I0 hk J;have huk:u.k=y.k:=J2.out.rv.open.k;have HUK:=qD huk;clear huk;have z1:=J2.out.b1.frozen;have z3:=J2.out.b3.frozen;obtain⟨a0,a1,a2,a3,a4⟩:=bS.Jr J2.out.b1;obtain⟨n0,n1,n2,n3,n4⟩:=bS.Jr J2.out.b2;obtain⟨q0,q1,q2,q3,q4⟩:=bS.Jr J2.out.b3;simp only[LL] at a0 a1 a2 a3 a4 n0 n1 n2 n3 n4 q0 q1 q2 q3 q4;by_cases hlt:i<n
  ·obtain⟨b,off,s,hA,hbw,hs,hcell⟩:=HP.out.sr.Ko hlt;subst hA;have hcell2:=(J2.out.bel.cell (p:=⟨b,off+i,none⟩) hbw).trans hcell;have HD:Hid (l.drop i=s::l.drop (i+1)):=bM hs;have i0':(0:Int)<=(i:Int):=by omega
   have i1':(i:Int)<(n:Int):=by omega
   clear hs hcell hbw;by_cases h6:u.k=6
   ·have HR:Hid (dl x l=none):=by rw[Hid,HK.out];exact pf (by rw[<-HUK.out];exact h6) _
    have h6b:(u.k==6)=true:=by simpa using h6
    clear h6;go_wp2_with fail;have q:=bS.Jr (J2.out.b1.KF VC.zero);refine Lp (dI rfl _ _ _ rfl _ rfl _ VC.zero q) rfl ?_;exact pj J2.out VC.zero none HR.out false rfl rfl rfl (fun y hy=>by cases hy)
   ·have h6b:(u.k==6)=false:=by simpa using h6
    have h6y:y.k≠6:=by rw[<-HUK.out];exact h6
    by_cases h5:u.k=5
    ·have h5b:(u.k != 5)=false:=by simp[h5]
     clear h5 h6;have HG:=qD (FY y u s wr (J2.out.rv.mono fun _ _=>trivial));go_upto_region 10 with fail
     go_wp2_with fail;refine HG.out.mono ?_;rintro e w1 ⟨c',rfl,hr,hb⟩;have J3:=qD (J2.out.step hb);have HR1:=qD hr;have HSZ:Hid (w.heap.size+4<=wr.heap.size):=J2.out.b3.lt;have HSZ2:Hid (wr.heap.size<=w1.heap.size):=hb.size;clear a0 a1 a2 a3 a4 n0 n1 n2 n3 n4 q0 q1 q2 q3 q4 z1 z3 hr hb HG;cases hg:oV y s with
     | none=>
      rw[hg] at HR1;have HR:Hid (dl x l=some fB):=by rw[Hid,HK.out,HD.out];exact pg h6y hg
      clear hg;go_upto_region 11 with fail
      change Code.wp _ _ _ _ (w1.alloc (.cells c'.arr 29));have J4:=qD (J3.out.step ((LH w1.heap.size w1).alloc (qL) (Obj.cells c'.arr 29)));generalize w1.alloc (.cells c'.arr 29)=w2 at*;have z1:=J4.out.b1.frozen;obtain⟨a0,a1,a2,a3,a4⟩:=bS.Jr J4.out.b1;obtain⟨n0,n1,n2,n3,n4⟩:=bS.Jr J4.out.b2;simp only[LL] at a0 a1 a2 a3 a4 n0 n1 n2 n3 n4;go_wp2_with fail;have q:=bS.Jr (J4.out.b1.KF iP);refine Lp (dI rfl _ _ _ rfl _ rfl _ iP q) rfl ?_;exact pj J4.out iP (some fB) HR.out true rfl rfl rfl (fun y hy=>by cases hy;exact tV)
     | some z=>
      rw[hg] at HR1;have HR:Hid (dl x l=dl z (l.drop (i+1))):=by rw[Hid,HK.out,HD.out];exact ph h6y hg
      clear hg;go_upto_region 11 with fail
      change Code.wp _ _ _ _ (w1.alloc (.cells c'.arr 29));have J4:=qD (J3.out.step ((LH w1.heap.size w1).alloc (qL) (Obj.cells c'.arr 29)));have JC:Hid (aE (w1.alloc (.cells c'.arr 29)) w1.heap.size 29 c'.arr):=aE.Jq rfl;have HR2:=qD (HR1.out.lt.Jv (G:=fun b=>w.heap.size+4<=b) (w':=w1.alloc (.cells c'.arr 29)) fun b hb hl=>⟨Lt HSZ.out hb.1,Np _ _ _ hl⟩);have hgl:w.heap.size+3<w1.heap.size:=by have h1:=HSZ.out;have h2:=HSZ2.out;omega
      generalize w1.alloc (.cells c'.arr 29)=w2 at*;have z3:=J4.out.b3.frozen;obtain⟨a0,a1,a2,a3,a4⟩:=bS.Jr JC.out;obtain⟨q0,q1,q2,q3,q4⟩:=bS.Jr J4.out.b3;simp only[LL] at a0 a1 a2 a3 a4 q0 q1 q2 q3 q4;go_wp2_with fail;go_roundw
      ·exact⟨i+1,c',z,hlt,by go_num,HR.out,J4.out.put HR2.out⟩
      ·simp[intOf];omega
    ·have h5b:(u.k != 5)=true:=by simp[h5]
     have HR:Hid (dl x l=some fB):=by rw[Hid,HK.out,HD.out];exact pg h6y (BR s (by rw[<-HUK.out];exact h5))
     go_wp2_with fail;have q:=bS.Jr (J2.out.b1.KF iP);refine Lp (dI rfl _ _ _ rfl _ rfl _ iP q) rfl ?_;exact pj J2.out iP (some fB) HR.out true rfl rfl rfl (fun y hy=>by cases hy;exact tV)
  ·obtain rfl:i=n:=by omega
   have hdr:l.drop i=[]:=La (by have:=HL.out;omega);by_cases h6:u.k=6
   ·have HR:Hid (dl x l=none):=by rw[Hid,HK.out];exact pf (by rw[<-HUK.out];exact h6) _
    have h6b:(u.k != 6)=false:=by simp[h6]
    clear h6;go_upto_region 15 with fail
    go_region
    all_goals (go_wp2_with fail)
    all_goals
     have q:=bS.Jr (J2.out.b1.KF u).drew;refine Lp (dI rfl _ _ _ rfl _ rfl _ u q) rfl ?_;exact(pj J2.out u none HR.out false rfl rfl rfl (fun y hy=>by cases hy)).drew
   ·have HR:Hid (dl x l=some y):=by rw[Hid,HK.out,hdr];exact rp (by rw[<-HUK.out];exact h6)
    have h6b:(u.k != 6)=true:=by simp[h6]
    go_upto_region 15 with fail
    go_region
    all_goals (go_wp2_with fail)
    all_goals
     have q:=bS.Jr (J2.out.b1.KF u).drew;refine Lp (dI rfl _ _ _ rfl _ rfl _ u q) rfl ?_;exact(pj J2.out u (some y) HR.out true rfl rfl rfl (fun z hz=>by cases hz;exact J2.out.Ky)).drew
theorem BU(w:World):Calls prog 31 #[] w fun e w'=>e=.returned iP.val/\Below w.heap.size w w':=by
 go_enter func31,ntmps31;go_wp2_with fail;exact Lp (dX rfl _ _ _ rfl _ iP (bS.Jr (aE.new _ _ _))) rfl ⟨rfl,(LH _ _).alloc (qL) _⟩
theorem pk{a:Nat}{w:World}(h:a<=w.heap.size)(o:Obj):a<=(w.alloc o).heap.size:=by simp;omega
def fy(x:aC):List Od->Option (List aC)
 | []=>some []
 | q::r=>match dl x q.p with
  | none=>none
  | some y=>(fy x r).map (y::·)
theorem BV{x:aC}{ks:List Od}{i:Nat}{q:Od}(h:ks[i]?=some q):fy x (ks.drop i)=match dl x q.p with
 | none=>none
 | some y=>(fy x (ks.drop (i+1))).map (y::·):=by rw[bM h,fy]
noncomputable def oA(ks:List Od)(x:aC):Option (List aC):=if x.k=5/\aO x=true then fy x ks else none
theorem rq{ks:List Od}{x:aC}(h:x.k=5)(h':aO x=true):oA ks x=fy x ks:=LZ ⟨h,h'⟩
theorem yP{ks:List Od}{x:aC}(h:x.k≠5):oA ks x=none:=LU fun e=>h e.1
theorem BY{ks:List Od}{x:aC}(h:aO x=false):oA ks x=none:=LU fun e=>by rw[h] at e;cases e.2
structure Cj(w:World)(v:Value)(ps:List PV)(wr:World):Prop where
 own:wr.ownsRow w.heap.size 29 5 v ps.length (aJ bv ps)
 rv:∀p∈ps,RV (fun b=>v.ownBlock≠some b) wr p.1 p.2
 bel:Below w.heap.size w wr
theorem Cj.step{w wr w':World}{v:Value}{ps:List PV}(h:Cj w v ps wr)(hb:Below wr.heap.size wr w'):Cj w v ps w':=⟨aV h.own hb,fun p hp=>(h.rv p hp).step hb,h.bel.Jp hb⟩
theorem Cj.add{w wr w':World}{v v':Value}{ps:List PV}{p:PV}{m:Nat}(h:Cj w v ps wr)(hp:RV (fun b=>v.ownBlock≠some b) wr p.1 p.2)(hm:m=ps.length+1)(ho:w'.ownsRow w.heap.size 29 5 v' m (aJ bv ps++bv p))(hg:wr.grownBy w' v.ownBlock)(hat:v'.ownBlock=v.ownBlock\/v'.ownBlock=some wr.heap.size):Cj w v' (ps++[p]) w':=by
 subst hm
 have key:∀b,v.ownBlock≠some b->b<wr.heap.size->v'.ownBlock≠some b/\w'.heap[b]?=wr.heap[b]?:=fun b hb hl=>by
  refine⟨?_,hg.block b hl (fun e=>hb e.symm)⟩;rcases hat with e|e<;>rw[e]
  ·exact hb
  ·intro e';injection e' with e'
   omega
 refine⟨by rw[bN,LM];exact ho,fun q hq=>?_,h.bel.grown hg h.bel.size (bU h.own)⟩;rcases LY.1 hq with hq|hq
 ·exact(h.rv q hq).Jv key
 ·simp at hq;subst hq;exact hp.Jv key
theorem Cj.Jz{w wr:World}{v:Value}{ps:List PV}(h:Cj w v ps wr){b:Nat}(hb:b<w.heap.size\/wr.heap.size<=b):v.ownBlock≠some b:=fun e=>by
 have h1:=bU h.own b e;have h2:=ej h.own e;omega
theorem Cj.sl{w wr:World}{v:Value}{ps:List PV}(h:Cj w v ps wr)(hz:ps.length<=1000000):∃A c,v=.slice A ps.length c/\SL (fun _=>True) wr A ps.length c ps:=
 SL.Jt h.own rfl (by unfold aF;omega) (fun _ _=>trivial) fun p hp=>(h.rv p hp).mono fun _ _=>trivial
structure DX(w:World)(k:Array Value)(c:VC)(v:Value)(ps:List PV)(wr:World):Prop where
 b0:aE wr w.heap.size 24 k
 b1:aE wr (w.heap.size+1) 29 c.arr
 sz:w.heap.size+2<=wr.heap.size
 vs:Cj w v ps wr
 ne:v.ownBlock≠some w.heap.size/\v.ownBlock≠some (w.heap.size+1)
theorem DX.step{w wr w':World}{k:Array Value}{c:VC}{v:Value}{ps:List PV}(h:DX w k c v ps wr)(hb:Below wr.heap.size wr w'):DX w k c v ps w':=⟨h.b0.step hb,h.b1.step hb,Lt h.sz hb.size,h.vs.step hb,h.ne⟩
theorem DX.add{w wr w':World}{k:Array Value}{c:VC}{v v':Value}{ps:List PV}{p:PV}{m:Nat}(h:DX w k c v ps wr)(hp:RV (fun b=>v.ownBlock≠some b) wr p.1 p.2)(hm:m=ps.length+1)(ho:w'.ownsRow w.heap.size 29 5 v' m (aJ bv ps++bv p))(hg:wr.grownBy w' v.ownBlock)(hat:v'.ownBlock=v.ownBlock\/v'.ownBlock=some wr.heap.size):DX w k c v' (ps++[p]) w':=by
 have hs:=h.sz;refine⟨h.b0.grown hg (fun e=>h.ne.1 e.symm),h.b1.grown hg (fun e=>h.ne.2 e.symm),Lt h.sz hg.size,h.vs.add hp hm ho hg hat,?_⟩;rcases hat with e|e<;>rw[e]
 ·exact h.ne
 ·exact⟨fun e=>(by injection e;omega),fun e=>(by injection e;omega)⟩
theorem DX.start{w:World}{c:VC}{k:Array Value}:DX w k c (.slice none 0 0) [] ((w.alloc (.cells k 24)).alloc (.cells c.arr 29)):=by
 have hb:Below w.heap.size w ((w.alloc (.cells k 24)).alloc (.cells c.arr 29)):=((LH _ _).alloc (qL) _).alloc (by simp) _;exact⟨(aE.Jq rfl).alloc _,aE.Jq (by simp),by simp,⟨bC _ _ _ _,fun p hp=>by simp at hp,hb⟩,by simp[Value.ownBlock],by simp[Value.ownBlock]⟩
noncomputable def jr(y:aC):aC:=.mk 3 (bB y) empty [] []
noncomputable def Gx(y:aC):VC:=⟨3,bB y,empty,none,0,0,none,0,0⟩
theorem yQ{F:Nat->Prop}{w:World}(y:aC):RV F w (Gx y) (jr y):=
 mK.shut ⟨rfl,rfl,rfl,by show 0<=aF;decide,rfl,qL,by show 0*80<=aF;decide,fun h=>absurd h (by show ¬(0<0);omega),rfl,qL,by show 0*96<=aF;decide,fun h=>absurd h (by show ¬(0<0);omega)⟩
noncomputable def jY(ha:Bool)(ys:List aC):List aC:=if ha then ys.map jr else ys
noncomputable def gP(ks:List Od)(ha:Bool)(x:aC):ByteArray×Int:=match oA ks x with
 | none=>(empty,8)
 | some ys=>eD (jY ha ys)
theorem nO{ks:List Od}{ha:Bool}{x:aC}(h:oA ks x=none):gP ks ha x=(empty,8):=by rw[gP,h]
theorem rr{ks:List Od}{ha:Bool}{x:aC}{ys:List aC}(h:oA ks x=some ys):gP ks ha x=eD (jY ha ys):=by rw[gP,h]
theorem yR(ys:List aC)(y:aC):jY true (ys++[y])=jY true ys++[jr y]:=by simp[jY]
theorem BZ(ys:List aC):jY false ys=ys:=rfl
theorem yS(ha:Bool)(ys:List aC):(jY ha ys).length=ys.length:=by cases ha<;>simp[jY]
theorem yT:(Tryz.prog.info? 4).map (fun i=>(i.zero,i.size,i.bytes))=some (some (.bool false),1,1):=by kernel_rfl
theorem FZ(w:World)(n:Nat):SR 1 xC (w.alloc (.cells (madeCells #[.bool false] n) 4)) (some ⟨w.heap.size,0,none⟩) n n (List.replicate n false):=by
 refine⟨by simp,qL,fun _=>⟨w.heap.size,0,rfl,by simp,fun i a hi j v hj=>?_⟩⟩;cases j with
 | zero=>
  rw[aE.cell (aE.new _ _ _)];rw[Ol] at hi;split at hi
  ·rename_i hl
   cases hi;simp[xC] at hj;subst hj;simp[madeCells,hl,Nat.mod_one]
  ·cases hi
 | succ j=>simp[xC] at hj
theorem pm(ks:List Od)(ha:Bool)(A:Option Addr)(n cc:Nat)(x:aC)(c:VC)(w:World)(hT:cg w)(hk:KS w A n cc ks)(hx:RW w c x)(h8:ks.length<=8):
 Calls prog 10 #[.agg #[.slice A n cc,.bool ha],c.val] w fun e w'=>e=.returned (.tuple #[.string (gP ks ha x).1,.int .i64 (gP ks ha x).2])/\Below w.heap.size w w':=by
 obtain⟨i0,hi0,hy0,hy1,hy2⟩:=Mc fx;have HT:=qD hT;have HN:=qD hk.ln;have HX:=qD hx;have HK:=qD hk;have HKX:Hid (c.k=x.k):=hx.open.k;have hn8:n<=8:=by have:=HN.out;omega
 have I0:Hid (DX w #[.slice A n cc,.bool ha] c (.slice none 0 0) [] ((w.alloc (.cells #[.slice A n cc,.bool ha] 24)).alloc (.cells c.arr 29))):=DX.start;clear hk hx hT;go_enter func10,ntmps10;go_upto_region 1 with fail
 change Code.wp _ _ _ _ ((w.alloc (.cells #[.slice A n cc,.bool ha] 24)).alloc (.cells c.arr 29));generalize ((w.alloc (.cells #[.slice A n cc,.bool ha] 24)).alloc (.cells c.arr 29))=wa at*;obtain⟨a0,a1,a2,a3,a4⟩:=bS.Jr I0.out.b1;simp only[LL] at a0 a1 a2 a3 a4;by_cases h5:c.k=5;rotate_left
 ·have h5b:(c.k != 5)=true:=by simp[h5]
  have HV:Hid (gP ks ha x=(empty,8)):=nO (yP (by rw[<-HKX.out];exact h5));clear h5;go_wp2_with fail;go_ret2;exact⟨by rw[HV.out];rfl,I0.out.vs.bel⟩
 have h5b:(c.k != 5)=false:=by simp[h5]
 have HX5:Hid (x.k=5):=by unfold Hid;rw[<-HKX.out];exact h5
 clear h5;have hva:=qD (iB x c wa (HT.out.step I0.out.vs.bel) (HX.out.step I0.out.vs.bel));cases hv:aO x
 ·have HV:Hid (gP ks ha x=(empty,8)):=nO (BY hv);rw[hv] at hva;clear hv;go_wp2_with fail;refine hva.out.mono ?_;rintro e w1 ⟨rfl,hb⟩;have I1:=qD (I0.out.step hb);clear hva hb a0 a1 a2 a3 a4;go_wp2_with fail;go_ret2;exact⟨by rw[HV.out];rfl,I1.out.vs.bel⟩
 have HVX:Hid (oA ks x=fy x ks):=rq HX5.out hv;rw[hv] at hva;clear hv;go_wp2_with fail;refine hva.out.mono ?_;rintro e w1 ⟨rfl,hb⟩;have I1:=qD (I0.out.step hb);clear hva hb a0 a1 a2 a3 a4 I0;have k0:=I1.out.b0.cell 0;simp at k0;go_upto_region 5 with fail
 clear k0
 go_loopw [6,8,9,10,22] (fun u6 _ _ _ u22 wr=>∃(i:Nat) (ys:List aC) (ps:List PV),i<=n/\ys.length=i/\ps.map Prod.snd=jY ha ys/\u22=.int .i64 i/\fy x ks=(fy x (ks.drop i)).map (ys++·)/\DX w #[.slice A n cc,.bool ha] c u6 ps wr) (fun _ _ _ _ u22 _=>n-(intOf u22).toNat)
 ·exact⟨0,[],[],LQ _,rfl,by cases ha<;>rfl,rfl,by simp,I1.out⟩
 case round=>
  obtain⟨i,ys,ps,hi,hyl,hps,rfl,hall,J⟩:=hrel;have HYL:=qD hyl;have HPS:=qD hps;have HPL:Hid (ps.length=i):=by have:=congrArg List.length hps;rw[Lb,yS,hyl] at this;exact this
  have HA:=qD hall;have J2:=qD J;clear hyl hps hall J I1;by_cases hlt:i<n
  ·obtain⟨os,hos⟩:=HK.out;obtain⟨b,off,o,hA,hb,ho,e0,e1⟩:=hos.sr.Kq hlt;subst hA;obtain⟨q,hq⟩:∃q,ks[i]?=some q:=⟨_,LI (by have:=HN.out;omega)⟩;have HOR:=qD (hos.el i o q ho hq);have HVA:=qD (BV (x:=x) hq);have ew:=(J2.out.vs.bel.cell (p:=⟨b,off+i*2,none⟩) hb).trans e0;have ew1:=(J2.out.vs.bel.cell (p:=⟨b,off+i*2+1,none⟩) hb).trans e1;have hbw:b<wr.heap.size:=Mv hb J2.out.vs.bel.size;have i0':(0:Int)<=(i:Int):=by omega
   have i1':(i:Int)<(n:Int):=by omega
   clear hos ho hq e0 e1;go_upto_region 7 with fail
   change Code.wp _ _ _ _ (wr.alloc (.cells #[.slice o.A o.n o.c,.bool o.d] 66));have JB:Hid (aE (wr.alloc (.cells #[.slice o.A o.n o.c,.bool o.d] 66)) wr.heap.size 66 #[.slice o.A o.n o.c,.bool o.d]):=aE.Jq rfl;have J3:=qD (J2.out.step ((LH wr.heap.size wr).alloc (qL) (Obj.cells #[.slice o.A o.n o.c,.bool o.d] 66)));generalize wr.alloc (.cells #[.slice o.A o.n o.c,.bool o.d] 66)=wb at*;generalize wr.heap.size=ga at*;clear ew ew1 hbw J2;obtain⟨a0,a1,a2,a3,a4⟩:=bS.Jr J3.out.b1;simp only[LL] at a0 a1 a2 a3 a4;have o0:=JB.out.cell 0;simp at o0;have HAT:=qD (Gw (F:=fun b=>b<w.heap.size) x c o.A o.n o.c q.p wb ((HX.out.lt.mono fun b hb=>hb.2).keep fun b hb=>J3.out.vs.bel.block b hb) (HOR.out.st.step J3.out.vs.bel));go_wp2_with fail;refine HAT.out.mono ?_;rintro e w2 ⟨c9,rfl,hr,hb⟩;have J4:=qD (J3.out.step hb);have HR9:Hid (∀y,dl x q.p=some y->RV (fun b=>Value.ownBlock u6≠some b) w2 c9 y):=fun y hy=>(hr y hy).mono fun b hb=>J3.out.vs.Jz hb;clear hr hb HAT a0 a1 a2 a3 a4 o0 JB J3;cases hg:dl x q.p with
   | none=>
    have HV:Hid (gP ks ha x=(empty,8)):=nO (by rw[HVX.out,HA.out,HVA.out,hg];rfl);have J5:=qD (J4.out.step ((LH w2.heap.size w2).alloc (qL) (Obj.cells c9.arr 29)));clear hg;go_wp2_with fail;go_ret2;exact⟨by rw[HV.out];rfl,J5.out.vs.bel⟩
   | some y=>
    have HRY:=qD (HR9.out y hg)
    have HV:Hid (fy x ks=(fy x (ks.drop (i+1))).map ((ys++[y])++·)):=by
     unfold Hid;rw[HA.out,HVA.out,hg];simp[Option.map_map,Function.comp_def]
    clear hg HR9;have hlo2:w.heap.size<=w2.heap.size:=J4.out.vs.bel.size;have NE:Hid (Value.ownBlock u6≠some w2.heap.size):=J4.out.vs.Jz (.inr (qL));have NG:Hid (w.heap.size+2<=w2.heap.size):=J4.out.sz;go_upto_region 10 with fail
    change Code.wp _ _ _ _ (w2.alloc (.cells c9.arr 29));have JB:Hid (aE (w2.alloc (.cells c9.arr 29)) w2.heap.size 29 c9.arr):=aE.Jq rfl;have J5:=qD (J4.out.step ((LH w2.heap.size w2).alloc (qL) (Obj.cells c9.arr 29)));have HR5:=qD (HRY.out.alloc (.cells c9.arr 29));have BE5:Hid (Below w2.heap.size w2 (w2.alloc (.cells c9.arr 29))):=(LH w2.heap.size w2).alloc (qL) (Obj.cells c9.arr 29);generalize w2.alloc (.cells c9.arr 29)=w3 at*;have BE5:Hid (Below w2.heap.size w2 w3):=BE5;generalize hG9:w2.heap.size=g9 at*;have HG9:=qD hG9;clear hG9 NE NG;have k1:=J5.out.b0.cell 1;simp at k1;have hpi:ps.length<=8:=by have:=HPL.out;omega
    clear HRY;cases ha
    ·obtain⟨g0,g1,g2,g3,g4⟩:=bS.Jr JB.out;simp only[LL] at g0 g1 g2 g3 g4;have hlo:w.heap.size<=w3.heap.size:=J5.out.vs.bel.size;have LK:=qD (J5.out.step ((LH w3.heap.size w3).alloc (qL) (Obj.cells c9.arr 29)));have HRZ:=qD (HR5.out.alloc (.cells c9.arr 29));go_wp2_with (at_builtin;refine aD _ rfl _ _ 26 rfl w.heap.size 29 i0 VC.zero.val 5 80 Mh hi0 hy0 hy1 hy2 rfl (by decide) u6 ps.length (aJ bv ps) rfl LK.out.vs.own _ _ 1 _ (bv (c9,y)) rfl ⟨rfl,fun _=>⟨_,rfl,Lo _,ap _ _ _⟩⟩ (iK _) (by unfold maxLen;omega) (by omega) (pk hlo _) ?_);intro v' w4 hown hgr hat;have HI:=qD (LK.out.add (p:=(c9,y)) HRZ.out rfl hown hgr (by rw[lV];exact hat));clear hown hgr hat LK HRZ g0 g1 g2 g3 g4 HR5 JB J5 k1;go_wp2_with fail;go_roundw
     ·exact⟨i+1,ys++[y],ps++[(c9,y)],hlt,by rw[LM,HYL.out];rfl,by rw[Lc,HPS.out];rfl,by go_num,by rw[HV.out],HI.out⟩
     ·simp[intOf];omega
    ·obtain⟨g0,g1,g2,g3,g4⟩:=bS.Jr JB.out;simp only[LL] at g0 g1 g2 g3 g4;have HHA:=qD (mu y c9 w3 (HT.out.step J5.out.vs.bel) (HR5.out.mono fun _ _=>trivial));go_wp2_with fail;refine HHA.out.mono ?_;rintro e w4 ⟨rfl,hb⟩;have J6:=qD (J5.out.step hb);have hb4:=qD hb;have JB2:=qD (JB.out.step hb);clear g0 g1 g2 g3 g4 hb HHA HR5 JB J5 k1;obtain⟨g0,g1,g2,g3,g4⟩:=bS.Jr JB2.out;simp only[LL] at g0 g1 g2 g3 g4;have gz:=JB2.out.frozen;obtain⟨hh,hhe⟩:∃h,bB y=h:=⟨_,rfl⟩;rw[hhe];have HHE:=qD hhe;clear hhe;go_upto_region 12 with fail
     have BE6:Hid (Below w2.heap.size w2 (cy w4 g9 0 ⟨3,hh,empty,none,0,0,none,0,0⟩)):=by
      have h5:=BE5.out;rw[<-HG9.out] at h5;exact cH (h5.Jp hb4.out) (by rw[HG9.out];exact qL) 0 _
     have J7:=qD (J4.out.step BE6.out);have JB3:=qD (JB2.out.KF ⟨3,hh,empty,none,0,0,none,0,0⟩);change Code.wp _ _ _ _ (cy w4 g9 0 ⟨3,hh,empty,none,0,0,none,0,0⟩);generalize cy w4 g9 0 ⟨3,hh,empty,none,0,0,none,0,0⟩=w5 at*;clear g0 g1 g2 g3 g4 gz BE6 BE5 J6 JB2 hb4 J4;obtain⟨g0,g1,g2,g3,g4⟩:=bS.Jr JB3.out;simp only[LL] at g0 g1 g2 g3 g4;have hlo:w.heap.size<=w5.heap.size:=J7.out.vs.bel.size;have LK:=qD (J7.out.step ((LH w5.heap.size w5).alloc (qL) (Obj.cells (VC.arr ⟨3,hh,empty,none,0,0,none,0,0⟩) 29)));go_wp2_with (at_builtin;refine aD _ rfl _ _ 26 rfl w.heap.size 29 i0 VC.zero.val 5 80 Mh hi0 hy0 hy1 hy2 rfl (by decide) u6 ps.length (aJ bv ps) rfl LK.out.vs.own _ _ 1 _ (bv (⟨3,hh,empty,none,0,0,none,0,0⟩,jr y)) rfl ⟨rfl,fun _=>⟨_,rfl,Lo _,ap _ _ _⟩⟩ (iK _) (by unfold maxLen;omega) (by omega) (pk hlo _) ?_);intro v' w6 hown hgr hat;have HI:=qD (LK.out.add (p:=(⟨3,hh,empty,none,0,0,none,0,0⟩,jr y)) (by rw[<-HHE.out];exact yQ y) rfl hown hgr (by rw[lV];exact hat));clear hown hgr hat LK g0 g1 g2 g3 g4 JB3 J7;go_wp2_with fail;go_roundw
     ·exact⟨i+1,ys++[y],ps++[(⟨3,hh,empty,none,0,0,none,0,0⟩,jr y)],hlt,by rw[LM,HYL.out];rfl,by rw[Lc,HPS.out,yR];rfl,by go_num,by rw[HV.out],HI.out⟩
     ·simp[intOf];omega
  ·obtain rfl:i=n:=by omega
   have HV:Hid (gP ks ha x=eD (ps.map Prod.snd)):=by
    rw[HPS.out];refine rr ?_;rw[HVX.out,HA.out,La (by have:=HN.out;omega),fy];simp
   obtain⟨A1,c1,hu6,hsl⟩:=J2.out.vs.sl (by have:=HPL.out;omega);rw[HPL.out] at hu6 hsl;have HSL:=qD hsl;subst hu6;clear hsl;go_upto_region 14 with fail
   obtain⟨j0,hj0,hz0,hz1,hz2⟩:=Mc yT;have hmk:=gI (P:=prog) 79 4 j0 (.bool false) underlying79 hj0 hz0 i (by rw[hz2];omega) (by omega);rw[hz1,Oj] at hmk;have LK:=qD (J2.out.step ((LH wr.heap.size wr).alloc (qL) (.cells (madeCells #[.bool false] i) 4)));have hec:=qK ps A1 (some ⟨wr.heap.size,0,none⟩) i c1 i (wr.alloc (.cells (madeCells #[.bool false] i) 4)) (HT.out.step LK.out.vs.bel) (HSL.out.step ((LH wr.heap.size wr).alloc (qL) _)) (FZ wr i) (by omega);rw[<-HV.out] at hec;have HEC:=qD hec;obtain⟨⟨K1,K2⟩,hK⟩:∃K,gP ks ha x=K:=⟨_,rfl⟩;rw[hK] at HEC;have HKK:=qD hK;clear hK HV hec;go_wp2_with fail;refine HEC.out.mono ?_;rintro e w5 ⟨rfl,hb⟩;have CE:=qD (LK.out.vs.bel.Jp hb);clear hb HEC LK J2 HSL hmk;go_wp2_with fail;go_ret2;exact⟨by rw[HKK.out];rfl,CE.out⟩
def ka:ByteArray:=⟨#[97]⟩
def jm(n:Int):aC:=.mk 3 n empty [] []
def vc(n:Int):VC:=⟨3,n,empty,none,0,0,none,0,0⟩
def vD(n:Int):aC:=.mk 5 0 empty [] [.mk ka (jm n)]
def Ba:List Od:=[⟨[ka],false⟩]
theorem AC(n:Int):av aN (jm n):=(aZ _ _).2 ⟨⟨.inl rfl,.inr (.inr (.inr rfl)),.inr rfl,.inr rfl,.inr (.inr (.inr (.inl rfl)))⟩,by simp[jm,aC.l],by simp[jm,aC.d],by simp[jm,aC.d,iF]⟩
theorem yU:av aN fB:=(aZ _ _).2 ⟨by simp[eN,fB,aC.k,aC.n,aC.t,aC.l,aC.d],by simp[fB,aC.l],by simp[fB,aC.d],by simp[fB,aC.d,iF]⟩
theorem Fa(n:Int):av aN (vD n):=(aZ _ _).2 ⟨⟨.inr (.inr (.inr rfl)),.inr (.inr (.inr rfl)),.inr rfl,.inl rfl,by simp[vD,aC.k]⟩,by simp[vD,aC.l],by intro f hf;simp[vD,aC.d] at hf;subst hf;exact AC n,by
 refine⟨fun f hf=>?_,by simp[vD,aC.d]⟩
 simp[vD,aC.d] at hf
 subst hf
 show aN ka=true
 kernel_rfl⟩
theorem oh(n:Int):aO (jm n)=true:=by
 have h1:(jm n).size=1:=by simp[jm,aC.size]
 have h2:(jm n).Ju=1:=by simp[jm,aC.Ju]
 unfold aO;rw[LN (by omega),LN (by omega),cX (AC n)];rfl
theorem yV:aO fB=true:=by
 have h1:fB.size=1:=by simp[fB,aC.size]
 have h2:fB.Ju=1:=by simp[fB,aC.Ju]
 unfold aO;rw[LN (by omega),LN (by omega),cX yU];rfl
theorem DY(n:Int):aO (vD n)=true:=by
 have h1:(vD n).size=2:=by simp[vD,jm,aC.size,rH,ze]
 have h2:(vD n).Ju=2:=by simp[vD,jm,aC.Ju,kj,ob]
 unfold aO;rw[LN (by omega),LN (by omega),cX (Fa n)];rfl
theorem gQ{x:aC}(h:aO x=true):cr x=true:=by unfold cr;rw[h,Pg]
theorem yW(n:Int):eD [jm n]=(strOfNums (cS [jm n]),0):=jP (by unfold eC;simp[gQ (oh n)])
theorem JU(n:Int):dl (vD n) [ka]=some (jm n):=by
 have h:oV (vD n) ka=some (jm n):=by
  refine rm (j:=0) (f:=.mk ka (jm n)) ?_ rfl;kernel_rfl
 rw[ph (by show(5:Int)≠6;decide) h,rp (by show(3:Int)≠6;decide)]
theorem Gy(n:Int):oA Ba (vD n)=some [jm n]:=by
 rw[rq rfl (DY n),Ba,fy,JU];rfl
theorem AD(n:Int):gP Ba false (vD n)=(strOfNums (cS [jm n]),0):=by rw[rr (Gy n),BZ,yW]
theorem AE:strOfNums (cS [jm 5])=⟨#[3,128,0,0,0,0,0,0,5]⟩:=by kernel_rfl
theorem DZ:strOfNums (cS [jm 10])=⟨#[3,128,0,0,0,0,0,0,10]⟩:=by kernel_rfl
theorem Fb:strOfNums (cS [jm 9])=⟨#[3,128,0,0,0,0,0,0,9]⟩:=by kernel_rfl
theorem Fc:strOfNums (cS [jm 3])=⟨#[3,128,0,0,0,0,0,0,3]⟩:=by kernel_rfl
theorem Da:strOfNums (cS [jm 11])=⟨#[3,128,0,0,0,0,0,0,11]⟩:=by kernel_rfl
theorem Bb:bB fB≠bB (jm 5):=by
 unfold bB;rw[LZ (gQ yV),LZ (gQ (oh 5))];have h:(((fJ (strOfNums (aq fB)):Nat):Int)==((fJ (strOfNums (aq (jm 5))):Nat):Int))=false:=by kernel_rfl
 simpa using h
theorem Db:gO Ba false=0:=by kernel_rfl
theorem Dc:gO [] false=11:=by kernel_rfl
structure IA(w:World)(c:VC)(wr:World):Prop where
 b0:aE wr w.heap.size 29 c.arr
 bel:Below w.heap.size w wr
theorem IA.step{w wr w':World}{c:VC}(h:IA w c wr)(hb:Below wr.heap.size wr w'):IA w c w':=⟨h.b0.step hb,h.bel.Jp hb⟩
theorem Dd(x:aC):∀(c:VC) (w:World),RW w c x->nF x->(aq x).length<=100000000->
 Calls prog 112 #[c.val] w fun e w'=>e=.returned (.string (strOfNums (aq x)))/\Below w.heap.size w w':=by
 induction x using aC.ind with
 | h k n t l d ihl ihd=>
  intro c w h he htot;obtain⟨ck,cn,ct,LA,ln,lc,DA,dn,dc⟩:=c;have ho:=h.open;obtain rfl:ck=k:=ho.k;obtain rfl:cn=n:=ho.n;obtain rfl:ct=t:=ho.t;have hkind:=he.kind;simp only[aC.k] at hkind;have htx:=he.text;simp only[aC.t] at htx;obtain⟨T,hT⟩:∃T,aq (.mk ck cn ct l d)=ck::T:=⟨_,dA _⟩;rw[hT] at htot ⊢;rw[Ll] at htot;have HE:=qD hT;have HO:=qD ho;have HEN:=qD he;have HTO:=qD htot;clear h he ho hT;have I0:Hid (IA w ⟨ck,cn,ct,LA,ln,lc,DA,dn,dc⟩ (w.alloc (.cells #[.int .i64 ck,.int .i64 cn,.string ct,.slice LA ln lc,.slice DA dn dc] 29))):=⟨aE.Jq rfl,(LH _ _).alloc (qL) _⟩;clear htot;go_enter func112,ntmps112;go_upto_region 1 with fail
  change (Code.region 1 _ _).wp _ _ _ (w.alloc (.cells #[.int .i64 ck,.int .i64 cn,.string ct,.slice LA ln lc,.slice DA dn dc] 29));obtain⟨w0,hw0⟩:∃w0,w.alloc (.cells #[.int .i64 ck,.int .i64 cn,.string ct,.slice LA ln lc,.slice DA dn dc] 29)=w0:=⟨_,rfl⟩;rw[hw0] at I0 ⊢;clear hw0;have hk8:ck%256=ck:=by omega
  obtain⟨b0,b1,b2,b3,b4⟩:=bS.Jr I0.out.b0;simp only[LL] at b0 b1 b2 b3 b4;have hcv:=IJ ck w0 NC;obtain⟨K,hK⟩:∃K,K=strOfNums [ck]:=⟨_,rfl⟩;rw[<-hK] at hcv;have hKs:K.size=1:=by rw[hK,MQ];rfl
  have HK:=qD hK;clear hK;go_upto_region 2 with fail
  have I1:=qD (I0.out.step ((LH w0.heap.size w0).alloc (qL) (Obj.cells #[.int .u8 ck] 5)));generalize w0.alloc (.cells #[.int .u8 ck] 5)=w1 at*;clear b0 b1 b2 b3 b4 hcv I0;obtain⟨b0,b1,b2,b3,b4⟩:=bS.Jr I1.out.b0;simp only[LL] at b0 b1 b2 b3 b4;by_cases k3:ck=3\/ck=9\/ck=10
  ·have hT:T=nums cn:=by have:=HE.out.symm.trans (wT k3);simpa using this
   have HEQ:Hid (strOfNums (ck::T)=K++strOfNums (nums cn)):=by unfold Hid;rw[hT,HK.out,<-aW];rfl
   have hz2:¬(9223372036854775807<K.size+(strOfNums (nums cn)).size):=by rw[MQ,nums,fp];omega
   clear hT HTO HE hKs;rcases k3 with rfl|rfl|rfl
   all_goals
    go_upto_region 6 with fail
    go_wp2_with fail;refine(vL cn _).mono ?_;rintro e w2 ⟨rfl,hb2⟩;have I2:=qD (I1.out.step hb2);clear b0 b1 b2 b3 b4 I1 hb2;go_wp2_with fail;go_ret;exact⟨by rw[HEQ.out];rfl,I2.out.bel⟩
  by_cases k4:ck=4\/ck=7\/ck=8
  ·have hT:T=bO ct.data.toList++[0,0]:=by have:=HE.out.symm.trans (sP k4);simpa using this
   have HEQ:Hid (strOfNums (ck::T)=K++strOfNums (bO ct.data.toList++[0,0])):=by unfold Hid;rw[hT,HK.out,<-aW];rfl
   have hz2:¬(9223372036854775807<K.size+(strOfNums (bO ct.data.toList++[0,0])).size):=by
    have h2:=jB ct.data.toList;rw[nj] at h2;rw[MQ,LM];simp only[Ll,Mp];omega
   have HTX:=qD htx;clear hT HTO HE hKs k3 htx;rcases k4 with rfl|rfl|rfl
   all_goals
    go_upto_region 10 with fail
    go_wp2_with fail;refine(BH ct _ HTX.out).mono ?_;rintro e w2 ⟨rfl,hb2⟩;have I2:=qD (I1.out.step hb2);clear b0 b1 b2 b3 b4 I1 hb2;go_wp2_with fail;go_ret;exact⟨by rw[HEQ.out];rfl,I2.out.bel⟩
  by_cases k6:ck=6
  ·subst k6;have hT:T=dN l++[0]:=by have:=HE.out.symm.trans (sQ (k:=6) rfl);simpa using this
   have hnb:(dN l).length+1<=100000000:=by have:=HTO.out;rw[hT,LM] at this;simp only[Ll,Mp] at this;omega
   have HEQ:Hid (strOfNums (6::T)=K++strOfNums (dN l)++strOfNums [0]):=by unfold Hid;rw[hT,HK.out,<-aW,<-aW];simp
   have HNB:=qD hnb;clear hT HTO HE k3 k4 hnb;obtain⟨ps,hps,hsl⟩:=(mK.shut HO.out).sl;simp only[aC.l] at hps;have SLh:=qD hsl;have HPS:=qD hps;have HLL:Hid (ln=ps.length):=hsl.sr.ln;have hlz:(ln:Int)<=1759218604441:=by have:=hsl.sz;unfold aF at this;simp only at this;omega
   clear hps hsl;go_upto_region 13 with fail
   clear b0 b1 b2 b3 b4
   go_loopw [3,4] (fun u3 u4 wr=>∃i:Nat,i<=ln/\u4=.int .i64 i/\u3=.string (K++strOfNums (dN (l.take i)))/\IA w ⟨6,cn,ct,LA,ln,lc,DA,dn,dc⟩ wr) (fun _ u4 _=>ln-(intOf u4).toNat)
   ·exact⟨0,LQ _,rfl,by simp[dN,lP],I1.out⟩
   case round=>
    obtain⟨i,hi,rfl,rfl,J⟩:=hrel;have J2:=qD J;clear J;obtain⟨b0,b1,b2,b3,b4⟩:=bS.Jr J2.out.b0;simp only[LL] at b0 b1 b2 b3 b4;obtain⟨S,hS⟩:∃S,S=K++strOfNums (dN (l.take i)):=⟨_,rfl⟩;rw[<-hS]
    have hSz:S.size<=1+(dN l).length:=by
     have h2:=gZ l i;rw[hS,PK,MQ];omega
    have hSb:S.size<=100000000:=by have:=HNB.out;omega
    have HS:=qD hS;clear hS hSz;by_cases hlt:i<ln
    ·obtain⟨p,hp⟩:∃p,ps[i]?=some p:=⟨_,LI (by have:=HLL.out;omega)⟩;obtain⟨b,off,hLA,hbF,hat,hrv⟩:=SLh.out.KE hp;subst hLA;have hpl:l[i]?=some p.2:=by rw[<-HPS.out,LV,hp];rfl
     have hmem:=LP hpl;have hSN:=rI hpl
     have hbd:(aq p.2).length<=100000000:=by
      have h2:=gZ l (i+1);rw[hSN,LM,Ll] at h2;have h6:=HNB.out;omega
     obtain⟨q0,q1,q2,q3,q4⟩:=hat.step J2.out.bel;obtain⟨Y,hY⟩:∃Y,Y=strOfNums (aq p.2):=⟨_,rfl⟩;have hYs:Y.size<=100000000:=by rw[hY,MQ];exact hbd
     have hcal:=ihl p.2 hmem p.1 wr (hrv.step J2.out.bel) (HEN.out.list p.2 hmem) hbd;rw[<-hY] at hcal;have HCA:=qD hcal
     have HEQS:Hid (K++strOfNums (dN (l.take (i+1)))=S++(⟨#[1]⟩++Y)):=by
      have e:strOfNums (1::aq p.2)=⟨#[1]⟩++strOfNums (aq p.2):=(aW [1] (aq p.2));unfold Hid;rw[hSN,aW,HS.out,hY,ByteArray.append_assoc,e]
     have hz1:¬(9223372036854775807<1+Y.size):=by omega
     have hz2:¬(9223372036854775807<S.size+(1+Y.size)):=by omega
     have i0':(0:Int)<=(i:Int):=by omega
     have i1':(i:Int)<(ln:Int):=by omega
     clear hp hrv hpl hmem hSN hbd hat hcal hY hYs;go_upto_region 15 with fail
     go_wp2_with fail;refine HCA.out.mono ?_;rintro e w2 ⟨rfl,hb2⟩;have I2:=qD (J2.out.step hb2);clear b0 b1 b2 b3 b4 q0 q1 q2 q3 q4 HCA J2 hb2;go_wp2_with fail;go_roundw
     ·exact⟨i+1,hlt,by go_num,by rw[HEQS.out],I2.out⟩
     ·simp[intOf];omega
    ·obtain rfl:i=ln:=by omega
     have HTK:Hid (l.take i=l):=LS (by have h1:=HLL.out;have h2:=congrArg List.length HPS.out;simp at h2;omega);have hz1:¬(9223372036854775807<S.size+1):=by omega
     go_wp2_with fail;go_ret;exact⟨by rw[HEQ.out,<-HTK.out,<-HS.out];rfl,J2.out.bel⟩
  by_cases k5:ck=5
  ·subst k5;have hT:T=dL d++[0]:=by have:=HE.out.symm.trans (wU (k:=5) rfl);simpa using this
   have hnb:(dL d).length+1<=100000000:=by have:=HTO.out;rw[hT,LM] at this;simp only[Ll,Mp] at this;omega
   have HEQ:Hid (strOfNums (5::T)=K++strOfNums (dL d)++strOfNums [0]):=by unfold Hid;rw[hT,HK.out,<-aW,<-aW];simp
   have HNB:=qD hnb;clear hT HTO HE k3 k4 k6 hnb;obtain⟨ps,hps,hsd⟩:=(mK.shut HO.out).sd;simp only[aC.d] at hps;have SDh:=qD hsd;have HPS:=qD hps;have HLL:Hid (dn=ps.length):=hsd.sr.ln;have hlz:(dn:Int)<=1466015503701:=by have:=hsd.sz;unfold aF at this;simp only at this;omega
   clear hps hsd;go_upto_region 19 with fail
   clear b0 b1 b2 b3 b4
   go_loopw [3,5] (fun u3 u5 wr=>∃i:Nat,i<=dn/\u5=.int .i64 i/\u3=.string (K++strOfNums (dL (d.take i)))/\IA w ⟨5,cn,ct,LA,ln,lc,DA,dn,dc⟩ wr) (fun _ u5 _=>dn-(intOf u5).toNat)
   ·exact⟨0,LQ _,rfl,by simp[dL,lP],I1.out⟩
   case round=>
    obtain⟨i,hi,rfl,rfl,J⟩:=hrel;have J2:=qD J;clear J;obtain⟨b0,b1,b2,b3,b4⟩:=bS.Jr J2.out.b0;simp only[LL] at b0 b1 b2 b3 b4;obtain⟨S,hS⟩:∃S,S=K++strOfNums (dL (d.take i)):=⟨_,rfl⟩;rw[<-hS]
    have hSz:S.size<=1+(dL d).length:=by
     have h2:=gg d i;rw[hS,PK,MQ];omega
    have hSb:S.size<=100000000:=by have:=HNB.out;omega
    have HS:=qD hS;clear hS hSz;by_cases hlt:i<dn
    ·obtain⟨p,hp⟩:∃p,ps[i]?=some p:=⟨_,LI (by have:=HLL.out;omega)⟩;obtain⟨b,off,hDA,hbF,hnm,hat,hrv⟩:=SDh.out.KE hp;subst hDA;have hpl:d[i]?=some p.2:=by rw[<-HPS.out,LV,hp];rfl
     have hmem:=LP hpl;have hSN:=rJ hpl
     have hbd0:(eP p.2.s).length+(aq p.2.v).length<=100000000:=by
      have h2:=gg d (i+1);rw[hSN,LM,Ll,LM,Ll] at h2;have h6:=HNB.out;omega
     rw[mX] at hbd0;have hbd:(aq p.2.v).length<=100000000:=by omega
     have hns:p.2.s.size<=100000000:=by omega
     have q5:=(J2.out.bel.cell (p:=⟨b,off+i*6,none⟩) (Lr w _ hnm)).trans hnm;obtain⟨q0,q1,q2,q3,q4⟩:=hat.step J2.out.bel;have R0:∀kk:BW wr,kk.val.cell? ⟨b,off+i*6+1,none⟩=some (.int .i64 p.1.k):=fun kk=>kk.cell q0;have R1:∀kk:BW wr,kk.val.cell? ⟨b,off+i*6+1+1,none⟩=some (.int .i64 p.1.n):=fun kk=>kk.cell q1;have R2:∀kk:BW wr,kk.val.cell? ⟨b,off+i*6+1+2,none⟩=some (.string p.1.t):=fun kk=>kk.cell q2;have R3:∀kk:BW wr,kk.val.cell? ⟨b,off+i*6+1+3,none⟩=some (.slice p.1.LA p.1.ln p.1.lc):=fun kk=>kk.cell q3;have R4:∀kk:BW wr,kk.val.cell? ⟨b,off+i*6+1+4,none⟩=some (.slice p.1.DA p.1.dn p.1.dc):=fun kk=>kk.cell q4;have R5:∀kk:BW wr,kk.val.cell? ⟨b,off+i*6,none⟩=some (.string p.2.s):=fun kk=>kk.cell q5;have R6:∀kk:BW wr,kk.val.cell? ⟨w.heap.size,4,none⟩=some (.slice (some ⟨b,off,none⟩) dn dc):=fun kk=>kk.cell b4;obtain⟨Y,hY⟩:∃Y,Y=strOfNums (aq p.2.v):=⟨_,rfl⟩;have hYs:Y.size<=100000000:=by rw[hY,MQ];exact hbd
     have HCA:Hid (∀kk:BW wr,Calls prog 112 #[p.1.val] kk.val fun e w''=>e=.returned (.string Y)/\∃kk:BW wr,w''=kk.val):=fun kk=>by
      rw[hY];exact Calls.bw (ihd p.2 hmem p.1 kk.val ((hrv.step J2.out.bel).step kk.below) (HEN.out.Kv p.2 hmem).1 hbd)
     have HEQS:Hid (K++strOfNums (dL (d.take (i+1)))=S++(⟨#[1]⟩++p.2.s++⟨#[0]⟩++Y)):=by
      have e:strOfNums (1::(eP p.2.s++0::aq p.2.v))=⟨#[1]⟩++p.2.s++⟨#[0]⟩++strOfNums (aq p.2.v):=by
       have h2:1::(eP p.2.s++0::aq p.2.v)=[1]++eP p.2.s++[0]++aq p.2.v:=by simp
       have h3:strOfNums ([1]++eP p.2.s)=⟨#[1]⟩++p.2.s:=(aW [1] (eP p.2.s)).trans (congrArg (fun z=>strOfNums [1]++z) (jz p.2.s));have h4:strOfNums ([1]++eP p.2.s++[0])=⟨#[1]⟩++p.2.s++⟨#[0]⟩:=(aW _ [0]).trans (congrArg (fun z=>z++strOfNums [0]) h3);rw[h2];exact(aW _ _).trans (congrArg (fun z=>z++strOfNums (aq p.2.v)) h4)
      unfold Hid;rw[hSN,aW,HS.out,hY,ByteArray.append_assoc,e]
     obtain⟨N,hN⟩:∃N,N=p.2.s:=⟨_,rfl⟩;rw[<-hN] at R5 hns HEQS;have hz1:¬(9223372036854775807<1+N.size):=by omega
     have hz2:¬(9223372036854775807<1+N.size+1):=by omega
     have hz3:¬(9223372036854775807<1+N.size+1+Y.size):=by omega
     have hz4:¬(9223372036854775807<S.size+(1+N.size+1+Y.size)):=by omega
     have i0':(0:Int)<=(i:Int):=by omega
     have i1':(i:Int)<(dn:Int):=by omega
     clear hp hrv hpl hmem hSN hbd hbd0 hat hY hYs hns q0 q1 q2 q3 q4 q5 hnm hN;go_upto_region 21 with fail
     clear b0 b1 b2 b3 b4;refine aL (by kernel_rfl) (by kernel_rfl) ?_
     repeat(go_big_quiet_step ((with_reducible exact HCA.out _)))
     refine Ln ?_;rintro _ ⟨kw,rfl⟩;have I2:=qD (J2.out.step kw.below);clear R0 R1 R2 R3 R4 R5 R6 HCA J2;generalize kw.val=w2 at*;clear kw;go_wp2_with fail;go_roundw
     ·exact⟨i+1,hlt,by go_num,by rw[HEQS.out],I2.out⟩
     ·simp[intOf];omega
    ·obtain rfl:i=dn:=by omega
     have HTK:Hid (d.take i=d):=LS (by have h1:=HLL.out;have h2:=congrArg List.length HPS.out;simp at h2;omega);have hz1:¬(9223372036854775807<S.size+1):=by omega
     go_wp2_with fail;go_ret;exact⟨by rw[HEQ.out,<-HTK.out,<-HS.out];rfl,J2.out.bel⟩
  have hT:T=[]:=by have:=HE.out.symm.trans (sR k3 k4 k6 k5);simpa using this
  have HEQ:Hid (strOfNums (ck::T)=K):=by unfold Hid;rw[hT,HK.out]
  have q3:(ck==3)=false:=by simp;omega
  have q9:(ck==9)=false:=by simp;omega
  have q10:(ck==10)=false:=by simp;omega
  have q4:(ck==4)=false:=by simp;omega
  have q7:(ck==7)=false:=by simp;omega
  have q8:(ck==8)=false:=by simp;omega
  have q6:(ck==6)=false:=by simp;omega
  have q5:(ck==5)=false:=by simp;omega
  clear hT HTO HE k3 k4 k6 k5;go_wp2_with fail;go_ret;exact⟨by rw[HEQ.out];rfl,I1.out.bel⟩
theorem Bc{l:List aC}{i:Nat}{y:aC}(h:l[i]?=some y):strOfNums (cS (l.take (i+1)))=strOfNums (cS (l.take i))++strOfNums (aq y):=by rw[ni h,aW]
theorem oB(ps:List PV)(A B:Option Addr)(n c bc:Nat)(w:World)(h:SL (fun _=>True) w A n c ps)(hd:SR 1 xC w B n bc (List.replicate n false))(hn:n<=10):
 Calls prog 43 #[.slice A n c,.slice B n bc] w fun e w'=>e=.returned (.tuple #[.string (eD (ps.map Prod.snd)).1,.int .i64 (eD (ps.map Prod.snd)).2])/\Below w.heap.size w w':=by
 have H:=qD h;have HD:=qD hd;have HL:Hid (n=ps.length):=h.sr.ln;clear h hd;go_enter func43,ntmps43;go_upto_region 5 with fail
 go_loopw [6,7] (fun u6 u7 wr=>∃i:Nat,i<=n/\u7=.int .i64 i/\eC ((ps.map Prod.snd).take i)=true/\u6=.string (strOfNums (cS ((ps.map Prod.snd).take i)))/\Below w.heap.size w wr) (fun _ u7 _=>n-(intOf u7).toNat)
 ·exact⟨0,LQ _,rfl,rfl,rfl,LH _ _⟩
 case round=>
  obtain⟨i,hi,rfl,hal,rfl,hb⟩:=hrel;have HAL:=qD hal;have HB:=qD hb;obtain⟨S,hS⟩:∃S,S=strOfNums (cS ((ps.map Prod.snd).take i)):=⟨_,rfl⟩;rw[<-hS]
  have hSz:S.size<=85000000:=by
   have h2:=qJ hal;have h3:((ps.map Prod.snd).take i).length<=i:=OY _ _;rw[hS,MQ];omega
  have HS:=qD hS;clear hal hb hS;by_cases hlt:i<n
  ·obtain⟨p,hp⟩:∃p,ps[i]?=some p:=⟨_,LI (by have:=HL.out;omega)⟩;obtain⟨b,off,hA,_,hat,hrv⟩:=H.out.KE hp;subst hA;have hpl:(ps.map Prod.snd)[i]?=some p.2:=by rw[LV,hp];rfl
   obtain⟨q0,q1,q2,q3,q4⟩:=hat.step HB.out;have HAT:=qD hat;have HR:=qD hrv;have HPL:=qD hpl;have i0':(0:Int)<=(i:Int):=by omega
   have i1':(i:Int)<(n:Int):=by omega
   clear hp hat hrv hpl;have HMI:=qD (xB p.2 p.1 wr (HR.out.step HB.out));go_upto_region 7 with fail
   go_cut [32] (fun s32 wx=>s32=.bool (!cr p.2)/\Below w.heap.size w wx)
   case first=>
    cases hM:jC p.2
    ·have HA:Hid (cr p.2=aO p.2):=by unfold Hid cr;rw[hM];rfl
     rw[hM] at HMI;clear hM;go_wp2_with fail;refine HMI.out.mono ?_;rintro e w1 ⟨rfl,hb⟩;have HB1:=qD (HB.out.Jp hb);clear q0 q1 q2 q3 q4 hb HMI;obtain⟨q0,q1,q2,q3,q4⟩:=HAT.out.step HB1.out;go_wp2_with fail;refine(eW p.2 p.1 w1 (HR.out.step HB1.out)).mono ?_;rintro e w2 ⟨rfl,hb⟩;have HB2:=qD (HB1.out.Jp hb);clear q0 q1 q2 q3 q4 hb HB1;go_wp2_with fail;go_meet;exact⟨by rw[HA.out],HB2.out⟩
    ·have HA:Hid (cr p.2=true):=by unfold Hid cr;rw[hM];rfl
     rw[hM] at HMI;clear hM;go_wp2_with fail;refine HMI.out.mono ?_;rintro e w1 ⟨rfl,hb⟩;have HB1:=qD (HB.out.Jp hb);clear q0 q1 q2 q3 q4 hb HMI;go_wp2_with fail;go_meet;exact⟨by rw[HA.out];rfl,HB1.out⟩
   case rest=>
    obtain⟨rfl,hbc⟩:=hcut;have HBC:=qD hbc;clear hbc q0 q1 q2 q3 q4 HMI HB;cases hA:cr p.2
    ·have HK:=qD (tu HPL.out hA);clear hA;go_wp2_with fail;go_ret2;exact⟨by rw[HK.out];rfl,HBC.out⟩
    ·have HAS:=qD (oP HPL.out HAL.out hA);have HE1:=qD (eF hA);have HTA:=qD (Bc HPL.out);clear hA;obtain⟨q0,q1,q2,q3,q4⟩:=HAT.out.step HBC.out;obtain⟨Y,hY⟩:∃Y,Y=strOfNums (aq p.2):=⟨_,rfl⟩;have hYs:Y.size<=8500000:=by rw[hY,MQ];exact HE1.out.2
     have hz:¬(9223372036854775807<S.size+Y.size):=by omega
     have hcal:=Dd p.2 p.1 wc (HR.out.step HBC.out) HE1.out.1 (by have:=HE1.out.2;omega);rw[<-hY] at hcal;have HCA:=qD hcal;have HY:=qD hY;obtain⟨b',off',hB,hbB,hel⟩:=HD.out.el (by omega);have hde:=hel i false (by rw[Ol,LZ hlt]) 0 _ rfl;have hde2:=(HBC.out.cell (p:=⟨b',off'+i*1+0,none⟩) hbB).trans hde;rw[Oj,Ms] at hde2;subst hB;clear hel hde hcal hY hYs;go_wp2_with fail;refine HCA.out.mono ?_;rintro e w2 ⟨rfl,hb⟩;have HB2:=qD (HBC.out.Jp hb);clear q0 q1 q2 q3 q4 hb HCA;go_wp2_with fail;go_roundw
     ·exact⟨i+1,hlt,by go_num,HAS.out,by rw[HTA.out,<-HS.out,<-HY.out],HB2.out⟩
     ·simp[intOf];omega
  ·obtain rfl:i=n:=by omega
   have hTK:(ps.map Prod.snd).take i=ps.map Prod.snd:=LS (by rw[Lb];have:=HL.out;omega);have hal:=HAL.out;rw[hTK] at hal;have HK:Hid (eD (ps.map Prod.snd)=(S,0)):=by rw[HS.out,hTK];exact jP hal
   clear hTK hal;go_wp2_with fail;go_ret2;exact⟨by rw[HK.out];rfl,HB.out⟩
theorem ku(x:aC)(c:VC)(w:World)(h:RW w c x):
 Calls prog 122 #[c.val] w fun e w'=>e=.returned (.tuple #[.string (eD [x]).1,.int .i64 (eD [x]).2])/\Below w.heap.size w w':=by
 have H:=qD h;have BE:Hid (Below w.heap.size w (((w.alloc (.cells c.arr 29)).alloc (.cells c.arr 29)).alloc (.cells #[.bool false] 4))):=(((LH _ _).alloc (qL) _).alloc (by simp) _).alloc (by simp;omega) _;have B1:Hid (aE (((w.alloc (.cells c.arr 29)).alloc (.cells c.arr 29)).alloc (.cells #[.bool false] 4)) (w.heap.size+1) 29 c.arr):=(aE.Jq (by simp)).alloc _;have B2:Hid (aE (((w.alloc (.cells c.arr 29)).alloc (.cells c.arr 29)).alloc (.cells #[.bool false] 4)) (w.heap.size+2) 4 #[.bool false]):=aE.Jq (by simp);obtain⟨wb,hwb⟩:∃wb,wb=(((w.alloc (.cells c.arr 29)).alloc (.cells c.arr 29)).alloc (.cells #[.bool false] 4)):=⟨_,rfl⟩;rw[<-hwb] at BE B1 B2;have HC:=qD (oB [(c,x)] (some ⟨w.heap.size+1,0,none⟩) (some ⟨w.heap.size+2,0,none⟩) 1 1 1 wb (qO B1.out (H.out.step BE.out)) (zT B2.out) (by omega));rw[hwb] at HC;have HWB:=qD hwb;clear h hwb;simp only[Mb,NR] at HC;obtain⟨K,hK⟩:∃K,eD [x]=K:=⟨_,rfl⟩;rw[hK] at HC ⊢;clear hK;obtain⟨K1,K2⟩:=K;go_enter func122,ntmps122;go_wp2_with fail;refine HC.out.mono ?_;rintro e w1 ⟨rfl,hb⟩;rw[<-HWB.out] at hb;have CE:=qD (BE.out.Jp hb);clear hb HC B1 B2;go_wp2_with fail;go_ret2;exact⟨rfl,CE.out⟩
theorem Bd(x:aC)(c:VC)(w:World)(h:RW w c x):
 Calls prog 123 #[c.val] w fun e w'=>e=.returned (.int .i64 (bB x))/\Below w.heap.size w w':=by
 have H:=qD h;have B0:Hid (aE (w.alloc (.cells c.arr 29)) w.heap.size 29 c.arr):=aE.Jq rfl;have BE:Hid (Below w.heap.size w (w.alloc (.cells c.arr 29))):=(LH _ _).alloc (qL) _;have HC:=qD fun(w1:World) (hb:Below w.heap.size w w1)=>ku x c w1 (h.step hb);clear h;go_enter func123,ntmps123;go_upto_region 1 with fail
 change (Code.region 1 _ _).wp _ _ _ (w.alloc (.cells c.arr 29));generalize w.alloc (.cells c.arr 29)=wa at*;obtain⟨q0,q1,q2,q3,q4⟩:=bS.Jr B0.out;simp only[LL] at q0 q1 q2 q3 q4;have HCA:=qD (HC.out wa BE.out);cases hA:cr x
 ·have HV:Hid (bB x=0):=by unfold Hid bB;rw[hA];rfl
  rw[oQ hA] at HCA;clear hA HC;go_wp2_with fail;refine HCA.out.mono ?_;rintro e w1 ⟨rfl,hb⟩;have CE:=qD (BE.out.Jp hb);clear q0 q1 q2 q3 q4 hb HCA B0;go_wp2_with fail;go_ret;exact⟨by rw[HV.out];rfl,CE.out⟩
 ·have HV:Hid (bB x=((fJ (strOfNums (aq x)):Nat):Int)):=by unfold Hid bB;rw[hA];rfl
  have hz:=(eF hA).2;have hzz:(strOfNums (aq x)).size<=140737488355328:=by rw[MQ];omega
  rw[dZ hA] at HCA;have hlt:=nW (strOfNums (aq x));obtain⟨S,hS⟩:∃S,S=strOfNums (aq x):=⟨_,rfl⟩;rw[<-hS] at HCA HV hzz hlt;have HZ:=qD hzz;obtain⟨q,hq⟩:∃q,q=fJ S:=⟨_,rfl⟩;rw[<-hq] at HV hlt;have HQ:=qD hq;have qz:(q:Int)<4294967296:=by omega
  clear hA HC hS hz hzz hlt hq;go_wp2_with fail;refine HCA.out.mono ?_;rintro e w1 ⟨rfl,hb⟩;have CE:=qD (BE.out.Jp hb);clear q0 q1 q2 q3 q4 hb HCA B0;go_wp2_with fail;refine(Ec S w1 HZ.out).mono ?_;rintro e w2 ⟨rfl,rfl⟩;rw[<-HQ.out];go_wp2_with fail;go_ret;exact⟨by rw[HV.out];rfl,CE.out⟩
theorem jZ(n:Int)(w:World):Calls prog 27 #[.int .i64 n] w fun e w'=>e=.returned (VC.val ⟨3,n,empty,none,0,0,none,0,0⟩)/\Below w.heap.size w w':=by
 go_enter func27,ntmps27;go_wp2_with fail;exact Lp (dX rfl _ _ _ rfl _ ⟨3,n,empty,none,0,0,none,0,0⟩ (bS.Jr (aE.new _ _ _))) rfl ⟨rfl,(LH _ _).alloc (qL) _⟩
theorem ru{w:World}{g:Nat}(h:aE w g 9 #[.string ka]):ST w (some ⟨g,0,none⟩) 1 1 [ka]:=by
 refine⟨⟨rfl,qL,fun _=>⟨g,0,rfl,h.lt,fun i a hi j v hj=>?_⟩⟩,by show 1*16<=aF;decide,fun s hs=>?_⟩
 ·cases i with
  | zero=>
   simp at hi;subst hi;cases j with
   | zero=>simp[Al] at hj;subst hj;exact h.cell 0
   | succ j=>simp[Al] at hj
  | succ i=>simp at hi
 ·simp at hs;subst hs;show 1<=aF;decide
theorem De{w:World}{g1 g2:Nat}(h1:aE w g1 9 #[.string ka])(h2:aE w g2 66 #[.slice (some ⟨g1,0,none⟩) 1 1,.bool false]):KS w (some ⟨g2,0,none⟩) 1 1 Ba:=by
 refine⟨[⟨some ⟨g1,0,none⟩,1,1,false⟩],⟨⟨rfl,qL,fun _=>⟨g2,0,rfl,h2.lt,fun i a hi j v hj=>?_⟩⟩,by show 1*32<=aF;decide,rfl,fun i o q ho hq=>?_⟩⟩
 ·cases i with
  | zero=>
   simp at hi;subst hi
   match j,hj with
   | 0,hj=>simp[uU] at hj;subst hj;exact h2.cell 0
   | 1,hj=>simp[uU] at hj;subst hj;exact h2.cell 1
   | j+2,hj=>simp[uU] at hj
  | succ i=>simp at hi
 ·cases i with
  | zero=>
   simp at ho;simp[Ba] at hq;subst ho hq;exact⟨rfl,ru h1⟩
  | succ i=>simp at ho
theorem Df{F:Nat->Prop}(n:Int)(w:World):RV F w (vc n) (jm n):=mK.shut ⟨rfl,rfl,rfl,by show 0<=aF;decide,rfl,qL,by show 0*80<=aF;decide,fun h=>absurd h (by show ¬(0<0);omega),rfl,qL,by show 0*96<=aF;decide,fun h=>absurd h (by show ¬(0<0);omega)⟩
abbrev cD(g:Nat):VC:=⟨5,0,empty,none,0,0,some ⟨g,0,none⟩,1,1⟩
theorem Fe{w:World}{g:Nat}{n:Int}(h:aE w g 73 #[.string ka,.int .i64 3,.int .i64 n,.string empty,.slice none 0 0,.slice none 0 0]):RW w (cD g) (vD n):=by
 refine mK.shut ⟨rfl,rfl,rfl,by show 0<=aF;decide,rfl,qL,by show 0*80<=aF;decide,fun h=>absurd h (by show ¬(0<0);omega),rfl,qL,by show 1*96<=aF;decide,fun _=>⟨g,0,rfl,Ft.Kp,fun i f hi=>?_⟩⟩;cases i with
 | zero=>
  simp[vD,aC.d] at hi;subst hi;exact⟨h.cell 0,by show 1<=aF;decide,vc n,⟨h.cell 1,h.cell 2,h.cell 3,h.cell 4,h.cell 5⟩,Df n w⟩
 | succ i=>simp[vD,aC.d] at hi
theorem AF:ah [ka] [ka]=true:=by kernel_rfl
end Go.Proofs.YthfahkaadbdicaaGreatDoor
