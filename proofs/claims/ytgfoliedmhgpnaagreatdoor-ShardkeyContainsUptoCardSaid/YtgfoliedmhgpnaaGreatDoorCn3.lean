/- A part of the proof. -/
import Derived.Test.YtgfoliedmhgpnaaGreatDoorCn2
set_option maxRecDepth 100000
set_option maxHeartbeats 16000000
open Go.Proofs.Tryz
open ByteArray (empty)
namespace Go.Proofs.YtgfoliedmhgpnaaGreatDoor
open Go.RowKit
section
variable {k i c q off j:Nat} {w w' W:World} {e:TypeId} {x y d:Int} {l r:List ByteArray} {v:Value} {s:ByteArray} {F:Nat -> Prop}
theorem Ds(x:aC):∀(c:VC) (w:World),RW w c x->Calls prog 154 #[c.val] w (BP w x):=by
 induction x using aC.ind with
 | h k n t l d ihl ihd=>
 intro c w h;obtain⟨ck,cn,ct,LA,ln,lc,DA,dn,dc⟩:=c;obtain⟨i0,hi0,hz0,hz1,hz2⟩:=Pb dB;obtain⟨j0,hj0,hy0,hy1,hy2⟩:=Pb kW;have ho:=h.open;have hls:ln*80<=140737488355328:=ho.lsz;have hds:dn*96<=140737488355328:=ho.dsz;have hll:ln=l.length:=ho.ln;have hdl:dn=d.length:=ho.dn;have hmk:=fG (P:=prog) 26 29 i0 VC.zero.val PM hi0 hz0 ln (by rw[hz2];omega) oM;have hmd:=fG (P:=prog) 27 77 j0 (.agg (#[.string empty]++VC.zero.arr)) QS hj0 hy0 dn (by rw[hy2];omega) oM;rw[hz1] at hmk;rw[hy1] at hmd;have hln:ln<=140737488355328:=oM
 have hdn:dn<=140737488355328:=oM
 have HLL:=qD hll;have HDL:=qD hdl;clear hll hdl;have HI:=qD ihl;have HJ:=qD ihd;have HO:=qD ho;clear ihl ihd ho h hi0 hz0 hz1 hz2 hj0 hy0 hy1 hy2;go_enter func154,ntmps154
 go_upto_if 18 with fail
 go_cut [] (fun wx=>∃r,MH w ⟨ck,cn,ct,LA,ln,lc,DA,dn,dc⟩ (.mk k n t l d) wx r)
 case first=>
  by_cases hl0:0<ln
  ·obtain⟨b,off,hLA,_,hel⟩:=HO.out.la hl0;have hLA':LA=some ⟨b,off,none⟩:=hLA;subst hLA';have HEL:=qD hel;clear hLA hel;have hd:decide (0<ln)=true:=by simpa using hl0
   rw[hd];clear hd;go_wp2_with fail
   go_loopw [4,5,27] (fun v4 v5 v27 wr=>∃i:Nat,i<=ln/\v27=.int .i64 i/\CL w ⟨ck,cn,ct,some ⟨b,off,none⟩,ln,lc,DA,dn,dc⟩ l i wr) (fun _ _ v27 _=>ln-(intOf v27).toNat)
   case atStart=>
    refine⟨0,ON _,rfl,⟨((aG.Mm rfl).alloc _).alloc _ |>.alloc _,((aG.Mm sM).alloc _).alloc _,(aG.Mm sM).alloc _,⟨_,aG.Mm sM,size_madeCells _ _⟩,fun j y hj=>by omega,((((OG _ _).alloc (qL) _).alloc sM _).alloc sO _).alloc sO _⟩⟩
   case round=>
    obtain⟨i,hi,rfl,I⟩:=hrel;have J:=qD I;by_cases hlt:i<ln
    ·obtain⟨y,hy⟩:∃y,l[i]?=some y:=⟨_,OH (by have:=HLL.out;omega)⟩;obtain⟨u,hu,hr⟩:=HEL.out i y hy;have hr':=hr.lt.Ml I.bel;obtain⟨u0,u1,u2,u3,u4⟩:=hu.keep (I.bel.block b hu.lt);have HY:=qD hy;have HR:=qD hr';have HC:=qD (HI.out y (OJ hy));have hb:b<wr.heap.size:=by have:=hu.lt;have:=I.bel.size;omega
     have r3:=I.b2.cell 3;simp at r3;clear hy hr hr' hu I hmk hmd;go_wp2_with fail;have K:=J.out.step ((OG wr.heap.size wr).alloc (qL) (Obj.cells u.arr 29));have KB:aG (wr.alloc (.cells u.arr 29)) wr.heap.size 29 u.arr:=aG.Mm rfl;have KR:=HR.out.alloc (.cells u.arr 29);clear HR u0 u1 u2 u3 u4 r3;have hga:w.heap.size+3<wr.heap.size:=J.out.row.lt;generalize wr.alloc (.cells u.arr 29)=wa at*;generalize wr.heap.size=ga at*;have hne:w.heap.size+3≠ga:=oM
     obtain⟨u0,u1,u2,u3,u4⟩:=aO.Mp KB;have r3:=K.b2.cell 3;simp at r3;have LB:=qD KB;have LK:=qD K;have LR:=qD KR;clear KB K KR;have hi0:(0:Int)<=(i:Int):=oM
     have hi1:(i:Int)<(ln:Int):=oM
     go_region_held3 (fun w'=>w'.cell? ⟨w.heap.size+2,3,none⟩=some (.slice (some ⟨w.heap.size+3,0,none⟩) ln ln)/\w'.cell? ⟨ga,0,none⟩=some (.int .i64 u.k)/\w'.cell? ⟨ga,1,none⟩=some (.int .i64 u.n)/\w'.cell? ⟨ga,2,none⟩=some (.string u.t)/\w'.cell? ⟨ga,3,none⟩=some (.slice u.LA u.ln u.lc)/\w'.cell? ⟨ga,4,none⟩=some (.slice u.DA u.dn u.dc))
      (first|go_keep|exact⟨s0,s1,s2,s3,s4,s5⟩|((try dsimp only);repeat' apply And.intro;all_goals go_keep))
      ((go_at_call 154;refine(HC.out u _ (LR.out.drewN 1)).mono ?_;rintro e w1 ⟨c',mid,rfl,hcl,hb1⟩;replace hb1:Bl wa w1:=hb1.Mt;replace hcl:Cl wa.heap.size mid w1 c' y:=hcl;have s0:=(hb1.cell (p:=⟨w.heap.size+2,3,none⟩) LK.out.b2.lt).trans r3;have s1:=(hb1.cell (p:=⟨ga,0,none⟩) LB.out.lt).trans u0;have s2:=(hb1.cell (p:=⟨ga,1,none⟩) LB.out.lt).trans u1;have s3:=(hb1.cell (p:=⟨ga,2,none⟩) LB.out.lt).trans u2;have s4:=(hb1.cell (p:=⟨ga,3,none⟩) LB.out.lt).trans u3;have s5:=(hb1.cell (p:=⟨ga,4,none⟩) LB.out.lt).trans u4;have row:oG w1 (w.heap.size+3) 29 (ln*5):=(LK.out.step hb1).row;have z:=row.frozen;obtain⟨o0,p0⟩:=row.cell (i:=i*5) oM;obtain⟨o1,p1⟩:=row.cell (i:=i*5+1) oM;obtain⟨o2,p2⟩:=row.cell (i:=i*5+2) oM;obtain⟨o3,p3⟩:=row.cell (i:=i*5+3) oM;obtain⟨o4,p4⟩:=row.cell (i:=i*5+4) oM;have LC:=qD hcl;have LX:=qD (LK.out.step hb1);clear hcl hb1 row))
     clear s0 s1 s2 s3 s4 s5 p0 p1 p2 p3 p4 z u0 u1 u2 u3 u4 r3;go_wp2_with fail;go_roundw
     ·exact⟨i+1,by omega,by go_num,LX.out.next hlt HY.out (LC.out.rv.mono fun q hq=>by have:=LK.out.row.lt;omega)⟩
     ·exact iO
    ·obtain rfl:i=ln:=oM
     clear hmk hmd;go_wp2_with fail;go_meet;exact⟨_,I.b0,I.b1,I.b2,I.bel,⟨rfl,rfl,rfl,rfl,rfl,rfl,rfl,rfl⟩,fun h=>absurd h (by show i≠0;omega),fun _=>⟨w.heap.size+3,rfl,qL,I.row,fun j y hj=>I.el j y (by have:=(OI.1 hj).1;have:=HLL.out;simp only[aC.l] at*;omega) hj⟩⟩
  ·have hz:ln=0:=oM
   have hz':decide ((0:Int)<(ln:Int))=false:=by simp;omega
   subst hz;clear hmk hmd;go_wp2_with fail;go_meet;exact⟨⟨ck,cn,ct,none,0,0,none,0,0⟩,((aG.Mm rfl).alloc _).alloc _,(aG.Mm sM).alloc _,aG.Mm sM,(((OG _ _).alloc (qL) _).alloc sM _).alloc sO _,⟨rfl,rfl,rfl,rfl,rfl,rfl,rfl,rfl⟩,fun _=>rfl,fun h=>absurd h (Qr 0)⟩
 case rest=>
  obtain⟨r,I⟩:=hcut;obtain⟨rk,rn,rt,rLA,rln,rlc,rDA,rdn,rdc⟩:=r;have he:=I.e;simp only at he;obtain⟨rfl,rfl,rfl,rfl,rfl,rfl,rfl,rfl⟩:=he;have e4:=I.b0.cell 4;simp at e4;have J:=qD I;clear I hmk
  go_upto_if 42 with fail
  go_cut [] (fun wx=>∃r mid,CE w (.mk k n t l d) r mid wx)
  case first=>
   by_cases hd0:0<dn
   ·obtain⟨b,off,hDA,_,hel⟩:=HO.out.da hd0;have hDA':DA=some ⟨b,off,none⟩:=hDA;subst hDA';have HEL:=qD hel;clear hDA hel;have hd:decide (0<dn)=true:=by simpa using hd0
    rw[hd];clear hd;have g0:=J.out.b2.cell 4;have z0:=J.out.b2.frozen 4;have l0:=J.out.b0.lt;have l2:=J.out.b2.lt;simp at g0;go_wp2_with fail
    go_loopw [6,7,51] (fun v6 v7 v51 wr=>∃i:Nat,i<=dn/\v51=.int .i64 i/\CD w ⟨rk,rn,rt,LA,rlc,lc,some ⟨b,off,none⟩,dn,dc⟩ ⟨rk,rn,rt,rLA,rlc,rlc,none,0,0⟩ wc.heap.size l d i wr) (fun _ _ v51 _=>dn-(intOf v51).toNat)
    case atStart=>
     refine⟨0,ON _,rfl,?_⟩;exact CD.start J.out
    case round=>
     obtain⟨i,hi,rfl,I⟩:=hrel;have J2:=qD I;clear g0 z0 e4 hmd;by_cases hlt:i<dn
     ·obtain⟨f,hf⟩:∃f,d[i]?=some f:=⟨_,OH (by have:=HDL.out;omega)⟩;obtain⟨hs,hz,u,hu,hr⟩:=HEL.out i f hf;have hr':=hr.lt.Ml I.bel;have s0:=(I.bel.cell (p:=⟨b,off+i*6,none⟩) hu.lt).trans hs;obtain⟨u0,u1,u2,u3,u4⟩:=hu.keep (I.bel.block b hu.lt);have HY:=qD hf;have HR:=qD hr';have HC:=qD (HJ.out f (OJ hf));have hb:b<wr.heap.size:=by have:=hu.lt;have:=I.bel.size;omega
      have r3:=I.b2.cell 4;simp at r3;clear hf hr hr' hu I hs hz;go_wp2_with fail;have K:=J2.out.step ((OG wr.heap.size wr).alloc (qL) (Obj.cells #[.string f.s,.int .i64 u.k,.int .i64 u.n,.string u.t,.slice u.LA u.ln u.lc,.slice u.DA u.dn u.dc] 77));have KB:aG (wr.alloc (.cells #[.string f.s,.int .i64 u.k,.int .i64 u.n,.string u.t,.slice u.LA u.ln u.lc,.slice u.DA u.dn u.dc] 77)) wr.heap.size 77 #[.string f.s,.int .i64 u.k,.int .i64 u.n,.string u.t,.slice u.LA u.ln u.lc,.slice u.DA u.dn u.dc]:=aG.Mm rfl;have KR:=HR.out.alloc (.cells #[.string f.s,.int .i64 u.k,.int .i64 u.n,.string u.t,.slice u.LA u.ln u.lc,.slice u.DA u.dn u.dc] 77);have hga:wc.heap.size<wr.heap.size:=J2.out.row.lt;clear HR u0 u1 u2 u3 u4 r3 s0;generalize wr.alloc (.cells #[.string f.s,.int .i64 u.k,.int .i64 u.n,.string u.t,.slice u.LA u.ln u.lc,.slice u.DA u.dn u.dc] 77)=wa at*;generalize wr.heap.size=ga at*;have hne:wc.heap.size≠ga:=oM
      have hne2:wc.heap.size≠w.heap.size+2:=oM
      have f0:=KB.cell 0;have f1:=KB.cell 1;have f2:=KB.cell 2;have f3:=KB.cell 3;have f4:=KB.cell 4;have f5:=KB.cell 5;have r3:=K.b2.cell 4;simp at r3 f0 f1 f2 f3 f4 f5;have LB:=qD KB;have LK:=qD K;have LR:=qD KR;clear KB K KR;have hi0:(0:Int)<=(i:Int):=oM
      have hi1:(i:Int)<(dn:Int):=oM
      go_region_held3 (fun w'=>w'.cell? ⟨w.heap.size+2,4,none⟩=some (.slice (some ⟨wc.heap.size,0,none⟩) dn dn)/\w'.cell? ⟨ga,0,none⟩=some (.string f.s)/\w'.cell? ⟨ga,1,none⟩=some (.int .i64 u.k)/\w'.cell? ⟨ga,2,none⟩=some (.int .i64 u.n)/\w'.cell? ⟨ga,3,none⟩=some (.string u.t)/\w'.cell? ⟨ga,4,none⟩=some (.slice u.LA u.ln u.lc)/\w'.cell? ⟨ga,5,none⟩=some (.slice u.DA u.dn u.dc))
       (first|go_keep|exact⟨s0,s6,s1,s2,s3,s4,s5⟩|((try dsimp only);repeat' apply And.intro;all_goals go_keep))
       ((go_at_call 154;refine(HC.out u _ (LR.out.drewN 1)).mono ?_;rintro e w1 ⟨c',mid,rfl,hcl,hb1⟩;replace hb1:Bl wa w1:=hb1.Mt;replace hcl:Cl wa.heap.size mid w1 c' f.v:=hcl;have s0:=(hb1.cell (p:=⟨w.heap.size+2,4,none⟩) LK.out.b2.lt).trans r3;have s6:=(hb1.cell (p:=⟨ga,0,none⟩) LB.out.lt).trans f0;have s1:=(hb1.cell (p:=⟨ga,1,none⟩) LB.out.lt).trans f1;have s2:=(hb1.cell (p:=⟨ga,2,none⟩) LB.out.lt).trans f2;have s3:=(hb1.cell (p:=⟨ga,3,none⟩) LB.out.lt).trans f3;have s4:=(hb1.cell (p:=⟨ga,4,none⟩) LB.out.lt).trans f4;have s5:=(hb1.cell (p:=⟨ga,5,none⟩) LB.out.lt).trans f5;have row:oG w1 wc.heap.size 77 (dn*6):=(LK.out.step hb1).row;have z:=row.frozen;obtain⟨o0,p0⟩:=row.cell (i:=i*6) oM;obtain⟨o1,p1⟩:=row.cell (i:=i*6+1) oM;obtain⟨o2,p2⟩:=row.cell (i:=i*6+2) oM;obtain⟨o3,p3⟩:=row.cell (i:=i*6+3) oM;obtain⟨o4,p4⟩:=row.cell (i:=i*6+4) oM;obtain⟨o5,p5⟩:=row.cell (i:=i*6+5) oM;have LC:=qD hcl;have LX:=qD (LK.out.step hb1);clear hcl hb1 row))
      clear s0 s1 s2 s3 s4 s5 s6 p0 p1 p2 p3 p4 p5 z f0 f1 f2 f3 f4 f5 r3;go_wp2_with fail;go_roundw
      ·exact⟨i+1,by omega,by go_num,LX.out.next hlt HY.out (LC.out.rv.mono fun q hq=>by have:=LK.out.row.lt;omega)⟩
      ·exact iO
     ·obtain rfl:i=dn:=oM
      go_wp2_with fail;go_meet;exact⟨_,wc.heap.size,CE.Nl J2.out HO.out (by have:=HDL.out;omega) J.out.l0 hd0⟩
   ·have hz:dn=0:=oM
    subst hz;clear hmd;have hd:decide (0<0)=false:=by decide
    rw[hd];clear hd;go_wp2_with fail;go_meet;exact⟨_,wc.heap.size,CE.Nf J.out HO.out⟩
  case rest=>
   obtain⟨r,mid,I⟩:=hcut;have J3:=qD I;obtain⟨a0,a1,a2,a3,a4⟩:=aO.Mn I.b2;obtain⟨b0,b1,b2,b3,b4⟩:=aO.Mn I.b1;have z:=I.b1.frozen;clear I e4 hmd;go_wp2_with fail;have q:=aO.Mn (J3.out.b1.putV r);refine OO (aD rfl _ _ _ rfl _ r q) rfl ?_;exact CE.done J3.out
theorem sJ(name:ByteArray)(d:List bf):∀i:Nat,bY name d i=-1\/∃j:Nat,bY name d i=(i+j:Nat)/\j<d.length:=by
 induction d with
 | nil=>intro i;exact .inl rfl
 | cons f r ih=>
  intro i;simp only[bY];split
  ·exact .inr ⟨0,by simp,by simp⟩
  ·rcases ih (i+1) with h|⟨j,h1,h2⟩
   ·exact .inl h
   ·exact .inr ⟨j+1,by rw[h1];congr 1;omega,by simp;omega⟩
theorem mJ(x:aC)(name:ByteArray):fH x name=-1\/∃j:Nat,fH x name=j/\∃f,x.d[j]?=some f:=by
 unfold fH;split
 ·rcases sJ name x.d 0 with h|⟨j,h1,h2⟩
  ·exact .inl h
  ·exact .inr ⟨j,by rw[h1];simp,_,OH h2⟩
 ·exact .inl rfl
def eG(x:aC)(name:ByteArray):Option aC:=if 0<=fH x name then(x.d[(fH x name).toNat]?).map bf.v else none
theorem oz{x:aC}{name:ByteArray}(h:fH x name=-1):eG x name=none:=by simp[eG,h]
theorem pB{x:aC}{name:ByteArray}{f:bf}(h:fH x name=j)(hf:x.d[j]?=some f):eG x name=some f.v:=by
 simp[eG,h,hf]
theorem cQ{fn:Func}{p u:Tmp}(h:fn.results=#[.cell p 29,.tmp u])(tmps:Array Value)(g1 off:Nat)(h1:tmps.getD p undef=.pointer (some ⟨g1,off,none⟩))(e:Value)(h2:tmps.getD u undef=e)(W:World)(v:VC)(q:aO W g1 off v):(results fn tmps).run prog W=.ok (.tuple #[v.val,e]) W:=by
  obtain⟨q0,q1,q2,q3,q4⟩:=q;rw[SY h,h1,h2];simp[asAddr,go_sem,q0,q1,q2,q3,q4]
def Lk(x:aC)(name:ByteArray)(w:World)(e:Ending)(w':World):Prop:=
 ∃(c:VC),e=.returned (.tuple #[c.val,.bool (eG x name).isSome])/\RV (fun b=>w.heap.size<=b) w' c ((eG x name).getD aC.zero)/\Bl w w'
theorem Is(x:aC)(c:VC)(name:ByteArray)(w:World)(h:RW w c x):
 Calls prog 96 #[c.val,.string name] w (Lk x name w):=by
 have H:=qD h;clear h;go_enter func96,ntmps96;go_wp2_with fail;refine(FK x c name _ ((H.out.alloc _).alloc _)).mono ?_;rintro e w1 ⟨rfl,hb⟩;have B0:aG w1 w.heap.size 29 c.arr:=((aG.Mm rfl).alloc _).step hb;have B1:aG w1 (w.heap.size+1) 29 VC.zero.arr:=(aG.Mm sM).step hb;have B2:Bl w w1:=(((OG _ _).alloc (qL) _).alloc sM _).trans (hb.mono sO);clear hb;have J0:=qD B0;have J1:=qD B1;have J2:=qD B2;obtain⟨b0,b1,b2,b3,b4⟩:=aO.Mn B1;have e4:=B0.cell 4;have z:=B1.frozen;simp at e4;clear B0 B1 B2;rcases mJ x name with hf|⟨j,hf,f,hj⟩
 ·have HG:=qD (oz hf);rw[hf];clear hf;go_wp2_with fail;have q:=aO.Mn (J1.out.putV VC.zero);refine OO (cQ rfl _ _ _ rfl _ rfl _ VC.zero q) rfl ?_;refine⟨VC.zero,?_,?_,aW J2.out oM 0 VC.zero⟩
  ·rw[HG.out];rfl
  ·rw[HG.out];exact RV.zero
 ·have HG:=qD (pB hf hj);rw[hf];clear hf;have ho:=H.out.open;have hjlt:j<c.dn:=by have:=(OI.1 hj).1;have:=ho.dn;omega
  have hdz:c.dn<=140737488355328:=by have:=ho.dsz;unfold aF at this;omega
  obtain⟨b,off,hDA,_,hel⟩:=ho.da oM;obtain⟨_,_,u,hu,hr⟩:=hel j f hj;rw[hDA] at e4;obtain⟨u0,u1,u2,u3,u4⟩:=hu.keep (J2.out.block b hu.lt);have HR:=qD (hr.lt.Ml J2.out);clear ho hel hr hu hDA hj;go_wp2_with fail;have hlt:w.heap.size+1<w1.heap.size:=J1.out.lt;refine(Ds f.v u _ HR.out).mono ?_;rintro e w2 ⟨c',mid,rfl,hcl,hb⟩;have K1:=J1.out.step hb;have K2:=J2.out.Ml hb;have LC:=qD hcl;clear b0 b1 b2 b3 b4 z e4 u0 u1 u2 u3 u4 J0 J1 J2 hcl hb HR;obtain⟨b0,b1,b2,b3,b4⟩:=aO.Mn K1;have z:=K1.frozen;have L1:=qD K1;have L2:=qD K2;clear K1 K2;go_wp2_with fail;have q:=aO.Mn (L1.out.putV c');refine OO (cQ rfl _ _ _ rfl _ rfl _ c' q) rfl ?_;refine⟨c',?_,?_,aW L2.out oM 0 c'⟩
  ·rw[HG.out];rfl
  ·rw[HG.out];exact((LC.out.keep (w':=bM w2 (w.heap.size+1) 0 c') fun q hq=>bC oM).rv).mono fun q hq=>by omega
theorem Bp(x:aC)(c:VC)(name:ByteArray)(w:World)(h:RW w c x):
 Calls prog 294 #[c.val,.string name] w (Rt w (.int .i64 (fH x name))):=by
 have HO:=qD h.open;clear h;cases hk:(c.k != 5)
 ·have hn:c.dn<=140737488355328:=by have:=HO.out.dsz;unfold aF at this;omega
  have HE:Hid (fH x name=bY name x.d 0):=by
   have:=HO.out.k;simp at hk;simp[fH,<-this,hk,Hid]
  go_enter func294,ntmps294;go_wp2_with fail
  go_loopw [4,5] (fun v4 v5 wr=>∃i:Nat,i<=c.dn/\v4=.int .i64 0/\v5=.int .i64 i/\bY name x.d 0=bY name (x.d.drop i) i/\aG wr w.heap.size 29 c.arr/\Bl w wr) (fun _ v5 _=>c.dn-(intOf v5).toNat)
  ·exact⟨0,ON _,rfl,rfl,rfl,aG.Mm rfl,(OG _ _).alloc (qL) _⟩
  case round=>
   obtain⟨i,hi,rfl,rfl,hall,N1,N2⟩:=hrel;have e4:=N1.cell 4;simp at e4;have HA:=qD hall;clear hall;by_cases hlt:i<c.dn
   ·obtain⟨b,off,hDA,_,hel⟩:=HO.out.da oM;obtain⟨f,hf⟩:∃f,x.d[i]?=some f:=⟨_,OH (by have:=HO.out.dn;omega)⟩;obtain⟨hs,_,_⟩:=hel i f hf;have hs':=(N2.cell (p:=⟨b,off+i*6,none⟩) (Oj w _ hs)).trans hs;have e4':=e4;rw[hDA] at e4;have HD:=qD (cU hf);have J1:=qD N1;have J2:=qD N2;clear hs hel hf hDA N1 N2 e4';cases hq:(f.s.toList==name.toList)
    ·have HF:Hid (bY name x.d 0=bY name (x.d.drop (i+1)) (i+1)):=by rw[Hid,HA.out,HD.out,bY,hq];rfl
     go_wp2_with fail;go_roundw
     ·exact⟨i+1,by omega,rfl,by go_num,HF.out,J1.out,J2.out⟩
     ·exact iO
    ·have HF:Hid (bY name x.d 0=(i:Int)):=by rw[Hid,HA.out,HD.out,bY,hq];rfl
     go_wp2;go_ret;exact⟨by rw[HE.out,HF.out];rfl,J2.out⟩
   ·have HF:Hid (bY name x.d 0=-1):=by rw[Hid,HA.out,Og (by have:=HO.out.dn;omega)];rfl
    have J2:=qD N2;clear N1 N2;go_wp2;go_ret;exact⟨by rw[HE.out,HF.out];rfl,J2.out⟩
 ·have HE:Hid (fH x name=-1):=by
   have:=HO.out.k;simp at hk;simp[fH,<-this,hk,Hid]
  go_enter func294,ntmps294;go_wp2;go_ret;exact⟨by rw[HE.out];rfl,(OG _ _).alloc (qL) _⟩
def Ka(x:aC)(name:ByteArray)(w:World)(e:Ending)(w':World):Prop:=
 ∃(c:VC),e=.returned (.tuple #[c.val,.bool (eG x name).isSome])/\RW w' c ((eG x name).getD aC.zero)/\Bl w w'
def Gh(F:Nat->Prop)(x:aC)(name:ByteArray)(w:World)(e:Ending)(w':World):Prop:=
 ∃(c:VC),e=.returned (.tuple #[c.val,.bool (eG x name).isSome])/\RV F w' c ((eG x name).getD aC.zero)/\Bl w w'
theorem uy(x:aC)(c:VC)(name:ByteArray)(w:World)(h:RV F w c x):
 Calls prog 244 #[c.val,.string name] w (Gh F x name w):=by
 have H:=qD h;clear h;go_enter func244,ntmps244;go_wp2_with fail;refine(Bp x c name _ (((H.out.mono fun _ _=>trivial).alloc _).alloc _)).mono ?_;rintro e w1 ⟨rfl,hb⟩;have B0:aG w1 w.heap.size 29 c.arr:=((aG.Mm rfl).alloc _).step hb;have B1:aG w1 (w.heap.size+1) 29 VC.zero.arr:=(aG.Mm sM).step hb;have B2:Bl w w1:=(((OG _ _).alloc (qL) _).alloc sM _).trans (hb.mono sO);clear hb;have J1:=qD B1;have J2:=qD B2;obtain⟨b0,b1,b2,b3,b4⟩:=aO.Mn B1;have e4:=B0.cell 4;have z:=B1.frozen;simp at e4;clear B0 B1 B2;rcases mJ x name with hf|⟨j,hf,f,hj⟩
 ·have HG:=qD (oz hf);rw[hf];clear hf;go_wp2_with fail;have q:=aO.Mn (J1.out.putV VC.zero);refine OO (cQ rfl _ _ _ rfl _ rfl _ VC.zero q) rfl ?_;refine⟨VC.zero,?_,?_,aW J2.out oM 0 VC.zero⟩
  ·rw[HG.out];rfl
  ·rw[HG.out];exact RV.zero
 ·have HG:=qD (pB hf hj);rw[hf];clear hf;have ho:=H.out.open;have hjlt:j<c.dn:=by have:=(OI.1 hj).1;have:=ho.dn;omega
  have hdz:c.dn<=140737488355328:=by have:=ho.dsz;unfold aF at this;omega
  obtain⟨b,off,hDA,_,hel⟩:=ho.da oM;obtain⟨_,_,u,hu,hr⟩:=hel j f hj;rw[hDA] at e4;obtain⟨u0,u1,u2,u3,u4⟩:=hu.keep (J2.out.block b hu.lt);have HR:=qD (hr.lt.Mr (G:=fun q=>F q/\q<w.heap.size) (w':=bM w1 (w.heap.size+1) 0 u) fun q hq _=>⟨hq,by rw[bC (by have:=hq.2;omega)];exact J2.out.block q hq.2⟩);clear ho hel hr hu hDA hj;go_wp2_with fail;have q:=aO.Mn (J1.out.putV u);refine OO (cQ rfl _ _ _ rfl _ rfl _ u q) rfl ?_;refine⟨u,?_,?_,aW J2.out oM 0 u⟩
  ·rw[HG.out];rfl
  ·rw[HG.out];exact HR.out.mono fun _ h=>h.1
theorem Gi(x:aC)(c:VC)(name:ByteArray)(w:World)(h:RW w c x):
 Calls prog 244 #[c.val,.string name] w (Ka x name w):=uy x c name w h
def cR:aC:=.mk 2 0 empty [] []
def eL:VC:=⟨2,0,empty,none,0,0,none,0,0⟩
theorem jU:RV F w eL cR:=
 pw.shut ⟨rfl,rfl,rfl,by decide,rfl,qL,by decide,fun h=>absurd h dE,rfl,qL,by decide,fun h=>absurd h dE⟩
def cT:aC->List ByteArray->Option aC
 | x,[]=>if x.k=6 then none else some x
 | x,s::r=>if x.k=6 then none else match eG x s with
  | none=>some cR
  | some y=>cT y r
theorem kp{x:aC}(h:x.k=6)(l:List ByteArray):cT x l=none:=by cases l<;>rw[cT,OW h]
theorem pC{x:aC}(h:x.k≠6):cT x []=some x:=by rw[cT,OQ h]
theorem nS{x:aC}(h:x.k≠6)(hg:eG x s=none):cT x (s::r)=some cR:=by rw[cT,OQ h,hg]
theorem nT{x y:aC}(h:x.k≠6)(hg:eG x s=some y):cT x (s::r)=cT y r:=by rw[cT,OQ h,hg]
theorem pD{x:aC}(s:ByteArray)(h:x.k≠5):eG x s=none:=by
 refine oz ?_;unfold fH;rw[OQ (by simpa using h)]
def Gj(F:Nat->Prop)(x:aC)(l:List ByteArray)(w:World)(e:Ending)(w':World):Prop:=
 ∃u:VC,e=.returned (.tuple #[u.val,.bool (cT x l).isSome])/\(∀y,cT x l=some y->RV (fun b=>F b\/w.heap.size<=b) w' u y)/\Bl w w'
theorem Gj.drew{x:aC}{e:Ending}(h:Gj F x l w e w'):Gj F x l w e w'.drew:=by
 obtain⟨u,h1,h2,h3⟩:=h;exact⟨u,h1,fun y hy=>(h2 y hy).keep fun _ _=>rfl,h3.drew⟩
end
structure Dt(F:Nat->Prop)(w:World)(u:VC)(y:aC)(wr:World):Prop where
 b1:aG wr (w.heap.size+1) 29 VC.zero.arr
 b2:aG wr (w.heap.size+2) 29 eL.arr
 b3:aG wr (w.heap.size+3) 29 u.arr
 rv:RV (fun b=>(F b/\b<w.heap.size)\/w.heap.size+4<=b) wr u y
 bel:Bl w wr
section
variable {b n o i c off size:Nat} {w w' wr:World} {e:TypeId} {x y:Int} {l r:List ByteArray} {s:ByteArray} {A:Option Addr} {F:Nat -> Prop}
theorem Dt.step{u:VC}{y:aC}(h:Dt F w u y wr)(hb:Bl wr w'):Dt F w u y w':=⟨h.b1.step hb,h.b2.step hb,h.b3.step hb,h.rv.step hb,h.bel.Ml hb⟩
theorem Dt.start{c:VC}{x:aC}(h:RV F w c x):Dt F w c x ((((w.alloc (.cells c.arr 29)).alloc (.cells VC.zero.arr 29)).alloc (.cells eL.arr 29)).alloc (.cells c.arr 29)):=by
 have h1:Bl w ((((w.alloc (.cells c.arr 29)).alloc (.cells VC.zero.arr 29)).alloc (.cells eL.arr 29)).alloc (.cells c.arr 29)):=((((OG _ _).alloc (qL) _).alloc sM _).alloc sO _).alloc sO _;exact⟨((aG.Mm sM).alloc _).alloc _,(aG.Mm sM).alloc _,aG.Mm sM,h.lt.Mr fun b hb hl=>⟨.inl hb,h1.block b hb.2⟩,h1⟩
theorem sK{u:VC}{y x:aC}{e:Ending}(h:Dt F w u y wr)(c':VC)(o:Option aC)(ho:cT x l=o)(b:Bool)(hb:b=o.isSome)(he:e=.returned (.tuple #[c'.val,.bool b]))(hw:w'=bM wr (w.heap.size+1) 0 c')(hr:∀z,o=some z->RV (fun b=>F b\/w.heap.size<=b) (bM wr (w.heap.size+1) 0 c') c' z):Gj F x l w e w':=by
 subst ho;subst hb;subst he;subst hw;exact⟨c',rfl,hr,aW h.bel oM 0 c'⟩
theorem Dt.put{u c':VC}{y z:aC}(h:Dt F w u y wr)(hr:RV (fun b=>w.heap.size+4<=b) wr c' z):Dt F w c' z (bM wr (w.heap.size+3) 0 c'):=
 ⟨h.b1.My oM 0 c',h.b2.My oM 0 c',h.b3.putV c',hr.Mr fun b hb _=>⟨.inr hb,bC oM⟩,aW h.bel oM 0 c'⟩
theorem Dt.Ns{u:VC}{y:aC}(h:Dt F w u y wr):RV (fun b=>F b\/w.heap.size<=b) (bM wr (w.heap.size+1) 0 u) u y:=
 h.rv.Mr fun b hb _=>⟨hb.elim (fun q=>.inl q.1) (fun q=>.inr oM),bC (hb.elim (fun q=>by have:=q.2;omega) (fun q=>by omega))⟩
theorem Kb(x:aC)(c:VC)(A:Option Addr)(n cc:Nat)(l:List ByteArray)(w:World)(h:RV F w c x)(hp:ST w A n cc l):
 Calls prog 36 #[c.val,.slice A n cc] w (Gj F x l w):=by
 have HP:=qD hp;have HL:Hid (n=l.length):=hp.sr.ln;have hnz:(n:Int)<=8796093022208:=by have:=hp.sz;unfold aF at this;omega
 have I0:=qD (Dt.start h);clear h hp;go_enter func36,ntmps36;go_upto_region 4 with fail
 change Code.wp _ _ _ _ ((((w.alloc (.cells c.arr 29)).alloc (.cells VC.zero.arr 29)).alloc (.cells eL.arr 29)).alloc (.cells c.arr 29));generalize ((((w.alloc (.cells c.arr 29)).alloc (.cells VC.zero.arr 29)).alloc (.cells eL.arr 29)).alloc (.cells c.arr 29))=wa at*
 go_loopw [9,10,11,16,28] (fun _ _ _ u16 _ wr=>∃(i:Nat) (u:VC) (y:aC),i<=n/\u16=.int .i64 i/\cT x l=cT y (l.drop i)/\Dt F w u y wr) (fun _ _ _ u16 _ _=>n-(intOf u16).toNat)
 ·exact⟨0,c,x,ON _,rfl,rfl,I0.out⟩
 case round=>
  obtain⟨i,u,y,hi,rfl,hk,J⟩:=hrel;have HK:=qD hk;have J2:=qD J;clear I0 hk J;have huk:u.k=y.k:=J2.out.rv.open.k;have HUK:=qD huk;clear huk;have z1:=J2.out.b1.frozen;have z3:=J2.out.b3.frozen;obtain⟨a0,a1,a2,a3,a4⟩:=aO.Mn J2.out.b1;obtain⟨n0,n1,n2,n3,n4⟩:=aO.Mn J2.out.b2;obtain⟨q0,q1,q2,q3,q4⟩:=aO.Mn J2.out.b3;simp only[OX] at a0 a1 a2 a3 a4 n0 n1 n2 n3 n4 q0 q1 q2 q3 q4;by_cases hlt:i<n
  ·obtain⟨b,off,s,hA,hbw,hs,hcell⟩:=HP.out.sr.NR hlt;subst hA;have hcell2:=(J2.out.bel.cell (p:=⟨b,off+i,none⟩) hbw).trans hcell;have HD:Hid (l.drop i=s::l.drop (i+1)):=cU hs;have i0':(0:Int)<=(i:Int):=oM
   have i1':(i:Int)<(n:Int):=oM
   clear hs hcell hbw;by_cases h6:u.k=6
   ·have HR:Hid (cT x l=none):=by rw[Hid,HK.out];exact kp (by rw[<-HUK.out];exact h6) _
    have h6b:(u.k==6)=true:=by simpa using h6
    clear h6;go_wp2_with fail;have q:=aO.Mn (J2.out.b1.putV VC.zero);refine OO (cQ rfl _ _ _ rfl _ rfl _ VC.zero q) rfl ?_;exact sK J2.out VC.zero none HR.out false rfl rfl rfl (fun y hy=>by cases hy)
   ·have h6b:(u.k==6)=false:=by simpa using h6
    have h6y:y.k≠6:=by rw[<-HUK.out];exact h6
    by_cases h5:u.k=5
    ·have h5b:(u.k != 5)=false:=by simp[h5]
     clear h5 h6;have HG:=qD (Is y u s wr (J2.out.rv.mono fun _ _=>trivial));go_upto_region 10 with fail
     go_wp2_with fail;refine HG.out.mono ?_;rintro e w1 ⟨c',rfl,hr,hb⟩;have J3:=qD (J2.out.step hb);have HR1:=qD hr;have HSZ:Hid (w.heap.size+4<=wr.heap.size):=J2.out.b3.lt;have HSZ2:Hid (wr.heap.size<=w1.heap.size):=hb.size;clear a0 a1 a2 a3 a4 n0 n1 n2 n3 n4 q0 q1 q2 q3 q4 z1 z3 hr hb HG;cases hg:eG y s with
     | none=>
      rw[hg] at HR1;have HR:Hid (cT x l=some cR):=by rw[Hid,HK.out,HD.out];exact nS h6y hg
      clear hg;go_upto_region 11 with fail
      change Code.wp _ _ _ _ (w1.alloc (.cells c'.arr 29));have J4:=qD (J3.out.step ((OG w1.heap.size w1).alloc (qL) (Obj.cells c'.arr 29)));generalize w1.alloc (.cells c'.arr 29)=w2 at*;have z1:=J4.out.b1.frozen;obtain⟨a0,a1,a2,a3,a4⟩:=aO.Mn J4.out.b1;obtain⟨n0,n1,n2,n3,n4⟩:=aO.Mn J4.out.b2;simp only[OX] at a0 a1 a2 a3 a4 n0 n1 n2 n3 n4;go_wp2_with fail;have q:=aO.Mn (J4.out.b1.putV eL);refine OO (cQ rfl _ _ _ rfl _ rfl _ eL q) rfl ?_;exact sK J4.out eL (some cR) HR.out true rfl rfl rfl (fun y hy=>by cases hy;exact jU)
     | some z=>
      rw[hg] at HR1;have HR:Hid (cT x l=cT z (l.drop (i+1))):=by rw[Hid,HK.out,HD.out];exact nT h6y hg
      clear hg;go_upto_region 11 with fail
      change Code.wp _ _ _ _ (w1.alloc (.cells c'.arr 29));have J4:=qD (J3.out.step ((OG w1.heap.size w1).alloc (qL) (Obj.cells c'.arr 29)));have JC:Hid (aG (w1.alloc (.cells c'.arr 29)) w1.heap.size 29 c'.arr):=aG.Mm rfl;have HR2:=qD (HR1.out.lt.Mr (G:=fun b=>w.heap.size+4<=b) (w':=w1.alloc (.cells c'.arr 29)) fun b hb hl=>⟨OU HSZ.out hb.1,Qs _ _ _ hl⟩);have hgl:w.heap.size+3<w1.heap.size:=by have h1:=HSZ.out;have h2:=HSZ2.out;omega
      generalize w1.alloc (.cells c'.arr 29)=w2 at*;have z3:=J4.out.b3.frozen;obtain⟨a0,a1,a2,a3,a4⟩:=aO.Mn JC.out;obtain⟨q0,q1,q2,q3,q4⟩:=aO.Mn J4.out.b3;simp only[OX] at a0 a1 a2 a3 a4 q0 q1 q2 q3 q4;go_wp2_with fail;go_roundw
      ·exact⟨i+1,c',z,hlt,by go_num,HR.out,J4.out.put HR2.out⟩
      ·exact iO
    ·have h5b:(u.k != 5)=true:=by simp[h5]
     have HR:Hid (cT x l=some cR):=by rw[Hid,HK.out,HD.out];exact nS h6y (pD s (by rw[<-HUK.out];exact h5))
     go_wp2_with fail;have q:=aO.Mn (J2.out.b1.putV eL);refine OO (cQ rfl _ _ _ rfl _ rfl _ eL q) rfl ?_;exact sK J2.out eL (some cR) HR.out true rfl rfl rfl (fun y hy=>by cases hy;exact jU)
  ·obtain rfl:i=n:=oM
   have hdr:l.drop i=[]:=Og (by have:=HL.out;omega);by_cases h6:u.k=6
   ·have HR:Hid (cT x l=none):=by rw[Hid,HK.out];exact kp (by rw[<-HUK.out];exact h6) _
    have h6b:(u.k != 6)=false:=by simp[h6]
    clear h6;go_upto_region 15 with fail
    go_region
    all_goals (go_wp2_with fail)
    all_goals
     have q:=aO.Mn (J2.out.b1.putV u).drew;refine OO (cQ rfl _ _ _ rfl _ rfl _ u q) rfl ?_;exact(sK J2.out u none HR.out false rfl rfl rfl (fun y hy=>by cases hy)).drew
   ·have HR:Hid (cT x l=some y):=by rw[Hid,HK.out,hdr];exact pC (by rw[<-HUK.out];exact h6)
    have h6b:(u.k != 6)=true:=by simp[h6]
    go_upto_region 15 with fail
    go_region
    all_goals (go_wp2_with fail)
    all_goals
     have q:=aO.Mn (J2.out.b1.putV u).drew;refine OO (cQ rfl _ _ _ rfl _ rfl _ u q) rfl ?_;exact(sK J2.out u (some y) HR.out true rfl rfl rfl (fun z hz=>by cases hz;exact J2.out.Ns)).drew
theorem uz{l rest:List Oper}{o:Oper}(h:l.drop i=o::rest):l.toArray[i]?=some o:=by
 have:=congrArg List.head? h;rw[List.head?_drop] at this;simpa using this
theorem gR(w:World):Calls prog 34 #[] w fun e w'=>e=.returned eL.val/\Bl w w':=by
 go_enter func34,ntmps34;go_wp2_with fail;exact OO (aD rfl _ _ _ rfl _ eL (aO.Mn (aG.new _ _ _))) rfl ⟨rfl,(OG _ _).alloc (qL) _⟩
theorem ST.tail(h:ST w (some ⟨b,off,none⟩) n c (s::r)):
 ST w (if c=1 then some ⟨b,off,none⟩ else some ⟨b,off+1,none⟩) (n-1) (c-1) r:=by
 have hl:=h.sr.ln;have hc:=h.sr.lc;simp only[OZ] at hl;have hz:=h.sz;refine⟨⟨by omega,by omega,fun hn=>?_⟩,by omega,fun x hx=>h.el x (by simp[hx])⟩;obtain⟨b',off',e,hb,hel⟩:=h.sr.el oM;cases e;rw[OQ oM];refine⟨b,off+1,rfl,hb,fun i a hi j v hj=>?_⟩;have:=hel (i+1) a (by simpa using hi) j v hj;rw[show off+1+i*1+j=off+(i+1)*1+j by omega];exact this
end
end Go.Proofs.YtgfoliedmhgpnaaGreatDoor
