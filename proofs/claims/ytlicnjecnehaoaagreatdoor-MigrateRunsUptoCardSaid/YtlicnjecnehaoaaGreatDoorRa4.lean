/- Parts of the proof, joined: SortMV, SortGV, SortTP, ValFind, ValClone, ValSort, ValGet, ValRows, ChRepA, ShAt, ValTake, ShKv. -/
import Derived.Test.YtlicnjecnehaoaaGreatDoorRa1
import Derived.Test.YtlicnjecnehaoaaGreatDoorRa2
import Derived.Test.YtlicnjecnehaoaaGreatDoorRa3
import Derived.IntWalk
set_option maxRecDepth 100000
set_option maxHeartbeats 16000000
set_option linter.unusedSimpArgs false
namespace Go.Proofs.YtlicnjecnehaoaaGreatDoor
open Go.RowKit
section
variable {α:Type} {cm:α→α→Int}
theorem RT.le{x y:α×Nat}(h:RT cm x y):cm x.1 y.1≤0:=by unfold RT at h;omega
theorem cm_lt_le(H:Ordered cm){x y z:α}(h1:cm x y<0)(h2:cm y z≤0):cm x z<0:=by
 have:=H.tr x y z (by omega) h2
 omega
theorem pw_at{R:α×Nat→α×Nat→Prop}{l:List (α×Nat)}(h:l.Pairwise R){i j:Nat}{x y:α×Nat}(hij:i<j)(hx:l[i]?=some x)(hy:l[j]?=some y):R x y:=by
 obtain⟨hi,rfl⟩:=List.getElem?_eq_some_iff.1 hx
 obtain⟨hj,rfl⟩:=List.getElem?_eq_some_iff.1 hy
 exact List.pairwise_iff_getElem.1 h i j hi hj hij
end
section
variable {α:Type} {cm:α→α→Int}
theorem at_le(H:Ordered cm){l:List (α×Nat)}(h:l.Pairwise (RT cm)){i j:Nat}{x y:α×Nat}(hij:i≤j)(hx:l[i]?=some x)(hy:l[j]?=some y):cm x.1 y.1≤0:=by
 by_cases e:i=j
 ·subst e
  rw[hx] at hy
  cases hy
  have:=H.anti x.1 x.1
  omega
 ·exact RT.le (pw_at h (by omega) hx hy)
end
section
variable {α:Type}
def blk(bs q:Nat)(L:List α):List α:=(L.drop (q*bs)).take bs
variable {cm:α→α→Int}
end
def findFrom(name:ByteArray):List Fld→Nat→Int
 | [],_=>-1
 | f::r,i=>if f.s.toList==name.toList then(i:Int) else findFrom name r (i+1)
def findI(x:Val)(name:ByteArray):Int:=if x.k==5 then findFrom name x.d 0 else -1
theorem find_any(x:Val)(c:VC)(name:ByteArray)(w:World)(h:RW w c x):
 Calls Tryz.prog 67 #[c.val,.string name] w fun e w'=>e=.returned (.int .i64 (findI x name))∧Below w.heap.size w w':=by
 have HO:=qD h.open
 clear h
 cases hk:(c.k != 5)
 ·have hn:c.dn≤140737488355328:=by have:=HO.out.dsz;unfold reach at this;omega
  have HE:Hid (findI x name=findFrom name x.d 0):=by
   have:=HO.out.k
   simp at hk
   simp[findI,←this,hk,Hid]
  go_enter Tryz.func67,Tryz.ntmps67
  go_wp2_with fail
  go_loopw [4,5,12] (fun v4 v5 v12 wr=>∃i:Nat,i≤c.dn∧v4=.int .i64 0∧v12=.int .i64 i∧findFrom name x.d 0=findFrom name (x.d.drop i) i∧Blk wr w.heap.size 45 c.arr∧Below w.heap.size w wr) (fun _ _ v12 _=>c.dn-(intOf v12).toNat)
  case atStart=>exact⟨0,Nat.zero_le _,rfl,rfl,rfl,Blk.new_at rfl,(Below.refl _ _).alloc (qL) _⟩
  case round=>
   obtain⟨i,hi,rfl,rfl,hall,N1,N2⟩:=hrel
   have e4:=N1.cell 4
   simp at e4
   have HA:=qD hall
   clear hall
   by_cases hlt:i<c.dn
   ·obtain⟨b,off,hDA,_,hel⟩:=HO.out.da (by omega)
    obtain⟨f,hf⟩:∃f,x.d[i]?=some f:=⟨_,List.getElem?_eq_getElem (by have:=HO.out.dn;omega)⟩
    obtain⟨hs,_,_⟩:=hel i f hf
    have hs':=(N2.cell (p:=⟨b,off+i*6,none⟩) (World.block_lt_of_cell? w _ hs)).trans hs
    rw[hDA] at e4
    have HD:=qD (drop_of hf)
    have J1:=qD N1
    have J2:=qD N2
    clear hs hel hf hDA N1 N2
    cases hq:(f.s.toList==name.toList)
    ·have HF:Hid (findFrom name x.d 0=findFrom name (x.d.drop (i+1)) (i+1)):=by rw[Hid,HA.out,HD.out,findFrom,hq];rfl
     go_wp2_with fail
     go_roundw
     case rel=>exact⟨i+1,by omega,rfl,by go_num,HF.out,J1.out,J2.out⟩
     case measure=>simp[intOf];omega
    ·have HF:Hid (findFrom name x.d 0=(i:Int)):=by rw[Hid,HA.out,HD.out,findFrom,hq];rfl
     go_wp2_with fail
     go_ret
     exact⟨by rw[HE.out,HF.out];rfl,J2.out⟩
   ·have HF:Hid (findFrom name x.d 0=-1):=by rw[Hid,HA.out,List.drop_of_length_le (by have:=HO.out.dn;omega)];rfl
    have J2:=qD N2
    clear N1 N2
    go_wp2_with fail
    go_ret
    exact⟨by rw[HE.out,HF.out];rfl,J2.out⟩
 ·have HE:Hid (findI x name=-1):=by
   have:=HO.out.k
   simp at hk
   simp[findI,←this,hk,Hid]
  go_enter Tryz.func67,Tryz.ntmps67
  go_wp2_with fail
  go_ret
  exact⟨by rw[HE.out];rfl,(Below.refl _ _).alloc (qL) _⟩
theorem clone_any(x:Val):∀(c:VC) (w:World),RW w c x→Calls Tryz.prog 68 #[c.val] w (CloneOk w x):=by
 induction x using Val.ind with
 | h k n t l d ihl ihd=>
 intro c w h
 obtain⟨ck,cn,ct,LA,ln,lc,DA,dn,dc⟩:=c
 obtain⟨i0,hi0,hz0,hz1,hz2⟩:=info_parts info_value
 obtain⟨j0,hj0,hy0,hy1,hy2⟩:=info_parts info_field
 have ho:=h.open
 have hls:ln*80≤140737488355328:=ho.lsz
 have hds:dn*96≤140737488355328:=ho.dsz
 have hll:ln=l.length:=ho.ln
 have hdl:dn=d.length:=ho.dn
 have hmk:=run_make_rowN (P:=Tryz.prog) 42 45 i0 VC.zero.val Tryz.underlying42 hi0 hz0 ln (by rw[hz2];omega) (by omega)
 have hmd:=run_make_rowN (P:=Tryz.prog) 43 75 j0 (.agg (#[.string ByteArray.empty]++VC.zero.arr)) Tryz.underlying43 hj0 hy0 dn (by rw[hy2];omega) (by omega)
 rw[hz1] at hmk
 rw[hy1] at hmd
 have hln:ln≤140737488355328:=by omega
 have hdn:dn≤140737488355328:=by omega
 have HLL:=qD hll
 have HDL:=qD hdl
 clear hll hdl
 have HI:=qD ihl
 have HJ:=qD ihd
 have HO:=qD ho
 clear ihl ihd ho h hi0 hz0 hz1 hz2 hj0 hy0 hy1 hy2
 go_enter Tryz.func68,Tryz.ntmps68
 go_upto_if 18 with fail
 go_cut [] (fun wx=>∃r,CSt w ⟨ck,cn,ct,LA,ln,lc,DA,dn,dc⟩ (.mk k n t l d) wx r)
 case first=>
  by_cases hl0:0<ln
  ·obtain⟨b,off,hLA,_,hel⟩:=HO.out.la hl0
   have hLA':LA=some ⟨b,off,none⟩:=hLA
   subst hLA'
   have HEL:=qD hel
   clear hLA hel
   have hd:decide (0<ln)=true:=by simpa using hl0
   rw[hd]
   clear hd
   go_wp2_with fail
   go_loopw [4,5,27] (fun v4 v5 v27 wr=>∃i:Nat,i≤ln∧v27=.int .i64 i∧CL w ⟨ck,cn,ct,some ⟨b,off,none⟩,ln,lc,DA,dn,dc⟩ l i wr) (fun _ _ v27 _=>ln-(intOf v27).toNat)
   case atStart=>
    refine⟨0,Nat.zero_le _,rfl,⟨((Blk.new_at rfl).alloc _).alloc _ |>.alloc _,((Blk.new_at (by simp)).alloc _).alloc _,(Blk.new_at (by simp)).alloc _,⟨_,Blk.new_at (by simp),size_madeCells _ _⟩,fun j y hj=>by omega,((((Below.refl _ _).alloc (qL) _).alloc (by simp) _).alloc (by simp;omega) _).alloc (by simp;omega) _⟩⟩
   case round=>
    obtain⟨i,hi,rfl,I⟩:=hrel
    have J:=qD I
    by_cases hlt:i<ln
    ·obtain⟨y,hy⟩:∃y,l[i]?=some y:=⟨_,List.getElem?_eq_getElem (by have:=HLL.out;omega)⟩
     obtain⟨u,hu,hr⟩:=HEL.out i y hy
     have hr':=hr.lt.step' I.bel
     obtain⟨u0,u1,u2,u3,u4⟩:=hu.keep (I.bel.block b hu.lt)
     have HY:=qD hy
     have HR:=qD hr'
     have HC:=qD (HI.out y (List.mem_of_getElem? hy))
     have hb:b<wr.heap.size:=by have:=hu.lt;have:=I.bel.size;omega
     have r3:=I.b2.cell 3
     simp at r3
     clear hy hr hr' hu I hmk hmd
     go_wp2_with fail
     have K:=J.out.step ((Below.refl wr.heap.size wr).alloc (qL) (Obj.cells u.arr 45))
     have KB:Blk (wr.alloc (.cells u.arr 45)) wr.heap.size 45 u.arr:=Blk.new_at rfl
     have KR:=HR.out.alloc (.cells u.arr 45)
     clear HR u0 u1 u2 u3 u4 r3
     have hga:w.heap.size+3<wr.heap.size:=J.out.row.lt
     generalize wr.alloc (.cells u.arr 45)=wa at*
     generalize wr.heap.size=ga at*
     have hne:w.heap.size+3≠ga:=by omega
     obtain⟨u0,u1,u2,u3,u4⟩:=VAt.of_blk KB
     simp only[Nat.zero_add] at u1 u2 u3 u4
     have r3:=K.b2.cell 3
     simp at r3
     have LB:=qD KB
     have LK:=qD K
     have LR:=qD KR
     clear KB K KR
     have hi0:(0:Int)≤(i:Int):=by omega
     have hi1:(i:Int)<(ln:Int):=by omega
     go_region_held3 (fun w'=>w'.cell? ⟨w.heap.size+2,3,none⟩=some (.slice (some ⟨w.heap.size+3,0,none⟩) ln ln)∧w'.cell? ⟨ga,0,none⟩=some (.int .i64 u.k)∧w'.cell? ⟨ga,1,none⟩=some (.int .i64 u.n)∧w'.cell? ⟨ga,2,none⟩=some (.string u.t)∧w'.cell? ⟨ga,3,none⟩=some (.slice u.LA u.ln u.lc)∧w'.cell? ⟨ga,4,none⟩=some (.slice u.DA u.dn u.dc))
      (first|go_keep|exact⟨s0,s1,s2,s3,s4,s5⟩|((try dsimp only);repeat' apply And.intro;all_goals go_keep))
      ((go_at_call 68;refine(HC.out u _ (LR.out.drewN 1)).mono ?_;rintro e w1 ⟨c',mid,rfl,hcl,hb1⟩;replace hb1:Below wa.heap.size wa w1:=hb1.undrewN;replace hcl:Cl wa.heap.size mid w1 c' y:=hcl;have s0:=(hb1.cell (p:=⟨w.heap.size+2,3,none⟩) LK.out.b2.lt).trans r3;have s1:=(hb1.cell (p:=⟨ga,0,none⟩) LB.out.lt).trans u0;have s2:=(hb1.cell (p:=⟨ga,1,none⟩) LB.out.lt).trans u1;have s3:=(hb1.cell (p:=⟨ga,2,none⟩) LB.out.lt).trans u2;have s4:=(hb1.cell (p:=⟨ga,3,none⟩) LB.out.lt).trans u3;have s5:=(hb1.cell (p:=⟨ga,4,none⟩) LB.out.lt).trans u4;have row:Row w1 (w.heap.size+3) 45 (ln*5):=(LK.out.step hb1).row;have z:=row.frozen;obtain⟨o0,p0⟩:=row.cell (i:=i*5) (by omega);obtain⟨o1,p1⟩:=row.cell (i:=i*5+1) (by omega);obtain⟨o2,p2⟩:=row.cell (i:=i*5+2) (by omega);obtain⟨o3,p3⟩:=row.cell (i:=i*5+3) (by omega);obtain⟨o4,p4⟩:=row.cell (i:=i*5+4) (by omega);have LC:=qD hcl;have LX:=qD (LK.out.step hb1);clear hcl hb1 row))
     clear s0 s1 s2 s3 s4 s5 p0 p1 p2 p3 p4 z u0 u1 u2 u3 u4 r3
     go_wp2_with fail
     go_roundw
     case rel=>exact⟨i+1,by omega,by go_num,LX.out.next hlt HY.out (LC.out.rv.mono fun q hq=>by have:=LK.out.row.lt;omega)⟩
     case measure=>simp[intOf];omega
    ·obtain rfl:i=ln:=by omega
     clear hmk hmd
     go_wp2_with fail
     go_meet
     exact⟨_,I.b0,I.b1,I.b2,I.bel,⟨rfl,rfl,rfl,rfl,rfl,rfl,rfl,rfl⟩,fun h=>absurd h (by show i≠0;omega),fun _=>⟨w.heap.size+3,rfl,qL,I.row,fun j y hj=>I.el j y (by have:=(List.getElem?_eq_some_iff.1 hj).1;have:=HLL.out;simp only[Val.l] at*;omega) hj⟩⟩
  ·have hz:ln=0:=by omega
   have hz':decide ((0:Int)<(ln:Int))=false:=by simp;omega
   subst hz
   clear hmk hmd
   go_wp2_with fail
   go_meet
   exact⟨⟨ck,cn,ct,none,0,0,none,0,0⟩,((Blk.new_at rfl).alloc _).alloc _,(Blk.new_at (by simp)).alloc _,Blk.new_at (by simp),(((Below.refl _ _).alloc (qL) _).alloc (by simp) _).alloc (by simp;omega) _,⟨rfl,rfl,rfl,rfl,rfl,rfl,rfl,rfl⟩,fun _=>rfl,fun h=>absurd h (Nat.lt_irrefl 0)⟩
 case rest=>
  obtain⟨r,I⟩:=hcut
  obtain⟨rk,rn,rt,rLA,rln,rlc,rDA,rdn,rdc⟩:=r
  have he:=I.e
  simp only at he
  obtain⟨rfl,rfl,rfl,rfl,rfl,rfl,rfl,rfl⟩:=he
  have e4:=I.b0.cell 4
  simp at e4
  have J:=qD I
  clear I hmk
  go_upto_if 42 with fail
  go_cut [] (fun wx=>∃r mid,CE w (.mk k n t l d) r mid wx)
  case first=>
   by_cases hd0:0<dn
   ·obtain⟨b,off,hDA,_,hel⟩:=HO.out.da hd0
    have hDA':DA=some ⟨b,off,none⟩:=hDA
    subst hDA'
    have HEL:=qD hel
    clear hDA hel
    have hd:decide (0<dn)=true:=by simpa using hd0
    rw[hd]
    clear hd
    have g0:=J.out.b2.cell 4
    have z0:=J.out.b2.frozen 4
    have l0:=J.out.b0.lt
    have l2:=J.out.b2.lt
    simp at g0
    go_wp2_with fail
    go_loopw [6,7,51] (fun v6 v7 v51 wr=>∃i:Nat,i≤dn∧v51=.int .i64 i∧CD w ⟨rk,rn,rt,LA,rlc,lc,some ⟨b,off,none⟩,dn,dc⟩ ⟨rk,rn,rt,rLA,rlc,rlc,none,0,0⟩ wc.heap.size l d i wr) (fun _ _ v51 _=>dn-(intOf v51).toNat)
    case atStart=>
     refine⟨0,Nat.zero_le _,rfl,?_⟩
     exact CD.start J.out
    case round=>
     obtain⟨i,hi,rfl,I⟩:=hrel
     have J2:=qD I
     clear g0 z0 e4 hmd
     by_cases hlt:i<dn
     ·obtain⟨f,hf⟩:∃f,d[i]?=some f:=⟨_,List.getElem?_eq_getElem (by have:=HDL.out;omega)⟩
      obtain⟨hs,hz,u,hu,hr⟩:=HEL.out i f hf
      have hr':=hr.lt.step' I.bel
      have s0:=(I.bel.cell (p:=⟨b,off+i*6,none⟩) hu.lt).trans hs
      obtain⟨u0,u1,u2,u3,u4⟩:=hu.keep (I.bel.block b hu.lt)
      have HY:=qD hf
      have HR:=qD hr'
      have HC:=qD (HJ.out f (List.mem_of_getElem? hf))
      have hb:b<wr.heap.size:=by have:=hu.lt;have:=I.bel.size;omega
      have r3:=I.b2.cell 4
      simp at r3
      clear hf hr hr' hu I hs hz
      go_wp2_with fail
      have K:=J2.out.step ((Below.refl wr.heap.size wr).alloc (qL) (Obj.cells #[.string f.s,.int .i64 u.k,.int .i64 u.n,.string u.t,.slice u.LA u.ln u.lc,.slice u.DA u.dn u.dc] 75))
      have KB:Blk (wr.alloc (.cells #[.string f.s,.int .i64 u.k,.int .i64 u.n,.string u.t,.slice u.LA u.ln u.lc,.slice u.DA u.dn u.dc] 75)) wr.heap.size 75 #[.string f.s,.int .i64 u.k,.int .i64 u.n,.string u.t,.slice u.LA u.ln u.lc,.slice u.DA u.dn u.dc]:=Blk.new_at rfl
      have KR:=HR.out.alloc (.cells #[.string f.s,.int .i64 u.k,.int .i64 u.n,.string u.t,.slice u.LA u.ln u.lc,.slice u.DA u.dn u.dc] 75)
      have hga:wc.heap.size<wr.heap.size:=J2.out.row.lt
      clear HR u0 u1 u2 u3 u4 r3 s0
      generalize wr.alloc (.cells #[.string f.s,.int .i64 u.k,.int .i64 u.n,.string u.t,.slice u.LA u.ln u.lc,.slice u.DA u.dn u.dc] 75)=wa at*
      generalize wr.heap.size=ga at*
      have hne:wc.heap.size≠ga:=by omega
      have hne2:wc.heap.size≠w.heap.size+2:=by omega
      have f0:=KB.cell 0
      have f1:=KB.cell 1
      have f2:=KB.cell 2
      have f3:=KB.cell 3
      have f4:=KB.cell 4
      have f5:=KB.cell 5
      have r3:=K.b2.cell 4
      simp at r3 f0 f1 f2 f3 f4 f5
      have LB:=qD KB
      have LK:=qD K
      have LR:=qD KR
      clear KB K KR
      have hi0:(0:Int)≤(i:Int):=by omega
      have hi1:(i:Int)<(dn:Int):=by omega
      go_region_held3 (fun w'=>w'.cell? ⟨w.heap.size+2,4,none⟩=some (.slice (some ⟨wc.heap.size,0,none⟩) dn dn)∧w'.cell? ⟨ga,0,none⟩=some (.string f.s)∧w'.cell? ⟨ga,1,none⟩=some (.int .i64 u.k)∧w'.cell? ⟨ga,2,none⟩=some (.int .i64 u.n)∧w'.cell? ⟨ga,3,none⟩=some (.string u.t)∧w'.cell? ⟨ga,4,none⟩=some (.slice u.LA u.ln u.lc)∧w'.cell? ⟨ga,5,none⟩=some (.slice u.DA u.dn u.dc))
       (first|go_keep|exact⟨s0,s6,s1,s2,s3,s4,s5⟩|((try dsimp only);repeat' apply And.intro;all_goals go_keep))
       ((go_at_call 68;refine(HC.out u _ (LR.out.drewN 1)).mono ?_;rintro e w1 ⟨c',mid,rfl,hcl,hb1⟩;replace hb1:Below wa.heap.size wa w1:=hb1.undrewN;replace hcl:Cl wa.heap.size mid w1 c' f.v:=hcl;have s0:=(hb1.cell (p:=⟨w.heap.size+2,4,none⟩) LK.out.b2.lt).trans r3;have s6:=(hb1.cell (p:=⟨ga,0,none⟩) LB.out.lt).trans f0;have s1:=(hb1.cell (p:=⟨ga,1,none⟩) LB.out.lt).trans f1;have s2:=(hb1.cell (p:=⟨ga,2,none⟩) LB.out.lt).trans f2;have s3:=(hb1.cell (p:=⟨ga,3,none⟩) LB.out.lt).trans f3;have s4:=(hb1.cell (p:=⟨ga,4,none⟩) LB.out.lt).trans f4;have s5:=(hb1.cell (p:=⟨ga,5,none⟩) LB.out.lt).trans f5;have row:Row w1 wc.heap.size 75 (dn*6):=(LK.out.step hb1).row;have z:=row.frozen;obtain⟨o0,p0⟩:=row.cell (i:=i*6) (by omega);obtain⟨o1,p1⟩:=row.cell (i:=i*6+1) (by omega);obtain⟨o2,p2⟩:=row.cell (i:=i*6+2) (by omega);obtain⟨o3,p3⟩:=row.cell (i:=i*6+3) (by omega);obtain⟨o4,p4⟩:=row.cell (i:=i*6+4) (by omega);obtain⟨o5,p5⟩:=row.cell (i:=i*6+5) (by omega);have LC:=qD hcl;have LX:=qD (LK.out.step hb1);clear hcl hb1 row))
      clear s0 s1 s2 s3 s4 s5 s6 p0 p1 p2 p3 p4 p5 z f0 f1 f2 f3 f4 f5 r3
      go_wp2_with fail
      go_roundw
      case rel=>exact⟨i+1,by omega,by go_num,LX.out.next hlt HY.out (LC.out.rv.mono fun q hq=>by have:=LK.out.row.lt;omega)⟩
      case measure=>simp[intOf];omega
     ·obtain rfl:i=dn:=by omega
      go_wp2_with fail
      go_meet
      exact⟨_,wc.heap.size,CE.of_cd J2.out HO.out (by have:=HDL.out;omega) J.out.l0 hd0⟩
   ·have hz:dn=0:=by omega
    subst hz
    clear hmd
    have hd:decide (0<0)=false:=by decide
    rw[hd]
    clear hd
    go_wp2_with fail
    go_meet
    exact⟨_,wc.heap.size,CE.of_cst J.out HO.out⟩
  case rest=>
   obtain⟨r,mid,I⟩:=hcut
   have J3:=qD I
   obtain⟨a0,a1,a2,a3,a4⟩:=VAt.of_blk I.b2
   obtain⟨b0,b1,b2,b3,b4⟩:=VAt.of_blk I.b1
   have z:=I.b1.frozen
   clear I e4 hmd
   go_wp2_with fail
   have q:=VAt.of_blk (J3.out.b1.putV r)
   refine bodyPost_ret (results_val rfl _ _ _ rfl _ r q) rfl ?_
   exact CE.done J3.out
theorem ordV:Ordered (fun p q:PV=>cmpV p.2 q.2):=⟨fun _ _=>cmpV_anti _ _,fun _ _ _=>cmpV_tr _ _ _⟩
def StV(l m:List Val):Prop:=∃S,Sorted cmpV (tagFrom 0 l) S∧S.map Prod.fst=m
theorem tag_val(l:List PV):∀n,(tagFrom n l).map (fun p=>(p.1.2,p.2))=tagFrom n (l.map Prod.snd):=by
 induction l with
 | nil=>intro n;rfl
 | cons x r ih=>intro n;simp[tagFrom,ih]
theorem Sorted.toVal{L S:List (PV×Nat)}(h:Sorted (fun p q:PV=>cmpV p.2 q.2) L S):Sorted cmpV (L.map fun p=>(p.1.2,p.2)) (S.map fun p=>(p.1.2,p.2)):=by
 refine⟨h.perm.map _,?_⟩
 rw[List.pairwise_map]
 exact h.ord
theorem findFrom_range(name:ByteArray)(d:List Fld):∀i:Nat,findFrom name d i=-1∨∃j:Nat,findFrom name d i=(i+j:Nat)∧j<d.length:=by
 induction d with
 | nil=>intro i;exact .inl rfl
 | cons f r ih=>
  intro i
  simp only[findFrom]
  split
  ·exact .inr ⟨0,by simp,by simp⟩
  ·rcases ih (i+1) with h|⟨j,h1,h2⟩
   ·exact .inl h
   ·exact .inr ⟨j+1,by rw[h1];congr 1;omega,by simp;omega⟩
theorem findI_range(x:Val)(name:ByteArray):findI x name=-1∨∃j:Nat,findI x name=j∧∃f,x.d[j]?=some f:=by
 unfold findI
 split
 ·rcases findFrom_range name x.d 0 with h|⟨j,h1,h2⟩
  ·exact .inl h
  ·exact .inr ⟨j,by rw[h1];simp,_,List.getElem?_eq_getElem h2⟩
 ·exact .inl rfl
def getV(x:Val)(name:ByteArray):Option Val:=if 0≤findI x name then(x.d[(findI x name).toNat]?).map Fld.v else none
theorem getV_none{x:Val}{name:ByteArray}(h:findI x name=-1):getV x name=none:=by simp[getV,h]
theorem getV_some{x:Val}{name:ByteArray}{j:Nat}{f:Fld}(h:findI x name=j)(hf:x.d[j]?=some f):getV x name=some f.v:=by
 simp[getV,h,hf]
theorem results_val_ok{fn:Func}{p u:Tmp}(h:fn.results=#[.cell p 45,.tmp u])(tmps:Array Value)(g1 off:Nat)(h1:tmps.getD p undef=.pointer (some ⟨g1,off,none⟩))(e:Value)(h2:tmps.getD u undef=e)(W:World)(v:VC)(q:VAt W g1 off v):(results fn tmps).run Tryz.prog W=.ok (.tuple #[v.val,e]) W:=by
 obtain⟨q0,q1,q2,q3,q4⟩:=q
 rw[results_cell_tmp h,h1,h2]
 simp[asAddr,go_sem,q0,q1,q2,q3,q4]
def GetOk(x:Val)(name:ByteArray)(w:World)(e:Ending)(w':World):Prop:=
 ∃(c:VC),e=.returned (.tuple #[c.val,.bool (getV x name).isSome])∧RV (fun b=>w.heap.size≤b) w' c ((getV x name).getD Val.zero)∧Below w.heap.size w w'
theorem get_any(x:Val)(c:VC)(name:ByteArray)(w:World)(h:RW w c x):
 Calls Tryz.prog 44 #[c.val,.string name] w (GetOk x name w):=by
 have H:=qD h
 clear h
 go_enter Tryz.func44,Tryz.ntmps44
 go_wp2_with fail
 refine(find_any x c name _ ((H.out.alloc _).alloc _)).mono ?_
 rintro e w1 ⟨rfl,hb⟩
 have B0:Blk w1 w.heap.size 45 c.arr:=((Blk.new_at rfl).alloc _).step hb
 have B1:Blk w1 (w.heap.size+1) 45 VC.zero.arr:=(Blk.new_at (by simp)).step hb
 have B2:Below w.heap.size w w1:=(((Below.refl _ _).alloc (qL) _).alloc (by simp) _).trans (hb.mono (by simp;omega))
 clear hb
 have J0:=qD B0
 have J1:=qD B1
 have J2:=qD B2
 obtain⟨b0,b1,b2,b3,b4⟩:=VAt.of_blk B1
 have e4:=B0.cell 4
 have z:=B1.frozen
 simp at e4
 clear B0 B1 B2
 rcases findI_range x name with hf|⟨j,hf,f,hj⟩
 ·have HG:=qD (getV_none hf)
  rw[hf]
  clear hf
  go_wp2_with fail
  have q:=VAt.of_blk (J1.out.putV VC.zero)
  refine bodyPost_ret (results_val_ok rfl _ _ _ rfl _ rfl _ VC.zero q) rfl ?_
  refine⟨VC.zero,?_,?_,below_setV J2.out (by omega) 0 VC.zero⟩
  ·rw[HG.out];rfl
  ·rw[HG.out];exact RV.zero
 ·have HG:=qD (getV_some hf hj)
  rw[hf]
  clear hf
  have ho:=H.out.open
  have hjlt:j<c.dn:=by have:=(List.getElem?_eq_some_iff.1 hj).1;have:=ho.dn;omega
  have hdz:c.dn≤140737488355328:=by have:=ho.dsz;unfold reach at this;omega
  obtain⟨b,off,hDA,_,hel⟩:=ho.da (by omega)
  obtain⟨_,_,u,hu,hr⟩:=hel j f hj
  rw[hDA] at e4
  obtain⟨u0,u1,u2,u3,u4⟩:=hu.keep (J2.out.block b hu.lt)
  have HR:=qD (hr.lt.step' J2.out)
  clear ho hel hr hu hDA hj
  go_wp2_with fail
  have hlt:w.heap.size+1<w1.heap.size:=J1.out.lt
  refine(clone_any f.v u _ HR.out).mono ?_
  rintro e w2 ⟨c',mid,rfl,hcl,hb⟩
  have K1:=J1.out.step hb
  have K2:=J2.out.step' hb
  have LC:=qD hcl
  clear b0 b1 b2 b3 b4 z e4 u0 u1 u2 u3 u4 J0 J1 J2 hcl hb HR
  obtain⟨b0,b1,b2,b3,b4⟩:=VAt.of_blk K1
  have z:=K1.frozen
  have L1:=qD K1
  have L2:=qD K2
  clear K1 K2
  go_wp2_with fail
  have q:=VAt.of_blk (L1.out.putV c')
  refine bodyPost_ret (results_val_ok rfl _ _ _ rfl _ rfl _ c' q) rfl ?_
  refine⟨c',?_,?_,below_setV L2.out (by omega) 0 c'⟩
  ·rw[HG.out];rfl
  ·rw[HG.out]
   exact((LC.out.keep (w':=setV w2 (w.heap.size+1) 0 c') fun q hq=>heap_setV (by omega)).rv).mono fun q hq=>by omega
theorem rat_any(x:Val)(c:VC)(name:ByteArray)(w:World)(h:RW w c x):
 Calls Tryz.prog 150 #[c.val,.string name] w fun e w'=>e=.returned (.int .i64 (findI x name))∧Below w.heap.size w w':=by
 have HO:=qD h.open
 clear h
 cases hk:(c.k != 5)
 ·have hn:c.dn≤140737488355328:=by have:=HO.out.dsz;unfold reach at this;omega
  have HE:Hid (findI x name=findFrom name x.d 0):=by
   have:=HO.out.k
   simp at hk
   simp[findI,←this,hk,Hid]
  go_enter Tryz.func150,Tryz.ntmps150
  go_wp2_with fail
  go_loopw [4,5] (fun v4 v5 wr=>∃i:Nat,i≤c.dn∧v4=.int .i64 0∧v5=.int .i64 i∧findFrom name x.d 0=findFrom name (x.d.drop i) i∧Blk wr w.heap.size 45 c.arr∧Below w.heap.size w wr) (fun _ v5 _=>c.dn-(intOf v5).toNat)
  case atStart=>exact⟨0,Nat.zero_le _,rfl,rfl,rfl,Blk.new_at rfl,(Below.refl _ _).alloc (qL) _⟩
  case round=>
   obtain⟨i,hi,rfl,rfl,hall,N1,N2⟩:=hrel
   have e4:=N1.cell 4
   simp at e4
   have HA:=qD hall
   clear hall
   by_cases hlt:i<c.dn
   ·obtain⟨b,off,hDA,_,hel⟩:=HO.out.da (by omega)
    obtain⟨f,hf⟩:∃f,x.d[i]?=some f:=⟨_,List.getElem?_eq_getElem (by have:=HO.out.dn;omega)⟩
    obtain⟨hs,_,_⟩:=hel i f hf
    have hs':=(N2.cell (p:=⟨b,off+i*6,none⟩) (World.block_lt_of_cell? w _ hs)).trans hs
    have e4':=e4
    rw[hDA] at e4
    have HD:=qD (drop_of hf)
    have J1:=qD N1
    have J2:=qD N2
    clear hs hel hf hDA N1 N2 e4'
    cases hq:(f.s.toList==name.toList)
    ·have HF:Hid (findFrom name x.d 0=findFrom name (x.d.drop (i+1)) (i+1)):=by rw[Hid,HA.out,HD.out,findFrom,hq];rfl
     go_wp2_with fail
     go_roundw
     case rel=>exact⟨i+1,by omega,rfl,by go_num,HF.out,J1.out,J2.out⟩
     case measure=>simp[intOf];omega
    ·have HF:Hid (findFrom name x.d 0=(i:Int)):=by rw[Hid,HA.out,HD.out,findFrom,hq];rfl
     go_wp2_with fail
     go_ret
     exact⟨by rw[HE.out,HF.out];rfl,J2.out⟩
   ·have HF:Hid (findFrom name x.d 0=-1):=by rw[Hid,HA.out,List.drop_of_length_le (by have:=HO.out.dn;omega)];rfl
    have J2:=qD N2
    clear N1 N2
    go_wp2_with fail
    go_ret
    exact⟨by rw[HE.out,HF.out];rfl,J2.out⟩
 ·have HE:Hid (findI x name=-1):=by
   have:=HO.out.k
   simp at hk
   simp[findI,←this,hk,Hid]
  go_enter Tryz.func150,Tryz.ntmps150
  go_wp2_with fail
  go_ret
  exact⟨by rw[HE.out];rfl,(Below.refl _ _).alloc (qL) _⟩
def RGetF(F:Nat→Prop)(x:Val)(name:ByteArray)(w:World)(e:Ending)(w':World):Prop:=
 ∃(c:VC),e=.returned (.tuple #[c.val,.bool (getV x name).isSome])∧RV F w' c ((getV x name).getD Val.zero)∧Below w.heap.size w w'
theorem rget_fp{F:Nat→Prop}(x:Val)(c:VC)(name:ByteArray)(w:World)(h:RV F w c x):
 Calls Tryz.prog 137 #[c.val,.string name] w (RGetF F x name w):=by
 have H:=qD h
 clear h
 go_enter Tryz.func137,Tryz.ntmps137
 go_wp2_with fail
 refine(rat_any x c name _ (((H.out.mono fun _ _=>trivial).alloc _).alloc _)).mono ?_
 rintro e w1 ⟨rfl,hb⟩
 have B0:Blk w1 w.heap.size 45 c.arr:=((Blk.new_at rfl).alloc _).step hb
 have B1:Blk w1 (w.heap.size+1) 45 VC.zero.arr:=(Blk.new_at (by simp)).step hb
 have B2:Below w.heap.size w w1:=(((Below.refl _ _).alloc (qL) _).alloc (by simp) _).trans (hb.mono (by simp;omega))
 clear hb
 have J1:=qD B1
 have J2:=qD B2
 obtain⟨b0,b1,b2,b3,b4⟩:=VAt.of_blk B1
 have e4:=B0.cell 4
 have z:=B1.frozen
 simp at e4
 clear B0 B1 B2
 rcases findI_range x name with hf|⟨j,hf,f,hj⟩
 ·have HG:=qD (getV_none hf)
  rw[hf]
  clear hf
  go_wp2_with fail
  have q:=VAt.of_blk (J1.out.putV VC.zero)
  refine bodyPost_ret (results_val_ok rfl _ _ _ rfl _ rfl _ VC.zero q) rfl ?_
  refine⟨VC.zero,?_,?_,below_setV J2.out (by omega) 0 VC.zero⟩
  ·rw[HG.out];rfl
  ·rw[HG.out];exact RV.zero
 ·have HG:=qD (getV_some hf hj)
  rw[hf]
  clear hf
  have ho:=H.out.open
  have hjlt:j<c.dn:=by have:=(List.getElem?_eq_some_iff.1 hj).1;have:=ho.dn;omega
  have hdz:c.dn≤140737488355328:=by have:=ho.dsz;unfold reach at this;omega
  obtain⟨b,off,hDA,_,hel⟩:=ho.da (by omega)
  obtain⟨_,_,u,hu,hr⟩:=hel j f hj
  rw[hDA] at e4
  obtain⟨u0,u1,u2,u3,u4⟩:=hu.keep (J2.out.block b hu.lt)
  have HR:=qD (hr.lt.keepG (G:=fun q=>F q∧q<w.heap.size) (w':=setV w1 (w.heap.size+1) 0 u) fun q hq _=>⟨hq,by rw[heap_setV (by have:=hq.2;omega)];exact J2.out.block q hq.2⟩)
  clear ho hel hr hu hDA hj
  go_wp2_with fail
  have q:=VAt.of_blk (J1.out.putV u)
  refine bodyPost_ret (results_val_ok rfl _ _ _ rfl _ rfl _ u q) rfl ?_
  refine⟨u,?_,?_,below_setV J2.out (by omega) 0 u⟩
  ·rw[HG.out];rfl
  ·rw[HG.out]
   exact HR.out.mono fun _ h=>h.1
theorem flat_at'{α:Type}{rec:α→List Value}{s:Nat}(hs:∀a,(rec a).length=s)(hp:0<s)(xs:List α)(k:Nat)(hk:k<xs.length*s):∃a v,xs[k/s]?=some a∧(rec a)[k%s]?=some v∧(flat rec xs)[k]?=some v:=by
 have h1:k/s<xs.length:=Nat.div_lt_of_lt_mul (by rw[Nat.mul_comm];exact hk)
 have h2:k%s<s:=Nat.mod_lt _ hp
 refine ⟨xs[k / s], (rec xs[k / s])[k % s]'(by rw [hs]; exact h2), List.getElem?_eq_getElem h1, List.getElem?_eq_getElem (by rw [hs]; exact h2), ?_⟩
 have:=flat_get hs (List.getElem?_eq_getElem h1) (List.getElem?_eq_getElem (l:=rec xs[k/s]) (i:=k%s) (by rw[hs];exact h2))
 rw[show k/s*s+k%s=k by rw[Nat.mul_comm];exact Nat.div_add_mod k s] at this
 exact this
theorem gr_cell{w3 w4:World}{o:Obj}{row:Option Nat}(hg:(w3.alloc o).grownBy w4 row){p:Addr}{v:Value}(h:w3.cell? p=some v)(hne:row≠some p.block):w4.cell? p=some v:=by
 have hlt:=World.block_lt_of_cell? w3 p h
 rw[World.cell?_of_block (w:=w3.alloc o) (hg.block p.block (by simp;omega) (fun e=>hne e.symm)),World.cell?_alloc_lt w3 o p hlt]
 exact h
theorem own_keep{w w':World}{base:Nat}{e:TypeId}{size n:Nat}{v:Value}{xs:List Value}(h:w.ownsRow base e size v n xs)(hk:∀g,v.ownBlock=some g→w'.heap[g]?=w.heap[g]?):w'.ownsRow base e size v n xs:=by
 refine⟨h.1,?_⟩
 rcases h.2 with h2|⟨g,cap,cur,rfl,hg,hh,hr⟩
 ·exact .inl h2
 ·exact .inr ⟨g,cap,cur,rfl,hg,(hk g rfl).trans hh,hr⟩
structure Ch where
 lo:ByteArray
 hi:ByteArray
 sh:Int
 ver:Int
 ju:Bool
def recC(c:Ch):List Value:=[.string c.lo,.string c.hi,.int .i64 c.sh,.int .i64 c.ver,.bool c.ju]
abbrev aggC(c:Ch):Value:=.agg #[.string c.lo,.string c.hi,.int .i64 c.sh,.int .i64 c.ver,.bool c.ju]
def Ch.zero:Ch:=⟨ByteArray.empty,ByteArray.empty,0,0,false⟩
theorem recC_length(c:Ch):(recC c).length=5:=rfl
theorem recC_one(c:Ch):∀u∈recC c,u.oneCell'=true:=by
 intro u hu
 simp only[recC,List.mem_cons,List.not_mem_nil,or_false] at hu
 rcases hu with rfl|rfl|rfl|rfl|rfl<;>rfl
def recT(s:ByteArray):List Value:=[.string s]
theorem recT_length(s:ByteArray):(recT s).length=1:=rfl
theorem recT_one(s:ByteArray):∀u∈recT s,u.oneCell'=true:=by
 intro u hu
 simp only[recT,List.mem_cons,List.not_mem_nil,or_false] at hu
 subst hu
 rfl
structure OC where
 A:Option Addr
 n:Nat
 c:Nat
 d:Bool
def recO(o:OC):List Value:=[.slice o.A o.n o.c,.bool o.d]
abbrev aggO(o:OC):Value:=.agg #[.slice o.A o.n o.c,.bool o.d]
def OC.zero:OC:=⟨none,0,0,false⟩
theorem recO_length(c:OC):(recO c).length=2:=rfl
theorem recO_one(c:OC):∀u∈recO c,u.oneCell'=true:=by
 intro u hu
 simp only[recO,List.mem_cons,List.not_mem_nil,or_false] at hu
 rcases hu with rfl|rfl<;>rfl
structure Od where
 p:List ByteArray
 d:Bool
structure Ro where
 sp:ByteArray
 ks:List Od
 ha:Bool
 ep:Int
 ver:Int
 cs:List Ch
def Ro.zero:Ro:=⟨ByteArray.empty,[],false,0,0,[]⟩
structure ST(w:World)(A:Option Addr)(n c:Nat)(l:List ByteArray):Prop where
 sr:SR 1 recT w A n c l
 sz:n*16≤reach
 el:∀s∈l,s.size≤reach
theorem ST.step{w w':World}{A:Option Addr}{n c:Nat}{l:List ByteArray}(h:ST w A n c l)(hb:Below w.heap.size w w'):ST w' A n c l:=⟨h.sr.step hb,h.sz,h.el⟩
structure OR(w:World)(o:OC)(q:Od):Prop where
 d:o.d=q.d
 st:ST w o.A o.n o.c q.p
theorem OR.step{w w':World}{o:OC}{q:Od}(h:OR w o q)(hb:Below w.heap.size w w'):OR w' o q:=⟨h.d,h.st.step hb⟩
structure KO(w:World)(A:Option Addr)(n c:Nat)(os:List OC)(ks:List Od):Prop where
 sr:SR 2 recO w A n c os
 sz:n*32≤reach
 ln:os.length=ks.length
 el:∀(i:Nat) (o:OC) (q:Od),os[i]?=some o→ks[i]?=some q→OR w o q
theorem KO.step{w w':World}{A:Option Addr}{n c:Nat}{os:List OC}{ks:List Od}(h:KO w A n c os ks)(hb:Below w.heap.size w w'):KO w' A n c os ks:=⟨h.sr.step hb,h.sz,h.ln,fun i o q h1 h2=>(h.el i o q h1 h2).step hb⟩
def KS(w:World)(A:Option Addr)(n c:Nat)(ks:List Od):Prop:=∃os,KO w A n c os ks
theorem KS.step{w w':World}{A:Option Addr}{n c:Nat}{ks:List Od}(h:KS w A n c ks)(hb:Below w.heap.size w w'):KS w' A n c ks:=by obtain⟨os,h⟩:=h;exact⟨os,h.step hb⟩
theorem KS.nil{w:World}{A:Option Addr}{c:Nat}:KS w A 0 c []:=⟨[],SR.nil,by show 0*32≤reach;decide,rfl,fun i o q h=>by simp at h⟩
theorem KS.ln{w:World}{A:Option Addr}{n c:Nat}{ks:List Od}(h:KS w A n c ks):n=ks.length:=by obtain⟨os,h⟩:=h;rw[h.sr.ln,h.ln]
structure CS(w:World)(A:Option Addr)(n c:Nat)(l:List Ch):Prop where
 sr:SR 5 recC w A n c l
 sz:n*56≤reach
theorem CS.step{w w':World}{A:Option Addr}{n c:Nat}{l:List Ch}(h:CS w A n c l)(hb:Below w.heap.size w w'):CS w' A n c l:=⟨h.sr.step hb,h.sz⟩
theorem CS.nil{w:World}{A:Option Addr}{c:Nat}:CS w A 0 c []:=⟨SR.nil,by show 0*56≤reach;decide⟩
theorem CS.ln{w:World}{A:Option Addr}{n c:Nat}{l:List Ch}(h:CS w A n c l):n=l.length:=h.sr.ln
structure RA where
 KA:Option Addr
 kn:Nat
 kc:Nat
 CA:Option Addr
 cn:Nat
 cc:Nat
def RA.zero:RA:=⟨none,0,0,none,0,0⟩
abbrev rarr(a:RA)(R:Ro):Array Value:=#[.string R.sp,.slice a.KA a.kn a.kc,.bool R.ha,.int .i64 R.ep,.int .i64 R.ver,.slice a.CA a.cn a.cc]
abbrev rval(a:RA)(R:Ro):Value:=.agg (rarr a R)
structure RR(w:World)(a:RA)(R:Ro):Prop where
 sp:R.sp.size≤reach
 ks:KS w a.KA a.kn a.kc R.ks
 cs:CS w a.CA a.cn a.cc R.cs
theorem RR.step{w w':World}{a:RA}{R:Ro}(h:RR w a R)(hb:Below w.heap.size w w'):RR w' a R:=⟨h.sp,h.ks.step hb,h.cs.step hb⟩
theorem RR.alloc{w:World}{a:RA}{R:Ro}(h:RR w a R)(o:Obj):RR (w.alloc o) a R:=h.step ((Below.refl _ _).alloc (qL) o)
theorem RR.zero{w:World}:RR w RA.zero Ro.zero:=⟨by show 0≤reach;decide,KS.nil,CS.nil⟩
theorem SR.at5{w:World}{A:Option Addr}{n c:Nat}{l:List Ch}(h:SR 5 recC w A n c l){i:Nat}(hi:i<n):∃b off x,A=some ⟨b,off,none⟩∧b<w.heap.size∧l[i]?=some x∧
 w.cell? ⟨b,off+i*5,none⟩=some (.string x.lo)∧w.cell? ⟨b,off+i*5+1,none⟩=some (.string x.hi)∧w.cell? ⟨b,off+i*5+2,none⟩=some (.int .i64 x.sh)∧w.cell? ⟨b,off+i*5+3,none⟩=some (.int .i64 x.ver)∧w.cell? ⟨b,off+i*5+4,none⟩=some (.bool x.ju):=by
 obtain⟨b,off,e,hb,hc⟩:=h.el (by omega)
 have hl:i<l.length:=by have:=h.ln;omega
 have h1:=List.getElem?_eq_getElem hl
 exact⟨b,off,l[i],e,hb,h1,hc i _ h1 0 _ rfl,hc i _ h1 1 _ rfl,hc i _ h1 2 _ rfl,hc i _ h1 3 _ rfl,hc i _ h1 4 _ rfl⟩
theorem SR.at2{w:World}{A:Option Addr}{n c:Nat}{l:List OC}(h:SR 2 recO w A n c l){i:Nat}(hi:i<n):∃b off x,A=some ⟨b,off,none⟩∧b<w.heap.size∧l[i]?=some x∧
 w.cell? ⟨b,off+i*2,none⟩=some (.slice x.A x.n x.c)∧w.cell? ⟨b,off+i*2+1,none⟩=some (.bool x.d):=by
 obtain⟨b,off,e,hb,hc⟩:=h.el (by omega)
 have hl:i<l.length:=by have:=h.ln;omega
 have h1:=List.getElem?_eq_getElem hl
 exact⟨b,off,l[i],e,hb,h1,hc i _ h1 0 _ rfl,hc i _ h1 1 _ rfl⟩
theorem SR.at1{w:World}{A:Option Addr}{n c:Nat}{l:List ByteArray}(h:SR 1 recT w A n c l){i:Nat}(hi:i<n):∃b off x,A=some ⟨b,off,none⟩∧b<w.heap.size∧l[i]?=some x∧
 w.cell? ⟨b,off+i,none⟩=some (.string x):=by
 obtain⟨b,off,e,hb,hc⟩:=h.el (by omega)
 have hl:i<l.length:=by have:=h.ln;omega
 have h1:=List.getElem?_eq_getElem hl
 exact⟨b,off,l[i],e,hb,h1,by simpa using hc i _ h1 0 _ rfl⟩
theorem info_chunk:(Tryz.prog.info? 81).map (fun i=>(i.zero,i.size,i.bytes))=some (some (aggC Ch.zero),5,56):=by kernel_rfl
theorem info_order:(Tryz.prog.info? 93).map (fun i=>(i.zero,i.size,i.bytes))=some (some (aggO OC.zero),2,32):=by kernel_rfl
theorem info_string:(Tryz.prog.info? 9).map (fun i=>(i.zero,i.size,i.bytes))=some (some (.string ByteArray.empty),1,16):=by kernel_rfl
theorem SR.reads{α:Type}{rec:α→List Value}{s:Nat}(hs:∀a,(rec a).length=s)(hp:0<s){w:World}{A:Option Addr}{n c:Nat}{xs:List α}(h:SR s rec w A n c xs):Reads w w.heap.size s A n (flat rec xs):=by
 refine⟨by rw[flat_length hs,h.ln],fun hn=>?_⟩
 obtain⟨b,off,e,hb,hel⟩:=h.el hn
 subst e
 refine⟨_,rfl,hb,fun j u hu=>?_⟩
 have hj:=(List.getElem?_eq_some_iff.1 hu).1
 rw[flat_length hs] at hj
 obtain⟨a,v,g1,g2,g3⟩:=flat_at' hs hp xs j hj
 have:=hel (j/s) a g1 (j%s) v g2
 rw[addr_add]
 rw[g3] at hu
 cases hu
 have hdm:=Nat.div_add_mod j s
 rw[Nat.mul_comm] at hdm
 rw[show off+j=off+j/s*s+j%s by omega]
 exact this
theorem flat_one{α:Type}{rec:α→List Value}(h1:∀a,∀u∈rec a,u.oneCell'=true)(xs:List α):∀u∈flat rec xs,u.oneCell'=true:=by
 intro u hu
 obtain⟨p,_,hp⟩:=List.mem_flatMap.1 hu
 exact h1 p u hp
section
variable {α:Type}
def idxFrom(p:α→Bool):List α→Nat→Int
 | [],_=>-1
 | c::r,i=>if p c then(i:Int) else idxFrom p r (i+1)
def idxI(p:α→Bool)(l:List α):Int:=idxFrom p l 0
theorem idxFrom_range(p:α→Bool):∀(l:List α) (k:Nat),(idxFrom p l k=-1∧∀c∈l,p c=false)∨∃(i:Nat) (c:α),idxFrom p l k=(k+i:Nat)∧l[i]?=some c∧p c=true∧∀j,j<i→∀d,l[j]?=some d→p d=false:=by
 intro l
 induction l with
 | nil=>intro k;exact .inl ⟨rfl,fun _ h=>by simp at h⟩
 | cons c r ih=>
  intro k
  cases hc:p c
  ·rw[idxFrom,hc,if_neg (by simp)]
   rcases ih (k+1) with⟨h1,h2⟩|⟨i,d,h1,h2,h3,h4⟩
   ·refine .inl ⟨h1,fun x hx=>?_⟩
    rcases List.mem_cons.1 hx with rfl|hx
    ·exact hc
    ·exact h2 x hx
   ·refine .inr ⟨i+1,d,by rw[h1];omega,by simpa using h2,h3,fun j hj e he=>?_⟩
    cases j with
    | zero=>simp at he;subst he;exact hc
    | succ j=>exact h4 j (by omega) e (by simpa using he)
  ·rw[idxFrom,hc,if_pos rfl]
   exact .inr ⟨0,c,rfl,rfl,hc,fun j hj=>absurd hj (by omega)⟩
theorem idxI_range(p:α→Bool)(l:List α):(idxI p l=-1∧∀c∈l,p c=false)∨∃(i:Nat) (c:α),idxI p l=(i:Nat)∧l[i]?=some c∧p c=true∧∀j,j<i→∀d,l[j]?=some d→p d=false:=by
 rcases idxFrom_range p l 0 with h|⟨i,c,h1,h⟩
 ·exact .inl h
 ·exact .inr ⟨i,c,by rw[idxI,h1,Nat.zero_add],h⟩
def repl(l:List α)(at_ n:Nat)(new:List α):List α:=l.take at_++new++l.drop (at_+n)
theorem set_repl{l:List α}{i:Nat}(h:i<l.length)(x:α):l.set i x=repl l i 1 [x]:=by
 rw[List.set_eq_take_append_cons_drop,if_pos h,repl]
 simp
end
def begB(key:ByteArray)(c:Ch):Bool:=c.lo.toList==key.toList
def inB(key:ByteArray)(c:Ch):Bool:=!(Op.bytesLess key.toList c.lo.toList)&&(c.hi.toList==[]||Op.bytesLess key.toList c.hi.toList)
def shB(s:Int)(c:Ch):Bool:=c.sh==s
def pathB(p:List ByteArray):Bool:=decide (1≤p.length)&&decide (p.length≤16)&&p.all nameB
def sameP:List ByteArray→List ByteArray→Bool
 | [],[]=>true
 | a::r,b::s=>(a.toList==b.toList)&&sameP r s
 | _,_=>false
def ordL:List Od→List Od→Int
 | _,[]=>0
 | done,o::r=>if pathB o.p=false then 10 else if done.any (fun e=>sameP e.p o.p) then 12 else ordL (done++[o]) r
def ordE(ks:List Od):Int:=if 8<ks.length then 2 else ordL [] ks
def keyE(ks:List Od)(ha:Bool):Int:=if ordE ks≠0 then ordE ks else if ks.length=0∨(ha=true∧1<ks.length) then 11 else if ks.any (·.d) then 11 else 0
def badC(v:Int)(c:Ch):Bool:=decide (c.sh<0)||decide (8≤c.sh)||decide (c.ver<1)||decide (v<c.ver)
def linkB:List Ch→Bool
 | []=>true
 | [_]=>true
 | a::b::r=>(b.lo.toList==a.hi.toList)&&!(Op.bytesLess b.lo.toList a.lo.toList||b.lo.toList==a.lo.toList)&&linkB (b::r)
def endsB(l:List Ch):Bool:=match l with
 | []=>false
 | a::r=>(a.lo.toList==[])&&(((a::r).getLast?.map (·.hi.toList))==some [])
def routE(R:Ro):Int:=
 if nameB R.sp=false then 9 else if keyE R.ks R.ha≠0 then keyE R.ks R.ha else if 64<R.cs.length then 2 else if R.ep<1∨R.ver<1 then 1
 else if R.cs.any (badC R.ver) then 1 else if endsB R.cs=false then 4 else if linkB R.cs=false then 4 else 0
def nx(v:Int):Int:=wrap64 (v+1)
def splitR(R:Ro)(key:ByteArray):Ro×Int:=
 if key.toList=[]∨0≤idxI (begB key) R.cs∨idxI (inB key) R.cs<0 then(Ro.zero,1)
 else if 64≤R.cs.length then(Ro.zero,2)
 else match R.cs[(idxI (inB key) R.cs).toNat]? with
  | none=>(Ro.zero,1)
  | some c=>if c.ju then(Ro.zero,23) else(⟨R.sp,R.ks,R.ha,R.ep,nx R.ver,repl R.cs (idxI (inB key) R.cs).toNat 1 [⟨c.lo,key,c.sh,nx R.ver,c.ju⟩,⟨key,c.hi,c.sh,nx R.ver,c.ju⟩]⟩,0)
def touch(l:List Ch)(s v:Int):List Ch:=
 if idxI (shB s) l<0 then l else match l[(idxI (shB s) l).toNat]? with
  | none=>l
  | some c=>l.set (idxI (shB s) l).toNat ⟨c.lo,c.hi,c.sh,v,c.ju⟩
def giveR(R:Ro)(key:ByteArray)(z:Int):Ro×Int:=
 if idxI (begB key) R.cs<0 then(Ro.zero,15)
 else if z<0∨8≤z then(Ro.zero,1)
 else match R.cs[(idxI (begB key) R.cs).toNat]? with
  | none=>(Ro.zero,15)
  | some c=>if c.sh=z∨c.ju=true then(Ro.zero,23) else(⟨R.sp,R.ks,R.ha,R.ep,nx R.ver,touch (repl R.cs (idxI (begB key) R.cs).toNat 1 [⟨c.lo,c.hi,z,nx R.ver,c.ju⟩]) c.sh (nx R.ver)⟩,0)
def RouOk(r:Ro×Int)(w:World)(e:Ending)(w':World):Prop:=
 ∃a:RA,e=.returned (.tuple #[rval a r.1,.int .i64 r.2])∧RR w' a r.1∧Below w.heap.size w w'
theorem idxFrom_at{α:Type}{p:α→Bool}{l:List α}{i:Nat}{x:α}(h:l[i]?=some x):idxFrom p (l.drop i) i=if p x then(i:Int) else idxFrom p (l.drop (i+1)) (i+1):=by rw[drop_of h,idxFrom]
theorem idxFrom_end{α:Type}{p:α→Bool}{l:List α}{i:Nat}(h:l.length≤i):idxFrom p (l.drop i) i=-1:=by rw[List.drop_of_length_le h,idxFrom]
def nullV:Val:=.mk 2 0 ByteArray.empty [] []
def nullC:VC:=⟨2,0,ByteArray.empty,none,0,0,none,0,0⟩
theorem rv_null{F:Nat→Prop}{w:World}:RV F w nullC nullV:=
 RVs.shut ⟨rfl,rfl,rfl,by decide,rfl,qL,by decide,fun h=>absurd h (by decide),rfl,qL,by decide,fun h=>absurd h (by decide)⟩
def keyAt:Val→List ByteArray→Option Val
 | x,[]=>if x.k=6 then none else some x
 | x,s::r=>if x.k=6 then none else match getV x s with
  | none=>some nullV
  | some y=>keyAt y r
theorem keyAt_list{x:Val}(h:x.k=6)(l:List ByteArray):keyAt x l=none:=by cases l<;>rw[keyAt,if_pos h]
theorem keyAt_end{x:Val}(h:x.k≠6):keyAt x []=some x:=by rw[keyAt,if_neg h]
theorem keyAt_none{x:Val}{s:ByteArray}{r:List ByteArray}(h:x.k≠6)(hg:getV x s=none):keyAt x (s::r)=some nullV:=by rw[keyAt,if_neg h,hg]
theorem keyAt_some{x y:Val}{s:ByteArray}{r:List ByteArray}(h:x.k≠6)(hg:getV x s=some y):keyAt x (s::r)=keyAt y r:=by rw[keyAt,if_neg h,hg]
theorem getV_kind{x:Val}(s:ByteArray)(h:x.k≠5):getV x s=none:=by
 refine getV_none ?_
 unfold findI
 rw[if_neg (by simpa using h)]
def AtOk(F:Nat→Prop)(x:Val)(l:List ByteArray)(w:World)(e:Ending)(w':World):Prop:=
 ∃u:VC,e=.returned (.tuple #[u.val,.bool (keyAt x l).isSome])∧(∀y,keyAt x l=some y→RV (fun b=>F b∨w.heap.size≤b) w' u y)∧Below w.heap.size w w'
theorem AtOk.drew{F:Nat→Prop}{x:Val}{l:List ByteArray}{w:World}{e:Ending}{w':World}(h:AtOk F x l w e w'):AtOk F x l w e w'.drew:=by
 obtain⟨u,h1,h2,h3⟩:=h
 exact⟨u,h1,fun y hy=>(h2 y hy).keep fun _ _=>rfl,h3.drew⟩
structure AtI(F:Nat→Prop)(w:World)(u:VC)(y:Val)(wr:World):Prop where
 b1:Blk wr (w.heap.size+1) 45 VC.zero.arr
 b2:Blk wr (w.heap.size+2) 45 nullC.arr
 b3:Blk wr (w.heap.size+3) 45 u.arr
 rv:RV (fun b=>(F b∧b<w.heap.size)∨w.heap.size+4≤b) wr u y
 bel:Below w.heap.size w wr
theorem AtI.step{F:Nat→Prop}{w wr w':World}{u:VC}{y:Val}(h:AtI F w u y wr)(hb:Below wr.heap.size wr w'):AtI F w u y w':=⟨h.b1.step hb,h.b2.step hb,h.b3.step hb,h.rv.step hb,h.bel.step' hb⟩
theorem AtI.start{F:Nat→Prop}{w:World}{c:VC}{x:Val}(h:RV F w c x):AtI F w c x ((((w.alloc (.cells c.arr 45)).alloc (.cells VC.zero.arr 45)).alloc (.cells nullC.arr 45)).alloc (.cells c.arr 45)):=by
 have h1:Below w.heap.size w ((((w.alloc (.cells c.arr 45)).alloc (.cells VC.zero.arr 45)).alloc (.cells nullC.arr 45)).alloc (.cells c.arr 45)):=((((Below.refl _ _).alloc (qL) _).alloc (by simp) _).alloc (by simp;omega) _).alloc (by simp;omega) _
 exact⟨((Blk.new_at (by simp)).alloc _).alloc _,(Blk.new_at (by simp)).alloc _,Blk.new_at (by simp),h.lt.keepG fun b hb hl=>⟨.inl hb,h1.block b hb.2⟩,h1⟩
theorem at_end{F:Nat→Prop}{w wr w':World}{u:VC}{y x:Val}{l:List ByteArray}{e:Ending}(h:AtI F w u y wr)(c':VC)(o:Option Val)(ho:keyAt x l=o)(b:Bool)(hb:b=o.isSome)(he:e=.returned (.tuple #[c'.val,.bool b]))(hw:w'=setV wr (w.heap.size+1) 0 c')(hr:∀z,o=some z→RV (fun b=>F b∨w.heap.size≤b) (setV wr (w.heap.size+1) 0 c') c' z):AtOk F x l w e w':=by
 subst ho
 subst hb
 subst he
 subst hw
 exact⟨c',rfl,hr,below_setV h.bel (by omega) 0 c'⟩
theorem AtI.put{F:Nat→Prop}{w wr:World}{u c':VC}{y z:Val}(h:AtI F w u y wr)(hr:RV (fun b=>w.heap.size+4≤b) wr c' z):AtI F w c' z (setV wr (w.heap.size+3) 0 c'):=
 ⟨h.b1.farV (by omega) 0 c',h.b2.farV (by omega) 0 c',h.b3.putV c',hr.keepG fun b hb _=>⟨.inr hb,heap_setV (by omega)⟩,below_setV h.bel (by omega) 0 c'⟩
theorem AtI.rvput{F:Nat→Prop}{w wr:World}{u:VC}{y:Val}(h:AtI F w u y wr):RV (fun b=>F b∨w.heap.size≤b) (setV wr (w.heap.size+1) 0 u) u y:=
 h.rv.keepG fun b hb _=>⟨hb.elim (fun q=>.inl q.1) (fun q=>.inr (by omega)),heap_setV (hb.elim (fun q=>by have:=q.2;omega) (fun q=>by omega))⟩
theorem at_any{F:Nat→Prop}(x:Val)(c:VC)(A:Option Addr)(n cc:Nat)(l:List ByteArray)(w:World)(h:RV F w c x)(hp:ST w A n cc l):
 Calls Tryz.prog 81 #[c.val,.slice A n cc] w (AtOk F x l w):=by
 have HP:=qD hp
 have HL:Hid (n=l.length):=hp.sr.ln
 have hnz:(n:Int)≤8796093022208:=by have:=hp.sz;unfold reach at this;omega
 have I0:=qD (AtI.start h)
 clear h hp
 go_enter Tryz.func81,Tryz.ntmps81
 go_upto_region 4 with fail
 change Code.wp _ _ _ _ ((((w.alloc (.cells c.arr 45)).alloc (.cells VC.zero.arr 45)).alloc (.cells nullC.arr 45)).alloc (.cells c.arr 45))
 generalize ((((w.alloc (.cells c.arr 45)).alloc (.cells VC.zero.arr 45)).alloc (.cells nullC.arr 45)).alloc (.cells c.arr 45))=wa at*
 go_loopw [9,10,11,16,28] (fun _ _ _ u16 _ wr=>∃(i:Nat) (u:VC) (y:Val),i≤n∧u16=.int .i64 i∧keyAt x l=keyAt y (l.drop i)∧AtI F w u y wr) (fun _ _ _ u16 _ _=>n-(intOf u16).toNat)
 case atStart=>exact⟨0,c,x,Nat.zero_le _,rfl,rfl,I0.out⟩
 case round=>
  obtain⟨i,u,y,hi,rfl,hk,J⟩:=hrel
  have HK:=qD hk
  have J2:=qD J
  clear I0 hk J
  have huk:u.k=y.k:=J2.out.rv.open.k
  have HUK:=qD huk
  clear huk
  have z1:=J2.out.b1.frozen
  have z3:=J2.out.b3.frozen
  obtain⟨a0,a1,a2,a3,a4⟩:=VAt.of_blk J2.out.b1
  obtain⟨n0,n1,n2,n3,n4⟩:=VAt.of_blk J2.out.b2
  obtain⟨q0,q1,q2,q3,q4⟩:=VAt.of_blk J2.out.b3
  simp only[Nat.zero_add] at a0 a1 a2 a3 a4 n0 n1 n2 n3 n4 q0 q1 q2 q3 q4
  by_cases hlt:i<n
  ·obtain⟨b,off,s,hA,hbw,hs,hcell⟩:=HP.out.sr.at1 hlt
   subst hA
   have hcell2:=(J2.out.bel.cell (p:=⟨b,off+i,none⟩) hbw).trans hcell
   have HD:Hid (l.drop i=s::l.drop (i+1)):=drop_of hs
   have i0':(0:Int)≤(i:Int):=by omega
   have i1':(i:Int)<(n:Int):=by omega
   clear hs hcell hbw
   by_cases h6:u.k=6
   ·have HR:Hid (keyAt x l=none):=by rw[Hid,HK.out];exact keyAt_list (by rw[←HUK.out];exact h6) _
    have h6b:(u.k==6)=true:=by simpa using h6
    clear h6
    go_wp2_with fail
    have q:=VAt.of_blk (J2.out.b1.putV VC.zero)
    refine bodyPost_ret (results_val_ok rfl _ _ _ rfl _ rfl _ VC.zero q) rfl ?_
    exact at_end J2.out VC.zero none HR.out false rfl rfl rfl (fun y hy=>by cases hy)
   ·have h6b:(u.k==6)=false:=by simpa using h6
    have h6y:y.k≠6:=by rw[←HUK.out];exact h6
    by_cases h5:u.k=5
    ·have h5b:(u.k != 5)=false:=by simp[h5]
     clear h5 h6
     have HG:=qD (get_any y u s wr (J2.out.rv.mono fun _ _=>trivial))
     go_upto_region 10 with fail
     go_wp2_with fail
     refine HG.out.mono ?_
     rintro e w1 ⟨c',rfl,hr,hb⟩
     have J3:=qD (J2.out.step hb)
     have HR1:=qD hr
     have HSZ:Hid (w.heap.size+4≤wr.heap.size):=J2.out.b3.lt
     have HSZ2:Hid (wr.heap.size≤w1.heap.size):=hb.size
     clear a0 a1 a2 a3 a4 n0 n1 n2 n3 n4 q0 q1 q2 q3 q4 z1 z3 hr hb HG
     cases hg:getV y s with
     | none=>
      rw[hg] at HR1
      have HR:Hid (keyAt x l=some nullV):=by rw[Hid,HK.out,HD.out];exact keyAt_none h6y hg
      clear hg
      go_upto_region 11 with fail
      change Code.wp _ _ _ _ (w1.alloc (.cells c'.arr 45))
      have J4:=qD (J3.out.step ((Below.refl w1.heap.size w1).alloc (qL) (Obj.cells c'.arr 45)))
      generalize w1.alloc (.cells c'.arr 45)=w2 at*
      have z1:=J4.out.b1.frozen
      obtain⟨a0,a1,a2,a3,a4⟩:=VAt.of_blk J4.out.b1
      obtain⟨n0,n1,n2,n3,n4⟩:=VAt.of_blk J4.out.b2
      simp only[Nat.zero_add] at a0 a1 a2 a3 a4 n0 n1 n2 n3 n4
      go_wp2_with fail
      have q:=VAt.of_blk (J4.out.b1.putV nullC)
      refine bodyPost_ret (results_val_ok rfl _ _ _ rfl _ rfl _ nullC q) rfl ?_
      exact at_end J4.out nullC (some nullV) HR.out true rfl rfl rfl (fun y hy=>by cases hy;exact rv_null)
     | some z=>
      rw[hg] at HR1
      have HR:Hid (keyAt x l=keyAt z (l.drop (i+1))):=by rw[Hid,HK.out,HD.out];exact keyAt_some h6y hg
      clear hg
      go_upto_region 11 with fail
      change Code.wp _ _ _ _ (w1.alloc (.cells c'.arr 45))
      have J4:=qD (J3.out.step ((Below.refl w1.heap.size w1).alloc (qL) (Obj.cells c'.arr 45)))
      have JC:Hid (Blk (w1.alloc (.cells c'.arr 45)) w1.heap.size 45 c'.arr):=Blk.new_at rfl
      have HR2:=qD (HR1.out.lt.keepG (G:=fun b=>w.heap.size+4≤b) (w':=w1.alloc (.cells c'.arr 45)) fun b hb hl=>⟨Nat.le_trans HSZ.out hb.1,Below.heap_alloc _ _ _ hl⟩)
      have hgl:w.heap.size+3<w1.heap.size:=by have h1:=HSZ.out;have h2:=HSZ2.out;omega
      generalize w1.alloc (.cells c'.arr 45)=w2 at*
      have z3:=J4.out.b3.frozen
      obtain⟨a0,a1,a2,a3,a4⟩:=VAt.of_blk JC.out
      obtain⟨q0,q1,q2,q3,q4⟩:=VAt.of_blk J4.out.b3
      simp only[Nat.zero_add] at a0 a1 a2 a3 a4 q0 q1 q2 q3 q4
      go_wp2_with fail
      go_roundw
      case rel=>exact⟨i+1,c',z,hlt,by go_num,HR.out,J4.out.put HR2.out⟩
      case measure=>simp[intOf];omega
    ·have h5b:(u.k != 5)=true:=by simp[h5]
     have HR:Hid (keyAt x l=some nullV):=by rw[Hid,HK.out,HD.out];exact keyAt_none h6y (getV_kind s (by rw[←HUK.out];exact h5))
     go_wp2_with fail
     have q:=VAt.of_blk (J2.out.b1.putV nullC)
     refine bodyPost_ret (results_val_ok rfl _ _ _ rfl _ rfl _ nullC q) rfl ?_
     exact at_end J2.out nullC (some nullV) HR.out true rfl rfl rfl (fun y hy=>by cases hy;exact rv_null)
  ·obtain rfl:i=n:=by omega
   have hdr:l.drop i=[]:=List.drop_of_length_le (by have:=HL.out;omega)
   by_cases h6:u.k=6
   ·have HR:Hid (keyAt x l=none):=by rw[Hid,HK.out];exact keyAt_list (by rw[←HUK.out];exact h6) _
    have h6b:(u.k != 6)=false:=by simp[h6]
    clear h6
    go_upto_region 15 with fail
    go_region
    all_goals (go_wp2_with fail)
    all_goals
     have q:=VAt.of_blk (J2.out.b1.putV u).drew
     refine bodyPost_ret (results_val_ok rfl _ _ _ rfl _ rfl _ u q) rfl ?_
     exact(at_end J2.out u none HR.out false rfl rfl rfl (fun y hy=>by cases hy)).drew
   ·have HR:Hid (keyAt x l=some y):=by rw[Hid,HK.out,hdr];exact keyAt_end (by rw[←HUK.out];exact h6)
    have h6b:(u.k != 6)=true:=by simp[h6]
    go_upto_region 15 with fail
    go_region
    all_goals (go_wp2_with fail)
    all_goals
     have q:=VAt.of_blk (J2.out.b1.putV u).drew
     refine bodyPost_ret (results_val_ok rfl _ _ _ rfl _ rfl _ u q) rfl ?_
     exact(at_end J2.out u (some y) HR.out true rfl rfl rfl (fun z hz=>by cases hz;exact J2.out.rvput)).drew
theorem take_at{l rest:List Oper}{i:Nat}{o:Oper}(h:l.drop i=o::rest):l.toArray[i]?=some o:=by
 have:=congrArg List.head? h
 rw[List.head?_drop] at this
 simpa using this
theorem rnull_any(w:World):Calls Tryz.prog 138 #[] w fun e w'=>e=.returned nullC.val∧Below w.heap.size w w':=by
 go_enter Tryz.func138,Tryz.ntmps138
 go_wp2_with fail
 exact bodyPost_ret (results_val rfl _ _ _ rfl _ nullC (VAt.of_blk (Blk.new _ _ _))) rfl ⟨rfl,(Below.refl _ _).alloc (qL) _⟩
theorem ST.tail{w:World}{b off n c:Nat}{s:ByteArray}{r:List ByteArray}(h:ST w (some ⟨b,off,none⟩) n c (s::r)):
 ST w (if c=1 then some ⟨b,off,none⟩ else some ⟨b,off+1,none⟩) (n-1) (c-1) r:=by
 have hl:=h.sr.ln
 have hc:=h.sr.lc
 simp only[List.length_cons] at hl
 have hz:=h.sz
 refine⟨⟨by omega,by omega,fun hn=>?_⟩,by omega,fun x hx=>h.el x (by simp[hx])⟩
 obtain⟨b',off',e,hb,hel⟩:=h.sr.el (by omega)
 cases e
 rw[if_neg (by omega)]
 refine⟨b,off+1,rfl,hb,fun i a hi j v hj=>?_⟩
 have:=hel (i+1) a (by simpa using hi) j v hj
 rw[show off+1+i*1+j=off+(i+1)*1+j by omega]
 exact this
def RAtOk(F:Nat→Prop)(x:Val)(l:List ByteArray)(w:World)(e:Ending)(w':World):Prop:=
 ∃u:VC,e=.returned (.tuple #[u.val,.bool (keyAt x l).isSome])∧(∀y,keyAt x l=some y→RV F w' u y)∧Below w.heap.size w w'
def RKvAt(l:List ByteArray):Prop:=∀(F:Nat→Prop) (x:Val) (c:VC) (A:Option Addr) (n cc:Nat) (w:World),(∀b,F b→b<w.heap.size)→RV F w c x→ST w A n cc l→
 Calls Tryz.prog 117 #[c.val,.slice A n cc] w (RAtOk F x l w)
theorem rat_end{F:Nat→Prop}{w wr w':World}{x:Val}{l:List ByteArray}{e:Ending}(c':VC)(o:Option Val)(hbel:Below w.heap.size w wr)(ho:keyAt x l=o)(b:Bool)(hb:b=o.isSome)(he:e=.returned (.tuple #[c'.val,.bool b]))(hw:w'=setV wr (w.heap.size+1) 0 c')(hr:∀z,o=some z→RV F (setV wr (w.heap.size+1) 0 c') c' z):RAtOk F x l w e w':=by
 subst ho
 subst hb
 subst he
 subst hw
 exact⟨c',rfl,hr,below_setV hbel (by omega) 0 c'⟩
theorem rkv_any:∀l,RKvAt l:=by
 intro l
 induction l with
 | nil=>
  intro F x c A n cc w hF h hp
  have hn:n=0:=hp.sr.ln
  subst hn
  have hk:Hid (c.k=x.k):=h.open.k
  have BE:Hid (Below w.heap.size w ((w.alloc (.cells c.arr 45)).alloc (.cells VC.zero.arr 45))):=((Below.refl _ _).alloc (qL) _).alloc (by simp) _
  have B0:Hid (Blk ((w.alloc (.cells c.arr 45)).alloc (.cells VC.zero.arr 45)) w.heap.size 45 c.arr):=(Blk.new_at rfl).alloc _
  have B1:Hid (Blk ((w.alloc (.cells c.arr 45)).alloc (.cells VC.zero.arr 45)) (w.heap.size+1) 45 VC.zero.arr):=Blk.new_at (by simp)
  go_enter Tryz.func117,Tryz.ntmps117
  go_upto_region 1 with fail
  change Code.wp _ _ _ _ ((w.alloc (.cells c.arr 45)).alloc (.cells VC.zero.arr 45))
  have hR:=qD (h.lt.keepG (G:=fun b=>F b∧b<w.heap.size) (w':=((w.alloc (.cells c.arr 45)).alloc (.cells VC.zero.arr 45))) fun b hb hl=>⟨hb,BE.out.block b hb.2⟩)
  generalize ((w.alloc (.cells c.arr 45)).alloc (.cells VC.zero.arr 45))=wa at*
  obtain⟨a0,a1,a2,a3,a4⟩:=VAt.of_blk B0.out
  obtain⟨n0,n1,n2,n3,n4⟩:=VAt.of_blk B1.out
  simp only[Nat.zero_add] at a0 a1 a2 a3 a4 n0 n1 n2 n3 n4
  have z1:=B1.out.frozen
  by_cases h6:c.k=6
  ·have HR:Hid (keyAt x []=none):=keyAt_list (by rw[←hk.out];exact h6) _
   have h6b:(c.k==6)=true:=by simpa using h6
   clear h6 hk h hp
   go_wp2_with fail
   have q:=VAt.of_blk (B1.out.putV VC.zero)
   refine bodyPost_ret (results_val_ok rfl _ _ _ rfl _ rfl _ VC.zero q) rfl ?_
   exact rat_end VC.zero none BE.out HR.out false rfl rfl rfl (fun y hy=>by cases hy)
  ·have HR:Hid (keyAt x []=some x):=keyAt_end (by rw[←hk.out];exact h6)
   have h6b:(c.k==6)=false:=by simpa using h6
   clear h6 hk h hp
   go_wp2_with fail
   have q:=VAt.of_blk (B1.out.putV c)
   refine bodyPost_ret (results_val_ok rfl _ _ _ rfl _ rfl _ c q) rfl ?_
   exact rat_end c (some x) BE.out HR.out true rfl rfl rfl (fun z hz=>by cases hz;exact(hR.out.mono fun b hb=>hb.1).keep fun b hb=>heap_setV (by have:=hF b hb;omega))
 | cons s r ih=>
  intro F x c A n cc w hF h hp
  have hk:Hid (c.k=x.k):=h.open.k
  have BE:Hid (Below w.heap.size w ((w.alloc (.cells c.arr 45)).alloc (.cells VC.zero.arr 45))):=((Below.refl _ _).alloc (qL) _).alloc (by simp) _
  have B0:Hid (Blk ((w.alloc (.cells c.arr 45)).alloc (.cells VC.zero.arr 45)) w.heap.size 45 c.arr):=(Blk.new_at rfl).alloc _
  have B1:Hid (Blk ((w.alloc (.cells c.arr 45)).alloc (.cells VC.zero.arr 45)) (w.heap.size+1) 45 VC.zero.arr):=Blk.new_at (by simp)
  have hln:=hp.sr.ln
  simp only[List.length_cons] at hln
  have hlc:=hp.sr.lc
  have hnz:(n:Int)≤8796093022208:=by have:=hp.sz;unfold reach at this;omega
  obtain⟨b,off,s',rfl,hbw,hs,hcell⟩:=hp.sr.at1 (i:=0) (by omega)
  obtain rfl:s=s':=by simpa using hs
  simp only[Nat.add_zero] at hcell
  have HT:=qD hp.tail
  have HIH:=qD ih
  have HFH:=qD hF
  have cz:(cc:Int)≠0:=by omega
  have HLN:=qD hln
  have i1':(0:Int)<(n:Int):=by omega
  have i2':0<n:=by omega
  have i3':(1:Int)≤(n:Int):=by omega
  have n0b:((n:Int)==0)=false:=by simp;omega
  clear hln
  go_enter Tryz.func117,Tryz.ntmps117
  go_upto_region 1 with fail
  change Code.wp _ _ _ _ ((w.alloc (.cells c.arr 45)).alloc (.cells VC.zero.arr 45))
  have HR0:=qD (h.keep (w':=((w.alloc (.cells c.arr 45)).alloc (.cells VC.zero.arr 45))) fun b hb=>BE.out.block b (hF b hb))
  have hsz:((w.alloc (.cells c.arr 45)).alloc (.cells VC.zero.arr 45)).heap.size=w.heap.size+2:=by simp
  generalize ((w.alloc (.cells c.arr 45)).alloc (.cells VC.zero.arr 45))=wa at*
  obtain⟨a0,a1,a2,a3,a4⟩:=VAt.of_blk B0.out
  obtain⟨n0,n1,n2,n3,n4⟩:=VAt.of_blk B1.out
  simp only[Nat.zero_add] at a0 a1 a2 a3 a4 n0 n1 n2 n3 n4
  have z1:=B1.out.frozen
  by_cases h6:c.k=6
  ·have HR:Hid (keyAt x (s::r)=none):=keyAt_list (by rw[←hk.out];exact h6) _
   have h6b:(c.k==6)=true:=by simpa using h6
   clear h6 hk h hp ih hF
   go_wp2_with fail
   have q:=VAt.of_blk (B1.out.putV VC.zero)
   refine bodyPost_ret (results_val_ok rfl _ _ _ rfl _ rfl _ VC.zero q) rfl ?_
   exact rat_end VC.zero none BE.out HR.out false rfl rfl rfl (fun y hy=>by cases hy)
  have h6y:Hid (x.k≠6):=by unfold Hid;rw[←hk.out];exact h6
  have h6b:(c.k==6)=false:=by simpa using h6
  clear h6 hk h hp ih hF hs
  go_upto_region 5 with fail
  have hcw:=(BE.out.cell (p:=⟨b,off,none⟩) hbw).trans hcell
  have lb0:=B0.out.lt
  have lbb:b<wa.heap.size:=Nat.lt_of_lt_of_le hbw BE.out.size
  have KC:Hid (∀w':World,(∀g,g<wa.heap.size→w'.heap[g]?=wa.heap[g]?)→w'.cell? ⟨w.heap.size,0,none⟩=some (.int .i64 c.k)∧w'.cell? ⟨w.heap.size,1,none⟩=some (.int .i64 c.n)∧w'.cell? ⟨w.heap.size,2,none⟩=some (.string c.t)∧w'.cell? ⟨w.heap.size,3,none⟩=some (.slice c.LA c.ln c.lc)∧w'.cell? ⟨w.heap.size,4,none⟩=some (.slice c.DA c.dn c.dc)∧w'.cell? ⟨b,off,none⟩=some (.string s)):=qD fun w' hk=>by
   have p0:∀o,w'.cell? ⟨w.heap.size,o,none⟩=wa.cell? ⟨w.heap.size,o,none⟩:=fun o=>World.cell?_of_block (w:=wa) (a:=⟨w.heap.size,o,none⟩) (hk _ lb0)
   have p1:∀o,w'.cell? ⟨b,o,none⟩=wa.cell? ⟨b,o,none⟩:=fun o=>World.cell?_of_block (w:=wa) (a:=⟨b,o,none⟩) (hk _ lbb)
   exact⟨(p0 _).trans a0,(p0 _).trans a1,(p0 _).trans a2,(p0 _).trans a3,(p0 _).trans a4,(p1 _).trans hcw⟩
  have HGV:Hid (∀wq,Below wa.heap.size wa wq→Calls Tryz.prog 137 #[c.val,.string s] wq (RGetF F x s wq)):=qD fun wq hq=>rget_fp x c s wq (HR0.out.keep fun b hb=>hq.block b (by have:=HFH.out b hb;omega))
  go_cut [6,7] (fun v6 v7 wx=>∃(g9:Nat) (c9:VC),v6=.pointer (some ⟨g9,0,none⟩)∧v7=.bool (getV x s).isSome∧Blk wx g9 45 c9.arr∧RV F wx c9 ((getV x s).getD Val.zero)∧wa.heap.size≤g9∧Below wa.heap.size wa wx)
  case first=>
   refine wp_region_noPanic ?_
   refine wp_region_held_drew (S:=(fun w'=>w'.cell? ⟨w.heap.size,0,none⟩=some (.int .i64 c.k)∧w'.cell? ⟨w.heap.size,1,none⟩=some (.int .i64 c.n)∧w'.cell? ⟨w.heap.size,2,none⟩=some (.string c.t)∧w'.cell? ⟨w.heap.size,3,none⟩=some (.slice c.LA c.ln c.lc)∧w'.cell? ⟨w.heap.size,4,none⟩=some (.slice c.DA c.dn c.dc)∧w'.cell? ⟨b,off,none⟩=some (.string s))) (by kernel_rfl) ?_ (fun hHeld=>?_)
   ·(try dsimp only);exact KC.out _ (fun g hg=>rfl)
   have B:Hid (Below wa.heap.size wa wa.drew):=qD ((Below.refl wa.heap.size wa).drew)
   generalize wa.drew=W0 at*
   refine rU 0 rfl ?_
   try go_frame
   refine rU 1 rfl ?_
   try go_frame
   refine rU 2 rfl ?_
   try go_frame
   refine rU 3 rfl ?_
   try go_frame
   refine rR [4,8] ?_
   refine rC (fun K hK=>?_) (rC (fun K hK=>?_) rN)
   ·go_simp
    refine(HGV.out _ B.out).mono ?_
    rintro e W1 ⟨c9,rfl,hr,hb⟩
    have R9:=qD hr
    replace B:=qD (B.out.step' hb)
    clear hb hr
    (try go_wp2_with fail)
    clear hHeld
    refine hK.out _ _ ?_ fun hHeld=>?_
    ·(try dsimp only);exact KC.out _ (fun g hg=>B.out.block g hg)
    clear hK K
    try go_frame
    refine rU 5 rfl ?_
    try go_frame
    refine rU 6 rfl ?_
    try go_frame
    refine rU 7 rfl ?_
    try go_frame
    refine rY 8 rfl fun K hK=>?_
    go_simp
    have hg9:wa.heap.size≤W1.heap.size:=B.out.size
    have Q9:Hid (Blk (W1.alloc (.cells VC.zero.arr 45)) W1.heap.size 45 VC.zero.arr):=Blk.new_at rfl
    replace R9:=qD (R9.out.alloc (.cells VC.zero.arr 45))
    replace B:=qD (B.out.alloc B.out.size (Obj.cells VC.zero.arr 45))
    change K _ (W1.alloc (.cells VC.zero.arr 45))
    generalize W1.alloc (.cells VC.zero.arr 45)=W2 at*
    generalize W1.heap.size=g9 at*
    clear hHeld
    refine hK.out _ _ ?_ fun hHeld=>?_
    ·(try dsimp only);exact KC.out _ (fun g hg=>B.out.block g hg)
    clear hK K
    try go_frame
    refine rY 9 rfl fun K hK=>?_
    obtain⟨z0,z1,z2,z3,z4⟩:=VAt.of_blk Q9.out
    simp only[Nat.zero_add] at z0 z1 z2 z3 z4
    have zz:=Q9.out.frozen
    have lq:=Q9.out.lt
    go_simp
    have R9':=qD (R9.out.keep (w':=setV W2 g9 0 c9) fun b hb=>heap_setV (by have:=HFH.out b hb;omega))
    have Q9':=qD (Q9.out.putV c9)
    have B':=qD (below_setV B.out hg9 0 c9)
    clear z0 z1 z2 z3 z4 zz lq R9 Q9 B
    have R9:=R9'
    have Q9:=Q9'
    have B:=B'
    clear R9' Q9' B'
    change K _ (setV W2 g9 0 c9)
    generalize setV W2 g9 0 c9=W3 at*
    clear hHeld
    refine hK.out _ _ ?_ fun hHeld=>?_
    ·(try dsimp only);exact KC.out _ (fun g hg=>B.out.block g hg)
    clear hK K
    try go_frame
    refine rU 10 rfl ?_
    try go_frame
    refine rD ?_ _
    refine NoPanic.normal ?_
    go_wp2_with fail
    go_meet
    exact⟨g9,c9,rfl,rfl,Q9.out,R9.out,by omega,B.out⟩
   ·go_simp
    have hg9:wa.heap.size≤W0.heap.size:=B.out.size
    have Q9:Hid (Blk (W0.alloc (.cells VC.zero.arr 45)) W0.heap.size 45 VC.zero.arr):=Blk.new_at rfl
    replace B:=qD (B.out.alloc B.out.size (Obj.cells VC.zero.arr 45))
    change K _ (W0.alloc (.cells VC.zero.arr 45))
    generalize W0.alloc (.cells VC.zero.arr 45)=W1 at*
    generalize W0.heap.size=g9 at*
    clear hHeld
    refine hK.out _ _ ?_ fun hHeld=>?_
    ·(try dsimp only);exact KC.out _ (fun g hg=>B.out.block g hg)
    clear hK K
    try go_frame
    refine rY 4 rfl fun K hK=>?_
    go_simp
    refine(HGV.out _ B.out).mono ?_
    rintro e W2 ⟨c9,rfl,hr,hb⟩
    have R9:=qD hr
    replace Q9:=qD (Q9.out.step hb)
    replace B:=qD (B.out.step' hb)
    clear hb hr
    (try go_wp2_with fail)
    clear hHeld
    refine hK.out _ _ ?_ fun hHeld=>?_
    ·(try dsimp only);exact KC.out _ (fun g hg=>B.out.block g hg)
    clear hK K
    try go_frame
    refine rU 5 rfl ?_
    try go_frame
    refine rU 6 rfl ?_
    try go_frame
    refine rU 7 rfl ?_
    try go_frame
    refine rY 9 rfl fun K hK=>?_
    obtain⟨z0,z1,z2,z3,z4⟩:=VAt.of_blk Q9.out
    simp only[Nat.zero_add] at z0 z1 z2 z3 z4
    have zz:=Q9.out.frozen
    have lq:=Q9.out.lt
    go_simp
    have R9':=qD (R9.out.keep (w':=setV W2 g9 0 c9) fun b hb=>heap_setV (by have:=HFH.out b hb;omega))
    have Q9':=qD (Q9.out.putV c9)
    have B':=qD (below_setV B.out hg9 0 c9)
    clear z0 z1 z2 z3 z4 zz lq R9 Q9 B
    have R9:=R9'
    have Q9:=Q9'
    have B:=B'
    clear R9' Q9' B'
    change K _ (setV W2 g9 0 c9)
    generalize setV W2 g9 0 c9=W3 at*
    clear hHeld
    refine hK.out _ _ ?_ fun hHeld=>?_
    ·(try dsimp only);exact KC.out _ (fun g hg=>B.out.block g hg)
    clear hK K
    try go_frame
    refine rU 10 rfl ?_
    try go_frame
    refine rD ?_ _
    refine NoPanic.normal ?_
    go_wp2_with fail
    go_meet
    exact⟨g9,c9,rfl,rfl,Q9.out,R9.out,by omega,B.out⟩
  case rest=>
   obtain⟨g9,c9,rfl,rfl,hg9,hr9,hl9,hb9⟩:=hcut
   have BE2:=qD (BE.out.step' hb9)
   have B12:=qD (B1.out.step hb9)
   have G9:=qD hg9
   have GR:=qD hr9
   clear HGV KC a0 a1 a2 a3 a4 n0 n1 n2 n3 n4 hcw B0 B1 BE HR0
   generalize wc=w2 at*
   obtain⟨n0,n1,n2,n3,n4⟩:=VAt.of_blk B12.out
   simp only[Nat.zero_add] at n0 n1 n2 n3 n4
   have z1:=B12.out.frozen
   cases hg:getV x s with
   | none=>
    rw[hg] at GR
    have HR:Hid (keyAt x (s::r)=some nullV):=keyAt_none h6y.out hg
    clear hg hg9 hr9 hb9
    go_wp2_with fail
    refine(rnull_any _).mono ?_
    rintro e w3 ⟨rfl,hb3⟩
    have B13:=qD (B12.out.step hb3)
    have BE3:=qD (BE2.out.step' hb3)
    clear n0 n1 n2 n3 n4 z1 hb3
    obtain⟨n0,n1,n2,n3,n4⟩:=VAt.of_blk B13.out
    simp only[Nat.zero_add] at n0 n1 n2 n3 n4
    have z1:=B13.out.frozen
    go_wp2_with fail
    have q:=VAt.of_blk (B13.out.putV nullC)
    refine bodyPost_ret (results_val_ok rfl _ _ _ rfl _ rfl _ nullC q) rfl ?_
    exact rat_end nullC (some nullV) BE3.out HR.out true rfl rfl rfl (fun y hy=>by cases hy;exact rv_null)
   | some y=>
    rw[hg] at GR
    have HR:Hid (keyAt x (s::r)=keyAt y r):=keyAt_some h6y.out hg
    clear hg hg9 hr9 hb9
    go_upto_region 8 with fail
    obtain⟨g0,g1,g2,g3,g4⟩:=VAt.of_blk G9.out
    simp only[Nat.zero_add] at g0 g1 g2 g3 g4
    have G9L:=qD G9.out.lt
    have hl9':Hid (g9≠w.heap.size+1):=by unfold Hid;omega
    have KC:Hid (∀w':World,w'.heap[g9]?=w2.heap[g9]?→w'.cell? ⟨g9,0,none⟩=some (.int .i64 c9.k)∧w'.cell? ⟨g9,1,none⟩=some (.int .i64 c9.n)∧w'.cell? ⟨g9,2,none⟩=some (.string c9.t)∧w'.cell? ⟨g9,3,none⟩=some (.slice c9.LA c9.ln c9.lc)∧w'.cell? ⟨g9,4,none⟩=some (.slice c9.DA c9.dn c9.dc)):=qD fun w' hk=>by
     have p0:∀o,w'.cell? ⟨g9,o,none⟩=w2.cell? ⟨g9,o,none⟩:=fun o=>World.cell?_of_block (w:=w2) (a:=⟨g9,o,none⟩) hk
     exact⟨(p0 _).trans g0,(p0 _).trans g1,(p0 _).trans g2,(p0 _).trans g3,(p0 _).trans g4⟩
    by_cases hc1:cc=1
    ·subst hc1
     obtain rfl:n=1:=by omega
     have HT2:=HT.out
     rw[if_pos rfl,Nat.sub_self] at HT2
     replace HT2:=qD HT2
     have HRK:=qD fun(wq:World) (hq:Below w2.heap.size w2 wq)=>HIH.out F y c9 _ _ _ wq (fun b hb=>by have h1:=HFH.out b hb;have h2:=BE2.out.size;have h3:=hq.size;omega) (GR.out.step hq) ((HT2.out.step BE2.out).step hq)
     clear HT
     refine wp_region_noPanic ?_
     refine wp_region_held_drew (S:=(fun w'=>w'.cell? ⟨g9,0,none⟩=some (.int .i64 c9.k)∧w'.cell? ⟨g9,1,none⟩=some (.int .i64 c9.n)∧w'.cell? ⟨g9,2,none⟩=some (.string c9.t)∧w'.cell? ⟨g9,3,none⟩=some (.slice c9.LA c9.ln c9.lc)∧w'.cell? ⟨g9,4,none⟩=some (.slice c9.DA c9.dn c9.dc))) (by kernel_rfl) ?_ (fun hHeld=>?_)
     ·(try dsimp only);exact KC.out _ rfl
     have B:Hid (Below w2.heap.size w2 w2.drew):=qD ((Below.refl w2.heap.size w2).drew)
     generalize w2.drew=W0 at*
     refine rU 0 rfl ?_
     try go_frame
     refine rU 1 rfl ?_
     try go_frame
     refine rU 2 rfl ?_
     try go_frame
     refine rY 3 rfl fun K hK=>?_
     go_simp
     refine(HRK.out _ B.out).mono ?_
     rintro e W1 ⟨u9,rfl,hr,hb⟩
     have R9:=qD hr
     replace B:=qD (B.out.step' hb)
     clear hb hr
     (try go_wp2_with fail)
     clear hHeld
     refine hK.out _ _ ?_ fun hHeld=>?_
     ·(try dsimp only);exact KC.out _ (B.out.block _ G9L.out)
     clear hK K
     try go_frame
     refine rU 4 rfl ?_
     try go_frame
     refine rU 5 rfl ?_
     try go_frame
     refine rY 6 rfl fun K hK=>?_
     have B14:=qD (B12.out.step B.out)
     have BE4:=qD (BE2.out.step' B.out)
     obtain⟨z0,z1,z2,z3,z4⟩:=VAt.of_blk B14.out
     simp only[Nat.zero_add] at z0 z1 z2 z3 z4
     have zz:=B14.out.frozen
     go_simp
     refine hK.out _ _ (KC.out _ ((heap_setV hl9'.out).trans (B.out.block _ G9L.out))) (fun hHeld2=>?_)
     clear hHeld
     have hHeld:=hHeld2
     clear hHeld2
     clear hK K z0 z1 z2 z3 z4 zz
     try go_frame
     refine rU 7 rfl ?_
     try go_frame
     refine rD ?_ _
     refine NoPanic.normal ?_
     go_wp2_with fail
     have q:=VAt.of_blk (B14.out.putV u9)
     refine bodyPost_ret (results_val_ok rfl _ _ _ rfl _ rfl _ u9 q) rfl ?_
     exact rat_end u9 (keyAt y r) BE4.out HR.out _ rfl rfl rfl (fun z hz=>(R9.out z hz).keep fun b hb=>heap_setV (by have:=HFH.out b hb;omega))
    ·have HT2:=HT.out
     rw[if_neg hc1] at HT2
     replace HT2:=qD HT2
     have HRK:=qD fun(wq:World) (hq:Below w2.heap.size w2 wq)=>HIH.out F y c9 _ _ _ wq (fun b hb=>by have h1:=HFH.out b hb;have h2:=BE2.out.size;have h3:=hq.size;omega) (GR.out.step hq) ((HT2.out.step BE2.out).step hq)
     clear HT
     refine wp_region_noPanic ?_
     refine wp_region_held_drew (S:=(fun w'=>w'.cell? ⟨g9,0,none⟩=some (.int .i64 c9.k)∧w'.cell? ⟨g9,1,none⟩=some (.int .i64 c9.n)∧w'.cell? ⟨g9,2,none⟩=some (.string c9.t)∧w'.cell? ⟨g9,3,none⟩=some (.slice c9.LA c9.ln c9.lc)∧w'.cell? ⟨g9,4,none⟩=some (.slice c9.DA c9.dn c9.dc))) (by kernel_rfl) ?_ (fun hHeld=>?_)
     ·(try dsimp only);exact KC.out _ rfl
     have B:Hid (Below w2.heap.size w2 w2.drew):=qD ((Below.refl w2.heap.size w2).drew)
     generalize w2.drew=W0 at*
     refine rU 0 rfl ?_
     try go_frame
     refine rU 1 rfl ?_
     try go_frame
     refine rU 2 rfl ?_
     try go_frame
     refine rY 3 rfl fun K hK=>?_
     go_simp
     refine(HRK.out _ B.out).mono ?_
     rintro e W1 ⟨u9,rfl,hr,hb⟩
     have R9:=qD hr
     replace B:=qD (B.out.step' hb)
     clear hb hr
     (try go_wp2_with fail)
     clear hHeld
     refine hK.out _ _ ?_ fun hHeld=>?_
     ·(try dsimp only);exact KC.out _ (B.out.block _ G9L.out)
     clear hK K
     try go_frame
     refine rU 4 rfl ?_
     try go_frame
     refine rU 5 rfl ?_
     try go_frame
     refine rY 6 rfl fun K hK=>?_
     have B14:=qD (B12.out.step B.out)
     have BE4:=qD (BE2.out.step' B.out)
     obtain⟨z0,z1,z2,z3,z4⟩:=VAt.of_blk B14.out
     simp only[Nat.zero_add] at z0 z1 z2 z3 z4
     have zz:=B14.out.frozen
     go_simp
     refine hK.out _ _ (KC.out _ ((heap_setV hl9'.out).trans (B.out.block _ G9L.out))) (fun hHeld2=>?_)
     clear hHeld
     have hHeld:=hHeld2
     clear hHeld2
     clear hK K z0 z1 z2 z3 z4 zz
     try go_frame
     refine rU 7 rfl ?_
     try go_frame
     refine rD ?_ _
     refine NoPanic.normal ?_
     go_wp2_with fail
     have q:=VAt.of_blk (B14.out.putV u9)
     refine bodyPost_ret (results_val_ok rfl _ _ _ rfl _ rfl _ u9 q) rfl ?_
     exact rat_end u9 (keyAt y r) BE4.out HR.out _ rfl rfl rfl (fun z hz=>(R9.out z hz).keep fun b hb=>heap_setV (by have:=HFH.out b hb;omega))
end Go.Proofs.YtlicnjecnehaoaaGreatDoor
