/- Parts of the proof, joined: IvBaseA, ShOne, RgComp, Kit8, PrSmall, PrAt, RgJoin, RgAfter, RgAftP. -/
import Derived.Test.YtfkapannahcjiaaGreatDoorRa1
import Derived.Test.YtfkapannahcjiaaGreatDoorRa3
import Derived.Test.YtfkapannahcjiaaGreatDoorRa19
import Derived.Test.YtfkapannahcjiaaGreatDoorRa20
import Derived.Test.YtfkapannahcjiaaGreatDoorRa18
import Derived.Test.YtfkapannahcjiaaGreatDoorRa15
import Derived.Test.YtfkapannahcjiaaGreatDoorRa2
import Derived.Deep.RegionHeld3
import Derived.Deep.MidRow
import Derived.Laws.BytesArg
import Derived.Laws.Concat
set_option maxRecDepth 100000
set_option maxHeartbeats 16000000
set_option linter.unusedSimpArgs false
namespace Go.RowKit
theorem Below.kc{w w':World}(hb:Below w.heap.size w w'){a:Addr}{v:Value}(h:w.cell? a=some v):w'.cell? a=some v:=(hb.cell (World.block_lt_of_cell? w a h)).trans h
end Go.RowKit
namespace Go.Proofs.YtfkapannahcjiaaGreatDoor
open Go.RowKit
def Fr(B:Nat)(w:World)(p:PI):Prop:=RV (fun b=>B≤b) w p.1.1.1 p.1.1.2∧RV (fun b=>B≤b) w p.1.2.1 p.1.2.2
theorem Fr.step{B:Nat}{w w':World}{p:PI}(h:Fr B w p)(hb:Below w.heap.size w w'):Fr B w' p:=⟨h.1.step hb,h.2.step hb⟩
theorem Fr.low{B B':Nat}{w:World}{p:PI}(h:Fr B w p)(hb:B'≤B):Fr B' w p:=⟨h.1.mono fun _ k=>Nat.le_trans hb k,h.2.mono fun _ k=>Nat.le_trans hb k⟩
def IvF(l:List Iv)(w:World)(e:Ending)(w':World):Prop:=
 ∃(A:Option Addr) (m c:Nat) (ys:List PI),e=.returned (.slice A m c)∧ys.map ivP=l∧SI w' A m c ys∧Below w.heap.size w w'∧∀y∈ys,Fr w.heap.size w' y
def apI(B:Nat)(v:Value)(w:World)(p:PI):Prop:=RV (fun b=>B≤b∧v.ownBlock≠some b) w p.1.1.1 p.1.1.2∧RV (fun b=>B≤b∧v.ownBlock≠some b) w p.1.2.1 p.1.2.2
structure IvL(w:World)(xs:List PS)(i:Nat)(v:Value)(ys:List PI)(wr:World):Prop where
 own:wr.ownsRow w.heap.size 67 12 v i (flat recI ys)
 eq:ys.map ivP=(xs.take i).map fun x=>ivOf (spP x)
 el:∀y∈ys,apI w.heap.size v wr y
 bel:Below w.heap.size w wr
theorem IvL.step{w:World}{xs:List PS}{i:Nat}{v:Value}{ys:List PI}{wr w':World}(h:IvL w xs i v ys wr)(hb:Below wr.heap.size wr w'):IvL w xs i v ys w':=
 ⟨own_step h.own hb,h.eq,fun y hy=>⟨(h.el y hy).1.step hb,(h.el y hy).2.step hb⟩,h.bel.step' hb⟩
theorem IvL.next{w:World}{xs:List PS}{i:Nat}{v v':Value}{ys:List PI}{w4 w5:World}{o:Obj}{p:PS}{q:PI}(h:IvL w xs i v ys w4)(hp:xs[i]?=some p)(hq:ivP q=ivOf (spP p))(hel:apI w.heap.size v w4 q)(hg:(w4.alloc o).grownBy w5 v.ownBlock)(hat:v'.ownBlock=v.ownBlock∨v'.ownBlock=some (w4.alloc o).heap.size)(ho:w5.ownsRow w.heap.size 67 12 v' (i+1) (flat recI ys++recI q)):IvL w xs (i+1) v' (ys++[q]) w5:=by
 refine⟨by rw[flat_snoc];exact ho,?_,fun y hy=>?_,(h.bel.alloc h.bel.size o).grown hg (by have:=h.bel.size;simp;omega) (own_ge h.own)⟩
 ·rw[take_snoc' hp,List.map_append,List.map_append,h.eq,List.map_singleton,List.map_singleton,hq]
 ·have hy':apI w.heap.size v w4 y:=by
   rcases List.mem_append.1 hy with hy|hy
   ·exact h.el y hy
   ·simp at hy;subst hy;exact hel
  exact⟨rv_grown hy'.1 hg hat,rv_grown hy'.2 hg hat⟩
theorem le_alloc{a:Nat}{w:World}(h:a≤w.heap.size)(o:Obj):a≤(w.alloc o).heap.size:=by simp;omega
theorem ivq(p:PS)(ca cb:VC):ivP (((ca,p.1.1.2),(cb,p.2.1.2)),(!p.1.2,p.2.2))=ivOf (spP p):=rfl
theorem intervalsF_any(xs:List PS)(A:Option Addr)(n c:Nat)(w:World)(h:SS w A n c xs)(hn:n≤1000000000):
 Calls Tryz.prog 110 #[.slice A n c] w (IvF (xs.map fun x=>ivOf (spP x)) w):=by
 obtain⟨j0,hj0,hy0,hy1,hy2⟩:=info_parts info_interval
 have H:=qD h
 have HL:=qD h.sr.ln
 clear h
 go_enter Tryz.func110,Tryz.ntmps110
 go_wp2_with fail
 go_loopw [3,8] (fun v3 v8 wr=>∃(i:Nat) (ys:List PI),i≤n∧v8=.int .i64 i∧IvL w xs i v3 ys wr) (fun _ v8 _=>n-(intOf v8).toNat)
 case atStart=>exact⟨0,[],Nat.zero_le _,rfl,⟨own_nil _ _ _ _,rfl,by simp,Below.refl _ _⟩⟩
 case round=>
  obtain⟨i,ys,hi,rfl,I⟩:=hrel
  have J:=qD I
  by_cases hlt:i<n
  ·obtain⟨p,hp⟩:∃p,xs[i]?=some p:=⟨_,List.getElem?_eq_getElem (by have:=HL.out;omega)⟩
   obtain⟨b,off,rfl,hbl,hat,hok⟩:=H.out.at hp
   have HP:=qD hp
   have HPk:=qD hok
   have hbr:b<wr.heap.size:=by have:=I.bel.size;omega
   obtain⟨⟨⟨p0,p1,p2,p3,p4⟩,p5⟩,⟨⟨q0,q1,q2,q3,q4⟩,q5⟩⟩:=hat.keep (I.bel.block b hbl)
   clear hp hat hok I hbl
   go_upto_region 5 with fail
   have hs3:u3.ownBlock≠some wr.heap.size:=fun e=>absurd (own_lt J.out.own e) (by omega)
   have KJ:=J.out.step ((Below.refl wr.heap.size wr).alloc (qL) (Obj.cells (arrS p) 127))
   have KB:Blk (wr.alloc (.cells (arrS p) 127)) wr.heap.size 127 (arrS p):=Blk.new_at rfl
   change (Code.region 5 _ _).wp _ _ _ (wr.alloc (.cells (arrS p) 127))
   generalize wr.alloc (.cells (arrS p) 127)=wa at*
   generalize wr.heap.size=ga at*
   have JA:=qD KJ
   have JB:=qD KB
   clear p0 p1 p2 p3 p4 p5 q0 q1 q2 q3 q4 q5 J KJ KB hbr
   obtain⟨⟨⟨p0,p1,p2,p3,p4⟩,p5⟩,⟨⟨q0,q1,q2,q3,q4⟩,q5⟩⟩:=SAt.of_blk JB.out
   have B:=qD ((Below.refl wa.heap.size wa).drewN 1)
   have RP:=qD (HPk.out.step JA.out.bel)
   have KS:Hid (∀w',Below wa.heap.size wa w'→w'.cell? ⟨ga,0,none⟩=some (.int .i64 p.1.1.1.k)∧w'.cell? ⟨ga,1,none⟩=some (.int .i64 p.1.1.1.n)∧w'.cell? ⟨ga,2,none⟩=some (.string p.1.1.1.t)∧w'.cell? ⟨ga,3,none⟩=some (.slice p.1.1.1.LA p.1.1.1.ln p.1.1.1.lc)∧w'.cell? ⟨ga,4,none⟩=some (.slice p.1.1.1.DA p.1.1.1.dn p.1.1.1.dc)∧w'.cell? ⟨ga,5,none⟩=some (.bool p.1.2)∧w'.cell? ⟨ga,6,none⟩=some (.int .i64 p.2.1.1.k)∧w'.cell? ⟨ga,7,none⟩=some (.int .i64 p.2.1.1.n)∧w'.cell? ⟨ga,8,none⟩=some (.string p.2.1.1.t)∧w'.cell? ⟨ga,9,none⟩=some (.slice p.2.1.1.LA p.2.1.1.ln p.2.1.1.lc)∧w'.cell? ⟨ga,10,none⟩=some (.slice p.2.1.1.DA p.2.1.1.dn p.2.1.1.dc)∧w'.cell? ⟨ga,11,none⟩=some (.bool p.2.2)):=qD fun w' hb=>⟨hb.kc p0,hb.kc p1,hb.kc p2,hb.kc p3,hb.kc p4,hb.kc p5,hb.kc q0,hb.kc q1,hb.kc q2,hb.kc q3,hb.kc q4,hb.kc q5⟩
   have F1:Hid (i+1≤maxLen):=by unfold Hid maxLen;omega
   have F2:Hid ((i+1)*168≤140737488355328):=by unfold Hid;omega
   have KG:Hid (∀w' w'' o,Below wa.heap.size wa w'→(w'.alloc o).grownBy w'' u3.ownBlock→w''.cell? ⟨ga,0,none⟩=some (.int .i64 p.1.1.1.k)∧w''.cell? ⟨ga,1,none⟩=some (.int .i64 p.1.1.1.n)∧w''.cell? ⟨ga,2,none⟩=some (.string p.1.1.1.t)∧w''.cell? ⟨ga,3,none⟩=some (.slice p.1.1.1.LA p.1.1.1.ln p.1.1.1.lc)∧w''.cell? ⟨ga,4,none⟩=some (.slice p.1.1.1.DA p.1.1.1.dn p.1.1.1.dc)∧w''.cell? ⟨ga,5,none⟩=some (.bool p.1.2)∧w''.cell? ⟨ga,6,none⟩=some (.int .i64 p.2.1.1.k)∧w''.cell? ⟨ga,7,none⟩=some (.int .i64 p.2.1.1.n)∧w''.cell? ⟨ga,8,none⟩=some (.string p.2.1.1.t)∧w''.cell? ⟨ga,9,none⟩=some (.slice p.2.1.1.LA p.2.1.1.ln p.2.1.1.lc)∧w''.cell? ⟨ga,10,none⟩=some (.slice p.2.1.1.DA p.2.1.1.dn p.2.1.1.dc)∧w''.cell? ⟨ga,11,none⟩=some (.bool p.2.2)):=qD fun w' w'' o hb hg=>⟨gr_cell hg (hb.kc p0) hs3,gr_cell hg (hb.kc p1) hs3,gr_cell hg (hb.kc p2) hs3,gr_cell hg (hb.kc p3) hs3,gr_cell hg (hb.kc p4) hs3,gr_cell hg (hb.kc p5) hs3,gr_cell hg (hb.kc q0) hs3,gr_cell hg (hb.kc q1) hs3,gr_cell hg (hb.kc q2) hs3,gr_cell hg (hb.kc q3) hs3,gr_cell hg (hb.kc q4) hs3,gr_cell hg (hb.kc q5) hs3⟩
   clear p0 p1 p2 p3 p4 p5 q0 q1 q2 q3 q4 q5
   have tok1:True:=trivial
   go_region_held3 (fun w'=>w'.cell? ⟨ga,0,none⟩=some (.int .i64 p.1.1.1.k)∧w'.cell? ⟨ga,1,none⟩=some (.int .i64 p.1.1.1.n)∧w'.cell? ⟨ga,2,none⟩=some (.string p.1.1.1.t)∧w'.cell? ⟨ga,3,none⟩=some (.slice p.1.1.1.LA p.1.1.1.ln p.1.1.1.lc)∧w'.cell? ⟨ga,4,none⟩=some (.slice p.1.1.1.DA p.1.1.1.dn p.1.1.1.dc)∧w'.cell? ⟨ga,5,none⟩=some (.bool p.1.2)∧w'.cell? ⟨ga,6,none⟩=some (.int .i64 p.2.1.1.k)∧w'.cell? ⟨ga,7,none⟩=some (.int .i64 p.2.1.1.n)∧w'.cell? ⟨ga,8,none⟩=some (.string p.2.1.1.t)∧w'.cell? ⟨ga,9,none⟩=some (.slice p.2.1.1.LA p.2.1.1.ln p.2.1.1.lc)∧w'.cell? ⟨ga,10,none⟩=some (.slice p.2.1.1.DA p.2.1.1.dn p.2.1.1.dc)∧w'.cell? ⟨ga,11,none⟩=some (.bool p.2.2))
    (first|exact KS.out _ B.out|exact KS.out _ (B.out.alloc B.out.size _)|((try dsimp only);assumption)|go_keep)
    (first
     | (refine step_append_any _ rfl (.tmp 12) (.tmp 29) 63 rfl w.heap.size 67 j0 (aggI (((VC.zero,Val.zero),(VC.zero,Val.zero)),(false,false))) 12 168 Tryz.underlying63 hj0 hy0 hy1 hy2 rfl (by decide) u3 i (flat recI ys) (by simp[Act.eval]) ((own_step JA.out.own B.out).alloc _) (w4.heap.size+1) (some ⟨w4.heap.size,0,none⟩) 1 1 (recI (((ca,p.1.1.2),(cb,p.2.1.2)),(!p.1.2,p.2.2))) (by simp[Act.eval]) ⟨rfl,fun _=>⟨_,rfl,Nat.lt_succ_self _,news_at _ _ _⟩⟩ (recI_one _) F1.out F2.out (le_alloc (JA.out.step B.out).bel.size _) ?_;intro v' w5 hown hgr hat;have hs:=KG.out _ _ _ B.out hgr)
     | (go_at_call 143;have _t:=tok1;refine(copy_any p.1.1.2 p.1.1.1 _ (RP.out.1.step B.out)).mono ?_;rintro e3 w3 ⟨ca,rfl,hra,hb⟩;replace B:=qD (B.out.step' hb);have RA:=qD hra;have B3:=B;clear hb hra tok1 _t)
     | (go_at_call 143;refine(copy_any p.2.1.2 p.2.1.1 _ (RP.out.2.step B.out)).mono ?_;rintro e3 w4 ⟨cb,rfl,hrb,hb⟩;replace RA:=qD (RA.out.step hb);replace B:=qD (B.out.step' hb);have RB:=qD hrb;clear hb hrb))
   all_goals
    have HI:=qD ((JA.out.step B.out).next HP.out (ivq p ca cb) ⟨RA.out.mono fun q hq=>⟨by have:=JA.out.bel.size;have hq':wa.heap.size≤q:=hq;omega,fun e=>by have:=own_lt JA.out.own e;have hq':wa.heap.size≤q:=hq;omega⟩,RB.out.mono fun q hq=>⟨by have:=JA.out.bel.size;have:=B3.out.size;omega,fun e=>by have:=own_lt (own_step JA.out.own B3.out) e;omega⟩⟩ hgr hat hown)
    clear hown hgr hat KS KG hs hs3 JA JB RP RA RB B B3
    go_wp2_with fail
    go_roundw
    case rel=>exact⟨i+1,_,by omega,by go_num,HI.out⟩
    case measure=>simp[intOf];omega
  ·clear I
   go_wp2_with fail
   go_ret
   have hyl:ys.length=i:=by have:=congrArg List.length J.out.eq;have:=HL.out;simp only[List.length_map,List.length_take] at*;omega
   obtain⟨A',c',e,hs⟩:=SI.of_own J.out.own hyl (by unfold reach;omega) (fun y hy=>⟨(J.out.el y hy).1.mono fun _ _=>trivial,(J.out.el y hy).2.mono fun _ _=>trivial⟩)
   exact⟨A',_,c',ys,by rw[←e];rfl,by rw[J.out.eq,List.take_of_length_le (by have:=HL.out;omega)],hs,J.out.bel,fun y hy=>⟨(J.out.el y hy).1.mono fun _ h=>h.1,(J.out.el y hy).2.mono fun _ h=>h.1⟩⟩
def NormOk(S:Cut→Prop)(k:Nat)(w:World)(e:Ending)(w':World):Prop:=
 ∃(A:Option Addr) (m c:Nat) (ys:List PI) (n:List (Cut×Cut)),e=.returned (.slice A m c)∧ys.map ivP=n.map ivOf∧IsNF S n∧m≤k∧SI w' A m c ys∧Below w.heap.size w w'
def NormF(S:Cut→Prop)(k:Nat)(w:World)(e:Ending)(w':World):Prop:=
 ∃(A:Option Addr) (m c:Nat) (ys:List PI) (n:List (Cut×Cut)),e=.returned (.slice A m c)∧ys.map ivP=n.map ivOf∧IsNF S n∧m≤k∧SI w' A m c ys∧Below w.heap.size w w'∧∀y∈ys,Fr w.heap.size w' y
theorem NormF.ok{S:Cut→Prop}{k:Nat}{w:World}{e:Ending}{w':World}(h:NormF S k w e w'):NormOk S k w e w':=by
 obtain⟨A,m,c,ys,n,h1,h2,h3,h4,h5,h6,_⟩:=h
 exact⟨A,m,c,ys,n,h1,h2,h3,h4,h5,h6⟩
theorem span_ne{is:List PI}{xs:List PS}(h:xs.map spP=spansL (is.map ivP)):∀x∈xs,cmC (spP x).1 (spP x).2<0∧VC1 (spP x).1∧VC1 (spP x).2:=by
 intro x hx
 have:spP x∈spansL (is.map ivP):=by rw[←h];exact List.mem_map_of_mem hx
 exact spansL_ne _ this
theorem normalF_any(is:List PI)(A:Option Addr)(n c:Nat)(w:World)(hT:Tabs w)(h:SI w A n c is)(hn:n≤1000000000):
 Calls Tryz.prog 61 #[.slice A n c] w (NormF (fun a=>inS cmC a (spansL (is.map ivP))) n w):=by
 have HT:=qD hT
 have H:=qD h
 have HL:=qD h.sr.ln
 clear hT h
 go_enter Tryz.func61,Tryz.ntmps61
 go_wp2_with fail
 refine(spans_any is A n c _ HT.out H.out hn).mono ?_
 rintro e w1 ⟨A1,m1,c1,xs,rfl,hxs,_,hm1,hss,hb1⟩
 have HX:=qD hxs
 have HS1:=qD hss
 have HX1:=qD hss.sr.ln
 have HB1:=qD hb1
 have HM1:Hid (m1≤n):=by have:=HL.out;unfold Hid;omega
 have hm1n:m1≤1000000000:=by have:=HM1.out;omega
 clear hxs hss hb1 hm1
 go_wp2_with fail
 refine(merged_any xs A1 m1 c1 _ HS1.out hm1n).mono ?_
 rintro e w2 ⟨A2,m2,c2,ys,rfl,⟨S,hS,hys⟩,_,_,hss2,hm2,hb2⟩
 have HY:=qD (hS.merge (span_ne HX.out))
 rw[←hys] at HY
 have HS2:=qD hss2
 have HB2:=qD (HB1.out.step' hb2)
 have HM2:Hid (m2≤n):=by have:=HM1.out;have:=HX1.out;unfold Hid;omega
 have hm2n:m2≤1000000000:=by have:=HM2.out;omega
 have HY2:=qD hss2.sr.ln
 clear hS hys hss2 hm2 hb2
 go_wp2_with fail
 refine(intervalsF_any ys A2 m2 c2 _ HS2.out hm2n).mono ?_
 rintro e w3 ⟨A3,m3,c3,zs,rfl,hzs,hsi,hb3,hfr⟩
 have HFR:=qD hfr
 have HZ:=qD hzs
 have HS3:=qD hsi
 have HB3:=qD (HB2.out.step' hb3)
 have HZ3:=qD hsi.sr.ln
 clear hzs hsi hb3 hfr
 go_wp2_with fail
 go_ret
 refine⟨A3,m3,c3,zs,ys.map spP,rfl,by rw[HZ.out,List.map_map];rfl,?_,?_,HS3.out,HB3.out,fun y hy=>⟨(HFR.out y hy).1.mono fun _ h=>Nat.le_trans HB2.out.size h,(HFR.out y hy).2.mono fun _ h=>Nat.le_trans HB2.out.size h⟩⟩
 ·have:=HY.out.1
  rw[HX.out] at this
  exact this
 ·have h1:=congrArg List.length HZ.out
  simp only[List.length_map] at h1
  have:=HZ3.out;have:=HY2.out;have:=HM2.out
  omega
def ptP(p:PV):PS:=((p,false),(p,true))
structure PtI(w:World)(ps:List PV)(i:Nat)(v:Value)(xs:List PS)(wr:World):Prop where
 own:wr.ownsRow w.heap.size 127 12 v xs.length (flat recS xs)
 eq:xs.map spP=spansL ((ps.take i).map fun p=>ptIv p.2)
 le:xs.length≤i
 ok:∀x∈xs,okS w x
 bel:Below w.heap.size w wr
theorem PtI.step{w:World}{ps:List PV}{i:Nat}{v:Value}{xs:List PS}{wr w':World}(h:PtI w ps i v xs wr)(hb:Below wr.heap.size wr w'):PtI w ps i v xs w':=⟨own_step h.own hb,h.eq,h.le,h.ok,h.bel.step' hb⟩
theorem PtI.skip{w:World}{ps:List PV}{i:Nat}{v:Value}{xs:List PS}{wr:World}{p:PV}(h:PtI w ps i v xs wr)(hp:ps[i]?=some p)(hn:validV p.2=false):PtI w ps (i+1) v xs wr:=by
 refine⟨h.own,?_,by have:=h.le;omega,h.ok,h.bel⟩
 rw[take_snoc' hp,List.map_append,List.map_singleton,spansL_snoc,pt_ne,hn]
 exact h.eq
theorem PtI.next{w:World}{ps:List PV}{i m:Nat}{v v':Value}{xs:List PS}{wr w':World}{p:PV}(h:PtI w ps i v xs wr)(hp:ps[i]?=some p)(hn:validV p.2=true)(hok:RW w p.1 p.2)(hg:wr.grownBy w' v.ownBlock)(hm:m=xs.length+1)(ho:w'.ownsRow w.heap.size 127 12 v' m (flat recS xs++recS (ptP p))):PtI w ps (i+1) v' (xs++[ptP p]) w':=by
 subst hm
 refine⟨?_,?_,by have:=h.le;simp;omega,fun x hx=>?_,h.bel.grown hg h.bel.size (own_ge h.own)⟩
 ·rw[flat_snoc,List.length_append];exact ho
 ·have e:spansL ((ps.take (i+1)).map fun p=>ptIv p.2)=spansL ((ps.take i).map fun p=>ptIv p.2)++[(ptIv p.2).sp]:=by
   rw[take_snoc' hp,List.map_append,List.map_singleton,spansL_snoc,pt_ne,hn];rfl
  rw[e,List.map_append,h.eq]
  rfl
 ·rcases List.mem_append.1 hx with hx|hx
  ·exact h.ok x hx
  ·simp at hx;subst hx;exact⟨hok,hok⟩
theorem pointsF_any(ps:List PV)(A:Option Addr)(n c:Nat)(w:World)(hT:Tabs w)(h:SL (fun _=>True) w A n c ps)(hn:n≤1000000000):
 Calls Tryz.prog 59 #[.slice A n c] w (NormF (fun a=>inS cmC a (spansL (ps.map fun p=>ptIv p.2))) n w):=by
 obtain⟨j0,hj0,hy0,hy1,hy2⟩:=info_parts info_span
 have HT:=qD hT
 have H:=qD h
 have HL:=qD h.sr.ln
 clear hT h
 go_enter Tryz.func59,Tryz.ntmps59
 go_wp2_with fail
 go_loopw [3,8] (fun v3 v8 wr=>∃(i:Nat) (xs:List PS),i≤n∧v8=.int .i64 i∧PtI w ps i v3 xs wr) (fun _ v8 _=>n-(intOf v8).toNat)
 case atStart=>exact⟨0,[],Nat.zero_le _,rfl,⟨own_nil _ _ _ _,rfl,qL,by simp,Below.refl _ _⟩⟩
 case round=>
  obtain⟨i,xs,hi,rfl,I⟩:=hrel
  have J:=qD I
  by_cases hlt:i<n
  ·obtain⟨p,hp⟩:∃p,ps[i]?=some p:=⟨_,List.getElem?_eq_getElem (by have:=HL.out;omega)⟩
   obtain⟨b,off,rfl,_,hu,hr⟩:=H.out.vat hp
   have HP:=qD hp
   have HR:=qD hr
   have hbr:b<wr.heap.size:=by have:=hu.lt;have:=I.bel.size;omega
   have hle:=I.le
   obtain⟨y0,y1,y2,y3,y4⟩:=hu.keep (I.bel.block b hu.lt)
   clear hp hu hr I
   go_upto_region 5 with fail
   have KJ:=J.out.step ((Below.refl wr.heap.size wr).alloc (qL) (Obj.cells p.1.arr 29))
   have KB:Blk (wr.alloc (.cells p.1.arr 29)) wr.heap.size 29 p.1.arr:=Blk.new_at rfl
   change (Code.region 5 _ _).wp _ _ _ (wr.alloc (.cells p.1.arr 29))
   generalize wr.alloc (.cells p.1.arr 29)=wa at*
   generalize wr.heap.size=ga at*
   have JA:=qD KJ
   have JB:=qD KB
   clear y0 y1 y2 y3 y4 J KJ KB hbr
   obtain⟨a0,a1,a2,a3,a4⟩:=VAt.of_blk JB.out
   go_wp2_with fail
   refine(valid_any p.2 p.1 _ (HT.out.step JA.out.bel) (HR.out.step JA.out.bel)).mono ?_
   rintro e w3 ⟨rfl,hb3⟩
   have J3:=qD (JA.out.step hb3)
   have K3:=qD (JB.out.step hb3)
   clear hb3 a0 a1 a2 a3 a4 JA JB
   cases hv:validV p.2
   ·have HI:=qD (J3.out.skip HP.out hv)
    clear hv
    go_wp2_with fail
    go_roundw
    case rel=>exact⟨i+1,xs,by omega,by go_num,HI.out⟩
    case measure=>simp[intOf];omega
   ·have HVp:=qD hv
    clear hv
    obtain⟨a0,a1,a2,a3,a4⟩:=VAt.of_blk K3.out
    have hlo:w.heap.size≤w3.heap.size:=J3.out.bel.size
    have LK:=qD (J3.out.step ((Below.refl w3.heap.size w3).alloc (qL) (Obj.cells (arrS (ptP p)) 127)))
    go_wp2_with (at_builtin;refine wpList_append_any _ rfl _ _ 123 rfl w.heap.size 127 j0 (aggS (((VC.zero,Val.zero),false),((VC.zero,Val.zero),false))) 12 176 Tryz.underlying123 hj0 hy0 hy1 hy2 rfl (by decide) u3 xs.length (flat recS xs) rfl LK.out.own _ _ 1 _ (recS (ptP p)) rfl ⟨rfl,fun _=>⟨_,rfl,Nat.lt_succ_self _,news_at _ _ _⟩⟩ (recS_one _) (by unfold maxLen;omega) (by omega) (le_alloc hlo _) ?_)
    intro v' w4 hown hg _
    have HI:=qD (LK.out.next HP.out HVp.out HR.out hg rfl hown)
    clear hown hg a0 a1 a2 a3 a4
    go_wp2_with fail
    go_roundw
    case rel=>exact⟨i+1,xs++[ptP p],by omega,by go_num,HI.out⟩
    case measure=>simp[intOf];omega
  ·obtain⟨A1,c1,rfl,hs⟩:=SS.of_own J.out.own rfl (by have:=J.out.le;unfold reach;omega) (fun x hx=>(J.out.ok x hx).step J.out.bel)
   have hle:=I.le
   have HX:Hid (xs.map spP=spansL (ps.map fun p=>ptIv p.2)):=by rw[Hid,J.out.eq,List.take_of_length_le (by have:=HL.out;omega)]
   have hne:∀x∈xs,cmC (spP x).1 (spP x).2<0∧VC1 (spP x).1∧VC1 (spP x).2:=fun x hx=>spansL_ne _ (by rw[←HX.out];exact List.mem_map_of_mem hx)
   have HNe:=qD hne
   have HS1:=qD hs
   have HB1:=qD J.out.bel
   obtain⟨m1,hm1⟩:∃m,m=xs.length:=⟨_,rfl⟩
   rw[←hm1] at HS1 hle ⊢
   have HM1:=qD hm1
   clear I J hs hne hm1
   go_wp2_with fail
   refine(merged_any xs A1 m1 c1 _ HS1.out (by omega)).mono ?_
   rintro e w2 ⟨A2,m2,c2,ys,rfl,⟨S,hS,hys⟩,_,_,hss2,hm2,hb2⟩
   have HY:=qD (hS.merge HNe.out)
   rw[←hys] at HY
   have HS2:=qD hss2
   have HB2:=qD (HB1.out.step' hb2)
   have HY2:=qD hss2.sr.ln
   have HM2:Hid (m2≤n):=by have:=HM1.out;unfold Hid;omega
   have hm2n:m2≤1000000000:=by have:=HM2.out;omega
   clear hS hys hss2 hm2 hb2
   go_wp2_with fail
   refine(intervalsF_any ys A2 m2 c2 _ HS2.out hm2n).mono ?_
   rintro e w3 ⟨A3,m3,c3,zs,rfl,hzs,hsi,hb3,hfr⟩
   have HFR:=qD hfr
   have HZ:=qD hzs
   have HS3:=qD hsi
   have HB3:=qD (HB2.out.step' hb3)
   have HZ3:=qD hsi.sr.ln
   clear hzs hsi hb3 hfr
   go_wp2_with fail
   go_ret
   refine⟨A3,m3,c3,zs,ys.map spP,rfl,by rw[HZ.out,List.map_map];rfl,?_,?_,HS3.out,HB3.out,fun y hy=>⟨(HFR.out y hy).1.mono fun _ h=>Nat.le_trans HB2.out.size h,(HFR.out y hy).2.mono fun _ h=>Nat.le_trans HB2.out.size h⟩⟩
   ·have:=HY.out.1
    rw[HX.out] at this
    exact this
   ·have h1:=congrArg List.length HZ.out
    simp only[List.length_map] at h1
    have:=HZ3.out;have:=HY2.out;have:=HM2.out
    omega
theorem points_any(ps:List PV)(A:Option Addr)(n c:Nat)(w:World)(hT:Tabs w)(h:SL (fun _=>True) w A n c ps)(hn:n≤1000000000):
 Calls Tryz.prog 59 #[.slice A n c] w (NormOk (fun a=>inS cmC a (spansL (ps.map fun p=>ptIv p.2))) n w):=(pointsF_any ps A n c w hT h hn).mono fun _ _ h=>h.ok
def cMin:VC:=⟨1,0,ByteArray.empty,none,0,0,none,0,0⟩
def cMax:VC:=⟨11,0,ByteArray.empty,none,0,0,none,0,0⟩
theorem rv_min{F:Nat→Prop}{w:World}:RV F w cMin vMin:=RVs.shut ⟨rfl,rfl,rfl,by decide,rfl,qL,by decide,fun h=>absurd h (by decide),rfl,qL,by decide,fun h=>absurd h (by decide)⟩
theorem rv_max{F:Nat→Prop}{w:World}:RV F w cMax vMax:=RVs.shut ⟨rfl,rfl,rfl,by decide,rfl,qL,by decide,fun h=>absurd h (by decide),rfl,qL,by decide,fun h=>absurd h (by decide)⟩
theorem rw_min(w:World):RW w cMin vMin:=RVs.shut ⟨rfl,rfl,rfl,by decide,rfl,qL,by decide,fun h=>absurd h (by decide),rfl,qL,by decide,fun h=>absurd h (by decide)⟩
theorem rw_max(w:World):RW w cMax vMax:=RVs.shut ⟨rfl,rfl,rfl,by decide,rfl,qL,by decide,fun h=>absurd h (by decide),rfl,qL,by decide,fun h=>absurd h (by decide)⟩
def pAll:PI:=(((cMin,vMin),(cMax,vMax)),(true,true))
theorem si_one{w:World}{g:Nat}{p:PI}(h:Blk w g 67 (arrI p))(hok:okI w p):SI w (some ⟨g,0,none⟩) 1 1 [p]:=by
 refine⟨⟨rfl,qL,fun _=>⟨g,0,rfl,h.lt,fun i a hi j v hj=>?_⟩⟩,by decide,fun x hx=>by simp at hx;subst hx;exact hok⟩
 cases i with
 | zero=>
  simp at hi
  subst hi
  rw[show 0+0*12+j=j by omega,h.cell,←Array.getElem?_toList]
  exact hj
 | succ i=>simp at hi
theorem allF_any(w:World):Calls Tryz.prog 58 #[] w (NormF (fun a=>inS cmC a (spansL [allIv])) 1 w):=by
 go_enter Tryz.func58,Tryz.ntmps58
 go_wp2_with fail
 go_ret
 exact⟨_,1,1,[pAll],_,rfl,rfl,all_nf,qL,si_one (Blk.new_at rfl) ⟨rw_min _,rw_max _⟩,(Below.refl _ _).alloc (qL) _,fun y hy=>by
  obtain rfl:y=pAll:=by simpa using hy
  exact⟨rv_min,rv_max⟩⟩
theorem all_any(w:World):Calls Tryz.prog 58 #[] w (NormOk (fun a=>inS cmC a (spansL [allIv])) 1 w):=(allF_any w).mono fun _ _ h=>h.ok
section
variable {ec:PC} {w w2:World} {n:List (Cut×Cut)} {i:Nat} {v:Value} {cs:List PS} {fc:PC} {wr w':World}
end
abbrev BB:=ByteArray×ByteArray
def rec2(p:BB):List Value:=[.string p.1,.string p.2]
theorem rec2_one(p:BB):∀u∈rec2 p,u.oneCell'=true:=by simp[rec2,Value.oneCell']
theorem info_pair:(Tryz.prog.info? 45).map (fun i=>(i.zero,i.size,i.bytes))=some (some (.agg #[.string ByteArray.empty,.string ByteArray.empty]),2,32):=by kernel_rfl
theorem own_sr2{w:World}{base:Nat}{v:Value}{p:BB}(h:w.ownsRow base 45 2 v 1 (rec2 p)):∃A c,v=.slice A 1 c∧SR 2 rec2 w A 1 c [p]:=by
 obtain⟨A,c,hv,hle⟩:=own_slice h
 subst hv
 refine⟨A,c,rfl,rfl,hle,fun hn=>?_⟩
 obtain⟨g,cap,hv,_,hlt⟩:=h.form hn
 have hA:A=some ⟨g,0,none⟩:=by injection hv
 subst hA
 refine⟨g,0,rfl,hlt,fun k a hk j u hj=>?_⟩
 cases k with
 | zero=>
  simp at hk
  subst hk
  have:=h.cells (g:=g) rfl j u hj
  rw[addr_add] at this
  simpa using this
 | succ k=>simp at hk
theorem SR.at22{w:World}{A:Option Addr}{n c:Nat}{l:List BB}(h:SR 2 rec2 w A n c l){i:Nat}(hi:i<n):∃b off x,A=some ⟨b,off,none⟩∧b<w.heap.size∧l[i]?=some x∧
 w.cell? ⟨b,off+i*2,none⟩=some (.string x.1)∧w.cell? ⟨b,off+i*2+1,none⟩=some (.string x.2):=by
 obtain⟨b,off,e,hb,hc⟩:=h.el (by omega)
 have hl:i<l.length:=by have:=h.ln;omega
 have h1:=List.getElem?_eq_getElem hl
 exact⟨b,off,l[i],e,hb,h1,hc i _ h1 0 _ rfl,hc i _ h1 1 _ rfl⟩
def JoI(w:World)(p:BB)(i:Nat)(v:Value)(wr:World):Prop:=
 Below w.heap.size w wr∧((i=0∧v=.slice none 0 0)∨(i=1∧wr.ownsRow w.heap.size 45 2 v 1 (rec2 p)))
theorem joined1_any(p:BB)(A:Option Addr)(c:Nat)(w:World)(h:SR 2 rec2 w A 1 c [p]):
 Calls Tryz.prog 25 #[.slice A 1 c] w fun e w'=>∃A' c',e=.returned (.slice A' 1 c')∧SR 2 rec2 w' A' 1 c' [p]∧Below w.heap.size w w':=by
 obtain⟨j0,hj0,hy0,hy1,hy2⟩:=info_parts info_pair
 obtain⟨b,off,x,hA,hb,hx,e0,e1⟩:=h.at22 (i:=0) (by omega)
 obtain rfl:p=x:=by simpa using hx
 subst hA
 rw[Nat.zero_mul,Nat.add_zero] at e0 e1
 clear hx h
 go_enter Tryz.func25,Tryz.ntmps25
 go_wp2_with fail
 refine(sstable1_any _ _ _ _).mono ?_
 rintro e w1 ⟨rfl,hw1⟩
 subst hw1
 go_wp2_with fail
 refine(compact1_any _ _ _).mono ?_
 rintro e w2 ⟨rfl,hw2⟩
 subst hw2
 go_upto_region 4 with fail
 go_loopw [3,5,6,12] (fun u3 _ _ u12 wr=>∃i:Nat,i≤1∧u12=.int .i64 i∧JoI w2 p i u3 wr) (fun _ _ _ u12 _=>1-(intOf u12).toNat)
 case atStart=>exact⟨0,by omega,rfl,Below.refl _ _,.inl ⟨rfl,rfl⟩⟩
 case round=>
  obtain⟨i,hi,rfl,hbel,hj⟩:=hrel
  have HB:=qD hbel
  rcases hj with⟨rfl,rfl⟩|⟨rfl,hown⟩
  ·replace e0:=(hbel.cell (p:=⟨b,off,none⟩) hb).trans e0
   replace e1:=(hbel.cell (p:=⟨b,off+1,none⟩) hb).trans e1
   clear hbel
   go_upto_region 7 with fail
   change (Code.region 7 _ _).wp _ _ _ (wr.alloc (.cells #[.string p.1,.string p.2] 45))
   have JB:Hid (Blk (wr.alloc (.cells #[.string p.1,.string p.2] 45)) wr.heap.size 45 #[.string p.1,.string p.2]):=Blk.new_at rfl
   have HBA:=qD (HB.out.alloc HB.out.size (Obj.cells #[.string p.1,.string p.2] 45))
   generalize wr.alloc (.cells #[.string p.1,.string p.2] 45)=wa at*
   generalize wr.heap.size=ga at*
   clear e0 e1
   refine wp_region_bw (by kernel_rfl) (by kernel_rfl) ?_
   repeat(go_big_quiet_step (fail))
   refine wpQuiet_nil ?_
   rintro _ ⟨kw,rfl⟩
   have HB3:=qD (HBA.out.step' kw.below)
   have JB3:=qD (JB.out.step kw.below)
   clear HBA JB
   generalize kw.val=w3 at*
   have k0:=JB3.out.cell 0
   have k1:=JB3.out.cell 1
   simp at k0 k1
   have hlo:w2.heap.size≤w3.heap.size:=HB3.out.size
   go_wp2_with (at_builtin;refine wpList_append_any _ rfl _ _ 43 rfl w2.heap.size 45 j0 (.agg #[.string ByteArray.empty,.string ByteArray.empty]) 2 32 Tryz.underlying43 hj0 hy0 hy1 hy2 rfl (by decide) (.slice none 0 0) 0 [] rfl (own_nil _ _ _ _) _ _ 1 _ (rec2 p) rfl ⟨rfl,fun _=>⟨_,rfl,Nat.lt_succ_self _,news_at _ _ _⟩⟩ (rec2_one _) (by unfold maxLen;omega) (by omega) (le_alloc hlo _) ?_)
   intro v' w6 hown hgr hat
   have HI:Hid (JoI w2 p 1 v' w6):=⟨(HB3.out.alloc HB3.out.size _).grown hgr (le_alloc hlo _) (fun g hg=>(by cases hg)),.inr ⟨rfl,hown⟩⟩
   clear hown hgr hat k0 k1 JB3 HB3
   go_wp2_with fail
   go_roundw
   case rel=>exact⟨1,by omega,rfl,HI.out⟩
   case measure=>simp[intOf]
  ·obtain⟨A',c',rfl,hsr⟩:=own_sr2 hown
   have HS:=qD hsr
   clear hown hsr hbel
   go_wp2_with fail
   go_ret
   exact⟨A',c',rfl,HS.out,HB.out⟩
theorem results_pair_ok{fn:Func}{p u:Tmp}(h:fn.results=#[.cell p 45,.tmp u])(tmps:Array Value)(g1 off:Nat)(h1:tmps.getD p undef=.pointer (some ⟨g1,off,none⟩))(e:Value)(h2:tmps.getD u undef=e)(W:World)(a b:ByteArray)(q0:W.cell? ⟨g1,off,none⟩=some (.string a))(q1:W.cell? ⟨g1,off+1,none⟩=some (.string b)):
 (results fn tmps).run Tryz.prog W=.ok (.tuple #[.agg #[.string a,.string b],e]) W:=by
 rw[results_cell_tmp h,h1,h2]
 simp[asAddr,go_sem,q0,q1]
theorem span1_any(p:PI)(S1 S2 T L H:ByteArray)(w:World)(hT:Tabs w)(hp:okI w p)(hf:p.2=(true,true))(h1:keyR [p.1.1.2]=(S1,0))(h2:keyR [p.1.2.2]=(S2,0))(hk:(p.1.1.1.k≠1∧p.1.2.1.k≠11∧L=S1∧H=T)∨(p.1.1.1.k=1∧p.1.2.1.k=11∧L=ByteArray.empty∧H=ByteArray.empty))(hA:∀w,Calls Tryz.prog 67 #[.string S2] w fun e w'=>e=.returned (.tuple #[.string T,.bool true])∧Below w.heap.size w w'):
 Calls Tryz.prog 24 #[aggI p,.bool false] w fun e w'=>e=.returned (.tuple #[.agg #[.string L,.string H],.bool true])∧Below w.heap.size w w':=by
 obtain⟨⟨⟨c1,x1⟩,⟨c2,x2⟩⟩,⟨f1,f2⟩⟩:=p
 simp only[Prod.mk.injEq] at hf
 obtain⟨rfl,rfl⟩:=hf
 have R1:Hid (RW w c1 x1):=hp.1
 have R2:Hid (RW w c2 x2):=hp.2
 have HT:=qD hT
 have HA:=qD hA
 have HK1:Hid (keyR [x1]=(S1,0)):=h1
 have HK2:Hid (keyR [x2]=(S2,0)):=h2
 clear hp hT hA h1 h2
 have hcode1:Hid (∀wr,Below w.heap.size w wr→Calls Tryz.prog 53 #[c1.val] wr fun e w'=>e=.returned (.tuple #[.string S1,.int .i64 0])∧Below wr.heap.size wr w'):=qD fun wr hb=>by
  have:=code_any x1 c1 wr (HT.out.step hb) (R1.out.step hb)
  rw[HK1.out] at this
  exact this
 have hcode2:Hid (∀wr,Below w.heap.size w wr→Calls Tryz.prog 53 #[c2.val] wr fun e w'=>e=.returned (.tuple #[.string S2,.int .i64 0])∧Below wr.heap.size wr w'):=qD fun wr hb=>by
  have:=code_any x2 c2 wr (HT.out.step hb) (R2.out.step hb)
  rw[HK2.out] at this
  exact this
 have B0:Hid (Blk ((w.alloc (.cells (arrI (((c1,x1),(c2,x2)),(true,true))) 67)).alloc (.cells #[.string ByteArray.empty,.string ByteArray.empty] 45)) w.heap.size 67 (arrI (((c1,x1),(c2,x2)),(true,true)))):=(Blk.new_at rfl).alloc _
 have B1:Hid (Blk ((w.alloc (.cells (arrI (((c1,x1),(c2,x2)),(true,true))) 67)).alloc (.cells #[.string ByteArray.empty,.string ByteArray.empty] 45)) (w.heap.size+1) 45 #[.string ByteArray.empty,.string ByteArray.empty]):=Blk.new_at (by simp)
 have BE:Hid (Below w.heap.size w ((w.alloc (.cells (arrI (((c1,x1),(c2,x2)),(true,true))) 67)).alloc (.cells #[.string ByteArray.empty,.string ByteArray.empty] 45))):=((Below.refl _ _).alloc (qL) _).alloc (by simp) _
 go_enter Tryz.func24,Tryz.ntmps24
 go_upto_region 1 with fail
 change Code.wp _ _ _ _ ((w.alloc (.cells (arrI (((c1,x1),(c2,x2)),(true,true))) 67)).alloc (.cells #[.string ByteArray.empty,.string ByteArray.empty] 45))
 generalize ((w.alloc (.cells (arrI (((c1,x1),(c2,x2)),(true,true))) 67)).alloc (.cells #[.string ByteArray.empty,.string ByteArray.empty] 45))=wa at*
 obtain⟨⟨a0,a1,a2,a3,a4⟩,⟨b0,b1,b2,b3,b4⟩,b5,b6⟩:=IAt.of_blk B0.out
 simp only[Nat.zero_add] at a0 a1 a2 a3 a4 b0 b1 b2 b3 b4 b5 b6
 go_wp2_with fail
 refine(hcode1.out _ BE.out).mono ?_
 rintro e w1 ⟨rfl,hb⟩
 have C0:=qD (B0.out.step hb)
 have C1:=qD (B1.out.step hb)
 have CE:=qD (BE.out.step' hb)
 clear hb B0 B1 BE a0 a1 a2 a3 a4 b0 b1 b2 b3 b4 b5 b6 hcode1
 obtain⟨⟨a0,a1,a2,a3,a4⟩,⟨b0,b1,b2,b3,b4⟩,b5,b6⟩:=IAt.of_blk C0.out
 simp only[Nat.zero_add] at a0 a1 a2 a3 a4 b0 b1 b2 b3 b4 b5 b6
 go_wp2_with fail
 refine(hcode2.out _ CE.out).mono ?_
 rintro e w2 ⟨rfl,hb⟩
 have D0:=qD (C0.out.step hb)
 have D1:=qD (C1.out.step hb)
 have DE:=qD (CE.out.step' hb)
 clear hb C0 C1 CE a0 a1 a2 a3 a4 b0 b1 b2 b3 b4 b5 b6 hcode2
 obtain⟨⟨a0,a1,a2,a3,a4⟩,⟨b0,b1,b2,b3,b4⟩,b5,b6⟩:=IAt.of_blk D0.out
 simp only[Nat.zero_add] at a0 a1 a2 a3 a4 b0 b1 b2 b3 b4 b5 b6
 rcases hk with⟨k1,k2,rfl,rfl⟩|⟨k1,k2,rfl,rfl⟩
 ·have k1b:(c1.k==1)=false:=by simpa using k1
  have k2b:(c2.k==11)=false:=by simpa using k2
  go_wp2_with fail
  refine(HA.out _).mono ?_
  rintro e w3 ⟨rfl,hb⟩
  have E1:=qD (D1.out.step hb)
  have EE:=qD (DE.out.step' hb)
  clear hb D0 D1 DE a0 a1 a2 a3 a4 b0 b1 b2 b3 b4 b5 b6
  have r0:=E1.out.cell 0
  have r1:=E1.out.cell 1
  have rz:=E1.out.frozen
  simp at r0 r1
  go_wp2_with fail
  refine bodyPost_ret (results_pair_ok rfl _ _ _ rfl _ rfl _ L H ?_ ?_) rfl ⟨rfl,(EE.out.setCell (by show w.heap.size≤w.heap.size+1;omega) _).setCell (by show w.heap.size≤w.heap.size+1;omega) _⟩
  ·rw[((E1.out.set_ 0 (.string L)).set_ 1 (.string H)).cell];rfl
  ·rw[((E1.out.set_ 0 (.string L)).set_ 1 (.string H)).cell];rfl
 ·have k1b:(c1.k==1)=true:=by simpa using k1
  have k2b:(c2.k==11)=true:=by simpa using k2
  have r0:=D1.out.cell 0
  have r1:=D1.out.cell 1
  have rz:=D1.out.frozen
  simp at r0 r1
  go_wp2_with fail
  refine bodyPost_ret (results_pair_ok rfl _ _ _ rfl _ rfl _ ByteArray.empty ByteArray.empty ?_ ?_) rfl ⟨rfl,(DE.out.setCell (by show w.heap.size≤w.heap.size+1;omega) _).setCell (by show w.heap.size≤w.heap.size+1;omega) _⟩
  ·exact(((D1.out.set_ 0 (.string ByteArray.empty)).set_ 1 (.string ByteArray.empty)).cell 0).trans rfl
  ·exact(((D1.out.set_ 0 (.string ByteArray.empty)).set_ 1 (.string ByteArray.empty)).cell 1).trans rfl
theorem SRowB.of_own{w:World}{base g n cap:Nat}{xs:List B2}(h:w.ownsRow base 45 2 (.slice (some ⟨g,0,none⟩) n cap) n (flat recB2 xs)):SRowB w g (tagFrom 0 xs):=by
 rcases h.2 with⟨h',_⟩|⟨g',cap',cur,h',_,hg,_,_,_,htake⟩
 ·simp at h'
 ·simp only[Value.slice.injEq,Option.some.injEq,Addr.mk.injEq,and_true,true_and] at h'
  obtain⟨rfl,rfl⟩:=h'
  have e:flat recTB (tagFrom 0 xs)=flat recB2 xs:=by
   have:∀k,flat recTB (tagFrom k xs)=flat recB2 xs:=by
    intro k
    clear hg htake h
    induction xs generalizing k with
    | nil=>rfl
    | cons x r ih=>
     have e1:flat recTB (tagFrom k (x::r))=recB2 x++flat recTB (tagFrom (k+1) r):=rfl
     rw[e1,ih];rfl
   exact this 0
  refine⟨cur.toList.drop (n*2),?_⟩
  show w.heap[g]?=_
  rw[hg,e,←htake,List.take_append_drop]
theorem SRowB.reads{w:World}{g n cap:Nat}{L:List (B2×Nat)}(h:SRowB w g L)(hn:n=L.length)(hc:n≤cap):SR 2 recB2 w (some ⟨g,0,none⟩) n cap (L.map Prod.fst):=by
 refine⟨by rw[List.length_map,hn],hc,fun _=>⟨g,0,rfl,h.lt,fun i a hi j v hj=>?_⟩⟩
 rw[List.getElem?_map] at hi
 obtain⟨p,hp,rfl⟩:=Option.map_eq_some_iff.1 hi
 rw[Nat.zero_add]
 exact h.cell hp j v hj
theorem run_clear_n{P:Program}(w:World)(t e ty:TypeId)(z:Value)(zs:List Value)(n:Nat)(ht:P.underlying t=some (.slice e))(hv:∀w,(zeroValue e).run P w=.ok z w)(hz:(Builtin.zeroCells z.cells n).toList=zs)(h1:∀v∈zs,v.oneCell'=true)(b o c:Nat)(hc:∀j,j<zs.length→(w.cell? ⟨b,o+j,none⟩).isSome=true)(hf:∀j,j<zs.length→w.frozen? ⟨b,o+j,none⟩=false):
 (Builtin.clear_ #[t] ty #[.slice (some ⟨b,o,none⟩) n c]).run P w=.ok (.tuple #[]) (w.setCells b o zs):=by
 have hst:=run_storeCells_cells (P:=P) b o zs 0 w (by simpa using hc) (by simpa using hf) h1
 simp only[Nat.add_zero] at hst
 cases n with
 | zero=>
  have:zs=[]:=by rw[←hz];simp[Builtin.zeroCells]
  subst this
  simp[Builtin.clear_,run_underlying ht,World.setCells]
 | succ n=>simp[Builtin.clear_,run_underlying ht,hv,hz,hst]
theorem once_len(l:List B2):(once l).length≤l.length:=by
 induction l with
 | nil=>simp[once]
 | cons x r ih=>
  unfold once
  cases h:once r with
  | nil=>simp
  | cons y s=>
   rw[h] at ih
   simp only
   split<;>simp at*<;>omega
theorem once_head{x:B2}{r:List B2}:∃s,once (x::r)=x::s:=by
 unfold once
 cases h:once r with
 | nil=>exact⟨[],rfl⟩
 | cons y s=>
  simp only
  split
  ·rename_i e;exact⟨s,by rw[e]⟩
  ·exact⟨y::s,rfl⟩
theorem once_snoc:∀(l:List B2) (a b:B2),once (l++[a]++[b])=if a=b then once (l++[a]) else once (l++[a])++[b]
 | [],a,b=>by
  simp only[List.nil_append,List.cons_append,once]
  split
  ·rename_i e;rw[e]
  ·rfl
 | x::r,a,b=>by
  have ih:=once_snoc r a b
  obtain⟨y,q,hy⟩:∃y q,r++[a]=y::q:=by
   cases r with
   | nil=>exact⟨a,[],rfl⟩
   | cons y q=>exact⟨y,q++[a],rfl⟩
  obtain⟨s,hs⟩:=once_head (x:=y) (r:=q)
  have e1:once (r++[a])=y::s:=by rw[hy,hs]
  simp only[List.cons_append]
  unfold once
  rw[ih,e1]
  by_cases e:a=b
  ·rw[if_pos e,if_pos e]
  ·rw[if_neg e,if_neg e]
   simp only[List.cons_append]
   split<;>rfl
theorem once_last{l:List B2}{a b:B2}{i:Nat}(ha:l[i]?=some a)(hb:l[i+1]?=some b):once (l.take (i+2))=if a=b then once (l.take (i+1)) else once (l.take (i+1))++[b]:=by
 have e1:l.take (i+1)=l.take i++[a]:=by rw[List.take_add_one,ha];rfl
 have e2:l.take (i+2)=l.take i++[a]++[b]:=by rw[show i+2=i+1+1 from rfl,List.take_add_one,hb,e1];rfl
 rw[e2,once_snoc,e1]
theorem compB_nil(w:World):Calls Tryz.prog 72 #[.slice none 0 0] w fun e w'=>e=.returned (.slice none 0 0)∧w=w':=by
 go_enter Tryz.func72,Tryz.ntmps72
 go_wp2_with fail
 go_ret
 exact⟨rfl,rfl⟩
structure CpI(L:List (B2×Nat))(n j:Nat)(g:Nat)(w:World)(k t:Nat)(M:List (B2×Nat))(wr:World):Prop where
 row:SRowB wr g M
 but:But g w wr
 ln:M.length=n
 k1:1≤k
 kt:k≤j+1+t
 tn:j+1+t+1≤n
 eq:(M.map Prod.fst).take k=once ((L.map Prod.fst).take (j+1+t+1))
 same:∀i,j+1+t≤i→M[i]?=L[i]?
theorem CpI.step{L:List (B2×Nat)}{n j g:Nat}{w:World}{k t:Nat}{M:List (B2×Nat)}{wr w':World}(h:CpI L n j g w k t M wr)(hb:Below wr.heap.size wr w'):CpI L n j g w k t M w':=
 ⟨h.row.step hb,h.but.step hb,h.ln,h.k1,h.kt,h.tn,h.eq,h.same⟩
theorem CpI.skip{L:List (B2×Nat)}{n j g:Nat}{w:World}{k t:Nat}{M:List (B2×Nat)}{wr:World}{p q:B2×Nat}(h:CpI L n j g w k t M wr)(hp:L[j+1+t]?=some p)(hq:L[j+1+t+1]?=some q)(hl:j+1+t+2≤n)(e:p.1=q.1):CpI L n j g w k (t+1) M wr:=by
 refine⟨h.row,h.but,h.ln,h.k1,by have:=h.kt;omega,by omega,?_,fun i hi=>h.same i (by omega)⟩
 have:=once_last (l:=L.map Prod.fst) (i:=j+1+t) (a:=p.1) (b:=q.1) (by rw[List.getElem?_map,hp];rfl) (by rw[List.getElem?_map,hq];rfl)
 rw[if_pos e] at this
 rw[show j+1+(t+1)+1=j+1+t+2 from by omega,this,h.eq]
theorem CpI.put{L:List (B2×Nat)}{n j g:Nat}{w:World}{k t:Nat}{M:List (B2×Nat)}{wr:World}{p q:B2×Nat}(h:CpI L n j g w k t M wr)(hp:L[j+1+t]?=some p)(hq:L[j+1+t+1]?=some q)(hl:j+1+t+2≤n)(e:p.1≠q.1):
 CpI L n j g w (k+1) (t+1) (M.set k q) ((wr.setCell ⟨g,k*2,none⟩ (.string q.1.1)).setCell ⟨g,k*2+1,none⟩ (.string q.1.2)):=by
 have hkl:k<M.length:=by have:=h.ln;have:=h.kt;omega
 refine⟨h.row.put hkl q,(h.but.set (p:=⟨g,k*2,none⟩) rfl _).set (p:=⟨g,k*2+1,none⟩) rfl _,by rw[List.length_set];exact h.ln,by omega,by have:=h.kt;omega,by omega,?_,fun i hi=>?_⟩
 ·have:=once_last (l:=L.map Prod.fst) (i:=j+1+t) (a:=p.1) (b:=q.1) (by rw[List.getElem?_map,hp];rfl) (by rw[List.getElem?_map,hq];rfl)
  rw[if_neg e] at this
  rw[show j+1+(t+1)+1=j+1+t+2 from by omega,this,←h.eq,List.take_add_one,List.getElem?_map,List.getElem?_set_self hkl,List.map_set]
  rw[List.take_set_of_le (Nat.le_refl k)]
  rfl
 ·rw[List.getElem?_set_ne (by have:=h.kt;omega)]
  exact h.same i (by omega)
theorem size_setCells9(g:Nat):∀(vs:List Value) (o:Nat) (w:World),(w.setCells g o vs).heap.size=w.heap.size
 | [],_,_=>rfl
 | v::r,o,w=>by
  show((w.setCell ⟨g,o,none⟩ v).setCells g (o+1) r).heap.size=_
  rw[size_setCells9 g r]
  simp
theorem zero_pair(w:World):(zeroValue 45).run Tryz.prog w=.ok (.agg #[.string ByteArray.empty,.string ByteArray.empty]) w:=by
 obtain⟨j0,hj0,hy0,hy1,hy2⟩:=info_parts info_pair
 simp[zeroValue,typeInfo,hj0,hy0,Sem.run_bind]
def CompOk(L:List (B2×Nat))(g:Nat)(w:World)(e:Ending)(w':World):Prop:=
 ∃m c,e=.returned (.slice (some ⟨g,0,none⟩) m c)∧SR 2 recB2 w' (some ⟨g,0,none⟩) m c (once (L.map Prod.fst))∧But g w w'
theorem compB_any(L:List (B2×Nat))(g n c:Nat)(w:World)(hr:SRowB w g L)(hn:n=L.length)(hc:n≤c)(hz:n*32≤reach):
 Calls Tryz.prog 72 #[.slice (some ⟨g,0,none⟩) n c] w (CompOk L g w):=by
 have hzz:n≤140737488355328:=by unfold reach at hz;omega
 have HR:=qD hr
 have HN:=qD hn
 have HC:=qD hc
 clear hr hn hc hz
 by_cases h2:n<2
 ·have HO:Hid (once (L.map Prod.fst)=L.map Prod.fst):=by
   have hl:=HN.out
   match L,hl with
   | [],_=>exact qD rfl
   | [x],_=>exact qD rfl
   | x::y::r,hl=>simp at hl;omega
  go_enter Tryz.func72,Tryz.ntmps72
  go_wp2_with fail
  go_ret
  exact⟨n,c,rfl,by rw[HO.out];exact HR.out.reads HN.out HC.out,But.refl⟩
 go_enter Tryz.func72,Tryz.ntmps72
 go_upto_region 4 with fail
 go_loopw [3,4,5] (fun v3 _ _ wr=>∃j:Nat,j+1≤n∧v3=.int .i64 ((j+1:Nat):Int)∧once ((L.map Prod.fst).take (j+1))=(L.map Prod.fst).take (j+1)∧SRowB wr g L∧But g w wr) (fun v3 _ _ _=>n-(intOf v3).toNat)
 case atStart=>
  refine⟨0,by omega,rfl,?_,HR.out,But.refl⟩
  cases h:L.map Prod.fst with
  | nil=>rfl
  | cons x r=>rfl
 case round=>
  obtain⟨j,hj,rfl,ho,hrow,hbut⟩:=hrel
  have HO:=qD ho
  have HRW:=qD hrow
  have HBT:=qD hbut
  clear ho hrow hbut
  by_cases hlt:j+1<n
  ·obtain⟨p,hp⟩:∃p,L[j]?=some p:=⟨_,List.getElem?_eq_getElem (by have:=HN.out;omega)⟩
   obtain⟨q,hq⟩:∃q,L[j+1]?=some q:=⟨_,List.getElem?_eq_getElem (by have:=HN.out;omega)⟩
   have X0:∀kk:BW wr,kk.val.cell? ⟨g,j*2,none⟩=some (.string p.1.1):=fun kk=>kk.cell (HRW.out.cell hp 0 _ rfl)
   have X1:∀kk:BW wr,kk.val.cell? ⟨g,j*2+1,none⟩=some (.string p.1.2):=fun kk=>kk.cell (HRW.out.cell hp 1 _ rfl)
   have Y0:∀kk:BW wr,kk.val.cell? ⟨g,(j+1)*2,none⟩=some (.string q.1.1):=fun kk=>kk.cell (HRW.out.cell hq 0 _ rfl)
   have Y1:∀kk:BW wr,kk.val.cell? ⟨g,(j+1)*2+1,none⟩=some (.string q.1.2):=fun kk=>kk.cell (HRW.out.cell hq 1 _ rfl)
   have HP:=qD hp
   have HQ:=qD hq
   clear hp hq
   have i0:(0:Int)≤(j:Int):=by omega
   have i1:(j:Int)+1<(n:Int):=by omega
   have i2:(j:Int)<(n:Int):=by omega
   go_upto_region 6 with fail
   refine wp_region_bw (by kernel_rfl) (by kernel_rfl) ?_
   have hEQ:=eqB_run q.1 p.1
   obtain⟨z,hz⟩:∃z,z=decide (q.1=p.1):=⟨_,rfl⟩
   rw[←hz] at hEQ
   have HZ:=qD hz
   clear hz
   repeat(go_big_quiet_step (fail))
   go_big_quiet_want
   refine quietB_eql q.1 p.1 HZ.out rfl rfl rfl ?_
   go_frame
   go_big_quiet_on
   refine wpQuiet_nil ?_
   rintro _ ⟨kw,rfl⟩
   replace HRW:=qD (HRW.out.step kw.below)
   replace HBT:=qD (HBT.out.step kw.below)
   generalize kw.val=w5 at*
   clear X0 X1 Y0 Y1 hEQ
   cases z
   ·have hne:q.1≠p.1:=by have:=HZ.out;simpa using this.symm
    go_wp2_with fail
    go_roundw
    case rel=>
     refine⟨j+1,by omega,by go_num,?_,HRW.out,HBT.out⟩
     have:=once_last (l:=L.map Prod.fst) (i:=j) (a:=p.1) (b:=q.1) (by rw[List.getElem?_map,HP.out];rfl) (by rw[List.getElem?_map,HQ.out];rfl)
     rw[show j+1+1=j+2 from rfl,this,if_neg (fun e=>hne e.symm),HO.out,List.take_add_one (i:=j+1),List.getElem?_map,HQ.out]
     rfl
    case measure=>simp[intOf];omega
   ·have heq:q.1=p.1:=by have:=HZ.out;simpa using this.symm
    have cj:j+1<c:=by have:=HC.out;omega
    have cj1:(j:Int)+1<(c:Int):=by omega
    have cj2:(c==j+1)=false:=by simp;omega
    have cj3:¬c=j+1:=by omega
    go_upto_region 9 with fail
    obtain⟨m,hm⟩:∃m,n-(j+1)=m:=⟨_,rfl⟩
    obtain⟨cm,hcm⟩:∃m,c-(j+1)=m:=⟨_,rfl⟩
    rw[hm,hcm]
    have HM:=qD hm
    have HCM:=qD hcm
    clear hm hcm cj cj1 cj2 cj3
    go_loopw [3,5] (fun v3 v5 wr=>∃(k t:Nat) (M:List (B2×Nat)),v3=.int .i64 (k:Int)∧v5=.int .i64 ((t+1:Nat):Int)∧CpI L n j g w k t M wr) (fun _ v5 _=>n-(intOf v5).toNat)
    case atStart=>
     refine⟨j+1,0,L,rfl,rfl,HRW.out,HBT.out,HN.out.symm,by omega,by omega,by omega,?_,fun _ _=>rfl⟩
     have:=once_last (l:=L.map Prod.fst) (i:=j) (a:=p.1) (b:=q.1) (by rw[List.getElem?_map,HP.out];rfl) (by rw[List.getElem?_map,HQ.out];rfl)
     rw[if_pos heq.symm] at this
     rw[show j+1+0+1=j+2 from rfl,this,HO.out]
    case round=>
     obtain⟨k,t,M,rfl,rfl,hI⟩:=hrel
     have HI:=qD hI
     have k1:=hI.k1
     have kt:=hI.kt
     have tn:=hI.tn
     clear hI HRW HBT
     by_cases htl:j+1+t+2≤n
     ·obtain⟨p',hp'⟩:∃p,L[j+1+t]?=some p:=⟨_,List.getElem?_eq_getElem (by have:=HN.out;omega)⟩
      obtain⟨q',hq'⟩:∃q,L[j+1+t+1]?=some q:=⟨_,List.getElem?_eq_getElem (by have:=HN.out;omega)⟩
      have hpm:=(HI.out.same _ (qL)).trans hp'
      have hqm:=(HI.out.same (j+1+t+1) (by omega)).trans hq'
      have X0:∀kk:BW wr,kk.val.cell? ⟨g,(j+1)*2+t*2,none⟩=some (.string p'.1.1):=fun kk=>kk.cell (by have:=HI.out.row.cell hpm 0 _ rfl;rw[show(j+1)*2+t*2=(j+1+t)*2+0 from by omega];exact this)
      have X1:∀kk:BW wr,kk.val.cell? ⟨g,(j+1)*2+t*2+1,none⟩=some (.string p'.1.2):=fun kk=>kk.cell (by have:=HI.out.row.cell hpm 1 _ rfl;rw[show(j+1)*2+t*2+1=(j+1+t)*2+1 from by omega];exact this)
      have Y0:∀kk:BW wr,kk.val.cell? ⟨g,(j+1)*2+(t+1)*2,none⟩=some (.string q'.1.1):=fun kk=>kk.cell (by have:=HI.out.row.cell hqm 0 _ rfl;rw[show(j+1)*2+(t+1)*2=(j+1+t+1)*2+0 from by omega];exact this)
      have Y1:∀kk:BW wr,kk.val.cell? ⟨g,(j+1)*2+(t+1)*2+1,none⟩=some (.string q'.1.2):=fun kk=>kk.cell (by have:=HI.out.row.cell hqm 1 _ rfl;rw[show(j+1)*2+(t+1)*2+1=(j+1+t+1)*2+1 from by omega];exact this)
      have HP':=qD hp'
      have HQ':=qD hq'
      clear hp' hq' hpm hqm
      have t0:(0:Int)≤(t:Int):=by omega
      have hm:t+1<m:=by have:=HM.out;omega
      have t1:(t:Int)<(m:Int):=by omega
      have t2:(t:Int)+1<(m:Int):=by omega
      have HTL:=qD htl
      clear htl
      go_upto_region 11 with fail
      refine wp_region_bw (by kernel_rfl) (by kernel_rfl) ?_
      repeat(go_big_quiet_step (fail))
      go_big_quiet_want
      obtain⟨z,hz⟩:∃z,z=!decide (q'.1=p'.1):=⟨_,rfl⟩
      refine quietB_neq q'.1 p'.1 hz rfl rfl rfl ?_
      go_frame
      have HZ:=qD hz
      clear hz
      go_big_quiet_on
      refine wpQuiet_nil ?_
      rintro _ ⟨kw,rfl⟩
      replace HI:=qD (HI.out.step kw.below)
      generalize kw.val=w6 at*
      clear X0 X1 Y0 Y1
      cases z
      ·have heq':p'.1=q'.1:=by
        have h:=HZ.out
        by_cases e:q'.1=p'.1
        ·exact e.symm
        ·rw[decide_eq_false e] at h;simp at h
       go_wp2_with fail
       go_roundw
       case rel=>exact⟨k,t+1,M,rfl,by go_num,HI.out.skip HP'.out HQ'.out HTL.out heq'⟩
       case measure=>simp[intOf];omega
      ·have hne':p'.1≠q'.1:=by have:=HZ.out;intro e;rw[e] at this;simp at this
       have hqm:=(HI.out.same (j+1+t+1) (by omega)).trans HQ'.out
       have y0:w6.cell? ⟨g,(j+1)*2+(t+1)*2,none⟩=some (.string q'.1.1):=by have:=HI.out.row.cell hqm 0 _ rfl;rw[show(j+1)*2+(t+1)*2=(j+1+t+1)*2+0 from by omega];exact this
       have y1:w6.cell? ⟨g,(j+1)*2+(t+1)*2+1,none⟩=some (.string q'.1.2):=by have:=HI.out.row.cell hqm 1 _ rfl;rw[show(j+1)*2+(t+1)*2+1=(j+1+t+1)*2+1 from by omega];exact this
       have z0:=HI.out.row.frozen
       obtain⟨r,hr⟩:∃p,M[k]?=some p:=⟨_,List.getElem?_eq_getElem (by have:=HI.out.ln;have:=HI.out.kt;omega)⟩
       have s0:w6.cell? ⟨g,k*2,none⟩=some (.string r.1.1):=HI.out.row.cell hr 0 _ rfl
       have s1:w6.cell? ⟨g,k*2+1,none⟩=some (.string r.1.2):=HI.out.row.cell hr 1 _ rfl
       have kn:k<n:=by have:=HI.out.kt;omega
       have kn1:(k:Int)<(n:Int):=by omega
       clear hqm hr
       go_wp2_with fail
       go_roundw
       case rel=>exact⟨k+1,t+1,M.set k q',by go_num,by go_num,HI.out.put HP'.out HQ'.out HTL.out hne'⟩
       case measure=>simp[intOf];omega
     ·have hm:m=t+1:=by have:=HM.out;omega
      have hmi:¬((t:Int)+1<(m:Int)):=by omega
      have kn:k<n:=by have:=HI.out.kt;omega
      have kn1:(k:Int)<(n:Int):=by omega
      have kc:k<c:=by have:=HC.out;omega
      have kc1:(k:Int)<(c:Int):=by omega
      have kc2:¬c=k:=by omega
      have hfin:Hid ((M.map Prod.fst).take k=once (L.map Prod.fst)):=by
       have:=HI.out.eq
       rw[List.take_of_length_le (l:=L.map Prod.fst) (by rw[List.length_map];have:=HN.out;omega)] at this
       exact qD this
      obtain⟨zs,hzs⟩:∃zs,(Builtin.zeroCells (Value.cells (.agg #[.string ByteArray.empty,.string ByteArray.empty])) (n-k)).toList=zs:=⟨_,rfl⟩
      have hzl:zs.length=(n-k)*2:=by rw[←hzs];simp[Builtin.zeroCells,Value.cells]
      have hz1:∀v∈zs,v.oneCell'=true:=by
       rw[←hzs]
       intro v hv
       obtain⟨i,hi,rfl⟩:=List.getElem_of_mem hv
       have hd:i%2=0∨i%2=1:=by omega
       simp only[Builtin.zeroCells,Value.cells]
       rcases hd with hd|hd<;>simp[hd,Value.oneCell']
      have hcl:∀ty,(Builtin.clear_ #[43] ty #[.slice (some ⟨g,k*2,none⟩) (n-k) (c-k)]).run Tryz.prog wr=.ok (.tuple #[]) (wr.setCells g (k*2) zs):=fun ty=>
       run_clear_n wr _ _ ty _ zs (n-k) Tryz.underlying43 zero_pair hzs hz1 g _ _ (fun i hi=>by
        obtain⟨e,he⟩:∃e,M[k+i/2]?=some e:=⟨_,List.getElem?_eq_getElem (by have:=HI.out.ln;omega)⟩
        have hd:i%2=0∨i%2=1:=by omega
        rcases hd with hd|hd
        ·have:=HI.out.row.cell he 0 _ rfl
         rw[show k*2+i=(k+i/2)*2+0 from by omega,this];rfl
        ·have:=HI.out.row.cell he 1 _ rfl
         rw[show k*2+i=(k+i/2)*2+1 from by omega,this];rfl) (fun i _=>HI.out.row.frozen _)
      go_wp2_with fail
      go_ret
      refine⟨k,c,rfl,⟨?_,Nat.le_of_lt kc,fun _=>⟨g,0,rfl,?_,fun i a hi q hq=>?_⟩⟩,HI.out.but.setCells _ _⟩
      ·rw[←hfin.out,List.length_take,List.length_map,HI.out.ln];omega
      ·exact Nat.lt_of_lt_of_le HI.out.row.lt (by rw[show(wr.setCells g (k*2) zs).heap.size=wr.heap.size from size_setCells9 _ _ _ _];exact qL)
      ·intro hv
       rw[←hfin.out] at hi
       have hik:i<k:=by have:=(List.getElem?_eq_some_iff.1 hi).1;rw[List.length_take] at this;omega
       rw[List.getElem?_take_of_lt hik,List.getElem?_map] at hi
       obtain⟨e,he,rfl⟩:=Option.map_eq_some_iff.1 hi
       have hq2:q<2:=by have:=(List.getElem?_eq_some_iff.1 hv).1;simpa[recB2] using this
       rw[Nat.zero_add,World.cell?_setCells_out g zs (k*2) wr ⟨g,i*2+q,none⟩ (fun _ _=>.inl (by show i*2+q<k*2;omega))]
       exact HI.out.row.cell he q _ hv
  ·obtain rfl:n=j+1:=by omega
   have HO2:Hid (once (L.map Prod.fst)=L.map Prod.fst):=by
    have:=HO.out
    rw[List.take_of_length_le (by rw[List.length_map];have:=HN.out;omega)] at this
    exact this
   go_wp2_with fail
   go_ret
   exact⟨j+1,c,rfl,by rw[HO2.out];exact HRW.out.reads HN.out HC.out,HBT.out⟩
open Go
theorem wpList_mid_w{P:Program}{ops:Array Oper}{rest:List Oper}{op:Oper}{a:Act}{w:World}{Q:Exit→Act→World→Prop}(hw:Region.wanted op (yielded ops a.tmps)=true)(ty:TypeId)(x:Operand)(ho:op.op=.load ty x)(b o:Nat)(hx:a.eval x=.pointer (some ⟨b,o,none⟩))(cs:List Value)(d:TypeDesc)(hc:w.rangeAt b o cs)(hu:P.underlying ty=some d)(hd:d.isRow=true)(hi:(P.info? ty).map (·.size)=some cs.length)(h:wpList P ops Q rest (a.put op.dst (.agg cs.toArray)) w):wpList P ops Q (op::rest) a w:=
 wpList_step fun K hK=>by
  simp only[hw,if_true]
  exact wp_load_mid ty x ho b o hx cs d hc hu hd hi (hK _ _ h)
theorem range_blk{w:World}{g:Nat}{t:TypeId}{cs:Array Value}(h:Blk w g t cs)(l:List Value)(o:Nat)(hl:∀(j:Nat) (v:Value),l[j]?=some v→cs[o+j]?=some v):w.rangeAt g o l:=by
 intro j v hj
 rw[h.cell]
 exact hl j v hj
theorem retb{a b:Bool}(h:a=b):Ending.returned (.bool a)=.returned (.bool b):=by rw[h]
def onPathB(op:Int):Bool:=decide (2≤op)&&decide (op≤19)
def hasTextB(op:Int):Bool:=decide (op=16)||(decide (op=17)||decide (op=19))
def hasArgB(op:Int):Bool:=(decide (2≤op)&&decide (op≤7))||hasTextB op
def hasArgsB(op:Int):Bool:=decide (op=8)||(decide (op=9)||decide (op=14))
def kidsB(p:PrT):Bool:=if p.op=15∨p.op=23 then decide (p.kn=1) else if p.op=20∨p.op=21∨p.op=22 then decide (0<p.kn) else decide (p.kn=0)
def numbersB(p:PrT):Bool:=
 if p.op=10 then decide (p.n=0)||decide (p.n=1) else if p.op=11 then decide (1≤p.n)&&decide (p.n≤11) else if p.op=12 then decide (1≤p.n)&&(decide (0≤p.m)&&decide (p.m<p.n)) else if p.op=13 then decide (0≤p.n) else true
theorem onPath_any(op:Int)(w:World):Calls Tryz.prog 46 #[.int .i64 op] w fun e w'=>e=.returned (.bool (onPathB op))∧w'=w:=by
 go_enter Tryz.func46,Tryz.ntmps46
 go_wp2
 all_goals go_ret
 all_goals refine⟨retb ?_,rfl⟩
 all_goals first|(simp[onPathB, *];done)|(rw[Bool.eq_iff_iff];simp[onPathB, *];done)|(rw[Bool.eq_iff_iff];simp[onPathB, *];omega)|(simp[onPathB, *];omega)|(simp_all[onPathB];done)|(simp_all[onPathB];omega)
theorem hasText_any(op:Int)(w:World):Calls Tryz.prog 48 #[.int .i64 op] w fun e w'=>e=.returned (.bool (hasTextB op))∧w'=w:=by
 go_enter Tryz.func48,Tryz.ntmps48
 go_wp2
 all_goals go_ret
 all_goals refine⟨retb ?_,rfl⟩
 all_goals first|(simp[hasTextB, *];done)|(rw[Bool.eq_iff_iff];simp[hasTextB, *];done)|(rw[Bool.eq_iff_iff];simp[hasTextB, *];omega)|(simp[hasTextB, *];omega)|(simp_all[hasTextB];done)|(simp_all[hasTextB];omega)
theorem hasArgs_any(op:Int)(w:World):Calls Tryz.prog 44 #[.int .i64 op] w fun e w'=>e=.returned (.bool (hasArgsB op))∧w'=w:=by
 go_enter Tryz.func44,Tryz.ntmps44
 go_wp2
 all_goals go_ret
 all_goals refine⟨retb ?_,rfl⟩
 all_goals first|(simp[hasArgsB, *];done)|(rw[Bool.eq_iff_iff];simp[hasArgsB, *];done)|(rw[Bool.eq_iff_iff];simp[hasArgsB, *];omega)|(simp[hasArgsB, *];omega)|(simp_all[hasArgsB];done)|(simp_all[hasArgsB];omega)
theorem hasArg_any(op:Int)(w:World):Calls Tryz.prog 47 #[.int .i64 op] w fun e w'=>e=.returned (.bool (hasArgB op))∧w'=w:=by
 go_enter Tryz.func47,Tryz.ntmps47
 go_wp2_with (go_at_call 48;refine(hasText_any _ _).mono ?_;rintro e w' ⟨rfl,rfl⟩)
 all_goals go_ret
 all_goals refine⟨retb ?_,rfl⟩
 all_goals first|(simp[hasArgB, *];done)|(rw[Bool.eq_iff_iff];simp[hasArgB, *];done)|(rw[Bool.eq_iff_iff];simp[hasArgB, *];omega)|(simp[hasArgB, *];omega)|(simp_all[hasArgB];done)|(simp_all[hasArgB];omega)
theorem kids_any(p:PrT)(w:World):Calls Tryz.prog 43 #[aggPr p] w fun e w'=>e=.returned (.bool (kidsB p))∧Below w.heap.size w w':=by
 by_cases h15:p.op=15
 ·have H15:=qD h15
  go_enter Tryz.func43,Tryz.ntmps43
  go_wp2
  all_goals go_ret
  all_goals refine⟨retb ?_,(Below.refl _ _).alloc (qL) _⟩
  all_goals first|(simp[kidsB,H15.out];done)|(rw[Bool.eq_iff_iff];simp[kidsB,H15.out];done)|(rw[Bool.eq_iff_iff];simp[kidsB,H15.out];omega)|(simp_all[kidsB,H15.out];done)|(simp_all[kidsB,H15.out];omega)
 have H15:=qD h15
 have b15:(p.op==15)=false:=by simpa using h15
 clear h15
 by_cases h23:p.op=23
 ·have H23:=qD h23
  go_enter Tryz.func43,Tryz.ntmps43
  go_wp2
  all_goals go_ret
  all_goals refine⟨retb ?_,(Below.refl _ _).alloc (qL) _⟩
  all_goals first|(simp[kidsB,H15.out,H23.out];done)|(rw[Bool.eq_iff_iff];simp[kidsB,H15.out,H23.out];done)|(rw[Bool.eq_iff_iff];simp[kidsB,H15.out,H23.out];omega)|(simp_all[kidsB,H15.out,H23.out];done)|(simp_all[kidsB,H15.out,H23.out];omega)
 have H23:=qD h23
 have b23:(p.op==23)=false:=by simpa using h23
 clear h23
 by_cases h20:p.op=20
 ·have H20:=qD h20
  go_enter Tryz.func43,Tryz.ntmps43
  go_wp2
  all_goals go_ret
  all_goals refine⟨retb ?_,(Below.refl _ _).alloc (qL) _⟩
  all_goals first|(simp[kidsB,H15.out,H23.out,H20.out];done)|(rw[Bool.eq_iff_iff];simp[kidsB,H15.out,H23.out,H20.out];done)|(rw[Bool.eq_iff_iff];simp[kidsB,H15.out,H23.out,H20.out];omega)|(simp_all[kidsB,H15.out,H23.out,H20.out];done)|(simp_all[kidsB,H15.out,H23.out,H20.out];omega)
 have H20:=qD h20
 have b20:(p.op==20)=false:=by simpa using h20
 clear h20
 by_cases h21:p.op=21
 ·have H21:=qD h21
  go_enter Tryz.func43,Tryz.ntmps43
  go_wp2
  all_goals go_ret
  all_goals refine⟨retb ?_,(Below.refl _ _).alloc (qL) _⟩
  all_goals first|(simp[kidsB,H15.out,H23.out,H20.out,H21.out];done)|(rw[Bool.eq_iff_iff];simp[kidsB,H15.out,H23.out,H20.out,H21.out];done)|(rw[Bool.eq_iff_iff];simp[kidsB,H15.out,H23.out,H20.out,H21.out];omega)|(simp_all[kidsB,H15.out,H23.out,H20.out,H21.out];done)|(simp_all[kidsB,H15.out,H23.out,H20.out,H21.out];omega)
 have H21:=qD h21
 have b21:(p.op==21)=false:=by simpa using h21
 clear h21
 by_cases h22:p.op=22
 ·have H22:=qD h22
  go_enter Tryz.func43,Tryz.ntmps43
  go_wp2
  all_goals go_ret
  all_goals refine⟨retb ?_,(Below.refl _ _).alloc (qL) _⟩
  all_goals first|(simp[kidsB,H15.out,H23.out,H20.out,H21.out,H22.out];done)|(rw[Bool.eq_iff_iff];simp[kidsB,H15.out,H23.out,H20.out,H21.out,H22.out];done)|(rw[Bool.eq_iff_iff];simp[kidsB,H15.out,H23.out,H20.out,H21.out,H22.out];omega)|(simp_all[kidsB,H15.out,H23.out,H20.out,H21.out,H22.out];done)|(simp_all[kidsB,H15.out,H23.out,H20.out,H21.out,H22.out];omega)
 have H22:=qD h22
 have b22:(p.op==22)=false:=by simpa using h22
 clear h22
 go_enter Tryz.func43,Tryz.ntmps43
 go_wp2
 all_goals go_ret
 all_goals refine⟨retb ?_,(Below.refl _ _).alloc (qL) _⟩
 all_goals first|(simp[kidsB,H15.out,H23.out,H20.out,H21.out,H22.out];done)|(rw[Bool.eq_iff_iff];simp[kidsB,H15.out,H23.out,H20.out,H21.out,H22.out];done)|(rw[Bool.eq_iff_iff];simp[kidsB,H15.out,H23.out,H20.out,H21.out,H22.out];omega)|(simp_all[kidsB,H15.out,H23.out,H20.out,H21.out,H22.out];done)|(simp_all[kidsB,H15.out,H23.out,H20.out,H21.out,H22.out];omega)
theorem numbers_any(p:PrT)(w:World):Calls Tryz.prog 45 #[aggPr p] w fun e w'=>e=.returned (.bool (numbersB p))∧Below w.heap.size w w':=by
 by_cases h10:p.op=10
 ·have H10:=qD h10
  go_enter Tryz.func45,Tryz.ntmps45
  go_wp2
  all_goals go_ret
  all_goals refine⟨retb ?_,(Below.refl _ _).alloc (qL) _⟩
  all_goals first|(simp[numbersB,H10.out];done)|(rw[Bool.eq_iff_iff];simp[numbersB,H10.out];done)|(rw[Bool.eq_iff_iff];simp[numbersB,H10.out];omega)|(simp_all[numbersB,H10.out];done)|(simp_all[numbersB,H10.out];omega)
 have H10:=qD h10
 have b10:(p.op==10)=false:=by simpa using h10
 clear h10
 by_cases h11:p.op=11
 ·have H11:=qD h11
  go_enter Tryz.func45,Tryz.ntmps45
  go_wp2
  all_goals go_ret
  all_goals refine⟨retb ?_,(Below.refl _ _).alloc (qL) _⟩
  all_goals first|(simp[numbersB,H10.out,H11.out];done)|(rw[Bool.eq_iff_iff];simp[numbersB,H10.out,H11.out];done)|(rw[Bool.eq_iff_iff];simp[numbersB,H10.out,H11.out];omega)|(simp_all[numbersB,H10.out,H11.out];done)|(simp_all[numbersB,H10.out,H11.out];omega)
 have H11:=qD h11
 have b11:(p.op==11)=false:=by simpa using h11
 clear h11
 by_cases h12:p.op=12
 ·have H12:=qD h12
  go_enter Tryz.func45,Tryz.ntmps45
  go_wp2
  all_goals go_ret
  all_goals refine⟨retb ?_,(Below.refl _ _).alloc (qL) _⟩
  all_goals first|(simp[numbersB,H10.out,H11.out,H12.out];done)|(rw[Bool.eq_iff_iff];simp[numbersB,H10.out,H11.out,H12.out];done)|(rw[Bool.eq_iff_iff];simp[numbersB,H10.out,H11.out,H12.out];omega)|(simp_all[numbersB,H10.out,H11.out,H12.out];done)|(simp_all[numbersB,H10.out,H11.out,H12.out];omega)
 have H12:=qD h12
 have b12:(p.op==12)=false:=by simpa using h12
 clear h12
 by_cases h13:p.op=13
 ·have H13:=qD h13
  go_enter Tryz.func45,Tryz.ntmps45
  go_wp2
  all_goals go_ret
  all_goals refine⟨retb ?_,(Below.refl _ _).alloc (qL) _⟩
  all_goals first|(simp[numbersB,H10.out,H11.out,H12.out,H13.out];done)|(rw[Bool.eq_iff_iff];simp[numbersB,H10.out,H11.out,H12.out,H13.out];done)|(rw[Bool.eq_iff_iff];simp[numbersB,H10.out,H11.out,H12.out,H13.out];omega)|(simp_all[numbersB,H10.out,H11.out,H12.out,H13.out];done)|(simp_all[numbersB,H10.out,H11.out,H12.out,H13.out];omega)
 have H13:=qD h13
 have b13:(p.op==13)=false:=by simpa using h13
 clear h13
 go_enter Tryz.func45,Tryz.ntmps45
 go_wp2
 all_goals go_ret
 all_goals refine⟨retb ?_,(Below.refl _ _).alloc (qL) _⟩
 all_goals first|(simp[numbersB,H10.out,H11.out,H12.out,H13.out];done)|(rw[Bool.eq_iff_iff];simp[numbersB,H10.out,H11.out,H12.out,H13.out];done)|(rw[Bool.eq_iff_iff];simp[numbersB,H10.out,H11.out,H12.out,H13.out];omega)|(simp_all[numbersB,H10.out,H11.out,H12.out,H13.out];done)|(simp_all[numbersB,H10.out,H11.out,H12.out,H13.out];omega)
def AnyB(w:World)(e:Ending)(w':World):Prop:=∃b:Bool,e=.returned (.bool b)∧Below w.heap.size w w'
theorem missing13_any(c:VC)(w:World):Calls Tryz.prog 104 #[c.val] w (AnyB w):=by
 go_enter Tryz.func104,Tryz.ntmps104
 go_wp2
 all_goals go_ret
 all_goals exact⟨_,rfl,(Below.refl _ _).alloc (qL) _⟩
theorem noShape_any(k r:Int)(s:Slc (Int×Int))(w:World):Calls Tryz.prog 105 #[.agg #[.int .i64 k,s.v,.int .i64 r]] w (AnyB w):=by
 go_enter Tryz.func105,Tryz.ntmps105
 go_wp2
 all_goals go_ret
 all_goals exact⟨_,rfl,(Below.refl _ _).alloc (qL) _⟩
theorem range_arg{w:World}{g:Nat}{x:ExT}(h:Blk w g 35 (arrEx x)):w.rangeAt g 4 x.arg.1.list:=
 range_blk h _ _ fun j v hj=>by
  have hl:j<5:=(List.getElem?_eq_some_iff.1 hj).1
  match j,hl,hj with
  | 0,_,hj=>exact hj
  | 1,_,hj=>exact hj
  | 2,_,hj=>exact hj
  | 3,_,hj=>exact hj
  | 4,_,hj=>exact hj
theorem noExpr_any(x:ExT)(w:World):Calls Tryz.prog 106 #[aggEx x] w (AnyB w):=by
 have B0:Hid (Blk (w.alloc (.cells (arrEx x) 35)) w.heap.size 35 (arrEx x)):=Blk.new_at rfl
 have BE:=qD ((Below.refl w.heap.size w).alloc (qL) (Obj.cells (arrEx x) 35))
 have R4:=qD (range_arg B0.out)
 go_enter Tryz.func106,Tryz.ntmps106
 go_wp2_with (first|(refine wpList_mid_w rfl 29 _ rfl w.heap.size 4 rfl _ _ R4.out Tryz.underlying29 rfl (by kernel_rfl) ?_)|(go_at_call 104;refine(missing13_any x.arg.1 _).mono ?_;rintro e w1 ⟨b,rfl,hb⟩;have d9:=(B0.out.step hb).cell 9;have d10:=(B0.out.step hb).cell 10;simp at d9 d10;have BF:=qD (BE.out.step' hb);clear hb;cases b))
 all_goals go_ret
 all_goals first|exact⟨_,rfl,BF.out⟩|exact⟨_,rfl,BE.out⟩
theorem range_parg{w:World}{g:Nat}{p:PrT}(h:Blk w g 38 (arrPr p)):w.rangeAt g 2 p.arg.1.list:=
 range_blk h _ _ fun j v hj=>by
  have hl:j<5:=(List.getElem?_eq_some_iff.1 hj).1
  match j,hl,hj with
  | 0,_,hj=>exact hj
  | 1,_,hj=>exact hj
  | 2,_,hj=>exact hj
  | 3,_,hj=>exact hj
  | 4,_,hj=>exact hj
theorem range_pshape{w:World}{g:Nat}{p:PrT}(h:Blk w g 38 (arrPr p)):w.rangeAt g 10 [.int .i64 p.sk,p.pts.v,.int .i64 p.sr]:=
 range_blk h _ _ fun j v hj=>by
  have hl:j<3:=(List.getElem?_eq_some_iff.1 hj).1
  match j,hl,hj with
  | 0,_,hj=>exact hj
  | 1,_,hj=>exact hj
  | 2,_,hj=>exact hj
theorem range_pex{w:World}{g:Nat}{p:PrT}(h:Blk w g 38 (arrPr p)):w.rangeAt g 13 (recEx p.ex):=
 range_blk h _ _ fun j v hj=>by
  have hl:j<11:=(List.getElem?_eq_some_iff.1 hj).1
  match j,hl,hj with
  | 0,_,hj=>exact hj
  | 1,_,hj=>exact hj
  | 2,_,hj=>exact hj
  | 3,_,hj=>exact hj
  | 4,_,hj=>exact hj
  | 5,_,hj=>exact hj
  | 6,_,hj=>exact hj
  | 7,_,hj=>exact hj
  | 8,_,hj=>exact hj
  | 9,_,hj=>exact hj
  | 10,_,hj=>exact hj
structure PrC(w:World)(g:Nat)(p:PrT):Prop where
 d0:w.cell? ⟨g,0,none⟩=some (.int .i64 p.op)
 d1:w.cell? ⟨g,1,none⟩=some (.slice p.path.A p.path.n p.path.c)
 d2:w.cell? ⟨g,2,none⟩=some (.int .i64 p.arg.1.k)
 d4:w.cell? ⟨g,4,none⟩=some (.string p.arg.1.t)
 d7:w.cell? ⟨g,7,none⟩=some (.slice p.args.A p.args.n p.args.c)
 d8:w.cell? ⟨g,8,none⟩=some (.int .i64 p.n)
 d9:w.cell? ⟨g,9,none⟩=some (.int .i64 p.m)
 d24:w.cell? ⟨g,24,none⟩=some (.slice p.kA p.kn p.kc)
theorem pr_cells{w:World}{g:Nat}{p:PrT}(h:Blk w g 38 (arrPr p)):PrC w g p:=
 ⟨(h.cell 0).trans rfl,(h.cell 1).trans rfl,(h.cell 2).trans rfl,(h.cell 4).trans rfl,(h.cell 7).trans rfl,(h.cell 8).trans rfl,(h.cell 9).trans rfl,(h.cell 24).trans rfl⟩
theorem pr_full{w:World}{g:Nat}{p:PrT}(h:Blk w g 38 (arrPr p)):w.rangeAt g 0 (recPr p):=
 range_blk h _ _ fun j v hj=>by
  rw[Nat.zero_add]
  show(recPr p).toArray[j]?=some v
  rw[List.getElem?_toArray]
  exact hj
structure ExC(w:World)(g:Nat)(x:ExT):Prop where
 d0:w.cell? ⟨g,0,none⟩=some (.int .i64 x.op)
 d1:w.cell? ⟨g,1,none⟩=some (.slice x.path.A x.path.n x.path.c)
 d2:w.cell? ⟨g,2,none⟩=some (.string x.name)
 d3:w.cell? ⟨g,3,none⟩=some (.slice x.names.A x.names.n x.names.c)
 d9:w.cell? ⟨g,9,none⟩=some (.int .i64 x.n)
 d10:w.cell? ⟨g,10,none⟩=some (.slice x.kA x.kn x.kc)
theorem ex_cells{w:World}{g:Nat}{x:ExT}(h:Blk w g 35 (arrEx x)):ExC w g x:=
 ⟨(h.cell 0).trans rfl,(h.cell 1).trans rfl,(h.cell 2).trans rfl,(h.cell 3).trans rfl,(h.cell 9).trans rfl,(h.cell 10).trans rfl⟩
theorem ex_full{w:World}{g:Nat}{x:ExT}(h:Blk w g 35 (arrEx x)):w.rangeAt g 0 (recEx x):=
 range_blk h _ _ fun j v hj=>by
  rw[Nat.zero_add]
  show(recEx x).toArray[j]?=some v
  rw[List.getElem?_toArray]
  exact hj
theorem SR.row{α:Type}{rec:α→List Value}{s:Nat}{w:World}{A:Option Addr}{n c:Nat}{xs:List α}(h:SR s rec w A n c xs){i:Nat}(hi:i<n):
 ∃b off x,A=some ⟨b,off,none⟩∧b<w.heap.size∧xs[i]?=some x∧x∈xs∧w.rangeAt b (off+i*s) (rec x):=by
 obtain⟨b,off,e,hb,hc⟩:=h.el (by omega)
 have hl:i<xs.length:=by have:=h.ln;omega
 have h1:=List.getElem?_eq_getElem hl
 exact⟨b,off,xs[i],e,hb,h1,List.mem_of_getElem? h1,hc i _ h1⟩
theorem range_step{w w':World}{b o:Nat}{l:List Value}(h:w.rangeAt b o l)(hb:Below w.heap.size w w')(hl:b<w.heap.size):w'.rangeAt b o l:=fun j v hj=>(hb.cell (p:=⟨b,o+j,none⟩) hl).trans (h j v hj)
theorem flat_setB{xs:List B2}{i:Nat}{a:B2}{v:ByteArray}(h:xs[i]?=some a):(flat recB2 xs).set (i*2+1) (.string v)=flat recB2 (xs.set i (a.1,v)):=by
 induction xs generalizing i with
 | nil=>simp at h
 | cons b l ih=>
  have e:∀(y:B2) (t:List B2),flat recB2 (y::t)=recB2 y++flat recB2 t:=fun _ _=>rfl
  cases i with
  | zero=>
   simp at h
   subst h
   rfl
  | succ i=>
   have:=ih (i:=i) (by simpa using h)
   rw[List.set_cons_succ,e,e,←this,List.set_append_right _ _ (by rw[recB2_length];omega),recB2_length,show(i+1)*2+1-2=i*2+1 by omega]
theorem ownB_set{w:World}{base:Nat}{e:TypeId}{size n c g:Nat}{xs:List Value}(h:w.ownsRow base e size (.slice (some ⟨g,0,none⟩) n c) n xs)(k:Nat)(u:Value):
 (w.setCell ⟨g,k,none⟩ u).ownsRow base e size (.slice (some ⟨g,0,none⟩) n c) n (xs.set k u):=by
 refine⟨by rw[List.length_set];exact h.1,?_⟩
 rcases h.2 with⟨h1,_⟩|⟨g',cap,cur,hv,hg,hh,hnc,hm,hsz,htk⟩
 ·cases h1
 ·injection hv with h1 h2 h3
  injection h1 with h1
  injection h1 with h1
  subst h1 h3
  have hb:Blk w g e cur:=hh
  refine .inr ⟨g,c,cur.setIfInBounds k u,rfl,hg,hb.set_ k u,hnc,hm,by simpa using hsz,?_⟩
  rw[Array.toList_setIfInBounds,List.take_set,htk]
theorem ownB_cell{w:World}{base:Nat}{e:TypeId}{size n c g:Nat}{xs:List Value}(h:w.ownsRow base e size (.slice (some ⟨g,0,none⟩) n c) n xs){k:Nat}{u:Value}(hk:xs[k]?=some u):w.cell? ⟨g,k,none⟩=some u∧w.frozen? ⟨g,k,none⟩=false:=by
 have:=h.cells (g:=g) rfl k u hk
 rw[addr_add,Nat.zero_add] at this
 refine⟨this,?_⟩
 rcases h.2 with⟨h1,_⟩|⟨g',cap,cur,hv,hg,hh,_⟩
 ·cases h1
 ·injection hv with h1
  injection h1 with h1
  injection h1 with h1
  subst h1
  exact Blk.frozen (t:=e) (cs:=cur) hh k
theorem own_some{w:World}{base:Nat}{e:TypeId}{size n:Nat}{v:Value}{xs:List Value}(h:w.ownsRow base e size v n xs)(h0:0<n):∃g c,v=.slice (some ⟨g,0,none⟩) n c∧base≤g∧g<w.heap.size:=by
 rcases h.2 with⟨_,h1⟩|⟨g,cap,cur,hv,hg,hh,_⟩
 ·omega
 ·exact⟨g,cap,hv,hg,Blk.lt (t:=e) (cs:=cur) hh⟩
structure JnI(w2:World)(Q:List B2)(i l:Nat)(v:Value)(wr:World):Prop where
 own:wr.ownsRow w2.heap.size 45 2 v l (flat recB2 (jAll ByteArray.empty (Q.take i)))
 bel:Below w2.heap.size w2 wr
 ln:(jAll ByteArray.empty (Q.take i)).length=l
theorem JnI.step{w2:World}{Q:List B2}{i l:Nat}{v:Value}{wr w':World}(h:JnI w2 Q i l v wr)(hb:Below wr.heap.size wr w'):JnI w2 Q i l v w':=⟨own_step h.own hb,h.bel.step' hb,h.ln⟩
theorem JnI.alloc{w2:World}{Q:List B2}{i l:Nat}{v:Value}{wr:World}(h:JnI w2 Q i l v wr)(o:Obj):JnI w2 Q i l v (wr.alloc o):=⟨h.own.alloc _,h.bel.alloc h.bel.size o,h.ln⟩
theorem JnI.last{w2:World}{Q:List B2}{i l g c:Nat}{wr:World}(h:JnI w2 Q i (l+1) (.slice (some ⟨g,0,none⟩) (l+1) c) wr):∃q:B2,(jAll ByteArray.empty (Q.take i))[l]?=some q∧wr.cell? ⟨g,l*2+1,none⟩=some (.string q.2)∧wr.frozen? ⟨g,l*2+1,none⟩=false:=by
 obtain⟨q,hq⟩:∃q,(jAll ByteArray.empty (Q.take i))[l]?=some q:=⟨_,List.getElem?_eq_getElem (by have:=h.ln;omega)⟩
 obtain⟨h1,h2⟩:=ownB_cell h.own (flat_get recB2_length hq (j:=1) (v:=.string q.2) rfl)
 exact⟨q,hq,h1,h2⟩
theorem empty_list(b:ByteArray):b.toList=[]↔b=ByteArray.empty:=by
 rw[Go.ByteArray.toList_eq]
 constructor
 ·intro h;exact ByteArray.ext (Array.toList_inj.1 h)
 ·rintro rfl;rfl
theorem same_list(a b:ByteArray):a.toList=b.toList↔a=b:=by
 rw[Go.ByteArray.toList_eq,Go.ByteArray.toList_eq]
 constructor
 ·intro h;exact ByteArray.ext (Array.toList_inj.1 h)
 ·rintro rfl;rfl
def JoinOk(xs:List B2)(base:Nat)(w:World)(e:Ending)(w':World):Prop:=
 ∃A m c Z,e=.returned (.slice A m c)∧SortedB xs Z∧SR 2 recB2 w' A m c (jAll ByteArray.empty (once Z))∧m≤xs.length∧Below base w w'
theorem joinedB_any(xs:List B2)(base n:Nat)(v:Value)(w:World)(h:w.ownsRow base 45 2 v n (flat recB2 xs))(hn:xs.length=n)(hb:base≤w.heap.size)(hz:n≤4000000000):
 Calls Tryz.prog 25 #[v] w (JoinOk xs base w):=by
 obtain⟨j0,hj0,hy0,hy1,hy2⟩:=info_parts info_pair
 have HN:=qD hn
 have HZ:=qD hz
 have HBS:=qD hb
 have sorted:Hid (Calls Tryz.prog 68 #[v,.func (.func 69) #[] #[]] w fun e w'=>e=.returned (.tuple #[])∧∃S,Sorted cmB2 (tagFrom 0 xs) S∧Below base w w'∧(v=.slice none 0 0∧S=[]∨∃g c,v=.slice (some ⟨g,0,none⟩) n c∧base≤g∧SRowB w' g S∧n≤c)):=by
  rcases h.2 with⟨h',h0⟩|⟨g,cap,cur,h',hg,_,hnc,_⟩
  ·subst h'
   have hx:xs=[]:=List.eq_nil_of_length_eq_zero (by omega)
   refine qD ((sortB_nil w).mono ?_)
   rintro e w' ⟨rfl,rfl⟩
   exact⟨rfl,[],by rw[hx];exact⟨.nil,.nil⟩,(Below.refl _ _).mono hb,.inl ⟨rfl,rfl⟩⟩
  ·subst h'
   refine qD ((sortB_any (tagFrom 0 xs) g n cap w (SRowB.of_own h) (by rw[tagFrom_length];exact hn.symm) (by unfold reach;omega) (tagFrom_tagged _ _) (fun x y _ _ wr _=>pcmp_any x.1 y.1 wr)).mono ?_)
   rintro e w' ⟨rfl,S,hS,hI⟩
   simp only[List.nil_append,List.append_nil] at hI
   exact⟨rfl,S,hS,hI.but.below hb hg,.inr ⟨g,cap,rfl,hg,hI.row,hnc⟩⟩
 clear h hn hb hz
 go_enter Tryz.func25,Tryz.ntmps25
 go_wp2_with fail
 refine sorted.out.mono ?_
 rintro e w1 ⟨rfl,S,hS,hb1,hv⟩
 have HS:=qD (SortedB.of hS)
 have HSL:Hid (S.length=n):=by rw[Hid,hS.perm.length_eq,tagFrom_length];exact HN.out
 have HB1:=qD hb1
 have comp:Hid (Calls Tryz.prog 72 #[v] w1 fun e w'=>∃A m c,e=.returned (.slice A m c)∧SR 2 recB2 w' A m c (once (S.map Prod.fst))∧Below base w w'):=by
  rcases hv with⟨h',rfl⟩|⟨g,c,h',hg,hrow,hnc⟩
  ·subst h'
   refine qD ((compB_nil w1).mono ?_)
   rintro e w' ⟨rfl,rfl⟩
   exact⟨none,0,0,rfl,SR.nil,hb1⟩
  ·subst h'
   refine qD ((compB_any S g n c w1 hrow HSL.out.symm hnc (by have:=HZ.out;unfold reach;omega)).mono ?_)
   rintro e w' ⟨m,c',rfl,hsr,hbt⟩
   exact⟨_,m,c',rfl,hsr,hb1.trans (hbt.below (Nat.le_trans HBS.out hb1.size) hg)⟩
 clear sorted hS hb1 hv
 go_wp2_with fail
 refine comp.out.mono ?_
 rintro e w2 ⟨A,m,c,rfl,hsr,hb2⟩
 obtain⟨Q,hQ⟩:∃Q,Q=once (S.map Prod.fst):=⟨_,rfl⟩
 rw[←hQ] at hsr
 have HSR:=qD hsr
 have HB2:=qD hb2
 have HQ:=qD hQ
 have HQL:Hid (Q.length=m):=qD hsr.ln.symm
 have HMN:Hid (m≤n):=by
  have:=once_len (S.map Prod.fst)
  rw[←hQ,List.length_map,HSL.out,HQL.out] at this
  exact qD this
 have mz:m≤4000000000:=Nat.le_trans HMN.out HZ.out
 clear comp hsr hb2 hQ
 go_upto_region 4 with fail
 go_loopw [3,5,6,12] (fun v3 _ _ v12 wr=>∃(i l:Nat),i≤m∧v12=.int .i64 i∧JnI w2 Q i l v3 wr) (fun _ _ _ v12 _=>m-(intOf v12).toNat)
 case atStart=>exact⟨0,0,Nat.zero_le _,rfl,own_nil _ _ _ _,Below.refl _ _,rfl⟩
 case round=>
  obtain⟨i,l,hi,rfl,hI⟩:=hrel
  have HI:=qD hI
  obtain⟨A3,c3,rfl,hlc⟩:=own_slice hI.own
  have HLM:Hid (l≤i):=by have:=jAll_len ByteArray.empty Q i;rw[hI.ln] at this;exact qD this
  clear hI
  by_cases hlt:i<m
  ·obtain⟨b,off,r,rfl,hb,hr,_,hrg⟩:=HSR.out.row hlt
   have HR:=qD hr
   have e0:=(HI.out.bel.cell (p:=⟨b,off+i*2,none⟩) hb).trans (hrg 0 _ rfl)
   have e1:=(HI.out.bel.cell (p:=⟨b,off+i*2+1,none⟩) hb).trans (hrg 1 _ rfl)
   have i0:(0:Int)≤(i:Int):=by omega
   have i1:(i:Int)<(m:Int):=by omega
   have lz:l≤4000000000:=by have:=HLM.out;omega
   clear hr hrg
   go_upto_region 6 with fail
   change Code.wp _ _ _ _ (wr.alloc (.cells #[.string r.1,.string r.2] 45))
   have JB:Hid (Blk (wr.alloc (.cells #[.string r.1,.string r.2] 45)) wr.heap.size 45 #[.string r.1,.string r.2]):=Blk.new_at rfl
   replace HI:=qD (HI.out.alloc (.cells #[.string r.1,.string r.2] 45))
   generalize wr.alloc (.cells #[.string r.1,.string r.2] 45)=wa at*
   generalize wr.heap.size=ga at*
   clear e0 e1
   rcases Nat.eq_zero_or_pos l with rfl|hl0
   ·have R0:∀kk:BW wa,kk.val.cell? ⟨ga,0,none⟩=some (.string r.1):=fun kk=>kk.cell ((JB.out.cell 0).trans rfl)
    go_upto_region 7 with fail
    refine wp_region_bw (by kernel_rfl) (by kernel_rfl) ?_
    repeat(go_big_quiet_step (fail))
    refine wpQuiet_nil ?_
    rintro _ ⟨kw,rfl⟩
    clear R0
    replace JB:=qD (JB.out.step kw.below)
    replace HI:=qD (HI.out.step kw.below)
    generalize kw.val=w5 at*
    have k0:=JB.out.cell 0
    have k1:=JB.out.cell 1
    simp at k0 k1
    go_wp2_with (at_builtin;refine wpList_append_any _ rfl _ _ 43 rfl w2.heap.size 45 j0 (.agg #[.string ByteArray.empty,.string ByteArray.empty]) 2 32 Tryz.underlying43 hj0 hy0 hy1 hy2 rfl (by decide) (.slice A3 0 c3) 0 (flat recB2 (jAll ByteArray.empty (Q.take i))) rfl (HI.out.own.alloc _) _ _ 1 _ (recB2 r) rfl ⟨rfl,fun _=>⟨_,rfl,Nat.lt_succ_self _,news_at _ _ _⟩⟩ (recB2_one _) (by unfold maxLen;omega) (by omega) (le_alloc HI.out.bel.size _) ?_)
    intro v' w6 hown hgr hat
    have HX:Hid (JnI w2 Q (i+1) (0+1) v' w6):=by
     have e:jAll ByteArray.empty (Q.take (i+1))=jAll ByteArray.empty (Q.take i)++[r]:=by
      rw[jAll_take HR.out]
      exact jstep_app (fun qq hq=>by
       have h0:=HI.out.ln
       have h1:=(List.getElem?_eq_some_iff.1 hq).1
       omega)
     refine⟨?_,(HI.out.bel.alloc HI.out.bel.size _).grown hgr (le_alloc HI.out.bel.size _) (own_ge HI.out.own),?_⟩
     ·rw[e,flat_snoc];exact hown
     ·rw[e,List.length_append,HI.out.ln];rfl
    clear hown hgr hat k0 k1
    go_wp2_with fail
    go_roundw
    case rel=>exact⟨i+1,0+1,by omega,by go_num,HX.out⟩
    case measure=>simp[intOf];omega
   ·obtain⟨l',rfl⟩:∃l',l=l'+1:=⟨l-1,by omega⟩
    obtain⟨g,c4,hA3,hg,hgl⟩:=own_some HI.out.own (by omega)
    injection hA3 with hA3 _ hc34
    subst hA3 hc34
    obtain⟨q,hq,hqc,hqf⟩:=HI.out.last
    have HQQ:=qD hq
    have R0:∀kk:BW wa,kk.val.cell? ⟨ga,0,none⟩=some (.string r.1):=fun kk=>kk.cell ((JB.out.cell 0).trans rfl)
    have X0:∀kk:BW wa,kk.val.cell? ⟨g,l'*2+1,none⟩=some (.string q.2):=fun kk=>kk.cell hqc
    have l0:(0:Int)≤(l':Int):=by omega
    have l1:(l':Int)<(l':Int)+1:=by omega
    have l2:(0:Int)<(l':Int)+1:=by omega
    clear hq hqc hqf hl0
    go_upto_region 7 with fail
    cases hc1:(!q.2.toList.isEmpty)
    all_goals simp only[Bool.not_eq_true',Bool.not_eq_false'] at hc1
    ·refine wp_region_bw (by kernel_rfl) (by kernel_rfl) ?_
     repeat(go_big_quiet_step (fail))
     refine wpQuiet_nil ?_
     rintro _ ⟨kw,rfl⟩
     clear R0 X0
     replace JB:=qD (JB.out.step kw.below)
     replace HI:=qD (HI.out.step kw.below)
     generalize kw.val=w5 at*
     have k0:=JB.out.cell 0
     have k1:=JB.out.cell 1
     simp at k0 k1
     go_wp2_with (at_builtin;refine wpList_append_any _ rfl _ _ 43 rfl w2.heap.size 45 j0 (.agg #[.string ByteArray.empty,.string ByteArray.empty]) 2 32 Tryz.underlying43 hj0 hy0 hy1 hy2 rfl (by decide) (.slice (some ⟨g,0,none⟩) (l'+1) c3) (l'+1) (flat recB2 (jAll ByteArray.empty (Q.take i))) rfl (HI.out.own.alloc _) _ _ 1 _ (recB2 r) rfl ⟨rfl,fun _=>⟨_,rfl,Nat.lt_succ_self _,news_at _ _ _⟩⟩ (recB2_one _) (by unfold maxLen;omega) (by omega) (le_alloc HI.out.bel.size _) ?_)
     intro v' w6 hown hgr hat
     have HX:Hid (JnI w2 Q (i+1) ((l'+1)+1) v' w6):=by
      have e:jAll ByteArray.empty (Q.take (i+1))=jAll ByteArray.empty (Q.take i)++[r]:=by
       rw[jAll_take HR.out]
       exact jstep_app (fun qq hq=>by
        have h0:=HI.out.ln
        have h1:(jAll ByteArray.empty (Q.take i))[l']?=some q:=HQQ.out
        rw[h0,Nat.add_sub_cancel,h1] at hq
        obtain rfl:=Option.some.inj hq
        rintro⟨h2,_⟩
        exact h2 ((empty_list _).1 (List.isEmpty_iff.1 hc1)))
      refine⟨?_,(HI.out.bel.alloc HI.out.bel.size _).grown hgr (le_alloc HI.out.bel.size _) (own_ge HI.out.own),?_⟩
      ·rw[e,flat_snoc];exact hown
      ·rw[e,List.length_append,HI.out.ln];rfl
     clear hown hgr hat k0 k1
     go_wp2_with fail
     go_roundw
     case rel=>exact⟨i+1,(l'+1)+1,by omega,by go_num,HX.out⟩
     case measure=>simp[intOf];omega
    ·cases hc2:(q.2.toList==r.1.toList)
     ·refine wp_region_bw (by kernel_rfl) (by kernel_rfl) ?_
      repeat(go_big_quiet_step (fail))
      refine wpQuiet_nil ?_
      rintro _ ⟨kw,rfl⟩
      clear R0 X0
      replace JB:=qD (JB.out.step kw.below)
      replace HI:=qD (HI.out.step kw.below)
      generalize kw.val=w5 at*
      have k0:=JB.out.cell 0
      have k1:=JB.out.cell 1
      simp at k0 k1
      go_wp2_with (at_builtin;refine wpList_append_any _ rfl _ _ 43 rfl w2.heap.size 45 j0 (.agg #[.string ByteArray.empty,.string ByteArray.empty]) 2 32 Tryz.underlying43 hj0 hy0 hy1 hy2 rfl (by decide) (.slice (some ⟨g,0,none⟩) (l'+1) c3) (l'+1) (flat recB2 (jAll ByteArray.empty (Q.take i))) rfl (HI.out.own.alloc _) _ _ 1 _ (recB2 r) rfl ⟨rfl,fun _=>⟨_,rfl,Nat.lt_succ_self _,news_at _ _ _⟩⟩ (recB2_one _) (by unfold maxLen;omega) (by omega) (le_alloc HI.out.bel.size _) ?_)
      intro v' w6 hown hgr hat
      have HX:Hid (JnI w2 Q (i+1) ((l'+1)+1) v' w6):=by
       have e:jAll ByteArray.empty (Q.take (i+1))=jAll ByteArray.empty (Q.take i)++[r]:=by
        rw[jAll_take HR.out]
        exact jstep_app (fun qq hq=>by
         have h0:=HI.out.ln
         have h1:(jAll ByteArray.empty (Q.take i))[l']?=some q:=HQQ.out
         rw[h0,Nat.add_sub_cancel,h1] at hq
         obtain rfl:=Option.some.inj hq
         rintro⟨_,h2⟩
         rw[h2] at hc2
         simp at hc2)
       refine⟨?_,(HI.out.bel.alloc HI.out.bel.size _).grown hgr (le_alloc HI.out.bel.size _) (own_ge HI.out.own),?_⟩
       ·rw[e,flat_snoc];exact hown
       ·rw[e,List.length_append,HI.out.ln];rfl
      clear hown hgr hat k0 k1
      go_wp2_with fail
      go_roundw
      case rel=>exact⟨i+1,(l'+1)+1,by omega,by go_num,HX.out⟩
      case measure=>simp[intOf];omega
     ·refine wp_region_bw (by kernel_rfl) (by kernel_rfl) ?_
      repeat(go_big_quiet_step (fail))
      refine wpQuiet_nil ?_
      rintro _ ⟨kw,rfl⟩
      clear R0 X0
      replace JB:=qD (JB.out.step kw.below)
      replace HI:=qD (HI.out.step kw.below)
      generalize kw.val=w5 at*
      have k1:=JB.out.cell 1
      simp at k1
      obtain⟨q',hq',hqc,hqf⟩:=HI.out.last
      obtain rfl:q=q':=by have:=HQQ.out.symm.trans hq';simpa using this
      clear hq'
      have H1:=qD hc1
      have H2:=qD hc2
      go_upto_region 8 with fail
      go_region
      all_goals
       go_wp2_with fail
       go_roundw
       case rel=>
        refine⟨i+1,l'+1,by omega,by go_num,?_,?_,?_⟩
        ·have e:jAll ByteArray.empty (Q.take (i+1))=(jAll ByteArray.empty (Q.take i)).set l' (q.1,r.2):=by
          rw[jAll_take HR.out]
          refine jstep_set HI.out.ln HQQ.out ?_ ((same_list _ _).1 (by simpa using H2.out))
          intro e
          have:=H1.out
          rw[e] at this
          exact absurd (List.isEmpty_iff.2 ((empty_list _).2 rfl)) (by rw[this];decide)
         rw[e,←flat_setB HQQ.out]
         exact ownB_set HI.out.own _ _
        ·exact(Below.setCell (p:=⟨g,l'*2+1,none⟩) HI.out.bel hg _).drew
        ·rw[jAll_take HR.out,jstep_set HI.out.ln HQQ.out (by
          intro e
          have:=H1.out
          rw[e] at this
          exact absurd (List.isEmpty_iff.2 ((empty_list _).2 rfl)) (by rw[this];decide)) ((same_list _ _).1 (by simpa using H2.out)),List.length_set]
         exact HI.out.ln
       case measure=>simp[intOf];omega
  ·obtain rfl:i=m:=by omega
   have hq:Q.take i=Q:=List.take_of_length_le (by have:=HQL.out;omega)
   have HF:Hid (SR 2 recB2 wr A3 l c3 (jAll ByteArray.empty Q)):=by
    obtain⟨A',c',he,hs⟩:=SR.of_own recB2_length HI.out.own HI.out.ln
    injection he with h1 h2 h3
    subst h1 h3
    rw[hq] at hs
    exact qD hs
   go_wp2_with fail
   go_ret
   refine⟨A3,l,c3,S.map Prod.fst,rfl,HS.out,?_,?_,?_⟩
   ·rw[←HQ.out];exact HF.out
   ·have:=HLM.out;have:=HMN.out;have:=HN.out;omega
   ·exact HB2.out.trans (HI.out.bel.mono (Nat.le_trans HBS.out HB2.out.size))
noncomputable def afterE(s:ByteArray):Ending:=.returned (.tuple #[.string ((afterB s).getD ByteArray.empty),.bool (afterB s).isSome])
theorem afterE_none{s:ByteArray}(h:stripN s s.size=0):afterE s=.returned (.tuple #[.string ByteArray.empty,.bool false]):=by
 unfold afterE afterB
 rw[h]
 rfl
theorem afterE_some{s:ByteArray}{n:Nat}(h:stripN s s.size=n+1):afterE s=.returned (.tuple #[.string (s.extract 0 n++⟨#[s.data[n]?.getD 0+1]⟩),.bool true]):=by
 unfold afterE afterB
 rw[h]
 rfl
theorem strip_255{s : ByteArray}{m : Nat}(hm : m < s.size)(h : (s[m]'hm).toNat = 255) : stripN s (m + 1) = stripN s m := by
 have e:s.data[m]?=some 255:=by
  rw[Array.getElem?_eq_some_iff]
  exact⟨hm,UInt8.toNat_inj.1 h⟩
 conv=>lhs;unfold stripN
 rw[if_pos e]
theorem strip_ne{s : ByteArray}{m : Nat}(hm : m < s.size)(h : (s[m]'hm).toNat ≠ 255) : stripN s (m + 1) = m + 1 := by
 have e:¬s.data[m]?=some 255:=by
  rw[Array.getElem?_eq_some_iff]
  rintro⟨_,k⟩
  exact h (congrArg UInt8.toNat k)
 conv=>lhs;unfold stripN
 rw[if_neg e]
theorem after_any(s:ByteArray)(w:World)(hz:s.size≤reach):Calls Tryz.prog 67 #[.string s] w fun e w'=>e=afterE s∧Below w.heap.size w w':=by
 have HZ:Hid (s.size≤reach):=qD hz
 clear hz
 go_enter Tryz.func67,Tryz.ntmps67
 go_upto_region 2 with fail
 go_loopw [4] (fun v wr=>∃n:Nat,v=.int .i64 n∧n≤s.size∧stripN s n=stripN s s.size∧wr=w) (fun v _=>match v with | .int _ n=>n.toNat|_=>0)
 case atStart=>exact⟨s.size,rfl,qL,rfl,rfl⟩
 case round=>
  obtain⟨n,rfl,hn,hs,rfl⟩:=hrel
  have HS:=qD hs
  clear hs
  cases n with
  | zero=>
   go_wp2_with fail
   go_ret2
   exact⟨(afterE_none (by rw[←HS.out];rfl)).symm,Below.refl _ _⟩
  | succ m=>
   have HM:Hid (m<s.size):=qD hn
   have HW:Hid (wrap64 (m:Int)=(m:Int)):=by have:=HZ.out;unfold reach at this;exact qD (by unfold wrap64;omega)
   obtain ⟨x, hx⟩ : ∃ x : Int, ((s[m]'HM.out).toNat : Int) = x := ⟨_, rfl⟩
   by_cases h255:x=255
   ·subst h255
    have HX:=qD (strip_255 HM.out (by omega))
    have hw:=HW.out
    go_wp2_with fail
    refine⟨⟨m,by rw[hw],by omega,by rw[←HX.out];exact HS.out,trivial⟩,?_⟩
    rw[hw]
    show(m:Int).toNat<((m+1:Nat):Int).toNat
    omega
   ·have HX:=qD (strip_ne HM.out (by omega))
    have h1:(x==255)=false:=by simpa using h255
    clear h255
    have hw:=HW.out
    go_wp2_with fail
    obtain⟨z,hz⟩:∃z:Int,z=(x+1)%256:=⟨_,rfl⟩
    have hcv:(convert 108 9 (.slice (some ⟨wr.heap.size,0,none⟩) 1 1)).run Tryz.prog ((wr.alloc (.cells #[.int .u8 ((x+1)%256)] 5)).drew)=.ok (.string (strOfNums [z])) ((wr.alloc (.cells #[.int .u8 ((x+1)%256)] 5)).drew):=by
     rw[←hz]
     refine run_convert_bytes_arg (P:=Tryz.prog) _ 108 5 Tryz.underlying108 Tryz.underlying5 wr.heap.size 0 1 1 [z] rfl (fun i hi=>?_) 9 Tryz.underlying9
     obtain rfl:i=0:=by omega
     exact(Blk.new wr 5 #[.int .u8 z]).drew.cell 0
    obtain⟨Z,hZ⟩:∃Z,Z=strOfNums [z]:=⟨_,rfl⟩
    rw[←hZ] at hcv
    have hZs:Z.size=1:=by rw[hZ,strOfNums_size];rfl
    have hcat:∀w2:World,(Op.stringOp .add (s.extract 0 m) Z).run Tryz.prog w2=.ok (.string (s.extract 0 m++Z)) w2:=fun w2=>run_string_add_sum _ _ _ (by
     have h1:=HZ.out
     have h2:=HM.out
     unfold reach at h1
     rw[hZs,ByteArray.size_extract]
     omega)
    clear hZs
    have HZ2:=qD hZ
    have HZZ:=qD hz
    clear hz hZ
    have HX1:=qD hx
    go_region
    all_goals
     go_wp2_with fail
     go_ret2
     refine⟨?_,((Below.refl _ _).alloc (qL) _).drew⟩
     have hb := (s[m]'HM.out).toNat_lt
     have hx1:=HX1.out
     have hat : s.data[m]?.getD 0 = s[m]'HM.out := by
      rw[Array.getElem?_eq_getElem (show m<s.data.size from HM.out)]
      rfl
     rw[afterE_some (show stripN s s.size=m+1 by rw[←HS.out];exact HX.out),hat,HZ2.out,HZZ.out]
     have hne:x≠255:=by simpa using h1
     have e : strOfNums [(x + 1) % 256] = ⟨#[s[m]'HM.out + 1]⟩ := by
      apply ByteArray.ext
      apply Array.toList_inj.1
      rw[strOfNums_data]
      simp only[List.map_cons,List.map_nil]
      have : UInt8.ofNat ((x + 1) % 256).toNat = s[m]'HM.out + 1 := by
       apply UInt8.toNat_inj.1
       rw[UInt8.toNat_ofNat',UInt8.toNat_add]
       have:(1:UInt8).toNat=1:=rfl
       rw[this]
       omega
      rw[this]
     rw[e]
     rfl
theorem afterL_255:∀l:List Int,afterL (l++[255])=afterL l
 | []=>by simp[afterL]
 | y::r=>by rw[List.cons_append,afterL,afterL,afterL_255 r]
theorem afterL_snoc{x:Int}(hx:x≠255):∀l:List Int,afterL (l++[x])=some (l++[x+1])
 | []=>by simp[afterL,hx]
 | y::r=>by rw[List.cons_append,afterL,afterL_snoc hx r];rfl
theorem strN_at{s:ByteArray}{i:Nat}{x:UInt8}(h:s.data[i]?=some x):(strN s)[i]?=some (x.toNat:Int):=by
 unfold strN
 rw[List.getElem?_map,Array.getElem?_toList,h]
 rfl
def cutAt(s:ByteArray):Nat→Option (List Int)
 | 0=>none
 | n+1=>some ((strN s).take n++[((s.data[n]?.getD 0).toNat:Int)+1])
theorem afterL_strip(s:ByteArray):∀n,n≤s.size→afterL ((strN s).take n)=cutAt s (stripN s n)
 | 0,_=>by simp[afterL,stripN,cutAt]
 | n+1,h=>by
  obtain ⟨x, hx⟩ : ∃ x, s.data[n]? = some x := ⟨s.data[n]'(by have : s.data.size = s.size := rfl; omega), by rw [Array.getElem?_eq_some_iff]; exact ⟨_, rfl⟩⟩
  have hN:=strN_at hx
  have e:(strN s).take (n+1)=(strN s).take n++[(x.toNat:Int)]:=by rw[List.take_add_one,hN];rfl
  have ih:=afterL_strip s n (by omega)
  unfold stripN
  by_cases h255:x=255
  ·rw[hx,if_pos (by rw[h255]),e,h255]
   exact(afterL_255 _).trans ih
  ·have hn:(x.toNat:Int)≠255:=by
    intro k
    apply h255
    apply UInt8.toNat_inj.1
    have:(255:UInt8).toNat=255:=rfl
    omega
   rw[hx,if_neg (by simpa using h255),e,afterL_snoc hn]
   show _=some ((strN s).take n++[((s.data[n]?.getD 0).toNat:Int)+1])
   rw[hx]
   rfl
theorem after_strip(s:ByteArray):afterL (strN s)=cutAt s (stripN s s.size):=by
 have:=afterL_strip s s.size (qL)
 rwa [List.take_of_length_le (by rw[strN_len];omega)] at this
theorem strOf_take(s:ByteArray)(n:Nat):strOfNums ((strN s).take n)=s.extract 0 n:=by
 apply ByteArray.ext
 apply Array.toList_inj.1
 rw[strOfNums_data,ByteArray.data_extract,Array.toList_extract]
 have:=congrArg (fun b=>b.data.toList) (strOfNums_strN s)
 simp only[strOfNums_data] at this
 rw[List.map_take,this,List.extract_eq_take_drop]
 simp
theorem strOf_byte(x:UInt8)(h:x≠255):strOfNums [(x.toNat:Int)+1]=⟨#[x+1]⟩:=by
 have hx:x.toNat+1<256:=by
  have h1:=x.toNat_lt
  have:x.toNat≠255:=fun k=>h (UInt8.toNat_inj.1 k)
  omega
 apply ByteArray.ext
 apply Array.toList_inj.1
 rw[strOfNums_data]
 simp only[List.map_cons,List.map_nil]
 have:UInt8.ofNat ((x.toNat:Int)+1).toNat=x+1:=by
  apply UInt8.toNat_inj.1
  rw[UInt8.toNat_ofNat',UInt8.toNat_add]
  have:(1:UInt8).toNat=1:=rfl
  rw[this]
  congr 1
 rw[this]
theorem strip_at{s:ByteArray}:∀{n m:Nat},stripN s n=m+1→s.data[m]?≠some 255
 | 0,m,h=>by simp[stripN] at h
 | n+1,m,h=>by
  unfold stripN at h
  split at h
  ·exact strip_at h
  ·rename_i k
   obtain rfl:n=m:=by omega
   exact k
theorem afterB_eq(s:ByteArray):afterB s=(afterL (strN s)).map strOfNums:=by
 rw[after_strip]
 unfold afterB
 cases h:stripN s s.size with
 | zero=>rfl
 | succ n=>
  have hle:=stripN_le s s.size
  have hat:=strip_at h
  obtain ⟨x, hx⟩ : ∃ x, s.data[n]? = some x := ⟨s.data[n]'(by have : s.data.size = s.size := rfl; omega), by rw [Array.getElem?_eq_some_iff]; exact ⟨_, rfl⟩⟩
  unfold cutAt
  simp only[hx,Option.getD_some,Option.map_some,Option.some.injEq]
  rw[strOfNums_append,strOf_take,strOf_byte x fun k=>hat (by rw[hx,k])]
end Go.Proofs.YtfkapannahcjiaaGreatDoor
