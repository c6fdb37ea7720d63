/- Parts of the proof, joined: IvBaseA, ShOne, ChRepA, RoSmall, RoInts, RgRec, PrRep, PrPure, Kit8, PrSmall. -/
import Derived.Test.YthfahkaadbdicaaGreatDoorRt1
import Derived.Test.YthfahkaadbdicaaGreatDoorRt6
import Derived.Test.YthfahkaadbdicaaGreatDoorRt9
import Derived.Test.YthfahkaadbdicaaGreatDoorRt11
import Derived.Test.YthfahkaadbdicaaGreatDoorRt2
import Derived.Deep.RegionHeld3
import Derived.Deep.MidRow
set_option maxRecDepth 100000
set_option maxHeartbeats 16000000
set_option linter.unusedSimpArgs false
open Go.Proofs.Tryz
open ByteArray (empty)
namespace Go.RowKit
theorem Below.kc{w w':World}(hb:Below w.heap.size w w'){a:Addr}{v:Value}(h:w.cell? a=some v):w'.cell? a=some v:=(hb.cell (Lr w a h)).trans h
end Go.RowKit
namespace Go.Proofs.YthfahkaadbdicaaGreatDoor
open Go.RowKit
def Fr(B:Nat)(w:World)(p:PI):Prop:=RV (fun b=>B<=b) w p.1.1.1 p.1.1.2/\RV (fun b=>B<=b) w p.1.2.1 p.1.2.2
theorem Fr.step{B:Nat}{w w':World}{p:PI}(h:Fr B w p)(hb:Below w.heap.size w w'):Fr B w' p:=⟨h.1.step hb,h.2.step hb⟩
theorem Fr.low{B B':Nat}{w:World}{p:PI}(h:Fr B w p)(hb:B'<=B):Fr B' w p:=⟨h.1.mono fun _ k=>Lt hb k,h.2.mono fun _ k=>Lt hb k⟩
def Ji(l:List Iv)(w:World)(e:Ending)(w':World):Prop:=
 ∃(A:Option Addr) (m c:Nat) (ys:List PI),e=.returned (.slice A m c)/\ys.map ar=l/\SI w' A m c ys/\Below w.heap.size w w'/\∀y∈ys,Fr w.heap.size w' y
def JN(B:Nat)(v:Value)(w:World)(p:PI):Prop:=RV (fun b=>B<=b/\v.ownBlock≠some b) w p.1.1.1 p.1.1.2/\RV (fun b=>B<=b/\v.ownBlock≠some b) w p.1.2.1 p.1.2.2
structure Gb(w:World)(xs:List PS)(i:Nat)(v:Value)(ys:List PI)(wr:World):Prop where
 own:wr.ownsRow w.heap.size 84 12 v i (aJ ax ys)
 eq:ys.map ar=(xs.take i).map fun x=>dr (al x)
 el:∀y∈ys,JN w.heap.size v wr y
 bel:Below w.heap.size w wr
theorem Gb.step{w:World}{xs:List PS}{i:Nat}{v:Value}{ys:List PI}{wr w':World}(h:Gb w xs i v ys wr)(hb:Below wr.heap.size wr w'):Gb w xs i v ys w':=
 ⟨aV h.own hb,h.eq,fun y hy=>⟨(h.el y hy).1.step hb,(h.el y hy).2.step hb⟩,h.bel.Jp hb⟩
theorem Gb.next{w:World}{xs:List PS}{i:Nat}{v v':Value}{ys:List PI}{w4 w5:World}{o:Obj}{p:PS}{q:PI}(h:Gb w xs i v ys w4)(hp:xs[i]?=some p)(hq:ar q=dr (al p))(hel:JN w.heap.size v w4 q)(hg:(w4.alloc o).grownBy w5 v.ownBlock)(hat:v'.ownBlock=v.ownBlock\/v'.ownBlock=some (w4.alloc o).heap.size)(ho:w5.ownsRow w.heap.size 84 12 v' (i+1) (aJ ax ys++ax q)):Gb w xs (i+1) v' (ys++[q]) w5:=by
 refine⟨by rw[bN];exact ho,?_,fun y hy=>?_,(h.bel.alloc h.bel.size o).grown hg (by have:=h.bel.size;simp;omega) (bU h.own)⟩
 ·rw[take_snoc' hp,Lc,Lc,h.eq,Md,Md,hq]
 ·have hy':JN w.heap.size v w4 y:=by
   rcases LY.1 hy with hy|hy
   ·exact h.el y hy
   ·simp at hy;subst hy;exact hel
  exact⟨jD hy'.1 hg hat,jD hy'.2 hg hat⟩
theorem af{a:Nat}{w:World}(h:a<=w.heap.size)(o:Obj):a<=(w.alloc o).heap.size:=by simp;omega
theorem Jj(p:PS)(ca cb:VC):ar (((ca,p.1.1.2),(cb,p.2.1.2)),(!p.1.2,p.2.2))=dr (al p):=rfl
theorem kC(xs:List PS)(A:Option Addr)(n c:Nat)(w:World)(h:SS w A n c xs)(hn:n<=1000000000):
 Calls prog 151 #[.slice A n c] w (Ji (xs.map fun x=>dr (al x)) w):=by
 obtain⟨j0,hj0,hy0,hy1,hy2⟩:=Mc fE;have H:=qD h;have HL:=qD h.sr.ln;clear h;go_enter func151,ntmps151;go_wp2_with fail
 go_loopw [3,8] (fun v3 v8 wr=>∃(i:Nat) (ys:List PI),i<=n/\v8=.int .i64 i/\Gb w xs i v3 ys wr) (fun _ v8 _=>n-(intOf v8).toNat)
 ·exact⟨0,[],LQ _,rfl,⟨bC _ _ _ _,rfl,by simp,LH _ _⟩⟩
 case round=>
  obtain⟨i,ys,hi,rfl,I⟩:=hrel;have J:=qD I;by_cases hlt:i<n
  ·obtain⟨p,hp⟩:∃p,xs[i]?=some p:=⟨_,LI (by have:=HL.out;omega)⟩;obtain⟨b,off,rfl,hbl,hat,hok⟩:=H.out.at hp;have HP:=qD hp;have HPk:=qD hok;have hbr:b<wr.heap.size:=by have:=I.bel.size;omega
   obtain⟨⟨⟨p0,p1,p2,p3,p4⟩,p5⟩,⟨⟨q0,q1,q2,q3,q4⟩,q5⟩⟩:=hat.keep (I.bel.block b hbl);clear hp hat hok I hbl;go_upto_region 5 with fail
   have hs3:u3.ownBlock≠some wr.heap.size:=fun e=>absurd (ej J.out.own e) (by omega);have KJ:=J.out.step ((LH wr.heap.size wr).alloc (qL) (Obj.cells (ib p) 167));have KB:aE (wr.alloc (.cells (ib p) 167)) wr.heap.size 167 (ib p):=aE.Jq rfl;change (Code.region 5 _ _).wp _ _ _ (wr.alloc (.cells (ib p) 167));generalize wr.alloc (.cells (ib p) 167)=wa at*;generalize wr.heap.size=ga at*;have JA:=qD KJ;have JB:=qD KB;clear p0 p1 p2 p3 p4 p5 q0 q1 q2 q3 q4 q5 J KJ KB hbr;obtain⟨⟨⟨p0,p1,p2,p3,p4⟩,p5⟩,⟨⟨q0,q1,q2,q3,q4⟩,q5⟩⟩:=xT.Jr JB.out;have B:=qD ((LH wa.heap.size wa).drewN 1);have RP:=qD (HPk.out.step JA.out.bel);have KS:Hid (∀w',Below wa.heap.size wa w'->w'.cell? ⟨ga,0,none⟩=some (.int .i64 p.1.1.1.k)/\w'.cell? ⟨ga,1,none⟩=some (.int .i64 p.1.1.1.n)/\w'.cell? ⟨ga,2,none⟩=some (.string p.1.1.1.t)/\w'.cell? ⟨ga,3,none⟩=some (.slice p.1.1.1.LA p.1.1.1.ln p.1.1.1.lc)/\w'.cell? ⟨ga,4,none⟩=some (.slice p.1.1.1.DA p.1.1.1.dn p.1.1.1.dc)/\w'.cell? ⟨ga,5,none⟩=some (.bool p.1.2)/\w'.cell? ⟨ga,6,none⟩=some (.int .i64 p.2.1.1.k)/\w'.cell? ⟨ga,7,none⟩=some (.int .i64 p.2.1.1.n)/\w'.cell? ⟨ga,8,none⟩=some (.string p.2.1.1.t)/\w'.cell? ⟨ga,9,none⟩=some (.slice p.2.1.1.LA p.2.1.1.ln p.2.1.1.lc)/\w'.cell? ⟨ga,10,none⟩=some (.slice p.2.1.1.DA p.2.1.1.dn p.2.1.1.dc)/\w'.cell? ⟨ga,11,none⟩=some (.bool p.2.2)):=qD fun w' hb=>⟨hb.kc p0,hb.kc p1,hb.kc p2,hb.kc p3,hb.kc p4,hb.kc p5,hb.kc q0,hb.kc q1,hb.kc q2,hb.kc q3,hb.kc q4,hb.kc q5⟩;have F1:Hid (i+1<=maxLen):=by unfold Hid maxLen;omega
   have F2:Hid ((i+1)*168<=140737488355328):=by unfold Hid;omega
   have KG:Hid (∀w' w'' o,Below wa.heap.size wa w'->(w'.alloc o).grownBy w'' u3.ownBlock->w''.cell? ⟨ga,0,none⟩=some (.int .i64 p.1.1.1.k)/\w''.cell? ⟨ga,1,none⟩=some (.int .i64 p.1.1.1.n)/\w''.cell? ⟨ga,2,none⟩=some (.string p.1.1.1.t)/\w''.cell? ⟨ga,3,none⟩=some (.slice p.1.1.1.LA p.1.1.1.ln p.1.1.1.lc)/\w''.cell? ⟨ga,4,none⟩=some (.slice p.1.1.1.DA p.1.1.1.dn p.1.1.1.dc)/\w''.cell? ⟨ga,5,none⟩=some (.bool p.1.2)/\w''.cell? ⟨ga,6,none⟩=some (.int .i64 p.2.1.1.k)/\w''.cell? ⟨ga,7,none⟩=some (.int .i64 p.2.1.1.n)/\w''.cell? ⟨ga,8,none⟩=some (.string p.2.1.1.t)/\w''.cell? ⟨ga,9,none⟩=some (.slice p.2.1.1.LA p.2.1.1.ln p.2.1.1.lc)/\w''.cell? ⟨ga,10,none⟩=some (.slice p.2.1.1.DA p.2.1.1.dn p.2.1.1.dc)/\w''.cell? ⟨ga,11,none⟩=some (.bool p.2.2)):=qD fun w' w'' o hb hg=>⟨cE hg (hb.kc p0) hs3,cE hg (hb.kc p1) hs3,cE hg (hb.kc p2) hs3,cE hg (hb.kc p3) hs3,cE hg (hb.kc p4) hs3,cE hg (hb.kc p5) hs3,cE hg (hb.kc q0) hs3,cE hg (hb.kc q1) hs3,cE hg (hb.kc q2) hs3,cE hg (hb.kc q3) hs3,cE hg (hb.kc q4) hs3,cE hg (hb.kc q5) hs3⟩;clear p0 p1 p2 p3 p4 p5 q0 q1 q2 q3 q4 q5;have tok1:True:=trivial
   go_region_held3 (fun w'=>w'.cell? ⟨ga,0,none⟩=some (.int .i64 p.1.1.1.k)/\w'.cell? ⟨ga,1,none⟩=some (.int .i64 p.1.1.1.n)/\w'.cell? ⟨ga,2,none⟩=some (.string p.1.1.1.t)/\w'.cell? ⟨ga,3,none⟩=some (.slice p.1.1.1.LA p.1.1.1.ln p.1.1.1.lc)/\w'.cell? ⟨ga,4,none⟩=some (.slice p.1.1.1.DA p.1.1.1.dn p.1.1.1.dc)/\w'.cell? ⟨ga,5,none⟩=some (.bool p.1.2)/\w'.cell? ⟨ga,6,none⟩=some (.int .i64 p.2.1.1.k)/\w'.cell? ⟨ga,7,none⟩=some (.int .i64 p.2.1.1.n)/\w'.cell? ⟨ga,8,none⟩=some (.string p.2.1.1.t)/\w'.cell? ⟨ga,9,none⟩=some (.slice p.2.1.1.LA p.2.1.1.ln p.2.1.1.lc)/\w'.cell? ⟨ga,10,none⟩=some (.slice p.2.1.1.DA p.2.1.1.dn p.2.1.1.dc)/\w'.cell? ⟨ga,11,none⟩=some (.bool p.2.2))
    (first|exact KS.out _ B.out|exact KS.out _ (B.out.alloc B.out.size _)|((try dsimp only);assumption)|go_keep)
    (first
      | (refine dQ _ rfl (.tmp 12) (.tmp 29) 80 rfl w.heap.size 84 j0 (cR (((VC.zero,aC.zero),(VC.zero,aC.zero)),(false,false))) 12 168 Ma hj0 hy0 hy1 hy2 rfl (by decide) u3 i (aJ ax ys) (by simp[Act.eval]) ((aV JA.out.own B.out).alloc _) (w4.heap.size+1) (some ⟨w4.heap.size,0,none⟩) 1 1 (ax (((ca,p.1.1.2),(cb,p.2.1.2)),(!p.1.2,p.2.2))) (by simp[Act.eval]) ⟨rfl,fun _=>⟨_,rfl,Lo _,ap _ _ _⟩⟩ (fD _) F1.out F2.out (af (JA.out.step B.out).bel.size _) ?_;intro v' w5 hown hgr hat;have hs:=KG.out _ _ _ B.out hgr)
      | (go_at_call 200;have _t:=tok1;refine(uQ p.1.1.2 p.1.1.1 _ (RP.out.1.step B.out)).mono ?_;rintro e3 w3 ⟨ca,rfl,hra,hb⟩;replace B:=qD (B.out.Jp hb);have RA:=qD hra;have B3:=B;clear hb hra tok1 _t)
      | (go_at_call 200;refine(uQ p.2.1.2 p.2.1.1 _ (RP.out.2.step B.out)).mono ?_;rintro e3 w4 ⟨cb,rfl,hrb,hb⟩;replace RA:=qD (RA.out.step hb);replace B:=qD (B.out.Jp hb);have RB:=qD hrb;clear hb hrb))
   all_goals
    have HI:=qD ((JA.out.step B.out).next HP.out (Jj p ca cb) ⟨RA.out.mono fun q hq=>⟨by have:=JA.out.bel.size;have hq':wa.heap.size<=q:=hq;omega,fun e=>by have:=ej JA.out.own e;have hq':wa.heap.size<=q:=hq;omega⟩,RB.out.mono fun q hq=>⟨by have:=JA.out.bel.size;have:=B3.out.size;omega,fun e=>by have:=ej (aV JA.out.own B3.out) e;omega⟩⟩ hgr hat hown);clear hown hgr hat KS KG hs hs3 JA JB RP RA RB B B3;go_wp2_with fail;go_roundw
    ·exact⟨i+1,_,by omega,by go_num,HI.out⟩
    ·simp[intOf];omega
  ·clear I;go_wp2_with fail;go_ret;have hyl:ys.length=i:=by have:=congrArg List.length J.out.eq;have:=HL.out;simp only[Lb,Lx] at*;omega
   obtain⟨A',c',e,hs⟩:=SI.Jt J.out.own hyl (by unfold aF;omega) (fun y hy=>⟨(J.out.el y hy).1.mono fun _ _=>trivial,(J.out.el y hy).2.mono fun _ _=>trivial⟩);exact⟨A',_,c',ys,by rw[<-e];rfl,by rw[J.out.eq,LS (by have:=HL.out;omega)],hs,J.out.bel,fun y hy=>⟨(J.out.el y hy).1.mono fun _ h=>h.1,(J.out.el y hy).2.mono fun _ h=>h.1⟩⟩
def lY(S:cA->Prop)(k:Nat)(w:World)(e:Ending)(w':World):Prop:=
 ∃(A:Option Addr) (m c:Nat) (ys:List PI) (n:List (cA×cA)),e=.returned (.slice A m c)/\ys.map ar=n.map dr/\fg S n/\m<=k/\SI w' A m c ys/\Below w.heap.size w w'
def uR(S:cA->Prop)(k:Nat)(w:World)(e:Ending)(w':World):Prop:=
 ∃(A:Option Addr) (m c:Nat) (ys:List PI) (n:List (cA×cA)),e=.returned (.slice A m c)/\ys.map ar=n.map dr/\fg S n/\m<=k/\SI w' A m c ys/\Below w.heap.size w w'/\∀y∈ys,Fr w.heap.size w' y
theorem uR.ok{S:cA->Prop}{k:Nat}{w:World}{e:Ending}{w':World}(h:uR S k w e w'):lY S k w e w':=by
 obtain⟨A,m,c,ys,n,h1,h2,h3,h4,h5,h6,_⟩:=h;exact⟨A,m,c,ys,n,h1,h2,h3,h4,h5,h6⟩
theorem Ez{is:List PI}{xs:List PS}(h:xs.map al=aT (is.map ar)):∀x∈xs,ae (al x).1 (al x).2<0/\iy (al x).1/\iy (al x).2:=by
 intro x hx;have:al x∈aT (is.map ar):=by rw[<-h];exact MT hx
 exact lH _ this
theorem dt(is:List PI)(A:Option Addr)(n c:Nat)(w:World)(hT:cg w)(h:SI w A n c is)(hn:n<=1000000000):
 Calls prog 96 #[.slice A n c] w (uR (fun a=>dj ae a (aT (is.map ar))) n w):=by
 have HT:=qD hT;have H:=qD h;have HL:=qD h.sr.ln;clear hT h;go_enter func96,ntmps96;go_wp2_with fail;refine(Cf is A n c _ HT.out H.out hn).mono ?_;rintro e w1 ⟨A1,m1,c1,xs,rfl,hxs,_,hm1,hss,hb1⟩;have HX:=qD hxs;have HS1:=qD hss;have HX1:=qD hss.sr.ln;have HB1:=qD hb1;have HM1:Hid (m1<=n):=by have:=HL.out;unfold Hid;omega
 have hm1n:m1<=1000000000:=by have:=HM1.out;omega
 clear hxs hss hb1 hm1;go_wp2_with fail;refine(qf xs A1 m1 c1 _ HS1.out hm1n).mono ?_;rintro e w2 ⟨A2,m2,c2,ys,rfl,⟨S,hS,hys⟩,_,_,hss2,hm2,hb2⟩;have HY:=qD (hS.merge (Ez HX.out));rw[<-hys] at HY;have HS2:=qD hss2;have HB2:=qD (HB1.out.Jp hb2);have HM2:Hid (m2<=n):=by have:=HM1.out;have:=HX1.out;unfold Hid;omega
 have hm2n:m2<=1000000000:=by have:=HM2.out;omega
 have HY2:=qD hss2.sr.ln;clear hS hys hss2 hm2 hb2;go_wp2_with fail;refine(kC ys A2 m2 c2 _ HS2.out hm2n).mono ?_;rintro e w3 ⟨A3,m3,c3,zs,rfl,hzs,hsi,hb3,hfr⟩;have HFR:=qD hfr;have HZ:=qD hzs;have HS3:=qD hsi;have HB3:=qD (HB2.out.Jp hb3);have HZ3:=qD hsi.sr.ln;clear hzs hsi hb3 hfr;go_wp2_with fail;go_ret;refine⟨A3,m3,c3,zs,ys.map al,rfl,by rw[HZ.out,NU];rfl,?_,?_,HS3.out,HB3.out,fun y hy=>⟨(HFR.out y hy).1.mono fun _ h=>Lt HB2.out.size h,(HFR.out y hy).2.mono fun _ h=>Lt HB2.out.size h⟩⟩
 ·have:=HY.out.1;rw[HX.out] at this;exact this
 ·have h1:=congrArg List.length HZ.out;simp only[Lb] at h1;have:=HZ3.out;have:=HY2.out;have:=HM2.out;omega
def IE(p:PV):PS:=((p,false),(p,true))
structure Eo(w:World)(ps:List PV)(i:Nat)(v:Value)(xs:List PS)(wr:World):Prop where
 own:wr.ownsRow w.heap.size 167 12 v xs.length (aJ dP xs)
 eq:xs.map al=aT ((ps.take i).map fun p=>eM p.2)
 le:xs.length<=i
 ok:∀x∈xs,xO w x
 bel:Below w.heap.size w wr
theorem Eo.step{w:World}{ps:List PV}{i:Nat}{v:Value}{xs:List PS}{wr w':World}(h:Eo w ps i v xs wr)(hb:Below wr.heap.size wr w'):Eo w ps i v xs w':=⟨aV h.own hb,h.eq,h.le,h.ok,h.bel.Jp hb⟩
theorem Eo.skip{w:World}{ps:List PV}{i:Nat}{v:Value}{xs:List PS}{wr:World}{p:PV}(h:Eo w ps i v xs wr)(hp:ps[i]?=some p)(hn:aO p.2=false):Eo w ps (i+1) v xs wr:=by
 refine⟨h.own,?_,by have:=h.le;omega,h.ok,h.bel⟩;rw[take_snoc' hp,Lc,Md,io,Eh,hn];exact h.eq
theorem Eo.next{w:World}{ps:List PV}{i m:Nat}{v v':Value}{xs:List PS}{wr w':World}{p:PV}(h:Eo w ps i v xs wr)(hp:ps[i]?=some p)(hn:aO p.2=true)(hok:RW w p.1 p.2)(hg:wr.grownBy w' v.ownBlock)(hm:m=xs.length+1)(ho:w'.ownsRow w.heap.size 167 12 v' m (aJ dP xs++dP (IE p))):Eo w ps (i+1) v' (xs++[IE p]) w':=by
 subst hm;refine⟨?_,?_,by have:=h.le;simp;omega,fun x hx=>?_,h.bel.grown hg h.bel.size (bU h.own)⟩
 ·rw[bN,LM];exact ho
 ·have e:aT ((ps.take (i+1)).map fun p=>eM p.2)=aT ((ps.take i).map fun p=>eM p.2)++[(eM p.2).sp]:=by
   rw[take_snoc' hp,Lc,Md,io,Eh,hn];rfl
  rw[e,Lc,h.eq];rfl
 ·rcases LY.1 hx with hx|hx
  ·exact h.ok x hx
  ·simp at hx;subst hx;exact⟨hok,hok⟩
theorem kD(ps:List PV)(A:Option Addr)(n c:Nat)(w:World)(hT:cg w)(h:SL (fun _=>True) w A n c ps)(hn:n<=1000000000):
 Calls prog 94 #[.slice A n c] w (uR (fun a=>dj ae a (aT (ps.map fun p=>eM p.2))) n w):=by
 obtain⟨j0,hj0,hy0,hy1,hy2⟩:=Mc lI;have HT:=qD hT;have H:=qD h;have HL:=qD h.sr.ln;clear hT h;go_enter func94,ntmps94;go_wp2_with fail
 go_loopw [3,8] (fun v3 v8 wr=>∃(i:Nat) (xs:List PS),i<=n/\v8=.int .i64 i/\Eo w ps i v3 xs wr) (fun _ v8 _=>n-(intOf v8).toNat)
 ·exact⟨0,[],LQ _,rfl,⟨bC _ _ _ _,rfl,qL,by simp,LH _ _⟩⟩
 case round=>
  obtain⟨i,xs,hi,rfl,I⟩:=hrel;have J:=qD I;by_cases hlt:i<n
  ·obtain⟨p,hp⟩:∃p,ps[i]?=some p:=⟨_,LI (by have:=HL.out;omega)⟩;obtain⟨b,off,rfl,_,hu,hr⟩:=H.out.KE hp;have HP:=qD hp;have HR:=qD hr;have hbr:b<wr.heap.size:=by have:=hu.lt;have:=I.bel.size;omega
   have hle:=I.le;obtain⟨y0,y1,y2,y3,y4⟩:=hu.keep (I.bel.block b hu.lt);clear hp hu hr I;go_upto_region 5 with fail
   have KJ:=J.out.step ((LH wr.heap.size wr).alloc (qL) (Obj.cells p.1.arr 29));have KB:aE (wr.alloc (.cells p.1.arr 29)) wr.heap.size 29 p.1.arr:=aE.Jq rfl;change (Code.region 5 _ _).wp _ _ _ (wr.alloc (.cells p.1.arr 29));generalize wr.alloc (.cells p.1.arr 29)=wa at*;generalize wr.heap.size=ga at*;have JA:=qD KJ;have JB:=qD KB;clear y0 y1 y2 y3 y4 J KJ KB hbr;obtain⟨a0,a1,a2,a3,a4⟩:=bS.Jr JB.out;go_wp2_with fail;refine(iB p.2 p.1 _ (HT.out.step JA.out.bel) (HR.out.step JA.out.bel)).mono ?_;rintro e w3 ⟨rfl,hb3⟩;have J3:=qD (JA.out.step hb3);have K3:=qD (JB.out.step hb3);clear hb3 a0 a1 a2 a3 a4 JA JB;cases hv:aO p.2
   ·have HI:=qD (J3.out.skip HP.out hv);clear hv;go_wp2_with fail;go_roundw
    ·exact⟨i+1,xs,by omega,by go_num,HI.out⟩
    ·simp[intOf];omega
   ·have HVp:=qD hv;clear hv;obtain⟨a0,a1,a2,a3,a4⟩:=bS.Jr K3.out;have hlo:w.heap.size<=w3.heap.size:=J3.out.bel.size;have LK:=qD (J3.out.step ((LH w3.heap.size w3).alloc (qL) (Obj.cells (ib (IE p)) 167)));go_wp2_with (at_builtin;refine aD _ rfl _ _ 163 rfl w.heap.size 167 j0 (xN (((VC.zero,aC.zero),false),((VC.zero,aC.zero),false))) 12 176 Nc hj0 hy0 hy1 hy2 rfl (by decide) u3 xs.length (aJ dP xs) rfl LK.out.own _ _ 1 _ (dP (IE p)) rfl ⟨rfl,fun _=>⟨_,rfl,Lo _,ap _ _ _⟩⟩ (kg _) (by unfold maxLen;omega) (by omega) (af hlo _) ?_);intro v' w4 hown hg _;have HI:=qD (LK.out.next HP.out HVp.out HR.out hg rfl hown);clear hown hg a0 a1 a2 a3 a4;go_wp2_with fail;go_roundw
    ·exact⟨i+1,xs++[IE p],by omega,by go_num,HI.out⟩
    ·simp[intOf];omega
  ·obtain⟨A1,c1,rfl,hs⟩:=SS.Jt J.out.own rfl (by have:=J.out.le;unfold aF;omega) (fun x hx=>(J.out.ok x hx).step J.out.bel);have hle:=I.le;have HX:Hid (xs.map al=aT (ps.map fun p=>eM p.2)):=by rw[Hid,J.out.eq,LS (by have:=HL.out;omega)]
   have hne:∀x∈xs,ae (al x).1 (al x).2<0/\iy (al x).1/\iy (al x).2:=fun x hx=>lH _ (by rw[<-HX.out];exact MT hx);have HNe:=qD hne;have HS1:=qD hs;have HB1:=qD J.out.bel;obtain⟨m1,hm1⟩:∃m,m=xs.length:=⟨_,rfl⟩;rw[<-hm1] at HS1 hle ⊢;have HM1:=qD hm1;clear I J hs hne hm1;go_wp2_with fail;refine(qf xs A1 m1 c1 _ HS1.out (by omega)).mono ?_;rintro e w2 ⟨A2,m2,c2,ys,rfl,⟨S,hS,hys⟩,_,_,hss2,hm2,hb2⟩;have HY:=qD (hS.merge HNe.out);rw[<-hys] at HY;have HS2:=qD hss2;have HB2:=qD (HB1.out.Jp hb2);have HY2:=qD hss2.sr.ln;have HM2:Hid (m2<=n):=by have:=HM1.out;unfold Hid;omega
   have hm2n:m2<=1000000000:=by have:=HM2.out;omega
   clear hS hys hss2 hm2 hb2;go_wp2_with fail;refine(kC ys A2 m2 c2 _ HS2.out hm2n).mono ?_;rintro e w3 ⟨A3,m3,c3,zs,rfl,hzs,hsi,hb3,hfr⟩;have HFR:=qD hfr;have HZ:=qD hzs;have HS3:=qD hsi;have HB3:=qD (HB2.out.Jp hb3);have HZ3:=qD hsi.sr.ln;clear hzs hsi hb3 hfr;go_wp2_with fail;go_ret;refine⟨A3,m3,c3,zs,ys.map al,rfl,by rw[HZ.out,NU];rfl,?_,?_,HS3.out,HB3.out,fun y hy=>⟨(HFR.out y hy).1.mono fun _ h=>Lt HB2.out.size h,(HFR.out y hy).2.mono fun _ h=>Lt HB2.out.size h⟩⟩
   ·have:=HY.out.1;rw[HX.out] at this;exact this
   ·have h1:=congrArg List.length HZ.out;simp only[Lb] at h1;have:=HZ3.out;have:=HY2.out;have:=HM2.out;omega
theorem xk(ps:List PV)(A:Option Addr)(n c:Nat)(w:World)(hT:cg w)(h:SL (fun _=>True) w A n c ps)(hn:n<=1000000000):
 Calls prog 94 #[.slice A n c] w (lY (fun a=>dj ae a (aT (ps.map fun p=>eM p.2))) n w):=(kD ps A n c w hT h hn).mono fun _ _ h=>h.ok
def Gc:VC:=⟨1,0,empty,none,0,0,none,0,0⟩
def Gd:VC:=⟨11,0,empty,none,0,0,none,0,0⟩
theorem Ge{F:Nat->Prop}{w:World}:RV F w Gc eL:=mK.shut ⟨rfl,rfl,rfl,by decide,rfl,qL,by decide,fun h=>absurd h (by decide),rfl,qL,by decide,fun h=>absurd h (by decide)⟩
theorem Gf{F:Nat->Prop}{w:World}:RV F w Gd ff:=mK.shut ⟨rfl,rfl,rfl,by decide,rfl,qL,by decide,fun h=>absurd h (by decide),rfl,qL,by decide,fun h=>absurd h (by decide)⟩
theorem Cq(w:World):RW w Gc eL:=mK.shut ⟨rfl,rfl,rfl,by decide,rfl,qL,by decide,fun h=>absurd h (by decide),rfl,qL,by decide,fun h=>absurd h (by decide)⟩
theorem Cr(w:World):RW w Gd ff:=mK.shut ⟨rfl,rfl,rfl,by decide,rfl,qL,by decide,fun h=>absurd h (by decide),rfl,qL,by decide,fun h=>absurd h (by decide)⟩
def Gg:PI:=(((Gc,eL),(Gd,ff)),(true,true))
theorem fI{w:World}{g:Nat}{p:PI}(h:aE w g 84 (aM p))(hok:iY w p):SI w (some ⟨g,0,none⟩) 1 1 [p]:=by
 refine⟨⟨rfl,qL,fun _=>⟨g,0,rfl,h.lt,fun i a hi j v hj=>?_⟩⟩,by decide,fun x hx=>by simp at hx;subst hx;exact hok⟩;cases i with
 | zero=>
  simp at hi;subst hi;rw[show 0+0*12+j=j by omega,h.cell,<-Lk];exact hj
 | succ i=>simp at hi
theorem fZ(w:World):Calls prog 93 #[] w (uR (fun a=>dj ae a (aT [iq])) 1 w):=by
 go_enter func93,ntmps93;go_wp2_with fail;go_ret
 exact⟨_,1,1,[Gg],_,rfl,rfl,mH,qL,fI (aE.Jq rfl) ⟨Cq _,Cr _⟩,(LH _ _).alloc (qL) _,fun y hy=>by
  obtain rfl:y=Gg:=by simpa using hy
  exact⟨Ge,Gf⟩⟩
theorem zk(w:World):Calls prog 93 #[] w (lY (fun a=>dj ae a (aT [iq])) 1 w):=(fZ w).mono fun _ _ h=>h.ok
section
variable {ec:PC} {w w2:World} {n:List (cA×cA)} {i:Nat} {v:Value} {cs:List PS} {fc:PC} {wr w':World}
end
abbrev BB:=ByteArray×ByteArray
def jE(p:BB):List Value:=[.string p.1,.string p.2]
theorem uS(p:BB):∀u∈jE p,u.oneCell'=true:=by simp[jE,Value.oneCell']
theorem fq:(Tryz.prog.info? 49).map (fun i=>(i.zero,i.size,i.bytes))=some (some (.agg #[.string empty,.string empty]),2,32):=by kernel_rfl
theorem zl{w:World}{base:Nat}{v:Value}{p:BB}(h:w.ownsRow base 49 2 v 1 (jE p)):∃A c,v=.slice A 1 c/\SR 2 jE w A 1 c [p]:=by
 obtain⟨A,c,hv,hle⟩:=aa h;subst hv;refine⟨A,c,rfl,rfl,hle,fun hn=>?_⟩;obtain⟨g,cap,hv,_,hlt⟩:=h.form hn;have hA:A=some ⟨g,0,none⟩:=by injection hv
 subst hA;refine⟨g,0,rfl,hlt,fun k a hk j u hj=>?_⟩;cases k with
 | zero=>
  simp at hk;subst hk;have:=h.cells (g:=g) rfl j u hj;rw[bn] at this;simpa using this
 | succ k=>simp at hk
theorem SR.Kn{w:World}{A:Option Addr}{n c:Nat}{l:List BB}(h:SR 2 jE w A n c l){i:Nat}(hi:i<n):∃b off x,A=some ⟨b,off,none⟩/\b<w.heap.size/\l[i]?=some x/\
 w.cell? ⟨b,off+i*2,none⟩=some (.string x.1)/\w.cell? ⟨b,off+i*2+1,none⟩=some (.string x.2):=by
 obtain⟨b,off,e,hb,hc⟩:=h.el (by omega);have hl:i<l.length:=by have:=h.ln;omega
 have h1:=LI hl;exact⟨b,off,l[i],e,hb,h1,hc i _ h1 0 _ rfl,hc i _ h1 1 _ rfl⟩
def Iz(w:World)(p:BB)(i:Nat)(v:Value)(wr:World):Prop:=
 Below w.heap.size w wr/\((i=0/\v=.slice none 0 0)\/(i=1/\wr.ownsRow w.heap.size 49 2 v 1 (jE p)))
theorem uT(p:BB)(A:Option Addr)(c:Nat)(w:World)(h:SR 2 jE w A 1 c [p]):
 Calls prog 39 #[.slice A 1 c] w fun e w'=>∃A' c',e=.returned (.slice A' 1 c')/\SR 2 jE w' A' 1 c' [p]/\Below w.heap.size w w':=by
 obtain⟨j0,hj0,hy0,hy1,hy2⟩:=Mc fq;obtain⟨b,off,x,hA,hb,hx,e0,e1⟩:=h.Kn (i:=0) (by omega);obtain rfl:p=x:=by simpa using hx
 subst hA;rw[OJ,Ms] at e0 e1;clear hx h;go_enter func39,ntmps39;go_wp2_with fail;refine(tT _ _ _ _).mono ?_;rintro e w1 ⟨rfl,hw1⟩;subst hw1;go_wp2_with fail;refine(tU _ _ _).mono ?_;rintro e w2 ⟨rfl,hw2⟩;subst hw2;go_upto_region 4 with fail
 go_loopw [3,5,6,12] (fun u3 _ _ u12 wr=>∃i:Nat,i<=1/\u12=.int .i64 i/\Iz w2 p i u3 wr) (fun _ _ _ u12 _=>1-(intOf u12).toNat)
 ·exact⟨0,by omega,rfl,LH _ _,.inl ⟨rfl,rfl⟩⟩
 case round=>
  obtain⟨i,hi,rfl,hbel,hj⟩:=hrel;have HB:=qD hbel;rcases hj with⟨rfl,rfl⟩|⟨rfl,hown⟩
  ·replace e0:=(hbel.cell (p:=⟨b,off,none⟩) hb).trans e0;replace e1:=(hbel.cell (p:=⟨b,off+1,none⟩) hb).trans e1;clear hbel;go_upto_region 7 with fail
   change (Code.region 7 _ _).wp _ _ _ (wr.alloc (.cells #[.string p.1,.string p.2] 49));have JB:Hid (aE (wr.alloc (.cells #[.string p.1,.string p.2] 49)) wr.heap.size 49 #[.string p.1,.string p.2]):=aE.Jq rfl;have HBA:=qD (HB.out.alloc HB.out.size (Obj.cells #[.string p.1,.string p.2] 49));generalize wr.alloc (.cells #[.string p.1,.string p.2] 49)=wa at*;generalize wr.heap.size=ga at*;clear e0 e1;refine aL (by kernel_rfl) (by kernel_rfl) ?_
   repeat(go_big_quiet_step (fail))
   refine Ln ?_;rintro _ ⟨kw,rfl⟩;have HB3:=qD (HBA.out.Jp kw.below);have JB3:=qD (JB.out.step kw.below);clear HBA JB;generalize kw.val=w3 at*;have k0:=JB3.out.cell 0;have k1:=JB3.out.cell 1;simp at k0 k1;have hlo:w2.heap.size<=w3.heap.size:=HB3.out.size;go_wp2_with (at_builtin;refine aD _ rfl _ _ 47 rfl w2.heap.size 49 j0 (.agg #[.string empty,.string empty]) 2 32 MJ hj0 hy0 hy1 hy2 rfl (by decide) (.slice none 0 0) 0 [] rfl (bC _ _ _ _) _ _ 1 _ (jE p) rfl ⟨rfl,fun _=>⟨_,rfl,Lo _,ap _ _ _⟩⟩ (uS _) (by unfold maxLen;omega) (by omega) (af hlo _) ?_);intro v' w6 hown hgr hat;have HI:Hid (Iz w2 p 1 v' w6):=⟨(HB3.out.alloc HB3.out.size _).grown hgr (af hlo _) (fun g hg=>(by cases hg)),.inr ⟨rfl,hown⟩⟩;clear hown hgr hat k0 k1 JB3 HB3;go_wp2_with fail;go_roundw
   ·exact⟨1,by omega,rfl,HI.out⟩
   ·simp[intOf]
  ·obtain⟨A',c',rfl,hsr⟩:=zl hown;have HS:=qD hsr;clear hown hsr hbel;go_wp2_with fail;go_ret;exact⟨A',c',rfl,HS.out,HB.out⟩
theorem fH{fn:Func}{p u:Tmp}(h:fn.results=#[.cell p 49,.tmp u])(tmps:Array Value)(g1 off:Nat)(h1:tmps.getD p undef=.pointer (some ⟨g1,off,none⟩))(e:Value)(h2:tmps.getD u undef=e)(W:World)(a b:ByteArray)(q0:W.cell? ⟨g1,off,none⟩=some (.string a))(q1:W.cell? ⟨g1,off+1,none⟩=some (.string b)):
 (results fn tmps).run prog W=.ok (.tuple #[.agg #[.string a,.string b],e]) W:=by
 rw[QE h,h1,h2];simp[asAddr,go_sem,q0,q1]
theorem Ak(p:PI)(S1 S2 T L H:ByteArray)(w:World)(hT:cg w)(hp:iY w p)(hf:p.2=(true,true))(h1:eD [p.1.1.2]=(S1,0))(h2:eD [p.1.2.2]=(S2,0))(hk:(p.1.1.1.k≠1/\p.1.2.1.k≠11/\L=S1/\H=T)\/(p.1.1.1.k=1/\p.1.2.1.k=11/\L=empty/\H=empty))(hA:∀w,Calls prog 102 #[.string S2] w fun e w'=>e=.returned (.tuple #[.string T,.bool true])/\Below w.heap.size w w'):
 Calls prog 38 #[cR p,.bool false] w fun e w'=>e=.returned (.tuple #[.agg #[.string L,.string H],.bool true])/\Below w.heap.size w w':=by
 obtain⟨⟨⟨c1,x1⟩,⟨c2,x2⟩⟩,⟨f1,f2⟩⟩:=p;simp only[OL] at hf;obtain⟨rfl,rfl⟩:=hf;have R1:Hid (RW w c1 x1):=hp.1;have R2:Hid (RW w c2 x2):=hp.2;have HT:=qD hT;have HA:=qD hA;have HK1:Hid (eD [x1]=(S1,0)):=h1;have HK2:Hid (eD [x2]=(S2,0)):=h2;clear hp hT hA h1 h2
 have hcode1:Hid (∀wr,Below w.heap.size w wr->Calls prog 74 #[c1.val] wr fun e w'=>e=.returned (.tuple #[.string S1,.int .i64 0])/\Below wr.heap.size wr w'):=qD fun wr hb=>by
  have:=jQ x1 c1 wr (HT.out.step hb) (R1.out.step hb);rw[HK1.out] at this;exact this
 have hcode2:Hid (∀wr,Below w.heap.size w wr->Calls prog 74 #[c2.val] wr fun e w'=>e=.returned (.tuple #[.string S2,.int .i64 0])/\Below wr.heap.size wr w'):=qD fun wr hb=>by
  have:=jQ x2 c2 wr (HT.out.step hb) (R2.out.step hb);rw[HK2.out] at this;exact this
 have B0:Hid (aE ((w.alloc (.cells (aM (((c1,x1),(c2,x2)),(true,true))) 84)).alloc (.cells #[.string empty,.string empty] 49)) w.heap.size 84 (aM (((c1,x1),(c2,x2)),(true,true)))):=(aE.Jq rfl).alloc _;have B1:Hid (aE ((w.alloc (.cells (aM (((c1,x1),(c2,x2)),(true,true))) 84)).alloc (.cells #[.string empty,.string empty] 49)) (w.heap.size+1) 49 #[.string empty,.string empty]):=aE.Jq (by simp);have BE:Hid (Below w.heap.size w ((w.alloc (.cells (aM (((c1,x1),(c2,x2)),(true,true))) 84)).alloc (.cells #[.string empty,.string empty] 49))):=((LH _ _).alloc (qL) _).alloc (by simp) _;go_enter func38,ntmps38;go_upto_region 1 with fail
 change Code.wp _ _ _ _ ((w.alloc (.cells (aM (((c1,x1),(c2,x2)),(true,true))) 84)).alloc (.cells #[.string empty,.string empty] 49));generalize ((w.alloc (.cells (aM (((c1,x1),(c2,x2)),(true,true))) 84)).alloc (.cells #[.string empty,.string empty] 49))=wa at*;obtain⟨⟨a0,a1,a2,a3,a4⟩,⟨b0,b1,b2,b3,b4⟩,b5,b6⟩:=cw.Jr B0.out;simp only[LL] at a0 a1 a2 a3 a4 b0 b1 b2 b3 b4 b5 b6;go_wp2_with fail;refine(hcode1.out _ BE.out).mono ?_;rintro e w1 ⟨rfl,hb⟩;have C0:=qD (B0.out.step hb);have C1:=qD (B1.out.step hb);have CE:=qD (BE.out.Jp hb);clear hb B0 B1 BE a0 a1 a2 a3 a4 b0 b1 b2 b3 b4 b5 b6 hcode1;obtain⟨⟨a0,a1,a2,a3,a4⟩,⟨b0,b1,b2,b3,b4⟩,b5,b6⟩:=cw.Jr C0.out;simp only[LL] at a0 a1 a2 a3 a4 b0 b1 b2 b3 b4 b5 b6;go_wp2_with fail;refine(hcode2.out _ CE.out).mono ?_;rintro e w2 ⟨rfl,hb⟩;have D0:=qD (C0.out.step hb);have D1:=qD (C1.out.step hb);have DE:=qD (CE.out.Jp hb);clear hb C0 C1 CE a0 a1 a2 a3 a4 b0 b1 b2 b3 b4 b5 b6 hcode2;obtain⟨⟨a0,a1,a2,a3,a4⟩,⟨b0,b1,b2,b3,b4⟩,b5,b6⟩:=cw.Jr D0.out;simp only[LL] at a0 a1 a2 a3 a4 b0 b1 b2 b3 b4 b5 b6;rcases hk with⟨k1,k2,rfl,rfl⟩|⟨k1,k2,rfl,rfl⟩
 ·have k1b:(c1.k==1)=false:=by simpa using k1
  have k2b:(c2.k==11)=false:=by simpa using k2
  go_wp2_with fail;refine(HA.out _).mono ?_;rintro e w3 ⟨rfl,hb⟩;have E1:=qD (D1.out.step hb);have EE:=qD (DE.out.Jp hb);clear hb D0 D1 DE a0 a1 a2 a3 a4 b0 b1 b2 b3 b4 b5 b6;have r0:=E1.out.cell 0;have r1:=E1.out.cell 1;have rz:=E1.out.frozen;simp at r0 r1;go_wp2_with fail;refine Lp (fH rfl _ _ _ rfl _ rfl _ L H ?_ ?_) rfl ⟨rfl,(EE.out.setCell (by show w.heap.size<=w.heap.size+1;omega) _).setCell (by show w.heap.size<=w.heap.size+1;omega) _⟩
  ·rw[((E1.out.Js 0 (.string L)).Js 1 (.string H)).cell];rfl
  ·rw[((E1.out.Js 0 (.string L)).Js 1 (.string H)).cell];rfl
 ·have k1b:(c1.k==1)=true:=by simpa using k1
  have k2b:(c2.k==11)=true:=by simpa using k2
  have r0:=D1.out.cell 0;have r1:=D1.out.cell 1;have rz:=D1.out.frozen;simp at r0 r1;go_wp2_with fail;refine Lp (fH rfl _ _ _ rfl _ rfl _ empty empty ?_ ?_) rfl ⟨rfl,(DE.out.setCell (by show w.heap.size<=w.heap.size+1;omega) _).setCell (by show w.heap.size<=w.heap.size+1;omega) _⟩
  ·exact(((D1.out.Js 0 (.string empty)).Js 1 (.string empty)).cell 0).trans rfl
  ·exact(((D1.out.Js 0 (.string empty)).Js 1 (.string empty)).cell 1).trans rfl
structure Ch where
 lo:ByteArray
 hi:ByteArray
 sh:Int
 ver:Int
 ju:Bool
def ez(c:Ch):List Value:=[.string c.lo,.string c.hi,.int .i64 c.sh,.int .i64 c.ver,.bool c.ju]
abbrev tF(c:Ch):Value:=.agg #[.string c.lo,.string c.hi,.int .i64 c.sh,.int .i64 c.ver,.bool c.ju]
theorem nk(c:Ch):(ez c).length=5:=rfl
def Al(s:ByteArray):List Value:=[.string s]
structure OC where
 A:Option Addr
 n:Nat
 c:Nat
 d:Bool
def uU(o:OC):List Value:=[.slice o.A o.n o.c,.bool o.d]
structure Od where
 p:List ByteArray
 d:Bool
structure Ro where
 sp:ByteArray
 ks:List Od
 ha:Bool
 ep:Int
 ver:Int
 cs:List Ch
structure ST(w:World)(A:Option Addr)(n c:Nat)(l:List ByteArray):Prop where
 sr:SR 1 Al w A n c l
 sz:n*16<=aF
 el:∀s∈l,s.size<=aF
theorem ST.step{w w':World}{A:Option Addr}{n c:Nat}{l:List ByteArray}(h:ST w A n c l)(hb:Below w.heap.size w w'):ST w' A n c l:=⟨h.sr.step hb,h.sz,h.el⟩
structure OR(w:World)(o:OC)(q:Od):Prop where
 d:o.d=q.d
 st:ST w o.A o.n o.c q.p
theorem OR.step{w w':World}{o:OC}{q:Od}(h:OR w o q)(hb:Below w.heap.size w w'):OR w' o q:=⟨h.d,h.st.step hb⟩
structure KO(w:World)(A:Option Addr)(n c:Nat)(os:List OC)(ks:List Od):Prop where
 sr:SR 2 uU w A n c os
 sz:n*32<=aF
 ln:os.length=ks.length
 el:∀(i:Nat) (o:OC) (q:Od),os[i]?=some o->ks[i]?=some q->OR w o q
theorem KO.step{w w':World}{A:Option Addr}{n c:Nat}{os:List OC}{ks:List Od}(h:KO w A n c os ks)(hb:Below w.heap.size w w'):KO w' A n c os ks:=⟨h.sr.step hb,h.sz,h.ln,fun i o q h1 h2=>(h.el i o q h1 h2).step hb⟩
def KS(w:World)(A:Option Addr)(n c:Nat)(ks:List Od):Prop:=∃os,KO w A n c os ks
theorem KS.step{w w':World}{A:Option Addr}{n c:Nat}{ks:List Od}(h:KS w A n c ks)(hb:Below w.heap.size w w'):KS w' A n c ks:=by obtain⟨os,h⟩:=h;exact⟨os,h.step hb⟩
theorem KS.nil{w:World}{A:Option Addr}{c:Nat}:KS w A 0 c []:=⟨[],SR.nil,by show 0*32<=aF;decide,rfl,fun i o q h=>by simp at h⟩
theorem KS.ln{w:World}{A:Option Addr}{n c:Nat}{ks:List Od}(h:KS w A n c ks):n=ks.length:=by obtain⟨os,h⟩:=h;rw[h.sr.ln,h.ln]
structure CS(w:World)(A:Option Addr)(n c:Nat)(l:List Ch):Prop where
 sr:SR 5 ez w A n c l
 sz:n*56<=aF
theorem CS.step{w w':World}{A:Option Addr}{n c:Nat}{l:List Ch}(h:CS w A n c l)(hb:Below w.heap.size w w'):CS w' A n c l:=⟨h.sr.step hb,h.sz⟩
theorem CS.nil{w:World}{A:Option Addr}{c:Nat}:CS w A 0 c []:=⟨SR.nil,by show 0*56<=aF;decide⟩
theorem CS.ln{w:World}{A:Option Addr}{n c:Nat}{l:List Ch}(h:CS w A n c l):n=l.length:=h.sr.ln
structure RA where
 KA:Option Addr
 kn:Nat
 kc:Nat
 CA:Option Addr
 cn:Nat
 cc:Nat
abbrev bW(a:RA)(R:Ro):Array Value:=#[.string R.sp,.slice a.KA a.kn a.kc,.bool R.ha,.int .i64 R.ep,.int .i64 R.ver,.slice a.CA a.cn a.cc]
abbrev ft(a:RA)(R:Ro):Value:=.agg (bW a R)
structure RR(w:World)(a:RA)(R:Ro):Prop where
 sp:R.sp.size<=aF
 ks:KS w a.KA a.kn a.kc R.ks
 cs:CS w a.CA a.cn a.cc R.cs
theorem RR.step{w w':World}{a:RA}{R:Ro}(h:RR w a R)(hb:Below w.heap.size w w'):RR w' a R:=⟨h.sp,h.ks.step hb,h.cs.step hb⟩
theorem SR.Kk{w:World}{A:Option Addr}{n c:Nat}{l:List Ch}(h:SR 5 ez w A n c l){i:Nat}(hi:i<n):∃b off x,A=some ⟨b,off,none⟩/\b<w.heap.size/\l[i]?=some x/\
 w.cell? ⟨b,off+i*5,none⟩=some (.string x.lo)/\w.cell? ⟨b,off+i*5+1,none⟩=some (.string x.hi)/\w.cell? ⟨b,off+i*5+2,none⟩=some (.int .i64 x.sh)/\w.cell? ⟨b,off+i*5+3,none⟩=some (.int .i64 x.ver)/\w.cell? ⟨b,off+i*5+4,none⟩=some (.bool x.ju):=by
 obtain⟨b,off,e,hb,hc⟩:=h.el (by omega);have hl:i<l.length:=by have:=h.ln;omega
 have h1:=LI hl;exact⟨b,off,l[i],e,hb,h1,hc i _ h1 0 _ rfl,hc i _ h1 1 _ rfl,hc i _ h1 2 _ rfl,hc i _ h1 3 _ rfl,hc i _ h1 4 _ rfl⟩
theorem SR.Kq{w:World}{A:Option Addr}{n c:Nat}{l:List OC}(h:SR 2 uU w A n c l){i:Nat}(hi:i<n):∃b off x,A=some ⟨b,off,none⟩/\b<w.heap.size/\l[i]?=some x/\
 w.cell? ⟨b,off+i*2,none⟩=some (.slice x.A x.n x.c)/\w.cell? ⟨b,off+i*2+1,none⟩=some (.bool x.d):=by
 obtain⟨b,off,e,hb,hc⟩:=h.el (by omega);have hl:i<l.length:=by have:=h.ln;omega
 have h1:=LI hl;exact⟨b,off,l[i],e,hb,h1,hc i _ h1 0 _ rfl,hc i _ h1 1 _ rfl⟩
theorem SR.Ko{w:World}{A:Option Addr}{n c:Nat}{l:List ByteArray}(h:SR 1 Al w A n c l){i:Nat}(hi:i<n):∃b off x,A=some ⟨b,off,none⟩/\b<w.heap.size/\l[i]?=some x/\
 w.cell? ⟨b,off+i,none⟩=some (.string x):=by
 obtain⟨b,off,e,hb,hc⟩:=h.el (by omega);have hl:i<l.length:=by have:=h.ln;omega
 have h1:=LI hl;exact⟨b,off,l[i],e,hb,h1,by simpa using hc i _ h1 0 _ rfl⟩
theorem SR.reads{α:Type}{rec:α->List Value}{s:Nat}(hs:∀a,(rec a).length=s)(hp:0<s){w:World}{A:Option Addr}{n c:Nat}{xs:List α}(h:SR s rec w A n c xs):cP w w.heap.size s A n (aJ rec xs):=by
 refine⟨by rw[bP hs,h.ln],fun hn=>?_⟩;obtain⟨b,off,e,hb,hel⟩:=h.el hn;subst e;refine⟨_,rfl,hb,fun j u hu=>?_⟩;have hj:=(LJ.1 hu).1;rw[bP hs] at hj;obtain⟨a,v,g1,g2,g3⟩:=flat_at' hs hp xs j hj;have:=hel (j/s) a g1 (j%s) v g2;rw[bn];rw[g3] at hu;cases hu;have hdm:=Nat.div_add_mod j s;rw[Nat.mul_comm] at hdm;rw[show off+j=off+j/s*s+j%s by omega];exact this
theorem uV{α:Type}{rec:α->List Value}(h1:∀a,∀u∈rec a,u.oneCell'=true)(xs:List α):∀u∈aJ rec xs,u.oneCell'=true:=by
 intro u hu;obtain⟨p,_,hp⟩:=OU.1 hu;exact h1 p u hp
section
variable {α:Type}
def dU(p:α->Bool):List α->Nat->Int
 | [],_=>-1
 | c::r,i=>if p c then(i:Int) else dU p r (i+1)
def eo(p:α->Bool)(l:List α):Int:=dU p l 0
theorem qm(p:α->Bool):∀(l:List α) (k:Nat),(dU p l k=-1/\∀c∈l,p c=false)\/∃(i:Nat) (c:α),dU p l k=(k+i:Nat)/\l[i]?=some c/\p c=true/\∀j,j<i->∀d,l[j]?=some d->p d=false:=by
 intro l
 induction l with
 | nil=>intro k;exact .inl ⟨rfl,fun _ h=>by simp at h⟩
 | cons c r ih=>
  intro k;cases hc:p c
  ·rw[dU,hc,LU (by simp)];rcases ih (k+1) with⟨h1,h2⟩|⟨i,d,h1,h2,h3,h4⟩
   ·refine .inl ⟨h1,fun x hx=>?_⟩;rcases Li.1 hx with rfl|hx
    ·exact hc
    ·exact h2 x hx
   ·refine .inr ⟨i+1,d,by rw[h1];omega,by simpa using h2,h3,fun j hj e he=>?_⟩;cases j with
    | zero=>simp at he;subst he;exact hc
    | succ j=>exact h4 j (by omega) e (by simpa using he)
  ·rw[dU,hc,LZ rfl];exact .inr ⟨0,c,rfl,rfl,hc,fun j hj=>absurd hj (by omega)⟩
theorem oz(p:α->Bool)(l:List α):(eo p l=-1/\∀c∈l,p c=false)\/∃(i:Nat) (c:α),eo p l=(i:Nat)/\l[i]?=some c/\p c=true/\∀j,j<i->∀d,l[j]?=some d->p d=false:=by
 rcases qm p l 0 with h|⟨i,c,h1,h⟩
 ·exact .inl h
 ·exact .inr ⟨i,c,by rw[eo,h1,LL],h⟩
end
def uK(key:ByteArray)(c:Ch):Bool:=!(Op.bytesLess key.toList c.lo.toList)&&(c.hi.toList==[]||Op.bytesLess key.toList c.hi.toList)
def du(p:List ByteArray):Bool:=decide (1<=p.length)&&decide (p.length<=16)&&p.all aN
def ah:List ByteArray->List ByteArray->Bool
 | [],[]=>true
 | a::r,b::s=>(a.toList==b.toList)&&ah r s
 | _,_=>false
def kE:List Od->List Od->Int
 | _,[]=>0
 | done,o::r=>if du o.p=false then 10 else if done.any (fun e=>ah e.p o.p) then 12 else kE (done++[o]) r
def fT(ks:List Od):Int:=if 8<ks.length then 2 else kE [] ks
def gO(ks:List Od)(ha:Bool):Int:=if fT ks≠0 then fT ks else if ks.length=0\/(ha=true/\1<ks.length) then 11 else if ks.any (·.d) then 11 else 0
def jF(v:Int)(c:Ch):Bool:=decide (c.sh<0)||decide (8<=c.sh)||decide (c.ver<1)||decide (v<c.ver)
def eR:List Ch->Bool
 | []=>true
 | [_]=>true
 | a::b::r=>(b.lo.toList==a.hi.toList)&&!(Op.bytesLess b.lo.toList a.lo.toList||b.lo.toList==a.lo.toList)&&eR (b::r)
def kF(l:List Ch):Bool:=match l with
 | []=>false
 | a::r=>(a.lo.toList==[])&&(((a::r).getLast?.map (·.hi.toList))==some [])
def dD(R:Ro):Int:=
 if aN R.sp=false then 9 else if gO R.ks R.ha≠0 then gO R.ks R.ha else if 64<R.cs.length then 2 else if R.ep<1\/R.ver<1 then 1
 else if R.cs.any (jF R.ver) then 1 else if kF R.cs=false then 4 else if eR R.cs=false then 4 else 0
theorem uW(s:ByteArray)(w:World):Calls prog 182 #[.string s] w fun e w'=>e=.returned (.bool (!aN s))/\w'=w:=by
 by_cases h1:s.size<1
 ·have HV:Hid (aN s=false):=by unfold Hid aN;rw[LW (by omega)];rfl
  go_enter func182,Px;go_wp2_with fail;go_ret;exact⟨by rw[HV.out];rfl,rfl⟩
 by_cases h2:32<s.size
 ·have HV:Hid (aN s=false):=by unfold Hid aN;rw[LN (by omega),LW (by omega)];rfl
  go_enter func182,Px;go_wp2_with fail;go_ret;exact⟨by rw[HV.out];rfl,rfl⟩
 cases h3:((s[0].toNat:Int)==36);rotate_left
 ·have HV:Hid (aN s=false):=by
   have:s[0].toNat=36:=by simp at h3;omega
   unfold Hid aN;rw[LN (by omega),LN (by omega),kl s (by omega),this];rfl
  go_enter func182,Px;go_wp2_with fail;go_ret;exact⟨by rw[HV.out];rfl,rfl⟩
 have HA:Hid (aN s=s.data.toList.all qi):=by
  have:¬s[0].toNat=36:=by simp at h3;omega
  unfold Hid aN;rw[LN (by omega),LN (by omega),kl s (by omega)];simp[this]
 go_enter func182,Px;go_wp2_with fail
 go_loopw [19] (fun v wr=>∃i:Nat,i<=s.size/\v=.int .i64 i/\(s.data.toList.take i).all qi=true/\wr=w) (fun v _=>s.size-(intOf v).toNat)
 ·exact⟨0,LQ _,rfl,mR,rfl⟩
 case round=>
  obtain⟨i,hi,rfl,ha,rfl⟩:=hrel;have HL:=qD ha;clear ha;by_cases hlt:i<s.size
  ·have hx:=s[i].toNat_lt;by_cases hb:(s[i].toNat:Int)<33
   ·have HV:Hid (aN s=false):=by rw[Hid,HA.out];exact fY hlt (by unfold qi;rw[LW (by omega)];rfl)
    go_wp2_with fail;go_ret;exact⟨by rw[HV.out];rfl,rfl⟩
   by_cases hc:126<(s[i].toNat:Int)
   ·have HV:Hid (aN s=false):=by rw[Hid,HA.out];exact fY hlt (by unfold qi;rw[LN (by omega),LW (by omega)];rfl)
    go_wp2_with fail;go_ret;exact⟨by rw[HV.out];rfl,rfl⟩
   cases hd:((s[i].toNat:Int)==46);rotate_left
   ·have HV:Hid (aN s=false):=by
     have:s[i].toNat=46:=by simp at hd;omega
     rw[Hid,HA.out];exact fY hlt (by unfold qi;rw[this];rfl)
    go_wp2_with fail;go_ret;exact⟨by rw[HV.out];rfl,rfl⟩
   have HN:Hid ((s.data.toList.take (i+1)).all qi=true):=by
    have:¬s[i].toNat=46:=by simp at hd;omega
    exact mQ hlt HL.out (by unfold qi;rw[LN (by omega),LN (by omega)];simp[this])
   go_wp2_with fail;go_roundw
   ·exact⟨i+1,by omega,by go_num,HN.out,trivial⟩
   ·simp[intOf];omega
  ·have HV:Hid (aN s=true):=by rw[Hid,HA.out];exact oc (by omega) HL.out
   go_wp2_with fail;go_ret;exact⟨by rw[HV.out];rfl,rfl⟩
theorem lZ{α:Type}{p:α->Bool}{l:List α}{i:Nat}{x:α}(h:l[i]?=some x):dU p (l.drop i) i=if p x then(i:Int) else dU p (l.drop (i+1)) (i+1):=by rw[bM h,dU]
theorem kG{α:Type}{p:α->Bool}{l:List α}{i:Nat}(h:l.length<=i):dU p (l.drop i) i=-1:=by rw[La h,dU]
theorem xl(l:List ByteArray)(A:Option Addr)(n c:Nat)(w:World)(h:ST w A n c l):
 Calls prog 221 #[.slice A n c,.func (.func 182) #[] #[]] w fun e w'=>e=.returned (.int .i64 (eo (fun s=>!aN s) l))/\w'=w:=by
 have hz:n<=140737488355328:=by have:=h.sz;unfold aF at this;omega
 have H:=qD h;clear h;go_enter func221,ntmps221;go_wp2_with fail
 go_loopw [8] (fun v wr=>∃i:Nat,i<=n/\v=.int .i64 i/\eo (fun s=>!aN s) l=dU (fun s=>!aN s) (l.drop i) i/\wr=w) (fun v _=>n-(intOf v).toNat)
 ·exact⟨0,LQ _,rfl,rfl,rfl⟩
 case round=>
  obtain⟨i,hi,rfl,ha,rfl⟩:=hrel;have HA:=qD ha;clear ha;by_cases hlt:i<n
  ·obtain⟨b,off,x,hA,hb,hx,e0⟩:=H.out.sr.Ko hlt;subst hA;have HX:=qD (lZ (p:=fun s=>!aN s) hx);clear hx;go_wp2_with fail;refine(uW x _).mono ?_;rintro e w1 ⟨rfl,rfl⟩;cases hq:aN x
   ·have HF:Hid (eo (fun s=>!aN s) l=(i:Int)):=by rw[Hid,HA.out,HX.out,hq];rfl
    go_wp2_with fail;go_ret;exact⟨by rw[HF.out];rfl,rfl⟩
   ·have HF:Hid (eo (fun s=>!aN s) l=dU (fun s=>!aN s) (l.drop (i+1)) (i+1)):=by rw[Hid,HA.out,HX.out,hq];rfl
    go_wp2_with fail;go_roundw
    ·exact⟨i+1,by omega,by go_num,HF.out,trivial⟩
    ·simp[intOf];omega
  ·have HF:Hid (eo (fun s=>!aN s) l=-1):=by rw[Hid,HA.out];exact kG (by have:=H.out.sr.ln;omega)
   go_wp2_with fail;go_ret;exact⟨by rw[HF.out];rfl,rfl⟩
theorem FB(p:ByteArray->Bool)(l:List ByteArray):decide (0<=eo (fun s=>!p s) l)=!l.all p:=by
 rcases oz (fun s=>!p s) l with⟨h1,h2⟩|⟨i,c,h1,h2,h3,_⟩
 ·rw[h1];have:l.all p=true:=PN.2 fun x hx=>by simpa using h2 x hx
  rw[this];rfl
 ·rw[h1];have:l.all p=false:=Ot.2 ⟨c,LP h2,by simpa using h3⟩;rw[this,LN (by omega)];rfl
theorem qo(l:List ByteArray)(A:Option Addr)(n c:Nat)(w:World)(h:ST w A n c l):
 Calls prog 181 #[.slice A n c,.func (.func 182) #[] #[]] w fun e w'=>e=.returned (.bool (!l.all aN))/\w'=w:=by
 have H:=qD h;clear h;have HV:=qD (FB aN l);go_enter func181,ntmps181;go_wp2_with fail;refine(xl l _ _ _ _ H.out).mono ?_;rintro e w1 ⟨rfl,rfl⟩;go_wp2_with fail;go_ret;exact⟨by rw[<-HV.out];rfl,rfl⟩
theorem Cs(l:List ByteArray)(A:Option Addr)(n c:Nat)(w:World)(h:ST w A n c l):
 Calls prog 138 #[.slice A n c] w fun e w'=>e=.returned (.bool (du l))/\w'=w:=by
 have hz:n<=140737488355328:=by have:=h.sz;unfold aF at this;omega
 have H:=qD h;have hn:=qD h.sr.ln;clear h;by_cases h1:1<=n
 ·by_cases h2:n<=16
  ·have HV:Hid (du l=l.all aN):=by unfold Hid du;rw[<-hn.out,LN h1,LN h2];rfl
   go_enter func138,ntmps138;go_wp2_with fail;refine(qo l _ _ _ _ H.out).mono ?_;rintro e w1 ⟨rfl,rfl⟩;go_wp2_with fail;go_ret;exact⟨by rw[HV.out];simp,rfl⟩
  ·have HV:Hid (du l=false):=by unfold Hid du;rw[<-hn.out,LN h1,LW h2];rfl
   go_enter func138,ntmps138;go_wp2_with fail;go_ret;exact⟨by rw[HV.out];rfl,rfl⟩
 ·have HV:Hid (du l=false):=by unfold Hid du;rw[<-hn.out,LW h1];rfl
  go_enter func138,ntmps138;go_wp2_with fail;go_ret;exact⟨by rw[HV.out];rfl,rfl⟩
def bG(c:Ch)(p:BB):Bool:=(p.2.toList==[]||Op.bytesLess c.lo.toList p.2.toList)&&(c.hi.toList==[]||Op.bytesLess p.1.toList c.hi.toList)
abbrev uX(p:BB):Value:=.agg #[.string p.1,.string p.2]
theorem An(c:Ch)(p:BB)(w:World):Calls prog 50 #[tF c,uX p] w fun e w'=>e=.returned (.bool (bG c p))/\Below w.heap.size w w':=by
 have BE:Hid (Below w.heap.size w ((w.alloc (.cells (ez c).toArray 92)).alloc (.cells (jE p).toArray 49))):=((LH _ _).alloc (qL) _).alloc (by simp) _;cases h1:(p.2.toList==[])
 ·cases h2:Op.bytesLess c.lo.toList p.2.toList
  ·have HV:Hid (bG c p=false):=by unfold Hid bG;rw[h1,h2];rfl
   go_enter Po,Pc;go_wp2_with fail;go_ret;exact⟨by rw[HV.out];rfl,BE.out⟩
  ·cases h3:(c.hi.toList==[])
   ·have HV:Hid (bG c p=Op.bytesLess p.1.toList c.hi.toList):=by unfold Hid bG;rw[h1,h2,h3];rfl
    go_enter Po,Pc;go_wp2_with fail;go_ret;exact⟨by rw[HV.out];rfl,BE.out⟩
   ·have HV:Hid (bG c p=true):=by unfold Hid bG;rw[h1,h2,h3];rfl
    go_enter Po,Pc;go_wp2_with fail;go_ret;exact⟨by rw[HV.out];rfl,BE.out⟩
 ·cases h3:(c.hi.toList==[])
  ·have HV:Hid (bG c p=Op.bytesLess p.1.toList c.hi.toList):=by unfold Hid bG;rw[h1,h3];rfl
   go_enter Po,Pc;go_wp2_with fail;go_ret;exact⟨by rw[HV.out];rfl,BE.out⟩
  ·have HV:Hid (bG c p=true):=by unfold Hid bG;rw[h1,h3];rfl
   go_enter Po,Pc;go_wp2_with fail;go_ret;exact⟨by rw[HV.out];rfl,BE.out⟩
theorem uY(c:Ch)(p:BB)(m:Nat)(w:World)(h:aE w m 92 (ez c).toArray):
 Calls prog 49 #[uX p,.pointer (some ⟨m,0,none⟩)] w fun e w'=>e=.returned (.bool (bG c p))/\Below w.heap.size w w':=by
 have hm:=h.lt;have e0:w.cell? ⟨m,0,none⟩=some (.string c.lo):=h.cell 0;have e1:w.cell? ⟨m,1,none⟩=some (.string c.hi):=h.cell 1;have e2:w.cell? ⟨m,2,none⟩=some (.int .i64 c.sh):=h.cell 2;have e3:w.cell? ⟨m,3,none⟩=some (.int .i64 c.ver):=h.cell 3;have e4:w.cell? ⟨m,4,none⟩=some (.bool c.ju):=h.cell 4;have BE:Hid (Below w.heap.size w (w.alloc (.cells (jE p).toArray 49))):=(LH _ _).alloc (qL) _;go_enter func49,ntmps49;go_wp2_with fail;refine(An c p _).mono ?_;rintro e w1 ⟨rfl,hb⟩;have CE:=qD (BE.out.Jp hb);clear hb BE;go_wp2_with fail;go_ret;exact⟨rfl,CE.out⟩
theorem uZ(c:Ch)(p:BB)(m:Nat)(A:Option Addr)(cc:Nat)(w:World)(h:aE w m 92 (ez c).toArray)(hr:SR 2 jE w A 1 cc [p]):
 Calls prog 115 #[.slice A 1 cc,.func (.func 49) #[] #[.pointer (some ⟨m,0,none⟩)]] w fun e w'=>e=.returned (.int .i64 (if bG c p then 0 else -1))/\Below w.heap.size w w':=by
 obtain⟨b,off,x,rfl,hb,hx,e0,e1⟩:=hr.Kn (i:=0) (by omega);obtain rfl:p=x:=by simpa using hx
 rw[OJ,Ms] at e0 e1;have H:=qD h;have hbw:=hb;obtain⟨V,hV⟩:∃V:Int,V=(if bG c p then 0 else -1):=⟨_,rfl⟩;rw[<-hV];have HVV:=qD hV;clear hx h hr hV;go_enter func115,ntmps115;go_upto_region 2 with fail
 go_loopw [4,5,8] (fun _ _ v wr=>∃i:Nat,i<=1/\v=.int .i64 i/\Below w.heap.size w wr/\(i=1->bG c p=false)) (fun _ _ v _=>1-(intOf v).toNat)
 ·exact⟨0,by omega,rfl,LH _ _,fun h=>by omega⟩
 case round=>
  obtain⟨i,hi,rfl,hbel,hf⟩:=hrel;have HB:=qD hbel;rcases MH i with h0|h0
  ·subst h0;replace e0:=(hbel.cell (p:=⟨b,off,none⟩) hbw).trans e0;replace e1:=(hbel.cell (p:=⟨b,off+1,none⟩) hbw).trans e1;have HM:=qD (uY c p m wr (H.out.step hbel));clear hf hbel;go_wp2_with fail;refine HM.out.mono ?_;rintro e w1 ⟨rfl,hb1⟩;have CE:=qD (HB.out.Jp hb1);clear hb1 HB HM e0 e1;cases hq:bG c p
   ·go_wp2_with fail;go_roundw
    ·exact⟨1,by omega,rfl,CE.out,fun _=>hq⟩
    ·simp[intOf]
   ·have HF:Hid ((if bG c p then(0:Int) else -1)=0):=by rw[Hid,hq];rfl
    go_wp2_with fail;go_ret;exact⟨by rw[show V=0 from HVV.out.trans HF.out];rfl,CE.out⟩
  ·obtain rfl:i=1:=by omega
   have HF:Hid ((if bG c p then(0:Int) else -1)=-1):=by rw[Hid,hf rfl];rfl
   clear hf hbel;go_wp2_with fail;go_ret;exact⟨by rw[show V=-1 from HVV.out.trans HF.out];rfl,HB.out⟩
theorem pB(c:Ch)(p:BB)(m:Nat)(A:Option Addr)(cc:Nat)(w:World)(h:aE w m 92 (ez c).toArray)(hr:SR 2 jE w A 1 cc [p]):
 Calls prog 48 #[.slice A 1 cc,.func (.func 49) #[] #[.pointer (some ⟨m,0,none⟩)]] w fun e w'=>e=.returned (.bool (bG c p))/\Below w.heap.size w w':=by
 have HI:=qD (uZ c p m A cc w h hr);clear h hr;cases hq:bG c p
 ·rw[hq] at HI;go_enter func48,ntmps48;go_wp2_with fail;refine HI.out.mono ?_;rintro e w1 ⟨rfl,hb1⟩;have CE:=qD hb1;clear hb1 HI;go_wp2_with fail;go_ret;exact⟨rfl,CE.out⟩
 ·rw[hq] at HI;go_enter func48,ntmps48;go_wp2_with fail;refine HI.out.mono ?_;rintro e w1 ⟨rfl,hb1⟩;have CE:=qD hb1;clear hb1 HI;go_wp2_with fail;go_ret;exact⟨rfl,CE.out⟩
def cW(z:Int):List Value:=[.int .i64 z]
theorem eS(z:Int):(cW z).length=1:=rfl
theorem pC(z:Int):∀u∈cW z,u.oneCell'=true:=by simp[cW,Value.oneCell']
theorem pD:(Tryz.prog.info? 3).map (fun i=>(i.zero,i.size,i.bytes))=some (some (.int .i64 0),1,8):=by kernel_rfl
theorem SR.Ku{w:World}{A:Option Addr}{n c:Nat}{l:List Int}(h:SR 1 cW w A n c l){i:Nat}(hi:i<n):∃b off x,A=some ⟨b,off,none⟩/\b<w.heap.size/\l[i]?=some x/\w.cell? ⟨b,off+i,none⟩=some (.int .i64 x):=by
 obtain⟨b,off,e,hb,hc⟩:=h.el (by omega);have hl:i<l.length:=by have:=h.ln;omega
 have h1:=LI hl;exact⟨b,off,l[i],e,hb,h1,by simpa using hc i _ h1 0 _ rfl⟩
theorem ld(l:List Int)(A B:Option Addr)(n c d:Nat)(w:World)(h:SR 1 cW w A n c l)(h':SR 1 cW w B n d l)(hn:n<=100):
 Calls prog 15 #[.slice A n c,.slice B n d] w fun e w'=>e=.returned (.bool true)/\Below w.heap.size w w':=by
 have H:=qD h;have H':=qD h';clear h h';go_enter func15,ntmps15;go_upto_region 4 with fail
 go_loopw [5,13] (fun _ v wr=>∃i:Nat,i<=n/\v=.int .i64 i/\Below w.heap.size w wr) (fun _ v _=>n-(intOf v).toNat)
 ·exact⟨0,LQ _,rfl,LH _ _⟩
 case round=>
  obtain⟨i,hi,rfl,hbel⟩:=hrel;have HB:=qD hbel;by_cases hlt:i<n
  ·obtain⟨b,off,x,rfl,hb,hx,e0⟩:=H.out.Ku hlt;obtain⟨b',off',y,rfl,hb',hy,e1⟩:=H'.out.Ku hlt;obtain rfl:x=y:=Mk (hx.symm.trans hy);have g0:∀q:BW wr,q.val.cell? ⟨b,off+i,none⟩=some (.int .i64 x):=fun q=>q.cell ((hbel.cell (p:=⟨b,off+i,none⟩) hb).trans e0);have g1:∀q:BW wr,q.val.cell? ⟨b',off'+i,none⟩=some (.int .i64 x):=fun q=>q.cell ((hbel.cell (p:=⟨b',off'+i,none⟩) hb').trans e1);have i0':(0:Int)<=(i:Int):=by omega
   have i1':(i:Int)<(n:Int):=by omega
   have xx:(x != x)=false:=by simp
   clear hx hy e0 e1 hbel;go_upto_region 6 with fail
   refine aL (by kernel_rfl) (by kernel_rfl) ?_
   repeat(go_big_quiet_step (fail))
   refine Ln ?_;rintro _ ⟨kw,rfl⟩;have CE:=qD (HB.out.Jp kw.below);clear g0 g1 HB;generalize kw.val=w3 at*;go_wp2_with fail;go_roundw
   ·exact⟨i+1,hlt,by go_num,CE.out⟩
   ·simp[intOf];omega
  ·obtain rfl:i=n:=by omega
   clear hbel;go_wp2_with fail;go_ret;exact⟨rfl,HB.out⟩
theorem ua(A:Option Addr)(c:Nat)(w:World):
 Calls prog 162 #[.slice A 1 c,.int .i64 0,.int .i64 1] w fun e w'=>e=.returned (.tuple #[])/\Below w.heap.size w w':=by
 go_enter func162,ntmps162;go_wp2_with fail
 go_loopw [6,7] (fun v8 _ wr=>v8=.int .i64 1/\wr=w) (fun _ _ _=>0)
 ·exact⟨rfl,rfl⟩
 case round=>
  obtain⟨rfl,rfl⟩:=hrel;go_wp2_with fail
  go_end0
  exact⟨rfl,LH _ _⟩
theorem FC(x:Int)(w:World):Calls prog 128 #[.int .i64 x] w fun e w'=>e=.returned (.bool false)/\Below w.heap.size w w':=by
 have xx:(x != x)=false:=by simp
 go_enter func128,ntmps128;go_wp2_with fail;go_ret;exact⟨rfl,LH _ _⟩
theorem FF(x y:Int)(w:World)(h:¬x<y):Calls prog 57 #[.int .i64 x,.int .i64 y] w fun e w'=>e=.returned (.bool false)/\Below w.heap.size w w':=by
 have HF:Hid (decide (x<y)=false):=LW h;clear h;go_enter func57,ntmps57;go_wp2_with fail;refine(FC x _).mono ?_;rintro e w1 ⟨rfl,hb⟩;have CE:=qD hb;clear hb;go_wp2_with fail;go_ret;refine⟨?_,CE.out⟩;show _=Ending.returned (Value.bool false);rw[<-HF.out];rfl
theorem ub(x y:Int)(A:Option Addr)(c:Nat)(w:World)(h:SR 1 cW w A 2 c [x,y])(hxy:x<y):
 Calls prog 162 #[.slice A 2 c,.int .i64 0,.int .i64 2] w fun e w'=>e=.returned (.tuple #[])/\Below w.heap.size w w':=by
 obtain⟨b,off,z,rfl,hb,hz,e0⟩:=h.Ku (i:=0) (by omega);obtain rfl:x=z:=by simpa using hz
 obtain⟨b',off',z',he,hb',hz',e1⟩:=h.Ku (i:=1) (by omega);cases he;obtain rfl:y=z':=by simpa using hz'
 have HL:=qD fun(wr:World)=>FF y x wr (by omega);rw[Ms] at e0;clear hz hz' h hxy;go_enter func162,ntmps162;go_wp2_with fail
 go_loopw [6,7] (fun v6 _ wr=>∃i:Nat,1<=i/\i<=2/\v6=.int .i64 i/\Below w.heap.size w wr) (fun v6 _ _=>2-(intOf v6).toNat)
 ·exact⟨1,by omega,by omega,rfl,LH _ _⟩
 case round=>
  obtain⟨i,h1,h2,rfl,hbel⟩:=hrel;have HB:=qD hbel;by_cases hi:i=1
  ·subst hi;have g0:∀q:BW wr,q.val.cell? ⟨b,off,none⟩=some (.int .i64 x):=fun q=>q.cell ((hbel.cell (p:=⟨b,off,none⟩) hb).trans e0);have g1:∀q:BW wr,q.val.cell? ⟨b,off+1,none⟩=some (.int .i64 y):=fun q=>q.cell ((hbel.cell (p:=⟨b,off+1,none⟩) hb).trans e1);have K1:Hid (∀q:BW wr,Calls prog 57 #[.int .i64 y,.int .i64 x] q.val fun e w''=>e=.returned (.bool false)/\∃q:BW wr,w''=q.val):=fun q=>Calls.bw (HL.out q.val);clear hbel h1 h2;go_wp2_with fail
   go_loopw [7] (fun v7 wq=>v7=.int .i64 1/\wq=wr) (fun _ _=>0)
   ·exact⟨rfl,rfl⟩
   case round=>
    obtain⟨rfl,rfl⟩:=hrel;go_upto_region 4 with fail
    refine aL (by kernel_rfl) (by kernel_rfl) ?_
    repeat(go_big_quiet_step (with_reducible exact K1.out _))
    refine Ln ?_;rintro _ ⟨kw,rfl⟩;have CE:=qD (HB.out.Jp kw.below);clear g0 g1 K1;generalize kw.val=w3 at*;go_wp2_with fail;go_roundw
    ·exact⟨2,by omega,by omega,rfl,CE.out⟩
    ·simp[intOf]
  ·obtain rfl:i=2:=by omega
   clear hbel;go_wp2_with fail
   go_end0
   exact⟨rfl,HB.out⟩
abbrev B2:=ByteArray×ByteArray
def aY(p:B2):List Value:=[.string p.1,.string p.2]
theorem aw(p:B2):(aY p).length=2:=rfl
theorem dR(p:B2):∀u∈aY p,u.oneCell'=true:=by simp[aY,Value.oneCell']
def bL(p q:B2):Int:=lT (bm p.1 q.1) (bm p.2 q.2)
theorem FG{p q:B2}(h:bL p q<=0):¬bm q.1 p.1<0:=by
 unfold bL lT at h;have:=gD p.1 q.1;split at h
 ·omega
 ·omega
structure uc(α:Type) where
 A:Option Addr
 n:Nat
 c:Nat
 xs:List α
abbrev uc.v{α:Type}(s:uc α):Value:=.slice s.A s.n s.c
def uc.nil{α:Type}:uc α:=⟨none,0,0,[]⟩
inductive fu where
 | mk (op:Int) (path:uc ByteArray) (name:ByteArray) (names:uc ByteArray) (arg:PV) (n:Int) (kA:Option Addr) (kn kc:Nat) (kids:List fu)
def fu.op:fu->Int | .mk op _ _ _ _ _ _ _ _ _=>op
def fu.path:fu->uc ByteArray | .mk _ x _ _ _ _ _ _ _ _=>x
def fu.name:fu->ByteArray | .mk _ _ x _ _ _ _ _ _ _=>x
def fu.names:fu->uc ByteArray | .mk _ _ _ x _ _ _ _ _ _=>x
def fu.arg:fu->PV | .mk _ _ _ _ x _ _ _ _ _=>x
def fu.n:fu->Int | .mk _ _ _ _ _ x _ _ _ _=>x
def fu.kA:fu->Option Addr | .mk _ _ _ _ _ _ x _ _ _=>x
def fu.kn:fu->Nat | .mk _ _ _ _ _ _ _ x _ _=>x
def fu.kc:fu->Nat | .mk _ _ _ _ _ _ _ _ x _=>x
def fu.kids:fu->List fu | .mk _ _ _ _ _ _ _ _ _ x=>x
def fu.zero:fu:=.mk 0 .nil empty .nil (VC.zero,aC.zero) 0 none 0 0 []
inductive ao where
 | mk (op:Int) (path:uc ByteArray) (arg:PV) (args:uc PV) (n m sk:Int) (pts:uc (Int×Int)) (sr:Int) (ex:fu) (kA:Option Addr) (kn kc:Nat) (kids:List ao)
def ao.op:ao->Int | .mk op _ _ _ _ _ _ _ _ _ _ _ _ _=>op
def ao.path:ao->uc ByteArray | .mk _ x _ _ _ _ _ _ _ _ _ _ _ _=>x
def ao.arg:ao->PV | .mk _ _ x _ _ _ _ _ _ _ _ _ _ _=>x
def ao.args:ao->uc PV | .mk _ _ _ x _ _ _ _ _ _ _ _ _ _=>x
def ao.n:ao->Int | .mk _ _ _ _ x _ _ _ _ _ _ _ _ _=>x
def ao.m:ao->Int | .mk _ _ _ _ _ x _ _ _ _ _ _ _ _=>x
def ao.sk:ao->Int | .mk _ _ _ _ _ _ x _ _ _ _ _ _ _=>x
def ao.pts:ao->uc (Int×Int) | .mk _ _ _ _ _ _ _ x _ _ _ _ _ _=>x
def ao.sr:ao->Int | .mk _ _ _ _ _ _ _ _ x _ _ _ _ _=>x
def ao.ex:ao->fu | .mk _ _ _ _ _ _ _ _ _ x _ _ _ _=>x
def ao.kA:ao->Option Addr | .mk _ _ _ _ _ _ _ _ _ _ x _ _ _=>x
def ao.kn:ao->Nat | .mk _ _ _ _ _ _ _ _ _ _ _ x _ _=>x
def ao.kc:ao->Nat | .mk _ _ _ _ _ _ _ _ _ _ _ _ x _=>x
def ao.kids:ao->List ao | .mk _ _ _ _ _ _ _ _ _ _ _ _ _ x=>x
theorem fu.ind{p:fu->Prop}(h:∀x:fu,(∀k∈x.kids,p k)->p x):∀x,p x:=by
 intro x;refine fu.rec (motive_1:=p) (motive_2:=fun l=>∀k∈l,p k) ?_ ?_ ?_ x
 ·intro op path name names arg n kA kn kc kids hk;exact h _ hk
 ·intro k hk;simp at hk
 ·intro y r hy hr k hk;rcases Li.1 hk with rfl|hk
  ·exact hy
  ·exact hr k hk
theorem ao.ind{p:ao->Prop}(h:∀x:ao,(∀k∈x.kids,p k)->p x):∀x,p x:=by
 intro x;refine ao.rec (motive_1:=p) (motive_2:=fun l=>∀k∈l,p k) ?_ ?_ ?_ x
 ·intro op path arg args n m sk pts sr ex kA kn kc kids hk;exact h _ hk
 ·intro k hk;simp at hk
 ·intro y r hy hr k hk;rcases Li.1 hk with rfl|hk
  ·exact hy
  ·exact hr k hk
def mY(x:fu):List Value:=
 [.int .i64 x.op,x.path.v,.string x.name,x.names.v,.int .i64 x.arg.1.k,.int .i64 x.arg.1.n,.string x.arg.1.t,.slice x.arg.1.LA x.arg.1.ln x.arg.1.lc,.slice x.arg.1.DA x.arg.1.dn x.arg.1.dc,.int .i64 x.n,.slice x.kA x.kn x.kc]
abbrev dk(x:fu):Array Value:=
 #[.int .i64 x.op,x.path.v,.string x.name,x.names.v,.int .i64 x.arg.1.k,.int .i64 x.arg.1.n,.string x.arg.1.t,.slice x.arg.1.LA x.arg.1.ln x.arg.1.lc,.slice x.arg.1.DA x.arg.1.dn x.arg.1.dc,.int .i64 x.n,.slice x.kA x.kn x.kc]
abbrev zm(x:fu):Value:=.agg (dk x)
def iG(p:ao):List Value:=
 [.int .i64 p.op,p.path.v,.int .i64 p.arg.1.k,.int .i64 p.arg.1.n,.string p.arg.1.t,.slice p.arg.1.LA p.arg.1.ln p.arg.1.lc,.slice p.arg.1.DA p.arg.1.dn p.arg.1.dc,p.args.v,.int .i64 p.n,.int .i64 p.m,.int .i64 p.sk,p.pts.v,.int .i64 p.sr,
  .int .i64 p.ex.op,p.ex.path.v,.string p.ex.name,p.ex.names.v,.int .i64 p.ex.arg.1.k,.int .i64 p.ex.arg.1.n,.string p.ex.arg.1.t,.slice p.ex.arg.1.LA p.ex.arg.1.ln p.ex.arg.1.lc,.slice p.ex.arg.1.DA p.ex.arg.1.dn p.ex.arg.1.dc,.int .i64 p.ex.n,.slice p.ex.kA p.ex.kn p.ex.kc,
  .slice p.kA p.kn p.kc]
abbrev aH(p:ao):Array Value:=
 #[.int .i64 p.op,p.path.v,.int .i64 p.arg.1.k,.int .i64 p.arg.1.n,.string p.arg.1.t,.slice p.arg.1.LA p.arg.1.ln p.arg.1.lc,.slice p.arg.1.DA p.arg.1.dn p.arg.1.dc,p.args.v,.int .i64 p.n,.int .i64 p.m,.int .i64 p.sk,p.pts.v,.int .i64 p.sr,
  .int .i64 p.ex.op,p.ex.path.v,.string p.ex.name,p.ex.names.v,.int .i64 p.ex.arg.1.k,.int .i64 p.ex.arg.1.n,.string p.ex.arg.1.t,.slice p.ex.arg.1.LA p.ex.arg.1.ln p.ex.arg.1.lc,.slice p.ex.arg.1.DA p.ex.arg.1.dn p.ex.arg.1.dc,.int .i64 p.ex.n,.slice p.ex.kA p.ex.kn p.ex.kc,
  .slice p.kA p.kn p.kc]
abbrev am(p:ao):Value:=.agg (aH p)
def rL(p:Int×Int):List Value:=[.int .i64 p.1,.int .i64 p.2]
theorem tG(x:fu):(mY x).length=11:=rfl
theorem tH(p:ao):(iG p).length=25:=rfl
theorem tI(p:Int×Int):(rL p).length=2:=rfl
def WX(w:World):fu->Prop
 | .mk _ path name names arg _ kA kn kc kids=>ST w path.A path.n path.c path.xs/\name.size<=aF/\ST w names.A names.n names.c names.xs/\RW w arg.1 arg.2/\SR 11 mY w kA kn kc kids/\kn*184<=aF/\WXs w kids
where WXs (w:World):List fu->Prop
 | []=>True
 | x::r=>WX w x/\WXs w r
def WP(w:World):ao->Prop
 | .mk _ path arg args _ _ _ pts _ ex kA kn kc kids=>ST w path.A path.n path.c path.xs/\RW w arg.1 arg.2/\SL (fun _=>True) w args.A args.n args.c args.xs/\args.n<=1048576/\SR 2 rL w pts.A pts.n pts.c pts.xs/\pts.n*16<=aF/\WX w ex/\SR 25 iG w kA kn kc kids/\kn*400<=aF/\WPs w kids
where WPs (w:World):List ao->Prop
 | []=>True
 | x::r=>WP w x/\WPs w r
theorem zn{w:World}{l:List fu}:WX.WXs w l↔∀k∈l,WX w k:=by
 induction l with
 | nil=>simp[WX.WXs]
 | cons y r ih=>simp[WX.WXs,ih]
theorem zo{w:World}{l:List ao}:WP.WPs w l↔∀k∈l,WP w k:=by
 induction l with
 | nil=>simp[WP.WPs]
 | cons y r ih=>simp[WP.WPs,ih]
structure IF(w:World)(x:fu):Prop where
 path:ST w x.path.A x.path.n x.path.c x.path.xs
 nsz:x.name.size<=aF
 names:ST w x.names.A x.names.n x.names.c x.names.xs
 arg:RW w x.arg.1 x.arg.2
 sr:SR 11 mY w x.kA x.kn x.kc x.kids
 ksz:x.kn*184<=aF
 kids:∀k∈x.kids,WX w k
theorem WX.open{w:World}{x:fu}(h:WX w x):IF w x:=by
 cases x;obtain⟨h1,h2,h3,h4,h5,h6,h7⟩:=h;exact⟨h1,h2,h3,h4,h5,h6,zn.1 h7⟩
theorem IF.shut{w:World}{x:fu}(h:IF w x):WX w x:=by
 cases x;exact⟨h.path,h.nsz,h.names,h.arg,h.sr,h.ksz,zn.2 h.kids⟩
structure Hz(w:World)(p:ao):Prop where
 path:ST w p.path.A p.path.n p.path.c p.path.xs
 arg:RW w p.arg.1 p.arg.2
 args:SL (fun _=>True) w p.args.A p.args.n p.args.c p.args.xs
 few:p.args.n<=1048576
 pts:SR 2 rL w p.pts.A p.pts.n p.pts.c p.pts.xs
 psz:p.pts.n*16<=aF
 ex:WX w p.ex
 sr:SR 25 iG w p.kA p.kn p.kc p.kids
 ksz:p.kn*400<=aF
 kids:∀k∈p.kids,WP w k
theorem WP.open{w:World}{p:ao}(h:WP w p):Hz w p:=by
 cases p;obtain⟨h1,h2,h3,h4,h5,h6,h7,h8,h9,h10⟩:=h;exact⟨h1,h2,h3,h4,h5,h6,h7,h8,h9,zo.1 h10⟩
theorem Hz.shut{w:World}{p:ao}(h:Hz w p):WP w p:=by
 cases p;exact⟨h.path,h.arg,h.args,h.few,h.pts,h.psz,h.ex,h.sr,h.ksz,zo.2 h.kids⟩
theorem WX.step{w w':World}(hb:Below w.heap.size w w'):∀{x:fu},WX w x->WX w' x:=by
 intro x
 induction x using fu.ind with
 | h x ih=>
  intro h;have o:=h.open;exact IF.shut ⟨o.path.step hb,o.nsz,o.names.step hb,o.arg.step hb,o.sr.step hb,o.ksz,fun k hk=>ih k hk (o.kids k hk)⟩
theorem WP.step{w w':World}(hb:Below w.heap.size w w'):∀{p:ao},WP w p->WP w' p:=by
 intro p
 induction p using ao.ind with
 | h p ih=>
  intro h;have o:=h.open;exact Hz.shut ⟨o.path.step hb,o.arg.step hb,o.args.step hb,o.few,o.pts.step hb,o.psz,o.ex.step hb,o.sr.step hb,o.ksz,fun k hk=>ih k hk (o.kids k hk)⟩
def ao.nodes:ao->Nat
 | .mk _ _ _ _ _ _ _ _ _ _ _ _ _ kids=>1+nodesL kids
where nodesL:List ao->Nat
 | []=>0
 | x::r=>x.nodes+nodesL r
theorem ao.Ka(p:ao):p.nodes=1+ao.nodes.nodesL p.kids:=by cases p;rfl
def cY(s:ByteArray):Nat->Nat
 | 0=>0
 | n+1=>if s.data[n]?=some 255 then cY s n else n+1
def fa(s:ByteArray):Option ByteArray:=match cY s s.size with
 | 0=>none
 | n+1=>some (s.extract 0 n++⟨#[s.data[n]?.getD 0+1]⟩)
theorem rM(s:ByteArray):∀n,cY s n<=n:=by
 intro n
 induction n with
 | zero=>exact qL
 | succ n ih=>unfold cY;split<;>omega
def iZ(k:Int):aC:=.mk k 0 empty [] []
def cZ:ByteArray:=⟨#[0,0,0,0,0,0,0,0,0,0,0,0]⟩
def cT(k:Int):aC:=if k=3 then .mk k (-9223372036854775808) empty [] [] else if k=8 then .mk k 0 cZ [] [] else iZ k
def cd(k:Int):Iv:=
 if k=3\/k=10 then⟨cT k,.mk k 9223372036854775807 empty [] [],true,true⟩
 else if k=9 then⟨cT k,.mk k 1 empty [] [],true,true⟩
 else if k=4\/k=5\/k=6\/k=7\/k=8 then⟨cT k,cT (k+1),true,false⟩
 else⟨cT k,cT k,true,true⟩
def ud(op:Int)(x:aC):Iv:=
 if op=4\/op=5 then⟨x,(cd x.k).hi,decide (op=5),(cd x.k).hin⟩
 else⟨(cd x.k).lo,x,(cd x.k).li,decide (op=7)⟩
noncomputable def mZ(x:aC):Iv×Bool:=
 match fa x.t with
 | some s=>if aO (.mk 4 0 s [] [])=true then(⟨x,.mk 4 0 s [] [],true,false⟩,true) else(⟨x,iZ 5,true,false⟩,decide (x.t=empty))
 | none=>(⟨x,iZ 5,true,false⟩,decide (x.t=empty))
noncomputable def dv(op:Int)(arg:aC)(args:List aC)(n:Int):Option (List Iv×Bool):=
 if op=2 then(if arg.k=6 then none else some ([eM arg],decide (arg.k≠2)))
 else if op=4\/op=5\/op=6\/op=7 then(if arg.k=6 then none else some ([ud op arg],decide (arg.k≠2)))
 else if op=8 then(if ∃x∈args,x.k=6 then none else some (args.map eM,decide (¬∃x∈args,x.k=2)))
 else if op=16 then some ([(mZ arg).1],(mZ arg).2)
 else if op=11 then(if n=6 then none else some ([cd n],decide (n≠2)))
 else none
def dV:cA->Prop:=fun a=>dj ae a (aT [iq])
abbrev iH:=(cA->Prop)×Bool
noncomputable def bZ(op:Int)(arg:aC)(args:List aC)(n:Int):iH:=match dv op arg args n with
 | some r=>(fun a=>dj ae a (aT r.1),r.2)
 | none=>(dV,false)
open Classical in
noncomputable def dd(S:cA->Prop):Bool:=decide (∀a,iy a->(S a↔dV a))
noncomputable def dx:List iH->iH
 | []=>(dV,false)
 | r::rs=>if dd r.1 then dx rs else(r.1,false)
noncomputable def lg(rs:List iH):iH:=match rs with
 | [r]=>r
 | _=>dx rs
noncomputable def xm(rs:List iH):iH:=if rs.any (fun r=>dd r.1) then(dV,false) else(fun a=>∃r∈rs,r.1 a,rs.all fun r=>r.2)
noncomputable def dE(l:List ByteArray):ao->iH
 | .mk op path arg args n _ _ _ _ _ _ _ _ kids=>if op=20 then lg (ofSs l kids) else if op=21 then xm (ofSs l kids) else if path.xs=l then bZ op arg.2 (args.xs.map Prod.snd) n else(dV,false)
where ofSs (l:List ByteArray):List ao->List iH
 | []=>[]
 | x::r=>dE l x::ofSs l r
theorem Ct(l:List ByteArray)(ks:List ao):dE.ofSs l ks=ks.map (dE l):=by
 induction ks with
 | nil=>rfl
 | cons x r ih=>simp[dE.ofSs,ih]
theorem tJ(l:List ByteArray)(p:ao):dE l p=if p.op=20 then lg (p.kids.map (dE l)) else if p.op=21 then xm (p.kids.map (dE l)) else if p.path.xs=l then bZ p.op p.arg.2 (p.args.xs.map Prod.snd) p.n else(dV,false):=by
 cases p;simp only[dE,Ct];rfl
theorem tL{l:List ByteArray}{p:ao}(h:p.op=20):dE l p=lg (p.kids.map (dE l)):=by rw[tJ,LZ h]
theorem xo{l:List ByteArray}{p:ao}(h:p.op=21):dE l p=xm (p.kids.map (dE l)):=by rw[tJ,LU (by omega),LZ h]
theorem pE{l:List ByteArray}{p:ao}(h:p.op≠20)(h':p.op≠21)(hp:p.path.xs=l):dE l p=bZ p.op p.arg.2 (p.args.xs.map Prod.snd) p.n:=by rw[tJ,LU h,LU h',LZ hp]
theorem pF{l:List ByteArray}{p:ao}(h:p.op≠20)(h':p.op≠21)(hp:p.path.xs≠l):dE l p=(dV,false):=by rw[tJ,LU h,LU h',LU hp]
def ao.sz:ao->Nat
 | .mk _ _ _ args _ _ _ _ _ _ _ _ _ kids=>1+args.n+szL kids
where szL:List ao->Nat
 | []=>0
 | x::r=>x.sz+szL r
theorem ao.Jx(p:ao):p.sz=1+p.args.n+ao.sz.szL p.kids:=by cases p;rfl
theorem nG{l:List ao}{k:ao}(h:k∈l):k.sz<=ao.sz.szL l:=by
 induction l with
 | nil=>cases h
 | cons x r ih=>
  simp only[ao.sz.szL];rcases Li.1 h with rfl|h
  ·omega
  ·have:=ih h;omega
theorem pG(l:List ao)(i:Nat){k:ao}(h:l[i]?=some k):ao.sz.szL (l.take (i+1))=ao.sz.szL (l.take i)+k.sz:=by
 induction l generalizing i with
 | nil=>simp at h
 | cons x r ih=>
  cases i with
  | zero=>simp at h;subst h;simp[ao.sz.szL]
  | succ i=>
   have:=ih i (by simpa using h);simp only[NX,ao.sz.szL] at*;omega
theorem ic(l:List ao)(i:Nat):ao.sz.szL (l.take i)<=ao.sz.szL l:=by
 induction l generalizing i with
 | nil=>simp
 | cons x r ih=>
  cases i with
  | zero=>simp[ao.sz.szL]
  | succ i=>have:=ih i;simp only[NX,ao.sz.szL];omega
theorem GL{w:World}:∀{p:ao},WP w p->p.sz<=p.nodes*1048577:=by
 intro p
 induction p using ao.ind with
 | h p ih=>
  intro h;have o:=h.open;rw[p.Jx,p.Ka]
  have key:∀l:List ao,(∀k∈l,k.sz<=k.nodes*1048577)->ao.sz.szL l<=ao.nodes.nodesL l*1048577:=by
   intro l
   induction l with
   | nil=>intro _;simp[ao.sz.szL]
   | cons x r ihl=>
    intro hl;have h1:=hl x (by simp);have h2:=ihl fun k hk=>hl k (by simp[hk]);simp only[ao.sz.szL,ao.nodes.nodesL,Nn];omega
  have:=key p.kids fun k hk=>ih k hk (o.kids k hk);have:=o.few;rw[Nn];omega
def od:ao->Prop
 | .mk op path arg args n _ _ _ _ _ _ _ _ kids=>
  ((2<=op/\op<=7)\/op=16\/op=17\/op=19->aO arg.2=true)/\(op=8\/op=9\/op=14->∀x∈args.xs,aO x.2=true)/\(op=16\/op=17\/op=19->arg.2.k=4)/\(op=11->1<=n/\n<=11)/\
   (op=15\/op=20\/op=21->kids≠[])/\(2<=op/\op<=19->path.xs.length<=16)/\(op≠24->VPs kids)
where VPs:List ao->Prop
 | []=>True
 | x::r=>od x/\VPs r
theorem zp{l:List ao}:od.VPs l↔∀k∈l,od k:=by
 induction l with
 | nil=>simp[od.VPs]
 | cons y r ih=>simp[od.VPs,ih]
structure Ep(p:ao):Prop where
 argA:(2<=p.op/\p.op<=7)\/p.op=16\/p.op=17\/p.op=19->aO p.arg.2=true
 argsA:p.op=8\/p.op=9\/p.op=14->∀x∈p.args.xs,aO x.2=true
 textA:p.op=16\/p.op=17\/p.op=19->p.arg.2.k=4
 kind:p.op=11->1<=p.n/\p.n<=11
 neA:p.op=15\/p.op=20\/p.op=21->p.kids≠[]
 pathA:2<=p.op/\p.op<=19->p.path.xs.length<=16
 kidsA:p.op≠24->∀k∈p.kids,od k
theorem Ep.arg{p:ao}(h:Ep p)(ho:p.op=2\/p.op=4\/p.op=5\/p.op=6\/p.op=7\/p.op=16):aO p.arg.2=true:=h.argA (by omega)
theorem Ep.ne{p:ao}(h:Ep p)(ho:p.op=20\/p.op=21):p.kids≠[]:=h.neA (.inr ho)
theorem Ep.kids{p:ao}(h:Ep p)(ho:p.op=20\/p.op=21):∀k∈p.kids,od k:=h.kidsA (by omega)
theorem od.open{p:ao}(h:od p):Ep p:=by
 cases p;obtain⟨h1,h2,h3,h4,h5,h6,h7⟩:=h;exact⟨h1,h2,h3,h4,h5,h6,fun h=>zp.1 (h7 h)⟩
theorem Ep.shut{p:ao}(h:Ep p):od p:=by
 cases p;exact⟨h.argA,h.argsA,h.textA,h.kind,h.neA,h.pathA,fun h'=>zp.2 (h.kidsA h')⟩
open Classical in
theorem ue{S:cA->Prop}:dd S=true↔∀a,iy a->(S a↔dV a):=by
 unfold dd;exact NJ
theorem uf{S:cA->Prop}{n:List (cA×cA)}(h:fg S n):(n=[((eL,false),(ff,true))])↔dd S=true:=by
 rw[ue];constructor
 ·rintro rfl a _;rw[<-h.2 a];exact mH.2 a
 ·intro k;exact h.unique mH k
open Go
theorem aG{P:Program}{ops:Array Oper}{rest:List Oper}{op:Oper}{a:Act}{w:World}{Q:Exit->Act->World->Prop}(hw:Region.wanted op (yielded ops a.tmps)=true)(ty:TypeId)(x:Operand)(ho:op.op=.load ty x)(b o:Nat)(hx:a.eval x=.pointer (some ⟨b,o,none⟩))(cs:List Value)(d:TypeDesc)(hc:w.rangeAt b o cs)(hu:P.underlying ty=some d)(hd:d.isRow=true)(hi:(P.info? ty).map (·.size)=some cs.length)(h:wpList P ops Q rest (a.put op.dst (.agg cs.toArray)) w):wpList P ops Q (op::rest) a w:=
 wpList_step fun K hK=>by
  simp only[hw,Ou];exact wp_load_mid ty x ho b o hx cs d hc hu hd hi (hK _ _ h)
theorem aj{w:World}{g:Nat}{t:TypeId}{cs:Array Value}(h:aE w g t cs)(l:List Value)(o:Nat)(hl:∀(j:Nat) (v:Value),l[j]?=some v->cs[o+j]?=some v):w.rangeAt g o l:=by
 intro j v hj;rw[h.cell];exact hl j v hj
theorem lh{a b:Bool}(h:a=b):Ending.returned (.bool a)=.returned (.bool b):=by rw[h]
def cq(op:Int):Bool:=decide (2<=op)&&decide (op<=19)
def dW(op:Int):Bool:=decide (op=16)||(decide (op=17)||decide (op=19))
def dB(op:Int):Bool:=(decide (2<=op)&&decide (op<=7))||dW op
def cQ(op:Int):Bool:=decide (op=8)||(decide (op=9)||decide (op=14))
def ce(p:ao):Bool:=if p.op=15\/p.op=23 then decide (p.kn=1) else if p.op=20\/p.op=21\/p.op=22 then decide (0<p.kn) else decide (p.kn=0)
def au(p:ao):Bool:=
 if p.op=10 then decide (p.n=0)||decide (p.n=1) else if p.op=11 then decide (1<=p.n)&&decide (p.n<=11) else if p.op=12 then decide (1<=p.n)&&(decide (0<=p.m)&&decide (p.m<p.n)) else if p.op=13 then decide (0<=p.n) else true
theorem lj(op:Int)(w:World):Calls prog 63 #[.int .i64 op] w fun e w'=>e=.returned (.bool (cq op))/\w'=w:=by
 go_enter func63,ntmps63
 go_wp2
 all_goals go_ret
 all_goals refine⟨lh ?_,rfl⟩
 all_goals first|(simp[cq, *];done)|(rw[Lg];simp[cq, *];done)|(rw[Lg];simp[cq, *];omega)|(simp[cq, *];omega)|(simp_all[cq];done)|(simp_all[cq];omega)
theorem nl(op:Int)(w:World):Calls prog 65 #[.int .i64 op] w fun e w'=>e=.returned (.bool (dW op))/\w'=w:=by
 go_enter func65,ntmps65
 go_wp2
 all_goals go_ret
 all_goals refine⟨lh ?_,rfl⟩
 all_goals first|(simp[dW, *];done)|(rw[Lg];simp[dW, *];done)|(rw[Lg];simp[dW, *];omega)|(simp[dW, *];omega)|(simp_all[dW];done)|(simp_all[dW];omega)
theorem ie(op:Int)(w:World):Calls prog 61 #[.int .i64 op] w fun e w'=>e=.returned (.bool (cQ op))/\w'=w:=by
 go_enter func61,ntmps61
 go_wp2
 all_goals go_ret
 all_goals refine⟨lh ?_,rfl⟩
 all_goals first|(simp[cQ, *];done)|(rw[Lg];simp[cQ, *];done)|(rw[Lg];simp[cQ, *];omega)|(simp[cQ, *];omega)|(simp_all[cQ];done)|(simp_all[cQ];omega)
theorem pH(op:Int)(w:World):Calls prog 64 #[.int .i64 op] w fun e w'=>e=.returned (.bool (dB op))/\w'=w:=by
 go_enter func64,ntmps64;go_wp2_with (go_at_call 65;refine(nl _ _).mono ?_;rintro e w' ⟨rfl,rfl⟩)
 all_goals go_ret
 all_goals refine⟨lh ?_,rfl⟩
 all_goals first|(simp[dB, *];done)|(rw[Lg];simp[dB, *];done)|(rw[Lg];simp[dB, *];omega)|(simp[dB, *];omega)|(simp_all[dB];done)|(simp_all[dB];omega)
theorem Cu(p:ao)(w:World):Calls prog 60 #[am p] w fun e w'=>e=.returned (.bool (ce p))/\Below w.heap.size w w':=by
 by_cases h15:p.op=15
 ·have H15:=qD h15;go_enter PU,Ov
  go_wp2
  all_goals go_ret
  all_goals refine⟨lh ?_,(LH _ _).alloc (qL) _⟩
  all_goals first|(simp[ce,H15.out];done)|(rw[Lg];simp[ce,H15.out];done)|(rw[Lg];simp[ce,H15.out];omega)|(simp_all[ce,H15.out];done)|(simp_all[ce,H15.out];omega)
 have H15:=qD h15;have b15:(p.op==15)=false:=by simpa using h15
 clear h15;by_cases h23:p.op=23
 ·have H23:=qD h23;go_enter PU,Ov
  go_wp2
  all_goals go_ret
  all_goals refine⟨lh ?_,(LH _ _).alloc (qL) _⟩
  all_goals first|(simp[ce,H15.out,H23.out];done)|(rw[Lg];simp[ce,H15.out,H23.out];done)|(rw[Lg];simp[ce,H15.out,H23.out];omega)|(simp_all[ce,H15.out,H23.out];done)|(simp_all[ce,H15.out,H23.out];omega)
 have H23:=qD h23;have b23:(p.op==23)=false:=by simpa using h23
 clear h23;by_cases h20:p.op=20
 ·have H20:=qD h20;go_enter PU,Ov
  go_wp2
  all_goals go_ret
  all_goals refine⟨lh ?_,(LH _ _).alloc (qL) _⟩
  all_goals first|(simp[ce,H15.out,H23.out,H20.out];done)|(rw[Lg];simp[ce,H15.out,H23.out,H20.out];done)|(rw[Lg];simp[ce,H15.out,H23.out,H20.out];omega)|(simp_all[ce,H15.out,H23.out,H20.out];done)|(simp_all[ce,H15.out,H23.out,H20.out];omega)
 have H20:=qD h20;have b20:(p.op==20)=false:=by simpa using h20
 clear h20;by_cases h21:p.op=21
 ·have H21:=qD h21;go_enter PU,Ov
  go_wp2
  all_goals go_ret
  all_goals refine⟨lh ?_,(LH _ _).alloc (qL) _⟩
  all_goals first|(simp[ce,H15.out,H23.out,H20.out,H21.out];done)|(rw[Lg];simp[ce,H15.out,H23.out,H20.out,H21.out];done)|(rw[Lg];simp[ce,H15.out,H23.out,H20.out,H21.out];omega)|(simp_all[ce,H15.out,H23.out,H20.out,H21.out];done)|(simp_all[ce,H15.out,H23.out,H20.out,H21.out];omega)
 have H21:=qD h21;have b21:(p.op==21)=false:=by simpa using h21
 clear h21;by_cases h22:p.op=22
 ·have H22:=qD h22;go_enter PU,Ov
  go_wp2
  all_goals go_ret
  all_goals refine⟨lh ?_,(LH _ _).alloc (qL) _⟩
  all_goals first|(simp[ce,H15.out,H23.out,H20.out,H21.out,H22.out];done)|(rw[Lg];simp[ce,H15.out,H23.out,H20.out,H21.out,H22.out];done)|(rw[Lg];simp[ce,H15.out,H23.out,H20.out,H21.out,H22.out];omega)|(simp_all[ce,H15.out,H23.out,H20.out,H21.out,H22.out];done)|(simp_all[ce,H15.out,H23.out,H20.out,H21.out,H22.out];omega)
 have H22:=qD h22;have b22:(p.op==22)=false:=by simpa using h22
 clear h22;go_enter PU,Ov
 go_wp2
 all_goals go_ret
 all_goals refine⟨lh ?_,(LH _ _).alloc (qL) _⟩
 all_goals first|(simp[ce,H15.out,H23.out,H20.out,H21.out,H22.out];done)|(rw[Lg];simp[ce,H15.out,H23.out,H20.out,H21.out,H22.out];done)|(rw[Lg];simp[ce,H15.out,H23.out,H20.out,H21.out,H22.out];omega)|(simp_all[ce,H15.out,H23.out,H20.out,H21.out,H22.out];done)|(simp_all[ce,H15.out,H23.out,H20.out,H21.out,H22.out];omega)
theorem ug(p:ao)(w:World):Calls prog 62 #[am p] w fun e w'=>e=.returned (.bool (au p))/\Below w.heap.size w w':=by
 by_cases h10:p.op=10
 ·have H10:=qD h10;go_enter Pp,Pd
  go_wp2
  all_goals go_ret
  all_goals refine⟨lh ?_,(LH _ _).alloc (qL) _⟩
  all_goals first|(simp[au,H10.out];done)|(rw[Lg];simp[au,H10.out];done)|(rw[Lg];simp[au,H10.out];omega)|(simp_all[au,H10.out];done)|(simp_all[au,H10.out];omega)
 have H10:=qD h10;have b10:(p.op==10)=false:=by simpa using h10
 clear h10;by_cases h11:p.op=11
 ·have H11:=qD h11;go_enter Pp,Pd
  go_wp2
  all_goals go_ret
  all_goals refine⟨lh ?_,(LH _ _).alloc (qL) _⟩
  all_goals first|(simp[au,H10.out,H11.out];done)|(rw[Lg];simp[au,H10.out,H11.out];done)|(rw[Lg];simp[au,H10.out,H11.out];omega)|(simp_all[au,H10.out,H11.out];done)|(simp_all[au,H10.out,H11.out];omega)
 have H11:=qD h11;have b11:(p.op==11)=false:=by simpa using h11
 clear h11;by_cases h12:p.op=12
 ·have H12:=qD h12;go_enter Pp,Pd
  go_wp2
  all_goals go_ret
  all_goals refine⟨lh ?_,(LH _ _).alloc (qL) _⟩
  all_goals first|(simp[au,H10.out,H11.out,H12.out];done)|(rw[Lg];simp[au,H10.out,H11.out,H12.out];done)|(rw[Lg];simp[au,H10.out,H11.out,H12.out];omega)|(simp_all[au,H10.out,H11.out,H12.out];done)|(simp_all[au,H10.out,H11.out,H12.out];omega)
 have H12:=qD h12;have b12:(p.op==12)=false:=by simpa using h12
 clear h12;by_cases h13:p.op=13
 ·have H13:=qD h13;go_enter Pp,Pd
  go_wp2
  all_goals go_ret
  all_goals refine⟨lh ?_,(LH _ _).alloc (qL) _⟩
  all_goals first|(simp[au,H10.out,H11.out,H12.out,H13.out];done)|(rw[Lg];simp[au,H10.out,H11.out,H12.out,H13.out];done)|(rw[Lg];simp[au,H10.out,H11.out,H12.out,H13.out];omega)|(simp_all[au,H10.out,H11.out,H12.out,H13.out];done)|(simp_all[au,H10.out,H11.out,H12.out,H13.out];omega)
 have H13:=qD h13;have b13:(p.op==13)=false:=by simpa using h13
 clear h13;go_enter Pp,Pd
 go_wp2
 all_goals go_ret
 all_goals refine⟨lh ?_,(LH _ _).alloc (qL) _⟩
 all_goals first|(simp[au,H10.out,H11.out,H12.out,H13.out];done)|(rw[Lg];simp[au,H10.out,H11.out,H12.out,H13.out];done)|(rw[Lg];simp[au,H10.out,H11.out,H12.out,H13.out];omega)|(simp_all[au,H10.out,H11.out,H12.out,H13.out];done)|(simp_all[au,H10.out,H11.out,H12.out,H13.out];omega)
def Ao(w:World)(e:Ending)(w':World):Prop:=∃b:Bool,e=.returned (.bool b)/\Below w.heap.size w w'
theorem lQ(c:VC)(w:World):Calls prog 131 #[c.val] w (Ao w):=by
 go_enter func131,ntmps131
 go_wp2
 all_goals go_ret
 all_goals exact⟨_,rfl,(LH _ _).alloc (qL) _⟩
theorem uh(k r:Int)(s:uc (Int×Int))(w:World):Calls prog 132 #[.agg #[.int .i64 k,s.v,.int .i64 r]] w (Ao w):=by
 go_enter func132,ntmps132
 go_wp2
 all_goals go_ret
 all_goals exact⟨_,rfl,(LH _ _).alloc (qL) _⟩
theorem nH{w:World}{g:Nat}{x:fu}(h:aE w g 35 (dk x)):w.rangeAt g 4 x.arg.1.list:=
 aj h _ _ fun j v hj=>by
  have hl:j<5:=(LJ.1 hj).1
  match j,hl,hj with
  | 0,_,hj=>exact hj
  | 1,_,hj=>exact hj
  | 2,_,hj=>exact hj
  | 3,_,hj=>exact hj
  | 4,_,hj=>exact hj
theorem xp(x:fu)(w:World):Calls prog 133 #[zm x] w (Ao w):=by
 have B0:Hid (aE (w.alloc (.cells (dk x) 35)) w.heap.size 35 (dk x)):=aE.Jq rfl;have BE:=qD ((LH w.heap.size w).alloc (qL) (Obj.cells (dk x) 35));have R4:=qD (nH B0.out);go_enter func133,ntmps133;go_wp2_with (first|(refine aG rfl 29 _ rfl w.heap.size 4 rfl _ _ R4.out Mt rfl (by kernel_rfl) ?_)|(go_at_call 131;refine(lQ x.arg.1 _).mono ?_;rintro e w1 ⟨b,rfl,hb⟩;have d9:=(B0.out.step hb).cell 9;have d10:=(B0.out.step hb).cell 10;simp at d9 d10;have BF:=qD (BE.out.Jp hb);clear hb;cases b))
 all_goals go_ret
 all_goals first|exact⟨_,rfl,BF.out⟩|exact⟨_,rfl,BE.out⟩
theorem aX{w:World}{g:Nat}{p:ao}(h:aE w g 38 (aH p)):w.rangeAt g 2 p.arg.1.list:=
 aj h _ _ fun j v hj=>by
  have hl:j<5:=(LJ.1 hj).1
  match j,hl,hj with
  | 0,_,hj=>exact hj
  | 1,_,hj=>exact hj
  | 2,_,hj=>exact hj
  | 3,_,hj=>exact hj
  | 4,_,hj=>exact hj
theorem ma{w:World}{g:Nat}{p:ao}(h:aE w g 38 (aH p)):w.rangeAt g 10 [.int .i64 p.sk,p.pts.v,.int .i64 p.sr]:=
 aj h _ _ fun j v hj=>by
  have hl:j<3:=(LJ.1 hj).1
  match j,hl,hj with
  | 0,_,hj=>exact hj
  | 1,_,hj=>exact hj
  | 2,_,hj=>exact hj
theorem nI{w:World}{g:Nat}{p:ao}(h:aE w g 38 (aH p)):w.rangeAt g 13 (mY p.ex):=
 aj h _ _ fun j v hj=>by
  have hl:j<11:=(LJ.1 hj).1
  match j,hl,hj with
  | 0,_,hj=>exact hj
  | 1,_,hj=>exact hj
  | 2,_,hj=>exact hj
  | 3,_,hj=>exact hj
  | 4,_,hj=>exact hj
  | 5,_,hj=>exact hj
  | 6,_,hj=>exact hj
  | 7,_,hj=>exact hj
  | 8,_,hj=>exact hj
  | 9,_,hj=>exact hj
  | 10,_,hj=>exact hj
end Go.Proofs.YthfahkaadbdicaaGreatDoor
