/- A part of the proof. -/
import Derived.Test.YtgfoliedmhgpnaaGreatDoorCn17
import Derived.Test.YtgfoliedmhgpnaaGreatDoorCn19
import Derived.Deep.MidRow
set_option maxRecDepth 100000
set_option linter.unusedSimpArgs false
set_option maxHeartbeats 16000000
open Go.Proofs.Tryz
open ByteArray (empty)
namespace Go.RowKit
section
variable {size:Nat} {w w':World} {a:Int} {v:Value}
theorem Below.kc(hb:Bl w w'){a:Addr}(h:w.cell? a=some v):w'.cell? a=some v:=(hb.cell (Oj w a h)).trans h
end
end Go.RowKit
namespace Go.Proofs.YtgfoliedmhgpnaaGreatDoor
open Go.RowKit
section
variable {B size:Nat} {w w':World}
def Fr(B:Nat)(w:World)(p:PI):Prop:=RV (fun b=>B<=b) w p.1.1.1 p.1.1.2/\RV (fun b=>B<=b) w p.1.2.1 p.1.2.2
theorem Fr.step{p:PI}(h:Fr B w p)(hb:Bl w w'):Fr B w' p:=⟨h.1.step hb,h.2.step hb⟩
theorem Fr.low{B':Nat}{p:PI}(h:Fr B w p)(hb:B'<=B):Fr B' w p:=⟨h.1.mono fun _ k=>OU hb k,h.2.mono fun _ k=>OU hb k⟩
def Me(l:List Iv)(w:World)(e:Ending)(w':World):Prop:=
 ∃(A:Option Addr) (m c:Nat) (ys:List PI),e=.returned (.slice A m c)/\ys.map dg=l/\SI w' A m c ys/\Bl w w'/\∀y∈ys,Fr w.heap.size w' y
def MJ(B:Nat)(v:Value)(w:World)(p:PI):Prop:=RV (fun b=>B<=b/\v.ownBlock≠some b) w p.1.1.1 p.1.1.2/\RV (fun b=>B<=b/\v.ownBlock≠some b) w p.1.2.1 p.1.2.2
end
structure Jf(w:World)(xs:List PS)(i:Nat)(v:Value)(ys:List PI)(wr:World):Prop where
 own:wr.ownsRow w.heap.size 85 12 v i (aN jm ys)
 eq:ys.map dg=(xs.take i).map fun x=>fa (ai x)
 el:∀y∈ys,MJ w.heap.size v wr y
 bel:Bl w wr
section
variable {k n o i c q size S:Nat} {w w' wr w4:World} {e:TypeId} {a x:Int} {ys:List ByteArray} {v v':Value} {A:Option Addr} {xs:List Value}
theorem Jf.step{xs:List PS}{ys:List PI}(h:Jf w xs i v ys wr)(hb:Bl wr w'):Jf w xs i v ys w':=
 ⟨af h.own hb,h.eq,fun y hy=>⟨(h.el y hy).1.step hb,(h.el y hy).2.step hb⟩,h.bel.Ml hb⟩
theorem Jf.next{xs:List PS}{ys:List PI}{w5:World}{o:Obj}{p:PS}{q:PI}(h:Jf w xs i v ys w4)(hp:xs[i]?=some p)(hq:dg q=fa (ai p))(hel:MJ w.heap.size v w4 q)(hg:(w4.alloc o).grownBy w5 v.ownBlock)(hat:v'.ownBlock=v.ownBlock\/v'.ownBlock=some (w4.alloc o).heap.size)(ho:w5.ownsRow w.heap.size 85 12 v' (i+1) (aN jm ys++jm q)):Jf w xs (i+1) v' (ys++[q]) w5:=by
  refine⟨by rw[cS];exact ho,?_,fun y hy=>?_,(h.bel.alloc h.bel.size o).grown hg (by have:=h.bel.size;simp;omega) (ak h.own)⟩
  ·rw[take_snoc' hp,Oo,Oo,h.eq,Pv,Pv,hq]
  ·have hy':MJ w.heap.size v w4 y:=by
    rcases OP.1 hy with hy|hy
    ·exact h.el y hy
    ·simp at hy;subst hy;exact hel
   exact⟨jr hy'.1 hg hat,jr hy'.2 hg hat⟩
theorem ar{a:Nat}(h:a<=w.heap.size)(o:Obj):a<=(w.alloc o).heap.size:=by simp;omega
theorem Mf(p:PS)(ca cb:VC):dg (((ca,p.1.1.2),(cb,p.2.1.2)),(!p.1.2,p.2.2))=fa (ai p):=rfl
theorem lb(xs:List PS)(A:Option Addr)(n c:Nat)(w:World)(h:SS w A n c xs)(hn:n<=1000000000):
 Calls prog 134 #[.slice A n c] w (Me (xs.map fun x=>fa (ai x)) w):=by
 obtain⟨j0,hj0,hy0,hy1,hy2⟩:=Pb mn;have H:=qD h;have HL:=qD h.sr.ln;clear h;go_enter func134,ntmps134;go_wp2_with fail
 go_loopw [3,8] (fun v3 v8 wr=>∃(i:Nat) (ys:List PI),i<=n/\v8=.int .i64 i/\Jf w xs i v3 ys wr) (fun _ v8 _=>n-(intOf v8).toNat)
 ·exact⟨0,[],ON _,rfl,⟨bP _ _ _ _,rfl,by simp,OG _ _⟩⟩
 case round=>
  obtain⟨i,ys,hi,rfl,I⟩:=hrel;have J:=qD I;by_cases hlt:i<n
  ·obtain⟨p,hp⟩:∃p,xs[i]?=some p:=⟨_,OH (by have:=HL.out;omega)⟩;obtain⟨b,off,rfl,hbl,hat,hok⟩:=H.out.at hp;have HP:=qD hp;have HPk:=qD hok;have hbr:b<wr.heap.size:=by have:=I.bel.size;omega
   obtain⟨⟨⟨p0,p1,p2,p3,p4⟩,p5⟩,⟨⟨q0,q1,q2,q3,q4⟩,q5⟩⟩:=hat.keep (I.bel.block b hbl);clear hp hat hok I hbl;go_upto_region 5 with fail
   have hs3:u3.ownBlock≠some wr.heap.size:=fun e=>absurd (eO J.out.own e) oM;have KJ:=J.out.step ((OG wr.heap.size wr).alloc (qL) (Obj.cells (iy p) 167));have KB:aG (wr.alloc (.cells (iy p) 167)) wr.heap.size 167 (iy p):=aG.Mm rfl;change (Code.region 5 _ _).wp _ _ _ (wr.alloc (.cells (iy p) 167));generalize wr.alloc (.cells (iy p) 167)=wa at*;generalize wr.heap.size=ga at*;have JA:=qD KJ;have JB:=qD KB;clear p0 p1 p2 p3 p4 p5 q0 q1 q2 q3 q4 q5 J KJ KB hbr;obtain⟨⟨⟨p0,p1,p2,p3,p4⟩,p5⟩,⟨⟨q0,q1,q2,q3,q4⟩,q5⟩⟩:=yM.Mn JB.out;have B:=qD ((OG wa.heap.size wa).drewN 1);have RP:=qD (HPk.out.step JA.out.bel);have KS:Hid (∀w',Bl wa w'->w'.cell? ⟨ga,0,none⟩=some (.int .i64 p.1.1.1.k)/\w'.cell? ⟨ga,1,none⟩=some (.int .i64 p.1.1.1.n)/\w'.cell? ⟨ga,2,none⟩=some (.string p.1.1.1.t)/\w'.cell? ⟨ga,3,none⟩=some (.slice p.1.1.1.LA p.1.1.1.ln p.1.1.1.lc)/\w'.cell? ⟨ga,4,none⟩=some (.slice p.1.1.1.DA p.1.1.1.dn p.1.1.1.dc)/\w'.cell? ⟨ga,5,none⟩=some (.bool p.1.2)/\w'.cell? ⟨ga,6,none⟩=some (.int .i64 p.2.1.1.k)/\w'.cell? ⟨ga,7,none⟩=some (.int .i64 p.2.1.1.n)/\w'.cell? ⟨ga,8,none⟩=some (.string p.2.1.1.t)/\w'.cell? ⟨ga,9,none⟩=some (.slice p.2.1.1.LA p.2.1.1.ln p.2.1.1.lc)/\w'.cell? ⟨ga,10,none⟩=some (.slice p.2.1.1.DA p.2.1.1.dn p.2.1.1.dc)/\w'.cell? ⟨ga,11,none⟩=some (.bool p.2.2)):=qD fun w' hb=>⟨hb.kc p0,hb.kc p1,hb.kc p2,hb.kc p3,hb.kc p4,hb.kc p5,hb.kc q0,hb.kc q1,hb.kc q2,hb.kc q3,hb.kc q4,hb.kc q5⟩;have F1:Hid (i+1<=maxLen):=by unfold Hid maxLen;omega
   have F2:Hid ((i+1)*168<=140737488355328):=by unfold Hid;omega
   have KG:Hid (∀w' w'' o,Bl wa w'->(w'.alloc o).grownBy w'' u3.ownBlock->w''.cell? ⟨ga,0,none⟩=some (.int .i64 p.1.1.1.k)/\w''.cell? ⟨ga,1,none⟩=some (.int .i64 p.1.1.1.n)/\w''.cell? ⟨ga,2,none⟩=some (.string p.1.1.1.t)/\w''.cell? ⟨ga,3,none⟩=some (.slice p.1.1.1.LA p.1.1.1.ln p.1.1.1.lc)/\w''.cell? ⟨ga,4,none⟩=some (.slice p.1.1.1.DA p.1.1.1.dn p.1.1.1.dc)/\w''.cell? ⟨ga,5,none⟩=some (.bool p.1.2)/\w''.cell? ⟨ga,6,none⟩=some (.int .i64 p.2.1.1.k)/\w''.cell? ⟨ga,7,none⟩=some (.int .i64 p.2.1.1.n)/\w''.cell? ⟨ga,8,none⟩=some (.string p.2.1.1.t)/\w''.cell? ⟨ga,9,none⟩=some (.slice p.2.1.1.LA p.2.1.1.ln p.2.1.1.lc)/\w''.cell? ⟨ga,10,none⟩=some (.slice p.2.1.1.DA p.2.1.1.dn p.2.1.1.dc)/\w''.cell? ⟨ga,11,none⟩=some (.bool p.2.2)):=qD fun w' w'' o hb hg=>⟨cH hg (hb.kc p0) hs3,cH hg (hb.kc p1) hs3,cH hg (hb.kc p2) hs3,cH hg (hb.kc p3) hs3,cH hg (hb.kc p4) hs3,cH hg (hb.kc p5) hs3,cH hg (hb.kc q0) hs3,cH hg (hb.kc q1) hs3,cH hg (hb.kc q2) hs3,cH hg (hb.kc q3) hs3,cH hg (hb.kc q4) hs3,cH hg (hb.kc q5) hs3⟩;clear p0 p1 p2 p3 p4 p5 q0 q1 q2 q3 q4 q5;have tok1:True:=trivial
   go_region_held3 (fun w'=>w'.cell? ⟨ga,0,none⟩=some (.int .i64 p.1.1.1.k)/\w'.cell? ⟨ga,1,none⟩=some (.int .i64 p.1.1.1.n)/\w'.cell? ⟨ga,2,none⟩=some (.string p.1.1.1.t)/\w'.cell? ⟨ga,3,none⟩=some (.slice p.1.1.1.LA p.1.1.1.ln p.1.1.1.lc)/\w'.cell? ⟨ga,4,none⟩=some (.slice p.1.1.1.DA p.1.1.1.dn p.1.1.1.dc)/\w'.cell? ⟨ga,5,none⟩=some (.bool p.1.2)/\w'.cell? ⟨ga,6,none⟩=some (.int .i64 p.2.1.1.k)/\w'.cell? ⟨ga,7,none⟩=some (.int .i64 p.2.1.1.n)/\w'.cell? ⟨ga,8,none⟩=some (.string p.2.1.1.t)/\w'.cell? ⟨ga,9,none⟩=some (.slice p.2.1.1.LA p.2.1.1.ln p.2.1.1.lc)/\w'.cell? ⟨ga,10,none⟩=some (.slice p.2.1.1.DA p.2.1.1.dn p.2.1.1.dc)/\w'.cell? ⟨ga,11,none⟩=some (.bool p.2.2))
    (first|exact KS.out _ B.out|exact KS.out _ (B.out.alloc B.out.size _)|((try dsimp only);assumption)|go_keep)
    (first
      | (refine bG _ rfl (.tmp 12) (.tmp 29) 63 rfl w.heap.size 85 j0 (jY (((VC.zero,aC.zero),(VC.zero,aC.zero)),(false,false))) 12 168 underlying63 hj0 hy0 hy1 hy2 rfl dE u3 i (aN jm ys) (by simp[Act.eval]) ((af JA.out.own B.out).alloc _) (w4.heap.size+1) (some ⟨w4.heap.size,0,none⟩) 1 1 (jm (((ca,p.1.1.2),(cb,p.2.1.2)),(!p.1.2,p.2.2))) (by simp[Act.eval]) ⟨rfl,fun _=>⟨_,rfl,On _,ag _ _ _⟩⟩ (vp _) F1.out F2.out (ar (JA.out.step B.out).bel.size _) ?_;intro v' w5 hown hgr hat;have hs:=KG.out _ _ _ B.out hgr)
      | (go_at_call 187;have _t:=tok1;refine(wN p.1.1.2 p.1.1.1 _ (RP.out.1.step B.out)).mono ?_;rintro e3 w3 ⟨ca,rfl,hra,hb⟩;replace B:=qD (B.out.Ml hb);have RA:=qD hra;have B3:=B;clear hb hra tok1 _t)
      | (go_at_call 187;refine(wN p.2.1.2 p.2.1.1 _ (RP.out.2.step B.out)).mono ?_;rintro e3 w4 ⟨cb,rfl,hrb,hb⟩;replace RA:=qD (RA.out.step hb);replace B:=qD (B.out.Ml hb);have RB:=qD hrb;clear hb hrb))
   all_goals
    have HI:=qD ((JA.out.step B.out).next HP.out (Mf p ca cb) ⟨RA.out.mono fun q hq=>⟨by have:=JA.out.bel.size;have hq':wa.heap.size<=q:=hq;omega,fun e=>by have:=eO JA.out.own e;have hq':wa.heap.size<=q:=hq;omega⟩,RB.out.mono fun q hq=>⟨by have:=JA.out.bel.size;have:=B3.out.size;omega,fun e=>by have:=eO (af JA.out.own B3.out) e;omega⟩⟩ hgr hat hown);clear hown hgr hat KS KG hs hs3 JA JB RP RA RB B B3;go_wp2_with fail;go_roundw
    ·exact⟨i+1,_,by omega,by go_num,HI.out⟩
    ·exact iO
  ·clear I;go_wp2;go_ret;have hyl:ys.length=i:=by have:=congrArg List.length J.out.eq;have:=HL.out;simp only[Oe,Ow] at*;omega
   obtain⟨A',c',e,hs⟩:=SI.Mq J.out.own hyl (by unfold aF;omega) (fun y hy=>⟨(J.out.el y hy).1.mono fun _ _=>trivial,(J.out.el y hy).2.mono fun _ _=>trivial⟩);exact⟨A',_,c',ys,by rw[<-e];rfl,by rw[J.out.eq,OS (by have:=HL.out;omega)],hs,J.out.bel,fun y hy=>⟨(J.out.el y hy).1.mono fun _ h=>h.1,(J.out.el y hy).2.mono fun _ h=>h.1⟩⟩
def uj(S:cx->Prop)(k:Nat)(w:World)(e:Ending)(w':World):Prop:=
 ∃(A:Option Addr) (m c:Nat) (ys:List PI) (n:List (cx×cx)),e=.returned (.slice A m c)/\ys.map dg=n.map fa/\jw S n/\m<=k/\SI w' A m c ys/\Bl w w'
def wZ(S:cx->Prop)(k:Nat)(w:World)(e:Ending)(w':World):Prop:=
 ∃(A:Option Addr) (m c:Nat) (ys:List PI) (n:List (cx×cx)),e=.returned (.slice A m c)/\ys.map dg=n.map fa/\jw S n/\m<=k/\SI w' A m c ys/\Bl w w'/\∀y∈ys,Fr w.heap.size w' y
theorem wZ.ok{S:cx->Prop}{e:Ending}(h:wZ S k w e w'):uj S k w e w':=by
 obtain⟨A,m,c,ys,n,h1,h2,h3,h4,h5,h6,_⟩:=h;exact⟨A,m,c,ys,n,h1,h2,h3,h4,h5,h6⟩
theorem IE{is:List PI}{xs:List PS}(h:xs.map ai=aV (is.map dg)):∀x∈xs,aq (ai x).1 (ai x).2<0/\jb (ai x).1/\jb (ai x).2:=by
 intro x hx;have:ai x∈aV (is.map dg):=by rw[<-h];exact PD hx
 exact mX _ this
theorem eB(is:List PI)(A:Option Addr)(n c:Nat)(w:World)(hT:cZ w)(h:SI w A n c is)(hn:n<=1000000000):
 Calls prog 70 #[.slice A n c] w (wZ (fun a=>ei aq a (aV (is.map dg))) n w):=by
 have HT:=qD hT;have H:=qD h;have HL:=qD h.sr.ln;clear hT h;go_enter func70,ntmps70;go_wp2_with fail;refine(Ck is A n c _ HT.out H.out hn).mono ?_;rintro e w1 ⟨A1,m1,c1,xs,rfl,hxs,_,hm1,hss,hb1⟩;have HX:=qD hxs;have HS1:=qD hss;have HX1:=qD hss.sr.ln;have HB1:=qD hb1;have HM1:Hid (m1<=n):=by have:=HL.out;unfold Hid;omega
 have hm1n:m1<=1000000000:=by have:=HM1.out;omega
 clear hxs hss hb1 hm1;go_wp2_with fail;refine(qu xs A1 m1 c1 _ HS1.out hm1n).mono ?_;rintro e w2 ⟨A2,m2,c2,ys,rfl,⟨S,hS,hys⟩,_,_,hss2,hm2,hb2⟩;have HY:=qD (hS.merge (IE HX.out));rw[<-hys] at HY;have HS2:=qD hss2;have HB2:=qD (HB1.out.Ml hb2);have HM2:Hid (m2<=n):=by have:=HM1.out;have:=HX1.out;unfold Hid;omega
 have hm2n:m2<=1000000000:=by have:=HM2.out;omega
 have HY2:=qD hss2.sr.ln;clear hS hys hss2 hm2 hb2;go_wp2_with fail;refine(lb ys A2 m2 c2 _ HS2.out hm2n).mono ?_;rintro e w3 ⟨A3,m3,c3,zs,rfl,hzs,hsi,hb3,hfr⟩;have HFR:=qD hfr;have HZ:=qD hzs;have HS3:=qD hsi;have HB3:=qD (HB2.out.Ml hb3);have HZ3:=qD hsi.sr.ln;clear hzs hsi hb3 hfr;go_wp2;go_ret;refine⟨A3,m3,c3,zs,ys.map ai,rfl,by rw[HZ.out,Rc];rfl,?_,?_,HS3.out,HB3.out,fun y hy=>⟨(HFR.out y hy).1.mono fun _ h=>OU HB2.out.size h,(HFR.out y hy).2.mono fun _ h=>OU HB2.out.size h⟩⟩
 ·have:=HY.out.1;rw[HX.out] at this;exact this
 ·have h1:=congrArg List.length HZ.out;simp only[Oe] at h1;have:=HZ3.out;have:=HY2.out;have:=HM2.out;omega
def LJ(p:PV):PS:=((p,false),(p,true))
end
structure Hc(w:World)(ps:List PV)(i:Nat)(v:Value)(xs:List PS)(wr:World):Prop where
 own:wr.ownsRow w.heap.size 167 12 v xs.length (aN dR xs)
 eq:xs.map ai=aV ((ps.take i).map fun p=>eZ p.2)
 le:xs.length<=i
 ok:∀x∈xs,vr w x
 bel:Bl w wr
section
variable {k b n g o m i c base cap off size j:Nat} {w w' W wr:World} {e t:TypeId} {P:Program} {a x:Int} {l r:List ByteArray} {v v':Value} {s:ByteArray} {A A':Option Addr} {ha:Bool} {F:Nat -> Prop} {xs:List Value}
theorem Hc.step{ps:List PV}{xs:List PS}(h:Hc w ps i v xs wr)(hb:Bl wr w'):Hc w ps i v xs w':=⟨af h.own hb,h.eq,h.le,h.ok,h.bel.Ml hb⟩
theorem Hc.skip{ps:List PV}{xs:List PS}{p:PV}(h:Hc w ps i v xs wr)(hp:ps[i]?=some p)(hn:aJ p.2=false):Hc w ps (i+1) v xs wr:=by
 refine⟨h.own,?_,by have:=h.le;omega,h.ok,h.bel⟩;rw[take_snoc' hp,Oo,Pv,jM,Ez,hn];exact h.eq
theorem Hc.next{ps:List PV}{xs:List PS}{p:PV}(h:Hc w ps i v xs wr)(hp:ps[i]?=some p)(hn:aJ p.2=true)(hok:RW w p.1 p.2)(hg:wr.grownBy w' v.ownBlock)(hm:m=xs.length+1)(ho:w'.ownsRow w.heap.size 167 12 v' m (aN dR xs++dR (LJ p))):Hc w ps (i+1) v' (xs++[LJ p]) w':=by
  subst hm;refine⟨?_,?_,by have:=h.le;simp;omega,fun x hx=>?_,h.bel.grown hg h.bel.size (ak h.own)⟩
  ·rw[cS,OK];exact ho
  ·have e:aV ((ps.take (i+1)).map fun p=>eZ p.2)=aV ((ps.take i).map fun p=>eZ p.2)++[(eZ p.2).sp]:=by
    rw[take_snoc' hp,Oo,Pv,jM,Ez,hn];rfl
   rw[e,Oo,h.eq];rfl
  ·rcases OP.1 hx with hx|hx
   ·exact h.ok x hx
   ·simp at hx;subst hx;exact⟨hok,hok⟩
theorem ld(ps:List PV)(A:Option Addr)(n c:Nat)(w:World)(hT:cZ w)(h:SL (fun _=>True) w A n c ps)(hn:n<=1000000000):
 Calls prog 68 #[.slice A n c] w (wZ (fun a=>ei aq a (aV (ps.map fun p=>eZ p.2))) n w):=by
 obtain⟨j0,hj0,hy0,hy1,hy2⟩:=Pb mT;have HT:=qD hT;have H:=qD h;have HL:=qD h.sr.ln;clear hT h;go_enter func68,ntmps68;go_wp2_with fail
 go_loopw [3,8] (fun v3 v8 wr=>∃(i:Nat) (xs:List PS),i<=n/\v8=.int .i64 i/\Hc w ps i v3 xs wr) (fun _ v8 _=>n-(intOf v8).toNat)
 ·exact⟨0,[],ON _,rfl,⟨bP _ _ _ _,rfl,qL,by simp,OG _ _⟩⟩
 case round=>
  obtain⟨i,xs,hi,rfl,I⟩:=hrel;have J:=qD I;by_cases hlt:i<n
  ·obtain⟨p,hp⟩:∃p,ps[i]?=some p:=⟨_,OH (by have:=HL.out;omega)⟩;obtain⟨b,off,rfl,_,hu,hr⟩:=H.out.Mw hp;have HP:=qD hp;have HR:=qD hr;have hbr:b<wr.heap.size:=by have:=hu.lt;have:=I.bel.size;omega
   have hle:=I.le;obtain⟨y0,y1,y2,y3,y4⟩:=hu.keep (I.bel.block b hu.lt);clear hp hu hr I;go_upto_region 5 with fail
   have KJ:=J.out.step ((OG wr.heap.size wr).alloc (qL) (Obj.cells p.1.arr 29));have KB:aG (wr.alloc (.cells p.1.arr 29)) wr.heap.size 29 p.1.arr:=aG.Mm rfl;change (Code.region 5 _ _).wp _ _ _ (wr.alloc (.cells p.1.arr 29));generalize wr.alloc (.cells p.1.arr 29)=wa at*;generalize wr.heap.size=ga at*;have JA:=qD KJ;have JB:=qD KB;clear y0 y1 y2 y3 y4 J KJ KB hbr;obtain⟨a0,a1,a2,a3,a4⟩:=aO.Mn JB.out;go_wp2_with fail;refine(iX p.2 p.1 _ (HT.out.step JA.out.bel) (HR.out.step JA.out.bel)).mono ?_;rintro e w3 ⟨rfl,hb3⟩;have J3:=qD (JA.out.step hb3);have K3:=qD (JB.out.step hb3);clear hb3 a0 a1 a2 a3 a4 JA JB;cases hv:aJ p.2
   ·have HI:=qD (J3.out.skip HP.out hv);clear hv;go_wp2_with fail;go_roundw
    ·exact⟨i+1,xs,by omega,by go_num,HI.out⟩
    ·exact iO
   ·have HVp:=qD hv;clear hv;obtain⟨a0,a1,a2,a3,a4⟩:=aO.Mn K3.out;have hlo:w.heap.size<=w3.heap.size:=J3.out.bel.size;have LK:=qD (J3.out.step ((OG w3.heap.size w3).alloc (qL) (Obj.cells (iy (LJ p)) 167)));go_wp2_with (at_builtin;refine aE _ rfl _ _ 163 rfl w.heap.size 167 j0 (vq (((VC.zero,aC.zero),false),((VC.zero,aC.zero),false))) 12 176 Qf hj0 hy0 hy1 hy2 rfl dE u3 xs.length (aN dR xs) rfl LK.out.own _ _ 1 _ (dR (LJ p)) rfl ⟨rfl,fun _=>⟨_,rfl,On _,ag _ _ _⟩⟩ (lR _) (by unfold maxLen;omega) oM (ar hlo _) ?_);intro v' w4 hown hg _;have HI:=qD (LK.out.next HP.out HVp.out HR.out hg rfl hown);clear hown hg a0 a1 a2 a3 a4;go_wp2_with fail;go_roundw
    ·exact⟨i+1,xs++[LJ p],by omega,by go_num,HI.out⟩
    ·exact iO
  ·obtain⟨A1,c1,rfl,hs⟩:=SS.Mq J.out.own rfl (by have:=J.out.le;unfold aF;omega) (fun x hx=>(J.out.ok x hx).step J.out.bel);have hle:=I.le;have HX:Hid (xs.map ai=aV (ps.map fun p=>eZ p.2)):=by rw[Hid,J.out.eq,OS (by have:=HL.out;omega)]
   have hne:∀x∈xs,aq (ai x).1 (ai x).2<0/\jb (ai x).1/\jb (ai x).2:=fun x hx=>mX _ (by rw[<-HX.out];exact PD hx);have HNe:=qD hne;have HS1:=qD hs;have HB1:=qD J.out.bel;obtain⟨m1,hm1⟩:∃m,m=xs.length:=⟨_,rfl⟩;rw[<-hm1] at HS1 hle ⊢;have HM1:=qD hm1;clear I J hs hne hm1;go_wp2_with fail;refine(qu xs A1 m1 c1 _ HS1.out oM).mono ?_;rintro e w2 ⟨A2,m2,c2,ys,rfl,⟨S,hS,hys⟩,_,_,hss2,hm2,hb2⟩;have HY:=qD (hS.merge HNe.out);rw[<-hys] at HY;have HS2:=qD hss2;have HB2:=qD (HB1.out.Ml hb2);have HY2:=qD hss2.sr.ln;have HM2:Hid (m2<=n):=by have:=HM1.out;unfold Hid;omega
   have hm2n:m2<=1000000000:=by have:=HM2.out;omega
   clear hS hys hss2 hm2 hb2;go_wp2_with fail;refine(lb ys A2 m2 c2 _ HS2.out hm2n).mono ?_;rintro e w3 ⟨A3,m3,c3,zs,rfl,hzs,hsi,hb3,hfr⟩;have HFR:=qD hfr;have HZ:=qD hzs;have HS3:=qD hsi;have HB3:=qD (HB2.out.Ml hb3);have HZ3:=qD hsi.sr.ln;clear hzs hsi hb3 hfr;go_wp2;go_ret;refine⟨A3,m3,c3,zs,ys.map ai,rfl,by rw[HZ.out,Rc];rfl,?_,?_,HS3.out,HB3.out,fun y hy=>⟨(HFR.out y hy).1.mono fun _ h=>OU HB2.out.size h,(HFR.out y hy).2.mono fun _ h=>OU HB2.out.size h⟩⟩
   ·have:=HY.out.1;rw[HX.out] at this;exact this
   ·have h1:=congrArg List.length HZ.out;simp only[Oe] at h1;have:=HZ3.out;have:=HY2.out;have:=HM2.out;omega
theorem zU(ps:List PV)(A:Option Addr)(n c:Nat)(w:World)(hT:cZ w)(h:SL (fun _=>True) w A n c ps)(hn:n<=1000000000):
 Calls prog 68 #[.slice A n c] w (uj (fun a=>ei aq a (aV (ps.map fun p=>eZ p.2))) n w):=(ld ps A n c w hT h hn).mono fun _ _ h=>h.ok
def Jg:VC:=⟨1,0,empty,none,0,0,none,0,0⟩
def Jh:VC:=⟨11,0,empty,none,0,0,none,0,0⟩
theorem Ji:RV F w Jg im:=pw.shut ⟨rfl,rfl,rfl,by decide,rfl,qL,by decide,fun h=>absurd h dE,rfl,qL,by decide,fun h=>absurd h dE⟩
theorem Jj:RV F w Jh iP:=pw.shut ⟨rfl,rfl,rfl,by decide,rfl,qL,by decide,fun h=>absurd h dE,rfl,qL,by decide,fun h=>absurd h dE⟩
theorem Jk(w:World):RW w Jg im:=pw.shut ⟨rfl,rfl,rfl,by decide,rfl,qL,by decide,fun h=>absurd h dE,rfl,qL,by decide,fun h=>absurd h dE⟩
theorem Jl(w:World):RW w Jh iP:=pw.shut ⟨rfl,rfl,rfl,by decide,rfl,qL,by decide,fun h=>absurd h dE,rfl,qL,by decide,fun h=>absurd h dE⟩
def LL:PI:=(((Jg,im),(Jh,iP)),(true,true))
theorem lh{p:PI}(h:aG w g 85 (ae p))(hok:qd w p):SI w (some ⟨g,0,none⟩) 1 1 [p]:=by
 refine⟨⟨rfl,qL,fun _=>⟨g,0,rfl,h.lt,fun i a hi j v hj=>?_⟩⟩,by decide,fun x hx=>by simp at hx;subst hx;exact hok⟩;cases i with
 | zero=>
  simp at hi;subst hi;rw[show 0+0*12+j=j by omega,h.cell,<-PN];exact hj
 | succ i=>simp at hi
theorem fm(w:World):Calls prog 67 #[] w (wZ (fun a=>ei aq a (aV [lW])) 1 w):=by
 go_enter func67,ntmps67;go_wp2;go_ret
 exact⟨_,1,1,[LL],_,rfl,rfl,rA,qL,lh (aG.Mm rfl) ⟨Jk _,Jl _⟩,(OG _ _).alloc (qL) _,fun y hy=>by
  obtain rfl:y=LL:=by simpa using hy
  exact⟨Ji,Jj⟩⟩
theorem IF(w:World):Calls prog 67 #[] w (uj (fun a=>ei aq a (aV [lW])) 1 w):=(fm w).mono fun _ _ h=>h.ok
section
variable {ec:PC} {w w2:World} {n:List (cx×cx)} {i:Nat} {v:Value} {cs:List PS} {fc:PC} {wr w':World}
end
abbrev BB:=ByteArray×ByteArray
def rP(p:BB):List Value:=[.string p.1,.string p.2]
theorem we(p:BB):∀u∈rP p,u.oneCell'=true:=by simp[rP,Value.oneCell']
theorem jy:(Tryz.prog.info? 49).map (fun i=>(i.zero,i.size,i.bytes))=some (some (.agg #[.string empty,.string empty]),2,32):=kR
theorem Ba{p:BB}(h:w.ownsRow base 49 2 v 1 (rP p)):∃A c,v=.slice A 1 c/\SR 2 rP w A 1 c [p]:=by
 obtain⟨A,c,hv,hle⟩:=aY h;subst hv;refine⟨A,c,rfl,rfl,hle,fun hn=>?_⟩;obtain⟨g,cap,hv,_,hlt⟩:=h.form hn;have hA:A=some ⟨g,0,none⟩:=by injection hv
 subst hA;refine⟨g,0,rfl,hlt,fun k a hk j u hj=>?_⟩;cases k with
 | zero=>
  simp at hk;subst hk;have:=h.cells (g:=g) rfl j u hj;rw[cW] at this;simpa using this
 | succ k=>simp at hk
theorem SR.Nn{l:List BB}(h:SR 2 rP w A n c l)(hi:i<n):∃b off x,A=some ⟨b,off,none⟩/\b<w.heap.size/\l[i]?=some x/\
 w.cell? ⟨b,off+i*2,none⟩=some (.string x.1)/\w.cell? ⟨b,off+i*2+1,none⟩=some (.string x.2):=by
 obtain⟨b,off,e,hb,hc⟩:=h.el oM;have hl:i<l.length:=by have:=h.ln;omega
 have h1:=OH hl;exact⟨b,off,l[i],e,hb,h1,hc i _ h1 0 _ rfl,hc i _ h1 1 _ rfl⟩
def Lt(w:World)(p:BB)(i:Nat)(v:Value)(wr:World):Prop:=
 Bl w wr/\((i=0/\v=.slice none 0 0)\/(i=1/\wr.ownsRow w.heap.size 49 2 v 1 (rP p)))
theorem wg(p:BB)(A:Option Addr)(c:Nat)(w:World)(h:SR 2 rP w A 1 c [p]):
 Calls prog 41 #[.slice A 1 c] w fun e w'=>∃A' c',e=.returned (.slice A' 1 c')/\SR 2 rP w' A' 1 c' [p]/\Bl w w':=by
 obtain⟨j0,hj0,hy0,hy1,hy2⟩:=Pb jy;obtain⟨b,off,x,hA,hb,hx,e0,e1⟩:=h.Nn (i:=0) oM;obtain rfl:p=x:=by simpa using hx
 subst hA;rw[Rp,QW] at e0 e1;clear hx h;go_enter func41,ntmps41;go_wp2_with fail;refine(uZ _ _ _ _).mono ?_;rintro e w1 ⟨rfl,hw1⟩;subst hw1;go_wp2_with fail;refine(ua _ _ _).mono ?_;rintro e w2 ⟨rfl,hw2⟩;subst hw2;go_upto_region 4 with fail
 go_loopw [3,5,6,12] (fun u3 _ _ u12 wr=>∃i:Nat,i<=1/\u12=.int .i64 i/\Lt w2 p i u3 wr) (fun _ _ _ u12 _=>1-(intOf u12).toNat)
 ·exact⟨0,by omega,rfl,OG _ _,.inl ⟨rfl,rfl⟩⟩
 case round=>
  obtain⟨i,hi,rfl,hbel,hj⟩:=hrel;have HB:=qD hbel;rcases hj with⟨rfl,rfl⟩|⟨rfl,hown⟩
  ·replace e0:=(hbel.cell (p:=⟨b,off,none⟩) hb).trans e0;replace e1:=(hbel.cell (p:=⟨b,off+1,none⟩) hb).trans e1;clear hbel;go_upto_region 7 with fail
   change (Code.region 7 _ _).wp _ _ _ (wr.alloc (.cells #[.string p.1,.string p.2] 49));have JB:Hid (aG (wr.alloc (.cells #[.string p.1,.string p.2] 49)) wr.heap.size 49 #[.string p.1,.string p.2]):=aG.Mm rfl;have HBA:=qD (HB.out.alloc HB.out.size (Obj.cells #[.string p.1,.string p.2] 49));generalize wr.alloc (.cells #[.string p.1,.string p.2] 49)=wa at*;generalize wr.heap.size=ga at*;clear e0 e1;refine aL kR kR ?_
   repeat(go_big_quiet_step (fail))
   refine Oc ?_;rintro _ ⟨kw,rfl⟩;have HB3:=qD (HBA.out.Ml kw.below);have JB3:=qD (JB.out.step kw.below);clear HBA JB;generalize kw.val=w3 at*;have k0:=JB3.out.cell 0;have k1:=JB3.out.cell 1;simp at k0 k1;have hlo:w2.heap.size<=w3.heap.size:=HB3.out.size;go_wp2_with (at_builtin;refine aE _ rfl _ _ 47 rfl w2.heap.size 49 j0 (.agg #[.string empty,.string empty]) 2 32 QZ hj0 hy0 hy1 hy2 rfl dE (.slice none 0 0) 0 [] rfl (bP _ _ _ _) _ _ 1 _ (rP p) rfl ⟨rfl,fun _=>⟨_,rfl,On _,ag _ _ _⟩⟩ (we _) (by unfold maxLen;omega) oM (ar hlo _) ?_);intro v' w6 hown hgr hat;have HI:Hid (Lt w2 p 1 v' w6):=⟨(HB3.out.alloc HB3.out.size _).grown hgr (ar hlo _) (fun g hg=>(by cases hg)),.inr ⟨rfl,hown⟩⟩;clear hown hgr hat k0 k1 JB3 HB3;go_wp2_with fail;go_roundw
   ·exact⟨1,by omega,rfl,HI.out⟩
   ·simp[intOf]
  ·obtain⟨A',c',rfl,hsr⟩:=Ba hown;have HS:=qD hsr;clear hown hsr hbel;go_wp2;go_ret;exact⟨A',c',rfl,HS.out,HB.out⟩
theorem fK{fn:Func}{p u:Tmp}(h:fn.results=#[.cell p 49,.tmp u])(tmps:Array Value)(g1 off:Nat)(h1:tmps.getD p undef=.pointer (some ⟨g1,off,none⟩))(e:Value)(h2:tmps.getD u undef=e)(W:World)(a b:ByteArray)(q0:W.cell? ⟨g1,off,none⟩=some (.string a))(q1:W.cell? ⟨g1,off+1,none⟩=some (.string b)):
  (results fn tmps).run prog W=.ok (.tuple #[.agg #[.string a,.string b],e]) W:=by
  rw[SY h,h1,h2];simp[asAddr,go_sem,q0,q1]
theorem DC(p:PI)(S1 S2 T L H:ByteArray)(w:World)(hT:cZ w)(hp:qd w p)(hf:p.2=(true,true))(h1:gY [p.1.1.2]=(S1,0))(h2:gY [p.1.2.2]=(S2,0))(hk:(p.1.1.1.k≠1/\p.1.2.1.k≠11/\L=S1/\H=T)\/(p.1.1.1.k=1/\p.1.2.1.k=11/\L=empty/\H=empty))(hA:∀w,Calls prog 109 #[.string S2] w (Rt w (.tuple #[.string T,.bool true]))):
  Calls prog 40 #[jY p,.bool false] w (Rt w (.tuple #[.agg #[.string L,.string H],.bool true])):=by
  obtain⟨⟨⟨c1,x1⟩,⟨c2,x2⟩⟩,⟨f1,f2⟩⟩:=p;simp only[Sd] at hf;obtain⟨rfl,rfl⟩:=hf;have R1:Hid (RW w c1 x1):=hp.1;have R2:Hid (RW w c2 x2):=hp.2;have HT:=qD hT;have HA:=qD hA;have HK1:Hid (gY [x1]=(S1,0)):=h1;have HK2:Hid (gY [x2]=(S2,0)):=h2;clear hp hT hA h1 h2
  have hcode1:Hid (∀wr,Bl w wr->Calls prog 91 #[c1.val] wr (Rt wr (.tuple #[.string S1,.int .i64 0]))):=qD fun wr hb=>by
   have:=jk x1 c1 wr (HT.out.step hb) (R1.out.step hb);rw[HK1.out] at this;exact this
  have hcode2:Hid (∀wr,Bl w wr->Calls prog 91 #[c2.val] wr (Rt wr (.tuple #[.string S2,.int .i64 0]))):=qD fun wr hb=>by
   have:=jk x2 c2 wr (HT.out.step hb) (R2.out.step hb);rw[HK2.out] at this;exact this
  go_enter func40,ntmps40;go_upto_region 1 with fail
  refine yS (ae (((c1,x1),(c2,x2)),(true,true))) 85 (#[.string empty,.string empty]) 49 ?_;intro wa B0 B1 BE;obtain⟨⟨a0,a1,a2,a3,a4⟩,⟨b0,b1,b2,b3,b4⟩,b5,b6⟩:=jE.Mn B0.out;simp only[OX] at a0 a1 a2 a3 a4 b0 b1 b2 b3 b4 b5 b6;go_wp2_with fail;refine(hcode1.out _ BE.out).mono ?_;rintro e w1 ⟨rfl,hb⟩;have C0:=qD (B0.out.step hb);have C1:=qD (B1.out.step hb);have CE:=qD (BE.out.Ml hb);clear hb B0 B1 BE a0 a1 a2 a3 a4 b0 b1 b2 b3 b4 b5 b6 hcode1;obtain⟨⟨a0,a1,a2,a3,a4⟩,⟨b0,b1,b2,b3,b4⟩,b5,b6⟩:=jE.Mn C0.out;simp only[OX] at a0 a1 a2 a3 a4 b0 b1 b2 b3 b4 b5 b6;go_wp2_with fail;refine(hcode2.out _ CE.out).mono ?_;rintro e w2 ⟨rfl,hb⟩;have D0:=qD (C0.out.step hb);have D1:=qD (C1.out.step hb);have DE:=qD (CE.out.Ml hb);clear hb C0 C1 CE a0 a1 a2 a3 a4 b0 b1 b2 b3 b4 b5 b6 hcode2;obtain⟨⟨a0,a1,a2,a3,a4⟩,⟨b0,b1,b2,b3,b4⟩,b5,b6⟩:=jE.Mn D0.out;simp only[OX] at a0 a1 a2 a3 a4 b0 b1 b2 b3 b4 b5 b6;rcases hk with⟨k1,k2,rfl,rfl⟩|⟨k1,k2,rfl,rfl⟩
  ·have k1b:(c1.k==1)=false:=by simpa using k1
   have k2b:(c2.k==11)=false:=by simpa using k2
   go_wp2_with fail;refine(HA.out _).mono ?_;rintro e w3 ⟨rfl,hb⟩;have E1:=qD (D1.out.step hb);have EE:=qD (DE.out.Ml hb);clear hb D0 D1 DE a0 a1 a2 a3 a4 b0 b1 b2 b3 b4 b5 b6;have r0:=E1.out.cell 0;have r1:=E1.out.cell 1;have rz:=E1.out.frozen;simp at r0 r1;go_wp2_with fail;refine OO (fK rfl _ _ _ rfl _ rfl _ L H ?_ ?_) rfl ⟨rfl,(EE.out.setCell (by show w.heap.size<=w.heap.size+1;omega) _).setCell (by show w.heap.size<=w.heap.size+1;omega) _⟩
   ·rw[((E1.out.Mo 0 (.string L)).Mo 1 (.string H)).cell];rfl
   ·rw[((E1.out.Mo 0 (.string L)).Mo 1 (.string H)).cell];rfl
  ·have k1b:(c1.k==1)=true:=by simpa using k1
   have k2b:(c2.k==11)=true:=by simpa using k2
   have r0:=D1.out.cell 0;have r1:=D1.out.cell 1;have rz:=D1.out.frozen;simp at r0 r1;go_wp2_with fail;refine OO (fK rfl _ _ _ rfl _ rfl _ empty empty ?_ ?_) rfl ⟨rfl,(DE.out.setCell (by show w.heap.size<=w.heap.size+1;omega) _).setCell (by show w.heap.size<=w.heap.size+1;omega) _⟩
   ·exact(((D1.out.Mo 0 (.string empty)).Mo 1 (.string empty)).cell 0).trans rfl
   ·exact(((D1.out.Mo 0 (.string empty)).Mo 1 (.string empty)).cell 1).trans rfl
theorem cJ.Mq{xs:List B2}(h:w.ownsRow base 49 2 (.slice (some ⟨g,0,none⟩) n cap) n (aN cG xs)):cJ w g (bi 0 xs):=by
 rcases h.2 with⟨h',_⟩|⟨g',cap',cur,h',_,hg,_,_,_,htake⟩
 ·simp at h'
 ·simp only[Value.slice.injEq,PU,Addr.mk.injEq,Qw,true_and] at h';obtain⟨rfl,rfl⟩:=h'
  have e:aN jq (bi 0 xs)=aN cG xs:=by
   have:∀k,aN jq (bi k xs)=aN cG xs:=by
    intro k;clear hg htake h
    induction xs generalizing k with
    | nil=>rfl
    | cons x r ih=>
     have e1:aN jq (bi k (x::r))=cG x++aN jq (bi (k+1) r):=rfl;rw[e1,ih];rfl
   exact this 0
  refine⟨cur.toList.drop (n*2),?_⟩;show w.heap[g]?=_;rw[hg,e,<-htake,Oh]
theorem cJ.reads{L:List (B2×Nat)}(h:cJ w g L)(hn:n=L.length)(hc:n<=cap):SR 2 cG w (some ⟨g,0,none⟩) n cap (L.map Prod.fst):=by
 refine⟨by rw[Oe,hn],hc,fun _=>⟨g,0,rfl,h.lt,fun i a hi j v hj=>?_⟩⟩;rw[OT] at hi;obtain⟨p,hp,rfl⟩:=PT.1 hi;rw[OX];exact h.cell hp j v hj
theorem wh(w:World)(t e ty:TypeId)(z:Value)(zs:List Value)(n:Nat)(ht:P.underlying t=some (.slice e))(hv:∀w,(zeroValue e).run P w=.ok z w)(hz:(Builtin.zeroCells z.cells n).toList=zs)(h1:∀v∈zs,v.oneCell'=true)(b o c:Nat)(hc:∀j,j<zs.length->(w.cell? ⟨b,o+j,none⟩).isSome=true)(hf:∀j,j<zs.length->w.frozen? ⟨b,o+j,none⟩=false):
  (Builtin.clear_ #[t] ty #[.slice (some ⟨b,o,none⟩) n c]).run P w=.ok (.tuple #[]) (w.setCells b o zs):=by
  have hst:=run_storeCells_cells (P:=P) b o zs 0 w (by simpa using hc) (by simpa using hf) h1;simp only[QW] at hst;cases n with
  | zero=>
   have:zs=[]:=by rw[<-hz];simp[Builtin.zeroCells]
   subst this;simp[Builtin.clear_,SC ht,World.setCells]
  | succ n=>simp[Builtin.clear_,SC ht,hv,hz,hst]
theorem FL(l:List B2):(fL l).length<=l.length:=by
 induction l with
 | nil=>simp[fL]
 | cons x r ih=>
  unfold fL;cases h:fL r with
  | nil=>simp
  | cons y s=>
   rw[h] at ih;simp only;split<;>simp at*<;>omega
theorem DD{x:B2}{r:List B2}:∃s,fL (x::r)=x::s:=by
 unfold fL;cases h:fL r with
 | nil=>exact⟨[],rfl⟩
 | cons y s=>
  simp only;split
  ·rename_i e;exact⟨s,by rw[e]⟩
  ·exact⟨y::s,rfl⟩
theorem tb:∀(l:List B2) (a b:B2),fL (l++[a]++[b])=if a=b then fL (l++[a]) else fL (l++[a])++[b]
 | [],a,b=>by
  simp only[PG,Of,fL];split
  ·rename_i e;rw[e]
  ·rfl
 | x::r,a,b=>by
  have ih:=tb r a b
  obtain⟨y,q,hy⟩:∃y q,r++[a]=y::q:=by
   cases r with
   | nil=>exact⟨a,[],rfl⟩
   | cons y q=>exact⟨y,q++[a],rfl⟩
  obtain⟨s,hs⟩:=DD (x:=y) (r:=q);have e1:fL (r++[a])=y::s:=by rw[hy,hs]
  simp only[Of];unfold fL;rw[ih,e1];by_cases e:a=b
  ·rw[OW e,OW e]
  ·rw[OQ e,OQ e];simp only[Of];split<;>rfl
theorem ma{l:List B2}{a b:B2}(ha:l[i]?=some a)(hb:l[i+1]?=some b):fL (l.take (i+2))=if a=b then fL (l.take (i+1)) else fL (l.take (i+1))++[b]:=by
 have e1:l.take (i+1)=l.take i++[a]:=by rw[Pf,ha];rfl
 have e2:l.take (i+2)=l.take i++[a]++[b]:=by rw[show i+2=i+1+1 from rfl,Pf,hb,e1];rfl
 rw[e2,tb,e1]
theorem DF(w:World):Calls prog 114 #[.slice none 0 0] w fun e w'=>e=.returned (.slice none 0 0)/\w=w':=by
 go_enter func114,TC;go_wp2;go_ret;exact⟨rfl,rfl⟩
end
structure Hd(L:List (B2×Nat))(n j:Nat)(g:Nat)(w:World)(k t:Nat)(M:List (B2×Nat))(wr:World):Prop where
 row:cJ wr g M
 but:fD g w wr
 ln:M.length=n
 k1:1<=k
 kt:k<=j+1+t
 tn:j+1+t+1<=n
 eq:(M.map Prod.fst).take k=fL ((L.map Prod.fst).take (j+1+t+1))
 same:∀i,j+1+t<=i->M[i]?=L[i]?
section
variable {k n g o c q size j:Nat} {w w' wr:World} {e t:TypeId}
theorem Hd.step{L:List (B2×Nat)}{t:Nat}{M:List (B2×Nat)}(h:Hd L n j g w k t M wr)(hb:Bl wr w'):Hd L n j g w k t M w':=
 ⟨h.row.step hb,h.but.step hb,h.ln,h.k1,h.kt,h.tn,h.eq,h.same⟩
theorem Hd.skip{L:List (B2×Nat)}{t:Nat}{M:List (B2×Nat)}{p q:B2×Nat}(h:Hd L n j g w k t M wr)(hp:L[j+1+t]?=some p)(hq:L[j+1+t+1]?=some q)(hl:j+1+t+2<=n)(e:p.1=q.1):Hd L n j g w k (t+1) M wr:=by
 refine⟨h.row,h.but,h.ln,h.k1,by have:=h.kt;omega,by omega,?_,fun i hi=>h.same i oM⟩;have:=ma (l:=L.map Prod.fst) (i:=j+1+t) (a:=p.1) (b:=q.1) (by rw[OT,hp];rfl) (by rw[OT,hq];rfl);rw[OW e] at this;rw[show j+1+(t+1)+1=j+1+t+2 from by omega,this,h.eq]
theorem Hd.put{L:List (B2×Nat)}{t:Nat}{M:List (B2×Nat)}{p q:B2×Nat}(h:Hd L n j g w k t M wr)(hp:L[j+1+t]?=some p)(hq:L[j+1+t+1]?=some q)(hl:j+1+t+2<=n)(e:p.1≠q.1):
 Hd L n j g w (k+1) (t+1) (M.set k q) ((wr.setCell ⟨g,k*2,none⟩ (.string q.1.1)).setCell ⟨g,k*2+1,none⟩ (.string q.1.2)):=by
 have hkl:k<M.length:=by have:=h.ln;have:=h.kt;omega
 refine⟨h.row.put hkl q,(h.but.set (p:=⟨g,k*2,none⟩) rfl _).set (p:=⟨g,k*2+1,none⟩) rfl _,by rw[Qm];exact h.ln,by omega,by have:=h.kt;omega,by omega,?_,fun i hi=>?_⟩
 ·have:=ma (l:=L.map Prod.fst) (i:=j+1+t) (a:=p.1) (b:=q.1) (by rw[OT,hp];rfl) (by rw[OT,hq];rfl);rw[OQ e] at this;rw[show j+1+(t+1)+1=j+1+t+2 from by omega,this,<-h.eq,Pf,OT,List.getElem?_set_self hkl,List.map_set];rw[List.take_set_of_le (Nat.le_refl k)];rfl
 ·rw[List.getElem?_set_ne (by have:=h.kt;omega)];exact h.same i oM
theorem lj(g:Nat):∀(vs:List Value) (o:Nat) (w:World),(w.setCells g o vs).heap.size=w.heap.size
 | [],_,_=>rfl
 | v::r,o,w=>by
  show((w.setCell ⟨g,o,none⟩ v).setCells g (o+1) r).heap.size=_;rw[lj g r];simp
theorem DG(w:World):(zeroValue 49).run prog w=.ok (.agg #[.string empty,.string empty]) w:=by
 obtain⟨j0,hj0,hy0,hy1,hy2⟩:=Pb jy;simp[zeroValue,typeInfo,hj0,hy0,Qo]
def Jm(L:List (B2×Nat))(g:Nat)(w:World)(e:Ending)(w':World):Prop:=
 ∃m c,e=.returned (.slice (some ⟨g,0,none⟩) m c)/\SR 2 cG w' (some ⟨g,0,none⟩) m c (fL (L.map Prod.fst))/\fD g w w'
theorem DH(L:List (B2×Nat))(g n c:Nat)(w:World)(hr:cJ w g L)(hn:n=L.length)(hc:n<=c)(hz:n*32<=aF):
 Calls prog 114 #[.slice (some ⟨g,0,none⟩) n c] w (Jm L g w):=by
 have hzz:n<=140737488355328:=by unfold aF at hz;omega
 have HR:=qD hr;have HN:=qD hn;have HC:=qD hc;clear hr hn hc hz;by_cases h2:n<2
 ·have HO:Hid (fL (L.map Prod.fst)=L.map Prod.fst):=by
   have hl:=HN.out
   match L,hl with
   | [],_=>exact qD rfl
   | [x],_=>exact qD rfl
   | x::y::r,hl=>simp at hl;omega
  go_enter func114,TC;go_wp2;go_ret;exact⟨n,c,rfl,by rw[HO.out];exact HR.out.reads HN.out HC.out,fD.refl⟩
 go_enter func114,TC;go_upto_region 4 with fail
 go_loopw [3,4,5] (fun v3 _ _ wr=>∃j:Nat,j+1<=n/\v3=.int .i64 ((j+1:Nat):Int)/\fL ((L.map Prod.fst).take (j+1))=(L.map Prod.fst).take (j+1)/\cJ wr g L/\fD g w wr) (fun v3 _ _ _=>n-(intOf v3).toNat)
 case atStart=>
  refine⟨0,by omega,rfl,?_,HR.out,fD.refl⟩;cases h:L.map Prod.fst with
  | nil=>rfl
  | cons x r=>rfl
 case round=>
  obtain⟨j,hj,rfl,ho,hrow,hbut⟩:=hrel;have HO:=qD ho;have HRW:=qD hrow;have HBT:=qD hbut;clear ho hrow hbut;by_cases hlt:j+1<n
  ·obtain⟨p,hp⟩:∃p,L[j]?=some p:=⟨_,OH (by have:=HN.out;omega)⟩;obtain⟨q,hq⟩:∃q,L[j+1]?=some q:=⟨_,OH (by have:=HN.out;omega)⟩;have X0:=aX (a:=⟨g,j*2,none⟩) (v:=.string p.1.1) (HRW.out.cell hp 0 _ rfl);have X1:=aX (a:=⟨g,j*2+1,none⟩) (v:=.string p.1.2) (HRW.out.cell hp 1 _ rfl);have Y0:=aX (a:=⟨g,(j+1)*2,none⟩) (v:=.string q.1.1) (HRW.out.cell hq 0 _ rfl);have Y1:=aX (a:=⟨g,(j+1)*2+1,none⟩) (v:=.string q.1.2) (HRW.out.cell hq 1 _ rfl);have HP:=qD hp;have HQ:=qD hq;clear hp hq;have i0:(0:Int)<=(j:Int):=oM
   have i1:(j:Int)+1<(n:Int):=oM
   have i2:(j:Int)<(n:Int):=oM
   go_upto_region 6 with fail
   refine aL kR kR ?_;have hEQ:=uY q.1 p.1;obtain⟨z,hz⟩:∃z,z=decide (q.1=p.1):=⟨_,rfl⟩;rw[<-hz] at hEQ;have HZ:=qD hz;clear hz
   repeat(go_big_quiet_step (fail))
   go_big_quiet_want
   refine yz q.1 p.1 HZ.out rfl rfl rfl ?_;go_frame
   go_big_quiet_on
   refine Oc ?_;rintro _ ⟨kw,rfl⟩;replace HRW:=qD (HRW.out.step kw.below);replace HBT:=qD (HBT.out.step kw.below);generalize kw.val=w5 at*;clear X0 X1 Y0 Y1 hEQ;cases z
   ·have hne:q.1≠p.1:=by have:=HZ.out;simpa using this.symm
    go_wp2_with fail;go_roundw
    case rel=>
     refine⟨j+1,by omega,by go_num,?_,HRW.out,HBT.out⟩;have:=ma (l:=L.map Prod.fst) (i:=j) (a:=p.1) (b:=q.1) (by rw[OT,HP.out];rfl) (by rw[OT,HQ.out];rfl);rw[show j+1+1=j+2 from rfl,this,OQ (fun e=>hne e.symm),HO.out,Pf (i:=j+1),OT,HQ.out];rfl
    case measure=>exact iO
   ·have heq:q.1=p.1:=by have:=HZ.out;simpa using this.symm
    have cj:j+1<c:=by have:=HC.out;omega
    have cj1:(j:Int)+1<(c:Int):=oM
    have cj2:(c==j+1)=false:=by simp;omega
    have cj3:¬c=j+1:=oM
    go_upto_region 9 with fail
    obtain⟨m,hm⟩:∃m,n-(j+1)=m:=⟨_,rfl⟩;obtain⟨cm,hcm⟩:∃m,c-(j+1)=m:=⟨_,rfl⟩;rw[hm,hcm];have HM:=qD hm;have HCM:=qD hcm;clear hm hcm cj cj1 cj2 cj3
    go_loopw [3,5] (fun v3 v5 wr=>∃(k t:Nat) (M:List (B2×Nat)),v3=.int .i64 (k:Int)/\v5=.int .i64 ((t+1:Nat):Int)/\Hd L n j g w k t M wr) (fun _ v5 _=>n-(intOf v5).toNat)
    case atStart=>
     refine⟨j+1,0,L,rfl,rfl,HRW.out,HBT.out,HN.out.symm,by omega,by omega,by omega,?_,fun _ _=>rfl⟩;have:=ma (l:=L.map Prod.fst) (i:=j) (a:=p.1) (b:=q.1) (by rw[OT,HP.out];rfl) (by rw[OT,HQ.out];rfl);rw[OW heq.symm] at this;rw[show j+1+0+1=j+2 from rfl,this,HO.out]
    case round=>
     obtain⟨k,t,M,rfl,rfl,hI⟩:=hrel;have HI:=qD hI;have k1:=hI.k1;have kt:=hI.kt;have tn:=hI.tn;clear hI HRW HBT;by_cases htl:j+1+t+2<=n
     ·obtain⟨p',hp'⟩:∃p,L[j+1+t]?=some p:=⟨_,OH (by have:=HN.out;omega)⟩;obtain⟨q',hq'⟩:∃q,L[j+1+t+1]?=some q:=⟨_,OH (by have:=HN.out;omega)⟩;have hpm:=(HI.out.same _ (qL)).trans hp';have hqm:=(HI.out.same (j+1+t+1) oM).trans hq';have X0:=aX (a:=⟨g,(j+1)*2+t*2,none⟩) (v:=.string p'.1.1) (by have:=HI.out.row.cell hpm 0 _ rfl;rw[show(j+1)*2+t*2=(j+1+t)*2+0 from by omega];exact this);have X1:=aX (a:=⟨g,(j+1)*2+t*2+1,none⟩) (v:=.string p'.1.2) (by have:=HI.out.row.cell hpm 1 _ rfl;rw[show(j+1)*2+t*2+1=(j+1+t)*2+1 from by omega];exact this);have Y0:=aX (a:=⟨g,(j+1)*2+(t+1)*2,none⟩) (v:=.string q'.1.1) (by have:=HI.out.row.cell hqm 0 _ rfl;rw[show(j+1)*2+(t+1)*2=(j+1+t+1)*2+0 from by omega];exact this);have Y1:=aX (a:=⟨g,(j+1)*2+(t+1)*2+1,none⟩) (v:=.string q'.1.2) (by have:=HI.out.row.cell hqm 1 _ rfl;rw[show(j+1)*2+(t+1)*2+1=(j+1+t+1)*2+1 from by omega];exact this);have HP':=qD hp';have HQ':=qD hq';clear hp' hq' hpm hqm;have t0:(0:Int)<=(t:Int):=oM
      have hm:t+1<m:=by have:=HM.out;omega
      have t1:(t:Int)<(m:Int):=oM
      have t2:(t:Int)+1<(m:Int):=oM
      have HTL:=qD htl;clear htl;go_upto_region 11 with fail
      refine aL kR kR ?_
      repeat(go_big_quiet_step (fail))
      go_big_quiet_want
      obtain⟨z,hz⟩:∃z,z=!decide (q'.1=p'.1):=⟨_,rfl⟩;refine zA q'.1 p'.1 hz rfl rfl rfl ?_;go_frame;have HZ:=qD hz;clear hz
      go_big_quiet_on
      refine Oc ?_;rintro _ ⟨kw,rfl⟩;replace HI:=qD (HI.out.step kw.below);generalize kw.val=w6 at*;clear X0 X1 Y0 Y1;cases z
      ·have heq':p'.1=q'.1:=by
        have h:=HZ.out;by_cases e:q'.1=p'.1
        ·exact e.symm
        ·rw[OV e] at h;simp at h
       go_wp2_with fail;go_roundw
       ·exact⟨k,t+1,M,rfl,by go_num,HI.out.skip HP'.out HQ'.out HTL.out heq'⟩
       ·exact iO
      ·have hne':p'.1≠q'.1:=by have:=HZ.out;intro e;rw[e] at this;simp at this
       have hqm:=(HI.out.same (j+1+t+1) oM).trans HQ'.out;have y0:w6.cell? ⟨g,(j+1)*2+(t+1)*2,none⟩=some (.string q'.1.1):=by have:=HI.out.row.cell hqm 0 _ rfl;rw[show(j+1)*2+(t+1)*2=(j+1+t+1)*2+0 from by omega];exact this
       have y1:w6.cell? ⟨g,(j+1)*2+(t+1)*2+1,none⟩=some (.string q'.1.2):=by have:=HI.out.row.cell hqm 1 _ rfl;rw[show(j+1)*2+(t+1)*2+1=(j+1+t+1)*2+1 from by omega];exact this
       have z0:=HI.out.row.frozen;obtain⟨r,hr⟩:∃p,M[k]?=some p:=⟨_,OH (by have:=HI.out.ln;have:=HI.out.kt;omega)⟩;have s0:w6.cell? ⟨g,k*2,none⟩=some (.string r.1.1):=HI.out.row.cell hr 0 _ rfl;have s1:w6.cell? ⟨g,k*2+1,none⟩=some (.string r.1.2):=HI.out.row.cell hr 1 _ rfl;have kn:k<n:=by have:=HI.out.kt;omega
       have kn1:(k:Int)<(n:Int):=oM
       clear hqm hr;go_wp2_with fail;go_roundw
       ·exact⟨k+1,t+1,M.set k q',by go_num,by go_num,HI.out.put HP'.out HQ'.out HTL.out hne'⟩
       ·exact iO
     ·have hm:m=t+1:=by have:=HM.out;omega
      have hmi:¬((t:Int)+1<(m:Int)):=oM
      have kn:k<n:=by have:=HI.out.kt;omega
      have kn1:(k:Int)<(n:Int):=oM
      have kc:k<c:=by have:=HC.out;omega
      have kc1:(k:Int)<(c:Int):=oM
      have kc2:¬c=k:=oM
      have hfin:Hid ((M.map Prod.fst).take k=fL (L.map Prod.fst)):=by
       have:=HI.out.eq;rw[OS (l:=L.map Prod.fst) (by rw[Oe];have:=HN.out;omega)] at this;exact qD this
      obtain⟨zs,hzs⟩:∃zs,(Builtin.zeroCells (Value.cells (.agg #[.string empty,.string empty])) (n-k)).toList=zs:=⟨_,rfl⟩;have hzl:zs.length=(n-k)*2:=by rw[<-hzs];simp[Builtin.zeroCells,Value.cells]
      have hz1:∀v∈zs,v.oneCell'=true:=by
       rw[<-hzs];intro v hv;obtain⟨i,hi,rfl⟩:=Sj hv;have hd:i%2=0\/i%2=1:=oM
       simp only[Builtin.zeroCells,Value.cells];rcases hd with hd|hd<;>simp[hd,Value.oneCell']
      have hcl:∀ty,(Builtin.clear_ #[47] ty #[.slice (some ⟨g,k*2,none⟩) (n-k) (c-k)]).run prog wr=.ok (.tuple #[]) (wr.setCells g (k*2) zs):=fun ty=>
       wh wr _ _ ty _ zs (n-k) QZ DG hzs hz1 g _ _ (fun i hi=>by
        obtain⟨e,he⟩:∃e,M[k+i/2]?=some e:=⟨_,OH (by have:=HI.out.ln;omega)⟩
        have hd:i%2=0\/i%2=1:=oM
        rcases hd with hd|hd
        ·have:=HI.out.row.cell he 0 _ rfl
         rw[show k*2+i=(k+i/2)*2+0 from by omega,this];rfl
        ·have:=HI.out.row.cell he 1 _ rfl
         rw[show k*2+i=(k+i/2)*2+1 from by omega,this];rfl) (fun i _=>HI.out.row.frozen _)
      go_wp2;go_ret;refine⟨k,c,rfl,⟨?_,Sl kc,fun _=>⟨g,0,rfl,?_,fun i a hi q hq=>?_⟩⟩,HI.out.but.setCells _ _⟩
      ·rw[<-hfin.out,Ow,Oe,HI.out.ln];omega
      ·exact Ol HI.out.row.lt (by rw[show(wr.setCells g (k*2) zs).heap.size=wr.heap.size from lj _ _ _ _];exact qL)
      ·intro hv;rw[<-hfin.out] at hi;have hik:i<k:=by have:=(OI.1 hi).1;rw[Ow] at this;omega
       rw[Rv hik,OT] at hi;obtain⟨e,he,rfl⟩:=PT.1 hi;have hq2:q<2:=by have:=(OI.1 hv).1;simpa[cG] using this
       rw[OX,World.cell?_setCells_out g zs (k*2) wr ⟨g,i*2+q,none⟩ (fun _ _=>.inl (by show i*2+q<k*2;omega))];exact HI.out.row.cell he q _ hv
  ·obtain rfl:n=j+1:=oM
   have HO2:Hid (fL (L.map Prod.fst)=L.map Prod.fst):=by
    have:=HO.out;rw[OS (by rw[Oe];have:=HN.out;omega)] at this;exact this
   go_wp2;go_ret;exact⟨j+1,c,rfl,by rw[HO2.out];exact HRW.out.reads HN.out HC.out,HBT.out⟩
end
open Go
section
variable {k b g o c size j:Nat} {w w':World} {e t:TypeId} {cs:Array Value} {P:Program} {Q:Exit -> Act -> World -> Prop} {a op x d:Int} {l r:List ByteArray} {v:Value} {s:ByteArray}
theorem aH{ops:Array Oper}{rest:List Oper}{op:Oper}{a:Act}(hw:Region.wanted op (yielded ops a.tmps)=true)(ty:TypeId)(x:Operand)(ho:op.op=.load ty x)(b o:Nat)(hx:a.eval x=.pointer (some ⟨b,o,none⟩))(cs:List Value)(d:TypeDesc)(hc:w.rangeAt b o cs)(hu:P.underlying ty=some d)(hd:d.isRow=true)(hi:(P.info? ty).map (·.size)=some cs.length)(h:wpList P ops Q rest (a.put op.dst (.agg cs.toArray)) w):wpList P ops Q (op::rest) a w:=
  wpList_step fun K hK=>by
   simp only[hw,Rr];exact wp_load_mid ty x ho b o hx cs d hc hu hd hi (hK _ _ h)
theorem cC(h:aG w g t cs)(l:List Value)(o:Nat)(hl:∀(j:Nat) (v:Value),l[j]?=some v->cs[o+j]?=some v):w.rangeAt g o l:=by
 intro j v hj;rw[h.cell];exact hl j v hj
theorem nK{a b:Bool}(h:a=b):Ending.returned (.bool a)=.returned (.bool b):=by rw[h]
def db(op:Int):Bool:=decide (2<=op)&&decide (op<=19)
def de(op:Int):Bool:=decide (op=16)||(decide (op=17)||decide (op=19))
def dH(op:Int):Bool:=(decide (2<=op)&&decide (op<=7))||de op
def cY(op:Int):Bool:=decide (op=8)||(decide (op=9)||decide (op=14))
def cr(p:aj):Bool:=if p.op=15\/p.op=23 then decide (p.kn=1) else if p.op=20\/p.op=21\/p.op=22 then decide (0<p.kn) else decide (p.kn=0)
def au(p:aj):Bool:=
 if p.op=10 then decide (p.n=0)||decide (p.n=1) else if p.op=11 then decide (1<=p.n)&&decide (p.n<=11) else if p.op=12 then decide (1<=p.n)&&(decide (0<=p.m)&&decide (p.m<p.n)) else if p.op=13 then decide (0<=p.n) else true
theorem rQ(op:Int)(w:World):Calls prog 80 #[.int .i64 op] w fun e w'=>e=.returned (.bool (db op))/\w'=w:=by
 go_enter func80,ntmps80
 go_wp2
 all_goals go_ret
 all_goals refine⟨nK ?_,rfl⟩
 all_goals first|(simp[db, *];done)|(rw[Ob];simp[db, *];done)|(rw[Ob];simp[db, *];omega)|(simp[db, *];omega)|(simp_all[db];done)|(simp_all[db];omega)
theorem pR(op:Int)(w:World):Calls prog 82 #[.int .i64 op] w fun e w'=>e=.returned (.bool (de op))/\w'=w:=by
 go_enter func82,ntmps82
 go_wp2
 all_goals go_ret
 all_goals refine⟨nK ?_,rfl⟩
 all_goals first|(simp[de, *];done)|(rw[Ob];simp[de, *];done)|(rw[Ob];simp[de, *];omega)|(simp[de, *];omega)|(simp_all[de];done)|(simp_all[de];omega)
theorem jO(op:Int)(w:World):Calls prog 78 #[.int .i64 op] w fun e w'=>e=.returned (.bool (cY op))/\w'=w:=by
 go_enter func78,ntmps78
 go_wp2
 all_goals go_ret
 all_goals refine⟨nK ?_,rfl⟩
 all_goals first|(simp[cY, *];done)|(rw[Ob];simp[cY, *];done)|(rw[Ob];simp[cY, *];omega)|(simp[cY, *];omega)|(simp_all[cY];done)|(simp_all[cY];omega)
theorem rS(op:Int)(w:World):Calls prog 81 #[.int .i64 op] w fun e w'=>e=.returned (.bool (dH op))/\w'=w:=by
 go_enter func81,ntmps81;go_wp2_with (go_at_call 82;refine(pR _ _).mono ?_;rintro e w' ⟨rfl,rfl⟩)
 all_goals go_ret
 all_goals refine⟨nK ?_,rfl⟩
 all_goals first|(simp[dH, *];done)|(rw[Ob];simp[dH, *];done)|(rw[Ob];simp[dH, *];omega)|(simp[dH, *];omega)|(simp_all[dH];done)|(simp_all[dH];omega)
theorem FM(p:aj)(w:World):Calls prog 77 #[al p] w (Rt w (.bool (cr p))):=by
 by_cases h15:p.op=15
 ·have H15:=qD h15;go_enter Sh,SN
  go_wp2
  all_goals go_ret
  all_goals refine⟨nK ?_,(OG _ _).alloc (qL) _⟩
  all_goals first|(simp[cr,H15.out];done)|(rw[Ob];simp[cr,H15.out];done)|(rw[Ob];simp[cr,H15.out];omega)|(simp_all[cr,H15.out];done)|(simp_all[cr,H15.out];omega)
 have H15:=qD h15;have b15:(p.op==15)=false:=by simpa using h15
 clear h15;by_cases h23:p.op=23
 ·have H23:=qD h23;go_enter Sh,SN
  go_wp2
  all_goals go_ret
  all_goals refine⟨nK ?_,(OG _ _).alloc (qL) _⟩
  all_goals first|(simp[cr,H15.out,H23.out];done)|(rw[Ob];simp[cr,H15.out,H23.out];done)|(rw[Ob];simp[cr,H15.out,H23.out];omega)|(simp_all[cr,H15.out,H23.out];done)|(simp_all[cr,H15.out,H23.out];omega)
 have H23:=qD h23;have b23:(p.op==23)=false:=by simpa using h23
 clear h23;by_cases h20:p.op=20
 ·have H20:=qD h20;go_enter Sh,SN
  go_wp2
  all_goals go_ret
  all_goals refine⟨nK ?_,(OG _ _).alloc (qL) _⟩
  all_goals first|(simp[cr,H15.out,H23.out,H20.out];done)|(rw[Ob];simp[cr,H15.out,H23.out,H20.out];done)|(rw[Ob];simp[cr,H15.out,H23.out,H20.out];omega)|(simp_all[cr,H15.out,H23.out,H20.out];done)|(simp_all[cr,H15.out,H23.out,H20.out];omega)
 have H20:=qD h20;have b20:(p.op==20)=false:=by simpa using h20
 clear h20;by_cases h21:p.op=21
 ·have H21:=qD h21;go_enter Sh,SN
  go_wp2
  all_goals go_ret
  all_goals refine⟨nK ?_,(OG _ _).alloc (qL) _⟩
  all_goals first|(simp[cr,H15.out,H23.out,H20.out,H21.out];done)|(rw[Ob];simp[cr,H15.out,H23.out,H20.out,H21.out];done)|(rw[Ob];simp[cr,H15.out,H23.out,H20.out,H21.out];omega)|(simp_all[cr,H15.out,H23.out,H20.out,H21.out];done)|(simp_all[cr,H15.out,H23.out,H20.out,H21.out];omega)
 have H21:=qD h21;have b21:(p.op==21)=false:=by simpa using h21
 clear h21;by_cases h22:p.op=22
 ·have H22:=qD h22;go_enter Sh,SN
  go_wp2
  all_goals go_ret
  all_goals refine⟨nK ?_,(OG _ _).alloc (qL) _⟩
  all_goals first|(simp[cr,H15.out,H23.out,H20.out,H21.out,H22.out];done)|(rw[Ob];simp[cr,H15.out,H23.out,H20.out,H21.out,H22.out];done)|(rw[Ob];simp[cr,H15.out,H23.out,H20.out,H21.out,H22.out];omega)|(simp_all[cr,H15.out,H23.out,H20.out,H21.out,H22.out];done)|(simp_all[cr,H15.out,H23.out,H20.out,H21.out,H22.out];omega)
 have H22:=qD h22;have b22:(p.op==22)=false:=by simpa using h22
 clear h22;go_enter Sh,SN
 go_wp2
 all_goals go_ret
 all_goals refine⟨nK ?_,(OG _ _).alloc (qL) _⟩
 all_goals first|(simp[cr,H15.out,H23.out,H20.out,H21.out,H22.out];done)|(rw[Ob];simp[cr,H15.out,H23.out,H20.out,H21.out,H22.out];done)|(rw[Ob];simp[cr,H15.out,H23.out,H20.out,H21.out,H22.out];omega)|(simp_all[cr,H15.out,H23.out,H20.out,H21.out,H22.out];done)|(simp_all[cr,H15.out,H23.out,H20.out,H21.out,H22.out];omega)
theorem wj(p:aj)(w:World):Calls prog 79 #[al p] w (Rt w (.bool (au p))):=by
 by_cases h10:p.op=10
 ·have H10:=qD h10;go_enter Sy,Sm
  go_wp2
  all_goals go_ret
  all_goals refine⟨nK ?_,(OG _ _).alloc (qL) _⟩
  all_goals first|(simp[au,H10.out];done)|(rw[Ob];simp[au,H10.out];done)|(rw[Ob];simp[au,H10.out];omega)|(simp_all[au,H10.out];done)|(simp_all[au,H10.out];omega)
 have H10:=qD h10;have b10:(p.op==10)=false:=by simpa using h10
 clear h10;by_cases h11:p.op=11
 ·have H11:=qD h11;go_enter Sy,Sm
  go_wp2
  all_goals go_ret
  all_goals refine⟨nK ?_,(OG _ _).alloc (qL) _⟩
  all_goals first|(simp[au,H10.out,H11.out];done)|(rw[Ob];simp[au,H10.out,H11.out];done)|(rw[Ob];simp[au,H10.out,H11.out];omega)|(simp_all[au,H10.out,H11.out];done)|(simp_all[au,H10.out,H11.out];omega)
 have H11:=qD h11;have b11:(p.op==11)=false:=by simpa using h11
 clear h11;by_cases h12:p.op=12
 ·have H12:=qD h12;go_enter Sy,Sm
  go_wp2
  all_goals go_ret
  all_goals refine⟨nK ?_,(OG _ _).alloc (qL) _⟩
  all_goals first|(simp[au,H10.out,H11.out,H12.out];done)|(rw[Ob];simp[au,H10.out,H11.out,H12.out];done)|(rw[Ob];simp[au,H10.out,H11.out,H12.out];omega)|(simp_all[au,H10.out,H11.out,H12.out];done)|(simp_all[au,H10.out,H11.out,H12.out];omega)
 have H12:=qD h12;have b12:(p.op==12)=false:=by simpa using h12
 clear h12;by_cases h13:p.op=13
 ·have H13:=qD h13;go_enter Sy,Sm
  go_wp2
  all_goals go_ret
  all_goals refine⟨nK ?_,(OG _ _).alloc (qL) _⟩
  all_goals first|(simp[au,H10.out,H11.out,H12.out,H13.out];done)|(rw[Ob];simp[au,H10.out,H11.out,H12.out,H13.out];done)|(rw[Ob];simp[au,H10.out,H11.out,H12.out,H13.out];omega)|(simp_all[au,H10.out,H11.out,H12.out,H13.out];done)|(simp_all[au,H10.out,H11.out,H12.out,H13.out];omega)
 have H13:=qD h13;have b13:(p.op==13)=false:=by simpa using h13
 clear h13;go_enter Sy,Sm
 go_wp2
 all_goals go_ret
 all_goals refine⟨nK ?_,(OG _ _).alloc (qL) _⟩
 all_goals first|(simp[au,H10.out,H11.out,H12.out,H13.out];done)|(rw[Ob];simp[au,H10.out,H11.out,H12.out,H13.out];done)|(rw[Ob];simp[au,H10.out,H11.out,H12.out,H13.out];omega)|(simp_all[au,H10.out,H11.out,H12.out,H13.out];done)|(simp_all[au,H10.out,H11.out,H12.out,H13.out];omega)
def DI(w:World)(e:Ending)(w':World):Prop:=∃b:Bool,e=.returned (.bool b)/\Bl w w'
theorem ms(c:VC)(w:World):Calls prog 141 #[c.val] w (DI w):=by
 go_enter func141,ntmps141
 go_wp2
 all_goals go_ret
 all_goals exact⟨_,rfl,(OG _ _).alloc (qL) _⟩
theorem wk(k r:Int)(s:wR (Int×Int))(w:World):Calls prog 142 #[.agg #[.int .i64 k,s.v,.int .i64 r]] w (DI w):=by
 go_enter func142,ntmps142
 go_wp2
 all_goals go_ret
 all_goals exact⟨_,rfl,(OG _ _).alloc (qL) _⟩
theorem jz{x:dS}(h:aG w g 35 (aP x)):w.rangeAt g 4 x.arg.1.list:=
 cC h _ _ fun j v hj=>by
  have hl:j<5:=(OI.1 hj).1
  match j,hl,hj with
  | 0,_,hj=>exact hj
  | 1,_,hj=>exact hj
  | 2,_,hj=>exact hj
  | 3,_,hj=>exact hj
  | 4,_,hj=>exact hj
theorem zV(x:dS)(w:World):Calls prog 143 #[dZ x] w (DI w):=by
 have B0:Hid (aG (w.alloc (.cells (aP x) 35)) w.heap.size 35 (aP x)):=aG.Mm rfl;have BE:=qD ((OG w.heap.size w).alloc (qL) (Obj.cells (aP x) 35));have R4:=qD (jz B0.out);go_enter func143,ntmps143;go_wp2_with (first|(refine aH rfl 29 _ rfl w.heap.size 4 rfl _ _ R4.out Pj rfl kR ?_)|(go_at_call 141;refine(ms x.arg.1 _).mono ?_;rintro e w1 ⟨b,rfl,hb⟩;have d9:=(B0.out.step hb).cell 9;have d10:=(B0.out.step hb).cell 10;simp at d9 d10;have BF:=qD (BE.out.Ml hb);clear hb;cases b))
 all_goals go_ret
 all_goals first|exact⟨_,rfl,BF.out⟩|exact⟨_,rfl,BE.out⟩
theorem bZ{p:aj}(h:aG w g 38 (bL p)):w.rangeAt g 2 p.arg.1.list:=
 cC h _ _ fun j v hj=>by
  have hl:j<5:=(OI.1 hj).1
  match j,hl,hj with
  | 0,_,hj=>exact hj
  | 1,_,hj=>exact hj
  | 2,_,hj=>exact hj
  | 3,_,hj=>exact hj
  | 4,_,hj=>exact hj
theorem kZ{p:aj}(h:aG w g 38 (bL p)):w.rangeAt g 10 [.int .i64 p.sk,p.pts.v,.int .i64 p.sr]:=
 cC h _ _ fun j v hj=>by
  have hl:j<3:=(OI.1 hj).1
  match j,hl,hj with
  | 0,_,hj=>exact hj
  | 1,_,hj=>exact hj
  | 2,_,hj=>exact hj
theorem mb{p:aj}(h:aG w g 38 (bL p)):w.rangeAt g 13 (dY p.ex):=
 cC h _ _ fun j v hj=>by
  have hl:j<11:=(OI.1 hj).1
  match j,hl,hj with
  | 0,_,hj=>exact hj
  | 1,_,hj=>exact hj
  | 2,_,hj=>exact hj
  | 3,_,hj=>exact hj
  | 4,_,hj=>exact hj
  | 5,_,hj=>exact hj
  | 6,_,hj=>exact hj
  | 7,_,hj=>exact hj
  | 8,_,hj=>exact hj
  | 9,_,hj=>exact hj
  | 10,_,hj=>exact hj
end
structure Mg(w:World)(g:Nat)(p:aj):Prop where
 d0:w.cell? ⟨g,0,none⟩=some (.int .i64 p.op)
 d1:w.cell? ⟨g,1,none⟩=some (.slice p.path.A p.path.n p.path.c)
 d2:w.cell? ⟨g,2,none⟩=some (.int .i64 p.arg.1.k)
 d4:w.cell? ⟨g,4,none⟩=some (.string p.arg.1.t)
 d7:w.cell? ⟨g,7,none⟩=some (.slice p.args.A p.args.n p.args.c)
 d8:w.cell? ⟨g,8,none⟩=some (.int .i64 p.n)
 d9:w.cell? ⟨g,9,none⟩=some (.int .i64 p.m)
 d24:w.cell? ⟨g,24,none⟩=some (.slice p.kA p.kn p.kc)
section
variable {g:Nat} {w:World}
theorem aU{p:aj}(h:aG w g 38 (bL p)):Mg w g p:=
 ⟨(h.cell 0).trans rfl,(h.cell 1).trans rfl,(h.cell 2).trans rfl,(h.cell 4).trans rfl,(h.cell 7).trans rfl,(h.cell 8).trans rfl,(h.cell 9).trans rfl,(h.cell 24).trans rfl⟩
theorem cg{p:aj}(h:aG w g 38 (bL p)):w.rangeAt g 0 (eY p):=
 cC h _ _ fun j v hj=>by
  rw[OX];show(eY p).toArray[j]?=some v;rw[Rh];exact hj
end
structure Mh(w:World)(g:Nat)(x:dS):Prop where
 d0:w.cell? ⟨g,0,none⟩=some (.int .i64 x.op)
 d1:w.cell? ⟨g,1,none⟩=some (.slice x.path.A x.path.n x.path.c)
 d2:w.cell? ⟨g,2,none⟩=some (.string x.name)
 d3:w.cell? ⟨g,3,none⟩=some (.slice x.names.A x.names.n x.names.c)
 d9:w.cell? ⟨g,9,none⟩=some (.int .i64 x.n)
 d10:w.cell? ⟨g,10,none⟩=some (.slice x.kA x.kn x.kc)
section
variable {k b n g o i c base off size:Nat} {w w':World} {e:TypeId} {a x:Int} {l:List ByteArray} {v:Value} {s:ByteArray} {A:Option Addr} {xs:List Value}
theorem aa{x:dS}(h:aG w g 35 (aP x)):Mh w g x:=
 ⟨(h.cell 0).trans rfl,(h.cell 1).trans rfl,(h.cell 2).trans rfl,(h.cell 3).trans rfl,(h.cell 9).trans rfl,(h.cell 10).trans rfl⟩
theorem jP{x:dS}(h:aG w g 35 (aP x)):w.rangeAt g 0 (dY x):=
 cC h _ _ fun j v hj=>by
  rw[OX];show(dY x).toArray[j]?=some v;rw[Rh];exact hj
theorem SR.row{α:Type}{rec:α->List Value}{s:Nat}{xs:List α}(h:SR s rec w A n c xs)(hi:i<n):
 ∃b off x,A=some ⟨b,off,none⟩/\b<w.heap.size/\xs[i]?=some x/\x∈xs/\w.rangeAt b (off+i*s) (rec x):=by
 obtain⟨b,off,e,hb,hc⟩:=h.el oM;have hl:i<xs.length:=by have:=h.ln;omega
 have h1:=OH hl;exact⟨b,off,xs[i],e,hb,h1,OJ h1,hc i _ h1⟩
theorem bB{l:List Value}(h:w.rangeAt b o l)(hb:Bl w w')(hl:b<w.heap.size):w'.rangeAt b o l:=fun j v hj=>(hb.cell (p:=⟨b,o+j,none⟩) hl).trans (h j v hj)
theorem DJ{xs:List B2}{a:B2}{v:ByteArray}(h:xs[i]?=some a):(aN cG xs).set (i*2+1) (.string v)=aN cG (xs.set i (a.1,v)):=by
 induction xs generalizing i with
 | nil=>simp at h
 | cons b l ih=>
  have e:∀(y:B2) (t:List B2),aN cG (y::t)=cG y++aN cG t:=fun _ _=>rfl;cases i with
  | zero=>
   simp at h;subst h;rfl
  | succ i=>
   have:=ih (i:=i) (by simpa using h);rw[List.set_cons_succ,e,e,<-this,Qb _ _ (by rw[fi];omega),fi,show(i+1)*2+1-2=i*2+1 by omega]
theorem FN(h:w.ownsRow base e size (.slice (some ⟨g,0,none⟩) n c) n xs)(k:Nat)(u:Value):
 (w.setCell ⟨g,k,none⟩ u).ownsRow base e size (.slice (some ⟨g,0,none⟩) n c) n (xs.set k u):=by
 refine⟨by rw[Qm];exact h.1,?_⟩;rcases h.2 with⟨h1,_⟩|⟨g',cap,cur,hv,hg,hh,hnc,hm,hsz,htk⟩
 ·cases h1
 ·injection hv with h1 h2 h3
  injection h1 with h1
  injection h1 with h1
  subst h1 h3;have hb:aG w g e cur:=hh;refine .inr ⟨g,c,cur.setIfInBounds k u,rfl,hg,hb.Mo k u,hnc,hm,by simpa using hsz,?_⟩;rw[Array.toList_setIfInBounds,List.take_set,htk]
theorem DK(h:w.ownsRow base e size (.slice (some ⟨g,0,none⟩) n c) n xs){u:Value}(hk:xs[k]?=some u):w.cell? ⟨g,k,none⟩=some u/\w.frozen? ⟨g,k,none⟩=false:=by
 have:=h.cells (g:=g) rfl k u hk;rw[cW,OX] at this;refine⟨this,?_⟩;rcases h.2 with⟨h1,_⟩|⟨g',cap,cur,hv,hg,hh,_⟩
 ·cases h1
 ·injection hv with h1
  injection h1 with h1
  injection h1 with h1
  subst h1;exact aG.frozen (t:=e) (cs:=cur) hh k
theorem FP(h:w.ownsRow base e size v n xs)(h0:0<n):∃g c,v=.slice (some ⟨g,0,none⟩) n c/\base<=g/\g<w.heap.size:=by
 rcases h.2 with⟨_,h1⟩|⟨g,cap,cur,hv,hg,hh,_⟩
 ·omega
 ·exact⟨g,cap,hv,hg,aG.lt (t:=e) (cs:=cur) hh⟩
end
structure EG(w2:World)(Q:List B2)(i l:Nat)(v:Value)(wr:World):Prop where
 own:wr.ownsRow w2.heap.size 49 2 v l (aN cG (fw empty (Q.take i)))
 bel:Bl w2 wr
 ln:(fw empty (Q.take i)).length=l
section
variable {k b n g o m i c base q size:Nat} {w w' wr w2:World} {e t:TypeId} {Q:Exit -> Act -> World -> Prop} {a op x y:Int} {l r:List ByteArray} {v:Value} {s:ByteArray} {xs:List Value}
theorem EG.step{Q:List B2}{l:Nat}(h:EG w2 Q i l v wr)(hb:Bl wr w'):EG w2 Q i l v w':=⟨af h.own hb,h.bel.Ml hb,h.ln⟩
theorem EG.alloc{Q:List B2}{l:Nat}(h:EG w2 Q i l v wr)(o:Obj):EG w2 Q i l v (wr.alloc o):=⟨h.own.alloc _,h.bel.alloc h.bel.size o,h.ln⟩
theorem EG.last{Q:List B2}{l:Nat}(h:EG w2 Q i (l+1) (.slice (some ⟨g,0,none⟩) (l+1) c) wr):∃q:B2,(fw empty (Q.take i))[l]?=some q/\wr.cell? ⟨g,l*2+1,none⟩=some (.string q.2)/\wr.frozen? ⟨g,l*2+1,none⟩=false:=by
 obtain⟨q,hq⟩:∃q,(fw empty (Q.take i))[l]?=some q:=⟨_,OH (by have:=h.ln;omega)⟩;obtain⟨h1,h2⟩:=DK h.own (gX fi hq (j:=1) (v:=.string q.2) rfl);exact⟨q,hq,h1,h2⟩
theorem kd(b:ByteArray):b.toList=[]↔b=empty:=by
 rw[PO];constructor
 ·intro h;exact QO (QD.1 h)
 ·rintro rfl;rfl
theorem tc(a b:ByteArray):a.toList=b.toList↔a=b:=by
 rw[PO,PO];constructor
 ·intro h;exact QO (QD.1 h)
 ·rintro rfl;rfl
def Jn(xs:List B2)(base:Nat)(w:World)(e:Ending)(w':World):Prop:=
 ∃A m c Z,e=.returned (.slice A m c)/\mW xs Z/\SR 2 cG w' A m c (fw empty (fL Z))/\m<=xs.length/\Below base w w'
theorem pS(xs:List B2)(base n:Nat)(v:Value)(w:World)(h:w.ownsRow base 49 2 v n (aN cG xs))(hn:xs.length=n)(hb:base<=w.heap.size)(hz:n<=4000000000):
 Calls prog 41 #[v] w (Jn xs base w):=by
 obtain⟨j0,hj0,hy0,hy1,hy2⟩:=Pb jy;have HN:=qD hn;have HZ:=qD hz;have HBS:=qD hb
 have sorted:Hid (Calls prog 110 #[v,.func (.func 111) #[] #[]] w fun e w'=>e=.returned (.tuple #[])/\∃S,aS bU (bi 0 xs) S/\Below base w w'/\(v=.slice none 0 0/\S=[]\/∃g c,v=.slice (some ⟨g,0,none⟩) n c/\base<=g/\cJ w' g S/\n<=c)):=by
  rcases h.2 with⟨h',h0⟩|⟨g,cap,cur,h',hg,_,hnc,_⟩
  ·subst h';have hx:xs=[]:=OL oM;refine qD ((Ca w).mono ?_);rintro e w' ⟨rfl,rfl⟩;exact⟨rfl,[],by rw[hx];exact⟨.nil,.nil⟩,(OG _ _).mono hb,.inl ⟨rfl,rfl⟩⟩
  ·subst h';refine qD ((Cb (bi 0 xs) g n cap w (cJ.Mq h) (by rw[fh];exact hn.symm) (by unfold aF;omega) (lP _ _) (fun x y _ _ wr _=>Eh x.1 y.1 wr)).mono ?_);rintro e w' ⟨rfl,S,hS,hI⟩;simp only[PG,Om] at hI;exact⟨rfl,S,hS,hI.but.below hb hg,.inr ⟨g,cap,rfl,hg,hI.row,hnc⟩⟩
 clear h hn hb hz;go_enter func41,ntmps41;go_wp2_with fail;refine sorted.out.mono ?_;rintro e w1 ⟨rfl,S,hS,hb1,hv⟩;have HS:=qD (mW.of hS);have HSL:Hid (S.length=n):=by rw[Hid,hS.perm.length_eq,fh];exact HN.out
 have HB1:=qD hb1
 have comp:Hid (Calls prog 114 #[v] w1 fun e w'=>∃A m c,e=.returned (.slice A m c)/\SR 2 cG w' A m c (fL (S.map Prod.fst))/\Below base w w'):=by
  rcases hv with⟨h',rfl⟩|⟨g,c,h',hg,hrow,hnc⟩
  ·subst h';refine qD ((DF w1).mono ?_);rintro e w' ⟨rfl,rfl⟩;exact⟨none,0,0,rfl,SR.nil,hb1⟩
  ·subst h';refine qD ((DH S g n c w1 hrow HSL.out.symm hnc (by have:=HZ.out;unfold aF;omega)).mono ?_);rintro e w' ⟨m,c',rfl,hsr,hbt⟩;exact⟨_,m,c',rfl,hsr,hb1.trans (hbt.below (OU HBS.out hb1.size) hg)⟩
 clear sorted hS hb1 hv;go_wp2_with fail;refine comp.out.mono ?_;rintro e w2 ⟨A,m,c,rfl,hsr,hb2⟩;obtain⟨Q,hQ⟩:∃Q,Q=fL (S.map Prod.fst):=⟨_,rfl⟩;rw[<-hQ] at hsr;have HSR:=qD hsr;have HB2:=qD hb2;have HQ:=qD hQ;have HQL:Hid (Q.length=m):=qD hsr.ln.symm
 have HMN:Hid (m<=n):=by
  have:=FL (S.map Prod.fst);rw[<-hQ,Oe,HSL.out,HQL.out] at this;exact qD this
 have mz:m<=4000000000:=OU HMN.out HZ.out;clear comp hsr hb2 hQ;go_upto_region 4 with fail
 go_loopw [3,5,6,12] (fun v3 _ _ v12 wr=>∃(i l:Nat),i<=m/\v12=.int .i64 i/\EG w2 Q i l v3 wr) (fun _ _ _ v12 _=>m-(intOf v12).toNat)
 ·exact⟨0,0,ON _,rfl,bP _ _ _ _,OG _ _,rfl⟩
 case round=>
  obtain⟨i,l,hi,rfl,hI⟩:=hrel;have HI:=qD hI;obtain⟨A3,c3,rfl,hlc⟩:=aY hI.own;have HLM:Hid (l<=i):=by have:=EH empty Q i;rw[hI.ln] at this;exact qD this
  clear hI;by_cases hlt:i<m
  ·obtain⟨b,off,r,rfl,hb,hr,_,hrg⟩:=HSR.out.row hlt;have HR:=qD hr;have e0:=(HI.out.bel.cell (p:=⟨b,off+i*2,none⟩) hb).trans (hrg 0 _ rfl);have e1:=(HI.out.bel.cell (p:=⟨b,off+i*2+1,none⟩) hb).trans (hrg 1 _ rfl);have i0:(0:Int)<=(i:Int):=oM
   have i1:(i:Int)<(m:Int):=oM
   have lz:l<=4000000000:=by have:=HLM.out;omega
   clear hr hrg;go_upto_region 6 with fail
   change Code.wp _ _ _ _ (wr.alloc (.cells #[.string r.1,.string r.2] 49));have JB:Hid (aG (wr.alloc (.cells #[.string r.1,.string r.2] 49)) wr.heap.size 49 #[.string r.1,.string r.2]):=aG.Mm rfl;replace HI:=qD (HI.out.alloc (.cells #[.string r.1,.string r.2] 49));generalize wr.alloc (.cells #[.string r.1,.string r.2] 49)=wa at*;generalize wr.heap.size=ga at*;clear e0 e1;rcases PZ l with rfl|hl0
   ·have R0:=aX ((JB.out.cell 0).trans rfl);go_upto_region 7 with fail
    refine aL kR kR ?_
    repeat(go_big_quiet_step (fail))
    refine Oc ?_;rintro _ ⟨kw,rfl⟩;clear R0;replace JB:=qD (JB.out.step kw.below);replace HI:=qD (HI.out.step kw.below);generalize kw.val=w5 at*;have k0:=JB.out.cell 0;have k1:=JB.out.cell 1;simp at k0 k1;go_wp2_with (at_builtin;refine aE _ rfl _ _ 47 rfl w2.heap.size 49 j0 (.agg #[.string empty,.string empty]) 2 32 QZ hj0 hy0 hy1 hy2 rfl dE (.slice A3 0 c3) 0 (aN cG (fw empty (Q.take i))) rfl (HI.out.own.alloc _) _ _ 1 _ (cG r) rfl ⟨rfl,fun _=>⟨_,rfl,On _,ag _ _ _⟩⟩ (jp _) (by unfold maxLen;omega) oM (ar HI.out.bel.size _) ?_);intro v' w6 hown hgr hat
    have HX:Hid (EG w2 Q (i+1) (0+1) v' w6):=by
     have e:fw empty (Q.take (i+1))=fw empty (Q.take i)++[r]:=by
      rw[iQ HR.out]
      exact oc (fun qq hq=>by
       have h0:=HI.out.ln
       have h1:=(OI.1 hq).1
       omega)
     refine⟨?_,(HI.out.bel.alloc HI.out.bel.size _).grown hgr (ar HI.out.bel.size _) (ak HI.out.own),?_⟩
     ·rw[e,cS];exact hown
     ·rw[e,OK,HI.out.ln];rfl
    clear hown hgr hat k0 k1;go_wp2_with fail;go_roundw
    ·exact⟨i+1,0+1,by omega,by go_num,HX.out⟩
    ·exact iO
   ·obtain⟨l',rfl⟩:∃l',l=l'+1:=⟨l-1,by omega⟩;obtain⟨g,c4,hA3,hg,hgl⟩:=FP HI.out.own oM;injection hA3 with hA3 _ hc34
    subst hA3 hc34;obtain⟨q,hq,hqc,hqf⟩:=HI.out.last;have HQQ:=qD hq;have R0:=aX ((JB.out.cell 0).trans rfl);have X0:=aX hqc;have l0:(0:Int)<=(l':Int):=oM
    have l1:(l':Int)<(l':Int)+1:=oM
    have l2:(0:Int)<(l':Int)+1:=oM
    clear hq hqc hqf hl0;go_upto_region 7 with fail
    cases hc1:(!q.2.toList.isEmpty)
    all_goals simp only[Bool.not_eq_true',Bool.not_eq_false'] at hc1
    ·refine aL kR kR ?_
     repeat(go_big_quiet_step (fail))
     refine Oc ?_;rintro _ ⟨kw,rfl⟩;clear R0 X0;replace JB:=qD (JB.out.step kw.below);replace HI:=qD (HI.out.step kw.below);generalize kw.val=w5 at*;have k0:=JB.out.cell 0;have k1:=JB.out.cell 1;simp at k0 k1;go_wp2_with (at_builtin;refine aE _ rfl _ _ 47 rfl w2.heap.size 49 j0 (.agg #[.string empty,.string empty]) 2 32 QZ hj0 hy0 hy1 hy2 rfl dE (.slice (some ⟨g,0,none⟩) (l'+1) c3) (l'+1) (aN cG (fw empty (Q.take i))) rfl (HI.out.own.alloc _) _ _ 1 _ (cG r) rfl ⟨rfl,fun _=>⟨_,rfl,On _,ag _ _ _⟩⟩ (jp _) (by unfold maxLen;omega) oM (ar HI.out.bel.size _) ?_);intro v' w6 hown hgr hat
     have HX:Hid (EG w2 Q (i+1) ((l'+1)+1) v' w6):=by
      have e:fw empty (Q.take (i+1))=fw empty (Q.take i)++[r]:=by
       rw[iQ HR.out]
       exact oc (fun qq hq=>by
        have h0:=HI.out.ln
        have h1:(fw empty (Q.take i))[l']?=some q:=HQQ.out
        rw[h0,Sq,h1] at hq
        obtain rfl:=QB hq
        rintro⟨h2,_⟩
        exact h2 ((kd _).1 (SZ.1 hc1)))
      refine⟨?_,(HI.out.bel.alloc HI.out.bel.size _).grown hgr (ar HI.out.bel.size _) (ak HI.out.own),?_⟩
      ·rw[e,cS];exact hown
      ·rw[e,OK,HI.out.ln];rfl
     clear hown hgr hat k0 k1;go_wp2_with fail;go_roundw
     ·exact⟨i+1,(l'+1)+1,by omega,by go_num,HX.out⟩
     ·exact iO
    ·cases hc2:(q.2.toList==r.1.toList)
     ·refine aL kR kR ?_
      repeat(go_big_quiet_step (fail))
      refine Oc ?_;rintro _ ⟨kw,rfl⟩;clear R0 X0;replace JB:=qD (JB.out.step kw.below);replace HI:=qD (HI.out.step kw.below);generalize kw.val=w5 at*;have k0:=JB.out.cell 0;have k1:=JB.out.cell 1;simp at k0 k1;go_wp2_with (at_builtin;refine aE _ rfl _ _ 47 rfl w2.heap.size 49 j0 (.agg #[.string empty,.string empty]) 2 32 QZ hj0 hy0 hy1 hy2 rfl dE (.slice (some ⟨g,0,none⟩) (l'+1) c3) (l'+1) (aN cG (fw empty (Q.take i))) rfl (HI.out.own.alloc _) _ _ 1 _ (cG r) rfl ⟨rfl,fun _=>⟨_,rfl,On _,ag _ _ _⟩⟩ (jp _) (by unfold maxLen;omega) oM (ar HI.out.bel.size _) ?_);intro v' w6 hown hgr hat
      have HX:Hid (EG w2 Q (i+1) ((l'+1)+1) v' w6):=by
       have e:fw empty (Q.take (i+1))=fw empty (Q.take i)++[r]:=by
        rw[iQ HR.out]
        exact oc (fun qq hq=>by
         have h0:=HI.out.ln
         have h1:(fw empty (Q.take i))[l']?=some q:=HQQ.out
         rw[h0,Sq,h1] at hq
         obtain rfl:=QB hq
         rintro⟨_,h2⟩
         rw[h2] at hc2
         simp at hc2)
       refine⟨?_,(HI.out.bel.alloc HI.out.bel.size _).grown hgr (ar HI.out.bel.size _) (ak HI.out.own),?_⟩
       ·rw[e,cS];exact hown
       ·rw[e,OK,HI.out.ln];rfl
      clear hown hgr hat k0 k1;go_wp2_with fail;go_roundw
      ·exact⟨i+1,(l'+1)+1,by omega,by go_num,HX.out⟩
      ·exact iO
     ·refine aL kR kR ?_
      repeat(go_big_quiet_step (fail))
      refine Oc ?_;rintro _ ⟨kw,rfl⟩;clear R0 X0;replace JB:=qD (JB.out.step kw.below);replace HI:=qD (HI.out.step kw.below);generalize kw.val=w5 at*;have k1:=JB.out.cell 1;simp at k1;obtain⟨q',hq',hqc,hqf⟩:=HI.out.last;obtain rfl:q=q':=by have:=HQQ.out.symm.trans hq';simpa using this
      clear hq';have H1:=qD hc1;have H2:=qD hc2;go_upto_region 8 with fail
      go_region
      all_goals
       go_wp2_with fail;go_roundw
       case rel=>
        refine⟨i+1,l'+1,by omega,by go_num,?_,?_,?_⟩
        ·have e:fw empty (Q.take (i+1))=(fw empty (Q.take i)).set l' (q.1,r.2):=by
          rw[iQ HR.out];refine so HI.out.ln HQQ.out ?_ ((tc _ _).1 (by simpa using H2.out));intro e;have:=H1.out;rw[e] at this;exact absurd (SZ.2 ((kd _).2 rfl)) (by rw[this];decide)
         rw[e,<-DJ HQQ.out];exact FN HI.out.own _ _
        ·exact(QE (p:=⟨g,l'*2+1,none⟩) HI.out.bel hg _).drew
        ·rw[iQ HR.out,so HI.out.ln HQQ.out (by
          intro e
          have:=H1.out
          rw[e] at this
          exact absurd (SZ.2 ((kd _).2 rfl)) (by rw[this];decide)) ((tc _ _).1 (by simpa using H2.out)),Qm]
         exact HI.out.ln
       case measure=>exact iO
  ·obtain rfl:i=m:=oM
   have hq:Q.take i=Q:=OS (by have:=HQL.out;omega)
   have HF:Hid (SR 2 cG wr A3 l c3 (fw empty Q)):=by
    obtain⟨A',c',he,hs⟩:=SR.Mq fi HI.out.own HI.out.ln;injection he with h1 h2 h3
    subst h1 h3;rw[hq] at hs;exact qD hs
   go_wp2;go_ret;refine⟨A3,l,c3,S.map Prod.fst,rfl,HS.out,?_,?_,?_⟩
   ·rw[<-HQ.out];exact HF.out
   ·have:=HLM.out;have:=HMN.out;have:=HN.out;omega
   ·exact HB2.out.trans (HI.out.bel.mono (OU HBS.out HB2.out.size))
noncomputable def iq(s:ByteArray):Ending:=.returned (.tuple #[.string ((gM s).getD empty),.bool (gM s).isSome])
theorem wm(h:dK s s.size=0):iq s=.returned (.tuple #[.string empty,.bool false]):=by
 unfold iq gM;rw[h];rfl
theorem wu(h:dK s s.size=n+1):iq s=.returned (.tuple #[.string (s.extract 0 n++⟨#[s.data[n]?.getD 0+1]⟩),.bool true]):=by
 unfold iq gM;rw[h];rfl
theorem DL(hm : m < s.size)(h : (s[m]'hm).toNat = 255) : dK s (m + 1) = dK s m := by
 have e:s.data[m]?=some 255:=by
  rw[Qx];exact⟨hm,QM.1 h⟩
 conv=>lhs;unfold dK
 rw[OW e]
theorem FQ(hm : m < s.size)(h : (s[m]'hm).toNat ≠ 255) : dK s (m + 1) = m + 1 := by
 have e:¬s.data[m]?=some 255:=by
  rw[Qx];rintro⟨_,k⟩;exact h (congrArg UInt8.toNat k)
 conv=>lhs;unfold dK
 rw[OQ e]
theorem kC(s:ByteArray)(w:World)(hz:s.size<=aF):Calls prog 109 #[.string s] w fun e w'=>e=iq s/\Bl w w':=by
 have HZ:Hid (s.size<=aF):=qD hz;clear hz;go_enter func109,ntmps109;go_upto_region 2 with fail
 go_loopw [4] (fun v wr=>∃n:Nat,v=.int .i64 n/\n<=s.size/\dK s n=dK s s.size/\wr=w) (fun v _=>match v with | .int _ n=>n.toNat|_=>0)
 ·exact⟨s.size,rfl,qL,rfl,rfl⟩
 case round=>
  obtain⟨n,rfl,hn,hs,rfl⟩:=hrel;have HS:=qD hs;clear hs;cases n with
  | zero=>
   go_wp2;go_ret2;exact⟨(wm (by rw[<-HS.out];rfl)).symm,OG _ _⟩
  | succ m=>
   have HM:Hid (m<s.size):=qD hn;have HW:Hid (wrap64 (m:Int)=(m:Int)):=by have:=HZ.out;unfold aF at this;exact qD (by unfold wrap64;omega)
   obtain ⟨x, hx⟩ : ∃ x : Int, ((s[m]'HM.out).toNat : Int) = x := ⟨_, rfl⟩;by_cases h255:x=255
   ·subst h255;have HX:=qD (DL HM.out oM);have hw:=HW.out;go_wp2_with fail;refine⟨⟨m,by rw[hw],by omega,by rw[<-HX.out];exact HS.out,trivial⟩,?_⟩;rw[hw];show(m:Int).toNat<((m+1:Nat):Int).toNat;omega
   ·have HX:=qD (FQ HM.out oM);have h1:(x==255)=false:=by simpa using h255
    clear h255;have hw:=HW.out;go_wp2_with fail;obtain⟨z,hz⟩:∃z:Int,z=(x+1)%256:=⟨_,rfl⟩
    have hcv:(convert 133 9 (.slice (some ⟨wr.heap.size,0,none⟩) 1 1)).run prog ((wr.alloc (.cells #[.int .u8 ((x+1)%256)] 5)).drew)=.ok (.string (strOfNums [z])) ((wr.alloc (.cells #[.int .u8 ((x+1)%256)] 5)).drew):=by
     rw[<-hz];refine Qz (P:=prog) _ 133 5 Pd QX wr.heap.size 0 1 1 [z] rfl (fun i hi=>?_) 9 PY;obtain rfl:i=0:=oM
     exact(aG.new wr 5 #[.int .u8 z]).drew.cell 0
    obtain⟨Z,hZ⟩:∃Z,Z=strOfNums [z]:=⟨_,rfl⟩;rw[<-hZ] at hcv;have hZs:Z.size=1:=by rw[hZ,Qg];rfl
    have hcat:∀w2:World,(Op.stringOp .add (s.extract 0 m) Z).run prog w2=.ok (.string (s.extract 0 m++Z)) w2:=fun w2=>Pz _ _ _ (by
     have h1:=HZ.out
     have h2:=HM.out
     unfold aF at h1
     rw[hZs,Qp]
     omega)
    clear hZs;have HZ2:=qD hZ;have HZZ:=qD hz;clear hz hZ;have HX1:=qD hx
    go_region
    all_goals
     go_wp2;go_ret2;refine⟨?_,((OG _ _).alloc (qL) _).drew⟩;have hb := (s[m]'HM.out).toNat_lt;have hx1:=HX1.out
     have hat : s.data[m]?.getD 0 = s[m]'HM.out := by
      rw[RH (show m<s.data.size from HM.out)];rfl
     rw[wu (show dK s s.size=m+1 by rw[<-HS.out];exact HX.out),hat,HZ2.out,HZZ.out];have hne:x≠255:=by simpa using h1
     have e : strOfNums [(x + 1) % 256] = ⟨#[s[m]'HM.out + 1]⟩ := by
      apply QO;apply QD.1;rw[RU];simp only[Pp,RM]
      have : UInt8.ofNat ((x + 1) % 256).toNat = s[m]'HM.out + 1 := by
       apply QM.1;rw[Sp,UInt8.toNat_add];have:(1:UInt8).toNat=1:=rfl;rw[this];omega
      rw[this]
     rw[e];rfl
theorem rW:∀l:List Int,bJ (l++[255])=bJ l
 | []=>by simp[bJ]
 | y::r=>by rw[Of,bJ,bJ,rW r]
theorem pT(hx:x≠255):∀l:List Int,bJ (l++[x])=some (l++[x+1])
 | []=>by simp[bJ,hx]
 | y::r=>by rw[Of,bJ,pT hx r];rfl
theorem IG{x:UInt8}(h:s.data[i]?=some x):(eI s)[i]?=some (x.toNat:Int):=by
 unfold eI;rw[OT,PN,h];rfl
def Bb(s:ByteArray):Nat->Option (List Int)
 | 0=>none
 | n+1=>some ((eI s).take n++[((s.data[n]?.getD 0).toNat:Int)+1])
theorem oJ(s:ByteArray):∀n,n<=s.size->bJ ((eI s).take n)=Bb s (dK s n)
 | 0,_=>by simp[bJ,dK,Bb]
 | n+1,h=>by
  obtain ⟨x, hx⟩ : ∃ x, s.data[n]? = some x := ⟨s.data[n]'(by have : s.data.size = s.size := rfl; omega), by rw [Qx]; exact ⟨_, rfl⟩⟩;have hN:=IG hx;have e:(eI s).take (n+1)=(eI s).take n++[(x.toNat:Int)]:=by rw[Pf,hN];rfl
  have ih:=oJ s n oM;unfold dK;by_cases h255:x=255
  ·rw[hx,OW (by rw[h255]),e,h255];exact(rW _).trans ih
  ·have hn:(x.toNat:Int)≠255:=by
    intro k;apply h255;apply QM.1;have:(255:UInt8).toNat=255:=rfl;omega
   rw[hx,OQ (by simpa using h255),e,pT hn];show _=some ((eI s).take n++[((s.data[n]?.getD 0).toNat:Int)+1]);rw[hx];rfl
theorem wv(s:ByteArray):bJ (eI s)=Bb s (dK s s.size):=by
 have:=oJ s s.size (qL)
 rwa [OS (by rw[rH];omega)] at this
theorem zW(s:ByteArray)(n:Nat):strOfNums ((eI s).take n)=s.extract 0 n:=by
 apply QO;apply QD.1;rw[RU,ByteArray.data_extract,Array.toList_extract];have:=congrArg (fun b=>b.data.toList) (fl s);simp only[RU] at this;rw[List.map_take,this,Sv];simp
theorem zX(x:UInt8)(h:x≠255):strOfNums [(x.toNat:Int)+1]=⟨#[x+1]⟩:=by
 have hx:x.toNat+1<256:=by
  have h1:=x.toNat_lt;have:x.toNat≠255:=fun k=>h (QM.1 k);omega
 apply QO;apply QD.1;rw[RU];simp only[Pp,RM]
 have:UInt8.ofNat ((x.toNat:Int)+1).toNat=x+1:=by
  apply QM.1;rw[Sp,UInt8.toNat_add];have:(1:UInt8).toNat=1:=rfl;rw[this];congr 1
 rw[this]
theorem ww:∀{n m:Nat},dK s n=m+1->s.data[m]?≠some 255
 | 0,m,h=>by simp[dK] at h
 | n+1,m,h=>by
  unfold dK at h;split at h
  ·exact ww h
  ·rename_i k
   obtain rfl:n=m:=oM
   exact k
theorem td(s:ByteArray):gM s=(bJ (eI s)).map strOfNums:=by
 rw[wv];unfold gM;cases h:dK s s.size with
 | zero=>rfl
 | succ n=>
  have hle:=tT s s.size;have hat:=ww h;obtain ⟨x, hx⟩ : ∃ x, s.data[n]? = some x := ⟨s.data[n]'(by have : s.data.size = s.size := rfl; omega), by rw [Qx]; exact ⟨_, rfl⟩⟩;unfold Bb;simp only[hx,Qe,Ps,PU];rw[oq,zW,zX x fun k=>hat (by rw[hx,k])]
theorem FR(p:PI)(S1 S2 T1 T2 KL KH:ByteArray)(w:World)(hT:cZ w)(hp:qd w p)(h1:gY [p.1.1.2]=(S1,0))(h2:gY [p.1.2.2]=(S2,0))(hlo:((p.1.1.1.k==1)=true/\p.2.1=true/\KL=empty)\/((p.1.1.1.k==1)=false/\p.2.1=true/\KL=S1)\/((p.1.1.1.k==1)=true/\p.2.1=false/\KL=T1)\/((p.1.1.1.k==1)=false/\p.2.1=false/\KL=T1))(hhi:((p.1.2.1.k==11)=true/\p.2.2=true/\KH=empty)\/((p.1.2.1.k==11)=false/\p.2.2=true/\KH=T2)\/((p.1.2.1.k==11)=true/\p.2.2=false/\KH=S2)\/((p.1.2.1.k==11)=false/\p.2.2=false/\KH=S2))(hA1:∀w,Calls prog 109 #[.string S1] w (Rt w (.tuple #[.string T1,.bool true])))(hA2:∀w,Calls prog 109 #[.string S2] w (Rt w (.tuple #[.string T2,.bool true]))):
  Calls prog 40 #[jY p,.bool false] w (Rt w (.tuple #[.agg #[.string KL,.string KH],.bool true])):=by
  obtain⟨⟨⟨c1,x1⟩,⟨c2,x2⟩⟩,⟨f1,f2⟩⟩:=p;have R1:Hid (RW w c1 x1):=hp.1;have R2:Hid (RW w c2 x2):=hp.2;have HT:=qD hT;have HA1:=qD hA1;have HA2:=qD hA2;have HK1:Hid (gY [x1]=(S1,0)):=h1;have HK2:Hid (gY [x2]=(S2,0)):=h2;have HLO:=qD hlo;have HHI:=qD hhi;clear hp hT hA1 hA2 h1 h2 hlo hhi
  have hcode1:Hid (∀wr,Bl w wr->Calls prog 91 #[c1.val] wr (Rt wr (.tuple #[.string S1,.int .i64 0]))):=qD fun wr hb=>by
   have:=jk x1 c1 wr (HT.out.step hb) (R1.out.step hb);rw[HK1.out] at this;exact this
  have hcode2:Hid (∀wr,Bl w wr->Calls prog 91 #[c2.val] wr (Rt wr (.tuple #[.string S2,.int .i64 0]))):=qD fun wr hb=>by
   have:=jk x2 c2 wr (HT.out.step hb) (R2.out.step hb);rw[HK2.out] at this;exact this
  go_enter func40,ntmps40;go_upto_region 1 with fail
  refine yS (ae (((c1,x1),(c2,x2)),(f1,f2))) 85 (#[.string empty,.string empty]) 49 ?_;intro wa B0 B1 BE;obtain⟨⟨a0,a1,a2,a3,a4⟩,⟨b0,b1,b2,b3,b4⟩,b5,b6⟩:=jE.Mn B0.out;simp only[OX] at a0 a1 a2 a3 a4 b0 b1 b2 b3 b4 b5 b6;go_wp2_with fail;refine(hcode1.out _ BE.out).mono ?_;rintro e w1 ⟨rfl,hb⟩;replace B0:=qD (B0.out.step hb);replace B1:=qD (B1.out.step hb);replace BE:=qD (BE.out.Ml hb);clear hb a0 a1 a2 a3 a4 b0 b1 b2 b3 b4 b5 b6 hcode1;obtain⟨⟨a0,a1,a2,a3,a4⟩,⟨b0,b1,b2,b3,b4⟩,b5,b6⟩:=jE.Mn B0.out;simp only[OX] at a0 a1 a2 a3 a4 b0 b1 b2 b3 b4 b5 b6;go_wp2_with fail;refine(hcode2.out _ BE.out).mono ?_;rintro e w2 ⟨rfl,hb⟩;replace B0:=qD (B0.out.step hb);replace B1:=qD (B1.out.step hb);replace BE:=qD (BE.out.Ml hb);clear hb a0 a1 a2 a3 a4 b0 b1 b2 b3 b4 b5 b6 hcode2;obtain⟨⟨a0,a1,a2,a3,a4⟩,⟨b0,b1,b2,b3,b4⟩,b5,b6⟩:=jE.Mn B0.out;simp only[OX] at a0 a1 a2 a3 a4 b0 b1 b2 b3 b4 b5 b6;have r0:=B1.out.cell 0;have r1:=B1.out.cell 1;have rz:=B1.out.frozen;simp at r0 r1;rcases HLO.out with⟨kb1,rfl,rfl⟩|⟨kb1,rfl,rfl⟩|⟨kb1,rfl,rfl⟩|⟨kb1,rfl,rfl⟩
  all_goals
   (try simp only at kb1)
   clear HLO;rcases HHI.out with⟨kb2,rfl,rfl⟩|⟨kb2,rfl,rfl⟩|⟨kb2,rfl,rfl⟩|⟨kb2,rfl,rfl⟩
   all_goals
    (try simp only at kb2)
    clear HHI;go_wp2_with (go_at_call 109;(first|with_reducible refine(HA1.out _).mono ?_|with_reducible refine(HA2.out _).mono ?_);rintro e w3 ⟨rfl,hb⟩;replace B0:=qD (B0.out.step hb);replace B1:=qD (B1.out.step hb);replace BE:=qD (BE.out.Ml hb);clear hb a0 a1 a2 a3 a4 b0 b1 b2 b3 b4 b5 b6 r0 r1 rz;obtain⟨⟨a0,a1,a2,a3,a4⟩,⟨b0,b1,b2,b3,b4⟩,b5,b6⟩:=jE.Mn B0.out;simp only[OX] at a0 a1 a2 a3 a4 b0 b1 b2 b3 b4 b5 b6;have r0:=B1.out.cell 0;have r1:=B1.out.cell 1;have rz:=B1.out.frozen;simp at r0 r1);refine OO (fK rfl _ _ _ rfl _ rfl _ _ _ (((B1.out.Mo 0 _).Mo 1 _).cell 0 |>.trans rfl) (((B1.out.Mo 0 _).Mo 1 _).cell 1 |>.trans rfl)) rfl ⟨rfl,(BE.out.setCell (by show w.heap.size<=w.heap.size+1;omega) _).setCell (by show w.heap.size<=w.heap.size+1;omega) _⟩
theorem wy{x y:aC}(h:x.k=y.k)(hk:x.k=1\/x.k=11):aZ x y=0:=by
 rw[iH,OQ (fun k=>k h),OQ oM,OQ oM,OQ oM,OQ oM]
theorem FS{x:aC}(h:aJ x=true)(hk:x.k=1):x=im:=
 congrArg Prod.fst (dF.eq (x,false) (im,false) h ol ((fj (wy (by rw[hk];rfl) (.inl hk))).trans rfl))
theorem FT{x:aC}(h:aJ x=true)(hk:x.k=11):x=iP:=
 congrArg Prod.fst (dF.eq (x,false) (iP,false) h om ((fj (wy (by rw[hk];rfl) (.inr hk))).trans rfl))
theorem FU{l:List Int}(h:fN l):eI (strOfNums l)=l:=qW h
theorem lk{l t:List Int}(h:fN l)(ht:bJ l=some t):iq (strOfNums l)=.returned (.tuple #[.string (strOfNums t),.bool true]):=by
 unfold iq;rw[td,FU h,ht];rfl
theorem II(p:PI)(s:cx×cx)(w:World)(hT:cZ w)(hp:qd w p)(hs:dg p=fa s)(v1:VO s.1)(v2:VO s.2):
 Calls prog 40 #[jY p,.bool false] w (Rt w (.tuple #[.agg #[.string (fY s).1,.string (fY s).2],.bool true])):=by
 obtain⟨⟨x1,i1⟩,⟨x2,i2⟩⟩:=s;obtain⟨⟨⟨c1,y1⟩,⟨c2,y2⟩⟩,⟨f1,f2⟩⟩:=p;simp only[dg,fa,Iv.mk.injEq] at hs;obtain⟨rfl,rfl,rfl,rfl⟩:=hs;obtain⟨t1,ht1⟩:=v1.after;obtain⟨t2,ht2⟩:=v2.after;have k1:c1.k=y1.k:=hp.1.open.k;have k2:c2.k=y2.k:=hp.2.open.k
 have z1:(strOfNums (bR y1)).size<=aF:=by
  have:=(jx (kQ v1.1)).2;rw[Qg];unfold aF;simp only at this;omega
 have z2:(strOfNums (bR y2)).size<=aF:=by
  have:=(jx (kQ v2.1)).2;rw[Qg];unfold aF;simp only at this;omega
 refine FR (((c1,y1),(c2,y2)),(!i1,f2)) (strOfNums (bR y1)) (strOfNums (bR y2)) (strOfNums t1) (strOfNums t2) _ _ w hT hp (iL (kQ v1.1)) (iL (kQ v2.1)) ?_ ?_ (fun w=>?_) (fun w=>?_)
 ·simp only;rw[k1];show _\/_;by_cases hk:y1.k=1
  ·have hb:(y1.k==1)=true:=by simpa using hk
   cases i1
   ·refine .inl ⟨hb,rfl,?_⟩;show ii (y1,false)=_;have e:=FS (x:=y1) v1.1 hk;rw[e];exact OW rfl
   ·refine .inr (.inr (.inl ⟨hb,rfl,?_⟩));show ii (y1,true)=_;unfold ii;rw[OQ sM];unfold dy;rw[OW rfl,ht1];rfl
  ·have hb:(y1.k==1)=false:=by simpa using hk
   cases i1
   ·refine .inr (.inl ⟨hb,rfl,?_⟩);show ii (y1,false)=_;unfold ii;rw[OQ (by intro e;simp only[Sd,Qw] at e;rw[e] at hk;exact hk rfl)];rfl
   ·refine .inr (.inr (.inr ⟨hb,rfl,?_⟩));show ii (y1,true)=_;unfold ii;rw[OQ sM];unfold dy;rw[OW rfl,ht1];rfl
 ·simp only;rw[k2];by_cases hk:y2.k=11
  ·have hb:(y2.k==11)=true:=by simpa using hk
   cases f2
   ·refine .inr (.inr (.inl ⟨hb,rfl,?_⟩));show iC (y2,false)=_;unfold iC;rw[OQ sM];rfl
   ·refine .inl ⟨hb,rfl,?_⟩;show iC (y2,true)=_;have e:=FT (x:=y2) v2.1 hk;rw[e];exact OW rfl
  ·have hb:(y2.k==11)=false:=by simpa using hk
   cases f2
   ·refine .inr (.inr (.inr ⟨hb,rfl,?_⟩));show iC (y2,false)=_;unfold iC;rw[OQ sM];rfl
   ·refine .inr (.inl ⟨hb,rfl,?_⟩);show iC (y2,true)=_;unfold iC;rw[OQ (by intro e;simp only[Sd,Qw] at e;rw[e] at hk;exact hk rfl)];unfold dy;rw[OW rfl,ht2];rfl
 ·have:=kC (strOfNums (bR y1)) w z1;rw[lk v1.rng ht1] at this;exact this
 ·have:=kC (strOfNums (bR y2)) w z2;rw[lk v2.rng ht2] at this;exact this
theorem DM(x:aC):bR (ie x)=gg (cL x):=by
 rw[dG];rfl
theorem zY(x:aC)(c:VC)(w:World)(hT:cZ w)(h:RW w c x):
 Calls prog 108 #[c.val] w (Rt w (.tuple #[.string (strOfNums (gg (cL x))),.int .i64 0])):=by
 have H:=qD h;have HT:=qD hT;clear h hT;obtain⟨hv,hhv⟩:∃hv,hv=cL x:=⟨_,rfl⟩;rw[<-hhv];have HHV:=qD hhv;clear hhv;go_enter func108,ntmps108;go_upto_region 1 with fail
 refine ml c.arr 29 ?_;intro wa B0 BE;obtain⟨q0,q1,q2,q3,q4⟩:=aO.Mp B0.out;have K1:=qD (nz x c wa (HT.out.step BE.out) (H.out.step BE.out));rw[<-HHV.out] at K1
 have K2:Hid (∀wr,Bl w wr->Calls prog 91 #[.agg #[.int .i64 3,.int .i64 hv,.string empty,.slice none 0 0,.slice none 0 0]] wr (Rt wr (.tuple #[.string (strOfNums (gg hv)),.int .i64 0]))):=qD fun wr hb=>by
  have:=jk (ie x) (Kt x) wr (HT.out.step hb) (EV x);rw[iL (kQ (JS x)),DM] at this;rw[HHV.out];exact this
 go_wp2_with fail;refine K1.out.mono ?_;rintro e w1 ⟨rfl,hb⟩;replace BE:=qD (BE.out.Ml hb);clear hb q0 q1 q2 q3 q4;go_wp2_with fail;refine(K2.out _ BE.out).mono ?_;rintro e w2 ⟨rfl,hb⟩;replace BE:=qD (BE.out.Ml hb);clear hb;go_wp2;go_ret2;exact⟨rfl,BE.out⟩
theorem DN(p:PI)(w:World)(hT:cZ w)(hp:qd w p):
 Calls prog 40 #[jY p,.bool true] w (Rt w (.tuple #[.agg #[.string (kS (cL p.1.1.2)).1,.string (kS (cL p.1.1.2)).2],.bool true])):=by
 obtain⟨⟨⟨c1,x1⟩,⟨c2,x2⟩⟩,⟨f1,f2⟩⟩:=p;have R1:Hid (RW w c1 x1):=hp.1;have HT:=qD hT;clear hp hT;obtain⟨t,ht⟩:=qb (cL x1);have hK:Hid (kS (cL x1)=(strOfNums (gg (cL x1)),strOfNums t)):=by unfold Hid kS;rw[ht];rfl
 have hA:Hid (∀w,Calls prog 109 #[.string (strOfNums (gg (cL x1)))] w (Rt w (.tuple #[.string (strOfNums t),.bool true]))):=qD fun w=>by
  have:=kC (strOfNums (gg (cL x1))) w (by rw[Qg];unfold aF gg;simp[nums,nJ]);rw[lk (qa _) ht] at this;exact this
 have hH:=qD fun(wr:World) (hb:Bl w wr)=>zY x1 c1 wr (HT.out.step hb) (R1.out.step hb);clear ht;simp only;rw[hK.out];obtain⟨S1,hS1⟩:∃S,S=strOfNums (gg (cL x1)):=⟨_,rfl⟩;obtain⟨T1,hT1⟩:∃S,S=strOfNums t:=⟨_,rfl⟩;rw[<-hS1] at hH hA ⊢;rw[<-hT1] at hA ⊢;clear hS1 hT1 hK;go_enter func40,ntmps40;go_upto_region 1 with fail
 refine yS (ae (((c1,x1),(c2,x2)),(f1,f2))) 85 (#[.string empty,.string empty]) 49 ?_;intro wa B0 B1 BE;obtain⟨⟨a0,a1,a2,a3,a4⟩,_,_,_⟩:=jE.Mn B0.out;simp only[OX] at a0 a1 a2 a3 a4;go_wp2_with fail;refine(hH.out _ BE.out).mono ?_;rintro e w1 ⟨rfl,hb⟩;replace B1:=qD (B1.out.step hb);replace BE:=qD (BE.out.Ml hb);clear hb a0 a1 a2 a3 a4 hH B0;go_wp2_with fail;refine(hA.out _).mono ?_;rintro e w2 ⟨rfl,hb⟩;replace B1:=qD (B1.out.step hb);replace BE:=qD (BE.out.Ml hb);clear hb hA;have r0:=B1.out.cell 0;have r1:=B1.out.cell 1;have rz:=B1.out.frozen;simp at r0 r1;go_wp2_with fail;refine OO (fK rfl _ _ _ rfl _ rfl _ _ _ (((B1.out.Mo 0 _).Mo 1 _).cell 0 |>.trans rfl) (((B1.out.Mo 0 _).Mo 1 _).cell 1 |>.trans rfl)) rfl ⟨rfl,(BE.out.setCell (by show w.heap.size<=w.heap.size+1;omega) _).setCell (by show w.heap.size<=w.heap.size+1;omega) _⟩
theorem dD{n:Int}{arg:aC}{args:List aC}{r:List Iv×Bool}(h:eA op arg args n=some r):eR op arg args n=(fun a=>ei aq a (aV r.1),r.2):=by unfold eR;rw[h]
theorem dp{n:Int}{arg:aC}{args:List aC}(h:eA op arg args n=none):eR op arg args n=(fe,false):=by unfold eR;rw[h]
theorem xB{n:Int}{arg:aC}{args:List aC}(h:arg.k≠6):eA 2 arg args n=some ([eZ arg],decide (arg.k≠2)):=by
 unfold eA;rw[OW rfl,OQ h]
theorem te{n:Int}{arg:aC}{args:List aC}(h:arg.k=6):eA 2 arg args n=none:=by
 unfold eA;rw[OW rfl,OW h]
theorem tf{n:Int}{arg:aC}{args:List aC}(ho:op=4\/op=5\/op=6\/op=7)(h:arg.k≠6):eA op arg args n=some ([pm op arg],decide (arg.k≠2)):=by
 unfold eA;rw[OQ oM,OW ho,OQ h]
theorem rX{n:Int}{arg:aC}{args:List aC}(ho:op=4\/op=5\/op=6\/op=7)(h:arg.k=6):eA op arg args n=none:=by
 unfold eA;rw[OQ oM,OW ho,OW h]
theorem xC{n:Int}{arg:aC}{args:List aC}(h:¬∃x∈args,x.k=6):eA 8 arg args n=some (args.map eZ,decide (¬∃x∈args,x.k=2)):=by
 unfold eA;rw[OQ oM,OQ oM,OW rfl,OQ h]
theorem tg{n:Int}{arg:aC}{args:List aC}(h:∃x∈args,x.k=6):eA 8 arg args n=none:=by
 unfold eA;rw[OQ oM,OQ oM,OW rfl,OW h]
theorem mc{n:Int}{arg:aC}{args:List aC}:eA 16 arg args n=some ([(nI arg).1],(nI arg).2):=by
 unfold eA;rw[OQ oM,OQ oM,OQ oM,OW rfl]
theorem rZ{n:Int}{arg:aC}{args:List aC}(h:n≠6):eA 11 arg args n=some ([bA n],decide (n≠2)):=by
 unfold eA;rw[OQ oM,OQ oM,OQ oM,OQ oM,OW rfl,OQ h]
theorem pU{arg:aC}{args:List aC}:eA 11 arg args 6=none:=by
 unfold eA;rw[OQ oM,OQ oM,OQ oM,OQ oM,OW rfl,OW rfl]
theorem pV{n:Int}{arg:aC}{args:List aC}(h:op≠2/\op≠4/\op≠5/\op≠6/\op≠7/\op≠8/\op≠16/\op≠11):eA op arg args n=none:=by
 unfold eA;rw[OQ oM,OQ oM,OQ oM,OQ oM,OQ oM]
theorem zZ{k:Int}(h:k=3\/k=10):bA k=⟨cF k,.mk k 9223372036854775807 empty [] [],true,true⟩:=OW h
theorem xD:bA 9=⟨cF 9,.mk 9 1 empty [] [],true,true⟩:=by
 unfold bA;rw[OQ oM,OW rfl]
theorem xE{k:Int}(h:k=4\/k=5\/k=6\/k=7\/k=8):bA k=⟨cF k,cF (k+1),true,false⟩:=by
 unfold bA;rw[OQ oM,OQ oM,OW h]
theorem za{k:Int}(h:k=1\/k=2\/k=11):bA k=⟨cF k,cF k,true,true⟩:=by
 unfold bA;rw[OQ oM,OQ oM,OQ oM]
abbrev bO(k n:Int)(t:ByteArray):VC:=⟨k,n,t,none,0,0,none,0,0⟩
theorem qF(w:World)(k n:Int){t:ByteArray}(h:t.size<=aF):RW w (bO k n t) (.mk k n t [] []):=
 pw.shut ⟨rfl,rfl,rfl,h,rfl,qL,by show 0*80<=aF;decide,fun h=>absurd h (by show ¬0<0;omega),rfl,qL,by show 0*96<=aF;decide,fun h=>absurd h (by show ¬0<0;omega)⟩
theorem ra(k:Int):∃n t,cF k=.mk k n t [] []/\t.size<=12:=by
 unfold cF jZ;split
 ·exact⟨_,_,rfl,by decide⟩
 ·split
  ·exact⟨_,_,rfl,by decide⟩
  ·exact⟨_,_,rfl,by decide⟩
end
end Go.Proofs.YtgfoliedmhgpnaaGreatDoor
