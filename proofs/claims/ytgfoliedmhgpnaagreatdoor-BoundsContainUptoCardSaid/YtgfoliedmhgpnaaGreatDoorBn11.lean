/- A part of the proof. -/
import Derived.Test.YtgfoliedmhgpnaaGreatDoorBn10
import Derived.Lib.ValidLaws
set_option maxRecDepth 100000
set_option maxHeartbeats 16000000
set_option linter.unusedSimpArgs false
open Go.Proofs.Tryz
open ByteArray (empty)
namespace Go.RowKit
section
variable {size:Nat} {a:Int} {w w':World} {v:Value}
theorem Below.kc{w w':World}(hb:Below w.heap.size w w'){a:Addr}{v:Value}(h:w.cell? a=some v):w'.cell? a=some v:=(hb.cell (KY w a h)).trans h
end
end Go.RowKit
namespace Go.Proofs.YtgfoliedmhgpnaaGreatDoor
open Go.RowKit
section
variable {B size:Nat} {w w':World}
def Hf(l:List Iv)(w:World)(e:Ending)(w':World):Prop:=
 ∃(A:Option Addr) (m c:Nat) (ys:List PI),e=.returned (.slice A m c)/\ys.map cB=l/\SI w' A m c ys/\Below w.heap.size w w'
def Fr(B:Nat)(w:World)(p:PI):Prop:=RV (fun b=>B<=b) w p.1.1.1 p.1.1.2/\RV (fun b=>B<=b) w p.1.2.1 p.1.2.2
theorem Fr.step{B:Nat}{w w':World}{p:PI}(h:Fr B w p)(hb:Below w.heap.size w w'):Fr B w' p:=⟨h.1.step hb,h.2.step hb⟩
theorem Fr.low{B B':Nat}{w:World}{p:PI}(h:Fr B w p)(hb:B'<=B):Fr B' w p:=⟨h.1.mono fun _ k=>KM hb k,h.2.mono fun _ k=>KM hb k⟩
def IQ(l:List Iv)(w:World)(e:Ending)(w':World):Prop:=
 ∃(A:Option Addr) (m c:Nat) (ys:List PI),e=.returned (.slice A m c)/\ys.map cB=l/\SI w' A m c ys/\Below w.heap.size w w'/\∀y∈ys,Fr w.heap.size w' y
def Hg(B:Nat)(v:Value)(w:World)(p:PI):Prop:=RV (fun b=>B<=b/\v.ownBlock≠some b) w p.1.1.1 p.1.1.2/\RV (fun b=>B<=b/\v.ownBlock≠some b) w p.1.2.1 p.1.2.2
end
structure Eu(w:World)(xs:List PS)(i:Nat)(v:Value)(ys:List PI)(wr:World):Prop where
 own:wr.ownsRow w.heap.size 85 12 v i (aO iz ys)
 eq:ys.map cB=(xs.take i).map fun x=>fG (ai x)
 el:∀y∈ys,Hg w.heap.size v wr y
 bel:Below w.heap.size w wr
section
variable {l xs ys:List ByteArray} {c k i o n q size S:Nat} {a x:Int} {w w' wr w4:World} {A:Option Addr} {e:TypeId} {v v':Value}
theorem Eu.step{w:World}{xs:List PS}{i:Nat}{v:Value}{ys:List PI}{wr w':World}(h:Eu w xs i v ys wr)(hb:Below wr.heap.size wr w'):Eu w xs i v ys w':=
 ⟨bJ h.own hb,h.eq,fun y hy=>⟨(h.el y hy).1.step hb,(h.el y hy).2.step hb⟩,h.bel.Ih hb⟩
theorem Eu.next{w:World}{xs:List PS}{i:Nat}{v v':Value}{ys:List PI}{w4 w5:World}{o:Obj}{p:PS}{q:PI}(h:Eu w xs i v ys w4)(hp:xs[i]?=some p)(hq:cB q=fG (ai p))(hel:Hg w.heap.size v w4 q)(hg:(w4.alloc o).grownBy w5 v.ownBlock)(hat:v'.ownBlock=v.ownBlock\/v'.ownBlock=some (w4.alloc o).heap.size)(ho:w5.ownsRow w.heap.size 85 12 v' (i+1) (aO iz ys++iz q)):Eu w xs (i+1) v' (ys++[q]) w5:=by
 refine⟨by rw[cw];exact ho,?_,fun y hy=>?_,(h.bel.alloc h.bel.size o).grown hg (by have:=h.bel.size;simp;omega) (bF h.own)⟩
 ·rw[take_snoc' hp,Ke,Ke,h.eq,Lb,Lb,hq]
 ·have hy':Hg w.heap.size v w4 y:=by
   rcases KI.1 hy with hy|hy
   ·exact h.el y hy
   ·simp at hy;subst hy;exact hel
  exact⟨jC hy'.1 hg hat,jC hy'.2 hg hat⟩
theorem cg{a:Nat}{w:World}(h:a<=w.heap.size)(o:Obj):a<=(w.alloc o).heap.size:=by simp;omega
theorem IS(p:PS)(ca cb:VC):cB (((ca,p.1.1.2),(cb,p.2.1.2)),(!p.1.2,p.2.2))=fG (ai p):=rfl
theorem gx(xs:List PS)(A:Option Addr)(n c:Nat)(w:World)(h:SS w A n c xs)(hn:n<=1000000000):
 Calls prog 134 #[.slice A n c] w (IQ (xs.map fun x=>fG (ai x)) w):=by
 obtain⟨j0,hj0,hy0,hy1,hy2⟩:=LM lL;have H:=qD h;have HL:=qD h.sr.ln;clear h;go_enter func134,ntmps134;go_wp2_with fail
 go_loopw [3,8] (fun v3 v8 wr=>∃(i:Nat) (ys:List PI),i<=n/\v8=.int .i64 i/\Eu w xs i v3 ys wr) (fun _ v8 _=>n-(intOf v8).toNat)
 ·exact⟨0,[],KD _,rfl,⟨bX _ _ _ _,rfl,by simp,Ju _ _⟩⟩
 case round=>
  obtain⟨i,ys,hi,rfl,I⟩:=hrel;have J:=qD I;by_cases hlt:i<n
  ·obtain⟨p,hp⟩:∃p,xs[i]?=some p:=⟨_,Jv (by have:=HL.out;omega)⟩;obtain⟨b,off,rfl,hbl,hat,hok⟩:=H.out.at hp;have HP:=qD hp;have HPk:=qD hok;have hbr:b<wr.heap.size:=by have:=I.bel.size;omega
   obtain⟨⟨⟨p0,p1,p2,p3,p4⟩,p5⟩,⟨⟨q0,q1,q2,q3,q4⟩,q5⟩⟩:=hat.keep (I.bel.block b hbl);clear hp hat hok I hbl;go_upto_region 5 with fail
   have hs3:u3.ownBlock≠some wr.heap.size:=fun e=>absurd (fH J.out.own e) (by omega);have KJ:=J.out.step ((Ju wr.heap.size wr).alloc (qL) (Obj.cells (fp p) 167));have KB:aG (wr.alloc (.cells (fp p) 167)) wr.heap.size 167 (fp p):=aG.Ii rfl;change (Code.region 5 _ _).wp _ _ _ (wr.alloc (.cells (fp p) 167));generalize wr.alloc (.cells (fp p) 167)=wa at*;generalize wr.heap.size=ga at*;have JA:=qD KJ;have JB:=qD KB;clear p0 p1 p2 p3 p4 p5 q0 q1 q2 q3 q4 q5 J KJ KB hbr;obtain⟨⟨⟨p0,p1,p2,p3,p4⟩,p5⟩,⟨⟨q0,q1,q2,q3,q4⟩,q5⟩⟩:=qG.Ig JB.out;have B:=qD ((Ju wa.heap.size wa).drewN 1);have RP:=qD (HPk.out.step JA.out.bel);have KS:Hid (∀w',Below wa.heap.size wa w'->w'.cell? ⟨ga,0,none⟩=some (.int .i64 p.1.1.1.k)/\w'.cell? ⟨ga,1,none⟩=some (.int .i64 p.1.1.1.n)/\w'.cell? ⟨ga,2,none⟩=some (.string p.1.1.1.t)/\w'.cell? ⟨ga,3,none⟩=some (.slice p.1.1.1.LA p.1.1.1.ln p.1.1.1.lc)/\w'.cell? ⟨ga,4,none⟩=some (.slice p.1.1.1.DA p.1.1.1.dn p.1.1.1.dc)/\w'.cell? ⟨ga,5,none⟩=some (.bool p.1.2)/\w'.cell? ⟨ga,6,none⟩=some (.int .i64 p.2.1.1.k)/\w'.cell? ⟨ga,7,none⟩=some (.int .i64 p.2.1.1.n)/\w'.cell? ⟨ga,8,none⟩=some (.string p.2.1.1.t)/\w'.cell? ⟨ga,9,none⟩=some (.slice p.2.1.1.LA p.2.1.1.ln p.2.1.1.lc)/\w'.cell? ⟨ga,10,none⟩=some (.slice p.2.1.1.DA p.2.1.1.dn p.2.1.1.dc)/\w'.cell? ⟨ga,11,none⟩=some (.bool p.2.2)):=qD fun w' hb=>⟨hb.kc p0,hb.kc p1,hb.kc p2,hb.kc p3,hb.kc p4,hb.kc p5,hb.kc q0,hb.kc q1,hb.kc q2,hb.kc q3,hb.kc q4,hb.kc q5⟩;have F1:Hid (i+1<=maxLen):=by unfold Hid maxLen;omega
   have F2:Hid ((i+1)*168<=140737488355328):=by unfold Hid;omega
   have KG:Hid (∀w' w'' o,Below wa.heap.size wa w'->(w'.alloc o).grownBy w'' u3.ownBlock->w''.cell? ⟨ga,0,none⟩=some (.int .i64 p.1.1.1.k)/\w''.cell? ⟨ga,1,none⟩=some (.int .i64 p.1.1.1.n)/\w''.cell? ⟨ga,2,none⟩=some (.string p.1.1.1.t)/\w''.cell? ⟨ga,3,none⟩=some (.slice p.1.1.1.LA p.1.1.1.ln p.1.1.1.lc)/\w''.cell? ⟨ga,4,none⟩=some (.slice p.1.1.1.DA p.1.1.1.dn p.1.1.1.dc)/\w''.cell? ⟨ga,5,none⟩=some (.bool p.1.2)/\w''.cell? ⟨ga,6,none⟩=some (.int .i64 p.2.1.1.k)/\w''.cell? ⟨ga,7,none⟩=some (.int .i64 p.2.1.1.n)/\w''.cell? ⟨ga,8,none⟩=some (.string p.2.1.1.t)/\w''.cell? ⟨ga,9,none⟩=some (.slice p.2.1.1.LA p.2.1.1.ln p.2.1.1.lc)/\w''.cell? ⟨ga,10,none⟩=some (.slice p.2.1.1.DA p.2.1.1.dn p.2.1.1.dc)/\w''.cell? ⟨ga,11,none⟩=some (.bool p.2.2)):=qD fun w' w'' o hb hg=>⟨eF hg (hb.kc p0) hs3,eF hg (hb.kc p1) hs3,eF hg (hb.kc p2) hs3,eF hg (hb.kc p3) hs3,eF hg (hb.kc p4) hs3,eF hg (hb.kc p5) hs3,eF hg (hb.kc q0) hs3,eF hg (hb.kc q1) hs3,eF hg (hb.kc q2) hs3,eF hg (hb.kc q3) hs3,eF hg (hb.kc q4) hs3,eF hg (hb.kc q5) hs3⟩;clear p0 p1 p2 p3 p4 p5 q0 q1 q2 q3 q4 q5;have tok1:True:=trivial
   go_region_held3 (fun w'=>w'.cell? ⟨ga,0,none⟩=some (.int .i64 p.1.1.1.k)/\w'.cell? ⟨ga,1,none⟩=some (.int .i64 p.1.1.1.n)/\w'.cell? ⟨ga,2,none⟩=some (.string p.1.1.1.t)/\w'.cell? ⟨ga,3,none⟩=some (.slice p.1.1.1.LA p.1.1.1.ln p.1.1.1.lc)/\w'.cell? ⟨ga,4,none⟩=some (.slice p.1.1.1.DA p.1.1.1.dn p.1.1.1.dc)/\w'.cell? ⟨ga,5,none⟩=some (.bool p.1.2)/\w'.cell? ⟨ga,6,none⟩=some (.int .i64 p.2.1.1.k)/\w'.cell? ⟨ga,7,none⟩=some (.int .i64 p.2.1.1.n)/\w'.cell? ⟨ga,8,none⟩=some (.string p.2.1.1.t)/\w'.cell? ⟨ga,9,none⟩=some (.slice p.2.1.1.LA p.2.1.1.ln p.2.1.1.lc)/\w'.cell? ⟨ga,10,none⟩=some (.slice p.2.1.1.DA p.2.1.1.dn p.2.1.1.dc)/\w'.cell? ⟨ga,11,none⟩=some (.bool p.2.2))
    (first|exact KS.out _ B.out|exact KS.out _ (B.out.alloc B.out.size _)|((try dsimp only);assumption)|go_keep)
    (first
      | (refine bW _ rfl (.tmp 12) (.tmp 29) 63 rfl w.heap.size 85 j0 (jf (((VC.zero,aC.zero),(VC.zero,aC.zero)),(false,false))) 12 168 underlying63 hj0 hy0 hy1 hy2 rfl (by decide) u3 i (aO iz ys) (by simp[Act.eval]) ((bJ JA.out.own B.out).alloc _) (w4.heap.size+1) (some ⟨w4.heap.size,0,none⟩) 1 1 (iz (((ca,p.1.1.2),(cb,p.2.1.2)),(!p.1.2,p.2.2))) (by simp[Act.eval]) ⟨rfl,fun _=>⟨_,rfl,Km _,ao _ _ _⟩⟩ (vT _) F1.out F2.out (cg (JA.out.step B.out).bel.size _) ?_;intro v' w5 hown hgr hat;have hs:=KG.out _ _ _ B.out hgr)
      | (go_at_call 187;have _t:=tok1;refine(tc p.1.1.2 p.1.1.1 _ (RP.out.1.step B.out)).mono ?_;rintro e3 w3 ⟨ca,rfl,hra,hb⟩;replace B:=qD (B.out.Ih hb);have RA:=qD hra;have B3:=B;clear hb hra tok1 _t)
      | (go_at_call 187;refine(tc p.2.1.2 p.2.1.1 _ (RP.out.2.step B.out)).mono ?_;rintro e3 w4 ⟨cb,rfl,hrb,hb⟩;replace RA:=qD (RA.out.step hb);replace B:=qD (B.out.Ih hb);have RB:=qD hrb;clear hb hrb))
   all_goals
    have HI:=qD ((JA.out.step B.out).next HP.out (IS p ca cb) ⟨RA.out.mono fun q hq=>⟨by have:=JA.out.bel.size;have hq':wa.heap.size<=q:=hq;omega,fun e=>by have:=fH JA.out.own e;have hq':wa.heap.size<=q:=hq;omega⟩,RB.out.mono fun q hq=>⟨by have:=JA.out.bel.size;have:=B3.out.size;omega,fun e=>by have:=fH (bJ JA.out.own B3.out) e;omega⟩⟩ hgr hat hown);clear hown hgr hat KS KG hs hs3 JA JB RP RA RB B B3;go_wp2_with fail;go_roundw
    ·exact⟨i+1,_,by omega,by go_num,HI.out⟩
    ·simp[intOf];omega
  ·clear I;go_wp2_with fail;go_ret;have hyl:ys.length=i:=by have:=congrArg List.length J.out.eq;have:=HL.out;simp only[KX,LI] at*;omega
   obtain⟨A',c',e,hs⟩:=SI.Ik J.out.own hyl (by unfold aH;omega) (fun y hy=>⟨(J.out.el y hy).1.mono fun _ _=>trivial,(J.out.el y hy).2.mono fun _ _=>trivial⟩);exact⟨A',_,c',ys,by rw[<-e];rfl,by rw[J.out.eq,KL (by have:=HL.out;omega)],hs,J.out.bel,fun y hy=>⟨(J.out.el y hy).1.mono fun _ h=>h.1,(J.out.el y hy).2.mono fun _ h=>h.1⟩⟩
theorem qI(xs:List PS)(A:Option Addr)(n c:Nat)(w:World)(h:SS w A n c xs)(hn:n<=1000000000):
 Calls prog 134 #[.slice A n c] w (Hf (xs.map fun x=>fG (ai x)) w):=
 (gx xs A n c w h hn).mono fun _ _ ⟨A,m,c,ys,h1,h2,h3,h4,_⟩=>⟨A,m,c,ys,h1,h2,h3,h4⟩
def oY(S:cy->Prop)(k:Nat)(w:World)(e:Ending)(w':World):Prop:=
 ∃(A:Option Addr) (m c:Nat) (ys:List PI) (n:List (cy×cy)),e=.returned (.slice A m c)/\ys.map cB=n.map fG/\gd S n/\m<=k/\SI w' A m c ys/\Below w.heap.size w w'
def td(S:cy->Prop)(k:Nat)(w:World)(e:Ending)(w':World):Prop:=
 ∃(A:Option Addr) (m c:Nat) (ys:List PI) (n:List (cy×cy)),e=.returned (.slice A m c)/\ys.map cB=n.map fG/\gd S n/\m<=k/\SI w' A m c ys/\Below w.heap.size w w'/\∀y∈ys,Fr w.heap.size w' y
theorem td.ok{S:cy->Prop}{k:Nat}{w:World}{e:Ending}{w':World}(h:td S k w e w'):oY S k w e w':=by
 obtain⟨A,m,c,ys,n,h1,h2,h3,h4,h5,h6,_⟩:=h;exact⟨A,m,c,ys,n,h1,h2,h3,h4,h5,h6⟩
theorem sN{is:List PI}{xs:List PS}(h:xs.map ai=aU (is.map cB)):∀x∈xs,aZ (ai x).1 (ai x).2<0/\je (ai x).1/\je (ai x).2:=by
 intro x hx;have:ai x∈aU (is.map cB):=by rw[<-h];exact Ko hx
 exact rW _ this
theorem dj(is:List PI)(A:Option Addr)(n c:Nat)(w:World)(hT:cY w)(h:SI w A n c is)(hn:n<=1000000000):
 Calls prog 70 #[.slice A n c] w (td (fun a=>ch aZ a (aU (is.map cB))) n w):=by
 have HT:=qD hT;have H:=qD h;have HL:=qD h.sr.ln;clear hT h;go_enter func70,ntmps70;go_wp2_with fail;refine(nW is A n c _ HT.out H.out hn).mono ?_;rintro e w1 ⟨A1,m1,c1,xs,rfl,hxs,_,hm1,hss,hb1⟩;have HX:=qD hxs;have HS1:=qD hss;have HX1:=qD hss.sr.ln;have HB1:=qD hb1;have HM1:Hid (m1<=n):=by have:=HL.out;unfold Hid;omega
 have hm1n:m1<=1000000000:=by have:=HM1.out;omega
 clear hxs hss hb1 hm1;go_wp2_with fail;refine(jY xs A1 m1 c1 _ HS1.out hm1n).mono ?_;rintro e w2 ⟨A2,m2,c2,ys,rfl,⟨S,hS,hys⟩,_,_,hss2,hm2,hb2⟩;have HY:=qD (hS.merge (sN HX.out));rw[<-hys] at HY;have HS2:=qD hss2;have HB2:=qD (HB1.out.Ih hb2);have HM2:Hid (m2<=n):=by have:=HM1.out;have:=HX1.out;unfold Hid;omega
 have hm2n:m2<=1000000000:=by have:=HM2.out;omega
 have HY2:=qD hss2.sr.ln;clear hS hys hss2 hm2 hb2;go_wp2_with fail;refine(gx ys A2 m2 c2 _ HS2.out hm2n).mono ?_;rintro e w3 ⟨A3,m3,c3,zs,rfl,hzs,hsi,hb3,hfr⟩;have HFR:=qD hfr;have HZ:=qD hzs;have HS3:=qD hsi;have HB3:=qD (HB2.out.Ih hb3);have HZ3:=qD hsi.sr.ln;clear hzs hsi hb3 hfr;go_wp2_with fail;go_ret;refine⟨A3,m3,c3,zs,ys.map ai,rfl,by rw[HZ.out,Mq];rfl,?_,?_,HS3.out,HB3.out,fun y hy=>⟨(HFR.out y hy).1.mono fun _ h=>KM HB2.out.size h,(HFR.out y hy).2.mono fun _ h=>KM HB2.out.size h⟩⟩
 ·have:=HY.out.1;rw[HX.out] at this;exact this
 ·have h1:=congrArg List.length HZ.out;simp only[KX] at h1;have:=HZ3.out;have:=HY2.out;have:=HM2.out;omega
noncomputable def qJ(l:List Iv)(v:aC):Bool:=@decide (aL v=true/\ch aZ (v,false) (aU l)) (Classical.propDecidable _)
theorem qi{l:List Iv}{v:aC}(h1:aL v=true)(h2:ch aZ (v,false) (aU l)):qJ l v=true:=by unfold qJ;exact @Jy _ (Classical.propDecidable _) ⟨h1,h2⟩
theorem oZ{l:List Iv}{v:aC}(h:¬(aL v=true/\ch aZ (v,false) (aU l))):qJ l v=false:=by unfold qJ;exact @KQ _ (Classical.propDecidable _) h
theorem Au{l:List Iv}{v:aC}:qJ l v=true↔(aL v=true/\ch aZ (v,false) (aU l)):=by unfold qJ;exact @Lw _ (Classical.propDecidable _)
end
structure Gz(w:World)(c:VC)(w2 wr:World):Prop where
 b0:aG wr w.heap.size 29 c.arr
 bel:Below w2.heap.size w2 wr
section
variable {c size:Nat} {w w' wr w2:World}
theorem Gz.step{w w2 wr w':World}{c:VC}(h:Gz w c w2 wr)(hb:Below wr.heap.size wr w'):Gz w c w2 w':=⟨h.b0.step hb,h.bel.Ih hb⟩
def GM(p:PV):PS:=((p,false),(p,true))
end
structure DX(w:World)(ps:List PV)(i:Nat)(v:Value)(xs:List PS)(wr:World):Prop where
 own:wr.ownsRow w.heap.size 167 12 v xs.length (aO cr xs)
 eq:xs.map ai=aU ((ps.take i).map fun p=>ei p.2)
 le:xs.length<=i
 ok:∀x∈xs,rz w x
 bel:Below w.heap.size w wr
section
variable {r xs:List ByteArray} {b c k i g n off m lo q size:Nat} {a:Int} {s:ByteArray} {w w' wr:World} {A:Option Addr} {F:Nat -> Prop} {v v':Value}
theorem DX.step{w:World}{ps:List PV}{i:Nat}{v:Value}{xs:List PS}{wr w':World}(h:DX w ps i v xs wr)(hb:Below wr.heap.size wr w'):DX w ps i v xs w':=⟨bJ h.own hb,h.eq,h.le,h.ok,h.bel.Ih hb⟩
theorem DX.skip{w:World}{ps:List PV}{i:Nat}{v:Value}{xs:List PS}{wr:World}{p:PV}(h:DX w ps i v xs wr)(hp:ps[i]?=some p)(hn:aL p.2=false):DX w ps (i+1) v xs wr:=by
 refine⟨h.own,?_,by have:=h.le;omega,h.ok,h.bel⟩;rw[take_snoc' hp,Ke,Lb,gG,Ca,hn];exact h.eq
theorem DX.next{w:World}{ps:List PV}{i m:Nat}{v v':Value}{xs:List PS}{wr w':World}{p:PV}(h:DX w ps i v xs wr)(hp:ps[i]?=some p)(hn:aL p.2=true)(hok:RW w p.1 p.2)(hg:wr.grownBy w' v.ownBlock)(hm:m=xs.length+1)(ho:w'.ownsRow w.heap.size 167 12 v' m (aO cr xs++cr (GM p))):DX w ps (i+1) v' (xs++[GM p]) w':=by
 subst hm;refine⟨?_,?_,by have:=h.le;simp;omega,fun x hx=>?_,h.bel.grown hg h.bel.size (bF h.own)⟩
 ·rw[cw,KV];exact ho
 ·have e:aU ((ps.take (i+1)).map fun p=>ei p.2)=aU ((ps.take i).map fun p=>ei p.2)++[(ei p.2).sp]:=by
   rw[take_snoc' hp,Ke,Lb,gG,Ca,hn];rfl
  rw[e,Ke,h.eq];rfl
 ·rcases KI.1 hx with hx|hx
  ·exact h.ok x hx
  ·simp at hx;subst hx;exact⟨hok,hok⟩
theorem nZ(ps:List PV)(A:Option Addr)(n c:Nat)(w:World)(hT:cY w)(h:SL (fun _=>True) w A n c ps)(hn:n<=1000000000):
 Calls prog 68 #[.slice A n c] w (td (fun a=>ch aZ a (aU (ps.map fun p=>ei p.2))) n w):=by
 obtain⟨j0,hj0,hy0,hy1,hy2⟩:=LM jB;have HT:=qD hT;have H:=qD h;have HL:=qD h.sr.ln;clear hT h;go_enter func68,ntmps68;go_wp2_with fail
 go_loopw [3,8] (fun v3 v8 wr=>∃(i:Nat) (xs:List PS),i<=n/\v8=.int .i64 i/\DX w ps i v3 xs wr) (fun _ v8 _=>n-(intOf v8).toNat)
 ·exact⟨0,[],KD _,rfl,⟨bX _ _ _ _,rfl,qL,by simp,Ju _ _⟩⟩
 case round=>
  obtain⟨i,xs,hi,rfl,I⟩:=hrel;have J:=qD I;by_cases hlt:i<n
  ·obtain⟨p,hp⟩:∃p,ps[i]?=some p:=⟨_,Jv (by have:=HL.out;omega)⟩;obtain⟨b,off,rfl,_,hu,hr⟩:=H.out.Iq hp;have HP:=qD hp;have HR:=qD hr;have hbr:b<wr.heap.size:=by have:=hu.lt;have:=I.bel.size;omega
   have hle:=I.le;obtain⟨y0,y1,y2,y3,y4⟩:=hu.keep (I.bel.block b hu.lt);clear hp hu hr I;go_upto_region 5 with fail
   have KJ:=J.out.step ((Ju wr.heap.size wr).alloc (qL) (Obj.cells p.1.arr 29));have KB:aG (wr.alloc (.cells p.1.arr 29)) wr.heap.size 29 p.1.arr:=aG.Ii rfl;change (Code.region 5 _ _).wp _ _ _ (wr.alloc (.cells p.1.arr 29));generalize wr.alloc (.cells p.1.arr 29)=wa at*;generalize wr.heap.size=ga at*;have JA:=qD KJ;have JB:=qD KB;clear y0 y1 y2 y3 y4 J KJ KB hbr;obtain⟨a0,a1,a2,a3,a4⟩:=aS.Ig JB.out;go_wp2_with fail;refine(iy p.2 p.1 _ (HT.out.step JA.out.bel) (HR.out.step JA.out.bel)).mono ?_;rintro e w3 ⟨rfl,hb3⟩;have J3:=qD (JA.out.step hb3);have K3:=qD (JB.out.step hb3);clear hb3 a0 a1 a2 a3 a4 JA JB;cases hv:aL p.2
   ·have HI:=qD (J3.out.skip HP.out hv);clear hv;go_wp2_with fail;go_roundw
    ·exact⟨i+1,xs,by omega,by go_num,HI.out⟩
    ·simp[intOf];omega
   ·have HVp:=qD hv;clear hv;obtain⟨a0,a1,a2,a3,a4⟩:=aS.Ig K3.out;have hlo:w.heap.size<=w3.heap.size:=J3.out.bel.size;have LK:=qD (J3.out.step ((Ju w3.heap.size w3).alloc (qL) (Obj.cells (fp (GM p)) 167)));go_wp2_with (at_builtin;refine aJ _ rfl _ _ 163 rfl w.heap.size 167 j0 (tQ (((VC.zero,aC.zero),false),((VC.zero,aC.zero),false))) 12 176 Lx hj0 hy0 hy1 hy2 rfl (by decide) u3 xs.length (aO cr xs) rfl LK.out.own _ _ 1 _ (cr (GM p)) rfl ⟨rfl,fun _=>⟨_,rfl,Km _,ao _ _ _⟩⟩ (jA _) (by unfold maxLen;omega) (by omega) (cg hlo _) ?_);intro v' w4 hown hg _;have HI:=qD (LK.out.next HP.out HVp.out HR.out hg rfl hown);clear hown hg a0 a1 a2 a3 a4;go_wp2_with fail;go_roundw
    ·exact⟨i+1,xs++[GM p],by omega,by go_num,HI.out⟩
    ·simp[intOf];omega
  ·obtain⟨A1,c1,rfl,hs⟩:=SS.Ik J.out.own rfl (by have:=J.out.le;unfold aH;omega) (fun x hx=>(J.out.ok x hx).step J.out.bel);have hle:=I.le;have HX:Hid (xs.map ai=aU (ps.map fun p=>ei p.2)):=by rw[Hid,J.out.eq,KL (by have:=HL.out;omega)]
   have hne:∀x∈xs,aZ (ai x).1 (ai x).2<0/\je (ai x).1/\je (ai x).2:=fun x hx=>rW _ (by rw[<-HX.out];exact Ko hx);have HNe:=qD hne;have HS1:=qD hs;have HB1:=qD J.out.bel;obtain⟨m1,hm1⟩:∃m,m=xs.length:=⟨_,rfl⟩;rw[<-hm1] at HS1 hle ⊢;have HM1:=qD hm1;clear I J hs hne hm1;go_wp2_with fail;refine(jY xs A1 m1 c1 _ HS1.out (by omega)).mono ?_;rintro e w2 ⟨A2,m2,c2,ys,rfl,⟨S,hS,hys⟩,_,_,hss2,hm2,hb2⟩;have HY:=qD (hS.merge HNe.out);rw[<-hys] at HY;have HS2:=qD hss2;have HB2:=qD (HB1.out.Ih hb2);have HY2:=qD hss2.sr.ln;have HM2:Hid (m2<=n):=by have:=HM1.out;unfold Hid;omega
   have hm2n:m2<=1000000000:=by have:=HM2.out;omega
   clear hS hys hss2 hm2 hb2;go_wp2_with fail;refine(gx ys A2 m2 c2 _ HS2.out hm2n).mono ?_;rintro e w3 ⟨A3,m3,c3,zs,rfl,hzs,hsi,hb3,hfr⟩;have HFR:=qD hfr;have HZ:=qD hzs;have HS3:=qD hsi;have HB3:=qD (HB2.out.Ih hb3);have HZ3:=qD hsi.sr.ln;clear hzs hsi hb3 hfr;go_wp2_with fail;go_ret;refine⟨A3,m3,c3,zs,ys.map ai,rfl,by rw[HZ.out,Mq];rfl,?_,?_,HS3.out,HB3.out,fun y hy=>⟨(HFR.out y hy).1.mono fun _ h=>KM HB2.out.size h,(HFR.out y hy).2.mono fun _ h=>KM HB2.out.size h⟩⟩
   ·have:=HY.out.1;rw[HX.out] at this;exact this
   ·have h1:=congrArg List.length HZ.out;simp only[KX] at h1;have:=HZ3.out;have:=HY2.out;have:=HM2.out;omega
def Ev:VC:=⟨1,0,empty,none,0,0,none,0,0⟩
def Ew:VC:=⟨11,0,empty,none,0,0,none,0,0⟩
theorem Ex{F:Nat->Prop}{w:World}:RV F w Ev gZ:=sK.shut ⟨rfl,rfl,rfl,by decide,rfl,qL,by decide,fun h=>absurd h (by decide),rfl,qL,by decide,fun h=>absurd h (by decide)⟩
theorem Ey{F:Nat->Prop}{w:World}:RV F w Ew gE:=sK.shut ⟨rfl,rfl,rfl,by decide,rfl,qL,by decide,fun h=>absurd h (by decide),rfl,qL,by decide,fun h=>absurd h (by decide)⟩
theorem Ez(w:World):RW w Ev gZ:=sK.shut ⟨rfl,rfl,rfl,by decide,rfl,qL,by decide,fun h=>absurd h (by decide),rfl,qL,by decide,fun h=>absurd h (by decide)⟩
theorem FC(w:World):RW w Ew gE:=sK.shut ⟨rfl,rfl,rfl,by decide,rfl,qL,by decide,fun h=>absurd h (by decide),rfl,qL,by decide,fun h=>absurd h (by decide)⟩
def GN:PI:=(((Ev,gZ),(Ew,gE)),(true,true))
theorem jq{w:World}{g:Nat}{p:PI}(h:aG w g 85 (aa p))(hok:qe w p):SI w (some ⟨g,0,none⟩) 1 1 [p]:=by
 refine⟨⟨rfl,qL,fun _=>⟨g,0,rfl,h.lt,fun i a hi j v hj=>?_⟩⟩,by decide,fun x hx=>by simp at hx;subst hx;exact hok⟩;cases i with
 | zero=>
  simp at hi;subst hi;rw[show 0+0*12+j=j by omega,h.cell,<-Kx];exact hj
 | succ i=>simp at hi
theorem eW(w:World):Calls prog 67 #[] w (td (fun a=>ch aZ a (aU [nw])) 1 w):=by
 go_enter func67,ntmps67;go_wp2_with fail;go_ret
 exact⟨_,1,1,[GN],_,rfl,rfl,nQ,qL,jq (aG.Ii rfl) ⟨Ez _,FC _⟩,(Ju _ _).alloc (qL) _,fun y hy=>by
  obtain rfl:y=GN:=by simpa using hy
  exact⟨Ex,Ey⟩⟩
theorem Dc(w:World):Calls prog 67 #[] w (oY (fun a=>ch aZ a (aU [nw])) 1 w):=(eW w).mono fun _ _ h=>h.ok
theorem Av{α:Type}{cm:α->α->Int}{c:List (α×α)}{u:α×α}(h:cm u.1 u.2<0):oN cm c u=c++[u]:=Kb h
theorem Aw{α:Type}{cm:α->α->Int}{c:List (α×α)}{u:α×α}(h:¬cm u.1 u.2<0):oN cm c u=c:=KU h
section
variable {ec:PC} {w w2:World} {n:List (cy×cy)} {i:Nat} {v:Value} {cs:List PS} {fc:PC} {wr w':World}
theorem zE{w:World}{b off:Nat}{q:PC}{g:Nat}(h:g≠b):(qA w b off q).heap[g]?=w.heap[g]?:=by
 unfold qA;rw[Ku _ _ _ _ h,bO h]
end
def eG(b:UInt8):Bool:=decide (128<=b.toNat)&&decide (b.toNat<=191)
def bM(l:List UInt8)(n:Nat):Bool:=decide (n<=l.length)&&(l.take n).all eG
theorem Hh(r:List UInt8)(lo hi:Nat)(hlo:128<=lo)(hhi:hi<=191):
 (match Lib.checkN (r.length+1) (r.getD 0 0).toNat (r.getD 1 0).toNat (r.getD 2 0).toNat 2 lo hi with|none=>false|some k=>Lib.validD (r.drop (k-1)))=(bM r 1&&(decide (lo<=(r.getD 0 0).toNat)&&decide ((r.getD 0 0).toNat<=hi))&&Lib.validD (r.drop 1)):=by
 match r with
 | []=>simp[Lib.checkN,bM]
 | a::r=>
  by_cases c1:lo<=a.toNat
  ·by_cases c2:a.toNat<=hi
   ·have c3:128<=a.toNat:=by omega
    have c4:a.toNat<=191:=by omega
    have e:¬(a.toNat<lo\/hi<a.toNat):=by omega
    have e2:¬(r.length+1+1<2):=by omega
    simp[Lib.checkN,bM,eG,c1,c2,c3,c4,e,e2]
   ·have e:a.toNat<lo\/hi<a.toNat:=by omega
    simp[Lib.checkN,bM,c2,e]
  ·have e:a.toNat<lo\/hi<a.toNat:=by omega
   simp[Lib.checkN,bM,c1,e]
theorem Hi(r:List UInt8)(lo hi:Nat)(hlo:128<=lo)(hhi:hi<=191):
 (match Lib.checkN (r.length+1) (r.getD 0 0).toNat (r.getD 1 0).toNat (r.getD 2 0).toNat 3 lo hi with|none=>false|some k=>Lib.validD (r.drop (k-1)))=(bM r 2&&(decide (lo<=(r.getD 0 0).toNat)&&decide ((r.getD 0 0).toNat<=hi))&&Lib.validD (r.drop 2)):=by
 match r with
 | []=>simp[Lib.checkN,bM]
 | [a]=>simp[Lib.checkN,bM]
 | a::a2::r=>
  cases hc:eG a2
  ·have e:a.toNat<lo\/hi<a.toNat\/a2.toNat<128\/191<a2.toNat:=by
    unfold eG at hc;simp at hc;omega
   simp[Lib.checkN,bM,hc,e]
  ·have h2:128<=a2.toNat/\a2.toNat<=191:=by unfold eG at hc;simpa using hc
   by_cases c1:lo<=a.toNat
   ·by_cases c2:a.toNat<=hi
    ·have c3:eG a=true:=by unfold eG;simp;omega
     have e:¬(a.toNat<lo\/hi<a.toNat\/a2.toNat<128\/191<a2.toNat):=by omega
     have e2:¬(r.length+1+1+1<3):=by omega
     simp[Lib.checkN,bM,c1,c2,c3,hc,e,e2]
    ·have e:a.toNat<lo\/hi<a.toNat\/a2.toNat<128\/191<a2.toNat:=by omega
     simp[Lib.checkN,bM,c2,e]
   ·have e:a.toNat<lo\/hi<a.toNat\/a2.toNat<128\/191<a2.toNat:=by omega
    simp[Lib.checkN,bM,c1,e]
theorem Hj(r:List UInt8)(lo hi:Nat)(hlo:128<=lo)(hhi:hi<=191):
 (match Lib.checkN (r.length+1) (r.getD 0 0).toNat (r.getD 1 0).toNat (r.getD 2 0).toNat 4 lo hi with|none=>false|some k=>Lib.validD (r.drop (k-1)))=(bM r 3&&(decide (lo<=(r.getD 0 0).toNat)&&decide ((r.getD 0 0).toNat<=hi))&&Lib.validD (r.drop 3)):=by
 match r with
 | []=>simp[Lib.checkN,bM]
 | [a]=>simp[Lib.checkN,bM]
 | [a,a2]=>simp[Lib.checkN,bM]
 | a::a2::a3::r=>
  cases hc:eG a2
  ·have e:a.toNat<lo\/hi<a.toNat\/a2.toNat<128\/191<a2.toNat\/a3.toNat<128\/191<a3.toNat:=by
    unfold eG at hc;simp at hc;omega
   simp[Lib.checkN,bM,hc,e]
  ·have h2:128<=a2.toNat/\a2.toNat<=191:=by unfold eG at hc;simpa using hc
   cases hd:eG a3
   ·have e:a.toNat<lo\/hi<a.toNat\/a2.toNat<128\/191<a2.toNat\/a3.toNat<128\/191<a3.toNat:=by
     unfold eG at hd;simp at hd;omega
    simp[Lib.checkN,bM,hd,e]
   ·have h3:128<=a3.toNat/\a3.toNat<=191:=by unfold eG at hd;simpa using hd
    by_cases c1:lo<=a.toNat
    ·by_cases c2:a.toNat<=hi
     ·have c3:eG a=true:=by unfold eG;simp;omega
      have e:¬(a.toNat<lo\/hi<a.toNat\/a2.toNat<128\/191<a2.toNat\/a3.toNat<128\/191<a3.toNat):=by omega
      have e2:¬(r.length+1+1+1+1<4):=by omega
      simp[Lib.checkN,bM,c1,c2,c3,hc,hd,e,e2]
     ·have e:a.toNat<lo\/hi<a.toNat\/a2.toNat<128\/191<a2.toNat\/a3.toNat<128\/191<a3.toNat:=by omega
      simp[Lib.checkN,bM,c2,e]
    ·have e:a.toNat<lo\/hi<a.toNat\/a2.toNat<128\/191<a2.toNat\/a3.toNat<128\/191<a3.toNat:=by omega
     simp[Lib.checkN,bM,c1,e]
theorem ep{b:UInt8}{r:List UInt8}(n lo hi:Nat)(hn:1<=n)(hn3:n<=3)(h0:128<=b.toNat)(hlo:128<=lo)(hhi:hi<=191)(h1:Lib.firstT b.toNat%8=n+1)(h2:Lib.accLo (Lib.firstT b.toNat/16)=lo)(h3:Lib.accHi (Lib.firstT b.toNat/16)=hi):
 Lib.validD (b::r)=(bM r n&&(decide (lo<=(r.getD 0 0).toNat)&&decide ((r.getD 0 0).toNat<=hi))&&Lib.validD (r.drop n)):=by
 rw[Lib.validD_lead (b::r) (by simp) (by simpa using h0)];have e0:((b::r).getD 0 0).toNat=b.toNat:=by simp
 have e1:((b::r).getD 1 0)=r.getD 0 0:=by simp
 have e2:((b::r).getD 2 0)=r.getD 1 0:=by simp
 have e3:((b::r).getD 3 0)=r.getD 2 0:=by simp
 rw[e0,h1,h2,h3,e1,e2,e3,Ks]
 have key:∀o:Option Nat,(∀k,o=some k->1<=k)->(match o with|none=>false|some k=>Lib.validD ((b::r).drop k))=(match o with|none=>false|some k=>Lib.validD (r.drop (k-1))):=by
  intro o ho;cases o with
  | none=>rfl
  | some k=>
   have:=ho k rfl;obtain⟨m,rfl⟩:∃m,k=m+1:=⟨k-1,by omega⟩;simp
 refine(key _ ?_).trans ?_
 ·intro k hk;unfold Lib.checkN at hk
  repeat' split at hk
  all_goals first|(cases hk;done)|(injection hk with hk;omega)
 obtain rfl|rfl|rfl:n=1\/n=2\/n=3:=by omega
 ·exact Hh r lo hi hlo hhi
 ·exact Hi r lo hi hlo hhi
 ·exact Hj r lo hi hlo hhi
theorem Ax{b:UInt8}{r:List UInt8}(h:128<=b.toNat/\b.toNat<194\/244<b.toNat):Lib.validD (b::r)=false:=by
 have h0:128<=b.toNat:=by omega
 have hb:=b.toNat_lt;rw[Lib.validD_lead (b::r) (by simp) (by simpa using h0)];have e0:((b::r).getD 0 0).toNat=b.toNat:=by simp
 have e1:Lib.firstT b.toNat%8=1:=by
  unfold Lib.firstT
  repeat' split
  all_goals first|rfl|(exfalso;omega)
 rw[e0,e1];simp[Lib.checkN]
theorem eH{s:ByteArray}{i n lo hi:Nat}(hn:1<=n)(h:bM (s.data.toList.drop (i+1)) n=true)(HV:bt s=(bM (s.data.toList.drop (i+1)) n&&(decide (lo<=((s.data.toList.drop (i+1)).getD 0 0).toNat)&&decide (((s.data.toList.drop (i+1)).getD 0 0).toNat<=hi))&&Lib.validD ((s.data.toList.drop (i+1)).drop n))):
 i+1+n<=s.size/\∃hx:i+1<s.size,(128<=s[i+1].toNat/\s[i+1].toNat<=191)/\bt s=(decide (lo<=s[i+1].toNat)&&decide (s[i+1].toNat<=hi)&&Lib.validD (s.data.toList.drop (i+n+1))):=by
 have h0:=h;unfold bM at h;simp only[Kz,MD,Mg,NG,LX] at h;have hz:s.data.size=s.size:=rfl;have hsz:i+1+n<=s.size:=by omega
 have hx:i+1<s.size:=by omega
 have e1:(s.data.toList.drop (i+1))[0]?=some s[i+1]:=by rw[MQ];exact kD s (i+1) hx
 have e2:(s.data.toList.drop (i+1)).getD 0 0=s[i+1]:=by rw[OE,e1];rfl
 refine⟨hsz,hx,?_,?_⟩
 ·have:=h.2 s[i+1] (Jx (i:=0) (by rw[MR,Kb (by omega)];exact e1));unfold eG at this;simpa using this
 ·rw[HV,h0,e2,List.drop_drop,show i+1+n=i+n+1 by omega];rfl
end
end Go.Proofs.YtgfoliedmhgpnaaGreatDoor
