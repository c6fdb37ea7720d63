/- A part of the proof. -/
import Derived.Test.YtgfoliedmhgpnaaGreatDoorCn20
set_option maxRecDepth 100000
set_option maxHeartbeats 16000000
open Go.Proofs.Tryz
open ByteArray (empty)
namespace Go.Proofs.YtgfoliedmhgpnaaGreatDoor
open Go.RowKit
section
variable {k c size S:Nat} {w w':World} {e:TypeId} {a x:Int} {l:List ByteArray} {s:ByteArray} {A:Option Addr} {ha:Bool}
abbrev Fk(op:Int)(PA:Option Addr)(pn pc:Nat)(a:VC):Array Value:=#[.int .i64 op,.slice PA pn pc,.int .i64 a.k,.int .i64 a.n,.string a.t,.slice a.LA a.ln a.lc,.slice a.DA a.dn a.dc,.slice none 0 0,.int .i64 0,.int .i64 0,.int .i64 0,.slice none 0 0,.int .i64 0,.int .i64 0,.slice none 0 0,.string empty,.slice none 0 0,.int .i64 0,.int .i64 0,.string empty,.slice none 0 0,.slice none 0 0,.int .i64 0,.slice none 0 0,.slice none 0 0]
abbrev LO(op:Int)(PA:Option Addr)(pn pc:Nat)(a:VC):Value:=.agg (Fk op PA pn pc a)
theorem LP{x:aC}(h:aJ x=true):jw (fun a=>ei aq a (aV [eZ x])) [((x,false),(x,true))]:=by
 have hne:(eZ x).ne=true:=by rw[Ez];exact h
 have e:aV [eZ x]=[((x,false),(x,true))]:=by unfold aV;rw[SB hne];rfl
 refine⟨⟨fun s hs=>?_,by simp⟩,fun a=>by rw[e]⟩;rw[<-e] at hs;exact mX s hs
def JH(q:Iv)(b:Bool)(w:World)(e:Ending)(w':World):Prop:=
 ∃(A:Option Addr) (c:Nat) (p:PI),e=.returned (.tuple #[.slice A 1 c,.bool b])/\dg p=q/\SI w' A 1 c [p]/\Bl w w'
theorem Fl{S:cx->Prop}{s:cx×cx}{e:Ending}(h:uj S k w e w')(hs:jw S [s]):
 ∃(A:Option Addr) (c:Nat) (p:PI),e=.returned (.slice A 1 c)/\dg p=fa s/\SI w' A 1 c [p]/\Bl w w':=by
 obtain⟨A,m,c,ys,n,he,hy,hn,_,hsi,hb⟩:=h;have hn':=hn.unique hs fun a _=>Iff.rfl;subst hn';have hl:=congrArg List.length hy;simp only[Oe,OZ,QN] at hl;obtain⟨p,rfl⟩:=QY.1 hl;have hm:=hsi.sr.ln;simp only[OZ,QN] at hm;subst hm;refine⟨A,c,p,he,?_,hsi,hb⟩;simpa using hy
theorem LQ(x:aC)(a:VC)(PA QA:Option Addr)(pn pc qn qc:Nat)(l:List ByteArray)(w:World)(hT:cZ w)(ha:RW w a x)(hx:aJ x=true)(h6:a.k≠6)(h2:a.k≠2)(hp:ST w PA pn pc l)(hq:ST w QA qn qc l)(hs:bK l l=true):
 Calls prog 22 #[LO 2 PA pn pc a,.slice QA qn qc] w (JH (eZ x) true w):=by
 have HT:=qD hT;have HX:=qD ha;have HV:=qD hx;have HE:=qD (eu l l PA QA pn pc qn qc);rw[hs] at HE;have HP:=qD hp;have HQ:=qD hq;have k6:(a.k != 6)=true:=by simpa using h6
 have k2:(a.k != 2)=true:=by simpa using h2
 clear hT ha hx hp hq hs h6 h2;go_enter RN,Qq;go_upto_region 1 with fail
 refine ml (Fk 2 PA pn pc a) 38 ?_;intro wa B0 BE;have p0:=B0.out.cell 0;have p1:=B0.out.cell 1;have p2:=B0.out.cell 2;have p3:=B0.out.cell 3;have p4:=B0.out.cell 4;have p5:=B0.out.cell 5;have p6:=B0.out.cell 6;simp at p0 p1 p2 p3 p4 p5 p6;go_wp2_with fail;refine(HE.out wa (HP.out.step BE.out) (HQ.out.step BE.out)).mono ?_;rintro e w1 ⟨rfl,hb⟩;have C0:=qD (B0.out.step hb);have CE:=qD (BE.out.Ml hb);clear hb B0 BE HE HP HQ p0 p1 p2 p3 p4 p5 p6;have p0:=C0.out.cell 0;have p1:=C0.out.cell 1;have p2:=C0.out.cell 2;have p3:=C0.out.cell 3;have p4:=C0.out.cell 4;have p5:=C0.out.cell 5;have p6:=C0.out.cell 6;simp at p0 p1 p2 p3 p4 p5 p6;go_upto_region 11 with fail
 have B:=qD ((OG w1.heap.size w1).drewN 1);have KS:Hid (∀w',Bl w1 w'->w'.cell? ⟨w.heap.size,2,none⟩=some (.int .i64 a.k)/\w'.cell? ⟨w.heap.size,3,none⟩=some (.int .i64 a.n)/\w'.cell? ⟨w.heap.size,4,none⟩=some (.string a.t)/\w'.cell? ⟨w.heap.size,5,none⟩=some (.slice a.LA a.ln a.lc)/\w'.cell? ⟨w.heap.size,6,none⟩=some (.slice a.DA a.dn a.dc)):=qD fun w' hb=>⟨(hb.cell (p:=⟨w.heap.size,2,none⟩) C0.out.lt).trans p2,(hb.cell (p:=⟨w.heap.size,3,none⟩) C0.out.lt).trans p3,(hb.cell (p:=⟨w.heap.size,4,none⟩) C0.out.lt).trans p4,(hb.cell (p:=⟨w.heap.size,5,none⟩) C0.out.lt).trans p5,(hb.cell (p:=⟨w.heap.size,6,none⟩) C0.out.lt).trans p6⟩;clear p0 p1 p2 p3 p4 p5 p6
 go_region_held3 (fun w'=>w'.cell? ⟨w.heap.size,2,none⟩=some (.int .i64 a.k)/\w'.cell? ⟨w.heap.size,3,none⟩=some (.int .i64 a.n)/\w'.cell? ⟨w.heap.size,4,none⟩=some (.string a.t)/\w'.cell? ⟨w.heap.size,5,none⟩=some (.slice a.LA a.ln a.lc)/\w'.cell? ⟨w.heap.size,6,none⟩=some (.slice a.DA a.dn a.dc))
  (first|exact KS.out _ B.out|exact KS.out _ (B.out.alloc B.out.size _)|((try dsimp only);assumption)|go_keep)
  ((go_at_call 68;refine(zU [(a,x)] _ 1 1 _ (HT.out.step (CE.out.Ml (B.out.alloc B.out.size _))) (yp (aG.Mm rfl) (HX.out.step (CE.out.Ml (B.out.alloc B.out.size _)))) oM).mono ?_;rintro e3 w3 hno;obtain⟨A3,c3,p3,rfl,hp3,hsi,hb⟩:=Fl hno (LP HV.out);replace B:=qD ((B.out.alloc B.out.size _).Ml hb);have HS3:=qD hsi;have HP3:=qD hp3;clear hb hsi hp3 hno))
 all_goals
  go_wp2;go_ret2;exact⟨A3,c3,p3,rfl,HP3.out,HS3.out,CE.out.Ml B.out⟩
end
end Go.Proofs.YtgfoliedmhgpnaaGreatDoor
