/- Parts of the proof, joined: ChOpenA, EncOpen, PrOpen, RtTgtLaw. -/
import Derived.Test.YthfahkaadbdicaaGreatDoorRt1
import Derived.Test.YthfahkaadbdicaaGreatDoorRt9
import Derived.Test.YthfahkaadbdicaaGreatDoorRt12
import Derived.Test.YthfahkaadbdicaaGreatDoorRt27
import Derived.Test.YthfahkaadbdicaaGreatDoorRt2
import Derived.Test.YthfahkaadbdicaaGreatDoorRows
import Derived.Test.YthfahkaadbdicaaGreatDoorRt30
import Derived.Test.YthfahkaadbdicaaGreatDoorRt4
import Derived.Test.YthfahkaadbdicaaGreatDoorCards
import Derived.Test.YthfahkaadbdicaaGreatDoorTie
import Derived.Laws.OwnMore
import Derived.Lib.LaidIn
import Derived.Lib.LaidU8T
import Derived.PinnedBridge
import Derived.Deep.DeepHandedRow
import Derived.Deep.DeepWitnessRowRef
import Derived.ProofKit
import Derived.SizedLaws
import Derived.OpenShut
import Derived.ShutString
import Derived.ChangeOld
import Derived.Below
import Derived.SevenTiedAt
set_option maxRecDepth 100000
set_option maxHeartbeats 16000000
set_option linter.unusedSimpArgs false
open Go.Proofs.Tryz
open ByteArray (empty)
namespace Go.Proofs.YthfahkaadbdicaaGreatDoor
open Go.ChangeShapes Go.WideShapes Go.ChangeAt Go.RowKit Go.Joins Go.Deep
theorem t9q:Tryz.prog.bytesOf 9=16:=by kernel_rfl
section
variable {H:Type} {enc:TypeId×Value->H} {W:World} {base:Nat} {spare:Nat->Bool} {held:Bool}
theorem je(n:Nat){v:Value}{y:DataW H×List MemPlace}(h:DataW.trod enc prog W base spare held n 25 [v]=some y)(hw:cC 25 y.1):
 ∃(A:Option Addr) (n c:Nat) (xs:List ByteArray),v=.slice A n c/\ST W A n c xs:=by
 rcases Nf underlying25 h with⟨hcs,_⟩|⟨a,len,cap,elems,rest,n',rfl,hcs,rfl,_,hlc,hcm,hel,hat,_,_⟩
 ·simp at hcs;exact⟨none,0,0,[],hcs,⟨SR.nil,by show 0*16<=aF;decide,fun s hs=>by simp at hs⟩⟩
 ·simp at hcs;subst hcs;simp only[cC,DataW.weights,underlying25,Li,LY,t9q] at hw
  have hsz:len*16<=aF:=by
   have:=hw _ (.inl rfl);simp only[Lb,hel] at this;have h2:len*16<=(len+rest.length)*16:=MU _ (by omega);have:=dG;omega
  have wl:=gH (l:=elems.map (·.1)) (fun z hz=>hw z (.inr (.inl hz)));rcases MH len with h0|hp
  ·subst h0;exact⟨some a,0,cap,[],rfl,⟨SR.nil,by show 0*16<=aF;decide,fun s hs=>by simp at hs⟩⟩
  have step:∀i,i<len->∃s:ByteArray,W.cells? base (a.add (i*1)) 1=some [.string s]/\s.size<=aF:=by
   intro i hi;have h1:=hat i hi;rw[ak,LI (by omega)] at h1;obtain⟨cs',hcs',ht'⟩:=NA.1 h1;have hwi:=wl _ (MT (Mz (l:=elems) (n:=i) (by omega)));generalize elems[i]=q at*;obtain⟨s,e0,rfl,_⟩:=NO MB ht';subst e0;refine⟨s,hcs',Lt (hwi s.size ?_) dG⟩;simp[DataW.weights]
  obtain⟨s0,h0,_⟩:=step 0 hp;obtain⟨b,off,ha,_⟩:=cx h0 (by omega);have ha':a=⟨b,off,none⟩:=by simpa[Addr.add] using ha
  subst ha'
  obtain⟨f,hf⟩:=fS (p:=fun i (s:ByteArray)=>W.cell? ⟨b,off+i,none⟩=some (.string s)/\s.size<=aF) empty len (fun i hi=>by
   obtain⟨s,hcs',hs⟩:=step i hi
   rw[bn] at hcs'
   obtain⟨b',off',ha',hc⟩:=cx hcs' (by omega)
   injection ha' with e1 e2
   subst e1 e2
   have:=hc 0 (by omega)
   rw[Oj] at this
   exact⟨s,this,hs⟩)
  refine⟨_,len,cap,(List.range len).map f,rfl,⟨⟨by simp,hlc,fun _=>⟨b,off,rfl,Lr W _ (hf 0 hp).1,fun i x hi j u hj=>?_⟩⟩,hsz,fun s hs=>?_⟩⟩
  ·have hlt:i<len:=by have:=(LJ.1 hi).1;simpa using this
   rw[LV,NH hlt] at hi;simp only[Mj,MP] at hi;subst hi;have hj0:j=0:=by have:=(LJ.1 hj).1;simpa[Al] using this
   subst hj0;simp[Al] at hj;subst hj;rw[Oj,Ms];exact(hf i hlt).1
  ·obtain⟨i,hi,rfl⟩:=MS.1 hs;exact(hf i (OQ.1 hi)).2
end
theorem wW:Tryz.prog.bytesOf 66=32:=by kernel_rfl
theorem oK:Tryz.prog.cellsOf 66=2:=by kernel_rfl
theorem bQ:Tryz.prog.cellsOf 25=1:=by kernel_rfl
theorem mA:Tryz.prog.cellsOf 4=1:=by kernel_rfl
section
variable {H:Type} {enc:TypeId×Value->H} {W:World} {base:Nat} {spare:Nat->Bool} {held:Bool}
theorem wX(n:Nat){v:Value}{y:DataW H×List MemPlace}(h:DataW.trod enc prog W base spare held n 22 [v]=some y)(hw:cC 22 y.1):
 ∃(A:Option Addr) (n c:Nat) (ks:List Od),v=.slice A n c/\KS W A n c ks:=by
 rcases Nf underlying22 h with⟨hcs,_⟩|⟨a,len,cap,elems,rest,n',rfl,hcs,rfl,_,hlc,hcm,hel,hat,_,_⟩
 ·simp at hcs;exact⟨none,0,0,[],hcs,KS.nil⟩
 ·simp at hcs;subst hcs;simp only[cC,DataW.weights,underlying22,Li,LY,wW] at hw
  have hsz:len*32<=aF:=by
   have:=hw _ (.inl rfl);simp only[Lb,hel] at this;have h2:len*32<=(len+rest.length)*32:=MU _ (by omega);have:=dG;omega
  have wl:=gH (l:=elems.map (·.1)) (fun z hz=>hw z (.inr (.inl hz)));rcases MH len with h0|hp
  ·subst h0;exact⟨some a,0,cap,[],rfl,KS.nil⟩
  have step:∀i,i<len->∃(o:OC) (q:Od),W.cells? base (a.add (i*2)) 2=some [.slice o.A o.n o.c,.bool o.d]/\OR W o q:=by
   intro i hi;have h1:=hat i hi;rw[oK,LI (by omega)] at h1;obtain⟨cs',hcs',ht'⟩:=NA.1 h1;have hwi:=wl _ (MT (Mz (l:=elems) (n:=i) (by omega)));generalize elems[i]=q at*;obtain⟨ys,n'',rfl,rfl,hcl,hyl,hf⟩:=Mu underlying66 ht';rw[oK] at hcl;obtain⟨v0,v1,rfl⟩:=Hy hcl;obtain⟨y0,y1,rfl⟩:=Hy hyl;have f0:DataW.trod enc prog W base spare held n'' 25 [v0]=some y0:=by simpa[bQ] using hf 0 _ rfl
   have f1:DataW.trod enc prog W base spare held n'' 4 [v1]=some y1:=by simpa[bQ,mA] using hf 1 _ rfl
   simp only[cC,DataW.weights,underlying66,List.map,DataW.weightsEach,LY] at hwi;obtain⟨A,m,c,xs,rfl,hx⟩:=je n'' f0 (fun z hz=>hwi z (.inl hz));obtain⟨d,e1,rfl⟩:=QL NL f1;simp only[Ml,NW] at e1;subst e1;exact⟨⟨A,m,c,d⟩,⟨xs,d⟩,hcs',rfl,hx⟩
  obtain⟨o0,q0,h0,_⟩:=step 0 hp;obtain⟨b,off,ha,_⟩:=cx h0 (by omega);have ha':a=⟨b,off,none⟩:=by simpa[Addr.add] using ha
  subst ha'
  obtain⟨f,hf⟩:=fS (p:=fun i (z:OC×Od)=>W.cell? ⟨b,off+i*2,none⟩=some (.slice z.1.A z.1.n z.1.c)/\W.cell? ⟨b,off+i*2+1,none⟩=some (.bool z.1.d)/\OR W z.1 z.2) (o0,q0) len (fun i hi=>by
   obtain⟨o,q,hcs',ho⟩:=step i hi
   rw[bn] at hcs'
   obtain⟨b',off',ha',hc⟩:=cx hcs' (by omega)
   injection ha' with e1 e2
   subst e1 e2
   exact⟨(o,q),hc 0 (by omega),hc 1 (by omega),ho⟩)
  refine⟨_,len,cap,(List.range len).map fun i=>(f i).2,rfl,(List.range len).map (fun i=>(f i).1),⟨by simp,hlc,fun _=>⟨b,off,rfl,Lr W _ (hf 0 hp).1,fun i x hi j u hj=>?_⟩⟩,hsz,by simp,fun i o q hi hq=>?_⟩
  ·have hlt:i<len:=by have:=(LJ.1 hi).1;simpa using this
   rw[LV,NH hlt] at hi;simp only[Mj,MP] at hi;subst hi;have hj2:j<2:=by have:=(LJ.1 hj).1;simpa[uU] using this
   rcases(show j=0\/j=1 by omega) with rfl|rfl
   ·simp[uU] at hj;subst hj;rw[Ms];exact(hf i hlt).1
   ·simp[uU] at hj;subst hj;exact(hf i hlt).2.1
  ·have hlt:i<len:=by have:=(LJ.1 hi).1;simpa using this
   rw[LV,NH hlt] at hi hq;simp only[Mj,MP] at hi hq;subst hi hq;exact(hf i hlt).2.2
theorem lD:Tryz.prog.cellsOf 24=2:=by kernel_rfl
theorem mo:Tryz.prog.cellsOf 22=1:=by kernel_rfl
end
theorem wY:Tryz.prog.bytesOf 92=56:=by kernel_rfl
theorem oL:Tryz.prog.cellsOf 92=5:=by kernel_rfl
theorem tp:Tryz.prog.cellsOf 51=1:=by kernel_rfl
theorem tq:Tryz.prog.cellsOf 53=6:=by kernel_rfl
section
variable {H:Type} {enc:TypeId×Value->H} {W:World} {base:Nat} {spare:Nat->Bool} {held:Bool}
theorem wZ(n:Nat){v:Value}{y:DataW H×List MemPlace}(h:DataW.trod enc prog W base spare held n 51 [v]=some y)(hw:cC 51 y.1):
 ∃(A:Option Addr) (n c:Nat) (cs:List Ch),v=.slice A n c/\CS W A n c cs:=by
 rcases Nf underlying51 h with⟨hcs,_⟩|⟨a,len,cap,elems,rest,n',rfl,hcs,rfl,_,hlc,hcm,hel,hat,_,_⟩
 ·simp at hcs;exact⟨none,0,0,[],hcs,CS.nil⟩
 ·simp at hcs;subst hcs;simp only[cC,DataW.weights,underlying51,Li,LY,wY] at hw
  have hsz:len*56<=aF:=by
   have:=hw _ (.inl rfl);simp only[Lb,hel] at this;have h2:len*56<=(len+rest.length)*56:=MU _ (by omega);have:=dG;omega
  rcases MH len with h0|hp
  ·subst h0;exact⟨some a,0,cap,[],rfl,CS.nil⟩
  have step:∀i,i<len->∃x:Ch,W.cells? base (a.add (i*5)) 5=some (ez x):=by
   intro i hi;have h1:=hat i hi;rw[oL,LI (by omega)] at h1;obtain⟨cs',hcs',ht'⟩:=NA.1 h1;generalize elems[i]=q at*;obtain⟨ys,n'',rfl,rfl,hcl,hyl,hf⟩:=Mu underlying92 ht';rw[oL] at hcl;obtain⟨v0,v1,v2,v3,v4,rfl⟩:=za hcl;obtain⟨y0,y1,y2,y3,y4,rfl⟩:=za hyl;have f0:DataW.trod enc prog W base spare held n'' 9 [v0]=some y0:=by simpa[ak] using hf 0 _ rfl
   have f1:DataW.trod enc prog W base spare held n'' 9 [v1]=some y1:=by simpa[ak] using hf 1 _ rfl
   have f2:DataW.trod enc prog W base spare held n'' 3 [v2]=some y2:=by simpa[ak,ag] using hf 2 _ rfl
   have f3:DataW.trod enc prog W base spare held n'' 3 [v3]=some y3:=by simpa[ak,ag] using hf 3 _ rfl
   have f4:DataW.trod enc prog W base spare held n'' 4 [v4]=some y4:=by simpa[ak,ag,mA] using hf 4 _ rfl
   obtain⟨s0,e0,_⟩:=NO MB f0;obtain⟨s1,e1,_⟩:=NO MB f1;obtain⟨i2,e2,_⟩:=Mm MY f2;obtain⟨i3,e3,_⟩:=Mm MY f3;obtain⟨b4,e4,_⟩:=QL NL f4;simp only[Ml,NW] at e0 e1 e2 e3 e4;subst e0 e1 e2 e3 e4;exact⟨⟨s0,s1,i2,i3,b4⟩,hcs'⟩
  obtain⟨x0,h0⟩:=step 0 hp;obtain⟨b,off,ha,hc0⟩:=cx h0 (by omega);have ha':a=⟨b,off,none⟩:=by simpa[Addr.add] using ha
  subst ha';have hbl:=Lr W _ ((hc0 0 (by omega)).trans (show(ez x0)[0]?=some _ from rfl))
  obtain⟨f,hf⟩:=fS (p:=fun i (x:Ch)=>∀j,j<5->W.cell? ⟨b,off+i*5+j,none⟩=(ez x)[j]?) x0 len (fun i hi=>by
   obtain⟨x,hcs'⟩:=step i hi
   rw[bn] at hcs'
   obtain⟨b',off',ha',hc⟩:=cx hcs' (by omega)
   injection ha' with e1 e2
   subst e1 e2
   exact⟨x,hc⟩)
  refine⟨_,len,cap,(List.range len).map f,rfl,⟨⟨by simp,hlc,fun _=>⟨b,off,rfl,hbl,fun i x hi j u hj=>?_⟩⟩,hsz⟩⟩;have hlt:i<len:=by have:=(LJ.1 hi).1;simpa using this
  rw[LV,NH hlt] at hi;simp only[Mj,MP] at hi;subst hi;have hj5:j<5:=by have:=(LJ.1 hj).1;rwa [nk] at this
  rw[hf i hlt j hj5];exact hj
theorem we(fuel:Nat)(cs:List Value)(y:DataW H×List MemPlace)(h:DataW.trod enc prog W base spare held fuel 53 cs=some y)(hw:cC 53 y.1):
 ∃(a:RA) (R:Ro),cs=(bW a R).toList/\RR W a R:=by
 obtain⟨ys,n1,rfl,rfl,hcl,hyl,hf⟩:=Mu PD h;rw[tq] at hcl;obtain⟨v0,v1,v2,v3,v4,v5,rfl⟩:=Je hcl;obtain⟨y0,y1,y2,y3,y4,rfl⟩:=za hyl;have f0:DataW.trod enc prog W base spare held n1 9 [v0]=some y0:=by simpa[ak] using hf 0 _ rfl
 have f1:DataW.trod enc prog W base spare held n1 24 [v1,v2]=some y1:=by simpa[ak,lD] using hf 1 _ rfl
 have f2:DataW.trod enc prog W base spare held n1 3 [v3]=some y2:=by simpa[ak,lD,ag] using hf 2 _ rfl
 have f3:DataW.trod enc prog W base spare held n1 3 [v4]=some y3:=by simpa[ak,lD,ag] using hf 3 _ rfl
 have f4:DataW.trod enc prog W base spare held n1 51 [v5]=some y4:=by simpa[ak,lD,ag,tp] using hf 4 _ rfl
 simp only[cC,DataW.weights,PD,List.map,DataW.weightsEach,LY] at hw;obtain⟨sp,e0,rfl,_⟩:=NO MB f0;obtain⟨ep,e2,_⟩:=Mm MY f2;obtain⟨ve,e3,_⟩:=Mm MY f3;simp only[Ml,NW] at e0 e2 e3;subst e0 e2 e3;have w1:∀z∈y1.1.weights prog 24,z<=jT:=fun z hz=>hw z (.inr (.inl hz));have w4:cC 51 y4.1:=fun z hz=>hw z (.inr (.inr (.inr (.inr (.inl hz)))));obtain⟨ys,n2,rfl,rfl,hcl2,hyl2,hf2⟩:=Mu underlying24 f1;obtain⟨z0,z1,rfl⟩:=Hy hyl2;have g0:DataW.trod enc prog W base spare held n2 22 [v1]=some z0:=by simpa[mo] using hf2 0 _ rfl
 have g1:DataW.trod enc prog W base spare held n2 4 [v2]=some z1:=by simpa[mo,mA] using hf2 1 _ rfl
 simp only[DataW.weights,underlying24,List.map,DataW.weightsEach,LY] at w1;obtain⟨KA,kn,kc,ks,rfl,hk⟩:=wX n2 g0 (fun z hz=>w1 z (.inl hz));obtain⟨ha,e5,rfl⟩:=QL NL g1;simp only[Ml,NW] at e5;subst e5;obtain⟨CA,cn,cc,cs,rfl,hc⟩:=wZ _ f4 w4;exact⟨⟨KA,kn,kc,CA,cn,cc⟩,⟨sp,ks,ha,ep,ve,cs⟩,rfl,Lt (hw sp.size (.inl (by simp[DataW.weights]))) dG,hk,hc⟩
theorem wg{r:Reach}{b0:Nat}{v:Value}{d:DataW H}{p:List MemPlace}(hv:Value.okWide prog W r b0 53 v)(h:DataW.Trod enc prog W base spare held 53 v d p)(hw:cC 53 d):
 ∃(a:RA) (R:Ro),v=ft a R/\RR W a R:=by
 obtain⟨cs,rfl,hsz⟩:=okWide_struct PD hv;obtain⟨fuel,hf⟩:=h;obtain⟨a,R,hc,h1⟩:=we fuel _ _ hf hw;refine⟨a,R,?_,h1⟩;obtain⟨l⟩:=cs;simp only[Value.cells] at hc;rw[show l=_ from hc]
end
section
variable {H:Type} {enc:TypeId×Value->H} {W:World} {base:Nat} {spare:Nat->Bool} {held:Bool}
end
theorem Fz{n:Int}(h:(Lit.int .i64 n).wf=true):jb n:=by
 have h:(decide (IntKind.i64.min<=n)&&decide (n<=IntKind.i64.max))=true:=h;simp only[ME,Mg] at h;exact h
section
variable {H:Type} {enc:TypeId×Value->H} {W:World} {base:Nat} {spare:Nat->Bool} {held:Bool}
def EU(H:Type)(enc:TypeId×Value->H)(W:World)(base:Nat)(spare:Nat->Bool)(held:Bool)(n:Nat):Prop:=
 ∀(cs:List Value) (y:DataW H×List MemPlace),DataW.trod enc prog W base spare held n 29 cs=some y->cC 29 y.1->∃c x,cs=c.list/\RW W c x/\cJ x
theorem zJ(n:Nat){v:Value}{y:DataW H×List MemPlace}(ih:∀n',n'<n->EU H enc W base spare held n')(h:DataW.trod enc prog W base spare held n 26 [v]=some y)(hw:cC 26 y.1):
 ∃(LA:Option Addr) (ln lc:Nat) (l:List aC),v=.slice LA ln lc/\ln=l.length/\ln<=lc/\ln*80<=aF/\(0<ln->∃b off,LA=some ⟨b,off,none⟩/\∀(i:Nat) (y:aC),l[i]?=some y->∃e,bS W b (off+i*5) e/\RW W e y)/\∀y∈l,cJ y:=by
 rcases Nf Mh h with⟨hcs,_⟩|⟨a,len,cap,elems,rest,n',rfl,hcs,rfl,_,hlc,hcm,hel,hat,_,_⟩
 ·simp at hcs;exact⟨none,0,0,[],hcs,rfl,qL,by decide,fun h=>absurd h (by omega),by simp⟩
 ·simp at hcs;subst hcs;simp only[cC,DataW.weights,Mh,Li,LY,ki] at hw
  have hsz:len*80<=aF:=by
   have:=hw _ (.inl rfl);simp only[Lb,hel] at this;have h2:len*80<=(len+rest.length)*80:=MU _ (by omega);have:=dG;omega
  have wl:=gH (l:=elems.map (·.1)) (fun z hz=>hw z (.inr (.inl hz)));rcases MH len with h0|hp
  ·exact⟨some a,len,cap,[],rfl,h0,hlc,hsz,fun h=>absurd h (by omega),by simp⟩
  have step:∀i,i<len->∃cs',W.cells? base (a.add (i*5)) 5=some cs'/\∃e x,cs'=VC.list e/\RW W e x/\cJ x:=by
   intro i hi;have h1:=hat i hi;rw[bJ,LI (by omega)] at h1;obtain⟨cs',hcs',ht'⟩:=NA.1 h1;exact⟨cs',hcs',ih n' (by omega) cs' _ ht' (wl _ (MT (Mz _)))⟩
  obtain⟨cs0,h0,_⟩:=step 0 hp;obtain⟨b,off,ha,_⟩:=cx h0 (by omega);have ha':a=⟨b,off,none⟩:=by simpa[Addr.add] using ha
  subst ha'
  obtain⟨f,hf⟩:=fS (p:=fun i x=>(∃e,bS W b (off+i*5) e/\RW W e x)/\cJ x) aC.zero len (fun i hi=>by
   obtain⟨cs',hcs',e,x,rfl,hx,hnx⟩:=step i hi
   rw[bn] at hcs'
   obtain⟨b',off',ha',hc⟩:=cx hcs' (by omega)
   injection ha' with e1 e2
   subst e1 e2
   exact⟨x,⟨e,⟨hc 0 (by omega),hc 1 (by omega),hc 2 (by omega),hc 3 (by omega),hc 4 (by omega)⟩,hx⟩,hnx⟩)
  refine⟨_,len,cap,(List.range len).map f,rfl,by simp,hlc,hsz,fun _=>⟨b,off,rfl,fun i y hi=>?_⟩,fun y hy=>(by obtain⟨i,hi,rfl⟩:=MS.1 hy;exact(hf i (OQ.1 hi)).2)⟩;have hlt:i<len:=by have:=(LJ.1 hi).1;simpa using this
  rw[LV,NH hlt] at hi;simp only[Mj,MP] at hi;subst hi;exact(hf i hlt).1
theorem CO(n:Nat){v:Value}{y:DataW H×List MemPlace}(ih:∀n',n'<n->EU H enc W base spare held n')(h:DataW.trod enc prog W base spare held n 27 [v]=some y)(hw:cC 27 y.1):
 ∃(DA:Option Addr) (dn dc:Nat) (d:List bf),v=.slice DA dn dc/\dn=d.length/\dn<=dc/\dn*96<=jT/\(0<dn->∃b off,DA=some ⟨b,off,none⟩/\∀(i:Nat) (f:bf),d[i]?=some f->W.cell? ⟨b,off+i*6,none⟩=some (.string f.s)/\f.s.size<=aF/\∃e,bS W b (off+i*6+1) e/\RW W e f.v)/\∀f∈d,cJ f.v:=by
 rcases Nf NM h with⟨hcs,_⟩|⟨a,len,cap,elems,rest,n',rfl,hcs,rfl,_,hlc,hcm,hel,hat,_,_⟩
 ·simp at hcs;exact⟨none,0,0,[],hcs,rfl,qL,by decide,fun h=>absurd h (by omega),by simp⟩
 ·simp at hcs;subst hcs;simp only[cC,DataW.weights,NM,Li,LY,oT] at hw
  have hsz:len*96<=jT:=by
   have:=hw _ (.inl rfl);simp only[Lb,hel] at this;have h2:len*96<=(len+rest.length)*96:=MU _ (by omega);omega
  have wl:=gH (l:=elems.map (·.1)) (fun z hz=>hw z (.inr (.inl hz)));rcases MH len with h0|hp
  ·exact⟨some a,len,cap,[],rfl,h0,hlc,hsz,fun h=>absurd h (by omega),by simp⟩
  have step:∀i,i<len->∃cs',W.cells? base (a.add (i*6)) 6=some cs'/\∃(s:ByteArray) (e:VC) (x:aC),cs'=.string s::VC.list e/\s.size<=aF/\RW W e x/\cJ x:=by
   intro i hi;have h1:=hat i hi;rw[iv,LI (by omega)] at h1;obtain⟨cs',hcs',ht'⟩:=NA.1 h1;have hwi:=wl _ (MT (Mz (l:=elems) (n:=i) (by omega)));generalize elems[i]=q at*;obtain⟨ys,n'',rfl,rfl,hcl,hyl,hf⟩:=Mu PH ht';rw[iv] at hcl;obtain⟨v0,v1,v2,v3,v4,v5,rfl⟩:=Je hcl;obtain⟨y0,y1,rfl⟩:=Hy hyl;have f0:DataW.trod enc prog W base spare held n'' 9 [v0]=some y0:=by simpa[ak] using hf 0 _ rfl
   have f1:DataW.trod enc prog W base spare held n'' 29 [v1,v2,v3,v4,v5]=some y1:=by simpa[bJ] using hf 1 _ rfl
   obtain⟨s,e0,rfl,_⟩:=NO MB f0;simp only[Ml,NW] at e0;subst e0;simp only[cC,DataW.weights,PH,List.map,DataW.weightsEach,LY] at hwi;obtain⟨e,x,he,hx,hnx⟩:=ih n'' (by omega) _ _ f1 (fun z hz=>hwi z (.inr (.inl hz)));refine⟨_,hcs',s,e,x,by rw[he],Lt (hwi s.size (.inl (by simp))) dG,hx,hnx⟩
  obtain⟨cs0,h0,_⟩:=step 0 hp;obtain⟨b,off,ha,_⟩:=cx h0 (by omega);have ha':a=⟨b,off,none⟩:=by simpa[Addr.add] using ha
  subst ha'
  obtain⟨f,hf⟩:=fS (p:=fun i (f:bf)=>(W.cell? ⟨b,off+i*6,none⟩=some (.string f.s)/\f.s.size<=aF/\∃e,bS W b (off+i*6+1) e/\RW W e f.v)/\cJ f.v) (.mk empty aC.zero) len (fun i hi=>by
   obtain⟨cs',hcs',s,e,x,rfl,hs,hx,hnx⟩:=step i hi
   rw[bn] at hcs'
   obtain⟨b',off',ha',hc⟩:=cx hcs' (by omega)
   injection ha' with e1 e2
   subst e1 e2
   exact⟨.mk s x,⟨hc 0 (by omega),hs,e,⟨hc 1 (by omega),hc 2 (by omega),hc 3 (by omega),hc 4 (by omega),hc 5 (by omega)⟩,hx⟩,hnx⟩)
  refine⟨_,len,cap,(List.range len).map f,rfl,by simp,hlc,hsz,fun _=>⟨b,off,rfl,fun i y hi=>?_⟩,fun y hy=>(by obtain⟨i,hi,rfl⟩:=MS.1 hy;exact(hf i (OQ.1 hi)).2)⟩;have hlt:i<len:=by have:=(LJ.1 hi).1;simpa using this
  rw[LV,NH hlt] at hi;simp only[Mj,MP] at hi;subst hi;exact(hf i hlt).1
theorem oM:∀(fuel:Nat) (cs:List Value) (y:DataW H×List MemPlace),DataW.trod enc prog W base spare held fuel 29 cs=some y->cC 29 y.1->∃c x,cs=c.list/\RW W c x/\cJ x:=by
 intro fuel
 induction fuel using Nat.strongRecOn with
 | _ fuel ih=>
 intro cs y h hw;obtain⟨ys,n,rfl,rfl,hcl,hyl,hf⟩:=Mu Mt h;rw[bJ] at hcl;obtain⟨v0,v1,v2,v3,v4,rfl⟩:=za hcl;obtain⟨y0,y1,y2,y3,y4,rfl⟩:=za hyl;have f0:DataW.trod enc prog W base spare held n 3 [v0]=some y0:=by simpa[ag] using hf 0 _ rfl
 have f1:DataW.trod enc prog W base spare held n 3 [v1]=some y1:=by simpa[ag] using hf 1 _ rfl
 have f2:DataW.trod enc prog W base spare held n 9 [v2]=some y2:=by simpa[ak] using hf 2 _ rfl
 have f3:DataW.trod enc prog W base spare held n 26 [v3]=some y3:=by simpa[eb] using hf 3 _ rfl
 have f4:DataW.trod enc prog W base spare held n 27 [v4]=some y4:=by simpa[tD] using hf 4 _ rfl
 obtain⟨k,e0,rfl,_⟩:=Mm MY f0;obtain⟨m,e1,rfl,hm⟩:=Mm MY f1;obtain⟨t,e2,rfl,_⟩:=NO MB f2;simp only[Ml,NW] at e0 e1 e2;subst e0 e1 e2
 have hw':cC 9 (DataW.lit (H:=H) (.string t.data.toList))/\cC 26 y3.1/\cC 27 y4.1:=by
  simp only[cC,DataW.weights,Mt,List.map,DataW.weightsEach,LY] at hw;refine⟨fun z hz=>hw z ?_,fun z hz=>hw z ?_,fun z hz=>hw z ?_⟩
  ·simp only[DataW.weights] at hz;exact .inr (.inr (.inl hz))
  ·exact .inr (.inr (.inr (.inl hz)))
  ·exact .inr (.inr (.inr (.inr (.inl hz))))
 obtain⟨w2,w3,w4⟩:=hw';have htz:t.size<=aF:=Lt (w2 t.size (by simp[DataW.weights])) dG;obtain⟨LA,ln,lc,l,rfl,hl1,hl2,hl3,hl4,hl5⟩:=zJ n (fun n' hn=>ih n' (by omega)) f3 w3;obtain⟨DA,dn,dc,d,rfl,hd1,hd2,hd3,hd4,hd5⟩:=CO n (fun n' hn=>ih n' (by omega)) f4 w4;refine⟨⟨k,m,t,LA,ln,lc,DA,dn,dc⟩,.mk k m t l d,rfl,mK.shut ⟨rfl,rfl,rfl,htz,hl1,hl2,hl3,fun hp=>?_,hd1,hd2,Lt hd3 dG,fun hp=>?_⟩,(gx _).2 ⟨Fz hm,hl5,hd5⟩⟩
 ·obtain⟨b,off,e,h⟩:=hl4 hp;exact⟨b,off,e,Ft.Kp,h⟩
 ·obtain⟨b,off,e,h⟩:=hd4 hp;exact⟨b,off,e,Ft.Kp,h⟩
end
theorem wh{H:Type}(d:DataW H):1<=Rows.uptoBulk d:=by
 cases d with
 | lit l=>cases l<;>simp[Rows.uptoBulk]
 | _=>simp[Rows.uptoBulk]
theorem EV{H:Type}{d:DataW H}{l:List (DataW H)}(h:d∈l):Rows.uptoBulk d<=Rows.uptoBulkAll l:=by
 induction l with
 | nil=>cases h
 | cons x r ih=>
  simp only[Rows.uptoBulkAll];rcases Li.1 h with rfl|h
  ·omega
  ·have:=ih h;omega
theorem wj{H:Type}(l:List (DataW H)):l.length<=Rows.uptoBulkAll l:=by
 induction l with
 | nil=>simp[Rows.uptoBulkAll]
 | cons x r ih=>have:=wh x;simp only[Rows.uptoBulkAll,Ll];omega
def Et{H:Type}(t:TypeId)(d:DataW H):Prop:=cC t d/\Rows.uptoBulk d<=1048576
theorem wk:Tryz.prog.bytesOf 152=16:=by kernel_rfl
theorem zK:Tryz.prog.bytesOf 35=184:=by kernel_rfl
theorem zL:Tryz.prog.bytesOf 38=400:=by kernel_rfl
theorem oN:Tryz.prog.cellsOf 152=2:=by kernel_rfl
theorem jf:Tryz.prog.cellsOf 35=11:=by kernel_rfl
theorem qI:Tryz.prog.cellsOf 38=25:=by kernel_rfl
theorem kX:Tryz.prog.cellsOf 32=3:=by kernel_rfl
theorem mq:Tryz.prog.cellsOf 30=1:=by kernel_rfl
theorem wm:Tryz.prog.cellsOf 33=1:=by kernel_rfl
theorem ws:Tryz.prog.cellsOf 36=1:=by kernel_rfl
section
variable {H:Type} {enc:TypeId×Value->H} {W:World} {base:Nat} {spare:Nat->Bool} {held:Bool}
theorem EW{H:Type}(l:List (DataW H)):Rows.uptoBulkAll l=(l.map Rows.uptoBulk).sum:=by
 induction l with
 | nil=>simp[Rows.uptoBulkAll]
 | cons x r ih=>simp only[Rows.uptoBulkAll,Mb,QD,ih]
theorem zM{α:Type}{f g:α->Nat}(l:List α)(h:∀a∈l,f a<=g a):(l.map f).sum<=(l.map g).sum:=by
 induction l with
 | nil=>simp
 | cons x r ih=>
  have:=h x (by simp);have:=ih fun a ha=>h a (by simp[ha]);simp only[Mb,QD];omega
theorem mB{α:Type}(μ:α->Nat)(rec:α->List Value)(s B:Nat)(hs0:0<s)(hs:∀a,(rec a).length=s)(P:α->Prop)(d0:α){t e:TypeId}(hu:Tryz.prog.underlying t=some (.slice e))(hB:Tryz.prog.bytesOf e=B)(hc:Tryz.prog.cellsOf e=s)(n:Nat){v:Value}{y:DataW H×List MemPlace}(each:∀n',n'<n->∀(cs:List Value) (z:DataW H×List MemPlace),DataW.trod enc prog W base spare held n' e cs=some z->Et e z.1->∃a,cs=rec a/\P a/\μ a<=Rows.uptoBulk z.1)(h:DataW.trod enc prog W base spare held n t [v]=some y)(hw:Et t y.1):
 ∃(A:Option Addr) (ln lc:Nat) (l:List α),v=.slice A ln lc/\SR s rec W A ln lc l/\ln*B<=aF/\ln<=1048576/\(∀a∈l,P a)/\(l.map μ).sum<=Rows.uptoBulk y.1:=by
 rcases Nf hu h with⟨hcs,_⟩|⟨a,len,cap,elems,rest,n',rfl,hcs,rfl,_,hlc,hcm,hel,hat,_,_⟩
 ·simp at hcs;exact⟨none,0,0,[],hcs,SR.nil,by rw[OJ];exact LQ _,LQ _,fun a h=>by simp at h,LQ _⟩
 ·simp at hcs;subst hcs;obtain⟨hl,hk⟩:=hw;simp only[cC,DataW.weights,hu,Li,LY,hB] at hl;simp only[Rows.uptoBulk] at hk
  have hsz:len*B<=aF:=by
   have:=hl _ (.inl rfl);simp only[Lb,hel] at this;have h2:len*B<=(len+rest.length)*B:=MU _ (by omega);have:=dG;omega
  have hfew:len<=1048576:=by
   have:=wj (elems.map (·.1));simp only[Lb,hel] at this;omega
  have wl:=gH (l:=elems.map (·.1)) (fun z hz=>hl z (.inr (.inl hz)));rcases MH len with h0|hp
  ·subst h0;exact⟨some a,0,cap,[],rfl,SR.nil,hsz,hfew,fun a h=>by simp at h,LQ _⟩
  have step:∀i,i<len->∃cs',W.cells? base (a.add (i*s)) s=some cs'/\∃x,cs'=rec x/\P x/\μ x<=((elems.map fun z=>Rows.uptoBulk z.1)[i]?).getD 0:=by
   intro i hi;have h1:=hat i hi;rw[hc,LI (by omega)] at h1;obtain⟨cs',hcs',ht'⟩:=NA.1 h1;have hm : (elems[i]'(by omega)).1 ∈ elems.map (·.1) := MT (Mz _);have hb:=EV hm;obtain⟨x,e1,e2,e3⟩:=each n' (by omega) cs' _ ht' ⟨wl _ hm,by omega⟩;exact⟨cs',hcs',x,e1,e2,by rw[LV,LI (by omega)];exact e3⟩
  obtain⟨cs0,h0,_⟩:=step 0 hp;obtain⟨b,off,ha,_⟩:=cx h0 hs0;have ha':a=⟨b,off,none⟩:=by simpa[Addr.add] using ha
  subst ha'
  obtain⟨f,hf⟩:=fS (p:=fun i x=>(∀(j:Nat) (u:Value),(rec x)[j]?=some u->W.cell? ⟨b,off+i*s+j,none⟩=some u)/\P x/\μ x<=((elems.map fun z=>Rows.uptoBulk z.1)[i]?).getD 0) d0 len (fun i hi=>by
   obtain⟨cs',hcs',x,rfl,hx⟩:=step i hi
   rw[bn] at hcs'
   obtain⟨b',off',ha',hcx⟩:=cx hcs' hs0
   injection ha' with e1 e2
   subst e1 e2
   refine⟨x,fun j u hj=>?_,hx⟩
   have hjs:j<s:=by have:=(LJ.1 hj).1;rw[hs] at this;exact this
   rw[hcx j hjs]
   exact hj)
  refine⟨_,len,cap,(List.range len).map f,rfl,⟨by simp,hlc,fun _=>⟨b,off,rfl,?_,fun i x hi j u hj=>?_⟩⟩,hsz,hfew,fun x hx=>?_,?_⟩
  ·have hl0:0<(rec (f 0)).length:=by rw[hs];exact hs0
   exact Lr W _ ((hf 0 hp).1 0 _ (LI hl0))
  ·have hlt:i<len:=by have:=(LJ.1 hi).1;simpa using this
   rw[LV,NH hlt] at hi;simp only[Mj,MP] at hi;subst hi;exact(hf i hlt).1 j u hj
  ·obtain⟨i,hi,rfl⟩:=MS.1 hx;exact(hf i (OQ.1 hi)).2.1
  ·have h1:(((List.range len).map f).map μ).sum<=(elems.map fun z=>Rows.uptoBulk z.1).sum:=by
    rw[NU]
    have e:elems.map (fun z=>Rows.uptoBulk z.1)=(List.range len).map fun i=>((elems.map fun z=>Rows.uptoBulk z.1)[i]?).getD 0:=by
     refine List.ext_getElem (by simp[hel]) fun i h1 h2=>?_;simp at h1;simp[LI h1]
    rw[e];exact zM _ fun i hi=>(hf i (OQ.1 hi)).2.2
   have h2:(elems.map fun z=>Rows.uptoBulk z.1).sum=Rows.uptoBulkAll (elems.map (·.1)):=by
    rw[EW,NU];rfl
   simp only[Rows.uptoBulk];omega
theorem sT{α:Type}(rec:α->List Value)(s B:Nat)(hs0:0<s)(hs:∀a,(rec a).length=s)(P:α->Prop)(d0:α){t e:TypeId}(hu:Tryz.prog.underlying t=some (.slice e))(hB:Tryz.prog.bytesOf e=B)(hc:Tryz.prog.cellsOf e=s)(n:Nat){v:Value}{y:DataW H×List MemPlace}(each:∀n',n'<n->∀(cs:List Value) (z:DataW H×List MemPlace),DataW.trod enc prog W base spare held n' e cs=some z->Et e z.1->∃a,cs=rec a/\P a)(h:DataW.trod enc prog W base spare held n t [v]=some y)(hw:Et t y.1):
 ∃(A:Option Addr) (ln lc:Nat) (l:List α),v=.slice A ln lc/\SR s rec W A ln lc l/\ln*B<=aF/\ln<=1048576/\∀a∈l,P a:=by
 obtain⟨A,ln,lc,l,e,h1,h2,h3,h4,_⟩:=mB (fun _=>0) rec s B hs0 hs P d0 hu hB hc n (fun n' hn cs z h1 h2=>by obtain⟨a,e,k⟩:=each n' hn cs z h1 h2;exact⟨a,e,k,LQ _⟩) h hw;exact⟨A,ln,lc,l,e,h1,h2,h3,h4⟩
theorem zN(n:Nat)(cs:List Value)(y:DataW H×List MemPlace)(h:DataW.trod enc prog W base spare held n 152 cs=some y):∃p:Int×Int,cs=rL p:=by
 obtain⟨ys,n1,rfl,rfl,hcl,hyl,hf⟩:=Mu underlying152 h;rw[oN] at hcl;obtain⟨v0,v1,rfl⟩:=Hy hcl;obtain⟨y0,y1,rfl⟩:=Hy hyl;have f0:DataW.trod enc prog W base spare held n1 3 [v0]=some y0:=by simpa[ag] using hf 0 _ rfl
 have f1:DataW.trod enc prog W base spare held n1 3 [v1]=some y1:=by simpa[ag] using hf 1 _ rfl
 obtain⟨k,e0,rfl,_⟩:=Mm MY f0;obtain⟨m,e1,rfl,_⟩:=Mm MY f1;simp only[Ml,NW] at e0 e1;subst e0 e1;exact⟨(k,m),rfl⟩
theorem Hm{α:Type}{l:List α}(h:l.length=7):∃a0 a1 a2 a3 a4 a5 a6,l=[a0,a1,a2,a3,a4,a5,a6]:=by
 match l,h with
 | [a0,a1,a2,a3,a4,a5,a6],_=>exact⟨_,_,_,_,_,_,_,rfl⟩
theorem Hn{α:Type}{l:List α}(h:l.length=3):∃a0 a1 a2,l=[a0,a1,a2]:=by
 match l,h with
 | [a0,a1,a2],_=>exact⟨_,_,_,rfl⟩
theorem Iq{α:Type}{l:List α}(h:l.length=9):∃a0 a1 a2 a3 a4 a5 a6 a7 a8,l=[a0,a1,a2,a3,a4,a5,a6,a7,a8]:=by
 match l,h with
 | [a0,a1,a2,a3,a4,a5,a6,a7,a8],_=>exact⟨_,_,_,_,_,_,_,_,_,rfl⟩
theorem Ir{α:Type}{l:List α}(h:l.length=11):∃a0 a1 a2 a3 a4 a5 a6 a7 a8 a9 a10,l=[a0,a1,a2,a3,a4,a5,a6,a7,a8,a9,a10]:=by
 match l,h with
 | [a0,a1,a2,a3,a4,a5,a6,a7,a8,a9,a10],_=>exact⟨_,_,_,_,_,_,_,_,_,_,_,rfl⟩
theorem Ho{α:Type}{l:List α}(h:l.length=25):∃a0 a1 a2 a3 a4 a5 a6 a7 a8 a9 b0 b1 b2 b3 b4 b5 b6 b7 b8 b9 c0 c1 c2 c3 c4,l=[a0,a1,a2,a3,a4,a5,a6,a7,a8,a9,b0,b1,b2,b3,b4,b5,b6,b7,b8,b9,c0,c1,c2,c3,c4]:=by
 match l,h with
 | [a0,a1,a2,a3,a4,a5,a6,a7,a8,a9,b0,b1,b2,b3,b4,b5,b6,b7,b8,b9,c0,c1,c2,c3,c4],_=>exact⟨_,_,_,_,_,_,_,_,_,_,_,_,_,_,_,_,_,_,_,_,_,_,_,_,_,rfl⟩
theorem CP:∀(fuel:Nat) (cs:List Value) (y:DataW H×List MemPlace),DataW.trod enc prog W base spare held fuel 35 cs=some y->Et 35 y.1->∃x:fu,cs=mY x/\WX W x:=by
 intro fuel
 induction fuel using Nat.strongRecOn with
 | _ fuel ih=>
 intro cs y h hw;obtain⟨ys,n,rfl,rfl,hcl,hyl,hf⟩:=Mu Nj h;rw[jf] at hcl;obtain⟨v0,v1,v2,v3,v4,v5,v6,v7,v8,v9,v10,rfl⟩:=Ir hcl;obtain⟨y0,y1,y2,y3,y4,y5,y6,rfl⟩:=Hm hyl;have f0:DataW.trod enc prog W base spare held n 3 [v0]=some y0:=by simpa[ag] using hf 0 _ rfl
 have f1:DataW.trod enc prog W base spare held n 25 [v1]=some y1:=by simpa[ag,bQ] using hf 1 _ rfl
 have f2:DataW.trod enc prog W base spare held n 9 [v2]=some y2:=by simpa[ag,bQ,ak] using hf 2 _ rfl
 have f3:DataW.trod enc prog W base spare held n 25 [v3]=some y3:=by simpa[ag,bQ,ak] using hf 3 _ rfl
 have f4:DataW.trod enc prog W base spare held n 29 [v4,v5,v6,v7,v8]=some y4:=by simpa[ag,bQ,ak,bJ] using hf 4 _ rfl
 have f5:DataW.trod enc prog W base spare held n 3 [v9]=some y5:=by simpa[ag,bQ,ak,bJ] using hf 5 _ rfl
 have f6:DataW.trod enc prog W base spare held n 33 [v10]=some y6:=by simpa[ag,bQ,ak,bJ,wm] using hf 6 _ rfl
 obtain⟨hl,hk⟩:=hw;simp only[cC,DataW.weights,Nj,List.map,DataW.weightsEach,LY] at hl;simp only[Rows.uptoBulk,List.map,Rows.uptoBulkAll] at hk;obtain⟨k,e0,rfl,_⟩:=Mm MY f0;obtain⟨pA,pn,pc,ps,rfl,hps⟩:=je n f1 (fun z hz=>hl z (.inr (.inl hz)));obtain⟨s,e2,e2',_⟩:=NO MB f2;obtain⟨nA,nn,nc,ns,rfl,hns⟩:=je n f3 (fun z hz=>hl z (.inr (.inr (.inr (.inl hz)))));obtain⟨c,x,e4,hx⟩:=zd n _ _ f4 (fun z hz=>hl z (.inr (.inr (.inr (.inr (.inl hz))))));obtain⟨m,e5,rfl,_⟩:=Mm MY f5;have hsz:s.size<=aF:=Lt (hl s.size (.inr (.inr (.inl (by rw[e2'];simp[DataW.weights]))))) dG;obtain⟨kA,kn,kc,ks,rfl,hks,kz,_,hkk⟩:=sT mY 11 184 (by omega) tG (WX W) fu.zero underlying33 zK jf n (fun n' hn cs z h1 h2=>ih n' (by omega) cs z h1 h2) f6 ⟨fun z hz=>hl z (.inr (.inr (.inr (.inr (.inr (.inr (.inl hz))))))),by omega⟩;simp only[Ml,NW] at e0 e2 e5;subst e0 e2 e5;refine⟨.mk k ⟨pA,pn,pc,ps⟩ s ⟨nA,nn,nc,ns⟩ (c,x) m kA kn kc ks,?_,IF.shut ⟨hps,hsz,hns,hx,hks,kz,hkk⟩⟩;simp only[VC.list,Ml,NW] at e4;obtain⟨a4,a5,a6,a7,a8⟩:=e4;subst a4 a5 a6 a7 a8;rfl
theorem EX{α:Type}(l:List α):(l.map fun _=>1).sum=l.length:=by
 induction l with
 | nil=>rfl
 | cons x r ih=>simp only[Mb,QD,ih,Ll];omega
theorem GA(l:List ao):ao.sz.szL l=(l.map ao.sz).sum:=by
 induction l with
 | nil=>rfl
 | cons x r ih=>simp only[ao.sz.szL,Mb,QD,ih]
theorem zO:∀(fuel:Nat) (cs:List Value) (y:DataW H×List MemPlace),DataW.trod enc prog W base spare held fuel 38 cs=some y->Et 38 y.1->∃p:ao,cs=iG p/\(WP W p/\ij p)/\p.sz<=Rows.uptoBulk y.1:=by
 intro fuel
 induction fuel using Nat.strongRecOn with
 | _ fuel ih=>
 intro cs y h hw;obtain⟨ys,n,rfl,rfl,hcl,hyl,hf⟩:=Mu Ly h;rw[qI] at hcl;obtain⟨v0,v1,v2,v3,v4,v5,v6,v7,v8,v9,w0,w1,w2,w3,w4,w5,w6,w7,w8,w9,x0,x1,x2,x3,x4,rfl⟩:=Ho hcl;obtain⟨y0,y1,y2,y3,y4,y5,y6,y7,y8,rfl⟩:=Iq hyl
 have hTot:1+Rows.uptoBulk y3.1+Rows.uptoBulk y8.1<=Rows.uptoBulk (DataW.agg (List.map (·.1) [y0,y1,y2,y3,y4,y5,y6,y7,y8])):=by
  simp only[Rows.uptoBulk,List.map,Rows.uptoBulkAll];omega
 have f0:DataW.trod enc prog W base spare held n 3 [v0]=some y0:=by simpa[ag] using hf 0 _ rfl
 have f1:DataW.trod enc prog W base spare held n 25 [v1]=some y1:=by simpa[ag,bQ] using hf 1 _ rfl
 have f2:DataW.trod enc prog W base spare held n 29 [v2,v3,v4,v5,v6]=some y2:=by simpa[ag,bQ,bJ] using hf 2 _ rfl
 have f3:DataW.trod enc prog W base spare held n 26 [v7]=some y3:=by simpa[ag,bQ,bJ,eb] using hf 3 _ rfl
 have f4:DataW.trod enc prog W base spare held n 3 [v8]=some y4:=by simpa[ag,bQ,bJ,eb] using hf 4 _ rfl
 have f5:DataW.trod enc prog W base spare held n 3 [v9]=some y5:=by simpa[ag,bQ,bJ,eb] using hf 5 _ rfl
 have f6:DataW.trod enc prog W base spare held n 32 [w0,w1,w2]=some y6:=by simpa[ag,bQ,bJ,eb,kX] using hf 6 _ rfl
 have f7:DataW.trod enc prog W base spare held n 35 [w3,w4,w5,w6,w7,w8,w9,x0,x1,x2,x3]=some y7:=by simpa[ag,bQ,bJ,eb,kX,jf] using hf 7 _ rfl
 have f8:DataW.trod enc prog W base spare held n 36 [x4]=some y8:=by simpa[ag,bQ,bJ,eb,kX,jf,ws] using hf 8 _ rfl
 obtain⟨hl,hk⟩:=hw;simp only[cC,DataW.weights,Ly,List.map,DataW.weightsEach,LY] at hl;simp only[Rows.uptoBulk,List.map,Rows.uptoBulkAll] at hk;obtain⟨k,e0,rfl,_⟩:=Mm MY f0;obtain⟨pA,pn,pc,ps,rfl,hps⟩:=je n f1 (fun z hz=>hl z (.inr (.inl hz)));obtain⟨c,x,e2,hx,hnx⟩:=oM n _ _ f2 (fun z hz=>hl z (.inr (.inr (.inl hz))));have hls:Et 26 y3.1:=⟨fun z hz=>hl z (.inr (.inr (.inr (.inl hz)))),by omega⟩
 obtain⟨aA,an,ac,avs,rfl,has,az,afew,hrv,aB⟩:=mB (fun _=>1) bv 5 80 (by omega) dw (fun p=>RW W p.1 p.2/\cJ p.2) (VC.zero,aC.zero) Mh ki bJ n (fun n' hn cs z h1 h2=>by
  obtain⟨c,x,e,r,m⟩:=oM n' cs z h1 h2.1
  exact⟨(c,x),e,⟨r,m⟩,wh _⟩) f3 hls
 obtain⟨nn,e4,rfl,_⟩:=Mm MY f4;obtain⟨mm,e5,rfl,_⟩:=Mm MY f5;obtain⟨xe,e7,hxe⟩:=CP n _ _ f7 ⟨fun z hz=>hl z (.inr (.inr (.inr (.inr (.inr (.inr (.inr (.inl hz)))))))),by omega⟩;obtain⟨kA,kn,kc,ks,rfl,hks,kz,_,hkk,kB⟩:=mB ao.sz iG 25 400 (by omega) tH (fun k=>WP W k/\ij k) (.mk 0 .nil (VC.zero,aC.zero) .nil 0 0 0 .nil 0 fu.zero none 0 0 []) underlying36 zL qI n (fun n' hn cs z h1 h2=>ih n' (by omega) cs z h1 h2) f8 ⟨fun z hz=>hl z (.inr (.inr (.inr (.inr (.inr (.inr (.inr (.inr (.inl hz))))))))),by omega⟩;have hsh:Et 32 y6.1:=⟨fun z hz=>hl z (.inr (.inr (.inr (.inr (.inr (.inr (.inl hz))))))),by omega⟩;clear hl hk;obtain⟨ys6,n6,rfl,rfl,hcl6,hyl6,hf6⟩:=Mu Oy f6;obtain⟨z0,z1,z2,rfl⟩:=Hn hyl6;have g0:DataW.trod enc prog W base spare held n6 3 [w0]=some z0:=by simpa[ag] using hf6 0 _ rfl
 have g1:DataW.trod enc prog W base spare held n6 30 [w1]=some z1:=by simpa[ag,mq] using hf6 1 _ rfl
 have g2:DataW.trod enc prog W base spare held n6 3 [w2]=some z2:=by simpa[ag,mq] using hf6 2 _ rfl
 obtain⟨hl6,hk6⟩:=hsh;simp only[cC,DataW.weights,Oy,List.map,DataW.weightsEach,LY] at hl6;simp only[Rows.uptoBulk,List.map,Rows.uptoBulkAll] at hk6;obtain⟨sk,d0,rfl,_⟩:=Mm MY g0
 obtain⟨sA,sn,sc,ss,rfl,hss,sz,_,_⟩:=sT rL 2 16 (by omega) tI (fun _=>True) (0,0) underlying30 wk oN n6 (fun n' hn cs z h1 h2=>by
  obtain⟨p,e⟩:=zN n' cs z h1
  exact⟨p,e,trivial⟩) g1 ⟨fun z hz=>hl6 z (.inr (.inl hz)),by omega⟩
 obtain⟨sr,d2,rfl,_⟩:=Mm MY g2;simp only[Ml,NW] at e0 e4 e5 d0 d2;subst e0 e4 e5 d0 d2
 have hblk:0<an->∃b off,aA=some ⟨b,off,none⟩/\Ft (fun _=>True) W b:=fun hn=>by
  obtain⟨b,off,e,_,_⟩:=has.el hn;exact⟨b,off,e,Ft.Kp⟩
 refine⟨.mk k ⟨pA,pn,pc,ps⟩ (c,x) ⟨aA,an,ac,avs⟩ nn mm sk ⟨sA,sn,sc,ss⟩ sr xe kA kn kc ks,?_,⟨Hz.shut ⟨hps,hx,⟨has,az,hblk,fun p hp=>(hrv p hp).1⟩,afew,hss,sz,hxe,hks,kz,fun k hk=>(hkk k hk).1⟩,(sF _).2 ⟨hnx,fun x hx=>(hrv x hx).2,fun k hk=>(hkk k hk).2⟩⟩,?_⟩;rotate_left
 ·rw[ao.Jx,GA];refine Lt ?_ hTot;have e:(avs.map fun _=>1).sum=an:=(EX avs).trans has.ln.symm;rw[e] at aB;show 1+an+(ks.map ao.sz).sum<=_;omega
 simp only[VC.list,Ml,NW] at e2;obtain⟨a4,a5,a6,a7,a8⟩:=e2;subst a4 a5 a6 a7 a8;simp only[mY,Ml,NW] at e7;obtain⟨b0,b1,b2,b3,b4,b5,b6,b7,b8,b9,b10⟩:=e7;subst b0 b1 b2 b3 b4 b5 b6 b7 b8 b9 b10;rfl
theorem CQ(fuel:Nat)(cs:List Value)(y:DataW H×List MemPlace)(h:DataW.trod enc prog W base spare held fuel 38 cs=some y)(hw:Et 38 y.1):∃p:ao,cs=iG p/\WP W p/\ij p:=by
 obtain⟨p,e,k,_⟩:=zO fuel cs y h hw;exact⟨p,e,k⟩
theorem CR{r:Reach}{b0:Nat}{v:Value}{d:DataW H}{p:List MemPlace}(hv:Value.okWide prog W r b0 38 v)(h:DataW.Trod enc prog W base spare held 38 v d p)(hw:Et 38 d):∃q:ao,v=am q/\WP W q/\ij q:=by
 obtain⟨cs,rfl,hsz⟩:=okWide_struct Ly hv;obtain⟨fuel,hf⟩:=h;obtain⟨q,hc,hx,hn⟩:=CQ fuel _ _ hf hw;refine⟨q,?_,hx,hn⟩;obtain⟨l⟩:=cs;simp only[Value.cells] at hc;rw[show l=iG q from hc];rfl
end
end Go.Proofs.YthfahkaadbdicaaGreatDoor
namespace Go.Proofs.YthfahkaadbdicaaGreatDoor.routerTargets
open Go Go.Shelf Go.ChangeShapes Go.WideShapes Go.ChangeAt Go.RowKit Go.Lib
set_option linter.unusedVariables false
theorem own:ownKnob Tryz.prog.godebug=none:=by kernel_rfl
theorem AT:laidOutB prog=true:=by kernel_rfl
theorem CT:Rows.laid_unicode_utf8_acceptRanges=Lib.acceptData:=by kernel_rfl
theorem EY:Rows.laid_unicode_utf8_first=Lib.firstData:=Go.Pinned.utf8First_eq
noncomputable def lE(os:Os):World:=
 let w0:=World.holding prog os ⟨#[],#[],[]⟩
 let put (h:Array Obj) (g:Nat) (cs:Array Value):Array Obj:=h.modify g fun
  | .cells _ t frozen=>.cells cs t frozen
  | o=>o
 let h1:=put w0.heap 0 (Lib.firstTab.map fun z=>Value.int .u8 z).toArray
 let h2:=put h1 1 ((List.range 16).flatMap fun i=>[Value.int .u8 (Lib.accLo i),Value.int .u8 (Lib.accHi i)]).toArray
 {w0 with heap:=h2}
theorem EZ(os:Os)(args:Array Value):laidMet prog Rows.routerTargetsUptoRow.laid ((lE os).forCall (fun _ _=>0) ⟨#[],args,[]⟩).memory:=
 (LaidIn.of_run (l := [("unicode/utf8.acceptRanges", Rows.laid_unicode_utf8_acceptRanges), ("unicode/utf8.first", Rows.laid_unicode_utf8_first)]) [1, 0] 8 (by kernel_rfl) (by kernel_rfl) (by kernel_rfl) (by kernel_rfl)).met
theorem wu(os:Os){H:Type}(enc:TypeId×Value->H):
 (Rows.OpenSpec.upto Rows.routerTargetsSpec).preRow enc prog Tryz.f4 Rows.routerTargetsUptoRow.domain false Rows.routerTargetsUptoRow.laid ((lE os).forCall (fun _ _=>0) ⟨#[],#[.agg #[.string ⟨#[]⟩,.slice none 0 0,.bool false,.int .i64 0,.int .i64 0,.slice none 0 0],.agg #[.int .i64 0,.slice none 0 0,.int .i64 0,.int .i64 0,.string ⟨#[]⟩,.slice none 0 0,.slice none 0 0,.slice none 0 0,.int .i64 0,.int .i64 0,.int .i64 0,.slice none 0 0,.int .i64 0,.int .i64 0,.slice none 0 0,.string ⟨#[]⟩,.slice none 0 0,.int .i64 0,.int .i64 0,.string ⟨#[]⟩,.slice none 0 0,.slice none 0 0,.int .i64 0,.slice none 0 0,.slice none 0 0]],[]⟩).memory #[.agg #[.string ⟨#[]⟩,.slice none 0 0,.bool false,.int .i64 0,.int .i64 0,.slice none 0 0],.agg #[.int .i64 0,.slice none 0 0,.int .i64 0,.int .i64 0,.string ⟨#[]⟩,.slice none 0 0,.slice none 0 0,.slice none 0 0,.int .i64 0,.int .i64 0,.int .i64 0,.slice none 0 0,.int .i64 0,.int .i64 0,.slice none 0 0,.string ⟨#[]⟩,.slice none 0 0,.int .i64 0,.int .i64 0,.string ⟨#[]⟩,.slice none 0 0,.slice none 0 0,.int .i64 0,.slice none 0 0,.slice none 0 0]]:=by
 have hw:(DataW.whole enc prog ((lE os).forCall (fun _ _=>0) ⟨#[],#[.agg #[.string ⟨#[]⟩,.slice none 0 0,.bool false,.int .i64 0,.int .i64 0,.slice none 0 0],.agg #[.int .i64 0,.slice none 0 0,.int .i64 0,.int .i64 0,.string ⟨#[]⟩,.slice none 0 0,.slice none 0 0,.slice none 0 0,.int .i64 0,.int .i64 0,.int .i64 0,.slice none 0 0,.int .i64 0,.int .i64 0,.slice none 0 0,.string ⟨#[]⟩,.slice none 0 0,.int .i64 0,.int .i64 0,.string ⟨#[]⟩,.slice none 0 0,.slice none 0 0,.int .i64 0,.slice none 0 0,.slice none 0 0]],[]⟩).memory Tryz.f4.params.toList (Rows.OpenSpec.upto Rows.routerTargetsSpec).vars false (#[.agg #[.string ⟨#[]⟩,.slice none 0 0,.bool false,.int .i64 0,.int .i64 0,.slice none 0 0],.agg #[.int .i64 0,.slice none 0 0,.int .i64 0,.int .i64 0,.string ⟨#[]⟩,.slice none 0 0,.slice none 0 0,.slice none 0 0,.int .i64 0,.int .i64 0,.int .i64 0,.slice none 0 0,.int .i64 0,.int .i64 0,.slice none 0 0,.string ⟨#[]⟩,.slice none 0 0,.int .i64 0,.int .i64 0,.string ⟨#[]⟩,.slice none 0 0,.slice none 0 0,.int .i64 0,.slice none 0 0,.slice none 0 0]]:Array Value).toList 8).map (fun x=>(x.1,x.2.1))=
  some ([.agg [.lit (.string []),.agg [.nil,.lit (.bool false)],.lit (.int .i64 0),.lit (.int .i64 0),.nil],.agg [.lit (.int .i64 0),.nil,.agg [.lit (.int .i64 0),.lit (.int .i64 0),.lit (.string []),.nil,.nil],.nil,.lit (.int .i64 0),.lit (.int .i64 0),.agg [.lit (.int .i64 0),.nil,.lit (.int .i64 0)],.agg [.lit (.int .i64 0),.nil,.lit (.string []),.nil,.agg [.lit (.int .i64 0),.lit (.int .i64 0),.lit (.string []),.nil,.nil],.lit (.int .i64 0),.nil],.nil]],[]):=by kernel_rfl
 obtain⟨⟨x1,x2,x3⟩,hx,hx1⟩:=Mn.1 hw;simp only[OL] at hx1;obtain⟨rfl,rfl⟩:=hx1;exact OpenSpec.preRow_of_cond 8 hx (by kernel_rfl) (fun k hk=>by cases hk;kernel_rfl) (by kernel_rfl) (EZ os _)
theorem Hp(os:Os)(started:os.Started)(H:Type)(enc:TypeId×Value->H)(F0:Stop.Interp):
 ReturnsInHanded {} Tryz.checked os 4 .any ((Rows.OpenSpec.upto Rows.routerTargetsSpec).preRow enc prog Tryz.f4 Rows.routerTargetsUptoRow.domain false Rows.routerTargetsUptoRow.laid) (((Rows.OpenSpec.upto Rows.routerTargetsSpec).at F0).post enc prog Tryz.f4 false true false false):=by
 refine returnsInHanded_of_row (C:=Tryz.checked) (s:=Rows.OpenSpec.upto Rows.routerTargetsSpec) own started (by kernel_rfl) func4
  (witness_row_atRef (enc:=enc) (C:=Tryz.checked) false (lE os) #[.agg #[.string ⟨#[]⟩,.slice none 0 0,.bool false,.int .i64 0,.int .i64 0,.slice none 0 0],.agg #[.int .i64 0,.slice none 0 0,.int .i64 0,.int .i64 0,.string ⟨#[]⟩,.slice none 0 0,.slice none 0 0,.slice none 0 0,.int .i64 0,.int .i64 0,.int .i64 0,.slice none 0 0,.int .i64 0,.int .i64 0,.slice none 0 0,.string ⟨#[]⟩,.slice none 0 0,.int .i64 0,.int .i64 0,.string ⟨#[]⟩,.slice none 0 0,.slice none 0 0,.int .i64 0,.slice none 0 0,.slice none 0 0]] rfl (by kernel_rfl) (by kernel_rfl) (by kernel_rfl) (wu os enc)) ?_
 intro W base args ds gs before hval0 hW hq1 hq2 hwt hL hq5 hq6;have hval:∀(j:Nat) t v,Tryz.f4.params[j]?=some t->args[j]?=some v->Value.okWide prog W .any base t v:=hval0;have hW':=hW;obtain⟨p,q,hA0,hV,rfl,hfz,hnd⟩:=hW;have hA:DataW.TrodAll enc prog W 0 (fun _=>true) true Tryz.f4.params.toList args.toList ds p:=hA0;rw[Tryz.params4] at hA hval hwt;obtain⟨v0,vs0,d0,ds0,p0,q0,hargs,rfl,rfl,h0,r0⟩:=trodAll_cons hA;obtain⟨v1,vs1,d1,ds1,p1,q1,rfl,rfl,rfl,h1,r1⟩:=trodAll_cons r0;obtain⟨rfl,rfl,rfl⟩:=trodAll_nil r1;obtain rfl:args=#[v0,v1]:=by cases args;simp_all
 obtain⟨rfl,rfl⟩:=trodVars_none hV;obtain⟨hlt0,hwt0⟩:=qg hwt;obtain⟨hlt1,hwt1⟩:=qg hwt0;have hk9:=NN (hq2 _ rfl);simp only[Lm,Rows.uptoBulkAll] at hk9;have bulk0:Rows.uptoBulk d0<=1048576:=by omega
 have bulk1:Rows.uptoBulk d1<=1048576:=by omega
 have trd0:=h0;have lt0:∀x∈p0,x.block<W.heap.size:=by obtain⟨m,hm⟩:=trd0;exact DataW.trod_lt m _ _ _ hm
 obtain⟨ra0,R0,rfl,o0⟩:=wg (hval 0 53 v0 rfl rfl) h0 hlt0;have trd1:=h1;have lt1:∀x∈p1,x.block<W.heap.size:=by obtain⟨m,hm⟩:=trd1;exact DataW.trod_lt m _ _ _ hm
 obtain⟨q1,rfl,o1,m1⟩:=CR (hval 1 38 v1 rfl rfl) h1 ⟨hlt1,bulk1⟩;clear hA0 hval0
 have htab:cg W:=by
  have r1:=Lib.laidMet.reads hL (.tail _ (.head _));have r2:=Lib.laidMet.reads hL (.head _);rw[EY] at r1;rw[CT] at r2;exact utf8Tabs_of_readsT (U8Types.of196 sV) ⟨by kernel_rfl,by kernel_rfl,by kernel_rfl,by kernel_rfl,by kernel_rfl,by kernel_rfl,by kernel_rfl⟩ r1 r2
 refine(ly R0 ra0 q1 W htab o0 o1 m1).mono fun e W' ⟨he,bel⟩=>?_;subst he;exact⟨_,rfl,_,_,_,[],_,[],hW',trodAll_mk1 (shut_bool NL _),(trodAll_cons_mk (Below.trod AT (by kernel_rfl) (NN (by kernel_rfl)) trd0 bel lt0) (trodAll_cons_mk (Below.trod AT (by kernel_rfl) (NN (by kernel_rfl)) trd1 bel lt1) trodAll_mk0)),rfl,bel.frame _,fun h=>by cases h⟩
theorem JX:Rows.RouterTargetsUptoSaid:=
 OpenClaim.holds_of_cond 4 Tryz.f4 rfl rfl rfl rfl rfl rfl rfl ⟨rfl,rfl,rfl,rfl,rfl⟩ rfl rfl rfl rfl rfl (by kernel_rfl) func4 (by kernel_rfl)
  (NN (by kernel_rfl)) (by unfold Func.isWrapper;first|(rw[LZ (by decide+kernel)];kernel_rfl)|(rw[LU (by decide+kernel)];exact⟨rfl,rfl⟩))
  (fun os started H enc _ F0=>by rw[OpenClaim.pre_eq_preRow];exact Hp os started H enc F0)
theorem proved:Rows.RouterTargetsUptoCardSaid:=
 Claim7.holds_tied_plain_at .later [] [.data, .pinned] true (true, "b2f819cff66ea0f01c1a802b860539f4bc237fe2ca9dbc1adb911771add71f47") false
  JX (fun _ h=>by cases h) (by kernel_rfl) (fun _ h=>by cases h) routerTargetsUpto_row_tie rfl ⟨rfl,rfl⟩ (by kernel_rfl) rfl
  (fun f fn hf hfn=>by
    obtain rfl : f = 4 := Mk ((show Tryz.prog.funcNamed "docstore/docstorelaw50.RouterTargets" = some 4 by kernel_rfl).symm.trans hf) |>.symm
    obtain rfl:fn=Tryz.f4:=(Mk (Tryz.func4.symm.trans hfn)).symm
    exact⟨by kernel_rfl,fun j t ht=>by
     rw[Tryz.params4] at ht
     have h3:t=53\/t=38:=by
      rcases j with _|j
      ·exact .inl (by simpa using ht.symm)
      rcases j with _|j
      ·exact .inr (by simpa using ht.symm)
      ·simp at ht
     rcases h3 with rfl|rfl
     ·exact(show Tryz.prog.wantsStandIn 53=false by kernel_rfl)
     ·exact(show Tryz.prog.wantsStandIn 38=false by kernel_rfl)⟩)
  (by kernel_rfl)
#print axioms proved
end Go.Proofs.YthfahkaadbdicaaGreatDoor.routerTargets
