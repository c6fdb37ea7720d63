/- Parts of the proof, joined: IvCompare, SortISp, SortRSp, SortMSp. -/
import Derived.Test.YthfahkaadbdicaaGreatDoorRt1
import Derived.Test.YthfahkaadbdicaaGreatDoorRt6
import Derived.Test.YthfahkaadbdicaaGreatDoorRt7
import Derived.IntWalk
set_option maxRecDepth 100000
set_option maxHeartbeats 16000000
set_option linter.unusedSimpArgs false
open Go.Proofs.Tryz
open ByteArray (empty)
namespace Go.Proofs.YthfahkaadbdicaaGreatDoor
open Go.RowKit
theorem ir(p q:PC)(w:World)(hp:Hs w p)(hq:Hs w q):
 Calls prog 204 #[Cc p,Cc q] w fun e w'=>e=.returned (.int .i64 (ae (ia p) (ia q)))/\Below w.heap.size w w':=by
 have HP:=qD hp;have HQ:=qD hq;have Z2:=qD (((LH w.heap.size w).alloc (qL) (Obj.cells (uE p) 165)).alloc (by simp) (Obj.cells (uE q) 165));have B0:Hid (aE ((w.alloc (.cells (uE p) 165)).alloc (.cells (uE q) 165)) w.heap.size 165 (uE p)):=(aE.Jq rfl).alloc _;have B1:Hid (aE ((w.alloc (.cells (uE p) 165)).alloc (.cells (uE q) 165)) (w.heap.size+1) 165 (uE q)):=aE.Jq (by simp);clear hp hq;go_enter func204,ntmps204;go_wp2_with fail;refine(AZ p.1.2 q.1.2 p.1.1 q.1.1 _ (HP.out.step Z2.out) (HQ.out.step Z2.out)).mono ?_;rintro e w1 ⟨rfl,hb1⟩;have Z1:=qD (Z2.out.Jp hb1);obtain⟨_,p5⟩:=Cd.Jr (B0.out.step hb1);obtain⟨_,q5⟩:=Cd.Jr (B1.out.step hb1);simp only[LL] at p5 q5;clear hb1;by_cases h0:aU p.1.2 q.1.2=0
 ·have HC:Hid (ae (ia p) (ia q)=xS p.2 q.2):=fC (a:=ia p) (b:=ia q) h0;rw[h0];clear h0;cases h1:p.2<;>cases h2:q.2
  all_goals
   rw[h1] at p5;rw[h2] at q5;rw[h1,h2] at HC;clear h1 h2;go_wp2_with fail;go_ret;exact⟨by rw[HC.out];rfl,Z1.out⟩
 ·have HC:Hid (ae (ia p) (ia q)=aU p.1.2 q.1.2):=mG (a:=ia p) (b:=ia q) h0;have h1:(aU p.1.2 q.1.2 != 0)=true:=by simpa using h0
  clear h0;go_wp2_with fail;go_ret;exact⟨by rw[HC.out];rfl,Z1.out⟩
theorem Ei(p q:PS)(w:World)(hp:xO w p)(hq:xO w q):
 Calls prog 203 #[xN p,xN q] w fun e w'=>e=.returned (.int .i64 (ae (al p).1 (al q).1))/\Below w.heap.size w w':=by
 have HP:=qD hp;have HQ:=qD hq;have Z2:=qD (((LH w.heap.size w).alloc (qL) (Obj.cells (ib p) 167)).alloc (by simp) (Obj.cells (ib q) 167));clear hp hq;go_enter func203,ntmps203;go_wp2_with fail;refine(ir p.1 q.1 _ (HP.out.step Z2.out).1 (HQ.out.step Z2.out).1).mono ?_;rintro e w1 ⟨rfl,hb1⟩;go_wp2_with fail;go_ret;exact⟨rfl,Z2.out.Jp hb1⟩
theorem wrap_i64'{a:Int}(h1:-9223372036854775808<=a)(h2:a<=9223372036854775807):IntKind.i64.wrap a=a:=IntWalk.i64_in _ ⟨h1,h2⟩
def gG(e:PS×Nat):List Value:=dP e.1
theorem gN(e:PS×Nat):(gG e).length=12:=db e.1
def bV(w:World)(g:Nat)(L:List (PS×Nat)):Prop:=∃R:List Value,aE w g 167 (aJ gG L++R).toArray
theorem oR{α:Type}:∀(vs l R:List α) (k:Nat),k+vs.length<=l.length->cF (l++R) k vs=cF l k vs++R:=by
 intro vs
 induction vs with
 | nil=>intro l R k _;rfl
 | cons v vs ih=>
  intro l R k h;simp only[Ll] at h;rw[cF,cF,List.set_append_left _ _ (by omega),ih _ _ _ (by rw[NK];omega)]
abbrev lU(p:PS×Nat):Value:=.agg #[.int .i64 p.1.1.1.1.k,.int .i64 p.1.1.1.1.n,.string p.1.1.1.1.t,.slice p.1.1.1.1.LA p.1.1.1.1.ln p.1.1.1.1.lc,.slice p.1.1.1.1.DA p.1.1.1.1.dn p.1.1.1.1.dc,.bool p.1.1.2,.int .i64 p.1.2.1.1.k,.int .i64 p.1.2.1.1.n,.string p.1.2.1.1.t,.slice p.1.2.1.1.LA p.1.2.1.1.ln p.1.2.1.1.lc,.slice p.1.2.1.1.DA p.1.2.1.1.dn p.1.2.1.1.dc,.bool p.1.2.2]
section
variable {w w':World} {g:Nat} {L:List (PS×Nat)}
theorem bV.cell(h:bV w g L){j:Nat}{p:PS×Nat}(hj:L[j]?=some p)(i:Nat)(v:Value)(hi:(gG p)[i]?=some v):w.cell? ⟨g,j*12+i,none⟩=some v:=by
 obtain⟨R,h⟩:=h;have hf:=bg gN hj hi;rw[aE.cell h (j*12+i),Mx,MG (LJ.1 hf).1];exact hf
theorem bV.step(h:bV w g L)(hb:Below w.heap.size w w'):bV w' g L:=by obtain⟨R,h⟩:=h;exact⟨R,aE.step h hb⟩
theorem bV.drew(h:bV w g L):bV w.drew g L:=by obtain⟨R,h⟩:=h;exact⟨R,aE.drew h⟩
theorem bV.frozen(h:bV w g L)(i:Nat):w.frozen? ⟨g,i,none⟩=false:=by obtain⟨R,h⟩:=h;exact aE.frozen h i
theorem bV.lt(h:bV w g L):g<w.heap.size:=by obtain⟨R,h⟩:=h;exact aE.lt h
theorem bV.put(h:bV w g L){j:Nat}(hj:j<L.length)(p:PS×Nat):bV ((((((((((((w.setCell ⟨g,j*12,none⟩ (.int .i64 p.1.1.1.1.k)).setCell ⟨g,j*12+1,none⟩ (.int .i64 p.1.1.1.1.n)).setCell ⟨g,j*12+2,none⟩ (.string p.1.1.1.1.t)).setCell ⟨g,j*12+3,none⟩ (.slice p.1.1.1.1.LA p.1.1.1.1.ln p.1.1.1.1.lc)).setCell ⟨g,j*12+4,none⟩ (.slice p.1.1.1.1.DA p.1.1.1.1.dn p.1.1.1.1.dc)).setCell ⟨g,j*12+5,none⟩ (.bool p.1.1.2)).setCell ⟨g,j*12+6,none⟩ (.int .i64 p.1.2.1.1.k)).setCell ⟨g,j*12+7,none⟩ (.int .i64 p.1.2.1.1.n)).setCell ⟨g,j*12+8,none⟩ (.string p.1.2.1.1.t)).setCell ⟨g,j*12+9,none⟩ (.slice p.1.2.1.1.LA p.1.2.1.1.ln p.1.2.1.1.lc)).setCell ⟨g,j*12+10,none⟩ (.slice p.1.2.1.1.DA p.1.2.1.1.dn p.1.2.1.1.dc)).setCell ⟨g,j*12+11,none⟩ (.bool p.1.2.2)) g (L.set j p):=by
 obtain⟨R,h⟩:=h;have hl:=bP gN L
 have e:aJ gG (L.set j p)++R=cF (aJ gG L++R) (j*12) (gG p):=by
  rw[xM gN L j p hj,oR _ _ _ _ (by rw[gN];omega)]
 refine⟨R,?_⟩;rw[e];clear e hl;generalize aJ gG L++R=X at h ⊢;have:=aE.Js (aE.Js (aE.Js (aE.Js (aE.Js (aE.Js (aE.Js (aE.Js (aE.Js (aE.Js (aE.Js (aE.Js h (j*12) (.int .i64 p.1.1.1.1.k)) (j*12+1) (.int .i64 p.1.1.1.1.n)) (j*12+2) (.string p.1.1.1.1.t)) (j*12+3) (.slice p.1.1.1.1.LA p.1.1.1.1.ln p.1.1.1.1.lc)) (j*12+4) (.slice p.1.1.1.1.DA p.1.1.1.1.dn p.1.1.1.1.dc)) (j*12+5) (.bool p.1.1.2)) (j*12+6) (.int .i64 p.1.2.1.1.k)) (j*12+7) (.int .i64 p.1.2.1.1.n)) (j*12+8) (.string p.1.2.1.1.t)) (j*12+9) (.slice p.1.2.1.1.LA p.1.2.1.1.ln p.1.2.1.1.lc)) (j*12+10) (.slice p.1.2.1.1.DA p.1.2.1.1.dn p.1.2.1.1.dc)) (j*12+11) (.bool p.1.2.2);rw[show(cF X (j*12) (gG p)).toArray=((((((((((((X.toArray.setIfInBounds (j*12) (.int .i64 p.1.1.1.1.k)).setIfInBounds (j*12+1) (.int .i64 p.1.1.1.1.n)).setIfInBounds (j*12+2) (.string p.1.1.1.1.t)).setIfInBounds (j*12+3) (.slice p.1.1.1.1.LA p.1.1.1.1.ln p.1.1.1.1.lc)).setIfInBounds (j*12+4) (.slice p.1.1.1.1.DA p.1.1.1.1.dn p.1.1.1.1.dc)).setIfInBounds (j*12+5) (.bool p.1.1.2)).setIfInBounds (j*12+6) (.int .i64 p.1.2.1.1.k)).setIfInBounds (j*12+7) (.int .i64 p.1.2.1.1.n)).setIfInBounds (j*12+8) (.string p.1.2.1.1.t)).setIfInBounds (j*12+9) (.slice p.1.2.1.1.LA p.1.2.1.1.ln p.1.2.1.1.lc)).setIfInBounds (j*12+10) (.slice p.1.2.1.1.DA p.1.2.1.1.dn p.1.2.1.1.dc)).setIfInBounds (j*12+11) (.bool p.1.2.2)) from by simp[cF,gG,dP,kf,bv,VC.list]];exact this
end
theorem lJ{α:Type}(A S3 S2 E:List α)(x y:α):((A++((S3++[y])++x::S2)++E).set (A.length+(S3.length+1)) y).set (A.length+(S3.length+1)-1) x=A++(S3++x::y::S2)++E:=by
 rw[show A.length+(S3.length+1)-1=A.length+S3.length by omega];simp
def it(g:Nat)(w:World)(U:List (PS×Nat)):Prop:=∀(x y:PS×Nat),x∈U->y∈U->∀wr,ey g w wr->
 Calls prog 203 #[lU x,lU y] wr fun e w'=>e=.returned (.int .i64 (ae (al x.1).1 (al y.1).1))/\Below wr.heap.size wr w'
structure dM(g:Nat)(w:World)(L:List (PS×Nat))(wr:World):Prop where
 row:bV wr g L
 but:ey g w wr
theorem dM.step{g:Nat}{w wr w':World}{L:List (PS×Nat)}(h:dM g w L wr)(hb:Below wr.heap.size wr w'):dM g w L w':=⟨h.row.step hb,h.but.step hb⟩
theorem dM.swap{g:Nat}{w w2:World}{L:List (PS×Nat)}(h:dM g w L w2){jj:Nat}(hl:jj<L.length)(x y:PS×Nat):dM g w ((L.set jj y).set (jj-1) x) ((((((((((((((((((((((((w2.setCell ⟨g,jj*12,none⟩ (.int .i64 y.1.1.1.1.k)).setCell ⟨g,jj*12+1,none⟩ (.int .i64 y.1.1.1.1.n)).setCell ⟨g,jj*12+2,none⟩ (.string y.1.1.1.1.t)).setCell ⟨g,jj*12+3,none⟩ (.slice y.1.1.1.1.LA y.1.1.1.1.ln y.1.1.1.1.lc)).setCell ⟨g,jj*12+4,none⟩ (.slice y.1.1.1.1.DA y.1.1.1.1.dn y.1.1.1.1.dc)).setCell ⟨g,jj*12+5,none⟩ (.bool y.1.1.2)).setCell ⟨g,jj*12+6,none⟩ (.int .i64 y.1.2.1.1.k)).setCell ⟨g,jj*12+7,none⟩ (.int .i64 y.1.2.1.1.n)).setCell ⟨g,jj*12+8,none⟩ (.string y.1.2.1.1.t)).setCell ⟨g,jj*12+9,none⟩ (.slice y.1.2.1.1.LA y.1.2.1.1.ln y.1.2.1.1.lc)).setCell ⟨g,jj*12+10,none⟩ (.slice y.1.2.1.1.DA y.1.2.1.1.dn y.1.2.1.1.dc)).setCell ⟨g,jj*12+11,none⟩ (.bool y.1.2.2)).setCell ⟨g,(jj-1)*12,none⟩ (.int .i64 x.1.1.1.1.k)).setCell ⟨g,(jj-1)*12+1,none⟩ (.int .i64 x.1.1.1.1.n)).setCell ⟨g,(jj-1)*12+2,none⟩ (.string x.1.1.1.1.t)).setCell ⟨g,(jj-1)*12+3,none⟩ (.slice x.1.1.1.1.LA x.1.1.1.1.ln x.1.1.1.1.lc)).setCell ⟨g,(jj-1)*12+4,none⟩ (.slice x.1.1.1.1.DA x.1.1.1.1.dn x.1.1.1.1.dc)).setCell ⟨g,(jj-1)*12+5,none⟩ (.bool x.1.1.2)).setCell ⟨g,(jj-1)*12+6,none⟩ (.int .i64 x.1.2.1.1.k)).setCell ⟨g,(jj-1)*12+7,none⟩ (.int .i64 x.1.2.1.1.n)).setCell ⟨g,(jj-1)*12+8,none⟩ (.string x.1.2.1.1.t)).setCell ⟨g,(jj-1)*12+9,none⟩ (.slice x.1.2.1.1.LA x.1.2.1.1.ln x.1.2.1.1.lc)).setCell ⟨g,(jj-1)*12+10,none⟩ (.slice x.1.2.1.1.DA x.1.2.1.1.dn x.1.2.1.1.dc)).setCell ⟨g,(jj-1)*12+11,none⟩ (.bool x.1.2.2)).drew:=
 ⟨bV.drew ((h.row.put hl y).put (j:=jj-1) (by rw[NK];omega) x),ey.step ((((((((((((((((((((((((h.but.set (p:=⟨g,jj*12,none⟩) rfl (.int .i64 y.1.1.1.1.k)).set (p:=⟨g,jj*12+1,none⟩) rfl (.int .i64 y.1.1.1.1.n)).set (p:=⟨g,jj*12+2,none⟩) rfl (.string y.1.1.1.1.t)).set (p:=⟨g,jj*12+3,none⟩) rfl (.slice y.1.1.1.1.LA y.1.1.1.1.ln y.1.1.1.1.lc)).set (p:=⟨g,jj*12+4,none⟩) rfl (.slice y.1.1.1.1.DA y.1.1.1.1.dn y.1.1.1.1.dc)).set (p:=⟨g,jj*12+5,none⟩) rfl (.bool y.1.1.2)).set (p:=⟨g,jj*12+6,none⟩) rfl (.int .i64 y.1.2.1.1.k)).set (p:=⟨g,jj*12+7,none⟩) rfl (.int .i64 y.1.2.1.1.n)).set (p:=⟨g,jj*12+8,none⟩) rfl (.string y.1.2.1.1.t)).set (p:=⟨g,jj*12+9,none⟩) rfl (.slice y.1.2.1.1.LA y.1.2.1.1.ln y.1.2.1.1.lc)).set (p:=⟨g,jj*12+10,none⟩) rfl (.slice y.1.2.1.1.DA y.1.2.1.1.dn y.1.2.1.1.dc)).set (p:=⟨g,jj*12+11,none⟩) rfl (.bool y.1.2.2)).set (p:=⟨g,(jj-1)*12,none⟩) rfl (.int .i64 x.1.1.1.1.k)).set (p:=⟨g,(jj-1)*12+1,none⟩) rfl (.int .i64 x.1.1.1.1.n)).set (p:=⟨g,(jj-1)*12+2,none⟩) rfl (.string x.1.1.1.1.t)).set (p:=⟨g,(jj-1)*12+3,none⟩) rfl (.slice x.1.1.1.1.LA x.1.1.1.1.ln x.1.1.1.1.lc)).set (p:=⟨g,(jj-1)*12+4,none⟩) rfl (.slice x.1.1.1.1.DA x.1.1.1.1.dn x.1.1.1.1.dc)).set (p:=⟨g,(jj-1)*12+5,none⟩) rfl (.bool x.1.1.2)).set (p:=⟨g,(jj-1)*12+6,none⟩) rfl (.int .i64 x.1.2.1.1.k)).set (p:=⟨g,(jj-1)*12+7,none⟩) rfl (.int .i64 x.1.2.1.1.n)).set (p:=⟨g,(jj-1)*12+8,none⟩) rfl (.string x.1.2.1.1.t)).set (p:=⟨g,(jj-1)*12+9,none⟩) rfl (.slice x.1.2.1.1.LA x.1.2.1.1.ln x.1.2.1.1.lc)).set (p:=⟨g,(jj-1)*12+10,none⟩) rfl (.slice x.1.2.1.1.DA x.1.2.1.1.dn x.1.2.1.1.dc)).set (p:=⟨g,(jj-1)*12+11,none⟩) rfl (.bool x.1.2.2)) ((LH _ _).drew)⟩
def qY(g:Nat)(w:World)(A Seg D:List (PS×Nat))(e:Ending)(w':World):Prop:=
 e=.returned (.tuple #[])/\∃S,aR (fun p q:PS=>ae (al p).1 (al q).1) Seg S/\dM g w (A++S++D) w'
theorem oS(H:cL (fun p q:PS=>ae (al p).1 (al q).1))(A Seg D:List (PS×Nat))(g n c a b:Nat)(w:World)(hr:bV w g (A++Seg++D))(hn:n=(A++Seg++D).length)(ha:a=A.length)(hb:b=A.length+Seg.length)(hz:n*176<=aF)(ht:gE Seg)(hc:it g w Seg):
 Calls prog 266 #[.slice (some ⟨g,0,none⟩) n c,.int .i64 a,.int .i64 b,.func (.func 203) #[] #[]] w (qY g w A Seg D):=by
 unfold aF at hz;have HN:=qD hn;have HA:=qD ha;have HBq:=qD hb;have hab:a<=b:=by omega
 have hbn:b<=n:=by rw[hn];simp;omega
 have HC:=qD hc;have HT:=qD ht;have HO:=qD H;have I0:Hid (dM g w (A++Seg++D) w):=qD ⟨hr,ey.refl⟩;clear hr hn ha hb ht hc H;cases hs:Seg with
 | nil=>
  have hab':b<=a:=by have:=HA.out;have:=HBq.out;rw[hs] at this;simp at this;omega
  have HS:=qD hs;clear hs;go_enter func266,ntmps266;go_wp2_with fail
  go_loopw [8] (fun v8 wr=>v8=.int .i64 (a+1)/\wr=w) (fun _ _=>0)
  ·exact⟨by go_num,rfl⟩
  case round=>
   obtain⟨rfl,rfl⟩:=hrel;go_wp2_with fail
   go_end0
   exact⟨rfl,[],aR.nil,by have:=I0.out;rw[HS.out] at this;exact this⟩
 | cons x0 rest=>
  have HS:=qD hs;clear hs;rw[<-HS.out];go_enter func266,ntmps266;go_wp2_with fail
  go_loopw [8] (fun v8 wr=>∃(i:Nat) (P Q S:List (PS×Nat)),v8=.int .i64 i/\i=a+P.length/\1<=P.length/\i<=b/\Seg=P++Q/\aR (fun p q:PS=>ae (al p).1 (al q).1) P S/\dM g w (A++S++(Q++D)) wr) (fun v8 _=>b-(intOf v8).toNat)
  case atStart=>
   refine⟨a+1,[x0],rest,[x0],by go_num,rfl,qL,?_,HS.out,aR.one x0,?_⟩
   ·have:=HBq.out;have:=HA.out;rw[HS.out] at*;simp at*;omega
   ·have:=I0.out;rw[HS.out] at this;simpa using this
  case round=>
   obtain⟨i,P,Q,S,rfl,hi,hP,hib,hPQ,hS,I⟩:=hrel;have HI:=qD hi;have HPQ:=qD hPQ;have HSo:=qD hS;have J:=qD I;clear hi hPQ hS;by_cases hlt:i<b
   ·obtain⟨x,Q',hQ⟩:∃x Q',Q=x::Q':=by
     cases Q with
     | nil=>
      have h1:=HBq.out;have h2:=HI.out;have h3:=HA.out;rw[HPQ.out] at h1;simp at h1;omega
     | cons x Q'=>exact⟨x,Q',rfl⟩
    have HQ:=qD hQ;have hSl:S.length=P.length:=HSo.out.perm.length_eq;have HSl:=qD hSl;clear I hSl hQ;go_wp2_with fail
    go_loopw [9] (fun v9 wr=>∃(jj:Nat) (S1 S2:List (PS×Nat)),v9=.int .i64 jj/\jj=a+S1.length/\jj<=i/\S=S1++S2/\(∀y∈S2,ae (al x.1).1 (al y.1).1<0)/\dM g w (A++(S1++x::S2)++(Q'++D)) wr) (fun v9 _=>(intOf v9).toNat)
    case atStart=>
     refine⟨i,S,[],rfl,by rw[HI.out,HSl.out],qL,by simp,by simp,?_⟩;have:=J.out;rw[HQ.out] at this;simpa using this
    case round=>
     clear J;obtain⟨jj,S1,S2,rfl,hj,hji,hSS,hall,I⟩:=hrel;have HJ:=qD hj;have HSS:=qD hSS;have HAll:=qD hall;have J:=qD I;clear hj hSS hall;by_cases hgt:a<jj
     ·obtain⟨S3,y,hS3⟩:∃S3 y,S1=S3++[y]:=by
       rcases NI S1 with h|⟨S3,y,h⟩
       ·have:=HJ.out;rw[h] at this;simp at this;omega
       ·exact⟨S3,y,by rw[h,My]⟩
      have hA:=HA.out;have hj1:jj=A.length+(S3.length+1):=by rw[HJ.out,hS3];simp;omega
      have hx:(A++(S1++x::S2)++(Q'++D))[jj]?=some x:=by
       rw[hS3,hj1];simp
      have hy:(A++(S1++x::S2)++(Q'++D))[jj-1]?=some y:=by
       rw[hS3,hj1];simp
      have hxm:x∈Seg:=by rw[HPQ.out,HQ.out];simp
      have hym:y∈Seg:=by
       rw[HPQ.out];exact OT _ (HSo.out.perm.subset (by rw[HSS.out,hS3];simp))
      have p0:wr.cell? ⟨g,jj*12,none⟩=some (.int .i64 x.1.1.1.1.k):=I.row.cell hx 0 _ rfl;have p1:wr.cell? ⟨g,jj*12+1,none⟩=some (.int .i64 x.1.1.1.1.n):=I.row.cell hx 1 _ rfl;have p2:wr.cell? ⟨g,jj*12+2,none⟩=some (.string x.1.1.1.1.t):=I.row.cell hx 2 _ rfl;have p3:wr.cell? ⟨g,jj*12+3,none⟩=some (.slice x.1.1.1.1.LA x.1.1.1.1.ln x.1.1.1.1.lc):=I.row.cell hx 3 _ rfl;have p4:wr.cell? ⟨g,jj*12+4,none⟩=some (.slice x.1.1.1.1.DA x.1.1.1.1.dn x.1.1.1.1.dc):=I.row.cell hx 4 _ rfl;have p5:wr.cell? ⟨g,jj*12+5,none⟩=some (.bool x.1.1.2):=I.row.cell hx 5 _ rfl;have p6:wr.cell? ⟨g,jj*12+6,none⟩=some (.int .i64 x.1.2.1.1.k):=I.row.cell hx 6 _ rfl;have p7:wr.cell? ⟨g,jj*12+7,none⟩=some (.int .i64 x.1.2.1.1.n):=I.row.cell hx 7 _ rfl;have p8:wr.cell? ⟨g,jj*12+8,none⟩=some (.string x.1.2.1.1.t):=I.row.cell hx 8 _ rfl;have p9:wr.cell? ⟨g,jj*12+9,none⟩=some (.slice x.1.2.1.1.LA x.1.2.1.1.ln x.1.2.1.1.lc):=I.row.cell hx 9 _ rfl;have p10:wr.cell? ⟨g,jj*12+10,none⟩=some (.slice x.1.2.1.1.DA x.1.2.1.1.dn x.1.2.1.1.dc):=I.row.cell hx 10 _ rfl;have p11:wr.cell? ⟨g,jj*12+11,none⟩=some (.bool x.1.2.2):=I.row.cell hx 11 _ rfl;have r0:wr.cell? ⟨g,(jj-1)*12,none⟩=some (.int .i64 y.1.1.1.1.k):=I.row.cell hy 0 _ rfl;have r1:wr.cell? ⟨g,(jj-1)*12+1,none⟩=some (.int .i64 y.1.1.1.1.n):=I.row.cell hy 1 _ rfl;have r2:wr.cell? ⟨g,(jj-1)*12+2,none⟩=some (.string y.1.1.1.1.t):=I.row.cell hy 2 _ rfl;have r3:wr.cell? ⟨g,(jj-1)*12+3,none⟩=some (.slice y.1.1.1.1.LA y.1.1.1.1.ln y.1.1.1.1.lc):=I.row.cell hy 3 _ rfl
      have r4:wr.cell? ⟨g,(jj-1)*12+4,none⟩=some (.slice y.1.1.1.1.DA y.1.1.1.1.dn y.1.1.1.1.dc):=I.row.cell hy 4 _ rfl;have r5:wr.cell? ⟨g,(jj-1)*12+5,none⟩=some (.bool y.1.1.2):=I.row.cell hy 5 _ rfl;have r6:wr.cell? ⟨g,(jj-1)*12+6,none⟩=some (.int .i64 y.1.2.1.1.k):=I.row.cell hy 6 _ rfl;have r7:wr.cell? ⟨g,(jj-1)*12+7,none⟩=some (.int .i64 y.1.2.1.1.n):=I.row.cell hy 7 _ rfl;have r8:wr.cell? ⟨g,(jj-1)*12+8,none⟩=some (.string y.1.2.1.1.t):=I.row.cell hy 8 _ rfl;have r9:wr.cell? ⟨g,(jj-1)*12+9,none⟩=some (.slice y.1.2.1.1.LA y.1.2.1.1.ln y.1.2.1.1.lc):=I.row.cell hy 9 _ rfl;have r10:wr.cell? ⟨g,(jj-1)*12+10,none⟩=some (.slice y.1.2.1.1.DA y.1.2.1.1.dn y.1.2.1.1.dc):=I.row.cell hy 10 _ rfl;have r11:wr.cell? ⟨g,(jj-1)*12+11,none⟩=some (.bool y.1.2.2):=I.row.cell hy 11 _ rfl;have P0:∀k:BW wr,k.val.cell? ⟨g,jj*12,none⟩=some (.int .i64 x.1.1.1.1.k):=fun k=>k.cell p0;have P1:∀k:BW wr,k.val.cell? ⟨g,jj*12+1,none⟩=some (.int .i64 x.1.1.1.1.n):=fun k=>k.cell p1;have P2:∀k:BW wr,k.val.cell? ⟨g,jj*12+2,none⟩=some (.string x.1.1.1.1.t):=fun k=>k.cell p2;have P3:∀k:BW wr,k.val.cell? ⟨g,jj*12+3,none⟩=some (.slice x.1.1.1.1.LA x.1.1.1.1.ln x.1.1.1.1.lc):=fun k=>k.cell p3;have P4:∀k:BW wr,k.val.cell? ⟨g,jj*12+4,none⟩=some (.slice x.1.1.1.1.DA x.1.1.1.1.dn x.1.1.1.1.dc):=fun k=>k.cell p4;have P5:∀k:BW wr,k.val.cell? ⟨g,jj*12+5,none⟩=some (.bool x.1.1.2):=fun k=>k.cell p5;have P6:∀k:BW wr,k.val.cell? ⟨g,jj*12+6,none⟩=some (.int .i64 x.1.2.1.1.k):=fun k=>k.cell p6
      have P7:∀k:BW wr,k.val.cell? ⟨g,jj*12+7,none⟩=some (.int .i64 x.1.2.1.1.n):=fun k=>k.cell p7;have P8:∀k:BW wr,k.val.cell? ⟨g,jj*12+8,none⟩=some (.string x.1.2.1.1.t):=fun k=>k.cell p8;have P9:∀k:BW wr,k.val.cell? ⟨g,jj*12+9,none⟩=some (.slice x.1.2.1.1.LA x.1.2.1.1.ln x.1.2.1.1.lc):=fun k=>k.cell p9;have P10:∀k:BW wr,k.val.cell? ⟨g,jj*12+10,none⟩=some (.slice x.1.2.1.1.DA x.1.2.1.1.dn x.1.2.1.1.dc):=fun k=>k.cell p10;have P11:∀k:BW wr,k.val.cell? ⟨g,jj*12+11,none⟩=some (.bool x.1.2.2):=fun k=>k.cell p11;have R0:∀k:BW wr,k.val.cell? ⟨g,(jj-1)*12,none⟩=some (.int .i64 y.1.1.1.1.k):=fun k=>k.cell r0;have R1:∀k:BW wr,k.val.cell? ⟨g,(jj-1)*12+1,none⟩=some (.int .i64 y.1.1.1.1.n):=fun k=>k.cell r1;have R2:∀k:BW wr,k.val.cell? ⟨g,(jj-1)*12+2,none⟩=some (.string y.1.1.1.1.t):=fun k=>k.cell r2;have R3:∀k:BW wr,k.val.cell? ⟨g,(jj-1)*12+3,none⟩=some (.slice y.1.1.1.1.LA y.1.1.1.1.ln y.1.1.1.1.lc):=fun k=>k.cell r3;have R4:∀k:BW wr,k.val.cell? ⟨g,(jj-1)*12+4,none⟩=some (.slice y.1.1.1.1.DA y.1.1.1.1.dn y.1.1.1.1.dc):=fun k=>k.cell r4;have R5:∀k:BW wr,k.val.cell? ⟨g,(jj-1)*12+5,none⟩=some (.bool y.1.1.2):=fun k=>k.cell r5;have R6:∀k:BW wr,k.val.cell? ⟨g,(jj-1)*12+6,none⟩=some (.int .i64 y.1.2.1.1.k):=fun k=>k.cell r6;have R7:∀k:BW wr,k.val.cell? ⟨g,(jj-1)*12+7,none⟩=some (.int .i64 y.1.2.1.1.n):=fun k=>k.cell r7;have R8:∀k:BW wr,k.val.cell? ⟨g,(jj-1)*12+8,none⟩=some (.string y.1.2.1.1.t):=fun k=>k.cell r8
      have R9:∀k:BW wr,k.val.cell? ⟨g,(jj-1)*12+9,none⟩=some (.slice y.1.2.1.1.LA y.1.2.1.1.ln y.1.2.1.1.lc):=fun k=>k.cell r9;have R10:∀k:BW wr,k.val.cell? ⟨g,(jj-1)*12+10,none⟩=some (.slice y.1.2.1.1.DA y.1.2.1.1.dn y.1.2.1.1.dc):=fun k=>k.cell r10;have R11:∀k:BW wr,k.val.cell? ⟨g,(jj-1)*12+11,none⟩=some (.bool y.1.2.2):=fun k=>k.cell r11;have hjn:jj<n:=by omega
      have i0:(0:Int)<=(jj:Int):=by omega
      have i1:(jj:Int)<(n:Int):=by omega
      have i2:(0:Int)<=(jj:Int)-1:=by omega
      have i3:(jj:Int)-1<(n:Int):=by omega
      have W1:IntKind.i64.wrap ((jj:Int)-1)=(jj:Int)-1:=wrap_i64' (by omega) (by omega);have W2:((jj:Int)-1).toNat=jj-1:=by omega
      have K1:Hid (∀k:BW wr,Calls prog 203 #[lU x,lU y] k.val fun e w''=>e=.returned (.int .i64 (ae (al x.1).1 (al y.1).1))/\∃k:BW wr,w''=k.val):=fun k=>
       Calls.bw (HC.out x y hxm hym k.val (I.but.step k.below))
      have HX:=qD hx;have HY:=qD hy;have HS3:=qD hS3;have HJ1:=qD hj1;clear p0 r0 p1 r1 p2 r2 p3 r3 p4 r4 p5 r5 p6 r6 p7 r7 p8 r8 p9 r9 p10 r10 p11 r11 hx hy hxm hym I hS3 hj1 hA;go_upto_region 4 with fail
      refine aL (by kernel_rfl) (by kernel_rfl) ?_
      repeat(go_big_quiet_step (with_reducible exact K1.out _))
      refine Ln ?_;rintro _ ⟨kw,rfl⟩;have J2:=qD (J.out.step kw.below);clear P0 R0 P1 R1 P2 R2 P3 R3 P4 R4 P5 R5 P6 R6 P7 R7 P8 R8 P9 R9 P10 R10 P11 R11 K1 W1 W2 i0 i1 i2 i3;generalize kw.val=w2 at*;by_cases hc:ae (al x.1).1 (al y.1).1<0
      ·have p0:w2.cell? ⟨g,jj*12,none⟩=some (.int .i64 x.1.1.1.1.k):=J2.out.row.cell HX.out 0 _ rfl;have p1:w2.cell? ⟨g,jj*12+1,none⟩=some (.int .i64 x.1.1.1.1.n):=J2.out.row.cell HX.out 1 _ rfl;have p2:w2.cell? ⟨g,jj*12+2,none⟩=some (.string x.1.1.1.1.t):=J2.out.row.cell HX.out 2 _ rfl;have p3:w2.cell? ⟨g,jj*12+3,none⟩=some (.slice x.1.1.1.1.LA x.1.1.1.1.ln x.1.1.1.1.lc):=J2.out.row.cell HX.out 3 _ rfl;have p4:w2.cell? ⟨g,jj*12+4,none⟩=some (.slice x.1.1.1.1.DA x.1.1.1.1.dn x.1.1.1.1.dc):=J2.out.row.cell HX.out 4 _ rfl;have p5:w2.cell? ⟨g,jj*12+5,none⟩=some (.bool x.1.1.2):=J2.out.row.cell HX.out 5 _ rfl;have p6:w2.cell? ⟨g,jj*12+6,none⟩=some (.int .i64 x.1.2.1.1.k):=J2.out.row.cell HX.out 6 _ rfl;have p7:w2.cell? ⟨g,jj*12+7,none⟩=some (.int .i64 x.1.2.1.1.n):=J2.out.row.cell HX.out 7 _ rfl;have p8:w2.cell? ⟨g,jj*12+8,none⟩=some (.string x.1.2.1.1.t):=J2.out.row.cell HX.out 8 _ rfl;have p9:w2.cell? ⟨g,jj*12+9,none⟩=some (.slice x.1.2.1.1.LA x.1.2.1.1.ln x.1.2.1.1.lc):=J2.out.row.cell HX.out 9 _ rfl;have p10:w2.cell? ⟨g,jj*12+10,none⟩=some (.slice x.1.2.1.1.DA x.1.2.1.1.dn x.1.2.1.1.dc):=J2.out.row.cell HX.out 10 _ rfl;have p11:w2.cell? ⟨g,jj*12+11,none⟩=some (.bool x.1.2.2):=J2.out.row.cell HX.out 11 _ rfl;have r0:w2.cell? ⟨g,(jj-1)*12,none⟩=some (.int .i64 y.1.1.1.1.k):=J2.out.row.cell HY.out 0 _ rfl;have r1:w2.cell? ⟨g,(jj-1)*12+1,none⟩=some (.int .i64 y.1.1.1.1.n):=J2.out.row.cell HY.out 1 _ rfl
       have r2:w2.cell? ⟨g,(jj-1)*12+2,none⟩=some (.string y.1.1.1.1.t):=J2.out.row.cell HY.out 2 _ rfl;have r3:w2.cell? ⟨g,(jj-1)*12+3,none⟩=some (.slice y.1.1.1.1.LA y.1.1.1.1.ln y.1.1.1.1.lc):=J2.out.row.cell HY.out 3 _ rfl;have r4:w2.cell? ⟨g,(jj-1)*12+4,none⟩=some (.slice y.1.1.1.1.DA y.1.1.1.1.dn y.1.1.1.1.dc):=J2.out.row.cell HY.out 4 _ rfl;have r5:w2.cell? ⟨g,(jj-1)*12+5,none⟩=some (.bool y.1.1.2):=J2.out.row.cell HY.out 5 _ rfl;have r6:w2.cell? ⟨g,(jj-1)*12+6,none⟩=some (.int .i64 y.1.2.1.1.k):=J2.out.row.cell HY.out 6 _ rfl;have r7:w2.cell? ⟨g,(jj-1)*12+7,none⟩=some (.int .i64 y.1.2.1.1.n):=J2.out.row.cell HY.out 7 _ rfl;have r8:w2.cell? ⟨g,(jj-1)*12+8,none⟩=some (.string y.1.2.1.1.t):=J2.out.row.cell HY.out 8 _ rfl;have r9:w2.cell? ⟨g,(jj-1)*12+9,none⟩=some (.slice y.1.2.1.1.LA y.1.2.1.1.ln y.1.2.1.1.lc):=J2.out.row.cell HY.out 9 _ rfl;have r10:w2.cell? ⟨g,(jj-1)*12+10,none⟩=some (.slice y.1.2.1.1.DA y.1.2.1.1.dn y.1.2.1.1.dc):=J2.out.row.cell HY.out 10 _ rfl;have r11:w2.cell? ⟨g,(jj-1)*12+11,none⟩=some (.bool y.1.2.2):=J2.out.row.cell HY.out 11 _ rfl;have z:=bV.frozen J2.out.row;go_upto_region 6 with fail
       go_region
       all_goals
        clear p0 r0 p1 r1 p2 r2 p3 r3 p4 r4 p5 r5 p6 r6 p7 r7 p8 r8 p9 r9 p10 r10 p11 r11 z;go_wp2_with fail;refine⟨⟨jj-1,S3,y::S2,by rw[show((jj-1:Nat):Int)=(jj:Int)-1 by omega],by rw[HJ1.out,HA.out];omega,by omega,by rw[HSS.out,HS3.out];simp,?_,?_⟩,by simp[intOf];omega⟩
        ·intro q hq;rcases Li.1 hq with rfl|hq
         ·exact hc
         ·exact HAll.out q hq
        ·have hl:jj<(A++(S1++x::S2)++(Q'++D)).length:=(LJ.1 HX.out).1;have r1:=J2.out.swap hl x y;rw[HS3.out,HJ1.out,lJ,<-HJ1.out] at r1;exact r1
      ·have HD:Hid (aR (fun p q:PS=>ae (al p).1 (al q).1) (P++[x]) (S1++x::S2)):=by
        refine aR.insert HO.out (by rw[<-HSS.out];exact HSo.out) (fun y hy=>?_) HAll.out (fun q hq=>?_)
        ·have h:=HT.out;rw[HPQ.out,HQ.out] at h;exact(Le.1 h).2.2 y hy x (by simp)
        ·rw[HS3.out] at hq;simp at hq;subst hq;exact hc
       go_wp2_with fail;go_roundw
       ·exact⟨i+1,P++[x],Q',S1++x::S2,by go_num,by rw[HI.out];simp;omega,by simp,by omega,by rw[HPQ.out,HQ.out];simp,HD.out,J2.out⟩
       ·simp[intOf];omega
     ·have HN1:Hid (S1=[]):=LO (by have:=HJ.out;omega)
      have HD:Hid (aR (fun p q:PS=>ae (al p).1 (al q).1) (P++[x]) (S1++x::S2)):=by
       refine aR.insert HO.out (by rw[<-HSS.out];exact HSo.out) (fun y hy=>?_) HAll.out (fun q hq=>?_)
       ·have h:=HT.out;rw[HPQ.out,HQ.out] at h;exact(Le.1 h).2.2 y hy x (by simp)
       ·rw[HN1.out] at hq;simp at hq
      clear I;have hgt':decide ((a:Int)<(jj:Int))=false:=LW (by omega);go_upto_region 4 with fail
      go_quiet (fail)
      go_wp2_with fail;go_roundw
      ·exact⟨i+1,P++[x],Q',S1++x::S2,by go_num,by rw[HI.out];simp;omega,by simp,by omega,by rw[HPQ.out,HQ.out];simp,HD.out,J.out.step (Below.drewN (LH _ _) _)⟩
      ·simp[intOf];omega
   ·have HF:Hid (Q=[]):=by
     have h1:=HBq.out;have h2:=HI.out;have h3:=HA.out;rw[HPQ.out] at h1;simp at h1;exact LO (by omega)
    clear I;go_wp2_with fail
    go_end0
    refine⟨rfl,S,?_,?_⟩
    ·have:=HSo.out;rw[HPQ.out,HF.out,Lm];exact this
    ·have:=J.out;rw[HF.out,MC] at this;exact this
theorem dM.Kd{g:Nat}{w w2:World}{L:List (PS×Nat)}(h:dM g w L w2){p q:Nat}(hp:p<L.length)(hq:q<L.length)(x y:PS×Nat):dM g w ((L.set p y).set q x) ((((((((((((((((((((((((w2.setCell ⟨g,p*12,none⟩ (.int .i64 y.1.1.1.1.k)).setCell ⟨g,p*12+1,none⟩ (.int .i64 y.1.1.1.1.n)).setCell ⟨g,p*12+2,none⟩ (.string y.1.1.1.1.t)).setCell ⟨g,p*12+3,none⟩ (.slice y.1.1.1.1.LA y.1.1.1.1.ln y.1.1.1.1.lc)).setCell ⟨g,p*12+4,none⟩ (.slice y.1.1.1.1.DA y.1.1.1.1.dn y.1.1.1.1.dc)).setCell ⟨g,p*12+5,none⟩ (.bool y.1.1.2)).setCell ⟨g,p*12+6,none⟩ (.int .i64 y.1.2.1.1.k)).setCell ⟨g,p*12+7,none⟩ (.int .i64 y.1.2.1.1.n)).setCell ⟨g,p*12+8,none⟩ (.string y.1.2.1.1.t)).setCell ⟨g,p*12+9,none⟩ (.slice y.1.2.1.1.LA y.1.2.1.1.ln y.1.2.1.1.lc)).setCell ⟨g,p*12+10,none⟩ (.slice y.1.2.1.1.DA y.1.2.1.1.dn y.1.2.1.1.dc)).setCell ⟨g,p*12+11,none⟩ (.bool y.1.2.2)).setCell ⟨g,q*12,none⟩ (.int .i64 x.1.1.1.1.k)).setCell ⟨g,q*12+1,none⟩ (.int .i64 x.1.1.1.1.n)).setCell ⟨g,q*12+2,none⟩ (.string x.1.1.1.1.t)).setCell ⟨g,q*12+3,none⟩ (.slice x.1.1.1.1.LA x.1.1.1.1.ln x.1.1.1.1.lc)).setCell ⟨g,q*12+4,none⟩ (.slice x.1.1.1.1.DA x.1.1.1.1.dn x.1.1.1.1.dc)).setCell ⟨g,q*12+5,none⟩ (.bool x.1.1.2)).setCell ⟨g,q*12+6,none⟩ (.int .i64 x.1.2.1.1.k)).setCell ⟨g,q*12+7,none⟩ (.int .i64 x.1.2.1.1.n)).setCell ⟨g,q*12+8,none⟩ (.string x.1.2.1.1.t)).setCell ⟨g,q*12+9,none⟩ (.slice x.1.2.1.1.LA x.1.2.1.1.ln x.1.2.1.1.lc)).setCell ⟨g,q*12+10,none⟩ (.slice x.1.2.1.1.DA x.1.2.1.1.dn x.1.2.1.1.dc)).setCell ⟨g,q*12+11,none⟩ (.bool x.1.2.2)).drew:=
 ⟨bV.drew ((h.row.put hp y).put (j:=q) (by rw[NK];exact hq) x),ey.step ((((((((((((((((((((((((h.but.set (p:=⟨g,p*12,none⟩) rfl (.int .i64 y.1.1.1.1.k)).set (p:=⟨g,p*12+1,none⟩) rfl (.int .i64 y.1.1.1.1.n)).set (p:=⟨g,p*12+2,none⟩) rfl (.string y.1.1.1.1.t)).set (p:=⟨g,p*12+3,none⟩) rfl (.slice y.1.1.1.1.LA y.1.1.1.1.ln y.1.1.1.1.lc)).set (p:=⟨g,p*12+4,none⟩) rfl (.slice y.1.1.1.1.DA y.1.1.1.1.dn y.1.1.1.1.dc)).set (p:=⟨g,p*12+5,none⟩) rfl (.bool y.1.1.2)).set (p:=⟨g,p*12+6,none⟩) rfl (.int .i64 y.1.2.1.1.k)).set (p:=⟨g,p*12+7,none⟩) rfl (.int .i64 y.1.2.1.1.n)).set (p:=⟨g,p*12+8,none⟩) rfl (.string y.1.2.1.1.t)).set (p:=⟨g,p*12+9,none⟩) rfl (.slice y.1.2.1.1.LA y.1.2.1.1.ln y.1.2.1.1.lc)).set (p:=⟨g,p*12+10,none⟩) rfl (.slice y.1.2.1.1.DA y.1.2.1.1.dn y.1.2.1.1.dc)).set (p:=⟨g,p*12+11,none⟩) rfl (.bool y.1.2.2)).set (p:=⟨g,q*12,none⟩) rfl (.int .i64 x.1.1.1.1.k)).set (p:=⟨g,q*12+1,none⟩) rfl (.int .i64 x.1.1.1.1.n)).set (p:=⟨g,q*12+2,none⟩) rfl (.string x.1.1.1.1.t)).set (p:=⟨g,q*12+3,none⟩) rfl (.slice x.1.1.1.1.LA x.1.1.1.1.ln x.1.1.1.1.lc)).set (p:=⟨g,q*12+4,none⟩) rfl (.slice x.1.1.1.1.DA x.1.1.1.1.dn x.1.1.1.1.dc)).set (p:=⟨g,q*12+5,none⟩) rfl (.bool x.1.1.2)).set (p:=⟨g,q*12+6,none⟩) rfl (.int .i64 x.1.2.1.1.k)).set (p:=⟨g,q*12+7,none⟩) rfl (.int .i64 x.1.2.1.1.n)).set (p:=⟨g,q*12+8,none⟩) rfl (.string x.1.2.1.1.t)).set (p:=⟨g,q*12+9,none⟩) rfl (.slice x.1.2.1.1.LA x.1.2.1.1.ln x.1.2.1.1.lc)).set (p:=⟨g,q*12+10,none⟩) rfl (.slice x.1.2.1.1.DA x.1.2.1.1.dn x.1.2.1.1.dc)).set (p:=⟨g,q*12+11,none⟩) rfl (.bool x.1.2.2)) ((LH _ _).drew)⟩
theorem qZ{α:Type}(A V1 U2 M U1 V2 D:List α)(x y:α):
 ((A++(V1++x::U2)++M++(U1++y::V2)++D).set (A.length+V1.length) y).set (A.length+(V1.length+(U2.length+1))+M.length+U1.length) x=A++((V1++[y])++U2)++M++((U1++[x])++V2)++D:=by
 have e1:(A++(V1++x::U2)++M++(U1++y::V2)++D).set (A.length+V1.length) y=(A++V1++y::U2++M++U1)++y::(V2++D):=by
  rw[show A++(V1++x::U2)++M++(U1++y::V2)++D=(A++V1)++x::(U2++(M++(U1++y::(V2++D)))) by simp,Nb _ _ (by simp),show A.length+V1.length-(A++V1).length=0 by simp];simp
 rw[e1,Nb _ _ (by simp;omega),show A.length+(V1.length+(U2.length+1))+M.length+U1.length-(A++V1++y::U2++M++U1).length=0 by simp;omega];simp
theorem Aa{α:Type}(A V1 U2 M U1 V2 D:List α)(x y:α):(A++(V1++x::U2)++M++(U1++y::V2)++D)[A.length+V1.length]?=some x:=by
 rw[show A++(V1++x::U2)++M++(U1++y::V2)++D=(A++V1)++x::(U2++(M++(U1++y::(V2++D)))) by simp,Lh (by simp)];simp
theorem Ab{α:Type}(A V1 U2 M U1 V2 D:List α)(x y:α):(A++(V1++x::U2)++M++(U1++y::V2)++D)[A.length+(V1.length+(U2.length+1))+M.length+U1.length]?=some y:=by
 rw[show A++(V1++x::U2)++M++(U1++y::V2)++D=(A++V1++x::U2++M++U1)++y::(V2++D) by simp,Lh (by simp;omega)];rw[show A.length+(V1.length+(U2.length+1))+M.length+U1.length-(A++V1++x::U2++M++U1).length=0 by simp;omega];rfl
def so(g:Nat)(w:World)(L:List (PS×Nat))(e:Ending)(w':World):Prop:=e=.returned (.tuple #[])/\dM g w L w'
theorem gT(A U M V D:List (PS×Nat))(g n c a b k:Nat)(aI bI kI:Int)(fv:Value)(w:World)(hr:bV w g (A++U++M++V++D))(hn:n=(A++U++M++V++D).length)(ha:a=A.length)(hb:b=A.length+U.length+M.length)(hk:k=U.length)(hkv:k=V.length)(haI:aI=a)(hbI:bI=b)(hkI:kI=k)(hz:n*176<=aF):
 Calls prog 276 #[.slice (some ⟨g,0,none⟩) n c,.int .i64 aI,.int .i64 bI,.int .i64 kI,fv] w (so g w (A++V++M++U++D)):=by
 subst haI hbI hkI;unfold aF at hz;have hbn:b+k<=n:=by rw[hn];simp;omega
 have hab:a+k<=b:=by omega
 have HA:=qD ha;have HBq:=qD hb;have HK:=qD hk;have HKV:=qD hkv;have HN:=qD hn;have I0:Hid (dM g w (A++U++M++V++D) w):=qD ⟨hr,ey.refl⟩;clear hr hn ha hb hk hkv;go_enter func276,ntmps276;go_wp2_with fail
 go_loopw [10] (fun v10 wr=>∃(i:Nat) (U1 U2 V1 V2:List (PS×Nat)),v10=.int .i64 i/\i<=k/\i=U1.length/\i=V1.length/\U=U1++U2/\V=V1++V2/\dM g w (A++(V1++U2)++M++(U1++V2)++D) wr) (fun v10 _=>k-(intOf v10).toNat)
 ·exact⟨0,[],U,[],V,rfl,LQ _,rfl,rfl,rfl,rfl,I0.out⟩
 case round=>
  obtain⟨i,U1,U2,V1,V2,rfl,hik,hU1,hV1,hU,hV,I⟩:=hrel;have HU1:=qD hU1;have HV1:=qD hV1;have HU:=qD hU;have HV:=qD hV;have J:=qD I;by_cases hlt:i<k
  ·obtain⟨x,U3,hx⟩:∃x U3,U2=x::U3:=by
    cases U2 with
    | nil=>have h1:=HK.out;rw[hU] at h1;simp at h1;omega
    | cons x U3=>exact⟨x,U3,rfl⟩
   obtain⟨y,V3,hy⟩:∃y V3,V2=y::V3:=by
    cases V2 with
    | nil=>have h1:=HKV.out;rw[hV] at h1;simp at h1;omega
    | cons y V3=>exact⟨y,V3,rfl⟩
   subst hx hy;have hp:a+i=A.length+V1.length:=by rw[HA.out,<-hV1]
   have hq:b+i=A.length+(V1.length+(U3.length+1))+M.length+U1.length:=by
    have h1:=HBq.out;rw[hU] at h1;simp at h1;omega
   have HX:Hid ((A++(V1++x::U3)++M++(U1++y::V3)++D)[a+i]?=some x):=by rw[Hid,hp];exact Aa A V1 U3 M U1 V3 D x y
   have HY:Hid ((A++(V1++x::U3)++M++(U1++y::V3)++D)[b+i]?=some y):=by rw[Hid,hq];exact Ab A V1 U3 M U1 V3 D x y
   have HSw:Hid (((A++(V1++x::U3)++M++(U1++y::V3)++D).set (a+i) y).set (b+i) x=A++((V1++[y])++U3)++M++((U1++[x])++V3)++D):=by
    rw[Hid,hp,hq];exact qZ A V1 U3 M U1 V3 D x y
   have p0:wr.cell? ⟨g,(a+i)*12,none⟩=some (.int .i64 x.1.1.1.1.k):=J.out.row.cell HX.out 0 _ rfl;have p1:wr.cell? ⟨g,(a+i)*12+1,none⟩=some (.int .i64 x.1.1.1.1.n):=J.out.row.cell HX.out 1 _ rfl;have p2:wr.cell? ⟨g,(a+i)*12+2,none⟩=some (.string x.1.1.1.1.t):=J.out.row.cell HX.out 2 _ rfl;have p3:wr.cell? ⟨g,(a+i)*12+3,none⟩=some (.slice x.1.1.1.1.LA x.1.1.1.1.ln x.1.1.1.1.lc):=J.out.row.cell HX.out 3 _ rfl;have p4:wr.cell? ⟨g,(a+i)*12+4,none⟩=some (.slice x.1.1.1.1.DA x.1.1.1.1.dn x.1.1.1.1.dc):=J.out.row.cell HX.out 4 _ rfl;have p5:wr.cell? ⟨g,(a+i)*12+5,none⟩=some (.bool x.1.1.2):=J.out.row.cell HX.out 5 _ rfl;have p6:wr.cell? ⟨g,(a+i)*12+6,none⟩=some (.int .i64 x.1.2.1.1.k):=J.out.row.cell HX.out 6 _ rfl;have p7:wr.cell? ⟨g,(a+i)*12+7,none⟩=some (.int .i64 x.1.2.1.1.n):=J.out.row.cell HX.out 7 _ rfl;have p8:wr.cell? ⟨g,(a+i)*12+8,none⟩=some (.string x.1.2.1.1.t):=J.out.row.cell HX.out 8 _ rfl;have p9:wr.cell? ⟨g,(a+i)*12+9,none⟩=some (.slice x.1.2.1.1.LA x.1.2.1.1.ln x.1.2.1.1.lc):=J.out.row.cell HX.out 9 _ rfl;have p10:wr.cell? ⟨g,(a+i)*12+10,none⟩=some (.slice x.1.2.1.1.DA x.1.2.1.1.dn x.1.2.1.1.dc):=J.out.row.cell HX.out 10 _ rfl;have p11:wr.cell? ⟨g,(a+i)*12+11,none⟩=some (.bool x.1.2.2):=J.out.row.cell HX.out 11 _ rfl;have r0:wr.cell? ⟨g,(b+i)*12,none⟩=some (.int .i64 y.1.1.1.1.k):=J.out.row.cell HY.out 0 _ rfl;have r1:wr.cell? ⟨g,(b+i)*12+1,none⟩=some (.int .i64 y.1.1.1.1.n):=J.out.row.cell HY.out 1 _ rfl
   have r2:wr.cell? ⟨g,(b+i)*12+2,none⟩=some (.string y.1.1.1.1.t):=J.out.row.cell HY.out 2 _ rfl;have r3:wr.cell? ⟨g,(b+i)*12+3,none⟩=some (.slice y.1.1.1.1.LA y.1.1.1.1.ln y.1.1.1.1.lc):=J.out.row.cell HY.out 3 _ rfl;have r4:wr.cell? ⟨g,(b+i)*12+4,none⟩=some (.slice y.1.1.1.1.DA y.1.1.1.1.dn y.1.1.1.1.dc):=J.out.row.cell HY.out 4 _ rfl;have r5:wr.cell? ⟨g,(b+i)*12+5,none⟩=some (.bool y.1.1.2):=J.out.row.cell HY.out 5 _ rfl;have r6:wr.cell? ⟨g,(b+i)*12+6,none⟩=some (.int .i64 y.1.2.1.1.k):=J.out.row.cell HY.out 6 _ rfl;have r7:wr.cell? ⟨g,(b+i)*12+7,none⟩=some (.int .i64 y.1.2.1.1.n):=J.out.row.cell HY.out 7 _ rfl;have r8:wr.cell? ⟨g,(b+i)*12+8,none⟩=some (.string y.1.2.1.1.t):=J.out.row.cell HY.out 8 _ rfl;have r9:wr.cell? ⟨g,(b+i)*12+9,none⟩=some (.slice y.1.2.1.1.LA y.1.2.1.1.ln y.1.2.1.1.lc):=J.out.row.cell HY.out 9 _ rfl;have r10:wr.cell? ⟨g,(b+i)*12+10,none⟩=some (.slice y.1.2.1.1.DA y.1.2.1.1.dn y.1.2.1.1.dc):=J.out.row.cell HY.out 10 _ rfl;have r11:wr.cell? ⟨g,(b+i)*12+11,none⟩=some (.bool y.1.2.2):=J.out.row.cell HY.out 11 _ rfl;have z:=bV.frozen J.out.row;clear hU1 hV1 hU hV I hp hq;go_upto_region 3 with fail
   go_region
   all_goals
    clear p0 r0 p1 r1 p2 r2 p3 r3 p4 r4 p5 r5 p6 r6 p7 r7 p8 r8 p9 r9 p10 r10 p11 r11 z;go_wp2_with fail;refine⟨⟨i+1,U1++[x],U3,V1++[y],V3,by go_num,by omega,by rw[HU1.out];simp,by rw[HV1.out];simp,by rw[HU.out];simp,by rw[HV.out];simp,?_⟩,by simp[intOf];omega⟩;have r1:=J.out.Kd (LJ.1 HX.out).1 (LJ.1 HY.out).1 x y;rw[HSw.out] at r1;exact r1
  ·have e1:U2=[]:=LO (by have h1:=HK.out;rw[hU] at h1;simp at h1;omega);have e2:V2=[]:=LO (by have h1:=HKV.out;rw[hV] at h1;simp at h1;omega)
   have HF:Hid (dM g w (A++V++M++U++D) wr):=by
    rw[Hid,hU,hV,e1,e2];simp only[Lm];rw[e1,e2] at I;simp only[Lm] at I;exact I
   clear hU1 hV1 hU hV I e1 e2;go_wp2_with fail
   go_end0
   exact⟨rfl,HF.out⟩
theorem dM.then{g:Nat}{w w1 w2:World}{L L':List (PS×Nat)}(h:dM g w L w1)(h':dM g w1 L' w2):dM g w L' w2:=⟨h'.row,h.but.trans h'.but⟩
theorem uG(A P Q D:List (PS×Nat))(g n c a m b:Nat)(aI mI bI:Int)(fv:Value)(w:World)(hr:bV w g (A++P++Q++D))(hn:n=(A++P++Q++D).length)(ha:a=A.length)(hm:m=A.length+P.length)(hb:b=A.length+P.length+Q.length)(hP:1<=P.length)(hQ:1<=Q.length)(haI:aI=a)(hmI:mI=m)(hbI:bI=b)(hz:n*176<=aF):
 Calls prog 274 #[.slice (some ⟨g,0,none⟩) n c,.int .i64 aI,.int .i64 mI,.int .i64 bI,fv] w (so g w (A++Q++P++D)):=by
 subst haI hmI hbI;have HZ:=qD hz;unfold aF at hz;have ham:a<=m:=by omega
 have hmb:m<=b:=by omega
 have hbn:b<=n:=by rw[hn];simp;omega
 have HN:=qD hn;have I0:Hid (dM g w (A++P++Q++D) w):=qD ⟨hr,ey.refl⟩;have HP:Hid (m-a=P.length):=by unfold Hid;omega
 have HQ:Hid (b-m=Q.length):=by unfold Hid;omega
 have HM:Hid (A.length+P.length=m):=hm.symm;have hi1:1<=m-a:=by omega
 have hj1:1<=b-m:=by omega
 clear hr hn ha hm hb hP hQ;go_enter func274,ntmps274;go_wp2_with fail
 go_loopw [10,11] (fun v10 v11 wr=>∃(i j:Nat) (A' U V D':List (PS×Nat)),v10=.int .i64 i/\v11=.int .i64 j/\i=U.length/\j=V.length/\1<=i/\1<=j/\A'.length+i=m/\n=(A'++U++V++D').length/\A'++V++U++D'=A++Q++P++D/\dM g w (A'++U++V++D') wr) (fun v10 v11 _=>(intOf v10).toNat+(intOf v11).toNat)
 ·exact⟨m-a,b-m,A,P,Q,D,by go_num,by go_num,HP.out,HQ.out,hi1,hj1,by rw[HP.out];exact HM.out,HN.out,rfl,I0.out⟩
 case round=>
  obtain⟨i,j,A',U,V,D',rfl,rfl,hU,hV,hi,hj,hm',hn',ht,I⟩:=hrel;have HU:=qD hU;have HV:=qD hV;have HM':=qD hm';have HN':=qD hn';have HTg:=qD ht;have J:=qD I;have him:i<=m:=by omega
  have hjn:m+j<=n:=by rw[hn'];simp;omega
  clear hU hV hn' ht I hm';cases hne:((i:Int) != (j:Int))
  ·have hij:i=j:=by simp at hne;omega
   have HR:Hid (bV wr g (A'++U++[]++V++D')):=by rw[Hid,Lm];exact J.out.row
   have HN2:Hid (n=(A'++U++[]++V++D').length):=by rw[Hid,Lm];exact HN'.out
   have HIJ:=qD hij;clear hij;go_wp2_with fail;refine(gT A' U [] V D' g n c A'.length m i _ _ _ _ _ HR.out HN2.out rfl (by have:=HU.out;have:=HM'.out;simp;omega) HU.out (by rw[HIJ.out];exact HV.out) (by have:=HM'.out;omega) (by omega) rfl HZ.out).mono ?_;rintro e w1 ⟨rfl,h1⟩;have H1:=qD (J.out.then h1);clear h1;go_wp2_with fail
   go_end0
   refine⟨rfl,?_⟩;have:=H1.out;rw[Lm,HTg.out] at this;exact this
  ·have hij:i≠j:=by simp at hne;omega
   by_cases hgt:j<i
   ·obtain⟨U1,U2,hUU,hU1⟩:∃U1 U2,U=U1++U2/\U1.length=j:=⟨U.take j,U.drop j,(Lf j U).symm,by rw[Lx];have:=HU.out;omega⟩;have hU2:U2.length=i-j:=by have h1:=HU.out;rw[hUU] at h1;simp at h1;omega
    have HR:Hid (bV wr g (A'++U1++U2++V++D')):=by have:=J.out.row;rw[hUU] at this;rw[Hid];simpa using this
    have HN2:Hid (n=(A'++U1++U2++V++D').length):=by have:=HN'.out;rw[hUU] at this;rw[Hid,this];simp
    have HUU:=qD hUU;have HU1:=qD hU1;have HU2:=qD hU2;clear hUU hU1 hU2 hij;go_wp2_with fail;refine(gT A' U1 U2 V D' g n c A'.length m j _ _ _ _ _ HR.out HN2.out rfl (by have:=HU1.out;have:=HU2.out;have:=HM'.out;omega) HU1.out.symm HV.out (by have:=HM'.out;omega) rfl rfl HZ.out).mono ?_;rintro e w1 ⟨rfl,h1⟩;have H1:=qD (J.out.then h1);clear h1;go_wp2_with fail;go_roundw
    case rel=>
     refine⟨i-j,j,A'++V,U2,U1,D',by go_num,rfl,HU2.out.symm,HU1.out.symm,by omega,hj,by rw[LM,<-HV.out];have:=HM'.out;omega,?_,?_,?_⟩
     ·have:=HN2.out;simp at this;simp;omega
     ·rw[<-HTg.out,HUU.out];simp
     ·exact H1.out
    case measure=>simp[intOf];omega
   ·obtain⟨V1,V2,hVV,hV1⟩:∃V1 V2,V=V1++V2/\V1.length=j-i:=⟨V.take (j-i),V.drop (j-i),(Lf (j-i) V).symm,by rw[Lx];have:=HV.out;omega⟩;have hV2:V2.length=i:=by have h1:=HV.out;rw[hVV] at h1;simp at h1;omega
    have HR:Hid (bV wr g (A'++U++V1++V2++D')):=by have:=J.out.row;rw[hVV] at this;rw[Hid];simpa using this
    have HN2:Hid (n=(A'++U++V1++V2++D').length):=by have:=HN'.out;rw[hVV] at this;rw[Hid,this];simp
    have HVV:=qD hVV;have HV1:=qD hV1;have HV2:=qD hV2;have hlt:i<j:=by omega
    clear hVV hV1 hV2 hij;go_wp2_with fail;refine(gT A' U V1 V2 D' g n c A'.length (m+j-i) i _ _ _ _ _ HR.out HN2.out rfl (by have:=HU.out;have:=HV1.out;have:=HM'.out;omega) HU.out HV2.out.symm (by have:=HM'.out;omega) (by omega) rfl HZ.out).mono ?_;rintro e w1 ⟨rfl,h1⟩;have H1:=qD (J.out.then h1);clear h1;go_wp2_with fail;go_roundw
    case rel=>
     refine⟨i,j-i,A',V2,V1,U++D',rfl,by go_num,HV2.out.symm,HV1.out.symm,hi,by omega,HM'.out,?_,?_,?_⟩
     ·have:=HN2.out;simp at this;simp;omega
     ·rw[<-HTg.out,HVV.out];simp
     ·have:=H1.out;simpa using this
    case measure=>simp[intOf];omega
section
variable {α:Type} {cm:α->α->Int}
theorem RT.le{x y:α×Nat}(h:RT cm x y):cm x.1 y.1<=0:=by unfold RT at h;omega
theorem qa(H:cL cm){x y z:α}(h1:cm x y<=0)(h2:cm y z<0):cm x z<0:=by
 have:=H.tr x y z h1 (by omega);omega
theorem qb(H:cL cm){x y z:α}(h1:cm x y<0)(h2:cm y z<=0):cm x z<0:=by
 have:=H.tr x y z (by omega) h2;omega
theorem jS(H:cL cm){x y z:α}(h1:cm x y<=0)(h2:cm y z<=0):cm x z<=0:=(H.tr x y z h1 h2).1
theorem mx{R:α×Nat->α×Nat->Prop}{l:List (α×Nat)}(h:l.Pairwise R){i j:Nat}{x y:α×Nat}(hij:i<j)(hx:l[i]?=some x)(hy:l[j]?=some y):R x y:=by
 obtain⟨hi,rfl⟩:=LJ.1 hx;obtain⟨hj,rfl⟩:=LJ.1 hy;exact NZ.1 h i j hi hj hij
theorem sq(H:cL cm){x:α×Nat}{Y1 Y2:List (α×Nat)}(hY:(Y1++Y2).Pairwise (RT cm))(ht:∀y∈Y1++Y2,x.2<y.2)(h1:∀y∈Y1,cm y.1 x.1<0)(h2:∀y∈Y2,¬cm y.1 x.1<0):aR cm ([x]++(Y1++Y2)) (Y1++x::Y2):=by
 refine⟨by rw[List.singleton_append];exact PP,?_⟩;rw[Le] at hY ⊢;refine⟨hY.1,Mi.2 ⟨fun y hy=>?_,hY.2.1⟩,fun y hy z hz=>?_⟩
 ·unfold RT;have:=h2 y hy;have:=H.anti y.1 x.1;have:=ht y (by simp[hy]);omega
 ·rcases Li.1 hz with rfl|hz
  ·exact .inl (h1 y hy)
  ·exact hY.2.2 y hy z hz
end
theorem qd{α:Type}(A P1 P3 E:List α)(x y:α):((A++(P1++x::y::P3)++E).set (A.length+P1.length) y).set (A.length+P1.length+1) x=A++((P1++[y])++x::P3)++E:=by
 have e1:(A++(P1++x::y::P3)++E).set (A.length+P1.length) y=(A++P1++[y])++y::(P3++E):=by
  rw[show A++(P1++x::y::P3)++E=(A++P1)++x::(y::(P3++E)) by simp,Nb _ _ (by simp),show A.length+P1.length-(A++P1).length=0 by simp];simp
 rw[e1,Nb _ _ (by simp;omega),show A.length+P1.length+1-(A++P1++[y]).length=0 by simp;omega];simp
def my(g:Nat)(w:World)(A X Y D:List (PS×Nat))(e:Ending)(w':World):Prop:=e=.returned (.tuple #[])/\∃S,aR (fun p q:PS=>ae (al p).1 (al q).1) (X++Y) S/\dM g w (A++S++D) w'
structure fF(A X Y D:List (PS×Nat))(g n:Nat)(w:World):Prop where
 row:bV w g (A++X++Y++D)
 ln:n=(A++X++Y++D).length
 sz:n*176<=aF
 hX:X.Pairwise (RT (fun p q:PS=>ae (al p).1 (al q).1))
 hY:Y.Pairwise (RT (fun p q:PS=>ae (al p).1 (al q).1))
 hT:∀x∈X,∀y∈Y,x.2<y.2
 cmp:it g w (X++Y)
theorem Ht(H:cL (fun p q:PS=>ae (al p).1 (al q).1))(A:List (PS×Nat))(x:PS×Nat)(Y D:List (PS×Nat))(g n c a m b:Nat)(aI mI bI:Int)(w:World)(h:fF A [x] Y D g n w)(ha:a=A.length)(hm:m=a+1)(hb:b=m+Y.length)(haI:aI=a)(hmI:mI=m)(hbI:bI=b):
 Calls prog 267 #[.slice (some ⟨g,0,none⟩) n c,.int .i64 aI,.int .i64 mI,.int .i64 bI,.func (.func 203) #[] #[]] w (my g w A [x] Y D):=by
 subst haI hmI hbI;have hz:=h.sz;unfold aF at hz;have hbn:b<=n:=by have:=h.ln;simp at this;omega
 have ham:((m:Int)-(a:Int)==1)=true:=by simp;omega
 have HA:=qD ha;have HM:=qD hm;have hm1:a<m:=by omega
 have hmb:m<=b:=by omega
 have HBq:=qD hb;have HH:=qD h;have HO:=qD H;have I0:Hid (dM g w (A++[x]++Y++D) w):=qD ⟨h.row,ey.refl⟩;clear h ha hm hb H;go_enter func267,ntmps267;go_wp2_with fail
 go_loopw [10,11] (fun v10 v11 wr=>∃(i j:Nat),v10=.int .i64 i/\v11=.int .i64 j/\m<=i/\i<=j/\j<=b/\(∀(k:Nat) y,Y[k]?=some y->m+k<i->ae (al y.1).1 (al x.1).1<0)/\(∀(k:Nat) y,Y[k]?=some y->j<=m+k->¬ae (al y.1).1 (al x.1).1<0)/\dM g w (A++[x]++Y++D) wr) (fun v10 v11 _=>(intOf v11).toNat-(intOf v10).toNat)
 ·exact⟨m,b,rfl,rfl,qL,hmb,qL,fun k y _ hk=>by omega,fun k y hy hk=>by have:=(LJ.1 hy).1;have:=HBq.out;omega,I0.out⟩
 case round=>
  obtain⟨i,j,rfl,rfl,hmi,hij,hjb,hlo,hhi,I⟩:=hrel;have HLo:=qD hlo;have HHi:=qD hhi;have J:=qD I;clear hlo hhi;by_cases hlt:i<j
  ·go_upto_region 5 with fail
   obtain⟨h,hh⟩:∃h:Nat,((i:Int)+(j:Int))/2=(h:Int):=⟨(i+j)/2,by omega⟩;rw[hh];have h1:i<=h:=by omega
   have h2:h<j:=by omega
   clear hh;obtain⟨y,hyY⟩:∃y,Y[h-m]?=some y:=⟨_,LI (by have:=HBq.out;omega)⟩
   have hy:(A++[x]++Y++D)[h]?=some y:=by
    have hA:=HA.out;have hM:=HM.out;rw[Ld,Lh (by simp;omega),MG (by have:=(LJ.1 hyY).1;simp;omega)];rw[show h-(A++[x]).length=h-m by simp;omega];exact hyY
   have hx:(A++[x]++Y++D)[a]?=some x:=by
    rw[HA.out];simp
   have p0:wr.cell? ⟨g,h*12,none⟩=some (.int .i64 y.1.1.1.1.k):=I.row.cell hy 0 _ rfl;have p1:wr.cell? ⟨g,h*12+1,none⟩=some (.int .i64 y.1.1.1.1.n):=I.row.cell hy 1 _ rfl;have p2:wr.cell? ⟨g,h*12+2,none⟩=some (.string y.1.1.1.1.t):=I.row.cell hy 2 _ rfl;have p3:wr.cell? ⟨g,h*12+3,none⟩=some (.slice y.1.1.1.1.LA y.1.1.1.1.ln y.1.1.1.1.lc):=I.row.cell hy 3 _ rfl;have p4:wr.cell? ⟨g,h*12+4,none⟩=some (.slice y.1.1.1.1.DA y.1.1.1.1.dn y.1.1.1.1.dc):=I.row.cell hy 4 _ rfl;have p5:wr.cell? ⟨g,h*12+5,none⟩=some (.bool y.1.1.2):=I.row.cell hy 5 _ rfl;have p6:wr.cell? ⟨g,h*12+6,none⟩=some (.int .i64 y.1.2.1.1.k):=I.row.cell hy 6 _ rfl;have p7:wr.cell? ⟨g,h*12+7,none⟩=some (.int .i64 y.1.2.1.1.n):=I.row.cell hy 7 _ rfl;have p8:wr.cell? ⟨g,h*12+8,none⟩=some (.string y.1.2.1.1.t):=I.row.cell hy 8 _ rfl;have p9:wr.cell? ⟨g,h*12+9,none⟩=some (.slice y.1.2.1.1.LA y.1.2.1.1.ln y.1.2.1.1.lc):=I.row.cell hy 9 _ rfl;have p10:wr.cell? ⟨g,h*12+10,none⟩=some (.slice y.1.2.1.1.DA y.1.2.1.1.dn y.1.2.1.1.dc):=I.row.cell hy 10 _ rfl;have p11:wr.cell? ⟨g,h*12+11,none⟩=some (.bool y.1.2.2):=I.row.cell hy 11 _ rfl;have r0:wr.cell? ⟨g,a*12,none⟩=some (.int .i64 x.1.1.1.1.k):=I.row.cell hx 0 _ rfl;have r1:wr.cell? ⟨g,a*12+1,none⟩=some (.int .i64 x.1.1.1.1.n):=I.row.cell hx 1 _ rfl;have r2:wr.cell? ⟨g,a*12+2,none⟩=some (.string x.1.1.1.1.t):=I.row.cell hx 2 _ rfl;have r3:wr.cell? ⟨g,a*12+3,none⟩=some (.slice x.1.1.1.1.LA x.1.1.1.1.ln x.1.1.1.1.lc):=I.row.cell hx 3 _ rfl
   have r4:wr.cell? ⟨g,a*12+4,none⟩=some (.slice x.1.1.1.1.DA x.1.1.1.1.dn x.1.1.1.1.dc):=I.row.cell hx 4 _ rfl;have r5:wr.cell? ⟨g,a*12+5,none⟩=some (.bool x.1.1.2):=I.row.cell hx 5 _ rfl;have r6:wr.cell? ⟨g,a*12+6,none⟩=some (.int .i64 x.1.2.1.1.k):=I.row.cell hx 6 _ rfl;have r7:wr.cell? ⟨g,a*12+7,none⟩=some (.int .i64 x.1.2.1.1.n):=I.row.cell hx 7 _ rfl;have r8:wr.cell? ⟨g,a*12+8,none⟩=some (.string x.1.2.1.1.t):=I.row.cell hx 8 _ rfl;have r9:wr.cell? ⟨g,a*12+9,none⟩=some (.slice x.1.2.1.1.LA x.1.2.1.1.ln x.1.2.1.1.lc):=I.row.cell hx 9 _ rfl;have r10:wr.cell? ⟨g,a*12+10,none⟩=some (.slice x.1.2.1.1.DA x.1.2.1.1.dn x.1.2.1.1.dc):=I.row.cell hx 10 _ rfl;have r11:wr.cell? ⟨g,a*12+11,none⟩=some (.bool x.1.2.2):=I.row.cell hx 11 _ rfl;have P0:∀k:BW wr,k.val.cell? ⟨g,h*12,none⟩=some (.int .i64 y.1.1.1.1.k):=fun k=>k.cell p0;have P1:∀k:BW wr,k.val.cell? ⟨g,h*12+1,none⟩=some (.int .i64 y.1.1.1.1.n):=fun k=>k.cell p1;have P2:∀k:BW wr,k.val.cell? ⟨g,h*12+2,none⟩=some (.string y.1.1.1.1.t):=fun k=>k.cell p2;have P3:∀k:BW wr,k.val.cell? ⟨g,h*12+3,none⟩=some (.slice y.1.1.1.1.LA y.1.1.1.1.ln y.1.1.1.1.lc):=fun k=>k.cell p3;have P4:∀k:BW wr,k.val.cell? ⟨g,h*12+4,none⟩=some (.slice y.1.1.1.1.DA y.1.1.1.1.dn y.1.1.1.1.dc):=fun k=>k.cell p4;have P5:∀k:BW wr,k.val.cell? ⟨g,h*12+5,none⟩=some (.bool y.1.1.2):=fun k=>k.cell p5;have P6:∀k:BW wr,k.val.cell? ⟨g,h*12+6,none⟩=some (.int .i64 y.1.2.1.1.k):=fun k=>k.cell p6
   have P7:∀k:BW wr,k.val.cell? ⟨g,h*12+7,none⟩=some (.int .i64 y.1.2.1.1.n):=fun k=>k.cell p7;have P8:∀k:BW wr,k.val.cell? ⟨g,h*12+8,none⟩=some (.string y.1.2.1.1.t):=fun k=>k.cell p8;have P9:∀k:BW wr,k.val.cell? ⟨g,h*12+9,none⟩=some (.slice y.1.2.1.1.LA y.1.2.1.1.ln y.1.2.1.1.lc):=fun k=>k.cell p9;have P10:∀k:BW wr,k.val.cell? ⟨g,h*12+10,none⟩=some (.slice y.1.2.1.1.DA y.1.2.1.1.dn y.1.2.1.1.dc):=fun k=>k.cell p10;have P11:∀k:BW wr,k.val.cell? ⟨g,h*12+11,none⟩=some (.bool y.1.2.2):=fun k=>k.cell p11;have R0:∀k:BW wr,k.val.cell? ⟨g,a*12,none⟩=some (.int .i64 x.1.1.1.1.k):=fun k=>k.cell r0;have R1:∀k:BW wr,k.val.cell? ⟨g,a*12+1,none⟩=some (.int .i64 x.1.1.1.1.n):=fun k=>k.cell r1;have R2:∀k:BW wr,k.val.cell? ⟨g,a*12+2,none⟩=some (.string x.1.1.1.1.t):=fun k=>k.cell r2;have R3:∀k:BW wr,k.val.cell? ⟨g,a*12+3,none⟩=some (.slice x.1.1.1.1.LA x.1.1.1.1.ln x.1.1.1.1.lc):=fun k=>k.cell r3;have R4:∀k:BW wr,k.val.cell? ⟨g,a*12+4,none⟩=some (.slice x.1.1.1.1.DA x.1.1.1.1.dn x.1.1.1.1.dc):=fun k=>k.cell r4;have R5:∀k:BW wr,k.val.cell? ⟨g,a*12+5,none⟩=some (.bool x.1.1.2):=fun k=>k.cell r5;have R6:∀k:BW wr,k.val.cell? ⟨g,a*12+6,none⟩=some (.int .i64 x.1.2.1.1.k):=fun k=>k.cell r6;have R7:∀k:BW wr,k.val.cell? ⟨g,a*12+7,none⟩=some (.int .i64 x.1.2.1.1.n):=fun k=>k.cell r7;have R8:∀k:BW wr,k.val.cell? ⟨g,a*12+8,none⟩=some (.string x.1.2.1.1.t):=fun k=>k.cell r8;have R9:∀k:BW wr,k.val.cell? ⟨g,a*12+9,none⟩=some (.slice x.1.2.1.1.LA x.1.2.1.1.ln x.1.2.1.1.lc):=fun k=>k.cell r9
   have R10:∀k:BW wr,k.val.cell? ⟨g,a*12+10,none⟩=some (.slice x.1.2.1.1.DA x.1.2.1.1.dn x.1.2.1.1.dc):=fun k=>k.cell r10;have R11:∀k:BW wr,k.val.cell? ⟨g,a*12+11,none⟩=some (.bool x.1.2.2):=fun k=>k.cell r11;have i0:(0:Int)<=(h:Int):=by omega
   have i1:(h:Int)<(n:Int):=by omega
   have i2:(0:Int)<=(a:Int):=by omega
   have i3:(a:Int)<(n:Int):=by omega
   have K1:Hid (∀k:BW wr,Calls prog 203 #[lU y,lU x] k.val fun e w''=>e=.returned (.int .i64 (ae (al y.1).1 (al x.1).1))/\∃k:BW wr,w''=k.val):=fun k=>
    Calls.bw (HH.out.cmp y x (by simp[LP hyY]) (by simp) k.val (I.but.step k.below))
   have HY:=qD hyY;clear p0 p1 p2 p3 p4 p5 p6 p7 p8 p9 p10 p11 r0 r1 r2 r3 r4 r5 r6 r7 r8 r9 r10 r11 hx hy hyY I;refine aL (by kernel_rfl) (by kernel_rfl) ?_
   repeat(go_big_quiet_step (with_reducible exact K1.out _))
   refine Ln ?_;rintro _ ⟨kw,rfl⟩;have J2:=qD (J.out.step kw.below);clear P0 P1 P2 P3 P4 P5 P6 P7 P8 P9 P10 P11 R0 R1 R2 R3 R4 R5 R6 R7 R8 R9 R10 R11 K1 i0 i1 i2 i3;generalize kw.val=w2 at*;by_cases hc:ae (al y.1).1 (al x.1).1<0
   ·have HLo2:Hid (∀(k:Nat) z,Y[k]?=some z->m+k<h+1->ae (al z.1).1 (al x.1).1<0):=fun k z hz hk=>by
     by_cases e:k=h-m
     ·subst e;rw[HY.out] at hz;cases hz;exact hc
     ·exact qa HO.out (RT.le (mx HH.out.hY (by omega) hz HY.out)) hc
    go_wp2_with fail;go_roundw
    ·exact⟨h+1,j,by go_num,rfl,by omega,by omega,hjb,HLo2.out,HHi.out,J2.out⟩
    ·simp[intOf];omega
   ·have HHi2:Hid (∀(k:Nat) z,Y[k]?=some z->h<=m+k->¬ae (al z.1).1 (al x.1).1<0):=fun k z hz hk=>by
     by_cases e:k=h-m
     ·subst e;rw[HY.out] at hz;cases hz;exact hc
     ·have q1:=RT.le (mx HH.out.hY (by omega) HY.out hz);have q2:ae (al x.1).1 (al y.1).1=-(ae (al y.1).1 (al x.1).1):=HO.out.anti y.1 x.1;have q3:ae (al x.1).1 (al z.1).1<=0:=jS HO.out (y:=y.1) (show ae (al x.1).1 (al y.1).1<=0 by omega) q1;have q4:ae (al z.1).1 (al x.1).1=-(ae (al x.1).1 (al z.1).1):=HO.out.anti x.1 z.1;omega
    go_wp2_with fail;go_roundw
    ·exact⟨i,h,rfl,rfl,hmi,h1,by omega,HLo.out,HHi2.out,J2.out⟩
    ·simp[intOf];omega
  ·obtain rfl:i=j:=by omega
   obtain⟨Y1,Y2,hYY,hY1⟩:∃Y1 Y2,Y=Y1++Y2/\Y1.length=i-m:=⟨Y.take (i-m),Y.drop (i-m),(Lf _ Y).symm,by rw[Lx];have:=HBq.out;omega⟩
   have HS:Hid (aR (fun p q:PS=>ae (al p).1 (al q).1) ([x]++Y) (Y1++x::Y2)):=by
    have hp:=HH.out.hY;have ht:=HH.out.hT x (by simp);rw[hYY] at hp ht;rw[Hid,hYY];refine sq HO.out hp ht (fun y hy=>?_) (fun y hy=>?_)
    ·obtain⟨k,hk⟩:=MK hy;have hkl:=(LJ.1 hk).1;exact HLo.out k y (by rw[hYY,MG hkl];exact hk) (by omega)
    ·obtain⟨k,hk⟩:=MK hy;exact HHi.out (Y1.length+k) y (by rw[hYY,Lh (by omega)];simpa using hk) (by omega)
   have HYY:=qD hYY;have HY1:=qD hY1;clear hYY hY1 I HLo HHi;go_wp2_with fail
   go_loopw [13] (fun v13 wr=>∃(k:Nat) (P1 P2:List (PS×Nat)),v13=.int .i64 k/\k=a+P1.length/\Y1=P1++P2/\dM g w (A++(P1++x::P2)++(Y2++D)) wr) (fun v13 _=>n-(intOf v13).toNat)
   case atStart=>
    refine⟨a,[],Y1,rfl,rfl,rfl,?_⟩;have:=J.out;rw[HYY.out] at this;simpa using this
   case round=>
    obtain⟨k,P1,P2,rfl,hk,hPP,I⟩:=hrel;have HPP:=qD hPP;have HK:=qD hk;have J2:=qD I;have hkl:P1.length<=i-m:=by rw[<-HY1.out,hPP];simp
    by_cases hlt2:k<i-1
    ·obtain⟨y,P3,hP3⟩:∃y P3,P2=y::P3:=by
      cases P2 with
      | nil=>have h1:=HY1.out;rw[hPP] at h1;simp at h1;have:=HM.out;omega
      | cons y P3=>exact⟨y,P3,rfl⟩
     subst hP3;have hkA:k=A.length+P1.length:=by rw[hk,HA.out]
     have HX:Hid ((A++(P1++x::y::P3)++(Y2++D))[k]?=some x):=by rw[Hid,hkA];simp
     have HYk:Hid ((A++(P1++x::y::P3)++(Y2++D))[k+1]?=some y):=by
      rw[Hid,hkA,show A++(P1++x::y::P3)++(Y2++D)=(A++P1++[x])++y::(P3++(Y2++D)) by simp,Lh (by simp;omega),show A.length+P1.length+1-(A++P1++[x]).length=0 by simp;omega];rfl
     have HSw:Hid (((A++(P1++x::y::P3)++(Y2++D)).set k y).set (k+1) x=A++((P1++[y])++x::P3)++(Y2++D)):=by
      rw[Hid,hkA];exact qd A P1 P3 (Y2++D) x y
     have hkn:k+1<n:=by omega
     have p0:wr.cell? ⟨g,k*12,none⟩=some (.int .i64 x.1.1.1.1.k):=J2.out.row.cell HX.out 0 _ rfl;have p1:wr.cell? ⟨g,k*12+1,none⟩=some (.int .i64 x.1.1.1.1.n):=J2.out.row.cell HX.out 1 _ rfl;have p2:wr.cell? ⟨g,k*12+2,none⟩=some (.string x.1.1.1.1.t):=J2.out.row.cell HX.out 2 _ rfl;have p3:wr.cell? ⟨g,k*12+3,none⟩=some (.slice x.1.1.1.1.LA x.1.1.1.1.ln x.1.1.1.1.lc):=J2.out.row.cell HX.out 3 _ rfl;have p4:wr.cell? ⟨g,k*12+4,none⟩=some (.slice x.1.1.1.1.DA x.1.1.1.1.dn x.1.1.1.1.dc):=J2.out.row.cell HX.out 4 _ rfl;have p5:wr.cell? ⟨g,k*12+5,none⟩=some (.bool x.1.1.2):=J2.out.row.cell HX.out 5 _ rfl;have p6:wr.cell? ⟨g,k*12+6,none⟩=some (.int .i64 x.1.2.1.1.k):=J2.out.row.cell HX.out 6 _ rfl;have p7:wr.cell? ⟨g,k*12+7,none⟩=some (.int .i64 x.1.2.1.1.n):=J2.out.row.cell HX.out 7 _ rfl;have p8:wr.cell? ⟨g,k*12+8,none⟩=some (.string x.1.2.1.1.t):=J2.out.row.cell HX.out 8 _ rfl;have p9:wr.cell? ⟨g,k*12+9,none⟩=some (.slice x.1.2.1.1.LA x.1.2.1.1.ln x.1.2.1.1.lc):=J2.out.row.cell HX.out 9 _ rfl;have p10:wr.cell? ⟨g,k*12+10,none⟩=some (.slice x.1.2.1.1.DA x.1.2.1.1.dn x.1.2.1.1.dc):=J2.out.row.cell HX.out 10 _ rfl;have p11:wr.cell? ⟨g,k*12+11,none⟩=some (.bool x.1.2.2):=J2.out.row.cell HX.out 11 _ rfl;have r0:wr.cell? ⟨g,(k+1)*12,none⟩=some (.int .i64 y.1.1.1.1.k):=J2.out.row.cell HYk.out 0 _ rfl;have r1:wr.cell? ⟨g,(k+1)*12+1,none⟩=some (.int .i64 y.1.1.1.1.n):=J2.out.row.cell HYk.out 1 _ rfl
     have r2:wr.cell? ⟨g,(k+1)*12+2,none⟩=some (.string y.1.1.1.1.t):=J2.out.row.cell HYk.out 2 _ rfl;have r3:wr.cell? ⟨g,(k+1)*12+3,none⟩=some (.slice y.1.1.1.1.LA y.1.1.1.1.ln y.1.1.1.1.lc):=J2.out.row.cell HYk.out 3 _ rfl;have r4:wr.cell? ⟨g,(k+1)*12+4,none⟩=some (.slice y.1.1.1.1.DA y.1.1.1.1.dn y.1.1.1.1.dc):=J2.out.row.cell HYk.out 4 _ rfl;have r5:wr.cell? ⟨g,(k+1)*12+5,none⟩=some (.bool y.1.1.2):=J2.out.row.cell HYk.out 5 _ rfl;have r6:wr.cell? ⟨g,(k+1)*12+6,none⟩=some (.int .i64 y.1.2.1.1.k):=J2.out.row.cell HYk.out 6 _ rfl;have r7:wr.cell? ⟨g,(k+1)*12+7,none⟩=some (.int .i64 y.1.2.1.1.n):=J2.out.row.cell HYk.out 7 _ rfl;have r8:wr.cell? ⟨g,(k+1)*12+8,none⟩=some (.string y.1.2.1.1.t):=J2.out.row.cell HYk.out 8 _ rfl;have r9:wr.cell? ⟨g,(k+1)*12+9,none⟩=some (.slice y.1.2.1.1.LA y.1.2.1.1.ln y.1.2.1.1.lc):=J2.out.row.cell HYk.out 9 _ rfl;have r10:wr.cell? ⟨g,(k+1)*12+10,none⟩=some (.slice y.1.2.1.1.DA y.1.2.1.1.dn y.1.2.1.1.dc):=J2.out.row.cell HYk.out 10 _ rfl;have r11:wr.cell? ⟨g,(k+1)*12+11,none⟩=some (.bool y.1.2.2):=J2.out.row.cell HYk.out 11 _ rfl;have z:=bV.frozen J2.out.row;clear hk hPP I hkA hkl;go_upto_region 11 with fail
     go_region
     all_goals
      clear p0 p1 p2 p3 p4 p5 p6 p7 p8 p9 p10 p11 r0 r1 r2 r3 r4 r5 r6 r7 r8 r9 r10 r11 z;go_wp2_with fail;refine⟨⟨k+1,P1++[y],P3,by go_num,by rw[HK.out];simp;omega,by rw[HPP.out];simp,?_⟩,by simp[intOf];omega⟩;have r1:=J2.out.Kd (LJ.1 HX.out).1 (LJ.1 HYk.out).1 x y;rw[HSw.out] at r1;exact r1
    ·have HE:Hid (dM g w (A++(Y1++x::Y2)++D) wr):=by
      have e:P2=[]:=LO (by have h1:=HY1.out;rw[hPP] at h1;simp at h1;have:=HM.out;omega);rw[e,Lm] at hPP;rw[e] at I;rw[Hid,hPP];simpa using I
     clear hk hPP I hkl;go_wp2_with fail
     go_end0
     exact⟨rfl,_,HS.out,HE.out⟩
theorem qe{α:Type}{cm:α->α->Int}(H:cL cm){y:α×Nat}{X1 X2:List (α×Nat)}(hX:(X1++X2).Pairwise (RT cm))(ht:∀x∈X1++X2,x.2<y.2)(h1:∀x∈X1,¬cm y.1 x.1<0)(h2:∀x∈X2,cm y.1 x.1<0):aR cm ((X1++X2)++[y]) (X1++y::X2):=by
 refine⟨PP.trans (OS y _).symm,?_⟩;rw[Le] at hX ⊢;refine⟨hX.1,Mi.2 ⟨fun x hx=>.inl (h2 x hx),hX.2.1⟩,fun x hx z hz=>?_⟩;rcases Li.1 hz with rfl|hz
 ·unfold RT;have:=h1 x hx;have:=H.anti z.1 x.1;have:=ht x (by simp[hx]);omega
 ·exact hX.2.2 x hx z hz
theorem Hu(H:cL (fun p q:PS=>ae (al p).1 (al q).1))(A X:List (PS×Nat))(y:PS×Nat)(D:List (PS×Nat))(g n c a m b:Nat)(aI mI bI:Int)(w:World)(h:fF A X [y] D g n w)(ha:a=A.length)(hm:m=a+X.length)(hb:b=m+1)(hX2:2<=X.length)(haI:aI=a)(hmI:mI=m)(hbI:bI=b):
 Calls prog 267 #[.slice (some ⟨g,0,none⟩) n c,.int .i64 aI,.int .i64 mI,.int .i64 bI,.func (.func 203) #[] #[]] w (my g w A X [y] D):=by
 subst haI hmI hbI;have hz:=h.sz;unfold aF at hz;have hbn:b<=n:=by have:=h.ln;simp at this;omega
 have ham:((m:Int)-(a:Int)==1)=false:=by simp;omega
 have hbm:((b:Int)-(m:Int)==1)=true:=by simp;omega
 have HA:=qD ha;have HM:=qD hm;have hm1:a<=m:=by omega
 have hmb:m<b:=by omega
 have HH:=qD h;have HO:=qD H;have I0:Hid (dM g w (A++X++[y]++D) w):=qD ⟨h.row,ey.refl⟩;clear h ha hm hb H;go_enter func267,ntmps267;go_wp2_with fail
 go_loopw [14,15] (fun v14 v15 wr=>∃(i j:Nat),v14=.int .i64 i/\v15=.int .i64 j/\a<=i/\i<=j/\j<=m/\(∀(k:Nat) x,X[k]?=some x->a+k<i->¬ae (al y.1).1 (al x.1).1<0)/\(∀(k:Nat) x,X[k]?=some x->j<=a+k->ae (al y.1).1 (al x.1).1<0)/\dM g w (A++X++[y]++D) wr) (fun v14 v15 _=>(intOf v15).toNat-(intOf v14).toNat)
 ·exact⟨a,m,rfl,rfl,qL,hm1,qL,fun k y _ hk=>by omega,fun k y hy hk=>by have:=(LJ.1 hy).1;have:=HM.out;omega,I0.out⟩
 case round=>
  obtain⟨i,j,rfl,rfl,hmi,hij,hjb,hlo,hhi,I⟩:=hrel;have HLo:=qD hlo;have HHi:=qD hhi;have J:=qD I;clear hlo hhi;by_cases hlt:i<j
  ·go_upto_region 17 with fail
   obtain⟨h,hh⟩:∃h:Nat,((i:Int)+(j:Int))/2=(h:Int):=⟨(i+j)/2,by omega⟩;rw[hh];have h1:i<=h:=by omega
   have h2:h<j:=by omega
   clear hh;obtain⟨x,hxX⟩:∃x,X[h-a]?=some x:=⟨_,LI (by have:=HM.out;omega)⟩
   have hx:(A++X++[y]++D)[h]?=some x:=by
    have hA:=HA.out;rw[Ld,Ld,Lh (by omega),MG (by have:=(LJ.1 hxX).1;omega),<-hA];exact hxX
   have hy:(A++X++[y]++D)[m]?=some y:=by
    have hA:=HA.out;have hM:=HM.out;rw[Ld,Lh (by simp;omega),show m-(A++X).length=0 by simp;omega];rfl
   have p0:wr.cell? ⟨g,h*12,none⟩=some (.int .i64 x.1.1.1.1.k):=I.row.cell hx 0 _ rfl;have p1:wr.cell? ⟨g,h*12+1,none⟩=some (.int .i64 x.1.1.1.1.n):=I.row.cell hx 1 _ rfl;have p2:wr.cell? ⟨g,h*12+2,none⟩=some (.string x.1.1.1.1.t):=I.row.cell hx 2 _ rfl;have p3:wr.cell? ⟨g,h*12+3,none⟩=some (.slice x.1.1.1.1.LA x.1.1.1.1.ln x.1.1.1.1.lc):=I.row.cell hx 3 _ rfl;have p4:wr.cell? ⟨g,h*12+4,none⟩=some (.slice x.1.1.1.1.DA x.1.1.1.1.dn x.1.1.1.1.dc):=I.row.cell hx 4 _ rfl;have p5:wr.cell? ⟨g,h*12+5,none⟩=some (.bool x.1.1.2):=I.row.cell hx 5 _ rfl;have p6:wr.cell? ⟨g,h*12+6,none⟩=some (.int .i64 x.1.2.1.1.k):=I.row.cell hx 6 _ rfl;have p7:wr.cell? ⟨g,h*12+7,none⟩=some (.int .i64 x.1.2.1.1.n):=I.row.cell hx 7 _ rfl;have p8:wr.cell? ⟨g,h*12+8,none⟩=some (.string x.1.2.1.1.t):=I.row.cell hx 8 _ rfl;have p9:wr.cell? ⟨g,h*12+9,none⟩=some (.slice x.1.2.1.1.LA x.1.2.1.1.ln x.1.2.1.1.lc):=I.row.cell hx 9 _ rfl;have p10:wr.cell? ⟨g,h*12+10,none⟩=some (.slice x.1.2.1.1.DA x.1.2.1.1.dn x.1.2.1.1.dc):=I.row.cell hx 10 _ rfl;have p11:wr.cell? ⟨g,h*12+11,none⟩=some (.bool x.1.2.2):=I.row.cell hx 11 _ rfl;have r0:wr.cell? ⟨g,m*12,none⟩=some (.int .i64 y.1.1.1.1.k):=I.row.cell hy 0 _ rfl;have r1:wr.cell? ⟨g,m*12+1,none⟩=some (.int .i64 y.1.1.1.1.n):=I.row.cell hy 1 _ rfl;have r2:wr.cell? ⟨g,m*12+2,none⟩=some (.string y.1.1.1.1.t):=I.row.cell hy 2 _ rfl;have r3:wr.cell? ⟨g,m*12+3,none⟩=some (.slice y.1.1.1.1.LA y.1.1.1.1.ln y.1.1.1.1.lc):=I.row.cell hy 3 _ rfl
   have r4:wr.cell? ⟨g,m*12+4,none⟩=some (.slice y.1.1.1.1.DA y.1.1.1.1.dn y.1.1.1.1.dc):=I.row.cell hy 4 _ rfl;have r5:wr.cell? ⟨g,m*12+5,none⟩=some (.bool y.1.1.2):=I.row.cell hy 5 _ rfl;have r6:wr.cell? ⟨g,m*12+6,none⟩=some (.int .i64 y.1.2.1.1.k):=I.row.cell hy 6 _ rfl;have r7:wr.cell? ⟨g,m*12+7,none⟩=some (.int .i64 y.1.2.1.1.n):=I.row.cell hy 7 _ rfl;have r8:wr.cell? ⟨g,m*12+8,none⟩=some (.string y.1.2.1.1.t):=I.row.cell hy 8 _ rfl;have r9:wr.cell? ⟨g,m*12+9,none⟩=some (.slice y.1.2.1.1.LA y.1.2.1.1.ln y.1.2.1.1.lc):=I.row.cell hy 9 _ rfl;have r10:wr.cell? ⟨g,m*12+10,none⟩=some (.slice y.1.2.1.1.DA y.1.2.1.1.dn y.1.2.1.1.dc):=I.row.cell hy 10 _ rfl;have r11:wr.cell? ⟨g,m*12+11,none⟩=some (.bool y.1.2.2):=I.row.cell hy 11 _ rfl;have P0:∀k:BW wr,k.val.cell? ⟨g,h*12,none⟩=some (.int .i64 x.1.1.1.1.k):=fun k=>k.cell p0;have P1:∀k:BW wr,k.val.cell? ⟨g,h*12+1,none⟩=some (.int .i64 x.1.1.1.1.n):=fun k=>k.cell p1;have P2:∀k:BW wr,k.val.cell? ⟨g,h*12+2,none⟩=some (.string x.1.1.1.1.t):=fun k=>k.cell p2;have P3:∀k:BW wr,k.val.cell? ⟨g,h*12+3,none⟩=some (.slice x.1.1.1.1.LA x.1.1.1.1.ln x.1.1.1.1.lc):=fun k=>k.cell p3;have P4:∀k:BW wr,k.val.cell? ⟨g,h*12+4,none⟩=some (.slice x.1.1.1.1.DA x.1.1.1.1.dn x.1.1.1.1.dc):=fun k=>k.cell p4;have P5:∀k:BW wr,k.val.cell? ⟨g,h*12+5,none⟩=some (.bool x.1.1.2):=fun k=>k.cell p5;have P6:∀k:BW wr,k.val.cell? ⟨g,h*12+6,none⟩=some (.int .i64 x.1.2.1.1.k):=fun k=>k.cell p6
   have P7:∀k:BW wr,k.val.cell? ⟨g,h*12+7,none⟩=some (.int .i64 x.1.2.1.1.n):=fun k=>k.cell p7;have P8:∀k:BW wr,k.val.cell? ⟨g,h*12+8,none⟩=some (.string x.1.2.1.1.t):=fun k=>k.cell p8;have P9:∀k:BW wr,k.val.cell? ⟨g,h*12+9,none⟩=some (.slice x.1.2.1.1.LA x.1.2.1.1.ln x.1.2.1.1.lc):=fun k=>k.cell p9;have P10:∀k:BW wr,k.val.cell? ⟨g,h*12+10,none⟩=some (.slice x.1.2.1.1.DA x.1.2.1.1.dn x.1.2.1.1.dc):=fun k=>k.cell p10;have P11:∀k:BW wr,k.val.cell? ⟨g,h*12+11,none⟩=some (.bool x.1.2.2):=fun k=>k.cell p11;have R0:∀k:BW wr,k.val.cell? ⟨g,m*12,none⟩=some (.int .i64 y.1.1.1.1.k):=fun k=>k.cell r0;have R1:∀k:BW wr,k.val.cell? ⟨g,m*12+1,none⟩=some (.int .i64 y.1.1.1.1.n):=fun k=>k.cell r1;have R2:∀k:BW wr,k.val.cell? ⟨g,m*12+2,none⟩=some (.string y.1.1.1.1.t):=fun k=>k.cell r2;have R3:∀k:BW wr,k.val.cell? ⟨g,m*12+3,none⟩=some (.slice y.1.1.1.1.LA y.1.1.1.1.ln y.1.1.1.1.lc):=fun k=>k.cell r3;have R4:∀k:BW wr,k.val.cell? ⟨g,m*12+4,none⟩=some (.slice y.1.1.1.1.DA y.1.1.1.1.dn y.1.1.1.1.dc):=fun k=>k.cell r4;have R5:∀k:BW wr,k.val.cell? ⟨g,m*12+5,none⟩=some (.bool y.1.1.2):=fun k=>k.cell r5;have R6:∀k:BW wr,k.val.cell? ⟨g,m*12+6,none⟩=some (.int .i64 y.1.2.1.1.k):=fun k=>k.cell r6;have R7:∀k:BW wr,k.val.cell? ⟨g,m*12+7,none⟩=some (.int .i64 y.1.2.1.1.n):=fun k=>k.cell r7;have R8:∀k:BW wr,k.val.cell? ⟨g,m*12+8,none⟩=some (.string y.1.2.1.1.t):=fun k=>k.cell r8;have R9:∀k:BW wr,k.val.cell? ⟨g,m*12+9,none⟩=some (.slice y.1.2.1.1.LA y.1.2.1.1.ln y.1.2.1.1.lc):=fun k=>k.cell r9
   have R10:∀k:BW wr,k.val.cell? ⟨g,m*12+10,none⟩=some (.slice y.1.2.1.1.DA y.1.2.1.1.dn y.1.2.1.1.dc):=fun k=>k.cell r10;have R11:∀k:BW wr,k.val.cell? ⟨g,m*12+11,none⟩=some (.bool y.1.2.2):=fun k=>k.cell r11;have i0:(0:Int)<=(h:Int):=by omega
   have i1:(h:Int)<(n:Int):=by omega
   have i2:(0:Int)<=(m:Int):=by omega
   have i3:(m:Int)<(n:Int):=by omega
   have K1:Hid (∀k:BW wr,Calls prog 203 #[lU y,lU x] k.val fun e w''=>e=.returned (.int .i64 (ae (al y.1).1 (al x.1).1))/\∃k:BW wr,w''=k.val):=fun k=>
    Calls.bw (HH.out.cmp y x (by simp) (by simp[LP hxX]) k.val (I.but.step k.below))
   have HY:=qD hxX;clear p0 p1 p2 p3 p4 p5 p6 p7 p8 p9 p10 p11 r0 r1 r2 r3 r4 r5 r6 r7 r8 r9 r10 r11 hx hy hxX I;refine aL (by kernel_rfl) (by kernel_rfl) ?_
   repeat(go_big_quiet_step (with_reducible exact K1.out _))
   refine Ln ?_;rintro _ ⟨kw,rfl⟩;have J2:=qD (J.out.step kw.below);clear P0 P1 P2 P3 P4 P5 P6 P7 P8 P9 P10 P11 R0 R1 R2 R3 R4 R5 R6 R7 R8 R9 R10 R11 K1 i0 i1 i2 i3;generalize kw.val=w2 at*;by_cases hc:ae (al y.1).1 (al x.1).1<0
   ·have HHi2:Hid (∀(k:Nat) z,X[k]?=some z->h<=a+k->ae (al y.1).1 (al z.1).1<0):=fun k z hz hk=>by
     by_cases e:k=h-a
     ·subst e;rw[HY.out] at hz;cases hz;exact hc
     ·exact qb HO.out (y:=x.1) hc (RT.le (mx HH.out.hX (by omega) HY.out hz))
    have d4:(!decide (ae (al y.1).1 (al x.1).1<0))=false:=by rw[LN hc];rfl
    go_wp2_with fail
    all_goals first|(rename_i e;rw[d4] at e;contradiction)|skip
    go_roundw
    ·exact⟨i,h,rfl,rfl,hmi,h1,by omega,HLo.out,HHi2.out,J2.out⟩
    ·simp[intOf];omega
   ·have HLo2:Hid (∀(k:Nat) z,X[k]?=some z->a+k<h+1->¬ae (al y.1).1 (al z.1).1<0):=fun k z hz hk=>by
     by_cases e:k=h-a
     ·subst e;rw[HY.out] at hz;cases hz;exact hc
     ·have q1:=RT.le (mx HH.out.hX (by omega) hz HY.out);have q2:ae (al x.1).1 (al y.1).1=-(ae (al y.1).1 (al x.1).1):=HO.out.anti y.1 x.1;have q3:ae (al z.1).1 (al y.1).1<=0:=jS HO.out (y:=x.1) q1 (show ae (al x.1).1 (al y.1).1<=0 by omega);have q4:ae (al y.1).1 (al z.1).1=-(ae (al z.1).1 (al y.1).1):=HO.out.anti z.1 y.1;omega
    have d4:(!decide (ae (al y.1).1 (al x.1).1<0))=true:=by rw[LW hc];rfl
    go_wp2_with fail
    all_goals first|(rename_i e;rw[d4] at e;contradiction)|skip
    go_roundw
    ·exact⟨h+1,j,by go_num,rfl,by omega,by omega,hjb,HLo2.out,HHi.out,J2.out⟩
    ·simp[intOf];omega
  ·obtain rfl:i=j:=by omega
   obtain⟨X1,X2,hXX,hX1⟩:∃X1 X2,X=X1++X2/\X1.length=i-a:=⟨X.take (i-a),X.drop (i-a),(Lf _ X).symm,by rw[Lx];have:=HM.out;omega⟩
   have HS:Hid (aR (fun p q:PS=>ae (al p).1 (al q).1) (X++[y]) (X1++y::X2)):=by
    have hp:=HH.out.hX;have ht:∀x∈X,x.2<y.2:=fun x hx=>HH.out.hT x hx y (by simp);rw[hXX] at hp ht;rw[Hid,hXX];refine qe HO.out hp ht (fun x hx=>?_) (fun x hx=>?_)
    ·obtain⟨k,hk⟩:=MK hx;have hkl:=(LJ.1 hk).1;exact HLo.out k x (by rw[hXX,MG hkl];exact hk) (by omega)
    ·obtain⟨k,hk⟩:=MK hx;exact HHi.out (X1.length+k) x (by rw[hXX,Lh (by omega)];simpa using hk) (by omega)
   have HXX:=qD hXX;have HX1:=qD hX1;have hX2l:X2.length=m-i:=by have h1:=HM.out;rw[hXX] at h1;simp at h1;omega
   have HX2:=qD hX2l;clear hXX hX1 I HLo HHi hX2l;go_wp2_with fail
   go_loopw [17] (fun v17 wr=>∃(k:Nat) (P1 P2:List (PS×Nat)),v17=.int .i64 k/\k=i+P1.length/\X2=P1++P2/\dM g w ((A++X1)++(P1++y::P2)++D) wr) (fun v17 _=>(intOf v17).toNat)
   case atStart=>
    refine⟨m,X2,[],rfl,by have:=HX2.out;omega,by simp,?_⟩;have:=J.out;rw[HXX.out] at this;simpa using this
   case round=>
    obtain⟨k,P1,P2,rfl,hk,hPP,I⟩:=hrel;have HPP:=qD hPP;have HK:=qD hk;have J2:=qD I;have hkm:k<=m:=by have h1:=HX2.out;rw[hPP] at h1;simp at h1;omega
    by_cases hlt2:i<k
    ·obtain⟨P0,z,hP0⟩:∃P0 z,P1=P0++[z]:=by
      rcases NI P1 with h|⟨P0,z,h⟩
      ·rw[h] at hk;simp at hk;omega
      ·exact⟨P0,z,by rw[h,My]⟩
     have hkA:k=(A++X1).length+(P0.length+1):=by rw[hk,hP0];have:=HX1.out;have:=HA.out;simp;omega
     have HYk:Hid (((A++X1)++(P1++y::P2)++D)[k]?=some y):=by
      rw[Hid,hP0,hkA,show(A++X1)++((P0++[z])++y::P2)++D=(A++X1++P0++[z])++y::(P2++D) by simp,Lh (by simp;omega),show(A++X1).length+(P0.length+1)-(A++X1++P0++[z]).length=0 by simp;omega];rfl
     have HZk:Hid (((A++X1)++(P1++y::P2)++D)[k-1]?=some z):=by
      rw[Hid,hP0,hkA,show(A++X1)++((P0++[z])++y::P2)++D=(A++X1++P0)++z::(y::(P2++D)) by simp,Lh (by simp;omega),show(A++X1).length+(P0.length+1)-1-(A++X1++P0).length=0 by simp;omega];rfl
     have HSw:Hid ((((A++X1)++(P1++y::P2)++D).set k z).set (k-1) y=(A++X1)++(P0++y::z::P2)++D):=by
      rw[Hid,hP0,hkA];exact lJ (A++X1) P0 P2 D y z
     have HP0:=qD hP0;have hk1:1<=k:=by omega
     have p0:wr.cell? ⟨g,k*12,none⟩=some (.int .i64 y.1.1.1.1.k):=J2.out.row.cell HYk.out 0 _ rfl;have p1:wr.cell? ⟨g,k*12+1,none⟩=some (.int .i64 y.1.1.1.1.n):=J2.out.row.cell HYk.out 1 _ rfl;have p2:wr.cell? ⟨g,k*12+2,none⟩=some (.string y.1.1.1.1.t):=J2.out.row.cell HYk.out 2 _ rfl;have p3:wr.cell? ⟨g,k*12+3,none⟩=some (.slice y.1.1.1.1.LA y.1.1.1.1.ln y.1.1.1.1.lc):=J2.out.row.cell HYk.out 3 _ rfl;have p4:wr.cell? ⟨g,k*12+4,none⟩=some (.slice y.1.1.1.1.DA y.1.1.1.1.dn y.1.1.1.1.dc):=J2.out.row.cell HYk.out 4 _ rfl;have p5:wr.cell? ⟨g,k*12+5,none⟩=some (.bool y.1.1.2):=J2.out.row.cell HYk.out 5 _ rfl;have p6:wr.cell? ⟨g,k*12+6,none⟩=some (.int .i64 y.1.2.1.1.k):=J2.out.row.cell HYk.out 6 _ rfl;have p7:wr.cell? ⟨g,k*12+7,none⟩=some (.int .i64 y.1.2.1.1.n):=J2.out.row.cell HYk.out 7 _ rfl;have p8:wr.cell? ⟨g,k*12+8,none⟩=some (.string y.1.2.1.1.t):=J2.out.row.cell HYk.out 8 _ rfl;have p9:wr.cell? ⟨g,k*12+9,none⟩=some (.slice y.1.2.1.1.LA y.1.2.1.1.ln y.1.2.1.1.lc):=J2.out.row.cell HYk.out 9 _ rfl;have p10:wr.cell? ⟨g,k*12+10,none⟩=some (.slice y.1.2.1.1.DA y.1.2.1.1.dn y.1.2.1.1.dc):=J2.out.row.cell HYk.out 10 _ rfl;have p11:wr.cell? ⟨g,k*12+11,none⟩=some (.bool y.1.2.2):=J2.out.row.cell HYk.out 11 _ rfl;have r0:wr.cell? ⟨g,(k-1)*12,none⟩=some (.int .i64 z.1.1.1.1.k):=J2.out.row.cell HZk.out 0 _ rfl;have r1:wr.cell? ⟨g,(k-1)*12+1,none⟩=some (.int .i64 z.1.1.1.1.n):=J2.out.row.cell HZk.out 1 _ rfl
     have r2:wr.cell? ⟨g,(k-1)*12+2,none⟩=some (.string z.1.1.1.1.t):=J2.out.row.cell HZk.out 2 _ rfl;have r3:wr.cell? ⟨g,(k-1)*12+3,none⟩=some (.slice z.1.1.1.1.LA z.1.1.1.1.ln z.1.1.1.1.lc):=J2.out.row.cell HZk.out 3 _ rfl;have r4:wr.cell? ⟨g,(k-1)*12+4,none⟩=some (.slice z.1.1.1.1.DA z.1.1.1.1.dn z.1.1.1.1.dc):=J2.out.row.cell HZk.out 4 _ rfl;have r5:wr.cell? ⟨g,(k-1)*12+5,none⟩=some (.bool z.1.1.2):=J2.out.row.cell HZk.out 5 _ rfl;have r6:wr.cell? ⟨g,(k-1)*12+6,none⟩=some (.int .i64 z.1.2.1.1.k):=J2.out.row.cell HZk.out 6 _ rfl;have r7:wr.cell? ⟨g,(k-1)*12+7,none⟩=some (.int .i64 z.1.2.1.1.n):=J2.out.row.cell HZk.out 7 _ rfl;have r8:wr.cell? ⟨g,(k-1)*12+8,none⟩=some (.string z.1.2.1.1.t):=J2.out.row.cell HZk.out 8 _ rfl;have r9:wr.cell? ⟨g,(k-1)*12+9,none⟩=some (.slice z.1.2.1.1.LA z.1.2.1.1.ln z.1.2.1.1.lc):=J2.out.row.cell HZk.out 9 _ rfl;have r10:wr.cell? ⟨g,(k-1)*12+10,none⟩=some (.slice z.1.2.1.1.DA z.1.2.1.1.dn z.1.2.1.1.dc):=J2.out.row.cell HZk.out 10 _ rfl;have r11:wr.cell? ⟨g,(k-1)*12+11,none⟩=some (.bool z.1.2.2):=J2.out.row.cell HZk.out 11 _ rfl;have zf:=bV.frozen J2.out.row;clear hk hPP I hkA hP0;go_upto_region 23 with fail
     go_region
     all_goals
      clear p0 p1 p2 p3 p4 p5 p6 p7 p8 p9 p10 p11 r0 r1 r2 r3 r4 r5 r6 r7 r8 r9 r10 r11 zf;go_wp2_with fail;refine⟨⟨k-1,P0,z::P2,by rw[show((k-1:Nat):Int)=(k:Int)-1 by omega],by have h1:=HK.out;rw[HP0.out] at h1;simp at h1;omega,by rw[HPP.out,HP0.out];simp,?_⟩,by simp[intOf];omega⟩;have r1:=J2.out.swap (LJ.1 HYk.out).1 y z;rw[HSw.out] at r1;exact r1
    ·have HE:Hid (dM g w (A++(X1++y::X2)++D) wr):=by
      have e:P1=[]:=LO (by omega);rw[e,MC] at hPP;rw[e] at I;rw[Hid,hPP];simpa using I
     clear hk hPP I;go_wp2_with fail
     go_end0
     exact⟨rfl,_,HS.out,HE.out⟩
end Go.Proofs.YthfahkaadbdicaaGreatDoor
