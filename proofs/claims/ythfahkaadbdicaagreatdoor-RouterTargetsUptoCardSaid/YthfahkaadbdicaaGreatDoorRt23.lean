/- Parts of the proof, joined: IvRefA, BoOr, BoKind6, BoOfA. -/
import Derived.Test.YthfahkaadbdicaaGreatDoorRt1
import Derived.Test.YthfahkaadbdicaaGreatDoorRt12
import Derived.Test.YthfahkaadbdicaaGreatDoorRt19
import Derived.Test.YthfahkaadbdicaaGreatDoorRt22
import Derived.Test.YthfahkaadbdicaaGreatDoorRt13
import Derived.Test.YthfahkaadbdicaaGreatDoorRt15
import Derived.Laws.OwnMore
set_option maxRecDepth 100000
set_option maxHeartbeats 16000000
set_option linter.unusedSimpArgs false
open Go.Proofs.Tryz
open ByteArray (empty)
namespace Go.Proofs.YthfahkaadbdicaaGreatDoor
open Go.RowKit
theorem DO{p:PI}(h1:aO p.1.1.2=true)(h2:aO p.1.2.2=true):(ar p).ne=decide (ae (p.1.1.2,!p.2.1) (p.1.2.2,p.2.2)<0):=by
 show(aO p.1.1.2&&aO p.1.2.2&&decide (ae (p.1.1.2,!p.2.1) (p.1.2.2,p.2.2)<0))=_;rw[h1,h2];rfl
theorem FN{a b:cA}(h:0<aU a.1 b.1):¬ae a b<0:=by rw[mG (by omega)];omega
theorem FP{a b:cA}(h:aU a.1 b.1<0):ae a b<0:=by rw[mG (by omega)];exact h
theorem yK(p:PI)(w:World)(h:iY w p):Calls prog 253 #[cR p] w fun e w'=>e=.returned (.bool (!(ar p).ne))/\Below w.heap.size w w':=by
 have H:=qD h;have A0:=qD ((LH w.heap.size w).alloc (qL) (Obj.cells (aM p) 84));have B0:Hid (aE (w.alloc (.cells (aM p) 84)) w.heap.size 84 (aM p)):=aE.Jq rfl;clear h;go_enter func253,ntmps253;go_wp2_with fail;refine(eW p.1.1.2 p.1.1.1 _ (H.out.step A0.out).1).mono ?_;rintro e w1 ⟨rfl,hb1⟩;have A1:=qD (A0.out.Jp hb1);have B1:=qD (B0.out.step hb1);clear hb1 A0 B0;cases h1:aO p.1.1.2
 ·have HR:=qD (tB h1);clear h1;go_wp2_with fail;go_ret;exact⟨by rw[HR.out];rfl,A1.out⟩
 have V1:=qD h1;clear h1;obtain⟨_,⟨q0,q1,q2,q3,q4⟩,_,_⟩:=cw.Jr B1.out;go_wp2_with fail;refine(eW p.1.2.2 p.1.2.1 _ (H.out.step A1.out).2).mono ?_;rintro e w2 ⟨rfl,hb2⟩;have A2:=qD (A1.out.Jp hb2);have B2:=qD (B1.out.step hb2);clear hb2 A1 B1 q0 q1 q2 q3 q4;cases h2:aO p.1.2.2
 ·have HR:=qD (tC h2);clear h2;go_wp2_with fail;go_ret;exact⟨by rw[HR.out];rfl,A2.out⟩
 have HR:=qD (DO V1.out h2);clear h2;obtain⟨⟨p0,p1,p2,p3,p4⟩,⟨q0,q1,q2,q3,q4⟩,_,_⟩:=cw.Jr B2.out;go_wp2_with fail;refine(iM p.1.1.2 p.1.2.2 p.1.1.1 p.1.2.1 _ (H.out.step A2.out).1 (H.out.step A2.out).2).mono ?_;rintro e w3 ⟨rfl,hb3⟩;have A3:=qD (A2.out.Jp hb3);have B3:=qD (B2.out.step hb3);clear hb3 A2 B2 p0 p1 p2 p3 p4 q0 q1 q2 q3 q4;rcases Ps (aU p.1.1.2 p.1.2.2) 0 with hc|hc|hc
 ·have HD:=qD (LN (FP (a:=(p.1.1.2,!p.2.1)) (b:=(p.1.2.2,p.2.2)) hc));have g1:decide (0<aU p.1.1.2 p.1.2.2)=false:=LW (by omega);have g2:(aU p.1.1.2 p.1.2.2==0)=false:=by simp;omega
  clear hc;go_wp2_with fail;go_ret;exact⟨by rw[HR.out,HD.out];rfl,A3.out⟩
 ·have HD:=qD (fC (a:=(p.1.1.2,!p.2.1)) (b:=(p.1.2.2,p.2.2)) hc);rw[hc];clear hc;obtain⟨_,_,r0,r1⟩:=cw.Jr B3.out;cases e1:p.2.1<;>cases e2:p.2.2
  all_goals
   rw[e1] at r0;rw[e2] at r1;rw[e1,e2] at HD HR;clear e1 e2;go_wp2_with fail;go_ret;exact⟨by rw[HR.out,HD.out];rfl,A3.out⟩
 ·have HD:=qD (LW (FN (a:=(p.1.1.2,!p.2.1)) (b:=(p.1.2.2,p.2.2)) hc));go_wp2_with fail;go_ret;exact⟨by rw[HR.out,HD.out];rfl,A3.out⟩
theorem vS(p q:PI)(w:World)(hp:iY w p)(hq:iY w q):Calls prog 254 #[cR p,cR q] w fun e w'=>e=.returned (.int .i64 (ae (p.1.1.2,!p.2.1) (q.1.1.2,!q.2.1)))/\Below w.heap.size w w':=by
 have HP:=qD hp;have HQ:=qD hq;have Z2:=qD (((LH w.heap.size w).alloc (qL) (Obj.cells (aM p) 84)).alloc (by simp) (Obj.cells (aM q) 84));have B0:Hid (aE ((w.alloc (.cells (aM p) 84)).alloc (.cells (aM q) 84)) w.heap.size 84 (aM p)):=(aE.Jq rfl).alloc _;have B1:Hid (aE ((w.alloc (.cells (aM p) 84)).alloc (.cells (aM q) 84)) (w.heap.size+1) 84 (aM q)):=aE.Jq (by simp);clear hp hq;go_enter func254,ntmps254;go_wp2_with fail;refine(iM p.1.1.2 q.1.1.2 p.1.1.1 q.1.1.1 _ (HP.out.step Z2.out).1 (HQ.out.step Z2.out).1).mono ?_;rintro e w1 ⟨rfl,hb1⟩;have Z1:=qD (Z2.out.Jp hb1);obtain⟨_,_,p10,p11⟩:=cw.Jr (B0.out.step hb1);obtain⟨_,_,q10,q11⟩:=cw.Jr (B1.out.step hb1);clear hb1;by_cases h0:aU p.1.1.2 q.1.1.2=0
 ·have HC:=qD (fC (a:=(p.1.1.2,!p.2.1)) (b:=(q.1.1.2,!q.2.1)) h0);rw[h0];clear h0;cases h1:p.2.1<;>cases h2:q.2.1
  all_goals
   rw[h1] at p10;rw[h2] at q10;have E1:=qD h1;have E2:=qD h2;clear h1 h2;go_wp2_with fail;go_ret;exact⟨by rw[HC.out];show _=Ending.returned (.int .i64 (xS (!p.2.1) (!q.2.1)));rw[E1.out,E2.out];rfl,Z1.out⟩
 ·have HC:=qD (mG (a:=(p.1.1.2,!p.2.1)) (b:=(q.1.1.2,!q.2.1)) h0);have h1:(aU p.1.1.2 q.1.1.2==0)=false:=by simpa using h0
  clear h0;go_wp2_with fail;go_ret;exact⟨by rw[HC.out];rfl,Z1.out⟩
theorem kQ(p q:PI)(w:World)(hp:iY w p)(hq:iY w q):Calls prog 255 #[cR p,cR q] w fun e w'=>e=.returned (.int .i64 (ae (p.1.2.2,p.2.2) (q.1.2.2,q.2.2)))/\Below w.heap.size w w':=by
 have HP:=qD hp;have HQ:=qD hq;have Z2:=qD (((LH w.heap.size w).alloc (qL) (Obj.cells (aM p) 84)).alloc (by simp) (Obj.cells (aM q) 84));have B0:Hid (aE ((w.alloc (.cells (aM p) 84)).alloc (.cells (aM q) 84)) w.heap.size 84 (aM p)):=(aE.Jq rfl).alloc _;have B1:Hid (aE ((w.alloc (.cells (aM p) 84)).alloc (.cells (aM q) 84)) (w.heap.size+1) 84 (aM q)):=aE.Jq (by simp);clear hp hq;go_enter func255,ntmps255;go_wp2_with fail;refine(iM p.1.2.2 q.1.2.2 p.1.2.1 q.1.2.1 _ (HP.out.step Z2.out).2 (HQ.out.step Z2.out).2).mono ?_;rintro e w1 ⟨rfl,hb1⟩;have Z1:=qD (Z2.out.Jp hb1);obtain⟨_,_,p10,p11⟩:=cw.Jr (B0.out.step hb1);obtain⟨_,_,q10,q11⟩:=cw.Jr (B1.out.step hb1);clear hb1;by_cases h0:aU p.1.2.2 q.1.2.2=0
 ·have HC:=qD (fC (a:=(p.1.2.2,p.2.2)) (b:=(q.1.2.2,q.2.2)) h0);rw[h0];clear h0;cases h1:p.2.2<;>cases h2:q.2.2
  all_goals
   rw[h1] at p11;rw[h2] at q11;have E1:=qD h1;have E2:=qD h2;clear h1 h2;go_wp2_with fail;go_ret;exact⟨by rw[HC.out];show _=Ending.returned (.int .i64 (xS p.2.2 q.2.2));rw[E1.out,E2.out];rfl,Z1.out⟩
 ·have HC:=qD (mG (a:=(p.1.2.2,p.2.2)) (b:=(q.1.2.2,q.2.2)) h0);have h1:(aU p.1.2.2 q.1.2.2==0)=false:=by simpa using h0
  clear h0;go_wp2_with fail;go_ret;exact⟨by rw[HC.out];rfl,Z1.out⟩
def dg(p:PI):cA:=(p.1.1.2,!p.2.1)
def dh(p:PI):cA:=(p.1.2.2,p.2.2)
def DP(S:List PI):Prop:=S.Pairwise fun p q=>ae (dg p) (dg q)<=0
theorem yL{S:List PI}{p:PI}{k:Nat}(h:DP S)(hlo:∀(q:Nat) s,S[q]?=some s->q<k->ae (dg s) (dg p)<=0)(hhi:∀s,S[k]?=some s->¬ae (dg s) (dg p)<=0):DP (S.take k++p::S.drop k):=by
 have h0:(S.take k++S.drop k).Pairwise fun p q=>ae (dg p) (dg q)<=0:=by rw[Lf];exact h
 have hp:=Le.1 h0
 have hlow:∀s∈S.take k,ae (dg s) (dg p)<=0:=fun s hs=>by
  obtain⟨q,hq⟩:=MK hs;have hlt:=(LJ.1 hq).1;rw[Lx] at hlt;rw[Nx (by omega)] at hq;exact hlo q s hq (by omega)
 refine Le.2 ⟨hp.1,Mi.2 ⟨fun s hs=>?_,hp.2.1⟩,fun s hs z hz=>?_⟩
 ·rcases hd:S.drop k with _|⟨x,r⟩
  ·rw[hd] at hs;simp at hs
  ·have hx:S[k]?=some x:=by have:=congrArg List.head? hd;rw[QI] at this;exact this
   have h1:=hhi x hx;have h2:=cO.anti (dg x) (dg p);rw[hd] at hs;rcases Li.1 hs with rfl|hs
   ·omega
   ·have h3:=hp.2.1;rw[hd] at h3;have h4:=Pl h3 hs;have:=cO.tr (dg p) (dg x) (dg s) (by omega) h4;omega
 ·rcases Li.1 hz with rfl|hz
  ·exact hlow s hs
  ·exact hp.2.2 s hs z hz
theorem ii{α:Type}(S:List α)(p:α)(k:Nat):(S.take k++p::S.drop k).Perm (S++[p]):=by
 refine PP.trans ?_;rw[Lf];exact(OS p S).symm
theorem vT{w:World}{base base':Nat}{e:TypeId}{size n:Nat}{v:Value}{xs:List Value}(h:w.ownsRow base e size v n xs)(hb:base'<=base):w.ownsRow base' e size v n xs:=by
 refine⟨h.1,?_⟩;rcases h.2 with h2|⟨g,cap,cur,hv,hg,hr⟩
 ·exact .inl h2
 ·exact .inr ⟨g,cap,cur,hv,by omega,hr⟩
structure AA(w:World)(is:List PI)(i:Nat)(S:List PI)(v:Value)(wr:World):Prop where
 own:wr.ownsRow w.heap.size 84 12 v S.length (aJ ax S)
 perm:S.Perm ((is.take i).filter fun p=>(ar p).ne)
 ord:DP S
 le:S.length<=i
 ok:∀x∈S,iY w x
 bel:Below w.heap.size w wr
 z:S.length=0->v=.slice none 0 0
section
variable {w:World} {is:List PI} {i:Nat} {S:List PI} {v:Value} {wr w':World}
theorem AA.step(h:AA w is i S v wr)(hb:Below wr.heap.size wr w'):AA w is i S v w':=⟨aV h.own hb,h.perm,h.ord,h.le,h.ok,h.bel.Jp hb,h.z⟩
theorem ny{α:Type}(f:α->Bool)(l:List α)(p:α):(l++[p]).filter f=if f p then l.filter f++[p] else l.filter f:=by
 rw[List.filter_append];cases h:f p<;>simp[h]
theorem AA.skip{p:PI}(h:AA w is i S v wr)(hp:is[i]?=some p)(hn:(ar p).ne=false):AA w is (i+1) S v wr:=
 ⟨h.own,by rw[take_snoc' hp,ny,hn];exact h.perm,h.ord,by have:=h.le;omega,h.ok,h.bel,h.z⟩
theorem AA.at{m cb:Nat}{B:Option Addr}(h:AA w is i S (.slice B m cb) wr){k:Nat}{s:PI}(hs:S[k]?=some s):∃g,B=some ⟨g,0,none⟩/\g<wr.heap.size/\cw wr g (k*12) s:=by
 have hk:=(LJ.1 hs).1;rcases h.own.2 with⟨h1,h2⟩|⟨g,cap,cur,hv,_,hh,hnc,_⟩
 ·omega
 ·cases hv;refine⟨g,rfl,ej h.own rfl,qW fun j v hj=>?_⟩;have:=h.own.cells (g:=g) rfl (k*12+j) v (bg bR hs hj);rw[bn,LL] at this;exact this
end
structure nz(wx:World)(v:Value)(n:Nat)(xs:List PI)(wr:World):Prop where
 own:wr.ownsRow wx.heap.size 84 12 v n (aJ ax xs)
 bel:Below wx.heap.size wx wr
theorem nz.next{wx:World}{v v':Value}{n m n':Nat}{xs ys:List PI}{wr w':World}{news:List Value}(h:nz wx v n xs wr)(hn:news=aJ ax ys)(hn':n'=m)(ho:w'.ownsRow wx.heap.size 84 12 v' m (aJ ax xs++news))(hg:wr.grownBy w' v.ownBlock):nz wx v' n' (xs++ys) w':=
 ⟨by rw[eQ,<-hn,hn'];exact ho,h.bel.grown hg h.bel.size (fun q hq=>bU h.own q hq)⟩
theorem nz.alloc{wx:World}{v:Value}{n:Nat}{xs:List PI}{wr:World}(h:nz wx v n xs wr)(o:Obj):nz wx v n xs (wr.alloc o):=⟨h.own.alloc _,h.bel.alloc h.bel.size o⟩
theorem nz.done{w wx:World}{is:List PI}{v0 v:Value}{i m k:Nat}{S:List PI}{p:PI}{xs:List PI}{wr:World}(h:nz wx v m xs wr)(I:AA w is i S v0 wx)(hm:m=S.length+1)(hx:xs=S.take k++p::S.drop k)(hp:is[i]?=some p)(hn:(ar p).ne=true)(hok:iY w p)(ho:DP (S.take k++p::S.drop k)):AA w is (i+1) xs v wr:=by
 subst hx;have hl:(S.take k++p::S.drop k).length=S.length+1:=by rw[(ii S p k).length_eq];simp
 refine⟨by rw[hl,<-hm];exact vT h.own I.bel.size,?_,ho,by rw[hl];have:=I.le;omega,fun x hx=>?_,I.bel.Jp h.bel,fun h=>by omega⟩
 ·refine(ii S p k).trans ?_;rw[take_snoc' hp,ny,hn];exact I.perm.append_right [p]
 ·rcases LY.1 ((ii S p k).subset hx) with hx|hx
  ·exact I.ok x hx
  ·simp at hx;subst hx;exact hok
structure pY(w w2:World)(S:List PI)(i:Nat)(v:Value)(cs:List PI)(wr:World):Prop where
 own:wr.ownsRow w2.heap.size 84 12 v cs.length (aJ ax cs)
 eq:cs.map (fun p=>(ar p).sp)=fe ae ((S.take i).map fun p=>(ar p).sp)
 le:cs.length<=i
 ok:∀x∈cs,iY w x
 bel:Below w2.heap.size w2 wr
theorem pY.step{w w2:World}{S:List PI}{i:Nat}{v:Value}{cs:List PI}{wr w':World}(h:pY w w2 S i v cs wr)(hb:Below wr.heap.size wr w'):pY w w2 S i v cs w':=⟨aV h.own hb,h.eq,h.le,h.ok,h.bel.Jp hb⟩
theorem pY.add{w w2:World}{S:List PI}{i m:Nat}{v v':Value}{cs:List PI}{wr w':World}{p:PI}(h:pY w w2 S i v cs wr)(hp:S[i]?=some p)(hs:dF ae (cs.map fun p=>(ar p).sp) (ar p).sp=(cs.map fun p=>(ar p).sp)++[(ar p).sp])(hok:iY w p)(hg:wr.grownBy w' v.ownBlock)(hm:m=cs.length+1)(ho:w'.ownsRow w2.heap.size 84 12 v' m (aJ ax cs++ax p)):pY w w2 S (i+1) v' (cs++[p]) w':=by
 subst hm;refine⟨?_,?_,by have:=h.le;simp;omega,fun x hx=>?_,h.bel.grown hg h.bel.size (bU h.own)⟩
 ·rw[bN,LM];exact ho
 ·rw[take_snoc' hp,Lc (l₁:=S.take i),Md,fR,<-h.eq,hs,Lc];rfl
 ·rcases LY.1 hx with hx|hx
  ·exact h.ok x hx
  ·simp at hx;subst hx;exact hok
theorem vU(p l:PI):(aU p.1.1.2 l.1.2.2<0\/(aU p.1.1.2 l.1.2.2=0/\(p.2.1=true\/l.2.2=true)))↔¬ae (dh l) (dg p)<0:=by
 have ha:=lG p.1.1.2 l.1.2.2;by_cases h0:aU l.1.2.2 p.1.1.2=0
 ·rw[fC (a:=dh l) (b:=dg p) h0];show _↔¬xS l.2.2 (!p.2.1)<0;have h1:aU p.1.1.2 l.1.2.2=0:=by omega
  rw[h1];cases p.2.1<;>cases l.2.2<;>simp[xS]
 ·rw[mG (a:=dh l) (b:=dg p) h0];show _↔¬aU l.1.2.2 p.1.1.2<0;constructor
  ·rintro(h|⟨h,_⟩)<;>omega
  ·intro h;exact .inl (by omega)
structure FQ(w w2:World)(S:List PI)(i:Nat)(v:Value)(cs:List PI)(ga gb:Nat)(p l:PI)(wr:World):Prop where
 i:pY w w2 S i v cs wr
 b9:aE wr ga 84 (aM p)
 b10:aE wr gb 84 (aM l)
 hga:w2.heap.size<=ga
 hgb:w2.heap.size<=gb
 hne:ga≠gb
 na:v.ownBlock≠some ga
 nb:v.ownBlock≠some gb
theorem FQ.step{w w2:World}{S:List PI}{i:Nat}{v:Value}{cs:List PI}{ga gb:Nat}{p l:PI}{wr w':World}(h:FQ w w2 S i v cs ga gb p l wr)(hb:Below wr.heap.size wr w'):FQ w w2 S i v cs ga gb p l w':=
 ⟨h.i.step hb,h.b9.step hb,h.b10.step hb,h.hga,h.hgb,h.hne,h.na,h.nb⟩
theorem FQ.up{w w2:World}{S:List PI}{i:Nat}{v:Value}{cs:List PI}{ga gb:Nat}{p l:PI}{wr:World}(h:FQ w w2 S i v cs ga gb p l wr):
 FQ w w2 S i v cs ga gb p ((l.1.1,p.1.2),(l.2.1,p.2.2)) ((cy wr gb 5 p.1.2.1).setCell ⟨gb,11,none⟩ (.bool p.2.2)):=by
 have hk:∀b,b≠gb->((cy wr gb 5 p.1.2.1).setCell ⟨gb,11,none⟩ (.bool p.2.2)).heap[b]?=wr.heap[b]?:=fun b hb=>by
  unfold cy;rw[MA _ _ _ b hb,MA _ _ _ b hb,MA _ _ _ b hb,MA _ _ _ b hb,MA _ _ _ b hb,MA _ _ _ b hb]
 refine⟨⟨mg h.i.own fun g hg=>hk g (fun e=>h.nb (by rw[hg,e])),h.i.eq,h.i.le,h.i.ok,(cH h.i.bel h.hgb 5 _).setCell h.hgb _⟩,?_,?_,h.hga,h.hgb,h.hne,h.na,h.nb⟩
 ·exact(h.b9.KI h.hne 5 _).Jz h.hne _
 ·exact(((((h.b10.Js 5 _).Js 6 _).Js 7 _).Js 8 _).Js 9 _).Js 11 _
theorem FQ.row{w w2:World}{S:List PI}{i g n c:Nat}{d:List PI}{ga gb:Nat}{p l q:PI}{wr:World}(h:FQ w w2 S i (.slice (some ⟨g,0,none⟩) n c) (d++[l]) ga gb p q wr)(hn:n=d.length+1):cw wr g ((n-1)*12) l/\∀k,wr.frozen? ⟨g,k,none⟩=false:=by
 have ho:=h.i.own;rw[show(d++[l]).length=n by simp[hn]] at ho;refine⟨qW fun q v hq=>?_,fun k=>?_⟩
 ·have hlt:=(LJ.1 hq).1;rw[bR] at hlt;rw[ho.cellAt _ (by omega)];exact bg bR (xs:=d++[l]) (a:=l) (by rw[show n-1=d.length by omega];simp) hq
 ·rcases ho.2 with⟨h1,h2⟩|⟨g',cap,cur,hv,_,hh,_⟩
  ·omega
  ·cases hv;exact aE.frozen (t:=84) (cs:=cur) hh k
theorem FR{p l:PI}(h:ae (dh l) (dg p)<0):0<aU p.1.1.2 l.1.2.2\/(aU p.1.1.2 l.1.2.2=0/\p.2.1=false/\l.2.2=false):=by
 have hn:¬(aU p.1.1.2 l.1.2.2<0\/(aU p.1.1.2 l.1.2.2=0/\(p.2.1=true\/l.2.2=true))):=fun k=>(vU p l).1 k h;rcases Ps (aU p.1.1.2 l.1.2.2) 0 with hc|hc|hc
 ·exact absurd (.inl hc) hn
 ·refine .inr ⟨hc,?_⟩;cases h1:p.2.1<;>cases h2:l.2.2
  ·exact⟨rfl,rfl⟩
  ·exact absurd (.inr ⟨hc,.inr h2⟩) hn
  ·exact absurd (.inr ⟨hc,.inl h1⟩) hn
  ·exact absurd (.inr ⟨hc,.inl h1⟩) hn
 ·exact .inl hc
theorem DQ{p l:PI}(h:¬ae (dh l) (dg p)<0):aU p.1.1.2 l.1.2.2<0\/(aU p.1.1.2 l.1.2.2=0/\p.2.1=true)\/(aU p.1.1.2 l.1.2.2=0/\p.2.1=false/\l.2.2=true):=by
 rcases(vU p l).2 h with k|⟨k,k2⟩
 ·exact .inl k
 ·cases h1:p.2.1
  ·rw[h1] at k2;exact .inr (.inr ⟨k,rfl,by simpa using k2⟩)
  ·exact .inr (.inl ⟨k,rfl⟩)
theorem mh{base g n cap size:Nat}{t:TypeId}:∀(vs:List Value) {w:World} {xs:List Value} (o:Nat),w.ownsRow base t size (.slice (some ⟨g,0,none⟩) n cap) n xs->(w.setCells g o vs).ownsRow base t size (.slice (some ⟨g,0,none⟩) n cap) n (cF xs o vs)
 | [],_,_,_,h=>h
 | v::r,_,_,o,h=>mh r (o+1) (h.stored o v).1
theorem below_setCells'{B:Nat}{a:World}{g:Nat}(vs:List Value):∀{w:World},Below B a w->B<=g->∀o,Below B a (w.setCells g o vs):=by
 induction vs with
 | nil=>intro w h _ o;exact h
 | cons v r ih=>intro w h hg o;exact ih (h.setCell hg v) hg (o+1)
theorem BP(d:List PI)(l q:PI):cF (aJ ax (d++[l])) (d.length*12) (ax q)=aJ ax (d++[q]):=by
 have e1:aJ ax (d++[l])=aJ ax d++ax l:=by rw[bN]
 have hl:(aJ ax d).length=d.length*12:=bP bR d;rw[gA _ _ _ (by rw[e1,LM,hl,bR,bR];omega),e1,<-hl,QN,bR,La (by rw[LM,bR];omega),Lm,bN]
theorem pY.put{w w2:World}{S:List PI}{i g n cap:Nat}{d:List PI}{l p q:PI}{wr:World}(h:pY w w2 S i (.slice (some ⟨g,0,none⟩) n cap) (d++[l]) wr)(hp:S[i]?=some p)(hs:dF ae ((d++[l]).map fun p=>(ar p).sp) (ar p).sp=(d++[q]).map fun p=>(ar p).sp)(hok:iY w q)(hn:n=d.length+1):pY w w2 S (i+1) (.slice (some ⟨g,0,none⟩) n cap) (d++[q]) (wr.setCells g (d.length*12) (ax q)):=by
 have ho:=h.own;have hl:(d++[l]).length=n:=by rw[hn];simp
 rw[hl] at ho;refine⟨?_,?_,by have:=h.le;simp at this ⊢;omega,fun x hx=>?_,below_setCells' _ h.bel (bU h.own g rfl) _⟩
 ·rw[<-BP d l q,show(d++[q]).length=n by rw[hn];simp];exact mh _ _ ho
 ·rw[take_snoc' hp,Lc (l₁:=S.take i),Md,fR,<-h.eq,hs]
 ·rcases LY.1 hx with hx|hx
  ·exact h.ok x (by simp[hx])
  ·simp at hx;subst hx;exact hok
theorem fM(xs:List PI):∀u∈aJ ax xs,u.oneCell'=true:=by
 intro u hu;obtain⟨p,_,h⟩:=OU.1 hu;exact fD p u h
theorem eY(is:List PI)(A:Option Addr)(n c:Nat)(w:World)(h:SI w A n c is)(hn:n<=300000000000):
 Calls prog 214 #[.slice A n c] w (lY (fun a=>dj ae a (aT (is.map ar))) n w):=by
 obtain⟨i0,hi0,hz0,hz1,hz2⟩:=Mc fE;have H:=qD h;have HL:=qD h.sr.ln;have I0:Hid (AA w is 0 [] (.slice none 0 0) w):=qD ⟨bC _ _ _ _,.nil,.nil,qL,by simp,LH _ _,fun _=>rfl⟩;clear h;go_enter func214,ntmps214;go_wp2_with fail
 go_loopw [3,4] (fun v3 v4 wr=>∃(i:Nat) (S:List PI),i<=n/\v4=.int .i64 i/\AA w is i S v3 wr) (fun _ v4 _=>n-(intOf v4).toNat)
 ·exact⟨0,[],LQ _,rfl,I0.out⟩
 case round=>
  obtain⟨i,S,hi,rfl,I⟩:=hrel;have J:=qD I;by_cases hlt:i<n
  ·obtain⟨p,hp⟩:∃p,is[i]?=some p:=⟨_,LI (by have:=HL.out;omega)⟩;obtain⟨b,off,rfl,hbl,hat,hok⟩:=H.out.at hp;have HA:=qD hat;have HOk:=qD hok;have HPi:=qD hp;obtain⟨⟨p0,p1,p2,p3,p4⟩,⟨p5,p6,p7,p8,p9⟩,p10,p11⟩:=hat.keep (I.bel.block b hbl);clear hp hat hok I;go_wp2_with fail;refine(yK p _ (HOk.out.step J.out.bel)).mono ?_;rintro e w1 ⟨rfl,hb1⟩;have J1:=qD (J.out.step hb1);clear hb1 p0 p1 p2 p3 p4 p5 p6 p7 p8 p9 p10 p11 J;cases hne:(ar p).ne
   ·have HI:=qD (J1.out.skip HPi.out hne);clear hne;go_wp2_with fail;go_roundw
    ·exact⟨i+1,S,by omega,by go_num,HI.out⟩
    ·simp[intOf];omega
   have HNe:=qD hne;clear hne;obtain⟨m,hm⟩:∃m,m=S.length:=⟨_,rfl⟩;obtain⟨B,cb,hv3,hcb⟩:=aa J1.out.own;have hle:=J1.out.le;rw[<-hm] at hv3 hcb hle;subst hv3;have HM:=qD hm;clear hm
   first|go_upto_block 2 with fail|go_upto_block 3 with fail|go_upto_block 4 with fail|go_upto_block 5 with fail
   go_cut [5] (fun s5 wx=>∃k:Nat,k<=m/\s5=.int .i64 k/\(∀(q:Nat) s,S[q]?=some s->q<k->ae (dg s) (dg p)<=0)/\(∀s,S[k]?=some s->¬ae (dg s) (dg p)<=0)/\AA w is i S (.slice B m cb) wx)
   case first=>
    go_wp2_with fail
    go_loopw [5] (fun v5 wr=>∃k:Nat,k<=m/\v5=.int .i64 k/\(∀(q:Nat) s,S[q]?=some s->q<k->ae (dg s) (dg p)<=0)/\AA w is i S (.slice B m cb) wr) (fun v5 _=>m-(intOf v5).toNat)
    ·exact⟨0,LQ _,rfl,fun q s _ hq=>by omega,J1.out⟩
    case round=>
     obtain⟨k,hk,rfl,hlo,I⟩:=hrel;have HLo:=qD hlo;have J2:=qD I;clear hlo;by_cases hki:k<m
     ·obtain⟨s,hs⟩:∃s,S[k]?=some s:=⟨_,LI (by have:=HM.out;omega)⟩;obtain⟨g,rfl,hg,hsat⟩:=I.at hs;obtain⟨⟨r0,r1,r2,r3,r4⟩,⟨r5,r6,r7,r8,r9⟩,r10,r11⟩:=hsat;obtain⟨⟨p0,p1,p2,p3,p4⟩,⟨p5,p6,p7,p8,p9⟩,p10,p11⟩:=HA.out.keep (I.bel.block b hbl);have Pa0:∀kk:BW wr,kk.val.cell? ⟨b,off+i*12,none⟩=some (.int .i64 p.1.1.1.k):=fun kk=>kk.cell p0;have Pa1:∀kk:BW wr,kk.val.cell? ⟨b,off+i*12+1,none⟩=some (.int .i64 p.1.1.1.n):=fun kk=>kk.cell p1;have Pa2:∀kk:BW wr,kk.val.cell? ⟨b,off+i*12+2,none⟩=some (.string p.1.1.1.t):=fun kk=>kk.cell p2;have Pa3:∀kk:BW wr,kk.val.cell? ⟨b,off+i*12+3,none⟩=some (.slice p.1.1.1.LA p.1.1.1.ln p.1.1.1.lc):=fun kk=>kk.cell p3;have Pa4:∀kk:BW wr,kk.val.cell? ⟨b,off+i*12+4,none⟩=some (.slice p.1.1.1.DA p.1.1.1.dn p.1.1.1.dc):=fun kk=>kk.cell p4;have Pb0:∀kk:BW wr,kk.val.cell? ⟨b,off+i*12+5,none⟩=some (.int .i64 p.1.2.1.k):=fun kk=>kk.cell p5;have Pb1:∀kk:BW wr,kk.val.cell? ⟨b,off+i*12+5+1,none⟩=some (.int .i64 p.1.2.1.n):=fun kk=>kk.cell p6;have Pb2:∀kk:BW wr,kk.val.cell? ⟨b,off+i*12+5+2,none⟩=some (.string p.1.2.1.t):=fun kk=>kk.cell p7;have Pb3:∀kk:BW wr,kk.val.cell? ⟨b,off+i*12+5+3,none⟩=some (.slice p.1.2.1.LA p.1.2.1.ln p.1.2.1.lc):=fun kk=>kk.cell p8;have Pb4:∀kk:BW wr,kk.val.cell? ⟨b,off+i*12+5+4,none⟩=some (.slice p.1.2.1.DA p.1.2.1.dn p.1.2.1.dc):=fun kk=>kk.cell p9;have Pc0:∀kk:BW wr,kk.val.cell? ⟨b,off+i*12+10,none⟩=some (.bool p.2.1):=fun kk=>kk.cell p10;have Pc1:∀kk:BW wr,kk.val.cell? ⟨b,off+i*12+11,none⟩=some (.bool p.2.2):=fun kk=>kk.cell p11
      have Ra0:∀kk:BW wr,kk.val.cell? ⟨g,k*12,none⟩=some (.int .i64 s.1.1.1.k):=fun kk=>kk.cell r0;have Ra1:∀kk:BW wr,kk.val.cell? ⟨g,k*12+1,none⟩=some (.int .i64 s.1.1.1.n):=fun kk=>kk.cell r1;have Ra2:∀kk:BW wr,kk.val.cell? ⟨g,k*12+2,none⟩=some (.string s.1.1.1.t):=fun kk=>kk.cell r2;have Ra3:∀kk:BW wr,kk.val.cell? ⟨g,k*12+3,none⟩=some (.slice s.1.1.1.LA s.1.1.1.ln s.1.1.1.lc):=fun kk=>kk.cell r3;have Ra4:∀kk:BW wr,kk.val.cell? ⟨g,k*12+4,none⟩=some (.slice s.1.1.1.DA s.1.1.1.dn s.1.1.1.dc):=fun kk=>kk.cell r4;have Rb0:∀kk:BW wr,kk.val.cell? ⟨g,k*12+5,none⟩=some (.int .i64 s.1.2.1.k):=fun kk=>kk.cell r5;have Rb1:∀kk:BW wr,kk.val.cell? ⟨g,k*12+5+1,none⟩=some (.int .i64 s.1.2.1.n):=fun kk=>kk.cell r6;have Rb2:∀kk:BW wr,kk.val.cell? ⟨g,k*12+5+2,none⟩=some (.string s.1.2.1.t):=fun kk=>kk.cell r7;have Rb3:∀kk:BW wr,kk.val.cell? ⟨g,k*12+5+3,none⟩=some (.slice s.1.2.1.LA s.1.2.1.ln s.1.2.1.lc):=fun kk=>kk.cell r8;have Rb4:∀kk:BW wr,kk.val.cell? ⟨g,k*12+5+4,none⟩=some (.slice s.1.2.1.DA s.1.2.1.dn s.1.2.1.dc):=fun kk=>kk.cell r9;have Rc0:∀kk:BW wr,kk.val.cell? ⟨g,k*12+10,none⟩=some (.bool s.2.1):=fun kk=>kk.cell r10;have Rc1:∀kk:BW wr,kk.val.cell? ⟨g,k*12+11,none⟩=some (.bool s.2.2):=fun kk=>kk.cell r11;have i0':(0:Int)<=(k:Int):=by omega
      have i1':(k:Int)<(m:Int):=by omega
      have i2':(0:Int)<=(i:Int):=by omega
      have i3':(i:Int)<(n:Int):=by omega
      have K1:Hid (∀q:BW wr,Calls prog 254 #[cR s,cR p] q.val fun e w''=>e=.returned (.int .i64 (ae (dg s) (dg p)))/\∃k:BW wr,w''=k.val):=fun q=>
       Calls.bw (vS s p q.val (((I.ok s (LP hs)).step I.bel).step q.below) ((HOk.out.step I.bel).step q.below))
      have HS:=qD hs;clear r0 r1 r2 r3 r4 r5 r6 r7 r8 r9 r10 r11 p0 p1 p2 p3 p4 p5 p6 p7 p8 p9 p10 p11 I hs;go_upto_region 7 with fail
      refine aL (by kernel_rfl) (by kernel_rfl) ?_
      repeat(go_big_quiet_step (with_reducible exact K1.out _))
      refine Ln ?_;rintro _ ⟨kw,rfl⟩;have J3:=qD (J2.out.step kw.below);clear Pa0 Pb0 Pa1 Pb1 Pa2 Pb2 Pa3 Pb3 Pa4 Pb4 Pc0 Pc1 Ra0 Rb0 Ra1 Rb1 Ra2 Rb2 Ra3 Rb3 Ra4 Rb4 Rc0 Rc1 K1 i0' i1' i2' i3';generalize kw.val=w2 at*;by_cases hc:ae (dg s) (dg p)<=0
      ·have HLo2:Hid (∀(q:Nat) s,S[q]?=some s->q<k+1->ae (dg s) (dg p)<=0):=fun q z hz hq=>by
        by_cases e:q=k
        ·subst e;rw[HS.out] at hz;cases hz;exact hc
        ·exact HLo.out q z hz (by omega)
       go_wp2_with fail;go_roundw
       ·exact⟨k+1,by omega,by go_num,HLo2.out,J3.out⟩
       ·simp[intOf];omega
      ·have HHi:Hid (∀z,S[k]?=some z->¬ae (dg z) (dg p)<=0):=fun z hz=>by
        rw[HS.out] at hz;cases hz;exact hc
       go_wp2_with fail;go_meet;exact⟨k,by omega,rfl,HLo.out,HHi.out,J3.out⟩
     ·have HHi:Hid (∀z,S[k]?=some z->¬ae (dg z) (dg p)<=0):=fun z hz=>by
       have:=(LJ.1 hz).1;have:=HM.out;omega
      have hki':decide ((k:Int)<(m:Int))=false:=LW (by omega);clear I;go_upto_region 7 with fail
      go_quiet (fail)
      go_wp2_with fail;go_meet;exact⟨k,by omega,rfl,HLo.out,HHi.out,J2.out.step (Below.drewN (LH _ _) _)⟩
   case rest=>
    obtain⟨k,hk,rfl,hlo,hhi,I⟩:=hcut;have HD:Hid (DP (S.take k++p::S.drop k)):=qD (yL I.ord hlo hhi);have J2:=qD I;have hown:=I.own;rw[<-HM.out] at hown;have HRd:=qD (cP.Jt hown);have HUc:=qD (HA.out.keep (I.bel.block b hbl));have hbw:b<wc.heap.size:=by have:=I.bel.size;omega
    have N0:Hid (nz wc (.slice none 0 0) 0 [] wc):=qD ⟨bC _ _ _ _,LH _ _⟩
    have R1:Hid (cP wc wc.heap.size 12 B k (aJ ax (S.take k))):=by
     have:=HRd.out.take hk;rw[jH bR] at this;exact this
    have R2:Hid (cP wc wc.heap.size 12 (if cb=k then B else B.map (·.add (k*12))) (m-k) (aJ ax (S.drop k))):=by
     have:=HRd.out.cut hk hcb;rw[gn bR] at this;exact this
    have hB:B=none/\m=0/\cb=0\/∃g,B=some ⟨g,0,none⟩/\0<m:=by
     rcases MH m with h0|h0
     ·have:=I.z (by rw[<-HM.out];exact h0);cases this;exact .inl ⟨rfl,h0,rfl⟩
     ·rcases hown.2 with⟨h1,h2⟩|⟨g,cap,cur,hv,hge,hh,hnc,hr⟩
      ·omega
      ·cases hv;exact .inr ⟨g,rfl,h0⟩
    clear hlo hhi I hown;obtain⟨⟨p0,p1,p2,p3,p4⟩,⟨p5,p6,p7,p8,p9⟩,p10,p11⟩:=HUc.out;have hin:(i:Int)<(n:Int):=by omega
    rcases hB with⟨rfl,rfl,rfl⟩|⟨g,rfl,h0⟩
    ·obtain rfl:k=0:=by omega
     simp only[Ou] at R2;go_wp2_with (at_builtin;refine aD _ rfl _ _ 80 rfl wc.heap.size 84 i0 (cR (((VC.zero,aC.zero),(VC.zero,aC.zero)),(false,false))) 12 168 Ma hi0 hz0 hz1 hz2 rfl (by decide) (.slice none 0 0) 0 (aJ ax []) rfl N0.out.own _ _ 0 _ (aJ ax (S.take 0)) rfl R1.out ?c1 (by unfold maxLen;omega) (by omega) (qL) ?_)
     case c1=>exact fM _
     intro v1 w1 ho1 hg1 _;have N1:Hid (nz wc v1 0 ([]++S.take 0) w1):=qD (N0.out.next rfl (by omega) ho1 hg1);clear ho1 hg1 p0 p1 p2 p3 p4 p5 p6 p7 p8 p9 p10 p11;obtain⟨⟨p0,p1,p2,p3,p4⟩,⟨p5,p6,p7,p8,p9⟩,p10,p11⟩:=HUc.out.keep (N1.out.bel.block b hbw);have hb1:b<w1.heap.size:=by have:=N1.out.bel.size;omega
     have hw1:=N1.out.bel.size;go_wp2_with (at_builtin;refine aD _ rfl _ _ 80 rfl wc.heap.size 84 i0 (cR (((VC.zero,aC.zero),(VC.zero,aC.zero)),(false,false))) 12 168 Ma hi0 hz0 hz1 hz2 rfl (by decide) v1 0 (aJ ax ([]++S.take 0)) rfl (N1.out.alloc _).own _ _ 1 _ (ax p) rfl ⟨rfl,fun _=>⟨_,rfl,Lo _,ap _ _ _⟩⟩ ?c1 (by unfold maxLen;omega) (by omega) (af hw1 _) ?_)
     case c1=>exact fD p
     intro v2 w2 ho2 hg2 _;have N2:Hid (nz wc v2 (0+1) ([]++S.take 0++[p]) w2):=qD ((N1.out.alloc _).next (by simp[aJ]) (by omega) ho2 hg2);clear ho2 hg2 p0 p1 p2 p3 p4 p5 p6 p7 p8 p9 p10 p11;have hw2:=N2.out.bel.size;go_wp2_with (at_builtin;refine aD _ rfl _ _ 80 rfl wc.heap.size 84 i0 (cR (((VC.zero,aC.zero),(VC.zero,aC.zero)),(false,false))) 12 168 Ma hi0 hz0 hz1 hz2 rfl (by decide) v2 (0+1) (aJ ax ([]++S.take 0++[p])) rfl N2.out.own _ _ 0 _ (aJ ax (S.drop 0)) rfl (R2.out.below N2.out.bel) ?c1 (by unfold maxLen;omega) (by omega) hw2 ?_)
     case c1=>exact fM _
     intro v3 w3 ho3 hg3 _;have N3:Hid (nz wc v3 (0+1+0) ([]++S.take 0++[p]++S.drop 0) w3):=qD (N2.out.next rfl (by omega) ho3 hg3);clear ho3 hg3;go_wp2_with fail;go_roundw
     ·exact⟨i+1,_,by omega,by go_num,N3.out.done (k:=0) J2.out (by have:=HM.out;omega) (by simp) HPi.out HNe.out HOk.out HD.out⟩
     ·simp[intOf];omega
    ·have hc0:(cb=0)=False:=by simp;omega
     by_cases hck:cb=k
     ·subst hck;simp only[Ou] at R2;rw[show m-cb=0 by omega] at R2;go_wp2_with (at_builtin;refine aD _ rfl _ _ 80 rfl wc.heap.size 84 i0 (cR (((VC.zero,aC.zero),(VC.zero,aC.zero)),(false,false))) 12 168 Ma hi0 hz0 hz1 hz2 rfl (by decide) (.slice none 0 0) 0 (aJ ax []) rfl N0.out.own _ _ cb _ (aJ ax (S.take cb)) rfl R1.out ?c1 (by unfold maxLen;omega) (by omega) (qL) ?_)
      case c1=>exact fM _
      intro v1 w1 ho1 hg1 _;have N1:Hid (nz wc v1 cb ([]++S.take cb) w1):=qD (N0.out.next rfl (by omega) ho1 hg1);clear ho1 hg1 p0 p1 p2 p3 p4 p5 p6 p7 p8 p9 p10 p11;obtain⟨⟨p0,p1,p2,p3,p4⟩,⟨p5,p6,p7,p8,p9⟩,p10,p11⟩:=HUc.out.keep (N1.out.bel.block b hbw);have hb1:b<w1.heap.size:=by have:=N1.out.bel.size;omega
      have hw1:=N1.out.bel.size;go_wp2_with (at_builtin;refine aD _ rfl _ _ 80 rfl wc.heap.size 84 i0 (cR (((VC.zero,aC.zero),(VC.zero,aC.zero)),(false,false))) 12 168 Ma hi0 hz0 hz1 hz2 rfl (by decide) v1 cb (aJ ax ([]++S.take cb)) rfl (N1.out.alloc _).own _ _ 1 _ (ax p) rfl ⟨rfl,fun _=>⟨_,rfl,Lo _,ap _ _ _⟩⟩ ?c1 (by unfold maxLen;omega) (by omega) (af hw1 _) ?_)
      case c1=>exact fD p
      intro v2 w2 ho2 hg2 _;have N2:Hid (nz wc v2 (cb+1) ([]++S.take cb++[p]) w2):=qD ((N1.out.alloc _).next (by simp[aJ]) (by omega) ho2 hg2);clear ho2 hg2 p0 p1 p2 p3 p4 p5 p6 p7 p8 p9 p10 p11;have hw2:=N2.out.bel.size;go_wp2_with (at_builtin;refine aD _ rfl _ _ 80 rfl wc.heap.size 84 i0 (cR (((VC.zero,aC.zero),(VC.zero,aC.zero)),(false,false))) 12 168 Ma hi0 hz0 hz1 hz2 rfl (by decide) v2 (cb+1) (aJ ax ([]++S.take cb++[p])) rfl N2.out.own _ _ 0 _ (aJ ax (S.drop cb)) rfl (R2.out.below N2.out.bel) ?c1 (by unfold maxLen;omega) (by omega) hw2 ?_)
      case c1=>exact fM _
      intro v3 w3 ho3 hg3 _;have N3:Hid (nz wc v3 (cb+1+0) ([]++S.take cb++[p]++S.drop cb) w3):=qD (N2.out.next rfl (by omega) ho3 hg3);clear ho3 hg3;go_wp2_with fail;go_roundw
      ·exact⟨i+1,_,by omega,by go_num,N3.out.done (k:=cb) J2.out (by have:=HM.out;omega) (by simp) HPi.out HNe.out HOk.out HD.out⟩
      ·simp[intOf];omega
     ·rw[LU hck] at R2;simp only[Mj,bn,LL] at R2;have hck':(cb=k)=False:=by simp;omega
      go_wp2_with (at_builtin;refine aD _ rfl _ _ 80 rfl wc.heap.size 84 i0 (cR (((VC.zero,aC.zero),(VC.zero,aC.zero)),(false,false))) 12 168 Ma hi0 hz0 hz1 hz2 rfl (by decide) (.slice none 0 0) 0 (aJ ax []) rfl N0.out.own _ _ k _ (aJ ax (S.take k)) rfl R1.out ?c1 (by unfold maxLen;omega) (by omega) (qL) ?_)
      case c1=>exact fM _
      intro v1 w1 ho1 hg1 _;have N1:Hid (nz wc v1 k ([]++S.take k) w1):=qD (N0.out.next rfl (by omega) ho1 hg1);clear ho1 hg1 p0 p1 p2 p3 p4 p5 p6 p7 p8 p9 p10 p11;obtain⟨⟨p0,p1,p2,p3,p4⟩,⟨p5,p6,p7,p8,p9⟩,p10,p11⟩:=HUc.out.keep (N1.out.bel.block b hbw);have hb1:b<w1.heap.size:=by have:=N1.out.bel.size;omega
      have hw1:=N1.out.bel.size;go_wp2_with (at_builtin;refine aD _ rfl _ _ 80 rfl wc.heap.size 84 i0 (cR (((VC.zero,aC.zero),(VC.zero,aC.zero)),(false,false))) 12 168 Ma hi0 hz0 hz1 hz2 rfl (by decide) v1 k (aJ ax ([]++S.take k)) rfl (N1.out.alloc _).own _ _ 1 _ (ax p) rfl ⟨rfl,fun _=>⟨_,rfl,Lo _,ap _ _ _⟩⟩ ?c1 (by unfold maxLen;omega) (by omega) (af hw1 _) ?_)
      case c1=>exact fD p
      intro v2 w2 ho2 hg2 _;have N2:Hid (nz wc v2 (k+1) ([]++S.take k++[p]) w2):=qD ((N1.out.alloc _).next (by simp[aJ]) (by omega) ho2 hg2);clear ho2 hg2 p0 p1 p2 p3 p4 p5 p6 p7 p8 p9 p10 p11;have hw2:=N2.out.bel.size;go_wp2_with (at_builtin;refine aD _ rfl _ _ 80 rfl wc.heap.size 84 i0 (cR (((VC.zero,aC.zero),(VC.zero,aC.zero)),(false,false))) 12 168 Ma hi0 hz0 hz1 hz2 rfl (by decide) v2 (k+1) (aJ ax ([]++S.take k++[p])) rfl N2.out.own _ _ (m-k) _ (aJ ax (S.drop k)) rfl (R2.out.below N2.out.bel) ?c1 (by unfold maxLen;omega) (by omega) hw2 ?_)
      case c1=>exact fM _
      intro v3 w3 ho3 hg3 _;have N3:Hid (nz wc v3 (k+1+(m-k)) ([]++S.take k++[p]++S.drop k) w3):=qD (N2.out.next rfl (by omega) ho3 hg3);clear ho3 hg3;go_wp2_with fail;go_roundw
      ·exact⟨i+1,_,by omega,by go_num,N3.out.done (k:=k) J2.out (by have:=HM.out;omega) (by simp) HPi.out HNe.out HOk.out HD.out⟩
      ·simp[intOf];omega
  ·have hle:=I.le;obtain⟨B,cb,hv3,hcb⟩:=aa I.own;obtain⟨m,hm⟩:∃m,m=S.length:=⟨_,rfl⟩;have hmn:m<=n:=by omega
   obtain⟨A',c',e,hsS⟩:=SI.Jt I.own rfl (by unfold aF;omega) (fun x hx=>(I.ok x hx).step I.bel);rw[hv3] at e;cases e;rw[<-hm] at hv3 hcb hsS;subst hv3;have HS:=qD hsS;have HM:=qD hm;have HPm:=qD I.perm;have HOr:=qD I.ord;have HOkS:=qD I.ok;have HBw:=qD I.bel;clear I J hsS hm;go_wp2_with fail;obtain⟨wo,hwo⟩:∃wo:World,wo=wr:=⟨_,rfl⟩;rw[<-hwo] at HS HBw ⊢;clear hwo
   go_loopw [7,8] (fun v7 v8 wr=>∃(j:Nat) (cs:List PI),j<=m/\v8=.int .i64 j/\pY w wo S j v7 cs wr) (fun _ v8 _=>m-(intOf v8).toNat)
   ·exact⟨0,[],LQ _,rfl,⟨bC _ _ _ _,rfl,qL,by simp,LH _ _⟩⟩
   case round=>
    obtain⟨j,cs,hj,rfl,I⟩:=hrel;have J:=qD I;by_cases hjt:j<m
    ·obtain⟨p,hp⟩:∃p,S[j]?=some p:=⟨_,LI (by have:=HM.out;omega)⟩;obtain⟨b,off,rfl,hbl,hat,_⟩:=HS.out.at hp;have HPj:=qD hp;have HPk:=qD (HOkS.out p (LP hp));have hbr:b<wr.heap.size:=by have:=I.bel.size;omega
     have hl7:=I.le;obtain⟨⟨x0,x1,x2,x3,x4⟩,⟨x5,x6,x7,x8,x9⟩,x10,x11⟩:=hat.keep (I.bel.block b hbl);obtain⟨m7,hm7⟩:∃m,m=cs.length:=⟨_,rfl⟩;obtain⟨B7,c7,hv7,hc7⟩:=aa I.own;rw[<-hm7] at hv7 hc7 hl7;subst hv7;have HM7:=qD hm7;clear hp hat I hm7;go_upto_region 18 with fail
     have KJ:=J.out.step ((LH wr.heap.size wr).alloc (qL) (Obj.cells (aM p) 84));have KB:aE (wr.alloc (.cells (aM p) 84)) wr.heap.size 84 (aM p):=aE.Jq rfl;have hno:(Value.slice B7 m7 c7).ownBlock≠some wr.heap.size:=fun e=>absurd (ej J.out.own e) (by omega);change (Code.region 18 _ _).wp _ _ _ (wr.alloc (.cells (aM p) 84));generalize wr.alloc (.cells (aM p) 84)=w3 at*;have hgaL:wo.heap.size<=wr.heap.size:=J.out.bel.size;generalize wr.heap.size=ga at*;have L1:=qD KJ;have LB:=qD KB;clear x0 x1 x2 x3 x4 x5 x6 x7 x8 x9 x10 x11 J KJ KB hbr;rcases NI cs with hcs|⟨d,l,hcs⟩
     ·have hm0:¬0<m7:=by have:=HM7.out;rw[hcs] at this;simp at this;omega
      have HSt:Hid (dF ae (cs.map fun p=>(ar p).sp) (ar p).sp=(cs.map fun p=>(ar p).sp)++[(ar p).sp]):=qD (lL (.inl (by rw[hcs];rfl)));clear hcs;obtain⟨⟨x0,x1,x2,x3,x4⟩,⟨x5,x6,x7,x8,x9⟩,x10,x11⟩:=cw.Jr LB.out;have hlo:wo.heap.size<=w3.heap.size:=L1.out.bel.size;have LK:=qD (L1.out.step ((LH w3.heap.size w3).alloc (qL) (Obj.cells (aM p) 84)));have hown:(w3.alloc (.cells (aM p) 84)).ownsRow wo.heap.size 84 12 (.slice B7 m7 c7) m7 (aJ ax cs):=by have:=LK.out.own;rw[<-HM7.out] at this;exact this
      have HOw:=qD hown;clear hown;go_wp2_with (at_builtin;refine aD _ rfl _ _ 80 rfl wo.heap.size 84 i0 (cR (((VC.zero,aC.zero),(VC.zero,aC.zero)),(false,false))) 12 168 Ma hi0 hz0 hz1 hz2 rfl (by decide) (.slice B7 m7 c7) m7 (aJ ax cs) rfl HOw.out _ _ 1 _ (ax p) rfl ⟨rfl,fun _=>⟨_,rfl,Lo _,ap _ _ _⟩⟩ (fD _) (by unfold maxLen;omega) (by omega) (af hlo _) ?_);intro v' w4 hown hg _;have HI:=qD (LK.out.add HPj.out HSt.out HPk.out hg (by rw[HM7.out]) hown);clear hown hg x0 x1 x2 x3 x4 x5 x6 x7 x8 x9 x10 x11;go_wp2_with fail;go_roundw
      ·exact⟨j+1,cs++[p],by omega,by go_num,HI.out⟩
      ·simp[intOf];omega
     ·rw[My] at hcs;have hml:m7=d.length+1:=by rw[HM7.out,hcs];simp
      obtain⟨g,hB7⟩:∃g,B7=some ⟨g,0,none⟩:=by
       obtain⟨g,cap,hv,_⟩:=L1.out.own.form (by rw[hcs];simp);injection hv with hv
       exact⟨g,hv⟩
      subst hB7
      have hrow:cw w3 g ((m7-1)*12) l:=by
       have ho:=L1.out.own;rw[<-HM7.out] at ho;refine qW fun q v hq=>?_;have hlt:=(LJ.1 hq).1;rw[bR] at hlt;rw[ho.cellAt _ (by omega)];exact bg bR (xs:=cs) (a:=l) (by rw[hcs,show m7-1=d.length by omega];simp) hq
      have HOl:=qD (L1.out.ok l (by rw[hcs];simp));have HML:=qD hml;have HCS:=qD hcs;have glt:g<w3.heap.size:=ej L1.out.own rfl;have hne:ga≠g:=fun e=>hno (by rw[e];rfl);have hm0:0<m7:=by omega
      have i0':(0:Int)<=(m7:Int)-1:=by omega
      have i1':(m7:Int)-1<(m7:Int):=by omega
      have W2':((m7:Int)-1).toNat=m7-1:=by omega
      obtain⟨⟨y0,y1,y2,y3,y4⟩,⟨y5,y6,y7,y8,y9⟩,y10,y11⟩:=hrow;clear hcs hml;go_upto_region 20 with fail
      have hzb:wo.heap.size<=w3.heap.size:=L1.out.bel.size
      have KJ4:FQ w wo S j (.slice (some ⟨g,0,none⟩) m7 c7) cs ga w3.heap.size p l (w3.alloc (.cells (aM l) 84)):=
       ⟨L1.out.step ((LH w3.heap.size w3).alloc (qL) _),LB.out.alloc _,aE.Jq rfl,hgaL,hzb,by have:=LB.out.lt;omega,hno,fun e=>absurd (ej L1.out.own e) (by omega)⟩
      change (Code.region 20 _ _).wp _ _ _ (w3.alloc (.cells (aM l) 84));generalize w3.alloc (.cells (aM l) 84)=w4 at*;generalize w3.heap.size=gb at*;have J4:=qD KJ4;clear KJ4 L1 LB y0 y1 y2 y3 y4 y5 y6 y7 y8 y9 y10 y11 glt i0' i1' W2' hzb;obtain⟨⟨x0,x1,x2,x3,x4⟩,_,_,_⟩:=cw.Jr J4.out.b9;obtain⟨_,⟨y5,y6,y7,y8,y9⟩,_,_⟩:=cw.Jr J4.out.b10;have Wb:=qD (HBw.out.Jp J4.out.i.bel);go_wp2_with fail;refine(iM p.1.1.2 l.1.2.2 p.1.1.1 l.1.2.1 _ (HPk.out.step Wb.out).1 (HOl.out.step Wb.out).2).mono ?_;rintro e w5 ⟨rfl,hb5⟩;have J5:=qD (J4.out.step hb5);have W5:=qD (Wb.out.Jp hb5);clear hb5 x0 x1 x2 x3 x4 y5 y6 y7 y8 y9 J4 Wb;have hx10:w5.cell? ⟨ga,10,none⟩=some (.bool p.2.1):=(cw.Jr J5.out.b9).2.2.1;have hy11:w5.cell? ⟨gb,11,none⟩=some (.bool l.2.2):=(cw.Jr J5.out.b10).2.2.2;by_cases hj2:ae (dh l) (dg p)<0
      ·have HSt:Hid (dF ae (cs.map fun p=>(ar p).sp) (ar p).sp=(cs.map fun p=>(ar p).sp)++[(ar p).sp]):=qD (lL (.inr ⟨d.map (fun p=>(ar p).sp),(ar l).sp,by rw[HCS.out,Lc];rfl,hj2⟩));have hnj:=FR hj2;clear hj2;rcases hnj with hc|⟨hc,e1,e2⟩
       ·have d1:¬aU p.1.1.2 l.1.2.2<0:=by omega
        have d2:(aU p.1.1.2 l.1.2.2==0)=false:=by simp;omega
        clear hc;go_upto_region 26 with fail
        clear d1 d2;clear hx10 hy11;obtain⟨⟨x0,x1,x2,x3,x4⟩,⟨x5,x6,x7,x8,x9⟩,x10,x11⟩:=cw.Jr J5.out.b9;have hlo:wo.heap.size<=w5.heap.size:=J5.out.i.bel.size;have LK:=qD (J5.out.i.step ((LH w5.heap.size w5).alloc (qL) (Obj.cells (aM p) 84)));have hown:(w5.alloc (.cells (aM p) 84)).ownsRow wo.heap.size 84 12 (.slice (some ⟨g,0,none⟩) m7 c7) m7 (aJ ax cs):=by have:=LK.out.own;rw[<-HM7.out] at this;exact this
        have HOw:=qD hown;clear hown;go_wp2_with (at_builtin;refine aD _ rfl _ _ 80 rfl wo.heap.size 84 i0 (cR (((VC.zero,aC.zero),(VC.zero,aC.zero)),(false,false))) 12 168 Ma hi0 hz0 hz1 hz2 rfl (by decide) (.slice (some ⟨g,0,none⟩) m7 c7) m7 (aJ ax cs) rfl HOw.out _ _ 1 _ (ax p) rfl ⟨rfl,fun _=>⟨_,rfl,Lo _,ap _ _ _⟩⟩ (fD _) (by unfold maxLen;omega) (by omega) (af hlo _) ?_);intro v' w6 hown hg _;have HI:=qD (LK.out.add HPj.out HSt.out HPk.out hg (by rw[HM7.out]) hown);clear hown hg x0 x1 x2 x3 x4 x5 x6 x7 x8 x9 x10 x11;go_wp2_with fail;go_roundw
        ·exact⟨j+1,cs++[p],by omega,by go_num,HI.out⟩
        ·simp[intOf];omega
       ·rw[e1] at hx10;rw[e2] at hy11;rw[hc];clear e1 e2 hc;go_upto_region 26 with fail
        clear hx10 hy11;obtain⟨⟨x0,x1,x2,x3,x4⟩,⟨x5,x6,x7,x8,x9⟩,x10,x11⟩:=cw.Jr J5.out.b9;have hlo:wo.heap.size<=w5.heap.size:=J5.out.i.bel.size;have LK:=qD (J5.out.i.step ((LH w5.heap.size w5).alloc (qL) (Obj.cells (aM p) 84)));have hown:(w5.alloc (.cells (aM p) 84)).ownsRow wo.heap.size 84 12 (.slice (some ⟨g,0,none⟩) m7 c7) m7 (aJ ax cs):=by have:=LK.out.own;rw[<-HM7.out] at this;exact this
        have HOw:=qD hown;clear hown;go_wp2_with (at_builtin;refine aD _ rfl _ _ 80 rfl wo.heap.size 84 i0 (cR (((VC.zero,aC.zero),(VC.zero,aC.zero)),(false,false))) 12 168 Ma hi0 hz0 hz1 hz2 rfl (by decide) (.slice (some ⟨g,0,none⟩) m7 c7) m7 (aJ ax cs) rfl HOw.out _ _ 1 _ (ax p) rfl ⟨rfl,fun _=>⟨_,rfl,Lo _,ap _ _ _⟩⟩ (fD _) (by unfold maxLen;omega) (by omega) (af hlo _) ?_);intro v' w6 hown hg _;have HI:=qD (LK.out.add HPj.out HSt.out HPk.out hg (by rw[HM7.out]) hown);clear hown hg x0 x1 x2 x3 x4 x5 x6 x7 x8 x9 x10 x11;go_wp2_with fail;go_roundw
        ·exact⟨j+1,cs++[p],by omega,by go_num,HI.out⟩
        ·simp[intOf];omega
      ·have hyj:=DQ hj2;have HJ2:=qD hj2;clear hj2;rcases hyj with hc|⟨hc,e1⟩|⟨hc,e1,e2⟩
       ·go_upto_region 22 with fail
        clear hc;clear hx10 hy11;obtain⟨⟨x0,x1,x2,x3,x4⟩,⟨x5,x6,x7,x8,x9⟩,x10,x11⟩:=cw.Jr J5.out.b9;obtain⟨⟨y0,y1,y2,y3,y4⟩,⟨y5,y6,y7,y8,y9⟩,y10,y11⟩:=cw.Jr J5.out.b10;go_wp2_with fail;refine(kQ p l _ (HPk.out.step W5.out) (HOl.out.step W5.out)).mono ?_;rintro e w6 ⟨rfl,hb6⟩;have J6:=qD (J5.out.step hb6);clear hb6 x0 x1 x2 x3 x4 x5 x6 x7 x8 x9 x10 x11 y0 y1 y2 y3 y4 y5 y6 y7 y8 y9 y10 y11 J5 W5;have ha:=cO.anti (dh p) (dh l);by_cases hu:0<ae (p.1.2.2,p.2.2) (l.1.2.2,l.2.2)
        ·have hlt:ae (dh l) (dh p)<0:=by have hu':0<ae (dh p) (dh l):=hu;omega
         have HSt:Hid (dF ae ((d++[l]).map fun p=>(ar p).sp) (ar p).sp=(d++[((l.1.1,p.1.2),(l.2.1,p.2.2))]).map fun p=>(ar p).sp):=by
          rw[Lc,Lc];exact qD (nD (show ¬ae (dh l) (dg p)<0 by have:=HJ2.out;omega) hlt)
         have HQ:Hid (iY w ((l.1.1,p.1.2),(l.2.1,p.2.2))):=qD ⟨HOl.out.1,HPk.out.2⟩;have J7':=J6.out.up;rw[HCS.out] at J7';have zz:=J6.out.b10.frozen;obtain⟨⟨x0,x1,x2,x3,x4⟩,⟨x5,x6,x7,x8,x9⟩,x10,x11⟩:=cw.Jr J6.out.b9;obtain⟨⟨y0,y1,y2,y3,y4⟩,⟨y5,y6,y7,y8,y9⟩,y10,y11⟩:=cw.Jr J6.out.b10;clear ha hlt;go_upto_region 25 with fail
         change (Code.region 25 _ _).wp _ _ _ ((cy w6 gb 5 p.1.2.1).setCell ⟨gb,11,none⟩ (.bool p.2.2));generalize (cy w6 gb 5 p.1.2.1).setCell ⟨gb,11,none⟩ (.bool p.2.2)=w7 at*;have J7:=qD J7';clear J7' J6 x0 x1 x2 x3 x4 x5 x6 x7 x8 x9 x10 x11 y0 y1 y2 y3 y4 y5 y6 y7 y8 y9 y10 y11 zz;obtain⟨y12,z⟩:=J7.out.row HML.out;obtain⟨⟨y0,y1,y2,y3,y4⟩,⟨y5,y6,y7,y8,y9⟩,y10,y11⟩:=y12;obtain⟨⟨x0,x1,x2,x3,x4⟩,⟨x5,x6,x7,x8,x9⟩,x10,x11⟩:=cw.Jr J7.out.b10;have i0':(0:Int)<=(m7:Int)-1:=by have:=HML.out;omega
         have i1':(m7:Int)-1<(m7:Int):=by omega
         have W2':((m7:Int)-1).toNat=m7-1:=by omega
         have HP2:Hid (pY w wo S (j+1) (.slice (some ⟨g,0,none⟩) m7 c7) (d++[((l.1.1,p.1.2),(l.2.1,p.2.2))]) (w7.setCells g ((m7-1)*12) (ax ((l.1.1,p.1.2),(l.2.1,p.2.2))))):=by
          have:=J7.out.i.put HPj.out HSt.out HQ.out HML.out;rw[show d.length=m7-1 by have:=HML.out;omega] at this;exact qD this
         go_upto_region 16 with fail
         obtain⟨w8,hw8,HI⟩:∃w8,w7.setCells g ((m7-1)*12) (ax ((l.1.1,p.1.2),(l.2.1,p.2.2)))=w8/\Hid (pY w wo S (j+1) (.slice (some ⟨g,0,none⟩) m7 c7) (d++[((l.1.1,p.1.2),(l.2.1,p.2.2))]) w8):=⟨_,rfl,HP2⟩;change (Code.region 16 _ _).wp _ _ _ (w7.setCells g ((m7-1)*12) (ax ((l.1.1,p.1.2),(l.2.1,p.2.2))));rw[hw8];clear hw8 HP2 x0 x1 x2 x3 x4 x5 x6 x7 x8 x9 x10 x11 y0 y1 y2 y3 y4 y5 y6 y7 y8 y9 y10 y11 z i0' i1' W2';go_wp2_with fail;go_roundw
         ·exact⟨j+1,d++[((l.1.1,p.1.2),(l.2.1,p.2.2))],by omega,by go_num,HI.out⟩
         ·simp[intOf];omega
        ·have hlt:¬ae (dh l) (dh p)<0:=by have hu':¬0<ae (dh p) (dh l):=hu;omega
         have HSt:Hid (dF ae ((d++[l]).map fun p=>(ar p).sp) (ar p).sp=(d++[l]).map fun p=>(ar p).sp):=by
          rw[Lc];exact qD (nE (show ¬ae (dh l) (dg p)<0 by have:=HJ2.out;omega) hlt)
         have HQ:Hid (iY w l):=qD HOl.out;have J7':=J6.out;rw[HCS.out] at J7';have J7:=qD J7';clear ha hlt J7' J6;go_upto_region 25 with fail
         obtain⟨y12,z⟩:=J7.out.row HML.out;obtain⟨⟨y0,y1,y2,y3,y4⟩,⟨y5,y6,y7,y8,y9⟩,y10,y11⟩:=y12;obtain⟨⟨x0,x1,x2,x3,x4⟩,⟨x5,x6,x7,x8,x9⟩,x10,x11⟩:=cw.Jr J7.out.b10;have i0':(0:Int)<=(m7:Int)-1:=by have:=HML.out;omega
         have i1':(m7:Int)-1<(m7:Int):=by omega
         have W2':((m7:Int)-1).toNat=m7-1:=by omega
         have HP2:Hid (pY w wo S (j+1) (.slice (some ⟨g,0,none⟩) m7 c7) (d++[l]) (w6.setCells g ((m7-1)*12) (ax l))):=by
          have:=J7.out.i.put HPj.out HSt.out HQ.out HML.out;rw[show d.length=m7-1 by have:=HML.out;omega] at this;exact qD this
         go_upto_region 16 with fail
         obtain⟨w8,hw8,HI⟩:∃w8,w6.setCells g ((m7-1)*12) (ax l)=w8/\Hid (pY w wo S (j+1) (.slice (some ⟨g,0,none⟩) m7 c7) (d++[l]) w8):=⟨_,rfl,HP2⟩;change (Code.region 16 _ _).wp _ _ _ (w6.setCells g ((m7-1)*12) (ax l));rw[hw8];clear hw8 HP2 x0 x1 x2 x3 x4 x5 x6 x7 x8 x9 x10 x11 y0 y1 y2 y3 y4 y5 y6 y7 y8 y9 y10 y11 z i0' i1' W2';go_wp2_with fail;go_roundw
         ·exact⟨j+1,d++[l],by omega,by go_num,HI.out⟩
         ·simp[intOf];omega
       ·rw[e1] at hx10;rw[hc];clear e1 hc;go_upto_region 22 with fail
        clear hx10 hy11;obtain⟨⟨x0,x1,x2,x3,x4⟩,⟨x5,x6,x7,x8,x9⟩,x10,x11⟩:=cw.Jr J5.out.b9;obtain⟨⟨y0,y1,y2,y3,y4⟩,⟨y5,y6,y7,y8,y9⟩,y10,y11⟩:=cw.Jr J5.out.b10;go_wp2_with fail;refine(kQ p l _ (HPk.out.step W5.out) (HOl.out.step W5.out)).mono ?_;rintro e w6 ⟨rfl,hb6⟩;have J6:=qD (J5.out.step hb6);clear hb6 x0 x1 x2 x3 x4 x5 x6 x7 x8 x9 x10 x11 y0 y1 y2 y3 y4 y5 y6 y7 y8 y9 y10 y11 J5 W5;have ha:=cO.anti (dh p) (dh l);by_cases hu:0<ae (p.1.2.2,p.2.2) (l.1.2.2,l.2.2)
        ·have hlt:ae (dh l) (dh p)<0:=by have hu':0<ae (dh p) (dh l):=hu;omega
         have HSt:Hid (dF ae ((d++[l]).map fun p=>(ar p).sp) (ar p).sp=(d++[((l.1.1,p.1.2),(l.2.1,p.2.2))]).map fun p=>(ar p).sp):=by
          rw[Lc,Lc];exact qD (nD (show ¬ae (dh l) (dg p)<0 by have:=HJ2.out;omega) hlt)
         have HQ:Hid (iY w ((l.1.1,p.1.2),(l.2.1,p.2.2))):=qD ⟨HOl.out.1,HPk.out.2⟩;have J7':=J6.out.up;rw[HCS.out] at J7';have zz:=J6.out.b10.frozen;obtain⟨⟨x0,x1,x2,x3,x4⟩,⟨x5,x6,x7,x8,x9⟩,x10,x11⟩:=cw.Jr J6.out.b9;obtain⟨⟨y0,y1,y2,y3,y4⟩,⟨y5,y6,y7,y8,y9⟩,y10,y11⟩:=cw.Jr J6.out.b10;clear ha hlt;go_upto_region 25 with fail
         change (Code.region 25 _ _).wp _ _ _ ((cy w6 gb 5 p.1.2.1).setCell ⟨gb,11,none⟩ (.bool p.2.2));generalize (cy w6 gb 5 p.1.2.1).setCell ⟨gb,11,none⟩ (.bool p.2.2)=w7 at*;have J7:=qD J7';clear J7' J6 x0 x1 x2 x3 x4 x5 x6 x7 x8 x9 x10 x11 y0 y1 y2 y3 y4 y5 y6 y7 y8 y9 y10 y11 zz;obtain⟨y12,z⟩:=J7.out.row HML.out;obtain⟨⟨y0,y1,y2,y3,y4⟩,⟨y5,y6,y7,y8,y9⟩,y10,y11⟩:=y12;obtain⟨⟨x0,x1,x2,x3,x4⟩,⟨x5,x6,x7,x8,x9⟩,x10,x11⟩:=cw.Jr J7.out.b10;have i0':(0:Int)<=(m7:Int)-1:=by have:=HML.out;omega
         have i1':(m7:Int)-1<(m7:Int):=by omega
         have W2':((m7:Int)-1).toNat=m7-1:=by omega
         have HP2:Hid (pY w wo S (j+1) (.slice (some ⟨g,0,none⟩) m7 c7) (d++[((l.1.1,p.1.2),(l.2.1,p.2.2))]) (w7.setCells g ((m7-1)*12) (ax ((l.1.1,p.1.2),(l.2.1,p.2.2))))):=by
          have:=J7.out.i.put HPj.out HSt.out HQ.out HML.out;rw[show d.length=m7-1 by have:=HML.out;omega] at this;exact qD this
         go_upto_region 16 with fail
         obtain⟨w8,hw8,HI⟩:∃w8,w7.setCells g ((m7-1)*12) (ax ((l.1.1,p.1.2),(l.2.1,p.2.2)))=w8/\Hid (pY w wo S (j+1) (.slice (some ⟨g,0,none⟩) m7 c7) (d++[((l.1.1,p.1.2),(l.2.1,p.2.2))]) w8):=⟨_,rfl,HP2⟩;change (Code.region 16 _ _).wp _ _ _ (w7.setCells g ((m7-1)*12) (ax ((l.1.1,p.1.2),(l.2.1,p.2.2))));rw[hw8];clear hw8 HP2 x0 x1 x2 x3 x4 x5 x6 x7 x8 x9 x10 x11 y0 y1 y2 y3 y4 y5 y6 y7 y8 y9 y10 y11 z i0' i1' W2';go_wp2_with fail;go_roundw
         ·exact⟨j+1,d++[((l.1.1,p.1.2),(l.2.1,p.2.2))],by omega,by go_num,HI.out⟩
         ·simp[intOf];omega
        ·have hlt:¬ae (dh l) (dh p)<0:=by have hu':¬0<ae (dh p) (dh l):=hu;omega
         have HSt:Hid (dF ae ((d++[l]).map fun p=>(ar p).sp) (ar p).sp=(d++[l]).map fun p=>(ar p).sp):=by
          rw[Lc];exact qD (nE (show ¬ae (dh l) (dg p)<0 by have:=HJ2.out;omega) hlt)
         have HQ:Hid (iY w l):=qD HOl.out;have J7':=J6.out;rw[HCS.out] at J7';have J7:=qD J7';clear ha hlt J7' J6;go_upto_region 25 with fail
         obtain⟨y12,z⟩:=J7.out.row HML.out;obtain⟨⟨y0,y1,y2,y3,y4⟩,⟨y5,y6,y7,y8,y9⟩,y10,y11⟩:=y12;obtain⟨⟨x0,x1,x2,x3,x4⟩,⟨x5,x6,x7,x8,x9⟩,x10,x11⟩:=cw.Jr J7.out.b10;have i0':(0:Int)<=(m7:Int)-1:=by have:=HML.out;omega
         have i1':(m7:Int)-1<(m7:Int):=by omega
         have W2':((m7:Int)-1).toNat=m7-1:=by omega
         have HP2:Hid (pY w wo S (j+1) (.slice (some ⟨g,0,none⟩) m7 c7) (d++[l]) (w6.setCells g ((m7-1)*12) (ax l))):=by
          have:=J7.out.i.put HPj.out HSt.out HQ.out HML.out;rw[show d.length=m7-1 by have:=HML.out;omega] at this;exact qD this
         go_upto_region 16 with fail
         obtain⟨w8,hw8,HI⟩:∃w8,w6.setCells g ((m7-1)*12) (ax l)=w8/\Hid (pY w wo S (j+1) (.slice (some ⟨g,0,none⟩) m7 c7) (d++[l]) w8):=⟨_,rfl,HP2⟩;change (Code.region 16 _ _).wp _ _ _ (w6.setCells g ((m7-1)*12) (ax l));rw[hw8];clear hw8 HP2 x0 x1 x2 x3 x4 x5 x6 x7 x8 x9 x10 x11 y0 y1 y2 y3 y4 y5 y6 y7 y8 y9 y10 y11 z i0' i1' W2';go_wp2_with fail;go_roundw
         ·exact⟨j+1,d++[l],by omega,by go_num,HI.out⟩
         ·simp[intOf];omega
       ·rw[e1] at hx10;rw[e2] at hy11;rw[hc];clear e1 e2 hc;go_upto_region 22 with fail
        clear hx10 hy11;obtain⟨⟨x0,x1,x2,x3,x4⟩,⟨x5,x6,x7,x8,x9⟩,x10,x11⟩:=cw.Jr J5.out.b9;obtain⟨⟨y0,y1,y2,y3,y4⟩,⟨y5,y6,y7,y8,y9⟩,y10,y11⟩:=cw.Jr J5.out.b10;go_wp2_with fail;refine(kQ p l _ (HPk.out.step W5.out) (HOl.out.step W5.out)).mono ?_;rintro e w6 ⟨rfl,hb6⟩;have J6:=qD (J5.out.step hb6);clear hb6 x0 x1 x2 x3 x4 x5 x6 x7 x8 x9 x10 x11 y0 y1 y2 y3 y4 y5 y6 y7 y8 y9 y10 y11 J5 W5;have ha:=cO.anti (dh p) (dh l);by_cases hu:0<ae (p.1.2.2,p.2.2) (l.1.2.2,l.2.2)
        ·have hlt:ae (dh l) (dh p)<0:=by have hu':0<ae (dh p) (dh l):=hu;omega
         have HSt:Hid (dF ae ((d++[l]).map fun p=>(ar p).sp) (ar p).sp=(d++[((l.1.1,p.1.2),(l.2.1,p.2.2))]).map fun p=>(ar p).sp):=by
          rw[Lc,Lc];exact qD (nD (show ¬ae (dh l) (dg p)<0 by have:=HJ2.out;omega) hlt)
         have HQ:Hid (iY w ((l.1.1,p.1.2),(l.2.1,p.2.2))):=qD ⟨HOl.out.1,HPk.out.2⟩;have J7':=J6.out.up;rw[HCS.out] at J7';have zz:=J6.out.b10.frozen;obtain⟨⟨x0,x1,x2,x3,x4⟩,⟨x5,x6,x7,x8,x9⟩,x10,x11⟩:=cw.Jr J6.out.b9;obtain⟨⟨y0,y1,y2,y3,y4⟩,⟨y5,y6,y7,y8,y9⟩,y10,y11⟩:=cw.Jr J6.out.b10;clear ha hlt;go_upto_region 25 with fail
         change (Code.region 25 _ _).wp _ _ _ ((cy w6 gb 5 p.1.2.1).setCell ⟨gb,11,none⟩ (.bool p.2.2));generalize (cy w6 gb 5 p.1.2.1).setCell ⟨gb,11,none⟩ (.bool p.2.2)=w7 at*;have J7:=qD J7';clear J7' J6 x0 x1 x2 x3 x4 x5 x6 x7 x8 x9 x10 x11 y0 y1 y2 y3 y4 y5 y6 y7 y8 y9 y10 y11 zz;obtain⟨y12,z⟩:=J7.out.row HML.out;obtain⟨⟨y0,y1,y2,y3,y4⟩,⟨y5,y6,y7,y8,y9⟩,y10,y11⟩:=y12;obtain⟨⟨x0,x1,x2,x3,x4⟩,⟨x5,x6,x7,x8,x9⟩,x10,x11⟩:=cw.Jr J7.out.b10;have i0':(0:Int)<=(m7:Int)-1:=by have:=HML.out;omega
         have i1':(m7:Int)-1<(m7:Int):=by omega
         have W2':((m7:Int)-1).toNat=m7-1:=by omega
         have HP2:Hid (pY w wo S (j+1) (.slice (some ⟨g,0,none⟩) m7 c7) (d++[((l.1.1,p.1.2),(l.2.1,p.2.2))]) (w7.setCells g ((m7-1)*12) (ax ((l.1.1,p.1.2),(l.2.1,p.2.2))))):=by
          have:=J7.out.i.put HPj.out HSt.out HQ.out HML.out;rw[show d.length=m7-1 by have:=HML.out;omega] at this;exact qD this
         go_upto_region 16 with fail
         obtain⟨w8,hw8,HI⟩:∃w8,w7.setCells g ((m7-1)*12) (ax ((l.1.1,p.1.2),(l.2.1,p.2.2)))=w8/\Hid (pY w wo S (j+1) (.slice (some ⟨g,0,none⟩) m7 c7) (d++[((l.1.1,p.1.2),(l.2.1,p.2.2))]) w8):=⟨_,rfl,HP2⟩;change (Code.region 16 _ _).wp _ _ _ (w7.setCells g ((m7-1)*12) (ax ((l.1.1,p.1.2),(l.2.1,p.2.2))));rw[hw8];clear hw8 HP2 x0 x1 x2 x3 x4 x5 x6 x7 x8 x9 x10 x11 y0 y1 y2 y3 y4 y5 y6 y7 y8 y9 y10 y11 z i0' i1' W2';go_wp2_with fail;go_roundw
         ·exact⟨j+1,d++[((l.1.1,p.1.2),(l.2.1,p.2.2))],by omega,by go_num,HI.out⟩
         ·simp[intOf];omega
        ·have hlt:¬ae (dh l) (dh p)<0:=by have hu':¬0<ae (dh p) (dh l):=hu;omega
         have HSt:Hid (dF ae ((d++[l]).map fun p=>(ar p).sp) (ar p).sp=(d++[l]).map fun p=>(ar p).sp):=by
          rw[Lc];exact qD (nE (show ¬ae (dh l) (dg p)<0 by have:=HJ2.out;omega) hlt)
         have HQ:Hid (iY w l):=qD HOl.out;have J7':=J6.out;rw[HCS.out] at J7';have J7:=qD J7';clear ha hlt J7' J6;go_upto_region 25 with fail
         obtain⟨y12,z⟩:=J7.out.row HML.out;obtain⟨⟨y0,y1,y2,y3,y4⟩,⟨y5,y6,y7,y8,y9⟩,y10,y11⟩:=y12;obtain⟨⟨x0,x1,x2,x3,x4⟩,⟨x5,x6,x7,x8,x9⟩,x10,x11⟩:=cw.Jr J7.out.b10;have i0':(0:Int)<=(m7:Int)-1:=by have:=HML.out;omega
         have i1':(m7:Int)-1<(m7:Int):=by omega
         have W2':((m7:Int)-1).toNat=m7-1:=by omega
         have HP2:Hid (pY w wo S (j+1) (.slice (some ⟨g,0,none⟩) m7 c7) (d++[l]) (w6.setCells g ((m7-1)*12) (ax l))):=by
          have:=J7.out.i.put HPj.out HSt.out HQ.out HML.out;rw[show d.length=m7-1 by have:=HML.out;omega] at this;exact qD this
         go_upto_region 16 with fail
         obtain⟨w8,hw8,HI⟩:∃w8,w6.setCells g ((m7-1)*12) (ax l)=w8/\Hid (pY w wo S (j+1) (.slice (some ⟨g,0,none⟩) m7 c7) (d++[l]) w8):=⟨_,rfl,HP2⟩;change (Code.region 16 _ _).wp _ _ _ (w6.setCells g ((m7-1)*12) (ax l));rw[hw8];clear hw8 HP2 x0 x1 x2 x3 x4 x5 x6 x7 x8 x9 x10 x11 y0 y1 y2 y3 y4 y5 y6 y7 y8 y9 y10 y11 z i0' i1' W2';go_wp2_with fail;go_roundw
         ·exact⟨j+1,d++[l],by omega,by go_num,HI.out⟩
         ·simp[intOf];omega
    ·have hne:∀s∈S.map (fun p=>(ar p).sp),ae s.1 s.2<0/\iy s.1/\iy s.2:=by
      intro s hs;obtain⟨x,hx,rfl⟩:=MS.1 hs;exact AY (Nu.1 (HPm.out.subset hx)).2
     have hpw:(S.map fun p=>(ar p).sp).Pairwise fun s t=>ae s.1 t.1<=0:=by rw[Nv];exact HOr.out
     have hmi:=sm cO hne hpw;have HMi:=qD hmi;have hll:=I.le;have hit:is.take i=is:=LS (by have:=HL.out;omega);have HIt:=qD hit;clear I hne hpw hmi hit;go_wp2_with fail;go_ret;have heq:=J.out.eq;rw[LS (by have:=HM.out;omega)] at heq;obtain⟨A9,c9,e9,hs9⟩:=SI.Jt J.out.own rfl (by unfold aF;omega) (fun x hx=>(J.out.ok x hx).step (HBw.out.Jp J.out.bel));refine⟨A9,_,c9,cs,cs.map (fun p=>(ar p).sp),by rw[<-e9];rfl,by rw[NU];exact PZ fun x _=>(GI (ar x)).symm,⟨by rw[heq];exact HMi.out.nf,fun a=>?_⟩,by omega,hs9,HBw.out.Jp J.out.bel⟩;rw[heq,HMi.out.mem];have hp2:=HPm.out.map (fun p=>(ar p).sp);rw[HIt.out] at hp2;refine(xL hp2).trans ?_;show dj ae a ((is.filter fun p=>(ar p).ne).map fun p=>(ar p).sp)↔dj ae a (((is.map ar).filter Iv.ne).map Iv.sp);rw[List.filter_map,NU];exact Iff.rfl
theorem nz.drew{wx:World}{v:Value}{n:Nat}{xs:List PI}{wr:World}(h:nz wx v n xs wr):nz wx v n xs wr.drew:=⟨h.own,h.bel.drew⟩
theorem yM(is js:List PI)(A B:Option Addr)(n c n' c':Nat)(w:World)(h:SI w A n c is)(h':SI w B n' c' js)(hn:n<=400000000)(hn':n'<=400000000):
 Calls prog 174 #[.slice A n c,.slice B n' c'] w (lY (fun a=>dj ae a (aT (is.map ar))\/dj ae a (aT (js.map ar))) (n+n') w):=by
 obtain⟨i0,hi0,hz0,hz1,hz2⟩:=Mc fE;have H:=qD h;have H':=qD h';have R1:=qD h.reads;have R2:=qD h'.reads;have N0:Hid (nz w (.slice none 0 0) 0 [] w):=qD ⟨bC _ _ _ _,LH _ _⟩;clear h h';go_enter func174,ntmps174;go_wp2_with (at_builtin;refine aD _ rfl _ _ 80 rfl w.heap.size 84 i0 (cR (((VC.zero,aC.zero),(VC.zero,aC.zero)),(false,false))) 12 168 Ma hi0 hz0 hz1 hz2 rfl (by decide) (.slice none 0 0) 0 (aJ ax []) rfl N0.out.own _ _ n _ (aJ ax is) rfl R1.out ?c1 (by unfold maxLen;omega) (by omega) (qL) ?_)
 case c1=>exact fM _
 intro v1 w1 ho1 hg1 _;have N1:Hid (nz w v1 n ([]++is) w1):=qD (N0.out.next rfl (by omega) ho1 hg1);clear ho1 hg1;have hw1:=N1.out.bel.size;go_wp2_with (at_builtin;refine aD _ rfl _ _ 80 rfl w.heap.size 84 i0 (cR (((VC.zero,aC.zero),(VC.zero,aC.zero)),(false,false))) 12 168 Ma hi0 hz0 hz1 hz2 rfl (by decide) v1 n (aJ ax ([]++is)) rfl N1.out.own _ _ n' _ (aJ ax js) rfl (R2.out.below N1.out.bel) ?c1 (by unfold maxLen;omega) (by omega) hw1 ?_)
 case c1=>exact fM _
 intro v2 w2 ho2 hg2 _;have N2:Hid (nz w v2 (n+n') ([]++is++js) w2):=qD (N1.out.next rfl rfl ho2 hg2);clear ho2 hg2
 obtain⟨A2,c2,rfl,hs⟩:=SI.Jt (xs:=is++js) N2.out.own (by rw[LM,<-H.out.sr.ln,<-H'.out.sr.ln]) (by unfold aF;omega) (fun x hx=>by
  rcases LY.1 hx with hx|hx
  ·exact(H.out.ok x hx).step N2.out.bel
  ·exact(H'.out.ok x hx).step N2.out.bel)
 have HS:=qD hs;have Z2:=qD N2.out.bel;clear hs N0 N1 N2 hw1;go_wp2_with fail;refine(eY (is++js) A2 (n+n') c2 _ HS.out (by omega)).mono ?_;rintro e w3 ⟨A3,m3,c3,ys,q,rfl,he,hn3,hm3,hs3,hb3⟩;have HE:=qD he
 have HN:Hid (fg (fun a=>dj ae a (aT (is.map ar))\/dj ae a (aT (js.map ar))) q):=⟨hn3.1,fun a=>by
  rw[hn3.2 a,Lc,mF]
  exact gM⟩
 have HM:=qD hm3;have HS3:=qD hs3;have Z3:=qD (Z2.out.Jp hb3);clear he hn3 hm3 hs3 hb3;go_wp2_with fail;go_ret;exact⟨A3,m3,c3,ys,q,rfl,HE.out,HN.out,HM.out,HS3.out,Z3.out⟩
def yN(p:PV):PI:=((p,p),(true,true))
section
variable {w1 w2:World} {g:Nat} {n:List (cA×cA)} {j:Nat} {v:Value} {gs:List PI} {f:PC} {wr w':World}
end
structure Gm(l:List ByteArray)(p:ao)(w:World)(i m:Nat)(v:Value)(b:Bool)(xs:List PI)(wr:World):Prop where
 own:wr.ownsRow w.heap.size 84 12 v m (aJ ax xs)
 ln:xs.length=m
 le:m<=ao.sz.szL (p.kids.take i)
 fr:∀x∈xs,RV (fun b=>w.heap.size<=b/\v.ownBlock≠some b) wr x.1.1.1 x.1.1.2/\RV (fun b=>w.heap.size<=b/\v.ownBlock≠some b) wr x.1.2.1 x.1.2.2
 set:∀a,dj ae a (aT (xs.map ar))↔∃r∈(p.kids.take i).map (dE l),r.1 a
 no:∀r∈(p.kids.take i).map (dE l),dd r.1=false
 ex:b=((p.kids.take i).map (dE l)).all fun r=>r.2
 bel:Below w.heap.size w wr
theorem Gm.step{l:List ByteArray}{p:ao}{w:World}{i m:Nat}{v:Value}{b:Bool}{xs:List PI}{wr w':World}(h:Gm l p w i m v b xs wr)(hb:Below wr.heap.size wr w'):Gm l p w i m v b xs w':=
 ⟨aV h.own hb,h.ln,h.le,fun x hx=>⟨(h.fr x hx).1.step hb,(h.fr x hx).2.step hb⟩,h.set,h.no,h.ex,h.bel.Jp hb⟩
theorem pZ{S:cA->Prop}{ys:List PI}{nf:List (cA×cA)}(hy:ys.map ar=nf.map dr)(hn:fg S nf)(a:cA):dj ae a (aT (ys.map ar))↔S a:=by
 rw[hy,Cb fun s hs=>hn.1.ne s hs,hn.2 a]
theorem rf{lo:Nat}{v v':Value}{w3 w4:World}{c:VC}{x:aC}(hr:RV (fun b=>lo<=b/\v.ownBlock≠some b) w3 c x)(hg:w3.grownBy w4 v.ownBlock)(hat:v'.ownBlock=v.ownBlock\/v'.ownBlock=some w3.heap.size):
 RV (fun b=>lo<=b/\v'.ownBlock≠some b) w4 c x:=hr.Jv fun b hb hl=>by
 refine⟨⟨hb.1,fun e=>?_⟩,hg.block b hl (fun e=>hb.2 e.symm)⟩;rcases hat with h|h
 ·rw[h] at e;exact hb.2 e
 ·rw[h] at e;injection e with e;omega
theorem Gm.next{l:List ByteArray}{p k:ao}{w:World}{i m m3:Nat}{v v':Value}{b b':Bool}{xs ys:List PI}{nf:List (cA×cA)}{w5 w6:World}(h:Gm l p w i m v b xs w5)(hk:p.kids[i]?=some k)(hy:ys.map ar=nf.map dr)(hn:fg (dE l k).1 nf)(h3:ys.length=m3)(hm:m3<=k.sz)(hfr:∀y∈ys,RV (fun b=>w.heap.size<=b/\v.ownBlock≠some b) w5 y.1.1.1 y.1.1.2/\RV (fun b=>w.heap.size<=b/\v.ownBlock≠some b) w5 y.1.2.1 y.1.2.2)(hall:dd (dE l k).1=false)(hb':b'=(b&&(dE l k).2))(ho:w6.ownsRow w.heap.size 84 12 v' (m+m3) (aJ ax xs++aJ ax ys))(hg:w5.grownBy w6 v.ownBlock)(hat:v'.ownBlock=v.ownBlock\/v'.ownBlock=some w5.heap.size):Gm l p w (i+1) (m+m3) v' b' (xs++ys) w6:=by
 have tk:p.kids.take (i+1)=p.kids.take i++[k]:=by rw[MW,hk];rfl
 refine⟨by rw[eQ];exact ho,by rw[LM,h.ln,h3],by rw[pG _ _ hk];have:=h.le;omega,fun x hx=>?_,fun a=>?_,fun r hr=>?_,?_,h.bel.grown hg h.bel.size (bU h.own)⟩
 ·have hx':RV (fun b=>w.heap.size<=b/\v.ownBlock≠some b) w5 x.1.1.1 x.1.1.2/\RV (fun b=>w.heap.size<=b/\v.ownBlock≠some b) w5 x.1.2.1 x.1.2.2:=by
   rcases LY.1 hx with hx|hx
   ·exact h.fr x hx
   ·exact hfr x hx
  exact⟨rf hx'.1 hg hat,rf hx'.2 hg hat⟩
 ·rw[Lc,mF,gM,h.set a,pZ hy hn a,tk,Lc];constructor
  ·rintro(⟨r,hr,ha⟩|ha)
   ·exact⟨r,OT _ hr,ha⟩
   ·exact⟨dE l k,by simp,ha⟩
  ·rintro⟨r,hr,ha⟩;rcases LY.1 hr with hr|hr
   ·exact .inl ⟨r,hr,ha⟩
   ·obtain rfl:r=dE l k:=by simpa using hr
    exact .inr ha
 ·rw[tk,Lc] at hr;rcases LY.1 hr with hr|hr
  ·exact h.no r hr
  ·obtain rfl:r=dE l k:=by simpa using hr
   exact hall
 ·rw[hb',h.ex,tk,Lc,OK];simp
theorem yO(xs:List PI):∀u∈aJ ax xs,u.oneCell'=true:=by
 intro u hu;obtain⟨p,_,h⟩:=OU.1 hu;exact fD p u h
theorem AB{rs:List iH}{r:iH}(h:r∈rs)(ha:dd r.1=true):xm rs=(dV,false):=by
 unfold xm;rw[LZ (OD.2 ⟨r,h,ha⟩)]
theorem vV{rs:List iH}(h:∀r∈rs,dd r.1=false):xm rs=(fun a=>∃r∈rs,r.1 a,rs.all fun r=>r.2):=by
 unfold xm;rw[LU];intro k;obtain⟨r,hr,ha⟩:=OD.1 k;rw[h r hr] at ha;exact absurd ha (by decide)
theorem DR(p:ao)(ih:∀k∈p.kids,xt k)(A:Option Addr)(n c:Nat)(l:List ByteArray)(w:World)(hw:WP w p)(hk:∀k∈p.kids,od k)(hT:cg w)(hl:ST w A n c l)(hz:p.sz<=300000000)(hne:p.kids≠[]):
 Calls prog 91 #[am p,.slice A n c] w (dO (xm (p.kids.map (dE l))) p.sz w):=by
 obtain⟨j0,hj0,hy0,hy1,hy2⟩:=Mc fE;have HT:=qD hT;have W:=qD hw.open;have HL:=qD hl
 have IH:Hid (∀k∈p.kids,∀wr,Below w.heap.size w wr->Calls prog 36 #[am k,.slice A n c] wr (dO (dE l k) k.sz wr)):=qD fun k hkm wr hb=>by
  have hs:k.sz<=p.sz:=by rw[p.Jx];have:=nG hkm;omega
  exact ih k hkm A n c l wr ((W.out.kids k hkm).step hb) (hk k hkm) (HT.out.step hb) (HL.out.step hb) (by omega)
 have hkz:p.kn<=140737488355328:=by have:=W.out.ksz;unfold aF at this;omega
 have HKN:=qD W.out.sr.ln;have HSZ:Hid (ao.sz.szL p.kids+1<=p.sz):=by rw[Hid,p.Jx];omega
 have HZ:=qD hz
 have hk0:0<p.kn:=by
  have:=W.out.sr.ln;have h0:0<p.kids.length:=List.length_pos_iff.2 hne;omega
 clear hw hk hT hl hz ih hne;have B0:Hid (aE (w.alloc (.cells (aH p) 38)) w.heap.size 38 (aH p)):=aE.Jq rfl;have BE:=qD ((LH w.heap.size w).alloc (qL) (Obj.cells (aH p) 38));go_enter func91,ntmps91;go_upto_region 1 with fail
 change Code.wp _ _ _ _ (w.alloc (.cells (aH p) 38));generalize w.alloc (.cells (aH p) 38)=wa at*;obtain⟨_,_,_,_,_,_,_,d24⟩:=aS B0.out;have h1b:((p.kn:Int)==0)=false:=by simp;omega
 clear hk0;go_upto_region 6 with fail
 go_loopw [6,7,9,10,11,20] (fun v6 v7 _ _ _ v wr=>∃(i m:Nat) (b:Bool) (xs:List PI),i<=p.kn/\v=.int .i64 i/\v7=.bool b/\Gm l p w i m v6 b xs wr) (fun _ _ _ _ _ v _=>p.kn-(intOf v).toNat)
 case atStart=>
  refine⟨0,0,true,[],LQ _,rfl,rfl,bC _ _ _ _,rfl,LQ _,by simp,fun a=>?_,by simp,rfl,BE.out⟩;constructor
  ·rintro⟨s,hs,_⟩;simp[aT] at hs
  ·rintro⟨r,hr,_⟩;simp at hr
 case round=>
  obtain⟨i,m,bx,xs,hi,rfl,rfl,hI⟩:=hrel;clear B0 BE d24;have HI:=qD hI;obtain⟨A6,c6,rfl,hmc⟩:=aa hI.own
  have HM:Hid (m+1<=p.sz):=by
   have h1:=hI.le;have h2:=ic p.kids i;have h3:=HSZ.out;exact qD (by omega)
  clear hI;by_cases hlt:i<p.kn
  ·obtain⟨b,off,k,hA,hb,hx,hm,hrg⟩:=W.out.sr.row hlt;have RG:=qD (bi hrg HI.out.bel hb);have HX:=qD hx;have HMK:=qD hm
   have HMZ:Hid (m+k.sz<=300000000):=by
    have h1:=HI.out.le;have h2:=ic p.kids (i+1);rw[pG _ _ hx] at h2;have h3:=HSZ.out;have h4:=HZ.out;exact qD (by omega)
   have i0:(0:Int)<=(i:Int):=by omega
   have i1:(i:Int)<(p.kn:Int):=by omega
   rw[hA];clear hrg hx hm hA
   go_upto_region 8 with(first
    | ((with_reducible show wpList _ _ _ (⟨_,.load 38 _,_,_,_,_⟩::_) _ _);refine aG rfl 38 _ rfl b (off+i*25) rfl _ _ RG.out Ly rfl (by kernel_rfl) ?_)
    | ((with_reducible show wpList _ _ _ (⟨_,.store 38 _ _,_,_,_,_⟩::_) _ _);refine MF rfl 38 _ _ rfl wr.heap.size (aH k) rfl rfl 38 _ (aE.Jq rfl) (by kernel_rfl) rfl (rX k) ?_;refine bY ?_;intro w4 hw4;have JB:Hid (aE w4 wr.heap.size 38 (aH k)):=(by rw[Hid,hw4];exact bq (aE.Jq rfl) _);have BW4:Hid (Below wr.heap.size wr w4):=(by rw[Hid,hw4];exact br ((LH _ _).alloc (qL) _) (qL) _);clear hw4 RG))
   replace HI:=qD (HI.out.step BW4.out);generalize wr.heap.size=gk at*;have RJ:=qD (dy JB.out);clear JB BW4
   go_upto_region 9 with(first
    | ((with_reducible show wpList _ _ _ (⟨_,.load 38 _,_,_,_,_⟩::_) _ _);refine aG rfl 38 _ rfl gk 0 rfl _ _ RJ.out Ly rfl (by kernel_rfl) ?_)
    | (go_at_call 36;refine(IH.out k HMK.out _ HI.out.bel).mono ?_;rintro e w5 ⟨A3,m3,c3,ys,nf,rfl,hy,hnf,hmk,hsi,hb3,hfr⟩;have HY:=qD hy;have HNF:=qD hnf;have HM3:=qD hmk;have HSI:=qD hsi;have HB5:=qD hb3;have HFR:=qD hfr;clear hy hnf hmk hsi hb3 hfr RJ))
   have HOL:Hid (∀g,(Value.slice A6 m c6).ownBlock=some g->g<w4.heap.size):=qD fun g hg=>ej HI.out.own hg;have HW4:Hid (w.heap.size<=w4.heap.size):=qD HI.out.bel.size;replace HI:=qD (HI.out.step HB5.out);obtain⟨ab,hab⟩:∃b,b=dd (dE l k).1:=⟨_,rfl⟩;have HIA:=qD (rV ys A3 m3 c3 w5 HSI.out HY.out HNF.out);rw[<-hab] at HIA;have HAB:=qD hab;clear hab;go_wp2_with fail;refine HIA.out.mono ?_;rintro e w6 ⟨rfl,hb6⟩;replace HI:=qD (HI.out.step hb6);have HSI6:=qD (HSI.out.step hb6)
   have HFR6:Hid (∀y∈ys,RV (fun b=>w.heap.size<=b/\(Value.slice A6 m c6).ownBlock≠some b) w6 y.1.1.1 y.1.1.2/\RV (fun b=>w.heap.size<=b/\(Value.slice A6 m c6).ownBlock≠some b) w6 y.1.2.1 y.1.2.2):=qD fun y hy=>by
    have key:∀q,w4.heap.size<=q->w.heap.size<=q/\(Value.slice A6 m c6).ownBlock≠some q:=fun q hq=>⟨Lt HW4.out hq,fun e=>by have:=HOL.out q e;omega⟩;exact⟨((HFR.out y hy).1.step hb6).mono key,((HFR.out y hy).2.step hb6).mono key⟩
   clear hb6 HIA HSI HFR HOL HW4 HB5;cases ab
   ·have hml:ys.length=m3:=HSI6.out.sr.ln.symm;have HML:=qD hml;have HRD:=qD HSI6.out.reads;have hm3:m3<=k.sz:=HM3.out;have hmz:=HMZ.out;have z1:m+m3<=maxLen:=by unfold maxLen;omega
    have z2:(m+m3)*168<=140737488355328:=by omega
    clear hml;cases bx
    all_goals
     go_wp2_with (at_builtin;refine aD _ rfl _ _ 80 rfl w.heap.size 84 j0 (cR (((VC.zero,aC.zero),(VC.zero,aC.zero)),(false,false))) 12 168 Ma hj0 hy0 hy1 hy2 rfl (by decide) (.slice A6 m c6) m (aJ ax xs) rfl HI.out.own _ _ m3 _ (aJ ax ys) rfl HRD.out ?c1 z1 z2 HI.out.bel.size ?_)
     case c1=>exact yO _
     intro v7 w7 hown hgr hat
    ·have HN:=qD (HI.out.next (b':=false) HX.out HY.out HNF.out HML.out hm3 HFR6.out HAB.out.symm (QO _).symm hown hgr hat);clear hown hgr hat;go_wp2_with fail;go_roundw
     ·exact⟨i+1,m+m3,_,_,by omega,by go_num,rfl,HN.out⟩
     ·simp[intOf];omega
    ·have HN:=qD (HI.out.next (b':=(dE l k).2) HX.out HY.out HNF.out HML.out hm3 HFR6.out HAB.out.symm (QC _).symm hown hgr hat);clear hown hgr hat;go_wp2_with fail;go_roundw
     ·exact⟨i+1,m+m3,_,_,by omega,by go_num,rfl,HN.out⟩
     ·simp[intOf];omega
   ·have HE:Hid (xm (p.kids.map (dE l))=(dV,false)):=qD (AB (MT HMK.out) HAB.out.symm);go_wp2_with fail;refine(fZ w6).mono ?_;rintro e w3 ⟨A9,m9,c9,zs,nf9,rfl,hy,hnf,hmk,hsi,hb3,hfr⟩;have HNO:=qD (show dO (dV,false) 1 w6 (.returned (.tuple #[.slice A9 m9 c9,.bool false])) w3 from⟨A9,m9,c9,zs,nf9,rfl,hy,hnf,hmk,hsi,hb3,hfr⟩);clear hy hnf hmk hsi hb3 hfr;go_wp2_with fail;go_ret2;rw[HE.out];exact HNO.out.up HI.out.bel (by have:=HSZ.out;omega)
  ·obtain rfl:i=p.kn:=by omega
   have HTK:p.kids.take p.kn=p.kids:=LS (by have:=HKN.out;omega)
   have HE:Hid (xm (p.kids.map (dE l))=(fun a=>dj ae a (aT (xs.map ar)),bx)):=by
    have h1:=HI.out.no;have h2:=HI.out.set;have h3:=HI.out.ex;rw[HTK] at h1 h2 h3;rw[Hid,vV h1,<-h3];exact congrArg (fun s=>(s,bx)) (funext fun a=>propext (h2 a).symm)
   obtain⟨A7,c7,e7,hs7⟩:=SI.Jt HI.out.own HI.out.ln (by have h4:=HZ.out;have h5:=HM.out;unfold aF;omega) (fun x hx=>⟨(HI.out.fr x hx).1.mono fun _ _=>trivial,(HI.out.fr x hx).2.mono fun _ _=>trivial⟩);injection e7 with e7a _ e7c
   subst e7a e7c;have HSI:=qD hs7;have HMZ:Hid (m<=1000000000):=qD (by have h4:=HZ.out;have h5:=HM.out;omega);have BE:=qD HI.out.bel;clear hs7 HI HTK;go_wp2_with fail;refine(dt xs _ m _ wr (HT.out.step BE.out) HSI.out HMZ.out).mono ?_;rintro e w3 ⟨A9,m9,c9,zs,nf9,rfl,hy,hnf,hmk,hsi,hb3,hfr⟩;have HNO:=qD (show dO (fun a=>dj ae a (aT (xs.map ar)),bx) m wr (.returned (.tuple #[.slice A9 m9 c9,.bool bx])) w3 from⟨A9,m9,c9,zs,nf9,rfl,hy,hnf,hmk,hsi,hb3,hfr⟩);clear hy hnf hmk hsi hb3 hfr;go_wp2_with fail;go_ret2;rw[HE.out];exact HNO.out.up BE.out (by have:=HM.out;omega)
theorem pa(w:World):Calls prog 95 #[.int .i64 6] w fun e w'=>e=.returned (.tuple #[cR zI,.bool false])/\Below w.heap.size w w':=by
 go_enter func95,ntmps95;have B0:Hid (aE ((w.alloc (.cells (aM zI) 84)).alloc (.cells (aM (((cu 6 0 empty,iZ 6),(cu 6 0 empty,iZ 6)),(true,true))) 84)) w.heap.size 84 (aM zI)):=(aE.Jq rfl).alloc _;have BE:Hid (Below w.heap.size w ((w.alloc (.cells (aM zI) 84)).alloc (.cells (aM (((cu 6 0 empty,iZ 6),(cu 6 0 empty,iZ 6)),(true,true))) 84))):=((LH _ _).alloc (qL) _).alloc (by simp) _;go_upto_region 2 with fail
 change Code.wp _ _ _ _ ((w.alloc (.cells (aM zI) 84)).alloc (.cells (aM (((cu 6 0 empty,iZ 6),(cu 6 0 empty,iZ 6)),(true,true))) 84));generalize ((w.alloc (.cells (aM zI) 84)).alloc (.cells (aM (((cu 6 0 empty,iZ 6),(cu 6 0 empty,iZ 6)),(true,true))) 84))=wa at*;have hmk:=Cy wa;have hcv:=Cz wa;go_upto_region 3 with fail
 change Code.wp _ _ _ _ ((wa.alloc (.cells di 5)).alloc (.cells (cu 8 0 cZ).arr 29));replace B0:=qD ((B0.out.alloc (.cells di 5)).alloc (.cells (cu 8 0 cZ).arr 29));replace BE:=qD ((BE.out.alloc BE.out.size (.cells di 5)).alloc (by have:=BE.out.size;simp;omega) (Obj.cells (cu 8 0 cZ).arr 29));clear hmk hcv;generalize ((wa.alloc (.cells di 5)).alloc (.cells (cu 8 0 cZ).arr 29))=wb at*;have HALL:Hid ((aM zI).all (·.oneCell')=true):=by rw[Hid];simp[Value.oneCell']
 go_wp2_with ((with_reducible show wpList _ _ _ (⟨_,.store 84 _ _,_,_,_,_⟩::_) _ _);refine MF rfl 84 _ _ rfl w.heap.size (aM zI) rfl rfl 84 _ B0.out (by kernel_rfl) rfl HALL.out ?_);exact Lp (cf rfl _ _ rfl _ rfl _ (aM zI) rfl (bq B0.out (aM zI))) rfl ⟨rfl,br BE.out (qL) _⟩
theorem Gn(p:ao)(ih:∀k∈p.kids,xt k)(h:p.op=20):xt p:=by
 intro A n c l w hw hv hT hl hz;rw[tL h];have HA:Hid (∀wr,Below w.heap.size w wr->Calls prog 90 #[am p,.slice A n c] wr (dO (lg (p.kids.map (dE l))) p.sz wr)):=qD fun wr hb=>As p ih A n c l wr (hw.step hb) (hv.open.kids (.inl h)) (hT.step hb) (hl.step hb) hz;clear hw hv hT hl hz ih;obtain⟨r,hr⟩:∃r,r=lg (p.kids.map (dE l)):=⟨_,rfl⟩;rw[<-hr] at HA ⊢;clear hr;have B0:Hid (aE (w.alloc (.cells (aH p) 38)) w.heap.size 38 (aH p)):=aE.Jq rfl;have BE:=qD ((LH w.heap.size w).alloc (qL) (Obj.cells (aH p) 38));go_enter No,Ni;go_upto_region 1 with fail
 change Code.wp _ _ _ _ (w.alloc (.cells (aH p) 38));generalize w.alloc (.cells (aH p) 38)=wa at*;obtain⟨d0,d1,_,_,_,_,_,_⟩:=aS B0.out;rw[h] at d0;have RG:=qD (dy B0.out);go_wp2_with ((with_reducible show wpList _ _ _ (⟨_,.load 38 _,_,_,_,_⟩::_) _ _);refine aG rfl 38 _ rfl w.heap.size 0 rfl _ _ RG.out Ly rfl (by kernel_rfl) ?_);refine(HA.out _ BE.out).mono ?_;rintro e w1 ⟨A3,m3,c3,ys,nf,rfl,hy,hnf,hmk,hsi,hb3,hfr⟩;have HNO:=qD (show dO r p.sz wa (.returned (.tuple #[.slice A3 m3 c3,.bool r.2])) w1 from⟨A3,m3,c3,ys,nf,rfl,hy,hnf,hmk,hsi,hb3,hfr⟩);clear hy hnf hmk hsi hb3 hfr;go_wp2_with fail;go_ret2;exact HNO.out.up BE.out (qL)
theorem IL(p:ao)(ih:∀k∈p.kids,xt k)(h:p.op=21):xt p:=by
 intro A n c l w hw hv hT hl hz;rw[xo h];have HA:Hid (∀wr,Below w.heap.size w wr->Calls prog 91 #[am p,.slice A n c] wr (dO (xm (p.kids.map (dE l))) p.sz wr)):=qD fun wr hb=>DR p ih A n c l wr (hw.step hb) (hv.open.kids (.inr h)) (hT.step hb) (hl.step hb) hz (hv.open.ne (.inr h));clear hw hv hT hl hz ih;obtain⟨r,hr⟩:∃r,r=xm (p.kids.map (dE l)):=⟨_,rfl⟩;rw[<-hr] at HA ⊢;clear hr;have B0:Hid (aE (w.alloc (.cells (aH p) 38)) w.heap.size 38 (aH p)):=aE.Jq rfl;have BE:=qD ((LH w.heap.size w).alloc (qL) (Obj.cells (aH p) 38));go_enter No,Ni;go_upto_region 1 with fail
 change Code.wp _ _ _ _ (w.alloc (.cells (aH p) 38));generalize w.alloc (.cells (aH p) 38)=wa at*;obtain⟨d0,d1,_,_,_,_,_,_⟩:=aS B0.out;rw[h] at d0;have RG:=qD (dy B0.out);go_wp2_with ((with_reducible show wpList _ _ _ (⟨_,.load 38 _,_,_,_,_⟩::_) _ _);refine aG rfl 38 _ rfl w.heap.size 0 rfl _ _ RG.out Ly rfl (by kernel_rfl) ?_);refine(HA.out _ BE.out).mono ?_;rintro e w1 ⟨A3,m3,c3,ys,nf,rfl,hy,hnf,hmk,hsi,hb3,hfr⟩;have HNO:=qD (show dO r p.sz wa (.returned (.tuple #[.slice A3 m3 c3,.bool r.2])) w1 from⟨A3,m3,c3,ys,nf,rfl,hy,hnf,hmk,hsi,hb3,hfr⟩);clear hy hnf hmk hsi hb3 hfr;go_wp2_with fail;go_ret2;exact HNO.out.up BE.out (qL)
theorem ee{l m:List ByteArray}:ah l m=true↔l=m:=by
 induction l generalizing m with
 | nil=>cases m<;>simp[ah]
 | cons x r ih=>
  cases m with
  | nil=>simp[ah]
  | cons y s=>
   rw[ah,ME,ih,Ml,Ns];constructor
   ·rintro⟨h1,h2⟩;exact⟨Mw (Mq.1 (by rw[MD,MD] at h1;exact h1)),h2⟩
   ·rintro⟨rfl,rfl⟩;exact⟨rfl,rfl⟩
theorem FS(p:ao)(h:p.op≠20)(h':p.op≠21)(A:Option Addr)(n c:Nat)(l:List ByteArray)(w:World)(hw:WP w p)(hl:ST w A n c l)(hp:p.path.xs≠l):
 Calls prog 36 #[am p,.slice A n c] w (dO (dV,false) p.sz w):=by
 have HE:Hid (∀wr,Below w.heap.size w wr->Calls prog 92 #[.slice p.path.A p.path.n p.path.c,.slice A n c] wr fun e w'=>e=.returned (.bool (ah p.path.xs l))/\Below wr.heap.size wr w'):=qD fun wr hb=>eG p.path.xs l p.path.A A p.path.n p.path.c n c wr (hw.open.path.step hb) (hl.step hb)
 have hs:ah p.path.xs l=false:=by
  rw[<-Bool.not_eq_true,ee];exact hp
 rw[hs] at HE;have HSZ:Hid (1<=p.sz):=by rw[Hid,p.Jx];omega
 clear hw hl hs hp;have B0:Hid (aE (w.alloc (.cells (aH p) 38)) w.heap.size 38 (aH p)):=aE.Jq rfl;have BE:=qD ((LH w.heap.size w).alloc (qL) (Obj.cells (aH p) 38));go_enter No,Ni;go_upto_region 1 with fail
 change Code.wp _ _ _ _ (w.alloc (.cells (aH p) 38));generalize w.alloc (.cells (aH p) 38)=wa at*;obtain⟨d0,d1,_,_,_,_,_,_⟩:=aS B0.out;have g20:(p.op==20)=false:=by simpa using h
 have g21:(p.op==21)=false:=by simpa using h'
 clear h h';go_wp2_with fail;refine(HE.out _ BE.out).mono ?_;rintro e w1 ⟨rfl,hb⟩;replace BE:=qD (BE.out.Jp hb);clear hb d0 d1 HE B0;go_wp2_with fail;refine(fZ _).mono ?_;rintro e w2 ⟨A3,m3,c3,ys,nf,rfl,hy,hnf,hmk,hsi,hb3,hfr⟩;have HNO:=qD (show dO (dV,false) 1 w1 (.returned (.tuple #[.slice A3 m3 c3,.bool false])) w2 from⟨A3,m3,c3,ys,nf,rfl,hy,hnf,hmk,hsi,hb3,hfr⟩);clear hy hnf hmk hsi hb3 hfr;go_wp2_with fail;go_ret2;exact HNO.out.up BE.out HSZ.out
theorem IM(p:ao)(h:p.op=8)(A:Option Addr)(n c:Nat)(l:List ByteArray)(w:World)(hw:WP w p)(hl:ST w A n c l)(hp:p.path.xs=l)(r:iH)(hr:∀wr,Below w.heap.size w wr->Calls prog 98 #[am p] wr (dO r p.sz wr)):
 Calls prog 36 #[am p,.slice A n c] w (dO r p.sz w):=by
 have HE:Hid (∀wr,Below w.heap.size w wr->Calls prog 92 #[.slice p.path.A p.path.n p.path.c,.slice A n c] wr fun e w'=>e=.returned (.bool (ah p.path.xs l))/\Below wr.heap.size wr w'):=qD fun wr hb=>eG p.path.xs l p.path.A A p.path.n p.path.c n c wr (hw.open.path.step hb) (hl.step hb);rw[ee.2 hp] at HE;have HA:=qD hr;clear hw hl hp hr;have B0:Hid (aE (w.alloc (.cells (aH p) 38)) w.heap.size 38 (aH p)):=aE.Jq rfl;have BE:=qD ((LH w.heap.size w).alloc (qL) (Obj.cells (aH p) 38));go_enter No,Ni;go_upto_region 1 with fail
 change Code.wp _ _ _ _ (w.alloc (.cells (aH p) 38));generalize w.alloc (.cells (aH p) 38)=wa at*;obtain⟨d0,d1,_,_,_,_,_,_⟩:=aS B0.out;rw[h] at d0;go_wp2_with fail;refine(HE.out _ BE.out).mono ?_;rintro e w1 ⟨rfl,hb⟩;replace BE:=qD (BE.out.Jp hb);replace B0:=qD (B0.out.step hb);clear hb d0 d1 HE;obtain⟨d0,_,_,_,_,_,_,_⟩:=aS B0.out;rw[h] at d0;have RG:=qD (dy B0.out);go_wp2_with ((with_reducible show wpList _ _ _ (⟨_,.load 38 _,_,_,_,_⟩::_) _ _);refine aG rfl 38 _ rfl w.heap.size 0 rfl _ _ RG.out Ly rfl (by kernel_rfl) ?_);refine(HA.out _ BE.out).mono ?_;rintro e w2 ⟨A3,m3,c3,ys,nf,rfl,hy,hnf,hmk,hsi,hb3,hfr⟩;have HNO:=qD (show dO r p.sz w1 (.returned (.tuple #[.slice A3 m3 c3,.bool r.2])) w2 from⟨A3,m3,c3,ys,nf,rfl,hy,hnf,hmk,hsi,hb3,hfr⟩);clear hy hnf hmk hsi hb3 hfr;go_wp2_with fail;go_ret2;exact HNO.out.up BE.out (qL)
theorem Gp(p:ao)(h:p.op=16)(A:Option Addr)(n c:Nat)(l:List ByteArray)(w:World)(hw:WP w p)(hl:ST w A n c l)(hp:p.path.xs=l)(r:iH)(hr:∀wr,Below w.heap.size w wr->Calls prog 99 #[am p] wr (dO r p.sz wr)):
 Calls prog 36 #[am p,.slice A n c] w (dO r p.sz w):=by
 have HE:Hid (∀wr,Below w.heap.size w wr->Calls prog 92 #[.slice p.path.A p.path.n p.path.c,.slice A n c] wr fun e w'=>e=.returned (.bool (ah p.path.xs l))/\Below wr.heap.size wr w'):=qD fun wr hb=>eG p.path.xs l p.path.A A p.path.n p.path.c n c wr (hw.open.path.step hb) (hl.step hb);rw[ee.2 hp] at HE;have HA:=qD hr;clear hw hl hp hr;have B0:Hid (aE (w.alloc (.cells (aH p) 38)) w.heap.size 38 (aH p)):=aE.Jq rfl;have BE:=qD ((LH w.heap.size w).alloc (qL) (Obj.cells (aH p) 38));go_enter No,Ni;go_upto_region 1 with fail
 change Code.wp _ _ _ _ (w.alloc (.cells (aH p) 38));generalize w.alloc (.cells (aH p) 38)=wa at*;obtain⟨d0,d1,_,_,_,_,_,_⟩:=aS B0.out;rw[h] at d0;go_wp2_with fail;refine(HE.out _ BE.out).mono ?_;rintro e w1 ⟨rfl,hb⟩;replace BE:=qD (BE.out.Jp hb);replace B0:=qD (B0.out.step hb);clear hb d0 d1 HE;obtain⟨d0,_,_,_,_,_,_,_⟩:=aS B0.out;rw[h] at d0;have RG:=qD (dy B0.out);go_wp2_with ((with_reducible show wpList _ _ _ (⟨_,.load 38 _,_,_,_,_⟩::_) _ _);refine aG rfl 38 _ rfl w.heap.size 0 rfl _ _ RG.out Ly rfl (by kernel_rfl) ?_);refine(HA.out _ BE.out).mono ?_;rintro e w2 ⟨A3,m3,c3,ys,nf,rfl,hy,hnf,hmk,hsi,hb3,hfr⟩;have HNO:=qD (show dO r p.sz w1 (.returned (.tuple #[.slice A3 m3 c3,.bool r.2])) w2 from⟨A3,m3,c3,ys,nf,rfl,hy,hnf,hmk,hsi,hb3,hfr⟩);clear hy hnf hmk hsi hb3 hfr;go_wp2_with fail;go_ret2;exact HNO.out.up BE.out (qL)
theorem DS(p:ao)(h:p.op≠20/\p.op≠21/\p.op≠2/\p.op≠4/\p.op≠5/\p.op≠6/\p.op≠7/\p.op≠8/\p.op≠16/\p.op≠11)(A:Option Addr)(n c:Nat)(l:List ByteArray)(w:World)(hw:WP w p)(hl:ST w A n c l)(hp:p.path.xs=l):
 Calls prog 36 #[am p,.slice A n c] w (dO (dV,false) p.sz w):=by
 have HE:Hid (∀wr,Below w.heap.size w wr->Calls prog 92 #[.slice p.path.A p.path.n p.path.c,.slice A n c] wr fun e w'=>e=.returned (.bool (ah p.path.xs l))/\Below wr.heap.size wr w'):=qD fun wr hb=>eG p.path.xs l p.path.A A p.path.n p.path.c n c wr (hw.open.path.step hb) (hl.step hb);rw[ee.2 hp] at HE;have HSZ:Hid (1<=p.sz):=by rw[Hid,p.Jx];omega
 clear hw hl hp;have B0:Hid (aE (w.alloc (.cells (aH p) 38)) w.heap.size 38 (aH p)):=aE.Jq rfl;have BE:=qD ((LH w.heap.size w).alloc (qL) (Obj.cells (aH p) 38));go_enter No,Ni;go_upto_region 1 with fail
 change Code.wp _ _ _ _ (w.alloc (.cells (aH p) 38));generalize w.alloc (.cells (aH p) 38)=wa at*;obtain⟨d0,d1,_,_,_,_,_,_⟩:=aS B0.out;obtain⟨h1,h2,h3,h4,h5,h6,h7,h8,h9,h10⟩:=h;have g1:(p.op==20)=false:=by simpa using h1
 have g2:(p.op==21)=false:=by simpa using h2
 have g3:(p.op==2)=false:=by simpa using h3
 have g4:(p.op==4)=false:=by simpa using h4
 have g5:(p.op==5)=false:=by simpa using h5
 have g6:(p.op==6)=false:=by simpa using h6
 have g7:(p.op==7)=false:=by simpa using h7
 have g8:(p.op==8)=false:=by simpa using h8
 have g9:(p.op==16)=false:=by simpa using h9
 have g10:(p.op==11)=false:=by simpa using h10
 clear h1 h2 h3 h4 h5 h6 h7 h8 h9 h10;go_wp2_with fail;refine(HE.out _ BE.out).mono ?_;rintro e w1 ⟨rfl,hb⟩;replace BE:=qD (BE.out.Jp hb);replace B0:=qD (B0.out.step hb);clear hb d0 d1 HE;obtain⟨d0,_,_,_,_,_,_,_⟩:=aS B0.out;go_wp2_with fail;refine(fZ _).mono ?_;rintro e w2 ⟨A3,m3,c3,ys,nf,rfl,hy,hnf,hmk,hsi,hb3,hfr⟩;have HNO:=qD (show dO (dV,false) 1 w1 (.returned (.tuple #[.slice A3 m3 c3,.bool false])) w2 from⟨A3,m3,c3,ys,nf,rfl,hy,hnf,hmk,hsi,hb3,hfr⟩);clear hy hnf hmk hsi hb3 hfr;go_wp2_with fail;go_ret2;exact HNO.out.up BE.out HSZ.out
end Go.Proofs.YthfahkaadbdicaaGreatDoor
