/- A part of the proof. -/
import Derived.Test.YtgfoliedmhgpnaaGreatDoorCn1
import Derived.Laws.BytesArg
import Derived.Laws.Strings
set_option maxRecDepth 100000
set_option maxHeartbeats 16000000
open Go.Proofs.Tryz
open ByteArray (empty)
namespace Go.Proofs.YtgfoliedmhgpnaaGreatDoor
structure tR{α:Type}(cm:α->α->Int)(V:α->Prop):Prop where
 anti:∀x y,cm y x=-cm x y
 tr:∀x y z,TR (cm x y) (cm y z) (cm x z)
 eq:∀x y,V x->V y->cm x y=0->x=y
section
variable {m c S:Nat} {e t:TypeId} {P:Program} {a x y:Int} {l:List ByteArray} {s:ByteArray} {ha:Bool}
section
variable {α:Type} {cm:α->α->Int} {V:α->Prop}
theorem tR.NI(H:tR cm V)(x:α):cm x x=0:=by have:=H.anti x x;omega
def ei(cm:α->α->Int)(a:α)(l:List (α×α)):Prop:=∃s∈l,cm s.1 a<=0/\cm a s.2<0
theorem kU(a:α):¬ei cm a []:=by rintro⟨s,hs,_⟩;simp at hs
theorem dv{a:α}{s:α×α}{l:List (α×α)}:ei cm a (s::l)↔(cm s.1 a<=0/\cm a s.2<0)\/ei cm a l:=by
 constructor
 ·rintro⟨t,ht,h⟩;rcases PB.1 ht with rfl|ht
  ·exact .inl h
  ·exact .inr ⟨t,ht,h⟩
 ·rintro(h|⟨t,ht,h⟩)
  ·exact⟨s,by simp,h⟩
  ·exact⟨t,by simp[ht],h⟩
theorem iN{a:α}{l m:List (α×α)}:ei cm a (l++m)↔ei cm a l\/ei cm a m:=by
 induction l with
 | nil=>simp only[PG];exact⟨.inr,fun h=>h.resolve_left (kU a)⟩
 | cons s r ih=>rw[Of,dv,dv,ih,or_assoc]
theorem oF{a:α}{s:α×α}:ei cm a [s]↔(cm s.1 a<=0/\cm a s.2<0):=by rw[dv];exact⟨fun h=>h.resolve_right (kU a),.inl⟩
theorem Ep{a:α}{l m:List (α×α)}(h:l.Perm m):ei cm a l↔ei cm a m:=by
 constructor
 ·rintro⟨s,hs,k⟩;exact⟨s,h.subset hs,k⟩
 ·rintro⟨s,hs,k⟩;exact⟨s,h.symm.subset hs,k⟩
structure NF(cm:α->α->Int)(V:α->Prop)(l:List (α×α)):Prop where
 ne:∀s∈l,cm s.1 s.2<0/\V s.1/\V s.2
 ord:l.Pairwise fun s t=>cm s.2 t.1<0
theorem NF.nil:NF cm V []:=⟨fun s hs=>by simp at hs,.nil⟩
theorem NF.tail{s:α×α}{l:List (α×α)}(h:NF cm V (s::l)):NF cm V l:=⟨fun t ht=>h.ne t (by simp[ht]),List.Pairwise.of_cons h.ord⟩
theorem NF.head{s:α×α}{l:List (α×α)}(h:NF cm V (s::l)){t:α×α}(ht:t∈l):cm s.2 t.1<0:=List.rel_of_pairwise_cons h.ord ht
theorem Cp(H:tR cm V):∀{l m:List (α×α)},NF cm V l->NF cm V m->(∀a,V a->(ei cm a l↔ei cm a m))->l=m:=by
 intro l
 induction l with
 | nil=>
  intro m _ hm h;cases m with
  | nil=>rfl
  | cons t q=>
   have ht:=hm.ne t sM;exact absurd ((h t.1 ht.2.1).2 (dv.2 (.inl ⟨by rw[H.NI];omega,ht.1⟩))) (kU _)
 | cons s r ih=>
  intro m hl hm h;cases m with
  | nil=>
   have hs:=hl.ne s sM;exact absurd ((h s.1 hs.2.1).1 (dv.2 (.inl ⟨by rw[H.NI];omega,hs.1⟩))) (kU _)
  | cons t q=>
   have hs:=hl.ne s sM;have ht:=hm.ne t sM
   have low:∀{s t:α×α} {r q:List (α×α)},NF cm V (s::r)->NF cm V (t::q)->(ei cm s.1 (s::r)->ei cm s.1 (t::q))->cm t.1 s.1<=0:=by
    intro s t r q hl hm h;have hs:=hl.ne s sM;rcases dv.1 (h (dv.2 (.inl ⟨by rw[H.NI];omega,hs.1⟩))) with k|⟨u,hu,k⟩
    ·exact k.1
    ·have h1:=hm.head hu;have h2:=(hm.ne t sM).1;have h3:=H.tr t.1 t.2 u.1 oM oM;have h4:=H.tr t.1 u.1 s.1 oM oM;omega
   have e1:s.1=t.1:=by
    have a1:=low hl hm (h s.1 hs.2.1).1;have a2:=low hm hl (h t.1 ht.2.1).2;have:=H.anti s.1 t.1;exact H.eq _ _ hs.2.1 ht.2.1 oM
   have up:∀{s t:α×α} {r q:List (α×α)},s.1=t.1->NF cm V (s::r)->(ei cm s.2 (t::q)->ei cm s.2 (s::r))->¬cm s.2 t.2<0:=by
    intro s t r q e hl h hlt;have hs:=hl.ne s sM;have:=h (dv.2 (.inl ⟨by rw[<-e];omega,hlt⟩));rcases dv.1 this with k|⟨u,hu,k⟩
    ·have:=H.NI s.2;omega
    ·have h1:=hl.head hu;have:=H.anti s.2 u.1;omega
   have e2:s.2=t.2:=by
    have a1:=up e1 hl (h s.2 hs.2.2).2;have a2:=up e1.symm hm (h t.2 ht.2.2).1;have:=H.anti s.2 t.2;exact H.eq _ _ hs.2.2 ht.2.2 oM
   obtain rfl:s=t:=Prod.ext e1 e2;congr 1;refine ih hl.tail hm.tail fun a ha=>?_
   have half:∀{r q:List (α×α)},NF cm V (s::r)->(ei cm a (s::r)->ei cm a (s::q))->ei cm a r->ei cm a q:=by
    intro r q hl h hr;rcases dv.1 (h (dv.2 (.inr hr))) with k|k
    ·obtain⟨u,hu,k2⟩:=hr;have h1:=hl.head hu;have h2:=H.tr s.2 u.1 a oM k2.1;have:=H.anti a s.2;omega
    ·exact k
   exact⟨half hl (h a ha).1,half hm (h a ha).2⟩
def fA(cm:α->α->Int)(c:List (α×α))(s:α×α):List (α×α):=
 match c.getLast? with
 | none=>c++[s]
 | some l=>if cm l.2 s.1<0 then c++[s] else if cm l.2 s.2<0 then c.dropLast++[(l.1,s.2)] else c
def gL(cm:α->α->Int)(l:List (α×α)):List (α×α):=l.foldl (fA cm) []
theorem jJ(l:List (α×α))(s:α×α):gL cm (l++[s])=fA cm (gL cm l) s:=by unfold gL;rw[Sw];rfl
structure MI(cm:α->α->Int)(V:α->Prop)(P c:List (α×α)):Prop where
 nf:NF cm V c
 mem:∀a,ei cm a c↔ei cm a P
 len:c.length<=P.length
 low:∀l∈c,∃p∈P,l.1=p.1
theorem qE{β:Type}{R:β->β->Prop}{l:List β}{a:β}:(l++[a]).Pairwise R↔l.Pairwise R/\∀x∈l,R x a:=by
 rw[Oi];constructor
 ·rintro⟨h1,_,h3⟩;exact⟨h1,fun x hx=>h3 x hx a sM⟩
 ·rintro⟨h1,h2⟩;exact⟨h1,by simp,fun x hx y hy=>by simp at hy;subst hy;exact h2 x hx⟩
theorem MI.step(H:tR cm V){P c:List (α×α)}{s:α×α}(h:MI cm V P c)(hs:cm s.1 s.2<0/\V s.1/\V s.2)(hlo:∀p∈P,cm p.1 s.1<=0):MI cm V (P++[s]) (fA cm c s):=by
 rcases QT c with rfl|⟨d,l,rfl⟩
 ·have e:fA cm [] s=[s]:=rfl;rw[e];refine⟨⟨fun t ht=>by simp at ht;subst ht;exact hs,by simp⟩,fun a=>?_,by simp,fun t ht=>⟨s,by simp,by simp at ht;rw[ht]⟩⟩;rw[iN];exact⟨.inr,fun k=>k.resolve_left fun hp=>kU a ((h.mem a).2 hp)⟩
 ·rw[QG] at h ⊢;have hlen:=h.len;simp only[OK,OZ,QN] at hlen;have hl:=h.nf.ne l sM;obtain⟨hd,hdl⟩:=qE.1 h.nf.ord
  have hls:cm l.1 s.1<=0:=by
   obtain⟨p,hp,e⟩:=h.low l sM;rw[e];exact hlo p hp
  have e0:(d++[l]).getLast?=some l:=by simp
  unfold fA;rw[e0];simp only;by_cases h1:cm l.2 s.1<0
  ·rw[OW h1];refine⟨⟨fun t ht=>?_,qE.2 ⟨h.nf.ord,fun t ht=>?_⟩⟩,fun a=>?_,by simp;omega,fun t ht=>?_⟩
   ·rcases OP.1 ht with ht|ht
    ·exact h.nf.ne t ht
    ·simp at ht;subst ht;exact hs
   ·rcases OP.1 ht with ht|ht
    ·have a1:=hdl t ht;have a2:=H.tr t.2 l.1 l.2 oM oM;have a3:=H.tr t.2 l.2 s.1 oM oM;omega
    ·simp at ht;subst ht;exact h1
   ·rw[iN (l:=d++[l]),iN (l:=P),h.mem]
   ·rcases OP.1 ht with ht|ht
    ·obtain⟨p,hp,e⟩:=h.low t ht;exact⟨p,by simp[hp],e⟩
    ·simp at ht;subst ht;exact⟨t,by simp,rfl⟩
  ·rw[OQ h1];by_cases h2:cm l.2 s.2<0
   ·rw[OW h2,Rk];refine⟨⟨fun t ht=>?_,qE.2 ⟨hd,hdl⟩⟩,fun a=>?_,by simp;omega,fun t ht=>?_⟩
    ·rcases OP.1 ht with ht|ht
     ·exact h.nf.ne t (by simp[ht])
     ·simp at ht;subst ht;have:=H.tr l.1 l.2 s.2 oM oM;exact⟨by show cm l.1 s.2<0;omega,hl.2.1,hs.2.2⟩
    ·rw[iN (l:=d),iN (l:=P),<-h.mem,iN (l:=d),or_assoc];apply or_congr Iff.rfl;rw[oF,oF,oF];simp only;constructor
     ·rintro⟨k1,k2⟩;by_cases k3:cm a l.2<0
      ·exact .inl ⟨k1,k3⟩
      ·have:=H.anti a l.2;have:=H.anti l.2 s.1;have:=H.tr s.1 l.2 a oM oM;exact .inr ⟨by omega,k2⟩
     ·rintro(⟨k1,k2⟩|⟨k1,k2⟩)
      ·have:=H.tr a l.2 s.2 oM oM;exact⟨k1,by omega⟩
      ·have:=H.tr l.1 s.1 a hls k1;exact⟨by omega,k2⟩
    ·rcases OP.1 ht with ht|ht
     ·obtain⟨p,hp,e⟩:=h.low t (by simp[ht]);exact⟨p,by simp[hp],e⟩
     ·simp at ht;subst ht;obtain⟨p,hp,e⟩:=h.low l sM;exact⟨p,by simp[hp],e⟩
   ·rw[OQ h2];refine⟨h.nf,fun a=>?_,by simp;omega,fun t ht=>?_⟩
    ·rw[iN (l:=P),<-h.mem];refine⟨.inl,fun k=>k.elim id fun k=>?_⟩;rw[oF] at k;rw[iN,oF];have:=H.tr l.1 s.1 a hls k.1;have:=H.anti s.2 l.2;have:=H.tr a s.2 l.2 oM oM;exact .inr ⟨by omega,by omega⟩
    ·obtain⟨p,hp,e⟩:=h.low t ht;exact⟨p,by simp[hp],e⟩
theorem Cq(H:tR cm V){l:List (α×α)}(hne:∀s∈l,cm s.1 s.2<0/\V s.1/\V s.2)(hs:l.Pairwise fun s t=>cm s.1 t.1<=0):MI cm V l (gL cm l):=by
 have key:∀i,i<=l.length->MI cm V (l.take i) (gL cm (l.take i)):=by
  intro i
  induction i with
  | zero=>intro _;exact⟨NF.nil,fun a=>Iff.rfl,by simp[gL],fun t ht=>by simp[gL] at ht⟩
  | succ i ih=>
   intro hi;have hx:l[i]?=some l[i]:=OH oM;rw[take_snoc' hx,jJ];refine(ih oM).step H (hne _ (Pw _)) fun p hp=>?_
   have h2:(l.take i++[l[i]]).Pairwise fun s t=>cm s.1 t.1<=0:=by
    rw[<-take_snoc' hx];exact hs.sublist (List.take_sublist _ _)
   exact(qE.1 h2).2 p hp
 have:=key l.length (qL)
 rwa [Rq] at this
theorem Cr(c:List (α×α))(s:α×α):(fA cm c s).length<=c.length+1:=by
 unfold fA;split
 ·simp
 ·split
  ·simp
  ·split
   ·simp
   ·omega
theorem zJ(l:List (α×α)):(gL cm l).length<=l.length:=by
 have:∀c:List (α×α),(l.foldl (fA cm) c).length<=c.length+l.length:=by
  induction l with
  | nil=>intro c;simp
  | cons s r ih=>
   intro c;have h1:=ih (fA cm c s);have h2:=Cr (cm:=cm) c s;simp only[List.foldl_cons,OZ];omega
 simpa[gL] using this []
end
section
variable {α:Type} {cm:α->α->Int} {V:α->Prop}
def zK(cm:α->α->Int)(V:α->Prop)(S:α->Prop)(a:α):Prop:=S a/\∀c,V c->cm c a<0->∃d,V d/\cm c d<=0/\cm d a<0/\¬S d
def yO(cm:α->α->Int)(V:α->Prop)(S:α->Prop)(a:α):Prop:=¬S a/\(∃c,V c/\cm c a<0)/\∀c,V c->cm c a<0->∃d,V d/\cm c d<=0/\cm d a<0/\S d
theorem zK.congr{S T:α->Prop}{a:α}(h:zK cm V S a)(ha:V a)(e:∀a,V a->(S a↔T a)):zK cm V T a:=
 ⟨(e a ha).1 h.1,fun c hc hl=>by
  obtain⟨d,h1,h2,h3,h4⟩:=h.2 c hc hl
  exact⟨d,h1,h2,h3,fun k=>h4 ((e d h1).2 k)⟩⟩
theorem yO.congr{S T:α->Prop}{a:α}(h:yO cm V S a)(ha:V a)(e:∀a,V a->(S a↔T a)):yO cm V T a:=
 ⟨fun k=>h.1 ((e a ha).2 k),h.2.1,fun c hc hl=>by
  obtain⟨d,h1,h2,h3,h4⟩:=h.2.2 c hc hl
  exact⟨d,h1,h2,h3,(e d h1).1 h4⟩⟩
theorem zK.or{S T:α->Prop}{a:α}(h:zK cm V (fun a=>S a\/T a) a):zK cm V S a\/zK cm V T a:=by
 rcases h.1 with k|k
 ·exact .inl ⟨k,fun c hc hl=>by
   obtain⟨d,h1,h2,h3,h4⟩:=h.2 c hc hl
   exact⟨d,h1,h2,h3,fun k=>h4 (.inl k)⟩⟩
 ·exact .inr ⟨k,fun c hc hl=>by
   obtain⟨d,h1,h2,h3,h4⟩:=h.2 c hc hl
   exact⟨d,h1,h2,h3,fun k=>h4 (.inr k)⟩⟩
theorem tR.le(H:tR cm V){x y z:α}(h1:cm x y<=0)(h2:cm y z<=0):cm x z<=0:=by have:=H.tr x y z;unfold TR at this;omega
theorem tR.NL(H:tR cm V){x y z:α}(h1:cm x y<0)(h2:cm y z<=0):cm x z<0:=by have:=H.tr x y z;unfold TR at this;omega
theorem tR.Nc(H:tR cm V){x y z:α}(h1:cm x y<=0)(h2:cm y z<0):cm x z<0:=by have:=H.tr x y z;unfold TR at this;omega
theorem yO.or(H:tR cm V){S T:α->Prop}{a:α}(h:yO cm V (fun a=>S a\/T a) a):yO cm V S a\/yO cm V T a:=by
 obtain⟨h0,hc0,h1⟩:=h;by_cases k:yO cm V S a
 ·exact .inl k
 ·refine .inr ⟨fun x=>h0 (.inr x),hc0,fun c hc hl=>?_⟩;have k':∃c1,V c1/\cm c1 a<0/\∀d,V d->cm c1 d<=0->cm d a<0->¬S d:=Su fun n=>k ⟨fun x=>h0 (.inl x),hc0,fun c hc hl=>Su fun m=>n ⟨c,hc,hl,fun d d1 d2 d3 d4=>m ⟨d,d1,d2,d3,d4⟩⟩⟩;obtain⟨c1,v1,l1,n1⟩:=k';by_cases hcc:cm c c1<=0
  ·obtain⟨d,d1,d2,d3,d4⟩:=h1 c1 v1 l1;exact⟨d,d1,H.le hcc d2,d3,d4.resolve_left (n1 d d1 d2 d3)⟩
  ·have ha:=H.anti c c1;obtain⟨d,d1,d2,d3,d4⟩:=h1 c hc hl;exact⟨d,d1,d2,d3,d4.resolve_left (n1 d d1 (H.le oM d2) d3)⟩
theorem zK.span(H:tR cm V){s:α×α}{a:α}(h1:V s.1)(ha:V a)(h:zK cm V (fun a=>cm s.1 a<=0/\cm a s.2<0) a):a=s.1:=by
 obtain⟨⟨k1,k2⟩,k3⟩:=h;by_cases hl:cm s.1 a<0
 ·obtain⟨d,d1,d2,d3,d4⟩:=k3 s.1 h1 hl;exact absurd ⟨d2,H.NL d3 oM⟩ d4
 ·have:=H.anti s.1 a;exact H.eq a s.1 ha h1 oM
theorem yO.span(H:tR cm V){s:α×α}{a:α}(h2:V s.2)(ha:V a)(h:yO cm V (fun a=>cm s.1 a<=0/\cm a s.2<0) a):a=s.2:=by
 obtain⟨k1,⟨c,c1,c2⟩,k3⟩:=h;obtain⟨d,d1,d2,d3,d4,d5⟩:=k3 c c1 c2;have hsa:cm s.1 a<=0:=by have:=H.Nc d4 d3;omega
 have hna:¬cm a s.2<0:=fun k=>k1 ⟨hsa,k⟩;have an:=H.anti a s.2;by_cases hl:cm s.2 a<0
 ·obtain⟨e,e1,e2,e3,e4,e5⟩:=k3 s.2 h2 hl;have:=H.anti s.2 e;omega
 ·exact H.eq a s.2 ha h2 oM
theorem zK.mem(H:tR cm V):∀{l:List (α×α)} {a:α},(∀s∈l,V s.1/\V s.2)->V a->zK cm V (fun a=>ei cm a l) a->∃s∈l,a=s.1
 | [],a,_,_,h=>absurd h.1 (kU a)
 | s::r,a,hv,ha,h=>by
  rcases(h.congr ha fun a _=>dv).or with h|h
  ·exact⟨s,by simp,h.span H (hv s sM).1 ha⟩
  ·obtain⟨t,ht,e⟩:=zK.mem H (fun t ht=>hv t (by simp[ht])) ha h;exact⟨t,by simp[ht],e⟩
theorem yO.mem(H:tR cm V):∀{l:List (α×α)} {a:α},(∀s∈l,V s.1/\V s.2)->V a->yO cm V (fun a=>ei cm a l) a->∃s∈l,a=s.2
 | [],a,_,_,h=>by
  obtain⟨_,⟨c,c1,c2⟩,h3⟩:=h;obtain⟨d,_,_,_,d4⟩:=h3 c c1 c2;exact absurd d4 (kU d)
 | s::r,a,hv,ha,h=>by
  rcases(h.congr ha fun a _=>dv).or H with h|h
  ·exact⟨s,by simp,h.span H (hv s sM).2 ha⟩
  ·obtain⟨t,ht,e⟩:=yO.mem H (fun t ht=>hv t (by simp[ht])) ha h;exact⟨t,by simp[ht],e⟩
theorem NF.three{l:List (α×α)}(h:NF cm V l){s t:α×α}(hs:s∈l)(ht:t∈l):s=t\/cm s.2 t.1<0\/cm t.2 s.1<0:=by
 obtain⟨i,hi,rfl⟩:=Sg.1 hs;obtain⟨j,hj,rfl⟩:=Sg.1 ht;rcases RL i j with k|k|k
 ·exact .inr (.inl (RC.1 h.ord i j hi hj k))
 ·subst k;exact .inl rfl
 ·exact .inr (.inr (RC.1 h.ord j i hj hi k))
theorem NF.stop(H:tR cm V){l:List (α×α)}(h:NF cm V l){s:α×α}(hs:s∈l):¬ei cm s.2 l:=by
 rintro⟨u,hu,k1,k2⟩;have ne:=(h.ne u hu).1;have ns:=(h.ne s hs).1;rcases h.three hs hu with e|e|e
 ·subst e;have:=H.NI s.2;omega
 ·have:=H.NL e k1;have:=H.NI s.2;omega
 ·have a1:=H.NL k2 (show cm u.2 s.1<=0 by omega);have a2:=H.NL a1 (show cm s.1 s.2<=0 by omega);have:=H.NI s.2;omega
theorem NF.lo(H:tR cm V){l:List (α×α)}(h:NF cm V l){s:α×α}(hs:s∈l):zK cm V (fun a=>ei cm a l) s.1:=by
 have ns:=h.ne s hs;refine⟨⟨s,hs,by rw[H.NI];omega,ns.1⟩,fun c hc hl=>?_⟩;by_cases k:ei cm c l
 ·obtain⟨t,ht,k1,k2⟩:=k;have nt:=h.ne t ht;rcases h.three hs ht with e|e|e
  ·subst e;have:=H.anti s.1 c;omega
  ·have a1:=H.NL hl (show cm s.1 s.2<=0 by omega);have a2:=H.NL a1 (show cm s.2 t.1<=0 by omega);have:=H.anti t.1 c;omega
  ·exact⟨t.2,nt.2.2,by omega,e,h.stop H ht⟩
 ·exact⟨c,hc,by rw[H.NI];omega,hl,k⟩
theorem NF.hi(H:tR cm V){l:List (α×α)}(h:NF cm V l){s:α×α}(hs:s∈l):yO cm V (fun a=>ei cm a l) s.2:=by
 have ns:=h.ne s hs;refine⟨h.stop H hs,⟨s.1,ns.2.1,ns.1⟩,fun c hc hl=>?_⟩;by_cases k:cm s.1 c<=0
 ·exact⟨c,hc,by rw[H.NI];omega,hl,s,hs,k,hl⟩
 ·have:=H.anti s.1 c;exact⟨s.1,ns.2.1,by omega,ns.1,s,hs,by rw[H.NI];omega,ns.1⟩
end
end
open Go.RowKit
section
variable {k b n g o i b' off size:Nat} {w w':World} {t:TypeId} {v:Value}
def oG(w:World)(g:Nat)(t:TypeId)(n:Nat):Prop:=∃cs,aG w g t cs/\cs.size=n
section
variable {w w':World} {g:Nat} {t:TypeId} {n:Nat}
theorem oG.lt(h:oG w g t n):g<w.heap.size:=by obtain⟨cs,hb,_⟩:=h;exact hb.lt
theorem oG.step(h:oG w g t n)(hb:Bl w w'):oG w' g t n:=by obtain⟨cs,h1,h2⟩:=h;exact⟨cs,h1.step hb,h2⟩
theorem oG.alloc(h:oG w g t n)(o:Obj):oG (w.alloc o) g t n:=by obtain⟨cs,h1,h2⟩:=h;exact⟨cs,h1.alloc o,h2⟩
theorem oG.set(h:oG w g t n)(b off:Nat)(u:Value):oG (w.setCell ⟨b,off,none⟩ u) g t n:=by
 obtain⟨cs,h1,h2⟩:=h;by_cases hp:g=b
 ·subst hp;exact⟨cs.setIfInBounds off u,h1.Mo off u,by simpa using h2⟩
 ·exact⟨cs,h1.Mu hp u,h2⟩
theorem oG.putV(h:oG w g t n)(b off:Nat)(v:VC):oG (bM w b off v) g t n:=((((h.set _ _ _).set _ _ _).set _ _ _).set _ _ _).set _ _ _
theorem oG.frozen(h:oG w g t n)(i:Nat):w.frozen? ⟨g,i,none⟩=false:=by obtain⟨cs,h1,_⟩:=h;exact h1.frozen i
theorem oG.cell(h:oG w g t n)(hi:i<n):∃v,w.cell? ⟨g,i,none⟩=some v:=by
 obtain⟨cs,h1,h2⟩:=h;rw[h1.cell,RH oM];exact⟨_,rfl⟩
theorem oG.same(h:oG w g t n)(hb:w'.heap[g]?=w.heap[g]?):oG w' g t n:=by obtain⟨cs,h1,h2⟩:=h;exact⟨cs,hb.trans h1,h2⟩
end
theorem kV{o':Nat}(h:b≠b'\/o≠o'):(⟨b,o,none⟩:Addr)≠⟨b',o',none⟩:=by
 intro e;injection e with e1 e2
 omega
theorem dl{v:VC}(h:b'≠b\/o<off\/off+5<=o):(bM w b off v).cell? ⟨b',o,none⟩=w.cell? ⟨b',o,none⟩:=by
 unfold bM;rw[Px _ _ _ _ (kV oM),Px _ _ _ _ (kV oM),Px _ _ _ _ (kV oM),Px _ _ _ _ (kV oM),Px _ _ _ _ (kV oM)]
theorem aO.Na{v u:VC}(h:aO w b' o u)(hne:b'≠b\/o+5<=off\/off+5<=o):aO (bM w b off v) b' o u:=by
 obtain⟨h0,h1,h2,h3,h4⟩:=h;exact⟨(dl oM).trans h0,(dl oM).trans h1,(dl oM).trans h2,(dl oM).trans h3,(dl oM).trans h4⟩
theorem aO.NV{v:VC}(h:∀k,k<5->∃u,w.cell? ⟨b,off+k,none⟩=some u):aO (bM w b off v) b off v:=by
 obtain⟨u0,h0⟩:=h 0 oM;obtain⟨u1,h1⟩:=h 1 oM;obtain⟨u2,h2⟩:=h 2 oM;obtain⟨u3,h3⟩:=h 3 oM;obtain⟨u4,h4⟩:=h 4 oM;have o:∀{W:World} {x y:Nat} {z:Value},x≠y->(W.setCell ⟨b,x,none⟩ z).cell? ⟨b,y,none⟩=W.cell? ⟨b,y,none⟩:=fun hne=>Px _ _ _ _ (kV (.inr hne));unfold bM;refine⟨?_,?_,?_,?_,?_⟩
 ·rw[o oM,o oM,o oM,o oM];exact QV _ _ _ h0
 ·rw[o oM,o oM,o oM];exact QV _ _ _ ((o oM).trans h1)
 ·rw[o oM,o oM];exact QV _ _ _ ((o oM).trans ((o oM).trans h2))
 ·rw[o oM];exact QV _ _ _ ((o oM).trans ((o oM).trans ((o oM).trans h3)))
 ·exact QV _ _ _ ((o oM).trans ((o oM).trans ((o oM).trans ((o oM).trans h4))))
theorem bC{v:VC}(h:g≠b):(bM w b off v).heap[g]?=w.heap[g]?:=by
 unfold bM;rw[PQ _ _ _ _ h,PQ _ _ _ _ h,PQ _ _ _ _ h,PQ _ _ _ _ h,PQ _ _ _ _ h]
end
structure Cl(lo mid:Nat)(w:World)(c:VC)(x:aC):Prop where
 k:c.k=x.k
 n:c.n=x.n
 t:c.t=x.t
 tsz:x.t.size<=aF
 ln:c.ln=x.l.length
 lc:c.lc=c.ln
 lsz:c.ln*80<=aF
 l0:c.ln=0->c.LA=none
 la:0<c.ln->∃g,c.LA=some ⟨g,0,none⟩/\lo<=g/\g<mid/\oG w g 29 (c.ln*5)/\∀(i:Nat) (y:aC),x.l[i]?=some y->∃e,aO w g (i*5) e/\RV (fun b=>g<b/\b<mid) w e y
 hmid:lo<=mid
 dn:c.dn=x.d.length
 dc:c.dc=c.dn
 dsz:c.dn*96<=aF
 d0:c.dn=0->c.DA=none
 da:0<c.dn->∃g,c.DA=some ⟨g,0,none⟩/\mid<=g/\oG w g 77 (c.dn*6)/\∀(i:Nat) (f:bf),x.d[i]?=some f->w.cell? ⟨g,i*6,none⟩=some (.string f.s)/\f.s.size<=aF/\∃e,aO w g (i*6+1) e/\RV (fun b=>g<b) w e f.v
section
variable {b n i lo c size mid:Nat} {w:World} {e t:TypeId} {P:Program} {x:Int}
theorem Cl.rv{c:VC}{x:aC}(h:Cl lo mid w c x):RV (fun b=>lo<=b) w c x:=by
 refine pw.shut ⟨h.k,h.n,h.t,h.tsz,h.ln,by have:=h.lc;omega,h.lsz,fun h'=>?_,h.dn,by have:=h.dc;omega,h.dsz,fun h'=>?_⟩
 ·obtain⟨g,e,h1,h2,hrow,hl⟩:=h.la h';refine⟨g,0,e,⟨h1,fun _=>hrow.frozen⟩,fun i y hi=>?_⟩;obtain⟨u,hu,hr⟩:=hl i y hi;exact⟨u,by rw[OX];exact hu,hr.mono fun b hb=>by omega⟩
 ·obtain⟨g,e,h1,hrow,hl⟩:=h.da h';have hm:=h.hmid;refine⟨g,0,e,⟨by omega,fun _=>hrow.frozen⟩,fun i y hi=>?_⟩;obtain⟨hs,hz,u,hu,hr⟩:=hl i y hi;exact⟨by rw[OX];exact hs,hz,u,by rw[OX];exact hu,hr.mono fun b hb=>by omega⟩
def BP(w:World)(x:aC)(e:Ending)(w':World):Prop:=∃(c:VC) (mid:Nat),e=.returned c.val/\Cl w.heap.size mid w' c x/\Bl w w'
theorem dB:(Tryz.prog.info? 29).map (fun i=>(i.zero,i.size,i.bytes))=some (some VC.zero.val,5,80):=kR
theorem kW:(Tryz.prog.info? 77).map (fun i=>(i.zero,i.size,i.bytes))=some (some (.agg (#[.string empty]++VC.zero.arr)),6,96):=kR
theorem fG(t e:TypeId)(i:TypeInfo)(z:Value)(ht:P.underlying t=some (.slice e))(hi:P.info? e=some i)(hz:i.zero=some z)(n:Nat)(hbytes:i.bytes*n<=281474976710656)(h63:n<=9223372036854775807)(w:World):
  (Instr.makeSlice t (.int .i64 (n:Int)) (.int .i64 (n:Int))).run P w=.ok (.slice (some ⟨w.heap.size,0,none⟩) n n) (w.alloc (.cells (madeCells z.cells (n*i.size)) e)):=by
  have hb:(i.bytes:Int)*(n:Int)<=281474976710656:=by
   have h:((i.bytes*n:Nat):Int)<=281474976710656:=oM
   rwa [Int.natCast_mul] at h
  have hr:=run_make (P:=P) w t e i z ht hi hz .i64 .i64 n n oM oM hb oM;simp only[Int.toNat_natCast] at hr;exact hr
end
structure MH(w:World)(c:VC)(x:aC)(wx:World)(r:VC):Prop where
 b0:aG wx w.heap.size 29 c.arr
 b1:aG wx (w.heap.size+1) 29 VC.zero.arr
 b2:aG wx (w.heap.size+2) 29 r.arr
 bel:Bl w wx
 e:r.k=c.k/\r.n=c.n/\r.t=c.t/\r.DA=none/\r.dn=0/\r.dc=0/\r.ln=c.ln/\r.lc=c.ln
 l0:r.ln=0->r.LA=none
 la:0<r.ln->∃g,r.LA=some ⟨g,0,none⟩/\w.heap.size+3<=g/\oG wx g 29 (r.ln*5)/\∀(i:Nat) (y:aC),x.l[i]?=some y->∃e,aO wx g (i*5) e/\RV (fun b=>g<b) wx e y
end Go.Proofs.YtgfoliedmhgpnaaGreatDoor
namespace Go.RowKit
section
variable {n B:Nat} {w:World} {a:Int}
theorem Below.Mt{a:World}(h:Below B (a.drewN n) w):Below B a w:=⟨h.os,h.tape,h.output,h.size,h.block⟩
end
end Go.RowKit
namespace Go.Proofs.YtgfoliedmhgpnaaGreatDoor
open Go.RowKit
structure CL(w:World)(c:VC)(l:List aC)(i:Nat)(wx:World):Prop where
 b0:aG wx w.heap.size 29 c.arr
 b1:aG wx (w.heap.size+1) 29 VC.zero.arr
 b2:aG wx (w.heap.size+2) 29 (VC.arr ⟨c.k,c.n,c.t,some ⟨w.heap.size+3,0,none⟩,c.ln,c.ln,none,0,0⟩)
 row:oG wx (w.heap.size+3) 29 (c.ln*5)
 el:∀(j:Nat) (y:aC),j<i->l[j]?=some y->∃e,aO wx (w.heap.size+3) (j*5) e/\RV (fun b=>w.heap.size+3<b) wx e y
 bel:Bl w wx
section
variable {b g o i b' c ln off size:Nat} {w w' W wx:World} {x y:Int} {l:List ByteArray} {v:Value} {s:ByteArray} {F:Nat -> Prop}
theorem RV.Ml{c:VC}{x:aC}(h:RV (fun b=>F b/\b<W.heap.size) W c x)(hb:Bl W w'):RV F w' c x:=h.Mr fun b hF _=>⟨hF.1,hb.block b hF.2⟩
theorem CL.step{c:VC}{l:List aC}(h:CL w c l i wx)(hb:Bl wx w'):CL w c l i w':=
 ⟨h.b0.step hb,h.b1.step hb,h.b2.step hb,h.row.step hb,fun j y hj hy=>by obtain⟨e,h1,h2⟩:=h.el j y hj hy;exact⟨e,h1.step hb,h2.step hb⟩,h.bel.Ml hb⟩
theorem CL.next{c:VC}{l:List aC}{y:aC}{u:VC}(h:CL w c l i wx)(hi:i<c.ln)(hy:l[i]?=some y)(hu:RV (fun b=>w.heap.size+3<b) wx u y):
 CL w c l (i+1) (bM wx (w.heap.size+3) (i*5) u):=by
 have keep:∀{z:VC} {v:aC},RV (fun b=>w.heap.size+3<b) wx z v->RV (fun b=>w.heap.size+3<b) (bM wx (w.heap.size+3) (i*5) u) z v:=fun hr=>hr.keep fun b hb=>bC oM;refine⟨h.b0.My oM _ _,h.b1.My oM _ _,h.b2.My oM _ _,h.row.putV _ _ _,fun j z hj hz=>?_,aW h.bel oM _ _⟩;by_cases e:j=i
 ·subst e;obtain rfl:y=z:=by have:=hy.symm.trans hz;simpa using this
  exact⟨u,aO.NV fun q hq=>h.row.cell oM,keep hu⟩
 ·obtain⟨e',h1,h2⟩:=h.el j z oM hz;exact⟨e',h1.Na oM,keep h2⟩
theorem eM{v:VC}(h:b'≠b\/o<off\/off+6<=o):(bM (w.setCell ⟨b,off,none⟩ (.string s)) b (off+1) v).cell? ⟨b',o,none⟩=w.cell? ⟨b',o,none⟩:=by
 rw[dl oM,Px _ _ _ _ (kV oM)]
theorem aO.NO{v u:VC}(h:aO w b' o u)(hne:b'≠b\/o+5<=off\/off+6<=o):aO (bM (w.setCell ⟨b,off,none⟩ (.string s)) b (off+1) v) b' o u:=by
 obtain⟨h0,h1,h2,h3,h4⟩:=h;exact⟨(eM oM).trans h0,(eM oM).trans h1,(eM oM).trans h2,(eM oM).trans h3,(eM oM).trans h4⟩
theorem Cs{v:VC}(h:g≠b):(bM (w.setCell ⟨b,off,none⟩ (.string s)) b (off+1) v).heap[g]?=w.heap[g]?:=by
 rw[bC h,PQ _ _ _ _ h]
end
structure CD(w:World)(c r:VC)(gd:Nat)(l:List aC)(d:List bf)(i:Nat)(wx:World):Prop where
 b0:aG wx w.heap.size 29 c.arr
 b1:aG wx (w.heap.size+1) 29 VC.zero.arr
 b2:aG wx (w.heap.size+2) 29 (VC.arr ⟨r.k,r.n,r.t,r.LA,r.ln,r.lc,some ⟨gd,0,none⟩,c.dn,c.dn⟩)
 hgd:w.heap.size+3<=gd
 row:oG wx gd 77 (c.dn*6)
 la:0<r.ln->∃g,r.LA=some ⟨g,0,none⟩/\w.heap.size+3<=g/\g<gd/\oG wx g 29 (r.ln*5)/\∀(i:Nat) (y:aC),l[i]?=some y->∃e,aO wx g (i*5) e/\RV (fun b=>g<b/\b<gd) wx e y
 el:∀(j:Nat) (f:bf),j<i->d[j]?=some f->wx.cell? ⟨gd,j*6,none⟩=some (.string f.s)/\∃e,aO wx gd (j*6+1) e/\RV (fun b=>gd<b) wx e f.v
 bel:Bl w wx
section
variable {k b n i c ln dn lc size dc gd:Nat} {w w' wx wc:World} {t:TypeId} {cs:Array Value} {ck cn d:Int} {l r:List ByteArray} {v:Value} {s ct:ByteArray} {LA DA rLA:Option Addr}
theorem CD.step{c r:VC}{l:List aC}{d:List bf}(h:CD w c r gd l d i wx)(hb:Bl wx w'):CD w c r gd l d i w':=by
 refine⟨h.b0.step hb,h.b1.step hb,h.b2.step hb,h.hgd,h.row.step hb,fun hn=>?_,fun j f hj hf=>?_,h.bel.Ml hb⟩
 ·obtain⟨g,h1,h2,h3,h4,h5⟩:=h.la hn;refine⟨g,h1,h2,h3,h4.step hb,fun i y hi=>?_⟩;obtain⟨e,k1,k2⟩:=h5 i y hi;exact⟨e,k1.step hb,k2.step hb⟩
 ·obtain⟨h1,e,h2,h3⟩:=h.el j f hj hf;exact⟨(hb.cell (p:=⟨gd,j*6,none⟩) h.row.lt).trans h1,e,h2.step hb,h3.step hb⟩
theorem CD.next{c r:VC}{l:List aC}{d:List bf}{f:bf}{u:VC}(h:CD w c r gd l d i wx)(hi:i<c.dn)(hf:d[i]?=some f)(hu:RV (fun b=>gd<b) wx u f.v):
 CD w c r gd l d (i+1) (bM (wx.setCell ⟨gd,i*6,none⟩ (.string f.s)) gd (i*6+1) u):=by
 have hg:=h.hgd;have keep:∀{F:Nat->Prop} {z:VC} {v:aC},(∀b,F b->b≠gd)->RV F wx z v->RV F (bM (wx.setCell ⟨gd,i*6,none⟩ (.string f.s)) gd (i*6+1) u) z v:=fun hF hr=>hr.keep fun b hb=>Cs (hF b hb);refine⟨(h.b0.Mu (p:=⟨gd,i*6,none⟩) (by show w.heap.size≠gd;omega) _).My oM _ _,(h.b1.Mu (p:=⟨gd,i*6,none⟩) (by show w.heap.size+1≠gd;omega) _).My oM _ _,(h.b2.Mu (p:=⟨gd,i*6,none⟩) (by show w.heap.size+2≠gd;omega) _).My oM _ _,hg,(h.row.set _ _ _).putV _ _ _,fun hn=>?_,fun j z hj hz=>?_,aW (h.bel.setCell (p:=⟨gd,i*6,none⟩) (by show w.heap.size<=gd;omega) _) oM _ _⟩
 ·obtain⟨g,h1,h2,h3,h4,h5⟩:=h.la hn;refine⟨g,h1,h2,h3,(h4.set _ _ _).putV _ _ _,fun i y hi=>?_⟩;obtain⟨e,k1,k2⟩:=h5 i y hi;exact⟨e,k1.NO oM,keep (by intro b hb;omega) k2⟩
 ·by_cases e:j=i
  ·subst e;obtain rfl:f=z:=by have:=hf.symm.trans hz;simpa using this
   obtain⟨o,ho⟩:=h.row.cell (i:=j*6) oM;refine⟨?_,u,aO.NV fun q hq=>(h.row.set gd (j*6) (.string f.s)).cell oM,keep (by intro b hb;omega) hu⟩;rw[dl oM];exact QV _ _ _ ho
  ·obtain⟨h1,e',h2,h3⟩:=h.el j z oM hz;exact⟨(eM oM).trans h1,e',h2.NO oM,keep (by intro b hb;omega) h3⟩
theorem CD.start{k n:Int}{t:ByteArray}{l:List aC}{d:List bf}(h:MH w ⟨ck,cn,ct,LA,ln,lc,DA,dn,dc⟩ (.mk k n t l d) wc ⟨ck,cn,ct,rLA,ln,ln,none,0,0⟩):
 CD w ⟨ck,cn,ct,LA,ln,lc,DA,dn,dc⟩ ⟨ck,cn,ct,rLA,ln,ln,none,0,0⟩ wc.heap.size l d 0 ((wc.setCell ⟨w.heap.size+2,4,none⟩ (.slice (some ⟨wc.heap.size,0,none⟩) dn dn)).alloc (.cells (madeCells cs (dn*6)) 77)):=by
 have hlt:=h.b2.lt;have hsz:(wc.setCell ⟨w.heap.size+2,4,none⟩ (.slice (some ⟨wc.heap.size,0,none⟩) dn dn)).heap.size=wc.heap.size:=by simp[World.setCell]
 refine⟨(h.b0.Mu (p:=⟨w.heap.size+2,4,none⟩) (by show w.heap.size≠w.heap.size+2;omega) _).alloc _,(h.b1.Mu (p:=⟨w.heap.size+2,4,none⟩) (by show w.heap.size+1≠w.heap.size+2;omega) _).alloc _,(h.b2.Mo 4 _).alloc _,by omega,⟨_,aG.Mm hsz.symm,size_madeCells _ _⟩,fun hn=>?_,fun j f hj=>by omega,?_⟩
 ·obtain⟨g,h1,h2,h3,h4⟩:=h.la hn;refine⟨g,h1,h2,h3.lt,(h3.set _ _ _).alloc _,fun i y hi=>?_⟩;obtain⟨e,k1,k2⟩:=h4 i y hi
  have hk:∀q,q<wc.heap.size->q≠w.heap.size+2->((wc.setCell ⟨w.heap.size+2,4,none⟩ (.slice (some ⟨wc.heap.size,0,none⟩) dn dn)).alloc (.cells (madeCells cs (dn*6)) 77)).heap[q]?=wc.heap[q]?:=fun q hq hne=>by
   rw[Qs _ _ _ (by rw[hsz];exact hq),PQ _ _ _ _ hne]
  refine⟨e,k1.keep (hk g h3.lt oM),k2.lt.Mr fun q hq _=>⟨hq,hk q hq.2 oM⟩⟩
 ·exact(h.bel.setCell (p:=⟨w.heap.size+2,4,none⟩) (by show w.heap.size<=w.heap.size+2;omega) _).alloc (by rw[hsz];exact h.bel.size) _
end
structure CE(w:World)(x:aC)(r:VC)(mid:Nat)(wx:World):Prop where
 b1:aG wx (w.heap.size+1) 29 VC.zero.arr
 b2:aG wx (w.heap.size+2) 29 r.arr
 cl:Cl (w.heap.size+3) mid wx r x
 bel:Bl w wx
section
variable {k b n lo c ln dn q lc off size mid dc gd:Nat} {w w' W wx:World} {t:TypeId} {x ck cn d:Int} {l r:List ByteArray} {v:Value} {ct:ByteArray} {LA DA rLA:Option Addr}
theorem CE.Nl{k n:Int}{t:ByteArray}{l:List aC}{d:List bf}(h:CD w ⟨ck,cn,ct,LA,ln,lc,DA,dn,dc⟩ ⟨ck,cn,ct,rLA,ln,ln,none,0,0⟩ gd l d dn wx)(ho:pw (fun _=>True) w ⟨ck,cn,ct,LA,ln,lc,DA,dn,dc⟩ (.mk k n t l d))(hd:d.length<=dn)(hl0:ln=0->rLA=none)(hd0:0<dn):
  CE w (.mk k n t l d) ⟨ck,cn,ct,rLA,ln,ln,some ⟨gd,0,none⟩,dn,dn⟩ gd wx:=by
  refine⟨h.b1,h.b2,⟨ho.k,ho.n,ho.t,ho.tsz,ho.ln,rfl,ho.lsz,hl0,h.la,h.hgd,ho.dn,rfl,ho.dsz,fun h0=>?_,fun hp=>?_⟩,h.bel⟩
  ·exact absurd h0 (by show dn≠0;omega)
  ·refine⟨gd,rfl,qL,h.row,fun i f hi=>?_⟩;obtain⟨h1,h2⟩:=h.el i f (by have:=(OI.1 hi).1;simp only[aC.d] at this;omega) hi;obtain⟨b,off,_,_,hel⟩:=ho.da hp;exact⟨h1,(hel i f hi).2.1,h2⟩
theorem CE.Nf{x:aC}(h:MH w ⟨ck,cn,ct,LA,ln,lc,DA,0,dc⟩ x wx ⟨ck,cn,ct,rLA,ln,ln,none,0,0⟩)(ho:pw (fun _=>True) w ⟨ck,cn,ct,LA,ln,lc,DA,0,dc⟩ x):
  CE w x ⟨ck,cn,ct,rLA,ln,ln,none,0,0⟩ wx.heap.size wx:=by
  refine⟨h.b1,h.b2,⟨ho.k,ho.n,ho.t,ho.tsz,ho.ln,rfl,ho.lsz,h.l0,fun hn=>?_,?_,ho.dn,rfl,ho.dsz,fun _=>rfl,fun hp=>absurd hp (Qr 0)⟩,h.bel⟩
  ·obtain⟨g,h1,h2,h3,h4⟩:=h.la hn;refine⟨g,h1,h2,h3.lt,h3,fun i y hi=>?_⟩;obtain⟨e,k1,k2⟩:=h4 i y hi;exact⟨e,k1,k2.lt⟩
  ·have:=h.b2.lt;omega
theorem Cl.keep{c:VC}{x:aC}(h:Cl lo mid w c x)(hk:∀b,lo<=b->w'.heap[b]?=w.heap[b]?):Cl lo mid w' c x:=by
 refine⟨h.k,h.n,h.t,h.tsz,h.ln,h.lc,h.lsz,h.l0,fun hn=>?_,h.hmid,h.dn,h.dc,h.dsz,h.d0,fun hn=>?_⟩
 ·obtain⟨g,h1,h2,h3,h4,h5⟩:=h.la hn;refine⟨g,h1,h2,h3,h4.same (hk g h2),fun i y hi=>?_⟩;obtain⟨e,k1,k2⟩:=h5 i y hi;exact⟨e,k1.keep (hk g h2),k2.keep fun b hb=>hk b oM⟩
 ·obtain⟨g,h1,h2,h3,h4⟩:=h.da hn;have hm:=h.hmid;refine⟨g,h1,h2,h3.same (hk g oM),fun i f hi=>?_⟩;obtain⟨k0,kz,e,k1,k2⟩:=h4 i f hi;exact⟨(PE (w:=w) (a:=⟨g,i*6,none⟩) (hk g oM)).trans k0,kz,e,k1.keep (hk g oM),k2.keep fun b hb=>hk b oM⟩
theorem Cl.low{lo':Nat}{c:VC}{x:aC}(h:Cl lo mid w c x)(hl:lo'<=lo):Cl lo' mid w c x:=by
 refine⟨h.k,h.n,h.t,h.tsz,h.ln,h.lc,h.lsz,h.l0,fun hn=>?_,by have:=h.hmid;omega,h.dn,h.dc,h.dsz,h.d0,h.da⟩;obtain⟨g,h1,h2,h3,h4,h5⟩:=h.la hn;exact⟨g,h1,by omega,h3,h4,h5⟩
theorem CE.done{x:aC}{r:VC}(h:CE w x r mid wx):BP w x (.returned r.val) (bM wx (w.heap.size+1) 0 r):=
 ⟨r,mid,rfl,(h.cl.keep fun b hb=>bC oM).low oM,aW h.bel oM _ _⟩
theorem aD{fn:Func}{p:Tmp}(h:fn.results=#[.cell p 29])(tmps:Array Value)(g1 off:Nat)(h1:tmps[p]?.getD undef=.pointer (some ⟨g1,off,none⟩))(W:World)(v:VC)(q:aO W g1 off v):
  (results fn tmps).run prog W=.ok v.val W:=by
  obtain⟨q0,q1,q2,q3,q4⟩:=q;simp[results,h,h1,asAddr,go_sem,q0,q1,q2,q3,q4]
abbrev PV:=VC×aC
abbrev PF:=VC×bf
def bD(p:PV):List Value:=p.1.list
def cw(p:PF):List Value:=.string p.2.s::p.1.list
theorem cB(p:PV):(bD p).length=5:=rfl
theorem lU(p:PF):(cw p).length=6:=rfl
theorem cq(p:PV):∀u∈bD p,u.oneCell'=true:=by simp[bD,VC.list,Value.oneCell']
theorem js(p:PF):∀u∈cw p,u.oneCell'=true:=by simp[cw,VC.list,Value.oneCell']
end
structure SL(F:Nat->Prop)(w:World)(A:Option Addr)(n c:Nat)(ps:List PV):Prop where
 sr:SR 5 bD w A n c ps
 sz:n*80<=aF
 blk:0<n->∃b off,A=some ⟨b,off,none⟩/\Ft F w b
 rv:∀p∈ps,RV F w p.1 p.2
structure SD(F:Nat->Prop)(w:World)(A:Option Addr)(n c:Nat)(ps:List PF):Prop where
 sr:SR 6 cw w A n c ps
 sz:n*96<=aF
 blk:0<n->∃b off,A=some ⟨b,off,none⟩/\Ft F w b
 ns:∀p∈ps,p.2.s.size<=aF
 rv:∀p∈ps,RV F w p.1 p.2.v
section
variable {k b n g o m i c base ln dn q lc off size j dc:Nat} {w w' w3 w4:World} {e t:TypeId} {a x y d:Int} {l:List ByteArray} {v:Value} {s:ByteArray} {A LA DA:Option Addr} {F G:Nat -> Prop} {xs:List Value}
section
variable {F G:Nat->Prop} {w w':World} {A:Option Addr} {n c:Nat}
theorem nH{u:VC}(h:∀(j:Nat) (v:Value),u.list[j]?=some v->w.cell? ⟨b,off+j,none⟩=some v):aO w b off u:=
 ⟨h 0 _ rfl,h 1 _ rfl,h 2 _ rfl,h 3 _ rfl,h 4 _ rfl⟩
theorem qv{u:VC}(h:aO w b off u):∀(j:Nat) (v:Value),u.list[j]?=some v->w.cell? ⟨b,off+j,none⟩=some v:=by
 obtain⟨h0,h1,h2,h3,h4⟩:=h;intro j v hj
 match j,hj with
 | 0,hj=>simp[VC.list] at hj;subst hj;exact h0
 | 1,hj=>simp[VC.list] at hj;subst hj;exact h1
 | 2,hj=>simp[VC.list] at hj;subst hj;exact h2
 | 3,hj=>simp[VC.list] at hj;subst hj;exact h3
 | 4,hj=>simp[VC.list] at hj;subst hj;exact h4
 | j+5,hj=>simp[VC.list] at hj
theorem pO{α β:Type}{p:Nat->β->α->Prop}:∀{l:List β},(∀i y,l[i]?=some y->∃u,p i y u)->∃ps:List (α×β),ps.map Prod.snd=l/\∀i q,ps[i]?=some q->p i q.2 q.1:=by
 intro l
 induction l generalizing p with
 | nil=>intro _;exact⟨[],rfl,fun i q h=>by simp at h⟩
 | cons y r ih=>
  intro h;obtain⟨u,hu⟩:=h 0 y rfl;obtain⟨ps,h1,h2⟩:=ih (p:=fun i=>p (i+1)) (fun i y hy=>h (i+1) y (by simpa using hy));refine⟨(u,y)::ps,by simp[h1],fun i q hq=>?_⟩;cases i with
  | zero=>simp at hq;subst hq;exact hu
  | succ i=>exact h2 i q (by simpa using hq)
theorem RV.sl{u:VC}{x:aC}(h:RV F w u x):∃ps:List PV,ps.map Prod.snd=x.l/\SL F w u.LA u.ln u.lc ps:=by
 have ho:=h.open;by_cases hn:0<u.ln
 ·obtain⟨b,off,e,hF,hl⟩:=ho.la hn;obtain⟨ps,h1,h2⟩:=pO hl;have hlen:u.ln=ps.length:=by rw[ho.ln,<-h1];simp
  refine⟨ps,h1,⟨hlen,ho.lc,fun _=>⟨b,off,e,?_,fun i a hi j v hj=>qv (h2 i a hi).1 j v hj⟩⟩,ho.lsz,fun _=>⟨b,off,e,hF⟩,fun p hp=>?_⟩
  ·obtain⟨q,hq⟩:∃q,ps[0]?=some q:=⟨_,OH oM⟩;exact(h2 0 q hq).1.lt
  ·obtain⟨i,hi⟩:=PP hp;exact(h2 i p hi).2
 ·have h0:u.ln=0:=oM
  have hx:x.l=[]:=OL (by rw[<-ho.ln];exact h0);exact⟨[],by rw[hx];rfl,⟨by rw[h0];rfl,ho.lc,fun h=>absurd h hn⟩,ho.lsz,fun h=>absurd h hn,fun p hp=>by simp at hp⟩
theorem RV.sd{u:VC}{x:aC}(h:RV F w u x):∃ps:List PF,ps.map Prod.snd=x.d/\SD F w u.DA u.dn u.dc ps:=by
 have ho:=h.open;by_cases hn:0<u.dn
 ·obtain⟨b,off,e,hF,hl⟩:=ho.da hn
  obtain⟨ps,h1,h2⟩:=pO (p:=fun i (f:bf) (v:VC)=>w.cell? ⟨b,off+i*6,none⟩=some (.string f.s)/\f.s.size<=aF/\aO w b (off+i*6+1) v/\RV F w v f.v) (fun i f hf=>by
   obtain⟨h1,h2,v,h3,h4⟩:=hl i f hf
   exact⟨v,h1,h2,h3,h4⟩)
  have hlen:u.dn=ps.length:=by rw[ho.dn,<-h1];simp
  refine⟨ps,h1,⟨hlen,ho.dc,fun _=>⟨b,off,e,?_,fun i a hi j v hj=>?_⟩⟩,ho.dsz,fun _=>⟨b,off,e,hF⟩,fun p hp=>?_,fun p hp=>?_⟩
  ·obtain⟨q,hq⟩:∃q,ps[0]?=some q:=⟨_,OH oM⟩;exact(h2 0 q hq).2.2.1.lt
  ·obtain⟨k0,_,k1,_⟩:=h2 i a hi;cases j with
   | zero=>simp[cw] at hj;subst hj;exact k0
   | succ j=>
    have:=qv k1 j v (by simpa[cw] using hj);rw[show off+i*6+(j+1)=off+i*6+1+j by omega];exact this
  ·obtain⟨i,hi⟩:=PP hp;exact(h2 i p hi).2.1
  ·obtain⟨i,hi⟩:=PP hp;exact(h2 i p hi).2.2.2
 ·have h0:u.dn=0:=oM
  have hx:x.d=[]:=OL (by rw[<-ho.dn];exact h0);exact⟨[],by rw[hx];rfl,⟨by rw[h0];rfl,ho.dc,fun h=>absurd h hn⟩,ho.dsz,fun h=>absurd h hn,fun p hp=>by simp at hp,fun p hp=>by simp at hp⟩
theorem RV.NC{k m:Int}{t:ByteArray}{ps:List PV}{fs:List PF}(ht:t.size<=aF)(hl:SL F w LA ln lc ps)(hd:SD F w DA dn dc fs):
 RV F w ⟨k,m,t,LA,ln,lc,DA,dn,dc⟩ (.mk k m t (ps.map Prod.snd) (fs.map Prod.snd)):=by
 refine pw.shut ⟨rfl,rfl,rfl,ht,by simp[aC.l,hl.sr.ln],hl.sr.lc,hl.sz,fun hn=>?_,by simp[aC.d,hd.sr.ln],hd.sr.lc,hd.sz,fun hn=>?_⟩
 ·obtain⟨b,off,e,_,hel⟩:=hl.sr.el hn;obtain⟨b',off',e',hF⟩:=hl.blk hn;rw[e] at e';cases e';refine⟨b,off,e,hF,fun i y hi=>?_⟩;simp only[aC.l,OT] at hi;obtain⟨p,hp,rfl⟩:=PT.1 hi;exact⟨p.1,nH fun j v hj=>hel i p hp j v hj,hl.rv p (OJ hp)⟩
 ·obtain⟨b,off,e,_,hel⟩:=hd.sr.el hn;obtain⟨b',off',e',hF⟩:=hd.blk hn;rw[e] at e';cases e';refine⟨b,off,e,hF,fun i y hi=>?_⟩;simp only[aC.d,OT] at hi;obtain⟨p,hp,rfl⟩:=PT.1 hi;refine⟨hel i p hp 0 _ rfl,hd.ns p (OJ hp),p.1,nH fun j v hj=>?_,hd.rv p (OJ hp)⟩;have:=hel i p hp (j+1) v (by simpa[cw] using hj);rw[show off+i*6+1+j=off+i*6+(j+1) by omega];exact this
theorem SL.Mw{ps:List PV}(h:SL F w A n c ps){p:PV}(hi:ps[i]?=some p):∃b off,A=some ⟨b,off,none⟩/\F b/\aO w b (off+i*5) p.1/\RV F w p.1 p.2:=by
 have hn:0<n:=by have:=(OI.1 hi).1;have:=h.sr.ln;omega
 obtain⟨b,off,e,_,hel⟩:=h.sr.el hn;obtain⟨b',off',e',hF⟩:=h.blk hn;rw[e] at e';cases e';exact⟨b,off,e,hF.1,nH fun j v hj=>hel i p hi j v hj,h.rv p (OJ hi)⟩
theorem SD.Mw{ps:List PF}(h:SD F w A n c ps){p:PF}(hi:ps[i]?=some p):∃b off,A=some ⟨b,off,none⟩/\F b/\w.cell? ⟨b,off+i*6,none⟩=some (.string p.2.s)/\aO w b (off+i*6+1) p.1/\RV F w p.1 p.2.v:=by
 have hn:0<n:=by have:=(OI.1 hi).1;have:=h.sr.ln;omega
 obtain⟨b,off,e,_,hel⟩:=h.sr.el hn;obtain⟨b',off',e',hF⟩:=h.blk hn;rw[e] at e';cases e';refine⟨b,off,e,hF.1,hel i p hi 0 _ rfl,nH fun j v hj=>?_,h.rv p (OJ hi)⟩;have:=hel i p hi (j+1) v (by simpa[cw] using hj);rw[show off+i*6+1+j=off+i*6+(j+1) by omega];exact this
theorem SL.step{ps:List PV}(h:SL F w A n c ps)(hb:Bl w w'):SL F w' A n c ps:=⟨h.sr.step hb,h.sz,fun hn=>by
 obtain⟨b,off,e,hF⟩:=h.blk hn
 obtain⟨b',off',e',hl,_⟩:=h.sr.el hn
 rw[e] at e'
 cases e'
 exact⟨b,off,e,hF.Mr hl fun q hq hql=>⟨hq,hb.block q hql⟩⟩,fun p hp=>(h.rv p hp).step hb⟩
theorem SD.step{ps:List PF}(h:SD F w A n c ps)(hb:Bl w w'):SD F w' A n c ps:=⟨h.sr.step hb,h.sz,fun hn=>by
 obtain⟨b,off,e,hF⟩:=h.blk hn
 obtain⟨b',off',e',hl,_⟩:=h.sr.el hn
 rw[e] at e'
 cases e'
 exact⟨b,off,e,hF.Mr hl fun q hq hql=>⟨hq,hb.block q hql⟩⟩,h.ns,fun p hp=>(h.rv p hp).step hb⟩
theorem SL.mono{ps:List PV}(h:SL F w A n c ps)(hk:∀b,F b->G b):SL G w A n c ps:=⟨h.sr,h.sz,fun hn=>by obtain⟨b,off,e,hF⟩:=h.blk hn;exact⟨b,off,e,hk b hF.1,fun hG=>hF.2 fun h0=>hG (hk 0 h0)⟩,fun p hp=>(h.rv p hp).mono hk⟩
theorem SL.Mq{ps:List PV}(h:w.ownsRow base t 5 v n (aN bD ps))(hl:ps.length=n)(hz:n*80<=aF)(hF:∀b,base<=b->F b)(hr:∀p∈ps,RV F w p.1 p.2):∃A c,v=.slice A n c/\SL F w A n c ps:=by
 obtain⟨A,c,rfl,hs⟩:=SR.Mq cB h hl;refine⟨A,c,rfl,hs,hz,fun hn=>?_,hr⟩;obtain⟨b,off,rfl,_⟩:=hs.el hn;rcases h.2 with⟨h',_⟩|⟨g,cap,cur,hv,hg,hbl,_⟩
 ·cases h'
 ·cases hv;exact⟨b,0,rfl,hF b hg,fun _ i=>aG.frozen (t:=t) (cs:=cur) hbl i⟩
theorem SD.Mq{ps:List PF}(h:w.ownsRow base t 6 v n (aN cw ps))(hl:ps.length=n)(hz:n*96<=aF)(hF:∀b,base<=b->F b)(hs:∀p∈ps,p.2.s.size<=aF)(hr:∀p∈ps,RV F w p.1 p.2.v):∃A c,v=.slice A n c/\SD F w A n c ps:=by
 obtain⟨A,c,rfl,hsr⟩:=SR.Mq lU h hl;refine⟨A,c,rfl,hsr,hz,fun hn=>?_,hs,hr⟩;obtain⟨b,off,rfl,_⟩:=hsr.el hn;rcases h.2 with⟨h',_⟩|⟨g,cap,cur,hv,hg,hbl,_⟩
 ·cases h'
 ·cases hv;exact⟨b,0,rfl,hF b hg,fun _ i=>aG.frozen (t:=t) (cs:=cur) hbl i⟩
end
theorem flat_at'{α:Type}{rec:α->List Value}{s:Nat}(hs:∀a,(rec a).length=s)(hp:0<s)(xs:List α)(k:Nat)(hk:k<xs.length*s):∃a v,xs[k/s]?=some a/\(rec a)[k%s]?=some v/\(aN rec xs)[k]?=some v:=by
 have h1:k/s<xs.length:=Nat.div_lt_of_lt_mul (by rw[TJ];exact hk);have h2:k%s<s:=TS _ hp;refine ⟨xs[k / s], (rec xs[k / s])[k % s]'(by rw [hs]; exact h2), OH h1, OH (by rw [hs]; exact h2), ?_⟩;have:=gX hs (OH h1) (OH (l:=rec xs[k/s]) (i:=k%s) (by rw[hs];exact h2));rw[show k/s*s+k%s=k by rw[TJ];exact Nat.div_add_mod k s] at this;exact this
theorem zL{α:Type}{rec:α->List Value}{s:Nat}(hs:∀a,(rec a).length=s){L:List α}(h:aG w g t (aN rec L).toArray)(hb:base<=g)(hm:L.length<=maxLen):w.ownsRow base t s (.slice (some ⟨g,0,none⟩) L.length L.length) L.length (aN rec L):=
 ⟨bv hs L,.inr ⟨g,L.length,(aN rec L).toArray,rfl,hb,h,qL,hm,by simp[bv hs],by rw[List.toList_toArray,<-bv hs];exact Rq⟩⟩
theorem cH{o:Obj}{row:Option Nat}(hg:(w3.alloc o).grownBy w4 row){p:Addr}(h:w3.cell? p=some v)(hne:row≠some p.block):w4.cell? p=some v:=by
 have hlt:=Oj w3 p h;rw[PE (w:=w3.alloc o) (hg.block p.block sO (fun e=>hne e.symm)),World.cell?_alloc_lt w3 o p hlt];exact h
theorem tS{o:Obj}{row:Option Nat}(hg:(w3.alloc o).grownBy w4 row){p:Addr}(hlt:p.block<w3.heap.size)(hne:row≠some p.block):w4.frozen? p=w3.frozen? p:=by
 rw[Rb (w:=w3.alloc o) (hg.block p.block sO (fun e=>hne e.symm)),Rb (w:=w3) (Qs w3 o p.block hlt)]
theorem SL.Mr{ps:List PV}(h:SL F w A n c ps)(hk:∀b,F b->b<w.heap.size->G b/\w'.heap[b]?=w.heap[b]?):SL G w' A n c ps:=by
 refine⟨⟨h.sr.ln,h.sr.lc,fun hn=>?_⟩,h.sz,fun hn=>?_,fun p hp=>(h.rv p hp).Mr hk⟩
 ·obtain⟨b,off,h1,h2,h3⟩:=h.sr.el hn;obtain⟨b',off',h1',hF⟩:=h.blk hn;rw[h1] at h1';cases h1';have he:=(hk b hF.1 h2).2;refine⟨b,off,h1,?_,fun i a hi j v hj=>(PE (w:=w) (a:=⟨b,off+i*5+j,none⟩) he).trans (h3 i a hi j v hj)⟩;rcases Qn b w'.heap.size with hlt|hge
  ·exact hlt
  ·rw[Ra hge,RH h2] at he;cases he
 ·obtain⟨b,off,h1,h2,h3⟩:=h.sr.el hn;obtain⟨b',off',h1',hF⟩:=h.blk hn;rw[h1] at h1';cases h1';exact⟨b,off,h1,hF.Mr h2 hk⟩
theorem jt(h:w.ownsRow base e size v n xs)(hk:∀g,v.ownBlock=some g->w'.heap[g]?=w.heap[g]?):w'.ownsRow base e size v n xs:=by
 refine⟨h.1,?_⟩;rcases h.2 with h2|⟨g,cap,cur,rfl,hg,hh,hr⟩
 ·exact .inl h2
 ·exact .inr ⟨g,cap,cur,rfl,hg,(hk g rfl).trans hh,hr⟩
def cO(s:ByteArray):List Value:=[.string s]
theorem jK(s:ByteArray):(cO s).length=1:=rfl
theorem Er(s:ByteArray):∀u∈cO s,u.oneCell'=true:=by
 intro u hu;simp only[cO,PB,List.not_mem_nil,or_false] at hu;subst hu;rfl
end
structure OC where
 A:Option Addr
 n:Nat
 c:Nat
 d:Bool
def wO(o:OC):List Value:=[.slice o.A o.n o.c,.bool o.d]
structure Od where
 p:List ByteArray
 d:Bool
structure ST(w:World)(A:Option Addr)(n c:Nat)(l:List ByteArray):Prop where
 sr:SR 1 cO w A n c l
 sz:n*16<=aF
 el:∀s∈l,s.size<=aF
section
variable {n c size:Nat} {w w':World} {l:List ByteArray} {A:Option Addr}
theorem ST.step(h:ST w A n c l)(hb:Bl w w'):ST w' A n c l:=⟨h.sr.step hb,h.sz,h.el⟩
end
structure OR(w:World)(o:OC)(q:Od):Prop where
 d:o.d=q.d
 st:ST w o.A o.n o.c q.p
section
variable {o q size:Nat} {w w':World}
theorem OR.step{o:OC}{q:Od}(h:OR w o q)(hb:Bl w w'):OR w' o q:=⟨h.d,h.st.step hb⟩
end
structure KO(w:World)(A:Option Addr)(n c:Nat)(os:List OC)(ks:List Od):Prop where
 sr:SR 2 wO w A n c os
 sz:n*32<=aF
 ln:os.length=ks.length
 el:∀(i:Nat) (o:OC) (q:Od),os[i]?=some o->ks[i]?=some q->OR w o q
section
variable {n c size:Nat} {w w':World} {A:Option Addr}
theorem KO.step{os:List OC}{ks:List Od}(h:KO w A n c os ks)(hb:Bl w w'):KO w' A n c os ks:=⟨h.sr.step hb,h.sz,h.ln,fun i o q h1 h2=>(h.el i o q h1 h2).step hb⟩
def KS(w:World)(A:Option Addr)(n c:Nat)(ks:List Od):Prop:=∃os,KO w A n c os ks
theorem KS.step{ks:List Od}(h:KS w A n c ks)(hb:Bl w w'):KS w' A n c ks:=by obtain⟨os,h⟩:=h;exact⟨os,h.step hb⟩
theorem KS.nil:KS w A 0 c []:=⟨[],SR.nil,by show 0*32<=aF;decide,rfl,fun i o q h=>by simp at h⟩
end
theorem KS.ln{w:World}{A:Option Addr}{n c:Nat}{ks:List Od}(h:KS w A n c ks):n=ks.length:=by obtain⟨os,h⟩:=h;rw[h.sr.ln,h.ln]
structure RA where
 KA:Option Addr
 kn:Nat
 kc:Nat
 CA:Option Addr
 cn:Nat
 cc:Nat
section
variable {k b n i c off size j:Nat} {w w':World} {e:TypeId} {a x d:Int} {l:List ByteArray} {s:ByteArray} {A:Option Addr} {xs:List Value}
theorem SR.Ng{l:List OC}(h:SR 2 wO w A n c l)(hi:i<n):∃b off x,A=some ⟨b,off,none⟩/\b<w.heap.size/\l[i]?=some x/\
 w.cell? ⟨b,off+i*2,none⟩=some (.slice x.A x.n x.c)/\w.cell? ⟨b,off+i*2+1,none⟩=some (.bool x.d):=by
 obtain⟨b,off,e,hb,hc⟩:=h.el oM;have hl:i<l.length:=by have:=h.ln;omega
 have h1:=OH hl;exact⟨b,off,l[i],e,hb,h1,hc i _ h1 0 _ rfl,hc i _ h1 1 _ rfl⟩
theorem SR.NR(h:SR 1 cO w A n c l)(hi:i<n):∃b off x,A=some ⟨b,off,none⟩/\b<w.heap.size/\l[i]?=some x/\
 w.cell? ⟨b,off+i,none⟩=some (.string x):=by
 obtain⟨b,off,e,hb,hc⟩:=h.el oM;have hl:i<l.length:=by have:=h.ln;omega
 have h1:=OH hl;exact⟨b,off,l[i],e,hb,h1,by simpa using hc i _ h1 0 _ rfl⟩
theorem jL:(Tryz.prog.info? 9).map (fun i=>(i.zero,i.size,i.bytes))=some (some (.string empty),1,16):=kR
theorem SR.reads{α:Type}{rec:α->List Value}{s:Nat}(hs:∀a,(rec a).length=s)(hp:0<s){xs:List α}(h:SR s rec w A n c xs):dz w w.heap.size s A n (aN rec xs):=by
 refine⟨by rw[bv hs,h.ln],fun hn=>?_⟩;obtain⟨b,off,e,hb,hel⟩:=h.el hn;subst e;refine⟨_,rfl,hb,fun j u hu=>?_⟩;have hj:=(OI.1 hu).1;rw[bv hs] at hj;obtain⟨a,v,g1,g2,g3⟩:=flat_at' hs hp xs j hj;have:=hel (j/s) a g1 (j%s) v g2;rw[cW];rw[g3] at hu;cases hu;have hdm:=Nat.div_add_mod j s;rw[TJ] at hdm;rw[show off+j=off+j/s*s+j%s by omega];exact this
theorem ju{α:Type}{rec:α->List Value}(h1:∀a,∀u∈rec a,u.oneCell'=true)(xs:List α):∀u∈aN rec xs,u.oneCell'=true:=by
 intro u hu;obtain⟨p,_,hp⟩:=SX.1 hu;exact h1 p u hp
section
variable {α:Type}
def ej(p:α->Bool):List α->Nat->Int
 | [],_=>-1
 | c::r,i=>if p c then(i:Int) else ej p r (i+1)
def ud(p:α->Bool)(l:List α):Int:=ej p l 0
theorem sV(p:α->Bool):∀(l:List α) (k:Nat),(ej p l k=-1/\∀c∈l,p c=false)\/∃(i:Nat) (c:α),ej p l k=(k+i:Nat)/\l[i]?=some c/\p c=true/\∀j,j<i->∀d,l[j]?=some d->p d=false:=by
 intro l
 induction l with
 | nil=>intro k;exact .inl ⟨rfl,fun _ h=>by simp at h⟩
 | cons c r ih=>
  intro k;cases hc:p c
  ·rw[ej,hc,OQ sM];rcases ih (k+1) with⟨h1,h2⟩|⟨i,d,h1,h2,h3,h4⟩
   ·refine .inl ⟨h1,fun x hx=>?_⟩;rcases PB.1 hx with rfl|hx
    ·exact hc
    ·exact h2 x hx
   ·refine .inr ⟨i+1,d,by rw[h1];omega,by simpa using h2,h3,fun j hj e he=>?_⟩;cases j with
    | zero=>simp at he;subst he;exact hc
    | succ j=>exact h4 j oM e (by simpa using he)
  ·rw[ej,hc,OW rfl];exact .inr ⟨0,c,rfl,rfl,hc,fun j hj=>absurd hj oM⟩
theorem zM(p:α->Bool)(l:List α):(ud p l=-1/\∀c∈l,p c=false)\/∃(i:Nat) (c:α),ud p l=(i:Nat)/\l[i]?=some c/\p c=true/\∀j,j<i->∀d,l[j]?=some d->p d=false:=by
 rcases sV p l 0 with h|⟨i,c,h1,h⟩
 ·exact .inl h
 ·exact .inr ⟨i,c,by rw[ud,h1,OX],h⟩
end
def dw(p:List ByteArray):Bool:=decide (1<=p.length)&&decide (p.length<=16)&&p.all aM
def bK:List ByteArray->List ByteArray->Bool
 | [],[]=>true
 | a::r,b::s=>(a.toList==b.toList)&&bK r s
 | _,_=>false
def lV:List Od->List Od->Int
 | _,[]=>0
 | done,o::r=>if dw o.p=false then 10 else if done.any (fun e=>bK e.p o.p) then 12 else lV (done++[o]) r
def fZ(ks:List Od):Int:=if 8<ks.length then 2 else lV [] ks
def il(ks:List Od)(ha:Bool):Int:=if fZ ks≠0 then fZ ks else if ks.length=0\/(ha=true/\1<ks.length) then 11 else if ks.any (·.d) then 11 else 0
def nx(v:Int):Int:=wrap64 (v+1)
theorem wP(s:ByteArray)(w:World):Calls prog 195 #[.string s] w fun e w'=>e=.returned (.bool (!aM s))/\w'=w:=by
 by_cases h1:s.size<1
 ·have HV:Hid (aM s=false):=by unfold Hid aM;rw[OV oM];rfl
  go_enter func195,TD;go_wp2;go_ret;exact⟨by rw[HV.out];rfl,rfl⟩
 by_cases h2:32<s.size
 ·have HV:Hid (aM s=false):=by unfold Hid aM;rw[OM oM,OV oM];rfl
  go_enter func195,TD;go_wp2;go_ret;exact⟨by rw[HV.out];rfl,rfl⟩
 cases h3:((s[0].toNat:Int)==36);rotate_left
 ·have HV:Hid (aM s=false):=by
   have:s[0].toNat=36:=by simp at h3;omega
   unfold Hid aM;rw[OM oM,OM oM,mN s oM,this];rfl
  go_enter func195,TD;go_wp2;go_ret;exact⟨by rw[HV.out];rfl,rfl⟩
 have HA:Hid (aM s=s.data.toList.all sQ):=by
  have:¬s[0].toNat=36:=by simp at h3;omega
  unfold Hid aM;rw[OM oM,OM oM,mN s oM];simp[this]
 go_enter func195,TD;go_wp2_with fail
 go_loopw [19] (fun v wr=>∃i:Nat,i<=s.size/\v=.int .i64 i/\(s.data.toList.take i).all sQ=true/\wr=w) (fun v _=>s.size-(intOf v).toNat)
 ·exact⟨0,ON _,rfl,ng,rfl⟩
 case round=>
  obtain⟨i,hi,rfl,ha,rfl⟩:=hrel;have HL:=qD ha;clear ha;by_cases hlt:i<s.size
  ·have hx:=s[i].toNat_lt;by_cases hb:(s[i].toNat:Int)<33
   ·have HV:Hid (aM s=false):=by rw[Hid,HA.out];exact fg hlt (by unfold sQ;rw[OV oM];rfl)
    go_wp2;go_ret;exact⟨by rw[HV.out];rfl,rfl⟩
   by_cases hc:126<(s[i].toNat:Int)
   ·have HV:Hid (aM s=false):=by rw[Hid,HA.out];exact fg hlt (by unfold sQ;rw[OM oM,OV oM];rfl)
    go_wp2;go_ret;exact⟨by rw[HV.out];rfl,rfl⟩
   cases hd:((s[i].toNat:Int)==46);rotate_left
   ·have HV:Hid (aM s=false):=by
     have:s[i].toNat=46:=by simp at hd;omega
     rw[Hid,HA.out];exact fg hlt (by unfold sQ;rw[this];rfl)
    go_wp2;go_ret;exact⟨by rw[HV.out];rfl,rfl⟩
   have HN:Hid ((s.data.toList.take (i+1)).all sQ=true):=by
    have:¬s[i].toNat=46:=by simp at hd;omega
    exact nd hlt HL.out (by unfold sQ;rw[OM oM,OM oM];simp[this])
   go_wp2_with fail;go_roundw
   ·exact⟨i+1,by omega,by go_num,HN.out,trivial⟩
   ·exact iO
  ·have HV:Hid (aM s=true):=by rw[Hid,HA.out];exact qA oM HL.out
   go_wp2;go_ret;exact⟨by rw[HV.out];rfl,rfl⟩
theorem zN{α:Type}{p:α->Bool}{l:List α}{x:α}(h:l[i]?=some x):ej p (l.drop i) i=if p x then(i:Int) else ej p (l.drop (i+1)) (i+1):=by rw[cU h,ej]
theorem wQ{α:Type}{p:α->Bool}{l:List α}(h:l.length<=i):ej p (l.drop i) i=-1:=by rw[Og h,ej]
theorem zO(l:List ByteArray)(A:Option Addr)(n c:Nat)(w:World)(h:ST w A n c l):
 Calls prog 249 #[.slice A n c,.func (.func 195) #[] #[]] w fun e w'=>e=.returned (.int .i64 (ud (fun s=>!aM s) l))/\w'=w:=by
 have hz:n<=140737488355328:=by have:=h.sz;unfold aF at this;omega
 have H:=qD h;clear h;go_enter func249,ntmps249;go_wp2_with fail
 go_loopw [8] (fun v wr=>∃i:Nat,i<=n/\v=.int .i64 i/\ud (fun s=>!aM s) l=ej (fun s=>!aM s) (l.drop i) i/\wr=w) (fun v _=>n-(intOf v).toNat)
 ·exact⟨0,ON _,rfl,rfl,rfl⟩
 case round=>
  obtain⟨i,hi,rfl,ha,rfl⟩:=hrel;have HA:=qD ha;clear ha;by_cases hlt:i<n
  ·obtain⟨b,off,x,hA,hb,hx,e0⟩:=H.out.sr.NR hlt;subst hA;have HX:=qD (zN (p:=fun s=>!aM s) hx);clear hx;go_wp2_with fail;refine(wP x _).mono ?_;rintro e w1 ⟨rfl,rfl⟩;cases hq:aM x
   ·have HF:Hid (ud (fun s=>!aM s) l=(i:Int)):=by rw[Hid,HA.out,HX.out,hq];rfl
    go_wp2;go_ret;exact⟨by rw[HF.out];rfl,rfl⟩
   ·have HF:Hid (ud (fun s=>!aM s) l=ej (fun s=>!aM s) (l.drop (i+1)) (i+1)):=by rw[Hid,HA.out,HX.out,hq];rfl
    go_wp2_with fail;go_roundw
    ·exact⟨i+1,by omega,by go_num,HF.out,trivial⟩
    ·exact iO
  ·have HF:Hid (ud (fun s=>!aM s) l=-1):=by rw[Hid,HA.out];exact wQ (by have:=H.out.sr.ln;omega)
   go_wp2;go_ret;exact⟨by rw[HF.out];rfl,rfl⟩
theorem Hz(p:ByteArray->Bool)(l:List ByteArray):decide (0<=ud (fun s=>!p s) l)=!l.all p:=by
 rcases zM (fun s=>!p s) l with⟨h1,h2⟩|⟨i,c,h1,h2,h3,_⟩
 ·rw[h1];have:l.all p=true:=Qd.2 fun x hx=>by simpa using h2 x hx
  rw[this];rfl
 ·rw[h1];have:l.all p=false:=SF.2 ⟨c,OJ h2,by simpa using h3⟩;rw[this,OM oM];rfl
theorem sW(l:List ByteArray)(A:Option Addr)(n c:Nat)(w:World)(h:ST w A n c l):
 Calls prog 194 #[.slice A n c,.func (.func 195) #[] #[]] w fun e w'=>e=.returned (.bool (!l.all aM))/\w'=w:=by
 have H:=qD h;clear h;have HV:=qD (Hz aM l);go_enter func194,ntmps194;go_wp2_with fail;refine(zO l _ _ _ _ H.out).mono ?_;rintro e w1 ⟨rfl,rfl⟩;go_wp2;go_ret;exact⟨by rw[<-HV.out];rfl,rfl⟩
theorem Es(l:List ByteArray)(A:Option Addr)(n c:Nat)(w:World)(h:ST w A n c l):
 Calls prog 148 #[.slice A n c] w fun e w'=>e=.returned (.bool (dw l))/\w'=w:=by
 have hz:n<=140737488355328:=by have:=h.sz;unfold aF at this;omega
 have H:=qD h;have hn:=qD h.sr.ln;clear h;by_cases h1:1<=n
 ·by_cases h2:n<=16
  ·have HV:Hid (dw l=l.all aM):=by unfold Hid dw;rw[<-hn.out,OM h1,OM h2];rfl
   go_enter func148,ntmps148;go_wp2_with fail;refine(sW l _ _ _ _ H.out).mono ?_;rintro e w1 ⟨rfl,rfl⟩;go_wp2;go_ret;exact⟨by rw[HV.out];simp,rfl⟩
  ·have HV:Hid (dw l=false):=by unfold Hid dw;rw[<-hn.out,OM h1,OV h2];rfl
   go_enter func148,ntmps148;go_wp2;go_ret;exact⟨by rw[HV.out];rfl,rfl⟩
 ·have HV:Hid (dw l=false):=by unfold Hid dw;rw[<-hn.out,OV h1];rfl
  go_enter func148,ntmps148;go_wp2;go_ret;exact⟨by rw[HV.out];rfl,rfl⟩
end
structure wR(α:Type) where
 A:Option Addr
 n:Nat
 c:Nat
 xs:List α
abbrev wR.v{α:Type}(s:wR α):Value:=.slice s.A s.n s.c
def wR.nil{α:Type}:wR α:=⟨none,0,0,[]⟩
inductive dS where
 | mk (op:Int) (path:wR ByteArray) (name:ByteArray) (names:wR ByteArray) (arg:PV) (n:Int) (kA:Option Addr) (kn kc:Nat) (kids:List dS)
def dS.op:dS->Int | .mk op _ _ _ _ _ _ _ _ _=>op
def dS.path:dS->wR ByteArray | .mk _ x _ _ _ _ _ _ _ _=>x
def dS.name:dS->ByteArray | .mk _ _ x _ _ _ _ _ _ _=>x
def dS.names:dS->wR ByteArray | .mk _ _ _ x _ _ _ _ _ _=>x
def dS.arg:dS->PV | .mk _ _ _ _ x _ _ _ _ _=>x
def dS.n:dS->Int | .mk _ _ _ _ _ x _ _ _ _=>x
def dS.kA:dS->Option Addr | .mk _ _ _ _ _ _ x _ _ _=>x
def dS.kn:dS->Nat | .mk _ _ _ _ _ _ _ x _ _=>x
def dS.kc:dS->Nat | .mk _ _ _ _ _ _ _ _ x _=>x
def dS.kids:dS->List dS | .mk _ _ _ _ _ _ _ _ _ x=>x
def dS.zero:dS:=.mk 0 .nil empty .nil (VC.zero,aC.zero) 0 none 0 0 []
inductive aj where
 | mk (op:Int) (path:wR ByteArray) (arg:PV) (args:wR PV) (n m sk:Int) (pts:wR (Int×Int)) (sr:Int) (ex:dS) (kA:Option Addr) (kn kc:Nat) (kids:List aj)
def aj.op:aj->Int | .mk op _ _ _ _ _ _ _ _ _ _ _ _ _=>op
def aj.path:aj->wR ByteArray | .mk _ x _ _ _ _ _ _ _ _ _ _ _ _=>x
def aj.arg:aj->PV | .mk _ _ x _ _ _ _ _ _ _ _ _ _ _=>x
def aj.args:aj->wR PV | .mk _ _ _ x _ _ _ _ _ _ _ _ _ _=>x
def aj.n:aj->Int | .mk _ _ _ _ x _ _ _ _ _ _ _ _ _=>x
def aj.m:aj->Int | .mk _ _ _ _ _ x _ _ _ _ _ _ _ _=>x
section
variable {k:Nat} {w:World} {x:Int} {l:List ByteArray}
def aj.sk:aj->Int | .mk _ _ _ _ _ _ x _ _ _ _ _ _ _=>x
def aj.pts:aj->wR (Int×Int) | .mk _ _ _ _ _ _ _ x _ _ _ _ _ _=>x
def aj.sr:aj->Int | .mk _ _ _ _ _ _ _ _ x _ _ _ _ _=>x
def aj.ex:aj->dS | .mk _ _ _ _ _ _ _ _ _ x _ _ _ _=>x
def aj.kA:aj->Option Addr | .mk _ _ _ _ _ _ _ _ _ _ x _ _ _=>x
def aj.kn:aj->Nat | .mk _ _ _ _ _ _ _ _ _ _ _ x _ _=>x
def aj.kc:aj->Nat | .mk _ _ _ _ _ _ _ _ _ _ _ _ x _=>x
def aj.kids:aj->List aj | .mk _ _ _ _ _ _ _ _ _ _ _ _ _ x=>x
theorem dS.ind{p:dS->Prop}(h:∀x:dS,(∀k∈x.kids,p k)->p x):∀x,p x:=by
 intro x;refine dS.rec (motive_1:=p) (motive_2:=fun l=>∀k∈l,p k) ?_ ?_ ?_ x
 ·intro op path name names arg n kA kn kc kids hk;exact h _ hk
 ·intro k hk;simp at hk
 ·intro y r hy hr k hk;rcases PB.1 hk with rfl|hk
  ·exact hy
  ·exact hr k hk
theorem aj.ind{p:aj->Prop}(h:∀x:aj,(∀k∈x.kids,p k)->p x):∀x,p x:=by
 intro x;refine aj.rec (motive_1:=p) (motive_2:=fun l=>∀k∈l,p k) ?_ ?_ ?_ x
 ·intro op path arg args n m sk pts sr ex kA kn kc kids hk;exact h _ hk
 ·intro k hk;simp at hk
 ·intro y r hy hr k hk;rcases PB.1 hk with rfl|hk
  ·exact hy
  ·exact hr k hk
def dY(x:dS):List Value:=
 [.int .i64 x.op,x.path.v,.string x.name,x.names.v,.int .i64 x.arg.1.k,.int .i64 x.arg.1.n,.string x.arg.1.t,.slice x.arg.1.LA x.arg.1.ln x.arg.1.lc,.slice x.arg.1.DA x.arg.1.dn x.arg.1.dc,.int .i64 x.n,.slice x.kA x.kn x.kc]
abbrev aP(x:dS):Array Value:=
 #[.int .i64 x.op,x.path.v,.string x.name,x.names.v,.int .i64 x.arg.1.k,.int .i64 x.arg.1.n,.string x.arg.1.t,.slice x.arg.1.LA x.arg.1.ln x.arg.1.lc,.slice x.arg.1.DA x.arg.1.dn x.arg.1.dc,.int .i64 x.n,.slice x.kA x.kn x.kc]
abbrev dZ(x:dS):Value:=.agg (aP x)
def eY(p:aj):List Value:=
 [.int .i64 p.op,p.path.v,.int .i64 p.arg.1.k,.int .i64 p.arg.1.n,.string p.arg.1.t,.slice p.arg.1.LA p.arg.1.ln p.arg.1.lc,.slice p.arg.1.DA p.arg.1.dn p.arg.1.dc,p.args.v,.int .i64 p.n,.int .i64 p.m,.int .i64 p.sk,p.pts.v,.int .i64 p.sr,
  .int .i64 p.ex.op,p.ex.path.v,.string p.ex.name,p.ex.names.v,.int .i64 p.ex.arg.1.k,.int .i64 p.ex.arg.1.n,.string p.ex.arg.1.t,.slice p.ex.arg.1.LA p.ex.arg.1.ln p.ex.arg.1.lc,.slice p.ex.arg.1.DA p.ex.arg.1.dn p.ex.arg.1.dc,.int .i64 p.ex.n,.slice p.ex.kA p.ex.kn p.ex.kc,
  .slice p.kA p.kn p.kc]
abbrev bL(p:aj):Array Value:=
 #[.int .i64 p.op,p.path.v,.int .i64 p.arg.1.k,.int .i64 p.arg.1.n,.string p.arg.1.t,.slice p.arg.1.LA p.arg.1.ln p.arg.1.lc,.slice p.arg.1.DA p.arg.1.dn p.arg.1.dc,p.args.v,.int .i64 p.n,.int .i64 p.m,.int .i64 p.sk,p.pts.v,.int .i64 p.sr,
  .int .i64 p.ex.op,p.ex.path.v,.string p.ex.name,p.ex.names.v,.int .i64 p.ex.arg.1.k,.int .i64 p.ex.arg.1.n,.string p.ex.arg.1.t,.slice p.ex.arg.1.LA p.ex.arg.1.ln p.ex.arg.1.lc,.slice p.ex.arg.1.DA p.ex.arg.1.dn p.ex.arg.1.dc,.int .i64 p.ex.n,.slice p.ex.kA p.ex.kn p.ex.kc,
  .slice p.kA p.kn p.kc]
abbrev al(p:aj):Value:=.agg (bL p)
def pP(p:Int×Int):List Value:=[.int .i64 p.1,.int .i64 p.2]
theorem ue(x:dS):(dY x).length=11:=rfl
theorem uf(p:aj):(eY p).length=25:=rfl
theorem ug(p:Int×Int):(pP p).length=2:=rfl
def WX(w:World):dS->Prop
 | .mk _ path name names arg _ kA kn kc kids=>ST w path.A path.n path.c path.xs/\name.size<=aF/\ST w names.A names.n names.c names.xs/\RW w arg.1 arg.2/\SR 11 dY w kA kn kc kids/\kn*184<=aF/\WXs w kids
where WXs (w:World):List dS->Prop
 | []=>True
 | x::r=>WX w x/\WXs w r
def WP(w:World):aj->Prop
 | .mk _ path arg args _ _ _ pts _ ex kA kn kc kids=>ST w path.A path.n path.c path.xs/\RW w arg.1 arg.2/\SL (fun _=>True) w args.A args.n args.c args.xs/\args.n<=1048576/\SR 2 pP w pts.A pts.n pts.c pts.xs/\pts.n*16<=aF/\WX w ex/\SR 25 eY w kA kn kc kids/\kn*400<=aF/\WPs w kids
where WPs (w:World):List aj->Prop
 | []=>True
 | x::r=>WP w x/\WPs w r
theorem BQ{l:List dS}:WX.WXs w l↔∀k∈l,WX w k:=by
 induction l with
 | nil=>simp[WX.WXs]
 | cons y r ih=>simp[WX.WXs,ih]
theorem BS{l:List aj}:WP.WPs w l↔∀k∈l,WP w k:=by
 induction l with
 | nil=>simp[WP.WPs]
 | cons y r ih=>simp[WP.WPs,ih]
end
structure LH(w:World)(x:dS):Prop where
 path:ST w x.path.A x.path.n x.path.c x.path.xs
 nsz:x.name.size<=aF
 names:ST w x.names.A x.names.n x.names.c x.names.xs
 arg:RW w x.arg.1 x.arg.2
 sr:SR 11 dY w x.kA x.kn x.kc x.kids
 ksz:x.kn*184<=aF
 kids:∀k∈x.kids,WX w k
section
variable {w:World} {x:Int}
theorem WX.open{x:dS}(h:WX w x):LH w x:=by
 cases x;obtain⟨h1,h2,h3,h4,h5,h6,h7⟩:=h;exact⟨h1,h2,h3,h4,h5,h6,BQ.1 h7⟩
theorem LH.shut{x:dS}(h:LH w x):WX w x:=by
 cases x;exact⟨h.path,h.nsz,h.names,h.arg,h.sr,h.ksz,BQ.2 h.kids⟩
end
structure Kk(w:World)(p:aj):Prop where
 path:ST w p.path.A p.path.n p.path.c p.path.xs
 arg:RW w p.arg.1 p.arg.2
 args:SL (fun _=>True) w p.args.A p.args.n p.args.c p.args.xs
 few:p.args.n<=1048576
 pts:SR 2 pP w p.pts.A p.pts.n p.pts.c p.pts.xs
 psz:p.pts.n*16<=aF
 ex:WX w p.ex
 sr:SR 25 eY w p.kA p.kn p.kc p.kids
 ksz:p.kn*400<=aF
 kids:∀k∈p.kids,WP w k
section
variable {k size:Nat} {w w':World} {a x y:Int}
theorem WP.open{p:aj}(h:WP w p):Kk w p:=by
 cases p;obtain⟨h1,h2,h3,h4,h5,h6,h7,h8,h9,h10⟩:=h;exact⟨h1,h2,h3,h4,h5,h6,h7,h8,h9,BS.1 h10⟩
theorem Kk.shut{p:aj}(h:Kk w p):WP w p:=by
 cases p;exact⟨h.path,h.arg,h.args,h.few,h.pts,h.psz,h.ex,h.sr,h.ksz,BS.2 h.kids⟩
theorem WX.step(hb:Bl w w'):∀{x:dS},WX w x->WX w' x:=by
 intro x
 induction x using dS.ind with
 | h x ih=>
  intro h;have o:=h.open;exact LH.shut ⟨o.path.step hb,o.nsz,o.names.step hb,o.arg.step hb,o.sr.step hb,o.ksz,fun k hk=>ih k hk (o.kids k hk)⟩
theorem WP.step(hb:Bl w w'):∀{p:aj},WP w p->WP w' p:=by
 intro p
 induction p using aj.ind with
 | h p ih=>
  intro h;have o:=h.open;exact Kk.shut ⟨o.path.step hb,o.arg.step hb,o.args.step hb,o.few,o.pts.step hb,o.psz,o.ex.step hb,o.sr.step hb,o.ksz,fun k hk=>ih k hk (o.kids k hk)⟩
def aj.nodes:aj->Nat
 | .mk _ _ _ _ _ _ _ _ _ _ _ _ _ kids=>1+nodesL kids
where nodesL:List aj->Nat
 | []=>0
 | x::r=>x.nodes+nodesL r
theorem aj.NQ(p:aj):p.nodes=1+aj.nodes.nodesL p.kids:=by cases p;rfl
abbrev cx:=aC×Bool
def yP(x y:Bool):Int:=if x=y then 0 else if y then -1 else 1
def aq(a b:cx):Int:=mi (aZ a.1 b.1) (yP a.2 b.2)
def jb(a:cx):Prop:=aJ a.1=true
theorem Et(x y:Bool):yP y x=-yP x y:=by cases x<;>cases y<;>decide
theorem Jb(x y z:Bool):TR (yP x y) (yP y z) (yP x z):=by cases x<;>cases y<;>cases z<;>(unfold TR;decide)
theorem Eu{x y:Bool}:yP x y=0↔x=y:=by cases x<;>cases y<;>decide
theorem cf{x:aC}(h:aJ x=true):x.size<=1024/\x.Ms<=16/\aw aM x:=by
 unfold aJ at h;simp only[Ov,Pm] at h;exact⟨h.1.1,h.1.2,eE.1 h.2⟩
theorem jv{x:aC}(h1:x.size<=1024)(h2:x.Ms<=16)(h3:aw aM x):aJ x=true:=by
 unfold aJ;rw[OM h1,OM h2,ci h3];rfl
theorem dF:tR aq jb:=by
 refine⟨fun x y=>je (iS _ _) (Et _ _),fun x y z=>TR.lx (Aq _ _ _) (Jb _ _ _),fun x y hx hy h=>?_⟩;have h':=lK.1 h;exact Prod.ext (mO (nm:=aM) x.1 y.1 (cf hx).2.2 (cf hy).2.2 h'.1) (Eu.1 h'.2)
def im:aC:=.mk 1 0 empty [] []
def iP:aC:=.mk 11 0 empty [] []
theorem qw{k:Int}(hk:k=1\/k=11):aJ (.mk k 0 empty [] [])=true:=by
 refine jv ?_ ?_ ?_
 ·rw[dh];unfold aC.parts;rw[OQ (by show ¬k=6;omega),OQ (by show ¬k=5;omega)];simp[bE]
 ·rw[eD];unfold aC.parts;rw[OQ (by show ¬k=6;omega),OQ (by show ¬k=5;omega)];simp[ao]
 ·refine(aT _ _).2 ⟨?_,by simp[aC.l],by simp[aC.d],by simp[aC.d,ib]⟩;rcases hk with rfl|rfl<;>simp[dU,aC.k,aC.n,aC.t,aC.l,aC.d]
theorem dm{x:aC}(h:aJ x=true):1<=x.k/\x.k<=11:=by
 have:=((aT _ _).1 (cf h).2.2).1;unfold dU at this;omega
theorem Ev{a:cx}(h:jb a):aq (im,false) a<=0:=by
 have hk:=dm h;unfold aq mi;by_cases h1:a.1.k=1
 ·have:aZ im a.1=0:=fM (by rw[h1];rfl) dE dE dE dE dE dE dE dE;rw[this];simp;unfold yP;split
  ·omega
  ·rename_i hne
   cases hb:a.2
   ·exact absurd hb.symm hne
   ·simp
 ·have:aZ im a.1=cd 1 a.1.k:=bX (by show(1:Int)≠a.1.k;omega);have h2:=dJ 1 a.1.k;rw[this];split<;>omega
theorem Ew{a:cx}(h:jb a):aq a (iP,true)<=0:=by
 have hk:=dm h;unfold aq mi;by_cases h1:a.1.k=11
 ·have:aZ a.1 iP=0:=fM (by rw[h1];rfl) oM oM oM oM oM oM oM oM;rw[this];simp;unfold yP;split
  ·omega
  ·simp
 ·have:aZ a.1 iP=cd a.1.k 11:=bX (by show a.1.k≠(11:Int);omega);have h2:=dJ a.1.k 11;rw[this];split<;>omega
end
structure Iv where
 lo:aC
 hi:aC
 li:Bool
 hin:Bool
section
variable {k b n m i S:Nat} {w:World} {e:TypeId} {a op x:Int} {l:List ByteArray} {v:Value} {s:ByteArray} {xs:List Value}
def Iv.sp(x:Iv):cx×cx:=((x.lo,!x.li),(x.hi,x.hin))
noncomputable def Iv.ne(x:Iv):Bool:=aJ x.lo&&aJ x.hi&&decide (aq x.sp.1 x.sp.2<0)
noncomputable def aV(l:List Iv):List (cx×cx):=(l.filter Iv.ne).map Iv.sp
def fa(s:cx×cx):Iv:=⟨s.1.1,s.2.1,!s.1.2,s.2.2⟩
theorem BU(s:cx×cx):(fa s).sp=s:=by
 obtain⟨⟨a,b⟩,c,d⟩:=s;simp[fa,Iv.sp]
theorem Ex{x:Iv}(h:x.ne=true):aq x.sp.1 x.sp.2<0/\jb x.sp.1/\jb x.sp.2:=by
 unfold Iv.ne at h;simp only[Ov,Pm] at h;exact⟨h.2,h.1.1,h.1.2⟩
theorem Ey{s:cx×cx}(h:aq s.1 s.2<0/\jb s.1/\jb s.2):(fa s).ne=true:=by
 unfold Iv.ne;rw[BU];have h1:aJ (fa s).lo=true:=h.2.1;have h2:aJ (fa s).hi=true:=h.2.2;rw[h1,h2,OM h.1];rfl
theorem mX{l:List Iv}:∀s∈aV l,aq s.1 s.2<0/\jb s.1/\jb s.2:=by
 intro s hs;obtain⟨x,hx,rfl⟩:=PK.1 hs;exact Ex (RI.1 hx).2
theorem qx(l m:List Iv):aV (l++m)=aV l++aV m:=by simp[aV]
theorem jM(l:List Iv)(x:Iv):aV (l++[x])=if x.ne then aV l++[x.sp] else aV l:=by
 rw[qx];cases h:x.ne<;>simp[aV,h]
theorem Ct{n:List (cx×cx)}(h:∀s∈n,aq s.1 s.2<0/\jb s.1/\jb s.2):aV (n.map fa)=n:=by
 induction n with
 | nil=>rfl
 | cons s r ih=>
  have e:aV ((s::r).map fa)=(fa s).sp::aV (r.map fa):=by
   simp[aV,Ey (h s sM)]
  rw[e,BU,ih fun t ht=>h t (by simp[ht])]
def jw(S:cx->Prop)(m:List (cx×cx)):Prop:=NF aq jb m/\∀a,ei aq a m↔S a
theorem jw.unique{S T:cx->Prop}{m n:List (cx×cx)}(h:jw S m)(k:jw T n)(e:∀a,jb a->(S a↔T a)):m=n:=
 Cp dF h.1 k.1 fun a ha=>by rw[h.2,k.2];exact e a ha
theorem fj{a b:cx}(h:aZ a.1 b.1=0):aq a b=yP a.2 b.2:=by unfold aq mi;rw[OQ (by simpa using h)]
theorem kX{a b:cx}(h:aZ a.1 b.1≠0):aq a b=aZ a.1 b.1:=by unfold aq mi;rw[OW h]
def eZ(v:aC):Iv:=⟨v,v,true,true⟩
theorem Ez(v:aC):(eZ v).ne=aJ v:=by
 unfold Iv.ne
 have:aq (eZ v).sp.1 (eZ v).sp.2<0:=by
  rw[fj (a:=(eZ v).sp.1) (b:=(eZ v).sp.2) (Bx v)];show yP false true<0;decide
 rw[OM this];show(aJ v&&aJ v&&true)=aJ v;cases aJ v<;>rfl
theorem ol:aJ im=true:=qw (.inl rfl)
theorem om:aJ iP=true:=qw (.inr rfl)
def lW:Iv:=⟨im,iP,true,true⟩
theorem qy:aq (im,false) (iP,true)<0:=by
 rw[kX (a:=(im,false)) (b:=(iP,true)) (by rw[bX dE];decide)];show aZ im iP<0;rw[bX dE];decide
theorem rA:jw (fun a=>ei aq a (aV [lW])) [((im,false),(iP,true))]:=by
 have hne:lW.ne=true:=by
  unfold Iv.ne;rw[OM (show aq lW.sp.1 lW.sp.2<0 from qy)];show(aJ im&&aJ iP&&true)=true;rw[ol,om];rfl
 have e:aV [lW]=[((im,false),(iP,true))]:=by unfold aV;rw[SB hne];rfl
 refine⟨⟨fun s hs=>?_,by simp⟩,fun a=>by rw[e]⟩;simp at hs;subst hs;exact⟨qy,ol,om⟩
def dK(s:ByteArray):Nat->Nat
 | 0=>0
 | n+1=>if s.data[n]?=some 255 then dK s n else n+1
def gM(s:ByteArray):Option ByteArray:=match dK s s.size with
 | 0=>none
 | n+1=>some (s.extract 0 n++⟨#[s.data[n]?.getD 0+1]⟩)
theorem tT(s:ByteArray):∀n,dK s n<=n:=by
 intro n
 induction n with
 | zero=>exact qL
 | succ n ih=>unfold dK;split<;>omega
def jZ(k:Int):aC:=.mk k 0 empty [] []
def dC:ByteArray:=⟨#[0,0,0,0,0,0,0,0,0,0,0,0]⟩
def cF(k:Int):aC:=if k=3 then .mk k (-9223372036854775808) empty [] [] else if k=8 then .mk k 0 dC [] [] else jZ k
def bA(k:Int):Iv:=
 if k=3\/k=10 then⟨cF k,.mk k 9223372036854775807 empty [] [],true,true⟩
 else if k=9 then⟨cF k,.mk k 1 empty [] [],true,true⟩
 else if k=4\/k=5\/k=6\/k=7\/k=8 then⟨cF k,cF (k+1),true,false⟩
 else⟨cF k,cF k,true,true⟩
def pm(op:Int)(x:aC):Iv:=
 if op=4\/op=5 then⟨x,(bA x.k).hi,decide (op=5),(bA x.k).hin⟩
 else⟨(bA x.k).lo,x,(bA x.k).li,decide (op=7)⟩
noncomputable def nI(x:aC):Iv×Bool:=
 match gM x.t with
 | some s=>if aJ (.mk 4 0 s [] [])=true then(⟨x,.mk 4 0 s [] [],true,false⟩,true) else(⟨x,jZ 5,true,false⟩,decide (x.t=empty))
 | none=>(⟨x,jZ 5,true,false⟩,decide (x.t=empty))
noncomputable def eA(op:Int)(arg:aC)(args:List aC)(n:Int):Option (List Iv×Bool):=
 if op=2 then(if arg.k=6 then none else some ([eZ arg],decide (arg.k≠2)))
 else if op=4\/op=5\/op=6\/op=7 then(if arg.k=6 then none else some ([pm op arg],decide (arg.k≠2)))
 else if op=8 then(if ∃x∈args,x.k=6 then none else some (args.map eZ,decide (¬∃x∈args,x.k=2)))
 else if op=16 then some ([(nI arg).1],(nI arg).2)
 else if op=11 then(if n=6 then none else some ([bA n],decide (n≠2)))
 else none
def fe:cx->Prop:=fun a=>ei aq a (aV [lW])
abbrev iz:=(cx->Prop)×Bool
noncomputable def eR(op:Int)(arg:aC)(args:List aC)(n:Int):iz:=match eA op arg args n with
 | some r=>(fun a=>ei aq a (aV r.1),r.2)
 | none=>(fe,false)
open Classical in
noncomputable def fk(S:cx->Prop):Bool:=decide (∀a,jb a->(S a↔fe a))
noncomputable def fO:List iz->iz
 | []=>(fe,false)
 | r::rs=>if fk r.1 then fO rs else(r.1,false)
noncomputable def rB(rs:List iz):iz:=match rs with
 | [r]=>r
 | _=>fO rs
noncomputable def Cu(rs:List iz):iz:=if rs.any (fun r=>fk r.1) then(fe,false) else(fun a=>∃r∈rs,r.1 a,rs.all fun r=>r.2)
noncomputable def gN(l:List ByteArray):aj->iz
 | .mk op path arg args n _ _ _ _ _ _ _ _ kids=>if op=20 then rB (ofSs l kids) else if op=21 then Cu (ofSs l kids) else if path.xs=l then eR op arg.2 (args.xs.map Prod.snd) n else(fe,false)
where ofSs (l:List ByteArray):List aj->List iz
 | []=>[]
 | x::r=>gN l x::ofSs l r
theorem FB(l:List ByteArray)(ks:List aj):gN.ofSs l ks=ks.map (gN l):=by
 induction ks with
 | nil=>rfl
 | cons x r ih=>simp[gN.ofSs,ih]
theorem uh(l:List ByteArray)(p:aj):gN l p=if p.op=20 then rB (p.kids.map (gN l)) else if p.op=21 then Cu (p.kids.map (gN l)) else if p.path.xs=l then eR p.op p.arg.2 (p.args.xs.map Prod.snd) p.n else(fe,false):=by
 cases p;simp only[gN,FB];rfl
theorem ui{p:aj}(h:p.op=20):gN l p=rB (p.kids.map (gN l)):=by rw[uh,OW h]
theorem zP{p:aj}(h:p.op=21):gN l p=Cu (p.kids.map (gN l)):=by rw[uh,OQ oM,OW h]
theorem rE{p:aj}(h:p.op≠20)(h':p.op≠21)(hp:p.path.xs=l):gN l p=eR p.op p.arg.2 (p.args.xs.map Prod.snd) p.n:=by rw[uh,OQ h,OQ h',OW hp]
theorem rF{p:aj}(h:p.op≠20)(h':p.op≠21)(hp:p.path.xs≠l):gN l p=(fe,false):=by rw[uh,OQ h,OQ h',OQ hp]
def aj.sz:aj->Nat
 | .mk _ _ _ args _ _ _ _ _ _ _ _ _ kids=>1+args.n+szL kids
where szL:List aj->Nat
 | []=>0
 | x::r=>x.sz+szL r
theorem aj.Mx(p:aj):p.sz=1+p.args.n+aj.sz.szL p.kids:=by cases p;rfl
theorem FC{l:List aj}{k:aj}(h:k∈l):k.sz<=aj.sz.szL l:=by
 induction l with
 | nil=>cases h
 | cons x r ih=>
  simp only[aj.sz.szL];rcases PB.1 h with rfl|h
  ·omega
  ·have:=ih h;omega
theorem wS(l:List aj)(i:Nat){k:aj}(h:l[i]?=some k):aj.sz.szL (l.take (i+1))=aj.sz.szL (l.take i)+k.sz:=by
 induction l generalizing i with
 | nil=>simp at h
 | cons x r ih=>
  cases i with
  | zero=>simp at h;subst h;simp[aj.sz.szL]
  | succ i=>
   have:=ih i (by simpa using h);simp only[Pl,aj.sz.szL] at*;omega
theorem pQ(l:List aj)(i:Nat):aj.sz.szL (l.take i)<=aj.sz.szL l:=by
 induction l generalizing i with
 | nil=>simp
 | cons x r ih=>
  cases i with
  | zero=>simp[aj.sz.szL]
  | succ i=>have:=ih i;simp only[Pl,aj.sz.szL];omega
theorem LI:∀{p:aj},WP w p->p.sz<=p.nodes*1048577:=by
 intro p
 induction p using aj.ind with
 | h p ih=>
  intro h;have o:=h.open;rw[p.Mx,p.NQ]
  have key:∀l:List aj,(∀k∈l,k.sz<=k.nodes*1048577)->aj.sz.szL l<=aj.nodes.nodesL l*1048577:=by
   intro l
   induction l with
   | nil=>intro _;simp[aj.sz.szL]
   | cons x r ihl=>
    intro hl;have h1:=hl x sM;have h2:=ihl fun k hk=>hl k (by simp[hk]);simp only[aj.sz.szL,aj.nodes.nodesL,QJ];omega
  have:=key p.kids fun k hk=>ih k hk (o.kids k hk);have:=o.few;rw[QJ];omega
def oZ:aj->Prop
 | .mk op path arg args n _ _ _ _ _ _ _ _ kids=>
  ((2<=op/\op<=7)\/op=16\/op=17\/op=19->aJ arg.2=true)/\(op=8\/op=9\/op=14->∀x∈args.xs,aJ x.2=true)/\(op=16\/op=17\/op=19->arg.2.k=4)/\(op=11->1<=n/\n<=11)/\
   (op=15\/op=20\/op=21->kids≠[])/\(2<=op/\op<=19->path.xs.length<=16)/\(1<=op/\op<=24)/\(op≠24->VPs kids)
where VPs:List aj->Prop
 | []=>True
 | x::r=>oZ x/\VPs r
theorem BV{l:List aj}:oZ.VPs l↔∀k∈l,oZ k:=by
 induction l with
 | nil=>simp[oZ.VPs]
 | cons y r ih=>simp[oZ.VPs,ih]
end
structure BX(p:aj):Prop where
 argA:(2<=p.op/\p.op<=7)\/p.op=16\/p.op=17\/p.op=19->aJ p.arg.2=true
 argsA:p.op=8\/p.op=9\/p.op=14->∀x∈p.args.xs,aJ x.2=true
 textA:p.op=16\/p.op=17\/p.op=19->p.arg.2.k=4
 kind:p.op=11->1<=p.n/\p.n<=11
 neA:p.op=15\/p.op=20\/p.op=21->p.kids≠[]
 pathA:2<=p.op/\p.op<=19->p.path.xs.length<=16
 op:1<=p.op/\p.op<=24
 kidsA:p.op≠24->∀k∈p.kids,oZ k
section
variable {k n i S:Nat} {a op x:Int} {s:ByteArray} {xs:List Value}
theorem BX.arg{p:aj}(h:BX p)(ho:p.op=2\/p.op=4\/p.op=5\/p.op=6\/p.op=7\/p.op=16):aJ p.arg.2=true:=h.argA oM
theorem BX.args{p:aj}(h:BX p)(ho:p.op=8):∀x∈p.args.xs,aJ x.2=true:=h.argsA (.inl ho)
theorem BX.text{p:aj}(h:BX p)(ho:p.op=16):p.arg.2.k=4:=h.textA (.inl ho)
theorem BX.ne{p:aj}(h:BX p)(ho:p.op=20\/p.op=21):p.kids≠[]:=h.neA (.inr ho)
theorem BX.kids{p:aj}(h:BX p)(ho:p.op=20\/p.op=21):∀k∈p.kids,oZ k:=h.kidsA oM
theorem oZ.open{p:aj}(h:oZ p):BX p:=by
 cases p;obtain⟨h1,h2,h3,h4,h5,h6,h8,h7⟩:=h;exact⟨h1,h2,h3,h4,h5,h6,h8,fun h=>BV.1 (h7 h)⟩
theorem BX.shut{p:aj}(h:BX p):oZ p:=by
 cases p;exact⟨h.argA,h.argsA,h.textA,h.kind,h.neA,h.pathA,h.op,fun h'=>BV.2 (h.kidsA h')⟩
open Classical in
theorem wT{S:cx->Prop}:fk S=true↔∀a,jb a->(S a↔fe a):=by
 unfold fk;exact Py
theorem FF{S:cx->Prop}{n:List (cx×cx)}(h:jw S n):(n=[((im,false),(iP,true))])↔fk S=true:=by
 rw[wT];constructor
 ·rintro rfl a _;rw[<-h.2 a];exact rA.2 a
 ·intro k;exact h.unique rA k
def IA(n:Int):Nat:=((n+9223372036854775808)%18446744073709551616).toNat
def sX(n:Int)(s:Nat):Int:=((IA n/2^s%256:Nat):Int)
def io(n:Int)(i:Nat):List Int:=(List.range i).map fun j=>sX n (56-8*j)
def nums(n:Int):List Int:=io n 8
theorem wU(n:Int)(i:Nat):io n (i+1)=io n i++[sX n (56-8*i)]:=by
 unfold io;rw[List.range_succ,Oo];rfl
theorem nJ(n:Int)(i:Nat):(io n i).length=i:=by simp[io]
theorem IB(n:Int)(s:Nat):0<=sX n s/\sX n s<256:=by
 unfold sX;omega
def mr(x:UInt8):List Int:=if x=0 then [0,255] else [(x.toNat:Int)]
def cX:List UInt8->List Int
 | []=>[]
 | x::r=>mr x++cX r
def eI(s:ByteArray):List Int:=s.data.toList.map fun x=>(x.toNat:Int)
end
mutual
def bR:aC->List Int
 | .mk k n t l d=>k::(if k=3\/k=9\/k=10 then nums n else if k=4\/k=7\/k=8 then cX t.data.toList++[0,0] else if k=6 then eP l++[0] else if k=5 then eJ d++[0] else [])
def eP:List aC->List Int
 | []=>[]
 | v::r=>1::(bR v++eP r)
def eJ:List bf->List Int
 | []=>[]
 | f::r=>Jc f++eJ r
def Jc:bf->List Int
 | .mk s v=>1::(eI s++0::bR v)
end
section
variable {k b n m i c ln dn size:Nat} {t:TypeId} {a x y d:Int} {l:List ByteArray} {v:Value} {s:ByteArray}
theorem mY(f:bf):Jc f=1::(eI f.s++0::bR f.v):=by cases f;simp only[Jc];rfl
theorem dG(x:aC):bR x=x.k::(if x.k=3\/x.k=9\/x.k=10 then nums x.n else if x.k=4\/x.k=7\/x.k=8 then cX x.t.data.toList++[0,0] else if x.k=6 then eP x.l++[0] else if x.k=5 then eJ x.d++[0] else []):=by cases x;rw[bR];rfl
theorem lX:∀l m:List aC,eP (l++m)=eP l++eP m
 | [],m=>rfl
 | a::r,m=>by rw[Of,eP,eP,lX r m];simp
theorem lY:∀l m:List bf,eJ (l++m)=eJ l++eJ m
 | [],m=>rfl
 | a::r,m=>by rw[Of,eJ,eJ,lY r m];simp
theorem Cv{l:List aC}{y:aC}(h:l[i]?=some y):eP (l.take (i+1))=eP (l.take i)++1::bR y:=by
 rw[take_snoc' h,lX,eP,eP];simp
theorem Cw{l:List bf}{y:bf}(h:l[i]?=some y):eJ (l.take (i+1))=eJ (l.take i)++(1::(eI y.s++0::bR y.v)):=by
 rw[take_snoc' h,lY,eJ,eJ,mY];simp
theorem oH:∀l m:List UInt8,cX (l++m)=cX l++cX m
 | [],m=>rfl
 | a::r,m=>by
  rw[Of,cX,cX,oH r m,OY]
theorem zQ{l:List UInt8}{y:UInt8}(h:l[i]?=some y):cX (l.take (i+1))=cX (l.take i)++mr y:=by
 rw[take_snoc' h,oH,cX,cX];simp
theorem oo:∀l:List UInt8,(cX l).length<=2*l.length
 | []=>by simp[cX]
 | a::r=>by
  have:=oo r;rw[cX,mr];split<;>simp<;>omega
def cP(l:List aC):List Int:=l.flatMap bR
theorem wV{l:List aC}{y:aC}(h:l[i]?=some y):cP (l.take (i+1))=cP (l.take i)++bR y:=by
 rw[take_snoc' h];simp[cP]
theorem tU(t:ByteArray):t.data.toList.length=t.size:=by rw[Pk];rfl
theorem dU.text{k n:Int}{t:ByteArray}(h:dU k n t ln dn):t.data.toList.length<=4096:=by
 have e:=tU t;obtain⟨_,h2,_,_,h5⟩:=h;rw[e];rcases h2 with h|h|h|h<;>rcases h5 with h' | h' | h' | h' | ⟨h',_⟩|⟨h',_⟩|⟨h',h'',_⟩|⟨h',h''⟩|⟨h',h''⟩|h' | h'<;>omega
theorem dU.kind{k n:Int}{t:ByteArray}(h:dU k n t ln dn):1<=k/\k<=11:=by
 obtain⟨_,_,_,_,h5⟩:=h;rcases h5 with h' | h' | h' | h' | ⟨h',_⟩|⟨h',_⟩|⟨h',h'',_⟩|⟨h',h''⟩|⟨h',h''⟩|h' | h'<;>omega
theorem wW:∀{l:List aC},(∀y∈l,(bR y).length+40<=8300*y.size)->(eP l).length<=8300*bE l
 | [],_=>by simp[eP,bE]
 | a::r,h=>by
  have h1:=h a sM;have h2:=wW (l:=r) fun y hy=>h y (by simp[hy]);rw[eP,bE];simp;omega
theorem FG(h:aM s=true):(eI s).length<=32:=by
 simp only[aM,Ov,Pm] at h;have e:=tU s;unfold eI;rw[Oe,e];exact h.1.1.2
theorem wX:∀{l:List bf},(∀f∈l,aM f.s=true/\(bR f.v).length+40<=8300*f.v.size)->(eJ l).length<=8300*bE (l.map bf.v)
 | [],_=>by simp[eJ,bE]
 | a::r,h=>by
  obtain⟨h0,h1⟩:=h a sM;have h2:=wX (l:=r) fun y hy=>h y (by simp[hy]);have h3:=FG h0;rw[eJ,Pp,bE,mY];simp;omega
theorem IC(x:aC):aw aM x->(bR x).length+40<=8300*x.size:=by
 induction x using aC.ind with
 | h k n t l d ihl ihd=>
  intro hs;obtain⟨hh,hl,hd,hn⟩:=(aT aM _).1 hs;simp only[aC.k,aC.n,aC.t,aC.l,aC.d] at hh hl hd hn;have ht:=hh.text;have e:=dh (.mk k n t l d);rw[dG,e];show(k::(if k=3\/k=9\/k=10 then nums n else if k=4\/k=7\/k=8 then cX t.data.toList++[0,0] else if k=6 then eP l++[0] else if k=5 then eJ d++[0] else [])).length+40<=8300*(1+bE (if k=6 then l else if k=5 then d.map bf.v else []));have hx:=oo t.data.toList;by_cases h1:k=3\/k=9\/k=10
  ·rw[OW h1];have:=nJ n 8;simp only[OZ,nums];omega
  rw[OQ h1];by_cases h2:k=4\/k=7\/k=8
  ·rw[OW h2];simp only[OZ,OK,QN];omega
  rw[OQ h2];by_cases h6:k=6
  ·rw[OW h6,OW h6];have:=wW (l:=l) fun y hy=>ihl y hy (hl y hy);simp only[OZ,OK,QN];omega
  rw[OQ h6,OQ h6];by_cases h5:k=5
  ·rw[OW h5,OW h5];have:=wX (l:=d) fun f hf=>⟨hn.1 f hf,ihd f hf (hd f hf)⟩;simp only[OZ,OK,QN];omega
  ·rw[OQ h5,OQ h5];simp only[OZ,QN];omega
def oI(x:aC):Bool:=decide (x.k=0)&&(decide (x.n=0)&&(decide (x.t.size=0)&&(decide (x.l.length=0)&&decide (x.d.length=0))))
noncomputable def dx(x:aC):Bool:=oI x||aJ x
def po(x:aC):Prop:=oI x=true\/aw aM x
theorem jx{x:aC}(h:dx x=true):po x/\(bR x).length<=8500000:=by
 unfold dx at h;rw[TN] at h;rcases h with h|h
 ·refine⟨.inl h,?_⟩;simp only[oI,Ov,Pm] at h;rw[dG,h.1];simp
 ·simp only[aJ,Ov,Pm] at h;have hs:=eE.1 h.2;refine⟨.inr hs,?_⟩;have:=IC x hs;have:=h.1.1;omega
theorem po.kind{x:aC}(h:po x):0<=x.k/\x.k<=11:=by
 rcases h with h|h
 ·simp only[oI,Ov,Pm] at h;omega
 ·have:=((aT aM x).1 h).1.kind;omega
theorem po.text{x:aC}(h:po x):x.t.size<=4096:=by
 rcases h with h|h
 ·simp only[oI,Ov,Pm] at h;omega
 ·have:=((aT aM x).1 h).1.text
  rwa [tU] at this
theorem po.list{x:aC}(h:po x):∀y∈x.l,po y:=by
 intro y hy;rcases h with h|h
 ·simp only[oI,Ov,Pm] at h;have:=OL h.2.2.2.1;rw[this] at hy;cases hy
 ·exact .inr (((aT aM x).1 h).2.1 y hy)
theorem po.doc{x:aC}(h:po x):∀f∈x.d,po f.v/\aM f.s=true:=by
 intro y hy;rcases h with h|h
 ·simp only[oI,Ov,Pm] at h;have:=OL h.2.2.2.2;rw[this] at hy;cases hy
 ·exact⟨.inr (((aT aM x).1 h).2.2.1 y hy),((aT aM x).1 h).2.2.2.1 y hy⟩
def ah(l:List Int):List Value:=l.map (Value.int .u8)
theorem rG(l m:List Int):ah (l++m)=ah l++ah m:=by simp[ah]
theorem oq(l m:List Int):strOfNums (l++m)=strOfNums l++strOfNums m:=by
 apply QO;simp[strOfNums]
theorem fl(s:ByteArray):strOfNums (eI s)=s:=by
 apply QO;apply Array.ext';simp only[strOfNums,eI,Rc,List.toList_toArray]
 conv=>rhs;rw[<-List.map_id s.data.toList]
 apply List.map_congr_left;intro x _;simp
theorem rH(s:ByteArray):(eI s).length=s.size:=by rw[eI,Oe,tU]
def bF:List Int->List Int->Int
 | [],[]=>0
 | [],_::_=>-1
 | _::_,[]=>1
 | a::r,b::s=>if a<b then -1 else if b<a then 1 else bF r s
theorem mZ:∀(p a b:List Int),bF (p++a) (p++b)=bF a b
 | [],a,b=>rfl
 | x::p,a,b=>by rw[Of,Of,bF,OQ oM,OQ oM,mZ p a b]
theorem bk(x:Int)(a b:List Int):bF (x::a) (x::b)=bF a b:=mZ [x] a b
theorem ep(h:x<y)(a b:List Int):bF (x::a) (y::b)=-1:=by rw[bF,OW h]
theorem gU(h:y<x)(a b:List Int):bF (x::a) (y::b)=1:=by rw[bF,OQ oM,OW h]
theorem Cx(a:List Int):bF a a=0:=by have:=mZ a [] [];simpa[bF] using this
theorem rI:∀l m:List UInt8,Lib.compareBytes l m=bF (l.map fun x=>(x.toNat:Int)) (m.map fun x=>(x.toNat:Int))
 | [],[]=>rfl
 | [],_::_=>rfl
 | _::_,[]=>rfl
 | a::r,b::s=>by
  rw[Pp,Pp,bF,Lib.compareBytes,rI r s];have e:∀p q:UInt8,p<q↔(p.toNat:Int)<(q.toNat:Int):=fun p q=>by rw[Pg];omega
  by_cases h:a<b
  ·rw[OW h,OW ((e a b).1 h)]
  ·have h2:¬((a.toNat:Int)<(b.toNat:Int)):=fun h'=>h ((e a b).2 h');by_cases g:b<a
   ·rw[OQ h,OW g,OQ h2,OW ((e b a).1 g)]
   ·have g2:¬((b.toNat:Int)<(a.toNat:Int)):=fun h'=>g ((e b a).2 h');rw[OQ h,OQ g,OQ h2,OQ g2]
def zR(c d:Int):Int:=if c≠0 then c else d
theorem lZ(d:Int):zR 0 d=d:=rfl
theorem FH{c:Int}(h:c≠0)(d:Int):zR c d=c:=by unfold zR;rw[OW h]
theorem ot(a b c:Int):zR (zR a b) c=zR a (zR b c):=by
 unfold zR;by_cases h:a=0<;>simp[h]
def Jd:Nat->Nat->List Int
 | 0,_=>[]
 | k+1,u=>((u/256^k%256:Nat):Int)::Jd k u
theorem tV(a b:List Int)(u v:Nat):∀k,bF (Jd k u++a) (Jd k v++b)=zR (cd ((u%256^k:Nat):Int) ((v%256^k:Nat):Int)) (bF a b)
 | 0=>by
  have e:∀x:Nat,x%256^0=0:=fun x=>by simp[Nat.mod_one]
  rw[e,e,gW,OQ oM,OQ oM,lZ];rfl
 | k+1=>by
  have e:∀x:Nat,x%256^(k+1)=256^k*(x/256^k%256)+x%256^k:=fun x=>by
   rw[TM,Nat.mod_mul,Nat.add_comm]
  have hp:0<256^k:=Nat.pow_pos oM;have hu:=TS u hp;have hv:=TS v hp;rw[Jd,Jd,Of,Of];rcases RL (u/256^k%256) (v/256^k%256) with h|h|h
  ·have hm:=Nat.mul_le_mul_left (256^k) (Nat.succ_le_of_lt h);rw[Nat.mul_succ] at hm;rw[ep oM,e,e,gW,OW oM];rfl
  ·rw[h,bk,tV a b u v k,e,e,h];congr 1;rw[gW,gW];generalize 256^k*(v/256^k%256)=D;generalize u%256^k=U at*;generalize v%256^k=V at*;rcases RL U V with h1|h1|h1
   ·have h2:D+U<D+V:=oM
    rw[OW h1,OW h2]
   ·subst h1;rw[OQ (Qr _),OQ (Qr _),OQ (Qr _),OQ (Qr _)]
   ·have h2:¬U<V:=oM
    have h3:¬D+U<D+V:=oM
    have h4:D+V<D+U:=oM
    rw[OQ h2,OW h1,OQ h3,OW h4]
  ·have hm:=Nat.mul_le_mul_left (256^k) (Nat.succ_le_of_lt h);rw[Nat.mul_succ] at hm;rw[gU oM,e,e,gW,OQ oM,OW oM];rfl
theorem wY(n:Int):nums n=Jd 8 (IA n):=by
 simp[nums,io,sX,Jd,List.range,List.range.loop]
def gx(n:Int):Prop:=-9223372036854775808<=n/\n<=9223372036854775807
theorem zS{n m:Int}(hn:gx n)(hm:gx m)(a b:List Int):bF (nums n++a) (nums m++b)=zR (cd n m) (bF a b):=by
 unfold gx at hn hm;rw[wY,wY,tV];congr 1
 have e:∀x:Int,-9223372036854775808<=x/\x<=9223372036854775807->((IA x%256^8:Nat):Int)=x+9223372036854775808:=fun x hx=>by
  have h8:(256:Nat)^8=18446744073709551616:=by decide
  unfold IA;rw[h8];omega
 rw[e n hn,e m hm];unfold cd Lib.compareInt;by_cases h1:n<m
 ·rw[OW oM,OW h1]
 ·rw[OQ oM,OQ h1];by_cases h2:n>m
  ·rw[OW oM,OW h2]
  ·rw[OQ oM,OQ h2]
theorem ou{x:UInt8}(h:x≠0):0<x.toNat:=by
 rcases PZ x.toNat with h0|h0
 ·exact absurd (QM.1 h0) h
 ·exact h0
theorem kY:mr 0=[0,255]:=rfl
theorem fS{x:UInt8}(h:x≠0):mr x=[(x.toNat:Int)]:=by unfold mr;rw[OQ h]
theorem rJ(a b:List Int):∀l m:List UInt8,bF (cX l++(0::0::a)) (cX m++(0::0::b))=zR (Lib.compareBytes l m) (bF a b)
 | [],[]=>by simp only[cX,PG,Lib.compareBytes,lZ];rw[bk,bk]
 | [],y::s=>by
  simp only[cX,PG,Lib.compareBytes];by_cases h:y=0
  ·subst h;simp only[kY,Of,PG];rw[bk,ep oM];rfl
  ·have:=ou h;simp only[fS h,Of,PG];rw[ep oM];rfl
 | x::r,[]=>by
  simp only[cX,PG,Lib.compareBytes];by_cases h:x=0
  ·subst h;simp only[kY,Of,PG];rw[bk,gU oM];rfl
  ·have:=ou h;simp only[fS h,Of,PG];rw[gU oM];rfl
 | x::r,y::s=>by
  simp only[cX,Lib.compareBytes,OY];by_cases h:x<y
  ·have hl:=Pg.1 h;rw[OW h];by_cases hx:x=0
   ·subst hx;have hy:y≠0:=by rintro rfl;exact absurd hl (Qr _)
    have hz:(0:UInt8).toNat=0:=rfl;have:=ou hy;simp only[kY,fS hy,Of,PG];rw[ep oM];rfl
   ·have hy:y≠0:=by rintro rfl;exact absurd hl (TO _)
    simp only[fS hx,fS hy,Of,PG];rw[ep oM];rfl
  ·rw[OQ h];by_cases g:y<x
   ·have hl:=Pg.1 g;rw[OW g];by_cases hy:y=0
    ·subst hy;have hx:x≠0:=by rintro rfl;exact absurd hl (Qr _)
     have:=ou hx;simp only[kY,fS hx,Of,PG];rw[gU oM];rfl
    ·have hx:x≠0:=by rintro rfl;exact absurd hl (TO _)
     simp only[fS hx,fS hy,Of,PG];rw[gU oM];rfl
   ·have e:x=y:=by
     apply QM.1;have h1:¬x.toNat<y.toNat:=fun h'=>h (Pg.2 h');have h2:¬y.toNat<x.toNat:=fun h'=>g (Pg.2 h');omega
    subst e;rw[OQ g,mZ];exact rJ a b r s
theorem rL(a b:List Int):∀l m:List UInt8,(∀x∈l,x≠0)->(∀x∈m,x≠0)->
 bF ((l.map fun x=>(x.toNat:Int))++(0::a)) ((m.map fun x=>(x.toNat:Int))++(0::b))=zR (Lib.compareBytes l m) (bF a b)
 | [],[],_,_=>by simp only[RM,PG,Lib.compareBytes,lZ];rw[bk]
 | [],y::s,_,hm=>by
  have:=ou (hm y sM);simp only[RM,PG,Pp,Of,Lib.compareBytes];rw[ep oM];rfl
 | x::r,[],hl,_=>by
  have:=ou (hl x sM);simp only[RM,PG,Pp,Of,Lib.compareBytes];rw[gU oM];rfl
 | x::r,y::s,hl,hm=>by
  simp only[Pp,Of,Lib.compareBytes];by_cases h:x<y
  ·have h1:=Pg.1 h;rw[OW h,ep oM];rfl
  ·rw[OQ h];by_cases g:y<x
   ·have h1:=Pg.1 g;rw[OW g,gU oM];rfl
   ·have e:x=y:=by
     apply QM.1;have h1:¬x.toNat<y.toNat:=fun h'=>h (Pg.2 h');have h2:¬y.toNat<x.toNat:=fun h'=>g (Pg.2 h');omega
    subst e;rw[OQ g,bk];exact rL a b r s (fun x hx=>hl x (by simp[hx])) fun x hx=>hm x (by simp[hx])
theorem BY(h:aM s=true):∀x∈s.data.toList,x≠0:=by
 intro x hx e;subst e;simp only[aM,Ov] at h;have:=Qd.1 h.2 _ hx
 revert this
 decide
end
mutual
def bS:aC->Prop
 | .mk _ n _ l d=>gx n/\tW l/\tX d
def tW:List aC->Prop
 | []=>True
 | x::r=>bS x/\tW r
def tX:List bf->Prop
 | []=>True
 | f::r=>FI f/\tX r
def FI:bf->Prop
 | .mk _ v=>bS v
end
section
variable {k b n g m c:Nat} {w:World} {a x y d:Int} {l:List ByteArray} {v:Value} {s:ByteArray} {xs:List Value}
theorem Cy(l:List aC):tW l↔∀y∈l,bS y:=by
 induction l with
 | nil=>simp[tW]
 | cons x r ih=>simp[tW,ih]
theorem Cz(f:bf):FI f↔bS f.v:=by cases f;simp only[FI];rfl
theorem DB(d:List bf):tX d↔∀f∈d,bS f.v:=by
 induction d with
 | nil=>simp[tX]
 | cons x r ih=>simp[tX,ih,Cz]
theorem fT(x:aC):bS x↔gx x.n/\(∀y∈x.l,bS y)/\∀f∈x.d,bS f.v:=by
 cases x;rw[bS,Cy,DB];rfl
def BZ(x:aC):Prop:=aw aM x/\bS x
theorem BZ.list{x:aC}(h:BZ x):∀y∈x.l,BZ y:=fun y hy=>⟨((aT aM x).1 h.1).2.1 y hy,((fT x).1 h.2).2.1 y hy⟩
theorem BZ.doc{x:aC}(h:BZ x):∀f∈x.d,BZ f.v/\aM f.s=true:=fun f hf=>⟨⟨((aT aM x).1 h.1).2.2.1 f hf,((fT x).1 h.2).2.2 f hf⟩,((aT aM x).1 h.1).2.2.2.1 f hf⟩
def Je(x:aC):Prop:=∀y,BZ x->BZ y->∀a b,bF (bR x++a) (bR y++b)=zR (aZ x y) (bF a b)
theorem rM(a b:List Int):∀(l m:List aC),(∀x∈l,Je x/\BZ x)->(∀y∈m,BZ y)->bF (eP l++(0::a)) (eP m++(0::b))=zR (dA l m) (bF a b)
 | [],[],_,_=>by simp only[eP,PG,dA,SV,Rr,lZ];rw[bk]
 | [],y::s,_,_=>by
  simp only[eP,PG,Of,dA,List.isEmpty_cons];rw[ep oM];rfl
 | x::r,[],_,_=>by
  simp only[eP,PG,Of,dA];rw[gU oM];rfl
 | x::r,y::s,hl,hm=>by
  have h1:=hl x sM;have h2:=hm y sM;simp only[eP,Of,OY,dA];rw[bk,h1.1 y h1.2 h2,rM a b r s (fun z hz=>hl z (by simp[hz])) (fun z hz=>hm z (by simp[hz])),<-ot];rfl
theorem tY(a b:List Int):∀(l m:List bf),(∀f∈l,Je f.v/\BZ f.v/\aM f.s=true)->(∀g∈m,BZ g.v/\aM g.s=true)->bF (eJ l++(0::a)) (eJ m++(0::b))=zR (cI l m) (bF a b)
 | [],[],_,_=>by simp only[eJ,PG,cI,SV,Rr,lZ];rw[bk]
 | [],y::s,_,_=>by
  simp only[eJ,mY,PG,Of,cI,List.isEmpty_cons];rw[ep oM];rfl
 | x::r,[],_,_=>by
  simp only[eJ,mY,PG,Of,cI];rw[gU oM];rfl
 | x::r,y::s,hl,hm=>by
  have h1:=hl x sM;have h2:=hm y sM;simp only[eJ,mY,Of,OY,cI,uN];rw[bk];unfold eI;rw[rL _ _ _ _ (BY h1.2.2) (BY h2.2),h1.1 y.v h1.2.1 h2.1,tY a b r s (fun z hz=>hl z (by simp[hz])) (fun z hz=>hm z (by simp[hz])),<-ot,<-ot];rfl
theorem tZ(x:aC):Je x:=by
 induction x using aC.ind with
 | h k n t l d ihl ihd=>
  intro y hx hy a b;rw[dG,dG,Of,Of,iH];by_cases hk:(aC.mk k n t l d).k=y.k
  ·have hkk:¬((aC.mk k n t l d).k≠y.k):=fun h=>h hk;rw[OQ hkk,<-hk,bk];have hxi:=(fT _).1 hx.2;have hyi:=(fT _).1 hy.2;by_cases h1:(aC.mk k n t l d).k=3\/(aC.mk k n t l d).k=9\/(aC.mk k n t l d).k=10
   ·rw[OW h1,OW h1,OW h1];exact zS hxi.1 hyi.1 a b
   rw[OQ h1,OQ h1,OQ h1];by_cases h2:(aC.mk k n t l d).k=4\/(aC.mk k n t l d).k=7\/(aC.mk k n t l d).k=8
   ·rw[OW h2,OW h2,OW h2,OY,OY];exact rJ a b _ _
   rw[OQ h2,OQ h2,OQ h2];by_cases h3:(aC.mk k n t l d).k=6
   ·rw[OW h3,OW h3,OW h3,OY,OY];exact rM a b _ _ (fun z hz=>⟨ihl z hz,hx.list z hz⟩) fun z hz=>hy.list z hz
   rw[OQ h3,OQ h3,OQ h3];by_cases h4:(aC.mk k n t l d).k=5
   ·rw[OW h4,OW h4,OW h4,OY,OY];exact tY a b _ _ (fun z hz=>⟨ihd z hz,hx.doc z hz⟩) fun z hz=>hy.doc z hz
   rw[OQ h4,OQ h4,OQ h4];rfl
  ·rw[OW hk];unfold cd Lib.compareInt;rcases Int.lt_trichotomy (aC.mk k n t l d).k y.k with h|h|h
   ·rw[OW h,ep h];rfl
   ·exact absurd h hk
   ·rw[OQ (show ¬(aC.mk k n t l d).k<y.k by omega),OW h,gU h];rfl
def jN:aj->Prop
 | .mk _ _ arg args _ _ _ _ _ _ _ _ _ kids=>bS arg.2/\(∀x∈args.xs,bS x.2)/\NumsPs kids
where NumsPs:List aj->Prop
 | []=>True
 | x::r=>jN x/\NumsPs r
theorem zT{l:List aj}:jN.NumsPs l↔∀k∈l,jN k:=by
 induction l with
 | nil=>simp[jN.NumsPs]
 | cons y r ih=>simp[jN.NumsPs,ih]
theorem ta(p:aj):jN p↔bS p.arg.2/\(∀x∈p.args.xs,bS x.2)/\∀k∈p.kids,jN k:=by
 cases p;simp only[jN,zT];rfl
def bY(name:ByteArray):List bf->Nat->Int
 | [],_=>-1
 | f::r,i=>if f.s.toList==name.toList then(i:Int) else bY name r (i+1)
def fH(x:aC)(name:ByteArray):Int:=if x.k==5 then bY name x.d 0 else -1
theorem FK(x:aC)(c:VC)(name:ByteArray)(w:World)(h:RW w c x):
 Calls prog 153 #[c.val,.string name] w (Rt w (.int .i64 (fH x name))):=by
 have HO:=qD h.open;clear h;cases hk:(c.k != 5)
 ·have hn:c.dn<=140737488355328:=by have:=HO.out.dsz;unfold aF at this;omega
  have HE:Hid (fH x name=bY name x.d 0):=by
   have:=HO.out.k;simp at hk;simp[fH,<-this,hk,Hid]
  go_enter func153,ntmps153;go_wp2_with fail
  go_loopw [4,5,12] (fun v4 v5 v12 wr=>∃i:Nat,i<=c.dn/\v4=.int .i64 0/\v12=.int .i64 i/\bY name x.d 0=bY name (x.d.drop i) i/\aG wr w.heap.size 29 c.arr/\Bl w wr) (fun _ _ v12 _=>c.dn-(intOf v12).toNat)
  ·exact⟨0,ON _,rfl,rfl,rfl,aG.Mm rfl,(OG _ _).alloc (qL) _⟩
  case round=>
   obtain⟨i,hi,rfl,rfl,hall,N1,N2⟩:=hrel;have e4:=N1.cell 4;simp at e4;have HA:=qD hall;clear hall;by_cases hlt:i<c.dn
   ·obtain⟨b,off,hDA,_,hel⟩:=HO.out.da oM;obtain⟨f,hf⟩:∃f,x.d[i]?=some f:=⟨_,OH (by have:=HO.out.dn;omega)⟩;obtain⟨hs,_,_⟩:=hel i f hf;have hs':=(N2.cell (p:=⟨b,off+i*6,none⟩) (Oj w _ hs)).trans hs;rw[hDA] at e4;have HD:=qD (cU hf);have J1:=qD N1;have J2:=qD N2;clear hs hel hf hDA N1 N2;cases hq:(f.s.toList==name.toList)
    ·have HF:Hid (bY name x.d 0=bY name (x.d.drop (i+1)) (i+1)):=by rw[Hid,HA.out,HD.out,bY,hq];rfl
     go_wp2_with fail;go_roundw
     ·exact⟨i+1,by omega,rfl,by go_num,HF.out,J1.out,J2.out⟩
     ·exact iO
    ·have HF:Hid (bY name x.d 0=(i:Int)):=by rw[Hid,HA.out,HD.out,bY,hq];rfl
     go_wp2;go_ret;exact⟨by rw[HE.out,HF.out];rfl,J2.out⟩
   ·have HF:Hid (bY name x.d 0=-1):=by rw[Hid,HA.out,Og (by have:=HO.out.dn;omega)];rfl
    have J2:=qD N2;clear N1 N2;go_wp2;go_ret;exact⟨by rw[HE.out,HF.out];rfl,J2.out⟩
 ·have HE:Hid (fH x name=-1):=by
   have:=HO.out.k;simp at hk;simp[fH,<-this,hk,Hid]
  go_enter func153,ntmps153;go_wp2;go_ret;exact⟨by rw[HE.out];rfl,(OG _ _).alloc (qL) _⟩
end
end Go.Proofs.YtgfoliedmhgpnaaGreatDoor
