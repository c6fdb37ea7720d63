/- A part of the proof. -/
import Derived.Test.YtgfoliedmhgpnaaGreatDoorBn2
import Derived.Deep.MidRow
import Derived.Shelf.Unicode.DecodeSlow
import Derived.Maps.Own
import Derived.Maps.OwnSet
import Derived.StringKeys
import Derived.Ground.NamesProg
import Derived.Shelf.Unicode.ValidAny
set_option maxRecDepth 100000
set_option maxHeartbeats 16000000
set_option linter.unusedSimpArgs false
open Go.Proofs.Tryz
open ByteArray (empty)
namespace Go.Proofs.YtgfoliedmhgpnaaGreatDoor
structure xO{α:Type}(cm:α->α->Int)(V:α->Prop):Prop where
 anti:∀x y,cm y x=-cm x y
 tr:∀x y z,TR (cm x y) (cm y z) (cm x z)
 eq:∀x y,V x->V y->cm x y=0->x=y
section
variable {l:List ByteArray} {b c k m size:Nat} {a x y:Int} {s:ByteArray} {t:TypeId} {P:Program}
section
variable {α:Type} {cm:α->α->Int} {V:α->Prop}
theorem xO.JP(H:xO cm V)(x:α):cm x x=0:=by have:=H.anti x x;omega
def ch(cm:α->α->Int)(a:α)(l:List (α×α)):Prop:=∃s∈l,cm s.1 a<=0/\cm a s.2<0
theorem gY(a:α):¬ch cm a []:=by rintro⟨s,hs,_⟩;simp at hs
theorem dG{a:α}{s:α×α}{l:List (α×α)}:ch cm a (s::l)↔(cm s.1 a<=0/\cm a s.2<0)\/ch cm a l:=by
 constructor
 ·rintro⟨t,ht,h⟩;rcases LG.1 ht with rfl|ht
  ·exact .inl h
  ·exact .inr ⟨t,ht,h⟩
 ·rintro(h|⟨t,ht,h⟩)
  ·exact⟨s,by simp,h⟩
  ·exact⟨t,by simp[ht],h⟩
theorem fK{a:α}{l m:List (α×α)}:ch cm a (l++m)↔ch cm a l\/ch cm a m:=by
 induction l with
 | nil=>simp only[NV];exact⟨.inr,fun h=>h.resolve_left (gY a)⟩
 | cons s r ih=>rw[Ly,dG,dG,ih,or_assoc]
theorem fL{a:α}{s:α×α}:ch cm a [s]↔(cm s.1 a<=0/\cm a s.2<0):=by rw[dG];exact⟨fun h=>h.resolve_right (gY a),.inl⟩
theorem CW{a:α}{l m:List (α×α)}(h:l.Perm m):ch cm a l↔ch cm a m:=by
 constructor
 ·rintro⟨s,hs,k⟩;exact⟨s,h.subset hs,k⟩
 ·rintro⟨s,hs,k⟩;exact⟨s,h.symm.subset hs,k⟩
structure NF(cm:α->α->Int)(V:α->Prop)(l:List (α×α)):Prop where
 ne:∀s∈l,cm s.1 s.2<0/\V s.1/\V s.2
 ord:l.Pairwise fun s t=>cm s.2 t.1<0
theorem NF.nil:NF cm V []:=⟨fun s hs=>by simp at hs,.nil⟩
theorem NF.tail{s:α×α}{l:List (α×α)}(h:NF cm V (s::l)):NF cm V l:=⟨fun t ht=>h.ne t (by simp[ht]),List.Pairwise.of_cons h.ord⟩
theorem NF.head{s:α×α}{l:List (α×α)}(h:NF cm V (s::l)){t:α×α}(ht:t∈l):cm s.2 t.1<0:=List.rel_of_pairwise_cons h.ord ht
theorem AI(H:xO cm V):∀{l m:List (α×α)},NF cm V l->NF cm V m->(∀a,V a->(ch cm a l↔ch cm a m))->l=m:=by
 intro l
 induction l with
 | nil=>
  intro m _ hm h;cases m with
  | nil=>rfl
  | cons t q=>
   have ht:=hm.ne t (by simp);exact absurd ((h t.1 ht.2.1).2 (dG.2 (.inl ⟨by rw[H.JP];omega,ht.1⟩))) (gY _)
 | cons s r ih=>
  intro m hl hm h;cases m with
  | nil=>
   have hs:=hl.ne s (by simp);exact absurd ((h s.1 hs.2.1).1 (dG.2 (.inl ⟨by rw[H.JP];omega,hs.1⟩))) (gY _)
  | cons t q=>
   have hs:=hl.ne s (by simp);have ht:=hm.ne t (by simp)
   have low:∀{s t:α×α} {r q:List (α×α)},NF cm V (s::r)->NF cm V (t::q)->(ch cm s.1 (s::r)->ch cm s.1 (t::q))->cm t.1 s.1<=0:=by
    intro s t r q hl hm h;have hs:=hl.ne s (by simp);rcases dG.1 (h (dG.2 (.inl ⟨by rw[H.JP];omega,hs.1⟩))) with k|⟨u,hu,k⟩
    ·exact k.1
    ·have h1:=hm.head hu;have h2:=(hm.ne t (by simp)).1;have h3:=H.tr t.1 t.2 u.1 (by omega) (by omega);have h4:=H.tr t.1 u.1 s.1 (by omega) (by omega);omega
   have e1:s.1=t.1:=by
    have a1:=low hl hm (h s.1 hs.2.1).1;have a2:=low hm hl (h t.1 ht.2.1).2;have:=H.anti s.1 t.1;exact H.eq _ _ hs.2.1 ht.2.1 (by omega)
   have up:∀{s t:α×α} {r q:List (α×α)},s.1=t.1->NF cm V (s::r)->(ch cm s.2 (t::q)->ch cm s.2 (s::r))->¬cm s.2 t.2<0:=by
    intro s t r q e hl h hlt;have hs:=hl.ne s (by simp);have:=h (dG.2 (.inl ⟨by rw[<-e];omega,hlt⟩));rcases dG.1 this with k|⟨u,hu,k⟩
    ·have:=H.JP s.2;omega
    ·have h1:=hl.head hu;have:=H.anti s.2 u.1;omega
   have e2:s.2=t.2:=by
    have a1:=up e1 hl (h s.2 hs.2.2).2;have a2:=up e1.symm hm (h t.2 ht.2.2).1;have:=H.anti s.2 t.2;exact H.eq _ _ hs.2.2 ht.2.2 (by omega)
   obtain rfl:s=t:=Prod.ext e1 e2;congr 1;refine ih hl.tail hm.tail fun a ha=>?_
   have half:∀{r q:List (α×α)},NF cm V (s::r)->(ch cm a (s::r)->ch cm a (s::q))->ch cm a r->ch cm a q:=by
    intro r q hl h hr;rcases dG.1 (h (dG.2 (.inr hr))) with k|k
    ·obtain⟨u,hu,k2⟩:=hr;have h1:=hl.head hu;have h2:=H.tr s.2 u.1 a (by omega) k2.1;have:=H.anti a s.2;omega
    ·exact k
   exact⟨half hl (h a ha).1,half hm (h a ha).2⟩
def eT(cm:α->α->Int)(c:List (α×α))(s:α×α):List (α×α):=
 match c.getLast? with
 | none=>c++[s]
 | some l=>if cm l.2 s.1<0 then c++[s] else if cm l.2 s.2<0 then c.dropLast++[(l.1,s.2)] else c
def fj(cm:α->α->Int)(l:List (α×α)):List (α×α):=l.foldl (eT cm) []
theorem iI(l:List (α×α))(s:α×α):fj cm (l++[s])=eT cm (fj cm l) s:=by unfold fj;rw[List.foldl_append];rfl
structure MI(cm:α->α->Int)(V:α->Prop)(P c:List (α×α)):Prop where
 nf:NF cm V c
 mem:∀a,ch cm a c↔ch cm a P
 len:c.length<=P.length
 low:∀l∈c,∃p∈P,l.1=p.1
theorem mY{β:Type}{R:β->β->Prop}{l:List β}{a:β}:(l++[a]).Pairwise R↔l.Pairwise R/\∀x∈l,R x a:=by
 rw[Ky];constructor
 ·rintro⟨h1,_,h3⟩;exact⟨h1,fun x hx=>h3 x hx a (by simp)⟩
 ·rintro⟨h1,h2⟩;exact⟨h1,by simp,fun x hx y hy=>by simp at hy;subst hy;exact h2 x hx⟩
theorem MI.step(H:xO cm V){P c:List (α×α)}{s:α×α}(h:MI cm V P c)(hs:cm s.1 s.2<0/\V s.1/\V s.2)(hlo:∀p∈P,cm p.1 s.1<=0):MI cm V (P++[s]) (eT cm c s):=by
 rcases Mc c with rfl|⟨d,l,rfl⟩
 ·have e:eT cm [] s=[s]:=rfl;rw[e];refine⟨⟨fun t ht=>by simp at ht;subst ht;exact hs,by simp⟩,fun a=>?_,by simp,fun t ht=>⟨s,by simp,by simp at ht;rw[ht]⟩⟩;rw[fK];exact⟨.inr,fun k=>k.resolve_left fun hp=>gY a ((h.mem a).2 hp)⟩
 ·rw[MP] at h ⊢;have hlen:=h.len;simp only[KV,Ks,List.length_nil] at hlen;have hl:=h.nf.ne l (by simp);obtain⟨hd,hdl⟩:=mY.1 h.nf.ord
  have hls:cm l.1 s.1<=0:=by
   obtain⟨p,hp,e⟩:=h.low l (by simp);rw[e];exact hlo p hp
  have e0:(d++[l]).getLast?=some l:=by simp
  unfold eT;rw[e0];simp only;by_cases h1:cm l.2 s.1<0
  ·rw[Kb h1];refine⟨⟨fun t ht=>?_,mY.2 ⟨h.nf.ord,fun t ht=>?_⟩⟩,fun a=>?_,by simp;omega,fun t ht=>?_⟩
   ·rcases KI.1 ht with ht|ht
    ·exact h.nf.ne t ht
    ·simp at ht;subst ht;exact hs
   ·rcases KI.1 ht with ht|ht
    ·have a1:=hdl t ht;have a2:=H.tr t.2 l.1 l.2 (by omega) (by omega);have a3:=H.tr t.2 l.2 s.1 (by omega) (by omega);omega
    ·simp at ht;subst ht;exact h1
   ·rw[fK (l:=d++[l]),fK (l:=P),h.mem]
   ·rcases KI.1 ht with ht|ht
    ·obtain⟨p,hp,e⟩:=h.low t ht;exact⟨p,by simp[hp],e⟩
    ·simp at ht;subst ht;exact⟨t,by simp,rfl⟩
  ·rw[KU h1];by_cases h2:cm l.2 s.2<0
   ·rw[Kb h2,List.dropLast_concat];refine⟨⟨fun t ht=>?_,mY.2 ⟨hd,hdl⟩⟩,fun a=>?_,by simp;omega,fun t ht=>?_⟩
    ·rcases KI.1 ht with ht|ht
     ·exact h.nf.ne t (by simp[ht])
     ·simp at ht;subst ht;have:=H.tr l.1 l.2 s.2 (by omega) (by omega);exact⟨by show cm l.1 s.2<0;omega,hl.2.1,hs.2.2⟩
    ·rw[fK (l:=d),fK (l:=P),<-h.mem,fK (l:=d),or_assoc];apply or_congr Iff.rfl;rw[fL,fL,fL];simp only;constructor
     ·rintro⟨k1,k2⟩;by_cases k3:cm a l.2<0
      ·exact .inl ⟨k1,k3⟩
      ·have:=H.anti a l.2;have:=H.anti l.2 s.1;have:=H.tr s.1 l.2 a (by omega) (by omega);exact .inr ⟨by omega,k2⟩
     ·rintro(⟨k1,k2⟩|⟨k1,k2⟩)
      ·have:=H.tr a l.2 s.2 (by omega) (by omega);exact⟨k1,by omega⟩
      ·have:=H.tr l.1 s.1 a hls k1;exact⟨by omega,k2⟩
    ·rcases KI.1 ht with ht|ht
     ·obtain⟨p,hp,e⟩:=h.low t (by simp[ht]);exact⟨p,by simp[hp],e⟩
     ·simp at ht;subst ht;obtain⟨p,hp,e⟩:=h.low l (by simp);exact⟨p,by simp[hp],e⟩
   ·rw[KU h2];refine⟨h.nf,fun a=>?_,by simp;omega,fun t ht=>?_⟩
    ·rw[fK (l:=P),<-h.mem];refine⟨.inl,fun k=>k.elim id fun k=>?_⟩;rw[fL] at k;rw[fK,fL];have:=H.tr l.1 s.1 a hls k.1;have:=H.anti s.2 l.2;have:=H.tr a s.2 l.2 (by omega) (by omega);exact .inr ⟨by omega,by omega⟩
    ·obtain⟨p,hp,e⟩:=h.low t ht;exact⟨p,by simp[hp],e⟩
theorem AJ(H:xO cm V){l:List (α×α)}(hne:∀s∈l,cm s.1 s.2<0/\V s.1/\V s.2)(hs:l.Pairwise fun s t=>cm s.1 t.1<=0):MI cm V l (fj cm l):=by
 have key:∀i,i<=l.length->MI cm V (l.take i) (fj cm (l.take i)):=by
  intro i
  induction i with
  | zero=>intro _;exact⟨NF.nil,fun a=>Iff.rfl,by simp[fj],fun t ht=>by simp[fj] at ht⟩
  | succ i ih=>
   intro hi;have hx:l[i]?=some l[i]:=Jv (by omega);rw[take_snoc' hx,iI];refine(ih (by omega)).step H (hne _ (MB _)) fun p hp=>?_
   have h2:(l.take i++[l[i]]).Pairwise fun s t=>cm s.1 t.1<=0:=by
    rw[<-take_snoc' hx];exact hs.sublist (List.take_sublist _ _)
   exact(mY.1 h2).2 p hp
 have:=key l.length (qL)
 rwa [NH] at this
theorem AK(c:List (α×α))(s:α×α):(eT cm c s).length<=c.length+1:=by
 unfold eT;split
 ·simp
 ·split
  ·simp
  ·split
   ·simp
   ·omega
theorem xP(l:List (α×α)):(fj cm l).length<=l.length:=by
 have:∀c:List (α×α),(l.foldl (eT cm) c).length<=c.length+l.length:=by
  induction l with
  | nil=>intro c;simp
  | cons s r ih=>
   intro c;have h1:=ih (eT cm c s);have h2:=AK (cm:=cm) c s;simp only[List.foldl_cons,Ks];omega
 simpa[fj] using this []
structure yi(cm:α->α->Int)(V:α->Prop)(l m L R c:List (α×α)):Prop where
 nf:NF cm V c
 mem:∀a,(ch cm a l/\ch cm a m)↔(ch cm a c\/(ch cm a L/\ch cm a R))
 up:∀p∈c,(∀s∈L,cm p.2 s.1<0)\/(∀t∈R,cm p.2 t.1<0)
def nO(cm:α->α->Int)(a b:α):α:=if cm a b<0 then b else a
def ll(cm:α->α->Int)(a b:α):α:=if cm b a<0 then b else a
theorem yj(H:xO cm V){a b x:α}:cm (nO cm a b) x<=0↔cm a x<=0/\cm b x<=0:=by
 unfold nO;split
 ·rename_i h
  exact⟨fun k=>⟨by have:=H.tr a b x (by omega) k;omega,k⟩,fun k=>k.2⟩
 ·rename_i h
  have:=H.anti a b;exact⟨fun k=>⟨k,by have:=H.tr b a x (by omega) k;omega⟩,fun k=>k.1⟩
theorem yl(H:xO cm V){a b x:α}:cm x (ll cm a b)<0↔cm x a<0/\cm x b<0:=by
 unfold ll;split
 ·rename_i h
  exact⟨fun k=>⟨by have:=H.tr x b a (by omega) (by omega);omega,k⟩,fun k=>k.2⟩
 ·rename_i h
  have:=H.anti b a;exact⟨fun k=>⟨k,by have:=H.tr x a b (by omega) (by omega);omega⟩,fun k=>k.1⟩
theorem ym(H:xO cm V){a b x:α}(h:cm x a<0\/cm x b<0):cm x (nO cm a b)<0:=by
 unfold nO;split
 ·rename_i k
  rcases h with h|h
  ·have:=H.tr x a b (by omega) (by omega);omega
  ·exact h
 ·rename_i k
  have:=H.anti a b;rcases h with h|h
  ·exact h
  ·have:=H.tr x b a (by omega) (by omega);omega
theorem Fh{a b:α}(ha:V a)(hb:V b):V (nO cm a b):=by unfold nO;split<;>assumption
theorem Fi{a b:α}(ha:V a)(hb:V b):V (ll cm a b):=by unfold ll;split<;>assumption
def oN(cm:α->α->Int)(c:List (α×α))(u:α×α):List (α×α):=if cm u.1 u.2<0 then c++[u] else c
theorem uo(H:xO cm V){c:List (α×α)}{u:α×α}{a:α}:ch cm a (oN cm c u)↔ch cm a c\/(cm u.1 a<=0/\cm a u.2<0):=by
 unfold oN;split
 ·rw[fK,fL]
 ·rename_i h
  refine⟨.inl,fun k=>k.elim id fun k=>?_⟩;have:=H.tr u.1 a u.2 k.1 (by omega);omega
theorem yi.start{l m:List (α×α)}:yi cm V l m l m []:=⟨NF.nil,fun a=>⟨.inr,fun h=>h.resolve_left (gY a)⟩,fun p hp=>by simp at hp⟩
theorem yi.add(H:xO cm V){l m L R c:List (α×α)}{s t:α×α}(h:yi cm V l m (s::L) (t::R) c)(hl:NF cm V (s::L))(hr:NF cm V (t::R)):
 NF cm V (oN cm c (nO cm s.1 t.1,ll cm s.2 t.2)):=by
 have hs:=hl.ne s (by simp);have ht:=hr.ne t (by simp);unfold oN;split
 ·rename_i hu
  refine⟨fun p hp=>?_,mY.2 ⟨h.nf.ord,fun p hp=>?_⟩⟩
  ·rcases KI.1 hp with hp|hp
   ·exact h.nf.ne p hp
   ·simp at hp;subst hp;exact⟨hu,Fh hs.2.1 ht.2.1,Fi hs.2.2 ht.2.2⟩
  ·rcases h.up p hp with k|k
   ·exact ym H (.inl (k s (by simp)))
   ·exact ym H (.inr (k t (by simp)))
 ·exact h.nf
theorem yi.left(H:xO cm V){l m L R c:List (α×α)}{s t:α×α}(h:yi cm V l m (s::L) (t::R) c)(hl:NF cm V (s::L))(hr:NF cm V (t::R))(hlt:cm s.2 t.2<0):
 yi cm V l m L (t::R) (oN cm c (nO cm s.1 t.1,ll cm s.2 t.2)):=by
 refine⟨h.add H hl hr,fun a=>?_,fun p hp=>?_⟩
 ·rw[h.mem,uo H,dG,dG];simp only;rw[yj H,yl H];constructor
  ·rintro(k|⟨k1|k1,k2⟩)
   ·exact .inl (.inl k)
   ·rcases k2 with k2|⟨u,hu,k2⟩
    ·exact .inl (.inr ⟨⟨k1.1,k2.1⟩,k1.2,k2.2⟩)
    ·have:=hr.head hu;have:=H.tr s.2 t.2 u.1 (by omega) (by omega);have:=H.tr s.2 u.1 a (by omega) k2.1;have:=H.anti a s.2;omega
   ·exact .inr ⟨k1,k2⟩
  ·rintro((k|k)|k)
   ·exact .inl k
   ·exact .inr ⟨.inl ⟨k.1.1,k.2.1⟩,.inl ⟨k.1.2,k.2.2⟩⟩
   ·exact .inr ⟨.inr k.1,k.2⟩
 ·unfold oN at hp;split at hp
  ·rcases KI.1 hp with hp|hp
   ·rcases h.up p hp with k|k
    ·exact .inl fun u hu=>k u (by simp[hu])
    ·exact .inr k
   ·simp at hp;subst hp;refine .inl fun u hu=>?_;have:=hl.head hu;show cm (ll cm s.2 t.2) u.1<0;unfold ll;split
    ·have:=H.anti s.2 t.2;omega
    ·exact this
  ·rcases h.up p hp with k|k
   ·exact .inl fun u hu=>k u (by simp[hu])
   ·exact .inr k
theorem yi.right(H:xO cm V){l m L R c:List (α×α)}{s t:α×α}(h:yi cm V l m (s::L) (t::R) c)(hl:NF cm V (s::L))(hr:NF cm V (t::R))(hlt:¬cm s.2 t.2<0):
 yi cm V l m (s::L) R (oN cm c (nO cm s.1 t.1,ll cm s.2 t.2)):=by
 have hts:=H.anti s.2 t.2;refine⟨h.add H hl hr,fun a=>?_,fun p hp=>?_⟩
 ·rw[h.mem,uo H,dG,dG];simp only;rw[yj H,yl H];constructor
  ·rintro(k|⟨k1,k2|k2⟩)
   ·exact .inl (.inl k)
   ·rcases k1 with k1|⟨u,hu,k1⟩
    ·exact .inl (.inr ⟨⟨k1.1,k2.1⟩,k1.2,k2.2⟩)
    ·have:=hl.head hu;have:=H.tr t.2 s.2 u.1 (by omega) (by omega);have:=H.tr t.2 u.1 a (by omega) k1.1;have:=H.anti a t.2;omega
   ·exact .inr ⟨k1,k2⟩
  ·rintro((k|k)|k)
   ·exact .inl k
   ·exact .inr ⟨.inl ⟨k.1.1,k.2.1⟩,.inl ⟨k.1.2,k.2.2⟩⟩
   ·exact .inr ⟨k.1,.inr k.2⟩
 ·unfold oN at hp;split at hp
  ·rcases KI.1 hp with hp|hp
   ·rcases h.up p hp with k|k
    ·exact .inl k
    ·exact .inr fun u hu=>k u (by simp[hu])
   ·simp at hp;subst hp;refine .inr fun u hu=>?_;have:=hr.head hu;show cm (ll cm s.2 t.2) u.1<0;unfold ll;split
    ·exact this
    ·have:=H.tr s.2 t.2 u.1 (by omega) (by omega);omega
  ·rcases h.up p hp with k|k
   ·exact .inl k
   ·exact .inr fun u hu=>k u (by simp[hu])
theorem yi.done{l m L R c:List (α×α)}(h:yi cm V l m L R c)(he:L=[]\/R=[]):NF cm V c/\∀a,ch cm a c↔ch cm a l/\ch cm a m:=by
 refine⟨h.nf,fun a=>?_⟩;rw[h.mem];refine⟨.inl,fun k=>k.elim id fun k=>?_⟩;rcases he with rfl|rfl
 ·exact absurd k.1 (gY a)
 ·exact absurd k.2 (gY a)
end
abbrev cy:=aC×Bool
def qF(x y:Bool):Int:=if x=y then 0 else if y then -1 else 1
def aZ(a b:cy):Int:=nG (aY a.1 b.1) (qF a.2 b.2)
def je(a:cy):Prop:=aL a.1=true
theorem CX(x y:Bool):qF y x=-qF x y:=by cases x<;>cases y<;>decide
theorem Fj(x y z:Bool):TR (qF x y) (qF y z) (qF x z):=by cases x<;>cases y<;>cases z<;>(unfold TR;decide)
theorem CY{x y:Bool}:qF x y=0↔x=y:=by cases x<;>cases y<;>decide
theorem bh{x:aC}(h:aL x=true):x.size<=1024/\x.Im<=16/\bc aV x:=by
 unfold aL at h;simp only[Kz,MD] at h;exact⟨h.1.1,h.1.2,fY.1 h.2⟩
theorem fk{x:aC}(h1:x.size<=1024)(h2:x.Im<=16)(h3:bc aV x):aL x=true:=by
 unfold aL;rw[Jy h1,Jy h2,fA h3];rfl
theorem ee:xO aZ je:=by
 refine⟨fun x y=>kE (eS _ _) (CX _ _),fun x y z=>TR.lx (Do _ _ _) (Fj _ _ _),fun x y hx hy h=>?_⟩;have h':=kF.1 h;exact Prod.ext (qx (nm:=aV) x.1 y.1 (bh hx).2.2 (bh hy).2.2 h'.1) (CY.1 h'.2)
def gZ:aC:=.mk 1 0 empty [] []
def gE:aC:=.mk 11 0 empty [] []
theorem pP{k:Int}(hk:k=1\/k=11):aL (.mk k 0 empty [] [])=true:=by
 refine fk ?_ ?_ ?_
 ·rw[dA];unfold aC.parts;rw[KU (by show ¬k=6;omega),KU (by show ¬k=5;omega)];simp[bN]
 ·rw[ci];unfold aC.parts;rw[KU (by show ¬k=6;omega),KU (by show ¬k=5;omega)];simp[ak]
 ·refine(al _ _).2 ⟨?_,by simp[aC.l],by simp[aC.d],by simp[aC.d,iV]⟩;rcases hk with rfl|rfl<;>simp[dl,aC.k,aC.n,aC.t,aC.l,aC.d]
theorem dV{x:aC}(h:aL x=true):1<=x.k/\x.k<=11:=by
 have:=((al _ _).1 (bh h).2.2).1;unfold dl at this;omega
theorem Fk{a:cy}(h:je a):aZ (gZ,false) a<=0:=by
 have hk:=dV h;unfold aZ nG;by_cases h1:a.1.k=1
 ·have:aY gZ a.1=0:=ef (by rw[h1];rfl) (by decide) (by decide) (by decide) (by decide) (by decide) (by decide) (by decide) (by decide);rw[this];simp;unfold qF;split
  ·omega
  ·rename_i hne
   cases hb:a.2
   ·exact absurd hb.symm hne
   ·simp
 ·have:aY gZ a.1=cM 1 a.1.k:=au (by show(1:Int)≠a.1.k;omega);have h2:=cd 1 a.1.k;rw[this];split<;>omega
theorem Fl{a:cy}(h:je a):aZ a (gE,true)<=0:=by
 have hk:=dV h;unfold aZ nG;by_cases h1:a.1.k=11
 ·have:aY a.1 gE=0:=ef (by rw[h1];rfl) (by omega) (by omega) (by omega) (by omega) (by omega) (by omega) (by omega) (by omega);rw[this];simp;unfold qF;split
  ·omega
  ·simp
 ·have:aY a.1 gE=cM a.1.k 11:=au (by show a.1.k≠(11:Int);omega);have h2:=cd a.1.k 11;rw[this];split<;>omega
end
structure Iv where
 lo:aC
 hi:aC
 li:Bool
 hin:Bool
section
variable {l:List ByteArray} {b k n m S:Nat} {a x:Int} {s:ByteArray} {e:TypeId} {v:Value}
def Iv.sp(x:Iv):cy×cy:=((x.lo,!x.li),(x.hi,x.hin))
noncomputable def Iv.ne(x:Iv):Bool:=aL x.lo&&aL x.hi&&decide (aZ x.sp.1 x.sp.2<0)
noncomputable def aU(l:List Iv):List (cy×cy):=(l.filter Iv.ne).map Iv.sp
def fG(s:cy×cy):Iv:=⟨s.1.1,s.2.1,!s.1.2,s.2.2⟩
theorem yo(s:cy×cy):(fG s).sp=s:=by
 obtain⟨⟨a,b⟩,c,d⟩:=s;simp[fG,Iv.sp]
theorem Gj{x:Iv}(h:x.ne=true):aZ x.sp.1 x.sp.2<0/\je x.sp.1/\je x.sp.2:=by
 unfold Iv.ne at h;simp only[Kz,MD] at h;exact⟨h.2,h.1.1,h.1.2⟩
theorem CZ{s:cy×cy}(h:aZ s.1 s.2<0/\je s.1/\je s.2):(fG s).ne=true:=by
 unfold Iv.ne;rw[yo];have h1:aL (fG s).lo=true:=h.2.1;have h2:aL (fG s).hi=true:=h.2.2;rw[h1,h2,Jy h.1];rfl
theorem rW{l:List Iv}:∀s∈aU l,aZ s.1 s.2<0/\je s.1/\je s.2:=by
 intro s hs;obtain⟨x,hx,rfl⟩:=LL.1 hs;exact Gj (MV.1 hx).2
theorem pQ(l m:List Iv):aU (l++m)=aU l++aU m:=by simp[aU]
theorem gG(l:List Iv)(x:Iv):aU (l++[x])=if x.ne then aU l++[x.sp] else aU l:=by
 rw[pQ];cases h:x.ne<;>simp[aU,h]
theorem nP{n:List (cy×cy)}(h:∀s∈n,aZ s.1 s.2<0/\je s.1/\je s.2):aU (n.map fG)=n:=by
 induction n with
 | nil=>rfl
 | cons s r ih=>
  have e:aU ((s::r).map fG)=(fG s).sp::aU (r.map fG):=by
   simp[aU,CZ (h s (by simp))]
  rw[e,yo,ih fun t ht=>h t (by simp[ht])]
def gd(S:cy->Prop)(m:List (cy×cy)):Prop:=NF aZ je m/\∀a,ch aZ a m↔S a
theorem gd.unique{S T:cy->Prop}{m n:List (cy×cy)}(h:gd S m)(k:gd T n)(e:∀a,je a->(S a↔T a)):m=n:=
 AI ee h.1 k.1 fun a ha=>by rw[h.2,k.2];exact e a ha
theorem dg{a b:cy}(h:aY a.1 b.1=0):aZ a b=qF a.2 b.2:=by unfold aZ nG;rw[KU (by simpa using h)]
theorem gO{a b:cy}(h:aY a.1 b.1≠0):aZ a b=aY a.1 b.1:=by unfold aZ nG;rw[Kb h]
def ei(v:aC):Iv:=⟨v,v,true,true⟩
theorem Ca(v:aC):(ei v).ne=aL v:=by
 unfold Iv.ne
 have:aZ (ei v).sp.1 (ei v).sp.2<0:=by
  rw[dg (a:=(ei v).sp.1) (b:=(ei v).sp.2) (nI v)];show qF false true<0;decide
 rw[Jy this];show(aL v&&aL v&&true)=aL v;cases aL v<;>rfl
theorem rX:aL gZ=true:=pP (.inl rfl)
theorem rZ:aL gE=true:=pP (.inr rfl)
def nw:Iv:=⟨gZ,gE,true,true⟩
theorem pR:aZ (gZ,false) (gE,true)<0:=by
 rw[gO (a:=(gZ,false)) (b:=(gE,true)) (by rw[au (by decide)];decide)];show aY gZ gE<0;rw[au (by decide)];decide
theorem nQ:gd (fun a=>ch aZ a (aU [nw])) [((gZ,false),(gE,true))]:=by
 have hne:nw.ne=true:=by
  unfold Iv.ne;rw[Jy (show aZ nw.sp.1 nw.sp.2<0 from pR)];show(aL gZ&&aL gE&&true)=true;rw[rX,rZ];rfl
 have e:aU [nw]=[((gZ,false),(gE,true))]:=by unfold aU;rw[List.filter_cons_of_pos hne];rfl
 refine⟨⟨fun s hs=>?_,by simp⟩,fun a=>by rw[e]⟩;simp at hs;subst hs;exact⟨pR,rX,rZ⟩
end
open Go.RowKit
section
variable {l xs:List ByteArray} {k i n:Nat} {op:Int} {s:ByteArray} {w:World}
def dH(s:ByteArray):Nat->Nat
 | 0=>0
 | n+1=>if s.data[n]?=some 255 then dH s n else n+1
def fm(s:ByteArray):Option ByteArray:=match dH s s.size with
 | 0=>none
 | n+1=>some (s.extract 0 n++⟨#[s.data[n]?.getD 0+1]⟩)
theorem ra(s:ByteArray):∀n,dH s n<=n:=by
 intro n
 induction n with
 | zero=>exact qL
 | succ n ih=>unfold dH;split<;>omega
def gK(k:Int):aC:=.mk k 0 empty [] []
def cf:ByteArray:=⟨#[0,0,0,0,0,0,0,0,0,0,0,0]⟩
def bS(k:Int):aC:=if k=3 then .mk k (-9223372036854775808) empty [] [] else if k=8 then .mk k 0 cf [] [] else gK k
def bB(k:Int):Iv:=
 if k=3\/k=10 then⟨bS k,.mk k 9223372036854775807 empty [] [],true,true⟩
 else if k=9 then⟨bS k,.mk k 1 empty [] [],true,true⟩
 else if k=4\/k=5\/k=6\/k=7\/k=8 then⟨bS k,bS (k+1),true,false⟩
 else⟨bS k,bS k,true,true⟩
def mZ(op:Int)(x:aC):Iv:=
 if op=4\/op=5 then⟨x,(bB x.k).hi,decide (op=5),(bB x.k).hin⟩
 else⟨(bB x.k).lo,x,(bB x.k).li,decide (op=7)⟩
noncomputable def lG(x:aC):Iv×Bool:=
 match fm x.t with
 | some s=>if aL (.mk 4 0 s [] [])=true then(⟨x,.mk 4 0 s [] [],true,false⟩,true) else(⟨x,gK 5,true,false⟩,decide (x.t=empty))
 | none=>(⟨x,gK 5,true,false⟩,decide (x.t=empty))
noncomputable def dp(op:Int)(arg:aC)(args:List aC)(n:Int):Option (List Iv×Bool):=
 if op=2 then(if arg.k=6 then none else some ([ei arg],decide (arg.k≠2)))
 else if op=4\/op=5\/op=6\/op=7 then(if arg.k=6 then none else some ([mZ op arg],decide (arg.k≠2)))
 else if op=8 then(if ∃x∈args,x.k=6 then none else some (args.map ei,decide (¬∃x∈args,x.k=2)))
 else if op=16 then some ([(lG arg).1],(lG arg).2)
 else if op=11 then(if n=6 then none else some ([bB n],decide (n≠2)))
 else none
def eD:cy->Prop:=fun a=>ch aZ a (aU [nw])
abbrev iW:=(cy->Prop)×Bool
noncomputable def dx(op:Int)(arg:aC)(args:List aC)(n:Int):iW:=match dp op arg args n with
 | some r=>(fun a=>ch aZ a (aU r.1),r.2)
 | none=>(eD,false)
open Classical in
noncomputable def eK(S:cy->Prop):Bool:=decide (∀a,je a->(S a↔eD a))
noncomputable def ej:List iW->iW
 | []=>(eD,false)
 | r::rs=>if eK r.1 then ej rs else(r.1,false)
noncomputable def oO(rs:List iW):iW:=match rs with
 | [r]=>r
 | _=>ej rs
noncomputable def yp(rs:List iW):iW:=if rs.any (fun r=>eK r.1) then(eD,false) else(fun a=>∃r∈rs,r.1 a,rs.all fun r=>r.2)
noncomputable def dW(l:List ByteArray):aX->iW
 | .mk op path arg args n _ _ _ _ _ _ _ _ kids=>if op=20 then oO (ofSs l kids) else if op=21 then yp (ofSs l kids) else if path.xs=l then dx op arg.2 (args.xs.map Prod.snd) n else(eD,false)
where ofSs (l:List ByteArray):List aX->List iW
 | []=>[]
 | x::r=>dW l x::ofSs l r
theorem Cb(l:List ByteArray)(ks:List aX):dW.ofSs l ks=ks.map (dW l):=by
 induction ks with
 | nil=>rfl
 | cons x r ih=>simp[dW.ofSs,ih]
theorem sw(l:List ByteArray)(p:aX):dW l p=if p.op=20 then oO (p.kids.map (dW l)) else if p.op=21 then yp (p.kids.map (dW l)) else if p.path.xs=l then dx p.op p.arg.2 (p.args.xs.map Prod.snd) p.n else(eD,false):=by
 cases p;simp only[dW,Cb];rfl
theorem tA{l:List ByteArray}{p:aX}(h:p.op=20):dW l p=oO (p.kids.map (dW l)):=by rw[sw,Kb h]
theorem xQ{l:List ByteArray}{p:aX}(h:p.op=21):dW l p=yp (p.kids.map (dW l)):=by rw[sw,KU (by omega),Kb h]
theorem kQ{l:List ByteArray}{p:aX}(h:p.op≠20)(h':p.op≠21)(hp:p.path.xs=l):dW l p=dx p.op p.arg.2 (p.args.xs.map Prod.snd) p.n:=by rw[sw,KU h,KU h',Kb hp]
theorem ma{l:List ByteArray}{p:aX}(h:p.op≠20)(h':p.op≠21)(hp:p.path.xs≠l):dW l p=(eD,false):=by rw[sw,KU h,KU h',KU hp]
def aX.sz:aX->Nat
 | .mk _ _ _ args _ _ _ _ _ _ _ _ _ kids=>1+args.n+szL kids
where szL:List aX->Nat
 | []=>0
 | x::r=>x.sz+szL r
theorem aX.Ir(p:aX):p.sz=1+p.args.n+aX.sz.szL p.kids:=by cases p;rfl
theorem xR{l:List aX}{k:aX}(h:k∈l):k.sz<=aX.sz.szL l:=by
 induction l with
 | nil=>cases h
 | cons x r ih=>
  simp only[aX.sz.szL];rcases LG.1 h with rfl|h
  ·omega
  ·have:=ih h;omega
theorem pS(l:List aX)(i:Nat){k:aX}(h:l[i]?=some k):aX.sz.szL (l.take (i+1))=aX.sz.szL (l.take i)+k.sz:=by
 induction l generalizing i with
 | nil=>simp at h
 | cons x r ih=>
  cases i with
  | zero=>simp at h;subst h;simp[aX.sz.szL]
  | succ i=>
   have:=ih i (by simpa using h);simp only[LY,aX.sz.szL] at*;omega
theorem kR(l:List aX)(i:Nat):aX.sz.szL (l.take i)<=aX.sz.szL l:=by
 induction l generalizing i with
 | nil=>simp
 | cons x r ih=>
  cases i with
  | zero=>simp[aX.sz.szL]
  | succ i=>have:=ih i;simp only[LY,aX.sz.szL];omega
theorem Gk{w:World}:∀{p:aX},WP w p->p.sz<=p.nodes*1048577:=by
 intro p
 induction p using aX.ind with
 | h p ih=>
  intro h;have o:=h.open;rw[p.Ir,p.Iz]
  have key:∀l:List aX,(∀k∈l,k.sz<=k.nodes*1048577)->aX.sz.szL l<=aX.nodes.nodesL l*1048577:=by
   intro l
   induction l with
   | nil=>intro _;simp[aX.sz.szL]
   | cons x r ihl=>
    intro hl;have h1:=hl x (by simp);have h2:=ihl fun k hk=>hl k (by simp[hk]);simp only[aX.sz.szL,aX.nodes.nodesL,Lk];omega
  have:=key p.kids fun k hk=>ih k hk (o.kids k hk);have:=o.few;rw[Lk];omega
def kS:aX->Prop
 | .mk op path arg args n _ _ _ _ _ _ _ _ kids=>
  ((2<=op/\op<=7)\/op=16\/op=17\/op=19->aL arg.2=true)/\(op=8\/op=9\/op=14->∀x∈args.xs,aL x.2=true)/\(op=16\/op=17\/op=19->arg.2.k=4)/\(op=11->1<=n/\n<=11)/\
   (op=15\/op=20\/op=21->kids≠[])/\(2<=op/\op<=19->path.xs.length<=16)/\(1<=op/\op<=24)/\(op≠24->VPs kids)
where VPs:List aX->Prop
 | []=>True
 | x::r=>kS x/\VPs r
theorem yq{l:List aX}:kS.VPs l↔∀k∈l,kS k:=by
 induction l with
 | nil=>simp[kS.VPs]
 | cons y r ih=>simp[kS.VPs,ih]
end
structure vd(p:aX):Prop where
 argA:(2<=p.op/\p.op<=7)\/p.op=16\/p.op=17\/p.op=19->aL p.arg.2=true
 argsA:p.op=8\/p.op=9\/p.op=14->∀x∈p.args.xs,aL x.2=true
 textA:p.op=16\/p.op=17\/p.op=19->p.arg.2.k=4
 kind:p.op=11->1<=p.n/\p.n<=11
 neA:p.op=15\/p.op=20\/p.op=21->p.kids≠[]
 pathA:2<=p.op/\p.op<=19->p.path.xs.length<=16
 op:1<=p.op/\p.op<=24
 kidsA:p.op≠24->∀k∈p.kids,kS k
section
variable {xs:List ByteArray} {k n S:Nat} {op a x:Int}
theorem vd.arg{p:aX}(h:vd p)(ho:p.op=2\/p.op=4\/p.op=5\/p.op=6\/p.op=7\/p.op=16):aL p.arg.2=true:=h.argA (by omega)
theorem vd.args{p:aX}(h:vd p)(ho:p.op=8):∀x∈p.args.xs,aL x.2=true:=h.argsA (.inl ho)
theorem vd.text{p:aX}(h:vd p)(ho:p.op=16):p.arg.2.k=4:=h.textA (.inl ho)
theorem vd.ne{p:aX}(h:vd p)(ho:p.op=20\/p.op=21):p.kids≠[]:=h.neA (.inr ho)
theorem vd.kids{p:aX}(h:vd p)(ho:p.op=20\/p.op=21):∀k∈p.kids,kS k:=h.kidsA (by omega)
theorem kS.open{p:aX}(h:kS p):vd p:=by
 cases p;obtain⟨h1,h2,h3,h4,h5,h6,h8,h7⟩:=h;exact⟨h1,h2,h3,h4,h5,h6,h8,fun h=>yq.1 (h7 h)⟩
theorem vd.shut{p:aX}(h:vd p):kS p:=by
 cases p;exact⟨h.argA,h.argsA,h.textA,h.kind,h.neA,h.pathA,h.op,fun h'=>yq.2 (h.kidsA h')⟩
open Classical in
theorem ur{S:cy->Prop}:eK S=true↔∀a,je a->(S a↔eD a):=by
 unfold eK;exact Lw
theorem us{S:cy->Prop}{n:List (cy×cy)}(h:gd S n):(n=[((gZ,false),(gE,true))])↔eK S=true:=by
 rw[ur];constructor
 ·rintro rfl a _;rw[<-h.2 a];exact nQ.2 a
 ·intro k;exact h.unique nQ k
end
open Go
section
variable {l r:List ByteArray} {b c k g o j size:Nat} {op a x d:Int} {s:ByteArray} {w w':World} {e t:TypeId} {cs:Array Value} {P:Program} {Q:Exit -> Act -> World -> Prop} {v:Value}
theorem aE{P:Program}{ops:Array Oper}{rest:List Oper}{op:Oper}{a:Act}{w:World}{Q:Exit->Act->World->Prop}(hw:Region.wanted op (yielded ops a.tmps)=true)(ty:TypeId)(x:Operand)(ho:op.op=.load ty x)(b o:Nat)(hx:a.eval x=.pointer (some ⟨b,o,none⟩))(cs:List Value)(d:TypeDesc)(hc:w.rangeAt b o cs)(hu:P.underlying ty=some d)(hd:d.isRow=true)(hi:(P.info? ty).map (·.size)=some cs.length)(h:wpList P ops Q rest (a.put op.dst (.agg cs.toArray)) w):wpList P ops Q (op::rest) a w:=
 wpList_step fun K hK=>by
  simp only[hw,Oh];exact wp_load_mid ty x ho b o hx cs d hc hu hd hi (hK _ _ h)
theorem br{w:World}{g:Nat}{t:TypeId}{cs:Array Value}(h:aG w g t cs)(l:List Value)(o:Nat)(hl:∀(j:Nat) (v:Value),l[j]?=some v->cs[o+j]?=some v):w.rangeAt g o l:=by
 intro j v hj;rw[h.cell];exact hl j v hj
theorem lm{a b:Bool}(h:a=b):Ending.returned (.bool a)=.returned (.bool b):=by rw[h]
def dS(op:Int):Bool:=decide (2<=op)&&decide (op<=19)
def dT(op:Int):Bool:=decide (op=16)||(decide (op=17)||decide (op=19))
def cp(op:Int):Bool:=(decide (2<=op)&&decide (op<=7))||dT op
def cJ(op:Int):Bool:=decide (op=8)||(decide (op=9)||decide (op=14))
def cU(p:aX):Bool:=if p.op=15\/p.op=23 then decide (p.kn=1) else if p.op=20\/p.op=21\/p.op=22 then decide (0<p.kn) else decide (p.kn=0)
def ar(p:aX):Bool:=
 if p.op=10 then decide (p.n=0)||decide (p.n=1) else if p.op=11 then decide (1<=p.n)&&decide (p.n<=11) else if p.op=12 then decide (1<=p.n)&&(decide (0<=p.m)&&decide (p.m<p.n)) else if p.op=13 then decide (0<=p.n) else true
theorem pT(op:Int)(w:World):Calls prog 80 #[.int .i64 op] w fun e w'=>e=.returned (.bool (dS op))/\w'=w:=by
 go_enter func80,ntmps80
 go_wp2
 all_goals go_ret
 all_goals refine⟨lm ?_,rfl⟩
 all_goals first|(simp[dS, *];done)|(rw[Kc];simp[dS, *];done)|(rw[Kc];simp[dS, *];omega)|(simp[dS, *];omega)|(simp_all[dS];done)|(simp_all[dS];omega)
theorem ny(op:Int)(w:World):Calls prog 82 #[.int .i64 op] w fun e w'=>e=.returned (.bool (dT op))/\w'=w:=by
 go_enter func82,ntmps82
 go_wp2
 all_goals go_ret
 all_goals refine⟨lm ?_,rfl⟩
 all_goals first|(simp[dT, *];done)|(rw[Kc];simp[dT, *];done)|(rw[Kc];simp[dT, *];omega)|(simp[dT, *];omega)|(simp_all[dT];done)|(simp_all[dT];omega)
theorem iJ(op:Int)(w:World):Calls prog 78 #[.int .i64 op] w fun e w'=>e=.returned (.bool (cJ op))/\w'=w:=by
 go_enter func78,ntmps78
 go_wp2
 all_goals go_ret
 all_goals refine⟨lm ?_,rfl⟩
 all_goals first|(simp[cJ, *];done)|(rw[Kc];simp[cJ, *];done)|(rw[Kc];simp[cJ, *];omega)|(simp[cJ, *];omega)|(simp_all[cJ];done)|(simp_all[cJ];omega)
theorem pU(op:Int)(w:World):Calls prog 81 #[.int .i64 op] w fun e w'=>e=.returned (.bool (cp op))/\w'=w:=by
 go_enter func81,ntmps81;go_wp2_with (go_at_call 82;refine(ny _ _).mono ?_;rintro e w' ⟨rfl,rfl⟩)
 all_goals go_ret
 all_goals refine⟨lm ?_,rfl⟩
 all_goals first|(simp[cp, *];done)|(rw[Kc];simp[cp, *];done)|(rw[Kc];simp[cp, *];omega)|(simp[cp, *];omega)|(simp_all[cp];done)|(simp_all[cp];omega)
theorem Cc(p:aX)(w:World):Calls prog 77 #[aW p] w fun e w'=>e=.returned (.bool (cU p))/\Below w.heap.size w w':=by
 by_cases h15:p.op=15
 ·have H15:=qD h15;go_enter Nv,Nh
  go_wp2
  all_goals go_ret
  all_goals refine⟨lm ?_,(Ju _ _).alloc (qL) _⟩
  all_goals first|(simp[cU,H15.out];done)|(rw[Kc];simp[cU,H15.out];done)|(rw[Kc];simp[cU,H15.out];omega)|(simp_all[cU,H15.out];done)|(simp_all[cU,H15.out];omega)
 have H15:=qD h15;have b15:(p.op==15)=false:=by simpa using h15
 clear h15;by_cases h23:p.op=23
 ·have H23:=qD h23;go_enter Nv,Nh
  go_wp2
  all_goals go_ret
  all_goals refine⟨lm ?_,(Ju _ _).alloc (qL) _⟩
  all_goals first|(simp[cU,H15.out,H23.out];done)|(rw[Kc];simp[cU,H15.out,H23.out];done)|(rw[Kc];simp[cU,H15.out,H23.out];omega)|(simp_all[cU,H15.out,H23.out];done)|(simp_all[cU,H15.out,H23.out];omega)
 have H23:=qD h23;have b23:(p.op==23)=false:=by simpa using h23
 clear h23;by_cases h20:p.op=20
 ·have H20:=qD h20;go_enter Nv,Nh
  go_wp2
  all_goals go_ret
  all_goals refine⟨lm ?_,(Ju _ _).alloc (qL) _⟩
  all_goals first|(simp[cU,H15.out,H23.out,H20.out];done)|(rw[Kc];simp[cU,H15.out,H23.out,H20.out];done)|(rw[Kc];simp[cU,H15.out,H23.out,H20.out];omega)|(simp_all[cU,H15.out,H23.out,H20.out];done)|(simp_all[cU,H15.out,H23.out,H20.out];omega)
 have H20:=qD h20;have b20:(p.op==20)=false:=by simpa using h20
 clear h20;by_cases h21:p.op=21
 ·have H21:=qD h21;go_enter Nv,Nh
  go_wp2
  all_goals go_ret
  all_goals refine⟨lm ?_,(Ju _ _).alloc (qL) _⟩
  all_goals first|(simp[cU,H15.out,H23.out,H20.out,H21.out];done)|(rw[Kc];simp[cU,H15.out,H23.out,H20.out,H21.out];done)|(rw[Kc];simp[cU,H15.out,H23.out,H20.out,H21.out];omega)|(simp_all[cU,H15.out,H23.out,H20.out,H21.out];done)|(simp_all[cU,H15.out,H23.out,H20.out,H21.out];omega)
 have H21:=qD h21;have b21:(p.op==21)=false:=by simpa using h21
 clear h21;by_cases h22:p.op=22
 ·have H22:=qD h22;go_enter Nv,Nh
  go_wp2
  all_goals go_ret
  all_goals refine⟨lm ?_,(Ju _ _).alloc (qL) _⟩
  all_goals first|(simp[cU,H15.out,H23.out,H20.out,H21.out,H22.out];done)|(rw[Kc];simp[cU,H15.out,H23.out,H20.out,H21.out,H22.out];done)|(rw[Kc];simp[cU,H15.out,H23.out,H20.out,H21.out,H22.out];omega)|(simp_all[cU,H15.out,H23.out,H20.out,H21.out,H22.out];done)|(simp_all[cU,H15.out,H23.out,H20.out,H21.out,H22.out];omega)
 have H22:=qD h22;have b22:(p.op==22)=false:=by simpa using h22
 clear h22;go_enter Nv,Nh
 go_wp2
 all_goals go_ret
 all_goals refine⟨lm ?_,(Ju _ _).alloc (qL) _⟩
 all_goals first|(simp[cU,H15.out,H23.out,H20.out,H21.out,H22.out];done)|(rw[Kc];simp[cU,H15.out,H23.out,H20.out,H21.out,H22.out];done)|(rw[Kc];simp[cU,H15.out,H23.out,H20.out,H21.out,H22.out];omega)|(simp_all[cU,H15.out,H23.out,H20.out,H21.out,H22.out];done)|(simp_all[cU,H15.out,H23.out,H20.out,H21.out,H22.out];omega)
theorem ut(p:aX)(w:World):Calls prog 79 #[aW p] w fun e w'=>e=.returned (.bool (ar p))/\Below w.heap.size w w':=by
 by_cases h10:p.op=10
 ·have H10:=qD h10;go_enter OP,OD
  go_wp2
  all_goals go_ret
  all_goals refine⟨lm ?_,(Ju _ _).alloc (qL) _⟩
  all_goals first|(simp[ar,H10.out];done)|(rw[Kc];simp[ar,H10.out];done)|(rw[Kc];simp[ar,H10.out];omega)|(simp_all[ar,H10.out];done)|(simp_all[ar,H10.out];omega)
 have H10:=qD h10;have b10:(p.op==10)=false:=by simpa using h10
 clear h10;by_cases h11:p.op=11
 ·have H11:=qD h11;go_enter OP,OD
  go_wp2
  all_goals go_ret
  all_goals refine⟨lm ?_,(Ju _ _).alloc (qL) _⟩
  all_goals first|(simp[ar,H10.out,H11.out];done)|(rw[Kc];simp[ar,H10.out,H11.out];done)|(rw[Kc];simp[ar,H10.out,H11.out];omega)|(simp_all[ar,H10.out,H11.out];done)|(simp_all[ar,H10.out,H11.out];omega)
 have H11:=qD h11;have b11:(p.op==11)=false:=by simpa using h11
 clear h11;by_cases h12:p.op=12
 ·have H12:=qD h12;go_enter OP,OD
  go_wp2
  all_goals go_ret
  all_goals refine⟨lm ?_,(Ju _ _).alloc (qL) _⟩
  all_goals first|(simp[ar,H10.out,H11.out,H12.out];done)|(rw[Kc];simp[ar,H10.out,H11.out,H12.out];done)|(rw[Kc];simp[ar,H10.out,H11.out,H12.out];omega)|(simp_all[ar,H10.out,H11.out,H12.out];done)|(simp_all[ar,H10.out,H11.out,H12.out];omega)
 have H12:=qD h12;have b12:(p.op==12)=false:=by simpa using h12
 clear h12;by_cases h13:p.op=13
 ·have H13:=qD h13;go_enter OP,OD
  go_wp2
  all_goals go_ret
  all_goals refine⟨lm ?_,(Ju _ _).alloc (qL) _⟩
  all_goals first|(simp[ar,H10.out,H11.out,H12.out,H13.out];done)|(rw[Kc];simp[ar,H10.out,H11.out,H12.out,H13.out];done)|(rw[Kc];simp[ar,H10.out,H11.out,H12.out,H13.out];omega)|(simp_all[ar,H10.out,H11.out,H12.out,H13.out];done)|(simp_all[ar,H10.out,H11.out,H12.out,H13.out];omega)
 have H13:=qD h13;have b13:(p.op==13)=false:=by simpa using h13
 clear h13;go_enter OP,OD
 go_wp2
 all_goals go_ret
 all_goals refine⟨lm ?_,(Ju _ _).alloc (qL) _⟩
 all_goals first|(simp[ar,H10.out,H11.out,H12.out,H13.out];done)|(rw[Kc];simp[ar,H10.out,H11.out,H12.out,H13.out];done)|(rw[Kc];simp[ar,H10.out,H11.out,H12.out,H13.out];omega)|(simp_all[ar,H10.out,H11.out,H12.out,H13.out];done)|(simp_all[ar,H10.out,H11.out,H12.out,H13.out];omega)
def AL(w:World)(e:Ending)(w':World):Prop:=∃b:Bool,e=.returned (.bool b)/\Below w.heap.size w w'
theorem lJ(c:VC)(w:World):Calls prog 141 #[c.val] w (AL w):=by
 go_enter func141,ntmps141
 go_wp2
 all_goals go_ret
 all_goals exact⟨_,rfl,(Ju _ _).alloc (qL) _⟩
theorem uu(k r:Int)(s:uI (Int×Int))(w:World):Calls prog 142 #[.agg #[.int .i64 k,s.v,.int .i64 r]] w (AL w):=by
 go_enter func142,ntmps142
 go_wp2
 all_goals go_ret
 all_goals exact⟨_,rfl,(Ju _ _).alloc (qL) _⟩
theorem iv{w:World}{g:Nat}{x:dI}(h:aG w g 35 (aN x)):w.rangeAt g 4 x.arg.1.list:=
 br h _ _ fun j v hj=>by
  have hl:j<5:=(KF.1 hj).1
  match j,hl,hj with
  | 0,_,hj=>exact hj
  | 1,_,hj=>exact hj
  | 2,_,hj=>exact hj
  | 3,_,hj=>exact hj
  | 4,_,hj=>exact hj
theorem xS(x:dI)(w:World):Calls prog 143 #[dL x] w (AL w):=by
 have B0:Hid (aG (w.alloc (.cells (aN x) 35)) w.heap.size 35 (aN x)):=aG.Ii rfl;have BE:=qD ((Ju w.heap.size w).alloc (qL) (Obj.cells (aN x) 35));have R4:=qD (iv B0.out);go_enter func143,ntmps143;go_wp2_with (first|(refine aE rfl 29 _ rfl w.heap.size 4 rfl _ _ R4.out LU rfl (by kernel_rfl) ?_)|(go_at_call 141;refine(lJ x.arg.1 _).mono ?_;rintro e w1 ⟨b,rfl,hb⟩;have d9:=(B0.out.step hb).cell 9;have d10:=(B0.out.step hb).cell 10;simp at d9 d10;have BF:=qD (BE.out.Ih hb);clear hb;cases b))
 all_goals go_ret
 all_goals first|exact⟨_,rfl,BF.out⟩|exact⟨_,rfl,BE.out⟩
theorem bV{w:World}{g:Nat}{p:aX}(h:aG w g 38 (aD p)):w.rangeAt g 2 p.arg.1.list:=
 br h _ _ fun j v hj=>by
  have hl:j<5:=(KF.1 hj).1
  match j,hl,hj with
  | 0,_,hj=>exact hj
  | 1,_,hj=>exact hj
  | 2,_,hj=>exact hj
  | 3,_,hj=>exact hj
  | 4,_,hj=>exact hj
theorem jO{w:World}{g:Nat}{p:aX}(h:aG w g 38 (aD p)):w.rangeAt g 10 [.int .i64 p.sk,p.pts.v,.int .i64 p.sr]:=
 br h _ _ fun j v hj=>by
  have hl:j<3:=(KF.1 hj).1
  match j,hl,hj with
  | 0,_,hj=>exact hj
  | 1,_,hj=>exact hj
  | 2,_,hj=>exact hj
theorem gp{w:World}{g:Nat}{p:aX}(h:aG w g 38 (aD p)):w.rangeAt g 13 (dO p.ex):=
 br h _ _ fun j v hj=>by
  have hl:j<11:=(KF.1 hj).1
  match j,hl,hj with
  | 0,_,hj=>exact hj
  | 1,_,hj=>exact hj
  | 2,_,hj=>exact hj
  | 3,_,hj=>exact hj
  | 4,_,hj=>exact hj
  | 5,_,hj=>exact hj
  | 6,_,hj=>exact hj
  | 7,_,hj=>exact hj
  | 8,_,hj=>exact hj
  | 9,_,hj=>exact hj
  | 10,_,hj=>exact hj
end
structure IZ(w:World)(g:Nat)(p:aX):Prop where
 d0:w.cell? ⟨g,0,none⟩=some (.int .i64 p.op)
 d1:w.cell? ⟨g,1,none⟩=some (.slice p.path.A p.path.n p.path.c)
 d2:w.cell? ⟨g,2,none⟩=some (.int .i64 p.arg.1.k)
 d4:w.cell? ⟨g,4,none⟩=some (.string p.arg.1.t)
 d7:w.cell? ⟨g,7,none⟩=some (.slice p.args.A p.args.n p.args.c)
 d8:w.cell? ⟨g,8,none⟩=some (.int .i64 p.n)
 d9:w.cell? ⟨g,9,none⟩=some (.int .i64 p.m)
 d24:w.cell? ⟨g,24,none⟩=some (.slice p.kA p.kn p.kc)
section
variable {g:Nat} {w:World}
theorem aR{w:World}{g:Nat}{p:aX}(h:aG w g 38 (aD p)):IZ w g p:=
 ⟨(h.cell 0).trans rfl,(h.cell 1).trans rfl,(h.cell 2).trans rfl,(h.cell 4).trans rfl,(h.cell 7).trans rfl,(h.cell 8).trans rfl,(h.cell 9).trans rfl,(h.cell 24).trans rfl⟩
theorem ae{w:World}{g:Nat}{p:aX}(h:aG w g 38 (aD p)):w.rangeAt g 0 (aq p):=
 br h _ _ fun j v hj=>by
  rw[Jw];show(aq p).toArray[j]?=some v;rw[MN];exact hj
end
structure Ia(w:World)(g:Nat)(x:dI):Prop where
 d0:w.cell? ⟨g,0,none⟩=some (.int .i64 x.op)
 d1:w.cell? ⟨g,1,none⟩=some (.slice x.path.A x.path.n x.path.c)
 d2:w.cell? ⟨g,2,none⟩=some (.string x.name)
 d3:w.cell? ⟨g,3,none⟩=some (.slice x.names.A x.names.n x.names.c)
 d9:w.cell? ⟨g,9,none⟩=some (.int .i64 x.n)
 d10:w.cell? ⟨g,10,none⟩=some (.slice x.kA x.kn x.kc)
section
variable {l xs:List ByteArray} {b c i g o n off size:Nat} {op x:Int} {s:ByteArray} {w w':World} {A:Option Addr} {e:TypeId}
theorem ag{w:World}{g:Nat}{x:dI}(h:aG w g 35 (aN x)):Ia w g x:=
 ⟨(h.cell 0).trans rfl,(h.cell 1).trans rfl,(h.cell 2).trans rfl,(h.cell 3).trans rfl,(h.cell 9).trans rfl,(h.cell 10).trans rfl⟩
theorem iK{w:World}{g:Nat}{x:dI}(h:aG w g 35 (aN x)):w.rangeAt g 0 (dO x):=
 br h _ _ fun j v hj=>by
  rw[Jw];show(dO x).toArray[j]?=some v;rw[MN];exact hj
theorem SR.row{α:Type}{rec:α->List Value}{s:Nat}{w:World}{A:Option Addr}{n c:Nat}{xs:List α}(h:SR s rec w A n c xs){i:Nat}(hi:i<n):
 ∃b off x,A=some ⟨b,off,none⟩/\b<w.heap.size/\xs[i]?=some x/\x∈xs/\w.rangeAt b (off+i*s) (rec x):=by
 obtain⟨b,off,e,hb,hc⟩:=h.el (by omega);have hl:i<xs.length:=by have:=h.ln;omega
 have h1:=Jv hl;exact⟨b,off,xs[i],e,hb,h1,Jx h1,hc i _ h1⟩
theorem bD{w w':World}{b o:Nat}{l:List Value}(h:w.rangeAt b o l)(hb:Below w.heap.size w w')(hl:b<w.heap.size):w'.rangeAt b o l:=fun j v hj=>(hb.cell (p:=⟨b,o+j,none⟩) hl).trans (h j v hj)
abbrev nz(op:Int):Prop:=op=2\/op=5
theorem eA{op:Int}(h:nz op)(w:World):Calls prog 311 #[.int .i64 op] w fun e w'=>e=.returned (.bool false)/\w'=w:=by
 rcases h with rfl|rfl
 all_goals
  go_enter func311,ntmps311;go_wp2_with fail;go_ret;exact⟨rfl,rfl⟩
theorem mc{op:Int}(h:nz op)(w:World):Calls prog 314 #[.int .i64 op] w fun e w'=>e=.returned (.bool false)/\w'=w:=by
 rcases h with rfl|rfl
 all_goals
  go_enter func314,ntmps314;go_wp2_with fail;go_ret;exact⟨rfl,rfl⟩
theorem pV{op:Int}(h:nz op)(w:World):Calls prog 336 #[.int .i64 op] w fun e w'=>e=.returned (.bool false)/\w'=w:=by
 rcases h with rfl|rfl
 all_goals
  go_enter func336,ntmps336;go_wp2_with fail;go_ret;exact⟨rfl,rfl⟩
theorem iL{op:Int}(h:nz op)(w:World):Calls prog 230 #[.int .i64 op] w fun e w'=>e=.returned (.bool true)/\w'=w:=by
 rcases h with rfl|rfl
 all_goals
  go_enter func230,ntmps230;go_wp2_with fail;go_ret;exact⟨rfl,rfl⟩
theorem uw{op:Int}(h:nz op)(w:World):Calls prog 185 #[.int .i64 op] w fun e w'=>e=.returned (.bool true)/\w'=w:=by
 rcases h with rfl|rfl
 all_goals
  go_enter func185,ntmps185;go_wp2_with fail;go_ret;exact⟨rfl,rfl⟩
theorem gh{op:Int}(h:nz op)(w:World):Calls prog 313 #[.int .i64 op] w fun e w'=>e=.returned (.bool true)/\w'=w:=by
 rcases h with rfl|rfl
 all_goals
  go_enter func313,ntmps313;go_wp2_with fail;go_ret;exact⟨rfl,rfl⟩
theorem mf{op:Int}(h:nz op)(w:World):Calls prog 310 #[.int .i64 op,.int .i64 0] w fun e w'=>e=.returned (.bool true)/\w'=w:=by
 rcases h with rfl|rfl
 all_goals
  go_enter func310,ntmps310;go_wp2_with fail;go_ret;exact⟨rfl,rfl⟩
end
structure Lf(op:Int)(p:aX):Prop where
 op_:p.op=op
 xs:p.path.xs=[(⟨#[97]⟩:ByteArray)]
 arg:p.arg=(⟨3,1,empty,none,0,0,none,0,0⟩,.mk 3 1 empty [] [])
 args:p.args.xs=[]
 argn:p.args.n=0
 kids:p.kids=[]
 kn:p.kn=0
 n0:p.n=0
 m0:p.m=0
 sk:p.sk=0
 sr:p.sr=0
 pn:p.pts.n=0
 xop:p.ex.op=0
 xpn:p.ex.path.n=0
 xnm:p.ex.name=empty
 xns:p.ex.names.n=0
 xar:p.ex.arg=(VC.zero,aC.zero)
 xn:p.ex.n=0
 xk:p.ex.kn=0
section
variable {o size:Nat} {op:Int} {w w':World} {e:TypeId}
theorem tB{op:Int}{p:aX}(h:Lf op p)(ho:nz op)(w:World):Calls prog 312 #[aW p] w fun e w'=>e=.returned (.bool true)/\Below w.heap.size w w':=by
 have B0:Hid (aG (w.alloc (.cells (aD p) 38)) w.heap.size 38 (aD p)):=aG.Ii rfl;have BE:=qD ((Ju w.heap.size w).alloc (qL) (Obj.cells (aD p) 38));go_enter func312,ntmps312;go_upto_region 1 with fail
 change Code.wp _ _ _ _ (w.alloc (.cells (aD p) 38));generalize w.alloc (.cells (aD p) 38)=wa at*;have d0:=(aR B0.out).d0;rw[h.op_] at d0;clear h;rcases ho with rfl|rfl
 all_goals
  go_wp2_with fail;go_ret;exact⟨rfl,BE.out⟩
theorem ux(w:World):Calls prog 335 #[.agg #[.int .i64 0,.int .i64 0,.string empty,.slice none 0 0,.slice none 0 0]] w fun e w'=>e=.returned (.bool true)/\Below w.heap.size w w':=by
 go_enter func335,ntmps335;go_wp2_with fail;go_ret;exact⟨rfl,(Ju _ _).alloc (qL) _⟩
theorem qW{op:Int}{p:aX}(h:Lf op p)(w:World):Calls prog 337 #[dL p.ex] w fun e w'=>e=.returned (.bool true)/\Below w.heap.size w w':=by
 have B0:Hid (aG (w.alloc (.cells (aN p.ex) 35)) w.heap.size 35 (aN p.ex)):=aG.Ii rfl;have BE:=qD ((Ju w.heap.size w).alloc (qL) (Obj.cells (aN p.ex) 35));go_enter func337,ntmps337;go_upto_region 1 with fail
 change Code.wp _ _ _ _ (w.alloc (.cells (aN p.ex) 35));generalize w.alloc (.cells (aN p.ex) 35)=wa at*;obtain⟨d0,d1,d2,d3,d9,d10⟩:=ag B0.out;have c4:=(B0.out.cell 4).trans (show _=some (Value.int .i64 p.ex.arg.1.k) from rfl);have c5:=(B0.out.cell 5).trans (show _=some (Value.int .i64 p.ex.arg.1.n) from rfl);have c6:=(B0.out.cell 6).trans (show _=some (Value.string p.ex.arg.1.t) from rfl);have c7:=(B0.out.cell 7).trans (show _=some (Value.slice p.ex.arg.1.LA p.ex.arg.1.ln p.ex.arg.1.lc) from rfl);have c8:=(B0.out.cell 8).trans (show _=some (Value.slice p.ex.arg.1.DA p.ex.arg.1.dn p.ex.arg.1.dc) from rfl);rw[h.xop] at d0;rw[h.xpn] at d1;rw[h.xnm] at d2;rw[h.xns] at d3;rw[h.xn] at d9;rw[h.xk] at d10;rw[h.xar] at c4 c5 c6 c7 c8;simp only[VC.zero] at c4 c5 c6 c7 c8;clear h;go_wp2_with fail;refine(ux wa).mono ?_;rintro e w1 ⟨rfl,hb⟩;have CE:=qD (BE.out.Ih hb);replace d9:=(hb.cell (p:=⟨w.heap.size,9,none⟩) B0.out.lt).trans d9;replace d10:=(hb.cell (p:=⟨w.heap.size,10,none⟩) B0.out.lt).trans d10;clear hb c4 c5 c6 c7 c8 d0 d1 d2 d3;go_wp2_with fail;go_ret;exact⟨rfl,CE.out⟩
def cY(w:World):Prop:=Lib.Utf8Tabs 0 1 w
theorem cY.step{w w':World}(h:cY w)(hb:Below w.heap.size w w'):cY w':=Utf8Tabs_below h hb
theorem cY.alloc{w:World}(h:cY w)(o:Obj):cY (w.alloc o):=h.step ((Ju _ _).alloc (qL) o)
end
open Go.Maps Go.WideMaps
section
variable {l:List ByteArray} {b k n size:Nat} {a:Int} {s:ByteArray} {w w':World} {e:TypeId} {P:Program} {v:Value}
noncomputable def oB(s:ByteArray)(l:List ByteArray):Bool:=@decide (s∈l) (Classical.propDecidable _)
theorem jP{s:ByteArray}{l:List ByteArray}:oB s l=true↔s∈l:=by unfold oB;exact @Lw _ (Classical.propDecidable _)
theorem iM{s:ByteArray}{l:List ByteArray}:oB s l=false↔s∉l:=by unfold oB;exact @decide_eq_false_iff_not _ (Classical.propDecidable _)
def yr(x:aC):Prop:=∀(c:VC) (w:World),cY w->RW w c x->
 Calls prog 95 #[c.val] w fun e w'=>e=.returned (.bool (aQ aV x))/\Below w.heap.size w w'
theorem Cd(w:World):(zeroValue 4).run prog w=.ok (.bool false) w:=by kernel_rfl
theorem rc:Keyed prog 9:=string_keyed LV
theorem lp{P:Program}{e:TypeId}(he:P.underlying e=some .bool){v:Value}{z:DataW Unit×List MemPlace}(h:plainElem P e v=some z):∃a,v=.bool a/\z=(.lit (.bool a),[]):=by
 unfold plainElem at h;rw[he] at h;cases v<;>simp at h
 exact⟨_,rfl,h.symm⟩
theorem tC{w w':World}{P:Program}{k:TypeId}{R:Value->Option (DataW Unit×List MemPlace)}{b n:Nat}{D:DataW Unit}(h:w.ownsMap P k R b n D)(hb:Below w.heap.size w w'):w'.ownsMap P k R b n D:=by
 have hlt:=h.lt;obtain⟨es,clock,h1,F,hs,hD⟩:=h;exact⟨es,clock,(hb.block b hlt).trans h1,F,hs,hD⟩
end
structure ja(d:List cF)(i g:Nat)(D:DataW Unit)(wr:World):Prop where
 own:wr.ownsMap prog 9 (plainElem prog 4) g i D
 at_:∀s:ByteArray,D.atKey (.string s.data.toList) (.lit (.bool false))=.lit (.bool (oB s ((d.take i).map cF.s)))
section
variable {c i g n size:Nat} {d:Int} {s:ByteArray} {w w' wr:World} {A:Option Addr} {e:TypeId} {v:Value}
theorem ja.look{d:List cF}{i g:Nat}{D:DataW Unit}{wr:World}(h:ja d i g D wr)(s:ByteArray)(hs:s.size<=aH):
 (Instr.lookup 213 (.map (some g)) (.string s) false).run prog wr=.ok (.bool (oB s ((d.take i).map cF.s))) wr:=by
 obtain⟨v,ps,hrun,hv⟩:=h.own.lookup rc underlying213 (Cd wr) (plainElem_bool NK false) (keyOf_string_mk LV (s:=s) (by unfold aH at hs;unfold maxLen;omega));obtain⟨a,rfl,hz⟩:=lp NK hv;rw[h.at_] at hz;have e1:=congrArg Prod.fst hz;injection e1 with e2
 injection e2 with e3
 rw[hrun,e3]
theorem ja.step{d:List cF}{i g:Nat}{D:DataW Unit}{wr w':World}(h:ja d i g D wr)(hb:Below wr.heap.size wr w'):ja d i g D w':=⟨tC h.own hb,h.at_⟩
theorem ja.next{d:List cF}{i g:Nat}{D:DataW Unit}{wr w':World}{f:cF}(h:ja d i g D wr)(hf:d[i]?=some f)(ho:w'.ownsMap prog 9 (plainElem prog 4) g (i+1) (D.put (.string f.s.data.toList) (.lit (.bool true)))):
 ja d (i+1) g (D.put (.string f.s.data.toList) (.lit (.bool true))) w':=by
 refine⟨ho,fun s=>?_⟩;by_cases e:s=f.s
 ·subst e;rw[atKey_put_same h.own.isMap (by simp[WideAt.IsKeyLit]),jP.2 (by simp[take_snoc' hf])]
 ·have hne:(Lit.string s.data.toList)≠Lit.string f.s.data.toList:=fun h=>e (Mh (by injection h));rw[atKey_put_other hne,h.at_];cases hq:oB s ((d.take i).map cF.s)
  ·rw[iM.2 (by have:=iM.1 hq;rw[take_snoc' hf];simp only[Ke,KI,Lv,Of,Kf];exact fun h=>h.elim this e)]
  ·rw[jP.2 (by have:=jP.1 hq;rw[take_snoc' hf];simp only[Ke,KI];exact .inl this)]
theorem ja.made(d:List cF)(w:World):ja d 0 w.heap.size (.map []) (w.alloc (.map #[] 0)):=⟨World.ownsMap_made w _ _ _,fun s=>by rw[iM.2 (by simp)];rfl⟩
theorem oP(ps:List PF)(A:Option Addr)(n c:Nat)(w:World)(h:SD (fun _=>True) w A n c ps)(hT:cY w)(ih:∀p∈ps,yr p.2.v):
 Calls prog 152 #[.slice A n c] w fun e w'=>e=.returned (.bool (dQ aV (ps.map Prod.snd)))/\Below w.heap.size w w':=by
 have H:=qD h;have HT:=qD hT;have IH:=qD ih;have hz:=h.sz;unfold aH at hz;have HN:=qD h.sr.ln;have hmm:=@run_makeMap prog;clear h hT ih;go_enter func152,ntmps152;go_wp2_with fail;clear hmm
 go_loopw [9] (fun v9 wr=>∃(i:Nat) (D:DataW Unit),i<=n/\v9=.int .i64 i/\bn aV ((ps.map Prod.snd).take i)/\ja (ps.map Prod.snd) i w.heap.size D wr/\Below w.heap.size w wr) (fun v9 _=>n-(intOf v9).toNat)
 ·exact⟨0,.map [],KD _,rfl,by rw[Lp];exact bn.nil,ja.made _ w,(Ju _ _).alloc (qL) _⟩
 case round=>
  obtain⟨i,D,hi,rfl,hF,hS,hB⟩:=hrel;have HF:=qD hF;have HS:=qD hS;have HB:=qD hB;by_cases hlt:i<n
  ·obtain⟨p,hp⟩:∃p,ps[i]?=some p:=⟨_,Jv (by have:=HN.out;omega)⟩;have hd:(ps.map Prod.snd)[i]?=some p.2:=by rw[KP,hp];rfl
   have hmem:=Jx hp;have hsz:=H.out.ns p hmem;obtain⟨b,off,rfl,_,hs,hu,hr⟩:=H.out.Iq hp;obtain⟨y0,y1,y2,y3,y4⟩:=hu.keep (hB.block b hu.lt);have n0:=(hB.cell (p:=⟨b,off+i*6,none⟩) hu.lt).trans hs;have hb:b<wr.heap.size:=by have:=hu.lt;have:=hB.size;omega
   have hA1:=(Ju wr.heap.size wr).alloc (qL) (Obj.cells #[.string p.2.s,.int .i64 p.1.k,.int .i64 p.1.n,.string p.1.t,.slice p.1.LA p.1.ln p.1.lc,.slice p.1.DA p.1.dn p.1.dc] 77);have look:=(hS.step hA1).look p.2.s hsz;have HS1:=qD (hS.step hA1);have HB1:=qD (hB.Ih hA1);have HR:=qD ((hr.step hB).step hA1);have HT1:=qD ((HT.out.step hB).step hA1);have HBk:Hid (aG (wr.alloc (.cells #[.string p.2.s,.int .i64 p.1.k,.int .i64 p.1.n,.string p.1.t,.slice p.1.LA p.1.ln p.1.lc,.slice p.1.DA p.1.dn p.1.dc] 77)) wr.heap.size 77 #[.string p.2.s,.int .i64 p.1.k,.int .i64 p.1.n,.string p.1.t,.slice p.1.LA p.1.ln p.1.lc,.slice p.1.DA p.1.dn p.1.dc]):=aG.Ii rfl;have HD:=qD hd;have HC:=qD (IH.out p hmem);clear hp hd hmem hs hu hr hF hS hB hA1;cases hnm:aV p.2.s
   ·have HV:=qD (cu (bn.JC HD.out hnm));go_wp2_with fail;refine(lV _ _).mono ?_;rintro e w' ⟨rfl,rfl⟩;rw[hnm];go_wp2_with fail;go_ret;exact⟨by rw[HV.out];rfl,HB1.out⟩
   cases hsn:oB p.2.s (((ps.map Prod.snd).take i).map cF.s);rotate_left
   ·have HV:=qD (cu (nm:=aV) (bn.JF HD.out (jP.1 hsn)));rw[hsn] at look;clear hsn;go_wp2_with fail;refine(lV _ _).mono ?_;rintro e w' ⟨rfl,rfl⟩;rw[hnm];go_wp2_with fail;go_ret;exact⟨by rw[HV.out];rfl,HB1.out⟩
   have HNew:=qD (iM.1 hsn);rw[hsn] at look;clear hsn;go_wp2_with fail;refine(lV _ _).mono ?_;rintro e w' ⟨rfl,rfl⟩;rw[hnm];go_wp2_with fail;refine(HC.out p.1 _ HT1.out HR.out).mono ?_;rintro e w2 ⟨rfl,hb2⟩;clear look y0 y1 y2 y3 y4 n0;have HB2:=qD (HB1.out.Ih hb2);have k0:=(HBk.out.step hb2).cell 0;simp at k0;cases hso:aQ aV p.2.v
   ·have HV:=qD (cu (nm:=aV) (bn.Iy HD.out (jI.1 hso)));clear hb2;go_wp2_with fail;go_ret;exact⟨by rw[HV.out];rfl,HB2.out⟩
   ·have HX:=qD (HF.out.next HD.out hnm HNew.out (fY.1 hso));have HS2:=qD (HS1.out.step hb2);have hsz2:=hb2.size;clear hb2;go_wp2_with (at_mapUpdate;refine wpList_mapUpdate_own _ rfl _ _ _ 213 rfl 9 4 rc underlying213 _ w.heap.size i D rfl HS2.out.own (by unfold maxLen;omega) _ _ _ rfl rfl (keyOf_string_mk LV (s:=p.2.s) (by unfold aH at hsz;unfold maxLen;omega)) _ [] (plainElem_bool NK true) ?_;intro w3 hown3 hgrow3);have HS3:=qD (HS2.out.next HD.out hown3);have HB3:=qD (HB2.out.grown hgrow3 (by have:=HB2.out.size;omega) (fun k hk=>by simp at hk;omega));clear hown3 hgrow3 k0;go_wp2_with fail;go_roundw
    ·exact⟨i+1,_,by omega,by go_num,HX.out,HS3.out,HB3.out⟩
    ·simp[intOf];omega
  ·have HV:Hid (dQ aV (ps.map Prod.snd)=true):=by
    have:=HF.out;rw[KL (by simp;have:=HN.out;omega)] at this;exact gX this
   clear hF hS hB;go_wp2_with fail;go_ret;exact⟨by rw[HV.out];rfl,HB.out⟩
end
open Go.Shelf
section
variable {c size:Nat} {x:Int} {s:ByteArray} {w w':World} {e:TypeId}
def qX:Go.Shelf.Ren:=⟨fun|196=>151|259=>199|n=>n,fun|9=>9|4=>4|3=>3|5=>5|12=>12|119=>209|0=>0|46=>154|139=>212|138=>211|53=>182|n=>n,fun|3=>0|4=>1|n=>n⟩
theorem re:Go.Proofs.Lays.n196 prog qX:={
 mixed:=by kernel_rfl
 f196:=Tryz.func151.trans (congrArg some (by kernel_rfl))
 f259:=Tryz.func199.trans (congrArg some (by kernel_rfl))
 t0:=underlying0
 a0:=Tryz.isAgg0
 z0:=Tryz.sizeOf0
 v0:=Tryz.zeroValue0
 t3:=Ld
 a3:=Tryz.isAgg3
 z3:=Tryz.sizeOf3
 v3:=Tryz.zeroValue3
 t4:=NK
 a4:=Tryz.isAgg4
 z4:=Tryz.sizeOf4
 v4:=Tryz.zeroValue4
 t5:=Mj
 a5:=Tryz.isAgg5
 z5:=Tryz.sizeOf5
 v5:=Tryz.zeroValue5
 t9:=LV
 a9:=Tryz.isAgg9
 z9:=Tryz.sizeOf9
 v9:=Tryz.zeroValue9
 t12:=underlying12
 a12:=Tryz.isAgg12
 z12:=Tryz.sizeOf12
 v12:=Tryz.zeroValue12
 t46:=underlying154
 a46:=Tryz.isAgg154
 z46:=Tryz.sizeOf154
 v46:=Tryz.zeroValue154
 t53:=underlying182
 a53:=Tryz.isAgg182
 z53:=Tryz.sizeOf182
 v53:=Tryz.zeroValue182
 t119:=underlying209
 a119:=Tryz.isAgg209
 z119:=Tryz.sizeOf209
 t138:=underlying211
 a138:=Tryz.isAgg211
 z138:=Tryz.sizeOf211
 v138:=Tryz.zeroValue211
 t139:=underlying212
 a139:=Tryz.isAgg212
 z139:=Tryz.sizeOf212
 v139:=Tryz.zeroValue212
 g3:=by kernel_rfl
 g4:=by kernel_rfl}
theorem oQ(s:ByteArray)(w:World)(hs:s.size<=aH)(hT:cY w):Calls prog 151 #[.string s] w fun e w'=>e=.returned (.bool (bt s))/\Below w.heap.size w w':=
 Any.utf8_ValidString re s w (by unfold aH at hs;omega) hT
def nR(x:aC):Int:=bR x 1025
def nS(x:aC):Int:=bE x 17
theorem xT(x:aC)(c:VC)(w:World)(h:RW w c x):Calls prog 93 #[c.val] w fun e w'=>e=.returned (.int .i64 (nR x))/\Below w.heap.size w w':=by
 have H:=qD h;clear h;go_enter func93,ntmps93;go_wp2_with fail;refine(zV x c 1025 _ (H.out.alloc _) (by omega) (by omega)).mono ?_;rintro e w1 ⟨rfl,hb⟩;go_wp2_with fail;go_ret;exact⟨rfl,((Ju _ _).alloc (qL) _).Ih hb⟩
theorem xU(x:aC)(c:VC)(w:World)(h:RW w c x):Calls prog 94 #[c.val] w fun e w'=>e=.returned (.int .i64 (nS x))/\Below w.heap.size w w':=by
 have H:=qD h;clear h;go_enter func94,ntmps94;go_wp2_with fail;refine(zW x c 17 _ (H.out.alloc _) (by omega) (by omega)).mono ?_;rintro e w1 ⟨rfl,hb⟩;go_wp2_with fail;go_ret;exact⟨rfl,((Ju _ _).alloc (qL) _).Ih hb⟩
end
end Go.Proofs.YtgfoliedmhgpnaaGreatDoor
