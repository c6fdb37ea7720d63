/- Parts of the proof, joined: PrOrd, RgGood, RgKeys, SortIB, SortRB, SortMB, SortGB, SortTB, RgSort. -/
import Derived.Test.YthfahkaadbdicaaGreatDoorRt1
import Derived.Test.YthfahkaadbdicaaGreatDoorRt27
import Derived.Test.YthfahkaadbdicaaGreatDoorRt6
import Derived.Test.YthfahkaadbdicaaGreatDoorRt12
import Derived.Test.YthfahkaadbdicaaGreatDoorRt8
import Derived.Test.YthfahkaadbdicaaGreatDoorRt9
import Derived.IntWalk
set_option maxRecDepth 100000
set_option maxHeartbeats 16000000
set_option linter.unusedSimpArgs false
open Go.Proofs.Tryz
open ByteArray (empty)
namespace Go.Proofs.YthfahkaadbdicaaGreatDoor
open Go.RowKit
theorem Br:∀(a b:List Int),bH b a=-bH a b
 | [],[]=>rfl
 | [],_::_=>rfl
 | _::_,[]=>rfl
 | x::r,y::s=>by
  rw[bH,bH,Br r s];split<;>split<;>first|omega|rfl
theorem Dz(a:List Int):bH [] a<=0:=by cases a<;>simp[bH]
theorem tg:∀(a b c:List Int),bH a b<=0->bH b c<=0->bH a c<=0/\(bH a b<0\/bH b c<0->bH a c<0)
 | [],b,[],_,h=>by
  cases b with
  | nil=>exact⟨by simp[bH],fun h=>by simp[bH] at h⟩
  | cons x r=>simp[bH] at h
 | [],_,_::_,_,_=>⟨by simp[bH],fun _=>by simp[bH]⟩
 | x::r,[],_,h,_=>by simp[bH] at h
 | x::r,y::s,[],_,h=>by simp[bH] at h
 | x::r,y::s,z::t,h1,h2=>by
  simp only[bH] at h1 h2 ⊢;by_cases a1:x<y
  ·rw[LZ a1] at*;by_cases a2:y<z
   ·rw[LZ (by omega)];exact⟨by omega,fun _=>by omega⟩
   ·rw[LU a2] at*;by_cases a3:z<y
    ·rw[LZ a3] at h2;omega
    ·rw[LZ (by omega)];exact⟨by omega,fun _=>by omega⟩
  ·rw[LU a1] at*;by_cases b1:y<x
   ·rw[LZ b1] at h1;omega
   ·rw[LU b1] at*;by_cases a2:y<z
    ·rw[LZ (by omega)];exact⟨by omega,fun _=>by omega⟩
    ·rw[LU a2] at*;by_cases a3:z<y
     ·rw[LZ a3] at h2;omega
     ·rw[LU a3] at*;rw[LU (by omega),LU (by omega)];exact tg r s t h1 h2
theorem yy{a b c:List Int}(h1:bH a b<=0)(h2:bH b c<0):bH a c<0:=(tg a b c h1 (by omega)).2 (.inr h2)
theorem lu{a b c:List Int}(h1:bH a b<0)(h2:bH b c<=0):bH a c<0:=(tg a b c (by omega) h2).2 (.inl h1)
def bF:List Int->Option (List Int)
 | []=>none
 | x::r=>match bF r with
  | some t=>some (x::t)
  | none=>if x=255 then none else some [x+1]
theorem kT:∀{l:List Int},bF l=none->∀x∈l,x=255
 | [],_,x,hx=>by simp at hx
 | y::r,h,x,hx=>by
  unfold bF at h;cases hr:bF r with
  | some t=>rw[hr] at h;simp at h
  | none=>
   rw[hr] at h;simp only at h;by_cases hy:y=255
   ·rcases Li.1 hx with rfl|hx
    ·exact hy
    ·exact kT hr x hx
   ·rw[LU hy] at h;simp at h
theorem oE{l:List Int}{x:Int}(hx:x∈l)(h:x≠255):∃t,bF l=some t:=by
 cases e:bF l with
 | some t=>exact⟨t,rfl⟩
 | none=>exact absurd (kT e x hx) h
theorem sG:∀{l t:List Int},bF l=some t->∀a,bH (l++a) t<0
 | [],t,h,a=>by simp[bF] at h
 | x::r,t,h,a=>by
  unfold bF at h;cases hr:bF r with
  | some u=>
   rw[hr] at h;simp only[MP] at h;subst h;rw[Lj,cB];exact sG hr a
  | none=>
   rw[hr] at h;simp only at h;by_cases hy:x=255
   ·rw[LZ hy] at h;simp at h
   ·rw[LU hy] at h;simp only[MP] at h;subst h;rw[Lj,eg (by omega)];omega
theorem EA:∀{y:List Int} {m:Nat},fi y->y.length<m->¬bH (List.replicate m 255) y<0
 | [],0,_,h=>by simp at h
 | [],m+1,_,_=>by simp[List.replicate,bH]
 | y::s,0,_,h=>by simp at h
 | y::s,m+1,hy,h=>by
  have h0:=hy y (by simp);have ih:=EA (y:=s) (m:=m) (fun z hz=>hy z (by simp[hz])) (by simpa using h);rw[List.replicate_succ,bH,LU (by omega)];split
  ·omega
  ·exact ih
theorem sH:∀{l t:List Int},bF l=some t->∀{y:List Int},fi y->(∀a,bH (l++a) y<0)->bH t y<=0
 | [],t,h,y,_,_=>by simp[bF] at h
 | x::r,t,h,[],_,hy=>by have:=hy [];simp[bH] at this
 | x::r,t,h,y::s,hr0,hy=>by
  have hxy:x<=y:=by
   have:=hy [];rw[Lj,bH] at this;split at this
   ·omega
   ·split at this
    ·omega
    ·omega
  unfold bF at h;cases hr:bF r with
  | some u=>
   rw[hr] at h;simp only[MP] at h;subst h;by_cases hlt:x<y
   ·rw[eg hlt];omega
   ·obtain rfl:x=y:=by omega
    rw[cB];refine sH hr (fun z hz=>hr0 z (by simp[hz])) fun a=>?_;have:=hy a
    rwa [Lj,cB] at this
  | none=>
   rw[hr] at h;simp only at h;by_cases h255:x=255
   ·rw[LZ h255] at h;simp at h
   ·rw[LU h255] at h;simp only[MP] at h;subst h;by_cases hlt:x<y
    ·rw[bH];split
     ·omega
     ·split
      ·omega
      ·exact Dz s
    ·obtain rfl:x=y:=by omega
     exfalso;have h1:=hy (List.replicate (s.length+1) 255);rw[Lj,cB] at h1
     have e:r++List.replicate (s.length+1) 255=List.replicate (r.length+(s.length+1)) 255:=by
      rw[show r=List.replicate r.length 255 from List.eq_replicate_iff.2 ⟨rfl,kT hr⟩,List.length_replicate,List.replicate_append_replicate]
     rw[e] at h1;exact EA (fun z hz=>hr0 z (by simp[hz])) (by omega) h1
theorem sI:∀{l t:List Int},fi l->bF l=some t->fi t
 | [],t,_,h=>by simp[bF] at h
 | x::r,t,hl,h=>by
  have hx:=hl x (by simp);unfold bF at h;cases hr:bF r with
  | some u=>
   rw[hr] at h;simp only[MP] at h;subst h;exact fi.cons hx (sI (fun z hz=>hl z (by simp[hz])) hr)
  | none=>
   rw[hr] at h;simp only at h;by_cases h255:x=255
   ·rw[LZ h255] at h;simp at h
   ·rw[LU h255] at h;simp only[MP] at h;subst h;exact fi.cons (by omega) fi.nil
def eK(a:cA):List Int:=if a.2 then(bF (aq a.1)).getD [] else aq a.1
def VO(a:cA):Prop:=aO a.1=true/\cJ a.1
theorem VO.or{a:cA}(h:VO a):AM a.1:=Hi h.1 h.2
theorem VO.rng{a:cA}(h:VO a):fi (aq a.1):=Fq a.1 (tf h.1).2.2
theorem VO.after{a:cA}(h:VO a):∃t,bF (aq a.1)=some t:=by
 have hk:=iV h.1;rw[dA];exact oE (x:=a.1.k) (by simp) (by omega)
theorem VO.Ks{a:cA}(h:VO a):fi (eK a):=by
 unfold eK;obtain⟨t,ht⟩:=h.after;split
 ·rw[ht];exact sI h.rng ht
 ·exact h.rng
theorem ti{a b:cA}(ha:VO a)(hb:VO b)(h:ae a b<0):bH (eK a) (eK b)<=0/\(¬(a.2=true/\b.2=false)->bH (eK a) (eK b)<0):=by
 obtain⟨x,p⟩:=a;obtain⟨y,q⟩:=b;obtain⟨t,ht⟩:=ha.after;obtain⟨u,hu⟩:=hb.after;simp only at ht hu;have gu:=sG hu [];rw[Lm] at gu;by_cases h0:aU x y=0
 ·have e:x=y:=sg (nm:=aN) x y (tf ha.1).2.2 (tf hb.1).2.2 h0;subst e
  have hpq:p=false/\q=true:=by
   unfold ae lT xS at h;simp only[h0] at h;cases p<;>cases q<;>simp_all
  obtain⟨rfl,rfl⟩:=hpq;unfold eK;simp only[hu,PR,Pj,if_false,Ou];exact⟨by omega,fun _=>gu⟩
 ·have hlt:aU x y<0:=by
   unfold ae lT at h;by_cases h':aU x y<0
   ·exact h'
   ·simp_all
  have ho:∀c d,bH (aq x++c) (aq y++d)<0:=fun c d=>by
   rw[Bq x y ha.or hb.or c d,Hf h0];exact hlt
  have h1:bH (aq x) (aq y)<0:=by have:=ho [] [];rwa [Lm,Lm] at this
  have h2:bH t (aq y)<=0:=sH ht hb.rng fun c=>by have:=ho c [];rwa [Lm] at this
  unfold eK;simp only[ht,hu,PR];cases p<;>cases q<;>simp only[Pj,if_false,Ou]
  ·exact⟨by omega,fun _=>h1⟩
  ·have:=lu h1 (show bH (aq y) u<=0 by omega);exact⟨by omega,fun _=>this⟩
  ·exact⟨h2,fun h=>absurd ⟨trivial,trivial⟩ h⟩
  ·have:=yy h2 gu;exact⟨by omega,fun _=>this⟩
structure cV(S:cA->Prop):Prop where
 lo:∀a,iy a->yu ae iy S a->cJ a.1/\(a.2=true->∀b,VO b->ae a b<0->¬bH (eK a) (eK b)<0->S b)
 hi:∀a,iy a->xR ae iy S a->cJ a.1
theorem cV.congr{S T:cA->Prop}(h:cV S)(e:∀a,iy a->(S a↔T a)):cV T:=
 ⟨fun a ha k=>by
  obtain⟨h1,h2⟩:=h.lo a ha (k.congr ha fun b hb=>(e b hb).symm)
  exact⟨h1,fun h3 b hb h4 h5=>(e b hb.1).1 (h2 h3 b hb h4 h5)⟩,fun a ha k=>h.hi a ha (k.congr ha fun b hb=>(e b hb).symm)⟩
theorem cV.or{S T:cA->Prop}(h:cV S)(k:cV T):cV fun a=>S a\/T a:=by
 refine⟨fun a ha m=>?_,fun a ha m=>?_⟩
 ·rcases m.or with m|m
  ·obtain⟨h1,h2⟩:=h.lo a ha m;exact⟨h1,fun h3 b hb h4 h5=>.inl (h2 h3 b hb h4 h5)⟩
  ·obtain⟨h1,h2⟩:=k.lo a ha m;exact⟨h1,fun h3 b hb h4 h5=>.inr (h2 h3 b hb h4 h5)⟩
 ·rcases m.or cO with m|m
  ·exact h.hi a ha m
  ·exact k.hi a ha m
theorem cV.none:cV fun _=>False:=by
 refine⟨fun a _ m=>m.1.elim,fun a _ m=>?_⟩;obtain⟨_,⟨c,c1,c2⟩,h3⟩:=m;obtain⟨d,_,_,_,d4⟩:=h3 c c1 c2;exact d4.elim
theorem cV.any:∀{rs:List iH},(∀r∈rs,cV r.1)->cV fun a=>∃r∈rs,r.1 a
 | [],_=>cV.none.congr fun a _=>⟨fun h=>h.elim,fun⟨_,h,_⟩=>by cases h⟩
 | r::rs,h=>by
  have h1:=cV.any (rs:=rs) fun x hx=>h x (OP _ hx);refine((h r List.mem_cons_self).or h1).congr fun a _=>?_;constructor
  ·rintro(k|⟨x,hx,k⟩)
   ·exact⟨r,List.mem_cons_self,k⟩
   ·exact⟨x,OP _ hx,k⟩
  ·rintro⟨x,hx,k⟩;rcases Li.1 hx with rfl|hx
   ·exact .inl k
   ·exact .inr ⟨x,hx,k⟩
theorem cV.KX{l:List Iv}(h:∀x∈l,x.ne=true->cJ x.lo/\cJ x.hi/\(x.li=false->bH (eK x.sp.1) (eK x.sp.2)<0)):cV fun a=>dj ae a (aT l):=by
 have hv:∀s∈aT l,iy s.1/\iy s.2:=fun s hs=>(lH s hs).2;refine⟨fun a ha m=>?_,fun a ha m=>?_⟩
 ·obtain⟨s,hs,rfl⟩:=m.mem cO hv ha;obtain⟨x,hx,rfl⟩:=MS.1 hs;obtain⟨hx1,hx2⟩:=Nu.1 hx;obtain⟨n1,n2,n3⟩:=h x hx1 hx2;have ne:=AY hx2;refine⟨n1,fun h2 b hb h4 h5=>⟨x.sp,hs,by omega,?_⟩⟩;have h6:x.li=false:=by simpa[Iv.sp] using h2
  have h7:=n3 h6;have an:=cO.anti b x.sp.2;by_cases e0:ae b x.sp.2=0
  ·have:=cO.eq b x.sp.2 hb.1 ne.2.2 e0;rw[this] at h5;exact absurd h7 h5
  ·by_cases e1:ae b x.sp.2<0
   ·exact e1
   ·have k:=(ti (a:=x.sp.2) (b:=b) ⟨ne.2.2,n2⟩ hb (by omega)).1;exact absurd (lu h7 k) h5
 ·obtain⟨s,hs,rfl⟩:=m.mem cO hv ha;obtain⟨x,hx,rfl⟩:=MS.1 hs;obtain⟨hx1,hx2⟩:=Nu.1 hx;exact(h x hx1 hx2).2.1
theorem eh{k n:Int}{t:ByteArray}(h:jb n):cJ (.mk k n t [] []):=(gx _).2 ⟨h,by simp[aC.l],by simp[aC.d]⟩
theorem fz(k:Int):cJ (cT k):=by
 unfold cT iZ;split
 ·exact eh (by unfold jb;decide)
 ·split<;>exact eh (by unfold jb;decide)
theorem lw(k:Int):cJ (cd k).lo/\cJ (cd k).hi/\(cd k).li=true:=by
 unfold cd;split
 ·exact⟨fz k,eh (by unfold jb;decide),rfl⟩
 ·split
  ·exact⟨fz k,eh (by unfold jb;decide),rfl⟩
  ·split
   ·exact⟨fz k,fz _,rfl⟩
   ·exact⟨fz k,fz k,rfl⟩
theorem Bs{k:Int}(h:k=4\/k=5\/k=7\/k=8):∃y r,aq (cT (k+1))=(k+1)::y::r:=by
 rcases h with rfl|rfl|rfl|rfl
 ·exact⟨_,_,by rw[dA];rfl⟩
 ·exact⟨_,_,by rw[dA];rfl⟩
 ·exact⟨_,_,by rw[dA];rfl⟩
 ·exact⟨_,_,by rw[dA];rfl⟩
theorem Hj{x:aC}(hv:aO x=true)(hn:cJ x)(h6:x.k≠6)(hlt:ae (x,true) ((cd x.k).hi,(cd x.k).hin)<0)(hh:aO (cd x.k).hi=true):
 bH (eK (x,true)) (eK ((cd x.k).hi,(cd x.k).hin))<0:=by
 have hb:VO ((cd x.k).hi,(cd x.k).hin):=⟨hh,(lw x.k).2.1⟩;have ha:VO (x,true):=⟨hv,hn⟩;have hk:=iV hv;by_cases hin:(cd x.k).hin=true
 ·exact(ti ha hb hlt).2 fun h=>by have:=h.2;simp only at this;rw[hin] at this;simp at this
 ·have k4:x.k=4\/x.k=5\/x.k=7\/x.k=8:=by
   unfold cd at hin;split at hin
   ·simp at hin
   ·split at hin
    ·simp at hin
    ·split at hin
     ·omega
     ·simp at hin
  have e:cd x.k=⟨cT x.k,cT (x.k+1),true,false⟩:=by
   unfold cd;rw[LU (by omega),LU (by omega),LZ (by omega)]
  rw[e];obtain⟨y,r,hy⟩:=Bs k4;obtain⟨t,ht⟩:=ha.after;obtain⟨T,hT⟩:∃T,aq x=x.k::T:=⟨_,dA _⟩;unfold eK;simp only[Ou,Pj,if_false];rw[hy];simp only at ht;rw[ht,PR];rw[hT] at ht;unfold bF at ht;cases hr:bF T with
  | some u=>
   rw[hr] at ht;simp only[MP] at ht;subst ht;rw[eg (by omega)];omega
  | none=>
   rw[hr] at ht;simp only at ht;rw[LU (by omega)] at ht;simp only[MP] at ht;subst ht;rw[cB];simp[bH]
theorem lA:cV dV:=cV.KX (l:=[iq]) fun x hx _=>by
 obtain rfl:x=iq:=by simpa using hx
 exact⟨eh (by unfold jb;decide),eh (by unfold jb;decide),fun h=>by simp[iq] at h⟩
theorem AO{v:aC}(h:cJ v):cJ (eM v).lo/\cJ (eM v).hi/\((eM v).li=false->bH (eK (eM v).sp.1) (eK (eM v).sp.2)<0):=⟨h,h,fun h=>by simp[eM] at h⟩
theorem Bt{op n:Int}{arg:aC}{args:List aC}{r:List Iv×Bool}(h:dv op arg args n=some r)(hn:cJ arg)(hs:∀x∈args,cJ x):cV fun a=>dj ae a (aT r.1):=by
 unfold dv at h;split at h
 ·split at h
  ·simp at h
  ·obtain rfl:=Mk h
   exact cV.KX fun x hx _=>by
    obtain rfl:x=eM arg:=by simpa using hx
    exact AO hn
 ·split at h
  ·rename_i hop
   split at h
   ·simp at h
   ·rename_i h6
    obtain rfl:=Mk h;refine cV.KX fun x hx hne=>?_;obtain rfl:x=ud op arg:=by simpa using hx
    have hr:=lw arg.k;unfold ud at hne ⊢;by_cases h45:op=4\/op=5
    ·rw[LZ h45] at hne ⊢;refine⟨hn,hr.2.1,fun h5=>?_⟩;have hp:=AY hne;simp only[Iv.sp] at hp ⊢;simp only at h5;rw[h5] at hp ⊢;exact Hj hp.2.1 hn h6 hp.1 hp.2.2
    ·rw[LU h45];exact⟨hr.1,hn,fun h5=>by simp only at h5;rw[hr.2.2] at h5;simp at h5⟩
  ·split at h
   ·split at h
    ·simp at h
    ·obtain rfl:=Mk h
     exact cV.KX fun x hx _=>by
      obtain⟨v,hv,rfl⟩:=MS.1 hx;exact AO (hs v hv)
   ·split at h
    ·obtain rfl:=Mk h;refine cV.KX fun x hx _=>?_;obtain rfl:x=(mZ arg).1:=by simpa using hx
     unfold mZ;split
     ·split
      ·exact⟨hn,eh (by unfold jb;decide),fun h=>by simp at h⟩
      ·exact⟨hn,eh (by unfold jb;decide),fun h=>by simp at h⟩
     ·exact⟨hn,eh (by unfold jb;decide),fun h=>by simp at h⟩
    ·split at h
     ·split at h
      ·simp at h
      ·obtain rfl:=Mk h;refine cV.KX fun x hx _=>?_;obtain rfl:x=cd n:=by simpa using hx
       have hr:=lw n;exact⟨hr.1,hr.2.1,fun h=>by rw[hr.2.2] at h;simp at h⟩
     ·simp at h
theorem oF:∀{rs:List iH},(∀r∈rs,cV r.1)->cV (dx rs).1
 | [],_=>lA
 | r::rs,h=>by
  unfold dx;split
  ·exact oF fun x hx=>h x (by simp[hx])
  ·exact h r (by simp)
theorem EB(l:List ByteArray):∀{p:ao},ij p->cV (dE l p).1:=by
 intro p
 induction p using ao.ind with
 | h p ih=>
  intro hn;obtain⟨n1,n2,n3⟩:=(sF p).1 hn
  have hk:∀r∈p.kids.map (dE l),cV r.1:=by
   intro r hr;obtain⟨k,hk,rfl⟩:=MS.1 hr;exact ih k hk (n3 k hk)
  by_cases h20:p.op=20
  ·rw[tL h20];unfold lg;split
   ·rename_i r e
    exact hk r (by rw[e];simp)
   ·exact oF hk
  ·by_cases h21:p.op=21
   ·rw[xo h21];unfold xm;split
    ·exact lA
    ·exact cV.any hk
   ·by_cases hp:p.path.xs=l
    ·rw[pE h20 h21 hp];unfold bZ;split
     ·rename_i r e
      exact Bt e n1 fun x hx=>by
       obtain⟨y,hy,rfl⟩:=MS.1 hx;exact n2 y hy
     ·exact lA
    ·rw[pF h20 h21 hp];exact lA
theorem cV.nf{S:cA->Prop}(h:cV S){m:List (cA×cA)}(hm:fg S m){s:cA×cA}(hs:s∈m):VO s.1/\VO s.2/\bH (eK s.1) (eK s.2)<0:=by
 have ne:=hm.1.ne s hs;have l1:yu ae iy S s.1:=(hm.1.lo cO hs).congr ne.2.1 fun a _=>hm.2 a;have l2:xR ae iy S s.2:=(hm.1.hi cO hs).congr ne.2.2 fun a _=>hm.2 a;obtain⟨g1,g2⟩:=h.lo _ ne.2.1 l1;have v1:VO s.1:=⟨ne.2.1,g1⟩;have v2:VO s.2:=⟨ne.2.2,h.hi _ ne.2.2 l2⟩;refine⟨v1,v2,?_⟩;by_cases hc:bH (eK s.1) (eK s.2)<0
 ·exact hc
 ·by_cases h2:s.1.2=true
  ·exact absurd (g2 h2 _ v2 ne.1 hc) l2.1
  ·exact(ti v1 v2 ne.1).2 fun k=>h2 k.1
abbrev vv(a b:ByteArray):Prop:=bm a b<0
theorem py:yr vv:=by
 refine⟨fun a=>?_,fun {a b c} h k=>?_,fun a b=>?_⟩
 ·show ¬bm a a<0;rw[iD.2 rfl];omega
 ·have:=mv a b c;unfold TR at this;show bm a c<0;have h':bm a b<0:=h;have k':bm b c<0:=k;omega
 ·show bm a b<0\/a=b\/bm b a<0;have:=gD a b;by_cases h:bm a b=0
  ·exact .inr (.inl (iD.1 h))
  ·omega
theorem Bu:strOfNums []=empty:=rfl
theorem Bv{l:List Int}(hl:fi l)(h:l≠[]):vv empty (strOfNums l):=by
 show bm _ _<0;rw[<-Bu,te fi.nil hl];cases l with
 | nil=>exact absurd rfl h
 | cons a r=>simp[bH]
theorem Bw:∀{l t:List Int},bF l=some t->t≠[]
 | [],t,h=>by simp[bF] at h
 | x::r,t,h=>by
  unfold bF at h;split at h
  ·simp at h;subst h;simp
  ·split at h
   ·simp at h
   ·simp at h;subst h;simp
theorem VO.ne{a:cA}(h:VO a):eK a≠[]:=by
 unfold eK;obtain⟨t,ht⟩:=h.after;split
 ·rw[ht];exact Bw ht
 ·rw[dA];simp
open Classical in
noncomputable def ei(a:cA):ByteArray:=if a=(eL,false) then empty else strOfNums (eK a)
open Classical in
noncomputable def iR(a:cA):ByteArray:=if a=(ff,true) then empty else strOfNums (eK a)
noncomputable def eB(s:cA×cA):ByteArray×ByteArray:=(ei s.1,iR s.2)
theorem EC{a b:cA}(hb:VO b)(h:a=(eL,false)\/(VO a/\bH (eK a) (eK b)<0)):vv (ei a) (strOfNums (eK b)):=by
 unfold ei;by_cases e:a=(eL,false)
 ·rw[LZ e];exact Bv hb.Ks hb.ne
 ·rw[LU e];obtain⟨h1,h2⟩:=h.resolve_left e;show bm _ _<0;rw[te h1.Ks hb.Ks];exact h2
theorem EF{a b:cA}(ha:iy a)(h:ae a b<0):b≠(eL,false):=by
 rintro rfl;have h1:=Hr ha;have:=cO.anti a (eL,false);omega
section
variable {S:cA->Prop} {m:List (cA×cA)}
theorem vw(g:cV S)(h:fg S m):ja vv (m.map eB):=by
 unfold ja;rw[Nv];refine List.Pairwise.imp_of_mem (fun {s t} hs ht hst=>?_) h.1.ord;obtain⟨s1,s2,s3⟩:=g.nf h hs;obtain⟨t1,t2,t3⟩:=g.nf h ht;have e:ei t.1=strOfNums (eK t.1):=LU (EF s2.1 hst);show vv (ei s.1) (ei t.1);rw[e];exact EC t1 (.inr ⟨s1,lu s3 (ti s2 t1 hst).1⟩)
end
def fk(n:Int):List Int:=3::nums n
def eE(n:Int):ByteArray×ByteArray:=(strOfNums (fk n),strOfNums ((bF (fk n)).getD []))
theorem ml(n:Int):fi (fk n):=fi.cons (by omega) (vr n)
theorem pz(n:Int):∃t,bF (fk n)=some t:=oE (x:=3) (by simp[fk]) (by omega)
theorem Bx{n m:Int}(h:(eE n).1=(eE m).1):eE n=eE m:=by
 have h1:bm (strOfNums (fk n)) (strOfNums (fk m))=0:=iD.2 h;rw[te (ml n) (ml m)] at h1;have:=AK h1;unfold eE;rw[this]
def jO(e:B2×Nat):List Value:=aY e.1
theorem gY(e:B2×Nat):(jO e).length=2:=aw e.1
def cG(w:World)(g:Nat)(L:List (B2×Nat)):Prop:=∃R:List Value,aE w g 49 (aJ jO L++R).toArray
abbrev rA(p:B2×Nat):Value:=.agg #[.string p.1.1,.string p.1.2]
section
variable {w w':World} {g:Nat} {L:List (B2×Nat)}
theorem cG.cell(h:cG w g L){j:Nat}{p:B2×Nat}(hj:L[j]?=some p)(i:Nat)(v:Value)(hi:(jO p)[i]?=some v):w.cell? ⟨g,j*2+i,none⟩=some v:=by
 obtain⟨R,h⟩:=h;have hf:=bg gY hj hi;rw[aE.cell h (j*2+i),Mx,MG (LJ.1 hf).1];exact hf
theorem cG.step(h:cG w g L)(hb:Below w.heap.size w w'):cG w' g L:=by obtain⟨R,h⟩:=h;exact⟨R,aE.step h hb⟩
theorem cG.drew(h:cG w g L):cG w.drew g L:=by obtain⟨R,h⟩:=h;exact⟨R,aE.drew h⟩
theorem cG.frozen(h:cG w g L)(i:Nat):w.frozen? ⟨g,i,none⟩=false:=by obtain⟨R,h⟩:=h;exact aE.frozen h i
theorem cG.lt(h:cG w g L):g<w.heap.size:=by obtain⟨R,h⟩:=h;exact aE.lt h
theorem cG.put(h:cG w g L){j:Nat}(hj:j<L.length)(p:B2×Nat):cG ((w.setCell ⟨g,j*2,none⟩ (.string p.1.1)).setCell ⟨g,j*2+1,none⟩ (.string p.1.2)) g (L.set j p):=by
 obtain⟨R,h⟩:=h;have hl:=bP gY L
 have e:aJ jO (L.set j p)++R=cF (aJ jO L++R) (j*2) (jO p):=by
  rw[xM gY L j p hj,oR _ _ _ _ (by rw[gY];omega)]
 refine⟨R,?_⟩;rw[e];clear e hl;generalize aJ jO L++R=X at h ⊢;have:=aE.Js (aE.Js h (j*2) (.string p.1.1)) (j*2+1) (.string p.1.2);rw[show(cF X (j*2) (jO p)).toArray=((X.toArray.setIfInBounds (j*2) (.string p.1.1)).setIfInBounds (j*2+1) (.string p.1.2)) from by simp[cF,jO,aY]];exact this
end
def kU(g:Nat)(w:World)(U:List (B2×Nat)):Prop:=∀(x y:B2×Nat),x∈U->y∈U->∀wr,ey g w wr->
 Calls prog 104 #[rA x,rA y] wr fun e w'=>e=.returned (.int .i64 (bL x.1 y.1))/\Below wr.heap.size wr w'
structure iX(g:Nat)(w:World)(L:List (B2×Nat))(wr:World):Prop where
 row:cG wr g L
 but:ey g w wr
theorem iX.step{g:Nat}{w wr w':World}{L:List (B2×Nat)}(h:iX g w L wr)(hb:Below wr.heap.size wr w'):iX g w L w':=⟨h.row.step hb,h.but.step hb⟩
theorem iX.swap{g:Nat}{w w2:World}{L:List (B2×Nat)}(h:iX g w L w2){jj:Nat}(hl:jj<L.length)(x y:B2×Nat):iX g w ((L.set jj y).set (jj-1) x) ((((w2.setCell ⟨g,jj*2,none⟩ (.string y.1.1)).setCell ⟨g,jj*2+1,none⟩ (.string y.1.2)).setCell ⟨g,(jj-1)*2,none⟩ (.string x.1.1)).setCell ⟨g,(jj-1)*2+1,none⟩ (.string x.1.2)).drew:=
 ⟨cG.drew ((h.row.put hl y).put (j:=jj-1) (by rw[NK];omega) x),ey.step ((((h.but.set (p:=⟨g,jj*2,none⟩) rfl (.string y.1.1)).set (p:=⟨g,jj*2+1,none⟩) rfl (.string y.1.2)).set (p:=⟨g,(jj-1)*2,none⟩) rfl (.string x.1.1)).set (p:=⟨g,(jj-1)*2+1,none⟩) rfl (.string x.1.2)) ((LH _ _).drew)⟩
def tj(g:Nat)(w:World)(A Seg D:List (B2×Nat))(e:Ending)(w':World):Prop:=
 e=.returned (.tuple #[])/\∃S,aR bL Seg S/\iX g w (A++S++D) w'
theorem qA(H:cL bL)(A Seg D:List (B2×Nat))(g n c a b:Nat)(w:World)(hr:cG w g (A++Seg++D))(hn:n=(A++Seg++D).length)(ha:a=A.length)(hb:b=A.length+Seg.length)(hz:n*32<=aF)(ht:gE Seg)(hc:kU g w Seg):
 Calls prog 206 #[.slice (some ⟨g,0,none⟩) n c,.int .i64 a,.int .i64 b,.func (.func 104) #[] #[]] w (tj g w A Seg D):=by
 unfold aF at hz;have HN:=qD hn;have HA:=qD ha;have HBq:=qD hb;have hab:a<=b:=by omega
 have hbn:b<=n:=by rw[hn];simp;omega
 have HC:=qD hc;have HT:=qD ht;have HO:=qD H;have I0:Hid (iX g w (A++Seg++D) w):=qD ⟨hr,ey.refl⟩;clear hr hn ha hb ht hc H;cases hs:Seg with
 | nil=>
  have hab':b<=a:=by have:=HA.out;have:=HBq.out;rw[hs] at this;simp at this;omega
  have HS:=qD hs;clear hs;go_enter func206,Pz;go_wp2_with fail
  go_loopw [8] (fun v8 wr=>v8=.int .i64 (a+1)/\wr=w) (fun _ _=>0)
  ·exact⟨by go_num,rfl⟩
  case round=>
   obtain⟨rfl,rfl⟩:=hrel;go_wp2_with fail
   go_end0
   exact⟨rfl,[],aR.nil,by have:=I0.out;rw[HS.out] at this;exact this⟩
 | cons x0 rest=>
  have HS:=qD hs;clear hs;rw[<-HS.out];go_enter func206,Pz;go_wp2_with fail
  go_loopw [8] (fun v8 wr=>∃(i:Nat) (P Q S:List (B2×Nat)),v8=.int .i64 i/\i=a+P.length/\1<=P.length/\i<=b/\Seg=P++Q/\aR bL P S/\iX g w (A++S++(Q++D)) wr) (fun v8 _=>b-(intOf v8).toNat)
  case atStart=>
   refine⟨a+1,[x0],rest,[x0],by go_num,rfl,qL,?_,HS.out,aR.one x0,?_⟩
   ·have:=HBq.out;have:=HA.out;rw[HS.out] at*;simp at*;omega
   ·have:=I0.out;rw[HS.out] at this;simpa using this
  case round=>
   obtain⟨i,P,Q,S,rfl,hi,hP,hib,hPQ,hS,I⟩:=hrel;have HI:=qD hi;have HPQ:=qD hPQ;have HSo:=qD hS;have J:=qD I;clear hi hPQ hS;by_cases hlt:i<b
   ·obtain⟨x,Q',hQ⟩:∃x Q',Q=x::Q':=by
     cases Q with
     | nil=>
      have h1:=HBq.out;have h2:=HI.out;have h3:=HA.out;rw[HPQ.out] at h1;simp at h1;omega
     | cons x Q'=>exact⟨x,Q',rfl⟩
    have HQ:=qD hQ;have hSl:S.length=P.length:=HSo.out.perm.length_eq;have HSl:=qD hSl;clear I hSl hQ;go_wp2_with fail
    go_loopw [9] (fun v9 wr=>∃(jj:Nat) (S1 S2:List (B2×Nat)),v9=.int .i64 jj/\jj=a+S1.length/\jj<=i/\S=S1++S2/\(∀y∈S2,bL x.1 y.1<0)/\iX g w (A++(S1++x::S2)++(Q'++D)) wr) (fun v9 _=>(intOf v9).toNat)
    case atStart=>
     refine⟨i,S,[],rfl,by rw[HI.out,HSl.out],qL,by simp,by simp,?_⟩;have:=J.out;rw[HQ.out] at this;simpa using this
    case round=>
     clear J;obtain⟨jj,S1,S2,rfl,hj,hji,hSS,hall,I⟩:=hrel;have HJ:=qD hj;have HSS:=qD hSS;have HAll:=qD hall;have J:=qD I;clear hj hSS hall;by_cases hgt:a<jj
     ·obtain⟨S3,y,hS3⟩:∃S3 y,S1=S3++[y]:=by
       rcases NI S1 with h|⟨S3,y,h⟩
       ·have:=HJ.out;rw[h] at this;simp at this;omega
       ·exact⟨S3,y,by rw[h,My]⟩
      have hA:=HA.out;have hj1:jj=A.length+(S3.length+1):=by rw[HJ.out,hS3];simp;omega
      have hx:(A++(S1++x::S2)++(Q'++D))[jj]?=some x:=by
       rw[hS3,hj1];simp
      have hy:(A++(S1++x::S2)++(Q'++D))[jj-1]?=some y:=by
       rw[hS3,hj1];simp
      have hxm:x∈Seg:=by rw[HPQ.out,HQ.out];simp
      have hym:y∈Seg:=by
       rw[HPQ.out];exact OT _ (HSo.out.perm.subset (by rw[HSS.out,hS3];simp))
      have p0:wr.cell? ⟨g,jj*2,none⟩=some (.string x.1.1):=I.row.cell hx 0 _ rfl;have p1:wr.cell? ⟨g,jj*2+1,none⟩=some (.string x.1.2):=I.row.cell hx 1 _ rfl;have r0:wr.cell? ⟨g,(jj-1)*2,none⟩=some (.string y.1.1):=I.row.cell hy 0 _ rfl;have r1:wr.cell? ⟨g,(jj-1)*2+1,none⟩=some (.string y.1.2):=I.row.cell hy 1 _ rfl;have P0:∀k:BW wr,k.val.cell? ⟨g,jj*2,none⟩=some (.string x.1.1):=fun k=>k.cell p0;have P1:∀k:BW wr,k.val.cell? ⟨g,jj*2+1,none⟩=some (.string x.1.2):=fun k=>k.cell p1;have R0:∀k:BW wr,k.val.cell? ⟨g,(jj-1)*2,none⟩=some (.string y.1.1):=fun k=>k.cell r0;have R1:∀k:BW wr,k.val.cell? ⟨g,(jj-1)*2+1,none⟩=some (.string y.1.2):=fun k=>k.cell r1;have hjn:jj<n:=by omega
      have i0:(0:Int)<=(jj:Int):=by omega
      have i1:(jj:Int)<(n:Int):=by omega
      have i2:(0:Int)<=(jj:Int)-1:=by omega
      have i3:(jj:Int)-1<(n:Int):=by omega
      have W1:IntKind.i64.wrap ((jj:Int)-1)=(jj:Int)-1:=wrap_i64' (by omega) (by omega);have W2:((jj:Int)-1).toNat=jj-1:=by omega
      have K1:Hid (∀k:BW wr,Calls prog 104 #[rA x,rA y] k.val fun e w''=>e=.returned (.int .i64 (bL x.1 y.1))/\∃k:BW wr,w''=k.val):=fun k=>
       Calls.bw (HC.out x y hxm hym k.val (I.but.step k.below))
      have HX:=qD hx;have HY:=qD hy;have HS3:=qD hS3;have HJ1:=qD hj1;clear p0 r0 p1 r1 hx hy hxm hym I hS3 hj1 hA;go_upto_region 4 with fail
      refine aL (by kernel_rfl) (by kernel_rfl) ?_
      repeat(go_big_quiet_step (with_reducible exact K1.out _))
      refine Ln ?_;rintro _ ⟨kw,rfl⟩;have J2:=qD (J.out.step kw.below);clear P0 R0 P1 R1 K1 W1 W2 i0 i1 i2 i3;generalize kw.val=w2 at*;by_cases hc:bL x.1 y.1<0
      ·have p0:w2.cell? ⟨g,jj*2,none⟩=some (.string x.1.1):=J2.out.row.cell HX.out 0 _ rfl;have p1:w2.cell? ⟨g,jj*2+1,none⟩=some (.string x.1.2):=J2.out.row.cell HX.out 1 _ rfl;have r0:w2.cell? ⟨g,(jj-1)*2,none⟩=some (.string y.1.1):=J2.out.row.cell HY.out 0 _ rfl;have r1:w2.cell? ⟨g,(jj-1)*2+1,none⟩=some (.string y.1.2):=J2.out.row.cell HY.out 1 _ rfl;have z:=cG.frozen J2.out.row;go_upto_region 6 with fail
       go_region
       all_goals
        clear p0 r0 p1 r1 z;go_wp2_with fail;refine⟨⟨jj-1,S3,y::S2,by rw[show((jj-1:Nat):Int)=(jj:Int)-1 by omega],by rw[HJ1.out,HA.out];omega,by omega,by rw[HSS.out,HS3.out];simp,?_,?_⟩,by simp[intOf];omega⟩
        ·intro q hq;rcases Li.1 hq with rfl|hq
         ·exact hc
         ·exact HAll.out q hq
        ·have hl:jj<(A++(S1++x::S2)++(Q'++D)).length:=(LJ.1 HX.out).1;have r1:=J2.out.swap hl x y;rw[HS3.out,HJ1.out,lJ,<-HJ1.out] at r1;exact r1
      ·have HD:Hid (aR bL (P++[x]) (S1++x::S2)):=by
        refine aR.insert HO.out (by rw[<-HSS.out];exact HSo.out) (fun y hy=>?_) HAll.out (fun q hq=>?_)
        ·have h:=HT.out;rw[HPQ.out,HQ.out] at h;exact(Le.1 h).2.2 y hy x (by simp)
        ·rw[HS3.out] at hq;simp at hq;subst hq;exact hc
       go_wp2_with fail;go_roundw
       ·exact⟨i+1,P++[x],Q',S1++x::S2,by go_num,by rw[HI.out];simp;omega,by simp,by omega,by rw[HPQ.out,HQ.out];simp,HD.out,J2.out⟩
       ·simp[intOf];omega
     ·have HN1:Hid (S1=[]):=LO (by have:=HJ.out;omega)
      have HD:Hid (aR bL (P++[x]) (S1++x::S2)):=by
       refine aR.insert HO.out (by rw[<-HSS.out];exact HSo.out) (fun y hy=>?_) HAll.out (fun q hq=>?_)
       ·have h:=HT.out;rw[HPQ.out,HQ.out] at h;exact(Le.1 h).2.2 y hy x (by simp)
       ·rw[HN1.out] at hq;simp at hq
      clear I;have hgt':decide ((a:Int)<(jj:Int))=false:=LW (by omega);go_upto_region 4 with fail
      go_quiet (fail)
      go_wp2_with fail;go_roundw
      ·exact⟨i+1,P++[x],Q',S1++x::S2,by go_num,by rw[HI.out];simp;omega,by simp,by omega,by rw[HPQ.out,HQ.out];simp,HD.out,J.out.step (Below.drewN (LH _ _) _)⟩
      ·simp[intOf];omega
   ·have HF:Hid (Q=[]):=by
     have h1:=HBq.out;have h2:=HI.out;have h3:=HA.out;rw[HPQ.out] at h1;simp at h1;exact LO (by omega)
    clear I;go_wp2_with fail
    go_end0
    refine⟨rfl,S,?_,?_⟩
    ·have:=HSo.out;rw[HPQ.out,HF.out,Lm];exact this
    ·have:=J.out;rw[HF.out,MC] at this;exact this
theorem iX.Kd{g:Nat}{w w2:World}{L:List (B2×Nat)}(h:iX g w L w2){p q:Nat}(hp:p<L.length)(hq:q<L.length)(x y:B2×Nat):iX g w ((L.set p y).set q x) ((((w2.setCell ⟨g,p*2,none⟩ (.string y.1.1)).setCell ⟨g,p*2+1,none⟩ (.string y.1.2)).setCell ⟨g,q*2,none⟩ (.string x.1.1)).setCell ⟨g,q*2+1,none⟩ (.string x.1.2)).drew:=
 ⟨cG.drew ((h.row.put hp y).put (j:=q) (by rw[NK];exact hq) x),ey.step ((((h.but.set (p:=⟨g,p*2,none⟩) rfl (.string y.1.1)).set (p:=⟨g,p*2+1,none⟩) rfl (.string y.1.2)).set (p:=⟨g,q*2,none⟩) rfl (.string x.1.1)).set (p:=⟨g,q*2+1,none⟩) rfl (.string x.1.2)) ((LH _ _).drew)⟩
def vx(g:Nat)(w:World)(L:List (B2×Nat))(e:Ending)(w':World):Prop:=e=.returned (.tuple #[])/\iX g w L w'
theorem iS(A U M V D:List (B2×Nat))(g n c a b k:Nat)(aI bI kI:Int)(fv:Value)(w:World)(hr:cG w g (A++U++M++V++D))(hn:n=(A++U++M++V++D).length)(ha:a=A.length)(hb:b=A.length+U.length+M.length)(hk:k=U.length)(hkv:k=V.length)(haI:aI=a)(hbI:bI=b)(hkI:kI=k)(hz:n*32<=aF):
 Calls prog 268 #[.slice (some ⟨g,0,none⟩) n c,.int .i64 aI,.int .i64 bI,.int .i64 kI,fv] w (vx g w (A++V++M++U++D)):=by
 subst haI hbI hkI;unfold aF at hz;have hbn:b+k<=n:=by rw[hn];simp;omega
 have hab:a+k<=b:=by omega
 have HA:=qD ha;have HBq:=qD hb;have HK:=qD hk;have HKV:=qD hkv;have HN:=qD hn;have I0:Hid (iX g w (A++U++M++V++D) w):=qD ⟨hr,ey.refl⟩;clear hr hn ha hb hk hkv;go_enter func268,ntmps268;go_wp2_with fail
 go_loopw [10] (fun v10 wr=>∃(i:Nat) (U1 U2 V1 V2:List (B2×Nat)),v10=.int .i64 i/\i<=k/\i=U1.length/\i=V1.length/\U=U1++U2/\V=V1++V2/\iX g w (A++(V1++U2)++M++(U1++V2)++D) wr) (fun v10 _=>k-(intOf v10).toNat)
 ·exact⟨0,[],U,[],V,rfl,LQ _,rfl,rfl,rfl,rfl,I0.out⟩
 case round=>
  obtain⟨i,U1,U2,V1,V2,rfl,hik,hU1,hV1,hU,hV,I⟩:=hrel;have HU1:=qD hU1;have HV1:=qD hV1;have HU:=qD hU;have HV:=qD hV;have J:=qD I;by_cases hlt:i<k
  ·obtain⟨x,U3,hx⟩:∃x U3,U2=x::U3:=by
    cases U2 with
    | nil=>have h1:=HK.out;rw[hU] at h1;simp at h1;omega
    | cons x U3=>exact⟨x,U3,rfl⟩
   obtain⟨y,V3,hy⟩:∃y V3,V2=y::V3:=by
    cases V2 with
    | nil=>have h1:=HKV.out;rw[hV] at h1;simp at h1;omega
    | cons y V3=>exact⟨y,V3,rfl⟩
   subst hx hy;have hp:a+i=A.length+V1.length:=by rw[HA.out,<-hV1]
   have hq:b+i=A.length+(V1.length+(U3.length+1))+M.length+U1.length:=by
    have h1:=HBq.out;rw[hU] at h1;simp at h1;omega
   have HX:Hid ((A++(V1++x::U3)++M++(U1++y::V3)++D)[a+i]?=some x):=by rw[Hid,hp];exact Aa A V1 U3 M U1 V3 D x y
   have HY:Hid ((A++(V1++x::U3)++M++(U1++y::V3)++D)[b+i]?=some y):=by rw[Hid,hq];exact Ab A V1 U3 M U1 V3 D x y
   have HSw:Hid (((A++(V1++x::U3)++M++(U1++y::V3)++D).set (a+i) y).set (b+i) x=A++((V1++[y])++U3)++M++((U1++[x])++V3)++D):=by
    rw[Hid,hp,hq];exact qZ A V1 U3 M U1 V3 D x y
   have p0:wr.cell? ⟨g,(a+i)*2,none⟩=some (.string x.1.1):=J.out.row.cell HX.out 0 _ rfl;have p1:wr.cell? ⟨g,(a+i)*2+1,none⟩=some (.string x.1.2):=J.out.row.cell HX.out 1 _ rfl;have r0:wr.cell? ⟨g,(b+i)*2,none⟩=some (.string y.1.1):=J.out.row.cell HY.out 0 _ rfl;have r1:wr.cell? ⟨g,(b+i)*2+1,none⟩=some (.string y.1.2):=J.out.row.cell HY.out 1 _ rfl;have z:=cG.frozen J.out.row;clear hU1 hV1 hU hV I hp hq;go_upto_region 3 with fail
   go_region
   all_goals
    clear p0 r0 p1 r1 z;go_wp2_with fail;refine⟨⟨i+1,U1++[x],U3,V1++[y],V3,by go_num,by omega,by rw[HU1.out];simp,by rw[HV1.out];simp,by rw[HU.out];simp,by rw[HV.out];simp,?_⟩,by simp[intOf];omega⟩;have r1:=J.out.Kd (LJ.1 HX.out).1 (LJ.1 HY.out).1 x y;rw[HSw.out] at r1;exact r1
  ·have e1:U2=[]:=LO (by have h1:=HK.out;rw[hU] at h1;simp at h1;omega);have e2:V2=[]:=LO (by have h1:=HKV.out;rw[hV] at h1;simp at h1;omega)
   have HF:Hid (iX g w (A++V++M++U++D) wr):=by
    rw[Hid,hU,hV,e1,e2];simp only[Lm];rw[e1,e2] at I;simp only[Lm] at I;exact I
   clear hU1 hV1 hU hV I e1 e2;go_wp2_with fail
   go_end0
   exact⟨rfl,HF.out⟩
theorem iX.then{g:Nat}{w w1 w2:World}{L L':List (B2×Nat)}(h:iX g w L w1)(h':iX g w1 L' w2):iX g w L' w2:=⟨h'.row,h.but.trans h'.but⟩
theorem vy(A P Q D:List (B2×Nat))(g n c a m b:Nat)(aI mI bI:Int)(fv:Value)(w:World)(hr:cG w g (A++P++Q++D))(hn:n=(A++P++Q++D).length)(ha:a=A.length)(hm:m=A.length+P.length)(hb:b=A.length+P.length+Q.length)(hP:1<=P.length)(hQ:1<=Q.length)(haI:aI=a)(hmI:mI=m)(hbI:bI=b)(hz:n*32<=aF):
 Calls prog 251 #[.slice (some ⟨g,0,none⟩) n c,.int .i64 aI,.int .i64 mI,.int .i64 bI,fv] w (vx g w (A++Q++P++D)):=by
 subst haI hmI hbI;have HZ:=qD hz;unfold aF at hz;have ham:a<=m:=by omega
 have hmb:m<=b:=by omega
 have hbn:b<=n:=by rw[hn];simp;omega
 have HN:=qD hn;have I0:Hid (iX g w (A++P++Q++D) w):=qD ⟨hr,ey.refl⟩;have HP:Hid (m-a=P.length):=by unfold Hid;omega
 have HQ:Hid (b-m=Q.length):=by unfold Hid;omega
 have HM:Hid (A.length+P.length=m):=hm.symm;have hi1:1<=m-a:=by omega
 have hj1:1<=b-m:=by omega
 clear hr hn ha hm hb hP hQ;go_enter func251,ntmps251;go_wp2_with fail
 go_loopw [10,11] (fun v10 v11 wr=>∃(i j:Nat) (A' U V D':List (B2×Nat)),v10=.int .i64 i/\v11=.int .i64 j/\i=U.length/\j=V.length/\1<=i/\1<=j/\A'.length+i=m/\n=(A'++U++V++D').length/\A'++V++U++D'=A++Q++P++D/\iX g w (A'++U++V++D') wr) (fun v10 v11 _=>(intOf v10).toNat+(intOf v11).toNat)
 ·exact⟨m-a,b-m,A,P,Q,D,by go_num,by go_num,HP.out,HQ.out,hi1,hj1,by rw[HP.out];exact HM.out,HN.out,rfl,I0.out⟩
 case round=>
  obtain⟨i,j,A',U,V,D',rfl,rfl,hU,hV,hi,hj,hm',hn',ht,I⟩:=hrel;have HU:=qD hU;have HV:=qD hV;have HM':=qD hm';have HN':=qD hn';have HTg:=qD ht;have J:=qD I;have him:i<=m:=by omega
  have hjn:m+j<=n:=by rw[hn'];simp;omega
  clear hU hV hn' ht I hm';cases hne:((i:Int) != (j:Int))
  ·have hij:i=j:=by simp at hne;omega
   have HR:Hid (cG wr g (A'++U++[]++V++D')):=by rw[Hid,Lm];exact J.out.row
   have HN2:Hid (n=(A'++U++[]++V++D').length):=by rw[Hid,Lm];exact HN'.out
   have HIJ:=qD hij;clear hij;go_wp2_with fail;refine(iS A' U [] V D' g n c A'.length m i _ _ _ _ _ HR.out HN2.out rfl (by have:=HU.out;have:=HM'.out;simp;omega) HU.out (by rw[HIJ.out];exact HV.out) (by have:=HM'.out;omega) (by omega) rfl HZ.out).mono ?_;rintro e w1 ⟨rfl,h1⟩;have H1:=qD (J.out.then h1);clear h1;go_wp2_with fail
   go_end0
   refine⟨rfl,?_⟩;have:=H1.out;rw[Lm,HTg.out] at this;exact this
  ·have hij:i≠j:=by simp at hne;omega
   by_cases hgt:j<i
   ·obtain⟨U1,U2,hUU,hU1⟩:∃U1 U2,U=U1++U2/\U1.length=j:=⟨U.take j,U.drop j,(Lf j U).symm,by rw[Lx];have:=HU.out;omega⟩;have hU2:U2.length=i-j:=by have h1:=HU.out;rw[hUU] at h1;simp at h1;omega
    have HR:Hid (cG wr g (A'++U1++U2++V++D')):=by have:=J.out.row;rw[hUU] at this;rw[Hid];simpa using this
    have HN2:Hid (n=(A'++U1++U2++V++D').length):=by have:=HN'.out;rw[hUU] at this;rw[Hid,this];simp
    have HUU:=qD hUU;have HU1:=qD hU1;have HU2:=qD hU2;clear hUU hU1 hU2 hij;go_wp2_with fail;refine(iS A' U1 U2 V D' g n c A'.length m j _ _ _ _ _ HR.out HN2.out rfl (by have:=HU1.out;have:=HU2.out;have:=HM'.out;omega) HU1.out.symm HV.out (by have:=HM'.out;omega) rfl rfl HZ.out).mono ?_;rintro e w1 ⟨rfl,h1⟩;have H1:=qD (J.out.then h1);clear h1;go_wp2_with fail;go_roundw
    case rel=>
     refine⟨i-j,j,A'++V,U2,U1,D',by go_num,rfl,HU2.out.symm,HU1.out.symm,by omega,hj,by rw[LM,<-HV.out];have:=HM'.out;omega,?_,?_,?_⟩
     ·have:=HN2.out;simp at this;simp;omega
     ·rw[<-HTg.out,HUU.out];simp
     ·exact H1.out
    case measure=>simp[intOf];omega
   ·obtain⟨V1,V2,hVV,hV1⟩:∃V1 V2,V=V1++V2/\V1.length=j-i:=⟨V.take (j-i),V.drop (j-i),(Lf (j-i) V).symm,by rw[Lx];have:=HV.out;omega⟩;have hV2:V2.length=i:=by have h1:=HV.out;rw[hVV] at h1;simp at h1;omega
    have HR:Hid (cG wr g (A'++U++V1++V2++D')):=by have:=J.out.row;rw[hVV] at this;rw[Hid];simpa using this
    have HN2:Hid (n=(A'++U++V1++V2++D').length):=by have:=HN'.out;rw[hVV] at this;rw[Hid,this];simp
    have HVV:=qD hVV;have HV1:=qD hV1;have HV2:=qD hV2;have hlt:i<j:=by omega
    clear hVV hV1 hV2 hij;go_wp2_with fail;refine(iS A' U V1 V2 D' g n c A'.length (m+j-i) i _ _ _ _ _ HR.out HN2.out rfl (by have:=HU.out;have:=HV1.out;have:=HM'.out;omega) HU.out HV2.out.symm (by have:=HM'.out;omega) (by omega) rfl HZ.out).mono ?_;rintro e w1 ⟨rfl,h1⟩;have H1:=qD (J.out.then h1);clear h1;go_wp2_with fail;go_roundw
    case rel=>
     refine⟨i,j-i,A',V2,V1,U++D',rfl,by go_num,HV2.out.symm,HV1.out.symm,hi,by omega,HM'.out,?_,?_,?_⟩
     ·have:=HN2.out;simp at this;simp;omega
     ·rw[<-HTg.out,HVV.out];simp
     ·have:=H1.out;simpa using this
    case measure=>simp[intOf];omega
section
variable {α:Type} {cm:α->α->Int}
end
def om(g:Nat)(w:World)(A X Y D:List (B2×Nat))(e:Ending)(w':World):Prop:=e=.returned (.tuple #[])/\∃S,aR bL (X++Y) S/\iX g w (A++S++D) w'
structure gK(A X Y D:List (B2×Nat))(g n:Nat)(w:World):Prop where
 row:cG w g (A++X++Y++D)
 ln:n=(A++X++Y++D).length
 sz:n*32<=aF
 hX:X.Pairwise (RT bL)
 hY:Y.Pairwise (RT bL)
 hT:∀x∈X,∀y∈Y,x.2<y.2
 cmp:kU g w (X++Y)
theorem Ih(H:cL bL)(A:List (B2×Nat))(x:B2×Nat)(Y D:List (B2×Nat))(g n c a m b:Nat)(aI mI bI:Int)(w:World)(h:gK A [x] Y D g n w)(ha:a=A.length)(hm:m=a+1)(hb:b=m+Y.length)(haI:aI=a)(hmI:mI=m)(hbI:bI=b):
 Calls prog 207 #[.slice (some ⟨g,0,none⟩) n c,.int .i64 aI,.int .i64 mI,.int .i64 bI,.func (.func 104) #[] #[]] w (om g w A [x] Y D):=by
 subst haI hmI hbI;have hz:=h.sz;unfold aF at hz;have hbn:b<=n:=by have:=h.ln;simp at this;omega
 have ham:((m:Int)-(a:Int)==1)=true:=by simp;omega
 have HA:=qD ha;have HM:=qD hm;have hm1:a<m:=by omega
 have hmb:m<=b:=by omega
 have HBq:=qD hb;have HH:=qD h;have HO:=qD H;have I0:Hid (iX g w (A++[x]++Y++D) w):=qD ⟨h.row,ey.refl⟩;clear h ha hm hb H;go_enter func207,ntmps207;go_wp2_with fail
 go_loopw [10,11] (fun v10 v11 wr=>∃(i j:Nat),v10=.int .i64 i/\v11=.int .i64 j/\m<=i/\i<=j/\j<=b/\(∀(k:Nat) y,Y[k]?=some y->m+k<i->bL y.1 x.1<0)/\(∀(k:Nat) y,Y[k]?=some y->j<=m+k->¬bL y.1 x.1<0)/\iX g w (A++[x]++Y++D) wr) (fun v10 v11 _=>(intOf v11).toNat-(intOf v10).toNat)
 ·exact⟨m,b,rfl,rfl,qL,hmb,qL,fun k y _ hk=>by omega,fun k y hy hk=>by have:=(LJ.1 hy).1;have:=HBq.out;omega,I0.out⟩
 case round=>
  obtain⟨i,j,rfl,rfl,hmi,hij,hjb,hlo,hhi,I⟩:=hrel;have HLo:=qD hlo;have HHi:=qD hhi;have J:=qD I;clear hlo hhi;by_cases hlt:i<j
  ·go_upto_region 5 with fail
   obtain⟨h,hh⟩:∃h:Nat,((i:Int)+(j:Int))/2=(h:Int):=⟨(i+j)/2,by omega⟩;rw[hh];have h1:i<=h:=by omega
   have h2:h<j:=by omega
   clear hh;obtain⟨y,hyY⟩:∃y,Y[h-m]?=some y:=⟨_,LI (by have:=HBq.out;omega)⟩
   have hy:(A++[x]++Y++D)[h]?=some y:=by
    have hA:=HA.out;have hM:=HM.out;rw[Ld,Lh (by simp;omega),MG (by have:=(LJ.1 hyY).1;simp;omega)];rw[show h-(A++[x]).length=h-m by simp;omega];exact hyY
   have hx:(A++[x]++Y++D)[a]?=some x:=by
    rw[HA.out];simp
   have p0:wr.cell? ⟨g,h*2,none⟩=some (.string y.1.1):=I.row.cell hy 0 _ rfl;have p1:wr.cell? ⟨g,h*2+1,none⟩=some (.string y.1.2):=I.row.cell hy 1 _ rfl;have r0:wr.cell? ⟨g,a*2,none⟩=some (.string x.1.1):=I.row.cell hx 0 _ rfl;have r1:wr.cell? ⟨g,a*2+1,none⟩=some (.string x.1.2):=I.row.cell hx 1 _ rfl;have P0:∀k:BW wr,k.val.cell? ⟨g,h*2,none⟩=some (.string y.1.1):=fun k=>k.cell p0;have P1:∀k:BW wr,k.val.cell? ⟨g,h*2+1,none⟩=some (.string y.1.2):=fun k=>k.cell p1;have R0:∀k:BW wr,k.val.cell? ⟨g,a*2,none⟩=some (.string x.1.1):=fun k=>k.cell r0;have R1:∀k:BW wr,k.val.cell? ⟨g,a*2+1,none⟩=some (.string x.1.2):=fun k=>k.cell r1;have i0:(0:Int)<=(h:Int):=by omega
   have i1:(h:Int)<(n:Int):=by omega
   have i2:(0:Int)<=(a:Int):=by omega
   have i3:(a:Int)<(n:Int):=by omega
   have K1:Hid (∀k:BW wr,Calls prog 104 #[rA y,rA x] k.val fun e w''=>e=.returned (.int .i64 (bL y.1 x.1))/\∃k:BW wr,w''=k.val):=fun k=>
    Calls.bw (HH.out.cmp y x (by simp[LP hyY]) (by simp) k.val (I.but.step k.below))
   have HY:=qD hyY;clear p0 p1 r0 r1 hx hy hyY I;refine aL (by kernel_rfl) (by kernel_rfl) ?_
   repeat(go_big_quiet_step (with_reducible exact K1.out _))
   refine Ln ?_;rintro _ ⟨kw,rfl⟩;have J2:=qD (J.out.step kw.below);clear P0 P1 R0 R1 K1 i0 i1 i2 i3;generalize kw.val=w2 at*;by_cases hc:bL y.1 x.1<0
   ·have HLo2:Hid (∀(k:Nat) z,Y[k]?=some z->m+k<h+1->bL z.1 x.1<0):=fun k z hz hk=>by
     by_cases e:k=h-m
     ·subst e;rw[HY.out] at hz;cases hz;exact hc
     ·exact qa HO.out (RT.le (mx HH.out.hY (by omega) hz HY.out)) hc
    go_wp2_with fail;go_roundw
    ·exact⟨h+1,j,by go_num,rfl,by omega,by omega,hjb,HLo2.out,HHi.out,J2.out⟩
    ·simp[intOf];omega
   ·have HHi2:Hid (∀(k:Nat) z,Y[k]?=some z->h<=m+k->¬bL z.1 x.1<0):=fun k z hz hk=>by
     by_cases e:k=h-m
     ·subst e;rw[HY.out] at hz;cases hz;exact hc
     ·have q1:=RT.le (mx HH.out.hY (by omega) HY.out hz);have q2:bL x.1 y.1=-(bL y.1 x.1):=HO.out.anti y.1 x.1;have q3:bL x.1 z.1<=0:=jS HO.out (y:=y.1) (show bL x.1 y.1<=0 by omega) q1;have q4:bL z.1 x.1=-(bL x.1 z.1):=HO.out.anti x.1 z.1;omega
    go_wp2_with fail;go_roundw
    ·exact⟨i,h,rfl,rfl,hmi,h1,by omega,HLo.out,HHi2.out,J2.out⟩
    ·simp[intOf];omega
  ·obtain rfl:i=j:=by omega
   obtain⟨Y1,Y2,hYY,hY1⟩:∃Y1 Y2,Y=Y1++Y2/\Y1.length=i-m:=⟨Y.take (i-m),Y.drop (i-m),(Lf _ Y).symm,by rw[Lx];have:=HBq.out;omega⟩
   have HS:Hid (aR bL ([x]++Y) (Y1++x::Y2)):=by
    have hp:=HH.out.hY;have ht:=HH.out.hT x (by simp);rw[hYY] at hp ht;rw[Hid,hYY];refine sq HO.out hp ht (fun y hy=>?_) (fun y hy=>?_)
    ·obtain⟨k,hk⟩:=MK hy;have hkl:=(LJ.1 hk).1;exact HLo.out k y (by rw[hYY,MG hkl];exact hk) (by omega)
    ·obtain⟨k,hk⟩:=MK hy;exact HHi.out (Y1.length+k) y (by rw[hYY,Lh (by omega)];simpa using hk) (by omega)
   have HYY:=qD hYY;have HY1:=qD hY1;clear hYY hY1 I HLo HHi;go_wp2_with fail
   go_loopw [13] (fun v13 wr=>∃(k:Nat) (P1 P2:List (B2×Nat)),v13=.int .i64 k/\k=a+P1.length/\Y1=P1++P2/\iX g w (A++(P1++x::P2)++(Y2++D)) wr) (fun v13 _=>n-(intOf v13).toNat)
   case atStart=>
    refine⟨a,[],Y1,rfl,rfl,rfl,?_⟩;have:=J.out;rw[HYY.out] at this;simpa using this
   case round=>
    obtain⟨k,P1,P2,rfl,hk,hPP,I⟩:=hrel;have HPP:=qD hPP;have HK:=qD hk;have J2:=qD I;have hkl:P1.length<=i-m:=by rw[<-HY1.out,hPP];simp
    by_cases hlt2:k<i-1
    ·obtain⟨y,P3,hP3⟩:∃y P3,P2=y::P3:=by
      cases P2 with
      | nil=>have h1:=HY1.out;rw[hPP] at h1;simp at h1;have:=HM.out;omega
      | cons y P3=>exact⟨y,P3,rfl⟩
     subst hP3;have hkA:k=A.length+P1.length:=by rw[hk,HA.out]
     have HX:Hid ((A++(P1++x::y::P3)++(Y2++D))[k]?=some x):=by rw[Hid,hkA];simp
     have HYk:Hid ((A++(P1++x::y::P3)++(Y2++D))[k+1]?=some y):=by
      rw[Hid,hkA,show A++(P1++x::y::P3)++(Y2++D)=(A++P1++[x])++y::(P3++(Y2++D)) by simp,Lh (by simp;omega),show A.length+P1.length+1-(A++P1++[x]).length=0 by simp;omega];rfl
     have HSw:Hid (((A++(P1++x::y::P3)++(Y2++D)).set k y).set (k+1) x=A++((P1++[y])++x::P3)++(Y2++D)):=by
      rw[Hid,hkA];exact qd A P1 P3 (Y2++D) x y
     have hkn:k+1<n:=by omega
     have p0:wr.cell? ⟨g,k*2,none⟩=some (.string x.1.1):=J2.out.row.cell HX.out 0 _ rfl;have p1:wr.cell? ⟨g,k*2+1,none⟩=some (.string x.1.2):=J2.out.row.cell HX.out 1 _ rfl;have r0:wr.cell? ⟨g,(k+1)*2,none⟩=some (.string y.1.1):=J2.out.row.cell HYk.out 0 _ rfl;have r1:wr.cell? ⟨g,(k+1)*2+1,none⟩=some (.string y.1.2):=J2.out.row.cell HYk.out 1 _ rfl;have z:=cG.frozen J2.out.row;clear hk hPP I hkA hkl;go_upto_region 11 with fail
     go_region
     all_goals
      clear p0 p1 r0 r1 z;go_wp2_with fail;refine⟨⟨k+1,P1++[y],P3,by go_num,by rw[HK.out];simp;omega,by rw[HPP.out];simp,?_⟩,by simp[intOf];omega⟩;have r1:=J2.out.Kd (LJ.1 HX.out).1 (LJ.1 HYk.out).1 x y;rw[HSw.out] at r1;exact r1
    ·have HE:Hid (iX g w (A++(Y1++x::Y2)++D) wr):=by
      have e:P2=[]:=LO (by have h1:=HY1.out;rw[hPP] at h1;simp at h1;have:=HM.out;omega);rw[e,Lm] at hPP;rw[e] at I;rw[Hid,hPP];simpa using I
     clear hk hPP I hkl;go_wp2_with fail
     go_end0
     exact⟨rfl,_,HS.out,HE.out⟩
theorem Ii(H:cL bL)(A X:List (B2×Nat))(y:B2×Nat)(D:List (B2×Nat))(g n c a m b:Nat)(aI mI bI:Int)(w:World)(h:gK A X [y] D g n w)(ha:a=A.length)(hm:m=a+X.length)(hb:b=m+1)(hX2:2<=X.length)(haI:aI=a)(hmI:mI=m)(hbI:bI=b):
 Calls prog 207 #[.slice (some ⟨g,0,none⟩) n c,.int .i64 aI,.int .i64 mI,.int .i64 bI,.func (.func 104) #[] #[]] w (om g w A X [y] D):=by
 subst haI hmI hbI;have hz:=h.sz;unfold aF at hz;have hbn:b<=n:=by have:=h.ln;simp at this;omega
 have ham:((m:Int)-(a:Int)==1)=false:=by simp;omega
 have hbm:((b:Int)-(m:Int)==1)=true:=by simp;omega
 have HA:=qD ha;have HM:=qD hm;have hm1:a<=m:=by omega
 have hmb:m<b:=by omega
 have HH:=qD h;have HO:=qD H;have I0:Hid (iX g w (A++X++[y]++D) w):=qD ⟨h.row,ey.refl⟩;clear h ha hm hb H;go_enter func207,ntmps207;go_wp2_with fail
 go_loopw [14,15] (fun v14 v15 wr=>∃(i j:Nat),v14=.int .i64 i/\v15=.int .i64 j/\a<=i/\i<=j/\j<=m/\(∀(k:Nat) x,X[k]?=some x->a+k<i->¬bL y.1 x.1<0)/\(∀(k:Nat) x,X[k]?=some x->j<=a+k->bL y.1 x.1<0)/\iX g w (A++X++[y]++D) wr) (fun v14 v15 _=>(intOf v15).toNat-(intOf v14).toNat)
 ·exact⟨a,m,rfl,rfl,qL,hm1,qL,fun k y _ hk=>by omega,fun k y hy hk=>by have:=(LJ.1 hy).1;have:=HM.out;omega,I0.out⟩
 case round=>
  obtain⟨i,j,rfl,rfl,hmi,hij,hjb,hlo,hhi,I⟩:=hrel;have HLo:=qD hlo;have HHi:=qD hhi;have J:=qD I;clear hlo hhi;by_cases hlt:i<j
  ·go_upto_region 17 with fail
   obtain⟨h,hh⟩:∃h:Nat,((i:Int)+(j:Int))/2=(h:Int):=⟨(i+j)/2,by omega⟩;rw[hh];have h1:i<=h:=by omega
   have h2:h<j:=by omega
   clear hh;obtain⟨x,hxX⟩:∃x,X[h-a]?=some x:=⟨_,LI (by have:=HM.out;omega)⟩
   have hx:(A++X++[y]++D)[h]?=some x:=by
    have hA:=HA.out;rw[Ld,Ld,Lh (by omega),MG (by have:=(LJ.1 hxX).1;omega),<-hA];exact hxX
   have hy:(A++X++[y]++D)[m]?=some y:=by
    have hA:=HA.out;have hM:=HM.out;rw[Ld,Lh (by simp;omega),show m-(A++X).length=0 by simp;omega];rfl
   have p0:wr.cell? ⟨g,h*2,none⟩=some (.string x.1.1):=I.row.cell hx 0 _ rfl;have p1:wr.cell? ⟨g,h*2+1,none⟩=some (.string x.1.2):=I.row.cell hx 1 _ rfl;have r0:wr.cell? ⟨g,m*2,none⟩=some (.string y.1.1):=I.row.cell hy 0 _ rfl;have r1:wr.cell? ⟨g,m*2+1,none⟩=some (.string y.1.2):=I.row.cell hy 1 _ rfl;have P0:∀k:BW wr,k.val.cell? ⟨g,h*2,none⟩=some (.string x.1.1):=fun k=>k.cell p0;have P1:∀k:BW wr,k.val.cell? ⟨g,h*2+1,none⟩=some (.string x.1.2):=fun k=>k.cell p1;have R0:∀k:BW wr,k.val.cell? ⟨g,m*2,none⟩=some (.string y.1.1):=fun k=>k.cell r0;have R1:∀k:BW wr,k.val.cell? ⟨g,m*2+1,none⟩=some (.string y.1.2):=fun k=>k.cell r1;have i0:(0:Int)<=(h:Int):=by omega
   have i1:(h:Int)<(n:Int):=by omega
   have i2:(0:Int)<=(m:Int):=by omega
   have i3:(m:Int)<(n:Int):=by omega
   have K1:Hid (∀k:BW wr,Calls prog 104 #[rA y,rA x] k.val fun e w''=>e=.returned (.int .i64 (bL y.1 x.1))/\∃k:BW wr,w''=k.val):=fun k=>
    Calls.bw (HH.out.cmp y x (by simp) (by simp[LP hxX]) k.val (I.but.step k.below))
   have HY:=qD hxX;clear p0 p1 r0 r1 hx hy hxX I;refine aL (by kernel_rfl) (by kernel_rfl) ?_
   repeat(go_big_quiet_step (with_reducible exact K1.out _))
   refine Ln ?_;rintro _ ⟨kw,rfl⟩;have J2:=qD (J.out.step kw.below);clear P0 P1 R0 R1 K1 i0 i1 i2 i3;generalize kw.val=w2 at*;by_cases hc:bL y.1 x.1<0
   ·have HHi2:Hid (∀(k:Nat) z,X[k]?=some z->h<=a+k->bL y.1 z.1<0):=fun k z hz hk=>by
     by_cases e:k=h-a
     ·subst e;rw[HY.out] at hz;cases hz;exact hc
     ·exact qb HO.out (y:=x.1) hc (RT.le (mx HH.out.hX (by omega) HY.out hz))
    have d4:(!decide (bL y.1 x.1<0))=false:=by rw[LN hc];rfl
    go_wp2_with fail
    all_goals first|(rename_i e;rw[d4] at e;contradiction)|skip
    go_roundw
    ·exact⟨i,h,rfl,rfl,hmi,h1,by omega,HLo.out,HHi2.out,J2.out⟩
    ·simp[intOf];omega
   ·have HLo2:Hid (∀(k:Nat) z,X[k]?=some z->a+k<h+1->¬bL y.1 z.1<0):=fun k z hz hk=>by
     by_cases e:k=h-a
     ·subst e;rw[HY.out] at hz;cases hz;exact hc
     ·have q1:=RT.le (mx HH.out.hX (by omega) hz HY.out);have q2:bL x.1 y.1=-(bL y.1 x.1):=HO.out.anti y.1 x.1;have q3:bL z.1 y.1<=0:=jS HO.out (y:=x.1) q1 (show bL x.1 y.1<=0 by omega);have q4:bL y.1 z.1=-(bL z.1 y.1):=HO.out.anti z.1 y.1;omega
    have d4:(!decide (bL y.1 x.1<0))=true:=by rw[LW hc];rfl
    go_wp2_with fail
    all_goals first|(rename_i e;rw[d4] at e;contradiction)|skip
    go_roundw
    ·exact⟨h+1,j,by go_num,rfl,by omega,by omega,hjb,HLo2.out,HHi.out,J2.out⟩
    ·simp[intOf];omega
  ·obtain rfl:i=j:=by omega
   obtain⟨X1,X2,hXX,hX1⟩:∃X1 X2,X=X1++X2/\X1.length=i-a:=⟨X.take (i-a),X.drop (i-a),(Lf _ X).symm,by rw[Lx];have:=HM.out;omega⟩
   have HS:Hid (aR bL (X++[y]) (X1++y::X2)):=by
    have hp:=HH.out.hX;have ht:∀x∈X,x.2<y.2:=fun x hx=>HH.out.hT x hx y (by simp);rw[hXX] at hp ht;rw[Hid,hXX];refine qe HO.out hp ht (fun x hx=>?_) (fun x hx=>?_)
    ·obtain⟨k,hk⟩:=MK hx;have hkl:=(LJ.1 hk).1;exact HLo.out k x (by rw[hXX,MG hkl];exact hk) (by omega)
    ·obtain⟨k,hk⟩:=MK hx;exact HHi.out (X1.length+k) x (by rw[hXX,Lh (by omega)];simpa using hk) (by omega)
   have HXX:=qD hXX;have HX1:=qD hX1;have hX2l:X2.length=m-i:=by have h1:=HM.out;rw[hXX] at h1;simp at h1;omega
   have HX2:=qD hX2l;clear hXX hX1 I HLo HHi hX2l;go_wp2_with fail
   go_loopw [17] (fun v17 wr=>∃(k:Nat) (P1 P2:List (B2×Nat)),v17=.int .i64 k/\k=i+P1.length/\X2=P1++P2/\iX g w ((A++X1)++(P1++y::P2)++D) wr) (fun v17 _=>(intOf v17).toNat)
   case atStart=>
    refine⟨m,X2,[],rfl,by have:=HX2.out;omega,by simp,?_⟩;have:=J.out;rw[HXX.out] at this;simpa using this
   case round=>
    obtain⟨k,P1,P2,rfl,hk,hPP,I⟩:=hrel;have HPP:=qD hPP;have HK:=qD hk;have J2:=qD I;have hkm:k<=m:=by have h1:=HX2.out;rw[hPP] at h1;simp at h1;omega
    by_cases hlt2:i<k
    ·obtain⟨P0,z,hP0⟩:∃P0 z,P1=P0++[z]:=by
      rcases NI P1 with h|⟨P0,z,h⟩
      ·rw[h] at hk;simp at hk;omega
      ·exact⟨P0,z,by rw[h,My]⟩
     have hkA:k=(A++X1).length+(P0.length+1):=by rw[hk,hP0];have:=HX1.out;have:=HA.out;simp;omega
     have HYk:Hid (((A++X1)++(P1++y::P2)++D)[k]?=some y):=by
      rw[Hid,hP0,hkA,show(A++X1)++((P0++[z])++y::P2)++D=(A++X1++P0++[z])++y::(P2++D) by simp,Lh (by simp;omega),show(A++X1).length+(P0.length+1)-(A++X1++P0++[z]).length=0 by simp;omega];rfl
     have HZk:Hid (((A++X1)++(P1++y::P2)++D)[k-1]?=some z):=by
      rw[Hid,hP0,hkA,show(A++X1)++((P0++[z])++y::P2)++D=(A++X1++P0)++z::(y::(P2++D)) by simp,Lh (by simp;omega),show(A++X1).length+(P0.length+1)-1-(A++X1++P0).length=0 by simp;omega];rfl
     have HSw:Hid ((((A++X1)++(P1++y::P2)++D).set k z).set (k-1) y=(A++X1)++(P0++y::z::P2)++D):=by
      rw[Hid,hP0,hkA];exact lJ (A++X1) P0 P2 D y z
     have HP0:=qD hP0;have hk1:1<=k:=by omega
     have p0:wr.cell? ⟨g,k*2,none⟩=some (.string y.1.1):=J2.out.row.cell HYk.out 0 _ rfl;have p1:wr.cell? ⟨g,k*2+1,none⟩=some (.string y.1.2):=J2.out.row.cell HYk.out 1 _ rfl;have r0:wr.cell? ⟨g,(k-1)*2,none⟩=some (.string z.1.1):=J2.out.row.cell HZk.out 0 _ rfl;have r1:wr.cell? ⟨g,(k-1)*2+1,none⟩=some (.string z.1.2):=J2.out.row.cell HZk.out 1 _ rfl;have zf:=cG.frozen J2.out.row;clear hk hPP I hkA hP0;go_upto_region 23 with fail
     go_region
     all_goals
      clear p0 p1 r0 r1 zf;go_wp2_with fail;refine⟨⟨k-1,P0,z::P2,by rw[show((k-1:Nat):Int)=(k:Int)-1 by omega],by have h1:=HK.out;rw[HP0.out] at h1;simp at h1;omega,by rw[HPP.out,HP0.out];simp,?_⟩,by simp[intOf];omega⟩;have r1:=J2.out.swap (LJ.1 HYk.out).1 y z;rw[HSw.out] at r1;exact r1
    ·have HE:Hid (iX g w (A++(X1++y::X2)++D) wr):=by
      have e:P1=[]:=LO (by omega);rw[e,MC] at hPP;rw[e] at I;rw[Hid,hPP];simpa using I
     clear hk hPP I;go_wp2_with fail
     go_end0
     exact⟨rfl,_,HS.out,HE.out⟩
section
variable {α:Type} {cm:α->α->Int}
end
theorem kU.less{g:Nat}{w w1:World}{U U':List (B2×Nat)}(h:kU g w U)(hb:ey g w w1)(hs:∀x∈U',x∈U):kU g w1 U':=fun x y hx hy wr hr=>h x y (hs x hx) (hs y hy) wr (hb.trans hr)
theorem EG{A X1 X2 Y1 Y2 D:List (B2×Nat)}{g n:Nat}{w w1:World}(h:gK A (X1++X2) (Y1++Y2) D g n w)(I:iX g w (A++X1++Y1++X2++Y2++D) w1):gK A X1 Y1 (X2++Y2++D) g n w1:=
 ⟨by have:=I.row;simpa using this,by rw[h.ln];simp;omega,h.sz,(Le.1 h.hX).1,(Le.1 h.hY).1,fun x hx y hy=>h.hT x (by simp[hx]) y (by simp[hy]),h.cmp.less I.but (fun x hx=>by rcases LY.1 hx with hx|hx<;>simp[hx])⟩
theorem EH{A X1 X2 Y1 Y2 D S1:List (B2×Nat)}{g n:Nat}{w w1:World}(h:gK A (X1++X2) (Y1++Y2) D g n w)(hl:S1.length=X1.length+Y1.length)(I:iX g w (A++S1++(X2++Y2++D)) w1):gK (A++S1) X2 Y2 D g n w1:=
 ⟨by have:=I.row;simpa using this,by rw[h.ln];simp;omega,h.sz,(Le.1 h.hX).2.1,(Le.1 h.hY).2.1,fun x hx y hy=>h.hT x (by simp[hx]) y (by simp[hy]),h.cmp.less I.but (fun x hx=>by rcases LY.1 hx with hx|hx<;>simp[hx])⟩
def EI(N:Nat):Prop:=∀(A X Y D:List (B2×Nat)) (g n c a m b:Nat) (aI mI bI:Int) (w:World),gK A X Y D g n w->a=A.length->m=a+X.length->b=m+Y.length->1<=X.length->1<=Y.length->X.length+Y.length<N->aI=a->mI=m->bI=b->
 Calls prog 207 #[.slice (some ⟨g,0,none⟩) n c,.int .i64 aI,.int .i64 mI,.int .i64 bI,.func (.func 104) #[] #[]] w (om g w A X Y D)
def Jf(L:List (B2×Nat))(s0 nn t:Nat):Prop:=t=s0\/∃x y,L[t-1]?=some x/\L[nn-t]?=some y/\¬bL y.1 x.1<0
def Jg(L:List (B2×Nat))(r0 nn t:Nat):Prop:=t=r0\/∃x y,L[t]?=some x/\L[nn-1-t]?=some y/\bL y.1 x.1<0
theorem Ij(H:cL bL)(A X Y D:List (B2×Nat))(g n c a m b:Nat)(aI mI bI:Int)(w:World)(h:gK A X Y D g n w)(ha:a=A.length)(hm:m=a+X.length)(hb:b=m+Y.length)(hX2:2<=X.length)(hY2:2<=Y.length)(ih:EI (X.length+Y.length))(haI:aI=a)(hmI:mI=m)(hbI:bI=b):
 Calls prog 207 #[.slice (some ⟨g,0,none⟩) n c,.int .i64 aI,.int .i64 mI,.int .i64 bI,.func (.func 104) #[] #[]] w (om g w A X Y D):=by
 subst haI hmI hbI;have hz:=h.sz;unfold aF at hz;have hbn:b<=n:=by have:=h.ln;simp at this;omega
 have ham:((m:Int)-(a:Int)==1)=false:=by simp;omega
 have hbm:((b:Int)-(m:Int)==1)=false:=by simp;omega
 have HA:=qD ha;have HM:=qD hm;have HB:=qD hb;have hm1:a+2<=m:=by omega
 have hmb:m+2<=b:=by omega
 have HH:=qD h;have HO:=qD H;have HI:=qD ih;have I0:Hid (iX g w (A++X++Y++D) w):=qD ⟨h.row,ey.refl⟩;clear h ha hm hb H ih hX2 hY2;go_enter func207,ntmps207;go_upto_region 25 with fail
 obtain⟨mid,hh⟩:∃mid:Nat,((a:Int)+(b:Int))/2=(mid:Int):=⟨(a+b)/2,by omega⟩;rw[hh];have HMid:Hid (mid=(a+b)/2):=by unfold Hid;omega
 have hmid1:a<mid:=by omega
 have hmid2:mid<b:=by omega
 have hmid3:2*mid<=a+b:=by omega
 have hmid4:a+b<=2*mid+1:=by omega
 clear hh
 obtain⟨s0,r0,hc⟩:∃s0 r0:Nat,(mid<m/\s0=mid+m-b/\r0=mid)\/(m<=mid/\s0=a/\r0=m):=by
  by_cases e:mid<m
  ·exact⟨_,_,.inl ⟨e,rfl,rfl⟩⟩
  ·exact⟨_,_,.inr ⟨by omega,rfl,rfl⟩⟩
 have HC:=qD hc;have hs1:a<=s0:=by omega
 have hs2:s0<=r0:=by omega
 have hr1:r0<=m:=by omega
 have hr2:r0<=mid:=by omega
 have hs3:mid+m<=b+s0:=by omega
 clear hc;go_upto_region 26 with fail
 obtain⟨p,hp⟩:∃p:Nat,mid+m=p+1:=⟨mid+m-1,by omega⟩;have HP:=qD hp;have hp1:p+1<=b+s0:=by omega
 have hp2:m+r0<=p+1:=by omega
 rw[show(mid:Int)+(m:Int)=(p:Int)+1 by omega];clear hp
 go_upto_if 140 with fail
 go_cut [20,21] (fun s20 s21 wx=>s20=.int .i64 s0/\s21=.int .i64 r0/\w=wx)
 case first=>as_aux_lemma=>
  rcases HC.out with⟨q1,q2,q3⟩|⟨q1,q2,q3⟩
  all_goals
   have Q2:=qD q2;have Q3:=qD q3;clear q2 q3;go_wp2_with fail;go_meet;exact⟨congrArg (Value.int .i64) (by have:=Q2.out;have:=HP.out;omega),congrArg (Value.int .i64) (by have:=Q3.out;omega),rfl⟩
 case rest=>
  obtain⟨rfl,rfl,rfl⟩:=hcut;go_wp2_with fail
  go_loopw [20,21] (fun v20 v21 wr=>∃(i j:Nat),v20=.int .i64 i/\v21=.int .i64 j/\s0<=i/\i<=j/\j<=r0/\Jf (A++X++Y++D) s0 (p+1) i/\Jg (A++X++Y++D) r0 (p+1) j/\iX g w (A++X++Y++D) wr) (fun v20 v21 _=>(intOf v21).toNat-(intOf v20).toNat)
  ·exact⟨s0,r0,rfl,rfl,qL,hs2,qL,.inl rfl,.inl rfl,I0.out⟩
  case round=>
   obtain⟨i,j,rfl,rfl,hmi,hij,hjb,hlo,hhi,I⟩:=hrel;have HLo:=qD hlo;have HHi:=qD hhi;have J:=qD I;clear hlo hhi;by_cases hlt:i<j
   ·as_aux_lemma=>
    go_upto_region 35 with fail
    obtain⟨h,hh⟩:∃h:Nat,((i:Int)+(j:Int))/2=(h:Int):=⟨(i+j)/2,by omega⟩;rw[hh];have h1:i<=h:=by omega
    have h2:h<j:=by omega
    clear hh
    obtain⟨x,hx,hxX⟩:∃x,(A++X++Y++D)[h]?=some x/\x∈X:=by
     have hA:=HA.out;have hM:=HM.out;rw[JF (by omega) (by omega)];exact⟨_,LI (by omega),Mz _⟩
    obtain⟨y,hy,hyY⟩:∃y,(A++X++Y++D)[p-h]?=some y/\y∈Y:=by
     have hA:=HA.out;have hM:=HM.out;have hB:=HB.out;rw[JH (by omega) (by omega)];exact⟨_,LI (by omega),Mz _⟩
    have p0:wr.cell? ⟨g,h*2,none⟩=some (.string x.1.1):=I.row.cell hx 0 _ rfl;have p1:wr.cell? ⟨g,h*2+1,none⟩=some (.string x.1.2):=I.row.cell hx 1 _ rfl;have r0:wr.cell? ⟨g,(p-h)*2,none⟩=some (.string y.1.1):=I.row.cell hy 0 _ rfl;have r1:wr.cell? ⟨g,(p-h)*2+1,none⟩=some (.string y.1.2):=I.row.cell hy 1 _ rfl;have P0:∀k:BW wr,k.val.cell? ⟨g,h*2,none⟩=some (.string x.1.1):=fun k=>k.cell p0;have P1:∀k:BW wr,k.val.cell? ⟨g,h*2+1,none⟩=some (.string x.1.2):=fun k=>k.cell p1;have R0:∀k:BW wr,k.val.cell? ⟨g,(p-h)*2,none⟩=some (.string y.1.1):=fun k=>k.cell r0;have R1:∀k:BW wr,k.val.cell? ⟨g,(p-h)*2+1,none⟩=some (.string y.1.2):=fun k=>k.cell r1;have i0:(0:Int)<=(h:Int):=by omega
    have i1:(h:Int)<(n:Int):=by omega
    have i2:(0:Int)<=(p:Int)-(h:Int):=by omega
    have i3:(p:Int)-(h:Int)<(n:Int):=by omega
    have K1:Hid (∀k:BW wr,Calls prog 104 #[rA y,rA x] k.val fun e w''=>e=.returned (.int .i64 (bL y.1 x.1))/\∃k:BW wr,w''=k.val):=fun k=>
     Calls.bw (HH.out.cmp y x (by simp[hyY]) (by simp[hxX]) k.val (I.but.step k.below))
    have HX:=qD hx;have HY:=qD hy;clear p0 p1 r0 r1 hx hy hxX hyY I;refine aL (by as_aux_lemma=>kernel_rfl) (by as_aux_lemma=>kernel_rfl) ?_
    repeat(go_big_quiet_step (with_reducible exact K1.out _))
    refine Ln ?_;rintro _ ⟨kw,rfl⟩;have J2:=qD (J.out.step kw.below);clear P0 P1 R0 R1 K1 i0 i1 i2 i3;generalize kw.val=w2 at*;by_cases hc:bL y.1 x.1<0
    ·have HHi2:Hid (Jg (A++X++Y++D) r0 (p+1) h):=.inr ⟨x,y,HX.out,HY.out,hc⟩;have d4:(!decide (bL y.1 x.1<0))=false:=by rw[LN hc];rfl
     go_wp2_with fail
     all_goals first|(rename_i e;rw[d4] at e;contradiction)|skip
     go_roundw
     ·exact⟨i,h,rfl,rfl,hmi,h1,by omega,HLo.out,HHi2.out,J2.out⟩
     ·simp[intOf];omega
    ·have HLo2:Hid (Jf (A++X++Y++D) s0 (p+1) (h+1)):=.inr ⟨x,y,HX.out,by rw[Nat.add_sub_add_right];exact HY.out,hc⟩;have d4:(!decide (bL y.1 x.1<0))=true:=by rw[LW hc];rfl
     go_wp2_with fail
     all_goals first|(rename_i e;rw[d4] at e;contradiction)|skip
     go_roundw
     ·exact⟨h+1,j,by go_num,rfl,by omega,by omega,hjb,HLo2.out,HHi.out,J2.out⟩
     ·simp[intOf];omega
   ·obtain rfl:i=j:=by omega
    obtain⟨X1,X2,Y1,Y2,hXX,hYY,l1,l2,l3,l4,h12,h21⟩:=su (D:=D) HO.out HA.out HM.out HB.out HH.out.hX HH.out.hY HH.out.hT hmi hjb HMid.out HC.out (by rw[HP.out];exact HLo.out) (by rw[HP.out];exact HHi.out)
    have HS:Hid (∀S1 S2,aR bL (X1++Y1) S1->aR bL (X2++Y2) S2->aR bL (X++Y) (S1++S2)):=fun S1 S2 q1 q2=>by
     have hp:=HH.out.hX;have hq:=HH.out.hY;rw[hXX] at hp ⊢;rw[hYY] at hq ⊢;exact nB hp hq h12 h21 q1 q2
    have HH2:Hid (gK A (X1++X2) (Y1++Y2) D g n w):=by have:=HH.out;rw[hXX,hYY] at this;exact this
    have HJ:Hid (iX g w (A++X1++X2++Y1++Y2++D) wr):=by have:=J.out;rw[hXX,hYY] at this;rw[Hid];simpa using this
    have HL1:=qD l1;have HL2:=qD l2;have HL3:=qD l3;have HL4:=qD l4;have hsum:mid-a<X.length+Y.length:=by have:=HM.out;have:=HB.out;omega
    have hsum2:b-mid<X.length+Y.length:=by have:=HM.out;have:=HB.out;omega
    clear hXX hYY l1 l2 l3 l4 h12 h21 I J HLo HHi;go_upto_region 39 with fail
    obtain⟨en,hen⟩:∃en:Nat,(p:Int)+1-(i:Int)=(en:Int):=⟨p+1-i,by omega⟩;have HEn:Hid (en+i=mid+m):=by unfold Hid;have:=HP.out;omega
    have hen1:en<=b:=by omega
    rw[hen];clear hen
    go_cut [185] (fun s wx=>s=.bool (decide (i<m/\m<en))/\wr=wx)
    case first=>as_aux_lemma=>
     by_cases e1:i<m<;>by_cases e2:m<en
     all_goals
      go_wp2_with fail;go_meet;exact⟨congrArg Value.bool (by simp[e1,e2]),rfl⟩
    case rest=>
     obtain⟨rfl,rfl⟩:=hcut
     go_upto_if 185 with fail
     go_cut [] (fun wx=>iX g w (A++X1++Y1++X2++Y2++D) wx)
     case first=>as_aux_lemma=>
      by_cases e:i<m/\m<en
      ·have d:decide (i<m/\m<en)=true:=LN e;rw[d];clear d;go_wp2_with fail;refine(vy (A++X1) X2 Y1 (Y2++D) g n c i m en _ _ _ _ _ (by have:=HJ.out.row;simpa using this) (by rw[HH2.out.ln];simp) (by have:=HA.out;have:=HL1.out;simp;omega) (by have:=HA.out;have:=HL1.out;have:=HL2.out;simp;omega) (by have:=HA.out;have:=HL1.out;have:=HL2.out;have:=HL3.out;have:=HEn.out;simp;omega) (by have:=HL2.out;omega) (by have:=HL3.out;have:=HEn.out;omega) rfl rfl rfl HH2.out.sz).mono ?_;rintro e w1 ⟨rfl,h1⟩;have H1:=qD (HJ.out.then h1);clear h1;go_wp2_with fail;go_meet;have:=H1.out;simpa using this
      ·have d:decide (i<m/\m<en)=false:=LW e;rw[d];clear d;go_wp2_with fail;go_meet;have h1:=HJ.out
       have q:X2=[]\/Y1=[]:=by
        by_cases e1:i<m
        ·exact .inr (LO (by have:=HL3.out;have:=HEn.out;omega))
        ·exact .inl (LO (by have:=HL2.out;omega))
       rcases q with q|q
       ·rw[q] at h1 ⊢;simpa using h1
       ·rw[q] at h1 ⊢;simpa using h1
     case rest=>
      have HJ2:=qD hcut;clear hcut;go_upto_region 41 with fail
      go_cut [199] (fun s wx=>s=.bool (decide (a<i/\i<mid))/\wc=wx)
      case first=>as_aux_lemma=>
       by_cases e1:a<i<;>by_cases e2:i<mid
       all_goals
        go_wp2_with fail;go_meet;exact⟨congrArg Value.bool (by simp[e1,e2]),rfl⟩
      case rest=>
       obtain⟨rfl,rfl⟩:=hcut
       go_upto_if 199 with fail
       go_cut [] (fun wx=>∃S1,aR bL (X1++Y1) S1/\iX g w (A++S1++(X2++Y2++D)) wx)
       case first=>as_aux_lemma=>
        by_cases e:a<i/\i<mid
        ·have d:decide (a<i/\i<mid)=true:=LN e;rw[d];clear d;go_wp2_with fail;refine(HI.out A X1 Y1 (X2++Y2++D) g n c a i mid _ _ _ _ (EG HH2.out HJ2.out) HA.out (by have:=HL1.out;omega) (by have:=HL3.out;omega) (by have:=HL1.out;omega) (by have:=HL3.out;omega) (by have:=HL1.out;have:=HL3.out;omega) rfl rfl rfl).mono ?_;rintro e w1 ⟨rfl,S1,h1,h2⟩;have H1:=qD h1;have H2:=qD (HJ2.out.then h2);clear h1 h2;go_wp2_with fail;go_meet;exact⟨S1,H1.out,H2.out⟩
        ·have d:decide (a<i/\i<mid)=false:=LW e;rw[d];clear d;go_wp2_with fail;go_meet;have hh:=EG HH2.out HJ2.out;refine⟨X1++Y1,iu ?_,by have:=HJ2.out;simpa using this⟩
         have q:X1=[]\/Y1=[]:=by
          by_cases e1:a<i
          ·exact .inr (LO (by have:=HL3.out;omega))
          ·exact .inl (LO (by have:=HL1.out;omega))
         rcases q with q|q
         ·rw[q];simpa using hh.hY
         ·rw[q];simpa using hh.hX
       case rest=>
        obtain⟨S1,hS1,I⟩:=hcut;have HS1:=qD hS1;have HJ3:=qD I;have HLS:Hid (S1.length=X1.length+Y1.length):=by rw[Hid,hS1.1.length_eq];simp
        clear hS1 I;go_upto_region 43 with fail
        go_cut [213] (fun s wx=>s=.bool (decide (mid<en/\en<b))/\wc=wx)
        case first=>as_aux_lemma=>
         by_cases e1:mid<en<;>by_cases e2:en<b
         all_goals
          go_wp2_with fail;go_meet;exact⟨congrArg Value.bool (by simp[e1,e2]),rfl⟩
        case rest=>
         obtain⟨rfl,rfl⟩:=hcut;by_cases e:mid<en/\en<b
         ·as_aux_lemma=>
          have d:decide (mid<en/\en<b)=true:=LN e;rw[d];clear d;go_wp2_with fail;refine(HI.out (A++S1) X2 Y2 D g n c mid en b _ _ _ _ (EH HH2.out HLS.out HJ3.out) (by have:=HA.out;have:=HLS.out;have:=HL1.out;have:=HL3.out;simp;omega) (by have:=HL2.out;have:=HEn.out;omega) (by have:=HL4.out;have:=HEn.out;omega) (by have:=HL2.out;have:=HEn.out;omega) (by have:=HL4.out;have:=HEn.out;omega) (by have:=HL2.out;have:=HL4.out;have:=HEn.out;omega) rfl rfl rfl).mono ?_;rintro e w1 ⟨rfl,S2,h1,h2⟩;have H1:=qD h1;have H2:=qD (HJ3.out.then h2);clear h1 h2;go_wp2_with fail
          go_end0
          exact⟨rfl,S1++S2,HS.out S1 S2 HS1.out H1.out,by have:=H2.out;simpa using this⟩
         ·as_aux_lemma=>
          have d:decide (mid<en/\en<b)=false:=LW e;rw[d];clear d;go_wp2_with fail
          go_end0
          have hh:=EH HH2.out HLS.out HJ3.out;refine⟨rfl,S1++(X2++Y2),HS.out S1 _ HS1.out (iu ?_),by have:=HJ3.out;simpa using this⟩
          have q:X2=[]\/Y2=[]:=by
           by_cases e1:mid<en
           ·exact .inr (LO (by have:=HL4.out;have:=HEn.out;omega))
           ·exact .inl (LO (by have:=HL2.out;have:=HEn.out;omega))
          rcases q with q|q
          ·rw[q];simpa using hh.hY
          ·rw[q];simpa using hh.hX
theorem vz(H:cL bL)(N:Nat):EI N:=by
 induction N with
 | zero=>exact fun A X Y D g n c a m b aI mI bI w h ha hm hb h1 h2 h3=>absurd h3 (by omega)
 | succ N ih=>
  intro A X Y D g n c a m b aI mI bI w h ha hm hb h1 h2 h3 haI hmI hbI;by_cases e1:X.length=1
  ·obtain⟨x,rfl⟩:=NV.1 e1;exact Ih H A x Y D g n c a m b aI mI bI w h ha (by simpa using hm) hb haI hmI hbI
  ·by_cases e2:Y.length=1
   ·obtain⟨y,rfl⟩:=NV.1 e2;exact Ii H A X y D g n c a m b aI mI bI w h ha hm (by simpa using hb) (by omega) haI hmI hbI
   ·exact Ij H A X Y D g n c a m b aI mI bI w h ha hm hb (by omega) (by omega) (fun A' X' Y' D' g' n' c' a' m' b' aI' mI' bI' w' q1 q2 q3 q4 q5 q6 q7 q8 q9 q10=>ih A' X' Y' D' g' n' c' a' m' b' aI' mI' bI' w' q1 q2 q3 q4 q5 q6 (by omega) q8 q9 q10) haI hmI hbI
structure Ik(bs:Nat)(L0:List (B2×Nat))(k:Nat)(A0 A R:List (B2×Nat)):Prop where
 e:L0=A0++R
 l0:A0.length=k*bs
 l:A.length=k*bs
 s:∀q,q<k->aR bL (blk bs q A0) (blk bs q A)
structure oY(bs:Nat)(L0:List (B2×Nat))(k:Nat)(A0 A R0 R:List (B2×Nat)):Prop where
 e:L0=A0++R0
 l0:A0.length=k*(2*bs)
 l:A.length=k*(2*bs)
 rl:R.length=R0.length
 s:∀q,q<k->aR bL (blk (2*bs) q A0) (blk (2*bs) q A)
 t:∀q,aR bL (blk bs q R0) (blk bs q R)
structure qB(bs:Nat)(R0 R X0 Y0 D0 X Y D:List (B2×Nat)):Prop where
 e0:R0=X0++(Y0++D0)
 e:R=X++(Y++D)
 x0:X0.length=bs
 x:X.length=bs
 y0:Y0.length=bs\/(Y0.length<=bs/\D0=[])
 y:Y.length=bs\/(Y.length<=bs/\D=[])
theorem wG(bs:Nat)(R0 R:List (B2×Nat))(hl:R.length=R0.length)(hb:bs<=R.length):qB bs R0 R (R0.take bs) ((R0.drop bs).take bs) ((R0.drop bs).drop bs) (R.take bs) ((R.drop bs).take bs) ((R.drop bs).drop bs):=by
 have aux:∀l:List (B2×Nat),(l.take bs).length=bs\/((l.take bs).length<=bs/\l.drop bs=[]):=fun l=>by
  by_cases e:bs<=l.length
  ·exact .inl (by rw[Lx];omega)
  ·exact .inr ⟨by rw[Lx];omega,Nl (by omega)⟩
 exact⟨by rw[Lf,Lf],by rw[Lf,Lf],by rw[Lx];omega,by rw[Lx];omega,aux _,aux _⟩
theorem oY.sorted{bs k:Nat}{L0 A0 A R0 R X0 Y0 D0 X Y D:List (B2×Nat)}(h:oY bs L0 k A0 A R0 R)(hp:qB bs R0 R X0 Y0 D0 X Y D):aR bL X0 X/\aR bL Y0 Y:=
 sx hp.x0 hp.y0 hp.x hp.y (by have:=h.t;rw[hp.e0,hp.e] at this;exact this)
theorem oY.KM{bs k:Nat}{L0 A0 A R0 R X0 Y0 D0 X Y D:List (B2×Nat)}(h:oY bs L0 k A0 A R0 R)(hp:qB bs R0 R X0 Y0 D0 X Y D){g n:Nat}{w wr:World}(ht:gE L0)(hc:kU g w L0)(I:iX g w (A++R) wr)(hn:n=L0.length)(hz:n*32<=aF):gK A X Y D g n wr:=by
 obtain⟨s1,s2⟩:=h.sorted hp;have ht2:gE (A0++(X0++(Y0++D0))):=by rw[<-hp.e0,<-h.e];exact ht
 refine⟨?_,?_,hz,s1.2,s2.2,fun x hx y hy=>?_,hc.less I.but fun x hx=>?_⟩
 ·have:=I.row;rw[hp.e] at this;simpa using this
 ·rw[hn,h.e,Ld,Ld,<-hp.e,LM,LM,h.l0,h.l,h.rl]
 ·have q:=(Le.1 (Le.1 ht2).2.1).2.2;exact q x (s1.1.mem_iff.1 hx) y (by simp[s2.1.mem_iff.1 hy])
 ·rw[h.e,hp.e0];rcases LY.1 hx with hx|hx
  ·simp[s1.1.mem_iff.1 hx]
  ·simp[s2.1.mem_iff.1 hx]
theorem oY.next{bs k:Nat}{L0 A0 A R0 R X0 Y0 D0 X Y D S:List (B2×Nat)}(h:oY bs L0 k A0 A R0 R)(hp:qB bs R0 R X0 Y0 D0 X Y D)(hS:aR bL (X++Y) S)(hy:Y.length=bs)(hy0:Y0.length=bs):oY bs L0 (k+1) (A0++(X0++Y0)) (A++S) D0 D:=by
 obtain⟨s1,s2⟩:=h.sorted hp;have hS2:=aR.both s1 s2 hS;have l1:(X0++Y0).length=2*bs:=by rw[LM,hp.x0,hy0];omega
 have l2:(X++Y).length=2*bs:=by rw[LM,hp.x,hy];omega
 refine⟨?_,?_,?_,?_,lK h.l0 h.l h.s l1 hS2,fun q=>sy l1 l2 ?_ q⟩
 ·rw[h.e,hp.e0];simp
 ·rw[LM,h.l0,l1];exact(PG k (2*bs)).symm
 ·rw[LM,h.l,hS.1.length_eq,l2];exact(PG k (2*bs)).symm
 ·have:=h.rl;rw[hp.e,hp.e0] at this;simp[hp.x,hp.x0,hy,hy0] at this;exact this
 ·have:=h.t;rw[hp.e0,hp.e] at this;simpa using this
theorem oY.last{bs k:Nat}{L0 A0 A R0 R X0 Y0 X Y S:List (B2×Nat)}(h:oY bs L0 k A0 A R0 R)(hp:qB bs R0 R X0 Y0 [] X Y [])(hS:aR bL (X++Y) S)(q:Nat):aR bL (blk (2*bs) q L0) (blk (2*bs) q (A++S)):=by
 obtain⟨s1,s2⟩:=h.sorted hp;have e:L0=A0++(X0++Y0):=by rw[h.e,hp.e0,Lm]
 rw[e];exact iE h.l0 h.l h.s (by rw[LM,hp.x0];rcases hp.y0 with q|⟨q,_⟩<;>omega) (aR.both s1 s2 hS) q
theorem oY.lone{bs k:Nat}{L0 A0 A R0 R:List (B2×Nat)}(h:oY bs L0 k A0 A R0 R)(hl:R.length<=bs)(q:Nat):aR bL (blk (2*bs) q L0) (blk (2*bs) q (A++R)):=by
 rw[h.e];exact iE h.l0 h.l h.s (by rw[<-h.rl];omega) (nC (by rw[<-h.rl];exact hl) hl h.t) q
theorem wH(H:cL bL)(L0:List (B2×Nat))(g n c:Nat)(w:World)(hr:cG w g L0)(hn:n=L0.length)(hz:n*32<=aF)(ht:gE L0)(hc:kU g w L0):
 Calls prog 156 #[.slice (some ⟨g,0,none⟩) n c,.int .i64 n,.func (.func 104) #[] #[]] w (tj g w [] L0 []):=by
 have HZ:=qD hz;unfold aF at hz;have HN:=qD hn;have HT:=qD ht;have HC:=qD hc;have HO:=qD H;have I0:Hid (iX g w L0 w):=qD ⟨hr,ey.refl⟩;clear hr hn ht hc H;go_enter func156,ntmps156;go_wp2_with fail
 go_loopw [7,8] (fun v7 v8 wr=>∃(k a b:Nat) (A0 A R:List (B2×Nat)),v7=.int .i64 a/\v8=.int .i64 b/\b=a+20/\a=k*20/\a<=n/\Ik 20 L0 k A0 A R/\iX g w (A++R) wr) (fun _ v8 _=>n+40-(intOf v8).toNat)
 ·exact⟨0,0,20,[],[],L0,rfl,rfl,rfl,rfl,LQ _,⟨rfl,rfl,rfl,fun q hq=>absurd hq (by omega)⟩,I0.out⟩
 case round=>
  obtain⟨k,a,b,A0,A,R,rfl,rfl,hb,hk,han,hD,I⟩:=hrel;have HB:=qD hb;have HK:=qD hk;have HD:=qD hD;have J:=qD I;have hRl:R.length=n-a:=by have h1:=HN.out;rw[hD.e] at h1;simp[hD.l0] at h1;omega
  have HRl:=qD hRl;clear hk hD I hRl;by_cases hlt:b<=n
  ·have hb2:b=a+20:=hb;have hl1:(R.take 20).length=20:=by rw[Lx];have:=HRl.out;omega
   have HL1:=qD hl1;have HR:Hid (R=R.take 20++R.drop 20):=(Lf 20 R).symm;have HM:∀x∈R,x∈L0:=fun x hx=>by rw[HD.out.e];simp[hx]
   have HM':=qD HM;clear hb hb2 hl1 HM;go_wp2_with fail;refine(qA HO.out A (R.take 20) (R.drop 20) g n c a b _ (by rw[Ld,<-HR.out];exact J.out.row) (by rw[Ld,<-HR.out,LM,HD.out.l,HRl.out,<-HK.out];omega) (by rw[HD.out.l];exact HK.out) (by rw[HD.out.l,HL1.out,<-HK.out];exact HB.out) HZ.out ?_ ?_).mono ?_
   ·have:=HT.out;rw[HD.out.e,HR.out] at this;exact(Le.1 (Le.1 this).2.1).1
   ·exact HC.out.less J.out.but (fun x hx=>HM'.out x (Nw hx))
   rintro e w1 ⟨rfl,S,hS,h1⟩;have HS:=qD hS;have H1:=qD (J.out.then h1);clear hS h1;go_wp2_with fail;go_roundw
   case rel=>
    refine⟨k+1,b,b+20,A0++R.take 20,A++S,R.drop 20,rfl,by go_num,rfl,by have:=HB.out;have:=HK.out;omega,hlt,⟨by rw[Ld,<-HR.out];exact HD.out.e,?_,?_,?_⟩,H1.out⟩
    ·rw[LM,HD.out.l0,HL1.out];omega
    ·rw[LM,HD.out.l,HS.out.1.length_eq,HL1.out];omega
    ·exact lK HD.out.l0 HD.out.l HD.out.s HL1.out HS.out
   case measure=>simp[intOf];omega
  ·have hRl2:R.length<=20:=by have:=HRl.out;omega
   have HM:∀x∈R,x∈L0:=fun x hx=>by rw[HD.out.e];simp[hx]
   have HM':=qD HM;clear hb HM;go_wp2_with fail;refine(qA HO.out A R [] g n c a n _ (by rw[Lm];exact J.out.row) (by rw[Lm,LM,HD.out.l,HRl.out,<-HK.out];omega) (by rw[HD.out.l];exact HK.out) (by rw[HD.out.l,HRl.out,<-HK.out];omega) HZ.out ?_ ?_).mono ?_
   ·have:=HT.out;rw[HD.out.e] at this;exact(Le.1 this).2.1
   ·exact HC.out.less J.out.but HM'.out
   rintro e w1 ⟨rfl,S,hS,h1⟩;have J1:Hid (iX g w (A++S) w1):=by have:=J.out.then h1;rw[Lm] at this;exact this
   have HR1:Hid (∀q,aR bL (blk 20 q L0) (blk 20 q (A++S))):=by rw[Hid,HD.out.e];exact iE HD.out.l0 HD.out.l HD.out.s hRl2 hS
   have HLl:Hid ((A++S).length=L0.length):=by rw[Hid,HD.out.e,LM,LM,HD.out.l,HD.out.l0,hS.1.length_eq]
   clear hS h1;go_wp2_with fail
   go_loopw [6] (fun v6 wr=>∃(bs:Nat) (L:List (B2×Nat)),v6=.int .i64 bs/\20<=bs/\bs<=2*n+20/\L.length=L0.length/\(∀q,aR bL (blk bs q L0) (blk bs q L))/\iX g w L wr) (fun v6 _=>n-(intOf v6).toNat)
   ·exact⟨20,A++S,rfl,qL,by omega,HLl.out,HR1.out,J1.out⟩
   case round=>
    clear HB HK HD J HRl HM' J1 HR1 HLl;obtain⟨bs,L,rfl,hb1,hb2,hl,hR,I⟩:=hrel;have HL:=qD hl;have HRu:=qD hR;have J:=qD I;clear hl hR I;by_cases hlt2:bs<n
    ·go_wp2_with fail
     go_loopw [7,8] (fun v7 v8 wr=>∃(k a b:Nat) (A0 A R0 R:List (B2×Nat)),v7=.int .i64 a/\v8=.int .i64 b/\b=a+2*bs/\a<=n/\A.length=a/\oY bs L0 k A0 A R0 R/\iX g w (A++R) wr) (fun _ v8 _=>n+1-(intOf v8).toNat)
     ·exact⟨0,0,2*bs,[],[],L0,L,rfl,by go_num,by omega,LQ _,rfl,⟨rfl,by simp,by simp,HL.out,fun q hq=>absurd hq (by omega),HRu.out⟩,J.out⟩
     case round=>
      clear HL HRu J;obtain⟨k,a,b,A0,A,R0,R,rfl,rfl,hb,han,hA,hM,I⟩:=hrel;have HB:=qD hb;have HA:=qD hA;have HM:=qD hM;have J:=qD I;have hRl:R.length=n-a:=by have h1:=HN.out;rw[hM.e] at h1;have h2:=hM.l0;have h3:=hM.l;simp at h1;rw[hM.rl];omega
      have HRl:=qD hRl;clear hM I hA;by_cases hlt3:b<=n
      ·obtain⟨X0,Y0,D0,X,Y,D,hp⟩:∃X0 Y0 D0 X Y D,qB bs R0 R X0 Y0 D0 X Y D:=⟨_,_,_,_,_,_,wG bs R0 R HM.out.rl (by omega)⟩
       have hy:Y.length=bs:=by
        have h1:=HRl.out;rw[hp.e,LM,LM,hp.x] at h1;rcases hp.y with q|⟨q,rfl⟩
        ·exact q
        ·simp at h1;omega
       have hy0:Y0.length=bs:=by
        have h1:=HRl.out;rw[HM.out.rl,hp.e0,LM,LM,hp.x0] at h1;rcases hp.y0 with q|⟨q,rfl⟩
        ·exact q
        ·simp at h1;omega
       have HPa:=qD hp;have HY:=qD hy;have HY0:=qD hy0;have hbn:a+2*bs<=n:=by omega
       clear hp hy hy0 hb hRl;go_wp2_with fail;refine(vz HO.out _ A X Y D g n c a (a+bs) b _ _ _ _ (HM.out.KM HPa.out HT.out HC.out J.out HN.out HZ.out) HA.out.symm (by rw[HPa.out.x]) (by rw[HY.out];have:=HB.out;omega) (by rw[HPa.out.x];omega) (by rw[HY.out];omega) (Lo _) rfl (by omega) rfl).mono ?_;rintro e w2 ⟨rfl,S,hS,h1⟩;have HS:=qD hS;have H1:=qD (J.out.then h1);clear hS h1;go_wp2_with fail;go_roundw
       case rel=>
        exact⟨k+1,b,b+2*bs,_,A++S,_,D,rfl,by go_num,rfl,hlt3,by rw[LM,HS.out.1.length_eq,LM,HA.out,HPa.out.x,HY.out];have:=HB.out;omega,HM.out.next HPa.out HS.out HY.out HY0.out,H1.out⟩
       case measure=>simp[intOf];omega
      ·have hab:n<a+2*bs:=by omega
       clear hb hRl;by_cases hm:a+bs<n
       ·obtain⟨X0,Y0,X,Y,hp⟩:∃X0 Y0 X Y,qB bs R0 R X0 Y0 [] X Y []:=by
         have q:=wG bs R0 R HM.out.rl (by have:=HRl.out;omega);rw[show(R0.drop bs).drop bs=[] from LO (by have:=HRl.out;have:=HM.out.rl;simp;omega),show(R.drop bs).drop bs=[] from LO (by have:=HRl.out;simp;omega)] at q;exact⟨_,_,_,_,q⟩
        have hy:Y.length=n-a-bs:=by have h1:=HRl.out;rw[hp.e] at h1;have:=hp.x;simp at h1;omega
        have HPa:=qD hp;have HY:=qD hy;clear hp hy;go_wp2_with fail;refine(vz HO.out _ A X Y [] g n c a (a+bs) n _ _ _ _ (HM.out.KM HPa.out HT.out HC.out J.out HN.out HZ.out) HA.out.symm (by rw[HPa.out.x]) (by rw[HY.out];omega) (by rw[HPa.out.x];omega) (by rw[HY.out];omega) (Lo _) rfl (by omega) rfl).mono ?_;rintro e w2 ⟨rfl,S,hS,h1⟩;have HS:=qD hS;have H1:Hid (iX g w (A++S) w2):=by have:=J.out.then h1;rw[Lm] at this;exact this
        clear hS h1;go_wp2_with fail;go_roundw
        case rel=>
         exact⟨2*bs,A++S,by go_num,by omega,by omega,by rw[LM,HS.out.1.length_eq,LM,HA.out,HPa.out.x,HY.out,<-HN.out];omega,HM.out.last HPa.out HS.out,H1.out⟩
        case measure=>simp[intOf];omega
       ·go_wp2_with fail;go_roundw
        case rel=>
         exact⟨2*bs,A++R,by go_num,by omega,by omega,by rw[LM,HA.out,HRl.out,<-HN.out];omega,HM.out.lone (by have:=HRl.out;omega),J.out⟩
        case measure=>simp[intOf];omega
    ·have HE:Hid (aR bL L0 L):=nC (by rw[<-HN.out];omega) (by rw[HL.out,<-HN.out];omega) HRu.out;go_wp2_with fail
     go_end0
     exact⟨rfl,L,HE.out,by have:=J.out;simpa using this⟩
theorem JV:cL bL:=by
 refine⟨fun x y=>jR (gD _ _) (gD _ _),fun x y z=>TR.lx (mv _ _ _) (mv _ _ _)⟩
theorem yz(w:World):Calls prog 206 #[.slice none 0 0,.int .i64 0,.int .i64 0,.func (.func 104) #[] #[]] w fun e w'=>e=.returned (.tuple #[])/\w=w':=by
 go_enter func206,Pz;go_wp2_with fail
 go_loopw [8] (fun v8 wr=>v8=.int .i64 1/\wr=w) (fun _ _=>0)
 ·exact⟨rfl,rfl⟩
 case round=>
  obtain⟨rfl,rfl⟩:=hrel;go_wp2_with fail
  go_end0
  exact⟨rfl,rfl⟩
theorem wI(w:World):Calls prog 156 #[.slice none 0 0,.int .i64 0,.func (.func 104) #[] #[]] w fun e w'=>e=.returned (.tuple #[])/\w=w':=by
 go_enter func156,ntmps156;go_wp2_with fail
 go_loop [7,8] (fun v7 v8=>v7=.int .i64 0/\v8=.int .i64 20) (fun _ _=>0)
 case atStart=>exact⟨rfl,rfl⟩
 case round=>
  obtain⟨rfl,rfl⟩:=hrel;go_wp2_with fail;refine(yz _).mono ?_;rintro e w1 ⟨rfl,rfl⟩;go_wp2_with fail
  go_loop [6] (fun v6=>v6=.int .i64 20) (fun _=>0)
  case atStart=>rfl
  case round=>
   subst hrel;go_wp2_with fail
   go_end0
   exact⟨rfl,rfl⟩
theorem By(w:World):Calls prog 103 #[.slice none 0 0,.func (.func 104) #[] #[]] w fun e w'=>e=.returned (.tuple #[])/\w=w':=by
 go_enter func103,ntmps103;go_wp2_with fail;refine(wI _).mono ?_;rintro e w1 ⟨rfl,rfl⟩;go_wp2_with fail
 go_end0
 exact⟨rfl,rfl⟩
theorem Bz(L:List (B2×Nat))(g n c:Nat)(w:World)(hr:cG w g L)(hn:n=L.length)(hz:n*32<=aF)(ht:gE L)(hc:kU g w L):
 Calls prog 103 #[.slice (some ⟨g,0,none⟩) n c,.func (.func 104) #[] #[]] w (tj g w [] L []):=by
 have HR:=qD hr;have HN:=qD hn;have HT:=qD ht;have HC:=qD hc;have HZ:=qD hz;clear hr hn ht hc hz;go_enter func103,ntmps103;go_wp2_with fail;refine(wH JV L g n c _ HR.out HN.out HZ.out HT.out HC.out).mono ?_;rintro e w1 hd;have HD:=qD hd;obtain⟨rfl,_⟩:=hd;go_wp2_with fail
 go_end0
 exact HD.out
def jd(xs ys:List B2):Prop:=ys.Perm xs/\ys.Pairwise fun p q=>bL p q<=0
theorem jd.of{xs:List B2}{S:List (B2×Nat)}(h:aR bL (bd 0 xs) S):jd xs (S.map Prod.fst):=by
 refine⟨?_,?_⟩
 ·have:=h.perm.map Prod.fst
  rwa [kZ] at this
 ·rw[Nv];refine h.ord.imp fun {a b} hab=>?_;have hab':bL a.1 b.1<0\/bL a.1 b.1=0/\a.2<b.2:=hab;omega
end Go.Proofs.YthfahkaadbdicaaGreatDoor
