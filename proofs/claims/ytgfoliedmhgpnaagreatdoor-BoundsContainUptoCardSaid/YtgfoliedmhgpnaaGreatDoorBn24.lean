/- A part of the proof. -/
import Derived.Test.YtgfoliedmhgpnaaGreatDoorBn40
set_option maxRecDepth 100000
set_option maxHeartbeats 16000000
set_option linter.unusedSimpArgs false
open Go.Proofs.Tryz
open ByteArray (empty)
namespace Go.Proofs.YtgfoliedmhgpnaaGreatDoor
open Go.RowKit
section
variable {l:List ByteArray} {b m:Nat} {a x y:Int}
def gM:List Int->List Int->Int
 | [],[]=>0
 | [],_::_=>-1
 | _::_,[]=>1
 | a::r,b::s=>if a<b then -1 else if b<a then 1 else gM r s
theorem rG:∀(p a b:List Int),gM (p++a) (p++b)=gM a b
 | [],a,b=>rfl
 | x::p,a,b=>by rw[Ly,Ly,gM,KU (by omega),KU (by omega),rG p a b]
theorem rH(x:Int)(a b:List Int):gM (x::a) (x::b)=gM a b:=rG [x] a b
theorem EC{x y:Int}(h:x<y)(a b:List Int):gM (x::a) (y::b)=-1:=by rw[gM,Kb h]
theorem pG:∀l m:List UInt8,Lib.compareBytes l m=gM (l.map fun x=>(x.toNat:Int)) (m.map fun x=>(x.toNat:Int))
 | [],[]=>rfl
 | [],_::_=>rfl
 | _::_,[]=>rfl
 | a::r,b::s=>by
  rw[Lv,Lv,gM,Lib.compareBytes,pG r s];have e:∀p q:UInt8,p<q↔(p.toNat:Int)<(q.toNat:Int):=fun p q=>by rw[Ma];omega
  by_cases h:a<b
  ·rw[Kb h,Kb ((e a b).1 h)]
  ·have h2:¬((a.toNat:Int)<(b.toNat:Int)):=fun h'=>h ((e a b).2 h');by_cases g:b<a
   ·rw[KU h,Kb g,KU h2,Kb ((e b a).1 g)]
   ·have g2:¬((b.toNat:Int)<(a.toNat:Int)):=fun h'=>g ((e b a).2 h');rw[KU h,KU g,KU h2,KU g2]
def il(n:Int):Prop:=-9223372036854775808<=n/\n<=9223372036854775807
end
mutual
def cO:aC->Prop
 | .mk _ n _ l d=>il n/\rI l/\rJ d
def rI:List aC->Prop
 | []=>True
 | x::r=>cO x/\rI r
def rJ:List cF->Prop
 | []=>True
 | f::r=>CF f/\rJ r
def CF:cF->Prop
 | .mk _ v=>cO v
end
section
variable {l:List ByteArray} {k i n m size:Nat} {a x y d:Int} {s:ByteArray} {w w':World} {e:TypeId} {v:Value}
theorem zp(l:List aC):rI l↔∀y∈l,cO y:=by
 induction l with
 | nil=>simp[rI]
 | cons x r ih=>simp[rI,ih]
theorem zr(f:cF):CF f↔cO f.v:=by cases f;simp only[CF];rfl
theorem zt(d:List cF):rJ d↔∀f∈d,cO f.v:=by
 induction d with
 | nil=>simp[rJ]
 | cons x r ih=>simp[rJ,ih,zr]
theorem im(x:aC):cO x↔il x.n/\(∀y∈x.l,cO y)/\∀f∈x.d,cO f.v:=by
 cases x;rw[cO,zp,zt];rfl
theorem wm:(Tryz.prog.info? 4).map (fun i=>(i.zero,i.size,i.bytes))=some (some (.bool false),1,1):=by kernel_rfl
theorem wu(n:Int)(w:World):Calls prog 30 #[.int .i64 n] w fun e w'=>e=.returned (VC.val ⟨3,n,empty,none,0,0,none,0,0⟩)/\Below w.heap.size w w':=by
 go_enter func30,ntmps30;go_wp2_with fail;exact Jz (aF rfl _ _ _ rfl _ ⟨3,n,empty,none,0,0,none,0,0⟩ (aS.Ig (aG.new _ _ _))) rfl ⟨rfl,(Ju _ _).alloc (qL) _⟩
def ua(l:List Int):Prop:=∀z∈l,0<=z/\z<256
theorem ua.nil:ua []:=fun z hz=>by simp at hz
theorem ua.cons{a:Int}{l:List Int}(ha:0<=a/\a<256)(h:ua l):ua (a::l):=fun z hz=>by
 rcases LG.1 hz with rfl|hz
 ·exact ha
 ·exact h z hz
theorem ub{l:List Int}(h:ua l):((strOfNums l).data.toList.map fun x=>(x.toNat:Int))=l:=by
 rw[Mx,Mq]
 conv=>rhs;rw[<-List.map_id l]
 refine List.map_congr_left fun z hz=>?_;have:=h z hz;simp only[Function.comp_apply,id];rw[OH];omega
theorem oV{l m:List Int}(hl:ua l)(hm:ua m):dP (strOfNums l) (strOfNums m)=gM l m:=by
 unfold dP;rw[pG,ub hl,ub hm]
theorem Gb:aL dm=true:=by
 have hs:bc aV dm:=(al _ _).2 ⟨by simp[dl,dm,aC.k,aC.n,aC.t,aC.l,aC.d],by simp[dm,aC.l],by simp[dm,aC.d],by simp[dm,aC.d,iV]⟩;have h1:dm.size=1:=by simp[dm,aC.size]
 have h2:dm.Im=1:=by simp[dm,aC.Im]
 unfold aL;rw[Jy (by omega),Jy (by omega),fA hs];rfl
theorem Gc:cO dm:=by
 unfold dm;simp[cO,rI,rJ,il]
theorem pH{x y:aC}{s:ByteArray}(h:eY x s=some y):x.k=5/\∃f∈x.d,f.v=y:=by
 have hk:x.k=5:=by
  rcases Classical.em (x.k=5) with h5|h5
  ·exact h5
  ·rw[rF s h5] at h;cases h
 refine⟨hk,?_⟩;unfold eY at h;split at h
 ·obtain⟨f,hf,rfl⟩:=LR.1 h;exact⟨f,Jx hf,rfl⟩
 ·cases h
end
inductive cN:aC->aC->Prop
 | refl (x:aC):cN x x
 | part {y z x:aC}:z∈x.parts->cN y z->cN y x
section
variable {l r:List ByteArray} {k n size:Nat} {x y:Int} {s:ByteArray}
theorem pI{x y:aC}{s:ByteArray}(hg:eY x s=some y):y∈x.parts:=by
 obtain⟨h5,f,hf,e⟩:=pH hg;unfold aC.parts;rw[KU (by omega),Kb h5,<-e];exact Ko hf
theorem io{x y:aC}(h6:x.k=6)(hy:y∈x.l):y∈x.parts:=by
 unfold aC.parts;rw[Kb h6];exact hy
theorem uc{x:aC}(h6:x.k=6):x.size=1+bN x.l:=by
 rw[dA];unfold aC.parts;rw[Kb h6]
set_option linter.unusedVariables false in
noncomputable def fT(x:aC)(l:List ByteArray):List aC:=
 match l with
 | []=>[x]
 | s::r=>
  if x.k=5 then(match h:eY x s with
   | .none=>[]
   | .some y=>fT y r)
  else if h6:x.k=6 then(x.l.attach.flatMap fun y=>if y.1.k=5 then fT y.1 (s::r) else [])++(match ik s with
   | .none=>[]
   | .some n=>match h:x.l[n]? with
    | .none=>[]
    | .some y=>fT y r)
  else []
termination_by x.size
decreasing_by
 ·exact dB (pI h)
 ·exact dB (io h6 y.2)
 ·exact dB (io h6 (Jx h))
theorem rL(x:aC):fT x []=[x]:=by rw[fT]
theorem pJ{x:aC}{s:ByteArray}{r:List ByteArray}(h6:x.k≠6)(hg:eY x s=none):fT x (s::r)=[]:=by
 rw[fT];by_cases h5:x.k=5
 ·rw[Kb h5];split
  ·rfl
  ·rename_i h;rw[hg] at h;cases h
 ·rw[KU h5,dif_neg h6]
theorem pK{x y:aC}{s:ByteArray}{r:List ByteArray}(h5:x.k=5)(hg:eY x s=some y):fT x (s::r)=fT y r:=by
 rw[fT,Kb h5];split
 ·rename_i h;rw[hg] at h;cases h
 ·rename_i h;rw[hg] at h;injection h with h;rw[h]
noncomputable def nt(l:List ByteArray)(y:aC):List aC:=if y.k=5 then fT y l else []
theorem lZ{x:aC}{s:ByteArray}{r:List ByteArray}(h6:x.k=6):fT x (s::r)=x.l.flatMap (nt (s::r))++(match ik s with
 | .none=>[]
 | .some n=>match x.l[n]? with
  | .none=>[]
  | .some y=>fT y r):=by
 rw[fT,KU (by omega),dif_pos h6];congr 1
 ·conv=>rhs;rw[<-List.attach_map_subtype_val x.l]
  rw[List.flatMap_map];rfl
 ·cases ik s with
  | none=>rfl
  | some n=>
   dsimp only;split
   ·rename_i h;rw[h]
   ·rename_i h;rw[h]
end
structure ld(F:Nat->Prop)(x:aC)(l:List ByteArray)(w:World)(ps:List PV):Prop where
 rv:∀p∈ps,RV F w p.1 p.2
 sub:∀p∈ps,cN p.2 x
 cnt:ps.length<=x.size*2^l.length
 cnt2:x.k=5->l≠[]->2*ps.length<=x.size*2^l.length
 fn:ps.map Prod.snd=fT x l
section
variable {l r xs:List ByteArray} {b c k n base size:Nat} {x y:Int} {s:ByteArray} {w w':World} {F:Nat -> Prop} {e:TypeId} {v:Value}
theorem ld.back{F:Nat->Prop}{x:aC}{l:List ByteArray}{w w':World}{ps:List PV}(h:ld F x l w' ps)(hb:Below w.heap.size w w')(hF:∀b,F b->b<w.heap.size):ld F x l w ps:=
 ⟨fun p hp=>(h.rv p hp).keep fun b hFb=>(hb.block b (hF b hFb)).symm,h.sub,h.cnt,h.cnt2,h.fn⟩
theorem ld.one{F:Nat->Prop}{x:aC}{c:VC}{w:World}(h:RV F w c x):ld F x [] w [(c,x)]:=by
 refine⟨fun p hp=>?_,fun p hp=>?_,?_,fun _ hl=>absurd rfl hl,?_⟩
 ·rw[Kf.1 hp];exact h
 ·rw[Kf.1 hp];exact .refl x
 ·have:=dv x;simp;omega
 ·rw[rL];rfl
theorem ld.none{F:Nat->Prop}{x:aC}{s:ByteArray}{r:List ByteArray}{w:World}(h6:x.k≠6)(hg:eY x s=none):ld F x (s::r) w []:=
 ⟨fun p hp=>by simp at hp,fun p hp=>by simp at hp,KD _,fun _ _=>KD _,(pJ h6 hg).symm⟩
theorem ld.some{F:Nat->Prop}{x y:aC}{s:ByteArray}{r:List ByteArray}{w:World}{ps:List PV}(h5:x.k=5)(hg:eY x s=some y)(h:ld F y r w ps):ld F x (s::r) w ps:=by
 have hs:=dB (pI hg)
 have h2:2*ps.length<=x.size*2^(s::r).length:=by
  have h1:=h.cnt;have h3:y.size*2^r.length<=x.size*2^r.length:=Ki _ (by omega);rw[Ks,Nat.pow_succ,<-Nat.mul_assoc];omega
 refine⟨h.rv,fun p hp=>.part (pI hg) (h.sub p hp),by omega,fun _ _=>h2,by rw[pK h5 hg];exact h.fn⟩
def CG(F:Nat->Prop)(x:aC)(l:List ByteArray)(w:World)(e:Ending)(w':World):Prop:=
 ∃v m ps,e=.returned v/\w'.ownsRow w.heap.size 29 5 v m (aO bC ps)/\ps.length=m/\ld F x l w ps/\Below w.heap.size w w'
theorem iq{w:World}{base base' size n:Nat}{e:TypeId}{v:Value}{xs:List Value}(hb:base'<=base)(h:w.ownsRow base e size v n xs):w.ownsRow base' e size v n xs:=by
 refine⟨h.1,?_⟩;rcases h.2 with h1|⟨g,cap,cur,hv,hge,r2⟩
 ·exact .inl h1
 ·exact .inr ⟨g,cap,cur,hv,KM hb hge,r2⟩
end
structure qE(F:Nat->Prop)(x:aC)(l:List ByteArray)(w wa:World)(i m:Nat)(v:Value)(ps:List PV)(wr:World):Prop where
 own:wr.ownsRow wa.heap.size 29 5 v m (aO bC ps)
 ln:ps.length=m
 bel:Below wa.heap.size wa wr
 rv:∀p∈ps,RV F w p.1 p.2
 sub:∀p∈ps,cN p.2 x
 cnt:2*m<=bN (x.l.take i)*2^l.length
 fn:ps.map Prod.snd=(x.l.take i).flatMap (nt l)
section
variable {l r:List ByteArray} {b c k i o n off m size:Nat} {a x y:Int} {s:ByteArray} {w w' wr:World} {A:Option Addr} {F:Nat -> Prop} {v v':Value}
theorem rM{x y:aC}{l:List ByteArray}{i:Nat}(hy:x.l[i]?=some y):(x.l.take (i+1)).flatMap (nt l)=(x.l.take i).flatMap (nt l)++nt l y:=by
 rw[Le,hy,OA];simp
section
variable {F:Nat->Prop} {x y:aC} {s:ByteArray} {l r:List ByteArray} {w wa wr w':World} {i m m2:Nat} {v v':Value} {ps qs:List PV}
theorem qE.step(h:qE F x l w wa i m v ps wr)(hb:Below wr.heap.size wr w'):qE F x l w wa i m v ps w':=⟨bJ h.own hb,h.ln,h.bel.Ih hb,h.rv,h.sub,h.cnt,h.fn⟩
theorem qE.skip(h:qE F x l w wa i m v ps wr)(hy:x.l[i]?=some y)(hk:y.k≠5):qE F x l w wa (i+1) m v ps wr:=
 ⟨h.own,h.ln,h.bel,h.rv,h.sub,by rw[jD hy,Lk];have:=h.cnt;omega,by rw[rM hy,nt,KU hk,LQ];exact h.fn⟩
theorem qE.sum(h:qE F x l w wa i m v ps wr)(hy:x.l[i]?=some y)(h6:x.k=6)(hq:ld F y l w qs)(hk:y.k=5)(hl:l≠[]):2*(m+qs.length)<=bN (x.l.take (i+1))*2^l.length/\bN (x.l.take (i+1))*2^l.length<=x.size*2^l.length:=by
 have h1:=h.cnt;have h2:=hq.cnt2 hk hl;refine⟨by rw[jD hy,Lk];omega,Ki _ ?_⟩;have:=gu x.l (i+1);rw[uc h6];omega
theorem qE.JY(h:qE F x l w wa i m v ps wr)(hy:x.l[i]?=some y)(h6:x.k=6)(hq:ld F y l w qs)(hk:y.k=5)(hl:l≠[])(h2:qs.length=m2)(hz:x.size*2^l.length<=34359738368):m+m2<=34359738368:=by
 have:=h.sum hy h6 hq hk hl;omega
theorem qE.add(h:qE F x l w wa i m v ps wr)(hy:x.l[i]?=some y)(h6:x.k=6)(hq:ld F y l w qs)(hk:y.k=5)(hl:l≠[])(h2:qs.length=m2)(ho:w'.ownsRow wa.heap.size 29 5 v' (m+m2) (aO bC ps++aO bC qs))(hg:wr.grownBy w' v.ownBlock):qE F x l w wa (i+1) (m+m2) v' (ps++qs) w':=by
 refine⟨by rw[di];exact ho,by rw[KV,h.ln,h2],h.bel.grown hg h.bel.size (bF h.own),fun p hp=>?_,fun p hp=>?_,?_,?_⟩
 ·rcases KI.1 hp with hp|hp
  ·exact h.rv p hp
  ·exact hq.rv p hp
 ·rcases KI.1 hp with hp|hp
  ·exact h.sub p hp
  ·exact .part (io h6 (Jx hy)) (hq.sub p hp)
 ·rw[<-h2];exact(h.sum hy h6 hq hk hl).1
 ·rw[rM hy,nt,Kb hk,Ke,h.fn,hq.fn]
theorem qE.fin(h:qE F x (s::r) w wa i m v ps wr)(h6:x.k=6)(hi:x.l.length=i)(hn:∀n,ik s=some n->x.l[n]?=none):ld F x (s::r) w ps:=by
 refine⟨h.rv,h.sub,?_,fun h5=>by omega,?_⟩;rotate_left
 ·rw[lZ h6,h.fn,KL (by omega)];cases hs:ik s with
  | none=>simp
  | some n=>simp[hn n hs]
 have h1:bN (x.l.take i)*2^(s::r).length<=x.size*2^(s::r).length:=by
  refine Ki _ ?_;have:=gu x.l i;rw[uc h6];omega
 have:=h.cnt;have:=h.ln;omega
theorem qE.JZ(h:qE F x (s::r) w wa i m v ps wr)(h6:x.k=6)(hy:y∈x.l)(hq:ld F y r w qs)(h2:qs.length=m2):m+m2<=x.size*2^(s::r).length:=by
 have e:∀k:Nat,k*2^(s::r).length=2*(k*2^r.length):=fun k=>by rw[Ks,Nat.pow_succ,<-Nat.mul_assoc,Og]
 have h1:=h.cnt;have h3:=hq.cnt
 have a1:bN (x.l.take i)*2^r.length<=x.size*2^r.length:=by
  refine Ki _ ?_;have:=gu x.l i;rw[uc h6];omega
 have a2:y.size*2^r.length<=x.size*2^r.length:=by
  refine Ki _ ?_;have:=qg hy;rw[uc h6];omega
 rw[e] at h1 ⊢;omega
theorem qE.JM(h:qE F x (s::r) w wa i m v ps wr)(h6:x.k=6)(hy:y∈x.l)(hq:ld F y r w qs)(h2:qs.length=m2)(hz:x.size*2^(s::r).length<=34359738368):m+m2<=34359738368:=KM (h.JZ h6 hy hq h2) hz
theorem qE.Ja{nn:Nat}(h:qE F x (s::r) w wa i m v ps wr)(h6:x.k=6)(hi:x.l.length=i)(hs:ik s=some nn)(hyn:x.l[nn]?=some y)(hy:y∈x.l)(hq:ld F y r w qs)(h2:qs.length=m2)(ho:w'.ownsRow wa.heap.size 29 5 v' (m+m2) (aO bC ps++aO bC qs))(hg:wr.grownBy w' v.ownBlock):
 ld F x (s::r) w (ps++qs)/\w'.ownsRow wa.heap.size 29 5 v' (m+m2) (aO bC (ps++qs))/\Below wa.heap.size wa w':=by
 refine⟨⟨fun p hp=>?_,fun p hp=>?_,by rw[KV,h.ln,h2];exact h.JZ h6 hy hq h2,fun h5=>by omega,by
  rw[lZ h6,hs]
  dsimp only
  rw[hyn,Ke,h.fn,hq.fn,KL (by omega)]⟩,by rw[di];exact ho,h.bel.grown hg h.bel.size (bF h.own)⟩
 ·rcases KI.1 hp with hp|hp
  ·exact h.rv p hp
  ·exact hq.rv p hp
 ·rcases KI.1 hp with hp|hp
  ·exact h.sub p hp
  ·exact .part (io h6 hy) (hq.sub p hp)
end
def FY(x:aC):Prop:=∀(F:Nat->Prop) (l:List ByteArray) (c:VC) (A:Option Addr) (n cc:Nat) (w:World),(∀b,F b->b<w.heap.size)->RV F w c x->ST w A n cc l->x.size*2^l.length<=34359738368->
 Calls prog 191 #[c.val,.slice A n cc] w (CG F x l w)
theorem CH(x:aC)(F:Nat->Prop)(c:VC)(A:Option Addr)(n cc:Nat)(w:World)(h:RV F w c x)(hp:ST w A n cc []):Calls prog 191 #[c.val,.slice A n cc] w (CG F x [] w):=by
 have hn:n=0:=hp.sr.ln;subst hn;have HPS:Hid (ld F x [] w [(c,x)]):=qD (ld.one h);have BE:Hid (Below w.heap.size w (w.alloc (.cells c.arr 29))):=(Ju _ _).alloc (qL) _;have B0:Hid (aG (w.alloc (.cells c.arr 29)) w.heap.size 29 c.arr):=aG.Ii rfl;clear h hp;go_enter func191,ntmps191;go_upto_region 1 with fail
 change Code.wp _ _ _ _ (w.alloc (.cells c.arr 29));generalize (w.alloc (.cells c.arr 29))=wa at*;obtain⟨a0,a1,a2,a3,a4⟩:=aS.Ig B0.out;simp only[Jw] at a0 a1 a2 a3 a4;go_wp2_with fail;go_ret;exact⟨_,1,[(c,x)],rfl,vk bQ (L:=[(c,x)]) (aG.new _ _ _) BE.out.size (show 1<=maxLen by decide),rfl,HPS.out,BE.out.alloc BE.out.size _⟩
theorem CI:∀x,FY x:=by
 refine aC.JL fun x ih=>?_;intro F l c A n cc w hF h hp hz;cases l with
 | nil=>exact CH x F c A n cc w h hp
 | cons s r=>
  obtain⟨j0,hj0,hy0,hy1,hy2⟩:=LM dC;have hk:Hid (c.k=x.k):=h.open.k;have BE:Hid (Below w.heap.size w (w.alloc (.cells c.arr 29))):=(Ju _ _).alloc (qL) _;have B0:Hid (aG (w.alloc (.cells c.arr 29)) w.heap.size 29 c.arr):=aG.Ii rfl;have hln:=hp.sr.ln;simp only[Ks] at hln;have hlc:=hp.sr.lc;have hnz:(n:Int)<=8796093022208:=by have:=hp.sz;unfold aH at this;omega
  have HP0:=qD hp;obtain⟨b,off,s',rfl,hbw,hs,hcell⟩:=hp.sr.JH (i:=0) (by omega);obtain rfl:s=s':=by simpa using hs
  simp only[MG] at hcell;have HT:=qD hp.tail;have HIH:=qD ih;have HFH:=qD hF;have HZ:=qD hz;have cz:(cc:Int)≠0:=by omega
  have HLN:=qD hln;have i1':(0:Int)<(n:Int):=by omega
  have i2':0<n:=by omega
  have i3':(1:Int)<=(n:Int):=by omega
  have n0b:((n:Int)==0)=false:=by simp;omega
  clear hln;go_enter func191,ntmps191;go_upto_region 1 with fail
  change Code.wp _ _ _ _ (w.alloc (.cells c.arr 29));have HR0:=qD (h.keep (w':=(w.alloc (.cells c.arr 29))) fun b hb=>BE.out.block b (hF b hb));have hsz:(w.alloc (.cells c.arr 29)).heap.size=w.heap.size+1:=by simp
  generalize (w.alloc (.cells c.arr 29))=wa at*;have HSZ:=qD hsz;clear hsz;obtain⟨a0,a1,a2,a3,a4⟩:=aS.Ig B0.out;simp only[Jw] at a0 a1 a2 a3 a4;by_cases h5:c.k=5
  ·have HK5:Hid (x.k=5):=by unfold Hid;rw[<-hk.out];exact h5
   have h5b:(c.k==5)=true:=by simpa using h5
   clear h5 hk h hp ih hF hs hz;go_upto_region 4 with fail
   have hcw:=(BE.out.cell (p:=⟨b,off,none⟩) hbw).trans hcell;have lb0:=B0.out.lt;have lbb:b<wa.heap.size:=Ka hbw BE.out.size
   have KC:Hid (∀w':World,(∀g,g<wa.heap.size->w'.heap[g]?=wa.heap[g]?)->w'.cell? ⟨w.heap.size,0,none⟩=some (.int .i64 c.k)/\w'.cell? ⟨w.heap.size,1,none⟩=some (.int .i64 c.n)/\w'.cell? ⟨w.heap.size,2,none⟩=some (.string c.t)/\w'.cell? ⟨w.heap.size,3,none⟩=some (.slice c.LA c.ln c.lc)/\w'.cell? ⟨w.heap.size,4,none⟩=some (.slice c.DA c.dn c.dc)/\w'.cell? ⟨b,off,none⟩=some (.string s)):=qD fun w' hk=>by
    have p0:∀o,w'.cell? ⟨w.heap.size,o,none⟩=wa.cell? ⟨w.heap.size,o,none⟩:=fun o=>Kh (w:=wa) (a:=⟨w.heap.size,o,none⟩) (hk _ lb0);have p1:∀o,w'.cell? ⟨b,o,none⟩=wa.cell? ⟨b,o,none⟩:=fun o=>Kh (w:=wa) (a:=⟨b,o,none⟩) (hk _ lbb);exact⟨(p0 _).trans a0,(p0 _).trans a1,(p0 _).trans a2,(p0 _).trans a3,(p0 _).trans a4,(p1 _).trans hcw⟩
   have HGV:Hid (∀wq,Below wa.heap.size wa wq->Calls prog 244 #[c.val,.string s] wq (CC F x s wq)):=qD fun wq hq=>si x c s wq (HR0.out.keep fun b hb=>hq.block b (by have h1:=HFH.out b hb;have h2:=BE.out.size;omega));have hsz:=HSZ.out
   go_cut [5,6] (fun v5 v6 wx=>∃(g9:Nat) (c9:VC),v5=.pointer (some ⟨g9,0,none⟩)/\v6=.bool (eY x s).isSome/\aG wx g9 29 c9.arr/\RV F wx c9 ((eY x s).getD aC.zero)/\wa.heap.size<=g9/\Below wa.heap.size wa wx)
   case first=>
    refine Kn ?_;refine Kg (S:=(fun w'=>w'.cell? ⟨w.heap.size,0,none⟩=some (.int .i64 c.k)/\w'.cell? ⟨w.heap.size,1,none⟩=some (.int .i64 c.n)/\w'.cell? ⟨w.heap.size,2,none⟩=some (.string c.t)/\w'.cell? ⟨w.heap.size,3,none⟩=some (.slice c.LA c.ln c.lc)/\w'.cell? ⟨w.heap.size,4,none⟩=some (.slice c.DA c.dn c.dc)/\w'.cell? ⟨b,off,none⟩=some (.string s))) (by kernel_rfl) ?_ (fun hHeld=>?_)
    ·(try dsimp only);exact KC.out _ (fun g hg=>rfl)
    have B:Hid (Below wa.heap.size wa wa.drew):=qD ((Ju wa.heap.size wa).drew);generalize wa.drew=W0 at*;refine rU 0 rfl ?_
    try go_frame
    refine rU 1 rfl ?_
    try go_frame
    refine rU 2 rfl ?_
    try go_frame
    refine rU 3 rfl ?_
    try go_frame
    refine rR [4,8] ?_;refine rC (fun K hK=>?_) (rC (fun K hK=>?_) rN)
    ·go_simp;refine(HGV.out _ B.out).mono ?_;rintro e W1 ⟨c9,rfl,hr,hb⟩;have R9:=qD hr;replace B:=qD (B.out.Ih hb);clear hb hr
     (try go_wp2_with fail)
     clear hHeld;refine hK.out _ _ (KC.out _ (fun g hg=>B.out.block g hg)) fun hHeld=>?_;clear hK K
     try go_frame
     refine rU 5 rfl ?_
     try go_frame
     refine rU 6 rfl ?_
     try go_frame
     refine rU 7 rfl ?_
     try go_frame
     refine rY 8 rfl fun K hK=>?_;go_simp;have hg9:wa.heap.size<=W1.heap.size:=B.out.size;have Q9:Hid (aG (W1.alloc (.cells VC.zero.arr 29)) W1.heap.size 29 VC.zero.arr):=aG.Ii rfl;replace R9:=qD (R9.out.alloc (.cells VC.zero.arr 29));replace B:=qD (B.out.alloc B.out.size (Obj.cells VC.zero.arr 29));change K _ (W1.alloc (.cells VC.zero.arr 29));generalize W1.alloc (.cells VC.zero.arr 29)=W2 at*;generalize W1.heap.size=g9 at*;clear hHeld;refine hK.out _ _ (KC.out _ (fun g hg=>B.out.block g hg)) fun hHeld=>?_;clear hK K
     try go_frame
     refine rY 9 rfl fun K hK=>?_;obtain⟨z0,z1,z2,z3,z4⟩:=aS.Ig Q9.out;simp only[Jw] at z0 z1 z2 z3 z4;have zz:=Q9.out.frozen;have lq:=Q9.out.lt;go_simp;have R9':=qD (R9.out.keep (w':=bH W2 g9 0 c9) fun b hb=>bO (by have:=HFH.out b hb;omega));have Q9':=qD (Q9.out.putV c9);have B':=qD (af B.out hg9 0 c9);clear z0 z1 z2 z3 z4 zz lq R9 Q9 B;have R9:=R9';have Q9:=Q9';have B:=B';clear R9' Q9' B';change K _ (bH W2 g9 0 c9);generalize bH W2 g9 0 c9=W3 at*;clear hHeld;refine hK.out _ _ (KC.out _ (fun g hg=>B.out.block g hg)) fun hHeld=>?_;clear hK K
     try go_frame
     refine rU 10 rfl ?_
     try go_frame
     refine rD ?_ _;refine Kq ?_;go_wp2_with fail;go_meet;exact⟨g9,c9,rfl,rfl,Q9.out,R9.out,by omega,B.out⟩
    ·go_simp;have hg9:wa.heap.size<=W0.heap.size:=B.out.size;have Q9:Hid (aG (W0.alloc (.cells VC.zero.arr 29)) W0.heap.size 29 VC.zero.arr):=aG.Ii rfl;replace B:=qD (B.out.alloc B.out.size (Obj.cells VC.zero.arr 29));change K _ (W0.alloc (.cells VC.zero.arr 29));generalize W0.alloc (.cells VC.zero.arr 29)=W1 at*;generalize W0.heap.size=g9 at*;clear hHeld;refine hK.out _ _ (KC.out _ (fun g hg=>B.out.block g hg)) fun hHeld=>?_;clear hK K
     try go_frame
     refine rY 4 rfl fun K hK=>?_;go_simp;refine(HGV.out _ B.out).mono ?_;rintro e W2 ⟨c9,rfl,hr,hb⟩;have R9:=qD hr;replace Q9:=qD (Q9.out.step hb);replace B:=qD (B.out.Ih hb);clear hb hr
     (try go_wp2_with fail)
     clear hHeld;refine hK.out _ _ (KC.out _ (fun g hg=>B.out.block g hg)) fun hHeld=>?_;clear hK K
     try go_frame
     refine rU 5 rfl ?_
     try go_frame
     refine rU 6 rfl ?_
     try go_frame
     refine rU 7 rfl ?_
     try go_frame
     refine rY 9 rfl fun K hK=>?_;obtain⟨z0,z1,z2,z3,z4⟩:=aS.Ig Q9.out;simp only[Jw] at z0 z1 z2 z3 z4;have zz:=Q9.out.frozen;have lq:=Q9.out.lt;go_simp;have R9':=qD (R9.out.keep (w':=bH W2 g9 0 c9) fun b hb=>bO (by have:=HFH.out b hb;omega));have Q9':=qD (Q9.out.putV c9);have B':=qD (af B.out hg9 0 c9);clear z0 z1 z2 z3 z4 zz lq R9 Q9 B;have R9:=R9';have Q9:=Q9';have B:=B';clear R9' Q9' B';change K _ (bH W2 g9 0 c9);generalize bH W2 g9 0 c9=W3 at*;clear hHeld;refine hK.out _ _ (KC.out _ (fun g hg=>B.out.block g hg)) fun hHeld=>?_;clear hK K
     try go_frame
     refine rU 10 rfl ?_
     try go_frame
     refine rD ?_ _;refine Kq ?_;go_wp2_with fail;go_meet;exact⟨g9,c9,rfl,rfl,Q9.out,R9.out,by omega,B.out⟩
   case rest=>
    obtain⟨g9,c9,rfl,rfl,hg9,hr9,hl9,hb9⟩:=hcut;have BE2:=qD (BE.out.Ih hb9);have G9:=qD hg9;have GR:=qD hr9;clear HGV KC a0 a1 a2 a3 a4 hcw B0 BE HR0 hsz;generalize wc=w2 at*;cases hg:eY x s with
    | none=>
     have HR:Hid (ld F x (s::r) w []):=qD (ld.none (by have:=HK5.out;omega) hg);clear hg hg9 hr9 hb9;go_wp2_with fail;go_ret;exact⟨_,0,[],rfl,bX _ _ _ _,rfl,HR.out,BE2.out⟩
    | some y=>
     rw[hg] at GR;have HGY:=qD hg;clear hg hg9 hr9 hb9;go_upto_region 6 with fail
     obtain⟨g0,g1,g2,g3,g4⟩:=aS.Ig G9.out;simp only[Jw] at g0 g1 g2 g3 g4;have G9L:=qD G9.out.lt
     have KS:Hid (∀w':World,Below w2.heap.size w2 w'->w'.cell? ⟨g9,0,none⟩=some (.int .i64 c9.k)/\w'.cell? ⟨g9,1,none⟩=some (.int .i64 c9.n)/\w'.cell? ⟨g9,2,none⟩=some (.string c9.t)/\w'.cell? ⟨g9,3,none⟩=some (.slice c9.LA c9.ln c9.lc)/\w'.cell? ⟨g9,4,none⟩=some (.slice c9.DA c9.dn c9.dc)):=qD fun w' hk=>by
      have p0:∀o,w'.cell? ⟨g9,o,none⟩=w2.cell? ⟨g9,o,none⟩:=fun o=>Kh (w:=w2) (a:=⟨g9,o,none⟩) (hk.block g9 G9L.out);exact⟨(p0 _).trans g0,(p0 _).trans g1,(p0 _).trans g2,(p0 _).trans g3,(p0 _).trans g4⟩
     have B:=qD ((Ju w2.heap.size w2).drewN 1)
     have HYZ:Hid (y.size*2^r.length<=34359738368):=qD (by
      have h1:=HZ.out
      have h2:y.size*2^r.length<=x.size*2^(s::r).length:=Li (Oj (dB (pI HGY.out))) (MA (by omega) (by simp))
      omega)
     by_cases hc1:cc=1
     ·subst hc1;obtain rfl:n=1:=by omega
      have HT2:=HT.out;rw[Kb rfl,Nf] at HT2;replace HT2:=qD HT2;have HRK:=qD fun(wq:World) (hq:Below w2.heap.size w2 wq)=>HIH.out y (pI HGY.out) F r c9 _ _ _ wq (fun b hb=>by have h1:=HFH.out b hb;have h2:=BE2.out.size;have h3:=hq.size;omega) (GR.out.step hq) ((HT2.out.step BE2.out).step hq) HYZ.out;clear HT;refine Kn ?_;refine Kg (S:=(fun w'=>w'.cell? ⟨g9,0,none⟩=some (.int .i64 c9.k)/\w'.cell? ⟨g9,1,none⟩=some (.int .i64 c9.n)/\w'.cell? ⟨g9,2,none⟩=some (.string c9.t)/\w'.cell? ⟨g9,3,none⟩=some (.slice c9.LA c9.ln c9.lc)/\w'.cell? ⟨g9,4,none⟩=some (.slice c9.DA c9.dn c9.dc))) (by kernel_rfl) ?_ (fun hHeld=>?_)
      ·(try dsimp only);exact KS.out _ B.out
      refine rU 0 rfl ?_
      try go_frame
      refine rU 1 rfl ?_
      try go_frame
      refine rU 2 rfl ?_
      try go_frame
      refine rY 3 rfl fun K hK=>?_;go_simp;refine(HRK.out _ B.out).mono ?_;rintro e W1 ⟨v1,m1,qs,rfl,ho,hlq,hps,hb⟩;have HOW:=qD (iq (BE2.out.Ih B.out).size ho);have HPS:=qD (ld.some HK5.out HGY.out (hps.back (BE2.out.Ih B.out) HFH.out));have HLQ:=qD hlq;replace B:=qD (B.out.Ih hb);clear hb ho hlq hps
      (try go_wp2_with fail)
      clear hHeld;refine hK.out _ _ (KS.out _ B.out) fun hHeld=>?_;clear hK K
      try go_frame
      refine rU 4 rfl ?_
      try go_frame
      refine rD ?_ _;refine Kq ?_;clear hHeld
      all_goals
       go_wp2_with fail;go_ret;exact⟨v1,m1,qs,rfl,HOW.out,HLQ.out,HPS.out,BE2.out.Ih B.out⟩
     ·have HT2:=HT.out;rw[KU hc1] at HT2;replace HT2:=qD HT2;have HRK:=qD fun(wq:World) (hq:Below w2.heap.size w2 wq)=>HIH.out y (pI HGY.out) F r c9 _ _ _ wq (fun b hb=>by have h1:=HFH.out b hb;have h2:=BE2.out.size;have h3:=hq.size;omega) (GR.out.step hq) ((HT2.out.step BE2.out).step hq) HYZ.out;clear HT;refine Kn ?_;refine Kg (S:=(fun w'=>w'.cell? ⟨g9,0,none⟩=some (.int .i64 c9.k)/\w'.cell? ⟨g9,1,none⟩=some (.int .i64 c9.n)/\w'.cell? ⟨g9,2,none⟩=some (.string c9.t)/\w'.cell? ⟨g9,3,none⟩=some (.slice c9.LA c9.ln c9.lc)/\w'.cell? ⟨g9,4,none⟩=some (.slice c9.DA c9.dn c9.dc))) (by kernel_rfl) ?_ (fun hHeld=>?_)
      ·(try dsimp only);exact KS.out _ B.out
      refine rU 0 rfl ?_
      try go_frame
      refine rU 1 rfl ?_
      try go_frame
      refine rU 2 rfl ?_
      try go_frame
      refine rY 3 rfl fun K hK=>?_;go_simp;refine(HRK.out _ B.out).mono ?_;rintro e W1 ⟨v1,m1,qs,rfl,ho,hlq,hps,hb⟩;have HOW:=qD (iq (BE2.out.Ih B.out).size ho);have HPS:=qD (ld.some HK5.out HGY.out (hps.back (BE2.out.Ih B.out) HFH.out));have HLQ:=qD hlq;replace B:=qD (B.out.Ih hb);clear hb ho hlq hps
      (try go_wp2_with fail)
      clear hHeld;refine hK.out _ _ (KS.out _ B.out) fun hHeld=>?_;clear hK K
      try go_frame
      refine rU 4 rfl ?_
      try go_frame
      refine rD ?_ _;refine Kq ?_;clear hHeld
      all_goals
       go_wp2_with fail;go_ret;exact⟨v1,m1,qs,rfl,HOW.out,HLQ.out,HPS.out,BE2.out.Ih B.out⟩
  have h5b:(c.k==5)=false:=by simpa using h5
  by_cases h6:c.k=6
  ·have HK6:Hid (x.k=6):=by unfold Hid;rw[<-hk.out];exact h6
   have h6b:(c.k != 6)=false:=by simpa using h6
   obtain⟨ps0,hps0,hsl⟩:=RV.sl h;have HSL:=qD hsl;have HPX:=qD hps0
   have HLL:Hid (x.l.length=c.ln):=by
    have h1:=hsl.sr.ln;rw[<-hps0,KX];exact qD h1.symm
   have hlz:(c.ln:Int)<=1759218604441:=by have:=hsl.sz;unfold aH at this;omega
   have hcw:=(BE.out.cell (p:=⟨b,off,none⟩) hbw).trans hcell;have HCW:=qD hcw;have lbb:=qD (Ka hbw BE.out.size)
   have HEL:Hid (∀i,i<c.ln->∃(eb eo:Nat) (p:PV),c.LA=some ⟨eb,eo,none⟩/\eb<w.heap.size/\aS w eb (eo+i*5) p.1/\RV F w p.1 p.2/\x.l[i]?=some p.2):=qD fun i hi=>by
    have hi0:i<ps0.length:=by rw[<-HSL.out.sr.ln];exact hi
    have hq:ps0[i]?=some ps0[i]:=Jv hi0;obtain⟨eb,eo,e,hFb,hva,hrv⟩:=HSL.out.Iq hq;exact⟨eb,eo,ps0[i],e,HFH.out eb hFb,hva,hrv,by rw[<-HPX.out,KP,hq];rfl⟩
   clear h5 h6 h hp ih hF hs hz hk hcell hps0 hsl hcw HR0;go_upto_region 12 with fail
   go_loopw [7,8] (fun v7 v8 wr=>∃(i m:Nat) (ps:List PV),i<=c.ln/\v8=.int .i64 i/\qE F x (s::r) w wa i m v7 ps wr) (fun _ v8 _=>c.ln-(intOf v8).toNat)
   ·exact⟨0,0,[],KD _,rfl,bX _ _ _ _,rfl,Ju _ _,by simp,by simp,KD _,by simp⟩
   case round=>
    obtain⟨i,m,ps,hi,rfl,hI⟩:=hrel;have HI:=qD hI;have D0:=qD (B0.out.step hI.bel);clear hI a0 a1 a2 a3 a4;obtain⟨a0,a1,a2,a3,a4⟩:=aS.Ig D0.out;simp only[Jw] at a0 a1 a2 a3 a4;have cl:∀{x:Addr} {v:Value},x.block<w.heap.size->w.cell? x=some v->wr.cell? x=some v:=fun hl hc=>((BE.out.Ih HI.out.bel).cell hl).trans hc;by_cases hlt:i<c.ln
    ·obtain⟨eb,eo,p,hA,hlb,hva,hrv,hxi⟩:=HEL.out i hlt;have HXI:=qD hxi;have HRV:=qD hrv;obtain⟨e0,e1,e2,e3,e4⟩:=hva;replace e0:=cl hlb e0;replace e1:=cl hlb e1;replace e2:=cl hlb e2;replace e3:=cl hlb e3;replace e4:=cl hlb e4;rw[hA] at a3;have q0:(0:Int)<=(i:Int):=by omega
     have q1:(i:Int)<(c.ln:Int):=by omega
     clear cl hxi hrv hA;by_cases hp5:p.1.k=5
     ·have HY5:Hid (p.2.k=5):=by unfold Hid;rw[<-HRV.out.open.k];exact hp5
      have hpb:(p.1.k==5)=true:=by simpa using hp5
      have HPP:Hid (p.2∈x.parts):=qD (io HK6.out (Jx HXI.out));have HPZ:Hid (p.2.size*2^(s::r).length<=34359738368):=qD (KM (Ki _ (Oj (dB HPP.out))) HZ.out);have HB:=qD (BE.out.Ih HI.out.bel);clear hp5;go_wp2_with fail;refine(HIH.out p.2 HPP.out F (s::r) p.1 _ _ _ wr (fun b hb=>Ka (HFH.out b hb) HB.out.size) (HRV.out.keep fun b hb=>HB.out.block b (HFH.out b hb)) (HP0.out.step HB.out) HPZ.out).mono ?_;rintro e w1 ⟨v1,m1,qs,rfl,ho,hlq,hps,hb⟩;have HPS:=qD (hps.back HB.out HFH.out);replace HI:=qD (HI.out.step hb);have HLQ:=qD hlq;obtain⟨A1,c1,rfl,hsr⟩:=SR.Ik bQ ho hlq;have HSR:=qD (hsr.reads bQ (by decide));have hsm:m+m1<=34359738368:=HI.out.JY HXI.out HK6.out HPS.out HY5.out (by simp) HLQ.out HZ.out;have hlo:wa.heap.size<=w1.heap.size:=HI.out.bel.size;clear hb ho hlq hps hsr a0 a1 a2 a3 a4 e0 e1 e2 e3 e4;go_wp2_with (at_builtin;refine aJ _ rfl _ _ 26 rfl wa.heap.size 29 j0 VC.zero.val 5 80 Kv hj0 hy0 hy1 hy2 rfl (by decide) u7 m (aO bC ps) rfl HI.out.own _ _ m1 _ (aO bC qs) rfl HSR.out (fy cG qs) (by unfold maxLen;omega) (by omega) hlo ?_);intro v7 w3 hown hgr hat;have HN:=qD (HI.out.add HXI.out HK6.out HPS.out HY5.out (by simp) HLQ.out hown hgr);clear hown hgr hat;go_wp2_with fail;go_roundw
      ·exact⟨i+1,m+m1,ps++qs,by omega,by go_num,HN.out⟩
      ·simp[intOf];omega
     ·have hpb:(p.1.k==5)=false:=by simpa using hp5
      have HN:=qD (HI.out.skip HXI.out (by rw[<-HRV.out.open.k];exact hp5));clear hp5;go_wp2_with fail;go_roundw
      ·exact⟨i+1,m,ps,by omega,by go_num,HN.out⟩
      ·simp[intOf];omega
    ·obtain rfl:i=c.ln:=by omega
     have e9:wr.cell? ⟨b,off,none⟩=some (.string s):=(HI.out.bel.cell lbb.out).trans HCW.out;clear cl hlt;go_wp2_with fail;refine(uZ s wr).mono ?_;rintro e w1 ⟨nn,bb,rfl,hnn,hsn,hb⟩;have HSN0:=qD hsn;clear hsn;replace HI:=qD (HI.out.step hb);replace D0:=qD (D0.out.step hb);clear hb a0 a1 a2 a3 a4 e9;obtain⟨a0,a1,a2,a3,a4⟩:=aS.Ig D0.out;simp only[Jw] at a0 a1 a2 a3 a4;cases bb
     ·go_wp2_with fail;go_ret;exact⟨u7,m,ps,rfl,iq BE.out.size HI.out.own,HI.out.ln,HI.out.fin HK6.out HLL.out (fun n hn=>by have k:=HSN0.out;rw[hn] at k;cases k),BE.out.Ih HI.out.bel⟩
     have HSN:Hid (ik s=some nn):=HSN0.out;clear HSN0;by_cases hnl:nn<c.ln
     ·have q1:(nn:Int)<(c.ln:Int):=by omega
      have q0:(0:Int)<=(nn:Int):=by omega
      obtain⟨eb,eo,p,hA,hlb,hva,hrv,hxi⟩:=HEL.out nn hnl;have HRV:=qD hrv;have HPY:Hid (p.2∈x.l):=qD (Jx hxi);have HYN:=qD hxi;clear hxi;have cl:∀{x:Addr} {v:Value},x.block<w.heap.size->w.cell? x=some v->w1.cell? x=some v:=fun hl hc=>((BE.out.Ih HI.out.bel).cell hl).trans hc;have hva0:=qD hva;obtain⟨e0,e1,e2,e3,e4⟩:=hva;replace e0:=cl hlb e0;replace e1:=cl hlb e1;replace e2:=cl hlb e2;replace e3:=cl hlb e3;replace e4:=cl hlb e4;rw[hA] at a3;have leb:eb<w1.heap.size:=Ka hlb (BE.out.Ih HI.out.bel).size;go_upto_region 18 with fail
      have KS:Hid (∀w',Below w1.heap.size w1 w'->(fun w'=>w'.cell? ⟨w.heap.size,3,none⟩=some (.slice (some ⟨eb,eo,none⟩) c.ln c.lc)/\w'.cell? ⟨eb,eo+nn*5,none⟩=some (.int .i64 p.1.k)/\w'.cell? ⟨eb,eo+nn*5+1,none⟩=some (.int .i64 p.1.n)/\w'.cell? ⟨eb,eo+nn*5+2,none⟩=some (.string p.1.t)/\w'.cell? ⟨eb,eo+nn*5+3,none⟩=some (.slice p.1.LA p.1.ln p.1.lc)/\w'.cell? ⟨eb,eo+nn*5+4,none⟩=some (.slice p.1.DA p.1.dn p.1.dc)) w'):=qD fun w' hk=>by
       have p0:∀o,w'.cell? ⟨w.heap.size,o,none⟩=w1.cell? ⟨w.heap.size,o,none⟩:=fun o=>Kh (w:=w1) (a:=⟨w.heap.size,o,none⟩) (hk.block _ D0.out.lt);have p1:∀o,w'.cell? ⟨eb,o,none⟩=w1.cell? ⟨eb,o,none⟩:=fun o=>Kh (w:=w1) (a:=⟨eb,o,none⟩) (hk.block _ leb);exact⟨(p0 _).trans a3,(p1 _).trans e0,(p1 _).trans e1,(p1 _).trans e2,(p1 _).trans e3,(p1 _).trans e4⟩
      have KS2:Hid (∀w',Below wa.heap.size wa w'->(fun w'=>w'.cell? ⟨w.heap.size,3,none⟩=some (.slice (some ⟨eb,eo,none⟩) c.ln c.lc)/\w'.cell? ⟨eb,eo+nn*5,none⟩=some (.int .i64 p.1.k)/\w'.cell? ⟨eb,eo+nn*5+1,none⟩=some (.int .i64 p.1.n)/\w'.cell? ⟨eb,eo+nn*5+2,none⟩=some (.string p.1.t)/\w'.cell? ⟨eb,eo+nn*5+3,none⟩=some (.slice p.1.LA p.1.ln p.1.lc)/\w'.cell? ⟨eb,eo+nn*5+4,none⟩=some (.slice p.1.DA p.1.dn p.1.dc)) w'):=qD fun w' hk=>by
       have hbb:=BE.out.Ih hk;have q3:=aS.Ig (B0.out.step hk);have p1:∀o,w'.cell? ⟨eb,o,none⟩=w.cell? ⟨eb,o,none⟩:=fun o=>Kh (w:=w) (a:=⟨eb,o,none⟩) (hbb.block _ hlb);obtain⟨f0,f1,f2,f3,f4⟩:=hva0.out;have q33:=q3.2.2.2.1;simp only[Jw] at q33;rw[hA] at q33;exact⟨q33,(p1 _).trans f0,(p1 _).trans f1,(p1 _).trans f2,(p1 _).trans f3,(p1 _).trans f4⟩
      have HYZ:Hid (p.2.size*2^r.length<=34359738368):=qD (by
       have h1:=HZ.out
       have h2:p.2.size*2^r.length<=x.size*2^(s::r).length:=Li (Oj (dB (io HK6.out HPY.out))) (MA (by omega) (by simp))
       omega)
      have HB:=qD (BE.out.Ih HI.out.bel);have B:=qD ((Ju w1.heap.size w1).drewN 1);clear a0 a1 a2 a3 a4 e0 e1 e2 e3 e4 cl;by_cases hc1:cc=1
      ·subst hc1;obtain rfl:n=1:=by omega
       have HT2:=HT.out;rw[Kb rfl,Nf] at HT2;replace HT2:=qD HT2;have HRK:=qD fun(wq:World) (hq:Below w1.heap.size w1 wq)=>HIH.out p.2 (io HK6.out HPY.out) F r p.1 _ _ _ wq (fun b hb=>by have h1:=HFH.out b hb;have h2:=HB.out.size;have h3:=hq.size;omega) ((HRV.out.keep fun b hb=>HB.out.block b (HFH.out b hb)).step hq) ((HT2.out.step HB.out).step hq) HYZ.out;clear HT;refine Kn ?_;refine Kg (S:=(fun w'=>w'.cell? ⟨w.heap.size,3,none⟩=some (.slice (some ⟨eb,eo,none⟩) c.ln c.lc)/\w'.cell? ⟨eb,eo+nn*5,none⟩=some (.int .i64 p.1.k)/\w'.cell? ⟨eb,eo+nn*5+1,none⟩=some (.int .i64 p.1.n)/\w'.cell? ⟨eb,eo+nn*5+2,none⟩=some (.string p.1.t)/\w'.cell? ⟨eb,eo+nn*5+3,none⟩=some (.slice p.1.LA p.1.ln p.1.lc)/\w'.cell? ⟨eb,eo+nn*5+4,none⟩=some (.slice p.1.DA p.1.dn p.1.dc))) (by kernel_rfl) ?_ (fun hHeld=>?_)
       ·(try dsimp only);exact KS.out _ B.out
       refine rU 0 rfl ?_
       try go_frame
       refine rU 1 rfl ?_
       try go_frame
       refine rU 2 rfl ?_
       try go_frame
       refine rU 3 rfl ?_
       try go_frame
       refine rU 4 rfl ?_
       try go_frame
       refine rU 5 rfl ?_
       try go_frame
       refine rU 6 rfl ?_
       try go_frame
       refine rU 7 rfl ?_
       try go_frame
       refine rY 8 rfl fun K hK=>?_;go_simp;refine(HRK.out _ B.out).mono ?_;rintro e W1 ⟨v1,m1,qs,rfl,ho,hlq,hps,hb⟩;have HPS:=qD (hps.back (BE.out.Ih (HI.out.bel.Ih B.out)) HFH.out);replace B:=qD (B.out.Ih hb);have HOQ:=qD ho;have HLQ:=qD hlq;clear hb ho hlq hps
       (try go_wp2_with fail)
       clear hHeld;refine hK.out _ _ (KS.out _ B.out) fun hHeld=>?_;clear hK K
       try go_frame
       refine rY 9 rfl fun K hK=>?_;obtain⟨A1,c1,rfl,hsr⟩:=SR.Ik bQ HOQ.out HLQ.out;have HSR:=qD (hsr.reads bQ (by decide));have HI2:=qD (HI.out.step B.out);have hsm:m+m1<=34359738368:=HI2.out.JM HK6.out HPY.out HPS.out HLQ.out HZ.out;refine eU _ (.tmp 73) (.tmp 81) 26 rfl wa.heap.size 29 j0 VC.zero.val 5 80 Kv hj0 hy0 hy1 hy2 rfl (by decide) u7 m (aO bC ps) rfl HI2.out.own _ (A1) m1 c1 (aO bC qs) rfl HSR.out (fy cG qs) (by unfold maxLen;omega) (by omega) (KM HI2.out.bel.size (qL)) ?_;intro v7 W2 hown hgr hat;have HIN:=qD (HI2.out.Ja HK6.out HLL.out HSN.out HYN.out HPY.out HPS.out HLQ.out hown hgr);clear hown hgr hat hsr;clear hHeld;refine hK.out _ _ (KS2.out _ HIN.out.2.2) fun hHeld=>?_;clear hK K
       try go_frame
       refine rU 10 rfl ?_
       try go_frame
       refine rD ?_ _;refine Kq ?_;clear hHeld
       all_goals
        go_wp2_with fail;go_ret;exact⟨v7,m+m1,ps++qs,rfl,iq BE.out.size HIN.out.2.1,by rw[KV,HI.out.ln,HLQ.out],HIN.out.1,BE.out.Ih HIN.out.2.2⟩
      ·have HT2:=HT.out;rw[KU hc1] at HT2;replace HT2:=qD HT2;have HRK:=qD fun(wq:World) (hq:Below w1.heap.size w1 wq)=>HIH.out p.2 (io HK6.out HPY.out) F r p.1 _ _ _ wq (fun b hb=>by have h1:=HFH.out b hb;have h2:=HB.out.size;have h3:=hq.size;omega) ((HRV.out.keep fun b hb=>HB.out.block b (HFH.out b hb)).step hq) ((HT2.out.step HB.out).step hq) HYZ.out;clear HT;refine Kn ?_;refine Kg (S:=(fun w'=>w'.cell? ⟨w.heap.size,3,none⟩=some (.slice (some ⟨eb,eo,none⟩) c.ln c.lc)/\w'.cell? ⟨eb,eo+nn*5,none⟩=some (.int .i64 p.1.k)/\w'.cell? ⟨eb,eo+nn*5+1,none⟩=some (.int .i64 p.1.n)/\w'.cell? ⟨eb,eo+nn*5+2,none⟩=some (.string p.1.t)/\w'.cell? ⟨eb,eo+nn*5+3,none⟩=some (.slice p.1.LA p.1.ln p.1.lc)/\w'.cell? ⟨eb,eo+nn*5+4,none⟩=some (.slice p.1.DA p.1.dn p.1.dc))) (by kernel_rfl) ?_ (fun hHeld=>?_)
       ·(try dsimp only);exact KS.out _ B.out
       refine rU 0 rfl ?_
       try go_frame
       refine rU 1 rfl ?_
       try go_frame
       refine rU 2 rfl ?_
       try go_frame
       refine rU 3 rfl ?_
       try go_frame
       refine rU 4 rfl ?_
       try go_frame
       refine rU 5 rfl ?_
       try go_frame
       refine rU 6 rfl ?_
       try go_frame
       refine rU 7 rfl ?_
       try go_frame
       refine rY 8 rfl fun K hK=>?_;go_simp;refine(HRK.out _ B.out).mono ?_;rintro e W1 ⟨v1,m1,qs,rfl,ho,hlq,hps,hb⟩;have HPS:=qD (hps.back (BE.out.Ih (HI.out.bel.Ih B.out)) HFH.out);replace B:=qD (B.out.Ih hb);have HOQ:=qD ho;have HLQ:=qD hlq;clear hb ho hlq hps
       (try go_wp2_with fail)
       clear hHeld;refine hK.out _ _ (KS.out _ B.out) fun hHeld=>?_;clear hK K
       try go_frame
       refine rY 9 rfl fun K hK=>?_;obtain⟨A1,c1,rfl,hsr⟩:=SR.Ik bQ HOQ.out HLQ.out;have HSR:=qD (hsr.reads bQ (by decide));have HI2:=qD (HI.out.step B.out);have hsm:m+m1<=34359738368:=HI2.out.JM HK6.out HPY.out HPS.out HLQ.out HZ.out;refine eU _ (.tmp 73) (.tmp 81) 26 rfl wa.heap.size 29 j0 VC.zero.val 5 80 Kv hj0 hy0 hy1 hy2 rfl (by decide) u7 m (aO bC ps) rfl HI2.out.own _ (A1) m1 c1 (aO bC qs) rfl HSR.out (fy cG qs) (by unfold maxLen;omega) (by omega) (KM HI2.out.bel.size (qL)) ?_;intro v7 W2 hown hgr hat;have HIN:=qD (HI2.out.Ja HK6.out HLL.out HSN.out HYN.out HPY.out HPS.out HLQ.out hown hgr);clear hown hgr hat hsr;clear hHeld;refine hK.out _ _ (KS2.out _ HIN.out.2.2) fun hHeld=>?_;clear hK K
       try go_frame
       refine rU 10 rfl ?_
       try go_frame
       refine rD ?_ _;refine Kq ?_;clear hHeld
       all_goals
        go_wp2_with fail;go_ret;exact⟨v7,m+m1,ps++qs,rfl,iq BE.out.size HIN.out.2.1,by rw[KV,HI.out.ln,HLQ.out],HIN.out.1,BE.out.Ih HIN.out.2.2⟩
     ·have q1:¬(nn:Int)<(c.ln:Int):=by omega
      go_wp2_with fail;go_ret;exact⟨u7,m,ps,rfl,iq BE.out.size HI.out.own,HI.out.ln,HI.out.fin HK6.out HLL.out (fun n hn=>by have k:=HSN.out;rw[hn] at k;injection k with k;subst k;exact List.getElem?_eq_none (by rw[HLL.out];omega)),BE.out.Ih HI.out.bel⟩
  ·have HR:Hid (ld F x (s::r) w []):=qD (ld.none (by rw[<-hk.out];exact h6) (rF s (by rw[<-hk.out];exact h5)));have h6b:(c.k != 6)=true:=by simpa using h6
   clear h5 h6 hk h hp ih hF hs hz;go_wp2_with fail;go_ret;exact⟨_,0,[],rfl,bX _ _ _ _,rfl,HR.out,BE.out⟩
theorem SR.Iq{w:World}{A:Option Addr}{n c:Nat}{ps:List PV}(h:SR 5 bC w A n c ps){i:Nat}{p:PV}(hi:ps[i]?=some p):∃b off,A=some ⟨b,off,none⟩/\b<w.heap.size/\aS w b (off+i*5) p.1:=by
 have hn:0<n:=by have:=(KF.1 hi).1;have:=h.ln;omega
 obtain⟨b,off,e,hb,hel⟩:=h.el hn;exact⟨b,off,e,hb,lP fun j v hj=>hel i p hi j v hj⟩
theorem nK{a:Nat}{w:World}(h:a<=w.heap.size)(o:Obj):a<=(w.alloc o).heap.size:=by simp;omega
end
theorem cN.size{x y:aC}(h:cN y x):y.size<=x.size:=by
 induction h with
 | refl=>exact qL
 | part hz _ ih=>exact KM ih (Oj (dB hz))
structure FZ(F:Nat->Prop)(x:aC)(zs:List aC)(w:World)(ps:List PV):Prop where
 rv:∀p∈ps,RV F w p.1 p.2
 sub:∀p∈ps,cN p.2 x\/p.2=aC.zero
 fn:ps.map Prod.snd=zs
section
variable {l:List ByteArray} {b c K n size:Nat} {x y:Int} {w w':World} {A:Option Addr} {F:Nat -> Prop}
def sj(F:Nat->Prop)(x:aC)(zs:List aC)(K:Nat)(w:World)(e:Ending)(w':World):Prop:=
 ∃A m c ps,e=.returned (.slice A m c)/\SR 5 bC w' A m c ps/\FZ F x zs w ps/\m<=K/\Below w.heap.size w w'
theorem FZ.back{F:Nat->Prop}{x:aC}{zs:List aC}{w w':World}{ps:List PV}(h:FZ F x zs w' ps)(hb:Below w.heap.size w w')(hF:∀b,F b->b<w.heap.size):FZ F x zs w ps:=
 ⟨fun p hp=>(h.rv p hp).keep fun b hFb=>(hb.block b (hF b hFb)).symm,h.sub,h.fn⟩
noncomputable def gN(x:aC)(l:List ByteArray):List aC:=if fT x l=[] then [aC.zero] else fT x l
theorem ld.lf{F:Nat->Prop}{x:aC}{l:List ByteArray}{w:World}{ps:List PV}(h:ld F x l w ps)(hne:ps≠[]):FZ F x (gN x l) w ps:=
 ⟨h.rv,fun p hp=>.inl (h.sub p hp),by
  rw[gN,KU]
  ·exact h.fn
  ·rw[<-h.fn]
   simpa using hne⟩
theorem ld.Jp{F:Nat->Prop}{x:aC}{l:List ByteArray}{w:World}(h:ld F x l w []):FZ F x (gN x l) w [(VC.zero,aC.zero)]:=
 ⟨fun p hp=>by rw[Kf.1 hp];exact RV.zero,fun p hp=>by rw[Kf.1 hp];exact .inr rfl,by
  rw[gN,Kb (by rw[<-h.fn];rfl)]
  rfl⟩
theorem ED(x:aC)(l:List ByteArray):1<=x.size*2^l.length:=Nat.mul_pos (dv x) (Nat.pow_pos (by omega))
theorem nL(x:aC)(F:Nat->Prop)(l:List ByteArray)(c:VC)(A:Option Addr)(n cc:Nat)(w:World)(hF:∀b,F b->b<w.heap.size)(h:RV F w c x)(hp:ST w A n cc l)(hz:x.size*2^l.length<=34359738368):
 Calls prog 137 #[c.val,.slice A n cc] w (sj F x (gN x l) (x.size*2^l.length) w):=by
 have BE:Hid (Below w.heap.size w (w.alloc (.cells c.arr 29))):=(Ju _ _).alloc (qL) _;have B0:Hid (aG (w.alloc (.cells c.arr 29)) w.heap.size 29 c.arr):=aG.Ii rfl;have HFH:=qD hF;have HPA:=qD (CI x F l c A n cc (w.alloc (.cells c.arr 29)) (fun b hb=>Ka (hF b hb) BE.out.size) (h.alloc _) (hp.step BE.out) hz);clear h hp hF hz;go_enter func137,ntmps137;go_upto_region 1 with fail
 change Code.wp _ _ _ _ (w.alloc (.cells c.arr 29));generalize w.alloc (.cells c.arr 29)=wa at*;obtain⟨a0,a1,a2,a3,a4⟩:=aS.Ig B0.out;simp only[Jw] at a0 a1 a2 a3 a4;go_wp2_with fail;refine HPA.out.mono ?_;rintro e w1 ⟨v,m,ps,rfl,ho,hl,hps,hb⟩;obtain⟨A1,c1,rfl,hsr⟩:=SR.Ik bQ ho hl;have HPS:=qD (hps.back BE.out HFH.out);have HSR:=qD hsr;have HL:=qD hl;have HB:=qD (BE.out.Ih hb);clear ho hl hps hb hsr a0 a1 a2 a3 a4 HPA;rcases LH m with hm|hm
 ·subst hm;have HE:Hid (ps=[]):=qD (KN HL.out);rw[HE.out] at HPS;go_wp2_with fail;go_ret
  exact⟨_,1,1,[(VC.zero,aC.zero)],rfl,⟨rfl,qL,fun _=>⟨_,0,rfl,(aG.Ii rfl).lt,fun i a hi j v hj=>by
   cases i with
   | zero=>
    simp at hi
    subst hi
    have hq:=ao w1 29 (bC (VC.zero,aC.zero)) j v hj
    rw[dM] at hq
    rw[show 0+0*5+j=0+j by omega]
    exact hq
     | succ i=>simp at hi⟩⟩,HPS.out.Jp,ED x l,HB.out.alloc HB.out.size _⟩
 ·have hmb:((m:Int)==0)=false:=by simp;omega
  have HNE:Hid (ps≠[]):=qD (fun e=>by have h1:=HL.out;rw[e] at h1;simp at h1;omega);go_wp2_with fail;go_ret;exact⟨_,m,_,ps,rfl,HSR.out,HPS.out.lf HNE.out,by rw[<-HL.out];exact HPS.out.cnt,HB.out⟩
def fB(y:aC):List aC:=y::(if y.k=6 then y.l else [])
theorem mV{x y:aC}(h:cN y x\/y=aC.zero):(fB y).length<=x.size:=by
 have hs:(fB y).length<=y.size:=by
  unfold fB;by_cases h6:y.k=6
  ·rw[Kb h6,uc h6]
   have:∀l:List aC,l.length<=bN l:=by
    intro l
    induction l with
    | nil=>exact qL
    | cons a r ih=>have:=dv a;simp only[Ks,bN];omega
   have:=this y.l;simp only[Ks];omega
  ·rw[KU h6];exact dv y
 rcases h with h|h
 ·exact KM hs h.size
 ·subst h;exact dv x
theorem yf{K:Nat}:∀{zs:List aC},(∀y∈zs,(fB y).length<=K)->(zs.flatMap fB).length<=zs.length*K:=by
 intro zs
 induction zs with
 | nil=>intro _;simp
 | cons a r ih=>
  intro h;have h1:=h a (by simp);have h2:=ih fun y hy=>h y (by simp[hy]);simp only[OO,KV,Ks,Lk];omega
end
structure Fa(F:Nat->Prop)(x:aC)(w wa:World)(m:Nat)(v:Value)(ps:List PV)(wr:World):Prop where
 own:wr.ownsRow wa.heap.size 29 5 v m (aO bC ps)
 ln:ps.length=m
 bel:Below wa.heap.size wa wr
 rv:∀p∈ps,RV F w p.1 p.2
 sub:∀p∈ps,cN p.2 x\/p.2=aC.zero
section
variable {l ys:List ByteArray} {b c k i o n off m ln lc size:Nat} {x y d:Int} {w w' wr:World} {A LA:Option Addr} {F G:Nat -> Prop} {e t:TypeId} {v v':Value}
section
variable {F:Nat->Prop} {x:aC} {w wa wr w':World} {m m2:Nat} {v v':Value} {ps qs:List PV}
theorem Fa.step(h:Fa F x w wa m v ps wr)(hb:Below wr.heap.size wr w'):Fa F x w wa m v ps w':=⟨bJ h.own hb,h.ln,h.bel.Ih hb,h.rv,h.sub⟩
theorem Fa.add(h:Fa F x w wa m v ps wr)(h1:∀p∈qs,RV F w p.1 p.2)(h3:∀p∈qs,cN p.2 x\/p.2=aC.zero)(h2:qs.length=m2)(ho:w'.ownsRow wa.heap.size 29 5 v' (m+m2) (aO bC ps++aO bC qs))(hg:wr.grownBy w' v.ownBlock):Fa F x w wa (m+m2) v' (ps++qs) w':=by
 refine⟨by rw[di];exact ho,by rw[KV,h.ln,h2],h.bel.grown hg h.bel.size (bF h.own),fun p hp=>?_,fun p hp=>?_⟩
 ·rcases KI.1 hp with hp|hp
  ·exact h.rv p hp
  ·exact h1 p hp
 ·rcases KI.1 hp with hp|hp
  ·exact h.sub p hp
  ·exact h3 p hp
end
theorem Fb{x y z:aC}(h:cN y x\/y=aC.zero)(h6:y.k=6)(hz:z∈y.l):cN z x:=by
 rcases h with h|h
 ·have:∀{y x:aC},cN y x->∀z,z∈y.parts->cN z x:=by
   intro y x h
   induction h with
   | refl=>intro z hz;exact .part hz (.refl z)
   | part hq _ ih=>intro z hz;exact .part hq (ih z hz)
  exact this h z (io h6 hz)
 ·subst h;exact absurd h6 (by decide)
noncomputable def cj(x:aC)(l:List ByteArray):List aC:=(gN x l).flatMap fB
theorem zu{ys:List PV}{i:Nat}{p:PV}(h:ys[i]?=some p):((ys.map Prod.snd).take (i+1)).flatMap fB=((ys.map Prod.snd).take i).flatMap fB++fB p.2:=by
 rw[Le,KP,h,OA];simp
theorem lh(x:aC)(F:Nat->Prop)(l:List ByteArray)(c:VC)(A:Option Addr)(n cc:Nat)(w:World)(hF:∀b,F b->b<w.heap.size)(h:RV F w c x)(hp:ST w A n cc l)(hz:x.size<=1024)(hl:l.length<=16):
 Calls prog 100 #[c.val,.slice A n cc] w (sj F x (cj x l) 68719476736 w):=by
 obtain⟨j0,hj0,hy0,hy1,hy2⟩:=LM dC;have hK:x.size*2^l.length<=67108864:=Li hz (MA (n:=2) (by omega) hl);have HK:=qD hK;have HXZ:=qD hz;have BE:Hid (Below w.heap.size w (w.alloc (.cells c.arr 29))):=(Ju _ _).alloc (qL) _;have B0:Hid (aG (w.alloc (.cells c.arr 29)) w.heap.size 29 c.arr):=aG.Ii rfl;have HFH:=qD hF;have HPA:=qD (nL x F l c A n cc (w.alloc (.cells c.arr 29)) (fun b hb=>Ka (hF b hb) BE.out.size) (h.alloc _) (hp.step BE.out) (by omega));clear h hp hF hz hl hK;go_enter func100,ntmps100;go_upto_region 1 with fail
 change Code.wp _ _ _ _ (w.alloc (.cells c.arr 29));generalize w.alloc (.cells c.arr 29)=wa at*;obtain⟨a0,a1,a2,a3,a4⟩:=aS.Ig B0.out;simp only[Jw] at a0 a1 a2 a3 a4;go_upto_region 2 with(refine HPA.out.mono ?_;rintro e w1 ⟨A1,M,c1,ys,rfl,hsr,hps,hM,hb⟩;have HSR:=qD hsr;have HPS:=qD (hps.back BE.out HFH.out);have HM:=qD (KM hM HK.out);have HB:=qD (BE.out.Ih hb);clear hsr hps hM hb)
 clear a0 a1 a2 a3 a4 HPA B0 BE;have hM:M<=67108864:=HM.out;go_upto_region 4 with fail
 go_loopw [6,7] (fun v6 v7 wr=>∃(i m:Nat) (ps:List PV),i<=M/\v7=.int .i64 i/\Fa F x w w1 m v6 ps wr/\ps.map Prod.snd=((ys.map Prod.snd).take i).flatMap fB) (fun _ v7 _=>M-(intOf v7).toNat)
 ·exact⟨0,0,[],KD _,rfl,⟨bX _ _ _ _,rfl,Ju _ _,by simp,by simp⟩,by simp⟩
 case round=>
  obtain⟨i,m,ps,hi,rfl,hI,hfl⟩:=hrel;have HI:=qD hI;have HFL:=qD hfl;clear hI hfl;by_cases hlt:i<M
  ·have hi0:i<ys.length:=by rw[<-HSR.out.ln];exact hlt
   obtain⟨p,hpq⟩:∃p,ys[i]?=some p:=⟨_,Jv hi0⟩;have HPQ0:=qD hpq;have HPR:=qD (HPS.out.rv p (Jx hpq));have HPU:=qD (HPS.out.sub p (Jx hpq));obtain⟨eb,eo,hA,hlb,hva⟩:=(HSR.out.step HI.out.bel).Iq hpq
   have hmz:m+x.size<=68719476736:=by
    have h1:∀y∈ys.map Prod.snd,(fB y).length<=x.size:=fun y hy=>by
     obtain⟨q,hq,rfl⟩:=LL.1 hy;exact mV (HPS.out.sub q hq)
    have h2:=yf (K:=x.size) (zs:=(ys.map Prod.snd).take i) fun y hy=>h1 y (MT hy);rw[<-HFL.out,KX,HI.out.ln,LI] at h2;have h4:min i (ys.map Prod.snd).length*x.size<=i*x.size:=Ki _ (Nz _ _);have h3:(i+1)*x.size<=67108864*1024:=Li (by omega) HXZ.out;rw[Lk] at h3;omega
   have hpl:p.1.k=6->p.1.ln+1<=x.size:=fun h6=>by
    have h1:=mV HPU.out;unfold fB at h1;rw[Kb (by rw[<-HPR.out.open.k];exact h6)] at h1;have h2:=HPR.out.open.ln;simp only[Ks] at h1;omega
   have hx1:1<=x.size:=dv x;have HPL:=qD hpl;have HTF:=qD (zu hpq);subst hA;have q0:(0:Int)<=(i:Int):=by omega
   have q1:(i:Int)<(M:Int):=by omega
   have HVA:=qD hva;obtain⟨e0,e1,e2,e3,e4⟩:=hva;have hlo:w1.heap.size<=wr.heap.size:=HI.out.bel.size;clear hpl hpq;go_wp2_with (at_builtin;refine aJ _ rfl _ _ 26 rfl w1.heap.size 29 j0 VC.zero.val 5 80 Kv hj0 hy0 hy1 hy2 rfl (by decide) u6 m (aO bC ps) rfl (bJ HI.out.own ((Ju _ _).alloc (qL) _)) _ _ 1 _ (bC p) rfl ⟨rfl,fun _=>⟨_,rfl,Km _,ao _ _ _⟩⟩ (cG _) (by unfold maxLen;omega) (by omega) (nK hlo _) ?_);intro v7 w3 hown hgr hat;have HN:=qD ((HI.out.step ((Ju _ _).alloc (qL) _)).add (qs:=[p]) (fun q hq=>by rw[Kf.1 hq];exact HPR.out) (fun q hq=>by rw[Kf.1 hq];exact HPU.out) rfl (by simpa[aO] using hown) hgr);have KB:Hid (Below w.heap.size w w3):=qD (HB.out.Ih HN.out.bel);obtain⟨eb',eo',hA',hlb',hva'⟩:=(HSR.out.step HN.out.bel).Iq HPQ0.out;injection hA' with hA'
   injection hA' with hA1 hA2
   subst hA1;subst hA2;clear hown hgr hat e0 e1 e2 e3 e4;obtain⟨e0,e1,e2,e3,e4⟩:=hva';by_cases h6:p.1.k=6
   ·have h6b:(p.1.k==6)=true:=by simpa using h6
    have HY6:Hid (p.2.k=6):=by unfold Hid;rw[<-HPR.out.open.k];exact h6
    obtain⟨qs,hqs,hsl⟩:=RV.sl HPR.out;have HQS:=qD hqs;have HQV:=qD hsl.rv;have HQL:=qD hsl.sr.ln;have HRD:=qD ((hsl.sr.step KB.out).reads bQ (by decide));have hml:m+1+p.1.ln<=68719476736:=by have:=HPL.out h6;omega
    have hlo3:w1.heap.size<=w3.heap.size:=HN.out.bel.size;clear h6 hqs hsl;go_wp2_with (at_builtin;refine aJ _ rfl _ _ 26 rfl w1.heap.size 29 j0 VC.zero.val 5 80 Kv hj0 hy0 hy1 hy2 rfl (by decide) v7 (m+1) (aO bC (ps++[p])) rfl HN.out.own _ _ p.1.ln _ (aO bC qs) rfl HRD.out (fy cG qs) (by unfold maxLen;omega) (by omega) hlo3 ?_);intro v8 w4 hown hgr hat;have HN2:=qD (HN.out.add (qs:=qs) HQV.out (fun q hq=>.inl (Fb HPU.out HY6.out (by rw[<-HQS.out];exact Ko hq))) HQL.out.symm hown hgr)
    have HFF:Hid ((ps++[p]++qs).map Prod.snd=((ys.map Prod.snd).take (i+1)).flatMap fB):=by
     rw[Hid,HTF.out,<-HFL.out,Ke,Ke,HQS.out];simp[fB,HY6.out]
    clear hown hgr hat;go_wp2_with fail;go_roundw
    ·exact⟨i+1,m+1+p.1.ln,ps++[p]++qs,by omega,by go_num,HN2.out,HFF.out⟩
    ·simp[intOf];omega
   ·have h6b:(p.1.k==6)=false:=by simpa using h6
    have HFF:Hid ((ps++[p]).map Prod.snd=((ys.map Prod.snd).take (i+1)).flatMap fB):=by
     have hy:p.2.k≠6:=by rw[<-HPR.out.open.k];exact h6
     rw[Hid,HTF.out,<-HFL.out,Ke];simp[fB,hy]
    clear h6;go_wp2_with fail;go_roundw
    ·exact⟨i+1,m+1,ps++[p],by omega,by go_num,HN.out,HFF.out⟩
    ·simp[intOf];omega
  ·obtain rfl:i=M:=by omega
   obtain⟨A6,c6,rfl,hsr⟩:=SR.Ik bQ HI.out.own HI.out.ln;have HSR6:=qD hsr
   have hmz:m<=68719476736:=by
    have h1:∀y∈ys.map Prod.snd,(fB y).length<=x.size:=fun y hy=>by
     obtain⟨q,hq,rfl⟩:=LL.1 hy;exact mV (HPS.out.sub q hq)
    have h2:=yf (K:=x.size) (zs:=(ys.map Prod.snd).take i) fun y hy=>h1 y (MT hy);rw[<-HFL.out,KX,HI.out.ln,LI] at h2;have h4:min i (ys.map Prod.snd).length*x.size<=i*x.size:=Ki _ (Nz _ _);have h3:i*x.size<=67108864*1024:=Li hM HXZ.out;omega
   have HLF:Hid (FZ F x (cj x l) w ps):=qD ⟨HI.out.rv,HI.out.sub,by
    rw[HFL.out,KL (by rw[KX,HSR.out.ln];exact qL),HPS.out.fn]
    rfl⟩
   clear hsr hlt;go_wp2_with fail;go_ret;exact⟨A6,m,c6,ps,rfl,HSR6.out,HLF.out,hmz,HB.out.Ih HI.out.bel⟩
theorem aS.bw{w:World}{b off:Nat}{v:VC}(h:aS w b off v):(∀kk:BW w,kk.val.cell? ⟨b,off,none⟩=some (.int .i64 v.k))/\(∀kk:BW w,kk.val.cell? ⟨b,off+1,none⟩=some (.int .i64 v.n))/\(∀kk:BW w,kk.val.cell? ⟨b,off+2,none⟩=some (.string v.t))/\
 (∀kk:BW w,kk.val.cell? ⟨b,off+3,none⟩=some (.slice v.LA v.ln v.lc))/\(∀kk:BW w,kk.val.cell? ⟨b,off+4,none⟩=some (.slice v.DA v.dn v.dc)):=
 ⟨fun kk=>kk.cell h.1,fun kk=>kk.cell h.2.1,fun kk=>kk.cell h.2.2.1,fun kk=>kk.cell h.2.2.2.1,fun kk=>kk.cell h.2.2.2.2⟩
theorem rP(x y:aC)(c d:VC)(w:World)(h:RW w c x)(h':RW w d y):Calls prog 155 #[c.val,d.val] w fun e w'=>e=.returned (.bool (aY x y==0))/\Below w.heap.size w w':=by
 have H:=qD h;have H':=qD h';clear h h';go_enter func155,ntmps155;go_wp2_with fail;refine(ib x y c d _ ((H.out.alloc _).alloc _) ((H'.out.alloc _).alloc _)).mono ?_;rintro e w1 ⟨rfl,hb⟩;go_wp2_with fail;go_ret;exact⟨rfl,(((Ju _ _).alloc (qL) _).alloc (by simp) _).Ih hb⟩
def mv(F:Nat->Prop)(w:World)(d:VC):Prop:=∃y:aC,RV F w d y/\(y.k=0->y=aC.zero)
section
variable {F G:Nat->Prop} {w w':World} {d:VC}
theorem mv.step(h:mv F w d)(hb:Below w.heap.size w w'):mv F w' d:=by obtain⟨y,h1,h2⟩:=h;exact⟨y,h1.step hb,h2⟩
theorem mv.alloc(h:mv F w d)(o:Obj):mv F (w.alloc o) d:=h.step ((Ju _ _).alloc (qL) o)
theorem mv.mono(h:mv F w d)(hk:∀b,F b->G b):mv G w d:=by obtain⟨y,h1,h2⟩:=h;exact⟨y,h1.mono hk,h2⟩
theorem mv.lt(h:mv F w d):mv (fun b=>F b/\b<w.heap.size) w d:=by obtain⟨y,h1,h2⟩:=h;exact⟨y,h1.lt,h2⟩
end
def dh(F:Nat->Prop)(w:World)(e:Ending)(w':World):Prop:=∃d:VC,e=.returned d.val/\mv (fun b=>F b\/w.heap.size<=b) w' d/\Below w.heap.size w w'
def fU(w:World)(e:Ending)(w':World):Prop:=∃(k n:Int) (t:ByteArray),e=.returned (bG k n t).val/\t.size<=aH/\k≠0/\Below w.heap.size w w'
theorem yg{G:Nat->Prop}{w:World}(k n:Int){t:ByteArray}(h:t.size<=aH):RV G w (bG k n t) (.mk k n t [] []):=
 sK.shut ⟨rfl,rfl,rfl,h,rfl,qL,by show 0*80<=aH;decide,fun h=>absurd h (by show ¬0<0;omega),rfl,qL,by show 0*96<=aH;decide,fun h=>absurd h (by show ¬0<0;omega)⟩
end
theorem fU.a{F:Nat->Prop}{w w':World}{e:Ending}(h:fU w e w'):dh F w e w':=by
 obtain⟨k,n,t,rfl,ht,hk,hb⟩:=h;exact⟨_,rfl,⟨_,yg k n ht,fun h=>absurd h hk⟩,hb⟩
section
variable {l:List ByteArray} {k size:Nat} {x y d:Int} {t:TypeId} {v:Value}
def gB(y:aC):Prop:=y=aC.zero\/aL y=true
theorem zw:∀l:List aC,l.length<=bN l:=by
 intro l
 induction l with
 | nil=>exact qL
 | cons a r ih=>have:=dv a;simp only[Ks,bN];omega
theorem wv{x:aC}(h5:x.k=5):x.parts=x.d.map cF.v:=by rw[aC.parts,KU (by omega),Kb h5]
theorem ww{x:aC}(h6:x.k=6):x.parts=x.l:=by rw[aC.parts,Kb h6]
theorem lj{y:aC}(h:aL y=true):1<=y.k/\y.t.size<=4096/\y.l.length<=1024/\y.d.length<=1024:=by
 obtain⟨h1,_,h3⟩:=bh h;have hh:=((al _ _).1 h3).1;have hp:=zw y.parts;have hs:=dA y
 have hl:y.l.length<=y.size:=by
  rcases hh.2.2.1 with k|k
  ·rw[ww k] at hp;rw[ww k] at hs;omega
  ·omega
 have hd:y.d.length<=y.size:=by
  rcases hh.2.2.2.1 with k|k
  ·rw[wv k,KX] at hp;rw[wv k] at hs;omega
  ·omega
 have h2:=hh.2.1;refine⟨?_,?_,by omega,by omega⟩
 ·rcases hh.2.2.2.2 with k|k|k|k|⟨k,_⟩|⟨k,_⟩|⟨k,t,_⟩|⟨k,t⟩|⟨k,t⟩|k|k<;>omega
 ·rcases hh.2.2.2.2 with k|k|k|k|⟨k,_⟩|⟨k,_⟩|⟨k,t,_⟩|⟨k,t⟩|⟨k,t⟩|k|k<;>omega
theorem CJ{x y:aC}(h:aL x=true)(hy:y∈x.l):aL y=true:=by
 obtain⟨h1,h2,h3⟩:=bh h;have hh:=(al _ _).1 h3
 have h6:x.k=6:=by
  rcases hh.1.2.2.1 with k|k
  ·exact k
  ·rw[KN k] at hy;cases hy
 have hp:y∈x.parts:=by rw[ww h6];exact hy
 exact fk (by have:=dB hp;omega) (by have:=jE hp;omega) (hh.2.1 y hy)
theorem zx{x:aC}{f:cF}(h:aL x=true)(hf:f∈x.d):aL f.v=true:=by
 obtain⟨h1,h2,h3⟩:=bh h;have hh:=(al _ _).1 h3
 have h5:x.k=5:=by
  rcases hh.1.2.2.2.1 with k|k
  ·exact k
  ·rw[KN k] at hf;cases hf
 have hp:f.v∈x.parts:=by rw[wv h5];exact Ko hf
 exact fk (by have:=dB hp;omega) (by have:=jE hp;omega) (hh.2.2.1 f hf)
section
variable {y:aC}
theorem gB.k0(h:gB y)(h0:y.k=0):y=aC.zero:=by
 rcases h with h|h
 ·exact h
 ·have:=(lj h).1;omega
theorem gB.len(h:gB y):y.t.size<=4096/\y.l.length<=1024/\y.d.length<=1024:=by
 rcases h with rfl|h
 ·exact⟨by decide,by decide,by decide⟩
 ·exact(lj h).2
theorem gB.el(h:gB y){x:aC}(hx:x∈y.l):gB x:=by
 rcases h with rfl|h
 ·cases hx
 ·exact .inr (CJ h hx)
theorem gB.Jq(h:gB y){f:cF}(hf:f∈y.d):gB f.v:=by
 rcases h with rfl|h
 ·cases hf
 ·exact .inr (zx h hf)
end
end
structure fF(F:Nat->Prop)(w:World)(A:Option Addr)(n c:Nat)(ps:List PV):Prop where
 sr:SR 5 bC w A n c ps
 rv:∀p∈ps,RV F w p.1 p.2
 ok:∀p∈ps,gB p.2
 few:n<=256
section
variable {b c k K i n off m q size:Nat} {a d:Int} {s:ByteArray} {w w':World} {A:Option Addr} {F:Nat -> Prop} {e:TypeId}
theorem fF.step{F:Nat->Prop}{w w':World}{A:Option Addr}{n c:Nat}{ps:List PV}(h:fF F w A n c ps)(hb:Below w.heap.size w w'):fF F w' A n c ps:=⟨h.sr.step hb,fun p hp=>(h.rv p hp).step hb,h.ok,h.few⟩
theorem fF.at{F:Nat->Prop}{w:World}{A:Option Addr}{n c:Nat}{ps:List PV}(h:fF F w A n c ps)(hn:0<n):∃b off,A=some ⟨b,off,none⟩/\b<w.heap.size/\∀i,i<n->∃p,ps[i]?=some p/\aS w b (off+i*5) p.1/\RV F w p.1 p.2/\gB p.2:=by
 obtain⟨b,off,e,hb,hel⟩:=h.sr.el hn;refine⟨b,off,e,hb,fun i hi=>?_⟩;obtain⟨p,hp⟩:∃p,ps[i]?=some p:=⟨_,Jv (by have:=h.sr.ln;omega)⟩;exact⟨p,hp,lP fun j v hj=>hel i p hp j v hj,h.rv p (Jx hp),h.ok p (Jx hp)⟩
theorem iD(b:Bool)(w:World):Calls prog 262 #[.bool b] w (fU w):=by
 cases b
 ·go_enter func262,ntmps262;go_wp2_with fail;exact Jz (aF rfl _ _ _ rfl _ (bG 9 0 empty) (aS.Ig (aG.new _ _ _))) rfl ⟨9,0,_,rfl,by decide,by decide,(Ju _ _).alloc (qL) _⟩
 ·go_enter func262,ntmps262;go_wp2_with fail;exact Jz (aF rfl _ _ _ rfl _ (bG 9 1 empty) (aS.Ig (aG.new _ _ _))) rfl ⟨9,1,_,rfl,by decide,by decide,(Ju _ _).alloc (qL) _⟩
theorem eg(s:ByteArray)(w:World)(hs:s.size<=aH):Calls prog 264 #[.string s] w (fU w):=by
 go_enter func264,ntmps264;go_wp2_with fail;exact Jz (aF rfl _ _ _ rfl _ (bG 4 0 s) (aS.Ig (aG.new _ _ _))) rfl ⟨4,0,s,rfl,hs,by decide,(Ju _ _).alloc (qL) _⟩
theorem jL(d:VC)(w:World):Calls prog 259 #[d.val] w (am (fun _=>True) w):=by
 have BE:Hid (Below w.heap.size w (w.alloc (.cells d.arr 29))):=(Ju _ _).alloc (qL) _;have B0:Hid (aG (w.alloc (.cells d.arr 29)) w.heap.size 29 d.arr):=aG.Ii rfl;obtain⟨z2,hz2⟩:∃z,(d.k==1)=z:=⟨_,rfl⟩;obtain⟨z3,hz3⟩:∃z,(d.k==9)=z:=⟨_,rfl⟩;obtain⟨z4,hz4⟩:∃z,(d.k==3)=z:=⟨_,rfl⟩;obtain⟨z5,hz5⟩:∃z,(d.n==0)=z:=⟨_,rfl⟩;go_enter func259,ntmps259;go_upto_region 1 with fail
 change Code.wp _ _ _ _ (w.alloc (.cells d.arr 29));generalize w.alloc (.cells d.arr 29)=wa at*;obtain⟨a0,a1,a2,a3,a4⟩:=aS.Ig B0.out;simp only[Jw] at a1 a2 a3 a4;by_cases h1:d.k>2
 ·rcases(show(z3=true/\z5=true/\z2=true)\/(z3=true/\z5=true/\z2=false)\/(z3=true/\z5=false)\/(z3=false/\z4=true/\z5=true/\z2=true)\/(z3=false/\z4=true/\z5=true/\z2=false)\/(z3=false/\z4=true/\z5=false)\/(z3=false/\z4=false) by clear hz2 hz3 hz4 hz5 h1;revert z2 z3 z4 z5;decide) with⟨rfl,rfl,rfl⟩|⟨rfl,rfl,rfl⟩|⟨rfl,rfl⟩|⟨rfl,rfl,rfl,rfl⟩|⟨rfl,rfl,rfl,rfl⟩|⟨rfl,rfl,rfl⟩|⟨rfl,rfl⟩
  all_goals
   go_wp2_with fail;go_ret;exact am.of trivial BE.out
 ·cases z2
  all_goals
   go_wp2_with fail;go_ret;exact am.of trivial BE.out
theorem fC(ps:List PV)(K:Int)(A:Option Addr)(m c:Nat)(w:World)(hs:SR 5 bC w A m c ps)(hm:m<=256):
 Calls prog 300 #[.slice A m c,.int .i64 K] w (am (fun b=>b=true->∀p∈ps,p.1.k=K) w):=by
 have HS:=qD hs;clear hs;go_enter func300,ntmps300;go_upto_region 2 with fail
 go_loopw [5] (fun v wr=>∃i:Nat,i<=m/\v=.int .i64 i/\(∀p∈ps.take i,p.1.k=K)/\Below w.heap.size w wr) (fun v _=>m-(intOf v).toNat)
 ·exact⟨0,KD _,rfl,by simp,Ju _ _⟩
 case round=>
  obtain⟨i,hi,rfl,ha,hb⟩:=hrel;have HA:=qD ha;have HB:=qD hb;clear ha hb;by_cases hlt:i<m
  ·obtain⟨p,hp⟩:∃p,ps[i]?=some p:=⟨_,Jv (by have:=HS.out.ln;omega)⟩;have HP:=qD hp;obtain⟨eb,eo,rfl,hlb,hva⟩:=(HS.out.step HB.out).Iq hp;obtain⟨a0,a1,a2,a3,a4⟩:=hva;have i0:(0:Int)<=(i:Int):=by omega
   have i1:(i:Int)<(m:Int):=by omega
   clear hp;by_cases hk:p.1.k=K
   ·have hkb:(p.1.k != K)=false:=by simpa using hk
    have HN:Hid (∀q∈ps.take (i+1),q.1.k=K):=qD fun q hq=>by
     rw[take_snoc' HP.out] at hq;rcases KI.1 hq with hq|hq
     ·exact HA.out q hq
     ·rw[Kf.1 hq];exact hk
    clear hk;go_wp2_with fail;go_roundw
    ·exact⟨i+1,by omega,by go_num,HN.out,HB.out⟩
    ·simp[intOf];omega
   ·have hkb:(p.1.k != K)=true:=by simpa using hk
    clear hk;go_wp2_with fail;go_ret;exact am.of (fun h=>absurd h (by decide)) HB.out
  ·have HF:Hid (∀p∈ps,p.1.k=K):=qD (by
    have:=HA.out
    rwa [KL (by have:=HS.out.ln;omega)] at this)
   go_wp2_with fail;go_ret;exact am.of (fun _=>HF.out) HB.out
theorem xB(a b:Int)(hb:b≠0):∃q:Int,∀w,Calls prog 301 #[.int .i64 a,.int .i64 b] w fun e w'=>e=.returned (.int .i64 q)/\Below w.heap.size w w':=by
 have h0b:(b==0)=false:=by simpa using hb
 by_cases h1:b=-1
 ·subst h1;refine⟨wrap64 (-a),fun w=>?_⟩;go_enter Ng,NQ;go_wp2_with fail;go_ret;exact⟨rfl,Ju _ _⟩
 have h1b:(b==-1)=false:=by simpa using h1
 by_cases h2:a.tmod b=0
 ·have h2b:(a.tmod b != 0)=false:=by simpa using h2
  refine⟨wrap64 (a.tdiv b),fun w=>?_⟩;go_enter Ng,NQ;go_wp2_with fail;go_ret;exact⟨rfl,Ju _ _⟩
 have h2b:(a.tmod b != 0)=true:=by simpa using h2
 by_cases h3:a.tmod b<0<;>by_cases h4:b<0
 ·refine⟨wrap64 (a.tdiv b),fun w=>?_⟩;go_enter Ng,NQ;go_wp2_with fail;go_ret;exact⟨rfl,Ju _ _⟩
 ·refine⟨wrap64 (wrap64 (a.tdiv b)-1),fun w=>?_⟩;go_enter Ng,NQ;go_wp2_with fail;go_ret;exact⟨rfl,Ju _ _⟩
 ·refine⟨wrap64 (wrap64 (a.tdiv b)-1),fun w=>?_⟩;go_enter Ng,NQ;go_wp2_with fail;go_ret;exact⟨rfl,Ju _ _⟩
 ·refine⟨wrap64 (a.tdiv b),fun w=>?_⟩;go_enter Ng,NQ;go_wp2_with fail;go_ret;exact⟨rfl,Ju _ _⟩
end
end Go.Proofs.YtgfoliedmhgpnaaGreatDoor
