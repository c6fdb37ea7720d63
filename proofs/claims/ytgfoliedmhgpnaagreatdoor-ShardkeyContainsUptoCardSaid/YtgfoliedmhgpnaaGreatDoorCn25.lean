/- A part of the proof. -/
import Derived.Test.YtgfoliedmhgpnaaGreatDoorCn24
set_option maxRecDepth 100000
set_option maxHeartbeats 16000000
open Go.Proofs.Tryz
open ByteArray (empty)
namespace Go.Proofs.YtgfoliedmhgpnaaGreatDoor
open Go.RowKit
section
variable {i size:Nat} {w w':World} {s:ByteArray}
def lr(s : ByteArray)(i : Nat) : Int := if h : i < s.size then ((s[i]'h).toNat : Int) else 0
theorem xS(h : i < s.size) : lr s i = ((s[i]'h).toNat : Int) := by rw [lr, dif_pos h]
def xT(s:ByteArray):Nat->Nat
 | 0=>0
 | i+1=>xT s i*10+(lr s i-48).toNat
def uo(s:ByteArray):Prop:=1<=s.size/\s.size<=4/\¬(lr s 0=48/\1<s.size)/\∀i,i<s.size->48<=lr s i/\lr s i<=57
open Classical in
noncomputable def lB(s:ByteArray):Option Nat:=if uo s then some (xT s s.size) else none
theorem zp(h:¬uo s):lB s=none:=by rw[lB,OQ h]
theorem zr(h:uo s):lB s=some (xT s s.size):=by rw[lB,OW h]
def jQ(s:ByteArray)(w:World)(e:Ending)(w':World):Prop:=∃(n:Nat) (b:Bool),e=.returned (.tuple #[.int .i64 n,.bool b])/\n<=99999/\lB s=(if b then some n else none)/\Bl w w'
theorem jQ.no(h:¬uo s)(hb:Bl w w'):jQ s w (.returned (.tuple #[.int .i64 0,.bool false])) w':=⟨0,false,rfl,by omega,zp h,hb⟩
theorem xU(s:ByteArray)(w:World):Calls prog 245 #[.string s] w (jQ s w):=by
 by_cases h1:s.size<1
 ·have h1i:(s.size:Int)<1:=oM
  go_enter func245,ntmps245;go_wp2;go_ret2;exact jQ.no (fun k=>by have:=k.1;omega) (OG _ _)
 by_cases h4:4<s.size
 ·have h1i:¬(s.size:Int)<1:=oM
  have h4i:(4:Int)<(s.size:Int):=oM
  go_enter func245,ntmps245;go_wp2;go_ret2;exact jQ.no (fun k=>by have:=k.2.1;omega) (OG _ _)
 have h1i:¬(s.size:Int)<1:=oM
 have h4i:¬(4:Int)<(s.size:Int):=oM
 have h0:0<s.size:=oM
 have h0i:(0:Int)<(s.size:Int):=oM
 obtain⟨y,hy⟩:=fI h0;have HD0:Hid (lr s 0=y):=qD ((xS h0).trans hy);go_enter func245,ntmps245;rcases(show((y==48)=true/\1<s.size)\/((y==48)=false/\1<s.size)\/((y==48)=true/\¬1<s.size)\/((y==48)=false/\¬1<s.size) by cases(y==48)<;>simp<;>omega) with⟨hq,h2⟩|⟨hq,h2⟩|⟨hq,h2⟩|⟨hq,h2⟩
 ·have h2i:(1:Int)<(s.size:Int):=oM
  go_wp2;go_ret2;exact jQ.no (fun k=>k.2.2.1 ⟨by rw[HD0.out];simpa using hq,h2⟩) (OG _ _)
 all_goals
  have HNZ:Hid (¬(lr s 0=48/\1<s.size)):=qD (by rintro⟨k1,k2⟩;rw[HD0.out] at k1;simp[k1] at hq<;>omega)
  first|(have h2j:(1:Int)<(s.size:Int):=oM)|(have h2j:¬(1:Int)<(s.size:Int):=oM)
  go_upto_region 5 with fail
  go_loopw [4,5] (fun v4 v5 wr=>∃(i n:Nat),i<=s.size/\v5=.int .i64 i/\v4=.int .i64 n/\n+1<=10^i/\(n=xT s i/\∀k,k<i->48<=lr s k/\lr s k<=57)/\Bl w wr) (fun _ v5 _=>s.size-(intOf v5).toNat)
  ·exact⟨0,0,ON _,rfl,rfl,qL,⟨rfl,fun k hk=>absurd hk (TO _)⟩,OG _ _⟩
  case round=>
   obtain⟨i,n,hi,rfl,rfl,hn,hF,hb⟩:=hrel;have HF:=qD hF;clear hF;have HB:=qD hb;have HN:=qD hn;clear hb hn;by_cases hlt:i<s.size
   ·obtain⟨x,hx⟩:=fI hlt;have HDX:Hid (lr s i=x):=qD ((xS hlt).trans hx);have i0:(0:Int)<=(i:Int):=oM
    have i1:(i:Int)<(s.size:Int):=oM
    have hp3:10^i<=1000:=OU (Qi oM (show i<=3 by omega)) dE;have hn9:n<=999:=by have:=HN.out;omega
    have hps:10^(i+1)=10^i*10:=TM ..;have HPS:=qD hps;clear hps hp3;by_cases hx1:x<48
    ·go_wp2;go_ret2;exact jQ.no (fun k=>by have:=k.2.2.2 i hlt;rw[HDX.out] at this;omega) HB.out
    by_cases hx2:57<x
    ·go_wp2;go_ret2;exact jQ.no (fun k=>by have:=k.2.2.2 i hlt;rw[HDX.out] at this;omega) HB.out
    have hn9i:(n:Int)<=999:=oM
    have hn0i:(0:Int)<=(n:Int):=oM
    have hx3:48<=x:=oM
    have hx4:x<=57:=oM
    have HZ:Hid (((n*10+(x-48).toNat:Nat):Int)=(n:Int)*10+(x-48)):=by rw[Hid];omega
    have HD:Hid ((x-48).toNat<=9):=by rw[Hid];omega
    go_wp2_with fail;go_roundw
    case rel=>exact⟨i+1,n*10+(x-48).toNat,by omega,by go_num,by rw[HZ.out],by rw[HPS.out];have h1:=HN.out;have h2:=HD.out;omega,⟨by rw[xT,<-HF.out.1,HDX.out],fun k hk=>by
     rcases Qn k i with h|h
     ·exact HF.out.2 k h
     ·obtain rfl:k=i:=oM
      rw[HDX.out];exact⟨hx3,hx4⟩⟩,HB.out⟩
    case measure=>exact iO
   ·obtain rfl:i=s.size:=oM
    have hp3:10^s.size<=10000:=OU (Qi oM (show s.size<=4 by omega)) dE;have hn9:n<=9999:=by have:=HN.out;omega
    clear hp3;go_wp2;go_ret2;exact⟨n,true,rfl,by omega,by rw[zr ⟨by omega,by omega,HNZ.out,HF.out.2⟩,<-HF.out.1];rfl,HB.out⟩
end
inductive dN:aC->aC->Prop
 | refl (x:aC):dN x x
 | part {y z x:aC}:z∈x.parts->dN y z->dN y x
section
variable {k n size:Nat} {x y:Int} {l r:List ByteArray} {s:ByteArray}
theorem tp{x y:aC}(hg:eG x s=some y):y∈x.parts:=by
 obtain⟨h5,f,hf,e⟩:=oA hg;unfold aC.parts;rw[OQ oM,OW h5,<-e];exact PD hf
theorem mu{x y:aC}(h6:x.k=6)(hy:y∈x.l):y∈x.parts:=by
 unfold aC.parts;rw[OW h6];exact hy
theorem xV{x:aC}(h6:x.k=6):x.size=1+bE x.l:=by
 rw[dh];unfold aC.parts;rw[OW h6]
set_option linter.unusedVariables false in
noncomputable def fp(x:aC)(l:List ByteArray):List aC:=
 match l with
 | []=>[x]
 | s::r=>
  if x.k=5 then(match h:eG x s with
   | .none=>[]
   | .some y=>fp y r)
  else if h6:x.k=6 then(x.l.attach.flatMap fun y=>if y.1.k=5 then fp y.1 (s::r) else [])++(match lB s with
   | .none=>[]
   | .some n=>match h:x.l[n]? with
    | .none=>[]
    | .some y=>fp y r)
  else []
termination_by x.size
decreasing_by
 ·exact cy (tp h)
 ·exact cy (mu h6 y.2)
 ·exact cy (mu h6 (OJ h))
theorem tq(x:aC):fp x []=[x]:=by rw[fp]
theorem rf{x:aC}(h6:x.k≠6)(hg:eG x s=none):fp x (s::r)=[]:=by
 rw[fp];by_cases h5:x.k=5
 ·rw[OW h5];split
  ·rfl
  ·rename_i h;rw[hg] at h;cases h
 ·rw[OQ h5,dif_neg h6]
theorem rh{x y:aC}(h5:x.k=5)(hg:eG x s=some y):fp x (s::r)=fp y r:=by
 rw[fp,OW h5];split
 ·rename_i h;rw[hg] at h;cases h
 ·rename_i h;rw[hg] at h;injection h with h;rw[h]
noncomputable def ri(l:List ByteArray)(y:aC):List aC:=if y.k=5 then fp y l else []
theorem rj{x:aC}(h6:x.k=6):fp x (s::r)=x.l.flatMap (ri (s::r))++(match lB s with
 | .none=>[]
 | .some n=>match x.l[n]? with
  | .none=>[]
  | .some y=>fp y r):=by
 rw[fp,OQ oM,dif_pos h6];congr 1
 ·conv=>rhs;rw[<-List.attach_map_subtype_val x.l]
  rw[List.flatMap_map];rfl
 ·cases lB s with
  | none=>rfl
  | some n=>
   dsimp only;split
   ·rename_i h;rw[h]
   ·rename_i h;rw[h]
theorem Fx:∀{l:List ByteArray} {x y:aC},cT x l=some y->fp x l=[y]\/(fp x l=[]/\y=cR):=by
 intro l
 induction l with
 | nil=>
  intro x y h;left;rw[tq];by_cases h6:x.k=6
  ·rw[kp h6] at h;cases h
  ·rw[pC h6] at h;injection h with h;rw[h]
 | cons s r ih=>
  intro x y h;by_cases h6:x.k=6
  ·rw[kp h6] at h;cases h
  ·cases hg:eG x s with
   | none=>rw[nS h6 hg] at h;injection h with h;exact .inr ⟨rf h6 hg,h.symm⟩
   | some z=>rw[nT h6 hg] at h;rw[rh (oA hg).1 hg];exact ih h
end
structure nN(F:Nat->Prop)(x:aC)(l:List ByteArray)(w:World)(ps:List PV):Prop where
 rv:∀p∈ps,RV F w p.1 p.2
 sub:∀p∈ps,dN p.2 x
 cnt:ps.length<=x.size*2^l.length
 cnt2:x.k=5->l≠[]->2*ps.length<=x.size*2^l.length
 fn:ps.map Prod.snd=fp x l
section
variable {k b n c base size:Nat} {w w':World} {e:TypeId} {x y:Int} {l r:List ByteArray} {v:Value} {s:ByteArray} {F:Nat -> Prop} {xs:List Value}
theorem nN.back{x:aC}{ps:List PV}(h:nN F x l w' ps)(hb:Bl w w')(hF:∀b,F b->b<w.heap.size):nN F x l w ps:=
 ⟨fun p hp=>(h.rv p hp).keep fun b hFb=>(hb.block b (hF b hFb)).symm,h.sub,h.cnt,h.cnt2,h.fn⟩
theorem nN.one{x:aC}{c:VC}(h:RV F w c x):nN F x [] w [(c,x)]:=by
 refine⟨fun p hp=>?_,fun p hp=>?_,?_,fun _ hl=>absurd rfl hl,?_⟩
 ·rw[Ox.1 hp];exact h
 ·rw[Ox.1 hp];exact .refl x
 ·have:=fB x;simp;omega
 ·rw[tq];rfl
theorem nN.none{x:aC}(h6:x.k≠6)(hg:eG x s=none):nN F x (s::r) w []:=
 ⟨fun p hp=>by simp at hp,fun p hp=>by simp at hp,ON _,fun _ _=>ON _,(rf h6 hg).symm⟩
theorem nN.some{x y:aC}{ps:List PV}(h5:x.k=5)(hg:eG x s=some y)(h:nN F y r w ps):nN F x (s::r) w ps:=by
 have hs:=cy (tp hg)
 have h2:2*ps.length<=x.size*2^(s::r).length:=by
  have h1:=h.cnt;have h3:y.size*2^r.length<=x.size*2^r.length:=Ot _ oM;rw[OZ,TM,<-Nat.mul_assoc];omega
 refine⟨h.rv,fun p hp=>.part (tp hg) (h.sub p hp),by omega,fun _ _=>h2,by rw[rh h5 hg];exact h.fn⟩
def Fy(F:Nat->Prop)(x:aC)(l:List ByteArray)(w:World)(e:Ending)(w':World):Prop:=
 ∃v m ps,e=.returned v/\w'.ownsRow w.heap.size 29 5 v m (aN bD ps)/\ps.length=m/\nN F x l w ps/\Bl w w'
theorem kE{base':Nat}(hb:base'<=base)(h:w.ownsRow base e size v n xs):w.ownsRow base' e size v n xs:=by
 refine⟨h.1,?_⟩;rcases h.2 with h1|⟨g,cap,cur,hv,hge,r2⟩
 ·exact .inl h1
 ·exact .inr ⟨g,cap,cur,hv,OU hb hge,r2⟩
end
structure sR(F:Nat->Prop)(x:aC)(l:List ByteArray)(w wa:World)(i m:Nat)(v:Value)(ps:List PV)(wr:World):Prop where
 own:wr.ownsRow wa.heap.size 29 5 v m (aN bD ps)
 ln:ps.length=m
 bel:Bl wa wr
 rv:∀p∈ps,RV F w p.1 p.2
 sub:∀p∈ps,dN p.2 x
 cnt:2*m<=bE (x.l.take i)*2^l.length
 fn:ps.map Prod.snd=(x.l.take i).flatMap (ri l)
section
variable {k b n o m i c off size:Nat} {w w' wr:World} {a x y:Int} {l r:List ByteArray} {v v':Value} {s:ByteArray} {A:Option Addr} {F:Nat -> Prop}
theorem tt{x y:aC}(hy:x.l[i]?=some y):(x.l.take (i+1)).flatMap (ri l)=(x.l.take i).flatMap (ri l)++ri l y:=by
 rw[Pf,hy,List.flatMap_append];simp
section
variable {F:Nat->Prop} {x y:aC} {s:ByteArray} {l r:List ByteArray} {w wa wr w':World} {i m m2:Nat} {v v':Value} {ps qs:List PV}
theorem sR.step(h:sR F x l w wa i m v ps wr)(hb:Bl wr w'):sR F x l w wa i m v ps w':=⟨af h.own hb,h.ln,h.bel.Ml hb,h.rv,h.sub,h.cnt,h.fn⟩
theorem sR.skip(h:sR F x l w wa i m v ps wr)(hy:x.l[i]?=some y)(hk:y.k≠5):sR F x l w wa (i+1) m v ps wr:=
 ⟨h.own,h.ln,h.bel,h.rv,h.sub,by rw[kK hy,QJ];have:=h.cnt;omega,by rw[tt hy,ri,OQ hk,Om];exact h.fn⟩
theorem sR.sum(h:sR F x l w wa i m v ps wr)(hy:x.l[i]?=some y)(h6:x.k=6)(hq:nN F y l w qs)(hk:y.k=5)(hl:l≠[]):2*(m+qs.length)<=bE (x.l.take (i+1))*2^l.length/\bE (x.l.take (i+1))*2^l.length<=x.size*2^l.length:=by
 have h1:=h.cnt;have h2:=hq.cnt2 hk hl;refine⟨by rw[kK hy,QJ];omega,Ot _ ?_⟩;have:=iY x.l (i+1);rw[xV h6];omega
theorem sR.No(h:sR F x l w wa i m v ps wr)(hy:x.l[i]?=some y)(h6:x.k=6)(hq:nN F y l w qs)(hk:y.k=5)(hl:l≠[])(h2:qs.length=m2)(hz:x.size*2^l.length<=34359738368):m+m2<=34359738368:=by
 have:=h.sum hy h6 hq hk hl;omega
theorem sR.add(h:sR F x l w wa i m v ps wr)(hy:x.l[i]?=some y)(h6:x.k=6)(hq:nN F y l w qs)(hk:y.k=5)(hl:l≠[])(h2:qs.length=m2)(ho:w'.ownsRow wa.heap.size 29 5 v' (m+m2) (aN bD ps++aN bD qs))(hg:wr.grownBy w' v.ownBlock):sR F x l w wa (i+1) (m+m2) v' (ps++qs) w':=by
 refine⟨by rw[dT];exact ho,by rw[OK,h.ln,h2],h.bel.grown hg h.bel.size (ak h.own),fun p hp=>?_,fun p hp=>?_,?_,?_⟩
 ·rcases OP.1 hp with hp|hp
  ·exact h.rv p hp
  ·exact hq.rv p hp
 ·rcases OP.1 hp with hp|hp
  ·exact h.sub p hp
  ·exact .part (mu h6 (OJ hy)) (hq.sub p hp)
 ·rw[<-h2];exact(h.sum hy h6 hq hk hl).1
 ·rw[tt hy,ri,OW hk,Oo,h.fn,hq.fn]
theorem sR.fin(h:sR F x (s::r) w wa i m v ps wr)(h6:x.k=6)(hi:x.l.length=i)(hn:∀n,lB s=some n->x.l[n]?=none):nN F x (s::r) w ps:=by
 refine⟨h.rv,h.sub,?_,fun h5=>by omega,?_⟩;rotate_left
 ·rw[rj h6,h.fn,OS oM];cases hs:lB s with
  | none=>simp
  | some n=>simp[hn n hs]
 have h1:bE (x.l.take i)*2^(s::r).length<=x.size*2^(s::r).length:=by
  refine Ot _ ?_;have:=iY x.l i;rw[xV h6];omega
 have:=h.cnt;have:=h.ln;omega
theorem sR.Np(h:sR F x (s::r) w wa i m v ps wr)(h6:x.k=6)(hy:y∈x.l)(hq:nN F y r w qs)(h2:qs.length=m2):m+m2<=x.size*2^(s::r).length:=by
 have e:∀k:Nat,k*2^(s::r).length=2*(k*2^r.length):=fun k=>by rw[OZ,TM,<-Nat.mul_assoc,TJ]
 have h1:=h.cnt;have h3:=hq.cnt
 have a1:bE (x.l.take i)*2^r.length<=x.size*2^r.length:=by
  refine Ot _ ?_;have:=iY x.l i;rw[xV h6];omega
 have a2:y.size*2^r.length<=x.size*2^r.length:=by
  refine Ot _ ?_;have:=su hy;rw[xV h6];omega
 rw[e] at h1 ⊢;omega
theorem sR.Nb(h:sR F x (s::r) w wa i m v ps wr)(h6:x.k=6)(hy:y∈x.l)(hq:nN F y r w qs)(h2:qs.length=m2)(hz:x.size*2^(s::r).length<=34359738368):m+m2<=34359738368:=OU (h.Np h6 hy hq h2) hz
theorem sR.Nq{nn:Nat}(h:sR F x (s::r) w wa i m v ps wr)(h6:x.k=6)(hi:x.l.length=i)(hs:lB s=some nn)(hyn:x.l[nn]?=some y)(hy:y∈x.l)(hq:nN F y r w qs)(h2:qs.length=m2)(ho:w'.ownsRow wa.heap.size 29 5 v' (m+m2) (aN bD ps++aN bD qs))(hg:wr.grownBy w' v.ownBlock):
 nN F x (s::r) w (ps++qs)/\w'.ownsRow wa.heap.size 29 5 v' (m+m2) (aN bD (ps++qs))/\Bl wa w':=by
 refine⟨⟨fun p hp=>?_,fun p hp=>?_,by rw[OK,h.ln,h2];exact h.Np h6 hy hq h2,fun h5=>by omega,by
  rw[rj h6,hs]
  dsimp only
  rw[hyn,Oo,h.fn,hq.fn,OS oM]⟩,by rw[dT];exact ho,h.bel.grown hg h.bel.size (ak h.own)⟩
 ·rcases OP.1 hp with hp|hp
  ·exact h.rv p hp
  ·exact hq.rv p hp
 ·rcases OP.1 hp with hp|hp
  ·exact h.sub p hp
  ·exact .part (mu h6 hy) (hq.sub p hp)
end
def Jy(x:aC):Prop:=∀(F:Nat->Prop) (l:List ByteArray) (c:VC) (A:Option Addr) (n cc:Nat) (w:World),(∀b,F b->b<w.heap.size)->RV F w c x->ST w A n cc l->x.size*2^l.length<=34359738368->
 Calls prog 191 #[c.val,.slice A n cc] w (Fy F x l w)
theorem Fz(x:aC)(F:Nat->Prop)(c:VC)(A:Option Addr)(n cc:Nat)(w:World)(h:RV F w c x)(hp:ST w A n cc []):Calls prog 191 #[c.val,.slice A n cc] w (Fy F x [] w):=by
 have hn:n=0:=hp.sr.ln;subst hn;have HPS:Hid (nN F x [] w [(c,x)]):=qD (nN.one h);clear h hp;go_enter func191,ntmps191;go_upto_region 1 with fail
 refine ml c.arr 29 ?_;intro wa B0 BE;obtain⟨a0,a1,a2,a3,a4⟩:=aO.Mp B0.out;go_wp2;go_ret;exact⟨_,1,[(c,x)],rfl,zL cB (L:=[(c,x)]) (aG.new _ _ _) BE.out.size (show 1<=maxLen by decide),rfl,HPS.out,BE.out.alloc BE.out.size _⟩
theorem GA:∀x,Jy x:=by
 refine aC.NZ fun x ih=>?_;intro F l c A n cc w hF h hp hz;cases l with
 | nil=>exact Fz x F c A n cc w h hp
 | cons s r=>
  obtain⟨j0,hj0,hy0,hy1,hy2⟩:=Pb dB;have hk:Hid (c.k=x.k):=h.open.k;have BE:Hid (Bl w (w.alloc (.cells c.arr 29))):=(OG _ _).alloc (qL) _;have B0:Hid (aG (w.alloc (.cells c.arr 29)) w.heap.size 29 c.arr):=aG.Mm rfl;have hln:=hp.sr.ln;simp only[OZ] at hln;have hlc:=hp.sr.lc;have hnz:(n:Int)<=8796093022208:=by have:=hp.sz;unfold aF at this;omega
  have HP0:=qD hp;obtain⟨b,off,s',rfl,hbw,hs,hcell⟩:=hp.sr.NR (i:=0) oM;obtain rfl:s=s':=by simpa using hs
  simp only[QW] at hcell;have HT:=qD hp.tail;have HIH:=qD ih;have HFH:=qD hF;have HZ:=qD hz;have cz:(cc:Int)≠0:=oM
  have HLN:=qD hln;have i1':(0:Int)<(n:Int):=oM
  have i2':0<n:=oM
  have i3':(1:Int)<=(n:Int):=oM
  have n0b:((n:Int)==0)=false:=by simp;omega
  clear hln;go_enter func191,ntmps191;go_upto_region 1 with fail
  change Code.wp _ _ _ _ (w.alloc (.cells c.arr 29));have HR0:=qD (h.keep (w':=(w.alloc (.cells c.arr 29))) fun b hb=>BE.out.block b (hF b hb));have hsz:(w.alloc (.cells c.arr 29)).heap.size=w.heap.size+1:=by simp
  generalize (w.alloc (.cells c.arr 29))=wa at*;have HSZ:=qD hsz;clear hsz;obtain⟨a0,a1,a2,a3,a4⟩:=aO.Mp B0.out;by_cases h5:c.k=5
  ·have HK5:Hid (x.k=5):=by unfold Hid;rw[<-hk.out];exact h5
   have h5b:(c.k==5)=true:=by simpa using h5
   clear h5 hk h hp ih hF hs hz;go_upto_region 4 with fail
   have hcw:=(BE.out.cell (p:=⟨b,off,none⟩) hbw).trans hcell;have lb0:=B0.out.lt;have lbb:b<wa.heap.size:=Ol hbw BE.out.size
   have KC:Hid (∀w':World,(∀g,g<wa.heap.size->w'.heap[g]?=wa.heap[g]?)->w'.cell? ⟨w.heap.size,0,none⟩=some (.int .i64 c.k)/\w'.cell? ⟨w.heap.size,1,none⟩=some (.int .i64 c.n)/\w'.cell? ⟨w.heap.size,2,none⟩=some (.string c.t)/\w'.cell? ⟨w.heap.size,3,none⟩=some (.slice c.LA c.ln c.lc)/\w'.cell? ⟨w.heap.size,4,none⟩=some (.slice c.DA c.dn c.dc)/\w'.cell? ⟨b,off,none⟩=some (.string s)):=qD fun w' hk=>by
    have p0:∀o,w'.cell? ⟨w.heap.size,o,none⟩=wa.cell? ⟨w.heap.size,o,none⟩:=fun o=>PE (w:=wa) (a:=⟨w.heap.size,o,none⟩) (hk _ lb0);have p1:∀o,w'.cell? ⟨b,o,none⟩=wa.cell? ⟨b,o,none⟩:=fun o=>PE (w:=wa) (a:=⟨b,o,none⟩) (hk _ lbb);exact⟨(p0 _).trans a0,(p0 _).trans a1,(p0 _).trans a2,(p0 _).trans a3,(p0 _).trans a4,(p1 _).trans hcw⟩
   have HGV:Hid (∀wq,Bl wa wq->Calls prog 244 #[c.val,.string s] wq (Gh F x s wq)):=qD fun wq hq=>uy x c s wq (HR0.out.keep fun b hb=>hq.block b (by have h1:=HFH.out b hb;have h2:=BE.out.size;omega));have hsz:=HSZ.out
   go_cut [5,6] (fun v5 v6 wx=>∃(g9:Nat) (c9:VC),v5=.pointer (some ⟨g9,0,none⟩)/\v6=.bool (eG x s).isSome/\aG wx g9 29 c9.arr/\RV F wx c9 ((eG x s).getD aC.zero)/\wa.heap.size<=g9/\Bl wa wx)
   case first=>
    refine PH ?_;refine Oy (S:=(fun w'=>w'.cell? ⟨w.heap.size,0,none⟩=some (.int .i64 c.k)/\w'.cell? ⟨w.heap.size,1,none⟩=some (.int .i64 c.n)/\w'.cell? ⟨w.heap.size,2,none⟩=some (.string c.t)/\w'.cell? ⟨w.heap.size,3,none⟩=some (.slice c.LA c.ln c.lc)/\w'.cell? ⟨w.heap.size,4,none⟩=some (.slice c.DA c.dn c.dc)/\w'.cell? ⟨b,off,none⟩=some (.string s))) kR ?_ (fun hHeld=>?_)
    ·(try dsimp only);exact KC.out _ (fun g hg=>rfl)
    have B:Hid (Bl wa wa.drew):=qD ((OG wa.heap.size wa).drew);generalize wa.drew=W0 at*;refine rU 0 rfl ?_
    try go_frame
    refine rU 1 rfl ?_
    try go_frame
    refine rU 2 rfl ?_
    try go_frame
    refine rU 3 rfl ?_
    try go_frame
    refine rR [4,8] ?_;refine rC (fun K hK=>?_) (rC (fun K hK=>?_) rN)
    ·go_simp;refine(HGV.out _ B.out).mono ?_;rintro e W1 ⟨c9,rfl,hr,hb⟩;have R9:=qD hr;replace B:=qD (B.out.Ml hb);clear hb hr
     (try go_wp2_with fail)
     clear hHeld;refine hK.out _ _ (KC.out _ (fun g hg=>B.out.block g hg)) fun hHeld=>?_;clear hK K
     try go_frame
     refine rU 5 rfl ?_
     try go_frame
     refine rU 6 rfl ?_
     try go_frame
     refine rU 7 rfl ?_
     try go_frame
     refine rY 8 rfl fun K hK=>?_;go_simp;have hg9:wa.heap.size<=W1.heap.size:=B.out.size;have Q9:Hid (aG (W1.alloc (.cells VC.zero.arr 29)) W1.heap.size 29 VC.zero.arr):=aG.Mm rfl;replace R9:=qD (R9.out.alloc (.cells VC.zero.arr 29));replace B:=qD (B.out.alloc B.out.size (Obj.cells VC.zero.arr 29));change K _ (W1.alloc (.cells VC.zero.arr 29));generalize W1.alloc (.cells VC.zero.arr 29)=W2 at*;generalize W1.heap.size=g9 at*;clear hHeld;refine hK.out _ _ (KC.out _ (fun g hg=>B.out.block g hg)) fun hHeld=>?_;clear hK K
     try go_frame
     refine rY 9 rfl fun K hK=>?_;obtain⟨z0,z1,z2,z3,z4⟩:=aO.Mp Q9.out;have zz:=Q9.out.frozen;have lq:=Q9.out.lt;go_simp;have R9':=qD (R9.out.keep (w':=bM W2 g9 0 c9) fun b hb=>bC (by have:=HFH.out b hb;omega));have Q9':=qD (Q9.out.putV c9);have B':=qD (aW B.out hg9 0 c9);clear z0 z1 z2 z3 z4 zz lq R9 Q9 B;have R9:=R9';have Q9:=Q9';have B:=B';clear R9' Q9' B';change K _ (bM W2 g9 0 c9);generalize bM W2 g9 0 c9=W3 at*;clear hHeld;refine hK.out _ _ (KC.out _ (fun g hg=>B.out.block g hg)) fun hHeld=>?_;clear hK K
     try go_frame
     refine rU 10 rfl ?_
     try go_frame
     refine rD ?_ _;refine PL ?_;go_wp2_with fail;go_meet;exact⟨g9,c9,rfl,rfl,Q9.out,R9.out,by omega,B.out⟩
    ·go_simp;have hg9:wa.heap.size<=W0.heap.size:=B.out.size;have Q9:Hid (aG (W0.alloc (.cells VC.zero.arr 29)) W0.heap.size 29 VC.zero.arr):=aG.Mm rfl;replace B:=qD (B.out.alloc B.out.size (Obj.cells VC.zero.arr 29));change K _ (W0.alloc (.cells VC.zero.arr 29));generalize W0.alloc (.cells VC.zero.arr 29)=W1 at*;generalize W0.heap.size=g9 at*;clear hHeld;refine hK.out _ _ (KC.out _ (fun g hg=>B.out.block g hg)) fun hHeld=>?_;clear hK K
     try go_frame
     refine rY 4 rfl fun K hK=>?_;go_simp;refine(HGV.out _ B.out).mono ?_;rintro e W2 ⟨c9,rfl,hr,hb⟩;have R9:=qD hr;replace Q9:=qD (Q9.out.step hb);replace B:=qD (B.out.Ml hb);clear hb hr
     (try go_wp2_with fail)
     clear hHeld;refine hK.out _ _ (KC.out _ (fun g hg=>B.out.block g hg)) fun hHeld=>?_;clear hK K
     try go_frame
     refine rU 5 rfl ?_
     try go_frame
     refine rU 6 rfl ?_
     try go_frame
     refine rU 7 rfl ?_
     try go_frame
     refine rY 9 rfl fun K hK=>?_;obtain⟨z0,z1,z2,z3,z4⟩:=aO.Mp Q9.out;have zz:=Q9.out.frozen;have lq:=Q9.out.lt;go_simp;have R9':=qD (R9.out.keep (w':=bM W2 g9 0 c9) fun b hb=>bC (by have:=HFH.out b hb;omega));have Q9':=qD (Q9.out.putV c9);have B':=qD (aW B.out hg9 0 c9);clear z0 z1 z2 z3 z4 zz lq R9 Q9 B;have R9:=R9';have Q9:=Q9';have B:=B';clear R9' Q9' B';change K _ (bM W2 g9 0 c9);generalize bM W2 g9 0 c9=W3 at*;clear hHeld;refine hK.out _ _ (KC.out _ (fun g hg=>B.out.block g hg)) fun hHeld=>?_;clear hK K
     try go_frame
     refine rU 10 rfl ?_
     try go_frame
     refine rD ?_ _;refine PL ?_;go_wp2_with fail;go_meet;exact⟨g9,c9,rfl,rfl,Q9.out,R9.out,by omega,B.out⟩
   case rest=>
    obtain⟨g9,c9,rfl,rfl,hg9,hr9,hl9,hb9⟩:=hcut;have BE2:=qD (BE.out.Ml hb9);have G9:=qD hg9;have GR:=qD hr9;clear HGV KC a0 a1 a2 a3 a4 hcw B0 BE HR0 hsz;generalize wc=w2 at*;cases hg:eG x s with
    | none=>
     have HR:Hid (nN F x (s::r) w []):=qD (nN.none (by have:=HK5.out;omega) hg);clear hg hg9 hr9 hb9;go_wp2;go_ret;exact⟨_,0,[],rfl,bP _ _ _ _,rfl,HR.out,BE2.out⟩
    | some y=>
     rw[hg] at GR;have HGY:=qD hg;clear hg hg9 hr9 hb9;go_upto_region 6 with fail
     obtain⟨g0,g1,g2,g3,g4⟩:=aO.Mp G9.out;have G9L:=qD G9.out.lt
     have KS:Hid (∀w':World,Bl w2 w'->w'.cell? ⟨g9,0,none⟩=some (.int .i64 c9.k)/\w'.cell? ⟨g9,1,none⟩=some (.int .i64 c9.n)/\w'.cell? ⟨g9,2,none⟩=some (.string c9.t)/\w'.cell? ⟨g9,3,none⟩=some (.slice c9.LA c9.ln c9.lc)/\w'.cell? ⟨g9,4,none⟩=some (.slice c9.DA c9.dn c9.dc)):=qD fun w' hk=>by
      have p0:∀o,w'.cell? ⟨g9,o,none⟩=w2.cell? ⟨g9,o,none⟩:=fun o=>PE (w:=w2) (a:=⟨g9,o,none⟩) (hk.block g9 G9L.out);exact⟨(p0 _).trans g0,(p0 _).trans g1,(p0 _).trans g2,(p0 _).trans g3,(p0 _).trans g4⟩
     have B:=qD ((OG w2.heap.size w2).drewN 1)
     have HYZ:Hid (y.size*2^r.length<=34359738368):=qD (by
      have h1:=HZ.out
      have h2:y.size*2^r.length<=x.size*2^(s::r).length:=QL (Sl (cy (tp HGY.out))) (Qi oM sM)
      omega)
     by_cases hc1:cc=1
     ·subst hc1;obtain rfl:n=1:=oM
      have HT2:=HT.out;rw[OW rfl,SJ] at HT2;replace HT2:=qD HT2;have HRK:=qD fun(wq:World) (hq:Bl w2 wq)=>HIH.out y (tp HGY.out) F r c9 _ _ _ wq (fun b hb=>by have h1:=HFH.out b hb;have h2:=BE2.out.size;have h3:=hq.size;omega) (GR.out.step hq) ((HT2.out.step BE2.out).step hq) HYZ.out;clear HT;refine PH ?_;refine Oy (S:=(fun w'=>w'.cell? ⟨g9,0,none⟩=some (.int .i64 c9.k)/\w'.cell? ⟨g9,1,none⟩=some (.int .i64 c9.n)/\w'.cell? ⟨g9,2,none⟩=some (.string c9.t)/\w'.cell? ⟨g9,3,none⟩=some (.slice c9.LA c9.ln c9.lc)/\w'.cell? ⟨g9,4,none⟩=some (.slice c9.DA c9.dn c9.dc))) kR ?_ (fun hHeld=>?_)
      ·(try dsimp only);exact KS.out _ B.out
      refine rU 0 rfl ?_
      try go_frame
      refine rU 1 rfl ?_
      try go_frame
      refine rU 2 rfl ?_
      try go_frame
      refine rY 3 rfl fun K hK=>?_;go_simp;refine(HRK.out _ B.out).mono ?_;rintro e W1 ⟨v1,m1,qs,rfl,ho,hlq,hps,hb⟩;have HOW:=qD (kE (BE2.out.Ml B.out).size ho);have HPS:=qD (nN.some HK5.out HGY.out (hps.back (BE2.out.Ml B.out) HFH.out));have HLQ:=qD hlq;replace B:=qD (B.out.Ml hb);clear hb ho hlq hps
      (try go_wp2_with fail)
      clear hHeld;refine hK.out _ _ (KS.out _ B.out) fun hHeld=>?_;clear hK K
      try go_frame
      refine rU 4 rfl ?_
      try go_frame
      refine rD ?_ _;refine PL ?_;clear hHeld
      all_goals
       go_wp2;go_ret;exact⟨v1,m1,qs,rfl,HOW.out,HLQ.out,HPS.out,BE2.out.Ml B.out⟩
     ·have HT2:=HT.out;rw[OQ hc1] at HT2;replace HT2:=qD HT2;have HRK:=qD fun(wq:World) (hq:Bl w2 wq)=>HIH.out y (tp HGY.out) F r c9 _ _ _ wq (fun b hb=>by have h1:=HFH.out b hb;have h2:=BE2.out.size;have h3:=hq.size;omega) (GR.out.step hq) ((HT2.out.step BE2.out).step hq) HYZ.out;clear HT;refine PH ?_;refine Oy (S:=(fun w'=>w'.cell? ⟨g9,0,none⟩=some (.int .i64 c9.k)/\w'.cell? ⟨g9,1,none⟩=some (.int .i64 c9.n)/\w'.cell? ⟨g9,2,none⟩=some (.string c9.t)/\w'.cell? ⟨g9,3,none⟩=some (.slice c9.LA c9.ln c9.lc)/\w'.cell? ⟨g9,4,none⟩=some (.slice c9.DA c9.dn c9.dc))) kR ?_ (fun hHeld=>?_)
      ·(try dsimp only);exact KS.out _ B.out
      refine rU 0 rfl ?_
      try go_frame
      refine rU 1 rfl ?_
      try go_frame
      refine rU 2 rfl ?_
      try go_frame
      refine rY 3 rfl fun K hK=>?_;go_simp;refine(HRK.out _ B.out).mono ?_;rintro e W1 ⟨v1,m1,qs,rfl,ho,hlq,hps,hb⟩;have HOW:=qD (kE (BE2.out.Ml B.out).size ho);have HPS:=qD (nN.some HK5.out HGY.out (hps.back (BE2.out.Ml B.out) HFH.out));have HLQ:=qD hlq;replace B:=qD (B.out.Ml hb);clear hb ho hlq hps
      (try go_wp2_with fail)
      clear hHeld;refine hK.out _ _ (KS.out _ B.out) fun hHeld=>?_;clear hK K
      try go_frame
      refine rU 4 rfl ?_
      try go_frame
      refine rD ?_ _;refine PL ?_;clear hHeld
      all_goals
       go_wp2;go_ret;exact⟨v1,m1,qs,rfl,HOW.out,HLQ.out,HPS.out,BE2.out.Ml B.out⟩
  have h5b:(c.k==5)=false:=by simpa using h5
  by_cases h6:c.k=6
  ·have HK6:Hid (x.k=6):=by unfold Hid;rw[<-hk.out];exact h6
   have h6b:(c.k != 6)=false:=by simpa using h6
   obtain⟨ps0,hps0,hsl⟩:=RV.sl h;have HSL:=qD hsl;have HPX:=qD hps0
   have HLL:Hid (x.l.length=c.ln):=by
    have h1:=hsl.sr.ln;rw[<-hps0,Oe];exact qD h1.symm
   have hlz:(c.ln:Int)<=1759218604441:=by have:=hsl.sz;unfold aF at this;omega
   have hcw:=(BE.out.cell (p:=⟨b,off,none⟩) hbw).trans hcell;have HCW:=qD hcw;have lbb:=qD (Ol hbw BE.out.size)
   have HEL:Hid (∀i,i<c.ln->∃(eb eo:Nat) (p:PV),c.LA=some ⟨eb,eo,none⟩/\eb<w.heap.size/\aO w eb (eo+i*5) p.1/\RV F w p.1 p.2/\x.l[i]?=some p.2):=qD fun i hi=>by
    have hi0:i<ps0.length:=by rw[<-HSL.out.sr.ln];exact hi
    have hq:ps0[i]?=some ps0[i]:=OH hi0;obtain⟨eb,eo,e,hFb,hva,hrv⟩:=HSL.out.Mw hq;exact⟨eb,eo,ps0[i],e,HFH.out eb hFb,hva,hrv,by rw[<-HPX.out,OT,hq];rfl⟩
   clear h5 h6 h hp ih hF hs hz hk hcell hps0 hsl hcw HR0;go_upto_region 12 with fail
   go_loopw [7,8] (fun v7 v8 wr=>∃(i m:Nat) (ps:List PV),i<=c.ln/\v8=.int .i64 i/\sR F x (s::r) w wa i m v7 ps wr) (fun _ v8 _=>c.ln-(intOf v8).toNat)
   ·exact⟨0,0,[],ON _,rfl,bP _ _ _ _,rfl,OG _ _,by simp,by simp,ON _,by simp⟩
   case round=>
    obtain⟨i,m,ps,hi,rfl,hI⟩:=hrel;have HI:=qD hI;have D0:=qD (B0.out.step hI.bel);clear hI a0 a1 a2 a3 a4;obtain⟨a0,a1,a2,a3,a4⟩:=aO.Mp D0.out;have cl:∀{x:Addr} {v:Value},x.block<w.heap.size->w.cell? x=some v->wr.cell? x=some v:=fun hl hc=>((BE.out.Ml HI.out.bel).cell hl).trans hc;by_cases hlt:i<c.ln
    ·obtain⟨eb,eo,p,hA,hlb,hva,hrv,hxi⟩:=HEL.out i hlt;have HXI:=qD hxi;have HRV:=qD hrv;obtain⟨e0,e1,e2,e3,e4⟩:=hva;replace e0:=cl hlb e0;replace e1:=cl hlb e1;replace e2:=cl hlb e2;replace e3:=cl hlb e3;replace e4:=cl hlb e4;rw[hA] at a3;have q0:(0:Int)<=(i:Int):=oM
     have q1:(i:Int)<(c.ln:Int):=oM
     clear cl hxi hrv hA;by_cases hp5:p.1.k=5
     ·have HY5:Hid (p.2.k=5):=by unfold Hid;rw[<-HRV.out.open.k];exact hp5
      have hpb:(p.1.k==5)=true:=by simpa using hp5
      have HPP:Hid (p.2∈x.parts):=qD (mu HK6.out (OJ HXI.out));have HPZ:Hid (p.2.size*2^(s::r).length<=34359738368):=qD (OU (Ot _ (Sl (cy HPP.out))) HZ.out);have HB:=qD (BE.out.Ml HI.out.bel);clear hp5;go_wp2_with fail;refine(HIH.out p.2 HPP.out F (s::r) p.1 _ _ _ wr (fun b hb=>Ol (HFH.out b hb) HB.out.size) (HRV.out.keep fun b hb=>HB.out.block b (HFH.out b hb)) (HP0.out.step HB.out) HPZ.out).mono ?_;rintro e w1 ⟨v1,m1,qs,rfl,ho,hlq,hps,hb⟩;have HPS:=qD (hps.back HB.out HFH.out);replace HI:=qD (HI.out.step hb);have HLQ:=qD hlq;obtain⟨A1,c1,rfl,hsr⟩:=SR.Mq cB ho hlq;have HSR:=qD (hsr.reads cB dE);have hsm:m+m1<=34359738368:=HI.out.No HXI.out HK6.out HPS.out HY5.out sM HLQ.out HZ.out;have hlo:wa.heap.size<=w1.heap.size:=HI.out.bel.size;clear hb ho hlq hps hsr a0 a1 a2 a3 a4 e0 e1 e2 e3 e4;go_wp2_with (at_builtin;refine aE _ rfl _ _ 26 rfl wa.heap.size 29 j0 VC.zero.val 5 80 PM hj0 hy0 hy1 hy2 rfl dE u7 m (aN bD ps) rfl HI.out.own _ _ m1 _ (aN bD qs) rfl HSR.out (ju cq qs) (by unfold maxLen;omega) oM hlo ?_);intro v7 w3 hown hgr hat;have HN:=qD (HI.out.add HXI.out HK6.out HPS.out HY5.out sM HLQ.out hown hgr);clear hown hgr hat;go_wp2_with fail;go_roundw
      ·exact⟨i+1,m+m1,ps++qs,by omega,by go_num,HN.out⟩
      ·exact iO
     ·have hpb:(p.1.k==5)=false:=by simpa using hp5
      have HN:=qD (HI.out.skip HXI.out (by rw[<-HRV.out.open.k];exact hp5));clear hp5;go_wp2_with fail;go_roundw
      ·exact⟨i+1,m,ps,by omega,by go_num,HN.out⟩
      ·exact iO
    ·obtain rfl:i=c.ln:=oM
     have e9:wr.cell? ⟨b,off,none⟩=some (.string s):=(HI.out.bel.cell lbb.out).trans HCW.out;clear cl hlt;go_wp2_with fail;refine(xU s wr).mono ?_;rintro e w1 ⟨nn,bb,rfl,hnn,hsn,hb⟩;have HSN0:=qD hsn;clear hsn;replace HI:=qD (HI.out.step hb);replace D0:=qD (D0.out.step hb);clear hb a0 a1 a2 a3 a4 e9;obtain⟨a0,a1,a2,a3,a4⟩:=aO.Mp D0.out;cases bb
     ·go_wp2;go_ret;exact⟨u7,m,ps,rfl,kE BE.out.size HI.out.own,HI.out.ln,HI.out.fin HK6.out HLL.out (fun n hn=>by have k:=HSN0.out;rw[hn] at k;cases k),BE.out.Ml HI.out.bel⟩
     have HSN:Hid (lB s=some nn):=HSN0.out;clear HSN0;by_cases hnl:nn<c.ln
     ·have q1:(nn:Int)<(c.ln:Int):=oM
      have q0:(0:Int)<=(nn:Int):=oM
      obtain⟨eb,eo,p,hA,hlb,hva,hrv,hxi⟩:=HEL.out nn hnl;have HRV:=qD hrv;have HPY:Hid (p.2∈x.l):=qD (OJ hxi);have HYN:=qD hxi;clear hxi;have cl:∀{x:Addr} {v:Value},x.block<w.heap.size->w.cell? x=some v->w1.cell? x=some v:=fun hl hc=>((BE.out.Ml HI.out.bel).cell hl).trans hc;have hva0:=qD hva;obtain⟨e0,e1,e2,e3,e4⟩:=hva;replace e0:=cl hlb e0;replace e1:=cl hlb e1;replace e2:=cl hlb e2;replace e3:=cl hlb e3;replace e4:=cl hlb e4;rw[hA] at a3;have leb:eb<w1.heap.size:=Ol hlb (BE.out.Ml HI.out.bel).size;go_upto_region 18 with fail
      have KS:Hid (∀w',Bl w1 w'->(fun w'=>w'.cell? ⟨w.heap.size,3,none⟩=some (.slice (some ⟨eb,eo,none⟩) c.ln c.lc)/\w'.cell? ⟨eb,eo+nn*5,none⟩=some (.int .i64 p.1.k)/\w'.cell? ⟨eb,eo+nn*5+1,none⟩=some (.int .i64 p.1.n)/\w'.cell? ⟨eb,eo+nn*5+2,none⟩=some (.string p.1.t)/\w'.cell? ⟨eb,eo+nn*5+3,none⟩=some (.slice p.1.LA p.1.ln p.1.lc)/\w'.cell? ⟨eb,eo+nn*5+4,none⟩=some (.slice p.1.DA p.1.dn p.1.dc)) w'):=qD fun w' hk=>by
       have p0:∀o,w'.cell? ⟨w.heap.size,o,none⟩=w1.cell? ⟨w.heap.size,o,none⟩:=fun o=>PE (w:=w1) (a:=⟨w.heap.size,o,none⟩) (hk.block _ D0.out.lt);have p1:∀o,w'.cell? ⟨eb,o,none⟩=w1.cell? ⟨eb,o,none⟩:=fun o=>PE (w:=w1) (a:=⟨eb,o,none⟩) (hk.block _ leb);exact⟨(p0 _).trans a3,(p1 _).trans e0,(p1 _).trans e1,(p1 _).trans e2,(p1 _).trans e3,(p1 _).trans e4⟩
      have KS2:Hid (∀w',Bl wa w'->(fun w'=>w'.cell? ⟨w.heap.size,3,none⟩=some (.slice (some ⟨eb,eo,none⟩) c.ln c.lc)/\w'.cell? ⟨eb,eo+nn*5,none⟩=some (.int .i64 p.1.k)/\w'.cell? ⟨eb,eo+nn*5+1,none⟩=some (.int .i64 p.1.n)/\w'.cell? ⟨eb,eo+nn*5+2,none⟩=some (.string p.1.t)/\w'.cell? ⟨eb,eo+nn*5+3,none⟩=some (.slice p.1.LA p.1.ln p.1.lc)/\w'.cell? ⟨eb,eo+nn*5+4,none⟩=some (.slice p.1.DA p.1.dn p.1.dc)) w'):=qD fun w' hk=>by
       have hbb:=BE.out.Ml hk;have q3:=aO.Mn (B0.out.step hk);have p1:∀o,w'.cell? ⟨eb,o,none⟩=w.cell? ⟨eb,o,none⟩:=fun o=>PE (w:=w) (a:=⟨eb,o,none⟩) (hbb.block _ hlb);obtain⟨f0,f1,f2,f3,f4⟩:=hva0.out;have q33:=q3.2.2.2.1;simp only[OX] at q33;rw[hA] at q33;exact⟨q33,(p1 _).trans f0,(p1 _).trans f1,(p1 _).trans f2,(p1 _).trans f3,(p1 _).trans f4⟩
      have HYZ:Hid (p.2.size*2^r.length<=34359738368):=qD (by
       have h1:=HZ.out
       have h2:p.2.size*2^r.length<=x.size*2^(s::r).length:=QL (Sl (cy (mu HK6.out HPY.out))) (Qi oM sM)
       omega)
      have HB:=qD (BE.out.Ml HI.out.bel);have B:=qD ((OG w1.heap.size w1).drewN 1);clear a0 a1 a2 a3 a4 e0 e1 e2 e3 e4 cl;by_cases hc1:cc=1
      ·subst hc1;obtain rfl:n=1:=oM
       have HT2:=HT.out;rw[OW rfl,SJ] at HT2;replace HT2:=qD HT2;have HRK:=qD fun(wq:World) (hq:Bl w1 wq)=>HIH.out p.2 (mu HK6.out HPY.out) F r p.1 _ _ _ wq (fun b hb=>by have h1:=HFH.out b hb;have h2:=HB.out.size;have h3:=hq.size;omega) ((HRV.out.keep fun b hb=>HB.out.block b (HFH.out b hb)).step hq) ((HT2.out.step HB.out).step hq) HYZ.out;clear HT;refine PH ?_;refine Oy (S:=(fun w'=>w'.cell? ⟨w.heap.size,3,none⟩=some (.slice (some ⟨eb,eo,none⟩) c.ln c.lc)/\w'.cell? ⟨eb,eo+nn*5,none⟩=some (.int .i64 p.1.k)/\w'.cell? ⟨eb,eo+nn*5+1,none⟩=some (.int .i64 p.1.n)/\w'.cell? ⟨eb,eo+nn*5+2,none⟩=some (.string p.1.t)/\w'.cell? ⟨eb,eo+nn*5+3,none⟩=some (.slice p.1.LA p.1.ln p.1.lc)/\w'.cell? ⟨eb,eo+nn*5+4,none⟩=some (.slice p.1.DA p.1.dn p.1.dc))) kR ?_ (fun hHeld=>?_)
       ·(try dsimp only);exact KS.out _ B.out
       refine rU 0 rfl ?_
       try go_frame
       refine rU 1 rfl ?_
       try go_frame
       refine rU 2 rfl ?_
       try go_frame
       refine rU 3 rfl ?_
       try go_frame
       refine rU 4 rfl ?_
       try go_frame
       refine rU 5 rfl ?_
       try go_frame
       refine rU 6 rfl ?_
       try go_frame
       refine rU 7 rfl ?_
       try go_frame
       refine rY 8 rfl fun K hK=>?_;go_simp;refine(HRK.out _ B.out).mono ?_;rintro e W1 ⟨v1,m1,qs,rfl,ho,hlq,hps,hb⟩;have HPS:=qD (hps.back (BE.out.Ml (HI.out.bel.Ml B.out)) HFH.out);replace B:=qD (B.out.Ml hb);have HOQ:=qD ho;have HLQ:=qD hlq;clear hb ho hlq hps
       (try go_wp2_with fail)
       clear hHeld;refine hK.out _ _ (KS.out _ B.out) fun hHeld=>?_;clear hK K
       try go_frame
       refine rY 9 rfl fun K hK=>?_;obtain⟨A1,c1,rfl,hsr⟩:=SR.Mq cB HOQ.out HLQ.out;have HSR:=qD (hsr.reads cB dE);have HI2:=qD (HI.out.step B.out);have hsm:m+m1<=34359738368:=HI2.out.Nb HK6.out HPY.out HPS.out HLQ.out HZ.out;refine fC _ (.tmp 73) (.tmp 81) 26 rfl wa.heap.size 29 j0 VC.zero.val 5 80 PM hj0 hy0 hy1 hy2 rfl dE u7 m (aN bD ps) rfl HI2.out.own _ (A1) m1 c1 (aN bD qs) rfl HSR.out (ju cq qs) (by unfold maxLen;omega) oM (OU HI2.out.bel.size (qL)) ?_;intro v7 W2 hown hgr hat;have HIN:=qD (HI2.out.Nq HK6.out HLL.out HSN.out HYN.out HPY.out HPS.out HLQ.out hown hgr);clear hown hgr hat hsr;clear hHeld;refine hK.out _ _ (KS2.out _ HIN.out.2.2) fun hHeld=>?_;clear hK K
       try go_frame
       refine rU 10 rfl ?_
       try go_frame
       refine rD ?_ _;refine PL ?_;clear hHeld
       all_goals
        go_wp2;go_ret;exact⟨v7,m+m1,ps++qs,rfl,kE BE.out.size HIN.out.2.1,by rw[OK,HI.out.ln,HLQ.out],HIN.out.1,BE.out.Ml HIN.out.2.2⟩
      ·have HT2:=HT.out;rw[OQ hc1] at HT2;replace HT2:=qD HT2;have HRK:=qD fun(wq:World) (hq:Bl w1 wq)=>HIH.out p.2 (mu HK6.out HPY.out) F r p.1 _ _ _ wq (fun b hb=>by have h1:=HFH.out b hb;have h2:=HB.out.size;have h3:=hq.size;omega) ((HRV.out.keep fun b hb=>HB.out.block b (HFH.out b hb)).step hq) ((HT2.out.step HB.out).step hq) HYZ.out;clear HT;refine PH ?_;refine Oy (S:=(fun w'=>w'.cell? ⟨w.heap.size,3,none⟩=some (.slice (some ⟨eb,eo,none⟩) c.ln c.lc)/\w'.cell? ⟨eb,eo+nn*5,none⟩=some (.int .i64 p.1.k)/\w'.cell? ⟨eb,eo+nn*5+1,none⟩=some (.int .i64 p.1.n)/\w'.cell? ⟨eb,eo+nn*5+2,none⟩=some (.string p.1.t)/\w'.cell? ⟨eb,eo+nn*5+3,none⟩=some (.slice p.1.LA p.1.ln p.1.lc)/\w'.cell? ⟨eb,eo+nn*5+4,none⟩=some (.slice p.1.DA p.1.dn p.1.dc))) kR ?_ (fun hHeld=>?_)
       ·(try dsimp only);exact KS.out _ B.out
       refine rU 0 rfl ?_
       try go_frame
       refine rU 1 rfl ?_
       try go_frame
       refine rU 2 rfl ?_
       try go_frame
       refine rU 3 rfl ?_
       try go_frame
       refine rU 4 rfl ?_
       try go_frame
       refine rU 5 rfl ?_
       try go_frame
       refine rU 6 rfl ?_
       try go_frame
       refine rU 7 rfl ?_
       try go_frame
       refine rY 8 rfl fun K hK=>?_;go_simp;refine(HRK.out _ B.out).mono ?_;rintro e W1 ⟨v1,m1,qs,rfl,ho,hlq,hps,hb⟩;have HPS:=qD (hps.back (BE.out.Ml (HI.out.bel.Ml B.out)) HFH.out);replace B:=qD (B.out.Ml hb);have HOQ:=qD ho;have HLQ:=qD hlq;clear hb ho hlq hps
       (try go_wp2_with fail)
       clear hHeld;refine hK.out _ _ (KS.out _ B.out) fun hHeld=>?_;clear hK K
       try go_frame
       refine rY 9 rfl fun K hK=>?_;obtain⟨A1,c1,rfl,hsr⟩:=SR.Mq cB HOQ.out HLQ.out;have HSR:=qD (hsr.reads cB dE);have HI2:=qD (HI.out.step B.out);have hsm:m+m1<=34359738368:=HI2.out.Nb HK6.out HPY.out HPS.out HLQ.out HZ.out;refine fC _ (.tmp 73) (.tmp 81) 26 rfl wa.heap.size 29 j0 VC.zero.val 5 80 PM hj0 hy0 hy1 hy2 rfl dE u7 m (aN bD ps) rfl HI2.out.own _ (A1) m1 c1 (aN bD qs) rfl HSR.out (ju cq qs) (by unfold maxLen;omega) oM (OU HI2.out.bel.size (qL)) ?_;intro v7 W2 hown hgr hat;have HIN:=qD (HI2.out.Nq HK6.out HLL.out HSN.out HYN.out HPY.out HPS.out HLQ.out hown hgr);clear hown hgr hat hsr;clear hHeld;refine hK.out _ _ (KS2.out _ HIN.out.2.2) fun hHeld=>?_;clear hK K
       try go_frame
       refine rU 10 rfl ?_
       try go_frame
       refine rD ?_ _;refine PL ?_;clear hHeld
       all_goals
        go_wp2;go_ret;exact⟨v7,m+m1,ps++qs,rfl,kE BE.out.size HIN.out.2.1,by rw[OK,HI.out.ln,HLQ.out],HIN.out.1,BE.out.Ml HIN.out.2.2⟩
     ·have q1:¬(nn:Int)<(c.ln:Int):=oM
      go_wp2;go_ret;exact⟨u7,m,ps,rfl,kE BE.out.size HI.out.own,HI.out.ln,HI.out.fin HK6.out HLL.out (fun n hn=>by have k:=HSN.out;rw[hn] at k;injection k with k;subst k;exact List.getElem?_eq_none (by rw[HLL.out];omega)),BE.out.Ml HI.out.bel⟩
  ·have HR:Hid (nN F x (s::r) w []):=qD (nN.none (by rw[<-hk.out];exact h6) (pD s (by rw[<-hk.out];exact h5)));have h6b:(c.k != 6)=true:=by simpa using h6
   clear h5 h6 hk h hp ih hF hs hz;go_wp2;go_ret;exact⟨_,0,[],rfl,bP _ _ _ _,rfl,HR.out,BE.out⟩
theorem SR.Mw{ps:List PV}(h:SR 5 bD w A n c ps){p:PV}(hi:ps[i]?=some p):∃b off,A=some ⟨b,off,none⟩/\b<w.heap.size/\aO w b (off+i*5) p.1:=by
 have hn:0<n:=by have:=(OI.1 hi).1;have:=h.ln;omega
 obtain⟨b,off,e,hb,hel⟩:=h.el hn;exact⟨b,off,e,hb,nH fun j v hj=>hel i p hi j v hj⟩
theorem Db{a:Nat}(h:a<=w.heap.size)(o:Obj):a<=(w.alloc o).heap.size:=by simp;omega
end
theorem dN.size{x y:aC}(h:dN y x):y.size<=x.size:=by
 induction h with
 | refl=>exact qL
 | part hz _ ih=>exact OU ih (Sl (cy hz))
section
variable {k:Nat} {x y:Int} {l:List ByteArray}
theorem rm:∀{l:List ByteArray} {x y:aC},cT x l=some y->y.k≠6:=by
 intro l
 induction l with
 | nil=>
  intro x y h h6;rw[cT] at h;split at h
  ·cases h
  ·injection h with h;subst h;contradiction
 | cons s r ih=>
  intro x y h;rw[cT] at h;split at h
  ·cases h
  ·split at h
   ·injection h with h;subst h;decide
   ·exact ih h
end
structure Jz(F:Nat->Prop)(x:aC)(zs:List aC)(w:World)(ps:List PV):Prop where
 rv:∀p∈ps,RV F w p.1 p.2
 sub:∀p∈ps,dN p.2 x\/p.2=aC.zero
 fn:ps.map Prod.snd=zs
section
variable {b n c size K:Nat} {w w':World} {x y:Int} {l:List ByteArray} {A:Option Addr} {F:Nat -> Prop}
def uq(F:Nat->Prop)(x:aC)(zs:List aC)(K:Nat)(w:World)(e:Ending)(w':World):Prop:=
 ∃A m c ps,e=.returned (.slice A m c)/\SR 5 bD w' A m c ps/\Jz F x zs w ps/\m<=K/\Bl w w'
theorem Jz.back{x:aC}{zs:List aC}{ps:List PV}(h:Jz F x zs w' ps)(hb:Bl w w')(hF:∀b,F b->b<w.heap.size):Jz F x zs w ps:=
 ⟨fun p hp=>(h.rv p hp).keep fun b hFb=>(hb.block b (hF b hFb)).symm,h.sub,h.fn⟩
noncomputable def nO(x:aC)(l:List ByteArray):List aC:=if fp x l=[] then [aC.zero] else fp x l
theorem nN.lf{x:aC}{ps:List PV}(h:nN F x l w ps)(hne:ps≠[]):Jz F x (nO x l) w ps:=
 ⟨h.rv,fun p hp=>.inl (h.sub p hp),by
  rw[nO,OQ]
  ·exact h.fn
  ·rw[<-h.fn]
   simpa using hne⟩
theorem nN.OA{x:aC}(h:nN F x l w []):Jz F x (nO x l) w [(VC.zero,aC.zero)]:=
 ⟨fun p hp=>by rw[Ox.1 hp];exact RV.zero,fun p hp=>by rw[Ox.1 hp];exact .inr rfl,by
  rw[nO,OW (by rw[<-h.fn];rfl)]
  rfl⟩
theorem IW(x:aC)(l:List ByteArray):1<=x.size*2^l.length:=Nat.mul_pos (fB x) (Nat.pow_pos oM)
theorem tu(x:aC)(F:Nat->Prop)(l:List ByteArray)(c:VC)(A:Option Addr)(n cc:Nat)(w:World)(hF:∀b,F b->b<w.heap.size)(h:RV F w c x)(hp:ST w A n cc l)(hz:x.size*2^l.length<=34359738368):
 Calls prog 137 #[c.val,.slice A n cc] w (uq F x (nO x l) (x.size*2^l.length) w):=by
 have BE:Hid (Bl w (w.alloc (.cells c.arr 29))):=(OG _ _).alloc (qL) _;have B0:Hid (aG (w.alloc (.cells c.arr 29)) w.heap.size 29 c.arr):=aG.Mm rfl;have HFH:=qD hF;have HPA:=qD (GA x F l c A n cc (w.alloc (.cells c.arr 29)) (fun b hb=>Ol (hF b hb) BE.out.size) (h.alloc _) (hp.step BE.out) hz);clear h hp hF hz;go_enter func137,ntmps137;go_upto_region 1 with fail
 change Code.wp _ _ _ _ (w.alloc (.cells c.arr 29));generalize w.alloc (.cells c.arr 29)=wa at*;obtain⟨a0,a1,a2,a3,a4⟩:=aO.Mp B0.out;go_wp2_with fail;refine HPA.out.mono ?_;rintro e w1 ⟨v,m,ps,rfl,ho,hl,hps,hb⟩;obtain⟨A1,c1,rfl,hsr⟩:=SR.Mq cB ho hl;have HPS:=qD (hps.back BE.out HFH.out);have HSR:=qD hsr;have HL:=qD hl;have HB:=qD (BE.out.Ml hb);clear ho hl hps hb hsr a0 a1 a2 a3 a4 HPA;rcases PZ m with hm|hm
 ·subst hm;have HE:Hid (ps=[]):=qD (OL HL.out);rw[HE.out] at HPS;go_wp2;go_ret
  exact⟨_,1,1,[(VC.zero,aC.zero)],rfl,⟨rfl,qL,fun _=>⟨_,0,rfl,(aG.Mm rfl).lt,fun i a hi j v hj=>by
   cases i with
   | zero=>
    simp at hi
    subst hi
    have hq:=ag w1 29 (bD (VC.zero,aC.zero)) j v hj
    rw[cW] at hq
    rw[show 0+0*5+j=0+j by omega]
    exact hq
     | succ i=>simp at hi⟩⟩,HPS.out.OA,IW x l,HB.out.alloc HB.out.size _⟩
 ·have hmb:((m:Int)==0)=false:=by simp;omega
  have HNE:Hid (ps≠[]):=qD (fun e=>by have h1:=HL.out;rw[e] at h1;simp at h1;omega);go_wp2;go_ret;exact⟨_,m,_,ps,rfl,HSR.out,HPS.out.lf HNE.out,by rw[<-HL.out];exact HPS.out.cnt,HB.out⟩
def fx(y:aC):List aC:=y::(if y.k=6 then y.l else [])
theorem rp{x y:aC}(h:dN y x\/y=aC.zero):(fx y).length<=x.size:=by
 have hs:(fx y).length<=y.size:=by
  unfold fx;by_cases h6:y.k=6
  ·rw[OW h6,xV h6]
   have:∀l:List aC,l.length<=bE l:=by
    intro l
    induction l with
    | nil=>exact qL
    | cons a r ih=>have:=fB a;simp only[OZ,bE];omega
   have:=this y.l;simp only[OZ];omega
  ·rw[OQ h6];exact fB y
 rcases h with h|h
 ·exact OU hs h.size
 ·subst h;exact fB x
theorem Bh:∀{zs:List aC},(∀y∈zs,(fx y).length<=K)->(zs.flatMap fx).length<=zs.length*K:=by
 intro zs
 induction zs with
 | nil=>intro _;simp
 | cons a r ih=>
  intro h;have h1:=h a sM;have h2:=ih fun y hy=>h y (by simp[hy]);simp only[List.flatMap_cons,OK,OZ,QJ];omega
end
structure KD(F:Nat->Prop)(x:aC)(w wa:World)(m:Nat)(v:Value)(ps:List PV)(wr:World):Prop where
 own:wr.ownsRow wa.heap.size 29 5 v m (aN bD ps)
 ln:ps.length=m
 bel:Bl wa wr
 rv:∀p∈ps,RV F w p.1 p.2
 sub:∀p∈ps,dN p.2 x\/p.2=aC.zero
section
variable {k b n g m i c ln dn lc off size dc S:Nat} {w w' wr:World} {t:TypeId} {a op x y d:Int} {l ys:List ByteArray} {v v':Value} {s:ByteArray} {A LA DA:Option Addr} {F:Nat -> Prop}
section
variable {F:Nat->Prop} {x:aC} {w wa wr w':World} {m m2:Nat} {v v':Value} {ps qs:List PV}
theorem KD.step(h:KD F x w wa m v ps wr)(hb:Bl wr w'):KD F x w wa m v ps w':=⟨af h.own hb,h.ln,h.bel.Ml hb,h.rv,h.sub⟩
theorem KD.add(h:KD F x w wa m v ps wr)(h1:∀p∈qs,RV F w p.1 p.2)(h3:∀p∈qs,dN p.2 x\/p.2=aC.zero)(h2:qs.length=m2)(ho:w'.ownsRow wa.heap.size 29 5 v' (m+m2) (aN bD ps++aN bD qs))(hg:wr.grownBy w' v.ownBlock):KD F x w wa (m+m2) v' (ps++qs) w':=by
 refine⟨by rw[dT];exact ho,by rw[OK,h.ln,h2],h.bel.grown hg h.bel.size (ak h.own),fun p hp=>?_,fun p hp=>?_⟩
 ·rcases OP.1 hp with hp|hp
  ·exact h.rv p hp
  ·exact h1 p hp
 ·rcases OP.1 hp with hp|hp
  ·exact h.sub p hp
  ·exact h3 p hp
end
theorem KE{x y z:aC}(h:dN y x\/y=aC.zero)(h6:y.k=6)(hz:z∈y.l):dN z x:=by
 rcases h with h|h
 ·have:∀{y x:aC},dN y x->∀z,z∈y.parts->dN z x:=by
   intro y x h
   induction h with
   | refl=>intro z hz;exact .part hz (.refl z)
   | part hq _ ih=>intro z hz;exact .part hq (ih z hz)
  exact this h z (mu h6 hz)
 ·subst h;exact absurd h6 dE
noncomputable def ch(x:aC)(l:List ByteArray):List aC:=(nO x l).flatMap fx
theorem GB{x y:aC}(h:cT x l=some y):ch x l=[y]\/(ch x l=[aC.zero]/\y=cR):=by
 unfold ch nO;rcases Fx h with e|⟨e,e2⟩
 ·left;rw[OQ (by rw[e];simp),e];simp[fx,rm h]
 ·right;rw[OW e];exact⟨rfl,e2⟩
theorem Dc{ys:List PV}{p:PV}(h:ys[i]?=some p):((ys.map Prod.snd).take (i+1)).flatMap fx=((ys.map Prod.snd).take i).flatMap fx++fx p.2:=by
 rw[Pf,OT,h,List.flatMap_append];simp
theorem nP(x:aC)(F:Nat->Prop)(l:List ByteArray)(c:VC)(A:Option Addr)(n cc:Nat)(w:World)(hF:∀b,F b->b<w.heap.size)(h:RV F w c x)(hp:ST w A n cc l)(hz:x.size<=1024)(hl:l.length<=16):
 Calls prog 100 #[c.val,.slice A n cc] w (uq F x (ch x l) 68719476736 w):=by
 obtain⟨j0,hj0,hy0,hy1,hy2⟩:=Pb dB;have hK:x.size*2^l.length<=67108864:=QL hz (Qi (n:=2) oM hl);have HK:=qD hK;have HXZ:=qD hz;have BE:Hid (Bl w (w.alloc (.cells c.arr 29))):=(OG _ _).alloc (qL) _;have B0:Hid (aG (w.alloc (.cells c.arr 29)) w.heap.size 29 c.arr):=aG.Mm rfl;have HFH:=qD hF;have HPA:=qD (tu x F l c A n cc (w.alloc (.cells c.arr 29)) (fun b hb=>Ol (hF b hb) BE.out.size) (h.alloc _) (hp.step BE.out) oM);clear h hp hF hz hl hK;go_enter func100,ntmps100;go_upto_region 1 with fail
 change Code.wp _ _ _ _ (w.alloc (.cells c.arr 29));generalize w.alloc (.cells c.arr 29)=wa at*;obtain⟨a0,a1,a2,a3,a4⟩:=aO.Mp B0.out;go_upto_region 2 with(refine HPA.out.mono ?_;rintro e w1 ⟨A1,M,c1,ys,rfl,hsr,hps,hM,hb⟩;have HSR:=qD hsr;have HPS:=qD (hps.back BE.out HFH.out);have HM:=qD (OU hM HK.out);have HB:=qD (BE.out.Ml hb);clear hsr hps hM hb)
 clear a0 a1 a2 a3 a4 HPA B0 BE;have hM:M<=67108864:=HM.out;go_upto_region 4 with fail
 go_loopw [6,7] (fun v6 v7 wr=>∃(i m:Nat) (ps:List PV),i<=M/\v7=.int .i64 i/\KD F x w w1 m v6 ps wr/\ps.map Prod.snd=((ys.map Prod.snd).take i).flatMap fx) (fun _ v7 _=>M-(intOf v7).toNat)
 ·exact⟨0,0,[],ON _,rfl,⟨bP _ _ _ _,rfl,OG _ _,by simp,by simp⟩,by simp⟩
 case round=>
  obtain⟨i,m,ps,hi,rfl,hI,hfl⟩:=hrel;have HI:=qD hI;have HFL:=qD hfl;clear hI hfl;by_cases hlt:i<M
  ·have hi0:i<ys.length:=by rw[<-HSR.out.ln];exact hlt
   obtain⟨p,hpq⟩:∃p,ys[i]?=some p:=⟨_,OH hi0⟩;have HPQ0:=qD hpq;have HPR:=qD (HPS.out.rv p (OJ hpq));have HPU:=qD (HPS.out.sub p (OJ hpq));obtain⟨eb,eo,hA,hlb,hva⟩:=(HSR.out.step HI.out.bel).Mw hpq
   have hmz:m+x.size<=68719476736:=by
    have h1:∀y∈ys.map Prod.snd,(fx y).length<=x.size:=fun y hy=>by
     obtain⟨q,hq,rfl⟩:=PK.1 hy;exact rp (HPS.out.sub q hq)
    have h2:=Bh (K:=x.size) (zs:=(ys.map Prod.snd).take i) fun y hy=>h1 y (Qh hy);rw[<-HFL.out,Oe,HI.out.ln,Ow] at h2;have h4:min i (ys.map Prod.snd).length*x.size<=i*x.size:=Ot _ (TP _ _);have h3:(i+1)*x.size<=67108864*1024:=QL oM HXZ.out;rw[QJ] at h3;omega
   have hpl:p.1.k=6->p.1.ln+1<=x.size:=fun h6=>by
    have h1:=rp HPU.out;unfold fx at h1;rw[OW (by rw[<-HPR.out.open.k];exact h6)] at h1;have h2:=HPR.out.open.ln;simp only[OZ] at h1;omega
   have hx1:1<=x.size:=fB x;have HPL:=qD hpl;have HTF:=qD (Dc hpq);subst hA;have q0:(0:Int)<=(i:Int):=oM
   have q1:(i:Int)<(M:Int):=oM
   have HVA:=qD hva;obtain⟨e0,e1,e2,e3,e4⟩:=hva;have hlo:w1.heap.size<=wr.heap.size:=HI.out.bel.size;clear hpl hpq;go_wp2_with (at_builtin;refine aE _ rfl _ _ 26 rfl w1.heap.size 29 j0 VC.zero.val 5 80 PM hj0 hy0 hy1 hy2 rfl dE u6 m (aN bD ps) rfl (af HI.out.own ((OG _ _).alloc (qL) _)) _ _ 1 _ (bD p) rfl ⟨rfl,fun _=>⟨_,rfl,On _,ag _ _ _⟩⟩ (cq _) (by unfold maxLen;omega) oM (Db hlo _) ?_);intro v7 w3 hown hgr hat;have HN:=qD ((HI.out.step ((OG _ _).alloc (qL) _)).add (qs:=[p]) (fun q hq=>by rw[Ox.1 hq];exact HPR.out) (fun q hq=>by rw[Ox.1 hq];exact HPU.out) rfl (by simpa[aN] using hown) hgr);have KB:Hid (Bl w w3):=qD (HB.out.Ml HN.out.bel);obtain⟨eb',eo',hA',hlb',hva'⟩:=(HSR.out.step HN.out.bel).Mw HPQ0.out;injection hA' with hA'
   injection hA' with hA1 hA2
   subst hA1;subst hA2;clear hown hgr hat e0 e1 e2 e3 e4;obtain⟨e0,e1,e2,e3,e4⟩:=hva';by_cases h6:p.1.k=6
   ·have h6b:(p.1.k==6)=true:=by simpa using h6
    have HY6:Hid (p.2.k=6):=by unfold Hid;rw[<-HPR.out.open.k];exact h6
    obtain⟨qs,hqs,hsl⟩:=RV.sl HPR.out;have HQS:=qD hqs;have HQV:=qD hsl.rv;have HQL:=qD hsl.sr.ln;have HRD:=qD ((hsl.sr.step KB.out).reads cB dE);have hml:m+1+p.1.ln<=68719476736:=by have:=HPL.out h6;omega
    have hlo3:w1.heap.size<=w3.heap.size:=HN.out.bel.size;clear h6 hqs hsl;go_wp2_with (at_builtin;refine aE _ rfl _ _ 26 rfl w1.heap.size 29 j0 VC.zero.val 5 80 PM hj0 hy0 hy1 hy2 rfl dE v7 (m+1) (aN bD (ps++[p])) rfl HN.out.own _ _ p.1.ln _ (aN bD qs) rfl HRD.out (ju cq qs) (by unfold maxLen;omega) oM hlo3 ?_);intro v8 w4 hown hgr hat;have HN2:=qD (HN.out.add (qs:=qs) HQV.out (fun q hq=>.inl (KE HPU.out HY6.out (by rw[<-HQS.out];exact PD hq))) HQL.out.symm hown hgr)
    have HFF:Hid ((ps++[p]++qs).map Prod.snd=((ys.map Prod.snd).take (i+1)).flatMap fx):=by
     rw[Hid,HTF.out,<-HFL.out,Oo,Oo,HQS.out];simp[fx,HY6.out]
    clear hown hgr hat;go_wp2_with fail;go_roundw
    ·exact⟨i+1,m+1+p.1.ln,ps++[p]++qs,by omega,by go_num,HN2.out,HFF.out⟩
    ·exact iO
   ·have h6b:(p.1.k==6)=false:=by simpa using h6
    have HFF:Hid ((ps++[p]).map Prod.snd=((ys.map Prod.snd).take (i+1)).flatMap fx):=by
     have hy:p.2.k≠6:=by rw[<-HPR.out.open.k];exact h6
     rw[Hid,HTF.out,<-HFL.out,Oo];simp[fx,hy]
    clear h6;go_wp2_with fail;go_roundw
    ·exact⟨i+1,m+1,ps++[p],by omega,by go_num,HN.out,HFF.out⟩
    ·exact iO
  ·obtain rfl:i=M:=oM
   obtain⟨A6,c6,rfl,hsr⟩:=SR.Mq cB HI.out.own HI.out.ln;have HSR6:=qD hsr
   have hmz:m<=68719476736:=by
    have h1:∀y∈ys.map Prod.snd,(fx y).length<=x.size:=fun y hy=>by
     obtain⟨q,hq,rfl⟩:=PK.1 hy;exact rp (HPS.out.sub q hq)
    have h2:=Bh (K:=x.size) (zs:=(ys.map Prod.snd).take i) fun y hy=>h1 y (Qh hy);rw[<-HFL.out,Oe,HI.out.ln,Ow] at h2;have h4:min i (ys.map Prod.snd).length*x.size<=i*x.size:=Ot _ (TP _ _);have h3:i*x.size<=67108864*1024:=QL hM HXZ.out;omega
   have HLF:Hid (Jz F x (ch x l) w ps):=qD ⟨HI.out.rv,HI.out.sub,by
    rw[HFL.out,OS (by rw[Oe,HSR.out.ln];exact qL),HPS.out.fn]
    rfl⟩
   clear hsr hlt;go_wp2;go_ret;exact⟨A6,m,c6,ps,rfl,HSR6.out,HLF.out,hmz,HB.out.Ml HI.out.bel⟩
def KF(x:aC):Prop:=∀(y:aC) (c d:VC) (w:World),RW w c x->RW w d y->
 Calls prog 156 #[c.val,d.val] w (Rt w (.int .i64 (aZ x y)))
theorem rq:∀x,KF x:=by
 intro x
 induction x using aC.ind with
 | h k n t l d ihl ihd=>
 intro y c e w hx hy;obtain⟨ck,cn,ct,cLA,cln,clc,cDA,cdn,cdc⟩:=c;obtain⟨ek,en,et,eLA,eln,elc,eDA,edn,edc⟩:=e;have hk:ck=k:=hx.open.k;have hn:cn=n:=hx.open.n;have ht:ct=t:=hx.open.t;subst hk hn ht;have hk2:ek=y.k:=hy.open.k;have hn2:en=y.n:=hy.open.n;have ht2:et=y.t:=hy.open.t
 have I0:Hid (ky w ⟨ck,cn,ct,cLA,cln,clc,cDA,cdn,cdc⟩ ⟨ek,en,et,eLA,eln,elc,eDA,edn,edc⟩ ((w.alloc (.cells #[.int .i64 ck,.int .i64 cn,.string ct,.slice cLA cln clc,.slice cDA cdn cdc] 29)).alloc (.cells #[.int .i64 ek,.int .i64 en,.string et,.slice eLA eln elc,.slice eDA edn edc] 29))):=
  qD ⟨(aG.Mm rfl).alloc _,aG.Mm sM,((OG _ _).alloc (qL) _).alloc sM _⟩
 cases hne:(ck != ek)
 ·have he:ck=ek:=by simpa using hne
  have hxy:(aC.mk ck cn ct l d).k=y.k:=by rw[<-hk2];exact he
  subst he;rcases tA ck with hi|ht' | hl|hd|ho
  ·have HV:Hid (aZ (.mk ck cn ct l d) y=cd cn en):=by rw[Hid,iZ hxy hi,hn2];rfl
   clear hx hy ihl ihd hk2 hn2 ht2 hxy;rcases hi with rfl|rfl|rfl
   all_goals
    go_enter SO,Rx;go_wp2_with fail;refine(iV _ _ _).mono ?_;rintro e w' ⟨rfl,rfl⟩;go_wp2;go_ret;exact⟨by rw[HV.out];rfl,I0.out.bel⟩
  ·have HV:Hid (aZ (.mk ck cn ct l d) y=bh ct et):=by rw[Hid,fy hxy ht',ht2];rfl
   have HT:Hid (ct.size<=aF):=hx.open.tsz;clear hx hy ihl ihd hk2 hn2 ht2 hxy;rcases ht' with rfl|rfl|rfl
   all_goals
    go_enter SO,Rx;go_wp2_with fail;refine(qt _ _ _ HT.out).mono ?_;rintro e w' ⟨rfl,hb⟩;go_wp2;go_ret;exact⟨by rw[HV.out];rfl,I0.out.bel.Ml hb⟩
  ·have HV:=qD (sw hxy hl);obtain⟨ps,hps,hsl⟩:=hx.sl;obtain⟨qs,hqs,hql⟩:=hy.sl;simp only at hsl hql;have hz1:=hsl.sz;have hz2:=hql.sz;unfold aF at hz1 hz2;have P1:=qD hsl;have P2:=qD hql;have HN1:Hid (cln=l.length):=hx.open.ln;have HN2:Hid (eln=y.l.length):=hy.open.ln;have HS1:Hid (ps.map Prod.snd=l):=hps;have HS2:Hid (qs.map Prod.snd=y.l):=hqs;have IH:=qD ihl;clear hx hy ihl ihd hk2 hn2 ht2 hxy hsl hql hps hqs;subst hl
   all_goals
    go_enter SO,Rx;go_wp2_with fail
    go_loopw [5] (fun v5 wr=>∃i:Nat,i<=cln/\i<=eln/\v5=.int .i64 i/\dA l y.l=dA (l.drop i) (y.l.drop i)/\ky w ⟨6,cn,ct,cLA,cln,clc,cDA,cdn,cdc⟩ ⟨6,en,et,eLA,eln,elc,eDA,edn,edc⟩ wr) (fun v5 _=>cln-(intOf v5).toNat)
    ·exact⟨0,ON _,ON _,rfl,rfl,I0.out⟩
    case round=>
     obtain⟨i,hi1,hi2,rfl,hq,I⟩:=hrel;have HQ:=qD hq;have J:=qD I;have q0:=I.b0.cell 3;have q1:=I.b1.cell 3;simp at q0 q1;clear hq;by_cases hlt:i<cln/\i<eln
     ·obtain⟨hl1,hl2⟩:=hlt;obtain⟨p,hp⟩:∃p,ps[i]?=some p:=⟨_,OH (by have:=P1.out.sr.ln;omega)⟩;obtain⟨q,hq⟩:∃q,qs[i]?=some q:=⟨_,OH (by have:=P2.out.sr.ln;omega)⟩;obtain⟨b1,o1,rfl,_,hu1,hr1⟩:=P1.out.Mw hp;obtain⟨b2,o2,rfl,_,hu2,hr2⟩:=P2.out.Mw hq;have g1:l[i]?=some p.2:=by rw[<-HS1.out,OT,hp];rfl
      have g2:y.l[i]?=some q.2:=by rw[<-HS2.out,OT,hq];rfl
      have HA:=qD (HQ.out.trans (Al g1 g2));obtain⟨y0,y1,y2,y3,y4⟩:=hu1.keep (I.bel.block b1 hu1.lt);obtain⟨z0,z1,z2,z3,z4⟩:=hu2.keep (I.bel.block b2 hu2.lt);have E0:=aX (J.out.b0.cell 3);have E1:=aX (J.out.b1.cell 3);have Y0:=aX y0;have Y1:=aX y1;have Y2:=aX y2;have Y3:=aX y3;have Y4:=aX y4;have Z0:=aX z0;have Z1:=aX z1;have Z2:=aX z2;have Z3:=aX z3;have Z4:=aX z4
      have K1:Hid (∀k:BW wr,Calls prog 156 #[p.1.val,q.1.val] k.val fun e w''=>e=.returned (.int .i64 (aZ p.2 q.2))/\∃k:BW wr,w''=k.val):=fun k=>
       Calls.bw (IH.out p.2 (OJ g1) q.2 p.1 q.1 k.val ((hr1.step I.bel).step k.below) ((hr2.step I.bel).step k.below))
      have hi0:(0:Int)<=(i:Int):=oM
      have hi3:(i:Int)<(cln:Int):=oM
      have hi4:(i:Int)<(eln:Int):=oM
      clear hp hq hu1 hu2 hr1 hr2 g1 g2 y0 y1 y2 y3 y4 z0 z1 z2 z3 z4 I;go_upto_region 16 with fail
      refine aL kR kR ?_
      repeat(go_big_quiet_step (with_reducible exact K1.out _))
      refine Oc ?_;rintro _ ⟨kw,rfl⟩;have J2:=qD (J.out.step kw.below);clear E0 E1 Y0 Y1 Y2 Y3 Y4 Z0 Z1 Z2 Z3 Z4 K1 hi0 hi3 hi4;generalize kw.val=w2 at*;cases hc:(aZ p.2 q.2 != 0)
      ·have HC:Hid (dA l y.l=dA (l.drop (i+1)) (y.l.drop (i+1))):=by
        have:aZ p.2 q.2=0:=by simpa using hc
        rw[Hid,HA.out,OQ (by simpa using this)]
       go_wp2_with fail;go_roundw
       ·exact⟨i+1,by omega,by omega,by go_num,HC.out,J2.out⟩
       ·exact iO
      ·have HC:Hid (dA l y.l=aZ p.2 q.2):=by
        rw[Hid,HA.out,OW (by simpa using hc)]
       go_wp2;go_ret;exact⟨by rw[HV.out];show _=Ending.returned (.int .i64 (dA l y.l));rw[HC.out];rfl,J2.out.bel⟩
     ·have HE:=qD (HQ.out.trans (vI (by have:=HN1.out;omega) (by have:=HN2.out;omega) (by have:=HN1.out;have:=HN2.out;omega)));clear I;by_cases hl1:i<cln
      all_goals
       first|have hx9:eln<=i:=by omega|have hx9:cln<=i:=oM
       go_wp2_with fail;refine(iV _ _ _).mono ?_;rintro e w' ⟨rfl,rfl⟩;go_wp2;go_ret;exact⟨by rw[HV.out];show _=Ending.returned (.int .i64 (dA l y.l));rw[HE.out,<-HN1.out,<-HN2.out];rfl,J.out.bel⟩
  ·have HV:=qD (qH hxy hd);obtain⟨ps,hps,hsl⟩:=hx.sd;obtain⟨qs,hqs,hql⟩:=hy.sd;simp only at hsl hql;have hz1:=hsl.sz;have hz2:=hql.sz;unfold aF at hz1 hz2;have P1:=qD hsl;have P2:=qD hql;have HN1:Hid (cdn=d.length):=hx.open.dn;have HN2:Hid (edn=y.d.length):=hy.open.dn;have HS1:Hid (ps.map Prod.snd=d):=hps;have HS2:Hid (qs.map Prod.snd=y.d):=hqs;have IH:=qD ihd;clear hx hy ihl ihd hk2 hn2 ht2 hxy hsl hql hps hqs;subst hd
   all_goals
    go_enter SO,Rx;go_wp2_with fail
    go_loopw [7] (fun v7 wr=>∃i:Nat,i<=cdn/\i<=edn/\v7=.int .i64 i/\cI d y.d=cI (d.drop i) (y.d.drop i)/\ky w ⟨5,cn,ct,cLA,cln,clc,cDA,cdn,cdc⟩ ⟨5,en,et,eLA,eln,elc,eDA,edn,edc⟩ wr) (fun v7 _=>cdn-(intOf v7).toNat)
    ·exact⟨0,ON _,ON _,rfl,rfl,I0.out⟩
    case round=>
     obtain⟨i,hi1,hi2,rfl,hq,I⟩:=hrel;have HQ:=qD hq;have J:=qD I;have q0:=I.b0.cell 4;have q1:=I.b1.cell 4;simp at q0 q1;clear hq;by_cases hlt:i<cdn/\i<edn
     ·obtain⟨hl1,hl2⟩:=hlt;obtain⟨p,hp⟩:∃p,ps[i]?=some p:=⟨_,OH (by have:=P1.out.sr.ln;omega)⟩;obtain⟨q,hq⟩:∃q,qs[i]?=some q:=⟨_,OH (by have:=P2.out.sr.ln;omega)⟩;obtain⟨b1,o1,rfl,_,hs1,hu1,hr1⟩:=P1.out.Mw hp;obtain⟨b2,o2,rfl,_,hs2,hu2,hr2⟩:=P2.out.Mw hq;have g1:d[i]?=some p.2:=by rw[<-HS1.out,OT,hp];rfl
      have g2:y.d[i]?=some q.2:=by rw[<-HS2.out,OT,hq];rfl
      have HA:=qD (HQ.out.trans (An g1 g2));obtain⟨y0,y1,y2,y3,y4⟩:=hu1.keep (I.bel.block b1 hu1.lt);obtain⟨z0,z1,z2,z3,z4⟩:=hu2.keep (I.bel.block b2 hu2.lt);have n0:=(I.bel.cell (p:=⟨b1,o1+i*6,none⟩) hu1.lt).trans hs1;have n1:=(I.bel.cell (p:=⟨b2,o2+i*6,none⟩) hu2.lt).trans hs2;have N0:=aX n0;have N1:=aX n1;have E0:=aX (J.out.b0.cell 4);have E1:=aX (J.out.b1.cell 4);have Y0:=aX y0;have Y1:=aX y1;have Y2:=aX y2;have Y3:=aX y3;have Y4:=aX y4;have Z0:=aX z0;have Z1:=aX z1;have Z2:=aX z2;have Z3:=aX z3;have Z4:=aX z4
      have KB:Hid (∀(W:World),Bl w W->∀k:BW W,Calls prog 156 #[p.1.val,q.1.val] k.val fun e w''=>e=.returned (.int .i64 (aZ p.2.v q.2.v))/\∃k:BW W,w''=k.val):=fun W hW k=>
       Calls.bw (IH.out p.2 (OJ g1) q.2.v p.1 q.1 k.val ((hr1.step hW).step k.below) ((hr2.step hW).step k.below))
      have hi0:(0:Int)<=(i:Int):=oM
      have hi3:(i:Int)<(cdn:Int):=oM
      have hi4:(i:Int)<(edn:Int):=oM
      clear hq hu1 hu2 hr1 hr2 g1 g2 y0 y1 y2 y3 y4 z0 z1 z2 z3 z4 I hs1 hs2 n0 n1
      have K2:Hid (∀k:BW wr,Calls prog 202 #[.string p.2.s,.string q.2.s] k.val fun e w''=>e=.returned (.int .i64 (bh p.2.s q.2.s))/\∃k:BW wr,w''=k.val):=fun k=>
       Calls.bw (qt _ _ _ (P1.out.ns p (OJ hp)))
      clear hp;go_upto_region 24 with fail
      refine aL kR kR ?_
      repeat(go_big_quiet_step (with_reducible exact K2.out _))
      refine Oc ?_;rintro _ ⟨kw,rfl⟩;clear q0 q1;cases hb:(bh p.2.s q.2.s != 0)
      ·have hb0:(bh p.2.s q.2.s==0)=true:=by simpa using hb
       have HA':Hid (cI d y.d=if aZ p.2.v q.2.v≠0 then aZ p.2.v q.2.v else cI (d.drop (i+1)) (y.d.drop (i+1))):=by
        have:bh p.2.s q.2.s=0:=by simpa using hb
        rw[Hid,HA.out,OQ (by simpa using this)]
       have J1:=qD (J.out.step kw.below);have E0':∀q:BW kw.val,q.val.cell? ⟨w.heap.size,4,none⟩=some (.slice (some ⟨b1,o1,none⟩) cdn cdc):=fun q=>q.cell (E0 kw);have E1':∀q:BW kw.val,q.val.cell? ⟨w.heap.size+1,4,none⟩=some (.slice (some ⟨b2,o2,none⟩) edn edc):=fun q=>q.cell (E1 kw);have Y0':∀k:BW kw.val,k.val.cell? ⟨b1,o1+i*6+1,none⟩=some (.int .i64 p.1.k):=fun k=>k.cell (Y0 kw);have Y1':∀k:BW kw.val,k.val.cell? ⟨b1,o1+i*6+1+1,none⟩=some (.int .i64 p.1.n):=fun k=>k.cell (Y1 kw);have Y2':∀k:BW kw.val,k.val.cell? ⟨b1,o1+i*6+1+2,none⟩=some (.string p.1.t):=fun k=>k.cell (Y2 kw);have Y3':∀k:BW kw.val,k.val.cell? ⟨b1,o1+i*6+1+3,none⟩=some (.slice p.1.LA p.1.ln p.1.lc):=fun k=>k.cell (Y3 kw);have Y4':∀k:BW kw.val,k.val.cell? ⟨b1,o1+i*6+1+4,none⟩=some (.slice p.1.DA p.1.dn p.1.dc):=fun k=>k.cell (Y4 kw);have Z0':∀k:BW kw.val,k.val.cell? ⟨b2,o2+i*6+1,none⟩=some (.int .i64 q.1.k):=fun k=>k.cell (Z0 kw);have Z1':∀k:BW kw.val,k.val.cell? ⟨b2,o2+i*6+1+1,none⟩=some (.int .i64 q.1.n):=fun k=>k.cell (Z1 kw);have Z2':∀k:BW kw.val,k.val.cell? ⟨b2,o2+i*6+1+2,none⟩=some (.string q.1.t):=fun k=>k.cell (Z2 kw);have Z3':∀k:BW kw.val,k.val.cell? ⟨b2,o2+i*6+1+3,none⟩=some (.slice q.1.LA q.1.ln q.1.lc):=fun k=>k.cell (Z3 kw);have Z4':∀k:BW kw.val,k.val.cell? ⟨b2,o2+i*6+1+4,none⟩=some (.slice q.1.DA q.1.dn q.1.dc):=fun k=>k.cell (Z4 kw)
       have K1':Hid (∀k:BW kw.val,Calls prog 156 #[p.1.val,q.1.val] k.val fun e w''=>e=.returned (.int .i64 (aZ p.2.v q.2.v))/\∃k:BW kw.val,w''=k.val):=fun k=>
        KB.out kw.val (J1.out.bel) k
       clear E0 E1 Y0 Y1 Y2 Y3 Y4 Z0 Z1 Z2 Z3 Z4 N0 N1 K2;generalize kw.val=w2 at*;go_upto_region 26 with fail
       refine aL kR kR ?_
       repeat(go_big_quiet_step (with_reducible exact K1'.out _))
       refine Oc ?_;rintro _ ⟨kv,rfl⟩;have J2:=qD (J1.out.step kv.below);clear E0' E1' Y0' Y1' Y2' Y3' Y4' Z0' Z1' Z2' Z3' Z4' K1' hi0 hi3 hi4;generalize kv.val=w3 at*;cases hc:(aZ p.2.v q.2.v != 0)
       ·have HC:Hid (cI d y.d=cI (d.drop (i+1)) (y.d.drop (i+1))):=by
         have:aZ p.2.v q.2.v=0:=by simpa using hc
         rw[Hid,HA'.out,OQ (by simpa using this)]
        go_wp2_with fail;go_roundw
        ·exact⟨i+1,by omega,by omega,by go_num,HC.out,J2.out⟩
        ·exact iO
       ·have HC:Hid (cI d y.d=aZ p.2.v q.2.v):=by
         rw[Hid,HA'.out,OW (by simpa using hc)]
        go_wp2;go_ret;exact⟨by rw[HV.out];show _=Ending.returned (.int .i64 (cI d y.d));rw[HC.out];rfl,J2.out.bel⟩
      ·have hb0:(bh p.2.s q.2.s==0)=false:=by simpa using hb
       have HC:Hid (cI d y.d=bh p.2.s q.2.s):=by
        rw[Hid,HA.out,OW (by simpa using hb)]
       have J2:=qD (J.out.step kw.below);clear E0 E1 Y0 Y1 Y2 Y3 Y4 Z0 Z1 Z2 Z3 Z4 N0 N1 K2 hi0 hi3 hi4;generalize kw.val=w2 at*;go_wp2;go_ret;exact⟨by rw[HV.out];show _=Ending.returned (.int .i64 (cI d y.d));rw[HC.out];rfl,J2.out.bel⟩
     ·have HE:=qD (HQ.out.trans (vJ (by have:=HN1.out;omega) (by have:=HN2.out;omega) (by have:=HN1.out;have:=HN2.out;omega)));clear I;by_cases hl1:i<cdn
      all_goals
       first|have hx9:edn<=i:=by omega|have hx9:cdn<=i:=oM
       go_wp2_with fail;refine(iV _ _ _).mono ?_;rintro e w' ⟨rfl,rfl⟩;go_wp2;go_ret;exact⟨by rw[HV.out];show _=Ending.returned (.int .i64 (cI d y.d));rw[HE.out,<-HN1.out,<-HN2.out];rfl,J.out.bel⟩
  ·obtain⟨h3,h9,h10,h4,h7,h8,h6,h5⟩:=ho;have HV:=qD (fM hxy h3 h9 h10 h4 h7 h8 h6 h5);clear hx hy ihl ihd hk2 hn2 ht2 hxy;have e3:(ck==3)=false:=by simpa using h3
   have e9:(ck==9)=false:=by simpa using h9
   have e10:(ck==10)=false:=by simpa using h10
   have e4:(ck==4)=false:=by simpa using h4
   have e7:(ck==7)=false:=by simpa using h7
   have e8:(ck==8)=false:=by simpa using h8
   have e6:(ck==6)=false:=by simpa using h6
   have e5:(ck==5)=false:=by simpa using h5
   clear h3 h9 h10 h4 h7 h8 h6 h5;go_enter SO,Rx;go_wp2;go_ret;exact⟨by rw[HV.out];rfl,I0.out.bel⟩
 ·have HV:Hid (aZ (.mk ck cn ct l d) y=cd ck ek):=by
   have:ck≠ek:=by simpa using hne
   rw[Hid,bX (by rw[<-hk2];exact this),<-hk2];rfl
  clear hx hy ihl ihd hk2 hn2 ht2;go_enter SO,Rx;go_wp2_with fail;refine(iV _ _ _).mono ?_;rintro e w' ⟨rfl,rfl⟩;go_wp2;go_ret;exact⟨by rw[HV.out];rfl,I0.out.bel⟩
theorem aO.bw{v:VC}(h:aO w b off v):(∀kk:BW w,kk.val.cell? ⟨b,off,none⟩=some (.int .i64 v.k))/\(∀kk:BW w,kk.val.cell? ⟨b,off+1,none⟩=some (.int .i64 v.n))/\(∀kk:BW w,kk.val.cell? ⟨b,off+2,none⟩=some (.string v.t))/\
 (∀kk:BW w,kk.val.cell? ⟨b,off+3,none⟩=some (.slice v.LA v.ln v.lc))/\(∀kk:BW w,kk.val.cell? ⟨b,off+4,none⟩=some (.slice v.DA v.dn v.dc)):=
 ⟨fun kk=>kk.cell h.1,fun kk=>kk.cell h.2.1,fun kk=>kk.cell h.2.2.1,fun kk=>kk.cell h.2.2.2.1,fun kk=>kk.cell h.2.2.2.2⟩
theorem tv(x y:aC)(c d:VC)(w:World)(h:RW w c x)(h':RW w d y):Calls prog 155 #[c.val,d.val] w (Rt w (.bool (aZ x y==0))):=by
 have H:=qD h;have H':=qD h';clear h h';go_enter func155,ntmps155;go_wp2_with fail;refine(rq x y c d _ ((H.out.alloc _).alloc _) ((H'.out.alloc _).alloc _)).mono ?_;rintro e w1 ⟨rfl,hb⟩;go_wp2;go_ret;exact⟨rfl,(((OG _ _).alloc (qL) _).alloc sM _).Ml hb⟩
def lD(x z:aC):Bool:=aZ z x==0||(x.k==2&&z.k==0)
theorem gh{α:Type}{f:α->Bool}{l:List α}{a:α}(h:l[i]?=some a):(l.take (i+1)).any f=((l.take i).any f||f a):=by
 rw[Pf,h,List.any_append];simp
theorem kf{α:Type}{f:α->Bool}{l:List α}{a:α}(h:l[i]?=some a)(hf:f a=true):l.any f=true:=RX.2 ⟨a,OJ h,hf⟩
theorem ls(ps:List PV)(x:aC)(d:VC)(A:Option Addr)(m c:Nat)(w:World)(hs:SR 5 bD w A m c ps)(hr:∀p∈ps,RW w p.1 p.2)(hx:RW w d x)(hm:m<=68719476736):
 Calls prog 99 #[.slice A m c,d.val] w (Rt w (.bool (ps.any fun p=>lD x p.2))):=by
 have HS:=qD hs;have HR:=qD hr;have HX:=qD hx;have HXK:Hid (d.k=x.k):=qD hx.open.k;clear hs hr hx;go_enter func99,ntmps99;go_upto_region 1 with fail
 refine ml d.arr 29 ?_;intro wa B0 BE;go_upto_region 2 with fail
 go_loopw [5] (fun v wr=>∃i:Nat,i<=m/\v=.int .i64 i/\(ps.take i).any (fun p=>lD x p.2)=false/\Bl wa wr) (fun v _=>m-(intOf v).toNat)
 ·exact⟨0,ON _,rfl,by simp,OG _ _⟩
 case round=>
  obtain⟨i,hi,rfl,ha,hb⟩:=hrel;have HA:=qD ha;have HB:=qD hb;have D0:=qD (B0.out.step hb);have HE:=qD (BE.out.Ml hb);clear ha hb;by_cases hlt:i<m
  ·obtain⟨p,hp⟩:∃p,ps[i]?=some p:=⟨_,OH (by have:=HS.out.ln;omega)⟩;have HP:=qD hp;obtain⟨eb,eo,rfl,hlb,hva⟩:=(HS.out.step HE.out).Mw hp;have HPK:Hid (p.1.k=p.2.k):=qD ((HR.out p (OJ hp)).open.k);obtain⟨a0,a1,a2,a3,a4⟩:=hva.bw;obtain⟨b0,b1,b2,b3,b4⟩:=(aO.Mn D0.out).bw;simp only[OX] at b0 b1 b2 b3 b4;obtain⟨z1,hz1⟩:∃z,(aZ p.2 x==0)=z:=⟨_,rfl⟩;obtain⟨z2,hz2⟩:∃z,(d.k==2)=z:=⟨_,rfl⟩;obtain⟨z3,hz3⟩:∃z,(p.1.k==0)=z:=⟨_,rfl⟩
   have K1:Hid (∀kk:BW wr,Calls prog 155 #[p.1.val,d.val] kk.val fun e w''=>e=.returned (.bool z1)/\∃kk:BW wr,w''=kk.val):=fun kk=>by
    rw[<-hz1];exact Calls.bw (tv _ _ _ _ _ ((HR.out p (OJ HP.out)).step (HE.out.Ml kk.below)) (HX.out.step (HE.out.Ml kk.below)))
   have HQ:Hid (lD x p.2=(z1||(z2&&z3))):=qD (by rw[lD,hz1,<-HXK.out,hz2,<-HPK.out,hz3]);have HZ1:=qD hz1;have i0:(0:Int)<=(i:Int):=oM
   have i1:(i:Int)<(m:Int):=oM
   clear hva hp hz1;go_upto_region 4 with fail
   rcases(show z1=true\/(z1=false/\z2=false)\/(z1=false/\z2=true/\z3=false)\/(z1=false/\z2=true/\z3=true) by clear hz2 hz3 HZ1 HQ K1;revert z1 z2 z3;decide) with rfl|⟨rfl,rfl⟩|⟨rfl,rfl,rfl⟩|⟨rfl,rfl,rfl⟩
   all_goals
    refine aL kR kR ?_
    repeat(go_big_quiet_step ((go_at_call 155;with_reducible exact K1.out _)))
    refine Oc ?_;rintro _ ⟨kw,rfl⟩;have HK:=qD kw.below;generalize kw.val=w5 at*;clear a0 a1 a2 a3 a4 b0 b1 b2 b3 b4 K1;go_wp2_with fail
    first
     | (go_ret;exact⟨by rw[kf (f:=fun p=>lD x p.2) HP.out (by rw[HQ.out];rfl)];rfl,HE.out.Ml HK.out⟩)
     | (go_roundw
        ·exact⟨i+1,by omega,by go_num,by rw[gh HP.out,HA.out,HQ.out];rfl,HB.out.Ml HK.out⟩
        ·simp[intOf];omega)
  ·have HF:Hid ((ps.any fun p=>lD x p.2)=false):=qD (by
    rw[<-OS (l:=ps) (i:=i) (by have:=HS.out.ln;omega)]
    exact HA.out)
   go_wp2;go_ret;exact⟨by rw[HF.out];rfl,HE.out⟩
def it(op c:Int):Bool:=if op=4 then decide (0<c) else if op=5 then decide (0<=c) else if op=6 then decide (c<0) else decide (c<=0)
def iE(op:Int)(x z:aC):Bool:=z.k==x.k&&it op (aZ z x)
theorem sY(ps:List PV)(op:Int)(x:aC)(d:VC)(A:Option Addr)(m c:Nat)(w:World)(hs:SR 5 bD w A m c ps)(hr:∀p∈ps,RW w p.1 p.2)(hx:RW w d x)(hm:m<=68719476736)(ho:op=4\/op=5\/op=6\/op=7):
 Calls prog 101 #[.slice A m c,.int .i64 op,d.val] w (Rt w (.bool (ps.any fun p=>iE op x p.2))):=by
 have HS:=qD hs;have HR:=qD hr;have HX:=qD hx;have HXK:Hid (d.k=x.k):=qD hx.open.k;have HO:=qD ho;clear hs hr hx ho;go_enter func101,ntmps101;go_upto_region 1 with fail
 refine ml d.arr 29 ?_;intro wa B0 BE;go_upto_region 2 with fail
 go_loopw [7,8] (fun v _ wr=>∃i:Nat,i<=m/\v=.int .i64 i/\(ps.take i).any (fun p=>iE op x p.2)=false/\Bl wa wr) (fun v _ _=>m-(intOf v).toNat)
 ·exact⟨0,ON _,rfl,by simp,OG _ _⟩
 case round=>
  obtain⟨i,hi,rfl,ha,hb⟩:=hrel;have HA:=qD ha;have HB:=qD hb;have D0:=qD (B0.out.step hb);have HE:=qD (BE.out.Ml hb);clear ha hb;by_cases hlt:i<m
  ·obtain⟨p,hp⟩:∃p,ps[i]?=some p:=⟨_,OH (by have:=HS.out.ln;omega)⟩;have HP:=qD hp;obtain⟨eb,eo,rfl,hlb,hva⟩:=(HS.out.step HE.out).Mw hp;have HVA:=qD hva;have HLB:=qD hlb;have HPK:Hid (p.1.k=p.2.k):=qD ((HR.out p (OJ hp)).open.k);obtain⟨a0,a1,a2,a3,a4⟩:=hva.bw;obtain⟨b0,b1,b2,b3,b4⟩:=(aO.Mn D0.out).bw;simp only[OX] at b0 b1 b2 b3 b4;obtain⟨c1,hc1⟩:∃z,aZ p.2 x=z:=⟨_,rfl⟩;obtain⟨z2,hz2⟩:∃z,(p.1.k==d.k)=z:=⟨_,rfl⟩
   have K1:Hid (∀kk:BW wr,Calls prog 156 #[p.1.val,d.val] kk.val fun e w''=>e=.returned (.int .i64 c1)/\∃kk:BW wr,w''=kk.val):=fun kk=>by
    rw[<-hc1];exact Calls.bw (rq _ _ _ _ _ ((HR.out p (OJ HP.out)).step (HE.out.Ml kk.below)) (HX.out.step (HE.out.Ml kk.below)))
   have HQ:Hid (iE op x p.2=(z2&&it op c1)):=qD (by rw[iE,hc1,<-HXK.out,<-HPK.out,hz2]);have HZ2:=qD hz2;have i0:(0:Int)<=(i:Int):=oM
   have i1:(i:Int)<(m:Int):=oM
   clear hva hp hc1 hz2;go_upto_region 4 with fail
   refine aL kR kR ?_
   repeat(go_big_quiet_step ((go_at_call 156;with_reducible exact K1.out _)))
   refine Oc ?_;rintro _ ⟨kw,rfl⟩;have HK:=qD kw.below;generalize kw.val=w5 at*;clear a0 a1 a2 a3 a4 b0 b1 b2 b3 b4 K1;have HV5:=qD (HVA.out.keep (HK.out.block eb HLB.out));have D5:=qD (D0.out.step HK.out);obtain⟨a0,-,-,-,-⟩:=HV5.out.bw;obtain⟨b0,-,-,-,-⟩:=(aO.Mn D5.out).bw;go_upto_region 5 with fail
   have hz2:=HZ2.out;cases z2
   ·refine aL kR kR ?_
    repeat(go_big_quiet_step (fail))
    refine Oc ?_;rintro _ ⟨kw,rfl⟩;have HK2:=qD kw.below;generalize kw.val=w6 at*;clear a0 b0;go_wp2_with fail;go_roundw
    ·exact⟨i+1,by omega,by go_num,by rw[gh HP.out,HA.out,HQ.out];rfl,HB.out.Ml (HK.out.Ml HK2.out)⟩
    ·exact iO
   ·rcases HO.out with rfl|rfl|rfl|rfl
    ·by_cases hc:0<c1
     ·have HC:Hid (it 4 c1=true):=qD (by simp[it,hc]);refine aL kR kR ?_
      repeat(go_big_quiet_step (fail))
      refine Oc ?_;rintro _ ⟨kw,rfl⟩;have HK2:=qD kw.below;generalize kw.val=w6 at*;clear a0 b0;go_wp2;go_ret;exact⟨by rw[kf (f:=fun p=>iE 4 x p.2) HP.out (by rw[HQ.out,HC.out];rfl)];rfl,HE.out.Ml (HK.out.Ml HK2.out)⟩
     ·have HC:Hid (it 4 c1=false):=qD (by simp[it,hc]);refine aL kR kR ?_
      repeat(go_big_quiet_step (fail))
      refine Oc ?_;rintro _ ⟨kw,rfl⟩;have HK2:=qD kw.below;generalize kw.val=w6 at*;clear a0 b0;go_wp2_with fail;go_roundw
      ·exact⟨i+1,by omega,by go_num,by rw[gh HP.out,HA.out,HQ.out,HC.out];rfl,HB.out.Ml (HK.out.Ml HK2.out)⟩
      ·exact iO
    ·by_cases hc:0<=c1
     ·have HC:Hid (it 5 c1=true):=qD (by simp[it,hc]);refine aL kR kR ?_
      repeat(go_big_quiet_step (fail))
      refine Oc ?_;rintro _ ⟨kw,rfl⟩;have HK2:=qD kw.below;generalize kw.val=w6 at*;clear a0 b0;go_wp2;go_ret;exact⟨by rw[kf (f:=fun p=>iE 5 x p.2) HP.out (by rw[HQ.out,HC.out];rfl)];rfl,HE.out.Ml (HK.out.Ml HK2.out)⟩
     ·have HC:Hid (it 5 c1=false):=qD (by simp[it,hc]);refine aL kR kR ?_
      repeat(go_big_quiet_step (fail))
      refine Oc ?_;rintro _ ⟨kw,rfl⟩;have HK2:=qD kw.below;generalize kw.val=w6 at*;clear a0 b0;go_wp2_with fail;go_roundw
      ·exact⟨i+1,by omega,by go_num,by rw[gh HP.out,HA.out,HQ.out,HC.out];rfl,HB.out.Ml (HK.out.Ml HK2.out)⟩
      ·exact iO
    ·by_cases hc:c1<0
     ·have HC:Hid (it 6 c1=true):=qD (by simp[it,hc]);refine aL kR kR ?_
      repeat(go_big_quiet_step (fail))
      refine Oc ?_;rintro _ ⟨kw,rfl⟩;have HK2:=qD kw.below;generalize kw.val=w6 at*;clear a0 b0;go_wp2;go_ret;exact⟨by rw[kf (f:=fun p=>iE 6 x p.2) HP.out (by rw[HQ.out,HC.out];rfl)];rfl,HE.out.Ml (HK.out.Ml HK2.out)⟩
     ·have HC:Hid (it 6 c1=false):=qD (by simp[it,hc]);refine aL kR kR ?_
      repeat(go_big_quiet_step (fail))
      refine Oc ?_;rintro _ ⟨kw,rfl⟩;have HK2:=qD kw.below;generalize kw.val=w6 at*;clear a0 b0;go_wp2_with fail;go_roundw
      ·exact⟨i+1,by omega,by go_num,by rw[gh HP.out,HA.out,HQ.out,HC.out];rfl,HB.out.Ml (HK.out.Ml HK2.out)⟩
      ·exact iO
    ·by_cases hc:c1<=0
     ·have HC:Hid (it 7 c1=true):=qD (by simp[it,hc]);refine aL kR kR ?_
      repeat(go_big_quiet_step (fail))
      refine Oc ?_;rintro _ ⟨kw,rfl⟩;have HK2:=qD kw.below;generalize kw.val=w6 at*;clear a0 b0;go_wp2;go_ret;exact⟨by rw[kf (f:=fun p=>iE 7 x p.2) HP.out (by rw[HQ.out,HC.out];rfl)];rfl,HE.out.Ml (HK.out.Ml HK2.out)⟩
     ·have HC:Hid (it 7 c1=false):=qD (by simp[it,hc]);refine aL kR kR ?_
      repeat(go_big_quiet_step (fail))
      refine Oc ?_;rintro _ ⟨kw,rfl⟩;have HK2:=qD kw.below;generalize kw.val=w6 at*;clear a0 b0;go_wp2_with fail;go_roundw
      ·exact⟨i+1,by omega,by go_num,by rw[gh HP.out,HA.out,HQ.out,HC.out];rfl,HB.out.Ml (HK.out.Ml HK2.out)⟩
      ·exact iO
  ·have HF:Hid ((ps.any fun p=>iE op x p.2)=false):=qD (by
    rw[<-OS (l:=ps) (i:=i) (by have:=HS.out.ln;omega)]
    exact HA.out)
   go_wp2;go_ret;exact⟨by rw[HF.out];rfl,HE.out⟩
theorem Dd(x n m:Int)(w:World):Calls prog 203 #[.int .i64 x,.int .i64 n,.int .i64 m] w (am (fun _=>True) w):=by
 by_cases h1:n<1
 ·go_enter func203,ntmps203;go_wp2;go_ret;exact am.of trivial (OG _ _)
 have h0:n≠0:=oM
 have h0b:(n==0)=false:=by simpa using h0
 by_cases h2:x.tmod n<0
 ·go_enter func203,ntmps203;go_wp2;go_ret;exact am.of trivial (OG _ _)
 ·go_enter func203,ntmps203;go_wp2;go_ret;exact am.of trivial (OG _ _)
def kg(s p:ByteArray):Bool:=decide (p.size<=s.size)&&((s.extract 0 p.size).toList==p.toList)
theorem ur(s p:ByteArray)(w:World):Calls prog 204 #[.string s,.string p] w (Rt w (.bool (kg s p))):=by
 by_cases h:p.size<=s.size
 ·have hi:(p.size:Int)<=(s.size:Int):=oM
  have h0:(0:Int)<=(p.size:Int):=oM
  have HP:Hid (kg s p=((s.extract 0 p.size).toList==p.toList)):=qD (by rw[kg,OM h,Rw]);go_enter func204,ntmps204;go_wp2;go_ret;exact⟨by rw[HP.out];rfl,OG _ _⟩
 ·have hi:¬(p.size:Int)<=(s.size:Int):=oM
  have HP:Hid (kg s p=false):=qD (by rw[kg,OV h,Sr]);go_enter func204,ntmps204;go_wp2;go_ret;exact⟨by rw[HP.out];rfl,OG _ _⟩
theorem zt(d:VC)(w:World):Calls prog 105 #[d.val] w (am (fun _=>True) w):=by
 obtain⟨z1,hz1⟩:∃z,(d.k != 0)=z:=⟨_,rfl⟩;obtain⟨z2,hz2⟩:∃z,(d.k != 2)=z:=⟨_,rfl⟩;obtain⟨z3,hz3⟩:∃z,(d.k==9)=z:=⟨_,rfl⟩;obtain⟨z4,hz4⟩:∃z,(d.k==3)=z:=⟨_,rfl⟩;go_enter func105,ntmps105;go_upto_region 1 with fail
 refine ml d.arr 29 ?_;intro wa B0 BE;obtain⟨a0,a1,a2,a3,a4⟩:=aO.Mp B0.out;rcases(show z1=false\/(z1=true/\z2=false)\/(z1=true/\z2=true/\z3=true)\/(z1=true/\z2=true/\z3=false/\z4=true)\/(z1=true/\z2=true/\z3=false/\z4=false) by clear hz1 hz2 hz3 hz4;revert z1 z2 z3 z4;decide) with rfl|⟨rfl,rfl⟩|⟨rfl,rfl,rfl⟩|⟨rfl,rfl,rfl,rfl⟩|⟨rfl,rfl,rfl,rfl⟩
 all_goals
  go_wp2;go_ret;exact am.of trivial BE.out
def BR(w:World)(g n:Nat):Prop:=∃cs,aG w g 4 cs/\cs.size=n/\∀i,i<n->∃b:Bool,cs[i]?=some (.bool b)
section
variable {w w':World} {g g' n i:Nat}
theorem BR.step(h:BR w g n)(hb:Bl w w'):BR w' g n:=by obtain⟨cs,h1,h2⟩:=h;exact⟨cs,h1.step hb,h2⟩
theorem BR.get(h:BR w g n)(hi:i<n):∃b:Bool,w.cell? ⟨g,i,none⟩=some (.bool b):=by
 obtain⟨cs,h1,_,h3⟩:=h;obtain⟨b,hb⟩:=h3 i hi;exact⟨b,(h1.cell i).trans hb⟩
theorem BR.frozen(h:BR w g n)(i:Nat):w.frozen? ⟨g,i,none⟩=false:=by obtain⟨cs,h1,_⟩:=h;exact h1.frozen i
theorem BR.lt(h:BR w g n):g<w.heap.size:=by obtain⟨cs,h1,_⟩:=h;exact h1.lt
theorem BR.set(h:BR w g n)(b:Bool):BR (w.setCell ⟨g,i,none⟩ (.bool b)) g n:=by
 obtain⟨cs,h1,h2,h3⟩:=h;refine⟨_,h1.Mo i _,by simp[h2],fun j hj=>?_⟩;by_cases e:i=j
 ·subst e;exact⟨b,by rw[Array.getElem?_setIfInBounds_self_of_lt oM]⟩
 ·rw[Array.getElem?_setIfInBounds_ne e];exact h3 j hj
theorem BR.Mu(h:BR w g n)(hne:g≠g')(u:Value):BR (w.setCell ⟨g',i,none⟩ u) g n:=by obtain⟨cs,h1,h2⟩:=h;exact⟨cs,h1.Mu hne _,h2⟩
theorem BR.made(w:World)(n:Nat):BR (w.alloc (.cells (madeCells #[.bool false] n) 4)) w.heap.size n:=by
 refine⟨_,aG.new _ _ _,by simp[madeCells],fun i hi=>⟨false,?_⟩⟩;simp[madeCells,hi,Nat.mod_one]
end
theorem zu(s t:ByteArray)(w:World)(hs:s.size<=1000000)(ht:t.size<=1000000):Calls prog 205 #[.string s,.string t] w (am (fun _=>True) w):=by
 obtain⟨j0,hj0,hz0,hz1,hz2⟩:=Pb qT
 have hmk:∀w:World,(Instr.makeSlice 83 (.int .i64 ((t.size:Int)+1)) (.int .i64 ((t.size:Int)+1))).run prog w=.ok (.slice (some ⟨w.heap.size,0,none⟩) (t.size+1) (t.size+1)) (w.alloc (.cells (madeCells #[.bool false] (t.size+1)) 4)):=fun w=>by
  have h:=fG (P:=prog) 83 4 j0 (.bool false) underlying83 hj0 hz0 (t.size+1) (by rw[hz2];omega) oM w;rw[hz1,RY] at h;exact h
 have hw1:IntKind.i64.wrap ((t.size:Int)+1)=(t.size:Int)+1:=SE _ ⟨by omega,by omega⟩;have R0:=qD (BR.made w (t.size+1));have BE:Hid (Bl w (w.alloc (.cells (madeCells #[.bool false] (t.size+1)) 4))):=(OG _ _).alloc (qL) _;have hts:(0:Int)<(t.size:Int)+1:=oM
 go_enter func205,ntmps205;go_upto_region 2 with fail
 change Code.wp _ _ _ _ (w.alloc (.cells (madeCells #[.bool false] (t.size+1)) 4));generalize w.alloc (.cells (madeCells #[.bool false] (t.size+1)) 4)=wa at*;obtain⟨b0,hb0⟩:=R0.out.get (i:=0) oM;have hf0:=R0.out.frozen 0;have R1:=qD (R0.out.set (i:=0) true);have BE1:=qD (BE.out.setCell (p:=⟨w.heap.size,0,none⟩) (qL) (.bool true));go_upto_region 4 with fail
 clear hb0 hf0 R0 BE;change Code.wp _ _ _ _ (wa.setCell ⟨w.heap.size,0,none⟩ (.bool true));generalize wa.setCell ⟨w.heap.size,0,none⟩ (.bool true)=wb at*
 go_loopw [5,6,7,8] (fun v5 v6 _ _ wr=>∃(i g:Nat),i<=s.size/\v6=.int .i64 i/\v5=.slice (some ⟨g,0,none⟩) (t.size+1) (t.size+1)/\BR wr g (t.size+1)/\w.heap.size<=g/\Bl w wr) (fun _ v6 _ _ _=>s.size-(intOf v6).toNat)
 ·exact⟨0,_,ON _,rfl,rfl,R1.out,qL,BE1.out⟩
 case round=>
  obtain⟨i,g,hi,rfl,rfl,hR,hge,hB⟩:=hrel;have HR:=qD hR;have HB:=qD hB;have HGA:=qD hge;clear hR hB hge R1 BE1;by_cases hlt:i<s.size
  ·obtain⟨y,hy⟩:=fI hlt;have i0:(0:Int)<=(i:Int):=oM
   have i1:(i:Int)<(s.size:Int):=oM
   have N0:=qD (BR.made wr (t.size+1));have NA:=qD (HR.out.step ((OG wr.heap.size wr).alloc (qL) (.cells (madeCells #[.bool false] (t.size+1)) 4)));have NE:=qD (HB.out.alloc HB.out.size (.cells (madeCells #[.bool false] (t.size+1)) 4));have HNE:Hid (g≠wr.heap.size):=qD (by have:=HR.out.lt;omega);have HGE:Hid (w.heap.size<=wr.heap.size):=qD HB.out.size;go_upto_region 8 with fail
   change Code.wp _ _ _ _ (wr.alloc (.cells (madeCells #[.bool false] (t.size+1)) 4));generalize wr.alloc (.cells (madeCells #[.bool false] (t.size+1)) 4)=wn at*;generalize wr.heap.size=gn at*
   go_loopw [8] (fun v8 wq=>∃k:Nat,k<=t.size+1/\v8=.int .i64 k/\BR wq g (t.size+1)/\BR wq gn (t.size+1)/\Bl w wq) (fun v8 _=>t.size+1-(intOf v8).toNat)
   ·exact⟨0,ON _,rfl,NA.out,N0.out,NE.out⟩
   case round=>
    obtain⟨k,hk,rfl,hA,hG,hE⟩:=hrel;have HA:=qD hA;have HG:=qD hG;have HE:=qD hE;clear hA hG hE N0 NA NE;by_cases hkt:k<=t.size
    ·have hkn:k<t.size+1:=oM
     have k0:(0:Int)<=(k:Int):=oM
     have k1:(k:Int)<=(t.size:Int):=oM
     have k2:(k:Int)<(t.size:Int)+1:=oM
     obtain⟨ba,hba⟩:=HA.out.get hkn;obtain⟨zs,hzs⟩:∃z,(y==42)=z:=⟨_,rfl⟩;rcases PZ k with rfl|hkp
     ·cases zs
      ·go_upto_region 12 with fail
       refine cK 28 kR kR ?_;simp only[Pl,QU,QQ,RQ]
       repeat(go_big_quiet_step (fail))
       refine Oc ?_;rintro _ ⟨kw,rfl⟩;have F0:=(HG.out.step kw.below).frozen 0;obtain⟨bq,hbq⟩:=(HG.out.step kw.below).get hkn;have HAK:=qD (HA.out.step kw.below);have HGK:=qD (HG.out.step kw.below);have HEK:=qD (HE.out.Ml kw.below);clear hba;generalize kw.val=w5 at*;have HA2:∀b:Bool,Hid (BR (w5.setCell ⟨gn,0,none⟩ (.bool b)) g (t.size+1)):=fun b=>qD (HAK.out.Mu (i:=0) HNE.out (.bool b));have HG2:=fun b:Bool=>qD (HGK.out.set (i:=0) b);have HE2:=fun b:Bool=>qD (HEK.out.setCell (p:=⟨gn,0,none⟩) HGE.out (.bool b));go_wp2_with fail;go_roundw
       ·exact⟨0+1,by omega,rfl,(HA2 _).out,(HG2 _).out,(HE2 _).out⟩
       ·simp[intOf]
      ·cases ba
       ·have F0:=HG.out.frozen 0;obtain⟨bq,hbq⟩:=HG.out.get hkn;have HA2:=fun b:Bool=>qD (HA.out.Mu (i:=0) HNE.out (.bool b));have HG2:=fun b:Bool=>qD (HG.out.set (i:=0) b);have HE2:=fun b:Bool=>qD (HE.out.setCell (p:=⟨gn,0,none⟩) HGE.out (.bool b));go_wp2_with fail
        all_goals
         go_roundw
         ·exact⟨0+1,by omega,rfl,(HA2 _).out,(HG2 _).out,(HE2 _).out⟩
         ·simp[intOf]
       ·have F0:=HG.out.frozen 0;obtain⟨bq,hbq⟩:=HG.out.get hkn;have HA2:=fun b:Bool=>qD (HA.out.Mu (i:=0) HNE.out (.bool b));have HG2:=fun b:Bool=>qD (HG.out.set (i:=0) b);have HE2:=fun b:Bool=>qD (HE.out.setCell (p:=⟨gn,0,none⟩) HGE.out (.bool b));go_wp2_with fail
        all_goals
         go_roundw
         ·exact⟨0+1,by omega,rfl,(HA2 _).out,(HG2 _).out,(HE2 _).out⟩
         ·simp[intOf]
     ·obtain⟨j,rfl⟩:∃j,k=j+1:=⟨k-1,by omega⟩;have j1:j<t.size+1:=oM
      have j2:(0:Int)<(j:Int)+1:=oM
      have j3:(0:Int)<=(j:Int):=oM
      have j4:(j:Int)<(t.size:Int)+1:=oM
      have j5:j<t.size:=oM
      have j6:(j:Int)<(t.size:Int):=oM
      have j7:(j:Int)+1<=(t.size:Int):=oM
      have j8:(j:Int)+1<(t.size:Int)+1:=oM
      have j9:(0:Int)<=(j:Int)+1:=oM
      obtain⟨bj,hbj⟩:=HA.out.get j1;obtain⟨bg,hbg⟩:=HG.out.get j1;obtain⟨u,hu⟩:=fI j5;obtain⟨zq,hzq⟩:∃z,(y==63)=z:=⟨_,rfl⟩;cases zs
      ·have A1:=aX hbj;clear hbg;cases bj
       ·go_upto_region 12 with fail
        refine cK 28 kR kR ?_;simp only[Pl,QU,QQ,RQ]
        repeat(go_big_quiet_step (fail))
        refine Oc ?_;rintro _ ⟨kw,rfl⟩;have F0:=(HG.out.step kw.below).frozen (j+1);obtain⟨bq,hbq⟩:=(HG.out.step kw.below).get hkn;have HAK:=qD (HA.out.step kw.below);have HGK:=qD (HG.out.step kw.below);have HEK:=qD (HE.out.Ml kw.below);clear A1 hbj hba;generalize kw.val=w5 at*;have HA2:∀b:Bool,Hid (BR (w5.setCell ⟨gn,(j+1),none⟩ (.bool b)) g (t.size+1)):=fun b=>qD (HAK.out.Mu (i:=(j+1)) HNE.out (.bool b));have HG2:=fun b:Bool=>qD (HGK.out.set (i:=(j+1)) b);have HE2:=fun b:Bool=>qD (HEK.out.setCell (p:=⟨gn,(j+1),none⟩) HGE.out (.bool b));go_wp2_with fail;go_roundw
        ·exact⟨(j+1)+1,by omega,by go_num,(HA2 _).out,(HG2 _).out,(HE2 _).out⟩
        ·exact iO
       ·cases zq
        ·go_upto_region 12 with fail
         refine cK 28 kR kR ?_;simp only[Pl,QU,QQ,RQ]
         repeat(go_big_quiet_step (fail))
         refine Oc ?_;rintro _ ⟨kw,rfl⟩;have F0:=(HG.out.step kw.below).frozen (j+1);obtain⟨bq,hbq⟩:=(HG.out.step kw.below).get hkn;have HAK:=qD (HA.out.step kw.below);have HGK:=qD (HG.out.step kw.below);have HEK:=qD (HE.out.Ml kw.below);clear A1 hbj hba;generalize kw.val=w5 at*;have HA2:∀b:Bool,Hid (BR (w5.setCell ⟨gn,(j+1),none⟩ (.bool b)) g (t.size+1)):=fun b=>qD (HAK.out.Mu (i:=(j+1)) HNE.out (.bool b));have HG2:=fun b:Bool=>qD (HGK.out.set (i:=(j+1)) b);have HE2:=fun b:Bool=>qD (HEK.out.setCell (p:=⟨gn,(j+1),none⟩) HGE.out (.bool b));go_wp2_with fail;go_roundw
         ·exact⟨(j+1)+1,by omega,by go_num,(HA2 _).out,(HG2 _).out,(HE2 _).out⟩
         ·exact iO
        ·go_upto_region 12 with fail
         refine cK 28 kR kR ?_;simp only[Pl,QU,QQ,RQ]
         repeat(go_big_quiet_step (fail))
         refine Oc ?_;rintro _ ⟨kw,rfl⟩;have F0:=(HG.out.step kw.below).frozen (j+1);obtain⟨bq,hbq⟩:=(HG.out.step kw.below).get hkn;have HAK:=qD (HA.out.step kw.below);have HGK:=qD (HG.out.step kw.below);have HEK:=qD (HE.out.Ml kw.below);clear A1 hbj hba;generalize kw.val=w5 at*;have HA2:∀b:Bool,Hid (BR (w5.setCell ⟨gn,(j+1),none⟩ (.bool b)) g (t.size+1)):=fun b=>qD (HAK.out.Mu (i:=(j+1)) HNE.out (.bool b));have HG2:=fun b:Bool=>qD (HGK.out.set (i:=(j+1)) b);have HE2:=fun b:Bool=>qD (HEK.out.setCell (p:=⟨gn,(j+1),none⟩) HGE.out (.bool b));go_wp2_with fail;go_roundw
         ·exact⟨(j+1)+1,by omega,by go_num,(HA2 _).out,(HG2 _).out,(HE2 _).out⟩
         ·exact iO
      ·cases ba
       ·clear hbj;have F0:=HG.out.frozen (j+1);obtain⟨bq,hbq⟩:=HG.out.get hkn;have HA2:=fun b:Bool=>qD (HA.out.Mu (i:=(j+1)) HNE.out (.bool b));have HG2:=fun b:Bool=>qD (HG.out.set (i:=(j+1)) b);have HE2:=fun b:Bool=>qD (HE.out.setCell (p:=⟨gn,(j+1),none⟩) HGE.out (.bool b));go_wp2_with fail
        all_goals
         go_roundw
         ·exact⟨(j+1)+1,by omega,by go_num,(HA2 _).out,(HG2 _).out,(HE2 _).out⟩
         ·exact iO
       ·clear hbj;have F0:=HG.out.frozen (j+1);obtain⟨bq,hbq⟩:=HG.out.get hkn;have HA2:=fun b:Bool=>qD (HA.out.Mu (i:=(j+1)) HNE.out (.bool b));have HG2:=fun b:Bool=>qD (HG.out.set (i:=(j+1)) b);have HE2:=fun b:Bool=>qD (HE.out.setCell (p:=⟨gn,(j+1),none⟩) HGE.out (.bool b));go_wp2_with fail
        all_goals
         go_roundw
         ·exact⟨(j+1)+1,by omega,by go_num,(HA2 _).out,(HG2 _).out,(HE2 _).out⟩
         ·exact iO
    ·obtain rfl:k=t.size+1:=oM
     have k1:¬(t.size:Int)+1<=(t.size:Int):=oM
     go_wp2_with fail;go_roundw
     ·exact⟨i+1,gn,by omega,by go_num,rfl,HG.out,HGE.out,HE.out⟩
     ·exact iO
  ·obtain rfl:i=s.size:=oM
   obtain⟨bl,hbl⟩:=HR.out.get (i:=t.size) oM;have t0:(0:Int)<=(t.size:Int):=oM
   have t1:(t.size:Int)<(t.size:Int)+1:=oM
   go_wp2;go_ret;exact am.of trivial HB.out
theorem xW{α:Type}(S:List α)(p:α)(k:Nat):(S.take k++p::S.drop k).Perm (S++[p]):=by
 refine SW.trans ?_;rw[Oh];exact(Rm p S).symm
section
variable {w:World} {is:List PI} {i:Nat} {S:List PI} {v:Value} {wr w':World}
end
section
variable {w1 w2:World} {g:Nat} {n:List (cx×cx)} {j:Nat} {v:Value} {gs:List PI} {f:PC} {wr w':World}
end
end
end Go.Proofs.YtgfoliedmhgpnaaGreatDoor
