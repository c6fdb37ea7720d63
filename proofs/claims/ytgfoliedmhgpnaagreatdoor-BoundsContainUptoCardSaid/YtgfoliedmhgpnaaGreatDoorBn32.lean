/- A part of the proof. -/
import Derived.Test.YtgfoliedmhgpnaaGreatDoorBn31
import Derived.Test.YtgfoliedmhgpnaaGreatDoorBn22
import Derived.Lib.LaidU8
set_option maxRecDepth 100000
set_option maxHeartbeats 16000000
set_option linter.unusedSimpArgs false
open Go.Proofs.Tryz
open ByteArray (empty)
namespace Go.Proofs.YtgfoliedmhgpnaaGreatDoor
section
variable {l:List ByteArray} {i n m size:Nat} {x:Int} {s:ByteArray}
theorem pg:∀l:List Int,cE (l++[255])=cE l
 | []=>by simp[cE]
 | y::r=>by rw[Ly,cE,cE,pg r]
theorem oF{x:Int}(hx:x≠255):∀l:List Int,cE (l++[x])=some (l++[x+1])
 | []=>by simp[cE,hx]
 | y::r=>by rw[Ly,cE,oF hx r];rfl
theorem ES{s:ByteArray}{i:Nat}{x:UInt8}(h:s.data[i]?=some x):(fI s)[i]?=some (x.toNat:Int):=by
 unfold fI;rw[KP,Kx,h];rfl
def yx(s:ByteArray):Nat->Option (List Int)
 | 0=>none
 | n+1=>some ((fI s).take n++[((s.data[n]?.getD 0).toNat:Int)+1])
theorem ml(s:ByteArray):∀n,n<=s.size->cE ((fI s).take n)=yx s (dH s n)
 | 0,_=>by simp[cE,dH,yx]
 | n+1,h=>by
  obtain ⟨x, hx⟩ : ∃ x, s.data[n]? = some x := ⟨s.data[n]'(by have : s.data.size = s.size := rfl; omega), by rw [MY]; exact ⟨_, rfl⟩⟩;have hN:=ES hx;have e:(fI s).take (n+1)=(fI s).take n++[(x.toNat:Int)]:=by rw[Le,hN];rfl
  have ih:=ml s n (by omega);unfold dH;by_cases h255:x=255
  ·rw[hx,Kb (by rw[h255]),e,h255];exact(pg _).trans ih
  ·have hn:(x.toNat:Int)≠255:=by
    intro k;apply h255;apply Ms.1;have:(255:UInt8).toNat=255:=rfl;omega
   rw[hx,KU (by simpa using h255),e,oF hn];show _=some ((fI s).take n++[((s.data[n]?.getD 0).toNat:Int)+1]);rw[hx];rfl
theorem vF(s:ByteArray):cE (fI s)=yx s (dH s s.size):=by
 have:=ml s s.size (qL)
 rwa [KL (by rw[mK];omega)] at this
theorem ph(s:ByteArray)(n:Nat):strOfNums ((fI s).take n)=s.extract 0 n:=by
 apply Me;apply Mi.1;rw[Mx,ByteArray.data_extract,Array.toList_extract];have:=congrArg (fun b=>b.data.toList) (cT s);simp only[Mx] at this;rw[List.map_take,this,OK];simp
theorem xo(x:UInt8)(h:x≠255):strOfNums [(x.toNat:Int)+1]=⟨#[x+1]⟩:=by
 have hx:x.toNat+1<256:=by
  have h1:=x.toNat_lt;have:x.toNat≠255:=fun k=>h (Ms.1 k);omega
 apply Me;apply Mi.1;rw[Mx];simp only[Lv,Of]
 have:UInt8.ofNat ((x.toNat:Int)+1).toNat=x+1:=by
  apply Ms.1;rw[OH,UInt8.toNat_add];have:(1:UInt8).toNat=1:=rfl;rw[this];congr 1
 rw[this]
theorem vG{s:ByteArray}:∀{n m:Nat},dH s n=m+1->s.data[m]?≠some 255
 | 0,m,h=>by simp[dH] at h
 | n+1,m,h=>by
  unfold dH at h;split at h
  ·exact vG h
  ·rename_i k
   obtain rfl:n=m:=by omega
   exact k
theorem rj(s:ByteArray):fm s=(cE (fI s)).map strOfNums:=by
 rw[vF];unfold fm;cases h:dH s s.size with
 | zero=>rfl
 | succ n=>
  have hle:=ra s s.size;have hat:=vG h;obtain ⟨x, hx⟩ : ∃ x, s.data[n]? = some x := ⟨s.data[n]'(by have : s.data.size = s.size := rfl; omega), by rw [MY]; exact ⟨_, rfl⟩⟩;unfold yx;simp only[hx,Option.getD_some,Ls,LS];rw[nE,ph,xo x fun k=>hat (by rw[hx,k])]
end
open Go.RowKit
section
variable {l r:List ByteArray} {b c k n lo bs:Nat} {op a x y:Int} {s:ByteArray} {t:TypeId} {v:Value}
theorem nU{x y:aC}(h:aY x y<=0):aZ (x,false) (y,true)<0:=by
 by_cases h0:aY x y=0
 ·rw[dg (a:=(x,false)) (b:=(y,true)) h0];show qF false true<0;decide
 ·rw[gO (a:=(x,false)) (b:=(y,true)) h0];show aY x y<0;omega
theorem ky{x y:aC}{b:Bool}(h:aY x y<=0):aZ (x,b) (y,b)<=0:=by
 by_cases h0:aY x y=0
 ·rw[dg (a:=(x,b)) (b:=(y,b)) h0];show qF b b<=0;cases b<;>decide
 ·rw[gO (a:=(x,b)) (b:=(y,b)) h0];show aY x y<=0;omega
theorem pj{x y:aC}{b c:Bool}(h:aY x y<0):aZ (x,b) (y,c)<0:=by
 rw[gO (a:=(x,b)) (b:=(y,c)) (show aY x y≠0 by omega)];exact h
theorem jS{x:Iv}{y:aC}(hlo:aL x.lo=true)(hhi:aL x.hi=true)(h1:aZ x.sp.1 (y,false)<=0)(h2:aZ (y,false) x.sp.2<0):ch aZ (y,false) (aU [x]):=by
 have hne:x.ne=true:=by
  unfold Iv.ne;rw[hlo,hhi,Jy (ee.Jc h1 h2)];rfl
 refine⟨x.sp,?_,h1,h2⟩;unfold aU;rw[List.filter_cons_of_pos hne];simp
theorem ET{l:List Iv}{x:Iv}{a:cy}(hx:x∈l)(h:ch aZ a (aU [x])):ch aZ a (aU l):=by
 obtain⟨s,hs,h1,h2⟩:=h;obtain⟨z,hz,rfl⟩:=LL.1 hs;obtain⟨hz1,hz2⟩:=MV.1 hz;simp only[Kf] at hz1;subst hz1;exact⟨z.sp,LL.2 ⟨z,MV.2 ⟨hx,hz2⟩,rfl⟩,h1,h2⟩
theorem Es{v y:aC}(hv:aL v=true)(h:aY v y=0):ch aZ (y,false) (aU [ei v]):=by
 have h':aY y v=0:=by have:=eS v y;omega
 exact jS hv hv (ky (x:=v) (y:=y) (b:=false) (by omega)) (nU (x:=y) (y:=v) (by omega))
theorem Fq{y:aC}(hy:aL y=true):eD (y,false):=by
 refine(nQ.2 (y,false)).1 ⟨_,Kf.2 rfl,Fk hy,?_⟩;refine nU ?_;have:=Fl (a:=(y,true)) hy;by_cases h0:aY y gE=0
 ·omega
 ·rw[gO (a:=(y,true)) (b:=(gE,true)) h0] at this;exact this
theorem lr{k n:Int}{t:ByteArray}(h:dl k n t 0 0):aL (.mk k n t [] [])=true:=by
 have e:(aC.mk k n t [] []).parts=[]:=by
  unfold aC.parts;split
  ·rfl
  ·split<;>rfl
 refine fk ?_ ?_ ?_
 ·rw[dA,e];simp[bN]
 ·rw[ci,e];simp[ak]
 ·exact(al _ _).2 ⟨h,by simp[aC.l],by simp[aC.d],by simp[aC.d,iV]⟩
theorem Cr:bt empty=true:=by kernel_rfl
theorem kY{k:Int}(h:1<=k/\k<=11):aL (bS k)=true:=by
 have:k=1\/k=2\/k=3\/k=4\/k=5\/k=6\/k=7\/k=8\/k=9\/k=10\/k=11:=by omega
 have e0:ByteArray.empty.size=0:=rfl;have e1:cf.size=12:=rfl;rcases this with rfl|rfl|rfl|rfl|rfl|rfl|rfl|rfl|rfl|rfl|rfl<;>refine lr ?_<;>unfold dl<;>simp[e0,e1,Cr]
theorem oG:∀(n:Nat) (l:List UInt8),l.length=n->Lib.compareBytes (List.replicate n 0) l<=0
 | 0,[],_=>by decide
 | n+1,a::l,h=>by
  rw[List.replicate_succ,fZ];have ih:=oG n l (by simpa using h);have h0:=cd ((0:UInt8).toNat:Int) (a.toNat:Int);have h1:(0:UInt8).toNat=0:=rfl;unfold nG;split
  ·omega
  ·exact ih
theorem rk(l:List UInt8):Lib.compareBytes [] l<=0:=by
 cases l with
 | nil=>decide
 | cons a r=>simp[Lib.compareBytes]
theorem Cs(l:List cF):cH [] l<=0:=by
 rw[cH];split<;>omega
theorem vH{y:aC}(hy:aL y=true)(hn:il y.n)(h6:y.k≠6):aY (bS y.k) y<=0:=by
 have hk:=dV hy;have hh:=((al _ _).1 (bh hy).2.2).1;unfold dl at hh;unfold il at hn;have:y.k=3\/y.k=9\/y.k=10\/y.k=4\/y.k=7\/y.k=8\/y.k=5\/y.k=1\/y.k=2\/y.k=11:=by omega
 rcases this with e|e|e|e|e|e|e|e|e|e
 ·rw[e,fz (by rw[e];rfl) (.inl rfl)];have:=cd (bS 3).n y.n;have h1:(bS 3).n=-9223372036854775808:=rfl;omega
 ·rw[e,fz (by rw[e];rfl) (.inr (.inl rfl))];have:=cd (bS 9).n y.n;have h1:(bS 9).n=0:=rfl;omega
 ·rw[e,fz (by rw[e];rfl) (.inr (.inr rfl))];have:=cd (bS 10).n y.n;have h1:(bS 10).n=0:=rfl;omega
 ·rw[e,eQ (by rw[e];rfl) (.inl rfl)];exact rk _
 ·rw[e,eQ (by rw[e];rfl) (.inr (.inl rfl))];exact rk _
 ·rw[e,eQ (by rw[e];rfl) (.inr (.inr rfl))];refine oG 12 _ ?_;have:y.t.size=12:=by omega
  exact this
 ·rw[e,ov (by rw[e];rfl) rfl];exact Cs _
 all_goals
  rw[e,ef (by rw[e];rfl) (by decide) (by decide) (by decide) (by decide) (by decide) (by decide) (by decide) (by decide)];omega
theorem vJ{y:aC}(hy:aL y=true)(hn:il y.n)(h6:y.k≠6):aY (bB y.k).lo y<=0/\aZ (y,false) ((bB y.k).hi,(bB y.k).hin)<0/\aL (bB y.k).lo=true/\aL (bB y.k).hi=true:=by
 have hk:=dV hy;have hh:=((al _ _).1 (bh hy).2.2).1;unfold dl at hh;have hl:=vH hy hn h6;have vl:=kY hk;unfold il at hn;have e0:ByteArray.empty.size=0:=rfl;have:(y.k=3\/y.k=10)\/y.k=9\/(y.k=4\/y.k=5\/y.k=7\/y.k=8)\/(y.k=1\/y.k=2\/y.k=11):=by omega
 rcases this with e|e|e|e
 ·rw[oh e];refine⟨hl,nU (x:=y) (y:=.mk y.k 9223372036854775807 empty [] []) ?_,vl,lr ?_⟩
  ·rw[fz (x:=y) (y:=.mk y.k 9223372036854775807 empty [] []) rfl (by omega)];have:=cd y.n (aC.mk y.k 9223372036854775807 empty [] []).n;have h1:(aC.mk y.k 9223372036854775807 empty [] []).n=9223372036854775807:=rfl;omega
  ·rcases e with e|e<;>rw[e]<;>unfold dl<;>simp[e0]
 ·rw[e] at hl vl ⊢;rw[tq];refine⟨hl,nU (x:=y) (y:=.mk 9 1 empty [] []) ?_,vl,lr ?_⟩
  ·rw[fz e (.inr (.inl e))];have:=cd y.n (aC.mk 9 1 empty [] []).n;have h1:(aC.mk 9 1 empty [] []).n=1:=rfl;omega
  ·unfold dl;simp[e0]
 ·rw[jw (by omega)];refine⟨hl,pj (x:=y) (y:=bS (y.k+1)) ?_,vl,kY (by omega)⟩
  have h1:(bS (y.k+1)).k=y.k+1:=by
   obtain⟨n,t,h,_⟩:=lT (y.k+1);rw[h];rfl
  rw[au (by omega),h1];have:=cd y.k (y.k+1);omega
 ·rw[ol (by omega)]
  have h1:(bS y.k).k=y.k:=by
   obtain⟨n,t,h,_⟩:=lT y.k;rw[h];rfl
  refine⟨hl,nU (x:=y) (y:=bS y.k) ?_,vl,vl⟩;rw[ef h1.symm (by omega) (by omega) (by omega) (by omega) (by omega) (by omega) (by omega) (by omega)];omega
theorem EU{y:aC}(hy:aL y=true)(hn:il y.n)(h6:y.k≠6):ch aZ (y,false) (aU [bB y.k]):=by
 obtain⟨h1,h2,h3,h4⟩:=vJ hy hn h6;refine jS h3 h4 ?_ h2;show aZ ((bB y.k).lo,!(bB y.k).li) (y,false)<=0;rw[(lk y.k).2.2];exact ky h1
theorem Fs{op:Int}{x y:aC}(ho:op=4\/op=5\/op=6\/op=7)(hy:aL y=true)(hx:aL x=true)(hn:il y.n)(h6:y.k≠6)(hk:y.k=x.k)(h:fS op (aY y x)=true):ch aZ (y,false) (aU [mZ op x]):=by
 obtain⟨h1,h2,h3,h4⟩:=vJ hy hn h6;have ha:=eS y x;rw[hk] at h1 h2 h3 h4;rcases ho with rfl|rfl|rfl|rfl
 ·have h':0<aY y x:=by simpa[fS] using h
  exact jS (x:=mZ 4 x) hx h4 (Int.le_of_lt (pj (x:=x) (y:=y) (b:=true) (c:=false) (by omega))) h2
 ·have h':0<=aY y x:=by simpa[fS] using h
  exact jS (x:=mZ 5 x) hx h4 (ky (x:=x) (y:=y) (b:=false) (by omega)) h2
 ·have h':aY y x<0:=by simpa[fS] using h
  refine jS (x:=mZ 6 x) h3 hx ?_ (pj h');show aZ ((bB x.k).lo,!(bB x.k).li) (y,false)<=0;rw[(lk x.k).2.2];exact ky h1
 ·have h':aY y x<=0:=by simpa[fS] using h
  refine jS (x:=mZ 7 x) h3 hx ?_ (nU h');show aZ ((bB x.k).lo,!(bB x.k).li) (y,false)<=0;rw[(lk x.k).2.2];exact ky h1
theorem EV{s p:ByteArray}(h:iE s p=true):∃r,fI s=fI p++r:=by
 unfold iE at h;simp only[Kz,MD,MS] at h;obtain⟨h1,h2⟩:=h;have h3:=jr.1 h2;refine⟨(fI s).drop p.size,?_⟩
 have:fI p=(fI s).take p.size:=by
  have h4:fI p=fI (s.extract 0 p.size):=by rw[h3]
  rw[h4];unfold fI;rw[ByteArray.data_extract,Array.toList_extract,OK,<-List.map_take];simp
 rw[this];exact(LC _ _).symm
theorem fP(s:ByteArray):ua (fI s):=fun z hz=>by
 unfold fI at hz;obtain⟨b,_,rfl⟩:=LL.1 hz;have:=b.toNat_lt;omega
theorem Fu{x y:aC}(hx:aL x=true)(hx4:x.k=4)(hy4:y.k=4)(h:iE y.t x.t=true):ch aZ (y,false) (aU [(lG x).1]):=by
 obtain⟨r,hr⟩:=EV h
 have lo:aZ (x,false) (y,false)<=0:=by
  refine ky ?_;rw[eQ (by rw[hx4,hy4]) (.inl hx4),<-cT x.t,<-cT y.t,oV (fP _) (fP _),hr]
  have:∀l:List Int,gM l (l++r)<=0:=by
   intro l
   induction l with
   | nil=>exact CT _
   | cons a q ih=>rw[Ly,rH];exact ih
  exact this _
 have v5:aL (gK 5)=true:=kY (k:=5) (by omega)
 have up5:aZ (y,false) (gK 5,false)<0:=pj (by
  rw[au (by rw[hy4];decide),hy4]
  decide)
 unfold lG;split
 ·rename_i s hs
  split
  ·rename_i hv
   refine jS (x:=⟨x,.mk 4 0 s [] [],true,false⟩) hx hv lo (pj ?_);rw[rj] at hs;obtain⟨u,hu,rfl⟩:=LR.1 hs;rw[eQ hy4 (.inl hy4)];show dP y.t (strOfNums u)<0;rw[<-cT y.t,oV (fP _) (nN (fP _) hu),hr];exact rQ hu r
  ·exact jS (x:=⟨x,gK 5,true,false⟩) hx v5 lo up5
 ·exact jS (x:=⟨x,gK 5,true,false⟩) hx v5 lo up5
theorem ElRs.all{x:aC}:∀{l:List aX} {bs:List Bool},gR.ElRs l x bs->bs.all id=true->∀k∈l,gR k x true
 | [],_,_,_,k,hk=>by cases hk
 | a::r,bs,h,hb,k,hk=>by
  simp only[gR.ElRs] at h;obtain⟨b,q,rfl,h1,h2⟩:=h;simp only[OU,Kz,id] at hb;rcases LG.1 hk with e|hk
  ·rw[e,<-hb.1];exact h1
  ·exact ElRs.all h2 hb.2 k hk
theorem ElRs.one{x:aC}:∀{l:List aX} {bs:List Bool},gR.ElRs l x bs->bs.any id=true->∃k∈l,gR k x true
 | [],bs,h,hb=>by simp only[gR.ElRs] at h;subst h;cases hb
 | a::r,bs,h,hb=>by
  simp only[gR.ElRs] at h;obtain⟨b,q,rfl,h1,h2⟩:=h;cases b
  ·obtain⟨k,hk,hr⟩:=ElRs.one h2 (by simpa using hb);exact⟨k,by simp[hk],hr⟩
  ·exact⟨a,by simp,h1⟩
end
structure IM(x:aC)(l:List ByteArray)(vs:List aC):Prop where
 ne:vs≠[]
 val:∀v∈vs,aL v=true
 nums:∀v∈vs,il v.n
 hit:∀f:aC->Bool,(∀z,z.k=6->f z=false)->(cj x l).any f=true->∃v∈vs,v.k≠6/\(f v=true\/(f aC.zero=true/\v=dm))
section
variable {l r ys:List ByteArray} {k K i size:Nat} {x y:Int} {v:Value}
theorem rm{v z:aC}(h:v.k≠6)(hz:z.k=6):iu v z=false:=by
 have h1:aY z v≠0:=by
  rw[au (by omega)];have:=cd z.k v.k;omega
 simp only[iu,Bool.or_eq_false_iff,No,Kt];exact⟨h1,.inr (by omega)⟩
theorem Ct{v y:aC}(hv:aL v=true)(hy:aL y=true)(h:iu v y=true\/(iu v aC.zero=true/\y=dm)):ch aZ (y,false) (aU [ei v]):=by
 have hkv:=dV hv;have hky:=dV hy;have hz:aC.zero.k=0:=rfl;rcases h with h|⟨h,rfl⟩
 ·simp only[iu,Bool.or_eq_true,Kz,MS] at h;rcases h with h|h
  ·exact Es hv (by have:=eS y v;omega)
  ·omega
 ·simp only[iu,Bool.or_eq_true,Kz,MS] at h;rcases h with h|h
  ·rw[au (by omega)] at h;have:=eR.1 h;omega
  ·have e:v.k=dm.k:=h.1;have e2:dm.k=2:=rfl;exact Es hv (ef e (by omega) (by omega) (by omega) (by omega) (by omega) (by omega) (by omega) (by omega))
theorem rn{vs:List aC}(ha:∃v∈vs,eD (v,false)):∀{rs:List iW},(∀r∈rs,∃v∈vs,r.1 (v,false))->∃v∈vs,(ej rs).1 (v,false)
 | [],_=>ha
 | r::rs,h=>by
  unfold ej;split
  ·exact rn ha fun x hx=>h x (by simp[hx])
  ·exact h r (by simp)
theorem Fv{l:List ByteArray}{x:aC}{vs:List aC}(H:IM x l vs):∀{p:aX},kS p->gR p x true->∃v∈vs,(dW l p).1 (v,false):=by
 have hz:aC.zero.k=0:=rfl
 have ha:∃v∈vs,eD (v,false):=by
  obtain⟨v,r,e⟩:=OJ H.ne;have hv:v∈vs:=by rw[e];simp
  exact⟨v,hv,Fq (H.val v hv)⟩
 intro p
 induction p using aX.ind with
 | h p ih=>
  intro hv hel;have V:=hv.open;have E:=hel.open;by_cases h20:p.op=20
  ·rw[tA h20];obtain⟨bs,hb,hal⟩:=E.all h20
   have hr:∀r∈p.kids.map (dW l),∃v∈vs,r.1 (v,false):=by
    intro r hr;obtain⟨k,hk,rfl⟩:=LL.1 hr;exact ih k hk (V.kids (.inl h20) k hk) (ElRs.all hb hal.symm k hk)
   unfold oO;split
   ·rename_i r e;exact hr r (by rw[e];simp)
   ·exact rn ha hr
  ·by_cases h21:p.op=21
   ·rw[xQ h21];obtain⟨bs,hb,hal⟩:=E.one h21;obtain⟨k,hk,hr⟩:=ElRs.one hb hal.symm;unfold yp;split
    ·exact ha
    ·obtain⟨v,hv,hh⟩:=ih k hk (V.kids (.inr h21) k hk) hr;exact⟨v,hv,_,LL.2 ⟨k,hk,rfl⟩,hh⟩
   ·by_cases hp:p.path.xs=l
    ·rw[kQ h20 h21 hp];have ho:p.op=2\/(p.op=4\/p.op=5\/p.op=6\/p.op=7)\/p.op=8\/p.op=16\/p.op=11\/(p.op≠2/\p.op≠4/\p.op≠5/\p.op≠6/\p.op≠7/\p.op≠8/\p.op≠16/\p.op≠11):=by omega
     rcases ho with ho|ho|ho|ho|ho|ho
     ·have va:=V.arg (.inl ho);have e:=E.eq ho;rw[hp] at e;rw[ho];by_cases h6:p.arg.2.k=6
      ·rw[bz (my h6)];exact ha
      ·rw[bU (oe h6)];obtain⟨v,hv,_,hh⟩:=H.hit _ (fun z hz=>rm h6 hz) e.symm;exact⟨v,hv,Ct va (H.val v hv) hh⟩
     ·have va:=V.arg (.inr (by omega));have e:=E.ord ho;rw[hp] at e;by_cases h6:p.arg.2.k=6
      ·rw[bz (lR ho h6)];exact ha
      ·rw[bU (mz ho h6)];have hka:=dV va;obtain⟨v,hv,hv6,hh⟩:=H.hit _ (fun z hz=>by simp only[gD,No,Kt];left;omega) e.symm;refine⟨v,hv,?_⟩;rcases hh with h|⟨h,_⟩
       ·simp only[gD,Kz,MS] at h;exact Fs ho (H.val v hv) va (H.nums v hv) hv6 h.1 h.2
       ·simp only[gD,Kz,MS] at h;omega
     ·have vas:=V.args ho;have e:=E.isin ho;rw[hp] at e;rw[ho];by_cases h6:∃z∈p.args.xs.map Prod.snd,z.k=6
      ·rw[bz (nB h6)];exact ha
      ·rw[bU (og h6)];obtain⟨a,hma,hh⟩:=LW.1 e.symm;have ham:a.2∈p.args.xs.map Prod.snd:=LL.2 ⟨a,hma,rfl⟩;obtain⟨v,hv,_,hh2⟩:=H.hit _ (fun z hz=>rm (fun e6=>h6 ⟨a.2,ham,e6⟩) hz) hh;exact⟨v,hv,ET (LL.2 ⟨a.2,ham,rfl⟩) (Ct (vas a hma) (H.val v hv) hh2)⟩
     ·have va:=V.arg (by omega);have v4:=V.text ho;have e:=E.pre ho;rw[hp] at e;rw[ho,bU ie];obtain⟨v,hv,hv6,hh⟩:=H.hit _ (fun z hz=>by simp only[No,Kt];left;omega) e.symm;refine⟨v,hv,?_⟩;rcases hh with h|⟨h,_⟩
      ·simp only[Kz,MS] at h;exact Fu va v4 h.1 h.2
      ·simp only[Kz,MS] at h;omega
     ·have vn:=V.kind ho;have e:=E.kind ho;rw[hp] at e;rw[ho];by_cases h6:p.n=6
      ·rw[h6,bz ju];exact ha
      ·rw[bU (lS h6)];obtain⟨v,hv,hv6,hh⟩:=H.hit _ (fun z hz=>by rw[Kt];omega) e.symm;refine⟨v,hv,?_⟩;rcases hh with h|⟨h,_⟩
       ·have h':v.k=p.n:=by simpa using h
        rw[<-h'];exact EU (H.val v hv) (H.nums v hv) hv6
       ·have h':aC.zero.k=p.n:=by simpa using h
        omega
     ·rw[bz (jv ho)];exact ha
    ·rw[ma h20 h21 hp];exact ha
def dy(y:aC):List aC:=if y.k=0 then [dm] else if y.k=6/\0<y.l.length then y.l else [y]
noncomputable def fQ(x:aC)(l:List ByteArray):List aC:=(gN x l).flatMap dy
theorem vK{x y:aC}(h:cN y x\/y=aC.zero):(dy y).length<=x.size:=by
 have h1:=dv x;have h2:=mV h;unfold fB at h2;unfold dy;split
 ·simpa using h1
 ·split
  ·rename_i h6
   rw[Kb h6.1,Ks] at h2;omega
  ·simpa using h1
theorem Cu{K:Nat}:∀{zs:List aC},(∀y∈zs,(dy y).length<=K)->(zs.flatMap dy).length<=zs.length*K:=by
 intro zs
 induction zs with
 | nil=>intro _;simp
 | cons a r ih=>
  intro h;have h1:=h a (by simp);have h2:=ih fun y hy=>h y (by simp[hy]);simp only[OO,KV,Ks,Lk];omega
theorem xp{ys:List PV}{i:Nat}{p:PV}(h:ys[i]?=some p):((ys.map Prod.snd).take (i+1)).flatMap dy=((ys.map Prod.snd).take i).flatMap dy++dy p.2:=by
 rw[Le,KP,h,OA];simp
end
structure Fw(F:Nat->Prop)(x:aC)(w wa:World)(m:Nat)(v:Value)(ps:List PV)(wr:World):Prop where
 own:wr.ownsRow wa.heap.size 29 5 v m (aO bC ps)
 ln:ps.length=m
 bel:Below wa.heap.size wa wr
 rv:∀p∈ps,RV F w p.1 p.2
section
variable {l r xs:List ByteArray} {b c k i n B m lo size bs S:Nat} {op a x y d:Int} {s:ByteArray} {w w' wr:World} {A:Option Addr} {F:Nat -> Prop} {e t:TypeId} {v v':Value}
section
variable {F:Nat->Prop} {x:aC} {w wa wr w':World} {m m2:Nat} {v v':Value} {ps qs:List PV}
theorem Fw.step(h:Fw F x w wa m v ps wr)(hb:Below wr.heap.size wr w'):Fw F x w wa m v ps w':=⟨bJ h.own hb,h.ln,h.bel.Ih hb,h.rv⟩
theorem Fw.add(h:Fw F x w wa m v ps wr)(h1:∀p∈qs,RV F w p.1 p.2)(h2:qs.length=m2)(ho:w'.ownsRow wa.heap.size 29 5 v' (m+m2) (aO bC ps++aO bC qs))(hg:wr.grownBy w' v.ownBlock):Fw F x w wa (m+m2) v' (ps++qs) w':=by
 refine⟨by rw[di];exact ho,by rw[KV,h.ln,h2],h.bel.grown hg h.bel.size (bF h.own),fun p hp=>?_⟩;rcases KI.1 hp with hp|hp
 ·exact h.rv p hp
 ·exact h1 p hp
end
def EW(F:Nat->Prop)(zs:List aC)(K:Nat)(w:World)(e:Ending)(w':World):Prop:=
 ∃A m c ps,e=.returned (.slice A m c)/\SR 5 bC w' A m c ps/\(∀p∈ps,RV F w p.1 p.2)/\ps.map Prod.snd=zs/\m<=K/\Below w.heap.size w w'
theorem tG(x:aC)(F:Nat->Prop)(l:List ByteArray)(c:VC)(A:Option Addr)(n cc:Nat)(w:World)(hF:∀b,F b->b<w.heap.size)(h:RV F w c x)(hp:ST w A n cc l)(hz:x.size<=1024)(hl:l.length<=16):
 Calls prog 74 #[c.val,.slice A n cc] w (EW F (fQ x l) 68719476736 w):=by
 obtain⟨j0,hj0,hy0,hy1,hy2⟩:=LM dC;have hK:x.size*2^l.length<=67108864:=Li hz (MA (n:=2) (by omega) hl);have HK:=qD hK;have HXZ:=qD hz;have BE:Hid (Below w.heap.size w (w.alloc (.cells c.arr 29))):=(Ju _ _).alloc (qL) _;have B0:Hid (aG (w.alloc (.cells c.arr 29)) w.heap.size 29 c.arr):=aG.Ii rfl;have HFH:=qD hF;have HPA:=qD (nL x F l c A n cc (w.alloc (.cells c.arr 29)) (fun b hb=>Ka (hF b hb) BE.out.size) (h.alloc _) (hp.step BE.out) (by omega));clear h hp hF hz hl hK;go_enter func74,ntmps74;go_upto_region 1 with fail
 change Code.wp _ _ _ _ (w.alloc (.cells c.arr 29));generalize w.alloc (.cells c.arr 29)=wa at*;obtain⟨a0,a1,a2,a3,a4⟩:=aS.Ig B0.out;simp only[Jw] at a0 a1 a2 a3 a4;go_upto_region 2 with(refine HPA.out.mono ?_;rintro e w1 ⟨A1,M,c1,ys,rfl,hsr,hps,hM,hb⟩;have HSR:=qD hsr;have HPS:=qD (hps.back BE.out HFH.out);have HM:=qD (KM hM HK.out);have HB:=qD (BE.out.Ih hb);clear hsr hps hM hb)
 clear a0 a1 a2 a3 a4 HPA B0 BE;have hM:M<=67108864:=HM.out;go_upto_region 4 with fail
 go_loopw [6,7] (fun v6 v7 wr=>∃(i m:Nat) (ps:List PV),i<=M/\v7=.int .i64 i/\Fw F x w w1 m v6 ps wr/\ps.map Prod.snd=((ys.map Prod.snd).take i).flatMap dy) (fun _ v7 _=>M-(intOf v7).toNat)
 ·exact⟨0,0,[],KD _,rfl,⟨bX _ _ _ _,rfl,Ju _ _,by simp⟩,by simp⟩
 case round=>
  obtain⟨i,m,ps,hi,rfl,hI,hfl⟩:=hrel;have HI:=qD hI;have HFL:=qD hfl;clear hI hfl
  have hmi:m<=i*x.size:=by
   have h1:∀y∈ys.map Prod.snd,(dy y).length<=x.size:=fun y hy=>by
    obtain⟨q,hq,rfl⟩:=LL.1 hy;exact vK (HPS.out.sub q hq)
   have h2:=Cu (K:=x.size) (zs:=(ys.map Prod.snd).take i) fun y hy=>h1 y (MT hy);rw[<-HFL.out,KX,HI.out.ln,LI] at h2;have h4:min i (ys.map Prod.snd).length*x.size<=i*x.size:=Ki _ (Nz _ _);omega
  by_cases hlt:i<M
  ·have hi0:i<ys.length:=by rw[<-HSR.out.ln];exact hlt
   obtain⟨p,hpq⟩:∃p,ys[i]?=some p:=⟨_,Jv hi0⟩;have HPQ0:=qD hpq;have HPR:=qD (HPS.out.rv p (Jx hpq));have HPU:=qD (HPS.out.sub p (Jx hpq));obtain⟨eb,eo,hA,hlb,hva⟩:=(HSR.out.step HI.out.bel).Iq hpq
   have hmz:m+x.size<=68719476736:=by
    have h3:(i+1)*x.size<=67108864*1024:=Li (by omega) HXZ.out;rw[Lk] at h3;omega
   have hx1:1<=x.size:=dv x;have HSL:=qD (vK HPU.out);have HTF:=qD (xp hpq);subst hA;have q0:(0:Int)<=(i:Int):=by omega
   have q1:(i:Int)<(M:Int):=by omega
   obtain⟨e0,e1,e2,e3,e4⟩:=hva;have hlo:w1.heap.size<=wr.heap.size:=HI.out.bel.size;clear hpq hmi;by_cases h0:p.1.k=0
   ·have h0b:(p.1.k==0)=true:=by simpa using h0
    have HY0:Hid (dy p.2=[dm]):=by unfold Hid dy;rw[Kb (by rw[<-HPR.out.open.k];exact h0)]
    clear h0;go_wp2_with (at_builtin;refine aJ _ rfl _ _ 26 rfl w1.heap.size 29 j0 VC.zero.val 5 80 Kv hj0 hy0 hy1 hy2 rfl (by decide) u6 m (aO bC ps) rfl (bJ HI.out.own ((Ju _ _).alloc (qL) _)) _ _ 1 _ (bC (gA,dm)) rfl ⟨rfl,fun _=>⟨_,rfl,Km _,ao _ _ _⟩⟩ (cG _) (by unfold maxLen;omega) (by omega) (nK hlo _) ?_);intro v7 w3 hown hgr hat;have HN:=qD ((HI.out.step ((Ju _ _).alloc (qL) _)).add (qs:=[(gA,dm)]) (fun q hq=>by rw[Kf.1 hq];exact ku) rfl (by simpa[aO] using hown) hgr)
    have HFF:Hid ((ps++[(gA,dm)]).map Prod.snd=((ys.map Prod.snd).take (i+1)).flatMap dy):=by
     rw[Hid,HTF.out,<-HFL.out,HY0.out,Ke];rfl
    clear hown hgr hat e0 e1 e2 e3 e4;go_wp2_with fail;go_roundw
    ·exact⟨i+1,m+1,ps++[(gA,dm)],by omega,by go_num,HN.out,HFF.out⟩
    ·simp[intOf];omega
   have h0b:(p.1.k==0)=false:=by simpa using h0
   have HK0:Hid (p.2.k≠0):=qD (by rw[<-HPR.out.open.k];exact h0);clear h0;by_cases h6:p.1.k=6/\0<p.1.ln
   ·have h6b:(p.1.k==6)=true:=by simpa using h6.1
    have h6n:(0:Int)<(p.1.ln:Int):=by omega
    have HY6:Hid (p.2.k=6):=by unfold Hid;rw[<-HPR.out.open.k];exact h6.1
    obtain⟨qs,hqs,hsl⟩:=RV.sl HPR.out;have HQS:=qD hqs;have HQV:=qD hsl.rv;have HQL:=qD hsl.sr.ln
    have HY:Hid (dy p.2=p.2.l):=by
     unfold Hid dy;rw[KU HK0.out,Kb ⟨HY6.out,by rw[<-hqs,KX,<-hsl.sr.ln];exact h6.2⟩]
    have hml:m+p.1.ln<=68719476736:=by
     have h1:=HSL.out;rw[HY.out,<-hqs,KX,<-hsl.sr.ln] at h1;omega
    have HRD:=qD ((hsl.sr.step (HB.out.Ih HI.out.bel)).reads bQ (by decide));clear h6 hqs hsl;go_wp2_with (at_builtin;refine aJ _ rfl _ _ 26 rfl w1.heap.size 29 j0 VC.zero.val 5 80 Kv hj0 hy0 hy1 hy2 rfl (by decide) u6 m (aO bC ps) rfl HI.out.own _ _ p.1.ln _ (aO bC qs) rfl HRD.out (fy cG qs) (by unfold maxLen;omega) (by omega) hlo ?_);intro v8 w4 hown hgr hat;have HN2:=qD (HI.out.add (qs:=qs) HQV.out HQL.out.symm hown hgr)
    have HFF:Hid ((ps++qs).map Prod.snd=((ys.map Prod.snd).take (i+1)).flatMap dy):=by
     rw[Hid,HTF.out,<-HFL.out,Ke,HQS.out,HY.out]
    clear hown hgr hat e0 e1 e2 e3 e4;go_wp2_with fail;go_roundw
    ·exact⟨i+1,m+p.1.ln,ps++qs,by omega,by go_num,HN2.out,HFF.out⟩
    ·simp[intOf];omega
   have HY:Hid (dy p.2=[p.2]):=by
    unfold Hid dy;rw[KU HK0.out,KU];rintro⟨k1,k2⟩;obtain⟨qs,hqs,hsl⟩:=RV.sl HPR.out;exact h6 ⟨by rw[HPR.out.open.k];exact k1,by rw[hsl.sr.ln,<-KX (f:=Prod.snd),hqs];exact k2⟩
   have hcl:(p.1.k==6)=false\/((p.1.k==6)=true/\¬(0:Int)<(p.1.ln:Int)):=by
    by_cases h:p.1.k=6
    ·right;exact⟨by simpa using h,fun k=>h6 ⟨h,by omega⟩⟩
    ·left;simpa using h
   clear h6;rcases hcl with c1|⟨c1,c2⟩
   all_goals
    go_wp2_with (at_builtin;refine aJ _ rfl _ _ 26 rfl w1.heap.size 29 j0 VC.zero.val 5 80 Kv hj0 hy0 hy1 hy2 rfl (by decide) u6 m (aO bC ps) rfl (bJ HI.out.own ((Ju _ _).alloc (qL) _)) _ _ 1 _ (bC p) rfl ⟨rfl,fun _=>⟨_,rfl,Km _,ao _ _ _⟩⟩ (cG _) (by unfold maxLen;omega) (by omega) (nK hlo _) ?_);intro v7 w3 hown hgr hat;have HN:=qD ((HI.out.step ((Ju _ _).alloc (qL) _)).add (qs:=[p]) (fun q hq=>by rw[Kf.1 hq];exact HPR.out) rfl (by simpa[aO] using hown) hgr)
    have HFF:Hid ((ps++[p]).map Prod.snd=((ys.map Prod.snd).take (i+1)).flatMap dy):=by
     rw[Hid,HTF.out,<-HFL.out,HY.out,Ke];rfl
    clear hown hgr hat e0 e1 e2 e3 e4;go_wp2_with fail;go_roundw
    ·exact⟨i+1,m+1,ps++[p],by omega,by go_num,HN.out,HFF.out⟩
    ·simp[intOf];omega
  ·obtain rfl:i=M:=by omega
   obtain⟨A6,c6,rfl,hsr⟩:=SR.Ik bQ HI.out.own HI.out.ln;have HSR6:=qD hsr
   have hmz:m<=68719476736:=by
    have h3:i*x.size<=67108864*1024:=Li hM HXZ.out;omega
   have HLF:Hid (ps.map Prod.snd=fQ x l):=qD (by
    rw[HFL.out,KL (by rw[KX,HSR.out.ln];exact qL),HPS.out.fn]
    rfl)
   clear hsr hlt hmi;go_wp2_with fail;go_ret;exact⟨A6,m,c6,ps,rfl,HSR6.out,HI.out.rv,HLF.out,hmz,HB.out.Ih HI.out.bel⟩
theorem vL{x y:aC}(hy:cN y x)(h:cO x):cO y:=by
 induction hy with
 | refl=>exact h
 | part hz _ ih=>
  refine ih ?_;have hh:=(im _).1 h;unfold aC.parts at hz;split at hz
  ·exact hh.2.1 _ hz
  ·split at hz
   ·obtain⟨f,hf,rfl⟩:=LL.1 hz;exact hh.2.2 f hf
   ·cases hz
def Fx(x:aC)(l:List ByteArray):Prop:=∀y∈gN x l,cN y x\/y=aC.zero
theorem Cv(x:aC)(l:List ByteArray):gN x l≠[]:=by
 unfold gN;split
 ·simp
 ·assumption
theorem Cw:∀(l:List ByteArray) (x:aC),∀y∈fT x l,cN y x:=by
 intro l
 induction l with
 | nil=>
  intro x y hy;rw[rL] at hy;rw[Kf.1 hy];exact .refl x
 | cons s r ihl=>
  intro x
  induction x using aC.ind with
  | h k n t l d ihx ihd=>
   intro y hy;by_cases h6:(aC.mk k n t l d).k=6
   ·rw[lZ h6] at hy;rcases KI.1 hy with hy|hy
    ·obtain⟨z,hz,hyz⟩:=Lj.1 hy;unfold nt at hyz;split at hyz
     ·exact .part (io h6 hz) (ihx z hz y hyz)
     ·cases hyz
    ·cases hs:ik s with
     | none=>rw[hs] at hy;cases hy
     | some n=>
      rw[hs] at hy;split at hy
      ·cases hy
      ·split at hy
       ·cases hy
       ·rename_i z hz
        exact .part (io h6 (Jx hz)) (ihl z y hy)
   ·cases hg:eY (aC.mk k n t l d) s with
    | none=>rw[pJ h6 hg] at hy;cases hy
    | some z=>
     have h5:=(pH hg).1;rw[pK h5 hg] at hy;exact .part (pI hg) (ihl z y hy)
theorem Cx(x:aC)(l:List ByteArray):Fx x l:=by
 intro y hy;unfold gN at hy;split at hy
 ·exact .inr (Kf.1 hy)
 ·exact .inl (Cw l x y hy)
theorem tH{x:aC}{l:List ByteArray}(hs:Fx x l)(hx:aL x=true)(nx:cO x):IM x l (fQ x l):=by
 have hv:∀y∈gN x l,y=aC.zero\/(aL y=true/\cO y/\1<=y.k):=by
  intro y hy;rcases hs y hy with h|h
  ·rcases jR h (.inr hx) with k|k
   ·exact .inl k
   ·exact .inr ⟨k,vL h nx,(dV k).1⟩
  ·exact .inl h
 have hin:∀v∈fQ x l,aL v=true/\cO v:=by
  intro v hm;obtain⟨y,hy,hvy⟩:=Lj.1 hm;unfold dy at hvy;split at hvy
  ·rw[Kf.1 hvy];exact⟨Gb,Gc⟩
  ·rename_i h0
   obtain⟨k1,k2,_⟩:=(hv y hy).resolve_left (fun e=>h0 (by rw[e];rfl));split at hvy
   ·rename_i h6
    exact⟨pe k1 (io h6.1 hvy),((im _).1 k2).2.1 v hvy⟩
   ·rw[Kf.1 hvy];exact⟨k1,k2⟩
 refine⟨?_,fun v hm=>(hin v hm).1,fun v hm=>((im _).1 (hin v hm).2).1,fun f hf ha=>?_⟩
 ·obtain⟨y,r,e⟩:=OJ (Cv x l);unfold fQ;rw[e,OO];intro h;have:=(List.append_eq_nil_iff.1 h).1;unfold dy at this;split at this
  ·cases this
  ·split at this
   ·rename_i h6;rw[this] at h6;simp at h6
   ·cases this
 ·obtain⟨z,hz,hfz⟩:=LW.1 ha;obtain⟨y,hy,hzy⟩:=Lj.1 hz;have hz6:z.k≠6:=fun h=>by rw[hf z h] at hfz;cases hfz
  unfold fB at hzy;rcases LG.1 hzy with e|hzl
  ·subst e;by_cases h0:z.k=0
   ·refine⟨dm,Lj.2 ⟨z,hy,by unfold dy;rw[Kb h0];simp⟩,by decide,.inr ⟨?_,rfl⟩⟩
    have e0:z=aC.zero:=by
     rcases hv z hy with k|⟨_,_,k⟩
     ·exact k
     ·omega
    rw[<-e0];exact hfz
   ·exact⟨z,Lj.2 ⟨z,hy,by unfold dy;rw[KU h0,KU fun k=>hz6 k.1];simp⟩,hz6,.inl hfz⟩
  ·split at hzl
   ·rename_i h6
    refine⟨z,Lj.2 ⟨y,hy,?_⟩,hz6,.inl hfz⟩;unfold dy;rw[KU (by omega),Kb ⟨h6,List.length_pos_of_mem hzl⟩];exact hzl
   ·cases hzl
theorem ix{x v:aC}{l:List ByteArray}(h:v∈fQ x l):v∈cj x l\/v=dm:=by
 obtain⟨y,hy,hvy⟩:=Lj.1 h;unfold dy at hvy;split at hvy
 ·exact .inr (Kf.1 hvy)
 ·left;refine Lj.2 ⟨y,hy,?_⟩;unfold fB;split at hvy
  ·rename_i h6
   rw[Kb h6.1];exact List.mem_cons_of_mem _ hvy
  ·rw[Kf.1 hvy];exact List.mem_cons_self
theorem AS{y:aC}(hy:aL y=true)(hn:il y.n):aY (bS y.k) y<=0:=by
 by_cases h6:y.k=6
 ·rw[h6,nF (by rw[h6];rfl) rfl];show cx [] y.l<=0;rw[cx];split<;>omega
 ·exact vH hy hn h6
theorem tI(k:Int):(bS k).k=k:=by
 obtain⟨n,t,h,_⟩:=lT k;rw[h];rfl
theorem fR{x y:aC}(h:aY x y<=0):x.k<=y.k:=by
 by_cases hk:x.k=y.k
 ·omega
 ·rw[au hk] at h;have:=cd x.k y.k;omega
theorem kZ{x y:aC}{b c:Bool}(h:aZ (x,b) (y,c)<=0):aY x y<=0:=by
 by_cases h0:aY x y=0
 ·omega
 ·rw[gO (a:=(x,b)) (b:=(y,c)) h0] at h;exact h
theorem jT{x y:aC}{b c:Bool}(h:aZ (x,b) (y,c)<0):aY x y<=0:=kZ (b:=b) (c:=c) (by omega)
theorem lB{k:Int}{v:aC}(hk:1<=k/\k<=11)(h6:k≠6)(hv:aL v=true)(hn:il v.n)(h:aZ (v,false) ((bB k).hi,(bB k).hin)<0):v.k<=k:=by
 have h1:=fR (jT h);have:(k=3\/k=10)\/k=9\/(k=4\/k=5\/k=7\/k=8)\/(k=1\/k=2\/k=11):=by omega
 rcases this with e|e|e|e
 ·rw[oh e] at h1;exact h1
 ·subst e;exact h1
 ·rw[jw (by omega)] at h h1;have h2:v.k<=k+1:=by rw[<-tI (k+1)];exact h1
  by_cases h3:v.k=k+1
  ·exfalso;have h4:=AS hv hn;rw[h3] at h4;replace h:aZ (v,false) (bS (k+1),false)<0:=h;by_cases h0:aY v (bS (k+1))=0
   ·rw[dg (a:=(v,false)) (b:=(bS (k+1),false)) h0] at h;exact absurd h (show ¬qF false false<0 by decide)
   ·have:=jT h;have:=eS v (bS (k+1));omega
  ·omega
 ·rw[ol (by omega)] at h1;rw[<-tI k];exact h1
theorem pk{k:Int}{v:aC}(h:aZ ((bB k).lo,!(bB k).li) (v,false)<=0):k<=v.k:=by
 have h1:=fR (kZ h);have e:(bB k).lo=bS k:=by unfold bB;split;rfl;split;rfl;split<;>rfl
 rw[e,tI] at h1;exact h1
theorem lC{x:Iv}{a:cy}(h:ch aZ a (aU [x])):aZ x.sp.1 a<=0/\aZ a x.sp.2<0:=by
 obtain⟨s,hs,h1,h2⟩:=h;obtain⟨z,hz,rfl⟩:=LL.1 hs;rw[Kf.1 (MV.1 hz).1] at h1 h2;exact⟨h1,h2⟩
theorem Cy{l:List Iv}{a:cy}(h:ch aZ a (aU l)):∃x∈l,aZ x.sp.1 a<=0/\aZ a x.sp.2<0:=by
 obtain⟨s,hs,h1,h2⟩:=h;obtain⟨z,hz,rfl⟩:=LL.1 hs;exact⟨z,(MV.1 hz).1,h1,h2⟩
theorem Et{v y:aC}(hv:aL v=true)(hy:aL y=true)(h1:aZ (ei v).sp.1 (y,false)<=0)(h2:aZ (y,false) (ei v).sp.2<0):y=v:=by
 have a1:aY v y<=0:=kZ (b:=!true) h1;have a2:aY y v<=0:=jT (c:=true) h2;have:=eS v y;exact qx (nm:=aV) y v (bh hy).2.2 (bh hv).2.2 (by omega)
theorem Fy{op:Int}{x y:aC}(ho:op=4\/op=5\/op=6\/op=7)(hy:aL y=true)(hx:aL x=true)(hn:il y.n)(h6:x.k≠6)(h:ch aZ (y,false) (aU [mZ op x])):y.k=x.k/\fS op (aY y x)=true:=by
 have hkx:=dV hx;obtain⟨h1,h2⟩:=lC h;have an:=eS y x;rcases ho with rfl|rfl|rfl|rfl
 ·have a1:aZ (x,true) (y,false)<=0:=h1;have a2:aZ (y,false) ((bB x.k).hi,(bB x.k).hin)<0:=h2;have a3:=lB hkx h6 hy hn a2;have a4:=fR (kZ a1);refine⟨by omega,?_⟩;by_cases h0:aY x y=0
  ·rw[dg (a:=(x,true)) (b:=(y,false)) h0] at a1;exact absurd a1 (show ¬qF true false<=0 by decide)
  ·have:=kZ a1;simp[fS];omega
 ·have a1:aZ (x,false) (y,false)<=0:=h1;have a2:aZ (y,false) ((bB x.k).hi,(bB x.k).hin)<0:=h2;have a3:=lB hkx h6 hy hn a2;have a4:=fR (kZ a1);have:=kZ a1;exact⟨by omega,by simp[fS];omega⟩
 ·have a1:=pk (v:=y) h1;have a2:aZ (y,false) (x,false)<0:=h2;have a4:=fR (jT a2);refine⟨by omega,?_⟩;by_cases h0:aY y x=0
  ·rw[dg (a:=(y,false)) (b:=(x,false)) h0] at a2;exact absurd a2 (show ¬qF false false<0 by decide)
  ·have:=jT a2;simp[fS];omega
 ·have a1:=pk (v:=y) h1;have a2:aZ (y,false) (x,true)<0:=h2;have a4:=fR (jT a2);have:=jT a2;exact⟨by omega,by simp[fS];omega⟩
theorem rp:∀{a t:List Int} {b:List Int},ua b->cE a=some t->gM a b<=0->gM b t<0->∃r,b=a++r
 | [],t,b,_,h,_,_=>by simp[cE] at h
 | x::a,t,[],_,_,h1,_=>by simp[gM] at h1
 | x::a,t,y::b,hr,h,h1,h2=>by
  have hr0:=hr y (by simp);have hrb:ua b:=fun z hz=>hr z (by simp[hz]);unfold cE at h;simp only[gM] at h1;cases ha:cE a with
  | some u=>
   rw[ha] at h;simp only[LS] at h;subst h;simp only[gM] at h2
   have hxy:x=y:=by
    by_cases e1:x<y
    ·rw[KU (by omega),Kb (by omega)] at h2;omega
    ·by_cases e2:y<x
     ·rw[KU e1,Kb e2] at h1;omega
     ·omega
   subst hxy;rw[KU (by omega),KU (by omega)] at h1 h2;obtain⟨r,rfl⟩:=rp hrb ha h1 h2;exact⟨r,rfl⟩
  | none=>
   rw[ha] at h;simp only at h;by_cases h255:x=255
   ·rw[Kb h255] at h;simp at h
   ·rw[KU h255] at h;simp only[LS] at h;subst h;simp only[gM] at h2
    have hxy:x=y:=by
     by_cases e1:x<y
     ·by_cases e3:y<x+1
      ·omega
      ·rw[KU e3] at h2;by_cases e4:x+1<y
       ·rw[Kb e4] at h2;omega
       ·rw[KU e4] at h2;cases b<;>simp[gM] at h2
     ·by_cases e2:y<x
      ·rw[KU e1,Kb e2] at h1;omega
      ·omega
    subst hxy;rw[KU (by omega),KU (by omega)] at h1;have hall:=nv ha;exact pre_255 hall hrb h1
where pre_255 {x:Int}:∀{a b:List Int},(∀z∈a,z=255)->ua b->gM a b<=0->∃r,x::b=x::a++r
 | [],b,_,_,_=>⟨b,rfl⟩
 | z::a,[],_,_,h=>by simp[gM] at h
 | z::a,y::b,hz,hr,h=>by
  have h1:=hz z (by simp);have h2:=hr y (by simp);simp only[gM] at h
  have e:z=y:=by
   by_cases e1:z<y
   ·omega
   ·by_cases e2:y<z
    ·rw[KU e1,Kb e2] at h;omega
    ·omega
  subst e;rw[KU (by omega),KU (by omega)] at h;obtain⟨r,hr'⟩:=pre_255 (x:=x) (a:=a) (b:=b) (fun w hw=>hz w (by simp[hw])) (fun w hw=>hr w (by simp[hw])) h;refine⟨r,?_⟩;injection hr' with _ h3
  rw[h3];rfl
theorem Cz{s p:ByteArray}{r:List Int}(h:fI s=fI p++r):iE s p=true:=by
 have hl:p.size<=s.size:=by
  have:=congrArg List.length h;rw[KV,mK,mK] at this;omega
 unfold iE;rw[Jy hl,Mt,MS,jr];have:(fI s).take p.size=fI p:=by rw[h];exact List.take_left' (mK p)
 rw[<-ph,this,cT]
theorem EX{x y:aC}(hx4:x.k=4)(hy:aL y=true)(hn:il y.n)(he:(lG x).2=true)(h:ch aZ (y,false) (aU [(lG x).1])):y.k=4/\iE y.t x.t=true:=by
 obtain⟨h1,h2⟩:=lC h
 have lo:∀{u:Iv},u.lo=x->u.li=true->aZ u.sp.1 (y,false)<=0->aY x y<=0:=by
  intro u e1 e2 k;have k':aZ (u.lo,!u.li) (y,false)<=0:=k;rw[e1,e2] at k';exact kZ k'
 have empty:∀{u:Iv},u.lo=x->u.li=true->u.hi=gK 5->u.hin=false->x.t=empty->aZ u.sp.1 (y,false)<=0->aZ (y,false) u.sp.2<0->y.k=4/\iE y.t x.t=true:=by
  intro u e1 e2 e3 e4 ht k1 k2;have a1:=fR (lo e1 e2 k1);have k2':aZ (y,false) (u.hi,u.hin)<0:=k2;rw[e3,e4] at k2';have a2:=lB (k:=4) (by omega) (by omega) hy hn (by rw[jw (by omega)];exact k2');refine⟨by omega,?_⟩;rw[ht];exact Cz (r:=fI y.t) (by rfl)
 unfold lG at he h1 h2;split at he
 ·rename_i s hs
  rw[hs] at h1 h2;simp only at h1 h2;split at he
  ·rename_i hv
   rw[Kb hv] at h1 h2;have a1:=lo (u:=⟨x,.mk 4 0 s [] [],true,false⟩) rfl rfl h1;have a2:aZ (y,false) (aC.mk 4 0 s [] [],false)<0:=h2;have k1:=fR a1;have k2:y.k<=4:=fR (jT a2);have y4:y.k=4:=by omega
   refine⟨y4,?_⟩;rw[rj] at hs;obtain⟨u,hu,rfl⟩:=LR.1 hs
   have a3:aY y (.mk 4 0 (strOfNums u) [] [])<0:=by
    by_cases h0:aY y (.mk 4 0 (strOfNums u) [] [])=0
    ·rw[dg (a:=(y,false)) (b:=(aC.mk 4 0 (strOfNums u) [] [],false)) h0] at a2;exact absurd a2 (show ¬qF false false<0 by decide)
    ·have:=jT a2;omega
   rw[eQ y4 (.inl y4)] at a3;have a3':dP y.t (strOfNums u)<0:=a3;rw[eQ (by omega) (.inl hx4)] at a1;rw[<-cT y.t,oV (fP _) (nN (fP _) hu)] at a3';rw[<-cT x.t,<-cT y.t,oV (fP _) (fP _)] at a1;obtain⟨r,hr⟩:=rp (fP _) hu a1 a3';exact Cz hr
  ·rename_i hv
   rw[KU hv] at h1 h2;exact empty (u:=⟨x,gK 5,true,false⟩) rfl rfl rfl rfl (Lg he) h1 h2
 ·rename_i hs
  rw[hs] at h1 h2;exact empty (u:=⟨x,gK 5,true,false⟩) rfl rfl rfl rfl (Lg he) h1 h2
theorem pm:∀rs:List iW,(ej rs).2=false
 | []=>rfl
 | r::rs=>by
  unfold ej;split
  ·exact pm rs
  ·rfl
theorem ElRs.at{x:aC}:∀{l:List aX} {bs:List Bool},gR.ElRs l x bs->∀k∈l,∃b∈bs,gR k x b
 | [],_,_,k,hk=>by cases hk
 | a::r,bs,h,k,hk=>by
  simp only[gR.ElRs] at h;obtain⟨b,q,rfl,h1,h2⟩:=h;rcases LG.1 hk with e|hk
  ·exact⟨b,by simp,e▸h1⟩
  ·obtain⟨b',hb',hr⟩:=ElRs.at h2 k hk;exact⟨b',by simp[hb'],hr⟩
theorem EY{l:List ByteArray}{x:aC}(hs:Fx x l)(hx:aL x=true)(nx:cO x):∀{p:aX},kS p->(dW l p).2=true->∀b,gR p x b->(∃v∈fQ x l,(dW l p).1 (v,false))->b=true:=by
 have H:=tH hs hx nx;have hz:aC.zero.k=0:=rfl;have hnk:dm.k=2:=rfl;intro p
 induction p using aX.ind with
 | h p ih=>
  intro hv hex b hel hin;have V:=hv.open;have E:=hel.open;by_cases h20:p.op=20
  ·rw[tA h20] at hex hin;obtain⟨bs,hb,hal⟩:=E.all h20;unfold oO at hex hin;split at hex
   ·rename_i r e
    rw[e] at hin
    obtain⟨k,hk⟩:∃k,p.kids=[k]:=by
     have:=congrArg List.length e;rw[KX] at this;exact MH.1 this
    rw[hk] at e hb;obtain rfl:dW l k=r:=by simpa using e
    simp only[gR.ElRs] at hb;obtain⟨b0,q,rfl,h1,rfl⟩:=hb;have hkm:k∈p.kids:=by rw[hk];simp
    have:=ih k hkm (V.kids (.inl h20) k hkm) hex b0 h1 hin;rw[hal,this];rfl
   ·rw[pm] at hex;cases hex
  ·by_cases h21:p.op=21
   ·rw[xQ h21] at hex hin;obtain⟨bs,hb,hal⟩:=E.one h21;unfold yp at hex hin;split at hex
    ·cases hex
    ·rename_i hn
     rw[KU hn] at hin;obtain⟨v,hvm,r,hr,hrv⟩:=hin;obtain⟨k,hk,rfl⟩:=LL.1 hr;obtain⟨b0,hb0,h1⟩:=ElRs.at hb k hk;have he:(dW l k).2=true:=Mg.1 hex _ hr;have:=ih k hk (V.kids (.inr h21) k hk) he b0 h1 ⟨v,hvm,hrv⟩;rw[hal];exact LW.2 ⟨b0,hb0,this⟩
   ·by_cases hp:p.path.xs=l
    ·rw[kQ h20 h21 hp] at hex hin;have ho:p.op=2\/(p.op=4\/p.op=5\/p.op=6\/p.op=7)\/p.op=8\/p.op=16\/p.op=11\/(p.op≠2/\p.op≠4/\p.op≠5/\p.op≠6/\p.op≠7/\p.op≠8/\p.op≠16/\p.op≠11):=by omega
     rcases ho with ho|ho|ho|ho|ho|ho
     ·have va:=V.arg (.inl ho);have e:=E.eq ho;rw[hp] at e;rw[ho] at hex hin;by_cases h6:p.arg.2.k=6
      ·rw[bz (my h6)] at hex;cases hex
      ·rw[bU (oe h6)] at hex hin;have h2:p.arg.2.k≠2:=Lg hex;obtain⟨v,hvm,hh⟩:=hin;obtain⟨k1,k2⟩:=lC hh;have hva:=Et va (H.val v hvm) k1 k2;rw[e];refine LW.2 ⟨v,(ix hvm).resolve_right (fun k=>h2 (by rw[<-hva,k];rfl)),?_⟩;rw[hva];simp[iu,nI]
     ·have va:=V.arg (.inr (by omega));have e:=E.ord ho;rw[hp] at e;by_cases h6:p.arg.2.k=6
      ·rw[bz (lR ho h6)] at hex;cases hex
      ·rw[bU (mz ho h6)] at hex hin;have h2:p.arg.2.k≠2:=Lg hex;obtain⟨v,hvm,hh⟩:=hin;obtain⟨k1,k2⟩:=Fy ho (H.val v hvm) va (H.nums v hvm) h6 hh;rw[e];refine LW.2 ⟨v,(ix hvm).resolve_right (fun k=>h2 (by rw[<-k1,k];rfl)),?_⟩;simp only[gD,Kz,MS];exact⟨k1,k2⟩
     ·have vas:=V.args ho;have e:=E.isin ho;rw[hp] at e;rw[ho] at hex hin;by_cases h6:∃z∈p.args.xs.map Prod.snd,z.k=6
      ·rw[bz (nB h6)] at hex;cases hex
      ·rw[bU (og h6)] at hex hin;have h2:¬∃z∈p.args.xs.map Prod.snd,z.k=2:=Lg hex;obtain⟨v,hvm,hh⟩:=hin;obtain⟨u,hu,k1,k2⟩:=Cy hh;obtain⟨z,hzm,rfl⟩:=LL.1 hu;obtain⟨a,ham,rfl⟩:=LL.1 hzm;have hva:=Et (vas a ham) (H.val v hvm) k1 k2;rw[e];refine LW.2 ⟨a,ham,LW.2 ⟨v,(ix hvm).resolve_right (fun k=>h2 ⟨a.2,hzm,by rw[<-hva,k];rfl⟩),?_⟩⟩;rw[hva];simp[iu,nI]
     ·have va:=V.arg (by omega);have v4:=V.text ho;have e:=E.pre ho;rw[hp] at e;rw[ho,bU ie] at hex hin;obtain⟨v,hvm,hh⟩:=hin;obtain⟨k1,k2⟩:=EX v4 (H.val v hvm) (H.nums v hvm) hex hh;rw[e];refine LW.2 ⟨v,(ix hvm).resolve_right (fun k=>by rw[k] at k1;omega),?_⟩;simp only[Kz,MS];exact⟨k1,k2⟩
     ·have vn:=V.kind ho;have e:=E.kind ho;rw[hp] at e;rw[ho] at hex hin;by_cases h6:p.n=6
      ·rw[h6,bz ju] at hex;cases hex
      ·rw[bU (lS h6)] at hex hin;have h2:p.n≠2:=Lg hex;obtain⟨v,hvm,hh⟩:=hin;obtain⟨k1,k2⟩:=lC hh;have a1:=pk (v:=v) k1;have a2:=lB vn h6 (H.val v hvm) (H.nums v hvm) k2;have hvk:v.k=p.n:=by omega
       rw[e];refine LW.2 ⟨v,(ix hvm).resolve_right (fun k=>by rw[k] at hvk;omega),?_⟩;simpa using hvk
     ·rw[bz (jv ho)] at hex;cases hex
    ·rw[ma h20 h21 hp] at hex;cases hex
def Gr(p:aX)(x:aC)(w:World)(e:Ending)(w':World):Prop:=∃b:Bool,e=.returned (.bool b)/\(b=true->(kS p/\p.nodes<=256)/\x.k=5/\aL x=true)/\Below w.heap.size w w'
theorem xq(p:aX)(x:aC)(c:VC)(w:World)(hT:cY w)(hp:WP w p)(hx:RW w c x):
 Calls prog 19 #[aW p,c.val] w (Gr p x w):=by
 have HT:=qD hT;have HP:=qD hp;have HX:=qD hx;have HXK:Hid (c.k=x.k):=qD hx.open.k;have B0:Hid (aG ((w.alloc (.cells (aD p) 38)).alloc (.cells c.arr 29)) w.heap.size 38 (aD p)):=(aG.Ii rfl).alloc _;have B1:Hid (aG ((w.alloc (.cells (aD p) 38)).alloc (.cells c.arr 29)) (w.heap.size+1) 29 c.arr):=aG.Ii (by simp);have BE:Hid (Below w.heap.size w ((w.alloc (.cells (aD p) 38)).alloc (.cells c.arr 29))):=((Ju _ _).alloc (qL) _).alloc (by simp) _;clear hT hp hx;go_enter func19,ntmps19;go_upto_region 1 with fail
 change Code.wp _ _ _ _ ((w.alloc (.cells (aD p) 38)).alloc (.cells c.arr 29));generalize ((w.alloc (.cells (aD p) 38)).alloc (.cells c.arr 29))=wa at*;have RF:=qD (ae B0.out);go_wp2_with ((with_reducible show wpList _ _ _ (⟨_,.load 38 _,_,_,_,_⟩::_) _ _);refine aE rfl 38 _ rfl w.heap.size 0 rfl _ _ RF.out KH rfl (by kernel_rfl) ?_);refine(zk p wa (HP.out.step BE.out) (HT.out.step BE.out)).mono ?_;rintro e w1 ⟨er,rfl,hv,hb⟩;have C1:=qD (B1.out.step hb);have CE:=qD (BE.out.Ih hb);have HV:=qD hv;clear hb hv RF B0 B1 BE;by_cases he:er=0;rotate_left
 ·have heb:(er==0)=false:=by simpa using he
  clear he HV;go_wp2_with fail;go_ret;exact⟨false,rfl,fun h=>Bool.noConfusion h,CE.out⟩
 subst he;have VP:=qD (HV.out rfl);obtain⟨a0,a1,a2,a3,a4⟩:=aS.Ig C1.out;simp only[Jw] at a0 a1 a2 a3 a4;clear HV;cases hk:(c.k==5)
 ·go_wp2_with fail;go_ret;exact⟨false,rfl,fun h=>Bool.noConfusion h,CE.out⟩
 have HK:Hid (x.k=5):=qD (by rw[<-HXK.out];simpa using hk);have HVV:=qD (cL x c w1 (HX.out.step CE.out));obtain⟨vb,hvb⟩:∃b,aL x=b:=⟨_,rfl⟩;rw[hvb] at HVV;have HVB:=qD hvb;clear hvb;go_wp2_with fail;refine HVV.out.mono ?_;rintro e w2 ⟨rfl,hb⟩;have DE:=qD (CE.out.Ih hb);clear hb HVV;go_wp2_with fail;go_ret;exact⟨vb,rfl,fun h=>⟨VP.out,HK.out,by rw[HVB.out];exact h⟩,DE.out⟩
noncomputable def qb(is:List Iv)(vs:List aC):Bool:=vs.any fun v=>qJ is v
theorem DC{is:List Iv}{vs:List aC}{i:Nat}{v:aC}(h:vs[i]?=some v):qb is (vs.take (i+1))=(qb is (vs.take i)||qJ is v):=by
 unfold qb;rw[Le,h,Om];simp
theorem AT(is:List PI)(A:Option Addr)(n cc:Nat)(x:aC)(c:VC)(B:Option Addr)(m d:Nat)(xs:List ByteArray)(w:World)(hi:SI w A n cc is)(hx:RW w c x)(hs:ST w B m d xs)(hv:aL x=true)(hl:xs.length<=16):
 Calls prog 23 #[.slice A n cc,c.val,.slice B m d] w fun e w'=>e=.returned (.bool (qb (is.map cB) (fQ x xs)))/\Below w.heap.size w w':=by
 have HI:=qD hi;have B1:Hid (aG (w.alloc (.cells c.arr 29)) w.heap.size 29 c.arr):=aG.Ii rfl;have BE:Hid (Below w.heap.size w (w.alloc (.cells c.arr 29))):=(Ju _ _).alloc (qL) _;have HXL:Hid (RV (fun b=>b<w.heap.size) w c x):=qD (hx.lt.mono fun b hb=>hb.2);have HSV:=qD (tG x (fun b=>b<w.heap.size) xs c B m d (w.alloc (.cells c.arr 29)) (fun b hb=>Ka hb BE.out.size) (HXL.out.keep fun b hb=>BE.out.block b hb) (hs.step BE.out) (bh hv).1 hl);clear hi hx hs hv hl;go_enter func23,ntmps23;go_upto_region 1 with fail
 change Code.wp _ _ _ _ (w.alloc (.cells c.arr 29));generalize w.alloc (.cells c.arr 29)=wa at*;obtain⟨a0,a1,a2,a3,a4⟩:=aS.Ig B1.out;simp only[Jw] at a0 a1 a2 a3 a4;go_wp2_with fail;refine HSV.out.mono ?_;rintro e w1 ⟨A1,M,c1,ps,rfl,hsr,hrv,hfn,hM,hb⟩;have HSR:=qD hsr;have HRV:=qD hrv;have HFN:=qD hfn;have HM:=qD hM;have CB:=qD hb;clear hsr hrv hfn hM hb;have hM:M<=68719476736:=HM.out;have CE:=qD (BE.out.Ih CB.out);clear a0 a1 a2 a3 a4 HSV B1;go_upto_region 3 with fail
 go_loopw [8,14] (fun _ v wr=>∃i:Nat,i<=M/\v=.int .i64 i/\Below w1.heap.size w1 wr/\qb (is.map cB) ((ps.map Prod.snd).take i)=false) (fun _ v _=>M-(intOf v).toNat)
 ·exact⟨0,KD _,rfl,Ju _ _,rfl⟩
 case round=>
  obtain⟨i,hi,rfl,hbel,hno⟩:=hrel;have HB:=qD hbel;have HNO:=qD hno;clear hbel hno;by_cases hlt:i<M
  ·have hi0:i<ps.length:=by rw[<-HSR.out.ln];exact hlt
   obtain⟨p,hpq⟩:∃p,ps[i]?=some p:=⟨_,Jv hi0⟩;have HPR:Hid (RW wr p.1 p.2):=qD ((((HRV.out p (Jx hpq)).keep fun b hb=>CB.out.block b (Ka hb BE.out.size)).keep fun b hb=>HB.out.block b (Ka hb CE.out.size)).mono fun _ _=>trivial);obtain⟨eb,eo,hA,hlb,hva⟩:=(HSR.out.step HB.out).Iq hpq;have HTK:=qD (DC (is:=is.map cB) (vs:=ps.map Prod.snd) (i:=i) (v:=p.2) (by rw[KP,hpq];rfl));have HMM:=qD (Ko (f:=Prod.snd) (Jx hpq));have HH:=qD (BP is A n cc p.2 p.1 wr (HI.out.step (CE.out.Ih HB.out)) HPR.out);subst hA;have q0:(0:Int)<=(i:Int):=by omega
   have q1:(i:Int)<(M:Int):=by omega
   obtain⟨e0,e1,e2,e3,e4⟩:=hva;obtain⟨z,hz⟩:∃z,qJ (is.map cB) p.2=z:=⟨_,rfl⟩;rw[hz] at HH HTK;have HZ:=qD hz;clear hpq hz;go_wp2_with fail;refine HH.out.mono ?_;rintro e w2 ⟨rfl,hb⟩;have HB2:=qD (HB.out.Ih hb);clear hb HH e0 e1 e2 e3 e4;cases z
   ·go_wp2_with fail;go_roundw
    ·exact⟨i+1,by omega,by go_num,HB2.out,by rw[HTK.out,HNO.out];rfl⟩
    ·simp[intOf];omega
   ·go_wp2_with fail;go_ret
    have hh:qb (is.map cB) (fQ x xs)=true:=by
     rw[<-HFN.out];exact LW.2 ⟨p.2,HMM.out,HZ.out⟩
    exact⟨by rw[hh];rfl,CE.out.Ih HB2.out⟩
  ·obtain rfl:i=M:=by omega
   go_wp2_with fail;go_ret
   have hh:qb (is.map cB) (fQ x xs)=false:=by
    have:=HNO.out;rw[KL (by rw[KX,HSR.out.ln];exact qL),HFN.out] at this;exact this
   exact⟨by rw[hh];rfl,CE.out.Ih HB.out⟩
theorem EZ{is:List Iv}{nf:List (cy×cy)}{S:cy->Prop}{x:aC}{l:List ByteArray}(he:is=nf.map fG)(hn:gd S nf)(hv:∀v∈fQ x l,aL v=true):qb is (fQ x l)=true↔∃v∈fQ x l,S (v,false):=by
 unfold qb;rw[LW];constructor
 ·rintro⟨v,hm,h⟩;have h2:=(Au.1 h).2;rw[he,nP hn.1.ne] at h2;exact⟨v,hm,(hn.2 _).1 h2⟩
 ·rintro⟨v,hm,h⟩;refine⟨v,hm,qi (hv v hm) ?_⟩;rw[he,nP hn.1.ne];exact(hn.2 _).2 h
theorem lu(p:aX)(A:Option Addr)(n k:Nat)(xs:List ByteArray)(x:aC)(c:VC)(w:World)(hT:cY w)(hN:Db w)(hS:dJ w)(hp:WP w p)(hs:ST w A n k xs)(hx:RW w c x)(hnx:cO x):
 Calls prog 5 #[aW p,.slice A n k,c.val] w fun e w'=>e=.returned (.bool true)/\Below w.heap.size w w':=by
 have HT:=qD hT;have HST:=qD hS;have HP:=qD hp;have HX:=qD hx;have NX:=qD hnx;have HS:=qD hs;have HAW:Hid (∀wr,Below w.heap.size w wr->Calls prog 21 #[] wr fun e w'=>e=.returned (.bool true)/\Below wr.heap.size wr w'):=qD fun wr hb=>uT wr (hT.step hb) (hN.step hb);have B0:Hid (aG ((w.alloc (.cells (aD p) 38)).alloc (.cells c.arr 29)) w.heap.size 38 (aD p)):=(aG.Ii rfl).alloc _;have B1:Hid (aG ((w.alloc (.cells (aD p) 38)).alloc (.cells c.arr 29)) (w.heap.size+1) 29 c.arr):=aG.Ii (by simp);have BE:Hid (Below w.heap.size w ((w.alloc (.cells (aD p) 38)).alloc (.cells c.arr 29))):=((Ju _ _).alloc (qL) _).alloc (by simp) _;clear hT hN hS hp hx hnx hs;go_enter func5,ntmps5;go_upto_region 1 with fail
 change Code.wp _ _ _ _ ((w.alloc (.cells (aD p) 38)).alloc (.cells c.arr 29));generalize ((w.alloc (.cells (aD p) 38)).alloc (.cells c.arr 29))=wa at*;have RF:=qD (ae B0.out);obtain⟨a0,a1,a2,a3,a4⟩:=aS.Ig B1.out;simp only[Jw] at a0 a1 a2 a3 a4;have HF:=qD (xq p x c wa (HT.out.step BE.out) (HP.out.step BE.out) (HX.out.step BE.out));go_wp2_with ((with_reducible show wpList _ _ _ (⟨_,.load 38 _,_,_,_,_⟩::_) _ _);refine aE rfl 38 _ rfl w.heap.size 0 rfl _ _ RF.out KH rfl (by kernel_rfl) ?_);refine HF.out.mono ?_;rintro e w1 ⟨fb,rfl,hfb,hb⟩;have C0:=qD (B0.out.step hb);have C1:=qD (B1.out.step hb);have CE:=qD (BE.out.Ih hb);have HFB:=qD hfb;clear hb hfb RF B0 B1 BE HF a0 a1 a2 a3 a4;cases fb
 ·clear HFB;go_wp2_with fail;refine(HAW.out _ CE.out).mono ?_;rintro e w2 ⟨rfl,hb⟩;have DE:=qD (CE.out.Ih hb);clear hb;go_wp2_with fail;go_ret;exact⟨rfl,DE.out⟩
 have VP:=qD (HFB.out rfl).1;have VX:=qD (HFB.out rfl).2.2;have VK:=qD (HFB.out rfl).2.1;have HPA:=qD (kq xs A n k w1 (HS.out.step CE.out));obtain⟨pb,hpb⟩:∃b,b=dk xs:=⟨_,rfl⟩;rw[<-hpb] at HPA;have HPB:=qD hpb;clear HFB hpb;cases pb
 ·go_wp2_with (go_at_call 20;refine HPA.out.mono ?_;rintro e w2 ⟨rfl,rfl⟩);refine(HAW.out _ CE.out).mono ?_;rintro e w2 ⟨rfl,hb⟩;have DE:=qD (CE.out.Ih hb);clear hb;go_wp2_with fail;go_ret;exact⟨rfl,DE.out⟩
 have HL16:Hid (xs.length<=16):=qD (by
  have h:=HPB.out.symm
  unfold dk at h
  simp only[Kz,MD] at h
  exact h.1.2)
 have HZ:Hid (p.sz<=300000000):=qD (KM (Gk HP.out) (by have:=VP.out.2;omega));have RF:=qD (ae C0.out);have HO1:=qD (nJ p A n k xs w1 (HP.out.step CE.out) VP.out.1 (HT.out.step CE.out) (HS.out.step CE.out) HZ.out)
 go_upto_region 4 with(first
  | (go_at_call 20;refine HPA.out.mono ?_;rintro e w2 ⟨rfl,rfl⟩)
  | ((with_reducible show wpList _ _ _ (⟨_,.load 38 _,_,_,_,_⟩::_) _ _);refine aE rfl 38 _ rfl w.heap.size 0 rfl _ _ RF.out KH rfl (by kernel_rfl) ?_)
  | (go_at_call 22;refine HO1.out.mono ?_;rintro e w3 ⟨A3,m3,c3,ys,nf,rfl,hy,hnf,_,hsi,hb3,_⟩))
 have D0:=qD (C0.out.step hb3);have D1:=qD (C1.out.step hb3);have DE:=qD (CE.out.Ih hb3);have SI3:=qD hsi;have HHT:=qD fun(wr:World) (hb:Below w3.heap.size w3 wr)=>AT ys A3 m3 c3 x c A n k xs wr (hsi.step hb) ((HX.out.step DE.out).step hb) ((HS.out.step DE.out).step hb) VX.out HL16.out;have HMT:=qD fun(wr:World) (hb:Below w3.heap.size w3 wr)=>AR p x c wr ((HP.out.step DE.out).step hb) VP.out.1 ((HX.out.step DE.out).step hb) VX.out ((HST.out.step DE.out).step hb) ((HT.out.step DE.out).step hb);have HIF:=qD (EZ (is:=ys.map cB) (x:=x) (l:=xs) hy hnf (fun v hm=>(tH (Cx x xs) VX.out NX.out).val v hm));obtain⟨hb0,hhb⟩:∃b,qb (ys.map cB) (fQ x xs)=b:=⟨_,rfl⟩;rw[hhb] at HHT HIF;obtain⟨z,hzz⟩:∃z,z=(dW xs p).2:=⟨_,rfl⟩;have HZZ:=qD hzz;rw[<-hzz];clear hy hnf hsi hb3 RF HO1 C0 C1 CE HPA hhb hzz
 have KS:Hid (∀w',Below w3.heap.size w3 w'->(fun w'=>(Instr.loadAt 38 (.pointer (some ⟨w.heap.size,0,none⟩))).run prog w'=.ok (aW p) w'/\w'.cell? ⟨w.heap.size+1,0,none⟩=some (.int .i64 c.k)/\w'.cell? ⟨w.heap.size+1,1,none⟩=some (.int .i64 c.n)/\w'.cell? ⟨w.heap.size+1,2,none⟩=some (.string c.t)/\w'.cell? ⟨w.heap.size+1,3,none⟩=some (.slice c.LA c.ln c.lc)/\w'.cell? ⟨w.heap.size+1,4,none⟩=some (.slice c.DA c.dn c.dc)) w'):=qD fun w' hb=>by
  obtain⟨a0,a1,a2,a3,a4⟩:=aS.Ig (D1.out.step hb);simp only[Jw] at a0 a1 a2 a3 a4;exact⟨ff (aD p) rfl _ _ (D0.out.step hb),a0,a1,a2,a3,a4⟩
 have B:=qD ((Ju w3.heap.size w3).drewN 1);clear D0 D1;refine Kn ?_;refine Kg (S:=(fun w'=>(Instr.loadAt 38 (.pointer (some ⟨w.heap.size,0,none⟩))).run prog w'=.ok (aW p) w'/\w'.cell? ⟨w.heap.size+1,0,none⟩=some (.int .i64 c.k)/\w'.cell? ⟨w.heap.size+1,1,none⟩=some (.int .i64 c.n)/\w'.cell? ⟨w.heap.size+1,2,none⟩=some (.string c.t)/\w'.cell? ⟨w.heap.size+1,3,none⟩=some (.slice c.LA c.ln c.lc)/\w'.cell? ⟨w.heap.size+1,4,none⟩=some (.slice c.DA c.dn c.dc))) (by kernel_rfl) ?_ (fun hHeld=>?_)
 ·(try dsimp only);exact KS.out _ B.out
 refine rV 0 rfl ?_
 try go_frame
 refine rV 1 rfl ?_
 try go_frame
 refine rV 2 rfl ?_
 try go_frame
 refine rT (v:=aW p) 4 rfl (fun w' hSw=>bL (p:=.pointer (some ⟨w.heap.size,0,none⟩)) rfl rfl hSw.1) ?_
 try go_frame
 refine rV 5 rfl ?_
 try go_frame
 refine rY 3 rfl fun K hK=>?_;go_simp;refine(HHT.out _ B.out).mono ?_;rintro e4 w4 ⟨rfl,hb4⟩;replace B:=qD (B.out.Ih hb4);clear hb4
 (try go_wp2_with fail)
 clear hHeld;refine hK.out _ _ (KS.out _ B.out) fun hHeld=>?_;clear hK K
 try go_frame
 refine rY 6 rfl fun K hK=>?_;go_simp;refine(HMT.out _ B.out).mono ?_;rintro e5 w5 ⟨mb,rfl,hmb,hb5⟩;replace B:=qD (B.out.Ih hb5);have HMB:=qD hmb;clear hmb hb5
 (try go_wp2_with fail)
 clear hHeld;refine hK.out _ _ (KS.out _ B.out) fun hHeld=>?_;clear hK K
 try go_frame
 refine rV 7 rfl ?_
 try go_frame
 refine rV 8 rfl ?_
 try go_frame
 refine rD ?_ _;refine Kq ?_;clear hHeld;have EE:=qD (DE.out.Ih B.out)
 have H1:Hid (mb=true->hb0=true):=qD fun h=>HIF.out.2 (by
  have hel:=HMB.out.2 VK.out
  rw[h] at hel
  exact Fv (tH (Cx x xs) VX.out NX.out) VP.out.1 hel)
 have H2:Hid (z=true->hb0=true->mb=true):=qD fun hz hh=>EY (Cx x xs) VX.out NX.out VP.out.1 (by rw[<-HZZ.out];exact hz) mb (HMB.out.2 VK.out) (HIF.out.1 hh);clear HIF HMB HZZ KS HHT HMT B;cases mb<;>cases hb0<;>cases z
 all_goals first
  | exact absurd (H1.out rfl) (by decide)
  | exact absurd (H2.out rfl rfl) (by decide)
  | skip
 all_goals
  clear H1 H2;go_wp2_with fail;refine(HAW.out _ EE.out).mono ?_;rintro e w6 ⟨rfl,hb⟩;have FE:=qD (EE.out.Ih hb);clear hb;go_wp2_with fail;go_ret;exact⟨rfl,FE.out⟩
end
open Go
section
variable {l:List ByteArray} {i g n:Nat} {s:ByteArray} {W:World} {e t:TypeId} {P:Program}
theorem tJ{P:Program}{W:World}{name:String}{l:List (DataW Unit)}{g n:Nat}{t e:TypeId}(hg:P.globalNamed name=some g)(hty:(P.globals[g]?).map (·.type)=some t)(ht:P.underlying t=some (.array n e))(he:P.underlying e=some .string)(hce:P.cellsOf e=1)(h:Lib.VarReads P W name (.agg l))(i:Nat)(hi:i<n)(s:List UInt8)(hs:l[i]?=some (.lit (.string s))):W.cell? ⟨g,i,none⟩=some (.string ⟨s.toArray⟩):=by
 obtain⟨g',t',cs,fuel,p,h1,h2,h3,h4⟩:=h;obtain rfl:=MW (hg.symm.trans h1);obtain rfl:=MW (hty.symm.trans h2);obtain⟨xs,m,rfl,hx,hcl,hxl,hf⟩:=DataW.trod_array ht h4
 have hl:l=xs.map (·.1):=by
  have:=congrArg Prod.fst hx;injection this
 have h5:=hf i hi;rw[hce,My] at h5;have hxi : xs[i]? = some (xs[i]'(by omega)) := Jv (by omega);rw[hxi] at h5;obtain⟨s',hc,hx',_⟩:=MU he h5;rw[hl,KP,hxi] at hs;simp only[Ls,LS] at hs;rw[hx'] at hs;simp only[DataW.lit.injEq,Lit.string.injEq] at hs;rw[World.var?_cell hg h3 i]
 have h6:cs.toList[i]?=some (.string s'):=by
  have:=congrArg (·[0]?) hc;simpa[MR,MQ] using this
 rw[Kx] at h6;rw[h6,<-hs]
def xr:DataW Unit->Array Value
 | .agg l=>(l.map fun
  | .lit (.string s)=>Value.string ⟨s.toArray⟩
  | _=>undef).toArray
 | _=>#[]
theorem Fz{W : World}(h : Lib.VarReads Tryz.prog W "docstore/predicate.names" Rows.laid_docstore_predicate_names) : Db W :=
 ⟨tJ (t:=240) (e:=9) (n:=25) (by kernel_rfl) (by kernel_rfl) underlying240 LV (by kernel_rfl) h 2 (by omega) [36,101,113] rfl,
  tJ (t:=240) (e:=9) (n:=25) (by kernel_rfl) (by kernel_rfl) underlying240 LV (by kernel_rfl) h 5 (by omega) [36,103,101] rfl⟩
theorem GA{W : World}(h : Lib.VarReads Tryz.prog W "docstore/docstoreref09.Stops" Rows.laid_docstore_docstoreref09_Stops) : dJ W := by
 intro i hi
 have hs:∃s,[DataW.lit (H:=Unit) (.string [97]),.lit (.string [97,110]),.lit (.string [97,110,100]),.lit (.string [97,114,101]),.lit (.string [97,115]),.lit (.string [97,116]),.lit (.string [98,101]),.lit (.string [98,121]),.lit (.string [102,111,114]),.lit (.string [102,114,111,109]),.lit (.string [105,110]),.lit (.string [105,115]),.lit (.string [105,116]),.lit (.string [111,102]),.lit (.string [111,110]),.lit (.string [111,114]),.lit (.string [116,104,97,116]),.lit (.string [116,104,101]),.lit (.string [116,111]),.lit (.string [119,105,116,104])][i]?=some (.lit (.string s)):=by
  have:i=0\/i=1\/i=2\/i=3\/i=4\/i=5\/i=6\/i=7\/i=8\/i=9\/i=10\/i=11\/i=12\/i=13\/i=14\/i=15\/i=16\/i=17\/i=18\/i=19:=by omega
  rcases this with rfl|rfl|rfl|rfl|rfl|rfl|rfl|rfl|rfl|rfl|rfl|rfl|rfl|rfl|rfl|rfl|rfl|rfl|rfl|rfl<;>exact⟨_,rfl⟩
 obtain⟨s,hs⟩:=hs;exact⟨_,tJ (t:=309) (e:=9) (n:=20) (by kernel_rfl) (by kernel_rfl) underlying309 LV (by kernel_rfl) h i hi s hs⟩
end
open Go.ChangeShapes Go.WideShapes Go.ChangeAt Go.Joins Go.Deep
section
variable {r xs:List ByteArray} {c n b0 base:Nat} {y d:Int} {W:World} {A:Option Addr} {v:Value}
theorem tL:Tryz.prog.bytesOf 9=16:=by kernel_rfl
section
variable {H:Type} {enc:TypeId×Value->H} {W:World} {base:Nat} {spare:Nat->Bool} {held:Bool}
theorem jU(n:Nat){v:Value}{y:DataW H×List MemPlace}(h:DataW.trod enc prog W base spare held n 25 [v]=some y)(hw:ce 25 y.1):
 ∃(A:Option Addr) (n c:Nat) (xs:List ByteArray),v=.slice A n c/\ST W A n c xs:=by
 rcases Ml Kr h with⟨hcs,_⟩|⟨a,len,cap,elems,rest,n',rfl,hcs,rfl,_,hlc,hcm,hel,hat,_,_⟩
 ·simp at hcs;exact⟨none,0,0,[],hcs,⟨SR.nil,by show 0*16<=aH;decide,fun s hs=>by simp at hs⟩⟩
 ·simp at hcs;subst hcs;simp only[ce,DataW.weights,Kr,LG,KI,tL] at hw
  have hsz:len*16<=aH:=by
   have:=hw _ (.inl rfl);simp only[KX,hel] at this;have h2:len*16<=(len+rest.length)*16:=Ki _ (by omega);have:=du;omega
  have wl:=gq (l:=elems.map (·.1)) (fun z hz=>hw z (.inr (.inl hz)));rcases LH len with h0|hp
  ·subst h0;exact⟨some a,0,cap,[],rfl,⟨SR.nil,by show 0*16<=aH;decide,fun s hs=>by simp at hs⟩⟩
  have step:∀i,i<len->∃s:ByteArray,W.cells? base (a.add (i*1)) 1=some [.string s]/\s.size<=aH:=by
   intro i hi;have h1:=hat i hi;rw[cQ,Jv (by omega)] at h1;obtain⟨cs',hcs',ht'⟩:=MC.1 h1;have hwi:=wl _ (Ko (MB (l:=elems) (n:=i) (by omega)));generalize elems[i]=q at*;obtain⟨s,e0,rfl,_⟩:=MU LV ht';subst e0;refine⟨s,hcs',KM (hwi s.size ?_) du⟩;simp[DataW.weights]
  obtain⟨s0,h0,_⟩:=step 0 hp;obtain⟨b,off,ha,_⟩:=dz h0 (by omega);have ha':a=⟨b,off,none⟩:=by simpa[Addr.add] using ha
  subst ha'
  obtain⟨f,hf⟩:=gr (p:=fun i (s:ByteArray)=>W.cell? ⟨b,off+i,none⟩=some (.string s)/\s.size<=aH) empty len (fun i hi=>by
   obtain⟨s,hcs',hs⟩:=step i hi
   rw[dM] at hcs'
   obtain⟨b',off',ha',hc⟩:=dz hcs' (by omega)
   injection ha' with e1 e2
   subst e1 e2
   have:=hc 0 (by omega)
   rw[My] at this
   exact⟨s,this,hs⟩)
  refine⟨_,len,cap,(List.range len).map f,rfl,⟨⟨by simp,hlc,fun _=>⟨b,off,rfl,KY W _ (hf 0 hp).1,fun i x hi j u hj=>?_⟩⟩,hsz,fun s hs=>?_⟩⟩
  ·have hlt:i<len:=by have:=(KF.1 hi).1;simpa using this
   rw[KP,MM hlt] at hi;simp only[Ls,LS] at hi;subst hi;have hj0:j=0:=by have:=(KF.1 hj).1;simpa[bv] using this
   subst hj0;simp[bv] at hj;subst hj;rw[My,MG];exact(hf i hlt).1
  ·obtain⟨i,hi,rfl⟩:=LL.1 hs;exact(hf i (Ni.1 hi)).2
theorem xu{r:Reach}{b0:Nat}{v:Value}{d:DataW H}{p:List MemPlace}(hv:Value.okWide prog W r b0 25 v)(h:DataW.Trod enc prog W base spare held 25 v d p)(hw:ce 25 d):
 ∃(A:Option Addr) (n c:Nat) (xs:List ByteArray),v=.slice A n c/\ST W A n c xs:=by
 obtain⟨a,len,cap,rfl⟩:=okWide_slice Kr hv;obtain⟨fuel,hf⟩:=h;exact jU fuel hf hw
end
theorem bo:Tryz.prog.cellsOf 25=1:=by kernel_rfl
section
variable {H:Type} {enc:TypeId×Value->H} {W:World} {base:Nat} {spare:Nat->Bool} {held:Bool}
end
section
variable {H:Type} {enc:TypeId×Value->H} {W:World} {base:Nat} {spare:Nat->Bool} {held:Bool}
end
section
variable {H:Type} {enc:TypeId×Value->H} {W:World} {base:Nat} {spare:Nat->Bool} {held:Bool}
end
end
end Go.Proofs.YtgfoliedmhgpnaaGreatDoor
