/- A part of the proof. -/
import Derived.Test.YtgfoliedmhgpnaaGreatDoorCn25
set_option maxRecDepth 100000
set_option linter.unusedSimpArgs false
set_option maxHeartbeats 16000000
open Go.Proofs.Tryz
open ByteArray (empty)
namespace Go.Proofs.YtgfoliedmhgpnaaGreatDoor
open Go.RowKit
structure TL(w:World)(A:Option Addr)(n c:Nat)(l:List ByteArray):Prop where
 sr:SR 1 cO w A n c l
 el:∀s∈l,s.size<=1000000
 form:(A=none/\c=0)\/∃b off,A=some ⟨b,off,none⟩
section
variable {n c base size:Nat} {w w':World} {a:Int} {l:List ByteArray} {v:Value} {s:ByteArray} {A:Option Addr}
theorem TL.step(h:TL w A n c l)(hb:Bl w w'):TL w' A n c l:=⟨h.sr.step hb,h.el,h.form⟩
theorem TL.zero:TL w none 0 0 []:=⟨SR.nil,by simp,.inl ⟨rfl,rfl⟩⟩
def GC(A0:Option Addr)(K:Nat)(w:World)(e:Ending)(w':World):Prop:=∃A n c l,e=.returned (.slice A n c)/\TL w' A n c l/\n<=K/\Bl w w'/\(A=A0\/∀a,A=some a->w.heap.size<=a.block/\a.block<w'.heap.size)
theorem TL.Mq(h:w.ownsRow base 9 1 v n (aN cO l))(hl:l.length=n)(he:∀s∈l,s.size<=1000000):∃A c,v=.slice A n c/\TL w A n c l/\∀a,A=some a->base<=a.block/\a.block<w.heap.size:=by
 obtain⟨A,c,e,hs⟩:=SR.Mq jK h hl
 suffices hh:((A=none/\c=0)\/∃b off,A=some ⟨b,off,none⟩)/\∀a,A=some a->base<=a.block/\a.block<w.heap.size from⟨A,c,e,⟨hs,he,hh.1⟩,hh.2⟩
 rcases h.2 with⟨h1,_⟩|⟨g,cap,cur,hv,hge,hh,_⟩
 ·rw[e] at h1;injection h1 with h1 _ h3
  exact⟨.inl ⟨h1,h3⟩,fun a ha=>by rw[h1] at ha;cases ha⟩
 ·rw[e] at hv;injection hv with h1
  exact⟨.inr ⟨g,0,h1⟩,fun a ha=>by rw[h1] at ha;injection ha with ha;subst ha;exact⟨hge,aG.lt (t:=9) (cs:=cur) hh⟩⟩
def dP(w:World):Prop:=∀i:Nat,i<20->∃s,w.cell? ⟨5,i,none⟩=some (.string s)
theorem dP.step(h:dP w)(hb:Bl w w'):dP w':=fun i hi=>by
 obtain⟨s,hs⟩:=h i hi;exact⟨s,(hb.cell (p:=⟨5,i,none⟩) (Oj w _ hs)).trans hs⟩
theorem De(s:ByteArray)(w:World)(h:dP w):Calls prog 319 #[.string s] w (am (fun _=>True) w):=by
 have H:=qD h;clear h;go_enter func319,ntmps319;go_upto_region 2 with fail
 go_loopw [3] (fun v wr=>∃i:Nat,i<=20/\v=.int .i64 i/\Bl w wr) (fun v _=>20-(intOf v).toNat)
 ·exact⟨0,ON _,rfl,OG _ _⟩
 case round=>
  obtain⟨i,hi,rfl,hb⟩:=hrel;have HB:=qD hb;by_cases hlt:i<20
  ·obtain⟨x,hx⟩:=(H.out.step hb) i hlt;have i0:(0:Int)<=(i:Int):=oM
   have i1:(i:Int)<20:=oM
   clear hb;cases hq:(x.toList==s.toList)
   ·go_wp2_with fail;go_roundw
    ·exact⟨i+1,by omega,by go_num,HB.out⟩
    ·exact iO
   ·go_wp2;go_ret;exact am.of trivial HB.out
  ·obtain rfl:i=20:=oM
   go_wp2;go_ret;exact am.of trivial HB.out
theorem lu(l:List ByteArray)(s:ByteArray)(A:Option Addr)(n c:Nat)(w:World)(h:TL w A n c l)(hn:n<=1000000000):Calls prog 255 #[.slice A n c,.string s] w (am (fun _=>True) w):=by
 have H:=qD h;clear h;go_enter func255,ntmps255;go_upto_region 2 with fail
 go_loopw [5] (fun v wr=>∃i:Nat,i<=n/\v=.int .i64 i/\Bl w wr) (fun v _=>n-(intOf v).toNat)
 ·exact⟨0,ON _,rfl,OG _ _⟩
 case round=>
  obtain⟨i,hi,rfl,hb⟩:=hrel;have HB:=qD hb;by_cases hlt:i<n
  ·obtain⟨b,off,x,rfl,hbb,hx,e0⟩:=H.out.sr.NR hlt;have e1:=(hb.cell (p:=⟨b,off+i,none⟩) hbb).trans e0;have i0:(0:Int)<=(i:Int):=oM
   have i1:(i:Int)<(n:Int):=oM
   clear hb e0 hx;cases hq:(x.toList==s.toList)
   ·go_wp2_with fail;go_roundw
    ·exact⟨i+1,by omega,by go_num,HB.out⟩
    ·exact iO
   ·go_wp2;go_ret;exact am.of trivial HB.out
  ·obtain rfl:i=n:=oM
   clear hb;go_wp2;go_ret;exact am.of trivial HB.out
theorem tw(s:ByteArray)(w:World)(hs:s.size<=1000000000):Calls prog 298 #[.string s] w (DY s.size w):=by
 go_enter func298,ntmps298
 go_upto_block 0 with fail
 go_cut [3] (fun v wx=>∃a:Nat,a<=s.size/\v=.int .i64 a/\Bl w wx)
 case first=>
  go_wp2_with fail
  go_loopw [3] (fun v wr=>∃a:Nat,a<=s.size/\v=.int .i64 a/\Bl w wr) (fun v _=>s.size-(intOf v).toNat)
  ·exact⟨0,ON _,rfl,OG _ _⟩
  case round=>
   obtain⟨a,ha,rfl,hb⟩:=hrel;have HB:=qD hb;clear hb;by_cases hlt:a<s.size
   ·have i0:(0:Int)<=(a:Int):=oM
    have i1:(a:Int)<(s.size:Int):=oM
    go_wp2_with fail;refine(re _ _).mono ?_;rintro e w1 ⟨r,rfl,_,hb⟩;replace HB:=qD (HB.out.Ml hb);clear hb;cases r
    ·go_wp2_with fail;go_meet;exact⟨a,ha,rfl,HB.out⟩
    ·go_wp2_with fail;go_roundw
     ·exact⟨a+1,by omega,by go_num,HB.out⟩
     ·exact iO
   ·have i1:¬(a:Int)<(s.size:Int):=oM
    go_wp2_with fail;go_meet;exact⟨a,ha,rfl,HB.out⟩
 case rest=>
  obtain⟨a,ha,rfl,hb⟩:=hcut;have HB:=qD hb;clear hb
  go_upto_block 2 with fail
  go_cut [4] (fun v wx=>∃b:Nat,a<=b/\b<=s.size/\v=.int .i64 b/\Bl w wx)
  case first=>
   go_wp2_with fail
   go_loopw [4] (fun v wr=>∃b:Nat,a<=b/\b<=s.size/\v=.int .i64 b/\Bl w wr) (fun v _=>(intOf v).toNat)
   ·exact⟨s.size,ha,qL,rfl,HB.out⟩
   case round=>
    obtain⟨b,hab,hbs,rfl,hb⟩:=hrel;have HC:=qD hb;clear hb;by_cases hlt:a<b
    ·obtain⟨d,rfl⟩:∃d,b=d+1:=⟨b-1,by omega⟩;have hds:d<s.size:=oM
     have i0:(0:Int)<=(d:Int):=oM
     have i1:(d:Int)<(s.size:Int):=oM
     have i2:(a:Int)<(d:Int)+1:=oM
     go_wp2_with fail;refine(re _ _).mono ?_;rintro e w1 ⟨r,rfl,_,hb⟩;replace HC:=qD (HC.out.Ml hb);clear hb;cases r
     ·go_wp2_with fail;go_meet;exact⟨d+1,hab,hbs,rfl,HC.out⟩
     ·go_wp2_with fail;go_roundw
      ·exact⟨d,by omega,by omega,by go_num,HC.out⟩
      ·simp[intOf]
    ·have i1:¬(a:Int)<(b:Int):=oM
     have i2:¬a<b:=hlt;go_wp2_with fail;go_meet;exact⟨b,hab,hbs,rfl,HC.out⟩
  case rest=>
   obtain⟨b,hab,hbs,rfl,hb⟩:=hcut;have HC:=qD hb;have i0:(a:Int)<=(b:Int):=oM
   have i1:(b:Int)<=(s.size:Int):=oM
   have i2:(0:Int)<=(a:Int):=oM
   clear hb;go_wp2;go_ret;exact⟨_,rfl,dM,HC.out⟩
end
structure ly(wx:World)(v:Value)(n:Nat)(xs:List ByteArray)(wr:World):Prop where
 own:wr.ownsRow wx.heap.size 9 1 v n (aN cO xs)
 bel:Bl wx wr
section
variable {k n o B m c size K:Nat} {w w' wr w3 wx wc:World} {x d:Int} {l ys:List ByteArray} {v v':Value} {s:ByteArray} {A:Option Addr} {xs:List Value}
theorem ly.next{n':Nat}{xs:List ByteArray}{news:List Value}(h:ly wx v n xs wr)(hn:news=aN cO ys)(hn':n'=m)(ho:w'.ownsRow wx.heap.size 9 1 v' m (aN cO xs++news))(hg:wr.grownBy w' v.ownBlock):ly wx v' n' (xs++ys) w':=by
 subst hn hn';exact⟨by rw[dT];exact ho,h.bel.grown hg h.bel.size (ak h.own)⟩
theorem ly.alloc{xs:List ByteArray}(h:ly wx v n xs wr)(o:Obj):ly wx v n xs (wr.alloc o):=⟨h.own.alloc _,h.bel.alloc h.bel.size o⟩
theorem ly.step{xs:List ByteArray}(h:ly wx v n xs wr)(hb:Bl wr w'):ly wx v n xs w':=⟨af h.own hb,h.bel.Ml hb⟩
theorem bn(xs:List ByteArray):∀u∈aN cO xs,u.oneCell'=true:=by
 intro u hu;obtain⟨p,_,h⟩:=SX.1 hu;exact Er p u h
theorem ly.ins{v3:Value}{x:ByteArray}(h:ly wc v3 n ([]++l.take k++[x]++l.drop k) w3)(hn:n=l.length+1)(hel:∀s∈l,s.size<=1000000)(hx:x.size<=1000000)(hK:n<=K)(hbc:Bl w wc)(A0:Option Addr):GC A0 K w (.returned v3) w3:=by
 have hl:([]++l.take k++[x]++l.drop k).length=n:=by
  have:=(xW l x k).length_eq;simp at this ⊢;omega
 obtain⟨A,c,rfl,ht,hfr⟩:=TL.Mq h.own hl (fun s hs=>by
  simp at hs
  rcases hs with hs|rfl|hs
  ·exact hel s (Qh hs)
  ·exact hx
  ·exact hel s (List.mem_of_mem_drop hs))
 exact⟨A,n,c,_,rfl,ht,hK,hbc.Ml h.bel,.inr fun a ha=>⟨OU hbc.size (hfr a ha).1,(hfr a ha).2⟩⟩
theorem GF(l:List ByteArray)(x:ByteArray)(A:Option Addr)(n c:Nat)(w:World)(h:TL w A n c l)(hn:n<=100000000)(hx:x.size<=1000000):Calls prog 320 #[.slice A n c,.string x] w (GC A (n+1) w):=by
 obtain⟨j0,hj0,hy0,hy1,hy2⟩:=Pb jL;have HTL:=qD h;have HLN:=qD h.sr.ln;have HEL:=qD h.el;have HXS:=qD hx;have hnc:n<=c:=h.sr.lc;have HH:=qD (lu l x A n c w h oM);go_enter func320,ntmps320;go_wp2_with fail;refine HH.out.mono ?_;rintro e w1 ⟨r,rfl,_,hb⟩;have HB:=qD hb;replace HTL:=qD (HTL.out.step hb);clear hb h hx HH;cases r;rotate_left
 ·go_wp2;go_ret;exact⟨A,n,c,l,rfl,HTL.out,Sz _,HB.out,.inl rfl⟩
 go_upto_block 0 with fail
 go_cut [5] (fun v wx=>∃k:Nat,k<=n/\v=.int .i64 k/\Bl w1 wx)
 case first=>
  go_wp2_with fail
  go_loopw [5] (fun v wr=>∃k:Nat,k<=n/\v=.int .i64 k/\Bl w1 wr) (fun v _=>(intOf v).toNat)
  ·exact⟨n,qL,rfl,OG _ _⟩
  case round=>
   obtain⟨k,hk,rfl,hb⟩:=hrel;have HC:=qD hb;rcases PZ k with rfl|hk0
   ·clear hb;go_wp2_with fail;go_meet;exact⟨0,ON _,rfl,HC.out⟩
   ·obtain⟨d,rfl⟩:∃d,k=d+1:=⟨k-1,by omega⟩;obtain⟨b,off,y,rfl,hbb,hy,e0⟩:=HTL.out.sr.NR (i:=d) oM;have e1:=(hb.cell (p:=⟨b,off+d,none⟩) hbb).trans e0;have i0:(0:Int)<=(d:Int):=oM
    have i1:(d:Int)<(n:Int):=oM
    have i2:(0:Int)<(d:Int)+1:=oM
    clear hb e0 hy;go_wp2_with fail
    all_goals first
     | (go_meet;exact⟨d+1,hk,rfl,HC.out⟩)
     | (go_roundw
        ·exact⟨d,by omega,by go_num,HC.out⟩
        ·simp[intOf])
 case rest=>
  obtain⟨k,hk,rfl,hb⟩:=hcut;replace HTL:=qD (HTL.out.step hb);replace HB:=qD (HB.out.Ml hb);clear hb;generalize wc=wd at*;have N0:Hid (ly wd (.slice none 0 0) 0 [] wd):=qD ⟨bP _ _ _ _,OG _ _⟩;have HRd:=qD (HTL.out.sr.reads jK dE)
  have R1:Hid (dz wd wd.heap.size 1 A k (aN cO (l.take k))):=by
   have:=HRd.out.take hk;rw[Cf jK] at this;exact this
  have R2:Hid (dz wd wd.heap.size 1 (if c=k then A else A.map (·.add (k*1))) (n-k) (aN cO (l.drop k))):=by
   have:=HRd.out.cut hk hnc;rw[Cg jK] at this;exact this
  have HNL:=qD HTL.out.form;rcases HNL.out with⟨rfl,rfl⟩|⟨gb,go,rfl⟩
  ·obtain rfl:n=0:=oM
   obtain rfl:k=0:=oM
   simp only[Rr] at R2;go_wp2_with (at_builtin;refine aE _ rfl _ _ 25 rfl wd.heap.size 9 j0 (.string empty) 1 16 PW hj0 hy0 hy1 hy2 rfl dE (.slice none 0 0) 0 (aN cO ([])) rfl N0.out.own _ _ 0 _ (aN cO (l.take 0)) rfl R1.out ?c1 (by unfold maxLen;omega) oM (qL) ?_)
   case c1=>exact bn _
   intro v1 w1 ho1 hg1 _;have N1:Hid (ly wd v1 0 ([]++l.take 0) w1):=qD (N0.out.next rfl oM ho1 hg1);clear ho1 hg1;have hw1:=N1.out.bel.size;go_wp2_with (at_builtin;refine aE _ rfl _ _ 25 rfl wd.heap.size 9 j0 (.string empty) 1 16 PW hj0 hy0 hy1 hy2 rfl dE v1 0 (aN cO ([]++l.take 0)) rfl (N1.out.alloc _).own _ _ 1 _ (aN cO [x]) rfl ⟨rfl,fun _=>⟨_,rfl,On _,ag _ _ _⟩⟩ ?c1 (by unfold maxLen;omega) oM (ar hw1 _) ?_)
   case c1=>exact bn _
   intro v2 w2 ho2 hg2 _;have N2:Hid (ly wd v2 (0+1) ([]++l.take 0++[x]) w2):=qD ((N1.out.alloc _).next rfl oM ho2 hg2);clear ho2 hg2;have hw2:=N2.out.bel.size;go_wp2_with (at_builtin;refine aE _ rfl _ _ 25 rfl wd.heap.size 9 j0 (.string empty) 1 16 PW hj0 hy0 hy1 hy2 rfl dE v2 (0+1) (aN cO ([]++l.take 0++[x])) rfl N2.out.own _ _ 0 _ (aN cO (l.drop 0)) rfl (R2.out.below N2.out.bel) ?c1 (by unfold maxLen;omega) oM hw2 ?_)
   case c1=>exact bn _
   intro v3 w3 ho3 hg3 _;have N3:Hid (ly wd v3 (0+1+0) ([]++l.take 0++[x]++l.drop 0) w3):=qD (N2.out.next rfl oM ho3 hg3);clear ho3 hg3;go_wp2;go_ret;exact N3.out.ins (by have:=HLN.out;omega) HEL.out HXS.out oM HB.out _
  ·by_cases hck:c=k
   ·subst hck;simp only[Rr] at R2;rw[show n-c=0 by omega] at R2;go_wp2_with (at_builtin;refine aE _ rfl _ _ 25 rfl wd.heap.size 9 j0 (.string empty) 1 16 PW hj0 hy0 hy1 hy2 rfl dE (.slice none 0 0) 0 (aN cO ([])) rfl N0.out.own _ _ c _ (aN cO (l.take c)) rfl R1.out ?c1 (by unfold maxLen;omega) oM (qL) ?_)
    case c1=>exact bn _
    intro v1 w1 ho1 hg1 _;have N1:Hid (ly wd v1 c ([]++l.take c) w1):=qD (N0.out.next rfl oM ho1 hg1);clear ho1 hg1;have hw1:=N1.out.bel.size;go_wp2_with (at_builtin;refine aE _ rfl _ _ 25 rfl wd.heap.size 9 j0 (.string empty) 1 16 PW hj0 hy0 hy1 hy2 rfl dE v1 c (aN cO ([]++l.take c)) rfl (N1.out.alloc _).own _ _ 1 _ (aN cO [x]) rfl ⟨rfl,fun _=>⟨_,rfl,On _,ag _ _ _⟩⟩ ?c1 (by unfold maxLen;omega) oM (ar hw1 _) ?_)
    case c1=>exact bn _
    intro v2 w2 ho2 hg2 _;have N2:Hid (ly wd v2 (c+1) ([]++l.take c++[x]) w2):=qD ((N1.out.alloc _).next rfl oM ho2 hg2);clear ho2 hg2;have hw2:=N2.out.bel.size;go_wp2_with (at_builtin;refine aE _ rfl _ _ 25 rfl wd.heap.size 9 j0 (.string empty) 1 16 PW hj0 hy0 hy1 hy2 rfl dE v2 (c+1) (aN cO ([]++l.take c++[x])) rfl N2.out.own _ _ 0 _ (aN cO (l.drop c)) rfl (R2.out.below N2.out.bel) ?c1 (by unfold maxLen;omega) oM hw2 ?_)
    case c1=>exact bn _
    intro v3 w3 ho3 hg3 _;have N3:Hid (ly wd v3 (c+1+0) ([]++l.take c++[x]++l.drop c) w3):=qD (N2.out.next rfl oM ho3 hg3);clear ho3 hg3;go_wp2;go_ret;exact N3.out.ins (by have:=HLN.out;omega) HEL.out HXS.out oM HB.out _
   ·rw[OQ hck] at R2;simp only[Ps,cW,RY] at R2;have hck':(c=k)=False:=by simp;omega
    go_wp2_with (at_builtin;refine aE _ rfl _ _ 25 rfl wd.heap.size 9 j0 (.string empty) 1 16 PW hj0 hy0 hy1 hy2 rfl dE (.slice none 0 0) 0 (aN cO ([])) rfl N0.out.own _ _ k _ (aN cO (l.take k)) rfl R1.out ?c1 (by unfold maxLen;omega) oM (qL) ?_)
    case c1=>exact bn _
    intro v1 w1 ho1 hg1 _;have N1:Hid (ly wd v1 k ([]++l.take k) w1):=qD (N0.out.next rfl oM ho1 hg1);clear ho1 hg1;have hw1:=N1.out.bel.size;go_wp2_with (at_builtin;refine aE _ rfl _ _ 25 rfl wd.heap.size 9 j0 (.string empty) 1 16 PW hj0 hy0 hy1 hy2 rfl dE v1 k (aN cO ([]++l.take k)) rfl (N1.out.alloc _).own _ _ 1 _ (aN cO [x]) rfl ⟨rfl,fun _=>⟨_,rfl,On _,ag _ _ _⟩⟩ ?c1 (by unfold maxLen;omega) oM (ar hw1 _) ?_)
    case c1=>exact bn _
    intro v2 w2 ho2 hg2 _;have N2:Hid (ly wd v2 (k+1) ([]++l.take k++[x]) w2):=qD ((N1.out.alloc _).next rfl oM ho2 hg2);clear ho2 hg2;have hw2:=N2.out.bel.size;go_wp2_with (at_builtin;refine aE _ rfl _ _ 25 rfl wd.heap.size 9 j0 (.string empty) 1 16 PW hj0 hy0 hy1 hy2 rfl dE v2 (k+1) (aN cO ([]++l.take k++[x])) rfl N2.out.own _ _ (n-k) _ (aN cO (l.drop k)) rfl (R2.out.below N2.out.bel) ?c1 (by unfold maxLen;omega) oM hw2 ?_)
    case c1=>exact bn _
    intro v3 w3 ho3 hg3 _;have N3:Hid (ly wd v3 (k+1+(n-k)) ([]++l.take k++[x]++l.drop k) w3):=qD (N2.out.next rfl oM ho3 hg3);clear ho3 hg3;go_wp2;go_ret;exact N3.out.ins (by have:=HLN.out;omega) HEL.out HXS.out oM HB.out _
theorem TL.take(h:TL w A n c l)(hk:k<=n):TL w A k c (l.take k):=by
 refine⟨⟨?_,OU hk h.sr.lc,fun h0=>?_⟩,fun s hs=>h.el s (Qh hs),h.form⟩
 ·rw[Ow];have:=h.sr.ln;omega
 ·obtain⟨b,off,e,hb,hc⟩:=h.sr.el oM;refine⟨b,off,e,hb,fun i a hi j v hj=>hc i a ?_ j v hj⟩;rw[QK] at hi;split at hi
  ·exact hi
  ·cases hi
theorem fP(l ws:List ByteArray)(A B:Option Addr)(n c m d:Nat)(w:World)(hS:dP w)(h:TL w A n c l)(h':TL w B m d ws)(hn:n+m<=100000000):Calls prog 296 #[.slice A n c,.slice B m d] w (GC A (n+m) w):=by
 have HS:=qD hS;have H:=qD h;have H':=qD h';clear h h' hS;go_enter func296,ntmps296;go_upto_region 2 with fail
 go_loopw [0,5] (fun v0 v5 wr=>∃(i k:Nat) (A1:Option Addr) (c1:Nat) (l1:List ByteArray),i<=m/\v5=.int .i64 i/\v0=.slice A1 k c1/\k<=n+i/\TL wr A1 k c1 l1/\Bl w wr/\(A1=A\/∀a,A1=some a->w.heap.size<=a.block/\a.block<wr.heap.size)) (fun _ v5 _=>m-(intOf v5).toNat)
 ·exact⟨0,n,A,c,l,ON _,rfl,rfl,qL,H.out,OG _ _,.inl rfl⟩
 case round=>
  obtain⟨i,k,A1,c1,l1,hi,rfl,rfl,hk,htl,hb,hfr⟩:=hrel;have HFR:=qD hfr;clear hfr;have HT:=qD htl;have HB:=qD hb;by_cases hlt:i<m
  ·obtain⟨b,off,y,rfl,hbb,hy,e0⟩:=H'.out.sr.NR hlt;have e1:=(hb.cell (p:=⟨b,off+i,none⟩) hbb).trans e0;have HY:=qD (H'.out.el y (OJ hy));have HBB:=qD hbb;have HE0:=qD e0;have i0:(0:Int)<=(i:Int):=oM
   have i1:(i:Int)<(m:Int):=oM
   clear hb e0 hy htl hbb;go_wp2_with fail;refine(De y wr (HS.out.step HB.out)).mono ?_;rintro e w1 ⟨r,rfl,_,hb⟩;replace HFR:Hid (A1=A\/∀a,A1=some a->w.heap.size<=a.block/\a.block<w1.heap.size):=qD (HFR.out.imp id fun h a ha=>⟨(h a ha).1,Ol (h a ha).2 hb.size⟩);replace HT:=qD (HT.out.step hb);replace HB:=qD (HB.out.Ml hb);clear hb e1;cases r
   ·have e1:=(HB.out.cell (p:=⟨b,off+i,none⟩) HBB.out).trans HE0.out;go_wp2_with fail;refine(Da y w1 (OU HY.out dE)).mono ?_;rintro e w2 ⟨z,rfl,hz,hb⟩;replace HFR:Hid (A1=A\/∀a,A1=some a->w.heap.size<=a.block/\a.block<w2.heap.size):=qD (HFR.out.imp id fun h a ha=>⟨(h a ha).1,Ol (h a ha).2 hb.size⟩);replace HT:=qD (HT.out.step hb);replace HB:=qD (HB.out.Ml hb);have HZ:=qD (OU hz HY.out);clear hb e1 hz;go_wp2_with fail;refine(GF l1 z A1 k c1 w2 HT.out oM HZ.out).mono ?_;rintro e w3 ⟨A2,k2,c2,l2,rfl,ht2,hk2,hb,hf2⟩
    have HF2:Hid (A2=A\/∀a,A2=some a->w.heap.size<=a.block/\a.block<w3.heap.size):=by
     rcases hf2 with rfl|h
     ·exact qD (HFR.out.imp id fun h a ha=>⟨(h a ha).1,Ol (h a ha).2 hb.size⟩)
     ·exact qD (.inr fun a ha=>⟨OU HB.out.size (h a ha).1,(h a ha).2⟩)
    clear hf2;replace HB:=qD (HB.out.Ml hb);have HT2:=qD ht2;clear hb ht2 HT;go_wp2_with fail;go_roundw
    ·exact⟨i+1,k2,A2,c2,l2,by omega,by go_num,rfl,by omega,HT2.out,HB.out,HF2.out⟩
    ·exact iO
   ·go_wp2_with fail;go_roundw
    ·exact⟨i+1,k,A1,c1,l1,by omega,by go_num,rfl,by omega,HT.out,HB.out,HFR.out⟩
    ·exact iO
  ·obtain rfl:i=m:=oM
   clear hb htl;go_wp2;go_ret;exact⟨A1,k,c1,l1,rfl,HT.out,hk,HB.out,HFR.out⟩
theorem mA(s:ByteArray)(w:World)(hs:s.size<=1000000):Calls prog 297 #[.string s] w (GC none (s.size+1) w):=by
 obtain⟨j0,hj0,hy0,hy1,hy2⟩:=Pb jL;go_enter func297,ntmps297;go_upto_region 4 with fail
 go_loopw [3,4,5] (fun v3 v4 v5 wr=>∃(i b k:Nat) (xs:List ByteArray),i<=s.size+1/\v5=.int .i64 i/\v4=.int .i64 b/\b<=i/\ly w v3 k xs wr/\xs.length=k/\k<=i/\∀x∈xs,x.size<=1000000) (fun _ _ v5 _=>s.size+1-(intOf v5).toNat)
 ·exact⟨0,0,0,[],ON _,rfl,rfl,qL,⟨bP _ _ _ _,OG _ _⟩,rfl,qL,by simp⟩
 case round=>
  obtain⟨i,b,k,xs,hi,rfl,rfl,hbi0,hI,hln,hk,hel⟩:=hrel;have HI:=qD hI;have HLN:=qD hln;have HEL:=qD hel;clear hI hln hel;by_cases hle:i<=s.size
  ·have j0':(i:Int)<=(s.size:Int):=oM
   have ji:(0:Int)<=(i:Int):=oM
   by_cases hlt:i<s.size
   ·have jl:(i:Int)<(s.size:Int):=oM
    go_wp2_with fail;refine(pY _ _).mono ?_;rintro e w1 ⟨r,rfl,_,hb⟩;replace HI:=qD (HI.out.step hb);clear hb;cases r
    ·by_cases hbi:b<i
     ·have j1:(b:Int)<(i:Int):=oM
      have j2:(0:Int)<=(b:Int):=oM
      have j3:(i:Int)<=(s.size:Int):=oM
      go_wp2_with fail;refine(dL (s.extract b i) _ (OU dM oM)).mono ?_;rintro e w2 ⟨z,rfl,hz,hb⟩;replace HI:=qD (HI.out.step hb);have HZ:Hid (z.size<=1000000):=qD (OU hz (OU dM oM));have hlo:w.heap.size<=w2.heap.size:=HI.out.bel.size;clear hb hz;go_wp2_with (at_builtin;refine aE _ rfl _ _ 25 rfl w.heap.size 9 j0 (.string empty) 1 16 PW hj0 hy0 hy1 hy2 rfl dE u3 k (aN cO (xs)) rfl (HI.out.alloc _).own _ _ 1 _ (aN cO [z]) rfl ⟨rfl,fun _=>⟨_,rfl,On _,ag _ _ _⟩⟩ ?c1 (by unfold maxLen;omega) oM (ar hlo _) ?_)
      case c1=>exact bn _
      intro v' w3 ho hg _;have HN:Hid (ly w v' (k+1) (xs++[z]) w3):=qD ((HI.out.alloc _).next rfl rfl ho hg);clear ho hg;go_wp2_with fail;go_roundw
      case rel=>exact⟨i+1,i+1,k+1,xs++[z],by omega,by go_num,by go_num,qL,HN.out,by simp;exact HLN.out,by omega,fun x hx=>by
       rcases OP.1 hx with hx|hx
       ·exact HEL.out x hx
       ·obtain rfl:x=z:=by simpa using hx
        exact HZ.out⟩
      case measure=>exact iO
     ·have j1:¬(b:Int)<(i:Int):=oM
      go_wp2_with fail;go_roundw
      ·exact⟨i+1,i+1,k,xs,by omega,by go_num,by go_num,qL,HI.out,HLN.out,by omega,HEL.out⟩
      ·exact iO
    ·go_wp2_with fail;go_roundw
     ·exact⟨i+1,b,k,xs,by omega,by go_num,rfl,by omega,HI.out,HLN.out,by omega,HEL.out⟩
     ·exact iO
   ·have jl:¬(i:Int)<(s.size:Int):=oM
    have jn:¬i<s.size:=hlt;by_cases hbi:b<i
    ·have j1:(b:Int)<(i:Int):=oM
     have j2:(0:Int)<=(b:Int):=oM
     have j3:(i:Int)<=(s.size:Int):=oM
     go_wp2_with fail;refine(dL (s.extract b i) _ (OU dM oM)).mono ?_;rintro e w2 ⟨z,rfl,hz,hb⟩;replace HI:=qD (HI.out.step hb);have HZ:Hid (z.size<=1000000):=qD (OU hz (OU dM oM));have hlo:w.heap.size<=w2.heap.size:=HI.out.bel.size;clear hb hz;go_wp2_with (at_builtin;refine aE _ rfl _ _ 25 rfl w.heap.size 9 j0 (.string empty) 1 16 PW hj0 hy0 hy1 hy2 rfl dE u3 k (aN cO (xs)) rfl (HI.out.alloc _).own _ _ 1 _ (aN cO [z]) rfl ⟨rfl,fun _=>⟨_,rfl,On _,ag _ _ _⟩⟩ ?c1 (by unfold maxLen;omega) oM (ar hlo _) ?_)
     case c1=>exact bn _
     intro v' w3 ho hg _;have HN:Hid (ly w v' (k+1) (xs++[z]) w3):=qD ((HI.out.alloc _).next rfl rfl ho hg);clear ho hg;go_wp2_with fail;go_roundw
     case rel=>exact⟨i+1,i+1,k+1,xs++[z],by omega,by go_num,by go_num,qL,HN.out,by simp;exact HLN.out,by omega,fun x hx=>by
      rcases OP.1 hx with hx|hx
      ·exact HEL.out x hx
      ·obtain rfl:x=z:=by simpa using hx
       exact HZ.out⟩
     case measure=>exact iO
    ·have j1:¬(b:Int)<(i:Int):=oM
     go_wp2_with fail;go_roundw
     ·exact⟨i+1,i+1,k,xs,by omega,by go_num,by go_num,qL,HI.out,HLN.out,by omega,HEL.out⟩
     ·exact iO
  ·have j0':¬(i:Int)<=(s.size:Int):=oM
   have jn:¬i<=s.size:=hle;go_wp2;go_ret;obtain⟨A,c,rfl,ht,hfr⟩:=TL.Mq HI.out.own HLN.out HEL.out;exact⟨A,k,c,xs,rfl,ht,by omega,HI.out.bel,.inr hfr⟩
theorem zw(s:ByteArray)(w:World)(hS:dP w)(hs:s.size<=1000000):Calls prog 254 #[.string s] w (GC none 128 w):=by
 have HS:=qD hS;clear hS;go_enter func254,ntmps254;go_wp2_with fail;refine(mA s w hs).mono ?_;rintro e w1 ⟨A,n,c,l,rfl,ht,hn,hb,_⟩;have HB:=qD hb;have HT:=qD ht;clear hb ht;go_wp2_with fail;refine(fP [] l none A 0 0 n c w1 (HS.out.step HB.out) TL.zero HT.out oM).mono ?_;rintro e w2 ⟨A2,n2,c2,l2,rfl,ht,hn2,hb,hfr⟩;have HFR:Hid (A2=none\/∀a,A2=some a->w.heap.size<=a.block/\a.block<w2.heap.size):=qD (hfr.imp id fun h a ha=>⟨OU HB.out.size (h a ha).1,(h a ha).2⟩);clear hfr;replace HB:=qD (HB.out.Ml hb);have HT2:=qD ht;have hnc:=ht.sr.lc;clear hb ht HT;obtain⟨k,hk⟩:∃k:Nat,k=min n2 128:=⟨_,rfl⟩;have hk1:k<=n2:=oM
 have hk2:k<=128:=oM
 have hk3:min (n2:Int) 128=(k:Int):=oM
 have HK:=qD hk;clear hk;go_wp2;go_ret;exact⟨A2,k,c2,_,rfl,HT2.out.take hk1,hk2,HB.out,HFR.out⟩
def LZ(K:Nat)(w:World)(e:Ending)(w':World):Prop:=∃A n c l B m d k,e=.returned (.tuple #[.slice A n c,.slice B m d])/\TL w' A n c l/\TL w' B m d k/\n<=K/\m<=K/\Bl w w'
end
structure Df(w:World)(i:Nat)(v4 v5:Value)(k m:Nat)(xs ys:List ByteArray)(wr:World):Prop where
 r4:ly w v4 k xs wr
 r5:ly w v5 m ys wr
 ne:v4.ownBlock=none\/v4.ownBlock≠v5.ownBlock
 l4:xs.length=k
 l5:ys.length=m
 k4:k<=i
 k5:m<=i
 e4:∀x∈xs,x.size<=1000000
 e5:∀x∈ys,x.size<=1000000
section
variable {k b n g o m i c base size:Nat} {w w' wr wx:World} {e:TypeId} {a:Int} {l ys:List ByteArray} {v v' v4 v5:Value} {s:ByteArray} {A:Option Addr} {xs:List Value}
theorem Df.step{xs:List ByteArray}(h:Df w i v4 v5 k m xs ys wr)(hb:Bl wr w'):Df w i v4 v5 k m xs ys w':=⟨h.r4.step hb,h.r5.step hb,h.ne,h.l4,h.l5,h.k4,h.k5,h.e4,h.e5⟩
theorem Df.up{xs:List ByteArray}(h:Df w i v4 v5 k m xs ys wr):Df w (i+1) v4 v5 k m xs ys wr:=⟨h.r4,h.r5,h.ne,h.l4,h.l5,Qa h.k4,Qa h.k5,h.e4,h.e5⟩
theorem zx(h:w.ownsRow base e 1 v n xs)(hg:w.grownBy w' v'.ownBlock)(hne:v.ownBlock=none\/v.ownBlock≠v'.ownBlock):w'.ownsRow base e 1 v n xs:=by
 refine⟨h.1,?_⟩;rcases h.2 with h1|⟨g,cap,cur,hv,hge,hh,r2⟩
 ·exact .inl h1
 ·have hl:g<w.heap.size:=aG.lt (t:=e) (cs:=cur) hh;have hb:v.ownBlock=some g:=by rw[hv];rfl
  refine .inr ⟨g,cap,cur,hv,hge,?_,r2⟩
  exact(hg.block g hl (fun e=>by
   rcases hne with h0|h0
   ·rw[hb] at h0;cases h0
   ·exact h0 (by rw[hb,e]))).trans hh
theorem La{o:Option Nat}(hat:v'.ownBlock=v.ownBlock\/v'.ownBlock=some g)(hne:o=none\/v.ownBlock≠o)(hlt:∀b,o=some b->b<g):o=none\/v'.ownBlock≠o:=by
 rcases hne with h|h
 ·exact .inl h
 ·rcases hat with k|k
  ·exact .inr (by rw[k];exact h)
  ·cases o with
   | none=>exact .inl rfl
   | some b=>exact .inr (by rw[k];intro e;injection e with e;have:=hlt b rfl;omega)
theorem ly.other{xs:List ByteArray}(h:ly wx v n xs wr)(h4:ly wx v4 m ys wr)(hg:wr.grownBy w' v4.ownBlock)(hne:v.ownBlock=none\/v.ownBlock≠v4.ownBlock):ly wx v n xs w':=⟨zx h.own hg hne,h4.bel.grown hg h4.bel.size (ak h4.own)⟩
theorem ly.lt{xs:List ByteArray}(h:ly wx v n xs wr):∀b,v.ownBlock=some b->b<wr.heap.size:=by
 intro b hb;rcases h.own.2 with⟨h1,_⟩|⟨g,cap,cur,hv,_,hh,_⟩
 ·rw[h1] at hb;cases hb
 ·rw[hv] at hb;injection hb with hb
  subst hb;exact aG.lt (t:=9) (cs:=cur) hh
theorem Df.NW{xs:List ByteArray}{z:ByteArray}{o:Obj}(h:Df w i v4 v5 k m xs ys wr)(hz:z.size<=1000000)(ho:w'.ownsRow w.heap.size 9 1 v' (k+1) (aN cO xs++aN cO [z]))(hg:(wr.alloc o).grownBy w' v4.ownBlock)(hat':v'.ownBlock=v4.ownBlock\/v'.ownBlock=some (wr.heap.size+1)):Df w (i+1) v' v5 (k+1) m (xs++[z]) ys w':=by
 have h4:=h.r4.alloc o;have h5:=h.r5.alloc o;have hat:v'.ownBlock=v4.ownBlock\/v'.ownBlock=some (wr.alloc o).heap.size:=by simpa using hat'
 have hne:v5.ownBlock=none\/v5.ownBlock≠v4.ownBlock:=by
  rcases h.ne with e|e
  ·rcases hv:v5.ownBlock with _|b
   ·exact .inl rfl
   ·exact .inr (by rw[e];simp)
  ·exact .inr fun k=>e k.symm
 refine⟨h4.next rfl rfl ho hg,h5.other h4 hg hne,?_,by simp[h.l4],h.l5,by have:=h.k4;omega,Qa h.k5,fun x hx=>?_,h.e5⟩
 ·rcases hv:v5.ownBlock with _|b
  ·rcases hv':v'.ownBlock with _|b'
   ·exact .inl rfl
   ·exact .inr sM
  ·rcases La (o:=some b) hat (by
    rcases h.ne with e|e
    ·exact .inr (by rw[e];simp)
    ·exact .inr (by rw[<-hv];exact e)) (fun c hc=>by injection hc with hc;subst hc;exact h5.lt b hv) with e|e
   ·cases e
   ·exact .inr e
 ·rcases OP.1 hx with hx|hx
  ·exact h.e4 x hx
  ·obtain rfl:x=z:=by simpa using hx
   exact hz
theorem Df.swap{xs:List ByteArray}(h:Df w i v4 v5 k m xs ys wr):Df w i v5 v4 m k ys xs wr:=by
 refine⟨h.r5,h.r4,?_,h.l5,h.l4,h.k5,h.k4,h.e5,h.e4⟩;rcases h.ne with e|e
 ·rcases hv:v5.ownBlock with _|b
  ·exact .inl rfl
  ·exact .inr (by rw[e];simp)
 ·exact .inr fun k=>e k.symm
theorem rr(s:ByteArray)(w:World)(hs:s.size<=1000000):Calls prog 299 #[.string s] w (LZ (s.size+1) w):=by
 obtain⟨j0,hj0,hy0,hy1,hy2⟩:=Pb jL;go_enter func299,ntmps299;go_upto_region 4 with fail
 go_loopw [4,5,6,7] (fun v4 v5 v6 v7 wr=>∃(i b k m:Nat) (xs ys:List ByteArray),i<=s.size+1/\v7=.int .i64 i/\v6=.int .i64 b/\b<=i/\Df w i v4 v5 k m xs ys wr) (fun _ _ _ v7 _=>s.size+1-(intOf v7).toNat)
 ·exact⟨0,0,0,0,[],[],ON _,rfl,rfl,qL,⟨bP _ _ _ _,OG _ _⟩,⟨bP _ _ _ _,OG _ _⟩,.inl rfl,rfl,rfl,qL,qL,by simp,by simp⟩
 case round=>
  obtain⟨i,b,k,m,xs,ys,hi,rfl,rfl,hbi0,hI⟩:=hrel;have HI:=qD hI;clear hI;by_cases hle:i<=s.size
  ·have j0':(i:Int)<=(s.size:Int):=oM
   have ji:(0:Int)<=(i:Int):=oM
   by_cases hlt:i<s.size
   ·have jl:(i:Int)<(s.size:Int):=oM
    go_wp2_with fail;refine(pY _ _).mono ?_;rintro e w1 ⟨r,rfl,_,hb⟩;replace HI:=qD (HI.out.step hb);clear hb;cases r
    ·by_cases hbi:b<i
     ·have j1:(b:Int)<(i:Int):=oM
      have j2:(0:Int)<=(b:Int):=oM
      have j3:(i:Int)<=(s.size:Int):=oM
      have hsz2:(s.extract b i).size<=1000000000:=OU dM oM;have HSZ:Hid ((s.extract b i).size<=1000000):=qD (OU dM hs);rcases PZ b with rfl|hb0
      ·go_wp2_with fail;refine(dL (s.extract 0 i) _ hsz2).mono ?_;rintro e w2 ⟨z,rfl,hz,hb⟩;replace HI:=qD (HI.out.step hb);have HZ:Hid (z.size<=1000000):=qD (OU hz HSZ.out);have hlo:w.heap.size<=w2.heap.size:=HI.out.r4.bel.size;have hkz:k<=1000001:=by have h1:=HI.out.k4;have h2:=HI.out.k5;omega
       clear hb hz;go_wp2_with (at_builtin;refine aE _ rfl _ _ 25 rfl w.heap.size 9 j0 (.string empty) 1 16 PW hj0 hy0 hy1 hy2 rfl dE u4 k (aN cO (xs)) rfl (HI.out.r4.alloc _).own _ _ 1 _ (aN cO [z]) rfl ⟨rfl,fun _=>⟨_,rfl,On _,ag _ _ _⟩⟩ ?c1 (by unfold maxLen;omega) oM (ar hlo _) ?_)
       case c1=>exact bn _
       intro v' w3 ho hg hat;have HN:=qD (HI.out.NW HZ.out ho hg hat);clear ho hg hat;go_wp2_with fail;go_roundw
       ·exact⟨i+1,i+1,k+1,m,xs++[z],ys,by omega,by go_num,by go_num,qL,HN.out⟩
       ·exact iO
      ·obtain⟨d,rfl⟩:∃d,b=d+1:=⟨b-1,by omega⟩;have hds:d<s.size:=oM
       have j4:(0:Int)<(d:Int)+1:=oM
       have j6:(d:Int)<(s.size:Int):=oM
       have j7:(0:Int)<=(d:Int):=oM
       obtain⟨y,hy⟩:=fI hds;cases hq:(y==45)
       ·go_wp2_with fail;refine(dL (s.extract (d+1) i) _ hsz2).mono ?_;rintro e w2 ⟨z,rfl,hz,hb⟩;replace HI:=qD (HI.out.step hb);have HZ:Hid (z.size<=1000000):=qD (OU hz HSZ.out);have hlo:w.heap.size<=w2.heap.size:=HI.out.r4.bel.size;have hkz:k<=1000001:=by have h1:=HI.out.k4;have h2:=HI.out.k5;omega
        clear hb hz;go_wp2_with (at_builtin;refine aE _ rfl _ _ 25 rfl w.heap.size 9 j0 (.string empty) 1 16 PW hj0 hy0 hy1 hy2 rfl dE u4 k (aN cO (xs)) rfl (HI.out.r4.alloc _).own _ _ 1 _ (aN cO [z]) rfl ⟨rfl,fun _=>⟨_,rfl,On _,ag _ _ _⟩⟩ ?c1 (by unfold maxLen;omega) oM (ar hlo _) ?_)
        case c1=>exact bn _
        intro v' w3 ho hg hat;have HN:=qD (HI.out.NW HZ.out ho hg hat);clear ho hg hat;go_wp2_with fail;go_roundw
        ·exact⟨i+1,i+1,k+1,m,xs++[z],ys,by omega,by go_num,by go_num,qL,HN.out⟩
        ·exact iO
       ·go_wp2_with fail;refine(dL (s.extract (d+1) i) _ hsz2).mono ?_;rintro e w2 ⟨z,rfl,hz,hb⟩;replace HI:=qD (HI.out.step hb);have HZ:Hid (z.size<=1000000):=qD (OU hz HSZ.out);have hlo:w.heap.size<=w2.heap.size:=HI.out.r4.bel.size;have hkz:m<=1000001:=by have h1:=HI.out.k4;have h2:=HI.out.k5;omega
        clear hb hz;go_wp2_with (at_builtin;refine aE _ rfl _ _ 25 rfl w.heap.size 9 j0 (.string empty) 1 16 PW hj0 hy0 hy1 hy2 rfl dE u5 m (aN cO (ys)) rfl (HI.out.r5.alloc _).own _ _ 1 _ (aN cO [z]) rfl ⟨rfl,fun _=>⟨_,rfl,On _,ag _ _ _⟩⟩ ?c1 (by unfold maxLen;omega) oM (ar hlo _) ?_)
        case c1=>exact bn _
        intro v' w3 ho hg hat;have HN:=qD ((HI.out.swap.NW HZ.out ho hg hat).swap);clear ho hg hat;go_wp2_with fail;go_roundw
        ·exact⟨i+1,i+1,k,m+1,xs,ys++[z],by omega,by go_num,by go_num,qL,HN.out⟩
        ·exact iO
     ·have j1:¬(b:Int)<(i:Int):=oM
      go_wp2_with fail;go_roundw
      ·exact⟨i+1,i+1,k,m,xs,ys,by omega,by go_num,by go_num,qL,HI.out.up⟩
      ·exact iO
    ·go_wp2_with fail;go_roundw
     ·exact⟨i+1,b,k,m,xs,ys,by omega,by go_num,rfl,by omega,HI.out.up⟩
     ·exact iO
   ·have jl:¬(i:Int)<(s.size:Int):=oM
    have jn:¬i<s.size:=hlt;by_cases hbi:b<i
    ·have j1:(b:Int)<(i:Int):=oM
     have j2:(0:Int)<=(b:Int):=oM
     have j3:(i:Int)<=(s.size:Int):=oM
     have hsz2:(s.extract b i).size<=1000000000:=OU dM oM;have HSZ:Hid ((s.extract b i).size<=1000000):=qD (OU dM hs);rcases PZ b with rfl|hb0
     ·go_wp2_with fail;refine(dL (s.extract 0 i) _ hsz2).mono ?_;rintro e w2 ⟨z,rfl,hz,hb⟩;replace HI:=qD (HI.out.step hb);have HZ:Hid (z.size<=1000000):=qD (OU hz HSZ.out);have hlo:w.heap.size<=w2.heap.size:=HI.out.r4.bel.size;have hkz:k<=1000001:=by have h1:=HI.out.k4;have h2:=HI.out.k5;omega
      clear hb hz;go_wp2_with (at_builtin;refine aE _ rfl _ _ 25 rfl w.heap.size 9 j0 (.string empty) 1 16 PW hj0 hy0 hy1 hy2 rfl dE u4 k (aN cO (xs)) rfl (HI.out.r4.alloc _).own _ _ 1 _ (aN cO [z]) rfl ⟨rfl,fun _=>⟨_,rfl,On _,ag _ _ _⟩⟩ ?c1 (by unfold maxLen;omega) oM (ar hlo _) ?_)
      case c1=>exact bn _
      intro v' w3 ho hg hat;have HN:=qD (HI.out.NW HZ.out ho hg hat);clear ho hg hat;go_wp2_with fail;go_roundw
      ·exact⟨i+1,i+1,k+1,m,xs++[z],ys,by omega,by go_num,by go_num,qL,HN.out⟩
      ·exact iO
     ·obtain⟨d,rfl⟩:∃d,b=d+1:=⟨b-1,by omega⟩;have hds:d<s.size:=oM
      have j4:(0:Int)<(d:Int)+1:=oM
      have j6:(d:Int)<(s.size:Int):=oM
      have j7:(0:Int)<=(d:Int):=oM
      obtain⟨y,hy⟩:=fI hds;cases hq:(y==45)
      ·go_wp2_with fail;refine(dL (s.extract (d+1) i) _ hsz2).mono ?_;rintro e w2 ⟨z,rfl,hz,hb⟩;replace HI:=qD (HI.out.step hb);have HZ:Hid (z.size<=1000000):=qD (OU hz HSZ.out);have hlo:w.heap.size<=w2.heap.size:=HI.out.r4.bel.size;have hkz:k<=1000001:=by have h1:=HI.out.k4;have h2:=HI.out.k5;omega
       clear hb hz;go_wp2_with (at_builtin;refine aE _ rfl _ _ 25 rfl w.heap.size 9 j0 (.string empty) 1 16 PW hj0 hy0 hy1 hy2 rfl dE u4 k (aN cO (xs)) rfl (HI.out.r4.alloc _).own _ _ 1 _ (aN cO [z]) rfl ⟨rfl,fun _=>⟨_,rfl,On _,ag _ _ _⟩⟩ ?c1 (by unfold maxLen;omega) oM (ar hlo _) ?_)
       case c1=>exact bn _
       intro v' w3 ho hg hat;have HN:=qD (HI.out.NW HZ.out ho hg hat);clear ho hg hat;go_wp2_with fail;go_roundw
       ·exact⟨i+1,i+1,k+1,m,xs++[z],ys,by omega,by go_num,by go_num,qL,HN.out⟩
       ·exact iO
      ·go_wp2_with fail;refine(dL (s.extract (d+1) i) _ hsz2).mono ?_;rintro e w2 ⟨z,rfl,hz,hb⟩;replace HI:=qD (HI.out.step hb);have HZ:Hid (z.size<=1000000):=qD (OU hz HSZ.out);have hlo:w.heap.size<=w2.heap.size:=HI.out.r4.bel.size;have hkz:m<=1000001:=by have h1:=HI.out.k4;have h2:=HI.out.k5;omega
       clear hb hz;go_wp2_with (at_builtin;refine aE _ rfl _ _ 25 rfl w.heap.size 9 j0 (.string empty) 1 16 PW hj0 hy0 hy1 hy2 rfl dE u5 m (aN cO (ys)) rfl (HI.out.r5.alloc _).own _ _ 1 _ (aN cO [z]) rfl ⟨rfl,fun _=>⟨_,rfl,On _,ag _ _ _⟩⟩ ?c1 (by unfold maxLen;omega) oM (ar hlo _) ?_)
       case c1=>exact bn _
       intro v' w3 ho hg hat;have HN:=qD ((HI.out.swap.NW HZ.out ho hg hat).swap);clear ho hg hat;go_wp2_with fail;go_roundw
       ·exact⟨i+1,i+1,k,m+1,xs,ys++[z],by omega,by go_num,by go_num,qL,HN.out⟩
       ·exact iO
    ·have j1:¬(b:Int)<(i:Int):=oM
     go_wp2_with fail;go_roundw
     ·exact⟨i+1,i+1,k,m,xs,ys,by omega,by go_num,by go_num,qL,HI.out.up⟩
     ·exact iO
  ·have j0':¬(i:Int)<=(s.size:Int):=oM
   have jn:¬i<=s.size:=hle;go_wp2;go_ret2;obtain⟨A,c,rfl,ht,_⟩:=TL.Mq HI.out.r4.own HI.out.l4 HI.out.e4;obtain⟨B,d,rfl,ht',_⟩:=TL.Mq HI.out.r5.own HI.out.l5 HI.out.e5;exact⟨A,k,c,xs,B,m,d,ys,rfl,ht,ht',by have:=HI.out.k4;omega,by have:=HI.out.k5;omega,HI.out.r4.bel⟩
theorem xX(p s:ByteArray)(w:World)(hp:p.size<=1000000000)(hs:s.size<=1000000000):Calls prog 256 #[.string p,.string s] w (am (fun _=>True) w):=by
 go_enter func256,ntmps256;go_upto_region 2 with fail
 go_loopw [5] (fun v wr=>∃i:Nat,i<=s.size+1/\v=.int .i64 i/\Bl w wr) (fun v _=>s.size+1-(intOf v).toNat)
 ·exact⟨0,ON _,rfl,OG _ _⟩
 case round=>
  obtain⟨i,hi,rfl,hb⟩:=hrel;have HB:=qD hb;clear hb;by_cases hle:i+p.size<=s.size
  ·have j0:(i:Int)+(p.size:Int)<=(s.size:Int):=oM
   have j1:(0:Int)<=(i:Int):=oM
   have j2:(i:Int)<=(i:Int)+(p.size:Int):=oM
   go_wp2_with fail
   all_goals first
    | (go_ret;exact am.of trivial HB.out)
    | (go_roundw
       ·exact⟨i+1,by omega,by go_num,HB.out⟩
       ·simp[intOf];omega)
  ·have j0:¬(i:Int)+(p.size:Int)<=(s.size:Int):=oM
   go_wp2;go_ret;exact am.of trivial HB.out
def Lb(K:Nat)(w:World)(e:Ending)(w':World):Prop:=∃A n c l B m d k C o f q,e=.returned (.tuple #[.slice A n c,.slice B m d,.slice C o f])/\TL w' A n c l/\TL w' B m d k/\TL w' C o f q/\n<=K/\m<=K/\o<=K/\Bl w w'
theorem TL.grown{o:Option Nat}(h:TL w A n c l)(hg:w.grownBy w' o)(hne:∀a,A=some a->some a.block≠o):TL w' A n c l:=by
 refine⟨⟨h.sr.ln,h.sr.lc,fun h0=>?_⟩,h.el,h.form⟩;obtain⟨b,off,e,hb,hc⟩:=h.sr.el h0;refine⟨b,off,e,Ol hb hg.size,fun i a hi j v hj=>?_⟩;exact(PE (w:=w) (w':=w') (a:=⟨b,off+i*1+j,none⟩) (hg.block b hb (hne _ e))).trans (hc i a hi j v hj)
end
structure yQ(w0:World)(v6:Value)(A:Option Addr)(n c:Nat)(l:List ByteArray)(K:Nat)(w:World):Prop where
 tl:TL w A n c l
 le:n<=K
 ap:∀a,A=some a->some a.block≠v6.ownBlock
 lt:∀a,A=some a->a.block<w.heap.size
section
variable {n c size K:Nat} {w0 w w':World} {l:List ByteArray} {v6:Value} {A:Option Addr}
theorem yQ.step(h:yQ w0 v6 A n c l K w)(hb:Bl w w'):yQ w0 v6 A n c l K w':=⟨h.tl.step hb,h.le,h.ap,fun a ha=>Ol (h.lt a ha) hb.size⟩
theorem yQ.up{K':Nat}(h:yQ w0 v6 A n c l K w)(hk:K<=K'):yQ w0 v6 A n c l K' w:=⟨h.tl,OU h.le hk,h.ap,h.lt⟩
end
structure zy(w:World)(S i:Nat)(v6:Value)(A:Option Addr)(n c:Nat)(l:List ByteArray)(B:Option Addr)(m d:Nat)(q:List ByteArray)(k:Nat)(xs:List ByteArray)(wr:World):Prop where
 need:yQ w v6 A n c l (i*(S+2)) wr
 no:yQ w v6 B m d q (i*(S+2)) wr
 row:ly w v6 k xs wr
 ln:xs.length=k
 k6:k<=i
 el:∀x∈xs,x.size<=1000000
section
variable {k b n g o B m i c ln q size j K S:Nat} {w0 w w' W wr:World} {e:TypeId} {a x y d:Int} {l r:List ByteArray} {v' v6:Value} {s:ByteArray} {A A':Option Addr} {xs:List Value}
theorem zy.step{B:Option Addr}{d:Nat}{q:List ByteArray}{xs:List ByteArray}(h:zy w S i v6 A n c l B m d q k xs wr)(hb:Bl wr w'):zy w S i v6 A n c l B m d q k xs w':=⟨h.need.step hb,h.no.step hb,h.row.step hb,h.ln,h.k6,h.el⟩
theorem zy.up{B:Option Addr}{d:Nat}{q:List ByteArray}{xs:List ByteArray}(h:zy w S i v6 A n c l B m d q k xs wr):zy w S (i+1) v6 A n c l B m d q k xs wr:=
 ⟨h.need.up (Ot _ (Sz i)),h.no.up (Ot _ (Sz i)),h.row,h.ln,Qa h.k6,h.el⟩
theorem yQ.next{n' c':Nat}{l':List ByteArray}{xs:List ByteArray}(h:yQ w0 v6 A n c l (i*(S+2)) w)(hrow:ly w0 v6 k xs w)(ht:TL w' A' n' c' l')(hn:n'<=n+j)(hj:j<=S+2)(hs:w.heap.size<=w'.heap.size)(hf:A'=A\/∀a,A'=some a->w.heap.size<=a.block/\a.block<w'.heap.size):yQ w0 v6 A' n' c' l' ((i+1)*(S+2)) w':=by
 refine⟨ht,by have:=h.le;rw[QJ,Nat.one_mul];omega,fun a ha=>?_,fun a ha=>?_⟩
 ·rcases hf with rfl|hf
  ·exact h.ap a ha
  ·intro e;have h1:=(hf a ha).1;have h2:=hrow.lt a.block e.symm;omega
 ·rcases hf with rfl|hf
  ·exact Ol (h.lt a ha) hs
  ·exact(hf a ha).2
theorem yQ.grown{o:Obj}(h:yQ w0 v6 A n c l K w)(hg:(w.alloc o).grownBy w' v6.ownBlock)(hat:v'.ownBlock=v6.ownBlock\/v'.ownBlock=some (w.heap.size+1)):yQ w0 v' A n c l K w':=by
 have hb:Bl w (w.alloc o):=(OG _ _).alloc (qL) _;refine⟨(h.tl.step hb).grown hg h.ap,h.le,fun a ha=>?_,fun a ha=>Ol (h.lt a ha) (OU hb.size hg.size)⟩;rcases hat with e|e
 ·rw[e];exact h.ap a ha
 ·rw[e];intro k;injection k with k
  have:=h.lt a ha;omega
theorem zy.grown{B:Option Addr}{d:Nat}{q:List ByteArray}{xs:List ByteArray}{z:ByteArray}{o:Obj}(need:yQ w v6 A n c l ((i+1)*(S+2)) wr)(no:yQ w v6 B m d q ((i+1)*(S+2)) wr)(row:ly w v6 k xs wr)(ln:xs.length=k)(k6:k<=i)(el:∀x∈xs,x.size<=1000000)(hz:z.size<=1000000)(ho:w'.ownsRow w.heap.size 9 1 v' (k+1) (aN cO xs++aN cO [z]))(hg:(wr.alloc o).grownBy w' v6.ownBlock)(hat:v'.ownBlock=v6.ownBlock\/v'.ownBlock=some (wr.heap.size+1)):zy w S (i+1) v' A n c l B m d q (k+1) (xs++[z]) w':=
  ⟨need.grown hg hat,no.grown hg hat,(row.alloc o).next rfl rfl ho hg,by simp[ln],by omega,fun x hx=>by
   rcases OP.1 hx with hx|hx
   ·exact el x hx
   ·obtain rfl:x=z:=by simpa using hx
    exact hz⟩
theorem AA(s:ByteArray)(w:World)(hS:dP w)(hs:s.size<=5000):Calls prog 253 #[.string s] w (Lb 30000000 w):=by
 obtain⟨j0,hj0,hy0,hy1,hy2⟩:=Pb jL;have HS:=qD hS;clear hS;go_enter func253,ntmps253;go_upto_region 5 with fail
 go_loopw [5,6,7,8,9,10,11,12,13,14] (fun v5 v6 v7 v8 v9 v10 _ _ _ _ wr=>∃(i b:Nat) (ins:Bool) (A:Option Addr) (n c:Nat) (l:List ByteArray) (B:Option Addr) (m d:Nat) (q:List ByteArray) (k:Nat) (xs:List ByteArray),i<=s.size+1/\v10=.int .i64 i/\v9=.int .i64 b/\v8=.bool ins/\b<=i/\v5=.slice A n c/\v7=.slice B m d/\zy w s.size i v6 A n c l B m d q k xs wr) (fun _ _ _ _ _ v10 _ _ _ _ _=>s.size+1-(intOf v10).toNat)
 ·exact⟨0,0,false,none,0,0,[],none,0,0,[],0,[],ON _,rfl,rfl,rfl,qL,rfl,rfl,⟨TL.zero,ON _,fun a ha=>(by cases ha),fun a ha=>(by cases ha)⟩,⟨TL.zero,ON _,fun a ha=>(by cases ha),fun a ha=>(by cases ha)⟩,⟨bP _ _ _ _,OG _ _⟩,rfl,qL,by simp⟩
 case round=>
  obtain⟨i,b,ins,A,n,c,l,B,m,d,q,k,xs,hi,rfl,rfl,rfl,hbi0,rfl,rfl,hI⟩:=hrel;have HI:=qD hI;clear hI;by_cases hle:i<=s.size
  ·have j0':(i:Int)<=(s.size:Int):=oM
   have ji:(0:Int)<=(i:Int):=oM
   by_cases hlt:i<s.size
   ·have jl:(i:Int)<(s.size:Int):=oM
    obtain⟨y,hy⟩:=fI hlt;cases hq34:(y==34)
    ·have hq35:(y != 34)=true:=by simpa using hq34
     go_wp2_with fail;go_roundw
     ·exact⟨i+1,b,ins,A,n,c,l,B,m,d,q,k,xs,by omega,by go_num,rfl,rfl,by omega,rfl,rfl,HI.out.up⟩
     ·exact iO
    ·have hq35:(y != 34)=false:=by simpa using hq34
     have hbe:(s.extract b i).size<=s.size:=dM;have HPZ:Hid ((s.extract b i).size<=s.size):=qD hbe;have j2:(0:Int)<=(b:Int):=oM
     have j3:(b:Int)<=(i:Int):=oM
     have HHS:=qD hs;cases ins
     ·go_wp2_with fail;obtain⟨pt,hpt⟩:∃pt,s.extract b i=pt:=⟨_,rfl⟩;rw[hpt] at HPZ ⊢;clear hpt hbe;refine(rr pt _ (OU HPZ.out oM)).mono ?_;rintro e w2 ⟨A2,n2,c2,l2,B2,m2,d2,q2,rfl,ht2,ht3,hn2,hm2,hb⟩;replace HI:=qD (HI.out.step hb);have HT2:=qD ht2;have HT3:=qD ht3;clear hb ht2 ht3;have hna:n<=i*(s.size+2):=HI.out.need.le;have hnb:m<=i*(s.size+2):=HI.out.no.le;have hmul:i*(s.size+2)<=5001*5002:=QL oM oM;have hps:=HPZ.out;go_wp2_with fail;refine(fP l l2 A A2 n c n2 c2 w2 (HS.out.step HI.out.row.bel) HI.out.need.tl HT2.out oM).mono ?_;rintro e w3 ⟨A4,n4,c4,l4,rfl,ht4,hn4,hb,hf4⟩;have HN4:=qD (HI.out.need.next HI.out.row ht4 hn4 (show n2<=s.size+2 by omega) hb.size hf4);replace HI:=qD (HI.out.step hb);replace HT3:=qD (HT3.out.step hb);clear hb ht4 hf4;go_wp2_with fail;refine(fP q q2 B B2 m d m2 d2 w3 (HS.out.step HI.out.row.bel) HI.out.no.tl HT3.out oM).mono ?_;rintro e w4 ⟨A5,n5,c5,l5,rfl,ht5,hn5,hb,hf5⟩;have HN5:=qD (HI.out.no.next HI.out.row ht5 hn5 (show m2<=s.size+2 by omega) hb.size hf5);replace HI:=qD (HI.out.step hb);replace HN4:=qD (HN4.out.step hb);clear hb ht5 hf5;have HX:Hid (zy w s.size (i+1) u6 A4 n4 c4 l4 A5 n5 c5 l5 k xs w4):=qD ⟨HN4.out,HN5.out,HI.out.row,HI.out.ln,Qa HI.out.k6,HI.out.el⟩;go_wp2_with fail;go_roundw
      ·exact⟨i+1,i+1,true,A4,n4,c4,l4,A5,n5,c5,l5,k,xs,by omega,by go_num,by go_num,rfl,qL,rfl,rfl,HX.out⟩
      ·exact iO
     ·go_wp2_with fail;obtain⟨pt,hpt⟩:∃pt,s.extract b i=pt:=⟨_,rfl⟩;rw[hpt] at HPZ ⊢;clear hpt hbe;refine(mA pt _ (OU HPZ.out oM)).mono ?_;rintro e w2 ⟨A2,n2,c2,l2,rfl,ht2,hn2,hb,_⟩;replace HI:=qD (HI.out.step hb);have HT2:=qD ht2;clear hb ht2;have hna:n<=i*(s.size+2):=HI.out.need.le;have hmul:i*(s.size+2)<=5001*5002:=QL oM oM;have hps:=HPZ.out;go_wp2_with fail;refine(fP l l2 A A2 n c n2 c2 w2 (HS.out.step HI.out.row.bel) HI.out.need.tl HT2.out oM).mono ?_;rintro e w3 ⟨A4,n4,c4,l4,rfl,ht4,hn4,hb,hf4⟩;have HN4:=qD (HI.out.need.next HI.out.row ht4 hn4 (show n2<=s.size+2 by omega) hb.size hf4);replace HI:=qD (HI.out.step hb);clear hb ht4 hf4;go_wp2_with fail;refine(tw pt w3 oM).mono ?_;rintro e w4 ⟨z1,rfl,hz1,hb⟩;replace HI:=qD (HI.out.step hb);replace HN4:=qD (HN4.out.step hb);clear hb;go_wp2_with fail;refine(dL z1 w4 oM).mono ?_;rintro e w5 ⟨z,rfl,hz,hb⟩;replace HI:=qD (HI.out.step hb);replace HN4:=qD (HN4.out.step hb);have HZ:Hid (z.size<=1000000):=qD oM;have HX:Hid (zy w s.size (i+1) u6 A4 n4 c4 l4 B m d q k xs w5):=qD ⟨HN4.out,HI.out.no.up (Ot _ (Sz i)),HI.out.row,HI.out.ln,Qa HI.out.k6,HI.out.el⟩;have hki:=HI.out.k6;clear hb hz hz1;obtain⟨A6,c6,rfl,ht6,_⟩:=TL.Mq HI.out.row.own HI.out.ln HI.out.el;have HT6:=qD ht6;clear ht6;cases hz0:z.toList.isEmpty
      ·go_wp2_with fail;refine(lu xs z A6 k c6 w5 HT6.out oM).mono ?_;rintro e w6 ⟨r,rfl,_,hb⟩;replace HI:=qD (HI.out.step hb);replace HX:=qD (HX.out.step hb);clear hb HT6;cases r
       ·have hlo:w.heap.size<=w6.heap.size:=HI.out.row.bel.size;go_wp2_with (at_builtin;refine aE _ rfl _ _ 25 rfl w.heap.size 9 j0 (.string empty) 1 16 PW hj0 hy0 hy1 hy2 rfl dE (.slice A6 k c6) k (aN cO (xs)) rfl (HI.out.row.alloc _).own _ _ 1 _ (aN cO [z]) rfl ⟨rfl,fun _=>⟨_,rfl,On _,ag _ _ _⟩⟩ ?c1 (by unfold maxLen;omega) oM (ar hlo _) ?_)
        case c1=>exact bn _
        intro v' w7 ho hg hat;have HY:=qD (zy.grown HX.out.need HX.out.no HI.out.row HI.out.ln HI.out.k6 HI.out.el HZ.out ho hg hat);clear ho hg hat;go_wp2_with fail;go_roundw
        ·exact⟨i+1,i+1,false,A4,n4,c4,l4,B,m,d,q,k+1,xs++[z],by omega,by go_num,by go_num,rfl,qL,rfl,rfl,HY.out⟩
        ·exact iO
       ·go_wp2_with fail;go_roundw
        ·exact⟨i+1,i+1,false,A4,n4,c4,l4,B,m,d,q,k,xs,by omega,by go_num,by go_num,rfl,qL,rfl,rfl,HX.out⟩
        ·exact iO
      ·go_wp2_with fail;go_roundw
       ·exact⟨i+1,i+1,false,A4,n4,c4,l4,B,m,d,q,k,xs,by omega,by go_num,by go_num,rfl,qL,rfl,rfl,HX.out⟩
       ·exact iO
   ·have jl:¬(i:Int)<(s.size:Int):=oM
    have jn:¬i<s.size:=hlt;have hbe:(s.extract b i).size<=s.size:=dM;have HPZ:Hid ((s.extract b i).size<=s.size):=qD hbe;have j2:(0:Int)<=(b:Int):=oM
    have j3:(b:Int)<=(i:Int):=oM
    have HHS:=qD hs;cases ins
    ·go_wp2_with fail;obtain⟨pt,hpt⟩:∃pt,s.extract b i=pt:=⟨_,rfl⟩;rw[hpt] at HPZ ⊢;clear hpt hbe;refine(rr pt _ (OU HPZ.out oM)).mono ?_;rintro e w2 ⟨A2,n2,c2,l2,B2,m2,d2,q2,rfl,ht2,ht3,hn2,hm2,hb⟩;replace HI:=qD (HI.out.step hb);have HT2:=qD ht2;have HT3:=qD ht3;clear hb ht2 ht3;have hna:n<=i*(s.size+2):=HI.out.need.le;have hnb:m<=i*(s.size+2):=HI.out.no.le;have hmul:i*(s.size+2)<=5001*5002:=QL oM oM;have hps:=HPZ.out;go_wp2_with fail;refine(fP l l2 A A2 n c n2 c2 w2 (HS.out.step HI.out.row.bel) HI.out.need.tl HT2.out oM).mono ?_;rintro e w3 ⟨A4,n4,c4,l4,rfl,ht4,hn4,hb,hf4⟩;have HN4:=qD (HI.out.need.next HI.out.row ht4 hn4 (show n2<=s.size+2 by omega) hb.size hf4);replace HI:=qD (HI.out.step hb);replace HT3:=qD (HT3.out.step hb);clear hb ht4 hf4;go_wp2_with fail;refine(fP q q2 B B2 m d m2 d2 w3 (HS.out.step HI.out.row.bel) HI.out.no.tl HT3.out oM).mono ?_;rintro e w4 ⟨A5,n5,c5,l5,rfl,ht5,hn5,hb,hf5⟩;have HN5:=qD (HI.out.no.next HI.out.row ht5 hn5 (show m2<=s.size+2 by omega) hb.size hf5);replace HI:=qD (HI.out.step hb);replace HN4:=qD (HN4.out.step hb);clear hb ht5 hf5;have HX:Hid (zy w s.size (i+1) u6 A4 n4 c4 l4 A5 n5 c5 l5 k xs w4):=qD ⟨HN4.out,HN5.out,HI.out.row,HI.out.ln,Qa HI.out.k6,HI.out.el⟩;go_wp2_with fail;go_roundw
     ·exact⟨i+1,i+1,true,A4,n4,c4,l4,A5,n5,c5,l5,k,xs,by omega,by go_num,by go_num,rfl,qL,rfl,rfl,HX.out⟩
     ·exact iO
    ·go_wp2_with fail;obtain⟨pt,hpt⟩:∃pt,s.extract b i=pt:=⟨_,rfl⟩;rw[hpt] at HPZ ⊢;clear hpt hbe;refine(mA pt _ (OU HPZ.out oM)).mono ?_;rintro e w2 ⟨A2,n2,c2,l2,rfl,ht2,hn2,hb,_⟩;replace HI:=qD (HI.out.step hb);have HT2:=qD ht2;clear hb ht2;have hna:n<=i*(s.size+2):=HI.out.need.le;have hmul:i*(s.size+2)<=5001*5002:=QL oM oM;have hps:=HPZ.out;go_wp2_with fail;refine(fP l l2 A A2 n c n2 c2 w2 (HS.out.step HI.out.row.bel) HI.out.need.tl HT2.out oM).mono ?_;rintro e w3 ⟨A4,n4,c4,l4,rfl,ht4,hn4,hb,hf4⟩;have HN4:=qD (HI.out.need.next HI.out.row ht4 hn4 (show n2<=s.size+2 by omega) hb.size hf4);replace HI:=qD (HI.out.step hb);clear hb ht4 hf4;go_wp2_with fail;refine(tw pt w3 oM).mono ?_;rintro e w4 ⟨z1,rfl,hz1,hb⟩;replace HI:=qD (HI.out.step hb);replace HN4:=qD (HN4.out.step hb);clear hb;go_wp2_with fail;refine(dL z1 w4 oM).mono ?_;rintro e w5 ⟨z,rfl,hz,hb⟩;replace HI:=qD (HI.out.step hb);replace HN4:=qD (HN4.out.step hb);have HZ:Hid (z.size<=1000000):=qD oM;have HX:Hid (zy w s.size (i+1) u6 A4 n4 c4 l4 B m d q k xs w5):=qD ⟨HN4.out,HI.out.no.up (Ot _ (Sz i)),HI.out.row,HI.out.ln,Qa HI.out.k6,HI.out.el⟩;have hki:=HI.out.k6;clear hb hz hz1;obtain⟨A6,c6,rfl,ht6,_⟩:=TL.Mq HI.out.row.own HI.out.ln HI.out.el;have HT6:=qD ht6;clear ht6;cases hz0:z.toList.isEmpty
     ·go_wp2_with fail;refine(lu xs z A6 k c6 w5 HT6.out oM).mono ?_;rintro e w6 ⟨r,rfl,_,hb⟩;replace HI:=qD (HI.out.step hb);replace HX:=qD (HX.out.step hb);clear hb HT6;cases r
      ·have hlo:w.heap.size<=w6.heap.size:=HI.out.row.bel.size;go_wp2_with (at_builtin;refine aE _ rfl _ _ 25 rfl w.heap.size 9 j0 (.string empty) 1 16 PW hj0 hy0 hy1 hy2 rfl dE (.slice A6 k c6) k (aN cO (xs)) rfl (HI.out.row.alloc _).own _ _ 1 _ (aN cO [z]) rfl ⟨rfl,fun _=>⟨_,rfl,On _,ag _ _ _⟩⟩ ?c1 (by unfold maxLen;omega) oM (ar hlo _) ?_)
       case c1=>exact bn _
       intro v' w7 ho hg hat;have HY:=qD (zy.grown HX.out.need HX.out.no HI.out.row HI.out.ln HI.out.k6 HI.out.el HZ.out ho hg hat);clear ho hg hat;go_wp2_with fail;go_roundw
       ·exact⟨i+1,i+1,false,A4,n4,c4,l4,B,m,d,q,k+1,xs++[z],by omega,by go_num,by go_num,rfl,qL,rfl,rfl,HY.out⟩
       ·exact iO
      ·go_wp2_with fail;go_roundw
       ·exact⟨i+1,i+1,false,A4,n4,c4,l4,B,m,d,q,k,xs,by omega,by go_num,by go_num,rfl,qL,rfl,rfl,HX.out⟩
       ·exact iO
     ·go_wp2_with fail;go_roundw
      ·exact⟨i+1,i+1,false,A4,n4,c4,l4,B,m,d,q,k,xs,by omega,by go_num,by go_num,rfl,qL,rfl,rfl,HX.out⟩
      ·exact iO
  ·have j0':¬(i:Int)<=(s.size:Int):=oM
   have jn:¬i<=s.size:=hle;have hna:n<=i*(s.size+2):=HI.out.need.le;have hnb:m<=i*(s.size+2):=HI.out.no.le;have hmul:i*(s.size+2)<=5001*5002:=QL oM oM;have hki:=HI.out.k6;go_wp2_with fail;obtain⟨A6,c6,rfl,ht6,_⟩:=TL.Mq HI.out.row.own HI.out.ln HI.out.el
   go_ret3
   exact⟨A,n,c,l,A6,k,c6,xs,B,m,d,q,rfl,HI.out.need.tl,ht6,HI.out.no.tl,by omega,by omega,by omega,HI.out.row.bel⟩
theorem AB(s x:ByteArray)(w:World)(hS:dP w)(hs:s.size<=5000)(hx:x.size<=5000):Calls prog 208 #[.string s,.string x] w (am (fun _=>True) w):=by
 have HS:=qD hS;clear hS;go_enter func208,ntmps208;go_wp2_with fail;refine(AA s w HS.out hs).mono ?_;rintro e w1 ⟨A,n,c,l,B,m,d,k,C,o,f,q,rfl,h1,h2,h3,hn,hm,ho,hb⟩;have T1:=qD h1;have T2:=qD h2;have T3:=qD h3;have HB:=qD hb;clear h1 h2 h3 hb;go_wp2_with fail;refine(zw x w1 (HS.out.step HB.out) oM).mono ?_;rintro e w2 ⟨D,y,g,z,rfl,h4,hy,hb,_⟩;have T4:=qD h4;replace T1:=qD (T1.out.step hb);replace T2:=qD (T2.out.step hb);replace T3:=qD (T3.out.step hb);replace HB:=qD (HB.out.Ml hb);clear h4 hb
 go_upto_block 0 with fail
 go_cut [9] (fun v wx=>∃r:Bool,v=.bool r/\Bl w2 wx)
 case first=>
  go_wp2_with fail
  go_loopw [9,10] (fun v9 v10 wr=>∃(i:Nat) (r:Bool),i<=n/\v10=.int .i64 i/\v9=.bool r/\Bl w2 wr) (fun _ v10 _=>n-(intOf v10).toNat)
  ·exact⟨0,_,ON _,rfl,rfl,OG _ _⟩
  case round=>
   obtain⟨i,r,hi,rfl,rfl,hb⟩:=hrel;have HC:=qD hb;by_cases hlt:i<n
   ·obtain⟨b,off,t,rfl,hbb,ht,e0⟩:=T1.out.sr.NR hlt;have e1:=(hb.cell (p:=⟨b,off+i,none⟩) hbb).trans e0;have i0:(0:Int)<=(i:Int):=oM
    have i1:(i:Int)<(n:Int):=oM
    clear hb e0 ht;cases r
    ·go_wp2_with fail;refine(lu z t D y g wr (T4.out.step HC.out) oM).mono ?_;rintro e w3 ⟨r,rfl,_,hb⟩;replace HC:=qD (HC.out.Ml hb);clear hb e1;go_wp2_with fail;go_roundw
     ·exact⟨i+1,r,by omega,by go_num,rfl,HC.out⟩
     ·exact iO
    ·go_wp2_with fail;go_roundw
     ·exact⟨i+1,true,by omega,by go_num,rfl,HC.out⟩
     ·exact iO
   ·obtain rfl:i=n:=oM
    clear hb;go_wp2_with fail;go_meet;exact⟨r,rfl,HC.out⟩
 case rest=>
  obtain⟨r0,rfl,hb⟩:=hcut;replace T2:=qD (T2.out.step hb);replace T3:=qD (T3.out.step hb);replace T4:=qD (T4.out.step hb);replace HB:=qD (HB.out.Ml hb);clear hb T1;generalize wc=w3 at*
  go_upto_block 2 with fail
  go_cut [9] (fun v wx=>∃r:Bool,v=.bool r/\Bl w3 wx)
  case first=>
   go_wp2_with fail
   go_loopw [9,11] (fun v9 v11 wr=>∃(i:Nat) (r:Bool),i<=m/\v11=.int .i64 i/\v9=.bool r/\Bl w3 wr) (fun _ v11 _=>m-(intOf v11).toNat)
   ·exact⟨0,_,ON _,rfl,rfl,OG _ _⟩
   case round=>
    obtain⟨i,r,hi,rfl,rfl,hb⟩:=hrel;have HC:=qD hb;by_cases hlt:i<m
    ·obtain⟨b,off,t,rfl,hbb,ht,e0⟩:=T2.out.sr.NR hlt;have e1:=(hb.cell (p:=⟨b,off+i,none⟩) hbb).trans e0;have HTZ:Hid (t.size<=1000000):=qD (T2.out.el t (OJ ht));have i0:(0:Int)<=(i:Int):=oM
     have i1:(i:Int)<(m:Int):=oM
     have hbl:b<wr.heap.size:=Ol hbb hb.size;clear hb e0 ht;cases r
     ·go_upto_region 11 with fail
      go_quiet (fail)
      go_wp2_with fail;go_roundw
      ·exact⟨i+1,false,by omega,by go_num,rfl,HC.out.Ml (Below.drewN (OG _ _) _)⟩
      ·exact iO
     ·go_upto_region 11 with fail
      have B:=qD ((OG wr.heap.size wr).drew);have KS:Hid (∀w',Bl wr w'->(fun w'=>w'.cell? ⟨b,off+i,none⟩=some (.string t)) w'):=qD fun w' hb=>(hb.cell (p:=⟨b,off+i,none⟩) hbl).trans e1;clear e1;refine PH ?_;refine Oy (S:=(fun w'=>w'.cell? ⟨b,off+i,none⟩=some (.string t))) kR ?_ (fun hHeld=>?_)
      ·(try dsimp only);exact KS.out _ B.out
      refine rU 0 rfl ?_
      try go_frame
      refine rU 1 rfl ?_
      try go_frame
      refine rU 2 rfl ?_
      try go_frame
      refine rU 3 rfl ?_
      try go_frame
      refine rU 4 rfl ?_
      try go_frame
      refine rU 5 rfl ?_
      try go_frame
      refine rU 6 rfl ?_
      try go_frame
      refine rY 7 rfl fun K hK=>?_;go_simp;refine(dL x _ oM).mono ?_;rintro e3 w5 ⟨u,rfl,hu,hb3⟩;replace B:=qD (B.out.Ml hb3);have HU:=qD hu;clear hb3 hu
      (try go_wp2_with fail)
      clear hHeld;refine hK.out _ _ (KS.out _ B.out) fun hHeld=>?_;clear hK K
      try go_frame
      refine rY 8 rfl fun K hK=>?_;go_simp;refine(xX t u _ (OU HTZ.out dE) (OU HU.out oM)).mono ?_;rintro e4 w6 ⟨r6,rfl,_,hb3⟩;replace B:=qD (B.out.Ml hb3);clear hb3
      (try go_wp2_with fail)
      clear hHeld;refine hK.out _ _ (KS.out _ B.out) fun hHeld=>?_;clear hK K
      try go_frame
      refine rU 9 rfl ?_
      try go_frame
      refine rU 10 rfl ?_
      try go_frame
      refine rD ?_ _;refine PL ?_;clear hHeld;go_wp2_with fail;go_roundw
      ·exact⟨i+1,r6,by omega,by go_num,rfl,HC.out.Ml B.out⟩
      ·exact iO
    ·obtain rfl:i=m:=oM
     clear hb;go_wp2_with fail;go_meet;exact⟨r,rfl,HC.out⟩
  case rest=>
   obtain⟨r1,rfl,hb⟩:=hcut;replace T3:=qD (T3.out.step hb);replace T4:=qD (T4.out.step hb);replace HB:=qD (HB.out.Ml hb);clear hb T2;generalize wc=w4 at*
   go_upto_block 4 with fail
   go_cut [9] (fun v wx=>∃r:Bool,v=.bool r/\Bl w4 wx)
   case first=>
    go_wp2_with fail
    go_loopw [9,12] (fun v9 v12 wr=>∃(i:Nat) (r:Bool),i<=o/\v12=.int .i64 i/\v9=.bool r/\Bl w4 wr) (fun _ v12 _=>o-(intOf v12).toNat)
    ·exact⟨0,_,ON _,rfl,rfl,OG _ _⟩
    case round=>
     obtain⟨i,r,hi,rfl,rfl,hb⟩:=hrel;have HC:=qD hb;by_cases hlt:i<o
     ·obtain⟨b,off,t,rfl,hbb,ht,e0⟩:=T3.out.sr.NR hlt;have e1:=(hb.cell (p:=⟨b,off+i,none⟩) hbb).trans e0;have i0:(0:Int)<=(i:Int):=oM
      have i1:(i:Int)<(o:Int):=oM
      clear hb e0 ht;cases r
      ·go_wp2_with fail;go_roundw
       ·exact⟨i+1,false,by omega,by go_num,rfl,HC.out⟩
       ·exact iO
      ·go_wp2_with fail;refine(lu z t D y g wr (T4.out.step HC.out) oM).mono ?_;rintro e w5 ⟨r,rfl,_,hb⟩;replace HC:=qD (HC.out.Ml hb);clear hb e1;go_wp2_with fail;go_roundw
       ·exact⟨i+1,!r,by omega,by go_num,rfl,HC.out⟩
       ·exact iO
     ·obtain rfl:i=o:=oM
      clear hb;go_wp2_with fail;go_meet;exact⟨r,rfl,HC.out⟩
   case rest=>
    obtain⟨r2,rfl,hb⟩:=hcut;have HC:=qD (HB.out.Ml hb);have hnn:(n:Int)<=30000000:=oM
    have hmm:(m:Int)<=30000000:=oM
    clear hb;cases r2
    all_goals
     go_wp2;go_ret;exact am.of trivial HC.out
def iA(n:Int):Bool:=decide (0<=n)&&decide (n<65536)
theorem jR{n:Int}(h:iA n=true):0<=n/\n<65536:=by simpa[iA] using h
theorem Dg{n:Int}(h0:0<=n)(h1:n<65536):iA n=true:=by simp[iA,h0,h1]
theorem ru{n:Int}(h:¬(0<=n/\n<65536)):iA n=false:=by
 cases hb:iA n
 ·rfl
 ·exact absurd (jR hb) h
abbrev pt(x y:Int):Value:=.agg #[.int .i64 x,.int .i64 y]
def bp(x y:Int):Bool:=iA x&&iA y
theorem gi(h:bp x y=true):0<=x/\x<65536/\0<=y/\y<65536:=by
 simp[bp] at h;have h1:=jR h.1;have h2:=jR h.2;omega
def oL(ax ay bx by':Int):Int:=if bp ax ay&&bp bx by' then(ax-bx)*(ax-bx)+(ay-by')*(ay-by') else -1
theorem mB{b:Int}(h1:-65536<a)(h2:a<65536)(h3:-65536<b)(h4:b<65536):-4294967296<a*b/\a*b<4294967296:=by
 have:(a*b).natAbs<4294967296:=by
  rw[Int.natAbs_mul]
  calc a.natAbs*b.natAbs<=65535*65535:=QL oM oM
   _<_:=by decide
 omega
theorem GG{a b:Bool}(h:a=b):Ending.returned (.bool a)=.returned (.bool b):=by rw[h]
theorem GH{k:IntKind}{b:Int}(h:a=b):Ending.returned (.int k a)=.returned (.int k b):=by rw[h]
def gl(ax ay bx by' px py:Int):Int:=(bx-ax)*(py-ay)-(by'-ay)*(px-ax)
def ry(ax ay bx by' px py:Int):Bool:=
 gl ax ay bx by' px py==0&&(decide (min ax bx<=px)&&(decide (px<=max ax bx)&&(decide (min ay by'<=py)&&decide (py<=max ay by'))))
def ov(ax ay bx by' px py:Int):Bool:=
 if decide (py<ay)==decide (py<by') then false else if by'<ay then decide (0<gl bx by' ax ay px py) else decide (0<gl ax ay bx by' px py)
def mC(w:World)(A:Option Addr)(n:Nat)(ps:List (Int×Int)):Prop:=
 ps.length=n/\n<=maxLen/\(0<n->∃b off,A=some ⟨b,off,none⟩/\b<w.heap.size/\∀i x y,ps[i]?=some (x,y)->w.cell? ⟨b,off+i*2,none⟩=some (.int .i64 x)/\w.cell? ⟨b,off+i*2+1,none⟩=some (.int .i64 y))
theorem mC.below{ps:List (Int×Int)}(h:mC w A n ps)(hb:Bl w w'):mC w' A n ps:=by
 refine⟨h.1,h.2.1,fun hn=>?_⟩;obtain⟨b,off,hA,hlt,hc⟩:=h.2.2 hn;refine⟨b,off,hA,Ol hlt hb.size,fun i x y hi=>?_⟩;obtain⟨h1,h2⟩:=hc i x y hi;exact⟨(hb.cell (p:=⟨b,_,none⟩) hlt).trans h1,(hb.cell (p:=⟨b,_,none⟩) hlt).trans h2⟩
abbrev Lc(k:Int)(A:Option Addr)(n c:Nat)(r:Int):Value:=.agg #[.int .i64 k,.slice A n c,.int .i64 r]
def jS(k n r:Int):Bool:=
 if k==1 then(if n=2 then r==0 else false) else if k==2 then(if n=1 then iA r else false) else if k==3 then(if 3<=n then if n<=64 then r==0 else false else false) else false
def eF(k:Int)(ps:List (Int×Int))(r:Int):Bool:=jS k ps.length r&&ps.all fun p=>bp p.1 p.2
def pZ(b:Bool):Int:=if b then 0 else 18
theorem sB(k:Int)(ps:List (Int×Int))(r:Int)(h:jS k ps.length r=false):eF k ps r=false:=by simp[eF,h]
theorem GI(k:Int)(ps:List (Int×Int))(r:Int)(h:jS k ps.length r=true)(i:Nat)(x y:Int)(hi:ps[i]?=some (x,y))(hp:bp x y=false):eF k ps r=false:=by
 simp only[eF,h,Rw];cases hb:ps.all fun p=>bp p.1 p.2
 ·rfl
 ·rw[Qd] at hb;have:=hb (x,y) (OJ hi);simp[hp] at this
theorem Dh(k:Int)(ps:List (Int×Int))(r:Int)(h:jS k ps.length r=true)(hp:∀(i:Nat) x y,ps[i]?=some (x,y)->bp x y=true):eF k ps r=true:=by
 simp only[eF,h,Rw,Qd];rintro⟨x,y⟩ hm;obtain⟨i,hi⟩:=PP hm;exact hp i x y hi
theorem IY(g:Nat)(x y:Int)(W:World)(q0:W.cell? ⟨g,0,none⟩=some (.int .i64 x))(q1:W.cell? ⟨g,1,none⟩=some (.int .i64 y)):
 (loadVar 174 ⟨g,0,none⟩).run prog W=.ok (pt x y) W:=by
 simp[go_sem,q0,q1]
def IZ(k0 n0 k1 n1:Int):Bool:=if k0==3 then if k1==3 then bp n0 n1 else false else false
def sC(k0 n0 k1 n1:Int):Value:=if IZ k0 n0 k1 n1 then .tuple #[pt n0 n1,.int .i64 0] else .tuple #[pt 0 0,.int .i64 18]
theorem fq{fn:Func}{p u:Tmp}(h:fn.results=#[.cell p 174,.tmp u])(tmps:Array Value)(g1:Nat)(h1:tmps.getD p undef=.pointer (some ⟨g1,0,none⟩))(e:Value)(h2:tmps.getD u undef=e)(W:World)(x1 y1:Int)(q0:W.cell? ⟨g1,0,none⟩=some (.int .i64 x1))(q1:W.cell? ⟨g1,1,none⟩=some (.int .i64 y1)):
  (results fn tmps).run prog W=.ok (.tuple #[pt x1 y1,e]) W:=by
  rw[SY h,h1,h2];simp[asAddr,IY g1 x1 y1 W q0 q1]
def sx:ByteArray:=⟨#[120]⟩
def sy:ByteArray:=⟨#[121]⟩
def oN(g:FuncId)(w:World)(v:VC)(name:ByteArray)(k n:Int):Prop:=
 ∀W,Bl w W->Calls prog g #[v.val,.string name] W fun e w'=>∃(x:VC) (ok:Bool),x.k=k/\x.n=n/\e=.returned (.tuple #[x.val,.bool ok])/\Bl W w'
end
inductive Ld (g:FuncId) (w:World) (v:VC) (k0 n0 k1 n1:Int):Prop where
 | list (a0 a1:VC) (b off:Nat) (hk:v.k=6) (hA:v.LA=some ⟨b,off,none⟩) (hl:v.ln=2) (h0:aO w b off a0) (h1:aO w b (off+5) a1) (e:k0=a0.k/\n0=a0.n/\k1=a1.k/\n1=a1.n)
 | doc (hk:v.k=5) (hd:v.dn=2) (hx:oN g w v sx k0 n0) (hy:oN g w v sy k1 n1)
 | none_ (h6:v.k=6->v.ln≠2) (h5:v.k=5->v.dn≠2) (e:k0=0/\n0=0/\k1=0/\n1=0)
section
variable {k b n g i c q:Nat} {w w':World} {e:TypeId} {a x y:Int} {r:List ByteArray} {v:Value} {A:Option Addr} {ha:Bool}
def MO(w:World)(k0 n0 k1 n1:Int)(wr:World):Prop:=
 ∃x y:VC,x.k=k0/\x.n=n0/\y.k=k1/\y.n=n1/\aG wr (w.heap.size+1) 174 #[.int .i64 0,.int .i64 0]/\aG wr (w.heap.size+2) 29 x.arr/\aG wr (w.heap.size+3) 29 y.arr/\Bl w wr
theorem us(n:Int)(w:World):
 Calls prog 140 #[.int .i64 n] w fun e w'=>e=.returned (.bool (iA n))/\w=w':=by
 by_cases h0:0<=n
 ·by_cases h1:n<65536
  ·have hc:=qD (Dg h0 h1);go_enter func140,TE
   go_wp2
   go_ret;exact⟨by rw[hc.out];rfl,rfl⟩
  ·have hc:=qD (ru (n:=n) oM);go_enter func140,TE
   go_wp2
   go_ret;exact⟨by rw[hc.out];rfl,rfl⟩
 ·have hc:=qD (ru (n:=n) oM);go_enter func140,TE
  go_wp2
  go_ret;exact⟨by rw[hc.out];rfl,rfl⟩
theorem gV(x y:Int)(w:World):
 Calls prog 139 #[pt x y] w (Rt w (.bool (bp x y))):=by
 cases h0:iA x
 ·have hc:Hid (bp x y=false):=by simp[bp,h0,Hid]
  go_enter func139,ntmps139;go_wp2_with (go_at_call 140;refine(us _ _).mono ?_;rintro e w' ⟨rfl,rfl⟩);go_ret;exact⟨by rw[hc.out];rfl,(OG _ _).alloc (qL) _⟩
 ·have hc:Hid (bp x y=iA y):=by simp[bp,h0,Hid]
  go_enter func139,ntmps139;go_wp2_with (go_at_call 140;refine(us _ _).mono ?_;rintro e w' ⟨rfl,rfl⟩);go_ret;exact⟨by rw[hc.out];rfl,(OG _ _).alloc (qL) _⟩
theorem sZ(ax ay bx by':Int)(w:World):
 Calls prog 251 #[pt ax ay,pt bx by'] w (Rt w (.int .i64 (oL ax ay bx by'))):=by
 cases h0:bp ax ay
 ·have hc:Hid (oL ax ay bx by'=-1):=by simp[oL,h0,Hid]
  go_enter func251,ntmps251;go_wp2_with (go_at_call 139;refine(gV _ _ _).mono ?_;rintro e w1 ⟨rfl,hb⟩);go_ret;exact⟨by rw[hc.out];rfl,(((OG _ _).alloc (qL) _).alloc sM _).trans (hb.mono sO)⟩
 ·cases h1:bp bx by'
  ·have hc:Hid (oL ax ay bx by'=-1):=by simp[oL,h1,Hid]
   go_enter func251,ntmps251;go_wp2_with fail;refine(gV _ _ _).mono ?_;rintro e w1 ⟨rfl,hb⟩;obtain⟨hc1,hf1⟩:=vG hb;go_wp2_with fail;refine(gV _ _ _).mono ?_;rintro e w2 ⟨rfl,hb2⟩;go_wp2;go_ret;exact⟨by rw[hc.out];rfl,((((OG _ _).alloc (qL) _).alloc sM _).trans (hb.mono sO)).trans (hb2.mono (by have:=hb.size;simp at this;omega))⟩
  ·have hc:Hid (oL ax ay bx by'=(ax-bx)*(ax-bx)+(ay-by')*(ay-by')):=by simp[oL,h0,h1,Hid]
   obtain⟨a1,a2,a3,a4⟩:=gi h0;obtain⟨b1,b2,b3,b4⟩:=gi h1;have sx:=mB (a:=ax-bx) (b:=ax-bx) oM oM oM oM;have sy:=mB (a:=ay-by') (b:=ay-by') oM oM oM oM;go_enter func251,ntmps251;go_wp2_with fail;refine(gV _ _ _).mono ?_;rintro e w1 ⟨rfl,hb⟩;obtain⟨hc1,hf1⟩:=vG hb;go_wp2_with fail;refine(gV _ _ _).mono ?_;rintro e w2 ⟨rfl,hb2⟩;replace hb:=hb.step hb2;clear hb2 hc1 hf1;obtain⟨hc1,hf1⟩:=vG hb;go_wp2;go_ret;exact⟨by rw[hc.out];rfl,(((OG _ _).alloc (qL) _).alloc sM _).trans (hb.mono sO)⟩
theorem AC(ax ay bx by' px py:Int)(w:World)(ha:bp ax ay=true)(hb:bp bx by'=true)(hp:bp px py=true):
 Calls prog 295 #[pt ax ay,pt bx by',pt px py] w (Rt w (.int .i64 (gl ax ay bx by' px py))):=by
 obtain⟨a1,a2,a3,a4⟩:=gi ha;obtain⟨b1,b2,b3,b4⟩:=gi hb;obtain⟨p1,p2,p3,p4⟩:=gi hp;clear ha hb hp;have sx:=mB (a:=bx-ax) (b:=py-ay) oM oM oM oM;have sy:=mB (a:=by'-ay) (b:=px-ax) oM oM oM oM;go_enter func295,ntmps295;go_wp2;go_ret;exact⟨rfl,(((OG _ _).alloc (qL) _).alloc sM _).alloc sO _⟩
def ed(n a b:Int):Bool:=decide (min a b<=n)&&decide (n<=max a b)
theorem gm(n a b:Int)(w:World):
 Calls prog 250 #[.int .i64 n,.int .i64 a,.int .i64 b] w fun e w'=>e=.returned (.bool (ed n a b))/\w=w':=by
 go_enter func250,ntmps250;go_wp2_with fail
 all_goals go_ret
 all_goals refine⟨GG ?_,rfl⟩
 all_goals (rw[Ob];simp[ed, *];try omega)
def iF(q k:Int)(n:Nat):Bool:=if k==q then((n:Int)==2) else false
theorem xY{q k:Int}(h:k=q->n≠2):iF q k n=false:=by
 unfold iF;split
 ·rename_i hq
  have:=h (by simpa using hq);simp;omega
 ·rfl
def Le(w:World)(v:VC)(k0 n0 k1 n1:Int)(wr:World):Prop:=
 (v.k≠5/\∃x y:VC,x.k=k0/\x.n=n0/\y.k=k1/\y.n=n1/\aG wr w.heap.size 29 v.arr/\aG wr (w.heap.size+1) 174 #[.int .i64 0,.int .i64 0]/\aG wr (w.heap.size+2) 29 x.arr/\aG wr (w.heap.size+3) 29 y.arr/\Bl w wr)\/
 (aG wr w.heap.size 29 v.arr/\aG wr (w.heap.size+1) 174 #[.int .i64 0,.int .i64 0]/\aG wr (w.heap.size+2) 29 VC.zero.arr/\aG wr (w.heap.size+3) 29 VC.zero.arr/\Bl w wr/\iF 6 v.k v.ln=false)
theorem AD(v:VC)(k0 n0 k1 n1:Int)(w:World)(hsel:Ld 244 w v k0 n0 k1 n1):
 Calls prog 206 #[v.val] w (Rt w (sC k0 n0 k1 n1)):=by
 obtain⟨k,n,t,LA,ln,lc,DA,dn,dc⟩:=v;go_enter func206,ntmps206;go_upto_region 2 with fail
 go_cut [15] (fun s15 wx=>s15=.bool (iF 6 k ln)/\wx=(((w.alloc (.cells (VC.arr ⟨k,n,t,LA,ln,lc,DA,dn,dc⟩) 29)).alloc (.cells #[.int .i64 0,.int .i64 0] 174)).alloc (.cells VC.zero.arr 29)).alloc (.cells VC.zero.arr 29))
 case first=>
  cases e6:(k==6)
  all_goals (go_wp2_with fail;go_meet;refine⟨congrArg Value.bool ?_,rfl⟩)
  all_goals (simp[iF,e6])
 case rest=>
 obtain⟨rfl,rfl⟩:=hcut
 go_upto_if 15 with fail
 go_cut [] (fun wx=>Le w ⟨k,n,t,LA,ln,lc,DA,dn,dc⟩ k0 n0 k1 n1 wx)
 case first=>
  cases hsel with
  | list a0 a1 b off hk hA hl h0 h1 e=>
   simp only at hk hA hl;obtain⟨rfl,rfl,rfl,rfl⟩:=e;subst hk hA hl;have hb:=h0.lt;have hbk:b<w.heap.size+1/\b<w.heap.size+2/\b<w.heap.size+3:=oM
   obtain⟨p0,p1,p2,p3,p4⟩:=h0;obtain⟨q0,q1,q2,q3,q4⟩:=h1;have ht:iF 6 6 2=true:=by decide
   rw[ht];go_upto_region 3 with fail
   go_region
   go_wp2_with fail;go_meet;exact .inl ⟨(by show(6:Int)≠5;decide),a0,a1,rfl,rfl,rfl,rfl,(((aG.Mm sM).alloc _).alloc _).alloc _,((aG.Mm sM).alloc _).alloc _,(aG.Mm sM).alloc _,aG.Mm sM,(((((OG _ _).alloc sM _).alloc sM _).alloc sO _).alloc sO _).drew⟩
  | doc hk hd hx hy=>
   simp only at hk hd;subst hk hd;clear hx hy;have ht:iF 6 5 ln=false:=by simp[iF]
   rw[ht];go_wp2_with fail;go_meet;exact .inr ⟨(((aG.Mm sM).alloc _).alloc _).alloc _,((aG.Mm sM).alloc _).alloc _,(aG.Mm sM).alloc _,aG.Mm sM,(((((OG _ _).alloc sM _).alloc sM _).alloc sO _).alloc sO _),ht⟩
  | none_ h6 h5 e=>
   simp only at h6 h5;have ht:iF 6 k ln=false:=xY h6;rw[ht];clear h6 h5;have HT:=qD ht;clear ht;go_wp2_with fail;go_meet;exact .inr ⟨(((aG.Mm sM).alloc _).alloc _).alloc _,((aG.Mm sM).alloc _).alloc _,(aG.Mm sM).alloc _,aG.Mm sM,(((((OG _ _).alloc sM _).alloc sM _).alloc sO _).alloc sO _),HT.out⟩
 case rest=>
 go_upto_region 4 with fail
 go_cut [32] (fun s32 wx=>s32=.bool (iF 5 k dn)/\Le w ⟨k,n,t,LA,ln,lc,DA,dn,dc⟩ k0 n0 k1 n1 wx)
 case first=>
  have b0:aG wc w.heap.size 29 (VC.arr ⟨k,n,t,LA,ln,lc,DA,dn,dc⟩):=by
   rcases hcut with⟨_,x,y,_,_,_,_,h,_⟩|⟨h,_⟩<;>exact h
  have e0:=b0.cell 0;have e4:=b0.cell 4;simp at e0 e4;have HC:=qD hcut;clear hcut b0;cases e5:(k==5)
  all_goals (go_wp2_with fail;go_meet;refine⟨congrArg Value.bool ?_,HC.out⟩)
  all_goals (simp[iF,e5])
 case rest=>
 obtain⟨rfl,hm⟩:=hcut
 go_upto_if 32 with fail
 go_cut [] (fun wx=>MO w k0 n0 k1 n1 wx)
 case first=>
  cases hsel with
  | list a0 a1 b off hk hA hl h0 h1 e=>
   simp only at hk hA hl;subst hk;have ht:iF 5 6 dn=false:=by simp[iF]
   rw[ht];have HM:=qD hm;clear hm h0 h1;go_wp2_with fail;go_meet;rcases HM.out with⟨_,x,y,h1,h2,h3,h4,_,h5,h6,h7,h8⟩|⟨_,h5,h6,h7,h8,h9⟩
   ·exact⟨x,y,h1,h2,h3,h4,h5,h6,h7,h8⟩
   ·subst hl;exact absurd h9 (by simp[iF])
  | doc hk hd hx hy=>
   simp only at hk hd;subst hk hd;have ht:iF 5 5 2=true:=by decide
   rw[ht];have HX:=qD hx;have HY:=qD hy;clear hx hy ht;rcases hm with⟨hne,_⟩|⟨N0,N1,N2,N3,N4,_⟩
   ·exact absurd rfl hne
   obtain⟨a0,a1,a2,a3,a4⟩:=aO.Mn N0;obtain⟨b0,b1,b2,b3,b4⟩:=aO.Mn N2;have z:=N2.frozen;have J0:=qD N0;have J1:=qD N1;have J2:=qD N2;have J3:=qD N3;have J4:=qD N4;clear N0 N1 N2 N3 N4;go_wp2_with fail;refine(HX.out _ J4.out).mono ?_;rintro e w1 ⟨x,ok,rfl,rfl,rfl,hb⟩;obtain⟨xk,xn,xt,xLA,xln,xlc,xDA,xdn,xdc⟩:=x;have N0:=J0.out.step hb;have N1:=J1.out.step hb;have N2:=J2.out.step hb;have N3:=J3.out.step hb;have N4:=J4.out.Ml hb;clear a0 a1 a2 a3 a4 b0 b1 b2 b3 b4 z hb J0 J1 J2 J3 J4 HX;obtain⟨a0,a1,a2,a3,a4⟩:=aO.Mn N0;obtain⟨b0,b1,b2,b3,b4⟩:=aO.Mn N2;have z:=N2.frozen;have J1:=qD N1;have J2:=qD N2;have J3:=qD N3;have J4:=qD N4;clear N0 N1 N2 N3 N4;go_wp2_with fail;refine(HY.out _ (aW J4.out (b:=w.heap.size+2) oM 0 ⟨xk,xn,xt,xLA,xln,xlc,xDA,xdn,xdc⟩)).mono ?_;rintro e w2 ⟨y,ok2,rfl,rfl,rfl,hb⟩;obtain⟨yk,yn,yt,yLA,yln,ylc,yDA,ydn,ydc⟩:=y;have N1:=(J1.out.My (b:=w.heap.size+2) oM 0 ⟨xk,xn,xt,xLA,xln,xlc,xDA,xdn,xdc⟩).step hb;have N2:=(J2.out.putV ⟨xk,xn,xt,xLA,xln,xlc,xDA,xdn,xdc⟩).step hb;have N3:=(J3.out.My (b:=w.heap.size+2) oM 0 ⟨xk,xn,xt,xLA,xln,xlc,xDA,xdn,xdc⟩).step hb;have N4:=(aW J4.out (b:=w.heap.size+2) oM 0 ⟨xk,xn,xt,xLA,xln,xlc,xDA,xdn,xdc⟩).Ml hb;clear a0 a1 a2 a3 a4 b0 b1 b2 b3 b4 z hb J1 J2 J3 J4;obtain⟨b0,b1,b2,b3,b4⟩:=aO.Mn N3;have z:=N3.frozen;have J1:=qD N1;have J2:=qD N2;have J3:=qD N3;have J4:=qD N4;clear N1 N2 N3 N4;go_wp2_with fail;go_meet
   exact⟨⟨xk,xn,xt,xLA,xln,xlc,xDA,xdn,xdc⟩,⟨yk,yn,yt,yLA,yln,ylc,yDA,ydn,ydc⟩,rfl,rfl,rfl,rfl,J1.out.My (b:=w.heap.size+3) oM 0 ⟨yk,yn,yt,yLA,yln,ylc,yDA,ydn,ydc⟩,J2.out.My (b:=w.heap.size+3) oM 0 ⟨yk,yn,yt,yLA,yln,ylc,yDA,ydn,ydc⟩,J3.out.putV ⟨yk,yn,yt,yLA,yln,ylc,yDA,ydn,ydc⟩,aW J4.out (b:=w.heap.size+3) oM 0 ⟨yk,yn,yt,yLA,yln,ylc,yDA,ydn,ydc⟩⟩
  | none_ h6 h5 e=>
   simp only at h6 h5;obtain⟨rfl,rfl,rfl,rfl⟩:=e;have ht:iF 5 k dn=false:=xY h5;rw[ht];have HM:=qD hm;clear hm h6 h5 ht;go_wp2_with fail;go_meet;rcases HM.out with⟨_,x,y,h1,h2,h3,h4,_,h5,h6,h7,h8⟩|⟨_,h5,h6,h7,h8,_⟩
   ·exact⟨x,y,h1,h2,h3,h4,h5,h6,h7,h8⟩
   ·exact⟨VC.zero,VC.zero,rfl,rfl,rfl,rfl,h5,h6,h7,h8⟩
 case rest=>
  obtain⟨x,y,rfl,rfl,rfl,rfl,N1,N2,N3,N4⟩:=hcut;clear hsel;obtain⟨xk,xn,xt,xLA,xln,xlc,xDA,xdn,xdc⟩:=x;obtain⟨yk,yn,yt,yLA,yln,ylc,yDA,ydn,ydc⟩:=y;obtain⟨a0,a1,-,-,-⟩:=aO.Mn N2;obtain⟨b0,b1,-,-,-⟩:=aO.Mn N3;have l1:=N1.lt;have l2:=N2.lt;have l3:=N3.lt;have e0:=N1.cell 0;have e1:=N1.cell 1;have z:=N1.frozen;simp at a0 a1 b0 b1 e0 e1;have J1:=qD N1;have J4:=qD N4;clear N1 N2 N3 N4;cases hp:IZ xk xn yk yn
  ·have HR:Hid (sC xk xn yk yn=.tuple #[pt 0 0,.int .i64 18]):=by simp[sC,hp,Hid]
   cases ex:(xk != 3)
   ·cases ey:(yk != 3)
    ·have hq:bp xn yn=false:=by
      simp at ex ey;simpa[IZ,ex,ey] using hp
     clear hp;go_wp2_with fail;refine(gV _ _ _).mono ?_;rintro e w1 ⟨rfl,hb⟩;have N1:=(J1.out.alloc _).step hb;have N4:=(J4.out.alloc J4.out.size _).Ml hb;clear a0 a1 b0 b1 e0 e1 z l1 l2 l3 hb;have e0:=N1.cell 0;have e1:=N1.cell 1;have z:=N1.frozen;simp at e0 e1;have J2:=qD N1;have J5:=qD N4;clear N1 N4;go_wp2_with fail;have q:=((J2.out.Mo 0 (.int .i64 0)).Mo 1 (.int .i64 0));have q0:=q.cell 0;have q1:=q.cell 1;refine OO (fq rfl _ _ rfl _ rfl _ _ _ q0 q1) rfl ⟨by rw[HR.out];rfl,(J5.out.setCell (by show w.heap.size<=w.heap.size+1;omega) _).setCell (by show w.heap.size<=w.heap.size+1;omega) _⟩
    ·clear hp;go_wp2_with fail;have q:=((J1.out.Mo 0 (.int .i64 0)).Mo 1 (.int .i64 0)).alloc (.cells #[Value.int IntKind.i64 xn,Value.int IntKind.i64 yn] 174);have q0:=q.cell 0;have q1:=q.cell 1;refine OO (fq rfl _ _ rfl _ rfl _ _ _ q0 q1) rfl ⟨by rw[HR.out];rfl,((J4.out.setCell (p:=⟨w.heap.size+1,0,none⟩) (by show w.heap.size<=w.heap.size+1;omega) _).setCell (p:=⟨w.heap.size+1,1,none⟩) (by show w.heap.size<=w.heap.size+1;omega) _).alloc (by have:=J4.out.size;simp[World.setCell];omega) _⟩
   ·clear hp;go_wp2_with fail;have q:=((J1.out.Mo 0 (.int .i64 0)).Mo 1 (.int .i64 0)).alloc (.cells #[Value.int IntKind.i64 xn,Value.int IntKind.i64 yn] 174);have q0:=q.cell 0;have q1:=q.cell 1;refine OO (fq rfl _ _ rfl _ rfl _ _ _ q0 q1) rfl ⟨by rw[HR.out];rfl,((J4.out.setCell (p:=⟨w.heap.size+1,0,none⟩) (by show w.heap.size<=w.heap.size+1;omega) _).setCell (p:=⟨w.heap.size+1,1,none⟩) (by show w.heap.size<=w.heap.size+1;omega) _).alloc (by have:=J4.out.size;simp[World.setCell];omega) _⟩
  ·have HR:Hid (sC xk xn yk yn=.tuple #[pt xn yn,.int .i64 0]):=by simp[sC,hp,Hid]
   have hq:xk=3/\yk=3/\bp xn yn=true:=by
    simp only[IZ] at hp;split at hp
    ·split at hp<;>simp_all
    ·simp at hp
   obtain⟨rfl,rfl,hq⟩:=hq;clear hp;go_wp2_with fail;refine(gV _ _ _).mono ?_;rintro e w1 ⟨rfl,hb⟩;have N1:=(J1.out.alloc _).step hb;have N2:=(aG.new wc 174 #[.int .i64 xn,.int .i64 yn]).step hb;have N4:=(J4.out.alloc J4.out.size _).Ml hb;clear a0 a1 b0 b1 e0 e1 z l1 l2 l3 hb;have e0:=N1.cell 0;have e1:=N1.cell 1;have e2:=N2.cell 0;have e3:=N2.cell 1;have z:=N1.frozen;simp at e0 e1 e2 e3;have J2:=qD N1;have J5:=qD N4;clear N1 N2 N4;go_wp2_with fail;have q:=((J2.out.Mo 0 (.int .i64 xn)).Mo 1 (.int .i64 yn));have q0:=q.cell 0;have q1:=q.cell 1;refine OO (fq rfl _ _ rfl _ rfl _ _ _ q0 q1) rfl ⟨by rw[HR.out];rfl,(J5.out.setCell (by show w.heap.size<=w.heap.size+1;omega) _).setCell (by show w.heap.size<=w.heap.size+1;omega) _⟩
def Bi(ps:List (Int×Int)):Int×Int:=ps.headD (0,0)
theorem GJ{ps:List (Int×Int)}{p:Int×Int}(h:ps[0]?=some p):Bi ps=p:=by
 cases ps with
 | nil=>simp at h
 | cons a l=>simpa[Bi] using h
theorem pd{k:Int}{ps:List (Int×Int)}{r:Int}(h:eF k ps r=true):jS k ps.length r=true/\∀p∈ps,bp p.1 p.2=true:=by
 simpa[eF] using h
theorem pe{k n r:Int}(h:jS k n r=true):(k=1/\n=2/\r=0)\/(k=2/\n=1/\0<=r/\r<65536)\/(k=3/\3<=n/\n<=64/\r=0):=by
 simp only[jS] at h;split at h
 ·split at h<;>simp_all
 ·split at h
  ·split at h
   ·have:=jR h;simp_all
   ·simp at h
  ·split at h
   ·split at h
    ·split at h<;>simp_all
    ·simp at h
   ·simp at h
theorem AE{x:aC}{c:VC}(h:RW w c x)(name:ByteArray):oN 244 w c name ((eG x name).getD aC.zero).k ((eG x name).getD aC.zero).n:=by
 intro W hW;refine(Gi x c name W (h.lt.Ml hW)).mono ?_;rintro e w' ⟨c',rfl,hr,hb⟩;exact⟨c',_,hr.open.k,hr.open.n,rfl,hb⟩
def ki(x:aC):Int×Int×Int×Int:=
 if x.k=6/\x.l.length=2 then((x.l.getD 0 aC.zero).k,(x.l.getD 0 aC.zero).n,(x.l.getD 1 aC.zero).k,(x.l.getD 1 aC.zero).n)
 else if x.k=5/\x.d.length=2 then(((eG x sx).getD aC.zero).k,((eG x sx).getD aC.zero).n,((eG x sy).getD aC.zero).k,((eG x sy).getD aC.zero).n)
 else(0,0,0,0)
theorem GK{g:FuncId}{x:aC}{c:VC}(h:RW w c x)(hg:∀name,oN g w c name ((eG x name).getD aC.zero).k ((eG x name).getD aC.zero).n):
 Ld g w c (ki x).1 (ki x).2.1 (ki x).2.2.1 (ki x).2.2.2:=by
 have ho:=h.open;unfold ki;split
 ·rename_i h6
  have hn:c.ln=2:=by rw[ho.ln];exact h6.2
  obtain⟨b,off,hLA,_,hel⟩:=ho.la oM;obtain⟨x0,hx0⟩:∃y,x.l[0]?=some y:=⟨_,OH oM⟩;obtain⟨x1,hx1⟩:∃y,x.l[1]?=some y:=⟨_,OH oM⟩;obtain⟨e0,h0,r0⟩:=hel 0 x0 hx0;obtain⟨e1,h1,r1⟩:=hel 1 x1 hx1;refine .list e0 e1 b off (by rw[ho.k];exact h6.1) hLA hn (by simpa using h0) (by simpa using h1) ?_;simp only[Rl,hx0,hx1,Qe];exact⟨r0.open.k.symm,r0.open.n.symm,r1.open.k.symm,r1.open.n.symm⟩
 ·rename_i h6
  split
  ·rename_i h5
   exact .doc (by rw[ho.k];exact h5.1) (by rw[ho.dn];exact h5.2) (hg sx) (hg sy)
  ·rename_i h5
   refine .none_ (fun hk hl=>h6 ⟨by rw[<-ho.k];exact hk,by rw[<-ho.ln];exact hl⟩) (fun hk hl=>h5 ⟨by rw[<-ho.k];exact hk,by rw[<-ho.dn];exact hl⟩) ⟨rfl,rfl,rfl,rfl⟩
theorem xZ(k0 n0 k1 n1:Int):∃a b e:Int,sC k0 n0 k1 n1=.tuple #[pt a b,.int .i64 e]:=by
 unfold sC;split
 ·exact⟨_,_,_,rfl⟩
 ·exact⟨_,_,_,rfl⟩
theorem AF(k:Int)(ps:List (Int×Int))(r:Int)(h:64<ps.length):eF k ps r=false:=by
 cases hv:eF k ps r
 ·rfl
 ·rcases pe (pd hv).1 with h|h|h<;>omega
theorem valid_at'(k:Int)(ps:List (Int×Int))(r:Int)(i:Nat)(x y:Int)(hi:ps[i]?=some (x,y))(hp:bp x y=false):eF k ps r=false:=by
 cases hf:jS k ps.length r
 ·exact sB k ps r hf
 ·exact GI k ps r hf i x y hi hp
theorem Di(k:Int)(ps:List (Int×Int))(r:Int)(hp:∀(i:Nat) x y,ps[i]?=some (x,y)->bp x y=true):eF k ps r=jS k ps.length r:=by
 cases hf:jS k ps.length r
 ·exact sB k ps r hf
 ·exact Dh k ps r hf hp
theorem mD(k:Int)(A:Option Addr)(n c:Nat)(r:Int)(ps:List (Int×Int))(w:World)(h:mC w A n ps):
 Calls prog 83 #[Lc k A n c r] w (Rt w (.int .i64 (pZ (eF k ps r)))):=by
 have hn:=h.2.1;unfold maxLen at hn;by_cases h64:64<n
 ·have HV:=qD (AF k ps r (by rw[h.1];exact h64));clear h;go_enter func83,ntmps83;go_wp2;go_ret;exact⟨by rw[HV.out];rfl,(OG _ _).alloc (qL) _⟩
 ·have HL:=qD h;clear h;go_enter func83,ntmps83;go_wp2_with fail
  go_loopw [2,4] (fun v2 v4 wr=>∃i:Nat,i<=n/\v2=.int .i64 0/\v4=.int .i64 i/\(∀(j:Nat) x y,j<i->ps[j]?=some (x,y)->bp x y=true)/\aG wr w.heap.size 32 #[Value.int IntKind.i64 k,Value.slice A n c,Value.int IntKind.i64 r]/\Bl w wr) (fun _ v4 _=>n-(intOf v4).toNat)
  ·exact⟨0,ON _,rfl,rfl,fun j _ _ h=>by omega,aG.Mm rfl,(OG _ _).alloc (qL) _⟩
  case round=>
   obtain⟨i,hi,rfl,rfl,hall,N1,N2⟩:=hrel;have e0:=N1.cell 0;have e1:=N1.cell 1;have e2:=N1.cell 2;simp at e0 e1 e2;by_cases hlt:i<n
   ·obtain⟨hl,_,hr⟩:=HL.out;obtain⟨b,off,rfl,hb,hc⟩:=hr oM;obtain⟨⟨x,y⟩,hxy⟩:∃p,ps[i]?=some p:=⟨_,OH oM⟩;obtain⟨c0,c1⟩:=hc i x y hxy;have d0:=(N2.cell (p:=⟨b,off+i*2,none⟩) hb).trans c0;have d1:=(N2.cell (p:=⟨b,off+i*2+1,none⟩) hb).trans c1;have HX:=qD hxy;have HA:=qD hall;have J1:=qD N1;have J2:=qD N2;clear hl hr hc c0 c1 hxy hall N1 N2;go_wp2_with fail;refine(gV _ _ _).mono ?_;rintro e w1 ⟨rfl,hb1⟩;have K1:=qD (J1.out.step hb1);have K2:=qD (J2.out.Ml hb1);clear hb1 J1 J2 e0 e1 e2 d0 d1;cases hp:bp x y
    ·have HV:=qD (valid_at' k ps r i x y HX.out hp);go_wp2;go_ret;exact⟨by rw[HV.out];rfl,K2.out⟩
    ·have HP:=qD hp;go_wp2_with fail;go_roundw
     case rel=>
      refine⟨i+1,by omega,rfl,by go_num,fun j x' y' hj hjx=>?_,K1.out,K2.out⟩;by_cases e:j=i
      ·subst e;have:=HX.out.symm.trans hjx;simp at this;obtain⟨rfl,rfl⟩:=this;exact HP.out
      ·exact HA.out j x' y' oM hjx
     case measure=>exact iO
   ·obtain rfl:i=n:=oM
    have HV:=qD (Di k ps r (fun j x y hj=>hall j x y (by
     have:=(OI.1 hj).1
     have:=HL.out.1
     omega) hj))
    have HN:=qD HL.out.1;have J2:=qD N2;clear hall N1 N2 HL;go_wp2_with (go_at_call 140;refine(us _ _).mono ?_;rintro e w' ⟨rfl,rfl⟩)
    all_goals go_ret
    all_goals refine⟨GH ?_,J2.out⟩
    all_goals (have hv:=HV.out;rw[HN.out] at hv;clear HV HN J2;first|(simp[hv,jS,pZ, *];done)|(simp[hv,jS,pZ, *];omega)|(simp_all[jS,pZ];done)|(simp_all[jS,pZ];omega))
abbrev Ia:=(Int×Int)×(Int×Int)
def Lf(px py:Int)(e:Ia):Bool:=ry e.1.1 e.1.2 e.2.1 e.2.2 px py
def KI(px py:Int)(e:Ia):Bool:=ov e.1.1 e.1.2 e.2.1 e.2.2 px py
def oO(px py:Int):Bool->List Ia->Bool
 | odd,[]=>odd
 | odd,e::r=>if Lf px py e then true else oO px py (if KI px py e then !odd else odd) r
def iB(ps:List (Int×Int)):List Ia:=(List.range ps.length).map fun i=>(ps.getD i (0,0),ps.getD ((i+1)%ps.length) (0,0))
theorem AG(ax ay bx by' px py:Int):gl bx by' ax ay px py=- gl ax ay bx by' px py:=by
 simp only[gl];grind
theorem AH(ax ay bx by' px py:Int):ov ax ay bx by' px py=true↔(ay<=py/\py<by'/\0<gl ax ay bx by' px py)\/(by'<=py/\py<ay/\gl ax ay bx by' px py<0):=by
 simp only[ov];by_cases h1:py<ay<;>by_cases h2:py<by'<;>simp[h1,h2]
 ·omega
 ·have h3:by'<ay:=oM
  rw[OW h3,AG];simp;omega
 ·have h3:¬by'<ay:=oM
  rw[OQ h3];simp;omega
theorem Dj(ps:List (Int×Int))(i:Nat)(a b:Int×Int)(h1:ps[i]?=some a)(h2:ps[(i+1)%ps.length]?=some b):(iB ps)[i]?=some (a,b):=by
 have hi:=(OI.1 h1).1;simp[iB,QF hi,h1,h2]
theorem sa(ps:List (Int×Int)):(iB ps).length=ps.length:=by simp[iB]
theorem xa(ax ay bx by' px py:Int):ry ax ay bx by' px py=(gl ax ay bx by' px py==0&&(ed px ax bx&&ed py ay by')):=by
 simp only[ry,ed,Bool.and_assoc]
theorem Ib{ax ay bx by':Int}(h:ry ax ay bx by' x y=false):(gl ax ay bx by' x y==0)=false\/((gl ax ay bx by' x y==0)=true/\(ed x ax bx=false\/(ed x ax bx=true/\ed y ay by'=false))):=by
 rw[xa] at h;cases h1:(gl ax ay bx by' x y==0)<;>cases h2:ed x ax bx<;>cases h3:ed y ay by'<;>simp_all
theorem GL{ax ay bx by':Int}(h:ry ax ay bx by' x y=true):(gl ax ay bx by' x y==0)=true/\ed x ax bx=true/\ed y ay by'=true:=by
 rw[xa] at h;simpa[Ov] using h
end
structure xb(w:World)(x y:Int)(wr:World):Prop where
 b0:aG wr w.heap.size 174 #[.int .i64 x,.int .i64 y]
 bel:Bl w wr
section
variable {k b n m c size:Nat} {w w' wr:World} {e:TypeId} {P:Program} {a x y:Int} {r:List ByteArray} {v:Value} {A:Option Addr}
theorem xb.step(h:xb w x y wr)(hb:Bl wr w'):xb w x y w':=⟨h.b0.step hb,h.bel.Ml hb⟩
theorem xf(A:Option Addr)(n c:Nat)(ps:List (Int×Int))(x y:Int)(w:World)(h:mC w A n ps)(hn1:1<=n)(hn2:n<=64)(hps:∀p∈ps,bp p.1 p.2=true)(hp:bp x y=true):
 Calls prog 252 #[.slice A n c,pt x y] w (Rt w (.bool (oO x y false (iB ps)))):=by
 obtain⟨hl,_,hr⟩:=h;obtain⟨b,off,rfl,hb,hc⟩:=hr oM;have HC:=qD hc;have HPS:=qD hps;have HL:=qD hl;clear hr hc hps hl;go_enter func252,ntmps252;go_wp2_with fail
 go_loopw [4,5,6,7,8,9] (fun v4 v5 v6 v7 v8 v9 wr=>∃(i:Nat) (odd:Bool),i<=n/\v4=.bool false/\v5=.bool odd/\v6=.int .i64 i/\oO x y false (iB ps)=oO x y odd ((iB ps).drop i)/\xb w x y wr) (fun _ _ v6 _ _ _ _=>n-(intOf v6).toNat)
 ·exact⟨0,false,ON _,rfl,rfl,rfl,rfl,aG.Mm rfl,(OG _ _).alloc (qL) _⟩
 case round=>
  obtain⟨i,odd,hi,rfl,rfl,rfl,hpoly,I0⟩:=hrel;have HP:=qD hpoly;clear hpoly;by_cases hlt:i<n
  ·have hm:(i+1)%n<n:=TS _ oM;obtain⟨⟨ax,ay⟩,hA⟩:∃p,ps[i]?=some p:=⟨_,OH (by have:=HL.out;omega)⟩;obtain⟨⟨bx,by'⟩,hB⟩:∃p,ps[(i+1)%n]?=some p:=⟨_,OH (by have:=HL.out;omega)⟩;have ha:=HPS.out _ (OJ hA);have hbp:=HPS.out _ (OJ hB);simp only at ha hbp;obtain⟨a0,a1⟩:=HC.out i ax ay hA;obtain⟨b0,b1⟩:=HC.out _ bx by' hB
   have d0:=(I0.bel.cell (p:=⟨b,off+i*2,none⟩) hb).trans a0;have d1:=(I0.bel.cell (p:=⟨b,off+i*2+1,none⟩) hb).trans a1;have d2:=(I0.bel.cell (p:=⟨b,off+(i+1)%n*2,none⟩) hb).trans b0;have d3:=(I0.bel.cell (p:=⟨b,off+(i+1)%n*2+1,none⟩) hb).trans b1
   have HQ:Hid (oO x y false (iB ps)=if ry ax ay bx by' x y then true else oO x y (if ov ax ay bx by' x y then !odd else odd) ((iB ps).drop (i+1))):=by
    rw[Hid,HP.out,cU (Dj ps i (ax,ay) (bx,by') hA (by rw[HL.out];exact hB))];rfl
   have k3:b<wr.heap.size/\b<wr.heap.size+1:=by have:=I0.bel.size;omega
   have m1:(0:Int)<=((i:Int)+1)%(n:Int):=Int.emod_nonneg _ oM;have m2:((i:Int)+1)%(n:Int)<n:=Int.emod_lt_of_pos _ oM;have J0:=qD I0;clear a0 a1 b0 b1 hA hB HP I0;go_upto_region 5 with fail
   go_cut [7,8] (fun s7 s8 wx=>∃g1 g2:Nat,s7=.pointer (some ⟨g1,0,none⟩)/\s8=.pointer (some ⟨g2,0,none⟩)/\aG wx g1 174 #[.int .i64 ax,.int .i64 ay]/\aG wx g2 174 #[.int .i64 bx,.int .i64 by']/\xb w x y wx)
   case first=>
    go_region
    all_goals (go_wp2_with fail;go_meet)
    all_goals first
     | exact⟨wr.heap.size,wr.heap.size+1,rfl,rfl,(aG.Mm rfl).alloc _,aG.Mm sM,(J0.out.b0.alloc _).alloc _,((J0.out.bel.alloc J0.out.bel.size _).alloc (by have:=J0.out.bel.size;simp;omega) _).drew⟩
     | exact⟨wr.heap.size+1,wr.heap.size,rfl,rfl,aG.Mm sM,(aG.Mm rfl).alloc _,(J0.out.b0.alloc _).alloc _,((J0.out.bel.alloc J0.out.bel.size _).alloc (by have:=J0.out.bel.size;simp;omega) _).drew⟩
   case rest=>
    obtain⟨g1,g2,rfl,rfl,B1,B2,I0⟩:=hcut;clear d0 d1 d2 d3 m1 m2 k3 J0;have e0:=I0.b0.cell 0;have e1:=I0.b0.cell 1;have e2:=B1.cell 0;have e3:=B1.cell 1;have e4:=B2.cell 0;have e5:=B2.cell 1;simp at e0 e1 e2 e3 e4 e5;have J0:=qD I0;have J1:=qD B1;have J2:=qD B2;clear I0 B1 B2;go_wp2_with fail;refine(AC _ _ _ _ _ _ _ ha hbp hp).mono ?_;rintro e w2 ⟨rfl,hb2⟩;have I0:=J0.out.step hb2;have B1:=J1.out.step hb2;have B2:=J2.out.step hb2;clear hb2 e0 e1 e2 e3 e4 e5 J0 J1 J2;have e0:=I0.b0.cell 0;have e1:=I0.b0.cell 1;have e2:=B1.cell 0;have e3:=B1.cell 1;have e4:=B2.cell 0;have e5:=B2.cell 1;simp at e0 e1 e2 e3 e4 e5;have J0:=qD I0;clear I0 B1 B2;cases he:ry ax ay bx by' x y
    ·have HE:=qD he;simp only[he,Qv,TQ] at HQ;have hed:(gl ax ay bx by' x y==0)=false\/((gl ax ay bx by' x y==0)=true/\(ed x ax bx=false\/(ed x ax bx=true/\ed y ay by'=false))):=Ib he;clear he;go_upto_region 7 with fail
     go_cut [51] (fun s51 wx=>s51=.bool false/\w2=wx)
     case first=>
      rcases hed with h1|⟨h1,h2|⟨h2,h3⟩⟩
      all_goals
       go_wp2_with (go_at_call 250;refine(gm _ _ _ _).mono ?_;rintro e w' ⟨rfl,rfl⟩);go_meet;exact⟨rfl,rfl⟩
     case rest=>
      obtain⟨rfl,rfl⟩:=hcut;clear hed;have HX:=qD (AH ax ay bx by' x y);go_upto_region 9 with fail
      go_cut [85] (fun s85 wx=>s85=.bool (ov ax ay bx by' x y)/\w2=wx)
      case first=>
       go_wp2_with fail
       all_goals (go_meet;refine⟨congrArg Value.bool ?_,rfl⟩)
       all_goals (rw[Ob,HX.out];clear HX e0 e1 e2 e3 e4 e5 HQ HE J0 HC HPS HL;simp[*];try omega)
      case rest=>
       obtain⟨rfl,rfl⟩:=hcut;cases hx:ov ax ay bx by' x y
       all_goals
        simp only[hx,Qv,TQ,Rr] at HQ;go_wp2_with fail;go_roundw
        ·exact⟨i+1,_,by omega,rfl,rfl,by go_num,HQ.out,J0.out⟩
        ·exact iO
    ·have hed:(gl ax ay bx by' x y==0)=true/\ed x ax bx=true/\ed y ay by'=true:=GL he
     simp only[he,Rr] at HQ;clear he;obtain⟨h1,h2,h3⟩:=hed;go_wp2_with (go_at_call 250;refine(gm _ _ _ _).mono ?_;rintro e w' ⟨rfl,rfl⟩);go_ret;exact⟨by rw[HQ.out];rfl,J0.out.bel⟩
  ·obtain rfl:i=n:=oM
   have HQ:Hid (oO x y false (iB ps)=odd):=by
    rw[Hid,HP.out,Og (by rw[sa];have:=HL.out;omega)];rfl
   have J0:=qD I0;clear I0;go_wp2;go_ret;exact⟨by rw[HQ.out];rfl,J0.out.bel⟩
def eC(k:Int)(ps:List (Int×Int))(r x y:Int):Bool:=
 if k==1 then ed x (ps.getD 0 (0,0)).1 (ps.getD 1 (0,0)).1&&ed y (ps.getD 0 (0,0)).2 (ps.getD 1 (0,0)).2
 else if k==2 then decide (oL (Bi ps).1 (Bi ps).2 x y<=r*r)
 else oO x y false (iB ps)
def kF(k:Int)(ps:List (Int×Int))(r x y:Int):Bool:=eF k ps r&&(bp x y&&eC k ps r x y)
theorem sD{n b:Int}{v:Bool}(h:ed n a b=v)(w:World):
 Calls prog 250 #[.int .i64 n,.int .i64 a,.int .i64 b] w fun e w'=>e=.returned (.bool v)/\w=w':=by
 subst h;exact gm n a b w
theorem Calls.Mz{f:FuncId}{args:Array Value}(h:Calls P f args (w.drewN n) fun e w'=>e=.returned v/\w.drewN n=w'):Calls P f args (w.drewN n) fun e w''=>e=.returned v/\∃m,w''=w.drewN m:=
  h.mono fun _ _ ⟨he,hm⟩=>⟨he,n,hm.symm⟩
theorem AI(k:Int)(A:Option Addr)(n c:Nat)(r:Int)(ps:List (Int×Int))(x y:Int)(w:World)(h:mC w A n ps)(hn:(eF k ps r&&bp x y)=false):
 Calls prog 207 #[Lc k A n c r,pt x y] w (Rt w (.bool (kF k ps r x y))):=by
 have HE:Hid (kF k ps r x y=false):=by simp only[kF,<-Bool.and_assoc,hn,Sr,Hid]
 have h2:mC ((w.alloc (.cells #[Value.int IntKind.i64 k,Value.slice A n c,Value.int IntKind.i64 r] 32)).alloc (.cells #[Value.int IntKind.i64 x,Value.int IntKind.i64 y] 174)) A n ps:=
  h.below (((OG _ _).alloc (qL) _).alloc sM _)
 have H2:=qD h2;clear h2 h;cases hv:eF k ps r
 ·have hv':((pZ false) != 0)=true:=by decide
  clear hn;go_enter func207,ntmps207;go_wp2_with fail;refine(mD _ _ _ _ _ _ _ H2.out).mono ?_;rintro e w1 ⟨rfl,hb⟩;go_wp2;go_ret;exact⟨by rw[HE.out];rfl,(((OG _ _).alloc (qL) _).alloc sM _).trans (hb.mono sO)⟩
 ·have hp:bp x y=false:=by simpa[hv] using hn
  have hv':((pZ true) != 0)=false:=by decide
  clear hn;go_enter func207,ntmps207;go_wp2_with fail;refine(mD _ _ _ _ _ _ _ H2.out).mono ?_;rintro e w1 ⟨rfl,hb⟩;obtain⟨hc1,hf1⟩:=vG hb;go_wp2_with fail;refine(gV _ _ _).mono ?_;rintro e w2 ⟨rfl,hb2⟩;replace hb:=hb.step hb2;go_wp2;go_ret;exact⟨by rw[HE.out];rfl,(((OG _ _).alloc (qL) _).alloc sM _).trans (hb.mono sO)⟩
theorem xg(k:Int)(A:Option Addr)(n c:Nat)(r:Int)(ps:List (Int×Int))(x y:Int)(w:World)(h:mC w A n ps)(hv:eF k ps r=true)(hp:bp x y=true):
 Calls prog 207 #[Lc k A n c r,pt x y] w (Rt w (.bool (eC k ps r x y))):=by
 obtain⟨hf,hps⟩:=pd hv;rw[h.1] at hf;have HPS:=qD hps
 have h2:mC ((w.alloc (.cells #[Value.int IntKind.i64 k,Value.slice A n c,Value.int IntKind.i64 r] 32)).alloc (.cells #[Value.int IntKind.i64 x,Value.int IntKind.i64 y] 174)) A n ps:=
  h.below (((OG _ _).alloc (qL) _).alloc sM _)
 have H2:=qD h2;have HF:=qD hf;have hv':((pZ true) != 0)=false:=by decide
 clear h2 h hps hf;go_enter func207,ntmps207;go_wp2_with fail;refine(mD _ _ _ _ _ _ _ H2.out).mono ?_;rintro e w1 ⟨rfl,hb⟩;obtain⟨hc1,hf1⟩:=vG hb;go_wp2_with fail;refine(gV _ _ _).mono ?_;rintro e w2 ⟨rfl,hb2⟩;replace hb:=hb.step hb2;clear hb2 hc1 hf1 w1;have B1:aG w2 w.heap.size 32 #[Value.int IntKind.i64 k,Value.slice A n c,Value.int IntKind.i64 r]:=((aG.Mm rfl).alloc _).below hb sO;have B2:aG w2 (w.heap.size+1) 174 #[Value.int IntKind.i64 x,Value.int IntKind.i64 y]:=(aG.Mm sM).below hb sM;have B3:Bl w w2:=(((OG _ _).alloc (qL) _).alloc sM _).trans (hb.mono sO);have h3:=(H2.out).below hb;clear hb H2;have e0:=B1.cell 0;have e1:=B1.cell 1;have e2:=B1.cell 2;have f0:=B2.cell 0;have f1:=B2.cell 1;simp at e0 e1 e2 f0 f1;have H3:=qD h3;have J1:=qD B1;have J2:=qD B2;have J3:=qD B3;clear h3 B1 B2 B3;rcases pe HF.out with⟨rfl,h2,rfl⟩|⟨rfl,h2,hr0,hr1⟩|⟨rfl,h2,h3,rfl⟩
 ·
  obtain rfl:n=2:=oM
  clear h2;obtain⟨⟨x0,y0⟩,hx0⟩:∃p,ps[0]?=some p:=⟨_,OH (by have:=H3.out.1;omega)⟩;obtain⟨⟨x1,y1⟩,hx1⟩:∃p,ps[1]?=some p:=⟨_,OH (by have:=H3.out.1;omega)⟩;have HE:Hid (eC 1 ps 0 x y=(ed x x0 x1&&ed y y0 y1)):=by simp[eC,Hid,hx0,hx1]
  obtain⟨b,off,rfl,hb,hc⟩:=H3.out.2.2 oM;obtain⟨c0,c1⟩:=hc 0 x0 y0 hx0;obtain⟨c2,c3⟩:=hc 1 x1 y1 hx1;simp at c0 c1 c2 c3;clear hx0 hx1 hc;cases hbx:ed x x0 x1
  ·simp only[hbx,Sr] at HE;go_wp2_with fail;refine wp_region_quiet_lit kR kR ?_
   repeat(go_big_quiet_step (first|(go_at_call 250;with_reducible exact Calls.Mz (sD hbx _))|(go_at_call 250;exact Calls.Mz (gm _ _ _ _))))
   refine Oc ?_;rintro _ ⟨nq,rfl⟩;go_wp2;go_ret;exact⟨by rw[HE.out];rfl,J3.out.drewN _⟩
  ·simp only[hbx,Rw] at HE;go_wp2_with fail;refine wp_region_quiet_lit kR kR ?_
   repeat(go_big_quiet_step (first|(go_at_call 250;with_reducible exact Calls.Mz (sD hbx _))|(go_at_call 250;exact Calls.Mz (gm _ _ _ _))))
   refine Oc ?_;rintro _ ⟨nq,rfl⟩;go_wp2;go_ret;exact⟨by rw[HE.out];rfl,J3.out.drewN _⟩
 ·
  obtain rfl:n=1:=oM
  clear h2;obtain⟨⟨x0,y0⟩,hx0⟩:∃p,ps[0]?=some p:=⟨_,OH (by have:=H3.out.1;omega)⟩;have HE:Hid (eC 2 ps r x y=decide (oL x0 y0 x y<=r*r)):=by simp[eC,Hid,GJ hx0]
  obtain⟨b,off,rfl,hb,hc⟩:=H3.out.2.2 oM;obtain⟨c0,c1⟩:=hc 0 x0 y0 hx0;simp at c0 c1;have sr:=mB (a:=r) (b:=r) oM oM oM oM;clear hx0 hc;go_wp2_with fail;have E1:=aX e1;have E2:=aX e2;have F0:=aX f0;have F1:=aX f1;have C0:=aX c0;have C1:=aX c1;refine aL kR kR ?_
  repeat(go_big_quiet_step (exact Calls.bw (sZ _ _ _ _ _)))
  refine Oc ?_;rintro _ ⟨kw,rfl⟩;clear E1 E2 F0 F1 C0 C1;go_wp2;go_ret;exact⟨by rw[HE.out];rfl,J3.out.Ml kw.below⟩
 ·
  have HE:Hid (eC 3 ps 0 x y=oO x y false (iB ps)):=rfl;go_wp2_with fail;refine(xf _ _ _ _ _ _ _ H3.out oM oM HPS.out hp).mono ?_;rintro e w3 ⟨rfl,hb3⟩;go_wp2;go_ret;exact⟨by rw[HE.out];rfl,J3.out.Ml hb3⟩
theorem xh(k:Int)(A:Option Addr)(n c:Nat)(r:Int)(ps:List (Int×Int))(x y:Int)(w:World)(h:mC w A n ps):
 Calls prog 207 #[Lc k A n c r,pt x y] w (Rt w (.bool (kF k ps r x y))):=by
 cases hb:(eF k ps r&&bp x y)
 ·exact AI k A n c r ps x y w h hb
 ·have h1:eF k ps r=true/\bp x y=true:=by simpa using hb
  have e:kF k ps r x y=eC k ps r x y:=by simp[kF,h1]
  rw[e];exact xg k A n c r ps x y w h h1.1 h1.2
end
end Go.Proofs.YtgfoliedmhgpnaaGreatDoor
