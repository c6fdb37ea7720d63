/- A part of the proof. -/
import Derived.Test.YtgfoliedmhgpnaaGreatDoorBn8
import Derived.Laws.OwnMore
import Derived.Lib.SmallJoins
import Derived.ProofKit
import Derived.OpenShut
import Derived.Deep.Slices
set_option maxRecDepth 100000
set_option maxHeartbeats 16000000
set_option linter.unusedSimpArgs false
open Go.Proofs.Tryz
open ByteArray (empty)
namespace Go.Proofs.YtgfoliedmhgpnaaGreatDoor
open Go.RowKit
structure GK(bs:Nat)(L0:List (PS×Nat))(k:Nat)(A0 A R:List (PS×Nat)):Prop where
 e:L0=A0++R
 l0:A0.length=k*bs
 l:A.length=k*bs
 s:∀q,q<k->ah (fun p q:PS=>aZ (ai p).1 (ai q).1) (blk bs q A0) (blk bs q A)
structure jd(bs:Nat)(L0:List (PS×Nat))(k:Nat)(A0 A R0 R:List (PS×Nat)):Prop where
 e:L0=A0++R0
 l0:A0.length=k*(2*bs)
 l:A.length=k*(2*bs)
 rl:R.length=R0.length
 s:∀q,q<k->ah (fun p q:PS=>aZ (ai p).1 (ai q).1) (blk (2*bs) q A0) (blk (2*bs) q A)
 t:∀q,ah (fun p q:PS=>aZ (ai p).1 (ai q).1) (blk bs q R0) (blk bs q R)
structure mA(bs:Nat)(R0 R X0 Y0 D0 X Y D:List (PS×Nat)):Prop where
 e0:R0=X0++(Y0++D0)
 e:R=X++(Y++D)
 x0:X0.length=bs
 x:X.length=bs
 y0:Y0.length=bs\/(Y0.length<=bs/\D0=[])
 y:Y.length=bs\/(Y.length<=bs/\D=[])
section
variable {c k g n q bs S:Nat} {w wr:World} {A:Option Addr}
theorem sF(bs:Nat)(R0 R:List (PS×Nat))(hl:R.length=R0.length)(hb:bs<=R.length):mA bs R0 R (R0.take bs) ((R0.drop bs).take bs) ((R0.drop bs).drop bs) (R.take bs) ((R.drop bs).take bs) ((R.drop bs).drop bs):=by
 have aux:∀l:List (PS×Nat),(l.take bs).length=bs\/((l.take bs).length<=bs/\l.drop bs=[]):=fun l=>by
  by_cases e:bs<=l.length
  ·exact .inl (by rw[LI];omega)
  ·exact .inr ⟨by rw[LI];omega,Nl (by omega)⟩
 exact⟨by rw[LC,LC],by rw[LC,LC],by rw[LI];omega,by rw[LI];omega,aux _,aux _⟩
theorem jd.sorted{bs k:Nat}{L0 A0 A R0 R X0 Y0 D0 X Y D:List (PS×Nat)}(h:jd bs L0 k A0 A R0 R)(hp:mA bs R0 R X0 Y0 D0 X Y D):ah (fun p q:PS=>aZ (ai p).1 (ai q).1) X0 X/\ah (fun p q:PS=>aZ (ai p).1 (ai q).1) Y0 Y:=
 Aj hp.x0 hp.y0 hp.x hp.y (by have:=h.t;rw[hp.e0,hp.e] at this;exact this)
theorem jd.JN{bs k:Nat}{L0 A0 A R0 R X0 Y0 D0 X Y D:List (PS×Nat)}(h:jd bs L0 k A0 A R0 R)(hp:mA bs R0 R X0 Y0 D0 X Y D){g n:Nat}{w wr:World}(ht:kg L0)(hc:iR g w L0)(I:dK g w (A++R) wr)(hn:n=L0.length)(hz:n*176<=aH):ea A X Y D g n wr:=by
 obtain⟨s1,s2⟩:=h.sorted hp;have ht2:kg (A0++(X0++(Y0++D0))):=by rw[<-hp.e0,<-h.e];exact ht
 refine⟨?_,?_,hz,s1.2,s2.2,fun x hx y hy=>?_,hc.less I.but fun x hx=>?_⟩
 ·have:=I.row;rw[hp.e] at this;simpa using this
 ·rw[hn,h.e,LN,LN,<-hp.e,KV,KV,h.l0,h.l,h.rl]
 ·have q:=(Ky.1 (Ky.1 ht2).2.1).2.2;exact q x (s1.1.mem_iff.1 hx) y (by simp[s2.1.mem_iff.1 hy])
 ·rw[h.e,hp.e0];rcases KI.1 hx with hx|hx
  ·simp[s1.1.mem_iff.1 hx]
  ·simp[s2.1.mem_iff.1 hx]
theorem ah.both{α:Type}{cm:α->α->Int}{X0 Y0 X Y S:List (α×Nat)}(h1:ah cm X0 X)(h2:ah cm Y0 Y)(h:ah cm (X++Y) S):ah cm (X0++Y0) S:=⟨h.1.trans (h1.1.append h2.1),h.2⟩
theorem jd.next{bs k:Nat}{L0 A0 A R0 R X0 Y0 D0 X Y D S:List (PS×Nat)}(h:jd bs L0 k A0 A R0 R)(hp:mA bs R0 R X0 Y0 D0 X Y D)(hS:ah (fun p q:PS=>aZ (ai p).1 (ai q).1) (X++Y) S)(hy:Y.length=bs)(hy0:Y0.length=bs):jd bs L0 (k+1) (A0++(X0++Y0)) (A++S) D0 D:=by
 obtain⟨s1,s2⟩:=h.sorted hp;have hS2:=ah.both s1 s2 hS;have l1:(X0++Y0).length=2*bs:=by rw[KV,hp.x0,hy0];omega
 have l2:(X++Y).length=2*bs:=by rw[KV,hp.x,hy];omega
 refine⟨?_,?_,?_,?_,sE h.l0 h.l h.s l1 hS2,fun q=>Ak l1 l2 ?_ q⟩
 ·rw[h.e,hp.e0];simp
 ·rw[KV,h.l0,l1];exact(Ol k (2*bs)).symm
 ·rw[KV,h.l,hS.1.length_eq,l2];exact(Ol k (2*bs)).symm
 ·have:=h.rl;rw[hp.e,hp.e0] at this;simp[hp.x,hp.x0,hy,hy0] at this;exact this
 ·have:=h.t;rw[hp.e0,hp.e] at this;simpa using this
theorem jd.last{bs k:Nat}{L0 A0 A R0 R X0 Y0 X Y S:List (PS×Nat)}(h:jd bs L0 k A0 A R0 R)(hp:mA bs R0 R X0 Y0 [] X Y [])(hS:ah (fun p q:PS=>aZ (ai p).1 (ai q).1) (X++Y) S)(q:Nat):ah (fun p q:PS=>aZ (ai p).1 (ai q).1) (blk (2*bs) q L0) (blk (2*bs) q (A++S)):=by
 obtain⟨s1,s2⟩:=h.sorted hp;have e:L0=A0++(X0++Y0):=by rw[h.e,hp.e0,LQ]
 rw[e];exact nV h.l0 h.l h.s (by rw[KV,hp.x0];rcases hp.y0 with q|⟨q,_⟩<;>omega) (ah.both s1 s2 hS) q
theorem jd.lone{bs k:Nat}{L0 A0 A R0 R:List (PS×Nat)}(h:jd bs L0 k A0 A R0 R)(hl:R.length<=bs)(q:Nat):ah (fun p q:PS=>aZ (ai p).1 (ai q).1) (blk (2*bs) q L0) (blk (2*bs) q (A++R)):=by
 rw[h.e];exact nV h.l0 h.l h.s (by rw[<-h.rl];omega) (vY (by rw[<-h.rl];exact hl) hl h.t) q
theorem tV(H:db (fun p q:PS=>aZ (ai p).1 (ai q).1))(L0:List (PS×Nat))(g n c:Nat)(w:World)(hr:bT w g L0)(hn:n=L0.length)(hz:n*176<=aH)(ht:kg L0)(hc:iR g w L0):
 Calls prog 243 #[.slice (some ⟨g,0,none⟩) n c,.int .i64 n,.func (.func 190) #[] #[]] w (pz g w [] L0 []):=by
 have HZ:=qD hz;unfold aH at hz;have HN:=qD hn;have HT:=qD ht;have HC:=qD hc;have HO:=qD H;have I0:Hid (dK g w L0 w):=qD ⟨hr,iG.refl⟩;clear hr hn ht hc H;go_enter func243,ntmps243;go_wp2_with fail
 go_loopw [7,8] (fun v7 v8 wr=>∃(k a b:Nat) (A0 A R:List (PS×Nat)),v7=.int .i64 a/\v8=.int .i64 b/\b=a+20/\a=k*20/\a<=n/\GK 20 L0 k A0 A R/\dK g w (A++R) wr) (fun _ v8 _=>n+40-(intOf v8).toNat)
 ·exact⟨0,0,20,[],[],L0,rfl,rfl,rfl,rfl,KD _,⟨rfl,rfl,rfl,fun q hq=>absurd hq (by omega)⟩,I0.out⟩
 case round=>
  obtain⟨k,a,b,A0,A,R,rfl,rfl,hb,hk,han,hD,I⟩:=hrel;have HB:=qD hb;have HK:=qD hk;have HD:=qD hD;have J:=qD I;have hRl:R.length=n-a:=by have h1:=HN.out;rw[hD.e] at h1;simp[hD.l0] at h1;omega
  have HRl:=qD hRl;clear hk hD I hRl;by_cases hlt:b<=n
  ·have hb2:b=a+20:=hb;have hl1:(R.take 20).length=20:=by rw[LI];have:=HRl.out;omega
   have HL1:=qD hl1;have HR:Hid (R=R.take 20++R.drop 20):=(LC 20 R).symm;have HM:∀x∈R,x∈L0:=fun x hx=>by rw[HD.out.e];simp[hx]
   have HM':=qD HM;clear hb hb2 hl1 HM;go_wp2_with fail;refine(oJ HO.out A (R.take 20) (R.drop 20) g n c a b _ (by rw[LN,<-HR.out];exact J.out.row) (by rw[LN,<-HR.out,KV,HD.out.l,HRl.out,<-HK.out];omega) (by rw[HD.out.l];exact HK.out) (by rw[HD.out.l,HL1.out,<-HK.out];exact HB.out) HZ.out ?_ ?_).mono ?_
   ·have:=HT.out;rw[HD.out.e,HR.out] at this;exact(Ky.1 (Ky.1 this).2.1).1
   ·exact HC.out.less J.out.but (fun x hx=>HM'.out x (MT hx))
   rintro e w1 ⟨rfl,S,hS,h1⟩;have HS:=qD hS;have H1:=qD (J.out.then h1);clear hS h1;go_wp2_with fail;go_roundw
   case rel=>
    refine⟨k+1,b,b+20,A0++R.take 20,A++S,R.drop 20,rfl,by go_num,rfl,by have:=HB.out;have:=HK.out;omega,hlt,⟨by rw[LN,<-HR.out];exact HD.out.e,?_,?_,?_⟩,H1.out⟩
    ·rw[KV,HD.out.l0,HL1.out];omega
    ·rw[KV,HD.out.l,HS.out.1.length_eq,HL1.out];omega
    ·exact sE HD.out.l0 HD.out.l HD.out.s HL1.out HS.out
   case measure=>simp[intOf];omega
  ·have hRl2:R.length<=20:=by have:=HRl.out;omega
   have HM:∀x∈R,x∈L0:=fun x hx=>by rw[HD.out.e];simp[hx]
   have HM':=qD HM;clear hb HM;go_wp2_with fail;refine(oJ HO.out A R [] g n c a n _ (by rw[LQ];exact J.out.row) (by rw[LQ,KV,HD.out.l,HRl.out,<-HK.out];omega) (by rw[HD.out.l];exact HK.out) (by rw[HD.out.l,HRl.out,<-HK.out];omega) HZ.out ?_ ?_).mono ?_
   ·have:=HT.out;rw[HD.out.e] at this;exact(Ky.1 this).2.1
   ·exact HC.out.less J.out.but HM'.out
   rintro e w1 ⟨rfl,S,hS,h1⟩;have J1:Hid (dK g w (A++S) w1):=by have:=J.out.then h1;rw[LQ] at this;exact this
   have HR1:Hid (∀q,ah (fun p q:PS=>aZ (ai p).1 (ai q).1) (blk 20 q L0) (blk 20 q (A++S))):=by rw[Hid,HD.out.e];exact nV HD.out.l0 HD.out.l HD.out.s hRl2 hS
   have HLl:Hid ((A++S).length=L0.length):=by rw[Hid,HD.out.e,KV,KV,HD.out.l,HD.out.l0,hS.1.length_eq]
   clear hS h1;go_wp2_with fail
   go_loopw [6] (fun v6 wr=>∃(bs:Nat) (L:List (PS×Nat)),v6=.int .i64 bs/\20<=bs/\bs<=2*n+20/\L.length=L0.length/\(∀q,ah (fun p q:PS=>aZ (ai p).1 (ai q).1) (blk bs q L0) (blk bs q L))/\dK g w L wr) (fun v6 _=>n-(intOf v6).toNat)
   ·exact⟨20,A++S,rfl,qL,by omega,HLl.out,HR1.out,J1.out⟩
   case round=>
    clear HB HK HD J HRl HM' J1 HR1 HLl;obtain⟨bs,L,rfl,hb1,hb2,hl,hR,I⟩:=hrel;have HL:=qD hl;have HRu:=qD hR;have J:=qD I;clear hl hR I;by_cases hlt2:bs<n
    ·go_wp2_with fail
     go_loopw [7,8] (fun v7 v8 wr=>∃(k a b:Nat) (A0 A R0 R:List (PS×Nat)),v7=.int .i64 a/\v8=.int .i64 b/\b=a+2*bs/\a<=n/\A.length=a/\jd bs L0 k A0 A R0 R/\dK g w (A++R) wr) (fun _ v8 _=>n+1-(intOf v8).toNat)
     ·exact⟨0,0,2*bs,[],[],L0,L,rfl,by go_num,by omega,KD _,rfl,⟨rfl,by simp,by simp,HL.out,fun q hq=>absurd hq (by omega),HRu.out⟩,J.out⟩
     case round=>
      clear HL HRu J;obtain⟨k,a,b,A0,A,R0,R,rfl,rfl,hb,han,hA,hM,I⟩:=hrel;have HB:=qD hb;have HA:=qD hA;have HM:=qD hM;have J:=qD I;have hRl:R.length=n-a:=by have h1:=HN.out;rw[hM.e] at h1;have h2:=hM.l0;have h3:=hM.l;simp at h1;rw[hM.rl];omega
      have HRl:=qD hRl;clear hM I hA;by_cases hlt3:b<=n
      ·obtain⟨X0,Y0,D0,X,Y,D,hp⟩:∃X0 Y0 D0 X Y D,mA bs R0 R X0 Y0 D0 X Y D:=⟨_,_,_,_,_,_,sF bs R0 R HM.out.rl (by omega)⟩
       have hy:Y.length=bs:=by
        have h1:=HRl.out;rw[hp.e,KV,KV,hp.x] at h1;rcases hp.y with q|⟨q,rfl⟩
        ·exact q
        ·simp at h1;omega
       have hy0:Y0.length=bs:=by
        have h1:=HRl.out;rw[HM.out.rl,hp.e0,KV,KV,hp.x0] at h1;rcases hp.y0 with q|⟨q,rfl⟩
        ·exact q
        ·simp at h1;omega
       have HPa:=qD hp;have HY:=qD hy;have HY0:=qD hy0;have hbn:a+2*bs<=n:=by omega
       clear hp hy hy0 hb hRl;go_wp2_with fail;refine(sD HO.out _ A X Y D g n c a (a+bs) b _ _ _ _ (HM.out.JN HPa.out HT.out HC.out J.out HN.out HZ.out) HA.out.symm (by rw[HPa.out.x]) (by rw[HY.out];have:=HB.out;omega) (by rw[HPa.out.x];omega) (by rw[HY.out];omega) (Km _) rfl (by omega) rfl).mono ?_;rintro e w2 ⟨rfl,S,hS,h1⟩;have HS:=qD hS;have H1:=qD (J.out.then h1);clear hS h1;go_wp2_with fail;go_roundw
       case rel=>
        exact⟨k+1,b,b+2*bs,_,A++S,_,D,rfl,by go_num,rfl,hlt3,by rw[KV,HS.out.1.length_eq,KV,HA.out,HPa.out.x,HY.out];have:=HB.out;omega,HM.out.next HPa.out HS.out HY.out HY0.out,H1.out⟩
       case measure=>simp[intOf];omega
      ·have hab:n<a+2*bs:=by omega
       clear hb hRl;by_cases hm:a+bs<n
       ·obtain⟨X0,Y0,X,Y,hp⟩:∃X0 Y0 X Y,mA bs R0 R X0 Y0 [] X Y []:=by
         have q:=sF bs R0 R HM.out.rl (by have:=HRl.out;omega);rw[show(R0.drop bs).drop bs=[] from KN (by have:=HRl.out;have:=HM.out.rl;simp;omega),show(R.drop bs).drop bs=[] from KN (by have:=HRl.out;simp;omega)] at q;exact⟨_,_,_,_,q⟩
        have hy:Y.length=n-a-bs:=by have h1:=HRl.out;rw[hp.e] at h1;have:=hp.x;simp at h1;omega
        have HPa:=qD hp;have HY:=qD hy;clear hp hy;go_wp2_with fail;refine(sD HO.out _ A X Y [] g n c a (a+bs) n _ _ _ _ (HM.out.JN HPa.out HT.out HC.out J.out HN.out HZ.out) HA.out.symm (by rw[HPa.out.x]) (by rw[HY.out];omega) (by rw[HPa.out.x];omega) (by rw[HY.out];omega) (Km _) rfl (by omega) rfl).mono ?_;rintro e w2 ⟨rfl,S,hS,h1⟩;have HS:=qD hS;have H1:Hid (dK g w (A++S) w2):=by have:=J.out.then h1;rw[LQ] at this;exact this
        clear hS h1;go_wp2_with fail;go_roundw
        case rel=>
         exact⟨2*bs,A++S,by go_num,by omega,by omega,by rw[KV,HS.out.1.length_eq,KV,HA.out,HPa.out.x,HY.out,<-HN.out];omega,HM.out.last HPa.out HS.out,H1.out⟩
        case measure=>simp[intOf];omega
       ·go_wp2_with fail;go_roundw
        case rel=>
         exact⟨2*bs,A++R,by go_num,by omega,by omega,by rw[KV,HA.out,HRl.out,<-HN.out];omega,HM.out.lone (by have:=HRl.out;omega),J.out⟩
        case measure=>simp[intOf];omega
    ·have HE:Hid (ah (fun p q:PS=>aZ (ai p).1 (ai q).1) L0 L):=vY (by rw[<-HN.out];omega) (by rw[HL.out,<-HN.out];omega) HRu.out;go_wp2_with fail
     go_end0
     exact⟨rfl,L,HE.out,by have:=J.out;simpa using this⟩
def IF(is:List PI)(w:World)(e:Ending)(w':World):Prop:=
 ∃(A:Option Addr) (m c:Nat) (xs:List PS),e=.returned (.slice A m c)/\xs.map ai=aU (is.map cB)/\(∀x∈xs,∃p∈is,x=gV p)/\m<=is.length/\SS w' A m c xs/\Below w.heap.size w w'
end
structure DO(w:World)(is:List PI)(i:Nat)(v:Value)(xs:List PS)(wr:World):Prop where
 own:wr.ownsRow w.heap.size 167 12 v xs.length (aO cr xs)
 eq:xs.map ai=aU ((is.take i).map cB)
 le:xs.length<=i
 ok:∀x∈xs,rz w x
 pr:∀x∈xs,∃p∈is,x=gV p
 bel:Below w.heap.size w wr
section
variable {xs:List ByteArray} {i m size:Nat} {w w' wr:World} {v v':Value}
theorem DO.step{w:World}{is:List PI}{i:Nat}{v:Value}{xs:List PS}{wr w':World}(h:DO w is i v xs wr)(hb:Below wr.heap.size wr w'):DO w is i v xs w':=⟨bJ h.own hb,h.eq,h.le,h.ok,h.pr,h.bel.Ih hb⟩
theorem DO.skip{w:World}{is:List PI}{i:Nat}{v:Value}{xs:List PS}{wr:World}{p:PI}(h:DO w is i v xs wr)(hp:is[i]?=some p)(hn:(cB p).ne=false):DO w is (i+1) v xs wr:=by
 refine⟨h.own,?_,by have:=h.le;omega,h.ok,h.pr,h.bel⟩;rw[take_snoc' hp,Ke,Lb,gG,hn];exact h.eq
theorem DO.next{w:World}{is:List PI}{i m:Nat}{v v':Value}{xs:List PS}{wr w':World}{p:PI}(h:DO w is i v xs wr)(hp:is[i]?=some p)(hn:(cB p).ne=true)(hok:qe w p)(hg:wr.grownBy w' v.ownBlock)(hm:m=xs.length+1)(ho:w'.ownsRow w.heap.size 167 12 v' m (aO cr xs++cr (gV p))):DO w is (i+1) v' (xs++[gV p]) w':=by
 subst hm;refine⟨?_,?_,by have:=h.le;simp;omega,fun x hx=>?_,fun x hx=>?_,h.bel.grown hg h.bel.size (bF h.own)⟩
 ·rw[cw,KV];exact ho
 ·have e:aU ((is.take (i+1)).map cB)=aU ((is.take i).map cB)++[(cB p).sp]:=by
   rw[take_snoc' hp,Ke,Lb,gG,hn];rfl
  rw[e,Ke,h.eq];rfl
 ·rcases KI.1 hx with hx|hx
  ·exact h.ok x hx
  ·simp at hx;subst hx;exact hok.span
 ·rcases KI.1 hx with hx|hx
  ·exact h.pr x hx
  ·simp at hx;subst hx;exact⟨p,Jx hp,rfl⟩
theorem sG{p:PI}(h:aL p.1.1.2=false):(cB p).ne=false:=by show(aL p.1.1.2&&_&&_)=false;rw[h];rfl
theorem sH{p:PI}(h:aL p.1.2.2=false):(cB p).ne=false:=by show(aL p.1.1.2&&aL p.1.2.2&&_)=false;rw[h,OF];rfl
theorem Al{p:PI}(h:¬aZ (cB p).sp.1 (cB p).sp.2<0):(cB p).ne=false:=by unfold Iv.ne;rw[KQ h,OF]
theorem Ef{p:PI}(h1:aL p.1.1.2=true)(h2:aL p.1.2.2=true)(h:aZ (cB p).sp.1 (cB p).sp.2<0):(cB p).ne=true:=by
 show(aL p.1.1.2&&aL p.1.2.2&&_)=true;rw[h1,h2,Jy h];rfl
end
structure Hc(w:World)(is:List PI)(i:Nat)(v:Value)(xs:List PS)(g:Nat)(p:PI)(wr:World):Prop where
 i:DO w is i v xs wr
 b5:aG wr g 85 (aa p)
 b6:aG wr (g+1) 167 (fp (gV p))
section
variable {xs ys:List ByteArray} {c i g n q cap base size S:Nat} {a x:Int} {w w' wr:World} {A:Option Addr} {e:TypeId} {v:Value}
theorem Hc.step{w:World}{is:List PI}{i:Nat}{v:Value}{xs:List PS}{g:Nat}{p:PI}{wr w':World}(h:Hc w is i v xs g p wr)(hb:Below wr.heap.size wr w'):Hc w is i v xs g p w':=⟨h.i.step hb,h.b5.step hb,h.b6.step hb⟩
theorem nW(is:List PI)(A:Option Addr)(n c:Nat)(w:World)(hT:cY w)(h:SI w A n c is)(hn:n<=1000000000):
 Calls prog 136 #[.slice A n c] w (IF is w):=by
 obtain⟨j0,hj0,hy0,hy1,hy2⟩:=LM jB;have HT:=qD hT;have H:=qD h;have HL:=qD h.sr.ln;clear hT h;go_enter func136,ntmps136;go_wp2_with fail
 go_loopw [3,9] (fun v3 v9 wr=>∃(i:Nat) (xs:List PS),i<=n/\v9=.int .i64 i/\DO w is i v3 xs wr) (fun _ v9 _=>n-(intOf v9).toNat)
 ·exact⟨0,[],KD _,rfl,⟨bX _ _ _ _,rfl,qL,by simp,by simp,Ju _ _⟩⟩
 case round=>
  obtain⟨i,xs,hi,rfl,I⟩:=hrel;have J:=qD I;by_cases hlt:i<n
  ·obtain⟨p,hp⟩:∃p,is[i]?=some p:=⟨_,Jv (by have:=HL.out;omega)⟩;obtain⟨b,off,rfl,hbl,hat,hok⟩:=H.out.at hp;have HP:=qD hp;have HOk:=qD hok;have hbr:b<wr.heap.size:=by have:=I.bel.size;omega
   have hle:=I.le;obtain⟨⟨p0,p1,p2,p3,p4⟩,⟨q0,q1,q2,q3,q4⟩,r0,r1⟩:=hat.keep (I.bel.block b hbl);clear hp hok hat I hbl;go_upto_region 6 with fail
   have KB:Hc w is i u3 xs wr.heap.size p ((wr.alloc (.cells (aa p) 85)).alloc (.cells (fp (gV p)) 167)):=
    ⟨(J.out.step ((Ju wr.heap.size wr).alloc (qL) _)).step ((Ju _ _).alloc (qL) _),(aG.Ii rfl).alloc _,aG.Ii (by simp)⟩
   change (Code.region 6 _ _).wp _ _ _ ((wr.alloc (.cells (aa p) 85)).alloc (.cells (fp (gV p)) 167));generalize (wr.alloc (.cells (aa p) 85)).alloc (.cells (fp (gV p)) 167)=wa at*;generalize wr.heap.size=ga at*;have LB:=qD KB;clear p0 p1 p2 p3 p4 q0 q1 q2 q3 q4 r0 r1 J KB hbr;obtain⟨⟨p0,p1,p2,p3,p4⟩,⟨q0,q1,q2,q3,q4⟩,r0,r1⟩:=jb.Ig LB.out.b5;go_wp2_with fail;refine(iy p.1.1.2 p.1.1.1 _ (HT.out.step LB.out.i.bel) (HOk.out.step LB.out.i.bel).1).mono ?_;rintro e w1 ⟨rfl,hb1⟩;have L1:=qD (LB.out.step hb1);clear hb1 p0 p1 p2 p3 p4 q0 q1 q2 q3 q4 r0 r1 LB;cases h1:aL p.1.1.2
   ·have HI:=qD (L1.out.i.skip HP.out (sG h1));clear h1;go_wp2_with fail;go_roundw
    ·exact⟨i+1,xs,by omega,by go_num,HI.out⟩
    ·simp[intOf];omega
   have V1:=qD h1;clear h1;obtain⟨⟨p0,p1,p2,p3,p4⟩,⟨q0,q1,q2,q3,q4⟩,r0,r1⟩:=jb.Ig L1.out.b5;go_wp2_with fail;refine(iy p.1.2.2 p.1.2.1 _ (HT.out.step L1.out.i.bel) (HOk.out.step L1.out.i.bel).2).mono ?_;rintro e w2 ⟨rfl,hb2⟩;have L2:=qD (L1.out.step hb2);clear hb2 p0 p1 p2 p3 p4 q0 q1 q2 q3 q4 r0 r1 L1;cases h2:aL p.1.2.2
   ·have HI:=qD (L2.out.i.skip HP.out (sH h2));clear h2;go_wp2_with fail;go_roundw
    ·exact⟨i+1,xs,by omega,by go_num,HI.out⟩
    ·simp[intOf];omega
   have V2:=qD h2;clear h2;obtain⟨⟨⟨p0,p1,p2,p3,p4⟩,p5⟩,⟨⟨q0,q1,q2,q3,q4⟩,q5⟩⟩:=qG.Ig L2.out.b6;go_wp2_with fail;refine(dr (gV p).1 (gV p).2 _ (HOk.out.step L2.out.i.bel).1 (HOk.out.step L2.out.i.bel).2).mono ?_;rintro e w3 ⟨rfl,hb3⟩;have L3:=qD (L2.out.step hb3);clear hb3 p0 p1 p2 p3 p4 p5 q0 q1 q2 q3 q4 q5 L2;by_cases h3:aZ (cP (gV p).1) (cP (gV p).2)<0
   ·have HN:=qD (Ef V1.out V2.out h3);obtain⟨⟨⟨p0,p1,p2,p3,p4⟩,p5⟩,⟨⟨q0,q1,q2,q3,q4⟩,q5⟩⟩:=qG.Ig L3.out.b6;have hlo:w.heap.size<=w3.heap.size:=L3.out.i.bel.size;have LK:=qD (L3.out.i.step ((Ju w3.heap.size w3).alloc (qL) (Obj.cells (fp (gV p)) 167)));go_wp2_with (at_builtin;refine aJ _ rfl _ _ 163 rfl w.heap.size 167 j0 (tQ (((VC.zero,aC.zero),false),((VC.zero,aC.zero),false))) 12 176 Lx hj0 hy0 hy1 hy2 rfl (by decide) u3 xs.length (aO cr xs) rfl LK.out.own _ _ 1 _ (cr (gV p)) rfl ⟨rfl,fun _=>⟨_,rfl,Km _,ao _ _ _⟩⟩ (jA _) (by unfold maxLen;omega) (by omega) ?c5 ?_)
    case c5=>first|omega|(simp;omega)
    intro v' w4 hown hg _;have HI:=qD (LK.out.next HP.out HN.out HOk.out hg rfl hown);clear hown hg p0 p1 p2 p3 p4 p5 q0 q1 q2 q3 q4 q5 h3;go_wp2_with fail;go_roundw
    ·exact⟨i+1,xs++[gV p],by omega,by go_num,HI.out⟩
    ·simp[intOf];omega
   ·have HI:=qD (L3.out.i.skip HP.out (Al h3));go_wp2_with fail;go_roundw
    ·exact⟨i+1,xs,by omega,by go_num,HI.out⟩
    ·simp[intOf];omega
  ·clear I;go_wp2_with fail;go_ret;obtain⟨A',c',e,hs⟩:=SS.Ik J.out.own rfl (by have:=J.out.le;unfold aH;omega) (fun x hx=>(J.out.ok x hx).step J.out.bel);exact⟨A',_,c',xs,by rw[<-e];rfl,by rw[J.out.eq,KL (by have:=HL.out;omega)],J.out.pr,by have:=J.out.le;have:=HL.out;omega,hs,J.out.bel⟩
theorem Gy:db (fun p q:PS=>aZ (ai p).1 (ai q).1):=⟨fun _ _=>ee.anti _ _,fun _ _ _=>ee.tr _ _ _⟩
theorem vZ(xs:List PS)(A:Option Addr)(n c:Nat)(w:World)(h:SS w A n c xs)(hn:n<=1000000000):
 Calls prog 188 #[.slice A n c] w fun e w'=>∃v,e=.returned v/\w'.ownsRow w.heap.size 167 12 v n (aO cr xs)/\Below w.heap.size w w':=by
 obtain⟨j0,hj0,hy0,hy1,hy2⟩:=LM jB;have HL:=qD h.sr.ln;cases A with
 | none=>
  have h0:n=0:=by
   rcases LH n with h0|h0
   ·exact h0
   ·obtain⟨b,off,e,_⟩:=h.sr.el h0;cases e
  subst h0;have HX:Hid (xs=[]):=KN HL.out.symm;clear h;have kn:=fun(w:World)=>MO (P:=prog) w 163 167 none 0 c 0 0 Lx;go_enter func188,ntmps188;go_wp2_with fail;go_ret;exact⟨_,rfl,by rw[HX.out];exact bX _ _ _ _,Ju _ _⟩
 | some ad=>
  have hR:eE w w.heap.size 12 (some ad) n (aO cr xs):=by
   refine⟨by rw[cA dU,HL.out],fun hp=>?_⟩;obtain⟨b,off,e,hb,hel⟩:=h.sr.el hp;cases e;refine⟨_,rfl,hb,fun j u hu=>?_⟩;have hj:=(KF.1 hu).1;rw[cA dU] at hj;obtain⟨a,v,g1,g2,g3⟩:=flat_at' dU (by omega) xs j hj;have:=hel (j/12) a g1 (j%12) v g2;rw[dM];rw[g3] at hu;cases hu;rw[show off+j=off+j/12*12+j%12 by omega];exact this
  have HR:=qD hR
  have hO:(w.alloc (.cells #[] 167)).ownsRow w.heap.size 167 12 (.slice (some ⟨w.heap.size,0,none⟩) 0 0) 0 []:=
   ⟨rfl,.inr ⟨w.heap.size,0,#[],rfl,qL,aG.Ii rfl,qL,KD _,rfl,rfl⟩⟩
  have HO:=qD hO
  have h1:∀u∈aO cr xs,u.oneCell'=true:=by
   intro u hu;obtain⟨p,_,hp⟩:=Lj.1 hu;exact jA p u hp
  have H1:=qD h1;clear h hR hO h1;have kn:=fun(w:World)=>MO (P:=prog) w 163 167 (some ad) n c 0 0 Lx;go_enter func188,ntmps188;go_wp2_with (at_builtin;refine aJ _ rfl _ _ 163 rfl w.heap.size 167 j0 (tQ (((VC.zero,aC.zero),false),((VC.zero,aC.zero),false))) 12 176 Lx hj0 hy0 hy1 hy2 rfl (by decide) (.slice (some ⟨w.heap.size,0,none⟩) 0 0) 0 [] rfl HO.out w.heap.size (some ad) n c (aO cr xs) rfl (HR.out.alloc (qL) _) H1.out (by unfold maxLen;omega) (by omega) (by simp) ?_);intro v' w2 hown hg _;go_wp2_with fail;go_ret;refine⟨v',rfl,by simpa using hown,?_⟩;exact((Ju w.heap.size w).alloc (qL) _).grown hg (by simp) (fun k hk=>by simp[Value.ownBlock] at hk;omega)
theorem vc(w:World):Calls prog 292 #[.slice none 0 0,.int .i64 0,.int .i64 0,.func (.func 190) #[] #[]] w fun e w'=>e=.returned (.tuple #[])/\w=w':=by
 go_enter func292,ntmps292;go_wp2_with fail
 go_loopw [8] (fun v8 wr=>v8=.int .i64 1/\wr=w) (fun _ _=>0)
 ·exact⟨rfl,rfl⟩
 case round=>
  obtain⟨rfl,rfl⟩:=hrel;go_wp2_with fail
  go_end0
  exact⟨rfl,rfl⟩
theorem tW(w:World):Calls prog 243 #[.slice none 0 0,.int .i64 0,.func (.func 190) #[] #[]] w fun e w'=>e=.returned (.tuple #[])/\w=w':=by
 go_enter func243,ntmps243;go_wp2_with fail
 go_loop [7,8] (fun v7 v8=>v7=.int .i64 0/\v8=.int .i64 20) (fun _ _=>0)
 case atStart=>exact⟨rfl,rfl⟩
 case round=>
  obtain⟨rfl,rfl⟩:=hrel;go_wp2_with fail;refine(vc _).mono ?_;rintro e w1 ⟨rfl,rfl⟩;go_wp2_with fail
  go_loop [6] (fun v6=>v6=.int .i64 20) (fun _=>0)
  case atStart=>rfl
  case round=>
   subst hrel;go_wp2_with fail
   go_end0
   exact⟨rfl,rfl⟩
theorem yK(w:World):Calls prog 189 #[.slice none 0 0,.func (.func 190) #[] #[]] w fun e w'=>e=.returned (.tuple #[])/\w=w':=by
 go_enter func189,ntmps189;go_wp2_with fail;refine(tW _).mono ?_;rintro e w1 ⟨rfl,rfl⟩;go_wp2_with fail
 go_end0
 exact⟨rfl,rfl⟩
theorem yL(L:List (PS×Nat))(g n c:Nat)(w:World)(hr:bT w g L)(hn:n=L.length)(hz:n*176<=aH)(ht:kg L)(hc:iR g w L):
 Calls prog 189 #[.slice (some ⟨g,0,none⟩) n c,.func (.func 190) #[] #[]] w (pz g w [] L []):=by
 have HR:=qD hr;have HN:=qD hn;have HT:=qD ht;have HC:=qD hc;have HZ:=qD hz;clear hr hn ht hc hz;go_enter func189,ntmps189;go_wp2_with fail;refine(tV Gy L g n c _ HR.out HN.out HZ.out HT.out HC.out).mono ?_;rintro e w1 hd;have HD:=qD hd;obtain⟨rfl,_⟩:=hd;go_wp2_with fail
 go_end0
 exact HD.out
def iF(xs ys:List PS):Prop:=ys.Perm xs/\ys.Pairwise fun p q=>aZ (ai p).1 (ai q).1<=0
theorem iF.of{xs:List PS}{S:List (PS×Nat)}(h:ah (fun p q:PS=>aZ (ai p).1 (ai q).1) (cq 0 xs) S):iF xs (S.map Prod.fst):=by
 refine⟨?_,?_⟩
 ·have:=h.perm.map Prod.fst
  rwa [oI] at this
 ·rw[List.pairwise_map];refine h.ord.imp fun {a b} hab=>?_;have hab':aZ (ai a.1).1 (ai b.1).1<0\/aZ (ai a.1).1 (ai b.1).1=0/\a.2<b.2:=hab;omega
theorem iF.merge{xs ys:List PS}(h:iF xs ys)(hne:∀x∈xs,aZ (ai x).1 (ai x).2<0/\je (ai x).1/\je (ai x).2):
 gd (fun a=>ch aZ a (xs.map ai)) (fj aZ (ys.map ai))/\(fj aZ (ys.map ai)).length<=xs.length:=by
 have h1:∀s∈ys.map ai,aZ s.1 s.2<0/\je s.1/\je s.2:=by
  intro s hs;obtain⟨x,hx,rfl⟩:=LL.1 hs;exact hne x (h.1.subset hx)
 have h2:(ys.map ai).Pairwise fun s t=>aZ s.1 t.1<=0:=by rw[List.pairwise_map];exact h.2
 have hm:=AJ ee h1 h2;refine⟨⟨hm.nf,fun a=>by rw[hm.mem];exact CW (h.1.map ai)⟩,?_⟩;have:=xP (cm:=aZ) (ys.map ai);have hl:=h.1.length_eq;simp only[KX] at this;omega
theorem bT.Ik{w:World}{base g n cap:Nat}{xs:List PS}(h:w.ownsRow base 167 12 (.slice (some ⟨g,0,none⟩) n cap) n (aO cr xs)):bT w g (cq 0 xs):=by
 rcases h.2 with⟨h',_⟩|⟨g',cap',cur,h',_,hg,_,_,_,htake⟩
 ·simp at h'
 ·simp only[Value.slice.injEq,LS,Addr.mk.injEq,NS,true_and] at h';obtain⟨rfl,rfl⟩:=h'
  have e:aO fq (cq 0 xs)=aO cr xs:=by
   have:∀k,aO fq (cq k xs)=aO cr xs:=by
    intro k;clear hg htake h
    induction xs generalizing k with
    | nil=>rfl
    | cons x r ih=>
     have e1:aO fq (cq k (x::r))=cr x++aO fq (cq (k+1) r):=rfl;rw[e1,ih];rfl
   exact this 0
  refine⟨cur.toList.drop (n*12),?_⟩;show w.heap[g]?=_;rw[hg,e,<-htake,LC]
theorem bT.reads{w:World}{g n cap:Nat}{L:List (PS×Nat)}(h:bT w g L)(hn:n=L.length)(hc:n<=cap):SR 12 cr w (some ⟨g,0,none⟩) n cap (L.map Prod.fst):=by
 refine⟨by rw[KX,hn],hc,fun _=>⟨g,0,rfl,h.lt,fun i a hi j v hj=>?_⟩⟩;rw[KP] at hi;obtain⟨p,hp,rfl⟩:=LR.1 hi;rw[Jw];exact h.cell hp j v hj
end
structure vf(w w2:World)(S:List PS)(i:Nat)(v:Value)(cs:List PS)(wr:World):Prop where
 own:wr.ownsRow w2.heap.size 167 12 v cs.length (aO cr cs)
 eq:cs.map ai=fj aZ ((S.take i).map ai)
 le:cs.length<=i
 ok:∀x∈cs,rz w x
 pr:∀x∈cs,(∃y∈S,x.1=y.1)/\∃y∈S,x.2=y.2
 bel:Below w2.heap.size w2 wr
section
variable {l xs:List ByteArray} {b c i g n off B m q cap base size S:Nat} {a d:Int} {s:ByteArray} {w w' wr w2:World} {t:TypeId} {cs:Array Value} {v v':Value}
section
variable {w w2:World} {S:List PS} {i:Nat} {v:Value} {cs:List PS} {wr w':World}
theorem vf.step(h:vf w w2 S i v cs wr)(hb:Below wr.heap.size wr w'):vf w w2 S i v cs w':=⟨bJ h.own hb,h.eq,h.le,h.ok,h.pr,h.bel.Ih hb⟩
theorem sI{α:Type}{cm:α->α->Int}{c:List (α×α)}{s:α×α}(h:c=[]\/∃d l,c=d++[l]/\cm l.2 s.1<0):eT cm c s=c++[s]:=by
 rcases h with rfl|⟨d,l,rfl,h⟩
 ·rfl
 ·unfold eT;have e0:(d++[l]).getLast?=some l:=by simp
  rw[e0];simp only;rw[Kb h]
theorem DP{α:Type}{cm:α->α->Int}{d:List (α×α)}{l s:α×α}(h1:¬cm l.2 s.1<0)(h2:cm l.2 s.2<0):eT cm (d++[l]) s=d++[(l.1,s.2)]:=by
 unfold eT;have e0:(d++[l]).getLast?=some l:=by simp
 rw[e0];simp only;rw[KU h1,Kb h2,List.dropLast_concat]
theorem DQ{α:Type}{cm:α->α->Int}{d:List (α×α)}{l s:α×α}(h1:¬cm l.2 s.1<0)(h2:¬cm l.2 s.2<0):eT cm (d++[l]) s=d++[l]:=by
 unfold eT;have e0:(d++[l]).getLast?=some l:=by simp
 rw[e0];simp only;rw[KU h1,KU h2]
theorem vf.same(h:vf w w2 S i v cs wr){p:PS}(hp:S[i]?=some p)(hs:eT aZ (cs.map ai) (ai p)=cs.map ai):vf w w2 S (i+1) v cs wr:=by
 refine⟨h.own,?_,by have:=h.le;omega,h.ok,h.pr,h.bel⟩;rw[take_snoc' hp,Ke,Lb,iI,<-h.eq,hs]
theorem vf.add(h:vf w w2 S i v cs wr){p:PS}(hp:S[i]?=some p)(hs:eT aZ (cs.map ai) (ai p)=cs.map ai++[ai p])(hok:rz w p){v':Value}{m:Nat}(hg:wr.grownBy w' v.ownBlock)(hm:m=cs.length+1)(ho:w'.ownsRow w2.heap.size 167 12 v' m (aO cr cs++cr p)):vf w w2 S (i+1) v' (cs++[p]) w':=by
 subst hm;refine⟨?_,?_,by have:=h.le;simp;omega,fun x hx=>?_,fun x hx=>?_,h.bel.grown hg h.bel.size (bF h.own)⟩
 ·rw[cw,KV];exact ho
 ·rw[take_snoc' hp,Ke (l₁:=S.take i),Lb,iI,<-h.eq,hs,Ke];rfl
 ·rcases KI.1 hx with hx|hx
  ·exact h.ok x hx
  ·simp at hx;subst hx;exact hok
 ·rcases KI.1 hx with hx|hx
  ·exact h.pr x hx
  ·simp at hx;subst hx;exact⟨⟨x,Jx hp,rfl⟩,x,Jx hp,rfl⟩
end
abbrev qA(w:World)(g off:Nat)(q:PC):World:=(bH w g off q.1.1).setCell ⟨g,off+5,none⟩ (.bool q.2)
theorem DS{w:World}{base g n cap:Nat}{t:TypeId}{xs:List Value}(h:w.ownsRow base t 12 (.slice (some ⟨g,0,none⟩) n cap) n xs)(off:Nat)(q:PC):
 (qA w g off q).ownsRow base t 12 (.slice (some ⟨g,0,none⟩) n cap) n (dZ xs off (ki q)):=by
 have h1:=(h.stored off (.int .i64 q.1.1.k)).1;have h2:=(h1.stored (off+1) (.int .i64 q.1.1.n)).1;have h3:=(h2.stored (off+2) (.string q.1.1.t)).1;have h4:=(h3.stored (off+3) (.slice q.1.1.LA q.1.1.ln q.1.1.lc)).1;have h5:=(h4.stored (off+4) (.slice q.1.1.DA q.1.1.dn q.1.1.dc)).1;exact(h5.stored (off+5) (.bool q.2)).1
theorem Eg(d:List PS)(l:PS)(q:PC):dZ (aO cr (d++[l])) (d.length*12+6) (ki q)=aO cr (d++[(l.1,q)]):=by
 have e1:aO cr (d++[l])=(aO cr d++ki l.1)++ki l.2:=by rw[cw];simp[cr]
 have hl:(aO cr d++ki l.1).length=d.length*12+6:=by rw[KV,cA dU,bp]
 rw[lW _ _ _ (by rw[e1,KV,hl,bp,bp];omega),e1,<-hl,List.take_left,bp,Kk (by rw[KV,bp];omega),LQ,cw];simp[cr]
theorem qB{B:Nat}{a w:World}(h:Below B a w){b:Nat}(hB:B<=b)(off:Nat)(q:PC):Below B a (qA w b off q):=(af h hB off q.1.1).setCell hB _
theorem vf.put{w w2:World}{S:List PS}{i g n cap:Nat}{d:List PS}{l p:PS}{wr:World}(h:vf w w2 S i (.slice (some ⟨g,0,none⟩) n cap) (d++[l]) wr)(hp:S[i]?=some p)(hs:eT aZ ((d++[l]).map ai) (ai p)=(d++[(l.1,p.2)]).map ai)(hok:rz w p)(hn:n=d.length+1):vf w w2 S (i+1) (.slice (some ⟨g,0,none⟩) n cap) (d++[(l.1,p.2)]) (qA wr g (d.length*12+6) p.2):=by
 have ho:=h.own;have hl:(d++[l]).length=n:=by rw[hn];simp
 rw[hl] at ho;refine⟨?_,?_,by have:=h.le;simp at this ⊢;omega,fun x hx=>?_,fun x hx=>?_,qB h.bel (bF h.own g rfl) _ _⟩
 ·rw[<-Eg d l p.2,show(d++[(l.1,p.2)]).length=n by rw[hn];simp];exact DS ho _ _
 ·rw[take_snoc' hp,Ke (l₁:=S.take i),Lb,iI,<-h.eq,hs]
 ·rcases KI.1 hx with hx|hx
  ·exact h.ok x (by simp[hx])
  ·simp at hx;subst hx;exact⟨(h.ok l (by simp)).1,hok.2⟩
 ·rcases KI.1 hx with hx|hx
  ·exact h.pr x (by simp[hx])
  ·simp at hx;subst hx;exact⟨(h.pr l (by simp)).1,p,Jx hp,rfl⟩
end
structure Hd(w w2:World)(S:List PS)(i:Nat)(v:Value)(cs:List PS)(g:Nat)(p:PS)(wr:World):Prop where
 i:vf w w2 S i v cs wr
 b5:aG wr g 167 (fp p)
section
variable {xs:List ByteArray} {c i g n size S:Nat} {w w' wr w2:World} {A:Option Addr} {cs:Array Value} {v:Value}
theorem Hd.step{w w2:World}{S:List PS}{i:Nat}{v:Value}{cs:List PS}{g:Nat}{p:PS}{wr w':World}(h:Hd w w2 S i v cs g p wr)(hb:Below wr.heap.size wr w'):Hd w w2 S i v cs g p w':=⟨h.i.step hb,h.b5.step hb⟩
def IG(xs:List PS)(w:World)(e:Ending)(w':World):Prop:=
 ∃(A:Option Addr) (m c:Nat) (ys:List PS),e=.returned (.slice A m c)/\(∃S,iF xs S/\ys.map ai=fj aZ (S.map ai))/\(∀y∈ys,(∃x∈xs,y.1=x.1)/\∃x∈xs,y.2=x.2)/\(∀b off,A=some ⟨b,off,none⟩->w.heap.size<=b)/\SS w' A m c ys/\m<=xs.length/\Below w.heap.size w w'
theorem jY(xs:List PS)(A:Option Addr)(n c:Nat)(w:World)(h:SS w A n c xs)(hn:n<=1000000000):
 Calls prog 135 #[.slice A n c] w (IG xs w):=by
 obtain⟨j0,hj0,hy0,hy1,hy2⟩:=LM jB;have H:=qD h;have HL:=qD h.sr.ln;clear h;go_enter func135,ntmps135;go_wp2_with fail;refine(vZ xs A n c _ H.out hn).mono ?_;rintro e w1 ⟨v1,rfl,hown,hb1⟩;have HB1:=qD hb1;obtain⟨A1,c1,rfl,hc1⟩:=cK hown;have HO:=qD hown;clear hown hb1
 have sorted:Hid (Calls prog 189 #[.slice A1 n c1,.func (.func 190) #[] #[]] w1 fun e w'=>e=.returned (.tuple #[])/\∃S,iF xs S/\SR 12 cr w' A1 n c1 S/\Below w.heap.size w w'):=by
  rcases HO.out.2 with⟨h',h0⟩|⟨g,cap,cur,h',hg,_⟩
  ·cases h';have hx:xs=[]:=KN (by have:=HL.out;omega);refine qD ((yK w1).mono ?_);rintro e w' ⟨rfl,rfl⟩;exact⟨rfl,[],by rw[hx];exact⟨.nil,.nil⟩,SR.nil,HB1.out⟩
  ·cases h';refine qD ((yL (cq 0 xs) g n c1 w1 (bT.Ik HO.out) (by rw[kh];exact HL.out) (by unfold aH;omega) (pv _ _) ?_).mono ?_)
   ·intro x y hx hy wr hbt
    have okx:∀z∈cq 0 xs,rz wr z.1:=by
     intro z hz
     have hz':z.1∈xs:=by
      have:=Ko (f:=Prod.fst) hz
      rwa [oI] at this
     exact(H.out.ok z.1 hz').step (HB1.out.trans (hbt.below HB1.out.size hg))
    exact DN x.1 y.1 wr (okx x hx) (okx y hy)
   ·rintro e w' ⟨rfl,S,hS,hI⟩;simp only[NV,LQ] at hI;have hl:n=S.length:=by rw[hS.perm.length_eq,kh];exact HL.out
    exact⟨rfl,S.map Prod.fst,iF.of hS,hI.row.reads hl hc1,HB1.out.trans (hI.but.below HB1.out.size hg)⟩
 go_wp2_with fail;refine sorted.out.mono ?_;rintro e w2 ⟨rfl,S,hS,hSR,hb2⟩;clear sorted HO HB1 hc1;have HS:=qD hS;have HSR:=qD hSR;have HB2:=qD hb2;have HSL:Hid (n=S.length):=hSR.ln;have hokS:∀x∈S,rz w x:=fun x hx=>H.out.ok x (hS.1.subset hx);have HOk:=qD hokS;clear hS hSR hb2 hokS;go_wp2_with fail
 go_loopw [3,13] (fun v3 v13 wr=>∃(i:Nat) (cs:List PS),i<=n/\v13=.int .i64 i/\vf w w2 S i v3 cs wr) (fun _ v13 _=>n-(intOf v13).toNat)
 ·exact⟨0,[],KD _,rfl,⟨bX _ _ _ _,rfl,qL,by simp,by simp,Ju _ _⟩⟩
 case round=>
  obtain⟨i,cs,hi,rfl,I⟩:=hrel;have J:=qD I;by_cases hlt:i<n
  ·obtain⟨p,hp⟩:∃p,S[i]?=some p:=⟨_,Jv (by have:=HSL.out;omega)⟩;obtain⟨b,off,rfl,hbl,hel⟩:=HSR.out.el (by omega);have hat:qG w2 b (off+i*12) p:=yG fun j v hj=>hel i p hp j v hj;have HP:=qD hp;have HPk:=qD (HOk.out p (Jx hp));have hbr:b<wr.heap.size:=by have:=I.bel.size;omega
   have hle:=I.le;obtain⟨⟨⟨p0,p1,p2,p3,p4⟩,p5⟩,⟨⟨q0,q1,q2,q3,q4⟩,q5⟩⟩:=hat.keep (I.bel.block b hbl);obtain⟨m,hm⟩:∃m,m=cs.length:=⟨_,rfl⟩;obtain⟨A3,c3,hv3,hc3⟩:=cK I.own;rw[<-hm] at hv3 hc3 hle;subst hv3;have HM:=qD hm;clear hp hat I hbl hel hm;go_upto_region 8 with fail
   have KB:Hd w w2 S i (.slice A3 m c3) cs wr.heap.size p (wr.alloc (.cells (fp p) 167)):=⟨J.out.step ((Ju wr.heap.size wr).alloc (qL) _),aG.Ii rfl⟩;change (Code.region 8 _ _).wp _ _ _ (wr.alloc (.cells (fp p) 167));generalize wr.alloc (.cells (fp p) 167)=wa at*;generalize wr.heap.size=ga at*;have LB:=qD KB;clear p0 p1 p2 p3 p4 p5 q0 q1 q2 q3 q4 q5 J KB hbr;rcases Mc cs with hcs|⟨d,l,hcs⟩
   ·have hm1:decide ((m:Int)-1<0)=true:=Jy (by have:=HM.out;rw[hcs] at this;simp at this;omega);have HSt:Hid (eT aZ (cs.map ai) (ai p)=cs.map ai++[ai p]):=qD (sI (.inl (by rw[hcs];rfl)));clear hcs;refine aM (by kernel_rfl) (by kernel_rfl) ?_
    repeat(go_big_quiet_step (fail))
    refine Kd ?_;rintro _ ⟨kw,rfl⟩;have L1:=qD (LB.out.step kw.below);clear hm1 LB;generalize kw.val=w3 at*;obtain⟨⟨⟨p0,p1,p2,p3,p4⟩,p5⟩,⟨⟨q0,q1,q2,q3,q4⟩,q5⟩⟩:=qG.Ig L1.out.b5;have hlo:w2.heap.size<=w3.heap.size:=L1.out.i.bel.size;have LK:=qD (L1.out.i.step ((Ju w3.heap.size w3).alloc (qL) (Obj.cells (fp p) 167)));have hown:(w3.alloc (.cells (fp p) 167)).ownsRow w2.heap.size 167 12 (.slice A3 m c3) m (aO cr cs):=by have:=LK.out.own;rw[<-HM.out] at this;exact this
    have HOw:=qD hown;clear hown;go_wp2_with (at_builtin;refine aJ _ rfl _ _ 163 rfl w2.heap.size 167 j0 (tQ (((VC.zero,aC.zero),false),((VC.zero,aC.zero),false))) 12 176 Lx hj0 hy0 hy1 hy2 rfl (by decide) (.slice A3 m c3) m (aO cr cs) rfl HOw.out _ _ 1 _ (cr p) rfl ⟨rfl,fun _=>⟨_,rfl,Km _,ao _ _ _⟩⟩ (jA _) (by unfold maxLen;omega) (by omega) (by simp;omega) ?_);intro v' w4 hown hg _;have HI:=qD (LK.out.add HP.out HSt.out HPk.out hg (by rw[HM.out]) hown);clear hown hg p0 p1 p2 p3 p4 p5 q0 q1 q2 q3 q4 q5;go_wp2_with fail;go_roundw
    ·exact⟨i+1,cs++[p],by omega,by go_num,HI.out⟩
    ·simp[intOf];omega
   ·rw[MP] at hcs;have hml:m=d.length+1:=by rw[HM.out,hcs];simp
    obtain⟨g,hA3⟩:∃g,A3=some ⟨g,0,none⟩:=by
     obtain⟨g,cap,hv,_⟩:=LB.out.i.own.form (by rw[hcs];simp);injection hv with hv
     exact⟨g,hv⟩
    subst hA3
    have hrow:Ag wa g ((m-1)*12+6) l.2:=by
     have ho:=LB.out.i.own;rw[<-HM.out] at ho;refine tS fun j v hj=>?_;have hlt:=(KF.1 hj).1;rw[bp] at hlt;rw[Nq,ho.cellAt _ (by omega)];refine iY dU (xs:=cs) (a:=l) (by rw[hcs,show m-1=d.length by omega];simp) ?_;show(ki l.1++ki l.2)[6+j]?=some v;rw[Kl (by rw[bp];omega),bp,show 6+j-6=j by omega];exact hj
    have hokl:rz w l:=LB.out.i.ok l (by rw[hcs];simp);have HOl:=qD hokl;have HML:=qD hml;have HCS:=qD hcs;have hwb:Hid (Below w.heap.size w wa):=qD (HB2.out.trans (LB.out.i.bel.mono HB2.out.size));obtain⟨⟨r0,r1,r2,r3,r4⟩,r5⟩:=hrow;obtain⟨⟨⟨p0,p1,p2,p3,p4⟩,p5⟩,⟨⟨q0,q1,q2,q3,q4⟩,q5⟩⟩:=qG.Ig LB.out.b5;have R0:∀k:BW wa,k.val.cell? ⟨g,(m-1)*12+6,none⟩=some (.int .i64 l.2.1.1.k):=fun k=>k.cell r0;have R1:∀k:BW wa,k.val.cell? ⟨g,(m-1)*12+6+1,none⟩=some (.int .i64 l.2.1.1.n):=fun k=>k.cell r1;have R2:∀k:BW wa,k.val.cell? ⟨g,(m-1)*12+6+2,none⟩=some (.string l.2.1.1.t):=fun k=>k.cell r2;have R3:∀k:BW wa,k.val.cell? ⟨g,(m-1)*12+6+3,none⟩=some (.slice l.2.1.1.LA l.2.1.1.ln l.2.1.1.lc):=fun k=>k.cell r3;have R4:∀k:BW wa,k.val.cell? ⟨g,(m-1)*12+6+4,none⟩=some (.slice l.2.1.1.DA l.2.1.1.dn l.2.1.1.dc):=fun k=>k.cell r4;have R5:∀k:BW wa,k.val.cell? ⟨g,(m-1)*12+6+5,none⟩=some (.bool l.2.2):=fun k=>k.cell r5;have P0:∀k:BW wa,k.val.cell? ⟨ga,0,none⟩=some (.int .i64 p.1.1.1.k):=fun k=>k.cell p0;have P1:∀k:BW wa,k.val.cell? ⟨ga,1,none⟩=some (.int .i64 p.1.1.1.n):=fun k=>k.cell p1;have P2:∀k:BW wa,k.val.cell? ⟨ga,2,none⟩=some (.string p.1.1.1.t):=fun k=>k.cell p2;have P3:∀k:BW wa,k.val.cell? ⟨ga,3,none⟩=some (.slice p.1.1.1.LA p.1.1.1.ln p.1.1.1.lc):=fun k=>k.cell p3;have P4:∀k:BW wa,k.val.cell? ⟨ga,4,none⟩=some (.slice p.1.1.1.DA p.1.1.1.dn p.1.1.1.dc):=fun k=>k.cell p4;have P5:∀k:BW wa,k.val.cell? ⟨ga,5,none⟩=some (.bool p.1.2):=fun k=>k.cell p5;have i0:(0:Int)<=(m:Int)-1:=by omega
    have i1:(m:Int)-1<(m:Int):=by omega
    have W2:((m:Int)-1).toNat=m-1:=by omega
    have hm1:decide ((m:Int)-1<0)=false:=KQ (by omega)
    have K1:Hid (∀k:BW wa,Calls prog 178 #[oR l.2,oR p.1] k.val fun e w''=>e=.returned (.int .i64 (aZ (cP l.2) (cP p.1)))/\∃k:BW wa,w''=k.val):=fun k=>
     Calls.bw (dr l.2 p.1 k.val ((HOl.out.step hwb.out).2.step k.below) ((HPk.out.step hwb.out).1.step k.below))
    clear hcs hokl hml r0 r1 r2 r3 r4 r5 p0 p1 p2 p3 p4 p5 q0 q1 q2 q3 q4 q5;refine aM (by kernel_rfl) (by kernel_rfl) ?_
    repeat(go_big_quiet_step (with_reducible exact K1.out _))
    refine Kd ?_;rintro _ ⟨kw,rfl⟩;have L1:=qD (LB.out.step kw.below);clear R0 R1 R2 R3 R4 R5 P0 P1 P2 P3 P4 P5 K1 i0 i1 W2 hm1 LB hwb;generalize kw.val=w3 at*;by_cases hc:aZ (cP l.2) (cP p.1)<0
    ·have HSt:Hid (eT aZ (cs.map ai) (ai p)=cs.map ai++[ai p]):=qD (sI (.inr ⟨d.map ai,ai l,by rw[HCS.out,Ke];rfl,hc⟩));obtain⟨⟨⟨p0,p1,p2,p3,p4⟩,p5⟩,⟨⟨q0,q1,q2,q3,q4⟩,q5⟩⟩:=qG.Ig L1.out.b5;have hlo:w2.heap.size<=w3.heap.size:=L1.out.i.bel.size;have LK:=qD (L1.out.i.step ((Ju w3.heap.size w3).alloc (qL) (Obj.cells (fp p) 167)));have hown:(w3.alloc (.cells (fp p) 167)).ownsRow w2.heap.size 167 12 (.slice (some ⟨g,0,none⟩) m c3) m (aO cr cs):=by have:=LK.out.own;rw[<-HM.out] at this;exact this
     have HOw:=qD hown;clear hown;go_wp2_with (at_builtin;refine aJ _ rfl _ _ 163 rfl w2.heap.size 167 j0 (tQ (((VC.zero,aC.zero),false),((VC.zero,aC.zero),false))) 12 176 Lx hj0 hy0 hy1 hy2 rfl (by decide) (.slice (some ⟨g,0,none⟩) m c3) m (aO cr cs) rfl HOw.out _ _ 1 _ (cr p) rfl ⟨rfl,fun _=>⟨_,rfl,Km _,ao _ _ _⟩⟩ (jA _) (by unfold maxLen;omega) (by omega) (by simp;omega) ?_);intro v' w4 hown hg _;have HI:=qD (LK.out.add HP.out HSt.out HPk.out hg (by rw[HM.out]) hown);clear hown hg p0 p1 p2 p3 p4 p5 q0 q1 q2 q3 q4 q5;go_wp2_with fail;go_roundw
     ·exact⟨i+1,cs++[p],by omega,by go_num,HI.out⟩
     ·simp[intOf];omega
    ·go_upto_region 10 with fail
     have hrow:Ag w3 g ((m-1)*12+6) l.2:=by
      have ho:=L1.out.i.own;rw[<-HM.out] at ho;have hml:=HML.out;refine tS fun j v hj=>?_;have hlt:=(KF.1 hj).1;rw[bp] at hlt;rw[Nq,ho.cellAt _ (by omega)];refine iY dU (xs:=cs) (a:=l) (by rw[HCS.out,show m-1=d.length by omega];simp) ?_;show(ki l.1++ki l.2)[6+j]?=some v;rw[Kl (by rw[bp];omega),bp,show 6+j-6=j by omega];exact hj
     have hwb:Hid (Below w.heap.size w w3):=qD (HB2.out.trans (L1.out.i.bel.mono HB2.out.size));obtain⟨⟨r0,r1,r2,r3,r4⟩,r5⟩:=hrow;obtain⟨_,⟨⟨q0,q1,q2,q3,q4⟩,q5⟩⟩:=qG.Ig L1.out.b5;have R0:∀k:BW w3,k.val.cell? ⟨g,(m-1)*12+6,none⟩=some (.int .i64 l.2.1.1.k):=fun k=>k.cell r0;have R1:∀k:BW w3,k.val.cell? ⟨g,(m-1)*12+6+1,none⟩=some (.int .i64 l.2.1.1.n):=fun k=>k.cell r1;have R2:∀k:BW w3,k.val.cell? ⟨g,(m-1)*12+6+2,none⟩=some (.string l.2.1.1.t):=fun k=>k.cell r2;have R3:∀k:BW w3,k.val.cell? ⟨g,(m-1)*12+6+3,none⟩=some (.slice l.2.1.1.LA l.2.1.1.ln l.2.1.1.lc):=fun k=>k.cell r3;have R4:∀k:BW w3,k.val.cell? ⟨g,(m-1)*12+6+4,none⟩=some (.slice l.2.1.1.DA l.2.1.1.dn l.2.1.1.dc):=fun k=>k.cell r4;have R5:∀k:BW w3,k.val.cell? ⟨g,(m-1)*12+6+5,none⟩=some (.bool l.2.2):=fun k=>k.cell r5;have Q0:∀k:BW w3,k.val.cell? ⟨ga,6,none⟩=some (.int .i64 p.2.1.1.k):=fun k=>k.cell q0;have Q1:∀k:BW w3,k.val.cell? ⟨ga,7,none⟩=some (.int .i64 p.2.1.1.n):=fun k=>k.cell q1;have Q2:∀k:BW w3,k.val.cell? ⟨ga,8,none⟩=some (.string p.2.1.1.t):=fun k=>k.cell q2;have Q3:∀k:BW w3,k.val.cell? ⟨ga,9,none⟩=some (.slice p.2.1.1.LA p.2.1.1.ln p.2.1.1.lc):=fun k=>k.cell q3;have Q4:∀k:BW w3,k.val.cell? ⟨ga,10,none⟩=some (.slice p.2.1.1.DA p.2.1.1.dn p.2.1.1.dc):=fun k=>k.cell q4;have Q5:∀k:BW w3,k.val.cell? ⟨ga,11,none⟩=some (.bool p.2.2):=fun k=>k.cell q5;have hml:=HML.out;have i0:(0:Int)<=(m:Int)-1:=by omega
     have i1:(m:Int)-1<(m:Int):=by omega
     have W2:((m:Int)-1).toNat=m-1:=by omega
     have K1:Hid (∀k:BW w3,Calls prog 178 #[oR l.2,oR p.2] k.val fun e w''=>e=.returned (.int .i64 (aZ (cP l.2) (cP p.2)))/\∃k:BW w3,w''=k.val):=fun k=>
      Calls.bw (dr l.2 p.2 k.val ((HOl.out.step hwb.out).2.step k.below) ((HPk.out.step hwb.out).2.step k.below))
     clear hml r0 r1 r2 r3 r4 r5 q0 q1 q2 q3 q4 q5;refine aM (by kernel_rfl) (by kernel_rfl) ?_
     repeat(go_big_quiet_step (with_reducible exact K1.out _))
     refine Kd ?_;rintro _ ⟨kw,rfl⟩;have L2:=qD (L1.out.step kw.below);clear R0 R1 R2 R3 R4 R5 Q0 Q1 Q2 Q3 Q4 Q5 K1 i0 i1 W2 L1 hwb;generalize kw.val=w4 at*;by_cases hd:aZ (cP l.2) (cP p.2)<0
     ·have hml:=HML.out
      have hst:eT aZ ((d++[l]).map ai) (ai p)=(d++[(l.1,p.2)]).map ai:=by
       rw[Ke,Ke];exact DP hc hd
      have HI:Hid (vf w w2 S (i+1) (.slice (some ⟨g,0,none⟩) m c3) (d++[(l.1,p.2)]) (qA w4 g ((m-1)*12+6) p.2)):=by
       have h0:=L2.out.i;rw[HCS.out] at h0;have:=h0.put HP.out hst HPk.out hml;rw[show d.length=m-1 by omega] at this;exact qD this
      have ho:w4.ownsRow w2.heap.size 167 12 (.slice (some ⟨g,0,none⟩) m c3) m (aO cr cs):=by have:=L2.out.i.own;rw[<-HM.out] at this;exact this
      have z:=ho.frozenAt
      have hrow:Ag w4 g ((m-1)*12+6) l.2:=by
       have ho:=L2.out.i.own;rw[<-HM.out] at ho;have hml:=HML.out;refine tS fun j v hj=>?_;have hlt:=(KF.1 hj).1;rw[bp] at hlt;rw[Nq,ho.cellAt _ (by omega)];refine iY dU (xs:=cs) (a:=l) (by rw[HCS.out,show m-1=d.length by omega];simp) ?_;show(ki l.1++ki l.2)[6+j]?=some v;rw[Kl (by rw[bp];omega),bp,show 6+j-6=j by omega];exact hj
      obtain⟨⟨r0,r1,r2,r3,r4⟩,r5⟩:=hrow;obtain⟨_,⟨⟨q0,q1,q2,q3,q4⟩,q5⟩⟩:=qG.Ig L2.out.b5;have i0:(0:Int)<=(m:Int)-1:=by omega
      have i1:(m:Int)-1<(m:Int):=by omega
      have W2:((m:Int)-1).toNat=m-1:=by omega
      clear ho hst hml;go_upto_region 12 with fail
      clear r0 r1 r2 r3 r4 r5 q0 q1 q2 q3 q4 q5 z i0 i1 W2;obtain⟨w5,hw5,HI5⟩:∃w5,qA w4 g ((m-1)*12+6) p.2=w5/\Hid (vf w w2 S (i+1) (.slice (some ⟨g,0,none⟩) m c3) (d++[(l.1,p.2)]) w5):=⟨_,rfl,HI⟩;unfold qA bH at hw5;rw[hw5];clear hw5 HI;go_wp2_with fail;go_roundw
      ·exact⟨i+1,d++[(l.1,p.2)],by omega,by go_num,HI5.out⟩
      ·simp[intOf];omega
     ·have hst:eT aZ (cs.map ai) (ai p)=cs.map ai:=by
       rw[HCS.out,Ke];exact DQ hc hd
      have HI:=qD (L2.out.i.same HP.out hst);clear hst;go_wp2_with fail;go_roundw
      ·exact⟨i+1,cs,by omega,by go_num,HI.out⟩
      ·simp[intOf];omega
  ·clear I;go_wp2_with fail;go_ret;obtain⟨A',c',e,hs⟩:=SS.Ik J.out.own rfl (by have:=J.out.le;unfold aH;omega) (fun x hx=>(J.out.ok x hx).step (HB2.out.trans (J.out.bel.mono HB2.out.size)));refine⟨A',_,c',cs,by rw[<-e];rfl,⟨S,HS.out,by rw[J.out.eq,KL (by have:=HSL.out;omega)]⟩,fun y hy=>⟨by obtain⟨z,hz,e⟩:=(J.out.pr y hy).1;exact⟨z,HS.out.1.subset hz,e⟩,by obtain⟨z,hz,e⟩:=(J.out.pr y hy).2;exact⟨z,HS.out.1.subset hz,e⟩⟩,fun b off hA=>?_,hs,?_,HB2.out.trans (J.out.bel.mono HB2.out.size)⟩
   ·have h1:=J.out.own;rw[e,hA] at h1;have:=bF h1 b rfl;have:=HB2.out.size;omega
   ·have:=J.out.le;have:=HL.out;omega
end
open Go.ChangeShapes Go.WideShapes Go.ChangeAt Go.Joins Go.Deep
section
variable {l r:List ByteArray} {b c i o n off lo ln lc base size:Nat} {a x y d:Int} {s:ByteArray} {W w3 w4:World} {LA:Option Addr} {e t:TypeId} {cs:Array Value} {v v':Value}
def ce{H:Type}(t:TypeId)(d:DataW H):Prop:=∀z∈d.weights prog t,z<=jh
theorem gq{H:Type}{t:TypeId}{l:List (DataW H)}(h:∀z∈DataW.weightsAll prog t l,z<=jh):∀d∈l,ce t d:=by
 induction l with
 | nil=>intro d hd;simp at hd
 | cons x r ih=>
  intro d hd;simp only[DataW.weightsAll,KI] at h;rcases LG.1 hd with rfl|hd
  ·exact fun z hz=>h z (.inl hz)
  ·exact ih (fun z hz=>h z (.inr hz)) d hd
theorem mB{H:Type}{t:TypeId}{ts:List TypeId}{d:DataW H}{r:List (DataW H)}(h:(DataW.weightsEach prog (t::ts) (d::r)).all (·<=reachBytes)=true):ce t d/\(DataW.weightsEach prog ts r).all (·<=reachBytes)=true:=by
 simp only[DataW.weightsEach,NU,Kz] at h;refine⟨fun z hz=>?_,h.2⟩;have:=Mg.1 h.1 z hz;exact Lg this
theorem kj:Tryz.prog.bytesOf 29=80:=by kernel_rfl
theorem oL:Tryz.prog.bytesOf 77=96:=by kernel_rfl
theorem bK:Tryz.prog.cellsOf 29=5:=by kernel_rfl
theorem iS:Tryz.prog.cellsOf 77=6:=by kernel_rfl
theorem aw:Tryz.prog.cellsOf 3=1:=by kernel_rfl
theorem cQ:Tryz.prog.cellsOf 9=1:=by kernel_rfl
theorem eN:Tryz.prog.cellsOf 26=1:=by kernel_rfl
theorem sJ:Tryz.prog.cellsOf 27=1:=by kernel_rfl
theorem Eh{α:Type}{l:List α}(h:l.length=5):∃a b c d e,l=[a,b,c,d,e]:=by
 match l,h with
 | [a,b,c,d,e],_=>exact⟨a,b,c,d,e,rfl⟩
theorem IN{α:Type}{l:List α}(h:l.length=6):∃a b c d e f,l=[a,b,c,d,e,f]:=by
 match l,h with
 | [a,b,c,d,e,f],_=>exact⟨a,b,c,d,e,f,rfl⟩
theorem He{α:Type}{l:List α}(h:l.length=2):∃a b,l=[a,b]:=by
 match l,h with
 | [a,b],_=>exact⟨a,b,rfl⟩
section
variable {H:Type} {enc:TypeId×Value->H} {W:World} {base:Nat} {spare:Nat->Bool} {held:Bool}
theorem dz{a:Addr}{n:Nat}{cs:List Value}(h:W.cells? base a n=some cs)(hn:0<n):∃b off,a=⟨b,off,none⟩/\∀i,i<n->W.cell? ⟨b,off+i,none⟩=cs[i]?:=by
 obtain⟨_,hl,hat⟩:=World.cells?_some h;obtain⟨b,off,spot⟩:=a;have h0:=hat 0 hn;rw[Jv (by omega)] at h0;have hs:spot=none:=by simpa[Addr.add] using World.cell?_spot h0
 subst hs;exact⟨b,off,rfl,fun i hi=>by rw[<-dM];exact hat i hi⟩
def yM(H:Type)(enc:TypeId×Value->H)(W:World)(base:Nat)(spare:Nat->Bool)(held:Bool)(n:Nat):Prop:=
 ∀(cs:List Value) (y:DataW H×List MemPlace),DataW.trod enc prog W base spare held n 29 cs=some y->ce 29 y.1->∃c x,cs=c.list/\RW W c x
theorem gr{α:Type}{p:Nat->α->Prop}(d:α)(len:Nat)(h:∀i,i<len->∃x,p i x):∃f:Nat->α,∀i,i<len->p i (f i):=by
 refine⟨fun i=>if h':i<len then(h i h').choose else d,fun i h'=>?_⟩;simp only[dif_pos h'];exact(h i h').choose_spec
theorem Am(n:Nat){v:Value}{y:DataW H×List MemPlace}(ih:∀n',n'<n->yM H enc W base spare held n')(h:DataW.trod enc prog W base spare held n 26 [v]=some y)(hw:ce 26 y.1):
 ∃(LA:Option Addr) (ln lc:Nat) (l:List aC),v=.slice LA ln lc/\ln=l.length/\ln<=lc/\ln*80<=aH/\(0<ln->∃b off,LA=some ⟨b,off,none⟩/\∀(i:Nat) (y:aC),l[i]?=some y->∃e,aS W b (off+i*5) e/\RW W e y):=by
 rcases Ml Kv h with⟨hcs,_⟩|⟨a,len,cap,elems,rest,n',rfl,hcs,rfl,_,hlc,hcm,hel,hat,_,_⟩
 ·simp at hcs;exact⟨none,0,0,[],hcs,rfl,qL,by decide,fun h=>absurd h (by omega)⟩
 ·simp at hcs;subst hcs;simp only[ce,DataW.weights,Kv,LG,KI,kj] at hw
  have hsz:len*80<=aH:=by
   have:=hw _ (.inl rfl);simp only[KX,hel] at this;have h2:len*80<=(len+rest.length)*80:=Ki _ (by omega);have:=du;omega
  have wl:=gq (l:=elems.map (·.1)) (fun z hz=>hw z (.inr (.inl hz)));rcases LH len with h0|hp
  ·exact⟨some a,len,cap,[],rfl,h0,hlc,hsz,fun h=>absurd h (by omega)⟩
  have step:∀i,i<len->∃cs',W.cells? base (a.add (i*5)) 5=some cs'/\∃e x,cs'=VC.list e/\RW W e x:=by
   intro i hi;have h1:=hat i hi;rw[bK,Jv (by omega)] at h1;obtain⟨cs',hcs',ht'⟩:=MC.1 h1;exact⟨cs',hcs',ih n' (by omega) cs' _ ht' (wl _ (Ko (MB _)))⟩
  obtain⟨cs0,h0,_⟩:=step 0 hp;obtain⟨b,off,ha,_⟩:=dz h0 (by omega);have ha':a=⟨b,off,none⟩:=by simpa[Addr.add] using ha
  subst ha'
  obtain⟨f,hf⟩:=gr (p:=fun i x=>∃e,aS W b (off+i*5) e/\RW W e x) aC.zero len (fun i hi=>by
   obtain⟨cs',hcs',e,x,rfl,hx⟩:=step i hi
   rw[dM] at hcs'
   obtain⟨b',off',ha',hc⟩:=dz hcs' (by omega)
   injection ha' with e1 e2
   subst e1 e2
   exact⟨x,e,⟨hc 0 (by omega),hc 1 (by omega),hc 2 (by omega),hc 3 (by omega),hc 4 (by omega)⟩,hx⟩)
  refine⟨_,len,cap,(List.range len).map f,rfl,by simp,hlc,hsz,fun _=>⟨b,off,rfl,fun i y hi=>?_⟩⟩;have hlt:i<len:=by have:=(KF.1 hi).1;simpa using this
  rw[KP,MM hlt] at hi;simp only[Ls,LS] at hi;subst hi;exact hf i hlt
theorem DT(n:Nat){v:Value}{y:DataW H×List MemPlace}(ih:∀n',n'<n->yM H enc W base spare held n')(h:DataW.trod enc prog W base spare held n 27 [v]=some y)(hw:ce 27 y.1):
 ∃(DA:Option Addr) (dn dc:Nat) (d:List cF),v=.slice DA dn dc/\dn=d.length/\dn<=dc/\dn*96<=jh/\(0<dn->∃b off,DA=some ⟨b,off,none⟩/\∀(i:Nat) (f:cF),d[i]?=some f->W.cell? ⟨b,off+i*6,none⟩=some (.string f.s)/\f.s.size<=aH/\∃e,aS W b (off+i*6+1) e/\RW W e f.v):=by
 rcases Ml ME h with⟨hcs,_⟩|⟨a,len,cap,elems,rest,n',rfl,hcs,rfl,_,hlc,hcm,hel,hat,_,_⟩
 ·simp at hcs;exact⟨none,0,0,[],hcs,rfl,qL,by decide,fun h=>absurd h (by omega)⟩
 ·simp at hcs;subst hcs;simp only[ce,DataW.weights,ME,LG,KI,oL] at hw
  have hsz:len*96<=jh:=by
   have:=hw _ (.inl rfl);simp only[KX,hel] at this;have h2:len*96<=(len+rest.length)*96:=Ki _ (by omega);omega
  have wl:=gq (l:=elems.map (·.1)) (fun z hz=>hw z (.inr (.inl hz)));rcases LH len with h0|hp
  ·exact⟨some a,len,cap,[],rfl,h0,hlc,hsz,fun h=>absurd h (by omega)⟩
  have step:∀i,i<len->∃cs',W.cells? base (a.add (i*6)) 6=some cs'/\∃(s:ByteArray) (e:VC) (x:aC),cs'=.string s::VC.list e/\s.size<=aH/\RW W e x:=by
   intro i hi;have h1:=hat i hi;rw[iS,Jv (by omega)] at h1;obtain⟨cs',hcs',ht'⟩:=MC.1 h1;have hwi:=wl _ (Ko (MB (l:=elems) (n:=i) (by omega)));generalize elems[i]=q at*;obtain⟨ys,n'',rfl,rfl,hcl,hyl,hf⟩:=ML Nj ht';rw[iS] at hcl;obtain⟨v0,v1,v2,v3,v4,v5,rfl⟩:=IN hcl;obtain⟨y0,y1,rfl⟩:=He hyl;have f0:DataW.trod enc prog W base spare held n'' 9 [v0]=some y0:=by simpa[cQ] using hf 0 _ rfl
   have f1:DataW.trod enc prog W base spare held n'' 29 [v1,v2,v3,v4,v5]=some y1:=by simpa[bK] using hf 1 _ rfl
   obtain⟨s,e0,rfl,_⟩:=MU LV f0;simp only[Ln,NS] at e0;subst e0;simp only[ce,DataW.weights,Nj,List.map,DataW.weightsEach,KI] at hwi;obtain⟨e,x,he,hx⟩:=ih n'' (by omega) _ _ f1 (fun z hz=>hwi z (.inr (.inl hz)));refine⟨_,hcs',s,e,x,by rw[he],KM (hwi s.size (.inl (by simp))) du,hx⟩
  obtain⟨cs0,h0,_⟩:=step 0 hp;obtain⟨b,off,ha,_⟩:=dz h0 (by omega);have ha':a=⟨b,off,none⟩:=by simpa[Addr.add] using ha
  subst ha'
  obtain⟨f,hf⟩:=gr (p:=fun i (f:cF)=>W.cell? ⟨b,off+i*6,none⟩=some (.string f.s)/\f.s.size<=aH/\∃e,aS W b (off+i*6+1) e/\RW W e f.v) (.mk empty aC.zero) len (fun i hi=>by
   obtain⟨cs',hcs',s,e,x,rfl,hs,hx⟩:=step i hi
   rw[dM] at hcs'
   obtain⟨b',off',ha',hc⟩:=dz hcs' (by omega)
   injection ha' with e1 e2
   subst e1 e2
   exact⟨.mk s x,hc 0 (by omega),hs,e,⟨hc 1 (by omega),hc 2 (by omega),hc 3 (by omega),hc 4 (by omega),hc 5 (by omega)⟩,hx⟩)
  refine⟨_,len,cap,(List.range len).map f,rfl,by simp,hlc,hsz,fun _=>⟨b,off,rfl,fun i y hi=>?_⟩⟩;have hlt:i<len:=by have:=(KF.1 hi).1;simpa using this
  rw[KP,MM hlt] at hi;simp only[Ls,LS] at hi;subst hi;exact hf i hlt
theorem tX:∀(fuel:Nat) (cs:List Value) (y:DataW H×List MemPlace),DataW.trod enc prog W base spare held fuel 29 cs=some y->ce 29 y.1->∃c x,cs=c.list/\RW W c x/\c.dn*96<=jh:=by
 intro fuel
 induction fuel using Nat.strongRecOn with
 | _ fuel ih=>
 intro cs y h hw;obtain⟨ys,n,rfl,rfl,hcl,hyl,hf⟩:=ML LU h;rw[bK] at hcl;obtain⟨v0,v1,v2,v3,v4,rfl⟩:=Eh hcl;obtain⟨y0,y1,y2,y3,y4,rfl⟩:=Eh hyl;have f0:DataW.trod enc prog W base spare held n 3 [v0]=some y0:=by simpa[aw] using hf 0 _ rfl
 have f1:DataW.trod enc prog W base spare held n 3 [v1]=some y1:=by simpa[aw] using hf 1 _ rfl
 have f2:DataW.trod enc prog W base spare held n 9 [v2]=some y2:=by simpa[cQ] using hf 2 _ rfl
 have f3:DataW.trod enc prog W base spare held n 26 [v3]=some y3:=by simpa[eN] using hf 3 _ rfl
 have f4:DataW.trod enc prog W base spare held n 27 [v4]=some y4:=by simpa[sJ] using hf 4 _ rfl
 obtain⟨k,e0,rfl,_⟩:=Lo Ld f0;obtain⟨m,e1,rfl,_⟩:=Lo Ld f1;obtain⟨t,e2,rfl,_⟩:=MU LV f2;simp only[Ln,NS] at e0 e1 e2;subst e0 e1 e2
 have hw':ce 9 (DataW.lit (H:=H) (.string t.data.toList))/\ce 26 y3.1/\ce 27 y4.1:=by
  simp only[ce,DataW.weights,LU,List.map,DataW.weightsEach,KI] at hw;refine⟨fun z hz=>hw z ?_,fun z hz=>hw z ?_,fun z hz=>hw z ?_⟩
  ·simp only[DataW.weights] at hz;exact .inr (.inr (.inl hz))
  ·exact .inr (.inr (.inr (.inl hz)))
  ·exact .inr (.inr (.inr (.inr (.inl hz))))
 obtain⟨w2,w3,w4⟩:=hw';have htz:t.size<=aH:=KM (w2 t.size (by simp[DataW.weights])) du
 have ih':∀n',n'<n+1->yM H enc W base spare held n':=fun n' hn cs y h1 h2=>by
  obtain⟨c,x,e,r,_⟩:=ih n' (by omega) cs y h1 h2;exact⟨c,x,e,r⟩
 obtain⟨LA,ln,lc,l,rfl,hl1,hl2,hl3,hl4⟩:=Am n (fun n' hn=>ih' n' (by omega)) f3 w3;obtain⟨DA,dn,dc,d,rfl,hd1,hd2,hd3,hd4⟩:=DT n (fun n' hn=>ih' n' (by omega)) f4 w4;refine⟨⟨k,m,t,LA,ln,lc,DA,dn,dc⟩,.mk k m t l d,rfl,sK.shut ⟨rfl,rfl,rfl,htz,hl1,hl2,hl3,fun hp=>?_,hd1,hd2,KM hd3 du,fun hp=>?_⟩,hd3⟩
 ·obtain⟨b,off,e,h⟩:=hl4 hp;exact⟨b,off,e,Ft.JX,h⟩
 ·obtain⟨b,off,e,h⟩:=hd4 hp;exact⟨b,off,e,Ft.JX,h⟩
theorem yN(fuel:Nat)(cs:List Value)(y:DataW H×List MemPlace)(h:DataW.trod enc prog W base spare held fuel 29 cs=some y)(hl:ce 29 y.1):∃c x,cs=c.list/\RW W c x:=by
 obtain⟨c,x,e,r,_⟩:=tX fuel cs y h hl;exact⟨c,x,e,r⟩
end
def DU(w:World)(x:aC)(e:Ending)(w':World):Prop:=∃c:VC,e=.returned c.val/\RV (fun b=>w.heap.size<=b) w' c x/\Below w.heap.size w w'
theorem jC{lo:Nat}{v v':Value}{w3 w4:World}{o:Obj}{c:VC}{x:aC}(hr:RV (fun b=>lo<=b/\v.ownBlock≠some b) w3 c x)(hg:(w3.alloc o).grownBy w4 v.ownBlock)(hat:v'.ownBlock=v.ownBlock\/v'.ownBlock=some (w3.alloc o).heap.size):
 RV (fun b=>lo<=b/\v'.ownBlock≠some b) w4 c x:=hr.Il fun b hb hl=>by
 have hl':b<(w3.alloc o).heap.size:=by simp;omega
 refine⟨⟨hb.1,fun e=>?_⟩,(hg.block b hl' (fun e=>hb.2 e.symm)).trans (NB w3 o b hl)⟩;rcases hat with h|h
 ·exact hb.2 (h▸e)
 ·rw[h] at e;injection e with e
  omega
end
structure Ei(w:World)(c:VC)(l:List aC)(i:Nat)(A:Option Addr)(cap:Nat)(ps:List PV)(wr:World):Prop where
 b0:aG wr w.heap.size 29 c.arr
 b1:aG wr (w.heap.size+1) 29 VC.zero.arr
 b2:aG wr (w.heap.size+1+1) 29 (VC.arr ⟨c.k,c.n,c.t,A,i,cap,none,0,0⟩)
 own:wr.ownsRow (w.heap.size+3) 29 5 (.slice A i cap) i (aO bC ps)
 eq:ps.map Prod.snd=l.take i
 el:∀p∈ps,RV (fun b=>w.heap.size+3<=b/\(Value.slice A i cap).ownBlock≠some b) wr p.1 p.2
 bel:Below w.heap.size w wr
section
variable {l:List ByteArray} {b c i o cap size:Nat} {y:Int} {w w' wr w3 w4:World} {A A':Option Addr}
theorem Ei.step{w:World}{c:VC}{l:List aC}{i:Nat}{A:Option Addr}{cap:Nat}{ps:List PV}{wr w':World}(h:Ei w c l i A cap ps wr)(hb:Below wr.heap.size wr w'):Ei w c l i A cap ps w':=
 ⟨h.b0.step hb,h.b1.step hb,h.b2.step hb,bJ h.own hb,h.eq,fun p hp=>(h.el p hp).step hb,h.bel.Ih hb⟩
theorem Ei.next{w:World}{c u:VC}{l:List aC}{i:Nat}{A A':Option Addr}{cap cap':Nat}{ps:List PV}{w3 w4:World}{o:Obj}{y:aC}(h:Ei w c l i A cap ps w3)(hy:l[i]?=some y)(hu:RV (fun b=>w.heap.size+3<=b/\(Value.slice A i cap).ownBlock≠some b) w3 u y)(hg:(w3.alloc o).grownBy w4 (Value.slice A i cap).ownBlock)(hat:(Value.slice A' (i+1) cap').ownBlock=(Value.slice A i cap).ownBlock\/(Value.slice A' (i+1) cap').ownBlock=some (w3.alloc o).heap.size)(hown:w4.ownsRow (w.heap.size+3) 29 5 (.slice A' (i+1) cap') (i+1) (aO bC ps++bC (u,y))):
 Ei w c l (i+1) A' cap' (ps++[(u,y)]) (w4.setCell ⟨w.heap.size+1+1,3,none⟩ (.slice A' (i+1) cap')):=by
 have hne:∀b,b<w.heap.size+3->some b≠(Value.slice A i cap).ownBlock:=fun b hb e=>by have:=bF h.own b e.symm;omega
 have keep:∀b,b<w3.heap.size->some b≠(Value.slice A i cap).ownBlock->w4.heap[b]?=w3.heap[b]?:=fun b hb hn=>(hg.block b (by simp;omega) hn).trans (NB w3 o b hb);have hz:=h.b2.lt;have bl:∀{b:Nat} {cs:Array Value},aG w3 b 29 cs->b<w.heap.size+3->aG w4 b 29 cs:=fun hb hlt=>(keep _ hb.lt (hne _ hlt)).trans hb;refine⟨(bl h.b0 (by omega)).Ip (by show w.heap.size≠w.heap.size+1+1;omega) _,(bl h.b1 (by omega)).Ip (by show w.heap.size+1≠w.heap.size+1+1;omega) _,(bl h.b2 (by omega)).Ij 3 _,?_,?_,fun p hp=>?_,?_⟩
 ·rw[cw];exact gw hown fun g hg=>Ku _ _ _ _ (by have:=bF hown g hg;show g≠w.heap.size+1+1;omega)
 ·rw[Ke,h.eq,take_snoc' hy];rfl
 ·have hr:RV (fun b=>w.heap.size+3<=b/\(Value.slice A' (i+1) cap').ownBlock≠some b) w4 p.1 p.2:=by
   rcases KI.1 hp with hp|hp
   ·exact jC (h.el p hp) hg hat
   ·simp at hp;subst hp;exact jC hu hg hat
  exact hr.Il fun b hb _=>⟨hb,Ku _ _ _ _ (by show b≠w.heap.size+1+1;omega)⟩
 ·have h4:Below w.heap.size w w4:=(h.bel.alloc h.bel.size o).grown hg (by have:=h.bel.size;simp;omega) (fun k hk=>by have:=bF h.own k hk;omega);exact h4.setCell (by show w.heap.size<=w.heap.size+1+1;omega) _
end
structure An(w:World)(c:VC)(d:List cF)(LA:Option Addr)(ln lc:Nat)(ps:List PV)(i:Nat)(A:Option Addr)(cap:Nat)(fs:List PF)(wr:World):Prop where
 b0:aG wr w.heap.size 29 c.arr
 b1:aG wr (w.heap.size+1) 29 VC.zero.arr
 b2:aG wr (w.heap.size+1+1) 29 (VC.arr ⟨c.k,c.n,c.t,LA,ln,lc,A,i,cap⟩)
 sl:SL (fun b=>w.heap.size+3<=b/\(Value.slice A i cap).ownBlock≠some b) wr LA ln lc ps
 own:wr.ownsRow (w.heap.size+3) 77 6 (.slice A i cap) i (aO cX fs)
 eq:fs.map Prod.snd=d.take i
 sz:∀p∈fs,p.2.s.size<=aH
 el:∀p∈fs,RV (fun b=>w.heap.size+3<=b/\(Value.slice A i cap).ownBlock≠some b) wr p.1 p.2.v
 bel:Below w.heap.size w wr
section
variable {l:List ByteArray} {b c k i o n cap ln lc size:Nat} {x d:Int} {s:ByteArray} {w w' wr w3 w4:World} {A A' LA:Option Addr} {t:TypeId} {v:Value}
theorem An.step{w:World}{c:VC}{d:List cF}{LA:Option Addr}{ln lc:Nat}{ps:List PV}{i:Nat}{A:Option Addr}{cap:Nat}{fs:List PF}{wr w':World}(h:An w c d LA ln lc ps i A cap fs wr)(hb:Below wr.heap.size wr w'):An w c d LA ln lc ps i A cap fs w':=
 ⟨h.b0.step hb,h.b1.step hb,h.b2.step hb,h.sl.step hb,bJ h.own hb,h.eq,h.sz,fun p hp=>(h.el p hp).step hb,h.bel.Ih hb⟩
theorem An.next{w:World}{c u:VC}{d:List cF}{LA:Option Addr}{ln lc:Nat}{ps:List PV}{i:Nat}{A A':Option Addr}{cap cap':Nat}{fs:List PF}{w3 w4:World}{o:Obj}{f:cF}(h:An w c d LA ln lc ps i A cap fs w3)(hy:d[i]?=some f)(hs:f.s.size<=aH)(hu:RV (fun b=>w.heap.size+3<=b/\(Value.slice A i cap).ownBlock≠some b) w3 u f.v)(hg:(w3.alloc o).grownBy w4 (Value.slice A i cap).ownBlock)(hat:(Value.slice A' (i+1) cap').ownBlock=(Value.slice A i cap).ownBlock\/(Value.slice A' (i+1) cap').ownBlock=some (w3.alloc o).heap.size)(hown:w4.ownsRow (w.heap.size+3) 77 6 (.slice A' (i+1) cap') (i+1) (aO cX fs++cX (u,f))):
 An w c d LA ln lc ps (i+1) A' cap' (fs++[(u,f)]) (w4.setCell ⟨w.heap.size+1+1,4,none⟩ (.slice A' (i+1) cap')):=by
 have hne:∀b,b<w.heap.size+3->some b≠(Value.slice A i cap).ownBlock:=fun b hb e=>by have:=bF h.own b e.symm;omega
 have keep:∀b,b<w3.heap.size->some b≠(Value.slice A i cap).ownBlock->w4.heap[b]?=w3.heap[b]?:=fun b hb hn=>(hg.block b (by simp;omega) hn).trans (NB w3 o b hb);have hz:=h.b2.lt;have bl:∀{b:Nat} {cs:Array Value},aG w3 b 29 cs->b<w.heap.size+3->aG w4 b 29 cs:=fun hb hlt=>(keep _ hb.lt (hne _ hlt)).trans hb;refine⟨(bl h.b0 (by omega)).Ip (by show w.heap.size≠w.heap.size+1+1;omega) _,(bl h.b1 (by omega)).Ip (by show w.heap.size+1≠w.heap.size+1+1;omega) _,(bl h.b2 (by omega)).Ij 4 _,?_,?_,?_,fun p hp=>?_,fun p hp=>?_,?_⟩
 ·refine h.sl.Il fun b hb hl=>⟨⟨hb.1,fun e=>?_⟩,?_⟩
  ·rcases hat with k|k
   ·exact hb.2 (k▸e)
   ·rw[k] at e;injection e with e;simp at e;omega
  ·rw[Ku _ _ _ _ (by show b≠w.heap.size+1+1;omega)];exact keep b hl (fun e=>hb.2 e.symm)
 ·rw[cw];exact gw hown fun g hg=>Ku _ _ _ _ (by have:=bF hown g hg;show g≠w.heap.size+1+1;omega)
 ·rw[Ke,h.eq,take_snoc' hy];rfl
 ·rcases KI.1 hp with hp|hp
  ·exact h.sz p hp
  ·simp at hp;subst hp;exact hs
 ·have hr:RV (fun b=>w.heap.size+3<=b/\(Value.slice A' (i+1) cap').ownBlock≠some b) w4 p.1 p.2.v:=by
   rcases KI.1 hp with hp|hp
   ·exact jC (h.el p hp) hg hat
   ·simp at hp;subst hp;exact jC hu hg hat
  exact hr.Il fun b hb _=>⟨hb,Ku _ _ _ _ (by show b≠w.heap.size+1+1;omega)⟩
 ·have h4:Below w.heap.size w w4:=(h.bel.alloc h.bel.size o).grown hg (by have:=h.bel.size;simp;omega) (fun k hk=>by have:=bF h.own k hk;omega);exact h4.setCell (by show w.heap.size<=w.heap.size+1+1;omega) _
theorem An.start{w:World}{c:VC}{l:List aC}{d:List cF}{i:Nat}{A:Option Addr}{cap:Nat}{ps:List PV}{wr:World}(h:Ei w c l i A cap ps wr)(hl:ps.length=i)(hz:i*80<=aH):An w c d A i cap ps 0 none 0 [] wr:=by
 have hS:=SL.Ik (F:=fun b=>w.heap.size+3<=b) h.own hl hz (fun _ hb=>hb) (fun p hp=>(h.el p hp).mono fun b hb=>hb.1);obtain⟨A',c',e,hs⟩:=hS;cases e;exact⟨h.b0,h.b1,h.b2,hs.mono fun b hb=>⟨hb,by simp[Value.ownBlock]⟩,bX _ _ _ _,rfl,by simp,by simp,h.bel⟩
theorem An.done{w:World}{c:VC}{x:aC}{LA:Option Addr}{ln lc:Nat}{ps:List PV}{i:Nat}{A:Option Addr}{cap:Nat}{fs:List PF}{wr:World}(h:An w c x.d LA ln lc ps i A cap fs wr)(hx:RW w c x)(hps:ps.map Prod.snd=x.l)(hi:i=x.d.length)(hz:i*96<=aH):
 DU w x (.returned (VC.val ⟨c.k,c.n,c.t,LA,ln,lc,A,i,cap⟩)) (bH wr (w.heap.size+1) 0 ⟨c.k,c.n,c.t,LA,ln,lc,A,i,cap⟩):=by
 have hfl:fs.length=i:=by have:=congrArg List.length h.eq;rw[KX,LI] at this;omega
 obtain⟨A',c',e,hd⟩:=SD.Ik (F:=fun b=>w.heap.size+3<=b) h.own hfl hz (fun _ hb=>hb) h.sz (fun p hp=>(h.el p hp).mono fun b hb=>hb.1);cases e;have ho:=hx.open;have hr:=RV.Iw (k:=c.k) (m:=c.n) (t:=c.t) (by rw[ho.t];exact ho.tsz) (h.sl.mono fun b hb=>hb.1) hd;rw[hps,h.eq,KL (by omega)] at hr
 have hr2:RV (fun b=>w.heap.size+3<=b) wr ⟨c.k,c.n,c.t,LA,ln,lc,A,i,cap⟩ x:=by
  have e1:x=.mk c.k c.n c.t x.l x.d:=by
   cases x;simp only[aC.l,aC.d];rw[ho.k,ho.n,ho.t];rfl
  rw[e1];exact hr
 exact⟨_,rfl,hr2.Il fun b hb _=>⟨by omega,bO (by omega)⟩,af h.bel (by omega) _ _⟩
end
end Go.Proofs.YtgfoliedmhgpnaaGreatDoor
