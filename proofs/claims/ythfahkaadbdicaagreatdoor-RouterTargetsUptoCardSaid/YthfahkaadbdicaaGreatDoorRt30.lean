/- Parts of the proof, joined: RfIns, RfJoin, RgRan, RfRan, RgApartWalk, RtTgtWalk. -/
import Derived.Test.YthfahkaadbdicaaGreatDoorRt1
import Derived.Test.YthfahkaadbdicaaGreatDoorRt29
import Derived.Test.YthfahkaadbdicaaGreatDoorRt28
import Derived.Test.YthfahkaadbdicaaGreatDoorRt22
import Derived.Test.YthfahkaadbdicaaGreatDoorRt23
import Derived.Test.YthfahkaadbdicaaGreatDoorRt24
import Derived.Test.YthfahkaadbdicaaGreatDoorRt21
import Derived.Test.YthfahkaadbdicaaGreatDoorRt25
import Derived.Test.YthfahkaadbdicaaGreatDoorRt26
import Derived.Test.YthfahkaadbdicaaGreatDoorRt27
set_option maxRecDepth 100000
set_option maxHeartbeats 16000000
set_option linter.unusedSimpArgs false
open Go.Proofs.Tryz
open ByteArray (empty)
namespace Go.Proofs.YthfahkaadbdicaaGreatDoor
open Go.RowKit
def Ip(l:List B2)(x:B2)(out:List B2):Prop:=∃k,Fo vv l x k/\out=if l[k]?=some x then l else l.take k++x::l.drop k
def ER(l:List B2)(x:B2)(base:Nat)(w:World)(e:Ending)(w':World):Prop:=
 ∃v' out,e=.returned v'/\w'.ownsRow base 49 2 v' out.length (aJ aY out)/\Ip l x out/\Below w.heap.size w w'/\out.length<=l.length+1/\out≠[]
structure qH(wx:World)(v:Value)(n:Nat)(xs:List B2)(wr:World):Prop where
 own:wr.ownsRow wx.heap.size 49 2 v n (aJ aY xs)
 bel:Below wx.heap.size wx wr
theorem qH.next{wx:World}{v v':Value}{n m n':Nat}{xs ys:List B2}{wr w':World}{news:List Value}(h:qH wx v n xs wr)(hn:news=aJ aY ys)(hn':n'=m)(ho:w'.ownsRow wx.heap.size 49 2 v' m (aJ aY xs++news))(hg:wr.grownBy w' v.ownBlock):qH wx v' n' (xs++ys) w':=by
 subst hn hn';exact⟨by rw[eQ];exact ho,h.bel.grown hg h.bel.size (bU h.own)⟩
theorem qH.alloc{wx:World}{v:Value}{n:Nat}{xs:List B2}{wr:World}(h:qH wx v n xs wr)(o:Obj):qH wx v n xs (wr.alloc o):=⟨h.own.alloc _,h.bel.alloc h.bel.size o⟩
theorem fO(xs:List B2):∀u∈aJ aY xs,u.oneCell'=true:=by
 intro u hu;obtain⟨p,_,h⟩:=OU.1 hu;exact dR p u h
theorem qH.ins{w wc w3:World}{v3:Value}{n k base:Nat}{l:List B2}{x:B2}(h:qH wc v3 n ([]++l.take k++[x]++l.drop k) w3)(ha:Fo vv l x k)(hno:l[k]?≠some x)(hn:n=l.length+1)(hb:base<=wc.heap.size)(hbc:Below w.heap.size w wc):ER l x base w (.returned v3) w3:=by
 have e:[]++l.take k++[x]++l.drop k=l.take k++x::l.drop k:=by simp
 have hl:(l.take k++x::l.drop k).length=l.length+1:=by rw[(ii l x k).length_eq];simp
 have ho:=vT h.own hb;rw[e] at ho;refine⟨v3,l.take k++x::l.drop k,rfl,?_,⟨k,ha,by rw[LU hno]⟩,hbc.Jp h.bel,by omega,by simp⟩;rw[hl,<-hn];exact ho
theorem oI(l:List B2)(x:B2)(v:Value)(base n:Nat)(w:World)(h:w.ownsRow base 49 2 v n (aJ aY l))(hn:l.length=n)(hb:base<=w.heap.size)(hz:n<=1000000000)(hs:∀q∈l,q.1.size<=aF)(h0:n=0->v=.slice none 0 0):
 Calls prog 119 #[v,.agg #[.string x.1,.string x.2]] w (ER l x base w):=by
 obtain⟨j0,hj0,hy0,hy1,hy2⟩:=Mc fq;have HLN:=qD hn;have HS:=qD hs;have BX:Hid (aE (w.alloc (.cells #[.string x.1,.string x.2] 49)) w.heap.size 49 #[.string x.1,.string x.2]):=aE.Jq rfl;have HBC:=qD ((LH w.heap.size w).alloc (qL) (Obj.cells #[.string x.1,.string x.2] 49));have HB:Hid (base<=(w.alloc (.cells #[.string x.1,.string x.2] 49)).heap.size):=qD (Lt hb HBC.out.size);have HO:=qD (h.alloc (.cells #[.string x.1,.string x.2] 49));rcases MH n with rfl|hpos
 ·obtain rfl:=h0 rfl;have hl:l=[]:=LO hn;have HAT:Hid (Fo vv l x 0):=qD ⟨LQ _,fun i y hi _=>absurd hi (by omega),fun y hy=>by rw[hl] at hy;simp at hy⟩;have HNO:Hid (l[0]?≠some x):=by rw[Hid,hl];simp
  clear h hn hb hz hs h0 hl;go_enter func119,ntmps119;go_upto_region 1 with fail
  change Code.wp _ _ _ _ (w.alloc (.cells #[.string x.1,.string x.2] 49));generalize w.alloc (.cells #[.string x.1,.string x.2] 49)=wa at*;go_upto_region 2 with fail
  go_loopw [5] (fun v wr=>∃k:Nat,k=0/\v=.int .i64 k/\Below wa.heap.size wa wr) (fun _ _=>0)
  ·exact⟨0,rfl,rfl,LH _ _⟩
  case round=>
   obtain⟨k,rfl,rfl,hbel⟩:=hrel;replace BX:=qD (BX.out.step hbel);replace HBC:=qD (HBC.out.Jp hbel);replace HB:=qD (Lt HB.out hbel.size);clear hbel;go_upto_region 2 with fail
   go_quiet (fail)
   go_upto_region 4 with fail
   go_quiet (fail)
   go_upto_region 6 with fail
   refine oe ?_;intro wc hwc;have B9:Hid (Below wr.heap.size wr wc):=by rw[Hid,hwc];exact(((LH _ _).drewN _).drewN _)
   replace BX:=qD (BX.out.step B9.out);replace HBC:=qD (HBC.out.Jp B9.out);replace HB:=qD (Lt HB.out B9.out.size);clear hwc B9;have N0:Hid (qH wc (.slice none 0 0) 0 [] wc):=qD ⟨bC _ _ _ _,LH _ _⟩;have R1:Hid (cP wc wc.heap.size 2 none 0 (aJ aY (l.take 0))):=qD ⟨by simp[aJ],fun h=>absurd h (by omega)⟩;have hl:l=[]:=LO HLN.out;have R2:Hid (cP wc wc.heap.size 2 none 0 (aJ aY (l.drop 0))):=by rw[hl];exact qD ⟨rfl,fun h=>absurd h (by omega)⟩
   clear hl;have q0:=BX.out.cell 0;have q1:=BX.out.cell 1;simp at q0 q1;go_wp2_with (at_builtin;refine aD _ rfl _ _ 47 rfl wc.heap.size 49 j0 (.agg #[.string empty,.string empty]) 2 32 MJ hj0 hy0 hy1 hy2 rfl (by decide) (.slice none 0 0) 0 (aJ aY ([])) rfl N0.out.own _ _ 0 _ (aJ aY (l.take 0)) rfl R1.out ?c1 (by unfold maxLen;omega) (by omega) (qL) ?_)
   case c1=>exact fO _
   intro v1 w1 ho1 hg1 _;have N1:Hid (qH wc v1 0 ([]++l.take 0) w1):=qD (N0.out.next rfl (by omega) ho1 hg1);have BX1:=qD (BX.out.step N1.out.bel);clear ho1 hg1 q0 q1;have q0:=BX1.out.cell 0;have q1:=BX1.out.cell 1;simp at q0 q1;have hw1:=N1.out.bel.size;go_wp2_with (at_builtin;refine aD _ rfl _ _ 47 rfl wc.heap.size 49 j0 (.agg #[.string empty,.string empty]) 2 32 MJ hj0 hy0 hy1 hy2 rfl (by decide) v1 0 (aJ aY ([]++l.take 0)) rfl (N1.out.alloc _).own _ _ 1 _ (aY x) rfl ⟨rfl,fun _=>⟨_,rfl,Lo _,ap _ _ _⟩⟩ ?c1 (by unfold maxLen;omega) (by omega) (af hw1 _) ?_)
   case c1=>exact dR x
   intro v2 w2 ho2 hg2 _;have N2:Hid (qH wc v2 (0+1) ([]++l.take 0++[x]) w2):=qD ((N1.out.alloc _).next (by simp[aJ]) (by omega) ho2 hg2);clear ho2 hg2 q0 q1;have hw2:=N2.out.bel.size;go_wp2_with (at_builtin;refine aD _ rfl _ _ 47 rfl wc.heap.size 49 j0 (.agg #[.string empty,.string empty]) 2 32 MJ hj0 hy0 hy1 hy2 rfl (by decide) v2 (0+1) (aJ aY ([]++l.take 0++[x])) rfl N2.out.own _ _ 0 _ (aJ aY (l.drop 0)) rfl (R2.out.below N2.out.bel) ?c1 (by unfold maxLen;omega) (by omega) hw2 ?_)
   case c1=>exact fO _
   intro v3 w3 ho3 hg3 _;have N3:Hid (qH wc v3 (0+1+0) ([]++l.take 0++[x]++l.drop 0) w3):=qD (N2.out.next rfl (by omega) ho3 hg3);clear ho3 hg3;go_wp2_with fail;go_ret;exact N3.out.ins HAT.out HNO.out (by have:=HLN.out;omega) HB.out HBC.out
 ·obtain⟨g,c,rfl,hg,hgl⟩:=qG h hpos;have hnc:n<=c:=by obtain⟨_,_,e,hc⟩:=aa h;injection e with _ _ e2;omega
  clear h hn hb hs h0;go_enter func119,ntmps119;go_upto_region 1 with fail
  change Code.wp _ _ _ _ (w.alloc (.cells #[.string x.1,.string x.2] 49));generalize w.alloc (.cells #[.string x.1,.string x.2] 49)=wa at*
  go_upto_block 0 with fail
  go_cut [5] (fun v5 wx=>∃k:Nat,k<=n/\v5=.int .i64 k/\Fo vv l x k/\Below wa.heap.size wa wx)
  case first=>
   go_wp2_with fail
   go_loopw [5] (fun v wr=>∃k:Nat,k<=n/\v=.int .i64 k/\(∀i y,i<k->l[i]?=some y->vv y.1 x.1)/\Below wa.heap.size wa wr) (fun v _=>n-(intOf v).toNat)
   ·exact⟨0,LQ _,rfl,fun i y hi _=>absurd hi (by omega),LH _ _⟩
   case round=>
    obtain⟨k,hk,rfl,hlo,hbel⟩:=hrel;have HLO:=qD hlo;have HBL:=qD hbel;clear hlo hbel;by_cases hlt:k<n
    ·obtain⟨q,hq⟩:∃q,l[k]?=some q:=⟨_,LI (by have:=HLN.out;omega)⟩;have hqc:=(iA (aV HO.out HBL.out) (bg aw hq (j:=0) (v:=.string q.1) rfl)).1;have X0:∀kk:BW wr,kk.val.cell? ⟨g,k*2,none⟩=some (.string q.1):=fun kk=>kk.cell (by simpa using hqc);have Y0:∀kk:BW wr,kk.val.cell? ⟨w.heap.size,0,none⟩=some (.string x.1):=fun kk=>kk.cell ((BX.out.step HBL.out).cell 0)
     have K1:Hid (∀kk:BW wr,Calls prog 177 #[.string q.1,.string x.1] kk.val fun e w''=>e=.returned (.int .i64 (bm q.1 x.1))/\∃kk:BW wr,w''=kk.val):=fun kk=>
      Calls.bw (lp _ _ _ (HS.out q (LP hq)))
     have HQ:=qD hq;have i0:(0:Int)<=(k:Int):=by omega
     have i1:(k:Int)<(n:Int):=by omega
     have i2:decide ((k:Int)<(n:Int))=true:=LN i1;clear hqc hq;go_upto_region 2 with fail
     refine aL (by kernel_rfl) (by kernel_rfl) ?_
     repeat(go_big_quiet_step (with_reducible exact K1.out _))
     refine Ln ?_;rintro _ ⟨kw,rfl⟩;replace HBL:=qD (HBL.out.Jp kw.below);generalize kw.val=w5 at*;clear X0 Y0 K1 i2;by_cases hc:bm q.1 x.1<0
     ·have HL2:Hid (∀i y,i<k+1->l[i]?=some y->vv y.1 x.1):=qD fun i y hi hy=>by
       by_cases e:i=k
       ·subst e;obtain rfl:y=q:=by have:=hy.symm.trans HQ.out;simpa using this
        exact hc
       ·exact HLO.out i y (by omega) hy
      go_wp2_with fail;go_roundw
      ·exact⟨k+1,by omega,by go_num,HL2.out,HBL.out⟩
      ·simp[intOf];omega
     ·have HAT:Hid (Fo vv l x k):=qD ⟨by have:=HLN.out;omega,HLO.out,fun y hy=>by
       obtain rfl:y=q:=by have:=hy.symm.trans HQ.out;simpa using this
       exact hc⟩
      go_wp2_with fail;go_meet;exact⟨k,by omega,rfl,HAT.out,HBL.out⟩
    ·have HAT:Hid (Fo vv l x k):=qD ⟨by have:=HLN.out;omega,HLO.out,fun y hy=>by
      have:=(LJ.1 hy).1
      have:=HLN.out
      omega⟩
     have hki':decide ((k:Int)<(n:Int))=false:=LW (by omega);go_upto_region 2 with fail
     go_quiet (fail)
     go_wp2_with fail;go_meet;exact⟨k,by omega,rfl,HAT.out,HBL.out.Jp (Below.drewN (LH _ _) _)⟩
  case rest=>
   obtain⟨k,hk,rfl,hat,hbel⟩:=hcut;have HAT:=qD hat;replace HO:=qD (aV HO.out hbel);replace BX:=qD (BX.out.step hbel);replace HBC:=qD (HBC.out.Jp hbel);replace HB:=qD (Lt HB.out hbel.size);clear hat hbel;by_cases hlt:k<n
   ·obtain⟨q,hq⟩:∃q,l[k]?=some q:=⟨_,LI (by have:=HLN.out;omega)⟩;have hqc:=(iA HO.out (bg aw hq (j:=0) (v:=.string q.1) rfl)).1;have hqd:=(iA HO.out (bg aw hq (j:=1) (v:=.string q.2) rfl)).1;have X0:∀kk:BW wc,kk.val.cell? ⟨g,k*2,none⟩=some (.string q.1):=fun kk=>kk.cell (by simpa using hqc);have X1:∀kk:BW wc,kk.val.cell? ⟨g,k*2+1,none⟩=some (.string q.2):=fun kk=>kk.cell hqd;have Y0:∀kk:BW wc,kk.val.cell? ⟨w.heap.size,0,none⟩=some (.string x.1):=fun kk=>kk.cell (BX.out.cell 0);have Y1:∀kk:BW wc,kk.val.cell? ⟨w.heap.size,1,none⟩=some (.string x.2):=fun kk=>kk.cell (BX.out.cell 1);have HQ:=qD hq;have i0:(0:Int)<=(k:Int):=by omega
    have i1:(k:Int)<(n:Int):=by omega
    have i2:decide ((k:Int)<(n:Int))=true:=LN i1;clear hqc hqd hq;go_upto_region 4 with fail
    refine aL (by kernel_rfl) (by kernel_rfl) ?_;have hEQ:=oo q x;obtain⟨z,hz⟩:∃z,z=decide (q=x):=⟨_,rfl⟩;rw[<-hz] at hEQ;have HZ:=qD hz;clear hz
    repeat(go_big_quiet_step (fail))
    go_big_quiet_want
    refine qE q x HZ.out rfl rfl rfl ?_;go_frame
    go_big_quiet_on
    repeat(go_big_quiet_step (fail))
    refine Ln ?_;rintro _ ⟨kw,rfl⟩;replace HO:=qD (aV HO.out kw.below);replace BX:=qD (BX.out.step kw.below);replace HBC:=qD (HBC.out.Jp kw.below);replace HB:=qD (Lt HB.out kw.below.size);generalize kw.val=wd at*;clear X0 X1 Y0 Y1 hEQ i2;cases z
    ·have HNO:Hid (l[k]?≠some x):=by
      rw[Hid,HQ.out];have:=HZ.out;intro e;simp at this;exact this (by simpa using e)
     clear HZ HQ;go_upto_region 6 with fail
     have N0:Hid (qH wd (.slice none 0 0) 0 [] wd):=qD ⟨bC _ _ _ _,LH _ _⟩;have HRd:=qD (cP.Jt HO.out)
     have R1:Hid (cP wd wd.heap.size 2 (some ⟨g,0,none⟩) k (aJ aY (l.take k))):=by
      have:=HRd.out.take hk;rw[jH aw] at this;exact this
     have R2:Hid (cP wd wd.heap.size 2 (if c=k then some ⟨g,0,none⟩ else(some (⟨g,0,none⟩:Addr)).map (·.add (k*2))) (n-k) (aJ aY (l.drop k))):=by
      have:=HRd.out.cut hk hnc;rw[gn aw] at this;exact this
     have q0:=BX.out.cell 0;have q1:=BX.out.cell 1;simp at q0 q1;have hc0:(c=0)=False:=by simp;omega
     have hck:c≠k:=by omega
     rw[LU hck] at R2;simp only[Mj,bn,LL] at R2;have hck':(c=k)=False:=by simp;omega
     go_wp2_with (at_builtin;refine aD _ rfl _ _ 47 rfl wd.heap.size 49 j0 (.agg #[.string empty,.string empty]) 2 32 MJ hj0 hy0 hy1 hy2 rfl (by decide) (.slice none 0 0) 0 (aJ aY ([])) rfl N0.out.own _ _ k _ (aJ aY (l.take k)) rfl R1.out ?c1 (by unfold maxLen;omega) (by omega) (qL) ?_)
     case c1=>exact fO _
     intro v1 w1 ho1 hg1 _;have N1:Hid (qH wd v1 k ([]++l.take k) w1):=qD (N0.out.next rfl (by omega) ho1 hg1);have BX1:=qD (BX.out.step N1.out.bel);clear ho1 hg1 q0 q1;have q0:=BX1.out.cell 0;have q1:=BX1.out.cell 1;simp at q0 q1;have hw1:=N1.out.bel.size;go_wp2_with (at_builtin;refine aD _ rfl _ _ 47 rfl wd.heap.size 49 j0 (.agg #[.string empty,.string empty]) 2 32 MJ hj0 hy0 hy1 hy2 rfl (by decide) v1 k (aJ aY ([]++l.take k)) rfl (N1.out.alloc _).own _ _ 1 _ (aY x) rfl ⟨rfl,fun _=>⟨_,rfl,Lo _,ap _ _ _⟩⟩ ?c1 (by unfold maxLen;omega) (by omega) (af hw1 _) ?_)
     case c1=>exact dR x
     intro v2 w2 ho2 hg2 _;have N2:Hid (qH wd v2 (k+1) ([]++l.take k++[x]) w2):=qD ((N1.out.alloc _).next (by simp[aJ]) (by omega) ho2 hg2);clear ho2 hg2 q0 q1;have hw2:=N2.out.bel.size;go_wp2_with (at_builtin;refine aD _ rfl _ _ 47 rfl wd.heap.size 49 j0 (.agg #[.string empty,.string empty]) 2 32 MJ hj0 hy0 hy1 hy2 rfl (by decide) v2 (k+1) (aJ aY ([]++l.take k++[x])) rfl N2.out.own _ _ (n-k) _ (aJ aY (l.drop k)) rfl (R2.out.below N2.out.bel) ?c1 (by unfold maxLen;omega) (by omega) hw2 ?_)
     case c1=>exact fO _
     intro v3 w3 ho3 hg3 _;have N3:Hid (qH wd v3 (k+1+(n-k)) ([]++l.take k++[x]++l.drop k) w3):=qD (N2.out.next rfl (by omega) ho3 hg3);clear ho3 hg3;go_wp2_with fail;go_ret;exact N3.out.ins HAT.out HNO.out (by have:=HLN.out;omega) HB.out HBC.out
    ·have hy:l[k]?=some x:=by
      rw[HQ.out];have:=HZ.out;simp at this;rw[this]
     go_wp2_with fail;go_ret;refine⟨_,l,rfl,by rw[HLN.out];exact HO.out,⟨k,HAT.out,by rw[LZ hy]⟩,HBC.out,by omega,?_⟩;rintro rfl;simp at hy
   ·have hki':decide ((k:Int)<(n:Int))=false:=LW (by omega)
    have HNO:Hid (l[k]?≠some x):=qD fun e=>by
     have:=(LJ.1 e).1;have:=HLN.out;omega
    go_upto_region 4 with fail
    go_quiet (fail)
    go_upto_region 6 with fail
    refine oe ?_;intro wd hwd;have B9:Hid (Below wc.heap.size wc wd):=by rw[Hid,hwd];exact(LH _ _).drewN _
    replace HO:=qD (aV HO.out B9.out);replace BX:=qD (BX.out.step B9.out);replace HBC:=qD (HBC.out.Jp B9.out);replace HB:=qD (Lt HB.out B9.out.size);clear hwd B9;have N0:Hid (qH wd (.slice none 0 0) 0 [] wd):=qD ⟨bC _ _ _ _,LH _ _⟩;have HRd:=qD (cP.Jt HO.out)
    have R1:Hid (cP wd wd.heap.size 2 (some ⟨g,0,none⟩) k (aJ aY (l.take k))):=by
     have:=HRd.out.take hk;rw[jH aw] at this;exact this
    have R2:Hid (cP wd wd.heap.size 2 (if c=k then some ⟨g,0,none⟩ else(some (⟨g,0,none⟩:Addr)).map (·.add (k*2))) (n-k) (aJ aY (l.drop k))):=by
     have:=HRd.out.cut hk hnc;rw[gn aw] at this;exact this
    have q0:=BX.out.cell 0;have q1:=BX.out.cell 1;simp at q0 q1;have hc0:(c=0)=False:=by simp;omega
    by_cases hck:c=k
    ·subst hck;simp only[Ou] at R2;rw[show n-c=0 by omega] at R2;go_wp2_with (at_builtin;refine aD _ rfl _ _ 47 rfl wd.heap.size 49 j0 (.agg #[.string empty,.string empty]) 2 32 MJ hj0 hy0 hy1 hy2 rfl (by decide) (.slice none 0 0) 0 (aJ aY ([])) rfl N0.out.own _ _ c _ (aJ aY (l.take c)) rfl R1.out ?c1 (by unfold maxLen;omega) (by omega) (qL) ?_)
     case c1=>exact fO _
     intro v1 w1 ho1 hg1 _;have N1:Hid (qH wd v1 c ([]++l.take c) w1):=qD (N0.out.next rfl (by omega) ho1 hg1);have BX1:=qD (BX.out.step N1.out.bel);clear ho1 hg1 q0 q1;have q0:=BX1.out.cell 0;have q1:=BX1.out.cell 1;simp at q0 q1;have hw1:=N1.out.bel.size;go_wp2_with (at_builtin;refine aD _ rfl _ _ 47 rfl wd.heap.size 49 j0 (.agg #[.string empty,.string empty]) 2 32 MJ hj0 hy0 hy1 hy2 rfl (by decide) v1 c (aJ aY ([]++l.take c)) rfl (N1.out.alloc _).own _ _ 1 _ (aY x) rfl ⟨rfl,fun _=>⟨_,rfl,Lo _,ap _ _ _⟩⟩ ?c1 (by unfold maxLen;omega) (by omega) (af hw1 _) ?_)
     case c1=>exact dR x
     intro v2 w2 ho2 hg2 _;have N2:Hid (qH wd v2 (c+1) ([]++l.take c++[x]) w2):=qD ((N1.out.alloc _).next (by simp[aJ]) (by omega) ho2 hg2);clear ho2 hg2 q0 q1;have hw2:=N2.out.bel.size;go_wp2_with (at_builtin;refine aD _ rfl _ _ 47 rfl wd.heap.size 49 j0 (.agg #[.string empty,.string empty]) 2 32 MJ hj0 hy0 hy1 hy2 rfl (by decide) v2 (c+1) (aJ aY ([]++l.take c++[x])) rfl N2.out.own _ _ 0 _ (aJ aY (l.drop c)) rfl (R2.out.below N2.out.bel) ?c1 (by unfold maxLen;omega) (by omega) hw2 ?_)
     case c1=>exact fO _
     intro v3 w3 ho3 hg3 _;have N3:Hid (qH wd v3 (c+1+0) ([]++l.take c++[x]++l.drop c) w3):=qD (N2.out.next rfl (by omega) ho3 hg3);clear ho3 hg3;go_wp2_with fail;go_ret;exact N3.out.ins HAT.out HNO.out (by have:=HLN.out;omega) HB.out HBC.out
    ·rw[LU hck] at R2;simp only[Mj,bn,LL] at R2;have hck':(c=k)=False:=by simp;omega
     go_wp2_with (at_builtin;refine aD _ rfl _ _ 47 rfl wd.heap.size 49 j0 (.agg #[.string empty,.string empty]) 2 32 MJ hj0 hy0 hy1 hy2 rfl (by decide) (.slice none 0 0) 0 (aJ aY ([])) rfl N0.out.own _ _ k _ (aJ aY (l.take k)) rfl R1.out ?c1 (by unfold maxLen;omega) (by omega) (qL) ?_)
     case c1=>exact fO _
     intro v1 w1 ho1 hg1 _;have N1:Hid (qH wd v1 k ([]++l.take k) w1):=qD (N0.out.next rfl (by omega) ho1 hg1);have BX1:=qD (BX.out.step N1.out.bel);clear ho1 hg1 q0 q1;have q0:=BX1.out.cell 0;have q1:=BX1.out.cell 1;simp at q0 q1;have hw1:=N1.out.bel.size;go_wp2_with (at_builtin;refine aD _ rfl _ _ 47 rfl wd.heap.size 49 j0 (.agg #[.string empty,.string empty]) 2 32 MJ hj0 hy0 hy1 hy2 rfl (by decide) v1 k (aJ aY ([]++l.take k)) rfl (N1.out.alloc _).own _ _ 1 _ (aY x) rfl ⟨rfl,fun _=>⟨_,rfl,Lo _,ap _ _ _⟩⟩ ?c1 (by unfold maxLen;omega) (by omega) (af hw1 _) ?_)
     case c1=>exact dR x
     intro v2 w2 ho2 hg2 _;have N2:Hid (qH wd v2 (k+1) ([]++l.take k++[x]) w2):=qD ((N1.out.alloc _).next (by simp[aJ]) (by omega) ho2 hg2);clear ho2 hg2 q0 q1;have hw2:=N2.out.bel.size;go_wp2_with (at_builtin;refine aD _ rfl _ _ 47 rfl wd.heap.size 49 j0 (.agg #[.string empty,.string empty]) 2 32 MJ hj0 hy0 hy1 hy2 rfl (by decide) v2 (k+1) (aJ aY ([]++l.take k++[x])) rfl N2.out.own _ _ (n-k) _ (aJ aY (l.drop k)) rfl (R2.out.below N2.out.bel) ?c1 (by unfold maxLen;omega) (by omega) hw2 ?_)
     case c1=>exact fO _
     intro v3 w3 ho3 hg3 _;have N3:Hid (qH wd v3 (k+1+(n-k)) ([]++l.take k++[x]++l.drop k) w3):=qD (N2.out.next rfl (by omega) ho3 hg3);clear ho3 hg3;go_wp2_with fail;go_ret;exact N3.out.ins HAT.out HNO.out (by have:=HLN.out;omega) HB.out HBC.out
theorem rE{α:Type}{l:List α}{i:Nat}{v:α}(h:l[i]?=some v):l.set i v=l:=by
 apply List.ext_getElem?;intro j;rw[List.getElem?_set];split
 ·rename_i e
  subst e;rw[h];have:=(LJ.1 h).1;simp[this]
 ·rfl
def Fy(xs:List B2)(w:World)(e:Ending)(w':World):Prop:=
 ∃A m c,e=.returned (.slice A m c)/\SR 2 aY w' A m c (dm empty xs)/\m<=xs.length/\Below w.heap.size w w'
theorem oJ(Q:List B2)(base m:Nat)(v:Value)(w2:World)(h:w2.ownsRow base 49 2 v m (aJ aY Q))(hn:Q.length=m)(hz:m<=4000000000):
 Calls prog 125 #[v] w2 (Fy Q w2):=by
 obtain⟨j0,hj0,hy0,hy1,hy2⟩:=Mc fq;have HQL:=qD hn;obtain⟨A,c,rfl,hsr⟩:=SR.Jt aw h hn;have HSR:=qD hsr;have mz:m<=4000000000:=hz;clear h hn hz hsr;go_enter func125,ntmps125;go_upto_region 3 with fail
 go_loopw [3,4,5] (fun v3 v4 _ wr=>∃(i l:Nat),i<=m/\v4=.int .i64 i/\zE w2 Q i l v3 wr) (fun _ v4 _ _=>m-(intOf v4).toNat)
 ·exact⟨0,0,LQ _,rfl,bC _ _ _ _,LH _ _,rfl⟩
 case round=>
  obtain⟨i,l,hi,rfl,hI⟩:=hrel;have HI:=qD hI;obtain⟨A3,c3,rfl,hlc⟩:=aa hI.own;have HLM:Hid (l<=i):=by have:=vl empty Q i;rw[hI.ln] at this;exact qD this
  clear hI;by_cases hlt:i<m
  ·obtain⟨b,off,r,rfl,hb,hr,_,hrg⟩:=HSR.out.row hlt;have HR:=qD hr;have e0:=(HI.out.bel.cell (p:=⟨b,off+i*2,none⟩) hb).trans (hrg 0 _ rfl);have e1:=(HI.out.bel.cell (p:=⟨b,off+i*2+1,none⟩) hb).trans (hrg 1 _ rfl)
   have HC:Hid (∀wz,Below wr.heap.size wr wz->wz.cell? ⟨b,off+i*2,none⟩=some (.string r.1)/\wz.cell? ⟨b,off+i*2+1,none⟩=some (.string r.2)):=qD fun wz hbz=>by
    have hbb:b<wr.heap.size:=Mv hb HI.out.bel.size;exact⟨(hbz.cell (p:=⟨b,off+i*2,none⟩) hbb).trans e0,(hbz.cell (p:=⟨b,off+i*2+1,none⟩) hbb).trans e1⟩
   have i0:(0:Int)<=(i:Int):=by omega
   have i1:(i:Int)<(m:Int):=by omega
   have lz:l<=4000000000:=by have:=HLM.out;omega
   have X0:∀kk:BW wr,kk.val.cell? ⟨b,off+i*2,none⟩=some (.string r.1):=fun kk=>kk.cell e0;clear hr hrg;rcases MH l with rfl|hl0
   ·go_upto_region 6 with fail
    clear e0 e1;refine aL (by kernel_rfl) (by kernel_rfl) ?_
    repeat(go_big_quiet_step (fail))
    refine Ln ?_;rintro _ ⟨kw,rfl⟩;obtain⟨e0,e1⟩:=HC.out _ kw.below;clear X0 HC;replace HI:=qD (HI.out.step kw.below);generalize kw.val=w5 at*;go_wp2_with (at_builtin;refine aD _ rfl _ _ 47 rfl w2.heap.size 49 j0 (.agg #[.string empty,.string empty]) 2 32 MJ hj0 hy0 hy1 hy2 rfl (by decide) (.slice A3 0 c3) 0 (aJ aY (dm empty (Q.take i))) rfl (HI.out.own.alloc _) _ _ 1 _ (aY r) rfl ⟨rfl,fun _=>⟨_,rfl,Lo _,ap _ _ _⟩⟩ (dR _) (by unfold maxLen;omega) (by omega) (af HI.out.bel.size _) ?_);intro v' w6 hown hgr hat
    have HX:Hid (zE w2 Q (i+1) (0+1) v' w6):=by
     have e:dm empty (Q.take (i+1))=dm empty (Q.take i)++[r]:=by
      rw[ef HR.out]
      exact jN (fun qq hq=>by
       have h0:=HI.out.ln
       have h1:=(LJ.1 hq).1
       omega)
     refine⟨?_,(HI.out.bel.alloc HI.out.bel.size _).grown hgr (af HI.out.bel.size _) (bU HI.out.own),?_⟩
     ·rw[e,bN];exact hown
     ·rw[e,LM,HI.out.ln];rfl
    clear hown hgr hat e0 e1;go_wp2_with fail;go_roundw
    ·exact⟨i+1,0+1,by omega,by go_num,HX.out⟩
    ·simp[intOf];omega
   ·obtain⟨l',rfl⟩:∃l',l=l'+1:=⟨l-1,by omega⟩;obtain⟨g,c4,hA3,hg,hgl⟩:=qG HI.out.own (by omega);injection hA3 with hA3 _ hc34
    subst hA3 hc34;obtain⟨q,hq,hqc,hqf⟩:=HI.out.last;have HQQ:=qD hq;have Y0:∀kk:BW wr,kk.val.cell? ⟨g,l'*2+1,none⟩=some (.string q.2):=fun kk=>kk.cell hqc;have l0:(0:Int)<=(l':Int):=by omega
    have l1:(l':Int)<(l':Int)+1:=by omega
    have l2:(0:Int)<(l':Int)+1:=by omega
    clear hq hqc hqf hl0;go_upto_region 6 with fail
    clear e0 e1;obtain⟨z1,hz1⟩:∃z,(q.2.toList==r.1.toList)=z:=⟨_,rfl⟩;obtain⟨z2,hz2⟩:∃z,r.1.toList.isEmpty=z:=⟨_,rfl⟩;rcases(show z1=false\/(z1=true/\z2=true)\/(z1=true/\z2=false) by clear hz1 hz2;revert z1 z2;decide) with rfl|⟨rfl,rfl⟩|⟨rfl,rfl⟩
    case' inl|inr.inl=>
     refine aL (by kernel_rfl) (by kernel_rfl) ?_
     repeat(go_big_quiet_step (fail))
     refine Ln ?_;rintro _ ⟨kw,rfl⟩;obtain⟨e0,e1⟩:=HC.out _ kw.below;clear X0 Y0 HC;replace HI:=qD (HI.out.step kw.below);generalize kw.val=w5 at*
     have HNO:Hid (¬(q.2≠empty/\q.2=r.1)):=qD fun h=>by
      first
       | exact absurd ((lC _ _).2 h.2) (by simpa using hz1)
       | exact h.1 (h.2.trans ((iT _).1 (Nq.1 hz2)))
     clear hz1 hz2;go_wp2_with (at_builtin;refine aD _ rfl _ _ 47 rfl w2.heap.size 49 j0 (.agg #[.string empty,.string empty]) 2 32 MJ hj0 hy0 hy1 hy2 rfl (by decide) (.slice (some ⟨g,0,none⟩) (l'+1) c3) (l'+1) (aJ aY (dm empty (Q.take i))) rfl (HI.out.own.alloc _) _ _ 1 _ (aY r) rfl ⟨rfl,fun _=>⟨_,rfl,Lo _,ap _ _ _⟩⟩ (dR _) (by unfold maxLen;omega) (by omega) (af HI.out.bel.size _) ?_);intro v' w6 hown hgr hat
     have HX:Hid (zE w2 Q (i+1) ((l'+1)+1) v' w6):=by
      have e:dm empty (Q.take (i+1))=dm empty (Q.take i)++[r]:=by
       rw[ef HR.out]
       exact jN (fun qq hq=>by
        have h0:=HI.out.ln
        have h1:(dm empty (Q.take i))[l']?=some q:=HQQ.out
        rw[h0,Oh,h1] at hq
        obtain rfl:=Mk hq
        exact HNO.out)
      refine⟨?_,(HI.out.bel.alloc HI.out.bel.size _).grown hgr (af HI.out.bel.size _) (bU HI.out.own),?_⟩
      ·rw[e,bN];exact hown
      ·rw[e,LM,HI.out.ln];rfl
     clear hown hgr hat e0 e1;go_wp2_with fail;go_roundw
     ·exact⟨i+1,(l'+1)+1,by omega,by go_num,HX.out⟩
     ·simp[intOf];omega
    ·refine aL (by kernel_rfl) (by kernel_rfl) ?_
     repeat(go_big_quiet_step (fail))
     refine Ln ?_;rintro _ ⟨kw,rfl⟩;obtain⟨e0,e1⟩:=HC.out _ kw.below;clear X0 Y0 HC;replace HI:=qD (HI.out.step kw.below);generalize kw.val=w5 at*
     have HEQ:Hid (q.2≠empty/\q.2=r.1):=by
      have e:q.2=r.1:=(lC _ _).1 (by simpa using hz1);refine qD ⟨fun k=>?_,e⟩;rw[e] at k;rw[k] at hz2;exact absurd (Nq.2 ((iT _).2 rfl)) (by rw[hz2];decide)
     clear hz1 hz2;obtain⟨h1,h1f⟩:=iA HI.out.own (bg aw HQQ.out (j:=0) (v:=.string q.1) rfl);obtain⟨h2,h2f⟩:=iA HI.out.own (bg aw HQQ.out (j:=1) (v:=.string q.2) rfl);simp only[Ms] at h1 h1f;clear e0;go_upto_region 7 with fail
     go_region
     all_goals
      go_wp2_with fail;go_roundw
      case rel=>
       have e:dm empty (Q.take (i+1))=(dm empty (Q.take i)).set l' (q.1,r.2):=by
        rw[ef HR.out];exact nQ HI.out.ln HQQ.out HEQ.out.1 HEQ.out.2
       refine⟨i+1,l'+1,by omega,by go_num,?_,?_,?_⟩
       ·rw[e,<-sO HQQ.out];have ho:=qF (qF HI.out.own (l'*2) (.string q.1)) (l'*2+1) (.string r.2);have h00:(aJ aY (dm empty (Q.take i)))[l'*2]?=some (.string q.1):=by simpa using bg aw HQQ.out (j:=0) (v:=.string q.1) rfl
        rw[rE h00] at ho;exact ho
       ·exact(MR (p:=⟨g,l'*2+1,none⟩) (MR (p:=⟨g,l'*2,none⟩) HI.out.bel hg _) hg _).drew
       ·rw[e,NK];exact HI.out.ln
      case measure=>simp[intOf];omega
  ·obtain rfl:i=m:=by omega
   have hq:Q.take i=Q:=LS (by have:=HQL.out;omega)
   have HF:Hid (SR 2 aY wr A3 l c3 (dm empty Q)):=by
    obtain⟨A',c',he,hs⟩:=SR.Jt aw HI.out.own HI.out.ln;injection he with h1 h2 h3
    subst h1 h3;rw[hq] at hs;exact qD hs
   go_wp2_with fail;go_ret;exact⟨A3,l,c3,rfl,HF.out,by have:=HLM.out;have:=HQL.out;omega,HI.out.bel⟩
theorem AR{w:World}{g:Nat}{t:TypeId}{q:B2}(h:aE w g t #[.string q.1,.string q.2]):SR 2 aY w (some ⟨g,0,none⟩) 1 1 [q]:=by
 refine⟨rfl,qL,fun _=>⟨g,0,rfl,h.lt,fun i a hi j v hj=>?_⟩⟩
 match i,hi with
 | 0,hi=>
  obtain rfl:a=q:=by simpa using hi.symm
  match j,hj with
  | 0,hj=>
   obtain rfl:v=.string a.1:=by simpa[aY] using hj.symm
   exact h.cell 0
  | 1,hj=>
   obtain rfl:v=.string a.2:=by simpa[aY] using hj.symm
   exact h.cell 1
  | j+2,hj=>simp[aY] at hj
 | i+1,hi=>simp at hi
def ES(ha:Bool)(S:cA->Prop)(w:World)(e:Ending)(w':World):Prop:=
 ∃A m c nf L,e=.returned (.slice A m c)/\fg S nf/\EJ ha nf L/\SR 2 aY w' A m c L/\m<=1000000000/\Below w.heap.size w w'
theorem zF(p:ao)(ha:Bool)(l:List ByteArray)(o:OC)(kb ko kn kc:Nat)(w:World)(hT:cg w)(hk0:0<kn)(hko:w.cell? ⟨kb,ko,none⟩=some (.slice o.A o.n o.c))(hl:ST w o.A o.n o.c l)(hw:WP w p)(hv:od p)(hz:p.sz<=300000000)(hG:cV (dE l p).1):
 Calls prog 12 #[.agg #[.slice (some ⟨kb,ko,none⟩) kn kc,.bool ha],am p] w (ES ha (dE l p).1 w):=by
 obtain⟨j0,hj0,hy0,hy1,hy2⟩:=Mc fq;have HT:=qD hT;have HGO:=qD hG;have HZ:=qD hz;have HO:Hid (∀wr,Below w.heap.size w wr->Calls prog 36 #[am p,.slice o.A o.n o.c] wr (dO (dE l p) p.sz wr)):=qD fun wr hb=>Gu p _ _ _ l wr (hw.step hb) hv (hT.step hb) (hl.step hb) hz;have hbw:=Lr w _ hko;have hbw:kb<w.heap.size:=hbw;have n0b:((kn:Int)==0)=false:=by simp;omega
 have i1':(0:Int)<(kn:Int):=by omega
 have B0:Hid (aE ((w.alloc (.cells #[.slice (some ⟨kb,ko,none⟩) kn kc,.bool ha] 24)).alloc (.cells (aH p) 38)) w.heap.size 24 #[.slice (some ⟨kb,ko,none⟩) kn kc,.bool ha]):=(aE.Jq rfl).alloc _;have B1:Hid (aE ((w.alloc (.cells #[.slice (some ⟨kb,ko,none⟩) kn kc,.bool ha] 24)).alloc (.cells (aH p) 38)) (w.heap.size+1) 38 (aH p)):=aE.Jq (by simp);have BE:Hid (Below w.heap.size w ((w.alloc (.cells #[.slice (some ⟨kb,ko,none⟩) kn kc,.bool ha] 24)).alloc (.cells (aH p) 38))):=((LH _ _).alloc (qL) _).alloc (by simp) _;clear hT hl hw hv hz hG;go_enter func12,ntmps12;go_upto_region 1 with fail
 change Code.wp _ _ _ _ ((w.alloc (.cells #[.slice (some ⟨kb,ko,none⟩) kn kc,.bool ha] 24)).alloc (.cells (aH p) 38));generalize ((w.alloc (.cells #[.slice (some ⟨kb,ko,none⟩) kn kc,.bool ha] 24)).alloc (.cells (aH p) 38))=wa at*;have k0:=B0.out.cell 0;have k1:=B0.out.cell 1;simp at k0 k1;go_upto_region 3 with fail
 have eko:=(BE.out.cell (p:=⟨kb,ko,none⟩) hbw).trans hko;have lbk:kb<wa.heap.size:=Mv hbw BE.out.size;have B:=qD ((LH wa.heap.size wa).drewN 1);have KS:Hid (∀w',Below wa.heap.size wa w'->(Instr.loadAt 38 (.pointer (some ⟨w.heap.size+1,0,none⟩))).run prog w'=.ok (am p) w'/\w'.cell? ⟨w.heap.size,0,none⟩=some (.slice (some ⟨kb,ko,none⟩) kn kc)/\w'.cell? ⟨kb,ko,none⟩=some (.slice o.A o.n o.c)):=qD fun w' hb=>⟨gq (aH p) rfl _ _ (B1.out.step hb),(hb.cell (p:=⟨w.heap.size,0,none⟩) B0.out.lt).trans k0,(hb.cell (p:=⟨kb,ko,none⟩) lbk).trans eko⟩;clear k0 k1 eko
 go_cut [5] (fun v5 wx=>∃(A3:Option Addr) (m3 c3:Nat) (ys:List PI) (nf:List (cA×cA)),v5=.slice A3 m3 c3/\ys.map ar=nf.map dr/\fg (dE l p).1 nf/\m3<=p.sz/\SI wx A3 m3 c3 ys/\Below wa.heap.size wa wx)
 case first=>
  refine MX ?_;refine ML (S:=(fun w'=>(Instr.loadAt 38 (.pointer (some ⟨w.heap.size+1,0,none⟩))).run prog w'=.ok (am p) w'/\w'.cell? ⟨w.heap.size,0,none⟩=some (.slice (some ⟨kb,ko,none⟩) kn kc)/\w'.cell? ⟨kb,ko,none⟩=some (.slice o.A o.n o.c))) (by kernel_rfl) ?_ (fun hHeld=>?_)
  ·(try dsimp only);exact KS.out _ B.out
  refine rT (v:=am p) 0 rfl ?_ ?_
  (skip)
  ·intro w' hSw;exact cM (p:=.pointer (some ⟨w.heap.size+1,0,none⟩)) rfl rfl hSw.1
  try go_frame
  refine rT (v:=?_) 1 rfl ?_ ?_;rotate_left
  ·intro w' hSw;(try dsimp only at hSw);obtain⟨_,hSw1,hSw2⟩:=hSw;go_simp;(try with_reducible rfl)
  try go_frame
  refine rT (v:=?_) 2 rfl ?_ ?_;rotate_left
  ·intro w' hSw;(try dsimp only at hSw);obtain⟨_,hSw1,hSw2⟩:=hSw;go_simp;(try with_reducible rfl)
  try go_frame
  refine rT (v:=?_) 3 rfl ?_ ?_;rotate_left
  ·intro w' hSw;(try dsimp only at hSw);obtain⟨_,hSw1,hSw2⟩:=hSw;go_simp;(try with_reducible rfl)
  try go_frame
  refine rT (v:=?_) 4 rfl ?_ ?_;rotate_left
  ·intro w' hSw;(try dsimp only at hSw);obtain⟨_,hSw1,hSw2⟩:=hSw;go_simp;(try with_reducible rfl)
  try go_frame
  refine rT (v:=?_) 5 rfl ?_ ?_;rotate_left
  ·intro w' hSw;(try dsimp only at hSw);obtain⟨_,hSw1,hSw2⟩:=hSw;go_simp;(try with_reducible rfl)
  try go_frame
  refine rY 6 rfl fun K hK=>?_;go_simp;refine(HO.out _ (BE.out.Jp B.out)).mono ?_;rintro e3 w3 ⟨A3,m3,c3,ys,nf,rfl,hy,hnf,hmk,hsi,hb3,hfr⟩;replace B:=qD (B.out.Jp hb3);have HS3:=qD hsi;have HY3:=qD hy;have HN3:=qD hnf;have HM3:=qD hmk;clear hb3 hsi hy hnf hmk hfr
  (try go_wp2_with fail)
  clear hHeld;refine hK.out _ _ ?_ fun hHeld=>?_
  ·(try dsimp only);exact KS.out _ B.out
  clear hK K
  try go_frame
  refine rT (v:=?_) 7 rfl ?_ ?_;rotate_left
  ·intro w' hSw;(try dsimp only at hSw);obtain⟨_,hSw1,hSw2⟩:=hSw;go_simp;(try with_reducible rfl)
  try go_frame
  refine rT (v:=?_) 8 rfl ?_ ?_;rotate_left
  ·intro w' hSw;(try dsimp only at hSw);obtain⟨_,hSw1,hSw2⟩:=hSw;go_simp;(try with_reducible rfl)
  try go_frame
  refine rT (v:=?_) 9 rfl ?_ ?_;rotate_left
  ·intro w' hSw;(try dsimp only at hSw);obtain⟨_,hSw1,hSw2⟩:=hSw;go_simp;(try with_reducible rfl)
  try go_frame
  refine rT (v:=?_) 10 rfl ?_ ?_;rotate_left
  ·intro w' hSw;(try dsimp only at hSw);obtain⟨_,hSw1,hSw2⟩:=hSw;go_simp;(try with_reducible rfl)
  try go_frame
  refine rT (v:=?_) 11 rfl ?_ ?_;rotate_left
  ·intro w' hSw;(try dsimp only at hSw);obtain⟨_,hSw1,hSw2⟩:=hSw;go_simp;(try with_reducible rfl)
  try go_frame
  refine rD ?_ _;refine Mf ?_
  all_goals
   go_wp2_with fail;go_meet;exact⟨A3,m3,c3,ys,nf,rfl,HY3.out,HN3.out,HM3.out,HS3.out,B.out⟩
 case rest=>
  obtain⟨A3,m3,c3,ys,nf,rfl,hy3,hn3,hm3,hs3,hb3'⟩:=hcut;have HS3:=qD hs3;have HY3:=qD hy3;have HN3:=qD hn3;have HM3:=qD hm3;have C0:=qD (B0.out.step hb3');have CE:=qD (BE.out.Jp hb3');clear KS B B0 B1 BE HO lbk hs3 hy3 hn3 hm3 hb3';generalize wc=w3 at*;go_upto_region 6 with fail
  cases ha
  ·go_loopw [7,9,10,11,30] (fun u7 _ _ _ u30 wr=>∃i:Nat,i<=m3/\u30=.int .i64 i/\aE wr w.heap.size 24 #[.slice (some ⟨kb,ko,none⟩) kn kc,.bool false]/\Below w3.heap.size w3 wr/\wr.ownsRow w3.heap.size 49 2 u7 i (aJ aY ((nf.take i).map eB))) (fun _ _ _ _ u30 _=>m3-(intOf u30).toNat)
   ·exact⟨0,LQ _,rfl,C0.out,LH _ _,bC _ _ _ _⟩
   case round=>
    obtain⟨i,hi,rfl,D0,DE,hown⟩:=hrel;have HB:=qD (CE.out.Jp DE);have HD0:=qD D0;have HDE:=qD DE;have HOW:=qD hown;obtain⟨A6,c6,rfl,_⟩:=aa hown;by_cases hlt:i<m3
    ·obtain⟨y,hy⟩:∃y,ys[i]?=some y:=⟨_,LI (by have:=HS3.out.sr.ln;omega)⟩
     obtain⟨s,hs,hys⟩:∃s,nf[i]?=some s/\ar y=dr s:=by
      have h1:=congrArg (fun l=>l[i]?) HY3.out;simp only[LV,hy,Mj] at h1;obtain⟨s,h2,h3⟩:=Mn.1 h1.symm;exact⟨s,h2,h3.symm⟩
     have HVO:=qD (HGO.out.nf HN3.out (LP hs))
     have HTK:Hid ((nf.take (i+1)).map eB=(nf.take i).map eB++[eB s]):=by
      rw[Hid,MW,hs,Lc];rfl
     obtain⟨b,off,rfl,hb3,hat,hok⟩:=HS3.out.at (i:=i) (p:=y) hy;obtain⟨⟨a0,a1,a2,a3,a4⟩,⟨b0,b1,b2,b3,b4⟩,b5,b6⟩:=hat.keep (DE.block b hb3);have HOK:=qD hok;have HYS:=qD hys;have z1:i+1<=maxLen:=by have h1:=HM3.out;have h2:=HZ.out;unfold maxLen;omega
     have z2:(i+1)*32<=140737488355328:=by have h1:=HM3.out;have h2:=HZ.out;omega
     have i0:(0:Int)<=(i:Int):=by omega
     have i1:(i:Int)<(m3:Int):=by omega
     clear hat hok DE D0 hown hs hys hy;go_upto_region 8 with fail
     change Code.wp _ _ _ _ (wr.alloc (.cells (aM y) 84));have JB:Hid (aE (wr.alloc (.cells (aM y) 84)) wr.heap.size 84 (aM y)):=aE.Jq rfl;have E0:=qD (HD0.out.alloc (.cells (aM y) 84));have ED:=qD (HDE.out.alloc HDE.out.size (Obj.cells (aM y) 84));have EE:=qD (HB.out.alloc HB.out.size (Obj.cells (aM y) 84));have EO:=qD (HOW.out.alloc (.cells (aM y) 84));generalize wr.alloc (.cells (aM y) 84)=wb at*;generalize wr.heap.size=ga at*;clear a0 a1 a2 a3 a4 b0 b1 b2 b3 b4 b5 b6 HB HDE HD0 HOW;obtain⟨⟨a0,a1,a2,a3,a4⟩,⟨b0,b1,b2,b3,b4⟩,b5,b6⟩:=cw.Jr JB.out;simp only[LL] at a0 a1 a2 a3 a4 b0 b1 b2 b3 b4 b5 b6;have k1:=E0.out.cell 1;simp at k1;have HSP:=qD (Fu y s wb (HT.out.step EE.out) (HOK.out.step ED.out) HYS.out HVO.out.1 HVO.out.2.1);go_wp2_with fail;refine HSP.out.mono ?_;rintro e w4 ⟨rfl,hb⟩;have F0:=qD (E0.out.step hb);have FD:=qD (ED.out.Jp hb);have FE:=qD (EE.out.Jp hb);have FO:=qD (aV EO.out hb);clear hb E0 ED EE EO JB HSP a0 a1 a2 a3 a4 b0 b1 b2 b3 b4 b5 b6 k1 HOK;go_upto_region 12 with fail
     change Code.wp _ _ _ _ (w4.alloc (.cells #[.string (eB s).1,.string (eB s).2] 49));have JB:Hid (aE (w4.alloc (.cells #[.string (eB s).1,.string (eB s).2] 49)) w4.heap.size 49 #[.string (eB s).1,.string (eB s).2]):=aE.Jq rfl;have G0:=qD (F0.out.alloc (.cells #[.string (eB s).1,.string (eB s).2] 49));have GD:=qD (FD.out.alloc FD.out.size (Obj.cells #[.string (eB s).1,.string (eB s).2] 49));have GO:=qD (FO.out.alloc (.cells #[.string (eB s).1,.string (eB s).2] 49));generalize w4.alloc (.cells #[.string (eB s).1,.string (eB s).2] 49)=w5 at*;generalize w4.heap.size=gb at*;clear F0 FD FE FO;have q0:=JB.out.cell 0;have q1:=JB.out.cell 1;simp at q0 q1;have hlo3:w3.heap.size<=w5.heap.size:=GD.out.size;have HLO:w.heap.size<w3.heap.size:=C0.out.lt;go_wp2_with (at_builtin;refine aD _ rfl _ _ 47 rfl w3.heap.size 49 j0 (.agg #[.string empty,.string empty]) 2 32 MJ hj0 hy0 hy1 hy2 rfl (by decide) (.slice A6 i c6) i (aJ aY ((nf.take i).map eB)) rfl (GO.out.alloc _) _ _ 1 _ (aY (eB s)) rfl ⟨rfl,fun _=>⟨_,rfl,Lo _,ap _ _ _⟩⟩ (dR _) z1 z2 (af hlo3 _) ?_);intro v' w6 hown hgr hat;have HI:=qD ((GD.out.alloc GD.out.size _).grown hgr (af hlo3 _) (bU GO.out));have HI0:=qD ((G0.out.alloc _).grown hgr (fun e=>by have:=bU GO.out _ e.symm;omega))
     have HO6:Hid (w6.ownsRow w3.heap.size 49 2 v' (i+1) (aJ aY ((nf.take (i+1)).map eB))):=by
      rw[HTK.out,eQ];exact qD (by simpa[aJ] using hown)
     clear hown hgr hat q0 q1 JB G0 GD GO;go_wp2_with fail;go_roundw
     ·exact⟨i+1,by omega,by go_num,HI0.out,HI.out,HO6.out⟩
     ·simp[intOf];omega
    ·obtain rfl:i=m3:=by omega
     have hl:nf.length=i:=by
      have h1:=congrArg List.length HY3.out;simp only[Lb] at h1;have:=HS3.out.sr.ln;omega
     have htk:nf.take i=nf:=LS (by omega);rw[htk] at HOW;have HL:=qD (show(nf.map eB).length=i by rw[Lb];exact hl);have HSZ:Hid (i<=4000000000):=by have h1:=HM3.out;have h2:=HZ.out;exact qD (by omega)
     clear hl htk D0 DE hown;go_wp2_with fail;refine(oH (nf.map eB) w3.heap.size i _ wr HOW.out HL.out HDE.out.size HSZ.out).mono ?_;rintro e w4 ⟨A9,m9,c9,Z,rfl,hz9,hsr9,hm9,hb9⟩;rw[HL.out] at hm9;have HM9:Hid (m9<=1000000000):=qD (by have h1:=HM3.out;have h2:=HZ.out;omega);have HZ9:=qD hz9;have HS9:=qD hsr9;have HB9:Hid (Below w.heap.size w w4):=qD (HB.out.trans (hb9.mono CE.out.size));clear hz9 hsr9 hb9 hm9;go_wp2_with fail;go_ret;exact⟨A9,m9,c9,nf,_,rfl,HN3.out,.inl ⟨rfl,Z,HZ9.out,rfl⟩,HS9.out,HM9.out,HB9.out⟩
  ·go_loopw [7,9,10,11,30] (fun u7 _ _ _ u30 wr=>∃i:Nat,i<=m3/\u30=.int .i64 i/\aE wr w.heap.size 24 #[.slice (some ⟨kb,ko,none⟩) kn kc,.bool true]/\Below w3.heap.size w3 wr/\wr.ownsRow w3.heap.size 49 2 u7 i (aJ aY (((nf.take i).map fun s=>bB s.1.1).map eE))/\∀s∈nf.take i,aU s.1.1 s.2.1=0) (fun _ _ _ _ u30 _=>m3-(intOf u30).toNat)
   ·exact⟨0,LQ _,rfl,C0.out,LH _ _,bC _ _ _ _,by simp⟩
   case round=>
    obtain⟨i,hi,rfl,D0,DE,hown,hall⟩:=hrel;have HB:=qD (CE.out.Jp DE);have HD0:=qD D0;have HDE:=qD DE;have HOW:=qD hown;obtain⟨A6,c6,rfl,_⟩:=aa hown;by_cases hlt:i<m3
    ·obtain⟨y,hy⟩:∃y,ys[i]?=some y:=⟨_,LI (by have:=HS3.out.sr.ln;omega)⟩
     obtain⟨s,hs,hys⟩:∃s,nf[i]?=some s/\ar y=dr s:=by
      have h1:=congrArg (fun l=>l[i]?) HY3.out;simp only[LV,hy,Mj] at h1;obtain⟨s,h2,h3⟩:=Mn.1 h1.symm;exact⟨s,h2,h3.symm⟩
     have HVO:=qD (HGO.out.nf HN3.out (LP hs))
     have HTK:Hid (((nf.take (i+1)).map (fun s=>bB s.1.1)).map eE=((nf.take i).map fun s=>bB s.1.1).map eE++[eE (bB s.1.1)]):=by
      rw[Hid,MW,hs,Lc,Lc];rfl
     obtain⟨b,off,rfl,hb3,hat,hok⟩:=HS3.out.at (i:=i) (p:=y) hy;obtain⟨⟨a0,a1,a2,a3,a4⟩,⟨b0,b1,b2,b3,b4⟩,b5,b6⟩:=hat.keep (DE.block b hb3);have HOK:=qD hok;have HYS:=qD hys;have z1:i+1<=maxLen:=by have h1:=HM3.out;have h2:=HZ.out;unfold maxLen;omega
     have z2:(i+1)*32<=140737488355328:=by have h1:=HM3.out;have h2:=HZ.out;omega
     have i0:(0:Int)<=(i:Int):=by omega
     have i1:(i:Int)<(m3:Int):=by omega
     have HALL:=qD hall;have HSS:=qD hs;clear hat hok DE D0 hown hs hys hy hall;go_upto_region 8 with fail
     change Code.wp _ _ _ _ (wr.alloc (.cells (aM y) 84));have JB:Hid (aE (wr.alloc (.cells (aM y) 84)) wr.heap.size 84 (aM y)):=aE.Jq rfl;have E0:=qD (HD0.out.alloc (.cells (aM y) 84));have ED:=qD (HDE.out.alloc HDE.out.size (Obj.cells (aM y) 84));have EE:=qD (HB.out.alloc HB.out.size (Obj.cells (aM y) 84));have EO:=qD (HOW.out.alloc (.cells (aM y) 84));generalize wr.alloc (.cells (aM y) 84)=wb at*;generalize wr.heap.size=ga at*;clear a0 a1 a2 a3 a4 b0 b1 b2 b3 b4 b5 b6 HB HDE HD0 HOW;obtain⟨⟨a0,a1,a2,a3,a4⟩,⟨b0,b1,b2,b3,b4⟩,b5,b6⟩:=cw.Jr JB.out;simp only[LL] at a0 a1 a2 a3 a4 b0 b1 b2 b3 b4 b5 b6;have k1:=E0.out.cell 1;simp at k1;have HEQ:=qD (lk y.1.1.2 y.1.2.2 y.1.1.1 y.1.2.1 wb (HOK.out.step ED.out).1 (HOK.out.step ED.out).2);obtain⟨q,hq⟩:∃q,q=(aU y.1.1.2 y.1.2.2==0):=⟨_,rfl⟩;rw[<-hq] at HEQ;have HQ:=qD hq;clear hq;go_wp2_with fail;refine HEQ.out.mono ?_;rintro e w4 ⟨rfl,hb⟩;have F0:=qD (E0.out.step hb);have FD:=qD (ED.out.Jp hb);have FE:=qD (EE.out.Jp hb);have FO:=qD (aV EO.out hb);have FJ:=qD (JB.out.step hb);have KOK:=qD ((HOK.out.step ED.out).step hb);clear hb E0 ED EE EO JB HEQ a0 a1 a2 a3 a4 b0 b1 b2 b3 b4 b5 b6 k1 HOK;have hlo:y.1.1.2=s.1.1:=congrArg Iv.lo HYS.out;have hhi:y.1.2.2=s.2.1:=congrArg Iv.hi HYS.out;rw[hlo,hhi] at HQ;have HSM:=qD (LP HSS.out);cases q
     ·have HNE:Hid (aU s.1.1 s.2.1≠0):=by
       have:=HQ.out;rw[Hid];simpa using this.symm
      clear hlo hhi HQ;go_wp2_with fail;go_ret;exact⟨_,1,1,nf,_,rfl,HN3.out,.inr (.inl ⟨rfl,rfl,s,HSM.out,HNE.out⟩),AR (q:=(empty,empty)) (aE.Jq rfl),by decide,FE.out.alloc FE.out.size _⟩
     ·have HEZ:Hid (aU s.1.1 s.2.1=0):=by
       have:=HQ.out;rw[Hid];simpa using this.symm
      have HSP:Hid (Calls prog 38 #[cR y,.bool true] w4 fun e w'=>e=.returned (.tuple #[.agg #[.string (eE (bB s.1.1)).1,.string (eE (bB s.1.1)).2],.bool true])/\Below w4.heap.size w4 w'):=by
       have:=CB y w4 (HT.out.step FE.out) KOK.out;rw[hlo] at this;exact qD this
      clear hlo hhi HQ;have k1:=F0.out.cell 1;simp at k1;obtain⟨⟨a0,a1,a2,a3,a4⟩,⟨b0,b1,b2,b3,b4⟩,b5,b6⟩:=cw.Jr FJ.out;simp only[LL] at a0 a1 a2 a3 a4 b0 b1 b2 b3 b4 b5 b6;go_wp2_with fail;refine HSP.out.mono ?_;rintro e w5 ⟨rfl,hb⟩;obtain⟨kh,hkh⟩:∃kh,kh=eE (bB s.1.1):=⟨_,rfl⟩;rw[<-hkh] at HTK ⊢;clear hkh;replace F0:=qD (F0.out.step hb);replace FD:=qD (FD.out.Jp hb);replace FE:=qD (FE.out.Jp hb);replace FO:=qD (aV FO.out hb);clear hb HSP a0 a1 a2 a3 a4 b0 b1 b2 b3 b4 b5 b6 k1 KOK FJ;go_upto_region 12 with fail
      change Code.wp _ _ _ _ (w5.alloc (.cells #[.string kh.1,.string kh.2] 49));have JB:Hid (aE (w5.alloc (.cells #[.string kh.1,.string kh.2] 49)) w5.heap.size 49 #[.string kh.1,.string kh.2]):=aE.Jq rfl;have G0:=qD (F0.out.alloc (.cells #[.string kh.1,.string kh.2] 49));have GD:=qD (FD.out.alloc FD.out.size (Obj.cells #[.string kh.1,.string kh.2] 49));have GO:=qD (FO.out.alloc (.cells #[.string kh.1,.string kh.2] 49));generalize w5.alloc (.cells #[.string kh.1,.string kh.2] 49)=w6 at*;generalize w5.heap.size=gb at*;clear F0 FD FE FO;have q0:=JB.out.cell 0;have q1:=JB.out.cell 1;simp at q0 q1;have hlo3:w3.heap.size<=w6.heap.size:=GD.out.size;have HLO:w.heap.size<w3.heap.size:=C0.out.lt;go_wp2_with (at_builtin;refine aD _ rfl _ _ 47 rfl w3.heap.size 49 j0 (.agg #[.string empty,.string empty]) 2 32 MJ hj0 hy0 hy1 hy2 rfl (by decide) (.slice A6 i c6) i (aJ aY (((nf.take i).map fun s=>bB s.1.1).map eE)) rfl (GO.out.alloc _) _ _ 1 _ (aY kh) rfl ⟨rfl,fun _=>⟨_,rfl,Lo _,ap _ _ _⟩⟩ (dR _) z1 z2 (af hlo3 _) ?_);intro v' w7 hown hgr hat;have HI:=qD ((GD.out.alloc GD.out.size _).grown hgr (af hlo3 _) (bU GO.out));have HI0:=qD ((G0.out.alloc _).grown hgr (fun e=>by have:=bU GO.out _ e.symm;omega))
      have HO7:Hid (w7.ownsRow w3.heap.size 49 2 v' (i+1) (aJ aY (((nf.take (i+1)).map fun s=>bB s.1.1).map eE))):=by
       rw[HTK.out,eQ];exact qD (by simpa[aJ] using hown)
      have HA2:Hid (∀t∈nf.take (i+1),aU t.1.1 t.2.1=0):=qD fun t ht=>by
       rw[MW,HSS.out] at ht;rcases LY.1 ht with ht|ht
       ·exact HALL.out t ht
       ·obtain rfl:t=s:=by simpa using ht
        exact HEZ.out
      clear hown hgr hat q0 q1 JB G0 GD GO;go_wp2_with fail;go_roundw
      ·exact⟨i+1,by omega,by go_num,HI0.out,HI.out,HO7.out,HA2.out⟩
      ·simp[intOf];omega
    ·obtain rfl:i=m3:=by omega
     have hl:nf.length=i:=by
      have h1:=congrArg List.length HY3.out;simp only[Lb] at h1;have:=HS3.out.sr.ln;omega
     have htk:nf.take i=nf:=LS (by omega);rw[htk] at HOW hall;have HALL:=qD hall;have HL:=qD (show((nf.map fun s=>bB s.1.1).map eE).length=i by rw[Lb,Lb];exact hl);have HSZ:Hid (i<=4000000000):=by have h1:=HM3.out;have h2:=HZ.out;exact qD (by omega)
     clear hl htk D0 DE hown hall;go_wp2_with fail;refine(oH ((nf.map fun s=>bB s.1.1).map eE) w3.heap.size i _ wr HOW.out HL.out HDE.out.size HSZ.out).mono ?_;rintro e w4 ⟨A9,m9,c9,Z,rfl,hz9,hsr9,hm9,hb9⟩;rw[HL.out] at hm9;have HM9:Hid (m9<=1000000000):=qD (by have h1:=HM3.out;have h2:=HZ.out;omega);have HZ9:=qD hz9;have HS9:=qD hsr9;have HB9:Hid (Below w.heap.size w w4):=qD (HB.out.trans (hb9.mono CE.out.size));clear hz9 hsr9 hb9 hm9;go_wp2_with fail;go_ret;exact⟨A9,m9,c9,nf,_,rfl,HN3.out,.inr (.inr ⟨rfl,HALL.out,Z,HZ9.out,rfl⟩),HS9.out,HM9.out,HB9.out⟩
theorem tm(x y:aC)(c d:VC)(w:World)(h:RW w c x)(h':RW w d y):Calls prog 121 #[c.val,d.val] w fun e w'=>e=.returned (.bool (aU x y==0))/\Below w.heap.size w w':=by
 have H:=qD h;have H':=qD h';clear h h';go_enter func121,ntmps121;go_wp2_with fail;refine(iM x y c d _ ((H.out.alloc _).alloc _) ((H'.out.alloc _).alloc _)).mono ?_;rintro e w1 ⟨rfl,hb⟩;go_wp2_with fail;go_ret;exact⟨rfl,(((LH _ _).alloc (qL) _).alloc (by simp) _).Jp hb⟩
theorem AS{a:cA}(h:VO a):(strOfNums (aq a.1)).size<=aF:=by
 have:=(eF (iQ h.1)).2;rw[MQ];unfold aF;omega
theorem zG{a:cA}(h:VO a):(ei a).size<=aF:=by
 unfold ei;split
 ·show 0<=aF;exact LQ _
 ·unfold eK;split
  ·obtain⟨t,ht⟩:=h.after;have e:=sL (strOfNums (aq a.1));rw[wP h.rng,ht] at e;rw[ht];exact Lt (kN e) (AS h)
  ·exact AS h
theorem sS(n:Int):(eE n).1.size<=aF:=by
 show(strOfNums (fk n)).size<=aF;rw[MQ];unfold aF fk;simp[nums,fp]
def zH(ha:Bool)(m:List (cA×cA))(L:List B2):Prop:=
 (ha=false/\∃l,ja vv l/\(∀y,y∈l↔y∈m.map eB)/\L=dm empty l)\/
  (ha=true/\L=[(empty,empty)]/\∃s∈m,aU s.1.1 s.2.1≠0)\/
  (ha=true/\(∀s∈m,aU s.1.1 s.2.1=0)/\∃l,ja vv l/\(∀y,y∈l↔y∈(m.map fun s=>bB s.1.1).map eE)/\L=dm empty l)
theorem ET{ha:Bool}{S:cA->Prop}{m:List (cA×cA)}{L L':List B2}(g:cV S)(h:fg S m)(h1:EJ ha m L)(h2:zH ha m L'):L=L':=by
 rcases h1 with⟨e,Z,hz,rfl⟩|⟨e,rfl,s,hs,hne⟩|⟨e,hall,Z,hz,rfl⟩
 ·rcases h2 with⟨_,l,ha,hm,rfl⟩|⟨e',_⟩|⟨e',_⟩
  ·rw[vn py ha hm (fun _=>hz.1.mem_iff) (sJ hz) ((vw g h).inj py) rfl]
  ·rw[e] at e';cases e'
  ·rw[e] at e';cases e'
 ·rcases h2 with⟨e',_⟩|⟨_,rfl,_⟩|⟨_,hall,_⟩
  ·rw[e] at e';cases e'
  ·rfl
  ·exact absurd (hall s hs) hne
 ·rcases h2 with⟨e',_⟩|⟨_,rfl,s,hs,hne⟩|⟨_,_,l,ha,hm,rfl⟩
  ·rw[e] at e';cases e'
  ·exact absurd (hall s hs) hne
  ·rw[vn py ha hm (fun _=>hz.1.mem_iff) (sJ hz) (wJ fun n hn=>by obtain⟨s,_,rfl⟩:=MS.1 hn;exact sK _) rfl]
structure GV(xs:List B2)(w:World)(base:Nat)(v:Value)(m:Nat)(O:List B2)(i:Nat):Prop where
 own:w.ownsRow base 49 2 v m (aJ aY O)
 ln:O.length=m
 le:m<=i
 nil:m=0->v=.slice none 0 0
 asc:ja vv O
 mem:∀y,y∈O↔y∈xs.take i
theorem GV.step{xs:List B2}{w w':World}{base:Nat}{v:Value}{m:Nat}{O:List B2}{i:Nat}(h:GV xs w base v m O i)(hb:Below w.heap.size w w'):GV xs w' base v m O i:=⟨aV h.own hb,h.ln,h.le,h.nil,h.asc,h.mem⟩
theorem GV.next{xs:List B2}{w w':World}{base:Nat}{v v':Value}{m:Nat}{O out:List B2}{i:Nat}{x:B2}(h:GV xs w base v m O i)(hx:xs[i]?=some x)(hf:∀a∈xs,∀b∈xs,a.1=b.1->a=b)(ho:w'.ownsRow base 49 2 v' out.length (aJ aY out))(hi:Ip O x out)(hl:out.length<=O.length+1)(hne:out≠[]):GV xs w' base v' out.length out (i+1):=by
 obtain⟨k,ha,he⟩:=hi;have hxm:x∈xs:=LP hx;have hin:∀y∈O,y∈xs:=fun y hy=>Nw ((h.mem y).1 hy);obtain⟨h1,h2⟩:=Dx py ha h.asc (fun y hy e=>hf y (hin y hy) x hxm e) he;refine⟨ho,rfl,by have:=h.ln;have:=h.le;omega,fun h0=>absurd (LO h0) hne,h1,fun y=>?_⟩;rw[h2 y,h.mem y,MW,hx];simp
def CN(ha:Bool)(S:cA->Prop)(w:World)(e:Ending)(w':World):Prop:=
 ∃A m c nf L,e=.returned (.slice A m c)/\fg S nf/\zH ha nf L/\SR 2 aY w' A m c L/\m<=1000000000/\Below w.heap.size w w'
theorem wV(p:ao)(ha:Bool)(l:List ByteArray)(o:OC)(kb ko kn kc:Nat)(w:World)(hT:cg w)(hk0:0<kn)(hko:w.cell? ⟨kb,ko,none⟩=some (.slice o.A o.n o.c))(hl:ST w o.A o.n o.c l)(hw:WP w p)(hv:od p)(hz:p.sz<=300000000)(hG:cV (dE l p).1):
 Calls prog 53 #[.agg #[.slice (some ⟨kb,ko,none⟩) kn kc,.bool ha],am p] w (CN ha (dE l p).1 w):=by
 have HT:=qD hT;have HGO:=qD hG;have HZ:=qD hz;have HO:Hid (∀wr,Below w.heap.size w wr->Calls prog 118 #[am p,.slice o.A o.n o.c] wr (lS (dE l p) p.sz wr)):=qD fun wr hb=>FW p _ _ _ l wr (hw.step hb) hv (hT.step hb) (hl.step hb) hz;have hbw:=Lr w _ hko;have hbw:kb<w.heap.size:=hbw;have n0b:((kn:Int)==0)=false:=by simp;omega
 have i1':(0:Int)<(kn:Int):=by omega
 have B0:Hid (aE ((w.alloc (.cells #[.slice (some ⟨kb,ko,none⟩) kn kc,.bool ha] 24)).alloc (.cells (aH p) 38)) w.heap.size 24 #[.slice (some ⟨kb,ko,none⟩) kn kc,.bool ha]):=(aE.Jq rfl).alloc _;have B1:Hid (aE ((w.alloc (.cells #[.slice (some ⟨kb,ko,none⟩) kn kc,.bool ha] 24)).alloc (.cells (aH p) 38)) (w.heap.size+1) 38 (aH p)):=aE.Jq (by simp);have BE:Hid (Below w.heap.size w ((w.alloc (.cells #[.slice (some ⟨kb,ko,none⟩) kn kc,.bool ha] 24)).alloc (.cells (aH p) 38))):=((LH _ _).alloc (qL) _).alloc (by simp) _;clear hT hl hw hv hz hG;go_enter func53,ntmps53;go_upto_region 1 with fail
 change Code.wp _ _ _ _ ((w.alloc (.cells #[.slice (some ⟨kb,ko,none⟩) kn kc,.bool ha] 24)).alloc (.cells (aH p) 38));generalize ((w.alloc (.cells #[.slice (some ⟨kb,ko,none⟩) kn kc,.bool ha] 24)).alloc (.cells (aH p) 38))=wa at*;have k0:=B0.out.cell 0;have k1:=B0.out.cell 1;simp at k0 k1;go_upto_region 3 with fail
 have eko:=(BE.out.cell (p:=⟨kb,ko,none⟩) hbw).trans hko;have lbk:kb<wa.heap.size:=Mv hbw BE.out.size;have B:=qD ((LH wa.heap.size wa).drewN 1);have KS:Hid (∀w',Below wa.heap.size wa w'->(fun w'=>(Instr.loadAt 38 (.pointer (some ⟨w.heap.size+1,0,none⟩))).run prog w'=.ok (am p) w'/\w'.cell? ⟨w.heap.size,0,none⟩=some (.slice (some ⟨kb,ko,none⟩) kn kc)/\w'.cell? ⟨kb,ko,none⟩=some (.slice o.A o.n o.c)) w'):=qD fun w' hb=>⟨gq (aH p) rfl _ _ (B1.out.step hb),(hb.cell (p:=⟨w.heap.size,0,none⟩) B0.out.lt).trans k0,(hb.cell (p:=⟨kb,ko,none⟩) lbk).trans eko⟩;clear k0 k1 eko
 go_cut [5] (fun v5 wx=>∃(A3:Option Addr) (m3 c3:Nat) (ys:List PI) (nf:List (cA×cA)),v5=.slice A3 m3 c3/\ys.map ar=nf.map dr/\fg (dE l p).1 nf/\m3<=p.sz/\SI wx A3 m3 c3 ys/\Below wa.heap.size wa wx)
 case first=>
  refine MX ?_;refine ML (S:=(fun w'=>(Instr.loadAt 38 (.pointer (some ⟨w.heap.size+1,0,none⟩))).run prog w'=.ok (am p) w'/\w'.cell? ⟨w.heap.size,0,none⟩=some (.slice (some ⟨kb,ko,none⟩) kn kc)/\w'.cell? ⟨kb,ko,none⟩=some (.slice o.A o.n o.c))) (by kernel_rfl) ?_ (fun hHeld=>?_)
  ·(try dsimp only);exact KS.out _ B.out
  refine rT (v:=am p) 0 rfl ?_ ?_
  (skip)
  ·intro w' hSw;exact cM (p:=.pointer (some ⟨w.heap.size+1,0,none⟩)) rfl rfl hSw.1
  try go_frame
  refine rT (v:=?_) 1 rfl ?_ ?_;rotate_left
  ·intro w' hSw;(try dsimp only at hSw);obtain⟨_,hSw1,hSw2⟩:=hSw;go_simp;(try with_reducible rfl)
  try go_frame
  refine rT (v:=?_) 2 rfl ?_ ?_;rotate_left
  ·intro w' hSw;(try dsimp only at hSw);obtain⟨_,hSw1,hSw2⟩:=hSw;go_simp;(try with_reducible rfl)
  try go_frame
  refine rT (v:=?_) 3 rfl ?_ ?_;rotate_left
  ·intro w' hSw;(try dsimp only at hSw);obtain⟨_,hSw1,hSw2⟩:=hSw;go_simp;(try with_reducible rfl)
  try go_frame
  refine rT (v:=?_) 4 rfl ?_ ?_;rotate_left
  ·intro w' hSw;(try dsimp only at hSw);obtain⟨_,hSw1,hSw2⟩:=hSw;go_simp;(try with_reducible rfl)
  try go_frame
  refine rT (v:=?_) 5 rfl ?_ ?_;rotate_left
  ·intro w' hSw;(try dsimp only at hSw);obtain⟨_,hSw1,hSw2⟩:=hSw;go_simp;(try with_reducible rfl)
  try go_frame
  refine rY 6 rfl fun K hK=>?_;go_simp;refine(HO.out _ (BE.out.Jp B.out)).mono ?_;rintro e3 w3 ⟨A3,m3,c3,ys,nf,rfl,hy,hnf,hmk,hsi,hb3⟩;replace B:=qD (B.out.Jp hb3);have HS3:=qD hsi;have HY3:=qD hy;have HN3:=qD hnf;have HM3:=qD hmk;clear hb3 hsi hy hnf hmk
  (try go_wp2_with fail)
  clear hHeld;refine hK.out _ _ ?_ fun hHeld=>?_
  ·(try dsimp only);exact KS.out _ B.out
  clear hK K
  try go_frame
  refine rT (v:=?_) 7 rfl ?_ ?_;rotate_left
  ·intro w' hSw;(try dsimp only at hSw);obtain⟨_,hSw1,hSw2⟩:=hSw;go_simp;(try with_reducible rfl)
  try go_frame
  refine rT (v:=?_) 8 rfl ?_ ?_;rotate_left
  ·intro w' hSw;(try dsimp only at hSw);obtain⟨_,hSw1,hSw2⟩:=hSw;go_simp;(try with_reducible rfl)
  try go_frame
  refine rT (v:=?_) 9 rfl ?_ ?_;rotate_left
  ·intro w' hSw;(try dsimp only at hSw);obtain⟨_,hSw1,hSw2⟩:=hSw;go_simp;(try with_reducible rfl)
  try go_frame
  refine rT (v:=?_) 10 rfl ?_ ?_;rotate_left
  ·intro w' hSw;(try dsimp only at hSw);obtain⟨_,hSw1,hSw2⟩:=hSw;go_simp;(try with_reducible rfl)
  try go_frame
  refine rT (v:=?_) 11 rfl ?_ ?_;rotate_left
  ·intro w' hSw;(try dsimp only at hSw);obtain⟨_,hSw1,hSw2⟩:=hSw;go_simp;(try with_reducible rfl)
  try go_frame
  refine rD ?_ _;refine Mf ?_;clear hHeld
  all_goals
   go_wp2_with fail;go_meet;exact⟨A3,m3,c3,ys,nf,rfl,HY3.out,HN3.out,HM3.out,HS3.out,B.out⟩
 case rest=>
  obtain⟨A3,m3,c3,ys,nf,rfl,hy3,hn3,hm3,hs3,hb3'⟩:=hcut;have HS3:=qD hs3;have HY3:=qD hy3;have HN3:=qD hn3;have HM3:=qD hm3;have C0:=qD (B0.out.step hb3');have CE:=qD (BE.out.Jp hb3')
  have HLY:Hid (nf.length=m3):=by
   have h1:=congrArg List.length hy3;simp only[Lb] at h1;have:=hs3.sr.ln;exact qD (by omega)
  clear KS B B0 B1 BE HO lbk hs3 hy3 hn3 hm3 hb3';generalize wc=w3 at*;have hmz:m3<=300000000:=Lt HM3.out HZ.out;go_upto_region 6 with fail
  cases ha
  ·have HFX:Hid (∀a∈nf.map eB,∀b∈nf.map eB,a.1=b.1->a=b):=qD ((vw HGO.out HN3.out).inj py)
   go_loopw [7,8,9,10] (fun u7 u8 _ _ wr=>∃(i m:Nat) (O:List B2),i<=m3/\u8=.int .i64 i/\aE wr w.heap.size 24 #[.slice (some ⟨kb,ko,none⟩) kn kc,.bool false]/\Below w3.heap.size w3 wr/\GV (nf.map eB) wr w3.heap.size u7 m O i) (fun _ u8 _ _ _=>m3-(intOf u8).toNat)
   ·exact⟨0,0,[],LQ _,rfl,C0.out,LH _ _,bC _ _ _ _,rfl,qL,fun _=>rfl,.nil,fun y=>by simp⟩
   case round=>
    obtain⟨i,m,O,hi,rfl,D0,DE,hI⟩:=hrel;have HB:=qD (CE.out.Jp DE);have HD0:=qD D0;have HDE:=qD DE;have HI:=qD hI;clear hI;by_cases hlt:i<m3
    ·obtain⟨y,hy⟩:∃y,ys[i]?=some y:=⟨_,LI (by have:=HS3.out.sr.ln;omega)⟩
     obtain⟨s,hs,hys⟩:∃s,nf[i]?=some s/\ar y=dr s:=by
      have h1:=congrArg (fun l=>l[i]?) HY3.out;simp only[LV,hy,Mj] at h1;obtain⟨s,h2,h3⟩:=Mn.1 h1.symm;exact⟨s,h2,h3.symm⟩
     have HVO:=qD (HGO.out.nf HN3.out (LP hs));have HXI:Hid ((nf.map eB)[i]?=some (eB s)):=by rw[Hid,LV,hs];rfl
     obtain⟨b,off,rfl,hb3,hat,hok⟩:=HS3.out.at (i:=i) (p:=y) hy;obtain⟨⟨a0,a1,a2,a3,a4⟩,⟨b0,b1,b2,b3,b4⟩,b5,b6⟩:=hat.keep (DE.block b hb3);have HOK:=qD hok;have HYS:=qD hys;have i0:(0:Int)<=(i:Int):=by omega
     have i1:(i:Int)<(m3:Int):=by omega
     have k1:=HD0.out.cell 1;simp at k1;have HSP:=qD (EL y s wr (HOK.out.step HDE.out) HYS.out HVO.out.1 HVO.out.2.1)
     have HSO:Hid (∀q∈O,q.1.size<=aF):=qD fun q hq=>by
      obtain⟨t,ht,rfl⟩:=MS.1 (Nw ((HI.out.mem q).1 hq));exact zG (HGO.out.nf HN3.out ht).1
     clear hat hok DE D0 hs hys hy;go_wp2_with fail;refine HSP.out.mono ?_;rintro e w4 ⟨rfl,hb⟩;replace HD0:=qD (HD0.out.step hb);replace HDE:=qD (HDE.out.Jp hb);replace HI:=qD (HI.out.step hb);clear hb HSP a0 a1 a2 a3 a4 b0 b1 b2 b3 b4 b5 b6 k1 HOK;go_wp2_with fail;refine(oI O (eB s) u7 w3.heap.size m w4 HI.out.own HI.out.ln HDE.out.size (by have:=HI.out.le;omega) HSO.out HI.out.nil).mono ?_;rintro e w5 ⟨v',out,rfl,hown,hins,hb,hlen,hne⟩;have HN:=qD (HI.out.next HXI.out HFX.out hown hins hlen hne);replace HD0:=qD (HD0.out.step hb);replace HDE:=qD (HDE.out.Jp hb);clear hown hins hb hlen hne HI;go_wp2_with fail;go_roundw
     ·exact⟨i+1,_,_,by omega,by go_num,HD0.out,HDE.out,HN.out⟩
     ·simp[intOf];omega
    ·obtain rfl:i=m3:=by omega
     have htk:(nf.map eB).take i=nf.map eB:=LS (by rw[Lb];have:=HLY.out;omega);have HMM:Hid (∀y,y∈O↔y∈nf.map eB):=qD fun y=>by rw[HI.out.mem y,htk]
     have hmi:=HI.out.le;have hln:=HI.out.ln;clear htk D0 DE;go_wp2_with fail;refine(oJ O w3.heap.size m u7 wr HI.out.own HI.out.ln (by omega)).mono ?_;rintro e w4 ⟨A9,m9,c9,rfl,hsr9,hm9,hb9⟩;have HS9:=qD hsr9;have HM9:Hid (m9<=1000000000):=qD (by omega);have HB9:Hid (Below w.heap.size w w4):=qD (HB.out.Jp hb9);clear hsr9 hb9 hm9;go_wp2_with fail;go_ret;exact⟨A9,m9,c9,nf,_,rfl,HN3.out,.inl ⟨rfl,O,HI.out.asc,HMM.out,rfl⟩,HS9.out,HM9.out,HB9.out⟩
  ·have HFX:Hid (∀a∈(nf.map fun s=>bB s.1.1).map eE,∀b∈(nf.map fun s=>bB s.1.1).map eE,a.1=b.1->a=b):=qD (wJ fun n hn=>by obtain⟨s,_,rfl⟩:=MS.1 hn;exact sK _)
   go_loopw [7,8,9,10] (fun u7 u8 _ _ wr=>∃(i m:Nat) (O:List B2),i<=m3/\u8=.int .i64 i/\aE wr w.heap.size 24 #[.slice (some ⟨kb,ko,none⟩) kn kc,.bool true]/\Below w3.heap.size w3 wr/\GV ((nf.map fun s=>bB s.1.1).map eE) wr w3.heap.size u7 m O i/\∀s∈nf.take i,aU s.1.1 s.2.1=0) (fun _ u8 _ _ _=>m3-(intOf u8).toNat)
   ·exact⟨0,0,[],LQ _,rfl,C0.out,LH _ _,⟨bC _ _ _ _,rfl,qL,fun _=>rfl,.nil,fun y=>by simp⟩,by simp⟩
   case round=>
    obtain⟨i,m,O,hi,rfl,D0,DE,hI,hall⟩:=hrel;have HB:=qD (CE.out.Jp DE);have HD0:=qD D0;have HDE:=qD DE;have HI:=qD hI;have HALL:=qD hall;clear hI hall;by_cases hlt:i<m3
    ·obtain⟨y,hy⟩:∃y,ys[i]?=some y:=⟨_,LI (by have:=HS3.out.sr.ln;omega)⟩
     obtain⟨s,hs,hys⟩:∃s,nf[i]?=some s/\ar y=dr s:=by
      have h1:=congrArg (fun l=>l[i]?) HY3.out;simp only[LV,hy,Mj] at h1;obtain⟨s,h2,h3⟩:=Mn.1 h1.symm;exact⟨s,h2,h3.symm⟩
     have HSS:=qD hs;have HXI:Hid (((nf.map fun s=>bB s.1.1).map eE)[i]?=some (eE (bB s.1.1))):=by rw[Hid,LV,LV,hs];rfl
     obtain⟨b,off,rfl,hb3,hat,hok⟩:=HS3.out.at (i:=i) (p:=y) hy;have HAT:=qD hat;have HB3:=qD hb3;obtain⟨⟨a0,a1,a2,a3,a4⟩,⟨b0,b1,b2,b3,b4⟩,b5,b6⟩:=hat.keep (DE.block b hb3);have HOK:=qD hok;have hlo:y.1.1.2=s.1.1:=congrArg Iv.lo hys;have hhi:y.1.2.2=s.2.1:=congrArg Iv.hi hys;have HLO:=qD hlo;obtain⟨q,hq⟩:∃q,q=(aU s.1.1 s.2.1==0):=⟨_,rfl⟩;have HQ:=qD hq
     have K1:Hid (∀kk:BW wr,Calls prog 121 #[y.1.1.1.val,y.1.2.1.val] kk.val fun e w''=>e=.returned (.bool q)/\∃kk:BW wr,w''=kk.val):=fun kk=>by
      have:=tm y.1.1.2 y.1.2.2 y.1.1.1 y.1.2.1 kk.val ((hok.step DE).step kk.below).1 ((hok.step DE).step kk.below).2;rw[hlo,hhi,<-hq] at this;exact Calls.bw this
     have i0:(0:Int)<=(i:Int):=by omega
     have i1:(i:Int)<(m3:Int):=by omega
     have k1:=HD0.out.cell 1;simp at k1
     have HSO:Hid (∀q∈O,q.1.size<=aF):=qD fun q hq=>by
      obtain⟨t,ht,rfl⟩:=MS.1 (Nw ((HI.out.mem q).1 hq));exact sS _
     have y0:∀kk:BW wr,kk.val.cell? ⟨b,off+i*12,none⟩=some (.int .i64 y.1.1.1.k):=fun kk=>kk.cell a0;have y1:∀kk:BW wr,kk.val.cell? ⟨b,off+i*12+1,none⟩=some (.int .i64 y.1.1.1.n):=fun kk=>kk.cell a1;have y2:∀kk:BW wr,kk.val.cell? ⟨b,off+i*12+2,none⟩=some (.string y.1.1.1.t):=fun kk=>kk.cell a2;have y3:∀kk:BW wr,kk.val.cell? ⟨b,off+i*12+3,none⟩=some (.slice y.1.1.1.LA y.1.1.1.ln y.1.1.1.lc):=fun kk=>kk.cell a3;have y4:∀kk:BW wr,kk.val.cell? ⟨b,off+i*12+4,none⟩=some (.slice y.1.1.1.DA y.1.1.1.dn y.1.1.1.dc):=fun kk=>kk.cell a4;have z0:∀kk:BW wr,kk.val.cell? ⟨b,off+i*12+5,none⟩=some (.int .i64 y.1.2.1.k):=fun kk=>kk.cell b0;have z1:∀kk:BW wr,kk.val.cell? ⟨b,off+i*12+5+1,none⟩=some (.int .i64 y.1.2.1.n):=fun kk=>kk.cell b1;have z2:∀kk:BW wr,kk.val.cell? ⟨b,off+i*12+5+2,none⟩=some (.string y.1.2.1.t):=fun kk=>kk.cell b2;have z3:∀kk:BW wr,kk.val.cell? ⟨b,off+i*12+5+3,none⟩=some (.slice y.1.2.1.LA y.1.2.1.ln y.1.2.1.lc):=fun kk=>kk.cell b3;have z4:∀kk:BW wr,kk.val.cell? ⟨b,off+i*12+5+4,none⟩=some (.slice y.1.2.1.DA y.1.2.1.dn y.1.2.1.dc):=fun kk=>kk.cell b4;clear hat hok D0 hs hys hy hlo hhi hq DE hb3;go_upto_region 10 with fail
     clear a0 a1 a2 a3 a4 b0 b1 b2 b3 b4 b5 b6 k1;refine aL (by kernel_rfl) (by kernel_rfl) ?_
     repeat(go_big_quiet_step (with_reducible exact K1.out _))
     refine Ln ?_;rintro _ ⟨kw,rfl⟩;replace HD0:=qD (HD0.out.step kw.below);replace HDE:=qD (HDE.out.Jp kw.below);replace HB:=qD (HB.out.Jp kw.below);replace HI:=qD (HI.out.step kw.below);generalize kw.val=w4 at*;clear y0 y1 y2 y3 y4 z0 z1 z2 z3 z4 K1;cases q
     ·have HNE:Hid (∃s∈nf,aU s.1.1 s.2.1≠0):=qD ⟨s,LP HSS.out,by have:=HQ.out;simpa using this.symm⟩;go_wp2_with fail;go_ret;exact⟨_,1,1,nf,_,rfl,HN3.out,.inr (.inl ⟨rfl,rfl,HNE.out⟩),AR (q:=(empty,empty)) (aE.Jq rfl),by decide,HB.out.alloc HB.out.size _⟩
     ·have HEZ:Hid (aU s.1.1 s.2.1=0):=by
       have:=HQ.out;rw[Hid];simpa using this.symm
      have KH:=qD (Bd y.1.1.2 y.1.1.1 w4 (HOK.out.step HDE.out).1);rw[HLO.out] at KH;obtain⟨hv,hhv⟩:∃hv,hv=bB s.1.1:=⟨_,rfl⟩;rw[<-hhv] at KH HXI
      have KC:Hid (∀wz,Calls prog 122 #[.agg #[.int .i64 3,.int .i64 hv,.string empty,.slice none 0 0,.slice none 0 0]] wz fun e w'=>e=.returned (.tuple #[.string (eE hv).1,.int .i64 0])/\Below wz.heap.size wz w'):=qD fun wz=>by
       have:=ku (jr s.1.1) (Gx s.1.1) wz (yQ s.1.1);rw[dZ (iQ (Ig s.1.1)),sM,<-hhv] at this;rw[hhv];rw[hhv] at this;exact this
      obtain⟨th,hth⟩:=pz hv
      have KA:Hid (∀wz,Calls prog 124 #[.string (eE hv).1] wz fun e w'=>e=.returned (.string (eE hv).2)/\Below wz.heap.size wz w'):=qD fun wz=>by
       have:=kV (ml hv) hth (sS hv) wz;unfold eE;rw[hth];exact this
      obtain⟨⟨a0,a1,a2,a3,a4⟩,_,_,_⟩:=HAT.out.keep (HDE.out.block b HB3.out);clear hhv hth HQ;obtain⟨kh,hkh⟩:∃kh,kh=eE hv:=⟨_,rfl⟩;rw[<-hkh] at KC KA HXI;clear hkh;go_wp2_with fail;refine KH.out.mono ?_;rintro e w5 ⟨rfl,hb⟩;replace HD0:=qD (HD0.out.step hb);replace HDE:=qD (HDE.out.Jp hb);replace HI:=qD (HI.out.step hb);clear hb KH a0 a1 a2 a3 a4;go_wp2_with fail;refine(jZ hv w5).mono ?_;rintro e w6 ⟨rfl,hb⟩;replace HD0:=qD (HD0.out.step hb);replace HDE:=qD (HDE.out.Jp hb);replace HI:=qD (HI.out.step hb);clear hb;go_wp2_with fail;refine(KC.out w6).mono ?_;rintro e w7 ⟨rfl,hb⟩;replace HD0:=qD (HD0.out.step hb);replace HDE:=qD (HDE.out.Jp hb);replace HI:=qD (HI.out.step hb);clear hb KC;go_wp2_with fail;refine(KA.out w7).mono ?_;rintro e w8 ⟨rfl,hb⟩;replace HD0:=qD (HD0.out.step hb);replace HDE:=qD (HDE.out.Jp hb);replace HI:=qD (HI.out.step hb);clear hb KA;go_wp2_with fail;refine(oI O kh u7 w3.heap.size m w8 HI.out.own HI.out.ln HDE.out.size (by have:=HI.out.le;omega) HSO.out HI.out.nil).mono ?_;rintro e w9 ⟨v',out,rfl,hown,hins,hb,hlen,hne⟩;have HN:=qD (HI.out.next HXI.out HFX.out hown hins hlen hne);replace HD0:=qD (HD0.out.step hb);replace HDE:=qD (HDE.out.Jp hb)
      have HA2:Hid (∀t∈nf.take (i+1),aU t.1.1 t.2.1=0):=qD fun t ht=>by
       rw[MW,HSS.out] at ht;rcases LY.1 ht with ht|ht
       ·exact HALL.out t ht
       ·obtain rfl:t=s:=by simpa using ht
        exact HEZ.out
      clear hown hins hb hlen hne HI;go_wp2_with fail;go_roundw
      ·exact⟨i+1,_,_,by omega,by go_num,HD0.out,HDE.out,HN.out,HA2.out⟩
      ·simp[intOf];omega
    ·obtain rfl:i=m3:=by omega
     have htk:((nf.map fun s=>bB s.1.1).map eE).take i=(nf.map fun s=>bB s.1.1).map eE:=LS (by rw[Lb,Lb];have:=HLY.out;omega);have HMM:Hid (∀y,y∈O↔y∈(nf.map fun s=>bB s.1.1).map eE):=qD fun y=>by rw[HI.out.mem y,htk]
     have hntk:nf.take i=nf:=LS (by have:=HLY.out;omega);rw[hntk] at HALL;have hmi:=HI.out.le;have hln:=HI.out.ln;clear htk D0 DE hntk;go_wp2_with fail;refine(oJ O w3.heap.size m u7 wr HI.out.own HI.out.ln (by omega)).mono ?_;rintro e w4 ⟨A9,m9,c9,rfl,hsr9,hm9,hb9⟩;have HS9:=qD hsr9;have HM9:Hid (m9<=1000000000):=qD (by omega);have HB9:Hid (Below w.heap.size w w4):=qD (HB.out.Jp hb9);clear hsr9 hb9 hm9;go_wp2_with fail;go_ret;exact⟨A9,m9,c9,nf,_,rfl,HN3.out,.inr (.inr ⟨rfl,HALL.out,O,HI.out.asc,HMM.out,rfl⟩),HS9.out,HM9.out,HB9.out⟩
theorem KS.first{w:World}{A:Option Addr}{n c:Nat}{ks:List Od}(h:KS w A n c ks)(hn:0<n):∃(b off:Nat) (o:OC) (q:Od),A=some ⟨b,off,none⟩/\w.cell? ⟨b,off,none⟩=some (.slice o.A o.n o.c)/\ST w o.A o.n o.c q.p/\ks[0]?=some q:=by
 obtain⟨os,h⟩:=h;obtain⟨b,off,e,_,hc⟩:=h.sr.el hn;obtain⟨o,ho⟩:∃o,os[0]?=some o:=⟨_,LI (by have:=h.sr.ln;omega)⟩;obtain⟨q,hq⟩:∃q,ks[0]?=some q:=⟨_,LI (by have:=h.sr.ln;have:=h.ln;omega)⟩;exact⟨b,off,o,q,e,hc 0 o ho 0 _ rfl,(h.el 0 o q ho hq).st,hq⟩
theorem ly(R:Ro)(a:RA)(p:ao)(w:World)(hT:cg w)(h:RR w a R)(hp:WP w p)(hn:ij p):
 Calls prog 4 #[ft a R,am p] w fun e w'=>e=.returned (.bool true)/\Below w.heap.size w w':=by
 have hF:∀wr,Below w.heap.size w wr->Calls prog 13 #[ft a R,.slice none 0 0] wr fun e w'=>e=.returned (.bool (decide (dD R=0)))/\Below wr.heap.size wr w':=fun wr hb=>by
  have hF:=Dw R a [] none 0 0;rw[show([]:List PV).map Prod.snd=[] from rfl,Dv] at hF;exact hF wr (h.step hb) SL.nil
 have hA:∀wr,Below w.heap.size w wr->Calls prog 14 #[] wr fun e w'=>e=.returned (.bool true)/\Below wr.heap.size wr w':=fun wr hb=>vk wr (hT.step hb);by_cases hv:dD R=0
 ·have V:=(Bg R).1 hv;have hkn:0<a.kn:=by have:=(ya V.ke).2.1;have:=h.ks.ln;omega
  obtain⟨kb,ko,o,q,hKA,hko,hst,hq⟩:=h.ks.first hkn;have hG:cV (dE q.p p).1:=EB q.p hn;have hcn:a.cn<=64:=by have:=V.ln;have:=h.cs.sr.ln;omega
  refine iO R a p w hT h hp _ (fun L=>∃nf,fg (dE q.p p).1 nf/\EJ R.ha nf L) (fun L=>∃nf,fg (dE q.p p).1 nf/\zH R.ha nf L) ?_ hF hA (fun _=>⟨hcn,fun c hc=>⟨(V.good c hc).1,(V.good c hc).2.1⟩⟩) ?_ ?_
  ·rintro L L' ⟨nf,h1,h2⟩ ⟨nf',h3,h4⟩;obtain rfl:nf=nf':=h1.unique h3 fun _ _=>Iff.rfl;exact ET hG h1 h2 h4
  ·intro _ hvp hnn wr hb;have hz:p.sz<=300000000:=Lt (GL hp) (by omega);rw[hKA];refine(zF p R.ha q.p o kb ko a.kn a.kc wr (hT.step hb) hkn ((hb.cell (p:=⟨kb,ko,none⟩) (Lr w _ hko)).trans hko) (hst.step hb) (hp.step hb) hvp hz hG).mono ?_;rintro e w' ⟨A,m,c,nf,L,h1,h2,h3,h4,h5,h6⟩;exact⟨A,m,c,L,h1,⟨nf,h2,h3⟩,h4,h5,h6⟩
  ·intro _ hvp hnn wr hb;have hz:p.sz<=300000000:=Lt (GL hp) (by omega);rw[hKA];refine(wV p R.ha q.p o kb ko a.kn a.kc wr (hT.step hb) hkn ((hb.cell (p:=⟨kb,ko,none⟩) (Lr w _ hko)).trans hko) (hst.step hb) (hp.step hb) hvp hz hG).mono ?_;rintro e w' ⟨A,m,c,nf,L,h1,h2,h3,h4,h5,h6⟩;exact⟨A,m,c,L,h1,⟨nf,h2,h3⟩,h4,h5,h6⟩
 ·refine iO R a p w hT h hp _ (fun _=>False) (fun _=>False) (fun _ _ h=>h.elim) hF hA ?_ ?_ ?_
  ·intro e;exact absurd (NN e) hv
  ·intro e;exact absurd (NN e) hv
  ·intro e;exact absurd (NN e) hv
end Go.Proofs.YthfahkaadbdicaaGreatDoor
