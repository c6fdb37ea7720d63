/- Parts of the proof, joined: PrExpr, PrUnused, PrCount, PrCheck, ValTake, ShOf. -/
import Derived.Test.YthfahkaadbdicaaGreatDoorRt1
import Derived.Test.YthfahkaadbdicaaGreatDoorRt14
import Derived.Test.YthfahkaadbdicaaGreatDoorRt15
import Derived.Test.YthfahkaadbdicaaGreatDoorRt19
import Derived.Test.YthfahkaadbdicaaGreatDoorRt18
import Derived.Test.YthfahkaadbdicaaGreatDoorRt13
import Derived.Test.YthfahkaadbdicaaGreatDoorRt2
import Derived.Test.YthfahkaadbdicaaGreatDoorRt12
set_option maxRecDepth 100000
set_option maxHeartbeats 16000000
set_option linter.unusedSimpArgs false
open Go.Proofs.Tryz
open ByteArray (empty)
namespace Go.Proofs.YthfahkaadbdicaaGreatDoor
open Go.RowKit
theorem DL(w:World):RW w VC.zero aC.zero:=mK.shut ⟨rfl,rfl,rfl,by decide,rfl,qL,by decide,fun h=>absurd h (by decide),rfl,qL,by decide,fun h=>absurd h (by decide)⟩
theorem JS{a b:Int}(h:a=b):Ending.returned (.int .i64 a)=.returned (.int .i64 b):=by rw[h]
def zy(op:Int):Int:=
 if op=1\/op=2\/op=3 then 0 else if op=18\/op=22\/op=23\/op=24\/op=26\/op=30\/op=31\/op=36 then 1 else if op=19\/op=25 then 3
 else if op=4\/op=6\/op=16\/op=17\/op=21\/op=29\/op=37\/op=35\/op=34 then -1 else 2
theorem BI(op:Int)(w:World):Calls prog 218 #[.int .i64 op] w fun e w'=>e=.returned (.int .i64 (zy op))/\w'=w:=by
 go_enter func218,ntmps218;go_wp2_with fail
 all_goals go_ret
 all_goals refine⟨JS ?_,rfl⟩
 all_goals simp only[Ns,Ny,ne_eq] at*
 all_goals unfold zy
 all_goals (repeat' split)
 all_goals first|rfl|omega
theorem ST.cells{w:World}{A:Option Addr}{n c:Nat}{l:List ByteArray}(h:ST w A n c l)(h0:0<n):∃b off,A=some ⟨b,off,none⟩/\b<w.heap.size/\∀i,i<n->∃x,w.cell? ⟨b,off+i,none⟩=some (.string x):=by
 obtain⟨b,off,e,hb,hc⟩:=h.sr.el h0;refine⟨b,off,e,hb,fun i hi=>?_⟩;have hl:i<l.length:=by have:=h.sr.ln;omega
 have:=hc i _ (LI hl) 0 _ rfl;rw[Oj,Ms] at this;exact⟨_,this⟩
theorem BJ(s:uc ByteArray)(w:World)(h:ST w s.A s.n s.c s.xs):Calls prog 219 #[s.v] w (Ao w):=by
 obtain⟨A,n,c,xs⟩:=s;have hz:n<=140737488355328:=by have:=h.sz;unfold aF at this;simp only at this;omega
 have H:=qD h;clear h;simp only at H;show Calls _ _ #[.slice A n c] w _;go_enter func219,ntmps219;go_upto_region 2 with fail
 go_loopw [3] (fun v wr=>∃i:Nat,i<=n/\v=.int .i64 i/\Below w.heap.size w wr) (fun v _=>n-(intOf v).toNat)
 ·exact⟨0,LQ _,rfl,LH _ _⟩
 case round=>
  obtain⟨i,hi,rfl,hbe⟩:=hrel;have BE:=qD hbe;clear hbe;by_cases hlt:i<n
  ·obtain⟨b,off,rfl,hb,hc⟩:=H.out.cells (by omega);obtain⟨x,e0'⟩:=hc i hlt;have HC:=qD hc;have E0:=qD e0';have e0:=(BE.out.cell (p:=⟨b,off+i,none⟩) hb).trans e0';clear e0' hc;go_wp2_with fail;refine(gi x _).mono ?_;rintro e w1 ⟨rfl,rfl⟩;obtain⟨q,hq⟩:∃q,q=aN x:=⟨_,rfl⟩;rw[<-hq];clear hq;cases q
   ·go_wp2_with fail;go_ret;exact⟨_,rfl,BE.out⟩
   ·go_upto_region 7 with fail
    go_loopw [4] (fun v wz=>∃k:Nat,k<=i/\v=.int .i64 k/\Below w.heap.size w wz) (fun v _=>i-(intOf v).toNat)
    ·exact⟨0,LQ _,rfl,BE.out⟩
    case round=>
     obtain⟨k,hk,rfl,hbk⟩:=hrel;have BK:=qD hbk;clear hbk e0;by_cases hkt:k<i
     ·obtain⟨y,f0'⟩:=HC.out k (by omega);have e0:=(BK.out.cell (p:=⟨b,off+i,none⟩) hb).trans E0.out;have f0:=(BK.out.cell (p:=⟨b,off+k,none⟩) hb).trans f0';have X0:∀kk:BW wr,kk.val.cell? ⟨b,off+i,none⟩=some (.string x):=fun kk=>kk.cell e0;have Y0:∀kk:BW wr,kk.val.cell? ⟨b,off+k,none⟩=some (.string y):=fun kk=>kk.cell f0;have i0:(0:Int)<=(i:Int):=by omega
      have i1:(i:Int)<(n:Int):=by omega
      have k0:(0:Int)<=(k:Int):=by omega
      have k1:(k:Int)<(n:Int):=by omega
      clear f0';go_upto_region 9 with fail
      clear e0 f0;refine aL (by kernel_rfl) (by kernel_rfl) ?_
      repeat(go_big_quiet_step (fail))
      refine Ln ?_;rintro _ ⟨kw,rfl⟩;have HK:=qD kw.below;generalize kw.val=w5 at*;clear X0 Y0;cases hq:(y.toList==x.toList)
      ·go_wp2_with fail;go_roundw
       ·exact⟨k+1,by omega,by go_num,BK.out.Jp HK.out⟩
       ·simp[intOf];omega
      ·go_wp2_with fail;go_ret;exact⟨_,rfl,BK.out.Jp HK.out⟩
     ·obtain rfl:k=i:=by omega
      go_wp2_with fail;go_roundw
      ·exact⟨k+1,by omega,by go_num,BK.out⟩
      ·simp[intOf];omega
  ·go_wp2_with fail;go_ret;exact⟨_,rfl,BE.out⟩
theorem BL(x:fu)(w:World)(h:WX w x)(hT:cg w):Calls prog 180 #[zm x] w (Gi w):=by
 have W:=qD h.open;have HT:=qD hT;clear h hT;have hpz:x.path.n<=140737488355328:=by have:=W.out.path.sz;unfold aF at this;omega
 have hnz:x.names.n<=140737488355328:=by have:=W.out.names.sz;unfold aF at this;omega
 have hkz:x.kn<=140737488355328:=by have:=W.out.ksz;unfold aF at this;omega
 have B0:Hid (aE (w.alloc (.cells (dk x) 35)) w.heap.size 35 (dk x)):=aE.Jq rfl;have BE:=qD ((LH w.heap.size w).alloc (qL) (Obj.cells (dk x) 35));go_enter func180,ntmps180;go_upto_region 1 with fail
 change Code.wp _ _ _ _ (w.alloc (.cells (dk x) 35));generalize w.alloc (.cells (dk x) 35)=wa at*;obtain⟨d0,d1,d2,d3,d9,d10⟩:=jG B0.out
 go_cut [46] (fun v wx=>∃b:Bool,v=.bool b/\aE wx w.heap.size 35 (dk x)/\Below w.heap.size w wx)
 case first=>as_aux_lemma=>
  have E0:∀q:BW wa,q.val.cell? ⟨w.heap.size,0,none⟩=some (.int .i64 x.op):=fun q=>q.cell d0;have E3:∀q:BW wa,q.val.cell? ⟨w.heap.size,3,none⟩=some (.slice x.names.A x.names.n x.names.c):=fun q=>q.cell d3;have E10:∀q:BW wa,q.val.cell? ⟨w.heap.size,10,none⟩=some (.slice x.kA x.kn x.kc):=fun q=>q.cell d10
  have K1:Hid (∀q:BW wa,Calls prog 218 #[.int .i64 x.op] q.val fun e w''=>e=.returned (.int .i64 (zy x.op))/\∃q:BW wa,w''=q.val):=fun q=>
   (BI x.op q.val).mono fun e w' ⟨h1,h2⟩=>⟨h1,q,h2⟩
  clear d0 d1 d2 d3 d9 d10;obtain⟨op,hop⟩:∃op,op=x.op:=⟨_,rfl⟩;obtain⟨kn,hkn⟩:∃kn,kn=x.kn:=⟨_,rfl⟩;obtain⟨nn,hnn⟩:∃nn,nn=x.names.n:=⟨_,rfl⟩;rw[<-hop] at E0 K1;rw[<-hkn] at E10 hkz;rw[<-hnn] at E3 hnz;obtain⟨k,hk⟩:∃k,k=zy op:=⟨_,rfl⟩;rw[<-hk] at K1;clear hop hkn hnn hk;have fin:∀(q:BW wa) (b:Bool),∃b':Bool,Value.bool b=.bool b'/\aE q.val w.heap.size 35 (dk x)/\Below w.heap.size w q.val:=fun q b=>⟨b,rfl,B0.out.step q.below,BE.out.Jp q.below⟩;have FIN:=qD fin;clear fin
  have ways:(decide (op<1)=true)\/(decide (op<1)=false/\decide (op>37)=true)\/(decide (op<1)=false/\decide (op>37)=false):=by
   by_cases h1:op<1<;>by_cases h2:op>37<;>simp[h1,h2]
  rcases ways with a1|⟨a1,a2⟩|⟨a1,a2⟩
  ·refine aL (by kernel_rfl) (by kernel_rfl) ?_
   repeat(go_big_quiet_step (with_reducible exact K1.out _))
   refine Ln ?_;rintro _ ⟨kw,rfl⟩;go_wp2_with fail;go_meet;exact FIN.out kw _
  ·refine aL (by kernel_rfl) (by kernel_rfl) ?_
   repeat(go_big_quiet_step (with_reducible exact K1.out _))
   refine Ln ?_;rintro _ ⟨kw,rfl⟩;go_wp2_with fail;go_meet;exact FIN.out kw _
  ·have ways2:(decide (k≥0)=true/\((kn:Int) != k)=true)\/(((decide (k≥0)=true/\((kn:Int) != k)=false)\/(decide (k≥0)=false))/\((op==34)=false\/(op==34)=true/\((kn:Int) != (nn:Int))=true\/(op==34)=true/\((kn:Int) != (nn:Int))=false/\((kn:Int)==0)=true\/(op==34)=true/\((kn:Int) != (nn:Int))=false/\((kn:Int)==0)=false)):=by
    cases decide (k≥0)<;>cases((kn:Int) != k)<;>cases(op==34)<;>cases((kn:Int) != (nn:Int))<;>cases((kn:Int)==0)<;>simp
   rcases ways2 with⟨b1,b2⟩|⟨⟨b1,b2⟩|b1,c1|⟨c1,c2⟩|⟨c1,c2,c3⟩|⟨c1,c2,c3⟩⟩
   all_goals
    refine aL (by kernel_rfl) (by kernel_rfl) ?_
    repeat(go_big_quiet_step (with_reducible exact K1.out _))
    refine Ln ?_;rintro _ ⟨kw,rfl⟩;go_wp2_with fail;go_meet;exact FIN.out kw _
 case rest=>
  obtain⟨b,rfl,hB0,hBE⟩:=hcut;clear B0 BE d0 d1 d2 d3 d9 d10;have B0:=qD hB0;have BE:=qD hBE;obtain⟨d0,d1,d2,d3,d9,d10⟩:=jG B0.out;clear hB0 hBE;cases b
  ·go_upto_region 3 with fail
   have HP:=qD (W.out.path.step BE.out)
   go_cut [72] (fun v wx=>∃b:Bool,v=.bool b/\wx=wc)
   case first=>as_aux_lemma=>
    go_wp2_with (go_at_call 58;refine(nK x.path.xs _ _ _ _ HP.out).mono ?_;rintro e w1 ⟨rfl,rfl⟩;obtain⟨bb,hbb⟩:∃b,b=du x.path.xs:=⟨_,rfl⟩;rw[<-hbb];clear hbb;cases bb)
    all_goals go_meet
    all_goals exact⟨_,rfl,rfl⟩
   case rest=>
    obtain⟨b,rfl,rfl⟩:=hcut;cases b
    ·go_upto_region 5 with fail
     obtain⟨nb,hnb⟩:∃nb,nb=(x.op==3||(x.op==32||x.op==33)):=⟨_,rfl⟩
     go_cut [3] (fun v wx=>v=.bool nb/\wx=wc)
     case first=>
      go_wp2_with fail
      all_goals go_meet
      all_goals (refine⟨?_,rfl⟩;rw[hnb];simp[*,Bool.or_assoc])
     case rest=>
      obtain⟨rfl,rfl⟩:=hcut;have HNB:=qD hnb;clear hnb;have HN:=qD (W.out.names.step BE.out);go_upto_region 6 with fail
      go_cut [103] (fun v wx=>∃b:Bool,v=.bool b/\aE wx w.heap.size 35 (dk x)/\Below w.heap.size w wx)
      case first=>as_aux_lemma=>
       cases nb
       all_goals go_wp2_with (first
        | (go_at_call 108;refine(gi x.name _).mono ?_;rintro e w1 ⟨rfl,rfl⟩;obtain⟨bb,hbb⟩:∃b,b=aN x.name:=⟨_,rfl⟩;rw[<-hbb];clear hbb;cases bb)
        | (go_at_call 219;refine(BJ x.names _ HN.out).mono ?_;rintro e w1 ⟨bb,rfl,hb⟩;replace B0:=qD (B0.out.step hb);replace BE:=qD (BE.out.Jp hb);clear hb;cases bb))
       all_goals go_meet
       all_goals exact⟨_,rfl,B0.out,BE.out⟩
      case rest=>
       obtain⟨b,rfl,hB0,hBE⟩:=hcut;clear B0 BE d0 d1 d2 d3 d9 d10;have B0:=qD hB0;have BE:=qD hBE;obtain⟨d0,d1,d2,d3,d9,d10⟩:=jG B0.out;clear hB0 hBE;cases b
       ·go_upto_region 8 with fail
        have RA:=qD (nH B0.out);have HA:=qD (W.out.arg.step BE.out)
        go_cut [112] (fun v wx=>∃b:Bool,v=.bool b/\aE wx w.heap.size 35 (dk x)/\Below w.heap.size w wx)
        case first=>as_aux_lemma=>
         go_wp2_with (first
          | ((with_reducible show wpList _ _ _ (⟨_,.load 29 _,_,_,_,_⟩::_) _ _);refine aG rfl 29 _ rfl w.heap.size 4 rfl _ _ RA.out Mt rfl (by kernel_rfl) ?_)
          | (go_at_call 8;refine(eW x.arg.2 x.arg.1 _ HA.out).mono ?_;rintro e w1 ⟨rfl,hb⟩;replace B0:=qD (B0.out.step hb);replace BE:=qD (BE.out.Jp hb);clear hb;obtain⟨bb,hbb⟩:∃b,b=aO x.arg.2:=⟨_,rfl⟩;rw[<-hbb];clear hbb;cases bb))
         all_goals go_meet
         all_goals exact⟨_,rfl,B0.out,BE.out⟩
        case rest=>
         obtain⟨b,rfl,hB0,hBE⟩:=hcut;clear B0 BE d0 d1 d2 d3 d9 d10 RA HA;have B0:=qD hB0;have BE:=qD hBE;obtain⟨d0,d1,d2,d3,d9,d10⟩:=jG B0.out;clear hB0 hBE;cases b
         ·go_upto_region 10 with fail
          have RA:=qD (nH B0.out);have HA:=qD (W.out.arg.step BE.out);obtain⟨sv,hsv⟩:∃sv,sv=eJ x.arg.2 aC.zero:=⟨_,rfl⟩
          have HS:Hid (Calls prog 220 #[x.arg.1.val,VC.zero.val] wc fun e w'=>e=.returned (.bool sv)/\Below wc.heap.size wc w'):=by
           rw[hsv];exact Ay x.arg.2 aC.zero x.arg.1 VC.zero wc HA.out (DL _)
          clear hsv;obtain⟨op,hop⟩:∃op,op=x.op:=⟨_,rfl⟩;rw[<-hop] at d0 HNB;have HOP:=qD hop;clear hop
          have cl:(op=1/\nb=false)\/(op=2/\nb=false)\/(op=3/\nb=true)\/(op=34/\nb=false)\/((op != 1)=true/\(op != 2)=true/\(op != 3)=true/\(op != 34)=true/\nb=true)\/((op != 1)=true/\(op != 2)=true/\(op != 3)=true/\(op != 34)=true/\nb=false):=by
           have h:=HNB.out;by_cases h1:op=1
           ·subst h1;exact .inl ⟨rfl,h⟩
           by_cases h2:op=2
           ·subst h2;exact .inr (.inl ⟨rfl,h⟩)
           by_cases h3:op=3
           ·subst h3;exact .inr (.inr (.inl ⟨rfl,h⟩))
           by_cases h4:op=34
           ·subst h4;exact .inr (.inr (.inr (.inl ⟨rfl,h⟩)))
           have e1:(op != 1)=true:=by simpa using h1
           have e2:(op != 2)=true:=by simpa using h2
           have e3:(op != 3)=true:=by simpa using h3
           have e4:(op != 34)=true:=by simpa using h4
           clear h HNB;cases nb
           ·exact .inr (.inr (.inr (.inr (.inr ⟨e1,e2,e3,e4,rfl⟩))))
           ·exact .inr (.inr (.inr (.inr (.inl ⟨e1,e2,e3,e4,rfl⟩))))
          clear HNB;rcases cl with⟨rfl,rfl⟩|⟨rfl,rfl⟩|⟨rfl,rfl⟩|⟨rfl,rfl⟩|⟨e1,e2,e3,e4,rfl⟩|⟨e1,e2,e3,e4,rfl⟩
          all_goals go_wp2_with (first
           | (go_at_call 220;refine HS.out.mono ?_;rintro e w1 ⟨rfl,hb⟩;replace B0:=qD (B0.out.step hb);replace BE:=qD (BE.out.Jp hb);clear hb d0 d1 d2 d3 d9 d10;obtain⟨d0,d1,d2,d3,d9,d10⟩:=jG B0.out;rw[<-HOP.out] at d0;cases sv)
           | ((with_reducible show wpList _ _ _ (⟨_,.load 29 _,_,_,_,_⟩::_) _ _);refine aG rfl 29 _ rfl w.heap.size 4 rfl _ _ RA.out Mt rfl (by kernel_rfl) ?_))
          all_goals go_ret
          all_goals exact⟨_,rfl,BE.out⟩
         ·go_wp2_with fail;go_ret;exact⟨_,rfl,BE.out⟩
       ·go_wp2_with fail;go_ret;exact⟨_,rfl,BE.out⟩
    ·go_wp2_with fail;go_ret;exact⟨_,rfl,BE.out⟩
  ·go_wp2_with fail;go_ret;exact⟨_,rfl,BE.out⟩
theorem yD(op:Int):(cq op=false/\dB op=false/\cQ op=false)\/(cq op=true/\dB op=true/\cQ op=false)\/(cq op=true/\dB op=false/\cQ op=true)\/(cq op=true/\dB op=false/\cQ op=false):=by
 unfold cq dB cQ dW;by_cases h:2<=op/\op<=19
 ·have:op=2\/op=3\/op=4\/op=5\/op=6\/op=7\/op=8\/op=9\/op=10\/op=11\/op=12\/op=13\/op=14\/op=15\/op=16\/op=17\/op=18\/op=19:=by omega
  rcases this with rfl|rfl|rfl|rfl|rfl|rfl|rfl|rfl|rfl|rfl|rfl|rfl|rfl|rfl|rfl|rfl|rfl|rfl<;>decide
 ·refine .inl ⟨?_,?_,?_⟩
  ·simp;omega
  ·simp;omega
  ·simp;omega
theorem yE(p:ao)(w:World):Calls prog 67 #[am p] w (Ao w):=by
 have B0:Hid (aE (w.alloc (.cells (aH p) 38)) w.heap.size 38 (aH p)):=aE.Jq rfl;have BE:=qD ((LH w.heap.size w).alloc (qL) (Obj.cells (aH p) 38));go_enter func67,ntmps67;go_upto_region 1 with fail
 change Code.wp _ _ _ _ (w.alloc (.cells (aH p) 38));generalize w.alloc (.cells (aH p) 38)=wa at*;obtain⟨d0,d1,_,_,d7,_,_,_⟩:=aS B0.out;have RA:=qD (aX B0.out);have hcl:=yD p.op;obtain⟨b1,hb1⟩:∃b,b=cq p.op:=⟨_,rfl⟩;obtain⟨b2,hb2⟩:∃b,b=dB p.op:=⟨_,rfl⟩;obtain⟨b3,hb3⟩:∃b,b=cQ p.op:=⟨_,rfl⟩;rw[<-hb1,<-hb2,<-hb3] at hcl;have HB1:=qD hb1;have HB2:=qD hb2;have HB3:=qD hb3;have HCL:=qD hcl;clear hb1 hb2 hb3 hcl
 go_cut [36] (fun v wx=>∃b:Bool,v=.bool b/\aE wx w.heap.size 38 (aH p)/\Below w.heap.size w wx)
 case first=>
  rcases HCL.out with⟨rfl,rfl,rfl⟩|⟨rfl,rfl,rfl⟩|⟨rfl,rfl,rfl⟩|⟨rfl,rfl,rfl⟩
  all_goals go_wp2_with (first
  | (go_at_call 63;refine(lj _ _).mono ?_;rintro e w1 ⟨rfl,rfl⟩;rw[<-HB1.out])
  | (go_at_call 64;refine(pH _ _).mono ?_;rintro e w1 ⟨rfl,rfl⟩;rw[<-HB2.out])
  | (go_at_call 61;refine(ie _ _).mono ?_;rintro e w1 ⟨rfl,rfl⟩;rw[<-HB3.out])
  | (go_at_call 131;refine(lQ p.arg.1 _).mono ?_;rintro e w1 ⟨b,rfl,hb⟩;replace B0:=qD (B0.out.step hb);replace BE:=qD (BE.out.Jp hb);clear hb d0 d1 d7;obtain⟨d0,d1,_,_,d7,_,_,_⟩:=aS B0.out;cases b)
  | ((with_reducible show wpList _ _ _ (⟨_,.load 29 _,_,_,_,_⟩::_) _ _);refine aG rfl 29 _ rfl w.heap.size 2 rfl _ _ RA.out Mt rfl (by kernel_rfl) ?_))
  all_goals go_meet
  all_goals exact⟨_,rfl,B0.out,BE.out⟩
 case rest=>
  obtain⟨b,rfl,hB0,hBE⟩:=hcut;clear B0 BE d0 d1 d7 RA HB1 HB2 HB3 HCL;have B0:=qD hB0;have BE:=qD hBE;obtain⟨d0,d1,_,_,d7,d8,d9,_⟩:=aS B0.out;clear hB0 hBE;cases b
  ·go_upto_region 3 with fail
   go_cut [69] (fun v wx=>∃b:Bool,v=.bool b/\wx=wc)
   case first=>
    go_wp2_with fail
    all_goals go_meet
    all_goals exact⟨_,rfl,rfl⟩
   case rest=>
    obtain⟨b,rfl,rfl⟩:=hcut;have RA:=qD (aX B0.out);have RS:=qD (ma B0.out);have RE:=qD (nI B0.out);cases b
    ·cases h18:(p.op==18)<;>cases h24:(p.op==24)
     all_goals go_wp2_with (first
      | (go_at_call 132;refine(uh p.sk p.sr p.pts _).mono ?_;rintro e w1 ⟨b,rfl,hb⟩;replace B0:=qD (B0.out.step hb);replace BE:=qD (BE.out.Jp hb);replace RE:=qD (nI B0.out);clear hb d0 d1 d7 d8 d9;obtain⟨d0,_,_,_,_,_,_,_⟩:=aS B0.out;cases b)
      | (go_at_call 133;refine(xp p.ex _).mono ?_;rintro e w1 ⟨b,rfl,hb⟩;replace BE:=qD (BE.out.Jp hb);clear hb;cases b)
      | ((with_reducible show wpList _ _ _ (⟨_,.load 32 _,_,_,_,_⟩::_) _ _);refine aG rfl 32 _ rfl w.heap.size 10 rfl _ _ RS.out Oy rfl (by kernel_rfl) ?_)
      | ((with_reducible show wpList _ _ _ (⟨_,.load 35 _,_,_,_,_⟩::_) _ _);refine aG rfl 35 _ rfl w.heap.size 13 rfl _ _ RE.out Nj rfl (by kernel_rfl) ?_))
     all_goals go_ret
     all_goals exact⟨_,rfl,BE.out⟩
    ·go_wp2_with fail;go_ret;exact⟨_,rfl,BE.out⟩
  ·go_wp2_with fail;go_ret;exact⟨_,rfl,BE.out⟩
def FL(p:ao)(lf:Int)(w:World)(e:Ending)(w':World):Prop:=∃r:Int,e=.returned (.int .i64 r)/\-1<=r/\r<=1000/\(0<=r->r=lf-p.nodes)/\Below w.heap.size w w'
theorem vP{l:List ao}{i:Nat}{k:ao}(h:l[i]?=some k):ao.nodes.nodesL (l.take (i+1))=ao.nodes.nodesL (l.take i)+k.nodes:=by
 induction l generalizing i with
 | nil=>simp at h
 | cons x r ih=>
  cases i with
  | zero=>simp at h;subst h;simp[ao.nodes.nodesL]
  | succ i=>
   have:=ih (i:=i) (by simpa using h);simp only[NX,ao.nodes.nodesL] at*;omega
structure Jm(p:ao)(lf:Int)(w:World)(i:Nat)(r:Int)(wr:World):Prop where
 b0:aE wr w.heap.size 38 (aH p)
 bel:Below w.heap.size w wr
 lo:-1<=r
 hi:r<=1000
 eq:0<=r->r=lf-1-(ao.nodes.nodesL (p.kids.take i):Nat)
def IK(w:World)(e:Ending)(w':World):Prop:=∃a b:Int,e=.returned (.tuple #[.int .i64 a,.int .i64 b])/\1<=a/\a<=257/\(b=0->a<=256)/\Below w.heap.size w w'
structure Jn(x:fu)(w:World)(a:Int)(wr:World):Prop where
 b0:aE wr w.heap.size 35 (dk x)
 bel:Below w.heap.size w wr
 lo:1<=a
 hi:a<=256
theorem yF(x:fu):∀(nu lv:Int) (w:World),WX w x->cg w->1<=nu->nu<=257->1<=lv->lv<=17->Calls prog 134 #[zm x,.int .i64 nu,.int .i64 lv] w (IK w):=by
 induction x using fu.ind with
 | h x ih=>
 intro nu lv w hw hT h1 h2 h3 h4;have HT:=qD hT;have HW:=qD hw;have W:=qD hw.open;have IH:=qD ih;have hkz:x.kn<=140737488355328:=by have:=W.out.ksz;unfold aF at this;omega
 clear ih hw hT;have B0:Hid (aE (w.alloc (.cells (dk x) 35)) w.heap.size 35 (dk x)):=aE.Jq rfl;have BE:=qD ((LH w.heap.size w).alloc (qL) (Obj.cells (dk x) 35));go_enter func134,ntmps134;go_upto_region 1 with fail
 change Code.wp _ _ _ _ (w.alloc (.cells (dk x) 35));generalize w.alloc (.cells (dk x) 35)=wa at*;by_cases hz:16<lv\/256<nu
 ·go_cut [17] (fun v wx=>v=.bool true/\wx=wa)
  case first=>
   go_wp2_with fail
   all_goals go_meet
   all_goals first|exact⟨rfl,rfl⟩|(exfalso;omega)|(refine⟨?_,rfl⟩;simp;omega)
  case rest=>
   obtain⟨rfl,rfl⟩:=hcut;go_wp2_with fail;go_ret2;exact⟨nu,2,rfl,h1,h2,fun h=>absurd h (by omega),BE.out⟩
 ·have g1:¬16<lv:=by omega
  have g2:¬256<nu:=by omega
  have g4:wrap64 (lv+1)=lv+1:=by unfold wrap64;omega
  clear hz;have RF:=qD (zq B0.out);go_upto_region 3 with fail
  go_wp2_with (first
   | ((with_reducible show wpList _ _ _ (⟨_,.load 35 _,_,_,_,_⟩::_) _ _);refine aG rfl 35 _ rfl w.heap.size 0 rfl _ _ RF.out Nj rfl (by kernel_rfl) ?_)
   | (go_at_call 180;fail))
  refine(BL x wa (HW.out.step BE.out) (HT.out.step BE.out)).mono ?_;rintro e w1 ⟨er,rfl,hb⟩;replace B0:=qD (B0.out.step hb);replace BE:=qD (BE.out.Jp hb);clear hb RF;by_cases he:er=0
  ·subst he;go_upto_region 7 with fail
   go_loopw [1,9,10,11] (fun v1 v9 _ _ wr=>∃(i:Nat) (a:Int),i<=x.kn/\v1=.int .i64 a/\v9=.int .i64 i/\Jn x w a wr) (fun _ v9 _ _ _=>x.kn-(intOf v9).toNat)
   ·exact⟨0,nu,LQ _,rfl,rfl,B0.out,BE.out,h1,by omega⟩
   case round=>
    obtain⟨i,a,hi,rfl,rfl,hI⟩:=hrel;have HI:=qD hI;obtain⟨_,_,_,_,_,d10⟩:=jG hI.b0;have alo:=hI.lo;have ahi:=hI.hi;clear hI;have g3:wrap64 (a+1)=a+1:=by unfold wrap64;omega
    by_cases hlt:i<x.kn
    ·obtain⟨b,off,y,hA,hb,hx,hm,hrg⟩:=W.out.sr.row hlt;have RG:=qD (bi hrg HI.out.bel hb);have KW:=qD ((W.out.kids y hm).step HI.out.bel);have IX:=qD (IH.out y hm);have KT:=qD (HT.out.step HI.out.bel);rw[hA] at d10;clear hrg hx hm hA
     go_wp2_with (first
      | ((with_reducible show wpList _ _ _ (⟨_,.load 35 _,_,_,_,_⟩::_) _ _);refine aG rfl 35 _ rfl b (off+i*11) rfl _ _ RG.out Nj rfl (by kernel_rfl) ?_)
      | (go_at_call 134;(try rw[g4]);(try rw[g3]);refine(IX.out (a+1) (lv+1) _ KW.out KT.out (by omega) (by omega) (by omega) (by omega)).mono ?_;rintro e w1 ⟨r,er,rfl,hr1,hr2,hr3,hbb⟩;have H3:=qD hr3;have HB:=qD hbb;clear hr3 hbb;by_cases he:er=0;(focus (subst he))))
     ·have:r<=256:=by simpa using H3.out
      go_roundw
      ·exact⟨i+1,r,by omega,rfl,by go_num,HI.out.b0.step HB.out,HI.out.bel.Jp HB.out,hr1,this⟩
      ·simp[intOf];omega
     ·have he':(er != 0)=true:=by simpa using he
      go_wp2_with fail;go_ret2;exact⟨r,er,rfl,hr1,hr2,H3.out,HI.out.bel.Jp HB.out⟩
    ·go_wp2_with fail;go_ret2;exact⟨a,0,rfl,alo,by omega,fun _=>ahi,HI.out.bel⟩
  ·have he':(er != 0)=true:=by simpa using he
   clear he;go_wp2_with fail;go_ret2;exact⟨nu,er,rfl,h1,h2,fun _=>by omega,BE.out⟩
theorem yG(x:fu)(w:World)(h:WX w x)(hT:cg w):Calls prog 68 #[zm x] w (Gi w):=by
 have HT:=qD hT;have HW:=qD h;clear h hT;have B0:Hid (aE (w.alloc (.cells (dk x) 35)) w.heap.size 35 (dk x)):=aE.Jq rfl;have BE:=qD ((LH w.heap.size w).alloc (qL) (Obj.cells (dk x) 35));go_enter func68,ntmps68;go_upto_region 1 with fail
 change Code.wp _ _ _ _ (w.alloc (.cells (dk x) 35));generalize w.alloc (.cells (dk x) 35)=wa at*;have RF:=qD (zq B0.out)
 go_wp2_with (first
  | ((with_reducible show wpList _ _ _ (⟨_,.load 35 _,_,_,_,_⟩::_) _ _);refine aG rfl 35 _ rfl w.heap.size 0 rfl _ _ RF.out Nj rfl (by kernel_rfl) ?_)
  | (go_at_call 134;refine(yF x 1 1 _ (HW.out.step BE.out) (HT.out.step BE.out) (by omega) (by omega) (by omega) (by omega)).mono ?_;rintro e w1 ⟨r,er,rfl,_,_,_,hb⟩;replace BE:=qD (BE.out.Jp hb);clear hb B0 RF))
 go_ret;exact⟨er,rfl,BE.out⟩
theorem bD{l rest:List Oper}{i:Nat}{o:Oper}(h:l.drop i=o::rest):l.toArray[i]?=some o:=by
 have:=congrArg List.head? h;rw[QI] at this;simpa using this
abbrev fj(op:Int)(PA:Option Addr)(pn pc:Nat)(a:VC):Array Value:=#[.int .i64 op,.slice PA pn pc,.int .i64 a.k,.int .i64 a.n,.string a.t,.slice a.LA a.ln a.lc,.slice a.DA a.dn a.dc,.slice none 0 0,.int .i64 0,.int .i64 0,.int .i64 0,.slice none 0 0,.int .i64 0,.int .i64 0,.slice none 0 0,.string empty,.slice none 0 0,.int .i64 0,.int .i64 0,.string empty,.slice none 0 0,.slice none 0 0,.int .i64 0,.slice none 0 0,.slice none 0 0]
abbrev GN(op:Int)(PA:Option Addr)(pn pc:Nat)(a:VC):Value:=.agg (fj op PA pn pc a)
theorem GP{x:aC}(h:aO x=true):fg (fun a=>dj ae a (aT [eM x])) [((x,false),(x,true))]:=by
 have hne:(eM x).ne=true:=by rw[Eh];exact h
 have e:aT [eM x]=[((x,false),(x,true))]:=by unfold aT;rw[List.filter_cons_of_pos hne];rfl
 refine⟨⟨fun s hs=>?_,by simp⟩,fun a=>by rw[e]⟩;rw[<-e] at hs;exact lH s hs
def DM(q:Iv)(b:Bool)(w:World)(e:Ending)(w':World):Prop:=
 ∃(A:Option Addr) (c:Nat) (p:PI),e=.returned (.tuple #[.slice A 1 c,.bool b])/\ar p=q/\SI w' A 1 c [p]/\Below w.heap.size w w'
theorem vQ{S:cA->Prop}{s:cA×cA}{k:Nat}{w:World}{e:Ending}{w':World}(h:lY S k w e w')(hs:fg S [s]):
 ∃(A:Option Addr) (c:Nat) (p:PI),e=.returned (.slice A 1 c)/\ar p=dr s/\SI w' A 1 c [p]/\Below w.heap.size w w':=by
 obtain⟨A,m,c,ys,n,he,hy,hn,_,hsi,hb⟩:=h;have hn':=hn.unique hs fun a _=>Iff.rfl;subst hn';have hl:=congrArg List.length hy;simp only[Lb,Ll,Mp] at hl;obtain⟨p,rfl⟩:=NV.1 hl;have hm:=hsi.sr.ln;simp only[Ll,Mp] at hm;subst hm;refine⟨A,c,p,he,?_,hsi,hb⟩;simpa using hy
theorem GQ(x:aC)(a:VC)(PA QA:Option Addr)(pn pc qn qc:Nat)(l:List ByteArray)(w:World)(hT:cg w)(ha:RW w a x)(hx:aO x=true)(h6:a.k≠6)(h2:a.k≠2)(hp:ST w PA pn pc l)(hq:ST w QA qn qc l)(hs:ah l l=true):
 Calls prog 36 #[GN 2 PA pn pc a,.slice QA qn qc] w (DM (eM x) true w):=by
 have HT:=qD hT;have HX:=qD ha;have HV:=qD hx;have HE:=qD (eG l l PA QA pn pc qn qc);rw[hs] at HE;have HP:=qD hp;have HQ:=qD hq;have k6:(a.k != 6)=true:=by simpa using h6
 have k2:(a.k != 2)=true:=by simpa using h2
 have B0:Hid (aE (w.alloc (.cells (fj 2 PA pn pc a) 38)) w.heap.size 38 (fj 2 PA pn pc a)):=aE.Jq rfl;have BE:=qD ((LH w.heap.size w).alloc (qL) (Obj.cells (fj 2 PA pn pc a) 38));clear hT ha hx hp hq hs h6 h2;go_enter No,Ni;go_upto_region 1 with fail
 change Code.wp _ _ _ _ (w.alloc (.cells (fj 2 PA pn pc a) 38));generalize w.alloc (.cells (fj 2 PA pn pc a) 38)=wa at*;have p0:=B0.out.cell 0;have p1:=B0.out.cell 1;have p2:=B0.out.cell 2;have p3:=B0.out.cell 3;have p4:=B0.out.cell 4;have p5:=B0.out.cell 5;have p6:=B0.out.cell 6;simp at p0 p1 p2 p3 p4 p5 p6;go_wp2_with fail;refine(HE.out wa (HP.out.step BE.out) (HQ.out.step BE.out)).mono ?_;rintro e w1 ⟨rfl,hb⟩;have C0:=qD (B0.out.step hb);have CE:=qD (BE.out.Jp hb);clear hb B0 BE HE HP HQ p0 p1 p2 p3 p4 p5 p6;have p0:=C0.out.cell 0;have p1:=C0.out.cell 1;have p2:=C0.out.cell 2;have p3:=C0.out.cell 3;have p4:=C0.out.cell 4;have p5:=C0.out.cell 5;have p6:=C0.out.cell 6;simp at p0 p1 p2 p3 p4 p5 p6;go_upto_region 11 with fail
 have B:=qD ((LH w1.heap.size w1).drewN 1);have KS:Hid (∀w',Below w1.heap.size w1 w'->w'.cell? ⟨w.heap.size,2,none⟩=some (.int .i64 a.k)/\w'.cell? ⟨w.heap.size,3,none⟩=some (.int .i64 a.n)/\w'.cell? ⟨w.heap.size,4,none⟩=some (.string a.t)/\w'.cell? ⟨w.heap.size,5,none⟩=some (.slice a.LA a.ln a.lc)/\w'.cell? ⟨w.heap.size,6,none⟩=some (.slice a.DA a.dn a.dc)):=qD fun w' hb=>⟨(hb.cell (p:=⟨w.heap.size,2,none⟩) C0.out.lt).trans p2,(hb.cell (p:=⟨w.heap.size,3,none⟩) C0.out.lt).trans p3,(hb.cell (p:=⟨w.heap.size,4,none⟩) C0.out.lt).trans p4,(hb.cell (p:=⟨w.heap.size,5,none⟩) C0.out.lt).trans p5,(hb.cell (p:=⟨w.heap.size,6,none⟩) C0.out.lt).trans p6⟩;clear p0 p1 p2 p3 p4 p5 p6
 go_region_held3 (fun w'=>w'.cell? ⟨w.heap.size,2,none⟩=some (.int .i64 a.k)/\w'.cell? ⟨w.heap.size,3,none⟩=some (.int .i64 a.n)/\w'.cell? ⟨w.heap.size,4,none⟩=some (.string a.t)/\w'.cell? ⟨w.heap.size,5,none⟩=some (.slice a.LA a.ln a.lc)/\w'.cell? ⟨w.heap.size,6,none⟩=some (.slice a.DA a.dn a.dc))
  (first|exact KS.out _ B.out|exact KS.out _ (B.out.alloc B.out.size _)|((try dsimp only);assumption)|go_keep)
  ((go_at_call 94;refine(xk [(a,x)] _ 1 1 _ (HT.out.step (CE.out.Jp (B.out.alloc B.out.size _))) (qO (aE.Jq rfl) (HX.out.step (CE.out.Jp (B.out.alloc B.out.size _)))) (by omega)).mono ?_;rintro e3 w3 hno;obtain⟨A3,c3,p3,rfl,hp3,hsi,hb⟩:=vQ hno (GP HV.out);replace B:=qD ((B.out.alloc B.out.size _).Jp hb);have HS3:=qD hsi;have HP3:=qD hp3;clear hb hsi hp3 hno))
 all_goals
  go_wp2_with fail;go_ret2;exact⟨A3,c3,p3,rfl,HP3.out,HS3.out,CE.out.Jp B.out⟩
theorem FM(QA:Option Addr)(qn qc:Nat)(l:List ByteArray)(w:World)(hq:ST w QA qn qc l)(hs:ah [] l=false):
 Calls prog 36 #[GN 1 none 0 0 VC.zero,.slice QA qn qc] w (DM iq false w):=by
 have HE:=qD (eG [] l none QA 0 0 qn qc);rw[hs] at HE;have HQ:=qD hq;have B0:Hid (aE (w.alloc (.cells (fj 1 none 0 0 VC.zero) 38)) w.heap.size 38 (fj 1 none 0 0 VC.zero)):=aE.Jq rfl;have BE:=qD ((LH w.heap.size w).alloc (qL) (Obj.cells (fj 1 none 0 0 VC.zero) 38));clear hq hs;go_enter No,Ni;go_upto_region 1 with fail
 change Code.wp _ _ _ _ (w.alloc (.cells (fj 1 none 0 0 VC.zero) 38));generalize w.alloc (.cells (fj 1 none 0 0 VC.zero) 38)=wa at*;have p0:=B0.out.cell 0;have p1:=B0.out.cell 1;simp at p0 p1;go_wp2_with fail;refine(HE.out wa ⟨SR.nil,by show 0*16<=aF;decide,by simp⟩ (HQ.out.step BE.out)).mono ?_;rintro e w1 ⟨rfl,hb⟩;have CE:=qD (BE.out.Jp hb);clear hb B0 BE HE HQ p0 p1;go_wp2_with fail;refine(zk w1).mono ?_;rintro e w3 hno;obtain⟨A3,c3,p3,rfl,hp3,hsi,hb⟩:=vQ hno mH;have HS3:=qD hsi;have HP3:=qD hp3;have EE:=qD (CE.out.Jp hb);clear hno hb hsi hp3;go_wp2_with fail;go_ret2;exact⟨A3,c3,p3,rfl,HP3.out,HS3.out,EE.out⟩
end Go.Proofs.YthfahkaadbdicaaGreatDoor
