/- A part of the proof. -/
import Derived.Test.YtgfoliedmhgpnaaGreatDoorBn24
import Derived.Test.YtgfoliedmhgpnaaGreatDoorBn23
set_option maxRecDepth 100000
set_option maxHeartbeats 16000000
set_option linter.unusedSimpArgs false
open Go.Proofs.Tryz
open ByteArray (empty)
namespace Go.Proofs.YtgfoliedmhgpnaaGreatDoor
open Go.RowKit
set_option linter.unusedVariables false
section
variable {b c g n m q cap base size:Nat} {op x:Int} {s:ByteArray} {w w' wr w3 w4 wq:World} {A A':Option Addr} {F:Nat -> Prop} {e:TypeId} {cs:Array Value} {v:Value}
def yh(x:dI):Prop:=1<=x.op/\x.op<=37/\(0<=kH x.op->(x.kn:Int)=kH x.op)/\(x.op=34->x.kn=x.names.n)
def Ep(x:dI):Prop:=yh x/\(x.op=1->aL x.arg.2=true)
def mX:Nat->dI->Prop
 | 0,_=>False
 | k+1,x=>Ep x/\x.kn<=256/\∀q∈x.kids,mX k q
theorem xE(x:dI)(w:World)(h:WX w x)(hT:cY w):Calls prog 193 #[dL x] w (fun e w'=>∃n:Int,e=.returned (.int .i64 n)/\(n=0->Ep x)/\Below w.heap.size w w'):=by
 have W:=qD h.open;have HT:=qD hT;clear h hT;have hpz:x.path.n<=140737488355328:=by have:=W.out.path.sz;unfold aH at this;omega
 have hnz:x.names.n<=140737488355328:=by have:=W.out.names.sz;unfold aH at this;omega
 have hkz:x.kn<=140737488355328:=by have:=W.out.ksz;unfold aH at this;omega
 have B0:Hid (aG (w.alloc (.cells (aN x) 35)) w.heap.size 35 (aN x)):=aG.Ii rfl;have BE:=qD ((Ju w.heap.size w).alloc (qL) (Obj.cells (aN x) 35));go_enter func193,ntmps193;go_upto_region 1 with fail
 change Code.wp _ _ _ _ (w.alloc (.cells (aN x) 35));generalize w.alloc (.cells (aN x) 35)=wa at*;obtain⟨d0,d1,d2,d3,d9,d10⟩:=ag B0.out
 go_cut [46] (fun v wx=>∃b:Bool,v=.bool b/\(b=false->yh x)/\aG wx w.heap.size 35 (aN x)/\Below w.heap.size w wx)
 case first=>as_aux_lemma=>
  have E0:∀q:BW wa,q.val.cell? ⟨w.heap.size,0,none⟩=some (.int .i64 x.op):=fun q=>q.cell d0;have E3:∀q:BW wa,q.val.cell? ⟨w.heap.size,3,none⟩=some (.slice x.names.A x.names.n x.names.c):=fun q=>q.cell d3;have E10:∀q:BW wa,q.val.cell? ⟨w.heap.size,10,none⟩=some (.slice x.kA x.kn x.kc):=fun q=>q.cell d10
  have K1:Hid (∀q:BW wa,Calls prog 246 #[.int .i64 x.op] q.val fun e w''=>e=.returned (.int .i64 (kH x.op))/\∃q:BW wa,w''=q.val):=fun q=>
   (rA x.op q.val).mono fun e w' ⟨h1,h2⟩=>⟨h1,q,h2⟩
  clear d0 d1 d2 d3 d9 d10;obtain⟨op,hop⟩:∃op,op=x.op:=⟨_,rfl⟩;obtain⟨kn,hkn⟩:∃kn,kn=x.kn:=⟨_,rfl⟩;obtain⟨nn,hnn⟩:∃nn,nn=x.names.n:=⟨_,rfl⟩;rw[<-hop] at E0 K1;rw[<-hkn] at E10 hkz;rw[<-hnn] at E3 hnz;obtain⟨k,hk⟩:∃k,k=kH op:=⟨_,rfl⟩;rw[<-hk] at K1;have fin:∀(q:BW wa) (b:Bool),(b=false->1<=op/\op<=37/\(0<=k->(kn:Int)=k)/\(op=34->kn=nn))->∃b':Bool,Value.bool b=.bool b'/\(b'=false->yh x)/\aG q.val w.heap.size 35 (aN x)/\Below w.heap.size w q.val:=fun q b h=>⟨b,rfl,fun hb=>by obtain⟨h1,h2,h3,h4⟩:=h hb;subst hop hkn hnn hk;exact⟨h1,h2,h3,h4⟩,B0.out.step q.below,BE.out.Ih q.below⟩;clear hop hkn hnn hk;have FIN:=qD fin;clear fin
  have ways:(decide (op<1)=true)\/(decide (op<1)=false/\decide (op>37)=true)\/(decide (op<1)=false/\decide (op>37)=false/\Hid (1<=op/\op<=37)):=by
   by_cases h1:op<1<;>by_cases h2:op>37<;>simp[h1,h2,Hid]<;>omega
  rcases ways with a1|⟨a1,a2⟩|⟨a1,a2,HA⟩
  ·refine aM (by kernel_rfl) (by kernel_rfl) ?_
   repeat(go_big_quiet_step (with_reducible exact K1.out _))
   refine Kd ?_;rintro _ ⟨kw,rfl⟩;go_wp2_with fail;go_meet;exact FIN.out kw _ (fun h=>absurd h (by decide))
  ·refine aM (by kernel_rfl) (by kernel_rfl) ?_
   repeat(go_big_quiet_step (with_reducible exact K1.out _))
   refine Kd ?_;rintro _ ⟨kw,rfl⟩;go_wp2_with fail;go_meet;exact FIN.out kw _ (fun h=>absurd h (by decide))
  ·have ways2:(decide (k≥0)=true/\((kn:Int) != k)=true)\/((((decide (k≥0)=true/\((kn:Int) != k)=false)\/(decide (k≥0)=false))/\Hid (0<=k->(kn:Int)=k))/\((op==34)=false/\Hid (op=34->kn=nn)\/(op==34)=true/\((kn:Int) != (nn:Int))=true\/(op==34)=true/\((kn:Int) != (nn:Int))=false/\((kn:Int)==0)=true\/(op==34)=true/\((kn:Int) != (nn:Int))=false/\((kn:Int)==0)=false/\Hid (op=34->kn=nn))):=by
    by_cases h1:k≥0<;>by_cases h2:(kn:Int)=k<;>by_cases h3:op=34<;>by_cases h4:(kn:Int)=(nn:Int)<;>by_cases h5:(kn:Int)=0<;>simp[h1,h2,h3,h4,h5,Hid]<;>omega
   rcases ways2 with⟨b1,b2⟩|⟨⟨⟨b1,b2⟩|b1,HB⟩,⟨c1,HC⟩|⟨c1,c2⟩|⟨c1,c2,c3⟩|⟨c1,c2,c3,HC⟩⟩
   all_goals
    refine aM (by kernel_rfl) (by kernel_rfl) ?_
    repeat(go_big_quiet_step (with_reducible exact K1.out _))
    refine Kd ?_;rintro _ ⟨kw,rfl⟩;go_wp2_with fail;go_meet;exact FIN.out kw _ (by first|exact fun h=>absurd h (by decide)|exact fun _=>⟨HA.out.1,HA.out.2,HB.out,HC.out⟩)
 case rest=>
  obtain⟨b,rfl,hnA,hB0,hBE⟩:=hcut;have HNA:=qD hnA;clear B0 BE d0 d1 d2 d3 d9 d10 hnA;have B0:=qD hB0;have BE:=qD hBE;obtain⟨d0,d1,d2,d3,d9,d10⟩:=ag B0.out;clear hB0 hBE;cases b
  ·go_upto_region 3 with fail
   have HP:=qD (W.out.path.step BE.out)
   go_cut [72] (fun v wx=>∃b:Bool,v=.bool b/\wx=wc)
   case first=>as_aux_lemma=>
    go_wp2_with (go_at_call 20;refine(kq x.path.xs _ _ _ _ HP.out).mono ?_;rintro e w1 ⟨rfl,rfl⟩;obtain⟨bb,hbb⟩:∃b,b=dk x.path.xs:=⟨_,rfl⟩;rw[<-hbb];clear hbb;cases bb)
    all_goals go_meet
    all_goals exact⟨_,rfl,rfl⟩
   case rest=>
    obtain⟨b,rfl,rfl⟩:=hcut;cases b
    ·go_upto_region 5 with fail
     obtain⟨nb,hnb⟩:∃nb,nb=(x.op==3||(x.op==32||x.op==33)):=⟨_,rfl⟩
     go_cut [3] (fun v wx=>v=.bool nb/\wx=wc)
     case first=>
      go_wp2_with fail
      all_goals go_meet
      all_goals (refine⟨?_,rfl⟩;rw[hnb];simp[*,Bool.or_assoc])
     case rest=>
      obtain⟨rfl,rfl⟩:=hcut;have HNB:=qD hnb;clear hnb;have HN:=qD (W.out.names.step BE.out);go_upto_region 6 with fail
      go_cut [103] (fun v wx=>∃b:Bool,v=.bool b/\aG wx w.heap.size 35 (aN x)/\Below w.heap.size w wx)
      case first=>as_aux_lemma=>
       cases nb
       all_goals go_wp2_with (first
        | (go_at_call 59;refine(gl x.name _).mono ?_;rintro e w1 ⟨rfl,rfl⟩;obtain⟨bb,hbb⟩:∃b,b=aV x.name:=⟨_,rfl⟩;rw[<-hbb];clear hbb;cases bb)
        | (go_at_call 247;refine(rB x.names _ HN.out).mono ?_;rintro e w1 ⟨bb,rfl,hb⟩;replace B0:=qD (B0.out.step hb);replace BE:=qD (BE.out.Ih hb);clear hb;cases bb))
       all_goals go_meet
       all_goals exact⟨_,rfl,B0.out,BE.out⟩
      case rest=>
       obtain⟨b,rfl,hB0,hBE⟩:=hcut;clear B0 BE d0 d1 d2 d3 d9 d10;have B0:=qD hB0;have BE:=qD hBE;obtain⟨d0,d1,d2,d3,d9,d10⟩:=ag B0.out;clear hB0 hBE;cases b
       ·go_upto_region 8 with fail
        have RA:=qD (iv B0.out);have HA:=qD (W.out.arg.step BE.out)
        go_cut [112] (fun v wx=>∃b:Bool,v=.bool b/\(b=false->x.op=1->aL x.arg.2=true)/\aG wx w.heap.size 35 (aN x)/\Below w.heap.size w wx)
        case first=>as_aux_lemma=>
         by_cases h1:x.op=1
         ·have h1b:(x.op==1)=true:=by simpa using h1
          go_wp2_with (first
           | ((with_reducible show wpList _ _ _ (⟨_,.load 29 _,_,_,_,_⟩::_) _ _);refine aE rfl 29 _ rfl w.heap.size 4 rfl _ _ RA.out LU rfl (by kernel_rfl) ?_)
           | (go_at_call 8;refine(cL x.arg.2 x.arg.1 _ HA.out).mono ?_;rintro e w1 ⟨rfl,hb⟩;replace B0:=qD (B0.out.step hb);replace BE:=qD (BE.out.Ih hb);clear hb;obtain⟨bb,hbb⟩:∃b,b=aL x.arg.2:=⟨_,rfl⟩;have HBB:=qD hbb;rw[<-hbb];clear hbb;cases bb))
          all_goals go_meet
          ·exact⟨_,rfl,fun h=>absurd h (by decide),B0.out,BE.out⟩
          ·exact⟨_,rfl,fun _ _=>HBB.out.symm,B0.out,BE.out⟩
         ·have h1b:(x.op==1)=false:=by simpa using h1
          have H1:=qD h1;clear h1;go_wp2_with fail
          all_goals go_meet
          all_goals exact⟨_,rfl,fun _ h=>absurd h H1.out,B0.out,BE.out⟩
        case rest=>
         obtain⟨b,rfl,hvA,hB0,hBE⟩:=hcut;have HVA:=qD hvA;clear B0 BE d0 d1 d2 d3 d9 d10 RA HA hvA;have B0:=qD hB0;have BE:=qD hBE;obtain⟨d0,d1,d2,d3,d9,d10⟩:=ag B0.out;clear hB0 hBE;cases b
         ·go_upto_region 10 with fail
          have RA:=qD (iv B0.out);have HA:=qD (W.out.arg.step BE.out);obtain⟨sv,hsv⟩:∃sv,sv=dw x.arg.2 aC.zero:=⟨_,rfl⟩
          have HS:Hid (Calls prog 248 #[x.arg.1.val,VC.zero.val] wc fun e w'=>e=.returned (.bool sv)/\Below wc.heap.size wc w'):=by
           rw[hsv];exact qk x.arg.2 aC.zero x.arg.1 VC.zero wc HA.out (uV _)
          clear hsv;obtain⟨op,hop⟩:∃op,op=x.op:=⟨_,rfl⟩;rw[<-hop] at d0 HNB;have HOP:=qD hop;clear hop
          have cl:(op=1/\nb=false)\/(op=2/\nb=false)\/(op=3/\nb=true)\/(op=34/\nb=false)\/((op != 1)=true/\(op != 2)=true/\(op != 3)=true/\(op != 34)=true/\nb=true)\/((op != 1)=true/\(op != 2)=true/\(op != 3)=true/\(op != 34)=true/\nb=false):=by
           have h:=HNB.out;by_cases h1:op=1
           ·subst h1;exact .inl ⟨rfl,h⟩
           by_cases h2:op=2
           ·subst h2;exact .inr (.inl ⟨rfl,h⟩)
           by_cases h3:op=3
           ·subst h3;exact .inr (.inr (.inl ⟨rfl,h⟩))
           by_cases h4:op=34
           ·subst h4;exact .inr (.inr (.inr (.inl ⟨rfl,h⟩)))
           have e1:(op != 1)=true:=by simpa using h1
           have e2:(op != 2)=true:=by simpa using h2
           have e3:(op != 3)=true:=by simpa using h3
           have e4:(op != 34)=true:=by simpa using h4
           clear h HNB;cases nb
           ·exact .inr (.inr (.inr (.inr (.inr ⟨e1,e2,e3,e4,rfl⟩))))
           ·exact .inr (.inr (.inr (.inr (.inl ⟨e1,e2,e3,e4,rfl⟩))))
          clear HNB;rcases cl with⟨rfl,rfl⟩|⟨rfl,rfl⟩|⟨rfl,rfl⟩|⟨rfl,rfl⟩|⟨e1,e2,e3,e4,rfl⟩|⟨e1,e2,e3,e4,rfl⟩
          all_goals go_wp2_with (first
           | (go_at_call 248;refine HS.out.mono ?_;rintro e w1 ⟨rfl,hb⟩;replace B0:=qD (B0.out.step hb);replace BE:=qD (BE.out.Ih hb);clear hb d0 d1 d2 d3 d9 d10;obtain⟨d0,d1,d2,d3,d9,d10⟩:=ag B0.out;rw[<-HOP.out] at d0;cases sv)
           | ((with_reducible show wpList _ _ _ (⟨_,.load 29 _,_,_,_,_⟩::_) _ _);refine aE rfl 29 _ rfl w.heap.size 4 rfl _ _ RA.out LU rfl (by kernel_rfl) ?_))
          all_goals go_ret
          all_goals first|exact⟨_,rfl,fun h=>absurd h (by decide),BE.out⟩|exact⟨_,rfl,fun _=>⟨HNA.out (by trivial),HVA.out (by trivial)⟩,BE.out⟩
         ·go_wp2_with fail;go_ret;exact⟨_,rfl,fun h=>absurd h (by decide),BE.out⟩
       ·go_wp2_with fail;go_ret;exact⟨_,rfl,fun h=>absurd h (by decide),BE.out⟩
    ·go_wp2_with fail;go_ret;exact⟨_,rfl,fun h=>absurd h (by decide),BE.out⟩
  ·go_wp2_with fail;go_ret;exact⟨_,rfl,fun h=>absurd h (by decide),BE.out⟩
end
section
variable {b c g n m q cap base size:Nat} {op x:Int} {s:ByteArray} {w w' wr w3 w4 wq:World} {A A':Option Addr} {F:Nat -> Prop} {e:TypeId} {cs:Array Value} {v:Value}
def Hw(x:dI)(nu:Int)(k:Nat)(w:World)(e:Ending)(w':World):Prop:=∃a b:Int,e=.returned (.tuple #[.int .i64 a,.int .i64 b])/\1<=a/\a<=257/\(b=0->a<=256/\nu<=a/\mX k x)/\Below w.heap.size w w'
end
structure IY(x:dI)(nu:Int)(k:Nat)(i:Nat)(w:World)(a:Int)(wr:World):Prop where
 b0:aG wr w.heap.size 35 (aN x)
 bel:Below w.heap.size w wr
 lo:1<=a
 hi:a<=256
 up:nu+i<=a
 good:∀q∈x.kids.take i,mX k q
section
variable {k n size:Nat} {x:Int} {w w':World} {e:TypeId}
theorem uk(x:dI):∀(nu lv:Int) (k:Nat) (w:World),WX w x->cY w->1<=nu->nu<=257->1<=lv->lv<=17->lv+k=17->Calls prog 144 #[dL x,.int .i64 nu,.int .i64 lv] w (Hw x nu k w):=by
 induction x using dI.ind with
 | h x ih=>
 intro nu lv kk w hw hT h1 h2 h3 h4 h5;have HT:=qD hT;have HW:=qD hw;have W:=qD hw.open;have IH:=qD ih;have hkz:x.kn<=140737488355328:=by have:=W.out.ksz;unfold aH at this;omega
 clear ih hw hT;have B0:Hid (aG (w.alloc (.cells (aN x) 35)) w.heap.size 35 (aN x)):=aG.Ii rfl;have BE:=qD ((Ju w.heap.size w).alloc (qL) (Obj.cells (aN x) 35));go_enter func144,ntmps144;go_upto_region 1 with fail
 change Code.wp _ _ _ _ (w.alloc (.cells (aN x) 35));generalize w.alloc (.cells (aN x) 35)=wa at*;by_cases hz:16<lv\/256<nu
 ·go_cut [17] (fun v wx=>v=.bool true/\wx=wa)
  case first=>
   go_wp2_with fail
   all_goals go_meet
   all_goals first|exact⟨rfl,rfl⟩|(exfalso;omega)|(refine⟨?_,rfl⟩;simp;omega)
  case rest=>
   obtain⟨rfl,rfl⟩:=hcut;go_wp2_with fail;go_ret2;exact⟨nu,2,rfl,h1,h2,fun h=>absurd h (by decide),BE.out⟩
 ·have g1:¬16<lv:=by omega
  have g2:¬256<nu:=by omega
  have g4:wrap64 (lv+1)=lv+1:=by unfold wrap64;omega
  clear hz;have RF:=qD (iK B0.out);go_upto_region 3 with fail
  go_wp2_with (first
   | ((with_reducible show wpList _ _ _ (⟨_,.load 35 _,_,_,_,_⟩::_) _ _);refine aE rfl 35 _ rfl w.heap.size 0 rfl _ _ RF.out Kw rfl (by kernel_rfl) ?_)
   | (go_at_call 193;fail))
  obtain⟨kk,rfl⟩:∃k,kk=k+1:=⟨kk-1,by omega⟩;refine(xE x wa (HW.out.step BE.out) (HT.out.step BE.out)).mono ?_;rintro e w1 ⟨er,rfl,hno,hb⟩;have HNO:=qD hno;clear hno;replace B0:=qD (B0.out.step hb);replace BE:=qD (BE.out.Ih hb);clear hb RF;by_cases he:er=0
  ·subst he;go_upto_region 7 with fail
   go_loopw [1,9,10,11] (fun v1 v9 _ _ wr=>∃(i:Nat) (a:Int),i<=x.kn/\v1=.int .i64 a/\v9=.int .i64 i/\IY x nu kk i w a wr) (fun _ v9 _ _ _=>x.kn-(intOf v9).toNat)
   ·exact⟨0,nu,KD _,rfl,rfl,B0.out,BE.out,h1,by omega,by omega,by simp⟩
   case round=>
    obtain⟨i,a,hi,rfl,rfl,hI⟩:=hrel;have HI:=qD hI;obtain⟨_,_,_,_,_,d10⟩:=ag hI.b0;have alo:=hI.lo;have ahi:=hI.hi;have aup:=hI.up;clear hI;have g3:wrap64 (a+1)=a+1:=by unfold wrap64;omega
    by_cases hlt:i<x.kn
    ·obtain⟨b,off,y,hA,hb,hx,hm,hrg⟩:=W.out.sr.row hlt;have RG:=qD (bD hrg HI.out.bel hb);have KW:=qD ((W.out.kids y hm).step HI.out.bel);have IX:=qD (IH.out y hm);have HXI:=qD hx;have KT:=qD (HT.out.step HI.out.bel);rw[hA] at d10;clear hrg hx hm hA
     go_wp2_with (first
      | ((with_reducible show wpList _ _ _ (⟨_,.load 35 _,_,_,_,_⟩::_) _ _);refine aE rfl 35 _ rfl b (off+i*11) rfl _ _ RG.out Kw rfl (by kernel_rfl) ?_)
      | (go_at_call 144;(try rw[g4]);(try rw[g3]);refine(IX.out (a+1) (lv+1) kk _ KW.out KT.out (by omega) (by omega) (by omega) (by omega) (by omega)).mono ?_;rintro e w1 ⟨r,er,rfl,hr1,hr2,hr3,hbb⟩;have H3:=qD hr3;have HB:=qD hbb;clear hr3 hbb;by_cases he:er=0;(focus (subst he))))
     ·obtain⟨hr4,hr5,hr6⟩:=H3.out (by trivial);have HR6:=qD hr6;clear hr6;go_roundw
      case rel=>exact⟨i+1,r,by omega,rfl,by go_num,HI.out.b0.step HB.out,HI.out.bel.Ih HB.out,hr1,hr4,by omega,fun q hq=>by
       rw[take_snoc' HXI.out] at hq
       rcases KI.1 hq with hq|hq
       ·exact HI.out.good q hq
       ·rw[Kf.1 hq];exact HR6.out⟩
      case measure=>simp[intOf];omega
     ·have he':(er != 0)=true:=by simpa using he
      go_wp2_with fail;go_ret2;exact⟨r,er,rfl,hr1,hr2,fun h=>absurd h (by simpa using he'),HI.out.bel.Ih HB.out⟩
    ·go_wp2_with fail;go_ret2;exact⟨a,0,rfl,alo,by omega,fun _=>⟨ahi,by omega,HNO.out (by trivial),by omega,fun q hq=>HI.out.good q (by rw[KL (by have:=W.out.sr.ln;omega)];exact hq)⟩,HI.out.bel⟩
  ·have he':(er != 0)=true:=by simpa using he
   clear he;go_wp2_with fail;go_ret2;exact⟨nu,er,rfl,h1,h2,fun h=>absurd h (by simpa using he'),BE.out⟩
theorem ul(x:dI)(w:World)(h:WX w x)(hT:cY w):Calls prog 85 #[dL x] w (fun e w'=>∃n:Int,e=.returned (.int .i64 n)/\(n=0->mX 16 x)/\Below w.heap.size w w'):=by
 have HT:=qD hT;have HW:=qD h;clear h hT;have B0:Hid (aG (w.alloc (.cells (aN x) 35)) w.heap.size 35 (aN x)):=aG.Ii rfl;have BE:=qD ((Ju w.heap.size w).alloc (qL) (Obj.cells (aN x) 35));go_enter func85,ntmps85;go_upto_region 1 with fail
 change Code.wp _ _ _ _ (w.alloc (.cells (aN x) 35));generalize w.alloc (.cells (aN x) 35)=wa at*;have RF:=qD (iK B0.out)
 go_wp2_with (first
  | ((with_reducible show wpList _ _ _ (⟨_,.load 35 _,_,_,_,_⟩::_) _ _);refine aE rfl 35 _ rfl w.heap.size 0 rfl _ _ RF.out Kw rfl (by kernel_rfl) ?_)
  | (go_at_call 144;refine(uk x 1 1 16 _ (HW.out.step BE.out) (HT.out.step BE.out) (by omega) (by omega) (by omega) (by omega) (by omega)).mono ?_;rintro e w1 ⟨r,er,rfl,_,_,hg,hb⟩;have HG:=qD hg;clear hg;replace BE:=qD (BE.out.Ih hb);clear hb B0 RF))
 go_ret;exact⟨er,rfl,fun h=>(HG.out h).2.2,BE.out⟩
end
end Go.Proofs.YtgfoliedmhgpnaaGreatDoor
