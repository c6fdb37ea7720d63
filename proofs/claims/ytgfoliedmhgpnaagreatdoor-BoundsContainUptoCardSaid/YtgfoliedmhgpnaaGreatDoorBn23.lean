/- A part of the proof. -/
import Derived.Test.YtgfoliedmhgpnaaGreatDoorBn14
import Derived.Test.YtgfoliedmhgpnaaGreatDoorBn18
import Derived.Test.YtgfoliedmhgpnaaGreatDoorRows
import Derived.Deep.RegionHeld3
import Derived.Maps.RangeWalk
import Derived.Lib.Hide
import Derived.WalkKit
import Derived.WalkSpells
import Derived.WalkLawsBesides
import Derived.Deep.QuietTactic
import Derived.BigQuiet
import Derived.Deep.DeepCutAuto
import Derived.Deep.CutBlock
import Derived.Laws.Rows
import Derived.Laws.ResultCell
import Derived.RegionTactic
import Derived.BigRegion
import Derived.Maps.AppendAt
import Derived.Deep.AppendLies
import Derived.OwnWalk
import Derived.Deep.RegionLaw
import Derived.StillTail
import Derived.IntWalk
import Derived.Shelf.Abstract
import Derived.Lib.Bytealg
import Derived.Lib.Small
import Derived.Lib.ValidU
import Derived.Deep.MidRow
import Derived.Shelf.Unicode.DecodeSlow
import Derived.Maps.Own
import Derived.Maps.OwnSet
import Derived.StringKeys
import Derived.Ground.NamesProg
import Derived.Shelf.Unicode.ValidAny
import Derived.Lib.Walk
import Derived.Laws.OwnMore
import Derived.Lib.SmallJoins
import Derived.ProofKit
import Derived.OpenShut
import Derived.Deep.Slices
import Derived.Lib.ValidLaws
import Derived.Laws.Strings
import Derived.WideShapes
import Derived.Laws.IdiomCopy
import Derived.Lib.SliceRun
import Derived.Lib.AppendZerosOnto
import Derived.Laws.BytesArg
import Derived.Laws.Concat
import Derived.Lib.AppendStr
import Derived.Great.BuildSlice
set_option maxRecDepth 100000
set_option maxHeartbeats 16000000
set_option linter.unusedSimpArgs false
open Go.Proofs.Tryz
open ByteArray (empty)
namespace Go.Proofs.YtgfoliedmhgpnaaGreatDoor
open Go.RowKit
section
variable {r xs ys:List ByteArray} {b c k i g o n off B m size:Nat} {a x y d:Int} {s:ByteArray} {w w' wr:World} {A:Option Addr} {e t:TypeId} {v:Value}
def FW(w:World)(e:Ending)(w':World):Prop:=∃n:Int,e=.returned (.int .i64 n)/\Below w.heap.size w w'
def GZ(w:World)(e:Ending)(w':World):Prop:=∃b:Bool,e=.returned (.bool b)/\w'=w
theorem uU(n:Int)(w:World):Calls prog 140 #[.int .i64 n] w (GZ w):=by
 go_enter func140,OX;go_wp2_with fail
 all_goals go_ret
 all_goals exact⟨_,rfl,rfl⟩
theorem By(x y:Int)(w:World):Calls prog 139 #[.agg #[.int .i64 x,.int .i64 y]] w (AL w):=by
 go_enter func139,ntmps139;go_wp2_with (go_at_call 140;refine(uU _ _).mono ?_;rintro e w1 ⟨b,rfl,rfl⟩;cases b)
 all_goals go_ret
 all_goals exact⟨_,rfl,(Ju _ _).alloc (qL) _⟩
theorem zh(k r:Int)(s:uI (Int×Int))(w:World)(h:SR 2 nh w s.A s.n s.c s.xs)(hz:s.n*16<=aH):Calls prog 83 #[.agg #[.int .i64 k,s.v,.int .i64 r]] w (FW w):=by
 have hzz:s.n<=140737488355328:=by unfold aH at hz;omega
 have H:=qD h;clear h hz;have B0:Hid (aG (w.alloc (.cells #[.int .i64 k,.slice s.A s.n s.c,.int .i64 r] 32)) w.heap.size 32 #[.int .i64 k,.slice s.A s.n s.c,.int .i64 r]):=aG.Ii rfl;have BE:=qD ((Ju w.heap.size w).alloc (qL) (Obj.cells #[.int .i64 k,.slice s.A s.n s.c,.int .i64 r] 32));go_enter func83,ntmps83;go_upto_region 1 with fail
 change Code.wp _ _ _ _ (w.alloc (.cells #[.int .i64 k,.slice s.A s.n s.c,.int .i64 r] 32));generalize w.alloc (.cells #[.int .i64 k,.slice s.A s.n s.c,.int .i64 r] 32)=wa at*;have d1:=B0.out.cell 1;simp at d1;by_cases h64:64<s.n
 ·go_wp2_with fail;go_ret;exact⟨_,rfl,BE.out⟩
 ·go_upto_region 5 with fail
  go_loopw [4] (fun v wr=>∃i:Nat,i<=s.n/\v=.int .i64 i/\aG wr w.heap.size 32 #[.int .i64 k,.slice s.A s.n s.c,.int .i64 r]/\Below w.heap.size w wr) (fun v _=>s.n-(intOf v).toNat)
  ·exact⟨0,KD _,rfl,B0.out,BE.out⟩
  case round=>
   obtain⟨i,hi,rfl,hb0,hbe⟩:=hrel;clear B0 BE d1;have B0:=qD hb0;have BE:=qD hbe;have d0:=B0.out.cell 0;have d1:=B0.out.cell 1;have d2:=B0.out.cell 2;simp at d0 d1 d2;clear hb0 hbe;by_cases hlt:i<s.n
   ·obtain⟨b,off,⟨x,y⟩,hA,hb,_,_,hrg⟩:=H.out.row hlt;have RG:=qD (bD hrg BE.out hb);rw[hA] at d1;clear hrg hA
    go_wp2_with (first
     | ((with_reducible show wpList _ _ _ (⟨_,.load 174 _,_,_,_,_⟩::_) _ _);refine aE rfl 174 _ rfl b (off+i*2) rfl _ _ RG.out underlying174 rfl (by kernel_rfl) ?_)
     | (go_at_call 139;refine(By x y _).mono ?_;rintro e w1 ⟨bb,rfl,hbb⟩;replace B0:=qD (B0.out.step hbb);replace BE:=qD (BE.out.Ih hbb);clear hbb;cases bb))
    ·go_ret;exact⟨_,rfl,BE.out⟩
    ·go_roundw
     ·exact⟨i+1,by omega,by go_num,B0.out,BE.out⟩
     ·simp[intOf];omega
   ·obtain rfl:i=s.n:=by omega
    go_wp2_with (go_at_call 140;refine(uU _ _).mono ?_;rintro e w1 ⟨b,rfl,rfl⟩;cases b)
    all_goals go_ret
    all_goals exact⟨_,rfl,BE.out⟩
end
section
variable {l xs:List ByteArray} {b c k i n off size:Nat} {op a x:Int} {s:ByteArray} {w w':World} {A:Option Addr} {e:TypeId} {v:Value}
theorem uV(w:World):RW w VC.zero aC.zero:=sK.shut ⟨rfl,rfl,rfl,by decide,rfl,qL,by decide,fun h=>absurd h (by decide),rfl,qL,by decide,fun h=>absurd h (by decide)⟩
theorem Hr{a b:Int}(h:a=b):Ending.returned (.int .i64 a)=.returned (.int .i64 b):=by rw[h]
def kH(op:Int):Int:=
 if op=1\/op=2\/op=3 then 0 else if op=18\/op=22\/op=23\/op=24\/op=26\/op=30\/op=31\/op=36 then 1 else if op=19\/op=25 then 3
 else if op=4\/op=6\/op=16\/op=17\/op=21\/op=29\/op=37\/op=35\/op=34 then -1 else 2
theorem rA(op:Int)(w:World):Calls prog 246 #[.int .i64 op] w fun e w'=>e=.returned (.int .i64 (kH op))/\w'=w:=by
 go_enter func246,ntmps246;go_wp2_with fail
 all_goals go_ret
 all_goals refine⟨Hr ?_,rfl⟩
 all_goals simp only[MS,Kt,Nt] at*
 all_goals unfold kH
 all_goals (repeat' split)
 all_goals first|rfl|omega
theorem ST.cells{w:World}{A:Option Addr}{n c:Nat}{l:List ByteArray}(h:ST w A n c l)(h0:0<n):∃b off,A=some ⟨b,off,none⟩/\b<w.heap.size/\∀i,i<n->∃x,w.cell? ⟨b,off+i,none⟩=some (.string x):=by
 obtain⟨b,off,e,hb,hc⟩:=h.sr.el h0;refine⟨b,off,e,hb,fun i hi=>?_⟩;have hl:i<l.length:=by have:=h.sr.ln;omega
 have:=hc i _ (Jv hl) 0 _ rfl;rw[My,MG] at this;exact⟨_,this⟩
theorem rB(s:uI ByteArray)(w:World)(h:ST w s.A s.n s.c s.xs):Calls prog 247 #[s.v] w (AL w):=by
 obtain⟨A,n,c,xs⟩:=s;have hz:n<=140737488355328:=by have:=h.sz;unfold aH at this;simp only at this;omega
 have H:=qD h;clear h;simp only at H;show Calls _ _ #[.slice A n c] w _;go_enter func247,ntmps247;go_upto_region 2 with fail
 go_loopw [3] (fun v wr=>∃i:Nat,i<=n/\v=.int .i64 i/\Below w.heap.size w wr) (fun v _=>n-(intOf v).toNat)
 ·exact⟨0,KD _,rfl,Ju _ _⟩
 case round=>
  obtain⟨i,hi,rfl,hbe⟩:=hrel;have BE:=qD hbe;clear hbe;by_cases hlt:i<n
  ·obtain⟨b,off,rfl,hb,hc⟩:=H.out.cells (by omega);obtain⟨x,e0'⟩:=hc i hlt;have HC:=qD hc;have E0:=qD e0';have e0:=(BE.out.cell (p:=⟨b,off+i,none⟩) hb).trans e0';clear e0' hc;go_wp2_with fail;refine(gl x _).mono ?_;rintro e w1 ⟨rfl,rfl⟩;obtain⟨q,hq⟩:∃q,q=aV x:=⟨_,rfl⟩;rw[<-hq];clear hq;cases q
   ·go_wp2_with fail;go_ret;exact⟨_,rfl,BE.out⟩
   ·go_upto_region 7 with fail
    go_loopw [4] (fun v wz=>∃k:Nat,k<=i/\v=.int .i64 k/\Below w.heap.size w wz) (fun v _=>i-(intOf v).toNat)
    ·exact⟨0,KD _,rfl,BE.out⟩
    case round=>
     obtain⟨k,hk,rfl,hbk⟩:=hrel;have BK:=qD hbk;clear hbk e0;by_cases hkt:k<i
     ·obtain⟨y,f0'⟩:=HC.out k (by omega);have e0:=(BK.out.cell (p:=⟨b,off+i,none⟩) hb).trans E0.out;have f0:=(BK.out.cell (p:=⟨b,off+k,none⟩) hb).trans f0';have X0:∀kk:BW wr,kk.val.cell? ⟨b,off+i,none⟩=some (.string x):=fun kk=>kk.cell e0;have Y0:∀kk:BW wr,kk.val.cell? ⟨b,off+k,none⟩=some (.string y):=fun kk=>kk.cell f0;have i0:(0:Int)<=(i:Int):=by omega
      have i1:(i:Int)<(n:Int):=by omega
      have k0:(0:Int)<=(k:Int):=by omega
      have k1:(k:Int)<(n:Int):=by omega
      clear f0';go_upto_region 9 with fail
      clear e0 f0;refine aM (by kernel_rfl) (by kernel_rfl) ?_
      repeat(go_big_quiet_step (fail))
      refine Kd ?_;rintro _ ⟨kw,rfl⟩;have HK:=qD kw.below;generalize kw.val=w5 at*;clear X0 Y0;cases hq:(y.toList==x.toList)
      ·go_wp2_with fail;go_roundw
       ·exact⟨k+1,by omega,by go_num,BK.out.Ih HK.out⟩
       ·simp[intOf];omega
      ·go_wp2_with fail;go_ret;exact⟨_,rfl,BK.out.Ih HK.out⟩
     ·obtain rfl:k=i:=by omega
      go_wp2_with fail;go_roundw
      ·exact⟨k+1,by omega,by go_num,BK.out⟩
      ·simp[intOf];omega
  ·go_wp2_with fail;go_ret;exact⟨_,rfl,BE.out⟩
theorem zi(x:dI)(w:World)(h:WX w x)(hT:cY w):Calls prog 193 #[dL x] w (FW w):=by
 have W:=qD h.open;have HT:=qD hT;clear h hT;have hpz:x.path.n<=140737488355328:=by have:=W.out.path.sz;unfold aH at this;omega
 have hnz:x.names.n<=140737488355328:=by have:=W.out.names.sz;unfold aH at this;omega
 have hkz:x.kn<=140737488355328:=by have:=W.out.ksz;unfold aH at this;omega
 have B0:Hid (aG (w.alloc (.cells (aN x) 35)) w.heap.size 35 (aN x)):=aG.Ii rfl;have BE:=qD ((Ju w.heap.size w).alloc (qL) (Obj.cells (aN x) 35));go_enter func193,ntmps193;go_upto_region 1 with fail
 change Code.wp _ _ _ _ (w.alloc (.cells (aN x) 35));generalize w.alloc (.cells (aN x) 35)=wa at*;obtain⟨d0,d1,d2,d3,d9,d10⟩:=ag B0.out
 go_cut [46] (fun v wx=>∃b:Bool,v=.bool b/\aG wx w.heap.size 35 (aN x)/\Below w.heap.size w wx)
 case first=>as_aux_lemma=>
  have E0:∀q:BW wa,q.val.cell? ⟨w.heap.size,0,none⟩=some (.int .i64 x.op):=fun q=>q.cell d0;have E3:∀q:BW wa,q.val.cell? ⟨w.heap.size,3,none⟩=some (.slice x.names.A x.names.n x.names.c):=fun q=>q.cell d3;have E10:∀q:BW wa,q.val.cell? ⟨w.heap.size,10,none⟩=some (.slice x.kA x.kn x.kc):=fun q=>q.cell d10
  have K1:Hid (∀q:BW wa,Calls prog 246 #[.int .i64 x.op] q.val fun e w''=>e=.returned (.int .i64 (kH x.op))/\∃q:BW wa,w''=q.val):=fun q=>
   (rA x.op q.val).mono fun e w' ⟨h1,h2⟩=>⟨h1,q,h2⟩
  clear d0 d1 d2 d3 d9 d10;obtain⟨op,hop⟩:∃op,op=x.op:=⟨_,rfl⟩;obtain⟨kn,hkn⟩:∃kn,kn=x.kn:=⟨_,rfl⟩;obtain⟨nn,hnn⟩:∃nn,nn=x.names.n:=⟨_,rfl⟩;rw[<-hop] at E0 K1;rw[<-hkn] at E10 hkz;rw[<-hnn] at E3 hnz;obtain⟨k,hk⟩:∃k,k=kH op:=⟨_,rfl⟩;rw[<-hk] at K1;clear hop hkn hnn hk;have fin:∀(q:BW wa) (b:Bool),∃b':Bool,Value.bool b=.bool b'/\aG q.val w.heap.size 35 (aN x)/\Below w.heap.size w q.val:=fun q b=>⟨b,rfl,B0.out.step q.below,BE.out.Ih q.below⟩;have FIN:=qD fin;clear fin
  have ways:(decide (op<1)=true)\/(decide (op<1)=false/\decide (op>37)=true)\/(decide (op<1)=false/\decide (op>37)=false):=by
   by_cases h1:op<1<;>by_cases h2:op>37<;>simp[h1,h2]
  rcases ways with a1|⟨a1,a2⟩|⟨a1,a2⟩
  ·refine aM (by kernel_rfl) (by kernel_rfl) ?_
   repeat(go_big_quiet_step (with_reducible exact K1.out _))
   refine Kd ?_;rintro _ ⟨kw,rfl⟩;go_wp2_with fail;go_meet;exact FIN.out kw _
  ·refine aM (by kernel_rfl) (by kernel_rfl) ?_
   repeat(go_big_quiet_step (with_reducible exact K1.out _))
   refine Kd ?_;rintro _ ⟨kw,rfl⟩;go_wp2_with fail;go_meet;exact FIN.out kw _
  ·have ways2:(decide (k≥0)=true/\((kn:Int) != k)=true)\/(((decide (k≥0)=true/\((kn:Int) != k)=false)\/(decide (k≥0)=false))/\((op==34)=false\/(op==34)=true/\((kn:Int) != (nn:Int))=true\/(op==34)=true/\((kn:Int) != (nn:Int))=false/\((kn:Int)==0)=true\/(op==34)=true/\((kn:Int) != (nn:Int))=false/\((kn:Int)==0)=false)):=by
    cases decide (k≥0)<;>cases((kn:Int) != k)<;>cases(op==34)<;>cases((kn:Int) != (nn:Int))<;>cases((kn:Int)==0)<;>simp
   rcases ways2 with⟨b1,b2⟩|⟨⟨b1,b2⟩|b1,c1|⟨c1,c2⟩|⟨c1,c2,c3⟩|⟨c1,c2,c3⟩⟩
   all_goals
    refine aM (by kernel_rfl) (by kernel_rfl) ?_
    repeat(go_big_quiet_step (with_reducible exact K1.out _))
    refine Kd ?_;rintro _ ⟨kw,rfl⟩;go_wp2_with fail;go_meet;exact FIN.out kw _
 case rest=>
  obtain⟨b,rfl,hB0,hBE⟩:=hcut;clear B0 BE d0 d1 d2 d3 d9 d10;have B0:=qD hB0;have BE:=qD hBE;obtain⟨d0,d1,d2,d3,d9,d10⟩:=ag B0.out;clear hB0 hBE;cases b
  ·go_upto_region 3 with fail
   have HP:=qD (W.out.path.step BE.out)
   go_cut [72] (fun v wx=>∃b:Bool,v=.bool b/\wx=wc)
   case first=>as_aux_lemma=>
    go_wp2_with (go_at_call 20;refine(kq x.path.xs _ _ _ _ HP.out).mono ?_;rintro e w1 ⟨rfl,rfl⟩;obtain⟨bb,hbb⟩:∃b,b=dk x.path.xs:=⟨_,rfl⟩;rw[<-hbb];clear hbb;cases bb)
    all_goals go_meet
    all_goals exact⟨_,rfl,rfl⟩
   case rest=>
    obtain⟨b,rfl,rfl⟩:=hcut;cases b
    ·go_upto_region 5 with fail
     obtain⟨nb,hnb⟩:∃nb,nb=(x.op==3||(x.op==32||x.op==33)):=⟨_,rfl⟩
     go_cut [3] (fun v wx=>v=.bool nb/\wx=wc)
     case first=>
      go_wp2_with fail
      all_goals go_meet
      all_goals (refine⟨?_,rfl⟩;rw[hnb];simp[*,Bool.or_assoc])
     case rest=>
      obtain⟨rfl,rfl⟩:=hcut;have HNB:=qD hnb;clear hnb;have HN:=qD (W.out.names.step BE.out);go_upto_region 6 with fail
      go_cut [103] (fun v wx=>∃b:Bool,v=.bool b/\aG wx w.heap.size 35 (aN x)/\Below w.heap.size w wx)
      case first=>as_aux_lemma=>
       cases nb
       all_goals go_wp2_with (first
        | (go_at_call 59;refine(gl x.name _).mono ?_;rintro e w1 ⟨rfl,rfl⟩;obtain⟨bb,hbb⟩:∃b,b=aV x.name:=⟨_,rfl⟩;rw[<-hbb];clear hbb;cases bb)
        | (go_at_call 247;refine(rB x.names _ HN.out).mono ?_;rintro e w1 ⟨bb,rfl,hb⟩;replace B0:=qD (B0.out.step hb);replace BE:=qD (BE.out.Ih hb);clear hb;cases bb))
       all_goals go_meet
       all_goals exact⟨_,rfl,B0.out,BE.out⟩
      case rest=>
       obtain⟨b,rfl,hB0,hBE⟩:=hcut;clear B0 BE d0 d1 d2 d3 d9 d10;have B0:=qD hB0;have BE:=qD hBE;obtain⟨d0,d1,d2,d3,d9,d10⟩:=ag B0.out;clear hB0 hBE;cases b
       ·go_upto_region 8 with fail
        have RA:=qD (iv B0.out);have HA:=qD (W.out.arg.step BE.out)
        go_cut [112] (fun v wx=>∃b:Bool,v=.bool b/\aG wx w.heap.size 35 (aN x)/\Below w.heap.size w wx)
        case first=>as_aux_lemma=>
         go_wp2_with (first
          | ((with_reducible show wpList _ _ _ (⟨_,.load 29 _,_,_,_,_⟩::_) _ _);refine aE rfl 29 _ rfl w.heap.size 4 rfl _ _ RA.out LU rfl (by kernel_rfl) ?_)
          | (go_at_call 8;refine(cL x.arg.2 x.arg.1 _ HA.out).mono ?_;rintro e w1 ⟨rfl,hb⟩;replace B0:=qD (B0.out.step hb);replace BE:=qD (BE.out.Ih hb);clear hb;obtain⟨bb,hbb⟩:∃b,b=aL x.arg.2:=⟨_,rfl⟩;rw[<-hbb];clear hbb;cases bb))
         all_goals go_meet
         all_goals exact⟨_,rfl,B0.out,BE.out⟩
        case rest=>
         obtain⟨b,rfl,hB0,hBE⟩:=hcut;clear B0 BE d0 d1 d2 d3 d9 d10 RA HA;have B0:=qD hB0;have BE:=qD hBE;obtain⟨d0,d1,d2,d3,d9,d10⟩:=ag B0.out;clear hB0 hBE;cases b
         ·go_upto_region 10 with fail
          have RA:=qD (iv B0.out);have HA:=qD (W.out.arg.step BE.out);obtain⟨sv,hsv⟩:∃sv,sv=dw x.arg.2 aC.zero:=⟨_,rfl⟩
          have HS:Hid (Calls prog 248 #[x.arg.1.val,VC.zero.val] wc fun e w'=>e=.returned (.bool sv)/\Below wc.heap.size wc w'):=by
           rw[hsv];exact qk x.arg.2 aC.zero x.arg.1 VC.zero wc HA.out (uV _)
          clear hsv;obtain⟨op,hop⟩:∃op,op=x.op:=⟨_,rfl⟩;rw[<-hop] at d0 HNB;have HOP:=qD hop;clear hop
          have cl:(op=1/\nb=false)\/(op=2/\nb=false)\/(op=3/\nb=true)\/(op=34/\nb=false)\/((op != 1)=true/\(op != 2)=true/\(op != 3)=true/\(op != 34)=true/\nb=true)\/((op != 1)=true/\(op != 2)=true/\(op != 3)=true/\(op != 34)=true/\nb=false):=by
           have h:=HNB.out;by_cases h1:op=1
           ·subst h1;exact .inl ⟨rfl,h⟩
           by_cases h2:op=2
           ·subst h2;exact .inr (.inl ⟨rfl,h⟩)
           by_cases h3:op=3
           ·subst h3;exact .inr (.inr (.inl ⟨rfl,h⟩))
           by_cases h4:op=34
           ·subst h4;exact .inr (.inr (.inr (.inl ⟨rfl,h⟩)))
           have e1:(op != 1)=true:=by simpa using h1
           have e2:(op != 2)=true:=by simpa using h2
           have e3:(op != 3)=true:=by simpa using h3
           have e4:(op != 34)=true:=by simpa using h4
           clear h HNB;cases nb
           ·exact .inr (.inr (.inr (.inr (.inr ⟨e1,e2,e3,e4,rfl⟩))))
           ·exact .inr (.inr (.inr (.inr (.inl ⟨e1,e2,e3,e4,rfl⟩))))
          clear HNB;rcases cl with⟨rfl,rfl⟩|⟨rfl,rfl⟩|⟨rfl,rfl⟩|⟨rfl,rfl⟩|⟨e1,e2,e3,e4,rfl⟩|⟨e1,e2,e3,e4,rfl⟩
          all_goals go_wp2_with (first
           | (go_at_call 248;refine HS.out.mono ?_;rintro e w1 ⟨rfl,hb⟩;replace B0:=qD (B0.out.step hb);replace BE:=qD (BE.out.Ih hb);clear hb d0 d1 d2 d3 d9 d10;obtain⟨d0,d1,d2,d3,d9,d10⟩:=ag B0.out;rw[<-HOP.out] at d0;cases sv)
           | ((with_reducible show wpList _ _ _ (⟨_,.load 29 _,_,_,_,_⟩::_) _ _);refine aE rfl 29 _ rfl w.heap.size 4 rfl _ _ RA.out LU rfl (by kernel_rfl) ?_))
          all_goals go_ret
          all_goals exact⟨_,rfl,BE.out⟩
         ·go_wp2_with fail;go_ret;exact⟨_,rfl,BE.out⟩
       ·go_wp2_with fail;go_ret;exact⟨_,rfl,BE.out⟩
    ·go_wp2_with fail;go_ret;exact⟨_,rfl,BE.out⟩
  ·go_wp2_with fail;go_ret;exact⟨_,rfl,BE.out⟩
theorem wV(op:Int):(dS op=false/\cp op=false/\cJ op=false)\/(dS op=true/\cp op=true/\cJ op=false)\/(dS op=true/\cp op=false/\cJ op=true)\/(dS op=true/\cp op=false/\cJ op=false):=by
 unfold dS cp cJ dT;by_cases h:2<=op/\op<=19
 ·have:op=2\/op=3\/op=4\/op=5\/op=6\/op=7\/op=8\/op=9\/op=10\/op=11\/op=12\/op=13\/op=14\/op=15\/op=16\/op=17\/op=18\/op=19:=by omega
  rcases this with rfl|rfl|rfl|rfl|rfl|rfl|rfl|rfl|rfl|rfl|rfl|rfl|rfl|rfl|rfl|rfl|rfl|rfl<;>decide
 ·refine .inl ⟨?_,?_,?_⟩
  ·simp;omega
  ·simp;omega
  ·simp;omega
theorem wW(p:aX)(w:World):Calls prog 84 #[aW p] w (AL w):=by
 have B0:Hid (aG (w.alloc (.cells (aD p) 38)) w.heap.size 38 (aD p)):=aG.Ii rfl;have BE:=qD ((Ju w.heap.size w).alloc (qL) (Obj.cells (aD p) 38));go_enter func84,ntmps84;go_upto_region 1 with fail
 change Code.wp _ _ _ _ (w.alloc (.cells (aD p) 38));generalize w.alloc (.cells (aD p) 38)=wa at*;obtain⟨d0,d1,_,_,d7,_,_,_⟩:=aR B0.out;have RA:=qD (bV B0.out);have hcl:=wV p.op;obtain⟨b1,hb1⟩:∃b,b=dS p.op:=⟨_,rfl⟩;obtain⟨b2,hb2⟩:∃b,b=cp p.op:=⟨_,rfl⟩;obtain⟨b3,hb3⟩:∃b,b=cJ p.op:=⟨_,rfl⟩;rw[<-hb1,<-hb2,<-hb3] at hcl;have HB1:=qD hb1;have HB2:=qD hb2;have HB3:=qD hb3;have HCL:=qD hcl;clear hb1 hb2 hb3 hcl
 go_cut [36] (fun v wx=>∃b:Bool,v=.bool b/\aG wx w.heap.size 38 (aD p)/\Below w.heap.size w wx)
 case first=>
  rcases HCL.out with⟨rfl,rfl,rfl⟩|⟨rfl,rfl,rfl⟩|⟨rfl,rfl,rfl⟩|⟨rfl,rfl,rfl⟩
  all_goals go_wp2_with (first
  | (go_at_call 80;refine(pT _ _).mono ?_;rintro e w1 ⟨rfl,rfl⟩;rw[<-HB1.out])
  | (go_at_call 81;refine(pU _ _).mono ?_;rintro e w1 ⟨rfl,rfl⟩;rw[<-HB2.out])
  | (go_at_call 78;refine(iJ _ _).mono ?_;rintro e w1 ⟨rfl,rfl⟩;rw[<-HB3.out])
  | (go_at_call 141;refine(lJ p.arg.1 _).mono ?_;rintro e w1 ⟨b,rfl,hb⟩;replace B0:=qD (B0.out.step hb);replace BE:=qD (BE.out.Ih hb);clear hb d0 d1 d7;obtain⟨d0,d1,_,_,d7,_,_,_⟩:=aR B0.out;cases b)
  | ((with_reducible show wpList _ _ _ (⟨_,.load 29 _,_,_,_,_⟩::_) _ _);refine aE rfl 29 _ rfl w.heap.size 2 rfl _ _ RA.out LU rfl (by kernel_rfl) ?_))
  all_goals go_meet
  all_goals exact⟨_,rfl,B0.out,BE.out⟩
 case rest=>
  obtain⟨b,rfl,hB0,hBE⟩:=hcut;clear B0 BE d0 d1 d7 RA HB1 HB2 HB3 HCL;have B0:=qD hB0;have BE:=qD hBE;obtain⟨d0,d1,_,_,d7,d8,d9,_⟩:=aR B0.out;clear hB0 hBE;cases b
  ·go_upto_region 3 with fail
   go_cut [69] (fun v wx=>∃b:Bool,v=.bool b/\wx=wc)
   case first=>
    go_wp2_with fail
    all_goals go_meet
    all_goals exact⟨_,rfl,rfl⟩
   case rest=>
    obtain⟨b,rfl,rfl⟩:=hcut;have RA:=qD (bV B0.out);have RS:=qD (jO B0.out);have RE:=qD (gp B0.out);cases b
    ·cases h18:(p.op==18)<;>cases h24:(p.op==24)
     all_goals go_wp2_with (first
      | (go_at_call 142;refine(uu p.sk p.sr p.pts _).mono ?_;rintro e w1 ⟨b,rfl,hb⟩;replace B0:=qD (B0.out.step hb);replace BE:=qD (BE.out.Ih hb);replace RE:=qD (gp B0.out);clear hb d0 d1 d7 d8 d9;obtain⟨d0,_,_,_,_,_,_,_⟩:=aR B0.out;cases b)
      | (go_at_call 143;refine(xS p.ex _).mono ?_;rintro e w1 ⟨b,rfl,hb⟩;replace BE:=qD (BE.out.Ih hb);clear hb;cases b)
      | ((with_reducible show wpList _ _ _ (⟨_,.load 32 _,_,_,_,_⟩::_) _ _);refine aE rfl 32 _ rfl w.heap.size 10 rfl _ _ RS.out Mv rfl (by kernel_rfl) ?_)
      | ((with_reducible show wpList _ _ _ (⟨_,.load 35 _,_,_,_,_⟩::_) _ _);refine aE rfl 35 _ rfl w.heap.size 13 rfl _ _ RE.out Kw rfl (by kernel_rfl) ?_))
     all_goals go_ret
     all_goals exact⟨_,rfl,BE.out⟩
    ·go_wp2_with fail;go_ret;exact⟨_,rfl,BE.out⟩
  ·go_wp2_with fail;go_ret;exact⟨_,rfl,BE.out⟩
def Dz(p:aX)(lf:Int)(w:World)(e:Ending)(w':World):Prop:=∃r:Int,e=.returned (.int .i64 r)/\-1<=r/\r<=1000/\(0<=r->r=lf-p.nodes)/\Below w.heap.size w w'
theorem uW{l:List aX}{i:Nat}{k:aX}(h:l[i]?=some k):aX.nodes.nodesL (l.take (i+1))=aX.nodes.nodesL (l.take i)+k.nodes:=by
 induction l generalizing i with
 | nil=>simp at h
 | cons x r ih=>
  cases i with
  | zero=>simp at h;subst h;simp[aX.nodes.nodesL]
  | succ i=>
   have:=ih (i:=i) (by simpa using h);simp only[LY,aX.nodes.nodesL] at*;omega
end
structure IV(p:aX)(lf:Int)(w:World)(i:Nat)(r:Int)(wr:World):Prop where
 b0:aG wr w.heap.size 38 (aD p)
 bel:Below w.heap.size w wr
 lo:-1<=r
 hi:r<=1000
 eq:0<=r->r=lf-1-(aX.nodes.nodesL (p.kids.take i):Nat)
def Ga(w:World)(e:Ending)(w':World):Prop:=∃a b:Int,e=.returned (.tuple #[.int .i64 a,.int .i64 b])/\1<=a/\a<=257/\(b=0->a<=256)/\Below w.heap.size w w'
structure IW(x:dI)(w:World)(a:Int)(wr:World):Prop where
 b0:aG wr w.heap.size 35 (aN x)
 bel:Below w.heap.size w wr
 lo:1<=a
 hi:a<=256
section
variable {n size:Nat} {x:Int} {w w':World}
theorem wX(x:dI):∀(nu lv:Int) (w:World),WX w x->cY w->1<=nu->nu<=257->1<=lv->lv<=17->Calls prog 144 #[dL x,.int .i64 nu,.int .i64 lv] w (Ga w):=by
 induction x using dI.ind with
 | h x ih=>
 intro nu lv w hw hT h1 h2 h3 h4;have HT:=qD hT;have HW:=qD hw;have W:=qD hw.open;have IH:=qD ih;have hkz:x.kn<=140737488355328:=by have:=W.out.ksz;unfold aH at this;omega
 clear ih hw hT;have B0:Hid (aG (w.alloc (.cells (aN x) 35)) w.heap.size 35 (aN x)):=aG.Ii rfl;have BE:=qD ((Ju w.heap.size w).alloc (qL) (Obj.cells (aN x) 35));go_enter func144,ntmps144;go_upto_region 1 with fail
 change Code.wp _ _ _ _ (w.alloc (.cells (aN x) 35));generalize w.alloc (.cells (aN x) 35)=wa at*;by_cases hz:16<lv\/256<nu
 ·go_cut [17] (fun v wx=>v=.bool true/\wx=wa)
  case first=>
   go_wp2_with fail
   all_goals go_meet
   all_goals first|exact⟨rfl,rfl⟩|(exfalso;omega)|(refine⟨?_,rfl⟩;simp;omega)
  case rest=>
   obtain⟨rfl,rfl⟩:=hcut;go_wp2_with fail;go_ret2;exact⟨nu,2,rfl,h1,h2,fun h=>absurd h (by omega),BE.out⟩
 ·have g1:¬16<lv:=by omega
  have g2:¬256<nu:=by omega
  have g4:wrap64 (lv+1)=lv+1:=by unfold wrap64;omega
  clear hz;have RF:=qD (iK B0.out);go_upto_region 3 with fail
  go_wp2_with (first
   | ((with_reducible show wpList _ _ _ (⟨_,.load 35 _,_,_,_,_⟩::_) _ _);refine aE rfl 35 _ rfl w.heap.size 0 rfl _ _ RF.out Kw rfl (by kernel_rfl) ?_)
   | (go_at_call 193;fail))
  refine(zi x wa (HW.out.step BE.out) (HT.out.step BE.out)).mono ?_;rintro e w1 ⟨er,rfl,hb⟩;replace B0:=qD (B0.out.step hb);replace BE:=qD (BE.out.Ih hb);clear hb RF;by_cases he:er=0
  ·subst he;go_upto_region 7 with fail
   go_loopw [1,9,10,11] (fun v1 v9 _ _ wr=>∃(i:Nat) (a:Int),i<=x.kn/\v1=.int .i64 a/\v9=.int .i64 i/\IW x w a wr) (fun _ v9 _ _ _=>x.kn-(intOf v9).toNat)
   ·exact⟨0,nu,KD _,rfl,rfl,B0.out,BE.out,h1,by omega⟩
   case round=>
    obtain⟨i,a,hi,rfl,rfl,hI⟩:=hrel;have HI:=qD hI;obtain⟨_,_,_,_,_,d10⟩:=ag hI.b0;have alo:=hI.lo;have ahi:=hI.hi;clear hI;have g3:wrap64 (a+1)=a+1:=by unfold wrap64;omega
    by_cases hlt:i<x.kn
    ·obtain⟨b,off,y,hA,hb,hx,hm,hrg⟩:=W.out.sr.row hlt;have RG:=qD (bD hrg HI.out.bel hb);have KW:=qD ((W.out.kids y hm).step HI.out.bel);have IX:=qD (IH.out y hm);have KT:=qD (HT.out.step HI.out.bel);rw[hA] at d10;clear hrg hx hm hA
     go_wp2_with (first
      | ((with_reducible show wpList _ _ _ (⟨_,.load 35 _,_,_,_,_⟩::_) _ _);refine aE rfl 35 _ rfl b (off+i*11) rfl _ _ RG.out Kw rfl (by kernel_rfl) ?_)
      | (go_at_call 144;(try rw[g4]);(try rw[g3]);refine(IX.out (a+1) (lv+1) _ KW.out KT.out (by omega) (by omega) (by omega) (by omega)).mono ?_;rintro e w1 ⟨r,er,rfl,hr1,hr2,hr3,hbb⟩;have H3:=qD hr3;have HB:=qD hbb;clear hr3 hbb;by_cases he:er=0;(focus (subst he))))
     ·have:r<=256:=by simpa using H3.out
      go_roundw
      ·exact⟨i+1,r,by omega,rfl,by go_num,HI.out.b0.step HB.out,HI.out.bel.Ih HB.out,hr1,this⟩
      ·simp[intOf];omega
     ·have he':(er != 0)=true:=by simpa using he
      go_wp2_with fail;go_ret2;exact⟨r,er,rfl,hr1,hr2,H3.out,HI.out.bel.Ih HB.out⟩
    ·go_wp2_with fail;go_ret2;exact⟨a,0,rfl,alo,by omega,fun _=>ahi,HI.out.bel⟩
  ·have he':(er != 0)=true:=by simpa using he
   clear he;go_wp2_with fail;go_ret2;exact⟨nu,er,rfl,h1,h2,fun _=>by omega,BE.out⟩
theorem wY(x:dI)(w:World)(h:WX w x)(hT:cY w):Calls prog 85 #[dL x] w (FW w):=by
 have HT:=qD hT;have HW:=qD h;clear h hT;have B0:Hid (aG (w.alloc (.cells (aN x) 35)) w.heap.size 35 (aN x)):=aG.Ii rfl;have BE:=qD ((Ju w.heap.size w).alloc (qL) (Obj.cells (aN x) 35));go_enter func85,ntmps85;go_upto_region 1 with fail
 change Code.wp _ _ _ _ (w.alloc (.cells (aN x) 35));generalize w.alloc (.cells (aN x) 35)=wa at*;have RF:=qD (iK B0.out)
 go_wp2_with (first
  | ((with_reducible show wpList _ _ _ (⟨_,.load 35 _,_,_,_,_⟩::_) _ _);refine aE rfl 35 _ rfl w.heap.size 0 rfl _ _ RF.out Kw rfl (by kernel_rfl) ?_)
  | (go_at_call 144;refine(wX x 1 1 _ (HW.out.step BE.out) (HT.out.step BE.out) (by omega) (by omega) (by omega) (by omega)).mono ?_;rintro e w1 ⟨r,er,rfl,_,_,_,hb⟩;replace BE:=qD (BE.out.Ih hb);clear hb B0 RF))
 go_ret;exact⟨er,rfl,BE.out⟩
end
end Go.Proofs.YtgfoliedmhgpnaaGreatDoor
