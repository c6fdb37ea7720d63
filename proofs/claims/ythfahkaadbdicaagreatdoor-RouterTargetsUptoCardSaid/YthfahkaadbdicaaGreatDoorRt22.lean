/- Parts of the proof, joined: PrNode, PrValid, IvBaseB, ValTexts, ValRefCmp, RfEq, RfRange, RgAfterR, IvBaseD. -/
import Derived.Test.YthfahkaadbdicaaGreatDoorRt1
import Derived.Test.YthfahkaadbdicaaGreatDoorRt20
import Derived.Test.YthfahkaadbdicaaGreatDoorRt21
import Derived.Test.YthfahkaadbdicaaGreatDoorRt12
import Derived.Test.YthfahkaadbdicaaGreatDoorRt18
import Derived.Test.YthfahkaadbdicaaGreatDoorRt6
import Derived.Test.YthfahkaadbdicaaGreatDoorRt7
import Derived.Test.YthfahkaadbdicaaGreatDoorRt13
import Derived.Test.YthfahkaadbdicaaGreatDoorRt9
import Derived.Deep.CutBlock
import Derived.Lib.AppendZerosOnto
set_option maxRecDepth 100000
set_option maxHeartbeats 16000000
set_option linter.unusedSimpArgs false
open Go.Proofs.Tryz
open ByteArray (empty)
namespace Go.Proofs.YthfahkaadbdicaaGreatDoor
open Go.RowKit
def iL(p:ao)(w:World)(e:Ending)(w':World):Prop:=∃n:Int,e=.returned (.int .i64 n)/\(n=0->od p)/\Below w.heap.size w w'
theorem iL.no{p:ao}{w w':World}{n:Int}(h:n≠0)(hb:Below w.heap.size w w'):iL p w (.returned (.int .i64 n)) w':=⟨n,rfl,fun k=>absurd k h,hb⟩
structure JT(p:ao):Prop where
 kids:ce p=true
 nums:au p=true
 arg:dB p.op=true->aO p.arg.2=true/\(dW p.op=true->p.arg.1.k=4)
 args:cQ p.op=true->∀x∈p.args.xs,aO x.2=true
 path:cq p.op=true->p.path.xs.length<=16
theorem BM{l:List ByteArray}(h:du l=true):l.length<=16:=by
 unfold du at h;simp at h;omega
theorem JT.LG{p:ao}{w:World}(h:JT p)(W:Hz w p)(hk:p.op≠24->∀k∈p.kids,od k):od p:=by
 refine Ep.shut ⟨fun ho=>?_,fun ho=>?_,fun ho=>?_,fun ho=>?_,fun ho=>?_,fun ho=>?_,hk⟩
 ·have e:dB p.op=true:=by
   unfold dB dW;rcases ho with⟨h1,h2⟩|ho|ho|ho
   ·simp[h1,h2]
   ·rw[ho];rfl
   ·rw[ho];rfl
   ·rw[ho];rfl
  exact(h.arg e).1
 ·have e:cQ p.op=true:=by rcases ho with ho|ho|ho<;>rw[ho]<;>rfl
  exact h.args e
 ·have e:dB p.op=true:=by rcases ho with ho|ho|ho<;>rw[ho]<;>rfl
  have e':dW p.op=true:=by rcases ho with ho|ho|ho<;>rw[ho]<;>rfl
  rw[<-W.arg.open.k];exact(h.arg e).2 e'
 ·have:=h.nums;unfold au at this;rw[LU (by omega),LZ ho] at this;simpa using this
 ·have:=h.kids;unfold ce at this;have hn:=W.sr.ln;intro e;rw[e] at hn;rcases ho with ho|ho|ho
  ·rw[LZ (by omega)] at this;simp at hn this;omega
  ·rw[LU (by omega),LZ (by omega)] at this;simp at hn this;omega
  ·rw[LU (by omega),LZ (by omega)] at this;simp at hn this;omega
 ·exact h.path (by unfold cq;simp[ho.1,ho.2])
theorem yH(p:ao):∀(el:Bool) (w:World),WP w p->cg w->Calls prog 23 #[am p,.bool el] w (iL p w):=by
 induction p using ao.ind with
 | h p ih=>
 intro el w hw hT;have HT:=qD hT;have W:=qD hw.open;have IH:=qD ih;have hkz:p.kn<=140737488355328:=by have:=W.out.ksz;unfold aF at this;omega
 have hpz:p.path.n<=140737488355328:=by have:=W.out.path.sz;unfold aF at this;omega
 have haz:p.args.n<=1048576:=W.out.few;clear ih hw hT;have B0:Hid (aE (w.alloc (.cells (aH p) 38)) w.heap.size 38 (aH p)):=aE.Jq rfl;have BE:=qD ((LH w.heap.size w).alloc (qL) (Obj.cells (aH p) 38));go_enter func23,ntmps23;go_upto_region 1 with fail
 change Code.wp _ _ _ _ (w.alloc (.cells (aH p) 38));generalize w.alloc (.cells (aH p) 38)=wa at*;obtain⟨d0,d1,d2,_,d7,d8,d9,d24⟩:=aS B0.out;have RF:=qD (dy B0.out)
 go_cut [37] (fun v wx=>∃b:Bool,v=.bool b/\(b=false->ce p=true/\au p=true)/\aE wx w.heap.size 38 (aH p)/\Below w.heap.size w wx)
 case first=>
  cases o1:decide (p.op<1)<;>cases o2:decide (24<p.op)<;>cases o3:((p.args.n:Int)==0)
  all_goals go_wp2_with (first
   | ((with_reducible show wpList _ _ _ (⟨_,.load 38 _,_,_,_,_⟩::_) _ _);refine aG rfl 38 _ rfl w.heap.size 0 rfl _ _ RF.out Ly rfl (by kernel_rfl) ?_)
   | (go_at_call 60;refine(Cu p _).mono ?_;rintro e w1 ⟨rfl,hb⟩;replace B0:=qD (B0.out.step hb);replace BE:=qD (BE.out.Jp hb);replace RF:=qD (dy B0.out);clear hb d0 d1 d2 d7 d8 d9 d24;obtain⟨d0,d1,d2,_,d7,d8,d9,d24⟩:=aS B0.out;cases hKB:ce p)
   | (go_at_call 61;refine(ie _ _).mono ?_;rintro e w1 ⟨rfl,rfl⟩;obtain⟨bb,hbb⟩:∃b,b=cQ p.op:=⟨_,rfl⟩;rw[<-hbb];clear hbb;cases bb)
   | (go_at_call 62;refine(ug p _).mono ?_;rintro e w1 ⟨rfl,hb⟩;replace B0:=qD (B0.out.step hb);replace BE:=qD (BE.out.Jp hb);clear hb;cases hNB:au p))
  all_goals go_meet
  all_goals first
   | exact⟨true,rfl,fun h=>by simp at h,B0.out,BE.out⟩
   | exact⟨false,rfl,fun _=>⟨hKB,hNB⟩,B0.out,BE.out⟩
   | exact⟨_,rfl,fun _=>⟨hKB,hNB⟩,B0.out,BE.out⟩
 case rest=>
  obtain⟨b,rfl,hF,hB0,hBE⟩:=hcut;clear B0 BE RF d0 d1 d2 d7 d8 d9 d24;have B0:=qD hB0;have BE:=qD hBE;have F1:=qD hF;obtain⟨d0,d1,d2,_,d7,d8,d9,d24⟩:=aS B0.out;clear hB0 hBE hF;cases b
  ·go_upto_region 3 with fail
   have HP:=qD (W.out.path.step BE.out);have HPN:=qD W.out.path.sr.ln
   go_cut [56] (fun v wx=>∃b:Bool,v=.bool b/\(b=false->cq p.op=true->p.path.xs.length<=16)/\wx=wc)
   case first=>
    cases el
    all_goals go_wp2_with (first
     | (go_at_call 63;refine(lj _ _).mono ?_;rintro e w1 ⟨rfl,rfl⟩;cases hOB:cq p.op)
     | (go_at_call 58;refine(nK p.path.xs _ _ _ _ HP.out).mono ?_;rintro e w1 ⟨rfl,rfl⟩;cases hPB:du p.path.xs))
    all_goals go_meet
    all_goals first
     | exact⟨true,rfl,fun h=>by simp at h,rfl⟩
     | exact⟨false,rfl,fun _ h=>absurd (hOB.symm.trans h) (by decide),rfl⟩
     | exact⟨false,rfl,fun _ _=>BM hPB,rfl⟩
     | exact⟨_,rfl,fun h _=>by have:=HPN.out;simp at h;omega,rfl⟩
   case rest=>
    obtain⟨b,rfl,hF,rfl⟩:=hcut;have F3:=qD hF;clear hF HPN;cases b
    ·go_upto_region 5 with fail
     have RA:=qD (aX B0.out);have HA:=qD (W.out.arg.step BE.out)
     go_cut [76] (fun v wx=>∃b:Bool,v=.bool b/\(b=false->dB p.op=true->aO p.arg.2=true/\(dW p.op=true->p.arg.1.k=4))/\aE wx w.heap.size 38 (aH p)/\Below w.heap.size w wx)
     case first=>
      go_wp2_with (first
       | ((with_reducible show wpList _ _ _ (⟨_,.load 29 _,_,_,_,_⟩::_) _ _);refine aG rfl 29 _ rfl w.heap.size 2 rfl _ _ RA.out Mt rfl (by kernel_rfl) ?_)
       | (go_at_call 64;refine(pH _ _).mono ?_;rintro e w1 ⟨rfl,rfl⟩;cases hAB:dB p.op)
       | (go_at_call 65;refine(nl _ _).mono ?_;rintro e w1 ⟨rfl,rfl⟩;cases hTB:dW p.op)
       | (go_at_call 8;refine(eW p.arg.2 p.arg.1 _ HA.out).mono ?_;rintro e w1 ⟨rfl,hb⟩;replace B0:=qD (B0.out.step hb);replace BE:=qD (BE.out.Jp hb);clear hb d0 d1 d2 d7 d8 d9 d24;obtain⟨d0,d1,d2,_,d7,d8,d9,d24⟩:=aS B0.out;cases hVB:aO p.arg.2))
      all_goals go_meet
      all_goals first
       | exact⟨true,rfl,fun h=>by simp at h,B0.out,BE.out⟩
       | exact⟨false,rfl,fun _ h=>absurd (hAB.symm.trans h) (by decide),B0.out,BE.out⟩
       | exact⟨false,rfl,fun _ _=>⟨hVB,fun h=>absurd (hTB.symm.trans h) (by decide)⟩,B0.out,BE.out⟩
       | exact⟨_,rfl,fun h _=>⟨hVB,fun _=>by simpa using h⟩,B0.out,BE.out⟩
     case rest=>
      obtain⟨b,rfl,hF,hB0,hBE⟩:=hcut;clear B0 BE d0 d1 d2 d7 d8 d9 d24 RA HA HP;have B0:=qD hB0;have BE:=qD hBE;have F5:=qD hF;obtain⟨d0,d1,d2,_,d7,d8,d9,d24⟩:=aS B0.out;clear hB0 hBE hF;cases b
      ·go_upto_block 0 with fail
       go_cut [5] (fun _ wx=>(cQ p.op=true->∀x∈p.args.xs,aO x.2=true)/\aE wx w.heap.size 38 (aH p)/\Below w.heap.size w wx)
       case first=>
        go_wp2_with fail
        go_loopw [5] (fun v wr=>∃i:Nat,i<=p.args.n/\v=.int .i64 i/\(∀(j:Nat) (x:PV),j<i->p.args.xs[j]?=some x->aO x.2=true)/\aE wr w.heap.size 38 (aH p)/\Below w.heap.size w wr) (fun v _=>p.args.n-(intOf v).toNat)
        ·exact⟨0,LQ _,rfl,fun j _ h=>absurd h (by omega),B0.out,BE.out⟩
        case round=>
         obtain⟨i,hi,rfl,hall,hB0,hBE⟩:=hrel;clear B0 BE d0 d1 d2 d7 d8 d9 d24;have B0:=qD hB0;have BE:=qD hBE;have HALL:=qD hall;obtain⟨d0,d1,d2,_,d7,d8,d9,d24⟩:=aS B0.out;clear hB0 hBE hall;by_cases hlt:i<p.args.n
         ·cases hSB:cQ p.op
          ·go_wp2_with (go_at_call 61;refine(ie _ _).mono ?_;rintro e w1 ⟨rfl,rfl⟩;rw[hSB]);go_meet;exact⟨fun h=>absurd (hSB.symm.trans h) (by decide),B0.out,BE.out⟩
          ·obtain⟨b,off,x,hA,hb,hx,hm,hrg⟩:=W.out.args.sr.row hlt;have HX:=qD hx;have RG:=qD (bi hrg BE.out hb);have HV:=qD ((W.out.args.rv x hm).step BE.out);rw[hA] at d7;have HA:=qD hA;clear hrg hA hx
           go_wp2_with (first
            | (go_at_call 61;refine(ie _ _).mono ?_;rintro e w1 ⟨rfl,rfl⟩;rw[hSB])
            | ((with_reducible show wpList _ _ _ (⟨_,.load 29 _,_,_,_,_⟩::_) _ _);refine aG rfl 29 _ rfl b (off+i*5) rfl _ _ RG.out Mt rfl (by kernel_rfl) ?_)
            | (go_at_call 8;refine(eW x.2 x.1 _ HV.out).mono ?_;rintro e w1 ⟨rfl,hbb⟩;replace B0:=qD (B0.out.step hbb);replace BE:=qD (BE.out.Jp hbb);clear hbb;cases hVB:aO x.2))
           ·go_ret;exact iL.no (by decide) BE.out
           ·go_roundw
            case rel=>
             refine⟨i+1,by omega,by go_num,fun j y hj hy=>?_,B0.out,BE.out⟩;by_cases hji:j=i
             ·subst hji;obtain rfl:y=x:=by have:=hy.symm.trans HX.out;simpa using this
              exact hVB
             ·exact HALL.out j y (by omega) hy
            case measure=>simp[intOf];omega
         ·obtain rfl:i=p.args.n:=by omega
          go_wp2_with fail;go_meet;refine⟨fun _ x hx=>?_,B0.out,BE.out⟩;obtain⟨j,hj,rfl⟩:=Pb hx;exact HALL.out j _ (by have:=W.out.args.sr.ln;omega) (LI hj)
       case rest=>
        obtain⟨hF,hB0,hBE⟩:=hcut;clear B0 BE d0 d1 d2 d7 d8 d9 d24;have B0:=qD hB0;have BE:=qD hBE;have FA:=qD hF;have ND:Hid (JT p):=qD ⟨(F1.out rfl).1,(F1.out rfl).2,F5.out rfl,FA.out,F3.out rfl⟩;obtain⟨d0,d1,d2,_,d7,d8,d9,d24⟩:=aS B0.out;clear hB0 hBE hF FA F1 F5 F3
        go_upto_if 98 with fail
        go_cut [6] (fun _ wx=>aE wx w.heap.size 38 (aH p)/\Below w.heap.size w wx)
        case first=>
         cases h18:(p.op==18)
         ·go_wp2_with fail;go_meet;exact⟨B0.out,BE.out⟩
         ·have RS:=qD (ma B0.out);have HSH:=qD (Av p.sk p.sr p.pts wc (W.out.pts.step BE.out) W.out.psz)
          go_wp2_with (first
           | ((with_reducible show wpList _ _ _ (⟨_,.load 32 _,_,_,_,_⟩::_) _ _);refine aG rfl 32 _ rfl w.heap.size 10 rfl _ _ RS.out Oy rfl (by kernel_rfl) ?_)
           | (go_at_call 66;refine HSH.out.mono ?_;rintro e w1 ⟨er,rfl,hb⟩;replace B0:=qD (B0.out.step hb);replace BE:=qD (BE.out.Jp hb);clear hb;by_cases he:er=0;(focus (subst he))))
          ·go_meet;exact⟨B0.out,BE.out⟩
          ·have he':(er != 0)=true:=by simpa using he
           have HE:=qD he;clear he;go_wp2_with fail;go_ret;exact iL.no HE.out BE.out
        case rest=>
         obtain⟨hB0,hBE⟩:=hcut;clear B0 BE d0 d1 d2 d7 d8 d9 d24;have B0:=qD hB0;have BE:=qD hBE;obtain⟨d0,d1,d2,_,d7,d8,d9,d24⟩:=aS B0.out;have RF:=qD (dy B0.out);clear hB0 hBE
         go_upto_if 107 with(first
          | ((with_reducible show wpList _ _ _ (⟨_,.load 38 _,_,_,_,_⟩::_) _ _);refine aG rfl 38 _ rfl w.heap.size 0 rfl _ _ RF.out Ly rfl (by kernel_rfl) ?_)
          | (go_at_call 67;refine(yE p _).mono ?_;rintro e w1 ⟨bu,rfl,hb⟩;replace B0:=qD (B0.out.step hb);replace BE:=qD (BE.out.Jp hb);clear hb d0 d1 d2 d7 d8 d9 d24;obtain⟨d0,d1,d2,_,d7,d8,d9,d24⟩:=aS B0.out))
         cases bu
         ·go_wp2_with fail;go_ret;exact iL.no (by decide) BE.out
         cases h24:(p.op==24)
         ·go_upto_region 21 with fail
          go_loopw [7,8] (fun v _ wr=>∃i:Nat,i<=p.kn/\v=.int .i64 i/\(∀(j:Nat) (k:ao),j<i->p.kids[j]?=some k->od k)/\aE wr w.heap.size 38 (aH p)/\Below w.heap.size w wr) (fun v _ _=>p.kn-(intOf v).toNat)
          ·exact⟨0,LQ _,rfl,fun j _ h=>absurd h (by omega),B0.out,BE.out⟩
          case round=>
           obtain⟨i,hi,rfl,hall,hB0,hBE⟩:=hrel;clear B0 BE d0 d1 d2 d7 d8 d9 d24 RF;have B0:=qD hB0;have BE:=qD hBE;have HALL:=qD hall;obtain⟨d0,_,_,_,_,_,_,d24⟩:=aS B0.out;clear hB0 hBE hall;by_cases hlt:i<p.kn
           ·obtain⟨b,off,k,hA,hb,hx,hm,hrg⟩:=W.out.sr.row hlt;have HX:=qD hx;have RG:=qD (bi hrg BE.out hb);have HLB:Hid (b<wr.heap.size):=qD (Mv hb BE.out.size);have IX:=qD fun(el:Bool) (w':World) (hw:Below wr.heap.size wr w')=>IH.out k hm el w' ((W.out.kids k hm).step (BE.out.Jp hw)) (HT.out.step (BE.out.Jp hw));rw[hA] at d24;have i0:(0:Int)<=(i:Int):=by omega
            have i1:(i:Int)<(p.kn:Int):=by omega
            clear hrg hA hx;go_upto_region 23 with fail
            have KS:Hid (∀w',Below wr.heap.size wr w'->(Instr.loadAt 38 (.pointer (some ⟨b,off+i*25,none⟩))).run prog w'=.ok (.agg (iG k).toArray) w'/\w'.cell? ⟨w.heap.size,0,none⟩=some (.int .i64 p.op)/\w'.cell? ⟨w.heap.size,24,none⟩=some (.slice (some ⟨b,off,none⟩) p.kn p.kc)):=qD fun w' hw=>
             ⟨run_loadAt_mid w' b (off+i*25) 38 (iG k) _ (bi RG.out hw HLB.out) Ly rfl (by kernel_rfl),(hw.cell (p:=⟨w.heap.size,0,none⟩) B0.out.lt).trans d0,(hw.cell (p:=⟨w.heap.size,24,none⟩) B0.out.lt).trans d24⟩
            have B:=qD ((LH wr.heap.size wr).drewN 1);clear d0 d24;cases el
            ·cases h15:(p.op==15)
             all_goals
              refine MX ?_;refine ML (S:=(fun w'=>(Instr.loadAt 38 (.pointer (some ⟨b,off+i*25,none⟩))).run prog w'=.ok (.agg (iG k).toArray) w'/\w'.cell? ⟨w.heap.size,0,none⟩=some (.int .i64 p.op)/\w'.cell? ⟨w.heap.size,24,none⟩=some (.slice (some ⟨b,off,none⟩) p.kn p.kc))) (by kernel_rfl) ?_ (fun hHeld=>?_)
              ·(try dsimp only);exact KS.out _ B.out
              refine rT (v:=?_) 0 rfl ?_ ?_;rotate_left
              ·intro w' hSw;(try dsimp only at hSw);obtain⟨_,hSw1,hSw2⟩:=hSw;go_simp;(try with_reducible rfl)
              try go_frame
              refine rT (v:=?_) 1 rfl ?_ ?_;rotate_left
              ·intro w' hSw;(try dsimp only at hSw);obtain⟨_,hSw1,hSw2⟩:=hSw;go_simp;(try with_reducible rfl)
              try go_frame
              refine rT (v:=?_) 2 rfl ?_ ?_;rotate_left
              ·intro w' hSw;(try dsimp only at hSw);obtain⟨_,hSw1,hSw2⟩:=hSw;go_simp;(try with_reducible rfl)
              try go_frame
              refine rT (v:=?_) 3 rfl ?_ ?_;rotate_left
              ·intro w' hSw;(try dsimp only at hSw);obtain⟨_,hSw1,hSw2⟩:=hSw;go_simp;(try with_reducible rfl)
              try go_frame
              refine rT (v:=.agg (iG k).toArray) 4 rfl ?_ ?_
              (skip)
              ·intro w' hSw;exact cM (p:=.pointer (some ⟨b,off+i*25,none⟩)) rfl rfl hSw.1
              try go_frame
              refine rT (v:=?_) 5 rfl ?_ ?_;rotate_left
              ·intro w' hSw;(try dsimp only at hSw);obtain⟨_,hSw1,hSw2⟩:=hSw;go_simp;(try with_reducible rfl)
              try go_frame
              refine rT (v:=?_) 6 rfl ?_ ?_;rotate_left
              ·intro w' hSw;(try dsimp only at hSw);obtain⟨_,hSw1,hSw2⟩:=hSw;go_simp;(try with_reducible rfl)
              try go_frame
              refine rT (v:=?_) 7 rfl ?_ ?_;rotate_left
              ·intro w' hSw;(try dsimp only at hSw);obtain⟨_,hSw1,hSw2⟩:=hSw;go_simp;(try with_reducible rfl)
              try go_frame
              refine rT (v:=?_) 8 rfl ?_ ?_;rotate_left
              ·intro w' hSw;(try dsimp only at hSw);obtain⟨_,hSw1,hSw2⟩:=hSw;go_simp;(try with_reducible rfl)
              try go_frame
              refine rT (v:=?_) 9 rfl ?_ ?_;rotate_left
              ·intro w' hSw;(try dsimp only at hSw);obtain⟨_,hSw1,hSw2⟩:=hSw;go_simp;(try with_reducible rfl)
              try go_frame
              refine rT (v:=?_) 10 rfl ?_ ?_;rotate_left
              ·intro w' hSw;(try dsimp only at hSw);obtain⟨_,hSw1,hSw2⟩:=hSw;go_simp;(try with_reducible rfl)
              try go_frame
              refine rY 11 rfl fun K hK=>?_;go_simp;refine(IX.out _ _ B.out).mono ?_;rintro e3 w3 ⟨er,rfl,hn,hb3⟩;replace B:=qD (B.out.Jp hb3);have HN:=qD hn;clear hb3 hn
              (try go_wp2_with fail)
              clear hHeld;refine hK.out _ _ ?_ fun hHeld=>?_
              ·(try dsimp only);exact KS.out _ B.out
              clear hK K
              try go_frame
              refine rU 12 rfl ?_
              try go_frame
              refine rD ?_ _;refine Mf ?_;clear hHeld;by_cases he:er=0
              ·subst he;go_wp2_with fail;go_roundw
               case rel=>
                refine⟨i+1,by omega,by go_num,fun j y hj hy=>?_,B0.out.step B.out,BE.out.Jp B.out⟩;by_cases hji:j=i
                ·subst hji;obtain rfl:y=k:=by have:=hy.symm.trans HX.out;simpa using this
                 exact(by have h:=HN.out;simpa using h)
                ·exact HALL.out j y (by omega) hy
               case measure=>simp[intOf];omega
              ·have he':(er != 0)=true:=by simpa using he
               have HE:=qD he;clear he;go_wp2_with fail;go_ret;exact iL.no HE.out (BE.out.Jp B.out)
            ·refine MX ?_;refine ML (S:=(fun w'=>(Instr.loadAt 38 (.pointer (some ⟨b,off+i*25,none⟩))).run prog w'=.ok (.agg (iG k).toArray) w'/\w'.cell? ⟨w.heap.size,0,none⟩=some (.int .i64 p.op)/\w'.cell? ⟨w.heap.size,24,none⟩=some (.slice (some ⟨b,off,none⟩) p.kn p.kc))) (by kernel_rfl) ?_ (fun hHeld=>?_)
             ·(try dsimp only);exact KS.out _ B.out
             refine rT (v:=?_) 0 rfl ?_ ?_;rotate_left
             ·intro w' hSw;(try dsimp only at hSw);obtain⟨_,hSw1,hSw2⟩:=hSw;go_simp;(try with_reducible rfl)
             try go_frame
             refine rT (v:=?_) 1 rfl ?_ ?_;rotate_left
             ·intro w' hSw;(try dsimp only at hSw);obtain⟨_,hSw1,hSw2⟩:=hSw;go_simp;(try with_reducible rfl)
             try go_frame
             refine rT (v:=?_) 2 rfl ?_ ?_;rotate_left
             ·intro w' hSw;(try dsimp only at hSw);obtain⟨_,hSw1,hSw2⟩:=hSw;go_simp;(try with_reducible rfl)
             try go_frame
             refine rT (v:=?_) 3 rfl ?_ ?_;rotate_left
             ·intro w' hSw;(try dsimp only at hSw);obtain⟨_,hSw1,hSw2⟩:=hSw;go_simp;(try with_reducible rfl)
             try go_frame
             refine rT (v:=.agg (iG k).toArray) 4 rfl ?_ ?_
             (skip)
             ·intro w' hSw;exact cM (p:=.pointer (some ⟨b,off+i*25,none⟩)) rfl rfl hSw.1
             try go_frame
             refine rT (v:=?_) 5 rfl ?_ ?_;rotate_left
             ·intro w' hSw;(try dsimp only at hSw);obtain⟨_,hSw1,hSw2⟩:=hSw;go_simp;(try with_reducible rfl)
             try go_frame
             refine rT (v:=?_) 6 rfl ?_ ?_;rotate_left
             ·intro w' hSw;(try dsimp only at hSw);obtain⟨_,hSw1,hSw2⟩:=hSw;go_simp;(try with_reducible rfl)
             try go_frame
             refine MO (i:=7) (v:=undef) (rO rfl) (by kernel_rfl) (by kernel_rfl) (by kernel_rfl) (fun _ _ _ h=>h) (Or.inr ⟨by rfl,rfl⟩) (by assumption) ?_
             try go_frame
             refine MO (i:=8) (v:=undef) (rO rfl) (by kernel_rfl) (by kernel_rfl) (by kernel_rfl) (fun _ _ _ h=>h) (Or.inr ⟨by rfl,rfl⟩) (by assumption) ?_
             try go_frame
             refine MO (i:=9) (v:=undef) (rO rfl) (by kernel_rfl) (by kernel_rfl) (by kernel_rfl) (fun _ _ _ h=>h) (Or.inr ⟨by rfl,rfl⟩) (by assumption) ?_
             try go_frame
             refine rT (v:=?_) 10 rfl ?_ ?_;rotate_left
             ·intro w' hSw;(try dsimp only at hSw);obtain⟨_,hSw1,hSw2⟩:=hSw;go_simp;(try with_reducible rfl)
             try go_frame
             refine rY 11 rfl fun K hK=>?_;go_simp;refine(IX.out _ _ B.out).mono ?_;rintro e3 w3 ⟨er,rfl,hn,hb3⟩;replace B:=qD (B.out.Jp hb3);have HN:=qD hn;clear hb3 hn
             (try go_wp2_with fail)
             clear hHeld;refine hK.out _ _ ?_ fun hHeld=>?_
             ·(try dsimp only);exact KS.out _ B.out
             clear hK K
             try go_frame
             refine rU 12 rfl ?_
             try go_frame
             refine rD ?_ _;refine Mf ?_;clear hHeld;by_cases he:er=0
             ·subst he;go_wp2_with fail;go_roundw
              case rel=>
               refine⟨i+1,by omega,by go_num,fun j y hj hy=>?_,B0.out.step B.out,BE.out.Jp B.out⟩;by_cases hji:j=i
               ·subst hji;obtain rfl:y=k:=by have:=hy.symm.trans HX.out;simpa using this
                exact(by have h:=HN.out;simpa using h)
               ·exact HALL.out j y (by omega) hy
              case measure=>simp[intOf];omega
             ·have he':(er != 0)=true:=by simpa using he
              have HE:=qD he;clear he;go_wp2_with fail;go_ret;exact iL.no HE.out (BE.out.Jp B.out)
           ·obtain rfl:i=p.kn:=by omega
            go_wp2_with fail;go_ret;refine⟨0,rfl,fun _=>ND.out.LG W.out fun _ k hk=>?_,BE.out⟩;obtain⟨j,hj,rfl⟩:=Pb hk;exact HALL.out j _ (by have:=W.out.sr.ln;omega) (LI hj)
         ·have RE:=qD (nI B0.out);have HV8:=qD fun wr (hb:Below w.heap.size w wr)=>yG p.ex wr (W.out.ex.step hb) (HT.out.step hb)
          go_wp2_with (first
           | ((with_reducible show wpList _ _ _ (⟨_,.load 35 _,_,_,_,_⟩::_) _ _);refine aG rfl 35 _ rfl w.heap.size 13 rfl _ _ RE.out Nj rfl (by kernel_rfl) ?_)
           | (go_at_call 68;refine(HV8.out _ BE.out).mono ?_;rintro e w1 ⟨er,rfl,hb⟩;replace BE:=qD (BE.out.Jp hb);clear hb))
          go_ret;exact⟨er,rfl,fun _=>ND.out.LG W.out (fun h=>absurd (show p.op=24 by simpa using h24) h),BE.out⟩
      ·go_wp2_with fail;go_ret;exact iL.no (by decide) BE.out
    ·go_wp2_with fail;go_ret;exact iL.no (by decide) BE.out
  ·go_wp2_with fail;go_ret;exact iL.no (by decide) BE.out
theorem DN(p:ao):∀(lv lf:Int) (w:World),WP w p->0<=lv->lv<=1000->-1<=lf->lf<=1000->Calls prog 22 #[am p,.int .i64 lv,.int .i64 lf] w (FL p lf w):=by
 induction p using ao.ind with
 | h p ih=>
 intro lv lf w hw h1 h2 h3 h4;have W:=qD hw.open;have IH:=qD ih;have hkn:=qD W.out.sr.ln;have hkz:p.kn<=140737488355328:=by have:=W.out.ksz;unfold aF at this;omega
 clear ih hw;have B0:Hid (aE (w.alloc (.cells (aH p) 38)) w.heap.size 38 (aH p)):=aE.Jq rfl;have BE:=qD ((LH w.heap.size w).alloc (qL) (Obj.cells (aH p) 38));go_enter func22,ntmps22;go_upto_region 1 with fail
 change Code.wp _ _ _ _ (w.alloc (.cells (aH p) 38));generalize w.alloc (.cells (aH p) 38)=wa at*;by_cases hz0:lv=0
 ·subst hz0;go_wp2_with fail;go_ret;exact⟨-1,rfl,by omega,by omega,fun h=>absurd h (by omega),BE.out⟩
 by_cases hz:lf<=0
 ·have g1:(lv==0)=false:=by simpa using hz0
  clear hz0;go_wp2_with fail;go_ret;exact⟨-1,rfl,by omega,by omega,fun h=>absurd h (by omega),BE.out⟩
 ·have g1:(lv==0)=false:=by simp;omega
  have g2:¬lf<=0:=by omega
  have g3:wrap64 (lf-1)=lf-1:=by unfold wrap64;omega
  have g4:wrap64 (lv-1)=lv-1:=by unfold wrap64;omega
  go_upto_region 5 with fail
  (try rw[g3])
  go_loopw [2,7] (fun v2 v7 wr=>∃(i:Nat) (r:Int),i<=p.kn/\v2=.int .i64 r/\v7=.int .i64 i/\Jm p lf w i r wr) (fun _ v7 _=>p.kn-(intOf v7).toNat)
  ·exact⟨0,lf-1,LQ _,rfl,rfl,B0.out,BE.out,by omega,by omega,fun _=>by simp[ao.nodes.nodesL]⟩
  case round=>
   obtain⟨i,r,hi,rfl,rfl,hI⟩:=hrel;have HI:=qD hI;obtain⟨_,_,_,_,_,_,_,d24⟩:=aS hI.b0;have rlo:=hI.lo;have rhi:=hI.hi;clear hI;by_cases hlt:i<p.kn
   ·by_cases hr:0<=r
    ·obtain⟨b,off,x,hA,hb,hx,hm,hrg⟩:=W.out.sr.row hlt;have RG:=qD (bi (hrg) HI.out.bel hb);have HX:=qD hx;have KW:=qD ((W.out.kids x hm).step HI.out.bel);have IX:=qD (IH.out x hm);rw[hA] at d24;clear hrg hx hm hA
     go_wp2_with (first
      | ((with_reducible show wpList _ _ _ (⟨_,.load 38 _,_,_,_,_⟩::_) _ _);refine aG rfl 38 _ rfl b (off+i*25) rfl _ _ RG.out Ly rfl (by kernel_rfl) ?_)
      | (go_at_call 22;(try rw[g4]);refine(IX.out (lv-1) r _ KW.out (by omega) (by omega) rlo rhi).mono ?_;rintro e w1 ⟨r',rfl,hr1,hr2,hr3,hbb⟩;have H3:=qD hr3;have HB:=qD hbb;clear hr3 hbb))
     go_roundw
     case rel=>
      refine⟨i+1,r',by omega,rfl,by go_num,HI.out.b0.step HB.out,HI.out.bel.Jp HB.out,hr1,hr2,fun h=>?_⟩;have e1:=H3.out h;have e2:=HI.out.eq hr;have e3:=vP HX.out;omega
     case measure=>simp[intOf];omega
    ·go_wp2_with fail;go_ret;exact⟨r,rfl,rlo,rhi,fun h=>absurd h (by omega),HI.out.bel⟩
   ·obtain rfl:i=p.kn:=by omega
    go_wp2_with fail;go_ret;refine⟨r,rfl,rlo,rhi,fun h=>?_,HI.out.bel⟩;have e:=HI.out.eq h;rw[hkn.out,PM] at e;rw[p.Ka];omega
theorem BN(p:ao)(w:World)(h:WP w p)(hT:cg w):Calls prog 7 #[am p] w fun e w'=>∃n:Int,e=.returned (.int .i64 n)/\(n=0->od p/\p.nodes<=256)/\Below w.heap.size w w':=by
 have HT:=qD hT;have HW:=qD h;clear h hT;have B0:Hid (aE (w.alloc (.cells (aH p) 38)) w.heap.size 38 (aH p)):=aE.Jq rfl;have BE:=qD ((LH w.heap.size w).alloc (qL) (Obj.cells (aH p) 38));go_enter func7,ntmps7;go_upto_region 1 with fail
 change Code.wp _ _ _ _ (w.alloc (.cells (aH p) 38));generalize w.alloc (.cells (aH p) 38)=wa at*;have RF:=qD (dy B0.out)
 go_upto_if 5 with(first
  | ((with_reducible show wpList _ _ _ (⟨_,.load 38 _,_,_,_,_⟩::_) _ _);refine aG rfl 38 _ rfl w.heap.size 0 rfl _ _ RF.out Ly rfl (by kernel_rfl) ?_)
  | (go_at_call 22;refine(DN p 16 256 _ (HW.out.step BE.out) (by omega) (by omega) (by omega) (by omega)).mono ?_;rintro e w1 ⟨r,rfl,hr1,hr2,hr3,hb⟩;replace B0:=qD (B0.out.step hb);replace BE:=qD (BE.out.Jp hb);have HR:=qD hr3;replace RF:=qD (dy B0.out);clear hb hr3))
 by_cases hneg:r<0
 ·go_wp2_with fail;go_ret;exact⟨2,rfl,fun h=>absurd h (by decide),BE.out⟩
 ·have HN:Hid (p.nodes<=256):=by have:=HR.out (by omega);exact qD (by omega)
  go_wp2_with (first
   | ((with_reducible show wpList _ _ _ (⟨_,.load 38 _,_,_,_,_⟩::_) _ _);refine aG rfl 38 _ rfl w.heap.size 0 rfl _ _ RF.out Ly rfl (by kernel_rfl) ?_)
   | (go_at_call 23;refine(yH p false _ (HW.out.step BE.out) (HT.out.step BE.out)).mono ?_;rintro e w1 ⟨n,rfl,hn,hb⟩;replace BE:=qD (BE.out.Jp hb);have HV:=qD hn;clear hb hn))
  go_ret;exact⟨n,rfl,fun h=>⟨HV.out h,HN.out⟩,BE.out⟩
section
variable {w4:World} {l m:List (cA×cA)} {i k:Nat} {v:Value} {cs:List PS} {ga:Nat} {u:PS} {wr w':World}
end
theorem fA(w:World):Calls prog 173 #[] w (lY (fun a=>dj ae a (aT [iq])) 1 w):=by
 go_enter func173,ntmps173;go_wp2_with fail;go_ret;exact⟨_,1,1,[Gg],_,rfl,rfl,mH,qL,fI (aE.Jq rfl) ⟨Cq _,Cr _⟩,(LH _ _).alloc (qL) _⟩
theorem gw(x y:Int)(w:World):Calls prog 189 #[.int .i64 x,.int .i64 y] w fun e w'=>e=.returned (.int .i64 (cp x y))/\w'=w:=by
 go_enter func189,ntmps189
 go_wp2
 all_goals (go_ret;refine⟨?_,rfl⟩;unfold cp Lib.compareInt;(repeat' split)<;>first|rfl|(exfalso;omega))
theorem pW(a:ByteArray)(i:Nat)(h:i<a.size):a.data.toList.drop i=a[i]::a.data.toList.drop (i+1):=by
 rw[Mo (by simpa using h)];rfl
theorem BO{l m:List UInt8}{i:Nat}(h1:i<=l.length)(h2:i<=m.length)(h:l.length<=i\/m.length<=i):Lib.compareBytes (l.drop i) (m.drop i)=cp (l.length:Int) (m.length:Int):=by
 rw[gS];by_cases hl:l.length<=i
 ·rw[La hl];by_cases hm:m.length<=i
  ·rw[La hm,LU (by omega),LU (by omega)];rfl
  ·rw[Mo (by omega:i<m.length),LZ (by omega)];rfl
 ·have hm:m.length<=i:=by omega
  rw[La hm,Mo (by omega:i<l.length),LU (by omega),LZ (by omega)];rfl
theorem vR(a b:UInt8)(l m:List UInt8):Lib.compareBytes (a::l) (b::m)=if(a.toNat:Int)=(b.toNat:Int) then Lib.compareBytes l m else cp (a.toNat:Int) (b.toNat:Int):=by
 rw[Lib.compareBytes];unfold cp Lib.compareInt;have e1:a<b↔a.toNat<b.toNat:=MZ;have e2:b<a↔b.toNat<a.toNat:=MZ;rcases Nk a.toNat b.toNat with h|h|h
 ·rw[LZ (e1.2 h),LU (by omega),LZ (by omega)]
 ·rw[LU (by rw[e1];omega),LU (by rw[e2];omega),LZ (by omega)]
 ·rw[LU (by rw[e1];omega),LZ (e2.2 h),LU (by omega),LU (by omega),LZ (by omega)]
theorem lp(a b:ByteArray)(w:World)(h1:a.size<=aF):Calls prog 177 #[.string a,.string b] w fun e w'=>e=.returned (.int .i64 (bm a b))/\Below w.heap.size w w':=by
 unfold aF at h1;go_enter func177,ntmps177;go_wp2_with fail
 go_loopw [5] (fun v5 wr=>∃i:Nat,i<=a.size/\i<=b.size/\v5=.int .i64 i/\bm a b=Lib.compareBytes (a.data.toList.drop i) (b.data.toList.drop i)/\Below w.heap.size w wr) (fun v5 _=>a.size-(intOf v5).toNat)
 ·exact⟨0,LQ _,LQ _,rfl,rfl,LH _ _⟩
 case round=>
  obtain⟨i,hi1,hi2,rfl,hq,I⟩:=hrel;have HQ:=qD hq;have J:=qD I;clear hq I;by_cases hlt:i<a.size/\i<b.size
  ·obtain⟨hl1,hl2⟩:=hlt;have HA:=qD (HQ.out.trans (by rw[pW a i hl1,pW b i hl2,vR]));cases hc:((a[i].toNat:Int) != (b[i].toNat:Int))
   ·go_upto_region 4 with fail
    go_quiet (fail)
    have HC:Hid (bm a b=Lib.compareBytes (a.data.toList.drop (i+1)) (b.data.toList.drop (i+1))):=by
     have:(a[i].toNat:Int)=(b[i].toNat:Int):=by simpa using hc
     rw[Hid,HA.out,LZ this]
    go_wp2_with fail;go_roundw
    ·exact⟨i+1,by omega,by omega,by go_num,HC.out,J.out.drewN _⟩
    ·simp[intOf];omega
   ·have HC:Hid (bm a b=cp (a[i].toNat:Int) (b[i].toNat:Int)):=by
     have:¬(a[i].toNat:Int)=(b[i].toNat:Int):=by simpa using hc
     rw[Hid,HA.out,LU this]
    have b1:a[i].toNat<256:=a[i].toNat_lt;have b2:b[i].toNat<256:=b[i].toNat_lt;go_upto_region 4 with fail
    go_quiet (fail)
    have J2:=qD (J.out.drewN nq);generalize wr.drewN nq=w2 at*;have W1:IntKind.i64.wrap (a[i].toNat:Int)=(a[i].toNat:Int):=wrap_i64 (by omega) (by omega);have W2:IntKind.i64.wrap (b[i].toNat:Int)=(b[i].toNat:Int):=wrap_i64 (by omega) (by omega);go_upto_region 5 with fail
    go_quiet ((go_at_call 189;exact Calls.quiet_of_same (gw _ _ _)))
    go_wp2_with fail;go_ret;exact⟨by rw[HC.out];rfl,J2.out.drewN _⟩
  ·have HE:=qD (HQ.out.trans (BO (by simp;omega) (by simp;omega) (by simp;omega)));by_cases hl1:i<a.size
   all_goals
    first|have hx9:b.size<=i:=by omega|have hx9:a.size<=i:=by omega
    go_wp2_with fail;refine(gw _ _ _).mono ?_;rintro e w' ⟨rfl,rfl⟩;go_wp2_with fail;go_ret;exact⟨by rw[HE.out];simp,J.out⟩
def Gk(x:aC):Prop:=∀(y:aC) (c d:VC) (w:World),RW w c x->RW w d y->
 Calls prog 146 #[c.val,d.val] w fun e w'=>e=.returned (.int .i64 (aU x y))/\Below w.heap.size w w'
theorem iM:∀x,Gk x:=by
 intro x
 induction x using aC.ind with
 | h k n t l d ihl ihd=>
 intro y c e w hx hy;obtain⟨ck,cn,ct,cLA,cln,clc,cDA,cdn,cdc⟩:=c;obtain⟨ek,en,et,eLA,eln,elc,eDA,edn,edc⟩:=e;have hk:ck=k:=hx.open.k;have hn:cn=n:=hx.open.n;have ht:ct=t:=hx.open.t;subst hk hn ht;have hk2:ek=y.k:=hy.open.k;have hn2:en=y.n:=hy.open.n;have ht2:et=y.t:=hy.open.t
 have I0:Hid (jp w ⟨ck,cn,ct,cLA,cln,clc,cDA,cdn,cdc⟩ ⟨ek,en,et,eLA,eln,elc,eDA,edn,edc⟩ ((w.alloc (.cells #[.int .i64 ck,.int .i64 cn,.string ct,.slice cLA cln clc,.slice cDA cdn cdc] 29)).alloc (.cells #[.int .i64 ek,.int .i64 en,.string et,.slice eLA eln elc,.slice eDA edn edc] 29))):=
  qD ⟨(aE.Jq rfl).alloc _,aE.Jq (by simp),((LH _ _).alloc (qL) _).alloc (by simp) _⟩
 cases hne:(ck != ek)
 ·have he:ck=ek:=by simpa using hne
  have hxy:(aC.mk ck cn ct l d).k=y.k:=by rw[<-hk2];exact he
  subst he;rcases se ck with hi|ht' | hl|hd|ho
  ·have HV:Hid (aU (.mk ck cn ct l d) y=cp cn en):=by rw[Hid,xF hxy hi,hn2];rfl
   clear hx hy ihl ihd hk2 hn2 ht2 hxy;rcases hi with rfl|rfl|rfl
   all_goals
    go_enter Oz,Ob;go_wp2_with fail;refine(gw _ _ _).mono ?_;rintro e w' ⟨rfl,rfl⟩;go_wp2_with fail;go_ret;exact⟨by rw[HV.out];rfl,I0.out.bel⟩
  ·have HV:Hid (aU (.mk ck cn ct l d) y=bm ct et):=by rw[Hid,sa hxy ht',ht2];rfl
   have HT:Hid (ct.size<=aF):=hx.open.tsz;clear hx hy ihl ihd hk2 hn2 ht2 hxy;rcases ht' with rfl|rfl|rfl
   all_goals
    go_enter Oz,Ob;go_wp2_with fail;refine(lp _ _ _ HT.out).mono ?_;rintro e w' ⟨rfl,hb⟩;go_wp2_with fail;go_ret;exact⟨by rw[HV.out];rfl,I0.out.bel.Jp hb⟩
  ·have HV:=qD (sb hxy hl);obtain⟨ps,hps,hsl⟩:=hx.sl;obtain⟨qs,hqs,hql⟩:=hy.sl;simp only at hsl hql;have hz1:=hsl.sz;have hz2:=hql.sz;unfold aF at hz1 hz2;have P1:=qD hsl;have P2:=qD hql;have HN1:Hid (cln=l.length):=hx.open.ln;have HN2:Hid (eln=y.l.length):=hy.open.ln;have HS1:Hid (ps.map Prod.snd=l):=hps;have HS2:Hid (qs.map Prod.snd=y.l):=hqs;have IH:=qD ihl;clear hx hy ihl ihd hk2 hn2 ht2 hxy hsl hql hps hqs;subst hl
   all_goals
    go_enter Oz,Ob;go_wp2_with fail
    go_loopw [5] (fun v5 wr=>∃i:Nat,i<=cln/\i<=eln/\v5=.int .i64 i/\cv l y.l=cv (l.drop i) (y.l.drop i)/\jp w ⟨6,cn,ct,cLA,cln,clc,cDA,cdn,cdc⟩ ⟨6,en,et,eLA,eln,elc,eDA,edn,edc⟩ wr) (fun v5 _=>cln-(intOf v5).toNat)
    ·exact⟨0,LQ _,LQ _,rfl,rfl,I0.out⟩
    case round=>
     obtain⟨i,hi1,hi2,rfl,hq,I⟩:=hrel;have HQ:=qD hq;have J:=qD I;have q0:=I.b0.cell 3;have q1:=I.b1.cell 3;simp at q0 q1;clear hq;by_cases hlt:i<cln/\i<eln
     ·obtain⟨hl1,hl2⟩:=hlt;obtain⟨p,hp⟩:∃p,ps[i]?=some p:=⟨_,LI (by have:=P1.out.sr.ln;omega)⟩;obtain⟨q,hq⟩:∃q,qs[i]?=some q:=⟨_,LI (by have:=P2.out.sr.ln;omega)⟩;obtain⟨b1,o1,rfl,_,hu1,hr1⟩:=P1.out.KE hp;obtain⟨b2,o2,rfl,_,hu2,hr2⟩:=P2.out.KE hq;have g1:l[i]?=some p.2:=by rw[<-HS1.out,LV,hp];rfl
      have g2:y.l[i]?=some q.2:=by rw[<-HS2.out,LV,hq];rfl
      have HA:=qD (HQ.out.trans (AV g1 g2));obtain⟨y0,y1,y2,y3,y4⟩:=hu1.keep (I.bel.block b1 hu1.lt);obtain⟨z0,z1,z2,z3,z4⟩:=hu2.keep (I.bel.block b2 hu2.lt);have E0:∀q:BW wr,q.val.cell? ⟨w.heap.size,3,none⟩=some (.slice (some ⟨b1,o1,none⟩) cln clc):=fun q=>q.cell (J.out.b0.cell 3);have E1:∀q:BW wr,q.val.cell? ⟨w.heap.size+1,3,none⟩=some (.slice (some ⟨b2,o2,none⟩) eln elc):=fun q=>q.cell (J.out.b1.cell 3);have Y0:∀k:BW wr,k.val.cell? ⟨b1,o1+i*5,none⟩=some (.int .i64 p.1.k):=fun k=>k.cell y0;have Y1:∀k:BW wr,k.val.cell? ⟨b1,o1+i*5+1,none⟩=some (.int .i64 p.1.n):=fun k=>k.cell y1;have Y2:∀k:BW wr,k.val.cell? ⟨b1,o1+i*5+2,none⟩=some (.string p.1.t):=fun k=>k.cell y2;have Y3:∀k:BW wr,k.val.cell? ⟨b1,o1+i*5+3,none⟩=some (.slice p.1.LA p.1.ln p.1.lc):=fun k=>k.cell y3;have Y4:∀k:BW wr,k.val.cell? ⟨b1,o1+i*5+4,none⟩=some (.slice p.1.DA p.1.dn p.1.dc):=fun k=>k.cell y4;have Z0:∀k:BW wr,k.val.cell? ⟨b2,o2+i*5,none⟩=some (.int .i64 q.1.k):=fun k=>k.cell z0;have Z1:∀k:BW wr,k.val.cell? ⟨b2,o2+i*5+1,none⟩=some (.int .i64 q.1.n):=fun k=>k.cell z1;have Z2:∀k:BW wr,k.val.cell? ⟨b2,o2+i*5+2,none⟩=some (.string q.1.t):=fun k=>k.cell z2;have Z3:∀k:BW wr,k.val.cell? ⟨b2,o2+i*5+3,none⟩=some (.slice q.1.LA q.1.ln q.1.lc):=fun k=>k.cell z3;have Z4:∀k:BW wr,k.val.cell? ⟨b2,o2+i*5+4,none⟩=some (.slice q.1.DA q.1.dn q.1.dc):=fun k=>k.cell z4
      have K1:Hid (∀k:BW wr,Calls prog 146 #[p.1.val,q.1.val] k.val fun e w''=>e=.returned (.int .i64 (aU p.2 q.2))/\∃k:BW wr,w''=k.val):=fun k=>
       Calls.bw (IH.out p.2 (LP g1) q.2 p.1 q.1 k.val ((hr1.step I.bel).step k.below) ((hr2.step I.bel).step k.below))
      have hi0:(0:Int)<=(i:Int):=by omega
      have hi3:(i:Int)<(cln:Int):=by omega
      have hi4:(i:Int)<(eln:Int):=by omega
      clear hp hq hu1 hu2 hr1 hr2 g1 g2 y0 y1 y2 y3 y4 z0 z1 z2 z3 z4 I;go_upto_region 16 with fail
      refine aL (by kernel_rfl) (by kernel_rfl) ?_
      repeat(go_big_quiet_step (with_reducible exact K1.out _))
      refine Ln ?_;rintro _ ⟨kw,rfl⟩;have J2:=qD (J.out.step kw.below);clear E0 E1 Y0 Y1 Y2 Y3 Y4 Z0 Z1 Z2 Z3 Z4 K1 hi0 hi3 hi4;generalize kw.val=w2 at*;cases hc:(aU p.2 q.2 != 0)
      ·have HC:Hid (cv l y.l=cv (l.drop (i+1)) (y.l.drop (i+1))):=by
        have:aU p.2 q.2=0:=by simpa using hc
        rw[Hid,HA.out,LU (by simpa using this)]
       go_wp2_with fail;go_roundw
       ·exact⟨i+1,by omega,by omega,by go_num,HC.out,J2.out⟩
       ·simp[intOf];omega
      ·have HC:Hid (cv l y.l=aU p.2 q.2):=by
        rw[Hid,HA.out,LZ (by simpa using hc)]
       go_wp2_with fail;go_ret;exact⟨by rw[HV.out];show _=Ending.returned (.int .i64 (cv l y.l));rw[HC.out];rfl,J2.out.bel⟩
     ·have HE:=qD (HQ.out.trans (xH (by have:=HN1.out;omega) (by have:=HN2.out;omega) (by have:=HN1.out;have:=HN2.out;omega)));clear I;by_cases hl1:i<cln
      all_goals
       first|have hx9:eln<=i:=by omega|have hx9:cln<=i:=by omega
       go_wp2_with fail;refine(gw _ _ _).mono ?_;rintro e w' ⟨rfl,rfl⟩;go_wp2_with fail;go_ret;exact⟨by rw[HV.out];show _=Ending.returned (.int .i64 (cv l y.l));rw[HE.out,<-HN1.out,<-HN2.out];rfl,J.out.bel⟩
  ·have HV:=qD (xG hxy hd);obtain⟨ps,hps,hsl⟩:=hx.sd;obtain⟨qs,hqs,hql⟩:=hy.sd;simp only at hsl hql;have hz1:=hsl.sz;have hz2:=hql.sz;unfold aF at hz1 hz2;have P1:=qD hsl;have P2:=qD hql;have HN1:Hid (cdn=d.length):=hx.open.dn;have HN2:Hid (edn=y.d.length):=hy.open.dn;have HS1:Hid (ps.map Prod.snd=d):=hps;have HS2:Hid (qs.map Prod.snd=y.d):=hqs;have IH:=qD ihd;clear hx hy ihl ihd hk2 hn2 ht2 hxy hsl hql hps hqs;subst hd
   all_goals
    go_enter Oz,Ob;go_wp2_with fail
    go_loopw [7] (fun v7 wr=>∃i:Nat,i<=cdn/\i<=edn/\v7=.int .i64 i/\cK d y.d=cK (d.drop i) (y.d.drop i)/\jp w ⟨5,cn,ct,cLA,cln,clc,cDA,cdn,cdc⟩ ⟨5,en,et,eLA,eln,elc,eDA,edn,edc⟩ wr) (fun v7 _=>cdn-(intOf v7).toNat)
    ·exact⟨0,LQ _,LQ _,rfl,rfl,I0.out⟩
    case round=>
     obtain⟨i,hi1,hi2,rfl,hq,I⟩:=hrel;have HQ:=qD hq;have J:=qD I;have q0:=I.b0.cell 4;have q1:=I.b1.cell 4;simp at q0 q1;clear hq;by_cases hlt:i<cdn/\i<edn
     ·obtain⟨hl1,hl2⟩:=hlt;obtain⟨p,hp⟩:∃p,ps[i]?=some p:=⟨_,LI (by have:=P1.out.sr.ln;omega)⟩;obtain⟨q,hq⟩:∃q,qs[i]?=some q:=⟨_,LI (by have:=P2.out.sr.ln;omega)⟩;obtain⟨b1,o1,rfl,_,hs1,hu1,hr1⟩:=P1.out.KE hp;obtain⟨b2,o2,rfl,_,hs2,hu2,hr2⟩:=P2.out.KE hq;have g1:d[i]?=some p.2:=by rw[<-HS1.out,LV,hp];rfl
      have g2:y.d[i]?=some q.2:=by rw[<-HS2.out,LV,hq];rfl
      have HA:=qD (HQ.out.trans (AW g1 g2));obtain⟨y0,y1,y2,y3,y4⟩:=hu1.keep (I.bel.block b1 hu1.lt);obtain⟨z0,z1,z2,z3,z4⟩:=hu2.keep (I.bel.block b2 hu2.lt);have n0:=(I.bel.cell (p:=⟨b1,o1+i*6,none⟩) hu1.lt).trans hs1;have n1:=(I.bel.cell (p:=⟨b2,o2+i*6,none⟩) hu2.lt).trans hs2;have N0:∀k:BW wr,k.val.cell? ⟨b1,o1+i*6,none⟩=some (.string p.2.s):=fun k=>k.cell n0;have N1:∀k:BW wr,k.val.cell? ⟨b2,o2+i*6,none⟩=some (.string q.2.s):=fun k=>k.cell n1;have E0:∀q:BW wr,q.val.cell? ⟨w.heap.size,4,none⟩=some (.slice (some ⟨b1,o1,none⟩) cdn cdc):=fun q=>q.cell (J.out.b0.cell 4);have E1:∀q:BW wr,q.val.cell? ⟨w.heap.size+1,4,none⟩=some (.slice (some ⟨b2,o2,none⟩) edn edc):=fun q=>q.cell (J.out.b1.cell 4);have Y0:∀k:BW wr,k.val.cell? ⟨b1,o1+i*6+1,none⟩=some (.int .i64 p.1.k):=fun k=>k.cell y0;have Y1:∀k:BW wr,k.val.cell? ⟨b1,o1+i*6+1+1,none⟩=some (.int .i64 p.1.n):=fun k=>k.cell y1;have Y2:∀k:BW wr,k.val.cell? ⟨b1,o1+i*6+1+2,none⟩=some (.string p.1.t):=fun k=>k.cell y2;have Y3:∀k:BW wr,k.val.cell? ⟨b1,o1+i*6+1+3,none⟩=some (.slice p.1.LA p.1.ln p.1.lc):=fun k=>k.cell y3;have Y4:∀k:BW wr,k.val.cell? ⟨b1,o1+i*6+1+4,none⟩=some (.slice p.1.DA p.1.dn p.1.dc):=fun k=>k.cell y4;have Z0:∀k:BW wr,k.val.cell? ⟨b2,o2+i*6+1,none⟩=some (.int .i64 q.1.k):=fun k=>k.cell z0;have Z1:∀k:BW wr,k.val.cell? ⟨b2,o2+i*6+1+1,none⟩=some (.int .i64 q.1.n):=fun k=>k.cell z1;have Z2:∀k:BW wr,k.val.cell? ⟨b2,o2+i*6+1+2,none⟩=some (.string q.1.t):=fun k=>k.cell z2
      have Z3:∀k:BW wr,k.val.cell? ⟨b2,o2+i*6+1+3,none⟩=some (.slice q.1.LA q.1.ln q.1.lc):=fun k=>k.cell z3;have Z4:∀k:BW wr,k.val.cell? ⟨b2,o2+i*6+1+4,none⟩=some (.slice q.1.DA q.1.dn q.1.dc):=fun k=>k.cell z4
      have KB:Hid (∀(W:World),Below w.heap.size w W->∀k:BW W,Calls prog 146 #[p.1.val,q.1.val] k.val fun e w''=>e=.returned (.int .i64 (aU p.2.v q.2.v))/\∃k:BW W,w''=k.val):=fun W hW k=>
       Calls.bw (IH.out p.2 (LP g1) q.2.v p.1 q.1 k.val ((hr1.step hW).step k.below) ((hr2.step hW).step k.below))
      have hi0:(0:Int)<=(i:Int):=by omega
      have hi3:(i:Int)<(cdn:Int):=by omega
      have hi4:(i:Int)<(edn:Int):=by omega
      clear hq hu1 hu2 hr1 hr2 g1 g2 y0 y1 y2 y3 y4 z0 z1 z2 z3 z4 I hs1 hs2 n0 n1
      have K2:Hid (∀k:BW wr,Calls prog 177 #[.string p.2.s,.string q.2.s] k.val fun e w''=>e=.returned (.int .i64 (bm p.2.s q.2.s))/\∃k:BW wr,w''=k.val):=fun k=>
       Calls.bw (lp _ _ _ (P1.out.ns p (LP hp)))
      clear hp;go_upto_region 24 with fail
      refine aL (by kernel_rfl) (by kernel_rfl) ?_
      repeat(go_big_quiet_step (with_reducible exact K2.out _))
      refine Ln ?_;rintro _ ⟨kw,rfl⟩;clear q0 q1;cases hb:(bm p.2.s q.2.s != 0)
      ·have hb0:(bm p.2.s q.2.s==0)=true:=by simpa using hb
       have HA':Hid (cK d y.d=if aU p.2.v q.2.v≠0 then aU p.2.v q.2.v else cK (d.drop (i+1)) (y.d.drop (i+1))):=by
        have:bm p.2.s q.2.s=0:=by simpa using hb
        rw[Hid,HA.out,LU (by simpa using this)]
       have J1:=qD (J.out.step kw.below);have E0':∀q:BW kw.val,q.val.cell? ⟨w.heap.size,4,none⟩=some (.slice (some ⟨b1,o1,none⟩) cdn cdc):=fun q=>q.cell (E0 kw);have E1':∀q:BW kw.val,q.val.cell? ⟨w.heap.size+1,4,none⟩=some (.slice (some ⟨b2,o2,none⟩) edn edc):=fun q=>q.cell (E1 kw);have Y0':∀k:BW kw.val,k.val.cell? ⟨b1,o1+i*6+1,none⟩=some (.int .i64 p.1.k):=fun k=>k.cell (Y0 kw);have Y1':∀k:BW kw.val,k.val.cell? ⟨b1,o1+i*6+1+1,none⟩=some (.int .i64 p.1.n):=fun k=>k.cell (Y1 kw);have Y2':∀k:BW kw.val,k.val.cell? ⟨b1,o1+i*6+1+2,none⟩=some (.string p.1.t):=fun k=>k.cell (Y2 kw);have Y3':∀k:BW kw.val,k.val.cell? ⟨b1,o1+i*6+1+3,none⟩=some (.slice p.1.LA p.1.ln p.1.lc):=fun k=>k.cell (Y3 kw);have Y4':∀k:BW kw.val,k.val.cell? ⟨b1,o1+i*6+1+4,none⟩=some (.slice p.1.DA p.1.dn p.1.dc):=fun k=>k.cell (Y4 kw);have Z0':∀k:BW kw.val,k.val.cell? ⟨b2,o2+i*6+1,none⟩=some (.int .i64 q.1.k):=fun k=>k.cell (Z0 kw);have Z1':∀k:BW kw.val,k.val.cell? ⟨b2,o2+i*6+1+1,none⟩=some (.int .i64 q.1.n):=fun k=>k.cell (Z1 kw);have Z2':∀k:BW kw.val,k.val.cell? ⟨b2,o2+i*6+1+2,none⟩=some (.string q.1.t):=fun k=>k.cell (Z2 kw);have Z3':∀k:BW kw.val,k.val.cell? ⟨b2,o2+i*6+1+3,none⟩=some (.slice q.1.LA q.1.ln q.1.lc):=fun k=>k.cell (Z3 kw);have Z4':∀k:BW kw.val,k.val.cell? ⟨b2,o2+i*6+1+4,none⟩=some (.slice q.1.DA q.1.dn q.1.dc):=fun k=>k.cell (Z4 kw)
       have K1':Hid (∀k:BW kw.val,Calls prog 146 #[p.1.val,q.1.val] k.val fun e w''=>e=.returned (.int .i64 (aU p.2.v q.2.v))/\∃k:BW kw.val,w''=k.val):=fun k=>
        KB.out kw.val (J1.out.bel) k
       clear E0 E1 Y0 Y1 Y2 Y3 Y4 Z0 Z1 Z2 Z3 Z4 N0 N1 K2;generalize kw.val=w2 at*;go_upto_region 26 with fail
       refine aL (by kernel_rfl) (by kernel_rfl) ?_
       repeat(go_big_quiet_step (with_reducible exact K1'.out _))
       refine Ln ?_;rintro _ ⟨kv,rfl⟩;have J2:=qD (J1.out.step kv.below);clear E0' E1' Y0' Y1' Y2' Y3' Y4' Z0' Z1' Z2' Z3' Z4' K1' hi0 hi3 hi4;generalize kv.val=w3 at*;cases hc:(aU p.2.v q.2.v != 0)
       ·have HC:Hid (cK d y.d=cK (d.drop (i+1)) (y.d.drop (i+1))):=by
         have:aU p.2.v q.2.v=0:=by simpa using hc
         rw[Hid,HA'.out,LU (by simpa using this)]
        go_wp2_with fail;go_roundw
        ·exact⟨i+1,by omega,by omega,by go_num,HC.out,J2.out⟩
        ·simp[intOf];omega
       ·have HC:Hid (cK d y.d=aU p.2.v q.2.v):=by
         rw[Hid,HA'.out,LZ (by simpa using hc)]
        go_wp2_with fail;go_ret;exact⟨by rw[HV.out];show _=Ending.returned (.int .i64 (cK d y.d));rw[HC.out];rfl,J2.out.bel⟩
      ·have hb0:(bm p.2.s q.2.s==0)=false:=by simpa using hb
       have HC:Hid (cK d y.d=bm p.2.s q.2.s):=by
        rw[Hid,HA.out,LZ (by simpa using hb)]
       have J2:=qD (J.out.step kw.below);clear E0 E1 Y0 Y1 Y2 Y3 Y4 Z0 Z1 Z2 Z3 Z4 N0 N1 K2 hi0 hi3 hi4;generalize kw.val=w2 at*;go_wp2_with fail;go_ret;exact⟨by rw[HV.out];show _=Ending.returned (.int .i64 (cK d y.d));rw[HC.out];rfl,J2.out.bel⟩
     ·have HE:=qD (HQ.out.trans (xI (by have:=HN1.out;omega) (by have:=HN2.out;omega) (by have:=HN1.out;have:=HN2.out;omega)));clear I;by_cases hl1:i<cdn
      all_goals
       first|have hx9:edn<=i:=by omega|have hx9:cdn<=i:=by omega
       go_wp2_with fail;refine(gw _ _ _).mono ?_;rintro e w' ⟨rfl,rfl⟩;go_wp2_with fail;go_ret;exact⟨by rw[HV.out];show _=Ending.returned (.int .i64 (cK d y.d));rw[HE.out,<-HN1.out,<-HN2.out];rfl,J.out.bel⟩
  ·obtain⟨h3,h9,h10,h4,h7,h8,h6,h5⟩:=ho;have HV:=qD (mD hxy h3 h9 h10 h4 h7 h8 h6 h5);clear hx hy ihl ihd hk2 hn2 ht2 hxy;have e3:(ck==3)=false:=by simpa using h3
   have e9:(ck==9)=false:=by simpa using h9
   have e10:(ck==10)=false:=by simpa using h10
   have e4:(ck==4)=false:=by simpa using h4
   have e7:(ck==7)=false:=by simpa using h7
   have e8:(ck==8)=false:=by simpa using h8
   have e6:(ck==6)=false:=by simpa using h6
   have e5:(ck==5)=false:=by simpa using h5
   clear h3 h9 h10 h4 h7 h8 h6 h5;go_enter Oz,Ob;go_wp2_with fail;go_ret;exact⟨by rw[HV.out];rfl,I0.out.bel⟩
 ·have HV:Hid (aU (.mk ck cn ct l d) y=cp ck ek):=by
   have:ck≠ek:=by simpa using hne
   rw[Hid,cU (by rw[<-hk2];exact this),<-hk2];rfl
  clear hx hy ihl ihd hk2 hn2 ht2;go_enter Oz,Ob;go_wp2_with fail;refine(gw _ _ _).mono ?_;rintro e w' ⟨rfl,rfl⟩;go_wp2_with fail;go_ret;exact⟨by rw[HV.out];rfl,I0.out.bel⟩
theorem bS.bw{w:World}{b off:Nat}{v:VC}(h:bS w b off v):(∀kk:BW w,kk.val.cell? ⟨b,off,none⟩=some (.int .i64 v.k))/\(∀kk:BW w,kk.val.cell? ⟨b,off+1,none⟩=some (.int .i64 v.n))/\(∀kk:BW w,kk.val.cell? ⟨b,off+2,none⟩=some (.string v.t))/\
 (∀kk:BW w,kk.val.cell? ⟨b,off+3,none⟩=some (.slice v.LA v.ln v.lc))/\(∀kk:BW w,kk.val.cell? ⟨b,off+4,none⟩=some (.slice v.DA v.dn v.dc)):=
 ⟨fun kk=>kk.cell h.1,fun kk=>kk.cell h.2.1,fun kk=>kk.cell h.2.2.1,fun kk=>kk.cell h.2.2.2.1,fun kk=>kk.cell h.2.2.2.2⟩
theorem Gl(x y:Iv):ix x y=(!(aU x.lo y.lo != 0)&&(!(aU x.hi y.hi != 0)&&((x.li==y.li)&&(x.hin==y.hin)))):=by
 unfold ix;simp only[bne,Bool.not_not];generalize (x.li==y.li)=a;generalize (x.hin==y.hin)=b;generalize (aU x.lo y.lo==0)=c;generalize (aU x.hi y.hi==0)=d
 revert a b c d
 decide
theorem yI(xs ys:List PI)(A B:Option Addr)(n c m d:Nat)(w:World)(h:SI w A n c xs)(h':SI w B m d ys):
 Calls prog 213 #[.slice A n c,.slice B m d] w fun e w'=>e=.returned (.bool (bX (xs.map ar) (ys.map ar)))/\Below w.heap.size w w':=by
 have hz:n<=140737488355328:=by have:=h.sz;unfold aF at this;omega
 have hk:m<=140737488355328:=by have:=h'.sz;unfold aF at this;omega
 have H:=qD h;have H':=qD h';clear h h';by_cases hnk:n=m
 ·subst hnk;go_enter func213,ntmps213;go_upto_region 4 with fail
  go_loopw [5] (fun v wr=>∃i:Nat,i<=n/\v=.int .i64 i/\bX (xs.map ar) (ys.map ar)=bX ((xs.map ar).drop i) ((ys.map ar).drop i)/\Below w.heap.size w wr) (fun v _=>n-(intOf v).toNat)
  ·exact⟨0,LQ _,rfl,rfl,LH _ _⟩
  case round=>
   obtain⟨i,hi,rfl,ha,hbel⟩:=hrel;have HA:=qD ha;have HB:=qD hbel;clear ha hbel;by_cases hlt:i<n
   ·obtain⟨p,hp⟩:∃p,xs[i]?=some p:=⟨_,LI (by have:=H.out.sr.ln;omega)⟩;obtain⟨q,hq⟩:∃q,ys[i]?=some q:=⟨_,LI (by have:=H'.out.sr.ln;omega)⟩;obtain⟨b,off,rfl,hb,hat,hok⟩:=H.out.at hp;obtain⟨b',off',rfl,hb',hat',hok'⟩:=H'.out.at hq;have HX:=qD (pK (l:=xs.map ar) (m:=ys.map ar) (i:=i) (x:=ar p) (y:=ar q) (by rw[LV,hp];rfl) (by rw[LV,hq];rfl));obtain⟨u1,u2,u3,u4⟩:=hat.keep (HB.out.block b hb);obtain⟨v1,v2,v3,v4⟩:=hat'.keep (HB.out.block b' hb');obtain⟨a0,a1,a2,a3,a4⟩:=u1.bw;obtain⟨b0,b1,b2,b3,b4⟩:=u2.bw;obtain⟨c0,c1,c2,c3,c4⟩:=v1.bw;obtain⟨d0,d1,d2,d3,d4⟩:=v2.bw;have a5:∀kk:BW wr,kk.val.cell? ⟨b,off+i*12+10,none⟩=some (.bool p.2.1):=fun kk=>kk.cell u3;have a6:∀kk:BW wr,kk.val.cell? ⟨b,off+i*12+11,none⟩=some (.bool p.2.2):=fun kk=>kk.cell u4;have c5:∀kk:BW wr,kk.val.cell? ⟨b',off'+i*12+10,none⟩=some (.bool q.2.1):=fun kk=>kk.cell v3;have c6:∀kk:BW wr,kk.val.cell? ⟨b',off'+i*12+11,none⟩=some (.bool q.2.2):=fun kk=>kk.cell v4
    have K1:Hid (∀kk:BW wr,Calls prog 146 #[p.1.1.1.val,q.1.1.1.val] kk.val fun e w''=>e=.returned (.int .i64 (aU p.1.1.2 q.1.1.2))/\∃kk:BW wr,w''=kk.val):=fun kk=>
     Calls.bw (iM _ _ _ _ _ (hok.step (HB.out.Jp kk.below)).1 (hok'.step (HB.out.Jp kk.below)).1)
    have K2:Hid (∀kk:BW wr,Calls prog 146 #[p.1.2.1.val,q.1.2.1.val] kk.val fun e w''=>e=.returned (.int .i64 (aU p.1.2.2 q.1.2.2))/\∃kk:BW wr,w''=kk.val):=fun kk=>
     Calls.bw (iM _ _ _ _ _ (hok.step (HB.out.Jp kk.below)).2 (hok'.step (HB.out.Jp kk.below)).2)
    have HS:Hid (ix (ar p) (ar q)=(!(aU p.1.1.2 q.1.1.2 != 0)&&(!(aU p.1.2.2 q.1.2.2 != 0)&&((p.2.1==q.2.1)&&(p.2.2==q.2.2))))):=qD (Gl _ _);clear hat hat' hok hok' hp hq u1 u2 u3 u4 v1 v2 v3 v4;obtain⟨⟨⟨x1,X1⟩,⟨x2,X2⟩⟩,⟨f1,f2⟩⟩:=p;obtain⟨⟨⟨y1,Y1⟩,⟨y2,Y2⟩⟩,⟨g1,g2⟩⟩:=q;simp only at a0 a1 a2 a3 a4 a5 a6 b0 b1 b2 b3 b4 c0 c1 c2 c3 c4 c5 c6 d0 d1 d2 d3 d4 K1 K2 HS;generalize aU X1 Y1=e1 at*;generalize aU X2 Y2=e2 at*;have i0:(0:Int)<=(i:Int):=by omega
    have i1:(i:Int)<(n:Int):=by omega
    go_upto_region 6 with fail
    obtain⟨z1,hz1⟩:∃z,(e1 != 0)=z:=⟨_,rfl⟩;obtain⟨z2,hz2⟩:∃z,(e2 != 0)=z:=⟨_,rfl⟩;obtain⟨t1,ht1⟩:∃z,(f1==g1)=z:=⟨_,rfl⟩;obtain⟨t2,ht2⟩:∃z,(f2==g2)=z:=⟨_,rfl⟩;rw[hz1,hz2,ht1,ht2] at HS;rcases(show z1=true\/(z1=false/\z2=true)\/(z1=false/\z2=false/\t1=false)\/(z1=false/\z2=false/\t1=true/\t2=false)\/(z1=false/\z2=false/\t1=true/\t2=true) by clear hz1 hz2 ht1 ht2 HS;revert z1 z2 t1 t2;decide) with rfl|⟨rfl,rfl⟩|⟨rfl,rfl,rfl⟩|⟨rfl,rfl,rfl,rfl⟩|⟨rfl,rfl,rfl,rfl⟩
    all_goals
     refine aL (by kernel_rfl) (by kernel_rfl) ?_
     repeat(go_big_quiet_step (first|(go_at_call 146;with_reducible exact K1.out _)|(go_at_call 146;with_reducible exact K2.out _)))
     refine Ln ?_;rintro _ ⟨kw,rfl⟩;have HK:=qD kw.below;generalize kw.val=w5 at*;clear a0 a1 a2 a3 a4 a5 a6 b0 b1 b2 b3 b4 c0 c1 c2 c3 c4 c5 c6 d0 d1 d2 d3 d4 K1 K2;go_wp2_with fail
     first
      | (go_ret;exact⟨by rw[HA.out,HX.out,HS.out];rfl,HB.out.Jp HK.out⟩)
      | (go_roundw
         ·exact⟨i+1,by omega,by go_num,by rw[HA.out,HX.out,HS.out];rfl,HB.out.Jp HK.out⟩
         ·simp[intOf];omega)
   ·have HF:Hid (bX (xs.map ar) (ys.map ar)=true):=by rw[Hid,HA.out];exact nr (by have:=H.out.sr.ln;simp;omega) (by have:=H'.out.sr.ln;simp;omega)
    go_wp2_with fail;go_ret;exact⟨by rw[HF.out];rfl,HB.out⟩
 ·have HF:Hid (bX (xs.map ar) (ys.map ar)=false):=kK (by have:=H.out.sr.ln;have:=H'.out.sr.ln;simp;omega);have hnk':((n:Int) != (m:Int))=true:=by simp;omega
  go_enter func213,ntmps213;go_wp2_with fail;go_ret;exact⟨by rw[HF.out];rfl,LH _ _⟩
theorem pX{S:cA->Prop}{nf:List (cA×cA)}(xs:List PI)(A:Option Addr)(n c:Nat)(w:World)(h:SI w A n c xs)(hx:xs.map ar=nf.map dr)(hn:fg S nf):
 Calls prog 172 #[.slice A n c] w fun e w'=>e=.returned (.bool (dd S))/\Below w.heap.size w w':=by
 have H:=qD h;have HX:=qD hx;have HN:=qD hn;clear h hx hn;go_enter func172,ntmps172;go_wp2_with fail;refine(fA w).mono ?_;rintro e w1 ⟨A1,m1,c1,ys,n1,rfl,hy,hn1,_,hsi,hb⟩;have HB:=qD hb
 have HS:Hid (bX (xs.map ar) (ys.map ar)=dd S):=by
  have e1:n1=[((eL,false),(ff,true))]:=hn1.unique mH fun _ _=>Iff.rfl;rw[Hid,HX.out,hy,Lg,kL (fun s hs=>(HN.out.1.ne s hs).2) (fun s hs=>(hn1.1.ne s hs).2),e1];exact uf HN.out
 have HC:=qD (yI xs ys A A1 n c m1 c1 w1 (H.out.step hb) hsi);rw[HS.out] at HC;clear hb hy hn1 hsi HS;go_wp2_with fail;refine HC.out.mono ?_;rintro e w2 ⟨rfl,hb⟩;have CE:=qD (HB.out.Jp hb);clear hb;go_wp2_with fail;go_ret;exact⟨rfl,CE.out⟩
theorem jX{ops:Array Oper}{rest:List Oper}{o:Oper}{a:Act}{w W:World}{Q:Exit->Act->World->Prop}{B g g0:Nat}{p:PI}{c:VC}{t0:TypeId}{cs0:Array Value}(hgd:o.guard=none)(x y:Operand)(ho:o.op=.store 29 x y)(hx:a.eval x=.pointer (some ⟨g,5,none⟩))(hy:a.eval y=.agg c.arr)(h1:aE w g 84 (aM p))(h0:aE w g0 t0 cs0)(hb:Below B W w)(n0:g0≠g)(hB:B<=g)(v:aC)(h:∀w6,aE w6 g 84 (aM ((p.1.1,(c,v)),p.2))->aE w6 g0 t0 cs0->Below B W w6->wpList prog ops Q rest (a.put o.dst undef) w6):wpList prog ops Q (o::rest) a w:=
 OV hgd 29 x y ho g 5 c.arr hx hy (kJ h1 (by simp)) (by kernel_rfl) (by simp[Value.oneCell']) (h _ (Cw h1 c v) (iI h0 n0 _ _) (iJ hb hB _ _))
def yJ(k:Int):VC:=if k=3 then cu 3 (-9223372036854775808) empty else if k=8 then cu 8 0 cZ else cu k 0 empty
theorem iN(k:Int)(w:World):Calls prog 256 #[.int .i64 k] w fun e w'=>e=.returned (yJ k).val/\Below w.heap.size w w':=by
 unfold yJ;by_cases h3:k=3
 ·subst h3;rw[LZ rfl];go_enter func256,ntmps256;go_wp2_with fail;exact Lp (dX rfl _ _ _ rfl _ (cu 3 (-9223372036854775808) empty) (bS.Jr (aE.new _ _ _))) rfl ⟨rfl,(LH _ _).alloc (qL) _⟩
 by_cases h8:k=8
 ·subst h8;rw[LU (by decide),LZ rfl];go_enter func256,ntmps256;go_wp2_with fail;exact Lp (dX rfl _ _ _ rfl _ (cu 8 0 cZ) (bS.Jr (aE.new _ _ _))) rfl ⟨rfl,(LH _ _).alloc (qL) _⟩
 have h3':(k==3)=false:=by simpa using h3
 have h8':(k==8)=false:=by simpa using h8
 rw[LU h3,LU h8];clear h3 h8;go_enter func256,ntmps256;go_wp2_with fail;exact Lp (dX rfl _ _ _ rfl _ (cu k 0 empty) (bS.Jr (aE.new _ _ _))) rfl ⟨rfl,(LH _ _).alloc (qL) _⟩
theorem lq(k:Int)(w:World)(h:1<=k/\k<=11)(h6:k≠6):Calls prog 217 #[.int .i64 k] w fun e w'=>e=.returned (cR (ay k))/\Below w.heap.size w w':=by
 have hk:k=1\/k=2\/k=3\/k=4\/k=5\/k=7\/k=8\/k=9\/k=10\/k=11:=by omega
 clear h h6;have HK:=qD hk;clear hk;obtain⟨L,hL⟩:∃L,L=yJ k:=⟨_,rfl⟩;have K1:Hid (∀w,Calls prog 256 #[.int .i64 k] w fun e w'=>e=.returned L.val/\Below w.heap.size w w'):=by rw[hL];exact qD (iN k)
 have HL:=qD hL;clear hL;have B0:Hid (aE (w.alloc (.cells (aM zI) 84)) w.heap.size 84 (aM zI)):=aE.Jq rfl;have BE:=qD ((LH w.heap.size w).alloc (qL) (Obj.cells (aM zI) 84));go_enter func217,ntmps217;go_upto_region 1 with fail
 change Code.wp _ _ _ _ (w.alloc (.cells (aM zI) 84));generalize w.alloc (.cells (aM zI) 84)=wa at*;go_wp2_with fail;refine(K1.out wa).mono ?_;rintro e w1 ⟨rfl,hb⟩;replace B0:=qD (B0.out.step hb);replace BE:=qD (BE.out.Jp hb);clear hb;go_wp2_with fail;refine(K1.out w1).mono ?_;rintro e w2 ⟨rfl,hb⟩;replace B0:=qD (B0.out.step hb);replace BE:=qD (BE.out.Jp hb);clear hb K1;go_upto_region 2 with fail
 change Code.wp _ _ _ _ (w2.alloc (.cells (aM (((L,cT k),(L,cT k)),(true,true))) 84));have B1:Hid (aE (w2.alloc (.cells (aM (((L,cT k),(L,cT k)),(true,true))) 84)) w2.heap.size 84 (aM (((L,cT k),(L,cT k)),(true,true)))):=aE.Jq rfl;have HNE:Hid (w.heap.size<w2.heap.size):=qD B0.out.lt;replace B0:=qD (B0.out.alloc (.cells (aM (((L,cT k),(L,cT k)),(true,true))) 84));replace BE:=qD (BE.out.alloc BE.out.size (Obj.cells (aM (((L,cT k),(L,cT k)),(true,true))) 84));generalize w2.alloc (.cells (aM (((L,cT k),(L,cT k)),(true,true))) 84)=wb at*;generalize w2.heap.size=g at*;obtain rfl:=HL.out;clear HL;obtain⟨R,hR⟩:∃R:Array Value,R=aM (ay k):=⟨_,rfl⟩;have HR:Hid (cR (ay k)=.agg R):=by rw[hR];exact qD rfl
 have hRK:R.size=12:=by rw[hR];rfl
 have HRK:=qD hRK;have HALL:Hid (R.all (·.oneCell')=true):=by rw[Hid,hR];exact pL _
 have HR2:=qD hR;have z1:=B1.out.frozen;clear hR hRK;have hk:=HK.out;clear HK;have hne:=HNE.out;rcases hk with rfl|rfl|rfl|rfl|rfl|rfl|rfl|rfl|rfl|rfl
 ·obtain⟨⟨a0,a1,a2,a3,a4⟩,⟨b0,b1,b2,b3,b4⟩,b5,b6⟩:=cw.Jr B1.out;simp only[LL] at a0 a1 a2 a3 a4 b0 b1 b2 b3 b4 b5 b6
  go_wp2_with (first
   | ((with_reducible show wpList _ _ _ (⟨_,.load 84 _,_,_,_,_⟩::_) _ _);refine bY ?_;intro w5 hw5;have C1:Hid (aE w5 g 84 R):=(by rw[Hid,hw5];refine aE.Jw (cs:=R) ?_;first|exact⟨_,B1.out,by rw[HR2.out];rfl⟩|exact⟨_,(aE.Js B1.out _ _),by rw[HR2.out];rfl⟩|exact⟨_,(aE.Js (aE.Js B1.out _ _) _ _),by rw[HR2.out];rfl⟩);have C0:Hid (aE w5 w.heap.size 84 (aM zI)):=(by rw[Hid,hw5];(repeat' refine aE.Jz ?_ (by show w.heap.size≠g;omega) _);exact B0.out);have CE:Hid (Below w.heap.size w w5):=(by rw[Hid,hw5];(repeat' refine MR ?_ (by show w.heap.size<=g;omega) _);exact BE.out);have RG:Hid (w5.rangeAt g 0 R.toList):=aj C1.out _ _ fun j v hj=>(by rw[LL,<-hj,Lk]);clear hw5 a0 a1 a2 a3 a4 b0 b1 b2 b3 b4 b5 b6 B0 B1 BE z1;refine aG rfl 84 _ rfl g 0 rfl _ _ RG.out Lu rfl (by rw[Lv,HRK.out];kernel_rfl) ?_)
   | ((with_reducible show wpList _ _ _ (⟨_,.store 84 _ _,_,_,_,_⟩::_) _ _);refine MF rfl 84 _ _ rfl w.heap.size R rfl rfl 84 _ C0.out (by rw[HRK.out];kernel_rfl) (by rw[HRK.out];rfl) HALL.out ?_))
  exact Lp (cN rfl _ _ rfl _ R HRK.out (bq C0.out R)) rfl ⟨by rw[HR.out],br CE.out (qL) _⟩
 ·obtain⟨⟨a0,a1,a2,a3,a4⟩,⟨b0,b1,b2,b3,b4⟩,b5,b6⟩:=cw.Jr B1.out;simp only[LL] at a0 a1 a2 a3 a4 b0 b1 b2 b3 b4 b5 b6
  go_wp2_with (first
   | ((with_reducible show wpList _ _ _ (⟨_,.load 84 _,_,_,_,_⟩::_) _ _);refine bY ?_;intro w5 hw5;have C1:Hid (aE w5 g 84 R):=(by rw[Hid,hw5];refine aE.Jw (cs:=R) ?_;first|exact⟨_,B1.out,by rw[HR2.out];rfl⟩|exact⟨_,(aE.Js B1.out _ _),by rw[HR2.out];rfl⟩|exact⟨_,(aE.Js (aE.Js B1.out _ _) _ _),by rw[HR2.out];rfl⟩);have C0:Hid (aE w5 w.heap.size 84 (aM zI)):=(by rw[Hid,hw5];(repeat' refine aE.Jz ?_ (by show w.heap.size≠g;omega) _);exact B0.out);have CE:Hid (Below w.heap.size w w5):=(by rw[Hid,hw5];(repeat' refine MR ?_ (by show w.heap.size<=g;omega) _);exact BE.out);have RG:Hid (w5.rangeAt g 0 R.toList):=aj C1.out _ _ fun j v hj=>(by rw[LL,<-hj,Lk]);clear hw5 a0 a1 a2 a3 a4 b0 b1 b2 b3 b4 b5 b6 B0 B1 BE z1;refine aG rfl 84 _ rfl g 0 rfl _ _ RG.out Lu rfl (by rw[Lv,HRK.out];kernel_rfl) ?_)
   | ((with_reducible show wpList _ _ _ (⟨_,.store 84 _ _,_,_,_,_⟩::_) _ _);refine MF rfl 84 _ _ rfl w.heap.size R rfl rfl 84 _ C0.out (by rw[HRK.out];kernel_rfl) (by rw[HRK.out];rfl) HALL.out ?_))
  exact Lp (cN rfl _ _ rfl _ R HRK.out (bq C0.out R)) rfl ⟨by rw[HR.out],br CE.out (qL) _⟩
 ·obtain⟨⟨a0,a1,a2,a3,a4⟩,⟨b0,b1,b2,b3,b4⟩,b5,b6⟩:=cw.Jr B1.out;simp only[LL] at a0 a1 a2 a3 a4 b0 b1 b2 b3 b4 b5 b6
  go_wp2_with (first
   | ((with_reducible show wpList _ _ _ (⟨_,.load 84 _,_,_,_,_⟩::_) _ _);refine bY ?_;intro w5 hw5;have C1:Hid (aE w5 g 84 R):=(by rw[Hid,hw5];refine aE.Jw (cs:=R) ?_;first|exact⟨_,B1.out,by rw[HR2.out];rfl⟩|exact⟨_,(aE.Js B1.out _ _),by rw[HR2.out];rfl⟩|exact⟨_,(aE.Js (aE.Js B1.out _ _) _ _),by rw[HR2.out];rfl⟩);have C0:Hid (aE w5 w.heap.size 84 (aM zI)):=(by rw[Hid,hw5];(repeat' refine aE.Jz ?_ (by show w.heap.size≠g;omega) _);exact B0.out);have CE:Hid (Below w.heap.size w w5):=(by rw[Hid,hw5];(repeat' refine MR ?_ (by show w.heap.size<=g;omega) _);exact BE.out);have RG:Hid (w5.rangeAt g 0 R.toList):=aj C1.out _ _ fun j v hj=>(by rw[LL,<-hj,Lk]);clear hw5 a0 a1 a2 a3 a4 b0 b1 b2 b3 b4 b5 b6 B0 B1 BE z1;refine aG rfl 84 _ rfl g 0 rfl _ _ RG.out Lu rfl (by rw[Lv,HRK.out];kernel_rfl) ?_)
   | ((with_reducible show wpList _ _ _ (⟨_,.store 84 _ _,_,_,_,_⟩::_) _ _);refine MF rfl 84 _ _ rfl w.heap.size R rfl rfl 84 _ C0.out (by rw[HRK.out];kernel_rfl) (by rw[HRK.out];rfl) HALL.out ?_))
  exact Lp (cN rfl _ _ rfl _ R HRK.out (bq C0.out R)) rfl ⟨by rw[HR.out],br CE.out (qL) _⟩
 ·obtain⟨⟨a0,a1,a2,a3,a4⟩,⟨b0,b1,b2,b3,b4⟩,b5,b6⟩:=cw.Jr B1.out;simp only[LL] at a0 a1 a2 a3 a4 b0 b1 b2 b3 b4 b5 b6
  go_wp2_with (first
   | (go_at_call 256;refine(iN _ _).mono ?_;rintro e w3 ⟨rfl,hb⟩;clear a0 a1 a2 a3 a4 b0 b1 b2 b3 b4 b5 b6 z1;replace B0:=qD (B0.out.step hb);replace B1:=qD (B1.out.step hb);replace BE:=qD (BE.out.Jp hb);clear hb;have z1:=B1.out.frozen;obtain⟨⟨a0,a1,a2,a3,a4⟩,⟨b0,b1,b2,b3,b4⟩,b5,b6⟩:=cw.Jr B1.out;simp only[LL] at a0 a1 a2 a3 a4 b0 b1 b2 b3 b4 b5 b6)
   | ((with_reducible show wpList _ _ _ (⟨_,.store 29 _ _,_,_,_,_⟩::_) _ _);refine jX (c:=yJ 5) rfl _ _ rfl rfl rfl B1.out B0.out BE.out (by omega) (by omega) (cT 5) ?_;intro w6 hB1 hB0 hBE;clear a0 a1 a2 a3 a4 b0 b1 b2 b3 b4 b5 b6 z1;clear B0 B1 BE;have B0:=qD hB0;have B1:=qD hB1;have BE:=qD hBE;clear hB0 hB1 hBE;have z1:=B1.out.frozen;obtain⟨⟨a0,a1,a2,a3,a4⟩,⟨b0,b1,b2,b3,b4⟩,b5,b6⟩:=cw.Jr B1.out;simp only[LL] at a0 a1 a2 a3 a4 b0 b1 b2 b3 b4 b5 b6)
   | ((with_reducible show wpList _ _ _ (⟨_,.load 84 _,_,_,_,_⟩::_) _ _);refine bY ?_;intro w5 hw5;have C1:Hid (aE w5 g 84 R):=(by rw[Hid,hw5];refine aE.Jw (cs:=R) ?_;first|exact⟨_,B1.out,by rw[HR2.out];rfl⟩|exact⟨_,(aE.Js B1.out _ _),by rw[HR2.out];rfl⟩|exact⟨_,(aE.Js (aE.Js B1.out _ _) _ _),by rw[HR2.out];rfl⟩);have C0:Hid (aE w5 w.heap.size 84 (aM zI)):=(by rw[Hid,hw5];(repeat' refine aE.Jz ?_ (by show w.heap.size≠g;omega) _);exact B0.out);have CE:Hid (Below w.heap.size w w5):=(by rw[Hid,hw5];(repeat' refine MR ?_ (by show w.heap.size<=g;omega) _);exact BE.out);have RG:Hid (w5.rangeAt g 0 R.toList):=aj C1.out _ _ fun j v hj=>(by rw[LL,<-hj,Lk]);clear hw5 a0 a1 a2 a3 a4 b0 b1 b2 b3 b4 b5 b6 B0 B1 BE z1;refine aG rfl 84 _ rfl g 0 rfl _ _ RG.out Lu rfl (by rw[Lv,HRK.out];kernel_rfl) ?_)
   | ((with_reducible show wpList _ _ _ (⟨_,.store 84 _ _,_,_,_,_⟩::_) _ _);refine MF rfl 84 _ _ rfl w.heap.size R rfl rfl 84 _ C0.out (by rw[HRK.out];kernel_rfl) (by rw[HRK.out];rfl) HALL.out ?_))
  exact Lp (cN rfl _ _ rfl _ R HRK.out (bq C0.out R)) rfl ⟨by rw[HR.out],br CE.out (qL) _⟩
 ·obtain⟨⟨a0,a1,a2,a3,a4⟩,⟨b0,b1,b2,b3,b4⟩,b5,b6⟩:=cw.Jr B1.out;simp only[LL] at a0 a1 a2 a3 a4 b0 b1 b2 b3 b4 b5 b6
  go_wp2_with (first
   | (go_at_call 256;refine(iN _ _).mono ?_;rintro e w3 ⟨rfl,hb⟩;clear a0 a1 a2 a3 a4 b0 b1 b2 b3 b4 b5 b6 z1;replace B0:=qD (B0.out.step hb);replace B1:=qD (B1.out.step hb);replace BE:=qD (BE.out.Jp hb);clear hb;have z1:=B1.out.frozen;obtain⟨⟨a0,a1,a2,a3,a4⟩,⟨b0,b1,b2,b3,b4⟩,b5,b6⟩:=cw.Jr B1.out;simp only[LL] at a0 a1 a2 a3 a4 b0 b1 b2 b3 b4 b5 b6)
   | ((with_reducible show wpList _ _ _ (⟨_,.store 29 _ _,_,_,_,_⟩::_) _ _);refine jX (c:=yJ 6) rfl _ _ rfl rfl rfl B1.out B0.out BE.out (by omega) (by omega) (cT 6) ?_;intro w6 hB1 hB0 hBE;clear a0 a1 a2 a3 a4 b0 b1 b2 b3 b4 b5 b6 z1;clear B0 B1 BE;have B0:=qD hB0;have B1:=qD hB1;have BE:=qD hBE;clear hB0 hB1 hBE;have z1:=B1.out.frozen;obtain⟨⟨a0,a1,a2,a3,a4⟩,⟨b0,b1,b2,b3,b4⟩,b5,b6⟩:=cw.Jr B1.out;simp only[LL] at a0 a1 a2 a3 a4 b0 b1 b2 b3 b4 b5 b6)
   | ((with_reducible show wpList _ _ _ (⟨_,.load 84 _,_,_,_,_⟩::_) _ _);refine bY ?_;intro w5 hw5;have C1:Hid (aE w5 g 84 R):=(by rw[Hid,hw5];refine aE.Jw (cs:=R) ?_;first|exact⟨_,B1.out,by rw[HR2.out];rfl⟩|exact⟨_,(aE.Js B1.out _ _),by rw[HR2.out];rfl⟩|exact⟨_,(aE.Js (aE.Js B1.out _ _) _ _),by rw[HR2.out];rfl⟩);have C0:Hid (aE w5 w.heap.size 84 (aM zI)):=(by rw[Hid,hw5];(repeat' refine aE.Jz ?_ (by show w.heap.size≠g;omega) _);exact B0.out);have CE:Hid (Below w.heap.size w w5):=(by rw[Hid,hw5];(repeat' refine MR ?_ (by show w.heap.size<=g;omega) _);exact BE.out);have RG:Hid (w5.rangeAt g 0 R.toList):=aj C1.out _ _ fun j v hj=>(by rw[LL,<-hj,Lk]);clear hw5 a0 a1 a2 a3 a4 b0 b1 b2 b3 b4 b5 b6 B0 B1 BE z1;refine aG rfl 84 _ rfl g 0 rfl _ _ RG.out Lu rfl (by rw[Lv,HRK.out];kernel_rfl) ?_)
   | ((with_reducible show wpList _ _ _ (⟨_,.store 84 _ _,_,_,_,_⟩::_) _ _);refine MF rfl 84 _ _ rfl w.heap.size R rfl rfl 84 _ C0.out (by rw[HRK.out];kernel_rfl) (by rw[HRK.out];rfl) HALL.out ?_))
  exact Lp (cN rfl _ _ rfl _ R HRK.out (bq C0.out R)) rfl ⟨by rw[HR.out],br CE.out (qL) _⟩
 ·obtain⟨⟨a0,a1,a2,a3,a4⟩,⟨b0,b1,b2,b3,b4⟩,b5,b6⟩:=cw.Jr B1.out;simp only[LL] at a0 a1 a2 a3 a4 b0 b1 b2 b3 b4 b5 b6
  go_wp2_with (first
   | (go_at_call 256;refine(iN _ _).mono ?_;rintro e w3 ⟨rfl,hb⟩;clear a0 a1 a2 a3 a4 b0 b1 b2 b3 b4 b5 b6 z1;replace B0:=qD (B0.out.step hb);replace B1:=qD (B1.out.step hb);replace BE:=qD (BE.out.Jp hb);clear hb;have z1:=B1.out.frozen;obtain⟨⟨a0,a1,a2,a3,a4⟩,⟨b0,b1,b2,b3,b4⟩,b5,b6⟩:=cw.Jr B1.out;simp only[LL] at a0 a1 a2 a3 a4 b0 b1 b2 b3 b4 b5 b6)
   | ((with_reducible show wpList _ _ _ (⟨_,.store 29 _ _,_,_,_,_⟩::_) _ _);refine jX (c:=yJ 8) rfl _ _ rfl rfl rfl B1.out B0.out BE.out (by omega) (by omega) (cT 8) ?_;intro w6 hB1 hB0 hBE;clear a0 a1 a2 a3 a4 b0 b1 b2 b3 b4 b5 b6 z1;clear B0 B1 BE;have B0:=qD hB0;have B1:=qD hB1;have BE:=qD hBE;clear hB0 hB1 hBE;have z1:=B1.out.frozen;obtain⟨⟨a0,a1,a2,a3,a4⟩,⟨b0,b1,b2,b3,b4⟩,b5,b6⟩:=cw.Jr B1.out;simp only[LL] at a0 a1 a2 a3 a4 b0 b1 b2 b3 b4 b5 b6)
   | ((with_reducible show wpList _ _ _ (⟨_,.load 84 _,_,_,_,_⟩::_) _ _);refine bY ?_;intro w5 hw5;have C1:Hid (aE w5 g 84 R):=(by rw[Hid,hw5];refine aE.Jw (cs:=R) ?_;first|exact⟨_,B1.out,by rw[HR2.out];rfl⟩|exact⟨_,(aE.Js B1.out _ _),by rw[HR2.out];rfl⟩|exact⟨_,(aE.Js (aE.Js B1.out _ _) _ _),by rw[HR2.out];rfl⟩);have C0:Hid (aE w5 w.heap.size 84 (aM zI)):=(by rw[Hid,hw5];(repeat' refine aE.Jz ?_ (by show w.heap.size≠g;omega) _);exact B0.out);have CE:Hid (Below w.heap.size w w5):=(by rw[Hid,hw5];(repeat' refine MR ?_ (by show w.heap.size<=g;omega) _);exact BE.out);have RG:Hid (w5.rangeAt g 0 R.toList):=aj C1.out _ _ fun j v hj=>(by rw[LL,<-hj,Lk]);clear hw5 a0 a1 a2 a3 a4 b0 b1 b2 b3 b4 b5 b6 B0 B1 BE z1;refine aG rfl 84 _ rfl g 0 rfl _ _ RG.out Lu rfl (by rw[Lv,HRK.out];kernel_rfl) ?_)
   | ((with_reducible show wpList _ _ _ (⟨_,.store 84 _ _,_,_,_,_⟩::_) _ _);refine MF rfl 84 _ _ rfl w.heap.size R rfl rfl 84 _ C0.out (by rw[HRK.out];kernel_rfl) (by rw[HRK.out];rfl) HALL.out ?_))
  exact Lp (cN rfl _ _ rfl _ R HRK.out (bq C0.out R)) rfl ⟨by rw[HR.out],br CE.out (qL) _⟩
 ·obtain⟨⟨a0,a1,a2,a3,a4⟩,⟨b0,b1,b2,b3,b4⟩,b5,b6⟩:=cw.Jr B1.out;simp only[LL] at a0 a1 a2 a3 a4 b0 b1 b2 b3 b4 b5 b6
  go_wp2_with (first
   | (go_at_call 256;refine(iN _ _).mono ?_;rintro e w3 ⟨rfl,hb⟩;clear a0 a1 a2 a3 a4 b0 b1 b2 b3 b4 b5 b6 z1;replace B0:=qD (B0.out.step hb);replace B1:=qD (B1.out.step hb);replace BE:=qD (BE.out.Jp hb);clear hb;have z1:=B1.out.frozen;obtain⟨⟨a0,a1,a2,a3,a4⟩,⟨b0,b1,b2,b3,b4⟩,b5,b6⟩:=cw.Jr B1.out;simp only[LL] at a0 a1 a2 a3 a4 b0 b1 b2 b3 b4 b5 b6)
   | ((with_reducible show wpList _ _ _ (⟨_,.store 29 _ _,_,_,_,_⟩::_) _ _);refine jX (c:=yJ 9) rfl _ _ rfl rfl rfl B1.out B0.out BE.out (by omega) (by omega) (cT 9) ?_;intro w6 hB1 hB0 hBE;clear a0 a1 a2 a3 a4 b0 b1 b2 b3 b4 b5 b6 z1;clear B0 B1 BE;have B0:=qD hB0;have B1:=qD hB1;have BE:=qD hBE;clear hB0 hB1 hBE;have z1:=B1.out.frozen;obtain⟨⟨a0,a1,a2,a3,a4⟩,⟨b0,b1,b2,b3,b4⟩,b5,b6⟩:=cw.Jr B1.out;simp only[LL] at a0 a1 a2 a3 a4 b0 b1 b2 b3 b4 b5 b6)
   | ((with_reducible show wpList _ _ _ (⟨_,.load 84 _,_,_,_,_⟩::_) _ _);refine bY ?_;intro w5 hw5;have C1:Hid (aE w5 g 84 R):=(by rw[Hid,hw5];refine aE.Jw (cs:=R) ?_;first|exact⟨_,B1.out,by rw[HR2.out];rfl⟩|exact⟨_,(aE.Js B1.out _ _),by rw[HR2.out];rfl⟩|exact⟨_,(aE.Js (aE.Js B1.out _ _) _ _),by rw[HR2.out];rfl⟩);have C0:Hid (aE w5 w.heap.size 84 (aM zI)):=(by rw[Hid,hw5];(repeat' refine aE.Jz ?_ (by show w.heap.size≠g;omega) _);exact B0.out);have CE:Hid (Below w.heap.size w w5):=(by rw[Hid,hw5];(repeat' refine MR ?_ (by show w.heap.size<=g;omega) _);exact BE.out);have RG:Hid (w5.rangeAt g 0 R.toList):=aj C1.out _ _ fun j v hj=>(by rw[LL,<-hj,Lk]);clear hw5 a0 a1 a2 a3 a4 b0 b1 b2 b3 b4 b5 b6 B0 B1 BE z1;refine aG rfl 84 _ rfl g 0 rfl _ _ RG.out Lu rfl (by rw[Lv,HRK.out];kernel_rfl) ?_)
   | ((with_reducible show wpList _ _ _ (⟨_,.store 84 _ _,_,_,_,_⟩::_) _ _);refine MF rfl 84 _ _ rfl w.heap.size R rfl rfl 84 _ C0.out (by rw[HRK.out];kernel_rfl) (by rw[HRK.out];rfl) HALL.out ?_))
  exact Lp (cN rfl _ _ rfl _ R HRK.out (bq C0.out R)) rfl ⟨by rw[HR.out],br CE.out (qL) _⟩
 ·obtain⟨⟨a0,a1,a2,a3,a4⟩,⟨b0,b1,b2,b3,b4⟩,b5,b6⟩:=cw.Jr B1.out;simp only[LL] at a0 a1 a2 a3 a4 b0 b1 b2 b3 b4 b5 b6
  go_wp2_with (first
   | ((with_reducible show wpList _ _ _ (⟨_,.load 84 _,_,_,_,_⟩::_) _ _);refine bY ?_;intro w5 hw5;have C1:Hid (aE w5 g 84 R):=(by rw[Hid,hw5];refine aE.Jw (cs:=R) ?_;first|exact⟨_,B1.out,by rw[HR2.out];rfl⟩|exact⟨_,(aE.Js B1.out _ _),by rw[HR2.out];rfl⟩|exact⟨_,(aE.Js (aE.Js B1.out _ _) _ _),by rw[HR2.out];rfl⟩);have C0:Hid (aE w5 w.heap.size 84 (aM zI)):=(by rw[Hid,hw5];(repeat' refine aE.Jz ?_ (by show w.heap.size≠g;omega) _);exact B0.out);have CE:Hid (Below w.heap.size w w5):=(by rw[Hid,hw5];(repeat' refine MR ?_ (by show w.heap.size<=g;omega) _);exact BE.out);have RG:Hid (w5.rangeAt g 0 R.toList):=aj C1.out _ _ fun j v hj=>(by rw[LL,<-hj,Lk]);clear hw5 a0 a1 a2 a3 a4 b0 b1 b2 b3 b4 b5 b6 B0 B1 BE z1;refine aG rfl 84 _ rfl g 0 rfl _ _ RG.out Lu rfl (by rw[Lv,HRK.out];kernel_rfl) ?_)
   | ((with_reducible show wpList _ _ _ (⟨_,.store 84 _ _,_,_,_,_⟩::_) _ _);refine MF rfl 84 _ _ rfl w.heap.size R rfl rfl 84 _ C0.out (by rw[HRK.out];kernel_rfl) (by rw[HRK.out];rfl) HALL.out ?_))
  exact Lp (cN rfl _ _ rfl _ R HRK.out (bq C0.out R)) rfl ⟨by rw[HR.out],br CE.out (qL) _⟩
 ·obtain⟨⟨a0,a1,a2,a3,a4⟩,⟨b0,b1,b2,b3,b4⟩,b5,b6⟩:=cw.Jr B1.out;simp only[LL] at a0 a1 a2 a3 a4 b0 b1 b2 b3 b4 b5 b6
  go_wp2_with (first
   | ((with_reducible show wpList _ _ _ (⟨_,.load 84 _,_,_,_,_⟩::_) _ _);refine bY ?_;intro w5 hw5;have C1:Hid (aE w5 g 84 R):=(by rw[Hid,hw5];refine aE.Jw (cs:=R) ?_;first|exact⟨_,B1.out,by rw[HR2.out];rfl⟩|exact⟨_,(aE.Js B1.out _ _),by rw[HR2.out];rfl⟩|exact⟨_,(aE.Js (aE.Js B1.out _ _) _ _),by rw[HR2.out];rfl⟩);have C0:Hid (aE w5 w.heap.size 84 (aM zI)):=(by rw[Hid,hw5];(repeat' refine aE.Jz ?_ (by show w.heap.size≠g;omega) _);exact B0.out);have CE:Hid (Below w.heap.size w w5):=(by rw[Hid,hw5];(repeat' refine MR ?_ (by show w.heap.size<=g;omega) _);exact BE.out);have RG:Hid (w5.rangeAt g 0 R.toList):=aj C1.out _ _ fun j v hj=>(by rw[LL,<-hj,Lk]);clear hw5 a0 a1 a2 a3 a4 b0 b1 b2 b3 b4 b5 b6 B0 B1 BE z1;refine aG rfl 84 _ rfl g 0 rfl _ _ RG.out Lu rfl (by rw[Lv,HRK.out];kernel_rfl) ?_)
   | ((with_reducible show wpList _ _ _ (⟨_,.store 84 _ _,_,_,_,_⟩::_) _ _);refine MF rfl 84 _ _ rfl w.heap.size R rfl rfl 84 _ C0.out (by rw[HRK.out];kernel_rfl) (by rw[HRK.out];rfl) HALL.out ?_))
  exact Lp (cN rfl _ _ rfl _ R HRK.out (bq C0.out R)) rfl ⟨by rw[HR.out],br CE.out (qL) _⟩
 ·obtain⟨⟨a0,a1,a2,a3,a4⟩,⟨b0,b1,b2,b3,b4⟩,b5,b6⟩:=cw.Jr B1.out;simp only[LL] at a0 a1 a2 a3 a4 b0 b1 b2 b3 b4 b5 b6
  go_wp2_with (first
   | ((with_reducible show wpList _ _ _ (⟨_,.load 84 _,_,_,_,_⟩::_) _ _);refine bY ?_;intro w5 hw5;have C1:Hid (aE w5 g 84 R):=(by rw[Hid,hw5];refine aE.Jw (cs:=R) ?_;first|exact⟨_,B1.out,by rw[HR2.out];rfl⟩|exact⟨_,(aE.Js B1.out _ _),by rw[HR2.out];rfl⟩|exact⟨_,(aE.Js (aE.Js B1.out _ _) _ _),by rw[HR2.out];rfl⟩);have C0:Hid (aE w5 w.heap.size 84 (aM zI)):=(by rw[Hid,hw5];(repeat' refine aE.Jz ?_ (by show w.heap.size≠g;omega) _);exact B0.out);have CE:Hid (Below w.heap.size w w5):=(by rw[Hid,hw5];(repeat' refine MR ?_ (by show w.heap.size<=g;omega) _);exact BE.out);have RG:Hid (w5.rangeAt g 0 R.toList):=aj C1.out _ _ fun j v hj=>(by rw[LL,<-hj,Lk]);clear hw5 a0 a1 a2 a3 a4 b0 b1 b2 b3 b4 b5 b6 B0 B1 BE z1;refine aG rfl 84 _ rfl g 0 rfl _ _ RG.out Lu rfl (by rw[Lv,HRK.out];kernel_rfl) ?_)
   | ((with_reducible show wpList _ _ _ (⟨_,.store 84 _ _,_,_,_,_⟩::_) _ _);refine MF rfl 84 _ _ rfl w.heap.size R rfl rfl 84 _ C0.out (by rw[HRK.out];kernel_rfl) (by rw[HRK.out];rfl) HALL.out ?_))
  exact Lp (cN rfl _ _ rfl _ R HRK.out (bq C0.out R)) rfl ⟨by rw[HR.out],br CE.out (qL) _⟩
theorem oU(p:ao)(w:World)(ho:p.op=4\/p.op=5\/p.op=6\/p.op=7)(h:1<=p.arg.1.k/\p.arg.1.k<=11)(h6:p.arg.1.k≠6):
 Calls prog 215 #[am p] w fun e w'=>e=.returned (cR (kM p.op (ay p.arg.1.k) p.arg))/\Below w.heap.size w w':=by
 obtain⟨q,hq⟩:∃q,q=ay p.arg.1.k:=⟨_,rfl⟩;have K1:Hid (∀w,Calls prog 217 #[.int .i64 p.arg.1.k] w fun e w'=>e=.returned (cR q)/\Below w.heap.size w w'):=by rw[hq];exact qD fun w=>lq _ w h h6
 rw[<-hq];clear hq h h6;have B0:Hid (aE ((w.alloc (.cells (aH p) 38)).alloc (.cells (aM zI) 84)) w.heap.size 38 (aH p)):=(aE.Jq rfl).alloc _;have B2:Hid (aE ((w.alloc (.cells (aH p) 38)).alloc (.cells (aM zI) 84)) (w.heap.size+1) 84 (aM zI)):=aE.Jq (by simp);have BE:Hid (Below w.heap.size w ((w.alloc (.cells (aH p) 38)).alloc (.cells (aM zI) 84))):=((LH _ _).alloc (qL) _).alloc (by simp) _;go_enter func215,ntmps215;go_upto_region 1 with fail
 change Code.wp _ _ _ _ ((w.alloc (.cells (aH p) 38)).alloc (.cells (aM zI) 84));generalize ((w.alloc (.cells (aH p) 38)).alloc (.cells (aM zI) 84))=wa at*;have f2:=(aX B0.out) 0 _ rfl;simp only[Nat.reduceAdd] at f2;go_wp2_with fail;refine(K1.out wa).mono ?_;rintro e w1 ⟨rfl,hb⟩;replace B0:=qD (B0.out.step hb);replace B2:=qD (B2.out.step hb);replace BE:=qD (BE.out.Jp hb);clear hb K1 f2;go_upto_region 2 with fail
 change Code.wp _ _ _ _ (w1.alloc (.cells (aM q) 84));have B1:Hid (aE (w1.alloc (.cells (aM q) 84)) w1.heap.size 84 (aM q)):=aE.Jq rfl;have hne:w.heap.size+1<w1.heap.size:=B2.out.lt;replace B0:=qD (B0.out.alloc (.cells (aM q) 84));replace B2:=qD (B2.out.alloc (.cells (aM q) 84));replace BE:=qD (BE.out.alloc BE.out.size (Obj.cells (aM q) 84));generalize w1.alloc (.cells (aM q) 84)=wb at*;generalize w1.heap.size=g at*;obtain⟨d0,_,_,_,_,_,_,_⟩:=aS B0.out;have f2:=(aX B0.out) 0 _ rfl;have f3:=(aX B0.out) 1 _ rfl;have f4:=(aX B0.out) 2 _ rfl;have f5:=(aX B0.out) 3 _ rfl;have f6:=(aX B0.out) 4 _ rfl;simp only[Nat.reduceAdd] at f2 f3 f4 f5 f6;obtain⟨⟨a0,a1,a2,a3,a4⟩,⟨b0,b1,b2,b3,b4⟩,b5,b6⟩:=cw.Jr B1.out;simp only[LL] at a0 a1 a2 a3 a4 b0 b1 b2 b3 b4 b5 b6;have z1:=B1.out.frozen;have RA:=qD (aX B0.out);obtain⟨op,hop⟩:∃op,op=p.op:=⟨_,rfl⟩;rw[<-hop] at d0 ho;have HOP:=qD hop;clear hop;obtain⟨R,hR⟩:∃R:Array Value,R=aM (kM op q p.arg):=⟨_,rfl⟩;have HR2:=qD hR;have HRK:Hid (R.size=12):=by rw[hR];exact qD rfl
 have HALL:Hid (R.all (·.oneCell')=true):=by rw[Hid,hR];exact pL _
 have HAG:Hid (cR (kM op q p.arg)=.agg R):=by rw[hR];exact qD rfl
 clear hR;rcases ho with rfl|rfl|rfl|rfl
 all_goals
  go_wp2_with (first
   | ((with_reducible show wpList _ _ _ (⟨_,.load 84 _,_,_,_,_⟩::_) _ _);refine bY ?_;intro w5 hw5
      have C0:Hid (aE w5 g 84 R):=(by
       rw[Hid,hw5]
       refine aE.Jw (cs:=R) ?_
       exact⟨_,(aE.Js (aE.Js (aE.Js (aE.Js (aE.Js (aE.Js B1.out _ _) _ _) _ _) _ _) _ _) _ _),by rw[HR2.out];rfl⟩)
      have C2:Hid (aE w5 (w.heap.size+1) 84 (aM zI)):=(by
       rw[Hid,hw5]
       repeat' refine aE.Jz ?_ (by show w.heap.size+1≠g;omega) _
       exact B2.out)
      have CE:Hid (Below w.heap.size w w5):=(by
       rw[Hid,hw5]
       repeat' refine MR ?_ (by show w.heap.size<=g;omega) _
       exact BE.out)
      have RG:Hid (w5.rangeAt g 0 R.toList):=aj C0.out _ _ fun j v hj=>(by rw[LL,<-hj,Lk])
      clear hw5 a0 a1 a2 a3 a4 b0 b1 b2 b3 b4 b5 b6 B0 B1 B2 BE z1 f2 f3 f4 f5 f6 d0
      refine aG rfl 84 _ rfl g 0 rfl _ _ RG.out Lu rfl (by rw[Lv,HRK.out];kernel_rfl) ?_)
   | ((with_reducible show wpList _ _ _ (⟨_,.store 84 _ _,_,_,_,_⟩::_) _ _);refine MF rfl 84 _ _ rfl (w.heap.size+1) R rfl rfl 84 _ C2.out (by rw[HRK.out];kernel_rfl) (by rw[HRK.out];rfl) HALL.out ?_))
  exact Lp (cN rfl _ _ rfl _ R HRK.out (bq C2.out R)) rfl ⟨by rw[<-HOP.out,HAG.out],br CE.out (by omega) _⟩
theorem lr(s:ByteArray)(w:World)(hz:s.size<=aF):Calls prog 179 #[.string s] w fun e w'=>e=eu s/\Below w.heap.size w w':=by
 have HZ:Hid (s.size<=aF):=qD hz;clear hz;go_enter func179,ntmps179;go_upto_region 2 with fail
 go_loopw [4] (fun v wr=>∃n:Nat,v=.int .i64 n/\n<=s.size/\cY s n=cY s s.size/\wr=w) (fun v _=>match v with | .int _ n=>n.toNat|_=>0)
 ·exact⟨s.size,rfl,qL,rfl,rfl⟩
 case round=>
  obtain⟨n,rfl,hn,hs,rfl⟩:=hrel;have HS:=qD hs;clear hs;cases n with
  | zero=>
   go_wp2_with fail;go_ret2;exact⟨(nv (by rw[<-HS.out];rfl)).symm,LH _ _⟩
  | succ m=>
   have HM:Hid (m<s.size):=qD hn;have HW:Hid (wrap64 (m:Int)=(m:Int)):=by have:=HZ.out;unfold aF at this;exact qD (by unfold wrap64;omega)
   obtain ⟨x, hx⟩ : ∃ x : Int, ((s[m]'HM.out).toNat : Int) = x := ⟨_, rfl⟩;by_cases h255:x=255
   ·subst h255;have HX:=qD (rW HM.out (by omega));have hw:=HW.out;go_wp2_with fail;refine⟨⟨m,by rw[hw],by omega,by rw[<-HX.out];exact HS.out,trivial⟩,?_⟩;rw[hw];show(m:Int).toNat<((m+1:Nat):Int).toNat;omega
   ·have HX:=qD (ul HM.out (by omega));have h1:(x==255)=false:=by simpa using h255
    clear h255;have hw:=HW.out;have h3:(x != 255)=true:=by simpa using h1
    go_wp2_with fail;obtain⟨z,hz⟩:∃z:Int,z=(x+1)%256:=⟨_,rfl⟩
    have hcv:(convert 116 9 (.slice (some ⟨wr.heap.size,0,none⟩) 1 1)).run prog ((wr.alloc (.cells #[.int .u8 ((x+1)%256)] 5)).drew)=.ok (.string (strOfNums [z])) ((wr.alloc (.cells #[.int .u8 ((x+1)%256)] 5)).drew):=by
     rw[<-hz];refine NP (P:=prog) _ 116 5 MM NC wr.heap.size 0 1 1 [z] rfl (fun i hi=>?_) 9 MB;obtain rfl:i=0:=by omega
     exact(aE.new wr 5 #[.int .u8 z]).drew.cell 0
    obtain⟨Z,hZ⟩:∃Z,Z=strOfNums [z]:=⟨_,rfl⟩;rw[<-hZ] at hcv;have hZs:Z.size=1:=by rw[hZ,MQ];rfl
    have hcat:∀w2:World,(Op.stringOp .add (s.extract 0 m) Z).run prog w2=.ok (.string (s.extract 0 m++Z)) w2:=fun w2=>run_string_add_sum _ _ _ (by
     have h1:=HZ.out
     have h2:=HM.out
     unfold aF at h1
     rw[hZs,Ow]
     omega)
    clear hZs;have HZ2:=qD hZ;have HZZ:=qD hz;clear hz hZ;have HX1:=qD hx
    go_region
    all_goals
     go_wp2_with fail;go_ret2;refine⟨?_,((LH _ _).alloc (qL) _).drew⟩;have hb := (s[m]'HM.out).toNat_lt;have hx1:=HX1.out
     have hat : s.data[m]?.getD 0 = s[m]'HM.out := by
      rw[NY (show m<s.data.size from HM.out)];rfl
     rw[nw (show cY s s.size=m+1 by rw[<-HS.out];exact HX.out),hat,HZ2.out,HZZ.out];have hne:x≠255:=by simpa using h1
     have e : strOfNums [(x + 1) % 256] = ⟨#[s[m]'HM.out + 1]⟩ := by
      apply Mw;apply Mq.1;rw[OA];simp only[Mb,NR]
      have : UInt8.ofNat ((x + 1) % 256).toNat = s[m]'HM.out + 1 := by
       apply Mr.1;rw[Of,QK];have:(1:UInt8).toNat=1:=rfl;rw[this];omega
      rw[this]
     rw[e];rfl
theorem SI.reads{w:World}{A:Option Addr}{n c:Nat}{xs:List PI}(h:SI w A n c xs):cP w w.heap.size 12 A n (aJ ax xs):=by
 refine⟨by rw[bP bR,h.sr.ln],fun hp=>?_⟩;obtain⟨b,off,e,hb,hel⟩:=h.sr.el hp;cases e;refine⟨_,rfl,hb,fun j u hu=>?_⟩;have hj:=(LJ.1 hu).1;rw[bP bR] at hj;obtain⟨a,v,g1,g2,g3⟩:=flat_at' bR (by omega) xs j hj;have:=hel (j/12) a g1 (j%12) v g2;rw[bn];rw[g3] at hu;cases hu;rw[show off+j=off+j/12*12+j%12 by omega];exact this
end Go.Proofs.YthfahkaadbdicaaGreatDoor
