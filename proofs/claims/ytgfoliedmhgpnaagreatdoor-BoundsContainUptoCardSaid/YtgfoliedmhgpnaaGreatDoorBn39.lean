/- A part of the proof. -/
import Derived.Test.YtgfoliedmhgpnaaGreatDoorBn23
import Derived.Test.YtgfoliedmhgpnaaGreatDoorBn20
set_option maxRecDepth 100000
set_option maxHeartbeats 16000000
set_option linter.unusedSimpArgs false
open Go.Proofs.Tryz
open ByteArray (empty)
namespace Go.Proofs.YtgfoliedmhgpnaaGreatDoor
open Go.RowKit
section
variable {n size:Nat} {x:Int} {w w':World}
def iC(p:aX)(w:World)(e:Ending)(w':World):Prop:=∃n:Int,e=.returned (.int .i64 n)/\(n=0->kS p)/\Below w.heap.size w w'
theorem iC.no{p:aX}{w w':World}{n:Int}(h:n≠0)(hb:Below w.heap.size w w'):iC p w (.returned (.int .i64 n)) w':=⟨n,rfl,fun k=>absurd k h,hb⟩
end
structure Hs(p:aX):Prop where
 op:1<=p.op/\p.op<=24
 kids:cU p=true
 nums:ar p=true
 arg:cp p.op=true->aL p.arg.2=true/\(dT p.op=true->p.arg.1.k=4)
 args:cJ p.op=true->∀x∈p.args.xs,aL x.2=true
 path:dS p.op=true->p.path.xs.length<=16
section
variable {l r:List ByteArray} {b c k i n off j m q size:Nat} {op a x d:Int} {s:ByteArray} {w w' W:World} {F:Nat -> Prop} {e t:TypeId} {P:Program} {v:Value}
theorem zj{l:List ByteArray}(h:dk l=true):l.length<=16:=by
 unfold dk at h;simp at h;omega
theorem Hs.JO{p:aX}{w:World}(h:Hs p)(W:Dn w p)(hk:p.op≠24->∀k∈p.kids,kS k):kS p:=by
 refine vd.shut ⟨fun ho=>?_,fun ho=>?_,fun ho=>?_,fun ho=>?_,fun ho=>?_,fun ho=>?_,h.op,hk⟩
 ·have e:cp p.op=true:=by
   unfold cp dT;rcases ho with⟨h1,h2⟩|ho|ho|ho
   ·simp[h1,h2]
   ·rw[ho];rfl
   ·rw[ho];rfl
   ·rw[ho];rfl
  exact(h.arg e).1
 ·have e:cJ p.op=true:=by rcases ho with ho|ho|ho<;>rw[ho]<;>rfl
  exact h.args e
 ·have e:cp p.op=true:=by rcases ho with ho|ho|ho<;>rw[ho]<;>rfl
  have e':dT p.op=true:=by rcases ho with ho|ho|ho<;>rw[ho]<;>rfl
  rw[<-W.arg.open.k];exact(h.arg e).2 e'
 ·have:=h.nums;unfold ar at this;rw[KU (by omega),Kb ho] at this;simpa using this
 ·have:=h.kids;unfold cU at this;have hn:=W.sr.ln;intro e;rw[e] at hn;rcases ho with ho|ho|ho
  ·rw[Kb (by omega)] at this;simp at hn this;omega
  ·rw[KU (by omega),Kb (by omega)] at this;simp at hn this;omega
  ·rw[KU (by omega),Kb (by omega)] at this;simp at hn this;omega
 ·exact h.path (by unfold dS;simp[ho.1,ho.2])
theorem wZ(p:aX):∀(el:Bool) (w:World),WP w p->cY w->Calls prog 26 #[aW p,.bool el] w (iC p w):=by
 induction p using aX.ind with
 | h p ih=>
 intro el w hw hT;have HT:=qD hT;have W:=qD hw.open;have IH:=qD ih;have hkz:p.kn<=140737488355328:=by have:=W.out.ksz;unfold aH at this;omega
 have hpz:p.path.n<=140737488355328:=by have:=W.out.path.sz;unfold aH at this;omega
 have haz:p.args.n<=1048576:=W.out.few;clear ih hw hT;have B0:Hid (aG (w.alloc (.cells (aD p) 38)) w.heap.size 38 (aD p)):=aG.Ii rfl;have BE:=qD ((Ju w.heap.size w).alloc (qL) (Obj.cells (aD p) 38));go_enter func26,ntmps26;go_upto_region 1 with fail
 change Code.wp _ _ _ _ (w.alloc (.cells (aD p) 38));generalize w.alloc (.cells (aD p) 38)=wa at*;obtain⟨d0,d1,d2,_,d7,d8,d9,d24⟩:=aR B0.out;have RF:=qD (ae B0.out)
 go_cut [37] (fun v wx=>∃b:Bool,v=.bool b/\(b=false->(cU p=true/\ar p=true)/\1<=p.op/\p.op<=24)/\aG wx w.heap.size 38 (aD p)/\Below w.heap.size w wx)
 case first=>
  cases o1:decide (p.op<1)<;>cases o2:decide (24<p.op)<;>cases o3:((p.args.n:Int)==0)
  all_goals go_wp2_with (first
   | ((with_reducible show wpList _ _ _ (⟨_,.load 38 _,_,_,_,_⟩::_) _ _);refine aE rfl 38 _ rfl w.heap.size 0 rfl _ _ RF.out KH rfl (by kernel_rfl) ?_)
   | (go_at_call 77;refine(Cc p _).mono ?_;rintro e w1 ⟨rfl,hb⟩;replace B0:=qD (B0.out.step hb);replace BE:=qD (BE.out.Ih hb);replace RF:=qD (ae B0.out);clear hb d0 d1 d2 d7 d8 d9 d24;obtain⟨d0,d1,d2,_,d7,d8,d9,d24⟩:=aR B0.out;cases hKB:cU p)
   | (go_at_call 78;refine(iJ _ _).mono ?_;rintro e w1 ⟨rfl,rfl⟩;obtain⟨bb,hbb⟩:∃b,b=cJ p.op:=⟨_,rfl⟩;rw[<-hbb];clear hbb;cases bb)
   | (go_at_call 79;refine(ut p _).mono ?_;rintro e w1 ⟨rfl,hb⟩;replace B0:=qD (B0.out.step hb);replace BE:=qD (BE.out.Ih hb);clear hb;cases hNB:ar p))
  all_goals go_meet
  all_goals first
   | exact⟨true,rfl,fun h=>by simp at h,B0.out,BE.out⟩
   | exact⟨false,rfl,fun _=>⟨⟨hKB,hNB⟩,by simpa using o1,by simpa using o2⟩,B0.out,BE.out⟩
   | exact⟨_,rfl,fun _=>⟨⟨hKB,hNB⟩,by simpa using o1,by simpa using o2⟩,B0.out,BE.out⟩
 case rest=>
  obtain⟨b,rfl,hF,hB0,hBE⟩:=hcut;clear B0 BE RF d0 d1 d2 d7 d8 d9 d24;have B0:=qD hB0;have BE:=qD hBE;have F1:=qD hF;obtain⟨d0,d1,d2,_,d7,d8,d9,d24⟩:=aR B0.out;clear hB0 hBE hF;cases b
  ·go_upto_region 3 with fail
   have HP:=qD (W.out.path.step BE.out);have HPN:=qD W.out.path.sr.ln
   go_cut [56] (fun v wx=>∃b:Bool,v=.bool b/\(b=false->dS p.op=true->p.path.xs.length<=16)/\wx=wc)
   case first=>
    cases el
    all_goals go_wp2_with (first
     | (go_at_call 80;refine(pT _ _).mono ?_;rintro e w1 ⟨rfl,rfl⟩;cases hOB:dS p.op)
     | (go_at_call 20;refine(kq p.path.xs _ _ _ _ HP.out).mono ?_;rintro e w1 ⟨rfl,rfl⟩;cases hPB:dk p.path.xs))
    all_goals go_meet
    all_goals first
     | exact⟨true,rfl,fun h=>by simp at h,rfl⟩
     | exact⟨false,rfl,fun _ h=>absurd (hOB.symm.trans h) (by decide),rfl⟩
     | exact⟨false,rfl,fun _ _=>zj hPB,rfl⟩
     | exact⟨_,rfl,fun h _=>by have:=HPN.out;simp at h;omega,rfl⟩
   case rest=>
    obtain⟨b,rfl,hF,rfl⟩:=hcut;have F3:=qD hF;clear hF HPN;cases b
    ·go_upto_region 5 with fail
     have RA:=qD (bV B0.out);have HA:=qD (W.out.arg.step BE.out)
     go_cut [76] (fun v wx=>∃b:Bool,v=.bool b/\(b=false->cp p.op=true->aL p.arg.2=true/\(dT p.op=true->p.arg.1.k=4))/\aG wx w.heap.size 38 (aD p)/\Below w.heap.size w wx)
     case first=>
      go_wp2_with (first
       | ((with_reducible show wpList _ _ _ (⟨_,.load 29 _,_,_,_,_⟩::_) _ _);refine aE rfl 29 _ rfl w.heap.size 2 rfl _ _ RA.out LU rfl (by kernel_rfl) ?_)
       | (go_at_call 81;refine(pU _ _).mono ?_;rintro e w1 ⟨rfl,rfl⟩;cases hAB:cp p.op)
       | (go_at_call 82;refine(ny _ _).mono ?_;rintro e w1 ⟨rfl,rfl⟩;cases hTB:dT p.op)
       | (go_at_call 8;refine(cL p.arg.2 p.arg.1 _ HA.out).mono ?_;rintro e w1 ⟨rfl,hb⟩;replace B0:=qD (B0.out.step hb);replace BE:=qD (BE.out.Ih hb);clear hb d0 d1 d2 d7 d8 d9 d24;obtain⟨d0,d1,d2,_,d7,d8,d9,d24⟩:=aR B0.out;cases hVB:aL p.arg.2))
      all_goals go_meet
      all_goals first
       | exact⟨true,rfl,fun h=>by simp at h,B0.out,BE.out⟩
       | exact⟨false,rfl,fun _ h=>absurd (hAB.symm.trans h) (by decide),B0.out,BE.out⟩
       | exact⟨false,rfl,fun _ _=>⟨hVB,fun h=>absurd (hTB.symm.trans h) (by decide)⟩,B0.out,BE.out⟩
       | exact⟨_,rfl,fun h _=>⟨hVB,fun _=>by simpa using h⟩,B0.out,BE.out⟩
     case rest=>
      obtain⟨b,rfl,hF,hB0,hBE⟩:=hcut;clear B0 BE d0 d1 d2 d7 d8 d9 d24 RA HA HP;have B0:=qD hB0;have BE:=qD hBE;have F5:=qD hF;obtain⟨d0,d1,d2,_,d7,d8,d9,d24⟩:=aR B0.out;clear hB0 hBE hF;cases b
      ·go_upto_block 0 with fail
       go_cut [5] (fun _ wx=>(cJ p.op=true->∀x∈p.args.xs,aL x.2=true)/\aG wx w.heap.size 38 (aD p)/\Below w.heap.size w wx)
       case first=>
        go_wp2_with fail
        go_loopw [5] (fun v wr=>∃i:Nat,i<=p.args.n/\v=.int .i64 i/\(∀(j:Nat) (x:PV),j<i->p.args.xs[j]?=some x->aL x.2=true)/\aG wr w.heap.size 38 (aD p)/\Below w.heap.size w wr) (fun v _=>p.args.n-(intOf v).toNat)
        ·exact⟨0,KD _,rfl,fun j _ h=>absurd h (by omega),B0.out,BE.out⟩
        case round=>
         obtain⟨i,hi,rfl,hall,hB0,hBE⟩:=hrel;clear B0 BE d0 d1 d2 d7 d8 d9 d24;have B0:=qD hB0;have BE:=qD hBE;have HALL:=qD hall;obtain⟨d0,d1,d2,_,d7,d8,d9,d24⟩:=aR B0.out;clear hB0 hBE hall;by_cases hlt:i<p.args.n
         ·cases hSB:cJ p.op
          ·go_wp2_with (go_at_call 78;refine(iJ _ _).mono ?_;rintro e w1 ⟨rfl,rfl⟩;rw[hSB]);go_meet;exact⟨fun h=>absurd (hSB.symm.trans h) (by decide),B0.out,BE.out⟩
          ·obtain⟨b,off,x,hA,hb,hx,hm,hrg⟩:=W.out.args.sr.row hlt;have HX:=qD hx;have RG:=qD (bD hrg BE.out hb);have HV:=qD ((W.out.args.rv x hm).step BE.out);rw[hA] at d7;have HA:=qD hA;clear hrg hA hx
           go_wp2_with (first
            | (go_at_call 78;refine(iJ _ _).mono ?_;rintro e w1 ⟨rfl,rfl⟩;rw[hSB])
            | ((with_reducible show wpList _ _ _ (⟨_,.load 29 _,_,_,_,_⟩::_) _ _);refine aE rfl 29 _ rfl b (off+i*5) rfl _ _ RG.out LU rfl (by kernel_rfl) ?_)
            | (go_at_call 8;refine(cL x.2 x.1 _ HV.out).mono ?_;rintro e w1 ⟨rfl,hbb⟩;replace B0:=qD (B0.out.step hbb);replace BE:=qD (BE.out.Ih hbb);clear hbb;cases hVB:aL x.2))
           ·go_ret;exact iC.no (by decide) BE.out
           ·go_roundw
            case rel=>
             refine⟨i+1,by omega,by go_num,fun j y hj hy=>?_,B0.out,BE.out⟩;by_cases hji:j=i
             ·subst hji;obtain rfl:y=x:=by have:=hy.symm.trans HX.out;simpa using this
              exact hVB
             ·exact HALL.out j y (by omega) hy
            case measure=>simp[intOf];omega
         ·obtain rfl:i=p.args.n:=by omega
          go_wp2_with fail;go_meet;refine⟨fun _ x hx=>?_,B0.out,BE.out⟩;obtain⟨j,hj,rfl⟩:=List.getElem_of_mem hx;exact HALL.out j _ (by have:=W.out.args.sr.ln;omega) (Jv hj)
       case rest=>
        obtain⟨hF,hB0,hBE⟩:=hcut;clear B0 BE d0 d1 d2 d7 d8 d9 d24;have B0:=qD hB0;have BE:=qD hBE;have FA:=qD hF;have ND:Hid (Hs p):=qD ⟨(F1.out rfl).2,(F1.out rfl).1.1,(F1.out rfl).1.2,F5.out rfl,FA.out,F3.out rfl⟩;obtain⟨d0,d1,d2,_,d7,d8,d9,d24⟩:=aR B0.out;clear hB0 hBE hF FA F1 F5 F3
        go_upto_if 98 with fail
        go_cut [6] (fun _ wx=>aG wx w.heap.size 38 (aD p)/\Below w.heap.size w wx)
        case first=>
         cases h18:(p.op==18)
         ·go_wp2_with fail;go_meet;exact⟨B0.out,BE.out⟩
         ·have RS:=qD (jO B0.out);have HSH:=qD (zh p.sk p.sr p.pts wc (W.out.pts.step BE.out) W.out.psz)
          go_wp2_with (first
           | ((with_reducible show wpList _ _ _ (⟨_,.load 32 _,_,_,_,_⟩::_) _ _);refine aE rfl 32 _ rfl w.heap.size 10 rfl _ _ RS.out Mv rfl (by kernel_rfl) ?_)
           | (go_at_call 83;refine HSH.out.mono ?_;rintro e w1 ⟨er,rfl,hb⟩;replace B0:=qD (B0.out.step hb);replace BE:=qD (BE.out.Ih hb);clear hb;by_cases he:er=0;(focus (subst he))))
          ·go_meet;exact⟨B0.out,BE.out⟩
          ·have he':(er != 0)=true:=by simpa using he
           have HE:=qD he;clear he;go_wp2_with fail;go_ret;exact iC.no HE.out BE.out
        case rest=>
         obtain⟨hB0,hBE⟩:=hcut;clear B0 BE d0 d1 d2 d7 d8 d9 d24;have B0:=qD hB0;have BE:=qD hBE;obtain⟨d0,d1,d2,_,d7,d8,d9,d24⟩:=aR B0.out;have RF:=qD (ae B0.out);clear hB0 hBE
         go_upto_if 107 with(first
          | ((with_reducible show wpList _ _ _ (⟨_,.load 38 _,_,_,_,_⟩::_) _ _);refine aE rfl 38 _ rfl w.heap.size 0 rfl _ _ RF.out KH rfl (by kernel_rfl) ?_)
          | (go_at_call 84;refine(wW p _).mono ?_;rintro e w1 ⟨bu,rfl,hb⟩;replace B0:=qD (B0.out.step hb);replace BE:=qD (BE.out.Ih hb);clear hb d0 d1 d2 d7 d8 d9 d24;obtain⟨d0,d1,d2,_,d7,d8,d9,d24⟩:=aR B0.out))
         cases bu
         ·go_wp2_with fail;go_ret;exact iC.no (by decide) BE.out
         cases h24:(p.op==24)
         ·go_upto_region 21 with fail
          go_loopw [7,8] (fun v _ wr=>∃i:Nat,i<=p.kn/\v=.int .i64 i/\(∀(j:Nat) (k:aX),j<i->p.kids[j]?=some k->kS k)/\aG wr w.heap.size 38 (aD p)/\Below w.heap.size w wr) (fun v _ _=>p.kn-(intOf v).toNat)
          ·exact⟨0,KD _,rfl,fun j _ h=>absurd h (by omega),B0.out,BE.out⟩
          case round=>
           obtain⟨i,hi,rfl,hall,hB0,hBE⟩:=hrel;clear B0 BE d0 d1 d2 d7 d8 d9 d24 RF;have B0:=qD hB0;have BE:=qD hBE;have HALL:=qD hall;obtain⟨d0,_,_,_,_,_,_,d24⟩:=aR B0.out;clear hB0 hBE hall;by_cases hlt:i<p.kn
           ·obtain⟨b,off,k,hA,hb,hx,hm,hrg⟩:=W.out.sr.row hlt;have HX:=qD hx;have RG:=qD (bD hrg BE.out hb);have HLB:Hid (b<wr.heap.size):=qD (Ka hb BE.out.size);have IX:=qD fun(el:Bool) (w':World) (hw:Below wr.heap.size wr w')=>IH.out k hm el w' ((W.out.kids k hm).step (BE.out.Ih hw)) (HT.out.step (BE.out.Ih hw));rw[hA] at d24;have i0:(0:Int)<=(i:Int):=by omega
            have i1:(i:Int)<(p.kn:Int):=by omega
            clear hrg hA hx;go_upto_region 23 with fail
            have KS:Hid (∀w',Below wr.heap.size wr w'->(Instr.loadAt 38 (.pointer (some ⟨b,off+i*25,none⟩))).run prog w'=.ok (.agg (aq k).toArray) w'/\w'.cell? ⟨w.heap.size,0,none⟩=some (.int .i64 p.op)/\w'.cell? ⟨w.heap.size,24,none⟩=some (.slice (some ⟨b,off,none⟩) p.kn p.kc)):=qD fun w' hw=>
             ⟨MZ w' b (off+i*25) 38 (aq k) _ (bD RG.out hw HLB.out) KH rfl (by kernel_rfl),(hw.cell (p:=⟨w.heap.size,0,none⟩) B0.out.lt).trans d0,(hw.cell (p:=⟨w.heap.size,24,none⟩) B0.out.lt).trans d24⟩
            have B:=qD ((Ju wr.heap.size wr).drewN 1);clear d0 d24;cases el
            ·cases h15:(p.op==15)
             all_goals
              refine Kn ?_;refine Kg (S:=(fun w'=>(Instr.loadAt 38 (.pointer (some ⟨b,off+i*25,none⟩))).run prog w'=.ok (.agg (aq k).toArray) w'/\w'.cell? ⟨w.heap.size,0,none⟩=some (.int .i64 p.op)/\w'.cell? ⟨w.heap.size,24,none⟩=some (.slice (some ⟨b,off,none⟩) p.kn p.kc))) (by kernel_rfl) ?_ (fun hHeld=>?_)
              ·(try dsimp only);exact KS.out _ B.out
              refine rV 0 rfl ?_
              try go_frame
              refine rV 1 rfl ?_
              try go_frame
              refine rV 2 rfl ?_
              try go_frame
              refine rV 3 rfl ?_
              try go_frame
              refine rT (v:=.agg (aq k).toArray) 4 rfl (fun w' hSw=>bL (p:=.pointer (some ⟨b,off+i*25,none⟩)) rfl rfl hSw.1) ?_
              try go_frame
              refine rV 5 rfl ?_
              try go_frame
              refine rV 6 rfl ?_
              try go_frame
              refine rV 7 rfl ?_
              try go_frame
              refine rV 8 rfl ?_
              try go_frame
              refine rV 9 rfl ?_
              try go_frame
              refine rV 10 rfl ?_
              try go_frame
              refine rY 11 rfl fun K hK=>?_;go_simp;refine(IX.out _ _ B.out).mono ?_;rintro e3 w3 ⟨er,rfl,hn,hb3⟩;replace B:=qD (B.out.Ih hb3);have HN:=qD hn;clear hb3 hn
              (try go_wp2_with fail)
              clear hHeld;refine hK.out _ _ (KS.out _ B.out) fun hHeld=>?_;clear hK K
              try go_frame
              refine rU 12 rfl ?_
              try go_frame
              refine rD ?_ _;refine Kq ?_;clear hHeld;by_cases he:er=0
              ·subst he;go_wp2_with fail;go_roundw
               case rel=>
                refine⟨i+1,by omega,by go_num,fun j y hj hy=>?_,B0.out.step B.out,BE.out.Ih B.out⟩;by_cases hji:j=i
                ·subst hji;obtain rfl:y=k:=by have:=hy.symm.trans HX.out;simpa using this
                 exact(by have h:=HN.out;simpa using h)
                ·exact HALL.out j y (by omega) hy
               case measure=>simp[intOf];omega
              ·have he':(er != 0)=true:=by simpa using he
               have HE:=qD he;clear he;go_wp2_with fail;go_ret;exact iC.no HE.out (BE.out.Ih B.out)
            ·refine Kn ?_;refine Kg (S:=(fun w'=>(Instr.loadAt 38 (.pointer (some ⟨b,off+i*25,none⟩))).run prog w'=.ok (.agg (aq k).toArray) w'/\w'.cell? ⟨w.heap.size,0,none⟩=some (.int .i64 p.op)/\w'.cell? ⟨w.heap.size,24,none⟩=some (.slice (some ⟨b,off,none⟩) p.kn p.kc))) (by kernel_rfl) ?_ (fun hHeld=>?_)
             ·(try dsimp only);exact KS.out _ B.out
             refine rV 0 rfl ?_
             try go_frame
             refine rV 1 rfl ?_
             try go_frame
             refine rV 2 rfl ?_
             try go_frame
             refine rV 3 rfl ?_
             try go_frame
             refine rT (v:=.agg (aq k).toArray) 4 rfl (fun w' hSw=>bL (p:=.pointer (some ⟨b,off+i*25,none⟩)) rfl rfl hSw.1) ?_
             try go_frame
             refine rV 5 rfl ?_
             try go_frame
             refine rV 6 rfl ?_
             try go_frame
             refine Nr (i:=7) (v:=undef) (tP rfl) (by kernel_rfl) (by kernel_rfl) (by kernel_rfl) (fun _ _ _ h=>h) (Or.inr ⟨by rfl,rfl⟩) (by assumption) ?_
             try go_frame
             refine Nr (i:=8) (v:=undef) (tP rfl) (by kernel_rfl) (by kernel_rfl) (by kernel_rfl) (fun _ _ _ h=>h) (Or.inr ⟨by rfl,rfl⟩) (by assumption) ?_
             try go_frame
             refine Nr (i:=9) (v:=undef) (tP rfl) (by kernel_rfl) (by kernel_rfl) (by kernel_rfl) (fun _ _ _ h=>h) (Or.inr ⟨by rfl,rfl⟩) (by assumption) ?_
             try go_frame
             refine rV 10 rfl ?_
             try go_frame
             refine rY 11 rfl fun K hK=>?_;go_simp;refine(IX.out _ _ B.out).mono ?_;rintro e3 w3 ⟨er,rfl,hn,hb3⟩;replace B:=qD (B.out.Ih hb3);have HN:=qD hn;clear hb3 hn
             (try go_wp2_with fail)
             clear hHeld;refine hK.out _ _ (KS.out _ B.out) fun hHeld=>?_;clear hK K
             try go_frame
             refine rU 12 rfl ?_
             try go_frame
             refine rD ?_ _;refine Kq ?_;clear hHeld;by_cases he:er=0
             ·subst he;go_wp2_with fail;go_roundw
              case rel=>
               refine⟨i+1,by omega,by go_num,fun j y hj hy=>?_,B0.out.step B.out,BE.out.Ih B.out⟩;by_cases hji:j=i
               ·subst hji;obtain rfl:y=k:=by have:=hy.symm.trans HX.out;simpa using this
                exact(by have h:=HN.out;simpa using h)
               ·exact HALL.out j y (by omega) hy
              case measure=>simp[intOf];omega
             ·have he':(er != 0)=true:=by simpa using he
              have HE:=qD he;clear he;go_wp2_with fail;go_ret;exact iC.no HE.out (BE.out.Ih B.out)
           ·obtain rfl:i=p.kn:=by omega
            go_wp2_with fail;go_ret;refine⟨0,rfl,fun _=>ND.out.JO W.out fun _ k hk=>?_,BE.out⟩;obtain⟨j,hj,rfl⟩:=List.getElem_of_mem hk;exact HALL.out j _ (by have:=W.out.sr.ln;omega) (Jv hj)
         ·have RE:=qD (gp B0.out);have HV8:=qD fun wr (hb:Below w.heap.size w wr)=>wY p.ex wr (W.out.ex.step hb) (HT.out.step hb)
          go_wp2_with (first
           | ((with_reducible show wpList _ _ _ (⟨_,.load 35 _,_,_,_,_⟩::_) _ _);refine aE rfl 35 _ rfl w.heap.size 13 rfl _ _ RE.out Kw rfl (by kernel_rfl) ?_)
           | (go_at_call 85;refine(HV8.out _ BE.out).mono ?_;rintro e w1 ⟨er,rfl,hb⟩;replace BE:=qD (BE.out.Ih hb);clear hb))
          go_ret;exact⟨er,rfl,fun _=>ND.out.JO W.out (fun h=>absurd (show p.op=24 by simpa using h24) h),BE.out⟩
      ·go_wp2_with fail;go_ret;exact iC.no (by decide) BE.out
    ·go_wp2_with fail;go_ret;exact iC.no (by decide) BE.out
  ·go_wp2_with fail;go_ret;exact iC.no (by decide) BE.out
theorem Bz(p:aX):∀(lv lf:Int) (w:World),WP w p->0<=lv->lv<=1000->-1<=lf->lf<=1000->Calls prog 25 #[aW p,.int .i64 lv,.int .i64 lf] w (Dz p lf w):=by
 induction p using aX.ind with
 | h p ih=>
 intro lv lf w hw h1 h2 h3 h4;have W:=qD hw.open;have IH:=qD ih;have hkn:=qD W.out.sr.ln;have hkz:p.kn<=140737488355328:=by have:=W.out.ksz;unfold aH at this;omega
 clear ih hw;have B0:Hid (aG (w.alloc (.cells (aD p) 38)) w.heap.size 38 (aD p)):=aG.Ii rfl;have BE:=qD ((Ju w.heap.size w).alloc (qL) (Obj.cells (aD p) 38));go_enter func25,ntmps25;go_upto_region 1 with fail
 change Code.wp _ _ _ _ (w.alloc (.cells (aD p) 38));generalize w.alloc (.cells (aD p) 38)=wa at*;by_cases hz0:lv=0
 ·subst hz0;go_wp2_with fail;go_ret;exact⟨-1,rfl,by omega,by omega,fun h=>absurd h (by omega),BE.out⟩
 by_cases hz:lf<=0
 ·have g1:(lv==0)=false:=by simpa using hz0
  clear hz0;go_wp2_with fail;go_ret;exact⟨-1,rfl,by omega,by omega,fun h=>absurd h (by omega),BE.out⟩
 ·have g1:(lv==0)=false:=by simp;omega
  have g2:¬lf<=0:=by omega
  have g3:wrap64 (lf-1)=lf-1:=by unfold wrap64;omega
  have g4:wrap64 (lv-1)=lv-1:=by unfold wrap64;omega
  go_upto_region 5 with fail
  (try rw[g3])
  go_loopw [2,7] (fun v2 v7 wr=>∃(i:Nat) (r:Int),i<=p.kn/\v2=.int .i64 r/\v7=.int .i64 i/\IV p lf w i r wr) (fun _ v7 _=>p.kn-(intOf v7).toNat)
  ·exact⟨0,lf-1,KD _,rfl,rfl,B0.out,BE.out,by omega,by omega,fun _=>by simp[aX.nodes.nodesL]⟩
  case round=>
   obtain⟨i,r,hi,rfl,rfl,hI⟩:=hrel;have HI:=qD hI;obtain⟨_,_,_,_,_,_,_,d24⟩:=aR hI.b0;have rlo:=hI.lo;have rhi:=hI.hi;clear hI;by_cases hlt:i<p.kn
   ·by_cases hr:0<=r
    ·obtain⟨b,off,x,hA,hb,hx,hm,hrg⟩:=W.out.sr.row hlt;have RG:=qD (bD (hrg) HI.out.bel hb);have HX:=qD hx;have KW:=qD ((W.out.kids x hm).step HI.out.bel);have IX:=qD (IH.out x hm);rw[hA] at d24;clear hrg hx hm hA
     go_wp2_with (first
      | ((with_reducible show wpList _ _ _ (⟨_,.load 38 _,_,_,_,_⟩::_) _ _);refine aE rfl 38 _ rfl b (off+i*25) rfl _ _ RG.out KH rfl (by kernel_rfl) ?_)
      | (go_at_call 25;(try rw[g4]);refine(IX.out (lv-1) r _ KW.out (by omega) (by omega) rlo rhi).mono ?_;rintro e w1 ⟨r',rfl,hr1,hr2,hr3,hbb⟩;have H3:=qD hr3;have HB:=qD hbb;clear hr3 hbb))
     go_roundw
     case rel=>
      refine⟨i+1,r',by omega,rfl,by go_num,HI.out.b0.step HB.out,HI.out.bel.Ih HB.out,hr1,hr2,fun h=>?_⟩;have e1:=H3.out h;have e2:=HI.out.eq hr;have e3:=uW HX.out;omega
     case measure=>simp[intOf];omega
    ·go_wp2_with fail;go_ret;exact⟨r,rfl,rlo,rhi,fun h=>absurd h (by omega),HI.out.bel⟩
   ·obtain rfl:i=p.kn:=by omega
    go_wp2_with fail;go_ret;refine⟨r,rfl,rlo,rhi,fun h=>?_,HI.out.bel⟩;have e:=HI.out.eq h;rw[hkn.out,NH] at e;rw[p.Iz];omega
theorem zk(p:aX)(w:World)(h:WP w p)(hT:cY w):Calls prog 7 #[aW p] w fun e w'=>∃n:Int,e=.returned (.int .i64 n)/\(n=0->kS p/\p.nodes<=256)/\Below w.heap.size w w':=by
 have HT:=qD hT;have HW:=qD h;clear h hT;have B0:Hid (aG (w.alloc (.cells (aD p) 38)) w.heap.size 38 (aD p)):=aG.Ii rfl;have BE:=qD ((Ju w.heap.size w).alloc (qL) (Obj.cells (aD p) 38));go_enter func7,ntmps7;go_upto_region 1 with fail
 change Code.wp _ _ _ _ (w.alloc (.cells (aD p) 38));generalize w.alloc (.cells (aD p) 38)=wa at*;have RF:=qD (ae B0.out)
 go_upto_if 5 with(first
  | ((with_reducible show wpList _ _ _ (⟨_,.load 38 _,_,_,_,_⟩::_) _ _);refine aE rfl 38 _ rfl w.heap.size 0 rfl _ _ RF.out KH rfl (by kernel_rfl) ?_)
  | (go_at_call 25;refine(Bz p 16 256 _ (HW.out.step BE.out) (by omega) (by omega) (by omega) (by omega)).mono ?_;rintro e w1 ⟨r,rfl,hr1,hr2,hr3,hb⟩;replace B0:=qD (B0.out.step hb);replace BE:=qD (BE.out.Ih hb);have HR:=qD hr3;replace RF:=qD (ae B0.out);clear hb hr3))
 by_cases hneg:r<0
 ·go_wp2_with fail;go_ret;exact⟨2,rfl,fun h=>absurd h (by decide),BE.out⟩
 ·have HN:Hid (p.nodes<=256):=by have:=HR.out (by omega);exact qD (by omega)
  go_wp2_with (first
   | ((with_reducible show wpList _ _ _ (⟨_,.load 38 _,_,_,_,_⟩::_) _ _);refine aE rfl 38 _ rfl w.heap.size 0 rfl _ _ RF.out KH rfl (by kernel_rfl) ?_)
   | (go_at_call 26;refine(wZ p false _ (HW.out.step BE.out) (HT.out.step BE.out)).mono ?_;rintro e w1 ⟨n,rfl,hn,hb⟩;replace BE:=qD (BE.out.Ih hb);have HV:=qD hn;clear hb hn))
  go_ret;exact⟨n,rfl,fun h=>⟨HV.out h,HN.out⟩,BE.out⟩
end
end Go.Proofs.YtgfoliedmhgpnaaGreatDoor
