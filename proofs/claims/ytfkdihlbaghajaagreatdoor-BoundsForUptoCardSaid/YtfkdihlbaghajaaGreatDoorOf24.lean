/- Parts of the proof, joined: PrExpr, PrUnused, PrCount, PrCheck, PrNode, PrValid, RfEq, RfRange. -/
import Derived.Test.YtfkdihlbaghajaaGreatDoorOf1
import Derived.Test.YtfkdihlbaghajaaGreatDoorOf23
import Derived.Test.YtfkdihlbaghajaaGreatDoorOf19
import Derived.Test.YtfkdihlbaghajaaGreatDoorOf14
import Derived.Test.YtfkdihlbaghajaaGreatDoorOf13
import Derived.Test.YtfkdihlbaghajaaGreatDoorOf2
import Derived.Test.YtfkdihlbaghajaaGreatDoorOf21
import Derived.Test.YtfkdihlbaghajaaGreatDoorOf17
import Derived.Test.YtfkdihlbaghajaaGreatDoorOf15
import Derived.Deep.CutBlock
set_option maxRecDepth 100000
set_option maxHeartbeats 16000000
set_option linter.unusedSimpArgs false
namespace Go.Proofs.YtfkdihlbaghajaaGreatDoor
open Go.RowKit
theorem rw_zero8(w:World):RW w VC.zero Val.zero:=RVs.shut ⟨rfl,rfl,rfl,by decide,rfl,qL,by decide,fun h=>absurd h (by decide),rfl,qL,by decide,fun h=>absurd h (by decide)⟩
theorem retn{a b:Int}(h:a=b):Ending.returned (.int .i64 a)=.returned (.int .i64 b):=by rw[h]
def kidsN(op:Int):Int:=
 if op=1∨op=2∨op=3 then 0 else if op=18∨op=22∨op=23∨op=24∨op=26∨op=30∨op=31∨op=36 then 1 else if op=19∨op=25 then 3
 else if op=4∨op=6∨op=16∨op=17∨op=21∨op=29∨op=37∨op=35∨op=34 then -1 else 2
theorem kidsX_any(op:Int)(w:World):Calls Tryz.prog 230 #[.int .i64 op] w fun e w'=>e=.returned (.int .i64 (kidsN op))∧w'=w:=by
 go_enter Tryz.func230,Tryz.ntmps230
 go_wp2_with fail
 all_goals go_ret
 all_goals refine⟨retn ?_,rfl⟩
 all_goals simp only[beq_iff_eq,beq_eq_false_iff_ne,ne_eq] at*
 all_goals unfold kidsN
 all_goals (repeat' split)
 all_goals first|rfl|omega
theorem ST.cells{w:World}{A:Option Addr}{n c:Nat}{l:List ByteArray}(h:ST w A n c l)(h0:0<n):∃b off,A=some ⟨b,off,none⟩∧b<w.heap.size∧∀i,i<n→∃x,w.cell? ⟨b,off+i,none⟩=some (.string x):=by
 obtain⟨b,off,e,hb,hc⟩:=h.sr.el h0
 refine⟨b,off,e,hb,fun i hi=>?_⟩
 have hl:i<l.length:=by have:=h.sr.ln;omega
 have:=hc i _ (List.getElem?_eq_getElem hl) 0 _ rfl
 rw[Nat.mul_one,Nat.add_zero] at this
 exact⟨_,this⟩
theorem named_any(s:Slc ByteArray)(w:World)(h:ST w s.A s.n s.c s.xs):Calls Tryz.prog 231 #[s.v] w (AnyB w):=by
 obtain⟨A,n,c,xs⟩:=s
 have hz:n≤140737488355328:=by have:=h.sz;unfold reach at this;simp only at this;omega
 have H:=qD h
 clear h
 simp only at H
 show Calls _ _ #[.slice A n c] w _
 go_enter Tryz.func231,Tryz.ntmps231
 go_upto_region 2 with fail
 go_loopw [3] (fun v wr=>∃i:Nat,i≤n∧v=.int .i64 i∧Below w.heap.size w wr) (fun v _=>n-(intOf v).toNat)
 case atStart=>exact⟨0,Nat.zero_le _,rfl,Below.refl _ _⟩
 case round=>
  obtain⟨i,hi,rfl,hbe⟩:=hrel
  have BE:=qD hbe
  clear hbe
  by_cases hlt:i<n
  ·obtain⟨b,off,rfl,hb,hc⟩:=H.out.cells (by omega)
   obtain⟨x,e0'⟩:=hc i hlt
   have HC:=qD hc
   have E0:=qD e0'
   have e0:=(BE.out.cell (p:=⟨b,off+i,none⟩) hb).trans e0'
   clear e0' hc
   go_wp2_with fail
   refine(rname_any x _).mono ?_
   rintro e w1 ⟨rfl,rfl⟩
   obtain⟨q,hq⟩:∃q,q=nameB x:=⟨_,rfl⟩
   rw[←hq]
   clear hq
   cases q
   ·go_wp2_with fail
    go_ret
    exact⟨_,rfl,BE.out⟩
   ·go_upto_region 7 with fail
    go_loopw [4] (fun v wz=>∃k:Nat,k≤i∧v=.int .i64 k∧Below w.heap.size w wz) (fun v _=>i-(intOf v).toNat)
    case atStart=>exact⟨0,Nat.zero_le _,rfl,BE.out⟩
    case round=>
     obtain⟨k,hk,rfl,hbk⟩:=hrel
     have BK:=qD hbk
     clear hbk e0
     by_cases hkt:k<i
     ·obtain⟨y,f0'⟩:=HC.out k (by omega)
      have e0:=(BK.out.cell (p:=⟨b,off+i,none⟩) hb).trans E0.out
      have f0:=(BK.out.cell (p:=⟨b,off+k,none⟩) hb).trans f0'
      have X0:∀kk:BW wr,kk.val.cell? ⟨b,off+i,none⟩=some (.string x):=fun kk=>kk.cell e0
      have Y0:∀kk:BW wr,kk.val.cell? ⟨b,off+k,none⟩=some (.string y):=fun kk=>kk.cell f0
      have i0:(0:Int)≤(i:Int):=by omega
      have i1:(i:Int)<(n:Int):=by omega
      have k0:(0:Int)≤(k:Int):=by omega
      have k1:(k:Int)<(n:Int):=by omega
      clear f0'
      go_upto_region 9 with fail
      clear e0 f0
      refine wp_region_bw (by kernel_rfl) (by kernel_rfl) ?_
      repeat(go_big_quiet_step (fail))
      refine wpQuiet_nil ?_
      rintro _ ⟨kw,rfl⟩
      have HK:=qD kw.below
      generalize kw.val=w5 at*
      clear X0 Y0
      cases hq:(y.toList==x.toList)
      ·go_wp2_with fail
       go_roundw
       case rel=>exact⟨k+1,by omega,by go_num,BK.out.step' HK.out⟩
       case measure=>simp[intOf];omega
      ·go_wp2_with fail
       go_ret
       exact⟨_,rfl,BK.out.step' HK.out⟩
     ·obtain rfl:k=i:=by omega
      go_wp2_with fail
      go_roundw
      case rel=>exact⟨k+1,by omega,by go_num,BK.out⟩
      case measure=>simp[intOf];omega
  ·go_wp2_with fail
   go_ret
   exact⟨_,rfl,BE.out⟩
theorem nodeX_any(x:ExT)(w:World)(h:WX w x)(hT:Tabs w):Calls Tryz.prog 185 #[aggEx x] w (AnyN w):=by
 have W:=qD h.open
 have HT:=qD hT
 clear h hT
 have hpz:x.path.n≤140737488355328:=by have:=W.out.path.sz;unfold reach at this;omega
 have hnz:x.names.n≤140737488355328:=by have:=W.out.names.sz;unfold reach at this;omega
 have hkz:x.kn≤140737488355328:=by have:=W.out.ksz;unfold reach at this;omega
 have B0:Hid (Blk (w.alloc (.cells (arrEx x) 38)) w.heap.size 38 (arrEx x)):=Blk.new_at rfl
 have BE:=qD ((Below.refl w.heap.size w).alloc (qL) (Obj.cells (arrEx x) 38))
 go_enter Tryz.func185,Tryz.ntmps185
 go_upto_region 1 with fail
 change Code.wp _ _ _ _ (w.alloc (.cells (arrEx x) 38))
 generalize w.alloc (.cells (arrEx x) 38)=wa at*
 obtain⟨d0,d1,d2,d3,d9,d10⟩:=ex_cells B0.out
 go_cut [46] (fun v wx=>∃b:Bool,v=.bool b∧Blk wx w.heap.size 38 (arrEx x)∧Below w.heap.size w wx)
 case first=>as_aux_lemma=>
  have E0:∀q:BW wa,q.val.cell? ⟨w.heap.size,0,none⟩=some (.int .i64 x.op):=fun q=>q.cell d0
  have E3:∀q:BW wa,q.val.cell? ⟨w.heap.size,3,none⟩=some (.slice x.names.A x.names.n x.names.c):=fun q=>q.cell d3
  have E10:∀q:BW wa,q.val.cell? ⟨w.heap.size,10,none⟩=some (.slice x.kA x.kn x.kc):=fun q=>q.cell d10
  have K1:Hid (∀q:BW wa,Calls Tryz.prog 230 #[.int .i64 x.op] q.val fun e w''=>e=.returned (.int .i64 (kidsN x.op))∧∃q:BW wa,w''=q.val):=fun q=>
   (kidsX_any x.op q.val).mono fun e w' ⟨h1,h2⟩=>⟨h1,q,h2⟩
  clear d0 d1 d2 d3 d9 d10
  obtain⟨op,hop⟩:∃op,op=x.op:=⟨_,rfl⟩
  obtain⟨kn,hkn⟩:∃kn,kn=x.kn:=⟨_,rfl⟩
  obtain⟨nn,hnn⟩:∃nn,nn=x.names.n:=⟨_,rfl⟩
  rw[←hop] at E0 K1
  rw[←hkn] at E10 hkz
  rw[←hnn] at E3 hnz
  obtain⟨k,hk⟩:∃k,k=kidsN op:=⟨_,rfl⟩
  rw[←hk] at K1
  clear hop hkn hnn hk
  have fin:∀(q:BW wa) (b:Bool),∃b':Bool,Value.bool b=.bool b'∧Blk q.val w.heap.size 38 (arrEx x)∧Below w.heap.size w q.val:=fun q b=>⟨b,rfl,B0.out.step q.below,BE.out.step' q.below⟩
  have FIN:=qD fin
  clear fin
  have ways:(decide (op<1)=true)∨(decide (op<1)=false∧decide (op>37)=true)∨(decide (op<1)=false∧decide (op>37)=false):=by
   by_cases h1:op<1<;>by_cases h2:op>37<;>simp[h1,h2]
  rcases ways with a1|⟨a1,a2⟩|⟨a1,a2⟩
  ·refine wp_region_bw (by kernel_rfl) (by kernel_rfl) ?_
   repeat(go_big_quiet_step (with_reducible exact K1.out _))
   refine wpQuiet_nil ?_
   rintro _ ⟨kw,rfl⟩
   go_wp2_with fail
   go_meet
   exact FIN.out kw _
  ·refine wp_region_bw (by kernel_rfl) (by kernel_rfl) ?_
   repeat(go_big_quiet_step (with_reducible exact K1.out _))
   refine wpQuiet_nil ?_
   rintro _ ⟨kw,rfl⟩
   go_wp2_with fail
   go_meet
   exact FIN.out kw _
  ·have ways2:(decide (k≥0)=true∧((kn:Int) != k)=true)∨(((decide (k≥0)=true∧((kn:Int) != k)=false)∨(decide (k≥0)=false))∧((op==34)=false∨(op==34)=true∧((kn:Int) != (nn:Int))=true∨(op==34)=true∧((kn:Int) != (nn:Int))=false∧((kn:Int)==0)=true∨(op==34)=true∧((kn:Int) != (nn:Int))=false∧((kn:Int)==0)=false)):=by
    cases decide (k≥0)<;>cases((kn:Int) != k)<;>cases(op==34)<;>cases((kn:Int) != (nn:Int))<;>cases((kn:Int)==0)<;>simp
   rcases ways2 with⟨b1,b2⟩|⟨⟨b1,b2⟩|b1,c1|⟨c1,c2⟩|⟨c1,c2,c3⟩|⟨c1,c2,c3⟩⟩
   all_goals
    refine wp_region_bw (by kernel_rfl) (by kernel_rfl) ?_
    repeat(go_big_quiet_step (with_reducible exact K1.out _))
    refine wpQuiet_nil ?_
    rintro _ ⟨kw,rfl⟩
    go_wp2_with fail
    go_meet
    exact FIN.out kw _
 case rest=>
  obtain⟨b,rfl,hB0,hBE⟩:=hcut
  clear B0 BE d0 d1 d2 d3 d9 d10
  have B0:=qD hB0
  have BE:=qD hBE
  obtain⟨d0,d1,d2,d3,d9,d10⟩:=ex_cells B0.out
  clear hB0 hBE
  cases b
  ·go_upto_region 3 with fail
   have HP:=qD (W.out.path.step BE.out)
   go_cut [72] (fun v wx=>∃b:Bool,v=.bool b∧wx=wc)
   case first=>as_aux_lemma=>
    go_wp2_with (go_at_call 12;refine(rpath_any x.path.xs _ _ _ _ HP.out).mono ?_;rintro e w1 ⟨rfl,rfl⟩;obtain⟨bb,hbb⟩:∃b,b=pathB x.path.xs:=⟨_,rfl⟩;rw[←hbb];clear hbb;cases bb)
    all_goals go_meet
    all_goals exact⟨_,rfl,rfl⟩
   case rest=>
    obtain⟨b,rfl,rfl⟩:=hcut
    cases b
    ·go_upto_region 5 with fail
     obtain⟨nb,hnb⟩:∃nb,nb=(x.op==3||(x.op==32||x.op==33)):=⟨_,rfl⟩
     go_cut [3] (fun v wx=>v=.bool nb∧wx=wc)
     case first=>
      go_wp2_with fail
      all_goals go_meet
      all_goals (refine⟨?_,rfl⟩;rw[hnb];simp[*,Bool.or_assoc])
     case rest=>
      obtain⟨rfl,rfl⟩:=hcut
      have HNB:=qD hnb
      clear hnb
      have HN:=qD (W.out.names.step BE.out)
      go_upto_region 6 with fail
      go_cut [103] (fun v wx=>∃b:Bool,v=.bool b∧Blk wx w.heap.size 38 (arrEx x)∧Below w.heap.size w wx)
      case first=>as_aux_lemma=>
       cases nb
       all_goals go_wp2_with (first
        | (go_at_call 41;refine(rname_any x.name _).mono ?_;rintro e w1 ⟨rfl,rfl⟩;obtain⟨bb,hbb⟩:∃b,b=nameB x.name:=⟨_,rfl⟩;rw[←hbb];clear hbb;cases bb)
        | (go_at_call 231;refine(named_any x.names _ HN.out).mono ?_;rintro e w1 ⟨bb,rfl,hb⟩;replace B0:=qD (B0.out.step hb);replace BE:=qD (BE.out.step' hb);clear hb;cases bb))
       all_goals go_meet
       all_goals exact⟨_,rfl,B0.out,BE.out⟩
      case rest=>
       obtain⟨b,rfl,hB0,hBE⟩:=hcut
       clear B0 BE d0 d1 d2 d3 d9 d10
       have B0:=qD hB0
       have BE:=qD hBE
       obtain⟨d0,d1,d2,d3,d9,d10⟩:=ex_cells B0.out
       clear hB0 hBE
       cases b
       ·go_upto_region 8 with fail
        have RA:=qD (range_arg B0.out)
        have HA:=qD (W.out.arg.step BE.out)
        go_cut [112] (fun v wx=>∃b:Bool,v=.bool b∧Blk wx w.heap.size 38 (arrEx x)∧Below w.heap.size w wx)
        case first=>as_aux_lemma=>
         go_wp2_with (first
          | ((with_reducible show wpList _ _ _ (⟨_,.load 32 _,_,_,_,_⟩::_) _ _);refine wpList_mid_w rfl 32 _ rfl w.heap.size 4 rfl _ _ RA.out Tryz.underlying32 rfl (by kernel_rfl) ?_)
          | (go_at_call 24;refine(rvalid_any x.arg.2 x.arg.1 _ HA.out).mono ?_;rintro e w1 ⟨rfl,hb⟩;replace B0:=qD (B0.out.step hb);replace BE:=qD (BE.out.step' hb);clear hb;obtain⟨bb,hbb⟩:∃b,b=validV x.arg.2:=⟨_,rfl⟩;rw[←hbb];clear hbb;cases bb))
         all_goals go_meet
         all_goals exact⟨_,rfl,B0.out,BE.out⟩
        case rest=>
         obtain⟨b,rfl,hB0,hBE⟩:=hcut
         clear B0 BE d0 d1 d2 d3 d9 d10 RA HA
         have B0:=qD hB0
         have BE:=qD hBE
         obtain⟨d0,d1,d2,d3,d9,d10⟩:=ex_cells B0.out
         clear hB0 hBE
         cases b
         ·go_upto_region 10 with fail
          have RA:=qD (range_arg B0.out)
          have HA:=qD (W.out.arg.step BE.out)
          obtain⟨sv,hsv⟩:∃sv,sv=sameV x.arg.2 Val.zero:=⟨_,rfl⟩
          have HS:Hid (Calls Tryz.prog 117 #[x.arg.1.val,VC.zero.val] wc fun e w'=>e=.returned (.bool sv)∧Below wc.heap.size wc w'):=by
           rw[hsv]
           exact rsame_any x.arg.2 Val.zero x.arg.1 VC.zero wc HA.out (rw_zero8 _)
          clear hsv
          obtain⟨op,hop⟩:∃op,op=x.op:=⟨_,rfl⟩
          rw[←hop] at d0 HNB
          have HOP:=qD hop
          clear hop
          have cl:(op=1∧nb=false)∨(op=2∧nb=false)∨(op=3∧nb=true)∨(op=34∧nb=false)∨((op != 1)=true∧(op != 2)=true∧(op != 3)=true∧(op != 34)=true∧nb=true)∨((op != 1)=true∧(op != 2)=true∧(op != 3)=true∧(op != 34)=true∧nb=false):=by
           have h:=HNB.out
           by_cases h1:op=1
           ·subst h1;exact .inl ⟨rfl,h⟩
           by_cases h2:op=2
           ·subst h2;exact .inr (.inl ⟨rfl,h⟩)
           by_cases h3:op=3
           ·subst h3;exact .inr (.inr (.inl ⟨rfl,h⟩))
           by_cases h4:op=34
           ·subst h4;exact .inr (.inr (.inr (.inl ⟨rfl,h⟩)))
           have e1:(op != 1)=true:=by simpa using h1
           have e2:(op != 2)=true:=by simpa using h2
           have e3:(op != 3)=true:=by simpa using h3
           have e4:(op != 34)=true:=by simpa using h4
           clear h HNB
           cases nb
           ·exact .inr (.inr (.inr (.inr (.inr ⟨e1,e2,e3,e4,rfl⟩))))
           ·exact .inr (.inr (.inr (.inr (.inl ⟨e1,e2,e3,e4,rfl⟩))))
          clear HNB
          rcases cl with⟨rfl,rfl⟩|⟨rfl,rfl⟩|⟨rfl,rfl⟩|⟨rfl,rfl⟩|⟨e1,e2,e3,e4,rfl⟩|⟨e1,e2,e3,e4,rfl⟩
          all_goals go_wp2_with (first
           | (go_at_call 117;refine HS.out.mono ?_;rintro e w1 ⟨rfl,hb⟩;replace B0:=qD (B0.out.step hb);replace BE:=qD (BE.out.step' hb);clear hb d0 d1 d2 d3 d9 d10;obtain⟨d0,d1,d2,d3,d9,d10⟩:=ex_cells B0.out;rw[←HOP.out] at d0;cases sv)
           | ((with_reducible show wpList _ _ _ (⟨_,.load 32 _,_,_,_,_⟩::_) _ _);refine wpList_mid_w rfl 32 _ rfl w.heap.size 4 rfl _ _ RA.out Tryz.underlying32 rfl (by kernel_rfl) ?_))
          all_goals go_ret
          all_goals exact⟨_,rfl,BE.out⟩
         ·go_wp2_with fail
          go_ret
          exact⟨_,rfl,BE.out⟩
       ·go_wp2_with fail
        go_ret
        exact⟨_,rfl,BE.out⟩
    ·go_wp2_with fail
     go_ret
     exact⟨_,rfl,BE.out⟩
  ·go_wp2_with fail
   go_ret
   exact⟨_,rfl,BE.out⟩
theorem op_classes(op:Int):(onPathB op=false∧hasArgB op=false∧hasArgsB op=false)∨(onPathB op=true∧hasArgB op=true∧hasArgsB op=false)∨(onPathB op=true∧hasArgB op=false∧hasArgsB op=true)∨(onPathB op=true∧hasArgB op=false∧hasArgsB op=false):=by
 unfold onPathB hasArgB hasArgsB hasTextB
 by_cases h:2≤op∧op≤19
 ·have:op=2∨op=3∨op=4∨op=5∨op=6∨op=7∨op=8∨op=9∨op=10∨op=11∨op=12∨op=13∨op=14∨op=15∨op=16∨op=17∨op=18∨op=19:=by omega
  rcases this with rfl|rfl|rfl|rfl|rfl|rfl|rfl|rfl|rfl|rfl|rfl|rfl|rfl|rfl|rfl|rfl|rfl|rfl<;>decide
 ·refine .inl ⟨?_,?_,?_⟩
  ·simp;omega
  ·simp;omega
  ·simp;omega
theorem unused_any(p:PrT)(w:World):Calls Tryz.prog 77 #[aggPr p] w (AnyB w):=by
 have B0:Hid (Blk (w.alloc (.cells (arrPr p) 41)) w.heap.size 41 (arrPr p)):=Blk.new_at rfl
 have BE:=qD ((Below.refl w.heap.size w).alloc (qL) (Obj.cells (arrPr p) 41))
 go_enter Tryz.func77,Tryz.ntmps77
 go_upto_region 1 with fail
 change Code.wp _ _ _ _ (w.alloc (.cells (arrPr p) 41))
 generalize w.alloc (.cells (arrPr p) 41)=wa at*
 obtain⟨d0,d1,_,_,d7,_,_,_⟩:=pr_cells B0.out
 have RA:=qD (range_parg B0.out)
 have hcl:=op_classes p.op
 obtain⟨b1,hb1⟩:∃b,b=onPathB p.op:=⟨_,rfl⟩
 obtain⟨b2,hb2⟩:∃b,b=hasArgB p.op:=⟨_,rfl⟩
 obtain⟨b3,hb3⟩:∃b,b=hasArgsB p.op:=⟨_,rfl⟩
 rw[←hb1,←hb2,←hb3] at hcl
 have HB1:=qD hb1
 have HB2:=qD hb2
 have HB3:=qD hb3
 have HCL:=qD hcl
 clear hb1 hb2 hb3 hcl
 go_cut [36] (fun v wx=>∃b:Bool,v=.bool b∧Blk wx w.heap.size 41 (arrPr p)∧Below w.heap.size w wx)
 case first=>
  rcases HCL.out with⟨rfl,rfl,rfl⟩|⟨rfl,rfl,rfl⟩|⟨rfl,rfl,rfl⟩|⟨rfl,rfl,rfl⟩
  all_goals go_wp2_with (first
  | (go_at_call 57;refine(onPath_any _ _).mono ?_;rintro e w1 ⟨rfl,rfl⟩;rw[←HB1.out])
  | (go_at_call 74;refine(hasArg_any _ _).mono ?_;rintro e w1 ⟨rfl,rfl⟩;rw[←HB2.out])
  | (go_at_call 72;refine(hasArgs_any _ _).mono ?_;rintro e w1 ⟨rfl,rfl⟩;rw[←HB3.out])
  | (go_at_call 128;refine(missing13_any p.arg.1 _).mono ?_;rintro e w1 ⟨b,rfl,hb⟩;replace B0:=qD (B0.out.step hb);replace BE:=qD (BE.out.step' hb);clear hb d0 d1 d7;obtain⟨d0,d1,_,_,d7,_,_,_⟩:=pr_cells B0.out;cases b)
  | ((with_reducible show wpList _ _ _ (⟨_,.load 32 _,_,_,_,_⟩::_) _ _);refine wpList_mid_w rfl 32 _ rfl w.heap.size 2 rfl _ _ RA.out Tryz.underlying32 rfl (by kernel_rfl) ?_))
  all_goals go_meet
  all_goals exact⟨_,rfl,B0.out,BE.out⟩
 case rest=>
  obtain⟨b,rfl,hB0,hBE⟩:=hcut
  clear B0 BE d0 d1 d7 RA HB1 HB2 HB3 HCL
  have B0:=qD hB0
  have BE:=qD hBE
  obtain⟨d0,d1,_,_,d7,d8,d9,_⟩:=pr_cells B0.out
  clear hB0 hBE
  cases b
  ·go_upto_region 3 with fail
   go_cut [69] (fun v wx=>∃b:Bool,v=.bool b∧wx=wc)
   case first=>
    go_wp2_with fail
    all_goals go_meet
    all_goals exact⟨_,rfl,rfl⟩
   case rest=>
    obtain⟨b,rfl,rfl⟩:=hcut
    have RA:=qD (range_parg B0.out)
    have RS:=qD (range_pshape B0.out)
    have RE:=qD (range_pex B0.out)
    cases b
    ·cases h18:(p.op==18)<;>cases h24:(p.op==24)
     all_goals go_wp2_with (first
      | (go_at_call 129;refine(noShape_any p.sk p.sr p.pts _).mono ?_;rintro e w1 ⟨b,rfl,hb⟩;replace B0:=qD (B0.out.step hb);replace BE:=qD (BE.out.step' hb);replace RE:=qD (range_pex B0.out);clear hb d0 d1 d7 d8 d9;obtain⟨d0,_,_,_,_,_,_,_⟩:=pr_cells B0.out;cases b)
      | (go_at_call 130;refine(noExpr_any p.ex _).mono ?_;rintro e w1 ⟨b,rfl,hb⟩;replace BE:=qD (BE.out.step' hb);clear hb;cases b)
      | ((with_reducible show wpList _ _ _ (⟨_,.load 35 _,_,_,_,_⟩::_) _ _);refine wpList_mid_w rfl 35 _ rfl w.heap.size 10 rfl _ _ RS.out Tryz.underlying35 rfl (by kernel_rfl) ?_)
      | ((with_reducible show wpList _ _ _ (⟨_,.load 38 _,_,_,_,_⟩::_) _ _);refine wpList_mid_w rfl 38 _ rfl w.heap.size 13 rfl _ _ RE.out Tryz.underlying38 rfl (by kernel_rfl) ?_))
     all_goals go_ret
     all_goals exact⟨_,rfl,BE.out⟩
    ·go_wp2_with fail
     go_ret
     exact⟨_,rfl,BE.out⟩
  ·go_wp2_with fail
   go_ret
   exact⟨_,rfl,BE.out⟩
def CountOk(p:PrT)(lf:Int)(w:World)(e:Ending)(w':World):Prop:=∃r:Int,e=.returned (.int .i64 r)∧-1≤r∧r≤1000∧(0≤r→r=lf-p.nodes)∧Below w.heap.size w w'
theorem nodesL_take{l:List PrT}{i:Nat}{k:PrT}(h:l[i]?=some k):PrT.nodes.nodesL (l.take (i+1))=PrT.nodes.nodesL (l.take i)+k.nodes:=by
 induction l generalizing i with
 | nil=>simp at h
 | cons x r ih=>
  cases i with
  | zero=>simp at h;subst h;simp[PrT.nodes.nodesL]
  | succ i=>
   have:=ih (i:=i) (by simpa using h)
   simp only[List.take_succ_cons,PrT.nodes.nodesL] at*
   omega
structure CtI(p:PrT)(lf:Int)(w:World)(i:Nat)(r:Int)(wr:World):Prop where
 b0:Blk wr w.heap.size 41 (arrPr p)
 bel:Below w.heap.size w wr
 lo:-1≤r
 hi:r≤1000
 eq:0≤r→r=lf-1-(PrT.nodes.nodesL (p.kids.take i):Nat)
def ChkOk(w:World)(e:Ending)(w':World):Prop:=∃a b:Int,e=.returned (.tuple #[.int .i64 a,.int .i64 b])∧1≤a∧a≤257∧(b=0→a≤256)∧Below w.heap.size w w'
structure CkI(x:ExT)(w:World)(a:Int)(wr:World):Prop where
 b0:Blk wr w.heap.size 38 (arrEx x)
 bel:Below w.heap.size w wr
 lo:1≤a
 hi:a≤256
theorem check8_any(x:ExT):∀(nu lv:Int) (w:World),WX w x→Tabs w→1≤nu→nu≤257→1≤lv→lv≤17→Calls Tryz.prog 131 #[aggEx x,.int .i64 nu,.int .i64 lv] w (ChkOk w):=by
 induction x using ExT.ind with
 | h x ih=>
 intro nu lv w hw hT h1 h2 h3 h4
 have HT:=qD hT
 have HW:=qD hw
 have W:=qD hw.open
 have IH:=qD ih
 have hkz:x.kn≤140737488355328:=by have:=W.out.ksz;unfold reach at this;omega
 clear ih hw hT
 have B0:Hid (Blk (w.alloc (.cells (arrEx x) 38)) w.heap.size 38 (arrEx x)):=Blk.new_at rfl
 have BE:=qD ((Below.refl w.heap.size w).alloc (qL) (Obj.cells (arrEx x) 38))
 go_enter Tryz.func131,Tryz.ntmps131
 go_upto_region 1 with fail
 change Code.wp _ _ _ _ (w.alloc (.cells (arrEx x) 38))
 generalize w.alloc (.cells (arrEx x) 38)=wa at*
 by_cases hz:16<lv∨256<nu
 ·go_cut [17] (fun v wx=>v=.bool true∧wx=wa)
  case first=>
   go_wp2_with fail
   all_goals go_meet
   all_goals first|exact⟨rfl,rfl⟩|(exfalso;omega)|(refine⟨?_,rfl⟩;simp;omega)
  case rest=>
   obtain⟨rfl,rfl⟩:=hcut
   go_wp2_with fail
   go_ret2
   exact⟨nu,2,rfl,h1,h2,fun h=>absurd h (by omega),BE.out⟩
 ·have g1:¬16<lv:=by omega
  have g2:¬256<nu:=by omega
  have g4:wrap64 (lv+1)=lv+1:=by unfold wrap64;omega
  clear hz
  have RF:=qD (ex_full B0.out)
  go_upto_region 3 with fail
  go_wp2_with (first
   | ((with_reducible show wpList _ _ _ (⟨_,.load 38 _,_,_,_,_⟩::_) _ _);refine wpList_mid_w rfl 38 _ rfl w.heap.size 0 rfl _ _ RF.out Tryz.underlying38 rfl (by kernel_rfl) ?_)
   | (go_at_call 185;fail))
  refine(nodeX_any x wa (HW.out.step BE.out) (HT.out.step BE.out)).mono ?_
  rintro e w1 ⟨er,rfl,hb⟩
  replace B0:=qD (B0.out.step hb)
  replace BE:=qD (BE.out.step' hb)
  clear hb RF
  by_cases he:er=0
  ·subst he
   go_upto_region 7 with fail
   go_loopw [1,9,10,11] (fun v1 v9 _ _ wr=>∃(i:Nat) (a:Int),i≤x.kn∧v1=.int .i64 a∧v9=.int .i64 i∧CkI x w a wr) (fun _ v9 _ _ _=>x.kn-(intOf v9).toNat)
   case atStart=>exact⟨0,nu,Nat.zero_le _,rfl,rfl,B0.out,BE.out,h1,by omega⟩
   case round=>
    obtain⟨i,a,hi,rfl,rfl,hI⟩:=hrel
    have HI:=qD hI
    obtain⟨_,_,_,_,_,d10⟩:=ex_cells hI.b0
    have alo:=hI.lo
    have ahi:=hI.hi
    clear hI
    have g3:wrap64 (a+1)=a+1:=by unfold wrap64;omega
    by_cases hlt:i<x.kn
    ·obtain⟨b,off,y,hA,hb,hx,hm,hrg⟩:=W.out.sr.row hlt
     have RG:=qD (range_step hrg HI.out.bel hb)
     have KW:=qD ((W.out.kids y hm).step HI.out.bel)
     have IX:=qD (IH.out y hm)
     have KT:=qD (HT.out.step HI.out.bel)
     rw[hA] at d10
     clear hrg hx hm hA
     go_wp2_with (first
      | ((with_reducible show wpList _ _ _ (⟨_,.load 38 _,_,_,_,_⟩::_) _ _);refine wpList_mid_w rfl 38 _ rfl b (off+i*11) rfl _ _ RG.out Tryz.underlying38 rfl (by kernel_rfl) ?_)
      | (go_at_call 131;(try rw[g4]);(try rw[g3]);refine(IX.out (a+1) (lv+1) _ KW.out KT.out (by omega) (by omega) (by omega) (by omega)).mono ?_;rintro e w1 ⟨r,er,rfl,hr1,hr2,hr3,hbb⟩;have H3:=qD hr3;have HB:=qD hbb;clear hr3 hbb;by_cases he:er=0;(focus (subst he))))
     ·have:r≤256:=by simpa using H3.out
      go_roundw
      case rel=>exact⟨i+1,r,by omega,rfl,by go_num,HI.out.b0.step HB.out,HI.out.bel.step' HB.out,hr1,this⟩
      case measure=>simp[intOf];omega
     ·have he':(er != 0)=true:=by simpa using he
      go_wp2_with fail
      go_ret2
      exact⟨r,er,rfl,hr1,hr2,H3.out,HI.out.bel.step' HB.out⟩
    ·go_wp2_with fail
     go_ret2
     exact⟨a,0,rfl,alo,by omega,fun _=>ahi,HI.out.bel⟩
  ·have he':(er != 0)=true:=by simpa using he
   clear he
   go_wp2_with fail
   go_ret2
   exact⟨nu,er,rfl,h1,h2,fun _=>by omega,BE.out⟩
theorem valid8_any(x:ExT)(w:World)(h:WX w x)(hT:Tabs w):Calls Tryz.prog 78 #[aggEx x] w (AnyN w):=by
 have HT:=qD hT
 have HW:=qD h
 clear h hT
 have B0:Hid (Blk (w.alloc (.cells (arrEx x) 38)) w.heap.size 38 (arrEx x)):=Blk.new_at rfl
 have BE:=qD ((Below.refl w.heap.size w).alloc (qL) (Obj.cells (arrEx x) 38))
 go_enter Tryz.func78,Tryz.ntmps78
 go_upto_region 1 with fail
 change Code.wp _ _ _ _ (w.alloc (.cells (arrEx x) 38))
 generalize w.alloc (.cells (arrEx x) 38)=wa at*
 have RF:=qD (ex_full B0.out)
 go_wp2_with (first
  | ((with_reducible show wpList _ _ _ (⟨_,.load 38 _,_,_,_,_⟩::_) _ _);refine wpList_mid_w rfl 38 _ rfl w.heap.size 0 rfl _ _ RF.out Tryz.underlying38 rfl (by kernel_rfl) ?_)
  | (go_at_call 131;refine(check8_any x 1 1 _ (HW.out.step BE.out) (HT.out.step BE.out) (by omega) (by omega) (by omega) (by omega)).mono ?_;rintro e w1 ⟨r,er,rfl,_,_,_,hb⟩;replace BE:=qD (BE.out.step' hb);clear hb B0 RF))
 go_ret
 exact⟨er,rfl,BE.out⟩
def NodeOk(p:PrT)(w:World)(e:Ending)(w':World):Prop:=∃n:Int,e=.returned (.int .i64 n)∧(n=0→VPr p)∧Below w.heap.size w w'
theorem NodeOk.no{p:PrT}{w w':World}{n:Int}(h:n≠0)(hb:Below w.heap.size w w'):NodeOk p w (.returned (.int .i64 n)) w':=⟨n,rfl,fun k=>absurd k h,hb⟩
structure NdF(p:PrT):Prop where
 kids:kidsB p=true
 nums:numbersB p=true
 arg:hasArgB p.op=true→validV p.arg.2=true∧(hasTextB p.op=true→p.arg.1.k=4)
 args:hasArgsB p.op=true→∀x∈p.args.xs,validV x.2=true
 path:onPathB p.op=true→p.path.xs.length≤16
theorem pathB_len{l:List ByteArray}(h:pathB l=true):l.length≤16:=by
 unfold pathB at h
 simp at h
 omega
theorem NdF.vpr{p:PrT}{w:World}(h:NdF p)(W:WPo w p)(hk:p.op≠24→∀k∈p.kids,VPr k):VPr p:=by
 refine VPo.shut ⟨fun ho=>?_,fun ho=>?_,fun ho=>?_,fun ho=>?_,fun ho=>?_,fun ho=>?_,hk⟩
 ·have e:hasArgB p.op=true:=by
   unfold hasArgB hasTextB
   rcases ho with⟨h1,h2⟩|ho|ho|ho
   ·simp[h1,h2]
   ·rw[ho];rfl
   ·rw[ho];rfl
   ·rw[ho];rfl
  exact(h.arg e).1
 ·have e:hasArgsB p.op=true:=by rcases ho with ho|ho|ho<;>rw[ho]<;>rfl
  exact h.args e
 ·have e:hasArgB p.op=true:=by rcases ho with ho|ho|ho<;>rw[ho]<;>rfl
  have e':hasTextB p.op=true:=by rcases ho with ho|ho|ho<;>rw[ho]<;>rfl
  rw[←W.arg.open.k]
  exact(h.arg e).2 e'
 ·have:=h.nums
  unfold numbersB at this
  rw[if_neg (by omega),if_pos ho] at this
  simpa using this
 ·have:=h.kids
  unfold kidsB at this
  have hn:=W.sr.ln
  intro e
  rw[e] at hn
  rcases ho with ho|ho|ho
  ·rw[if_pos (by omega)] at this
   simp at hn this
   omega
  ·rw[if_neg (by omega),if_pos (by omega)] at this
   simp at hn this
   omega
  ·rw[if_neg (by omega),if_pos (by omega)] at this
   simp at hn this
   omega
 ·exact h.path (by unfold onPathB;simp[ho.1,ho.2])
theorem node13_any(p:PrT):∀(el:Bool) (w:World),WP w p→Tabs w→Calls Tryz.prog 26 #[aggPr p,.bool el] w (NodeOk p w):=by
 induction p using PrT.ind with
 | h p ih=>
 intro el w hw hT
 have HT:=qD hT
 have W:=qD hw.open
 have IH:=qD ih
 have hkz:p.kn≤140737488355328:=by have:=W.out.ksz;unfold reach at this;omega
 have hpz:p.path.n≤140737488355328:=by have:=W.out.path.sz;unfold reach at this;omega
 have haz:p.args.n≤1048576:=W.out.few
 clear ih hw hT
 have B0:Hid (Blk (w.alloc (.cells (arrPr p) 41)) w.heap.size 41 (arrPr p)):=Blk.new_at rfl
 have BE:=qD ((Below.refl w.heap.size w).alloc (qL) (Obj.cells (arrPr p) 41))
 go_enter Tryz.func26,Tryz.ntmps26
 go_upto_region 1 with fail
 change Code.wp _ _ _ _ (w.alloc (.cells (arrPr p) 41))
 generalize w.alloc (.cells (arrPr p) 41)=wa at*
 obtain⟨d0,d1,d2,_,d7,d8,d9,d24⟩:=pr_cells B0.out
 have RF:=qD (pr_full B0.out)
 go_cut [37] (fun v wx=>∃b:Bool,v=.bool b∧(b=false→kidsB p=true∧numbersB p=true)∧Blk wx w.heap.size 41 (arrPr p)∧Below w.heap.size w wx)
 case first=>
  cases o1:decide (p.op<1)<;>cases o2:decide (24<p.op)<;>cases o3:((p.args.n:Int)==0)
  all_goals go_wp2_with (first
   | ((with_reducible show wpList _ _ _ (⟨_,.load 41 _,_,_,_,_⟩::_) _ _);refine wpList_mid_w rfl 41 _ rfl w.heap.size 0 rfl _ _ RF.out Tryz.underlying41 rfl (by kernel_rfl) ?_)
   | (go_at_call 71;refine(kids_any p _).mono ?_;rintro e w1 ⟨rfl,hb⟩;replace B0:=qD (B0.out.step hb);replace BE:=qD (BE.out.step' hb);replace RF:=qD (pr_full B0.out);clear hb d0 d1 d2 d7 d8 d9 d24;obtain⟨d0,d1,d2,_,d7,d8,d9,d24⟩:=pr_cells B0.out;cases hKB:kidsB p)
   | (go_at_call 72;refine(hasArgs_any _ _).mono ?_;rintro e w1 ⟨rfl,rfl⟩;obtain⟨bb,hbb⟩:∃b,b=hasArgsB p.op:=⟨_,rfl⟩;rw[←hbb];clear hbb;cases bb)
   | (go_at_call 73;refine(numbers_any p _).mono ?_;rintro e w1 ⟨rfl,hb⟩;replace B0:=qD (B0.out.step hb);replace BE:=qD (BE.out.step' hb);clear hb;cases hNB:numbersB p))
  all_goals go_meet
  all_goals first
   | exact⟨true,rfl,fun h=>by simp at h,B0.out,BE.out⟩
   | exact⟨false,rfl,fun _=>⟨hKB,hNB⟩,B0.out,BE.out⟩
   | exact⟨_,rfl,fun _=>⟨hKB,hNB⟩,B0.out,BE.out⟩
 case rest=>
  obtain⟨b,rfl,hF,hB0,hBE⟩:=hcut
  clear B0 BE RF d0 d1 d2 d7 d8 d9 d24
  have B0:=qD hB0
  have BE:=qD hBE
  have F1:=qD hF
  obtain⟨d0,d1,d2,_,d7,d8,d9,d24⟩:=pr_cells B0.out
  clear hB0 hBE hF
  cases b
  ·go_upto_region 3 with fail
   have HP:=qD (W.out.path.step BE.out)
   have HPN:=qD W.out.path.sr.ln
   go_cut [56] (fun v wx=>∃b:Bool,v=.bool b∧(b=false→onPathB p.op=true→p.path.xs.length≤16)∧wx=wc)
   case first=>
    cases el
    all_goals go_wp2_with (first
     | (go_at_call 57;refine(onPath_any _ _).mono ?_;rintro e w1 ⟨rfl,rfl⟩;cases hOB:onPathB p.op)
     | (go_at_call 12;refine(rpath_any p.path.xs _ _ _ _ HP.out).mono ?_;rintro e w1 ⟨rfl,rfl⟩;cases hPB:pathB p.path.xs))
    all_goals go_meet
    all_goals first
     | exact⟨true,rfl,fun h=>by simp at h,rfl⟩
     | exact⟨false,rfl,fun _ h=>absurd (hOB.symm.trans h) (by decide),rfl⟩
     | exact⟨false,rfl,fun _ _=>pathB_len hPB,rfl⟩
     | exact⟨_,rfl,fun h _=>by have:=HPN.out;simp at h;omega,rfl⟩
   case rest=>
    obtain⟨b,rfl,hF,rfl⟩:=hcut
    have F3:=qD hF
    clear hF HPN
    cases b
    ·go_upto_region 5 with fail
     have RA:=qD (range_parg B0.out)
     have HA:=qD (W.out.arg.step BE.out)
     go_cut [76] (fun v wx=>∃b:Bool,v=.bool b∧(b=false→hasArgB p.op=true→validV p.arg.2=true∧(hasTextB p.op=true→p.arg.1.k=4))∧Blk wx w.heap.size 41 (arrPr p)∧Below w.heap.size w wx)
     case first=>
      go_wp2_with (first
       | ((with_reducible show wpList _ _ _ (⟨_,.load 32 _,_,_,_,_⟩::_) _ _);refine wpList_mid_w rfl 32 _ rfl w.heap.size 2 rfl _ _ RA.out Tryz.underlying32 rfl (by kernel_rfl) ?_)
       | (go_at_call 74;refine(hasArg_any _ _).mono ?_;rintro e w1 ⟨rfl,rfl⟩;cases hAB:hasArgB p.op)
       | (go_at_call 75;refine(hasText_any _ _).mono ?_;rintro e w1 ⟨rfl,rfl⟩;cases hTB:hasTextB p.op)
       | (go_at_call 24;refine(rvalid_any p.arg.2 p.arg.1 _ HA.out).mono ?_;rintro e w1 ⟨rfl,hb⟩;replace B0:=qD (B0.out.step hb);replace BE:=qD (BE.out.step' hb);clear hb d0 d1 d2 d7 d8 d9 d24;obtain⟨d0,d1,d2,_,d7,d8,d9,d24⟩:=pr_cells B0.out;cases hVB:validV p.arg.2))
      all_goals go_meet
      all_goals first
       | exact⟨true,rfl,fun h=>by simp at h,B0.out,BE.out⟩
       | exact⟨false,rfl,fun _ h=>absurd (hAB.symm.trans h) (by decide),B0.out,BE.out⟩
       | exact⟨false,rfl,fun _ _=>⟨hVB,fun h=>absurd (hTB.symm.trans h) (by decide)⟩,B0.out,BE.out⟩
       | exact⟨_,rfl,fun h _=>⟨hVB,fun _=>by simpa using h⟩,B0.out,BE.out⟩
     case rest=>
      obtain⟨b,rfl,hF,hB0,hBE⟩:=hcut
      clear B0 BE d0 d1 d2 d7 d8 d9 d24 RA HA HP
      have B0:=qD hB0
      have BE:=qD hBE
      have F5:=qD hF
      obtain⟨d0,d1,d2,_,d7,d8,d9,d24⟩:=pr_cells B0.out
      clear hB0 hBE hF
      cases b
      ·go_upto_block 0 with fail
       go_cut [5] (fun _ wx=>(hasArgsB p.op=true→∀x∈p.args.xs,validV x.2=true)∧Blk wx w.heap.size 41 (arrPr p)∧Below w.heap.size w wx)
       case first=>
        go_wp2_with fail
        go_loopw [5] (fun v wr=>∃i:Nat,i≤p.args.n∧v=.int .i64 i∧(∀(j:Nat) (x:PV),j<i→p.args.xs[j]?=some x→validV x.2=true)∧Blk wr w.heap.size 41 (arrPr p)∧Below w.heap.size w wr) (fun v _=>p.args.n-(intOf v).toNat)
        case atStart=>exact⟨0,Nat.zero_le _,rfl,fun j _ h=>absurd h (by omega),B0.out,BE.out⟩
        case round=>
         obtain⟨i,hi,rfl,hall,hB0,hBE⟩:=hrel
         clear B0 BE d0 d1 d2 d7 d8 d9 d24
         have B0:=qD hB0
         have BE:=qD hBE
         have HALL:=qD hall
         obtain⟨d0,d1,d2,_,d7,d8,d9,d24⟩:=pr_cells B0.out
         clear hB0 hBE hall
         by_cases hlt:i<p.args.n
         ·cases hSB:hasArgsB p.op
          ·go_wp2_with (go_at_call 72;refine(hasArgs_any _ _).mono ?_;rintro e w1 ⟨rfl,rfl⟩;rw[hSB])
           go_meet
           exact⟨fun h=>absurd (hSB.symm.trans h) (by decide),B0.out,BE.out⟩
          ·obtain⟨b,off,x,hA,hb,hx,hm,hrg⟩:=W.out.args.sr.row hlt
           have HX:=qD hx
           have RG:=qD (range_step hrg BE.out hb)
           have HV:=qD ((W.out.args.rv x hm).step BE.out)
           rw[hA] at d7
           have HA:=qD hA
           clear hrg hA hx
           go_wp2_with (first
            | (go_at_call 72;refine(hasArgs_any _ _).mono ?_;rintro e w1 ⟨rfl,rfl⟩;rw[hSB])
            | ((with_reducible show wpList _ _ _ (⟨_,.load 32 _,_,_,_,_⟩::_) _ _);refine wpList_mid_w rfl 32 _ rfl b (off+i*5) rfl _ _ RG.out Tryz.underlying32 rfl (by kernel_rfl) ?_)
            | (go_at_call 24;refine(rvalid_any x.2 x.1 _ HV.out).mono ?_;rintro e w1 ⟨rfl,hbb⟩;replace B0:=qD (B0.out.step hbb);replace BE:=qD (BE.out.step' hbb);clear hbb;cases hVB:validV x.2))
           ·go_ret
            exact NodeOk.no (by decide) BE.out
           ·go_roundw
            case rel=>
             refine⟨i+1,by omega,by go_num,fun j y hj hy=>?_,B0.out,BE.out⟩
             by_cases hji:j=i
             ·subst hji
              obtain rfl:y=x:=by have:=hy.symm.trans HX.out;simpa using this
              exact hVB
             ·exact HALL.out j y (by omega) hy
            case measure=>simp[intOf];omega
         ·obtain rfl:i=p.args.n:=by omega
          go_wp2_with fail
          go_meet
          refine⟨fun _ x hx=>?_,B0.out,BE.out⟩
          obtain⟨j,hj,rfl⟩:=List.getElem_of_mem hx
          exact HALL.out j _ (by have:=W.out.args.sr.ln;omega) (List.getElem?_eq_getElem hj)
       case rest=>
        obtain⟨hF,hB0,hBE⟩:=hcut
        clear B0 BE d0 d1 d2 d7 d8 d9 d24
        have B0:=qD hB0
        have BE:=qD hBE
        have FA:=qD hF
        have ND:Hid (NdF p):=qD ⟨(F1.out rfl).1,(F1.out rfl).2,F5.out rfl,FA.out,F3.out rfl⟩
        obtain⟨d0,d1,d2,_,d7,d8,d9,d24⟩:=pr_cells B0.out
        clear hB0 hBE hF FA F1 F5 F3
        go_upto_if 98 with fail
        go_cut [6] (fun _ wx=>Blk wx w.heap.size 41 (arrPr p)∧Below w.heap.size w wx)
        case first=>
         cases h18:(p.op==18)
         ·go_wp2_with fail
          go_meet
          exact⟨B0.out,BE.out⟩
         ·have RS:=qD (range_pshape B0.out)
          have HSH:=qD (shape_any p.sk p.sr p.pts wc (W.out.pts.step BE.out) W.out.psz)
          go_wp2_with (first
           | ((with_reducible show wpList _ _ _ (⟨_,.load 35 _,_,_,_,_⟩::_) _ _);refine wpList_mid_w rfl 35 _ rfl w.heap.size 10 rfl _ _ RS.out Tryz.underlying35 rfl (by kernel_rfl) ?_)
           | (go_at_call 76;refine HSH.out.mono ?_;rintro e w1 ⟨er,rfl,hb⟩;replace B0:=qD (B0.out.step hb);replace BE:=qD (BE.out.step' hb);clear hb;by_cases he:er=0;(focus (subst he))))
          ·go_meet
           exact⟨B0.out,BE.out⟩
          ·have he':(er != 0)=true:=by simpa using he
           have HE:=qD he
           clear he
           go_wp2_with fail
           go_ret
           exact NodeOk.no HE.out BE.out
        case rest=>
         obtain⟨hB0,hBE⟩:=hcut
         clear B0 BE d0 d1 d2 d7 d8 d9 d24
         have B0:=qD hB0
         have BE:=qD hBE
         obtain⟨d0,d1,d2,_,d7,d8,d9,d24⟩:=pr_cells B0.out
         have RF:=qD (pr_full B0.out)
         clear hB0 hBE
         go_upto_if 107 with(first
          | ((with_reducible show wpList _ _ _ (⟨_,.load 41 _,_,_,_,_⟩::_) _ _);refine wpList_mid_w rfl 41 _ rfl w.heap.size 0 rfl _ _ RF.out Tryz.underlying41 rfl (by kernel_rfl) ?_)
          | (go_at_call 77;refine(unused_any p _).mono ?_;rintro e w1 ⟨bu,rfl,hb⟩;replace B0:=qD (B0.out.step hb);replace BE:=qD (BE.out.step' hb);clear hb d0 d1 d2 d7 d8 d9 d24;obtain⟨d0,d1,d2,_,d7,d8,d9,d24⟩:=pr_cells B0.out))
         cases bu
         ·go_wp2_with fail
          go_ret
          exact NodeOk.no (by decide) BE.out
         cases h24:(p.op==24)
         ·go_upto_region 21 with fail
          go_loopw [7,8] (fun v _ wr=>∃i:Nat,i≤p.kn∧v=.int .i64 i∧(∀(j:Nat) (k:PrT),j<i→p.kids[j]?=some k→VPr k)∧Blk wr w.heap.size 41 (arrPr p)∧Below w.heap.size w wr) (fun v _ _=>p.kn-(intOf v).toNat)
          case atStart=>exact⟨0,Nat.zero_le _,rfl,fun j _ h=>absurd h (by omega),B0.out,BE.out⟩
          case round=>
           obtain⟨i,hi,rfl,hall,hB0,hBE⟩:=hrel
           clear B0 BE d0 d1 d2 d7 d8 d9 d24 RF
           have B0:=qD hB0
           have BE:=qD hBE
           have HALL:=qD hall
           obtain⟨d0,_,_,_,_,_,_,d24⟩:=pr_cells B0.out
           clear hB0 hBE hall
           by_cases hlt:i<p.kn
           ·obtain⟨b,off,k,hA,hb,hx,hm,hrg⟩:=W.out.sr.row hlt
            have HX:=qD hx
            have RG:=qD (range_step hrg BE.out hb)
            have HLB:Hid (b<wr.heap.size):=qD (Nat.lt_of_lt_of_le hb BE.out.size)
            have IX:=qD fun(el:Bool) (w':World) (hw:Below wr.heap.size wr w')=>IH.out k hm el w' ((W.out.kids k hm).step (BE.out.step' hw)) (HT.out.step (BE.out.step' hw))
            rw[hA] at d24
            have i0:(0:Int)≤(i:Int):=by omega
            have i1:(i:Int)<(p.kn:Int):=by omega
            clear hrg hA hx
            go_upto_region 23 with fail
            have KS:Hid (∀w',Below wr.heap.size wr w'→(Instr.loadAt 41 (.pointer (some ⟨b,off+i*25,none⟩))).run Tryz.prog w'=.ok (.agg (recPr k).toArray) w'∧w'.cell? ⟨w.heap.size,0,none⟩=some (.int .i64 p.op)∧w'.cell? ⟨w.heap.size,24,none⟩=some (.slice (some ⟨b,off,none⟩) p.kn p.kc)):=qD fun w' hw=>
             ⟨run_loadAt_mid w' b (off+i*25) 41 (recPr k) _ (range_step RG.out hw HLB.out) Tryz.underlying41 rfl (by kernel_rfl),(hw.cell (p:=⟨w.heap.size,0,none⟩) B0.out.lt).trans d0,(hw.cell (p:=⟨w.heap.size,24,none⟩) B0.out.lt).trans d24⟩
            have B:=qD ((Below.refl wr.heap.size wr).drewN 1)
            clear d0 d24
            cases el
            ·cases h15:(p.op==15)
             all_goals
              refine wp_region_noPanic ?_
              refine wp_region_held_drew (S:=(fun w'=>(Instr.loadAt 41 (.pointer (some ⟨b,off+i*25,none⟩))).run Tryz.prog w'=.ok (.agg (recPr k).toArray) w'∧w'.cell? ⟨w.heap.size,0,none⟩=some (.int .i64 p.op)∧w'.cell? ⟨w.heap.size,24,none⟩=some (.slice (some ⟨b,off,none⟩) p.kn p.kc))) (by kernel_rfl) ?_ (fun hHeld=>?_)
              ·(try dsimp only);exact KS.out _ B.out
              refine rT (v:=?_) 0 rfl ?_ ?_
              rotate_left
              ·intro w' hSw;(try dsimp only at hSw);obtain⟨_,hSw1,hSw2⟩:=hSw;go_simp;(try with_reducible rfl)
              try go_frame
              refine rT (v:=?_) 1 rfl ?_ ?_
              rotate_left
              ·intro w' hSw;(try dsimp only at hSw);obtain⟨_,hSw1,hSw2⟩:=hSw;go_simp;(try with_reducible rfl)
              try go_frame
              refine rT (v:=?_) 2 rfl ?_ ?_
              rotate_left
              ·intro w' hSw;(try dsimp only at hSw);obtain⟨_,hSw1,hSw2⟩:=hSw;go_simp;(try with_reducible rfl)
              try go_frame
              refine rT (v:=?_) 3 rfl ?_ ?_
              rotate_left
              ·intro w' hSw;(try dsimp only at hSw);obtain⟨_,hSw1,hSw2⟩:=hSw;go_simp;(try with_reducible rfl)
              try go_frame
              refine rT (v:=.agg (recPr k).toArray) 4 rfl ?_ ?_
              (skip)
              ·intro w' hSw;exact exec_load (p:=.pointer (some ⟨b,off+i*25,none⟩)) rfl rfl hSw.1
              try go_frame
              refine rT (v:=?_) 5 rfl ?_ ?_
              rotate_left
              ·intro w' hSw;(try dsimp only at hSw);obtain⟨_,hSw1,hSw2⟩:=hSw;go_simp;(try with_reducible rfl)
              try go_frame
              refine rT (v:=?_) 6 rfl ?_ ?_
              rotate_left
              ·intro w' hSw;(try dsimp only at hSw);obtain⟨_,hSw1,hSw2⟩:=hSw;go_simp;(try with_reducible rfl)
              try go_frame
              refine rT (v:=?_) 7 rfl ?_ ?_
              rotate_left
              ·intro w' hSw;(try dsimp only at hSw);obtain⟨_,hSw1,hSw2⟩:=hSw;go_simp;(try with_reducible rfl)
              try go_frame
              refine rT (v:=?_) 8 rfl ?_ ?_
              rotate_left
              ·intro w' hSw;(try dsimp only at hSw);obtain⟨_,hSw1,hSw2⟩:=hSw;go_simp;(try with_reducible rfl)
              try go_frame
              refine rT (v:=?_) 9 rfl ?_ ?_
              rotate_left
              ·intro w' hSw;(try dsimp only at hSw);obtain⟨_,hSw1,hSw2⟩:=hSw;go_simp;(try with_reducible rfl)
              try go_frame
              refine rT (v:=?_) 10 rfl ?_ ?_
              rotate_left
              ·intro w' hSw;(try dsimp only at hSw);obtain⟨_,hSw1,hSw2⟩:=hSw;go_simp;(try with_reducible rfl)
              try go_frame
              refine rY 11 rfl fun K hK=>?_
              go_simp
              refine(IX.out _ _ B.out).mono ?_
              rintro e3 w3 ⟨er,rfl,hn,hb3⟩
              replace B:=qD (B.out.step' hb3)
              have HN:=qD hn
              clear hb3 hn
              (try go_wp2_with fail)
              clear hHeld
              refine hK.out _ _ ?_ fun hHeld=>?_
              ·(try dsimp only);exact KS.out _ B.out
              clear hK K
              try go_frame
              refine rU 12 rfl ?_
              try go_frame
              refine rD ?_ _
              refine NoPanic.normal ?_
              clear hHeld
              by_cases he:er=0
              ·subst he
               go_wp2_with fail
               go_roundw
               case rel=>
                refine⟨i+1,by omega,by go_num,fun j y hj hy=>?_,B0.out.step B.out,BE.out.step' B.out⟩
                by_cases hji:j=i
                ·subst hji
                 obtain rfl:y=k:=by have:=hy.symm.trans HX.out;simpa using this
                 exact(by have h:=HN.out;simpa using h)
                ·exact HALL.out j y (by omega) hy
               case measure=>simp[intOf];omega
              ·have he':(er != 0)=true:=by simpa using he
               have HE:=qD he
               clear he
               go_wp2_with fail
               go_ret
               exact NodeOk.no HE.out (BE.out.step' B.out)
            ·refine wp_region_noPanic ?_
             refine wp_region_held_drew (S:=(fun w'=>(Instr.loadAt 41 (.pointer (some ⟨b,off+i*25,none⟩))).run Tryz.prog w'=.ok (.agg (recPr k).toArray) w'∧w'.cell? ⟨w.heap.size,0,none⟩=some (.int .i64 p.op)∧w'.cell? ⟨w.heap.size,24,none⟩=some (.slice (some ⟨b,off,none⟩) p.kn p.kc))) (by kernel_rfl) ?_ (fun hHeld=>?_)
             ·(try dsimp only);exact KS.out _ B.out
             refine rT (v:=?_) 0 rfl ?_ ?_
             rotate_left
             ·intro w' hSw;(try dsimp only at hSw);obtain⟨_,hSw1,hSw2⟩:=hSw;go_simp;(try with_reducible rfl)
             try go_frame
             refine rT (v:=?_) 1 rfl ?_ ?_
             rotate_left
             ·intro w' hSw;(try dsimp only at hSw);obtain⟨_,hSw1,hSw2⟩:=hSw;go_simp;(try with_reducible rfl)
             try go_frame
             refine rT (v:=?_) 2 rfl ?_ ?_
             rotate_left
             ·intro w' hSw;(try dsimp only at hSw);obtain⟨_,hSw1,hSw2⟩:=hSw;go_simp;(try with_reducible rfl)
             try go_frame
             refine rT (v:=?_) 3 rfl ?_ ?_
             rotate_left
             ·intro w' hSw;(try dsimp only at hSw);obtain⟨_,hSw1,hSw2⟩:=hSw;go_simp;(try with_reducible rfl)
             try go_frame
             refine rT (v:=.agg (recPr k).toArray) 4 rfl ?_ ?_
             (skip)
             ·intro w' hSw;exact exec_load (p:=.pointer (some ⟨b,off+i*25,none⟩)) rfl rfl hSw.1
             try go_frame
             refine rT (v:=?_) 5 rfl ?_ ?_
             rotate_left
             ·intro w' hSw;(try dsimp only at hSw);obtain⟨_,hSw1,hSw2⟩:=hSw;go_simp;(try with_reducible rfl)
             try go_frame
             refine rT (v:=?_) 6 rfl ?_ ?_
             rotate_left
             ·intro w' hSw;(try dsimp only at hSw);obtain⟨_,hSw1,hSw2⟩:=hSw;go_simp;(try with_reducible rfl)
             try go_frame
             refine wpAnyH_take (i:=7) (v:=undef) (take_at rfl) (by kernel_rfl) (by kernel_rfl) (by kernel_rfl) (fun _ _ _ h=>h) (Or.inr ⟨by rfl,rfl⟩) (by assumption) ?_
             try go_frame
             refine wpAnyH_take (i:=8) (v:=undef) (take_at rfl) (by kernel_rfl) (by kernel_rfl) (by kernel_rfl) (fun _ _ _ h=>h) (Or.inr ⟨by rfl,rfl⟩) (by assumption) ?_
             try go_frame
             refine wpAnyH_take (i:=9) (v:=undef) (take_at rfl) (by kernel_rfl) (by kernel_rfl) (by kernel_rfl) (fun _ _ _ h=>h) (Or.inr ⟨by rfl,rfl⟩) (by assumption) ?_
             try go_frame
             refine rT (v:=?_) 10 rfl ?_ ?_
             rotate_left
             ·intro w' hSw;(try dsimp only at hSw);obtain⟨_,hSw1,hSw2⟩:=hSw;go_simp;(try with_reducible rfl)
             try go_frame
             refine rY 11 rfl fun K hK=>?_
             go_simp
             refine(IX.out _ _ B.out).mono ?_
             rintro e3 w3 ⟨er,rfl,hn,hb3⟩
             replace B:=qD (B.out.step' hb3)
             have HN:=qD hn
             clear hb3 hn
             (try go_wp2_with fail)
             clear hHeld
             refine hK.out _ _ ?_ fun hHeld=>?_
             ·(try dsimp only);exact KS.out _ B.out
             clear hK K
             try go_frame
             refine rU 12 rfl ?_
             try go_frame
             refine rD ?_ _
             refine NoPanic.normal ?_
             clear hHeld
             by_cases he:er=0
             ·subst he
              go_wp2_with fail
              go_roundw
              case rel=>
               refine⟨i+1,by omega,by go_num,fun j y hj hy=>?_,B0.out.step B.out,BE.out.step' B.out⟩
               by_cases hji:j=i
               ·subst hji
                obtain rfl:y=k:=by have:=hy.symm.trans HX.out;simpa using this
                exact(by have h:=HN.out;simpa using h)
               ·exact HALL.out j y (by omega) hy
              case measure=>simp[intOf];omega
             ·have he':(er != 0)=true:=by simpa using he
              have HE:=qD he
              clear he
              go_wp2_with fail
              go_ret
              exact NodeOk.no HE.out (BE.out.step' B.out)
           ·obtain rfl:i=p.kn:=by omega
            go_wp2_with fail
            go_ret
            refine⟨0,rfl,fun _=>ND.out.vpr W.out fun _ k hk=>?_,BE.out⟩
            obtain⟨j,hj,rfl⟩:=List.getElem_of_mem hk
            exact HALL.out j _ (by have:=W.out.sr.ln;omega) (List.getElem?_eq_getElem hj)
         ·have RE:=qD (range_pex B0.out)
          have HV8:=qD fun wr (hb:Below w.heap.size w wr)=>valid8_any p.ex wr (W.out.ex.step hb) (HT.out.step hb)
          go_wp2_with (first
           | ((with_reducible show wpList _ _ _ (⟨_,.load 38 _,_,_,_,_⟩::_) _ _);refine wpList_mid_w rfl 38 _ rfl w.heap.size 13 rfl _ _ RE.out Tryz.underlying38 rfl (by kernel_rfl) ?_)
           | (go_at_call 78;refine(HV8.out _ BE.out).mono ?_;rintro e w1 ⟨er,rfl,hb⟩;replace BE:=qD (BE.out.step' hb);clear hb))
          go_ret
          exact⟨er,rfl,fun _=>ND.out.vpr W.out (fun h=>absurd (show p.op=24 by simpa using h24) h),BE.out⟩
      ·go_wp2_with fail
       go_ret
       exact NodeOk.no (by decide) BE.out
    ·go_wp2_with fail
     go_ret
     exact NodeOk.no (by decide) BE.out
  ·go_wp2_with fail
   go_ret
   exact NodeOk.no (by decide) BE.out
theorem pcnt_any(p:PrT):∀(lv lf:Int) (w:World),WP w p→0≤lv→lv≤1000→-1≤lf→lf≤1000→Calls Tryz.prog 25 #[aggPr p,.int .i64 lv,.int .i64 lf] w (CountOk p lf w):=by
 induction p using PrT.ind with
 | h p ih=>
 intro lv lf w hw h1 h2 h3 h4
 have W:=qD hw.open
 have IH:=qD ih
 have hkn:=qD W.out.sr.ln
 have hkz:p.kn≤140737488355328:=by have:=W.out.ksz;unfold reach at this;omega
 clear ih hw
 have B0:Hid (Blk (w.alloc (.cells (arrPr p) 41)) w.heap.size 41 (arrPr p)):=Blk.new_at rfl
 have BE:=qD ((Below.refl w.heap.size w).alloc (qL) (Obj.cells (arrPr p) 41))
 go_enter Tryz.func25,Tryz.ntmps25
 go_upto_region 1 with fail
 change Code.wp _ _ _ _ (w.alloc (.cells (arrPr p) 41))
 generalize w.alloc (.cells (arrPr p) 41)=wa at*
 by_cases hz0:lv=0
 ·subst hz0
  go_wp2_with fail
  go_ret
  exact⟨-1,rfl,by omega,by omega,fun h=>absurd h (by omega),BE.out⟩
 by_cases hz:lf≤0
 ·have g1:(lv==0)=false:=by simpa using hz0
  clear hz0
  go_wp2_with fail
  go_ret
  exact⟨-1,rfl,by omega,by omega,fun h=>absurd h (by omega),BE.out⟩
 ·have g1:(lv==0)=false:=by simp;omega
  have g2:¬lf≤0:=by omega
  have g3:wrap64 (lf-1)=lf-1:=by unfold wrap64;omega
  have g4:wrap64 (lv-1)=lv-1:=by unfold wrap64;omega
  go_upto_region 5 with fail
  (try rw[g3])
  go_loopw [2,7] (fun v2 v7 wr=>∃(i:Nat) (r:Int),i≤p.kn∧v2=.int .i64 r∧v7=.int .i64 i∧CtI p lf w i r wr) (fun _ v7 _=>p.kn-(intOf v7).toNat)
  case atStart=>exact⟨0,lf-1,Nat.zero_le _,rfl,rfl,B0.out,BE.out,by omega,by omega,fun _=>by simp[PrT.nodes.nodesL]⟩
  case round=>
   obtain⟨i,r,hi,rfl,rfl,hI⟩:=hrel
   have HI:=qD hI
   obtain⟨_,_,_,_,_,_,_,d24⟩:=pr_cells hI.b0
   have rlo:=hI.lo
   have rhi:=hI.hi
   clear hI
   by_cases hlt:i<p.kn
   ·by_cases hr:0≤r
    ·obtain⟨b,off,x,hA,hb,hx,hm,hrg⟩:=W.out.sr.row hlt
     have RG:=qD (range_step (hrg) HI.out.bel hb)
     have HX:=qD hx
     have KW:=qD ((W.out.kids x hm).step HI.out.bel)
     have IX:=qD (IH.out x hm)
     rw[hA] at d24
     clear hrg hx hm hA
     go_wp2_with (first
      | ((with_reducible show wpList _ _ _ (⟨_,.load 41 _,_,_,_,_⟩::_) _ _);refine wpList_mid_w rfl 41 _ rfl b (off+i*25) rfl _ _ RG.out Tryz.underlying41 rfl (by kernel_rfl) ?_)
      | (go_at_call 25;(try rw[g4]);refine(IX.out (lv-1) r _ KW.out (by omega) (by omega) rlo rhi).mono ?_;rintro e w1 ⟨r',rfl,hr1,hr2,hr3,hbb⟩;have H3:=qD hr3;have HB:=qD hbb;clear hr3 hbb))
     go_roundw
     case rel=>
      refine⟨i+1,r',by omega,rfl,by go_num,HI.out.b0.step HB.out,HI.out.bel.step' HB.out,hr1,hr2,fun h=>?_⟩
      have e1:=H3.out h
      have e2:=HI.out.eq hr
      have e3:=nodesL_take HX.out
      omega
     case measure=>simp[intOf];omega
    ·go_wp2_with fail
     go_ret
     exact⟨r,rfl,rlo,rhi,fun h=>absurd h (by omega),HI.out.bel⟩
   ·obtain rfl:i=p.kn:=by omega
    go_wp2_with fail
    go_ret
    refine⟨r,rfl,rlo,rhi,fun h=>?_,HI.out.bel⟩
    have e:=HI.out.eq h
    rw[hkn.out,List.take_length] at e
    rw[p.nodes_eq]
    omega
theorem rpred_any(p:PrT)(w:World)(h:WP w p)(hT:Tabs w):Calls Tryz.prog 7 #[aggPr p] w fun e w'=>∃n:Int,e=.returned (.int .i64 n)∧(n=0→VPr p∧p.nodes≤256)∧Below w.heap.size w w':=by
 have HT:=qD hT
 have HW:=qD h
 clear h hT
 have B0:Hid (Blk (w.alloc (.cells (arrPr p) 41)) w.heap.size 41 (arrPr p)):=Blk.new_at rfl
 have BE:=qD ((Below.refl w.heap.size w).alloc (qL) (Obj.cells (arrPr p) 41))
 go_enter Tryz.func7,Tryz.ntmps7
 go_upto_region 1 with fail
 change Code.wp _ _ _ _ (w.alloc (.cells (arrPr p) 41))
 generalize w.alloc (.cells (arrPr p) 41)=wa at*
 have RF:=qD (pr_full B0.out)
 go_upto_if 5 with(first
  | ((with_reducible show wpList _ _ _ (⟨_,.load 41 _,_,_,_,_⟩::_) _ _);refine wpList_mid_w rfl 41 _ rfl w.heap.size 0 rfl _ _ RF.out Tryz.underlying41 rfl (by kernel_rfl) ?_)
  | (go_at_call 25;refine(pcnt_any p 16 256 _ (HW.out.step BE.out) (by omega) (by omega) (by omega) (by omega)).mono ?_;rintro e w1 ⟨r,rfl,hr1,hr2,hr3,hb⟩;replace B0:=qD (B0.out.step hb);replace BE:=qD (BE.out.step' hb);have HR:=qD hr3;replace RF:=qD (pr_full B0.out);clear hb hr3))
 by_cases hneg:r<0
 ·go_wp2_with fail
  go_ret
  exact⟨2,rfl,fun h=>absurd h (by decide),BE.out⟩
 ·have HN:Hid (p.nodes≤256):=by have:=HR.out (by omega);exact qD (by omega)
  go_wp2_with (first
   | ((with_reducible show wpList _ _ _ (⟨_,.load 41 _,_,_,_,_⟩::_) _ _);refine wpList_mid_w rfl 41 _ rfl w.heap.size 0 rfl _ _ RF.out Tryz.underlying41 rfl (by kernel_rfl) ?_)
   | (go_at_call 26;refine(node13_any p false _ (HW.out.step BE.out) (HT.out.step BE.out)).mono ?_;rintro e w1 ⟨n,rfl,hn,hb⟩;replace BE:=qD (BE.out.step' hb);have HV:=qD hn;clear hb hn))
  go_ret
  exact⟨n,rfl,fun h=>⟨HV.out h,HN.out⟩,BE.out⟩
theorem VAt.bw{w:World}{b off:Nat}{v:VC}(h:VAt w b off v):(∀kk:BW w,kk.val.cell? ⟨b,off,none⟩=some (.int .i64 v.k))∧(∀kk:BW w,kk.val.cell? ⟨b,off+1,none⟩=some (.int .i64 v.n))∧(∀kk:BW w,kk.val.cell? ⟨b,off+2,none⟩=some (.string v.t))∧
 (∀kk:BW w,kk.val.cell? ⟨b,off+3,none⟩=some (.slice v.LA v.ln v.lc))∧(∀kk:BW w,kk.val.cell? ⟨b,off+4,none⟩=some (.slice v.DA v.dn v.dc)):=
 ⟨fun kk=>kk.cell h.1,fun kk=>kk.cell h.2.1,fun kk=>kk.cell h.2.2.1,fun kk=>kk.cell h.2.2.2.1,fun kk=>kk.cell h.2.2.2.2⟩
theorem same_z(x y:Iv):sameIv x y=(!(cmpV x.lo y.lo != 0)&&(!(cmpV x.hi y.hi != 0)&&((x.li==y.li)&&(x.hin==y.hin)))):=by
 unfold sameIv
 simp only[bne,Bool.not_not]
 generalize (x.li==y.li)=a
 generalize (x.hin==y.hin)=b
 generalize (cmpV x.lo y.lo==0)=c
 generalize (cmpV x.hi y.hi==0)=d
 revert a b c d
 decide
theorem requal_any(xs ys:List PI)(A B:Option Addr)(n c m d:Nat)(w:World)(h:SI w A n c xs)(h':SI w B m d ys):
 Calls Tryz.prog 110 #[.slice A n c,.slice B m d] w fun e w'=>e=.returned (.bool (sameIvs (xs.map ivP) (ys.map ivP)))∧Below w.heap.size w w':=by
 have hz:n≤140737488355328:=by have:=h.sz;unfold reach at this;omega
 have hk:m≤140737488355328:=by have:=h'.sz;unfold reach at this;omega
 have H:=qD h
 have H':=qD h'
 clear h h'
 by_cases hnk:n=m
 ·subst hnk
  go_enter Tryz.func110,Tryz.ntmps110
  go_upto_region 4 with fail
  go_loopw [5] (fun v wr=>∃i:Nat,i≤n∧v=.int .i64 i∧sameIvs (xs.map ivP) (ys.map ivP)=sameIvs ((xs.map ivP).drop i) ((ys.map ivP).drop i)∧Below w.heap.size w wr) (fun v _=>n-(intOf v).toNat)
  case atStart=>exact⟨0,Nat.zero_le _,rfl,rfl,Below.refl _ _⟩
  case round=>
   obtain⟨i,hi,rfl,ha,hbel⟩:=hrel
   have HA:=qD ha
   have HB:=qD hbel
   clear ha hbel
   by_cases hlt:i<n
   ·obtain⟨p,hp⟩:∃p,xs[i]?=some p:=⟨_,List.getElem?_eq_getElem (by have:=H.out.sr.ln;omega)⟩
    obtain⟨q,hq⟩:∃q,ys[i]?=some q:=⟨_,List.getElem?_eq_getElem (by have:=H'.out.sr.ln;omega)⟩
    obtain⟨b,off,rfl,hb,hat,hok⟩:=H.out.at hp
    obtain⟨b',off',rfl,hb',hat',hok'⟩:=H'.out.at hq
    have HX:=qD (sameIvs_at (l:=xs.map ivP) (m:=ys.map ivP) (i:=i) (x:=ivP p) (y:=ivP q) (by rw[List.getElem?_map,hp];rfl) (by rw[List.getElem?_map,hq];rfl))
    obtain⟨u1,u2,u3,u4⟩:=hat.keep (HB.out.block b hb)
    obtain⟨v1,v2,v3,v4⟩:=hat'.keep (HB.out.block b' hb')
    obtain⟨a0,a1,a2,a3,a4⟩:=u1.bw
    obtain⟨b0,b1,b2,b3,b4⟩:=u2.bw
    obtain⟨c0,c1,c2,c3,c4⟩:=v1.bw
    obtain⟨d0,d1,d2,d3,d4⟩:=v2.bw
    have a5:∀kk:BW wr,kk.val.cell? ⟨b,off+i*12+10,none⟩=some (.bool p.2.1):=fun kk=>kk.cell u3
    have a6:∀kk:BW wr,kk.val.cell? ⟨b,off+i*12+11,none⟩=some (.bool p.2.2):=fun kk=>kk.cell u4
    have c5:∀kk:BW wr,kk.val.cell? ⟨b',off'+i*12+10,none⟩=some (.bool q.2.1):=fun kk=>kk.cell v3
    have c6:∀kk:BW wr,kk.val.cell? ⟨b',off'+i*12+11,none⟩=some (.bool q.2.2):=fun kk=>kk.cell v4
    have K1:Hid (∀kk:BW wr,Calls Tryz.prog 161 #[p.1.1.1.val,q.1.1.1.val] kk.val fun e w''=>e=.returned (.int .i64 (cmpV p.1.1.2 q.1.1.2))∧∃kk:BW wr,w''=kk.val):=fun kk=>
     Calls.bw (rcmp_any _ _ _ _ _ (hok.step (HB.out.step' kk.below)).1 (hok'.step (HB.out.step' kk.below)).1)
    have K2:Hid (∀kk:BW wr,Calls Tryz.prog 161 #[p.1.2.1.val,q.1.2.1.val] kk.val fun e w''=>e=.returned (.int .i64 (cmpV p.1.2.2 q.1.2.2))∧∃kk:BW wr,w''=kk.val):=fun kk=>
     Calls.bw (rcmp_any _ _ _ _ _ (hok.step (HB.out.step' kk.below)).2 (hok'.step (HB.out.step' kk.below)).2)
    have HS:Hid (sameIv (ivP p) (ivP q)=(!(cmpV p.1.1.2 q.1.1.2 != 0)&&(!(cmpV p.1.2.2 q.1.2.2 != 0)&&((p.2.1==q.2.1)&&(p.2.2==q.2.2))))):=qD (same_z _ _)
    clear hat hat' hok hok' hp hq u1 u2 u3 u4 v1 v2 v3 v4
    obtain⟨⟨⟨x1,X1⟩,⟨x2,X2⟩⟩,⟨f1,f2⟩⟩:=p
    obtain⟨⟨⟨y1,Y1⟩,⟨y2,Y2⟩⟩,⟨g1,g2⟩⟩:=q
    simp only at a0 a1 a2 a3 a4 a5 a6 b0 b1 b2 b3 b4 c0 c1 c2 c3 c4 c5 c6 d0 d1 d2 d3 d4 K1 K2 HS
    generalize cmpV X1 Y1=e1 at*
    generalize cmpV X2 Y2=e2 at*
    have i0:(0:Int)≤(i:Int):=by omega
    have i1:(i:Int)<(n:Int):=by omega
    go_upto_region 6 with fail
    obtain⟨z1,hz1⟩:∃z,(e1 != 0)=z:=⟨_,rfl⟩
    obtain⟨z2,hz2⟩:∃z,(e2 != 0)=z:=⟨_,rfl⟩
    obtain⟨t1,ht1⟩:∃z,(f1==g1)=z:=⟨_,rfl⟩
    obtain⟨t2,ht2⟩:∃z,(f2==g2)=z:=⟨_,rfl⟩
    rw[hz1,hz2,ht1,ht2] at HS
    rcases(show z1=true∨(z1=false∧z2=true)∨(z1=false∧z2=false∧t1=false)∨(z1=false∧z2=false∧t1=true∧t2=false)∨(z1=false∧z2=false∧t1=true∧t2=true) by clear hz1 hz2 ht1 ht2 HS;revert z1 z2 t1 t2;decide) with rfl|⟨rfl,rfl⟩|⟨rfl,rfl,rfl⟩|⟨rfl,rfl,rfl,rfl⟩|⟨rfl,rfl,rfl,rfl⟩
    all_goals
     refine wp_region_bw (by kernel_rfl) (by kernel_rfl) ?_
     repeat(go_big_quiet_step (first|(go_at_call 161;with_reducible exact K1.out _)|(go_at_call 161;with_reducible exact K2.out _)))
     refine wpQuiet_nil ?_
     rintro _ ⟨kw,rfl⟩
     have HK:=qD kw.below
     generalize kw.val=w5 at*
     clear a0 a1 a2 a3 a4 a5 a6 b0 b1 b2 b3 b4 c0 c1 c2 c3 c4 c5 c6 d0 d1 d2 d3 d4 K1 K2
     go_wp2_with fail
     first
      | (go_ret;exact⟨by rw[HA.out,HX.out,HS.out];rfl,HB.out.step' HK.out⟩)
      | (go_roundw
         case rel=>exact⟨i+1,by omega,by go_num,by rw[HA.out,HX.out,HS.out];rfl,HB.out.step' HK.out⟩
         case measure=>simp[intOf];omega)
   ·have HF:Hid (sameIvs (xs.map ivP) (ys.map ivP)=true):=by rw[Hid,HA.out];exact sameIvs_end (by have:=H.out.sr.ln;simp;omega) (by have:=H'.out.sr.ln;simp;omega)
    go_wp2_with fail
    go_ret
    exact⟨by rw[HF.out];rfl,HB.out⟩
 ·have HF:Hid (sameIvs (xs.map ivP) (ys.map ivP)=false):=sameIvs_len (by have:=H.out.sr.ln;have:=H'.out.sr.ln;simp;omega)
  have hnk':((n:Int) != (m:Int))=true:=by simp;omega
  go_enter Tryz.func110,Tryz.ntmps110
  go_wp2_with fail
  go_ret
  exact⟨by rw[HF.out];rfl,Below.refl _ _⟩
theorem risAll_any{S:Cut→Prop}{nf:List (Cut×Cut)}(xs:List PI)(A:Option Addr)(n c:Nat)(w:World)(h:SI w A n c xs)(hx:xs.map ivP=nf.map ivOf)(hn:IsNF S nf):
 Calls Tryz.prog 54 #[.slice A n c] w fun e w'=>e=.returned (.bool (isAllB S))∧Below w.heap.size w w':=by
 have H:=qD h
 have HX:=qD hx
 have HN:=qD hn
 clear h hx hn
 go_enter Tryz.func54,Tryz.ntmps54
 go_wp2_with fail
 refine(rall_any w).mono ?_
 rintro e w1 ⟨A1,m1,c1,ys,n1,rfl,hy,hn1,_,hsi,hb⟩
 have HB:=qD hb
 have HS:Hid (sameIvs (xs.map ivP) (ys.map ivP)=isAllB S):=by
  have e1:n1=[((vMin,false),(vMax,true))]:=hn1.unique all_nf fun _ _=>Iff.rfl
  rw[Hid,HX.out,hy,Bool.eq_iff_iff,sameIvs_iff (fun s hs=>(HN.out.1.ne s hs).2) (fun s hs=>(hn1.1.ne s hs).2),e1]
  exact nf_isAll HN.out
 have HC:=qD (requal_any xs ys A A1 n c m1 c1 w1 (H.out.step hb) hsi)
 rw[HS.out] at HC
 clear hb hy hn1 hsi HS
 go_wp2_with fail
 refine HC.out.mono ?_
 rintro e w2 ⟨rfl,hb⟩
 have CE:=qD (HB.out.step' hb)
 clear hb
 go_wp2_with fail
 go_ret
 exact⟨rfl,CE.out⟩
theorem wpl_putHiR{ops:Array Oper}{rest:List Oper}{o:Oper}{a:Act}{w W:World}{Q:Exit→Act→World→Prop}{B g g0:Nat}{p:PI}{c:VC}{t0:TypeId}{cs0:Array Value}(hgd:o.guard=none)(x y:Operand)(ho:o.op=.store 32 x y)(hx:a.eval x=.pointer (some ⟨g,5,none⟩))(hy:a.eval y=.agg c.arr)(h1:Blk w g 93 (arrI p))(h0:Blk w g0 t0 cs0)(hb:Below B W w)(n0:g0≠g)(hB:B≤g)(v:Val)(h:∀w6,Blk w6 g 93 (arrI ((p.1.1,(c,v)),p.2))→Blk w6 g0 t0 cs0→Below B W w6→wpList Tryz.prog ops Q rest (a.put o.dst undef) w6):wpList Tryz.prog ops Q (o::rest) a w:=
 wpList_store_mid hgd 32 x y ho g 5 c.arr hx hy (iv_there h1 (by simp)) (by kernel_rfl) (by simp[Value.oneCell']) (h _ (putHi h1 c v) (blk_far9 h0 n0 _ _) (bel_cells9 hb hB _ _))
def lstC(k:Int):VC:=if k=3 then cLf 3 (-9223372036854775808) ByteArray.empty else if k=8 then cLf 8 0 zero12 else cLf k 0 ByteArray.empty
theorem rleast_any(k:Int)(w:World):Calls Tryz.prog 180 #[.int .i64 k] w fun e w'=>e=.returned (lstC k).val∧Below w.heap.size w w':=by
 unfold lstC
 by_cases h3:k=3
 ·subst h3
  rw[if_pos rfl]
  go_enter Tryz.func180,Tryz.ntmps180
  go_wp2_with fail
  exact bodyPost_ret (results_val rfl _ _ _ rfl _ (cLf 3 (-9223372036854775808) ByteArray.empty) (VAt.of_blk (Blk.new _ _ _))) rfl ⟨rfl,(Below.refl _ _).alloc (qL) _⟩
 by_cases h8:k=8
 ·subst h8
  rw[if_neg (by decide),if_pos rfl]
  go_enter Tryz.func180,Tryz.ntmps180
  go_wp2_with fail
  exact bodyPost_ret (results_val rfl _ _ _ rfl _ (cLf 8 0 zero12) (VAt.of_blk (Blk.new _ _ _))) rfl ⟨rfl,(Below.refl _ _).alloc (qL) _⟩
 have h3':(k==3)=false:=by simpa using h3
 have h8':(k==8)=false:=by simpa using h8
 rw[if_neg h3,if_neg h8]
 clear h3 h8
 go_enter Tryz.func180,Tryz.ntmps180
 go_wp2_with fail
 exact bodyPost_ret (results_val rfl _ _ _ rfl _ (cLf k 0 ByteArray.empty) (VAt.of_blk (Blk.new _ _ _))) rfl ⟨rfl,(Below.refl _ _).alloc (qL) _⟩
theorem rrange_any(k:Int)(w:World)(h:1≤k∧k≤11)(h6:k≠6):Calls Tryz.prog 114 #[.int .i64 k] w fun e w'=>e=.returned (aggI (rngP k))∧Below w.heap.size w w':=by
 have hk:k=1∨k=2∨k=3∨k=4∨k=5∨k=7∨k=8∨k=9∨k=10∨k=11:=by omega
 clear h h6
 have HK:=qD hk
 clear hk
 obtain⟨L,hL⟩:∃L,L=lstC k:=⟨_,rfl⟩
 have K1:Hid (∀w,Calls Tryz.prog 180 #[.int .i64 k] w fun e w'=>e=.returned L.val∧Below w.heap.size w w'):=by rw[hL];exact qD (rleast_any k)
 have HL:=qD hL
 clear hL
 have B0:Hid (Blk (w.alloc (.cells (arrI zI) 93)) w.heap.size 93 (arrI zI)):=Blk.new_at rfl
 have BE:=qD ((Below.refl w.heap.size w).alloc (qL) (Obj.cells (arrI zI) 93))
 go_enter Tryz.func114,Tryz.ntmps114
 go_upto_region 1 with fail
 change Code.wp _ _ _ _ (w.alloc (.cells (arrI zI) 93))
 generalize w.alloc (.cells (arrI zI) 93)=wa at*
 go_wp2_with fail
 refine(K1.out wa).mono ?_
 rintro e w1 ⟨rfl,hb⟩
 replace B0:=qD (B0.out.step hb)
 replace BE:=qD (BE.out.step' hb)
 clear hb
 go_wp2_with fail
 refine(K1.out w1).mono ?_
 rintro e w2 ⟨rfl,hb⟩
 replace B0:=qD (B0.out.step hb)
 replace BE:=qD (BE.out.step' hb)
 clear hb K1
 go_upto_region 2 with fail
 change Code.wp _ _ _ _ (w2.alloc (.cells (arrI (((L,leastV k),(L,leastV k)),(true,true))) 93))
 have B1:Hid (Blk (w2.alloc (.cells (arrI (((L,leastV k),(L,leastV k)),(true,true))) 93)) w2.heap.size 93 (arrI (((L,leastV k),(L,leastV k)),(true,true)))):=Blk.new_at rfl
 have HNE:Hid (w.heap.size<w2.heap.size):=qD B0.out.lt
 replace B0:=qD (B0.out.alloc (.cells (arrI (((L,leastV k),(L,leastV k)),(true,true))) 93))
 replace BE:=qD (BE.out.alloc BE.out.size (Obj.cells (arrI (((L,leastV k),(L,leastV k)),(true,true))) 93))
 generalize w2.alloc (.cells (arrI (((L,leastV k),(L,leastV k)),(true,true))) 93)=wb at*
 generalize w2.heap.size=g at*
 obtain rfl:=HL.out
 clear HL
 obtain⟨R,hR⟩:∃R:Array Value,R=arrI (rngP k):=⟨_,rfl⟩
 have HR:Hid (aggI (rngP k)=.agg R):=by rw[hR];exact qD rfl
 have hRK:R.size=12:=by rw[hR];rfl
 have HRK:=qD hRK
 have HALL:Hid (R.all (·.oneCell')=true):=by rw[Hid,hR];exact arrI_all _
 have HR2:=qD hR
 have z1:=B1.out.frozen
 clear hR hRK
 have hk:=HK.out
 clear HK
 have hne:=HNE.out
 rcases hk with rfl|rfl|rfl|rfl|rfl|rfl|rfl|rfl|rfl|rfl
 ·obtain⟨⟨a0,a1,a2,a3,a4⟩,⟨b0,b1,b2,b3,b4⟩,b5,b6⟩:=IAt.of_blk B1.out;simp only[Nat.zero_add] at a0 a1 a2 a3 a4 b0 b1 b2 b3 b4 b5 b6
  go_wp2_with (first
   | ((with_reducible show wpList _ _ _ (⟨_,.load 93 _,_,_,_,_⟩::_) _ _);refine wpl_name ?_;intro w5 hw5;have C1:Hid (Blk w5 g 93 R):=(by rw[Hid,hw5];refine Blk.cast9 (cs:=R) ?_;first|exact⟨_,B1.out,by rw[HR2.out];rfl⟩|exact⟨_,(Blk.set_ B1.out _ _),by rw[HR2.out];rfl⟩|exact⟨_,(Blk.set_ (Blk.set_ B1.out _ _) _ _),by rw[HR2.out];rfl⟩);have C0:Hid (Blk w5 w.heap.size 93 (arrI zI)):=(by rw[Hid,hw5];(repeat' refine Blk.far ?_ (by show w.heap.size≠g;omega) _);exact B0.out);have CE:Hid (Below w.heap.size w w5):=(by rw[Hid,hw5];(repeat' refine Below.setCell ?_ (by show w.heap.size≤g;omega) _);exact BE.out);have RG:Hid (w5.rangeAt g 0 R.toList):=range_blk C1.out _ _ fun j v hj=>(by rw[Nat.zero_add,←hj,Array.getElem?_toList]);clear hw5 a0 a1 a2 a3 a4 b0 b1 b2 b3 b4 b5 b6 B0 B1 BE z1;refine wpList_mid_w rfl 93 _ rfl g 0 rfl _ _ RG.out Tryz.underlying93 rfl (by rw[Array.length_toList,HRK.out];kernel_rfl) ?_)
   | ((with_reducible show wpList _ _ _ (⟨_,.store 93 _ _,_,_,_,_⟩::_) _ _);refine wpList_store_row rfl 93 _ _ rfl w.heap.size R rfl rfl 93 _ C0.out (by rw[HRK.out];kernel_rfl) (by rw[HRK.out];rfl) HALL.out ?_))
  exact bodyPost_ret (results_ivc rfl _ _ rfl _ R HRK.out (blk_row C0.out R)) rfl ⟨by rw[HR.out],bel_row CE.out (qL) _⟩
 ·obtain⟨⟨a0,a1,a2,a3,a4⟩,⟨b0,b1,b2,b3,b4⟩,b5,b6⟩:=IAt.of_blk B1.out;simp only[Nat.zero_add] at a0 a1 a2 a3 a4 b0 b1 b2 b3 b4 b5 b6
  go_wp2_with (first
   | ((with_reducible show wpList _ _ _ (⟨_,.load 93 _,_,_,_,_⟩::_) _ _);refine wpl_name ?_;intro w5 hw5;have C1:Hid (Blk w5 g 93 R):=(by rw[Hid,hw5];refine Blk.cast9 (cs:=R) ?_;first|exact⟨_,B1.out,by rw[HR2.out];rfl⟩|exact⟨_,(Blk.set_ B1.out _ _),by rw[HR2.out];rfl⟩|exact⟨_,(Blk.set_ (Blk.set_ B1.out _ _) _ _),by rw[HR2.out];rfl⟩);have C0:Hid (Blk w5 w.heap.size 93 (arrI zI)):=(by rw[Hid,hw5];(repeat' refine Blk.far ?_ (by show w.heap.size≠g;omega) _);exact B0.out);have CE:Hid (Below w.heap.size w w5):=(by rw[Hid,hw5];(repeat' refine Below.setCell ?_ (by show w.heap.size≤g;omega) _);exact BE.out);have RG:Hid (w5.rangeAt g 0 R.toList):=range_blk C1.out _ _ fun j v hj=>(by rw[Nat.zero_add,←hj,Array.getElem?_toList]);clear hw5 a0 a1 a2 a3 a4 b0 b1 b2 b3 b4 b5 b6 B0 B1 BE z1;refine wpList_mid_w rfl 93 _ rfl g 0 rfl _ _ RG.out Tryz.underlying93 rfl (by rw[Array.length_toList,HRK.out];kernel_rfl) ?_)
   | ((with_reducible show wpList _ _ _ (⟨_,.store 93 _ _,_,_,_,_⟩::_) _ _);refine wpList_store_row rfl 93 _ _ rfl w.heap.size R rfl rfl 93 _ C0.out (by rw[HRK.out];kernel_rfl) (by rw[HRK.out];rfl) HALL.out ?_))
  exact bodyPost_ret (results_ivc rfl _ _ rfl _ R HRK.out (blk_row C0.out R)) rfl ⟨by rw[HR.out],bel_row CE.out (qL) _⟩
 ·obtain⟨⟨a0,a1,a2,a3,a4⟩,⟨b0,b1,b2,b3,b4⟩,b5,b6⟩:=IAt.of_blk B1.out;simp only[Nat.zero_add] at a0 a1 a2 a3 a4 b0 b1 b2 b3 b4 b5 b6
  go_wp2_with (first
   | ((with_reducible show wpList _ _ _ (⟨_,.load 93 _,_,_,_,_⟩::_) _ _);refine wpl_name ?_;intro w5 hw5;have C1:Hid (Blk w5 g 93 R):=(by rw[Hid,hw5];refine Blk.cast9 (cs:=R) ?_;first|exact⟨_,B1.out,by rw[HR2.out];rfl⟩|exact⟨_,(Blk.set_ B1.out _ _),by rw[HR2.out];rfl⟩|exact⟨_,(Blk.set_ (Blk.set_ B1.out _ _) _ _),by rw[HR2.out];rfl⟩);have C0:Hid (Blk w5 w.heap.size 93 (arrI zI)):=(by rw[Hid,hw5];(repeat' refine Blk.far ?_ (by show w.heap.size≠g;omega) _);exact B0.out);have CE:Hid (Below w.heap.size w w5):=(by rw[Hid,hw5];(repeat' refine Below.setCell ?_ (by show w.heap.size≤g;omega) _);exact BE.out);have RG:Hid (w5.rangeAt g 0 R.toList):=range_blk C1.out _ _ fun j v hj=>(by rw[Nat.zero_add,←hj,Array.getElem?_toList]);clear hw5 a0 a1 a2 a3 a4 b0 b1 b2 b3 b4 b5 b6 B0 B1 BE z1;refine wpList_mid_w rfl 93 _ rfl g 0 rfl _ _ RG.out Tryz.underlying93 rfl (by rw[Array.length_toList,HRK.out];kernel_rfl) ?_)
   | ((with_reducible show wpList _ _ _ (⟨_,.store 93 _ _,_,_,_,_⟩::_) _ _);refine wpList_store_row rfl 93 _ _ rfl w.heap.size R rfl rfl 93 _ C0.out (by rw[HRK.out];kernel_rfl) (by rw[HRK.out];rfl) HALL.out ?_))
  exact bodyPost_ret (results_ivc rfl _ _ rfl _ R HRK.out (blk_row C0.out R)) rfl ⟨by rw[HR.out],bel_row CE.out (qL) _⟩
 ·obtain⟨⟨a0,a1,a2,a3,a4⟩,⟨b0,b1,b2,b3,b4⟩,b5,b6⟩:=IAt.of_blk B1.out;simp only[Nat.zero_add] at a0 a1 a2 a3 a4 b0 b1 b2 b3 b4 b5 b6
  go_wp2_with (first
   | (go_at_call 180;refine(rleast_any _ _).mono ?_;rintro e w3 ⟨rfl,hb⟩;clear a0 a1 a2 a3 a4 b0 b1 b2 b3 b4 b5 b6 z1;replace B0:=qD (B0.out.step hb);replace B1:=qD (B1.out.step hb);replace BE:=qD (BE.out.step' hb);clear hb;have z1:=B1.out.frozen;obtain⟨⟨a0,a1,a2,a3,a4⟩,⟨b0,b1,b2,b3,b4⟩,b5,b6⟩:=IAt.of_blk B1.out;simp only[Nat.zero_add] at a0 a1 a2 a3 a4 b0 b1 b2 b3 b4 b5 b6)
   | ((with_reducible show wpList _ _ _ (⟨_,.store 32 _ _,_,_,_,_⟩::_) _ _);refine wpl_putHiR (c:=lstC 5) rfl _ _ rfl rfl rfl B1.out B0.out BE.out (by omega) (by omega) (leastV 5) ?_;intro w6 hB1 hB0 hBE;clear a0 a1 a2 a3 a4 b0 b1 b2 b3 b4 b5 b6 z1;clear B0 B1 BE;have B0:=qD hB0;have B1:=qD hB1;have BE:=qD hBE;clear hB0 hB1 hBE;have z1:=B1.out.frozen;obtain⟨⟨a0,a1,a2,a3,a4⟩,⟨b0,b1,b2,b3,b4⟩,b5,b6⟩:=IAt.of_blk B1.out;simp only[Nat.zero_add] at a0 a1 a2 a3 a4 b0 b1 b2 b3 b4 b5 b6)
   | ((with_reducible show wpList _ _ _ (⟨_,.load 93 _,_,_,_,_⟩::_) _ _);refine wpl_name ?_;intro w5 hw5;have C1:Hid (Blk w5 g 93 R):=(by rw[Hid,hw5];refine Blk.cast9 (cs:=R) ?_;first|exact⟨_,B1.out,by rw[HR2.out];rfl⟩|exact⟨_,(Blk.set_ B1.out _ _),by rw[HR2.out];rfl⟩|exact⟨_,(Blk.set_ (Blk.set_ B1.out _ _) _ _),by rw[HR2.out];rfl⟩);have C0:Hid (Blk w5 w.heap.size 93 (arrI zI)):=(by rw[Hid,hw5];(repeat' refine Blk.far ?_ (by show w.heap.size≠g;omega) _);exact B0.out);have CE:Hid (Below w.heap.size w w5):=(by rw[Hid,hw5];(repeat' refine Below.setCell ?_ (by show w.heap.size≤g;omega) _);exact BE.out);have RG:Hid (w5.rangeAt g 0 R.toList):=range_blk C1.out _ _ fun j v hj=>(by rw[Nat.zero_add,←hj,Array.getElem?_toList]);clear hw5 a0 a1 a2 a3 a4 b0 b1 b2 b3 b4 b5 b6 B0 B1 BE z1;refine wpList_mid_w rfl 93 _ rfl g 0 rfl _ _ RG.out Tryz.underlying93 rfl (by rw[Array.length_toList,HRK.out];kernel_rfl) ?_)
   | ((with_reducible show wpList _ _ _ (⟨_,.store 93 _ _,_,_,_,_⟩::_) _ _);refine wpList_store_row rfl 93 _ _ rfl w.heap.size R rfl rfl 93 _ C0.out (by rw[HRK.out];kernel_rfl) (by rw[HRK.out];rfl) HALL.out ?_))
  exact bodyPost_ret (results_ivc rfl _ _ rfl _ R HRK.out (blk_row C0.out R)) rfl ⟨by rw[HR.out],bel_row CE.out (qL) _⟩
 ·obtain⟨⟨a0,a1,a2,a3,a4⟩,⟨b0,b1,b2,b3,b4⟩,b5,b6⟩:=IAt.of_blk B1.out;simp only[Nat.zero_add] at a0 a1 a2 a3 a4 b0 b1 b2 b3 b4 b5 b6
  go_wp2_with (first
   | (go_at_call 180;refine(rleast_any _ _).mono ?_;rintro e w3 ⟨rfl,hb⟩;clear a0 a1 a2 a3 a4 b0 b1 b2 b3 b4 b5 b6 z1;replace B0:=qD (B0.out.step hb);replace B1:=qD (B1.out.step hb);replace BE:=qD (BE.out.step' hb);clear hb;have z1:=B1.out.frozen;obtain⟨⟨a0,a1,a2,a3,a4⟩,⟨b0,b1,b2,b3,b4⟩,b5,b6⟩:=IAt.of_blk B1.out;simp only[Nat.zero_add] at a0 a1 a2 a3 a4 b0 b1 b2 b3 b4 b5 b6)
   | ((with_reducible show wpList _ _ _ (⟨_,.store 32 _ _,_,_,_,_⟩::_) _ _);refine wpl_putHiR (c:=lstC 6) rfl _ _ rfl rfl rfl B1.out B0.out BE.out (by omega) (by omega) (leastV 6) ?_;intro w6 hB1 hB0 hBE;clear a0 a1 a2 a3 a4 b0 b1 b2 b3 b4 b5 b6 z1;clear B0 B1 BE;have B0:=qD hB0;have B1:=qD hB1;have BE:=qD hBE;clear hB0 hB1 hBE;have z1:=B1.out.frozen;obtain⟨⟨a0,a1,a2,a3,a4⟩,⟨b0,b1,b2,b3,b4⟩,b5,b6⟩:=IAt.of_blk B1.out;simp only[Nat.zero_add] at a0 a1 a2 a3 a4 b0 b1 b2 b3 b4 b5 b6)
   | ((with_reducible show wpList _ _ _ (⟨_,.load 93 _,_,_,_,_⟩::_) _ _);refine wpl_name ?_;intro w5 hw5;have C1:Hid (Blk w5 g 93 R):=(by rw[Hid,hw5];refine Blk.cast9 (cs:=R) ?_;first|exact⟨_,B1.out,by rw[HR2.out];rfl⟩|exact⟨_,(Blk.set_ B1.out _ _),by rw[HR2.out];rfl⟩|exact⟨_,(Blk.set_ (Blk.set_ B1.out _ _) _ _),by rw[HR2.out];rfl⟩);have C0:Hid (Blk w5 w.heap.size 93 (arrI zI)):=(by rw[Hid,hw5];(repeat' refine Blk.far ?_ (by show w.heap.size≠g;omega) _);exact B0.out);have CE:Hid (Below w.heap.size w w5):=(by rw[Hid,hw5];(repeat' refine Below.setCell ?_ (by show w.heap.size≤g;omega) _);exact BE.out);have RG:Hid (w5.rangeAt g 0 R.toList):=range_blk C1.out _ _ fun j v hj=>(by rw[Nat.zero_add,←hj,Array.getElem?_toList]);clear hw5 a0 a1 a2 a3 a4 b0 b1 b2 b3 b4 b5 b6 B0 B1 BE z1;refine wpList_mid_w rfl 93 _ rfl g 0 rfl _ _ RG.out Tryz.underlying93 rfl (by rw[Array.length_toList,HRK.out];kernel_rfl) ?_)
   | ((with_reducible show wpList _ _ _ (⟨_,.store 93 _ _,_,_,_,_⟩::_) _ _);refine wpList_store_row rfl 93 _ _ rfl w.heap.size R rfl rfl 93 _ C0.out (by rw[HRK.out];kernel_rfl) (by rw[HRK.out];rfl) HALL.out ?_))
  exact bodyPost_ret (results_ivc rfl _ _ rfl _ R HRK.out (blk_row C0.out R)) rfl ⟨by rw[HR.out],bel_row CE.out (qL) _⟩
 ·obtain⟨⟨a0,a1,a2,a3,a4⟩,⟨b0,b1,b2,b3,b4⟩,b5,b6⟩:=IAt.of_blk B1.out;simp only[Nat.zero_add] at a0 a1 a2 a3 a4 b0 b1 b2 b3 b4 b5 b6
  go_wp2_with (first
   | (go_at_call 180;refine(rleast_any _ _).mono ?_;rintro e w3 ⟨rfl,hb⟩;clear a0 a1 a2 a3 a4 b0 b1 b2 b3 b4 b5 b6 z1;replace B0:=qD (B0.out.step hb);replace B1:=qD (B1.out.step hb);replace BE:=qD (BE.out.step' hb);clear hb;have z1:=B1.out.frozen;obtain⟨⟨a0,a1,a2,a3,a4⟩,⟨b0,b1,b2,b3,b4⟩,b5,b6⟩:=IAt.of_blk B1.out;simp only[Nat.zero_add] at a0 a1 a2 a3 a4 b0 b1 b2 b3 b4 b5 b6)
   | ((with_reducible show wpList _ _ _ (⟨_,.store 32 _ _,_,_,_,_⟩::_) _ _);refine wpl_putHiR (c:=lstC 8) rfl _ _ rfl rfl rfl B1.out B0.out BE.out (by omega) (by omega) (leastV 8) ?_;intro w6 hB1 hB0 hBE;clear a0 a1 a2 a3 a4 b0 b1 b2 b3 b4 b5 b6 z1;clear B0 B1 BE;have B0:=qD hB0;have B1:=qD hB1;have BE:=qD hBE;clear hB0 hB1 hBE;have z1:=B1.out.frozen;obtain⟨⟨a0,a1,a2,a3,a4⟩,⟨b0,b1,b2,b3,b4⟩,b5,b6⟩:=IAt.of_blk B1.out;simp only[Nat.zero_add] at a0 a1 a2 a3 a4 b0 b1 b2 b3 b4 b5 b6)
   | ((with_reducible show wpList _ _ _ (⟨_,.load 93 _,_,_,_,_⟩::_) _ _);refine wpl_name ?_;intro w5 hw5;have C1:Hid (Blk w5 g 93 R):=(by rw[Hid,hw5];refine Blk.cast9 (cs:=R) ?_;first|exact⟨_,B1.out,by rw[HR2.out];rfl⟩|exact⟨_,(Blk.set_ B1.out _ _),by rw[HR2.out];rfl⟩|exact⟨_,(Blk.set_ (Blk.set_ B1.out _ _) _ _),by rw[HR2.out];rfl⟩);have C0:Hid (Blk w5 w.heap.size 93 (arrI zI)):=(by rw[Hid,hw5];(repeat' refine Blk.far ?_ (by show w.heap.size≠g;omega) _);exact B0.out);have CE:Hid (Below w.heap.size w w5):=(by rw[Hid,hw5];(repeat' refine Below.setCell ?_ (by show w.heap.size≤g;omega) _);exact BE.out);have RG:Hid (w5.rangeAt g 0 R.toList):=range_blk C1.out _ _ fun j v hj=>(by rw[Nat.zero_add,←hj,Array.getElem?_toList]);clear hw5 a0 a1 a2 a3 a4 b0 b1 b2 b3 b4 b5 b6 B0 B1 BE z1;refine wpList_mid_w rfl 93 _ rfl g 0 rfl _ _ RG.out Tryz.underlying93 rfl (by rw[Array.length_toList,HRK.out];kernel_rfl) ?_)
   | ((with_reducible show wpList _ _ _ (⟨_,.store 93 _ _,_,_,_,_⟩::_) _ _);refine wpList_store_row rfl 93 _ _ rfl w.heap.size R rfl rfl 93 _ C0.out (by rw[HRK.out];kernel_rfl) (by rw[HRK.out];rfl) HALL.out ?_))
  exact bodyPost_ret (results_ivc rfl _ _ rfl _ R HRK.out (blk_row C0.out R)) rfl ⟨by rw[HR.out],bel_row CE.out (qL) _⟩
 ·obtain⟨⟨a0,a1,a2,a3,a4⟩,⟨b0,b1,b2,b3,b4⟩,b5,b6⟩:=IAt.of_blk B1.out;simp only[Nat.zero_add] at a0 a1 a2 a3 a4 b0 b1 b2 b3 b4 b5 b6
  go_wp2_with (first
   | (go_at_call 180;refine(rleast_any _ _).mono ?_;rintro e w3 ⟨rfl,hb⟩;clear a0 a1 a2 a3 a4 b0 b1 b2 b3 b4 b5 b6 z1;replace B0:=qD (B0.out.step hb);replace B1:=qD (B1.out.step hb);replace BE:=qD (BE.out.step' hb);clear hb;have z1:=B1.out.frozen;obtain⟨⟨a0,a1,a2,a3,a4⟩,⟨b0,b1,b2,b3,b4⟩,b5,b6⟩:=IAt.of_blk B1.out;simp only[Nat.zero_add] at a0 a1 a2 a3 a4 b0 b1 b2 b3 b4 b5 b6)
   | ((with_reducible show wpList _ _ _ (⟨_,.store 32 _ _,_,_,_,_⟩::_) _ _);refine wpl_putHiR (c:=lstC 9) rfl _ _ rfl rfl rfl B1.out B0.out BE.out (by omega) (by omega) (leastV 9) ?_;intro w6 hB1 hB0 hBE;clear a0 a1 a2 a3 a4 b0 b1 b2 b3 b4 b5 b6 z1;clear B0 B1 BE;have B0:=qD hB0;have B1:=qD hB1;have BE:=qD hBE;clear hB0 hB1 hBE;have z1:=B1.out.frozen;obtain⟨⟨a0,a1,a2,a3,a4⟩,⟨b0,b1,b2,b3,b4⟩,b5,b6⟩:=IAt.of_blk B1.out;simp only[Nat.zero_add] at a0 a1 a2 a3 a4 b0 b1 b2 b3 b4 b5 b6)
   | ((with_reducible show wpList _ _ _ (⟨_,.load 93 _,_,_,_,_⟩::_) _ _);refine wpl_name ?_;intro w5 hw5;have C1:Hid (Blk w5 g 93 R):=(by rw[Hid,hw5];refine Blk.cast9 (cs:=R) ?_;first|exact⟨_,B1.out,by rw[HR2.out];rfl⟩|exact⟨_,(Blk.set_ B1.out _ _),by rw[HR2.out];rfl⟩|exact⟨_,(Blk.set_ (Blk.set_ B1.out _ _) _ _),by rw[HR2.out];rfl⟩);have C0:Hid (Blk w5 w.heap.size 93 (arrI zI)):=(by rw[Hid,hw5];(repeat' refine Blk.far ?_ (by show w.heap.size≠g;omega) _);exact B0.out);have CE:Hid (Below w.heap.size w w5):=(by rw[Hid,hw5];(repeat' refine Below.setCell ?_ (by show w.heap.size≤g;omega) _);exact BE.out);have RG:Hid (w5.rangeAt g 0 R.toList):=range_blk C1.out _ _ fun j v hj=>(by rw[Nat.zero_add,←hj,Array.getElem?_toList]);clear hw5 a0 a1 a2 a3 a4 b0 b1 b2 b3 b4 b5 b6 B0 B1 BE z1;refine wpList_mid_w rfl 93 _ rfl g 0 rfl _ _ RG.out Tryz.underlying93 rfl (by rw[Array.length_toList,HRK.out];kernel_rfl) ?_)
   | ((with_reducible show wpList _ _ _ (⟨_,.store 93 _ _,_,_,_,_⟩::_) _ _);refine wpList_store_row rfl 93 _ _ rfl w.heap.size R rfl rfl 93 _ C0.out (by rw[HRK.out];kernel_rfl) (by rw[HRK.out];rfl) HALL.out ?_))
  exact bodyPost_ret (results_ivc rfl _ _ rfl _ R HRK.out (blk_row C0.out R)) rfl ⟨by rw[HR.out],bel_row CE.out (qL) _⟩
 ·obtain⟨⟨a0,a1,a2,a3,a4⟩,⟨b0,b1,b2,b3,b4⟩,b5,b6⟩:=IAt.of_blk B1.out;simp only[Nat.zero_add] at a0 a1 a2 a3 a4 b0 b1 b2 b3 b4 b5 b6
  go_wp2_with (first
   | ((with_reducible show wpList _ _ _ (⟨_,.load 93 _,_,_,_,_⟩::_) _ _);refine wpl_name ?_;intro w5 hw5;have C1:Hid (Blk w5 g 93 R):=(by rw[Hid,hw5];refine Blk.cast9 (cs:=R) ?_;first|exact⟨_,B1.out,by rw[HR2.out];rfl⟩|exact⟨_,(Blk.set_ B1.out _ _),by rw[HR2.out];rfl⟩|exact⟨_,(Blk.set_ (Blk.set_ B1.out _ _) _ _),by rw[HR2.out];rfl⟩);have C0:Hid (Blk w5 w.heap.size 93 (arrI zI)):=(by rw[Hid,hw5];(repeat' refine Blk.far ?_ (by show w.heap.size≠g;omega) _);exact B0.out);have CE:Hid (Below w.heap.size w w5):=(by rw[Hid,hw5];(repeat' refine Below.setCell ?_ (by show w.heap.size≤g;omega) _);exact BE.out);have RG:Hid (w5.rangeAt g 0 R.toList):=range_blk C1.out _ _ fun j v hj=>(by rw[Nat.zero_add,←hj,Array.getElem?_toList]);clear hw5 a0 a1 a2 a3 a4 b0 b1 b2 b3 b4 b5 b6 B0 B1 BE z1;refine wpList_mid_w rfl 93 _ rfl g 0 rfl _ _ RG.out Tryz.underlying93 rfl (by rw[Array.length_toList,HRK.out];kernel_rfl) ?_)
   | ((with_reducible show wpList _ _ _ (⟨_,.store 93 _ _,_,_,_,_⟩::_) _ _);refine wpList_store_row rfl 93 _ _ rfl w.heap.size R rfl rfl 93 _ C0.out (by rw[HRK.out];kernel_rfl) (by rw[HRK.out];rfl) HALL.out ?_))
  exact bodyPost_ret (results_ivc rfl _ _ rfl _ R HRK.out (blk_row C0.out R)) rfl ⟨by rw[HR.out],bel_row CE.out (qL) _⟩
 ·obtain⟨⟨a0,a1,a2,a3,a4⟩,⟨b0,b1,b2,b3,b4⟩,b5,b6⟩:=IAt.of_blk B1.out;simp only[Nat.zero_add] at a0 a1 a2 a3 a4 b0 b1 b2 b3 b4 b5 b6
  go_wp2_with (first
   | ((with_reducible show wpList _ _ _ (⟨_,.load 93 _,_,_,_,_⟩::_) _ _);refine wpl_name ?_;intro w5 hw5;have C1:Hid (Blk w5 g 93 R):=(by rw[Hid,hw5];refine Blk.cast9 (cs:=R) ?_;first|exact⟨_,B1.out,by rw[HR2.out];rfl⟩|exact⟨_,(Blk.set_ B1.out _ _),by rw[HR2.out];rfl⟩|exact⟨_,(Blk.set_ (Blk.set_ B1.out _ _) _ _),by rw[HR2.out];rfl⟩);have C0:Hid (Blk w5 w.heap.size 93 (arrI zI)):=(by rw[Hid,hw5];(repeat' refine Blk.far ?_ (by show w.heap.size≠g;omega) _);exact B0.out);have CE:Hid (Below w.heap.size w w5):=(by rw[Hid,hw5];(repeat' refine Below.setCell ?_ (by show w.heap.size≤g;omega) _);exact BE.out);have RG:Hid (w5.rangeAt g 0 R.toList):=range_blk C1.out _ _ fun j v hj=>(by rw[Nat.zero_add,←hj,Array.getElem?_toList]);clear hw5 a0 a1 a2 a3 a4 b0 b1 b2 b3 b4 b5 b6 B0 B1 BE z1;refine wpList_mid_w rfl 93 _ rfl g 0 rfl _ _ RG.out Tryz.underlying93 rfl (by rw[Array.length_toList,HRK.out];kernel_rfl) ?_)
   | ((with_reducible show wpList _ _ _ (⟨_,.store 93 _ _,_,_,_,_⟩::_) _ _);refine wpList_store_row rfl 93 _ _ rfl w.heap.size R rfl rfl 93 _ C0.out (by rw[HRK.out];kernel_rfl) (by rw[HRK.out];rfl) HALL.out ?_))
  exact bodyPost_ret (results_ivc rfl _ _ rfl _ R HRK.out (blk_row C0.out R)) rfl ⟨by rw[HR.out],bel_row CE.out (qL) _⟩
 ·obtain⟨⟨a0,a1,a2,a3,a4⟩,⟨b0,b1,b2,b3,b4⟩,b5,b6⟩:=IAt.of_blk B1.out;simp only[Nat.zero_add] at a0 a1 a2 a3 a4 b0 b1 b2 b3 b4 b5 b6
  go_wp2_with (first
   | ((with_reducible show wpList _ _ _ (⟨_,.load 93 _,_,_,_,_⟩::_) _ _);refine wpl_name ?_;intro w5 hw5;have C1:Hid (Blk w5 g 93 R):=(by rw[Hid,hw5];refine Blk.cast9 (cs:=R) ?_;first|exact⟨_,B1.out,by rw[HR2.out];rfl⟩|exact⟨_,(Blk.set_ B1.out _ _),by rw[HR2.out];rfl⟩|exact⟨_,(Blk.set_ (Blk.set_ B1.out _ _) _ _),by rw[HR2.out];rfl⟩);have C0:Hid (Blk w5 w.heap.size 93 (arrI zI)):=(by rw[Hid,hw5];(repeat' refine Blk.far ?_ (by show w.heap.size≠g;omega) _);exact B0.out);have CE:Hid (Below w.heap.size w w5):=(by rw[Hid,hw5];(repeat' refine Below.setCell ?_ (by show w.heap.size≤g;omega) _);exact BE.out);have RG:Hid (w5.rangeAt g 0 R.toList):=range_blk C1.out _ _ fun j v hj=>(by rw[Nat.zero_add,←hj,Array.getElem?_toList]);clear hw5 a0 a1 a2 a3 a4 b0 b1 b2 b3 b4 b5 b6 B0 B1 BE z1;refine wpList_mid_w rfl 93 _ rfl g 0 rfl _ _ RG.out Tryz.underlying93 rfl (by rw[Array.length_toList,HRK.out];kernel_rfl) ?_)
   | ((with_reducible show wpList _ _ _ (⟨_,.store 93 _ _,_,_,_,_⟩::_) _ _);refine wpList_store_row rfl 93 _ _ rfl w.heap.size R rfl rfl 93 _ C0.out (by rw[HRK.out];kernel_rfl) (by rw[HRK.out];rfl) HALL.out ?_))
  exact bodyPost_ret (results_ivc rfl _ _ rfl _ R HRK.out (blk_row C0.out R)) rfl ⟨by rw[HR.out],bel_row CE.out (qL) _⟩
theorem rcomparison_any(p:PrT)(w:World)(ho:p.op=4∨p.op=5∨p.op=6∨p.op=7)(h:1≤p.arg.1.k∧p.arg.1.k≤11)(h6:p.arg.1.k≠6):
 Calls Tryz.prog 112 #[aggPr p] w fun e w'=>e=.returned (aggI (limP p.op (rngP p.arg.1.k) p.arg))∧Below w.heap.size w w':=by
 obtain⟨q,hq⟩:∃q,q=rngP p.arg.1.k:=⟨_,rfl⟩
 have K1:Hid (∀w,Calls Tryz.prog 114 #[.int .i64 p.arg.1.k] w fun e w'=>e=.returned (aggI q)∧Below w.heap.size w w'):=by rw[hq];exact qD fun w=>rrange_any _ w h h6
 rw[←hq]
 clear hq h h6
 have B0:Hid (Blk ((w.alloc (.cells (arrPr p) 41)).alloc (.cells (arrI zI) 93)) w.heap.size 41 (arrPr p)):=(Blk.new_at rfl).alloc _
 have B2:Hid (Blk ((w.alloc (.cells (arrPr p) 41)).alloc (.cells (arrI zI) 93)) (w.heap.size+1) 93 (arrI zI)):=Blk.new_at (by simp)
 have BE:Hid (Below w.heap.size w ((w.alloc (.cells (arrPr p) 41)).alloc (.cells (arrI zI) 93))):=((Below.refl _ _).alloc (qL) _).alloc (by simp) _
 go_enter Tryz.func112,Tryz.ntmps112
 go_upto_region 1 with fail
 change Code.wp _ _ _ _ ((w.alloc (.cells (arrPr p) 41)).alloc (.cells (arrI zI) 93))
 generalize ((w.alloc (.cells (arrPr p) 41)).alloc (.cells (arrI zI) 93))=wa at*
 have f2:=(range_parg B0.out) 0 _ rfl
 simp only[Nat.reduceAdd] at f2
 go_wp2_with fail
 refine(K1.out wa).mono ?_
 rintro e w1 ⟨rfl,hb⟩
 replace B0:=qD (B0.out.step hb)
 replace B2:=qD (B2.out.step hb)
 replace BE:=qD (BE.out.step' hb)
 clear hb K1 f2
 go_upto_region 2 with fail
 change Code.wp _ _ _ _ (w1.alloc (.cells (arrI q) 93))
 have B1:Hid (Blk (w1.alloc (.cells (arrI q) 93)) w1.heap.size 93 (arrI q)):=Blk.new_at rfl
 have hne:w.heap.size+1<w1.heap.size:=B2.out.lt
 replace B0:=qD (B0.out.alloc (.cells (arrI q) 93))
 replace B2:=qD (B2.out.alloc (.cells (arrI q) 93))
 replace BE:=qD (BE.out.alloc BE.out.size (Obj.cells (arrI q) 93))
 generalize w1.alloc (.cells (arrI q) 93)=wb at*
 generalize w1.heap.size=g at*
 obtain⟨d0,_,_,_,_,_,_,_⟩:=pr_cells B0.out
 have f2:=(range_parg B0.out) 0 _ rfl
 have f3:=(range_parg B0.out) 1 _ rfl
 have f4:=(range_parg B0.out) 2 _ rfl
 have f5:=(range_parg B0.out) 3 _ rfl
 have f6:=(range_parg B0.out) 4 _ rfl
 simp only[Nat.reduceAdd] at f2 f3 f4 f5 f6
 obtain⟨⟨a0,a1,a2,a3,a4⟩,⟨b0,b1,b2,b3,b4⟩,b5,b6⟩:=IAt.of_blk B1.out
 simp only[Nat.zero_add] at a0 a1 a2 a3 a4 b0 b1 b2 b3 b4 b5 b6
 have z1:=B1.out.frozen
 have RA:=qD (range_parg B0.out)
 obtain⟨op,hop⟩:∃op,op=p.op:=⟨_,rfl⟩
 rw[←hop] at d0 ho
 have HOP:=qD hop
 clear hop
 obtain⟨R,hR⟩:∃R:Array Value,R=arrI (limP op q p.arg):=⟨_,rfl⟩
 have HR2:=qD hR
 have HRK:Hid (R.size=12):=by rw[hR];exact qD rfl
 have HALL:Hid (R.all (·.oneCell')=true):=by rw[Hid,hR];exact arrI_all _
 have HAG:Hid (aggI (limP op q p.arg)=.agg R):=by rw[hR];exact qD rfl
 clear hR
 rcases ho with rfl|rfl|rfl|rfl
 all_goals
  go_wp2_with (first
   | ((with_reducible show wpList _ _ _ (⟨_,.load 93 _,_,_,_,_⟩::_) _ _);refine wpl_name ?_;intro w5 hw5
      have C0:Hid (Blk w5 g 93 R):=(by
       rw[Hid,hw5]
       refine Blk.cast9 (cs:=R) ?_
       exact⟨_,(Blk.set_ (Blk.set_ (Blk.set_ (Blk.set_ (Blk.set_ (Blk.set_ B1.out _ _) _ _) _ _) _ _) _ _) _ _),by rw[HR2.out];rfl⟩)
      have C2:Hid (Blk w5 (w.heap.size+1) 93 (arrI zI)):=(by
       rw[Hid,hw5]
       repeat' refine Blk.far ?_ (by show w.heap.size+1≠g;omega) _
       exact B2.out)
      have CE:Hid (Below w.heap.size w w5):=(by
       rw[Hid,hw5]
       repeat' refine Below.setCell ?_ (by show w.heap.size≤g;omega) _
       exact BE.out)
      have RG:Hid (w5.rangeAt g 0 R.toList):=range_blk C0.out _ _ fun j v hj=>(by rw[Nat.zero_add,←hj,Array.getElem?_toList])
      clear hw5 a0 a1 a2 a3 a4 b0 b1 b2 b3 b4 b5 b6 B0 B1 B2 BE z1 f2 f3 f4 f5 f6 d0
      refine wpList_mid_w rfl 93 _ rfl g 0 rfl _ _ RG.out Tryz.underlying93 rfl (by rw[Array.length_toList,HRK.out];kernel_rfl) ?_)
   | ((with_reducible show wpList _ _ _ (⟨_,.store 93 _ _,_,_,_,_⟩::_) _ _);refine wpList_store_row rfl 93 _ _ rfl (w.heap.size+1) R rfl rfl 93 _ C2.out (by rw[HRK.out];kernel_rfl) (by rw[HRK.out];rfl) HALL.out ?_))
  exact bodyPost_ret (results_ivc rfl _ _ rfl _ R HRK.out (blk_row C2.out R)) rfl ⟨by rw[←HOP.out,HAG.out],bel_row CE.out (by omega) _⟩
end Go.Proofs.YtfkdihlbaghajaaGreatDoor
