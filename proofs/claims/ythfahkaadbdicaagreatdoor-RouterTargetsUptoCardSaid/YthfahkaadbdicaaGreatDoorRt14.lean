/- Parts of the proof, joined: RtRef, RtSmall, RtShelf, RtTgt, RtLaw, PrShape. -/
import Derived.Test.YthfahkaadbdicaaGreatDoorRt1
import Derived.Test.YthfahkaadbdicaaGreatDoorRt12
import Derived.Test.YthfahkaadbdicaaGreatDoorRt13
import Derived.Test.YthfahkaadbdicaaGreatDoorProg
import Derived.Laws.OwnMore
import Derived.Shelf.Sort.Plain
import Derived.Ground.Names2Prog
import Derived.Ground.SlgnProg
import Derived.Shelf.Slices.CompactI
import Derived.Shelf.Slices.In.SortNone
import Derived.Shelf.Slices.Empties2
import Derived.Sort.OwnSorted
import Derived.Sort.Grow
import Derived.Lib.OwnBridge
set_option maxRecDepth 100000
set_option maxHeartbeats 16000000
set_option linter.unusedSimpArgs false
open Go.Proofs.Tryz
open ByteArray (empty)
namespace Go.Proofs.YthfahkaadbdicaaGreatDoor
open Go.RowKit
theorem cMx{P:Program}{ev:Operand->Value}{o:Oper}{t:TypeId}{x:Operand}{p v:Value}{W:World}(ho:o.op=.load t x)(hx:ev x=p)(h:(Instr.loadAt t p).run P W=.ok v W):(execOp ev o).run P W=.ok (.value v) W:=by
 unfold execOp;simp only[ho,hx,Ng,h,NT,OI]
theorem uv(c:Ch)(p:BB)(w:World):Calls prog 54 #[tF c,uX p] w fun e w'=>e=.returned (.bool (bG c p))/\Below w.heap.size w w':=by
 have BE:Hid (Below w.heap.size w ((w.alloc (.cells (ez c).toArray 92)).alloc (.cells (jE p).toArray 49))):=((LH _ _).alloc (qL) _).alloc (by simp) _;cases h1:(p.2.toList==[])
 ·cases h2:Op.bytesLess c.lo.toList p.2.toList
  ·have HV:Hid (bG c p=false):=by unfold Hid bG;rw[h1,h2];rfl
   go_enter Pq,Pf;go_wp2_with fail;go_ret;exact⟨by rw[HV.out];rfl,BE.out⟩
  ·cases h3:(c.hi.toList==[])
   ·have HV:Hid (bG c p=Op.bytesLess p.1.toList c.hi.toList):=by unfold Hid bG;rw[h1,h2,h3];rfl
    go_enter Pq,Pf;go_wp2_with fail;go_ret;exact⟨by rw[HV.out];rfl,BE.out⟩
   ·have HV:Hid (bG c p=true):=by unfold Hid bG;rw[h1,h2,h3];rfl
    go_enter Pq,Pf;go_wp2_with fail;go_ret;exact⟨by rw[HV.out];rfl,BE.out⟩
 ·cases h3:(c.hi.toList==[])
  ·have HV:Hid (bG c p=Op.bytesLess p.1.toList c.hi.toList):=by unfold Hid bG;rw[h1,h3];rfl
   go_enter Pq,Pf;go_wp2_with fail;go_ret;exact⟨by rw[HV.out];rfl,BE.out⟩
  ·have HV:Hid (bG c p=true):=by unfold Hid bG;rw[h1,h3];rfl
   go_enter Pq,Pf;go_wp2_with fail;go_ret;exact⟨by rw[HV.out];rfl,BE.out⟩
def xu(L:List B2)(s:Int)(c:Ch):Bool:=c.sh==s&&L.any (bG c)
def jK(cs:List Ch)(L:List B2)(n:Nat):List Int:=((List.range n).map Int.ofNat).filter fun s=>cs.any (xu L s)
theorem Au(cs:List Ch)(L:List B2)(n:Nat):jK cs L (n+1)=jK cs L n++if cs.any (xu L n) then [(n:Int)] else []:=by
 unfold jK;rw[List.range_succ,Lc,List.filter_append]
 congr 1
 simp only[Mb,NR,OB,List.filter_nil];rfl
theorem FH(cs:List Ch)(L:List B2)(n:Nat):(jK cs L n).length<=n:=by
 unfold jK;refine Lt (List.length_filter_le _ _) ?_;simp
theorem rZ{α:Type}{l:List α}{i:Nat}{q:α}(f:α->Bool)(h:l[i]?=some q):(l.take (i+1)).any f=((l.take i).any f||f q):=by
 rw[MW,h,List.any_append];simp
theorem tO(R:Ro)(a:RA)(p:ao)(Q:List B2->Prop)(w:World)(h:RR w a R)(hcn:a.cn<=64)(hRG:∀wr,Below w.heap.size w wr->Calls prog 53 #[.agg #[.slice a.KA a.kn a.kc,.bool R.ha],am p] wr fun e w'=>∃A' n c' L,e=.returned (.slice A' n c')/\Q L/\SR 2 aY w' A' n c' L/\n<=1000000000/\Below wr.heap.size wr w'):
 Calls prog 17 #[ft a R,am p] w fun e w'=>∃A' n c' L,e=.returned (.slice A' n c')/\Q L/\SR 1 cW w' A' n c' (jK R.cs L 8)/\Below w.heap.size w w':=by
 obtain⟨j0,hj0,hy0,hy1,hy2⟩:=Mc pD;obtain⟨KA,kn,kc,CA,cn,cc⟩:=a;simp only at hcn hRG;have HRG:=qD hRG;have HSR:=qD h.cs.sr;have HLN:Hid (R.cs.length=cn):=h.cs.ln.symm;have B0:Hid (aE ((w.alloc (.cells (bW ⟨KA,kn,kc,CA,cn,cc⟩ R) 53)).alloc (.cells (aH p) 38)) w.heap.size 53 (bW ⟨KA,kn,kc,CA,cn,cc⟩ R)):=(aE.Jq rfl).alloc _;have B1:Hid (aE ((w.alloc (.cells (bW ⟨KA,kn,kc,CA,cn,cc⟩ R) 53)).alloc (.cells (aH p) 38)) (w.heap.size+1) 38 (aH p)):=aE.Jq (by simp);have BE:Hid (Below w.heap.size w ((w.alloc (.cells (bW ⟨KA,kn,kc,CA,cn,cc⟩ R) 53)).alloc (.cells (aH p) 38))):=((LH _ _).alloc (qL) _).alloc (by simp) _;clear h hRG;go_enter func17,ntmps17;go_upto_region 1 with fail
 change Code.wp _ _ _ _ ((w.alloc (.cells (bW ⟨KA,kn,kc,CA,cn,cc⟩ R) 53)).alloc (.cells (aH p) 38));generalize ((w.alloc (.cells (bW ⟨KA,kn,kc,CA,cn,cc⟩ R) 53)).alloc (.cells (aH p) 38))=wa at*;have q1:=B0.out.cell 1;have q2:=B0.out.cell 2;simp at q1 q2;have RF:=qD (dy B1.out)
 go_upto_region 2 with(first
  | ((with_reducible show wpList _ _ _ (⟨_,.load 38 _,_,_,_,_⟩::_) _ _);refine aG rfl 38 _ rfl (w.heap.size+1) 0 rfl _ _ RF.out Ly rfl (by kernel_rfl) ?_)
  | (go_at_call 53;refine(HRG.out _ BE.out).mono ?_;rintro e wb ⟨LA,ln,lc,L,rfl,hql0,hsr,hln,hb⟩))
 have HQQ:=qD hql0;clear hql0;have HLS:=qD hsr;have HLL:=qD hsr.ln;replace B0:=qD (B0.out.step hb);replace BE:=qD (BE.out.Jp hb);replace HSR:=qD (HSR.out.step BE.out);clear hsr hb HRG B1 RF q1 q2;go_upto_region 4 with fail
 go_loopw [6,7] (fun v6 v7 wr=>∃(s m:Nat) (A6:Option Addr) (c6:Nat),s<=8/\v7=.int .i64 s/\v6=.slice A6 m c6/\Below wb.heap.size wb wr/\wr.ownsRow wb.heap.size 3 1 (.slice A6 m c6) m (aJ cW (jK R.cs L s))/\m<=s) (fun _ v7 _=>8-(intOf v7).toNat)
 ·exact⟨0,0,none,0,LQ _,rfl,rfl,LH _ _,bC _ _ _ _,qL⟩
 case round=>
  obtain⟨s,m,A6,c6,hs,rfl,rfl,hbb,hown,hms⟩:=hrel;have BB:=qD hbb;have HO:=qD hown;clear hbb hown;by_cases hls:s<8
  ·have s0:(0:Int)<=(s:Int):=by omega
   have s1:(s:Int)<8:=by omega
   go_upto_region 8 with fail
   go_loopw [8,9] (fun v8 v9 w6=>∃(i:Nat) (b:Bool),i<=cn/\v9=.int .i64 i/\v8=.bool b/\Below wb.heap.size wb w6/\w6.ownsRow wb.heap.size 3 1 (.slice A6 m c6) m (aJ cW (jK R.cs L s))/\b=(R.cs.take i).any (xu L s)) (fun _ v9 _=>cn-(intOf v9).toNat)
   ·exact⟨0,false,LQ _,rfl,rfl,BB.out,HO.out,rfl⟩
   case round=>
    clear BB HO;obtain⟨i,b,hi,rfl,rfl,hbb,hown,hbe⟩:=hrel;have BB:=qD hbb;have HO:=qD hown;have HBE:=qD hbe;have q5:=(B0.out.step hbb).cell 5;simp at q5;clear hbb hown hbe;by_cases hli:i<cn
    ·obtain⟨cb,off,q,hA,hcb,hq,hmq,hrg⟩:=HSR.out.row hli;have HQ:=qD hq;have HCB:=qD hcb;have HRG:=qD hrg;have i0:(0:Int)<=(i:Int):=by omega
     have i1:(i:Int)<(cn:Int):=by omega
     subst hA;clear hq hcb hmq hrg;go_upto_region 11 with fail
     clear q5
     go_loopw [8,10] (fun v8 v10 w7=>∃(k:Nat) (b':Bool),k<=ln/\v10=.int .i64 k/\v8=.bool b'/\Below wb.heap.size wb w7/\w7.ownsRow wb.heap.size 3 1 (.slice A6 m c6) m (aJ cW (jK R.cs L s))/\b'=(b||(q.sh==(s:Int)&&(L.take k).any (bG q)))) (fun _ v10 _=>ln-(intOf v10).toNat)
     ·exact⟨0,b,LQ _,rfl,rfl,BB.out,HO.out,by simp⟩
     case round=>
      clear BB HO;obtain⟨k,b',hk,rfl,rfl,hbb,hown,hke⟩:=hrel;have BB:=qD hbb;have HO:=qD hown;have HKE:=qD hke;clear hbb hown hke;by_cases hlk:k<ln
      ·obtain⟨lb,lo,y,hLA,hlb,hy,hmy,hrl⟩:=HLS.out.row hlk;have HY:=qD hy;have HLB:=qD hlb;have HRL:=qD hrl;have k0:(0:Int)<=(k:Int):=by omega
       have k1:(k:Int)<(ln:Int):=by omega
       have HNX:Hid ((L.take (k+1)).any (bG q)=((L.take k).any (bG q)||bG q y)):=qD (rZ _ hy);subst hLA;clear hy hlb hmy hrl
       go_upto_block 5 with fail
       have KS:Hid (∀w',Below wr.heap.size wr w'->(fun w'=>(Instr.loadAt 92 (.pointer (some ⟨cb,off+i*5,none⟩))).run prog w'=.ok (tF q) w'/\(Instr.loadAt 49 (.pointer (some ⟨lb,lo+k*2,none⟩))).run prog w'=.ok (uX y) w'/\w'.cell? ⟨w.heap.size,5,none⟩=some (.slice (some ⟨cb,off,none⟩) cn cc)/\w'.cell? ⟨cb,off+i*5+2,none⟩=some (.int .i64 q.sh)) w'):=qD fun w' hb=>⟨run_loadAt_mid _ cb (off+i*5) 92 (ez q) _ (bi HRG.out (BB.out.Jp hb) HCB.out) underlying92 rfl (by kernel_rfl),run_loadAt_mid _ lb (lo+k*2) 49 (aY y) _ (bi HRL.out (BB.out.Jp hb) HLB.out) underlying49 rfl (by kernel_rfl),by have h5:=(B0.out.step (BB.out.Jp hb)).cell 5;simpa using h5,bi HRG.out (BB.out.Jp hb) HCB.out 2 _ rfl⟩;have B:=qD ((LH wr.heap.size wr).drewN 1)
       go_cut [8] (fun v8 wx=>∃z:Bool,v8=.bool z/\z=(b' || (q.sh==(s:Int)&&bG q y))/\Below wr.heap.size wr wx)
       case first=>
        cases b'
        ·cases hsh:(q.sh==(s:Int))
         ·go_upto_region 13 with fail
          refine MX ?_;refine ML (S:=(fun w'=>(Instr.loadAt 92 (.pointer (some ⟨cb,off+i*5,none⟩))).run prog w'=.ok (tF q) w'/\(Instr.loadAt 49 (.pointer (some ⟨lb,lo+k*2,none⟩))).run prog w'=.ok (uX y) w'/\w'.cell? ⟨w.heap.size,5,none⟩=some (.slice (some ⟨cb,off,none⟩) cn cc)/\w'.cell? ⟨cb,off+i*5+2,none⟩=some (.int .i64 q.sh))) (by kernel_rfl) ?_ (fun hHeld=>?_)
          ·(try dsimp only);exact KS.out _ B.out
          refine rT (v:=?_) 0 rfl ?_ ?_;rotate_left
          ·intro w' hSw;(try dsimp only at hSw);obtain⟨_,_,hSw1,hSw2⟩:=hSw;go_simp;(try with_reducible rfl)
          try go_frame
          refine rT (v:=?_) 1 rfl ?_ ?_;rotate_left
          ·intro w' hSw;(try dsimp only at hSw);obtain⟨_,_,hSw1,hSw2⟩:=hSw;go_simp;(try with_reducible rfl)
          try go_frame
          refine rT (v:=?_) 2 rfl ?_ ?_;rotate_left
          ·intro w' hSw;(try dsimp only at hSw);obtain⟨_,_,hSw1,hSw2⟩:=hSw;go_simp;(try with_reducible rfl)
          try go_frame
          refine rT (v:=?_) 3 rfl ?_ ?_;rotate_left
          ·intro w' hSw;(try dsimp only at hSw);obtain⟨_,_,hSw1,hSw2⟩:=hSw;go_simp;(try with_reducible rfl)
          try go_frame
          refine rT (v:=?_) 4 rfl ?_ ?_;rotate_left
          ·intro w' hSw;(try dsimp only at hSw);obtain⟨_,_,hSw1,hSw2⟩:=hSw;go_simp;(try with_reducible rfl)
          try go_frame
          refine rT (v:=?_) 5 rfl ?_ ?_;rotate_left
          ·intro w' hSw;(try dsimp only at hSw);obtain⟨_,_,hSw1,hSw2⟩:=hSw;go_simp;(try with_reducible rfl)
          try go_frame
          refine rT (v:=?_) 6 rfl ?_ ?_;rotate_left
          ·intro w' hSw;(try dsimp only at hSw);obtain⟨_,_,hSw1,hSw2⟩:=hSw;go_simp;(try with_reducible rfl)
          try go_frame
          refine rT (v:=?_) 7 rfl ?_ ?_;rotate_left
          ·intro w' hSw;(try dsimp only at hSw);obtain⟨_,_,hSw1,hSw2⟩:=hSw;go_simp;(try with_reducible rfl)
          try go_frame
          refine rT (v:=?_) 8 rfl ?_ ?_;rotate_left
          ·intro w' hSw;(try dsimp only at hSw);obtain⟨_,_,hSw1,hSw2⟩:=hSw;go_simp;(try with_reducible rfl)
          try go_frame
          refine rT (v:=?_) 9 rfl ?_ ?_;rotate_left
          ·intro w' hSw;(try dsimp only at hSw);obtain⟨_,_,hSw1,hSw2⟩:=hSw;go_simp;(try with_reducible rfl)
          try go_frame
          refine rT (v:=?_) 10 rfl ?_ ?_;rotate_left
          ·intro w' hSw;(try dsimp only at hSw);obtain⟨_,_,hSw1,hSw2⟩:=hSw;go_simp;(try with_reducible rfl)
          try go_frame
          refine MO (i:=11) (v:=undef) (rO rfl) (by kernel_rfl) (by kernel_rfl) (by kernel_rfl) (fun _ _ _ h=>h) (Or.inr ⟨by rfl,rfl⟩) (by assumption) ?_
          try go_frame
          refine MO (i:=12) (v:=undef) (rO rfl) (by kernel_rfl) (by kernel_rfl) (by kernel_rfl) (fun _ _ _ h=>h) (Or.inr ⟨by rfl,rfl⟩) (by assumption) ?_
          try go_frame
          refine MO (i:=13) (v:=undef) (rO rfl) (by kernel_rfl) (by kernel_rfl) (by kernel_rfl) (fun _ _ _ h=>h) (Or.inr ⟨by rfl,rfl⟩) (by assumption) ?_
          try go_frame
          refine MO (i:=14) (v:=undef) (rO rfl) (by kernel_rfl) (by kernel_rfl) (by kernel_rfl) (fun _ _ _ h=>h) (Or.inr ⟨by rfl,rfl⟩) (by assumption) ?_
          try go_frame
          refine MO (i:=15) (v:=undef) (rO rfl) (by kernel_rfl) (by kernel_rfl) (by kernel_rfl) (fun _ _ _ h=>h) (Or.inr ⟨by rfl,rfl⟩) (by assumption) ?_
          try go_frame
          refine MO (i:=16) (v:=undef) (rO rfl) (by kernel_rfl) (by kernel_rfl) (by kernel_rfl) (fun _ _ _ h=>h) (Or.inr ⟨by rfl,rfl⟩) (by assumption) ?_
          try go_frame
          refine MO (i:=17) (v:=undef) (rO rfl) (by kernel_rfl) (by kernel_rfl) (by kernel_rfl) (fun _ _ _ h=>h) (Or.inr ⟨by rfl,rfl⟩) (by assumption) ?_
          try go_frame
          refine MO (i:=18) (v:=undef) (rO rfl) (by kernel_rfl) (by kernel_rfl) (by kernel_rfl) (fun _ _ _ h=>h) (Or.inr ⟨by rfl,rfl⟩) (by assumption) ?_
          try go_frame
          refine MO (i:=19) (v:=undef) (rO rfl) (by kernel_rfl) (by kernel_rfl) (by kernel_rfl) (fun _ _ _ h=>h) (Or.inr ⟨by rfl,rfl⟩) (by assumption) ?_
          try go_frame
          refine MO (i:=20) (v:=undef) (rO rfl) (by kernel_rfl) (by kernel_rfl) (by kernel_rfl) (fun _ _ _ h=>h) (Or.inr ⟨by rfl,rfl⟩) (by assumption) ?_
          try go_frame
          refine rT (v:=?_) 21 rfl ?_ ?_;rotate_left
          ·intro w' hSw;(try dsimp only at hSw);obtain⟨_,_,hSw1,hSw2⟩:=hSw;go_simp;(try with_reducible rfl)
          try go_frame
          refine rT (v:=?_) 22 rfl ?_ ?_;rotate_left
          ·intro w' hSw;(try dsimp only at hSw);obtain⟨_,_,hSw1,hSw2⟩:=hSw;go_simp;(try with_reducible rfl)
          try go_frame
          refine rT (v:=?_) 23 rfl ?_ ?_;rotate_left
          ·intro w' hSw;(try dsimp only at hSw);obtain⟨_,_,hSw1,hSw2⟩:=hSw;go_simp;(try with_reducible rfl)
          try go_frame
          refine rD ?_ _;refine Mf ?_;clear hHeld
          all_goals
           go_wp2_with fail;go_meet;exact⟨false,rfl,by rw[hsh];rfl,B.out⟩
         ·go_upto_region 13 with fail
          refine MX ?_;refine ML (S:=(fun w'=>(Instr.loadAt 92 (.pointer (some ⟨cb,off+i*5,none⟩))).run prog w'=.ok (tF q) w'/\(Instr.loadAt 49 (.pointer (some ⟨lb,lo+k*2,none⟩))).run prog w'=.ok (uX y) w'/\w'.cell? ⟨w.heap.size,5,none⟩=some (.slice (some ⟨cb,off,none⟩) cn cc)/\w'.cell? ⟨cb,off+i*5+2,none⟩=some (.int .i64 q.sh))) (by kernel_rfl) ?_ (fun hHeld=>?_)
          ·(try dsimp only);exact KS.out _ B.out
          refine rT (v:=?_) 0 rfl ?_ ?_;rotate_left
          ·intro w' hSw;(try dsimp only at hSw);obtain⟨_,_,hSw1,hSw2⟩:=hSw;go_simp;(try with_reducible rfl)
          try go_frame
          refine rT (v:=?_) 1 rfl ?_ ?_;rotate_left
          ·intro w' hSw;(try dsimp only at hSw);obtain⟨_,_,hSw1,hSw2⟩:=hSw;go_simp;(try with_reducible rfl)
          try go_frame
          refine rT (v:=?_) 2 rfl ?_ ?_;rotate_left
          ·intro w' hSw;(try dsimp only at hSw);obtain⟨_,_,hSw1,hSw2⟩:=hSw;go_simp;(try with_reducible rfl)
          try go_frame
          refine rT (v:=?_) 3 rfl ?_ ?_;rotate_left
          ·intro w' hSw;(try dsimp only at hSw);obtain⟨_,_,hSw1,hSw2⟩:=hSw;go_simp;(try with_reducible rfl)
          try go_frame
          refine rT (v:=?_) 4 rfl ?_ ?_;rotate_left
          ·intro w' hSw;(try dsimp only at hSw);obtain⟨_,_,hSw1,hSw2⟩:=hSw;go_simp;(try with_reducible rfl)
          try go_frame
          refine rT (v:=?_) 5 rfl ?_ ?_;rotate_left
          ·intro w' hSw;(try dsimp only at hSw);obtain⟨_,_,hSw1,hSw2⟩:=hSw;go_simp;(try with_reducible rfl)
          try go_frame
          refine rT (v:=?_) 6 rfl ?_ ?_;rotate_left
          ·intro w' hSw;(try dsimp only at hSw);obtain⟨_,_,hSw1,hSw2⟩:=hSw;go_simp;(try with_reducible rfl)
          try go_frame
          refine rT (v:=?_) 7 rfl ?_ ?_;rotate_left
          ·intro w' hSw;(try dsimp only at hSw);obtain⟨_,_,hSw1,hSw2⟩:=hSw;go_simp;(try with_reducible rfl)
          try go_frame
          refine rT (v:=?_) 8 rfl ?_ ?_;rotate_left
          ·intro w' hSw;(try dsimp only at hSw);obtain⟨_,_,hSw1,hSw2⟩:=hSw;go_simp;(try with_reducible rfl)
          try go_frame
          refine rT (v:=?_) 9 rfl ?_ ?_;rotate_left
          ·intro w' hSw;(try dsimp only at hSw);obtain⟨_,_,hSw1,hSw2⟩:=hSw;go_simp;(try with_reducible rfl)
          try go_frame
          refine rT (v:=?_) 10 rfl ?_ ?_;rotate_left
          ·intro w' hSw;(try dsimp only at hSw);obtain⟨_,_,hSw1,hSw2⟩:=hSw;go_simp;(try with_reducible rfl)
          try go_frame
          refine rT (v:=?_) 11 rfl ?_ ?_;rotate_left
          ·intro w' hSw;(try dsimp only at hSw);obtain⟨_,_,hSw1,hSw2⟩:=hSw;go_simp;(try with_reducible rfl)
          try go_frame
          refine rT (v:=?_) 12 rfl ?_ ?_;rotate_left
          ·intro w' hSw;(try dsimp only at hSw);obtain⟨_,_,hSw1,hSw2⟩:=hSw;go_simp;(try with_reducible rfl)
          try go_frame
          refine rT (v:=?_) 13 rfl ?_ ?_;rotate_left
          ·intro w' hSw;(try dsimp only at hSw);obtain⟨_,_,hSw1,hSw2⟩:=hSw;go_simp;(try with_reducible rfl)
          try go_frame
          refine rT (v:=?_) 14 rfl ?_ ?_;rotate_left
          ·intro w' hSw;(try dsimp only at hSw);obtain⟨_,_,hSw1,hSw2⟩:=hSw;go_simp;(try with_reducible rfl)
          try go_frame
          refine rT (v:=tF q) 15 rfl ?_ ?_
          (skip)
          ·intro w' hSw;exact cMx (p:=.pointer (some ⟨cb,off+i*5,none⟩)) rfl rfl hSw.1
          try go_frame
          refine rT (v:=?_) 16 rfl ?_ ?_;rotate_left
          ·intro w' hSw;(try dsimp only at hSw);obtain⟨_,_,hSw1,hSw2⟩:=hSw;go_simp;(try with_reducible rfl)
          try go_frame
          refine rT (v:=?_) 17 rfl ?_ ?_;rotate_left
          ·intro w' hSw;(try dsimp only at hSw);obtain⟨_,_,hSw1,hSw2⟩:=hSw;go_simp;(try with_reducible rfl)
          try go_frame
          refine rT (v:=?_) 18 rfl ?_ ?_;rotate_left
          ·intro w' hSw;(try dsimp only at hSw);obtain⟨_,_,hSw1,hSw2⟩:=hSw;go_simp;(try with_reducible rfl)
          try go_frame
          refine rT (v:=uX y) 19 rfl ?_ ?_
          (skip)
          ·intro w' hSw;exact cMx (p:=.pointer (some ⟨lb,lo+k*2,none⟩)) rfl rfl hSw.2.1
          try go_frame
          refine rY 20 rfl fun K hK=>?_;go_simp;refine(uv q y _).mono ?_;rintro e3 w3 ⟨rfl,hb3⟩;replace B:=qD (B.out.Jp hb3);clear hb3
          (try go_wp2_with fail)
          clear hHeld;refine hK.out _ _ ?_ fun hHeld=>?_
          ·(try dsimp only);exact KS.out _ B.out
          clear hK K
          try go_frame
          refine rT (v:=?_) 21 rfl ?_ ?_;rotate_left
          ·intro w' hSw;(try dsimp only at hSw);obtain⟨_,_,hSw1,hSw2⟩:=hSw;go_simp;(try with_reducible rfl)
          try go_frame
          refine rT (v:=?_) 22 rfl ?_ ?_;rotate_left
          ·intro w' hSw;(try dsimp only at hSw);obtain⟨_,_,hSw1,hSw2⟩:=hSw;go_simp;(try with_reducible rfl)
          try go_frame
          refine rT (v:=?_) 23 rfl ?_ ?_;rotate_left
          ·intro w' hSw;(try dsimp only at hSw);obtain⟨_,_,hSw1,hSw2⟩:=hSw;go_simp;(try with_reducible rfl)
          try go_frame
          refine rD ?_ _;refine Mf ?_;clear hHeld
          all_goals
           go_wp2_with fail;go_meet;exact⟨bG q y,rfl,by rw[hsh];rfl,B.out⟩
        ·go_upto_region 13 with fail
         refine MX ?_;refine ML (S:=(fun w'=>(Instr.loadAt 92 (.pointer (some ⟨cb,off+i*5,none⟩))).run prog w'=.ok (tF q) w'/\(Instr.loadAt 49 (.pointer (some ⟨lb,lo+k*2,none⟩))).run prog w'=.ok (uX y) w'/\w'.cell? ⟨w.heap.size,5,none⟩=some (.slice (some ⟨cb,off,none⟩) cn cc)/\w'.cell? ⟨cb,off+i*5+2,none⟩=some (.int .i64 q.sh))) (by kernel_rfl) ?_ (fun hHeld=>?_)
         ·(try dsimp only);exact KS.out _ B.out
         refine rT (v:=?_) 0 rfl ?_ ?_;rotate_left
         ·intro w' hSw;(try dsimp only at hSw);obtain⟨_,_,hSw1,hSw2⟩:=hSw;go_simp;(try with_reducible rfl)
         try go_frame
         refine rT (v:=?_) 1 rfl ?_ ?_;rotate_left
         ·intro w' hSw;(try dsimp only at hSw);obtain⟨_,_,hSw1,hSw2⟩:=hSw;go_simp;(try with_reducible rfl)
         try go_frame
         refine MO (i:=2) (v:=undef) (rO rfl) (by kernel_rfl) (by kernel_rfl) (by kernel_rfl) (fun _ _ _ h=>h) (Or.inr ⟨by rfl,rfl⟩) (by assumption) ?_
         try go_frame
         refine MO (i:=3) (v:=undef) (rO rfl) (by kernel_rfl) (by kernel_rfl) (by kernel_rfl) (fun _ _ _ h=>h) (Or.inr ⟨by rfl,rfl⟩) (by assumption) ?_
         try go_frame
         refine MO (i:=4) (v:=undef) (rO rfl) (by kernel_rfl) (by kernel_rfl) (by kernel_rfl) (fun _ _ _ h=>h) (Or.inr ⟨by rfl,rfl⟩) (by assumption) ?_
         try go_frame
         refine MO (i:=5) (v:=undef) (rO rfl) (by kernel_rfl) (by kernel_rfl) (by kernel_rfl) (fun _ _ _ h=>h) (Or.inr ⟨by rfl,rfl⟩) (by assumption) ?_
         try go_frame
         refine MO (i:=6) (v:=undef) (rO rfl) (by kernel_rfl) (by kernel_rfl) (by kernel_rfl) (fun _ _ _ h=>h) (Or.inr ⟨by rfl,rfl⟩) (by assumption) ?_
         try go_frame
         refine MO (i:=7) (v:=undef) (rO rfl) (by kernel_rfl) (by kernel_rfl) (by kernel_rfl) (fun _ _ _ h=>h) (Or.inr ⟨by rfl,rfl⟩) (by assumption) ?_
         try go_frame
         refine MO (i:=8) (v:=undef) (rO rfl) (by kernel_rfl) (by kernel_rfl) (by kernel_rfl) (fun _ _ _ h=>h) (Or.inr ⟨by rfl,rfl⟩) (by assumption) ?_
         try go_frame
         refine MO (i:=9) (v:=undef) (rO rfl) (by kernel_rfl) (by kernel_rfl) (by kernel_rfl) (fun _ _ _ h=>h) (Or.inr ⟨by rfl,rfl⟩) (by assumption) ?_
         try go_frame
         refine MO (i:=10) (v:=undef) (rO rfl) (by kernel_rfl) (by kernel_rfl) (by kernel_rfl) (fun _ _ _ h=>h) (Or.inr ⟨by rfl,rfl⟩) (by assumption) ?_
         try go_frame
         refine MO (i:=11) (v:=undef) (rO rfl) (by kernel_rfl) (by kernel_rfl) (by kernel_rfl) (fun _ _ _ h=>h) (Or.inr ⟨by rfl,rfl⟩) (by assumption) ?_
         try go_frame
         refine MO (i:=12) (v:=undef) (rO rfl) (by kernel_rfl) (by kernel_rfl) (by kernel_rfl) (fun _ _ _ h=>h) (Or.inr ⟨by rfl,rfl⟩) (by assumption) ?_
         try go_frame
         refine MO (i:=13) (v:=undef) (rO rfl) (by kernel_rfl) (by kernel_rfl) (by kernel_rfl) (fun _ _ _ h=>h) (Or.inr ⟨by rfl,rfl⟩) (by assumption) ?_
         try go_frame
         refine MO (i:=14) (v:=undef) (rO rfl) (by kernel_rfl) (by kernel_rfl) (by kernel_rfl) (fun _ _ _ h=>h) (Or.inr ⟨by rfl,rfl⟩) (by assumption) ?_
         try go_frame
         refine MO (i:=15) (v:=undef) (rO rfl) (by kernel_rfl) (by kernel_rfl) (by kernel_rfl) (fun _ _ _ h=>h) (Or.inr ⟨by rfl,rfl⟩) (by assumption) ?_
         try go_frame
         refine MO (i:=16) (v:=undef) (rO rfl) (by kernel_rfl) (by kernel_rfl) (by kernel_rfl) (fun _ _ _ h=>h) (Or.inr ⟨by rfl,rfl⟩) (by assumption) ?_
         try go_frame
         refine MO (i:=17) (v:=undef) (rO rfl) (by kernel_rfl) (by kernel_rfl) (by kernel_rfl) (fun _ _ _ h=>h) (Or.inr ⟨by rfl,rfl⟩) (by assumption) ?_
         try go_frame
         refine MO (i:=18) (v:=undef) (rO rfl) (by kernel_rfl) (by kernel_rfl) (by kernel_rfl) (fun _ _ _ h=>h) (Or.inr ⟨by rfl,rfl⟩) (by assumption) ?_
         try go_frame
         refine MO (i:=19) (v:=undef) (rO rfl) (by kernel_rfl) (by kernel_rfl) (by kernel_rfl) (fun _ _ _ h=>h) (Or.inr ⟨by rfl,rfl⟩) (by assumption) ?_
         try go_frame
         refine MO (i:=20) (v:=undef) (rO rfl) (by kernel_rfl) (by kernel_rfl) (by kernel_rfl) (fun _ _ _ h=>h) (Or.inr ⟨by rfl,rfl⟩) (by assumption) ?_
         try go_frame
         refine MO (i:=21) (v:=undef) (rO rfl) (by kernel_rfl) (by kernel_rfl) (by kernel_rfl) (fun _ _ _ h=>h) (Or.inr ⟨by rfl,rfl⟩) (by assumption) ?_
         try go_frame
         refine rT (v:=?_) 22 rfl ?_ ?_;rotate_left
         ·intro w' hSw;(try dsimp only at hSw);obtain⟨_,_,hSw1,hSw2⟩:=hSw;go_simp;(try with_reducible rfl)
         try go_frame
         refine rT (v:=?_) 23 rfl ?_ ?_;rotate_left
         ·intro w' hSw;(try dsimp only at hSw);obtain⟨_,_,hSw1,hSw2⟩:=hSw;go_simp;(try with_reducible rfl)
         try go_frame
         refine rD ?_ _;refine Mf ?_;clear hHeld
         all_goals
          go_wp2_with fail;go_meet;exact⟨true,rfl,rfl,B.out⟩
       case rest=>
        obtain⟨z,rfl,hz,hbx⟩:=hcut
        have HZ:Hid (z=(b||(q.sh==(s:Int)&&(L.take (k+1)).any (bG q)))):=by
         rw[Hid,HNX.out,hz,HKE.out];cases b<;>cases(q.sh==(s:Int))<;>cases((L.take k).any (bG q))<;>cases(bG q y)<;>rfl
        replace HO:=qD (aV HO.out hbx);replace BB:=qD (BB.out.Jp hbx);clear hz hbx KS B HKE;go_wp2_with fail;go_roundw
        ·exact⟨k+1,z,hlk,by go_num,rfl,BB.out,HO.out,HZ.out⟩
        ·simp[intOf];omega
      ·obtain rfl:k=ln:=by omega
       have HZ:Hid (b'=(R.cs.take (i+1)).any (xu L s)):=by
        have hL:L.take k=L:=LS (by have:=HLL.out;omega);rw[Hid,rZ _ HQ.out,HKE.out,HBE.out,hL];rfl
       clear hlk HKE;go_wp2_with fail;go_roundw
       ·exact⟨i+1,b',hli,by go_num,rfl,BB.out,HO.out,HZ.out⟩
       ·simp[intOf];omega
    ·obtain rfl:i=cn:=by omega
     have HZ:Hid (jK R.cs L (s+1)=jK R.cs L s++if b then [(s:Int)] else []):=by
      rw[Hid,Au,HBE.out,LS (by have:=HLN.out;omega)]
     clear hli HBE;cases b
     ·have HO5:Hid (wr.ownsRow wb.heap.size 3 1 (.slice A6 m c6) m (aJ cW (jK R.cs L (s+1)))):=by
       rw[Hid,HZ.out];simpa using HO.out
      clear HO HZ;go_wp2_with fail;go_roundw
      ·exact⟨s+1,m,A6,c6,hls,by go_num,rfl,BB.out,HO5.out,by omega⟩
      ·simp[intOf];omega
     ·have hlo3:wb.heap.size<=wr.heap.size:=BB.out.size;have ID:=qD (aV HO.out ((LH wr.heap.size wr).alloc (qL) (Obj.cells (cW (s:Int)).toArray 3)));have IDE:=qD (BB.out.alloc BB.out.size (Obj.cells (cW (s:Int)).toArray 3));clear HO BB;go_wp2_with (at_builtin;refine aD _ rfl _ _ 56 rfl wb.heap.size 3 j0 (.int .i64 0) 1 8 ON hj0 hy0 hy1 hy2 rfl (by decide) (.slice A6 m c6) m (aJ cW (jK R.cs L s)) rfl ID.out _ _ 1 _ (cW (s:Int)) rfl ⟨rfl,fun _=>⟨_,rfl,Lo _,ap _ _ _⟩⟩ (pC _) (by unfold maxLen;omega) (by omega) (af hlo3 _) ?_);intro v' w6 hown hgr hat
      have HI:Hid (w6.ownsRow wb.heap.size 3 1 v' (m+1) (aJ cW (jK R.cs L (s+1)))):=by
       unfold Hid;rw[HZ.out,LZ trivial,bN];exact hown
      have HIE:=qD (IDE.out.grown hgr (af hlo3 _) (bU ID.out));obtain⟨A7,c7,hv7,_⟩:=SR.Jt eS HI.out (by have h1:=HI.out.1;rw[bP eS] at h1;omega);subst hv7;clear hown hgr hat ID IDE;go_wp2_with fail;go_roundw
      ·exact⟨s+1,m+1,A7,c7,hls,by go_num,rfl,HIE.out,HI.out,by omega⟩
      ·simp[intOf];omega
  ·obtain rfl:s=8:=by omega
   obtain⟨A7,c7,hv7,hs7⟩:=SR.Jt eS HO.out (by have h1:=HO.out.1;rw[bP eS] at h1;omega);cases hv7;have HS7:=qD hs7;clear hs7 hls HO;go_wp2_with fail;go_ret;exact⟨_,_,_,L,rfl,HQQ.out,HS7.out,BE.out.Jp BB.out⟩
def DC(L:List BB)(c:Ch)(z:Int):Prop:=(L.any (bG c)=true->∃i:Nat,z=(i:Int)/\i<L.length)/\(L.any (bG c)=false->z=-1)
theorem DD{α:Type}{l:List α}{i:Nat}{q:α}(f:α->Bool)(h:l[i]?=some q):(l.take (i+1)).any f=((l.take i).any f||f q):=by
 rw[MW,h,List.any_append];simp
theorem xv(c:Ch)(L:List BB)(m n:Nat)(A:Option Addr)(cc:Nat)(w:World)(h:aE w m 92 (ez c).toArray)(hr:SR 2 jE w A n cc L)(hz:n<=1000000000):
 Calls prog 115 #[.slice A n cc,.func (.func 49) #[] #[.pointer (some ⟨m,0,none⟩)]] w fun e w'=>(∃z:Int,e=.returned (.int .i64 z)/\DC L c z)/\Below w.heap.size w w':=by
 have H:=qD h;have HR:=qD hr;have HLN:=qD hr.ln;clear h hr;go_enter func115,ntmps115;go_upto_region 2 with fail
 go_loopw [4,5,8] (fun _ _ v wr=>∃i:Nat,i<=n/\v=.int .i64 i/\Below w.heap.size w wr/\(L.take i).any (bG c)=false) (fun _ _ v _=>n-(intOf v).toNat)
 ·exact⟨0,by omega,rfl,LH _ _,rfl⟩
 case round=>
  obtain⟨i,hi,rfl,hbel,hf⟩:=hrel;have HB:=qD hbel;have HF:=qD hf;clear hf;by_cases hlt:i<n
  ·obtain⟨b,off,x,rfl,hb,hx,e0,e1⟩:=HR.out.Kn hlt;replace e0:=(hbel.cell (p:=⟨b,off+i*2,none⟩) hb).trans e0;replace e1:=(hbel.cell (p:=⟨b,off+i*2+1,none⟩) hb).trans e1;have HM:=qD (uY c x m wr (H.out.step hbel));have HX:=qD hx;have i0:(0:Int)<=(i:Int):=by omega
   have i1:(i:Int)<(n:Int):=by omega
   clear hbel hb hx;go_wp2_with fail;refine HM.out.mono ?_;rintro e w1 ⟨rfl,hb1⟩;have CE:=qD (HB.out.Jp hb1);clear hb1 HB HM e0 e1;cases hq:bG c x
   ·have HG:Hid ((L.take (i+1)).any (bG c)=false):=by rw[Hid,DD _ HX.out,HF.out,hq];rfl
    clear hq;go_wp2_with fail;go_roundw
    ·exact⟨i+1,hlt,by go_num,CE.out,HG.out⟩
    ·simp[intOf];omega
   ·have HG:Hid (DC L c (i:Int)):=by
     refine qD ⟨fun _=>⟨i,rfl,(LJ.1 HX.out).1⟩,fun h=>?_⟩;have h2:=(Pr.1 h) x (LP HX.out);rw[hq] at h2;exact absurd rfl h2
    clear hq;go_wp2_with fail;go_ret;exact⟨⟨_,rfl,HG.out⟩,CE.out⟩
  ·obtain rfl:i=n:=by omega
   have HG:Hid (DC L c (-1)):=by
    have h1:=HF.out;rw[LS (by have:=HLN.out;omega)] at h1;exact qD ⟨fun h=>(by rw[h1] at h;cases h),fun _=>rfl⟩
   clear hbel hlt;go_wp2_with fail;go_ret;exact⟨⟨_,rfl,HG.out⟩,HB.out⟩
theorem qp(c:Ch)(L:List BB)(m n:Nat)(A:Option Addr)(cc:Nat)(w:World)(h:aE w m 92 (ez c).toArray)(hr:SR 2 jE w A n cc L)(hz:n<=1000000000):
 Calls prog 48 #[.slice A n cc,.func (.func 49) #[] #[.pointer (some ⟨m,0,none⟩)]] w fun e w'=>e=.returned (.bool (L.any (bG c)))/\Below w.heap.size w w':=by
 have HI:=qD (xv c L m n A cc w h hr hz);clear h hr;go_enter func48,ntmps48;go_wp2_with fail;refine HI.out.mono ?_;rintro e w1 ⟨⟨z,rfl,hok⟩,hb1⟩;have CE:=qD hb1;clear hb1 HI;cases hq:L.any (bG c)
 ·obtain rfl:=hok.2 hq;clear hok;go_wp2_with fail;go_ret;exact⟨by rw[hq];rfl,CE.out⟩
 ·obtain⟨i,rfl,_⟩:=hok.1 hq;have i0:(0:Int)<=(i:Int):=by omega
  clear hok;go_wp2_with fail;go_ret;exact⟨by rw[hq];rfl,CE.out⟩
end Go.Proofs.YthfahkaadbdicaaGreatDoor
namespace Go.Proofs
open Go.Shelf
def Tryz.Kb:Go.Shelf.Ren:=⟨fun|189=>51|125=>117|257=>116|128=>170|129=>171|294=>162|295=>163|296=>164|297=>165|298=>166|299=>167|216=>57|300=>168|301=>169|328=>208|329=>209|330=>210|331=>211|332=>212|215=>128|343=>252|n=>n,fun|28=>56|3=>3|46=>145|0=>0|51=>113|53=>160|4=>4|183=>178|182=>177|131=>182|5=>5|9=>9|218=>211|222=>215|228=>241|229=>242|n=>n,fun|n=>n⟩
theorem Tryz.Kf:Go.Proofs.Lays.n189 Tryz.prog Tryz.Kb:={
 mixed:=by kernel_rfl
 f125:=Tryz.func117.trans (congrArg some (by kernel_rfl))
 f128:=Tryz.func170.trans (congrArg some (by kernel_rfl))
 f129:=Tryz.func171.trans (congrArg some (by kernel_rfl))
 f189:=Tryz.func51.trans (congrArg some (by kernel_rfl))
 f215:=Tryz.func128.trans (congrArg some (by kernel_rfl))
 f216:=Tryz.func57.trans (congrArg some (by kernel_rfl))
 f257:=Tryz.func116.trans (congrArg some (by kernel_rfl))
 f294:=Tryz.func162.trans (congrArg some (by kernel_rfl))
 f295:=Tryz.func163.trans (congrArg some (by kernel_rfl))
 f296:=Tryz.func164.trans (congrArg some (by kernel_rfl))
 f297:=Tryz.func165.trans (congrArg some (by kernel_rfl))
 f298:=Tryz.func166.trans (congrArg some (by kernel_rfl))
 f299:=Tryz.func167.trans (congrArg some (by kernel_rfl))
 f300:=Tryz.func168.trans (congrArg some (by kernel_rfl))
 f301:=Tryz.func169.trans (congrArg some (by kernel_rfl))
 f328:=Tryz.func208.trans (congrArg some (by kernel_rfl))
 f329:=Tryz.func209.trans (congrArg some (by kernel_rfl))
 f330:=Tryz.func210.trans (congrArg some (by kernel_rfl))
 f331:=Tryz.func211.trans (congrArg some (by kernel_rfl))
 f332:=Tryz.func212.trans (congrArg some (by kernel_rfl))
 f343:=Tryz.func252.trans (congrArg some (by kernel_rfl))
 t0:=Tryz.underlying0
 a0:=Tryz.isAgg0
 z0:=Tryz.sizeOf0
 v0:=Tryz.zeroValue0
 t3:=MY
 a3:=Tryz.isAgg3
 z3:=Tryz.sizeOf3
 v3:=Tryz.zeroValue3
 t4:=NL
 a4:=Tryz.isAgg4
 z4:=Tryz.sizeOf4
 v4:=Tryz.zeroValue4
 t5:=NC
 a5:=Tryz.isAgg5
 z5:=Tryz.sizeOf5
 v5:=Tryz.zeroValue5
 t9:=MB
 a9:=Tryz.isAgg9
 z9:=Tryz.sizeOf9
 v9:=Tryz.zeroValue9
 t28:=ON
 a28:=Tryz.isAgg56
 z28:=Tryz.sizeOf56
 v28:=Tryz.zeroValue56
 t46:=Tryz.underlying145
 a46:=Tryz.isAgg145
 z46:=Tryz.sizeOf145
 v46:=Tryz.zeroValue145
 t51:=Tryz.underlying113
 a51:=Tryz.isAgg113
 z51:=Tryz.sizeOf113
 v51:=Tryz.zeroValue113
 t53:=Tryz.underlying160
 a53:=Tryz.isAgg160
 z53:=Tryz.sizeOf160
 v53:=Tryz.zeroValue160
 t131:=Tryz.underlying182
 a131:=Tryz.isAgg182
 z131:=Tryz.sizeOf182
 v131:=Tryz.zeroValue182
 t182:=Tryz.underlying177
 a182:=Tryz.isAgg177
 z182:=Tryz.sizeOf177
 v182:=Tryz.zeroValue177
 t183:=Tryz.underlying178
 a183:=Tryz.isAgg178
 z183:=Tryz.sizeOf178
 v183:=Tryz.zeroValue178
 t218:=Tryz.underlying211
 a218:=Tryz.isAgg211
 z218:=Tryz.sizeOf211
 v218:=Tryz.zeroValue211
 t222:=Tryz.underlying215
 a222:=Tryz.isAgg215
 z222:=Tryz.sizeOf215
 v222:=Tryz.zeroValue215
 t228:=Tryz.underlying241
 a228:=Tryz.isAgg241
 z228:=Tryz.sizeOf241
 v228:=Tryz.zeroValue241
 t229:=Tryz.underlying242
 a229:=Tryz.isAgg242
 z229:=Tryz.sizeOf242
 v229:=Tryz.zeroValue242}
open Go.Sort Go.RowKit in
theorem Tryz.slices_Sort_int(blk off cap:Nat)(zs:List Int)(w:World)(hH:Holds (Value.int .i64) w blk off zs.toArray)(hblk:blk<w.heap.size)(hsz:zs.length<4611686018427387904):
 Calls Tryz.prog 51 #[.slice (some ⟨blk,off,none⟩) zs.length cap] w fun e w'=>
  e=.returned (.tuple #[])/\∃n os,w'=grow (putRow (Value.int .i64) (Sort.ahead w n) blk off (zs.mergeSort fun x y=>decide (x<=y)).toArray) os:=Any.slices_Sort_int Tryz.Kf blk off cap zs w hH hblk hsz
open Go.RowKit Go.Sort in
theorem Tryz.slices_Sort_int_none(p:Option Addr)(cap:Nat)(w:World):
 Calls Tryz.prog 51 #[.slice p 0 cap] w fun e w'=>e=.returned (.tuple #[])/\w'=w:=Any.slices_Sort_int_none Tryz.Kf p cap w
def Tryz.KP:Go.Shelf.Ren:=⟨fun|20=>52|n=>n,fun|22=>56|3=>3|4=>4|0=>0|n=>n,fun|n=>n⟩
theorem Tryz.KU:Go.Proofs.Lays2.n20 Tryz.prog Tryz.KP:={
 mixed:=by kernel_rfl
 f20:=Tryz.func52.trans (congrArg some (by kernel_rfl))
 t0:=Tryz.underlying0
 a0:=Tryz.isAgg0
 z0:=Tryz.sizeOf0
 v0:=Tryz.zeroValue0
 t3:=MY
 a3:=Tryz.isAgg3
 z3:=Tryz.sizeOf3
 v3:=Tryz.zeroValue3
 t4:=NL
 a4:=Tryz.isAgg4
 z4:=Tryz.sizeOf4
 v4:=Tryz.zeroValue4
 t22:=ON
 a22:=Tryz.isAgg56
 z22:=Tryz.sizeOf56
 v22:=Tryz.zeroValue56
 i3:=by kernel_rfl}
open Go.RowKit Go.Lib Go.Sort in
theorem Tryz.slices_Compact_int(blk off cap:Nat)(zs:List Int)(w:World)(hH:Holds (Value.int .i64) w blk off zs.toArray)(hsz:zs.length<=9223372036854775807)(hcap:zs.length<=cap):
 Calls Tryz.prog 52 #[.slice (some ⟨blk,off,none⟩) zs.length cap] w fun e w'=>e=.returned (.slice (some ⟨blk,off,none⟩) (Lib.compact zs).length cap)/\∃q,w'=putRow (Value.int .i64) (Sort.ahead w q) blk off (Lib.compact zs++List.replicate (zs.length-(Lib.compact zs).length) 0).toArray:=Any.slices_Compact_int Tryz.KU blk off cap zs w hH hsz hcap
open Go.RowKit Go.Lib Go.Sort in
theorem Tryz.slices_Compact_int_empty(a:Option Addr)(cap:Nat)(w:World):
 Calls Tryz.prog 52 #[.slice a 0 cap] w fun e w'=>e=.returned (.slice a 0 cap)/\w'=w:=Any.slices_Compact_int_empty Tryz.KU a cap w
end Go.Proofs
namespace Go.Proofs.YthfahkaadbdicaaGreatDoor
open Go.RowKit Go.Sort
def kO(L:List BB)(l:List Ch):List Int:=(l.filter fun c=>L.any (bG c)).map Ch.sh
theorem zu{L:List BB}{l:List Ch}{i:Nat}{c:Ch}(h:l[i]?=some c):kO L (l.drop i)=(if L.any (bG c) then [c.sh] else [])++kO L (l.drop (i+1)):=by
 rw[bM h];unfold kO;rw[OB];split<;>rfl
def pM(xs:List Int):List Int:=Lib.compact (xs.mergeSort fun x y=>decide (x<=y))
theorem ra(xs:List Int):aJ cW xs=xs.map (Value.int .i64):=by
 induction xs with
 | nil=>rfl
 | cons a r ih=>
  have e:aJ cW (a::r)=cW a++aJ cW r:=rfl;rw[e,ih];rfl
theorem pN(w:World)(os:Array Obj):w.grownBy (grow w os) none:=⟨rfl,rfl,rfl,by simp,fun k hk _=>heap_grow_old w os hk⟩
theorem tP(R:Ro)(a:RA)(p:ao)(Q:List BB->Prop)(w:World)(h:RR w a R)(hcn:a.cn<=64)(hRG:∀wr,Below w.heap.size w wr->Calls prog 12 #[.agg #[.slice a.KA a.kn a.kc,.bool R.ha],am p] wr fun e w'=>∃A' n c' L,e=.returned (.slice A' n c')/\Q L/\SR 2 jE w' A' n c' L/\n<=1000000000/\Below wr.heap.size wr w'):
 Calls prog 16 #[ft a R,am p] w fun e w'=>∃A' n c' L,e=.returned (.slice A' n c')/\Q L/\SR 1 cW w' A' n c' (pM (kO L R.cs))/\Below w.heap.size w w':=by
 obtain⟨j0,hj0,hy0,hy1,hy2⟩:=Mc pD;obtain⟨KA,kn,kc,CA,cn,cc⟩:=a;simp only at hcn hRG;have HCN:=qD hcn;have HRG:=qD hRG;have HSR:=qD h.cs.sr;have HLN:Hid (R.cs.length=cn):=h.cs.ln.symm;have B0:Hid (aE ((w.alloc (.cells (bW ⟨KA,kn,kc,CA,cn,cc⟩ R) 53)).alloc (.cells (aH p) 38)) w.heap.size 53 (bW ⟨KA,kn,kc,CA,cn,cc⟩ R)):=(aE.Jq rfl).alloc _;have B1:Hid (aE ((w.alloc (.cells (bW ⟨KA,kn,kc,CA,cn,cc⟩ R) 53)).alloc (.cells (aH p) 38)) (w.heap.size+1) 38 (aH p)):=aE.Jq (by simp);have BE:Hid (Below w.heap.size w ((w.alloc (.cells (bW ⟨KA,kn,kc,CA,cn,cc⟩ R) 53)).alloc (.cells (aH p) 38))):=((LH _ _).alloc (qL) _).alloc (by simp) _;clear h hRG;go_enter func16,ntmps16;go_upto_region 2 with fail
 change Code.wp _ _ _ _ ((w.alloc (.cells (bW ⟨KA,kn,kc,CA,cn,cc⟩ R) 53)).alloc (.cells (aH p) 38));generalize ((w.alloc (.cells (bW ⟨KA,kn,kc,CA,cn,cc⟩ R) 53)).alloc (.cells (aH p) 38))=wa at*;have q1:=B0.out.cell 1;have q2:=B0.out.cell 2;simp at q1 q2;have RF:=qD (dy B1.out)
 go_upto_region 3 with(first
  | ((with_reducible show wpList _ _ _ (⟨_,.load 38 _,_,_,_,_⟩::_) _ _);refine aG rfl 38 _ rfl (w.heap.size+1) 0 rfl _ _ RF.out Ly rfl (by kernel_rfl) ?_)
  | (go_at_call 12;refine(HRG.out _ BE.out).mono ?_;rintro e w3 ⟨A3,n3,c3,L,rfl,hql0,hsr,hln,hb⟩))
 have HQQ:=qD hql0;clear hql0;have H3:=qD hsr;have CE:=qD (BE.out.Jp hb);have CSR:=qD (HSR.out.step CE.out);have C0:=qD (B0.out.step hb);clear hb hsr HRG B0 B1 BE HSR q1 q2 RF;have q5:=C0.out.cell 5;simp at q5;go_upto_region 4 with fail
 go_loopw [5,16] (fun u5 u16 wr=>∃(i:Nat) (L':List Int),i<=cn/\L'.length<=i/\u16=.int .i64 i/\kO L R.cs=L'++kO L (R.cs.drop i)/\wr.ownsRow w3.heap.size 3 1 u5 L'.length (aJ cW L')/\Below w3.heap.size w3 wr) (fun _ u16 _=>cn-(intOf u16).toNat)
 ·exact⟨0,[],LQ _,qL,rfl,rfl,bC _ _ _ _,LH _ _⟩
 case round=>
  obtain⟨i,L',hi,hql,rfl,hall,hown,hbel⟩:=hrel;have HQL:=qD hql;have HA:=qD hall;have HO:=qD hown;have HB:=qD hbel;clear hql hall hown q5;by_cases hlt:i<cn
  ·obtain⟨b,off,c,hA,hbw,hc,e0,e1,e2,e3,e4⟩:=CSR.out.Kk hlt;subst hA;have HC:=qD hc;replace e0:=(hbel.cell (p:=⟨b,off+i*5,none⟩) hbw).trans e0;replace e1:=(hbel.cell (p:=⟨b,off+i*5+1,none⟩) hbw).trans e1;replace e2:=(hbel.cell (p:=⟨b,off+i*5+2,none⟩) hbw).trans e2;replace e3:=(hbel.cell (p:=⟨b,off+i*5+3,none⟩) hbw).trans e3;replace e4:=(hbel.cell (p:=⟨b,off+i*5+4,none⟩) hbw).trans e4;have i0':(0:Int)<=(i:Int):=by omega
   have i1':(i:Int)<(cn:Int):=by omega
   have hcn2:(cn:Int)<=64:=by have:=HCN.out;omega
   clear hc hbel hbw;go_upto_region 6 with fail
   change Code.wp _ _ _ _ (wr.alloc (.cells (ez c).toArray 92));have JB:Hid (aE (wr.alloc (.cells (ez c).toArray 92)) wr.heap.size 92 (ez c).toArray):=aE.Jq rfl;have IB:=qD (aV HO.out ((LH wr.heap.size wr).alloc (qL) (Obj.cells (ez c).toArray 92)));have IBE:=qD (HB.out.alloc HB.out.size (Obj.cells (ez c).toArray 92));generalize wr.alloc (.cells (ez c).toArray 92)=wb at*;generalize wr.heap.size=ga at*;clear e0 e1 e2 e3 e4 HO HB;have HK:=qD (qp c L ga n3 A3 c3 wb JB.out (H3.out.step IBE.out) hln);cases hm:L.any (bG c)
   ·have HF:Hid (kO L R.cs=L'++kO L (R.cs.drop (i+1))):=by
     unfold Hid;rw[HA.out,zu HC.out,hm];rfl
    rw[hm] at HK;clear hm;go_wp2_with fail;refine HK.out.mono ?_;rintro e w4 ⟨rfl,hb⟩;have IC:=qD (aV IB.out hb);have ICE:=qD (IBE.out.Jp hb);clear hb IB IBE JB HK;go_wp2_with fail;go_roundw
    ·exact⟨i+1,L',hlt,by have:=HQL.out;omega,by go_num,HF.out,IC.out,ICE.out⟩
    ·simp[intOf];omega
   ·have HF:Hid (kO L R.cs=(L'++[c.sh])++kO L (R.cs.drop (i+1))):=by
     unfold Hid;rw[HA.out,zu HC.out,hm];simp
    rw[hm] at HK;clear hm;go_wp2_with fail;refine HK.out.mono ?_;rintro e w4 ⟨rfl,hb⟩;have IC:=qD ((aV IB.out hb));have ICE:=qD (IBE.out.Jp hb);have JC:=qD (JB.out.step hb);clear hb IB IBE JB HK;have s2:=JC.out.cell 2;simp[ez] at s2;have hlo3:w3.heap.size<=w4.heap.size:=ICE.out.size;have hqi:L'.length<=64:=by have:=HQL.out;have:=HCN.out;omega
    have ID:=qD (aV IC.out ((LH w4.heap.size w4).alloc (qL) (Obj.cells (cW c.sh).toArray 3)));have IDE:=qD (ICE.out.alloc ICE.out.size (Obj.cells (cW c.sh).toArray 3));clear IC ICE;go_wp2_with (at_builtin;refine aD _ rfl _ _ 56 rfl w3.heap.size 3 j0 (.int .i64 0) 1 8 ON hj0 hy0 hy1 hy2 rfl (by decide) u5 L'.length (aJ cW L') rfl ID.out _ _ 1 _ (cW c.sh) rfl ⟨rfl,fun _=>⟨_,rfl,Lo _,ap _ _ _⟩⟩ (pC _) (by unfold maxLen;omega) (by omega) (af hlo3 _) ?_);intro v' w6 hown hgr hat
    have HI:Hid (w6.ownsRow w3.heap.size 3 1 v' (L'++[c.sh]).length (aJ cW (L'++[c.sh]))):=by
     unfold Hid;rw[bN,LM];exact hown
    have HIE:=qD (IDE.out.grown hgr (af hlo3 _) (bU ID.out));clear hown hgr hat s2 JC ID IDE;go_wp2_with fail;go_roundw
    ·exact⟨i+1,L'++[c.sh],hlt,by rw[LM];have:=HQL.out;simp;omega,by go_num,HF.out,HI.out,HIE.out⟩
    ·simp[intOf];omega
  ·obtain rfl:i=cn:=by omega
   have HF:Hid (kO L R.cs=L'):=by
    rw[Hid,HA.out,La (by have:=HLN.out;omega)];simp[kO]
   have hown:=HO.out;have hqi:L'.length<=64:=by have:=HQL.out;have:=HCN.out;omega
   clear HA hlt HO;by_cases hv0:u5=.slice none 0 0
   ·subst hv0
    have hx:L'=[]:=by
     rcases hown.2 with⟨_,h2⟩|⟨g,cap,cur,hv,_⟩
     ·exact LO h2
     ·cases hv
    have HG:Hid (pM (kO L R.cs)=[]):=by
     rw[Hid,HF.out,hx];show Lib.compact (List.mergeSort [] _)=_;rw[List.mergeSort_nil];rfl
    clear hown hbel;go_wp2_with fail;refine(Tryz.slices_Sort_int_none none 0 wr).mono ?_;rintro e w2 ⟨rfl,rfl⟩;go_wp2_with fail;refine(Tryz.slices_Compact_int_empty none 0 w2).mono ?_;rintro e w5 ⟨rfl,rfl⟩;go_wp2_with fail;go_ret;exact⟨none,0,0,L,rfl,HQQ.out,by rw[HG.out];exact SR.nil,CE.out.Jp HB.out⟩
   ·rw[ra] at hown;obtain⟨g,cap,rfl,hbg,hgl,hncap,hcm,hlen,hH⟩:=Lib.holds_of_ownsRow hown hv0;have HSO:=qD (Tryz.slices_Sort_int g 0 cap L' wr hH hgl (by omega));clear hv0 hbel;go_wp2_with fail;refine HSO.out.mono ?_;rintro e w2 ⟨rfl,q,os,rfl⟩;have hl2:(L'.mergeSort fun x y=>decide (x<=y)).length=L'.length:=List.length_mergeSort L'
    have hs2:(grow (putRow (Value.int .i64) (Sort.ahead wr q) g 0 (L'.mergeSort fun x y=>decide (x<=y)).toArray) os).ownsRow w3.heap.size 3 1 (.slice (some ⟨g,0,none⟩) L'.length cap) L'.length ((L'.mergeSort fun x y=>decide (x<=y)).map (Value.int .i64)):=by
     have h0:=Lib.ownsRow_putRow (q:=q) (k:=L'.length) (ys:=L'.mergeSort fun x y=>decide (x<=y)) hown hl2 (qL);rw[LS (by rw[hl2];exact qL)] at h0;exact h0.kept (pN _ os) (.inr (by simp[Value.ownBlock]))
    have hbe2:Below w3.heap.size w3 (grow (putRow (Value.int .i64) (Sort.ahead wr q) g 0 (L'.mergeSort fun x y=>decide (x<=y)).toArray) os):=(Lib.below_putRow HB.out hbg).grown (pN _ os) (Lib.below_putRow HB.out hbg).size (fun j hj=>by cases hj);have HTS:Hid (pM (kO L R.cs)=Lib.compact (L'.mergeSort fun x y=>decide (x<=y))):=by rw[Hid,HF.out];rfl
    generalize hts:(L'.mergeSort fun x y=>decide (x<=y))=ts at*;obtain⟨w5,hw5⟩:∃w5,w5=grow (putRow (Value.int .i64) (Sort.ahead wr q) g 0 ts.toArray) os:=⟨_,rfl⟩;rw[<-hw5] at hs2 hbe2 ⊢;clear hw5 hts hown hH HSO HB;obtain⟨g2,cap2,hv2,_,hgl2,_,_,hlen3,hH2⟩:=Lib.holds_of_ownsRow hs2 (by simp);injection hv2 with e1 e2 e3
    injection e1 with e1
    injection e1 with e1
    subst e1 e3;have HCO:=qD (Tryz.slices_Compact_int g 0 cap ts w5 hH2 (by omega) (by omega));rw[hl2] at HCO;go_wp2_with fail;refine HCO.out.mono ?_;rintro e w6 ⟨rfl,q2,rfl⟩;have hle:=Lib.compact_length_le ts;have hc3:=Lib.ownsRow_putRow (q:=q2) (k:=(Lib.compact ts).length) (ys:=Lib.compact ts++List.replicate (L'.length-(Lib.compact ts).length) 0) hs2 (by simp;omega) (by omega);rw[QN] at hc3;have hbe3:Below w3.heap.size w3 (putRow (Value.int .i64) (Sort.ahead w5 q2) g 0 (Lib.compact ts++List.replicate (L'.length-(Lib.compact ts).length) 0).toArray):=Lib.below_putRow hbe2 hbg;clear hs2 hbe2 hH2 HCO;generalize putRow (Value.int .i64) (Sort.ahead w5 q2) g 0 (Lib.compact ts++List.replicate (L'.length-(Lib.compact ts).length) 0).toArray=w6 at*;obtain⟨u,hu⟩:∃u,u=Lib.compact ts:=⟨_,rfl⟩;rw[<-hu] at hc3 HTS hle ⊢;clear hu;rw[<-ra] at hc3;obtain⟨A7,c7,hv7,hs7⟩:=SR.Jt eS hc3 rfl;have HS7:=qD hs7;have HV7:=qD hv7;have HBE:=qD hbe3;clear hc3 hs7 hv7 hbe3;go_wp2_with fail;go_ret;exact⟨A7,u.length,c7,L,by rw[<-HV7.out];rfl,HQQ.out,by rw[HTS.out];exact HS7.out,CE.out.Jp HBE.out⟩
theorem pO:∀{l m:List Int},l.Pairwise (· < ·)->m.Pairwise (· < ·)->(∀x,x∈l↔x∈m)->l=m
 | [],[],_,_,_=>rfl
 | [],b::m,_,_,h=>by have:=(h b).2 (by simp);cases this
 | a::l,[],_,_,h=>by have:=(h a).1 (by simp);cases this
 | a::l,b::m,hl,hm,h=>by
  rw[Mi] at hl hm
  have hab:a=b:=by
   rcases Li.1 ((h a).1 (by simp)) with e|h1
   ·exact e
   ·rcases Li.1 ((h b).2 (by simp)) with e|h2
    ·exact e.symm
    ·have h3:=hl.1 b h2;have h4:=hm.1 a h1;omega
  subst hab;rw[pO hl.2 hm.2 fun x=>?_];constructor
  ·intro hx;rcases Li.1 ((h x).1 (OP _ hx)) with e|h1
   ·have h3:=hl.1 x hx;omega
   ·exact h1
  ·intro hx;rcases Li.1 ((h x).2 (OP _ hx)) with e|h1
   ·have h3:=hm.1 x hx;omega
   ·exact h1
theorem tQ(ts:List Int)(hs:ts.Pairwise fun a b=>a<=b):∀m,m<=ts.length->
 (Lib.compactUpTo ts.toArray m).Pairwise (· < ·)/\∀x,x∈Lib.compactUpTo ts.toArray m↔∃j,j<m/\ts[j]?=some x:=by
 intro m
 induction m with
 | zero=>
  intro _;exact⟨by simp[Lib.compactUpTo],fun x=>⟨fun h=>by simp[Lib.compactUpTo] at h,fun⟨j,h,_⟩=>by omega⟩⟩
 | succ m ih=>
  intro hm;obtain⟨ih1,ih2⟩:=ih (by omega);have hml:m<ts.length:=by omega
  have hget:ts.toArray[m]! =ts[m]:=by simp[hml]
  rw[Lib.compactUpTo_succ];by_cases hk:m=0\/ts.toArray[m]!≠ts.toArray[m-1]!
  ·have hkk:Lib.keeps ts.toArray m=true:=by unfold Lib.keeps;exact LN hk
   rw[LZ hkk,hget];refine⟨Le.2 ⟨ih1,by simp,fun a ha b hb=>?_⟩,fun x=>?_⟩
   ·rw[Og.1 hb];obtain⟨j,hj,hx⟩:=(ih2 a).1 ha;rcases hk with h0|hne
    ·omega
    ·have h1:m-1<ts.length:=by omega
     have hg1:ts.toArray[m-1]! =ts[m-1]:=by simp[h1]
     rw[hget,hg1] at hne;obtain⟨hjl,hjx⟩:=LJ.1 hx
     have hA:a<=ts[m-1]:=by
      rcases NS j (m-1) with hlt|hge
      ·rw[<-hjx];exact NZ.1 hs j (m-1) hjl h1 hlt
      ·have:j=m-1:=by omega
       subst this;rw[hjx];exact Int.le_refl _
     have hB:ts[m-1]<=ts[m]:=NZ.1 hs (m-1) m h1 hml (by omega);omega
   ·rw[LY,ih2,Og];constructor
    ·rintro(⟨j,hj,hx⟩|rfl)
     ·exact⟨j,by omega,hx⟩
     ·exact⟨m,by omega,LI hml⟩
    ·rintro⟨j,hj,hx⟩;rcases NS j m with h1|h1
     ·exact .inl ⟨j,h1,hx⟩
     ·have:j=m:=by omega
      subst this;rw[LI hml] at hx;exact .inr (Mk hx).symm
  ·have hkk:Lib.keeps ts.toArray m=false:=by unfold Lib.keeps;exact LW hk
   rw[LU (by rw[hkk];simp),Lm];refine⟨ih1,fun x=>?_⟩;rw[ih2];constructor
   ·rintro⟨j,hj,hx⟩;exact⟨j,by omega,hx⟩
   ·rintro⟨j,hj,hx⟩;rcases NS j m with h1|h1
    ·exact⟨j,h1,hx⟩
    ·have hjm:j=m:=by omega
     subst hjm;have h0:j≠0:=fun h=>hk (.inl h);have h1:j-1<ts.length:=by omega
     have hne:ts.toArray[j]! =ts.toArray[j-1]!:=Decidable.byContradiction fun h=>hk (.inr h);have hg1:ts.toArray[j-1]! =ts[j-1]:=by simp[h1]
     rw[hget,hg1] at hne;refine⟨j-1,by omega,?_⟩;rw[LI h1,<-hne,<-LI hml];exact hx
theorem xw(ss:List Int):(ss.mergeSort fun x y=>decide (x<=y)).Pairwise fun a b=>a<=b:=by
 have h:=List.pairwise_mergeSort (le:=fun x y:Int=>decide (x<=y)) (fun a b c h1 h2=>by
  simp only[Mg] at h1 h2 ⊢
  omega) (fun a b=>by
  simp only[Bool.or_eq_true,Mg]
  omega) ss
 exact h.imp fun {a b} hab=>by simpa using hab
theorem tR(xs:List Int):(pM xs).Pairwise (· < ·)/\∀x,x∈pM xs↔x∈xs:=by
 obtain⟨h1,h2⟩:=tQ _ (xw xs) _ (qL);refine⟨h1,fun x=>?_⟩;rw[<-List.mem_mergeSort (le:=fun x y:Int=>decide (x<=y)) (l:=xs)];have:=h2 x;rw[show pM xs=Lib.compactUpTo (xs.mergeSort fun x y=>decide (x<=y)).toArray (xs.mergeSort fun x y=>decide (x<=y)).length from rfl,this];constructor
 ·rintro⟨j,_,hx⟩;exact LP hx
 ·intro hx;obtain⟨j,hj⟩:=MK hx;exact⟨j,(LJ.1 hj).1,hj⟩
theorem uw(cs:List Ch)(L:List B2)(n:Nat):(jK cs L n).Pairwise (· < ·):=by
 unfold jK;refine List.Pairwise.filter _ ?_;rw[Nv];exact List.pairwise_lt_range.imp fun {a b} h=>by simpa using h
theorem DF{cs:List Ch}{L:List B2}{n:Nat}{x:Int}:x∈jK cs L n↔(∃s:Nat,s<n/\(s:Int)=x)/\cs.any (xu L x)=true:=by
 unfold jK;rw[Nu,MS];simp only[OQ];rfl
theorem DG(cs:List Ch)(L:List B2)(h:∀c∈cs,0<=c.sh/\c.sh<8):pM (kO L cs)=jK cs L 8:=by
 obtain⟨h1,h2⟩:=tR (kO L cs);refine pO h1 (uw cs L 8) fun x=>?_;rw[h2,DF];unfold kO;rw[MS];constructor
 ·rintro⟨c,hc,rfl⟩;obtain⟨hm,ha⟩:=Nu.1 hc;obtain⟨k1,k2⟩:=h c hm;refine⟨⟨c.sh.toNat,by omega,by omega⟩,OD.2 ⟨c,hm,?_⟩⟩;unfold xu;rw[ha];simp
 ·rintro⟨_,ha⟩;obtain⟨c,hm,hc⟩:=OD.1 ha;unfold xu at hc;simp only[ME,Ns] at hc;exact⟨c,Nu.2 ⟨hm,hc.2⟩,hc.1⟩
def Gi(w:World)(e:Ending)(w':World):Prop:=∃n:Int,e=.returned (.int .i64 n)/\Below w.heap.size w w'
def IG(w:World)(e:Ending)(w':World):Prop:=∃b:Bool,e=.returned (.bool b)/\w'=w
theorem ux(n:Int)(w:World):Calls prog 130 #[.int .i64 n] w (IG w):=by
 go_enter func130,ntmps130;go_wp2_with fail
 all_goals go_ret
 all_goals exact⟨_,rfl,rfl⟩
theorem DH(x y:Int)(w:World):Calls prog 129 #[.agg #[.int .i64 x,.int .i64 y]] w (Ao w):=by
 go_enter func129,ntmps129;go_wp2_with (go_at_call 130;refine(ux _ _).mono ?_;rintro e w1 ⟨b,rfl,rfl⟩;cases b)
 all_goals go_ret
 all_goals exact⟨_,rfl,(LH _ _).alloc (qL) _⟩
theorem Av(k r:Int)(s:uc (Int×Int))(w:World)(h:SR 2 rL w s.A s.n s.c s.xs)(hz:s.n*16<=aF):Calls prog 66 #[.agg #[.int .i64 k,s.v,.int .i64 r]] w (Gi w):=by
 have hzz:s.n<=140737488355328:=by unfold aF at hz;omega
 have H:=qD h;clear h hz;have B0:Hid (aE (w.alloc (.cells #[.int .i64 k,.slice s.A s.n s.c,.int .i64 r] 32)) w.heap.size 32 #[.int .i64 k,.slice s.A s.n s.c,.int .i64 r]):=aE.Jq rfl;have BE:=qD ((LH w.heap.size w).alloc (qL) (Obj.cells #[.int .i64 k,.slice s.A s.n s.c,.int .i64 r] 32));go_enter func66,ntmps66;go_upto_region 1 with fail
 change Code.wp _ _ _ _ (w.alloc (.cells #[.int .i64 k,.slice s.A s.n s.c,.int .i64 r] 32));generalize w.alloc (.cells #[.int .i64 k,.slice s.A s.n s.c,.int .i64 r] 32)=wa at*;have d1:=B0.out.cell 1;simp at d1;by_cases h64:64<s.n
 ·go_wp2_with fail;go_ret;exact⟨_,rfl,BE.out⟩
 ·go_upto_region 5 with fail
  go_loopw [4] (fun v wr=>∃i:Nat,i<=s.n/\v=.int .i64 i/\aE wr w.heap.size 32 #[.int .i64 k,.slice s.A s.n s.c,.int .i64 r]/\Below w.heap.size w wr) (fun v _=>s.n-(intOf v).toNat)
  ·exact⟨0,LQ _,rfl,B0.out,BE.out⟩
  case round=>
   obtain⟨i,hi,rfl,hb0,hbe⟩:=hrel;clear B0 BE d1;have B0:=qD hb0;have BE:=qD hbe;have d0:=B0.out.cell 0;have d1:=B0.out.cell 1;have d2:=B0.out.cell 2;simp at d0 d1 d2;clear hb0 hbe;by_cases hlt:i<s.n
   ·obtain⟨b,off,⟨x,y⟩,hA,hb,_,_,hrg⟩:=H.out.row hlt;have RG:=qD (bi hrg BE.out hb);rw[hA] at d1;clear hrg hA
    go_wp2_with (first
     | ((with_reducible show wpList _ _ _ (⟨_,.load 152 _,_,_,_,_⟩::_) _ _);refine aG rfl 152 _ rfl b (off+i*2) rfl _ _ RG.out underlying152 rfl (by kernel_rfl) ?_)
     | (go_at_call 129;refine(DH x y _).mono ?_;rintro e w1 ⟨bb,rfl,hbb⟩;replace B0:=qD (B0.out.step hbb);replace BE:=qD (BE.out.Jp hbb);clear hbb;cases bb))
    ·go_ret;exact⟨_,rfl,BE.out⟩
    ·go_roundw
     ·exact⟨i+1,by omega,by go_num,B0.out,BE.out⟩
     ·simp[intOf];omega
   ·obtain rfl:i=s.n:=by omega
    go_wp2_with (go_at_call 130;refine(ux _ _).mono ?_;rintro e w1 ⟨b,rfl,rfl⟩;cases b)
    all_goals go_ret
    all_goals exact⟨_,rfl,BE.out⟩
end Go.Proofs.YthfahkaadbdicaaGreatDoor
