/- A part of the proof. -/
import Derived.Test.YtgfoliedmhgpnaaGreatDoorCn22
set_option maxRecDepth 100000
set_option maxHeartbeats 16000000
open Go.Proofs.Tryz
open ByteArray (empty)
namespace Go.Proofs.YtgfoliedmhgpnaaGreatDoor
open Go.RowKit
section
variable {k n g o lo c q size:Nat} {w w' W wr:World} {e t:TypeId} {P:Program} {op x:Int} {v:Value} {A A':Option Addr}
theorem bm{ev:Operand->Value}{o:Oper}{x:Operand}{p:Value}(ho:o.op=.load t x)(hx:ev x=p)(h:(Instr.loadAt t p).run P W=.ok v W):(execOp ev o).run P W=.ok (.value v) W:=by
 unfold execOp;simp only[ho,hx,Qo,h,Qj,Ro]
theorem iW(P:Array Value)(hs:P.size=25)(g:Nat)(W:World)(q:aG W g 38 P):(Instr.loadAt 38 (.pointer (some ⟨g,0,none⟩))).run prog W=.ok (.agg P) W:=by
 simp only[Instr.loadAt,Instr.sureAddr,Qo,Ro,Qj,run_loadVar_row W g 38 38 P (0,0) _ q Oq rfl (by rw[hs];kernel_rfl)]
theorem xM(q:Iv)(bo:Bool)(S1 S2 T L H:ByteArray)(P:Array Value)(hL:P.size=25)(o:OC)(kb ko kn kc:Nat)(w:World)(hT:cZ w)(hk0:0<kn)(hko:w.cell? ⟨kb,ko,none⟩=some (.slice o.A o.n o.c))(hq:q.li=true/\q.hin=true)(h1:gY [q.lo]=(S1,0))(h2:gY [q.hi]=(S2,0))(hk:(q.lo.k≠1/\q.hi.k≠11/\L=S1/\H=T)\/(q.lo.k=1/\q.hi.k=11/\L=empty/\H=empty))(hA:∀w,Calls prog 109 #[.string S2] w (Rt w (.tuple #[.string T,.bool true])))(hO:∀wr,Bl w wr->Calls prog 22 #[Value.agg P,.slice o.A o.n o.c] wr (JH q bo wr)):
  Calls prog 12 #[.agg #[.slice (some ⟨kb,ko,none⟩) kn kc,.bool false],Value.agg P] w fun e w'=>∃A' c',e=.returned (.slice A' 1 c')/\SR 2 rP w' A' 1 c' [(L,H)]/\Bl w w':=by
  obtain⟨j0,hj0,hy0,hy1,hy2⟩:=Pb jy;obtain⟨ql,qh,qli,qhi⟩:=q;simp only at hq h1 h2 hk;obtain⟨rfl,rfl⟩:=hq;have HT:=qD hT;have HA:=qD hA;have HO:=qD hO;have HLD:=qD hL;have H1:=qD h1;have H2:=qD h2;have HK:=qD hk;have hbw:=Oj w _ hko;have hbw:kb<w.heap.size:=hbw;have n0b:((kn:Int)==0)=false:=by simp;omega
  have i1':(0:Int)<(kn:Int):=oM
  clear hT hA hO h1 h2 hk hL;go_enter func12,ntmps12;go_upto_region 1 with fail
  refine yS (#[.slice (some ⟨kb,ko,none⟩) kn kc,.bool false]) 24 P 38 ?_;intro wa B0 B1 BE;have k0:=B0.out.cell 0;have k1:=B0.out.cell 1;simp at k0 k1;go_upto_region 3 with fail
  have eko:=(BE.out.cell (p:=⟨kb,ko,none⟩) hbw).trans hko;have lbk:kb<wa.heap.size:=Ol hbw BE.out.size;have B:=qD ((OG wa.heap.size wa).drewN 1);have KS:Hid (∀w',Bl wa w'->(Instr.loadAt 38 (.pointer (some ⟨w.heap.size+1,0,none⟩))).run prog w'=.ok (.agg P) w'/\w'.cell? ⟨w.heap.size,0,none⟩=some (.slice (some ⟨kb,ko,none⟩) kn kc)/\w'.cell? ⟨kb,ko,none⟩=some (.slice o.A o.n o.c)):=qD fun w' hb=>⟨iW P HLD.out _ _ (B1.out.step hb),(hb.cell (p:=⟨w.heap.size,0,none⟩) B0.out.lt).trans k0,(hb.cell (p:=⟨kb,ko,none⟩) lbk).trans eko⟩;clear k0 k1 eko
  go_cut [5] (fun v5 wx=>∃(A3:Option Addr) (c3:Nat) (p3:PI),v5=.slice A3 1 c3/\dg p3=⟨ql,qh,true,true⟩/\SI wx A3 1 c3 [p3]/\Bl wa wx)
  case first=>
   refine PH ?_;refine Oy (S:=(fun w'=>(Instr.loadAt 38 (.pointer (some ⟨w.heap.size+1,0,none⟩))).run prog w'=.ok (.agg P) w'/\w'.cell? ⟨w.heap.size,0,none⟩=some (.slice (some ⟨kb,ko,none⟩) kn kc)/\w'.cell? ⟨kb,ko,none⟩=some (.slice o.A o.n o.c))) kR ?_ (fun hHeld=>?_)
   ·(try dsimp only);exact KS.out _ B.out
   refine rT (v:=.agg P) 0 rfl (fun w' hSw=>bm (p:=.pointer (some ⟨w.heap.size+1,0,none⟩)) rfl rfl hSw.1) ?_
   try go_frame
   refine rU 1 rfl ?_
   try go_frame
   refine rU 2 rfl ?_
   try go_frame
   refine rU 3 rfl ?_
   try go_frame
   refine rU 4 rfl ?_
   try go_frame
   refine rU 5 rfl ?_
   try go_frame
   refine rY 6 rfl fun K hK=>?_;go_simp;refine(HO.out _ (BE.out.Ml B.out)).mono ?_;rintro e3 w3 ⟨A3,c3,p3,rfl,hp3,hsi,hb⟩;replace B:=qD (B.out.Ml hb);have HS3:=qD hsi;have HP3:=qD hp3;clear hb hsi hp3
   (try go_wp2_with fail)
   clear hHeld;refine hK.out _ _ (KS.out _ B.out) fun hHeld=>?_;clear hK K
   try go_frame
   refine rU 7 rfl ?_
   try go_frame
   refine rU 8 rfl ?_
   try go_frame
   refine rU 9 rfl ?_
   try go_frame
   refine rU 10 rfl ?_
   try go_frame
   refine rU 11 rfl ?_
   try go_frame
   refine rD ?_ _;refine PL ?_
   all_goals
    go_wp2_with fail;go_meet;exact⟨A3,c3,p3,rfl,HP3.out,HS3.out,B.out⟩
  case rest=>
   obtain⟨A3,c3,p3,rfl,hp3,hs3,hb3'⟩:=hcut;have HS3:=qD hs3;have HP3:=qD hp3;have C0:=qD (B0.out.step hb3');have CE:=qD (BE.out.Ml hb3');clear KS B B0 B1 BE HO lbk hs3 hp3 hb3';generalize wc=w3 at*;go_upto_region 6 with fail
   go_loopw [7,9,10,11,30] (fun u7 _ _ _ u30 wr=>∃i:Nat,i<=1/\u30=.int .i64 i/\aG wr w.heap.size 24 #[.slice (some ⟨kb,ko,none⟩) kn kc,.bool false]/\Bl w3 wr/\Lt w (L,H) i u7 wr) (fun _ _ _ _ u30 _=>1-(intOf u30).toNat)
   ·exact⟨0,by omega,rfl,C0.out,OG _ _,CE.out,.inl ⟨rfl,rfl⟩⟩
   case round=>
    obtain⟨i,hi,rfl,D0,DE,hbel,hj⟩:=hrel;have HB:=qD hbel;have HD0:=qD D0;have HDE:=qD DE;rcases hj with⟨rfl,rfl⟩|⟨rfl,hown⟩
    ·obtain⟨b,off,rfl,hb3,hat,hok⟩:=HS3.out.at (i:=0) (p:=p3) rfl;rw[Rp,QW] at hat;obtain⟨⟨a0,a1,a2,a3,a4⟩,⟨b0,b1,b2,b3,b4⟩,b5,b6⟩:=hat.keep (DE.block b hb3);have HOK:=qD hok;clear hat hok DE hbel D0;go_upto_region 8 with fail
     change Code.wp _ _ _ _ (wr.alloc (.cells (ae p3) 85));have JB:Hid (aG (wr.alloc (.cells (ae p3) 85)) wr.heap.size 85 (ae p3)):=aG.Mm rfl;have E0:=qD (HD0.out.alloc (.cells (ae p3) 85));have ED:=qD (HDE.out.alloc HDE.out.size (Obj.cells (ae p3) 85));have EE:=qD (HB.out.alloc HB.out.size (Obj.cells (ae p3) 85));generalize wr.alloc (.cells (ae p3) 85)=wb at*;generalize wr.heap.size=ga at*;clear a0 a1 a2 a3 a4 b0 b1 b2 b3 b4 b5 b6 HB HDE HD0;obtain⟨⟨a0,a1,a2,a3,a4⟩,⟨b0,b1,b2,b3,b4⟩,b5,b6⟩:=jE.Mn JB.out;simp only[OX] at a0 a1 a2 a3 a4 b0 b1 b2 b3 b4 b5 b6;have k1:=E0.out.cell 1;simp at k1
     have HSP:Hid (Calls prog 40 #[jY p3,.bool false] wb (Rt wb (.tuple #[.agg #[.string L,.string H],.bool true]))):=by
      have hp:=HP3.out;obtain⟨⟨⟨c1,x1⟩,⟨c2,x2⟩⟩,⟨f1,f2⟩⟩:=p3;simp only[dg,Iv.mk.injEq] at hp;obtain⟨rfl,rfl,rfl,rfl⟩:=hp;have hk:=HK.out;have r1:=HOK.out.1.open.k;have r2:=HOK.out.2.open.k;simp only at r1 r2;exact DC _ S1 S2 T L H wb (HT.out.step EE.out) (HOK.out.step ED.out) rfl H1.out H2.out (by simp only[r1,r2];exact hk) HA.out
     go_wp2_with fail;refine HSP.out.mono ?_;rintro e w4 ⟨rfl,hb⟩;have F0:=qD (E0.out.step hb);have FD:=qD (ED.out.Ml hb);have FE:=qD (EE.out.Ml hb);clear hb E0 ED EE JB HSP a0 a1 a2 a3 a4 b0 b1 b2 b3 b4 b5 b6 k1 HOK;go_upto_region 12 with fail
     change Code.wp _ _ _ _ (w4.alloc (.cells #[.string L,.string H] 49));have JB:Hid (aG (w4.alloc (.cells #[.string L,.string H] 49)) w4.heap.size 49 #[.string L,.string H]):=aG.Mm rfl;have G0:=qD (F0.out.alloc (.cells #[.string L,.string H] 49));have GD:=qD (FD.out.alloc FD.out.size (Obj.cells #[.string L,.string H] 49));have GE:=qD (FE.out.alloc FE.out.size (Obj.cells #[.string L,.string H] 49));generalize w4.alloc (.cells #[.string L,.string H] 49)=w5 at*;generalize w4.heap.size=gb at*;clear F0 FD FE;have q0:=JB.out.cell 0;have q1:=JB.out.cell 1;simp at q0 q1;have hlo:w.heap.size<=w5.heap.size:=GE.out.size;have hlo3:w3.heap.size<=w5.heap.size:=GD.out.size;go_wp2_with (at_builtin;refine aE _ rfl _ _ 47 rfl w.heap.size 49 j0 (.agg #[.string empty,.string empty]) 2 32 QZ hj0 hy0 hy1 hy2 rfl dE (.slice none 0 0) 0 [] rfl (bP _ _ _ _) _ _ 1 _ (rP (L,H)) rfl ⟨rfl,fun _=>⟨_,rfl,On _,ag _ _ _⟩⟩ (we _) (by unfold maxLen;omega) oM (ar hlo _) ?_);intro v' w6 hown hgr hat;have HI:Hid (Lt w (L,H) 1 v' w6):=⟨(GE.out.alloc GE.out.size _).grown hgr (ar hlo _) (fun g hg=>(by cases hg)),.inr ⟨rfl,hown⟩⟩;have HID:=qD ((GD.out.alloc GD.out.size _).grown hgr (ar hlo3 _) (fun g hg=>(by cases hg)));have HI0:=qD ((G0.out.alloc _).grown hgr (by simp[Value.ownBlock]));clear hown hgr hat q0 q1 JB G0 GD GE;go_wp2_with fail;go_roundw
     ·exact⟨1,by omega,rfl,HI0.out,HID.out,HI.out⟩
     ·simp[intOf]
    ·obtain⟨A',c',rfl,hsr⟩:=Ba hown;have HS:=qD hsr;clear hown hsr hbel D0 DE;go_wp2_with fail;refine(wg (L,H) A' c' wr HS.out).mono ?_;rintro e w4 ⟨A9,c9,rfl,hs9,hb⟩;have HS9:=qD hs9;have FE:=qD (HB.out.Ml hb);clear hb hs9;go_wp2;go_ret;exact⟨A9,c9,rfl,HS9.out,FE.out⟩
end
end Go.Proofs.YtgfoliedmhgpnaaGreatDoor
