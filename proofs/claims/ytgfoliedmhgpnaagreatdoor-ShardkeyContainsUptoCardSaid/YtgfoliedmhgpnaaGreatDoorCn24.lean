/- A part of the proof. -/
import Derived.Test.YtgfoliedmhgpnaaGreatDoorCn21
import Derived.Test.YtgfoliedmhgpnaaGreatDoorCn23
set_option maxRecDepth 100000
set_option maxHeartbeats 16000000
open Go.Proofs.Tryz
open ByteArray (empty)
namespace Go.Proofs.YtgfoliedmhgpnaaGreatDoor
open Go.RowKit
section
variable {k b n g o i c q off size:Nat} {w w':World} {e t:TypeId} {cs:Array Value} {a op x y:Int} {l r:List ByteArray} {v:Value} {s:ByteArray} {A:Option Addr} {ha:Bool} {xs:List Value}
theorem DS(h:aG w g 85 cs)(hz:cs.size=12):(Instr.loadAt 85 (.pointer (some ⟨g,0,none⟩))).run prog w=.ok (.agg cs) w:=by
 simp only[Instr.loadAt,Instr.sureAddr,Qo,Ro,Qj,uk h hz]
theorem Jt(p:aj)(ho:p.op=4\/p.op=5\/p.op=6\/p.op=7)(hv:aJ p.arg.2=true)(A:Option Addr)(n c:Nat)(l:List ByteArray)(w:World)(hw:WP w p)(hT:cZ w)(hl:ST w A n c l)(hp:p.path.xs=l):
 Calls prog 22 #[al p,.slice A n c] w (dq (eR p.op p.arg.2 (p.args.xs.map Prod.snd) p.n) p.sz w):=by
 have HE:=qD fun(wr:World) (hb:Bl w wr)=>eu p.path.xs l p.path.A A p.path.n p.path.c n c wr (hw.open.path.step hb) (hl.step hb);rw[gO.2 hp] at HE;have HT:=qD hT;have HSZ:Hid (1<=p.sz):=by rw[Hid,p.Mx];omega
 have HX:=qD hw.open.arg;have HK:Hid (p.arg.1.k=p.arg.2.k):=qD hw.open.arg.open.k;have HN:Hid (1<=p.arg.1.k/\p.arg.1.k<=11):=by rw[HK.out];exact qD (dm hv)
 have HO:=qD ho;clear hw hT hl hp hv;go_enter RN,Qq;go_upto_region 1 with fail
 refine ml (bL p) 38 ?_;intro wa B0 BE;obtain⟨d0,d1,_,_,_,_,_,_⟩:=aU B0.out;obtain⟨op,hop⟩:∃op,op=p.op:=⟨_,rfl⟩;rw[<-hop] at d0 ho;have HOP:=qD hop;clear hop;rcases ho with rfl|rfl|rfl|rfl
 all_goals
  go_wp2_with fail;refine(HE.out _ BE.out).mono ?_;rintro e w1 ⟨rfl,hb⟩;replace BE:=qD (BE.out.Ml hb);replace B0:=qD (B0.out.step hb);clear hb d0 d1 HE;obtain⟨d0,_,_,_,_,_,_,_⟩:=aU B0.out;rw[<-HOP.out] at d0;have f2:=(bZ B0.out) 0 _ rfl;simp only[Nat.reduceAdd] at f2;by_cases h6:p.arg.1.k=6
  ·have HL:Hid (eR p.op p.arg.2 (p.args.xs.map Prod.snd) p.n=(fe,false)):=qD (dp (rX HO.out (by rw[<-HK.out];exact h6)));have K6:Hid (Calls prog 69 #[.int .i64 p.arg.1.k] w1 (Rt w1 (.tuple #[jY zI,.bool false]))):=by rw[h6];exact qD (rc w1)
   clear h6;go_wp2_with fail;refine K6.out.mono ?_;rintro e w2 ⟨rfl,hb⟩;replace BE:=qD (BE.out.Ml hb);clear hb B0 d0 f2;go_upto_region 17 with fail
   change Code.wp _ _ _ _ (w2.alloc (.cells (ae zI) 85));replace BE:=qD (BE.out.alloc BE.out.size (Obj.cells (ae zI) 85));generalize w2.alloc (.cells (ae zI) 85)=w3 at*;go_wp2_with fail;refine(fm _).mono ?_;rintro e w4 ⟨A3,m3,c3,ys,nf,rfl,hy,hnf,hmk,hsi,hb3,hfr⟩;have HNO:=qD (show dq (fe,false) 1 w3 (.returned (.tuple #[.slice A3 m3 c3,.bool false])) w4 from⟨A3,m3,c3,ys,nf,rfl,hy,hnf,hmk,hsi,hb3,hfr⟩);clear hy hnf hmk hsi hb3 hfr;go_wp2;go_ret2;rw[HL.out];exact HNO.out.up BE.out HSZ.out
  ·have KR:=qD (ja p.arg.1.k w1 HN.out h6);have HQI:Hid (dg (df p.arg.1.k)=bA p.arg.2.k):=by rw[Hid,Bd HN.out h6,HK.out]
   have HQO:Hid (∀wq:World,qd wq (df p.arg.1.k)):=qD fun wq=>qG _ wq
   have HL:Hid (eR p.op p.arg.2 (p.args.xs.map Prod.snd) p.n=((fun a=>ei aq a (aV ([rb p.op (df p.arg.1.k) p.arg].map dg))),decide (p.arg.2.k≠2))):=by
    rw[Hid,dD (tf HO.out (by rw[<-HK.out];exact h6)),Pv];rw[show dg (rb p.op (df p.arg.1.k) p.arg)=pm p.op p.arg.2 from IJ (x:=p.arg.2) (c:=p.arg.1) HQI.out]
   clear h6;obtain⟨b2,hb2⟩:∃b,b=decide (p.arg.2.k≠2):=⟨_,rfl⟩;rw[<-hb2] at HL;have k2:(p.arg.1.k != 2)=b2:=by rw[hb2,HK.out,Ob];simp
   clear hb2;go_wp2_with fail;refine KR.out.mono ?_;obtain⟨q,hq⟩:∃q,q=df p.arg.1.k:=⟨_,rfl⟩;rw[<-hq] at HL HQO;rintro e w2 ⟨rfl,hb⟩;rw[<-hq];clear hq KR HQI
   have HQ:Hid (∀wq:World,Bl w wq->qd wq (rb p.op q p.arg)):=qD fun wq hb=>by
    unfold rb;split
    ·exact⟨HX.out.step hb,(HQO.out wq).2⟩
    ·exact⟨(HQO.out wq).1,HX.out.step hb⟩
   replace BE:=qD (BE.out.Ml hb);replace B0:=qD (B0.out.step hb);clear hb d0 f2;go_upto_region 17 with fail
   change Code.wp _ _ _ _ (w2.alloc (.cells (ae q) 85));have J:Hid (aG (w2.alloc (.cells (ae q) 85)) w2.heap.size 85 (ae q)):=aG.Mm rfl;replace BE:=qD (BE.out.alloc BE.out.size (Obj.cells (ae q) 85));replace B0:=qD (B0.out.alloc (.cells (ae q) 85));generalize w2.alloc (.cells (ae q) 85)=w3 at*;generalize w2.heap.size=gj at*;have f2:=(bZ B0.out) 0 _ rfl;simp only[Nat.reduceAdd] at f2;go_upto_region 18 with fail
   have B:=qD ((OG w3.heap.size w3).drew);have KS:Hid (∀w',Bl w3 w'->(fun w'=>(Instr.loadAt 85 (.pointer (some ⟨gj,0,none⟩))).run prog w'=.ok (jY q) w'/\(Instr.loadAt 38 (.pointer (some ⟨w.heap.size,0,none⟩))).run prog w'=.ok (al p) w'/\w'.cell? ⟨w.heap.size,2,none⟩=some (.int .i64 p.arg.1.k)) w'):=qD fun w' hb=>⟨DS (J.out.step hb) rfl,iW (bL p) rfl _ _ (B0.out.step hb),(hb.cell (p:=⟨w.heap.size,2,none⟩) B0.out.lt).trans f2⟩;clear f2;refine PH ?_;refine Oy (S:=(fun w'=>(Instr.loadAt 85 (.pointer (some ⟨gj,0,none⟩))).run prog w'=.ok (jY q) w'/\(Instr.loadAt 38 (.pointer (some ⟨w.heap.size,0,none⟩))).run prog w'=.ok (al p) w'/\w'.cell? ⟨w.heap.size,2,none⟩=some (.int .i64 p.arg.1.k))) kR ?_ (fun hHeld=>?_)
   ·(try dsimp only);exact KS.out _ B.out
   refine rT (v:=jY q) 0 rfl (fun w' hSw=>bm (p:=.pointer (some ⟨gj,0,none⟩)) rfl rfl hSw.1) ?_
   try go_frame
   refine rT (v:=al p) 1 rfl (fun w' hSw=>bm (p:=.pointer (some ⟨w.heap.size,0,none⟩)) rfl rfl hSw.2.1) ?_
   try go_frame
   refine rV 5 rfl ?_
   try go_frame
   refine rV 6 rfl ?_
   try go_frame
   refine rV 7 rfl ?_
   try go_frame
   refine rV 8 rfl ?_
   try go_frame
   refine rY 2 rfl fun K hK=>?_;go_simp;refine((xJ q p _ HO.out)).mono ?_;rintro e4 w4 ⟨rfl,hb⟩;replace B:=qD (B.out.Ml hb);clear hb
   (try go_wp2_with fail)
   clear hHeld;refine hK.out _ _ (KS.out _ B.out) fun hHeld=>?_;clear hK K
   try go_frame
   refine rY 3 rfl fun K hK=>?_;go_simp;clear hHeld;refine hK.out _ _ (KS.out _ (B.out.alloc B.out.size _)) fun hHeld=>?_;clear hK K
   try go_frame
   refine rY 4 rfl fun K hK=>?_;go_simp;refine(eB [rb p.op q p.arg] _ 1 1 _ (HT.out.step (BE.out.Ml (B.out.alloc B.out.size _))) (lh (aG.Mm rfl) (HQ.out _ (BE.out.Ml (B.out.alloc B.out.size _)))) oM).mono ?_;rintro e3 w5 ⟨A3,m3,c3,ys,nf,rfl,hy,hnf,hmk,hsi,hb3,hfr⟩;have HNO:=qD (show dq ((fun a=>ei aq a (aV ([rb p.op q p.arg].map dg))),b2) 1 _ (.returned (.tuple #[.slice A3 m3 c3,.bool b2])) w5 from⟨A3,m3,c3,ys,nf,rfl,hy,hnf,hmk,hsi,hb3,hfr⟩);replace HNO:=qD (HNO.out.up (B.out.alloc B.out.size _) (qL));replace B:=qD ((B.out.alloc B.out.size _).Ml hb3);clear hy hnf hmk hsi hb3 hfr
   (try go_wp2_with fail)
   clear hHeld;refine hK.out _ _ (KS.out _ B.out) fun hHeld=>?_;clear hK K
   try go_frame
   refine rV 9 rfl ?_
   try go_frame
   refine rV 10 rfl ?_
   try go_frame
   refine rD ?_ _;refine PL ?_;clear hHeld;go_wp2;go_ret2;rw[HL.out];exact HNO.out.up BE.out HSZ.out
theorem Ju:∀p,ze p:=by
 refine aj.ind fun p ih=>?_;by_cases h20:p.op=20
 ·exact Jq p ih h20
 by_cases h21:p.op=21
 ·exact LM p ih h21
 intro A n c l w hw hv hT hl hz;by_cases hp:p.path.xs=l
 ·rw[rE h20 h21 hp];by_cases h2:p.op=2
  ·rw[h2];exact Js p h2 A n c l w hw hT hl hp
  by_cases ho:p.op=4\/p.op=5\/p.op=6\/p.op=7
  ·exact Jt p ho (hv.open.arg oM) A n c l w hw hT hl hp
  by_cases h8:p.op=8
  ·rw[h8];exact LN p h8 A n c l w hw hl hp _ fun wr hb=>(Fa p wr (hw.step hb) (hT.step hb)).mono fun e w' h=>h.up (OG _ _) (by rw[p.Mx];omega)
  by_cases h16:p.op=16
  ·rw[h16];exact Jr p h16 A n c l w hw hl hp _ fun wr hb=>(ul p wr (hw.step hb) (hT.step hb)).mono fun e w' h=>h.up (OG _ _) (by rw[p.Mx];omega)
  by_cases h11:p.op=11
  ·rw[h11];exact IN p h11 (hv.open.kind h11) A n c l w hw hT hl hp
  rw[dp (pV oM)];exact Fj p oM A n c l w hw hl hp
 ·rw[rF h20 h21 hp];exact IM p h20 h21 A n c l w hw hl hp
theorem IP{q:B2}(h:aG w g t #[.string q.1,.string q.2]):SR 2 cG w (some ⟨g,0,none⟩) 1 1 [q]:=by
 refine⟨rfl,qL,fun _=>⟨g,0,rfl,h.lt,fun i a hi j v hj=>?_⟩⟩
 match i,hi with
 | 0,hi=>
  obtain rfl:a=q:=by simpa using hi.symm
  match j,hj with
  | 0,hj=>
   obtain rfl:v=.string a.1:=by simpa[cG] using hj.symm
   exact h.cell 0
  | 1,hj=>
   obtain rfl:v=.string a.2:=by simpa[cG] using hj.symm
   exact h.cell 1
  | j+2,hj=>simp[cG] at hj
 | i+1,hi=>simp at hi
def xN(ha:Bool)(S:cx->Prop)(w:World)(e:Ending)(w':World):Prop:=
 ∃A m c nf L,e=.returned (.slice A m c)/\jw S nf/\Iz ha nf L/\SR 2 cG w' A m c L/\m<=1000000000/\Bl w w'
theorem zh(p:aj)(ha:Bool)(l:List ByteArray)(o:OC)(kb ko kn kc:Nat)(w:World)(hT:cZ w)(hk0:0<kn)(hko:w.cell? ⟨kb,ko,none⟩=some (.slice o.A o.n o.c))(hl:ST w o.A o.n o.c l)(hw:WP w p)(hv:oZ p)(hz:p.sz<=300000000)(hG:cp (gN l p).1):
 Calls prog 12 #[.agg #[.slice (some ⟨kb,ko,none⟩) kn kc,.bool ha],al p] w (xN ha (gN l p).1 w):=by
 obtain⟨j0,hj0,hy0,hy1,hy2⟩:=Pb jy;have HT:=qD hT;have HGO:=qD hG;have HZ:=qD hz;have HO:=qD fun(wr:World) (hb:Bl w wr)=>Ju p _ _ _ l wr (hw.step hb) hv (hT.step hb) (hl.step hb) hz;have hbw:=Oj w _ hko;have hbw:kb<w.heap.size:=hbw;have n0b:((kn:Int)==0)=false:=by simp;omega
 have i1':(0:Int)<(kn:Int):=oM
 clear hT hl hw hv hz hG;go_enter func12,ntmps12;go_upto_region 1 with fail
 refine yS (#[.slice (some ⟨kb,ko,none⟩) kn kc,.bool ha]) 24 (bL p) 38 ?_;intro wa B0 B1 BE;have k0:=B0.out.cell 0;have k1:=B0.out.cell 1;simp at k0 k1;go_upto_region 3 with fail
 have eko:=(BE.out.cell (p:=⟨kb,ko,none⟩) hbw).trans hko;have lbk:kb<wa.heap.size:=Ol hbw BE.out.size;have B:=qD ((OG wa.heap.size wa).drewN 1);have KS:Hid (∀w',Bl wa w'->(Instr.loadAt 38 (.pointer (some ⟨w.heap.size+1,0,none⟩))).run prog w'=.ok (al p) w'/\w'.cell? ⟨w.heap.size,0,none⟩=some (.slice (some ⟨kb,ko,none⟩) kn kc)/\w'.cell? ⟨kb,ko,none⟩=some (.slice o.A o.n o.c)):=qD fun w' hb=>⟨iW (bL p) rfl _ _ (B1.out.step hb),(hb.cell (p:=⟨w.heap.size,0,none⟩) B0.out.lt).trans k0,(hb.cell (p:=⟨kb,ko,none⟩) lbk).trans eko⟩;clear k0 k1 eko
 go_cut [5] (fun v5 wx=>∃(A3:Option Addr) (m3 c3:Nat) (ys:List PI) (nf:List (cx×cx)),v5=.slice A3 m3 c3/\ys.map dg=nf.map fa/\jw (gN l p).1 nf/\m3<=p.sz/\SI wx A3 m3 c3 ys/\Bl wa wx)
 case first=>
  refine PH ?_;refine Oy (S:=(fun w'=>(Instr.loadAt 38 (.pointer (some ⟨w.heap.size+1,0,none⟩))).run prog w'=.ok (al p) w'/\w'.cell? ⟨w.heap.size,0,none⟩=some (.slice (some ⟨kb,ko,none⟩) kn kc)/\w'.cell? ⟨kb,ko,none⟩=some (.slice o.A o.n o.c))) kR ?_ (fun hHeld=>?_)
  ·(try dsimp only);exact KS.out _ B.out
  refine rT (v:=al p) 0 rfl (fun w' hSw=>bm (p:=.pointer (some ⟨w.heap.size+1,0,none⟩)) rfl rfl hSw.1) ?_
  try go_frame
  refine rV 1 rfl ?_
  try go_frame
  refine rV 2 rfl ?_
  try go_frame
  refine rV 3 rfl ?_
  try go_frame
  refine rV 4 rfl ?_
  try go_frame
  refine rV 5 rfl ?_
  try go_frame
  refine rY 6 rfl fun K hK=>?_;go_simp;refine(HO.out _ (BE.out.Ml B.out)).mono ?_;rintro e3 w3 ⟨A3,m3,c3,ys,nf,rfl,hy,hnf,hmk,hsi,hb3,hfr⟩;replace B:=qD (B.out.Ml hb3);have HS3:=qD hsi;have HY3:=qD hy;have HN3:=qD hnf;have HM3:=qD hmk;clear hb3 hsi hy hnf hmk hfr
  (try go_wp2_with fail)
  clear hHeld;refine hK.out _ _ (KS.out _ B.out) fun hHeld=>?_;clear hK K
  try go_frame
  refine rV 7 rfl ?_
  try go_frame
  refine rV 8 rfl ?_
  try go_frame
  refine rV 9 rfl ?_
  try go_frame
  refine rV 10 rfl ?_
  try go_frame
  refine rV 11 rfl ?_
  try go_frame
  refine rD ?_ _;refine PL ?_
  all_goals
   go_wp2_with fail;go_meet;exact⟨A3,m3,c3,ys,nf,rfl,HY3.out,HN3.out,HM3.out,HS3.out,B.out⟩
 case rest=>
  obtain⟨A3,m3,c3,ys,nf,rfl,hy3,hn3,hm3,hs3,hb3'⟩:=hcut;have HS3:=qD hs3;have HY3:=qD hy3;have HN3:=qD hn3;have HM3:=qD hm3;have C0:=qD (B0.out.step hb3');have CE:=qD (BE.out.Ml hb3');clear KS B B0 B1 BE HO lbk hs3 hy3 hn3 hm3 hb3';generalize wc=w3 at*;go_upto_region 6 with fail
  cases ha
  ·go_loopw [7,9,10,11,30] (fun u7 _ _ _ u30 wr=>∃i:Nat,i<=m3/\u30=.int .i64 i/\aG wr w.heap.size 24 #[.slice (some ⟨kb,ko,none⟩) kn kc,.bool false]/\Bl w3 wr/\wr.ownsRow w3.heap.size 49 2 u7 i (aN cG ((nf.take i).map fY))) (fun _ _ _ _ u30 _=>m3-(intOf u30).toNat)
   ·exact⟨0,ON _,rfl,C0.out,OG _ _,bP _ _ _ _⟩
   case round=>
    obtain⟨i,hi,rfl,D0,DE,hown⟩:=hrel;have HB:=qD (CE.out.Ml DE);have HD0:=qD D0;have HDE:=qD DE;have HOW:=qD hown;obtain⟨A6,c6,rfl,_⟩:=aY hown;by_cases hlt:i<m3
    ·obtain⟨y,hy⟩:∃y,ys[i]?=some y:=⟨_,OH (by have:=HS3.out.sr.ln;omega)⟩
     obtain⟨s,hs,hys⟩:∃s,nf[i]?=some s/\dg y=fa s:=by
      have h1:=congrArg (fun l=>l[i]?) HY3.out;simp only[OT,hy,Ps] at h1;obtain⟨s,h2,h3⟩:=PT.1 h1.symm;exact⟨s,h2,h3.symm⟩
     have HVO:=qD (HGO.out.nf HN3.out (OJ hs))
     have HTK:Hid ((nf.take (i+1)).map fY=(nf.take i).map fY++[fY s]):=by
      rw[Hid,Pf,hs,Oo];rfl
     obtain⟨b,off,rfl,hb3,hat,hok⟩:=HS3.out.at (i:=i) (p:=y) hy;obtain⟨⟨a0,a1,a2,a3,a4⟩,⟨b0,b1,b2,b3,b4⟩,b5,b6⟩:=hat.keep (DE.block b hb3);have HOK:=qD hok;have HYS:=qD hys;have z1:i+1<=maxLen:=by have h1:=HM3.out;have h2:=HZ.out;unfold maxLen;omega
     have z2:(i+1)*32<=140737488355328:=by have h1:=HM3.out;have h2:=HZ.out;omega
     have i0:(0:Int)<=(i:Int):=oM
     have i1:(i:Int)<(m3:Int):=oM
     clear hat hok DE D0 hown hs hys hy;go_upto_region 8 with fail
     change Code.wp _ _ _ _ (wr.alloc (.cells (ae y) 85));have JB:Hid (aG (wr.alloc (.cells (ae y) 85)) wr.heap.size 85 (ae y)):=aG.Mm rfl;have E0:=qD (HD0.out.alloc (.cells (ae y) 85));have ED:=qD (HDE.out.alloc HDE.out.size (Obj.cells (ae y) 85));have EE:=qD (HB.out.alloc HB.out.size (Obj.cells (ae y) 85));have EO:=qD (HOW.out.alloc (.cells (ae y) 85));generalize wr.alloc (.cells (ae y) 85)=wb at*;generalize wr.heap.size=ga at*;clear a0 a1 a2 a3 a4 b0 b1 b2 b3 b4 b5 b6 HB HDE HD0 HOW;obtain⟨⟨a0,a1,a2,a3,a4⟩,⟨b0,b1,b2,b3,b4⟩,b5,b6⟩:=jE.Mn JB.out;simp only[OX] at a0 a1 a2 a3 a4 b0 b1 b2 b3 b4 b5 b6;have k1:=E0.out.cell 1;simp at k1;have HSP:=qD (II y s wb (HT.out.step EE.out) (HOK.out.step ED.out) HYS.out HVO.out.1 HVO.out.2.1);go_wp2_with fail;refine HSP.out.mono ?_;rintro e w4 ⟨rfl,hb⟩;have F0:=qD (E0.out.step hb);have FD:=qD (ED.out.Ml hb);have FE:=qD (EE.out.Ml hb);have FO:=qD (af EO.out hb);clear hb E0 ED EE EO JB HSP a0 a1 a2 a3 a4 b0 b1 b2 b3 b4 b5 b6 k1 HOK;go_upto_region 12 with fail
     change Code.wp _ _ _ _ (w4.alloc (.cells #[.string (fY s).1,.string (fY s).2] 49));have JB:Hid (aG (w4.alloc (.cells #[.string (fY s).1,.string (fY s).2] 49)) w4.heap.size 49 #[.string (fY s).1,.string (fY s).2]):=aG.Mm rfl;have G0:=qD (F0.out.alloc (.cells #[.string (fY s).1,.string (fY s).2] 49));have GD:=qD (FD.out.alloc FD.out.size (Obj.cells #[.string (fY s).1,.string (fY s).2] 49));have GO:=qD (FO.out.alloc (.cells #[.string (fY s).1,.string (fY s).2] 49));generalize w4.alloc (.cells #[.string (fY s).1,.string (fY s).2] 49)=w5 at*;generalize w4.heap.size=gb at*;clear F0 FD FE FO;have q0:=JB.out.cell 0;have q1:=JB.out.cell 1;simp at q0 q1;have hlo3:w3.heap.size<=w5.heap.size:=GD.out.size;have HLO:w.heap.size<w3.heap.size:=C0.out.lt;go_wp2_with (at_builtin;refine aE _ rfl _ _ 47 rfl w3.heap.size 49 j0 (.agg #[.string empty,.string empty]) 2 32 QZ hj0 hy0 hy1 hy2 rfl dE (.slice A6 i c6) i (aN cG ((nf.take i).map fY)) rfl (GO.out.alloc _) _ _ 1 _ (cG (fY s)) rfl ⟨rfl,fun _=>⟨_,rfl,On _,ag _ _ _⟩⟩ (jp _) z1 z2 (ar hlo3 _) ?_);intro v' w6 hown hgr hat;have HI:=qD ((GD.out.alloc GD.out.size _).grown hgr (ar hlo3 _) (ak GO.out));have HI0:=qD ((G0.out.alloc _).grown hgr (fun e=>by have:=ak GO.out _ e.symm;omega))
     have HO6:Hid (w6.ownsRow w3.heap.size 49 2 v' (i+1) (aN cG ((nf.take (i+1)).map fY))):=by
      rw[HTK.out,dT];exact qD (by simpa[aN] using hown)
     clear hown hgr hat q0 q1 JB G0 GD GO;go_wp2_with fail;go_roundw
     ·exact⟨i+1,by omega,by go_num,HI0.out,HI.out,HO6.out⟩
     ·exact iO
    ·obtain rfl:i=m3:=oM
     have hl:nf.length=i:=by
      have h1:=congrArg List.length HY3.out;simp only[Oe] at h1;have:=HS3.out.sr.ln;omega
     have htk:nf.take i=nf:=OS oM;rw[htk] at HOW;have HL:=qD (show(nf.map fY).length=i by rw[Oe];exact hl);have HSZ:Hid (i<=4000000000):=by have h1:=HM3.out;have h2:=HZ.out;exact qD oM
     clear hl htk D0 DE hown;go_wp2_with fail;refine(pS (nf.map fY) w3.heap.size i _ wr HOW.out HL.out HDE.out.size HSZ.out).mono ?_;rintro e w4 ⟨A9,m9,c9,Z,rfl,hz9,hsr9,hm9,hb9⟩;rw[HL.out] at hm9;have HM9:Hid (m9<=1000000000):=qD (by have h1:=HM3.out;have h2:=HZ.out;omega);have HZ9:=qD hz9;have HS9:=qD hsr9;have HB9:Hid (Bl w w4):=qD (HB.out.trans (hb9.mono CE.out.size));clear hz9 hsr9 hb9 hm9;go_wp2;go_ret;exact⟨A9,m9,c9,nf,_,rfl,HN3.out,.inl ⟨rfl,Z,HZ9.out,rfl⟩,HS9.out,HM9.out,HB9.out⟩
  ·go_loopw [7,9,10,11,30] (fun u7 _ _ _ u30 wr=>∃i:Nat,i<=m3/\u30=.int .i64 i/\aG wr w.heap.size 24 #[.slice (some ⟨kb,ko,none⟩) kn kc,.bool true]/\Bl w3 wr/\wr.ownsRow w3.heap.size 49 2 u7 i (aN cG (((nf.take i).map fun s=>cL s.1.1).map kS))/\∀s∈nf.take i,aZ s.1.1 s.2.1=0) (fun _ _ _ _ u30 _=>m3-(intOf u30).toNat)
   ·exact⟨0,ON _,rfl,C0.out,OG _ _,bP _ _ _ _,by simp⟩
   case round=>
    obtain⟨i,hi,rfl,D0,DE,hown,hall⟩:=hrel;have HB:=qD (CE.out.Ml DE);have HD0:=qD D0;have HDE:=qD DE;have HOW:=qD hown;obtain⟨A6,c6,rfl,_⟩:=aY hown;by_cases hlt:i<m3
    ·obtain⟨y,hy⟩:∃y,ys[i]?=some y:=⟨_,OH (by have:=HS3.out.sr.ln;omega)⟩
     obtain⟨s,hs,hys⟩:∃s,nf[i]?=some s/\dg y=fa s:=by
      have h1:=congrArg (fun l=>l[i]?) HY3.out;simp only[OT,hy,Ps] at h1;obtain⟨s,h2,h3⟩:=PT.1 h1.symm;exact⟨s,h2,h3.symm⟩
     have HVO:=qD (HGO.out.nf HN3.out (OJ hs))
     have HTK:Hid (((nf.take (i+1)).map (fun s=>cL s.1.1)).map kS=((nf.take i).map fun s=>cL s.1.1).map kS++[kS (cL s.1.1)]):=by
      rw[Hid,Pf,hs,Oo,Oo];rfl
     obtain⟨b,off,rfl,hb3,hat,hok⟩:=HS3.out.at (i:=i) (p:=y) hy;obtain⟨⟨a0,a1,a2,a3,a4⟩,⟨b0,b1,b2,b3,b4⟩,b5,b6⟩:=hat.keep (DE.block b hb3);have HOK:=qD hok;have HYS:=qD hys;have z1:i+1<=maxLen:=by have h1:=HM3.out;have h2:=HZ.out;unfold maxLen;omega
     have z2:(i+1)*32<=140737488355328:=by have h1:=HM3.out;have h2:=HZ.out;omega
     have i0:(0:Int)<=(i:Int):=oM
     have i1:(i:Int)<(m3:Int):=oM
     have HALL:=qD hall;have HSS:=qD hs;clear hat hok DE D0 hown hs hys hy hall;go_upto_region 8 with fail
     change Code.wp _ _ _ _ (wr.alloc (.cells (ae y) 85));have JB:Hid (aG (wr.alloc (.cells (ae y) 85)) wr.heap.size 85 (ae y)):=aG.Mm rfl;have E0:=qD (HD0.out.alloc (.cells (ae y) 85));have ED:=qD (HDE.out.alloc HDE.out.size (Obj.cells (ae y) 85));have EE:=qD (HB.out.alloc HB.out.size (Obj.cells (ae y) 85));have EO:=qD (HOW.out.alloc (.cells (ae y) 85));generalize wr.alloc (.cells (ae y) 85)=wb at*;generalize wr.heap.size=ga at*;clear a0 a1 a2 a3 a4 b0 b1 b2 b3 b4 b5 b6 HB HDE HD0 HOW;obtain⟨⟨a0,a1,a2,a3,a4⟩,⟨b0,b1,b2,b3,b4⟩,b5,b6⟩:=jE.Mn JB.out;simp only[OX] at a0 a1 a2 a3 a4 b0 b1 b2 b3 b4 b5 b6;have k1:=E0.out.cell 1;simp at k1;have HEQ:=qD (nL y.1.1.2 y.1.2.2 y.1.1.1 y.1.2.1 wb (HOK.out.step ED.out).1 (HOK.out.step ED.out).2);obtain⟨q,hq⟩:∃q,q=(aZ y.1.1.2 y.1.2.2==0):=⟨_,rfl⟩;rw[<-hq] at HEQ;have HQ:=qD hq;clear hq;go_wp2_with fail;refine HEQ.out.mono ?_;rintro e w4 ⟨rfl,hb⟩;have F0:=qD (E0.out.step hb);have FD:=qD (ED.out.Ml hb);have FE:=qD (EE.out.Ml hb);have FO:=qD (af EO.out hb);have FJ:=qD (JB.out.step hb);have KOK:=qD ((HOK.out.step ED.out).step hb);clear hb E0 ED EE EO JB HEQ a0 a1 a2 a3 a4 b0 b1 b2 b3 b4 b5 b6 k1 HOK;have hlo:y.1.1.2=s.1.1:=congrArg Iv.lo HYS.out;have hhi:y.1.2.2=s.2.1:=congrArg Iv.hi HYS.out;rw[hlo,hhi] at HQ;have HSM:=qD (OJ HSS.out);cases q
     ·have HNE:Hid (aZ s.1.1 s.2.1≠0):=by
       have:=HQ.out;rw[Hid];simpa using this.symm
      clear hlo hhi HQ;go_wp2;go_ret;exact⟨_,1,1,nf,_,rfl,HN3.out,.inr (.inl ⟨rfl,rfl,s,HSM.out,HNE.out⟩),IP (q:=(empty,empty)) (aG.Mm rfl),by decide,FE.out.alloc FE.out.size _⟩
     ·have HEZ:Hid (aZ s.1.1 s.2.1=0):=by
       have:=HQ.out;rw[Hid];simpa using this.symm
      have HSP:Hid (Calls prog 40 #[jY y,.bool true] w4 (Rt w4 (.tuple #[.agg #[.string (kS (cL s.1.1)).1,.string (kS (cL s.1.1)).2],.bool true]))):=by
       have:=DN y w4 (HT.out.step FE.out) KOK.out;rw[hlo] at this;exact qD this
      clear hlo hhi HQ;have k1:=F0.out.cell 1;simp at k1;obtain⟨⟨a0,a1,a2,a3,a4⟩,⟨b0,b1,b2,b3,b4⟩,b5,b6⟩:=jE.Mn FJ.out;simp only[OX] at a0 a1 a2 a3 a4 b0 b1 b2 b3 b4 b5 b6;go_wp2_with fail;refine HSP.out.mono ?_;rintro e w5 ⟨rfl,hb⟩;obtain⟨kh,hkh⟩:∃kh,kh=kS (cL s.1.1):=⟨_,rfl⟩;rw[<-hkh] at HTK ⊢;clear hkh;replace F0:=qD (F0.out.step hb);replace FD:=qD (FD.out.Ml hb);replace FE:=qD (FE.out.Ml hb);replace FO:=qD (af FO.out hb);clear hb HSP a0 a1 a2 a3 a4 b0 b1 b2 b3 b4 b5 b6 k1 KOK FJ;go_upto_region 12 with fail
      change Code.wp _ _ _ _ (w5.alloc (.cells #[.string kh.1,.string kh.2] 49));have JB:Hid (aG (w5.alloc (.cells #[.string kh.1,.string kh.2] 49)) w5.heap.size 49 #[.string kh.1,.string kh.2]):=aG.Mm rfl;have G0:=qD (F0.out.alloc (.cells #[.string kh.1,.string kh.2] 49));have GD:=qD (FD.out.alloc FD.out.size (Obj.cells #[.string kh.1,.string kh.2] 49));have GO:=qD (FO.out.alloc (.cells #[.string kh.1,.string kh.2] 49));generalize w5.alloc (.cells #[.string kh.1,.string kh.2] 49)=w6 at*;generalize w5.heap.size=gb at*;clear F0 FD FE FO;have q0:=JB.out.cell 0;have q1:=JB.out.cell 1;simp at q0 q1;have hlo3:w3.heap.size<=w6.heap.size:=GD.out.size;have HLO:w.heap.size<w3.heap.size:=C0.out.lt;go_wp2_with (at_builtin;refine aE _ rfl _ _ 47 rfl w3.heap.size 49 j0 (.agg #[.string empty,.string empty]) 2 32 QZ hj0 hy0 hy1 hy2 rfl dE (.slice A6 i c6) i (aN cG (((nf.take i).map fun s=>cL s.1.1).map kS)) rfl (GO.out.alloc _) _ _ 1 _ (cG kh) rfl ⟨rfl,fun _=>⟨_,rfl,On _,ag _ _ _⟩⟩ (jp _) z1 z2 (ar hlo3 _) ?_);intro v' w7 hown hgr hat;have HI:=qD ((GD.out.alloc GD.out.size _).grown hgr (ar hlo3 _) (ak GO.out));have HI0:=qD ((G0.out.alloc _).grown hgr (fun e=>by have:=ak GO.out _ e.symm;omega))
      have HO7:Hid (w7.ownsRow w3.heap.size 49 2 v' (i+1) (aN cG (((nf.take (i+1)).map fun s=>cL s.1.1).map kS))):=by
       rw[HTK.out,dT];exact qD (by simpa[aN] using hown)
      have HA2:Hid (∀t∈nf.take (i+1),aZ t.1.1 t.2.1=0):=qD fun t ht=>by
       rw[Pf,HSS.out] at ht;rcases OP.1 ht with ht|ht
       ·exact HALL.out t ht
       ·obtain rfl:t=s:=by simpa using ht
        exact HEZ.out
      clear hown hgr hat q0 q1 JB G0 GD GO;go_wp2_with fail;go_roundw
      ·exact⟨i+1,by omega,by go_num,HI0.out,HI.out,HO7.out,HA2.out⟩
      ·exact iO
    ·obtain rfl:i=m3:=oM
     have hl:nf.length=i:=by
      have h1:=congrArg List.length HY3.out;simp only[Oe] at h1;have:=HS3.out.sr.ln;omega
     have htk:nf.take i=nf:=OS oM;rw[htk] at HOW hall;have HALL:=qD hall;have HL:=qD (show((nf.map fun s=>cL s.1.1).map kS).length=i by rw[Oe,Oe];exact hl);have HSZ:Hid (i<=4000000000):=by have h1:=HM3.out;have h2:=HZ.out;exact qD oM
     clear hl htk D0 DE hown hall;go_wp2_with fail;refine(pS ((nf.map fun s=>cL s.1.1).map kS) w3.heap.size i _ wr HOW.out HL.out HDE.out.size HSZ.out).mono ?_;rintro e w4 ⟨A9,m9,c9,Z,rfl,hz9,hsr9,hm9,hb9⟩;rw[HL.out] at hm9;have HM9:Hid (m9<=1000000000):=qD (by have h1:=HM3.out;have h2:=HZ.out;omega);have HZ9:=qD hz9;have HS9:=qD hsr9;have HB9:Hid (Bl w w4):=qD (HB.out.trans (hb9.mono CE.out.size));clear hz9 hsr9 hb9 hm9;go_wp2;go_ret;exact⟨A9,m9,c9,nf,_,rfl,HN3.out,.inr (.inr ⟨rfl,HALL.out,Z,HZ9.out,rfl⟩),HS9.out,HM9.out,HB9.out⟩
def Jv(w:World)(e:Ending)(w':World):Prop:=∃n:Int,e=.returned (.int .i64 n)/\Bl w w'
def LS(w:World)(e:Ending)(w':World):Prop:=∃b:Bool,e=.returned (.bool b)/\w'=w
theorem xO(n:Int)(w:World):Calls prog 140 #[.int .i64 n] w (LS w):=by
 go_enter func140,TE;go_wp2_with fail
 all_goals go_ret
 all_goals exact⟨_,rfl,rfl⟩
theorem Fm(x y:Int)(w:World):Calls prog 139 #[.agg #[.int .i64 x,.int .i64 y]] w (DI w):=by
 go_enter func139,ntmps139;go_wp2_with (go_at_call 140;refine(xO _ _).mono ?_;rintro e w1 ⟨b,rfl,rfl⟩;cases b)
 all_goals go_ret
 all_goals exact⟨_,rfl,(OG _ _).alloc (qL) _⟩
theorem DT(k r:Int)(s:wR (Int×Int))(w:World)(h:SR 2 pP w s.A s.n s.c s.xs)(hz:s.n*16<=aF):Calls prog 83 #[.agg #[.int .i64 k,s.v,.int .i64 r]] w (Jv w):=by
 have hzz:s.n<=140737488355328:=by unfold aF at hz;omega
 have H:=qD h;clear h hz;go_enter func83,ntmps83;go_upto_region 1 with fail
 refine ml (#[.int .i64 k,.slice s.A s.n s.c,.int .i64 r]) 32 ?_;intro wa B0 BE;have d1:=B0.out.cell 1;simp at d1;by_cases h64:64<s.n
 ·go_wp2;go_ret;exact⟨_,rfl,BE.out⟩
 ·go_upto_region 5 with fail
  go_loopw [4] (fun v wr=>∃i:Nat,i<=s.n/\v=.int .i64 i/\aG wr w.heap.size 32 #[.int .i64 k,.slice s.A s.n s.c,.int .i64 r]/\Bl w wr) (fun v _=>s.n-(intOf v).toNat)
  ·exact⟨0,ON _,rfl,B0.out,BE.out⟩
  case round=>
   obtain⟨i,hi,rfl,hb0,hbe⟩:=hrel;clear B0 BE d1;have B0:=qD hb0;have BE:=qD hbe;have d0:=B0.out.cell 0;have d1:=B0.out.cell 1;have d2:=B0.out.cell 2;simp at d0 d1 d2;clear hb0 hbe;by_cases hlt:i<s.n
   ·obtain⟨b,off,⟨x,y⟩,hA,hb,_,_,hrg⟩:=H.out.row hlt;have RG:=qD (bB hrg BE.out hb);rw[hA] at d1;clear hrg hA
    go_wp2_with (first
     | ((with_reducible show wpList _ _ _ (⟨_,.load 174 _,_,_,_,_⟩::_) _ _);refine aH rfl 174 _ rfl b (off+i*2) rfl _ _ RG.out underlying174 rfl kR ?_)
     | (go_at_call 139;refine(Fm x y _).mono ?_;rintro e w1 ⟨bb,rfl,hbb⟩;replace B0:=qD (B0.out.step hbb);replace BE:=qD (BE.out.Ml hbb);clear hbb;cases bb))
    ·go_ret;exact⟨_,rfl,BE.out⟩
    ·go_roundw
     ·exact⟨i+1,by omega,by go_num,B0.out,BE.out⟩
     ·exact iO
   ·obtain rfl:i=s.n:=oM
    go_wp2_with (go_at_call 140;refine(xO _ _).mono ?_;rintro e w1 ⟨b,rfl,rfl⟩;cases b)
    all_goals go_ret
    all_goals exact⟨_,rfl,BE.out⟩
theorem xP(w:World):RW w VC.zero aC.zero:=pw.shut ⟨rfl,rfl,rfl,by decide,rfl,qL,by decide,fun h=>absurd h dE,rfl,qL,by decide,fun h=>absurd h dE⟩
theorem MK{b:Int}(h:a=b):Ending.returned (.int .i64 a)=.returned (.int .i64 b):=by rw[h]
def lm(op:Int):Int:=
 if op=1\/op=2\/op=3 then 0 else if op=18\/op=22\/op=23\/op=24\/op=26\/op=30\/op=31\/op=36 then 1 else if op=19\/op=25 then 3
 else if op=4\/op=6\/op=16\/op=17\/op=21\/op=29\/op=37\/op=35\/op=34 then -1 else 2
theorem tm(op:Int)(w:World):Calls prog 246 #[.int .i64 op] w fun e w'=>e=.returned (.int .i64 (lm op))/\w'=w:=by
 go_enter func246,ntmps246;go_wp2_with fail
 all_goals go_ret
 all_goals refine⟨MK ?_,rfl⟩
 all_goals simp only[QR,PJ,Si] at*
 all_goals unfold lm
 all_goals (repeat' split)
 all_goals first|rfl|omega
theorem ST.cells(h:ST w A n c l)(h0:0<n):∃b off,A=some ⟨b,off,none⟩/\b<w.heap.size/\∀i,i<n->∃x,w.cell? ⟨b,off+i,none⟩=some (.string x):=by
 obtain⟨b,off,e,hb,hc⟩:=h.sr.el h0;refine⟨b,off,e,hb,fun i hi=>?_⟩;have hl:i<l.length:=by have:=h.sr.ln;omega
 have:=hc i _ (OH hl) 0 _ rfl;rw[RY,QW] at this;exact⟨_,this⟩
theorem tOq(s:wR ByteArray)(w:World)(h:ST w s.A s.n s.c s.xs):Calls prog 247 #[s.v] w (DI w):=by
 obtain⟨A,n,c,xs⟩:=s;have hz:n<=140737488355328:=by have:=h.sz;unfold aF at this;simp only at this;omega
 have H:=qD h;clear h;simp only at H;show Calls _ _ #[.slice A n c] w _;go_enter func247,ntmps247;go_upto_region 2 with fail
 go_loopw [3] (fun v wr=>∃i:Nat,i<=n/\v=.int .i64 i/\Bl w wr) (fun v _=>n-(intOf v).toNat)
 ·exact⟨0,ON _,rfl,OG _ _⟩
 case round=>
  obtain⟨i,hi,rfl,hbe⟩:=hrel;have BE:=qD hbe;clear hbe;by_cases hlt:i<n
  ·obtain⟨b,off,rfl,hb,hc⟩:=H.out.cells oM;obtain⟨x,e0'⟩:=hc i hlt;have HC:=qD hc;have E0:=qD e0';have e0:=(BE.out.cell (p:=⟨b,off+i,none⟩) hb).trans e0';clear e0' hc;go_wp2_with fail;refine(iR x _).mono ?_;rintro e w1 ⟨rfl,rfl⟩;obtain⟨q,hq⟩:∃q,q=aM x:=⟨_,rfl⟩;rw[<-hq];clear hq;cases q
   ·go_wp2;go_ret;exact⟨_,rfl,BE.out⟩
   ·go_upto_region 7 with fail
    go_loopw [4] (fun v wz=>∃k:Nat,k<=i/\v=.int .i64 k/\Bl w wz) (fun v _=>i-(intOf v).toNat)
    ·exact⟨0,ON _,rfl,BE.out⟩
    case round=>
     obtain⟨k,hk,rfl,hbk⟩:=hrel;have BK:=qD hbk;clear hbk e0;by_cases hkt:k<i
     ·obtain⟨y,f0'⟩:=HC.out k oM;have e0:=(BK.out.cell (p:=⟨b,off+i,none⟩) hb).trans E0.out;have f0:=(BK.out.cell (p:=⟨b,off+k,none⟩) hb).trans f0';have X0:=aX e0;have Y0:=aX f0;have i0:(0:Int)<=(i:Int):=oM
      have i1:(i:Int)<(n:Int):=oM
      have k0:(0:Int)<=(k:Int):=oM
      have k1:(k:Int)<(n:Int):=oM
      clear f0';go_upto_region 9 with fail
      clear e0 f0;refine aL kR kR ?_
      repeat(go_big_quiet_step (fail))
      refine Oc ?_;rintro _ ⟨kw,rfl⟩;have HK:=qD kw.below;generalize kw.val=w5 at*;clear X0 Y0;cases hq:(y.toList==x.toList)
      ·go_wp2_with fail;go_roundw
       ·exact⟨k+1,by omega,by go_num,BK.out.Ml HK.out⟩
       ·exact iO
      ·go_wp2;go_ret;exact⟨_,rfl,BK.out.Ml HK.out⟩
     ·obtain rfl:k=i:=oM
      go_wp2_with fail;go_roundw
      ·exact⟨k+1,by omega,by go_num,BK.out⟩
      ·exact iO
  ·go_wp2;go_ret;exact⟨_,rfl,BE.out⟩
theorem DU(x:dS)(w:World)(h:WX w x)(hT:cZ w):Calls prog 193 #[dZ x] w (Jv w):=by
 have W:=qD h.open;have HT:=qD hT;clear h hT;have hpz:x.path.n<=140737488355328:=by have:=W.out.path.sz;unfold aF at this;omega
 have hnz:x.names.n<=140737488355328:=by have:=W.out.names.sz;unfold aF at this;omega
 have hkz:x.kn<=140737488355328:=by have:=W.out.ksz;unfold aF at this;omega
 go_enter func193,ntmps193;go_upto_region 1 with fail
 refine ml (aP x) 35 ?_;intro wa B0 BE;obtain⟨d0,d1,d2,d3,d9,d10⟩:=aa B0.out
 go_cut [46] (fun v wx=>∃b:Bool,v=.bool b/\aG wx w.heap.size 35 (aP x)/\Bl w wx)
 case first=>as_aux_lemma=>
  have E0:=aX d0;have E3:=aX d3;have E10:=aX d10
  have K1:Hid (∀q:BW wa,Calls prog 246 #[.int .i64 x.op] q.val fun e w''=>e=.returned (.int .i64 (lm x.op))/\∃q:BW wa,w''=q.val):=fun q=>
   (tm x.op q.val).mono fun e w' ⟨h1,h2⟩=>⟨h1,q,h2⟩
  clear d0 d1 d2 d3 d9 d10;obtain⟨op,hop⟩:∃op,op=x.op:=⟨_,rfl⟩;obtain⟨kn,hkn⟩:∃kn,kn=x.kn:=⟨_,rfl⟩;obtain⟨nn,hnn⟩:∃nn,nn=x.names.n:=⟨_,rfl⟩;rw[<-hop] at E0 K1;rw[<-hkn] at E10 hkz;rw[<-hnn] at E3 hnz;obtain⟨k,hk⟩:∃k,k=lm op:=⟨_,rfl⟩;rw[<-hk] at K1;clear hop hkn hnn hk;have fin:∀(q:BW wa) (b:Bool),∃b':Bool,Value.bool b=.bool b'/\aG q.val w.heap.size 35 (aP x)/\Bl w q.val:=fun q b=>⟨b,rfl,B0.out.step q.below,BE.out.Ml q.below⟩;have FIN:=qD fin;clear fin
  have ways:(decide (op<1)=true)\/(decide (op<1)=false/\decide (op>37)=true)\/(decide (op<1)=false/\decide (op>37)=false):=by
   by_cases h1:op<1<;>by_cases h2:op>37<;>simp[h1,h2]
  rcases ways with a1|⟨a1,a2⟩|⟨a1,a2⟩
  ·refine aL kR kR ?_
   repeat(go_big_quiet_step (with_reducible exact K1.out _))
   refine Oc ?_;rintro _ ⟨kw,rfl⟩;go_wp2_with fail;go_meet;exact FIN.out kw _
  ·refine aL kR kR ?_
   repeat(go_big_quiet_step (with_reducible exact K1.out _))
   refine Oc ?_;rintro _ ⟨kw,rfl⟩;go_wp2_with fail;go_meet;exact FIN.out kw _
  ·have ways2:(decide (k≥0)=true/\((kn:Int) != k)=true)\/(((decide (k≥0)=true/\((kn:Int) != k)=false)\/(decide (k≥0)=false))/\((op==34)=false\/(op==34)=true/\((kn:Int) != (nn:Int))=true\/(op==34)=true/\((kn:Int) != (nn:Int))=false/\((kn:Int)==0)=true\/(op==34)=true/\((kn:Int) != (nn:Int))=false/\((kn:Int)==0)=false)):=by
    cases decide (k≥0)<;>cases((kn:Int) != k)<;>cases(op==34)<;>cases((kn:Int) != (nn:Int))<;>cases((kn:Int)==0)<;>simp
   rcases ways2 with⟨b1,b2⟩|⟨⟨b1,b2⟩|b1,c1|⟨c1,c2⟩|⟨c1,c2,c3⟩|⟨c1,c2,c3⟩⟩
   all_goals
    refine aL kR kR ?_
    repeat(go_big_quiet_step (with_reducible exact K1.out _))
    refine Oc ?_;rintro _ ⟨kw,rfl⟩;go_wp2_with fail;go_meet;exact FIN.out kw _
 case rest=>
  obtain⟨b,rfl,hB0,hBE⟩:=hcut;clear B0 BE d0 d1 d2 d3 d9 d10;have B0:=qD hB0;have BE:=qD hBE;obtain⟨d0,d1,d2,d3,d9,d10⟩:=aa B0.out;clear hB0 hBE;cases b
  ·go_upto_region 3 with fail
   have HP:=qD (W.out.path.step BE.out)
   go_cut [72] (fun v wx=>∃b:Bool,v=.bool b/\wx=wc)
   case first=>as_aux_lemma=>
    go_wp2_with (go_at_call 20;refine(mh x.path.xs _ _ _ _ HP.out).mono ?_;rintro e w1 ⟨rfl,rfl⟩;obtain⟨bb,hbb⟩:∃b,b=dw x.path.xs:=⟨_,rfl⟩;rw[<-hbb];clear hbb;cases bb)
    all_goals go_meet
    all_goals exact⟨_,rfl,rfl⟩
   case rest=>
    obtain⟨b,rfl,rfl⟩:=hcut;cases b
    ·go_upto_region 5 with fail
     obtain⟨nb,hnb⟩:∃nb,nb=(x.op==3||(x.op==32||x.op==33)):=⟨_,rfl⟩
     go_cut [3] (fun v wx=>v=.bool nb/\wx=wc)
     case first=>
      go_wp2_with fail
      all_goals go_meet
      all_goals (refine⟨?_,rfl⟩;rw[hnb];simp[*,Bool.or_assoc])
     case rest=>
      obtain⟨rfl,rfl⟩:=hcut;have HNB:=qD hnb;clear hnb;have HN:=qD (W.out.names.step BE.out);go_upto_region 6 with fail
      go_cut [103] (fun v wx=>∃b:Bool,v=.bool b/\aG wx w.heap.size 35 (aP x)/\Bl w wx)
      case first=>as_aux_lemma=>
       cases nb
       all_goals go_wp2_with (first
        | (go_at_call 59;refine(iR x.name _).mono ?_;rintro e w1 ⟨rfl,rfl⟩;obtain⟨bb,hbb⟩:∃b,b=aM x.name:=⟨_,rfl⟩;rw[<-hbb];clear hbb;cases bb)
        | (go_at_call 247;refine(tOq x.names _ HN.out).mono ?_;rintro e w1 ⟨bb,rfl,hb⟩;replace B0:=qD (B0.out.step hb);replace BE:=qD (BE.out.Ml hb);clear hb;cases bb))
       all_goals go_meet
       all_goals exact⟨_,rfl,B0.out,BE.out⟩
      case rest=>
       obtain⟨b,rfl,hB0,hBE⟩:=hcut;clear B0 BE d0 d1 d2 d3 d9 d10;have B0:=qD hB0;have BE:=qD hBE;obtain⟨d0,d1,d2,d3,d9,d10⟩:=aa B0.out;clear hB0 hBE;cases b
       ·go_upto_region 8 with fail
        have RA:=qD (jz B0.out);have HA:=qD (W.out.arg.step BE.out)
        go_cut [112] (fun v wx=>∃b:Bool,v=.bool b/\aG wx w.heap.size 35 (aP x)/\Bl w wx)
        case first=>as_aux_lemma=>
         go_wp2_with (first
          | ((with_reducible show wpList _ _ _ (⟨_,.load 29 _,_,_,_,_⟩::_) _ _);refine aH rfl 29 _ rfl w.heap.size 4 rfl _ _ RA.out Pj rfl kR ?_)
          | (go_at_call 8;refine(di x.arg.2 x.arg.1 _ HA.out).mono ?_;rintro e w1 ⟨rfl,hb⟩;replace B0:=qD (B0.out.step hb);replace BE:=qD (BE.out.Ml hb);clear hb;obtain⟨bb,hbb⟩:∃b,b=aJ x.arg.2:=⟨_,rfl⟩;rw[<-hbb];clear hbb;cases bb))
         all_goals go_meet
         all_goals exact⟨_,rfl,B0.out,BE.out⟩
        case rest=>
         obtain⟨b,rfl,hB0,hBE⟩:=hcut;clear B0 BE d0 d1 d2 d3 d9 d10 RA HA;have B0:=qD hB0;have BE:=qD hBE;obtain⟨d0,d1,d2,d3,d9,d10⟩:=aa B0.out;clear hB0 hBE;cases b
         ·go_upto_region 10 with fail
          have RA:=qD (jz B0.out);have HA:=qD (W.out.arg.step BE.out);obtain⟨sv,hsv⟩:∃sv,sv=eH x.arg.2 aC.zero:=⟨_,rfl⟩
          have HS:Hid (Calls prog 248 #[x.arg.1.val,VC.zero.val] wc (Rt wc (.bool sv))):=by
           rw[hsv];exact tC x.arg.2 aC.zero x.arg.1 VC.zero wc HA.out (xP _)
          clear hsv;obtain⟨op,hop⟩:∃op,op=x.op:=⟨_,rfl⟩;rw[<-hop] at d0 HNB;have HOP:=qD hop;clear hop
          have cl:(op=1/\nb=false)\/(op=2/\nb=false)\/(op=3/\nb=true)\/(op=34/\nb=false)\/((op != 1)=true/\(op != 2)=true/\(op != 3)=true/\(op != 34)=true/\nb=true)\/((op != 1)=true/\(op != 2)=true/\(op != 3)=true/\(op != 34)=true/\nb=false):=by
           have h:=HNB.out;by_cases h1:op=1
           ·subst h1;exact .inl ⟨rfl,h⟩
           by_cases h2:op=2
           ·subst h2;exact .inr (.inl ⟨rfl,h⟩)
           by_cases h3:op=3
           ·subst h3;exact .inr (.inr (.inl ⟨rfl,h⟩))
           by_cases h4:op=34
           ·subst h4;exact .inr (.inr (.inr (.inl ⟨rfl,h⟩)))
           have e1:(op != 1)=true:=by simpa using h1
           have e2:(op != 2)=true:=by simpa using h2
           have e3:(op != 3)=true:=by simpa using h3
           have e4:(op != 34)=true:=by simpa using h4
           clear h HNB;cases nb
           ·exact .inr (.inr (.inr (.inr (.inr ⟨e1,e2,e3,e4,rfl⟩))))
           ·exact .inr (.inr (.inr (.inr (.inl ⟨e1,e2,e3,e4,rfl⟩))))
          clear HNB;rcases cl with⟨rfl,rfl⟩|⟨rfl,rfl⟩|⟨rfl,rfl⟩|⟨rfl,rfl⟩|⟨e1,e2,e3,e4,rfl⟩|⟨e1,e2,e3,e4,rfl⟩
          all_goals go_wp2_with (first
           | (go_at_call 248;refine HS.out.mono ?_;rintro e w1 ⟨rfl,hb⟩;replace B0:=qD (B0.out.step hb);replace BE:=qD (BE.out.Ml hb);clear hb d0 d1 d2 d3 d9 d10;obtain⟨d0,d1,d2,d3,d9,d10⟩:=aa B0.out;rw[<-HOP.out] at d0;cases sv)
           | ((with_reducible show wpList _ _ _ (⟨_,.load 29 _,_,_,_,_⟩::_) _ _);refine aH rfl 29 _ rfl w.heap.size 4 rfl _ _ RA.out Pj rfl kR ?_))
          all_goals go_ret
          all_goals exact⟨_,rfl,BE.out⟩
         ·go_wp2;go_ret;exact⟨_,rfl,BE.out⟩
       ·go_wp2;go_ret;exact⟨_,rfl,BE.out⟩
    ·go_wp2;go_ret;exact⟨_,rfl,BE.out⟩
  ·go_wp2;go_ret;exact⟨_,rfl,BE.out⟩
theorem zi(op:Int):(db op=false/\dH op=false/\cY op=false)\/(db op=true/\dH op=true/\cY op=false)\/(db op=true/\dH op=false/\cY op=true)\/(db op=true/\dH op=false/\cY op=false):=by
 unfold db dH cY de;by_cases h:2<=op/\op<=19
 ·have:op=2\/op=3\/op=4\/op=5\/op=6\/op=7\/op=8\/op=9\/op=10\/op=11\/op=12\/op=13\/op=14\/op=15\/op=16\/op=17\/op=18\/op=19:=oM
  rcases this with rfl|rfl|rfl|rfl|rfl|rfl|rfl|rfl|rfl|rfl|rfl|rfl|rfl|rfl|rfl|rfl|rfl|rfl<;>decide
 ·refine .inl ⟨?_,?_,?_⟩
  ·simp;omega
  ·simp;omega
  ·simp;omega
theorem zj(p:aj)(w:World):Calls prog 84 #[al p] w (DI w):=by
 go_enter func84,ntmps84;go_upto_region 1 with fail
 refine ml (bL p) 38 ?_;intro wa B0 BE;obtain⟨d0,d1,_,_,d7,_,_,_⟩:=aU B0.out;have RA:=qD (bZ B0.out);have hcl:=zi p.op;obtain⟨b1,hb1⟩:∃b,b=db p.op:=⟨_,rfl⟩;obtain⟨b2,hb2⟩:∃b,b=dH p.op:=⟨_,rfl⟩;obtain⟨b3,hb3⟩:∃b,b=cY p.op:=⟨_,rfl⟩;rw[<-hb1,<-hb2,<-hb3] at hcl;have HB1:=qD hb1;have HB2:=qD hb2;have HB3:=qD hb3;have HCL:=qD hcl;clear hb1 hb2 hb3 hcl
 go_cut [36] (fun v wx=>∃b:Bool,v=.bool b/\aG wx w.heap.size 38 (bL p)/\Bl w wx)
 case first=>
  rcases HCL.out with⟨rfl,rfl,rfl⟩|⟨rfl,rfl,rfl⟩|⟨rfl,rfl,rfl⟩|⟨rfl,rfl,rfl⟩
  all_goals go_wp2_with (first
  | (go_at_call 80;refine(rQ _ _).mono ?_;rintro e w1 ⟨rfl,rfl⟩;rw[<-HB1.out])
  | (go_at_call 81;refine(rS _ _).mono ?_;rintro e w1 ⟨rfl,rfl⟩;rw[<-HB2.out])
  | (go_at_call 78;refine(jO _ _).mono ?_;rintro e w1 ⟨rfl,rfl⟩;rw[<-HB3.out])
  | (go_at_call 141;refine(ms p.arg.1 _).mono ?_;rintro e w1 ⟨b,rfl,hb⟩;replace B0:=qD (B0.out.step hb);replace BE:=qD (BE.out.Ml hb);clear hb d0 d1 d7;obtain⟨d0,d1,_,_,d7,_,_,_⟩:=aU B0.out;cases b)
  | ((with_reducible show wpList _ _ _ (⟨_,.load 29 _,_,_,_,_⟩::_) _ _);refine aH rfl 29 _ rfl w.heap.size 2 rfl _ _ RA.out Pj rfl kR ?_))
  all_goals go_meet
  all_goals exact⟨_,rfl,B0.out,BE.out⟩
 case rest=>
  obtain⟨b,rfl,hB0,hBE⟩:=hcut;clear B0 BE d0 d1 d7 RA HB1 HB2 HB3 HCL;have B0:=qD hB0;have BE:=qD hBE;obtain⟨d0,d1,_,_,d7,d8,d9,_⟩:=aU B0.out;clear hB0 hBE;cases b
  ·go_upto_region 3 with fail
   go_cut [69] (fun v wx=>∃b:Bool,v=.bool b/\wx=wc)
   case first=>
    go_wp2_with fail
    all_goals go_meet
    all_goals exact⟨_,rfl,rfl⟩
   case rest=>
    obtain⟨b,rfl,rfl⟩:=hcut;have RA:=qD (bZ B0.out);have RS:=qD (kZ B0.out);have RE:=qD (mb B0.out);cases b
    ·cases h18:(p.op==18)<;>cases h24:(p.op==24)
     all_goals go_wp2_with (first
      | (go_at_call 142;refine(wk p.sk p.sr p.pts _).mono ?_;rintro e w1 ⟨b,rfl,hb⟩;replace B0:=qD (B0.out.step hb);replace BE:=qD (BE.out.Ml hb);replace RE:=qD (mb B0.out);clear hb d0 d1 d7 d8 d9;obtain⟨d0,_,_,_,_,_,_,_⟩:=aU B0.out;cases b)
      | (go_at_call 143;refine(zV p.ex _).mono ?_;rintro e w1 ⟨b,rfl,hb⟩;replace BE:=qD (BE.out.Ml hb);clear hb;cases b)
      | ((with_reducible show wpList _ _ _ (⟨_,.load 32 _,_,_,_,_⟩::_) _ _);refine aH rfl 32 _ rfl w.heap.size 10 rfl _ _ RS.out Rj rfl kR ?_)
      | ((with_reducible show wpList _ _ _ (⟨_,.load 35 _,_,_,_,_⟩::_) _ _);refine aH rfl 35 _ rfl w.heap.size 13 rfl _ _ RE.out Pe rfl kR ?_))
     all_goals go_ret
     all_goals exact⟨_,rfl,BE.out⟩
    ·go_wp2;go_ret;exact⟨_,rfl,BE.out⟩
  ·go_wp2;go_ret;exact⟨_,rfl,BE.out⟩
def IQ(p:aj)(lf:Int)(w:World)(e:Ending)(w':World):Prop:=∃r:Int,e=.returned (.int .i64 r)/\-1<=r/\r<=1000/\(0<=r->r=lf-p.nodes)/\Bl w w'
theorem xQ{l:List aj}{k:aj}(h:l[i]?=some k):aj.nodes.nodesL (l.take (i+1))=aj.nodes.nodesL (l.take i)+k.nodes:=by
 induction l generalizing i with
 | nil=>simp at h
 | cons x r ih=>
  cases i with
  | zero=>simp at h;subst h;simp[aj.nodes.nodesL]
  | succ i=>
   have:=ih (i:=i) (by simpa using h);simp only[Pl,aj.nodes.nodesL] at*;omega
end
structure Mi(p:aj)(lf:Int)(w:World)(i:Nat)(r:Int)(wr:World):Prop where
 b0:aG wr w.heap.size 38 (bL p)
 bel:Bl w wr
 lo:-1<=r
 hi:r<=1000
 eq:0<=r->r=lf-1-(aj.nodes.nodesL (p.kids.take i):Nat)
def LU(w:World)(e:Ending)(w':World):Prop:=∃a b:Int,e=.returned (.tuple #[.int .i64 a,.int .i64 b])/\1<=a/\a<=257/\(b=0->a<=256)/\Bl w w'
structure Mj(x:dS)(w:World)(a:Int)(wr:World):Prop where
 b0:aG wr w.heap.size 35 (aP x)
 bel:Bl w wr
 lo:1<=a
 hi:a<=256
section
variable {n size:Nat} {w w':World} {x:Int}
theorem zk(x:dS):∀(nu lv:Int) (w:World),WX w x->cZ w->1<=nu->nu<=257->1<=lv->lv<=17->Calls prog 144 #[dZ x,.int .i64 nu,.int .i64 lv] w (LU w):=by
 induction x using dS.ind with
 | h x ih=>
 intro nu lv w hw hT h1 h2 h3 h4;have HT:=qD hT;have HW:=qD hw;have W:=qD hw.open;have IH:=qD ih;have hkz:x.kn<=140737488355328:=by have:=W.out.ksz;unfold aF at this;omega
 clear ih hw hT;go_enter func144,ntmps144;go_upto_region 1 with fail
 refine ml (aP x) 35 ?_;intro wa B0 BE;by_cases hz:16<lv\/256<nu
 ·go_cut [17] (fun v wx=>v=.bool true/\wx=wa)
  case first=>
   go_wp2_with fail
   all_goals go_meet
   all_goals first|exact⟨rfl,rfl⟩|(exfalso;omega)|(refine⟨?_,rfl⟩;simp;omega)
  case rest=>
   obtain⟨rfl,rfl⟩:=hcut;go_wp2;go_ret2;exact⟨nu,2,rfl,h1,h2,fun h=>absurd h oM,BE.out⟩
 ·have g1:¬16<lv:=oM
  have g2:¬256<nu:=oM
  have g4:wrap64 (lv+1)=lv+1:=by unfold wrap64;omega
  clear hz;have RF:=qD (jP B0.out);go_upto_region 3 with fail
  go_wp2_with (first
   | ((with_reducible show wpList _ _ _ (⟨_,.load 35 _,_,_,_,_⟩::_) _ _);refine aH rfl 35 _ rfl w.heap.size 0 rfl _ _ RF.out Pe rfl kR ?_)
   | (go_at_call 193;fail))
  refine(DU x wa (HW.out.step BE.out) (HT.out.step BE.out)).mono ?_;rintro e w1 ⟨er,rfl,hb⟩;replace B0:=qD (B0.out.step hb);replace BE:=qD (BE.out.Ml hb);clear hb RF;by_cases he:er=0
  ·subst he;go_upto_region 7 with fail
   go_loopw [1,9,10,11] (fun v1 v9 _ _ wr=>∃(i:Nat) (a:Int),i<=x.kn/\v1=.int .i64 a/\v9=.int .i64 i/\Mj x w a wr) (fun _ v9 _ _ _=>x.kn-(intOf v9).toNat)
   ·exact⟨0,nu,ON _,rfl,rfl,B0.out,BE.out,h1,by omega⟩
   case round=>
    obtain⟨i,a,hi,rfl,rfl,hI⟩:=hrel;have HI:=qD hI;obtain⟨_,_,_,_,_,d10⟩:=aa hI.b0;have alo:=hI.lo;have ahi:=hI.hi;clear hI;have g3:wrap64 (a+1)=a+1:=by unfold wrap64;omega
    by_cases hlt:i<x.kn
    ·obtain⟨b,off,y,hA,hb,hx,hm,hrg⟩:=W.out.sr.row hlt;have RG:=qD (bB hrg HI.out.bel hb);have KW:=qD ((W.out.kids y hm).step HI.out.bel);have IX:=qD (IH.out y hm);have KT:=qD (HT.out.step HI.out.bel);rw[hA] at d10;clear hrg hx hm hA
     go_wp2_with (first
      | ((with_reducible show wpList _ _ _ (⟨_,.load 35 _,_,_,_,_⟩::_) _ _);refine aH rfl 35 _ rfl b (off+i*11) rfl _ _ RG.out Pe rfl kR ?_)
      | (go_at_call 144;(try rw[g4]);(try rw[g3]);refine(IX.out (a+1) (lv+1) _ KW.out KT.out oM oM oM oM).mono ?_;rintro e w1 ⟨r,er,rfl,hr1,hr2,hr3,hbb⟩;have H3:=qD hr3;have HB:=qD hbb;clear hr3 hbb;by_cases he:er=0;(focus (subst he))))
     ·have:r<=256:=by simpa using H3.out
      go_roundw
      ·exact⟨i+1,r,by omega,rfl,by go_num,HI.out.b0.step HB.out,HI.out.bel.Ml HB.out,hr1,this⟩
      ·exact iO
     ·have he':(er != 0)=true:=by simpa using he
      go_wp2;go_ret2;exact⟨r,er,rfl,hr1,hr2,H3.out,HI.out.bel.Ml HB.out⟩
    ·go_wp2;go_ret2;exact⟨a,0,rfl,alo,by omega,fun _=>ahi,HI.out.bel⟩
  ·have he':(er != 0)=true:=by simpa using he
   clear he;go_wp2;go_ret2;exact⟨nu,er,rfl,h1,h2,fun _=>by omega,BE.out⟩
theorem zl(x:dS)(w:World)(h:WX w x)(hT:cZ w):Calls prog 85 #[dZ x] w (Jv w):=by
 have HT:=qD hT;have HW:=qD h;clear h hT;go_enter func85,ntmps85;go_upto_region 1 with fail
 refine ml (aP x) 35 ?_;intro wa B0 BE;have RF:=qD (jP B0.out)
 go_wp2_with (first
  | ((with_reducible show wpList _ _ _ (⟨_,.load 35 _,_,_,_,_⟩::_) _ _);refine aH rfl 35 _ rfl w.heap.size 0 rfl _ _ RF.out Pe rfl kR ?_)
  | (go_at_call 144;refine(zk x 1 1 _ (HW.out.step BE.out) (HT.out.step BE.out) oM oM oM oM).mono ?_;rintro e w1 ⟨r,er,rfl,_,_,_,hb⟩;replace BE:=qD (BE.out.Ml hb);clear hb B0 RF))
 go_ret;exact⟨er,rfl,BE.out⟩
def ir(p:aj)(w:World)(e:Ending)(w':World):Prop:=∃n:Int,e=.returned (.int .i64 n)/\(n=0->oZ p)/\Bl w w'
theorem ir.no{p:aj}{n:Int}(h:n≠0)(hb:Bl w w'):ir p w (.returned (.int .i64 n)) w':=⟨n,rfl,fun k=>absurd k h,hb⟩
end
structure ML(p:aj):Prop where
 op:1<=p.op/\p.op<=24
 kids:cr p=true
 nums:au p=true
 arg:dH p.op=true->aJ p.arg.2=true/\(de p.op=true->p.arg.1.k=4)
 args:cY p.op=true->∀x∈p.args.xs,aJ x.2=true
 path:db p.op=true->p.path.xs.length<=16
section
variable {k b n g o g2 m i c q off size:Nat} {w w' W:World} {e t:TypeId} {P:Program} {a op x:Int} {l r:List ByteArray} {s:ByteArray} {A:Option Addr} {ha:Bool} {F:Nat -> Prop}
theorem DV(h:dw l=true):l.length<=16:=by
 unfold dw at h;simp at h;omega
theorem ML.Nz{p:aj}(h:ML p)(W:Kk w p)(hk:p.op≠24->∀k∈p.kids,oZ k):oZ p:=by
 refine BX.shut ⟨fun ho=>?_,fun ho=>?_,fun ho=>?_,fun ho=>?_,fun ho=>?_,fun ho=>?_,h.op,hk⟩
 ·have e:dH p.op=true:=by
   unfold dH de;rcases ho with⟨h1,h2⟩|ho|ho|ho
   ·simp[h1,h2]
   ·rw[ho];rfl
   ·rw[ho];rfl
   ·rw[ho];rfl
  exact(h.arg e).1
 ·have e:cY p.op=true:=by rcases ho with ho|ho|ho<;>rw[ho]<;>rfl
  exact h.args e
 ·have e:dH p.op=true:=by rcases ho with ho|ho|ho<;>rw[ho]<;>rfl
  have e':de p.op=true:=by rcases ho with ho|ho|ho<;>rw[ho]<;>rfl
  rw[<-W.arg.open.k];exact(h.arg e).2 e'
 ·have:=h.nums;unfold au at this;rw[OQ oM,OW ho] at this;simpa using this
 ·have:=h.kids;unfold cr at this;have hn:=W.sr.ln;intro e;rw[e] at hn;rcases ho with ho|ho|ho
  ·rw[OW oM] at this;simp at hn this;omega
  ·rw[OQ oM,OW oM] at this;simp at hn this;omega
  ·rw[OQ oM,OW oM] at this;simp at hn this;omega
 ·exact h.path (by unfold db;simp[ho.1,ho.2])
theorem zm(p:aj):∀(el:Bool) (w:World),WP w p->cZ w->Calls prog 26 #[al p,.bool el] w (ir p w):=by
 induction p using aj.ind with
 | h p ih=>
 intro el w hw hT;have HT:=qD hT;have W:=qD hw.open;have IH:=qD ih;have hkz:p.kn<=140737488355328:=by have:=W.out.ksz;unfold aF at this;omega
 have hpz:p.path.n<=140737488355328:=by have:=W.out.path.sz;unfold aF at this;omega
 have haz:p.args.n<=1048576:=W.out.few;clear ih hw hT;go_enter func26,ntmps26;go_upto_region 1 with fail
 refine ml (bL p) 38 ?_;intro wa B0 BE;obtain⟨d0,d1,d2,_,d7,d8,d9,d24⟩:=aU B0.out;have RF:=qD (cg B0.out)
 go_cut [37] (fun v wx=>∃b:Bool,v=.bool b/\(b=false->(cr p=true/\au p=true)/\1<=p.op/\p.op<=24)/\aG wx w.heap.size 38 (bL p)/\Bl w wx)
 case first=>
  cases o1:decide (p.op<1)<;>cases o2:decide (24<p.op)<;>cases o3:((p.args.n:Int)==0)
  all_goals go_wp2_with (first
   | ((with_reducible show wpList _ _ _ (⟨_,.load 38 _,_,_,_,_⟩::_) _ _);refine aH rfl 38 _ rfl w.heap.size 0 rfl _ _ RF.out Oq rfl kR ?_)
   | (go_at_call 77;refine(FM p _).mono ?_;rintro e w1 ⟨rfl,hb⟩;replace B0:=qD (B0.out.step hb);replace BE:=qD (BE.out.Ml hb);replace RF:=qD (cg B0.out);clear hb d0 d1 d2 d7 d8 d9 d24;obtain⟨d0,d1,d2,_,d7,d8,d9,d24⟩:=aU B0.out;cases hKB:cr p)
   | (go_at_call 78;refine(jO _ _).mono ?_;rintro e w1 ⟨rfl,rfl⟩;obtain⟨bb,hbb⟩:∃b,b=cY p.op:=⟨_,rfl⟩;rw[<-hbb];clear hbb;cases bb)
   | (go_at_call 79;refine(wj p _).mono ?_;rintro e w1 ⟨rfl,hb⟩;replace B0:=qD (B0.out.step hb);replace BE:=qD (BE.out.Ml hb);clear hb;cases hNB:au p))
  all_goals go_meet
  all_goals first
   | exact⟨true,rfl,fun h=>by simp at h,B0.out,BE.out⟩
   | exact⟨false,rfl,fun _=>⟨⟨hKB,hNB⟩,by simpa using o1,by simpa using o2⟩,B0.out,BE.out⟩
   | exact⟨_,rfl,fun _=>⟨⟨hKB,hNB⟩,by simpa using o1,by simpa using o2⟩,B0.out,BE.out⟩
 case rest=>
  obtain⟨b,rfl,hF,hB0,hBE⟩:=hcut;clear B0 BE RF d0 d1 d2 d7 d8 d9 d24;have B0:=qD hB0;have BE:=qD hBE;have F1:=qD hF;obtain⟨d0,d1,d2,_,d7,d8,d9,d24⟩:=aU B0.out;clear hB0 hBE hF;cases b
  ·go_upto_region 3 with fail
   have HP:=qD (W.out.path.step BE.out);have HPN:=qD W.out.path.sr.ln
   go_cut [56] (fun v wx=>∃b:Bool,v=.bool b/\(b=false->db p.op=true->p.path.xs.length<=16)/\wx=wc)
   case first=>
    cases el
    all_goals go_wp2_with (first
     | (go_at_call 80;refine(rQ _ _).mono ?_;rintro e w1 ⟨rfl,rfl⟩;cases hOB:db p.op)
     | (go_at_call 20;refine(mh p.path.xs _ _ _ _ HP.out).mono ?_;rintro e w1 ⟨rfl,rfl⟩;cases hPB:dw p.path.xs))
    all_goals go_meet
    all_goals first
     | exact⟨true,rfl,fun h=>by simp at h,rfl⟩
     | exact⟨false,rfl,fun _ h=>absurd (hOB.symm.trans h) dE,rfl⟩
     | exact⟨false,rfl,fun _ _=>DV hPB,rfl⟩
     | exact⟨_,rfl,fun h _=>by have:=HPN.out;simp at h;omega,rfl⟩
   case rest=>
    obtain⟨b,rfl,hF,rfl⟩:=hcut;have F3:=qD hF;clear hF HPN;cases b
    ·go_upto_region 5 with fail
     have RA:=qD (bZ B0.out);have HA:=qD (W.out.arg.step BE.out)
     go_cut [76] (fun v wx=>∃b:Bool,v=.bool b/\(b=false->dH p.op=true->aJ p.arg.2=true/\(de p.op=true->p.arg.1.k=4))/\aG wx w.heap.size 38 (bL p)/\Bl w wx)
     case first=>
      go_wp2_with (first
       | ((with_reducible show wpList _ _ _ (⟨_,.load 29 _,_,_,_,_⟩::_) _ _);refine aH rfl 29 _ rfl w.heap.size 2 rfl _ _ RA.out Pj rfl kR ?_)
       | (go_at_call 81;refine(rS _ _).mono ?_;rintro e w1 ⟨rfl,rfl⟩;cases hAB:dH p.op)
       | (go_at_call 82;refine(pR _ _).mono ?_;rintro e w1 ⟨rfl,rfl⟩;cases hTB:de p.op)
       | (go_at_call 8;refine(di p.arg.2 p.arg.1 _ HA.out).mono ?_;rintro e w1 ⟨rfl,hb⟩;replace B0:=qD (B0.out.step hb);replace BE:=qD (BE.out.Ml hb);clear hb d0 d1 d2 d7 d8 d9 d24;obtain⟨d0,d1,d2,_,d7,d8,d9,d24⟩:=aU B0.out;cases hVB:aJ p.arg.2))
      all_goals go_meet
      all_goals first
       | exact⟨true,rfl,fun h=>by simp at h,B0.out,BE.out⟩
       | exact⟨false,rfl,fun _ h=>absurd (hAB.symm.trans h) dE,B0.out,BE.out⟩
       | exact⟨false,rfl,fun _ _=>⟨hVB,fun h=>absurd (hTB.symm.trans h) dE⟩,B0.out,BE.out⟩
       | exact⟨_,rfl,fun h _=>⟨hVB,fun _=>by simpa using h⟩,B0.out,BE.out⟩
     case rest=>
      obtain⟨b,rfl,hF,hB0,hBE⟩:=hcut;clear B0 BE d0 d1 d2 d7 d8 d9 d24 RA HA HP;have B0:=qD hB0;have BE:=qD hBE;have F5:=qD hF;obtain⟨d0,d1,d2,_,d7,d8,d9,d24⟩:=aU B0.out;clear hB0 hBE hF;cases b
      ·go_upto_block 0 with fail
       go_cut [5] (fun _ wx=>(cY p.op=true->∀x∈p.args.xs,aJ x.2=true)/\aG wx w.heap.size 38 (bL p)/\Bl w wx)
       case first=>
        go_wp2_with fail
        go_loopw [5] (fun v wr=>∃i:Nat,i<=p.args.n/\v=.int .i64 i/\(∀(j:Nat) (x:PV),j<i->p.args.xs[j]?=some x->aJ x.2=true)/\aG wr w.heap.size 38 (bL p)/\Bl w wr) (fun v _=>p.args.n-(intOf v).toNat)
        ·exact⟨0,ON _,rfl,fun j _ h=>absurd h oM,B0.out,BE.out⟩
        case round=>
         obtain⟨i,hi,rfl,hall,hB0,hBE⟩:=hrel;clear B0 BE d0 d1 d2 d7 d8 d9 d24;have B0:=qD hB0;have BE:=qD hBE;have HALL:=qD hall;obtain⟨d0,d1,d2,_,d7,d8,d9,d24⟩:=aU B0.out;clear hB0 hBE hall;by_cases hlt:i<p.args.n
         ·cases hSB:cY p.op
          ·go_wp2_with (go_at_call 78;refine(jO _ _).mono ?_;rintro e w1 ⟨rfl,rfl⟩;rw[hSB]);go_meet;exact⟨fun h=>absurd (hSB.symm.trans h) dE,B0.out,BE.out⟩
          ·obtain⟨b,off,x,hA,hb,hx,hm,hrg⟩:=W.out.args.sr.row hlt;have HX:=qD hx;have RG:=qD (bB hrg BE.out hb);have HV:=qD ((W.out.args.rv x hm).step BE.out);rw[hA] at d7;have HA:=qD hA;clear hrg hA hx
           go_wp2_with (first
            | (go_at_call 78;refine(jO _ _).mono ?_;rintro e w1 ⟨rfl,rfl⟩;rw[hSB])
            | ((with_reducible show wpList _ _ _ (⟨_,.load 29 _,_,_,_,_⟩::_) _ _);refine aH rfl 29 _ rfl b (off+i*5) rfl _ _ RG.out Pj rfl kR ?_)
            | (go_at_call 8;refine(di x.2 x.1 _ HV.out).mono ?_;rintro e w1 ⟨rfl,hbb⟩;replace B0:=qD (B0.out.step hbb);replace BE:=qD (BE.out.Ml hbb);clear hbb;cases hVB:aJ x.2))
           ·go_ret;exact ir.no dE BE.out
           ·go_roundw
            case rel=>
             refine⟨i+1,by omega,by go_num,fun j y hj hy=>?_,B0.out,BE.out⟩;by_cases hji:j=i
             ·subst hji;obtain rfl:y=x:=by have:=hy.symm.trans HX.out;simpa using this
              exact hVB
             ·exact HALL.out j y oM hy
            case measure=>exact iO
         ·obtain rfl:i=p.args.n:=oM
          go_wp2_with fail;go_meet;refine⟨fun _ x hx=>?_,B0.out,BE.out⟩;obtain⟨j,hj,rfl⟩:=Sj hx;exact HALL.out j _ (by have:=W.out.args.sr.ln;omega) (OH hj)
       case rest=>
        obtain⟨hF,hB0,hBE⟩:=hcut;clear B0 BE d0 d1 d2 d7 d8 d9 d24;have B0:=qD hB0;have BE:=qD hBE;have FA:=qD hF;have ND:Hid (ML p):=qD ⟨(F1.out rfl).2,(F1.out rfl).1.1,(F1.out rfl).1.2,F5.out rfl,FA.out,F3.out rfl⟩;obtain⟨d0,d1,d2,_,d7,d8,d9,d24⟩:=aU B0.out;clear hB0 hBE hF FA F1 F5 F3
        go_upto_if 98 with fail
        go_cut [6] (fun _ wx=>aG wx w.heap.size 38 (bL p)/\Bl w wx)
        case first=>
         cases h18:(p.op==18)
         ·go_wp2_with fail;go_meet;exact⟨B0.out,BE.out⟩
         ·have RS:=qD (kZ B0.out);have HSH:=qD (DT p.sk p.sr p.pts wc (W.out.pts.step BE.out) W.out.psz)
          go_wp2_with (first
           | ((with_reducible show wpList _ _ _ (⟨_,.load 32 _,_,_,_,_⟩::_) _ _);refine aH rfl 32 _ rfl w.heap.size 10 rfl _ _ RS.out Rj rfl kR ?_)
           | (go_at_call 83;refine HSH.out.mono ?_;rintro e w1 ⟨er,rfl,hb⟩;replace B0:=qD (B0.out.step hb);replace BE:=qD (BE.out.Ml hb);clear hb;by_cases he:er=0;(focus (subst he))))
          ·go_meet;exact⟨B0.out,BE.out⟩
          ·have he':(er != 0)=true:=by simpa using he
           have HE:=qD he;clear he;go_wp2;go_ret;exact ir.no HE.out BE.out
        case rest=>
         obtain⟨hB0,hBE⟩:=hcut;clear B0 BE d0 d1 d2 d7 d8 d9 d24;have B0:=qD hB0;have BE:=qD hBE;obtain⟨d0,d1,d2,_,d7,d8,d9,d24⟩:=aU B0.out;have RF:=qD (cg B0.out);clear hB0 hBE
         go_upto_if 107 with(first
          | ((with_reducible show wpList _ _ _ (⟨_,.load 38 _,_,_,_,_⟩::_) _ _);refine aH rfl 38 _ rfl w.heap.size 0 rfl _ _ RF.out Oq rfl kR ?_)
          | (go_at_call 84;refine(zj p _).mono ?_;rintro e w1 ⟨bu,rfl,hb⟩;replace B0:=qD (B0.out.step hb);replace BE:=qD (BE.out.Ml hb);clear hb d0 d1 d2 d7 d8 d9 d24;obtain⟨d0,d1,d2,_,d7,d8,d9,d24⟩:=aU B0.out))
         cases bu
         ·go_wp2;go_ret;exact ir.no dE BE.out
         cases h24:(p.op==24)
         ·go_upto_region 21 with fail
          go_loopw [7,8] (fun v _ wr=>∃i:Nat,i<=p.kn/\v=.int .i64 i/\(∀(j:Nat) (k:aj),j<i->p.kids[j]?=some k->oZ k)/\aG wr w.heap.size 38 (bL p)/\Bl w wr) (fun v _ _=>p.kn-(intOf v).toNat)
          ·exact⟨0,ON _,rfl,fun j _ h=>absurd h oM,B0.out,BE.out⟩
          case round=>
           obtain⟨i,hi,rfl,hall,hB0,hBE⟩:=hrel;clear B0 BE d0 d1 d2 d7 d8 d9 d24 RF;have B0:=qD hB0;have BE:=qD hBE;have HALL:=qD hall;obtain⟨d0,_,_,_,_,_,_,d24⟩:=aU B0.out;clear hB0 hBE hall;by_cases hlt:i<p.kn
           ·obtain⟨b,off,k,hA,hb,hx,hm,hrg⟩:=W.out.sr.row hlt;have HX:=qD hx;have RG:=qD (bB hrg BE.out hb);have HLB:Hid (b<wr.heap.size):=qD (Ol hb BE.out.size);have IX:=qD fun(el:Bool) (w':World) (hw:Bl wr w')=>IH.out k hm el w' ((W.out.kids k hm).step (BE.out.Ml hw)) (HT.out.step (BE.out.Ml hw));rw[hA] at d24;have i0:(0:Int)<=(i:Int):=oM
            have i1:(i:Int)<(p.kn:Int):=oM
            clear hrg hA hx;go_upto_region 23 with fail
            have KS:Hid (∀w',Bl wr w'->(Instr.loadAt 38 (.pointer (some ⟨b,off+i*25,none⟩))).run prog w'=.ok (.agg (eY k).toArray) w'/\w'.cell? ⟨w.heap.size,0,none⟩=some (.int .i64 p.op)/\w'.cell? ⟨w.heap.size,24,none⟩=some (.slice (some ⟨b,off,none⟩) p.kn p.kc)):=qD fun w' hw=>
             ⟨Qy w' b (off+i*25) 38 (eY k) _ (bB RG.out hw HLB.out) Oq rfl kR,(hw.cell (p:=⟨w.heap.size,0,none⟩) B0.out.lt).trans d0,(hw.cell (p:=⟨w.heap.size,24,none⟩) B0.out.lt).trans d24⟩
            have B:=qD ((OG wr.heap.size wr).drewN 1);clear d0 d24;cases el
            ·cases h15:(p.op==15)
             all_goals
              refine PH ?_;refine Oy (S:=(fun w'=>(Instr.loadAt 38 (.pointer (some ⟨b,off+i*25,none⟩))).run prog w'=.ok (.agg (eY k).toArray) w'/\w'.cell? ⟨w.heap.size,0,none⟩=some (.int .i64 p.op)/\w'.cell? ⟨w.heap.size,24,none⟩=some (.slice (some ⟨b,off,none⟩) p.kn p.kc))) kR ?_ (fun hHeld=>?_)
              ·(try dsimp only);exact KS.out _ B.out
              refine rV 0 rfl ?_
              try go_frame
              refine rV 1 rfl ?_
              try go_frame
              refine rV 2 rfl ?_
              try go_frame
              refine rV 3 rfl ?_
              try go_frame
              refine rT (v:=.agg (eY k).toArray) 4 rfl (fun w' hSw=>bm (p:=.pointer (some ⟨b,off+i*25,none⟩)) rfl rfl hSw.1) ?_
              try go_frame
              refine rV 5 rfl ?_
              try go_frame
              refine rV 6 rfl ?_
              try go_frame
              refine rV 7 rfl ?_
              try go_frame
              refine rV 8 rfl ?_
              try go_frame
              refine rV 9 rfl ?_
              try go_frame
              refine rV 10 rfl ?_
              try go_frame
              refine rY 11 rfl fun K hK=>?_;go_simp;refine(IX.out _ _ B.out).mono ?_;rintro e3 w3 ⟨er,rfl,hn,hb3⟩;replace B:=qD (B.out.Ml hb3);have HN:=qD hn;clear hb3 hn
              (try go_wp2_with fail)
              clear hHeld;refine hK.out _ _ (KS.out _ B.out) fun hHeld=>?_;clear hK K
              try go_frame
              refine rU 12 rfl ?_
              try go_frame
              refine rD ?_ _;refine PL ?_;clear hHeld;by_cases he:er=0
              ·subst he;go_wp2_with fail;go_roundw
               case rel=>
                refine⟨i+1,by omega,by go_num,fun j y hj hy=>?_,B0.out.step B.out,BE.out.Ml B.out⟩;by_cases hji:j=i
                ·subst hji;obtain rfl:y=k:=by have:=hy.symm.trans HX.out;simpa using this
                 exact(by have h:=HN.out;simpa using h)
                ·exact HALL.out j y oM hy
               case measure=>exact iO
              ·have he':(er != 0)=true:=by simpa using he
               have HE:=qD he;clear he;go_wp2;go_ret;exact ir.no HE.out (BE.out.Ml B.out)
            ·refine PH ?_;refine Oy (S:=(fun w'=>(Instr.loadAt 38 (.pointer (some ⟨b,off+i*25,none⟩))).run prog w'=.ok (.agg (eY k).toArray) w'/\w'.cell? ⟨w.heap.size,0,none⟩=some (.int .i64 p.op)/\w'.cell? ⟨w.heap.size,24,none⟩=some (.slice (some ⟨b,off,none⟩) p.kn p.kc))) kR ?_ (fun hHeld=>?_)
             ·(try dsimp only);exact KS.out _ B.out
             refine rV 0 rfl ?_
             try go_frame
             refine rV 1 rfl ?_
             try go_frame
             refine rV 2 rfl ?_
             try go_frame
             refine rV 3 rfl ?_
             try go_frame
             refine rT (v:=.agg (eY k).toArray) 4 rfl (fun w' hSw=>bm (p:=.pointer (some ⟨b,off+i*25,none⟩)) rfl rfl hSw.1) ?_
             try go_frame
             refine rV 5 rfl ?_
             try go_frame
             refine rV 6 rfl ?_
             try go_frame
             refine Se (i:=7) (v:=undef) (uz rfl) kR kR kR (fun _ _ _ h=>h) (Or.inr ⟨by rfl,rfl⟩) (by assumption) ?_
             try go_frame
             refine Se (i:=8) (v:=undef) (uz rfl) kR kR kR (fun _ _ _ h=>h) (Or.inr ⟨by rfl,rfl⟩) (by assumption) ?_
             try go_frame
             refine Se (i:=9) (v:=undef) (uz rfl) kR kR kR (fun _ _ _ h=>h) (Or.inr ⟨by rfl,rfl⟩) (by assumption) ?_
             try go_frame
             refine rV 10 rfl ?_
             try go_frame
             refine rY 11 rfl fun K hK=>?_;go_simp;refine(IX.out _ _ B.out).mono ?_;rintro e3 w3 ⟨er,rfl,hn,hb3⟩;replace B:=qD (B.out.Ml hb3);have HN:=qD hn;clear hb3 hn
             (try go_wp2_with fail)
             clear hHeld;refine hK.out _ _ (KS.out _ B.out) fun hHeld=>?_;clear hK K
             try go_frame
             refine rU 12 rfl ?_
             try go_frame
             refine rD ?_ _;refine PL ?_;clear hHeld;by_cases he:er=0
             ·subst he;go_wp2_with fail;go_roundw
              case rel=>
               refine⟨i+1,by omega,by go_num,fun j y hj hy=>?_,B0.out.step B.out,BE.out.Ml B.out⟩;by_cases hji:j=i
               ·subst hji;obtain rfl:y=k:=by have:=hy.symm.trans HX.out;simpa using this
                exact(by have h:=HN.out;simpa using h)
               ·exact HALL.out j y oM hy
              case measure=>exact iO
             ·have he':(er != 0)=true:=by simpa using he
              have HE:=qD he;clear he;go_wp2;go_ret;exact ir.no HE.out (BE.out.Ml B.out)
           ·obtain rfl:i=p.kn:=oM
            go_wp2;go_ret;refine⟨0,rfl,fun _=>ND.out.Nz W.out fun _ k hk=>?_,BE.out⟩;obtain⟨j,hj,rfl⟩:=Sj hk;exact HALL.out j _ (by have:=W.out.sr.ln;omega) (OH hj)
         ·have RE:=qD (mb B0.out);have HV8:=qD fun wr (hb:Bl w wr)=>zl p.ex wr (W.out.ex.step hb) (HT.out.step hb)
          go_wp2_with (first
           | ((with_reducible show wpList _ _ _ (⟨_,.load 35 _,_,_,_,_⟩::_) _ _);refine aH rfl 35 _ rfl w.heap.size 13 rfl _ _ RE.out Pe rfl kR ?_)
           | (go_at_call 85;refine(HV8.out _ BE.out).mono ?_;rintro e w1 ⟨er,rfl,hb⟩;replace BE:=qD (BE.out.Ml hb);clear hb))
          go_ret;exact⟨er,rfl,fun _=>ND.out.Nz W.out (fun h=>absurd (show p.op=24 by simpa using h24) h),BE.out⟩
      ·go_wp2;go_ret;exact ir.no dE BE.out
    ·go_wp2;go_ret;exact ir.no dE BE.out
  ·go_wp2;go_ret;exact ir.no dE BE.out
theorem Fo(p:aj):∀(lv lf:Int) (w:World),WP w p->0<=lv->lv<=1000->-1<=lf->lf<=1000->Calls prog 25 #[al p,.int .i64 lv,.int .i64 lf] w (IQ p lf w):=by
 induction p using aj.ind with
 | h p ih=>
 intro lv lf w hw h1 h2 h3 h4;have W:=qD hw.open;have IH:=qD ih;have hkn:=qD W.out.sr.ln;have hkz:p.kn<=140737488355328:=by have:=W.out.ksz;unfold aF at this;omega
 clear ih hw;go_enter func25,ntmps25;go_upto_region 1 with fail
 refine ml (bL p) 38 ?_;intro wa B0 BE;by_cases hz0:lv=0
 ·subst hz0;go_wp2;go_ret;exact⟨-1,rfl,by omega,by omega,fun h=>absurd h oM,BE.out⟩
 by_cases hz:lf<=0
 ·have g1:(lv==0)=false:=by simpa using hz0
  clear hz0;go_wp2;go_ret;exact⟨-1,rfl,by omega,by omega,fun h=>absurd h oM,BE.out⟩
 ·have g1:(lv==0)=false:=by simp;omega
  have g2:¬lf<=0:=oM
  have g3:wrap64 (lf-1)=lf-1:=by unfold wrap64;omega
  have g4:wrap64 (lv-1)=lv-1:=by unfold wrap64;omega
  go_upto_region 5 with fail
  (try rw[g3])
  go_loopw [2,7] (fun v2 v7 wr=>∃(i:Nat) (r:Int),i<=p.kn/\v2=.int .i64 r/\v7=.int .i64 i/\Mi p lf w i r wr) (fun _ v7 _=>p.kn-(intOf v7).toNat)
  ·exact⟨0,lf-1,ON _,rfl,rfl,B0.out,BE.out,by omega,by omega,fun _=>by simp[aj.nodes.nodesL]⟩
  case round=>
   obtain⟨i,r,hi,rfl,rfl,hI⟩:=hrel;have HI:=qD hI;obtain⟨_,_,_,_,_,_,_,d24⟩:=aU hI.b0;have rlo:=hI.lo;have rhi:=hI.hi;clear hI;by_cases hlt:i<p.kn
   ·by_cases hr:0<=r
    ·obtain⟨b,off,x,hA,hb,hx,hm,hrg⟩:=W.out.sr.row hlt;have RG:=qD (bB (hrg) HI.out.bel hb);have HX:=qD hx;have KW:=qD ((W.out.kids x hm).step HI.out.bel);have IX:=qD (IH.out x hm);rw[hA] at d24;clear hrg hx hm hA
     go_wp2_with (first
      | ((with_reducible show wpList _ _ _ (⟨_,.load 38 _,_,_,_,_⟩::_) _ _);refine aH rfl 38 _ rfl b (off+i*25) rfl _ _ RG.out Oq rfl kR ?_)
      | (go_at_call 25;(try rw[g4]);refine(IX.out (lv-1) r _ KW.out oM oM rlo rhi).mono ?_;rintro e w1 ⟨r',rfl,hr1,hr2,hr3,hbb⟩;have H3:=qD hr3;have HB:=qD hbb;clear hr3 hbb))
     go_roundw
     case rel=>
      refine⟨i+1,r',by omega,rfl,by go_num,HI.out.b0.step HB.out,HI.out.bel.Ml HB.out,hr1,hr2,fun h=>?_⟩;have e1:=H3.out h;have e2:=HI.out.eq hr;have e3:=xQ HX.out;omega
     case measure=>exact iO
    ·go_wp2;go_ret;exact⟨r,rfl,rlo,rhi,fun h=>absurd h oM,HI.out.bel⟩
   ·obtain rfl:i=p.kn:=oM
    go_wp2;go_ret;refine⟨r,rfl,rlo,rhi,fun h=>?_,HI.out.bel⟩;have e:=HI.out.eq h;rw[hkn.out,Rq] at e;rw[p.NQ];omega
theorem DW(p:aj)(w:World)(h:WP w p)(hT:cZ w):Calls prog 7 #[al p] w fun e w'=>∃n:Int,e=.returned (.int .i64 n)/\(n=0->oZ p/\p.nodes<=256)/\Bl w w':=by
 have HT:=qD hT;have HW:=qD h;clear h hT;go_enter func7,ntmps7;go_upto_region 1 with fail
 refine ml (bL p) 38 ?_;intro wa B0 BE;have RF:=qD (cg B0.out)
 go_upto_if 5 with(first
  | ((with_reducible show wpList _ _ _ (⟨_,.load 38 _,_,_,_,_⟩::_) _ _);refine aH rfl 38 _ rfl w.heap.size 0 rfl _ _ RF.out Oq rfl kR ?_)
  | (go_at_call 25;refine(Fo p 16 256 _ (HW.out.step BE.out) oM oM oM oM).mono ?_;rintro e w1 ⟨r,rfl,hr1,hr2,hr3,hb⟩;replace B0:=qD (B0.out.step hb);replace BE:=qD (BE.out.Ml hb);have HR:=qD hr3;replace RF:=qD (cg B0.out);clear hb hr3))
 by_cases hneg:r<0
 ·go_wp2;go_ret;exact⟨2,rfl,fun h=>absurd h dE,BE.out⟩
 ·have HN:Hid (p.nodes<=256):=by have:=HR.out oM;exact qD oM
  go_wp2_with (first
   | ((with_reducible show wpList _ _ _ (⟨_,.load 38 _,_,_,_,_⟩::_) _ _);refine aH rfl 38 _ rfl w.heap.size 0 rfl _ _ RF.out Oq rfl kR ?_)
   | (go_at_call 26;refine(zm p false _ (HW.out.step BE.out) (HT.out.step BE.out)).mono ?_;rintro e w1 ⟨n,rfl,hn,hb⟩;replace BE:=qD (BE.out.Ml hb);have HV:=qD hn;clear hb hn))
  go_ret;exact⟨n,rfl,fun h=>⟨HV.out h,HN.out⟩,BE.out⟩
def ka:ByteArray:=⟨#[97]⟩
def oa(n:Int):aC:=.mk 3 n empty [] []
def LV(n:Int):VC:=⟨3,n,empty,none,0,0,none,0,0⟩
def vD(n:Int):aC:=.mk 5 0 empty [] [.mk ka (oa n)]
def IR:List Od:=[⟨[ka],false⟩]
theorem Be(n:Int):aw aM (oa n):=(aT _ _).2 ⟨⟨.inl rfl,.inr (.inr (.inr rfl)),.inr rfl,.inr rfl,.inr (.inr (.inr (.inl rfl)))⟩,by simp[oa,aC.l],by simp[oa,aC.d],by simp[oa,aC.d,ib]⟩
theorem zn:aw aM cR:=(aT _ _).2 ⟨by simp[dU,cR,aC.k,aC.n,aC.t,aC.l,aC.d],by simp[cR,aC.l],by simp[cR,aC.d],by simp[cR,aC.d,ib]⟩
theorem IS(n:Int):aw aM (vD n):=(aT _ _).2 ⟨⟨.inr (.inr (.inr rfl)),.inr (.inr (.inr rfl)),.inr rfl,.inl rfl,by simp[vD,aC.k]⟩,by simp[vD,aC.l],by intro f hf;simp[vD,aC.d] at hf;subst hf;exact Be n,by
 refine⟨fun f hf=>?_,by simp[vD,aC.d]⟩
 simp[vD,aC.d] at hf
 subst hf
 show aM ka=true
 kernel_rfl⟩
theorem um(n:Int):aJ (oa n)=true:=by
 have h1:(oa n).size=1:=by simp[oa,aC.size]
 have h2:(oa n).Ms=1:=by simp[oa,aC.Ms]
 unfold aJ;rw[OM oM,OM oM,ci (Be n)];rfl
theorem gP:aJ cR=true:=by
 have h1:cR.size=1:=by simp[cR,aC.size]
 have h2:cR.Ms=1:=by simp[cR,aC.Ms]
 unfold aJ;rw[OM oM,OM oM,ci zn];rfl
theorem Fp(n:Int):aJ (vD n)=true:=by
 have h1:(vD n).size=2:=by simp[vD,oa,aC.size,sq,Ak]
 have h2:(vD n).Ms=2:=by simp[vD,oa,aC.Ms,mM,pz]
 unfold aJ;rw[OM oM,OM oM,ci (IS n)];rfl
theorem lp{x:aC}(h:aJ x=true):dx x=true:=by unfold dx;rw[h,Bool.or_true]
theorem Fq(n:Int):gY [oa n]=(strOfNums (cP [oa n]),0):=jh (by unfold dr;simp[lp (um n)])
theorem MM(n:Int):cT (vD n) [ka]=some (oa n):=by
 have h:eG (vD n) ka=some (oa n):=by
  refine pB (j:=0) (f:=.mk ka (oa n)) ?_ rfl;kernel_rfl
 rw[nT (by show(5:Int)≠6;decide) h,pC (by show(3:Int)≠6;decide)]
theorem Jw(n:Int):jA IR (vD n)=some [oa n]:=by
 rw[tE rfl (Fp n),IR,dj,MM];rfl
theorem LW(n:Int):nD IR false (vD n)=(strOfNums (cP [oa n]),0):=by rw[mQ (Jw n),tF,Fq]
theorem Bf:strOfNums (cP [oa 5])=⟨#[3,128,0,0,0,0,0,0,5]⟩:=kR
theorem DX:cL cR≠cL (oa 5):=by
 unfold cL;rw[OW (lp gP),OW (lp (um 5))];have h:(((jW (strOfNums (bR cR)):Nat):Int)==((jW (strOfNums (bR (oa 5))):Nat):Int))=false:=kR
 simpa using h
theorem Fs:il IR false=0:=kR
theorem Fu:il [] false=11:=kR
theorem Fv(h:aG w g 9 #[.string ka]):ST w (some ⟨g,0,none⟩) 1 1 [ka]:=by
 refine⟨⟨rfl,qL,fun _=>⟨g,0,rfl,h.lt,fun i a hi j v hj=>?_⟩⟩,by show 1*16<=aF;decide,fun s hs=>?_⟩
 ·cases i with
  | zero=>
   simp at hi;subst hi;cases j with
   | zero=>simp[cO] at hj;subst hj;exact h.cell 0
   | succ j=>simp[cO] at hj
  | succ i=>simp at hi
 ·simp at hs;subst hs;show 1<=aF;decide
theorem JI{g1:Nat}(h1:aG w g1 9 #[.string ka])(h2:aG w g2 70 #[.slice (some ⟨g1,0,none⟩) 1 1,.bool false]):KS w (some ⟨g2,0,none⟩) 1 1 IR:=by
 refine⟨[⟨some ⟨g1,0,none⟩,1,1,false⟩],⟨⟨rfl,qL,fun _=>⟨g2,0,rfl,h2.lt,fun i a hi j v hj=>?_⟩⟩,by show 1*32<=aF;decide,rfl,fun i o q ho hq=>?_⟩⟩
 ·cases i with
  | zero=>
   simp at hi;subst hi
   match j,hj with
   | 0,hj=>simp[wO] at hj;subst hj;exact h2.cell 0
   | 1,hj=>simp[wO] at hj;subst hj;exact h2.cell 1
   | j+2,hj=>simp[wO] at hj
  | succ i=>simp at hi
 ·cases i with
  | zero=>
   simp at ho;simp[IR] at hq;subst ho hq;exact⟨rfl,Fv h1⟩
  | succ i=>simp at ho
theorem Jx(n:Int)(w:World):RV F w (LV n) (oa n):=pw.shut ⟨rfl,rfl,rfl,by show 0<=aF;decide,rfl,qL,by show 0*80<=aF;decide,fun h=>absurd h (by show ¬(0<0);omega),rfl,qL,by show 0*96<=aF;decide,fun h=>absurd h (by show ¬(0<0);omega)⟩
abbrev cD(g:Nat):VC:=⟨5,0,empty,none,0,0,some ⟨g,0,none⟩,1,1⟩
theorem MN{n:Int}(h:aG w g 77 #[.string ka,.int .i64 3,.int .i64 n,.string empty,.slice none 0 0,.slice none 0 0]):RW w (cD g) (vD n):=by
 refine pw.shut ⟨rfl,rfl,rfl,by show 0<=aF;decide,rfl,qL,by show 0*80<=aF;decide,fun h=>absurd h (by show ¬(0<0);omega),rfl,qL,by show 1*96<=aF;decide,fun _=>⟨g,0,rfl,Ft.Nd,fun i f hi=>?_⟩⟩;cases i with
 | zero=>
  simp[vD,aC.d] at hi;subst hi;exact⟨h.cell 0,by show 1<=aF;decide,LV n,⟨h.cell 1,h.cell 2,h.cell 3,h.cell 4,h.cell 5⟩,Jx n w⟩
 | succ i=>simp[vD,aC.d] at hi
theorem IT:bK [ka] [ka]=true:=kR
theorem xR{fn:Func}{p:Tmp}(h:fn.results=#[.cell p 24])(tmps:Array Value)(g1 off:Nat)(h1:tmps[p]?.getD undef=.pointer (some ⟨g1,off,none⟩))(W:World)(a b:Value)(q0:W.cell? ⟨g1,off,none⟩=some a)(q1:W.cell? ⟨g1,off+1,none⟩=some b):
  (results fn tmps).run prog W=.ok (.agg #[a,b]) W:=by
  simp[results,h,h1,asAddr,go_sem,q0,q1]
def LY(w:World)(e:Ending)(w':World):Prop:=
 ∃g1 g2:Nat,e=.returned (.agg #[.slice (some ⟨g2,0,none⟩) 1 1,.bool false])/\aG w' g1 9 #[.string ka]/\aG w' g2 70 #[.slice (some ⟨g1,0,none⟩) 1 1,.bool false]/\Bl w w'
theorem un(w:World):Calls prog 31 #[] w (LY w):=by
 go_enter func31,ntmps31;go_wp2_with fail
 exact OO (xR rfl _ _ _ rfl _ (.slice (some ⟨w.heap.size+1+1,0,none⟩) 1 1) (.bool false) ((((aG.Mm rfl).alloc _).alloc _).cell 0) ((((aG.Mm rfl).alloc _).alloc _).cell 1)) rfl
  ⟨w.heap.size+1,w.heap.size+1+1,rfl,(aG.Mm sM).alloc _,aG.Mm sM,(((OG _ _).alloc (qL) _).alloc sM _).alloc sO _⟩
abbrev k5:ByteArray:=⟨#[3,128,0,0,0,0,0,0,5]⟩
theorem Fw:gY [oa 5]=(k5,0):=by rw[Fq,Bf]
theorem IU(w:World):Calls prog 109 #[.string k5] w (Rt w (.tuple #[.string (k5.extract 0 8++strOfNums [((5+1:Nat):Int)]),.bool true])):=
 zC k5 5 w rfl rfl oM
theorem ea(w:World)(hT:cZ w):Calls prog 9 #[] w (Rt w (.bool true)):=by
 have HT:=qD hT;clear hT;have Z:=qD (OG w.heap.size w);go_enter func9,ntmps9;go_wp2_with fail;refine(kO 5 _).mono ?_;rintro e w1 ⟨rfl,hb⟩;have Z1:=qD (Z.out.Ml hb);clear hb Z;go_upto_region 2 with fail
 change Code.wp _ _ _ _ ((w1.alloc (.cells #[.string ka,.int .i64 3,.int .i64 5,.string empty,.slice none 0 0,.slice none 0 0] 77)).alloc (.cells (cD w1.heap.size).arr 29));have F0:Hid (aG ((w1.alloc (.cells #[.string ka,.int .i64 3,.int .i64 5,.string empty,.slice none 0 0,.slice none 0 0] 77)).alloc (.cells (cD w1.heap.size).arr 29)) w1.heap.size 77 #[.string ka,.int .i64 3,.int .i64 5,.string empty,.slice none 0 0,.slice none 0 0]):=(aG.Mm rfl).alloc _;have D0:Hid (aG ((w1.alloc (.cells #[.string ka,.int .i64 3,.int .i64 5,.string empty,.slice none 0 0,.slice none 0 0] 77)).alloc (.cells (cD w1.heap.size).arr 29)) (w1.heap.size+1) 29 (cD w1.heap.size).arr):=aG.Mm sM;have Z2:Hid (Bl w ((w1.alloc (.cells #[.string ka,.int .i64 3,.int .i64 5,.string empty,.slice none 0 0,.slice none 0 0] 77)).alloc (.cells (cD w1.heap.size).arr 29))):=(Z1.out.alloc Z1.out.size _).alloc (by have:=Z1.out.size;simp;omega) _;generalize ((w1.alloc (.cells #[.string ka,.int .i64 3,.int .i64 5,.string empty,.slice none 0 0,.slice none 0 0] 77)).alloc (.cells (cD w1.heap.size).arr 29))=wa at*;generalize w1.heap.size=gf at*;obtain⟨a0,a1,a2,a3,a4⟩:=aO.Mp D0.out;have B:=qD ((OG wa.heap.size wa).drewN 1)
 have KSS:Hid (∀w',Bl wa w'->w'.cell? ⟨gf+1,0,none⟩=some (.int .i64 5)/\w'.cell? ⟨gf+1,1,none⟩=some (.int .i64 0)/\w'.cell? ⟨gf+1,2,none⟩=some (.string empty)/\w'.cell? ⟨gf+1,3,none⟩=some (.slice none 0 0)/\w'.cell? ⟨gf+1,4,none⟩=some (.slice (some ⟨gf,0,none⟩) 1 1)):=qD fun w' hb=>
  ⟨(hb.cell (p:=⟨gf+1,0,none⟩) D0.out.lt).trans a0,(hb.cell (p:=⟨gf+1,1,none⟩) D0.out.lt).trans a1,(hb.cell (p:=⟨gf+1,2,none⟩) D0.out.lt).trans a2,(hb.cell (p:=⟨gf+1,3,none⟩) D0.out.lt).trans a3,(hb.cell (p:=⟨gf+1,4,none⟩) D0.out.lt).trans a4⟩
 have RD:=qD (MN F0.out)
 have HENC:Hid (∀(g2:Nat) (wq:World),cZ wq->KS wq (some ⟨g2,0,none⟩) 1 1 IR->RW wq (cD gf) (vD 5)->Calls prog 10 #[.agg #[.slice (some ⟨g2,0,none⟩) 1 1,.bool false],(cD gf).val] wq (Rt wq (.tuple #[.string k5,.int .i64 0]))):=qD fun g2 wq ht hk hr=>by
  have:=vi IR false (some ⟨g2,0,none⟩) 1 1 (vD 5) (cD gf) wq ht hk hr dE;rw[LW,Bf] at this;exact this
 clear a0 a1 a2 a3 a4
 go_cut [2,3] (fun v2 v3 wx=>v2=.string k5/\v3=.int .i64 0/\Bl wa wx)
 case first=>
  go_region_held3 (fun w'=>w'.cell? ⟨gf+1,0,none⟩=some (.int .i64 5)/\w'.cell? ⟨gf+1,1,none⟩=some (.int .i64 0)/\w'.cell? ⟨gf+1,2,none⟩=some (.string empty)/\w'.cell? ⟨gf+1,3,none⟩=some (.slice none 0 0)/\w'.cell? ⟨gf+1,4,none⟩=some (.slice (some ⟨gf,0,none⟩) 1 1))
   (first|exact KSS.out _ B.out|((try dsimp only);assumption)|go_keep)
   (first
     | (go_at_call 31;refine(un _).mono ?_;rintro e3 w3 ⟨g1,g2,rfl,hk1,hk2,hb⟩;replace B:=qD (B.out.Ml hb);have K1:=qD hk1;have K2:=qD hk2;clear hb hk1 hk2)
     | (go_at_call 10;refine(HENC.out g2 _ (HT.out.step (Z2.out.Ml B.out)) (JI K1.out K2.out) (RD.out.step B.out)).mono ?_;rintro e4 w4 ⟨rfl,hb⟩;replace B:=qD (B.out.Ml hb);clear hb))
  all_goals
   go_wp2_with fail;go_meet;exact⟨rfl,rfl,B.out⟩
 case rest=>
  obtain⟨rfl,rfl,hb9⟩:=hcut;have Z3:=qD (Z2.out.Ml hb9);clear hb9 KSS B HENC RD F0 D0 Z2 Z1;generalize wc=w5 at*;go_wp2_with fail;refine(un _).mono ?_;rintro e w6 ⟨g1,g2,rfl,hk1,hk2,hb⟩;have K1:=qD hk1;have K2:=qD hk2;have Z4:=qD (Z3.out.Ml hb);clear hb hk1 hk2 Z3;go_wp2_with fail;refine(kO 5 _).mono ?_;rintro e w7 ⟨rfl,hb⟩;have P0:Hid (aG w7 w6.heap.size 9 #[.string ka]):=(aG.Mm rfl:aG (w6.alloc (.cells #[.string ka] 9)) w6.heap.size 9 #[.string ka]).step hb;have Z5:=qD ((Z4.out.alloc Z4.out.size (Obj.cells #[.string ka] 9)).Ml hb);have K3:=qD ((K1.out.alloc (.cells #[.string ka] 9)).step hb);have K4:=qD ((K2.out.alloc (.cells #[.string ka] 9)).step hb);clear hb K1 K2 Z4;generalize w6.heap.size=gp at*
  have HRG:=qD (xM (eZ (oa 5)) true k5 k5 (k5.extract 0 8++strOfNums [((5+1:Nat):Int)]) k5 (k5.extract 0 8++strOfNums [((5+1:Nat):Int)]) (Fk 2 (some ⟨gp,0,none⟩) 1 1 (LV 5)) rfl ⟨some ⟨g1,0,none⟩,1,1,false⟩ g2 0 1 1 w7 (HT.out.step Z5.out) oM (K4.out.cell 0) ⟨rfl,rfl⟩ Fw Fw (.inl ⟨by show(3:Int)≠1;decide,by show(3:Int)≠11;decide,rfl,rfl⟩) IU
   (fun wr hb=>LQ (oa 5) (LV 5) (some ⟨gp,0,none⟩) (some ⟨g1,0,none⟩) 1 1 1 1 [ka] wr (HT.out.step (Z5.out.Ml hb)) (Jx 5 wr) (um 5) (by show(3:Int)≠6;decide) (by show(3:Int)≠2;decide) (Fv (P0.out.step hb)) (Fv (K3.out.step hb)) IT))
  go_wp2_with fail;refine HRG.out.mono ?_;rintro e w8 ⟨A8,c8,rfl,hsr,hb⟩;have Z6:=qD (Z5.out.Ml hb);have HSR:=qD hsr;clear hb hsr HRG Z5 K3 K4 P0;obtain⟨b,off,x,hA8,hbw,hx,e0,e1⟩:=HSR.out.Nn (i:=0) oM;obtain rfl:x=(k5,k5.extract 0 8++strOfNums [((5+1:Nat):Int)]):=by simpa using hx.symm
  subst hA8;rw[Rp,QW] at e0;have E0:=qD e0;clear hx e0 e1;go_wp2_with fail;refine(un _).mono ?_;rintro e w9 ⟨g3,g4,rfl,hk1,hk2,hb⟩;have E1:=qD ((hb.cell (p:=⟨b,off,none⟩) hbw).trans E0.out);have hbw9:b<w9.heap.size:=Ol hbw hb.size;have HKK:=qD (JI hk1 hk2);have Z7:=qD (Z6.out.Ml hb);clear hb hk1 hk2 Z6 E0 hbw HSR;have HSV:=qD (oW IR false (some ⟨g4,0,none⟩) 1 1 w9 HKK.out);rw[Fs] at HSV;go_wp2_with fail;refine HSV.out.mono ?_;rintro e wA ⟨rfl,hb⟩;have E2:=qD ((hb.cell (p:=⟨b,off,none⟩) hbw9).trans E1.out);have hbwA:b<wA.heap.size:=Ol hbw9 hb.size;have Z8:=qD (Z7.out.Ml hb);clear hb HSV HKK Z7 E1 hbw9;have HSW:=qD (oW [] false none 0 0 wA KS.nil);rw[Fu] at HSW;go_wp2_with fail;refine HSW.out.mono ?_;rintro e wB ⟨rfl,hb⟩;have E3:=(hb.cell (p:=⟨b,off,none⟩) hbwA).trans E2.out;have Z9:=qD (Z8.out.Ml hb);clear hb HSW Z8 E2 hbwA;go_wp2_with fail;refine(gR _).mono ?_;rintro e wC ⟨rfl,hb⟩;have ZA:=qD (Z9.out.Ml hb);clear hb Z9 E3;go_wp2_with fail;obtain⟨h1,hh1⟩:∃h,h=cL cR:=⟨_,rfl⟩;obtain⟨h2,hh2⟩:∃h,h=cL (oa 5):=⟨_,rfl⟩;have hne:(h1 != h2)=true:=by rw[hh1,hh2];simpa using DX
  have HH1:=qD (nz cR eL wC (HT.out.step ZA.out) jU);rw[<-hh1] at HH1;have HH2:=qD hh2;clear hh1 hh2;refine HH1.out.mono ?_;rintro e wD ⟨rfl,hb⟩;have ZB:=qD (ZA.out.Ml hb);clear hb ZA;go_wp2_with fail;refine(kO 5 _).mono ?_;rintro e wE ⟨rfl,hb⟩;have ZC:=qD (ZB.out.Ml hb);clear hb ZB;have HH:=qD (nz (oa 5) (LV 5) wE (HT.out.step ZC.out) (Jx 5 wE));rw[<-HH2.out] at HH;go_wp2_with fail;refine HH.out.mono ?_;rintro e wF ⟨rfl,hb⟩;have ZD:=qD (ZC.out.Ml hb);clear hb ZC HH HH1;go_wp2;go_ret;exact⟨rfl,ZD.out⟩
theorem zo{ks:List Od}(h:il ks ha=0):ks.length<=8/\1<=ks.length/\(ha=true->ks.length=1):=by
 unfold il at h;split at h
 ·rename_i h1;exact absurd h h1
 ·rename_i h1
  split at h
  ·cases h
  ·rename_i h2
   have h3:fZ ks=0:=by simpa using h1
   unfold fZ at h3;split at h3
   ·cases h3
   ·rename_i h4
    have h5:¬ks.length=0:=fun e=>h2 (.inl e)
    exact⟨by omega,by omega,fun hh=>by
     have:¬1<ks.length:=fun e=>h2 (.inr ⟨hh,e⟩)
     omega⟩
theorem KS.first{ks:List Od}(h:KS w A n c ks)(hn:0<n):∃(b off:Nat) (o:OC) (q:Od),A=some ⟨b,off,none⟩/\w.cell? ⟨b,off,none⟩=some (.slice o.A o.n o.c)/\ST w o.A o.n o.c q.p/\ks[0]?=some q:=by
 obtain⟨os,h⟩:=h;obtain⟨b,off,e,_,hc⟩:=h.sr.el hn;obtain⟨o,ho⟩:∃o,os[0]?=some o:=⟨_,OH (by have:=h.sr.ln;omega)⟩;obtain⟨q,hq⟩:∃q,ks[0]?=some q:=⟨_,OH (by have:=h.sr.ln;have:=h.ln;omega)⟩;exact⟨b,off,o,q,e,hc 0 o ho 0 _ rfl,(h.el 0 o q ho hq).st,hq⟩
theorem Bg{a b:ByteArray}(h:BG a b):Op.bytesLess a.toList b.toList=true:=by
 rw[BO];exact OM h
def am(P:Bool->Prop)(w:World)(e:Ending)(w':World):Prop:=∃r:Bool,e=.returned (.bool r)/\P r/\Bl w w'
theorem am.of{P:Bool->Prop}{r:Bool}(h:P r)(hb:Bl w w'):am P w (.returned (.bool r)) w':=⟨r,rfl,h,hb⟩
def DY(n:Nat)(w:World)(e:Ending)(w':World):Prop:=∃r:ByteArray,e=.returned (.string r)/\r.size<=n/\Bl w w'
theorem pY(b:Int)(w:World):Calls prog 322 #[.int .u8 b] w (am (fun _=>True) w):=by
 rcases(show b<48\/(48<=b/\b<=57)\/(57<b/\b<65)\/(65<=b/\b<=90)\/(90<b/\b<97)\/(97<=b/\b<=122)\/(122<b/\b<128)\/128<=b by omega) with h|h|h|h|h|h|h|h
 ·have h1:¬97<=b:=oM
  have h2:¬65<=b:=oM
  have h3:¬48<=b:=oM
  have h4:¬128<=b:=oM
  clear h;go_enter Rf,RO;go_wp2;go_ret;exact am.of trivial (OG _ _)
 ·have h1:¬97<=b:=oM
  have h2:¬65<=b:=oM
  obtain⟨h3,h4⟩:=h;go_enter Rf,RO;go_wp2;go_ret;exact am.of trivial (OG _ _)
 ·have h1:¬97<=b:=oM
  have h2:¬65<=b:=oM
  have h3:48<=b:=oM
  have h4:¬b<=57:=oM
  have h5:¬128<=b:=oM
  clear h;go_enter Rf,RO;go_wp2;go_ret;exact am.of trivial (OG _ _)
 ·have h1:¬97<=b:=oM
  obtain⟨h3,h4⟩:=h;go_enter Rf,RO;go_wp2;go_ret;exact am.of trivial (OG _ _)
 ·have h1:¬97<=b:=oM
  have h2:65<=b:=oM
  have h3:¬b<=90:=oM
  have h4:48<=b:=oM
  have h5:¬b<=57:=oM
  have h6:¬128<=b:=oM
  clear h;go_enter Rf,RO;go_wp2;go_ret;exact am.of trivial (OG _ _)
 ·obtain⟨h3,h4⟩:=h;go_enter Rf,RO;go_wp2;go_ret;exact am.of trivial (OG _ _)
 ·have h1:97<=b:=oM
  have h2:¬b<=122:=oM
  have h3:65<=b:=oM
  have h4:¬b<=90:=oM
  have h5:48<=b:=oM
  have h6:¬b<=57:=oM
  have h7:¬128<=b:=oM
  clear h;go_enter Rf,RO;go_wp2;go_ret;exact am.of trivial (OG _ _)
 ·have h1:97<=b:=oM
  have h2:¬b<=122:=oM
  have h3:65<=b:=oM
  have h4:¬b<=90:=oM
  have h5:48<=b:=oM
  have h6:¬b<=57:=oM
  go_enter Rf,RO;go_wp2;go_ret;exact am.of trivial (OG _ _)
theorem re(b:Int)(w:World):Calls prog 323 #[.int .u8 b] w (am (fun _=>True) w):=by
 cases h1:(b==9)<;>cases h2:(b==10)<;>cases h3:(b==13)
 all_goals
  go_enter func323,ntmps323;go_wp2;go_ret;exact am.of trivial (OG _ _)
def IV(s:ByteArray)(m:Int)(r:Bool):Prop:=r=true->m<s.size
theorem DZ(s t:ByteArray)(m:Int)(w:World)(hs:s.size<=1000000000)(ht:t.size<=1000):Calls prog 341 #[.string s,.string t,.int .i64 m] w (am (IV s m) w):=by
 by_cases h1:m<(s.size:Int)
 ·by_cases h2:t.size<=s.size
  ·have HM:=qD h1;have h2i:(t.size:Int)<=(s.size:Int):=oM
   go_enter func341,ntmps341;go_wp2;go_ret;exact am.of (fun _=>HM.out) (OG _ _)
  ·have h2i:¬(t.size:Int)<=(s.size:Int):=oM
   go_enter func341,ntmps341;go_wp2;go_ret;exact am.of (P:=IV s m) (fun h=>by first|cases h|simp at h) (OG _ _)
 ·go_enter func341,ntmps341;go_wp2;go_ret;exact am.of (P:=IV s m) (fun h=>by first|cases h|simp at h) (OG _ _)
theorem fI(h : i < s.size) : ∃ x : Int, ((s[i]'h).toNat : Int) = x := ⟨_, rfl⟩
theorem dL(s:ByteArray)(w:World)(hs:s.size<=1000000000):Calls prog 257 #[.string s] w (DY s.size w):=by
 go_enter func257,ntmps257;go_upto_region 3 with fail
 go_loopw [3,4,5] (fun v3 v4 _ wr=>∃(i:Nat) (t:ByteArray),i<=s.size/\v4=.int .i64 i/\v3=.string t/\t.size=i/\Bl w wr) (fun _ v4 _ _=>s.size-(intOf v4).toNat)
 ·exact⟨0,empty,ON _,rfl,rfl,rfl,OG _ _⟩
 case round=>
  obtain⟨i,t,hi,rfl,rfl,ht,hb⟩:=hrel;have HB:=qD hb;have HTS:=qD ht;clear hb ht;by_cases hlt:i<s.size
  ·obtain⟨x,hx⟩:=fI hlt;have i0:(0:Int)<=(i:Int):=oM
   have i1:(i:Int)<(s.size:Int):=oM
   have key:∀y:Int,∃z,z=strOfNums [y]/\z.size=1/\(convert 133 9 (.slice (some ⟨wr.heap.size,0,none⟩) 1 1)).run prog (wr.alloc (.cells #[.int .u8 y] 5))=.ok (.string z) (wr.alloc (.cells #[.int .u8 y] 5)):=fun y=>
    ⟨_,rfl,by rw[Qg];rfl,JQ y wr QX⟩
   have KEY:=qD key;clear key;rcases(show(65<=x/\x<=90)\/x<65\/(65<=x/\90<x) by omega) with h|h|h
   ·obtain⟨h1,h2⟩:=h;obtain⟨z,-,hz,hcv⟩:=KEY.out (x+32);have hcat:∀w2:World,(Op.stringOp .add t z).run prog w2=.ok (.string (t++z)) w2:=fun w2=>Pz _ _ _ (by have:=HTS.out;omega);have HZ:=qD hz;clear hz;go_wp2_with fail;go_roundw
    ·exact⟨i+1,t++z,by omega,by go_num,rfl,by rw[Pn,HZ.out,HTS.out],HB.out.alloc HB.out.size _⟩
    ·exact iO
   ·have h1:¬65<=x:=oM
    obtain⟨z,-,hz,hcv⟩:=KEY.out x;have hcat:∀w2:World,(Op.stringOp .add t z).run prog w2=.ok (.string (t++z)) w2:=fun w2=>Pz _ _ _ (by have:=HTS.out;omega);have HZ:=qD hz;clear hz;go_wp2_with fail;go_roundw
    ·exact⟨i+1,t++z,by omega,by go_num,rfl,by rw[Pn,HZ.out,HTS.out],HB.out.alloc HB.out.size _⟩
    ·exact iO
   ·obtain⟨h1,h3⟩:=h;have h2:¬x<=90:=oM
    obtain⟨z,-,hz,hcv⟩:=KEY.out x;have hcat:∀w2:World,(Op.stringOp .add t z).run prog w2=.ok (.string (t++z)) w2:=fun w2=>Pz _ _ _ (by have:=HTS.out;omega);have HZ:=qD hz;clear hz h3;go_wp2_with fail;go_roundw
    ·exact⟨i+1,t++z,by omega,by go_num,rfl,by rw[Pn,HZ.out,HTS.out],HB.out.alloc HB.out.size _⟩
    ·exact iO
  ·obtain rfl:i=s.size:=oM
   go_wp2;go_ret;exact⟨t,rfl,Nat.le_of_eq HTS.out,HB.out⟩
theorem dM{a:Nat}:(s.extract a b).size<=s.size:=by
 rw[Qp];omega
theorem Da(s:ByteArray)(w:World)(hs:s.size<=1000000000):Calls prog 321 #[.string s] w (DY s.size w):=by
 have HS:=qD hs;have E:Hid (∀(t:ByteArray) (m:Int) (w:World),t.size<=1000->Calls prog 341 #[.string s,.string t,.int .i64 m] w (am (IV s m) w)):=qD fun t m w ht=>DZ s t m w hs ht;have hsz:(s.size:Int)<=1000000000:=oM
 clear hs;have Z:=qD (OG w.heap.size w);go_enter func321,ntmps321;go_wp2_with fail;refine(E.out _ _ _ dE).mono ?_;rintro e w1 ⟨b1,rfl,hb1,hb⟩;replace Z:=qD (Z.out.Ml hb);clear hb;cases b1
 ·clear hb1;go_wp2_with fail;refine(E.out _ _ _ dE).mono ?_;rintro e w2 ⟨b1,rfl,hb1,hb⟩;replace Z:=qD (Z.out.Ml hb);clear hb;cases b1
  ·clear hb1;go_wp2_with fail;refine(E.out _ _ _ dE).mono ?_;rintro e w3 ⟨b1,rfl,hb1,hb⟩;replace Z:=qD (Z.out.Ml hb);clear hb;cases b1
   ·clear hb1;go_wp2_with fail;refine(E.out _ _ _ dE).mono ?_;rintro e w4 ⟨b1,rfl,hb1,hb⟩;replace Z:=qD (Z.out.Ml hb);clear hb;cases b1
    ·clear hb1;go_wp2_with fail;refine(E.out _ _ _ dE).mono ?_;rintro e w5 ⟨b1,rfl,hb1,hb⟩;replace Z:=qD (Z.out.Ml hb);clear hb;cases b1
     ·clear hb1;go_wp2;go_ret;exact⟨s,rfl,qL,Z.out⟩
     ·have h1:(3:Int)<s.size:=hb1 rfl;clear hb1;go_wp2_with fail;refine(E.out _ _ _ dE).mono ?_;rintro e w6 ⟨b2,rfl,_,hb⟩;replace Z:=qD (Z.out.Ml hb);clear hb;have h2:1<=s.size:=oM
      have h3:(1:Int)<=(s.size:Int):=oM
      cases b2
      all_goals
       go_wp2;go_ret;exact⟨_,rfl,by first|exact qL|exact dM,Z.out⟩
    ·have h1:(4:Int)<s.size:=hb1 rfl;clear hb1;have h2:2<=s.size:=oM
     have h3:(2:Int)<=(s.size:Int):=oM
     go_wp2;go_ret;exact⟨_,rfl,dM,Z.out⟩
   ·have h1:(5:Int)<s.size:=hb1 rfl;clear hb1;have h2:3<=s.size:=oM
    have h3:(3:Int)<=(s.size:Int):=oM
    go_wp2;go_ret;exact⟨_,rfl,dM,Z.out⟩
  ·have h1:(4:Int)<s.size:=hb1 rfl;clear hb1;have h2:3<=s.size:=oM
   have h3:(3:Int)<=(s.size:Int):=oM
   go_wp2;go_ret;refine⟨_,rfl,?_,Z.out⟩;rw[Pn,Qp];show min (s.size-3) s.size-0+1<=s.size;omega
 ·have h1:(3:Int)<s.size:=hb1 rfl;clear hb1;have h2:2<=s.size:=oM
  have h3:(2:Int)<=(s.size:Int):=oM
  go_wp2;go_ret;exact⟨_,rfl,dM,Z.out⟩
end
end Go.Proofs.YtgfoliedmhgpnaaGreatDoor
