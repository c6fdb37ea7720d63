/- Parts of the proof, joined: ShKey1, RoSort, ChBaseB, RoTargets, ShEncodesWalk, BlCmp, ChLawA, RoCheck, RoRoute, RoCopy. -/
import Derived.Test.YthfahkaadbdicaaGreatDoorRt1
import Derived.Test.YthfahkaadbdicaaGreatDoorRt21
import Derived.Test.YthfahkaadbdicaaGreatDoorRt25
import Derived.Test.YthfahkaadbdicaaGreatDoorRt12
import Derived.Test.YthfahkaadbdicaaGreatDoorRt13
import Derived.Test.YthfahkaadbdicaaGreatDoorRt6
import Derived.Test.YthfahkaadbdicaaGreatDoorRt22
import Derived.Test.YthfahkaadbdicaaGreatDoorRt10
import Derived.Test.YthfahkaadbdicaaGreatDoorRt20
import Derived.Deep.RegionHeld3
import Derived.Laws.OwnMore
import Derived.Shelf.Spec.SlicesInsertGrow
set_option maxRecDepth 100000
set_option maxHeartbeats 16000000
set_option linter.unusedSimpArgs false
open Go.Proofs.Tryz
open ByteArray (empty)
namespace Go.Proofs.YthfahkaadbdicaaGreatDoor
open Go.RowKit
theorem vd{fn:Func}{p:Tmp}(h:fn.results=#[.cell p 24])(tmps:Array Value)(g1 off:Nat)(h1:tmps[p]?.getD undef=.pointer (some ⟨g1,off,none⟩))(W:World)(a b:Value)(q0:W.cell? ⟨g1,off,none⟩=some a)(q1:W.cell? ⟨g1,off+1,none⟩=some b):
 (results fn tmps).run prog W=.ok (.agg #[a,b]) W:=by
 simp[results,h,h1,asAddr,go_sem,q0,q1]
def IR(w:World)(e:Ending)(w':World):Prop:=
 ∃g1 g2:Nat,e=.returned (.agg #[.slice (some ⟨g2,0,none⟩) 1 1,.bool false])/\aE w' g1 9 #[.string ka]/\aE w' g2 66 #[.slice (some ⟨g1,0,none⟩) 1 1,.bool false]/\Below w.heap.size w w'
theorem tW(w:World):Calls prog 28 #[] w (IR w):=by
 go_enter func28,ntmps28;go_wp2_with fail
 exact Lp (vd rfl _ _ _ rfl _ (.slice (some ⟨w.heap.size+1+1,0,none⟩) 1 1) (.bool false) ((((aE.Jq rfl).alloc _).alloc _).cell 0) ((((aE.Jq rfl).alloc _).alloc _).cell 1)) rfl
  ⟨w.heap.size+1,w.heap.size+1+1,rfl,(aE.Jq (by simp)).alloc _,aE.Jq (by simp),(((LH _ _).alloc (qL) _).alloc (by simp) _).alloc (by simp;omega) _⟩
abbrev k5:ByteArray:=⟨#[3,128,0,0,0,0,0,0,5]⟩
theorem Dg:eD [jm 5]=(k5,0):=by rw[yW,AE]
theorem Ff(w:World):Calls prog 102 #[.string k5] w fun e w'=>e=.returned (.tuple #[.string (k5.extract 0 8++strOfNums [((5+1:Nat):Int)]),.bool true])/\Below w.heap.size w w':=
 pU k5 5 w rfl rfl (by omega)
theorem GR(w:World)(hT:cg w):Calls prog 9 #[] w fun e w'=>e=.returned (.bool true)/\Below w.heap.size w w':=by
 have HT:=qD hT;clear hT;have Z:=qD (LH w.heap.size w);go_enter func9,ntmps9;go_wp2_with fail;refine(jZ 5 _).mono ?_;rintro e w1 ⟨rfl,hb⟩;have Z1:=qD (Z.out.Jp hb);clear hb Z;go_upto_region 2 with fail
 change Code.wp _ _ _ _ ((w1.alloc (.cells #[.string ka,.int .i64 3,.int .i64 5,.string empty,.slice none 0 0,.slice none 0 0] 73)).alloc (.cells (cD w1.heap.size).arr 29));have F0:Hid (aE ((w1.alloc (.cells #[.string ka,.int .i64 3,.int .i64 5,.string empty,.slice none 0 0,.slice none 0 0] 73)).alloc (.cells (cD w1.heap.size).arr 29)) w1.heap.size 73 #[.string ka,.int .i64 3,.int .i64 5,.string empty,.slice none 0 0,.slice none 0 0]):=(aE.Jq rfl).alloc _;have D0:Hid (aE ((w1.alloc (.cells #[.string ka,.int .i64 3,.int .i64 5,.string empty,.slice none 0 0,.slice none 0 0] 73)).alloc (.cells (cD w1.heap.size).arr 29)) (w1.heap.size+1) 29 (cD w1.heap.size).arr):=aE.Jq (by simp);have Z2:Hid (Below w.heap.size w ((w1.alloc (.cells #[.string ka,.int .i64 3,.int .i64 5,.string empty,.slice none 0 0,.slice none 0 0] 73)).alloc (.cells (cD w1.heap.size).arr 29))):=(Z1.out.alloc Z1.out.size _).alloc (by have:=Z1.out.size;simp;omega) _;generalize ((w1.alloc (.cells #[.string ka,.int .i64 3,.int .i64 5,.string empty,.slice none 0 0,.slice none 0 0] 73)).alloc (.cells (cD w1.heap.size).arr 29))=wa at*;generalize w1.heap.size=gf at*;obtain⟨a0,a1,a2,a3,a4⟩:=bS.Jr D0.out;simp only[LL] at a0 a1 a2 a3 a4;have B:=qD ((LH wa.heap.size wa).drewN 1)
 have KSS:Hid (∀w',Below wa.heap.size wa w'->w'.cell? ⟨gf+1,0,none⟩=some (.int .i64 5)/\w'.cell? ⟨gf+1,1,none⟩=some (.int .i64 0)/\w'.cell? ⟨gf+1,2,none⟩=some (.string empty)/\w'.cell? ⟨gf+1,3,none⟩=some (.slice none 0 0)/\w'.cell? ⟨gf+1,4,none⟩=some (.slice (some ⟨gf,0,none⟩) 1 1)):=qD fun w' hb=>
  ⟨(hb.cell (p:=⟨gf+1,0,none⟩) D0.out.lt).trans a0,(hb.cell (p:=⟨gf+1,1,none⟩) D0.out.lt).trans a1,(hb.cell (p:=⟨gf+1,2,none⟩) D0.out.lt).trans a2,(hb.cell (p:=⟨gf+1,3,none⟩) D0.out.lt).trans a3,(hb.cell (p:=⟨gf+1,4,none⟩) D0.out.lt).trans a4⟩
 have RD:=qD (Fe F0.out)
 have HENC:Hid (∀(g2:Nat) (wq:World),cg wq->KS wq (some ⟨g2,0,none⟩) 1 1 Ba->RW wq (cD gf) (vD 5)->Calls prog 10 #[.agg #[.slice (some ⟨g2,0,none⟩) 1 1,.bool false],(cD gf).val] wq fun e w'=>e=.returned (.tuple #[.string k5,.int .i64 0])/\Below wq.heap.size wq w'):=qD fun g2 wq ht hk hr=>by
  have:=pm Ba false (some ⟨g2,0,none⟩) 1 1 (vD 5) (cD gf) wq ht hk hr (by decide);rw[AD,AE] at this;exact this
 clear a0 a1 a2 a3 a4
 go_cut [2,3] (fun v2 v3 wx=>v2=.string k5/\v3=.int .i64 0/\Below wa.heap.size wa wx)
 case first=>
  go_region_held3 (fun w'=>w'.cell? ⟨gf+1,0,none⟩=some (.int .i64 5)/\w'.cell? ⟨gf+1,1,none⟩=some (.int .i64 0)/\w'.cell? ⟨gf+1,2,none⟩=some (.string empty)/\w'.cell? ⟨gf+1,3,none⟩=some (.slice none 0 0)/\w'.cell? ⟨gf+1,4,none⟩=some (.slice (some ⟨gf,0,none⟩) 1 1))
   (first|exact KSS.out _ B.out|((try dsimp only);assumption)|go_keep)
   (first
     | (go_at_call 28;refine(tW _).mono ?_;rintro e3 w3 ⟨g1,g2,rfl,hk1,hk2,hb⟩;replace B:=qD (B.out.Jp hb);have K1:=qD hk1;have K2:=qD hk2;clear hb hk1 hk2)
     | (go_at_call 10;refine(HENC.out g2 _ (HT.out.step (Z2.out.Jp B.out)) (De K1.out K2.out) (RD.out.step B.out)).mono ?_;rintro e4 w4 ⟨rfl,hb⟩;replace B:=qD (B.out.Jp hb);clear hb))
  all_goals
   go_wp2_with fail;go_meet;exact⟨rfl,rfl,B.out⟩
 case rest=>
  obtain⟨rfl,rfl,hb9⟩:=hcut;have Z3:=qD (Z2.out.Jp hb9);clear hb9 KSS B HENC RD F0 D0 Z2 Z1;generalize wc=w5 at*;go_wp2_with fail;refine(tW _).mono ?_;rintro e w6 ⟨g1,g2,rfl,hk1,hk2,hb⟩;have K1:=qD hk1;have K2:=qD hk2;have Z4:=qD (Z3.out.Jp hb);clear hb hk1 hk2 Z3;go_wp2_with fail;refine(jZ 5 _).mono ?_;rintro e w7 ⟨rfl,hb⟩;have P0:Hid (aE w7 w6.heap.size 9 #[.string ka]):=(aE.Jq rfl:aE (w6.alloc (.cells #[.string ka] 9)) w6.heap.size 9 #[.string ka]).step hb;have Z5:=qD ((Z4.out.alloc Z4.out.size (Obj.cells #[.string ka] 9)).Jp hb);have K3:=qD ((K1.out.alloc (.cells #[.string ka] 9)).step hb);have K4:=qD ((K2.out.alloc (.cells #[.string ka] 9)).step hb);clear hb K1 K2 Z4;generalize w6.heap.size=gp at*
  have HRG:=qD (kP (eM (jm 5)) true k5 k5 (k5.extract 0 8++strOfNums [((5+1:Nat):Int)]) k5 (k5.extract 0 8++strOfNums [((5+1:Nat):Int)]) (fj 2 (some ⟨gp,0,none⟩) 1 1 (vc 5)) rfl ⟨some ⟨g1,0,none⟩,1,1,false⟩ g2 0 1 1 w7 (HT.out.step Z5.out) (by omega) (K4.out.cell 0) ⟨rfl,rfl⟩ Dg Dg (.inl ⟨by show(3:Int)≠1;decide,by show(3:Int)≠11;decide,rfl,rfl⟩) Ff
   (fun wr hb=>GQ (jm 5) (vc 5) (some ⟨gp,0,none⟩) (some ⟨g1,0,none⟩) 1 1 1 1 [ka] wr (HT.out.step (Z5.out.Jp hb)) (Df 5 wr) (oh 5) (by show(3:Int)≠6;decide) (by show(3:Int)≠2;decide) (ru (P0.out.step hb)) (ru (K3.out.step hb)) AF))
  go_wp2_with fail;refine HRG.out.mono ?_;rintro e w8 ⟨A8,c8,rfl,hsr,hb⟩;have Z6:=qD (Z5.out.Jp hb);have HSR:=qD hsr;clear hb hsr HRG Z5 K3 K4 P0;obtain⟨b,off,x,hA8,hbw,hx,e0,e1⟩:=HSR.out.Kn (i:=0) (by omega);obtain rfl:x=(k5,k5.extract 0 8++strOfNums [((5+1:Nat):Int)]):=by simpa using hx.symm
  subst hA8;rw[OJ,Ms] at e0;have E0:=qD e0;clear hx e0 e1;go_wp2_with fail;refine(tW _).mono ?_;rintro e w9 ⟨g3,g4,rfl,hk1,hk2,hb⟩;have E1:=qD ((hb.cell (p:=⟨b,off,none⟩) hbw).trans E0.out);have hbw9:b<w9.heap.size:=Mv hbw hb.size;have HKK:=qD (De hk1 hk2);have Z7:=qD (Z6.out.Jp hb);clear hb hk1 hk2 Z6 E0 hbw HSR;have HSV:=qD (mb Ba false (some ⟨g4,0,none⟩) 1 1 w9 HKK.out);rw[Db] at HSV;go_wp2_with fail;refine HSV.out.mono ?_;rintro e wA ⟨rfl,hb⟩;have E2:=qD ((hb.cell (p:=⟨b,off,none⟩) hbw9).trans E1.out);have hbwA:b<wA.heap.size:=Mv hbw9 hb.size;have Z8:=qD (Z7.out.Jp hb);clear hb HSV HKK Z7 E1 hbw9;have HSW:=qD (mb [] false none 0 0 wA KS.nil);rw[Dc] at HSW;go_wp2_with fail;refine HSW.out.mono ?_;rintro e wB ⟨rfl,hb⟩;have E3:=(hb.cell (p:=⟨b,off,none⟩) hbwA).trans E2.out;have Z9:=qD (Z8.out.Jp hb);clear hb HSW Z8 E2 hbwA;go_wp2_with fail;refine(BU _).mono ?_;rintro e wC ⟨rfl,hb⟩;have ZA:=qD (Z9.out.Jp hb);clear hb Z9 E3;go_wp2_with fail;obtain⟨h1,hh1⟩:∃h,h=bB fB:=⟨_,rfl⟩;obtain⟨h2,hh2⟩:∃h,h=bB (jm 5):=⟨_,rfl⟩;have hne:(h1 != h2)=true:=by rw[hh1,hh2];simpa using Bb
  have HH1:=qD (mu fB iP wC (HT.out.step ZA.out) tV);rw[<-hh1] at HH1;have HH2:=qD hh2;clear hh1 hh2;refine HH1.out.mono ?_;rintro e wD ⟨rfl,hb⟩;have ZB:=qD (ZA.out.Jp hb);clear hb ZA;go_wp2_with fail;refine(jZ 5 _).mono ?_;rintro e wE ⟨rfl,hb⟩;have ZC:=qD (ZB.out.Jp hb);clear hb ZB;have HH:=qD (mu (jm 5) (vc 5) wE (HT.out.step ZC.out) (Df 5 wE));rw[<-HH2.out] at HH;go_wp2_with fail;refine HH.out.mono ?_;rintro e wF ⟨rfl,hb⟩;have ZD:=qD (ZC.out.Jp hb);clear hb ZC HH HH1;go_wp2_with fail;go_ret;exact⟨rfl,ZD.out⟩
theorem Dh(w:World):Calls prog 171 #[.int .u64 1] w fun e w'=>(∃z:Int,e=.returned (.int .i64 z))/\Below w.heap.size w w':=by
 go_enter func171,ntmps171;go_wp2_with fail;go_ret;exact⟨⟨_,rfl⟩,LH _ _⟩
theorem Di(w:World):Calls prog 171 #[.int .u64 2] w fun e w'=>(∃z:Int,e=.returned (.int .i64 z))/\Below w.heap.size w w':=by
 go_enter func171,ntmps171;go_wp2_with fail;go_ret;exact⟨⟨_,rfl⟩,LH _ _⟩
theorem Gz(w:World):Calls prog 117 #[.int .u64 1] w fun e w'=>(∃z:Int,e=.returned (.int .i64 z))/\Below w.heap.size w w':=by
 go_enter func117,ntmps117;go_wp2_with fail;refine(Dh _).mono ?_;rintro e w1 ⟨⟨z,rfl⟩,hb⟩;have CE:=qD hb;clear hb;go_wp2_with fail;go_ret;exact⟨⟨_,rfl⟩,CE.out⟩
theorem Ha(w:World):Calls prog 117 #[.int .u64 2] w fun e w'=>(∃z:Int,e=.returned (.int .i64 z))/\Below w.heap.size w w':=by
 go_enter func117,ntmps117;go_wp2_with fail;refine(Di _).mono ?_;rintro e w1 ⟨⟨z,rfl⟩,hb⟩;have CE:=qD hb;clear hb;go_wp2_with fail;go_ret;exact⟨⟨_,rfl⟩,CE.out⟩
theorem Dj(A:Option Addr)(c:Nat)(z:Int)(w:World):
 Calls prog 116 #[.slice A 1 c,.int .i64 0,.int .i64 1,.int .i64 z] w fun e w'=>e=.returned (.tuple #[])/\Below w.heap.size w w':=by
 go_enter func116,ntmps116;go_wp2_with fail
 go_loopw [1,2] (fun v1 v2 wr=>v1=.int .i64 0/\v2=.int .i64 1/\wr=w) (fun _ _ _=>0)
 ·exact⟨rfl,rfl,rfl⟩
 case round=>
  obtain⟨rfl,rfl,rfl⟩:=hrel;go_wp2_with fail;refine(ua A c _).mono ?_;rintro e w1 ⟨rfl,hb⟩;have CE:=qD hb;clear hb;go_wp2_with fail;refine Lp (results_none rfl _ _ _) rfl ?_;exact⟨rfl,CE.out⟩
theorem Dk(x y:Int)(A:Option Addr)(c:Nat)(z:Int)(w:World)(h:SR 1 cW w A 2 c [x,y])(hxy:x<y):
 Calls prog 116 #[.slice A 2 c,.int .i64 0,.int .i64 2,.int .i64 z] w fun e w'=>e=.returned (.tuple #[])/\Below w.heap.size w w':=by
 have H:=qD (ub x y A c w h hxy);clear h hxy;go_enter func116,ntmps116;go_wp2_with fail
 go_loopw [1,2] (fun v1 v2 wr=>v1=.int .i64 0/\v2=.int .i64 2/\wr=w) (fun _ _ _=>0)
 ·exact⟨rfl,rfl,rfl⟩
 case round=>
  obtain⟨rfl,rfl,rfl⟩:=hrel;go_wp2_with fail;refine H.out.mono ?_;rintro e w1 ⟨rfl,hb⟩;have CE:=qD hb;clear hb;go_wp2_with fail;refine Lp (results_none rfl _ _ _) rfl ?_;exact⟨rfl,CE.out⟩
theorem yX(A:Option Addr)(c:Nat)(w:World):
 Calls prog 51 #[.slice A 1 c] w fun e w'=>e=.returned (.tuple #[])/\Below w.heap.size w w':=by
 go_enter func51,ntmps51;go_wp2_with fail;refine(Gz _).mono ?_;rintro e w1 ⟨⟨z,rfl⟩,hb⟩;have CE:=qD hb;clear hb;go_wp2_with fail;refine(Dj A c z _).mono ?_;rintro e w2 ⟨rfl,hb⟩;have CE2:=qD (CE.out.Jp hb);clear hb;go_wp2_with fail
 go_end0
 exact⟨rfl,CE2.out⟩
theorem yY(x y:Int)(A:Option Addr)(c:Nat)(w:World)(h:SR 1 cW w A 2 c [x,y])(hxy:x<y):
 Calls prog 51 #[.slice A 2 c] w fun e w'=>e=.returned (.tuple #[])/\Below w.heap.size w w':=by
 have H:=qD h;have HX:=qD hxy;clear h hxy;go_enter func51,ntmps51;go_wp2_with fail;refine(Ha _).mono ?_;rintro e w1 ⟨⟨z,rfl⟩,hb⟩;have CE:=qD hb;have H1:=qD (H.out.step hb);clear hb;go_wp2_with fail;refine(Dk x y A c z _ H1.out HX.out).mono ?_;rintro e w2 ⟨rfl,hb⟩;have CE2:=qD (CE.out.Jp hb);clear hb;go_wp2_with fail
 go_end0
 exact⟨rfl,CE2.out⟩
theorem qv(A:Option Addr)(c:Nat)(w:World):
 Calls prog 52 #[.slice A 1 c] w fun e w'=>e=.returned (.slice A 1 c)/\Below w.heap.size w w':=by
 go_enter func52,ntmps52;go_wp2_with fail;go_ret;exact⟨rfl,LH _ _⟩
theorem qw(x y:Int)(A:Option Addr)(c:Nat)(w:World)(h:SR 1 cW w A 2 c [x,y])(hxy:x<y):
 Calls prog 52 #[.slice A 2 c] w fun e w'=>e=.returned (.slice A 2 c)/\Below w.heap.size w w':=by
 obtain⟨b,off,z,rfl,hb,hz,e0⟩:=h.Ku (i:=0) (by omega);obtain rfl:x=z:=by simpa using hz
 obtain⟨b',off',z',he,hb',hz',e1⟩:=h.Ku (i:=1) (by omega);cases he;obtain rfl:y=z':=by simpa using hz'
 rw[Ms] at e0;have hne:(y==x)=false:=by simp;omega
 have g0:∀q:BW w,q.val.cell? ⟨b,off,none⟩=some (.int .i64 x):=fun q=>q.cell e0;have g1:∀q:BW w,q.val.cell? ⟨b,off+1,none⟩=some (.int .i64 y):=fun q=>q.cell e1;clear hz hz' h hxy e0 e1;go_enter func52,ntmps52;go_upto_region 4 with fail
 go_loopw [3] (fun v wr=>(v=.int .i64 1/\wr=w)\/(v=.int .i64 2/\Below w.heap.size w wr)) (fun v _=>2-(intOf v).toNat)
 ·exact .inl ⟨rfl,rfl⟩
 case round=>
  rcases hrel with⟨rfl,rfl⟩|⟨rfl,hbel⟩
  ·go_upto_region 6 with fail
   refine aL (by kernel_rfl) (by kernel_rfl) ?_
   repeat(go_big_quiet_step (fail))
   refine Ln ?_;rintro _ ⟨kw,rfl⟩;have CE:=qD kw.below;clear g0 g1;generalize kw.val=w3 at*;go_wp2_with fail;go_roundw
   ·exact .inr ⟨rfl,CE.out⟩
   ·simp[intOf]
  ·have HB:=qD hbel;clear hbel g0 g1;go_wp2_with fail;go_ret;exact⟨rfl,HB.out⟩
theorem yZ(f:FuncId)(m:Nat)(p:Ch->Bool)(l:List Ch)(A:Option Addr)(n c:Nat)(w:World)(h:CS w A n c l)(hent:∀args w,(callFunc f args).run prog w=.ok (.enter f args) w)(hs:∀(x:Ch) (wr:World),Below w.heap.size w wr->Calls prog f #[tF x,.pointer (some ⟨m,0,none⟩)] wr fun e w'=>e=.returned (.bool (p x))/\Below wr.heap.size wr w'):
 Calls prog 126 #[.slice A n c,.func (.func f) #[] #[.pointer (some ⟨m,0,none⟩)]] w fun e w'=>e=.returned (.int .i64 (eo p l))/\Below w.heap.size w w':=by
 have hz:n<=140737488355328:=by have:=h.sz;unfold aF at this;omega
 have H:=qD h;have HS:=qD hs;clear h hs;go_enter func126,ntmps126;go_wp2_with fail
 go_loopw [8] (fun v wr=>∃i:Nat,i<=n/\v=.int .i64 i/\eo p l=dU p (l.drop i) i/\Below w.heap.size w wr) (fun v _=>n-(intOf v).toNat)
 ·exact⟨0,LQ _,rfl,rfl,LH _ _⟩
 case round=>
  obtain⟨i,hi,rfl,ha,hbel⟩:=hrel;have HA:=qD ha;have HB:=qD hbel;clear ha;by_cases hlt:i<n
  ·obtain⟨b,off,x,hA,hb,hx,e0,e1,e2,e3,e4⟩:=H.out.sr.Kk hlt;subst hA;have HX:=qD (lZ (p:=p) hx);have g0:=(hbel.cell (p:=⟨b,off+i*5,none⟩) hb).trans e0;have g1:=(hbel.cell (p:=⟨b,off+i*5+1,none⟩) hb).trans e1;have g2:=(hbel.cell (p:=⟨b,off+i*5+2,none⟩) hb).trans e2;have g3:=(hbel.cell (p:=⟨b,off+i*5+3,none⟩) hb).trans e3;have g4:=(hbel.cell (p:=⟨b,off+i*5+4,none⟩) hb).trans e4;clear hx e0 e1 e2 e3 e4 hbel;go_wp2_with fail;refine(HS.out x _ HB.out).mono ?_;rintro e w1 ⟨rfl,hb1⟩;have HB1:=qD (HB.out.Jp hb1);clear hb1 g0 g1 g2 g3 g4;cases hq:p x
   ·have HF:Hid (eo p l=dU p (l.drop (i+1)) (i+1)):=by rw[Hid,HA.out,HX.out,hq];rfl
    go_wp2_with fail;go_roundw
    ·exact⟨i+1,by omega,by go_num,HF.out,HB1.out⟩
    ·simp[intOf];omega
   ·have HF:Hid (eo p l=(i:Int)):=by rw[Hid,HA.out,HX.out,hq];rfl
    go_wp2_with fail;go_ret;exact⟨by rw[HF.out];rfl,HB1.out⟩
  ·have HF:Hid (eo p l=-1):=by rw[Hid,HA.out];exact kG (by have:=H.out.ln;omega)
   clear hbel;go_wp2_with fail;go_ret;exact⟨by rw[HF.out];rfl,HB.out⟩
theorem Be(x:Ch)(m:Nat)(key:ByteArray)(w:World)(h:w.cell? ⟨m,0,none⟩=some (.string key)):
 Calls prog 127 #[tF x,.pointer (some ⟨m,0,none⟩)] w fun e w'=>e=.returned (.bool (uK key x))/\Below w.heap.size w w':=by
 have hm:=Lr w _ h;cases h1:Op.bytesLess key.toList x.lo.toList
 ·cases h2:(x.hi.toList==[])
  ·have HV:Hid (uK key x=Op.bytesLess key.toList x.hi.toList):=by unfold Hid uK;rw[h1,h2];rfl
   go_enter func127,ntmps127;go_wp2_with fail;go_ret;exact⟨by rw[HV.out];rfl,(LH _ _).alloc (qL) _⟩
  ·have HV:Hid (uK key x=true):=by unfold Hid uK;rw[h1,h2];rfl
   go_enter func127,ntmps127;go_wp2_with fail;go_ret;exact⟨by rw[HV.out];rfl,(LH _ _).alloc (qL) _⟩
 ·have HV:Hid (uK key x=false):=by unfold Hid uK;rw[h1];rfl
  go_enter func127,ntmps127;go_wp2_with fail;go_ret;exact⟨by rw[HV.out];rfl,(LH _ _).alloc (qL) _⟩
theorem ry(R:Ro)(a:RA)(key:ByteArray)(w:World)(h:RR w a R):
 Calls prog 55 #[ft a R,.string key] w fun e w'=>e=.returned (.int .i64 (eo (uK key) R.cs))/\Below w.heap.size w w':=by
 have HA2:=qD (((LH w.heap.size w).alloc (qL) (Obj.cells (bW a R) 53)).alloc (by simp) (Obj.cells #[.string key] 9));have HB:Hid (aE ((w.alloc (.cells (bW a R) 53)).alloc (.cells #[.string key] 9)) (w.heap.size+1) 9 #[.string key]):=aE.Jq (by simp);have H:=qD h;clear h;go_enter func55,ntmps55;go_wp2_with fail;refine(yZ _ _ (uK key) R.cs _ _ _ _ (H.out.cs.step HA2.out) (fun _ _=>rfl) fun x wr hb=>Be x _ key wr (((HB.out.step hb).cell 0))).mono ?_;rintro e w1 ⟨rfl,hb1⟩;go_wp2_with fail;go_ret;exact⟨rfl,HA2.out.Jp hb1⟩
theorem AG{w:World}{base:Nat}{e:TypeId}{size n:Nat}{v:Value}{xs:List Value}(h:w.ownsRow base e size v n xs){p:Addr}(hp:v.ownBlock≠some p.block)(u:Value):(w.setCell p u).ownsRow base e size v n xs:=
 mg h fun g hg=>MA w p u g (fun e=>hp (by rw[<-e];exact hg))
theorem AH{w:World}{base:Nat}{e:TypeId}{s n c g:Nat}{xs:List Value}(h:w.ownsRow base e s (.slice (some ⟨g,0,none⟩) n c) n xs):
 ∃R:List Value,aE w g e (xs++R).toArray/\(xs++R).length=c*s/\n<=c/\c<=maxLen/\base<=g:=by
 rcases h.2 with⟨h1,_⟩|⟨g',cap,cur,hv,hg,hh,hnc,hm,hsz,htk⟩
 ·cases h1
 ·injection hv with h1 h2 h3
  injection h1 with h1
  injection h1 with h1
  subst h1 h3;refine⟨cur.toList.drop (n*s),?_,?_,hnc,hm,hg⟩
  ·rw[<-htk,Lf];exact hh
  ·rw[<-htk,Lf];simpa using hsz
section
variable {B lo hi N:Nat} {w wr w1:World} {a:RA} {R:Ro} {cs:List Ch}
end
theorem dJ{w:World}{g:Nat}{t:TypeId}{a:RA}{R:Ro}(h:aE w g t (bW a R)):w.cell? ⟨g,0,none⟩=some (.string R.sp)/\w.cell? ⟨g,1,none⟩=some (.slice a.KA a.kn a.kc)/\w.cell? ⟨g,2,none⟩=some (.bool R.ha)/\w.cell? ⟨g,3,none⟩=some (.int .i64 R.ep)/\w.cell? ⟨g,4,none⟩=some (.int .i64 R.ver)/\w.cell? ⟨g,5,none⟩=some (.slice a.CA a.cn a.cc)/\∀i,w.frozen? ⟨g,i,none⟩=false:=by
 refine⟨?_,?_,?_,?_,?_,?_,h.frozen⟩<;>rw[h.cell]<;>rfl
def ls(p:BB)(l:List Ch):List Int:=(l.filter (bG · p)).map Ch.sh
theorem AI{p:BB}{l:List Ch}{i:Nat}{c:Ch}(h:l[i]?=some c):ls p (l.drop i)=(if bG c p then [c.sh] else [])++ls p (l.drop (i+1)):=by
 rw[bM h];unfold ls;rw[OB];split<;>rfl
def Hb(L:List Int):Prop:=(∃z,L=[z])\/∃x y,x<y/\L=[x,y]
theorem Bf{L:List Int}(hL:Hb L)(A:Option Addr)(c n:Nat)(w:World)(h:SR 1 cW w A n c L):
 Calls prog 51 #[.slice A n c] w fun e w'=>e=.returned (.tuple #[])/\Below w.heap.size w w':=by
 have hn:=h.ln;rcases hL with⟨z,rfl⟩|⟨x,y,hxy,rfl⟩
 ·obtain rfl:n=1:=hn;exact yX A c w
 ·obtain rfl:n=2:=hn;exact yY x y A c w h hxy
theorem tX{L:List Int}(hL:Hb L)(A:Option Addr)(c n:Nat)(w:World)(h:SR 1 cW w A n c L):
 Calls prog 52 #[.slice A n c] w fun e w'=>e=.returned (.slice A n c)/\Below w.heap.size w w':=by
 have hn:=h.ln;rcases hL with⟨z,rfl⟩|⟨x,y,hxy,rfl⟩
 ·obtain rfl:n=1:=hn;exact qv A c w
 ·obtain rfl:n=2:=hn;exact qw x y A c w h hxy
theorem oC(R:Ro)(a:RA)(P:Array Value)(hP:P.size=25)(p:BB)(w:World)(h:RR w a R)(hn:a.cn<=2)(hL:Hb (ls p R.cs))(hRG:∀wr,Below w.heap.size w wr->Calls prog 12 #[.agg #[.slice a.KA a.kn a.kc,.bool R.ha],.agg P] wr fun e w'=>∃A' c',e=.returned (.slice A' 1 c')/\SR 2 jE w' A' 1 c' [p]/\Below wr.heap.size wr w'):
 Calls prog 16 #[ft a R,.agg P] w fun e w'=>∃A' n c',e=.returned (.slice A' n c')/\SR 1 cW w' A' n c' (ls p R.cs)/\Below w.heap.size w w':=by
 obtain⟨j0,hj0,hy0,hy1,hy2⟩:=Mc pD;obtain⟨KA,kn,kc,CA,cn,cc⟩:=a;simp only at hn hRG;have hPi:(Tryz.prog.info? 38).map (·.size)=some P.size:=by rw[hP];kernel_rfl
 have HPI:=qD hPi;have HCN:=qD hn;have HL:=qD hL;have HRG:=qD hRG;have HSR:=qD h.cs.sr;have HLN:Hid (R.cs.length=cn):=h.cs.ln.symm;have B0:Hid (aE ((w.alloc (.cells (bW ⟨KA,kn,kc,CA,cn,cc⟩ R) 53)).alloc (.cells P 38)) w.heap.size 53 (bW ⟨KA,kn,kc,CA,cn,cc⟩ R)):=(aE.Jq rfl).alloc _;have B1:Hid (aE ((w.alloc (.cells (bW ⟨KA,kn,kc,CA,cn,cc⟩ R) 53)).alloc (.cells P 38)) (w.heap.size+1) 38 P):=aE.Jq (by simp);have BE:Hid (Below w.heap.size w ((w.alloc (.cells (bW ⟨KA,kn,kc,CA,cn,cc⟩ R) 53)).alloc (.cells P 38))):=((LH _ _).alloc (qL) _).alloc (by simp) _;clear h hn hL hRG hP hPi;go_enter func16,ntmps16;go_upto_region 1 with fail
 change Code.wp _ _ _ _ ((w.alloc (.cells (bW ⟨KA,kn,kc,CA,cn,cc⟩ R) 53)).alloc (.cells P 38));generalize ((w.alloc (.cells (bW ⟨KA,kn,kc,CA,cn,cc⟩ R) 53)).alloc (.cells P 38))=wa at*;obtain⟨q0,q1,q2,q3,q4,q5,qz⟩:=dJ B0.out;simp only at q1 q5;go_wp2_with (refine wpList_load_row rfl 38 _ rfl _ rfl _ _ _ _ B1.out rfl rfl HPI.out ?_);refine(HRG.out _ BE.out).mono ?_;rintro e w3 ⟨A3,c3,rfl,hsr,hb⟩;have H3:=qD hsr;have C0:=qD (B0.out.step hb);have CE:=qD (BE.out.Jp hb);have CSR:=qD (HSR.out.step (BE.out.Jp hb));clear hb hsr HRG B0 B1 BE HSR q0 q1 q2 q3 q4 q5 qz;obtain⟨q0,q1,q2,q3,q4,q5,qz⟩:=dJ C0.out;simp only at q1 q5;go_wp2_with fail
 go_loopw [5,16] (fun u5 u16 wr=>∃(i:Nat) (L':List Int),i<=cn/\L'.length<=i/\u16=.int .i64 i/\ls p R.cs=L'++ls p (R.cs.drop i)/\wr.ownsRow w3.heap.size 3 1 u5 L'.length (aJ cW L')/\Below w3.heap.size w3 wr) (fun _ u16 _=>cn-(intOf u16).toNat)
 ·exact⟨0,[],LQ _,qL,rfl,rfl,bC _ _ _ _,LH _ _⟩
 case round=>
  obtain⟨i,L',hi,hql,rfl,hall,hown,hbel⟩:=hrel;have HQL:=qD hql;have HA:=qD hall;have HO:=qD hown;have HB:=qD hbel;clear hql hall hown q0 q1 q2 q3 q4 q5 qz;by_cases hlt:i<cn
  ·obtain⟨b,off,c,hA,hbw,hc,e0,e1,e2,e3,e4⟩:=CSR.out.Kk hlt;subst hA;have HC:=qD hc;replace e0:=(hbel.cell (p:=⟨b,off+i*5,none⟩) hbw).trans e0;replace e1:=(hbel.cell (p:=⟨b,off+i*5+1,none⟩) hbw).trans e1;replace e2:=(hbel.cell (p:=⟨b,off+i*5+2,none⟩) hbw).trans e2;replace e3:=(hbel.cell (p:=⟨b,off+i*5+3,none⟩) hbw).trans e3;replace e4:=(hbel.cell (p:=⟨b,off+i*5+4,none⟩) hbw).trans e4;have i0':(0:Int)<=(i:Int):=by omega
   have i1':(i:Int)<(cn:Int):=by omega
   have hcn2:(cn:Int)<=2:=by have:=HCN.out;omega
   clear hc hbel hbw;go_upto_region 6 with fail
   change Code.wp _ _ _ _ (wr.alloc (.cells (ez c).toArray 92));have JB:Hid (aE (wr.alloc (.cells (ez c).toArray 92)) wr.heap.size 92 (ez c).toArray):=aE.Jq rfl;have IB:=qD (aV HO.out ((LH wr.heap.size wr).alloc (qL) (Obj.cells (ez c).toArray 92)));have IBE:=qD (HB.out.alloc HB.out.size (Obj.cells (ez c).toArray 92));generalize wr.alloc (.cells (ez c).toArray 92)=wb at*;generalize wr.heap.size=ga at*;clear e0 e1 e2 e3 e4 HO HB;have HK:=qD (pB c p ga A3 c3 wb JB.out (H3.out.step IBE.out));cases hm:bG c p
   ·have HF:Hid (ls p R.cs=L'++ls p (R.cs.drop (i+1))):=by
     unfold Hid;rw[HA.out,AI HC.out,hm];rfl
    rw[hm] at HK;clear hm;go_wp2_with fail;refine HK.out.mono ?_;rintro e w4 ⟨rfl,hb⟩;have IC:=qD (aV IB.out hb);have ICE:=qD (IBE.out.Jp hb);clear hb IB IBE JB HK;go_wp2_with fail;go_roundw
    ·exact⟨i+1,L',hlt,by have:=HQL.out;omega,by go_num,HF.out,IC.out,ICE.out⟩
    ·simp[intOf];omega
   ·have HF:Hid (ls p R.cs=(L'++[c.sh])++ls p (R.cs.drop (i+1))):=by
     unfold Hid;rw[HA.out,AI HC.out,hm];simp
    rw[hm] at HK;clear hm;go_wp2_with fail;refine HK.out.mono ?_;rintro e w4 ⟨rfl,hb⟩;have IC:=qD ((aV IB.out hb));have ICE:=qD (IBE.out.Jp hb);have JC:=qD (JB.out.step hb);clear hb IB IBE JB HK;have s2:=JC.out.cell 2;simp[ez] at s2;have hlo3:w3.heap.size<=w4.heap.size:=ICE.out.size;have hqi:L'.length<=2:=by have:=HQL.out;have:=HCN.out;omega
    have ID:=qD (aV IC.out ((LH w4.heap.size w4).alloc (qL) (Obj.cells (cW c.sh).toArray 3)));have IDE:=qD (ICE.out.alloc ICE.out.size (Obj.cells (cW c.sh).toArray 3));clear IC ICE;go_wp2_with (at_builtin;refine aD _ rfl _ _ 56 rfl w3.heap.size 3 j0 (.int .i64 0) 1 8 ON hj0 hy0 hy1 hy2 rfl (by decide) u5 L'.length (aJ cW L') rfl ID.out _ _ 1 _ (cW c.sh) rfl ⟨rfl,fun _=>⟨_,rfl,Lo _,ap _ _ _⟩⟩ (pC _) (by unfold maxLen;omega) (by omega) (af hlo3 _) ?_);intro v' w6 hown hgr hat
    have HI:Hid (w6.ownsRow w3.heap.size 3 1 v' (L'++[c.sh]).length (aJ cW (L'++[c.sh]))):=by
     unfold Hid;rw[bN,LM];exact hown
    have HIE:=qD (IDE.out.grown hgr (af hlo3 _) (bU ID.out));clear hown hgr hat s2 JC ID IDE;go_wp2_with fail;go_roundw
    ·exact⟨i+1,L'++[c.sh],hlt,by rw[LM];have:=HQL.out;simp;omega,by go_num,HF.out,HI.out,HIE.out⟩
    ·simp[intOf];omega
  ·obtain rfl:i=cn:=by omega
   have HF:ls p R.cs=L':=by
    rw[HA.out,La (by have:=HLN.out;omega)];simp[ls]
   obtain⟨A5,c5,hv5,hs5⟩:=SR.Jt eS HO.out rfl;subst hv5;rw[HF] at HL;have HFF:=qD HF;have HS5:=qD hs5;have HSO:=qD (Bf HL.out A5 c5 _ wr hs5);clear hs5 HF hbel HA HO;go_wp2_with fail;refine HSO.out.mono ?_;rintro e w7 ⟨rfl,hb⟩;have HS7:=qD (HS5.out.step hb);have HE7:=qD (HB.out.Jp hb);have HCO:=qD (tX HL.out A5 c5 _ w7 HS7.out);clear hb HS5 HSO;go_wp2_with fail;refine HCO.out.mono ?_;rintro e w8 ⟨rfl,hb⟩;have HS8:=qD (HS7.out.step hb);have HE8:=qD (CE.out.Jp (HE7.out.Jp hb));clear hb HS7 HCO;go_wp2_with fail;go_ret;exact⟨A5,_,c5,rfl,by rw[HFF.out];exact HS8.out,HE8.out⟩
theorem ya{ks:List Od}{ha:Bool}(h:gO ks ha=0):ks.length<=8/\1<=ks.length/\(ha=true->ks.length=1):=by
 unfold gO at h;split at h
 ·rename_i h1;exact absurd h h1
 ·rename_i h1
  split at h
  ·cases h
  ·rename_i h2
   have h3:fT ks=0:=by simpa using h1
   unfold fT at h3;split at h3
   ·cases h3
   ·rename_i h4
    have h5:¬ks.length=0:=fun e=>h2 (.inl e)
    exact⟨by omega,by omega,fun hh=>by
     have:¬1<ks.length:=fun e=>h2 (.inr ⟨hh,e⟩)
     omega⟩
theorem ol(a b:UInt8)(x y:List UInt8):Op.bytesLess (a::x) (b::y)=true↔a.toNat<b.toNat\/(a=b/\Op.bytesLess x y=true):=by
 simp[Op.bytesLess,MZ]
theorem Dl:∀l m:List UInt8,Op.bytesLess l m=true↔Lib.compareBytes l m<0
 | [],[]=>by decide
 | [],b::m=>by simp[Op.bytesLess,Lib.compareBytes]
 | a::l,[]=>by simp[Op.bytesLess,Lib.compareBytes]
 | a::l,b::m=>by
  have ih:=Dl l m;rw[ol,vR];by_cases h:(a.toNat:Int)=(b.toNat:Int)
  ·rw[LZ h,<-ih];have h2:a=b:=Mr.1 (by omega);constructor
   ·rintro(h3|h3)
    ·omega
    ·exact h3.2
   ·intro h3;exact .inr ⟨h2,h3⟩
  ·rw[LU h];simp only[cp,Lib.compareInt];constructor
   ·rintro(h3|h3)
    ·rw[LZ (by omega)];omega
    ·exact absurd (congrArg (fun x:UInt8=>(x.toNat:Int)) h3.1) h
   ·intro h3;by_cases h4:a.toNat<b.toNat
    ·exact .inl h4
    ·exfalso;rw[LU (by omega)] at h3;split at h3<;>omega
theorem Fg(a b:ByteArray):Op.bytesLess a.toList b.toList=decide (bm a b<0):=by
 have h:=Dl a.data.toList b.data.toList;rw[MD,MD];show _=decide (Lib.compareBytes a.data.toList b.data.toList<0);rw[Lg,h,NJ]
abbrev BK:=List UInt8
theorem yb(x:BK):Op.bytesLess x []=false:=by cases x<;>rfl
theorem ye:∀x:BK,Op.bytesLess x x=false
 | []=>rfl
 | a::r=>by simp[Op.bytesLess,ye r]
theorem GS:∀{x y z:BK},Op.bytesLess x y=true->Op.bytesLess y z=true->Op.bytesLess x z=true
 | _,_,[],_,h=>by rw[yb] at h;cases h
 | _,[],_::_,h,_=>by rw[yb] at h;cases h
 | [],_::_,_::_,_,_=>rfl
 | a::x,b::y,c::z,h,k=>by
  rw[ol] at h k ⊢;rcases h with h|⟨rfl,h⟩<;>rcases k with k|⟨rfl,k⟩
  ·exact .inl (by omega)
  ·exact .inl h
  ·exact .inl k
  ·exact .inr ⟨rfl,GS h k⟩
theorem Dm:∀(x y:BK),Op.bytesLess x y=true\/x=y\/Op.bytesLess y x=true
 | [],[]=>.inr (.inl rfl)
 | [],_::_=>.inl rfl
 | _::_,[]=>.inr (.inr rfl)
 | a::x,b::y=>by
  rw[ol,ol];rcases Nk a.toNat b.toNat with h|h|h
  ·exact .inl (.inl h)
  ·have hab:a=b:=Mr.1 h;subst hab;rcases Dm x y with h|rfl|h
   ·exact .inl (.inr ⟨rfl,h⟩)
   ·exact .inr (.inl rfl)
   ·exact .inr (.inr (.inr ⟨rfl,h⟩))
  ·exact .inr (.inr (.inl h))
theorem Fh{x y:BK}(h:Op.bytesLess x y=true):Op.bytesLess y x=false:=by
 cases h1:Op.bytesLess y x
 ·rfl
 ·have:=GS h h1;rw[ye] at this;cases this
def Hc(c:Ch):Option BK:=if c.hi.toList=[] then none else some c.hi.toList
def Jo(x:BK):Option BK->Prop
 | none=>True
 | some y=>Op.bytesLess x y=true
def Cn:Option BK->Option BK->List Ch->Prop
 | a,b,[]=>a=b
 | a,b,c::r=>a=some c.lo.toList/\Jo c.lo.toList (Hc c)/\Cn (Hc c) b r
theorem tY{c:Ch}(h:c.hi.toList=[]):Hc c=none:=by rw[Hc,LZ h]
theorem mi{c:Ch}(h:c.hi.toList≠[]):Hc c=some c.hi.toList:=by rw[Hc,LU h]
theorem Cn.Kh:∀{l:List Ch} {c:Ch},eR (c::l)=true->(((c::l).getLast?.map (·.hi.toList))==some [])=true->Cn (some c.lo.toList) none (c::l)
 | [],c,_,h=>by
  have h:c.hi.toList=[]:=by simpa using h
  exact⟨rfl,by rw[tY h];trivial,tY h⟩
 | d::r,c,h,h'=>by
  rw[eR] at h;simp only[ME,Pt,Bool.or_eq_false_iff,Ns,Ny] at h;obtain⟨⟨h1,h2,h3⟩,h4⟩:=h
  have hlt:Op.bytesLess c.lo.toList d.lo.toList=true:=by
   rcases Dm c.lo.toList d.lo.toList with h|h|h
   ·exact h
   ·exact absurd h.symm h3
   ·rw[h2] at h;cases h
  have hne:c.hi.toList≠[]:=by
   intro h;rw[<-h1] at h;rw[h,yb] at hlt;cases hlt
  have:=Cn.Kh h4 (by simpa using h');exact⟨rfl,by rw[mi hne,<-h1];exact hlt,by rw[mi hne,<-h1];exact this⟩
theorem Cn.Ki:∀{l:List Ch} {a:Option BK} {c:Ch},Cn a none (c::l)->eR (c::l)=true/\(((c::l).getLast?.map (·.hi.toList))==some [])=true
 | [],_,c,⟨_,_,h⟩=>by
  have h:Hc c=none:=h;refine⟨rfl,?_⟩;by_cases hc:c.hi.toList=[]
  ·simp[hc]
  ·rw[mi hc] at h;cases h
 | d::r,a,c,⟨_,h2,h3⟩=>by
  obtain⟨k1,k2⟩:=Cn.Ki h3;have h4:=h3.1;refine⟨?_,by simpa using k2⟩;by_cases hc:c.hi.toList=[]
  ·rw[tY hc] at h4;cases h4
  ·rw[mi hc] at h4 h2;injection h4 with h4
   rw[h4] at h2;have h2:Op.bytesLess c.lo.toList d.lo.toList=true:=h2;rw[eR,k1,Fh h2,h4]
   have hne:(d.lo.toList==c.lo.toList)=false:=by
    rw[Ny];intro h;rw[h,ye] at h2;cases h2
   simp[hne]
theorem sB(l:List Ch):(kF l=true/\eR l=true)↔Cn (some []) none l:=by
 cases l with
 | nil=>exact⟨fun h=>(by cases h.1),fun h=>(by cases h)⟩
 | cons c r=>
  constructor
  ·rintro⟨h1,h2⟩;rw[kF,ME] at h1;have:=Cn.Kh h2 h1.2;rw[Ns.1 h1.1] at this;exact this
  ·intro h;have h1:=Cn.Ki h;have h2:=h.1;injection h2 with h2
   refine⟨?_,h1.1⟩;rw[kF,<-h2,h1.2];rfl
structure VR(R:Ro):Prop where
 nm:aN R.sp=true
 ke:gO R.ks R.ha=0
 ln:R.cs.length<=64
 ep:1<=R.ep
 ver:1<=R.ver
 good:∀c∈R.cs,0<=c.sh/\c.sh<8/\1<=c.ver/\c.ver<=R.ver
 cn:Cn (some []) none R.cs
theorem vf(v:Int)(c:Ch):jF v c=false↔0<=c.sh/\c.sh<8/\1<=c.ver/\c.ver<=v:=by
 unfold jF;simp only[Bool.or_eq_false_iff,Oi];omega
theorem Bg(R:Ro):dD R=0↔VR R:=by
 unfold dD;constructor
 ·intro h;split at h
  ·cases h
  split at h
  ·rename_i h1 h2;exact absurd h h2
  split at h
  ·cases h
  split at h
  ·cases h
  split at h
  ·cases h
  split at h
  ·cases h
  split at h
  ·cases h
  rename_i h1 h2 h3 h4 h5 h6 h7
  refine⟨by simpa using h1,by simpa using h2,by omega,by omega,by omega,fun c hc=>?_,(sB _).1 ⟨by simpa using h6,by simpa using h7⟩⟩;rw[<-vf];have h5:R.cs.any (jF R.ver)=false:=by simpa using h5
  exact Pr.1 h5 c hc |> (by simpa using ·)
 ·rintro⟨h1,h2,h3,h4,h5,h6,h7⟩;obtain⟨k1,k2⟩:=(sB _).2 h7;have h8:R.cs.any (jF R.ver)=false:=Pr.2 fun c hc=>by simpa using (vf _ _).2 (h6 c hc)
  rw[LU (by rw[h1];simp),LU (by simpa using h2),LU (by omega),LU (by omega),LU (by rw[h8];simp),LU (by rw[k1];simp),LU (by rw[k2];simp)]
def dK(s:Int)(p:Int×Bool)(c:Ch):Int×Bool:=if c.sh=s/\(p.2=false\/p.1<c.ver) then(c.ver,true) else p
def tZ(s:Int)(l:List Ch):Int:=(l.foldl (dK s) (0,false)).1
theorem vg(R:Ro)(a:RA)(s:Int)(w:World)(h:RR w a R):
 Calls prog 113 #[ft a R,.int .i64 s] w fun e w'=>e=.returned (.int .i64 (tZ s R.cs))/\Below w.heap.size w w':=by
 obtain⟨KA,kn,kc,CA,cn,cc⟩:=a;have H:=qD h;have hn:Hid (cn=R.cs.length):=h.cs.ln;have hcz:cn*56<=aF:=h.cs.sz;have hkn:cn<=140737488355328:=by unfold aF at hcz;omega
 clear h hcz;have B0:Hid (aE (w.alloc (.cells (bW ⟨KA,kn,kc,CA,cn,cc⟩ R) 53)) w.heap.size 53 (bW ⟨KA,kn,kc,CA,cn,cc⟩ R)):=aE.Jq rfl;have BE:Hid (Below w.heap.size w (w.alloc (.cells (bW ⟨KA,kn,kc,CA,cn,cc⟩ R) 53))):=(LH _ _).alloc (qL) _;go_enter func113,ntmps113;go_upto_region 1 with fail
 change (Code.region 1 _ _).wp _ _ _ (w.alloc (.cells (bW ⟨KA,kn,kc,CA,cn,cc⟩ R) 53));generalize w.alloc (.cells (bW ⟨KA,kn,kc,CA,cn,cc⟩ R) 53)=wa at*;obtain⟨q0,q1,q2,q3,q4,q5,qz⟩:=dJ B0.out;simp only at q1 q5;clear q0 q1 q2 q3 q4;go_wp2_with fail;clear q5 qz
 go_loopw [12,5,6] (fun v12 v5 v6 wr=>∃(i:Nat) (best:Int) (found:Bool),i<=cn/\v12=.int .i64 i/\v5=.int .i64 best/\v6=.bool found/\R.cs.foldl (dK s) (0,false)=(R.cs.drop i).foldl (dK s) (best,found)/\Below w.heap.size w wr) (fun v _ _ _=>cn-(intOf v).toNat)
 ·exact⟨0,0,false,LQ _,rfl,rfl,rfl,rfl,BE.out⟩
 case round=>
  obtain⟨i,best,found,hi,rfl,rfl,rfl,ha,hbel⟩:=hrel;have HA:=qD ha;have HB:=qD hbel;clear ha;by_cases hlt:i<cn
  ·obtain⟨b,off,x,hA,hb,hx,e0,e1,e2,e3,e4⟩:=H.out.cs.sr.Kk hlt;simp only at hA;subst hA;have HX:Hid ((R.cs.drop i).foldl (dK s) (best,found)=(R.cs.drop (i+1)).foldl (dK s) (dK s (best,found) x)):=by rw[Hid,bM hx];rfl
   have g0:=(hbel.cell (p:=⟨b,off+i*5,none⟩) hb).trans e0;have g1:=(hbel.cell (p:=⟨b,off+i*5+1,none⟩) hb).trans e1;have g2:=(hbel.cell (p:=⟨b,off+i*5+2,none⟩) hb).trans e2;have g3:=(hbel.cell (p:=⟨b,off+i*5+3,none⟩) hb).trans e3;have g4:=(hbel.cell (p:=⟨b,off+i*5+4,none⟩) hb).trans e4;obtain⟨xlo,xhi,xsh,xver,xju⟩:=x;simp only at g0 g1 g2 g3 g4;have HBA:=qD (HB.out.alloc HB.out.size (Obj.cells #[.string xlo,.string xhi,.int .i64 xsh,.int .i64 xver,.bool xju] 92));clear hx e0 e1 e2 e3 e4 hbel;cases hsh:(xsh==s)
   ·have HN:Hid (R.cs.foldl (dK s) (0,false)=(R.cs.drop (i+1)).foldl (dK s) (best,found)):=by
     rw[Hid,HA.out,HX.out];unfold dK;rw[LU (fun h=>by rw[Ny] at hsh;exact hsh h.1)]
    go_wp2_with fail;go_roundw
    ·exact⟨i+1,best,found,by omega,by go_num,rfl,rfl,HN.out,HBA.out⟩
    ·simp[intOf];omega
   have hsx:Hid (xsh=s):=Ns.1 hsh;cases found
   ·have HN:Hid (R.cs.foldl (dK s) (0,false)=(R.cs.drop (i+1)).foldl (dK s) (xver,true)):=by
     rw[Hid,HA.out,HX.out];unfold dK;rw[LZ ⟨hsx.out,.inl rfl⟩]
    go_wp2_with fail;go_roundw
    ·exact⟨i+1,xver,true,by omega,by go_num,rfl,rfl,HN.out,HBA.out⟩
    ·simp[intOf];omega
   by_cases hv:best<xver
   ·have HN:Hid (R.cs.foldl (dK s) (0,false)=(R.cs.drop (i+1)).foldl (dK s) (xver,true)):=by
     rw[Hid,HA.out,HX.out];unfold dK;rw[LZ ⟨hsx.out,.inr hv⟩]
    go_wp2_with fail;go_roundw
    ·exact⟨i+1,xver,true,by omega,by go_num,rfl,rfl,HN.out,HBA.out⟩
    ·simp[intOf];omega
   ·have HN:Hid (R.cs.foldl (dK s) (0,false)=(R.cs.drop (i+1)).foldl (dK s) (best,true)):=by
     rw[Hid,HA.out,HX.out];unfold dK;rw[LU (fun h=>by rcases h.2 with h|h;cases h;exact hv h)]
    go_wp2_with fail;go_roundw
    ·exact⟨i+1,best,true,by omega,by go_num,rfl,rfl,HN.out,HBA.out⟩
    ·simp[intOf];omega
  ·have HN:Hid (tZ s R.cs=best):=by rw[Hid,tZ,HA.out,La (by rw[<-hn.out];omega)];rfl
   clear hbel;go_wp2_with fail;go_ret;exact⟨by rw[HN.out];rfl,HB.out⟩
def Bh(R:Ro)(v:Int)(ep ver:Int):Int:=if ep=R.ep/\ver=v then 0 else 27
theorem sC(R:Ro)(a:RA)(s ep ver:Int)(w:World)(h:RR w a R):
 Calls prog 46 #[ft a R,.int .i64 s,.int .i64 ep,.int .i64 ver] w fun e w'=>e=.returned (.int .i64 (Bh R (tZ s R.cs) ep ver))/\Below w.heap.size w w':=by
 have HV:=qD fun(wr:World) (hb:Below w.heap.size w wr)=>vg R a s wr (h.step hb);obtain⟨KA,kn,kc,CA,cn,cc⟩:=a;clear h;have B0:Hid (aE (w.alloc (.cells (bW ⟨KA,kn,kc,CA,cn,cc⟩ R) 53)) w.heap.size 53 (bW ⟨KA,kn,kc,CA,cn,cc⟩ R)):=aE.Jq rfl;have BE:Hid (Below w.heap.size w (w.alloc (.cells (bW ⟨KA,kn,kc,CA,cn,cc⟩ R) 53))):=(LH _ _).alloc (qL) _;obtain⟨V,hV⟩:∃V,V=tZ s R.cs:=⟨_,rfl⟩;rw[<-hV] at HV ⊢;clear hV;go_enter func46,ntmps46;go_upto_region 1 with fail
 change Code.wp _ _ _ _ (w.alloc (.cells (bW ⟨KA,kn,kc,CA,cn,cc⟩ R) 53));generalize w.alloc (.cells (bW ⟨KA,kn,kc,CA,cn,cc⟩ R) 53)=wa at*;obtain⟨q0,q1,q2,q3,q4,q5,qz⟩:=dJ B0.out;simp only at q1 q5;by_cases h1:ep=R.ep
 ·have h1b:(ep != R.ep)=false:=by simpa using h1
  by_cases h2:ver=V
  ·have HE:Hid (Bh R V ep ver=0):=LZ ⟨h1,h2⟩;have h2b:(ver != V)=false:=by simpa using h2
   clear h1 h2;go_wp2_with fail;refine(HV.out wa BE.out).mono ?_;rintro e w1 ⟨rfl,hb⟩;have CE:=qD (BE.out.Jp hb);clear hb BE B0 HV q0 q1 q2 q3 q4 q5 qz;go_wp2_with fail;go_ret;exact⟨by rw[HE.out];rfl,CE.out⟩
  ·have HE:Hid (Bh R V ep ver=27):=LU fun h=>h2 h.2;have h2b:(ver != V)=true:=by simpa using h2
   clear h1 h2;go_wp2_with fail;refine(HV.out wa BE.out).mono ?_;rintro e w1 ⟨rfl,hb⟩;have CE:=qD (BE.out.Jp hb);clear hb BE B0 HV q0 q1 q2 q3 q4 q5 qz;go_wp2_with fail;go_ret;exact⟨by rw[HE.out];rfl,CE.out⟩
 ·have HE:Hid (Bh R V ep ver=27):=LU fun h=>h1 h.1;have h1b:(ep != R.ep)=true:=by simpa using h1
  clear h1;go_wp2_with fail;go_ret;exact⟨by rw[HE.out];rfl,BE.out⟩
def yf(R:Ro)(key:ByteArray):Int:=if eo (uK key) R.cs<0 then -1 else match R.cs[(eo (uK key) R.cs).toNat]? with
 | none=>-1
 | some c=>c.sh
theorem vh(R:Ro)(key:ByteArray):(eo (uK key) R.cs=-1/\yf R key=-1)\/∃(i:Nat) (c:Ch),eo (uK key) R.cs=(i:Nat)/\R.cs[i]?=some c/\uK key c=true/\yf R key=c.sh:=by
 rcases oz (uK key) R.cs with⟨h1,_⟩|⟨i,c,h1,h2,h3,_⟩
 ·exact .inl ⟨h1,by unfold yf;rw[h1];rfl⟩
 ·refine .inr ⟨i,c,h1,h2,h3,?_⟩;unfold yf;rw[h1,LU (by omega),Int.toNat_natCast,h2]
def kR(R:Ro)(s:Int)(key:ByteArray):Bool:=decide (0<=eo (uK key) R.cs)&&(yf R key==s)
theorem po(R:Ro)(a:RA)(s:Int)(key:ByteArray)(w:World)(h:RR w a R):
 Calls prog 45 #[ft a R,.int .i64 s,.string key] w fun e w'=>e=.returned (.bool (kR R s key))/\Below w.heap.size w w':=by
 have HV:=qD fun(wr:World) (hb:Below w.heap.size w wr)=>ry R a key wr (h.step hb);obtain⟨KA,kn,kc,CA,cn,cc⟩:=a;have H:=qD h;have hn:Hid (cn=R.cs.length):=h.cs.ln;have hcz:cn*56<=aF:=h.cs.sz;have hkn:cn<=140737488355328:=by unfold aF at hcz;omega
 clear h hcz;have B0:Hid (aE (w.alloc (.cells (bW ⟨KA,kn,kc,CA,cn,cc⟩ R) 53)) w.heap.size 53 (bW ⟨KA,kn,kc,CA,cn,cc⟩ R)):=aE.Jq rfl;have BE:Hid (Below w.heap.size w (w.alloc (.cells (bW ⟨KA,kn,kc,CA,cn,cc⟩ R) 53))):=(LH _ _).alloc (qL) _;go_enter func45,ntmps45;go_upto_region 1 with fail
 change Code.wp _ _ _ _ (w.alloc (.cells (bW ⟨KA,kn,kc,CA,cn,cc⟩ R) 53));generalize w.alloc (.cells (bW ⟨KA,kn,kc,CA,cn,cc⟩ R) 53)=wa at*;obtain⟨q0,q1,q2,q3,q4,q5,qz⟩:=dJ B0.out;simp only at q1 q5;rcases vh R key with⟨h1,h2⟩|⟨i,c,h1,hi,_,h2⟩
 ·have HF:Hid (kR R s key=false):=by unfold Hid kR;rw[h1];rfl
  rw[h1] at HV;clear h1 h2;go_wp2_with fail;refine(HV.out wa BE.out).mono ?_;rintro e w1 ⟨rfl,hb⟩;have CE:=qD (BE.out.Jp hb);clear hb BE B0 HV q0 q1 q2 q3 q4 q5 qz;go_wp2_with fail;go_ret;exact⟨by rw[HF.out];rfl,CE.out⟩
 ·have HF:Hid (kR R s key=(c.sh==s)):=by unfold Hid kR;rw[h1,h2,LN (by omega)];rfl
  rw[h1] at HV;clear h1 h2;have hlt:i<cn:=by have:=(LJ.1 hi).1;have:=hn.out;omega
  go_wp2_with fail;refine(HV.out wa BE.out).mono ?_;rintro e w1 ⟨rfl,hb⟩;have CE:=qD (BE.out.Jp hb);have C0:=qD (B0.out.step hb);clear hb BE B0 HV q0 q1 q2 q3 q4 q5 qz;obtain⟨q0,q1,q2,q3,q4,q5,qz⟩:=dJ C0.out;simp only at q1 q5;obtain⟨b,off,x,hA,hb,hx,e0,e1,e2,e3,e4⟩:=H.out.cs.sr.Kk hlt;simp only at hA;subst hA;obtain rfl:x=c:=Mk (hx.symm.trans hi);have g2:=(CE.out.cell (p:=⟨b,off+i*5+2,none⟩) hb).trans e2;have i0':(0:Int)<=(i:Int):=by omega
  have i1':(i:Int)<(cn:Int):=by omega
  clear hx hi e0 e1 e2 e3 e4 C0;go_wp2_with fail;go_ret;exact⟨by rw[HF.out];rfl,CE.out⟩
noncomputable def qx(R:Ro)(x:aC):Int×Int:=if(gP R.ks R.ha x).2=0 then(if eo (uK (gP R.ks R.ha x).1) R.cs<0 then 0 else yf R (gP R.ks R.ha x).1,0) else(0,(gP R.ks R.ha x).2)
theorem Bi(R:Ro)(a:RA)(x:aC)(c:VC)(w:World)(hT:cg w)(h:RR w a R)(hx:RW w c x)(h8:R.ks.length<=8):
 Calls prog 18 #[ft a R,c.val] w fun e w'=>e=.returned (.tuple #[.int .i64 (qx R x).1,.int .i64 (qx R x).2])/\Below w.heap.size w w':=by
 have HV:=qD fun(key:ByteArray) (wr:World) (hb:Below w.heap.size w wr)=>ry R a key wr (h.step hb);obtain⟨KA,kn,kc,CA,cn,cc⟩:=a;have H:=qD h;have hn:Hid (cn=R.cs.length):=h.cs.ln;have hcz:cn*56<=aF:=h.cs.sz;have hkn:cn<=140737488355328:=by unfold aF at hcz;omega
 have HE:=qD fun(wr:World) (hb:Below w.heap.size w wr)=>pm R.ks R.ha KA kn kc x c wr (hT.step hb) (h.ks.step hb) (hx.step hb) h8;clear h hcz hx hT;obtain⟨⟨K1,K2⟩,hK⟩:∃K,gP R.ks R.ha x=K:=⟨_,rfl⟩;rw[hK] at HE;have HK:=qD hK;clear hK;have B0:Hid (aE ((w.alloc (.cells (bW ⟨KA,kn,kc,CA,cn,cc⟩ R) 53)).alloc (.cells c.arr 29)) w.heap.size 53 (bW ⟨KA,kn,kc,CA,cn,cc⟩ R)):=(aE.Jq rfl).alloc _;have B1:Hid (aE ((w.alloc (.cells (bW ⟨KA,kn,kc,CA,cn,cc⟩ R) 53)).alloc (.cells c.arr 29)) (w.heap.size+1) 29 c.arr):=aE.Jq (by simp);have BE:Hid (Below w.heap.size w ((w.alloc (.cells (bW ⟨KA,kn,kc,CA,cn,cc⟩ R) 53)).alloc (.cells c.arr 29))):=((LH _ _).alloc (qL) _).alloc (by simp) _;go_enter func18,ntmps18;go_upto_region 1 with fail
 change Code.wp _ _ _ _ ((w.alloc (.cells (bW ⟨KA,kn,kc,CA,cn,cc⟩ R) 53)).alloc (.cells c.arr 29));generalize ((w.alloc (.cells (bW ⟨KA,kn,kc,CA,cn,cc⟩ R) 53)).alloc (.cells c.arr 29))=wa at*;obtain⟨q0,q1,q2,q3,q4,q5,qz⟩:=dJ B0.out;simp only at q1 q5;obtain⟨a0,a1,a2,a3,a4⟩:=bS.Jr B1.out;simp only[LL] at a0 a1 a2 a3 a4;go_wp2_with fail;refine(HE.out wa BE.out).mono ?_;rintro e w1 ⟨rfl,hb⟩;have CE:=qD (BE.out.Jp hb);have C0:=qD (B0.out.step hb);clear hb BE B0 B1 HE q0 q1 q2 q3 q4 q5 qz a0 a1 a2 a3 a4;by_cases hk:K2=0;rotate_left
 ·have hkb:(K2 != 0)=true:=by simpa using hk
  have HF:Hid (qx R x=(0,K2)):=by unfold Hid qx;rw[HK.out];exact LU hk
  clear hk;go_wp2_with fail;go_ret2;exact⟨by rw[HF.out];rfl,CE.out⟩
 subst hk;obtain⟨q0,q1,q2,q3,q4,q5,qz⟩:=dJ C0.out;simp only at q1 q5;have HV1:=qD (HV.out K1 w1 CE.out);rcases vh R K1 with⟨h1,h2⟩|⟨i,ch,h1,hi,_,h2⟩
 ·have HF:Hid (qx R x=(0,0)):=by unfold Hid qx;rw[HK.out];simp only[Ou];rw[h1];rfl
  rw[h1] at HV1;clear h1 h2;go_wp2_with fail;refine HV1.out.mono ?_;rintro e w2 ⟨rfl,hb⟩;have DE:=qD (CE.out.Jp hb);clear hb HV1 CE C0 q0 q1 q2 q3 q4 q5 qz;go_wp2_with fail;go_ret2;exact⟨by rw[HF.out];rfl,DE.out⟩
 ·have HF:Hid (qx R x=(ch.sh,0)):=by unfold Hid qx;rw[HK.out];simp only[Ou];rw[h1,LU (by omega),h2]
  rw[h1] at HV1;clear h1 h2;have hlt:i<cn:=by have:=(LJ.1 hi).1;have:=hn.out;omega
  go_wp2_with fail;refine HV1.out.mono ?_;rintro e w2 ⟨rfl,hb⟩;have DE:=qD (CE.out.Jp hb);have D0:=qD (C0.out.step hb);clear hb HV1 CE C0 q0 q1 q2 q3 q4 q5 qz;obtain⟨q0,q1,q2,q3,q4,q5,qz⟩:=dJ D0.out;simp only at q1 q5;obtain⟨b,off,y,hA,hb,hx,e0,e1,e2,e3,e4⟩:=H.out.cs.sr.Kk hlt;simp only at hA;subst hA;obtain rfl:y=ch:=Mk (hx.symm.trans hi);have g2:=(DE.out.cell (p:=⟨b,off+i*5+2,none⟩) hb).trans e2;have i0':(0:Int)<=(i:Int):=by omega
  have i1':(i:Int)<(cn:Int):=by omega
  clear hx hi e0 e1 e2 e3 e4 D0;go_wp2_with fail;go_ret2;exact⟨by rw[HF.out];rfl,DE.out⟩
theorem yg(xs:List PV)(A:Option Addr)(n c:Nat)(w:World)(h:SR 5 bv w A n c xs)(hn:n*80<=aF):
 Calls prog 160 #[.slice A n c] w fun e w'=>∃v,e=.returned v/\w'.ownsRow w.heap.size 29 5 v n (aJ bv xs)/\Below w.heap.size w w':=by
 obtain⟨j0,hj0,hy0,hy1,hy2⟩:=Mc fx;have HL:=qD h.ln;unfold aF at hn;cases A with
 | none=>
  have h0:n=0:=by
   rcases MH n with h0|h0
   ·exact h0
   ·obtain⟨b,off,e,_⟩:=h.el h0;cases e
  subst h0;have HX:Hid (xs=[]):=LO HL.out.symm;clear h;have kn:=fun(w:World)=>Na (P:=prog) w 26 29 none 0 c 0 0 Mh;go_enter func160,ntmps160;go_wp2_with fail;go_ret;exact⟨_,rfl,by rw[HX.out];exact bC _ _ _ _,LH _ _⟩
 | some ad=>
  have HR:=qD (h.reads dw (by omega))
  have hO:(w.alloc (.cells #[] 29)).ownsRow w.heap.size 29 5 (.slice (some ⟨w.heap.size,0,none⟩) 0 0) 0 []:=
   ⟨rfl,.inr ⟨w.heap.size,0,#[],rfl,qL,aE.Jq rfl,qL,LQ _,rfl,rfl⟩⟩
  have HO:=qD hO;have H1:=qD (uV iK xs);clear h hO;have kn:=fun(w:World)=>Na (P:=prog) w 26 29 (some ad) n c 0 0 Mh;go_enter func160,ntmps160;go_wp2_with (at_builtin;refine aD _ rfl _ _ 26 rfl w.heap.size 29 j0 VC.zero.val 5 80 Mh hj0 hy0 hy1 hy2 rfl (by decide) (.slice (some ⟨w.heap.size,0,none⟩) 0 0) 0 [] rfl HO.out w.heap.size (some ad) n c (aJ bv xs) rfl (HR.out.alloc (qL) _) H1.out (by unfold maxLen;omega) (by omega) (by simp) ?_);intro v' w2 hown hg _;go_wp2_with fail;go_ret;refine⟨v',rfl,by simpa using hown,?_⟩;exact((LH w.heap.size w).alloc (qL) _).grown hg (by simp) (fun k hk=>by simp[Value.ownBlock] at hk;omega)
theorem yh(xs:List PF)(A:Option Addr)(n c:Nat)(w:World)(h:SR 6 dz w A n c xs)(hn:n*96<=aF):
 Calls prog 161 #[.slice A n c] w fun e w'=>∃v,e=.returned v/\w'.ownsRow w.heap.size 73 6 v n (aJ dz xs)/\Below w.heap.size w w':=by
 obtain⟨j0,hj0,hy0,hy1,hy2⟩:=Mc ll;have HL:=qD h.ln;unfold aF at hn;cases A with
 | none=>
  have h0:n=0:=by
   rcases MH n with h0|h0
   ·exact h0
   ·obtain⟨b,off,e,_⟩:=h.el h0;cases e
  subst h0;have HX:Hid (xs=[]):=LO HL.out.symm;clear h;have kn:=fun(w:World)=>Na (P:=prog) w 27 73 none 0 c 0 0 NM;go_enter func161,ntmps161;go_wp2_with fail;go_ret;exact⟨_,rfl,by rw[HX.out];exact bC _ _ _ _,LH _ _⟩
 | some ad=>
  have HR:=qD (h.reads eX (by omega))
  have hO:(w.alloc (.cells #[] 73)).ownsRow w.heap.size 73 6 (.slice (some ⟨w.heap.size,0,none⟩) 0 0) 0 []:=
   ⟨rfl,.inr ⟨w.heap.size,0,#[],rfl,qL,aE.Jq rfl,qL,LQ _,rfl,rfl⟩⟩
  have HO:=qD hO;have H1:=qD (uV vK xs);clear h hO;have kn:=fun(w:World)=>Na (P:=prog) w 27 73 (some ad) n c 0 0 NM;go_enter func161,ntmps161;go_wp2_with (at_builtin;refine aD _ rfl _ _ 27 rfl w.heap.size 73 j0 (.agg (#[.string empty]++VC.zero.arr)) 6 96 NM hj0 hy0 hy1 hy2 rfl (by decide) (.slice (some ⟨w.heap.size,0,none⟩) 0 0) 0 [] rfl HO.out w.heap.size (some ad) n c (aJ dz xs) rfl (HR.out.alloc (qL) _) H1.out (by unfold maxLen;omega) (by omega) (by simp) ?_);intro v' w2 hown hg _;go_wp2_with fail;go_ret;refine⟨v',rfl,by simpa using hown,?_⟩;exact((LH w.heap.size w).alloc (qL) _).grown hg (by simp) (fun k hk=>by simp[Value.ownBlock] at hk;omega)
structure yi(w:World)(g:Nat)(l:List aC)(i:Nat)(ps:List PV)(wr:World):Prop where
 row:∃R:List Value,aE wr g 29 (aJ bv ps++R).toArray
 len:ps.length=l.length
 el:∀(j:Nat) (p:PV),ps[j]?=some p->∃y,l[j]?=some y/\(j<i->RV (fun b=>w.heap.size<=b/\b≠g) wr p.1 y)/\(i<=j->RV (fun b=>b<w.heap.size) wr p.1 y)
theorem yi.lt{w:World}{g:Nat}{l:List aC}{i:Nat}{ps:List PV}{wr:World}(h:yi w g l i ps wr):g<wr.heap.size:=by
 obtain⟨R,hR⟩:=h.row;exact hR.lt
theorem yi.step{w:World}{g:Nat}{l:List aC}{i:Nat}{ps:List PV}{wr w':World}(h:yi w g l i ps wr)(hb:Below wr.heap.size wr w'):yi w g l i ps w':=by
 obtain⟨R,hR⟩:=h.row;refine⟨⟨R,hR.step hb⟩,h.len,fun j p hp=>?_⟩;obtain⟨y,hy,h1,h2⟩:=h.el j p hp;exact⟨y,hy,fun hj=>(h1 hj).step hb,fun hj=>(h2 hj).step hb⟩
theorem yi.cells{w:World}{g:Nat}{l:List aC}{i:Nat}{ps:List PV}{wr:World}(h:yi w g l i ps wr){j:Nat}{p:PV}(hp:ps[j]?=some p){k:Nat}{v:Value}(hk:(bv p)[k]?=some v):wr.cell? ⟨g,j*5+k,none⟩=some v:=by
 obtain⟨R,hR⟩:=h.row;rw[hR.cell];have h1:=bg dw hp hk;have h2:j*5+k<(aJ bv ps).length:=(LJ.1 h1).1;rw[Mx,MG h2];exact h1
theorem yi.frozen{w:World}{g:Nat}{l:List aC}{i:Nat}{ps:List PV}{wr:World}(h:yi w g l i ps wr)(k:Nat):wr.frozen? ⟨g,k,none⟩=false:=by
 obtain⟨R,hR⟩:=h.row;exact hR.frozen k
theorem yi.put{w:World}{g:Nat}{l:List aC}{i:Nat}{ps:List PV}{wr:World}{c':VC}{p:PV}{y:aC}(h:yi w g l i ps wr)(hp:ps[i]?=some p)(hy:l[i]?=some y)(hg:w.heap.size<=g)(hr:RV (fun b=>w.heap.size<=b/\b≠g) wr c' y):
 yi w g l (i+1) (ps.set i (c',y)) (cy wr g (i*5) c'):=by
 have hi:i<ps.length:=(LJ.1 hp).1;obtain⟨R,hR⟩:=h.row;refine⟨⟨R,?_⟩,by rw[NK];exact h.len,fun j q hq=>?_⟩
 ·have h1:aE (wr.setCells g (i*5) c'.list) g 29 (cF (aJ bv ps++R) (i*5) c'.list).toArray:=hR.setCells c'.list (i*5);have hf:(aJ bv ps).length=ps.length*5:=bP dw ps;have hm:(i+1)*5<=ps.length*5:=MU _ hi
  have e1:cF (aJ bv ps++R) (i*5) c'.list=aJ bv (ps.set i (c',y))++R:=by
   rw[gA _ _ _ (by rw[LM,hf];simp[VC.list];omega)]
   have e2:(aJ bv ps++R).take (i*5)=aJ bv (ps.take i):=by
    rw[OF (by rw[hf];omega)];exact jH dw ps i
   have e3:(aJ bv ps++R).drop (i*5+c'.list.length)=aJ bv (ps.drop (i+1))++R:=by
    rw[show i*5+c'.list.length=(i+1)*5 by simp[VC.list];omega,OG (by rw[hf];exact hm),gn dw]
   rw[e2,e3,Om,LZ hi,eQ];have e4:aJ bv ((c',y)::ps.drop (i+1))=bv (c',y)++aJ bv (ps.drop (i+1)):=rfl;rw[e4];simp[bv]
  rw[<-e1];exact h1
 ·have keep:∀{G:Nat->Prop} {e:VC} {z:aC},RV G wr e z->(∀b,G b->b≠g)->RV G (cy wr g (i*5) c') e z:=fun hz hG=>hz.keep fun b hb=>dS (hG b hb);by_cases hj:j=i
  ·subst hj;rw[PE hi] at hq;cases hq
   skip
   exact⟨y,hy,fun _=>keep hr fun b hb=>hb.2,fun h'=>by omega⟩
  ·rw[PW (fun e=>hj e.symm)] at hq;obtain⟨z,hz,h1,h2⟩:=h.el j q hq;exact⟨z,hz,fun h'=>keep (h1 (by omega)) fun b hb=>hb.2,fun h'=>keep (h2 (by omega)) fun b hb=>by omega⟩
structure yj(w:World)(g:Nat)(l:List bf)(i:Nat)(ps:List PF)(wr:World):Prop where
 row:∃R:List Value,aE wr g 73 (aJ dz ps++R).toArray
 len:ps.length=l.length
 el:∀(j:Nat) (p:PF),ps[j]?=some p->∃y,l[j]?=some y/\y.s=p.2.s/\p.2.s.size<=aF/\(j<i->RV (fun b=>w.heap.size<=b/\b≠g) wr p.1 y.v)/\(i<=j->RV (fun b=>b<w.heap.size) wr p.1 y.v)
theorem yj.lt{w:World}{g:Nat}{l:List bf}{i:Nat}{ps:List PF}{wr:World}(h:yj w g l i ps wr):g<wr.heap.size:=by
 obtain⟨R,hR⟩:=h.row;exact hR.lt
theorem yj.step{w:World}{g:Nat}{l:List bf}{i:Nat}{ps:List PF}{wr w':World}(h:yj w g l i ps wr)(hb:Below wr.heap.size wr w'):yj w g l i ps w':=by
 obtain⟨R,hR⟩:=h.row;refine⟨⟨R,hR.step hb⟩,h.len,fun j p hp=>?_⟩;obtain⟨y,hy,hs,hz,h1,h2⟩:=h.el j p hp;exact⟨y,hy,hs,hz,fun hj=>(h1 hj).step hb,fun hj=>(h2 hj).step hb⟩
theorem yj.cells{w:World}{g:Nat}{l:List bf}{i:Nat}{ps:List PF}{wr:World}(h:yj w g l i ps wr){j:Nat}{p:PF}(hp:ps[j]?=some p){k:Nat}{v:Value}(hk:(dz p)[k]?=some v):wr.cell? ⟨g,j*6+k,none⟩=some v:=by
 obtain⟨R,hR⟩:=h.row;rw[hR.cell];have h1:=bg eX hp hk;have h2:j*6+k<(aJ dz ps).length:=(LJ.1 h1).1;rw[Mx,MG h2];exact h1
theorem yj.frozen{w:World}{g:Nat}{l:List bf}{i:Nat}{ps:List PF}{wr:World}(h:yj w g l i ps wr)(k:Nat):wr.frozen? ⟨g,k,none⟩=false:=by
 obtain⟨R,hR⟩:=h.row;exact hR.frozen k
theorem yj.put{w:World}{g:Nat}{l:List bf}{i:Nat}{ps:List PF}{wr:World}{c':VC}{p:PF}{y:bf}(h:yj w g l i ps wr)(hp:ps[i]?=some p)(hy:l[i]?=some y)(hg:w.heap.size<=g)(hs:y.s=p.2.s)(hr:RV (fun b=>w.heap.size<=b/\b≠g) wr c' y.v):
 yj w g l (i+1) (ps.set i (c',p.2)) (cy wr g (i*6+1) c'):=by
 have hi:i<ps.length:=(LJ.1 hp).1;obtain⟨R,hR⟩:=h.row;refine⟨⟨R,?_⟩,by rw[NK];exact h.len,fun j q hq=>?_⟩
 ·have h1:aE (wr.setCells g (i*6+1) c'.list) g 73 (cF (aJ dz ps++R) (i*6+1) c'.list).toArray:=hR.setCells c'.list (i*6+1);have hf:(aJ dz ps).length=ps.length*6:=bP eX ps;have hm:(i+1)*6<=ps.length*6:=MU _ hi
  have e1:cF (aJ dz ps++R) (i*6+1) c'.list=aJ dz (ps.set i (c',p.2))++R:=by
   rw[gA _ _ _ (by rw[LM,hf];simp[VC.list];omega)]
   have e2:(aJ dz ps++R).take (i*6+1)=aJ dz (ps.take i)++[.string p.2.s]:=by
    rw[OF (by rw[hf];omega)];rw[show i*6+1=i*6+1 from rfl,List.take_add,jH eX,gn eX,bM hp];rfl
   have e3:(aJ dz ps++R).drop (i*6+1+c'.list.length)=aJ dz (ps.drop (i+1))++R:=by
    rw[show i*6+1+c'.list.length=(i+1)*6 by simp[VC.list];omega,OG (by rw[hf];exact hm),gn eX]
   rw[e2,e3,Om,LZ hi,eQ];have e4:aJ dz ((c',p.2)::ps.drop (i+1))=dz (c',p.2)++aJ dz (ps.drop (i+1)):=rfl;rw[e4];simp[dz]
  rw[<-e1];exact h1
 ·have keep:∀{G:Nat->Prop} {e:VC} {z:aC},RV G wr e z->(∀b,G b->b≠g)->RV G (cy wr g (i*6+1) c') e z:=fun hz hG=>hz.keep fun b hb=>dS (hG b hb);by_cases hj:j=i
  ·subst hj;rw[PE hi] at hq;cases hq;obtain⟨z,hz,hzs,hzz,_⟩:=h.el j p hp;exact⟨y,hy,hs,hzz,fun _=>keep hr fun b hb=>hb.2,fun h'=>by omega⟩
  ·rw[PW (fun e=>hj e.symm)] at hq;obtain⟨z,hz,hs1,hz1,h1,h2⟩:=h.el j q hq;exact⟨z,hz,hs1,hz1,fun h'=>keep (h1 (by omega)) fun b hb=>hb.2,fun h'=>keep (h2 (by omega)) fun b hb=>by omega⟩
theorem Bj{w5:World}{lo:Nat}{ck cn:Int}{ct:ByteArray}{A1 A2:Option Addr}{ln c1 dn c2:Nat}{k n:Int}{t:ByteArray}{l:List aC}{d:List bf}(hk:ck=k)(hn:cn=n)(ht:ct=t)(hz:t.size<=aF)(hl:RV (fun b=>lo<=b) w5 ⟨6,0,empty,A1,ln,c1,none,0,0⟩ (.mk 6 0 empty l []))(hd:RV (fun b=>lo<=b) w5 ⟨5,0,empty,none,0,0,A2,dn,c2⟩ (.mk 5 0 empty [] d)):
 RV (fun b=>lo<=b) w5 ⟨ck,cn,ct,A1,ln,c1,A2,dn,c2⟩ (.mk k n t l d):=by
 have fl:=hl.open;have fd:=hd.open;exact mK.shut ⟨hk,hn,ht,hz,fl.ln,fl.lc,fl.lsz,fl.la,fd.dn,fd.dc,fd.dsz,fd.da⟩
theorem Dn{w5:World}{a lo:Nat}{e:VC}(h:a+2<=lo):∀b,lo<=b->b<w5.heap.size->a<=b/\(cy w5 (a+1) 0 e).heap[b]?=w5.heap[b]?:=fun b hb _=>⟨by omega,dS (by omega)⟩
theorem vi(x:aC):∀(c:VC) (w:World),RW w c x->Calls prog 114 #[c.val] w (xj w x):=by
 induction x using aC.ind with
 | h k n t l d ihl ihd=>
 intro c w h;obtain⟨ps,hps,hsl⟩:=h.sl;obtain⟨fs,hfs,hsd⟩:=h.sd;obtain⟨ck,cn,ct,LA,ln,lc,DA,dn,dc⟩:=c;have HO:=qD h.open;have hlz:ln*80<=140737488355328:=h.open.lsz;have hdz:dn*96<=140737488355328:=h.open.dsz;have hln:ln<=140737488355328:=by omega
 have hdn:dn<=140737488355328:=by omega
 have HLL:Hid (ln=l.length):=h.open.ln;have HDD:Hid (dn=d.length):=h.open.dn;have HPS:Hid (ps.map Prod.snd=l):=hps;have HFS:Hid (fs.map Prod.snd=d):=hfs;have HSL:=qD hsl;have HSD:=qD hsd;have HIL:=qD ihl;have HID:=qD ihd;have B0:Hid (aE ((w.alloc (.cells (VC.arr ⟨ck,cn,ct,LA,ln,lc,DA,dn,dc⟩) 29)).alloc (.cells VC.zero.arr 29)) w.heap.size 29 (VC.arr ⟨ck,cn,ct,LA,ln,lc,DA,dn,dc⟩)):=(aE.Jq rfl).alloc _;have B1:Hid (aE ((w.alloc (.cells (VC.arr ⟨ck,cn,ct,LA,ln,lc,DA,dn,dc⟩) 29)).alloc (.cells VC.zero.arr 29)) (w.heap.size+1) 29 VC.zero.arr):=aE.Jq (by simp);have BE:Hid (Below w.heap.size w ((w.alloc (.cells (VC.arr ⟨ck,cn,ct,LA,ln,lc,DA,dn,dc⟩) 29)).alloc (.cells VC.zero.arr 29))):=((LH _ _).alloc (qL) _).alloc (by simp) _;have HWA:Hid (((w.alloc (.cells (VC.arr ⟨ck,cn,ct,LA,ln,lc,DA,dn,dc⟩) 29)).alloc (.cells VC.zero.arr 29)).heap.size=w.heap.size+2):=by simp[Hid]
 clear h hps hfs hsl hsd ihl ihd hlz hdz;go_enter func114,ntmps114;go_upto_region 1 with fail
 change Code.wp _ _ _ _ ((w.alloc (.cells (VC.arr ⟨ck,cn,ct,LA,ln,lc,DA,dn,dc⟩) 29)).alloc (.cells VC.zero.arr 29));generalize ((w.alloc (.cells (VC.arr ⟨ck,cn,ct,LA,ln,lc,DA,dn,dc⟩) 29)).alloc (.cells VC.zero.arr 29))=wa at*;have HCV:=qD (yg ps LA ln lc wa (HSL.out.sr.step BE.out) HSL.out.sz);have k3:=B0.out.cell 3;have kz:=B0.out.frozen;simp at k3;go_wp2_with fail;refine HCV.out.mono ?_;rintro e w1 ⟨v1,rfl,hown,hb⟩;obtain⟨A1,c1,rfl,hc1⟩:=aa hown;have C0:=qD (B0.out.step hb);have C1:=qD (B1.out.step hb);have CE:=qD (BE.out.Jp hb);have hown2:=AG hown (p:=⟨w.heap.size,3,none⟩) (fun e=>by have h1:wa.heap.size<=w.heap.size:=bU hown _ e;have h2:=HWA.out;omega) (.slice A1 ln c1);clear hb B0 B1 HCV k3 kz;have k3:=C0.out.cell 3;have kz:=C0.out.frozen;simp at k3;go_upto_region 2 with fail
 change Code.wp _ _ _ _ (w1.setCell ⟨w.heap.size,3,none⟩ (.slice A1 ln c1));have D0:Hid (aE (w1.setCell ⟨w.heap.size,3,none⟩ (.slice A1 ln c1)) w.heap.size 29 (VC.arr ⟨ck,cn,ct,A1,ln,c1,DA,dn,dc⟩)):=C0.out.Js 3 _;have D1:Hid (aE (w1.setCell ⟨w.heap.size,3,none⟩ (.slice A1 ln c1)) (w.heap.size+1) 29 VC.zero.arr):=C1.out.Jz (p:=⟨w.heap.size,3,none⟩) (by show w.heap.size+1≠w.heap.size;omega) _;have DE:Hid (Below w.heap.size w (w1.setCell ⟨w.heap.size,3,none⟩ (.slice A1 ln c1))):=CE.out.setCell (by show w.heap.size<=w.heap.size;omega) _;generalize w1.setCell ⟨w.heap.size,3,none⟩ (.slice A1 ln c1)=w2 at*;have HOW:=qD hown2;have HC1:=qD hc1;clear hown hown2 k3 kz C0 C1 CE hc1;have k3:=D0.out.cell 3;simp at k3
 go_upto_block 0 with fail
 go_cut [] (fun wx=>aE wx w.heap.size 29 (VC.arr ⟨ck,cn,ct,A1,ln,c1,DA,dn,dc⟩)/\aE wx (w.heap.size+1) 29 VC.zero.arr/\RV (fun b=>wa.heap.size<=b) wx ⟨6,0,empty,A1,ln,c1,none,0,0⟩ (.mk 6 0 empty l [])/\Below w.heap.size w wx)
 case first=>
  rcases MH ln with h0|h0
  ·subst h0;go_upto_region 3 with fail
   go_loopw [3,12] (fun _ u12 wr=>u12=.int .i64 0/\wr=w2) (fun _ _ _=>0)
   ·exact⟨rfl,rfl⟩
   case round=>
    obtain⟨rfl,rfl⟩:=hrel;go_wp2_with fail;go_meet;refine⟨D0.out,D1.out,mK.shut ⟨rfl,rfl,rfl,by show 0<=aF;decide,HLL.out,HC1.out,by show 0*80<=aF;decide,fun h=>absurd h (by show ¬(0<0);omega),rfl,qL,by show 0*96<=aF;decide,fun h=>absurd h (by show ¬(0<0);omega)⟩,DE.out⟩
  ·obtain⟨g,cap,hv,hgb,hgl⟩:=HOW.out.form h0;cases hv;obtain⟨R,hR,_,_,_,_⟩:=AH HOW.out;have HG:Hid (wa.heap.size<=g):=hgb;have HG2:Hid (w.heap.size<=g):=by have:=HWA.out;unfold Hid;omega
   have HNE:Hid (w.heap.size≠g/\w.heap.size+1≠g):=by have:=HWA.out;exact⟨by omega,by omega⟩
   have Q0:Hid (yi wa g l 0 ps w2):=⟨⟨R,hR⟩,by rw[<-HPS.out,Lb],fun j p hp=>⟨p.2,by rw[<-HPS.out,LV,hp];rfl,fun hj=>absurd hj (by omega),fun _=>((HSL.out.rv p (LP hp)).lt.keep fun b hb=>DE.out.block b hb.2).mono fun b hb=>(by have:=HWA.out;have:=hb.2;omega:b<wa.heap.size)⟩⟩;have HI:=HIL;clear hR hgl hgb;go_upto_region 3 with fail
   clear k3
   go_loopw [3,12] (fun _ u12 wr=>∃(i:Nat) (qs:List PV),i<=ln/\u12=.int .i64 i/\aE wr w.heap.size 29 (VC.arr ⟨ck,cn,ct,some ⟨g,0,none⟩,ln,c1,DA,dn,dc⟩)/\aE wr (w.heap.size+1) 29 VC.zero.arr/\yi wa g l i qs wr/\Below w.heap.size w wr) (fun _ u12 _=>ln-(intOf u12).toNat)
   ·exact⟨0,ps,LQ _,rfl,D0.out,D1.out,Q0.out,DE.out⟩
   case round=>
    obtain⟨i,qs,hi,rfl,E0,E1,J,EE⟩:=hrel;have HE0:=qD E0;have HE1:=qD E1;have J2:=qD J;have HEE:=qD EE;by_cases hlt:i<ln
    ·obtain⟨p,hp⟩:∃p,qs[i]?=some p:=⟨_,LI (by have h1:=J.len;have h2:=HLL.out;omega)⟩;obtain⟨y,hy,_,hrv⟩:=J.el i p hp;have HPI:=qD hp;have HY:=qD hy;have HC:=qD (HI.out y (LP hy));have RP:Hid (RW wr p.1 y):=(hrv (qL)).mono fun _ _=>trivial;have lb0:=E0.lt;have gl:=J.lt;have HWL:Hid (wa.heap.size<=wr.heap.size):=by have h1:=HG.out;unfold Hid;omega
     have i0':(0:Int)<=(i:Int):=by omega
     have i1':(i:Int)<(ln:Int):=by omega
     have k3:=E0.cell 3;simp at k3;go_upto_region 5 with fail
     have B0':Hid (Below wr.heap.size wr wr.drew):=qD ((LH wr.heap.size wr).drew);have KC:Hid (∀w':World,Below wr.heap.size wr w'->w'.cell? ⟨w.heap.size,3,none⟩=some (.slice (some ⟨g,0,none⟩) ln c1)):=qD fun w' hb=>(hb.cell (p:=⟨w.heap.size,3,none⟩) lb0).trans k3;have KD:Hid (∀(W:World) (e:VC),Below wr.heap.size wr W->(cy W g (i*5) e).cell? ⟨w.heap.size,3,none⟩=some (.slice (some ⟨g,0,none⟩) ln c1)):=qD fun W e hb=>(Me (w:=W) (a:=⟨w.heap.size,3,none⟩) (dS HNE.out.1)).trans (KC.out W hb);clear hp hy hrv E0 E1 J EE k3;refine MX ?_;refine ML (S:=(fun w'=>w'.cell? ⟨w.heap.size,3,none⟩=some (.slice (some ⟨g,0,none⟩) ln c1))) (by kernel_rfl) ?_ (fun hHeld=>?_)
     ·(try dsimp only);exact KC.out _ B0'.out
     have JW:=qD (J2.out.step B0'.out);have y0:=JW.out.cells HPI.out (k:=0) rfl;have y1:=JW.out.cells HPI.out (k:=1) rfl;have y2:=JW.out.cells HPI.out (k:=2) rfl;have y3:=JW.out.cells HPI.out (k:=3) rfl;have y4:=JW.out.cells HPI.out (k:=4) rfl;simp only[Ms] at y0 y1 y2 y3 y4;have HW0:Hid (wr.heap.size=wr.drew.heap.size):=rfl;generalize wr.drew=W0 at*;have B:=B0';refine rU 0 rfl ?_
     try go_frame
     refine rU 1 rfl ?_
     try go_frame
     refine rU 2 rfl ?_
     try go_frame
     refine rU 3 rfl ?_
     try go_frame
     refine rU 4 rfl ?_
     try go_frame
     refine rU 5 rfl ?_
     try go_frame
     refine rU 6 rfl ?_
     try go_frame
     refine rY 7 rfl fun K hK=>?_;go_simp;clear hHeld;refine hK.out _ _ ?_ fun hHeld=>?_
     ·(try dsimp only);exact KC.out _ B.out
     clear hK K
     try go_frame
     clear y0 y1 y2 y3 y4 JW;refine rY 8 rfl fun K hK=>?_;go_simp;refine(HC.out p.1 W0 (RP.out.step B.out)).mono ?_;rintro e W1 ⟨c9,rfl,hr,hb⟩;have R9:=qD hr;have BW:=qD hb;replace B:=qD (B.out.Jp hb);clear hb hr
     (try go_wp2_with fail)
     clear hHeld;refine hK.out _ _ ?_ fun hHeld=>?_
     ·(try dsimp only);exact KC.out _ B.out
     clear hK K
     try go_frame
     refine rU 9 rfl ?_
     try go_frame
     refine rY 10 rfl fun K hK=>?_;have J9:=qD (J2.out.step B.out);have z9:=J9.out.frozen;have y0:=J9.out.cells HPI.out (k:=0) rfl;have y1:=J9.out.cells HPI.out (k:=1) rfl;have y2:=J9.out.cells HPI.out (k:=2) rfl;have y3:=J9.out.cells HPI.out (k:=3) rfl;have y4:=J9.out.cells HPI.out (k:=4) rfl;simp only[Ms] at y0 y1 y2 y3 y4;go_simp;refine hK.out _ _ (KD.out W1 c9 B.out) (fun hHeld2=>?_);clear hHeld hHeld2 hK K y0 y1 y2 y3 y4 z9
     try go_frame
     refine rD ?_ _;refine Mf ?_;have HN:Hid (yi wa g l (i+1) (qs.set i (c9,y)) (cy W1 g (i*5) c9)):=(J2.out.step B.out).put HPI.out HY.out HG.out (R9.out.mono fun b hb=>by have h2:=HW0.out;have hb':W0.heap.size<=b:=hb;exact⟨by have:=HWL.out;omega,by omega⟩);have HN0:=qD ((HE0.out.step B.out).KI (b:=g) HNE.out.1 (i*5) c9);have HN1:=qD ((HE1.out.step B.out).KI (b:=g) HNE.out.2 (i*5) c9);have HNB:=qD (cH (HEE.out.Jp B.out) (B:=w.heap.size) HG2.out (i*5) c9);clear R9 BW B HE0 HE1 HEE J2 RP HC KC KD;go_wp2_with fail;go_roundw
     ·exact⟨i+1,_,hlt,by go_num,HN0.out,HN1.out,HN.out,HNB.out⟩
     ·simp[intOf];omega
    ·obtain rfl:i=ln:=by omega
     have HBK:Hid (∀b off,some (⟨g,0,none⟩:Addr)=some ⟨b,off,none⟩->b=g/\off=0):=fun b off e=>by cases e;exact⟨rfl,rfl⟩
     clear E0 E1 J EE;go_wp2_with fail;go_meet;refine⟨HE0.out,HE1.out,mK.shut ⟨rfl,rfl,rfl,by show 0<=aF;decide,HLL.out,HC1.out,HSL.out.sz,fun _=>⟨g,0,rfl,⟨HG.out,fun _ q=>J2.out.frozen q⟩,fun j y hj=>?_⟩,rfl,qL,by show 0*96<=aF;decide,fun h=>absurd h (by show ¬(0<0);omega)⟩,HEE.out⟩;obtain⟨p,hp⟩:∃p,qs[j]?=some p:=⟨_,LI (by have h1:=J2.out.len;have h2:=(LJ.1 hj).1;simp only[aC.l] at h2;omega)⟩;obtain⟨z,hz,h1,_⟩:=J2.out.el j p hp;have hzy:z=y:=Mk (hz.symm.trans hj);subst hzy;have hjl:j<i:=by have h2:=(LJ.1 hj).1;simp only[aC.l] at h2;have:=HLL.out;omega
     exact⟨p.1,nM fun q v hq=>by rw[LL];exact J2.out.cells hp hq,(h1 hjl).mono fun b hb=>hb.1⟩
 case rest=>
  obtain⟨hb0,hb1,hrl,hbe⟩:=hcut;have HRL:=qD hrl.lt;have C0:=qD hb0;have C1:=qD hb1;have CE:=qD hbe;clear D0 D1 DE HOW hb0 hb1 hrl hbe BE k3;generalize wc=w3 at*;have hle3:w.heap.size<=w3.heap.size:=CE.out.size;have hwa3:wa.heap.size<=w3.heap.size:=by have h1:=C1.out.lt;have h2:=HWA.out;omega
  have HCF:=qD (yh fs DA dn dc w3 (HSD.out.sr.step CE.out) HSD.out.sz);have k4:=C0.out.cell 4;have kz:=C0.out.frozen;simp at k4;go_wp2_with fail;refine HCF.out.mono ?_;rintro e wz ⟨v2,rfl,hown,hb⟩;obtain⟨A2,c2,rfl,hc2⟩:=aa hown;have C0':=qD (C0.out.step hb);have C1':=qD (C1.out.step hb);have CE':=qD (CE.out.Jp hb);have HRL':=qD (HRL.out.step hb);have hsz:=hb.size;have hown2:=AG hown (p:=⟨w.heap.size,4,none⟩) (fun e=>by have h1:w3.heap.size<=w.heap.size:=bU hown _ e;have h2:=HWA.out;omega) (.slice A2 dn c2);clear hb C0 C1 CE HCF k4 kz HRL;have k4:=C0'.out.cell 4;have kz:=C0'.out.frozen;simp at k4;go_upto_region 8 with fail
  change Code.wp _ _ _ _ (wz.setCell ⟨w.heap.size,4,none⟩ (.slice A2 dn c2));have D0:Hid (aE (wz.setCell ⟨w.heap.size,4,none⟩ (.slice A2 dn c2)) w.heap.size 29 (VC.arr ⟨ck,cn,ct,A1,ln,c1,A2,dn,c2⟩)):=C0'.out.Js 4 _;have D1:Hid (aE (wz.setCell ⟨w.heap.size,4,none⟩ (.slice A2 dn c2)) (w.heap.size+1) 29 VC.zero.arr):=C1'.out.Jz (p:=⟨w.heap.size,4,none⟩) (by show w.heap.size+1≠w.heap.size;omega) _;have DE:Hid (Below w.heap.size w (wz.setCell ⟨w.heap.size,4,none⟩ (.slice A2 dn c2))):=CE'.out.setCell (by show w.heap.size<=w.heap.size;omega) _;have HRL4:Hid (RV (fun b=>wa.heap.size<=b/\b<w3.heap.size) (wz.setCell ⟨w.heap.size,4,none⟩ (.slice A2 dn c2)) ⟨6,0,empty,A1,ln,c1,none,0,0⟩ (.mk 6 0 empty l [])):=HRL'.out.keep fun b hb=>MA wz ⟨w.heap.size,4,none⟩ _ b (by have:=HWA.out;have:=hb.1;show b≠w.heap.size;omega);have HW3:Hid (w3.heap.size<=(wz.setCell ⟨w.heap.size,4,none⟩ (.slice A2 dn c2)).heap.size):=by simpa[Hid,World.setCell] using hsz
  generalize wz.setCell ⟨w.heap.size,4,none⟩ (.slice A2 dn c2)=w4 at*;have HOW:=qD hown2;have HC2:=qD hc2;clear hown hown2 k4 kz C0' C1' CE' hc2 HRL' hsz;have k4:=D0.out.cell 4;simp at k4
  go_upto_block 2 with fail
  go_cut [] (fun wx=>aE wx w.heap.size 29 (VC.arr ⟨ck,cn,ct,A1,ln,c1,A2,dn,c2⟩)/\aE wx (w.heap.size+1) 29 VC.zero.arr/\RV (fun b=>wa.heap.size<=b) wx ⟨5,0,empty,none,0,0,A2,dn,c2⟩ (.mk 5 0 empty [] d)/\Below w3.heap.size w4 wx)
  case first=>
   rcases MH dn with h0|h0
   ·subst h0;go_upto_region 9 with fail
    go_loopw [4,33] (fun _ u12 wr=>u12=.int .i64 0/\wr=w4) (fun _ _ _=>0)
    ·exact⟨rfl,rfl⟩
    case round=>
     obtain⟨rfl,rfl⟩:=hrel;go_wp2_with fail;go_meet;refine⟨D0.out,D1.out,mK.shut ⟨rfl,rfl,rfl,by show 0<=aF;decide,rfl,qL,by show 0*80<=aF;decide,fun h=>absurd h (by show ¬(0<0);omega),HDD.out,HC2.out,by show 0*96<=aF;decide,fun h=>absurd h (by show ¬(0<0);omega)⟩,LH _ _⟩
   ·obtain⟨g,cap,hv,hgb,hgl⟩:=HOW.out.form h0;cases hv;obtain⟨R,hR,_,_,_,_⟩:=AH HOW.out;have HG3:Hid (w3.heap.size<=g):=hgb;have HG:Hid (wa.heap.size<=g):=by unfold Hid;omega
    have HNE:Hid (w.heap.size≠g/\w.heap.size+1≠g):=by have:=HWA.out;exact⟨by omega,by omega⟩
    have Q0:Hid (yj wa g d 0 fs w4):=⟨⟨R,hR⟩,by rw[<-HFS.out,Lb],fun j p hp=>⟨p.2,by rw[<-HFS.out,LV,hp];rfl,rfl,HSD.out.ns p (LP hp),fun hj=>absurd hj (by omega),fun _=>((HSD.out.rv p (LP hp)).lt.keep fun b hb=>DE.out.block b hb.2).mono fun b hb=>(by have:=HWA.out;have:=hb.2;omega:b<wa.heap.size)⟩⟩;have HI:=HID;clear hR hgl hgb HLL;have HLL:=HDD;go_upto_region 9 with fail
    clear k4
    go_loopw [4,33] (fun _ u12 wr=>∃(i:Nat) (qs:List PF),i<=dn/\u12=.int .i64 i/\aE wr w.heap.size 29 (VC.arr ⟨ck,cn,ct,A1,ln,c1,some ⟨g,0,none⟩,dn,c2⟩)/\aE wr (w.heap.size+1) 29 VC.zero.arr/\yj wa g d i qs wr/\Below w3.heap.size w4 wr) (fun _ u12 _=>dn-(intOf u12).toNat)
    ·exact⟨0,fs,LQ _,rfl,D0.out,D1.out,Q0.out,LH _ _⟩
    case round=>
     obtain⟨i,qs,hi,rfl,E0,E1,J,EE⟩:=hrel;have HE0:=qD E0;have HE1:=qD E1;have J2:=qD J;have HEE:=qD EE;by_cases hlt:i<dn
     ·obtain⟨p,hp⟩:∃p,qs[i]?=some p:=⟨_,LI (by have h1:=J.len;have h2:=HLL.out;omega)⟩;obtain⟨y,hy,hys,hyz,_,hrv⟩:=J.el i p hp;have HPI:=qD hp;have HY:=qD hy;have HYS:=qD hys;have HC:=qD (HI.out y (LP hy));have RP:Hid (RW wr p.1 y.v):=(hrv (qL)).mono fun _ _=>trivial;have lb0:=E0.lt;have gl:=J.lt;have HWL:Hid (wa.heap.size<=wr.heap.size):=by have h1:=HG.out;unfold Hid;omega
      have i0':(0:Int)<=(i:Int):=by omega
      have i1':(i:Int)<(dn:Int):=by omega
      have k3:=E0.cell 4;simp at k3;go_upto_region 11 with fail
      have B0':Hid (Below wr.heap.size wr wr.drew):=qD ((LH wr.heap.size wr).drew);have KC:Hid (∀w':World,Below wr.heap.size wr w'->w'.cell? ⟨w.heap.size,4,none⟩=some (.slice (some ⟨g,0,none⟩) dn c2)):=qD fun w' hb=>(hb.cell (p:=⟨w.heap.size,4,none⟩) lb0).trans k3;have KD:Hid (∀(W:World) (e:VC),Below wr.heap.size wr W->(cy W g (i*6+1) e).cell? ⟨w.heap.size,4,none⟩=some (.slice (some ⟨g,0,none⟩) dn c2)):=qD fun W e hb=>(Me (w:=W) (a:=⟨w.heap.size,4,none⟩) (dS HNE.out.1)).trans (KC.out W hb);clear hp hy hrv hys hyz E0 E1 J EE k3;refine MX ?_;refine ML (S:=(fun w'=>w'.cell? ⟨w.heap.size,4,none⟩=some (.slice (some ⟨g,0,none⟩) dn c2))) (by kernel_rfl) ?_ (fun hHeld=>?_)
      ·(try dsimp only);exact KC.out _ B0'.out
      have JW:=qD (J2.out.step B0'.out);have y0:=JW.out.cells HPI.out (k:=1) rfl;have y1:=JW.out.cells HPI.out (k:=2) rfl;have y2:=JW.out.cells HPI.out (k:=3) rfl;have y3:=JW.out.cells HPI.out (k:=4) rfl;have y4:=JW.out.cells HPI.out (k:=5) rfl;have HW0:Hid (wr.heap.size=wr.drew.heap.size):=rfl;generalize wr.drew=W0 at*;have B:=B0';refine rU 0 rfl ?_
      try go_frame
      refine rU 1 rfl ?_
      try go_frame
      refine rU 2 rfl ?_
      try go_frame
      refine rU 3 rfl ?_
      try go_frame
      refine rU 4 rfl ?_
      try go_frame
      refine rU 5 rfl ?_
      try go_frame
      refine rU 6 rfl ?_
      try go_frame
      refine rU 7 rfl ?_
      try go_frame
      refine rY 8 rfl fun K hK=>?_;go_simp;clear hHeld;refine hK.out _ _ ?_ fun hHeld=>?_
      ·(try dsimp only);exact KC.out _ B.out
      clear hK K
      try go_frame
      clear y0 y1 y2 y3 y4 JW;refine rY 9 rfl fun K hK=>?_;go_simp;refine(HC.out p.1 W0 (RP.out.step B.out)).mono ?_;rintro e W1 ⟨c9,rfl,hr,hb⟩;have R9:=qD hr;have BW:=qD hb;replace B:=qD (B.out.Jp hb);clear hb hr
      (try go_wp2_with fail)
      clear hHeld;refine hK.out _ _ ?_ fun hHeld=>?_
      ·(try dsimp only);exact KC.out _ B.out
      clear hK K
      try go_frame
      refine rU 10 rfl ?_
      try go_frame
      refine rU 11 rfl ?_
      try go_frame
      refine rY 12 rfl fun K hK=>?_;have J9:=qD (J2.out.step B.out);have z9:=J9.out.frozen;have y0:=J9.out.cells HPI.out (k:=1) rfl;have y1:=J9.out.cells HPI.out (k:=2) rfl;have y2:=J9.out.cells HPI.out (k:=3) rfl;have y3:=J9.out.cells HPI.out (k:=4) rfl;have y4:=J9.out.cells HPI.out (k:=5) rfl;go_simp;refine hK.out _ _ (KD.out W1 c9 B.out) (fun hHeld2=>?_);clear hHeld hHeld2 hK K y0 y1 y2 y3 y4 z9
      try go_frame
      refine rD ?_ _;refine Mf ?_;have HN:Hid (yj wa g d (i+1) (qs.set i (c9,p.2)) (cy W1 g (i*6+1) c9)):=(J2.out.step B.out).put HPI.out HY.out HG.out HYS.out (R9.out.mono fun b hb=>by have h2:=HW0.out;have hb':W0.heap.size<=b:=hb;exact⟨by have:=HWL.out;omega,by omega⟩);have HN0:=qD ((HE0.out.step B.out).KI (b:=g) HNE.out.1 (i*6+1) c9);have HN1:=qD ((HE1.out.step B.out).KI (b:=g) HNE.out.2 (i*6+1) c9);have HNB:=qD (cH (HEE.out.Jp B.out (by have:=HW3.out;omega)) (B:=w3.heap.size) HG3.out (i*6+1) c9);clear R9 BW B HE0 HE1 HEE J2 RP HC KC KD;go_wp2_with fail;go_roundw
      ·exact⟨i+1,_,hlt,by go_num,HN0.out,HN1.out,HN.out,HNB.out⟩
      ·simp[intOf];omega
     ·obtain rfl:i=dn:=by omega
      clear E0 E1 J EE;go_wp2_with fail;go_meet;refine⟨HE0.out,HE1.out,mK.shut ⟨rfl,rfl,rfl,by show 0<=aF;decide,rfl,qL,by show 0*80<=aF;decide,fun h=>absurd h (by show ¬(0<0);omega),HDD.out,HC2.out,HSD.out.sz,fun _=>⟨g,0,rfl,⟨HG.out,fun _ q=>J2.out.frozen q⟩,fun j y hj=>?_⟩⟩,HEE.out⟩;obtain⟨p,hp⟩:∃p,qs[j]?=some p:=⟨_,LI (by have h1:=J2.out.len;have h2:=(LJ.1 hj).1;simp only[aC.d] at h2;omega)⟩;obtain⟨z,hz,hzs,hzz,h1,_⟩:=J2.out.el j p hp;have hzy:z=y:=Mk (hz.symm.trans hj);subst hzy;have hjl:j<i:=by have h2:=(LJ.1 hj).1;simp only[aC.d] at h2;have:=HDD.out;omega
      refine⟨by rw[LL,hzs];exact J2.out.cells hp (k:=0) rfl,by rw[hzs];exact hzz,p.1,nM fun q v hq=>?_,(h1 hjl).mono fun b hb=>hb.1⟩;have:=J2.out.cells hp (k:=q+1) (by simpa[dz] using hq);rw[show 0+j*6+1+q=j*6+(q+1) by omega];exact this
  case rest=>
   obtain⟨hb0,hb1,hrd,hbe⟩:=hcut;have HRD:=qD hrd;have E0:=qD hb0;have E1:=qD hb1;have HRL5:=qD (HRL4.out.keep fun b hb=>hbe.block b hb.2);have EE:=qD (DE.out.trans (hbe.mono hle3));clear D0 D1 DE HOW hb0 hb1 hrd hbe k4 HRL4;generalize wc=w5 at*;obtain⟨a0,a1,a2,a3,a4⟩:=bS.Jr E0.out;simp only[LL] at a0 a1 a2 a3 a4;obtain⟨b0,b1,b2,b3,b4⟩:=bS.Jr E1.out;simp only[LL] at b0 b1 b2 b3 b4;have bz:=E1.out.frozen;go_wp2_with fail;have q:=bS.Jr (E1.out.KF ⟨ck,cn,ct,A1,ln,c1,A2,dn,c2⟩);refine Lp (dX rfl _ _ _ rfl _ ⟨ck,cn,ct,A1,ln,c1,A2,dn,c2⟩ q) rfl ?_;have hj:=Bj HO.out.k HO.out.n HO.out.t HO.out.tsz (HRL5.out.mono fun b hb=>hb.1) HRD.out;have hle:w.heap.size+2<=wa.heap.size:=by rw[HWA.out];exact qL
   have hk:=hj.Jv (G:=fun b=>w.heap.size<=b) (w':=cy w5 (w.heap.size+1) 0 ⟨ck,cn,ct,A1,ln,c1,A2,dn,c2⟩) (Dn hle);exact⟨⟨ck,cn,ct,A1,ln,c1,A2,dn,c2⟩,rfl,hk,cH (b:=w.heap.size+1) EE.out (Nat.le_add_right _ _) 0 ⟨ck,cn,ct,A1,ln,c1,A2,dn,c2⟩⟩
end Go.Proofs.YthfahkaadbdicaaGreatDoor
