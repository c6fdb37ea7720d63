/- A part of the proof. -/
import Derived.Test.YtgfoliedmhgpnaaGreatDoorBn17
import Derived.Test.YtgfoliedmhgpnaaGreatDoorBn18
import Derived.Lib.AppendStr
set_option maxRecDepth 100000
set_option maxHeartbeats 16000000
set_option linter.unusedSimpArgs false
open Go.Proofs.Tryz
open ByteArray (empty)
namespace Go.Proofs.YtgfoliedmhgpnaaGreatDoor
open Go.RowKit
section
variable {l r xs:List ByteArray} {c k g n m size:Nat} {op x:Int} {s:ByteArray} {w wr:World} {A:Option Addr} {t:TypeId}
theorem FJ(p:aX)(ih:∀k∈p.kids,vv k)(h:p.op=20):vv p:=by
 intro A n c l w hw hv hT hl hz;rw[tA h];have HA:Hid (∀wr,Below w.heap.size w wr->Calls prog 64 #[aW p,.slice A n c] wr (dD (oO (p.kids.map (dW l))) p.sz wr)):=qD fun wr hb=>zS p ih A n c l wr (hw.step hb) (hv.open.kids (.inl h)) (hT.step hb) (hl.step hb) hz;clear hw hv hT hl hz ih;obtain⟨r,hr⟩:∃r,r=oO (p.kids.map (dW l)):=⟨_,rfl⟩;rw[<-hr] at HA ⊢;clear hr;have B0:Hid (aG (w.alloc (.cells (aD p) 38)) w.heap.size 38 (aD p)):=aG.Ii rfl;have BE:=qD ((Ju w.heap.size w).alloc (qL) (Obj.cells (aD p) 38));go_enter Mm,Md;go_upto_region 1 with fail
 change Code.wp _ _ _ _ (w.alloc (.cells (aD p) 38));generalize w.alloc (.cells (aD p) 38)=wa at*;obtain⟨d0,d1,_,_,_,_,_,_⟩:=aR B0.out;rw[h] at d0;have RG:=qD (ae B0.out);go_wp2_with ((with_reducible show wpList _ _ _ (⟨_,.load 38 _,_,_,_,_⟩::_) _ _);refine aE rfl 38 _ rfl w.heap.size 0 rfl _ _ RG.out KH rfl (by kernel_rfl) ?_);refine(HA.out _ BE.out).mono ?_;rintro e w1 ⟨A3,m3,c3,ys,nf,rfl,hy,hnf,hmk,hsi,hb3,hfr⟩;have HNO:=qD (show dD r p.sz wa (.returned (.tuple #[.slice A3 m3 c3,.bool r.2])) w1 from⟨A3,m3,c3,ys,nf,rfl,hy,hnf,hmk,hsi,hb3,hfr⟩);clear hy hnf hmk hsi hb3 hfr;go_wp2_with fail;go_ret2;exact HNO.out.up BE.out (qL)
theorem GU(p:aX)(ih:∀k∈p.kids,vv k)(h:p.op=21):vv p:=by
 intro A n c l w hw hv hT hl hz;rw[xQ h];have HA:Hid (∀wr,Below w.heap.size w wr->Calls prog 65 #[aW p,.slice A n c] wr (dD (yp (p.kids.map (dW l))) p.sz wr)):=qD fun wr hb=>Bg p ih A n c l wr (hw.step hb) (hv.open.kids (.inr h)) (hT.step hb) (hl.step hb) hz (hv.open.ne (.inr h));clear hw hv hT hl hz ih;obtain⟨r,hr⟩:∃r,r=yp (p.kids.map (dW l)):=⟨_,rfl⟩;rw[<-hr] at HA ⊢;clear hr;have B0:Hid (aG (w.alloc (.cells (aD p) 38)) w.heap.size 38 (aD p)):=aG.Ii rfl;have BE:=qD ((Ju w.heap.size w).alloc (qL) (Obj.cells (aD p) 38));go_enter Mm,Md;go_upto_region 1 with fail
 change Code.wp _ _ _ _ (w.alloc (.cells (aD p) 38));generalize w.alloc (.cells (aD p) 38)=wa at*;obtain⟨d0,d1,_,_,_,_,_,_⟩:=aR B0.out;rw[h] at d0;have RG:=qD (ae B0.out);go_wp2_with ((with_reducible show wpList _ _ _ (⟨_,.load 38 _,_,_,_,_⟩::_) _ _);refine aE rfl 38 _ rfl w.heap.size 0 rfl _ _ RG.out KH rfl (by kernel_rfl) ?_);refine(HA.out _ BE.out).mono ?_;rintro e w1 ⟨A3,m3,c3,ys,nf,rfl,hy,hnf,hmk,hsi,hb3,hfr⟩;have HNO:=qD (show dD r p.sz wa (.returned (.tuple #[.slice A3 m3 c3,.bool r.2])) w1 from⟨A3,m3,c3,ys,nf,rfl,hy,hnf,hmk,hsi,hb3,hfr⟩);clear hy hnf hmk hsi hb3 hfr;go_wp2_with fail;go_ret2;exact HNO.out.up BE.out (qL)
theorem fX{l m:List ByteArray}:de l m=true↔l=m:=by
 induction l generalizing m with
 | nil=>cases m<;>simp[de]
 | cons x r ih=>
  cases m with
  | nil=>simp[de]
  | cons y s=>
   rw[de,Kz,ih,Ln,MS];constructor
   ·rintro⟨h1,h2⟩;exact⟨Me (Mi.1 (by rw[MF,MF] at h1;exact h1)),h2⟩
   ·rintro⟨rfl,rfl⟩;exact⟨rfl,rfl⟩
theorem Di(p:aX)(h:p.op≠20)(h':p.op≠21)(A:Option Addr)(n c:Nat)(l:List ByteArray)(w:World)(hw:WP w p)(hl:ST w A n c l)(hp:p.path.xs≠l):
 Calls prog 22 #[aW p,.slice A n c] w (dD (eD,false) p.sz w):=by
 have HE:Hid (∀wr,Below w.heap.size w wr->Calls prog 66 #[.slice p.path.A p.path.n p.path.c,.slice A n c] wr fun e w'=>e=.returned (.bool (de p.path.xs l))/\Below wr.heap.size wr w'):=qD fun wr hb=>fW p.path.xs l p.path.A A p.path.n p.path.c n c wr (hw.open.path.step hb) (hl.step hb)
 have hs:de p.path.xs l=false:=by
  rw[<-Bool.not_eq_true,fX];exact hp
 rw[hs] at HE;have HSZ:Hid (1<=p.sz):=by rw[Hid,p.Ir];omega
 clear hw hl hs hp;have B0:Hid (aG (w.alloc (.cells (aD p) 38)) w.heap.size 38 (aD p)):=aG.Ii rfl;have BE:=qD ((Ju w.heap.size w).alloc (qL) (Obj.cells (aD p) 38));go_enter Mm,Md;go_upto_region 1 with fail
 change Code.wp _ _ _ _ (w.alloc (.cells (aD p) 38));generalize w.alloc (.cells (aD p) 38)=wa at*;obtain⟨d0,d1,_,_,_,_,_,_⟩:=aR B0.out;have g20:(p.op==20)=false:=by simpa using h
 have g21:(p.op==21)=false:=by simpa using h'
 clear h h';go_wp2_with fail;refine(HE.out _ BE.out).mono ?_;rintro e w1 ⟨rfl,hb⟩;replace BE:=qD (BE.out.Ih hb);clear hb d0 d1 HE B0;go_wp2_with fail;refine(eW _).mono ?_;rintro e w2 ⟨A3,m3,c3,ys,nf,rfl,hy,hnf,hmk,hsi,hb3,hfr⟩;have HNO:=qD (show dD (eD,false) 1 w1 (.returned (.tuple #[.slice A3 m3 c3,.bool false])) w2 from⟨A3,m3,c3,ys,nf,rfl,hy,hnf,hmk,hsi,hb3,hfr⟩);clear hy hnf hmk hsi hb3 hfr;go_wp2_with fail;go_ret2;exact HNO.out.up BE.out HSZ.out
theorem GV(p:aX)(h:p.op=8)(A:Option Addr)(n c:Nat)(l:List ByteArray)(w:World)(hw:WP w p)(hl:ST w A n c l)(hp:p.path.xs=l)(r:iW)(hr:∀wr,Below w.heap.size w wr->Calls prog 72 #[aW p] wr (dD r p.sz wr)):
 Calls prog 22 #[aW p,.slice A n c] w (dD r p.sz w):=by
 have HE:Hid (∀wr,Below w.heap.size w wr->Calls prog 66 #[.slice p.path.A p.path.n p.path.c,.slice A n c] wr fun e w'=>e=.returned (.bool (de p.path.xs l))/\Below wr.heap.size wr w'):=qD fun wr hb=>fW p.path.xs l p.path.A A p.path.n p.path.c n c wr (hw.open.path.step hb) (hl.step hb);rw[fX.2 hp] at HE;have HA:=qD hr;clear hw hl hp hr;have B0:Hid (aG (w.alloc (.cells (aD p) 38)) w.heap.size 38 (aD p)):=aG.Ii rfl;have BE:=qD ((Ju w.heap.size w).alloc (qL) (Obj.cells (aD p) 38));go_enter Mm,Md;go_upto_region 1 with fail
 change Code.wp _ _ _ _ (w.alloc (.cells (aD p) 38));generalize w.alloc (.cells (aD p) 38)=wa at*;obtain⟨d0,d1,_,_,_,_,_,_⟩:=aR B0.out;rw[h] at d0;go_wp2_with fail;refine(HE.out _ BE.out).mono ?_;rintro e w1 ⟨rfl,hb⟩;replace BE:=qD (BE.out.Ih hb);replace B0:=qD (B0.out.step hb);clear hb d0 d1 HE;obtain⟨d0,_,_,_,_,_,_,_⟩:=aR B0.out;rw[h] at d0;have RG:=qD (ae B0.out);go_wp2_with ((with_reducible show wpList _ _ _ (⟨_,.load 38 _,_,_,_,_⟩::_) _ _);refine aE rfl 38 _ rfl w.heap.size 0 rfl _ _ RG.out KH rfl (by kernel_rfl) ?_);refine(HA.out _ BE.out).mono ?_;rintro e w2 ⟨A3,m3,c3,ys,nf,rfl,hy,hnf,hmk,hsi,hb3,hfr⟩;have HNO:=qD (show dD r p.sz w1 (.returned (.tuple #[.slice A3 m3 c3,.bool r.2])) w2 from⟨A3,m3,c3,ys,nf,rfl,hy,hnf,hmk,hsi,hb3,hfr⟩);clear hy hnf hmk hsi hb3 hfr;go_wp2_with fail;go_ret2;exact HNO.out.up BE.out (qL)
theorem FK(p:aX)(h:p.op=16)(A:Option Addr)(n c:Nat)(l:List ByteArray)(w:World)(hw:WP w p)(hl:ST w A n c l)(hp:p.path.xs=l)(r:iW)(hr:∀wr,Below w.heap.size w wr->Calls prog 73 #[aW p] wr (dD r p.sz wr)):
 Calls prog 22 #[aW p,.slice A n c] w (dD r p.sz w):=by
 have HE:Hid (∀wr,Below w.heap.size w wr->Calls prog 66 #[.slice p.path.A p.path.n p.path.c,.slice A n c] wr fun e w'=>e=.returned (.bool (de p.path.xs l))/\Below wr.heap.size wr w'):=qD fun wr hb=>fW p.path.xs l p.path.A A p.path.n p.path.c n c wr (hw.open.path.step hb) (hl.step hb);rw[fX.2 hp] at HE;have HA:=qD hr;clear hw hl hp hr;have B0:Hid (aG (w.alloc (.cells (aD p) 38)) w.heap.size 38 (aD p)):=aG.Ii rfl;have BE:=qD ((Ju w.heap.size w).alloc (qL) (Obj.cells (aD p) 38));go_enter Mm,Md;go_upto_region 1 with fail
 change Code.wp _ _ _ _ (w.alloc (.cells (aD p) 38));generalize w.alloc (.cells (aD p) 38)=wa at*;obtain⟨d0,d1,_,_,_,_,_,_⟩:=aR B0.out;rw[h] at d0;go_wp2_with fail;refine(HE.out _ BE.out).mono ?_;rintro e w1 ⟨rfl,hb⟩;replace BE:=qD (BE.out.Ih hb);replace B0:=qD (B0.out.step hb);clear hb d0 d1 HE;obtain⟨d0,_,_,_,_,_,_,_⟩:=aR B0.out;rw[h] at d0;have RG:=qD (ae B0.out);go_wp2_with ((with_reducible show wpList _ _ _ (⟨_,.load 38 _,_,_,_,_⟩::_) _ _);refine aE rfl 38 _ rfl w.heap.size 0 rfl _ _ RG.out KH rfl (by kernel_rfl) ?_);refine(HA.out _ BE.out).mono ?_;rintro e w2 ⟨A3,m3,c3,ys,nf,rfl,hy,hnf,hmk,hsi,hb3,hfr⟩;have HNO:=qD (show dD r p.sz w1 (.returned (.tuple #[.slice A3 m3 c3,.bool r.2])) w2 from⟨A3,m3,c3,ys,nf,rfl,hy,hnf,hmk,hsi,hb3,hfr⟩);clear hy hnf hmk hsi hb3 hfr;go_wp2_with fail;go_ret2;exact HNO.out.up BE.out (qL)
theorem Bl(p:aX)(h:p.op≠20/\p.op≠21/\p.op≠2/\p.op≠4/\p.op≠5/\p.op≠6/\p.op≠7/\p.op≠8/\p.op≠16/\p.op≠11)(A:Option Addr)(n c:Nat)(l:List ByteArray)(w:World)(hw:WP w p)(hl:ST w A n c l)(hp:p.path.xs=l):
 Calls prog 22 #[aW p,.slice A n c] w (dD (eD,false) p.sz w):=by
 have HE:Hid (∀wr,Below w.heap.size w wr->Calls prog 66 #[.slice p.path.A p.path.n p.path.c,.slice A n c] wr fun e w'=>e=.returned (.bool (de p.path.xs l))/\Below wr.heap.size wr w'):=qD fun wr hb=>fW p.path.xs l p.path.A A p.path.n p.path.c n c wr (hw.open.path.step hb) (hl.step hb);rw[fX.2 hp] at HE;have HSZ:Hid (1<=p.sz):=by rw[Hid,p.Ir];omega
 clear hw hl hp;have B0:Hid (aG (w.alloc (.cells (aD p) 38)) w.heap.size 38 (aD p)):=aG.Ii rfl;have BE:=qD ((Ju w.heap.size w).alloc (qL) (Obj.cells (aD p) 38));go_enter Mm,Md;go_upto_region 1 with fail
 change Code.wp _ _ _ _ (w.alloc (.cells (aD p) 38));generalize w.alloc (.cells (aD p) 38)=wa at*;obtain⟨d0,d1,_,_,_,_,_,_⟩:=aR B0.out;obtain⟨h1,h2,h3,h4,h5,h6,h7,h8,h9,h10⟩:=h;have g1:(p.op==20)=false:=by simpa using h1
 have g2:(p.op==21)=false:=by simpa using h2
 have g3:(p.op==2)=false:=by simpa using h3
 have g4:(p.op==4)=false:=by simpa using h4
 have g5:(p.op==5)=false:=by simpa using h5
 have g6:(p.op==6)=false:=by simpa using h6
 have g7:(p.op==7)=false:=by simpa using h7
 have g8:(p.op==8)=false:=by simpa using h8
 have g9:(p.op==16)=false:=by simpa using h9
 have g10:(p.op==11)=false:=by simpa using h10
 clear h1 h2 h3 h4 h5 h6 h7 h8 h9 h10;go_wp2_with fail;refine(HE.out _ BE.out).mono ?_;rintro e w1 ⟨rfl,hb⟩;replace BE:=qD (BE.out.Ih hb);replace B0:=qD (B0.out.step hb);clear hb d0 d1 HE;obtain⟨d0,_,_,_,_,_,_,_⟩:=aR B0.out;go_wp2_with fail;refine(eW _).mono ?_;rintro e w2 ⟨A3,m3,c3,ys,nf,rfl,hy,hnf,hmk,hsi,hb3,hfr⟩;have HNO:=qD (show dD (eD,false) 1 w1 (.returned (.tuple #[.slice A3 m3 c3,.bool false])) w2 from⟨A3,m3,c3,ys,nf,rfl,hy,hnf,hmk,hsi,hb3,hfr⟩);clear hy hnf hmk hsi hb3 hfr;go_wp2_with fail;go_ret2;exact HNO.out.up BE.out HSZ.out
def IU(n:Int):Nat:=((n+9223372036854775808)%18446744073709551616).toNat
def Hl(n:Int)(s:Nat):Int:=((IU n/2^s%256:Nat):Int)
def FL(n:Int)(i:Nat):List Int:=(List.range i).map fun j=>Hl n (56-8*j)
def nums(n:Int):List Int:=FL n 8
def fI(s:ByteArray):List Int:=s.data.toList.map fun x=>(x.toNat:Int)
theorem GW(t:ByteArray):t.data.toList.length=t.size:=by rw[LX];rfl
theorem nE(l m:List Int):strOfNums (l++m)=strOfNums l++strOfNums m:=by
 apply Me;simp[strOfNums]
theorem cT(s:ByteArray):strOfNums (fI s)=s:=by
 apply Me;apply Array.ext';simp only[strOfNums,fI,Mq,List.toList_toArray]
 conv=>rhs;rw[<-List.map_id s.data.toList]
 apply List.map_congr_left;intro x _;simp
theorem mK(s:ByteArray):(fI s).length=s.size:=by rw[fI,KX,GW]
theorem FM(z:Int)(w:World)(h:Tryz.prog.underlying 5=some (.int .u8)):(convert 133 9 (.slice (some ⟨w.heap.size,0,none⟩) 1 1)).run prog (w.alloc (.cells #[.int .u8 z] 5))=.ok (.string (strOfNums [z])) (w.alloc (.cells #[.int .u8 z] 5)):=by
 refine Nn (P:=prog) _ 133 5 NW h w.heap.size 0 1 1 [z] rfl (fun i hi=>?_) 9 LV;obtain rfl:i=0:=by omega
 exact(aG.new w 5 #[.int .u8 z]).cell 0
theorem FN{w:World}{g:Nat}{c:VC}{x:aC}(h:aG w g 29 c.arr)(hr:RW w c x):SL (fun _=>True) w (some ⟨g,0,none⟩) 1 1 [(c,x)]:=by
 refine⟨⟨rfl,qL,fun _=>⟨g,0,rfl,h.lt,fun i a hi j v hj=>?_⟩⟩,by decide,fun _=>⟨g,0,rfl,Ft.JX⟩,fun p hp=>?_⟩
 ·cases i with
  | zero=>
   simp at hi;subst hi;have:=oX (aS.Ig h) j v hj;simpa using this
  | succ i=>simp at hi
 ·simp at hp;subst hp;exact hr
theorem FO(p:aX)(h:p.op=2)(A:Option Addr)(n c:Nat)(l:List ByteArray)(w:World)(hw:WP w p)(hT:cY w)(hl:ST w A n c l)(hp:p.path.xs=l):
 Calls prog 22 #[aW p,.slice A n c] w (dD (dx 2 p.arg.2 (p.args.xs.map Prod.snd) p.n) p.sz w):=by
 have HE:Hid (∀wr,Below w.heap.size w wr->Calls prog 66 #[.slice p.path.A p.path.n p.path.c,.slice A n c] wr fun e w'=>e=.returned (.bool (de p.path.xs l))/\Below wr.heap.size wr w'):=qD fun wr hb=>fW p.path.xs l p.path.A A p.path.n p.path.c n c wr (hw.open.path.step hb) (hl.step hb);rw[fX.2 hp] at HE;have HT:=qD hT;have HSZ:Hid (1<=p.sz):=by rw[Hid,p.Ir];omega
 have HX:=qD hw.open.arg;have HK:Hid (p.arg.1.k=p.arg.2.k):=qD hw.open.arg.open.k;clear hw hT hl hp;have B0:Hid (aG (w.alloc (.cells (aD p) 38)) w.heap.size 38 (aD p)):=aG.Ii rfl;have BE:=qD ((Ju w.heap.size w).alloc (qL) (Obj.cells (aD p) 38));go_enter Mm,Md;go_upto_region 1 with fail
 change Code.wp _ _ _ _ (w.alloc (.cells (aD p) 38));generalize w.alloc (.cells (aD p) 38)=wa at*;obtain⟨d0,d1,_,_,_,_,_,_⟩:=aR B0.out;rw[h] at d0;go_wp2_with fail;refine(HE.out _ BE.out).mono ?_;rintro e w1 ⟨rfl,hb⟩;replace BE:=qD (BE.out.Ih hb);replace B0:=qD (B0.out.step hb);clear hb d0 d1 HE;obtain⟨d0,_,_,_,_,_,_,_⟩:=aR B0.out;rw[h] at d0;clear h;have f2:=(bV B0.out) 0 _ rfl;have f3:=(bV B0.out) 1 _ rfl;have f4:=(bV B0.out) 2 _ rfl;have f5:=(bV B0.out) 3 _ rfl;have f6:=(bV B0.out) 4 _ rfl;simp only[Nat.reduceAdd] at f2 f3 f4 f5 f6;by_cases h6:p.arg.1.k=6
 ·have HL:Hid (dx 2 p.arg.2 (p.args.xs.map Prod.snd) p.n=(eD,false)):=qD (bz (my (by rw[<-HK.out];exact h6)));have k6:(p.arg.1.k != 6)=false:=by simpa using h6
  clear h6;go_wp2_with fail;refine(eW _).mono ?_;rintro e w2 ⟨A3,m3,c3,ys,nf,rfl,hy,hnf,hmk,hsi,hb3,hfr⟩;have HNO:=qD (show dD (eD,false) 1 w1 (.returned (.tuple #[.slice A3 m3 c3,.bool false])) w2 from⟨A3,m3,c3,ys,nf,rfl,hy,hnf,hmk,hsi,hb3,hfr⟩);clear hy hnf hmk hsi hb3 hfr;go_wp2_with fail;go_ret2;rw[HL.out];exact HNO.out.up BE.out HSZ.out
 ·have HL:Hid (dx 2 p.arg.2 (p.args.xs.map Prod.snd) p.n=((fun a=>ch aZ a (aU ([p.arg].map fun q=>ei q.2))),decide (p.arg.2.k≠2))):=by
   rw[Hid,bU (oe (by rw[<-HK.out];exact h6))];rfl
  have k6:(p.arg.1.k != 6)=true:=by simpa using h6
  clear h6;obtain⟨b2,hb2⟩:∃b,b=decide (p.arg.2.k≠2):=⟨_,rfl⟩;rw[<-hb2] at HL;have k2:(p.arg.1.k != 2)=b2:=by rw[hb2,HK.out,Kc];simp
  clear hb2;go_upto_region 11 with fail
  have B:=qD ((Ju w1.heap.size w1).drewN 1);have KS:Hid (∀w',Below w1.heap.size w1 w'->w'.cell? ⟨w.heap.size,2,none⟩=some (.int .i64 p.arg.1.k)/\w'.cell? ⟨w.heap.size,3,none⟩=some (.int .i64 p.arg.1.n)/\w'.cell? ⟨w.heap.size,4,none⟩=some (.string p.arg.1.t)/\w'.cell? ⟨w.heap.size,5,none⟩=some (.slice p.arg.1.LA p.arg.1.ln p.arg.1.lc)/\w'.cell? ⟨w.heap.size,6,none⟩=some (.slice p.arg.1.DA p.arg.1.dn p.arg.1.dc)):=qD fun w' hb=>⟨(hb.cell (p:=⟨w.heap.size,2,none⟩) B0.out.lt).trans f2,(hb.cell (p:=⟨w.heap.size,3,none⟩) B0.out.lt).trans f3,(hb.cell (p:=⟨w.heap.size,4,none⟩) B0.out.lt).trans f4,(hb.cell (p:=⟨w.heap.size,5,none⟩) B0.out.lt).trans f5,(hb.cell (p:=⟨w.heap.size,6,none⟩) B0.out.lt).trans f6⟩;clear f2 f3 f4 f5 f6 d0
  go_region_held3 (fun w'=>w'.cell? ⟨w.heap.size,2,none⟩=some (.int .i64 p.arg.1.k)/\w'.cell? ⟨w.heap.size,3,none⟩=some (.int .i64 p.arg.1.n)/\w'.cell? ⟨w.heap.size,4,none⟩=some (.string p.arg.1.t)/\w'.cell? ⟨w.heap.size,5,none⟩=some (.slice p.arg.1.LA p.arg.1.ln p.arg.1.lc)/\w'.cell? ⟨w.heap.size,6,none⟩=some (.slice p.arg.1.DA p.arg.1.dn p.arg.1.dc))
   (first|exact KS.out _ B.out|exact KS.out _ (B.out.alloc B.out.size _)|((try dsimp only);assumption)|go_keep)
   ((go_at_call 68;refine(nZ [p.arg] _ 1 1 _ (HT.out.step (BE.out.Ih (B.out.alloc B.out.size _))) (FN (aG.Ii rfl) (HX.out.step (BE.out.Ih (B.out.alloc B.out.size _)))) (by omega)).mono ?_;rintro e3 w3 ⟨A3,m3,c3,ys,nf,rfl,hy,hnf,hmk,hsi,hb3,hfr⟩;have HNO:=qD (show dD ((fun a=>ch aZ a (aU ([p.arg].map fun q=>ei q.2))),b2) 1 _ (.returned (.tuple #[.slice A3 m3 c3,.bool b2])) w3 from⟨A3,m3,c3,ys,nf,rfl,hy,hnf,hmk,hsi,hb3,hfr⟩);replace HNO:=qD (HNO.out.up (B.out.alloc B.out.size _) (qL));replace B:=qD ((B.out.alloc B.out.size _).Ih hb3);clear hy hnf hmk hsi hb3 hfr))
  all_goals
   go_wp2_with fail;go_ret2;rw[HL.out];exact HNO.out.up BE.out HSZ.out
theorem Dj(p:aX)(h:p.op=11)(hn:1<=p.n/\p.n<=11)(A:Option Addr)(n c:Nat)(l:List ByteArray)(w:World)(hw:WP w p)(hT:cY w)(hl:ST w A n c l)(hp:p.path.xs=l):
 Calls prog 22 #[aW p,.slice A n c] w (dD (dx 11 p.arg.2 (p.args.xs.map Prod.snd) p.n) p.sz w):=by
 have HE:Hid (∀wr,Below w.heap.size w wr->Calls prog 66 #[.slice p.path.A p.path.n p.path.c,.slice A n c] wr fun e w'=>e=.returned (.bool (de p.path.xs l))/\Below wr.heap.size wr w'):=qD fun wr hb=>fW p.path.xs l p.path.A A p.path.n p.path.c n c wr (hw.open.path.step hb) (hl.step hb);rw[fX.2 hp] at HE;have HT:=qD hT;have HSZ:Hid (1<=p.sz):=by rw[Hid,p.Ir];omega
 have HN:=qD hn;clear hw hT hl hp hn;have B0:Hid (aG (w.alloc (.cells (aD p) 38)) w.heap.size 38 (aD p)):=aG.Ii rfl;have BE:=qD ((Ju w.heap.size w).alloc (qL) (Obj.cells (aD p) 38));go_enter Mm,Md;go_upto_region 1 with fail
 change Code.wp _ _ _ _ (w.alloc (.cells (aD p) 38));generalize w.alloc (.cells (aD p) 38)=wa at*;obtain⟨d0,d1,_,_,_,_,_,_⟩:=aR B0.out;rw[h] at d0;go_wp2_with fail;refine(HE.out _ BE.out).mono ?_;rintro e w1 ⟨rfl,hb⟩;replace BE:=qD (BE.out.Ih hb);replace B0:=qD (B0.out.step hb);clear hb d0 d1 HE;obtain⟨d0,_,_,_,_,d8,_,_⟩:=aR B0.out;rw[h] at d0;clear h;by_cases h6:p.n=6
 ·have HL:Hid (dx 11 p.arg.2 (p.args.xs.map Prod.snd) p.n=(eD,false)):=qD (bz (by rw[h6];exact ju));rw[h6] at d8;clear h6;go_wp2_with fail;refine(ou w1).mono ?_;rintro e w2 ⟨rfl,hb⟩;replace BE:=qD (BE.out.Ih hb);clear hb B0 d0 d8;go_upto_region 25 with fail
  change Code.wp _ _ _ _ (w2.alloc (.cells (aa zI) 85));replace BE:=qD (BE.out.alloc BE.out.size (Obj.cells (aa zI) 85));generalize w2.alloc (.cells (aa zI) 85)=w3 at*;go_wp2_with fail;refine(eW _).mono ?_;rintro e w4 ⟨A3,m3,c3,ys,nf,rfl,hy,hnf,hmk,hsi,hb3,hfr⟩;have HNO:=qD (show dD (eD,false) 1 w3 (.returned (.tuple #[.slice A3 m3 c3,.bool false])) w4 from⟨A3,m3,c3,ys,nf,rfl,hy,hnf,hmk,hsi,hb3,hfr⟩);clear hy hnf hmk hsi hb3 hfr;go_wp2_with fail;go_ret2;rw[HL.out];exact HNO.out.up BE.out HSZ.out
 ·have HL:Hid (dx 11 p.arg.2 (p.args.xs.map Prod.snd) p.n=((fun a=>ch aZ a (aU ([dN p.n].map cB))),decide (p.n≠2))):=by
   rw[Hid,bU (lS h6),Lb,yT HN.out h6]
  have KR:=qD (iU p.n w1 HN.out h6);clear h6;obtain⟨b2,hb2⟩:∃b,b=decide (p.n≠2):=⟨_,rfl⟩;rw[<-hb2] at HL;have k2:(p.n != 2)=b2:=by rw[hb2,Kc];simp
  clear hb2;have HQ:Hid (∀wq:World,qe wq (dN p.n)):=qD fun wq=>oT p.n wq;go_wp2_with fail;refine KR.out.mono ?_;obtain⟨q,hq⟩:∃q,q=dN p.n:=⟨_,rfl⟩;rw[<-hq] at HL HQ;rintro e w2 ⟨rfl,hb⟩;rw[<-hq];clear hq KR;replace BE:=qD (BE.out.Ih hb);replace B0:=qD (B0.out.step hb);clear hb d0 d8;go_upto_region 25 with fail
  change Code.wp _ _ _ _ (w2.alloc (.cells (aa q) 85));have J:Hid (aG (w2.alloc (.cells (aa q) 85)) w2.heap.size 85 (aa q)):=aG.Ii rfl;replace BE:=qD (BE.out.alloc BE.out.size (Obj.cells (aa q) 85));replace B0:=qD (B0.out.alloc (.cells (aa q) 85));generalize w2.alloc (.cells (aa q) 85)=w3 at*;generalize w2.heap.size=gj at*;obtain⟨_,_,_,_,_,d8,_,_⟩:=aR B0.out;go_upto_region 26 with fail
  have B:=qD ((Ju w3.heap.size w3).drewN 1);obtain⟨⟨a0,a1,a2,a3,a4⟩,⟨b0,b1,b2',b3,b4⟩,b5,b6⟩:=jb.Ig J.out;simp only[Jw] at a0 a1 a2 a3 a4 b0 b1 b2' b3 b4 b5 b6
  have KS:Hid (∀w',Below w3.heap.size w3 w'->(fun w'=>w'.cell? ⟨gj,0,none⟩=some (.int .i64 q.1.1.1.k)/\w'.cell? ⟨gj,1,none⟩=some (.int .i64 q.1.1.1.n)/\w'.cell? ⟨gj,2,none⟩=some (.string q.1.1.1.t)/\w'.cell? ⟨gj,3,none⟩=some (.slice q.1.1.1.LA q.1.1.1.ln q.1.1.1.lc)/\w'.cell? ⟨gj,4,none⟩=some (.slice q.1.1.1.DA q.1.1.1.dn q.1.1.1.dc)/\w'.cell? ⟨gj,5,none⟩=some (.int .i64 q.1.2.1.k)/\w'.cell? ⟨gj,6,none⟩=some (.int .i64 q.1.2.1.n)/\w'.cell? ⟨gj,7,none⟩=some (.string q.1.2.1.t)/\w'.cell? ⟨gj,8,none⟩=some (.slice q.1.2.1.LA q.1.2.1.ln q.1.2.1.lc)/\w'.cell? ⟨gj,9,none⟩=some (.slice q.1.2.1.DA q.1.2.1.dn q.1.2.1.dc)/\w'.cell? ⟨gj,10,none⟩=some (.bool q.2.1)/\w'.cell? ⟨gj,11,none⟩=some (.bool q.2.2)/\w'.cell? ⟨w.heap.size,8,none⟩=some (.int .i64 p.n)) w'):=qD fun w' hb=>⟨(hb.cell (p:=⟨gj,0,none⟩) J.out.lt).trans a0,(hb.cell (p:=⟨gj,1,none⟩) J.out.lt).trans a1,(hb.cell (p:=⟨gj,2,none⟩) J.out.lt).trans a2,(hb.cell (p:=⟨gj,3,none⟩) J.out.lt).trans a3,(hb.cell (p:=⟨gj,4,none⟩) J.out.lt).trans a4,(hb.cell (p:=⟨gj,5,none⟩) J.out.lt).trans b0,(hb.cell (p:=⟨gj,6,none⟩) J.out.lt).trans b1,(hb.cell (p:=⟨gj,7,none⟩) J.out.lt).trans b2',(hb.cell (p:=⟨gj,8,none⟩) J.out.lt).trans b3,(hb.cell (p:=⟨gj,9,none⟩) J.out.lt).trans b4,(hb.cell (p:=⟨gj,10,none⟩) J.out.lt).trans b5,(hb.cell (p:=⟨gj,11,none⟩) J.out.lt).trans b6,(hb.cell (p:=⟨w.heap.size,8,none⟩) B0.out.lt).trans d8⟩;clear a0 a1 a2 a3 a4 b0 b1 b2' b3 b4 b5 b6 d8
  go_region_held3 (fun w'=>w'.cell? ⟨gj,0,none⟩=some (.int .i64 q.1.1.1.k)/\w'.cell? ⟨gj,1,none⟩=some (.int .i64 q.1.1.1.n)/\w'.cell? ⟨gj,2,none⟩=some (.string q.1.1.1.t)/\w'.cell? ⟨gj,3,none⟩=some (.slice q.1.1.1.LA q.1.1.1.ln q.1.1.1.lc)/\w'.cell? ⟨gj,4,none⟩=some (.slice q.1.1.1.DA q.1.1.1.dn q.1.1.1.dc)/\w'.cell? ⟨gj,5,none⟩=some (.int .i64 q.1.2.1.k)/\w'.cell? ⟨gj,6,none⟩=some (.int .i64 q.1.2.1.n)/\w'.cell? ⟨gj,7,none⟩=some (.string q.1.2.1.t)/\w'.cell? ⟨gj,8,none⟩=some (.slice q.1.2.1.LA q.1.2.1.ln q.1.2.1.lc)/\w'.cell? ⟨gj,9,none⟩=some (.slice q.1.2.1.DA q.1.2.1.dn q.1.2.1.dc)/\w'.cell? ⟨gj,10,none⟩=some (.bool q.2.1)/\w'.cell? ⟨gj,11,none⟩=some (.bool q.2.2)/\w'.cell? ⟨w.heap.size,8,none⟩=some (.int .i64 p.n))
   (first|exact KS.out _ B.out|exact KS.out _ (B.out.alloc B.out.size _)|((try dsimp only);assumption)|go_keep)
   ((go_at_call 70;refine(dj [q] _ 1 1 _ (HT.out.step (BE.out.Ih (B.out.alloc B.out.size _))) (jq (aG.Ii rfl) (HQ.out _)) (by omega)).mono ?_;rintro e3 w5 ⟨A3,m3,c3,ys,nf,rfl,hy,hnf,hmk,hsi,hb3,hfr⟩;have HNO:=qD (show dD ((fun a=>ch aZ a (aU ([q].map cB))),b2) 1 _ (.returned (.tuple #[.slice A3 m3 c3,.bool b2])) w5 from⟨A3,m3,c3,ys,nf,rfl,hy,hnf,hmk,hsi,hb3,hfr⟩);replace HNO:=qD (HNO.out.up (B.out.alloc B.out.size _) (qL));replace B:=qD ((B.out.alloc B.out.size _).Ih hb3);clear hy hnf hmk hsi hb3 hfr))
  all_goals
   go_wp2_with fail;go_ret2;rw[HL.out];exact HNO.out.up BE.out HSZ.out
end
end Go.Proofs.YtgfoliedmhgpnaaGreatDoor
