/- Parts of the proof, joined: BoOfA, EncPure, EncKey, CrcPure, Crc, ShCode, BoOfB, BoOfC, ShOf. -/
import Derived.Test.YtfkdihlbaghajaaGreatDoorOf1
import Derived.Test.YtfkdihlbaghajaaGreatDoorOf18
import Derived.Test.YtfkdihlbaghajaaGreatDoorOf17
import Derived.Test.YtfkdihlbaghajaaGreatDoorOf19
import Derived.Test.YtfkdihlbaghajaaGreatDoorOf2
import Derived.Test.YtfkdihlbaghajaaGreatDoorOf4
import Derived.Test.YtfkdihlbaghajaaGreatDoorOf11
import Derived.Test.YtfkdihlbaghajaaGreatDoorOf5
import Derived.Laws.BytesArg
import Derived.Laws.Strings
import Derived.Deep.RegionHeld3
import Derived.Lib.AppendStr
import Derived.Laws.Concat
set_option maxRecDepth 100000
set_option maxHeartbeats 16000000
set_option linter.unusedSimpArgs false
namespace Go.Proofs.YtfkdihlbaghajaaGreatDoor
open Go.RowKit
theorem of_and(p:PrT)(ih:∀k∈p.kids,OfAt k)(h:p.op=20):OfAt p:=by
 intro A n c l w hw hv hT hl hz
 rw[ofS_and h]
 have HA:Hid (∀wr,Below w.heap.size w wr→Calls Tryz.prog 44 #[aggPr p,.slice A n c] wr (OfOk (andS (p.kids.map (ofS l))) p.sz wr)):=qD fun wr hb=>ofAnd_any p ih A n c l wr (hw.step hb) (hv.open.kids (.inl h)) (hT.step hb) (hl.step hb) hz
 clear hw hv hT hl hz ih
 obtain⟨r,hr⟩:∃r,r=andS (p.kids.map (ofS l)):=⟨_,rfl⟩
 rw[←hr] at HA ⊢
 clear hr
 have B0:Hid (Blk (w.alloc (.cells (arrPr p) 41)) w.heap.size 41 (arrPr p)):=Blk.new_at rfl
 have BE:=qD ((Below.refl w.heap.size w).alloc (qL) (Obj.cells (arrPr p) 41))
 go_enter Tryz.func14,Tryz.ntmps14
 go_upto_region 1 with fail
 change Code.wp _ _ _ _ (w.alloc (.cells (arrPr p) 41))
 generalize w.alloc (.cells (arrPr p) 41)=wa at*
 obtain⟨d0,d1,_,_,_,_,_,_⟩:=pr_cells B0.out
 rw[h] at d0
 have RG:=qD (pr_full B0.out)
 go_wp2_with ((with_reducible show wpList _ _ _ (⟨_,.load 41 _,_,_,_,_⟩::_) _ _);refine wpList_mid_w rfl 41 _ rfl w.heap.size 0 rfl _ _ RG.out Tryz.underlying41 rfl (by kernel_rfl) ?_)
 refine(HA.out _ BE.out).mono ?_
 rintro e w1 ⟨A3,m3,c3,ys,nf,rfl,hy,hnf,hmk,hsi,hb3,hfr⟩
 have HNO:=qD (show OfOk r p.sz wa (.returned (.tuple #[.slice A3 m3 c3,.bool r.2])) w1 from⟨A3,m3,c3,ys,nf,rfl,hy,hnf,hmk,hsi,hb3,hfr⟩)
 clear hy hnf hmk hsi hb3 hfr
 go_wp2_with fail
 go_ret2
 exact HNO.out.up BE.out (qL)
theorem of_or(p:PrT)(ih:∀k∈p.kids,OfAt k)(h:p.op=21):OfAt p:=by
 intro A n c l w hw hv hT hl hz
 rw[ofS_or h]
 have HA:Hid (∀wr,Below w.heap.size w wr→Calls Tryz.prog 45 #[aggPr p,.slice A n c] wr (OfOk (orS (p.kids.map (ofS l))) p.sz wr)):=qD fun wr hb=>ofOr_any p ih A n c l wr (hw.step hb) (hv.open.kids (.inr h)) (hT.step hb) (hl.step hb) hz (hv.open.ne (.inr h))
 clear hw hv hT hl hz ih
 obtain⟨r,hr⟩:∃r,r=orS (p.kids.map (ofS l)):=⟨_,rfl⟩
 rw[←hr] at HA ⊢
 clear hr
 have B0:Hid (Blk (w.alloc (.cells (arrPr p) 41)) w.heap.size 41 (arrPr p)):=Blk.new_at rfl
 have BE:=qD ((Below.refl w.heap.size w).alloc (qL) (Obj.cells (arrPr p) 41))
 go_enter Tryz.func14,Tryz.ntmps14
 go_upto_region 1 with fail
 change Code.wp _ _ _ _ (w.alloc (.cells (arrPr p) 41))
 generalize w.alloc (.cells (arrPr p) 41)=wa at*
 obtain⟨d0,d1,_,_,_,_,_,_⟩:=pr_cells B0.out
 rw[h] at d0
 have RG:=qD (pr_full B0.out)
 go_wp2_with ((with_reducible show wpList _ _ _ (⟨_,.load 41 _,_,_,_,_⟩::_) _ _);refine wpList_mid_w rfl 41 _ rfl w.heap.size 0 rfl _ _ RG.out Tryz.underlying41 rfl (by kernel_rfl) ?_)
 refine(HA.out _ BE.out).mono ?_
 rintro e w1 ⟨A3,m3,c3,ys,nf,rfl,hy,hnf,hmk,hsi,hb3,hfr⟩
 have HNO:=qD (show OfOk r p.sz wa (.returned (.tuple #[.slice A3 m3 c3,.bool r.2])) w1 from⟨A3,m3,c3,ys,nf,rfl,hy,hnf,hmk,hsi,hb3,hfr⟩)
 clear hy hnf hmk hsi hb3 hfr
 go_wp2_with fail
 go_ret2
 exact HNO.out.up BE.out (qL)
theorem sameP_iff{l m:List ByteArray}:sameP l m=true↔l=m:=by
 induction l generalizing m with
 | nil=>cases m<;>simp[sameP]
 | cons x r ih=>
  cases m with
  | nil=>simp[sameP]
  | cons y s=>
   rw[sameP,Bool.and_eq_true,ih,List.cons.injEq,beq_iff_eq]
   constructor
   ·rintro⟨h1,h2⟩
    exact⟨ByteArray.ext (Array.toList_inj.1 (by rw[Go.ByteArray.toList_eq,Go.ByteArray.toList_eq] at h1;exact h1)),h2⟩
   ·rintro⟨rfl,rfl⟩
    exact⟨rfl,rfl⟩
theorem of_else(p:PrT)(h:p.op≠20)(h':p.op≠21)(A:Option Addr)(n c:Nat)(l:List ByteArray)(w:World)(hw:WP w p)(hl:ST w A n c l)(hp:p.path.xs≠l):
 Calls Tryz.prog 14 #[aggPr p,.slice A n c] w (OfOk (allS,false) p.sz w):=by
 have HE:Hid (∀wr,Below w.heap.size w wr→Calls Tryz.prog 46 #[.slice p.path.A p.path.n p.path.c,.slice A n c] wr fun e w'=>e=.returned (.bool (sameP p.path.xs l))∧Below wr.heap.size wr w'):=qD fun wr hb=>equal_any p.path.xs l p.path.A A p.path.n p.path.c n c wr (hw.open.path.step hb) (hl.step hb)
 have hs:sameP p.path.xs l=false:=by
  rw[←Bool.not_eq_true,sameP_iff]
  exact hp
 rw[hs] at HE
 have HSZ:Hid (1≤p.sz):=by rw[Hid,p.sz_eq];omega
 clear hw hl hs hp
 have B0:Hid (Blk (w.alloc (.cells (arrPr p) 41)) w.heap.size 41 (arrPr p)):=Blk.new_at rfl
 have BE:=qD ((Below.refl w.heap.size w).alloc (qL) (Obj.cells (arrPr p) 41))
 go_enter Tryz.func14,Tryz.ntmps14
 go_upto_region 1 with fail
 change Code.wp _ _ _ _ (w.alloc (.cells (arrPr p) 41))
 generalize w.alloc (.cells (arrPr p) 41)=wa at*
 obtain⟨d0,d1,_,_,_,_,_,_⟩:=pr_cells B0.out
 have g20:(p.op==20)=false:=by simpa using h
 have g21:(p.op==21)=false:=by simpa using h'
 clear h h'
 go_wp2_with fail
 refine(HE.out _ BE.out).mono ?_
 rintro e w1 ⟨rfl,hb⟩
 replace BE:=qD (BE.out.step' hb)
 clear hb d0 d1 HE B0
 go_wp2_with fail
 refine(allF_any _).mono ?_
 rintro e w2 ⟨A3,m3,c3,ys,nf,rfl,hy,hnf,hmk,hsi,hb3,hfr⟩
 have HNO:=qD (show OfOk (allS,false) 1 w1 (.returned (.tuple #[.slice A3 m3 c3,.bool false])) w2 from⟨A3,m3,c3,ys,nf,rfl,hy,hnf,hmk,hsi,hb3,hfr⟩)
 clear hy hnf hmk hsi hb3 hfr
 go_wp2_with fail
 go_ret2
 exact HNO.out.up BE.out HSZ.out
theorem of_in(p:PrT)(h:p.op=8)(A:Option Addr)(n c:Nat)(l:List ByteArray)(w:World)(hw:WP w p)(hl:ST w A n c l)(hp:p.path.xs=l)(r:PSet)(hr:∀wr,Below w.heap.size w wr→Calls Tryz.prog 52 #[aggPr p] wr (OfOk r p.sz wr)):
 Calls Tryz.prog 14 #[aggPr p,.slice A n c] w (OfOk r p.sz w):=by
 have HE:Hid (∀wr,Below w.heap.size w wr→Calls Tryz.prog 46 #[.slice p.path.A p.path.n p.path.c,.slice A n c] wr fun e w'=>e=.returned (.bool (sameP p.path.xs l))∧Below wr.heap.size wr w'):=qD fun wr hb=>equal_any p.path.xs l p.path.A A p.path.n p.path.c n c wr (hw.open.path.step hb) (hl.step hb)
 rw[sameP_iff.2 hp] at HE
 have HA:=qD hr
 clear hw hl hp hr
 have B0:Hid (Blk (w.alloc (.cells (arrPr p) 41)) w.heap.size 41 (arrPr p)):=Blk.new_at rfl
 have BE:=qD ((Below.refl w.heap.size w).alloc (qL) (Obj.cells (arrPr p) 41))
 go_enter Tryz.func14,Tryz.ntmps14
 go_upto_region 1 with fail
 change Code.wp _ _ _ _ (w.alloc (.cells (arrPr p) 41))
 generalize w.alloc (.cells (arrPr p) 41)=wa at*
 obtain⟨d0,d1,_,_,_,_,_,_⟩:=pr_cells B0.out
 rw[h] at d0
 go_wp2_with fail
 refine(HE.out _ BE.out).mono ?_
 rintro e w1 ⟨rfl,hb⟩
 replace BE:=qD (BE.out.step' hb)
 replace B0:=qD (B0.out.step hb)
 clear hb d0 d1 HE
 obtain⟨d0,_,_,_,_,_,_,_⟩:=pr_cells B0.out
 rw[h] at d0
 have RG:=qD (pr_full B0.out)
 go_wp2_with ((with_reducible show wpList _ _ _ (⟨_,.load 41 _,_,_,_,_⟩::_) _ _);refine wpList_mid_w rfl 41 _ rfl w.heap.size 0 rfl _ _ RG.out Tryz.underlying41 rfl (by kernel_rfl) ?_)
 refine(HA.out _ BE.out).mono ?_
 rintro e w2 ⟨A3,m3,c3,ys,nf,rfl,hy,hnf,hmk,hsi,hb3,hfr⟩
 have HNO:=qD (show OfOk r p.sz w1 (.returned (.tuple #[.slice A3 m3 c3,.bool r.2])) w2 from⟨A3,m3,c3,ys,nf,rfl,hy,hnf,hmk,hsi,hb3,hfr⟩)
 clear hy hnf hmk hsi hb3 hfr
 go_wp2_with fail
 go_ret2
 exact HNO.out.up BE.out (qL)
theorem of_pre(p:PrT)(h:p.op=16)(A:Option Addr)(n c:Nat)(l:List ByteArray)(w:World)(hw:WP w p)(hl:ST w A n c l)(hp:p.path.xs=l)(r:PSet)(hr:∀wr,Below w.heap.size w wr→Calls Tryz.prog 53 #[aggPr p] wr (OfOk r p.sz wr)):
 Calls Tryz.prog 14 #[aggPr p,.slice A n c] w (OfOk r p.sz w):=by
 have HE:Hid (∀wr,Below w.heap.size w wr→Calls Tryz.prog 46 #[.slice p.path.A p.path.n p.path.c,.slice A n c] wr fun e w'=>e=.returned (.bool (sameP p.path.xs l))∧Below wr.heap.size wr w'):=qD fun wr hb=>equal_any p.path.xs l p.path.A A p.path.n p.path.c n c wr (hw.open.path.step hb) (hl.step hb)
 rw[sameP_iff.2 hp] at HE
 have HA:=qD hr
 clear hw hl hp hr
 have B0:Hid (Blk (w.alloc (.cells (arrPr p) 41)) w.heap.size 41 (arrPr p)):=Blk.new_at rfl
 have BE:=qD ((Below.refl w.heap.size w).alloc (qL) (Obj.cells (arrPr p) 41))
 go_enter Tryz.func14,Tryz.ntmps14
 go_upto_region 1 with fail
 change Code.wp _ _ _ _ (w.alloc (.cells (arrPr p) 41))
 generalize w.alloc (.cells (arrPr p) 41)=wa at*
 obtain⟨d0,d1,_,_,_,_,_,_⟩:=pr_cells B0.out
 rw[h] at d0
 go_wp2_with fail
 refine(HE.out _ BE.out).mono ?_
 rintro e w1 ⟨rfl,hb⟩
 replace BE:=qD (BE.out.step' hb)
 replace B0:=qD (B0.out.step hb)
 clear hb d0 d1 HE
 obtain⟨d0,_,_,_,_,_,_,_⟩:=pr_cells B0.out
 rw[h] at d0
 have RG:=qD (pr_full B0.out)
 go_wp2_with ((with_reducible show wpList _ _ _ (⟨_,.load 41 _,_,_,_,_⟩::_) _ _);refine wpList_mid_w rfl 41 _ rfl w.heap.size 0 rfl _ _ RG.out Tryz.underlying41 rfl (by kernel_rfl) ?_)
 refine(HA.out _ BE.out).mono ?_
 rintro e w2 ⟨A3,m3,c3,ys,nf,rfl,hy,hnf,hmk,hsi,hb3,hfr⟩
 have HNO:=qD (show OfOk r p.sz w1 (.returned (.tuple #[.slice A3 m3 c3,.bool r.2])) w2 from⟨A3,m3,c3,ys,nf,rfl,hy,hnf,hmk,hsi,hb3,hfr⟩)
 clear hy hnf hmk hsi hb3 hfr
 go_wp2_with fail
 go_ret2
 exact HNO.out.up BE.out (qL)
theorem of_other(p:PrT)(h:p.op≠20∧p.op≠21∧p.op≠2∧p.op≠4∧p.op≠5∧p.op≠6∧p.op≠7∧p.op≠8∧p.op≠16∧p.op≠11)(A:Option Addr)(n c:Nat)(l:List ByteArray)(w:World)(hw:WP w p)(hl:ST w A n c l)(hp:p.path.xs=l):
 Calls Tryz.prog 14 #[aggPr p,.slice A n c] w (OfOk (allS,false) p.sz w):=by
 have HE:Hid (∀wr,Below w.heap.size w wr→Calls Tryz.prog 46 #[.slice p.path.A p.path.n p.path.c,.slice A n c] wr fun e w'=>e=.returned (.bool (sameP p.path.xs l))∧Below wr.heap.size wr w'):=qD fun wr hb=>equal_any p.path.xs l p.path.A A p.path.n p.path.c n c wr (hw.open.path.step hb) (hl.step hb)
 rw[sameP_iff.2 hp] at HE
 have HSZ:Hid (1≤p.sz):=by rw[Hid,p.sz_eq];omega
 clear hw hl hp
 have B0:Hid (Blk (w.alloc (.cells (arrPr p) 41)) w.heap.size 41 (arrPr p)):=Blk.new_at rfl
 have BE:=qD ((Below.refl w.heap.size w).alloc (qL) (Obj.cells (arrPr p) 41))
 go_enter Tryz.func14,Tryz.ntmps14
 go_upto_region 1 with fail
 change Code.wp _ _ _ _ (w.alloc (.cells (arrPr p) 41))
 generalize w.alloc (.cells (arrPr p) 41)=wa at*
 obtain⟨d0,d1,_,_,_,_,_,_⟩:=pr_cells B0.out
 obtain⟨h1,h2,h3,h4,h5,h6,h7,h8,h9,h10⟩:=h
 have g1:(p.op==20)=false:=by simpa using h1
 have g2:(p.op==21)=false:=by simpa using h2
 have g3:(p.op==2)=false:=by simpa using h3
 have g4:(p.op==4)=false:=by simpa using h4
 have g5:(p.op==5)=false:=by simpa using h5
 have g6:(p.op==6)=false:=by simpa using h6
 have g7:(p.op==7)=false:=by simpa using h7
 have g8:(p.op==8)=false:=by simpa using h8
 have g9:(p.op==16)=false:=by simpa using h9
 have g10:(p.op==11)=false:=by simpa using h10
 clear h1 h2 h3 h4 h5 h6 h7 h8 h9 h10
 go_wp2_with fail
 refine(HE.out _ BE.out).mono ?_
 rintro e w1 ⟨rfl,hb⟩
 replace BE:=qD (BE.out.step' hb)
 replace B0:=qD (B0.out.step hb)
 clear hb d0 d1 HE
 obtain⟨d0,_,_,_,_,_,_,_⟩:=pr_cells B0.out
 go_wp2_with fail
 refine(allF_any _).mono ?_
 rintro e w2 ⟨A3,m3,c3,ys,nf,rfl,hy,hnf,hmk,hsi,hb3,hfr⟩
 have HNO:=qD (show OfOk (allS,false) 1 w1 (.returned (.tuple #[.slice A3 m3 c3,.bool false])) w2 from⟨A3,m3,c3,ys,nf,rfl,hy,hnf,hmk,hsi,hb3,hfr⟩)
 clear hy hnf hmk hsi hb3 hfr
 go_wp2_with fail
 go_ret2
 exact HNO.out.up BE.out HSZ.out
def U64(n:Int):Nat:=((n+9223372036854775808)%18446744073709551616).toNat
def num8(n:Int)(s:Nat):Int:=((U64 n/2^s%256:Nat):Int)
def numsTo(n:Int)(i:Nat):List Int:=(List.range i).map fun j=>num8 n (56-8*j)
def nums(n:Int):List Int:=numsTo n 8
theorem dsize(t:ByteArray):t.data.toList.length=t.size:=by rw[Array.length_toList];rfl
def missB(x:Val):Bool:=decide (x.k=0)&&(decide (x.n=0)&&(decide (x.t.size=0)&&(decide (x.l.length=0)&&decide (x.d.length=0))))
noncomputable def allowB(x:Val):Bool:=missB x||validV x
theorem size0(t:ByteArray):(t.toList==[])=decide (t.size=0):=by
 rw[ByteArray.toList_eq,←dsize]
 cases t.data.toList with
 | nil=>rfl
 | cons a r=>simp
theorem beq0(n:Nat):((n:Int)==0)=decide (n=0):=by
 by_cases h:n=0
 ·rw[h];rfl
 ·rw[decide_eq_false h]
  exact beq_eq_false_iff_ne.2 (by omega)
theorem allowed_any(x:Val)(c:VC)(w:World)(hT:Tabs w)(h:RW w c x):
 Calls Tryz.prog 188 #[c.val] w fun e w'=>e=.returned (.bool (allowB x))∧Below w.heap.size w w':=by
 have ho:=h.open
 have hvk:x.k=0→validV x=false:=fun e=>by
  cases hv:validV x
  ·rfl
  ·simp only[validV,Bool.and_eq_true] at hv
   obtain⟨_,_,_,_,h5⟩:=((SoundV_iff nameB x).1 (soundB_iff.1 hv.2)).1
   omega
 have B0:Hid (Blk (w.alloc (.cells c.arr 32)) w.heap.size 32 c.arr):=Blk.new_at rfl
 have BE:Hid (Below w.heap.size w (w.alloc (.cells c.arr 32))):=(Below.refl _ _).alloc (qL) _
 have HV:=qD fun(w1:World) (hb:Below w.heap.size w w1)=>valid_any x c w1 (hT.step hb) (h.step hb)
 have hk:=ho.k
 have hn:=ho.n
 have ht:=ho.t
 have hl:=ho.ln
 have hd:=ho.dn
 have HK:=qD (And.intro hk (And.intro hn (And.intro ht (And.intro hl (And.intro hd hvk)))))
 clear hT h ho hk hn ht hl hd hvk
 go_enter Tryz.func188,Tryz.ntmps188
 go_upto_region 1 with fail
 change (Code.region 1 _ _).wp _ _ _ (w.alloc (.cells c.arr 32))
 generalize w.alloc (.cells c.arr 32)=wa at*
 obtain⟨b0,b1,b2,b3,b4⟩:=VAt.of_blk B0.out
 simp only[Nat.zero_add] at b0 b1 b2 b3 b4
 by_cases h0:c.k=0
 ·obtain⟨hk,hn,ht,hl,hd,hvk⟩:=HK.out
  have hva:=hvk (by rw[←hk];exact h0)
  have HA:Hid (allowB x=(decide (c.n=0)&&(decide (c.t.size=0)&&(decide (c.ln=0)&&decide (c.dn=0))))):=by
   unfold Hid allowB missB
   rw[hva,←hk,←hn,←ht,←hl,←hd,decide_eq_true h0]
   simp
  have hsz:=size0 c.t
  have P0:∀q:BW wa,q.val.cell? ⟨w.heap.size,0,none⟩=some (.int .i64 c.k):=fun q=>q.cell b0
  have P1:∀q:BW wa,q.val.cell? ⟨w.heap.size,1,none⟩=some (.int .i64 c.n):=fun q=>q.cell b1
  have P2:∀q:BW wa,q.val.cell? ⟨w.heap.size,2,none⟩=some (.string c.t):=fun q=>q.cell b2
  have P3:∀q:BW wa,q.val.cell? ⟨w.heap.size,3,none⟩=some (.slice c.LA c.ln c.lc):=fun q=>q.cell b3
  have P4:∀q:BW wa,q.val.cell? ⟨w.heap.size,4,none⟩=some (.slice c.DA c.dn c.dc):=fun q=>q.cell b4
  clear hk hn ht hl hd hva hvk
  go_upto_region 2 with fail
  by_cases h1:c.n=0
  ·by_cases h2:c.t.size=0
   ·have h2b:(c.t.toList==[])=true:=by rw[hsz,decide_eq_true h2]
    by_cases h3:c.ln=0
    ·go_wp2_with fail
     go_ret
     exact⟨by rw[HA.out];simp[h1,h2,h3,beq0],BE.out⟩
    ·go_wp2_with fail
     go_ret
     exact⟨by rw[HA.out];simp[h1,h2,h3],BE.out⟩
   ·have h2b:(c.t.toList==[])=false:=by rw[hsz,decide_eq_false h2]
    go_wp2_with fail
    go_ret
    exact⟨by rw[HA.out];simp[h1,h2],BE.out⟩
  ·go_wp2_with fail
   go_ret
   exact⟨by rw[HA.out];simp[h1],BE.out⟩
 ·obtain⟨hk,hn,ht,hl,hd,hvk⟩:=HK.out
  have h0b:(c.k==0)=false:=by simpa using h0
  have HA:Hid (allowB x=validV x):=by
   unfold Hid allowB missB
   rw[←hk,decide_eq_false h0]
   rfl
  clear hk hn ht hl hd hvk
  go_wp2_with fail
  refine(HV.out wa BE.out).mono ?_
  rintro e w1 ⟨rfl,hb⟩
  have CE:=qD (BE.out.step' hb)
  clear b0 b1 b2 b3 b4 hb HV B0
  go_wp2_with fail
  go_ret
  exact⟨by rw[HA.out];rfl,CE.out⟩
def crcStep(r:Nat):Nat:=if r%2=1 then(r/2) ^^^ 2197175160 else r/2
def crcSteps(r:Nat):Nat→Nat
 | 0=>r
 | k+1=>crcStep (crcSteps r k)
def crcByte(r b:Nat):Nat:=crcSteps (r ^^^ b) 8
def crcL(r:Nat)(l:List UInt8):Nat:=l.foldl (fun r x=>crcByte r x.toNat) r
def crcSum(s:ByteArray):Nat:=crcL 4294967295 s.data.toList ^^^ 4294967295
theorem xor32{a b:Nat}(ha:a<4294967296)(hb:b<4294967296):a ^^^ b<4294967296:=Nat.xor_lt_two_pow (n:=32) ha hb
theorem crcStep_lt{r:Nat}(h:r<4294967296):crcStep r<4294967296:=by
 unfold crcStep
 split
 ·exact xor32 (by omega) (by omega)
 ·omega
theorem crcSteps_lt{r:Nat}(h:r<4294967296):∀k,crcSteps r k<4294967296
 | 0=>h
 | k+1=>crcStep_lt (crcSteps_lt h k)
theorem crcByte_lt{r b:Nat}(h:r<4294967296)(hb:b<256):crcByte r b<4294967296:=crcSteps_lt (xor32 h (by omega)) 8
theorem crcL_lt(l:List UInt8):∀{r:Nat},r<4294967296→crcL r l<4294967296:=by
 induction l with
 | nil=>intro r h;exact h
 | cons x l ih=>
  intro r h
  exact ih (crcByte_lt h (by have:=x.toNat_lt;omega))
theorem crcL_snoc{r:Nat}{l:List UInt8}{i:Nat}{x:UInt8}(h:l[i]?=some x):crcL r (l.take (i+1))=crcByte (crcL r (l.take i)) x.toNat:=by
 unfold crcL
 rw[List.take_add_one,h,List.foldl_append]
 simp only[Option.toList,List.foldl_cons,List.foldl_nil]
theorem ofInt_u32(a:Nat)(ha:a<4294967296):(BitVec.ofInt 32 (a:Int)).toNat=a:=by
 rw[BitVec.ofInt_natCast,BitVec.toNat_ofNat];exact Nat.mod_eq_of_lt (by omega)
theorem u32_and_one(a:Nat)(ha:a<4294967296):bits .and .u32 (a:Int) 1=((a%2:Nat):Int):=by
 have e:(BitVec.ofInt 32 (1:Int)).toNat=1:=by decide
 show IntKind.u32.wrap ((BitVec.ofInt 32 (a:Int)&&& BitVec.ofInt 32 (1:Int)).toNat:Int)=_
 rw[BitVec.toNat_and,ofInt_u32 a ha,e,Nat.and_one_is_mod,IntKind.wrap_u32]
 omega
theorem u32_xor_nat(a b:Nat)(ha:a<4294967296)(hb:b<4294967296):bits .xor .u32 (a:Int) (b:Int)=((a ^^^ b:Nat):Int):=by
 have hx:=xor32 ha hb
 show IntKind.u32.wrap ((BitVec.ofInt 32 (a:Int) ^^^ BitVec.ofInt 32 (b:Int)).toNat:Int)=_
 rw[BitVec.toNat_xor,ofInt_u32 a ha,ofInt_u32 b hb,IntKind.wrap_u32]
 omega
theorem dsize'(t:ByteArray):t.data.toList.length=t.size:=by rw[Array.length_toList];rfl
theorem half_nat(r:Nat):(r:Int)/2=((r/2:Nat):Int):=by omega
theorem wrapu32{a:Nat}(h:a<4294967296):IntKind.u32.wrap (a:Int)=(a:Int):=by rw[IntKind.wrap_u32];omega
theorem mod2_ways(r:Nat):(r%2=1∧crcStep r=(r/2) ^^^ 2197175160)∨(r%2=0∧crcStep r=r/2):=by
 unfold crcStep
 rcases Nat.mod_two_eq_zero_or_one r with h|h
 ·exact .inr ⟨h,by rw[if_neg (by omega)]⟩
 ·exact .inl ⟨h,by rw[if_pos h]⟩
theorem step_facts{r:Nat}(hr:r<4294967296):∃o h c:Nat,bits .and .u32 (r:Int) 1=(o:Int)∧(r:Int)/2=(h:Int)∧IntKind.u32.wrap (h:Int)=(h:Int)∧bits .xor .u32 (h:Int) 2197175160=(c:Int)∧h<4294967296∧((o=1∧crcStep r=c)∨(o=0∧crcStep r=h)):=by
 refine⟨r%2,r/2,(r/2) ^^^ 2197175160,u32_and_one r hr,half_nat r,wrapu32 (by omega),u32_xor_nat (r/2) 2197175160 (by omega) (by omega),by omega,?_⟩
 rcases mod2_ways r with⟨h1,h2⟩|⟨h1,h2⟩
 ·exact .inl ⟨h1,h2⟩
 ·exact .inr ⟨h1,h2⟩
theorem crc_any(s:ByteArray)(w:World)(hs:s.size≤140737488355328):Calls Tryz.prog 187 #[.string s] w fun e w'=>e=.returned (.int .u32 ((crcSum s:Nat):Int))∧w'=w:=by
 go_enter Tryz.func187,Tryz.ntmps187
 go_upto_region 3 with fail
 go_loopw [3,4,5,8,17] (fun u3 _ _ u8 _ wr=>∃i:Nat,i≤s.size∧u8=.int .i64 i∧u3=.int .u32 ((crcL 4294967295 (s.data.toList.take i):Nat):Int)∧wr=w) (fun _ _ _ u8 _ _=>s.size-(intOf u8).toNat)
 case atStart=>exact⟨0,Nat.zero_le _,rfl,rfl,rfl⟩
 case round=>
  obtain⟨i,hi,rfl,rfl,rfl⟩:=hrel
  have hlt32:=crcL_lt (s.data.toList.take i) (r:=4294967295) (by omega)
  obtain⟨r,hr⟩:∃r,r=crcL 4294967295 (s.data.toList.take i):=⟨_,rfl⟩
  rw[←hr] at hlt32 ⊢
  have HR:=qD hr
  clear hr
  have sz:(s.size:Int)≤140737488355328:=by omega
  have i0:(0:Int)≤(i:Int):=by omega
  by_cases hlt:i<s.size
  ·have hx:=s[i].toNat_lt
   have HSN:=qD (crcL_snoc (r:=4294967295) (bytes_at s i hlt))
   obtain⟨b,hb⟩:∃b,b=s[i].toNat:=⟨_,rfl⟩
   have hbw:IntKind.u32.wrap (s[i].toNat:Int)=(b:Int):=by rw[hb];exact wrapu32 (by omega)
   have hxr:=u32_xor_nat r b hlt32 (by omega)
   obtain⟨r0,hr0⟩:∃r0,r0=r ^^^ b:=⟨_,rfl⟩
   have hr0l:r0<4294967296:=by rw[hr0];exact xor32 hlt32 (by omega)
   rw[←hr0] at hxr
   have i1:(i:Int)<(s.size:Int):=by omega
   have HNX:Hid (crcL 4294967295 (s.data.toList.take (i+1))=crcSteps r0 8):=by
    refine HSN.out.trans ?_
    rw[hr0,HR.out,hb]
    rfl
   have HR0:=qD hr0l
   clear hb hr0
   go_upto_region 7 with fail
   clear hxr hbw hx hr0l HSN
   go_loopw [3,5,17] (fun u3 _ u17 wx=>∃k:Nat,k≤8∧u17=.int .i64 k∧u3=.int .u32 ((crcSteps r0 k:Nat):Int)∧wx=wr) (fun _ _ u17 _=>9-(intOf u17).toNat)
   case atStart=>exact⟨0,Nat.zero_le _,rfl,rfl,rfl⟩
   case round=>
    obtain⟨k,hk,rfl,rfl,rfl⟩:=hrel
    have hl:=crcSteps_lt HR0.out k
    have hstep:crcSteps r0 (k+1)=crcStep (crcSteps r0 k):=rfl
    obtain⟨r1,hr1⟩:∃r1,r1=crcSteps r0 k:=⟨_,rfl⟩
    rw[←hr1] at hl hstep ⊢
    have HR1:=qD hr1
    have HST:=qD hstep
    clear hr1 hstep
    by_cases hk8:k<8
    ·obtain⟨o,h,c,f1,f2,f3,f4,f5,f6⟩:=step_facts hl
     have HL:=qD hl
     have k0:(0:Int)≤(k:Int):=by omega
     clear hl
     rcases f6 with⟨rfl,f7⟩|⟨rfl,f7⟩
     ·have HF:=qD f7
      clear f7
      go_wp2_with fail
      go_roundw
      case rel=>exact⟨k+1,hk8,by go_num,by rw[HST.out,HF.out],trivial⟩
      case measure=>simp[intOf];omega
     ·have HF:=qD f7
      clear f7
      go_wp2_with fail
      go_roundw
      case rel=>exact⟨k+1,hk8,by go_num,by rw[HST.out,HF.out],trivial⟩
      case measure=>simp[intOf];omega
    ·obtain rfl:k=8:=by omega
     go_wp2_with fail
     go_roundw
     case rel=>exact⟨i+1,hlt,by go_num,by rw[HNX.out,←HR1.out],trivial⟩
     case measure=>simp[intOf];omega
  ·obtain rfl:i=s.size:=by omega
   have hTK:s.data.toList.take s.size=s.data.toList:=List.take_of_length_le (by rw[dsize'];exact qL)
   have HX:Hid (bits .xor .u32 IntKind.u32.max (r:Int)=((crcSum s:Nat):Int)):=by
    have e:=u32_xor_nat 4294967295 r (by omega) hlt32
    rw[Nat.xor_comm] at e
    unfold Hid crcSum
    rw[←hTK,←HR.out]
    exact e
   clear hTK
   go_wp2_with fail
   go_ret
   exact⟨by rw[←HX.out];rfl,rfl⟩
theorem sl_one{w:World}{g:Nat}{c:VC}{x:Val}(h:Blk w g 32 c.arr)(hr:RW w c x):SL (fun _=>True) w (some ⟨g,0,none⟩) 1 1 [(c,x)]:=by
 refine⟨⟨rfl,qL,fun _=>⟨g,0,rfl,h.lt,fun i a hi j v hj=>?_⟩⟩,by decide,fun _=>⟨g,0,rfl,Ft.top⟩,fun p hp=>?_⟩
 ·cases i with
  | zero=>
   simp at hi
   subst hi
   have:=vat_cell (VAt.of_blk h) j v hj
   simpa using this
  | succ i=>simp at hi
 ·simp at hp
  subst hp
  exact hr
theorem of_eqv(p:PrT)(h:p.op=2)(A:Option Addr)(n c:Nat)(l:List ByteArray)(w:World)(hw:WP w p)(hT:Tabs w)(hl:ST w A n c l)(hp:p.path.xs=l):
 Calls Tryz.prog 14 #[aggPr p,.slice A n c] w (OfOk (leafS 2 p.arg.2 (p.args.xs.map Prod.snd) p.n) p.sz w):=by
 have HE:Hid (∀wr,Below w.heap.size w wr→Calls Tryz.prog 46 #[.slice p.path.A p.path.n p.path.c,.slice A n c] wr fun e w'=>e=.returned (.bool (sameP p.path.xs l))∧Below wr.heap.size wr w'):=qD fun wr hb=>equal_any p.path.xs l p.path.A A p.path.n p.path.c n c wr (hw.open.path.step hb) (hl.step hb)
 rw[sameP_iff.2 hp] at HE
 have HT:=qD hT
 have HSZ:Hid (1≤p.sz):=by rw[Hid,p.sz_eq];omega
 have HX:=qD hw.open.arg
 have HK:Hid (p.arg.1.k=p.arg.2.k):=qD hw.open.arg.open.k
 clear hw hT hl hp
 have B0:Hid (Blk (w.alloc (.cells (arrPr p) 41)) w.heap.size 41 (arrPr p)):=Blk.new_at rfl
 have BE:=qD ((Below.refl w.heap.size w).alloc (qL) (Obj.cells (arrPr p) 41))
 go_enter Tryz.func14,Tryz.ntmps14
 go_upto_region 1 with fail
 change Code.wp _ _ _ _ (w.alloc (.cells (arrPr p) 41))
 generalize w.alloc (.cells (arrPr p) 41)=wa at*
 obtain⟨d0,d1,_,_,_,_,_,_⟩:=pr_cells B0.out
 rw[h] at d0
 go_wp2_with fail
 refine(HE.out _ BE.out).mono ?_
 rintro e w1 ⟨rfl,hb⟩
 replace BE:=qD (BE.out.step' hb)
 replace B0:=qD (B0.out.step hb)
 clear hb d0 d1 HE
 obtain⟨d0,_,_,_,_,_,_,_⟩:=pr_cells B0.out
 rw[h] at d0
 clear h
 have f2:=(range_parg B0.out) 0 _ rfl
 have f3:=(range_parg B0.out) 1 _ rfl
 have f4:=(range_parg B0.out) 2 _ rfl
 have f5:=(range_parg B0.out) 3 _ rfl
 have f6:=(range_parg B0.out) 4 _ rfl
 simp only[Nat.reduceAdd] at f2 f3 f4 f5 f6
 by_cases h6:p.arg.1.k=6
 ·have HL:Hid (leafS 2 p.arg.2 (p.args.xs.map Prod.snd) p.n=(allS,false)):=qD (leafS_none (leafI_eq6 (by rw[←HK.out];exact h6)))
  have k6:(p.arg.1.k != 6)=false:=by simpa using h6
  clear h6
  go_wp2_with fail
  refine(allF_any _).mono ?_
  rintro e w2 ⟨A3,m3,c3,ys,nf,rfl,hy,hnf,hmk,hsi,hb3,hfr⟩
  have HNO:=qD (show OfOk (allS,false) 1 w1 (.returned (.tuple #[.slice A3 m3 c3,.bool false])) w2 from⟨A3,m3,c3,ys,nf,rfl,hy,hnf,hmk,hsi,hb3,hfr⟩)
  clear hy hnf hmk hsi hb3 hfr
  go_wp2_with fail
  go_ret2
  rw[HL.out]
  exact HNO.out.up BE.out HSZ.out
 ·have HL:Hid (leafS 2 p.arg.2 (p.args.xs.map Prod.snd) p.n=((fun a=>inS cmC a (spansL ([p.arg].map fun q=>ptIv q.2))),decide (p.arg.2.k≠2))):=by
   rw[Hid,leafS_some (leafI_eq (by rw[←HK.out];exact h6))]
   rfl
  have k6:(p.arg.1.k != 6)=true:=by simpa using h6
  clear h6
  obtain⟨b2,hb2⟩:∃b,b=decide (p.arg.2.k≠2):=⟨_,rfl⟩
  rw[←hb2] at HL
  have k2:(p.arg.1.k != 2)=b2:=by rw[hb2,HK.out,Bool.eq_iff_iff];simp
  clear hb2
  go_upto_region 11 with fail
  have B:=qD ((Below.refl w1.heap.size w1).drewN 1)
  have KS:Hid (∀w',Below w1.heap.size w1 w'→w'.cell? ⟨w.heap.size,2,none⟩=some (.int .i64 p.arg.1.k)∧w'.cell? ⟨w.heap.size,3,none⟩=some (.int .i64 p.arg.1.n)∧w'.cell? ⟨w.heap.size,4,none⟩=some (.string p.arg.1.t)∧w'.cell? ⟨w.heap.size,5,none⟩=some (.slice p.arg.1.LA p.arg.1.ln p.arg.1.lc)∧w'.cell? ⟨w.heap.size,6,none⟩=some (.slice p.arg.1.DA p.arg.1.dn p.arg.1.dc)):=qD fun w' hb=>⟨(hb.cell (p:=⟨w.heap.size,2,none⟩) B0.out.lt).trans f2,(hb.cell (p:=⟨w.heap.size,3,none⟩) B0.out.lt).trans f3,(hb.cell (p:=⟨w.heap.size,4,none⟩) B0.out.lt).trans f4,(hb.cell (p:=⟨w.heap.size,5,none⟩) B0.out.lt).trans f5,(hb.cell (p:=⟨w.heap.size,6,none⟩) B0.out.lt).trans f6⟩
  clear f2 f3 f4 f5 f6 d0
  go_region_held3 (fun w'=>w'.cell? ⟨w.heap.size,2,none⟩=some (.int .i64 p.arg.1.k)∧w'.cell? ⟨w.heap.size,3,none⟩=some (.int .i64 p.arg.1.n)∧w'.cell? ⟨w.heap.size,4,none⟩=some (.string p.arg.1.t)∧w'.cell? ⟨w.heap.size,5,none⟩=some (.slice p.arg.1.LA p.arg.1.ln p.arg.1.lc)∧w'.cell? ⟨w.heap.size,6,none⟩=some (.slice p.arg.1.DA p.arg.1.dn p.arg.1.dc))
   (first|exact KS.out _ B.out|exact KS.out _ (B.out.alloc B.out.size _)|((try dsimp only);assumption)|go_keep)
   ((go_at_call 48;refine(pointsF_any [p.arg] _ 1 1 _ (HT.out.step (BE.out.step' (B.out.alloc B.out.size _))) (sl_one (Blk.new_at rfl) (HX.out.step (BE.out.step' (B.out.alloc B.out.size _)))) (by omega)).mono ?_;rintro e3 w3 ⟨A3,m3,c3,ys,nf,rfl,hy,hnf,hmk,hsi,hb3,hfr⟩;have HNO:=qD (show OfOk ((fun a=>inS cmC a (spansL ([p.arg].map fun q=>ptIv q.2))),b2) 1 _ (.returned (.tuple #[.slice A3 m3 c3,.bool b2])) w3 from⟨A3,m3,c3,ys,nf,rfl,hy,hnf,hmk,hsi,hb3,hfr⟩);replace HNO:=qD (HNO.out.up (B.out.alloc B.out.size _) (qL));replace B:=qD ((B.out.alloc B.out.size _).step' hb3);clear hy hnf hmk hsi hb3 hfr))
  all_goals
   go_wp2_with fail
   go_ret2
   rw[HL.out]
   exact HNO.out.up BE.out HSZ.out
theorem of_kind(p:PrT)(h:p.op=11)(hn:1≤p.n∧p.n≤11)(A:Option Addr)(n c:Nat)(l:List ByteArray)(w:World)(hw:WP w p)(hT:Tabs w)(hl:ST w A n c l)(hp:p.path.xs=l):
 Calls Tryz.prog 14 #[aggPr p,.slice A n c] w (OfOk (leafS 11 p.arg.2 (p.args.xs.map Prod.snd) p.n) p.sz w):=by
 have HE:Hid (∀wr,Below w.heap.size w wr→Calls Tryz.prog 46 #[.slice p.path.A p.path.n p.path.c,.slice A n c] wr fun e w'=>e=.returned (.bool (sameP p.path.xs l))∧Below wr.heap.size wr w'):=qD fun wr hb=>equal_any p.path.xs l p.path.A A p.path.n p.path.c n c wr (hw.open.path.step hb) (hl.step hb)
 rw[sameP_iff.2 hp] at HE
 have HT:=qD hT
 have HSZ:Hid (1≤p.sz):=by rw[Hid,p.sz_eq];omega
 have HN:=qD hn
 clear hw hT hl hp hn
 have B0:Hid (Blk (w.alloc (.cells (arrPr p) 41)) w.heap.size 41 (arrPr p)):=Blk.new_at rfl
 have BE:=qD ((Below.refl w.heap.size w).alloc (qL) (Obj.cells (arrPr p) 41))
 go_enter Tryz.func14,Tryz.ntmps14
 go_upto_region 1 with fail
 change Code.wp _ _ _ _ (w.alloc (.cells (arrPr p) 41))
 generalize w.alloc (.cells (arrPr p) 41)=wa at*
 obtain⟨d0,d1,_,_,_,_,_,_⟩:=pr_cells B0.out
 rw[h] at d0
 go_wp2_with fail
 refine(HE.out _ BE.out).mono ?_
 rintro e w1 ⟨rfl,hb⟩
 replace BE:=qD (BE.out.step' hb)
 replace B0:=qD (B0.out.step hb)
 clear hb d0 d1 HE
 obtain⟨d0,_,_,_,_,d8,_,_⟩:=pr_cells B0.out
 rw[h] at d0
 clear h
 by_cases h6:p.n=6
 ·have HL:Hid (leafS 11 p.arg.2 (p.args.xs.map Prod.snd) p.n=(allS,false)):=qD (leafS_none (by rw[h6];exact leafI_kind6))
  rw[h6] at d8
  clear h6
  go_wp2_with fail
  refine(kindRange6 w1).mono ?_
  rintro e w2 ⟨rfl,hb⟩
  replace BE:=qD (BE.out.step' hb)
  clear hb B0 d0 d8
  go_upto_region 25 with fail
  change Code.wp _ _ _ _ (w2.alloc (.cells (arrI zI) 93))
  replace BE:=qD (BE.out.alloc BE.out.size (Obj.cells (arrI zI) 93))
  generalize w2.alloc (.cells (arrI zI) 93)=w3 at*
  go_wp2_with fail
  refine(allF_any _).mono ?_
  rintro e w4 ⟨A3,m3,c3,ys,nf,rfl,hy,hnf,hmk,hsi,hb3,hfr⟩
  have HNO:=qD (show OfOk (allS,false) 1 w3 (.returned (.tuple #[.slice A3 m3 c3,.bool false])) w4 from⟨A3,m3,c3,ys,nf,rfl,hy,hnf,hmk,hsi,hb3,hfr⟩)
  clear hy hnf hmk hsi hb3 hfr
  go_wp2_with fail
  go_ret2
  rw[HL.out]
  exact HNO.out.up BE.out HSZ.out
 ·have HL:Hid (leafS 11 p.arg.2 (p.args.xs.map Prod.snd) p.n=((fun a=>inS cmC a (spansL ([rngP p.n].map ivP))),decide (p.n≠2))):=by
   rw[Hid,leafS_some (leafI_kind h6),List.map_singleton,rngP_iv HN.out h6]
  have KR:=qD (kindRange_any p.n w1 HN.out h6)
  clear h6
  obtain⟨b2,hb2⟩:∃b,b=decide (p.n≠2):=⟨_,rfl⟩
  rw[←hb2] at HL
  have k2:(p.n != 2)=b2:=by rw[hb2,Bool.eq_iff_iff];simp
  clear hb2
  have HQ:Hid (∀wq:World,okI wq (rngP p.n)):=qD fun wq=>rngP_ok p.n wq
  go_wp2_with fail
  refine KR.out.mono ?_
  obtain⟨q,hq⟩:∃q,q=rngP p.n:=⟨_,rfl⟩
  rw[←hq] at HL HQ
  rintro e w2 ⟨rfl,hb⟩
  rw[←hq]
  clear hq KR
  replace BE:=qD (BE.out.step' hb)
  replace B0:=qD (B0.out.step hb)
  clear hb d0 d8
  go_upto_region 25 with fail
  change Code.wp _ _ _ _ (w2.alloc (.cells (arrI q) 93))
  have J:Hid (Blk (w2.alloc (.cells (arrI q) 93)) w2.heap.size 93 (arrI q)):=Blk.new_at rfl
  replace BE:=qD (BE.out.alloc BE.out.size (Obj.cells (arrI q) 93))
  replace B0:=qD (B0.out.alloc (.cells (arrI q) 93))
  generalize w2.alloc (.cells (arrI q) 93)=w3 at*
  generalize w2.heap.size=gj at*
  obtain⟨_,_,_,_,_,d8,_,_⟩:=pr_cells B0.out
  go_upto_region 26 with fail
  have B:=qD ((Below.refl w3.heap.size w3).drewN 1)
  obtain⟨⟨a0,a1,a2,a3,a4⟩,⟨b0,b1,b2',b3,b4⟩,b5,b6⟩:=IAt.of_blk J.out
  simp only[Nat.zero_add] at a0 a1 a2 a3 a4 b0 b1 b2' b3 b4 b5 b6
  have KS:Hid (∀w',Below w3.heap.size w3 w'→(fun w'=>w'.cell? ⟨gj,0,none⟩=some (.int .i64 q.1.1.1.k)∧w'.cell? ⟨gj,1,none⟩=some (.int .i64 q.1.1.1.n)∧w'.cell? ⟨gj,2,none⟩=some (.string q.1.1.1.t)∧w'.cell? ⟨gj,3,none⟩=some (.slice q.1.1.1.LA q.1.1.1.ln q.1.1.1.lc)∧w'.cell? ⟨gj,4,none⟩=some (.slice q.1.1.1.DA q.1.1.1.dn q.1.1.1.dc)∧w'.cell? ⟨gj,5,none⟩=some (.int .i64 q.1.2.1.k)∧w'.cell? ⟨gj,6,none⟩=some (.int .i64 q.1.2.1.n)∧w'.cell? ⟨gj,7,none⟩=some (.string q.1.2.1.t)∧w'.cell? ⟨gj,8,none⟩=some (.slice q.1.2.1.LA q.1.2.1.ln q.1.2.1.lc)∧w'.cell? ⟨gj,9,none⟩=some (.slice q.1.2.1.DA q.1.2.1.dn q.1.2.1.dc)∧w'.cell? ⟨gj,10,none⟩=some (.bool q.2.1)∧w'.cell? ⟨gj,11,none⟩=some (.bool q.2.2)∧w'.cell? ⟨w.heap.size,8,none⟩=some (.int .i64 p.n)) w'):=qD fun w' hb=>⟨(hb.cell (p:=⟨gj,0,none⟩) J.out.lt).trans a0,(hb.cell (p:=⟨gj,1,none⟩) J.out.lt).trans a1,(hb.cell (p:=⟨gj,2,none⟩) J.out.lt).trans a2,(hb.cell (p:=⟨gj,3,none⟩) J.out.lt).trans a3,(hb.cell (p:=⟨gj,4,none⟩) J.out.lt).trans a4,(hb.cell (p:=⟨gj,5,none⟩) J.out.lt).trans b0,(hb.cell (p:=⟨gj,6,none⟩) J.out.lt).trans b1,(hb.cell (p:=⟨gj,7,none⟩) J.out.lt).trans b2',(hb.cell (p:=⟨gj,8,none⟩) J.out.lt).trans b3,(hb.cell (p:=⟨gj,9,none⟩) J.out.lt).trans b4,(hb.cell (p:=⟨gj,10,none⟩) J.out.lt).trans b5,(hb.cell (p:=⟨gj,11,none⟩) J.out.lt).trans b6,(hb.cell (p:=⟨w.heap.size,8,none⟩) B0.out.lt).trans d8⟩
  clear a0 a1 a2 a3 a4 b0 b1 b2' b3 b4 b5 b6 d8
  go_region_held3 (fun w'=>w'.cell? ⟨gj,0,none⟩=some (.int .i64 q.1.1.1.k)∧w'.cell? ⟨gj,1,none⟩=some (.int .i64 q.1.1.1.n)∧w'.cell? ⟨gj,2,none⟩=some (.string q.1.1.1.t)∧w'.cell? ⟨gj,3,none⟩=some (.slice q.1.1.1.LA q.1.1.1.ln q.1.1.1.lc)∧w'.cell? ⟨gj,4,none⟩=some (.slice q.1.1.1.DA q.1.1.1.dn q.1.1.1.dc)∧w'.cell? ⟨gj,5,none⟩=some (.int .i64 q.1.2.1.k)∧w'.cell? ⟨gj,6,none⟩=some (.int .i64 q.1.2.1.n)∧w'.cell? ⟨gj,7,none⟩=some (.string q.1.2.1.t)∧w'.cell? ⟨gj,8,none⟩=some (.slice q.1.2.1.LA q.1.2.1.ln q.1.2.1.lc)∧w'.cell? ⟨gj,9,none⟩=some (.slice q.1.2.1.DA q.1.2.1.dn q.1.2.1.dc)∧w'.cell? ⟨gj,10,none⟩=some (.bool q.2.1)∧w'.cell? ⟨gj,11,none⟩=some (.bool q.2.2)∧w'.cell? ⟨w.heap.size,8,none⟩=some (.int .i64 p.n))
   (first|exact KS.out _ B.out|exact KS.out _ (B.out.alloc B.out.size _)|((try dsimp only);assumption)|go_keep)
   ((go_at_call 50;refine(normalF_any [q] _ 1 1 _ (HT.out.step (BE.out.step' (B.out.alloc B.out.size _))) (si_one (Blk.new_at rfl) (HQ.out _)) (by omega)).mono ?_;rintro e3 w5 ⟨A3,m3,c3,ys,nf,rfl,hy,hnf,hmk,hsi,hb3,hfr⟩;have HNO:=qD (show OfOk ((fun a=>inS cmC a (spansL ([q].map ivP))),b2) 1 _ (.returned (.tuple #[.slice A3 m3 c3,.bool b2])) w5 from⟨A3,m3,c3,ys,nf,rfl,hy,hnf,hmk,hsi,hb3,hfr⟩);replace HNO:=qD (HNO.out.up (B.out.alloc B.out.size _) (qL));replace B:=qD ((B.out.alloc B.out.size _).step' hb3);clear hy hnf hmk hsi hb3 hfr))
  all_goals
   go_wp2_with fail
   go_ret2
   rw[HL.out]
   exact HNO.out.up BE.out HSZ.out
theorem pt_nf{x:Val}(h:validV x=true):IsNF (fun a=>inS cmC a (spansL [ptIv x])) [((x,false),(x,true))]:=by
 have hne:(ptIv x).ne=true:=by rw[pt_ne];exact h
 have e:spansL [ptIv x]=[((x,false),(x,true))]:=by unfold spansL;rw[List.filter_cons_of_pos hne];rfl
 refine⟨⟨fun s hs=>?_,by simp⟩,fun a=>by rw[e]⟩
 rw[←e] at hs
 exact spansL_ne s hs
end Go.Proofs.YtfkdihlbaghajaaGreatDoor
