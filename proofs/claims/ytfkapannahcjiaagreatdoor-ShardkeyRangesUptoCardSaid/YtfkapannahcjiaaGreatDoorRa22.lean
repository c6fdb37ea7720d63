/- Parts of the proof, joined: RgSpan, RgSpanN, PrLeaf, BoKind, BoSame, BoLim, BoIn, BoPre. -/
import Derived.Test.YtfkapannahcjiaaGreatDoorRa1
import Derived.Test.YtfkapannahcjiaaGreatDoorRa18
import Derived.Test.YtfkapannahcjiaaGreatDoorRa21
import Derived.Test.YtfkapannahcjiaaGreatDoorRa3
import Derived.Test.YtfkapannahcjiaaGreatDoorRa16
import Derived.Test.YtfkapannahcjiaaGreatDoorRa2
import Derived.Test.YtfkapannahcjiaaGreatDoorRa10
import Derived.Laws.ResultCell
import Derived.Laws.BytesArg
set_option maxRecDepth 100000
set_option maxHeartbeats 16000000
set_option linter.unusedSimpArgs false
namespace Go.Proofs.YtfkapannahcjiaaGreatDoor
open Go.RowKit
theorem span_gen(p:PI)(S1 S2 T1 T2 KL KH:ByteArray)(w:World)(hT:Tabs w)(hp:okI w p)(h1:keyR [p.1.1.2]=(S1,0))(h2:keyR [p.1.2.2]=(S2,0))(hlo:((p.1.1.1.k==1)=true∧p.2.1=true∧KL=ByteArray.empty)∨((p.1.1.1.k==1)=false∧p.2.1=true∧KL=S1)∨((p.1.1.1.k==1)=true∧p.2.1=false∧KL=T1)∨((p.1.1.1.k==1)=false∧p.2.1=false∧KL=T1))(hhi:((p.1.2.1.k==11)=true∧p.2.2=true∧KH=ByteArray.empty)∨((p.1.2.1.k==11)=false∧p.2.2=true∧KH=T2)∨((p.1.2.1.k==11)=true∧p.2.2=false∧KH=S2)∨((p.1.2.1.k==11)=false∧p.2.2=false∧KH=S2))(hA1:∀w,Calls Tryz.prog 67 #[.string S1] w fun e w'=>e=.returned (.tuple #[.string T1,.bool true])∧Below w.heap.size w w')(hA2:∀w,Calls Tryz.prog 67 #[.string S2] w fun e w'=>e=.returned (.tuple #[.string T2,.bool true])∧Below w.heap.size w w'):
 Calls Tryz.prog 24 #[aggI p,.bool false] w fun e w'=>e=.returned (.tuple #[.agg #[.string KL,.string KH],.bool true])∧Below w.heap.size w w':=by
 obtain⟨⟨⟨c1,x1⟩,⟨c2,x2⟩⟩,⟨f1,f2⟩⟩:=p
 have R1:Hid (RW w c1 x1):=hp.1
 have R2:Hid (RW w c2 x2):=hp.2
 have HT:=qD hT
 have HA1:=qD hA1
 have HA2:=qD hA2
 have HK1:Hid (keyR [x1]=(S1,0)):=h1
 have HK2:Hid (keyR [x2]=(S2,0)):=h2
 have HLO:=qD hlo
 have HHI:=qD hhi
 clear hp hT hA1 hA2 h1 h2 hlo hhi
 have hcode1:Hid (∀wr,Below w.heap.size w wr→Calls Tryz.prog 53 #[c1.val] wr fun e w'=>e=.returned (.tuple #[.string S1,.int .i64 0])∧Below wr.heap.size wr w'):=qD fun wr hb=>by
  have:=code_any x1 c1 wr (HT.out.step hb) (R1.out.step hb)
  rw[HK1.out] at this
  exact this
 have hcode2:Hid (∀wr,Below w.heap.size w wr→Calls Tryz.prog 53 #[c2.val] wr fun e w'=>e=.returned (.tuple #[.string S2,.int .i64 0])∧Below wr.heap.size wr w'):=qD fun wr hb=>by
  have:=code_any x2 c2 wr (HT.out.step hb) (R2.out.step hb)
  rw[HK2.out] at this
  exact this
 have B0:Hid (Blk ((w.alloc (.cells (arrI (((c1,x1),(c2,x2)),(f1,f2))) 67)).alloc (.cells #[.string ByteArray.empty,.string ByteArray.empty] 45)) w.heap.size 67 (arrI (((c1,x1),(c2,x2)),(f1,f2)))):=(Blk.new_at rfl).alloc _
 have B1:Hid (Blk ((w.alloc (.cells (arrI (((c1,x1),(c2,x2)),(f1,f2))) 67)).alloc (.cells #[.string ByteArray.empty,.string ByteArray.empty] 45)) (w.heap.size+1) 45 #[.string ByteArray.empty,.string ByteArray.empty]):=Blk.new_at (by simp)
 have BE:Hid (Below w.heap.size w ((w.alloc (.cells (arrI (((c1,x1),(c2,x2)),(f1,f2))) 67)).alloc (.cells #[.string ByteArray.empty,.string ByteArray.empty] 45))):=((Below.refl _ _).alloc (qL) _).alloc (by simp) _
 go_enter Tryz.func24,Tryz.ntmps24
 go_upto_region 1 with fail
 change Code.wp _ _ _ _ ((w.alloc (.cells (arrI (((c1,x1),(c2,x2)),(f1,f2))) 67)).alloc (.cells #[.string ByteArray.empty,.string ByteArray.empty] 45))
 generalize ((w.alloc (.cells (arrI (((c1,x1),(c2,x2)),(f1,f2))) 67)).alloc (.cells #[.string ByteArray.empty,.string ByteArray.empty] 45))=wa at*
 obtain⟨⟨a0,a1,a2,a3,a4⟩,⟨b0,b1,b2,b3,b4⟩,b5,b6⟩:=IAt.of_blk B0.out
 simp only[Nat.zero_add] at a0 a1 a2 a3 a4 b0 b1 b2 b3 b4 b5 b6
 go_wp2_with fail
 refine(hcode1.out _ BE.out).mono ?_
 rintro e w1 ⟨rfl,hb⟩
 replace B0:=qD (B0.out.step hb)
 replace B1:=qD (B1.out.step hb)
 replace BE:=qD (BE.out.step' hb)
 clear hb a0 a1 a2 a3 a4 b0 b1 b2 b3 b4 b5 b6 hcode1
 obtain⟨⟨a0,a1,a2,a3,a4⟩,⟨b0,b1,b2,b3,b4⟩,b5,b6⟩:=IAt.of_blk B0.out
 simp only[Nat.zero_add] at a0 a1 a2 a3 a4 b0 b1 b2 b3 b4 b5 b6
 go_wp2_with fail
 refine(hcode2.out _ BE.out).mono ?_
 rintro e w2 ⟨rfl,hb⟩
 replace B0:=qD (B0.out.step hb)
 replace B1:=qD (B1.out.step hb)
 replace BE:=qD (BE.out.step' hb)
 clear hb a0 a1 a2 a3 a4 b0 b1 b2 b3 b4 b5 b6 hcode2
 obtain⟨⟨a0,a1,a2,a3,a4⟩,⟨b0,b1,b2,b3,b4⟩,b5,b6⟩:=IAt.of_blk B0.out
 simp only[Nat.zero_add] at a0 a1 a2 a3 a4 b0 b1 b2 b3 b4 b5 b6
 have r0:=B1.out.cell 0
 have r1:=B1.out.cell 1
 have rz:=B1.out.frozen
 simp at r0 r1
 rcases HLO.out with⟨kb1,rfl,rfl⟩|⟨kb1,rfl,rfl⟩|⟨kb1,rfl,rfl⟩|⟨kb1,rfl,rfl⟩
 all_goals
  (try simp only at kb1)
  clear HLO
  rcases HHI.out with⟨kb2,rfl,rfl⟩|⟨kb2,rfl,rfl⟩|⟨kb2,rfl,rfl⟩|⟨kb2,rfl,rfl⟩
  all_goals
   (try simp only at kb2)
   clear HHI
   go_wp2_with (go_at_call 67;(first|with_reducible refine(HA1.out _).mono ?_|with_reducible refine(HA2.out _).mono ?_);rintro e w3 ⟨rfl,hb⟩;replace B0:=qD (B0.out.step hb);replace B1:=qD (B1.out.step hb);replace BE:=qD (BE.out.step' hb);clear hb a0 a1 a2 a3 a4 b0 b1 b2 b3 b4 b5 b6 r0 r1 rz;obtain⟨⟨a0,a1,a2,a3,a4⟩,⟨b0,b1,b2,b3,b4⟩,b5,b6⟩:=IAt.of_blk B0.out;simp only[Nat.zero_add] at a0 a1 a2 a3 a4 b0 b1 b2 b3 b4 b5 b6;have r0:=B1.out.cell 0;have r1:=B1.out.cell 1;have rz:=B1.out.frozen;simp at r0 r1)
   refine bodyPost_ret (results_pair_ok rfl _ _ _ rfl _ rfl _ _ _ (((B1.out.set_ 0 _).set_ 1 _).cell 0 |>.trans rfl) (((B1.out.set_ 0 _).set_ 1 _).cell 1 |>.trans rfl)) rfl ⟨rfl,(BE.out.setCell (by show w.heap.size≤w.heap.size+1;omega) _).setCell (by show w.heap.size≤w.heap.size+1;omega) _⟩
theorem cmp_kind{x y:Val}(h:x.k=y.k)(hk:x.k=1∨x.k=11):cmpV x y=0:=by
 rw[cmpV_eq,if_neg (fun k=>k h),if_neg (by omega),if_neg (by omega),if_neg (by omega),if_neg (by omega)]
theorem kind_min{x:Val}(h:validV x=true)(hk:x.k=1):x=vMin:=
 congrArg Prod.fst (lin_cut.eq (x,false) (vMin,false) h valid_min ((cmC_zero (cmp_kind (by rw[hk];rfl) (.inl hk))).trans rfl))
theorem kind_max{x:Val}(h:validV x=true)(hk:x.k=11):x=vMax:=
 congrArg Prod.fst (lin_cut.eq (x,false) (vMax,false) h valid_max ((cmC_zero (cmp_kind (by rw[hk];rfl) (.inr hk))).trans rfl))
theorem strN_str{l:List Int}(h:Rng l):strN (strOfNums l)=l:=str_back h
theorem afterE_list{l t:List Int}(h:Rng l)(ht:afterL l=some t):afterE (strOfNums l)=.returned (.tuple #[.string (strOfNums t),.bool true]):=by
 unfold afterE
 rw[afterB_eq,strN_str h,ht]
 rfl
theorem span_nf(p:PI)(s:Cut×Cut)(w:World)(hT:Tabs w)(hp:okI w p)(hs:ivP p=ivOf s)(v1:VO s.1)(v2:VO s.2):
 Calls Tryz.prog 24 #[aggI p,.bool false] w fun e w'=>e=.returned (.tuple #[.agg #[.string (keyP s).1,.string (keyP s).2],.bool true])∧Below w.heap.size w w':=by
 obtain⟨⟨x1,i1⟩,⟨x2,i2⟩⟩:=s
 obtain⟨⟨⟨c1,y1⟩,⟨c2,y2⟩⟩,⟨f1,f2⟩⟩:=p
 simp only[ivP,ivOf,Iv.mk.injEq] at hs
 obtain⟨rfl,rfl,rfl,rfl⟩:=hs
 obtain⟨t1,ht1⟩:=v1.after
 obtain⟨t2,ht2⟩:=v2.after
 have k1:c1.k=y1.k:=hp.1.open.k
 have k2:c2.k=y2.k:=hp.2.open.k
 have z1:(strOfNums (encV y1)).size≤reach:=by
  have:=(allow_enc (vallow v1.1)).2
  rw[strOfNums_size];unfold reach;simp only at this;omega
 have z2:(strOfNums (encV y2)).size≤reach:=by
  have:=(allow_enc (vallow v2.1)).2
  rw[strOfNums_size];unfold reach;simp only at this;omega
 refine span_gen (((c1,y1),(c2,y2)),(!i1,f2)) (strOfNums (encV y1)) (strOfNums (encV y2)) (strOfNums t1) (strOfNums t2) _ _ w hT hp (keyR_one_yes (vallow v1.1)) (keyR_one_yes (vallow v2.1)) ?_ ?_ (fun w=>?_) (fun w=>?_)
 ·simp only
  rw[k1]
  show _∨_
  by_cases hk:y1.k=1
  ·have hb:(y1.k==1)=true:=by simpa using hk
   cases i1
   ·refine .inl ⟨hb,rfl,?_⟩
    show keyLo (y1,false)=_
    have e:=kind_min (x:=y1) v1.1 hk
    rw[e]
    exact if_pos rfl
   ·refine .inr (.inr (.inl ⟨hb,rfl,?_⟩))
    show keyLo (y1,true)=_
    unfold keyLo
    rw[if_neg (by simp)]
    unfold endL
    rw[if_pos rfl,ht1];rfl
  ·have hb:(y1.k==1)=false:=by simpa using hk
   cases i1
   ·refine .inr (.inl ⟨hb,rfl,?_⟩)
    show keyLo (y1,false)=_
    unfold keyLo
    rw[if_neg (by intro e;simp only[Prod.mk.injEq,and_true] at e;rw[e] at hk;exact hk rfl)]
    rfl
   ·refine .inr (.inr (.inr ⟨hb,rfl,?_⟩))
    show keyLo (y1,true)=_
    unfold keyLo
    rw[if_neg (by simp)]
    unfold endL
    rw[if_pos rfl,ht1];rfl
 ·simp only
  rw[k2]
  by_cases hk:y2.k=11
  ·have hb:(y2.k==11)=true:=by simpa using hk
   cases f2
   ·refine .inr (.inr (.inl ⟨hb,rfl,?_⟩))
    show keyHi (y2,false)=_
    unfold keyHi
    rw[if_neg (by simp)]
    rfl
   ·refine .inl ⟨hb,rfl,?_⟩
    show keyHi (y2,true)=_
    have e:=kind_max (x:=y2) v2.1 hk
    rw[e]
    exact if_pos rfl
  ·have hb:(y2.k==11)=false:=by simpa using hk
   cases f2
   ·refine .inr (.inr (.inr ⟨hb,rfl,?_⟩))
    show keyHi (y2,false)=_
    unfold keyHi
    rw[if_neg (by simp)]
    rfl
   ·refine .inr (.inl ⟨hb,rfl,?_⟩)
    show keyHi (y2,true)=_
    unfold keyHi
    rw[if_neg (by intro e;simp only[Prod.mk.injEq,and_true] at e;rw[e] at hk;exact hk rfl)]
    unfold endL
    rw[if_pos rfl,ht2];rfl
 ·have:=after_any (strOfNums (encV y1)) w z1
  rw[afterE_list v1.rng ht1] at this
  exact this
 ·have:=after_any (strOfNums (encV y2)) w z2
  rw[afterE_list v2.rng ht2] at this
  exact this
theorem enc_hashL(x:Val):encV (intH x)=hashL (hashV x):=by
 rw[encV_eq]
 rfl
theorem hashed_any(x:Val)(c:VC)(w:World)(hT:Tabs w)(h:RW w c x):
 Calls Tryz.prog 66 #[c.val] w fun e w'=>e=.returned (.tuple #[.string (strOfNums (hashL (hashV x))),.int .i64 0])∧Below w.heap.size w w':=by
 have H:=qD h
 have HT:=qD hT
 clear h hT
 obtain⟨hv,hhv⟩:∃hv,hv=hashV x:=⟨_,rfl⟩
 rw[←hhv]
 have HHV:=qD hhv
 clear hhv
 have B0:Hid (Blk (w.alloc (.cells c.arr 29)) w.heap.size 29 c.arr):=Blk.new_at rfl
 have BE:=qD ((Below.refl w.heap.size w).alloc (qL) (Obj.cells c.arr 29))
 go_enter Tryz.func66,Tryz.ntmps66
 go_upto_region 1 with fail
 change Code.wp _ _ _ _ (w.alloc (.cells c.arr 29))
 generalize w.alloc (.cells c.arr 29)=wa at*
 obtain⟨q0,q1,q2,q3,q4⟩:=VAt.of_blk B0.out
 simp only[Nat.zero_add] at q0 q1 q2 q3 q4
 have K1:=qD (hash_any x c wa (HT.out.step BE.out) (H.out.step BE.out))
 rw[←HHV.out] at K1
 have K2:Hid (∀wr,Below w.heap.size w wr→Calls Tryz.prog 53 #[.agg #[.int .i64 3,.int .i64 hv,.string ByteArray.empty,.slice none 0 0,.slice none 0 0]] wr fun e w'=>e=.returned (.tuple #[.string (strOfNums (hashL hv)),.int .i64 0])∧Below wr.heap.size wr w'):=qD fun wr hb=>by
  have:=code_any (intH x) (intC x) wr (HT.out.step hb) (rv_int x)
  rw[keyR_one_yes (vallow (vint x)),enc_hashL] at this
  rw[HHV.out]
  exact this
 go_wp2_with fail
 refine K1.out.mono ?_
 rintro e w1 ⟨rfl,hb⟩
 replace BE:=qD (BE.out.step' hb)
 clear hb q0 q1 q2 q3 q4
 go_wp2_with fail
 refine(K2.out _ BE.out).mono ?_
 rintro e w2 ⟨rfl,hb⟩
 replace BE:=qD (BE.out.step' hb)
 clear hb
 go_wp2_with fail
 go_ret2
 exact⟨rfl,BE.out⟩
theorem span_hash(p:PI)(w:World)(hT:Tabs w)(hp:okI w p):
 Calls Tryz.prog 24 #[aggI p,.bool true] w fun e w'=>e=.returned (.tuple #[.agg #[.string (keyH (hashV p.1.1.2)).1,.string (keyH (hashV p.1.1.2)).2],.bool true])∧Below w.heap.size w w':=by
 obtain⟨⟨⟨c1,x1⟩,⟨c2,x2⟩⟩,⟨f1,f2⟩⟩:=p
 have R1:Hid (RW w c1 x1):=hp.1
 have HT:=qD hT
 clear hp hT
 obtain⟨t,ht⟩:=hash_after (hashV x1)
 have hK:Hid (keyH (hashV x1)=(strOfNums (hashL (hashV x1)),strOfNums t)):=by unfold Hid keyH;rw[ht];rfl
 have hA:Hid (∀w,Calls Tryz.prog 67 #[.string (strOfNums (hashL (hashV x1)))] w fun e w'=>e=.returned (.tuple #[.string (strOfNums t),.bool true])∧Below w.heap.size w w'):=qD fun w=>by
  have:=after_any (strOfNums (hashL (hashV x1))) w (by rw[strOfNums_size];unfold reach hashL;simp[nums,numsTo_len])
  rw[afterE_list (hash_rng _) ht] at this
  exact this
 have hH:Hid (∀wr,Below w.heap.size w wr→Calls Tryz.prog 66 #[c1.val] wr fun e w'=>e=.returned (.tuple #[.string (strOfNums (hashL (hashV x1))),.int .i64 0])∧Below wr.heap.size wr w'):=qD fun wr hb=>hashed_any x1 c1 wr (HT.out.step hb) (R1.out.step hb)
 clear ht
 simp only
 rw[hK.out]
 obtain⟨S1,hS1⟩:∃S,S=strOfNums (hashL (hashV x1)):=⟨_,rfl⟩
 obtain⟨T1,hT1⟩:∃S,S=strOfNums t:=⟨_,rfl⟩
 rw[←hS1] at hH hA ⊢
 rw[←hT1] at hA ⊢
 clear hS1 hT1 hK
 have B0:Hid (Blk ((w.alloc (.cells (arrI (((c1,x1),(c2,x2)),(f1,f2))) 67)).alloc (.cells #[.string ByteArray.empty,.string ByteArray.empty] 45)) w.heap.size 67 (arrI (((c1,x1),(c2,x2)),(f1,f2)))):=(Blk.new_at rfl).alloc _
 have B1:Hid (Blk ((w.alloc (.cells (arrI (((c1,x1),(c2,x2)),(f1,f2))) 67)).alloc (.cells #[.string ByteArray.empty,.string ByteArray.empty] 45)) (w.heap.size+1) 45 #[.string ByteArray.empty,.string ByteArray.empty]):=Blk.new_at (by simp)
 have BE:Hid (Below w.heap.size w ((w.alloc (.cells (arrI (((c1,x1),(c2,x2)),(f1,f2))) 67)).alloc (.cells #[.string ByteArray.empty,.string ByteArray.empty] 45))):=((Below.refl _ _).alloc (qL) _).alloc (by simp) _
 go_enter Tryz.func24,Tryz.ntmps24
 go_upto_region 1 with fail
 change Code.wp _ _ _ _ ((w.alloc (.cells (arrI (((c1,x1),(c2,x2)),(f1,f2))) 67)).alloc (.cells #[.string ByteArray.empty,.string ByteArray.empty] 45))
 generalize ((w.alloc (.cells (arrI (((c1,x1),(c2,x2)),(f1,f2))) 67)).alloc (.cells #[.string ByteArray.empty,.string ByteArray.empty] 45))=wa at*
 obtain⟨⟨a0,a1,a2,a3,a4⟩,_,_,_⟩:=IAt.of_blk B0.out
 simp only[Nat.zero_add] at a0 a1 a2 a3 a4
 go_wp2_with fail
 refine(hH.out _ BE.out).mono ?_
 rintro e w1 ⟨rfl,hb⟩
 replace B1:=qD (B1.out.step hb)
 replace BE:=qD (BE.out.step' hb)
 clear hb a0 a1 a2 a3 a4 hH B0
 go_wp2_with fail
 refine(hA.out _).mono ?_
 rintro e w2 ⟨rfl,hb⟩
 replace B1:=qD (B1.out.step hb)
 replace BE:=qD (BE.out.step' hb)
 clear hb hA
 have r0:=B1.out.cell 0
 have r1:=B1.out.cell 1
 have rz:=B1.out.frozen
 simp at r0 r1
 go_wp2_with fail
 refine bodyPost_ret (results_pair_ok rfl _ _ _ rfl _ rfl _ _ _ (((B1.out.set_ 0 _).set_ 1 _).cell 0 |>.trans rfl) (((B1.out.set_ 0 _).set_ 1 _).cell 1 |>.trans rfl)) rfl ⟨rfl,(BE.out.setCell (by show w.heap.size≤w.heap.size+1;omega) _).setCell (by show w.heap.size≤w.heap.size+1;omega) _⟩
theorem leafS_some{op n:Int}{arg:Val}{args:List Val}{r:List Iv×Bool}(h:leafI op arg args n=some r):leafS op arg args n=(fun a=>inS cmC a (spansL r.1),r.2):=by unfold leafS;rw[h]
theorem leafS_none{op n:Int}{arg:Val}{args:List Val}(h:leafI op arg args n=none):leafS op arg args n=(allS,false):=by unfold leafS;rw[h]
theorem leafI_eq{n:Int}{arg:Val}{args:List Val}(h:arg.k≠6):leafI 2 arg args n=some ([ptIv arg],decide (arg.k≠2)):=by
 unfold leafI
 rw[if_pos rfl,if_neg h]
theorem leafI_eq6{n:Int}{arg:Val}{args:List Val}(h:arg.k=6):leafI 2 arg args n=none:=by
 unfold leafI
 rw[if_pos rfl,if_pos h]
theorem leafI_cmp{op n:Int}{arg:Val}{args:List Val}(ho:op=4∨op=5∨op=6∨op=7)(h:arg.k≠6):leafI op arg args n=some ([limI op arg],decide (arg.k≠2)):=by
 unfold leafI
 rw[if_neg (by omega),if_pos ho,if_neg h]
theorem leafI_cmp6{op n:Int}{arg:Val}{args:List Val}(ho:op=4∨op=5∨op=6∨op=7)(h:arg.k=6):leafI op arg args n=none:=by
 unfold leafI
 rw[if_neg (by omega),if_pos ho,if_pos h]
theorem leafI_in{n:Int}{arg:Val}{args:List Val}(h:¬∃x∈args,x.k=6):leafI 8 arg args n=some (args.map ptIv,decide (¬∃x∈args,x.k=2)):=by
 unfold leafI
 rw[if_neg (by omega),if_neg (by omega),if_pos rfl,if_neg h]
theorem leafI_in6{n:Int}{arg:Val}{args:List Val}(h:∃x∈args,x.k=6):leafI 8 arg args n=none:=by
 unfold leafI
 rw[if_neg (by omega),if_neg (by omega),if_pos rfl,if_pos h]
theorem leafI_pre{n:Int}{arg:Val}{args:List Val}:leafI 16 arg args n=some ([(preI arg).1],(preI arg).2):=by
 unfold leafI
 rw[if_neg (by omega),if_neg (by omega),if_neg (by omega),if_pos rfl]
theorem leafI_kind{n:Int}{arg:Val}{args:List Val}(h:n≠6):leafI 11 arg args n=some ([rangeI n],decide (n≠2)):=by
 unfold leafI
 rw[if_neg (by omega),if_neg (by omega),if_neg (by omega),if_neg (by omega),if_pos rfl,if_neg h]
theorem leafI_kind6{arg:Val}{args:List Val}:leafI 11 arg args 6=none:=by
 unfold leafI
 rw[if_neg (by omega),if_neg (by omega),if_neg (by omega),if_neg (by omega),if_pos rfl,if_pos rfl]
theorem leafI_other{op n:Int}{arg:Val}{args:List Val}(h:op≠2∧op≠4∧op≠5∧op≠6∧op≠7∧op≠8∧op≠16∧op≠11):leafI op arg args n=none:=by
 unfold leafI
 rw[if_neg (by omega),if_neg (by omega),if_neg (by omega),if_neg (by omega),if_neg (by omega)]
abbrev cLf(k n:Int)(t:ByteArray):VC:=⟨k,n,t,none,0,0,none,0,0⟩
theorem rw_leaf(w:World)(k n:Int){t:ByteArray}(h:t.size≤reach):RW w (cLf k n t) (.mk k n t [] []):=
 RVs.shut ⟨rfl,rfl,rfl,h,rfl,qL,by show 0*80≤reach;decide,fun h=>absurd h (by show ¬0<0;omega),rfl,qL,by show 0*96≤reach;decide,fun h=>absurd h (by show ¬0<0;omega)⟩
theorem Blk.cast9{w:World}{g:Nat}{t:TypeId}{cs:Array Value}(h:∃c,Blk w g t c∧c=cs):Blk w g t cs:=by obtain⟨c,h,rfl⟩:=h;exact h
theorem wpl_name{P:Program}{ops:Array Oper}{Q:Exit→Act→World→Prop}{l:List Oper}{a:Act}{w:World}(h:∀w',w'=w→wpList P ops Q l a w'):wpList P ops Q l a w:=h w rfl
theorem iv_there{w:World}{g:Nat}{t:TypeId}{cs:Array Value}(h:Blk w g t cs){o n:Nat}(hz:o+n≤cs.size):w.there g o n:=fun j hj=>by
 refine⟨?_,h.frozen _⟩
 rw[h.cell,Array.getElem?_eq_getElem (by omega)]
 rfl
theorem putLo{w:World}{g:Nat}{p:PI}(h:Blk w g 67 (arrI p))(c:VC)(x:Val):Blk (w.setCells g 0 c.arr.toList) g 67 (arrI (((c,x),p.1.2),p.2)):=Blk.setCells c.list 0 (l:=recI p) h
theorem putHi{w:World}{g:Nat}{p:PI}(h:Blk w g 67 (arrI p))(c:VC)(x:Val):Blk (w.setCells g 5 c.arr.toList) g 67 (arrI ((p.1.1,(c,x)),p.2)):=Blk.setCells c.list 5 (l:=recI p) h
theorem blk_far9{w:World}{g b:Nat}{t:TypeId}{cs:Array Value}(h:Blk w b t cs)(hne:b≠g)(vs:List Value)(o:Nat):Blk (w.setCells g o vs) b t cs:=(heap_setCells g vs o w b hne).trans h
theorem bel_cells9{B:Nat}{a w:World}(h:Below B a w){g:Nat}(hg:B≤g)(vs:List Value)(o:Nat):Below B a (w.setCells g o vs):=by
 induction vs generalizing w o with
 | nil=>exact h
 | cons v r ih=>exact ih (Below.setCell (p:=⟨g,o,none⟩) h hg v) (o+1)
theorem wpl_putHi{ops:Array Oper}{rest:List Oper}{o:Oper}{a:Act}{w W:World}{Q:Exit→Act→World→Prop}{B g g0 g2:Nat}{p:PI}{c:VC}{cs0 cs2:Array Value}(hgd:o.guard=none)(x y:Operand)(ho:o.op=.store 29 x y)(hx:a.eval x=.pointer (some ⟨g,5,none⟩))(hy:a.eval y=.agg c.arr)(h1:Blk w g 67 (arrI p))(h0:Blk w g0 67 cs0)(h2:Blk w g2 29 cs2)(hb:Below B W w)(n0:g0≠g)(n2:g2≠g)(hB:B≤g)(v:Val)(h:∀w6,Blk w6 g 67 (arrI ((p.1.1,(c,v)),p.2))→Blk w6 g0 67 cs0→Blk w6 g2 29 cs2→Below B W w6→wpList Tryz.prog ops Q rest (a.put o.dst undef) w6):wpList Tryz.prog ops Q (o::rest) a w:=
 wpList_store_mid hgd 29 x y ho g 5 c.arr hx hy (iv_there h1 (by simp)) (by kernel_rfl) (by simp[Value.oneCell']) (h _ (putHi h1 c v) (blk_far9 h0 n0 _ _) (blk_far9 h2 n2 _ _) (bel_cells9 hb hB _ _))
theorem wpl_putLo{ops:Array Oper}{rest:List Oper}{o:Oper}{a:Act}{w W:World}{Q:Exit→Act→World→Prop}{B g g0 g2:Nat}{p:PI}{c:VC}{cs0 cs2:Array Value}(hgd:o.guard=none)(x y:Operand)(ho:o.op=.store 29 x y)(hx:a.eval x=.pointer (some ⟨g,0,none⟩))(hy:a.eval y=.agg c.arr)(h1:Blk w g 67 (arrI p))(h0:Blk w g0 67 cs0)(h2:Blk w g2 29 cs2)(hb:Below B W w)(n0:g0≠g)(n2:g2≠g)(hB:B≤g)(v:Val)(h:∀w6,Blk w6 g 67 (arrI (((c,v),p.1.2),p.2))→Blk w6 g0 67 cs0→Blk w6 g2 29 cs2→Below B W w6→wpList Tryz.prog ops Q rest (a.put o.dst undef) w6):wpList Tryz.prog ops Q (o::rest) a w:=
 wpList_store_mid hgd 29 x y ho g 0 c.arr hx hy (iv_there h1 (by simp)) (by kernel_rfl) (by simp[Value.oneCell']) (h _ (putLo h1 c v) (blk_far9 h0 n0 _ _) (blk_far9 h2 n2 _ _) (bel_cells9 hb hB _ _))
theorem wp_name{P:Program}{C:Code}{Q:Exit→Act→World→Prop}{a:Act}{w:World}(h:∀w',w'=w→Code.wp P C Q a w'):Code.wp P C Q a w:=h w rfl
theorem blk_row{w:World}{g:Nat}{t:TypeId}{old:Array Value}(h:Blk w g t old)(cs:Array Value):Blk (w.setRow g cs) g t cs:=setRow_heap w g old cs t (0,0) h
theorem bel_row{B:Nat}{a w:World}(h:Below B a w){g:Nat}(hg:B≤g)(cs:Array Value):Below B a (w.setRow g cs):=
 ⟨h.os,h.tape,h.output,by rw[setRow_size];exact h.size,fun k hk=>(setRow_other w g k cs (by omega)).trans (h.block k hk)⟩
theorem load_iv{w:World}{g:Nat}{cs:Array Value}(h:Blk w g 67 cs)(hz:cs.size=12):(loadVar 67 ⟨g,0,none⟩).run Tryz.prog w=.ok (.agg cs) w:=
 run_loadVar_row w g _ _ cs _ _ h Tryz.underlying67 rfl (by rw[hz];kernel_rfl)
theorem results_ivb{fn:Func}{p u:Tmp}(h:fn.results=#[.cell p 67,.tmp u])(tmps:Array Value)(g:Nat)(h1:tmps.getD p undef=.pointer (some ⟨g,0,none⟩))(e:Value)(h2:tmps.getD u undef=e)(W:World)(R:Array Value)(hz:R.size=12)(q:Blk W g 67 R):(results fn tmps).run Tryz.prog W=.ok (.tuple #[.agg R,e]) W:=by
 rw[results_cell_tmp h,h1,h2]
 simp[asAddr,load_iv q hz]
def rngP(k:Int):PI:=
 if k=3 then(((cLf 3 (-9223372036854775808) ByteArray.empty,.mk 3 (-9223372036854775808) ByteArray.empty [] []),(cLf 3 9223372036854775807 ByteArray.empty,.mk 3 9223372036854775807 ByteArray.empty [] [])),(true,true))
 else if k=4 then(((cLf 4 0 ByteArray.empty,vKd 4),(cLf 5 0 ByteArray.empty,vKd 5)),(true,false))
 else if k=5 then(((cLf 5 0 ByteArray.empty,vKd 5),(cLf 6 0 ByteArray.empty,vKd 6)),(true,false))
 else if k=7 then(((cLf 7 0 ByteArray.empty,vKd 7),(cLf 8 0 zero12,.mk 8 0 zero12 [] [])),(true,false))
 else if k=8 then(((cLf 8 0 zero12,.mk 8 0 zero12 [] []),(cLf 9 0 ByteArray.empty,vKd 9)),(true,false))
 else if k=9 then(((cLf 9 0 ByteArray.empty,vKd 9),(cLf 9 1 ByteArray.empty,.mk 9 1 ByteArray.empty [] [])),(true,true))
 else if k=10 then(((cLf 10 0 ByteArray.empty,vKd 10),(cLf 10 9223372036854775807 ByteArray.empty,.mk 10 9223372036854775807 ByteArray.empty [] [])),(true,true))
 else(((cLf k 0 ByteArray.empty,vKd k),(cLf k 0 ByteArray.empty,vKd k)),(true,true))
theorem rngP_ok(k:Int)(w:World):okI w (rngP k):=by
 have e0:(ByteArray.empty).size≤reach:=by decide
 have e1:zero12.size≤reach:=by decide
 unfold rngP
 repeat' split
 all_goals exact⟨rw_leaf _ _ _ (by assumption),rw_leaf _ _ _ (by assumption)⟩
theorem rngP_iv{k:Int}(h:1≤k∧k≤11)(h6:k≠6):ivP (rngP k)=rangeI k:=by
 have:k=1∨k=2∨k=3∨k=4∨k=5∨k=7∨k=8∨k=9∨k=10∨k=11:=by omega
 rcases this with rfl|rfl|rfl|rfl|rfl|rfl|rfl|rfl|rfl|rfl<;>rfl
abbrev zI:PI:=(((VC.zero,Val.zero),(VC.zero,Val.zero)),(false,false))
def KindOk(k:Int)(w:World)(e:Ending)(w':World):Prop:=e=.returned (.tuple #[aggI (rngP k),.bool true])∧Below w.heap.size w w'
theorem info_b12:(Tryz.prog.info? 5).map (fun i=>(i.zero,i.size,i.bytes))=some (some (.int .u8 0),1,1):=by kernel_rfl
abbrev twelve0:Array Value:=#[.int .u8 0,.int .u8 0,.int .u8 0,.int .u8 0,.int .u8 0,.int .u8 0,.int .u8 0,.int .u8 0,.int .u8 0,.int .u8 0,.int .u8 0,.int .u8 0]
theorem make12(w:World):(Instr.makeSlice 108 (.int .i64 12) (.int .i64 12)).run Tryz.prog w=.ok (.slice (some ⟨w.heap.size,0,none⟩) 12 12) (w.alloc (.cells twelve0 5)):=by
 obtain⟨j0,hj0,hz0,hz1,hz2⟩:=info_parts info_b12
 have:=run_make_rowN (P:=Tryz.prog) 108 5 j0 (.int .u8 0) Tryz.underlying108 hj0 hz0 12 (by rw[hz2];omega) (by omega) w
 rw[hz1,show((12:Nat):Int)=12 from rfl,show madeCells (Value.int .u8 0).cells (12*1)=twelve0 from by kernel_rfl] at this
 exact this
theorem zero12_str:strOfNums [0,0,0,0,0,0,0,0,0,0,0,0]=zero12:=by
 apply ByteArray.ext
 apply Array.toList_inj.1
 rw[strOfNums_data]
 rfl
theorem conv12(w:World):(convert 108 9 (.slice (some ⟨w.heap.size,0,none⟩) 12 12)).run Tryz.prog (w.alloc (.cells twelve0 5))=.ok (.string zero12) (w.alloc (.cells twelve0 5)):=by
 have hb:Blk (w.alloc (.cells twelve0 5)) w.heap.size 5 twelve0:=Blk.new_at rfl
 rw[run_convert_bytes_arg (P:=Tryz.prog) _ 108 5 Tryz.underlying108 Tryz.underlying5 w.heap.size 0 12 12 [0,0,0,0,0,0,0,0,0,0,0,0] rfl (fun i hi=>?_) 9 Tryz.underlying9,zero12_str]
 rw[Nat.zero_add,hb.cell]
 have:i=0∨i=1∨i=2∨i=3∨i=4∨i=5∨i=6∨i=7∨i=8∨i=9∨i=10∨i=11:=by omega
 rcases this with rfl|rfl|rfl|rfl|rfl|rfl|rfl|rfl|rfl|rfl|rfl|rfl<;>rfl
theorem kindRange_any(k:Int)(w:World)(h:1≤k∧k≤11)(h6:k≠6):Calls Tryz.prog 60 #[.int .i64 k] w (KindOk k w):=by
 have hk:k=1∨k=2∨k=3∨k=4∨k=5∨k=7∨k=8∨k=9∨k=10∨k=11:=by omega
 clear h h6
 have HK:=qD hk
 clear hk
 go_enter Tryz.func60,Tryz.ntmps60
 obtain⟨z0,hz0⟩:∃z:PI,z=(((cLf k 0 ByteArray.empty,vKd k),(cLf k 0 ByteArray.empty,vKd k)),(true,true)):=⟨_,rfl⟩
 have B0:Hid (Blk ((w.alloc (.cells (arrI zI) 67)).alloc (.cells (arrI (((cLf k 0 ByteArray.empty,vKd k),(cLf k 0 ByteArray.empty,vKd k)),(true,true))) 67)) w.heap.size 67 (arrI zI)):=(Blk.new_at rfl).alloc _
 have B1:Hid (Blk ((w.alloc (.cells (arrI zI) 67)).alloc (.cells (arrI (((cLf k 0 ByteArray.empty,vKd k),(cLf k 0 ByteArray.empty,vKd k)),(true,true))) 67)) (w.heap.size+1) 67 (arrI (((cLf k 0 ByteArray.empty,vKd k),(cLf k 0 ByteArray.empty,vKd k)),(true,true)))):=Blk.new_at (by simp)
 have BE:Hid (Below w.heap.size w ((w.alloc (.cells (arrI zI) 67)).alloc (.cells (arrI (((cLf k 0 ByteArray.empty,vKd k),(cLf k 0 ByteArray.empty,vKd k)),(true,true))) 67))):=((Below.refl _ _).alloc (qL) _).alloc (by simp) _
 go_upto_region 2 with fail
 change Code.wp _ _ _ _ ((w.alloc (.cells (arrI zI) 67)).alloc (.cells (arrI (((cLf k 0 ByteArray.empty,vKd k),(cLf k 0 ByteArray.empty,vKd k)),(true,true))) 67))
 have hsz:((w.alloc (.cells (arrI zI) 67)).alloc (.cells (arrI (((cLf k 0 ByteArray.empty,vKd k),(cLf k 0 ByteArray.empty,vKd k)),(true,true))) 67)).heap.size=w.heap.size+2:=by simp
 generalize ((w.alloc (.cells (arrI zI) 67)).alloc (.cells (arrI (((cLf k 0 ByteArray.empty,vKd k),(cLf k 0 ByteArray.empty,vKd k)),(true,true))) 67))=wa at*
 have HSZ:=qD hsz
 clear hsz
 have hmk:=make12 wa
 have hcv:=conv12 wa
 go_upto_region 3 with fail
 change Code.wp _ _ _ _ ((wa.alloc (.cells twelve0 5)).alloc (.cells (cLf 8 0 zero12).arr 29))
 have B2:Hid (Blk ((wa.alloc (.cells twelve0 5)).alloc (.cells (cLf 8 0 zero12).arr 29)) (wa.heap.size+1) 29 (cLf 8 0 zero12).arr):=Blk.new_at (by simp)
 replace B0:=qD ((B0.out.alloc (.cells twelve0 5)).alloc (.cells (cLf 8 0 zero12).arr 29))
 replace B1:=qD ((B1.out.alloc (.cells twelve0 5)).alloc (.cells (cLf 8 0 zero12).arr 29))
 replace BE:=qD ((BE.out.alloc BE.out.size (.cells twelve0 5)).alloc (by have:=BE.out.size;simp;omega) (Obj.cells (cLf 8 0 zero12).arr 29))
 have HNE:Hid (wa.heap.size+1≠w.heap.size+1):=by rw[Hid,HSZ.out];omega
 clear hmk hcv
 generalize ((wa.alloc (.cells twelve0 5)).alloc (.cells (cLf 8 0 zero12).arr 29))=wb at*
 clear hz0 z0
 obtain⟨R,hR⟩:∃R:Array Value,R=arrI (rngP k):=⟨_,rfl⟩
 have HR:Hid (aggI (rngP k)=.agg R):=by rw[hR];exact qD rfl
 have hRK:R.size=12:=by rw[hR];rfl
 have HRK:=qD hRK
 have HALL:Hid (R.all (·.oneCell')=true):=by rw[Hid,hR];simp[Value.oneCell']
 have HR2:=qD hR
 have z1:=B1.out.frozen
 clear hR hRK
 have hk:=HK.out
 clear HK
 rcases hk with rfl|rfl|rfl|rfl|rfl|rfl|rfl|rfl|rfl|rfl
 ·obtain⟨e0,e1,e2,e3,e4⟩:=VAt.of_blk B2.out
  simp only[Nat.zero_add] at e0 e1 e2 e3 e4
  obtain⟨⟨a0,a1,a2,a3,a4⟩,⟨b0,b1,b2,b3,b4⟩,b5,b6⟩:=IAt.of_blk B1.out
  simp only[Nat.zero_add] at a0 a1 a2 a3 a4 b0 b1 b2 b3 b4 b5 b6
  go_wp2_with (first
   | ((with_reducible show wpList _ _ _ (⟨_,.load 67 _,_,_,_,_⟩::_) _ _);refine wpl_name ?_;intro w5 hw5;have C1:Hid (Blk w5 (w.heap.size+1) 67 R):=(by rw[Hid,hw5];refine Blk.cast9 (cs:=R) ?_;first|exact⟨_,B1.out,by rw[HR2.out];rfl⟩|exact⟨_,(Blk.set_ B1.out _ _),by rw[HR2.out];rfl⟩|exact⟨_,(Blk.set_ (Blk.set_ B1.out _ _) _ _),by rw[HR2.out];rfl⟩);have C0:Hid (Blk w5 w.heap.size 67 (arrI zI)):=(by rw[Hid,hw5];(repeat' refine Blk.far ?_ (by show w.heap.size≠w.heap.size+1;omega) _);exact B0.out);have CE:Hid (Below w.heap.size w w5):=(by rw[Hid,hw5];(repeat' refine Below.setCell ?_ (by show w.heap.size≤w.heap.size+1;omega) _);exact BE.out);have RG:Hid (w5.rangeAt (w.heap.size+1) 0 R.toList):=range_blk C1.out _ _ fun j v hj=>(by rw[Nat.zero_add,←hj,Array.getElem?_toList]);clear hw5 e0 e1 e2 e3 e4 a0 a1 a2 a3 a4 b0 b1 b2 b3 b4 b5 b6 B0 B1 B2 BE z1;refine wpList_mid_w rfl 67 _ rfl (w.heap.size+1) 0 rfl _ _ RG.out Tryz.underlying67 rfl (by rw[Array.length_toList,HRK.out];kernel_rfl) ?_)
   | ((with_reducible show wpList _ _ _ (⟨_,.store 67 _ _,_,_,_,_⟩::_) _ _);refine wpList_store_row rfl 67 _ _ rfl w.heap.size R rfl rfl 67 _ C0.out (by rw[HRK.out];kernel_rfl) (by rw[HRK.out];rfl) HALL.out ?_))
  exact bodyPost_ret (results_ivb rfl _ _ rfl _ rfl _ R HRK.out (blk_row C0.out R)) rfl ⟨by rw[HR.out];rfl,bel_row CE.out (qL) _⟩
 ·obtain⟨e0,e1,e2,e3,e4⟩:=VAt.of_blk B2.out
  simp only[Nat.zero_add] at e0 e1 e2 e3 e4
  obtain⟨⟨a0,a1,a2,a3,a4⟩,⟨b0,b1,b2,b3,b4⟩,b5,b6⟩:=IAt.of_blk B1.out
  simp only[Nat.zero_add] at a0 a1 a2 a3 a4 b0 b1 b2 b3 b4 b5 b6
  go_wp2_with (first
   | ((with_reducible show wpList _ _ _ (⟨_,.load 67 _,_,_,_,_⟩::_) _ _);refine wpl_name ?_;intro w5 hw5;have C1:Hid (Blk w5 (w.heap.size+1) 67 R):=(by rw[Hid,hw5];refine Blk.cast9 (cs:=R) ?_;first|exact⟨_,B1.out,by rw[HR2.out];rfl⟩|exact⟨_,(Blk.set_ B1.out _ _),by rw[HR2.out];rfl⟩|exact⟨_,(Blk.set_ (Blk.set_ B1.out _ _) _ _),by rw[HR2.out];rfl⟩);have C0:Hid (Blk w5 w.heap.size 67 (arrI zI)):=(by rw[Hid,hw5];(repeat' refine Blk.far ?_ (by show w.heap.size≠w.heap.size+1;omega) _);exact B0.out);have CE:Hid (Below w.heap.size w w5):=(by rw[Hid,hw5];(repeat' refine Below.setCell ?_ (by show w.heap.size≤w.heap.size+1;omega) _);exact BE.out);have RG:Hid (w5.rangeAt (w.heap.size+1) 0 R.toList):=range_blk C1.out _ _ fun j v hj=>(by rw[Nat.zero_add,←hj,Array.getElem?_toList]);clear hw5 e0 e1 e2 e3 e4 a0 a1 a2 a3 a4 b0 b1 b2 b3 b4 b5 b6 B0 B1 B2 BE z1;refine wpList_mid_w rfl 67 _ rfl (w.heap.size+1) 0 rfl _ _ RG.out Tryz.underlying67 rfl (by rw[Array.length_toList,HRK.out];kernel_rfl) ?_)
   | ((with_reducible show wpList _ _ _ (⟨_,.store 67 _ _,_,_,_,_⟩::_) _ _);refine wpList_store_row rfl 67 _ _ rfl w.heap.size R rfl rfl 67 _ C0.out (by rw[HRK.out];kernel_rfl) (by rw[HRK.out];rfl) HALL.out ?_))
  exact bodyPost_ret (results_ivb rfl _ _ rfl _ rfl _ R HRK.out (blk_row C0.out R)) rfl ⟨by rw[HR.out];rfl,bel_row CE.out (qL) _⟩
 ·obtain⟨e0,e1,e2,e3,e4⟩:=VAt.of_blk B2.out
  simp only[Nat.zero_add] at e0 e1 e2 e3 e4
  obtain⟨⟨a0,a1,a2,a3,a4⟩,⟨b0,b1,b2,b3,b4⟩,b5,b6⟩:=IAt.of_blk B1.out
  simp only[Nat.zero_add] at a0 a1 a2 a3 a4 b0 b1 b2 b3 b4 b5 b6
  go_wp2_with (first
   | ((with_reducible show wpList _ _ _ (⟨_,.load 67 _,_,_,_,_⟩::_) _ _);refine wpl_name ?_;intro w5 hw5;have C1:Hid (Blk w5 (w.heap.size+1) 67 R):=(by rw[Hid,hw5];refine Blk.cast9 (cs:=R) ?_;first|exact⟨_,B1.out,by rw[HR2.out];rfl⟩|exact⟨_,(Blk.set_ B1.out _ _),by rw[HR2.out];rfl⟩|exact⟨_,(Blk.set_ (Blk.set_ B1.out _ _) _ _),by rw[HR2.out];rfl⟩);have C0:Hid (Blk w5 w.heap.size 67 (arrI zI)):=(by rw[Hid,hw5];(repeat' refine Blk.far ?_ (by show w.heap.size≠w.heap.size+1;omega) _);exact B0.out);have CE:Hid (Below w.heap.size w w5):=(by rw[Hid,hw5];(repeat' refine Below.setCell ?_ (by show w.heap.size≤w.heap.size+1;omega) _);exact BE.out);have RG:Hid (w5.rangeAt (w.heap.size+1) 0 R.toList):=range_blk C1.out _ _ fun j v hj=>(by rw[Nat.zero_add,←hj,Array.getElem?_toList]);clear hw5 e0 e1 e2 e3 e4 a0 a1 a2 a3 a4 b0 b1 b2 b3 b4 b5 b6 B0 B1 B2 BE z1;refine wpList_mid_w rfl 67 _ rfl (w.heap.size+1) 0 rfl _ _ RG.out Tryz.underlying67 rfl (by rw[Array.length_toList,HRK.out];kernel_rfl) ?_)
   | ((with_reducible show wpList _ _ _ (⟨_,.store 67 _ _,_,_,_,_⟩::_) _ _);refine wpList_store_row rfl 67 _ _ rfl w.heap.size R rfl rfl 67 _ C0.out (by rw[HRK.out];kernel_rfl) (by rw[HRK.out];rfl) HALL.out ?_))
  exact bodyPost_ret (results_ivb rfl _ _ rfl _ rfl _ R HRK.out (blk_row C0.out R)) rfl ⟨by rw[HR.out];rfl,bel_row CE.out (qL) _⟩
 ·obtain⟨e0,e1,e2,e3,e4⟩:=VAt.of_blk B2.out
  simp only[Nat.zero_add] at e0 e1 e2 e3 e4
  obtain⟨⟨a0,a1,a2,a3,a4⟩,⟨b0,b1,b2,b3,b4⟩,b5,b6⟩:=IAt.of_blk B1.out
  simp only[Nat.zero_add] at a0 a1 a2 a3 a4 b0 b1 b2 b3 b4 b5 b6
  go_wp2_with (first
   | ((with_reducible show wpList _ _ _ (⟨_,.store 29 _ _,_,_,_,_⟩::_) _ _);refine wpl_putHi (c:=(cLf 5 0 ByteArray.empty)) rfl _ _ rfl rfl rfl B1.out B0.out B2.out BE.out (by omega) HNE.out (by omega) (vKd 5) ?_;intro w6 hB1 hB0 hB2 hBE;clear B0 B1 B2 BE e0 e1 e2 e3 e4 a0 a1 a2 a3 a4 b0 b1 b2 b3 b4 b5 b6 z1;have B0:=qD hB0;have B1:=qD hB1;have B2:=qD hB2;have BE:=qD hBE;clear hB0 hB1 hB2 hBE;have z1:=B1.out.frozen;obtain⟨e0,e1,e2,e3,e4⟩:=VAt.of_blk B2.out;simp only[Nat.zero_add] at e0 e1 e2 e3 e4;obtain⟨⟨a0,a1,a2,a3,a4⟩,⟨b0,b1,b2,b3,b4⟩,b5,b6⟩:=IAt.of_blk B1.out;simp only[Nat.zero_add] at a0 a1 a2 a3 a4 b0 b1 b2 b3 b4 b5 b6)
   | ((with_reducible show wpList _ _ _ (⟨_,.load 67 _,_,_,_,_⟩::_) _ _);refine wpl_name ?_;intro w5 hw5;have C1:Hid (Blk w5 (w.heap.size+1) 67 R):=(by rw[Hid,hw5];refine Blk.cast9 (cs:=R) ?_;first|exact⟨_,B1.out,by rw[HR2.out];rfl⟩|exact⟨_,(Blk.set_ B1.out _ _),by rw[HR2.out];rfl⟩|exact⟨_,(Blk.set_ (Blk.set_ B1.out _ _) _ _),by rw[HR2.out];rfl⟩);have C0:Hid (Blk w5 w.heap.size 67 (arrI zI)):=(by rw[Hid,hw5];(repeat' refine Blk.far ?_ (by show w.heap.size≠w.heap.size+1;omega) _);exact B0.out);have CE:Hid (Below w.heap.size w w5):=(by rw[Hid,hw5];(repeat' refine Below.setCell ?_ (by show w.heap.size≤w.heap.size+1;omega) _);exact BE.out);have RG:Hid (w5.rangeAt (w.heap.size+1) 0 R.toList):=range_blk C1.out _ _ fun j v hj=>(by rw[Nat.zero_add,←hj,Array.getElem?_toList]);clear hw5 e0 e1 e2 e3 e4 a0 a1 a2 a3 a4 b0 b1 b2 b3 b4 b5 b6 B0 B1 B2 BE z1;refine wpList_mid_w rfl 67 _ rfl (w.heap.size+1) 0 rfl _ _ RG.out Tryz.underlying67 rfl (by rw[Array.length_toList,HRK.out];kernel_rfl) ?_)
   | ((with_reducible show wpList _ _ _ (⟨_,.store 67 _ _,_,_,_,_⟩::_) _ _);refine wpList_store_row rfl 67 _ _ rfl w.heap.size R rfl rfl 67 _ C0.out (by rw[HRK.out];kernel_rfl) (by rw[HRK.out];rfl) HALL.out ?_))
  exact bodyPost_ret (results_ivb rfl _ _ rfl _ rfl _ R HRK.out (blk_row C0.out R)) rfl ⟨by rw[HR.out];rfl,bel_row CE.out (qL) _⟩
 ·obtain⟨e0,e1,e2,e3,e4⟩:=VAt.of_blk B2.out
  simp only[Nat.zero_add] at e0 e1 e2 e3 e4
  obtain⟨⟨a0,a1,a2,a3,a4⟩,⟨b0,b1,b2,b3,b4⟩,b5,b6⟩:=IAt.of_blk B1.out
  simp only[Nat.zero_add] at a0 a1 a2 a3 a4 b0 b1 b2 b3 b4 b5 b6
  go_wp2_with (first
   | ((with_reducible show wpList _ _ _ (⟨_,.store 29 _ _,_,_,_,_⟩::_) _ _);refine wpl_putHi (c:=(cLf 6 0 ByteArray.empty)) rfl _ _ rfl rfl rfl B1.out B0.out B2.out BE.out (by omega) HNE.out (by omega) (vKd 6) ?_;intro w6 hB1 hB0 hB2 hBE;clear B0 B1 B2 BE e0 e1 e2 e3 e4 a0 a1 a2 a3 a4 b0 b1 b2 b3 b4 b5 b6 z1;have B0:=qD hB0;have B1:=qD hB1;have B2:=qD hB2;have BE:=qD hBE;clear hB0 hB1 hB2 hBE;have z1:=B1.out.frozen;obtain⟨e0,e1,e2,e3,e4⟩:=VAt.of_blk B2.out;simp only[Nat.zero_add] at e0 e1 e2 e3 e4;obtain⟨⟨a0,a1,a2,a3,a4⟩,⟨b0,b1,b2,b3,b4⟩,b5,b6⟩:=IAt.of_blk B1.out;simp only[Nat.zero_add] at a0 a1 a2 a3 a4 b0 b1 b2 b3 b4 b5 b6)
   | ((with_reducible show wpList _ _ _ (⟨_,.load 67 _,_,_,_,_⟩::_) _ _);refine wpl_name ?_;intro w5 hw5;have C1:Hid (Blk w5 (w.heap.size+1) 67 R):=(by rw[Hid,hw5];refine Blk.cast9 (cs:=R) ?_;first|exact⟨_,B1.out,by rw[HR2.out];rfl⟩|exact⟨_,(Blk.set_ B1.out _ _),by rw[HR2.out];rfl⟩|exact⟨_,(Blk.set_ (Blk.set_ B1.out _ _) _ _),by rw[HR2.out];rfl⟩);have C0:Hid (Blk w5 w.heap.size 67 (arrI zI)):=(by rw[Hid,hw5];(repeat' refine Blk.far ?_ (by show w.heap.size≠w.heap.size+1;omega) _);exact B0.out);have CE:Hid (Below w.heap.size w w5):=(by rw[Hid,hw5];(repeat' refine Below.setCell ?_ (by show w.heap.size≤w.heap.size+1;omega) _);exact BE.out);have RG:Hid (w5.rangeAt (w.heap.size+1) 0 R.toList):=range_blk C1.out _ _ fun j v hj=>(by rw[Nat.zero_add,←hj,Array.getElem?_toList]);clear hw5 e0 e1 e2 e3 e4 a0 a1 a2 a3 a4 b0 b1 b2 b3 b4 b5 b6 B0 B1 B2 BE z1;refine wpList_mid_w rfl 67 _ rfl (w.heap.size+1) 0 rfl _ _ RG.out Tryz.underlying67 rfl (by rw[Array.length_toList,HRK.out];kernel_rfl) ?_)
   | ((with_reducible show wpList _ _ _ (⟨_,.store 67 _ _,_,_,_,_⟩::_) _ _);refine wpList_store_row rfl 67 _ _ rfl w.heap.size R rfl rfl 67 _ C0.out (by rw[HRK.out];kernel_rfl) (by rw[HRK.out];rfl) HALL.out ?_))
  exact bodyPost_ret (results_ivb rfl _ _ rfl _ rfl _ R HRK.out (blk_row C0.out R)) rfl ⟨by rw[HR.out];rfl,bel_row CE.out (qL) _⟩
 ·obtain⟨e0,e1,e2,e3,e4⟩:=VAt.of_blk B2.out
  simp only[Nat.zero_add] at e0 e1 e2 e3 e4
  obtain⟨⟨a0,a1,a2,a3,a4⟩,⟨b0,b1,b2,b3,b4⟩,b5,b6⟩:=IAt.of_blk B1.out
  simp only[Nat.zero_add] at a0 a1 a2 a3 a4 b0 b1 b2 b3 b4 b5 b6
  go_wp2_with (first
   | ((with_reducible show wpList _ _ _ (⟨_,.store 29 _ _,_,_,_,_⟩::_) _ _);refine wpl_putHi (c:=(cLf 8 0 zero12)) rfl _ _ rfl rfl rfl B1.out B0.out B2.out BE.out (by omega) HNE.out (by omega) (.mk 8 0 zero12 [] []) ?_;intro w6 hB1 hB0 hB2 hBE;clear B0 B1 B2 BE e0 e1 e2 e3 e4 a0 a1 a2 a3 a4 b0 b1 b2 b3 b4 b5 b6 z1;have B0:=qD hB0;have B1:=qD hB1;have B2:=qD hB2;have BE:=qD hBE;clear hB0 hB1 hB2 hBE;have z1:=B1.out.frozen;obtain⟨e0,e1,e2,e3,e4⟩:=VAt.of_blk B2.out;simp only[Nat.zero_add] at e0 e1 e2 e3 e4;obtain⟨⟨a0,a1,a2,a3,a4⟩,⟨b0,b1,b2,b3,b4⟩,b5,b6⟩:=IAt.of_blk B1.out;simp only[Nat.zero_add] at a0 a1 a2 a3 a4 b0 b1 b2 b3 b4 b5 b6)
   | ((with_reducible show wpList _ _ _ (⟨_,.load 67 _,_,_,_,_⟩::_) _ _);refine wpl_name ?_;intro w5 hw5;have C1:Hid (Blk w5 (w.heap.size+1) 67 R):=(by rw[Hid,hw5];refine Blk.cast9 (cs:=R) ?_;first|exact⟨_,B1.out,by rw[HR2.out];rfl⟩|exact⟨_,(Blk.set_ B1.out _ _),by rw[HR2.out];rfl⟩|exact⟨_,(Blk.set_ (Blk.set_ B1.out _ _) _ _),by rw[HR2.out];rfl⟩);have C0:Hid (Blk w5 w.heap.size 67 (arrI zI)):=(by rw[Hid,hw5];(repeat' refine Blk.far ?_ (by show w.heap.size≠w.heap.size+1;omega) _);exact B0.out);have CE:Hid (Below w.heap.size w w5):=(by rw[Hid,hw5];(repeat' refine Below.setCell ?_ (by show w.heap.size≤w.heap.size+1;omega) _);exact BE.out);have RG:Hid (w5.rangeAt (w.heap.size+1) 0 R.toList):=range_blk C1.out _ _ fun j v hj=>(by rw[Nat.zero_add,←hj,Array.getElem?_toList]);clear hw5 e0 e1 e2 e3 e4 a0 a1 a2 a3 a4 b0 b1 b2 b3 b4 b5 b6 B0 B1 B2 BE z1;refine wpList_mid_w rfl 67 _ rfl (w.heap.size+1) 0 rfl _ _ RG.out Tryz.underlying67 rfl (by rw[Array.length_toList,HRK.out];kernel_rfl) ?_)
   | ((with_reducible show wpList _ _ _ (⟨_,.store 67 _ _,_,_,_,_⟩::_) _ _);refine wpList_store_row rfl 67 _ _ rfl w.heap.size R rfl rfl 67 _ C0.out (by rw[HRK.out];kernel_rfl) (by rw[HRK.out];rfl) HALL.out ?_))
  exact bodyPost_ret (results_ivb rfl _ _ rfl _ rfl _ R HRK.out (blk_row C0.out R)) rfl ⟨by rw[HR.out];rfl,bel_row CE.out (qL) _⟩
 ·obtain⟨e0,e1,e2,e3,e4⟩:=VAt.of_blk B2.out
  simp only[Nat.zero_add] at e0 e1 e2 e3 e4
  obtain⟨⟨a0,a1,a2,a3,a4⟩,⟨b0,b1,b2,b3,b4⟩,b5,b6⟩:=IAt.of_blk B1.out
  simp only[Nat.zero_add] at a0 a1 a2 a3 a4 b0 b1 b2 b3 b4 b5 b6
  go_wp2_with (first
   | ((with_reducible show wpList _ _ _ (⟨_,.store 29 _ _,_,_,_,_⟩::_) _ _);refine wpl_putLo (c:=(cLf 8 0 zero12)) rfl _ _ rfl rfl rfl B1.out B0.out B2.out BE.out (by omega) HNE.out (by omega) (.mk 8 0 zero12 [] []) ?_;intro w6 hB1 hB0 hB2 hBE;clear B0 B1 B2 BE e0 e1 e2 e3 e4 a0 a1 a2 a3 a4 b0 b1 b2 b3 b4 b5 b6 z1;have B0:=qD hB0;have B1:=qD hB1;have B2:=qD hB2;have BE:=qD hBE;clear hB0 hB1 hB2 hBE;have z1:=B1.out.frozen;obtain⟨e0,e1,e2,e3,e4⟩:=VAt.of_blk B2.out;simp only[Nat.zero_add] at e0 e1 e2 e3 e4;obtain⟨⟨a0,a1,a2,a3,a4⟩,⟨b0,b1,b2,b3,b4⟩,b5,b6⟩:=IAt.of_blk B1.out;simp only[Nat.zero_add] at a0 a1 a2 a3 a4 b0 b1 b2 b3 b4 b5 b6)
   | ((with_reducible show wpList _ _ _ (⟨_,.store 29 _ _,_,_,_,_⟩::_) _ _);refine wpl_putHi (c:=(cLf 9 0 ByteArray.empty)) rfl _ _ rfl rfl rfl B1.out B0.out B2.out BE.out (by omega) HNE.out (by omega) (vKd 9) ?_;intro w6 hB1 hB0 hB2 hBE;clear B0 B1 B2 BE e0 e1 e2 e3 e4 a0 a1 a2 a3 a4 b0 b1 b2 b3 b4 b5 b6 z1;have B0:=qD hB0;have B1:=qD hB1;have B2:=qD hB2;have BE:=qD hBE;clear hB0 hB1 hB2 hBE;have z1:=B1.out.frozen;obtain⟨e0,e1,e2,e3,e4⟩:=VAt.of_blk B2.out;simp only[Nat.zero_add] at e0 e1 e2 e3 e4;obtain⟨⟨a0,a1,a2,a3,a4⟩,⟨b0,b1,b2,b3,b4⟩,b5,b6⟩:=IAt.of_blk B1.out;simp only[Nat.zero_add] at a0 a1 a2 a3 a4 b0 b1 b2 b3 b4 b5 b6)
   | ((with_reducible show wpList _ _ _ (⟨_,.load 67 _,_,_,_,_⟩::_) _ _);refine wpl_name ?_;intro w5 hw5;have C1:Hid (Blk w5 (w.heap.size+1) 67 R):=(by rw[Hid,hw5];refine Blk.cast9 (cs:=R) ?_;first|exact⟨_,B1.out,by rw[HR2.out];rfl⟩|exact⟨_,(Blk.set_ B1.out _ _),by rw[HR2.out];rfl⟩|exact⟨_,(Blk.set_ (Blk.set_ B1.out _ _) _ _),by rw[HR2.out];rfl⟩);have C0:Hid (Blk w5 w.heap.size 67 (arrI zI)):=(by rw[Hid,hw5];(repeat' refine Blk.far ?_ (by show w.heap.size≠w.heap.size+1;omega) _);exact B0.out);have CE:Hid (Below w.heap.size w w5):=(by rw[Hid,hw5];(repeat' refine Below.setCell ?_ (by show w.heap.size≤w.heap.size+1;omega) _);exact BE.out);have RG:Hid (w5.rangeAt (w.heap.size+1) 0 R.toList):=range_blk C1.out _ _ fun j v hj=>(by rw[Nat.zero_add,←hj,Array.getElem?_toList]);clear hw5 e0 e1 e2 e3 e4 a0 a1 a2 a3 a4 b0 b1 b2 b3 b4 b5 b6 B0 B1 B2 BE z1;refine wpList_mid_w rfl 67 _ rfl (w.heap.size+1) 0 rfl _ _ RG.out Tryz.underlying67 rfl (by rw[Array.length_toList,HRK.out];kernel_rfl) ?_)
   | ((with_reducible show wpList _ _ _ (⟨_,.store 67 _ _,_,_,_,_⟩::_) _ _);refine wpList_store_row rfl 67 _ _ rfl w.heap.size R rfl rfl 67 _ C0.out (by rw[HRK.out];kernel_rfl) (by rw[HRK.out];rfl) HALL.out ?_))
  exact bodyPost_ret (results_ivb rfl _ _ rfl _ rfl _ R HRK.out (blk_row C0.out R)) rfl ⟨by rw[HR.out];rfl,bel_row CE.out (qL) _⟩
 ·obtain⟨e0,e1,e2,e3,e4⟩:=VAt.of_blk B2.out
  simp only[Nat.zero_add] at e0 e1 e2 e3 e4
  obtain⟨⟨a0,a1,a2,a3,a4⟩,⟨b0,b1,b2,b3,b4⟩,b5,b6⟩:=IAt.of_blk B1.out
  simp only[Nat.zero_add] at a0 a1 a2 a3 a4 b0 b1 b2 b3 b4 b5 b6
  go_wp2_with (first
   | ((with_reducible show wpList _ _ _ (⟨_,.load 67 _,_,_,_,_⟩::_) _ _);refine wpl_name ?_;intro w5 hw5;have C1:Hid (Blk w5 (w.heap.size+1) 67 R):=(by rw[Hid,hw5];refine Blk.cast9 (cs:=R) ?_;first|exact⟨_,B1.out,by rw[HR2.out];rfl⟩|exact⟨_,(Blk.set_ B1.out _ _),by rw[HR2.out];rfl⟩|exact⟨_,(Blk.set_ (Blk.set_ B1.out _ _) _ _),by rw[HR2.out];rfl⟩);have C0:Hid (Blk w5 w.heap.size 67 (arrI zI)):=(by rw[Hid,hw5];(repeat' refine Blk.far ?_ (by show w.heap.size≠w.heap.size+1;omega) _);exact B0.out);have CE:Hid (Below w.heap.size w w5):=(by rw[Hid,hw5];(repeat' refine Below.setCell ?_ (by show w.heap.size≤w.heap.size+1;omega) _);exact BE.out);have RG:Hid (w5.rangeAt (w.heap.size+1) 0 R.toList):=range_blk C1.out _ _ fun j v hj=>(by rw[Nat.zero_add,←hj,Array.getElem?_toList]);clear hw5 e0 e1 e2 e3 e4 a0 a1 a2 a3 a4 b0 b1 b2 b3 b4 b5 b6 B0 B1 B2 BE z1;refine wpList_mid_w rfl 67 _ rfl (w.heap.size+1) 0 rfl _ _ RG.out Tryz.underlying67 rfl (by rw[Array.length_toList,HRK.out];kernel_rfl) ?_)
   | ((with_reducible show wpList _ _ _ (⟨_,.store 67 _ _,_,_,_,_⟩::_) _ _);refine wpList_store_row rfl 67 _ _ rfl w.heap.size R rfl rfl 67 _ C0.out (by rw[HRK.out];kernel_rfl) (by rw[HRK.out];rfl) HALL.out ?_))
  exact bodyPost_ret (results_ivb rfl _ _ rfl _ rfl _ R HRK.out (blk_row C0.out R)) rfl ⟨by rw[HR.out];rfl,bel_row CE.out (qL) _⟩
 ·obtain⟨e0,e1,e2,e3,e4⟩:=VAt.of_blk B2.out
  simp only[Nat.zero_add] at e0 e1 e2 e3 e4
  obtain⟨⟨a0,a1,a2,a3,a4⟩,⟨b0,b1,b2,b3,b4⟩,b5,b6⟩:=IAt.of_blk B1.out
  simp only[Nat.zero_add] at a0 a1 a2 a3 a4 b0 b1 b2 b3 b4 b5 b6
  go_wp2_with (first
   | ((with_reducible show wpList _ _ _ (⟨_,.load 67 _,_,_,_,_⟩::_) _ _);refine wpl_name ?_;intro w5 hw5;have C1:Hid (Blk w5 (w.heap.size+1) 67 R):=(by rw[Hid,hw5];refine Blk.cast9 (cs:=R) ?_;first|exact⟨_,B1.out,by rw[HR2.out];rfl⟩|exact⟨_,(Blk.set_ B1.out _ _),by rw[HR2.out];rfl⟩|exact⟨_,(Blk.set_ (Blk.set_ B1.out _ _) _ _),by rw[HR2.out];rfl⟩);have C0:Hid (Blk w5 w.heap.size 67 (arrI zI)):=(by rw[Hid,hw5];(repeat' refine Blk.far ?_ (by show w.heap.size≠w.heap.size+1;omega) _);exact B0.out);have CE:Hid (Below w.heap.size w w5):=(by rw[Hid,hw5];(repeat' refine Below.setCell ?_ (by show w.heap.size≤w.heap.size+1;omega) _);exact BE.out);have RG:Hid (w5.rangeAt (w.heap.size+1) 0 R.toList):=range_blk C1.out _ _ fun j v hj=>(by rw[Nat.zero_add,←hj,Array.getElem?_toList]);clear hw5 e0 e1 e2 e3 e4 a0 a1 a2 a3 a4 b0 b1 b2 b3 b4 b5 b6 B0 B1 B2 BE z1;refine wpList_mid_w rfl 67 _ rfl (w.heap.size+1) 0 rfl _ _ RG.out Tryz.underlying67 rfl (by rw[Array.length_toList,HRK.out];kernel_rfl) ?_)
   | ((with_reducible show wpList _ _ _ (⟨_,.store 67 _ _,_,_,_,_⟩::_) _ _);refine wpList_store_row rfl 67 _ _ rfl w.heap.size R rfl rfl 67 _ C0.out (by rw[HRK.out];kernel_rfl) (by rw[HRK.out];rfl) HALL.out ?_))
  exact bodyPost_ret (results_ivb rfl _ _ rfl _ rfl _ R HRK.out (blk_row C0.out R)) rfl ⟨by rw[HR.out];rfl,bel_row CE.out (qL) _⟩
 ·obtain⟨e0,e1,e2,e3,e4⟩:=VAt.of_blk B2.out
  simp only[Nat.zero_add] at e0 e1 e2 e3 e4
  obtain⟨⟨a0,a1,a2,a3,a4⟩,⟨b0,b1,b2,b3,b4⟩,b5,b6⟩:=IAt.of_blk B1.out
  simp only[Nat.zero_add] at a0 a1 a2 a3 a4 b0 b1 b2 b3 b4 b5 b6
  go_wp2_with (first
   | ((with_reducible show wpList _ _ _ (⟨_,.load 67 _,_,_,_,_⟩::_) _ _);refine wpl_name ?_;intro w5 hw5;have C1:Hid (Blk w5 (w.heap.size+1) 67 R):=(by rw[Hid,hw5];refine Blk.cast9 (cs:=R) ?_;first|exact⟨_,B1.out,by rw[HR2.out];rfl⟩|exact⟨_,(Blk.set_ B1.out _ _),by rw[HR2.out];rfl⟩|exact⟨_,(Blk.set_ (Blk.set_ B1.out _ _) _ _),by rw[HR2.out];rfl⟩);have C0:Hid (Blk w5 w.heap.size 67 (arrI zI)):=(by rw[Hid,hw5];(repeat' refine Blk.far ?_ (by show w.heap.size≠w.heap.size+1;omega) _);exact B0.out);have CE:Hid (Below w.heap.size w w5):=(by rw[Hid,hw5];(repeat' refine Below.setCell ?_ (by show w.heap.size≤w.heap.size+1;omega) _);exact BE.out);have RG:Hid (w5.rangeAt (w.heap.size+1) 0 R.toList):=range_blk C1.out _ _ fun j v hj=>(by rw[Nat.zero_add,←hj,Array.getElem?_toList]);clear hw5 e0 e1 e2 e3 e4 a0 a1 a2 a3 a4 b0 b1 b2 b3 b4 b5 b6 B0 B1 B2 BE z1;refine wpList_mid_w rfl 67 _ rfl (w.heap.size+1) 0 rfl _ _ RG.out Tryz.underlying67 rfl (by rw[Array.length_toList,HRK.out];kernel_rfl) ?_)
   | ((with_reducible show wpList _ _ _ (⟨_,.store 67 _ _,_,_,_,_⟩::_) _ _);refine wpList_store_row rfl 67 _ _ rfl w.heap.size R rfl rfl 67 _ C0.out (by rw[HRK.out];kernel_rfl) (by rw[HRK.out];rfl) HALL.out ?_))
  exact bodyPost_ret (results_ivb rfl _ _ rfl _ rfl _ R HRK.out (blk_row C0.out R)) rfl ⟨by rw[HR.out];rfl,bel_row CE.out (qL) _⟩
theorem vequal_any(x y:Val)(c d:VC)(w:World)(h:RW w c x)(h':RW w d y):Calls Tryz.prog 23 #[c.val,d.val] w fun e w'=>e=.returned (.bool (cmpV x y==0))∧Below w.heap.size w w':=by
 have H:=qD h
 have H':=qD h'
 clear h h'
 go_enter Tryz.func23,Tryz.ntmps23
 go_wp2_with fail
 refine(cmp_any x y c d _ ((H.out.alloc _).alloc _) ((H'.out.alloc _).alloc _)).mono ?_
 rintro e w1 ⟨rfl,hb⟩
 go_wp2_with fail
 go_ret
 exact⟨rfl,(((Below.refl _ _).alloc (qL) _).alloc (by simp) _).step' hb⟩
def sameIv(x y:Iv):Bool:=(x.li==y.li)&&((x.hin==y.hin)&&((cmpV x.lo y.lo==0)&&(cmpV x.hi y.hi==0)))
def sameIvs:List Iv→List Iv→Bool
 | [],[]=>true
 | x::r,y::s=>sameIv x y&&sameIvs r s
 | _,_=>false
theorem sameIvs_len:∀{l m:List Iv},l.length≠m.length→sameIvs l m=false
 | [],[],h=>absurd rfl h
 | [],_::_,_=>rfl
 | _::_,[],_=>rfl
 | x::r,y::s,h=>by rw[sameIvs,sameIvs_len (by simpa using h),Bool.and_false]
theorem sameIvs_at{l m:List Iv}{i:Nat}{x y:Iv}(hx:l[i]?=some x)(hy:m[i]?=some y):sameIvs (l.drop i) (m.drop i)=(sameIv x y&&sameIvs (l.drop (i+1)) (m.drop (i+1))):=by rw[drop_of hx,drop_of hy,sameIvs]
theorem sameIvs_end{l m:List Iv}{i:Nat}(h1:l.length≤i)(h2:m.length≤i):sameIvs (l.drop i) (m.drop i)=true:=by rw[List.drop_of_length_le h1,List.drop_of_length_le h2];rfl
theorem sameIv_iff{s t:Cut×Cut}(hs:VC1 s.1∧VC1 s.2)(ht:VC1 t.1∧VC1 t.2):sameIv (ivOf s) (ivOf t)=true↔s=t:=by
 obtain⟨⟨a,b⟩,⟨c,d⟩⟩:=s
 obtain⟨⟨a',b'⟩,⟨c',d'⟩⟩:=t
 unfold sameIv ivOf
 simp only[Bool.and_eq_true,beq_iff_eq]
 constructor
 ·rintro⟨h1,h2,h3,h4⟩
  have e1:a=a':=congrArg Prod.fst (lin_cut.eq (a,false) (a',false) hs.1 ht.1 ((cmC_zero h3).trans rfl))
  have e2:c=c':=congrArg Prod.fst (lin_cut.eq (c,false) (c',false) hs.2 ht.2 ((cmC_zero h4).trans rfl))
  have e3:b=b':=by cases b<;>cases b'<;>simp at h1 ⊢
  rw[e1,e2,e3,h2]
 ·intro e
  simp only[Prod.mk.injEq] at e
  obtain⟨⟨rfl,rfl⟩,⟨rfl,rfl⟩⟩:=e
  have z:∀v:Val,cmpV v v=0:=fun v=>by have:=cmpV_anti v v;omega
  exact⟨rfl,rfl,z _,z _⟩
theorem sameIvs_iff:∀{n m:List (Cut×Cut)},(∀s∈n,VC1 s.1∧VC1 s.2)→(∀s∈m,VC1 s.1∧VC1 s.2)→(sameIvs (n.map ivOf) (m.map ivOf)=true↔n=m)
 | [],[],_,_=>by simp[sameIvs]
 | [],_::_,_,_=>by simp[sameIvs]
 | _::_,[],_,_=>by simp[sameIvs]
 | s::r,t::q,h1,h2=>by
  simp only[List.map_cons,sameIvs,Bool.and_eq_true]
  rw[sameIv_iff (h1 s (by simp)) (h2 t (by simp)),sameIvs_iff (fun x hx=>h1 x (by simp[hx])) (fun x hx=>h2 x (by simp[hx])),List.cons.injEq]
theorem sameIv1_any(p q:PI)(w:World)(hp:okI w p)(hq:okI w q):Calls Tryz.prog 178 #[aggI p,aggI q] w fun e w'=>e=.returned (.bool (sameIv (ivP p) (ivP q)))∧Below w.heap.size w w':=by
 have HK1:Hid (∀wr,Below w.heap.size w wr→Calls Tryz.prog 23 #[p.1.1.1.val,q.1.1.1.val] wr fun e w'=>e=.returned (.bool (cmpV p.1.1.2 q.1.1.2==0))∧Below wr.heap.size wr w'):=qD fun wr hb=>vequal_any _ _ _ _ wr (hp.1.step hb) (hq.1.step hb)
 have HK2:Hid (∀wr,Below w.heap.size w wr→Calls Tryz.prog 23 #[p.1.2.1.val,q.1.2.1.val] wr fun e w'=>e=.returned (.bool (cmpV p.1.2.2 q.1.2.2==0))∧Below wr.heap.size wr w'):=qD fun wr hb=>vequal_any _ _ _ _ wr (hp.2.step hb) (hq.2.step hb)
 have HS:Hid (sameIv (ivP p) (ivP q)=((p.2.1==q.2.1)&&((p.2.2==q.2.2)&&((cmpV p.1.1.2 q.1.1.2==0)&&(cmpV p.1.2.2 q.1.2.2==0))))):=qD rfl
 obtain⟨z1,hz1⟩:∃z,z=(cmpV p.1.1.2 q.1.1.2==0):=⟨_,rfl⟩
 obtain⟨z2,hz2⟩:∃z,z=(cmpV p.1.2.2 q.1.2.2==0):=⟨_,rfl⟩
 rw[←hz1] at HK1 HS
 rw[←hz2] at HK2 HS
 clear hz1 hz2 hp hq
 obtain⟨⟨⟨c1,x1⟩,⟨c2,x2⟩⟩,⟨f1,f2⟩⟩:=p
 obtain⟨⟨⟨e1,y1⟩,⟨e2,y2⟩⟩,⟨g1,g2⟩⟩:=q
 have B0:Hid (Blk ((w.alloc (.cells (arrI (((c1,x1),(c2,x2)),(f1,f2))) 67)).alloc (.cells (arrI (((e1,y1),(e2,y2)),(g1,g2))) 67)) w.heap.size 67 (arrI (((c1,x1),(c2,x2)),(f1,f2)))):=(Blk.new_at rfl).alloc _
 have B1:Hid (Blk ((w.alloc (.cells (arrI (((c1,x1),(c2,x2)),(f1,f2))) 67)).alloc (.cells (arrI (((e1,y1),(e2,y2)),(g1,g2))) 67)) (w.heap.size+1) 67 (arrI (((e1,y1),(e2,y2)),(g1,g2)))):=Blk.new_at (by simp)
 have BE:Hid (Below w.heap.size w ((w.alloc (.cells (arrI (((c1,x1),(c2,x2)),(f1,f2))) 67)).alloc (.cells (arrI (((e1,y1),(e2,y2)),(g1,g2))) 67))):=((Below.refl _ _).alloc (qL) _).alloc (by simp) _
 go_enter Tryz.func178,Tryz.ntmps178
 go_upto_region 1 with fail
 change Code.wp _ _ _ _ ((w.alloc (.cells (arrI (((c1,x1),(c2,x2)),(f1,f2))) 67)).alloc (.cells (arrI (((e1,y1),(e2,y2)),(g1,g2))) 67))
 generalize ((w.alloc (.cells (arrI (((c1,x1),(c2,x2)),(f1,f2))) 67)).alloc (.cells (arrI (((e1,y1),(e2,y2)),(g1,g2))) 67))=wa at*
 obtain⟨⟨a0,a1,a2,a3,a4⟩,⟨b0,b1,b2,b3,b4⟩,b5,b6⟩:=IAt.of_blk B0.out
 obtain⟨⟨c0,c3,c4,c5,c6⟩,⟨d0,d1,d2,d3,d4⟩,d5,d6⟩:=IAt.of_blk B1.out
 simp only[Nat.zero_add] at a0 a1 a2 a3 a4 b0 b1 b2 b3 b4 b5 b6 c0 c3 c4 c5 c6 d0 d1 d2 d3 d4 d5 d6
 obtain⟨u1,hu1⟩:∃u,u=(f1==g1):=⟨_,rfl⟩
 obtain⟨u2,hu2⟩:∃u,u=(f2==g2):=⟨_,rfl⟩
 simp only at HS
 rw[←hu1,←hu2] at HS
 replace hu1:=hu1.symm
 replace hu2:=hu2.symm
 cases u1
 ·go_wp2_with fail
  go_ret
  exact⟨by rw[HS.out];rfl,BE.out⟩
 cases u2
 ·go_wp2_with fail
  go_ret
  exact⟨by rw[HS.out];rfl,BE.out⟩
 go_wp2_with (fail)
 refine(HK1.out _ BE.out).mono ?_
 rintro e w1 ⟨rfl,hb⟩
 replace B0:=qD (B0.out.step hb)
 replace B1:=qD (B1.out.step hb)
 replace BE:=qD (BE.out.step' hb)
 clear hb a0 a1 a2 a3 a4 b0 b1 b2 b3 b4 b5 b6 c0 c3 c4 c5 c6 d0 d1 d2 d3 d4 d5 d6
 obtain⟨⟨a0,a1,a2,a3,a4⟩,⟨b0,b1,b2,b3,b4⟩,b5,b6⟩:=IAt.of_blk B0.out
 obtain⟨⟨c0,c3,c4,c5,c6⟩,⟨d0,d1,d2,d3,d4⟩,d5,d6⟩:=IAt.of_blk B1.out
 simp only[Nat.zero_add] at a0 a1 a2 a3 a4 b0 b1 b2 b3 b4 b5 b6 c0 c3 c4 c5 c6 d0 d1 d2 d3 d4 d5 d6
 cases z1
 ·go_wp2_with fail
  go_ret
  exact⟨by rw[HS.out];rfl,BE.out⟩
 go_wp2_with (fail)
 refine(HK2.out _ BE.out).mono ?_
 rintro e w1 ⟨rfl,hb⟩
 replace BE:=qD (BE.out.step' hb)
 clear hb a0 a1 a2 a3 a4 b0 b1 b2 b3 b4 b5 b6 c0 c3 c4 c5 c6 d0 d1 d2 d3 d4 d5 d6
 go_wp2_with fail
 go_ret
 exact⟨by rw[HS.out];rfl,BE.out⟩
theorem eqIvs_any(xs ys:List PI)(A B:Option Addr)(n c m d:Nat)(w:World)(h:SI w A n c xs)(h':SI w B m d ys):
 Calls Tryz.prog 177 #[.slice A n c,.slice B m d,.func (.func 178) #[] #[]] w fun e w'=>e=.returned (.bool (sameIvs (xs.map ivP) (ys.map ivP)))∧Below w.heap.size w w':=by
 have hz:n≤140737488355328:=by have:=h.sz;unfold reach at this;omega
 have hk:m≤140737488355328:=by have:=h'.sz;unfold reach at this;omega
 have H:=qD h
 have H':=qD h'
 clear h h'
 by_cases hnk:n=m
 ·subst hnk
  go_enter Tryz.func177,Tryz.ntmps177
  go_upto_region 4 with fail
  go_loopw [17] (fun v wr=>∃i:Nat,i≤n∧v=.int .i64 i∧sameIvs (xs.map ivP) (ys.map ivP)=sameIvs ((xs.map ivP).drop i) ((ys.map ivP).drop i)∧Below w.heap.size w wr) (fun v _=>n-(intOf v).toNat)
  case atStart=>exact⟨0,Nat.zero_le _,rfl,rfl,Below.refl _ _⟩
  case round=>
   obtain⟨i,hi,rfl,ha,hbel⟩:=hrel
   have HA:=qD ha
   have HB:=qD hbel
   clear ha hbel
   by_cases hlt:i<n
   ·obtain⟨p,hp⟩:∃p,xs[i]?=some p:=⟨_,List.getElem?_eq_getElem (by have:=H.out.sr.ln;omega)⟩
    obtain⟨q,hq⟩:∃q,ys[i]?=some q:=⟨_,List.getElem?_eq_getElem (by have:=H'.out.sr.ln;omega)⟩
    obtain⟨b,off,rfl,hb,hat,hok⟩:=H.out.at hp
    obtain⟨b',off',rfl,hb',hat',hok'⟩:=H'.out.at hq
    have HX:=qD (sameIvs_at (l:=xs.map ivP) (m:=ys.map ivP) (i:=i) (x:=ivP p) (y:=ivP q) (by rw[List.getElem?_map,hp];rfl) (by rw[List.getElem?_map,hq];rfl))
    have HC:=qD fun wz (hz:Below w.heap.size w wz)=>sameIv1_any p q wz (hok.step hz) (hok'.step hz)
    obtain⟨⟨a0,a1,a2,a3,a4⟩,⟨b0,b1,b2,b3,b4⟩,b5,b6⟩:=hat.keep (HB.out.block b hb)
    go_upto_region 6 with fail
    change Code.wp _ _ _ _ (wr.alloc (.cells (arrI p) 67))
    have B0:Hid (Blk (wr.alloc (.cells (arrI p) 67)) wr.heap.size 67 (arrI p)):=Blk.new_at rfl
    have BE:Hid (Below w.heap.size w (wr.alloc (.cells (arrI p) 67))):=HB.out.alloc HB.out.size _
    have hat2:=hat'.keep (w':=wr.alloc (.cells (arrI p) 67)) (BE.out.block b' hb')
    generalize hwz:wr.alloc (.cells (arrI p) 67)=wz at*
    clear hwz a0 a1 a2 a3 a4 b0 b1 b2 b3 b4 b5 b6
    obtain⟨⟨c0,c3,c4,c5,c6⟩,⟨d0,d1,d2,d3,d4⟩,d5,d6⟩:=hat2
    clear hat hat' hok hok' hp hq
    generalize wr.heap.size=gz at*
    go_upto_region 7 with fail
    change Code.wp _ _ _ _ (wz.alloc (.cells (arrI q) 67))
    have B1:Hid (Blk (wz.alloc (.cells (arrI q) 67)) wz.heap.size 67 (arrI q)):=Blk.new_at rfl
    replace B0:=qD (B0.out.alloc (.cells (arrI q) 67))
    replace BE:=qD (BE.out.alloc BE.out.size (Obj.cells (arrI q) 67))
    generalize wz.alloc (.cells (arrI q) 67)=wa at*
    clear c0 c3 c4 c5 c6 d0 d1 d2 d3 d4 d5 d6
    obtain⟨⟨a0,a1,a2,a3,a4⟩,⟨b0,b1,b2,b3,b4⟩,b5,b6⟩:=IAt.of_blk B0.out
    obtain⟨⟨c0,c3,c4,c5,c6⟩,⟨d0,d1,d2,d3,d4⟩,d5,d6⟩:=IAt.of_blk B1.out
    simp only[Nat.zero_add] at a0 a1 a2 a3 a4 b0 b1 b2 b3 b4 b5 b6 c0 c3 c4 c5 c6 d0 d1 d2 d3 d4 d5 d6
    generalize wz.heap.size=gy at*
    go_wp2_with fail
    refine(HC.out _ BE.out).mono ?_
    rintro e w1 ⟨rfl,hb1⟩
    have CE:=qD (BE.out.step' hb1)
    clear hb1 a0 a1 a2 a3 a4 b0 b1 b2 b3 b4 b5 b6 c0 c3 c4 c5 c6 d0 d1 d2 d3 d4 d5 d6
    obtain⟨z,hz'⟩:∃z,z=sameIv (ivP p) (ivP q):=⟨_,rfl⟩
    rw[←hz'] at HX ⊢
    clear hz'
    cases z
    ·have HF:Hid (sameIvs (xs.map ivP) (ys.map ivP)=false):=by rw[Hid,HA.out,HX.out];rfl
     go_wp2_with fail
     go_ret
     exact⟨by rw[HF.out];rfl,CE.out⟩
    ·have HF:Hid (sameIvs (xs.map ivP) (ys.map ivP)=sameIvs ((xs.map ivP).drop (i+1)) ((ys.map ivP).drop (i+1))):=by rw[Hid,HA.out,HX.out];rfl
     go_wp2_with fail
     go_roundw
     case rel=>exact⟨i+1,by omega,by go_num,HF.out,CE.out⟩
     case measure=>simp[intOf];omega
   ·have HF:Hid (sameIvs (xs.map ivP) (ys.map ivP)=true):=by rw[Hid,HA.out];exact sameIvs_end (by have:=H.out.sr.ln;simp;omega) (by have:=H'.out.sr.ln;simp;omega)
    go_wp2_with fail
    go_ret
    exact⟨by rw[HF.out];rfl,HB.out⟩
 ·have HF:Hid (sameIvs (xs.map ivP) (ys.map ivP)=false):=sameIvs_len (by have:=H.out.sr.ln;have:=H'.out.sr.ln;simp;omega)
  have hnk':((n:Int) != (m:Int))=true:=by simp;omega
  go_enter Tryz.func177,Tryz.ntmps177
  go_wp2_with fail
  go_ret
  exact⟨by rw[HF.out];rfl,Below.refl _ _⟩
theorem sameIvs_any(xs ys:List PI)(A B:Option Addr)(n c m d:Nat)(w:World)(h:SI w A n c xs)(h':SI w B m d ys):
 Calls Tryz.prog 142 #[.slice A n c,.slice B m d] w fun e w'=>e=.returned (.bool (sameIvs (xs.map ivP) (ys.map ivP)))∧Below w.heap.size w w':=by
 have H:=qD (eqIvs_any xs ys A B n c m d w h h')
 clear h h'
 go_enter Tryz.func142,Tryz.ntmps142
 go_wp2_with fail
 refine H.out.mono ?_
 rintro e w1 ⟨rfl,hb⟩
 have HB:=qD hb
 clear hb
 go_wp2_with fail
 go_ret
 exact⟨rfl,HB.out⟩
theorem isAll_any{S:Cut→Prop}{nf:List (Cut×Cut)}(xs:List PI)(A:Option Addr)(n c:Nat)(w:World)(h:SI w A n c xs)(hx:xs.map ivP=nf.map ivOf)(hn:IsNF S nf):
 Calls Tryz.prog 109 #[.slice A n c] w fun e w'=>e=.returned (.bool (isAllB S))∧Below w.heap.size w w':=by
 have H:=qD h
 have HX:=qD hx
 have HN:=qD hn
 clear h hx hn
 go_enter Tryz.func109,Tryz.ntmps109
 go_wp2_with fail
 refine(all_any w).mono ?_
 rintro e w1 ⟨A1,m1,c1,ys,n1,rfl,hy,hn1,_,hsi,hb⟩
 have HB:=qD hb
 have HS:Hid (sameIvs (xs.map ivP) (ys.map ivP)=isAllB S):=by
  have e1:n1=[((vMin,false),(vMax,true))]:=hn1.unique all_nf fun _ _=>Iff.rfl
  rw[Hid,HX.out,hy,Bool.eq_iff_iff,sameIvs_iff (fun s hs=>(HN.out.1.ne s hs).2) (fun s hs=>(hn1.1.ne s hs).2),e1]
  exact nf_isAll HN.out
 have HC:=qD (sameIvs_any xs ys A A1 n c m1 c1 w1 (H.out.step hb) hsi)
 rw[HS.out] at HC
 clear hb hy hn1 hsi HS
 go_wp2_with fail
 refine HC.out.mono ?_
 rintro e w2 ⟨rfl,hb⟩
 have CE:=qD (HB.out.step' hb)
 clear hb
 go_wp2_with fail
 go_ret
 exact⟨rfl,CE.out⟩
def limP(op:Int)(q:PI)(a:PV):PI:=if op=4∨op=5 then((a,q.1.2),(decide (op=5),q.2.2)) else((q.1.1,a),(q.2.1,decide (op=7)))
theorem limP_iv{op:Int}{x:Val}{c:VC}{q:PI}(hq:ivP q=rangeI x.k):ivP (limP op q (c,x))=limI op x:=by
 unfold limP limI
 split
 ·rw[←hq];rfl
 ·rw[←hq];rfl
theorem results_ivc{fn:Func}{p:Tmp}(h:fn.results=#[.cell p 67])(tmps:Array Value)(g:Nat)(h1:tmps[p]?.getD undef=.pointer (some ⟨g,0,none⟩))(W:World)(R:Array Value)(hz:R.size=12)(q:Blk W g 67 R):(results fn tmps).run Tryz.prog W=.ok (.agg R) W:=by
 simp[results,h,h1,asAddr,load_iv q hz]
theorem arrI_all(v:PI):(arrI v).all (·.oneCell')=true:=by simp[Value.oneCell']
theorem limited_any(q:PI)(p:PrT)(w:World)(ho:p.op=4∨p.op=5∨p.op=6∨p.op=7):
 Calls Tryz.prog 62 #[aggI q,aggPr p] w fun e w'=>e=.returned (aggI (limP p.op q p.arg))∧Below w.heap.size w w':=by
 have B0:Hid (Blk (((w.alloc (.cells (arrI q) 67)).alloc (.cells (arrPr p) 38)).alloc (.cells (arrI zI) 67)) w.heap.size 67 (arrI q)):=((Blk.new_at rfl).alloc _).alloc _
 have B1:Hid (Blk (((w.alloc (.cells (arrI q) 67)).alloc (.cells (arrPr p) 38)).alloc (.cells (arrI zI) 67)) (w.heap.size+1) 38 (arrPr p)):=(Blk.new_at (by simp)).alloc _
 have B2:Hid (Blk (((w.alloc (.cells (arrI q) 67)).alloc (.cells (arrPr p) 38)).alloc (.cells (arrI zI) 67)) (w.heap.size+2) 67 (arrI zI)):=Blk.new_at (by simp)
 have BE:Hid (Below w.heap.size w (((w.alloc (.cells (arrI q) 67)).alloc (.cells (arrPr p) 38)).alloc (.cells (arrI zI) 67))):=(((Below.refl _ _).alloc (qL) _).alloc (by simp) _).alloc (by simp;omega) _
 go_enter Tryz.func62,Tryz.ntmps62
 go_upto_region 1 with fail
 change Code.wp _ _ _ _ (((w.alloc (.cells (arrI q) 67)).alloc (.cells (arrPr p) 38)).alloc (.cells (arrI zI) 67))
 generalize (((w.alloc (.cells (arrI q) 67)).alloc (.cells (arrPr p) 38)).alloc (.cells (arrI zI) 67))=wa at*
 obtain⟨d0,_,_,_,_,_,_,_⟩:=pr_cells B1.out
 have f2:=(range_parg B1.out) 0 _ rfl
 have f3:=(range_parg B1.out) 1 _ rfl
 have f4:=(range_parg B1.out) 2 _ rfl
 have f5:=(range_parg B1.out) 3 _ rfl
 have f6:=(range_parg B1.out) 4 _ rfl
 simp only[Nat.reduceAdd] at f2 f3 f4 f5 f6
 obtain⟨⟨a0,a1,a2,a3,a4⟩,⟨b0,b1,b2,b3,b4⟩,b5,b6⟩:=IAt.of_blk B0.out
 simp only[Nat.zero_add] at a0 a1 a2 a3 a4 b0 b1 b2 b3 b4 b5 b6
 have z0:=B0.out.frozen
 obtain⟨op,hop⟩:∃op,op=p.op:=⟨_,rfl⟩
 rw[←hop] at d0 ho
 have HOP:=qD hop
 clear hop
 obtain⟨R,hR⟩:∃R:Array Value,R=arrI (limP op q p.arg):=⟨_,rfl⟩
 have HR2:=qD hR
 have HRK:Hid (R.size=12):=by rw[hR];exact qD rfl
 have HALL:Hid (R.all (·.oneCell')=true):=by rw[Hid,hR];exact arrI_all _
 have HAG:Hid (aggI (limP op q p.arg)=.agg R):=by rw[hR];exact qD rfl
 clear hR
 rcases ho with rfl|rfl|rfl|rfl
 all_goals
  first|go_upto_region 4 with fail|go_upto_region 7 with fail
  go_region
  all_goals
   go_upto_region 8 with fail
   refine wp_name ?_
   intro w5 hw5
   have C0:Hid (Blk w5 w.heap.size 67 R):=by
    rw[Hid,hw5]
    refine Blk.cast9 (cs:=R) ?_
    exact⟨_,Blk.drew (Blk.set_ (Blk.set_ (Blk.set_ (Blk.set_ (Blk.set_ (Blk.set_ B0.out _ _) _ _) _ _) _ _) _ _) _ _),by rw[HR2.out];rfl⟩
   have C2:Hid (Blk w5 (w.heap.size+2) 67 (arrI zI)):=by
    rw[Hid,hw5]
    refine Blk.drew ?_
    repeat' refine Blk.far ?_ (by show w.heap.size+2≠w.heap.size;omega) _
    exact B2.out
   have CE:Hid (Below w.heap.size w w5):=by
    rw[Hid,hw5]
    refine Below.drew ?_
    repeat' refine Below.setCell ?_ (by show w.heap.size≤w.heap.size;omega) _
    exact BE.out
   have RG:Hid (w5.rangeAt w.heap.size 0 R.toList):=range_blk C0.out _ _ fun j v hj=>by rw[Nat.zero_add,←hj,Array.getElem?_toList]
   clear hw5 a0 a1 a2 a3 a4 b0 b1 b2 b3 b4 b5 b6 B0 B1 B2 BE z0 f2 f3 f4 f5 f6 d0
   go_wp2_with (first
    | ((with_reducible show wpList _ _ _ (⟨_,.load 67 _,_,_,_,_⟩::_) _ _);refine wpList_mid_w rfl 67 _ rfl w.heap.size 0 rfl _ _ RG.out Tryz.underlying67 rfl (by rw[Array.length_toList,HRK.out];kernel_rfl) ?_)
    | ((with_reducible show wpList _ _ _ (⟨_,.store 67 _ _,_,_,_,_⟩::_) _ _);refine wpList_store_row rfl 67 _ _ rfl (w.heap.size+2) R rfl rfl 67 _ C2.out (by rw[HRK.out];kernel_rfl) (by rw[HRK.out];rfl) HALL.out ?_))
   exact bodyPost_ret (results_ivc rfl _ _ rfl _ R HRK.out (blk_row C2.out R)) rfl ⟨by rw[←HOP.out,HAG.out],bel_row CE.out (by omega) _⟩
def OfOk(r:PSet)(k:Nat)(w:World)(e:Ending)(w':World):Prop:=
 ∃(A:Option Addr) (m c:Nat) (ys:List PI) (nf:List (Cut×Cut)),e=.returned (.tuple #[.slice A m c,.bool r.2])∧ys.map ivP=nf.map ivOf∧IsNF r.1 nf∧m≤k∧SI w' A m c ys∧Below w.heap.size w w'∧∀y∈ys,Fr w.heap.size w' y
theorem OfOk.up{r:PSet}{k k':Nat}{w0 w w':World}{e:Ending}(h:OfOk r k w e w')(hb:Below w0.heap.size w0 w)(hk:k≤k'):OfOk r k' w0 e w':=by
 obtain⟨A,m,c,ys,nf,h1,h2,h3,h4,h5,h6,h7⟩:=h
 exact⟨A,m,c,ys,nf,h1,h2,h3,Nat.le_trans h4 hk,h5,hb.step' h6,fun y hy=>(h7 y hy).low hb.size⟩
theorem in_exact{xs:List PV}{b:Bool}(h6:∀x∈xs,x.2.k≠6)(hb:b=true↔∀x∈xs,x.2.k≠2){arg:Val}{n:Int}:leafI 8 arg (xs.map Prod.snd) n=some ((xs.map Prod.snd).map ptIv,b):=by
 rw[leafI_in (by rintro⟨v,hv,hk⟩;obtain⟨x,hx,rfl⟩:=List.mem_map.1 hv;exact h6 x hx hk)]
 congr 2
 rw[Bool.eq_iff_iff,decide_eq_true_iff,hb]
 constructor
 ·intro h x hx hk
  exact h ⟨x.2,List.mem_map_of_mem hx,hk⟩
 ·rintro h ⟨v,hv,hk⟩
  obtain⟨x,hx,rfl⟩:=List.mem_map.1 hv
  exact h x hx hk
theorem ofIn_any(p:PrT)(w:World)(hw:WP w p)(hT:Tabs w):Calls Tryz.prog 63 #[aggPr p] w (OfOk (leafS 8 p.arg.2 (p.args.xs.map Prod.snd) p.n) (p.args.n+1) w):=by
 have HT:=qD hT
 have W:=qD hw.open
 have haz:p.args.n≤1048576:=W.out.few
 clear hw hT
 have B0:Hid (Blk (w.alloc (.cells (arrPr p) 38)) w.heap.size 38 (arrPr p)):=Blk.new_at rfl
 have BE:=qD ((Below.refl w.heap.size w).alloc (qL) (Obj.cells (arrPr p) 38))
 go_enter Tryz.func63,Tryz.ntmps63
 go_upto_region 1 with fail
 change Code.wp _ _ _ _ (w.alloc (.cells (arrPr p) 38))
 generalize w.alloc (.cells (arrPr p) 38)=wa at*
 obtain⟨_,_,_,_,d7,_,_,_⟩:=pr_cells B0.out
 go_upto_region 3 with fail
 go_loopw [4,6,10] (fun v4 _ v10 wr=>∃(i:Nat) (b:Bool),i≤p.args.n∧v10=.int .i64 i∧v4=.bool b∧(∀x∈p.args.xs.take i,x.2.k≠6)∧(b=true↔∀x∈p.args.xs.take i,x.2.k≠2)∧Blk wr w.heap.size 38 (arrPr p)∧Below w.heap.size w wr) (fun _ _ v10 _=>p.args.n-(intOf v10).toNat)
 case atStart=>exact⟨0,true,Nat.zero_le _,rfl,rfl,by simp,by simp,B0.out,BE.out⟩
 case round=>
  obtain⟨i,bx,hi,rfl,rfl,h6,h2,hB0,hBE⟩:=hrel
  clear B0 BE d7
  have B0:=qD hB0
  have BE:=qD hBE
  have H6:=qD h6
  have H2:=qD h2
  obtain⟨_,_,_,_,d7,_,_,_⟩:=pr_cells B0.out
  clear hB0 hBE h6 h2
  by_cases hlt:i<p.args.n
  ·obtain⟨b,off,x,hA,hb,hx,hm,hrg⟩:=W.out.args.sr.row hlt
   have HX:=qD hx
   have RG:=qD (range_step hrg BE.out hb)
   have HM:=qD hm
   have HK:Hid (x.1.k=x.2.k):=qD (W.out.args.rv x hm).open.k
   have i0:(0:Int)≤(i:Int):=by omega
   have i1:(i:Int)<(p.args.n:Int):=by omega
   clear hrg hx hm
   have q0:=RG.out 0 _ rfl
   have q1:=RG.out 1 _ rfl
   have q2:=RG.out 2 _ rfl
   have q3:=RG.out 3 _ rfl
   have q4:=RG.out 4 _ rfl
   simp only[Nat.add_zero] at q0
   have HA:=qD hA
   rw[hA]
   clear hA d7
   go_upto_region 5 with fail
   change Code.wp _ _ _ _ (wr.alloc (.cells x.1.arr 29))
   have JB:Hid (Blk (wr.alloc (.cells x.1.arr 29)) wr.heap.size 29 x.1.arr):=Blk.new_at rfl
   replace B0:=qD (B0.out.alloc (.cells x.1.arr 29))
   replace BE:=qD (BE.out.alloc BE.out.size (Obj.cells x.1.arr 29))
   generalize wr.alloc (.cells x.1.arr 29)=wb at*
   generalize wr.heap.size=ga at*
   clear q0 q1 q2 q3 q4 RG
   have q0:=JB.out.cell 0
   simp at q0
   obtain⟨kk,hkk⟩:∃k,k=x.1.k:=⟨_,rfl⟩
   rw[←hkk] at q0 HK
   have HKK:=qD hkk
   clear hkk
   cases h6:(kk==6)
   ·have n6:x.2.k≠6:=by rw[←HK.out];simpa using h6
    have N6:=qD n6
    clear n6
    have tk:p.args.xs.take (i+1)=p.args.xs.take i++[x]:=by rw[List.take_add_one,HX.out];rfl
    have TK:=qD tk
    clear tk
    cases bx
    ·go_wp2_with fail
     go_roundw
     case rel=>
      refine⟨i+1,false,by omega,by go_num,rfl,fun y hy=>?_,?_,B0.out,BE.out⟩
      ·rw[TK.out] at hy
       rcases List.mem_append.1 hy with hy|hy
       ·exact H6.out y hy
       ·obtain rfl:y=x:=by simpa using hy
        exact N6.out
      ·rw[TK.out]
       refine⟨fun h=>by simp at h,fun h=>?_⟩
       exact H2.out.2 fun y hy=>h y (by simp[hy])
     case measure=>simp[intOf];omega
    ·go_wp2_with fail
     go_roundw
     case rel=>
      refine⟨i+1,(kk != 2),by omega,by go_num,rfl,fun y hy=>?_,?_,B0.out,BE.out⟩
      ·rw[TK.out] at hy
       rcases List.mem_append.1 hy with hy|hy
       ·exact H6.out y hy
       ·obtain rfl:y=x:=by simpa using hy
        exact N6.out
      ·rw[TK.out]
       have e:(kk != 2)=true↔x.2.k≠2:=by rw[←HK.out];simp
       rw[e]
       refine⟨fun h y hy=>?_,fun h=>h x (by simp)⟩
       rcases List.mem_append.1 hy with hy|hy
       ·exact H2.out.1 rfl y hy
       ·obtain rfl:y=x:=by simpa using hy
        exact h
     case measure=>simp[intOf];omega
   ·have e6:x.2.k=6:=by rw[←HK.out];simpa using h6
    have E6:=qD e6
    clear e6
    have HL:Hid (leafS 8 p.arg.2 (p.args.xs.map Prod.snd) p.n=(allS,false)):=qD (leafS_none (leafI_in6 ⟨x.2,List.mem_map_of_mem HM.out,E6.out⟩))
    go_wp2_with fail
    refine(allF_any wb).mono ?_
    rintro e w3 ⟨A3,m3,c3,ys,nf,rfl,hy,hnf,hmk,hsi,hb3,hfr⟩
    have HNO:=qD (show OfOk (allS,false) 1 wb (.returned (.tuple #[.slice A3 m3 c3,.bool false])) w3 from⟨A3,m3,c3,ys,nf,rfl,hy,hnf,hmk,hsi,hb3,hfr⟩)
    clear hy hnf hmk hsi hb3 hfr
    go_wp2_with fail
    go_ret2
    rw[HL.out]
    exact HNO.out.up BE.out (by omega)
  ·obtain rfl:i=p.args.n:=by omega
   have htk:p.args.xs.take p.args.n=p.args.xs:=List.take_of_length_le (by have:=W.out.args.sr.ln;omega)
   have HL:Hid (leafS 8 p.arg.2 (p.args.xs.map Prod.snd) p.n=(fun a=>inS cmC a (spansL (p.args.xs.map fun q=>ptIv q.2)),bx)):=by
    have h6:=H6.out
    have h2:=H2.out
    rw[htk] at h6 h2
    rw[Hid,leafS_some (in_exact h6 h2),List.map_map]
    rfl
   go_wp2_with fail
   refine(pointsF_any p.args.xs _ _ _ wr (HT.out.step BE.out) (W.out.args.step BE.out) (by omega)).mono ?_
   rintro e w3 ⟨A3,m3,c3,ys,nf,rfl,hy,hnf,hmk,hsi,hb3,hfr⟩
   have HNO:=qD (show OfOk ((fun a=>inS cmC a (spansL (p.args.xs.map fun q=>ptIv q.2))),bx) _ wr (.returned (.tuple #[.slice A3 m3 c3,.bool bx])) w3 from⟨A3,m3,c3,ys,nf,rfl,hy,hnf,hmk,hsi,hb3,hfr⟩)
   clear hy hnf hmk hsi hb3 hfr htk
   go_wp2_with fail
   go_ret2
   rw[HL.out]
   exact HNO.out.up BE.out (by omega)
theorem iv_full2{w:World}{g:Nat}{v:PI}(h:Blk w g 67 (arrI v)):w.rangeAt g 0 (arrI v).toList:=
 range_blk h _ _ fun j x hj=>by rw[Nat.zero_add,←hj,Array.getElem?_toList]
theorem afterB_size{t s:ByteArray}(h:afterB t=some s):s.size≤t.size:=by
 have hl:=stripN_le t t.size
 unfold afterB at h
 cases hn:stripN t t.size with
 | zero=>rw[hn] at h;simp at h
 | succ n=>
  rw[hn] at h hl
  simp only[Option.some.injEq] at h
  subst h
  rw[ByteArray.size_append,ByteArray.size_extract]
  show min n t.size-0+1≤t.size
  omega
theorem pre_some{x:Val}{s:ByteArray}(h:afterB x.t=some s)(hv:validV (.mk 4 0 s [] [])=true):preI x=(⟨x,.mk 4 0 s [] [],true,false⟩,true):=by
 unfold preI
 rw[h]
 simp only[hv,if_true]
theorem pre_bad{x:Val}{s:ByteArray}(h:afterB x.t=some s)(hv:validV (.mk 4 0 s [] [])=false):preI x=(⟨x,vKd 5,true,false⟩,decide (x.t=ByteArray.empty)):=by
 unfold preI
 rw[h]
 simp[hv]
theorem pre_none{x:Val}(h:afterB x.t=none):preI x=(⟨x,vKd 5,true,false⟩,decide (x.t=ByteArray.empty)):=by
 unfold preI
 rw[h]
theorem wpl_stLo{ops:Array Oper}{rest:List Oper}{o:Oper}{a:Act}{w W:World}{Q:Exit→Act→World→Prop}{B g:Nat}{p:PI}{c:VC}(hgd:o.guard=none)(x y:Operand)(ho:o.op=.store 29 x y)(hx:a.eval x=.pointer (some ⟨g,0,none⟩))(hy:a.eval y=.agg c.arr)(h1:Blk w g 67 (arrI p))(hb:Below B W w)(hB:B≤g)(v:Val)(h:∀w6,Blk w6 g 67 (arrI (((c,v),p.1.2),p.2))→(∀(b:Nat) (t:TypeId) (cs:Array Value),b≠g→Blk w b t cs→Blk w6 b t cs)→Below B W w6→wpList Tryz.prog ops Q rest (a.put o.dst undef) w6):wpList Tryz.prog ops Q (o::rest) a w:=
 wpList_store_mid hgd 29 x y ho g 0 c.arr hx hy (iv_there h1 (by simp)) (by kernel_rfl) (by simp[Value.oneCell']) (h _ (putLo h1 c v) (fun _ _ _ hne k=>blk_far9 k hne _ _) (bel_cells9 hb hB _ _))
theorem wpl_stHi{ops:Array Oper}{rest:List Oper}{o:Oper}{a:Act}{w W:World}{Q:Exit→Act→World→Prop}{B g:Nat}{p:PI}{c:VC}(hgd:o.guard=none)(x y:Operand)(ho:o.op=.store 29 x y)(hx:a.eval x=.pointer (some ⟨g,5,none⟩))(hy:a.eval y=.agg c.arr)(h1:Blk w g 67 (arrI p))(hb:Below B W w)(hB:B≤g)(v:Val)(h:∀w6,Blk w6 g 67 (arrI ((p.1.1,(c,v)),p.2))→(∀(b:Nat) (t:TypeId) (cs:Array Value),b≠g→Blk w b t cs→Blk w6 b t cs)→Below B W w6→wpList Tryz.prog ops Q rest (a.put o.dst undef) w6):wpList Tryz.prog ops Q (o::rest) a w:=
 wpList_store_mid hgd 29 x y ho g 5 c.arr hx hy (iv_there h1 (by simp)) (by kernel_rfl) (by simp[Value.oneCell']) (h _ (putHi h1 c v) (fun _ _ _ hne k=>blk_far9 k hne _ _) (bel_cells9 hb hB _ _))
theorem ofPrefix_any(p:PrT)(w:World)(hw:WP w p)(hT:Tabs w):Calls Tryz.prog 64 #[aggPr p] w (OfOk (leafS 16 p.arg.2 (p.args.xs.map Prod.snd) p.n) 1 w):=by
 have HT:=qD hT
 have W:=qD hw.open
 have HKT:Hid (p.arg.1.t=p.arg.2.t):=qD hw.open.arg.open.t
 have HTZ:Hid (p.arg.1.t.size≤reach):=by have:=hw.open.arg.open.tsz;exact qD (by rw[hw.open.arg.open.t];exact this)
 clear hw hT
 have B0:Hid (Blk (w.alloc (.cells (arrPr p) 38)) w.heap.size 38 (arrPr p)):=Blk.new_at rfl
 have BE:=qD ((Below.refl w.heap.size w).alloc (qL) (Obj.cells (arrPr p) 38))
 go_enter Tryz.func64,Tryz.ntmps64
 go_upto_region 1 with fail
 change Code.wp _ _ _ _ (w.alloc (.cells (arrPr p) 38))
 generalize w.alloc (.cells (arrPr p) 38)=wa at*
 go_wp2_with fail
 refine(kindRange_any 4 wa (by omega) (by omega)).mono ?_
 rintro e w1 ⟨rfl,hb⟩
 replace B0:=qD (B0.out.step hb)
 replace BE:=qD (BE.out.step' hb)
 clear hb
 go_upto_region 2 with fail
 change Code.wp _ _ _ _ (w1.alloc (.cells (arrI (rngP 4)) 67))
 have J:Hid (Blk (w1.alloc (.cells (arrI (rngP 4)) 67)) w1.heap.size 67 (arrI (rngP 4))):=Blk.new_at rfl
 have HGJ:Hid (w.heap.size<w1.heap.size):=qD B0.out.lt
 replace B0:=qD (B0.out.alloc (.cells (arrI (rngP 4)) 67))
 replace BE:=qD (BE.out.alloc BE.out.size (Obj.cells (arrI (rngP 4)) 67))
 generalize w1.alloc (.cells (arrI (rngP 4)) 67)=w2 at*
 generalize w1.heap.size=gj at*
 have RA:=qD (range_parg B0.out)
 have gle:=HGJ.out
 go_upto_region 3 with(first
  | ((with_reducible show wpList _ _ _ (⟨_,.load 29 _,_,_,_,_⟩::_) _ _);refine wpList_mid_w rfl 29 _ rfl w.heap.size 2 rfl _ _ RA.out Tryz.underlying29 rfl (by kernel_rfl) ?_)
  | ((with_reducible show wpList _ _ _ (⟨_,.store 29 _ _,_,_,_,_⟩::_) _ _);refine wpl_stLo (c:=p.arg.1) rfl _ _ rfl rfl rfl J.out BE.out (by omega) p.arg.2 ?_;intro w6 hJ hfar hBE;have B6:=qD (hfar _ _ _ (by omega) B0.out);clear J BE B0 RA hfar;have J:=qD hJ;have BE:=qD hBE;have B0:=qD B6.out;clear hJ hBE B6))
 obtain⟨_,_,_,d4,_,_,_,_⟩:=pr_cells B0.out
 obtain⟨tx,htx⟩:∃t,t=p.arg.1.t:=⟨_,rfl⟩
 rw[←htx] at d4 HKT HTZ
 have HTX:=qD htx
 clear htx
 have HAR:Hid (RW w p.arg.1 p.arg.2):=W.out.arg
 have hEd:decide (p.arg.2.t=ByteArray.empty)=tx.toList.isEmpty:=by
  rw[←HKT.out,Bool.eq_iff_iff,decide_eq_true_iff,List.isEmpty_iff,Go.ByteArray.toList_eq]
  constructor
  ·rintro rfl;rfl
  ·intro h;exact ByteArray.ext (Array.toList_inj.1 h)
 have HED:=qD hEd
 clear hEd
 have e0:zero12.size≤reach:=by decide
 cases hA:afterB tx with
 | none=>
  have hq:preI p.arg.2=(⟨p.arg.2,vKd 5,true,false⟩,decide (p.arg.2.t=ByteArray.empty)):=pre_none (by rw[←HKT.out];exact hA)
  have hE:afterE tx=.returned (.tuple #[.string ByteArray.empty,.bool false]):=by unfold afterE;rw[hA];rfl
  have hAf:=after_any tx w6 HTZ.out
  rw[hE] at hAf
  have HAF:=qD hAf
  have HPQ:=qD hq
  clear hAf hE hq hA
  go_wp2_with fail
  refine HAF.out.mono ?_
  rintro e w3 ⟨rfl,hb⟩
  replace J:=qD (J.out.step hb)
  replace B0:=qD (B0.out.step hb)
  replace BE:=qD (BE.out.step' hb)
  clear hb d4 HAF
  go_upto_region 5 with fail
  change Code.wp _ _ _ _ (w3.alloc (.cells (cLf 4 0 ByteArray.empty).arr 29))
  replace J:=qD (J.out.alloc (.cells (cLf 4 0 ByteArray.empty).arr 29))
  replace B0:=qD (B0.out.alloc (.cells (cLf 4 0 ByteArray.empty).arr 29))
  replace BE:=qD (BE.out.alloc BE.out.size (Obj.cells (cLf 4 0 ByteArray.empty).arr 29))
  generalize w3.alloc (.cells (cLf 4 0 ByteArray.empty).arr 29)=w4 at*
  generalize w3.heap.size=gv at*
  obtain⟨_,_,_,d4,_,_,_,_⟩:=pr_cells B0.out
  rw[←HTX.out] at d4
  have okQ:Hid (∀wr,Below w.heap.size w wr→okI wr ((p.arg,(rngP 4).1.2),(rngP 4).2)):=qD fun wr hb=>⟨HAR.out.step hb,(rngP_ok 4 wr).2⟩
  obtain⟨be,hbe⟩:∃b,b=tx.toList.isEmpty:=⟨_,rfl⟩
  have HL:Hid (leafS 16 p.arg.2 (p.args.xs.map Prod.snd) p.n=((fun a=>inS cmC a (spansL ([((p.arg,(rngP 4).1.2),(rngP 4).2)].map ivP))),be)):=by
   rw[Hid,leafS_some leafI_pre,HPQ.out,HED.out,hbe]
   rfl
  replace hbe:=hbe.symm
  cases be
  ·have RGJ:=qD (iv_full2 J.out)
   go_wp2_with ((with_reducible show wpList _ _ _ (⟨_,.load 67 _,_,_,_,_⟩::_) _ _);refine wpList_mid_w rfl 67 _ rfl gj 0 rfl _ _ RGJ.out Tryz.underlying67 rfl (by kernel_rfl) ?_)
   refine(normalF_any [((p.arg,(rngP 4).1.2),(rngP 4).2)] _ 1 1 _ (HT.out.step (BE.out.alloc BE.out.size _)) (si_one (Blk.new_at rfl) ((okQ.out _ (BE.out.alloc BE.out.size _)))) (by omega)).mono ?_
   rintro e w9 ⟨A3,m3,c3,ys,nf,rfl,hy,hnf,hmk,hsi,hb3,hfr⟩
   have HNO:=qD (show OfOk ((fun a=>inS cmC a (spansL ([((p.arg,(rngP 4).1.2),(rngP 4).2)].map ivP))),false) 1 _ (.returned (.tuple #[.slice A3 m3 c3,.bool (false)])) w9 from⟨A3,m3,c3,ys,nf,rfl,hy,hnf,hmk,hsi,hb3,hfr⟩)
   clear hy hnf hmk hsi hb3 hfr
   go_wp2_with fail
   go_ret2
   rw[HL.out]
   exact HNO.out.up (BE.out.alloc BE.out.size _) (by omega)
  ·have RGJ:=qD (iv_full2 J.out)
   go_wp2_with ((with_reducible show wpList _ _ _ (⟨_,.load 67 _,_,_,_,_⟩::_) _ _);refine wpList_mid_w rfl 67 _ rfl gj 0 rfl _ _ RGJ.out Tryz.underlying67 rfl (by kernel_rfl) ?_)
   refine(normalF_any [((p.arg,(rngP 4).1.2),(rngP 4).2)] _ 1 1 _ (HT.out.step (BE.out.alloc BE.out.size _)) (si_one (Blk.new_at rfl) ((okQ.out _ (BE.out.alloc BE.out.size _)))) (by omega)).mono ?_
   rintro e w9 ⟨A3,m3,c3,ys,nf,rfl,hy,hnf,hmk,hsi,hb3,hfr⟩
   have HNO:=qD (show OfOk ((fun a=>inS cmC a (spansL ([((p.arg,(rngP 4).1.2),(rngP 4).2)].map ivP))),true) 1 _ (.returned (.tuple #[.slice A3 m3 c3,.bool (true)])) w9 from⟨A3,m3,c3,ys,nf,rfl,hy,hnf,hmk,hsi,hb3,hfr⟩)
   clear hy hnf hmk hsi hb3 hfr
   go_wp2_with fail
   go_ret2
   rw[HL.out]
   exact HNO.out.up (BE.out.alloc BE.out.size _) (by omega)
 | some s=>
  have hE:afterE tx=.returned (.tuple #[.string s,.bool true]):=by unfold afterE;rw[hA];rfl
  have hAf:=after_any tx w6 HTZ.out
  rw[hE] at hAf
  have HAF:=qD hAf
  have HSZ:Hid (s.size≤reach):=qD (Nat.le_trans (afterB_size hA) HTZ.out)
  have HAS:=qD hA
  clear hAf hE hA
  go_wp2_with fail
  refine HAF.out.mono ?_
  rintro e w3 ⟨rfl,hb⟩
  replace J:=qD (J.out.step hb)
  replace B0:=qD (B0.out.step hb)
  replace BE:=qD (BE.out.step' hb)
  have HJ3:Hid (gj<w3.heap.size):=qD J.out.lt
  clear hb d4 HAF
  go_upto_region 5 with fail
  change Code.wp _ _ _ _ (w3.alloc (.cells (cLf 4 0 s).arr 29))
  have JB:Hid (Blk (w3.alloc (.cells (cLf 4 0 s).arr 29)) w3.heap.size 29 (cLf 4 0 s).arr):=Blk.new_at rfl
  replace J:=qD (J.out.alloc (.cells (cLf 4 0 s).arr 29))
  replace B0:=qD (B0.out.alloc (.cells (cLf 4 0 s).arr 29))
  replace BE:=qD (BE.out.alloc BE.out.size (Obj.cells (cLf 4 0 s).arr 29))
  generalize w3.alloc (.cells (cLf 4 0 s).arr 29)=w4 at*
  generalize w3.heap.size=gv at*
  obtain⟨_,_,_,d4,_,_,_,_⟩:=pr_cells B0.out
  rw[←HTX.out] at d4
  obtain⟨q0,q1,q2,q3,q4⟩:=VAt.of_blk JB.out
  simp only[Nat.zero_add] at q0 q1 q2 q3 q4
  obtain⟨vb,hvb⟩:∃b,b=validV (.mk 4 0 s [] []):=⟨_,rfl⟩
  have HVC:Hid (∀wr,Below w.heap.size w wr→Calls Tryz.prog 37 #[(cLf 4 0 s).val] wr fun e w'=>e=.returned (.bool vb)∧Below wr.heap.size wr w'):=qD fun wr hb=>by
   rw[hvb]
   exact valid_any (.mk 4 0 s [] []) (cLf 4 0 s) wr (HT.out.step hb) (rw_leaf _ _ _ HSZ.out)
  obtain⟨be,hbe⟩:∃b,b=tx.toList.isEmpty:=⟨_,rfl⟩
  have HBE:=qD hbe
  have HVB:=qD hvb
  replace hbe:=hbe.symm
  clear hvb
  go_upto_if 34 with(go_at_call 37;refine(HVC.out _ BE.out).mono ?_;rintro e w5 ⟨rfl,hb⟩;replace J:=qD (J.out.step hb);replace JB:=qD (JB.out.step hb);replace BE:=qD (BE.out.step' hb);clear hb d4 q0 q1 q2 q3 q4 B0;obtain⟨q0,q1,q2,q3,q4⟩:=VAt.of_blk JB.out;simp only[Nat.zero_add] at q0 q1 q2 q3 q4)
  cases vb
  ·have okQ:Hid (∀wr,Below w.heap.size w wr→okI wr ((p.arg,(rngP 4).1.2),(rngP 4).2)):=qD fun wr hb=>⟨HAR.out.step hb,(rngP_ok 4 wr).2⟩
   have HL:Hid (leafS 16 p.arg.2 (p.args.xs.map Prod.snd) p.n=((fun a=>inS cmC a (spansL ([((p.arg,(rngP 4).1.2),(rngP 4).2)].map ivP))),be)):=by
    rw[Hid,leafS_some leafI_pre,pre_bad (x:=p.arg.2) (s:=s) (by rw[←HKT.out];exact HAS.out) HVB.out.symm,HED.out,HBE.out]
    rfl
   clear HBE
   cases be
   ·have RGJ:=qD (iv_full2 J.out)
    go_wp2_with ((with_reducible show wpList _ _ _ (⟨_,.load 67 _,_,_,_,_⟩::_) _ _);refine wpList_mid_w rfl 67 _ rfl gj 0 rfl _ _ RGJ.out Tryz.underlying67 rfl (by kernel_rfl) ?_)
    refine(normalF_any [((p.arg,(rngP 4).1.2),(rngP 4).2)] _ 1 1 _ (HT.out.step (BE.out.alloc BE.out.size _)) (si_one (Blk.new_at rfl) ((okQ.out _ (BE.out.alloc BE.out.size _)))) (by omega)).mono ?_
    rintro e w9 ⟨A3,m3,c3,ys,nf,rfl,hy,hnf,hmk,hsi,hb3,hfr⟩
    have HNO:=qD (show OfOk ((fun a=>inS cmC a (spansL ([((p.arg,(rngP 4).1.2),(rngP 4).2)].map ivP))),false) 1 _ (.returned (.tuple #[.slice A3 m3 c3,.bool (false)])) w9 from⟨A3,m3,c3,ys,nf,rfl,hy,hnf,hmk,hsi,hb3,hfr⟩)
    clear hy hnf hmk hsi hb3 hfr
    go_wp2_with fail
    go_ret2
    rw[HL.out]
    exact HNO.out.up (BE.out.alloc BE.out.size _) (by omega)
   ·have RGJ:=qD (iv_full2 J.out)
    go_wp2_with ((with_reducible show wpList _ _ _ (⟨_,.load 67 _,_,_,_,_⟩::_) _ _);refine wpList_mid_w rfl 67 _ rfl gj 0 rfl _ _ RGJ.out Tryz.underlying67 rfl (by kernel_rfl) ?_)
    refine(normalF_any [((p.arg,(rngP 4).1.2),(rngP 4).2)] _ 1 1 _ (HT.out.step (BE.out.alloc BE.out.size _)) (si_one (Blk.new_at rfl) ((okQ.out _ (BE.out.alloc BE.out.size _)))) (by omega)).mono ?_
    rintro e w9 ⟨A3,m3,c3,ys,nf,rfl,hy,hnf,hmk,hsi,hb3,hfr⟩
    have HNO:=qD (show OfOk ((fun a=>inS cmC a (spansL ([((p.arg,(rngP 4).1.2),(rngP 4).2)].map ivP))),true) 1 _ (.returned (.tuple #[.slice A3 m3 c3,.bool (true)])) w9 from⟨A3,m3,c3,ys,nf,rfl,hy,hnf,hmk,hsi,hb3,hfr⟩)
    clear hy hnf hmk hsi hb3 hfr
    go_wp2_with fail
    go_ret2
    rw[HL.out]
    exact HNO.out.up (BE.out.alloc BE.out.size _) (by omega)
  ·have okQ:Hid (∀wr,Below w.heap.size w wr→okI wr ((p.arg,(cLf 4 0 s,.mk 4 0 s [] [])),(true,false))):=qD fun wr hb=>⟨HAR.out.step hb,rw_leaf _ _ _ HSZ.out⟩
   have HL:Hid (leafS 16 p.arg.2 (p.args.xs.map Prod.snd) p.n=((fun a=>inS cmC a (spansL ([((p.arg,(cLf 4 0 s,.mk 4 0 s [] [])),(true,false))].map ivP))),true)):=by
    rw[Hid,leafS_some leafI_pre,pre_some (x:=p.arg.2) (s:=s) (by rw[←HKT.out];exact HAS.out) HVB.out.symm]
    rfl
   go_upto_region 9 with((with_reducible show wpList _ _ _ (⟨_,.store 29 _ _,_,_,_,_⟩::_) _ _);refine wpl_stHi (c:=cLf 4 0 s) rfl _ _ rfl rfl rfl J.out BE.out (by omega) (.mk 4 0 s [] []) ?_;intro w7 hJ hfar hBE;clear J BE hfar q0 q1 q2 q3 q4 JB;have J:=qD hJ;have BE:=qD hBE;have z0:=J.out.frozen;have c11:=(J.out.cell 11).trans rfl;clear hJ hBE)
   refine wp_name ?_
   intro w9 hw9
   replace J:Hid (Blk w9 gj 67 (arrI ((p.arg,(cLf 4 0 s,.mk 4 0 s [] [])),(true,false)))):=by
    rw[Hid,hw9]
    exact Blk.cast9 ⟨_,J.out.set_ _ _,rfl⟩
   replace BE:Hid (Below w.heap.size w w9):=by
    rw[Hid,hw9]
    exact Below.setCell BE.out (by show w.heap.size≤gj;omega) _
   clear hw9 z0 c11
   have RGJ:=qD (iv_full2 J.out)
   go_wp2_with ((with_reducible show wpList _ _ _ (⟨_,.load 67 _,_,_,_,_⟩::_) _ _);refine wpList_mid_w rfl 67 _ rfl gj 0 rfl _ _ RGJ.out Tryz.underlying67 rfl (by kernel_rfl) ?_)
   refine(normalF_any [((p.arg,(cLf 4 0 s,.mk 4 0 s [] [])),(true,false))] _ 1 1 _ (HT.out.step (BE.out.alloc BE.out.size _)) (si_one (Blk.new_at rfl) ((okQ.out _ (BE.out.alloc BE.out.size _)))) (by omega)).mono ?_
   rintro e w9 ⟨A3,m3,c3,ys,nf,rfl,hy,hnf,hmk,hsi,hb3,hfr⟩
   have HNO:=qD (show OfOk ((fun a=>inS cmC a (spansL ([((p.arg,(cLf 4 0 s,.mk 4 0 s [] [])),(true,false))].map ivP))),true) 1 _ (.returned (.tuple #[.slice A3 m3 c3,.bool (true)])) w9 from⟨A3,m3,c3,ys,nf,rfl,hy,hnf,hmk,hsi,hb3,hfr⟩)
   clear hy hnf hmk hsi hb3 hfr
   go_wp2_with fail
   go_ret2
   rw[HL.out]
   exact HNO.out.up (BE.out.alloc BE.out.size _) (by omega)
end Go.Proofs.YtfkapannahcjiaaGreatDoor
