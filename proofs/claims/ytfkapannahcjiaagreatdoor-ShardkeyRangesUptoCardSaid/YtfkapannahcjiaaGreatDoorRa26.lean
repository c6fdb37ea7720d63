/- Parts of the proof, joined: ShAwPure, ShKey0, ShKey1, ShEncodesWalk, RgApartWalk, ValRefCmp, RfEq, RfRange, RgAfterR. -/
import Derived.Test.YtfkapannahcjiaaGreatDoorRa1
import Derived.Test.YtfkapannahcjiaaGreatDoorRa15
import Derived.Test.YtfkapannahcjiaaGreatDoorRa24
import Derived.Test.YtfkapannahcjiaaGreatDoorRa25
import Derived.Test.YtfkapannahcjiaaGreatDoorRa16
import Derived.Test.YtfkapannahcjiaaGreatDoorRa18
import Derived.Test.YtfkapannahcjiaaGreatDoorRa22
import Derived.Test.YtfkapannahcjiaaGreatDoorRa23
import Derived.Test.YtfkapannahcjiaaGreatDoorRa21
import Derived.Deep.RegionHeld3
set_option maxRecDepth 100000
set_option maxHeartbeats 16000000
set_option linter.unusedSimpArgs false
namespace Go.Proofs.YtfkapannahcjiaaGreatDoor
open Go.RowKit
def ka:ByteArray:=⟨#[97]⟩
def vIk(n:Int):Val:=.mk 3 n ByteArray.empty [] []
def cIk(n:Int):VC:=⟨3,n,ByteArray.empty,none,0,0,none,0,0⟩
def vD(n:Int):Val:=.mk 5 0 ByteArray.empty [] [.mk ka (vIk n)]
def ks1:List Od:=[⟨[ka],false⟩]
theorem sound_i(n:Int):SoundV nameB (vIk n):=(SoundV_iff _ _).2 ⟨⟨.inl rfl,.inr (.inr (.inr rfl)),.inr rfl,.inr rfl,.inr (.inr (.inr (.inl rfl)))⟩,by simp[vIk,Val.l],by simp[vIk,Val.d],by simp[vIk,Val.d,NamesP]⟩
theorem sound_null:SoundV nameB nullV:=(SoundV_iff _ _).2 ⟨by simp[HeadP,nullV,Val.k,Val.n,Val.t,Val.l,Val.d],by simp[nullV,Val.l],by simp[nullV,Val.d],by simp[nullV,Val.d,NamesP]⟩
theorem sound_d(n:Int):SoundV nameB (vD n):=(SoundV_iff _ _).2 ⟨⟨.inr (.inr (.inr rfl)),.inr (.inr (.inr rfl)),.inr rfl,.inl rfl,by simp[vD,Val.k]⟩,by simp[vD,Val.l],by intro f hf;simp[vD,Val.d] at hf;subst hf;exact sound_i n,by
 refine⟨fun f hf=>?_,by simp[vD,Val.d]⟩
 simp[vD,Val.d] at hf
 subst hf
 show nameB ka=true
 kernel_rfl⟩
theorem valid_i(n:Int):validV (vIk n)=true:=by
 have h1:(vIk n).size=1:=by simp[vIk,Val.size]
 have h2:(vIk n).height=1:=by simp[vIk,Val.height]
 unfold validV
 rw[decide_eq_true (by omega),decide_eq_true (by omega),soundB_true (sound_i n)]
 rfl
theorem valid_null:validV nullV=true:=by
 have h1:nullV.size=1:=by simp[nullV,Val.size]
 have h2:nullV.height=1:=by simp[nullV,Val.height]
 unfold validV
 rw[decide_eq_true (by omega),decide_eq_true (by omega),soundB_true sound_null]
 rfl
theorem valid_dn(n:Int):validV (vD n)=true:=by
 have h1:(vD n).size=2:=by simp[vD,vIk,Val.size,sizeD,sizeF]
 have h2:(vD n).height=2:=by simp[vD,vIk,Val.height,heightD,heightF]
 unfold validV
 rw[decide_eq_true (by omega),decide_eq_true (by omega),soundB_true (sound_d n)]
 rfl
theorem allow_valid{x:Val}(h:validV x=true):allowB x=true:=by unfold allowB;rw[h,Bool.or_true]
theorem keyR_i(n:Int):keyR [vIk n]=(strOfNums (encAll [vIk n]),0):=keyR_yes (by unfold allowsB;simp[allow_valid (valid_i n)])
theorem at_d(n:Int):keyAt (vD n) [ka]=some (vIk n):=by
 have h:getV (vD n) ka=some (vIk n):=by
  refine getV_some (j:=0) (f:=.mk ka (vIk n)) ?_ rfl
  kernel_rfl
 rw[keyAt_some (by show(5:Int)≠6;decide) h,keyAt_end (by show(3:Int)≠6;decide)]
theorem vals_d(n:Int):valsR ks1 (vD n)=some [vIk n]:=by
 rw[valsR_yes rfl (valid_dn n),ks1,valsAt,at_d]
 rfl
theorem enc_d(n:Int):encR ks1 false (vD n)=(strOfNums (encAll [vIk n]),0):=by rw[encR_some (vals_d n),hashes_no,keyR_i]
theorem key5_eq:strOfNums (encAll [vIk 5])=⟨#[3,128,0,0,0,0,0,0,5]⟩:=by kernel_rfl
theorem hash_diff:hashV nullV≠hashV (vIk 5):=by
 unfold hashV
 rw[if_pos (allow_valid valid_null),if_pos (allow_valid (valid_i 5))]
 have h:(((crcSum (strOfNums (encV nullV)):Nat):Int)==((crcSum (strOfNums (encV (vIk 5))):Nat):Int))=false:=by kernel_rfl
 simpa using h
theorem keyE_ks1:keyE ks1 false=0:=by kernel_rfl
theorem keyE_nil:keyE [] false=11:=by kernel_rfl
theorem st_ka{w:World}{g:Nat}(h:Blk w g 9 #[.string ka]):ST w (some ⟨g,0,none⟩) 1 1 [ka]:=by
 refine⟨⟨rfl,qL,fun _=>⟨g,0,rfl,h.lt,fun i a hi j v hj=>?_⟩⟩,by show 1*16≤reach;decide,fun s hs=>?_⟩
 ·cases i with
  | zero=>
   simp at hi
   subst hi
   cases j with
   | zero=>simp[recT] at hj;subst hj;exact h.cell 0
   | succ j=>simp[recT] at hj
  | succ i=>simp at hi
 ·simp at hs;subst hs;show 1≤reach;decide
theorem ks_ka{w:World}{g1 g2:Nat}(h1:Blk w g1 9 #[.string ka])(h2:Blk w g2 54 #[.slice (some ⟨g1,0,none⟩) 1 1,.bool false]):KS w (some ⟨g2,0,none⟩) 1 1 ks1:=by
 refine⟨[⟨some ⟨g1,0,none⟩,1,1,false⟩],⟨⟨rfl,qL,fun _=>⟨g2,0,rfl,h2.lt,fun i a hi j v hj=>?_⟩⟩,by show 1*32≤reach;decide,rfl,fun i o q ho hq=>?_⟩⟩
 ·cases i with
  | zero=>
   simp at hi
   subst hi
   match j,hj with
   | 0,hj=>simp[recO] at hj;subst hj;exact h2.cell 0
   | 1,hj=>simp[recO] at hj;subst hj;exact h2.cell 1
   | j+2,hj=>simp[recO] at hj
  | succ i=>simp at hi
 ·cases i with
  | zero=>
   simp at ho
   simp[ks1] at hq
   subst ho hq
   exact⟨rfl,st_ka h1⟩
  | succ i=>simp at ho
theorem rw_i{F:Nat→Prop}(n:Int)(w:World):RV F w (cIk n) (vIk n):=RVs.shut ⟨rfl,rfl,rfl,by show 0≤reach;decide,rfl,qL,by show 0*80≤reach;decide,fun h=>absurd h (by show ¬(0<0);omega),rfl,qL,by show 0*96≤reach;decide,fun h=>absurd h (by show ¬(0<0);omega)⟩
abbrev cD(g:Nat):VC:=⟨5,0,ByteArray.empty,none,0,0,some ⟨g,0,none⟩,1,1⟩
theorem rw_d{w:World}{g:Nat}{n:Int}(h:Blk w g 59 #[.string ka,.int .i64 3,.int .i64 n,.string ByteArray.empty,.slice none 0 0,.slice none 0 0]):RW w (cD g) (vD n):=by
 refine RVs.shut ⟨rfl,rfl,rfl,by show 0≤reach;decide,rfl,qL,by show 0*80≤reach;decide,fun h=>absurd h (by show ¬(0<0);omega),rfl,qL,by show 1*96≤reach;decide,fun _=>⟨g,0,rfl,Ft.top,fun i f hi=>?_⟩⟩
 cases i with
 | zero=>
  simp[vD,Val.d] at hi
  subst hi
  exact⟨h.cell 0,by show 1≤reach;decide,cIk n,⟨h.cell 1,h.cell 2,h.cell 3,h.cell 4,h.cell 5⟩,rw_i n w⟩
 | succ i=>simp[vD,Val.d] at hi
theorem same_ka:sameP [ka] [ka]=true:=by kernel_rfl
theorem results_key{fn:Func}{p:Tmp}(h:fn.results=#[.cell p 24])(tmps:Array Value)(g1 off:Nat)(h1:tmps[p]?.getD undef=.pointer (some ⟨g1,off,none⟩))(W:World)(a b:Value)(q0:W.cell? ⟨g1,off,none⟩=some a)(q1:W.cell? ⟨g1,off+1,none⟩=some b):
 (results fn tmps).run Tryz.prog W=.ok (.agg #[a,b]) W:=by
 simp[results,h,h1,asAddr,go_sem,q0,q1]
def KeyOk(w:World)(e:Ending)(w':World):Prop:=
 ∃g1 g2:Nat,e=.returned (.agg #[.slice (some ⟨g2,0,none⟩) 1 1,.bool false])∧Blk w' g1 9 #[.string ka]∧Blk w' g2 54 #[.slice (some ⟨g1,0,none⟩) 1 1,.bool false]∧Below w.heap.size w w'
theorem key_any(w:World):Calls Tryz.prog 18 #[] w (KeyOk w):=by
 go_enter Tryz.func18,Tryz.ntmps18
 go_wp2_with fail
 exact bodyPost_ret (results_key rfl _ _ _ rfl _ (.slice (some ⟨w.heap.size+1+1,0,none⟩) 1 1) (.bool false) ((((Blk.new_at rfl).alloc _).alloc _).cell 0) ((((Blk.new_at rfl).alloc _).alloc _).cell 1)) rfl
  ⟨w.heap.size+1,w.heap.size+1+1,rfl,(Blk.new_at (by simp)).alloc _,Blk.new_at (by simp),(((Below.refl _ _).alloc (qL) _).alloc (by simp) _).alloc (by simp;omega) _⟩
abbrev k5:ByteArray:=⟨#[3,128,0,0,0,0,0,0,5]⟩
theorem keyR_5:keyR [vIk 5]=(k5,0):=by rw[keyR_i,key5_eq]
theorem after_5(w:World):Calls Tryz.prog 67 #[.string k5] w fun e w'=>e=.returned (.tuple #[.string (k5.extract 0 8++strOfNums [((5+1:Nat):Int)]),.bool true])∧Below w.heap.size w w':=
 after9_any k5 5 w rfl rfl (by omega)
theorem awake48_any(w:World)(hT:Tabs w):Calls Tryz.prog 8 #[] w fun e w'=>e=.returned (.bool true)∧Below w.heap.size w w':=by
 have HT:=qD hT
 clear hT
 have Z:=qD (Below.refl w.heap.size w)
 go_enter Tryz.func8,Tryz.ntmps8
 go_wp2_with fail
 refine(rint01_any 5 _).mono ?_
 rintro e w1 ⟨rfl,hb⟩
 have Z1:=qD (Z.out.step' hb)
 clear hb Z
 go_upto_region 2 with fail
 change Code.wp _ _ _ _ ((w1.alloc (.cells #[.string ka,.int .i64 3,.int .i64 5,.string ByteArray.empty,.slice none 0 0,.slice none 0 0] 59)).alloc (.cells (cD w1.heap.size).arr 29))
 have F0:Hid (Blk ((w1.alloc (.cells #[.string ka,.int .i64 3,.int .i64 5,.string ByteArray.empty,.slice none 0 0,.slice none 0 0] 59)).alloc (.cells (cD w1.heap.size).arr 29)) w1.heap.size 59 #[.string ka,.int .i64 3,.int .i64 5,.string ByteArray.empty,.slice none 0 0,.slice none 0 0]):=(Blk.new_at rfl).alloc _
 have D0:Hid (Blk ((w1.alloc (.cells #[.string ka,.int .i64 3,.int .i64 5,.string ByteArray.empty,.slice none 0 0,.slice none 0 0] 59)).alloc (.cells (cD w1.heap.size).arr 29)) (w1.heap.size+1) 29 (cD w1.heap.size).arr):=Blk.new_at (by simp)
 have Z2:Hid (Below w.heap.size w ((w1.alloc (.cells #[.string ka,.int .i64 3,.int .i64 5,.string ByteArray.empty,.slice none 0 0,.slice none 0 0] 59)).alloc (.cells (cD w1.heap.size).arr 29))):=(Z1.out.alloc Z1.out.size _).alloc (by have:=Z1.out.size;simp;omega) _
 generalize ((w1.alloc (.cells #[.string ka,.int .i64 3,.int .i64 5,.string ByteArray.empty,.slice none 0 0,.slice none 0 0] 59)).alloc (.cells (cD w1.heap.size).arr 29))=wa at*
 generalize w1.heap.size=gf at*
 obtain⟨a0,a1,a2,a3,a4⟩:=VAt.of_blk D0.out
 simp only[Nat.zero_add] at a0 a1 a2 a3 a4
 have B:=qD ((Below.refl wa.heap.size wa).drewN 1)
 have KSS:Hid (∀w',Below wa.heap.size wa w'→w'.cell? ⟨gf+1,0,none⟩=some (.int .i64 5)∧w'.cell? ⟨gf+1,1,none⟩=some (.int .i64 0)∧w'.cell? ⟨gf+1,2,none⟩=some (.string ByteArray.empty)∧w'.cell? ⟨gf+1,3,none⟩=some (.slice none 0 0)∧w'.cell? ⟨gf+1,4,none⟩=some (.slice (some ⟨gf,0,none⟩) 1 1)):=qD fun w' hb=>
  ⟨(hb.cell (p:=⟨gf+1,0,none⟩) D0.out.lt).trans a0,(hb.cell (p:=⟨gf+1,1,none⟩) D0.out.lt).trans a1,(hb.cell (p:=⟨gf+1,2,none⟩) D0.out.lt).trans a2,(hb.cell (p:=⟨gf+1,3,none⟩) D0.out.lt).trans a3,(hb.cell (p:=⟨gf+1,4,none⟩) D0.out.lt).trans a4⟩
 have RD:=qD (rw_d F0.out)
 have HENC:Hid (∀(g2:Nat) (wq:World),Tabs wq→KS wq (some ⟨g2,0,none⟩) 1 1 ks1→RW wq (cD gf) (vD 5)→Calls Tryz.prog 12 #[.agg #[.slice (some ⟨g2,0,none⟩) 1 1,.bool false],(cD gf).val] wq fun e w'=>e=.returned (.tuple #[.string k5,.int .i64 0])∧Below wq.heap.size wq w'):=qD fun g2 wq ht hk hr=>by
  have:=senc_any ks1 false (some ⟨g2,0,none⟩) 1 1 (vD 5) (cD gf) wq ht hk hr (by decide)
  rw[enc_d,key5_eq] at this
  exact this
 clear a0 a1 a2 a3 a4
 go_cut [2,3] (fun v2 v3 wx=>v2=.string k5∧v3=.int .i64 0∧Below wa.heap.size wa wx)
 case first=>
  go_region_held3 (fun w'=>w'.cell? ⟨gf+1,0,none⟩=some (.int .i64 5)∧w'.cell? ⟨gf+1,1,none⟩=some (.int .i64 0)∧w'.cell? ⟨gf+1,2,none⟩=some (.string ByteArray.empty)∧w'.cell? ⟨gf+1,3,none⟩=some (.slice none 0 0)∧w'.cell? ⟨gf+1,4,none⟩=some (.slice (some ⟨gf,0,none⟩) 1 1))
   (first|exact KSS.out _ B.out|((try dsimp only);assumption)|go_keep)
   (first
    | (go_at_call 18;refine(key_any _).mono ?_;rintro e3 w3 ⟨g1,g2,rfl,hk1,hk2,hb⟩;replace B:=qD (B.out.step' hb);have K1:=qD hk1;have K2:=qD hk2;clear hb hk1 hk2)
    | (go_at_call 12;refine(HENC.out g2 _ (HT.out.step (Z2.out.step' B.out)) (ks_ka K1.out K2.out) (RD.out.step B.out)).mono ?_;rintro e4 w4 ⟨rfl,hb⟩;replace B:=qD (B.out.step' hb);clear hb))
  all_goals
   go_wp2_with fail
   go_meet
   exact⟨rfl,rfl,B.out⟩
 case rest=>
  obtain⟨rfl,rfl,hb9⟩:=hcut
  have Z3:=qD (Z2.out.step' hb9)
  clear hb9 KSS B HENC RD F0 D0 Z2 Z1
  generalize wc=w5 at*
  go_wp2_with fail
  refine(key_any _).mono ?_
  rintro e w6 ⟨g1,g2,rfl,hk1,hk2,hb⟩
  have K1:=qD hk1
  have K2:=qD hk2
  have Z4:=qD (Z3.out.step' hb)
  clear hb hk1 hk2 Z3
  go_wp2_with fail
  refine(rint01_any 5 _).mono ?_
  rintro e w7 ⟨rfl,hb⟩
  have P0:Hid (Blk w7 w6.heap.size 9 #[.string ka]):=(Blk.new_at rfl:Blk (w6.alloc (.cells #[.string ka] 9)) w6.heap.size 9 #[.string ka]).step hb
  have Z5:=qD ((Z4.out.alloc Z4.out.size (Obj.cells #[.string ka] 9)).step' hb)
  have K3:=qD ((K1.out.alloc (.cells #[.string ka] 9)).step hb)
  have K4:=qD ((K2.out.alloc (.cells #[.string ka] 9)).step hb)
  clear hb K1 K2 Z4
  generalize w6.heap.size=gp at*
  have HRG:=qD (ranges1_any (ptIv (vIk 5)) true k5 k5 (k5.extract 0 8++strOfNums [((5+1:Nat):Int)]) k5 (k5.extract 0 8++strOfNums [((5+1:Nat):Int)]) (predA 2 (some ⟨gp,0,none⟩) 1 1 (cIk 5)) rfl ⟨some ⟨g1,0,none⟩,1,1,false⟩ g2 0 1 1 w7 (HT.out.step Z5.out) (by omega) (K4.out.cell 0) ⟨rfl,rfl⟩ keyR_5 keyR_5 (.inl ⟨by show(3:Int)≠1;decide,by show(3:Int)≠11;decide,rfl,rfl⟩) after_5
   (fun wr hb=>of_eq (vIk 5) (cIk 5) (some ⟨gp,0,none⟩) (some ⟨g1,0,none⟩) 1 1 1 1 [ka] wr (HT.out.step (Z5.out.step' hb)) (rw_i 5 wr) (valid_i 5) (by show(3:Int)≠6;decide) (by show(3:Int)≠2;decide) (st_ka (P0.out.step hb)) (st_ka (K3.out.step hb)) same_ka))
  go_wp2_with fail
  refine HRG.out.mono ?_
  rintro e w8 ⟨A8,c8,rfl,hsr,hb⟩
  have Z6:=qD (Z5.out.step' hb)
  have HSR:=qD hsr
  clear hb hsr HRG Z5 K3 K4 P0
  obtain⟨b,off,x,hA8,hbw,hx,e0,e1⟩:=HSR.out.at22 (i:=0) (by omega)
  obtain rfl:x=(k5,k5.extract 0 8++strOfNums [((5+1:Nat):Int)]):=by simpa using hx.symm
  subst hA8
  rw[Nat.zero_mul,Nat.add_zero] at e0
  have E0:=qD e0
  clear hx e0 e1
  go_wp2_with fail
  refine(key_any _).mono ?_
  rintro e w9 ⟨g3,g4,rfl,hk1,hk2,hb⟩
  have E1:=qD ((hb.cell (p:=⟨b,off,none⟩) hbw).trans E0.out)
  have hbw9:b<w9.heap.size:=Nat.lt_of_lt_of_le hbw hb.size
  have HKK:=qD (ks_ka hk1 hk2)
  have Z7:=qD (Z6.out.step' hb)
  clear hb hk1 hk2 Z6 E0 hbw HSR
  have HSV:=qD (shardkey_any ks1 false (some ⟨g4,0,none⟩) 1 1 w9 HKK.out)
  rw[keyE_ks1] at HSV
  go_wp2_with fail
  refine HSV.out.mono ?_
  rintro e wA ⟨rfl,hb⟩
  have E2:=qD ((hb.cell (p:=⟨b,off,none⟩) hbw9).trans E1.out)
  have hbwA:b<wA.heap.size:=Nat.lt_of_lt_of_le hbw9 hb.size
  have Z8:=qD (Z7.out.step' hb)
  clear hb HSV HKK Z7 E1 hbw9
  have HSW:=qD (shardkey_any [] false none 0 0 wA KS.nil)
  rw[keyE_nil] at HSW
  go_wp2_with fail
  refine HSW.out.mono ?_
  rintro e wB ⟨rfl,hb⟩
  have E3:=(hb.cell (p:=⟨b,off,none⟩) hbwA).trans E2.out
  have Z9:=qD (Z8.out.step' hb)
  clear hb HSW Z8 E2 hbwA
  go_wp2_with fail
  refine(rnull_any _).mono ?_
  rintro e wC ⟨rfl,hb⟩
  have ZA:=qD (Z9.out.step' hb)
  clear hb Z9 E3
  go_wp2_with fail
  obtain⟨h1,hh1⟩:∃h,h=hashV nullV:=⟨_,rfl⟩
  obtain⟨h2,hh2⟩:∃h,h=hashV (vIk 5):=⟨_,rfl⟩
  have hne:(h1 != h2)=true:=by rw[hh1,hh2];simpa using hash_diff
  have HH1:=qD (hash_any nullV nullC wC (HT.out.step ZA.out) rv_null)
  rw[←hh1] at HH1
  have HH2:=qD hh2
  clear hh1 hh2
  refine HH1.out.mono ?_
  rintro e wD ⟨rfl,hb⟩
  have ZB:=qD (ZA.out.step' hb)
  clear hb ZA
  go_wp2_with fail
  refine(rint01_any 5 _).mono ?_
  rintro e wE ⟨rfl,hb⟩
  have ZC:=qD (ZB.out.step' hb)
  clear hb ZB
  have HH:=qD (hash_any (vIk 5) (cIk 5) wE (HT.out.step ZC.out) (rw_i 5 wE))
  rw[←HH2.out] at HH
  go_wp2_with fail
  refine HH.out.mono ?_
  rintro e wF ⟨rfl,hb⟩
  have ZD:=qD (ZC.out.step' hb)
  clear hb ZC HH HH1
  go_wp2_with fail
  go_ret
  exact⟨rfl,ZD.out⟩
theorem keyE_parts{ks:List Od}{ha:Bool}(h:keyE ks ha=0):ks.length≤8∧1≤ks.length∧(ha=true→ks.length=1):=by
 unfold keyE at h
 split at h
 ·rename_i h1;exact absurd h h1
 ·rename_i h1
  split at h
  ·cases h
  ·rename_i h2
   have h3:ordE ks=0:=by simpa using h1
   unfold ordE at h3
   split at h3
   ·cases h3
   ·rename_i h4
    have h5:¬ks.length=0:=fun e=>h2 (.inl e)
    exact⟨by omega,by omega,fun hh=>by
     have:¬1<ks.length:=fun e=>h2 (.inr ⟨hh,e⟩)
     omega⟩
structure KpB(w:World)(k:Array Value)(P:Array Value)(wr:World):Prop where
 b0:Blk wr w.heap.size 24 k
 b1:Blk wr (w.heap.size+1) 38 P
 bel:Below w.heap.size w wr
theorem KpB.step{w wr w':World}{k P:Array Value}(h:KpB w k P wr)(hb:Below wr.heap.size wr w'):KpB w k P w':=⟨h.b0.step hb,h.b1.step hb,h.bel.step' hb⟩
theorem KpB.start{w:World}{k P:Array Value}:KpB w k P ((w.alloc (.cells k 24)).alloc (.cells P 38)):=
 ⟨(Blk.new_at rfl).alloc _,Blk.new_at (by simp),((Below.refl _ _).alloc (qL) _).alloc (by simp) _⟩
theorem KS.first{w:World}{A:Option Addr}{n c:Nat}{ks:List Od}(h:KS w A n c ks)(hn:0<n):∃(b off:Nat) (o:OC) (q:Od),A=some ⟨b,off,none⟩∧w.cell? ⟨b,off,none⟩=some (.slice o.A o.n o.c)∧ST w o.A o.n o.c q.p∧ks[0]?=some q:=by
 obtain⟨os,h⟩:=h
 obtain⟨b,off,e,_,hc⟩:=h.sr.el hn
 obtain⟨o,ho⟩:∃o,os[0]?=some o:=⟨_,List.getElem?_eq_getElem (by have:=h.sr.ln;omega)⟩
 obtain⟨q,hq⟩:∃q,ks[0]?=some q:=⟨_,List.getElem?_eq_getElem (by have:=h.sr.ln;have:=h.ln;omega)⟩
 exact⟨b,off,o,q,e,hc 0 o ho 0 _ rfl,(h.el 0 o q ho hq).st,hq⟩
def RCmpAt(x:Val):Prop:=∀(y:Val) (c d:VC) (w:World),RW w c x→RW w d y→
 Calls Tryz.prog 79 #[c.val,d.val] w fun e w'=>e=.returned (.int .i64 (cmpV x y))∧Below w.heap.size w w'
theorem rcmp_any:∀x,RCmpAt x:=by
 intro x
 induction x using Val.ind with
 | h k n t l d ihl ihd=>
 intro y c e w hx hy
 obtain⟨ck,cn,ct,cLA,cln,clc,cDA,cdn,cdc⟩:=c
 obtain⟨ek,en,et,eLA,eln,elc,eDA,edn,edc⟩:=e
 have hk:ck=k:=hx.open.k
 have hn:cn=n:=hx.open.n
 have ht:ct=t:=hx.open.t
 subst hk hn ht
 have hk2:ek=y.k:=hy.open.k
 have hn2:en=y.n:=hy.open.n
 have ht2:et=y.t:=hy.open.t
 have I0:Hid (CpInv w ⟨ck,cn,ct,cLA,cln,clc,cDA,cdn,cdc⟩ ⟨ek,en,et,eLA,eln,elc,eDA,edn,edc⟩ ((w.alloc (.cells #[.int .i64 ck,.int .i64 cn,.string ct,.slice cLA cln clc,.slice cDA cdn cdc] 29)).alloc (.cells #[.int .i64 ek,.int .i64 en,.string et,.slice eLA eln elc,.slice eDA edn edc] 29))):=
  qD ⟨(Blk.new_at rfl).alloc _,Blk.new_at (by simp),((Below.refl _ _).alloc (qL) _).alloc (by simp) _⟩
 cases hne:(ck != ek)
 ·have he:ck=ek:=by simpa using hne
  have hxy:(Val.mk ck cn ct l d).k=y.k:=by rw[←hk2];exact he
  subst he
  rcases kind_ways ck with hi|ht' | hl|hd|ho
  ·have HV:Hid (cmpV (.mk ck cn ct l d) y=cmpI cn en):=by rw[Hid,cmpV_int hxy hi,hn2];rfl
   clear hx hy ihl ihd hk2 hn2 ht2 hxy
   rcases hi with rfl|rfl|rfl
   all_goals
    go_enter Tryz.func79,Tryz.ntmps79
    go_wp2_with fail
    refine(rints_any _ _ _).mono ?_
    rintro e w' ⟨rfl,rfl⟩
    go_wp2_with fail
    go_ret
    exact⟨by rw[HV.out];rfl,I0.out.bel⟩
  ·have HV:Hid (cmpV (.mk ck cn ct l d) y=cmpB ct et):=by rw[Hid,cmpV_text hxy ht',ht2];rfl
   have HT:Hid (ct.size≤reach):=hx.open.tsz
   clear hx hy ihl ihd hk2 hn2 ht2 hxy
   rcases ht' with rfl|rfl|rfl
   all_goals
    go_enter Tryz.func79,Tryz.ntmps79
    go_wp2_with fail
    refine(rtexts_any _ _ _ HT.out).mono ?_
    rintro e w' ⟨rfl,hb⟩
    go_wp2_with fail
    go_ret
    exact⟨by rw[HV.out];rfl,I0.out.bel.step' hb⟩
  ·have HV:=qD (cmpV_list hxy hl)
   obtain⟨ps,hps,hsl⟩:=hx.sl
   obtain⟨qs,hqs,hql⟩:=hy.sl
   simp only at hsl hql
   have hz1:=hsl.sz
   have hz2:=hql.sz
   unfold reach at hz1 hz2
   have P1:=qD hsl
   have P2:=qD hql
   have HN1:Hid (cln=l.length):=hx.open.ln
   have HN2:Hid (eln=y.l.length):=hy.open.ln
   have HS1:Hid (ps.map Prod.snd=l):=hps
   have HS2:Hid (qs.map Prod.snd=y.l):=hqs
   have IH:=qD ihl
   clear hx hy ihl ihd hk2 hn2 ht2 hxy hsl hql hps hqs
   subst hl
   all_goals
    go_enter Tryz.func79,Tryz.ntmps79
    go_wp2_with fail
    go_loopw [5] (fun v5 wr=>∃i:Nat,i≤cln∧i≤eln∧v5=.int .i64 i∧cmpL l y.l=cmpL (l.drop i) (y.l.drop i)∧CpInv w ⟨6,cn,ct,cLA,cln,clc,cDA,cdn,cdc⟩ ⟨6,en,et,eLA,eln,elc,eDA,edn,edc⟩ wr) (fun v5 _=>cln-(intOf v5).toNat)
    case atStart=>exact⟨0,Nat.zero_le _,Nat.zero_le _,rfl,rfl,I0.out⟩
    case round=>
     obtain⟨i,hi1,hi2,rfl,hq,I⟩:=hrel
     have HQ:=qD hq
     have J:=qD I
     have q0:=I.b0.cell 3
     have q1:=I.b1.cell 3
     simp at q0 q1
     clear hq
     by_cases hlt:i<cln∧i<eln
     ·obtain⟨hl1,hl2⟩:=hlt
      obtain⟨p,hp⟩:∃p,ps[i]?=some p:=⟨_,List.getElem?_eq_getElem (by have:=P1.out.sr.ln;omega)⟩
      obtain⟨q,hq⟩:∃q,qs[i]?=some q:=⟨_,List.getElem?_eq_getElem (by have:=P2.out.sr.ln;omega)⟩
      obtain⟨b1,o1,rfl,_,hu1,hr1⟩:=P1.out.vat hp
      obtain⟨b2,o2,rfl,_,hu2,hr2⟩:=P2.out.vat hq
      have g1:l[i]?=some p.2:=by rw[←HS1.out,List.getElem?_map,hp];rfl
      have g2:y.l[i]?=some q.2:=by rw[←HS2.out,List.getElem?_map,hq];rfl
      have HA:=qD (HQ.out.trans (cmpL_at g1 g2))
      obtain⟨y0,y1,y2,y3,y4⟩:=hu1.keep (I.bel.block b1 hu1.lt)
      obtain⟨z0,z1,z2,z3,z4⟩:=hu2.keep (I.bel.block b2 hu2.lt)
      have E0:∀q:BW wr,q.val.cell? ⟨w.heap.size,3,none⟩=some (.slice (some ⟨b1,o1,none⟩) cln clc):=fun q=>q.cell (J.out.b0.cell 3)
      have E1:∀q:BW wr,q.val.cell? ⟨w.heap.size+1,3,none⟩=some (.slice (some ⟨b2,o2,none⟩) eln elc):=fun q=>q.cell (J.out.b1.cell 3)
      have Y0:∀k:BW wr,k.val.cell? ⟨b1,o1+i*5,none⟩=some (.int .i64 p.1.k):=fun k=>k.cell y0
      have Y1:∀k:BW wr,k.val.cell? ⟨b1,o1+i*5+1,none⟩=some (.int .i64 p.1.n):=fun k=>k.cell y1
      have Y2:∀k:BW wr,k.val.cell? ⟨b1,o1+i*5+2,none⟩=some (.string p.1.t):=fun k=>k.cell y2
      have Y3:∀k:BW wr,k.val.cell? ⟨b1,o1+i*5+3,none⟩=some (.slice p.1.LA p.1.ln p.1.lc):=fun k=>k.cell y3
      have Y4:∀k:BW wr,k.val.cell? ⟨b1,o1+i*5+4,none⟩=some (.slice p.1.DA p.1.dn p.1.dc):=fun k=>k.cell y4
      have Z0:∀k:BW wr,k.val.cell? ⟨b2,o2+i*5,none⟩=some (.int .i64 q.1.k):=fun k=>k.cell z0
      have Z1:∀k:BW wr,k.val.cell? ⟨b2,o2+i*5+1,none⟩=some (.int .i64 q.1.n):=fun k=>k.cell z1
      have Z2:∀k:BW wr,k.val.cell? ⟨b2,o2+i*5+2,none⟩=some (.string q.1.t):=fun k=>k.cell z2
      have Z3:∀k:BW wr,k.val.cell? ⟨b2,o2+i*5+3,none⟩=some (.slice q.1.LA q.1.ln q.1.lc):=fun k=>k.cell z3
      have Z4:∀k:BW wr,k.val.cell? ⟨b2,o2+i*5+4,none⟩=some (.slice q.1.DA q.1.dn q.1.dc):=fun k=>k.cell z4
      have K1:Hid (∀k:BW wr,Calls Tryz.prog 79 #[p.1.val,q.1.val] k.val fun e w''=>e=.returned (.int .i64 (cmpV p.2 q.2))∧∃k:BW wr,w''=k.val):=fun k=>
       Calls.bw (IH.out p.2 (List.mem_of_getElem? g1) q.2 p.1 q.1 k.val ((hr1.step I.bel).step k.below) ((hr2.step I.bel).step k.below))
      have hi0:(0:Int)≤(i:Int):=by omega
      have hi3:(i:Int)<(cln:Int):=by omega
      have hi4:(i:Int)<(eln:Int):=by omega
      clear hp hq hu1 hu2 hr1 hr2 g1 g2 y0 y1 y2 y3 y4 z0 z1 z2 z3 z4 I
      go_upto_region 16 with fail
      refine wp_region_bw (by kernel_rfl) (by kernel_rfl) ?_
      repeat(go_big_quiet_step (with_reducible exact K1.out _))
      refine wpQuiet_nil ?_
      rintro _ ⟨kw,rfl⟩
      have J2:=qD (J.out.step kw.below)
      clear E0 E1 Y0 Y1 Y2 Y3 Y4 Z0 Z1 Z2 Z3 Z4 K1 hi0 hi3 hi4
      generalize kw.val=w2 at*
      cases hc:(cmpV p.2 q.2 != 0)
      ·have HC:Hid (cmpL l y.l=cmpL (l.drop (i+1)) (y.l.drop (i+1))):=by
        have:cmpV p.2 q.2=0:=by simpa using hc
        rw[Hid,HA.out,if_neg (by simpa using this)]
       go_wp2_with fail
       go_roundw
       case rel=>exact⟨i+1,by omega,by omega,by go_num,HC.out,J2.out⟩
       case measure=>simp[intOf];omega
      ·have HC:Hid (cmpL l y.l=cmpV p.2 q.2):=by
        rw[Hid,HA.out,if_pos (by simpa using hc)]
       go_wp2_with fail
       go_ret
       exact⟨by rw[HV.out];show _=Ending.returned (.int .i64 (cmpL l y.l));rw[HC.out];rfl,J2.out.bel⟩
     ·have HE:=qD (HQ.out.trans (cmpL_end (by have:=HN1.out;omega) (by have:=HN2.out;omega) (by have:=HN1.out;have:=HN2.out;omega)))
      clear I
      by_cases hl1:i<cln
      all_goals
       first|have hx9:eln≤i:=by omega|have hx9:cln≤i:=by omega
       go_wp2_with fail
       refine(rints_any _ _ _).mono ?_
       rintro e w' ⟨rfl,rfl⟩
       go_wp2_with fail
       go_ret
       exact⟨by rw[HV.out];show _=Ending.returned (.int .i64 (cmpL l y.l));rw[HE.out,←HN1.out,←HN2.out];rfl,J.out.bel⟩
  ·have HV:=qD (cmpV_doc hxy hd)
   obtain⟨ps,hps,hsl⟩:=hx.sd
   obtain⟨qs,hqs,hql⟩:=hy.sd
   simp only at hsl hql
   have hz1:=hsl.sz
   have hz2:=hql.sz
   unfold reach at hz1 hz2
   have P1:=qD hsl
   have P2:=qD hql
   have HN1:Hid (cdn=d.length):=hx.open.dn
   have HN2:Hid (edn=y.d.length):=hy.open.dn
   have HS1:Hid (ps.map Prod.snd=d):=hps
   have HS2:Hid (qs.map Prod.snd=y.d):=hqs
   have IH:=qD ihd
   clear hx hy ihl ihd hk2 hn2 ht2 hxy hsl hql hps hqs
   subst hd
   all_goals
    go_enter Tryz.func79,Tryz.ntmps79
    go_wp2_with fail
    go_loopw [7] (fun v7 wr=>∃i:Nat,i≤cdn∧i≤edn∧v7=.int .i64 i∧cmpD d y.d=cmpD (d.drop i) (y.d.drop i)∧CpInv w ⟨5,cn,ct,cLA,cln,clc,cDA,cdn,cdc⟩ ⟨5,en,et,eLA,eln,elc,eDA,edn,edc⟩ wr) (fun v7 _=>cdn-(intOf v7).toNat)
    case atStart=>exact⟨0,Nat.zero_le _,Nat.zero_le _,rfl,rfl,I0.out⟩
    case round=>
     obtain⟨i,hi1,hi2,rfl,hq,I⟩:=hrel
     have HQ:=qD hq
     have J:=qD I
     have q0:=I.b0.cell 4
     have q1:=I.b1.cell 4
     simp at q0 q1
     clear hq
     by_cases hlt:i<cdn∧i<edn
     ·obtain⟨hl1,hl2⟩:=hlt
      obtain⟨p,hp⟩:∃p,ps[i]?=some p:=⟨_,List.getElem?_eq_getElem (by have:=P1.out.sr.ln;omega)⟩
      obtain⟨q,hq⟩:∃q,qs[i]?=some q:=⟨_,List.getElem?_eq_getElem (by have:=P2.out.sr.ln;omega)⟩
      obtain⟨b1,o1,rfl,_,hs1,hu1,hr1⟩:=P1.out.vat hp
      obtain⟨b2,o2,rfl,_,hs2,hu2,hr2⟩:=P2.out.vat hq
      have g1:d[i]?=some p.2:=by rw[←HS1.out,List.getElem?_map,hp];rfl
      have g2:y.d[i]?=some q.2:=by rw[←HS2.out,List.getElem?_map,hq];rfl
      have HA:=qD (HQ.out.trans (cmpD_at g1 g2))
      obtain⟨y0,y1,y2,y3,y4⟩:=hu1.keep (I.bel.block b1 hu1.lt)
      obtain⟨z0,z1,z2,z3,z4⟩:=hu2.keep (I.bel.block b2 hu2.lt)
      have n0:=(I.bel.cell (p:=⟨b1,o1+i*6,none⟩) hu1.lt).trans hs1
      have n1:=(I.bel.cell (p:=⟨b2,o2+i*6,none⟩) hu2.lt).trans hs2
      have N0:∀k:BW wr,k.val.cell? ⟨b1,o1+i*6,none⟩=some (.string p.2.s):=fun k=>k.cell n0
      have N1:∀k:BW wr,k.val.cell? ⟨b2,o2+i*6,none⟩=some (.string q.2.s):=fun k=>k.cell n1
      have E0:∀q:BW wr,q.val.cell? ⟨w.heap.size,4,none⟩=some (.slice (some ⟨b1,o1,none⟩) cdn cdc):=fun q=>q.cell (J.out.b0.cell 4)
      have E1:∀q:BW wr,q.val.cell? ⟨w.heap.size+1,4,none⟩=some (.slice (some ⟨b2,o2,none⟩) edn edc):=fun q=>q.cell (J.out.b1.cell 4)
      have Y0:∀k:BW wr,k.val.cell? ⟨b1,o1+i*6+1,none⟩=some (.int .i64 p.1.k):=fun k=>k.cell y0
      have Y1:∀k:BW wr,k.val.cell? ⟨b1,o1+i*6+1+1,none⟩=some (.int .i64 p.1.n):=fun k=>k.cell y1
      have Y2:∀k:BW wr,k.val.cell? ⟨b1,o1+i*6+1+2,none⟩=some (.string p.1.t):=fun k=>k.cell y2
      have Y3:∀k:BW wr,k.val.cell? ⟨b1,o1+i*6+1+3,none⟩=some (.slice p.1.LA p.1.ln p.1.lc):=fun k=>k.cell y3
      have Y4:∀k:BW wr,k.val.cell? ⟨b1,o1+i*6+1+4,none⟩=some (.slice p.1.DA p.1.dn p.1.dc):=fun k=>k.cell y4
      have Z0:∀k:BW wr,k.val.cell? ⟨b2,o2+i*6+1,none⟩=some (.int .i64 q.1.k):=fun k=>k.cell z0
      have Z1:∀k:BW wr,k.val.cell? ⟨b2,o2+i*6+1+1,none⟩=some (.int .i64 q.1.n):=fun k=>k.cell z1
      have Z2:∀k:BW wr,k.val.cell? ⟨b2,o2+i*6+1+2,none⟩=some (.string q.1.t):=fun k=>k.cell z2
      have Z3:∀k:BW wr,k.val.cell? ⟨b2,o2+i*6+1+3,none⟩=some (.slice q.1.LA q.1.ln q.1.lc):=fun k=>k.cell z3
      have Z4:∀k:BW wr,k.val.cell? ⟨b2,o2+i*6+1+4,none⟩=some (.slice q.1.DA q.1.dn q.1.dc):=fun k=>k.cell z4
      have KB:Hid (∀(W:World),Below w.heap.size w W→∀k:BW W,Calls Tryz.prog 79 #[p.1.val,q.1.val] k.val fun e w''=>e=.returned (.int .i64 (cmpV p.2.v q.2.v))∧∃k:BW W,w''=k.val):=fun W hW k=>
       Calls.bw (IH.out p.2 (List.mem_of_getElem? g1) q.2.v p.1 q.1 k.val ((hr1.step hW).step k.below) ((hr2.step hW).step k.below))
      have hi0:(0:Int)≤(i:Int):=by omega
      have hi3:(i:Int)<(cdn:Int):=by omega
      have hi4:(i:Int)<(edn:Int):=by omega
      clear hq hu1 hu2 hr1 hr2 g1 g2 y0 y1 y2 y3 y4 z0 z1 z2 z3 z4 I hs1 hs2 n0 n1
      have K2:Hid (∀k:BW wr,Calls Tryz.prog 78 #[.string p.2.s,.string q.2.s] k.val fun e w''=>e=.returned (.int .i64 (cmpB p.2.s q.2.s))∧∃k:BW wr,w''=k.val):=fun k=>
       Calls.bw (rtexts_any _ _ _ (P1.out.ns p (List.mem_of_getElem? hp)))
      clear hp
      go_upto_region 24 with fail
      refine wp_region_bw (by kernel_rfl) (by kernel_rfl) ?_
      repeat(go_big_quiet_step (with_reducible exact K2.out _))
      refine wpQuiet_nil ?_
      rintro _ ⟨kw,rfl⟩
      clear q0 q1
      cases hb:(cmpB p.2.s q.2.s != 0)
      ·have hb0:(cmpB p.2.s q.2.s==0)=true:=by simpa using hb
       have HA':Hid (cmpD d y.d=if cmpV p.2.v q.2.v≠0 then cmpV p.2.v q.2.v else cmpD (d.drop (i+1)) (y.d.drop (i+1))):=by
        have:cmpB p.2.s q.2.s=0:=by simpa using hb
        rw[Hid,HA.out,if_neg (by simpa using this)]
       have J1:=qD (J.out.step kw.below)
       have E0':∀q:BW kw.val,q.val.cell? ⟨w.heap.size,4,none⟩=some (.slice (some ⟨b1,o1,none⟩) cdn cdc):=fun q=>q.cell (E0 kw)
       have E1':∀q:BW kw.val,q.val.cell? ⟨w.heap.size+1,4,none⟩=some (.slice (some ⟨b2,o2,none⟩) edn edc):=fun q=>q.cell (E1 kw)
       have Y0':∀k:BW kw.val,k.val.cell? ⟨b1,o1+i*6+1,none⟩=some (.int .i64 p.1.k):=fun k=>k.cell (Y0 kw)
       have Y1':∀k:BW kw.val,k.val.cell? ⟨b1,o1+i*6+1+1,none⟩=some (.int .i64 p.1.n):=fun k=>k.cell (Y1 kw)
       have Y2':∀k:BW kw.val,k.val.cell? ⟨b1,o1+i*6+1+2,none⟩=some (.string p.1.t):=fun k=>k.cell (Y2 kw)
       have Y3':∀k:BW kw.val,k.val.cell? ⟨b1,o1+i*6+1+3,none⟩=some (.slice p.1.LA p.1.ln p.1.lc):=fun k=>k.cell (Y3 kw)
       have Y4':∀k:BW kw.val,k.val.cell? ⟨b1,o1+i*6+1+4,none⟩=some (.slice p.1.DA p.1.dn p.1.dc):=fun k=>k.cell (Y4 kw)
       have Z0':∀k:BW kw.val,k.val.cell? ⟨b2,o2+i*6+1,none⟩=some (.int .i64 q.1.k):=fun k=>k.cell (Z0 kw)
       have Z1':∀k:BW kw.val,k.val.cell? ⟨b2,o2+i*6+1+1,none⟩=some (.int .i64 q.1.n):=fun k=>k.cell (Z1 kw)
       have Z2':∀k:BW kw.val,k.val.cell? ⟨b2,o2+i*6+1+2,none⟩=some (.string q.1.t):=fun k=>k.cell (Z2 kw)
       have Z3':∀k:BW kw.val,k.val.cell? ⟨b2,o2+i*6+1+3,none⟩=some (.slice q.1.LA q.1.ln q.1.lc):=fun k=>k.cell (Z3 kw)
       have Z4':∀k:BW kw.val,k.val.cell? ⟨b2,o2+i*6+1+4,none⟩=some (.slice q.1.DA q.1.dn q.1.dc):=fun k=>k.cell (Z4 kw)
       have K1':Hid (∀k:BW kw.val,Calls Tryz.prog 79 #[p.1.val,q.1.val] k.val fun e w''=>e=.returned (.int .i64 (cmpV p.2.v q.2.v))∧∃k:BW kw.val,w''=k.val):=fun k=>
        KB.out kw.val (J1.out.bel) k
       clear E0 E1 Y0 Y1 Y2 Y3 Y4 Z0 Z1 Z2 Z3 Z4 N0 N1 K2
       generalize kw.val=w2 at*
       go_upto_region 26 with fail
       refine wp_region_bw (by kernel_rfl) (by kernel_rfl) ?_
       repeat(go_big_quiet_step (with_reducible exact K1'.out _))
       refine wpQuiet_nil ?_
       rintro _ ⟨kv,rfl⟩
       have J2:=qD (J1.out.step kv.below)
       clear E0' E1' Y0' Y1' Y2' Y3' Y4' Z0' Z1' Z2' Z3' Z4' K1' hi0 hi3 hi4
       generalize kv.val=w3 at*
       cases hc:(cmpV p.2.v q.2.v != 0)
       ·have HC:Hid (cmpD d y.d=cmpD (d.drop (i+1)) (y.d.drop (i+1))):=by
         have:cmpV p.2.v q.2.v=0:=by simpa using hc
         rw[Hid,HA'.out,if_neg (by simpa using this)]
        go_wp2_with fail
        go_roundw
        case rel=>exact⟨i+1,by omega,by omega,by go_num,HC.out,J2.out⟩
        case measure=>simp[intOf];omega
       ·have HC:Hid (cmpD d y.d=cmpV p.2.v q.2.v):=by
         rw[Hid,HA'.out,if_pos (by simpa using hc)]
        go_wp2_with fail
        go_ret
        exact⟨by rw[HV.out];show _=Ending.returned (.int .i64 (cmpD d y.d));rw[HC.out];rfl,J2.out.bel⟩
      ·have hb0:(cmpB p.2.s q.2.s==0)=false:=by simpa using hb
       have HC:Hid (cmpD d y.d=cmpB p.2.s q.2.s):=by
        rw[Hid,HA.out,if_pos (by simpa using hb)]
       have J2:=qD (J.out.step kw.below)
       clear E0 E1 Y0 Y1 Y2 Y3 Y4 Z0 Z1 Z2 Z3 Z4 N0 N1 K2 hi0 hi3 hi4
       generalize kw.val=w2 at*
       go_wp2_with fail
       go_ret
       exact⟨by rw[HV.out];show _=Ending.returned (.int .i64 (cmpD d y.d));rw[HC.out];rfl,J2.out.bel⟩
     ·have HE:=qD (HQ.out.trans (cmpD_end (by have:=HN1.out;omega) (by have:=HN2.out;omega) (by have:=HN1.out;have:=HN2.out;omega)))
      clear I
      by_cases hl1:i<cdn
      all_goals
       first|have hx9:edn≤i:=by omega|have hx9:cdn≤i:=by omega
       go_wp2_with fail
       refine(rints_any _ _ _).mono ?_
       rintro e w' ⟨rfl,rfl⟩
       go_wp2_with fail
       go_ret
       exact⟨by rw[HV.out];show _=Ending.returned (.int .i64 (cmpD d y.d));rw[HE.out,←HN1.out,←HN2.out];rfl,J.out.bel⟩
  ·obtain⟨h3,h9,h10,h4,h7,h8,h6,h5⟩:=ho
   have HV:=qD (cmpV_other hxy h3 h9 h10 h4 h7 h8 h6 h5)
   clear hx hy ihl ihd hk2 hn2 ht2 hxy
   have e3:(ck==3)=false:=by simpa using h3
   have e9:(ck==9)=false:=by simpa using h9
   have e10:(ck==10)=false:=by simpa using h10
   have e4:(ck==4)=false:=by simpa using h4
   have e7:(ck==7)=false:=by simpa using h7
   have e8:(ck==8)=false:=by simpa using h8
   have e6:(ck==6)=false:=by simpa using h6
   have e5:(ck==5)=false:=by simpa using h5
   clear h3 h9 h10 h4 h7 h8 h6 h5
   go_enter Tryz.func79,Tryz.ntmps79
   go_wp2_with fail
   go_ret
   exact⟨by rw[HV.out];rfl,I0.out.bel⟩
 ·have HV:Hid (cmpV (.mk ck cn ct l d) y=cmpI ck ek):=by
   have:ck≠ek:=by simpa using hne
   rw[Hid,cmpV_kind (by rw[←hk2];exact this),←hk2]
   rfl
  clear hx hy ihl ihd hk2 hn2 ht2
  go_enter Tryz.func79,Tryz.ntmps79
  go_wp2_with fail
  refine(rints_any _ _ _).mono ?_
  rintro e w' ⟨rfl,rfl⟩
  go_wp2_with fail
  go_ret
  exact⟨by rw[HV.out];rfl,I0.out.bel⟩
theorem VAt.bw{w:World}{b off:Nat}{v:VC}(h:VAt w b off v):(∀kk:BW w,kk.val.cell? ⟨b,off,none⟩=some (.int .i64 v.k))∧(∀kk:BW w,kk.val.cell? ⟨b,off+1,none⟩=some (.int .i64 v.n))∧(∀kk:BW w,kk.val.cell? ⟨b,off+2,none⟩=some (.string v.t))∧
 (∀kk:BW w,kk.val.cell? ⟨b,off+3,none⟩=some (.slice v.LA v.ln v.lc))∧(∀kk:BW w,kk.val.cell? ⟨b,off+4,none⟩=some (.slice v.DA v.dn v.dc)):=
 ⟨fun kk=>kk.cell h.1,fun kk=>kk.cell h.2.1,fun kk=>kk.cell h.2.2.1,fun kk=>kk.cell h.2.2.2.1,fun kk=>kk.cell h.2.2.2.2⟩
theorem same_z(x y:Iv):sameIv x y=(!(cmpV x.lo y.lo != 0)&&(!(cmpV x.hi y.hi != 0)&&((x.li==y.li)&&(x.hin==y.hin)))):=by
 unfold sameIv
 simp only[bne,Bool.not_not]
 generalize (x.li==y.li)=a
 generalize (x.hin==y.hin)=b
 generalize (cmpV x.lo y.lo==0)=c
 generalize (cmpV x.hi y.hi==0)=d
 revert a b c d
 decide
theorem requal_any(xs ys:List PI)(A B:Option Addr)(n c m d:Nat)(w:World)(h:SI w A n c xs)(h':SI w B m d ys):
 Calls Tryz.prog 117 #[.slice A n c,.slice B m d] w fun e w'=>e=.returned (.bool (sameIvs (xs.map ivP) (ys.map ivP)))∧Below w.heap.size w w':=by
 have hz:n≤140737488355328:=by have:=h.sz;unfold reach at this;omega
 have hk:m≤140737488355328:=by have:=h'.sz;unfold reach at this;omega
 have H:=qD h
 have H':=qD h'
 clear h h'
 by_cases hnk:n=m
 ·subst hnk
  go_enter Tryz.func117,Tryz.ntmps117
  go_upto_region 4 with fail
  go_loopw [5] (fun v wr=>∃i:Nat,i≤n∧v=.int .i64 i∧sameIvs (xs.map ivP) (ys.map ivP)=sameIvs ((xs.map ivP).drop i) ((ys.map ivP).drop i)∧Below w.heap.size w wr) (fun v _=>n-(intOf v).toNat)
  case atStart=>exact⟨0,Nat.zero_le _,rfl,rfl,Below.refl _ _⟩
  case round=>
   obtain⟨i,hi,rfl,ha,hbel⟩:=hrel
   have HA:=qD ha
   have HB:=qD hbel
   clear ha hbel
   by_cases hlt:i<n
   ·obtain⟨p,hp⟩:∃p,xs[i]?=some p:=⟨_,List.getElem?_eq_getElem (by have:=H.out.sr.ln;omega)⟩
    obtain⟨q,hq⟩:∃q,ys[i]?=some q:=⟨_,List.getElem?_eq_getElem (by have:=H'.out.sr.ln;omega)⟩
    obtain⟨b,off,rfl,hb,hat,hok⟩:=H.out.at hp
    obtain⟨b',off',rfl,hb',hat',hok'⟩:=H'.out.at hq
    have HX:=qD (sameIvs_at (l:=xs.map ivP) (m:=ys.map ivP) (i:=i) (x:=ivP p) (y:=ivP q) (by rw[List.getElem?_map,hp];rfl) (by rw[List.getElem?_map,hq];rfl))
    obtain⟨u1,u2,u3,u4⟩:=hat.keep (HB.out.block b hb)
    obtain⟨v1,v2,v3,v4⟩:=hat'.keep (HB.out.block b' hb')
    obtain⟨a0,a1,a2,a3,a4⟩:=u1.bw
    obtain⟨b0,b1,b2,b3,b4⟩:=u2.bw
    obtain⟨c0,c1,c2,c3,c4⟩:=v1.bw
    obtain⟨d0,d1,d2,d3,d4⟩:=v2.bw
    have a5:∀kk:BW wr,kk.val.cell? ⟨b,off+i*12+10,none⟩=some (.bool p.2.1):=fun kk=>kk.cell u3
    have a6:∀kk:BW wr,kk.val.cell? ⟨b,off+i*12+11,none⟩=some (.bool p.2.2):=fun kk=>kk.cell u4
    have c5:∀kk:BW wr,kk.val.cell? ⟨b',off'+i*12+10,none⟩=some (.bool q.2.1):=fun kk=>kk.cell v3
    have c6:∀kk:BW wr,kk.val.cell? ⟨b',off'+i*12+11,none⟩=some (.bool q.2.2):=fun kk=>kk.cell v4
    have K1:Hid (∀kk:BW wr,Calls Tryz.prog 79 #[p.1.1.1.val,q.1.1.1.val] kk.val fun e w''=>e=.returned (.int .i64 (cmpV p.1.1.2 q.1.1.2))∧∃kk:BW wr,w''=kk.val):=fun kk=>
     Calls.bw (rcmp_any _ _ _ _ _ (hok.step (HB.out.step' kk.below)).1 (hok'.step (HB.out.step' kk.below)).1)
    have K2:Hid (∀kk:BW wr,Calls Tryz.prog 79 #[p.1.2.1.val,q.1.2.1.val] kk.val fun e w''=>e=.returned (.int .i64 (cmpV p.1.2.2 q.1.2.2))∧∃kk:BW wr,w''=kk.val):=fun kk=>
     Calls.bw (rcmp_any _ _ _ _ _ (hok.step (HB.out.step' kk.below)).2 (hok'.step (HB.out.step' kk.below)).2)
    have HS:Hid (sameIv (ivP p) (ivP q)=(!(cmpV p.1.1.2 q.1.1.2 != 0)&&(!(cmpV p.1.2.2 q.1.2.2 != 0)&&((p.2.1==q.2.1)&&(p.2.2==q.2.2))))):=qD (same_z _ _)
    clear hat hat' hok hok' hp hq u1 u2 u3 u4 v1 v2 v3 v4
    obtain⟨⟨⟨x1,X1⟩,⟨x2,X2⟩⟩,⟨f1,f2⟩⟩:=p
    obtain⟨⟨⟨y1,Y1⟩,⟨y2,Y2⟩⟩,⟨g1,g2⟩⟩:=q
    simp only at a0 a1 a2 a3 a4 a5 a6 b0 b1 b2 b3 b4 c0 c1 c2 c3 c4 c5 c6 d0 d1 d2 d3 d4 K1 K2 HS
    generalize cmpV X1 Y1=e1 at*
    generalize cmpV X2 Y2=e2 at*
    have i0:(0:Int)≤(i:Int):=by omega
    have i1:(i:Int)<(n:Int):=by omega
    go_upto_region 6 with fail
    obtain⟨z1,hz1⟩:∃z,(e1 != 0)=z:=⟨_,rfl⟩
    obtain⟨z2,hz2⟩:∃z,(e2 != 0)=z:=⟨_,rfl⟩
    obtain⟨t1,ht1⟩:∃z,(f1==g1)=z:=⟨_,rfl⟩
    obtain⟨t2,ht2⟩:∃z,(f2==g2)=z:=⟨_,rfl⟩
    rw[hz1,hz2,ht1,ht2] at HS
    rcases(show z1=true∨(z1=false∧z2=true)∨(z1=false∧z2=false∧t1=false)∨(z1=false∧z2=false∧t1=true∧t2=false)∨(z1=false∧z2=false∧t1=true∧t2=true) by clear hz1 hz2 ht1 ht2 HS;revert z1 z2 t1 t2;decide) with rfl|⟨rfl,rfl⟩|⟨rfl,rfl,rfl⟩|⟨rfl,rfl,rfl,rfl⟩|⟨rfl,rfl,rfl,rfl⟩
    all_goals
     refine wp_region_bw (by kernel_rfl) (by kernel_rfl) ?_
     repeat(go_big_quiet_step (first|(go_at_call 79;with_reducible exact K1.out _)|(go_at_call 79;with_reducible exact K2.out _)))
     refine wpQuiet_nil ?_
     rintro _ ⟨kw,rfl⟩
     have HK:=qD kw.below
     generalize kw.val=w5 at*
     clear a0 a1 a2 a3 a4 a5 a6 b0 b1 b2 b3 b4 c0 c1 c2 c3 c4 c5 c6 d0 d1 d2 d3 d4 K1 K2
     go_wp2_with fail
     first
      | (go_ret;exact⟨by rw[HA.out,HX.out,HS.out];rfl,HB.out.step' HK.out⟩)
      | (go_roundw
         case rel=>exact⟨i+1,by omega,by go_num,by rw[HA.out,HX.out,HS.out];rfl,HB.out.step' HK.out⟩
         case measure=>simp[intOf];omega)
   ·have HF:Hid (sameIvs (xs.map ivP) (ys.map ivP)=true):=by rw[Hid,HA.out];exact sameIvs_end (by have:=H.out.sr.ln;simp;omega) (by have:=H'.out.sr.ln;simp;omega)
    go_wp2_with fail
    go_ret
    exact⟨by rw[HF.out];rfl,HB.out⟩
 ·have HF:Hid (sameIvs (xs.map ivP) (ys.map ivP)=false):=sameIvs_len (by have:=H.out.sr.ln;have:=H'.out.sr.ln;simp;omega)
  have hnk':((n:Int) != (m:Int))=true:=by simp;omega
  go_enter Tryz.func117,Tryz.ntmps117
  go_wp2_with fail
  go_ret
  exact⟨by rw[HF.out];rfl,Below.refl _ _⟩
theorem risAll_any{S:Cut→Prop}{nf:List (Cut×Cut)}(xs:List PI)(A:Option Addr)(n c:Nat)(w:World)(h:SI w A n c xs)(hx:xs.map ivP=nf.map ivOf)(hn:IsNF S nf):
 Calls Tryz.prog 73 #[.slice A n c] w fun e w'=>e=.returned (.bool (isAllB S))∧Below w.heap.size w w':=by
 have H:=qD h
 have HX:=qD hx
 have HN:=qD hn
 clear h hx hn
 go_enter Tryz.func73,Tryz.ntmps73
 go_wp2_with fail
 refine(rall_any w).mono ?_
 rintro e w1 ⟨A1,m1,c1,ys,n1,rfl,hy,hn1,_,hsi,hb⟩
 have HB:=qD hb
 have HS:Hid (sameIvs (xs.map ivP) (ys.map ivP)=isAllB S):=by
  have e1:n1=[((vMin,false),(vMax,true))]:=hn1.unique all_nf fun _ _=>Iff.rfl
  rw[Hid,HX.out,hy,Bool.eq_iff_iff,sameIvs_iff (fun s hs=>(HN.out.1.ne s hs).2) (fun s hs=>(hn1.1.ne s hs).2),e1]
  exact nf_isAll HN.out
 have HC:=qD (requal_any xs ys A A1 n c m1 c1 w1 (H.out.step hb) hsi)
 rw[HS.out] at HC
 clear hb hy hn1 hsi HS
 go_wp2_with fail
 refine HC.out.mono ?_
 rintro e w2 ⟨rfl,hb⟩
 have CE:=qD (HB.out.step' hb)
 clear hb
 go_wp2_with fail
 go_ret
 exact⟨rfl,CE.out⟩
theorem wpl_putHiR{ops:Array Oper}{rest:List Oper}{o:Oper}{a:Act}{w W:World}{Q:Exit→Act→World→Prop}{B g g0:Nat}{p:PI}{c:VC}{t0:TypeId}{cs0:Array Value}(hgd:o.guard=none)(x y:Operand)(ho:o.op=.store 29 x y)(hx:a.eval x=.pointer (some ⟨g,5,none⟩))(hy:a.eval y=.agg c.arr)(h1:Blk w g 67 (arrI p))(h0:Blk w g0 t0 cs0)(hb:Below B W w)(n0:g0≠g)(hB:B≤g)(v:Val)(h:∀w6,Blk w6 g 67 (arrI ((p.1.1,(c,v)),p.2))→Blk w6 g0 t0 cs0→Below B W w6→wpList Tryz.prog ops Q rest (a.put o.dst undef) w6):wpList Tryz.prog ops Q (o::rest) a w:=
 wpList_store_mid hgd 29 x y ho g 5 c.arr hx hy (iv_there h1 (by simp)) (by kernel_rfl) (by simp[Value.oneCell']) (h _ (putHi h1 c v) (blk_far9 h0 n0 _ _) (bel_cells9 hb hB _ _))
def lstC(k:Int):VC:=if k=3 then cLf 3 (-9223372036854775808) ByteArray.empty else if k=8 then cLf 8 0 zero12 else cLf k 0 ByteArray.empty
theorem rleast_any(k:Int)(w:World):Calls Tryz.prog 155 #[.int .i64 k] w fun e w'=>e=.returned (lstC k).val∧Below w.heap.size w w':=by
 unfold lstC
 by_cases h3:k=3
 ·subst h3
  rw[if_pos rfl]
  go_enter Tryz.func155,Tryz.ntmps155
  go_wp2_with fail
  exact bodyPost_ret (results_val rfl _ _ _ rfl _ (cLf 3 (-9223372036854775808) ByteArray.empty) (VAt.of_blk (Blk.new _ _ _))) rfl ⟨rfl,(Below.refl _ _).alloc (qL) _⟩
 by_cases h8:k=8
 ·subst h8
  rw[if_neg (by decide),if_pos rfl]
  go_enter Tryz.func155,Tryz.ntmps155
  go_wp2_with fail
  exact bodyPost_ret (results_val rfl _ _ _ rfl _ (cLf 8 0 zero12) (VAt.of_blk (Blk.new _ _ _))) rfl ⟨rfl,(Below.refl _ _).alloc (qL) _⟩
 have h3':(k==3)=false:=by simpa using h3
 have h8':(k==8)=false:=by simpa using h8
 rw[if_neg h3,if_neg h8]
 clear h3 h8
 go_enter Tryz.func155,Tryz.ntmps155
 go_wp2_with fail
 exact bodyPost_ret (results_val rfl _ _ _ rfl _ (cLf k 0 ByteArray.empty) (VAt.of_blk (Blk.new _ _ _))) rfl ⟨rfl,(Below.refl _ _).alloc (qL) _⟩
theorem rrange_any(k:Int)(w:World)(h:1≤k∧k≤11)(h6:k≠6):Calls Tryz.prog 121 #[.int .i64 k] w fun e w'=>e=.returned (aggI (rngP k))∧Below w.heap.size w w':=by
 have hk:k=1∨k=2∨k=3∨k=4∨k=5∨k=7∨k=8∨k=9∨k=10∨k=11:=by omega
 clear h h6
 have HK:=qD hk
 clear hk
 obtain⟨L,hL⟩:∃L,L=lstC k:=⟨_,rfl⟩
 have K1:Hid (∀w,Calls Tryz.prog 155 #[.int .i64 k] w fun e w'=>e=.returned L.val∧Below w.heap.size w w'):=by rw[hL];exact qD (rleast_any k)
 have HL:=qD hL
 clear hL
 have B0:Hid (Blk (w.alloc (.cells (arrI zI) 67)) w.heap.size 67 (arrI zI)):=Blk.new_at rfl
 have BE:=qD ((Below.refl w.heap.size w).alloc (qL) (Obj.cells (arrI zI) 67))
 go_enter Tryz.func121,Tryz.ntmps121
 go_upto_region 1 with fail
 change Code.wp _ _ _ _ (w.alloc (.cells (arrI zI) 67))
 generalize w.alloc (.cells (arrI zI) 67)=wa at*
 go_wp2_with fail
 refine(K1.out wa).mono ?_
 rintro e w1 ⟨rfl,hb⟩
 replace B0:=qD (B0.out.step hb)
 replace BE:=qD (BE.out.step' hb)
 clear hb
 go_wp2_with fail
 refine(K1.out w1).mono ?_
 rintro e w2 ⟨rfl,hb⟩
 replace B0:=qD (B0.out.step hb)
 replace BE:=qD (BE.out.step' hb)
 clear hb K1
 go_upto_region 2 with fail
 change Code.wp _ _ _ _ (w2.alloc (.cells (arrI (((L,leastV k),(L,leastV k)),(true,true))) 67))
 have B1:Hid (Blk (w2.alloc (.cells (arrI (((L,leastV k),(L,leastV k)),(true,true))) 67)) w2.heap.size 67 (arrI (((L,leastV k),(L,leastV k)),(true,true)))):=Blk.new_at rfl
 have HNE:Hid (w.heap.size<w2.heap.size):=qD B0.out.lt
 replace B0:=qD (B0.out.alloc (.cells (arrI (((L,leastV k),(L,leastV k)),(true,true))) 67))
 replace BE:=qD (BE.out.alloc BE.out.size (Obj.cells (arrI (((L,leastV k),(L,leastV k)),(true,true))) 67))
 generalize w2.alloc (.cells (arrI (((L,leastV k),(L,leastV k)),(true,true))) 67)=wb at*
 generalize w2.heap.size=g at*
 obtain rfl:=HL.out
 clear HL
 obtain⟨R,hR⟩:∃R:Array Value,R=arrI (rngP k):=⟨_,rfl⟩
 have HR:Hid (aggI (rngP k)=.agg R):=by rw[hR];exact qD rfl
 have hRK:R.size=12:=by rw[hR];rfl
 have HRK:=qD hRK
 have HALL:Hid (R.all (·.oneCell')=true):=by rw[Hid,hR];exact arrI_all _
 have HR2:=qD hR
 have z1:=B1.out.frozen
 clear hR hRK
 have hk:=HK.out
 clear HK
 have hne:=HNE.out
 rcases hk with rfl|rfl|rfl|rfl|rfl|rfl|rfl|rfl|rfl|rfl
 ·obtain⟨⟨a0,a1,a2,a3,a4⟩,⟨b0,b1,b2,b3,b4⟩,b5,b6⟩:=IAt.of_blk B1.out;simp only[Nat.zero_add] at a0 a1 a2 a3 a4 b0 b1 b2 b3 b4 b5 b6
  go_wp2_with (first
   | ((with_reducible show wpList _ _ _ (⟨_,.load 67 _,_,_,_,_⟩::_) _ _);refine wpl_name ?_;intro w5 hw5;have C1:Hid (Blk w5 g 67 R):=(by rw[Hid,hw5];refine Blk.cast9 (cs:=R) ?_;first|exact⟨_,B1.out,by rw[HR2.out];rfl⟩|exact⟨_,(Blk.set_ B1.out _ _),by rw[HR2.out];rfl⟩|exact⟨_,(Blk.set_ (Blk.set_ B1.out _ _) _ _),by rw[HR2.out];rfl⟩);have C0:Hid (Blk w5 w.heap.size 67 (arrI zI)):=(by rw[Hid,hw5];(repeat' refine Blk.far ?_ (by show w.heap.size≠g;omega) _);exact B0.out);have CE:Hid (Below w.heap.size w w5):=(by rw[Hid,hw5];(repeat' refine Below.setCell ?_ (by show w.heap.size≤g;omega) _);exact BE.out);have RG:Hid (w5.rangeAt g 0 R.toList):=range_blk C1.out _ _ fun j v hj=>(by rw[Nat.zero_add,←hj,Array.getElem?_toList]);clear hw5 a0 a1 a2 a3 a4 b0 b1 b2 b3 b4 b5 b6 B0 B1 BE z1;refine wpList_mid_w rfl 67 _ rfl g 0 rfl _ _ RG.out Tryz.underlying67 rfl (by rw[Array.length_toList,HRK.out];kernel_rfl) ?_)
   | ((with_reducible show wpList _ _ _ (⟨_,.store 67 _ _,_,_,_,_⟩::_) _ _);refine wpList_store_row rfl 67 _ _ rfl w.heap.size R rfl rfl 67 _ C0.out (by rw[HRK.out];kernel_rfl) (by rw[HRK.out];rfl) HALL.out ?_))
  exact bodyPost_ret (results_ivc rfl _ _ rfl _ R HRK.out (blk_row C0.out R)) rfl ⟨by rw[HR.out],bel_row CE.out (qL) _⟩
 ·obtain⟨⟨a0,a1,a2,a3,a4⟩,⟨b0,b1,b2,b3,b4⟩,b5,b6⟩:=IAt.of_blk B1.out;simp only[Nat.zero_add] at a0 a1 a2 a3 a4 b0 b1 b2 b3 b4 b5 b6
  go_wp2_with (first
   | ((with_reducible show wpList _ _ _ (⟨_,.load 67 _,_,_,_,_⟩::_) _ _);refine wpl_name ?_;intro w5 hw5;have C1:Hid (Blk w5 g 67 R):=(by rw[Hid,hw5];refine Blk.cast9 (cs:=R) ?_;first|exact⟨_,B1.out,by rw[HR2.out];rfl⟩|exact⟨_,(Blk.set_ B1.out _ _),by rw[HR2.out];rfl⟩|exact⟨_,(Blk.set_ (Blk.set_ B1.out _ _) _ _),by rw[HR2.out];rfl⟩);have C0:Hid (Blk w5 w.heap.size 67 (arrI zI)):=(by rw[Hid,hw5];(repeat' refine Blk.far ?_ (by show w.heap.size≠g;omega) _);exact B0.out);have CE:Hid (Below w.heap.size w w5):=(by rw[Hid,hw5];(repeat' refine Below.setCell ?_ (by show w.heap.size≤g;omega) _);exact BE.out);have RG:Hid (w5.rangeAt g 0 R.toList):=range_blk C1.out _ _ fun j v hj=>(by rw[Nat.zero_add,←hj,Array.getElem?_toList]);clear hw5 a0 a1 a2 a3 a4 b0 b1 b2 b3 b4 b5 b6 B0 B1 BE z1;refine wpList_mid_w rfl 67 _ rfl g 0 rfl _ _ RG.out Tryz.underlying67 rfl (by rw[Array.length_toList,HRK.out];kernel_rfl) ?_)
   | ((with_reducible show wpList _ _ _ (⟨_,.store 67 _ _,_,_,_,_⟩::_) _ _);refine wpList_store_row rfl 67 _ _ rfl w.heap.size R rfl rfl 67 _ C0.out (by rw[HRK.out];kernel_rfl) (by rw[HRK.out];rfl) HALL.out ?_))
  exact bodyPost_ret (results_ivc rfl _ _ rfl _ R HRK.out (blk_row C0.out R)) rfl ⟨by rw[HR.out],bel_row CE.out (qL) _⟩
 ·obtain⟨⟨a0,a1,a2,a3,a4⟩,⟨b0,b1,b2,b3,b4⟩,b5,b6⟩:=IAt.of_blk B1.out;simp only[Nat.zero_add] at a0 a1 a2 a3 a4 b0 b1 b2 b3 b4 b5 b6
  go_wp2_with (first
   | ((with_reducible show wpList _ _ _ (⟨_,.load 67 _,_,_,_,_⟩::_) _ _);refine wpl_name ?_;intro w5 hw5;have C1:Hid (Blk w5 g 67 R):=(by rw[Hid,hw5];refine Blk.cast9 (cs:=R) ?_;first|exact⟨_,B1.out,by rw[HR2.out];rfl⟩|exact⟨_,(Blk.set_ B1.out _ _),by rw[HR2.out];rfl⟩|exact⟨_,(Blk.set_ (Blk.set_ B1.out _ _) _ _),by rw[HR2.out];rfl⟩);have C0:Hid (Blk w5 w.heap.size 67 (arrI zI)):=(by rw[Hid,hw5];(repeat' refine Blk.far ?_ (by show w.heap.size≠g;omega) _);exact B0.out);have CE:Hid (Below w.heap.size w w5):=(by rw[Hid,hw5];(repeat' refine Below.setCell ?_ (by show w.heap.size≤g;omega) _);exact BE.out);have RG:Hid (w5.rangeAt g 0 R.toList):=range_blk C1.out _ _ fun j v hj=>(by rw[Nat.zero_add,←hj,Array.getElem?_toList]);clear hw5 a0 a1 a2 a3 a4 b0 b1 b2 b3 b4 b5 b6 B0 B1 BE z1;refine wpList_mid_w rfl 67 _ rfl g 0 rfl _ _ RG.out Tryz.underlying67 rfl (by rw[Array.length_toList,HRK.out];kernel_rfl) ?_)
   | ((with_reducible show wpList _ _ _ (⟨_,.store 67 _ _,_,_,_,_⟩::_) _ _);refine wpList_store_row rfl 67 _ _ rfl w.heap.size R rfl rfl 67 _ C0.out (by rw[HRK.out];kernel_rfl) (by rw[HRK.out];rfl) HALL.out ?_))
  exact bodyPost_ret (results_ivc rfl _ _ rfl _ R HRK.out (blk_row C0.out R)) rfl ⟨by rw[HR.out],bel_row CE.out (qL) _⟩
 ·obtain⟨⟨a0,a1,a2,a3,a4⟩,⟨b0,b1,b2,b3,b4⟩,b5,b6⟩:=IAt.of_blk B1.out;simp only[Nat.zero_add] at a0 a1 a2 a3 a4 b0 b1 b2 b3 b4 b5 b6
  go_wp2_with (first
   | (go_at_call 155;refine(rleast_any _ _).mono ?_;rintro e w3 ⟨rfl,hb⟩;clear a0 a1 a2 a3 a4 b0 b1 b2 b3 b4 b5 b6 z1;replace B0:=qD (B0.out.step hb);replace B1:=qD (B1.out.step hb);replace BE:=qD (BE.out.step' hb);clear hb;have z1:=B1.out.frozen;obtain⟨⟨a0,a1,a2,a3,a4⟩,⟨b0,b1,b2,b3,b4⟩,b5,b6⟩:=IAt.of_blk B1.out;simp only[Nat.zero_add] at a0 a1 a2 a3 a4 b0 b1 b2 b3 b4 b5 b6)
   | ((with_reducible show wpList _ _ _ (⟨_,.store 29 _ _,_,_,_,_⟩::_) _ _);refine wpl_putHiR (c:=lstC 5) rfl _ _ rfl rfl rfl B1.out B0.out BE.out (by omega) (by omega) (leastV 5) ?_;intro w6 hB1 hB0 hBE;clear a0 a1 a2 a3 a4 b0 b1 b2 b3 b4 b5 b6 z1;clear B0 B1 BE;have B0:=qD hB0;have B1:=qD hB1;have BE:=qD hBE;clear hB0 hB1 hBE;have z1:=B1.out.frozen;obtain⟨⟨a0,a1,a2,a3,a4⟩,⟨b0,b1,b2,b3,b4⟩,b5,b6⟩:=IAt.of_blk B1.out;simp only[Nat.zero_add] at a0 a1 a2 a3 a4 b0 b1 b2 b3 b4 b5 b6)
   | ((with_reducible show wpList _ _ _ (⟨_,.load 67 _,_,_,_,_⟩::_) _ _);refine wpl_name ?_;intro w5 hw5;have C1:Hid (Blk w5 g 67 R):=(by rw[Hid,hw5];refine Blk.cast9 (cs:=R) ?_;first|exact⟨_,B1.out,by rw[HR2.out];rfl⟩|exact⟨_,(Blk.set_ B1.out _ _),by rw[HR2.out];rfl⟩|exact⟨_,(Blk.set_ (Blk.set_ B1.out _ _) _ _),by rw[HR2.out];rfl⟩);have C0:Hid (Blk w5 w.heap.size 67 (arrI zI)):=(by rw[Hid,hw5];(repeat' refine Blk.far ?_ (by show w.heap.size≠g;omega) _);exact B0.out);have CE:Hid (Below w.heap.size w w5):=(by rw[Hid,hw5];(repeat' refine Below.setCell ?_ (by show w.heap.size≤g;omega) _);exact BE.out);have RG:Hid (w5.rangeAt g 0 R.toList):=range_blk C1.out _ _ fun j v hj=>(by rw[Nat.zero_add,←hj,Array.getElem?_toList]);clear hw5 a0 a1 a2 a3 a4 b0 b1 b2 b3 b4 b5 b6 B0 B1 BE z1;refine wpList_mid_w rfl 67 _ rfl g 0 rfl _ _ RG.out Tryz.underlying67 rfl (by rw[Array.length_toList,HRK.out];kernel_rfl) ?_)
   | ((with_reducible show wpList _ _ _ (⟨_,.store 67 _ _,_,_,_,_⟩::_) _ _);refine wpList_store_row rfl 67 _ _ rfl w.heap.size R rfl rfl 67 _ C0.out (by rw[HRK.out];kernel_rfl) (by rw[HRK.out];rfl) HALL.out ?_))
  exact bodyPost_ret (results_ivc rfl _ _ rfl _ R HRK.out (blk_row C0.out R)) rfl ⟨by rw[HR.out],bel_row CE.out (qL) _⟩
 ·obtain⟨⟨a0,a1,a2,a3,a4⟩,⟨b0,b1,b2,b3,b4⟩,b5,b6⟩:=IAt.of_blk B1.out;simp only[Nat.zero_add] at a0 a1 a2 a3 a4 b0 b1 b2 b3 b4 b5 b6
  go_wp2_with (first
   | (go_at_call 155;refine(rleast_any _ _).mono ?_;rintro e w3 ⟨rfl,hb⟩;clear a0 a1 a2 a3 a4 b0 b1 b2 b3 b4 b5 b6 z1;replace B0:=qD (B0.out.step hb);replace B1:=qD (B1.out.step hb);replace BE:=qD (BE.out.step' hb);clear hb;have z1:=B1.out.frozen;obtain⟨⟨a0,a1,a2,a3,a4⟩,⟨b0,b1,b2,b3,b4⟩,b5,b6⟩:=IAt.of_blk B1.out;simp only[Nat.zero_add] at a0 a1 a2 a3 a4 b0 b1 b2 b3 b4 b5 b6)
   | ((with_reducible show wpList _ _ _ (⟨_,.store 29 _ _,_,_,_,_⟩::_) _ _);refine wpl_putHiR (c:=lstC 6) rfl _ _ rfl rfl rfl B1.out B0.out BE.out (by omega) (by omega) (leastV 6) ?_;intro w6 hB1 hB0 hBE;clear a0 a1 a2 a3 a4 b0 b1 b2 b3 b4 b5 b6 z1;clear B0 B1 BE;have B0:=qD hB0;have B1:=qD hB1;have BE:=qD hBE;clear hB0 hB1 hBE;have z1:=B1.out.frozen;obtain⟨⟨a0,a1,a2,a3,a4⟩,⟨b0,b1,b2,b3,b4⟩,b5,b6⟩:=IAt.of_blk B1.out;simp only[Nat.zero_add] at a0 a1 a2 a3 a4 b0 b1 b2 b3 b4 b5 b6)
   | ((with_reducible show wpList _ _ _ (⟨_,.load 67 _,_,_,_,_⟩::_) _ _);refine wpl_name ?_;intro w5 hw5;have C1:Hid (Blk w5 g 67 R):=(by rw[Hid,hw5];refine Blk.cast9 (cs:=R) ?_;first|exact⟨_,B1.out,by rw[HR2.out];rfl⟩|exact⟨_,(Blk.set_ B1.out _ _),by rw[HR2.out];rfl⟩|exact⟨_,(Blk.set_ (Blk.set_ B1.out _ _) _ _),by rw[HR2.out];rfl⟩);have C0:Hid (Blk w5 w.heap.size 67 (arrI zI)):=(by rw[Hid,hw5];(repeat' refine Blk.far ?_ (by show w.heap.size≠g;omega) _);exact B0.out);have CE:Hid (Below w.heap.size w w5):=(by rw[Hid,hw5];(repeat' refine Below.setCell ?_ (by show w.heap.size≤g;omega) _);exact BE.out);have RG:Hid (w5.rangeAt g 0 R.toList):=range_blk C1.out _ _ fun j v hj=>(by rw[Nat.zero_add,←hj,Array.getElem?_toList]);clear hw5 a0 a1 a2 a3 a4 b0 b1 b2 b3 b4 b5 b6 B0 B1 BE z1;refine wpList_mid_w rfl 67 _ rfl g 0 rfl _ _ RG.out Tryz.underlying67 rfl (by rw[Array.length_toList,HRK.out];kernel_rfl) ?_)
   | ((with_reducible show wpList _ _ _ (⟨_,.store 67 _ _,_,_,_,_⟩::_) _ _);refine wpList_store_row rfl 67 _ _ rfl w.heap.size R rfl rfl 67 _ C0.out (by rw[HRK.out];kernel_rfl) (by rw[HRK.out];rfl) HALL.out ?_))
  exact bodyPost_ret (results_ivc rfl _ _ rfl _ R HRK.out (blk_row C0.out R)) rfl ⟨by rw[HR.out],bel_row CE.out (qL) _⟩
 ·obtain⟨⟨a0,a1,a2,a3,a4⟩,⟨b0,b1,b2,b3,b4⟩,b5,b6⟩:=IAt.of_blk B1.out;simp only[Nat.zero_add] at a0 a1 a2 a3 a4 b0 b1 b2 b3 b4 b5 b6
  go_wp2_with (first
   | (go_at_call 155;refine(rleast_any _ _).mono ?_;rintro e w3 ⟨rfl,hb⟩;clear a0 a1 a2 a3 a4 b0 b1 b2 b3 b4 b5 b6 z1;replace B0:=qD (B0.out.step hb);replace B1:=qD (B1.out.step hb);replace BE:=qD (BE.out.step' hb);clear hb;have z1:=B1.out.frozen;obtain⟨⟨a0,a1,a2,a3,a4⟩,⟨b0,b1,b2,b3,b4⟩,b5,b6⟩:=IAt.of_blk B1.out;simp only[Nat.zero_add] at a0 a1 a2 a3 a4 b0 b1 b2 b3 b4 b5 b6)
   | ((with_reducible show wpList _ _ _ (⟨_,.store 29 _ _,_,_,_,_⟩::_) _ _);refine wpl_putHiR (c:=lstC 8) rfl _ _ rfl rfl rfl B1.out B0.out BE.out (by omega) (by omega) (leastV 8) ?_;intro w6 hB1 hB0 hBE;clear a0 a1 a2 a3 a4 b0 b1 b2 b3 b4 b5 b6 z1;clear B0 B1 BE;have B0:=qD hB0;have B1:=qD hB1;have BE:=qD hBE;clear hB0 hB1 hBE;have z1:=B1.out.frozen;obtain⟨⟨a0,a1,a2,a3,a4⟩,⟨b0,b1,b2,b3,b4⟩,b5,b6⟩:=IAt.of_blk B1.out;simp only[Nat.zero_add] at a0 a1 a2 a3 a4 b0 b1 b2 b3 b4 b5 b6)
   | ((with_reducible show wpList _ _ _ (⟨_,.load 67 _,_,_,_,_⟩::_) _ _);refine wpl_name ?_;intro w5 hw5;have C1:Hid (Blk w5 g 67 R):=(by rw[Hid,hw5];refine Blk.cast9 (cs:=R) ?_;first|exact⟨_,B1.out,by rw[HR2.out];rfl⟩|exact⟨_,(Blk.set_ B1.out _ _),by rw[HR2.out];rfl⟩|exact⟨_,(Blk.set_ (Blk.set_ B1.out _ _) _ _),by rw[HR2.out];rfl⟩);have C0:Hid (Blk w5 w.heap.size 67 (arrI zI)):=(by rw[Hid,hw5];(repeat' refine Blk.far ?_ (by show w.heap.size≠g;omega) _);exact B0.out);have CE:Hid (Below w.heap.size w w5):=(by rw[Hid,hw5];(repeat' refine Below.setCell ?_ (by show w.heap.size≤g;omega) _);exact BE.out);have RG:Hid (w5.rangeAt g 0 R.toList):=range_blk C1.out _ _ fun j v hj=>(by rw[Nat.zero_add,←hj,Array.getElem?_toList]);clear hw5 a0 a1 a2 a3 a4 b0 b1 b2 b3 b4 b5 b6 B0 B1 BE z1;refine wpList_mid_w rfl 67 _ rfl g 0 rfl _ _ RG.out Tryz.underlying67 rfl (by rw[Array.length_toList,HRK.out];kernel_rfl) ?_)
   | ((with_reducible show wpList _ _ _ (⟨_,.store 67 _ _,_,_,_,_⟩::_) _ _);refine wpList_store_row rfl 67 _ _ rfl w.heap.size R rfl rfl 67 _ C0.out (by rw[HRK.out];kernel_rfl) (by rw[HRK.out];rfl) HALL.out ?_))
  exact bodyPost_ret (results_ivc rfl _ _ rfl _ R HRK.out (blk_row C0.out R)) rfl ⟨by rw[HR.out],bel_row CE.out (qL) _⟩
 ·obtain⟨⟨a0,a1,a2,a3,a4⟩,⟨b0,b1,b2,b3,b4⟩,b5,b6⟩:=IAt.of_blk B1.out;simp only[Nat.zero_add] at a0 a1 a2 a3 a4 b0 b1 b2 b3 b4 b5 b6
  go_wp2_with (first
   | (go_at_call 155;refine(rleast_any _ _).mono ?_;rintro e w3 ⟨rfl,hb⟩;clear a0 a1 a2 a3 a4 b0 b1 b2 b3 b4 b5 b6 z1;replace B0:=qD (B0.out.step hb);replace B1:=qD (B1.out.step hb);replace BE:=qD (BE.out.step' hb);clear hb;have z1:=B1.out.frozen;obtain⟨⟨a0,a1,a2,a3,a4⟩,⟨b0,b1,b2,b3,b4⟩,b5,b6⟩:=IAt.of_blk B1.out;simp only[Nat.zero_add] at a0 a1 a2 a3 a4 b0 b1 b2 b3 b4 b5 b6)
   | ((with_reducible show wpList _ _ _ (⟨_,.store 29 _ _,_,_,_,_⟩::_) _ _);refine wpl_putHiR (c:=lstC 9) rfl _ _ rfl rfl rfl B1.out B0.out BE.out (by omega) (by omega) (leastV 9) ?_;intro w6 hB1 hB0 hBE;clear a0 a1 a2 a3 a4 b0 b1 b2 b3 b4 b5 b6 z1;clear B0 B1 BE;have B0:=qD hB0;have B1:=qD hB1;have BE:=qD hBE;clear hB0 hB1 hBE;have z1:=B1.out.frozen;obtain⟨⟨a0,a1,a2,a3,a4⟩,⟨b0,b1,b2,b3,b4⟩,b5,b6⟩:=IAt.of_blk B1.out;simp only[Nat.zero_add] at a0 a1 a2 a3 a4 b0 b1 b2 b3 b4 b5 b6)
   | ((with_reducible show wpList _ _ _ (⟨_,.load 67 _,_,_,_,_⟩::_) _ _);refine wpl_name ?_;intro w5 hw5;have C1:Hid (Blk w5 g 67 R):=(by rw[Hid,hw5];refine Blk.cast9 (cs:=R) ?_;first|exact⟨_,B1.out,by rw[HR2.out];rfl⟩|exact⟨_,(Blk.set_ B1.out _ _),by rw[HR2.out];rfl⟩|exact⟨_,(Blk.set_ (Blk.set_ B1.out _ _) _ _),by rw[HR2.out];rfl⟩);have C0:Hid (Blk w5 w.heap.size 67 (arrI zI)):=(by rw[Hid,hw5];(repeat' refine Blk.far ?_ (by show w.heap.size≠g;omega) _);exact B0.out);have CE:Hid (Below w.heap.size w w5):=(by rw[Hid,hw5];(repeat' refine Below.setCell ?_ (by show w.heap.size≤g;omega) _);exact BE.out);have RG:Hid (w5.rangeAt g 0 R.toList):=range_blk C1.out _ _ fun j v hj=>(by rw[Nat.zero_add,←hj,Array.getElem?_toList]);clear hw5 a0 a1 a2 a3 a4 b0 b1 b2 b3 b4 b5 b6 B0 B1 BE z1;refine wpList_mid_w rfl 67 _ rfl g 0 rfl _ _ RG.out Tryz.underlying67 rfl (by rw[Array.length_toList,HRK.out];kernel_rfl) ?_)
   | ((with_reducible show wpList _ _ _ (⟨_,.store 67 _ _,_,_,_,_⟩::_) _ _);refine wpList_store_row rfl 67 _ _ rfl w.heap.size R rfl rfl 67 _ C0.out (by rw[HRK.out];kernel_rfl) (by rw[HRK.out];rfl) HALL.out ?_))
  exact bodyPost_ret (results_ivc rfl _ _ rfl _ R HRK.out (blk_row C0.out R)) rfl ⟨by rw[HR.out],bel_row CE.out (qL) _⟩
 ·obtain⟨⟨a0,a1,a2,a3,a4⟩,⟨b0,b1,b2,b3,b4⟩,b5,b6⟩:=IAt.of_blk B1.out;simp only[Nat.zero_add] at a0 a1 a2 a3 a4 b0 b1 b2 b3 b4 b5 b6
  go_wp2_with (first
   | ((with_reducible show wpList _ _ _ (⟨_,.load 67 _,_,_,_,_⟩::_) _ _);refine wpl_name ?_;intro w5 hw5;have C1:Hid (Blk w5 g 67 R):=(by rw[Hid,hw5];refine Blk.cast9 (cs:=R) ?_;first|exact⟨_,B1.out,by rw[HR2.out];rfl⟩|exact⟨_,(Blk.set_ B1.out _ _),by rw[HR2.out];rfl⟩|exact⟨_,(Blk.set_ (Blk.set_ B1.out _ _) _ _),by rw[HR2.out];rfl⟩);have C0:Hid (Blk w5 w.heap.size 67 (arrI zI)):=(by rw[Hid,hw5];(repeat' refine Blk.far ?_ (by show w.heap.size≠g;omega) _);exact B0.out);have CE:Hid (Below w.heap.size w w5):=(by rw[Hid,hw5];(repeat' refine Below.setCell ?_ (by show w.heap.size≤g;omega) _);exact BE.out);have RG:Hid (w5.rangeAt g 0 R.toList):=range_blk C1.out _ _ fun j v hj=>(by rw[Nat.zero_add,←hj,Array.getElem?_toList]);clear hw5 a0 a1 a2 a3 a4 b0 b1 b2 b3 b4 b5 b6 B0 B1 BE z1;refine wpList_mid_w rfl 67 _ rfl g 0 rfl _ _ RG.out Tryz.underlying67 rfl (by rw[Array.length_toList,HRK.out];kernel_rfl) ?_)
   | ((with_reducible show wpList _ _ _ (⟨_,.store 67 _ _,_,_,_,_⟩::_) _ _);refine wpList_store_row rfl 67 _ _ rfl w.heap.size R rfl rfl 67 _ C0.out (by rw[HRK.out];kernel_rfl) (by rw[HRK.out];rfl) HALL.out ?_))
  exact bodyPost_ret (results_ivc rfl _ _ rfl _ R HRK.out (blk_row C0.out R)) rfl ⟨by rw[HR.out],bel_row CE.out (qL) _⟩
 ·obtain⟨⟨a0,a1,a2,a3,a4⟩,⟨b0,b1,b2,b3,b4⟩,b5,b6⟩:=IAt.of_blk B1.out;simp only[Nat.zero_add] at a0 a1 a2 a3 a4 b0 b1 b2 b3 b4 b5 b6
  go_wp2_with (first
   | ((with_reducible show wpList _ _ _ (⟨_,.load 67 _,_,_,_,_⟩::_) _ _);refine wpl_name ?_;intro w5 hw5;have C1:Hid (Blk w5 g 67 R):=(by rw[Hid,hw5];refine Blk.cast9 (cs:=R) ?_;first|exact⟨_,B1.out,by rw[HR2.out];rfl⟩|exact⟨_,(Blk.set_ B1.out _ _),by rw[HR2.out];rfl⟩|exact⟨_,(Blk.set_ (Blk.set_ B1.out _ _) _ _),by rw[HR2.out];rfl⟩);have C0:Hid (Blk w5 w.heap.size 67 (arrI zI)):=(by rw[Hid,hw5];(repeat' refine Blk.far ?_ (by show w.heap.size≠g;omega) _);exact B0.out);have CE:Hid (Below w.heap.size w w5):=(by rw[Hid,hw5];(repeat' refine Below.setCell ?_ (by show w.heap.size≤g;omega) _);exact BE.out);have RG:Hid (w5.rangeAt g 0 R.toList):=range_blk C1.out _ _ fun j v hj=>(by rw[Nat.zero_add,←hj,Array.getElem?_toList]);clear hw5 a0 a1 a2 a3 a4 b0 b1 b2 b3 b4 b5 b6 B0 B1 BE z1;refine wpList_mid_w rfl 67 _ rfl g 0 rfl _ _ RG.out Tryz.underlying67 rfl (by rw[Array.length_toList,HRK.out];kernel_rfl) ?_)
   | ((with_reducible show wpList _ _ _ (⟨_,.store 67 _ _,_,_,_,_⟩::_) _ _);refine wpList_store_row rfl 67 _ _ rfl w.heap.size R rfl rfl 67 _ C0.out (by rw[HRK.out];kernel_rfl) (by rw[HRK.out];rfl) HALL.out ?_))
  exact bodyPost_ret (results_ivc rfl _ _ rfl _ R HRK.out (blk_row C0.out R)) rfl ⟨by rw[HR.out],bel_row CE.out (qL) _⟩
 ·obtain⟨⟨a0,a1,a2,a3,a4⟩,⟨b0,b1,b2,b3,b4⟩,b5,b6⟩:=IAt.of_blk B1.out;simp only[Nat.zero_add] at a0 a1 a2 a3 a4 b0 b1 b2 b3 b4 b5 b6
  go_wp2_with (first
   | ((with_reducible show wpList _ _ _ (⟨_,.load 67 _,_,_,_,_⟩::_) _ _);refine wpl_name ?_;intro w5 hw5;have C1:Hid (Blk w5 g 67 R):=(by rw[Hid,hw5];refine Blk.cast9 (cs:=R) ?_;first|exact⟨_,B1.out,by rw[HR2.out];rfl⟩|exact⟨_,(Blk.set_ B1.out _ _),by rw[HR2.out];rfl⟩|exact⟨_,(Blk.set_ (Blk.set_ B1.out _ _) _ _),by rw[HR2.out];rfl⟩);have C0:Hid (Blk w5 w.heap.size 67 (arrI zI)):=(by rw[Hid,hw5];(repeat' refine Blk.far ?_ (by show w.heap.size≠g;omega) _);exact B0.out);have CE:Hid (Below w.heap.size w w5):=(by rw[Hid,hw5];(repeat' refine Below.setCell ?_ (by show w.heap.size≤g;omega) _);exact BE.out);have RG:Hid (w5.rangeAt g 0 R.toList):=range_blk C1.out _ _ fun j v hj=>(by rw[Nat.zero_add,←hj,Array.getElem?_toList]);clear hw5 a0 a1 a2 a3 a4 b0 b1 b2 b3 b4 b5 b6 B0 B1 BE z1;refine wpList_mid_w rfl 67 _ rfl g 0 rfl _ _ RG.out Tryz.underlying67 rfl (by rw[Array.length_toList,HRK.out];kernel_rfl) ?_)
   | ((with_reducible show wpList _ _ _ (⟨_,.store 67 _ _,_,_,_,_⟩::_) _ _);refine wpList_store_row rfl 67 _ _ rfl w.heap.size R rfl rfl 67 _ C0.out (by rw[HRK.out];kernel_rfl) (by rw[HRK.out];rfl) HALL.out ?_))
  exact bodyPost_ret (results_ivc rfl _ _ rfl _ R HRK.out (blk_row C0.out R)) rfl ⟨by rw[HR.out],bel_row CE.out (qL) _⟩
theorem rcomparison_any(p:PrT)(w:World)(ho:p.op=4∨p.op=5∨p.op=6∨p.op=7)(h:1≤p.arg.1.k∧p.arg.1.k≤11)(h6:p.arg.1.k≠6):
 Calls Tryz.prog 119 #[aggPr p] w fun e w'=>e=.returned (aggI (limP p.op (rngP p.arg.1.k) p.arg))∧Below w.heap.size w w':=by
 obtain⟨q,hq⟩:∃q,q=rngP p.arg.1.k:=⟨_,rfl⟩
 have K1:Hid (∀w,Calls Tryz.prog 121 #[.int .i64 p.arg.1.k] w fun e w'=>e=.returned (aggI q)∧Below w.heap.size w w'):=by rw[hq];exact qD fun w=>rrange_any _ w h h6
 rw[←hq]
 clear hq h h6
 have B0:Hid (Blk ((w.alloc (.cells (arrPr p) 38)).alloc (.cells (arrI zI) 67)) w.heap.size 38 (arrPr p)):=(Blk.new_at rfl).alloc _
 have B2:Hid (Blk ((w.alloc (.cells (arrPr p) 38)).alloc (.cells (arrI zI) 67)) (w.heap.size+1) 67 (arrI zI)):=Blk.new_at (by simp)
 have BE:Hid (Below w.heap.size w ((w.alloc (.cells (arrPr p) 38)).alloc (.cells (arrI zI) 67))):=((Below.refl _ _).alloc (qL) _).alloc (by simp) _
 go_enter Tryz.func119,Tryz.ntmps119
 go_upto_region 1 with fail
 change Code.wp _ _ _ _ ((w.alloc (.cells (arrPr p) 38)).alloc (.cells (arrI zI) 67))
 generalize ((w.alloc (.cells (arrPr p) 38)).alloc (.cells (arrI zI) 67))=wa at*
 have f2:=(range_parg B0.out) 0 _ rfl
 simp only[Nat.reduceAdd] at f2
 go_wp2_with fail
 refine(K1.out wa).mono ?_
 rintro e w1 ⟨rfl,hb⟩
 replace B0:=qD (B0.out.step hb)
 replace B2:=qD (B2.out.step hb)
 replace BE:=qD (BE.out.step' hb)
 clear hb K1 f2
 go_upto_region 2 with fail
 change Code.wp _ _ _ _ (w1.alloc (.cells (arrI q) 67))
 have B1:Hid (Blk (w1.alloc (.cells (arrI q) 67)) w1.heap.size 67 (arrI q)):=Blk.new_at rfl
 have hne:w.heap.size+1<w1.heap.size:=B2.out.lt
 replace B0:=qD (B0.out.alloc (.cells (arrI q) 67))
 replace B2:=qD (B2.out.alloc (.cells (arrI q) 67))
 replace BE:=qD (BE.out.alloc BE.out.size (Obj.cells (arrI q) 67))
 generalize w1.alloc (.cells (arrI q) 67)=wb at*
 generalize w1.heap.size=g at*
 obtain⟨d0,_,_,_,_,_,_,_⟩:=pr_cells B0.out
 have f2:=(range_parg B0.out) 0 _ rfl
 have f3:=(range_parg B0.out) 1 _ rfl
 have f4:=(range_parg B0.out) 2 _ rfl
 have f5:=(range_parg B0.out) 3 _ rfl
 have f6:=(range_parg B0.out) 4 _ rfl
 simp only[Nat.reduceAdd] at f2 f3 f4 f5 f6
 obtain⟨⟨a0,a1,a2,a3,a4⟩,⟨b0,b1,b2,b3,b4⟩,b5,b6⟩:=IAt.of_blk B1.out
 simp only[Nat.zero_add] at a0 a1 a2 a3 a4 b0 b1 b2 b3 b4 b5 b6
 have z1:=B1.out.frozen
 have RA:=qD (range_parg B0.out)
 obtain⟨op,hop⟩:∃op,op=p.op:=⟨_,rfl⟩
 rw[←hop] at d0 ho
 have HOP:=qD hop
 clear hop
 obtain⟨R,hR⟩:∃R:Array Value,R=arrI (limP op q p.arg):=⟨_,rfl⟩
 have HR2:=qD hR
 have HRK:Hid (R.size=12):=by rw[hR];exact qD rfl
 have HALL:Hid (R.all (·.oneCell')=true):=by rw[Hid,hR];exact arrI_all _
 have HAG:Hid (aggI (limP op q p.arg)=.agg R):=by rw[hR];exact qD rfl
 clear hR
 rcases ho with rfl|rfl|rfl|rfl
 all_goals
  go_wp2_with (first
   | ((with_reducible show wpList _ _ _ (⟨_,.load 67 _,_,_,_,_⟩::_) _ _);refine wpl_name ?_;intro w5 hw5
      have C0:Hid (Blk w5 g 67 R):=(by
       rw[Hid,hw5]
       refine Blk.cast9 (cs:=R) ?_
       exact⟨_,(Blk.set_ (Blk.set_ (Blk.set_ (Blk.set_ (Blk.set_ (Blk.set_ B1.out _ _) _ _) _ _) _ _) _ _) _ _),by rw[HR2.out];rfl⟩)
      have C2:Hid (Blk w5 (w.heap.size+1) 67 (arrI zI)):=(by
       rw[Hid,hw5]
       repeat' refine Blk.far ?_ (by show w.heap.size+1≠g;omega) _
       exact B2.out)
      have CE:Hid (Below w.heap.size w w5):=(by
       rw[Hid,hw5]
       repeat' refine Below.setCell ?_ (by show w.heap.size≤g;omega) _
       exact BE.out)
      have RG:Hid (w5.rangeAt g 0 R.toList):=range_blk C0.out _ _ fun j v hj=>(by rw[Nat.zero_add,←hj,Array.getElem?_toList])
      clear hw5 a0 a1 a2 a3 a4 b0 b1 b2 b3 b4 b5 b6 B0 B1 B2 BE z1 f2 f3 f4 f5 f6 d0
      refine wpList_mid_w rfl 67 _ rfl g 0 rfl _ _ RG.out Tryz.underlying67 rfl (by rw[Array.length_toList,HRK.out];kernel_rfl) ?_)
   | ((with_reducible show wpList _ _ _ (⟨_,.store 67 _ _,_,_,_,_⟩::_) _ _);refine wpList_store_row rfl 67 _ _ rfl (w.heap.size+1) R rfl rfl 67 _ C2.out (by rw[HRK.out];kernel_rfl) (by rw[HRK.out];rfl) HALL.out ?_))
  exact bodyPost_ret (results_ivc rfl _ _ rfl _ R HRK.out (blk_row C2.out R)) rfl ⟨by rw[←HOP.out,HAG.out],bel_row CE.out (by omega) _⟩
theorem rafter_any(s:ByteArray)(w:World)(hz:s.size≤reach):Calls Tryz.prog 82 #[.string s] w fun e w'=>e=afterE s∧Below w.heap.size w w':=by
 have HZ:Hid (s.size≤reach):=qD hz
 clear hz
 go_enter Tryz.func82,Tryz.ntmps82
 go_upto_region 2 with fail
 go_loopw [4] (fun v wr=>∃n:Nat,v=.int .i64 n∧n≤s.size∧stripN s n=stripN s s.size∧wr=w) (fun v _=>match v with | .int _ n=>n.toNat|_=>0)
 case atStart=>exact⟨s.size,rfl,qL,rfl,rfl⟩
 case round=>
  obtain⟨n,rfl,hn,hs,rfl⟩:=hrel
  have HS:=qD hs
  clear hs
  cases n with
  | zero=>
   go_wp2_with fail
   go_ret2
   exact⟨(afterE_none (by rw[←HS.out];rfl)).symm,Below.refl _ _⟩
  | succ m=>
   have HM:Hid (m<s.size):=qD hn
   have HW:Hid (wrap64 (m:Int)=(m:Int)):=by have:=HZ.out;unfold reach at this;exact qD (by unfold wrap64;omega)
   obtain ⟨x, hx⟩ : ∃ x : Int, ((s[m]'HM.out).toNat : Int) = x := ⟨_, rfl⟩
   by_cases h255:x=255
   ·subst h255
    have HX:=qD (strip_255 HM.out (by omega))
    have hw:=HW.out
    go_wp2_with fail
    refine⟨⟨m,by rw[hw],by omega,by rw[←HX.out];exact HS.out,trivial⟩,?_⟩
    rw[hw]
    show(m:Int).toNat<((m+1:Nat):Int).toNat
    omega
   ·have HX:=qD (strip_ne HM.out (by omega))
    have h1:(x==255)=false:=by simpa using h255
    clear h255
    have hw:=HW.out
    have h3:(x != 255)=true:=by simpa using h1
    go_wp2_with fail
    obtain⟨z,hz⟩:∃z:Int,z=(x+1)%256:=⟨_,rfl⟩
    have hcv:(convert 108 9 (.slice (some ⟨wr.heap.size,0,none⟩) 1 1)).run Tryz.prog ((wr.alloc (.cells #[.int .u8 ((x+1)%256)] 5)).drew)=.ok (.string (strOfNums [z])) ((wr.alloc (.cells #[.int .u8 ((x+1)%256)] 5)).drew):=by
     rw[←hz]
     refine run_convert_bytes_arg (P:=Tryz.prog) _ 108 5 Tryz.underlying108 Tryz.underlying5 wr.heap.size 0 1 1 [z] rfl (fun i hi=>?_) 9 Tryz.underlying9
     obtain rfl:i=0:=by omega
     exact(Blk.new wr 5 #[.int .u8 z]).drew.cell 0
    obtain⟨Z,hZ⟩:∃Z,Z=strOfNums [z]:=⟨_,rfl⟩
    rw[←hZ] at hcv
    have hZs:Z.size=1:=by rw[hZ,strOfNums_size];rfl
    have hcat:∀w2:World,(Op.stringOp .add (s.extract 0 m) Z).run Tryz.prog w2=.ok (.string (s.extract 0 m++Z)) w2:=fun w2=>run_string_add_sum _ _ _ (by
     have h1:=HZ.out
     have h2:=HM.out
     unfold reach at h1
     rw[hZs,ByteArray.size_extract]
     omega)
    clear hZs
    have HZ2:=qD hZ
    have HZZ:=qD hz
    clear hz hZ
    have HX1:=qD hx
    go_region
    all_goals
     go_wp2_with fail
     go_ret2
     refine⟨?_,((Below.refl _ _).alloc (qL) _).drew⟩
     have hb := (s[m]'HM.out).toNat_lt
     have hx1:=HX1.out
     have hat : s.data[m]?.getD 0 = s[m]'HM.out := by
      rw[Array.getElem?_eq_getElem (show m<s.data.size from HM.out)]
      rfl
     rw[afterE_some (show stripN s s.size=m+1 by rw[←HS.out];exact HX.out),hat,HZ2.out,HZZ.out]
     have hne:x≠255:=by simpa using h1
     have e : strOfNums [(x + 1) % 256] = ⟨#[s[m]'HM.out + 1]⟩ := by
      apply ByteArray.ext
      apply Array.toList_inj.1
      rw[strOfNums_data]
      simp only[List.map_cons,List.map_nil]
      have : UInt8.ofNat ((x + 1) % 256).toNat = s[m]'HM.out + 1 := by
       apply UInt8.toNat_inj.1
       rw[UInt8.toNat_ofNat',UInt8.toNat_add]
       have:(1:UInt8).toNat=1:=rfl
       rw[this]
       omega
      rw[this]
     rw[e]
     rfl
end Go.Proofs.YtfkapannahcjiaaGreatDoor
