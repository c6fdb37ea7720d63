/- Parts of the proof, joined: RgAfterR, RfSingle, RfOf, BoOfWalk, NmTab, ChOpenA, EncOrder, PrNums, EncOpen. -/
import Derived.Test.YtfkdihlbaghajaaGreatDoorOf1
import Derived.Test.YtfkdihlbaghajaaGreatDoorOf17
import Derived.Test.YtfkdihlbaghajaaGreatDoorOf24
import Derived.Test.YtfkdihlbaghajaaGreatDoorOf16
import Derived.Test.YtfkdihlbaghajaaGreatDoorOf22
import Derived.Test.YtfkdihlbaghajaaGreatDoorOf20
import Derived.Test.YtfkdihlbaghajaaGreatDoorOf14
import Derived.Test.YtfkdihlbaghajaaGreatDoorOf23
import Derived.Test.YtfkdihlbaghajaaGreatDoorOf19
import Derived.Test.YtfkdihlbaghajaaGreatDoorOf5
import Derived.Test.YtfkdihlbaghajaaGreatDoorRows
import Derived.Test.YtfkdihlbaghajaaGreatDoorOf8
import Derived.Test.YtfkdihlbaghajaaGreatDoorOf2
import Derived.Lib.LaidU8
import Derived.OpenShut
set_option maxRecDepth 100000
set_option maxHeartbeats 16000000
set_option linter.unusedSimpArgs false
namespace Go.Proofs.YtfkdihlbaghajaaGreatDoor
open Go.RowKit
theorem rafter_any(s:ByteArray)(w:World)(hz:s.size≤reach):Calls Tryz.prog 115 #[.string s] w fun e w'=>e=afterE s∧Below w.heap.size w w':=by
 have HZ:Hid (s.size≤reach):=qD hz
 clear hz
 go_enter Tryz.func115,Tryz.ntmps115
 go_upto_region 2 with fail
 go_loopw [4] (fun v wr=>∃n:Nat,v=.int .i64 n∧n≤s.size∧stripN s n=stripN s s.size∧wr=w) (fun v _=>match v with | .int _ n=>n.toNat|_=>0)
 case atStart=>exact⟨s.size,rfl,qL,rfl,rfl⟩
 case round=>
  obtain⟨n,rfl,hn,hs,rfl⟩:=hrel
  have HS:=qD hs
  clear hs
  cases n with
  | zero=>
   go_wp2_with fail
   go_ret2
   exact⟨(afterE_none (by rw[←HS.out];rfl)).symm,Below.refl _ _⟩
  | succ m=>
   have HM:Hid (m<s.size):=qD hn
   have HW:Hid (wrap64 (m:Int)=(m:Int)):=by have:=HZ.out;unfold reach at this;exact qD (by unfold wrap64;omega)
   obtain ⟨x, hx⟩ : ∃ x : Int, ((s[m]'HM.out).toNat : Int) = x := ⟨_, rfl⟩
   by_cases h255:x=255
   ·subst h255
    have HX:=qD (strip_255 HM.out (by omega))
    have hw:=HW.out
    go_wp2_with fail
    refine⟨⟨m,by rw[hw],by omega,by rw[←HX.out];exact HS.out,trivial⟩,?_⟩
    rw[hw]
    show(m:Int).toNat<((m+1:Nat):Int).toNat
    omega
   ·have HX:=qD (strip_ne HM.out (by omega))
    have h1:(x==255)=false:=by simpa using h255
    clear h255
    have hw:=HW.out
    have h3:(x != 255)=true:=by simpa using h1
    go_wp2_with fail
    obtain⟨z,hz⟩:∃z:Int,z=(x+1)%256:=⟨_,rfl⟩
    have hcv:(convert 143 9 (.slice (some ⟨wr.heap.size,0,none⟩) 1 1)).run Tryz.prog ((wr.alloc (.cells #[.int .u8 ((x+1)%256)] 5)).drew)=.ok (.string (strOfNums [z])) ((wr.alloc (.cells #[.int .u8 ((x+1)%256)] 5)).drew):=by
     rw[←hz]
     refine run_convert_bytes_arg (P:=Tryz.prog) _ 143 5 Tryz.underlying143 Tryz.underlying5 wr.heap.size 0 1 1 [z] rfl (fun i hi=>?_) 9 Tryz.underlying9
     obtain rfl:i=0:=by omega
     exact(Blk.new wr 5 #[.int .u8 z]).drew.cell 0
    obtain⟨Z,hZ⟩:∃Z,Z=strOfNums [z]:=⟨_,rfl⟩
    rw[←hZ] at hcv
    have hZs:Z.size=1:=by rw[hZ,strOfNums_size];rfl
    have hcat:∀w2:World,(Op.stringOp .add (s.extract 0 m) Z).run Tryz.prog w2=.ok (.string (s.extract 0 m++Z)) w2:=fun w2=>run_string_add_sum _ _ _ (by
     have h1:=HZ.out
     have h2:=HM.out
     unfold reach at h1
     rw[hZs,ByteArray.size_extract]
     omega)
    clear hZs
    have HZ2:=qD hZ
    have HZZ:=qD hz
    clear hz hZ
    have HX1:=qD hx
    go_region
    all_goals
     go_wp2_with fail
     go_ret2
     refine⟨?_,((Below.refl _ _).alloc (qL) _).drew⟩
     have hb := (s[m]'HM.out).toNat_lt
     have hx1:=HX1.out
     have hat : s.data[m]?.getD 0 = s[m]'HM.out := by
      rw[Array.getElem?_eq_getElem (show m<s.data.size from HM.out)]
      rfl
     rw[afterE_some (show stripN s s.size=m+1 by rw[←HS.out];exact HX.out),hat,HZ2.out,HZZ.out]
     have hne:x≠255:=by simpa using h1
     have e : strOfNums [(x + 1) % 256] = ⟨#[s[m]'HM.out + 1]⟩ := by
      apply ByteArray.ext
      apply Array.toList_inj.1
      rw[strOfNums_data]
      simp only[List.map_cons,List.map_nil]
      have : UInt8.ofNat ((x + 1) % 256).toNat = s[m]'HM.out + 1 := by
       apply UInt8.toNat_inj.1
       rw[UInt8.toNat_ofNat',UInt8.toNat_add]
       have:(1:UInt8).toNat=1:=rfl
       rw[this]
       omega
      rw[this]
     rw[e]
     rfl
def ROf(r:PSet)(k:Nat)(w:World)(e:Ending)(w':World):Prop:=
 ∃(A:Option Addr) (m c:Nat) (ys:List PI) (nf:List (Cut×Cut)),e=.returned (.tuple #[.slice A m c,.bool r.2])∧ys.map ivP=nf.map ivOf∧IsNF r.1 nf∧m≤k∧SI w' A m c ys∧Below w.heap.size w w'
theorem ROf.up{r:PSet}{k k':Nat}{w0 w w':World}{e:Ending}(h:ROf r k w e w')(hb:Below w0.heap.size w0 w)(hk:k≤k'):ROf r k' w0 e w':=by
 obtain⟨A,m,c,ys,nf,h1,h2,h3,h4,h5,h6⟩:=h
 exact⟨A,m,c,ys,nf,h1,h2,h3,Nat.le_trans h4 hk,h5,hb.step' h6⟩
def hasB(xs:List PV)(k:Int):Bool:=xs.any fun x=>x.1.k==k
theorem hasB_false{xs:List PV}{k:Int}(h:hasB xs k=false):∀x∈xs,x.1.k≠k:=by
 intro x hx e
 have:hasB xs k=true:=List.any_eq_true.2 ⟨x,hx,by simp[e]⟩
 rw[h] at this
 cases this
theorem hasB_true{xs:List PV}{k:Int}(h:hasB xs k=true):∃x∈xs,x.1.k=k:=by
 obtain⟨x,hx,e⟩:=List.any_eq_true.1 h
 exact⟨x,hx,by simpa using e⟩
theorem rhas25_any(xs:List PV)(A:Option Addr)(n c:Nat)(k:Int)(w:World)(h:SL (fun _=>True) w A n c xs):
 Calls Tryz.prog 113 #[.slice A n c,.int .i64 k] w fun e w'=>e=.returned (.bool (hasB xs k))∧Below w.heap.size w w':=by
 have hz:n≤140737488355328:=by have:=h.sz;unfold reach at this;omega
 have H:=qD h
 have HL:=qD h.sr.ln
 clear h
 go_enter Tryz.func113,Tryz.ntmps113
 go_upto_region 2 with fail
 go_loopw [5] (fun v wr=>∃i:Nat,i≤n∧v=.int .i64 i∧hasB xs k=hasB (xs.drop i) k∧Below w.heap.size w wr) (fun v _=>n-(intOf v).toNat)
 case atStart=>exact⟨0,Nat.zero_le _,rfl,rfl,Below.refl _ _⟩
 case round=>
  obtain⟨i,hi,rfl,ha,hbel⟩:=hrel
  have HA:=qD ha
  have HB:=qD hbel
  clear ha hbel
  by_cases hlt:i<n
  ·obtain⟨x,hx⟩:∃x,xs[i]?=some x:=⟨_,List.getElem?_eq_getElem (by have:=HL.out;omega)⟩
   obtain⟨b,off,rfl,_,hu,_⟩:=H.out.vat hx
   have HX:Hid (hasB (xs.drop i) k=((x.1.k==k)||hasB (xs.drop (i+1)) k)):=by
    rw[Hid,drop_of hx]
    rfl
   obtain⟨y0,_,_,_,_⟩:=hu.keep (HB.out.block b hu.lt)
   have i0:(0:Int)≤(i:Int):=by omega
   have i1:(i:Int)<(n:Int):=by omega
   obtain⟨q,hq⟩:∃q,(x.1.k==k)=q:=⟨_,rfl⟩
   rw[hq] at HX
   clear hx hu
   cases q
   ·go_wp2_with fail
    go_roundw
    case rel=>exact⟨i+1,by omega,by go_num,by rw[HA.out,HX.out];rfl,HB.out⟩
    case measure=>simp[intOf];omega
   ·go_wp2_with fail
    go_ret
    exact⟨by rw[HA.out,HX.out];rfl,HB.out⟩
  ·obtain rfl:i=n:=by omega
   go_wp2_with fail
   go_ret
   exact⟨by rw[HA.out,List.drop_of_length_le (by have:=HL.out;omega)];rfl,HB.out⟩
theorem rs_other(p:PrT)(h:p.op≠2∧p.op≠4∧p.op≠5∧p.op≠6∧p.op≠7∧p.op≠8∧p.op≠16∧p.op≠11)(w:World):
 Calls Tryz.prog 59 #[aggPr p] w (ROf (leafS p.op p.arg.2 (p.args.xs.map Prod.snd) p.n) (p.args.n+1) w):=by
 have HL:Hid (leafS p.op p.arg.2 (p.args.xs.map Prod.snd) p.n=(allS,false)):=qD (leafS_none (leafI_other (by omega)))
 have B0:Hid (Blk (w.alloc (.cells (arrPr p) 41)) w.heap.size 41 (arrPr p)):=Blk.new_at rfl
 have BE:=qD ((Below.refl w.heap.size w).alloc (qL) (Obj.cells (arrPr p) 41))
 go_enter Tryz.func59,Tryz.ntmps59
 go_upto_region 1 with fail
 change Code.wp _ _ _ _ (w.alloc (.cells (arrPr p) 41))
 generalize w.alloc (.cells (arrPr p) 41)=wa at*
 obtain⟨d0,-,-,-,d7,d8,-,-⟩:=pr_cells B0.out
 have f2:=(range_parg B0.out) 0 _ rfl
 simp only[Nat.reduceAdd] at f2
 obtain⟨h3,h4,h5,h6,h7,h8,h9,h10⟩:=h
 have g3:(p.op==2)=false:=by simpa using h3
 have g4:(p.op==4)=false:=by simpa using h4
 have g5:(p.op==5)=false:=by simpa using h5
 have g6:(p.op==6)=false:=by simpa using h6
 have g7:(p.op==7)=false:=by simpa using h7
 have g8:(p.op==8)=false:=by simpa using h8
 have g9:(p.op==16)=false:=by simpa using h9
 have g10:(p.op==11)=false:=by simpa using h10
 clear h3 h4 h5 h6 h7 h8 h9 h10
 go_wp2_with fail
 refine(rall_any _).mono ?_
 rintro e w9 ⟨A3,m3,c3,ys,nf,rfl,hy,hnf,hmk,hsi,hb3⟩
 have HNO:=qD (show ROf (allS,false) 1 wa (.returned (.tuple #[.slice A3 m3 c3,.bool false])) w9 from⟨A3,m3,c3,ys,nf,rfl,hy,hnf,hmk,hsi,hb3⟩)
 clear hy hnf hmk hsi hb3
 go_wp2_with fail
 go_ret2
 rw[HL.out]
 exact HNO.out.up BE.out (by omega)
theorem rs_eq(p:PrT)(h:p.op=2)(hv:validV p.arg.2=true)(w:World)(hw:WP w p):
 Calls Tryz.prog 59 #[aggPr p] w (ROf (leafS p.op p.arg.2 (p.args.xs.map Prod.snd) p.n) (p.args.n+1) w):=by
 have HX:=qD hw.open.arg
 have HK:Hid (p.arg.1.k=p.arg.2.k):=qD hw.open.arg.open.k
 have HV:=qD hv
 clear hw hv
 have B0:Hid (Blk (w.alloc (.cells (arrPr p) 41)) w.heap.size 41 (arrPr p)):=Blk.new_at rfl
 have BE:=qD ((Below.refl w.heap.size w).alloc (qL) (Obj.cells (arrPr p) 41))
 go_enter Tryz.func59,Tryz.ntmps59
 go_upto_region 1 with fail
 change Code.wp _ _ _ _ (w.alloc (.cells (arrPr p) 41))
 generalize w.alloc (.cells (arrPr p) 41)=wa at*
 obtain⟨d0,-,-,-,d7,d8,-,-⟩:=pr_cells B0.out
 have f2:=(range_parg B0.out) 0 _ rfl
 simp only[Nat.reduceAdd] at f2
 rw[h] at d0
 have HOPH:=qD h
 clear h
 by_cases h6:p.arg.1.k=6
 ·have HL:Hid (leafS 2 p.arg.2 (p.args.xs.map Prod.snd) p.n=(allS,false)):=qD (leafS_none (leafI_eq6 (by rw[←HK.out];exact h6)))
  rw[h6] at f2
  clear h6
  go_wp2_with fail
  refine(rall_any _).mono ?_
  rintro e w9 ⟨A3,m3,c3,ys,nf,rfl,hy,hnf,hmk,hsi,hb3⟩
  have HNO:=qD (show ROf (allS,false) 1 wa (.returned (.tuple #[.slice A3 m3 c3,.bool false])) w9 from⟨A3,m3,c3,ys,nf,rfl,hy,hnf,hmk,hsi,hb3⟩)
  clear hy hnf hmk hsi hb3
  go_wp2_with fail
  go_ret2
  rw[HOPH.out,HL.out]
  exact HNO.out.up BE.out (by omega)
 ·have h6':(p.arg.1.k != 6)=true:=by simpa using h6
  obtain⟨b2,hb2⟩:∃b,b=decide (p.arg.2.k≠2):=⟨_,rfl⟩
  have HL:Hid (leafS 2 p.arg.2 (p.args.xs.map Prod.snd) p.n=((fun a=>inS cmC a (spansL [ptIv p.arg.2])),b2)):=by
   rw[Hid,leafS_some (leafI_eq (by rw[←HK.out];exact h6)),hb2]
  have k2:(p.arg.1.k != 2)=b2:=by rw[hb2,HK.out,Bool.eq_iff_iff];simp
  have f3:=(range_parg B0.out) 1 _ rfl
  have f4:=(range_parg B0.out) 2 _ rfl
  have f5:=(range_parg B0.out) 3 _ rfl
  have f6:=(range_parg B0.out) 4 _ rfl
  simp only[Nat.reduceAdd] at f3 f4 f5 f6
  clear h6 hb2
  go_upto_region 4 with fail
  have B:=qD ((Below.refl wa.heap.size wa).drew)
  have KS:Hid (∀w',Below wa.heap.size wa w'→(fun w'=>w'.cell? ⟨w.heap.size,2,none⟩=some (.int .i64 p.arg.1.k)∧w'.cell? ⟨w.heap.size,3,none⟩=some (.int .i64 p.arg.1.n)∧w'.cell? ⟨w.heap.size,4,none⟩=some (.string p.arg.1.t)∧w'.cell? ⟨w.heap.size,5,none⟩=some (.slice p.arg.1.LA p.arg.1.ln p.arg.1.lc)∧w'.cell? ⟨w.heap.size,6,none⟩=some (.slice p.arg.1.DA p.arg.1.dn p.arg.1.dc)) w'):=qD fun w' hb=>⟨(hb.cell (p:=⟨w.heap.size,2,none⟩) B0.out.lt).trans f2,(hb.cell (p:=⟨w.heap.size,3,none⟩) B0.out.lt).trans f3,(hb.cell (p:=⟨w.heap.size,4,none⟩) B0.out.lt).trans f4,(hb.cell (p:=⟨w.heap.size,5,none⟩) B0.out.lt).trans f5,(hb.cell (p:=⟨w.heap.size,6,none⟩) B0.out.lt).trans f6⟩
  clear f2 f3 f4 f5 f6 d0 d7 d8
  refine wp_region_noPanic ?_
  refine wp_region_held_drew (S:=(fun w'=>w'.cell? ⟨w.heap.size,2,none⟩=some (.int .i64 p.arg.1.k)∧w'.cell? ⟨w.heap.size,3,none⟩=some (.int .i64 p.arg.1.n)∧w'.cell? ⟨w.heap.size,4,none⟩=some (.string p.arg.1.t)∧w'.cell? ⟨w.heap.size,5,none⟩=some (.slice p.arg.1.LA p.arg.1.ln p.arg.1.lc)∧w'.cell? ⟨w.heap.size,6,none⟩=some (.slice p.arg.1.DA p.arg.1.dn p.arg.1.dc))) (by kernel_rfl) ?_ (fun hHeld=>?_)
  ·(try dsimp only);exact KS.out _ B.out
  refine rT (v:=?_) 0 rfl ?_ ?_
  rotate_left
  ·intro w' hSw;(try dsimp only at hSw);obtain⟨hSw2,hSw3,hSw4,hSw5,hSw6⟩:=hSw;go_simp;(try with_reducible rfl)
  try go_frame
  refine rT (v:=?_) 1 rfl ?_ ?_
  rotate_left
  ·intro w' hSw;(try dsimp only at hSw);obtain⟨hSw2,hSw3,hSw4,hSw5,hSw6⟩:=hSw;go_simp;(try with_reducible rfl)
  try go_frame
  refine rT (v:=?_) 2 rfl ?_ ?_
  rotate_left
  ·intro w' hSw;(try dsimp only at hSw);obtain⟨hSw2,hSw3,hSw4,hSw5,hSw6⟩:=hSw;go_simp;(try with_reducible rfl)
  try go_frame
  refine rT (v:=?_) 3 rfl ?_ ?_
  rotate_left
  ·intro w' hSw;(try dsimp only at hSw);obtain⟨hSw2,hSw3,hSw4,hSw5,hSw6⟩:=hSw;go_simp;(try with_reducible rfl)
  try go_frame
  refine rT (v:=?_) 4 rfl ?_ ?_
  rotate_left
  ·intro w' hSw;(try dsimp only at hSw);obtain⟨hSw2,hSw3,hSw4,hSw5,hSw6⟩:=hSw;go_simp;(try with_reducible rfl)
  try go_frame
  refine rT (v:=?_) 6 rfl ?_ ?_
  rotate_left
  ·intro w' hSw;(try dsimp only at hSw);obtain⟨hSw2,hSw3,hSw4,hSw5,hSw6⟩:=hSw;go_simp;(try with_reducible rfl)
  try go_frame
  refine rT (v:=?_) 7 rfl ?_ ?_
  rotate_left
  ·intro w' hSw;(try dsimp only at hSw);obtain⟨hSw2,hSw3,hSw4,hSw5,hSw6⟩:=hSw;go_simp;(try with_reducible rfl)
  try go_frame
  refine rT (v:=?_) 8 rfl ?_ ?_
  rotate_left
  ·intro w' hSw;(try dsimp only at hSw);obtain⟨hSw2,hSw3,hSw4,hSw5,hSw6⟩:=hSw;go_simp;(try with_reducible rfl)
  try go_frame
  refine rT (v:=?_) 9 rfl ?_ ?_
  rotate_left
  ·intro w' hSw;(try dsimp only at hSw);obtain⟨hSw2,hSw3,hSw4,hSw5,hSw6⟩:=hSw;go_simp;(try with_reducible rfl)
  try go_frame
  refine rY 5 rfl fun K hK=>?_
  go_simp
  clear hHeld
  refine hK.out _ _ ?_ fun hHeld=>?_
  ·(try dsimp only);exact KS.out _ (B.out.alloc B.out.size _)
  clear hK K
  try go_frame
  refine rT (v:=?_) 10 rfl ?_ ?_
  rotate_left
  ·intro w' hSw;(try dsimp only at hSw);obtain⟨hSw2,hSw3,hSw4,hSw5,hSw6⟩:=hSw;go_simp;(try with_reducible rfl)
  try go_frame
  refine rT (v:=?_) 11 rfl ?_ ?_
  rotate_left
  ·intro w' hSw;(try dsimp only at hSw);obtain⟨hSw2,hSw3,hSw4,hSw5,hSw6⟩:=hSw;go_simp;(try with_reducible rfl)
  try go_frame
  refine rD ?_ _
  refine NoPanic.normal ?_
  clear hHeld
  go_wp2_with fail
  go_ret2
  rw[HOPH.out,HL.out]
  exact⟨_,1,1,[ptI p.arg],_,rfl,rfl,pt_nf HV.out,by omega,si_one (Blk.new_at rfl) ⟨HX.out.step (BE.out.step' (B.out.alloc B.out.size _)),HX.out.step (BE.out.step' (B.out.alloc B.out.size _))⟩,BE.out.step' (B.out.alloc B.out.size _)⟩
theorem rs_cmp(p:PrT)(ho:p.op=4∨p.op=5∨p.op=6∨p.op=7)(hv:validV p.arg.2=true)(w:World)(hw:WP w p):
 Calls Tryz.prog 59 #[aggPr p] w (ROf (leafS p.op p.arg.2 (p.args.xs.map Prod.snd) p.n) (p.args.n+1) w):=by
 have HX:=qD hw.open.arg
 have HK:Hid (p.arg.1.k=p.arg.2.k):=qD hw.open.arg.open.k
 have HN:Hid (1≤p.arg.1.k∧p.arg.1.k≤11):=by rw[HK.out];exact qD (kind_range hv)
 have HO:=qD ho
 clear hw hv
 have B0:Hid (Blk (w.alloc (.cells (arrPr p) 41)) w.heap.size 41 (arrPr p)):=Blk.new_at rfl
 have BE:=qD ((Below.refl w.heap.size w).alloc (qL) (Obj.cells (arrPr p) 41))
 go_enter Tryz.func59,Tryz.ntmps59
 go_upto_region 1 with fail
 change Code.wp _ _ _ _ (w.alloc (.cells (arrPr p) 41))
 generalize w.alloc (.cells (arrPr p) 41)=wa at*
 obtain⟨d0,-,-,-,d7,d8,-,-⟩:=pr_cells B0.out
 have f2:=(range_parg B0.out) 0 _ rfl
 simp only[Nat.reduceAdd] at f2
 obtain⟨op,hop⟩:∃op,op=p.op:=⟨_,rfl⟩
 rw[←hop] at d0 ho
 have HOP:=qD hop
 clear hop
 by_cases h6:p.arg.1.k=6
 ·have HL:Hid (leafS p.op p.arg.2 (p.args.xs.map Prod.snd) p.n=(allS,false)):=qD (leafS_none (leafI_cmp6 HO.out (by rw[←HK.out];exact h6)))
  rw[h6] at f2
  clear h6
  rcases ho with rfl|rfl|rfl|rfl
  all_goals
   go_wp2_with fail
   refine(rall_any _).mono ?_
   rintro e w9 ⟨A3,m3,c3,ys,nf,rfl,hy,hnf,hmk,hsi,hb3⟩
   have HNO:=qD (show ROf (allS,false) 1 wa (.returned (.tuple #[.slice A3 m3 c3,.bool false])) w9 from⟨A3,m3,c3,ys,nf,rfl,hy,hnf,hmk,hsi,hb3⟩)
   clear hy hnf hmk hsi hb3
   go_wp2_with fail
   go_ret2
   rw[HL.out]
   exact HNO.out.up BE.out (by omega)
 ·have h6':(p.arg.1.k != 6)=true:=by simpa using h6
  have HQI:Hid (ivP (rngP p.arg.1.k)=rangeI p.arg.2.k):=by rw[Hid,rngP_iv HN.out h6,HK.out]
  have H6:=qD h6
  obtain⟨q,hq⟩:∃q,q=limP p.op (rngP p.arg.1.k) p.arg:=⟨_,rfl⟩
  have HQE:=qD hq
  have HL:Hid (leafS p.op p.arg.2 (p.args.xs.map Prod.snd) p.n=((fun a=>inS cmC a (spansL ([q].map ivP))),decide (p.arg.2.k≠2))):=by
   rw[Hid,leafS_some (leafI_cmp HO.out (by rw[←HK.out];exact h6)),List.map_singleton,hq]
   rw[show ivP (limP p.op (rngP p.arg.1.k) p.arg)=limI p.op p.arg.2 from limP_iv (x:=p.arg.2) (c:=p.arg.1) HQI.out]
  have HQ:Hid (∀wq:World,Below w.heap.size w wq→okI wq q):=qD fun wq hb=>by
   rw[hq]
   unfold limP
   split
   ·exact⟨HX.out.step hb,(rngP_ok _ wq).2⟩
   ·exact⟨(rngP_ok _ wq).1,HX.out.step hb⟩
  obtain⟨b2,hb2⟩:∃b,b=decide (p.arg.2.k≠2):=⟨_,rfl⟩
  rw[←hb2] at HL
  have k2:(p.arg.1.k != 2)=b2:=by rw[hb2,HK.out,Bool.eq_iff_iff];simp
  clear h6 hb2 hq HQI
  rcases ho with rfl|rfl|rfl|rfl
  all_goals
   go_upto_region 10 with fail
   have B:=qD ((Below.refl wa.heap.size wa).drew)
   have KS:Hid (∀w',Below wa.heap.size wa w'→(fun w'=>(Instr.loadAt 41 (.pointer (some ⟨w.heap.size,0,none⟩))).run Tryz.prog w'=.ok (aggPr p) w'∧w'.cell? ⟨w.heap.size,2,none⟩=some (.int .i64 p.arg.1.k)) w'):=qD fun w' hb=>⟨load_pred (arrPr p) rfl _ _ (B0.out.step hb),(hb.cell (p:=⟨w.heap.size,2,none⟩) B0.out.lt).trans f2⟩
   clear f2 d0 d7 d8
   refine wp_region_noPanic ?_
   refine wp_region_held_drew (S:=(fun w'=>(Instr.loadAt 41 (.pointer (some ⟨w.heap.size,0,none⟩))).run Tryz.prog w'=.ok (aggPr p) w'∧w'.cell? ⟨w.heap.size,2,none⟩=some (.int .i64 p.arg.1.k))) (by kernel_rfl) ?_ (fun hHeld=>?_)
   ·(try dsimp only);exact KS.out _ B.out
   refine rT (v:=aggPr p) 0 rfl ?_ ?_
   (skip)
   ·intro w' hSw;exact exec_load (p:=.pointer (some ⟨w.heap.size,0,none⟩)) rfl rfl hSw.1
   try go_frame
   refine rT (v:=?_) 4 rfl ?_ ?_
   rotate_left
   ·intro w' hSw;(try dsimp only at hSw);obtain⟨_,hSwc⟩:=hSw;go_simp;(try with_reducible rfl)
   try go_frame
   refine rT (v:=?_) 5 rfl ?_ ?_
   rotate_left
   ·intro w' hSw;(try dsimp only at hSw);obtain⟨_,hSwc⟩:=hSw;go_simp;(try with_reducible rfl)
   try go_frame
   refine rT (v:=?_) 6 rfl ?_ ?_
   rotate_left
   ·intro w' hSw;(try dsimp only at hSw);obtain⟨_,hSwc⟩:=hSw;go_simp;(try with_reducible rfl)
   try go_frame
   refine rT (v:=?_) 7 rfl ?_ ?_
   rotate_left
   ·intro w' hSw;(try dsimp only at hSw);obtain⟨_,hSwc⟩:=hSw;go_simp;(try with_reducible rfl)
   try go_frame
   refine rY 1 rfl fun K hK=>?_
   go_simp
   refine(rcomparison_any p _ HO.out HN.out H6.out).mono ?_
   rintro e4 w4 ⟨rfl,hb⟩
   replace B:=qD (B.out.step' hb)
   clear hb
   rw[←HQE.out]
   (try go_wp2_with fail)
   clear hHeld
   refine hK.out _ _ ?_ fun hHeld=>?_
   ·(try dsimp only);exact KS.out _ B.out
   clear hK K
   try go_frame
   refine rY 2 rfl fun K hK=>?_
   go_simp
   clear hHeld
   refine hK.out _ _ ?_ fun hHeld=>?_
   ·(try dsimp only);exact KS.out _ (B.out.alloc B.out.size _)
   clear hK K
   try go_frame
   refine rY 3 rfl fun K hK=>?_
   go_simp
   refine(rnormal_any [q] _ 1 1 _ (si_one (Blk.new_at rfl) (HQ.out _ (BE.out.step' (B.out.alloc B.out.size _)))) (by omega)).mono ?_
   rintro e3 w5 ⟨A3,m3,c3,ys,nf,rfl,hy,hnf,hmk,hsi,hb3⟩
   have HNO:=qD (show ROf ((fun a=>inS cmC a (spansL ([q].map ivP))),b2) 1 _ (.returned (.tuple #[.slice A3 m3 c3,.bool b2])) w5 from⟨A3,m3,c3,ys,nf,rfl,hy,hnf,hmk,hsi,hb3⟩)
   replace HNO:=qD (HNO.out.up (B.out.alloc B.out.size _) (qL))
   replace B:=qD ((B.out.alloc B.out.size _).step' hb3)
   clear hy hnf hmk hsi hb3
   (try go_wp2_with fail)
   clear hHeld
   refine hK.out _ _ ?_ fun hHeld=>?_
   ·(try dsimp only);exact KS.out _ B.out
   clear hK K
   try go_frame
   refine rT (v:=?_) 8 rfl ?_ ?_
   rotate_left
   ·intro w' hSw;(try dsimp only at hSw);obtain⟨_,hSwc⟩:=hSw;go_simp;(try with_reducible rfl)
   try go_frame
   refine rT (v:=?_) 9 rfl ?_ ?_
   rotate_left
   ·intro w' hSw;(try dsimp only at hSw);obtain⟨_,hSwc⟩:=hSw;go_simp;(try with_reducible rfl)
   try go_frame
   refine rD ?_ _
   refine NoPanic.normal ?_
   clear hHeld
   go_wp2_with fail
   go_ret2
   rw[HL.out]
   exact HNO.out.up BE.out (by omega)
theorem rs_kind(p:PrT)(h:p.op=11)(hn:1≤p.n∧p.n≤11)(w:World):
 Calls Tryz.prog 59 #[aggPr p] w (ROf (leafS p.op p.arg.2 (p.args.xs.map Prod.snd) p.n) (p.args.n+1) w):=by
 have HN:=qD hn
 clear hn
 have B0:Hid (Blk (w.alloc (.cells (arrPr p) 41)) w.heap.size 41 (arrPr p)):=Blk.new_at rfl
 have BE:=qD ((Below.refl w.heap.size w).alloc (qL) (Obj.cells (arrPr p) 41))
 go_enter Tryz.func59,Tryz.ntmps59
 go_upto_region 1 with fail
 change Code.wp _ _ _ _ (w.alloc (.cells (arrPr p) 41))
 generalize w.alloc (.cells (arrPr p) 41)=wa at*
 obtain⟨d0,-,-,-,d7,d8,-,-⟩:=pr_cells B0.out
 have f2:=(range_parg B0.out) 0 _ rfl
 simp only[Nat.reduceAdd] at f2
 rw[h] at d0
 have HOPH:=qD h
 clear h
 by_cases h6:p.n=6
 ·have HL:Hid (leafS 11 p.arg.2 (p.args.xs.map Prod.snd) p.n=(allS,false)):=by rw[h6];exact qD (leafS_none leafI_kind6)
  rw[h6] at d8
  clear h6
  go_wp2_with fail
  refine(rall_any _).mono ?_
  rintro e w9 ⟨A3,m3,c3,ys,nf,rfl,hy,hnf,hmk,hsi,hb3⟩
  have HNO:=qD (show ROf (allS,false) 1 wa (.returned (.tuple #[.slice A3 m3 c3,.bool false])) w9 from⟨A3,m3,c3,ys,nf,rfl,hy,hnf,hmk,hsi,hb3⟩)
  clear hy hnf hmk hsi hb3
  go_wp2_with fail
  go_ret2
  rw[HOPH.out,HL.out]
  exact HNO.out.up BE.out (by omega)
 ·have h6':(p.n != 6)=true:=by simpa using h6
  have H6:=qD h6
  obtain⟨q,hq⟩:∃q,q=rngP p.n:=⟨_,rfl⟩
  have HQE:=qD hq
  have HL:Hid (leafS 11 p.arg.2 (p.args.xs.map Prod.snd) p.n=((fun a=>inS cmC a (spansL ([q].map ivP))),decide (p.n≠2))):=by
   rw[Hid,leafS_some (leafI_kind h6),List.map_singleton,hq,rngP_iv HN.out h6]
  have HQ:Hid (∀wq:World,Below w.heap.size w wq→okI wq q):=qD fun wq hb=>by
   rw[hq]
   exact rngP_ok _ wq
  obtain⟨b2,hb2⟩:∃b,b=decide (p.n≠2):=⟨_,rfl⟩
  rw[←hb2] at HL
  have k2:(p.n != 2)=b2:=by rw[hb2,Bool.eq_iff_iff];simp
  clear h6 hb2 hq
  go_upto_region 30 with fail
  have B:=qD ((Below.refl wa.heap.size wa).drew)
  have KS:Hid (∀w',Below wa.heap.size wa w'→(fun w'=>w'.cell? ⟨w.heap.size,8,none⟩=some (.int .i64 p.n)) w'):=qD fun w' hb=>(hb.cell (p:=⟨w.heap.size,8,none⟩) B0.out.lt).trans d8
  clear f2 d0 d7 d8
  refine wp_region_noPanic ?_
  refine wp_region_held_drew (S:=(fun w'=>w'.cell? ⟨w.heap.size,8,none⟩=some (.int .i64 p.n))) (by kernel_rfl) ?_ (fun hHeld=>?_)
  ·(try dsimp only);exact KS.out _ B.out
  refine rU 0 rfl ?_
  try go_frame
  refine rU 1 rfl ?_
  try go_frame
  refine rU 5 rfl ?_
  try go_frame
  refine rU 6 rfl ?_
  try go_frame
  refine rU 7 rfl ?_
  try go_frame
  refine rY 2 rfl fun K hK=>?_
  go_simp
  refine(rrange_any p.n _ HN.out H6.out).mono ?_
  rintro e4 w4 ⟨rfl,hb⟩
  replace B:=qD (B.out.step' hb)
  clear hb
  rw[←HQE.out]
  (try go_wp2_with fail)
  clear hHeld
  refine hK.out _ _ ?_ fun hHeld=>?_
  ·(try dsimp only);exact KS.out _ B.out
  clear hK K
  try go_frame
  refine rY 3 rfl fun K hK=>?_
  go_simp
  clear hHeld
  refine hK.out _ _ ?_ fun hHeld=>?_
  ·(try dsimp only);exact KS.out _ (B.out.alloc B.out.size _)
  clear hK K
  try go_frame
  refine rY 4 rfl fun K hK=>?_
  go_simp
  refine(rnormal_any [q] _ 1 1 _ (si_one (Blk.new_at rfl) (HQ.out _ (BE.out.step' (B.out.alloc B.out.size _)))) (by omega)).mono ?_
  rintro e3 w5 ⟨A3,m3,c3,ys,nf,rfl,hy,hnf,hmk,hsi,hb3⟩
  have HNO:=qD (show ROf ((fun a=>inS cmC a (spansL ([q].map ivP))),b2) 1 _ (.returned (.tuple #[.slice A3 m3 c3,.bool b2])) w5 from⟨A3,m3,c3,ys,nf,rfl,hy,hnf,hmk,hsi,hb3⟩)
  replace HNO:=qD (HNO.out.up (B.out.alloc B.out.size _) (qL))
  replace B:=qD ((B.out.alloc B.out.size _).step' hb3)
  clear hy hnf hmk hsi hb3
  (try go_wp2_with fail)
  clear hHeld
  refine hK.out _ _ ?_ fun hHeld=>?_
  ·(try dsimp only);exact KS.out _ B.out
  clear hK K
  try go_frame
  refine rU 8 rfl ?_
  try go_frame
  refine rU 9 rfl ?_
  try go_frame
  refine rD ?_ _
  refine NoPanic.normal ?_
  clear hHeld
  go_wp2_with fail
  go_ret2
  rw[HOPH.out,HL.out]
  exact HNO.out.up BE.out (by omega)
theorem rs_in(p:PrT)(h:p.op=8)(w:World)(hw:WP w p):
 Calls Tryz.prog 59 #[aggPr p] w (ROf (leafS p.op p.arg.2 (p.args.xs.map Prod.snd) p.n) (p.args.n+1) w):=by
 obtain⟨i0,hi0,hz0,hz1,hz2⟩:=info_parts info_interval
 have HAR:=qD hw.open.args
 have HLN:=qD hw.open.args.sr.ln
 have HNZ:Hid (p.args.n≤1000000000):=by have:=hw.open.few;exact qD (by omega)
 have HKK:Hid (∀x∈p.args.xs,x.1.k=x.2.k):=qD fun x hx=>(hw.open.args.rv x hx).open.k
 have haz:p.args.n≤1048576:=hw.open.few
 clear hw
 have B0:Hid (Blk (w.alloc (.cells (arrPr p) 41)) w.heap.size 41 (arrPr p)):=Blk.new_at rfl
 have BE:=qD ((Below.refl w.heap.size w).alloc (qL) (Obj.cells (arrPr p) 41))
 go_enter Tryz.func59,Tryz.ntmps59
 go_upto_region 1 with fail
 change Code.wp _ _ _ _ (w.alloc (.cells (arrPr p) 41))
 generalize w.alloc (.cells (arrPr p) 41)=wa at*
 obtain⟨d0,-,-,-,d7,d8,-,-⟩:=pr_cells B0.out
 have f2:=(range_parg B0.out) 0 _ rfl
 simp only[Nat.reduceAdd] at f2
 rw[h] at d0
 have HOPH:=qD h
 clear h
 go_wp2_with fail
 refine(rhas25_any p.args.xs _ _ _ 6 _ (HAR.out.step BE.out)).mono ?_
 rintro e w1 ⟨rfl,hb⟩
 replace B0:=qD (B0.out.step hb)
 replace BE:=qD (BE.out.step' hb)
 clear hb d0 d7 d8 f2
 cases hb6:hasB p.args.xs 6
 ·have H6:=qD (hasB_false hb6)
  clear hb6
  obtain⟨b2,hb2⟩:∃b,hasB p.args.xs 2=b:=⟨_,rfl⟩
  have HB2:=qD hb2
  have HL:Hid (leafS 8 p.arg.2 (p.args.xs.map Prod.snd) p.n=((fun a=>inS cmC a (spansL ((p.args.xs.map ptI).map ivP))),!b2)):=by
   have e:(p.args.xs.map ptI).map ivP=(p.args.xs.map Prod.snd).map ptIv:=by rw[List.map_map,List.map_map];rfl
   rw[Hid,leafS_some (in_exact (b:=!b2) (fun x hx=>by rw[←HKK.out x hx];exact H6.out x hx) ?_),e]
   rw[Bool.not_eq_true']
   constructor
   ·rintro rfl x hx
    rw[←HKK.out x hx]
    exact hasB_false hb2 x hx
   ·intro h
    cases b2
    ·rfl
    ·obtain⟨x,hx,e⟩:=hasB_true hb2
     exact absurd ((HKK.out x hx).symm.trans e) (h x hx)
  clear hb2
  go_upto_region 15 with fail
  go_loopw [4,5] (fun v4 v5 wr=>∃i:Nat,i≤p.args.n∧v5=.int .i64 i∧NxI w1 v4 i ((p.args.xs.take i).map ptI) wr) (fun _ v5 _=>p.args.n-(intOf v5).toNat)
  case atStart=>exact⟨0,Nat.zero_le _,rfl,⟨own_nil _ _ _ _,Below.refl _ _⟩⟩
  case round=>
   obtain⟨i,hi,rfl,I⟩:=hrel
   have J:=qD I
   have B5:=qD (B0.out.step I.bel)
   obtain⟨_,_,_,_,d7,_,_,_⟩:=pr_cells B5.out
   by_cases hlt:i<p.args.n
   ·obtain⟨x,hx⟩:∃x,p.args.xs[i]?=some x:=⟨_,List.getElem?_eq_getElem (by have:=HLN.out;omega)⟩
    have HT:Hid ((p.args.xs.take (i+1)).map ptI=(p.args.xs.take i).map ptI++[ptI x]):=by unfold Hid;rw[take_snoc' hx,List.map_append];rfl
    obtain⟨b,off,eA,_,hu,hr⟩:=(HAR.out.step BE.out).vat hx
    rw[eA] at d7
    have hbr:b<wr.heap.size:=by have:=hu.lt;have:=I.bel.size;omega
    have hlo:w1.heap.size≤wr.heap.size:=I.bel.size
    obtain⟨y0,y1,y2,y3,y4⟩:=hu.keep (I.bel.block b hu.lt)
    have i0':(0:Int)≤(i:Int):=by omega
    have i1':(i:Int)<(p.args.n:Int):=by omega
    have HEA:=qD eA
    clear hx hu hr I eA
    go_upto_region 17 with fail
    go_region_law ((refine step_append_any _ rfl (.tmp 58) (.tmp 70) 51 rfl w1.heap.size 93 i0 (aggI (((VC.zero,Val.zero),(VC.zero,Val.zero)),(false,false))) 12 168 Tryz.underlying51 hi0 hz0 hz1 hz2 rfl (by decide) u4 i (flat recI ((p.args.xs.take i).map ptI)) (by simp[Act.eval]) ((J.out.own.alloc _).drew) (wr.heap.size+1) (some ⟨wr.heap.size,0,none⟩) 1 1 (recI (ptI x)) (by simp[Act.eval]) ⟨rfl,fun _=>⟨_,rfl,by simp,news_at _ _ _⟩⟩ (recI_one _) (by simp only[maxLen];omega) (by omega) (by simp;omega) ?_;intro v' w' hown hgr hat))
    all_goals
     have HI:Hid (NxI w1 v' (i+1) ((p.args.xs.take i).map ptI++[ptI x]) w'):=qD ((J.out.alloc _).drew.next (ys:=[ptI x]) (by simp[flat]) rfl hown hgr)
     rw[←HT.out] at HI
     clear hown hgr hat y0 y1 y2 y3 y4 i0' i1' J HT d7
     go_wp2_with fail
     go_roundw
     case rel=>exact⟨i+1,by omega,by go_num,HI.out⟩
     case measure=>simp[intOf];omega
   ·obtain rfl:i=p.args.n:=by omega
    have hps:p.args.xs.take p.args.n=p.args.xs:=List.take_of_length_le (by have:=HLN.out;omega)
    rw[hps] at I
    obtain⟨A2,c2,rfl,hs⟩:=SI.of_own (xs:=p.args.xs.map ptI) I.own (by rw[List.length_map];exact HLN.out.symm) (by unfold reach;omega) (fun x hx=>by
     obtain⟨q,hq,rfl⟩:=List.mem_map.1 hx
     have:=((HAR.out.rv q hq).step BE.out).step I.bel
     exact⟨this,this⟩)
    have HSI:=qD hs
    replace BE:=qD (BE.out.step' I.bel)
    clear hs I J hps B0
    go_upto_region 18 with fail
    have B:=qD ((Below.refl wr.heap.size wr).drew)
    have KS:Hid (∀w',Below wr.heap.size wr w'→(fun w'=>w'.cell? ⟨w.heap.size,7,none⟩=some (.slice p.args.A p.args.n p.args.c)) w'):=qD fun w' hb=>(hb.cell (p:=⟨w.heap.size,7,none⟩) B5.out.lt).trans d7
    clear d7
    refine wp_region_noPanic ?_
    refine wp_region_held_drew (S:=(fun w'=>w'.cell? ⟨w.heap.size,7,none⟩=some (.slice p.args.A p.args.n p.args.c))) (by kernel_rfl) ?_ (fun hHeld=>?_)
    ·(try dsimp only);exact KS.out _ B.out
    refine rU 0 rfl ?_
    try go_frame
    refine rU 2 rfl ?_
    try go_frame
    refine rU 3 rfl ?_
    try go_frame
    refine rY 1 rfl fun K hK=>?_
    go_simp
    refine(rnormal_any (p.args.xs.map ptI) _ _ _ _ (HSI.out.step B.out) (Nat.le_trans HNZ.out (by decide))).mono ?_
    rintro e3 w5 ⟨A3,m3,c3,ys,nf,rfl,hy,hnf,hmk,hsi,hb3⟩
    have HNO:Hid (∀w6,Below w5.heap.size w5 w6→ROf ((fun a=>inS cmC a (spansL ((p.args.xs.map ptI).map ivP))),!b2) p.args.n w (.returned (.tuple #[.slice A3 m3 c3,.bool (!b2)])) w6):=qD fun w6 hb6=>⟨A3,m3,c3,ys,nf,rfl,hy,hnf,hmk,hsi.step hb6,(BE.out.step' (B.out.step' hb3)).step' hb6⟩
    replace B:=qD (B.out.step' hb3)
    clear hy hnf hmk hsi hb3
    (try go_wp2_with fail)
    clear hHeld
    refine hK.out _ _ ?_ fun hHeld=>?_
    ·(try dsimp only);exact KS.out _ B.out
    clear hK K
    try go_frame
    refine rY 4 rfl fun K hK=>?_
    go_simp
    refine(rhas25_any p.args.xs _ _ _ 2 _ (HAR.out.step (BE.out.step' B.out))).mono ?_
    rintro e4 w6 ⟨rfl,hb⟩
    rw[HB2.out]
    replace B:=qD (B.out.step' hb)
    replace HNO:=qD (HNO.out _ hb)
    clear hb
    (try go_wp2_with fail)
    clear hHeld
    refine hK.out _ _ ?_ fun hHeld=>?_
    ·(try dsimp only);exact KS.out _ B.out
    clear hK K
    try go_frame
    refine rU 5 rfl ?_
    try go_frame
    refine rU 6 rfl ?_
    try go_frame
    refine rU 7 rfl ?_
    try go_frame
    refine rD ?_ _
    refine NoPanic.normal ?_
    clear hHeld
    go_wp2_with fail
    go_ret2
    rw[HOPH.out,HL.out]
    exact HNO.out.up (Below.refl _ _) (by omega)
 ·have HL:Hid (leafS 8 p.arg.2 (p.args.xs.map Prod.snd) p.n=(allS,false)):=by
   obtain⟨x,hx,e⟩:=hasB_true hb6
   exact qD (leafS_none (leafI_in6 ⟨x.2,List.mem_map_of_mem hx,by rw[←HKK.out x hx];exact e⟩))
  clear hb6
  go_wp2_with fail
  refine(rall_any _).mono ?_
  rintro e w9 ⟨A3,m3,c3,ys,nf,rfl,hy,hnf,hmk,hsi,hb3⟩
  have HNO:=qD (show ROf (allS,false) 1 w1 (.returned (.tuple #[.slice A3 m3 c3,.bool false])) w9 from⟨A3,m3,c3,ys,nf,rfl,hy,hnf,hmk,hsi,hb3⟩)
  clear hy hnf hmk hsi hb3
  go_wp2_with fail
  go_ret2
  rw[HOPH.out,HL.out]
  exact HNO.out.up BE.out (by omega)
theorem rs_pre(p:PrT)(h:p.op=16)(w:World)(hw:WP w p)(hT:Tabs w):
 Calls Tryz.prog 59 #[aggPr p] w (ROf (leafS p.op p.arg.2 (p.args.xs.map Prod.snd) p.n) (p.args.n+1) w):=by
 have HT:=qD hT
 have W:=qD hw.open
 have HKT:Hid (p.arg.1.t=p.arg.2.t):=qD hw.open.arg.open.t
 have HTZ:Hid (p.arg.1.t.size≤reach):=by have:=hw.open.arg.open.tsz;exact qD (by rw[hw.open.arg.open.t];exact this)
 clear hw hT
 have B0:Hid (Blk (w.alloc (.cells (arrPr p) 41)) w.heap.size 41 (arrPr p)):=Blk.new_at rfl
 have BE:=qD ((Below.refl w.heap.size w).alloc (qL) (Obj.cells (arrPr p) 41))
 go_enter Tryz.func59,Tryz.ntmps59
 go_upto_region 1 with fail
 change Code.wp _ _ _ _ (w.alloc (.cells (arrPr p) 41))
 generalize w.alloc (.cells (arrPr p) 41)=wa at*
 obtain⟨d0,-,-,-,d7,d8,-,-⟩:=pr_cells B0.out
 have f2:=(range_parg B0.out) 0 _ rfl
 simp only[Nat.reduceAdd] at f2
 rw[h] at d0
 have HOPH:=qD h
 clear h
 go_wp2_with fail
 refine(rrange_any 4 wa (by omega) (by omega)).mono ?_
 rintro e w1 ⟨rfl,hb⟩
 replace B0:=qD (B0.out.step hb)
 replace BE:=qD (BE.out.step' hb)
 clear hb d0 d7 d8 f2
 go_upto_region 21 with fail
 change Code.wp _ _ _ _ (w1.alloc (.cells (arrI (rngP 4)) 93))
 have J:Hid (Blk (w1.alloc (.cells (arrI (rngP 4)) 93)) w1.heap.size 93 (arrI (rngP 4))):=Blk.new_at rfl
 have HGJ:Hid (w.heap.size<w1.heap.size):=qD B0.out.lt
 replace B0:=qD (B0.out.alloc (.cells (arrI (rngP 4)) 93))
 replace BE:=qD (BE.out.alloc BE.out.size (Obj.cells (arrI (rngP 4)) 93))
 generalize w1.alloc (.cells (arrI (rngP 4)) 93)=w2 at*
 generalize w1.heap.size=gj at*
 have RA:=qD (range_parg B0.out)
 have gle:=HGJ.out
 go_upto_region 22 with(first
  | ((with_reducible show wpList _ _ _ (⟨_,.load 32 _,_,_,_,_⟩::_) _ _);refine wpList_mid_w rfl 32 _ rfl w.heap.size 2 rfl _ _ RA.out Tryz.underlying32 rfl (by kernel_rfl) ?_)
  | ((with_reducible show wpList _ _ _ (⟨_,.store 32 _ _,_,_,_,_⟩::_) _ _);refine wpl_stLo (c:=p.arg.1) rfl _ _ rfl rfl rfl J.out BE.out (by omega) p.arg.2 ?_;intro w6 hJ hfar hBE;have B6:=qD (hfar _ _ _ (by omega) B0.out);clear J BE B0 RA hfar;have J:=qD hJ;have BE:=qD hBE;have B0:=qD B6.out;clear hJ hBE B6))
 obtain⟨_,_,_,d4,_,_,_,_⟩:=pr_cells B0.out
 obtain⟨tx,htx⟩:∃t,t=p.arg.1.t:=⟨_,rfl⟩
 rw[←htx] at d4 HKT HTZ
 have HTX:=qD htx
 clear htx
 have HAR:Hid (RW w p.arg.1 p.arg.2):=W.out.arg
 have hEd:decide (p.arg.2.t=ByteArray.empty)=tx.toList.isEmpty:=by
  rw[←HKT.out,Bool.eq_iff_iff,decide_eq_true_iff,List.isEmpty_iff,Go.ByteArray.toList_eq]
  constructor
  ·rintro rfl;rfl
  ·intro h;exact ByteArray.ext (Array.toList_inj.1 h)
 have HED:=qD hEd
 clear hEd
 cases hA:afterB tx with
 | none=>
  have hq:preI p.arg.2=(⟨p.arg.2,vKd 5,true,false⟩,decide (p.arg.2.t=ByteArray.empty)):=pre_none (by rw[←HKT.out];exact hA)
  have hE:afterE tx=.returned (.tuple #[.string ByteArray.empty,.bool false]):=by unfold afterE;rw[hA];rfl
  have hAf:=rafter_any tx w6 HTZ.out
  rw[hE] at hAf
  have HAF:=qD hAf
  have HPQ:=qD hq
  clear hAf hE hq hA
  go_wp2_with fail
  refine HAF.out.mono ?_
  rintro e w3 ⟨rfl,hb⟩
  replace J:=qD (J.out.step hb)
  replace B0:=qD (B0.out.step hb)
  replace BE:=qD (BE.out.step' hb)
  clear hb d4 HAF
  go_upto_region 24 with fail
  change Code.wp _ _ _ _ (w3.alloc (.cells (cLf 4 0 ByteArray.empty).arr 32))
  replace J:=qD (J.out.alloc (.cells (cLf 4 0 ByteArray.empty).arr 32))
  replace B0:=qD (B0.out.alloc (.cells (cLf 4 0 ByteArray.empty).arr 32))
  replace BE:=qD (BE.out.alloc BE.out.size (Obj.cells (cLf 4 0 ByteArray.empty).arr 32))
  generalize w3.alloc (.cells (cLf 4 0 ByteArray.empty).arr 32)=w4 at*
  generalize w3.heap.size=gv at*
  obtain⟨_,_,_,d4,_,_,_,_⟩:=pr_cells B0.out
  rw[←HTX.out] at d4
  have HQ:Hid (∀wr,Below w.heap.size w wr→okI wr ((p.arg,(rngP 4).1.2),(rngP 4).2)):=qD fun wr hb=>⟨HAR.out.step hb,(rngP_ok 4 wr).2⟩
  obtain⟨be,hbe⟩:∃b,b=tx.toList.isEmpty:=⟨_,rfl⟩
  have HL:Hid (leafS 16 p.arg.2 (p.args.xs.map Prod.snd) p.n=((fun a=>inS cmC a (spansL ([((p.arg,(rngP 4).1.2),(rngP 4).2)].map ivP))),be)):=by
   rw[Hid,leafS_some leafI_pre,HPQ.out,HED.out,hbe]
   rfl
  replace hbe:=hbe.symm
  go_upto_region 27 with fail
  have B:=qD ((Below.refl w4.heap.size w4).drew)
  have KS:Hid (∀w',Below w4.heap.size w4 w'→(fun w'=>(Instr.loadAt 93 (.pointer (some ⟨gj,0,none⟩))).run Tryz.prog w'=.ok (aggI ((p.arg,(rngP 4).1.2),(rngP 4).2)) w'∧w'.cell? ⟨w.heap.size,4,none⟩=some (.string tx)) w'):=qD fun w' hb=>⟨load_ivAt (J.out.step hb) rfl,(hb.cell (p:=⟨w.heap.size,4,none⟩) B0.out.lt).trans d4⟩
  clear d4
  refine wp_region_noPanic ?_
  refine wp_region_held_drew (S:=(fun w'=>(Instr.loadAt 93 (.pointer (some ⟨gj,0,none⟩))).run Tryz.prog w'=.ok (aggI ((p.arg,(rngP 4).1.2),(rngP 4).2)) w'∧w'.cell? ⟨w.heap.size,4,none⟩=some (.string tx))) (by kernel_rfl) ?_ (fun hHeld=>?_)
  ·(try dsimp only);exact KS.out _ B.out
  refine rT (v:=aggI ((p.arg,(rngP 4).1.2),(rngP 4).2)) 0 rfl ?_ ?_
  (skip)
  ·intro w' hSw;exact exec_load (p:=.pointer (some ⟨gj,0,none⟩)) rfl rfl hSw.1
  try go_frame
  refine rT (v:=?_) 3 rfl ?_ ?_
  rotate_left
  ·intro w' hSw;(try dsimp only at hSw);obtain⟨_,hSwc⟩:=hSw;go_simp;(try with_reducible rfl)
  try go_frame
  refine rT (v:=?_) 4 rfl ?_ ?_
  rotate_left
  ·intro w' hSw;(try dsimp only at hSw);obtain⟨_,hSwc⟩:=hSw;go_simp;(try with_reducible rfl)
  try go_frame
  refine rT (v:=?_) 5 rfl ?_ ?_
  rotate_left
  ·intro w' hSw;(try dsimp only at hSw);obtain⟨_,hSwc⟩:=hSw;go_simp;(try with_reducible rfl)
  try go_frame
  refine rT (v:=?_) 6 rfl ?_ ?_
  rotate_left
  ·intro w' hSw;(try dsimp only at hSw);obtain⟨_,hSwc⟩:=hSw;go_simp;(try with_reducible rfl)
  try go_frame
  refine rY 1 rfl fun K hK=>?_
  go_simp
  clear hHeld
  refine hK.out _ _ ?_ fun hHeld=>?_
  ·(try dsimp only);exact KS.out _ (B.out.alloc B.out.size _)
  clear hK K
  try go_frame
  refine rY 2 rfl fun K hK=>?_
  go_simp
  refine(rnormal_any [((p.arg,(rngP 4).1.2),(rngP 4).2)] _ 1 1 _ (si_one (Blk.new_at rfl) (HQ.out _ (BE.out.step' (B.out.alloc B.out.size _)))) (by omega)).mono ?_
  rintro e3 w5 ⟨A3,m3,c3,ys,nf,rfl,hy,hnf,hmk,hsi,hb3⟩
  have HNO:=qD (show ROf ((fun a=>inS cmC a (spansL ([((p.arg,(rngP 4).1.2),(rngP 4).2)].map ivP))),be) 1 _ (.returned (.tuple #[.slice A3 m3 c3,.bool be])) w5 from⟨A3,m3,c3,ys,nf,rfl,hy,hnf,hmk,hsi,hb3⟩)
  replace HNO:=qD (HNO.out.up (B.out.alloc B.out.size _) (qL))
  replace B:=qD ((B.out.alloc B.out.size _).step' hb3)
  clear hy hnf hmk hsi hb3
  (try go_wp2_with fail)
  clear hHeld
  refine hK.out _ _ ?_ fun hHeld=>?_
  ·(try dsimp only);exact KS.out _ B.out
  clear hK K
  try go_frame
  refine rT (v:=?_) 7 rfl ?_ ?_
  rotate_left
  ·intro w' hSw;(try dsimp only at hSw);obtain⟨_,hSwc⟩:=hSw;go_simp;(try with_reducible rfl)
  try go_frame
  refine rT (v:=?_) 8 rfl ?_ ?_
  rotate_left
  ·intro w' hSw;(try dsimp only at hSw);obtain⟨_,hSwc⟩:=hSw;go_simp;(try with_reducible rfl)
  try go_frame
  refine rD ?_ _
  refine NoPanic.normal ?_
  clear hHeld
  go_wp2_with fail
  go_ret2
  rw[HOPH.out,HL.out]
  exact HNO.out.up BE.out (by omega)
 | some s=>
  have hE:afterE tx=.returned (.tuple #[.string s,.bool true]):=by unfold afterE;rw[hA];rfl
  have hAf:=rafter_any tx w6 HTZ.out
  rw[hE] at hAf
  have HAF:=qD hAf
  have HSZ:Hid (s.size≤reach):=qD (Nat.le_trans (afterB_size hA) HTZ.out)
  have HAS:=qD hA
  clear hAf hE hA
  go_wp2_with fail
  refine HAF.out.mono ?_
  rintro e w3 ⟨rfl,hb⟩
  replace J:=qD (J.out.step hb)
  replace B0:=qD (B0.out.step hb)
  replace BE:=qD (BE.out.step' hb)
  have HJ3:Hid (gj<w3.heap.size):=qD J.out.lt
  clear hb d4 HAF
  go_upto_region 24 with fail
  change Code.wp _ _ _ _ (w3.alloc (.cells (cLf 4 0 s).arr 32))
  have JB:Hid (Blk (w3.alloc (.cells (cLf 4 0 s).arr 32)) w3.heap.size 32 (cLf 4 0 s).arr):=Blk.new_at rfl
  replace J:=qD (J.out.alloc (.cells (cLf 4 0 s).arr 32))
  replace B0:=qD (B0.out.alloc (.cells (cLf 4 0 s).arr 32))
  replace BE:=qD (BE.out.alloc BE.out.size (Obj.cells (cLf 4 0 s).arr 32))
  generalize w3.alloc (.cells (cLf 4 0 s).arr 32)=w4 at*
  generalize w3.heap.size=gv at*
  obtain⟨_,_,_,d4,_,_,_,_⟩:=pr_cells B0.out
  rw[←HTX.out] at d4
  obtain⟨q0,q1,q2,q3,q4⟩:=VAt.of_blk JB.out
  simp only[Nat.zero_add] at q0 q1 q2 q3 q4
  obtain⟨vb,hvb⟩:∃b,b=validV (.mk 4 0 s [] []):=⟨_,rfl⟩
  have HVC:Hid (∀wr,Below w.heap.size w wr→Calls Tryz.prog 24 #[(cLf 4 0 s).val] wr fun e w'=>e=.returned (.bool vb)∧Below wr.heap.size wr w'):=qD fun wr hb=>by
   rw[hvb]
   exact rvalid_any (.mk 4 0 s [] []) (cLf 4 0 s) wr (rw_leaf _ _ _ HSZ.out)
  obtain⟨be,hbe⟩:∃b,b=tx.toList.isEmpty:=⟨_,rfl⟩
  have HBE:=qD hbe
  have HVB:=qD hvb
  replace hbe:=hbe.symm
  clear hvb
  go_upto_if 97 with(go_at_call 24;refine(HVC.out _ BE.out).mono ?_;rintro e w5 ⟨rfl,hb⟩;replace J:=qD (J.out.step hb);replace JB:=qD (JB.out.step hb);replace BE:=qD (BE.out.step' hb);replace B0:=qD (B0.out.step hb);clear hb d4 q0 q1 q2 q3 q4;obtain⟨q0,q1,q2,q3,q4⟩:=VAt.of_blk JB.out;simp only[Nat.zero_add] at q0 q1 q2 q3 q4)
  cases vb
  ·have HQ:Hid (∀wr,Below w.heap.size w wr→okI wr ((p.arg,(rngP 4).1.2),(rngP 4).2)):=qD fun wr hb=>⟨HAR.out.step hb,(rngP_ok 4 wr).2⟩
   have HL:Hid (leafS 16 p.arg.2 (p.args.xs.map Prod.snd) p.n=((fun a=>inS cmC a (spansL ([((p.arg,(rngP 4).1.2),(rngP 4).2)].map ivP))),be)):=by
    rw[Hid,leafS_some leafI_pre,pre_bad (x:=p.arg.2) (s:=s) (by rw[←HKT.out];exact HAS.out) HVB.out.symm,HED.out,HBE.out]
    rfl
   clear HBE
   obtain⟨_,_,_,d4,_,_,_,_⟩:=pr_cells B0.out
   rw[←HTX.out] at d4
   go_upto_region 27 with fail
   have B:=qD ((Below.refl w5.heap.size w5).drew)
   have KS:Hid (∀w',Below w5.heap.size w5 w'→(fun w'=>(Instr.loadAt 93 (.pointer (some ⟨gj,0,none⟩))).run Tryz.prog w'=.ok (aggI ((p.arg,(rngP 4).1.2),(rngP 4).2)) w'∧w'.cell? ⟨w.heap.size,4,none⟩=some (.string tx)) w'):=qD fun w' hb=>⟨load_ivAt (J.out.step hb) rfl,(hb.cell (p:=⟨w.heap.size,4,none⟩) B0.out.lt).trans d4⟩
   clear d4
   refine wp_region_noPanic ?_
   refine wp_region_held_drew (S:=(fun w'=>(Instr.loadAt 93 (.pointer (some ⟨gj,0,none⟩))).run Tryz.prog w'=.ok (aggI ((p.arg,(rngP 4).1.2),(rngP 4).2)) w'∧w'.cell? ⟨w.heap.size,4,none⟩=some (.string tx))) (by kernel_rfl) ?_ (fun hHeld=>?_)
   ·(try dsimp only);exact KS.out _ B.out
   refine rT (v:=aggI ((p.arg,(rngP 4).1.2),(rngP 4).2)) 0 rfl ?_ ?_
   (skip)
   ·intro w' hSw;exact exec_load (p:=.pointer (some ⟨gj,0,none⟩)) rfl rfl hSw.1
   try go_frame
   refine rT (v:=?_) 3 rfl ?_ ?_
   rotate_left
   ·intro w' hSw;(try dsimp only at hSw);obtain⟨_,hSwc⟩:=hSw;go_simp;(try with_reducible rfl)
   try go_frame
   refine rT (v:=?_) 4 rfl ?_ ?_
   rotate_left
   ·intro w' hSw;(try dsimp only at hSw);obtain⟨_,hSwc⟩:=hSw;go_simp;(try with_reducible rfl)
   try go_frame
   refine rT (v:=?_) 5 rfl ?_ ?_
   rotate_left
   ·intro w' hSw;(try dsimp only at hSw);obtain⟨_,hSwc⟩:=hSw;go_simp;(try with_reducible rfl)
   try go_frame
   refine rT (v:=?_) 6 rfl ?_ ?_
   rotate_left
   ·intro w' hSw;(try dsimp only at hSw);obtain⟨_,hSwc⟩:=hSw;go_simp;(try with_reducible rfl)
   try go_frame
   refine rY 1 rfl fun K hK=>?_
   go_simp
   clear hHeld
   refine hK.out _ _ ?_ fun hHeld=>?_
   ·(try dsimp only);exact KS.out _ (B.out.alloc B.out.size _)
   clear hK K
   try go_frame
   refine rY 2 rfl fun K hK=>?_
   go_simp
   refine(rnormal_any [((p.arg,(rngP 4).1.2),(rngP 4).2)] _ 1 1 _ (si_one (Blk.new_at rfl) (HQ.out _ (BE.out.step' (B.out.alloc B.out.size _)))) (by omega)).mono ?_
   rintro e3 w5 ⟨A3,m3,c3,ys,nf,rfl,hy,hnf,hmk,hsi,hb3⟩
   have HNO:=qD (show ROf ((fun a=>inS cmC a (spansL ([((p.arg,(rngP 4).1.2),(rngP 4).2)].map ivP))),be) 1 _ (.returned (.tuple #[.slice A3 m3 c3,.bool be])) w5 from⟨A3,m3,c3,ys,nf,rfl,hy,hnf,hmk,hsi,hb3⟩)
   replace HNO:=qD (HNO.out.up (B.out.alloc B.out.size _) (qL))
   replace B:=qD ((B.out.alloc B.out.size _).step' hb3)
   clear hy hnf hmk hsi hb3
   (try go_wp2_with fail)
   clear hHeld
   refine hK.out _ _ ?_ fun hHeld=>?_
   ·(try dsimp only);exact KS.out _ B.out
   clear hK K
   try go_frame
   refine rT (v:=?_) 7 rfl ?_ ?_
   rotate_left
   ·intro w' hSw;(try dsimp only at hSw);obtain⟨_,hSwc⟩:=hSw;go_simp;(try with_reducible rfl)
   try go_frame
   refine rT (v:=?_) 8 rfl ?_ ?_
   rotate_left
   ·intro w' hSw;(try dsimp only at hSw);obtain⟨_,hSwc⟩:=hSw;go_simp;(try with_reducible rfl)
   try go_frame
   refine rD ?_ _
   refine NoPanic.normal ?_
   clear hHeld
   go_wp2_with fail
   go_ret2
   rw[HOPH.out,HL.out]
   exact HNO.out.up BE.out (by omega)
  ·have HQ:Hid (∀wr,Below w.heap.size w wr→okI wr ((p.arg,(cLf 4 0 s,.mk 4 0 s [] [])),(true,false))):=qD fun wr hb=>⟨HAR.out.step hb,rw_leaf _ _ _ HSZ.out⟩
   have HL:Hid (leafS 16 p.arg.2 (p.args.xs.map Prod.snd) p.n=((fun a=>inS cmC a (spansL ([((p.arg,(cLf 4 0 s,.mk 4 0 s [] [])),(true,false))].map ivP))),true)):=by
    rw[Hid,leafS_some leafI_pre,pre_some (x:=p.arg.2) (s:=s) (by rw[←HKT.out];exact HAS.out) HVB.out.symm]
    rfl
   go_upto_region 26 with((with_reducible show wpList _ _ _ (⟨_,.store 32 _ _,_,_,_,_⟩::_) _ _);refine wpl_stHi (c:=cLf 4 0 s) rfl _ _ rfl rfl rfl J.out BE.out (by omega) (.mk 4 0 s [] []) ?_;intro w7 hJ hfar hBE;clear J BE hfar q0 q1 q2 q3 q4 JB;have J:=qD hJ;have BE:=qD hBE;clear hJ hBE)
   have J2:Hid (Blk w7 gj 93 (arrI ((p.arg,(cLf 4 0 s,.mk 4 0 s [] [])),(true,false)))):=J
   have RGJ:=qD (iv_full2 J2.out)
   go_wp2_with ((with_reducible show wpList _ _ _ (⟨_,.load 93 _,_,_,_,_⟩::_) _ _);refine wpList_mid_w rfl 93 _ rfl gj 0 rfl _ _ RGJ.out Tryz.underlying93 rfl (by kernel_rfl) ?_)
   refine(rnormal_any [((p.arg,(cLf 4 0 s,.mk 4 0 s [] [])),(true,false))] _ 1 1 _ (si_one (Blk.new_at rfl) ((HQ.out _ (BE.out.alloc BE.out.size _)))) (by omega)).mono ?_
   rintro e w9 ⟨A3,m3,c3,ys,nf,rfl,hy,hnf,hmk,hsi,hb3⟩
   have HNO:=qD (show ROf ((fun a=>inS cmC a (spansL ([((p.arg,(cLf 4 0 s,.mk 4 0 s [] [])),(true,false))].map ivP))),true) 1 _ (.returned (.tuple #[.slice A3 m3 c3,.bool (true)])) w9 from⟨A3,m3,c3,ys,nf,rfl,hy,hnf,hmk,hsi,hb3⟩)
   clear hy hnf hmk hsi hb3
   go_wp2_with fail
   go_ret2
   rw[HOPH.out,HL.out]
   exact HNO.out.up (BE.out.alloc BE.out.size _) (by omega)
theorem rsingle_any(p:PrT)(w:World)(hw:WP w p)(hv:VPr p)(hT:Tabs w):
 Calls Tryz.prog 59 #[aggPr p] w (ROf (leafS p.op p.arg.2 (p.args.xs.map Prod.snd) p.n) (p.args.n+1) w):=by
 by_cases h2:p.op=2
 ·exact rs_eq p h2 (hv.open.arg (by omega)) w hw
 by_cases ho:p.op=4∨p.op=5∨p.op=6∨p.op=7
 ·exact rs_cmp p ho (hv.open.arg (by omega)) w hw
 by_cases h8:p.op=8
 ·exact rs_in p h8 w hw
 by_cases h16:p.op=16
 ·exact rs_pre p h16 w hw hT
 by_cases h11:p.op=11
 ·exact rs_kind p h11 (hv.open.kind h11) w
 exact rs_other p (by omega) w
theorem rsame25_any(l m:List ByteArray)(A B:Option Addr)(n c k d:Nat)(w:World)(h:ST w A n c l)(h':ST w B k d m):
 Calls Tryz.prog 58 #[.slice A n c,.slice B k d] w fun e w'=>e=.returned (.bool (sameP l m))∧Below w.heap.size w w':=by
 have hz:n≤140737488355328:=by have:=h.sz;unfold reach at this;omega
 have hk:k≤140737488355328:=by have:=h'.sz;unfold reach at this;omega
 have H:=qD h
 have H':=qD h'
 clear h h'
 by_cases hnk:n=k
 rotate_left
 ·have HF:Hid (sameP l m=false):=sameP_len (by have:=H.out.sr.ln;have:=H'.out.sr.ln;omega)
  have hnk':((n:Int) != (k:Int))=true:=by simp;omega
  go_enter Tryz.func58,Tryz.ntmps58
  go_wp2_with fail
  go_ret
  exact⟨by rw[HF.out];rfl,Below.refl _ _⟩
 subst hnk
 go_enter Tryz.func58,Tryz.ntmps58
 go_wp2_with fail
 go_loopw [5] (fun v wr=>∃i:Nat,i≤n∧v=.int .i64 i∧sameP l m=sameP (l.drop i) (m.drop i)∧Below w.heap.size w wr) (fun v _=>n-(intOf v).toNat)
 case atStart=>exact⟨0,Nat.zero_le _,rfl,rfl,Below.refl _ _⟩
 case round=>
  obtain⟨i,hi,rfl,ha,hbel⟩:=hrel
  have HA:=qD ha
  have HB:=qD hbel
  clear ha
  by_cases hlt:i<n
  ·obtain⟨b,off,x,hA,hb,hx,e0⟩:=H.out.sr.at1 hlt
   obtain⟨b',off',y,hA',hb',hy,f0⟩:=H'.out.sr.at1 hlt
   subst hA hA'
   have HX:=qD (sameP_at hx hy)
   have e1:=(hbel.cell (p:=⟨b,off+i,none⟩) hb).trans e0
   have f1:=(hbel.cell (p:=⟨b',off'+i,none⟩) hb').trans f0
   have X0:∀kk:BW wr,kk.val.cell? ⟨b,off+i,none⟩=some (.string x):=fun kk=>kk.cell e1
   have Y0:∀kk:BW wr,kk.val.cell? ⟨b',off'+i,none⟩=some (.string y):=fun kk=>kk.cell f1
   have i0:(0:Int)≤(i:Int):=by omega
   have i1:(i:Int)<(n:Int):=by omega
   clear hx hy e0 f0 hbel
   go_upto_region 6 with fail
   clear e1 f1
   refine wp_region_bw (by kernel_rfl) (by kernel_rfl) ?_
   repeat(go_big_quiet_step (fail))
   refine wpQuiet_nil ?_
   rintro _ ⟨kw,rfl⟩
   have HK:=qD kw.below
   generalize kw.val=w5 at*
   clear X0 Y0
   cases hq:(x.toList==y.toList)
   ·have HF:Hid (sameP l m=false):=by rw[Hid,HA.out,HX.out,hq];rfl
    go_wp2_with fail
    go_ret
    exact⟨by rw[HF.out];rfl,HB.out.step' HK.out⟩
   ·have HF:Hid (sameP l m=sameP (l.drop (i+1)) (m.drop (i+1))):=by rw[Hid,HA.out,HX.out,hq];rfl
    go_wp2_with fail
    go_roundw
    case rel=>exact⟨i+1,by omega,by go_num,HF.out,HB.out.step' HK.out⟩
    case measure=>simp[intOf];omega
  ·have HF:Hid (sameP l m=true):=by rw[Hid,HA.out];exact sameP_end (by have:=H.out.sr.ln;omega) (by have:=H'.out.sr.ln;omega)
   clear hbel
   go_wp2_with fail
   go_ret
   exact⟨by rw[HF.out];rfl,HB.out⟩
def ROfAt(p:PrT):Prop:=∀(A:Option Addr) (n c:Nat) (l:List ByteArray) (w:World),WP w p→VPr p→Tabs w→ST w A n c l→p.sz≤300000000→Calls Tryz.prog 15 #[aggPr p,.slice A n c] w (ROf (ofS l p) p.sz w)
theorem firstS_drop{l:List ByteArray}{ks:List PrT}{i:Nat}{k:PrT}(h:ks[i]?=some k):firstS ((ks.drop i).map (ofS l))=if isAllB (ofS l k).1 then firstS ((ks.drop (i+1)).map (ofS l)) else((ofS l k).1,false):=by
 rw[drop_of h,List.map_cons,firstS]
theorem rof_and(p:PrT)(ih:∀k∈p.kids,ROfAt k)(h:p.op=20):ROfAt p:=by
 intro A n c l w hw hv hT hl hz
 rw[ofS_and h]
 have HT:=qD hT
 have W:=qD hw.open
 have HL:=qD hl
 have HKV:=qD (hv.open.kids (.inl h))
 have IH:Hid (∀k∈p.kids,∀wr,Below w.heap.size w wr→Calls Tryz.prog 15 #[aggPr k,.slice A n c] wr (ROf (ofS l k) k.sz wr)):=qD fun k hkm wr hb=>by
  have hs:k.sz≤p.sz:=by rw[p.sz_eq];have:=szL_ge hkm;omega
  exact ih k hkm A n c l wr ((W.out.kids k hkm).step hb) (HKV.out k hkm) (HT.out.step hb) (HL.out.step hb) (by omega)
 have HSK:Hid (∀k∈p.kids,k.sz≤p.sz):=qD fun k hkm=>by rw[p.sz_eq];have:=szL_ge hkm;omega
 have HS1:Hid (1≤p.sz):=by rw[Hid,p.sz_eq];omega
 have hkz:p.kn≤140737488355328:=by have:=W.out.ksz;unfold reach at this;omega
 have HKN:=qD W.out.sr.ln
 clear hw hv hT hl hz ih
 have B0:Hid (Blk (w.alloc (.cells (arrPr p) 41)) w.heap.size 41 (arrPr p)):=Blk.new_at rfl
 have BE:=qD ((Below.refl w.heap.size w).alloc (qL) (Obj.cells (arrPr p) 41))
 go_enter Tryz.func15,Tryz.ntmps15
 go_upto_region 1 with fail
 change Code.wp _ _ _ _ (w.alloc (.cells (arrPr p) 41))
 generalize w.alloc (.cells (arrPr p) 41)=wa at*
 obtain⟨d0,_,_,_,_,_,_,d24⟩:=pr_cells B0.out
 rw[h] at d0
 clear h
 by_cases h1:p.kn=1
 ·obtain⟨b,off,k,hA,hb,hx,hm,hrg⟩:=W.out.sr.row (i:=0) (by omega)
  have HK1:Hid (p.kids=[k]):=by
   have:=HKN.out
   match hk:p.kids,this,hx with
   | [y],_,hx=>simp at hx;rw[hx];exact qD rfl
   | [],this,_=>simp at this;omega
   | _::_::_,this,_=>simp at this;omega
  have RG:=qD (range_step hrg BE.out hb)
  have HM:=qD hm
  rw[hA] at d24
  rw[h1] at d24
  have HAK:=qD hA
  clear hrg hx hm hA
  go_wp2_with ((with_reducible show wpList _ _ _ (⟨_,.load 41 _,_,_,_,_⟩::_) _ _);refine wpList_mid_w rfl 41 _ rfl b off rfl _ _ (by have:=RG.out;simpa using this) Tryz.underlying41 rfl (by kernel_rfl) ?_)
  refine(IH.out k HM.out _ BE.out).mono ?_
  rintro e w1 ⟨A3,m3,c3,ys,nf,rfl,hy,hnf,hmk,hsi,hb3⟩
  have HNO:=qD (show ROf (ofS l k) k.sz wa (.returned (.tuple #[.slice A3 m3 c3,.bool (ofS l k).2])) w1 from⟨A3,m3,c3,ys,nf,rfl,hy,hnf,hmk,hsi,hb3⟩)
  clear hy hnf hmk hsi hb3
  go_wp2_with fail
  go_ret2
  have e:andS (p.kids.map (ofS l))=ofS l k:=by rw[HK1.out];rfl
  rw[e]
  exact HNO.out.up BE.out (HSK.out k HM.out)
 ·have h1b:((p.kn:Int)==1)=false:=by simp;omega
  have HAN:Hid (andS (p.kids.map (ofS l))=firstS (p.kids.map (ofS l))):=by
   have:=HKN.out
   match hk:p.kids,this with
   | [y],this=>simp at this;omega
   | [],_=>exact qD rfl
   | _::_::_,_=>exact qD rfl
  clear h1
  go_upto_region 6 with fail
  go_loopw [6,7,8] (fun v6 _ _ wr=>∃i:Nat,i≤p.kn∧v6=.int .i64 i∧firstS (p.kids.map (ofS l))=firstS ((p.kids.drop i).map (ofS l))∧Blk wr w.heap.size 41 (arrPr p)∧Below w.heap.size w wr) (fun v6 _ _ _=>p.kn-(intOf v6).toNat)
  case atStart=>exact⟨0,Nat.zero_le _,rfl,rfl,B0.out,BE.out⟩
  case round=>
   obtain⟨i,hi,rfl,hf,hB0,hBE⟩:=hrel
   clear B0 BE d0 d24
   have B0:=qD hB0
   have BE:=qD hBE
   have HF:=qD hf
   obtain⟨_,_,_,_,_,_,_,d24⟩:=pr_cells B0.out
   clear hB0 hBE hf
   by_cases hlt:i<p.kn
   ·obtain⟨b,off,k,hA,hb,hx,hm,hrg⟩:=W.out.sr.row hlt
    have HX:=qD (firstS_drop (l:=l) hx)
    have RG:=qD (range_step hrg BE.out hb)
    have HM:=qD hm
    have i0:(0:Int)≤(i:Int):=by omega
    have i1:(i:Int)<(p.kn:Int):=by omega
    rw[hA] at d24
    have HAK:=qD hA
    clear hrg hx hm hA
    go_wp2_with ((with_reducible show wpList _ _ _ (⟨_,.load 41 _,_,_,_,_⟩::_) _ _);refine wpList_mid_w rfl 41 _ rfl b (off+i*25) rfl _ _ RG.out Tryz.underlying41 rfl (by kernel_rfl) ?_)
    refine(IH.out k HM.out _ BE.out).mono ?_
    rintro e w1 ⟨A3,m3,c3,ys,nf,rfl,hy,hnf,hmk,hsi,hb3⟩
    have HSI:=qD hsi
    have HY:=qD hy
    have HN:=qD hnf
    have HM3:Hid (m3≤p.sz):=qD (Nat.le_trans hmk (HSK.out k HM.out))
    replace B0:=qD (B0.out.step hb3)
    replace BE:=qD (BE.out.step' hb3)
    clear hy hnf hmk hsi hb3 d24
    obtain⟨bx,hbx⟩:∃b,b=isAllB (ofS l k).1:=⟨_,rfl⟩
    have HIA:Hid (Calls Tryz.prog 54 #[.slice A3 m3 c3] w1 fun e w'=>e=.returned (.bool bx)∧Below w1.heap.size w1 w'):=by
     rw[hbx]
     exact qD (risAll_any ys A3 m3 c3 w1 HSI.out HY.out HN.out)
    rw[←hbx] at HX
    clear hbx
    go_wp2_with fail
    refine HIA.out.mono ?_
    rintro e w2 ⟨rfl,hb⟩
    replace HSI:=qD (HSI.out.step hb)
    replace B0:=qD (B0.out.step hb)
    replace BE:=qD (BE.out.step' hb)
    clear hb HIA
    cases bx
    ·go_wp2_with fail
     go_ret2
     have e:andS (p.kids.map (ofS l))=((ofS l k).1,false):=by rw[HAN.out,HF.out,HX.out];rfl
     rw[e]
     exact⟨A3,m3,c3,ys,nf,rfl,HY.out,HN.out,HM3.out,HSI.out,BE.out⟩
    ·go_wp2_with fail
     go_roundw
     case rel=>exact⟨i+1,by omega,by go_num,by rw[HF.out,HX.out];rfl,B0.out,BE.out⟩
     case measure=>simp[intOf];omega
   ·obtain rfl:i=p.kn:=by omega
    go_wp2_with fail
    refine(rall_any _).mono ?_
    rintro e w9 ⟨A3,m3,c3,ys,nf,rfl,hy,hnf,hmk,hsi,hb3⟩
    have HNO:=qD (show ROf (allS,false) 1 wr (.returned (.tuple #[.slice A3 m3 c3,.bool false])) w9 from⟨A3,m3,c3,ys,nf,rfl,hy,hnf,hmk,hsi,hb3⟩)
    clear hy hnf hmk hsi hb3
    go_wp2_with fail
    go_ret2
    have e:andS (p.kids.map (ofS l))=(allS,false):=by rw[HAN.out,HF.out,List.drop_of_length_le (by have:=HKN.out;omega)];rfl
    rw[e]
    exact HNO.out.up BE.out HS1.out
structure ROrI(l:List ByteArray)(p:PrT)(w:World)(i m:Nat)(A:Option Addr)(c:Nat)(b:Bool)(ys:List PI)(nf:List (Cut×Cut))(wr:World):Prop where
 eq:ys.map ivP=nf.map ivOf
 nf:IsNF (fun a=>∃r∈(p.kids.take i).map (ofS l),r.1 a) nf
 le:m≤PrT.sz.szL (p.kids.take i)
 si:SI wr A m c ys
 no:∀r∈(p.kids.take i).map (ofS l),isAllB r.1=false
 ex:b=((p.kids.take i).map (ofS l)).all fun r=>r.2
 b0:Blk wr w.heap.size 41 (arrPr p)
 bel:Below w.heap.size w wr
theorem ROrI.step{l:List ByteArray}{p:PrT}{w:World}{i m:Nat}{A:Option Addr}{c:Nat}{b:Bool}{ys:List PI}{nf:List (Cut×Cut)}{wr w':World}(h:ROrI l p w i m A c b ys nf wr)(hb:Below wr.heap.size wr w'):ROrI l p w i m A c b ys nf w':=
 ⟨h.eq,h.nf,h.le,h.si.step hb,h.no,h.ex,h.b0.step hb,h.bel.step' hb⟩
theorem ROrI.next{l:List ByteArray}{p k:PrT}{w:World}{i m m3 m9:Nat}{A A9:Option Addr}{c c9:Nat}{b b':Bool}{ys zs:List PI}{nf nf9:List (Cut×Cut)}{wr:World}{T:Cut→Prop}(h:ROrI l p w i m A c b ys nf wr)(hk:p.kids[i]?=some k)(hall:isAllB (ofS l k).1=false)(hm3:m3≤k.sz)(hb':b'=(b&&(ofS l k).2))(he:zs.map ivP=nf9.map ivOf)(hn:IsNF (fun a=>inS cmC a (spansL (ys.map ivP))∨T a) nf9)(hT:∀a,T a↔(ofS l k).1 a)(hm:m9≤m+m3)(hsi:SI wr A9 m9 c9 zs):ROrI l p w (i+1) m9 A9 c9 b' zs nf9 wr:=by
 have tk:p.kids.take (i+1)=p.kids.take i++[k]:=by rw[List.take_add_one,hk];rfl
 refine⟨he,⟨hn.1,fun a=>?_⟩,by rw[szL_take _ _ hk];have:=h.le;omega,hsi,fun r hr=>?_,?_,h.b0,h.bel⟩
 ·rw[hn.2 a]
  show(inS cmC a (spansL (ys.map ivP))∨T a)↔∃r∈(p.kids.take (i+1)).map (ofS l),r.1 a
  rw[nf_spans h.eq h.nf a,hT a,tk,List.map_append]
  constructor
  ·rintro(⟨r,hr,ha⟩|ha)
   ·exact⟨r,List.mem_append_left _ hr,ha⟩
   ·exact⟨ofS l k,by simp,ha⟩
  ·rintro⟨r,hr,ha⟩
   rcases List.mem_append.1 hr with hr|hr
   ·exact .inl ⟨r,hr,ha⟩
   ·obtain rfl:r=ofS l k:=by simpa using hr
    exact .inr ha
 ·rw[tk,List.map_append] at hr
  rcases List.mem_append.1 hr with hr|hr
  ·exact h.no r hr
  ·obtain rfl:r=ofS l k:=by simpa using hr
   exact hall
 ·rw[hb',h.ex,tk,List.map_append,List.all_append]
  simp
theorem rof_or(p:PrT)(ih:∀k∈p.kids,ROfAt k)(h:p.op=21):ROfAt p:=by
 intro A n c l w hw hv hT hl hz
 rw[ofS_or h]
 have HT:=qD hT
 have W:=qD hw.open
 have HL:=qD hl
 have HKV:=qD (hv.open.kids (.inr h))
 have IH:Hid (∀k∈p.kids,∀wr,Below w.heap.size w wr→Calls Tryz.prog 15 #[aggPr k,.slice A n c] wr (ROf (ofS l k) k.sz wr)):=qD fun k hkm wr hb=>by
  have hs:k.sz≤p.sz:=by rw[p.sz_eq];have:=szL_ge hkm;omega
  exact ih k hkm A n c l wr ((W.out.kids k hkm).step hb) (HKV.out k hkm) (HT.out.step hb) (HL.out.step hb) (by omega)
 have HSK:Hid (∀k∈p.kids,k.sz≤p.sz):=qD fun k hkm=>by rw[p.sz_eq];have:=szL_ge hkm;omega
 have HSZ:Hid (PrT.sz.szL p.kids+1≤p.sz):=by rw[Hid,p.sz_eq];omega
 have HZ:=qD hz
 have hkz:p.kn≤140737488355328:=by have:=W.out.ksz;unfold reach at this;omega
 have HKN:=qD W.out.sr.ln
 clear hw hv hT hl hz ih
 have B0:Hid (Blk (w.alloc (.cells (arrPr p) 41)) w.heap.size 41 (arrPr p)):=Blk.new_at rfl
 have BE:=qD ((Below.refl w.heap.size w).alloc (qL) (Obj.cells (arrPr p) 41))
 go_enter Tryz.func15,Tryz.ntmps15
 go_upto_region 1 with fail
 change Code.wp _ _ _ _ (w.alloc (.cells (arrPr p) 41))
 generalize w.alloc (.cells (arrPr p) 41)=wa at*
 obtain⟨d0,_,_,_,_,_,_,d24⟩:=pr_cells B0.out
 rw[h] at d0
 clear h
 go_upto_region 16 with fail
 go_loopw [9,10,11,12,13] (fun v9 v10 v11 _ _ wr=>∃(i m:Nat) (A9:Option Addr) (c9:Nat) (bx:Bool) (ys:List PI) (nf:List (Cut×Cut)),i≤p.kn∧v11=.int .i64 i∧v10=.bool bx∧v9=.slice A9 m c9∧ROrI l p w i m A9 c9 bx ys nf wr) (fun _ _ v11 _ _ _=>p.kn-(intOf v11).toNat)
 case atStart=>
  refine⟨0,0,none,0,true,[],[],Nat.zero_le _,rfl,rfl,rfl,rfl,⟨NF.nil,fun a=>?_⟩,Nat.zero_le _,⟨SR.nil,by decide,by simp⟩,by simp,rfl,B0.out,BE.out⟩
  constructor
  ·rintro⟨s,hs,_⟩;simp at hs
  ·rintro⟨r,hr,_⟩;simp at hr
 case round=>
  obtain⟨i,m,A9,c9,bx,ys,nf,hi,rfl,rfl,rfl,hI⟩:=hrel
  clear B0 BE d0 d24
  have HI:=qD hI
  have HMZ:Hid (m≤300000000):=by have h1:=hI.le;have h2:=szL_take_le p.kids i;have h3:=HSZ.out;have h4:=HZ.out;exact qD (by omega)
  obtain⟨_,_,_,_,_,_,_,d24⟩:=pr_cells hI.b0
  clear hI
  by_cases hlt:i<p.kn
  ·obtain⟨b,off,k,hA,hb,hx,hm,hrg⟩:=W.out.sr.row hlt
   have HX:=qD hx
   have RG:=qD (range_step hrg HI.out.bel hb)
   have HM:=qD hm
   have i0:(0:Int)≤(i:Int):=by omega
   have i1:(i:Int)<(p.kn:Int):=by omega
   rw[hA] at d24
   have HAK:=qD hA
   clear hrg hx hm hA
   go_wp2_with ((with_reducible show wpList _ _ _ (⟨_,.load 41 _,_,_,_,_⟩::_) _ _);refine wpList_mid_w rfl 41 _ rfl b (off+i*25) rfl _ _ RG.out Tryz.underlying41 rfl (by kernel_rfl) ?_)
   refine(IH.out k HM.out _ HI.out.bel).mono ?_
   rintro e w1 ⟨A3,m3,c3,zs,n3,rfl,hy,hnf,hmk,hsi,hb3⟩
   have HSI:=qD hsi
   have HY:=qD hy
   have HN:=qD hnf
   have HM3:=qD hmk
   replace HI:=qD (HI.out.step hb3)
   clear hy hnf hmk hsi hb3 d24
   obtain⟨ba,hba⟩:∃b,b=isAllB (ofS l k).1:=⟨_,rfl⟩
   have HIA:Hid (Calls Tryz.prog 54 #[.slice A3 m3 c3] w1 fun e w'=>e=.returned (.bool ba)∧Below w1.heap.size w1 w'):=by
    rw[hba]
    exact qD (risAll_any zs A3 m3 c3 w1 HSI.out HY.out HN.out)
   have HAB:=qD hba
   clear hba
   obtain⟨be,hbe⟩:∃b,b=(ofS l k).2:=⟨_,rfl⟩
   rw[←hbe]
   have HBE:=qD hbe
   clear hbe
   go_wp2_with fail
   refine HIA.out.mono ?_
   rintro e w2 ⟨rfl,hb⟩
   replace HSI:=qD (HSI.out.step hb)
   replace HI:=qD (HI.out.step hb)
   clear hb HIA
   cases ba
   ·cases bx
    all_goals
     go_wp2_with fail
     refine(runion_any ys zs A9 A3 m c9 m3 c3 w2 HI.out.si HSI.out (by have:=HMZ.out;omega) (by have h1:=HM3.out;have h2:=HSK.out k HM.out;have h3:=HZ.out;omega)).mono ?_
     rintro e w3 ⟨A7,m7,c7,us,n7,rfl,he,hn7,hm7,hs7,hb7⟩
     have HNX:=qD (ROrI.next (b':=_&&be) (HI.out.step hb7) HX.out HAB.out.symm HM3.out (by rw[HBE.out]) he hn7 (fun a=>nf_spans HY.out HN.out a) hm7 hs7)
     clear he hn7 hm7 hs7 hb7
     go_wp2_with fail
     go_roundw
     case rel=>exact⟨i+1,m7,A7,c7,_,us,n7,by omega,by go_num,rfl,rfl,HNX.out⟩
     case measure=>simp[intOf];omega
   ·have HE:Hid (orS (p.kids.map (ofS l))=(allS,false)):=qD (orS_all (List.mem_map_of_mem HM.out) HAB.out.symm)
    go_wp2_with fail
    refine(rall_any w2).mono ?_
    rintro e w3 ⟨A7,m7,c7,us,n7,rfl,hy,hnf,hmk,hsi,hb3⟩
    have HNO:=qD (show ROf (allS,false) 1 w2 (.returned (.tuple #[.slice A7 m7 c7,.bool false])) w3 from⟨A7,m7,c7,us,n7,rfl,hy,hnf,hmk,hsi,hb3⟩)
    clear hy hnf hmk hsi hb3
    go_wp2_with fail
    go_ret2
    rw[HE.out]
    exact HNO.out.up HI.out.bel (by have:=HSZ.out;omega)
  ·obtain rfl:i=p.kn:=by omega
   have HTK:p.kids.take p.kn=p.kids:=List.take_of_length_le (by have:=HKN.out;omega)
   have HE:Hid (orS (p.kids.map (ofS l))=(fun a=>∃r∈p.kids.map (ofS l),r.1 a,bx)):=by
    have h1:=HI.out.no
    have h3:=HI.out.ex
    rw[HTK] at h1 h3
    rw[Hid,orS_none h1,←h3]
   have HNF:Hid (IsNF (fun a=>∃r∈p.kids.map (ofS l),r.1 a) nf):=by
    have:=HI.out.nf
    rw[HTK] at this
    exact qD this
   clear HTK
   go_wp2_with fail
   go_ret2
   rw[HE.out]
   exact⟨A9,m,c9,ys,nf,rfl,HI.out.eq,HNF.out,by have h1:=HI.out.le;have h2:=szL_take_le p.kids p.kn;have h3:=HSZ.out;omega,HI.out.si,HI.out.bel⟩
theorem rof_leaf(p:PrT)(h:p.op≠20)(h':p.op≠21):ROfAt p:=by
 intro A n c l w hw hv hT hl hz
 have HT:=qD hT
 have HW:=qD hw
 have HV:=qD hv
 have HS1:Hid (p.args.n+1≤p.sz):=by rw[Hid,p.sz_eq];omega
 have HSM:Hid (∀wr,Below w.heap.size w wr→Calls Tryz.prog 58 #[.slice p.path.A p.path.n p.path.c,.slice A n c] wr fun e w'=>e=.returned (.bool (sameP p.path.xs l))∧Below wr.heap.size wr w'):=qD fun wr hb=>rsame25_any _ _ _ _ _ _ _ _ _ (hw.open.path.step hb) (hl.step hb)
 have HSI:Hid (∀wr,Below w.heap.size w wr→Calls Tryz.prog 59 #[aggPr p] wr (ROf (leafS p.op p.arg.2 (p.args.xs.map Prod.snd) p.n) (p.args.n+1) wr)):=qD fun wr hb=>rsingle_any p wr (HW.out.step hb) HV.out (HT.out.step hb)
 have g20:(p.op==20)=false:=by simpa using h
 have g21:(p.op==21)=false:=by simpa using h'
 obtain⟨bs,hbs⟩:∃b,b=sameP p.path.xs l:=⟨_,rfl⟩
 rw[←hbs] at HSM
 obtain⟨bo,hbo⟩:∃b,b=onPathB p.op:=⟨_,rfl⟩
 have HE:Hid (ofS l p=if(bo&&bs)=true then leafS p.op p.arg.2 (p.args.xs.map Prod.snd) p.n else(allS,false)):=by
  rw[Hid]
  by_cases hp:p.path.xs=l
  ·have e:bs=true:=by rw[hbs,sameP_iff];exact hp
   rw[ofS_leaf h h' hp,e,Bool.and_true]
   cases bo
   ·rw[if_neg (by decide)]
    refine leafS_none (leafI_other ?_)
    have:onPathB p.op=false:=hbo.symm
    unfold onPathB at this
    simp at this
    omega
   ·rw[if_pos rfl]
  ·have e:bs=false:=by
    rw[hbs,←Bool.not_eq_true,sameP_iff]
    exact hp
   rw[ofS_else h h' hp,e,Bool.and_false,if_neg (by decide)]
 have HBO:=qD hbo
 clear hw hv hT hl hz h h' hbs hbo
 have B0:Hid (Blk (w.alloc (.cells (arrPr p) 41)) w.heap.size 41 (arrPr p)):=Blk.new_at rfl
 have BE:=qD ((Below.refl w.heap.size w).alloc (qL) (Obj.cells (arrPr p) 41))
 go_enter Tryz.func15,Tryz.ntmps15
 go_upto_region 1 with fail
 change Code.wp _ _ _ _ (w.alloc (.cells (arrPr p) 41))
 generalize w.alloc (.cells (arrPr p) 41)=wa at*
 obtain⟨d0,d1,_,_,_,_,_,_⟩:=pr_cells B0.out
 go_wp2_with fail
 refine(onPath_any _ _).mono ?_
 rintro e w1 ⟨rfl,rfl⟩
 rw[←HBO.out]
 cases bo
 ·go_wp2_with fail
  refine(rall_any _).mono ?_
  rintro e w9 ⟨A3,m3,c3,ys,nf,rfl,hy,hnf,hmk,hsi,hb3⟩
  have HNO:=qD (show ROf (allS,false) 1 w1 (.returned (.tuple #[.slice A3 m3 c3,.bool false])) w9 from⟨A3,m3,c3,ys,nf,rfl,hy,hnf,hmk,hsi,hb3⟩)
  clear hy hnf hmk hsi hb3
  go_wp2_with fail
  go_ret2
  rw[HE.out]
  exact HNO.out.up BE.out (by have:=HS1.out;omega)
 ·go_wp2_with fail
  refine(HSM.out _ BE.out).mono ?_
  rintro e w2 ⟨rfl,hb⟩
  replace B0:=qD (B0.out.step hb)
  replace BE:=qD (BE.out.step' hb)
  clear hb d0 d1 HSM
  cases bs
  ·go_wp2_with fail
   refine(rall_any _).mono ?_
   rintro e w9 ⟨A3,m3,c3,ys,nf,rfl,hy,hnf,hmk,hsi,hb3⟩
   have HNO:=qD (show ROf (allS,false) 1 w2 (.returned (.tuple #[.slice A3 m3 c3,.bool false])) w9 from⟨A3,m3,c3,ys,nf,rfl,hy,hnf,hmk,hsi,hb3⟩)
   clear hy hnf hmk hsi hb3
   go_wp2_with fail
   go_ret2
   rw[HE.out]
   exact HNO.out.up BE.out (by have:=HS1.out;omega)
  ·obtain⟨r,hr⟩:∃r,r=leafS p.op p.arg.2 (p.args.xs.map Prod.snd) p.n:=⟨_,rfl⟩
   rw[←hr] at HSI HE
   clear hr
   have RG:=qD (pr_full B0.out)
   go_wp2_with ((with_reducible show wpList _ _ _ (⟨_,.load 41 _,_,_,_,_⟩::_) _ _);refine wpList_mid_w rfl 41 _ rfl w.heap.size 0 rfl _ _ RG.out Tryz.underlying41 rfl (by kernel_rfl) ?_)
   refine(HSI.out _ BE.out).mono ?_
   rintro e w9 ⟨A3,m3,c3,ys,nf,rfl,hy,hnf,hmk,hsi,hb3⟩
   have HNO:=qD (show ROf r (p.args.n+1) w2 (.returned (.tuple #[.slice A3 m3 c3,.bool r.2])) w9 from⟨A3,m3,c3,ys,nf,rfl,hy,hnf,hmk,hsi,hb3⟩)
   clear hy hnf hmk hsi hb3
   go_wp2_with fail
   go_ret2
   rw[HE.out]
   exact HNO.out.up BE.out HS1.out
theorem rof_any:∀p,ROfAt p:=by
 refine PrT.ind fun p ih=>?_
 by_cases h20:p.op=20
 ·exact rof_and p ih h20
 by_cases h21:p.op=21
 ·exact rof_or p ih h21
 exact rof_leaf p h20 h21
theorem boundsOf_walk(p:PrT)(A:Option Addr)(n k:Nat)(xs:List ByteArray)(w:World)(hT:Tabs w)(hN:NmT w)(hp:WP w p)(hx:ST w A n k xs):
 Calls Tryz.prog 4 #[aggPr p,.slice A n k] w fun e w'=>e=.returned (.bool true)∧Below w.heap.size w w':=by
 have HT:=qD hT
 have HN:=qD hN
 have HP:=qD hp
 have HX:=qD hx
 clear hT hN hp hx
 have HAW:Hid (∀wr,Below w.heap.size w wr→Calls Tryz.prog 13 #[] wr fun e w'=>e=.returned (.bool true)∧Below wr.heap.size wr w'):=qD fun wr hb=>awake25_any wr (HT.out.step hb) (HN.out.step hb)
 have B0:Hid (Blk (w.alloc (.cells (arrPr p) 41)) w.heap.size 41 (arrPr p)):=Blk.new_at rfl
 have BE:=qD ((Below.refl w.heap.size w).alloc (qL) (Obj.cells (arrPr p) 41))
 go_enter Tryz.func4,Tryz.ntmps4
 go_upto_region 1 with fail
 change Code.wp _ _ _ _ (w.alloc (.cells (arrPr p) 41))
 generalize w.alloc (.cells (arrPr p) 41)=wa at*
 have RF:=qD (pr_full B0.out)
 go_wp2_with ((with_reducible show wpList _ _ _ (⟨_,.load 41 _,_,_,_,_⟩::_) _ _);refine wpList_mid_w rfl 41 _ rfl w.heap.size 0 rfl _ _ RF.out Tryz.underlying41 rfl (by kernel_rfl) ?_)
 refine(rpred_any p wa (HP.out.step BE.out) (HT.out.step BE.out)).mono ?_
 rintro e w1 ⟨er,rfl,hv,hb⟩
 have C0:=qD (B0.out.step hb)
 have CE:=qD (BE.out.step' hb)
 have HV:=qD hv
 clear hb hv B0 BE RF
 by_cases he:er=0
 rotate_left
 ·have heb:(er != 0)=true:=by simpa using he
  clear he HV
  go_wp2_with fail
  refine(HAW.out _ CE.out).mono ?_
  rintro e w2 ⟨rfl,hb⟩
  have DE:=qD (CE.out.step' hb)
  clear hb
  go_wp2_with fail
  go_ret
  exact⟨rfl,DE.out⟩
 subst he
 have VP:=qD (HV.out rfl)
 have HPA:=qD (rpath_any xs A n k w1 (HX.out.step CE.out))
 obtain⟨pb,hpb⟩:∃b,b=pathB xs:=⟨_,rfl⟩
 rw[←hpb] at HPA
 clear HV hpb
 cases pb
 ·go_wp2_with (go_at_call 12;refine HPA.out.mono ?_;rintro e w2 ⟨rfl,rfl⟩)
  refine(HAW.out _ CE.out).mono ?_
  rintro e w2 ⟨rfl,hb⟩
  have DE:=qD (CE.out.step' hb)
  clear hb
  go_wp2_with fail
  go_ret
  exact⟨rfl,DE.out⟩
 have HZ:Hid (p.sz≤300000000):=qD (Nat.le_trans (sz_le HP.out) (by have:=VP.out.2;omega))
 have RF:=qD (pr_full C0.out)
 have HO1:=qD (of_any p A n k xs w1 (HP.out.step CE.out) VP.out.1 (HT.out.step CE.out) (HX.out.step CE.out) HZ.out)
 go_upto_region 4 with(first
  | (go_at_call 12;refine HPA.out.mono ?_;rintro e w2 ⟨rfl,rfl⟩)
  | ((with_reducible show wpList _ _ _ (⟨_,.load 41 _,_,_,_,_⟩::_) _ _);refine wpList_mid_w rfl 41 _ rfl w.heap.size 0 rfl _ _ RF.out Tryz.underlying41 rfl (by kernel_rfl) ?_)
  | (go_at_call 14;refine HO1.out.mono ?_;rintro e w3 ⟨A3,m3,c3,ys,nf,rfl,hy,hnf,_,hsi,hb3,_⟩))
 have D0:=qD (C0.out.step hb3)
 have DE:=qD (CE.out.step' hb3)
 have SI3:=qD hsi
 have HY:=qD hy
 have HNF:=qD hnf
 clear hy hnf hsi hb3 RF HO1 C0 CE HPA
 have RF:=qD (pr_full D0.out)
 have HO2:=qD (rof_any p A n k xs w3 (HP.out.step DE.out) VP.out.1 (HT.out.step DE.out) (HX.out.step DE.out) HZ.out)
 go_upto_region 5 with(first
  | ((with_reducible show wpList _ _ _ (⟨_,.load 41 _,_,_,_,_⟩::_) _ _);refine wpList_mid_w rfl 41 _ rfl w.heap.size 0 rfl _ _ RF.out Tryz.underlying41 rfl (by kernel_rfl) ?_)
  | (go_at_call 15;refine HO2.out.mono ?_;rintro e w4 ⟨A4,m4,c4,zs,nf4,rfl,hz,hnf4,_,hsi,hb4⟩))
 have EE:=qD (DE.out.step' hb4)
 have SI4:=qD (SI3.out.step hb4)
 have SI5:=qD hsi
 have HSM:=qD (norm_same HY.out hz HNF.out hnf4 fun _ _=>Iff.rfl)
 have HSC:=qD (sameIs25_any ys zs A3 A4 m3 m4 c3 c4 w4 SI4.out SI5.out HSM.out)
 obtain⟨z,hzz⟩:∃z,z=(ofS xs p).2:=⟨_,rfl⟩
 rw[←hzz]
 clear hz hnf4 hsi hb4 RF HO2 D0 DE SI3 HY HNF hzz
 cases z
 all_goals
  go_wp2_with fail
  refine HSC.out.mono ?_
  rintro e w5 ⟨rfl,hb⟩
  have FE:=qD (EE.out.step' hb)
  clear hb
  go_wp2_with fail
  refine(HAW.out _ FE.out).mono ?_
  rintro e w6 ⟨rfl,hb⟩
  have GE:=qD (FE.out.step' hb)
  clear hb
  go_wp2_with fail
  go_ret
  exact⟨rfl,GE.out⟩
open Go
theorem nm_cell{P:Program}{W:World}{name:String}{l:List (DataW Unit)}{g n:Nat}{t e:TypeId}(hg:P.globalNamed name=some g)(hty:(P.globals[g]?).map (·.type)=some t)(ht:P.underlying t=some (.array n e))(he:P.underlying e=some .string)(hce:P.cellsOf e=1)(h:Lib.VarReads P W name (.agg l))(i:Nat)(hi:i<n)(s:List UInt8)(hs:l[i]?=some (.lit (.string s))):W.cell? ⟨g,i,none⟩=some (.string ⟨s.toArray⟩):=by
 obtain⟨g',t',cs,fuel,p,h1,h2,h3,h4⟩:=h
 obtain rfl:=Option.some.inj (hg.symm.trans h1)
 obtain rfl:=Option.some.inj (hty.symm.trans h2)
 obtain⟨xs,m,rfl,hx,hcl,hxl,hf⟩:=DataW.trod_array ht h4
 have hl:l=xs.map (·.1):=by
  have:=congrArg Prod.fst hx
  injection this
 have h5:=hf i hi
 rw[hce,Nat.mul_one] at h5
 have hxi : xs[i]? = some (xs[i]'(by omega)) := List.getElem?_eq_getElem (by omega)
 rw[hxi] at h5
 obtain⟨s',hc,hx',_⟩:=DataW.trod_string he h5
 rw[hl,List.getElem?_map,hxi] at hs
 simp only[Option.map_some,Option.some.injEq] at hs
 rw[hx'] at hs
 simp only[DataW.lit.injEq,Lit.string.injEq] at hs
 rw[World.var?_cell hg h3 i]
 have h6:cs.toList[i]?=some (.string s'):=by
  have:=congrArg (·[0]?) hc
  simpa[List.getElem?_take,List.getElem?_drop] using this
 rw[Array.getElem?_toList] at h6
 rw[h6,←hs]
def strsOf:DataW Unit→Array Value
 | .agg l=>(l.map fun
  | .lit (.string s)=>Value.string ⟨s.toArray⟩
  | _=>undef).toArray
 | _=>#[]
theorem nm_tab{W : World}(h : Lib.VarReads Tryz.prog W "docstore/predicate.names" Rows.laid_docstore_predicate_names) : NmT W :=
 ⟨nm_cell (t:=213) (e:=9) (n:=25) (by kernel_rfl) (by kernel_rfl) Tryz.underlying213 Tryz.underlying9 (by kernel_rfl) h 2 (by omega) [36,101,113] rfl,
  nm_cell (t:=213) (e:=9) (n:=25) (by kernel_rfl) (by kernel_rfl) Tryz.underlying213 Tryz.underlying9 (by kernel_rfl) h 5 (by omega) [36,103,101] rfl⟩
open Go.ChangeShapes Go.WideShapes Go.ChangeAt Go.Joins Go.Deep
theorem bytes_string:Tryz.prog.bytesOf 9=16:=by kernel_rfl
section
variable {H:Type} {enc:TypeId×Value→H} {W:World} {base:Nat} {spare:Nat→Bool} {held:Bool}
theorem read_texts(n:Nat){v:Value}{y:DataW H×List MemPlace}(h:DataW.trod enc Tryz.prog W base spare held n 28 [v]=some y)(hw:Light 28 y.1):
 ∃(A:Option Addr) (n c:Nat) (xs:List ByteArray),v=.slice A n c∧ST W A n c xs:=by
 rcases DataW.trod_slice Tryz.underlying28 h with⟨hcs,_⟩|⟨a,len,cap,elems,rest,n',rfl,hcs,rfl,_,hlc,hcm,hel,hat,_,_⟩
 ·simp at hcs
  exact⟨none,0,0,[],hcs,⟨SR.nil,by show 0*16≤reach;decide,fun s hs=>by simp at hs⟩⟩
 ·simp at hcs
  subst hcs
  simp only[Light,DataW.weights,Tryz.underlying28,List.mem_cons,List.mem_append,bytes_string] at hw
  have hsz:len*16≤reach:=by
   have:=hw _ (.inl rfl)
   simp only[List.length_map,hel] at this
   have h2:len*16≤(len+rest.length)*16:=Nat.mul_le_mul_right _ (by omega)
   have:=le_reach
   omega
  have wl:=light_all (l:=elems.map (·.1)) (fun z hz=>hw z (.inr (.inl hz)))
  rcases Nat.eq_zero_or_pos len with h0|hp
  ·subst h0
   exact⟨some a,0,cap,[],rfl,⟨SR.nil,by show 0*16≤reach;decide,fun s hs=>by simp at hs⟩⟩
  have step:∀i,i<len→∃s:ByteArray,W.cells? base (a.add (i*1)) 1=some [.string s]∧s.size≤reach:=by
   intro i hi
   have h1:=hat i hi
   rw[cells_string,List.getElem?_eq_getElem (by omega)] at h1
   obtain⟨cs',hcs',ht'⟩:=Option.bind_eq_some_iff.1 h1
   have hwi:=wl _ (List.mem_map_of_mem (List.getElem_mem (l:=elems) (n:=i) (by omega)))
   generalize elems[i]=q at*
   obtain⟨s,e0,rfl,_⟩:=DataW.trod_string Tryz.underlying9 ht'
   subst e0
   refine⟨s,hcs',Nat.le_trans (hwi s.size ?_) le_reach⟩
   simp[DataW.weights]
  obtain⟨s0,h0,_⟩:=step 0 hp
  obtain⟨b,off,ha,_⟩:=cells_at h0 (by omega)
  have ha':a=⟨b,off,none⟩:=by simpa[Addr.add] using ha
  subst ha'
  obtain⟨f,hf⟩:=choose_fn (p:=fun i (s:ByteArray)=>W.cell? ⟨b,off+i,none⟩=some (.string s)∧s.size≤reach) ByteArray.empty len (fun i hi=>by
   obtain⟨s,hcs',hs⟩:=step i hi
   rw[addr_add] at hcs'
   obtain⟨b',off',ha',hc⟩:=cells_at hcs' (by omega)
   injection ha' with e1 e2
   subst e1 e2
   have:=hc 0 (by omega)
   rw[Nat.mul_one] at this
   exact⟨s,this,hs⟩)
  refine⟨_,len,cap,(List.range len).map f,rfl,⟨⟨by simp,hlc,fun _=>⟨b,off,rfl,World.block_lt_of_cell? W _ (hf 0 hp).1,fun i x hi j u hj=>?_⟩⟩,hsz,fun s hs=>?_⟩⟩
  ·have hlt:i<len:=by have:=(List.getElem?_eq_some_iff.1 hi).1;simpa using this
   rw[List.getElem?_map,List.getElem?_range hlt] at hi
   simp only[Option.map_some,Option.some.injEq] at hi
   subst hi
   have hj0:j=0:=by have:=(List.getElem?_eq_some_iff.1 hj).1;simpa[recT] using this
   subst hj0
   simp[recT] at hj
   subst hj
   rw[Nat.mul_one,Nat.add_zero]
   exact(hf i hlt).1
  ·obtain⟨i,hi,rfl⟩:=List.mem_map.1 hs
   exact(hf i (List.mem_range.1 hi)).2
theorem open_texts{r:Reach}{b0:Nat}{v:Value}{d:DataW H}{p:List MemPlace}(hv:Value.okWide Tryz.prog W r b0 28 v)(h:DataW.Trod enc Tryz.prog W base spare held 28 v d p)(hw:Light 28 d):
 ∃(A:Option Addr) (n c:Nat) (xs:List ByteArray),v=.slice A n c∧ST W A n c xs:=by
 obtain⟨a,len,cap,rfl⟩:=okWide_slice Tryz.underlying28 hv
 obtain⟨fuel,hf⟩:=h
 exact read_texts fuel hf hw
end
theorem cells_texts:Tryz.prog.cellsOf 28=1:=by kernel_rfl
section
variable {H:Type} {enc:TypeId×Value→H} {W:World} {base:Nat} {spare:Nat→Bool} {held:Bool}
end
section
variable {H:Type} {enc:TypeId×Value→H} {W:World} {base:Nat} {spare:Nat→Bool} {held:Bool}
end
section
variable {H:Type} {enc:TypeId×Value→H} {W:World} {base:Nat} {spare:Nat→Bool} {held:Bool}
end
def In64(n:Int):Prop:=-9223372036854775808≤n∧n≤9223372036854775807
mutual
def NumsV:Val→Prop
 | .mk _ n _ l d=>In64 n∧NumsL l∧NumsD d
def NumsL:List Val→Prop
 | []=>True
 | x::r=>NumsV x∧NumsL r
def NumsD:List Fld→Prop
 | []=>True
 | f::r=>NumsF f∧NumsD r
def NumsF:Fld→Prop
 | .mk _ v=>NumsV v
end
theorem NumsL_iff(l:List Val):NumsL l↔∀y∈l,NumsV y:=by
 induction l with
 | nil=>simp[NumsL]
 | cons x r ih=>simp[NumsL,ih]
theorem NumsF_iff(f:Fld):NumsF f↔NumsV f.v:=by cases f;simp only[NumsF];rfl
theorem NumsD_iff(d:List Fld):NumsD d↔∀f∈d,NumsV f.v:=by
 induction d with
 | nil=>simp[NumsD]
 | cons x r ih=>simp[NumsD,ih,NumsF_iff]
theorem NumsV_iff(x:Val):NumsV x↔In64 x.n∧(∀y∈x.l,NumsV y)∧∀f∈x.d,NumsV f.v:=by
 cases x
 rw[NumsV,NumsL_iff,NumsD_iff]
 rfl
def NumsP:PrT→Prop
 | .mk _ _ arg args _ _ _ _ _ _ _ _ _ kids=>NumsV arg.2∧(∀x∈args.xs,NumsV x.2)∧NumsPs kids
where NumsPs:List PrT→Prop
 | []=>True
 | x::r=>NumsP x∧NumsPs r
theorem numsPs_iff{l:List PrT}:NumsP.NumsPs l↔∀k∈l,NumsP k:=by
 induction l with
 | nil=>simp[NumsP.NumsPs]
 | cons y r ih=>simp[NumsP.NumsPs,ih]
theorem NumsP_iff(p:PrT):NumsP p↔NumsV p.arg.2∧(∀x∈p.args.xs,NumsV x.2)∧∀k∈p.kids,NumsP k:=by
 cases p
 simp only[NumsP,numsPs_iff]
 rfl
theorem in64_wf{n:Int}(h:(Lit.int .i64 n).wf=true):In64 n:=by
 have h:(decide (IntKind.i64.min≤n)&&decide (n≤IntKind.i64.max))=true:=h
 simp only[Bool.and_eq_true,decide_eq_true_eq] at h
 exact h
section
variable {H:Type} {enc:TypeId×Value→H} {W:World} {base:Nat} {spare:Nat→Bool} {held:Bool}
def ReadsN(H:Type)(enc:TypeId×Value→H)(W:World)(base:Nat)(spare:Nat→Bool)(held:Bool)(n:Nat):Prop:=
 ∀(cs:List Value) (y:DataW H×List MemPlace),DataW.trod enc Tryz.prog W base spare held n 32 cs=some y→Light 32 y.1→∃c x,cs=c.list∧RW W c x∧NumsV x
theorem nread_list(n:Nat){v:Value}{y:DataW H×List MemPlace}(ih:∀n',n'<n→ReadsN H enc W base spare held n')(h:DataW.trod enc Tryz.prog W base spare held n 29 [v]=some y)(hw:Light 29 y.1):
 ∃(LA:Option Addr) (ln lc:Nat) (l:List Val),v=.slice LA ln lc∧ln=l.length∧ln≤lc∧ln*80≤reach∧(0<ln→∃b off,LA=some ⟨b,off,none⟩∧∀(i:Nat) (y:Val),l[i]?=some y→∃e,VAt W b (off+i*5) e∧RW W e y)∧∀y∈l,NumsV y:=by
 rcases DataW.trod_slice Tryz.underlying29 h with⟨hcs,_⟩|⟨a,len,cap,elems,rest,n',rfl,hcs,rfl,_,hlc,hcm,hel,hat,_,_⟩
 ·simp at hcs
  exact⟨none,0,0,[],hcs,rfl,qL,by decide,fun h=>absurd h (by omega),by simp⟩
 ·simp at hcs
  subst hcs
  simp only[Light,DataW.weights,Tryz.underlying29,List.mem_cons,List.mem_append,bytes_value] at hw
  have hsz:len*80≤reach:=by
   have:=hw _ (.inl rfl)
   simp only[List.length_map,hel] at this
   have h2:len*80≤(len+rest.length)*80:=Nat.mul_le_mul_right _ (by omega)
   have:=le_reach
   omega
  have wl:=light_all (l:=elems.map (·.1)) (fun z hz=>hw z (.inr (.inl hz)))
  rcases Nat.eq_zero_or_pos len with h0|hp
  ·exact⟨some a,len,cap,[],rfl,h0,hlc,hsz,fun h=>absurd h (by omega),by simp⟩
  have step:∀i,i<len→∃cs',W.cells? base (a.add (i*5)) 5=some cs'∧∃e x,cs'=VC.list e∧RW W e x∧NumsV x:=by
   intro i hi
   have h1:=hat i hi
   rw[cells_value,List.getElem?_eq_getElem (by omega)] at h1
   obtain⟨cs',hcs',ht'⟩:=Option.bind_eq_some_iff.1 h1
   exact⟨cs',hcs',ih n' (by omega) cs' _ ht' (wl _ (List.mem_map_of_mem (List.getElem_mem _)))⟩
  obtain⟨cs0,h0,_⟩:=step 0 hp
  obtain⟨b,off,ha,_⟩:=cells_at h0 (by omega)
  have ha':a=⟨b,off,none⟩:=by simpa[Addr.add] using ha
  subst ha'
  obtain⟨f,hf⟩:=choose_fn (p:=fun i x=>(∃e,VAt W b (off+i*5) e∧RW W e x)∧NumsV x) Val.zero len (fun i hi=>by
   obtain⟨cs',hcs',e,x,rfl,hx,hnx⟩:=step i hi
   rw[addr_add] at hcs'
   obtain⟨b',off',ha',hc⟩:=cells_at hcs' (by omega)
   injection ha' with e1 e2
   subst e1 e2
   exact⟨x,⟨e,⟨hc 0 (by omega),hc 1 (by omega),hc 2 (by omega),hc 3 (by omega),hc 4 (by omega)⟩,hx⟩,hnx⟩)
  refine⟨_,len,cap,(List.range len).map f,rfl,by simp,hlc,hsz,fun _=>⟨b,off,rfl,fun i y hi=>?_⟩,fun y hy=>(by obtain⟨i,hi,rfl⟩:=List.mem_map.1 hy;exact(hf i (List.mem_range.1 hi)).2)⟩
  have hlt:i<len:=by have:=(List.getElem?_eq_some_iff.1 hi).1;simpa using this
  rw[List.getElem?_map,List.getElem?_range hlt] at hi
  simp only[Option.map_some,Option.some.injEq] at hi
  subst hi
  exact(hf i hlt).1
theorem nread_doc(n:Nat){v:Value}{y:DataW H×List MemPlace}(ih:∀n',n'<n→ReadsN H enc W base spare held n')(h:DataW.trod enc Tryz.prog W base spare held n 30 [v]=some y)(hw:Light 30 y.1):
 ∃(DA:Option Addr) (dn dc:Nat) (d:List Fld),v=.slice DA dn dc∧dn=d.length∧dn≤dc∧dn*96≤reach0∧(0<dn→∃b off,DA=some ⟨b,off,none⟩∧∀(i:Nat) (f:Fld),d[i]?=some f→W.cell? ⟨b,off+i*6,none⟩=some (.string f.s)∧f.s.size≤reach∧∃e,VAt W b (off+i*6+1) e∧RW W e f.v)∧∀f∈d,NumsV f.v:=by
 rcases DataW.trod_slice Tryz.underlying30 h with⟨hcs,_⟩|⟨a,len,cap,elems,rest,n',rfl,hcs,rfl,_,hlc,hcm,hel,hat,_,_⟩
 ·simp at hcs
  exact⟨none,0,0,[],hcs,rfl,qL,by decide,fun h=>absurd h (by omega),by simp⟩
 ·simp at hcs
  subst hcs
  simp only[Light,DataW.weights,Tryz.underlying30,List.mem_cons,List.mem_append,bytes_field] at hw
  have hsz:len*96≤reach0:=by
   have:=hw _ (.inl rfl)
   simp only[List.length_map,hel] at this
   have h2:len*96≤(len+rest.length)*96:=Nat.mul_le_mul_right _ (by omega)
   omega
  have wl:=light_all (l:=elems.map (·.1)) (fun z hz=>hw z (.inr (.inl hz)))
  rcases Nat.eq_zero_or_pos len with h0|hp
  ·exact⟨some a,len,cap,[],rfl,h0,hlc,hsz,fun h=>absurd h (by omega),by simp⟩
  have step:∀i,i<len→∃cs',W.cells? base (a.add (i*6)) 6=some cs'∧∃(s:ByteArray) (e:VC) (x:Val),cs'=.string s::VC.list e∧s.size≤reach∧RW W e x∧NumsV x:=by
   intro i hi
   have h1:=hat i hi
   rw[cells_field,List.getElem?_eq_getElem (by omega)] at h1
   obtain⟨cs',hcs',ht'⟩:=Option.bind_eq_some_iff.1 h1
   have hwi:=wl _ (List.mem_map_of_mem (List.getElem_mem (l:=elems) (n:=i) (by omega)))
   generalize elems[i]=q at*
   obtain⟨ys,n'',rfl,rfl,hcl,hyl,hf⟩:=DataW.trod_struct Tryz.underlying120 ht'
   rw[cells_field] at hcl
   obtain⟨v0,v1,v2,v3,v4,v5,rfl⟩:=six hcl
   obtain⟨y0,y1,rfl⟩:=two hyl
   have f0:DataW.trod enc Tryz.prog W base spare held n'' 9 [v0]=some y0:=by simpa[cells_string] using hf 0 _ rfl
   have f1:DataW.trod enc Tryz.prog W base spare held n'' 32 [v1,v2,v3,v4,v5]=some y1:=by simpa[cells_value] using hf 1 _ rfl
   obtain⟨s,e0,rfl,_⟩:=DataW.trod_string Tryz.underlying9 f0
   simp only[List.cons.injEq,and_true] at e0
   subst e0
   simp only[Light,DataW.weights,Tryz.underlying120,List.map,DataW.weightsEach,List.mem_append] at hwi
   obtain⟨e,x,he,hx,hnx⟩:=ih n'' (by omega) _ _ f1 (fun z hz=>hwi z (.inr (.inl hz)))
   refine⟨_,hcs',s,e,x,by rw[he],Nat.le_trans (hwi s.size (.inl (by simp))) le_reach,hx,hnx⟩
  obtain⟨cs0,h0,_⟩:=step 0 hp
  obtain⟨b,off,ha,_⟩:=cells_at h0 (by omega)
  have ha':a=⟨b,off,none⟩:=by simpa[Addr.add] using ha
  subst ha'
  obtain⟨f,hf⟩:=choose_fn (p:=fun i (f:Fld)=>(W.cell? ⟨b,off+i*6,none⟩=some (.string f.s)∧f.s.size≤reach∧∃e,VAt W b (off+i*6+1) e∧RW W e f.v)∧NumsV f.v) (.mk ByteArray.empty Val.zero) len (fun i hi=>by
   obtain⟨cs',hcs',s,e,x,rfl,hs,hx,hnx⟩:=step i hi
   rw[addr_add] at hcs'
   obtain⟨b',off',ha',hc⟩:=cells_at hcs' (by omega)
   injection ha' with e1 e2
   subst e1 e2
   exact⟨.mk s x,⟨hc 0 (by omega),hs,e,⟨hc 1 (by omega),hc 2 (by omega),hc 3 (by omega),hc 4 (by omega),hc 5 (by omega)⟩,hx⟩,hnx⟩)
  refine⟨_,len,cap,(List.range len).map f,rfl,by simp,hlc,hsz,fun _=>⟨b,off,rfl,fun i y hi=>?_⟩,fun y hy=>(by obtain⟨i,hi,rfl⟩:=List.mem_map.1 hy;exact(hf i (List.mem_range.1 hi)).2)⟩
  have hlt:i<len:=by have:=(List.getElem?_eq_some_iff.1 hi).1;simpa using this
  rw[List.getElem?_map,List.getElem?_range hlt] at hi
  simp only[Option.map_some,Option.some.injEq] at hi
  subst hi
  exact(hf i hlt).1
theorem nread_value:∀(fuel:Nat) (cs:List Value) (y:DataW H×List MemPlace),DataW.trod enc Tryz.prog W base spare held fuel 32 cs=some y→Light 32 y.1→∃c x,cs=c.list∧RW W c x∧NumsV x:=by
 intro fuel
 induction fuel using Nat.strongRecOn with
 | _ fuel ih=>
 intro cs y h hw
 obtain⟨ys,n,rfl,rfl,hcl,hyl,hf⟩:=DataW.trod_struct Tryz.underlying32 h
 rw[cells_value] at hcl
 obtain⟨v0,v1,v2,v3,v4,rfl⟩:=five hcl
 obtain⟨y0,y1,y2,y3,y4,rfl⟩:=five hyl
 have f0:DataW.trod enc Tryz.prog W base spare held n 3 [v0]=some y0:=by simpa[cells_int] using hf 0 _ rfl
 have f1:DataW.trod enc Tryz.prog W base spare held n 3 [v1]=some y1:=by simpa[cells_int] using hf 1 _ rfl
 have f2:DataW.trod enc Tryz.prog W base spare held n 9 [v2]=some y2:=by simpa[cells_string] using hf 2 _ rfl
 have f3:DataW.trod enc Tryz.prog W base spare held n 29 [v3]=some y3:=by simpa[cells_list] using hf 3 _ rfl
 have f4:DataW.trod enc Tryz.prog W base spare held n 30 [v4]=some y4:=by simpa[cells_doc] using hf 4 _ rfl
 obtain⟨k,e0,rfl,_⟩:=DataW.trod_int Tryz.underlying3 f0
 obtain⟨m,e1,rfl,hm⟩:=DataW.trod_int Tryz.underlying3 f1
 obtain⟨t,e2,rfl,_⟩:=DataW.trod_string Tryz.underlying9 f2
 simp only[List.cons.injEq,and_true] at e0 e1 e2
 subst e0 e1 e2
 have hw':Light 9 (DataW.lit (H:=H) (.string t.data.toList))∧Light 29 y3.1∧Light 30 y4.1:=by
  simp only[Light,DataW.weights,Tryz.underlying32,List.map,DataW.weightsEach,List.mem_append] at hw
  refine⟨fun z hz=>hw z ?_,fun z hz=>hw z ?_,fun z hz=>hw z ?_⟩
  ·simp only[DataW.weights] at hz
   exact .inr (.inr (.inl hz))
  ·exact .inr (.inr (.inr (.inl hz)))
  ·exact .inr (.inr (.inr (.inr (.inl hz))))
 obtain⟨w2,w3,w4⟩:=hw'
 have htz:t.size≤reach:=Nat.le_trans (w2 t.size (by simp[DataW.weights])) le_reach
 obtain⟨LA,ln,lc,l,rfl,hl1,hl2,hl3,hl4,hl5⟩:=nread_list n (fun n' hn=>ih n' (by omega)) f3 w3
 obtain⟨DA,dn,dc,d,rfl,hd1,hd2,hd3,hd4,hd5⟩:=nread_doc n (fun n' hn=>ih n' (by omega)) f4 w4
 refine⟨⟨k,m,t,LA,ln,lc,DA,dn,dc⟩,.mk k m t l d,rfl,RVs.shut ⟨rfl,rfl,rfl,htz,hl1,hl2,hl3,fun hp=>?_,hd1,hd2,Nat.le_trans hd3 le_reach,fun hp=>?_⟩,(NumsV_iff _).2 ⟨in64_wf hm,hl5,hd5⟩⟩
 ·obtain⟨b,off,e,h⟩:=hl4 hp
  exact⟨b,off,e,Ft.top,h⟩
 ·obtain⟨b,off,e,h⟩:=hd4 hp
  exact⟨b,off,e,Ft.top,h⟩
end
end Go.Proofs.YtfkdihlbaghajaaGreatDoor
