/- Parts of the proof, joined: RfIns, RfJoin, RfRan, RgRangesWalk, ChOpenA, ShOpen, EncOpen. -/
import Derived.Test.YtfkapannahcjiaaGreatDoorRa1
import Derived.Test.YtfkapannahcjiaaGreatDoorRa21
import Derived.Test.YtfkapannahcjiaaGreatDoorRa18
import Derived.Test.YtfkapannahcjiaaGreatDoorRa16
import Derived.Test.YtfkapannahcjiaaGreatDoorRa27
import Derived.Test.YtfkapannahcjiaaGreatDoorRa28
import Derived.Test.YtfkapannahcjiaaGreatDoorRa15
import Derived.Test.YtfkapannahcjiaaGreatDoorRa25
import Derived.Test.YtfkapannahcjiaaGreatDoorRa26
import Derived.Test.YtfkapannahcjiaaGreatDoorRa19
import Derived.Test.YtfkapannahcjiaaGreatDoorRa2
import Derived.Test.YtfkapannahcjiaaGreatDoorRa3
import Derived.Laws.OwnMore
set_option maxRecDepth 100000
set_option maxHeartbeats 16000000
set_option linter.unusedSimpArgs false
namespace Go.Proofs.YtfkapannahcjiaaGreatDoor
open Go.RowKit
def InsR(l:List B2)(x:B2)(out:List B2):Prop:=∃k,AtR ltB l x k∧out=if l[k]?=some x then l else l.take k++x::l.drop k
def InsOk(l:List B2)(x:B2)(base:Nat)(w:World)(e:Ending)(w':World):Prop:=
 ∃v' out,e=.returned v'∧w'.ownsRow base 45 2 v' out.length (flat recB2 out)∧InsR l x out∧Below w.heap.size w w'∧out.length≤l.length+1∧out≠[]
structure NxB(wx:World)(v:Value)(n:Nat)(xs:List B2)(wr:World):Prop where
 own:wr.ownsRow wx.heap.size 45 2 v n (flat recB2 xs)
 bel:Below wx.heap.size wx wr
theorem NxB.next{wx:World}{v v':Value}{n m n':Nat}{xs ys:List B2}{wr w':World}{news:List Value}(h:NxB wx v n xs wr)(hn:news=flat recB2 ys)(hn':n'=m)(ho:w'.ownsRow wx.heap.size 45 2 v' m (flat recB2 xs++news))(hg:wr.grownBy w' v.ownBlock):NxB wx v' n' (xs++ys) w':=by
 subst hn hn'
 exact⟨by rw[flat_append];exact ho,h.bel.grown hg h.bel.size (own_ge h.own)⟩
theorem NxB.alloc{wx:World}{v:Value}{n:Nat}{xs:List B2}{wr:World}(h:NxB wx v n xs wr)(o:Obj):NxB wx v n xs (wr.alloc o):=⟨h.own.alloc _,h.bel.alloc h.bel.size o⟩
theorem flatB_one(xs:List B2):∀u∈flat recB2 xs,u.oneCell'=true:=by
 intro u hu
 obtain⟨p,_,h⟩:=List.mem_flatMap.1 hu
 exact recB2_one p u h
theorem NxB.ins{w wc w3:World}{v3:Value}{n k base:Nat}{l:List B2}{x:B2}(h:NxB wc v3 n ([]++l.take k++[x]++l.drop k) w3)(ha:AtR ltB l x k)(hno:l[k]?≠some x)(hn:n=l.length+1)(hb:base≤wc.heap.size)(hbc:Below w.heap.size w wc):InsOk l x base w (.returned v3) w3:=by
 have e:[]++l.take k++[x]++l.drop k=l.take k++x::l.drop k:=by simp
 have hl:(l.take k++x::l.drop k).length=l.length+1:=by rw[(perm_insert l x k).length_eq];simp
 have ho:=own_less h.own hb
 rw[e] at ho
 refine⟨v3,l.take k++x::l.drop k,rfl,?_,⟨k,ha,by rw[if_neg hno]⟩,hbc.step' h.bel,by omega,by simp⟩
 rw[hl,←hn]
 exact ho
theorem rinsert_any(l:List B2)(x:B2)(v:Value)(base n:Nat)(w:World)(h:w.ownsRow base 45 2 v n (flat recB2 l))(hn:l.length=n)(hb:base≤w.heap.size)(hz:n≤1000000000)(hs:∀q∈l,q.1.size≤reach)(h0:n=0→v=.slice none 0 0):
 Calls Tryz.prog 27 #[v,.agg #[.string x.1,.string x.2]] w (InsOk l x base w):=by
 obtain⟨j0,hj0,hy0,hy1,hy2⟩:=info_parts info_pair
 have HLN:=qD hn
 have HS:=qD hs
 have BX:Hid (Blk (w.alloc (.cells #[.string x.1,.string x.2] 45)) w.heap.size 45 #[.string x.1,.string x.2]):=Blk.new_at rfl
 have HBC:=qD ((Below.refl w.heap.size w).alloc (qL) (Obj.cells #[.string x.1,.string x.2] 45))
 have HB:Hid (base≤(w.alloc (.cells #[.string x.1,.string x.2] 45)).heap.size):=qD (Nat.le_trans hb HBC.out.size)
 have HO:=qD (h.alloc (.cells #[.string x.1,.string x.2] 45))
 rcases Nat.eq_zero_or_pos n with rfl|hpos
 ·obtain rfl:=h0 rfl
  have hl:l=[]:=List.eq_nil_of_length_eq_zero hn
  have HAT:Hid (AtR ltB l x 0):=qD ⟨Nat.zero_le _,fun i y hi _=>absurd hi (by omega),fun y hy=>by rw[hl] at hy;simp at hy⟩
  have HNO:Hid (l[0]?≠some x):=by rw[Hid,hl];simp
  clear h hn hb hz hs h0 hl
  go_enter Tryz.func27,Tryz.ntmps27
  go_upto_region 1 with fail
  change Code.wp _ _ _ _ (w.alloc (.cells #[.string x.1,.string x.2] 45))
  generalize w.alloc (.cells #[.string x.1,.string x.2] 45)=wa at*
  go_upto_region 2 with fail
  go_loopw [5] (fun v wr=>∃k:Nat,k=0∧v=.int .i64 k∧Below wa.heap.size wa wr) (fun _ _=>0)
  case atStart=>exact⟨0,rfl,rfl,Below.refl _ _⟩
  case round=>
   obtain⟨k,rfl,rfl,hbel⟩:=hrel
   replace BX:=qD (BX.out.step hbel)
   replace HBC:=qD (HBC.out.step' hbel)
   replace HB:=qD (Nat.le_trans HB.out hbel.size)
   clear hbel
   go_upto_region 2 with fail
   go_quiet (fail)
   go_upto_region 4 with fail
   go_quiet (fail)
   go_upto_region 6 with fail
   refine wp_name ?_
   intro wc hwc
   have B9:Hid (Below wr.heap.size wr wc):=by rw[Hid,hwc];exact(((Below.refl _ _).drewN _).drewN _)
   replace BX:=qD (BX.out.step B9.out)
   replace HBC:=qD (HBC.out.step' B9.out)
   replace HB:=qD (Nat.le_trans HB.out B9.out.size)
   clear hwc B9
   have N0:Hid (NxB wc (.slice none 0 0) 0 [] wc):=qD ⟨own_nil _ _ _ _,Below.refl _ _⟩
   have R1:Hid (Reads wc wc.heap.size 2 none 0 (flat recB2 (l.take 0))):=qD ⟨by simp[flat],fun h=>absurd h (by omega)⟩
   have hl:l=[]:=List.eq_nil_of_length_eq_zero HLN.out
   have R2:Hid (Reads wc wc.heap.size 2 none 0 (flat recB2 (l.drop 0))):=by rw[hl];exact qD ⟨rfl,fun h=>absurd h (by omega)⟩
   clear hl
   have q0:=BX.out.cell 0
   have q1:=BX.out.cell 1
   simp at q0 q1
   go_wp2_with (at_builtin;refine wpList_append_any _ rfl _ _ 43 rfl wc.heap.size 45 j0 (.agg #[.string ByteArray.empty,.string ByteArray.empty]) 2 32 Tryz.underlying43 hj0 hy0 hy1 hy2 rfl (by decide) (.slice none 0 0) 0 (flat recB2 ([])) rfl N0.out.own _ _ 0 _ (flat recB2 (l.take 0)) rfl R1.out ?c1 (by unfold maxLen;omega) (by omega) (qL) ?_)
   case c1=>exact flatB_one _
   intro v1 w1 ho1 hg1 _
   have N1:Hid (NxB wc v1 0 ([]++l.take 0) w1):=qD (N0.out.next rfl (by omega) ho1 hg1)
   have BX1:=qD (BX.out.step N1.out.bel)
   clear ho1 hg1 q0 q1
   have q0:=BX1.out.cell 0
   have q1:=BX1.out.cell 1
   simp at q0 q1
   have hw1:=N1.out.bel.size
   go_wp2_with (at_builtin;refine wpList_append_any _ rfl _ _ 43 rfl wc.heap.size 45 j0 (.agg #[.string ByteArray.empty,.string ByteArray.empty]) 2 32 Tryz.underlying43 hj0 hy0 hy1 hy2 rfl (by decide) v1 0 (flat recB2 ([]++l.take 0)) rfl (N1.out.alloc _).own _ _ 1 _ (recB2 x) rfl ⟨rfl,fun _=>⟨_,rfl,Nat.lt_succ_self _,news_at _ _ _⟩⟩ ?c1 (by unfold maxLen;omega) (by omega) (le_alloc hw1 _) ?_)
   case c1=>exact recB2_one x
   intro v2 w2 ho2 hg2 _
   have N2:Hid (NxB wc v2 (0+1) ([]++l.take 0++[x]) w2):=qD ((N1.out.alloc _).next (by simp[flat]) (by omega) ho2 hg2)
   clear ho2 hg2 q0 q1
   have hw2:=N2.out.bel.size
   go_wp2_with (at_builtin;refine wpList_append_any _ rfl _ _ 43 rfl wc.heap.size 45 j0 (.agg #[.string ByteArray.empty,.string ByteArray.empty]) 2 32 Tryz.underlying43 hj0 hy0 hy1 hy2 rfl (by decide) v2 (0+1) (flat recB2 ([]++l.take 0++[x])) rfl N2.out.own _ _ 0 _ (flat recB2 (l.drop 0)) rfl (R2.out.below N2.out.bel) ?c1 (by unfold maxLen;omega) (by omega) hw2 ?_)
   case c1=>exact flatB_one _
   intro v3 w3 ho3 hg3 _
   have N3:Hid (NxB wc v3 (0+1+0) ([]++l.take 0++[x]++l.drop 0) w3):=qD (N2.out.next rfl (by omega) ho3 hg3)
   clear ho3 hg3
   go_wp2_with fail
   go_ret
   exact N3.out.ins HAT.out HNO.out (by have:=HLN.out;omega) HB.out HBC.out
 ·obtain⟨g,c,rfl,hg,hgl⟩:=own_some h hpos
  have hnc:n≤c:=by obtain⟨_,_,e,hc⟩:=own_slice h;injection e with _ _ e2;omega
  clear h hn hb hs h0
  go_enter Tryz.func27,Tryz.ntmps27
  go_upto_region 1 with fail
  change Code.wp _ _ _ _ (w.alloc (.cells #[.string x.1,.string x.2] 45))
  generalize w.alloc (.cells #[.string x.1,.string x.2] 45)=wa at*
  go_upto_block 0 with fail
  go_cut [5] (fun v5 wx=>∃k:Nat,k≤n∧v5=.int .i64 k∧AtR ltB l x k∧Below wa.heap.size wa wx)
  case first=>
   go_wp2_with fail
   go_loopw [5] (fun v wr=>∃k:Nat,k≤n∧v=.int .i64 k∧(∀i y,i<k→l[i]?=some y→ltB y.1 x.1)∧Below wa.heap.size wa wr) (fun v _=>n-(intOf v).toNat)
   case atStart=>exact⟨0,Nat.zero_le _,rfl,fun i y hi _=>absurd hi (by omega),Below.refl _ _⟩
   case round=>
    obtain⟨k,hk,rfl,hlo,hbel⟩:=hrel
    have HLO:=qD hlo
    have HBL:=qD hbel
    clear hlo hbel
    by_cases hlt:k<n
    ·obtain⟨q,hq⟩:∃q,l[k]?=some q:=⟨_,List.getElem?_eq_getElem (by have:=HLN.out;omega)⟩
     have hqc:=(ownB_cell (own_step HO.out HBL.out) (flat_get recB2_length hq (j:=0) (v:=.string q.1) rfl)).1
     have X0:∀kk:BW wr,kk.val.cell? ⟨g,k*2,none⟩=some (.string q.1):=fun kk=>kk.cell (by simpa using hqc)
     have Y0:∀kk:BW wr,kk.val.cell? ⟨w.heap.size,0,none⟩=some (.string x.1):=fun kk=>kk.cell ((BX.out.step HBL.out).cell 0)
     have K1:Hid (∀kk:BW wr,Calls Tryz.prog 78 #[.string q.1,.string x.1] kk.val fun e w''=>e=.returned (.int .i64 (cmpB q.1 x.1))∧∃kk:BW wr,w''=kk.val):=fun kk=>
      Calls.bw (rtexts_any _ _ _ (HS.out q (List.mem_of_getElem? hq)))
     have HQ:=qD hq
     have i0:(0:Int)≤(k:Int):=by omega
     have i1:(k:Int)<(n:Int):=by omega
     have i2:decide ((k:Int)<(n:Int))=true:=decide_eq_true i1
     clear hqc hq
     go_upto_region 2 with fail
     refine wp_region_bw (by kernel_rfl) (by kernel_rfl) ?_
     repeat(go_big_quiet_step (with_reducible exact K1.out _))
     refine wpQuiet_nil ?_
     rintro _ ⟨kw,rfl⟩
     replace HBL:=qD (HBL.out.step' kw.below)
     generalize kw.val=w5 at*
     clear X0 Y0 K1 i2
     by_cases hc:cmpB q.1 x.1<0
     ·have HL2:Hid (∀i y,i<k+1→l[i]?=some y→ltB y.1 x.1):=qD fun i y hi hy=>by
       by_cases e:i=k
       ·subst e
        obtain rfl:y=q:=by have:=hy.symm.trans HQ.out;simpa using this
        exact hc
       ·exact HLO.out i y (by omega) hy
      go_wp2_with fail
      go_roundw
      case rel=>exact⟨k+1,by omega,by go_num,HL2.out,HBL.out⟩
      case measure=>simp[intOf];omega
     ·have HAT:Hid (AtR ltB l x k):=qD ⟨by have:=HLN.out;omega,HLO.out,fun y hy=>by
       obtain rfl:y=q:=by have:=hy.symm.trans HQ.out;simpa using this
       exact hc⟩
      go_wp2_with fail
      go_meet
      exact⟨k,by omega,rfl,HAT.out,HBL.out⟩
    ·have HAT:Hid (AtR ltB l x k):=qD ⟨by have:=HLN.out;omega,HLO.out,fun y hy=>by
      have:=(List.getElem?_eq_some_iff.1 hy).1
      have:=HLN.out
      omega⟩
     have hki':decide ((k:Int)<(n:Int))=false:=decide_eq_false (by omega)
     go_upto_region 2 with fail
     go_quiet (fail)
     go_wp2_with fail
     go_meet
     exact⟨k,by omega,rfl,HAT.out,HBL.out.step' (Below.drewN (Below.refl _ _) _)⟩
  case rest=>
   obtain⟨k,hk,rfl,hat,hbel⟩:=hcut
   have HAT:=qD hat
   replace HO:=qD (own_step HO.out hbel)
   replace BX:=qD (BX.out.step hbel)
   replace HBC:=qD (HBC.out.step' hbel)
   replace HB:=qD (Nat.le_trans HB.out hbel.size)
   clear hat hbel
   by_cases hlt:k<n
   ·obtain⟨q,hq⟩:∃q,l[k]?=some q:=⟨_,List.getElem?_eq_getElem (by have:=HLN.out;omega)⟩
    have hqc:=(ownB_cell HO.out (flat_get recB2_length hq (j:=0) (v:=.string q.1) rfl)).1
    have hqd:=(ownB_cell HO.out (flat_get recB2_length hq (j:=1) (v:=.string q.2) rfl)).1
    have X0:∀kk:BW wc,kk.val.cell? ⟨g,k*2,none⟩=some (.string q.1):=fun kk=>kk.cell (by simpa using hqc)
    have X1:∀kk:BW wc,kk.val.cell? ⟨g,k*2+1,none⟩=some (.string q.2):=fun kk=>kk.cell hqd
    have Y0:∀kk:BW wc,kk.val.cell? ⟨w.heap.size,0,none⟩=some (.string x.1):=fun kk=>kk.cell (BX.out.cell 0)
    have Y1:∀kk:BW wc,kk.val.cell? ⟨w.heap.size,1,none⟩=some (.string x.2):=fun kk=>kk.cell (BX.out.cell 1)
    have HQ:=qD hq
    have i0:(0:Int)≤(k:Int):=by omega
    have i1:(k:Int)<(n:Int):=by omega
    have i2:decide ((k:Int)<(n:Int))=true:=decide_eq_true i1
    clear hqc hqd hq
    go_upto_region 4 with fail
    refine wp_region_bw (by kernel_rfl) (by kernel_rfl) ?_
    have hEQ:=eqB_run q x
    obtain⟨z,hz⟩:∃z,z=decide (q=x):=⟨_,rfl⟩
    rw[←hz] at hEQ
    have HZ:=qD hz
    clear hz
    repeat(go_big_quiet_step (fail))
    go_big_quiet_want
    refine quietB_eql q x HZ.out rfl rfl rfl ?_
    go_frame
    go_big_quiet_on
    repeat(go_big_quiet_step (fail))
    refine wpQuiet_nil ?_
    rintro _ ⟨kw,rfl⟩
    replace HO:=qD (own_step HO.out kw.below)
    replace BX:=qD (BX.out.step kw.below)
    replace HBC:=qD (HBC.out.step' kw.below)
    replace HB:=qD (Nat.le_trans HB.out kw.below.size)
    generalize kw.val=wd at*
    clear X0 X1 Y0 Y1 hEQ i2
    cases z
    ·have HNO:Hid (l[k]?≠some x):=by
      rw[Hid,HQ.out]
      have:=HZ.out
      intro e
      simp at this
      exact this (by simpa using e)
     clear HZ HQ
     go_upto_region 6 with fail
     have N0:Hid (NxB wd (.slice none 0 0) 0 [] wd):=qD ⟨own_nil _ _ _ _,Below.refl _ _⟩
     have HRd:=qD (Reads.of_own HO.out)
     have R1:Hid (Reads wd wd.heap.size 2 (some ⟨g,0,none⟩) k (flat recB2 (l.take k))):=by
      have:=HRd.out.take hk
      rw[flat_take recB2_length] at this
      exact this
     have R2:Hid (Reads wd wd.heap.size 2 (if c=k then some ⟨g,0,none⟩ else(some (⟨g,0,none⟩:Addr)).map (·.add (k*2))) (n-k) (flat recB2 (l.drop k))):=by
      have:=HRd.out.cut hk hnc
      rw[flat_drop recB2_length] at this
      exact this
     have q0:=BX.out.cell 0
     have q1:=BX.out.cell 1
     simp at q0 q1
     have hc0:(c=0)=False:=by simp;omega
     have hck:c≠k:=by omega
     rw[if_neg hck] at R2
     simp only[Option.map_some,addr_add,Nat.zero_add] at R2
     have hck':(c=k)=False:=by simp;omega
     go_wp2_with (at_builtin;refine wpList_append_any _ rfl _ _ 43 rfl wd.heap.size 45 j0 (.agg #[.string ByteArray.empty,.string ByteArray.empty]) 2 32 Tryz.underlying43 hj0 hy0 hy1 hy2 rfl (by decide) (.slice none 0 0) 0 (flat recB2 ([])) rfl N0.out.own _ _ k _ (flat recB2 (l.take k)) rfl R1.out ?c1 (by unfold maxLen;omega) (by omega) (qL) ?_)
     case c1=>exact flatB_one _
     intro v1 w1 ho1 hg1 _
     have N1:Hid (NxB wd v1 k ([]++l.take k) w1):=qD (N0.out.next rfl (by omega) ho1 hg1)
     have BX1:=qD (BX.out.step N1.out.bel)
     clear ho1 hg1 q0 q1
     have q0:=BX1.out.cell 0
     have q1:=BX1.out.cell 1
     simp at q0 q1
     have hw1:=N1.out.bel.size
     go_wp2_with (at_builtin;refine wpList_append_any _ rfl _ _ 43 rfl wd.heap.size 45 j0 (.agg #[.string ByteArray.empty,.string ByteArray.empty]) 2 32 Tryz.underlying43 hj0 hy0 hy1 hy2 rfl (by decide) v1 k (flat recB2 ([]++l.take k)) rfl (N1.out.alloc _).own _ _ 1 _ (recB2 x) rfl ⟨rfl,fun _=>⟨_,rfl,Nat.lt_succ_self _,news_at _ _ _⟩⟩ ?c1 (by unfold maxLen;omega) (by omega) (le_alloc hw1 _) ?_)
     case c1=>exact recB2_one x
     intro v2 w2 ho2 hg2 _
     have N2:Hid (NxB wd v2 (k+1) ([]++l.take k++[x]) w2):=qD ((N1.out.alloc _).next (by simp[flat]) (by omega) ho2 hg2)
     clear ho2 hg2 q0 q1
     have hw2:=N2.out.bel.size
     go_wp2_with (at_builtin;refine wpList_append_any _ rfl _ _ 43 rfl wd.heap.size 45 j0 (.agg #[.string ByteArray.empty,.string ByteArray.empty]) 2 32 Tryz.underlying43 hj0 hy0 hy1 hy2 rfl (by decide) v2 (k+1) (flat recB2 ([]++l.take k++[x])) rfl N2.out.own _ _ (n-k) _ (flat recB2 (l.drop k)) rfl (R2.out.below N2.out.bel) ?c1 (by unfold maxLen;omega) (by omega) hw2 ?_)
     case c1=>exact flatB_one _
     intro v3 w3 ho3 hg3 _
     have N3:Hid (NxB wd v3 (k+1+(n-k)) ([]++l.take k++[x]++l.drop k) w3):=qD (N2.out.next rfl (by omega) ho3 hg3)
     clear ho3 hg3
     go_wp2_with fail
     go_ret
     exact N3.out.ins HAT.out HNO.out (by have:=HLN.out;omega) HB.out HBC.out
    ·have hy:l[k]?=some x:=by
      rw[HQ.out]
      have:=HZ.out
      simp at this
      rw[this]
     go_wp2_with fail
     go_ret
     refine⟨_,l,rfl,by rw[HLN.out];exact HO.out,⟨k,HAT.out,by rw[if_pos hy]⟩,HBC.out,by omega,?_⟩
     rintro rfl
     simp at hy
   ·have hki':decide ((k:Int)<(n:Int))=false:=decide_eq_false (by omega)
    have HNO:Hid (l[k]?≠some x):=qD fun e=>by
     have:=(List.getElem?_eq_some_iff.1 e).1
     have:=HLN.out
     omega
    go_upto_region 4 with fail
    go_quiet (fail)
    go_upto_region 6 with fail
    refine wp_name ?_
    intro wd hwd
    have B9:Hid (Below wc.heap.size wc wd):=by rw[Hid,hwd];exact(Below.refl _ _).drewN _
    replace HO:=qD (own_step HO.out B9.out)
    replace BX:=qD (BX.out.step B9.out)
    replace HBC:=qD (HBC.out.step' B9.out)
    replace HB:=qD (Nat.le_trans HB.out B9.out.size)
    clear hwd B9
    have N0:Hid (NxB wd (.slice none 0 0) 0 [] wd):=qD ⟨own_nil _ _ _ _,Below.refl _ _⟩
    have HRd:=qD (Reads.of_own HO.out)
    have R1:Hid (Reads wd wd.heap.size 2 (some ⟨g,0,none⟩) k (flat recB2 (l.take k))):=by
     have:=HRd.out.take hk
     rw[flat_take recB2_length] at this
     exact this
    have R2:Hid (Reads wd wd.heap.size 2 (if c=k then some ⟨g,0,none⟩ else(some (⟨g,0,none⟩:Addr)).map (·.add (k*2))) (n-k) (flat recB2 (l.drop k))):=by
     have:=HRd.out.cut hk hnc
     rw[flat_drop recB2_length] at this
     exact this
    have q0:=BX.out.cell 0
    have q1:=BX.out.cell 1
    simp at q0 q1
    have hc0:(c=0)=False:=by simp;omega
    by_cases hck:c=k
    ·subst hck
     simp only[if_true] at R2
     rw[show n-c=0 by omega] at R2
     go_wp2_with (at_builtin;refine wpList_append_any _ rfl _ _ 43 rfl wd.heap.size 45 j0 (.agg #[.string ByteArray.empty,.string ByteArray.empty]) 2 32 Tryz.underlying43 hj0 hy0 hy1 hy2 rfl (by decide) (.slice none 0 0) 0 (flat recB2 ([])) rfl N0.out.own _ _ c _ (flat recB2 (l.take c)) rfl R1.out ?c1 (by unfold maxLen;omega) (by omega) (qL) ?_)
     case c1=>exact flatB_one _
     intro v1 w1 ho1 hg1 _
     have N1:Hid (NxB wd v1 c ([]++l.take c) w1):=qD (N0.out.next rfl (by omega) ho1 hg1)
     have BX1:=qD (BX.out.step N1.out.bel)
     clear ho1 hg1 q0 q1
     have q0:=BX1.out.cell 0
     have q1:=BX1.out.cell 1
     simp at q0 q1
     have hw1:=N1.out.bel.size
     go_wp2_with (at_builtin;refine wpList_append_any _ rfl _ _ 43 rfl wd.heap.size 45 j0 (.agg #[.string ByteArray.empty,.string ByteArray.empty]) 2 32 Tryz.underlying43 hj0 hy0 hy1 hy2 rfl (by decide) v1 c (flat recB2 ([]++l.take c)) rfl (N1.out.alloc _).own _ _ 1 _ (recB2 x) rfl ⟨rfl,fun _=>⟨_,rfl,Nat.lt_succ_self _,news_at _ _ _⟩⟩ ?c1 (by unfold maxLen;omega) (by omega) (le_alloc hw1 _) ?_)
     case c1=>exact recB2_one x
     intro v2 w2 ho2 hg2 _
     have N2:Hid (NxB wd v2 (c+1) ([]++l.take c++[x]) w2):=qD ((N1.out.alloc _).next (by simp[flat]) (by omega) ho2 hg2)
     clear ho2 hg2 q0 q1
     have hw2:=N2.out.bel.size
     go_wp2_with (at_builtin;refine wpList_append_any _ rfl _ _ 43 rfl wd.heap.size 45 j0 (.agg #[.string ByteArray.empty,.string ByteArray.empty]) 2 32 Tryz.underlying43 hj0 hy0 hy1 hy2 rfl (by decide) v2 (c+1) (flat recB2 ([]++l.take c++[x])) rfl N2.out.own _ _ 0 _ (flat recB2 (l.drop c)) rfl (R2.out.below N2.out.bel) ?c1 (by unfold maxLen;omega) (by omega) hw2 ?_)
     case c1=>exact flatB_one _
     intro v3 w3 ho3 hg3 _
     have N3:Hid (NxB wd v3 (c+1+0) ([]++l.take c++[x]++l.drop c) w3):=qD (N2.out.next rfl (by omega) ho3 hg3)
     clear ho3 hg3
     go_wp2_with fail
     go_ret
     exact N3.out.ins HAT.out HNO.out (by have:=HLN.out;omega) HB.out HBC.out
    ·rw[if_neg hck] at R2
     simp only[Option.map_some,addr_add,Nat.zero_add] at R2
     have hck':(c=k)=False:=by simp;omega
     go_wp2_with (at_builtin;refine wpList_append_any _ rfl _ _ 43 rfl wd.heap.size 45 j0 (.agg #[.string ByteArray.empty,.string ByteArray.empty]) 2 32 Tryz.underlying43 hj0 hy0 hy1 hy2 rfl (by decide) (.slice none 0 0) 0 (flat recB2 ([])) rfl N0.out.own _ _ k _ (flat recB2 (l.take k)) rfl R1.out ?c1 (by unfold maxLen;omega) (by omega) (qL) ?_)
     case c1=>exact flatB_one _
     intro v1 w1 ho1 hg1 _
     have N1:Hid (NxB wd v1 k ([]++l.take k) w1):=qD (N0.out.next rfl (by omega) ho1 hg1)
     have BX1:=qD (BX.out.step N1.out.bel)
     clear ho1 hg1 q0 q1
     have q0:=BX1.out.cell 0
     have q1:=BX1.out.cell 1
     simp at q0 q1
     have hw1:=N1.out.bel.size
     go_wp2_with (at_builtin;refine wpList_append_any _ rfl _ _ 43 rfl wd.heap.size 45 j0 (.agg #[.string ByteArray.empty,.string ByteArray.empty]) 2 32 Tryz.underlying43 hj0 hy0 hy1 hy2 rfl (by decide) v1 k (flat recB2 ([]++l.take k)) rfl (N1.out.alloc _).own _ _ 1 _ (recB2 x) rfl ⟨rfl,fun _=>⟨_,rfl,Nat.lt_succ_self _,news_at _ _ _⟩⟩ ?c1 (by unfold maxLen;omega) (by omega) (le_alloc hw1 _) ?_)
     case c1=>exact recB2_one x
     intro v2 w2 ho2 hg2 _
     have N2:Hid (NxB wd v2 (k+1) ([]++l.take k++[x]) w2):=qD ((N1.out.alloc _).next (by simp[flat]) (by omega) ho2 hg2)
     clear ho2 hg2 q0 q1
     have hw2:=N2.out.bel.size
     go_wp2_with (at_builtin;refine wpList_append_any _ rfl _ _ 43 rfl wd.heap.size 45 j0 (.agg #[.string ByteArray.empty,.string ByteArray.empty]) 2 32 Tryz.underlying43 hj0 hy0 hy1 hy2 rfl (by decide) v2 (k+1) (flat recB2 ([]++l.take k++[x])) rfl N2.out.own _ _ (n-k) _ (flat recB2 (l.drop k)) rfl (R2.out.below N2.out.bel) ?c1 (by unfold maxLen;omega) (by omega) hw2 ?_)
     case c1=>exact flatB_one _
     intro v3 w3 ho3 hg3 _
     have N3:Hid (NxB wd v3 (k+1+(n-k)) ([]++l.take k++[x]++l.drop k) w3):=qD (N2.out.next rfl (by omega) ho3 hg3)
     clear ho3 hg3
     go_wp2_with fail
     go_ret
     exact N3.out.ins HAT.out HNO.out (by have:=HLN.out;omega) HB.out HBC.out
theorem list_set_same{α:Type}{l:List α}{i:Nat}{v:α}(h:l[i]?=some v):l.set i v=l:=by
 apply List.ext_getElem?
 intro j
 rw[List.getElem?_set]
 split
 ·rename_i e
  subst e
  rw[h]
  have:=(List.getElem?_eq_some_iff.1 h).1
  simp[this]
 ·rfl
def RJoinOk(xs:List B2)(w:World)(e:Ending)(w':World):Prop:=
 ∃A m c,e=.returned (.slice A m c)∧SR 2 recB2 w' A m c (jAll ByteArray.empty xs)∧m≤xs.length∧Below w.heap.size w w'
theorem rjoined_any(Q:List B2)(base m:Nat)(v:Value)(w2:World)(h:w2.ownsRow base 45 2 v m (flat recB2 Q))(hn:Q.length=m)(hz:m≤4000000000):
 Calls Tryz.prog 33 #[v] w2 (RJoinOk Q w2):=by
 obtain⟨j0,hj0,hy0,hy1,hy2⟩:=info_parts info_pair
 have HQL:=qD hn
 obtain⟨A,c,rfl,hsr⟩:=SR.of_own recB2_length h hn
 have HSR:=qD hsr
 have mz:m≤4000000000:=hz
 clear h hn hz hsr
 go_enter Tryz.func33,Tryz.ntmps33
 go_upto_region 3 with fail
 go_loopw [3,4,5] (fun v3 v4 _ wr=>∃(i l:Nat),i≤m∧v4=.int .i64 i∧JnI w2 Q i l v3 wr) (fun _ v4 _ _=>m-(intOf v4).toNat)
 case atStart=>exact⟨0,0,Nat.zero_le _,rfl,own_nil _ _ _ _,Below.refl _ _,rfl⟩
 case round=>
  obtain⟨i,l,hi,rfl,hI⟩:=hrel
  have HI:=qD hI
  obtain⟨A3,c3,rfl,hlc⟩:=own_slice hI.own
  have HLM:Hid (l≤i):=by have:=jAll_len ByteArray.empty Q i;rw[hI.ln] at this;exact qD this
  clear hI
  by_cases hlt:i<m
  ·obtain⟨b,off,r,rfl,hb,hr,_,hrg⟩:=HSR.out.row hlt
   have HR:=qD hr
   have e0:=(HI.out.bel.cell (p:=⟨b,off+i*2,none⟩) hb).trans (hrg 0 _ rfl)
   have e1:=(HI.out.bel.cell (p:=⟨b,off+i*2+1,none⟩) hb).trans (hrg 1 _ rfl)
   have HC:Hid (∀wz,Below wr.heap.size wr wz→wz.cell? ⟨b,off+i*2,none⟩=some (.string r.1)∧wz.cell? ⟨b,off+i*2+1,none⟩=some (.string r.2)):=qD fun wz hbz=>by
    have hbb:b<wr.heap.size:=Nat.lt_of_lt_of_le hb HI.out.bel.size
    exact⟨(hbz.cell (p:=⟨b,off+i*2,none⟩) hbb).trans e0,(hbz.cell (p:=⟨b,off+i*2+1,none⟩) hbb).trans e1⟩
   have i0:(0:Int)≤(i:Int):=by omega
   have i1:(i:Int)<(m:Int):=by omega
   have lz:l≤4000000000:=by have:=HLM.out;omega
   have X0:∀kk:BW wr,kk.val.cell? ⟨b,off+i*2,none⟩=some (.string r.1):=fun kk=>kk.cell e0
   clear hr hrg
   rcases Nat.eq_zero_or_pos l with rfl|hl0
   ·go_upto_region 6 with fail
    clear e0 e1
    refine wp_region_bw (by kernel_rfl) (by kernel_rfl) ?_
    repeat(go_big_quiet_step (fail))
    refine wpQuiet_nil ?_
    rintro _ ⟨kw,rfl⟩
    obtain⟨e0,e1⟩:=HC.out _ kw.below
    clear X0 HC
    replace HI:=qD (HI.out.step kw.below)
    generalize kw.val=w5 at*
    go_wp2_with (at_builtin;refine wpList_append_any _ rfl _ _ 43 rfl w2.heap.size 45 j0 (.agg #[.string ByteArray.empty,.string ByteArray.empty]) 2 32 Tryz.underlying43 hj0 hy0 hy1 hy2 rfl (by decide) (.slice A3 0 c3) 0 (flat recB2 (jAll ByteArray.empty (Q.take i))) rfl (HI.out.own.alloc _) _ _ 1 _ (recB2 r) rfl ⟨rfl,fun _=>⟨_,rfl,Nat.lt_succ_self _,news_at _ _ _⟩⟩ (recB2_one _) (by unfold maxLen;omega) (by omega) (le_alloc HI.out.bel.size _) ?_)
    intro v' w6 hown hgr hat
    have HX:Hid (JnI w2 Q (i+1) (0+1) v' w6):=by
     have e:jAll ByteArray.empty (Q.take (i+1))=jAll ByteArray.empty (Q.take i)++[r]:=by
      rw[jAll_take HR.out]
      exact jstep_app (fun qq hq=>by
       have h0:=HI.out.ln
       have h1:=(List.getElem?_eq_some_iff.1 hq).1
       omega)
     refine⟨?_,(HI.out.bel.alloc HI.out.bel.size _).grown hgr (le_alloc HI.out.bel.size _) (own_ge HI.out.own),?_⟩
     ·rw[e,flat_snoc];exact hown
     ·rw[e,List.length_append,HI.out.ln];rfl
    clear hown hgr hat e0 e1
    go_wp2_with fail
    go_roundw
    case rel=>exact⟨i+1,0+1,by omega,by go_num,HX.out⟩
    case measure=>simp[intOf];omega
   ·obtain⟨l',rfl⟩:∃l',l=l'+1:=⟨l-1,by omega⟩
    obtain⟨g,c4,hA3,hg,hgl⟩:=own_some HI.out.own (by omega)
    injection hA3 with hA3 _ hc34
    subst hA3 hc34
    obtain⟨q,hq,hqc,hqf⟩:=HI.out.last
    have HQQ:=qD hq
    have Y0:∀kk:BW wr,kk.val.cell? ⟨g,l'*2+1,none⟩=some (.string q.2):=fun kk=>kk.cell hqc
    have l0:(0:Int)≤(l':Int):=by omega
    have l1:(l':Int)<(l':Int)+1:=by omega
    have l2:(0:Int)<(l':Int)+1:=by omega
    clear hq hqc hqf hl0
    go_upto_region 6 with fail
    clear e0 e1
    obtain⟨z1,hz1⟩:∃z,(q.2.toList==r.1.toList)=z:=⟨_,rfl⟩
    obtain⟨z2,hz2⟩:∃z,r.1.toList.isEmpty=z:=⟨_,rfl⟩
    rcases(show z1=false∨(z1=true∧z2=true)∨(z1=true∧z2=false) by clear hz1 hz2;revert z1 z2;decide) with rfl|⟨rfl,rfl⟩|⟨rfl,rfl⟩
    case' inl|inr.inl=>
     refine wp_region_bw (by kernel_rfl) (by kernel_rfl) ?_
     repeat(go_big_quiet_step (fail))
     refine wpQuiet_nil ?_
     rintro _ ⟨kw,rfl⟩
     obtain⟨e0,e1⟩:=HC.out _ kw.below
     clear X0 Y0 HC
     replace HI:=qD (HI.out.step kw.below)
     generalize kw.val=w5 at*
     have HNO:Hid (¬(q.2≠ByteArray.empty∧q.2=r.1)):=qD fun h=>by
      first
       | exact absurd ((same_list _ _).2 h.2) (by simpa using hz1)
       | exact h.1 (h.2.trans ((empty_list _).1 (List.isEmpty_iff.1 hz2)))
     clear hz1 hz2
     go_wp2_with (at_builtin;refine wpList_append_any _ rfl _ _ 43 rfl w2.heap.size 45 j0 (.agg #[.string ByteArray.empty,.string ByteArray.empty]) 2 32 Tryz.underlying43 hj0 hy0 hy1 hy2 rfl (by decide) (.slice (some ⟨g,0,none⟩) (l'+1) c3) (l'+1) (flat recB2 (jAll ByteArray.empty (Q.take i))) rfl (HI.out.own.alloc _) _ _ 1 _ (recB2 r) rfl ⟨rfl,fun _=>⟨_,rfl,Nat.lt_succ_self _,news_at _ _ _⟩⟩ (recB2_one _) (by unfold maxLen;omega) (by omega) (le_alloc HI.out.bel.size _) ?_)
     intro v' w6 hown hgr hat
     have HX:Hid (JnI w2 Q (i+1) ((l'+1)+1) v' w6):=by
      have e:jAll ByteArray.empty (Q.take (i+1))=jAll ByteArray.empty (Q.take i)++[r]:=by
       rw[jAll_take HR.out]
       exact jstep_app (fun qq hq=>by
        have h0:=HI.out.ln
        have h1:(jAll ByteArray.empty (Q.take i))[l']?=some q:=HQQ.out
        rw[h0,Nat.add_sub_cancel,h1] at hq
        obtain rfl:=Option.some.inj hq
        exact HNO.out)
      refine⟨?_,(HI.out.bel.alloc HI.out.bel.size _).grown hgr (le_alloc HI.out.bel.size _) (own_ge HI.out.own),?_⟩
      ·rw[e,flat_snoc];exact hown
      ·rw[e,List.length_append,HI.out.ln];rfl
     clear hown hgr hat e0 e1
     go_wp2_with fail
     go_roundw
     case rel=>exact⟨i+1,(l'+1)+1,by omega,by go_num,HX.out⟩
     case measure=>simp[intOf];omega
    ·refine wp_region_bw (by kernel_rfl) (by kernel_rfl) ?_
     repeat(go_big_quiet_step (fail))
     refine wpQuiet_nil ?_
     rintro _ ⟨kw,rfl⟩
     obtain⟨e0,e1⟩:=HC.out _ kw.below
     clear X0 Y0 HC
     replace HI:=qD (HI.out.step kw.below)
     generalize kw.val=w5 at*
     have HEQ:Hid (q.2≠ByteArray.empty∧q.2=r.1):=by
      have e:q.2=r.1:=(same_list _ _).1 (by simpa using hz1)
      refine qD ⟨fun k=>?_,e⟩
      rw[e] at k
      rw[k] at hz2
      exact absurd (List.isEmpty_iff.2 ((empty_list _).2 rfl)) (by rw[hz2];decide)
     clear hz1 hz2
     obtain⟨h1,h1f⟩:=ownB_cell HI.out.own (flat_get recB2_length HQQ.out (j:=0) (v:=.string q.1) rfl)
     obtain⟨h2,h2f⟩:=ownB_cell HI.out.own (flat_get recB2_length HQQ.out (j:=1) (v:=.string q.2) rfl)
     simp only[Nat.add_zero] at h1 h1f
     clear e0
     go_upto_region 7 with fail
     go_region
     all_goals
      go_wp2_with fail
      go_roundw
      case rel=>
       have e:jAll ByteArray.empty (Q.take (i+1))=(jAll ByteArray.empty (Q.take i)).set l' (q.1,r.2):=by
        rw[jAll_take HR.out]
        exact jstep_set HI.out.ln HQQ.out HEQ.out.1 HEQ.out.2
       refine⟨i+1,l'+1,by omega,by go_num,?_,?_,?_⟩
       ·rw[e,←flat_setB HQQ.out]
        have ho:=ownB_set (ownB_set HI.out.own (l'*2) (.string q.1)) (l'*2+1) (.string r.2)
        have h00:(flat recB2 (jAll ByteArray.empty (Q.take i)))[l'*2]?=some (.string q.1):=by simpa using flat_get recB2_length HQQ.out (j:=0) (v:=.string q.1) rfl
        rw[list_set_same h00] at ho
        exact ho
       ·exact(Below.setCell (p:=⟨g,l'*2+1,none⟩) (Below.setCell (p:=⟨g,l'*2,none⟩) HI.out.bel hg _) hg _).drew
       ·rw[e,List.length_set]
        exact HI.out.ln
      case measure=>simp[intOf];omega
  ·obtain rfl:i=m:=by omega
   have hq:Q.take i=Q:=List.take_of_length_le (by have:=HQL.out;omega)
   have HF:Hid (SR 2 recB2 wr A3 l c3 (jAll ByteArray.empty Q)):=by
    obtain⟨A',c',he,hs⟩:=SR.of_own recB2_length HI.out.own HI.out.ln
    injection he with h1 h2 h3
    subst h1 h3
    rw[hq] at hs
    exact qD hs
   go_wp2_with fail
   go_ret
   exact⟨A3,l,c3,rfl,HF.out,by have:=HLM.out;have:=HQL.out;omega,HI.out.bel⟩
theorem requal01_any(x y:Val)(c d:VC)(w:World)(h:RW w c x)(h':RW w d y):Calls Tryz.prog 29 #[c.val,d.val] w fun e w'=>e=.returned (.bool (cmpV x y==0))∧Below w.heap.size w w':=by
 have H:=qD h
 have H':=qD h'
 clear h h'
 go_enter Tryz.func29,Tryz.ntmps29
 go_wp2_with fail
 refine(rcmp_any x y c d _ ((H.out.alloc _).alloc _) ((H'.out.alloc _).alloc _)).mono ?_
 rintro e w1 ⟨rfl,hb⟩
 go_wp2_with fail
 go_ret
 exact⟨rfl,(((Below.refl _ _).alloc (qL) _).alloc (by simp) _).step' hb⟩
theorem vo_size{a:Cut}(h:VO a):(strOfNums (encV a.1)).size≤reach:=by
 have:=(allow_enc (vallow h.1)).2
 rw[strOfNums_size];unfold reach;omega
theorem keyLo_size{a:Cut}(h:VO a):(keyLo a).size≤reach:=by
 unfold keyLo
 split
 ·show 0≤reach
  exact Nat.zero_le _
 ·unfold endL
  split
  ·obtain⟨t,ht⟩:=h.after
   have e:=afterB_eq (strOfNums (encV a.1))
   rw[strN_str h.rng,ht] at e
   rw[ht]
   exact Nat.le_trans (afterB_size e) (vo_size h)
  ·exact vo_size h
theorem keyH_size(n:Int):(keyH n).1.size≤reach:=by
 show(strOfNums (hashL n)).size≤reach
 rw[strOfNums_size]
 unfold reach hashL
 simp[nums,numsTo_len]
def RRanOk(ha:Bool)(m:List (Cut×Cut))(L:List B2):Prop:=
 (ha=false∧∃l,AscR ltB l∧(∀y,y∈l↔y∈m.map keyP)∧L=jAll ByteArray.empty l)∨
  (ha=true∧L=[(ByteArray.empty,ByteArray.empty)]∧∃s∈m,cmpV s.1.1 s.2.1≠0)∨
  (ha=true∧(∀s∈m,cmpV s.1.1 s.2.1=0)∧∃l,AscR ltB l∧(∀y,y∈l↔y∈(m.map fun s=>hashV s.1.1).map keyH)∧L=jAll ByteArray.empty l)
theorem ran_same{ha:Bool}{S:Cut→Prop}{m:List (Cut×Cut)}{L L':List B2}(g:GoodS S)(h:IsNF S m)(h1:RanOk ha m L)(h2:RRanOk ha m L'):L=L':=by
 rcases h1 with⟨e,Z,hz,rfl⟩|⟨e,rfl,s,hs,hne⟩|⟨e,hall,Z,hz,rfl⟩
 ·rcases h2 with⟨_,l,ha,hm,rfl⟩|⟨e',_⟩|⟨e',_⟩
  ·rw[asc_same sord_B ha hm (fun _=>hz.1.mem_iff) (sorted_up hz) ((keys_asc g h).inj sord_B) rfl]
  ·rw[e] at e';cases e'
  ·rw[e] at e';cases e'
 ·rcases h2 with⟨e',_⟩|⟨_,rfl,_⟩|⟨_,hall,_⟩
  ·rw[e] at e';cases e'
  ·rfl
  ·exact absurd (hall s hs) hne
 ·rcases h2 with⟨e',_⟩|⟨_,rfl,s,hs,hne⟩|⟨_,_,l,ha,hm,rfl⟩
  ·rw[e] at e';cases e'
  ·exact absurd (hall s hs) hne
  ·rw[asc_same sord_B ha hm (fun _=>hz.1.mem_iff) (sorted_up hz) (hash_fix fun n hn=>by obtain⟨s,_,rfl⟩:=List.mem_map.1 hn;exact hash_in64 _) rfl]
structure RRI(xs:List B2)(w:World)(base:Nat)(v:Value)(m:Nat)(O:List B2)(i:Nat):Prop where
 own:w.ownsRow base 45 2 v m (flat recB2 O)
 ln:O.length=m
 le:m≤i
 nil:m=0→v=.slice none 0 0
 asc:AscR ltB O
 mem:∀y,y∈O↔y∈xs.take i
theorem RRI.step{xs:List B2}{w w':World}{base:Nat}{v:Value}{m:Nat}{O:List B2}{i:Nat}(h:RRI xs w base v m O i)(hb:Below w.heap.size w w'):RRI xs w' base v m O i:=⟨own_step h.own hb,h.ln,h.le,h.nil,h.asc,h.mem⟩
theorem RRI.next{xs:List B2}{w w':World}{base:Nat}{v v':Value}{m:Nat}{O out:List B2}{i:Nat}{x:B2}(h:RRI xs w base v m O i)(hx:xs[i]?=some x)(hf:∀a∈xs,∀b∈xs,a.1=b.1→a=b)(ho:w'.ownsRow base 45 2 v' out.length (flat recB2 out))(hi:InsR O x out)(hl:out.length≤O.length+1)(hne:out≠[]):RRI xs w' base v' out.length out (i+1):=by
 obtain⟨k,ha,he⟩:=hi
 have hxm:x∈xs:=List.mem_of_getElem? hx
 have hin:∀y∈O,y∈xs:=fun y hy=>List.mem_of_mem_take ((h.mem y).1 hy)
 obtain⟨h1,h2⟩:=ins_step sord_B ha h.asc (fun y hy e=>hf y (hin y hy) x hxm e) he
 refine⟨ho,rfl,by have:=h.ln;have:=h.le;omega,fun h0=>absurd (List.eq_nil_of_length_eq_zero h0) hne,h1,fun y=>?_⟩
 rw[h2 y,h.mem y,List.take_add_one,hx]
 simp
def RRangesOk(ha:Bool)(S:Cut→Prop)(w:World)(e:Ending)(w':World):Prop:=
 ∃A m c nf L,e=.returned (.slice A m c)∧IsNF S nf∧RRanOk ha nf L∧SR 2 recB2 w' A m c L∧m≤1000000000∧Below w.heap.size w w'
theorem rranges_any(p:PrT)(ha:Bool)(l:List ByteArray)(o:OC)(kb ko kn kc:Nat)(w:World)(hT:Tabs w)(hk0:0<kn)(hko:w.cell? ⟨kb,ko,none⟩=some (.slice o.A o.n o.c))(hl:ST w o.A o.n o.c l)(hw:WP w p)(hv:VPr p)(hz:p.sz≤300000000)(hG:GoodS (ofS l p).1):
 Calls Tryz.prog 10 #[.agg #[.slice (some ⟨kb,ko,none⟩) kn kc,.bool ha],aggPr p] w (RRangesOk ha (ofS l p).1 w):=by
 have HT:=qD hT
 have HGO:=qD hG
 have HZ:=qD hz
 have HO:Hid (∀wr,Below w.heap.size w wr→Calls Tryz.prog 26 #[aggPr p,.slice o.A o.n o.c] wr (ROf (ofS l p) p.sz wr)):=qD fun wr hb=>rof_any p _ _ _ l wr (hw.step hb) hv (hT.step hb) (hl.step hb) hz
 have hbw:=World.block_lt_of_cell? w _ hko
 have hbw:kb<w.heap.size:=hbw
 have n0b:((kn:Int)==0)=false:=by simp;omega
 have i1':(0:Int)<(kn:Int):=by omega
 have B0:Hid (Blk ((w.alloc (.cells #[.slice (some ⟨kb,ko,none⟩) kn kc,.bool ha] 24)).alloc (.cells (arrPr p) 38)) w.heap.size 24 #[.slice (some ⟨kb,ko,none⟩) kn kc,.bool ha]):=(Blk.new_at rfl).alloc _
 have B1:Hid (Blk ((w.alloc (.cells #[.slice (some ⟨kb,ko,none⟩) kn kc,.bool ha] 24)).alloc (.cells (arrPr p) 38)) (w.heap.size+1) 38 (arrPr p)):=Blk.new_at (by simp)
 have BE:Hid (Below w.heap.size w ((w.alloc (.cells #[.slice (some ⟨kb,ko,none⟩) kn kc,.bool ha] 24)).alloc (.cells (arrPr p) 38))):=((Below.refl _ _).alloc (qL) _).alloc (by simp) _
 clear hT hl hw hv hz hG
 go_enter Tryz.func10,Tryz.ntmps10
 go_upto_region 1 with fail
 change Code.wp _ _ _ _ ((w.alloc (.cells #[.slice (some ⟨kb,ko,none⟩) kn kc,.bool ha] 24)).alloc (.cells (arrPr p) 38))
 generalize ((w.alloc (.cells #[.slice (some ⟨kb,ko,none⟩) kn kc,.bool ha] 24)).alloc (.cells (arrPr p) 38))=wa at*
 have k0:=B0.out.cell 0
 have k1:=B0.out.cell 1
 simp at k0 k1
 go_upto_region 3 with fail
 have eko:=(BE.out.cell (p:=⟨kb,ko,none⟩) hbw).trans hko
 have lbk:kb<wa.heap.size:=Nat.lt_of_lt_of_le hbw BE.out.size
 have B:=qD ((Below.refl wa.heap.size wa).drewN 1)
 have KS:Hid (∀w',Below wa.heap.size wa w'→(fun w'=>(Instr.loadAt 38 (.pointer (some ⟨w.heap.size+1,0,none⟩))).run Tryz.prog w'=.ok (aggPr p) w'∧w'.cell? ⟨w.heap.size,0,none⟩=some (.slice (some ⟨kb,ko,none⟩) kn kc)∧w'.cell? ⟨kb,ko,none⟩=some (.slice o.A o.n o.c)) w'):=qD fun w' hb=>⟨load_pred (arrPr p) rfl _ _ (B1.out.step hb),(hb.cell (p:=⟨w.heap.size,0,none⟩) B0.out.lt).trans k0,(hb.cell (p:=⟨kb,ko,none⟩) lbk).trans eko⟩
 clear k0 k1 eko
 go_cut [5] (fun v5 wx=>∃(A3:Option Addr) (m3 c3:Nat) (ys:List PI) (nf:List (Cut×Cut)),v5=.slice A3 m3 c3∧ys.map ivP=nf.map ivOf∧IsNF (ofS l p).1 nf∧m3≤p.sz∧SI wx A3 m3 c3 ys∧Below wa.heap.size wa wx)
 case first=>
  refine wp_region_noPanic ?_
  refine wp_region_held_drew (S:=(fun w'=>(Instr.loadAt 38 (.pointer (some ⟨w.heap.size+1,0,none⟩))).run Tryz.prog w'=.ok (aggPr p) w'∧w'.cell? ⟨w.heap.size,0,none⟩=some (.slice (some ⟨kb,ko,none⟩) kn kc)∧w'.cell? ⟨kb,ko,none⟩=some (.slice o.A o.n o.c))) (by kernel_rfl) ?_ (fun hHeld=>?_)
  ·(try dsimp only);exact KS.out _ B.out
  refine rT (v:=aggPr p) 0 rfl ?_ ?_
  (skip)
  ·intro w' hSw;exact exec_load (p:=.pointer (some ⟨w.heap.size+1,0,none⟩)) rfl rfl hSw.1
  try go_frame
  refine rT (v:=?_) 1 rfl ?_ ?_
  rotate_left
  ·intro w' hSw;(try dsimp only at hSw);obtain⟨_,hSw1,hSw2⟩:=hSw;go_simp;(try with_reducible rfl)
  try go_frame
  refine rT (v:=?_) 2 rfl ?_ ?_
  rotate_left
  ·intro w' hSw;(try dsimp only at hSw);obtain⟨_,hSw1,hSw2⟩:=hSw;go_simp;(try with_reducible rfl)
  try go_frame
  refine rT (v:=?_) 3 rfl ?_ ?_
  rotate_left
  ·intro w' hSw;(try dsimp only at hSw);obtain⟨_,hSw1,hSw2⟩:=hSw;go_simp;(try with_reducible rfl)
  try go_frame
  refine rT (v:=?_) 4 rfl ?_ ?_
  rotate_left
  ·intro w' hSw;(try dsimp only at hSw);obtain⟨_,hSw1,hSw2⟩:=hSw;go_simp;(try with_reducible rfl)
  try go_frame
  refine rT (v:=?_) 5 rfl ?_ ?_
  rotate_left
  ·intro w' hSw;(try dsimp only at hSw);obtain⟨_,hSw1,hSw2⟩:=hSw;go_simp;(try with_reducible rfl)
  try go_frame
  refine rY 6 rfl fun K hK=>?_
  go_simp
  refine(HO.out _ (BE.out.step' B.out)).mono ?_
  rintro e3 w3 ⟨A3,m3,c3,ys,nf,rfl,hy,hnf,hmk,hsi,hb3⟩
  replace B:=qD (B.out.step' hb3)
  have HS3:=qD hsi
  have HY3:=qD hy
  have HN3:=qD hnf
  have HM3:=qD hmk
  clear hb3 hsi hy hnf hmk
  (try go_wp2_with fail)
  clear hHeld
  refine hK.out _ _ ?_ fun hHeld=>?_
  ·(try dsimp only);exact KS.out _ B.out
  clear hK K
  try go_frame
  refine rT (v:=?_) 7 rfl ?_ ?_
  rotate_left
  ·intro w' hSw;(try dsimp only at hSw);obtain⟨_,hSw1,hSw2⟩:=hSw;go_simp;(try with_reducible rfl)
  try go_frame
  refine rT (v:=?_) 8 rfl ?_ ?_
  rotate_left
  ·intro w' hSw;(try dsimp only at hSw);obtain⟨_,hSw1,hSw2⟩:=hSw;go_simp;(try with_reducible rfl)
  try go_frame
  refine rT (v:=?_) 9 rfl ?_ ?_
  rotate_left
  ·intro w' hSw;(try dsimp only at hSw);obtain⟨_,hSw1,hSw2⟩:=hSw;go_simp;(try with_reducible rfl)
  try go_frame
  refine rT (v:=?_) 10 rfl ?_ ?_
  rotate_left
  ·intro w' hSw;(try dsimp only at hSw);obtain⟨_,hSw1,hSw2⟩:=hSw;go_simp;(try with_reducible rfl)
  try go_frame
  refine rT (v:=?_) 11 rfl ?_ ?_
  rotate_left
  ·intro w' hSw;(try dsimp only at hSw);obtain⟨_,hSw1,hSw2⟩:=hSw;go_simp;(try with_reducible rfl)
  try go_frame
  refine rD ?_ _
  refine NoPanic.normal ?_
  clear hHeld
  all_goals
   go_wp2_with fail
   go_meet
   exact⟨A3,m3,c3,ys,nf,rfl,HY3.out,HN3.out,HM3.out,HS3.out,B.out⟩
 case rest=>
  obtain⟨A3,m3,c3,ys,nf,rfl,hy3,hn3,hm3,hs3,hb3'⟩:=hcut
  have HS3:=qD hs3
  have HY3:=qD hy3
  have HN3:=qD hn3
  have HM3:=qD hm3
  have C0:=qD (B0.out.step hb3')
  have CE:=qD (BE.out.step' hb3')
  have HLY:Hid (nf.length=m3):=by
   have h1:=congrArg List.length hy3
   simp only[List.length_map] at h1
   have:=hs3.sr.ln
   exact qD (by omega)
  clear KS B B0 B1 BE HO lbk hs3 hy3 hn3 hm3 hb3'
  generalize wc=w3 at*
  have hmz:m3≤300000000:=Nat.le_trans HM3.out HZ.out
  go_upto_region 6 with fail
  cases ha
  ·have HFX:Hid (∀a∈nf.map keyP,∀b∈nf.map keyP,a.1=b.1→a=b):=qD ((keys_asc HGO.out HN3.out).inj sord_B)
   go_loopw [7,8,9,10] (fun u7 u8 _ _ wr=>∃(i m:Nat) (O:List B2),i≤m3∧u8=.int .i64 i∧Blk wr w.heap.size 24 #[.slice (some ⟨kb,ko,none⟩) kn kc,.bool false]∧Below w3.heap.size w3 wr∧RRI (nf.map keyP) wr w3.heap.size u7 m O i) (fun _ u8 _ _ _=>m3-(intOf u8).toNat)
   case atStart=>exact⟨0,0,[],Nat.zero_le _,rfl,C0.out,Below.refl _ _,own_nil _ _ _ _,rfl,qL,fun _=>rfl,.nil,fun y=>by simp⟩
   case round=>
    obtain⟨i,m,O,hi,rfl,D0,DE,hI⟩:=hrel
    have HB:=qD (CE.out.step' DE)
    have HD0:=qD D0
    have HDE:=qD DE
    have HI:=qD hI
    clear hI
    by_cases hlt:i<m3
    ·obtain⟨y,hy⟩:∃y,ys[i]?=some y:=⟨_,List.getElem?_eq_getElem (by have:=HS3.out.sr.ln;omega)⟩
     obtain⟨s,hs,hys⟩:∃s,nf[i]?=some s∧ivP y=ivOf s:=by
      have h1:=congrArg (fun l=>l[i]?) HY3.out
      simp only[List.getElem?_map,hy,Option.map_some] at h1
      obtain⟨s,h2,h3⟩:=Option.map_eq_some_iff.1 h1.symm
      exact⟨s,h2,h3.symm⟩
     have HVO:=qD (HGO.out.nf HN3.out (List.mem_of_getElem? hs))
     have HXI:Hid ((nf.map keyP)[i]?=some (keyP s)):=by rw[Hid,List.getElem?_map,hs];rfl
     obtain⟨b,off,rfl,hb3,hat,hok⟩:=HS3.out.at (i:=i) (p:=y) hy
     obtain⟨⟨a0,a1,a2,a3,a4⟩,⟨b0,b1,b2,b3,b4⟩,b5,b6⟩:=hat.keep (DE.block b hb3)
     have HOK:=qD hok
     have HYS:=qD hys
     have i0:(0:Int)≤(i:Int):=by omega
     have i1:(i:Int)<(m3:Int):=by omega
     have k1:=HD0.out.cell 1
     simp at k1
     have HSP:=qD (rspan_nf y s wr (HOK.out.step HDE.out) HYS.out HVO.out.1 HVO.out.2.1)
     have HSO:Hid (∀q∈O,q.1.size≤reach):=qD fun q hq=>by
      obtain⟨t,ht,rfl⟩:=List.mem_map.1 (List.mem_of_mem_take ((HI.out.mem q).1 hq))
      exact keyLo_size (HGO.out.nf HN3.out ht).1
     clear hat hok DE D0 hs hys hy
     go_wp2_with fail
     refine HSP.out.mono ?_
     rintro e w4 ⟨rfl,hb⟩
     replace HD0:=qD (HD0.out.step hb)
     replace HDE:=qD (HDE.out.step' hb)
     replace HI:=qD (HI.out.step hb)
     clear hb HSP a0 a1 a2 a3 a4 b0 b1 b2 b3 b4 b5 b6 k1 HOK
     go_wp2_with fail
     refine(rinsert_any O (keyP s) u7 w3.heap.size m w4 HI.out.own HI.out.ln HDE.out.size (by have:=HI.out.le;omega) HSO.out HI.out.nil).mono ?_
     rintro e w5 ⟨v',out,rfl,hown,hins,hb,hlen,hne⟩
     have HN:=qD (HI.out.next HXI.out HFX.out hown hins hlen hne)
     replace HD0:=qD (HD0.out.step hb)
     replace HDE:=qD (HDE.out.step' hb)
     clear hown hins hb hlen hne HI
     go_wp2_with fail
     go_roundw
     case rel=>exact⟨i+1,_,_,by omega,by go_num,HD0.out,HDE.out,HN.out⟩
     case measure=>simp[intOf];omega
    ·obtain rfl:i=m3:=by omega
     have htk:(nf.map keyP).take i=nf.map keyP:=List.take_of_length_le (by rw[List.length_map];have:=HLY.out;omega)
     have HMM:Hid (∀y,y∈O↔y∈nf.map keyP):=qD fun y=>by rw[HI.out.mem y,htk]
     have hmi:=HI.out.le
     have hln:=HI.out.ln
     clear htk D0 DE
     go_wp2_with fail
     refine(rjoined_any O w3.heap.size m u7 wr HI.out.own HI.out.ln (by omega)).mono ?_
     rintro e w4 ⟨A9,m9,c9,rfl,hsr9,hm9,hb9⟩
     have HS9:=qD hsr9
     have HM9:Hid (m9≤1000000000):=qD (by omega)
     have HB9:Hid (Below w.heap.size w w4):=qD (HB.out.step' hb9)
     clear hsr9 hb9 hm9
     go_wp2_with fail
     go_ret
     exact⟨A9,m9,c9,nf,_,rfl,HN3.out,.inl ⟨rfl,O,HI.out.asc,HMM.out,rfl⟩,HS9.out,HM9.out,HB9.out⟩
  ·have HFX:Hid (∀a∈(nf.map fun s=>hashV s.1.1).map keyH,∀b∈(nf.map fun s=>hashV s.1.1).map keyH,a.1=b.1→a=b):=qD (hash_fix fun n hn=>by obtain⟨s,_,rfl⟩:=List.mem_map.1 hn;exact hash_in64 _)
   go_loopw [7,8,9,10] (fun u7 u8 _ _ wr=>∃(i m:Nat) (O:List B2),i≤m3∧u8=.int .i64 i∧Blk wr w.heap.size 24 #[.slice (some ⟨kb,ko,none⟩) kn kc,.bool true]∧Below w3.heap.size w3 wr∧RRI ((nf.map fun s=>hashV s.1.1).map keyH) wr w3.heap.size u7 m O i∧∀s∈nf.take i,cmpV s.1.1 s.2.1=0) (fun _ u8 _ _ _=>m3-(intOf u8).toNat)
   case atStart=>exact⟨0,0,[],Nat.zero_le _,rfl,C0.out,Below.refl _ _,⟨own_nil _ _ _ _,rfl,qL,fun _=>rfl,.nil,fun y=>by simp⟩,by simp⟩
   case round=>
    obtain⟨i,m,O,hi,rfl,D0,DE,hI,hall⟩:=hrel
    have HB:=qD (CE.out.step' DE)
    have HD0:=qD D0
    have HDE:=qD DE
    have HI:=qD hI
    have HALL:=qD hall
    clear hI hall
    by_cases hlt:i<m3
    ·obtain⟨y,hy⟩:∃y,ys[i]?=some y:=⟨_,List.getElem?_eq_getElem (by have:=HS3.out.sr.ln;omega)⟩
     obtain⟨s,hs,hys⟩:∃s,nf[i]?=some s∧ivP y=ivOf s:=by
      have h1:=congrArg (fun l=>l[i]?) HY3.out
      simp only[List.getElem?_map,hy,Option.map_some] at h1
      obtain⟨s,h2,h3⟩:=Option.map_eq_some_iff.1 h1.symm
      exact⟨s,h2,h3.symm⟩
     have HSS:=qD hs
     have HXI:Hid (((nf.map fun s=>hashV s.1.1).map keyH)[i]?=some (keyH (hashV s.1.1))):=by rw[Hid,List.getElem?_map,List.getElem?_map,hs];rfl
     obtain⟨b,off,rfl,hb3,hat,hok⟩:=HS3.out.at (i:=i) (p:=y) hy
     have HAT:=qD hat
     have HB3:=qD hb3
     obtain⟨⟨a0,a1,a2,a3,a4⟩,⟨b0,b1,b2,b3,b4⟩,b5,b6⟩:=hat.keep (DE.block b hb3)
     have HOK:=qD hok
     have hlo:y.1.1.2=s.1.1:=congrArg Iv.lo hys
     have hhi:y.1.2.2=s.2.1:=congrArg Iv.hi hys
     have HLO:=qD hlo
     obtain⟨q,hq⟩:∃q,q=(cmpV s.1.1 s.2.1==0):=⟨_,rfl⟩
     have HQ:=qD hq
     have K1:Hid (∀kk:BW wr,Calls Tryz.prog 29 #[y.1.1.1.val,y.1.2.1.val] kk.val fun e w''=>e=.returned (.bool q)∧∃kk:BW wr,w''=kk.val):=fun kk=>by
      have:=requal01_any y.1.1.2 y.1.2.2 y.1.1.1 y.1.2.1 kk.val ((hok.step DE).step kk.below).1 ((hok.step DE).step kk.below).2
      rw[hlo,hhi,←hq] at this
      exact Calls.bw this
     have i0:(0:Int)≤(i:Int):=by omega
     have i1:(i:Int)<(m3:Int):=by omega
     have k1:=HD0.out.cell 1
     simp at k1
     have HSO:Hid (∀q∈O,q.1.size≤reach):=qD fun q hq=>by
      obtain⟨t,ht,rfl⟩:=List.mem_map.1 (List.mem_of_mem_take ((HI.out.mem q).1 hq))
      exact keyH_size _
     have y0:∀kk:BW wr,kk.val.cell? ⟨b,off+i*12,none⟩=some (.int .i64 y.1.1.1.k):=fun kk=>kk.cell a0
     have y1:∀kk:BW wr,kk.val.cell? ⟨b,off+i*12+1,none⟩=some (.int .i64 y.1.1.1.n):=fun kk=>kk.cell a1
     have y2:∀kk:BW wr,kk.val.cell? ⟨b,off+i*12+2,none⟩=some (.string y.1.1.1.t):=fun kk=>kk.cell a2
     have y3:∀kk:BW wr,kk.val.cell? ⟨b,off+i*12+3,none⟩=some (.slice y.1.1.1.LA y.1.1.1.ln y.1.1.1.lc):=fun kk=>kk.cell a3
     have y4:∀kk:BW wr,kk.val.cell? ⟨b,off+i*12+4,none⟩=some (.slice y.1.1.1.DA y.1.1.1.dn y.1.1.1.dc):=fun kk=>kk.cell a4
     have z0:∀kk:BW wr,kk.val.cell? ⟨b,off+i*12+5,none⟩=some (.int .i64 y.1.2.1.k):=fun kk=>kk.cell b0
     have z1:∀kk:BW wr,kk.val.cell? ⟨b,off+i*12+5+1,none⟩=some (.int .i64 y.1.2.1.n):=fun kk=>kk.cell b1
     have z2:∀kk:BW wr,kk.val.cell? ⟨b,off+i*12+5+2,none⟩=some (.string y.1.2.1.t):=fun kk=>kk.cell b2
     have z3:∀kk:BW wr,kk.val.cell? ⟨b,off+i*12+5+3,none⟩=some (.slice y.1.2.1.LA y.1.2.1.ln y.1.2.1.lc):=fun kk=>kk.cell b3
     have z4:∀kk:BW wr,kk.val.cell? ⟨b,off+i*12+5+4,none⟩=some (.slice y.1.2.1.DA y.1.2.1.dn y.1.2.1.dc):=fun kk=>kk.cell b4
     clear hat hok D0 hs hys hy hlo hhi hq DE hb3
     go_upto_region 10 with fail
     clear a0 a1 a2 a3 a4 b0 b1 b2 b3 b4 b5 b6 k1
     refine wp_region_bw (by kernel_rfl) (by kernel_rfl) ?_
     repeat(go_big_quiet_step (with_reducible exact K1.out _))
     refine wpQuiet_nil ?_
     rintro _ ⟨kw,rfl⟩
     replace HD0:=qD (HD0.out.step kw.below)
     replace HDE:=qD (HDE.out.step' kw.below)
     replace HB:=qD (HB.out.step' kw.below)
     replace HI:=qD (HI.out.step kw.below)
     generalize kw.val=w4 at*
     clear y0 y1 y2 y3 y4 z0 z1 z2 z3 z4 K1
     cases q
     ·have HNE:Hid (∃s∈nf,cmpV s.1.1 s.2.1≠0):=qD ⟨s,List.mem_of_getElem? HSS.out,by have:=HQ.out;simpa using this.symm⟩
      go_wp2_with fail
      go_ret
      exact⟨_,1,1,nf,_,rfl,HN3.out,.inr (.inl ⟨rfl,rfl,HNE.out⟩),sr_oneB (q:=(ByteArray.empty,ByteArray.empty)) (Blk.new_at rfl),by decide,HB.out.alloc HB.out.size _⟩
     ·have HEZ:Hid (cmpV s.1.1 s.2.1=0):=by
       have:=HQ.out
       rw[Hid]
       simpa using this.symm
      have KH:=qD (rhash_any y.1.1.2 y.1.1.1 w4 (HOK.out.step HDE.out).1)
      rw[HLO.out] at KH
      obtain⟨hv,hhv⟩:∃hv,hv=hashV s.1.1:=⟨_,rfl⟩
      rw[←hhv] at KH HXI
      have KC:Hid (∀wz,Calls Tryz.prog 30 #[.agg #[.int .i64 3,.int .i64 hv,.string ByteArray.empty,.slice none 0 0,.slice none 0 0]] wz fun e w'=>e=.returned (.tuple #[.string (keyH hv).1,.int .i64 0])∧Below wz.heap.size wz w'):=qD fun wz=>by
       have:=rcode_any (intH s.1.1) (intC s.1.1) wz (rv_int s.1.1)
       rw[keyR_one_yes (vallow (vint s.1.1)),enc_hashL,←hhv] at this
       rw[hhv]
       rw[hhv] at this
       exact this
      obtain⟨th,hth⟩:=hash_after hv
      have KA:Hid (∀wz,Calls Tryz.prog 32 #[.string (keyH hv).1] wz fun e w'=>e=.returned (.string (keyH hv).2)∧Below wz.heap.size wz w'):=qD fun wz=>by
       have:=rafterS_any (hash_rng hv) hth (keyH_size hv) wz
       unfold keyH
       rw[hth]
       exact this
      obtain⟨⟨a0,a1,a2,a3,a4⟩,_,_,_⟩:=HAT.out.keep (HDE.out.block b HB3.out)
      clear hhv hth HQ
      obtain⟨kh,hkh⟩:∃kh,kh=keyH hv:=⟨_,rfl⟩
      rw[←hkh] at KC KA HXI
      clear hkh
      go_wp2_with fail
      refine KH.out.mono ?_
      rintro e w5 ⟨rfl,hb⟩
      replace HD0:=qD (HD0.out.step hb)
      replace HDE:=qD (HDE.out.step' hb)
      replace HI:=qD (HI.out.step hb)
      clear hb KH a0 a1 a2 a3 a4
      go_wp2_with fail
      refine(rint01_any hv w5).mono ?_
      rintro e w6 ⟨rfl,hb⟩
      replace HD0:=qD (HD0.out.step hb)
      replace HDE:=qD (HDE.out.step' hb)
      replace HI:=qD (HI.out.step hb)
      clear hb
      go_wp2_with fail
      refine(KC.out w6).mono ?_
      rintro e w7 ⟨rfl,hb⟩
      replace HD0:=qD (HD0.out.step hb)
      replace HDE:=qD (HDE.out.step' hb)
      replace HI:=qD (HI.out.step hb)
      clear hb KC
      go_wp2_with fail
      refine(KA.out w7).mono ?_
      rintro e w8 ⟨rfl,hb⟩
      replace HD0:=qD (HD0.out.step hb)
      replace HDE:=qD (HDE.out.step' hb)
      replace HI:=qD (HI.out.step hb)
      clear hb KA
      go_wp2_with fail
      refine(rinsert_any O kh u7 w3.heap.size m w8 HI.out.own HI.out.ln HDE.out.size (by have:=HI.out.le;omega) HSO.out HI.out.nil).mono ?_
      rintro e w9 ⟨v',out,rfl,hown,hins,hb,hlen,hne⟩
      have HN:=qD (HI.out.next HXI.out HFX.out hown hins hlen hne)
      replace HD0:=qD (HD0.out.step hb)
      replace HDE:=qD (HDE.out.step' hb)
      have HA2:Hid (∀t∈nf.take (i+1),cmpV t.1.1 t.2.1=0):=qD fun t ht=>by
       rw[List.take_add_one,HSS.out] at ht
       rcases List.mem_append.1 ht with ht|ht
       ·exact HALL.out t ht
       ·obtain rfl:t=s:=by simpa using ht
        exact HEZ.out
      clear hown hins hb hlen hne HI
      go_wp2_with fail
      go_roundw
      case rel=>exact⟨i+1,_,_,by omega,by go_num,HD0.out,HDE.out,HN.out,HA2.out⟩
      case measure=>simp[intOf];omega
    ·obtain rfl:i=m3:=by omega
     have htk:((nf.map fun s=>hashV s.1.1).map keyH).take i=(nf.map fun s=>hashV s.1.1).map keyH:=List.take_of_length_le (by rw[List.length_map,List.length_map];have:=HLY.out;omega)
     have HMM:Hid (∀y,y∈O↔y∈(nf.map fun s=>hashV s.1.1).map keyH):=qD fun y=>by rw[HI.out.mem y,htk]
     have hntk:nf.take i=nf:=List.take_of_length_le (by have:=HLY.out;omega)
     rw[hntk] at HALL
     have hmi:=HI.out.le
     have hln:=HI.out.ln
     clear htk D0 DE hntk
     go_wp2_with fail
     refine(rjoined_any O w3.heap.size m u7 wr HI.out.own HI.out.ln (by omega)).mono ?_
     rintro e w4 ⟨A9,m9,c9,rfl,hsr9,hm9,hb9⟩
     have HS9:=qD hsr9
     have HM9:Hid (m9≤1000000000):=qD (by omega)
     have HB9:Hid (Below w.heap.size w w4):=qD (HB.out.step' hb9)
     clear hsr9 hb9 hm9
     go_wp2_with fail
     go_ret
     exact⟨A9,m9,c9,nf,_,rfl,HN3.out,.inr (.inr ⟨rfl,HALL.out,O,HI.out.asc,HMM.out,rfl⟩),HS9.out,HM9.out,HB9.out⟩
theorem shardkeyRanges_walk(ks:List Od)(ha:Bool)(A:Option Addr)(n cc:Nat)(p:PrT)(w:World)(hT:Tabs w)(hk:KS w A n cc ks)(hp:WP w p)(hn:NumsP p):
 Calls Tryz.prog 3 #[.agg #[.slice A n cc,.bool ha],aggPr p] w fun e w'=>e=.returned (.bool true)∧Below w.heap.size w w':=by
 have HT:=qD hT
 have HN:=qD hk.ln
 have HK:=qD hk
 have HP:=qD hp
 have NP:=qD hn
 have hnz:(n:Int)≤8796093022208:=by obtain⟨os,h⟩:=hk;have:=h.sz;unfold reach at this;omega
 have I0:Hid (KpB w #[.slice A n cc,.bool ha] (arrPr p) ((w.alloc (.cells #[.slice A n cc,.bool ha] 24)).alloc (.cells (arrPr p) 38))):=KpB.start
 clear hk hp hT hn
 go_enter Tryz.func3,Tryz.ntmps3
 go_upto_region 1 with fail
 change Code.wp _ _ _ _ ((w.alloc (.cells #[.slice A n cc,.bool ha] 24)).alloc (.cells (arrPr p) 38))
 generalize ((w.alloc (.cells #[.slice A n cc,.bool ha] 24)).alloc (.cells (arrPr p) 38))=wa at*
 have k0:=I0.out.b0.cell 0
 have k1:=I0.out.b0.cell 1
 simp at k0 k1
 by_cases h20:20<n
 ·have h20':(20:Int)<(n:Int):=by omega
  go_wp2_with fail
  refine(awake48_any wa (HT.out.step I0.out.bel)).mono ?_
  rintro e w1 ⟨rfl,hb⟩
  have CE:=qD (I0.out.bel.step' hb)
  clear hb I0
  go_wp2_with fail
  go_ret
  exact⟨rfl,CE.out⟩
 have h20':¬((20:Int)<(n:Int)):=by omega
 have HV:=qD (rshardkey_any ks ha A n cc wa (HK.out.step I0.out.bel))
 by_cases hE:keyE ks ha=0
 rotate_left
 ·have hEb:(keyE ks ha != 0)=true:=by simpa using hE
  obtain⟨E,hEE⟩:∃E,keyE ks ha=E:=⟨_,rfl⟩
  rw[hEE] at HV hEb
  clear hE hEE
  go_wp2_with fail
  refine HV.out.mono ?_
  rintro e w1 ⟨rfl,hb⟩
  have CE:=qD (I0.out.bel.step' hb)
  clear hb I0 HV k0 k1
  go_wp2_with fail
  refine(awake48_any w1 (HT.out.step CE.out)).mono ?_
  rintro e w2 ⟨rfl,hb⟩
  have DE:=qD (CE.out.step' hb)
  clear hb CE
  go_wp2_with fail
  go_ret
  exact⟨rfl,DE.out⟩
 rw[hE] at HV
 have HKP:=qD (keyE_parts hE)
 clear hE
 go_wp2_with fail
 refine HV.out.mono ?_
 rintro e w1 ⟨rfl,hb⟩
 have I1:=qD (I0.out.step hb)
 clear hb HV I0 k0 k1
 have RF:=qD (pr_full I1.out.b1)
 go_wp2_with ((with_reducible show wpList _ _ _ (⟨_,.load 38 _,_,_,_,_⟩::_) _ _);refine wpList_mid_w rfl 38 _ rfl (w.heap.size+1) 0 rfl _ _ RF.out Tryz.underlying38 rfl (by kernel_rfl) ?_)
 refine(rpred_any p w1 (HP.out.step I1.out.bel) (HT.out.step I1.out.bel)).mono ?_
 rintro e w2 ⟨er,rfl,hv,hb⟩
 have I2:=qD (I1.out.step hb)
 have HV:=qD hv
 clear hb hv I1 RF
 by_cases he:er=0
 rotate_left
 ·have heb:(er != 0)=true:=by simpa using he
  clear he HV
  go_wp2_with fail
  refine(awake48_any w2 (HT.out.step I2.out.bel)).mono ?_
  rintro e w3 ⟨rfl,hb⟩
  have DE:=qD (I2.out.bel.step' hb)
  clear hb I2
  go_wp2_with fail
  go_ret
  exact⟨rfl,DE.out⟩
 subst he
 have VP:=qD (HV.out rfl)
 clear HV
 have hn0:0<n:=by have:=HKP.out.2.1;have:=HN.out;omega
 obtain⟨kb,ko,o,q,rfl,hko,hst,hq⟩:=HK.out.first hn0
 have HG:=qD (ofS_good q.p NP.out)
 have HZ:Hid (p.sz≤300000000):=qD (Nat.le_trans (sz_le HP.out) (by have:=VP.out.2;omega))
 have HR:Hid (∀wr,Below w.heap.size w wr→Calls Tryz.prog 9 #[.agg #[.slice (some ⟨kb,ko,none⟩) n cc,.bool ha],aggPr p] wr (RangesOk ha (ofS q.p p).1 wr)):=qD fun wr hb=>
  ranges_any p ha q.p o kb ko n cc wr (HT.out.step hb) hn0 ((hb.cell (p:=⟨kb,ko,none⟩) (World.block_lt_of_cell? w _ hko)).trans hko) (hst.step hb) (HP.out.step hb) VP.out.1 HZ.out HG.out
 have HQ:Hid (∀wr,Below w.heap.size w wr→Calls Tryz.prog 10 #[.agg #[.slice (some ⟨kb,ko,none⟩) n cc,.bool ha],aggPr p] wr (RRangesOk ha (ofS q.p p).1 wr)):=qD fun wr hb=>
  rranges_any p ha q.p o kb ko n cc wr (HT.out.step hb) hn0 ((hb.cell (p:=⟨kb,ko,none⟩) (World.block_lt_of_cell? w _ hko)).trans hko) (hst.step hb) (HP.out.step hb) VP.out.1 HZ.out HG.out
 clear hko hst hq
 have k0:=I2.out.b0.cell 0
 have k1:=I2.out.b0.cell 1
 simp at k0 k1
 go_upto_region 3 with fail
 have B:=qD ((Below.refl w2.heap.size w2).drewN 1)
 have KS:Hid (∀w',Below w2.heap.size w2 w'→(fun w'=>(Instr.loadAt 38 (.pointer (some ⟨w.heap.size+1,0,none⟩))).run Tryz.prog w'=.ok (aggPr p) w'∧w'.cell? ⟨w.heap.size,0,none⟩=some (.slice (some ⟨kb,ko,none⟩) n cc)∧w'.cell? ⟨w.heap.size,1,none⟩=some (.bool ha)) w'):=qD fun w' hb=>⟨load_pred (arrPr p) rfl _ _ (I2.out.b1.step hb),(hb.cell (p:=⟨w.heap.size,0,none⟩) I2.out.b0.lt).trans k0,(hb.cell (p:=⟨w.heap.size,1,none⟩) I2.out.b0.lt).trans k1⟩
 clear k0 k1
 go_cut [5,6] (fun v5 v6 wx=>∃(A3:Option Addr) (m3 c3:Nat) (A4:Option Addr) (m4 c4:Nat) (L:List B2),v5=.slice A3 m3 c3∧v6=.slice A4 m4 c4∧SR 2 recB2 wx A3 m3 c3 L∧SR 2 recB2 wx A4 m4 c4 L∧m3≤1000000000∧Below w2.heap.size w2 wx)
 case first=>
  refine wp_region_noPanic ?_
  refine wp_region_held_drew (S:=(fun w'=>(Instr.loadAt 38 (.pointer (some ⟨w.heap.size+1,0,none⟩))).run Tryz.prog w'=.ok (aggPr p) w'∧w'.cell? ⟨w.heap.size,0,none⟩=some (.slice (some ⟨kb,ko,none⟩) n cc)∧w'.cell? ⟨w.heap.size,1,none⟩=some (.bool ha))) (by kernel_rfl) ?_ (fun hHeld=>?_)
  ·(try dsimp only);exact KS.out _ B.out
  refine rT (v:=?_) 0 rfl ?_ ?_
  rotate_left
  ·intro w' hSw;(try dsimp only at hSw);obtain⟨_,hSw1,hSw2⟩:=hSw;go_simp;(try with_reducible rfl)
  try go_frame
  refine rT (v:=aggPr p) 1 rfl ?_ ?_
  (skip)
  ·intro w' hSw;exact exec_load (p:=.pointer (some ⟨w.heap.size+1,0,none⟩)) rfl rfl hSw.1
  try go_frame
  refine rT (v:=?_) 3 rfl ?_ ?_
  rotate_left
  ·intro w' hSw;(try dsimp only at hSw);obtain⟨_,hSw1,hSw2⟩:=hSw;go_simp;(try with_reducible rfl)
  try go_frame
  refine rT (v:=aggPr p) 4 rfl ?_ ?_
  (skip)
  ·intro w' hSw;exact exec_load (p:=.pointer (some ⟨w.heap.size+1,0,none⟩)) rfl rfl hSw.1
  try go_frame
  refine rY 2 rfl fun K hK=>?_
  go_simp
  refine(HR.out _ (I2.out.bel.step' B.out)).mono ?_
  rintro e3 w3 ⟨A3,m3,c3,nf,L,rfl,hnf,hran,hsr,hm3,hb3⟩
  replace B:=qD (B.out.step' hb3)
  have HS3:=qD hsr
  have HN3:=qD hnf
  have HRN:=qD hran
  have HM3:=qD hm3
  clear hb3 hsr hnf hran hm3
  (try go_wp2_with fail)
  clear hHeld
  refine hK.out _ _ ?_ fun hHeld=>?_
  ·(try dsimp only);exact KS.out _ B.out
  clear hK K
  try go_frame
  refine rY 5 rfl fun K hK=>?_
  go_simp
  refine(HQ.out _ (I2.out.bel.step' B.out)).mono ?_
  rintro e4 w4 ⟨A4,m4,c4,n4,L4,rfl,hnf,hran,hsr,hm4,hb4⟩
  replace HS3:=qD (HS3.out.step hb4)
  replace B:=qD (B.out.step' hb4)
  obtain rfl:nf=n4:=HN3.out.unique hnf fun _ _=>Iff.rfl
  obtain rfl:L=L4:=ran_same HG.out HN3.out HRN.out hran
  have HS4:=qD hsr
  clear hb4 hsr hnf hran hm4
  (try go_wp2_with fail)
  clear hHeld
  refine hK.out _ _ ?_ fun hHeld=>?_
  ·(try dsimp only);exact KS.out _ B.out
  clear hK K
  try go_frame
  refine rT (v:=?_) 6 rfl ?_ ?_
  rotate_left
  ·intro w' hSw;(try dsimp only at hSw);obtain⟨_,hSw1,hSw2⟩:=hSw;go_simp;(try with_reducible rfl)
  try go_frame
  refine rT (v:=?_) 7 rfl ?_ ?_
  rotate_left
  ·intro w' hSw;(try dsimp only at hSw);obtain⟨_,hSw1,hSw2⟩:=hSw;go_simp;(try with_reducible rfl)
  try go_frame
  refine rD ?_ _
  refine NoPanic.normal ?_
  clear hHeld
  all_goals
   go_wp2_with fail
   go_meet
   exact⟨A3,m3,c3,A4,m4,c4,L,rfl,rfl,HS3.out,HS4.out,HM3.out,B.out⟩
 case rest=>
  obtain⟨A3,m3,c3,A4,m4,c4,L,rfl,rfl,hs3,hs4,hm3,hb⟩:=hcut
  have I3:=qD (I2.out.bel.step' hb)
  have HS:=qD hs3
  have HS4:=qD hs4
  obtain rfl:m3=m4:=by rw[hs3.ln,hs4.ln]
  clear hb hs3 hs4 I2 KS B HR HQ
  generalize wc=w3 at*
  go_upto_region 7 with fail
  go_loopw [7] (fun v wr=>∃i:Nat,i≤m3∧v=.int .i64 i∧Below w3.heap.size w3 wr) (fun v _=>m3-(intOf v).toNat)
  case atStart=>exact⟨0,Nat.zero_le _,rfl,Below.refl _ _⟩
  case round=>
   obtain⟨i,hi,rfl,hbel⟩:=hrel
   have HB:=qD hbel
   clear hbel
   by_cases hlt:i<m3
   ·obtain⟨b,off,r,rfl,hb,hr,_,hrg⟩:=HS.out.row hlt
    obtain⟨b',off',r',rfl,hb',hr',_,hrg'⟩:=HS4.out.row hlt
    obtain rfl:r=r':=by have:=hr.symm.trans hr';simpa using this
    have e0:=(HB.out.cell (p:=⟨b,off+i*2,none⟩) hb).trans (hrg 0 _ rfl)
    have e1:=(HB.out.cell (p:=⟨b,off+i*2+1,none⟩) hb).trans (hrg 1 _ rfl)
    have f0:=(HB.out.cell (p:=⟨b',off'+i*2,none⟩) hb').trans (hrg' 0 _ rfl)
    have f1:=(HB.out.cell (p:=⟨b',off'+i*2+1,none⟩) hb').trans (hrg' 1 _ rfl)
    have X0:∀kk:BW wr,kk.val.cell? ⟨b,off+i*2,none⟩=some (.string r.1):=fun kk=>kk.cell e0
    have X1:∀kk:BW wr,kk.val.cell? ⟨b,off+i*2+1,none⟩=some (.string r.2):=fun kk=>kk.cell e1
    have Y0:∀kk:BW wr,kk.val.cell? ⟨b',off'+i*2,none⟩=some (.string r.1):=fun kk=>kk.cell f0
    have Y1:∀kk:BW wr,kk.val.cell? ⟨b',off'+i*2+1,none⟩=some (.string r.2):=fun kk=>kk.cell f1
    have i0:(0:Int)≤(i:Int):=by omega
    have i1:(i:Int)<(m3:Int):=by omega
    clear e0 e1 f0 f1 hrg hrg' hr hr' hb hb'
    go_upto_region 9 with fail
    refine wp_region_bw (by kernel_rfl) (by kernel_rfl) ?_
    have hEQ:=eqB_run r r
    rw[decide_eq_true rfl] at hEQ
    repeat(go_big_quiet_step (fail))
    go_big_quiet_want
    refine quietB_neq r r (z:=false) (by simp) rfl rfl rfl ?_
    go_frame
    go_big_quiet_on
    refine wpQuiet_nil ?_
    rintro _ ⟨kw,rfl⟩
    replace HB:=qD (HB.out.step' kw.below)
    generalize kw.val=w5 at*
    clear X0 X1 Y0 Y1 hEQ
    go_wp2_with fail
    go_roundw
    case rel=>exact⟨i+1,by omega,by go_num,HB.out⟩
    case measure=>simp[intOf];omega
   ·obtain rfl:i=m3:=by omega
    go_wp2_with fail
    refine(awake48_any wr (HT.out.step (I3.out.step' HB.out))).mono ?_
    rintro e w4 ⟨rfl,hb⟩
    have DE:=qD ((I3.out.step' HB.out).step' hb)
    clear hb
    go_wp2_with fail
    go_ret
    exact⟨rfl,DE.out⟩
open Go.ChangeShapes Go.WideShapes Go.ChangeAt Go.Joins Go.Deep
theorem bytes_string:Tryz.prog.bytesOf 9=16:=by kernel_rfl
section
variable {H:Type} {enc:TypeId×Value→H} {W:World} {base:Nat} {spare:Nat→Bool} {held:Bool}
theorem read_texts(n:Nat){v:Value}{y:DataW H×List MemPlace}(h:DataW.trod enc Tryz.prog W base spare held n 25 [v]=some y)(hw:Light 25 y.1):
 ∃(A:Option Addr) (n c:Nat) (xs:List ByteArray),v=.slice A n c∧ST W A n c xs:=by
 rcases DataW.trod_slice Tryz.underlying25 h with⟨hcs,_⟩|⟨a,len,cap,elems,rest,n',rfl,hcs,rfl,_,hlc,hcm,hel,hat,_,_⟩
 ·simp at hcs
  exact⟨none,0,0,[],hcs,⟨SR.nil,by show 0*16≤reach;decide,fun s hs=>by simp at hs⟩⟩
 ·simp at hcs
  subst hcs
  simp only[Light,DataW.weights,Tryz.underlying25,List.mem_cons,List.mem_append,bytes_string] at hw
  have hsz:len*16≤reach:=by
   have:=hw _ (.inl rfl)
   simp only[List.length_map,hel] at this
   have h2:len*16≤(len+rest.length)*16:=Nat.mul_le_mul_right _ (by omega)
   have:=le_reach
   omega
  have wl:=light_all (l:=elems.map (·.1)) (fun z hz=>hw z (.inr (.inl hz)))
  rcases Nat.eq_zero_or_pos len with h0|hp
  ·subst h0
   exact⟨some a,0,cap,[],rfl,⟨SR.nil,by show 0*16≤reach;decide,fun s hs=>by simp at hs⟩⟩
  have step:∀i,i<len→∃s:ByteArray,W.cells? base (a.add (i*1)) 1=some [.string s]∧s.size≤reach:=by
   intro i hi
   have h1:=hat i hi
   rw[cells_string,List.getElem?_eq_getElem (by omega)] at h1
   obtain⟨cs',hcs',ht'⟩:=Option.bind_eq_some_iff.1 h1
   have hwi:=wl _ (List.mem_map_of_mem (List.getElem_mem (l:=elems) (n:=i) (by omega)))
   generalize elems[i]=q at*
   obtain⟨s,e0,rfl,_⟩:=DataW.trod_string Tryz.underlying9 ht'
   subst e0
   refine⟨s,hcs',Nat.le_trans (hwi s.size ?_) le_reach⟩
   simp[DataW.weights]
  obtain⟨s0,h0,_⟩:=step 0 hp
  obtain⟨b,off,ha,_⟩:=cells_at h0 (by omega)
  have ha':a=⟨b,off,none⟩:=by simpa[Addr.add] using ha
  subst ha'
  obtain⟨f,hf⟩:=choose_fn (p:=fun i (s:ByteArray)=>W.cell? ⟨b,off+i,none⟩=some (.string s)∧s.size≤reach) ByteArray.empty len (fun i hi=>by
   obtain⟨s,hcs',hs⟩:=step i hi
   rw[addr_add] at hcs'
   obtain⟨b',off',ha',hc⟩:=cells_at hcs' (by omega)
   injection ha' with e1 e2
   subst e1 e2
   have:=hc 0 (by omega)
   rw[Nat.mul_one] at this
   exact⟨s,this,hs⟩)
  refine⟨_,len,cap,(List.range len).map f,rfl,⟨⟨by simp,hlc,fun _=>⟨b,off,rfl,World.block_lt_of_cell? W _ (hf 0 hp).1,fun i x hi j u hj=>?_⟩⟩,hsz,fun s hs=>?_⟩⟩
  ·have hlt:i<len:=by have:=(List.getElem?_eq_some_iff.1 hi).1;simpa using this
   rw[List.getElem?_map,List.getElem?_range hlt] at hi
   simp only[Option.map_some,Option.some.injEq] at hi
   subst hi
   have hj0:j=0:=by have:=(List.getElem?_eq_some_iff.1 hj).1;simpa[recT] using this
   subst hj0
   simp[recT] at hj
   subst hj
   rw[Nat.mul_one,Nat.add_zero]
   exact(hf i hlt).1
  ·obtain⟨i,hi,rfl⟩:=List.mem_map.1 hs
   exact(hf i (List.mem_range.1 hi)).2
end
theorem bytes_order:Tryz.prog.bytesOf 54=32:=by kernel_rfl
theorem cells_order:Tryz.prog.cellsOf 54=2:=by kernel_rfl
theorem cells_texts:Tryz.prog.cellsOf 25=1:=by kernel_rfl
theorem cells_bool:Tryz.prog.cellsOf 4=1:=by kernel_rfl
section
variable {H:Type} {enc:TypeId×Value→H} {W:World} {base:Nat} {spare:Nat→Bool} {held:Bool}
theorem read_orders(n:Nat){v:Value}{y:DataW H×List MemPlace}(h:DataW.trod enc Tryz.prog W base spare held n 22 [v]=some y)(hw:Light 22 y.1):
 ∃(A:Option Addr) (n c:Nat) (ks:List Od),v=.slice A n c∧KS W A n c ks:=by
 rcases DataW.trod_slice Tryz.underlying22 h with⟨hcs,_⟩|⟨a,len,cap,elems,rest,n',rfl,hcs,rfl,_,hlc,hcm,hel,hat,_,_⟩
 ·simp at hcs
  exact⟨none,0,0,[],hcs,KS.nil⟩
 ·simp at hcs
  subst hcs
  simp only[Light,DataW.weights,Tryz.underlying22,List.mem_cons,List.mem_append,bytes_order] at hw
  have hsz:len*32≤reach:=by
   have:=hw _ (.inl rfl)
   simp only[List.length_map,hel] at this
   have h2:len*32≤(len+rest.length)*32:=Nat.mul_le_mul_right _ (by omega)
   have:=le_reach
   omega
  have wl:=light_all (l:=elems.map (·.1)) (fun z hz=>hw z (.inr (.inl hz)))
  rcases Nat.eq_zero_or_pos len with h0|hp
  ·subst h0
   exact⟨some a,0,cap,[],rfl,KS.nil⟩
  have step:∀i,i<len→∃(o:OC) (q:Od),W.cells? base (a.add (i*2)) 2=some [.slice o.A o.n o.c,.bool o.d]∧OR W o q:=by
   intro i hi
   have h1:=hat i hi
   rw[cells_order,List.getElem?_eq_getElem (by omega)] at h1
   obtain⟨cs',hcs',ht'⟩:=Option.bind_eq_some_iff.1 h1
   have hwi:=wl _ (List.mem_map_of_mem (List.getElem_mem (l:=elems) (n:=i) (by omega)))
   generalize elems[i]=q at*
   obtain⟨ys,n'',rfl,rfl,hcl,hyl,hf⟩:=DataW.trod_struct Tryz.underlying54 ht'
   rw[cells_order] at hcl
   obtain⟨v0,v1,rfl⟩:=two hcl
   obtain⟨y0,y1,rfl⟩:=two hyl
   have f0:DataW.trod enc Tryz.prog W base spare held n'' 25 [v0]=some y0:=by simpa[cells_texts] using hf 0 _ rfl
   have f1:DataW.trod enc Tryz.prog W base spare held n'' 4 [v1]=some y1:=by simpa[cells_texts,cells_bool] using hf 1 _ rfl
   simp only[Light,DataW.weights,Tryz.underlying54,List.map,DataW.weightsEach,List.mem_append] at hwi
   obtain⟨A,m,c,xs,rfl,hx⟩:=read_texts n'' f0 (fun z hz=>hwi z (.inl hz))
   obtain⟨d,e1,rfl⟩:=DataW.trod_bool Tryz.underlying4 f1
   simp only[List.cons.injEq,and_true] at e1
   subst e1
   exact⟨⟨A,m,c,d⟩,⟨xs,d⟩,hcs',rfl,hx⟩
  obtain⟨o0,q0,h0,_⟩:=step 0 hp
  obtain⟨b,off,ha,_⟩:=cells_at h0 (by omega)
  have ha':a=⟨b,off,none⟩:=by simpa[Addr.add] using ha
  subst ha'
  obtain⟨f,hf⟩:=choose_fn (p:=fun i (z:OC×Od)=>W.cell? ⟨b,off+i*2,none⟩=some (.slice z.1.A z.1.n z.1.c)∧W.cell? ⟨b,off+i*2+1,none⟩=some (.bool z.1.d)∧OR W z.1 z.2) (o0,q0) len (fun i hi=>by
   obtain⟨o,q,hcs',ho⟩:=step i hi
   rw[addr_add] at hcs'
   obtain⟨b',off',ha',hc⟩:=cells_at hcs' (by omega)
   injection ha' with e1 e2
   subst e1 e2
   exact⟨(o,q),hc 0 (by omega),hc 1 (by omega),ho⟩)
  refine⟨_,len,cap,(List.range len).map fun i=>(f i).2,rfl,(List.range len).map (fun i=>(f i).1),⟨by simp,hlc,fun _=>⟨b,off,rfl,World.block_lt_of_cell? W _ (hf 0 hp).1,fun i x hi j u hj=>?_⟩⟩,hsz,by simp,fun i o q hi hq=>?_⟩
  ·have hlt:i<len:=by have:=(List.getElem?_eq_some_iff.1 hi).1;simpa using this
   rw[List.getElem?_map,List.getElem?_range hlt] at hi
   simp only[Option.map_some,Option.some.injEq] at hi
   subst hi
   have hj2:j<2:=by have:=(List.getElem?_eq_some_iff.1 hj).1;simpa[recO] using this
   rcases(show j=0∨j=1 by omega) with rfl|rfl
   ·simp[recO] at hj
    subst hj
    rw[Nat.add_zero]
    exact(hf i hlt).1
   ·simp[recO] at hj
    subst hj
    exact(hf i hlt).2.1
  ·have hlt:i<len:=by have:=(List.getElem?_eq_some_iff.1 hi).1;simpa using this
   rw[List.getElem?_map,List.getElem?_range hlt] at hi hq
   simp only[Option.map_some,Option.some.injEq] at hi hq
   subst hi hq
   exact(hf i hlt).2.2
theorem cells_orders:Tryz.prog.cellsOf 22=1:=by kernel_rfl
end
section
variable {H:Type} {enc:TypeId×Value→H} {W:World} {base:Nat} {spare:Nat→Bool} {held:Bool}
end
section
variable {H:Type} {enc:TypeId×Value→H} {W:World} {base:Nat} {spare:Nat→Bool} {held:Bool}
end
section
variable {H:Type} {enc:TypeId×Value→H} {W:World} {base:Nat} {spare:Nat→Bool} {held:Bool}
theorem cells_key2:Tryz.prog.cellsOf 24=2:=by kernel_rfl
theorem read_key(fuel:Nat)(cs:List Value)(y:DataW H×List MemPlace)(h:DataW.trod enc Tryz.prog W base spare held fuel 24 cs=some y)(hw:Light 24 y.1):
 ∃(A:Option Addr) (n c:Nat) (ha:Bool) (ks:List Od),cs=[.slice A n c,.bool ha]∧KS W A n c ks:=by
 obtain⟨ys,n2,rfl,rfl,hcl2,hyl2,hf2⟩:=DataW.trod_struct Tryz.underlying24 h
 rw[cells_key2] at hcl2
 obtain⟨v1,v2,rfl⟩:=two hcl2
 obtain⟨z0,z1,rfl⟩:=two hyl2
 have g0:DataW.trod enc Tryz.prog W base spare held n2 22 [v1]=some z0:=by simpa[cells_orders] using hf2 0 _ rfl
 have g1:DataW.trod enc Tryz.prog W base spare held n2 4 [v2]=some z1:=by simpa[cells_orders,cells_bool] using hf2 1 _ rfl
 simp only[Light,DataW.weights,Tryz.underlying24,List.map,DataW.weightsEach,List.mem_append] at hw
 obtain⟨A,n,c,ks,rfl,hk⟩:=read_orders n2 g0 (fun z hz=>hw z (.inl hz))
 obtain⟨ha,e3,rfl⟩:=DataW.trod_bool Tryz.underlying4 g1
 simp only[List.cons.injEq,and_true] at e3
 subst e3
 exact⟨A,n,c,ha,ks,rfl,hk⟩
theorem open_key{r:Reach}{b0:Nat}{v:Value}{d:DataW H}{p:List MemPlace}(hv:Value.okWide Tryz.prog W r b0 24 v)(h:DataW.Trod enc Tryz.prog W base spare held 24 v d p)(hw:Light 24 d):
 ∃(A:Option Addr) (n c:Nat) (ha:Bool) (ks:List Od),v=.agg #[.slice A n c,.bool ha]∧KS W A n c ks:=by
 obtain⟨cs,rfl,hsz⟩:=okWide_struct Tryz.underlying24 hv
 obtain⟨fuel,hf⟩:=h
 obtain⟨A,n,c,ha,ks,hc,h1⟩:=read_key fuel _ _ hf hw
 refine⟨A,n,c,ha,ks,?_,h1⟩
 obtain⟨l⟩:=cs
 simp only[Value.cells] at hc
 rw[show l=_ from hc]
end
theorem in64_wf{n:Int}(h:(Lit.int .i64 n).wf=true):In64 n:=by
 have h:(decide (IntKind.i64.min≤n)&&decide (n≤IntKind.i64.max))=true:=h
 simp only[Bool.and_eq_true,decide_eq_true_eq] at h
 exact h
section
variable {H:Type} {enc:TypeId×Value→H} {W:World} {base:Nat} {spare:Nat→Bool} {held:Bool}
def ReadsN(H:Type)(enc:TypeId×Value→H)(W:World)(base:Nat)(spare:Nat→Bool)(held:Bool)(n:Nat):Prop:=
 ∀(cs:List Value) (y:DataW H×List MemPlace),DataW.trod enc Tryz.prog W base spare held n 29 cs=some y→Light 29 y.1→∃c x,cs=c.list∧RW W c x∧NumsV x
theorem nread_list(n:Nat){v:Value}{y:DataW H×List MemPlace}(ih:∀n',n'<n→ReadsN H enc W base spare held n')(h:DataW.trod enc Tryz.prog W base spare held n 26 [v]=some y)(hw:Light 26 y.1):
 ∃(LA:Option Addr) (ln lc:Nat) (l:List Val),v=.slice LA ln lc∧ln=l.length∧ln≤lc∧ln*80≤reach∧(0<ln→∃b off,LA=some ⟨b,off,none⟩∧∀(i:Nat) (y:Val),l[i]?=some y→∃e,VAt W b (off+i*5) e∧RW W e y)∧∀y∈l,NumsV y:=by
 rcases DataW.trod_slice Tryz.underlying26 h with⟨hcs,_⟩|⟨a,len,cap,elems,rest,n',rfl,hcs,rfl,_,hlc,hcm,hel,hat,_,_⟩
 ·simp at hcs
  exact⟨none,0,0,[],hcs,rfl,qL,by decide,fun h=>absurd h (by omega),by simp⟩
 ·simp at hcs
  subst hcs
  simp only[Light,DataW.weights,Tryz.underlying26,List.mem_cons,List.mem_append,bytes_value] at hw
  have hsz:len*80≤reach:=by
   have:=hw _ (.inl rfl)
   simp only[List.length_map,hel] at this
   have h2:len*80≤(len+rest.length)*80:=Nat.mul_le_mul_right _ (by omega)
   have:=le_reach
   omega
  have wl:=light_all (l:=elems.map (·.1)) (fun z hz=>hw z (.inr (.inl hz)))
  rcases Nat.eq_zero_or_pos len with h0|hp
  ·exact⟨some a,len,cap,[],rfl,h0,hlc,hsz,fun h=>absurd h (by omega),by simp⟩
  have step:∀i,i<len→∃cs',W.cells? base (a.add (i*5)) 5=some cs'∧∃e x,cs'=VC.list e∧RW W e x∧NumsV x:=by
   intro i hi
   have h1:=hat i hi
   rw[cells_value,List.getElem?_eq_getElem (by omega)] at h1
   obtain⟨cs',hcs',ht'⟩:=Option.bind_eq_some_iff.1 h1
   exact⟨cs',hcs',ih n' (by omega) cs' _ ht' (wl _ (List.mem_map_of_mem (List.getElem_mem _)))⟩
  obtain⟨cs0,h0,_⟩:=step 0 hp
  obtain⟨b,off,ha,_⟩:=cells_at h0 (by omega)
  have ha':a=⟨b,off,none⟩:=by simpa[Addr.add] using ha
  subst ha'
  obtain⟨f,hf⟩:=choose_fn (p:=fun i x=>(∃e,VAt W b (off+i*5) e∧RW W e x)∧NumsV x) Val.zero len (fun i hi=>by
   obtain⟨cs',hcs',e,x,rfl,hx,hnx⟩:=step i hi
   rw[addr_add] at hcs'
   obtain⟨b',off',ha',hc⟩:=cells_at hcs' (by omega)
   injection ha' with e1 e2
   subst e1 e2
   exact⟨x,⟨e,⟨hc 0 (by omega),hc 1 (by omega),hc 2 (by omega),hc 3 (by omega),hc 4 (by omega)⟩,hx⟩,hnx⟩)
  refine⟨_,len,cap,(List.range len).map f,rfl,by simp,hlc,hsz,fun _=>⟨b,off,rfl,fun i y hi=>?_⟩,fun y hy=>(by obtain⟨i,hi,rfl⟩:=List.mem_map.1 hy;exact(hf i (List.mem_range.1 hi)).2)⟩
  have hlt:i<len:=by have:=(List.getElem?_eq_some_iff.1 hi).1;simpa using this
  rw[List.getElem?_map,List.getElem?_range hlt] at hi
  simp only[Option.map_some,Option.some.injEq] at hi
  subst hi
  exact(hf i hlt).1
theorem nread_doc(n:Nat){v:Value}{y:DataW H×List MemPlace}(ih:∀n',n'<n→ReadsN H enc W base spare held n')(h:DataW.trod enc Tryz.prog W base spare held n 27 [v]=some y)(hw:Light 27 y.1):
 ∃(DA:Option Addr) (dn dc:Nat) (d:List Fld),v=.slice DA dn dc∧dn=d.length∧dn≤dc∧dn*96≤reach0∧(0<dn→∃b off,DA=some ⟨b,off,none⟩∧∀(i:Nat) (f:Fld),d[i]?=some f→W.cell? ⟨b,off+i*6,none⟩=some (.string f.s)∧f.s.size≤reach∧∃e,VAt W b (off+i*6+1) e∧RW W e f.v)∧∀f∈d,NumsV f.v:=by
 rcases DataW.trod_slice Tryz.underlying27 h with⟨hcs,_⟩|⟨a,len,cap,elems,rest,n',rfl,hcs,rfl,_,hlc,hcm,hel,hat,_,_⟩
 ·simp at hcs
  exact⟨none,0,0,[],hcs,rfl,qL,by decide,fun h=>absurd h (by omega),by simp⟩
 ·simp at hcs
  subst hcs
  simp only[Light,DataW.weights,Tryz.underlying27,List.mem_cons,List.mem_append,bytes_field] at hw
  have hsz:len*96≤reach0:=by
   have:=hw _ (.inl rfl)
   simp only[List.length_map,hel] at this
   have h2:len*96≤(len+rest.length)*96:=Nat.mul_le_mul_right _ (by omega)
   omega
  have wl:=light_all (l:=elems.map (·.1)) (fun z hz=>hw z (.inr (.inl hz)))
  rcases Nat.eq_zero_or_pos len with h0|hp
  ·exact⟨some a,len,cap,[],rfl,h0,hlc,hsz,fun h=>absurd h (by omega),by simp⟩
  have step:∀i,i<len→∃cs',W.cells? base (a.add (i*6)) 6=some cs'∧∃(s:ByteArray) (e:VC) (x:Val),cs'=.string s::VC.list e∧s.size≤reach∧RW W e x∧NumsV x:=by
   intro i hi
   have h1:=hat i hi
   rw[cells_field,List.getElem?_eq_getElem (by omega)] at h1
   obtain⟨cs',hcs',ht'⟩:=Option.bind_eq_some_iff.1 h1
   have hwi:=wl _ (List.mem_map_of_mem (List.getElem_mem (l:=elems) (n:=i) (by omega)))
   generalize elems[i]=q at*
   obtain⟨ys,n'',rfl,rfl,hcl,hyl,hf⟩:=DataW.trod_struct Tryz.underlying59 ht'
   rw[cells_field] at hcl
   obtain⟨v0,v1,v2,v3,v4,v5,rfl⟩:=six hcl
   obtain⟨y0,y1,rfl⟩:=two hyl
   have f0:DataW.trod enc Tryz.prog W base spare held n'' 9 [v0]=some y0:=by simpa[cells_string] using hf 0 _ rfl
   have f1:DataW.trod enc Tryz.prog W base spare held n'' 29 [v1,v2,v3,v4,v5]=some y1:=by simpa[cells_value] using hf 1 _ rfl
   obtain⟨s,e0,rfl,_⟩:=DataW.trod_string Tryz.underlying9 f0
   simp only[List.cons.injEq,and_true] at e0
   subst e0
   simp only[Light,DataW.weights,Tryz.underlying59,List.map,DataW.weightsEach,List.mem_append] at hwi
   obtain⟨e,x,he,hx,hnx⟩:=ih n'' (by omega) _ _ f1 (fun z hz=>hwi z (.inr (.inl hz)))
   refine⟨_,hcs',s,e,x,by rw[he],Nat.le_trans (hwi s.size (.inl (by simp))) le_reach,hx,hnx⟩
  obtain⟨cs0,h0,_⟩:=step 0 hp
  obtain⟨b,off,ha,_⟩:=cells_at h0 (by omega)
  have ha':a=⟨b,off,none⟩:=by simpa[Addr.add] using ha
  subst ha'
  obtain⟨f,hf⟩:=choose_fn (p:=fun i (f:Fld)=>(W.cell? ⟨b,off+i*6,none⟩=some (.string f.s)∧f.s.size≤reach∧∃e,VAt W b (off+i*6+1) e∧RW W e f.v)∧NumsV f.v) (.mk ByteArray.empty Val.zero) len (fun i hi=>by
   obtain⟨cs',hcs',s,e,x,rfl,hs,hx,hnx⟩:=step i hi
   rw[addr_add] at hcs'
   obtain⟨b',off',ha',hc⟩:=cells_at hcs' (by omega)
   injection ha' with e1 e2
   subst e1 e2
   exact⟨.mk s x,⟨hc 0 (by omega),hs,e,⟨hc 1 (by omega),hc 2 (by omega),hc 3 (by omega),hc 4 (by omega),hc 5 (by omega)⟩,hx⟩,hnx⟩)
  refine⟨_,len,cap,(List.range len).map f,rfl,by simp,hlc,hsz,fun _=>⟨b,off,rfl,fun i y hi=>?_⟩,fun y hy=>(by obtain⟨i,hi,rfl⟩:=List.mem_map.1 hy;exact(hf i (List.mem_range.1 hi)).2)⟩
  have hlt:i<len:=by have:=(List.getElem?_eq_some_iff.1 hi).1;simpa using this
  rw[List.getElem?_map,List.getElem?_range hlt] at hi
  simp only[Option.map_some,Option.some.injEq] at hi
  subst hi
  exact(hf i hlt).1
theorem nread_value:∀(fuel:Nat) (cs:List Value) (y:DataW H×List MemPlace),DataW.trod enc Tryz.prog W base spare held fuel 29 cs=some y→Light 29 y.1→∃c x,cs=c.list∧RW W c x∧NumsV x:=by
 intro fuel
 induction fuel using Nat.strongRecOn with
 | _ fuel ih=>
 intro cs y h hw
 obtain⟨ys,n,rfl,rfl,hcl,hyl,hf⟩:=DataW.trod_struct Tryz.underlying29 h
 rw[cells_value] at hcl
 obtain⟨v0,v1,v2,v3,v4,rfl⟩:=five hcl
 obtain⟨y0,y1,y2,y3,y4,rfl⟩:=five hyl
 have f0:DataW.trod enc Tryz.prog W base spare held n 3 [v0]=some y0:=by simpa[cells_int] using hf 0 _ rfl
 have f1:DataW.trod enc Tryz.prog W base spare held n 3 [v1]=some y1:=by simpa[cells_int] using hf 1 _ rfl
 have f2:DataW.trod enc Tryz.prog W base spare held n 9 [v2]=some y2:=by simpa[cells_string] using hf 2 _ rfl
 have f3:DataW.trod enc Tryz.prog W base spare held n 26 [v3]=some y3:=by simpa[cells_list] using hf 3 _ rfl
 have f4:DataW.trod enc Tryz.prog W base spare held n 27 [v4]=some y4:=by simpa[cells_doc] using hf 4 _ rfl
 obtain⟨k,e0,rfl,_⟩:=DataW.trod_int Tryz.underlying3 f0
 obtain⟨m,e1,rfl,hm⟩:=DataW.trod_int Tryz.underlying3 f1
 obtain⟨t,e2,rfl,_⟩:=DataW.trod_string Tryz.underlying9 f2
 simp only[List.cons.injEq,and_true] at e0 e1 e2
 subst e0 e1 e2
 have hw':Light 9 (DataW.lit (H:=H) (.string t.data.toList))∧Light 26 y3.1∧Light 27 y4.1:=by
  simp only[Light,DataW.weights,Tryz.underlying29,List.map,DataW.weightsEach,List.mem_append] at hw
  refine⟨fun z hz=>hw z ?_,fun z hz=>hw z ?_,fun z hz=>hw z ?_⟩
  ·simp only[DataW.weights] at hz
   exact .inr (.inr (.inl hz))
  ·exact .inr (.inr (.inr (.inl hz)))
  ·exact .inr (.inr (.inr (.inr (.inl hz))))
 obtain⟨w2,w3,w4⟩:=hw'
 have htz:t.size≤reach:=Nat.le_trans (w2 t.size (by simp[DataW.weights])) le_reach
 obtain⟨LA,ln,lc,l,rfl,hl1,hl2,hl3,hl4,hl5⟩:=nread_list n (fun n' hn=>ih n' (by omega)) f3 w3
 obtain⟨DA,dn,dc,d,rfl,hd1,hd2,hd3,hd4,hd5⟩:=nread_doc n (fun n' hn=>ih n' (by omega)) f4 w4
 refine⟨⟨k,m,t,LA,ln,lc,DA,dn,dc⟩,.mk k m t l d,rfl,RVs.shut ⟨rfl,rfl,rfl,htz,hl1,hl2,hl3,fun hp=>?_,hd1,hd2,Nat.le_trans hd3 le_reach,fun hp=>?_⟩,(NumsV_iff _).2 ⟨in64_wf hm,hl5,hd5⟩⟩
 ·obtain⟨b,off,e,h⟩:=hl4 hp
  exact⟨b,off,e,Ft.top,h⟩
 ·obtain⟨b,off,e,h⟩:=hd4 hp
  exact⟨b,off,e,Ft.top,h⟩
end
end Go.Proofs.YtfkapannahcjiaaGreatDoor
