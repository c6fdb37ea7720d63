/- Parts of the proof, joined: ShEncR, ValTexts, ChLawA, MgIn, MgLoad, ChOpenA, MgOpen. -/
import Derived.Test.YtlicnjecnehaoaaGreatDoorRa1
import Derived.Test.YtlicnjecnehaoaaGreatDoorRa14
import Derived.Test.YtlicnjecnehaoaaGreatDoorRa16
import Derived.Test.YtlicnjecnehaoaaGreatDoorRa3
import Derived.Test.YtlicnjecnehaoaaGreatDoorRa15
import Derived.Test.YtlicnjecnehaoaaGreatDoorRa2
import Derived.Deep.RegionHeld3
set_option maxRecDepth 100000
set_option maxHeartbeats 16000000
set_option linter.unusedSimpArgs false
namespace Go.Proofs.YtlicnjecnehaoaaGreatDoor
open Go.RowKit
theorem rint01_any(n:Int)(w:World):Calls Tryz.prog 13 #[.int .i64 n] w fun e w'=>e=.returned (VC.val ⟨3,n,ByteArray.empty,none,0,0,none,0,0⟩)∧Below w.heap.size w w':=by
 go_enter Tryz.func13,Tryz.ntmps13
 go_wp2_with fail
 exact bodyPost_ret (results_val rfl _ _ _ rfl _ ⟨3,n,ByteArray.empty,none,0,0,none,0,0⟩ (VAt.of_blk (Blk.new _ _ _))) rfl ⟨rfl,(Below.refl _ _).alloc (qL) _⟩
noncomputable def rencR(ks:List Od)(ha:Bool)(x:Val):ByteArray×Int:=match valsR ks x with
 | none=>(ByteArray.empty,8)
 | some ys=>match ha,ys with
  | true,y::_=>keyR [intH y]
  | _,ys=>keyR ys
theorem rencR_none{ks:List Od}{ha:Bool}{x:Val}(h:valsR ks x=none):rencR ks ha x=(ByteArray.empty,8):=by rw[rencR,h]
theorem rencR_no{ks:List Od}{x:Val}{ys:List Val}(h:valsR ks x=some ys):rencR ks false x=keyR ys:=by rw[rencR,h]
theorem rencR_nil{ks:List Od}{ha:Bool}{x:Val}(h:valsR ks x=some []):rencR ks ha x=keyR []:=by rw[rencR,h];cases ha<;>rfl
theorem rencR_yes{ks:List Od}{x:Val}{y:Val}{ys:List Val}(h:valsR ks x=some (y::ys)):rencR ks true x=keyR [intH y]:=by rw[rencR,h]
theorem valsAt_len{x:Val}:∀{ks:List Od} {ys:List Val},valsAt x ks=some ys→ys.length=ks.length
 | [],ys,h=>by rw[valsAt] at h;cases h;rfl
 | q::r,ys,h=>by
  rw[valsAt] at h
  split at h
  ·cases h
  ·rename_i y hy
   obtain⟨zs,hz,rfl⟩:=Option.map_eq_some_iff.1 h
   rw[List.length_cons,valsAt_len hz,List.length_cons]
theorem valsR_at{ks:List Od}{x:Val}{ys:List Val}(h:valsR ks x=some ys):x.k=5∧validV x=true∧valsAt x ks=some ys:=by
 unfold valsR at h
 split at h
 ·rename_i h1
  exact⟨h1.1,h1.2,h⟩
 ·cases h
theorem valsR_len{ks:List Od}{x:Val}{ys:List Val}(h:valsR ks x=some ys):ys.length=ks.length:=valsAt_len (valsR_at h).2.2
theorem enc_same{ks:List Od}{ha:Bool}{x:Val}(hk:ha=true→ks.length=1):rencR ks ha x=encR ks ha x:=by
 cases h:valsR ks x with
 | none=>rw[rencR_none h,encR_none h]
 | some ys=>
  rw[encR_some h]
  have hl:=valsR_len h
  cases ha
  ·rw[rencR_no h];rfl
  ·have:=hk rfl
   match ys,hl,h with
   | [],hl,h=>simp at hl;omega
   | [y],_,h=>rw[rencR_yes h];rfl
   | _::_::_,hl,h=>simp at hl;omega
structure UpI(w:World)(v:Value)(i:Nat)(wr:World):Prop where
 own:wr.ownsRow w.heap.size 4 1 v i (flat recX (List.replicate i false))
 bel:Below w.heap.size w wr
theorem UpI.next{w wr w':World}{v v':Value}{i m:Nat}(h:UpI w v i wr)(hm:m=i+1)(ho:w'.ownsRow w.heap.size 4 1 v' m (flat recX (List.replicate i false)++recX false))(hg:wr.grownBy w' v.ownBlock):UpI w v' (i+1) w':=by
 subst hm
 refine⟨?_,h.bel.grown hg h.bel.size (own_ge h.own)⟩
 rw[←flat_snoc] at ho
 rw[List.replicate_succ']
 exact ho
theorem UpI.sr{w wr:World}{v:Value}{i:Nat}(h:UpI w v i wr):∃A c,v=.slice A i c∧SR 1 recX wr A i c (List.replicate i false):=by
 obtain⟨A,c,hv,hle⟩:=own_slice h.own
 subst hv
 refine⟨A,c,rfl,by simp,hle,fun hn=>?_⟩
 obtain⟨g,cap,hv,_,hlt⟩:=h.own.form hn
 have hA:A=some ⟨g,0,none⟩:=by injection hv
 subst hA
 refine⟨g,0,rfl,hlt,fun k a hk j u hj=>?_⟩
 have:=h.own.cells (g:=g) rfl (k*1+j) u (flat_get (fun _=>rfl:∀b,(recX b).length=1) hk hj)
 rw[addr_add] at this
 rw[show 0+k*1+j=0+(k*1+j) by omega]
 exact this
theorem recX_one(b:Bool):∀u∈recX b,u.oneCell'=true:=by simp[recX,Value.oneCell']
theorem rsenc_any(ks:List Od)(ha:Bool)(A:Option Addr)(n cc:Nat)(x:Val)(c:VC)(w:World)(hk:KS w A n cc ks)(hx:RW w c x)(h8:ks.length≤8):
 Calls Tryz.prog 59 #[.agg #[.slice A n cc,.bool ha],c.val] w fun e w'=>e=.returned (.tuple #[.string (rencR ks ha x).1,.int .i64 (rencR ks ha x).2])∧Below w.heap.size w w':=by
 have HN:=qD hk.ln
 have HX:=qD hx
 have HK:=qD hk
 have I0:Hid (VlI w #[.slice A n cc,.bool ha] c (.slice none 0 0) [] ((w.alloc (.cells #[.slice A n cc,.bool ha] 24)).alloc (.cells c.arr 45))):=VlI.start
 clear hk hx
 go_enter Tryz.func59,Tryz.ntmps59
 go_upto_region 1 with fail
 change Code.wp _ _ _ _ ((w.alloc (.cells #[.slice A n cc,.bool ha] 24)).alloc (.cells c.arr 45))
 generalize ((w.alloc (.cells #[.slice A n cc,.bool ha] 24)).alloc (.cells c.arr 45))=wa at*
 have B0:=qD I0.out.b0
 have B1:=qD I0.out.b1
 have BE:=qD I0.out.vs.bel
 clear I0
 obtain⟨a0,a1,a2,a3,a4⟩:=VAt.of_blk B1.out
 simp only[Nat.zero_add] at a0 a1 a2 a3 a4
 have k0:=B0.out.cell 0
 have k1:=B0.out.cell 1
 simp at k0 k1
 have HVS:=qD (rvalues_any ks ha A n cc x c wa (HK.out.step BE.out) (HX.out.step BE.out) h8)
 go_wp2_with fail
 refine HVS.out.mono ?_
 rintro e w1 ⟨v,rfl,hys,hb⟩
 have HYS:=qD hys
 have C0:=qD (B0.out.step hb)
 have CE:=qD (BE.out.step' hb)
 clear hys hb HVS a0 a1 a2 a3 a4 k0 k1 B0 B1 BE
 cases hv:valsR ks x with
 | none=>
  have HV:Hid (rencR ks ha x=(ByteArray.empty,8)):=rencR_none hv
  clear hv
  go_wp2_with fail
  go_ret2
  exact⟨by rw[HV.out];rfl,CE.out⟩
 | some ys=>
  obtain⟨ps,A1,m,c1,hps,rfl,hsl⟩:=HYS.out ys hv
  have HSL:=qD hsl
  have HPS:=qD hps
  have HV:=qD hv
  have hm:m=ps.length:=hsl.sr.ln
  have hmk:m=ks.length:=by rw[hm,←valsR_len hv,←hps,List.length_map]
  have hm8:m≤8:=by omega
  have HM:=qD hm
  clear hsl hps hv hm hmk HYS
  have k1:=C0.out.cell 1
  simp at k1
  by_cases hh:ha=true∧0<m
  ·obtain⟨rfl,h0⟩:=hh
   obtain⟨p,hp⟩:∃p,ps[0]?=some p:=⟨_,List.getElem?_eq_getElem (by have:=HM.out;omega)⟩
   obtain⟨b,off,hA,_,hat,hrv⟩:=HSL.out.vat hp
   subst hA
   have HRV:=qD hrv
   have HVE:Hid (rencR ks true x=keyR [intH p.2]):=by
    obtain⟨r,hr⟩:∃r,ps=p::r:=by
     cases ps with
     | nil=>simp at hp
     | cons q r=>simp at hp;subst hp;exact⟨r,rfl⟩
    refine rencR_yes (ys:=r.map Prod.snd) ?_
    rw[HV.out,←HPS.out,hr]
    rfl
   rw[Nat.zero_mul,Nat.add_zero] at hat
   obtain⟨q0,q1,q2,q3,q4⟩:=hat
   clear hp hrv
   have i1':(0:Int)<(m:Int):=by omega
   go_upto_region 5 with fail
   have HHA:=qD (rhash_any p.2 p.1 w1 HRV.out)
   go_wp2_with fail
   refine HHA.out.mono ?_
   rintro e w2 ⟨rfl,hb⟩
   have CE2:=qD (CE.out.step' hb)
   clear hb HHA q0 q1 q2 q3 q4 CE
   obtain⟨hh,hhe⟩:∃h,hashV p.2=h:=⟨_,rfl⟩
   rw[hhe]
   have HHE:=qD hhe
   clear hhe
   go_wp2_with fail
   refine(rint01_any _ _).mono ?_
   rintro e w3 ⟨rfl,hb⟩
   have CE3:=qD (CE2.out.step' hb)
   clear hb CE2
   have hrc:=rcode_any (intH p.2) ⟨3,hh,ByteArray.empty,none,0,0,none,0,0⟩ w3 (by rw[←HHE.out];exact rv_int p.2)
   rw[←HVE.out] at hrc
   obtain⟨⟨K1,K2⟩,hK⟩:∃K,rencR ks true x=K:=⟨_,rfl⟩
   rw[hK] at hrc
   have HRC:=qD hrc
   have HKK:=qD hK
   clear hK hrc
   go_wp2_with fail
   refine HRC.out.mono ?_
   rintro e w4 ⟨rfl,hb⟩
   have CE4:=qD (CE3.out.step' hb)
   clear hb CE3 HRC
   go_wp2_with fail
   go_ret2
   exact⟨by rw[HKK.out];rfl,CE4.out⟩
  ·have HVE:Hid (rencR ks ha x=keyR (ps.map Prod.snd)):=by
    rcases Nat.eq_zero_or_pos m with h0|h0
    ·have:ps=[]:=List.eq_nil_of_length_eq_zero (by have:=HM.out;omega)
     subst this
     refine rencR_nil ?_
     rw[HV.out,←HPS.out]
     rfl
    ·have:ha=false:=by
      cases ha
      ·rfl
      ·exact absurd ⟨rfl,h0⟩ hh
     subst this
     refine rencR_no ?_
     rw[HV.out,←HPS.out]
   obtain⟨j0,hj0,hz0,hz1,hz2⟩:=info_parts kinfo_bool
   have U0:Hid (UpI w1 (.slice none 0 0) 0 w1):=⟨own_nil _ _ _ _,Below.refl _ _⟩
   have hz:ha=true→¬(0<m):=fun e h=>hh ⟨e,h⟩
   obtain⟨⟨K1,K2⟩,hK⟩:∃K,rencR ks ha x=K:=⟨_,rfl⟩
   have HKK:=qD hK
   have HVK:Hid (keyR (ps.map Prod.snd)=(K1,K2)):=by have h:=HVE.out;rw[hK] at h;exact h.symm
   clear hh hK HVE
   have hgo:ha=false∨(ha=true∧¬(0<m)∧¬((0:Int)<(m:Int))):=by
    cases ha
    ·exact .inl rfl
    ·have:=hz rfl
     exact .inr ⟨rfl,this,by omega⟩
   clear hz
   rcases hgo with rfl|⟨rfl,hn0,hn1⟩
   all_goals
    go_upto_region 8 with fail
    (try clear hn0 hn1)
    go_loopw [8,9] (fun u8 u9 wr=>∃i:Nat,i≤m∧u9=.int .i64 i∧UpI w1 u8 i wr) (fun _ u9 _=>m-(intOf u9).toNat)
    case atStart=>exact⟨0,Nat.zero_le _,rfl,U0.out⟩
    case round=>
     obtain⟨i,hi,rfl,J⟩:=hrel
     have J2:=qD J
     by_cases hlt:i<m
     ·have i1':(i:Int)<(m:Int):=by omega
      have LK:Hid (UpI w1 u8 i (wr.alloc (.cells #[.bool false] 4))):=⟨own_step J.own ((Below.refl wr.heap.size wr).alloc (qL) _),J.bel.alloc J.bel.size _⟩
      have hlw:w1.heap.size≤wr.heap.size:=J.bel.size
      clear J
      go_wp2_with (at_builtin;refine wpList_append_any _ rfl _ _ 136 rfl w1.heap.size 4 j0 (.bool false) 1 1 Tryz.underlying136 hj0 hz0 hz1 hz2 rfl (by decide) u8 i (flat recX (List.replicate i false)) rfl LK.out.own _ _ 1 _ (recX false) rfl ⟨rfl,fun _=>⟨_,rfl,Nat.lt_succ_self _,news_at _ _ _⟩⟩ (recX_one _) (by unfold maxLen;omega) (by omega) (alloc_le hlw _) ?_)
      intro v' w6 hown hgr hat
      have HI:=qD (LK.out.next rfl hown hgr)
      clear hown hgr hat LK
      go_wp2_with fail
      go_roundw
      case rel=>exact⟨i+1,hlt,by go_num,HI.out⟩
      case measure=>simp[intOf];omega
     ·obtain rfl:i=m:=by omega
      obtain⟨B1,d1,rfl,hsr⟩:=J.sr
      have hec:=rencode_any ps A1 B1 i c1 d1 wr (HSL.out.step J.bel) hsr (by omega)
      rw[HVK.out] at hec
      have HRC:=qD hec
      clear hec J
      go_wp2_with fail
      refine HRC.out.mono ?_
      rintro e w4 ⟨rfl,hb⟩
      have CE4:=qD ((CE.out.step' J2.out.bel).step' hb)
      clear hb HRC
      go_wp2_with fail
      go_ret2
      exact⟨by rw[HKK.out];rfl,CE4.out⟩
theorem rints_any(x y:Int)(w:World):Calls Tryz.prog 101 #[.int .i64 x,.int .i64 y] w fun e w'=>e=.returned (.int .i64 (cmpI x y))∧w'=w:=by
 go_enter Tryz.func101,Tryz.ntmps101
 go_wp2
 all_goals (go_ret;refine⟨?_,rfl⟩;unfold cmpI Lib.compareInt;(repeat' split)<;>first|rfl|(exfalso;omega))
theorem bytes_drop(a:ByteArray)(i:Nat)(h:i<a.size):a.data.toList.drop i=a[i]::a.data.toList.drop (i+1):=by
 rw[List.drop_eq_getElem_cons (by simpa using h)]
 rfl
theorem cmpBy_end{l m:List UInt8}{i:Nat}(h1:i≤l.length)(h2:i≤m.length)(h:l.length≤i∨m.length≤i):Lib.compareBytes (l.drop i) (m.drop i)=cmpI (l.length:Int) (m.length:Int):=by
 rw[cmpI_nat]
 by_cases hl:l.length≤i
 ·rw[List.drop_of_length_le hl]
  by_cases hm:m.length≤i
  ·rw[List.drop_of_length_le hm,if_neg (by omega),if_neg (by omega)];rfl
  ·rw[List.drop_eq_getElem_cons (by omega:i<m.length),if_pos (by omega)];rfl
 ·have hm:m.length≤i:=by omega
  rw[List.drop_of_length_le hm,List.drop_eq_getElem_cons (by omega:i<l.length),if_neg (by omega),if_pos (by omega)];rfl
theorem cmpBy_at(a b:UInt8)(l m:List UInt8):Lib.compareBytes (a::l) (b::m)=if(a.toNat:Int)=(b.toNat:Int) then Lib.compareBytes l m else cmpI (a.toNat:Int) (b.toNat:Int):=by
 rw[Lib.compareBytes]
 unfold cmpI Lib.compareInt
 have e1:a<b↔a.toNat<b.toNat:=UInt8.lt_iff_toNat_lt
 have e2:b<a↔b.toNat<a.toNat:=UInt8.lt_iff_toNat_lt
 rcases Nat.lt_trichotomy a.toNat b.toNat with h|h|h
 ·rw[if_pos (e1.2 h),if_neg (by omega),if_pos (by omega)]
 ·rw[if_neg (by rw[e1];omega),if_neg (by rw[e2];omega),if_pos (by omega)]
 ·rw[if_neg (by rw[e1];omega),if_pos (e2.2 h),if_neg (by omega),if_neg (by omega),if_pos (by omega)]
theorem rtexts_any(a b:ByteArray)(w:World)(h1:a.size≤reach):Calls Tryz.prog 93 #[.string a,.string b] w fun e w'=>e=.returned (.int .i64 (cmpB a b))∧Below w.heap.size w w':=by
 unfold reach at h1
 go_enter Tryz.func93,Tryz.ntmps93
 go_wp2_with fail
 go_loopw [5] (fun v5 wr=>∃i:Nat,i≤a.size∧i≤b.size∧v5=.int .i64 i∧cmpB a b=Lib.compareBytes (a.data.toList.drop i) (b.data.toList.drop i)∧Below w.heap.size w wr) (fun v5 _=>a.size-(intOf v5).toNat)
 case atStart=>exact⟨0,Nat.zero_le _,Nat.zero_le _,rfl,rfl,Below.refl _ _⟩
 case round=>
  obtain⟨i,hi1,hi2,rfl,hq,I⟩:=hrel
  have HQ:=qD hq
  have J:=qD I
  clear hq I
  by_cases hlt:i<a.size∧i<b.size
  ·obtain⟨hl1,hl2⟩:=hlt
   have HA:=qD (HQ.out.trans (by rw[bytes_drop a i hl1,bytes_drop b i hl2,cmpBy_at]))
   cases hc:((a[i].toNat:Int) != (b[i].toNat:Int))
   ·go_upto_region 4 with fail
    go_quiet (fail)
    have HC:Hid (cmpB a b=Lib.compareBytes (a.data.toList.drop (i+1)) (b.data.toList.drop (i+1))):=by
     have:(a[i].toNat:Int)=(b[i].toNat:Int):=by simpa using hc
     rw[Hid,HA.out,if_pos this]
    go_wp2_with fail
    go_roundw
    case rel=>exact⟨i+1,by omega,by omega,by go_num,HC.out,J.out.drewN _⟩
    case measure=>simp[intOf];omega
   ·have HC:Hid (cmpB a b=cmpI (a[i].toNat:Int) (b[i].toNat:Int)):=by
     have:¬(a[i].toNat:Int)=(b[i].toNat:Int):=by simpa using hc
     rw[Hid,HA.out,if_neg this]
    have b1:a[i].toNat<256:=a[i].toNat_lt
    have b2:b[i].toNat<256:=b[i].toNat_lt
    go_upto_region 4 with fail
    go_quiet (fail)
    have J2:=qD (J.out.drewN nq)
    generalize wr.drewN nq=w2 at*
    have W1:IntKind.i64.wrap (a[i].toNat:Int)=(a[i].toNat:Int):=wrap_i64 (by omega) (by omega)
    have W2:IntKind.i64.wrap (b[i].toNat:Int)=(b[i].toNat:Int):=wrap_i64 (by omega) (by omega)
    go_upto_region 5 with fail
    go_quiet ((go_at_call 101;exact Calls.quiet_of_same (rints_any _ _ _)))
    go_wp2_with fail
    go_ret
    exact⟨by rw[HC.out];rfl,J2.out.drewN _⟩
  ·have HE:=qD (HQ.out.trans (cmpBy_end (by simp;omega) (by simp;omega) (by simp;omega)))
   by_cases hl1:i<a.size
   all_goals
    first|have hx9:b.size≤i:=by omega|have hx9:a.size≤i:=by omega
    go_wp2_with fail
    refine(rints_any _ _ _).mono ?_
    rintro e w' ⟨rfl,rfl⟩
    go_wp2_with fail
    go_ret
    exact⟨by rw[HE.out];simp,J.out⟩
abbrev BK:=List UInt8
theorem bl_nil(x:BK):Op.bytesLess x []=false:=by cases x<;>rfl
theorem bl_irr:∀x:BK,Op.bytesLess x x=false
 | []=>rfl
 | a::r=>by simp[Op.bytesLess,bl_irr r]
theorem bl_cons(a b:UInt8)(x y:BK):Op.bytesLess (a::x) (b::y)=true↔a.toNat<b.toNat∨(a=b∧Op.bytesLess x y=true):=by
 simp[Op.bytesLess,UInt8.lt_iff_toNat_lt]
theorem bl_tr:∀{x y z:BK},Op.bytesLess x y=true→Op.bytesLess y z=true→Op.bytesLess x z=true
 | _,_,[],_,h=>by rw[bl_nil] at h;cases h
 | _,[],_::_,h,_=>by rw[bl_nil] at h;cases h
 | [],_::_,_::_,_,_=>rfl
 | a::x,b::y,c::z,h,k=>by
  rw[bl_cons] at h k ⊢
  rcases h with h|⟨rfl,h⟩<;>rcases k with k|⟨rfl,k⟩
  ·exact .inl (by omega)
  ·exact .inl h
  ·exact .inl k
  ·exact .inr ⟨rfl,bl_tr h k⟩
theorem bl_tri:∀(x y:BK),Op.bytesLess x y=true∨x=y∨Op.bytesLess y x=true
 | [],[]=>.inr (.inl rfl)
 | [],_::_=>.inl rfl
 | _::_,[]=>.inr (.inr rfl)
 | a::x,b::y=>by
  rw[bl_cons,bl_cons]
  rcases Nat.lt_trichotomy a.toNat b.toNat with h|h|h
  ·exact .inl (.inl h)
  ·have hab:a=b:=UInt8.toNat_inj.1 h
   subst hab
   rcases bl_tri x y with h|rfl|h
   ·exact .inl (.inr ⟨rfl,h⟩)
   ·exact .inr (.inl rfl)
   ·exact .inr (.inr (.inr ⟨rfl,h⟩))
  ·exact .inr (.inr (.inl h))
theorem bl_asym{x y:BK}(h:Op.bytesLess x y=true):Op.bytesLess y x=false:=by
 cases h1:Op.bytesLess y x
 ·rfl
 ·have:=bl_tr h h1;rw[bl_irr] at this;cases this
def hiO(c:Ch):Option BK:=if c.hi.toList=[] then none else some c.hi.toList
def ltO(x:BK):Option BK→Prop
 | none=>True
 | some y=>Op.bytesLess x y=true
def Cn:Option BK→Option BK→List Ch→Prop
 | a,b,[]=>a=b
 | a,b,c::r=>a=some c.lo.toList∧ltO c.lo.toList (hiO c)∧Cn (hiO c) b r
theorem hiO_nil{c:Ch}(h:c.hi.toList=[]):hiO c=none:=by rw[hiO,if_pos h]
theorem hiO_some{c:Ch}(h:c.hi.toList≠[]):hiO c=some c.hi.toList:=by rw[hiO,if_neg h]
theorem Cn.of_link:∀{l:List Ch} {c:Ch},linkB (c::l)=true→(((c::l).getLast?.map (·.hi.toList))==some [])=true→Cn (some c.lo.toList) none (c::l)
 | [],c,_,h=>by
  have h:c.hi.toList=[]:=by simpa using h
  exact⟨rfl,by rw[hiO_nil h];trivial,hiO_nil h⟩
 | d::r,c,h,h'=>by
  rw[linkB] at h
  simp only[Bool.and_eq_true,Bool.not_eq_true',Bool.or_eq_false_iff,beq_iff_eq,beq_eq_false_iff_ne] at h
  obtain⟨⟨h1,h2,h3⟩,h4⟩:=h
  have hlt:Op.bytesLess c.lo.toList d.lo.toList=true:=by
   rcases bl_tri c.lo.toList d.lo.toList with h|h|h
   ·exact h
   ·exact absurd h.symm h3
   ·rw[h2] at h;cases h
  have hne:c.hi.toList≠[]:=by
   intro h
   rw[←h1] at h
   rw[h,bl_nil] at hlt
   cases hlt
  have:=Cn.of_link h4 (by simpa using h')
  exact⟨rfl,by rw[hiO_some hne,←h1];exact hlt,by rw[hiO_some hne,←h1];exact this⟩
theorem Cn.to_link:∀{l:List Ch} {a:Option BK} {c:Ch},Cn a none (c::l)→linkB (c::l)=true∧(((c::l).getLast?.map (·.hi.toList))==some [])=true
 | [],_,c,⟨_,_,h⟩=>by
  have h:hiO c=none:=h
  refine⟨rfl,?_⟩
  by_cases hc:c.hi.toList=[]
  ·simp[hc]
  ·rw[hiO_some hc] at h;cases h
 | d::r,a,c,⟨_,h2,h3⟩=>by
  obtain⟨k1,k2⟩:=Cn.to_link h3
  have h4:=h3.1
  refine⟨?_,by simpa using k2⟩
  by_cases hc:c.hi.toList=[]
  ·rw[hiO_nil hc] at h4;cases h4
  ·rw[hiO_some hc] at h4 h2
   injection h4 with h4
   rw[h4] at h2
   have h2:Op.bytesLess c.lo.toList d.lo.toList=true:=h2
   rw[linkB,k1,bl_asym h2,h4]
   have hne:(d.lo.toList==c.lo.toList)=false:=by
    rw[beq_eq_false_iff_ne]
    intro h
    rw[h,bl_irr] at h2
    cases h2
   simp[hne]
theorem ends_link(l:List Ch):(endsB l=true∧linkB l=true)↔Cn (some []) none l:=by
 cases l with
 | nil=>exact⟨fun h=>(by cases h.1),fun h=>(by cases h)⟩
 | cons c r=>
  constructor
  ·rintro⟨h1,h2⟩
   rw[endsB,Bool.and_eq_true] at h1
   have:=Cn.of_link h2 h1.2
   rw[beq_iff_eq.1 h1.1] at this
   exact this
  ·intro h
   have h1:=Cn.to_link h
   have h2:=h.1
   injection h2 with h2
   refine⟨?_,h1.1⟩
   rw[endsB,←h2,h1.2]
   rfl
structure VR(R:Ro):Prop where
 nm:nameB R.sp=true
 ke:keyE R.ks R.ha=0
 ln:R.cs.length≤64
 ep:1≤R.ep
 ver:1≤R.ver
 good:∀c∈R.cs,0≤c.sh∧c.sh<8∧1≤c.ver∧c.ver≤R.ver
 cn:Cn (some []) none R.cs
theorem badC_iff(v:Int)(c:Ch):badC v c=false↔0≤c.sh∧c.sh<8∧1≤c.ver∧c.ver≤v:=by
 unfold badC
 simp only[Bool.or_eq_false_iff,decide_eq_false_iff_not]
 omega
theorem routE_iff(R:Ro):routE R=0↔VR R:=by
 unfold routE
 constructor
 ·intro h
  split at h
  ·cases h
  split at h
  ·rename_i h1 h2;exact absurd h h2
  split at h
  ·cases h
  split at h
  ·cases h
  split at h
  ·cases h
  split at h
  ·cases h
  split at h
  ·cases h
  rename_i h1 h2 h3 h4 h5 h6 h7
  refine⟨by simpa using h1,by simpa using h2,by omega,by omega,by omega,fun c hc=>?_,(ends_link _).1 ⟨by simpa using h6,by simpa using h7⟩⟩
  rw[←badC_iff]
  have h5:R.cs.any (badC R.ver)=false:=by simpa using h5
  exact List.any_eq_false.1 h5 c hc |> (by simpa using ·)
 ·rintro⟨h1,h2,h3,h4,h5,h6,h7⟩
  obtain⟨k1,k2⟩:=(ends_link _).2 h7
  have h8:R.cs.any (badC R.ver)=false:=List.any_eq_false.2 fun c hc=>by simpa using (badC_iff _ _).2 (h6 c hc)
  rw[if_neg (by rw[h1];simp),if_neg (by simpa using h2),if_neg (by omega),if_neg (by omega),if_neg (by rw[h8];simp),if_neg (by rw[k1];simp),if_neg (by rw[k2];simp)]
theorem zero_cell{w:World}{g:Nat}{t:TypeId}(B:Blk w g t (rarr RA.zero Ro.zero)){i:Nat}{v:Value}(h:w.cell? ⟨g,i,none⟩=some v):(rarr RA.zero Ro.zero)[i]?=some v:=by rw[←B.cell];exact h
theorem zero_string{i:Nat}{s:ByteArray}(h:(rarr RA.zero Ro.zero)[i]?=some (.string s)):i=0∧s=ByteArray.empty:=by
 rcases i with _|_|_|_|_|_|i
 ·simp[Ro.zero] at h;exact⟨rfl,h.symm⟩
 all_goals simp at h
theorem zero_slice{i:Nat}{A:Option Addr}{n c:Nat}(h:(rarr RA.zero Ro.zero)[i]?=some (.slice A n c)):n=0:=by
 rcases i with _|_|_|_|_|_|i
 all_goals simp[RA.zero] at h
 all_goals exact h.2.1.symm
theorem ordL_path:∀(ks done:List Od),ordL done ks=0→∀q∈ks,pathB q.p=true
 | [],_,_,q,h=>by simp at h
 | o::r,done,h,q,hq=>by
  unfold ordL at h
  split at h
  ·cases h
  ·rename_i h1
   split at h
   ·cases h
   ·rcases List.mem_cons.1 hq with rfl|h2
    ·simpa using h1
    ·exact ordL_path r _ h q h2
theorem insD_no{R:Ro}{lo hi:ByteArray}{x:Val}{K1:ByteArray}{K2:Int}(h:encR R.ks R.ha x=(K1,K2))(hk:K2≠0):insD R lo hi x=false:=by unfold insD;rw[h,decide_eq_false hk];rfl
theorem insD_yes{R:Ro}{lo hi:ByteArray}{x:Val}{K1:ByteArray}(h:encR R.ks R.ha x=(K1,0)):insD R lo hi x=inB K1 (spanC lo hi):=by unfold insD;rw[h,decide_eq_true rfl];rfl
theorem inB_low{lo hi key:ByteArray}(h:Op.bytesLess key.toList lo.toList=true):inB key (spanC lo hi)=false:=by unfold inB spanC;rw[h];rfl
theorem inB_open{lo hi key:ByteArray}(h:Op.bytesLess key.toList lo.toList=false)(h2:(hi.toList==[])=true):inB key (spanC lo hi)=true:=by unfold inB spanC;rw[h,h2];rfl
theorem inB_high{lo hi key:ByteArray}(h:Op.bytesLess key.toList lo.toList=false)(h2:(hi.toList==[])=false):inB key (spanC lo hi)=Op.bytesLess key.toList hi.toList:=by unfold inB spanC;rw[h,h2];rfl
theorem inside_any(M:Mv)(ma:MA)(R:Ro)(a:RA)(x:Val)(c:VC)(w:World)(hT:Tabs w)(h:RR w a R)(hx:RW w c x)(h8:R.ks.length≤8):
 Calls Tryz.prog 34 #[mval ma M,rval a R,c.val] w fun e w'=>e=.returned (.bool (insD R M.lo M.hi x))∧Below w.heap.size w w':=by
 obtain⟨KA,kn,kc,CA,cn,cc⟩:=a
 have HE:=qD fun(wr:World) (hb:Below w.heap.size w wr)=>senc_any R.ks R.ha KA kn kc x c wr (hT.step hb) (h.ks.step hb) (hx.step hb) h8
 clear h hx hT
 obtain⟨⟨K1,K2⟩,hK⟩:∃K,encR R.ks R.ha x=K:=⟨_,rfl⟩
 rw[hK] at HE
 have HK:=qD hK
 clear hK
 have BM:Hid (Blk (((w.alloc (.cells (marr ma M) 35)).alloc (.cells (rarr ⟨KA,kn,kc,CA,cn,cc⟩ R) 27)).alloc (.cells c.arr 45)) w.heap.size 35 (marr ma M)):=((Blk.new_at rfl).alloc _).alloc _
 have B0:Hid (Blk (((w.alloc (.cells (marr ma M) 35)).alloc (.cells (rarr ⟨KA,kn,kc,CA,cn,cc⟩ R) 27)).alloc (.cells c.arr 45)) (w.heap.size+1) 27 (rarr ⟨KA,kn,kc,CA,cn,cc⟩ R)):=(Blk.new_at (by simp)).alloc _
 have B1:Hid (Blk (((w.alloc (.cells (marr ma M) 35)).alloc (.cells (rarr ⟨KA,kn,kc,CA,cn,cc⟩ R) 27)).alloc (.cells c.arr 45)) (w.heap.size+2) 45 c.arr):=Blk.new_at (by simp)
 have BE:Hid (Below w.heap.size w (((w.alloc (.cells (marr ma M) 35)).alloc (.cells (rarr ⟨KA,kn,kc,CA,cn,cc⟩ R) 27)).alloc (.cells c.arr 45))):=(((Below.refl _ _).alloc (qL) _).alloc (by simp) _).alloc (by simp;omega) _
 go_enter Tryz.func34,Tryz.ntmps34
 go_upto_region 1 with fail
 change Code.wp _ _ _ _ (((w.alloc (.cells (marr ma M) 35)).alloc (.cells (rarr ⟨KA,kn,kc,CA,cn,cc⟩ R) 27)).alloc (.cells c.arr 45))
 generalize (((w.alloc (.cells (marr ma M) 35)).alloc (.cells (rarr ⟨KA,kn,kc,CA,cn,cc⟩ R) 27)).alloc (.cells c.arr 45))=wa at*
 obtain⟨q0,q1,q2,q3,q4,q5,qz⟩:=blk_ro B0.out
 simp only at q1 q5
 obtain⟨a0,a1,a2,a3,a4⟩:=VAt.of_blk B1.out
 simp only[Nat.zero_add] at a0 a1 a2 a3 a4
 go_wp2_with fail
 refine(HE.out wa BE.out).mono ?_
 rintro e w1 ⟨rfl,hb⟩
 have CE:=qD (BE.out.step' hb)
 have CM:=qD (BM.out.step hb)
 clear hb BE B0 B1 BM HE q0 q1 q2 q3 q4 q5 qz a0 a1 a2 a3 a4
 obtain⟨m0,m1,m2,m3,m4,m5,m6,m7⟩:=blk_mv CM.out
 by_cases hk:K2=0
 rotate_left
 ·have hkb:(K2==0)=false:=by simpa using hk
  have HF:=qD (insD_no (lo:=M.lo) (hi:=M.hi) HK.out hk)
  clear hk
  go_wp2_with fail
  go_ret
  exact⟨by rw[HF.out];rfl,CE.out⟩
 subst hk
 have HI:=qD (insD_yes (lo:=M.lo) (hi:=M.hi) HK.out)
 cases h1:Op.bytesLess K1.toList M.lo.toList
 ·cases h2:(M.hi.toList==[])
  ·have HF:Hid (insD R M.lo M.hi x=Op.bytesLess K1.toList M.hi.toList):=by rw[Hid,HI.out,inB_high h1 h2]
   go_wp2_with fail
   go_ret
   exact⟨by rw[HF.out];rfl,CE.out⟩
  ·have HF:Hid (insD R M.lo M.hi x=true):=by rw[Hid,HI.out,inB_open h1 h2]
   go_wp2_with fail
   go_ret
   exact⟨by rw[HF.out];rfl,CE.out⟩
 ·have HF:Hid (insD R M.lo M.hi x=false):=by rw[Hid,HI.out,inB_low h1]
  go_wp2_with fail
  go_ret
  exact⟨by rw[HF.out];rfl,CE.out⟩
theorem sizeR:(Tryz.prog.info? 27).map (·.size)=some 6:=by kernel_rfl
theorem rarr_all(a:RA)(R:Ro):(rarr a R).all (·.oneCell')=true:=by simp[rarr,Value.oneCell']
theorem results_load{fn:Func}{p u v:Tmp}(h:fn.results=#[.cell p 35,.tmp u,.tmp v])(tmps:Array Value)(g:Nat)(h1:tmps.getD p undef=.pointer (some ⟨g,0,none⟩))(e:Value)(h2:tmps.getD u undef=e)(f:Value)(h3:tmps.getD v undef=f)(W:World)(a:MA)(M:Mv)(q:Blk W g 35 (marr a M)):(results fn tmps).run Tryz.prog W=.ok (.tuple #[mval a M,e,f]) W:=by
 have h1':tmps[p]?.getD undef=.pointer (some ⟨g,0,none⟩):=by simpa using h1
 have h2':tmps[u]?.getD undef=e:=by simpa using h2
 have h3':tmps[v]?.getD undef=f:=by simpa using h3
 simp[results,h,h1',h2',h3',asAddr,loadM q rfl]
theorem results_commit{fn:Func}{p q u:Tmp}(h:fn.results=#[.cell p 35,.cell q 27,.tmp u])(tmps:Array Value)(g g2:Nat)(h1:tmps.getD p undef=.pointer (some ⟨g,0,none⟩))(h2:tmps.getD q undef=.pointer (some ⟨g2,0,none⟩))(f:Value)(h3:tmps.getD u undef=f)(W:World)(a:MA)(M:Mv)(b:RA)(R:Ro)(k:Blk W g 35 (marr a M))(k2:Blk W g2 27 (rarr b R)):(results fn tmps).run Tryz.prog W=.ok (.tuple #[mval a M,rval b R,f]) W:=by
 have h1':tmps[p]?.getD undef=.pointer (some ⟨g,0,none⟩):=by simpa using h1
 have h2':tmps[q]?.getD undef=.pointer (some ⟨g2,0,none⟩):=by simpa using h2
 have h3':tmps[u]?.getD undef=f:=by simpa using h3
 simp[results,h,h1',h2',h3',asAddr,loadM k rfl,load_ro g2 b R W k2]
theorem load_any(M:Mv)(ma:MA)(w:World)(h:MR w ma M)(hst:M.st=2)(hc:M.cp.length≤1000)(hh:M.ch.length≤1000):Calls Tryz.prog 15 #[mval ma M] w
 fun e w'=>∃(A:Option Addr) (n c:Nat) (ps:List PW),e=.returned (.tuple #[mval MA.zero ⟨M.sp,M.lo,M.hi,M.fr,M.tt,M.st,[],[]⟩,.slice A n c,.int .i64 0])∧ps.map Prod.snd=M.cp++M.ch∧WS (fun b=>w.heap.size≤b) w' A n c ps∧Below w.heap.size w w':=by
 obtain⟨CA,cn,cc,HA,hn,hc2⟩:=ma
 obtain⟨sp,lo,hi,fr,tt,st,cp,ch⟩:=M
 simp only at hst hc hh
 subst hst
 have H:=qD h
 have HC:=qD hc
 have HH:=qD hh
 clear h hc hh
 obtain⟨wa,hwa⟩:∃wa,(w.alloc (.cells (marr ⟨CA,cn,cc,HA,hn,hc2⟩ ⟨sp,lo,hi,fr,tt,2,cp,ch⟩) 35)).alloc (.cells (marr MA.zero Mv.zero) 35)=wa:=⟨_,rfl⟩
 have B0:Hid (Blk wa w.heap.size 35 (marr ⟨CA,cn,cc,HA,hn,hc2⟩ ⟨sp,lo,hi,fr,tt,2,cp,ch⟩)):=by rw[←hwa];exact(Blk.new_at rfl).alloc _
 have B1:Hid (Blk wa (w.heap.size+1) 35 (marr MA.zero Mv.zero)):=by rw[←hwa];exact Blk.new_at (by simp)
 have BE:Hid (Below w.heap.size w wa):=by rw[←hwa];exact((Below.refl _ _).alloc (qL) _).alloc (by simp) _
 have HWA:=qD hwa
 clear hwa
 go_enter Tryz.func15,Tryz.ntmps15
 go_upto_region 1 with fail
 change Code.wp _ _ _ _ ((w.alloc (.cells (marr ⟨CA,cn,cc,HA,hn,hc2⟩ ⟨sp,lo,hi,fr,tt,2,cp,ch⟩) 35)).alloc (.cells (marr MA.zero Mv.zero) 35))
 rw[HWA.out]
 clear HWA
 have HCM:=qD (copyMove_any ⟨sp,lo,hi,fr,tt,2,cp,ch⟩ ⟨CA,cn,cc,HA,hn,hc2⟩ wa (H.out.step BE.out) HC.out HH.out)
 have q5:wa.cell? ⟨w.heap.size,5,none⟩=some (.int .i64 2):=B0.out.cell 5
 go_wp2_with (refine wpList_load_row rfl 35 _ rfl (w.heap.size) rfl _ _ _ _ B0.out Tryz.underlying35 rfl (by rw[sizeM];rfl) ?_)
 refine HCM.out.mono ?_
 rintro e w1 ⟨⟨A1,n1,c1,A2,n2,c2⟩,ps,qs,rfl,hmo,hb⟩
 have HMO:=qD hmo
 have C0:=qD (B0.out.step hb)
 have C1:=qD (B1.out.step hb)
 have CE:=qD (BE.out.step' hb)
 have HWL:Hid (w.heap.size+1<wa.heap.size):=B1.out.lt
 have HLP:Hid (ps.length≤1000):=by have h1:=congrArg List.length hmo.cp;rw[List.length_map] at h1;have:=HC.out;unfold Hid;simp only at h1;omega
 have HLQ:Hid (qs.length≤1000):=by have h1:=congrArg List.length hmo.ch;rw[List.length_map] at h1;have:=HH.out;unfold Hid;simp only at h1;omega
 clear hmo hb HCM q5 B0 B1 BE
 go_upto_region 4 with(refine wpList_store_row rfl 35 _ _ rfl (w.heap.size) (marr ⟨A1,n1,c1,A2,n2,c2⟩ ⟨sp,lo,hi,fr,tt,2,cp,ch⟩) rfl rfl 35 _ C0.out (by rw[sizeM];rfl) rfl (marr_all _ _) ?_)
 have D0:=qD (Blk.row C0.out (marr ⟨A1,n1,c1,A2,n2,c2⟩ ⟨sp,lo,hi,fr,tt,2,cp,ch⟩))
 have D1:=qD (Blk.row_far C1.out (by omega:w.heap.size+1≠w.heap.size) (marr ⟨A1,n1,c1,A2,n2,c2⟩ ⟨sp,lo,hi,fr,tt,2,cp,ch⟩))
 have DE:=qD (below_row CE.out (qL) (marr ⟨A1,n1,c1,A2,n2,c2⟩ ⟨sp,lo,hi,fr,tt,2,cp,ch⟩))
 have DMO:Hid (MO wa.heap.size ⟨A1,n1,c1,A2,n2,c2⟩ ⟨sp,lo,hi,fr,tt,2,cp,ch⟩ ps qs (w1.setRow w.heap.size (marr ⟨A1,n1,c1,A2,n2,c2⟩ ⟨sp,lo,hi,fr,tt,2,cp,ch⟩))):=HMO.out.keep fun b hb _=>setRow_other _ _ _ _ (by have:=HWL.out;omega)
 clear C0 C1 CE HMO
 generalize w1.setRow w.heap.size (marr ⟨A1,n1,c1,A2,n2,c2⟩ ⟨sp,lo,hi,fr,tt,2,cp,ch⟩)=w2 at*
 have q6:w2.cell? ⟨w.heap.size,6,none⟩=some (.slice A1 n1 c1):=D0.out.cell 6
 have q7:w2.cell? ⟨w.heap.size,7,none⟩=some (.slice A2 n2 c2):=D0.out.cell 7
 obtain⟨w3,hw3⟩:∃w3,w2.alloc (.cells #[.slice A1 n1 c1,.slice A2 n2 c2] 33)=w3:=⟨_,rfl⟩
 have E2:Hid (Blk w3 w2.heap.size 33 #[.slice A1 n1 c1,.slice A2 n2 c2]):=by rw[←hw3];exact Blk.new_at rfl
 have E0:Hid (Blk w3 w.heap.size 35 (marr ⟨A1,n1,c1,A2,n2,c2⟩ ⟨sp,lo,hi,fr,tt,2,cp,ch⟩)):=by rw[←hw3];exact D0.out.alloc _
 have E1:Hid (Blk w3 (w.heap.size+1) 35 (marr MA.zero Mv.zero)):=by rw[←hw3];exact D1.out.alloc _
 have EE:Hid (Below w.heap.size w w3):=by rw[←hw3];exact DE.out.alloc DE.out.size _
 have EMO:Hid (MO wa.heap.size ⟨A1,n1,c1,A2,n2,c2⟩ ⟨sp,lo,hi,fr,tt,2,cp,ch⟩ ps qs w3):=by rw[←hw3];exact DMO.out.step ((Below.refl _ _).alloc (qL) _)
 have HN1:Hid (n1=ps.length):=DMO.out.cn
 have HN2:Hid (n2=qs.length):=DMO.out.hn
 have HCC:=qD (concatW_any ps qs A1 A2 n1 c1 n2 c2 w2.heap.size w3 (E2.out.cell 0) (E2.out.cell 1) (EMO.out.wc (by have:=HLP.out;omega)) (EMO.out.wh (by have:=HLQ.out;omega)) (by have:=HLP.out;have:=HN1.out;omega) (by have:=HLQ.out;have:=HN2.out;omega))
 have HW3:=qD hw3
 clear hw3 E2 D0 D1 DE DMO
 go_wp2_with fail
 change Calls _ _ _ (w2.alloc (.cells #[.slice A1 n1 c1,.slice A2 n2 c2] 33)) _
 rw[HW3.out]
 clear q6 q7 HW3
 refine HCC.out.mono ?_
 rintro e w4 ⟨v,rfl,hown,hb⟩
 obtain⟨A4,c4,rfl,hc4⟩:=own_slice hown
 have HO:=qD hown
 have F0:=qD (E0.out.step hb)
 have F1:=qD (E1.out.step hb)
 have FE:=qD (EE.out.step' hb)
 have FMO:=qD (EMO.out.step hb)
 have HW1:Hid (w.heap.size+1<w3.heap.size):=E1.out.lt
 clear hown hb hc4 E0 E1 EE EMO HCC
 have q6:=F0.out.cell 6
 have z6:=F0.out.frozen 6
 simp at q6
 go_upto_region 6 with fail
 change Code.wp _ _ _ _ (w4.setCell ⟨w.heap.size,6,none⟩ (.slice none 0 0))
 clear q6 z6
 have G0:Hid (Blk (w4.setCell ⟨w.heap.size,6,none⟩ (.slice none 0 0)) w.heap.size 35 #[.string sp,.string lo,.string hi,.int .i64 fr,.int .i64 tt,.int .i64 2,.slice none 0 0,.slice A2 n2 c2]):=F0.out.set_ 6 _
 have G1:=qD (F1.out.far (p:=⟨w.heap.size,6,none⟩) (by show w.heap.size+1≠w.heap.size;omega) (.slice none 0 0))
 have GE:=qD (FE.out.setCell (p:=⟨w.heap.size,6,none⟩) (qL) (.slice none 0 0))
 have GO:=qD (own_far HO.out (p:=⟨w.heap.size,6,none⟩) (own_ne HO.out (by have:=HW1.out;show w.heap.size<_;omega)) (.slice none 0 0))
 have GMO:Hid (MO wa.heap.size ⟨A1,n1,c1,A2,n2,c2⟩ ⟨sp,lo,hi,fr,tt,2,cp,ch⟩ ps qs (w4.setCell ⟨w.heap.size,6,none⟩ (.slice none 0 0))):=FMO.out.keep fun b hb _=>Below.heap_setCell _ _ _ b (by show b≠w.heap.size;have:=HWL.out;omega)
 generalize w4.setCell ⟨w.heap.size,6,none⟩ (.slice none 0 0)=w5 at*
 clear F0 F1 FE FMO HO
 have q7:=G0.out.cell 7
 have z7:=G0.out.frozen 7
 simp at q7
 go_upto_region 7 with fail
 change Code.wp _ _ _ _ (w5.setCell ⟨w.heap.size,7,none⟩ (.slice none 0 0))
 clear q7 z7
 have I0:Hid (Blk (w5.setCell ⟨w.heap.size,7,none⟩ (.slice none 0 0)) w.heap.size 35 (marr MA.zero ⟨sp,lo,hi,fr,tt,2,[],[]⟩)):=G0.out.set_ 7 _
 have I1:=qD (G1.out.far (p:=⟨w.heap.size,7,none⟩) (by show w.heap.size+1≠w.heap.size;omega) (.slice none 0 0))
 have IE:=qD (GE.out.setCell (p:=⟨w.heap.size,7,none⟩) (qL) (.slice none 0 0))
 have IO:=qD (own_far GO.out (p:=⟨w.heap.size,7,none⟩) (own_ne GO.out (by have:=HW1.out;show w.heap.size<_;omega)) (.slice none 0 0))
 have IMO:Hid (MO wa.heap.size ⟨A1,n1,c1,A2,n2,c2⟩ ⟨sp,lo,hi,fr,tt,2,cp,ch⟩ ps qs (w5.setCell ⟨w.heap.size,7,none⟩ (.slice none 0 0))):=GMO.out.keep fun b hb _=>Below.heap_setCell _ _ _ b (by show b≠w.heap.size;have:=HWL.out;omega)
 generalize w5.setCell ⟨w.heap.size,7,none⟩ (.slice none 0 0)=w6 at*
 clear G0 G1 GE GMO GO
 go_wp2_with (first|(refine wpList_load_row rfl 35 _ rfl (w.heap.size) rfl _ _ _ _ I0.out Tryz.underlying35 rfl (by rw[sizeM];rfl) ?_)|(refine wpList_store_row rfl 35 _ _ rfl (w.heap.size+1) (marr MA.zero ⟨sp,lo,hi,fr,tt,2,[],[]⟩) rfl rfl 35 _ I1.out (by rw[sizeM];rfl) rfl (marr_all _ _) ?_))
 have hfar:∀b,b≠w.heap.size+1→(w6.setRow (w.heap.size+1) (marr MA.zero ⟨sp,lo,hi,fr,tt,2,[],[]⟩)).heap[b]?=w6.heap[b]?:=fun b hb=>setRow_other _ _ _ _ hb
 refine bodyPost_ret (results_load rfl _ (w.heap.size+1) rfl _ rfl _ rfl _ MA.zero ⟨sp,lo,hi,fr,tt,2,[],[]⟩ (Blk.row I1.out _)) rfl ⟨A4,_,c4,ps++qs,rfl,?_,?_,below_row IE.out (by omega) _⟩
 ·rw[List.map_append,IMO.out.cp,IMO.out.ch]
 ·have hl:n1+n2=(ps++qs).length:=by rw[List.length_append,HN1.out,HN2.out]
  have hO:=own_keep (w':=w6.setRow (w.heap.size+1) (marr MA.zero ⟨sp,lo,hi,fr,tt,2,[],[]⟩)) IO.out fun g hg=>hfar g (by have:=own_ge IO.out g hg;have:=HW1.out;omega)
  rw[hl] at hO ⊢
  have hF:∀b,wa.heap.size≤b→b≠w.heap.size+1:=fun b hb=>by have:=HWL.out;omega
  have hws0:∀p∈ps++qs,RW1 (fun b=>wa.heap.size≤b) (w6.setRow (w.heap.size+1) (marr MA.zero ⟨sp,lo,hi,fr,tt,2,[],[]⟩)) p.1 p.2:=fun p hp=>by
   rcases List.mem_append.1 hp with hp|hp
   ·exact(IMO.out.rc p hp).keepG fun b hb _=>⟨hb.1,hfar b (hF b hb.1)⟩
   ·exact(IMO.out.rh p hp).keepG fun b hb _=>⟨hb.1,hfar b (hF b hb.1)⟩
  have hws:=own_ws (F:=fun b=>wa.heap.size≤b) hO rfl (by rw[List.length_append];have:=HLP.out;have:=HLQ.out;omega) hws0
  exact⟨hws.sr,hws.sz,fun p hp=>(hws0 p hp).mono fun b hb=>by have:=HWL.out;omega⟩
open Go.ChangeShapes Go.WideShapes Go.ChangeAt Go.Joins Go.Deep
theorem bytes_string:Tryz.prog.bytesOf 9=16:=by kernel_rfl
section
variable {H:Type} {enc:TypeId×Value→H} {W:World} {base:Nat} {spare:Nat→Bool} {held:Bool}
theorem read_texts(n:Nat){v:Value}{y:DataW H×List MemPlace}(h:DataW.trod enc Tryz.prog W base spare held n 47 [v]=some y)(hw:Light 47 y.1):
 ∃(A:Option Addr) (n c:Nat) (xs:List ByteArray),v=.slice A n c∧ST W A n c xs:=by
 rcases DataW.trod_slice Tryz.underlying47 h with⟨hcs,_⟩|⟨a,len,cap,elems,rest,n',rfl,hcs,rfl,_,hlc,hcm,hel,hat,_,_⟩
 ·simp at hcs
  exact⟨none,0,0,[],hcs,⟨SR.nil,by show 0*16≤reach;decide,fun s hs=>by simp at hs⟩⟩
 ·simp at hcs
  subst hcs
  simp only[Light,DataW.weights,Tryz.underlying47,List.mem_cons,List.mem_append,bytes_string] at hw
  have hsz:len*16≤reach:=by
   have:=hw _ (.inl rfl)
   simp only[List.length_map,hel] at this
   have h2:len*16≤(len+rest.length)*16:=Nat.mul_le_mul_right _ (by omega)
   have:=le_reach
   omega
  have wl:=light_all (l:=elems.map (·.1)) (fun z hz=>hw z (.inr (.inl hz)))
  rcases Nat.eq_zero_or_pos len with h0|hp
  ·subst h0
   exact⟨some a,0,cap,[],rfl,⟨SR.nil,by show 0*16≤reach;decide,fun s hs=>by simp at hs⟩⟩
  have step:∀i,i<len→∃s:ByteArray,W.cells? base (a.add (i*1)) 1=some [.string s]∧s.size≤reach:=by
   intro i hi
   have h1:=hat i hi
   rw[cells_string,List.getElem?_eq_getElem (by omega)] at h1
   obtain⟨cs',hcs',ht'⟩:=Option.bind_eq_some_iff.1 h1
   have hwi:=wl _ (List.mem_map_of_mem (List.getElem_mem (l:=elems) (n:=i) (by omega)))
   generalize elems[i]=q at*
   obtain⟨s,e0,rfl,_⟩:=DataW.trod_string Tryz.underlying9 ht'
   subst e0
   refine⟨s,hcs',Nat.le_trans (hwi s.size ?_) le_reach⟩
   simp[DataW.weights]
  obtain⟨s0,h0,_⟩:=step 0 hp
  obtain⟨b,off,ha,_⟩:=cells_at h0 (by omega)
  have ha':a=⟨b,off,none⟩:=by simpa[Addr.add] using ha
  subst ha'
  obtain⟨f,hf⟩:=choose_fn (p:=fun i (s:ByteArray)=>W.cell? ⟨b,off+i,none⟩=some (.string s)∧s.size≤reach) ByteArray.empty len (fun i hi=>by
   obtain⟨s,hcs',hs⟩:=step i hi
   rw[addr_add] at hcs'
   obtain⟨b',off',ha',hc⟩:=cells_at hcs' (by omega)
   injection ha' with e1 e2
   subst e1 e2
   have:=hc 0 (by omega)
   rw[Nat.mul_one] at this
   exact⟨s,this,hs⟩)
  refine⟨_,len,cap,(List.range len).map f,rfl,⟨⟨by simp,hlc,fun _=>⟨b,off,rfl,World.block_lt_of_cell? W _ (hf 0 hp).1,fun i x hi j u hj=>?_⟩⟩,hsz,fun s hs=>?_⟩⟩
  ·have hlt:i<len:=by have:=(List.getElem?_eq_some_iff.1 hi).1;simpa using this
   rw[List.getElem?_map,List.getElem?_range hlt] at hi
   simp only[Option.map_some,Option.some.injEq] at hi
   subst hi
   have hj0:j=0:=by have:=(List.getElem?_eq_some_iff.1 hj).1;simpa[recT] using this
   subst hj0
   simp[recT] at hj
   subst hj
   rw[Nat.mul_one,Nat.add_zero]
   exact(hf i hlt).1
  ·obtain⟨i,hi,rfl⟩:=List.mem_map.1 hs
   exact(hf i (List.mem_range.1 hi)).2
end
theorem bytes_order:Tryz.prog.bytesOf 93=32:=by kernel_rfl
theorem cells_order:Tryz.prog.cellsOf 93=2:=by kernel_rfl
theorem cells_texts:Tryz.prog.cellsOf 47=1:=by kernel_rfl
theorem cells_bool:Tryz.prog.cellsOf 4=1:=by kernel_rfl
section
variable {H:Type} {enc:TypeId×Value→H} {W:World} {base:Nat} {spare:Nat→Bool} {held:Bool}
theorem read_orders(n:Nat){v:Value}{y:DataW H×List MemPlace}(h:DataW.trod enc Tryz.prog W base spare held n 22 [v]=some y)(hw:Light 22 y.1):
 ∃(A:Option Addr) (n c:Nat) (ks:List Od),v=.slice A n c∧KS W A n c ks:=by
 rcases DataW.trod_slice Tryz.underlying22 h with⟨hcs,_⟩|⟨a,len,cap,elems,rest,n',rfl,hcs,rfl,_,hlc,hcm,hel,hat,_,_⟩
 ·simp at hcs
  exact⟨none,0,0,[],hcs,KS.nil⟩
 ·simp at hcs
  subst hcs
  simp only[Light,DataW.weights,Tryz.underlying22,List.mem_cons,List.mem_append,bytes_order] at hw
  have hsz:len*32≤reach:=by
   have:=hw _ (.inl rfl)
   simp only[List.length_map,hel] at this
   have h2:len*32≤(len+rest.length)*32:=Nat.mul_le_mul_right _ (by omega)
   have:=le_reach
   omega
  have wl:=light_all (l:=elems.map (·.1)) (fun z hz=>hw z (.inr (.inl hz)))
  rcases Nat.eq_zero_or_pos len with h0|hp
  ·subst h0
   exact⟨some a,0,cap,[],rfl,KS.nil⟩
  have step:∀i,i<len→∃(o:OC) (q:Od),W.cells? base (a.add (i*2)) 2=some [.slice o.A o.n o.c,.bool o.d]∧OR W o q:=by
   intro i hi
   have h1:=hat i hi
   rw[cells_order,List.getElem?_eq_getElem (by omega)] at h1
   obtain⟨cs',hcs',ht'⟩:=Option.bind_eq_some_iff.1 h1
   have hwi:=wl _ (List.mem_map_of_mem (List.getElem_mem (l:=elems) (n:=i) (by omega)))
   generalize elems[i]=q at*
   obtain⟨ys,n'',rfl,rfl,hcl,hyl,hf⟩:=DataW.trod_struct Tryz.underlying93 ht'
   rw[cells_order] at hcl
   obtain⟨v0,v1,rfl⟩:=two hcl
   obtain⟨y0,y1,rfl⟩:=two hyl
   have f0:DataW.trod enc Tryz.prog W base spare held n'' 47 [v0]=some y0:=by simpa[cells_texts] using hf 0 _ rfl
   have f1:DataW.trod enc Tryz.prog W base spare held n'' 4 [v1]=some y1:=by simpa[cells_texts,cells_bool] using hf 1 _ rfl
   simp only[Light,DataW.weights,Tryz.underlying93,List.map,DataW.weightsEach,List.mem_append] at hwi
   obtain⟨A,m,c,xs,rfl,hx⟩:=read_texts n'' f0 (fun z hz=>hwi z (.inl hz))
   obtain⟨d,e1,rfl⟩:=DataW.trod_bool Tryz.underlying4 f1
   simp only[List.cons.injEq,and_true] at e1
   subst e1
   exact⟨⟨A,m,c,d⟩,⟨xs,d⟩,hcs',rfl,hx⟩
  obtain⟨o0,q0,h0,_⟩:=step 0 hp
  obtain⟨b,off,ha,_⟩:=cells_at h0 (by omega)
  have ha':a=⟨b,off,none⟩:=by simpa[Addr.add] using ha
  subst ha'
  obtain⟨f,hf⟩:=choose_fn (p:=fun i (z:OC×Od)=>W.cell? ⟨b,off+i*2,none⟩=some (.slice z.1.A z.1.n z.1.c)∧W.cell? ⟨b,off+i*2+1,none⟩=some (.bool z.1.d)∧OR W z.1 z.2) (o0,q0) len (fun i hi=>by
   obtain⟨o,q,hcs',ho⟩:=step i hi
   rw[addr_add] at hcs'
   obtain⟨b',off',ha',hc⟩:=cells_at hcs' (by omega)
   injection ha' with e1 e2
   subst e1 e2
   exact⟨(o,q),hc 0 (by omega),hc 1 (by omega),ho⟩)
  refine⟨_,len,cap,(List.range len).map fun i=>(f i).2,rfl,(List.range len).map (fun i=>(f i).1),⟨by simp,hlc,fun _=>⟨b,off,rfl,World.block_lt_of_cell? W _ (hf 0 hp).1,fun i x hi j u hj=>?_⟩⟩,hsz,by simp,fun i o q hi hq=>?_⟩
  ·have hlt:i<len:=by have:=(List.getElem?_eq_some_iff.1 hi).1;simpa using this
   rw[List.getElem?_map,List.getElem?_range hlt] at hi
   simp only[Option.map_some,Option.some.injEq] at hi
   subst hi
   have hj2:j<2:=by have:=(List.getElem?_eq_some_iff.1 hj).1;simpa[recO] using this
   rcases(show j=0∨j=1 by omega) with rfl|rfl
   ·simp[recO] at hj
    subst hj
    rw[Nat.add_zero]
    exact(hf i hlt).1
   ·simp[recO] at hj
    subst hj
    exact(hf i hlt).2.1
  ·have hlt:i<len:=by have:=(List.getElem?_eq_some_iff.1 hi).1;simpa using this
   rw[List.getElem?_map,List.getElem?_range hlt] at hi hq
   simp only[Option.map_some,Option.some.injEq] at hi hq
   subst hi hq
   exact(hf i hlt).2.2
theorem cells_key:Tryz.prog.cellsOf 24=2:=by kernel_rfl
theorem cells_orders:Tryz.prog.cellsOf 22=1:=by kernel_rfl
end
theorem bytes_chunk:Tryz.prog.bytesOf 81=56:=by kernel_rfl
theorem cells_chunk:Tryz.prog.cellsOf 81=5:=by kernel_rfl
theorem cells_chunks:Tryz.prog.cellsOf 25=1:=by kernel_rfl
theorem cells_routes:Tryz.prog.cellsOf 27=6:=by kernel_rfl
section
variable {H:Type} {enc:TypeId×Value→H} {W:World} {base:Nat} {spare:Nat→Bool} {held:Bool}
theorem read_chunks(n:Nat){v:Value}{y:DataW H×List MemPlace}(h:DataW.trod enc Tryz.prog W base spare held n 25 [v]=some y)(hw:Light 25 y.1):
 ∃(A:Option Addr) (n c:Nat) (cs:List Ch),v=.slice A n c∧CS W A n c cs:=by
 rcases DataW.trod_slice Tryz.underlying25 h with⟨hcs,_⟩|⟨a,len,cap,elems,rest,n',rfl,hcs,rfl,_,hlc,hcm,hel,hat,_,_⟩
 ·simp at hcs
  exact⟨none,0,0,[],hcs,CS.nil⟩
 ·simp at hcs
  subst hcs
  simp only[Light,DataW.weights,Tryz.underlying25,List.mem_cons,List.mem_append,bytes_chunk] at hw
  have hsz:len*56≤reach:=by
   have:=hw _ (.inl rfl)
   simp only[List.length_map,hel] at this
   have h2:len*56≤(len+rest.length)*56:=Nat.mul_le_mul_right _ (by omega)
   have:=le_reach
   omega
  rcases Nat.eq_zero_or_pos len with h0|hp
  ·subst h0
   exact⟨some a,0,cap,[],rfl,CS.nil⟩
  have step:∀i,i<len→∃x:Ch,W.cells? base (a.add (i*5)) 5=some (recC x):=by
   intro i hi
   have h1:=hat i hi
   rw[cells_chunk,List.getElem?_eq_getElem (by omega)] at h1
   obtain⟨cs',hcs',ht'⟩:=Option.bind_eq_some_iff.1 h1
   generalize elems[i]=q at*
   obtain⟨ys,n'',rfl,rfl,hcl,hyl,hf⟩:=DataW.trod_struct Tryz.underlying81 ht'
   rw[cells_chunk] at hcl
   obtain⟨v0,v1,v2,v3,v4,rfl⟩:=five hcl
   obtain⟨y0,y1,y2,y3,y4,rfl⟩:=five hyl
   have f0:DataW.trod enc Tryz.prog W base spare held n'' 9 [v0]=some y0:=by simpa[cells_string] using hf 0 _ rfl
   have f1:DataW.trod enc Tryz.prog W base spare held n'' 9 [v1]=some y1:=by simpa[cells_string] using hf 1 _ rfl
   have f2:DataW.trod enc Tryz.prog W base spare held n'' 3 [v2]=some y2:=by simpa[cells_string,cells_int] using hf 2 _ rfl
   have f3:DataW.trod enc Tryz.prog W base spare held n'' 3 [v3]=some y3:=by simpa[cells_string,cells_int] using hf 3 _ rfl
   have f4:DataW.trod enc Tryz.prog W base spare held n'' 4 [v4]=some y4:=by simpa[cells_string,cells_int,cells_bool] using hf 4 _ rfl
   obtain⟨s0,e0,_⟩:=DataW.trod_string Tryz.underlying9 f0
   obtain⟨s1,e1,_⟩:=DataW.trod_string Tryz.underlying9 f1
   obtain⟨i2,e2,_⟩:=DataW.trod_int Tryz.underlying3 f2
   obtain⟨i3,e3,_⟩:=DataW.trod_int Tryz.underlying3 f3
   obtain⟨b4,e4,_⟩:=DataW.trod_bool Tryz.underlying4 f4
   simp only[List.cons.injEq,and_true] at e0 e1 e2 e3 e4
   subst e0 e1 e2 e3 e4
   exact⟨⟨s0,s1,i2,i3,b4⟩,hcs'⟩
  obtain⟨x0,h0⟩:=step 0 hp
  obtain⟨b,off,ha,hc0⟩:=cells_at h0 (by omega)
  have ha':a=⟨b,off,none⟩:=by simpa[Addr.add] using ha
  subst ha'
  have hbl:=World.block_lt_of_cell? W _ ((hc0 0 (by omega)).trans (show(recC x0)[0]?=some _ from rfl))
  obtain⟨f,hf⟩:=choose_fn (p:=fun i (x:Ch)=>∀j,j<5→W.cell? ⟨b,off+i*5+j,none⟩=(recC x)[j]?) x0 len (fun i hi=>by
   obtain⟨x,hcs'⟩:=step i hi
   rw[addr_add] at hcs'
   obtain⟨b',off',ha',hc⟩:=cells_at hcs' (by omega)
   injection ha' with e1 e2
   subst e1 e2
   exact⟨x,hc⟩)
  refine⟨_,len,cap,(List.range len).map f,rfl,⟨⟨by simp,hlc,fun _=>⟨b,off,rfl,hbl,fun i x hi j u hj=>?_⟩⟩,hsz⟩⟩
  have hlt:i<len:=by have:=(List.getElem?_eq_some_iff.1 hi).1;simpa using this
  rw[List.getElem?_map,List.getElem?_range hlt] at hi
  simp only[Option.map_some,Option.some.injEq] at hi
  subst hi
  have hj5:j<5:=by have:=(List.getElem?_eq_some_iff.1 hj).1;rwa [recC_length] at this
  rw[hf i hlt j hj5]
  exact hj
theorem read_routes(fuel:Nat)(cs:List Value)(y:DataW H×List MemPlace)(h:DataW.trod enc Tryz.prog W base spare held fuel 27 cs=some y)(hw:Light 27 y.1):
 ∃(a:RA) (R:Ro),cs=(rarr a R).toList∧RR W a R:=by
 obtain⟨ys,n1,rfl,rfl,hcl,hyl,hf⟩:=DataW.trod_struct Tryz.underlying27 h
 rw[cells_routes] at hcl
 obtain⟨v0,v1,v2,v3,v4,v5,rfl⟩:=six hcl
 obtain⟨y0,y1,y2,y3,y4,rfl⟩:=five hyl
 have f0:DataW.trod enc Tryz.prog W base spare held n1 9 [v0]=some y0:=by simpa[cells_string] using hf 0 _ rfl
 have f1:DataW.trod enc Tryz.prog W base spare held n1 24 [v1,v2]=some y1:=by simpa[cells_string,cells_key] using hf 1 _ rfl
 have f2:DataW.trod enc Tryz.prog W base spare held n1 3 [v3]=some y2:=by simpa[cells_string,cells_key,cells_int] using hf 2 _ rfl
 have f3:DataW.trod enc Tryz.prog W base spare held n1 3 [v4]=some y3:=by simpa[cells_string,cells_key,cells_int] using hf 3 _ rfl
 have f4:DataW.trod enc Tryz.prog W base spare held n1 25 [v5]=some y4:=by simpa[cells_string,cells_key,cells_int,cells_chunks] using hf 4 _ rfl
 simp only[Light,DataW.weights,Tryz.underlying27,List.map,DataW.weightsEach,List.mem_append] at hw
 obtain⟨sp,e0,rfl,_⟩:=DataW.trod_string Tryz.underlying9 f0
 obtain⟨ep,e2,_⟩:=DataW.trod_int Tryz.underlying3 f2
 obtain⟨ve,e3,_⟩:=DataW.trod_int Tryz.underlying3 f3
 simp only[List.cons.injEq,and_true] at e0 e2 e3
 subst e0 e2 e3
 have w1:∀z∈y1.1.weights Tryz.prog 24,z≤reach0:=fun z hz=>hw z (.inr (.inl hz))
 have w4:Light 25 y4.1:=fun z hz=>hw z (.inr (.inr (.inr (.inr (.inl hz)))))
 obtain⟨ys,n2,rfl,rfl,hcl2,hyl2,hf2⟩:=DataW.trod_struct Tryz.underlying24 f1
 obtain⟨z0,z1,rfl⟩:=two hyl2
 have g0:DataW.trod enc Tryz.prog W base spare held n2 22 [v1]=some z0:=by simpa[cells_orders] using hf2 0 _ rfl
 have g1:DataW.trod enc Tryz.prog W base spare held n2 4 [v2]=some z1:=by simpa[cells_orders,cells_bool] using hf2 1 _ rfl
 simp only[DataW.weights,Tryz.underlying24,List.map,DataW.weightsEach,List.mem_append] at w1
 obtain⟨KA,kn,kc,ks,rfl,hk⟩:=read_orders n2 g0 (fun z hz=>w1 z (.inl hz))
 obtain⟨ha,e5,rfl⟩:=DataW.trod_bool Tryz.underlying4 g1
 simp only[List.cons.injEq,and_true] at e5
 subst e5
 obtain⟨CA,cn,cc,cs,rfl,hc⟩:=read_chunks _ f4 w4
 exact⟨⟨KA,kn,kc,CA,cn,cc⟩,⟨sp,ks,ha,ep,ve,cs⟩,rfl,Nat.le_trans (hw sp.size (.inl (by simp[DataW.weights]))) le_reach,hk,hc⟩
end
section
variable {H:Type} {enc:TypeId×Value→H} {W:World} {base:Nat} {spare:Nat→Bool} {held:Bool}
end
structure Wx where
 kd:Int
 sp:ByteArray
 kc:VC
 key:Val
 dc:VC
 doc:Val
 A:Option Addr
 m:Nat
 c:Nat
structure IsW(w:World)(cs:List Value)(x:Wx):Prop where
 len:cs.length=78
 h0:cs[0]?=some (.int .i64 x.kd)
 h1:cs[1]?=some (.string x.sp)
 hk:∀(j:Nat) (u:Value),x.kc.list[j]?=some u→cs[2+j]?=some u
 hd:∀(j:Nat) (u:Value),x.dc.list[j]?=some u→cs[7+j]?=some u
 hw:cs[75]?=some (.slice x.A x.m x.c)
 sz:x.sp.size≤reach
 key:RW w x.kc x.key
 doc:RW w x.dc x.doc
theorem IsW.step{w w':World}{cs:List Value}{x:Wx}(h:IsW w cs x)(hb:Below w.heap.size w w'):IsW w' cs x:=⟨h.len,h.h0,h.h1,h.hk,h.hd,h.hw,h.sz,h.key.step hb,h.doc.step hb⟩
abbrev PX:=List Value×Wx
theorem twelve{α:Type}{l:List α}(h:l.length=12):∃a0 a1 a2 a3 a4 a5 a6 a7 a8 a9 a10 a11,l=[a0,a1,a2,a3,a4,a5,a6,a7,a8,a9,a10,a11]:=by
 match l,h with
 | [a0,a1,a2,a3,a4,a5,a6,a7,a8,a9,a10,a11],_=>exact⟨_,_,_,_,_,_,_,_,_,_,_,_,rfl⟩
theorem take_drop_at{cs l:List Value}{o n:Nat}(e:(cs.drop o).take n=l)(j:Nat)(u:Value)(h:l[j]?=some u):cs[o+j]?=some u:=by
 rw[←e,List.getElem?_take] at h
 split at h
 ·rw[List.getElem?_drop] at h;exact h
 ·cases h
theorem cells_write:Tryz.prog.cellsOf 67=78:=by kernel_rfl
theorem cells_writes:Tryz.prog.cellsOf 33=1:=by kernel_rfl
theorem cells_values1:Tryz.prog.cellsOf 42=1:=by kernel_rfl
section
variable {H:Type} {enc:TypeId×Value→H} {W:World} {base:Nat} {spare:Nat→Bool} {held:Bool}
end
end Go.Proofs.YtlicnjecnehaoaaGreatDoor
