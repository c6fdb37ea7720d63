/- Parts of the proof, joined: LfSmall, ValTabs, ValSoundF, ValUtf8, ValCountP. -/
import Derived.Test.YtfkdihlbaghajaaGreatDoorOf1
import Derived.Test.YtfkdihlbaghajaaGreatDoorOf2
import Derived.Shelf.Unicode.DecodeSlow
import Derived.Maps.Own
import Derived.Maps.OwnSet
import Derived.StringKeys
import Derived.Ground.NamesProg
import Derived.Shelf.Unicode.ValidAny
set_option maxRecDepth 100000
set_option maxHeartbeats 16000000
set_option linter.unusedSimpArgs false
namespace Go.Proofs.YtfkdihlbaghajaaGreatDoor
open Go.RowKit
abbrev Two(op:Int):Prop:=op=2∨op=5
theorem pUsesArgs_any{op:Int}(h:Two op)(w:World):Calls Tryz.prog 270 #[.int .i64 op] w fun e w'=>e=.returned (.bool false)∧w'=w:=by
 rcases h with rfl|rfl
 all_goals
  go_enter Tryz.func270,Tryz.ntmps270
  go_wp2_with fail
  go_ret
  exact⟨rfl,rfl⟩
theorem pOfTexts_any{op:Int}(h:Two op)(w:World):Calls Tryz.prog 274 #[.int .i64 op] w fun e w'=>e=.returned (.bool false)∧w'=w:=by
 rcases h with rfl|rfl
 all_goals
  go_enter Tryz.func274,Tryz.ntmps274
  go_wp2_with fail
  go_ret
  exact⟨rfl,rfl⟩
theorem pUsesN_any{op:Int}(h:Two op)(w:World):Calls Tryz.prog 294 #[.int .i64 op] w fun e w'=>e=.returned (.bool false)∧w'=w:=by
 rcases h with rfl|rfl
 all_goals
  go_enter Tryz.func294,Tryz.ntmps294
  go_wp2_with fail
  go_ret
  exact⟨rfl,rfl⟩
theorem pOnPath_any{op:Int}(h:Two op)(w:World):Calls Tryz.prog 211 #[.int .i64 op] w fun e w'=>e=.returned (.bool true)∧w'=w:=by
 rcases h with rfl|rfl
 all_goals
  go_enter Tryz.func211,Tryz.ntmps211
  go_wp2_with fail
  go_ret
  exact⟨rfl,rfl⟩
theorem bOnPath_any{op:Int}(h:Two op)(w:World):Calls Tryz.prog 169 #[.int .i64 op] w fun e w'=>e=.returned (.bool true)∧w'=w:=by
 rcases h with rfl|rfl
 all_goals
  go_enter Tryz.func169,Tryz.ntmps169
  go_wp2_with fail
  go_ret
  exact⟨rfl,rfl⟩
theorem pUsesArg_any{op:Int}(h:Two op)(w:World):Calls Tryz.prog 273 #[.int .i64 op] w fun e w'=>e=.returned (.bool true)∧w'=w:=by
 rcases h with rfl|rfl
 all_goals
  go_enter Tryz.func273,Tryz.ntmps273
  go_wp2_with fail
  go_ret
  exact⟨rfl,rfl⟩
theorem pHasKids_any{op:Int}(h:Two op)(w:World):Calls Tryz.prog 269 #[.int .i64 op,.int .i64 0] w fun e w'=>e=.returned (.bool true)∧w'=w:=by
 rcases h with rfl|rfl
 all_goals
  go_enter Tryz.func269,Tryz.ntmps269
  go_wp2_with fail
  go_ret
  exact⟨rfl,rfl⟩
structure Lf(op:Int)(p:PrT):Prop where
 op_:p.op=op
 xs:p.path.xs=[(⟨#[97]⟩:ByteArray)]
 arg:p.arg=(⟨3,1,ByteArray.empty,none,0,0,none,0,0⟩,.mk 3 1 ByteArray.empty [] [])
 args:p.args.xs=[]
 argn:p.args.n=0
 kids:p.kids=[]
 kn:p.kn=0
 n0:p.n=0
 m0:p.m=0
 sk:p.sk=0
 sr:p.sr=0
 pn:p.pts.n=0
 xop:p.ex.op=0
 xpn:p.ex.path.n=0
 xnm:p.ex.name=ByteArray.empty
 xns:p.ex.names.n=0
 xar:p.ex.arg=(VC.zero,Val.zero)
 xn:p.ex.n=0
 xk:p.ex.kn=0
theorem pInRange_any{op:Int}{p:PrT}(h:Lf op p)(ho:Two op)(w:World):Calls Tryz.prog 271 #[aggPr p] w fun e w'=>e=.returned (.bool true)∧Below w.heap.size w w':=by
 have B0:Hid (Blk (w.alloc (.cells (arrPr p) 41)) w.heap.size 41 (arrPr p)):=Blk.new_at rfl
 have BE:=qD ((Below.refl w.heap.size w).alloc (qL) (Obj.cells (arrPr p) 41))
 go_enter Tryz.func271,Tryz.ntmps271
 go_upto_region 1 with fail
 change Code.wp _ _ _ _ (w.alloc (.cells (arrPr p) 41))
 generalize w.alloc (.cells (arrPr p) 41)=wa at*
 have d0:=(pr_cells B0.out).d0
 rw[h.op_] at d0
 clear h
 rcases ho with rfl|rfl
 all_goals
  go_wp2_with fail
  go_ret
  exact⟨rfl,BE.out⟩
theorem pIsZero_any(w:World):Calls Tryz.prog 293 #[.agg #[.int .i64 0,.int .i64 0,.string ByteArray.empty,.slice none 0 0,.slice none 0 0]] w fun e w'=>e=.returned (.bool true)∧Below w.heap.size w w':=by
 go_enter Tryz.func293,Tryz.ntmps293
 go_wp2_with fail
 go_ret
 exact⟨rfl,(Below.refl _ _).alloc (qL) _⟩
theorem pZeroExpr_any{op:Int}{p:PrT}(h:Lf op p)(w:World):Calls Tryz.prog 295 #[aggEx p.ex] w fun e w'=>e=.returned (.bool true)∧Below w.heap.size w w':=by
 have B0:Hid (Blk (w.alloc (.cells (arrEx p.ex) 38)) w.heap.size 38 (arrEx p.ex)):=Blk.new_at rfl
 have BE:=qD ((Below.refl w.heap.size w).alloc (qL) (Obj.cells (arrEx p.ex) 38))
 go_enter Tryz.func295,Tryz.ntmps295
 go_upto_region 1 with fail
 change Code.wp _ _ _ _ (w.alloc (.cells (arrEx p.ex) 38))
 generalize w.alloc (.cells (arrEx p.ex) 38)=wa at*
 obtain⟨d0,d1,d2,d3,d9,d10⟩:=ex_cells B0.out
 have c4:=(B0.out.cell 4).trans (show _=some (Value.int .i64 p.ex.arg.1.k) from rfl)
 have c5:=(B0.out.cell 5).trans (show _=some (Value.int .i64 p.ex.arg.1.n) from rfl)
 have c6:=(B0.out.cell 6).trans (show _=some (Value.string p.ex.arg.1.t) from rfl)
 have c7:=(B0.out.cell 7).trans (show _=some (Value.slice p.ex.arg.1.LA p.ex.arg.1.ln p.ex.arg.1.lc) from rfl)
 have c8:=(B0.out.cell 8).trans (show _=some (Value.slice p.ex.arg.1.DA p.ex.arg.1.dn p.ex.arg.1.dc) from rfl)
 rw[h.xop] at d0
 rw[h.xpn] at d1
 rw[h.xnm] at d2
 rw[h.xns] at d3
 rw[h.xn] at d9
 rw[h.xk] at d10
 rw[h.xar] at c4 c5 c6 c7 c8
 simp only[VC.zero] at c4 c5 c6 c7 c8
 clear h
 go_wp2_with fail
 refine(pIsZero_any wa).mono ?_
 rintro e w1 ⟨rfl,hb⟩
 have CE:=qD (BE.out.step' hb)
 replace d9:=(hb.cell (p:=⟨w.heap.size,9,none⟩) B0.out.lt).trans d9
 replace d10:=(hb.cell (p:=⟨w.heap.size,10,none⟩) B0.out.lt).trans d10
 clear hb c4 c5 c6 c7 c8 d0 d1 d2 d3
 go_wp2_with fail
 go_ret
 exact⟨rfl,CE.out⟩
def Tabs(w:World):Prop:=Lib.Utf8Tabs 2 3 w
theorem Tabs.step{w w':World}(h:Tabs w)(hb:Below w.heap.size w w'):Tabs w':=Utf8Tabs_below h hb
theorem Tabs.alloc{w:World}(h:Tabs w)(o:Obj):Tabs (w.alloc o):=h.step ((Below.refl _ _).alloc (qL) o)
open Go.Maps Go.WideMaps
noncomputable def seenB(s:ByteArray)(l:List ByteArray):Bool:=@decide (s∈l) (Classical.propDecidable _)
theorem seenB_true{s:ByteArray}{l:List ByteArray}:seenB s l=true↔s∈l:=by unfold seenB;exact @decide_eq_true_iff _ (Classical.propDecidable _)
theorem seenB_false{s:ByteArray}{l:List ByteArray}:seenB s l=false↔s∉l:=by unfold seenB;exact @decide_eq_false_iff_not _ (Classical.propDecidable _)
def SoundAt(x:Val):Prop:=∀(c:VC) (w:World),Tabs w→RW w c x→
 Calls Tryz.prog 173 #[c.val] w fun e w'=>e=.returned (.bool (soundB nameB x))∧Below w.heap.size w w'
theorem zeroBool(w:World):(zeroValue 4).run Tryz.prog w=.ok (.bool false) w:=by kernel_rfl
theorem lawString:Keyed Tryz.prog 9:=string_keyed Tryz.underlying9
theorem plainElem_bool_inv{P:Program}{e:TypeId}(he:P.underlying e=some .bool){v:Value}{z:DataW Unit×List MemPlace}(h:plainElem P e v=some z):∃a,v=.bool a∧z=(.lit (.bool a),[]):=by
 unfold plainElem at h
 rw[he] at h
 cases v<;>simp at h
 exact⟨_,rfl,h.symm⟩
theorem ownsMap_step{w w':World}{P:Program}{k:TypeId}{R:Value→Option (DataW Unit×List MemPlace)}{b n:Nat}{D:DataW Unit}(h:w.ownsMap P k R b n D)(hb:Below w.heap.size w w'):w'.ownsMap P k R b n D:=by
 have hlt:=h.lt
 obtain⟨es,clock,h1,F,hs,hD⟩:=h
 exact⟨es,clock,(hb.block b hlt).trans h1,F,hs,hD⟩
structure SeenP(d:List Fld)(i g:Nat)(D:DataW Unit)(wr:World):Prop where
 own:wr.ownsMap Tryz.prog 9 (plainElem Tryz.prog 4) g i D
 at_:∀s:ByteArray,D.atKey (.string s.data.toList) (.lit (.bool false))=.lit (.bool (seenB s ((d.take i).map Fld.s)))
theorem SeenP.look{d:List Fld}{i g:Nat}{D:DataW Unit}{wr:World}(h:SeenP d i g D wr)(s:ByteArray)(hs:s.size≤reach):
 (Instr.lookup 251 (.map (some g)) (.string s) false).run Tryz.prog wr=.ok (.bool (seenB s ((d.take i).map Fld.s))) wr:=by
 obtain⟨v,ps,hrun,hv⟩:=h.own.lookup lawString Tryz.underlying251 (zeroBool wr) (plainElem_bool Tryz.underlying4 false) (keyOf_string_mk Tryz.underlying9 (s:=s) (by unfold reach at hs;unfold maxLen;omega))
 obtain⟨a,rfl,hz⟩:=plainElem_bool_inv Tryz.underlying4 hv
 rw[h.at_] at hz
 have e1:=congrArg Prod.fst hz
 injection e1 with e2
 injection e2 with e3
 rw[hrun,e3]
theorem SeenP.step{d:List Fld}{i g:Nat}{D:DataW Unit}{wr w':World}(h:SeenP d i g D wr)(hb:Below wr.heap.size wr w'):SeenP d i g D w':=⟨ownsMap_step h.own hb,h.at_⟩
theorem SeenP.next{d:List Fld}{i g:Nat}{D:DataW Unit}{wr w':World}{f:Fld}(h:SeenP d i g D wr)(hf:d[i]?=some f)(ho:w'.ownsMap Tryz.prog 9 (plainElem Tryz.prog 4) g (i+1) (D.put (.string f.s.data.toList) (.lit (.bool true)))):
 SeenP d (i+1) g (D.put (.string f.s.data.toList) (.lit (.bool true))) w':=by
 refine⟨ho,fun s=>?_⟩
 by_cases e:s=f.s
 ·subst e
  rw[atKey_put_same h.own.isMap (by simp[WideAt.IsKeyLit]),seenB_true.2 (by simp[take_snoc' hf])]
 ·have hne:(Lit.string s.data.toList)≠Lit.string f.s.data.toList:=fun h=>e (Go.WideShapes.bytes_inj (by injection h))
  rw[atKey_put_other hne,h.at_]
  cases hq:seenB s ((d.take i).map Fld.s)
  ·rw[seenB_false.2 (by have:=seenB_false.1 hq;rw[take_snoc' hf];simp only[List.map_append,List.mem_append,List.map_cons,List.map_nil,List.mem_singleton];exact fun h=>h.elim this e)]
  ·rw[seenB_true.2 (by have:=seenB_true.1 hq;rw[take_snoc' hf];simp only[List.map_append,List.mem_append];exact .inl this)]
theorem SeenP.made(d:List Fld)(w:World):SeenP d 0 w.heap.size (.map []) (w.alloc (.map #[] 0)):=⟨World.ownsMap_made w _ _ _,fun s=>by rw[seenB_false.2 (by simp)];rfl⟩
theorem soundFields_any(ps:List PF)(A:Option Addr)(n c:Nat)(w:World)(h:SD (fun _=>True) w A n c ps)(hT:Tabs w)(ih:∀p∈ps,SoundAt p.2.v):
 Calls Tryz.prog 227 #[.slice A n c] w fun e w'=>e=.returned (.bool (fieldsB nameB (ps.map Prod.snd)))∧Below w.heap.size w w':=by
 have H:=qD h
 have HT:=qD hT
 have IH:=qD ih
 have hz:=h.sz
 unfold reach at hz
 have HN:=qD h.sr.ln
 have hmm:=@run_makeMap Tryz.prog
 clear h hT ih
 go_enter Tryz.func227,Tryz.ntmps227
 go_wp2_with fail
 clear hmm
 go_loopw [9] (fun v9 wr=>∃(i:Nat) (D:DataW Unit),i≤n∧v9=.int .i64 i∧FieldsP nameB ((ps.map Prod.snd).take i)∧SeenP (ps.map Prod.snd) i w.heap.size D wr∧Below w.heap.size w wr) (fun v9 _=>n-(intOf v9).toNat)
 case atStart=>exact⟨0,.map [],Nat.zero_le _,rfl,by rw[List.take_zero];exact FieldsP.nil,SeenP.made _ w,(Below.refl _ _).alloc (qL) _⟩
 case round=>
  obtain⟨i,D,hi,rfl,hF,hS,hB⟩:=hrel
  have HF:=qD hF
  have HS:=qD hS
  have HB:=qD hB
  by_cases hlt:i<n
  ·obtain⟨p,hp⟩:∃p,ps[i]?=some p:=⟨_,List.getElem?_eq_getElem (by have:=HN.out;omega)⟩
   have hd:(ps.map Prod.snd)[i]?=some p.2:=by rw[List.getElem?_map,hp];rfl
   have hmem:=List.mem_of_getElem? hp
   have hsz:=H.out.ns p hmem
   obtain⟨b,off,rfl,_,hs,hu,hr⟩:=H.out.vat hp
   obtain⟨y0,y1,y2,y3,y4⟩:=hu.keep (hB.block b hu.lt)
   have n0:=(hB.cell (p:=⟨b,off+i*6,none⟩) hu.lt).trans hs
   have hb:b<wr.heap.size:=by have:=hu.lt;have:=hB.size;omega
   have hA1:=(Below.refl wr.heap.size wr).alloc (qL) (Obj.cells #[.string p.2.s,.int .i64 p.1.k,.int .i64 p.1.n,.string p.1.t,.slice p.1.LA p.1.ln p.1.lc,.slice p.1.DA p.1.dn p.1.dc] 120)
   have look:=(hS.step hA1).look p.2.s hsz
   have HS1:=qD (hS.step hA1)
   have HB1:=qD (hB.step' hA1)
   have HR:=qD ((hr.step hB).step hA1)
   have HT1:=qD ((HT.out.step hB).step hA1)
   have HBk:Hid (Blk (wr.alloc (.cells #[.string p.2.s,.int .i64 p.1.k,.int .i64 p.1.n,.string p.1.t,.slice p.1.LA p.1.ln p.1.lc,.slice p.1.DA p.1.dn p.1.dc] 120)) wr.heap.size 120 #[.string p.2.s,.int .i64 p.1.k,.int .i64 p.1.n,.string p.1.t,.slice p.1.LA p.1.ln p.1.lc,.slice p.1.DA p.1.dn p.1.dc]):=Blk.new_at rfl
   have HD:=qD hd
   have HC:=qD (IH.out p hmem)
   clear hp hd hmem hs hu hr hF hS hB hA1
   cases hnm:nameB p.2.s
   ·have HV:=qD (fieldsB_false (FieldsP.not_name HD.out hnm))
    go_wp2_with fail
    refine(isName_any _ _).mono ?_
    rintro e w' ⟨rfl,rfl⟩
    rw[hnm]
    go_wp2_with fail
    go_ret
    exact⟨by rw[HV.out];rfl,HB1.out⟩
   cases hsn:seenB p.2.s (((ps.map Prod.snd).take i).map Fld.s)
   rotate_left
   ·have HV:=qD (fieldsB_false (nm:=nameB) (FieldsP.not_new HD.out (seenB_true.1 hsn)))
    rw[hsn] at look
    clear hsn
    go_wp2_with fail
    refine(isName_any _ _).mono ?_
    rintro e w' ⟨rfl,rfl⟩
    rw[hnm]
    go_wp2_with fail
    go_ret
    exact⟨by rw[HV.out];rfl,HB1.out⟩
   have HNew:=qD (seenB_false.1 hsn)
   rw[hsn] at look
   clear hsn
   go_wp2_with fail
   refine(isName_any _ _).mono ?_
   rintro e w' ⟨rfl,rfl⟩
   rw[hnm]
   go_wp2_with fail
   refine(HC.out p.1 _ HT1.out HR.out).mono ?_
   rintro e w2 ⟨rfl,hb2⟩
   clear look y0 y1 y2 y3 y4 n0
   have HB2:=qD (HB1.out.step' hb2)
   have k0:=(HBk.out.step hb2).cell 0
   simp at k0
   cases hso:soundB nameB p.2.v
   ·have HV:=qD (fieldsB_false (nm:=nameB) (FieldsP.not_sound HD.out (soundB_not.1 hso)))
    clear hb2
    go_wp2_with fail
    go_ret
    exact⟨by rw[HV.out];rfl,HB2.out⟩
   ·have HX:=qD (HF.out.next HD.out hnm HNew.out (soundB_iff.1 hso))
    have HS2:=qD (HS1.out.step hb2)
    have hsz2:=hb2.size
    clear hb2
    go_wp2_with (at_mapUpdate;refine wpList_mapUpdate_own _ rfl _ _ _ 251 rfl 9 4 lawString Tryz.underlying251 _ w.heap.size i D rfl HS2.out.own (by unfold maxLen;omega) _ _ _ rfl rfl (keyOf_string_mk Tryz.underlying9 (s:=p.2.s) (by unfold reach at hsz;unfold maxLen;omega)) _ [] (plainElem_bool Tryz.underlying4 true) ?_;intro w3 hown3 hgrow3)
    have HS3:=qD (HS2.out.next HD.out hown3)
    have HB3:=qD (HB2.out.grown hgrow3 (by have:=HB2.out.size;omega) (fun k hk=>by simp at hk;omega))
    clear hown3 hgrow3 k0
    go_wp2_with fail
    go_roundw
    case rel=>exact⟨i+1,_,by omega,by go_num,HX.out,HS3.out,HB3.out⟩
    case measure=>simp[intOf];omega
  ·have HV:Hid (fieldsB nameB (ps.map Prod.snd)=true):=by
    have:=HF.out
    rw[List.take_of_length_le (by simp;have:=HN.out;omega)] at this
    exact fieldsB_true this
   clear hF hS hB
   go_wp2_with fail
   go_ret
   exact⟨by rw[HV.out];rfl,HB.out⟩
open Go.Shelf
def laysValid_ren:Go.Shelf.Ren:=⟨fun|196=>226|259=>257|n=>n,fun|9=>9|4=>4|3=>3|5=>5|12=>12|119=>247|0=>0|46=>129|139=>250|138=>249|53=>185|n=>n,fun|3=>2|4=>3|n=>n⟩
theorem laysValid:Go.Proofs.Lays.n196 Tryz.prog laysValid_ren:={
 mixed:=by kernel_rfl
 f196:=Tryz.func226.trans (congrArg some (by kernel_rfl))
 f259:=Tryz.func257.trans (congrArg some (by kernel_rfl))
 t0:=Tryz.underlying0
 a0:=Tryz.isAgg0
 z0:=Tryz.sizeOf0
 v0:=Tryz.zeroValue0
 t3:=Tryz.underlying3
 a3:=Tryz.isAgg3
 z3:=Tryz.sizeOf3
 v3:=Tryz.zeroValue3
 t4:=Tryz.underlying4
 a4:=Tryz.isAgg4
 z4:=Tryz.sizeOf4
 v4:=Tryz.zeroValue4
 t5:=Tryz.underlying5
 a5:=Tryz.isAgg5
 z5:=Tryz.sizeOf5
 v5:=Tryz.zeroValue5
 t9:=Tryz.underlying9
 a9:=Tryz.isAgg9
 z9:=Tryz.sizeOf9
 v9:=Tryz.zeroValue9
 t12:=Tryz.underlying12
 a12:=Tryz.isAgg12
 z12:=Tryz.sizeOf12
 v12:=Tryz.zeroValue12
 t46:=Tryz.underlying129
 a46:=Tryz.isAgg129
 z46:=Tryz.sizeOf129
 v46:=Tryz.zeroValue129
 t53:=Tryz.underlying185
 a53:=Tryz.isAgg185
 z53:=Tryz.sizeOf185
 v53:=Tryz.zeroValue185
 t119:=Tryz.underlying247
 a119:=Tryz.isAgg247
 z119:=Tryz.sizeOf247
 t138:=Tryz.underlying249
 a138:=Tryz.isAgg249
 z138:=Tryz.sizeOf249
 v138:=Tryz.zeroValue249
 t139:=Tryz.underlying250
 a139:=Tryz.isAgg250
 z139:=Tryz.sizeOf250
 v139:=Tryz.zeroValue250
 g3:=by kernel_rfl
 g4:=by kernel_rfl}
theorem validString_any(s:ByteArray)(w:World)(hs:s.size≤reach)(hT:Tabs w):Calls Tryz.prog 226 #[.string s] w fun e w'=>e=.returned (.bool (utf8B s))∧Below w.heap.size w w':=
 Any.utf8_ValidString laysValid s w (by unfold reach at hs;omega) hT
def nodesV(x:Val):Int:=nodesI x 1025
def depthV(x:Val):Int:=depthI x 17
theorem nodesV_any(x:Val)(c:VC)(w:World)(h:RW w c x):Calls Tryz.prog 171 #[c.val] w fun e w'=>e=.returned (.int .i64 (nodesV x))∧Below w.heap.size w w':=by
 have H:=qD h
 clear h
 go_enter Tryz.func171,Tryz.ntmps171
 go_wp2_with fail
 refine(nodes_any x c 1025 _ (H.out.alloc _) (by omega) (by omega)).mono ?_
 rintro e w1 ⟨rfl,hb⟩
 go_wp2_with fail
 go_ret
 exact⟨rfl,((Below.refl _ _).alloc (qL) _).step' hb⟩
theorem depthV_any(x:Val)(c:VC)(w:World)(h:RW w c x):Calls Tryz.prog 172 #[c.val] w fun e w'=>e=.returned (.int .i64 (depthV x))∧Below w.heap.size w w':=by
 have H:=qD h
 clear h
 go_enter Tryz.func172,Tryz.ntmps172
 go_wp2_with fail
 refine(depth_any x c 17 _ (H.out.alloc _) (by omega) (by omega)).mono ?_
 rintro e w1 ⟨rfl,hb⟩
 go_wp2_with fail
 go_ret
 exact⟨rfl,((Below.refl _ _).alloc (qL) _).step' hb⟩
end Go.Proofs.YtfkdihlbaghajaaGreatDoor
