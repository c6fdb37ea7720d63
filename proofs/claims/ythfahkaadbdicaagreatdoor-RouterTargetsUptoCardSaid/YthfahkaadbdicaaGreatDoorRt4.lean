/- Parts of the proof, joined: ValTabs, ValSoundF, ValUtf8, ValCountP. -/
import Derived.Test.YthfahkaadbdicaaGreatDoorRt1
import Derived.Test.YthfahkaadbdicaaGreatDoorRt2
import Derived.Shelf.Unicode.DecodeSlow
import Derived.Maps.Own
import Derived.Maps.OwnSet
import Derived.StringKeys
import Derived.Ground.NamesProg
import Derived.Shelf.Unicode.ValidAny
set_option maxRecDepth 100000
set_option maxHeartbeats 16000000
set_option linter.unusedSimpArgs false
open Go.Proofs.Tryz
open ByteArray (empty)
namespace Go.Proofs.YthfahkaadbdicaaGreatDoor
open Go.RowKit
def cg(w:World):Prop:=Lib.Utf8Tabs 0 1 w
theorem cg.step{w w':World}(h:cg w)(hb:Below w.heap.size w w'):cg w':=Utf8Tabs_below h hb
theorem cg.alloc{w:World}(h:cg w)(o:Obj):cg (w.alloc o):=h.step ((LH _ _).alloc (qL) o)
open Go.Maps Go.WideMaps
noncomputable def oO(s:ByteArray)(l:List ByteArray):Bool:=@decide (s∈l) (Classical.propDecidable _)
theorem jg{s:ByteArray}{l:List ByteArray}:oO s l=true↔s∈l:=by unfold oO;exact @NJ _ (Classical.propDecidable _)
theorem il{s:ByteArray}{l:List ByteArray}:oO s l=false↔s∉l:=by unfold oO;exact @Oi _ (Classical.propDecidable _)
def AU(x:aC):Prop:=∀(c:VC) (w:World),cg w->RW w c x->
 Calls prog 78 #[c.val] w fun e w'=>e=.returned (.bool (aP aN x))/\Below w.heap.size w w'
theorem Ea(w:World):(zeroValue 4).run prog w=.ok (.bool false) w:=by kernel_rfl
theorem sU:Keyed prog 9:=string_keyed MB
theorem mC{P:Program}{e:TypeId}(he:P.underlying e=some .bool){v:Value}{z:DataW Unit×List MemPlace}(h:plainElem P e v=some z):∃a,v=.bool a/\z=(.lit (.bool a),[]):=by
 unfold plainElem at h;rw[he] at h;cases v<;>simp at h
 exact⟨_,rfl,h.symm⟩
theorem tt{w w':World}{P:Program}{k:TypeId}{R:Value->Option (DataW Unit×List MemPlace)}{b n:Nat}{D:DataW Unit}(h:w.ownsMap P k R b n D)(hb:Below w.heap.size w w'):w'.ownsMap P k R b n D:=by
 have hlt:=h.lt;obtain⟨es,clock,h1,F,hs,hD⟩:=h;exact⟨es,clock,(hb.block b hlt).trans h1,F,hs,hD⟩
structure jo(d:List bf)(i g:Nat)(D:DataW Unit)(wr:World):Prop where
 own:wr.ownsMap prog 9 (plainElem prog 4) g i D
 at_:∀s:ByteArray,D.atKey (.string s.data.toList) (.lit (.bool false))=.lit (.bool (oO s ((d.take i).map bf.s)))
theorem jo.look{d:List bf}{i g:Nat}{D:DataW Unit}{wr:World}(h:jo d i g D wr)(s:ByteArray)(hs:s.size<=aF):
 (Instr.lookup 194 (.map (some g)) (.string s) false).run prog wr=.ok (.bool (oO s ((d.take i).map bf.s))) wr:=by
 obtain⟨v,ps,hrun,hv⟩:=h.own.lookup sU underlying194 (Ea wr) (plainElem_bool NL false) (keyOf_string_mk MB (s:=s) (by unfold aF at hs;unfold maxLen;omega));obtain⟨a,rfl,hz⟩:=mC NL hv;rw[h.at_] at hz;have e1:=congrArg Prod.fst hz;injection e1 with e2
 injection e2 with e3
 rw[hrun,e3]
theorem jo.step{d:List bf}{i g:Nat}{D:DataW Unit}{wr w':World}(h:jo d i g D wr)(hb:Below wr.heap.size wr w'):jo d i g D w':=⟨tt h.own hb,h.at_⟩
theorem jo.next{d:List bf}{i g:Nat}{D:DataW Unit}{wr w':World}{f:bf}(h:jo d i g D wr)(hf:d[i]?=some f)(ho:w'.ownsMap prog 9 (plainElem prog 4) g (i+1) (D.put (.string f.s.data.toList) (.lit (.bool true)))):
 jo d (i+1) g (D.put (.string f.s.data.toList) (.lit (.bool true))) w':=by
 refine⟨ho,fun s=>?_⟩;by_cases e:s=f.s
 ·subst e;rw[atKey_put_same h.own.isMap (by simp[WideAt.IsKeyLit]),jg.2 (by simp[take_snoc' hf])]
 ·have hne:(Lit.string s.data.toList)≠Lit.string f.s.data.toList:=fun h=>e (OE (by injection h));rw[atKey_put_other hne,h.at_];cases hq:oO s ((d.take i).map bf.s)
  ·rw[il.2 (by have:=il.1 hq;rw[take_snoc' hf];simp only[Lc,LY,Mb,NR,Og];exact fun h=>h.elim this e)]
  ·rw[jg.2 (by have:=jg.1 hq;rw[take_snoc' hf];simp only[Lc,LY];exact .inl this)]
theorem jo.made(d:List bf)(w:World):jo d 0 w.heap.size (.map []) (w.alloc (.map #[] 0)):=⟨World.ownsMap_made w _ _ _,fun s=>by rw[il.2 (by simp)];rfl⟩
theorem oZ(ps:List PF)(A:Option Addr)(n c:Nat)(w:World)(h:SD (fun _=>True) w A n c ps)(hT:cg w)(ih:∀p∈ps,AU p.2.v):
 Calls prog 142 #[.slice A n c] w fun e w'=>e=.returned (.bool (dT aN (ps.map Prod.snd)))/\Below w.heap.size w w':=by
 have H:=qD h;have HT:=qD hT;have IH:=qD ih;have hz:=h.sz;unfold aF at hz;have HN:=qD h.sr.ln;have hmm:=@run_makeMap prog;clear h hT ih;go_enter func142,ntmps142;go_wp2_with fail;clear hmm
 go_loopw [9] (fun v9 wr=>∃(i:Nat) (D:DataW Unit),i<=n/\v9=.int .i64 i/\bj aN ((ps.map Prod.snd).take i)/\jo (ps.map Prod.snd) i w.heap.size D wr/\Below w.heap.size w wr) (fun v9 _=>n-(intOf v9).toNat)
 ·exact⟨0,.map [],LQ _,rfl,by rw[Oq];exact bj.nil,jo.made _ w,(LH _ _).alloc (qL) _⟩
 case round=>
  obtain⟨i,D,hi,rfl,hF,hS,hB⟩:=hrel;have HF:=qD hF;have HS:=qD hS;have HB:=qD hB;by_cases hlt:i<n
  ·obtain⟨p,hp⟩:∃p,ps[i]?=some p:=⟨_,LI (by have:=HN.out;omega)⟩;have hd:(ps.map Prod.snd)[i]?=some p.2:=by rw[LV,hp];rfl
   have hmem:=LP hp;have hsz:=H.out.ns p hmem;obtain⟨b,off,rfl,_,hs,hu,hr⟩:=H.out.KE hp;obtain⟨y0,y1,y2,y3,y4⟩:=hu.keep (hB.block b hu.lt);have n0:=(hB.cell (p:=⟨b,off+i*6,none⟩) hu.lt).trans hs;have hb:b<wr.heap.size:=by have:=hu.lt;have:=hB.size;omega
   have hA1:=(LH wr.heap.size wr).alloc (qL) (Obj.cells #[.string p.2.s,.int .i64 p.1.k,.int .i64 p.1.n,.string p.1.t,.slice p.1.LA p.1.ln p.1.lc,.slice p.1.DA p.1.dn p.1.dc] 73);have look:=(hS.step hA1).look p.2.s hsz;have HS1:=qD (hS.step hA1);have HB1:=qD (hB.Jp hA1);have HR:=qD ((hr.step hB).step hA1);have HT1:=qD ((HT.out.step hB).step hA1);have HBk:Hid (aE (wr.alloc (.cells #[.string p.2.s,.int .i64 p.1.k,.int .i64 p.1.n,.string p.1.t,.slice p.1.LA p.1.ln p.1.lc,.slice p.1.DA p.1.dn p.1.dc] 73)) wr.heap.size 73 #[.string p.2.s,.int .i64 p.1.k,.int .i64 p.1.n,.string p.1.t,.slice p.1.LA p.1.ln p.1.lc,.slice p.1.DA p.1.dn p.1.dc]):=aE.Jq rfl;have HD:=qD hd;have HC:=qD (IH.out p hmem);clear hp hd hmem hs hu hr hF hS hB hA1;cases hnm:aN p.2.s
   ·have HV:=qD (dC (bj.KZ HD.out hnm));go_wp2_with fail;refine(lX _ _).mono ?_;rintro e w' ⟨rfl,rfl⟩;rw[hnm];go_wp2_with fail;go_ret;exact⟨by rw[HV.out];rfl,HB1.out⟩
   cases hsn:oO p.2.s (((ps.map Prod.snd).take i).map bf.s);rotate_left
   ·have HV:=qD (dC (nm:=aN) (bj.Ke HD.out (jg.1 hsn)));rw[hsn] at look;clear hsn;go_wp2_with fail;refine(lX _ _).mono ?_;rintro e w' ⟨rfl,rfl⟩;rw[hnm];go_wp2_with fail;go_ret;exact⟨by rw[HV.out];rfl,HB1.out⟩
   have HNew:=qD (il.1 hsn);rw[hsn] at look;clear hsn;go_wp2_with fail;refine(lX _ _).mono ?_;rintro e w' ⟨rfl,rfl⟩;rw[hnm];go_wp2_with fail;refine(HC.out p.1 _ HT1.out HR.out).mono ?_;rintro e w2 ⟨rfl,hb2⟩;clear look y0 y1 y2 y3 y4 n0;have HB2:=qD (HB1.out.Jp hb2);have k0:=(HBk.out.step hb2).cell 0;simp at k0;cases hso:aP aN p.2.v
   ·have HV:=qD (dC (nm:=aN) (bj.KQ HD.out (jU.1 hso)));clear hb2;go_wp2_with fail;go_ret;exact⟨by rw[HV.out];rfl,HB2.out⟩
   ·have HX:=qD (HF.out.next HD.out hnm HNew.out (eO.1 hso));have HS2:=qD (HS1.out.step hb2);have hsz2:=hb2.size;clear hb2;go_wp2_with (at_mapUpdate;refine wpList_mapUpdate_own _ rfl _ _ _ 194 rfl 9 4 sU underlying194 _ w.heap.size i D rfl HS2.out.own (by unfold maxLen;omega) _ _ _ rfl rfl (keyOf_string_mk MB (s:=p.2.s) (by unfold aF at hsz;unfold maxLen;omega)) _ [] (plainElem_bool NL true) ?_;intro w3 hown3 hgrow3);have HS3:=qD (HS2.out.next HD.out hown3);have HB3:=qD (HB2.out.grown hgrow3 (by have:=HB2.out.size;omega) (fun k hk=>by simp at hk;omega));clear hown3 hgrow3 k0;go_wp2_with fail;go_roundw
    ·exact⟨i+1,_,by omega,by go_num,HX.out,HS3.out,HB3.out⟩
    ·simp[intOf];omega
  ·have HV:Hid (dT aN (ps.map Prod.snd)=true):=by
    have:=HF.out;rw[LS (by simp;have:=HN.out;omega)] at this;exact gW this
   clear hF hS hB;go_wp2_with fail;go_ret;exact⟨by rw[HV.out];rfl,HB.out⟩
open Go.Shelf
def rF:Go.Shelf.Ren:=⟨fun|196=>141|259=>186|n=>n,fun|9=>9|4=>4|3=>3|5=>5|12=>12|119=>190|0=>0|46=>145|139=>193|138=>192|53=>160|n=>n,fun|3=>0|4=>1|n=>n⟩
theorem sV:Go.Proofs.Lays.n196 prog rF:={
 mixed:=by kernel_rfl
 f196:=Tryz.func141.trans (congrArg some (by kernel_rfl))
 f259:=Tryz.func186.trans (congrArg some (by kernel_rfl))
 t0:=underlying0
 a0:=Tryz.isAgg0
 z0:=Tryz.sizeOf0
 v0:=Tryz.zeroValue0
 t3:=MY
 a3:=Tryz.isAgg3
 z3:=Tryz.sizeOf3
 v3:=Tryz.zeroValue3
 t4:=NL
 a4:=Tryz.isAgg4
 z4:=Tryz.sizeOf4
 v4:=Tryz.zeroValue4
 t5:=NC
 a5:=Tryz.isAgg5
 z5:=Tryz.sizeOf5
 v5:=Tryz.zeroValue5
 t9:=MB
 a9:=Tryz.isAgg9
 z9:=Tryz.sizeOf9
 v9:=Tryz.zeroValue9
 t12:=underlying12
 a12:=Tryz.isAgg12
 z12:=Tryz.sizeOf12
 v12:=Tryz.zeroValue12
 t46:=underlying145
 a46:=Tryz.isAgg145
 z46:=Tryz.sizeOf145
 v46:=Tryz.zeroValue145
 t53:=underlying160
 a53:=Tryz.isAgg160
 z53:=Tryz.sizeOf160
 v53:=Tryz.zeroValue160
 t119:=underlying190
 a119:=Tryz.isAgg190
 z119:=Tryz.sizeOf190
 t138:=underlying192
 a138:=Tryz.isAgg192
 z138:=Tryz.sizeOf192
 v138:=Tryz.zeroValue192
 t139:=underlying193
 a139:=Tryz.isAgg193
 z139:=Tryz.sizeOf193
 v139:=Tryz.zeroValue193
 g3:=by kernel_rfl
 g4:=by kernel_rfl}
theorem oa(s:ByteArray)(w:World)(hs:s.size<=aF)(hT:cg w):Calls prog 141 #[.string s] w fun e w'=>e=.returned (.bool (bt s))/\Below w.heap.size w w':=
 Any.utf8_ValidString sV s w (by unfold aF at hs;omega) hT
def nU(x:aC):Int:=bT x 1025
def nV(x:aC):Int:=bE x 17
theorem zP(x:aC)(c:VC)(w:World)(h:RW w c x):Calls prog 76 #[c.val] w fun e w'=>e=.returned (.int .i64 (nU x))/\Below w.heap.size w w':=by
 have H:=qD h;clear h;go_enter func76,ntmps76;go_wp2_with fail;refine(Ag x c 1025 _ (H.out.alloc _) (by omega) (by omega)).mono ?_;rintro e w1 ⟨rfl,hb⟩;go_wp2_with fail;go_ret;exact⟨rfl,((LH _ _).alloc (qL) _).Jp hb⟩
theorem zQ(x:aC)(c:VC)(w:World)(h:RW w c x):Calls prog 77 #[c.val] w fun e w'=>e=.returned (.int .i64 (nV x))/\Below w.heap.size w w':=by
 have H:=qD h;clear h;go_enter func77,ntmps77;go_wp2_with fail;refine(Ah x c 17 _ (H.out.alloc _) (by omega) (by omega)).mono ?_;rintro e w1 ⟨rfl,hb⟩;go_wp2_with fail;go_ret;exact⟨rfl,((LH _ _).alloc (qL) _).Jp hb⟩
end Go.Proofs.YthfahkaadbdicaaGreatDoor
