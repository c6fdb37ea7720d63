/- A part of the proof. -/
import Derived.Test.YtgfoliedmhgpnaaGreatDoorCn2
import Derived.Shelf.Unicode.DecodeSlow
import Derived.Maps.Own
import Derived.Maps.OwnSet
import Derived.StringKeys
import Derived.Ground.NamesProg
import Derived.Shelf.Unicode.ValidAny
set_option maxRecDepth 100000
set_option maxHeartbeats 16000000
open Go.Proofs.Tryz
open ByteArray (empty)
namespace Go.Proofs.YtgfoliedmhgpnaaGreatDoor
open Go.RowKit
section
variable {o size:Nat} {w w':World}
def cZ(w:World):Prop:=Lib.Utf8Tabs 0 1 w
theorem cZ.step(h:cZ w)(hb:Bl w w'):cZ w':=Utf8Tabs_below h hb
theorem cZ.alloc(h:cZ w)(o:Obj):cZ (w.alloc o):=h.step ((OG _ _).alloc (qL) o)
end
open Go.Maps Go.WideMaps
section
variable {k b n size:Nat} {w w':World} {e:TypeId} {P:Program} {a:Int} {l:List ByteArray} {v:Value} {s:ByteArray}
noncomputable def pj(s:ByteArray)(l:List ByteArray):Bool:=@decide (s∈l) (Classical.propDecidable _)
theorem ku:pj s l=true↔s∈l:=by unfold pj;exact @Py _ (Classical.propDecidable _)
theorem jV:pj s l=false↔s∉l:=by unfold pj;exact @decide_eq_false_iff_not _ (Classical.propDecidable _)
def Br(x:aC):Prop:=∀(c:VC) (w:World),cZ w->RW w c x->
 Calls prog 95 #[c.val] w (Rt w (.bool (aQ aM x)))
theorem Gx(w:World):(zeroValue 4).run prog w=.ok (.bool false) w:=kR
theorem uH:Keyed prog 9:=string_keyed PY
theorem nV(he:P.underlying e=some .bool){z:DataW Unit×List MemPlace}(h:plainElem P e v=some z):∃a,v=.bool a/\z=(.lit (.bool a),[]):=by
 unfold plainElem at h;rw[he] at h;cases v<;>simp at h
 exact⟨_,rfl,h.symm⟩
theorem vF{k:TypeId}{R:Value->Option (DataW Unit×List MemPlace)}{D:DataW Unit}(h:w.ownsMap P k R b n D)(hb:Bl w w'):w'.ownsMap P k R b n D:=by
 have hlt:=h.lt;obtain⟨es,clock,h1,F,hs,hD⟩:=h;exact⟨es,clock,(hb.block b hlt).trans h1,F,hs,hD⟩
end
structure lC(d:List bf)(i g:Nat)(D:DataW Unit)(wr:World):Prop where
 own:wr.ownsMap prog 9 (plainElem prog 4) g i D
 at_:∀s:ByteArray,D.atKey (.string s.data.toList) (.lit (.bool false))=.lit (.bool (pj s ((d.take i).map bf.s)))
section
variable {n g i c size:Nat} {w w' wr:World} {d:Int} {v:Value} {s:ByteArray} {A:Option Addr}
theorem lC.look{d:List bf}{D:DataW Unit}(h:lC d i g D wr)(s:ByteArray)(hs:s.size<=aF):
 (Instr.lookup 213 (.map (some g)) (.string s) false).run prog wr=.ok (.bool (pj s ((d.take i).map bf.s))) wr:=by
 obtain⟨v,ps,hrun,hv⟩:=h.own.lookup uH underlying213 (Gx wr) (plainElem_bool Qu false) (keyOf_string_mk PY (s:=s) (by unfold aF at hs;unfold maxLen;omega));obtain⟨a,rfl,hz⟩:=nV Qu hv;rw[h.at_] at hz;have e1:=congrArg Prod.fst hz;injection e1 with e2
 injection e2 with e3
 rw[hrun,e3]
theorem lC.step{d:List bf}{D:DataW Unit}(h:lC d i g D wr)(hb:Bl wr w'):lC d i g D w':=⟨vF h.own hb,h.at_⟩
theorem lC.next{d:List bf}{D:DataW Unit}{f:bf}(h:lC d i g D wr)(hf:d[i]?=some f)(ho:w'.ownsMap prog 9 (plainElem prog 4) g (i+1) (D.put (.string f.s.data.toList) (.lit (.bool true)))):
 lC d (i+1) g (D.put (.string f.s.data.toList) (.lit (.bool true))) w':=by
 refine⟨ho,fun s=>?_⟩;by_cases e:s=f.s
 ·subst e;rw[atKey_put_same h.own.isMap (by simp[WideAt.IsKeyLit]),ku.2 (by simp[take_snoc' hf])]
 ·have hne:(Lit.string s.data.toList)≠Lit.string f.s.data.toList:=fun h=>e (RR (by injection h));rw[atKey_put_other hne,h.at_];cases hq:pj s ((d.take i).map bf.s)
  ·rw[jV.2 (by have:=jV.1 hq;rw[take_snoc' hf];simp only[Oo,OP,Pp,RM,Ox];exact fun h=>h.elim this e)]
  ·rw[ku.2 (by have:=ku.1 hq;rw[take_snoc' hf];simp only[Oo,OP];exact .inl this)]
theorem lC.made(d:List bf)(w:World):lC d 0 w.heap.size (.map []) (w.alloc (.map #[] 0)):=⟨World.ownsMap_made w _ _ _,fun s=>by rw[jV.2 sM];rfl⟩
theorem pu(ps:List PF)(A:Option Addr)(n c:Nat)(w:World)(h:SD (fun _=>True) w A n c ps)(hT:cZ w)(ih:∀p∈ps,Br p.2.v):
 Calls prog 152 #[.slice A n c] w (Rt w (.bool (dV aM (ps.map Prod.snd)))):=by
 have H:=qD h;have HT:=qD hT;have IH:=qD ih;have hz:=h.sz;unfold aF at hz;have HN:=qD h.sr.ln;have hmm:=@run_makeMap prog;clear h hT ih;go_enter func152,ntmps152;go_wp2_with fail;clear hmm
 go_loopw [9] (fun v9 wr=>∃(i:Nat) (D:DataW Unit),i<=n/\v9=.int .i64 i/\bz aM ((ps.map Prod.snd).take i)/\lC (ps.map Prod.snd) i w.heap.size D wr/\Bl w wr) (fun v9 _=>n-(intOf v9).toNat)
 ·exact⟨0,.map [],ON _,rfl,by rw[QU];exact bz.nil,lC.made _ w,(OG _ _).alloc (qL) _⟩
 case round=>
  obtain⟨i,D,hi,rfl,hF,hS,hB⟩:=hrel;have HF:=qD hF;have HS:=qD hS;have HB:=qD hB;by_cases hlt:i<n
  ·obtain⟨p,hp⟩:∃p,ps[i]?=some p:=⟨_,OH (by have:=HN.out;omega)⟩;have hd:(ps.map Prod.snd)[i]?=some p.2:=by rw[OT,hp];rfl
   have hmem:=OJ hp;have hsz:=H.out.ns p hmem;obtain⟨b,off,rfl,_,hs,hu,hr⟩:=H.out.Mw hp;obtain⟨y0,y1,y2,y3,y4⟩:=hu.keep (hB.block b hu.lt);have n0:=(hB.cell (p:=⟨b,off+i*6,none⟩) hu.lt).trans hs;have hb:b<wr.heap.size:=by have:=hu.lt;have:=hB.size;omega
   have hA1:=(OG wr.heap.size wr).alloc (qL) (Obj.cells #[.string p.2.s,.int .i64 p.1.k,.int .i64 p.1.n,.string p.1.t,.slice p.1.LA p.1.ln p.1.lc,.slice p.1.DA p.1.dn p.1.dc] 77);have look:=(hS.step hA1).look p.2.s hsz;have HS1:=qD (hS.step hA1);have HB1:=qD (hB.Ml hA1);have HR:=qD ((hr.step hB).step hA1);have HT1:=qD ((HT.out.step hB).step hA1);have HBk:Hid (aG (wr.alloc (.cells #[.string p.2.s,.int .i64 p.1.k,.int .i64 p.1.n,.string p.1.t,.slice p.1.LA p.1.ln p.1.lc,.slice p.1.DA p.1.dn p.1.dc] 77)) wr.heap.size 77 #[.string p.2.s,.int .i64 p.1.k,.int .i64 p.1.n,.string p.1.t,.slice p.1.LA p.1.ln p.1.lc,.slice p.1.DA p.1.dn p.1.dc]):=aG.Mm rfl;have HD:=qD hd;have HC:=qD (IH.out p hmem);clear hp hd hmem hs hu hr hF hS hB hA1;cases hnm:aM p.2.s
   ·have HV:=qD (dI (bz.NM HD.out hnm));go_wp2_with fail;refine(my _ _).mono ?_;rintro e w' ⟨rfl,rfl⟩;rw[hnm];go_wp2;go_ret;exact⟨by rw[HV.out];rfl,HB1.out⟩
   cases hsn:pj p.2.s (((ps.map Prod.snd).take i).map bf.s);rotate_left
   ·have HV:=qD (dI (nm:=aM) (bz.NU HD.out (ku.1 hsn)));rw[hsn] at look;clear hsn;go_wp2_with fail;refine(my _ _).mono ?_;rintro e w' ⟨rfl,rfl⟩;rw[hnm];go_wp2;go_ret;exact⟨by rw[HV.out];rfl,HB1.out⟩
   have HNew:=qD (jV.1 hsn);rw[hsn] at look;clear hsn;go_wp2_with fail;refine(my _ _).mono ?_;rintro e w' ⟨rfl,rfl⟩;rw[hnm];go_wp2_with fail;refine(HC.out p.1 _ HT1.out HR.out).mono ?_;rintro e w2 ⟨rfl,hb2⟩;clear look y0 y1 y2 y3 y4 n0;have HB2:=qD (HB1.out.Ml hb2);have k0:=(HBk.out.step hb2).cell 0;simp at k0;cases hso:aQ aM p.2.v
   ·have HV:=qD (dI (nm:=aM) (bz.NJ HD.out (kL.1 hso)));clear hb2;go_wp2;go_ret;exact⟨by rw[HV.out];rfl,HB2.out⟩
   ·have HX:=qD (HF.out.next HD.out hnm HNew.out (eE.1 hso));have HS2:=qD (HS1.out.step hb2);have hsz2:=hb2.size;clear hb2;go_wp2_with (at_mapUpdate;refine wpList_mapUpdate_own _ rfl _ _ _ 213 rfl 9 4 uH underlying213 _ w.heap.size i D rfl HS2.out.own (by unfold maxLen;omega) _ _ _ rfl rfl (keyOf_string_mk PY (s:=p.2.s) (by unfold aF at hsz;unfold maxLen;omega)) _ [] (plainElem_bool Qu true) ?_;intro w3 hown3 hgrow3);have HS3:=qD (HS2.out.next HD.out hown3);have HB3:=qD (HB2.out.grown hgrow3 (by have:=HB2.out.size;omega) (fun k hk=>by simp at hk;omega));clear hown3 hgrow3 k0;go_wp2_with fail;go_roundw
    ·exact⟨i+1,_,by omega,by go_num,HX.out,HS3.out,HB3.out⟩
    ·exact iO
  ·have HV:Hid (dV aM (ps.map Prod.snd)=true):=by
    have:=HF.out;rw[OS (by simp;have:=HN.out;omega)] at this;exact iJ this
   clear hF hS hB;go_wp2;go_ret;exact⟨by rw[HV.out];rfl,HB.out⟩
end
open Go.Shelf
section
variable {c size:Nat} {w:World} {x:Int} {s:ByteArray}
def sm:Go.Shelf.Ren:=⟨fun|196=>151|259=>199|n=>n,fun|9=>9|4=>4|3=>3|5=>5|12=>12|119=>209|0=>0|46=>154|139=>212|138=>211|53=>182|n=>n,fun|3=>0|4=>1|n=>n⟩
theorem uI:Go.Proofs.Lays.n196 prog sm:={
 mixed:=kR
 f196:=Tryz.func151.trans (congrArg some kR)
 f259:=Tryz.func199.trans (congrArg some kR)
 t0:=underlying0
 a0:=Tryz.isAgg0
 z0:=Tryz.sizeOf0
 v0:=Tryz.zeroValue0
 t3:=Pq
 a3:=Tryz.isAgg3
 z3:=Tryz.sizeOf3
 v3:=Tryz.zeroValue3
 t4:=Qu
 a4:=Tryz.isAgg4
 z4:=Tryz.sizeOf4
 v4:=Tryz.zeroValue4
 t5:=QX
 a5:=Tryz.isAgg5
 z5:=Tryz.sizeOf5
 v5:=Tryz.zeroValue5
 t9:=PY
 a9:=Tryz.isAgg9
 z9:=Tryz.sizeOf9
 v9:=Tryz.zeroValue9
 t12:=underlying12
 a12:=Tryz.isAgg12
 z12:=Tryz.sizeOf12
 v12:=Tryz.zeroValue12
 t46:=underlying154
 a46:=Tryz.isAgg154
 z46:=Tryz.sizeOf154
 v46:=Tryz.zeroValue154
 t53:=underlying182
 a53:=Tryz.isAgg182
 z53:=Tryz.sizeOf182
 v53:=Tryz.zeroValue182
 t119:=underlying209
 a119:=Tryz.isAgg209
 z119:=Tryz.sizeOf209
 t138:=underlying211
 a138:=Tryz.isAgg211
 z138:=Tryz.sizeOf211
 v138:=Tryz.zeroValue211
 t139:=underlying212
 a139:=Tryz.isAgg212
 z139:=Tryz.sizeOf212
 v139:=Tryz.zeroValue212
 g3:=kR
 g4:=by kernel_rfl}
theorem pv(s:ByteArray)(w:World)(hs:s.size<=aF)(hT:cZ w):Calls prog 151 #[.string s] w (Rt w (.bool (cE s))):=
 Any.utf8_ValidString uI s w (by unfold aF at hs;omega) hT
def pF(x:aC):Int:=bV x 1025
def pG(x:aC):Int:=bH x 17
theorem Ai(x:aC)(c:VC)(w:World)(h:RW w c x):Calls prog 93 #[c.val] w (Rt w (.int .i64 (pF x))):=by
 have H:=qD h;clear h;go_enter func93,ntmps93;go_wp2_with fail;refine(Bu x c 1025 _ (H.out.alloc _) oM oM).mono ?_;rintro e w1 ⟨rfl,hb⟩;go_wp2;go_ret;exact⟨rfl,((OG _ _).alloc (qL) _).Ml hb⟩
theorem Aj(x:aC)(c:VC)(w:World)(h:RW w c x):Calls prog 94 #[c.val] w (Rt w (.int .i64 (pG x))):=by
 have H:=qD h;clear h;go_enter func94,ntmps94;go_wp2_with fail;refine(Bv x c 17 _ (H.out.alloc _) oM oM).mono ?_;rintro e w1 ⟨rfl,hb⟩;go_wp2;go_ret;exact⟨rfl,((OG _ _).alloc (qL) _).Ml hb⟩
end
end Go.Proofs.YtgfoliedmhgpnaaGreatDoor
