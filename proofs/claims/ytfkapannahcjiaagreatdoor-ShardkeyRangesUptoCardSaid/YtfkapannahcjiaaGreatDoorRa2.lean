/- Parts of the proof, joined: ValSoundPure, ValOrder, IvPure, RgEnds, ValMem, ValList, ValRows, ChRepA, PrRep, IvCut. -/
import Derived.Test.YtfkapannahcjiaaGreatDoorRa1
import Derived.Lib.ValidU
import Derived.Deep.RegionHeld3
set_option maxRecDepth 100000
set_option maxHeartbeats 16000000
set_option linter.unusedSimpArgs false
namespace Go.Proofs.YtfkapannahcjiaaGreatDoor
def utf8B(t:ByteArray):Bool:=Lib.validD t.data.toList
def HeadP(k n:Int)(t:ByteArray)(ln dn:Nat):Prop:=
 (k=3∨k=9∨k=10∨n=0)∧(k=4∨k=7∨k=8∨t.size=0)∧(k=6∨ln=0)∧(k=5∨dn=0)∧
 (k=1∨k=2∨k=11∨k=3∨(k=9∧(n=0∨n=1))∨(k=10∧0≤n)∨(k=4∧t.size≤4096∧utf8B t=true)∨(k=7∧t.size≤4096)∨(k=8∧t.size=12)∨k=6∨k=5)
def NamesP(nm:ByteArray→Bool)(d:List Fld):Prop:=(∀f∈d,nm f.s=true)∧(d.map Fld.s).Nodup
mutual
def SoundV(nm:ByteArray→Bool):Val→Prop
 | .mk k n t l d=>HeadP k n t l.length d.length∧SoundLs nm l∧SoundDs nm d∧NamesP nm d
def SoundLs(nm:ByteArray→Bool):List Val→Prop
 | []=>True
 | x::r=>SoundV nm x∧SoundLs nm r
def SoundDs(nm:ByteArray→Bool):List Fld→Prop
 | []=>True
 | f::r=>SoundF nm f∧SoundDs nm r
def SoundF(nm:ByteArray→Bool):Fld→Prop
 | .mk _ v=>SoundV nm v
end
theorem SoundLs_iff(nm:ByteArray→Bool)(l:List Val):SoundLs nm l↔∀y∈l,SoundV nm y:=by
 induction l with
 | nil=>simp[SoundLs]
 | cons x r ih=>simp[SoundLs,ih]
theorem SoundF_iff(nm:ByteArray→Bool)(f:Fld):SoundF nm f↔SoundV nm f.v:=by cases f;simp only[SoundF];rfl
theorem SoundDs_iff(nm:ByteArray→Bool)(d:List Fld):SoundDs nm d↔∀f∈d,SoundV nm f.v:=by
 induction d with
 | nil=>simp[SoundDs]
 | cons x r ih=>simp[SoundDs,ih,SoundF_iff]
theorem SoundV_iff(nm:ByteArray→Bool)(x:Val):SoundV nm x↔HeadP x.k x.n x.t x.l.length x.d.length∧(∀y∈x.l,SoundV nm y)∧(∀f∈x.d,SoundV nm f.v)∧NamesP nm x.d:=by
 cases x
 rw[SoundV,SoundLs_iff,SoundDs_iff]
 rfl
def FieldsP(nm:ByteArray→Bool)(d:List Fld):Prop:=NamesP nm d∧∀f∈d,SoundV nm f.v
noncomputable def soundB(nm:ByteArray→Bool)(x:Val):Bool:=@decide (SoundV nm x) (Classical.propDecidable _)
noncomputable def fieldsB(nm:ByteArray→Bool)(d:List Fld):Bool:=@decide (FieldsP nm d) (Classical.propDecidable _)
section
variable {nm:ByteArray→Bool} {x:Val} {d:List Fld}
theorem soundB_true(h:SoundV nm x):soundB nm x=true:=by unfold soundB;exact @decide_eq_true _ (Classical.propDecidable _) h
theorem soundB_false(h:¬SoundV nm x):soundB nm x=false:=by unfold soundB;exact @decide_eq_false _ (Classical.propDecidable _) h
theorem soundB_iff:soundB nm x=true↔SoundV nm x:=by unfold soundB;exact @decide_eq_true_iff _ (Classical.propDecidable _)
theorem soundB_not:soundB nm x=false↔¬SoundV nm x:=by unfold soundB;exact @decide_eq_false_iff_not _ (Classical.propDecidable _)
theorem fieldsB_true(h:FieldsP nm d):fieldsB nm d=true:=by unfold fieldsB;exact @decide_eq_true _ (Classical.propDecidable _) h
theorem fieldsB_false(h:¬FieldsP nm d):fieldsB nm d=false:=by unfold fieldsB;exact @decide_eq_false _ (Classical.propDecidable _) h
theorem FieldsP.nil:FieldsP nm []:=⟨⟨by simp,by simp⟩,by simp⟩
theorem FieldsP.next{i:Nat}{f:Fld}(h:FieldsP nm (d.take i))(hf:d[i]?=some f)(h1:nm f.s=true)(h2:f.s∉(d.take i).map Fld.s)(h3:SoundV nm f.v):FieldsP nm (d.take (i+1)):=by
 rw[take_snoc' hf]
 refine⟨⟨fun g hg=>?_,?_⟩,fun g hg=>?_⟩
 ·rcases List.mem_append.1 hg with hg|hg
  ·exact h.1.1 g hg
  ·simp at hg;subst hg;exact h1
 ·rw[List.map_append,List.nodup_append]
  refine⟨h.1.2,by simp,fun a ha b hb=>?_⟩
  simp at hb
  subst hb
  intro e
  subst e
  exact h2 ha
 ·rcases List.mem_append.1 hg with hg|hg
  ·exact h.2 g hg
  ·simp at hg;subst hg;exact h3
theorem FieldsP.not_name{i:Nat}{f:Fld}(hf:d[i]?=some f)(h1:nm f.s=false):¬FieldsP nm d:=fun h=>by
 have:=h.1.1 f (List.mem_of_getElem? hf)
 rw[h1] at this
 cases this
theorem FieldsP.not_sound{i:Nat}{f:Fld}(hf:d[i]?=some f)(h1:¬SoundV nm f.v):¬FieldsP nm d:=fun h=>h1 (h.2 f (List.mem_of_getElem? hf))
theorem FieldsP.not_new{i:Nat}{f:Fld}(hf:d[i]?=some f)(h1:f.s∈(d.take i).map Fld.s):¬FieldsP nm d:=fun h=>by
 have hn:=h.1.2
 have e:d=d.take i++f::d.drop (i+1):=by rw[←drop_of hf,List.take_append_drop]
 rw[e,List.map_append,List.nodup_append] at hn
 exact hn.2.2 f.s h1 f.s (by simp) rfl
end
theorem sound_doc{nm:ByteArray→Bool}{x:Val}(hk:x.k=5)(hh:HeadP x.k x.n x.t x.l.length x.d.length):soundB nm x=fieldsB nm x.d:=by
 have hl:x.l=[]:=List.eq_nil_of_length_eq_zero (by have:=hh.2.2.1;omega)
 by_cases h:FieldsP nm x.d
 ·rw[fieldsB_true h]
  exact soundB_true ((SoundV_iff nm x).2 ⟨hh,by simp[hl],h.2,h.1⟩)
 ·rw[fieldsB_false h]
  exact soundB_false fun hs=>h ⟨((SoundV_iff nm x).1 hs).2.2.2,((SoundV_iff nm x).1 hs).2.2.1⟩
theorem sound_list{nm:ByteArray→Bool}{x:Val}(hk:x.k=6)(hh:HeadP x.k x.n x.t x.l.length x.d.length)(h:∀y∈x.l,SoundV nm y):soundB nm x=true:=by
 have hd:x.d=[]:=List.eq_nil_of_length_eq_zero (by have:=hh.2.2.2.1;omega)
 exact soundB_true ((SoundV_iff nm x).2 ⟨hh,h,by simp[hd],by simp[hd,NamesP]⟩)
theorem sound_not{nm:ByteArray→Bool}{x:Val}(h:¬HeadP x.k x.n x.t x.l.length x.d.length):soundB nm x=false:=soundB_false fun hs=>h ((SoundV_iff nm x).1 hs).1
theorem sound_not_at{nm:ByteArray→Bool}{x:Val}{i:Nat}{y:Val}(hy:x.l[i]?=some y)(h:¬SoundV nm y):soundB nm x=false:=soundB_false fun hs=>h (((SoundV_iff nm x).1 hs).2.1 y (List.mem_of_getElem? hy))
theorem sound_leaf{nm:ByteArray→Bool}{x:Val}(h5:x.k≠5)(h6:x.k≠6)(hh:HeadP x.k x.n x.t x.l.length x.d.length):soundB nm x=true:=by
 have hl:x.l=[]:=List.eq_nil_of_length_eq_zero (by have:=hh.2.2.1;omega)
 have hd:x.d=[]:=List.eq_nil_of_length_eq_zero (by have:=hh.2.2.2.1;omega)
 exact soundB_true ((SoundV_iff nm x).2 ⟨hh,by simp[hl],by simp[hd],by simp[hd,NamesP]⟩)
noncomputable def validV(x:Val):Bool:=decide (x.size≤1024)&&decide (x.height≤16)&&soundB nameB x
def lex(c d:Int):Int:=if c≠0 then c else d
theorem lex_ways(c d:Int):c≠0∧lex c d=c∨c=0∧lex c d=d:=by
 unfold lex
 by_cases h:c=0
 ·exact .inr ⟨h,by simp[h]⟩
 ·exact .inl ⟨h,by simp[h]⟩
theorem TR.lx{a b c a' b' c':Int}(h:TR a b c)(h':TR a' b' c'):TR (lex a a') (lex b b') (lex c c'):=by
 intro h1 h2
 rcases lex_ways a a' with ha|ha<;>rcases lex_ways b b' with hb|hb<;>rcases lex_ways c c' with hc|hc
 all_goals
  have H:=h (by omega) (by omega)
  by_cases hab:a=0∧b=0
  ·have H':=h' (by omega) (by omega)
   omega
  ·omega
theorem cmpI_rng(a b:Int):-1≤cmpI a b∧cmpI a b≤1:=by unfold cmpI Lib.compareInt;repeat' split<;>omega
theorem cmpI_anti(a b:Int):cmpI b a=-cmpI a b:=by unfold cmpI Lib.compareInt;repeat' split<;>omega
theorem cmpI_ways(a b:Int):a<b∧cmpI a b=-1∨a=b∧cmpI a b=0∨b<a∧cmpI a b=1:=by unfold cmpI Lib.compareInt;repeat' split<;>omega
theorem cmpI_tr(a b c:Int):TR (cmpI a b) (cmpI b c) (cmpI a c):=by
 unfold TR
 intro h1 h2
 rcases cmpI_ways a b with h|h|h<;>rcases cmpI_ways b c with h' | h' | h'<;>rcases cmpI_ways a c with h3|h3|h3<;>omega
theorem cmpI_zero{a b:Int}:cmpI a b=0↔a=b:=by unfold cmpI Lib.compareInt;repeat' split<;>omega
theorem cmpBy_rng:∀a b:List UInt8,-1≤Lib.compareBytes a b∧Lib.compareBytes a b≤1
 | [],[]=>by simp[Lib.compareBytes]
 | [],_::_=>by simp[Lib.compareBytes]
 | _::_,[]=>by simp[Lib.compareBytes]
 | a::a2,b::b2=>by
  rw[Lib.compareBytes]
  repeat' split
  ·omega
  ·omega
  ·exact cmpBy_rng a2 b2
theorem cmpBy_lex(a b:UInt8)(l m:List UInt8):Lib.compareBytes (a::l) (b::m)=lex (cmpI (a.toNat:Int) (b.toNat:Int)) (Lib.compareBytes l m):=by
 rw[Lib.compareBytes]
 unfold cmpI Lib.compareInt lex
 have e1:a<b↔a.toNat<b.toNat:=UInt8.lt_iff_toNat_lt
 have e2:b<a↔b.toNat<a.toNat:=UInt8.lt_iff_toNat_lt
 rcases Nat.lt_trichotomy a.toNat b.toNat with h|h|h
 ·rw[if_pos (e1.2 h),if_pos (show(a.toNat:Int)<b.toNat by omega)];rfl
 ·rw[if_neg (by rw[e1];omega),if_neg (by rw[e2];omega),if_neg (show ¬(a.toNat:Int)<b.toNat by omega),if_neg (show ¬(a.toNat:Int)>b.toNat by omega)];rfl
 ·rw[if_neg (by rw[e1];omega),if_pos (e2.2 h),if_neg (show ¬(a.toNat:Int)<b.toNat by omega),if_pos (show(a.toNat:Int)>b.toNat by omega)];rfl
theorem lex_anti{c d c' d':Int}(h:c'=-c)(h':d'=-d):lex c' d'=-lex c d:=by unfold lex;repeat' split<;>omega
theorem lex_rng{c d:Int}(h:-1≤c∧c≤1)(h':-1≤d∧d≤1):-1≤lex c d∧lex c d≤1:=by unfold lex;split<;>omega
theorem lex_zero{c d:Int}:lex c d=0↔c=0∧d=0:=by unfold lex;split<;>omega
theorem cmpBy_anti:∀a b:List UInt8,Lib.compareBytes b a=-Lib.compareBytes a b
 | [],[]=>by simp[Lib.compareBytes]
 | [],_::_=>by simp[Lib.compareBytes]
 | _::_,[]=>by simp[Lib.compareBytes]
 | a::a2,b::b2=>by rw[cmpBy_lex,cmpBy_lex];exact lex_anti (cmpI_anti _ _) (cmpBy_anti a2 b2)
theorem cmpBy_tr:∀a b c:List UInt8,TR (Lib.compareBytes a b) (Lib.compareBytes b c) (Lib.compareBytes a c)
 | [],[],[]=>by simp[Lib.compareBytes,TR]
 | [],[],_::_=>by simp[Lib.compareBytes,TR]
 | [],_::_,[]=>by simp[Lib.compareBytes,TR]
 | [],_::_,_::_=>by simp[Lib.compareBytes,TR]
 | _::_,[],[]=>by simp[Lib.compareBytes,TR]
 | _::_,[],_::_=>by simp[Lib.compareBytes,TR]
 | _::_,_::_,[]=>by simp[Lib.compareBytes,TR]
 | a::a2,b::b2,c::c2=>by
  rw[cmpBy_lex,cmpBy_lex,cmpBy_lex]
  exact(cmpI_tr _ _ _).lx (cmpBy_tr a2 b2 c2)
theorem cmpBy_zero:∀a b:List UInt8,Lib.compareBytes a b=0↔a=b
 | [],[]=>by simp[Lib.compareBytes]
 | [],_::_=>by simp[Lib.compareBytes]
 | _::_,[]=>by simp[Lib.compareBytes]
 | a::a2,b::b2=>by
  rw[cmpBy_lex,lex_zero,cmpI_zero,cmpBy_zero a2 b2]
  constructor
  ·rintro⟨h1,rfl⟩
   rw[show a=b from UInt8.toNat_inj.1 (by omega)]
  ·intro h
   injection h with h1 h2
   exact⟨by rw[h1],h2⟩
theorem cmpB_zero{a b:ByteArray}:cmpB a b=0↔a=b:=by
 unfold cmpB
 rw[cmpBy_zero]
 exact⟨fun h=>Go.WideShapes.bytes_inj h,fun h=>by rw[h]⟩
structure OrdAt(x:Val):Prop where
 rng:∀y,-1≤cmpV x y∧cmpV x y≤1
 anti:∀y,cmpV y x=-cmpV x y
 tr:∀y z,TR (cmpV x y) (cmpV y z) (cmpV x z)
structure OrdL(l:List Val):Prop where
 rng:∀m,-1≤cmpL l m∧cmpL l m≤1
 anti:∀m,cmpL m l=-cmpL l m
 tr:∀m n,TR (cmpL l m) (cmpL m n) (cmpL l n)
structure OrdD(l:List Fld):Prop where
 rng:∀m,-1≤cmpD l m∧cmpD l m≤1
 anti:∀m,cmpD m l=-cmpD l m
 tr:∀m n,TR (cmpD l m) (cmpD m n) (cmpD l n)
theorem cmpF_lex(f g:Fld):cmpF f g=lex (cmpB f.s g.s) (cmpV f.v g.v):=by rw[cmpF_eq];rfl
theorem cmpL_cons(x y:Val)(r s:List Val):cmpL (x::r) (y::s)=lex (cmpV x y) (cmpL r s):=by rw[cmpL];rfl
theorem cmpD_cons(x y:Fld)(r s:List Fld):cmpD (x::r) (y::s)=lex (cmpF x y) (cmpD r s):=by rw[cmpD];rfl
theorem ordVL:∀l:List Val,(∀x∈l,OrdAt x)→OrdL l:=by
 intro l
 induction l with
 | nil=>
  intro _
  refine⟨fun m=>?_,fun m=>?_,fun m n=>?_⟩
  ·cases m<;>simp[cmpL]
  ·cases m<;>simp[cmpL]
  ·cases m<;>cases n<;>simp[cmpL,TR]
 | cons x r ih=>
  intro h
  have hx:=h x (by simp)
  have hr:=ih fun y hy=>h y (by simp[hy])
  refine⟨fun m=>?_,fun m=>?_,fun m n=>?_⟩
  ·cases m with
   | nil=>simp[cmpL]
   | cons y s=>rw[cmpL_cons];exact lex_rng (hx.rng y) (hr.rng s)
  ·cases m with
   | nil=>simp[cmpL]
   | cons y s=>rw[cmpL_cons,cmpL_cons];exact lex_anti (hx.anti y) (hr.anti s)
  ·cases m with
   | nil=>cases n<;>simp[cmpL,TR]
   | cons y s=>
    cases n with
    | nil=>simp[cmpL,TR]
    | cons z t=>
     rw[cmpL_cons,cmpL_cons,cmpL_cons]
     exact(hx.tr y z).lx (hr.tr s t)
theorem cmpB_rng(a b:ByteArray):-1≤cmpB a b∧cmpB a b≤1:=cmpBy_rng _ _
theorem cmpB_anti(a b:ByteArray):cmpB b a=-cmpB a b:=cmpBy_anti _ _
theorem cmpB_tr(a b c:ByteArray):TR (cmpB a b) (cmpB b c) (cmpB a c):=cmpBy_tr _ _ _
theorem ordD:∀l:List Fld,(∀f∈l,OrdAt f.v)→OrdD l:=by
 intro l
 induction l with
 | nil=>
  intro _
  refine⟨fun m=>?_,fun m=>?_,fun m n=>?_⟩
  ·cases m<;>simp[cmpD]
  ·cases m<;>simp[cmpD]
  ·cases m<;>cases n<;>simp[cmpD,TR]
 | cons x r ih=>
  intro h
  have hx:=h x (by simp)
  have hr:=ih fun y hy=>h y (by simp[hy])
  refine⟨fun m=>?_,fun m=>?_,fun m n=>?_⟩
  ·cases m with
   | nil=>simp[cmpD]
   | cons y s=>rw[cmpD_cons,cmpF_lex];exact lex_rng (lex_rng (cmpB_rng _ _) (hx.rng y.v)) (hr.rng s)
  ·cases m with
   | nil=>simp[cmpD]
   | cons y s=>rw[cmpD_cons,cmpD_cons,cmpF_lex,cmpF_lex];exact lex_anti (lex_anti (cmpB_anti _ _) (hx.anti y.v)) (hr.anti s)
  ·cases m with
   | nil=>cases n<;>simp[cmpD,TR]
   | cons y s=>
    cases n with
    | nil=>simp[cmpD,TR]
    | cons z t=>
     rw[cmpD_cons,cmpD_cons,cmpD_cons,cmpF_lex,cmpF_lex,cmpF_lex]
     exact((cmpB_tr _ _ _).lx (hx.tr y.v z.v)).lx (hr.tr s t)
def cmpK(x y:Val):Int:=if x.k=3∨x.k=9∨x.k=10 then cmpI x.n y.n else if x.k=4∨x.k=7∨x.k=8 then cmpB x.t y.t else if x.k=6 then cmpL x.l y.l else if x.k=5 then cmpD x.d y.d else 0
theorem cmpV_K{x y:Val}(h:x.k=y.k):cmpV x y=cmpK x y:=by rw[cmpV_eq,if_neg (by simpa using h)];rfl
theorem ordAt:∀x,OrdAt x:=by
 intro x
 induction x using Val.ind with
 | h k n t l d ihl ihd=>
 have hL:=ordVL l ihl
 have hD:=ordD d ihd
 have rK:∀y,-1≤cmpK (.mk k n t l d) y∧cmpK (.mk k n t l d) y≤1:=by
  intro y
  unfold cmpK
  split
  ·exact cmpI_rng _ _
  ·split
   ·exact cmpB_rng _ _
   ·split
    ·exact hL.rng y.l
    ·split
     ·exact hD.rng y.d
     ·omega
 have aK:∀y,y.k=k→cmpK y (.mk k n t l d)=-cmpK (.mk k n t l d) y:=by
  intro y hy
  unfold cmpK
  rw[hy]
  simp only[show(Val.mk k n t l d).k=k from rfl]
  split
  ·exact cmpI_anti _ _
  ·split
   ·exact cmpB_anti _ _
   ·split
    ·exact hL.anti y.l
    ·split
     ·exact hD.anti y.d
     ·rfl
 have tK:∀y z,y.k=k→TR (cmpK (.mk k n t l d) y) (cmpK y z) (cmpK (.mk k n t l d) z):=by
  intro y z hy
  unfold cmpK
  rw[hy]
  simp only[show(Val.mk k n t l d).k=k from rfl]
  split
  ·exact cmpI_tr _ _ _
  ·split
   ·exact cmpB_tr _ _ _
   ·split
    ·exact hL.tr y.l z.l
    ·split
     ·exact hD.tr y.d z.d
     ·simp[TR]
 refine⟨fun y=>?_,fun y=>?_,fun y z=>?_⟩
 ·by_cases h:(Val.mk k n t l d).k=y.k
  ·rw[cmpV_K h];exact rK y
  ·rw[cmpV_kind h];exact cmpI_rng _ _
 ·by_cases h:(Val.mk k n t l d).k=y.k
  ·rw[cmpV_K h,cmpV_K h.symm];exact aK y h.symm
  ·rw[cmpV_kind h,cmpV_kind (fun e=>h e.symm)];exact cmpI_anti _ _
 ·intro h1 h2
  have hk:(Val.mk k n t l d).k=k:=rfl
  have ek:cmpI k y.k≤0:=by
   by_cases h:k=y.k
   ·rw[cmpI_zero.2 h];omega
   ·rw[cmpV_kind (by rw[hk];exact h)] at h1;exact h1
  have ek2:cmpI y.k z.k≤0:=by
   by_cases h:y.k=z.k
   ·rw[cmpI_zero.2 h];omega
   ·rw[cmpV_kind h] at h2;exact h2
  have ek3:=cmpI_tr k y.k z.k ek ek2
  by_cases h:k=y.k
  ·by_cases h':y.k=z.k
   ·rw[cmpV_K (y:=y) (by rw[hk];exact h)] at h1 ⊢
    rw[cmpV_K h'] at h2 ⊢
    rw[cmpV_K (y:=z) (by rw[hk];omega)]
    exact tK y z h.symm h1 h2
   ·have h3:k≠z.k:=by omega
    rw[cmpV_kind h'] at h2 ⊢
    rw[cmpV_kind (y:=z) (by rw[hk];exact h3),hk,←h]
    have:=fun e=>h3 (cmpI_zero.1 e)
    rw[←h] at h2
    refine⟨h2,fun e=>absurd e this,fun e=>absurd e.2 this⟩
  ·have h3:cmpI k y.k≠0:=fun e=>h (cmpI_zero.1 e)
   have h4:cmpI k z.k≠0:=fun e=>h3 (ek3.2.1 e).1
   have e1:cmpV (.mk k n t l d) y=cmpI k y.k:=cmpV_kind (by rw[hk];exact h)
   have e2:cmpV (.mk k n t l d) z=cmpI k z.k:=cmpV_kind (by rw[hk];exact fun e=>h4 (cmpI_zero.2 e))
   rw[e1,e2]
   exact⟨ek3.1,fun e=>absurd e h4,fun e=>absurd e.1 h3⟩
theorem cmpV_anti(x y:Val):cmpV y x=-cmpV x y:=(ordAt x).anti y
theorem cmpV_tr(x y z:Val):TR (cmpV x y) (cmpV y z) (cmpV x z):=(ordAt x).tr y z
theorem cmpV_self(x:Val):cmpV x x=0:=by have:=cmpV_anti x x;omega
theorem cmpL_eq{l:List Val}:∀{m:List Val},(∀x∈l,∀y,cmpV x y=0→y∈m→x=y)→cmpL l m=0→l=m:=by
 induction l with
 | nil=>intro m _ h;cases m with
  | nil=>rfl
  | cons y s=>simp[cmpL] at h
 | cons x r ih=>
  intro m hx h
  cases m with
  | nil=>simp[cmpL] at h
  | cons y s=>
   rw[cmpL_cons,lex_zero] at h
   rw[hx x (by simp) y h.1 (by simp),ih (fun a ha b hb hm=>hx a (by simp[ha]) b hb (by simp[hm])) h.2]
theorem cmpD_eq{l:List Fld}:∀{m:List Fld},(∀x∈l,∀y,cmpV x.v y.v=0→y∈m→x.v=y.v)→cmpD l m=0→l=m:=by
 induction l with
 | nil=>intro m _ h;cases m with
  | nil=>rfl
  | cons y s=>simp[cmpD] at h
 | cons x r ih=>
  intro m hx h
  cases m with
  | nil=>simp[cmpD] at h
  | cons y s=>
   rw[cmpD_cons,lex_zero,cmpF_lex,lex_zero] at h
   have e1:x.s=y.s:=cmpB_zero.1 h.1.1
   have e2:x.v=y.v:=hx x (by simp) y h.1.2 (by simp)
   have e:x=y:=by cases x;cases y;simp only[Fld.s,Fld.v] at e1 e2;rw[e1,e2]
   rw[e,ih (fun a ha b hb hm=>hx a (by simp[ha]) b hb (by simp[hm])) h.2]
theorem cmpV_same{nm:ByteArray→Bool}:∀x y:Val,SoundV nm x→SoundV nm y→cmpV x y=0→x=y:=by
 intro x
 induction x using Val.ind with
 | h k n t l d ihl ihd=>
 intro y hx hy h
 obtain⟨hx0,hx1,hx2,_⟩:=(SoundV_iff nm _).1 hx
 obtain⟨hy0,hy1,hy2,_⟩:=(SoundV_iff nm _).1 hy
 have hk:k=y.k:=by
  by_cases e:(Val.mk k n t l d).k=y.k
  ·exact e
  ·rw[cmpV_kind e] at h;exact absurd (cmpI_zero.1 h) e
 cases y with
 | mk k' n' t' l' d'=>
 simp only[Val.k,Val.n,Val.t,Val.l,Val.d] at*
 subst hk
 have h':(if k=3∨k=9∨k=10 then cmpI n n' else if k=4∨k=7∨k=8 then cmpB t t' else if k=6 then cmpL l l' else if k=5 then cmpD d d' else 0)=0:=(cmpV_K (x:=.mk k n t l d) (y:=.mk k n' t' l' d') rfl).symm.trans h
 have nil:∀{α:Type} {a b:List α},a.length=0→b.length=0→a=b:=fun ha hb=>by rw[List.eq_nil_of_length_eq_zero ha,List.eq_nil_of_length_eq_zero hb]
 have emp:∀{a b:ByteArray},a.size=0→b.size=0→a=b:=fun {a b} ha hb=>Go.WideShapes.bytes_inj (by
  rw[List.eq_nil_of_length_eq_zero (l:=a.data.toList) (by simpa using ha),List.eq_nil_of_length_eq_zero (l:=b.data.toList) (by simpa using hb)])
 obtain⟨a1,a2,a3,a4,_⟩:=hx0
 obtain⟨b1,b2,b3,b4,_⟩:=hy0
 split at h'
 ·rename_i hi
  rw[cmpI_zero.1 h',emp (a:=t) (b:=t') (by omega) (by omega),nil (a:=l) (b:=l') (by omega) (by omega),nil (a:=d) (b:=d') (by omega) (by omega)]
 ·split at h'
  ·rename_i hi ht
   rw[show n=n' by omega,cmpB_zero.1 h',nil (a:=l) (b:=l') (by omega) (by omega),nil (a:=d) (b:=d') (by omega) (by omega)]
  ·split at h'
   ·rename_i hi ht h6
    rw[show n=n' by omega,emp (a:=t) (b:=t') (by omega) (by omega),nil (a:=d) (b:=d') (by omega) (by omega),
     cmpL_eq (fun a ha b hb hm=>ihl a ha b (hx1 a ha) (hy1 b hm) hb) h']
   ·split at h'
    ·rename_i hi ht h6 h5
     rw[show n=n' by omega,emp (a:=t) (b:=t') (by omega) (by omega),nil (a:=l) (b:=l') (by omega) (by omega),
      cmpD_eq (fun a ha b hb hm=>ihd a ha b.v (hx2 a ha) (hy2 b hm) hb) h']
    ·rw[show n=n' by omega,emp (a:=t) (b:=t') (by omega) (by omega),nil (a:=l) (b:=l') (by omega) (by omega),nil (a:=d) (b:=d') (by omega) (by omega)]
structure Lin{α:Type}(cm:α→α→Int)(V:α→Prop):Prop where
 anti:∀x y,cm y x=-cm x y
 tr:∀x y z,TR (cm x y) (cm y z) (cm x z)
 eq:∀x y,V x→V y→cm x y=0→x=y
section
variable {α:Type} {cm:α→α→Int} {V:α→Prop}
theorem Lin.self(H:Lin cm V)(x:α):cm x x=0:=by have:=H.anti x x;omega
def inS(cm:α→α→Int)(a:α)(l:List (α×α)):Prop:=∃s∈l,cm s.1 a≤0∧cm a s.2<0
theorem inS_nil(a:α):¬inS cm a []:=by rintro⟨s,hs,_⟩;simp at hs
theorem inS_cons{a:α}{s:α×α}{l:List (α×α)}:inS cm a (s::l)↔(cm s.1 a≤0∧cm a s.2<0)∨inS cm a l:=by
 constructor
 ·rintro⟨t,ht,h⟩
  rcases List.mem_cons.1 ht with rfl|ht
  ·exact .inl h
  ·exact .inr ⟨t,ht,h⟩
 ·rintro(h|⟨t,ht,h⟩)
  ·exact⟨s,by simp,h⟩
  ·exact⟨t,by simp[ht],h⟩
theorem inS_app{a:α}{l m:List (α×α)}:inS cm a (l++m)↔inS cm a l∨inS cm a m:=by
 induction l with
 | nil=>simp only[List.nil_append];exact⟨.inr,fun h=>h.resolve_left (inS_nil a)⟩
 | cons s r ih=>rw[List.cons_append,inS_cons,inS_cons,ih,or_assoc]
theorem inS_one{a:α}{s:α×α}:inS cm a [s]↔(cm s.1 a≤0∧cm a s.2<0):=by rw[inS_cons];exact⟨fun h=>h.resolve_right (inS_nil a),.inl⟩
theorem inS_perm{a:α}{l m:List (α×α)}(h:l.Perm m):inS cm a l↔inS cm a m:=by
 constructor
 ·rintro⟨s,hs,k⟩;exact⟨s,h.subset hs,k⟩
 ·rintro⟨s,hs,k⟩;exact⟨s,h.symm.subset hs,k⟩
structure NF(cm:α→α→Int)(V:α→Prop)(l:List (α×α)):Prop where
 ne:∀s∈l,cm s.1 s.2<0∧V s.1∧V s.2
 ord:l.Pairwise fun s t=>cm s.2 t.1<0
theorem NF.nil:NF cm V []:=⟨fun s hs=>by simp at hs,.nil⟩
theorem NF.tail{s:α×α}{l:List (α×α)}(h:NF cm V (s::l)):NF cm V l:=⟨fun t ht=>h.ne t (by simp[ht]),List.Pairwise.of_cons h.ord⟩
theorem NF.head{s:α×α}{l:List (α×α)}(h:NF cm V (s::l)){t:α×α}(ht:t∈l):cm s.2 t.1<0:=List.rel_of_pairwise_cons h.ord ht
theorem nf_unique(H:Lin cm V):∀{l m:List (α×α)},NF cm V l→NF cm V m→(∀a,V a→(inS cm a l↔inS cm a m))→l=m:=by
 intro l
 induction l with
 | nil=>
  intro m _ hm h
  cases m with
  | nil=>rfl
  | cons t q=>
   have ht:=hm.ne t (by simp)
   exact absurd ((h t.1 ht.2.1).2 (inS_cons.2 (.inl ⟨by rw[H.self];omega,ht.1⟩))) (inS_nil _)
 | cons s r ih=>
  intro m hl hm h
  cases m with
  | nil=>
   have hs:=hl.ne s (by simp)
   exact absurd ((h s.1 hs.2.1).1 (inS_cons.2 (.inl ⟨by rw[H.self];omega,hs.1⟩))) (inS_nil _)
  | cons t q=>
   have hs:=hl.ne s (by simp)
   have ht:=hm.ne t (by simp)
   have low:∀{s t:α×α} {r q:List (α×α)},NF cm V (s::r)→NF cm V (t::q)→(inS cm s.1 (s::r)→inS cm s.1 (t::q))→cm t.1 s.1≤0:=by
    intro s t r q hl hm h
    have hs:=hl.ne s (by simp)
    rcases inS_cons.1 (h (inS_cons.2 (.inl ⟨by rw[H.self];omega,hs.1⟩))) with k|⟨u,hu,k⟩
    ·exact k.1
    ·have h1:=hm.head hu
     have h2:=(hm.ne t (by simp)).1
     have h3:=H.tr t.1 t.2 u.1 (by omega) (by omega)
     have h4:=H.tr t.1 u.1 s.1 (by omega) (by omega)
     omega
   have e1:s.1=t.1:=by
    have a1:=low hl hm (h s.1 hs.2.1).1
    have a2:=low hm hl (h t.1 ht.2.1).2
    have:=H.anti s.1 t.1
    exact H.eq _ _ hs.2.1 ht.2.1 (by omega)
   have up:∀{s t:α×α} {r q:List (α×α)},s.1=t.1→NF cm V (s::r)→(inS cm s.2 (t::q)→inS cm s.2 (s::r))→¬cm s.2 t.2<0:=by
    intro s t r q e hl h hlt
    have hs:=hl.ne s (by simp)
    have:=h (inS_cons.2 (.inl ⟨by rw[←e];omega,hlt⟩))
    rcases inS_cons.1 this with k|⟨u,hu,k⟩
    ·have:=H.self s.2;omega
    ·have h1:=hl.head hu
     have:=H.anti s.2 u.1
     omega
   have e2:s.2=t.2:=by
    have a1:=up e1 hl (h s.2 hs.2.2).2
    have a2:=up e1.symm hm (h t.2 ht.2.2).1
    have:=H.anti s.2 t.2
    exact H.eq _ _ hs.2.2 ht.2.2 (by omega)
   obtain rfl:s=t:=Prod.ext e1 e2
   congr 1
   refine ih hl.tail hm.tail fun a ha=>?_
   have half:∀{r q:List (α×α)},NF cm V (s::r)→(inS cm a (s::r)→inS cm a (s::q))→inS cm a r→inS cm a q:=by
    intro r q hl h hr
    rcases inS_cons.1 (h (inS_cons.2 (.inr hr))) with k|k
    ·obtain⟨u,hu,k2⟩:=hr
     have h1:=hl.head hu
     have h2:=H.tr s.2 u.1 a (by omega) k2.1
     have:=H.anti a s.2
     omega
    ·exact k
   exact⟨half hl (h a ha).1,half hm (h a ha).2⟩
def stepS(cm:α→α→Int)(c:List (α×α))(s:α×α):List (α×α):=
 match c.getLast? with
 | none=>c++[s]
 | some l=>if cm l.2 s.1<0 then c++[s] else if cm l.2 s.2<0 then c.dropLast++[(l.1,s.2)] else c
def mergeS(cm:α→α→Int)(l:List (α×α)):List (α×α):=l.foldl (stepS cm) []
theorem mergeS_snoc(l:List (α×α))(s:α×α):mergeS cm (l++[s])=stepS cm (mergeS cm l) s:=by unfold mergeS;rw[List.foldl_append];rfl
structure MI(cm:α→α→Int)(V:α→Prop)(P c:List (α×α)):Prop where
 nf:NF cm V c
 mem:∀a,inS cm a c↔inS cm a P
 len:c.length≤P.length
 low:∀l∈c,∃p∈P,l.1=p.1
theorem pw_snoc{β:Type}{R:β→β→Prop}{l:List β}{a:β}:(l++[a]).Pairwise R↔l.Pairwise R∧∀x∈l,R x a:=by
 rw[List.pairwise_append]
 constructor
 ·rintro⟨h1,_,h3⟩;exact⟨h1,fun x hx=>h3 x hx a (by simp)⟩
 ·rintro⟨h1,h2⟩;exact⟨h1,by simp,fun x hx y hy=>by simp at hy;subst hy;exact h2 x hx⟩
theorem MI.step(H:Lin cm V){P c:List (α×α)}{s:α×α}(h:MI cm V P c)(hs:cm s.1 s.2<0∧V s.1∧V s.2)(hlo:∀p∈P,cm p.1 s.1≤0):MI cm V (P++[s]) (stepS cm c s):=by
 rcases List.eq_nil_or_concat c with rfl|⟨d,l,rfl⟩
 ·have e:stepS cm [] s=[s]:=rfl
  rw[e]
  refine⟨⟨fun t ht=>by simp at ht;subst ht;exact hs,by simp⟩,fun a=>?_,by simp,fun t ht=>⟨s,by simp,by simp at ht;rw[ht]⟩⟩
  rw[inS_app]
  exact⟨.inr,fun k=>k.resolve_left fun hp=>inS_nil a ((h.mem a).2 hp)⟩
 ·rw[List.concat_eq_append] at h ⊢
  have hlen:=h.len
  simp only[List.length_append,List.length_cons,List.length_nil] at hlen
  have hl:=h.nf.ne l (by simp)
  obtain⟨hd,hdl⟩:=pw_snoc.1 h.nf.ord
  have hls:cm l.1 s.1≤0:=by
   obtain⟨p,hp,e⟩:=h.low l (by simp)
   rw[e];exact hlo p hp
  have e0:(d++[l]).getLast?=some l:=by simp
  unfold stepS
  rw[e0]
  simp only
  by_cases h1:cm l.2 s.1<0
  ·rw[if_pos h1]
   refine⟨⟨fun t ht=>?_,pw_snoc.2 ⟨h.nf.ord,fun t ht=>?_⟩⟩,fun a=>?_,by simp;omega,fun t ht=>?_⟩
   ·rcases List.mem_append.1 ht with ht|ht
    ·exact h.nf.ne t ht
    ·simp at ht;subst ht;exact hs
   ·rcases List.mem_append.1 ht with ht|ht
    ·have a1:=hdl t ht
     have a2:=H.tr t.2 l.1 l.2 (by omega) (by omega)
     have a3:=H.tr t.2 l.2 s.1 (by omega) (by omega)
     omega
    ·simp at ht;subst ht;exact h1
   ·rw[inS_app (l:=d++[l]),inS_app (l:=P),h.mem]
   ·rcases List.mem_append.1 ht with ht|ht
    ·obtain⟨p,hp,e⟩:=h.low t ht;exact⟨p,by simp[hp],e⟩
    ·simp at ht;subst ht;exact⟨t,by simp,rfl⟩
  ·rw[if_neg h1]
   by_cases h2:cm l.2 s.2<0
   ·rw[if_pos h2,List.dropLast_concat]
    refine⟨⟨fun t ht=>?_,pw_snoc.2 ⟨hd,hdl⟩⟩,fun a=>?_,by simp;omega,fun t ht=>?_⟩
    ·rcases List.mem_append.1 ht with ht|ht
     ·exact h.nf.ne t (by simp[ht])
     ·simp at ht;subst ht
      have:=H.tr l.1 l.2 s.2 (by omega) (by omega)
      exact⟨by show cm l.1 s.2<0;omega,hl.2.1,hs.2.2⟩
    ·rw[inS_app (l:=d),inS_app (l:=P),←h.mem,inS_app (l:=d),or_assoc]
     apply or_congr Iff.rfl
     rw[inS_one,inS_one,inS_one]
     simp only
     constructor
     ·rintro⟨k1,k2⟩
      by_cases k3:cm a l.2<0
      ·exact .inl ⟨k1,k3⟩
      ·have:=H.anti a l.2
       have:=H.anti l.2 s.1
       have:=H.tr s.1 l.2 a (by omega) (by omega)
       exact .inr ⟨by omega,k2⟩
     ·rintro(⟨k1,k2⟩|⟨k1,k2⟩)
      ·have:=H.tr a l.2 s.2 (by omega) (by omega)
       exact⟨k1,by omega⟩
      ·have:=H.tr l.1 s.1 a hls k1
       exact⟨by omega,k2⟩
    ·rcases List.mem_append.1 ht with ht|ht
     ·obtain⟨p,hp,e⟩:=h.low t (by simp[ht]);exact⟨p,by simp[hp],e⟩
     ·simp at ht;subst ht
      obtain⟨p,hp,e⟩:=h.low l (by simp)
      exact⟨p,by simp[hp],e⟩
   ·rw[if_neg h2]
    refine⟨h.nf,fun a=>?_,by simp;omega,fun t ht=>?_⟩
    ·rw[inS_app (l:=P),←h.mem]
     refine⟨.inl,fun k=>k.elim id fun k=>?_⟩
     rw[inS_one] at k
     rw[inS_app,inS_one]
     have:=H.tr l.1 s.1 a hls k.1
     have:=H.anti s.2 l.2
     have:=H.tr a s.2 l.2 (by omega) (by omega)
     exact .inr ⟨by omega,by omega⟩
    ·obtain⟨p,hp,e⟩:=h.low t ht;exact⟨p,by simp[hp],e⟩
theorem mergeS_ok(H:Lin cm V){l:List (α×α)}(hne:∀s∈l,cm s.1 s.2<0∧V s.1∧V s.2)(hs:l.Pairwise fun s t=>cm s.1 t.1≤0):MI cm V l (mergeS cm l):=by
 have key:∀i,i≤l.length→MI cm V (l.take i) (mergeS cm (l.take i)):=by
  intro i
  induction i with
  | zero=>intro _;exact⟨NF.nil,fun a=>Iff.rfl,by simp[mergeS],fun t ht=>by simp[mergeS] at ht⟩
  | succ i ih=>
   intro hi
   have hx:l[i]?=some l[i]:=List.getElem?_eq_getElem (by omega)
   rw[take_snoc' hx,mergeS_snoc]
   refine(ih (by omega)).step H (hne _ (List.getElem_mem _)) fun p hp=>?_
   have h2:(l.take i++[l[i]]).Pairwise fun s t=>cm s.1 t.1≤0:=by
    rw[←take_snoc' hx]
    exact hs.sublist (List.take_sublist _ _)
   exact(pw_snoc.1 h2).2 p hp
 have:=key l.length (qL)
 rwa [List.take_length] at this
theorem stepS_len(c:List (α×α))(s:α×α):(stepS cm c s).length≤c.length+1:=by
 unfold stepS
 split
 ·simp
 ·split
  ·simp
  ·split
   ·simp
   ·omega
theorem mergeS_len(l:List (α×α)):(mergeS cm l).length≤l.length:=by
 have:∀c:List (α×α),(l.foldl (stepS cm) c).length≤c.length+l.length:=by
  induction l with
  | nil=>intro c;simp
  | cons s r ih=>
   intro c
   have h1:=ih (stepS cm c s)
   have h2:=stepS_len (cm:=cm) c s
   simp only[List.foldl_cons,List.length_cons]
   omega
 simpa[mergeS] using this []
end
section
variable {α:Type} {cm:α→α→Int} {V:α→Prop}
def LoE(cm:α→α→Int)(V:α→Prop)(S:α→Prop)(a:α):Prop:=S a∧∀c,V c→cm c a<0→∃d,V d∧cm c d≤0∧cm d a<0∧¬S d
def HiE(cm:α→α→Int)(V:α→Prop)(S:α→Prop)(a:α):Prop:=¬S a∧(∃c,V c∧cm c a<0)∧∀c,V c→cm c a<0→∃d,V d∧cm c d≤0∧cm d a<0∧S d
theorem LoE.congr{S T:α→Prop}{a:α}(h:LoE cm V S a)(ha:V a)(e:∀a,V a→(S a↔T a)):LoE cm V T a:=
 ⟨(e a ha).1 h.1,fun c hc hl=>by
  obtain⟨d,h1,h2,h3,h4⟩:=h.2 c hc hl
  exact⟨d,h1,h2,h3,fun k=>h4 ((e d h1).2 k)⟩⟩
theorem HiE.congr{S T:α→Prop}{a:α}(h:HiE cm V S a)(ha:V a)(e:∀a,V a→(S a↔T a)):HiE cm V T a:=
 ⟨fun k=>h.1 ((e a ha).2 k),h.2.1,fun c hc hl=>by
  obtain⟨d,h1,h2,h3,h4⟩:=h.2.2 c hc hl
  exact⟨d,h1,h2,h3,(e d h1).1 h4⟩⟩
theorem LoE.or{S T:α→Prop}{a:α}(h:LoE cm V (fun a=>S a∨T a) a):LoE cm V S a∨LoE cm V T a:=by
 rcases h.1 with k|k
 ·exact .inl ⟨k,fun c hc hl=>by
   obtain⟨d,h1,h2,h3,h4⟩:=h.2 c hc hl
   exact⟨d,h1,h2,h3,fun k=>h4 (.inl k)⟩⟩
 ·exact .inr ⟨k,fun c hc hl=>by
   obtain⟨d,h1,h2,h3,h4⟩:=h.2 c hc hl
   exact⟨d,h1,h2,h3,fun k=>h4 (.inr k)⟩⟩
theorem Lin.le(H:Lin cm V){x y z:α}(h1:cm x y≤0)(h2:cm y z≤0):cm x z≤0:=by have:=H.tr x y z;unfold TR at this;omega
theorem Lin.lt_le(H:Lin cm V){x y z:α}(h1:cm x y<0)(h2:cm y z≤0):cm x z<0:=by have:=H.tr x y z;unfold TR at this;omega
theorem Lin.le_lt(H:Lin cm V){x y z:α}(h1:cm x y≤0)(h2:cm y z<0):cm x z<0:=by have:=H.tr x y z;unfold TR at this;omega
theorem HiE.or(H:Lin cm V){S T:α→Prop}{a:α}(h:HiE cm V (fun a=>S a∨T a) a):HiE cm V S a∨HiE cm V T a:=by
 obtain⟨h0,hc0,h1⟩:=h
 by_cases k:HiE cm V S a
 ·exact .inl k
 ·refine .inr ⟨fun x=>h0 (.inr x),hc0,fun c hc hl=>?_⟩
  have k':∃c1,V c1∧cm c1 a<0∧∀d,V d→cm c1 d≤0→cm d a<0→¬S d:=Classical.byContradiction fun n=>k ⟨fun x=>h0 (.inl x),hc0,fun c hc hl=>Classical.byContradiction fun m=>n ⟨c,hc,hl,fun d d1 d2 d3 d4=>m ⟨d,d1,d2,d3,d4⟩⟩⟩
  obtain⟨c1,v1,l1,n1⟩:=k'
  by_cases hcc:cm c c1≤0
  ·obtain⟨d,d1,d2,d3,d4⟩:=h1 c1 v1 l1
   exact⟨d,d1,H.le hcc d2,d3,d4.resolve_left (n1 d d1 d2 d3)⟩
  ·have ha:=H.anti c c1
   obtain⟨d,d1,d2,d3,d4⟩:=h1 c hc hl
   exact⟨d,d1,d2,d3,d4.resolve_left (n1 d d1 (H.le (by omega) d2) d3)⟩
theorem LoE.span(H:Lin cm V){s:α×α}{a:α}(h1:V s.1)(ha:V a)(h:LoE cm V (fun a=>cm s.1 a≤0∧cm a s.2<0) a):a=s.1:=by
 obtain⟨⟨k1,k2⟩,k3⟩:=h
 by_cases hl:cm s.1 a<0
 ·obtain⟨d,d1,d2,d3,d4⟩:=k3 s.1 h1 hl
  exact absurd ⟨d2,H.lt_le d3 (by omega)⟩ d4
 ·have:=H.anti s.1 a
  exact H.eq a s.1 ha h1 (by omega)
theorem HiE.span(H:Lin cm V){s:α×α}{a:α}(h2:V s.2)(ha:V a)(h:HiE cm V (fun a=>cm s.1 a≤0∧cm a s.2<0) a):a=s.2:=by
 obtain⟨k1,⟨c,c1,c2⟩,k3⟩:=h
 obtain⟨d,d1,d2,d3,d4,d5⟩:=k3 c c1 c2
 have hsa:cm s.1 a≤0:=by have:=H.le_lt d4 d3;omega
 have hna:¬cm a s.2<0:=fun k=>k1 ⟨hsa,k⟩
 have an:=H.anti a s.2
 by_cases hl:cm s.2 a<0
 ·obtain⟨e,e1,e2,e3,e4,e5⟩:=k3 s.2 h2 hl
  have:=H.anti s.2 e
  omega
 ·exact H.eq a s.2 ha h2 (by omega)
theorem LoE.mem(H:Lin cm V):∀{l:List (α×α)} {a:α},(∀s∈l,V s.1∧V s.2)→V a→LoE cm V (fun a=>inS cm a l) a→∃s∈l,a=s.1
 | [],a,_,_,h=>absurd h.1 (inS_nil a)
 | s::r,a,hv,ha,h=>by
  rcases(h.congr ha fun a _=>inS_cons).or with h|h
  ·exact⟨s,by simp,h.span H (hv s (by simp)).1 ha⟩
  ·obtain⟨t,ht,e⟩:=LoE.mem H (fun t ht=>hv t (by simp[ht])) ha h
   exact⟨t,by simp[ht],e⟩
theorem HiE.mem(H:Lin cm V):∀{l:List (α×α)} {a:α},(∀s∈l,V s.1∧V s.2)→V a→HiE cm V (fun a=>inS cm a l) a→∃s∈l,a=s.2
 | [],a,_,_,h=>by
  obtain⟨_,⟨c,c1,c2⟩,h3⟩:=h
  obtain⟨d,_,_,_,d4⟩:=h3 c c1 c2
  exact absurd d4 (inS_nil d)
 | s::r,a,hv,ha,h=>by
  rcases(h.congr ha fun a _=>inS_cons).or H with h|h
  ·exact⟨s,by simp,h.span H (hv s (by simp)).2 ha⟩
  ·obtain⟨t,ht,e⟩:=HiE.mem H (fun t ht=>hv t (by simp[ht])) ha h
   exact⟨t,by simp[ht],e⟩
theorem NF.three{l:List (α×α)}(h:NF cm V l){s t:α×α}(hs:s∈l)(ht:t∈l):s=t∨cm s.2 t.1<0∨cm t.2 s.1<0:=by
 obtain⟨i,hi,rfl⟩:=List.mem_iff_getElem.1 hs
 obtain⟨j,hj,rfl⟩:=List.mem_iff_getElem.1 ht
 rcases Nat.lt_trichotomy i j with k|k|k
 ·exact .inr (.inl (List.pairwise_iff_getElem.1 h.ord i j hi hj k))
 ·subst k;exact .inl rfl
 ·exact .inr (.inr (List.pairwise_iff_getElem.1 h.ord j i hj hi k))
theorem NF.stop(H:Lin cm V){l:List (α×α)}(h:NF cm V l){s:α×α}(hs:s∈l):¬inS cm s.2 l:=by
 rintro⟨u,hu,k1,k2⟩
 have ne:=(h.ne u hu).1
 have ns:=(h.ne s hs).1
 rcases h.three hs hu with e|e|e
 ·subst e
  have:=H.self s.2
  omega
 ·have:=H.lt_le e k1
  have:=H.self s.2
  omega
 ·have a1:=H.lt_le k2 (show cm u.2 s.1≤0 by omega)
  have a2:=H.lt_le a1 (show cm s.1 s.2≤0 by omega)
  have:=H.self s.2
  omega
theorem NF.lo(H:Lin cm V){l:List (α×α)}(h:NF cm V l){s:α×α}(hs:s∈l):LoE cm V (fun a=>inS cm a l) s.1:=by
 have ns:=h.ne s hs
 refine⟨⟨s,hs,by rw[H.self];omega,ns.1⟩,fun c hc hl=>?_⟩
 by_cases k:inS cm c l
 ·obtain⟨t,ht,k1,k2⟩:=k
  have nt:=h.ne t ht
  rcases h.three hs ht with e|e|e
  ·subst e
   have:=H.anti s.1 c
   omega
  ·have a1:=H.lt_le hl (show cm s.1 s.2≤0 by omega)
   have a2:=H.lt_le a1 (show cm s.2 t.1≤0 by omega)
   have:=H.anti t.1 c
   omega
  ·exact⟨t.2,nt.2.2,by omega,e,h.stop H ht⟩
 ·exact⟨c,hc,by rw[H.self];omega,hl,k⟩
theorem NF.hi(H:Lin cm V){l:List (α×α)}(h:NF cm V l){s:α×α}(hs:s∈l):HiE cm V (fun a=>inS cm a l) s.2:=by
 have ns:=h.ne s hs
 refine⟨h.stop H hs,⟨s.1,ns.2.1,ns.1⟩,fun c hc hl=>?_⟩
 by_cases k:cm s.1 c≤0
 ·exact⟨c,hc,by rw[H.self];omega,hl,s,hs,k,hl⟩
 ·have:=H.anti s.1 c
  exact⟨s.1,ns.2.1,by omega,ns.1,s,hs,by rw[H.self];omega,ns.1⟩
end
open Go.RowKit
def Row(w:World)(g:Nat)(t:TypeId)(n:Nat):Prop:=∃cs,Blk w g t cs∧cs.size=n
section
variable {w w':World} {g:Nat} {t:TypeId} {n:Nat}
theorem Row.lt(h:Row w g t n):g<w.heap.size:=by obtain⟨cs,hb,_⟩:=h;exact hb.lt
theorem Row.step(h:Row w g t n)(hb:Below w.heap.size w w'):Row w' g t n:=by obtain⟨cs,h1,h2⟩:=h;exact⟨cs,h1.step hb,h2⟩
theorem Row.alloc(h:Row w g t n)(o:Obj):Row (w.alloc o) g t n:=by obtain⟨cs,h1,h2⟩:=h;exact⟨cs,h1.alloc o,h2⟩
theorem Row.set(h:Row w g t n)(b off:Nat)(u:Value):Row (w.setCell ⟨b,off,none⟩ u) g t n:=by
 obtain⟨cs,h1,h2⟩:=h
 by_cases hp:g=b
 ·subst hp
  exact⟨cs.setIfInBounds off u,h1.set_ off u,by simpa using h2⟩
 ·exact⟨cs,h1.far hp u,h2⟩
theorem Row.putV(h:Row w g t n)(b off:Nat)(v:VC):Row (setV w b off v) g t n:=((((h.set _ _ _).set _ _ _).set _ _ _).set _ _ _).set _ _ _
theorem Row.frozen(h:Row w g t n)(i:Nat):w.frozen? ⟨g,i,none⟩=false:=by obtain⟨cs,h1,_⟩:=h;exact h1.frozen i
theorem Row.cell(h:Row w g t n){i:Nat}(hi:i<n):∃v,w.cell? ⟨g,i,none⟩=some v:=by
 obtain⟨cs,h1,h2⟩:=h
 rw[h1.cell,Array.getElem?_eq_getElem (by omega)]
 exact⟨_,rfl⟩
theorem Row.same(h:Row w g t n)(hb:w'.heap[g]?=w.heap[g]?):Row w' g t n:=by obtain⟨cs,h1,h2⟩:=h;exact⟨cs,hb.trans h1,h2⟩
end
theorem addr_ne{b b' o o':Nat}(h:b≠b'∨o≠o'):(⟨b,o,none⟩:Addr)≠⟨b',o',none⟩:=by
 intro e
 injection e with e1 e2
 omega
theorem cell_setV_far{w:World}{b off b' o:Nat}{v:VC}(h:b'≠b∨o<off∨off+5≤o):(setV w b off v).cell? ⟨b',o,none⟩=w.cell? ⟨b',o,none⟩:=by
 unfold setV
 rw[World.cell?_setCell_other _ _ _ _ (addr_ne (by omega)),World.cell?_setCell_other _ _ _ _ (addr_ne (by omega)),World.cell?_setCell_other _ _ _ _ (addr_ne (by omega)),World.cell?_setCell_other _ _ _ _ (addr_ne (by omega)),World.cell?_setCell_other _ _ _ _ (addr_ne (by omega))]
theorem VAt.setV_far{w:World}{b off b' o:Nat}{v u:VC}(h:VAt w b' o u)(hne:b'≠b∨o+5≤off∨off+5≤o):VAt (setV w b off v) b' o u:=by
 obtain⟨h0,h1,h2,h3,h4⟩:=h
 exact⟨(cell_setV_far (by omega)).trans h0,(cell_setV_far (by omega)).trans h1,(cell_setV_far (by omega)).trans h2,(cell_setV_far (by omega)).trans h3,(cell_setV_far (by omega)).trans h4⟩
theorem VAt.of_setV{w:World}{b off:Nat}{v:VC}(h:∀k,k<5→∃u,w.cell? ⟨b,off+k,none⟩=some u):VAt (setV w b off v) b off v:=by
 obtain⟨u0,h0⟩:=h 0 (by omega)
 obtain⟨u1,h1⟩:=h 1 (by omega)
 obtain⟨u2,h2⟩:=h 2 (by omega)
 obtain⟨u3,h3⟩:=h 3 (by omega)
 obtain⟨u4,h4⟩:=h 4 (by omega)
 have o:∀{W:World} {x y:Nat} {z:Value},x≠y→(W.setCell ⟨b,x,none⟩ z).cell? ⟨b,y,none⟩=W.cell? ⟨b,y,none⟩:=fun hne=>World.cell?_setCell_other _ _ _ _ (addr_ne (.inr hne))
 unfold setV
 refine⟨?_,?_,?_,?_,?_⟩
 ·rw[o (by omega),o (by omega),o (by omega),o (by omega)]
  exact World.cell?_setCell_same _ _ _ h0
 ·rw[o (by omega),o (by omega),o (by omega)]
  exact World.cell?_setCell_same _ _ _ ((o (by omega)).trans h1)
 ·rw[o (by omega),o (by omega)]
  exact World.cell?_setCell_same _ _ _ ((o (by omega)).trans ((o (by omega)).trans h2))
 ·rw[o (by omega)]
  exact World.cell?_setCell_same _ _ _ ((o (by omega)).trans ((o (by omega)).trans ((o (by omega)).trans h3)))
 ·exact World.cell?_setCell_same _ _ _ ((o (by omega)).trans ((o (by omega)).trans ((o (by omega)).trans ((o (by omega)).trans h4))))
theorem heap_setV{w:World}{b off:Nat}{v:VC}{g:Nat}(h:g≠b):(setV w b off v).heap[g]?=w.heap[g]?:=by
 unfold setV
 rw[Below.heap_setCell _ _ _ _ h,Below.heap_setCell _ _ _ _ h,Below.heap_setCell _ _ _ _ h,Below.heap_setCell _ _ _ _ h,Below.heap_setCell _ _ _ _ h]
structure Cl(lo mid:Nat)(w:World)(c:VC)(x:Val):Prop where
 k:c.k=x.k
 n:c.n=x.n
 t:c.t=x.t
 tsz:x.t.size≤reach
 ln:c.ln=x.l.length
 lc:c.lc=c.ln
 lsz:c.ln*80≤reach
 l0:c.ln=0→c.LA=none
 la:0<c.ln→∃g,c.LA=some ⟨g,0,none⟩∧lo≤g∧g<mid∧Row w g 29 (c.ln*5)∧∀(i:Nat) (y:Val),x.l[i]?=some y→∃e,VAt w g (i*5) e∧RV (fun b=>g<b∧b<mid) w e y
 hmid:lo≤mid
 dn:c.dn=x.d.length
 dc:c.dc=c.dn
 dsz:c.dn*96≤reach
 d0:c.dn=0→c.DA=none
 da:0<c.dn→∃g,c.DA=some ⟨g,0,none⟩∧mid≤g∧Row w g 59 (c.dn*6)∧∀(i:Nat) (f:Fld),x.d[i]?=some f→w.cell? ⟨g,i*6,none⟩=some (.string f.s)∧f.s.size≤reach∧∃e,VAt w g (i*6+1) e∧RV (fun b=>g<b) w e f.v
theorem Cl.rv{lo mid:Nat}{w:World}{c:VC}{x:Val}(h:Cl lo mid w c x):RV (fun b=>lo≤b) w c x:=by
 refine RVs.shut ⟨h.k,h.n,h.t,h.tsz,h.ln,by have:=h.lc;omega,h.lsz,fun h'=>?_,h.dn,by have:=h.dc;omega,h.dsz,fun h'=>?_⟩
 ·obtain⟨g,e,h1,h2,hrow,hl⟩:=h.la h'
  refine⟨g,0,e,⟨h1,fun _=>hrow.frozen⟩,fun i y hi=>?_⟩
  obtain⟨u,hu,hr⟩:=hl i y hi
  exact⟨u,by rw[Nat.zero_add];exact hu,hr.mono fun b hb=>by omega⟩
 ·obtain⟨g,e,h1,hrow,hl⟩:=h.da h'
  have hm:=h.hmid
  refine⟨g,0,e,⟨by omega,fun _=>hrow.frozen⟩,fun i y hi=>?_⟩
  obtain⟨hs,hz,u,hu,hr⟩:=hl i y hi
  exact⟨by rw[Nat.zero_add];exact hs,hz,u,by rw[Nat.zero_add];exact hu,hr.mono fun b hb=>by omega⟩
def CloneOk(w:World)(x:Val)(e:Ending)(w':World):Prop:=∃(c:VC) (mid:Nat),e=.returned c.val∧Cl w.heap.size mid w' c x∧Below w.heap.size w w'
theorem info_value:(Tryz.prog.info? 29).map (fun i=>(i.zero,i.size,i.bytes))=some (some VC.zero.val,5,80):=by kernel_rfl
theorem info_field:(Tryz.prog.info? 59).map (fun i=>(i.zero,i.size,i.bytes))=some (some (.agg (#[.string ByteArray.empty]++VC.zero.arr)),6,96):=by kernel_rfl
theorem run_make_rowN{P:Program}(t e:TypeId)(i:TypeInfo)(z:Value)(ht:P.underlying t=some (.slice e))(hi:P.info? e=some i)(hz:i.zero=some z)(n:Nat)(hbytes:i.bytes*n≤281474976710656)(h63:n≤9223372036854775807)(w:World):
 (Instr.makeSlice t (.int .i64 (n:Int)) (.int .i64 (n:Int))).run P w=.ok (.slice (some ⟨w.heap.size,0,none⟩) n n) (w.alloc (.cells (madeCells z.cells (n*i.size)) e)):=by
 have hb:(i.bytes:Int)*(n:Int)≤281474976710656:=by
  have h:((i.bytes*n:Nat):Int)≤281474976710656:=by omega
  rwa [Int.natCast_mul] at h
 have hr:=run_make (P:=P) w t e i z ht hi hz .i64 .i64 n n (by omega) (by omega) hb (by omega)
 simp only[Int.toNat_natCast] at hr
 exact hr
structure CSt(w:World)(c:VC)(x:Val)(wx:World)(r:VC):Prop where
 b0:Blk wx w.heap.size 29 c.arr
 b1:Blk wx (w.heap.size+1) 29 VC.zero.arr
 b2:Blk wx (w.heap.size+2) 29 r.arr
 bel:Below w.heap.size w wx
 e:r.k=c.k∧r.n=c.n∧r.t=c.t∧r.DA=none∧r.dn=0∧r.dc=0∧r.ln=c.ln∧r.lc=c.ln
 l0:r.ln=0→r.LA=none
 la:0<r.ln→∃g,r.LA=some ⟨g,0,none⟩∧w.heap.size+3≤g∧Row wx g 29 (r.ln*5)∧∀(i:Nat) (y:Val),x.l[i]?=some y→∃e,VAt wx g (i*5) e∧RV (fun b=>g<b) wx e y
end Go.Proofs.YtfkapannahcjiaaGreatDoor
namespace Go.RowKit
theorem Below.undrewN{B n:Nat}{a w:World}(h:Below B (a.drewN n) w):Below B a w:=⟨h.os,h.tape,h.output,h.size,h.block⟩
end Go.RowKit
namespace Go.Proofs.YtfkapannahcjiaaGreatDoor
open Go.RowKit
structure CL(w:World)(c:VC)(l:List Val)(i:Nat)(wx:World):Prop where
 b0:Blk wx w.heap.size 29 c.arr
 b1:Blk wx (w.heap.size+1) 29 VC.zero.arr
 b2:Blk wx (w.heap.size+2) 29 (VC.arr ⟨c.k,c.n,c.t,some ⟨w.heap.size+3,0,none⟩,c.ln,c.ln,none,0,0⟩)
 row:Row wx (w.heap.size+3) 29 (c.ln*5)
 el:∀(j:Nat) (y:Val),j<i→l[j]?=some y→∃e,VAt wx (w.heap.size+3) (j*5) e∧RV (fun b=>w.heap.size+3<b) wx e y
 bel:Below w.heap.size w wx
theorem RV.step'{F:Nat→Prop}{W w':World}{c:VC}{x:Val}(h:RV (fun b=>F b∧b<W.heap.size) W c x)(hb:Below W.heap.size W w'):RV F w' c x:=h.keepG fun b hF _=>⟨hF.1,hb.block b hF.2⟩
theorem CL.step{w wx w':World}{c:VC}{l:List Val}{i:Nat}(h:CL w c l i wx)(hb:Below wx.heap.size wx w'):CL w c l i w':=
 ⟨h.b0.step hb,h.b1.step hb,h.b2.step hb,h.row.step hb,fun j y hj hy=>by obtain⟨e,h1,h2⟩:=h.el j y hj hy;exact⟨e,h1.step hb,h2.step hb⟩,h.bel.step' hb⟩
theorem CL.next{w wx:World}{c:VC}{l:List Val}{i:Nat}{y:Val}{u:VC}(h:CL w c l i wx)(hi:i<c.ln)(hy:l[i]?=some y)(hu:RV (fun b=>w.heap.size+3<b) wx u y):
 CL w c l (i+1) (setV wx (w.heap.size+3) (i*5) u):=by
 have keep:∀{z:VC} {v:Val},RV (fun b=>w.heap.size+3<b) wx z v→RV (fun b=>w.heap.size+3<b) (setV wx (w.heap.size+3) (i*5) u) z v:=fun hr=>hr.keep fun b hb=>heap_setV (by omega)
 refine⟨h.b0.farV (by omega) _ _,h.b1.farV (by omega) _ _,h.b2.farV (by omega) _ _,h.row.putV _ _ _,fun j z hj hz=>?_,below_setV h.bel (by omega) _ _⟩
 by_cases e:j=i
 ·subst e
  obtain rfl:y=z:=by have:=hy.symm.trans hz;simpa using this
  exact⟨u,VAt.of_setV fun q hq=>h.row.cell (by omega),keep hu⟩
 ·obtain⟨e',h1,h2⟩:=h.el j z (by omega) hz
  exact⟨e',h1.setV_far (by omega),keep h2⟩
theorem cell_setF_far{w:World}{b off b' o:Nat}{s:ByteArray}{v:VC}(h:b'≠b∨o<off∨off+6≤o):(setV (w.setCell ⟨b,off,none⟩ (.string s)) b (off+1) v).cell? ⟨b',o,none⟩=w.cell? ⟨b',o,none⟩:=by
 rw[cell_setV_far (by omega),World.cell?_setCell_other _ _ _ _ (addr_ne (by omega))]
theorem VAt.setF_far{w:World}{b off b' o:Nat}{s:ByteArray}{v u:VC}(h:VAt w b' o u)(hne:b'≠b∨o+5≤off∨off+6≤o):VAt (setV (w.setCell ⟨b,off,none⟩ (.string s)) b (off+1) v) b' o u:=by
 obtain⟨h0,h1,h2,h3,h4⟩:=h
 exact⟨(cell_setF_far (by omega)).trans h0,(cell_setF_far (by omega)).trans h1,(cell_setF_far (by omega)).trans h2,(cell_setF_far (by omega)).trans h3,(cell_setF_far (by omega)).trans h4⟩
theorem heap_setF{w:World}{b off:Nat}{s:ByteArray}{v:VC}{g:Nat}(h:g≠b):(setV (w.setCell ⟨b,off,none⟩ (.string s)) b (off+1) v).heap[g]?=w.heap[g]?:=by
 rw[heap_setV h,Below.heap_setCell _ _ _ _ h]
structure CD(w:World)(c r:VC)(gd:Nat)(l:List Val)(d:List Fld)(i:Nat)(wx:World):Prop where
 b0:Blk wx w.heap.size 29 c.arr
 b1:Blk wx (w.heap.size+1) 29 VC.zero.arr
 b2:Blk wx (w.heap.size+2) 29 (VC.arr ⟨r.k,r.n,r.t,r.LA,r.ln,r.lc,some ⟨gd,0,none⟩,c.dn,c.dn⟩)
 hgd:w.heap.size+3≤gd
 row:Row wx gd 59 (c.dn*6)
 la:0<r.ln→∃g,r.LA=some ⟨g,0,none⟩∧w.heap.size+3≤g∧g<gd∧Row wx g 29 (r.ln*5)∧∀(i:Nat) (y:Val),l[i]?=some y→∃e,VAt wx g (i*5) e∧RV (fun b=>g<b∧b<gd) wx e y
 el:∀(j:Nat) (f:Fld),j<i→d[j]?=some f→wx.cell? ⟨gd,j*6,none⟩=some (.string f.s)∧∃e,VAt wx gd (j*6+1) e∧RV (fun b=>gd<b) wx e f.v
 bel:Below w.heap.size w wx
theorem CD.step{w wx w':World}{c r:VC}{gd:Nat}{l:List Val}{d:List Fld}{i:Nat}(h:CD w c r gd l d i wx)(hb:Below wx.heap.size wx w'):CD w c r gd l d i w':=by
 refine⟨h.b0.step hb,h.b1.step hb,h.b2.step hb,h.hgd,h.row.step hb,fun hn=>?_,fun j f hj hf=>?_,h.bel.step' hb⟩
 ·obtain⟨g,h1,h2,h3,h4,h5⟩:=h.la hn
  refine⟨g,h1,h2,h3,h4.step hb,fun i y hi=>?_⟩
  obtain⟨e,k1,k2⟩:=h5 i y hi
  exact⟨e,k1.step hb,k2.step hb⟩
 ·obtain⟨h1,e,h2,h3⟩:=h.el j f hj hf
  exact⟨(hb.cell (p:=⟨gd,j*6,none⟩) h.row.lt).trans h1,e,h2.step hb,h3.step hb⟩
theorem CD.next{w wx:World}{c r:VC}{gd:Nat}{l:List Val}{d:List Fld}{i:Nat}{f:Fld}{u:VC}(h:CD w c r gd l d i wx)(hi:i<c.dn)(hf:d[i]?=some f)(hu:RV (fun b=>gd<b) wx u f.v):
 CD w c r gd l d (i+1) (setV (wx.setCell ⟨gd,i*6,none⟩ (.string f.s)) gd (i*6+1) u):=by
 have hg:=h.hgd
 have keep:∀{F:Nat→Prop} {z:VC} {v:Val},(∀b,F b→b≠gd)→RV F wx z v→RV F (setV (wx.setCell ⟨gd,i*6,none⟩ (.string f.s)) gd (i*6+1) u) z v:=fun hF hr=>hr.keep fun b hb=>heap_setF (hF b hb)
 refine⟨(h.b0.far (p:=⟨gd,i*6,none⟩) (by show w.heap.size≠gd;omega) _).farV (by omega) _ _,(h.b1.far (p:=⟨gd,i*6,none⟩) (by show w.heap.size+1≠gd;omega) _).farV (by omega) _ _,(h.b2.far (p:=⟨gd,i*6,none⟩) (by show w.heap.size+2≠gd;omega) _).farV (by omega) _ _,hg,(h.row.set _ _ _).putV _ _ _,fun hn=>?_,fun j z hj hz=>?_,below_setV (h.bel.setCell (p:=⟨gd,i*6,none⟩) (by show w.heap.size≤gd;omega) _) (by omega) _ _⟩
 ·obtain⟨g,h1,h2,h3,h4,h5⟩:=h.la hn
  refine⟨g,h1,h2,h3,(h4.set _ _ _).putV _ _ _,fun i y hi=>?_⟩
  obtain⟨e,k1,k2⟩:=h5 i y hi
  exact⟨e,k1.setF_far (by omega),keep (by intro b hb;omega) k2⟩
 ·by_cases e:j=i
  ·subst e
   obtain rfl:f=z:=by have:=hf.symm.trans hz;simpa using this
   obtain⟨o,ho⟩:=h.row.cell (i:=j*6) (by omega)
   refine⟨?_,u,VAt.of_setV fun q hq=>(h.row.set gd (j*6) (.string f.s)).cell (by omega),keep (by intro b hb;omega) hu⟩
   rw[cell_setV_far (by omega)]
   exact World.cell?_setCell_same _ _ _ ho
  ·obtain⟨h1,e',h2,h3⟩:=h.el j z (by omega) hz
   exact⟨(cell_setF_far (by omega)).trans h1,e',h2.setF_far (by omega),keep (by intro b hb;omega) h3⟩
theorem CD.start{w wc:World}{ck cn:Int}{ct:ByteArray}{LA DA rLA:Option Addr}{ln lc dn dc:Nat}{k n:Int}{t:ByteArray}{l:List Val}{d:List Fld}{cs:Array Value}(h:CSt w ⟨ck,cn,ct,LA,ln,lc,DA,dn,dc⟩ (.mk k n t l d) wc ⟨ck,cn,ct,rLA,ln,ln,none,0,0⟩):
 CD w ⟨ck,cn,ct,LA,ln,lc,DA,dn,dc⟩ ⟨ck,cn,ct,rLA,ln,ln,none,0,0⟩ wc.heap.size l d 0 ((wc.setCell ⟨w.heap.size+2,4,none⟩ (.slice (some ⟨wc.heap.size,0,none⟩) dn dn)).alloc (.cells (madeCells cs (dn*6)) 59)):=by
 have hlt:=h.b2.lt
 have hsz:(wc.setCell ⟨w.heap.size+2,4,none⟩ (.slice (some ⟨wc.heap.size,0,none⟩) dn dn)).heap.size=wc.heap.size:=by simp[World.setCell]
 refine⟨(h.b0.far (p:=⟨w.heap.size+2,4,none⟩) (by show w.heap.size≠w.heap.size+2;omega) _).alloc _,(h.b1.far (p:=⟨w.heap.size+2,4,none⟩) (by show w.heap.size+1≠w.heap.size+2;omega) _).alloc _,(h.b2.set_ 4 _).alloc _,by omega,⟨_,Blk.new_at hsz.symm,size_madeCells _ _⟩,fun hn=>?_,fun j f hj=>by omega,?_⟩
 ·obtain⟨g,h1,h2,h3,h4⟩:=h.la hn
  refine⟨g,h1,h2,h3.lt,(h3.set _ _ _).alloc _,fun i y hi=>?_⟩
  obtain⟨e,k1,k2⟩:=h4 i y hi
  have hk:∀q,q<wc.heap.size→q≠w.heap.size+2→((wc.setCell ⟨w.heap.size+2,4,none⟩ (.slice (some ⟨wc.heap.size,0,none⟩) dn dn)).alloc (.cells (madeCells cs (dn*6)) 59)).heap[q]?=wc.heap[q]?:=fun q hq hne=>by
   rw[Below.heap_alloc _ _ _ (by rw[hsz];exact hq),Below.heap_setCell _ _ _ _ hne]
  refine⟨e,k1.keep (hk g h3.lt (by omega)),k2.lt.keepG fun q hq _=>⟨hq,hk q hq.2 (by omega)⟩⟩
 ·exact(h.bel.setCell (p:=⟨w.heap.size+2,4,none⟩) (by show w.heap.size≤w.heap.size+2;omega) _).alloc (by rw[hsz];exact h.bel.size) _
structure CE(w:World)(x:Val)(r:VC)(mid:Nat)(wx:World):Prop where
 b1:Blk wx (w.heap.size+1) 29 VC.zero.arr
 b2:Blk wx (w.heap.size+2) 29 r.arr
 cl:Cl (w.heap.size+3) mid wx r x
 bel:Below w.heap.size w wx
theorem CE.of_cd{w wx:World}{ck cn:Int}{ct:ByteArray}{LA DA rLA:Option Addr}{ln lc dn dc gd:Nat}{k n:Int}{t:ByteArray}{l:List Val}{d:List Fld}(h:CD w ⟨ck,cn,ct,LA,ln,lc,DA,dn,dc⟩ ⟨ck,cn,ct,rLA,ln,ln,none,0,0⟩ gd l d dn wx)(ho:RVs (fun _=>True) w ⟨ck,cn,ct,LA,ln,lc,DA,dn,dc⟩ (.mk k n t l d))(hd:d.length≤dn)(hl0:ln=0→rLA=none)(hd0:0<dn):
 CE w (.mk k n t l d) ⟨ck,cn,ct,rLA,ln,ln,some ⟨gd,0,none⟩,dn,dn⟩ gd wx:=by
 refine⟨h.b1,h.b2,⟨ho.k,ho.n,ho.t,ho.tsz,ho.ln,rfl,ho.lsz,hl0,h.la,h.hgd,ho.dn,rfl,ho.dsz,fun h0=>?_,fun hp=>?_⟩,h.bel⟩
 ·exact absurd h0 (by show dn≠0;omega)
 ·refine⟨gd,rfl,qL,h.row,fun i f hi=>?_⟩
  obtain⟨h1,h2⟩:=h.el i f (by have:=(List.getElem?_eq_some_iff.1 hi).1;simp only[Val.d] at this;omega) hi
  obtain⟨b,off,_,_,hel⟩:=ho.da hp
  exact⟨h1,(hel i f hi).2.1,h2⟩
theorem CE.of_cst{w wx:World}{ck cn:Int}{ct:ByteArray}{LA DA rLA:Option Addr}{ln lc dc:Nat}{x:Val}(h:CSt w ⟨ck,cn,ct,LA,ln,lc,DA,0,dc⟩ x wx ⟨ck,cn,ct,rLA,ln,ln,none,0,0⟩)(ho:RVs (fun _=>True) w ⟨ck,cn,ct,LA,ln,lc,DA,0,dc⟩ x):
 CE w x ⟨ck,cn,ct,rLA,ln,ln,none,0,0⟩ wx.heap.size wx:=by
 refine⟨h.b1,h.b2,⟨ho.k,ho.n,ho.t,ho.tsz,ho.ln,rfl,ho.lsz,h.l0,fun hn=>?_,?_,ho.dn,rfl,ho.dsz,fun _=>rfl,fun hp=>absurd hp (Nat.lt_irrefl 0)⟩,h.bel⟩
 ·obtain⟨g,h1,h2,h3,h4⟩:=h.la hn
  refine⟨g,h1,h2,h3.lt,h3,fun i y hi=>?_⟩
  obtain⟨e,k1,k2⟩:=h4 i y hi
  exact⟨e,k1,k2.lt⟩
 ·have:=h.b2.lt
  omega
theorem Cl.keep{lo mid:Nat}{w w':World}{c:VC}{x:Val}(h:Cl lo mid w c x)(hk:∀b,lo≤b→w'.heap[b]?=w.heap[b]?):Cl lo mid w' c x:=by
 refine⟨h.k,h.n,h.t,h.tsz,h.ln,h.lc,h.lsz,h.l0,fun hn=>?_,h.hmid,h.dn,h.dc,h.dsz,h.d0,fun hn=>?_⟩
 ·obtain⟨g,h1,h2,h3,h4,h5⟩:=h.la hn
  refine⟨g,h1,h2,h3,h4.same (hk g h2),fun i y hi=>?_⟩
  obtain⟨e,k1,k2⟩:=h5 i y hi
  exact⟨e,k1.keep (hk g h2),k2.keep fun b hb=>hk b (by omega)⟩
 ·obtain⟨g,h1,h2,h3,h4⟩:=h.da hn
  have hm:=h.hmid
  refine⟨g,h1,h2,h3.same (hk g (by omega)),fun i f hi=>?_⟩
  obtain⟨k0,kz,e,k1,k2⟩:=h4 i f hi
  exact⟨(World.cell?_of_block (w:=w) (a:=⟨g,i*6,none⟩) (hk g (by omega))).trans k0,kz,e,k1.keep (hk g (by omega)),k2.keep fun b hb=>hk b (by omega)⟩
theorem Cl.low{lo lo' mid:Nat}{w:World}{c:VC}{x:Val}(h:Cl lo mid w c x)(hl:lo'≤lo):Cl lo' mid w c x:=by
 refine⟨h.k,h.n,h.t,h.tsz,h.ln,h.lc,h.lsz,h.l0,fun hn=>?_,by have:=h.hmid;omega,h.dn,h.dc,h.dsz,h.d0,h.da⟩
 obtain⟨g,h1,h2,h3,h4,h5⟩:=h.la hn
 exact⟨g,h1,by omega,h3,h4,h5⟩
theorem CE.done{w wx:World}{x:Val}{r:VC}{mid:Nat}(h:CE w x r mid wx):CloneOk w x (.returned r.val) (setV wx (w.heap.size+1) 0 r):=
 ⟨r,mid,rfl,(h.cl.keep fun b hb=>heap_setV (by omega)).low (by omega),below_setV h.bel (by omega) _ _⟩
theorem results_val{fn:Func}{p:Tmp}(h:fn.results=#[.cell p 29])(tmps:Array Value)(g1 off:Nat)(h1:tmps[p]?.getD undef=.pointer (some ⟨g1,off,none⟩))(W:World)(v:VC)(q:VAt W g1 off v):
 (results fn tmps).run Tryz.prog W=.ok v.val W:=by
 obtain⟨q0,q1,q2,q3,q4⟩:=q
 simp[results,h,h1,asAddr,go_sem,q0,q1,q2,q3,q4]
abbrev PV:=VC×Val
abbrev PF:=VC×Fld
def recV(p:PV):List Value:=p.1.list
def recF(p:PF):List Value:=.string p.2.s::p.1.list
theorem recV_length(p:PV):(recV p).length=5:=rfl
theorem recF_length(p:PF):(recF p).length=6:=rfl
theorem recV_one(p:PV):∀u∈recV p,u.oneCell'=true:=by simp[recV,VC.list,Value.oneCell']
theorem recF_one(p:PF):∀u∈recF p,u.oneCell'=true:=by simp[recF,VC.list,Value.oneCell']
structure SL(F:Nat→Prop)(w:World)(A:Option Addr)(n c:Nat)(ps:List PV):Prop where
 sr:SR 5 recV w A n c ps
 sz:n*80≤reach
 blk:0<n→∃b off,A=some ⟨b,off,none⟩∧Ft F w b
 rv:∀p∈ps,RV F w p.1 p.2
structure SD(F:Nat→Prop)(w:World)(A:Option Addr)(n c:Nat)(ps:List PF):Prop where
 sr:SR 6 recF w A n c ps
 sz:n*96≤reach
 blk:0<n→∃b off,A=some ⟨b,off,none⟩∧Ft F w b
 ns:∀p∈ps,p.2.s.size≤reach
 rv:∀p∈ps,RV F w p.1 p.2.v
section
variable {F G:Nat→Prop} {w w':World} {A:Option Addr} {n c:Nat}
theorem vat_of{b off:Nat}{u:VC}(h:∀(j:Nat) (v:Value),u.list[j]?=some v→w.cell? ⟨b,off+j,none⟩=some v):VAt w b off u:=
 ⟨h 0 _ rfl,h 1 _ rfl,h 2 _ rfl,h 3 _ rfl,h 4 _ rfl⟩
theorem vat_cell{b off:Nat}{u:VC}(h:VAt w b off u):∀(j:Nat) (v:Value),u.list[j]?=some v→w.cell? ⟨b,off+j,none⟩=some v:=by
 obtain⟨h0,h1,h2,h3,h4⟩:=h
 intro j v hj
 match j,hj with
 | 0,hj=>simp[VC.list] at hj;subst hj;exact h0
 | 1,hj=>simp[VC.list] at hj;subst hj;exact h1
 | 2,hj=>simp[VC.list] at hj;subst hj;exact h2
 | 3,hj=>simp[VC.list] at hj;subst hj;exact h3
 | 4,hj=>simp[VC.list] at hj;subst hj;exact h4
 | j+5,hj=>simp[VC.list] at hj
theorem choose_list{α β:Type}{p:Nat→β→α→Prop}:∀{l:List β},(∀i y,l[i]?=some y→∃u,p i y u)→∃ps:List (α×β),ps.map Prod.snd=l∧∀i q,ps[i]?=some q→p i q.2 q.1:=by
 intro l
 induction l generalizing p with
 | nil=>intro _;exact⟨[],rfl,fun i q h=>by simp at h⟩
 | cons y r ih=>
  intro h
  obtain⟨u,hu⟩:=h 0 y rfl
  obtain⟨ps,h1,h2⟩:=ih (p:=fun i=>p (i+1)) (fun i y hy=>h (i+1) y (by simpa using hy))
  refine⟨(u,y)::ps,by simp[h1],fun i q hq=>?_⟩
  cases i with
  | zero=>simp at hq;subst hq;exact hu
  | succ i=>exact h2 i q (by simpa using hq)
theorem RV.sl{u:VC}{x:Val}(h:RV F w u x):∃ps:List PV,ps.map Prod.snd=x.l∧SL F w u.LA u.ln u.lc ps:=by
 have ho:=h.open
 by_cases hn:0<u.ln
 ·obtain⟨b,off,e,hF,hl⟩:=ho.la hn
  obtain⟨ps,h1,h2⟩:=choose_list hl
  have hlen:u.ln=ps.length:=by rw[ho.ln,←h1];simp
  refine⟨ps,h1,⟨hlen,ho.lc,fun _=>⟨b,off,e,?_,fun i a hi j v hj=>vat_cell (h2 i a hi).1 j v hj⟩⟩,ho.lsz,fun _=>⟨b,off,e,hF⟩,fun p hp=>?_⟩
  ·obtain⟨q,hq⟩:∃q,ps[0]?=some q:=⟨_,List.getElem?_eq_getElem (by omega)⟩
   exact(h2 0 q hq).1.lt
  ·obtain⟨i,hi⟩:=List.getElem?_of_mem hp
   exact(h2 i p hi).2
 ·have h0:u.ln=0:=by omega
  have hx:x.l=[]:=List.eq_nil_of_length_eq_zero (by rw[←ho.ln];exact h0)
  exact⟨[],by rw[hx];rfl,⟨by rw[h0];rfl,ho.lc,fun h=>absurd h hn⟩,ho.lsz,fun h=>absurd h hn,fun p hp=>by simp at hp⟩
theorem RV.sd{u:VC}{x:Val}(h:RV F w u x):∃ps:List PF,ps.map Prod.snd=x.d∧SD F w u.DA u.dn u.dc ps:=by
 have ho:=h.open
 by_cases hn:0<u.dn
 ·obtain⟨b,off,e,hF,hl⟩:=ho.da hn
  obtain⟨ps,h1,h2⟩:=choose_list (p:=fun i (f:Fld) (v:VC)=>w.cell? ⟨b,off+i*6,none⟩=some (.string f.s)∧f.s.size≤reach∧VAt w b (off+i*6+1) v∧RV F w v f.v) (fun i f hf=>by
   obtain⟨h1,h2,v,h3,h4⟩:=hl i f hf
   exact⟨v,h1,h2,h3,h4⟩)
  have hlen:u.dn=ps.length:=by rw[ho.dn,←h1];simp
  refine⟨ps,h1,⟨hlen,ho.dc,fun _=>⟨b,off,e,?_,fun i a hi j v hj=>?_⟩⟩,ho.dsz,fun _=>⟨b,off,e,hF⟩,fun p hp=>?_,fun p hp=>?_⟩
  ·obtain⟨q,hq⟩:∃q,ps[0]?=some q:=⟨_,List.getElem?_eq_getElem (by omega)⟩
   exact(h2 0 q hq).2.2.1.lt
  ·obtain⟨k0,_,k1,_⟩:=h2 i a hi
   cases j with
   | zero=>simp[recF] at hj;subst hj;exact k0
   | succ j=>
    have:=vat_cell k1 j v (by simpa[recF] using hj)
    rw[show off+i*6+(j+1)=off+i*6+1+j by omega]
    exact this
  ·obtain⟨i,hi⟩:=List.getElem?_of_mem hp
   exact(h2 i p hi).2.1
  ·obtain⟨i,hi⟩:=List.getElem?_of_mem hp
   exact(h2 i p hi).2.2.2
 ·have h0:u.dn=0:=by omega
  have hx:x.d=[]:=List.eq_nil_of_length_eq_zero (by rw[←ho.dn];exact h0)
  exact⟨[],by rw[hx];rfl,⟨by rw[h0];rfl,ho.dc,fun h=>absurd h hn⟩,ho.dsz,fun h=>absurd h hn,fun p hp=>by simp at hp,fun p hp=>by simp at hp⟩
theorem RV.of_slices{k m:Int}{t:ByteArray}{LA DA:Option Addr}{ln lc dn dc:Nat}{ps:List PV}{fs:List PF}(ht:t.size≤reach)(hl:SL F w LA ln lc ps)(hd:SD F w DA dn dc fs):
 RV F w ⟨k,m,t,LA,ln,lc,DA,dn,dc⟩ (.mk k m t (ps.map Prod.snd) (fs.map Prod.snd)):=by
 refine RVs.shut ⟨rfl,rfl,rfl,ht,by simp[Val.l,hl.sr.ln],hl.sr.lc,hl.sz,fun hn=>?_,by simp[Val.d,hd.sr.ln],hd.sr.lc,hd.sz,fun hn=>?_⟩
 ·obtain⟨b,off,e,_,hel⟩:=hl.sr.el hn
  obtain⟨b',off',e',hF⟩:=hl.blk hn
  rw[e] at e'
  cases e'
  refine⟨b,off,e,hF,fun i y hi=>?_⟩
  simp only[Val.l,List.getElem?_map] at hi
  obtain⟨p,hp,rfl⟩:=Option.map_eq_some_iff.1 hi
  exact⟨p.1,vat_of fun j v hj=>hel i p hp j v hj,hl.rv p (List.mem_of_getElem? hp)⟩
 ·obtain⟨b,off,e,_,hel⟩:=hd.sr.el hn
  obtain⟨b',off',e',hF⟩:=hd.blk hn
  rw[e] at e'
  cases e'
  refine⟨b,off,e,hF,fun i y hi=>?_⟩
  simp only[Val.d,List.getElem?_map] at hi
  obtain⟨p,hp,rfl⟩:=Option.map_eq_some_iff.1 hi
  refine⟨hel i p hp 0 _ rfl,hd.ns p (List.mem_of_getElem? hp),p.1,vat_of fun j v hj=>?_,hd.rv p (List.mem_of_getElem? hp)⟩
  have:=hel i p hp (j+1) v (by simpa[recF] using hj)
  rw[show off+i*6+1+j=off+i*6+(j+1) by omega]
  exact this
theorem SL.vat{ps:List PV}(h:SL F w A n c ps){i:Nat}{p:PV}(hi:ps[i]?=some p):∃b off,A=some ⟨b,off,none⟩∧F b∧VAt w b (off+i*5) p.1∧RV F w p.1 p.2:=by
 have hn:0<n:=by have:=(List.getElem?_eq_some_iff.1 hi).1;have:=h.sr.ln;omega
 obtain⟨b,off,e,_,hel⟩:=h.sr.el hn
 obtain⟨b',off',e',hF⟩:=h.blk hn
 rw[e] at e'
 cases e'
 exact⟨b,off,e,hF.1,vat_of fun j v hj=>hel i p hi j v hj,h.rv p (List.mem_of_getElem? hi)⟩
theorem SD.vat{ps:List PF}(h:SD F w A n c ps){i:Nat}{p:PF}(hi:ps[i]?=some p):∃b off,A=some ⟨b,off,none⟩∧F b∧w.cell? ⟨b,off+i*6,none⟩=some (.string p.2.s)∧VAt w b (off+i*6+1) p.1∧RV F w p.1 p.2.v:=by
 have hn:0<n:=by have:=(List.getElem?_eq_some_iff.1 hi).1;have:=h.sr.ln;omega
 obtain⟨b,off,e,_,hel⟩:=h.sr.el hn
 obtain⟨b',off',e',hF⟩:=h.blk hn
 rw[e] at e'
 cases e'
 refine⟨b,off,e,hF.1,hel i p hi 0 _ rfl,vat_of fun j v hj=>?_,h.rv p (List.mem_of_getElem? hi)⟩
 have:=hel i p hi (j+1) v (by simpa[recF] using hj)
 rw[show off+i*6+1+j=off+i*6+(j+1) by omega]
 exact this
theorem SL.step{ps:List PV}(h:SL F w A n c ps)(hb:Below w.heap.size w w'):SL F w' A n c ps:=⟨h.sr.step hb,h.sz,fun hn=>by
 obtain⟨b,off,e,hF⟩:=h.blk hn
 obtain⟨b',off',e',hl,_⟩:=h.sr.el hn
 rw[e] at e'
 cases e'
 exact⟨b,off,e,hF.keepG hl fun q hq hql=>⟨hq,hb.block q hql⟩⟩,fun p hp=>(h.rv p hp).step hb⟩
theorem SD.step{ps:List PF}(h:SD F w A n c ps)(hb:Below w.heap.size w w'):SD F w' A n c ps:=⟨h.sr.step hb,h.sz,fun hn=>by
 obtain⟨b,off,e,hF⟩:=h.blk hn
 obtain⟨b',off',e',hl,_⟩:=h.sr.el hn
 rw[e] at e'
 cases e'
 exact⟨b,off,e,hF.keepG hl fun q hq hql=>⟨hq,hb.block q hql⟩⟩,h.ns,fun p hp=>(h.rv p hp).step hb⟩
theorem SL.mono{ps:List PV}(h:SL F w A n c ps)(hk:∀b,F b→G b):SL G w A n c ps:=⟨h.sr,h.sz,fun hn=>by obtain⟨b,off,e,hF⟩:=h.blk hn;exact⟨b,off,e,hk b hF.1,fun hG=>hF.2 fun h0=>hG (hk 0 h0)⟩,fun p hp=>(h.rv p hp).mono hk⟩
theorem SL.of_own{base:Nat}{t:TypeId}{v:Value}{ps:List PV}(h:w.ownsRow base t 5 v n (flat recV ps))(hl:ps.length=n)(hz:n*80≤reach)(hF:∀b,base≤b→F b)(hr:∀p∈ps,RV F w p.1 p.2):∃A c,v=.slice A n c∧SL F w A n c ps:=by
 obtain⟨A,c,rfl,hs⟩:=SR.of_own recV_length h hl
 refine⟨A,c,rfl,hs,hz,fun hn=>?_,hr⟩
 obtain⟨b,off,rfl,_⟩:=hs.el hn
 rcases h.2 with⟨h',_⟩|⟨g,cap,cur,hv,hg,hbl,_⟩
 ·cases h'
 ·cases hv
  exact⟨b,0,rfl,hF b hg,fun _ i=>Blk.frozen (t:=t) (cs:=cur) hbl i⟩
theorem SD.of_own{base:Nat}{t:TypeId}{v:Value}{ps:List PF}(h:w.ownsRow base t 6 v n (flat recF ps))(hl:ps.length=n)(hz:n*96≤reach)(hF:∀b,base≤b→F b)(hs:∀p∈ps,p.2.s.size≤reach)(hr:∀p∈ps,RV F w p.1 p.2.v):∃A c,v=.slice A n c∧SD F w A n c ps:=by
 obtain⟨A,c,rfl,hsr⟩:=SR.of_own recF_length h hl
 refine⟨A,c,rfl,hsr,hz,fun hn=>?_,hs,hr⟩
 obtain⟨b,off,rfl,_⟩:=hsr.el hn
 rcases h.2 with⟨h',_⟩|⟨g,cap,cur,hv,hg,hbl,_⟩
 ·cases h'
 ·cases hv
  exact⟨b,0,rfl,hF b hg,fun _ i=>Blk.frozen (t:=t) (cs:=cur) hbl i⟩
end
theorem flat_at'{α:Type}{rec:α→List Value}{s:Nat}(hs:∀a,(rec a).length=s)(hp:0<s)(xs:List α)(k:Nat)(hk:k<xs.length*s):∃a v,xs[k/s]?=some a∧(rec a)[k%s]?=some v∧(flat rec xs)[k]?=some v:=by
 have h1:k/s<xs.length:=Nat.div_lt_of_lt_mul (by rw[Nat.mul_comm];exact hk)
 have h2:k%s<s:=Nat.mod_lt _ hp
 refine ⟨xs[k / s], (rec xs[k / s])[k % s]'(by rw [hs]; exact h2), List.getElem?_eq_getElem h1, List.getElem?_eq_getElem (by rw [hs]; exact h2), ?_⟩
 have:=flat_get hs (List.getElem?_eq_getElem h1) (List.getElem?_eq_getElem (l:=rec xs[k/s]) (i:=k%s) (by rw[hs];exact h2))
 rw[show k/s*s+k%s=k by rw[Nat.mul_comm];exact Nat.div_add_mod k s] at this
 exact this
theorem gr_cell{w3 w4:World}{o:Obj}{row:Option Nat}(hg:(w3.alloc o).grownBy w4 row){p:Addr}{v:Value}(h:w3.cell? p=some v)(hne:row≠some p.block):w4.cell? p=some v:=by
 have hlt:=World.block_lt_of_cell? w3 p h
 rw[World.cell?_of_block (w:=w3.alloc o) (hg.block p.block (by simp;omega) (fun e=>hne e.symm)),World.cell?_alloc_lt w3 o p hlt]
 exact h
theorem gr_frozen{w3 w4:World}{o:Obj}{row:Option Nat}(hg:(w3.alloc o).grownBy w4 row){p:Addr}(hlt:p.block<w3.heap.size)(hne:row≠some p.block):w4.frozen? p=w3.frozen? p:=by
 rw[World.frozen?_of_block (w:=w3.alloc o) (hg.block p.block (by simp;omega) (fun e=>hne e.symm)),World.frozen?_of_block (w:=w3) (Below.heap_alloc w3 o p.block hlt)]
theorem SL.keepG{F G:Nat→Prop}{w w':World}{A:Option Addr}{n c:Nat}{ps:List PV}(h:SL F w A n c ps)(hk:∀b,F b→b<w.heap.size→G b∧w'.heap[b]?=w.heap[b]?):SL G w' A n c ps:=by
 refine⟨⟨h.sr.ln,h.sr.lc,fun hn=>?_⟩,h.sz,fun hn=>?_,fun p hp=>(h.rv p hp).keepG hk⟩
 ·obtain⟨b,off,h1,h2,h3⟩:=h.sr.el hn
  obtain⟨b',off',h1',hF⟩:=h.blk hn
  rw[h1] at h1'
  cases h1'
  have he:=(hk b hF.1 h2).2
  refine⟨b,off,h1,?_,fun i a hi j v hj=>(World.cell?_of_block (w:=w) (a:=⟨b,off+i*5+j,none⟩) he).trans (h3 i a hi j v hj)⟩
  rcases Nat.lt_or_ge b w'.heap.size with hlt|hge
  ·exact hlt
  ·rw[Array.getElem?_eq_none hge,Array.getElem?_eq_getElem h2] at he
   cases he
 ·obtain⟨b,off,h1,h2,h3⟩:=h.sr.el hn
  obtain⟨b',off',h1',hF⟩:=h.blk hn
  rw[h1] at h1'
  cases h1'
  exact⟨b,off,h1,hF.keepG h2 hk⟩
theorem own_keep{w w':World}{base:Nat}{e:TypeId}{size n:Nat}{v:Value}{xs:List Value}(h:w.ownsRow base e size v n xs)(hk:∀g,v.ownBlock=some g→w'.heap[g]?=w.heap[g]?):w'.ownsRow base e size v n xs:=by
 refine⟨h.1,?_⟩
 rcases h.2 with h2|⟨g,cap,cur,rfl,hg,hh,hr⟩
 ·exact .inl h2
 ·exact .inr ⟨g,cap,cur,rfl,hg,(hk g rfl).trans hh,hr⟩
structure Ch where
 lo:ByteArray
 hi:ByteArray
 sh:Int
 ver:Int
 ju:Bool
def recC(c:Ch):List Value:=[.string c.lo,.string c.hi,.int .i64 c.sh,.int .i64 c.ver,.bool c.ju]
def recT(s:ByteArray):List Value:=[.string s]
structure OC where
 A:Option Addr
 n:Nat
 c:Nat
 d:Bool
def recO(o:OC):List Value:=[.slice o.A o.n o.c,.bool o.d]
structure Od where
 p:List ByteArray
 d:Bool
structure ST(w:World)(A:Option Addr)(n c:Nat)(l:List ByteArray):Prop where
 sr:SR 1 recT w A n c l
 sz:n*16≤reach
 el:∀s∈l,s.size≤reach
theorem ST.step{w w':World}{A:Option Addr}{n c:Nat}{l:List ByteArray}(h:ST w A n c l)(hb:Below w.heap.size w w'):ST w' A n c l:=⟨h.sr.step hb,h.sz,h.el⟩
structure OR(w:World)(o:OC)(q:Od):Prop where
 d:o.d=q.d
 st:ST w o.A o.n o.c q.p
theorem OR.step{w w':World}{o:OC}{q:Od}(h:OR w o q)(hb:Below w.heap.size w w'):OR w' o q:=⟨h.d,h.st.step hb⟩
structure KO(w:World)(A:Option Addr)(n c:Nat)(os:List OC)(ks:List Od):Prop where
 sr:SR 2 recO w A n c os
 sz:n*32≤reach
 ln:os.length=ks.length
 el:∀(i:Nat) (o:OC) (q:Od),os[i]?=some o→ks[i]?=some q→OR w o q
theorem KO.step{w w':World}{A:Option Addr}{n c:Nat}{os:List OC}{ks:List Od}(h:KO w A n c os ks)(hb:Below w.heap.size w w'):KO w' A n c os ks:=⟨h.sr.step hb,h.sz,h.ln,fun i o q h1 h2=>(h.el i o q h1 h2).step hb⟩
def KS(w:World)(A:Option Addr)(n c:Nat)(ks:List Od):Prop:=∃os,KO w A n c os ks
theorem KS.step{w w':World}{A:Option Addr}{n c:Nat}{ks:List Od}(h:KS w A n c ks)(hb:Below w.heap.size w w'):KS w' A n c ks:=by obtain⟨os,h⟩:=h;exact⟨os,h.step hb⟩
theorem KS.nil{w:World}{A:Option Addr}{c:Nat}:KS w A 0 c []:=⟨[],SR.nil,by show 0*32≤reach;decide,rfl,fun i o q h=>by simp at h⟩
theorem KS.ln{w:World}{A:Option Addr}{n c:Nat}{ks:List Od}(h:KS w A n c ks):n=ks.length:=by obtain⟨os,h⟩:=h;rw[h.sr.ln,h.ln]
structure RA where
 KA:Option Addr
 kn:Nat
 kc:Nat
 CA:Option Addr
 cn:Nat
 cc:Nat
theorem SR.at5{w:World}{A:Option Addr}{n c:Nat}{l:List Ch}(h:SR 5 recC w A n c l){i:Nat}(hi:i<n):∃b off x,A=some ⟨b,off,none⟩∧b<w.heap.size∧l[i]?=some x∧
 w.cell? ⟨b,off+i*5,none⟩=some (.string x.lo)∧w.cell? ⟨b,off+i*5+1,none⟩=some (.string x.hi)∧w.cell? ⟨b,off+i*5+2,none⟩=some (.int .i64 x.sh)∧w.cell? ⟨b,off+i*5+3,none⟩=some (.int .i64 x.ver)∧w.cell? ⟨b,off+i*5+4,none⟩=some (.bool x.ju):=by
 obtain⟨b,off,e,hb,hc⟩:=h.el (by omega)
 have hl:i<l.length:=by have:=h.ln;omega
 have h1:=List.getElem?_eq_getElem hl
 exact⟨b,off,l[i],e,hb,h1,hc i _ h1 0 _ rfl,hc i _ h1 1 _ rfl,hc i _ h1 2 _ rfl,hc i _ h1 3 _ rfl,hc i _ h1 4 _ rfl⟩
theorem SR.at2{w:World}{A:Option Addr}{n c:Nat}{l:List OC}(h:SR 2 recO w A n c l){i:Nat}(hi:i<n):∃b off x,A=some ⟨b,off,none⟩∧b<w.heap.size∧l[i]?=some x∧
 w.cell? ⟨b,off+i*2,none⟩=some (.slice x.A x.n x.c)∧w.cell? ⟨b,off+i*2+1,none⟩=some (.bool x.d):=by
 obtain⟨b,off,e,hb,hc⟩:=h.el (by omega)
 have hl:i<l.length:=by have:=h.ln;omega
 have h1:=List.getElem?_eq_getElem hl
 exact⟨b,off,l[i],e,hb,h1,hc i _ h1 0 _ rfl,hc i _ h1 1 _ rfl⟩
theorem SR.at1{w:World}{A:Option Addr}{n c:Nat}{l:List ByteArray}(h:SR 1 recT w A n c l){i:Nat}(hi:i<n):∃b off x,A=some ⟨b,off,none⟩∧b<w.heap.size∧l[i]?=some x∧
 w.cell? ⟨b,off+i,none⟩=some (.string x):=by
 obtain⟨b,off,e,hb,hc⟩:=h.el (by omega)
 have hl:i<l.length:=by have:=h.ln;omega
 have h1:=List.getElem?_eq_getElem hl
 exact⟨b,off,l[i],e,hb,h1,by simpa using hc i _ h1 0 _ rfl⟩
section
variable {α:Type}
def idxFrom(p:α→Bool):List α→Nat→Int
 | [],_=>-1
 | c::r,i=>if p c then(i:Int) else idxFrom p r (i+1)
def idxI(p:α→Bool)(l:List α):Int:=idxFrom p l 0
theorem idxFrom_range(p:α→Bool):∀(l:List α) (k:Nat),(idxFrom p l k=-1∧∀c∈l,p c=false)∨∃(i:Nat) (c:α),idxFrom p l k=(k+i:Nat)∧l[i]?=some c∧p c=true∧∀j,j<i→∀d,l[j]?=some d→p d=false:=by
 intro l
 induction l with
 | nil=>intro k;exact .inl ⟨rfl,fun _ h=>by simp at h⟩
 | cons c r ih=>
  intro k
  cases hc:p c
  ·rw[idxFrom,hc,if_neg (by simp)]
   rcases ih (k+1) with⟨h1,h2⟩|⟨i,d,h1,h2,h3,h4⟩
   ·refine .inl ⟨h1,fun x hx=>?_⟩
    rcases List.mem_cons.1 hx with rfl|hx
    ·exact hc
    ·exact h2 x hx
   ·refine .inr ⟨i+1,d,by rw[h1];omega,by simpa using h2,h3,fun j hj e he=>?_⟩
    cases j with
    | zero=>simp at he;subst he;exact hc
    | succ j=>exact h4 j (by omega) e (by simpa using he)
  ·rw[idxFrom,hc,if_pos rfl]
   exact .inr ⟨0,c,rfl,rfl,hc,fun j hj=>absurd hj (by omega)⟩
theorem idxI_range(p:α→Bool)(l:List α):(idxI p l=-1∧∀c∈l,p c=false)∨∃(i:Nat) (c:α),idxI p l=(i:Nat)∧l[i]?=some c∧p c=true∧∀j,j<i→∀d,l[j]?=some d→p d=false:=by
 rcases idxFrom_range p l 0 with h|⟨i,c,h1,h⟩
 ·exact .inl h
 ·exact .inr ⟨i,c,by rw[idxI,h1,Nat.zero_add],h⟩
end
def pathB(p:List ByteArray):Bool:=decide (1≤p.length)&&decide (p.length≤16)&&p.all nameB
def sameP:List ByteArray→List ByteArray→Bool
 | [],[]=>true
 | a::r,b::s=>(a.toList==b.toList)&&sameP r s
 | _,_=>false
def ordL:List Od→List Od→Int
 | _,[]=>0
 | done,o::r=>if pathB o.p=false then 10 else if done.any (fun e=>sameP e.p o.p) then 12 else ordL (done++[o]) r
def ordE(ks:List Od):Int:=if 8<ks.length then 2 else ordL [] ks
def keyE(ks:List Od)(ha:Bool):Int:=if ordE ks≠0 then ordE ks else if ks.length=0∨(ha=true∧1<ks.length) then 11 else if ks.any (·.d) then 11 else 0
theorem notName_any(s:ByteArray)(w:World):Calls Tryz.prog 141 #[.string s] w fun e w'=>e=.returned (.bool (!nameB s))∧w'=w:=by
 by_cases h1:s.size<1
 ·have HV:Hid (nameB s=false):=by unfold Hid nameB;rw[decide_eq_false (by omega)];rfl
  go_enter Tryz.func141,Tryz.ntmps141
  go_wp2_with fail
  go_ret
  exact⟨by rw[HV.out];rfl,rfl⟩
 by_cases h2:32<s.size
 ·have HV:Hid (nameB s=false):=by unfold Hid nameB;rw[decide_eq_true (by omega),decide_eq_false (by omega)];rfl
  go_enter Tryz.func141,Tryz.ntmps141
  go_wp2_with fail
  go_ret
  exact⟨by rw[HV.out];rfl,rfl⟩
 cases h3:((s[0].toNat:Int)==36)
 rotate_left
 ·have HV:Hid (nameB s=false):=by
   have:s[0].toNat=36:=by simp at h3;omega
   unfold Hid nameB
   rw[decide_eq_true (by omega),decide_eq_true (by omega),head_of s (by omega),this]
   rfl
  go_enter Tryz.func141,Tryz.ntmps141
  go_wp2_with fail
  go_ret
  exact⟨by rw[HV.out];rfl,rfl⟩
 have HA:Hid (nameB s=s.data.toList.all okB):=by
  have:¬s[0].toNat=36:=by simp at h3;omega
  unfold Hid nameB
  rw[decide_eq_true (by omega),decide_eq_true (by omega),head_of s (by omega)]
  simp[this]
 go_enter Tryz.func141,Tryz.ntmps141
 go_wp2_with fail
 go_loopw [19] (fun v wr=>∃i:Nat,i≤s.size∧v=.int .i64 i∧(s.data.toList.take i).all okB=true∧wr=w) (fun v _=>s.size-(intOf v).toNat)
 case atStart=>exact⟨0,Nat.zero_le _,rfl,all_zero,rfl⟩
 case round=>
  obtain⟨i,hi,rfl,ha,rfl⟩:=hrel
  have HL:=qD ha
  clear ha
  by_cases hlt:i<s.size
  ·have hx:=s[i].toNat_lt
   by_cases hb:(s[i].toNat:Int)<33
   ·have HV:Hid (nameB s=false):=by rw[Hid,HA.out];exact all_not hlt (by unfold okB;rw[decide_eq_false (by omega)];rfl)
    go_wp2_with fail
    go_ret
    exact⟨by rw[HV.out];rfl,rfl⟩
   by_cases hc:126<(s[i].toNat:Int)
   ·have HV:Hid (nameB s=false):=by rw[Hid,HA.out];exact all_not hlt (by unfold okB;rw[decide_eq_true (by omega),decide_eq_false (by omega)];rfl)
    go_wp2_with fail
    go_ret
    exact⟨by rw[HV.out];rfl,rfl⟩
   cases hd:((s[i].toNat:Int)==46)
   rotate_left
   ·have HV:Hid (nameB s=false):=by
     have:s[i].toNat=46:=by simp at hd;omega
     rw[Hid,HA.out]
     exact all_not hlt (by unfold okB;rw[this];rfl)
    go_wp2_with fail
    go_ret
    exact⟨by rw[HV.out];rfl,rfl⟩
   have HN:Hid ((s.data.toList.take (i+1)).all okB=true):=by
    have:¬s[i].toNat=46:=by simp at hd;omega
    exact all_next hlt HL.out (by unfold okB;rw[decide_eq_true (by omega),decide_eq_true (by omega)];simp[this])
   go_wp2_with fail
   go_roundw
   case rel=>exact⟨i+1,by omega,by go_num,HN.out,trivial⟩
   case measure=>simp[intOf];omega
  ·have HV:Hid (nameB s=true):=by rw[Hid,HA.out];exact all_end (by omega) HL.out
   go_wp2_with fail
   go_ret
   exact⟨by rw[HV.out];rfl,rfl⟩
theorem idxFrom_at{α:Type}{p:α→Bool}{l:List α}{i:Nat}{x:α}(h:l[i]?=some x):idxFrom p (l.drop i) i=if p x then(i:Int) else idxFrom p (l.drop (i+1)) (i+1):=by rw[drop_of h,idxFrom]
theorem idxFrom_end{α:Type}{p:α→Bool}{l:List α}{i:Nat}(h:l.length≤i):idxFrom p (l.drop i) i=-1:=by rw[List.drop_of_length_le h,idxFrom]
theorem indexN_any(l:List ByteArray)(A:Option Addr)(n c:Nat)(w:World)(h:ST w A n c l):
 Calls Tryz.prog 176 #[.slice A n c,.func (.func 141) #[] #[]] w fun e w'=>e=.returned (.int .i64 (idxI (fun s=>!nameB s) l))∧w'=w:=by
 have hz:n≤140737488355328:=by have:=h.sz;unfold reach at this;omega
 have H:=qD h
 clear h
 go_enter Tryz.func176,Tryz.ntmps176
 go_wp2_with fail
 go_loopw [8] (fun v wr=>∃i:Nat,i≤n∧v=.int .i64 i∧idxI (fun s=>!nameB s) l=idxFrom (fun s=>!nameB s) (l.drop i) i∧wr=w) (fun v _=>n-(intOf v).toNat)
 case atStart=>exact⟨0,Nat.zero_le _,rfl,rfl,rfl⟩
 case round=>
  obtain⟨i,hi,rfl,ha,rfl⟩:=hrel
  have HA:=qD ha
  clear ha
  by_cases hlt:i<n
  ·obtain⟨b,off,x,hA,hb,hx,e0⟩:=H.out.sr.at1 hlt
   subst hA
   have HX:=qD (idxFrom_at (p:=fun s=>!nameB s) hx)
   clear hx
   go_wp2_with fail
   refine(notName_any x _).mono ?_
   rintro e w1 ⟨rfl,rfl⟩
   cases hq:nameB x
   ·have HF:Hid (idxI (fun s=>!nameB s) l=(i:Int)):=by rw[Hid,HA.out,HX.out,hq];rfl
    go_wp2_with fail
    go_ret
    exact⟨by rw[HF.out];rfl,rfl⟩
   ·have HF:Hid (idxI (fun s=>!nameB s) l=idxFrom (fun s=>!nameB s) (l.drop (i+1)) (i+1)):=by rw[Hid,HA.out,HX.out,hq];rfl
    go_wp2_with fail
    go_roundw
    case rel=>exact⟨i+1,by omega,by go_num,HF.out,trivial⟩
    case measure=>simp[intOf];omega
  ·have HF:Hid (idxI (fun s=>!nameB s) l=-1):=by rw[Hid,HA.out];exact idxFrom_end (by have:=H.out.sr.ln;omega)
   go_wp2_with fail
   go_ret
   exact⟨by rw[HF.out];rfl,rfl⟩
theorem idx_all(p:ByteArray→Bool)(l:List ByteArray):decide (0≤idxI (fun s=>!p s) l)=!l.all p:=by
 rcases idxI_range (fun s=>!p s) l with⟨h1,h2⟩|⟨i,c,h1,h2,h3,_⟩
 ·rw[h1]
  have:l.all p=true:=List.all_eq_true.2 fun x hx=>by simpa using h2 x hx
  rw[this]
  rfl
 ·rw[h1]
  have:l.all p=false:=List.all_eq_false.2 ⟨c,List.mem_of_getElem? h2,by simpa using h3⟩
  rw[this,decide_eq_true (by omega)]
  rfl
theorem containsN_any(l:List ByteArray)(A:Option Addr)(n c:Nat)(w:World)(h:ST w A n c l):
 Calls Tryz.prog 140 #[.slice A n c,.func (.func 141) #[] #[]] w fun e w'=>e=.returned (.bool (!l.all nameB))∧w'=w:=by
 have H:=qD h
 clear h
 have HV:=qD (idx_all nameB l)
 go_enter Tryz.func140,Tryz.ntmps140
 go_wp2_with fail
 refine(indexN_any l _ _ _ _ H.out).mono ?_
 rintro e w1 ⟨rfl,rfl⟩
 go_wp2_with fail
 go_ret
 exact⟨by rw[←HV.out];rfl,rfl⟩
theorem path_any(l:List ByteArray)(A:Option Addr)(n c:Nat)(w:World)(h:ST w A n c l):
 Calls Tryz.prog 108 #[.slice A n c] w fun e w'=>e=.returned (.bool (pathB l))∧w'=w:=by
 have hz:n≤140737488355328:=by have:=h.sz;unfold reach at this;omega
 have H:=qD h
 have hn:=qD h.sr.ln
 clear h
 by_cases h1:1≤n
 ·by_cases h2:n≤16
  ·have HV:Hid (pathB l=l.all nameB):=by unfold Hid pathB;rw[←hn.out,decide_eq_true h1,decide_eq_true h2];rfl
   go_enter Tryz.func108,Tryz.ntmps108
   go_wp2_with fail
   refine(containsN_any l _ _ _ _ H.out).mono ?_
   rintro e w1 ⟨rfl,rfl⟩
   go_wp2_with fail
   go_ret
   exact⟨by rw[HV.out];simp,rfl⟩
  ·have HV:Hid (pathB l=false):=by unfold Hid pathB;rw[←hn.out,decide_eq_true h1,decide_eq_false h2];rfl
   go_enter Tryz.func108,Tryz.ntmps108
   go_wp2_with fail
   go_ret
   exact⟨by rw[HV.out];rfl,rfl⟩
 ·have HV:Hid (pathB l=false):=by unfold Hid pathB;rw[←hn.out,decide_eq_false h1];rfl
  go_enter Tryz.func108,Tryz.ntmps108
  go_wp2_with fail
  go_ret
  exact⟨by rw[HV.out];rfl,rfl⟩
structure Slc(α:Type) where
 A:Option Addr
 n:Nat
 c:Nat
 xs:List α
abbrev Slc.v{α:Type}(s:Slc α):Value:=.slice s.A s.n s.c
def Slc.nil{α:Type}:Slc α:=⟨none,0,0,[]⟩
inductive ExT where
 | mk (op:Int) (path:Slc ByteArray) (name:ByteArray) (names:Slc ByteArray) (arg:PV) (n:Int) (kA:Option Addr) (kn kc:Nat) (kids:List ExT)
def ExT.op:ExT→Int | .mk op _ _ _ _ _ _ _ _ _=>op
def ExT.path:ExT→Slc ByteArray | .mk _ x _ _ _ _ _ _ _ _=>x
def ExT.name:ExT→ByteArray | .mk _ _ x _ _ _ _ _ _ _=>x
def ExT.names:ExT→Slc ByteArray | .mk _ _ _ x _ _ _ _ _ _=>x
def ExT.arg:ExT→PV | .mk _ _ _ _ x _ _ _ _ _=>x
def ExT.n:ExT→Int | .mk _ _ _ _ _ x _ _ _ _=>x
def ExT.kA:ExT→Option Addr | .mk _ _ _ _ _ _ x _ _ _=>x
def ExT.kn:ExT→Nat | .mk _ _ _ _ _ _ _ x _ _=>x
def ExT.kc:ExT→Nat | .mk _ _ _ _ _ _ _ _ x _=>x
def ExT.kids:ExT→List ExT | .mk _ _ _ _ _ _ _ _ _ x=>x
def ExT.zero:ExT:=.mk 0 .nil ByteArray.empty .nil (VC.zero,Val.zero) 0 none 0 0 []
inductive PrT where
 | mk (op:Int) (path:Slc ByteArray) (arg:PV) (args:Slc PV) (n m sk:Int) (pts:Slc (Int×Int)) (sr:Int) (ex:ExT) (kA:Option Addr) (kn kc:Nat) (kids:List PrT)
def PrT.op:PrT→Int | .mk op _ _ _ _ _ _ _ _ _ _ _ _ _=>op
def PrT.path:PrT→Slc ByteArray | .mk _ x _ _ _ _ _ _ _ _ _ _ _ _=>x
def PrT.arg:PrT→PV | .mk _ _ x _ _ _ _ _ _ _ _ _ _ _=>x
def PrT.args:PrT→Slc PV | .mk _ _ _ x _ _ _ _ _ _ _ _ _ _=>x
def PrT.n:PrT→Int | .mk _ _ _ _ x _ _ _ _ _ _ _ _ _=>x
def PrT.m:PrT→Int | .mk _ _ _ _ _ x _ _ _ _ _ _ _ _=>x
def PrT.sk:PrT→Int | .mk _ _ _ _ _ _ x _ _ _ _ _ _ _=>x
def PrT.pts:PrT→Slc (Int×Int) | .mk _ _ _ _ _ _ _ x _ _ _ _ _ _=>x
def PrT.sr:PrT→Int | .mk _ _ _ _ _ _ _ _ x _ _ _ _ _=>x
def PrT.ex:PrT→ExT | .mk _ _ _ _ _ _ _ _ _ x _ _ _ _=>x
def PrT.kA:PrT→Option Addr | .mk _ _ _ _ _ _ _ _ _ _ x _ _ _=>x
def PrT.kn:PrT→Nat | .mk _ _ _ _ _ _ _ _ _ _ _ x _ _=>x
def PrT.kc:PrT→Nat | .mk _ _ _ _ _ _ _ _ _ _ _ _ x _=>x
def PrT.kids:PrT→List PrT | .mk _ _ _ _ _ _ _ _ _ _ _ _ _ x=>x
theorem ExT.ind{p:ExT→Prop}(h:∀x:ExT,(∀k∈x.kids,p k)→p x):∀x,p x:=by
 intro x
 refine ExT.rec (motive_1:=p) (motive_2:=fun l=>∀k∈l,p k) ?_ ?_ ?_ x
 ·intro op path name names arg n kA kn kc kids hk
  exact h _ hk
 ·intro k hk;simp at hk
 ·intro y r hy hr k hk
  rcases List.mem_cons.1 hk with rfl|hk
  ·exact hy
  ·exact hr k hk
theorem PrT.ind{p:PrT→Prop}(h:∀x:PrT,(∀k∈x.kids,p k)→p x):∀x,p x:=by
 intro x
 refine PrT.rec (motive_1:=p) (motive_2:=fun l=>∀k∈l,p k) ?_ ?_ ?_ x
 ·intro op path arg args n m sk pts sr ex kA kn kc kids hk
  exact h _ hk
 ·intro k hk;simp at hk
 ·intro y r hy hr k hk
  rcases List.mem_cons.1 hk with rfl|hk
  ·exact hy
  ·exact hr k hk
def recEx(x:ExT):List Value:=
 [.int .i64 x.op,x.path.v,.string x.name,x.names.v,.int .i64 x.arg.1.k,.int .i64 x.arg.1.n,.string x.arg.1.t,.slice x.arg.1.LA x.arg.1.ln x.arg.1.lc,.slice x.arg.1.DA x.arg.1.dn x.arg.1.dc,.int .i64 x.n,.slice x.kA x.kn x.kc]
abbrev arrEx(x:ExT):Array Value:=
 #[.int .i64 x.op,x.path.v,.string x.name,x.names.v,.int .i64 x.arg.1.k,.int .i64 x.arg.1.n,.string x.arg.1.t,.slice x.arg.1.LA x.arg.1.ln x.arg.1.lc,.slice x.arg.1.DA x.arg.1.dn x.arg.1.dc,.int .i64 x.n,.slice x.kA x.kn x.kc]
abbrev aggEx(x:ExT):Value:=.agg (arrEx x)
def recPr(p:PrT):List Value:=
 [.int .i64 p.op,p.path.v,.int .i64 p.arg.1.k,.int .i64 p.arg.1.n,.string p.arg.1.t,.slice p.arg.1.LA p.arg.1.ln p.arg.1.lc,.slice p.arg.1.DA p.arg.1.dn p.arg.1.dc,p.args.v,.int .i64 p.n,.int .i64 p.m,.int .i64 p.sk,p.pts.v,.int .i64 p.sr,
  .int .i64 p.ex.op,p.ex.path.v,.string p.ex.name,p.ex.names.v,.int .i64 p.ex.arg.1.k,.int .i64 p.ex.arg.1.n,.string p.ex.arg.1.t,.slice p.ex.arg.1.LA p.ex.arg.1.ln p.ex.arg.1.lc,.slice p.ex.arg.1.DA p.ex.arg.1.dn p.ex.arg.1.dc,.int .i64 p.ex.n,.slice p.ex.kA p.ex.kn p.ex.kc,
  .slice p.kA p.kn p.kc]
abbrev arrPr(p:PrT):Array Value:=
 #[.int .i64 p.op,p.path.v,.int .i64 p.arg.1.k,.int .i64 p.arg.1.n,.string p.arg.1.t,.slice p.arg.1.LA p.arg.1.ln p.arg.1.lc,.slice p.arg.1.DA p.arg.1.dn p.arg.1.dc,p.args.v,.int .i64 p.n,.int .i64 p.m,.int .i64 p.sk,p.pts.v,.int .i64 p.sr,
  .int .i64 p.ex.op,p.ex.path.v,.string p.ex.name,p.ex.names.v,.int .i64 p.ex.arg.1.k,.int .i64 p.ex.arg.1.n,.string p.ex.arg.1.t,.slice p.ex.arg.1.LA p.ex.arg.1.ln p.ex.arg.1.lc,.slice p.ex.arg.1.DA p.ex.arg.1.dn p.ex.arg.1.dc,.int .i64 p.ex.n,.slice p.ex.kA p.ex.kn p.ex.kc,
  .slice p.kA p.kn p.kc]
abbrev aggPr(p:PrT):Value:=.agg (arrPr p)
def recPt(p:Int×Int):List Value:=[.int .i64 p.1,.int .i64 p.2]
theorem recEx_length(x:ExT):(recEx x).length=11:=rfl
theorem recPr_length(p:PrT):(recPr p).length=25:=rfl
theorem recPt_length(p:Int×Int):(recPt p).length=2:=rfl
def WX(w:World):ExT→Prop
 | .mk _ path name names arg _ kA kn kc kids=>ST w path.A path.n path.c path.xs∧name.size≤reach∧ST w names.A names.n names.c names.xs∧RW w arg.1 arg.2∧SR 11 recEx w kA kn kc kids∧kn*184≤reach∧WXs w kids
where WXs (w:World):List ExT→Prop
 | []=>True
 | x::r=>WX w x∧WXs w r
def WP(w:World):PrT→Prop
 | .mk _ path arg args _ _ _ pts _ ex kA kn kc kids=>ST w path.A path.n path.c path.xs∧RW w arg.1 arg.2∧SL (fun _=>True) w args.A args.n args.c args.xs∧args.n≤1048576∧SR 2 recPt w pts.A pts.n pts.c pts.xs∧pts.n*16≤reach∧WX w ex∧SR 25 recPr w kA kn kc kids∧kn*400≤reach∧WPs w kids
where WPs (w:World):List PrT→Prop
 | []=>True
 | x::r=>WP w x∧WPs w r
theorem wxs_iff{w:World}{l:List ExT}:WX.WXs w l↔∀k∈l,WX w k:=by
 induction l with
 | nil=>simp[WX.WXs]
 | cons y r ih=>simp[WX.WXs,ih]
theorem wps_iff{w:World}{l:List PrT}:WP.WPs w l↔∀k∈l,WP w k:=by
 induction l with
 | nil=>simp[WP.WPs]
 | cons y r ih=>simp[WP.WPs,ih]
structure WXo(w:World)(x:ExT):Prop where
 path:ST w x.path.A x.path.n x.path.c x.path.xs
 nsz:x.name.size≤reach
 names:ST w x.names.A x.names.n x.names.c x.names.xs
 arg:RW w x.arg.1 x.arg.2
 sr:SR 11 recEx w x.kA x.kn x.kc x.kids
 ksz:x.kn*184≤reach
 kids:∀k∈x.kids,WX w k
theorem WX.open{w:World}{x:ExT}(h:WX w x):WXo w x:=by
 cases x
 obtain⟨h1,h2,h3,h4,h5,h6,h7⟩:=h
 exact⟨h1,h2,h3,h4,h5,h6,wxs_iff.1 h7⟩
theorem WXo.shut{w:World}{x:ExT}(h:WXo w x):WX w x:=by
 cases x
 exact⟨h.path,h.nsz,h.names,h.arg,h.sr,h.ksz,wxs_iff.2 h.kids⟩
structure WPo(w:World)(p:PrT):Prop where
 path:ST w p.path.A p.path.n p.path.c p.path.xs
 arg:RW w p.arg.1 p.arg.2
 args:SL (fun _=>True) w p.args.A p.args.n p.args.c p.args.xs
 few:p.args.n≤1048576
 pts:SR 2 recPt w p.pts.A p.pts.n p.pts.c p.pts.xs
 psz:p.pts.n*16≤reach
 ex:WX w p.ex
 sr:SR 25 recPr w p.kA p.kn p.kc p.kids
 ksz:p.kn*400≤reach
 kids:∀k∈p.kids,WP w k
theorem WP.open{w:World}{p:PrT}(h:WP w p):WPo w p:=by
 cases p
 obtain⟨h1,h2,h3,h4,h5,h6,h7,h8,h9,h10⟩:=h
 exact⟨h1,h2,h3,h4,h5,h6,h7,h8,h9,wps_iff.1 h10⟩
theorem WPo.shut{w:World}{p:PrT}(h:WPo w p):WP w p:=by
 cases p
 exact⟨h.path,h.arg,h.args,h.few,h.pts,h.psz,h.ex,h.sr,h.ksz,wps_iff.2 h.kids⟩
theorem WX.step{w w':World}(hb:Below w.heap.size w w'):∀{x:ExT},WX w x→WX w' x:=by
 intro x
 induction x using ExT.ind with
 | h x ih=>
  intro h
  have o:=h.open
  exact WXo.shut ⟨o.path.step hb,o.nsz,o.names.step hb,o.arg.step hb,o.sr.step hb,o.ksz,fun k hk=>ih k hk (o.kids k hk)⟩
theorem WP.step{w w':World}(hb:Below w.heap.size w w'):∀{p:PrT},WP w p→WP w' p:=by
 intro p
 induction p using PrT.ind with
 | h p ih=>
  intro h
  have o:=h.open
  exact WPo.shut ⟨o.path.step hb,o.arg.step hb,o.args.step hb,o.few,o.pts.step hb,o.psz,o.ex.step hb,o.sr.step hb,o.ksz,fun k hk=>ih k hk (o.kids k hk)⟩
def PrT.nodes:PrT→Nat
 | .mk _ _ _ _ _ _ _ _ _ _ _ _ _ kids=>1+nodesL kids
where nodesL:List PrT→Nat
 | []=>0
 | x::r=>x.nodes+nodesL r
theorem PrT.nodes_eq(p:PrT):p.nodes=1+PrT.nodes.nodesL p.kids:=by cases p;rfl
abbrev Cut:=Val×Bool
def cmB(x y:Bool):Int:=if x=y then 0 else if y then -1 else 1
def cmC(a b:Cut):Int:=lex (cmpV a.1 b.1) (cmB a.2 b.2)
def VC1(a:Cut):Prop:=validV a.1=true
theorem cmB_anti(x y:Bool):cmB y x=-cmB x y:=by cases x<;>cases y<;>decide
theorem cmB_tr(x y z:Bool):TR (cmB x y) (cmB y z) (cmB x z):=by cases x<;>cases y<;>cases z<;>(unfold TR;decide)
theorem cmB_zero{x y:Bool}:cmB x y=0↔x=y:=by cases x<;>cases y<;>decide
theorem validV_parts{x:Val}(h:validV x=true):x.size≤1024∧x.height≤16∧SoundV nameB x:=by
 unfold validV at h
 simp only[Bool.and_eq_true,decide_eq_true_eq] at h
 exact⟨h.1.1,h.1.2,soundB_iff.1 h.2⟩
theorem validV_of{x:Val}(h1:x.size≤1024)(h2:x.height≤16)(h3:SoundV nameB x):validV x=true:=by
 unfold validV
 rw[decide_eq_true h1,decide_eq_true h2,soundB_true h3]
 rfl
theorem lin_cut:Lin cmC VC1:=by
 refine⟨fun x y=>lex_anti (cmpV_anti _ _) (cmB_anti _ _),fun x y z=>TR.lx (cmpV_tr _ _ _) (cmB_tr _ _ _),fun x y hx hy h=>?_⟩
 have h':=lex_zero.1 h
 exact Prod.ext (cmpV_same (nm:=nameB) x.1 y.1 (validV_parts hx).2.2 (validV_parts hy).2.2 h'.1) (cmB_zero.1 h'.2)
def vMin:Val:=.mk 1 0 ByteArray.empty [] []
def vMax:Val:=.mk 11 0 ByteArray.empty [] []
theorem valid_leaf{k:Int}(hk:k=1∨k=11):validV (.mk k 0 ByteArray.empty [] [])=true:=by
 refine validV_of ?_ ?_ ?_
 ·rw[size_parts];unfold Val.parts;rw[if_neg (by show ¬k=6;omega),if_neg (by show ¬k=5;omega)];simp[sizeL]
 ·rw[height_parts];unfold Val.parts;rw[if_neg (by show ¬k=6;omega),if_neg (by show ¬k=5;omega)];simp[heightL]
 ·refine(SoundV_iff _ _).2 ⟨?_,by simp[Val.l],by simp[Val.d],by simp[Val.d,NamesP]⟩
  rcases hk with rfl|rfl<;>simp[HeadP,Val.k,Val.n,Val.t,Val.l,Val.d]
theorem kind_range{x:Val}(h:validV x=true):1≤x.k∧x.k≤11:=by
 have:=((SoundV_iff _ _).1 (validV_parts h).2.2).1
 unfold HeadP at this
 omega
theorem min_le{a:Cut}(h:VC1 a):cmC (vMin,false) a≤0:=by
 have hk:=kind_range h
 unfold cmC lex
 by_cases h1:a.1.k=1
 ·have:cmpV vMin a.1=0:=cmpV_other (by rw[h1];rfl) (by decide) (by decide) (by decide) (by decide) (by decide) (by decide) (by decide) (by decide)
  rw[this]
  simp
  unfold cmB
  split
  ·omega
  ·rename_i hne
   cases hb:a.2
   ·exact absurd hb.symm hne
   ·simp
 ·have:cmpV vMin a.1=cmpI 1 a.1.k:=cmpV_kind (by show(1:Int)≠a.1.k;omega)
  have h2:=cmpI_ways 1 a.1.k
  rw[this]
  split<;>omega
structure Iv where
 lo:Val
 hi:Val
 li:Bool
 hin:Bool
def Iv.sp(x:Iv):Cut×Cut:=((x.lo,!x.li),(x.hi,x.hin))
noncomputable def Iv.ne(x:Iv):Bool:=validV x.lo&&validV x.hi&&decide (cmC x.sp.1 x.sp.2<0)
noncomputable def spansL(l:List Iv):List (Cut×Cut):=(l.filter Iv.ne).map Iv.sp
def ivOf(s:Cut×Cut):Iv:=⟨s.1.1,s.2.1,!s.1.2,s.2.2⟩
theorem sp_ivOf(s:Cut×Cut):(ivOf s).sp=s:=by
 obtain⟨⟨a,b⟩,c,d⟩:=s
 simp[ivOf,Iv.sp]
theorem ivOf_sp(x:Iv):ivOf x.sp=x:=by
 obtain⟨a,b,c,d⟩:=x
 simp[ivOf,Iv.sp]
theorem ne_sp{x:Iv}(h:x.ne=true):cmC x.sp.1 x.sp.2<0∧VC1 x.sp.1∧VC1 x.sp.2:=by
 unfold Iv.ne at h
 simp only[Bool.and_eq_true,decide_eq_true_eq] at h
 exact⟨h.2,h.1.1,h.1.2⟩
theorem ne_of_sp{s:Cut×Cut}(h:cmC s.1 s.2<0∧VC1 s.1∧VC1 s.2):(ivOf s).ne=true:=by
 unfold Iv.ne
 rw[sp_ivOf]
 have h1:validV (ivOf s).lo=true:=h.2.1
 have h2:validV (ivOf s).hi=true:=h.2.2
 rw[h1,h2,decide_eq_true h.1]
 rfl
theorem spansL_ne{l:List Iv}:∀s∈spansL l,cmC s.1 s.2<0∧VC1 s.1∧VC1 s.2:=by
 intro s hs
 obtain⟨x,hx,rfl⟩:=List.mem_map.1 hs
 exact ne_sp (List.mem_filter.1 hx).2
theorem spansL_app(l m:List Iv):spansL (l++m)=spansL l++spansL m:=by simp[spansL]
theorem spansL_snoc(l:List Iv)(x:Iv):spansL (l++[x])=if x.ne then spansL l++[x.sp] else spansL l:=by
 rw[spansL_app]
 cases h:x.ne<;>simp[spansL,h]
theorem spansL_of{n:List (Cut×Cut)}(h:∀s∈n,cmC s.1 s.2<0∧VC1 s.1∧VC1 s.2):spansL (n.map ivOf)=n:=by
 induction n with
 | nil=>rfl
 | cons s r ih=>
  have e:spansL ((s::r).map ivOf)=(ivOf s).sp::spansL (r.map ivOf):=by
   simp[spansL,ne_of_sp (h s (by simp))]
  rw[e,sp_ivOf,ih fun t ht=>h t (by simp[ht])]
def IsNF(S:Cut→Prop)(m:List (Cut×Cut)):Prop:=NF cmC VC1 m∧∀a,inS cmC a m↔S a
theorem IsNF.unique{S T:Cut→Prop}{m n:List (Cut×Cut)}(h:IsNF S m)(k:IsNF T n)(e:∀a,VC1 a→(S a↔T a)):m=n:=
 nf_unique lin_cut h.1 k.1 fun a ha=>by rw[h.2,k.2];exact e a ha
end Go.Proofs.YtfkapannahcjiaaGreatDoor
