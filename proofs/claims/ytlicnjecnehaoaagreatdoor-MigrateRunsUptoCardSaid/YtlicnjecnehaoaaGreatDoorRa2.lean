/- Parts of the proof, joined: ValOrder, ValMem, ValList. -/
import Derived.Test.YtlicnjecnehaoaaGreatDoorRa1
import Derived.Deep.RegionHeld3
set_option maxRecDepth 100000
set_option maxHeartbeats 16000000
set_option linter.unusedSimpArgs false
namespace Go.Proofs.YtlicnjecnehaoaaGreatDoor
def lex(c d:Int):Int:=if c≠0 then c else d
theorem lex_ways(c d:Int):c≠0∧lex c d=c∨c=0∧lex c d=d:=by
 unfold lex
 by_cases h:c=0
 ·exact .inr ⟨h,by simp[h]⟩
 ·exact .inl ⟨h,by simp[h]⟩
theorem TR.lx{a b c a' b' c':Int}(h:TR a b c)(h':TR a' b' c'):TR (lex a a') (lex b b') (lex c c'):=by
 intro h1 h2
 rcases lex_ways a a' with ha|ha<;>rcases lex_ways b b' with hb|hb<;>rcases lex_ways c c' with hc|hc
 all_goals
  have H:=h (by omega) (by omega)
  by_cases hab:a=0∧b=0
  ·have H':=h' (by omega) (by omega)
   omega
  ·omega
theorem cmpI_rng(a b:Int):-1≤cmpI a b∧cmpI a b≤1:=by unfold cmpI Lib.compareInt;repeat' split<;>omega
theorem cmpI_anti(a b:Int):cmpI b a=-cmpI a b:=by unfold cmpI Lib.compareInt;repeat' split<;>omega
theorem cmpI_ways(a b:Int):a<b∧cmpI a b=-1∨a=b∧cmpI a b=0∨b<a∧cmpI a b=1:=by unfold cmpI Lib.compareInt;repeat' split<;>omega
theorem cmpI_tr(a b c:Int):TR (cmpI a b) (cmpI b c) (cmpI a c):=by
 unfold TR
 intro h1 h2
 rcases cmpI_ways a b with h|h|h<;>rcases cmpI_ways b c with h' | h' | h'<;>rcases cmpI_ways a c with h3|h3|h3<;>omega
theorem cmpI_zero{a b:Int}:cmpI a b=0↔a=b:=by unfold cmpI Lib.compareInt;repeat' split<;>omega
theorem cmpBy_rng:∀a b:List UInt8,-1≤Lib.compareBytes a b∧Lib.compareBytes a b≤1
 | [],[]=>by simp[Lib.compareBytes]
 | [],_::_=>by simp[Lib.compareBytes]
 | _::_,[]=>by simp[Lib.compareBytes]
 | a::a2,b::b2=>by
  rw[Lib.compareBytes]
  repeat' split
  ·omega
  ·omega
  ·exact cmpBy_rng a2 b2
theorem cmpBy_lex(a b:UInt8)(l m:List UInt8):Lib.compareBytes (a::l) (b::m)=lex (cmpI (a.toNat:Int) (b.toNat:Int)) (Lib.compareBytes l m):=by
 rw[Lib.compareBytes]
 unfold cmpI Lib.compareInt lex
 have e1:a<b↔a.toNat<b.toNat:=UInt8.lt_iff_toNat_lt
 have e2:b<a↔b.toNat<a.toNat:=UInt8.lt_iff_toNat_lt
 rcases Nat.lt_trichotomy a.toNat b.toNat with h|h|h
 ·rw[if_pos (e1.2 h),if_pos (show(a.toNat:Int)<b.toNat by omega)];rfl
 ·rw[if_neg (by rw[e1];omega),if_neg (by rw[e2];omega),if_neg (show ¬(a.toNat:Int)<b.toNat by omega),if_neg (show ¬(a.toNat:Int)>b.toNat by omega)];rfl
 ·rw[if_neg (by rw[e1];omega),if_pos (e2.2 h),if_neg (show ¬(a.toNat:Int)<b.toNat by omega),if_pos (show(a.toNat:Int)>b.toNat by omega)];rfl
theorem lex_anti{c d c' d':Int}(h:c'=-c)(h':d'=-d):lex c' d'=-lex c d:=by unfold lex;repeat' split<;>omega
theorem lex_rng{c d:Int}(h:-1≤c∧c≤1)(h':-1≤d∧d≤1):-1≤lex c d∧lex c d≤1:=by unfold lex;split<;>omega
theorem cmpBy_anti:∀a b:List UInt8,Lib.compareBytes b a=-Lib.compareBytes a b
 | [],[]=>by simp[Lib.compareBytes]
 | [],_::_=>by simp[Lib.compareBytes]
 | _::_,[]=>by simp[Lib.compareBytes]
 | a::a2,b::b2=>by rw[cmpBy_lex,cmpBy_lex];exact lex_anti (cmpI_anti _ _) (cmpBy_anti a2 b2)
theorem cmpBy_tr:∀a b c:List UInt8,TR (Lib.compareBytes a b) (Lib.compareBytes b c) (Lib.compareBytes a c)
 | [],[],[]=>by simp[Lib.compareBytes,TR]
 | [],[],_::_=>by simp[Lib.compareBytes,TR]
 | [],_::_,[]=>by simp[Lib.compareBytes,TR]
 | [],_::_,_::_=>by simp[Lib.compareBytes,TR]
 | _::_,[],[]=>by simp[Lib.compareBytes,TR]
 | _::_,[],_::_=>by simp[Lib.compareBytes,TR]
 | _::_,_::_,[]=>by simp[Lib.compareBytes,TR]
 | a::a2,b::b2,c::c2=>by
  rw[cmpBy_lex,cmpBy_lex,cmpBy_lex]
  exact(cmpI_tr _ _ _).lx (cmpBy_tr a2 b2 c2)
structure OrdAt(x:Val):Prop where
 rng:∀y,-1≤cmpV x y∧cmpV x y≤1
 anti:∀y,cmpV y x=-cmpV x y
 tr:∀y z,TR (cmpV x y) (cmpV y z) (cmpV x z)
structure OrdL(l:List Val):Prop where
 rng:∀m,-1≤cmpL l m∧cmpL l m≤1
 anti:∀m,cmpL m l=-cmpL l m
 tr:∀m n,TR (cmpL l m) (cmpL m n) (cmpL l n)
structure OrdD(l:List Fld):Prop where
 rng:∀m,-1≤cmpD l m∧cmpD l m≤1
 anti:∀m,cmpD m l=-cmpD l m
 tr:∀m n,TR (cmpD l m) (cmpD m n) (cmpD l n)
theorem cmpF_lex(f g:Fld):cmpF f g=lex (cmpB f.s g.s) (cmpV f.v g.v):=by rw[cmpF_eq];rfl
theorem cmpL_cons(x y:Val)(r s:List Val):cmpL (x::r) (y::s)=lex (cmpV x y) (cmpL r s):=by rw[cmpL];rfl
theorem cmpD_cons(x y:Fld)(r s:List Fld):cmpD (x::r) (y::s)=lex (cmpF x y) (cmpD r s):=by rw[cmpD];rfl
theorem ordVL:∀l:List Val,(∀x∈l,OrdAt x)→OrdL l:=by
 intro l
 induction l with
 | nil=>
  intro _
  refine⟨fun m=>?_,fun m=>?_,fun m n=>?_⟩
  ·cases m<;>simp[cmpL]
  ·cases m<;>simp[cmpL]
  ·cases m<;>cases n<;>simp[cmpL,TR]
 | cons x r ih=>
  intro h
  have hx:=h x (by simp)
  have hr:=ih fun y hy=>h y (by simp[hy])
  refine⟨fun m=>?_,fun m=>?_,fun m n=>?_⟩
  ·cases m with
   | nil=>simp[cmpL]
   | cons y s=>rw[cmpL_cons];exact lex_rng (hx.rng y) (hr.rng s)
  ·cases m with
   | nil=>simp[cmpL]
   | cons y s=>rw[cmpL_cons,cmpL_cons];exact lex_anti (hx.anti y) (hr.anti s)
  ·cases m with
   | nil=>cases n<;>simp[cmpL,TR]
   | cons y s=>
    cases n with
    | nil=>simp[cmpL,TR]
    | cons z t=>
     rw[cmpL_cons,cmpL_cons,cmpL_cons]
     exact(hx.tr y z).lx (hr.tr s t)
theorem cmpB_rng(a b:ByteArray):-1≤cmpB a b∧cmpB a b≤1:=cmpBy_rng _ _
theorem cmpB_anti(a b:ByteArray):cmpB b a=-cmpB a b:=cmpBy_anti _ _
theorem cmpB_tr(a b c:ByteArray):TR (cmpB a b) (cmpB b c) (cmpB a c):=cmpBy_tr _ _ _
theorem ordD:∀l:List Fld,(∀f∈l,OrdAt f.v)→OrdD l:=by
 intro l
 induction l with
 | nil=>
  intro _
  refine⟨fun m=>?_,fun m=>?_,fun m n=>?_⟩
  ·cases m<;>simp[cmpD]
  ·cases m<;>simp[cmpD]
  ·cases m<;>cases n<;>simp[cmpD,TR]
 | cons x r ih=>
  intro h
  have hx:=h x (by simp)
  have hr:=ih fun y hy=>h y (by simp[hy])
  refine⟨fun m=>?_,fun m=>?_,fun m n=>?_⟩
  ·cases m with
   | nil=>simp[cmpD]
   | cons y s=>rw[cmpD_cons,cmpF_lex];exact lex_rng (lex_rng (cmpB_rng _ _) (hx.rng y.v)) (hr.rng s)
  ·cases m with
   | nil=>simp[cmpD]
   | cons y s=>rw[cmpD_cons,cmpD_cons,cmpF_lex,cmpF_lex];exact lex_anti (lex_anti (cmpB_anti _ _) (hx.anti y.v)) (hr.anti s)
  ·cases m with
   | nil=>cases n<;>simp[cmpD,TR]
   | cons y s=>
    cases n with
    | nil=>simp[cmpD,TR]
    | cons z t=>
     rw[cmpD_cons,cmpD_cons,cmpD_cons,cmpF_lex,cmpF_lex,cmpF_lex]
     exact((cmpB_tr _ _ _).lx (hx.tr y.v z.v)).lx (hr.tr s t)
def cmpK(x y:Val):Int:=if x.k=3∨x.k=9∨x.k=10 then cmpI x.n y.n else if x.k=4∨x.k=7∨x.k=8 then cmpB x.t y.t else if x.k=6 then cmpL x.l y.l else if x.k=5 then cmpD x.d y.d else 0
theorem cmpV_K{x y:Val}(h:x.k=y.k):cmpV x y=cmpK x y:=by rw[cmpV_eq,if_neg (by simpa using h)];rfl
theorem ordAt:∀x,OrdAt x:=by
 intro x
 induction x using Val.ind with
 | h k n t l d ihl ihd=>
 have hL:=ordVL l ihl
 have hD:=ordD d ihd
 have rK:∀y,-1≤cmpK (.mk k n t l d) y∧cmpK (.mk k n t l d) y≤1:=by
  intro y
  unfold cmpK
  split
  ·exact cmpI_rng _ _
  ·split
   ·exact cmpB_rng _ _
   ·split
    ·exact hL.rng y.l
    ·split
     ·exact hD.rng y.d
     ·omega
 have aK:∀y,y.k=k→cmpK y (.mk k n t l d)=-cmpK (.mk k n t l d) y:=by
  intro y hy
  unfold cmpK
  rw[hy]
  simp only[show(Val.mk k n t l d).k=k from rfl]
  split
  ·exact cmpI_anti _ _
  ·split
   ·exact cmpB_anti _ _
   ·split
    ·exact hL.anti y.l
    ·split
     ·exact hD.anti y.d
     ·rfl
 have tK:∀y z,y.k=k→TR (cmpK (.mk k n t l d) y) (cmpK y z) (cmpK (.mk k n t l d) z):=by
  intro y z hy
  unfold cmpK
  rw[hy]
  simp only[show(Val.mk k n t l d).k=k from rfl]
  split
  ·exact cmpI_tr _ _ _
  ·split
   ·exact cmpB_tr _ _ _
   ·split
    ·exact hL.tr y.l z.l
    ·split
     ·exact hD.tr y.d z.d
     ·simp[TR]
 refine⟨fun y=>?_,fun y=>?_,fun y z=>?_⟩
 ·by_cases h:(Val.mk k n t l d).k=y.k
  ·rw[cmpV_K h];exact rK y
  ·rw[cmpV_kind h];exact cmpI_rng _ _
 ·by_cases h:(Val.mk k n t l d).k=y.k
  ·rw[cmpV_K h,cmpV_K h.symm];exact aK y h.symm
  ·rw[cmpV_kind h,cmpV_kind (fun e=>h e.symm)];exact cmpI_anti _ _
 ·intro h1 h2
  have hk:(Val.mk k n t l d).k=k:=rfl
  have ek:cmpI k y.k≤0:=by
   by_cases h:k=y.k
   ·rw[cmpI_zero.2 h];omega
   ·rw[cmpV_kind (by rw[hk];exact h)] at h1;exact h1
  have ek2:cmpI y.k z.k≤0:=by
   by_cases h:y.k=z.k
   ·rw[cmpI_zero.2 h];omega
   ·rw[cmpV_kind h] at h2;exact h2
  have ek3:=cmpI_tr k y.k z.k ek ek2
  by_cases h:k=y.k
  ·by_cases h':y.k=z.k
   ·rw[cmpV_K (y:=y) (by rw[hk];exact h)] at h1 ⊢
    rw[cmpV_K h'] at h2 ⊢
    rw[cmpV_K (y:=z) (by rw[hk];omega)]
    exact tK y z h.symm h1 h2
   ·have h3:k≠z.k:=by omega
    rw[cmpV_kind h'] at h2 ⊢
    rw[cmpV_kind (y:=z) (by rw[hk];exact h3),hk,←h]
    have:=fun e=>h3 (cmpI_zero.1 e)
    rw[←h] at h2
    refine⟨h2,fun e=>absurd e this,fun e=>absurd e.2 this⟩
  ·have h3:cmpI k y.k≠0:=fun e=>h (cmpI_zero.1 e)
   have h4:cmpI k z.k≠0:=fun e=>h3 (ek3.2.1 e).1
   have e1:cmpV (.mk k n t l d) y=cmpI k y.k:=cmpV_kind (by rw[hk];exact h)
   have e2:cmpV (.mk k n t l d) z=cmpI k z.k:=cmpV_kind (by rw[hk];exact fun e=>h4 (cmpI_zero.2 e))
   rw[e1,e2]
   exact⟨ek3.1,fun e=>absurd e h4,fun e=>absurd e.1 h3⟩
theorem cmpV_anti(x y:Val):cmpV y x=-cmpV x y:=(ordAt x).anti y
theorem cmpV_tr(x y z:Val):TR (cmpV x y) (cmpV y z) (cmpV x z):=(ordAt x).tr y z
open Go.RowKit
def Row(w:World)(g:Nat)(t:TypeId)(n:Nat):Prop:=∃cs,Blk w g t cs∧cs.size=n
section
variable {w w':World} {g:Nat} {t:TypeId} {n:Nat}
theorem Row.lt(h:Row w g t n):g<w.heap.size:=by obtain⟨cs,hb,_⟩:=h;exact hb.lt
theorem Row.step(h:Row w g t n)(hb:Below w.heap.size w w'):Row w' g t n:=by obtain⟨cs,h1,h2⟩:=h;exact⟨cs,h1.step hb,h2⟩
theorem Row.alloc(h:Row w g t n)(o:Obj):Row (w.alloc o) g t n:=by obtain⟨cs,h1,h2⟩:=h;exact⟨cs,h1.alloc o,h2⟩
theorem Row.set(h:Row w g t n)(b off:Nat)(u:Value):Row (w.setCell ⟨b,off,none⟩ u) g t n:=by
 obtain⟨cs,h1,h2⟩:=h
 by_cases hp:g=b
 ·subst hp
  exact⟨cs.setIfInBounds off u,h1.set_ off u,by simpa using h2⟩
 ·exact⟨cs,h1.far hp u,h2⟩
theorem Row.putV(h:Row w g t n)(b off:Nat)(v:VC):Row (setV w b off v) g t n:=((((h.set _ _ _).set _ _ _).set _ _ _).set _ _ _).set _ _ _
theorem Row.frozen(h:Row w g t n)(i:Nat):w.frozen? ⟨g,i,none⟩=false:=by obtain⟨cs,h1,_⟩:=h;exact h1.frozen i
theorem Row.cell(h:Row w g t n){i:Nat}(hi:i<n):∃v,w.cell? ⟨g,i,none⟩=some v:=by
 obtain⟨cs,h1,h2⟩:=h
 rw[h1.cell,Array.getElem?_eq_getElem (by omega)]
 exact⟨_,rfl⟩
theorem Row.same(h:Row w g t n)(hb:w'.heap[g]?=w.heap[g]?):Row w' g t n:=by obtain⟨cs,h1,h2⟩:=h;exact⟨cs,hb.trans h1,h2⟩
end
theorem addr_ne{b b' o o':Nat}(h:b≠b'∨o≠o'):(⟨b,o,none⟩:Addr)≠⟨b',o',none⟩:=by
 intro e
 injection e with e1 e2
 omega
theorem cell_setV_far{w:World}{b off b' o:Nat}{v:VC}(h:b'≠b∨o<off∨off+5≤o):(setV w b off v).cell? ⟨b',o,none⟩=w.cell? ⟨b',o,none⟩:=by
 unfold setV
 rw[World.cell?_setCell_other _ _ _ _ (addr_ne (by omega)),World.cell?_setCell_other _ _ _ _ (addr_ne (by omega)),World.cell?_setCell_other _ _ _ _ (addr_ne (by omega)),World.cell?_setCell_other _ _ _ _ (addr_ne (by omega)),World.cell?_setCell_other _ _ _ _ (addr_ne (by omega))]
theorem VAt.setV_far{w:World}{b off b' o:Nat}{v u:VC}(h:VAt w b' o u)(hne:b'≠b∨o+5≤off∨off+5≤o):VAt (setV w b off v) b' o u:=by
 obtain⟨h0,h1,h2,h3,h4⟩:=h
 exact⟨(cell_setV_far (by omega)).trans h0,(cell_setV_far (by omega)).trans h1,(cell_setV_far (by omega)).trans h2,(cell_setV_far (by omega)).trans h3,(cell_setV_far (by omega)).trans h4⟩
theorem VAt.of_setV{w:World}{b off:Nat}{v:VC}(h:∀k,k<5→∃u,w.cell? ⟨b,off+k,none⟩=some u):VAt (setV w b off v) b off v:=by
 obtain⟨u0,h0⟩:=h 0 (by omega)
 obtain⟨u1,h1⟩:=h 1 (by omega)
 obtain⟨u2,h2⟩:=h 2 (by omega)
 obtain⟨u3,h3⟩:=h 3 (by omega)
 obtain⟨u4,h4⟩:=h 4 (by omega)
 have o:∀{W:World} {x y:Nat} {z:Value},x≠y→(W.setCell ⟨b,x,none⟩ z).cell? ⟨b,y,none⟩=W.cell? ⟨b,y,none⟩:=fun hne=>World.cell?_setCell_other _ _ _ _ (addr_ne (.inr hne))
 unfold setV
 refine⟨?_,?_,?_,?_,?_⟩
 ·rw[o (by omega),o (by omega),o (by omega),o (by omega)]
  exact World.cell?_setCell_same _ _ _ h0
 ·rw[o (by omega),o (by omega),o (by omega)]
  exact World.cell?_setCell_same _ _ _ ((o (by omega)).trans h1)
 ·rw[o (by omega),o (by omega)]
  exact World.cell?_setCell_same _ _ _ ((o (by omega)).trans ((o (by omega)).trans h2))
 ·rw[o (by omega)]
  exact World.cell?_setCell_same _ _ _ ((o (by omega)).trans ((o (by omega)).trans ((o (by omega)).trans h3)))
 ·exact World.cell?_setCell_same _ _ _ ((o (by omega)).trans ((o (by omega)).trans ((o (by omega)).trans ((o (by omega)).trans h4))))
theorem heap_setV{w:World}{b off:Nat}{v:VC}{g:Nat}(h:g≠b):(setV w b off v).heap[g]?=w.heap[g]?:=by
 unfold setV
 rw[Below.heap_setCell _ _ _ _ h,Below.heap_setCell _ _ _ _ h,Below.heap_setCell _ _ _ _ h,Below.heap_setCell _ _ _ _ h,Below.heap_setCell _ _ _ _ h]
structure Cl(lo mid:Nat)(w:World)(c:VC)(x:Val):Prop where
 k:c.k=x.k
 n:c.n=x.n
 t:c.t=x.t
 tsz:x.t.size≤reach
 ln:c.ln=x.l.length
 lc:c.lc=c.ln
 lsz:c.ln*80≤reach
 l0:c.ln=0→c.LA=none
 la:0<c.ln→∃g,c.LA=some ⟨g,0,none⟩∧lo≤g∧g<mid∧Row w g 45 (c.ln*5)∧∀(i:Nat) (y:Val),x.l[i]?=some y→∃e,VAt w g (i*5) e∧RV (fun b=>g<b∧b<mid) w e y
 hmid:lo≤mid
 dn:c.dn=x.d.length
 dc:c.dc=c.dn
 dsz:c.dn*96≤reach
 d0:c.dn=0→c.DA=none
 da:0<c.dn→∃g,c.DA=some ⟨g,0,none⟩∧mid≤g∧Row w g 75 (c.dn*6)∧∀(i:Nat) (f:Fld),x.d[i]?=some f→w.cell? ⟨g,i*6,none⟩=some (.string f.s)∧f.s.size≤reach∧∃e,VAt w g (i*6+1) e∧RV (fun b=>g<b) w e f.v
theorem Cl.rv{lo mid:Nat}{w:World}{c:VC}{x:Val}(h:Cl lo mid w c x):RV (fun b=>lo≤b) w c x:=by
 refine RVs.shut ⟨h.k,h.n,h.t,h.tsz,h.ln,by have:=h.lc;omega,h.lsz,fun h'=>?_,h.dn,by have:=h.dc;omega,h.dsz,fun h'=>?_⟩
 ·obtain⟨g,e,h1,h2,hrow,hl⟩:=h.la h'
  refine⟨g,0,e,⟨h1,fun _=>hrow.frozen⟩,fun i y hi=>?_⟩
  obtain⟨u,hu,hr⟩:=hl i y hi
  exact⟨u,by rw[Nat.zero_add];exact hu,hr.mono fun b hb=>by omega⟩
 ·obtain⟨g,e,h1,hrow,hl⟩:=h.da h'
  have hm:=h.hmid
  refine⟨g,0,e,⟨by omega,fun _=>hrow.frozen⟩,fun i y hi=>?_⟩
  obtain⟨hs,hz,u,hu,hr⟩:=hl i y hi
  exact⟨by rw[Nat.zero_add];exact hs,hz,u,by rw[Nat.zero_add];exact hu,hr.mono fun b hb=>by omega⟩
def CloneOk(w:World)(x:Val)(e:Ending)(w':World):Prop:=∃(c:VC) (mid:Nat),e=.returned c.val∧Cl w.heap.size mid w' c x∧Below w.heap.size w w'
theorem info_value:(Tryz.prog.info? 45).map (fun i=>(i.zero,i.size,i.bytes))=some (some VC.zero.val,5,80):=by kernel_rfl
theorem info_field:(Tryz.prog.info? 75).map (fun i=>(i.zero,i.size,i.bytes))=some (some (.agg (#[.string ByteArray.empty]++VC.zero.arr)),6,96):=by kernel_rfl
theorem run_make_rowN{P:Program}(t e:TypeId)(i:TypeInfo)(z:Value)(ht:P.underlying t=some (.slice e))(hi:P.info? e=some i)(hz:i.zero=some z)(n:Nat)(hbytes:i.bytes*n≤281474976710656)(h63:n≤9223372036854775807)(w:World):
 (Instr.makeSlice t (.int .i64 (n:Int)) (.int .i64 (n:Int))).run P w=.ok (.slice (some ⟨w.heap.size,0,none⟩) n n) (w.alloc (.cells (madeCells z.cells (n*i.size)) e)):=by
 have hb:(i.bytes:Int)*(n:Int)≤281474976710656:=by
  have h:((i.bytes*n:Nat):Int)≤281474976710656:=by omega
  rwa [Int.natCast_mul] at h
 have hr:=run_make (P:=P) w t e i z ht hi hz .i64 .i64 n n (by omega) (by omega) hb (by omega)
 simp only[Int.toNat_natCast] at hr
 exact hr
structure CSt(w:World)(c:VC)(x:Val)(wx:World)(r:VC):Prop where
 b0:Blk wx w.heap.size 45 c.arr
 b1:Blk wx (w.heap.size+1) 45 VC.zero.arr
 b2:Blk wx (w.heap.size+2) 45 r.arr
 bel:Below w.heap.size w wx
 e:r.k=c.k∧r.n=c.n∧r.t=c.t∧r.DA=none∧r.dn=0∧r.dc=0∧r.ln=c.ln∧r.lc=c.ln
 l0:r.ln=0→r.LA=none
 la:0<r.ln→∃g,r.LA=some ⟨g,0,none⟩∧w.heap.size+3≤g∧Row wx g 45 (r.ln*5)∧∀(i:Nat) (y:Val),x.l[i]?=some y→∃e,VAt wx g (i*5) e∧RV (fun b=>g<b) wx e y
end Go.Proofs.YtlicnjecnehaoaaGreatDoor
namespace Go.RowKit
theorem Below.undrewN{B n:Nat}{a w:World}(h:Below B (a.drewN n) w):Below B a w:=⟨h.os,h.tape,h.output,h.size,h.block⟩
end Go.RowKit
namespace Go.Proofs.YtlicnjecnehaoaaGreatDoor
open Go.RowKit
structure CL(w:World)(c:VC)(l:List Val)(i:Nat)(wx:World):Prop where
 b0:Blk wx w.heap.size 45 c.arr
 b1:Blk wx (w.heap.size+1) 45 VC.zero.arr
 b2:Blk wx (w.heap.size+2) 45 (VC.arr ⟨c.k,c.n,c.t,some ⟨w.heap.size+3,0,none⟩,c.ln,c.ln,none,0,0⟩)
 row:Row wx (w.heap.size+3) 45 (c.ln*5)
 el:∀(j:Nat) (y:Val),j<i→l[j]?=some y→∃e,VAt wx (w.heap.size+3) (j*5) e∧RV (fun b=>w.heap.size+3<b) wx e y
 bel:Below w.heap.size w wx
theorem RV.step'{F:Nat→Prop}{W w':World}{c:VC}{x:Val}(h:RV (fun b=>F b∧b<W.heap.size) W c x)(hb:Below W.heap.size W w'):RV F w' c x:=h.keepG fun b hF _=>⟨hF.1,hb.block b hF.2⟩
theorem CL.step{w wx w':World}{c:VC}{l:List Val}{i:Nat}(h:CL w c l i wx)(hb:Below wx.heap.size wx w'):CL w c l i w':=
 ⟨h.b0.step hb,h.b1.step hb,h.b2.step hb,h.row.step hb,fun j y hj hy=>by obtain⟨e,h1,h2⟩:=h.el j y hj hy;exact⟨e,h1.step hb,h2.step hb⟩,h.bel.step' hb⟩
theorem CL.next{w wx:World}{c:VC}{l:List Val}{i:Nat}{y:Val}{u:VC}(h:CL w c l i wx)(hi:i<c.ln)(hy:l[i]?=some y)(hu:RV (fun b=>w.heap.size+3<b) wx u y):
 CL w c l (i+1) (setV wx (w.heap.size+3) (i*5) u):=by
 have keep:∀{z:VC} {v:Val},RV (fun b=>w.heap.size+3<b) wx z v→RV (fun b=>w.heap.size+3<b) (setV wx (w.heap.size+3) (i*5) u) z v:=fun hr=>hr.keep fun b hb=>heap_setV (by omega)
 refine⟨h.b0.farV (by omega) _ _,h.b1.farV (by omega) _ _,h.b2.farV (by omega) _ _,h.row.putV _ _ _,fun j z hj hz=>?_,below_setV h.bel (by omega) _ _⟩
 by_cases e:j=i
 ·subst e
  obtain rfl:y=z:=by have:=hy.symm.trans hz;simpa using this
  exact⟨u,VAt.of_setV fun q hq=>h.row.cell (by omega),keep hu⟩
 ·obtain⟨e',h1,h2⟩:=h.el j z (by omega) hz
  exact⟨e',h1.setV_far (by omega),keep h2⟩
theorem cell_setF_far{w:World}{b off b' o:Nat}{s:ByteArray}{v:VC}(h:b'≠b∨o<off∨off+6≤o):(setV (w.setCell ⟨b,off,none⟩ (.string s)) b (off+1) v).cell? ⟨b',o,none⟩=w.cell? ⟨b',o,none⟩:=by
 rw[cell_setV_far (by omega),World.cell?_setCell_other _ _ _ _ (addr_ne (by omega))]
theorem VAt.setF_far{w:World}{b off b' o:Nat}{s:ByteArray}{v u:VC}(h:VAt w b' o u)(hne:b'≠b∨o+5≤off∨off+6≤o):VAt (setV (w.setCell ⟨b,off,none⟩ (.string s)) b (off+1) v) b' o u:=by
 obtain⟨h0,h1,h2,h3,h4⟩:=h
 exact⟨(cell_setF_far (by omega)).trans h0,(cell_setF_far (by omega)).trans h1,(cell_setF_far (by omega)).trans h2,(cell_setF_far (by omega)).trans h3,(cell_setF_far (by omega)).trans h4⟩
theorem heap_setF{w:World}{b off:Nat}{s:ByteArray}{v:VC}{g:Nat}(h:g≠b):(setV (w.setCell ⟨b,off,none⟩ (.string s)) b (off+1) v).heap[g]?=w.heap[g]?:=by
 rw[heap_setV h,Below.heap_setCell _ _ _ _ h]
structure CD(w:World)(c r:VC)(gd:Nat)(l:List Val)(d:List Fld)(i:Nat)(wx:World):Prop where
 b0:Blk wx w.heap.size 45 c.arr
 b1:Blk wx (w.heap.size+1) 45 VC.zero.arr
 b2:Blk wx (w.heap.size+2) 45 (VC.arr ⟨r.k,r.n,r.t,r.LA,r.ln,r.lc,some ⟨gd,0,none⟩,c.dn,c.dn⟩)
 hgd:w.heap.size+3≤gd
 row:Row wx gd 75 (c.dn*6)
 la:0<r.ln→∃g,r.LA=some ⟨g,0,none⟩∧w.heap.size+3≤g∧g<gd∧Row wx g 45 (r.ln*5)∧∀(i:Nat) (y:Val),l[i]?=some y→∃e,VAt wx g (i*5) e∧RV (fun b=>g<b∧b<gd) wx e y
 el:∀(j:Nat) (f:Fld),j<i→d[j]?=some f→wx.cell? ⟨gd,j*6,none⟩=some (.string f.s)∧∃e,VAt wx gd (j*6+1) e∧RV (fun b=>gd<b) wx e f.v
 bel:Below w.heap.size w wx
theorem CD.step{w wx w':World}{c r:VC}{gd:Nat}{l:List Val}{d:List Fld}{i:Nat}(h:CD w c r gd l d i wx)(hb:Below wx.heap.size wx w'):CD w c r gd l d i w':=by
 refine⟨h.b0.step hb,h.b1.step hb,h.b2.step hb,h.hgd,h.row.step hb,fun hn=>?_,fun j f hj hf=>?_,h.bel.step' hb⟩
 ·obtain⟨g,h1,h2,h3,h4,h5⟩:=h.la hn
  refine⟨g,h1,h2,h3,h4.step hb,fun i y hi=>?_⟩
  obtain⟨e,k1,k2⟩:=h5 i y hi
  exact⟨e,k1.step hb,k2.step hb⟩
 ·obtain⟨h1,e,h2,h3⟩:=h.el j f hj hf
  exact⟨(hb.cell (p:=⟨gd,j*6,none⟩) h.row.lt).trans h1,e,h2.step hb,h3.step hb⟩
theorem CD.next{w wx:World}{c r:VC}{gd:Nat}{l:List Val}{d:List Fld}{i:Nat}{f:Fld}{u:VC}(h:CD w c r gd l d i wx)(hi:i<c.dn)(hf:d[i]?=some f)(hu:RV (fun b=>gd<b) wx u f.v):
 CD w c r gd l d (i+1) (setV (wx.setCell ⟨gd,i*6,none⟩ (.string f.s)) gd (i*6+1) u):=by
 have hg:=h.hgd
 have keep:∀{F:Nat→Prop} {z:VC} {v:Val},(∀b,F b→b≠gd)→RV F wx z v→RV F (setV (wx.setCell ⟨gd,i*6,none⟩ (.string f.s)) gd (i*6+1) u) z v:=fun hF hr=>hr.keep fun b hb=>heap_setF (hF b hb)
 refine⟨(h.b0.far (p:=⟨gd,i*6,none⟩) (by show w.heap.size≠gd;omega) _).farV (by omega) _ _,(h.b1.far (p:=⟨gd,i*6,none⟩) (by show w.heap.size+1≠gd;omega) _).farV (by omega) _ _,(h.b2.far (p:=⟨gd,i*6,none⟩) (by show w.heap.size+2≠gd;omega) _).farV (by omega) _ _,hg,(h.row.set _ _ _).putV _ _ _,fun hn=>?_,fun j z hj hz=>?_,below_setV (h.bel.setCell (p:=⟨gd,i*6,none⟩) (by show w.heap.size≤gd;omega) _) (by omega) _ _⟩
 ·obtain⟨g,h1,h2,h3,h4,h5⟩:=h.la hn
  refine⟨g,h1,h2,h3,(h4.set _ _ _).putV _ _ _,fun i y hi=>?_⟩
  obtain⟨e,k1,k2⟩:=h5 i y hi
  exact⟨e,k1.setF_far (by omega),keep (by intro b hb;omega) k2⟩
 ·by_cases e:j=i
  ·subst e
   obtain rfl:f=z:=by have:=hf.symm.trans hz;simpa using this
   obtain⟨o,ho⟩:=h.row.cell (i:=j*6) (by omega)
   refine⟨?_,u,VAt.of_setV fun q hq=>(h.row.set gd (j*6) (.string f.s)).cell (by omega),keep (by intro b hb;omega) hu⟩
   rw[cell_setV_far (by omega)]
   exact World.cell?_setCell_same _ _ _ ho
  ·obtain⟨h1,e',h2,h3⟩:=h.el j z (by omega) hz
   exact⟨(cell_setF_far (by omega)).trans h1,e',h2.setF_far (by omega),keep (by intro b hb;omega) h3⟩
theorem CD.start{w wc:World}{ck cn:Int}{ct:ByteArray}{LA DA rLA:Option Addr}{ln lc dn dc:Nat}{k n:Int}{t:ByteArray}{l:List Val}{d:List Fld}{cs:Array Value}(h:CSt w ⟨ck,cn,ct,LA,ln,lc,DA,dn,dc⟩ (.mk k n t l d) wc ⟨ck,cn,ct,rLA,ln,ln,none,0,0⟩):
 CD w ⟨ck,cn,ct,LA,ln,lc,DA,dn,dc⟩ ⟨ck,cn,ct,rLA,ln,ln,none,0,0⟩ wc.heap.size l d 0 ((wc.setCell ⟨w.heap.size+2,4,none⟩ (.slice (some ⟨wc.heap.size,0,none⟩) dn dn)).alloc (.cells (madeCells cs (dn*6)) 75)):=by
 have hlt:=h.b2.lt
 have hsz:(wc.setCell ⟨w.heap.size+2,4,none⟩ (.slice (some ⟨wc.heap.size,0,none⟩) dn dn)).heap.size=wc.heap.size:=by simp[World.setCell]
 refine⟨(h.b0.far (p:=⟨w.heap.size+2,4,none⟩) (by show w.heap.size≠w.heap.size+2;omega) _).alloc _,(h.b1.far (p:=⟨w.heap.size+2,4,none⟩) (by show w.heap.size+1≠w.heap.size+2;omega) _).alloc _,(h.b2.set_ 4 _).alloc _,by omega,⟨_,Blk.new_at hsz.symm,size_madeCells _ _⟩,fun hn=>?_,fun j f hj=>by omega,?_⟩
 ·obtain⟨g,h1,h2,h3,h4⟩:=h.la hn
  refine⟨g,h1,h2,h3.lt,(h3.set _ _ _).alloc _,fun i y hi=>?_⟩
  obtain⟨e,k1,k2⟩:=h4 i y hi
  have hk:∀q,q<wc.heap.size→q≠w.heap.size+2→((wc.setCell ⟨w.heap.size+2,4,none⟩ (.slice (some ⟨wc.heap.size,0,none⟩) dn dn)).alloc (.cells (madeCells cs (dn*6)) 75)).heap[q]?=wc.heap[q]?:=fun q hq hne=>by
   rw[Below.heap_alloc _ _ _ (by rw[hsz];exact hq),Below.heap_setCell _ _ _ _ hne]
  refine⟨e,k1.keep (hk g h3.lt (by omega)),k2.lt.keepG fun q hq _=>⟨hq,hk q hq.2 (by omega)⟩⟩
 ·exact(h.bel.setCell (p:=⟨w.heap.size+2,4,none⟩) (by show w.heap.size≤w.heap.size+2;omega) _).alloc (by rw[hsz];exact h.bel.size) _
structure CE(w:World)(x:Val)(r:VC)(mid:Nat)(wx:World):Prop where
 b1:Blk wx (w.heap.size+1) 45 VC.zero.arr
 b2:Blk wx (w.heap.size+2) 45 r.arr
 cl:Cl (w.heap.size+3) mid wx r x
 bel:Below w.heap.size w wx
theorem CE.of_cd{w wx:World}{ck cn:Int}{ct:ByteArray}{LA DA rLA:Option Addr}{ln lc dn dc gd:Nat}{k n:Int}{t:ByteArray}{l:List Val}{d:List Fld}(h:CD w ⟨ck,cn,ct,LA,ln,lc,DA,dn,dc⟩ ⟨ck,cn,ct,rLA,ln,ln,none,0,0⟩ gd l d dn wx)(ho:RVs (fun _=>True) w ⟨ck,cn,ct,LA,ln,lc,DA,dn,dc⟩ (.mk k n t l d))(hd:d.length≤dn)(hl0:ln=0→rLA=none)(hd0:0<dn):
 CE w (.mk k n t l d) ⟨ck,cn,ct,rLA,ln,ln,some ⟨gd,0,none⟩,dn,dn⟩ gd wx:=by
 refine⟨h.b1,h.b2,⟨ho.k,ho.n,ho.t,ho.tsz,ho.ln,rfl,ho.lsz,hl0,h.la,h.hgd,ho.dn,rfl,ho.dsz,fun h0=>?_,fun hp=>?_⟩,h.bel⟩
 ·exact absurd h0 (by show dn≠0;omega)
 ·refine⟨gd,rfl,qL,h.row,fun i f hi=>?_⟩
  obtain⟨h1,h2⟩:=h.el i f (by have:=(List.getElem?_eq_some_iff.1 hi).1;simp only[Val.d] at this;omega) hi
  obtain⟨b,off,_,_,hel⟩:=ho.da hp
  exact⟨h1,(hel i f hi).2.1,h2⟩
theorem CE.of_cst{w wx:World}{ck cn:Int}{ct:ByteArray}{LA DA rLA:Option Addr}{ln lc dc:Nat}{x:Val}(h:CSt w ⟨ck,cn,ct,LA,ln,lc,DA,0,dc⟩ x wx ⟨ck,cn,ct,rLA,ln,ln,none,0,0⟩)(ho:RVs (fun _=>True) w ⟨ck,cn,ct,LA,ln,lc,DA,0,dc⟩ x):
 CE w x ⟨ck,cn,ct,rLA,ln,ln,none,0,0⟩ wx.heap.size wx:=by
 refine⟨h.b1,h.b2,⟨ho.k,ho.n,ho.t,ho.tsz,ho.ln,rfl,ho.lsz,h.l0,fun hn=>?_,?_,ho.dn,rfl,ho.dsz,fun _=>rfl,fun hp=>absurd hp (Nat.lt_irrefl 0)⟩,h.bel⟩
 ·obtain⟨g,h1,h2,h3,h4⟩:=h.la hn
  refine⟨g,h1,h2,h3.lt,h3,fun i y hi=>?_⟩
  obtain⟨e,k1,k2⟩:=h4 i y hi
  exact⟨e,k1,k2.lt⟩
 ·have:=h.b2.lt
  omega
theorem Cl.keep{lo mid:Nat}{w w':World}{c:VC}{x:Val}(h:Cl lo mid w c x)(hk:∀b,lo≤b→w'.heap[b]?=w.heap[b]?):Cl lo mid w' c x:=by
 refine⟨h.k,h.n,h.t,h.tsz,h.ln,h.lc,h.lsz,h.l0,fun hn=>?_,h.hmid,h.dn,h.dc,h.dsz,h.d0,fun hn=>?_⟩
 ·obtain⟨g,h1,h2,h3,h4,h5⟩:=h.la hn
  refine⟨g,h1,h2,h3,h4.same (hk g h2),fun i y hi=>?_⟩
  obtain⟨e,k1,k2⟩:=h5 i y hi
  exact⟨e,k1.keep (hk g h2),k2.keep fun b hb=>hk b (by omega)⟩
 ·obtain⟨g,h1,h2,h3,h4⟩:=h.da hn
  have hm:=h.hmid
  refine⟨g,h1,h2,h3.same (hk g (by omega)),fun i f hi=>?_⟩
  obtain⟨k0,kz,e,k1,k2⟩:=h4 i f hi
  exact⟨(World.cell?_of_block (w:=w) (a:=⟨g,i*6,none⟩) (hk g (by omega))).trans k0,kz,e,k1.keep (hk g (by omega)),k2.keep fun b hb=>hk b (by omega)⟩
theorem Cl.low{lo lo' mid:Nat}{w:World}{c:VC}{x:Val}(h:Cl lo mid w c x)(hl:lo'≤lo):Cl lo' mid w c x:=by
 refine⟨h.k,h.n,h.t,h.tsz,h.ln,h.lc,h.lsz,h.l0,fun hn=>?_,by have:=h.hmid;omega,h.dn,h.dc,h.dsz,h.d0,h.da⟩
 obtain⟨g,h1,h2,h3,h4,h5⟩:=h.la hn
 exact⟨g,h1,by omega,h3,h4,h5⟩
theorem CE.done{w wx:World}{x:Val}{r:VC}{mid:Nat}(h:CE w x r mid wx):CloneOk w x (.returned r.val) (setV wx (w.heap.size+1) 0 r):=
 ⟨r,mid,rfl,(h.cl.keep fun b hb=>heap_setV (by omega)).low (by omega),below_setV h.bel (by omega) _ _⟩
theorem results_val{fn:Func}{p:Tmp}(h:fn.results=#[.cell p 45])(tmps:Array Value)(g1 off:Nat)(h1:tmps[p]?.getD undef=.pointer (some ⟨g1,off,none⟩))(W:World)(v:VC)(q:VAt W g1 off v):
 (results fn tmps).run Tryz.prog W=.ok v.val W:=by
 obtain⟨q0,q1,q2,q3,q4⟩:=q
 simp[results,h,h1,asAddr,go_sem,q0,q1,q2,q3,q4]
abbrev PV:=VC×Val
abbrev PF:=VC×Fld
def recV(p:PV):List Value:=p.1.list
def recF(p:PF):List Value:=.string p.2.s::p.1.list
theorem recV_length(p:PV):(recV p).length=5:=rfl
theorem recF_length(p:PF):(recF p).length=6:=rfl
theorem recV_one(p:PV):∀u∈recV p,u.oneCell'=true:=by simp[recV,VC.list,Value.oneCell']
theorem recF_one(p:PF):∀u∈recF p,u.oneCell'=true:=by simp[recF,VC.list,Value.oneCell']
structure SL(F:Nat→Prop)(w:World)(A:Option Addr)(n c:Nat)(ps:List PV):Prop where
 sr:SR 5 recV w A n c ps
 sz:n*80≤reach
 blk:0<n→∃b off,A=some ⟨b,off,none⟩∧Ft F w b
 rv:∀p∈ps,RV F w p.1 p.2
structure SD(F:Nat→Prop)(w:World)(A:Option Addr)(n c:Nat)(ps:List PF):Prop where
 sr:SR 6 recF w A n c ps
 sz:n*96≤reach
 blk:0<n→∃b off,A=some ⟨b,off,none⟩∧Ft F w b
 ns:∀p∈ps,p.2.s.size≤reach
 rv:∀p∈ps,RV F w p.1 p.2.v
section
variable {F G:Nat→Prop} {w w':World} {A:Option Addr} {n c:Nat}
theorem vat_of{b off:Nat}{u:VC}(h:∀(j:Nat) (v:Value),u.list[j]?=some v→w.cell? ⟨b,off+j,none⟩=some v):VAt w b off u:=
 ⟨h 0 _ rfl,h 1 _ rfl,h 2 _ rfl,h 3 _ rfl,h 4 _ rfl⟩
theorem vat_cell{b off:Nat}{u:VC}(h:VAt w b off u):∀(j:Nat) (v:Value),u.list[j]?=some v→w.cell? ⟨b,off+j,none⟩=some v:=by
 obtain⟨h0,h1,h2,h3,h4⟩:=h
 intro j v hj
 match j,hj with
 | 0,hj=>simp[VC.list] at hj;subst hj;exact h0
 | 1,hj=>simp[VC.list] at hj;subst hj;exact h1
 | 2,hj=>simp[VC.list] at hj;subst hj;exact h2
 | 3,hj=>simp[VC.list] at hj;subst hj;exact h3
 | 4,hj=>simp[VC.list] at hj;subst hj;exact h4
 | j+5,hj=>simp[VC.list] at hj
theorem choose_list{α β:Type}{p:Nat→β→α→Prop}:∀{l:List β},(∀i y,l[i]?=some y→∃u,p i y u)→∃ps:List (α×β),ps.map Prod.snd=l∧∀i q,ps[i]?=some q→p i q.2 q.1:=by
 intro l
 induction l generalizing p with
 | nil=>intro _;exact⟨[],rfl,fun i q h=>by simp at h⟩
 | cons y r ih=>
  intro h
  obtain⟨u,hu⟩:=h 0 y rfl
  obtain⟨ps,h1,h2⟩:=ih (p:=fun i=>p (i+1)) (fun i y hy=>h (i+1) y (by simpa using hy))
  refine⟨(u,y)::ps,by simp[h1],fun i q hq=>?_⟩
  cases i with
  | zero=>simp at hq;subst hq;exact hu
  | succ i=>exact h2 i q (by simpa using hq)
theorem RV.sl{u:VC}{x:Val}(h:RV F w u x):∃ps:List PV,ps.map Prod.snd=x.l∧SL F w u.LA u.ln u.lc ps:=by
 have ho:=h.open
 by_cases hn:0<u.ln
 ·obtain⟨b,off,e,hF,hl⟩:=ho.la hn
  obtain⟨ps,h1,h2⟩:=choose_list hl
  have hlen:u.ln=ps.length:=by rw[ho.ln,←h1];simp
  refine⟨ps,h1,⟨hlen,ho.lc,fun _=>⟨b,off,e,?_,fun i a hi j v hj=>vat_cell (h2 i a hi).1 j v hj⟩⟩,ho.lsz,fun _=>⟨b,off,e,hF⟩,fun p hp=>?_⟩
  ·obtain⟨q,hq⟩:∃q,ps[0]?=some q:=⟨_,List.getElem?_eq_getElem (by omega)⟩
   exact(h2 0 q hq).1.lt
  ·obtain⟨i,hi⟩:=List.getElem?_of_mem hp
   exact(h2 i p hi).2
 ·have h0:u.ln=0:=by omega
  have hx:x.l=[]:=List.eq_nil_of_length_eq_zero (by rw[←ho.ln];exact h0)
  exact⟨[],by rw[hx];rfl,⟨by rw[h0];rfl,ho.lc,fun h=>absurd h hn⟩,ho.lsz,fun h=>absurd h hn,fun p hp=>by simp at hp⟩
theorem RV.sd{u:VC}{x:Val}(h:RV F w u x):∃ps:List PF,ps.map Prod.snd=x.d∧SD F w u.DA u.dn u.dc ps:=by
 have ho:=h.open
 by_cases hn:0<u.dn
 ·obtain⟨b,off,e,hF,hl⟩:=ho.da hn
  obtain⟨ps,h1,h2⟩:=choose_list (p:=fun i (f:Fld) (v:VC)=>w.cell? ⟨b,off+i*6,none⟩=some (.string f.s)∧f.s.size≤reach∧VAt w b (off+i*6+1) v∧RV F w v f.v) (fun i f hf=>by
   obtain⟨h1,h2,v,h3,h4⟩:=hl i f hf
   exact⟨v,h1,h2,h3,h4⟩)
  have hlen:u.dn=ps.length:=by rw[ho.dn,←h1];simp
  refine⟨ps,h1,⟨hlen,ho.dc,fun _=>⟨b,off,e,?_,fun i a hi j v hj=>?_⟩⟩,ho.dsz,fun _=>⟨b,off,e,hF⟩,fun p hp=>?_,fun p hp=>?_⟩
  ·obtain⟨q,hq⟩:∃q,ps[0]?=some q:=⟨_,List.getElem?_eq_getElem (by omega)⟩
   exact(h2 0 q hq).2.2.1.lt
  ·obtain⟨k0,_,k1,_⟩:=h2 i a hi
   cases j with
   | zero=>simp[recF] at hj;subst hj;exact k0
   | succ j=>
    have:=vat_cell k1 j v (by simpa[recF] using hj)
    rw[show off+i*6+(j+1)=off+i*6+1+j by omega]
    exact this
  ·obtain⟨i,hi⟩:=List.getElem?_of_mem hp
   exact(h2 i p hi).2.1
  ·obtain⟨i,hi⟩:=List.getElem?_of_mem hp
   exact(h2 i p hi).2.2.2
 ·have h0:u.dn=0:=by omega
  have hx:x.d=[]:=List.eq_nil_of_length_eq_zero (by rw[←ho.dn];exact h0)
  exact⟨[],by rw[hx];rfl,⟨by rw[h0];rfl,ho.dc,fun h=>absurd h hn⟩,ho.dsz,fun h=>absurd h hn,fun p hp=>by simp at hp,fun p hp=>by simp at hp⟩
theorem SL.vat{ps:List PV}(h:SL F w A n c ps){i:Nat}{p:PV}(hi:ps[i]?=some p):∃b off,A=some ⟨b,off,none⟩∧F b∧VAt w b (off+i*5) p.1∧RV F w p.1 p.2:=by
 have hn:0<n:=by have:=(List.getElem?_eq_some_iff.1 hi).1;have:=h.sr.ln;omega
 obtain⟨b,off,e,_,hel⟩:=h.sr.el hn
 obtain⟨b',off',e',hF⟩:=h.blk hn
 rw[e] at e'
 cases e'
 exact⟨b,off,e,hF.1,vat_of fun j v hj=>hel i p hi j v hj,h.rv p (List.mem_of_getElem? hi)⟩
theorem SD.vat{ps:List PF}(h:SD F w A n c ps){i:Nat}{p:PF}(hi:ps[i]?=some p):∃b off,A=some ⟨b,off,none⟩∧F b∧w.cell? ⟨b,off+i*6,none⟩=some (.string p.2.s)∧VAt w b (off+i*6+1) p.1∧RV F w p.1 p.2.v:=by
 have hn:0<n:=by have:=(List.getElem?_eq_some_iff.1 hi).1;have:=h.sr.ln;omega
 obtain⟨b,off,e,_,hel⟩:=h.sr.el hn
 obtain⟨b',off',e',hF⟩:=h.blk hn
 rw[e] at e'
 cases e'
 refine⟨b,off,e,hF.1,hel i p hi 0 _ rfl,vat_of fun j v hj=>?_,h.rv p (List.mem_of_getElem? hi)⟩
 have:=hel i p hi (j+1) v (by simpa[recF] using hj)
 rw[show off+i*6+1+j=off+i*6+(j+1) by omega]
 exact this
theorem SL.step{ps:List PV}(h:SL F w A n c ps)(hb:Below w.heap.size w w'):SL F w' A n c ps:=⟨h.sr.step hb,h.sz,fun hn=>by
 obtain⟨b,off,e,hF⟩:=h.blk hn
 obtain⟨b',off',e',hl,_⟩:=h.sr.el hn
 rw[e] at e'
 cases e'
 exact⟨b,off,e,hF.keepG hl fun q hq hql=>⟨hq,hb.block q hql⟩⟩,fun p hp=>(h.rv p hp).step hb⟩
theorem SD.step{ps:List PF}(h:SD F w A n c ps)(hb:Below w.heap.size w w'):SD F w' A n c ps:=⟨h.sr.step hb,h.sz,fun hn=>by
 obtain⟨b,off,e,hF⟩:=h.blk hn
 obtain⟨b',off',e',hl,_⟩:=h.sr.el hn
 rw[e] at e'
 cases e'
 exact⟨b,off,e,hF.keepG hl fun q hq hql=>⟨hq,hb.block q hql⟩⟩,h.ns,fun p hp=>(h.rv p hp).step hb⟩
theorem SL.nil:SL F w none 0 0 []:=⟨SR.nil,by decide,fun h=>absurd h (Nat.lt_irrefl 0),fun p hp=>by simp at hp⟩
theorem SL.of_own{base:Nat}{t:TypeId}{v:Value}{ps:List PV}(h:w.ownsRow base t 5 v n (flat recV ps))(hl:ps.length=n)(hz:n*80≤reach)(hF:∀b,base≤b→F b)(hr:∀p∈ps,RV F w p.1 p.2):∃A c,v=.slice A n c∧SL F w A n c ps:=by
 obtain⟨A,c,rfl,hs⟩:=SR.of_own recV_length h hl
 refine⟨A,c,rfl,hs,hz,fun hn=>?_,hr⟩
 obtain⟨b,off,rfl,_⟩:=hs.el hn
 rcases h.2 with⟨h',_⟩|⟨g,cap,cur,hv,hg,hbl,_⟩
 ·cases h'
 ·cases hv
  exact⟨b,0,rfl,hF b hg,fun _ i=>Blk.frozen (t:=t) (cs:=cur) hbl i⟩
end
end Go.Proofs.YtlicnjecnehaoaaGreatDoor
