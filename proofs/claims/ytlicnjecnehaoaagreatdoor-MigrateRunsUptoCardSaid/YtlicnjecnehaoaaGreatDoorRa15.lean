/- Parts of the proof, joined: ChBaseB, MgCopy, MgCW, MgStartP. -/
import Derived.Test.YtlicnjecnehaoaaGreatDoorRa1
import Derived.Test.YtlicnjecnehaoaaGreatDoorRa14
import Derived.Test.YtlicnjecnehaoaaGreatDoorRa4
import Derived.Test.YtlicnjecnehaoaaGreatDoorRa10
import Derived.Shelf.Spec.SlicesInsertGrow
import Derived.Deep.RegionHeld3
set_option maxRecDepth 100000
set_option maxHeartbeats 16000000
set_option linter.unusedSimpArgs false
namespace Go.Proofs.YtlicnjecnehaoaaGreatDoor
open Go.RowKit
theorem indexC_any(f:FuncId)(m:Nat)(p:Ch→Bool)(l:List Ch)(A:Option Addr)(n c:Nat)(w:World)(h:CS w A n c l)(hent:∀args w,(callFunc f args).run Tryz.prog w=.ok (.enter f args) w)(hs:∀(x:Ch) (wr:World),Below w.heap.size w wr→Calls Tryz.prog f #[aggC x,.pointer (some ⟨m,0,none⟩)] wr fun e w'=>e=.returned (.bool (p x))∧Below wr.heap.size wr w'):
 Calls Tryz.prog 16 #[.slice A n c,.func (.func f) #[] #[.pointer (some ⟨m,0,none⟩)]] w fun e w'=>e=.returned (.int .i64 (idxI p l))∧Below w.heap.size w w':=by
 have hz:n≤140737488355328:=by have:=h.sz;unfold reach at this;omega
 have H:=qD h
 have HS:=qD hs
 clear h hs
 go_enter Tryz.func16,Tryz.ntmps16
 go_wp2_with fail
 go_loopw [8] (fun v wr=>∃i:Nat,i≤n∧v=.int .i64 i∧idxI p l=idxFrom p (l.drop i) i∧Below w.heap.size w wr) (fun v _=>n-(intOf v).toNat)
 case atStart=>exact⟨0,Nat.zero_le _,rfl,rfl,Below.refl _ _⟩
 case round=>
  obtain⟨i,hi,rfl,ha,hbel⟩:=hrel
  have HA:=qD ha
  have HB:=qD hbel
  clear ha
  by_cases hlt:i<n
  ·obtain⟨b,off,x,hA,hb,hx,e0,e1,e2,e3,e4⟩:=H.out.sr.at5 hlt
   subst hA
   have HX:=qD (idxFrom_at (p:=p) hx)
   have g0:=(hbel.cell (p:=⟨b,off+i*5,none⟩) hb).trans e0
   have g1:=(hbel.cell (p:=⟨b,off+i*5+1,none⟩) hb).trans e1
   have g2:=(hbel.cell (p:=⟨b,off+i*5+2,none⟩) hb).trans e2
   have g3:=(hbel.cell (p:=⟨b,off+i*5+3,none⟩) hb).trans e3
   have g4:=(hbel.cell (p:=⟨b,off+i*5+4,none⟩) hb).trans e4
   clear hx e0 e1 e2 e3 e4 hbel
   go_wp2_with fail
   refine(HS.out x _ HB.out).mono ?_
   rintro e w1 ⟨rfl,hb1⟩
   have HB1:=qD (HB.out.step' hb1)
   clear hb1 g0 g1 g2 g3 g4
   cases hq:p x
   ·have HF:Hid (idxI p l=idxFrom p (l.drop (i+1)) (i+1)):=by rw[Hid,HA.out,HX.out,hq];rfl
    go_wp2_with fail
    go_roundw
    case rel=>exact⟨i+1,by omega,by go_num,HF.out,HB1.out⟩
    case measure=>simp[intOf];omega
   ·have HF:Hid (idxI p l=(i:Int)):=by rw[Hid,HA.out,HX.out,hq];rfl
    go_wp2_with fail
    go_ret
    exact⟨by rw[HF.out];rfl,HB1.out⟩
  ·have HF:Hid (idxI p l=-1):=by rw[Hid,HA.out];exact idxFrom_end (by have:=H.out.ln;omega)
   clear hbel
   go_wp2_with fail
   go_ret
   exact⟨by rw[HF.out];rfl,HB.out⟩
theorem beg1_any(x:Ch)(m:Nat)(key:ByteArray)(w:World)(h:w.cell? ⟨m,0,none⟩=some (.string key)):
 Calls Tryz.prog 94 #[aggC x,.pointer (some ⟨m,0,none⟩)] w fun e w'=>e=.returned (.bool (begB key x))∧Below w.heap.size w w':=by
 have hm:=World.block_lt_of_cell? w _ h
 go_enter Tryz.func94,Tryz.ntmps94
 go_wp2_with fail
 go_ret
 exact⟨rfl,(Below.refl _ _).alloc (qL) _⟩
theorem give1_any(x:Ch)(m:Nat)(s:Int)(w:World)(h:w.cell? ⟨m,0,none⟩=some (.int .i64 s)):
 Calls Tryz.prog 63 #[aggC x,.pointer (some ⟨m,0,none⟩)] w fun e w'=>e=.returned (.bool (shB s x))∧Below w.heap.size w w':=by
 have hm:=World.block_lt_of_cell? w _ h
 go_enter Tryz.func63,Tryz.ntmps63
 go_wp2_with fail
 go_ret
 exact⟨rfl,(Below.refl _ _).alloc (qL) _⟩
theorem begins_any(R:Ro)(a:RA)(key:ByteArray)(w:World)(h:RR w a R):
 Calls Tryz.prog 61 #[rval a R,.string key] w fun e w'=>e=.returned (.int .i64 (idxI (begB key) R.cs))∧Below w.heap.size w w':=by
 have HA2:=qD (((Below.refl w.heap.size w).alloc (qL) (Obj.cells (rarr a R) 27)).alloc (by simp) (Obj.cells #[.string key] 9))
 have HB:Hid (Blk ((w.alloc (.cells (rarr a R) 27)).alloc (.cells #[.string key] 9)) (w.heap.size+1) 9 #[.string key]):=Blk.new_at (by simp)
 have H:=qD h
 clear h
 go_enter Tryz.func61,Tryz.ntmps61
 go_wp2_with fail
 refine(indexC_any _ _ (begB key) R.cs _ _ _ _ (H.out.cs.step HA2.out) (fun _ _=>rfl) fun x wr hb=>beg1_any x _ key wr (((HB.out.step hb).cell 0))).mono ?_
 rintro e w1 ⟨rfl,hb1⟩
 go_wp2_with fail
 go_ret
 exact⟨rfl,HA2.out.step' hb1⟩
theorem flat_setj{α:Type}{rec:α→List Value}{s:Nat}(hs:∀a,(rec a).length=s):∀{xs:List α} {i j:Nat} {a a':α} {v:Value},xs[i]?=some a→j<s→(rec a).set j v=rec a'→(flat rec xs).set (i*s+j) v=flat rec (xs.set i a'):=by
 intro xs
 induction xs with
 | nil=>intro i j a a' v h;simp at h
 | cons b l ih=>
  intro i j a a' v h1 hj h2
  have e:∀(y:α) (t:List α),flat rec (y::t)=rec y++flat rec t:=fun _ _=>rfl
  cases i with
  | zero=>
   simp at h1
   subst h1
   rw[Nat.zero_mul,Nat.zero_add,List.set_cons_zero,e,e,List.set_append_left _ _ (by rw[hs];exact hj),h2]
  | succ i=>
   rw[List.set_cons_succ,e,e,List.set_append_right _ _ (by rw[hs,Nat.add_mul];omega),hs,show(i+1)*s+j-s=i*s+j by rw[Nat.add_mul];omega,ih (by simpa using h1) hj h2]
theorem own_set{w:World}{base:Nat}{e:TypeId}{size n c g:Nat}{xs:List Value}(h:w.ownsRow base e size (.slice (some ⟨g,0,none⟩) n c) n xs)(k:Nat)(u:Value):
 (w.setCell ⟨g,k,none⟩ u).ownsRow base e size (.slice (some ⟨g,0,none⟩) n c) n (xs.set k u):=by
 refine⟨by rw[List.length_set];exact h.1,?_⟩
 rcases h.2 with⟨h1,_⟩|⟨g',cap,cur,hv,hg,hh,hnc,hm,hsz,htk⟩
 ·cases h1
 ·injection hv with h1 h2 h3
  injection h1 with h1
  injection h1 with h1
  subst h1 h3
  have hb:Blk w g e cur:=hh
  refine .inr ⟨g,c,cur.setIfInBounds k u,rfl,hg,hb.set_ k u,hnc,hm,by simpa using hsz,?_⟩
  rw[Array.toList_setIfInBounds,List.take_set,htk]
theorem own_cell{w:World}{base:Nat}{e:TypeId}{size n c g:Nat}{xs:List Value}(h:w.ownsRow base e size (.slice (some ⟨g,0,none⟩) n c) n xs){k:Nat}{u:Value}(hk:xs[k]?=some u):w.cell? ⟨g,k,none⟩=some u∧w.frozen? ⟨g,k,none⟩=false:=by
 have:=h.cells (g:=g) rfl k u hk
 rw[addr_add,Nat.zero_add] at this
 refine⟨this,?_⟩
 rcases h.2 with⟨h1,_⟩|⟨g',cap,cur,hv,hg,hh,_⟩
 ·cases h1
 ·injection hv with h1
  injection h1 with h1
  injection h1 with h1
  subst h1
  exact Blk.frozen (t:=e) (cs:=cur) hh k
theorem own_mono{w:World}{base base':Nat}{e:TypeId}{size n:Nat}{v:Value}{xs:List Value}(h:w.ownsRow base e size v n xs)(hb:base'≤base):w.ownsRow base' e size v n xs:=by
 refine⟨h.1,?_⟩
 rcases h.2 with h2|⟨g,cap,cur,hv,hg,hr⟩
 ·exact .inl h2
 ·exact .inr ⟨g,cap,cur,hv,by omega,hr⟩
theorem own_far{w:World}{base:Nat}{e:TypeId}{size n:Nat}{v:Value}{xs:List Value}(h:w.ownsRow base e size v n xs){p:Addr}(hp:v.ownBlock≠some p.block)(u:Value):(w.setCell p u).ownsRow base e size v n xs:=
 own_keep h fun g hg=>Below.heap_setCell w p u g (fun e=>hp (by rw[←e];exact hg))
structure STF(F:Nat→Prop)(w:World)(A:Option Addr)(n c:Nat)(l:List ByteArray):Prop where
 st:ST w A n c l
 blk:0<n→∀b off,A=some ⟨b,off,none⟩→F b
theorem ST.keep{w w':World}{A:Option Addr}{n c:Nat}{l:List ByteArray}(h:ST w A n c l)(hs:w.heap.size≤w'.heap.size)(hk:0<n→∀b off,A=some ⟨b,off,none⟩→w'.heap[b]?=w.heap[b]?):ST w' A n c l:=by
 refine⟨⟨h.sr.ln,h.sr.lc,fun hn=>?_⟩,h.sz,h.el⟩
 obtain⟨b,off,h1,h2,h3⟩:=h.sr.el hn
 exact⟨b,off,h1,by omega,fun i a hi j v hj=>(World.cell?_of_block (w:=w) (a:=⟨b,off+i*1+j,none⟩) (hk hn b off h1)).trans (h3 i a hi j v hj)⟩
theorem STF.keep{F G:Nat→Prop}{w w':World}{A:Option Addr}{n c:Nat}{l:List ByteArray}(h:STF F w A n c l)(hs:w.heap.size≤w'.heap.size)(hk:∀b,F b→b<w.heap.size→G b∧w'.heap[b]?=w.heap[b]?):STF G w' A n c l:=by
 have hlt:0<n→∀b off,A=some ⟨b,off,none⟩→b<w.heap.size:=by
  intro hn b off e
  obtain⟨b',off',h1,h2,_⟩:=h.st.sr.el hn
  rw[e] at h1
  cases h1
  exact h2
 exact⟨h.st.keep hs fun hn b off e=>(hk b (h.blk hn b off e) (hlt hn b off e)).2,fun hn b off e=>(hk b (h.blk hn b off e) (hlt hn b off e)).1⟩
structure ORF(F:Nat→Prop)(w:World)(o:OC)(q:Od):Prop where
 d:o.d=q.d
 st:STF F w o.A o.n o.c q.p
theorem ORF.keep{F G:Nat→Prop}{w w':World}{o:OC}{q:Od}(h:ORF F w o q)(hs:w.heap.size≤w'.heap.size)(hk:∀b,F b→b<w.heap.size→G b∧w'.heap[b]?=w.heap[b]?):ORF G w' o q:=⟨h.d,h.st.keep hs hk⟩
def KSF(F:Nat→Prop)(w:World)(A:Option Addr)(n c:Nat)(ks:List Od):Prop:=
 ∃os:List OC,SR 2 recO w A n c os∧n*32≤reach∧os.length=ks.length∧(0<n→∀b off,A=some ⟨b,off,none⟩→F b)∧∀(i:Nat) (o:OC) (q:Od),os[i]?=some o→ks[i]?=some q→ORF F w o q
theorem KSF.ks{F:Nat→Prop}{w:World}{A:Option Addr}{n c:Nat}{ks:List Od}(h:KSF F w A n c ks):KS w A n c ks:=by
 obtain⟨os,h1,h2,h3,h4,h5⟩:=h
 exact⟨os,h1,h2,h3,fun i o q hi hq=>⟨(h5 i o q hi hq).d,(h5 i o q hi hq).st.st⟩⟩
theorem KSF.keep{F G:Nat→Prop}{w w':World}{A:Option Addr}{n c:Nat}{ks:List Od}(h:KSF F w A n c ks)(hs:w.heap.size≤w'.heap.size)(hk:∀b,F b→b<w.heap.size→G b∧w'.heap[b]?=w.heap[b]?):KSF G w' A n c ks:=by
 obtain⟨os,h1,h2,h3,h4,h5⟩:=h
 have hlt:0<n→∀b off,A=some ⟨b,off,none⟩→b<w.heap.size:=by
  intro hn b off e
  obtain⟨b',off',k1,k2,_⟩:=h1.el hn
  rw[e] at k1
  cases k1
  exact k2
 refine⟨os,⟨h1.ln,h1.lc,fun hn=>?_⟩,h2,h3,fun hn b off e=>(hk b (h4 hn b off e) (hlt hn b off e)).1,fun i o q hi hq=>(h5 i o q hi hq).keep hs hk⟩
 obtain⟨b,off,k1,k2,k3⟩:=h1.el hn
 exact⟨b,off,k1,by omega,fun i a hi j v hj=>(World.cell?_of_block (w:=w) (a:=⟨b,off+i*2+j,none⟩) (hk b (h4 hn b off k1) k2).2).trans (k3 i a hi j v hj)⟩
theorem KS.toF{w:World}{A:Option Addr}{n c:Nat}{ks:List Od}(h:KS w A n c ks):KSF (fun b=>b<w.heap.size) w A n c ks:=by
 obtain⟨os,h⟩:=h
 refine⟨os,h.sr,h.sz,h.ln,fun hn b off e=>?_,fun i o q hi hq=>⟨(h.el i o q hi hq).d,(h.el i o q hi hq).st,fun hn b off e=>?_⟩⟩
 ·obtain⟨b',off',k1,k2,_⟩:=h.sr.el hn
  rw[e] at k1
  cases k1
  exact k2
 ·obtain⟨b',off',k1,k2,_⟩:=(h.el i o q hi hq).st.sr.el hn
  rw[e] at k1
  cases k1
  exact k2
abbrev setR(w:World)(g:Nat)(a:RA)(R:Ro):World:=
 (((((w.setCell ⟨g,0,none⟩ (.string R.sp)).setCell ⟨g,1,none⟩ (.slice a.KA a.kn a.kc)).setCell ⟨g,2,none⟩ (.bool R.ha)).setCell ⟨g,3,none⟩ (.int .i64 R.ep)).setCell ⟨g,4,none⟩ (.int .i64 R.ver)).setCell ⟨g,5,none⟩ (.slice a.CA a.cn a.cc)
theorem Blk.putR{w:World}{g:Nat}{t:TypeId}{a b:RA}{R S:Ro}(h:Blk w g t (rarr b S)):Blk (setR w g a R) g t (rarr a R):=(((((h.set_ 0 _).set_ 1 _).set_ 2 _).set_ 3 _).set_ 4 _).set_ 5 _
theorem heap_setR(w:World)(g:Nat)(a:RA)(R:Ro)(b:Nat)(h:b≠g):(setR w g a R).heap[b]?=w.heap[b]?:=by
 unfold setR
 iterate 6 rw[Below.heap_setCell _ _ _ b h]
theorem size_setR(w:World)(g:Nat)(a:RA)(R:Ro):(setR w g a R).heap.size=w.heap.size:=by simp[setR,World.setCell]
theorem below_setR{B:Nat}{a0 w:World}(h:Below B a0 w){g:Nat}(hB:B≤g)(a:RA)(R:Ro):Below B a0 (setR w g a R):=
 (((((h.setCell hB _).setCell hB _).setCell hB _).setCell hB _).setCell hB _).setCell hB _
theorem load_ro(g:Nat)(a:RA)(R:Ro)(W:World)(q:Blk W g 27 (rarr a R)):(loadVar 27 ⟨g,0,none⟩).run Tryz.prog W=.ok (rval a R) W:=by
 have q0:=q.cell 0
 have q1:=q.cell 1
 have q2:=q.cell 2
 have q3:=q.cell 3
 have q4:=q.cell 4
 have q5:=q.cell 5
 simp at q0 q1 q2 q3 q4 q5
 simp[go_sem,q0,q1,q2,q3,q4,q5]
theorem results_ro{fn:Func}{p:Tmp}(h:fn.results=#[.cell p 27])(tmps:Array Value)(g1:Nat)(h1:tmps[p]?.getD undef=.pointer (some ⟨g1,0,none⟩))(W:World)(a:RA)(R:Ro)(q:Blk W g1 27 (rarr a R)):
 (results fn tmps).run Tryz.prog W=.ok (rval a R) W:=by
 have:=load_ro g1 a R W q
 simp[results,h,h1,asAddr,this]
theorem results_ro_err{fn:Func}{p u:Tmp}(h:fn.results=#[.cell p 27,.tmp u])(tmps:Array Value)(g1:Nat)(h1:tmps.getD p undef=.pointer (some ⟨g1,0,none⟩))(e:Value)(h2:tmps.getD u undef=e)(W:World)(a:RA)(R:Ro)(q:Blk W g1 27 (rarr a R)):(results fn tmps).run Tryz.prog W=.ok (.tuple #[rval a R,e]) W:=by
 rw[results_cell_tmp h,h1,h2]
 simp[asAddr,load_ro g1 a R W q]
structure Cpy(B:Nat)(w:World)(a:RA)(R:Ro)(A:Option Addr)(c:Nat)(os:List OC)(wr:World):Prop where
 b0:Blk wr w.heap.size 27 (rarr ⟨A,a.kn,c,a.CA,a.cn,a.cc⟩ R)
 b1:Blk wr (w.heap.size+1) 27 (rarr RA.zero Ro.zero)
 own:wr.ownsRow (w.heap.size+2) 93 2 (.slice A a.kn c) a.kn (flat recO os)
 ln:os.length=a.kn
 el:∀(i:Nat) (o:OC) (q:Od),os[i]?=some o→R.ks[i]?=some q→ORF (fun b=>(b<B∨w.heap.size+2≤b)∧(Value.slice A a.kn c).ownBlock≠some b) wr o q
 bel:Below w.heap.size w wr
theorem Cpy.step{B:Nat}{w wr w1:World}{a:RA}{R:Ro}{A:Option Addr}{c:Nat}{os:List OC}(h:Cpy B w a R A c os wr)(hb:Below wr.heap.size wr w1):Cpy B w a R A c os w1:=
 ⟨h.b0.step hb,h.b1.step hb,own_step h.own hb,h.ln,fun i o q hi hq=>(h.el i o q hi hq).keep hb.size fun b hF hlt=>⟨hF,hb.block b hlt⟩,h.bel.step' hb⟩
theorem Cpy.next{B:Nat}{w wr:World}{a:RA}{R:Ro}{g c:Nat}{os:List OC}(h:Cpy B w a R (some ⟨g,0,none⟩) c os wr){i:Nat}{o:OC}{q:Od}(hi:os[i]?=some o)(hq:R.ks[i]?=some q){A:Option Addr}{n k:Nat}(hst:STF (fun b=>w.heap.size+2≤b∧b≠g) wr A n k q.p):Cpy B w a R (some ⟨g,0,none⟩) c (os.set i ⟨A,n,k,o.d⟩) (wr.setCell ⟨g,i*2,none⟩ (.slice A n k)):=by
 have hg:w.heap.size+2≤g:=own_ge h.own g rfl
 have hown:=own_set h.own (i*2) (.slice A n k)
 rw[show i*2=i*2+0 by rfl,flat_setj recO_length hi (by omega) (a':=⟨A,n,k,o.d⟩) rfl] at hown
 refine⟨h.b0.far (by show w.heap.size≠g;omega) _,h.b1.far (by show w.heap.size+1≠g;omega) _,hown,by rw[List.length_set];exact h.ln,fun j o' q' hj hq'=>?_,h.bel.setCell (by show w.heap.size≤g;omega) _⟩
 rw[List.getElem?_set] at hj
 split at hj
 ·rename_i e
  subst e
  split at hj
  ·injection hj with hj
   subst hj
   rw[hq] at hq'
   injection hq' with hq'
   subst hq'
   exact⟨(h.el i o q hi hq).d,hst.keep (by simp[World.setCell]) fun b hF _=>⟨⟨.inr hF.1,by simp[Value.ownBlock];exact fun e=>hF.2 e.symm⟩,Below.heap_setCell _ _ _ b hF.2⟩⟩
  ·cases hj
 ·exact(h.el j o' q' hj hq').keep (by simp[World.setCell]) fun b hF _=>⟨hF,Below.heap_setCell _ _ _ b fun e=>hF.2 (by simp[Value.ownBlock];exact e.symm)⟩
def CopOk(B:Nat)(w:World)(R:Ro)(e:Ending)(w':World):Prop:=
 ∃a:RA,e=.returned (rval a R)∧KSF (fun b=>(b<B∨w.heap.size≤b)∧(Value.slice a.CA a.cn a.cc).ownBlock≠some b) w' a.KA a.kn a.kc R.ks∧w'.ownsRow w.heap.size 81 5 (.slice a.CA a.cn a.cc) a.cn (flat recC R.cs)∧a.cn=R.cs.length∧a.cn*56≤reach∧Below w.heap.size w w'
theorem copied_any(B:Nat)(R:Ro)(a:RA)(w:World)(hB:B≤w.heap.size)(hk:KSF (fun b=>b<B) w a.KA a.kn a.kc R.ks)(hc:CS w a.CA a.cn a.cc R.cs):Calls Tryz.prog 95 #[rval a R] w (CopOk B w R):=by
 obtain⟨KA,kn,kc,CA,cn,cc⟩:=a
 have hln:=qD hk.ks.ln
 have HCS:=qD hc
 obtain⟨os,hkz,hkl,hkb,hke⟩:=hk
 obtain⟨hkz,hsr⟩:kn*32≤reach∧SR 2 recO w KA kn kc os:=⟨hkl,hkz⟩
 have hkn:kn≤140737488355328:=by unfold reach at hkz;omega
 have HSR:=qD hsr
 have HKZ:=qD hkz
 have HKL:=qD hkb
 have HKE:=qD hke.2
 clear hc hkl hkb hke hsr hkz
 have B0:Hid (Blk ((w.alloc (.cells (rarr ⟨KA,kn,kc,CA,cn,cc⟩ R) 27)).alloc (.cells (rarr RA.zero Ro.zero) 27)) w.heap.size 27 (rarr ⟨KA,kn,kc,CA,cn,cc⟩ R)):=(Blk.new_at rfl).alloc _
 have B1:Hid (Blk ((w.alloc (.cells (rarr ⟨KA,kn,kc,CA,cn,cc⟩ R) 27)).alloc (.cells (rarr RA.zero Ro.zero) 27)) (w.heap.size+1) 27 (rarr RA.zero Ro.zero)):=Blk.new_at (by simp)
 have BE:Hid (Below w.heap.size w ((w.alloc (.cells (rarr ⟨KA,kn,kc,CA,cn,cc⟩ R) 27)).alloc (.cells (rarr RA.zero Ro.zero) 27))):=((Below.refl _ _).alloc (qL) _).alloc (by simp) _
 go_enter Tryz.func95,Tryz.ntmps95
 go_upto_region 1 with fail
 change (Code.region 1 _ _).wp _ _ _ ((w.alloc (.cells (rarr ⟨KA,kn,kc,CA,cn,cc⟩ R) 27)).alloc (.cells (rarr RA.zero Ro.zero) 27))
 have hsz:((w.alloc (.cells (rarr ⟨KA,kn,kc,CA,cn,cc⟩ R) 27)).alloc (.cells (rarr RA.zero Ro.zero) 27)).heap.size=w.heap.size+2:=by simp
 generalize (w.alloc (.cells (rarr ⟨KA,kn,kc,CA,cn,cc⟩ R) 27)).alloc (.cells (rarr RA.zero Ro.zero) 27)=wa at*
 have HSZ:=qD hsz
 clear hsz
 have q1:=B0.out.cell 1
 simp at q1
 go_wp2_with fail
 refine(cloneO_any os _ _ _ _ (HSR.out.step BE.out) HKZ.out).mono ?_
 rintro e w1 ⟨v,rfl,hown,hb1⟩
 obtain⟨A1,c1,rfl,hle1⟩:=own_slice hown
 have g0:=B0.out.step hb1
 have g1:=B1.out.step hb1
 have z1:=g0.frozen 1
 have y1:=g0.cell 1
 simp at y1
 rw[HSZ.out] at hown
 have I0:Hid (Cpy B w ⟨KA,kn,kc,CA,cn,cc⟩ R A1 c1 os (w1.setCell ⟨w.heap.size,1,none⟩ (.slice A1 kn c1))):=by
  have hne:(Value.slice A1 kn c1).ownBlock≠some w.heap.size:=own_ne hown (by omega)
  refine⟨g0.set_ 1 _,g1.far (by show w.heap.size+1≠w.heap.size;omega) _,own_far hown hne _,by have:=HSR.out.ln;exact this.symm,fun i o q hi hq=>?_,(BE.out.step' hb1).setCell (qL) _⟩
  exact(HKE.out i o q hi hq).keep (by have:=(BE.out.step' hb1).size;simpa[World.setCell] using this) fun b hF _=>⟨⟨.inl hF,own_ne hown (by omega)⟩,by rw[Below.heap_setCell _ _ _ b (by show b≠w.heap.size;omega)];exact(BE.out.step' hb1).block b (by omega)⟩
 clear q1 g0 g1 hown hb1 B0 B1
 go_upto_region 2 with fail
 clear z1 y1
 generalize w1.setCell ⟨w.heap.size,1,none⟩ (.slice A1 kn c1)=w2 at*
 have q1:=I0.out.b0.cell 1
 simp at q1
 go_wp2_with fail
 clear q1
 go_loopw [14,3] (fun v14 v3 wr=>∃(i:Nat) (os':List OC),i≤kn∧v14=.int .i64 i∧Cpy B w ⟨KA,kn,kc,CA,cn,cc⟩ R A1 c1 os' wr) (fun v14 _ _=>kn-(intOf v14).toNat)
 case atStart=>exact⟨0,os,Nat.zero_le _,rfl,I0.out⟩
 case round=>
  obtain⟨i,os',hi,rfl,I⟩:=hrel
  have J:=qD I
  have hbn:w.heap.size<wr.heap.size:=I.b0.lt
  by_cases hlt:i<kn
  ·obtain⟨o,ho⟩:∃o,os'[i]?=some o:=⟨_,List.getElem?_eq_getElem (by rw[I.ln];exact hlt)⟩
   obtain⟨q,hq⟩:∃q,R.ks[i]?=some q:=⟨_,List.getElem?_eq_getElem (by have:=hln.out;omega)⟩
   obtain⟨g,cap,hv,hgb,hgl⟩:=I.own.form (by show 0<kn;omega)
   have hv:A1=some ⟨g,0,none⟩:=by injection hv
   subst hv
   have r0:=(own_cell I.own (flat_get recO_length ho (j:=0) rfl)).1
   simp only[Nat.add_zero] at r0
   have q1:=I.b0.cell 1
   simp at q1
   have HOR:=qD (I.el i o q ho hq)
   have HO:=qD ho
   have HQ:=qD hq
   have HGB:=qD hgb
   obtain⟨oA,on,oc,od⟩:=o
   simp only at r0
   have hi0:(0:Int)≤(i:Int):=by omega
   have hi1:(i:Int)<(kn:Int):=by omega
   clear ho hq hgb I
   go_upto_region 5 with fail
   go_region_law ((go_simp;go_at_call 123;refine(cloneT_any q.p _ _ _ _ (HOR.out.st.st.step ((Below.refl _ _).drewN 1)).sr HOR.out.st.st.sz).mono ?_;rintro e w3 ⟨v,rfl,hown,hb3⟩;replace hb3:Below wr.heap.size wr w3:=hb3.undrewN;replace hown:w3.ownsRow wr.heap.size 9 1 v on (flat recT q.p):=hown;obtain⟨A2,c2,hv2,hsr2⟩:=SR.of_own recT_length hown (by have:=HOR.out.st.st.sr.ln;exact this.symm);have hge:=own_ge hown;rw[hv2] at hge ⊢;have s0:=(hb3.cell (p:=⟨w.heap.size,1,none⟩) J.out.b0.lt).trans q1;have s1:=(hb3.cell (p:=⟨g,i*2,none⟩) hgl).trans r0;have LX:=qD (J.out.step hb3);have z:w3.frozen? ⟨g,i*2,none⟩=false:=(own_cell LX.out.own (flat_get recO_length HO.out (j:=0) rfl)).2;have HG:=qD hge;have HR2:=qD hsr2;clear hb3 hown hv2 hge hsr2))
   all_goals
    clear s0 s1 z q1 r0
    go_wp2_with fail
    go_roundw
    case rel=>exact⟨i+1,_,by omega,by go_num,LX.out.next HO.out HQ.out ⟨⟨HR2.out,HOR.out.st.st.sz,HOR.out.st.st.el⟩,fun hn b off e=>by have:=HG.out b (by rw[e];rfl);have:=J.out.b1.lt;exact⟨by omega,by omega⟩⟩⟩
    case measure=>simp[intOf];omega
  ·have hik:i=kn:=by omega
   have q5:=I.b0.cell 5
   simp at q5
   go_upto_region 7 with fail
   go_wp2_with fail
   refine(cloneC_any R.cs _ _ _ _ (HCS.out.sr.step I.bel) HCS.out.sz).mono ?_
   rintro e w3 ⟨v,rfl,hown,hb3⟩
   obtain⟨A3,c3,rfl,hle3⟩:=own_slice hown
   have LX:=qD (I.step hb3)
   have z5:=LX.out.b0.frozen 5
   have y5:=LX.out.b0.cell 5
   simp at y5
   have hgel:=own_ge hown
   have hbs:=I.b1.lt
   have D0:Hid (Blk (w3.setCell ⟨w.heap.size,5,none⟩ (.slice A3 cn c3)) w.heap.size 27 (rarr ⟨A1,kn,c1,A3,cn,c3⟩ R)):=LX.out.b0.set_ 5 _
   have D1:Hid (Blk (w3.setCell ⟨w.heap.size,5,none⟩ (.slice A3 cn c3)) (w.heap.size+1) 27 (rarr RA.zero Ro.zero)):=LX.out.b1.far (by show w.heap.size+1≠w.heap.size;omega) _
   have DO:=qD (own_far hown (p:=⟨w.heap.size,5,none⟩) (fun e=>by have:=hgel _ e;simp only at this;omega) (.slice A3 cn c3))
   have DB:Hid (Below w.heap.size w (w3.setCell ⟨w.heap.size,5,none⟩ (.slice A3 cn c3))):=LX.out.bel.setCell (qL) _
   have DK:Hid (KSF (fun b=>(b<B∨w.heap.size+2≤b)∧(Value.slice A3 cn c3).ownBlock≠some b) (w3.setCell ⟨w.heap.size,5,none⟩ (.slice A3 cn c3)) A1 kn c1 R.ks):=by
    have hK:KSF (fun b=>b<B∨w.heap.size+2≤b) wr A1 kn c1 R.ks:=by
     obtain⟨A',c',hv,hsr⟩:=SR.of_own recO_length I.own I.ln
     injection hv with h1 h2 h3
     subst h1 h3
     refine⟨os',hsr,HKZ.out,by rw[I.ln];exact hln.out,fun hn b off e=>?_,fun i o q hi hq=>(I.el i o q hi hq).keep (qL) fun b hF _=>⟨hF.1,rfl⟩⟩
     have:=own_ge I.own b (by rw[e];rfl)
     omega
    exact hK.keep (by have:=hb3.size;simpa using this) fun b hF hlt=>⟨⟨hF,fun e=>by have:=hgel _ e;omega⟩,by rw[Below.heap_setCell _ _ _ b (by show b≠w.heap.size;omega)];exact hb3.block b hlt⟩
   clear q5 hown hb3 hle3 I J hgel
   go_upto_region 8 with fail
   clear z5 y5
   generalize w3.setCell ⟨w.heap.size,5,none⟩ (.slice A3 cn c3)=w4 at*
   have q0:=D0.out.cell 0
   have q1:=D0.out.cell 1
   have q2:=D0.out.cell 2
   have q3:=D0.out.cell 3
   have q4:=D0.out.cell 4
   have q5:=D0.out.cell 5
   have r0:=D1.out.cell 0
   have r1:=D1.out.cell 1
   have r2:=D1.out.cell 2
   have r3:=D1.out.cell 3
   have r4:=D1.out.cell 4
   have r5:=D1.out.cell 5
   have z:=D1.out.frozen
   simp at q0 q1 q2 q3 q4 q5 r0 r1 r2 r3 r4 r5
   have E0:=qD (D1.out.putR (a:=⟨A1,kn,c1,A3,cn,c3⟩) (R:=R))
   have E1:Hid (KSF (fun b=>(b<B∨w.heap.size≤b)∧(Value.slice A3 cn c3).ownBlock≠some b) (setR w4 (w.heap.size+1) ⟨A1,kn,c1,A3,cn,c3⟩ R) A1 kn c1 R.ks):=
    DK.out.keep (by rw[size_setR];exact qL) fun b hF _=>⟨⟨by omega,hF.2⟩,heap_setR _ _ _ _ b (by omega)⟩
   have E2:Hid ((setR w4 (w.heap.size+1) ⟨A1,kn,c1,A3,cn,c3⟩ R).ownsRow w.heap.size 81 5 (.slice A3 cn c3) cn (flat recC R.cs)):=
    own_mono (own_keep DO.out fun g hg=>heap_setR _ _ _ _ g (by have:=own_ge DO.out g hg;omega)) (by omega)
   have E3:Hid (Below w.heap.size w (setR w4 (w.heap.size+1) ⟨A1,kn,c1,A3,cn,c3⟩ R)):=below_setR DB.out (by omega) _ _
   clear DK DO DB D0 D1
   go_wp2_with fail
   clear q0 q1 q2 q3 q4 q5 r0 r1 r2 r3 r4 r5 z
   refine bodyPost_ret (results_ro rfl _ (w.heap.size+1) rfl _ ⟨A1,kn,c1,A3,cn,c3⟩ R E0.out) rfl ?_
   exact⟨⟨A1,kn,c1,A3,cn,c3⟩,rfl,E1.out,E2.out,HCS.out.ln,HCS.out.sz,E3.out⟩
def Ro.nx(R:Ro):Ro:=⟨R.sp,R.ks,R.ha,R.ep,Go.Proofs.YtlicnjecnehaoaaGreatDoor.nx R.ver,R.cs⟩
theorem changed_any(B:Nat)(R:Ro)(a:RA)(w:World)(hB:B≤w.heap.size)(hk:KSF (fun b=>b<B) w a.KA a.kn a.kc R.ks)(hc:CS w a.CA a.cn a.cc R.cs):Calls Tryz.prog 62 #[rval a R] w (CopOk B w R.nx):=by
 obtain⟨KA,kn,kc,CA,cn,cc⟩:=a
 have HK:=qD hk
 have HC:=qD hc
 clear hk hc
 have B0:Hid (Blk ((w.alloc (.cells (rarr ⟨KA,kn,kc,CA,cn,cc⟩ R) 27)).alloc (.cells (rarr RA.zero Ro.zero) 27)) w.heap.size 27 (rarr ⟨KA,kn,kc,CA,cn,cc⟩ R)):=(Blk.new_at rfl).alloc _
 have B1:Hid (Blk ((w.alloc (.cells (rarr ⟨KA,kn,kc,CA,cn,cc⟩ R) 27)).alloc (.cells (rarr RA.zero Ro.zero) 27)) (w.heap.size+1) 27 (rarr RA.zero Ro.zero)):=Blk.new_at (by simp)
 have BE:Hid (Below w.heap.size w ((w.alloc (.cells (rarr ⟨KA,kn,kc,CA,cn,cc⟩ R) 27)).alloc (.cells (rarr RA.zero Ro.zero) 27))):=((Below.refl _ _).alloc (qL) _).alloc (by simp) _
 go_enter Tryz.func62,Tryz.ntmps62
 go_upto_region 1 with fail
 change (Code.region 1 _ _).wp _ _ _ ((w.alloc (.cells (rarr ⟨KA,kn,kc,CA,cn,cc⟩ R) 27)).alloc (.cells (rarr RA.zero Ro.zero) 27))
 have hsz:((w.alloc (.cells (rarr ⟨KA,kn,kc,CA,cn,cc⟩ R) 27)).alloc (.cells (rarr RA.zero Ro.zero) 27)).heap.size=w.heap.size+2:=by simp
 generalize (w.alloc (.cells (rarr ⟨KA,kn,kc,CA,cn,cc⟩ R) 27)).alloc (.cells (rarr RA.zero Ro.zero) 27)=wa at*
 have HSZ:=qD hsz
 clear hsz
 have q0:=B0.out.cell 0
 have q1:=B0.out.cell 1
 have q2:=B0.out.cell 2
 have q3:=B0.out.cell 3
 have q4:=B0.out.cell 4
 have q5:=B0.out.cell 5
 simp at q0 q1 q2 q3 q4 q5
 go_wp2_with fail
 clear q0 q1 q2 q3 q4 q5
 refine(copied_any B R ⟨KA,kn,kc,CA,cn,cc⟩ wa (by have:=HSZ.out;omega) (HK.out.keep (by have:=HSZ.out;omega) fun b hF hlt=>⟨hF,BE.out.block b hlt⟩) (HC.out.step BE.out)).mono ?_
 rintro e w1 ⟨⟨KA',kn',kc',CA',cn',cc'⟩,rfl,hks,hown,hln,hcz,hb1⟩
 rw[HSZ.out] at hks hown hb1
 have HLN:=qD hln
 have HCZ:=qD hcz
 clear hln hcz
 have g0:=B0.out.below hb1 (by omega)
 have g1:=B1.out.below hb1 (by omega)
 have z:=g0.frozen
 obtain⟨y0,y1,y2,y3,y4,y5⟩:w1.cell? ⟨w.heap.size,0,none⟩=some (.string R.sp)∧w1.cell? ⟨w.heap.size,1,none⟩=some (.slice KA kn kc)∧w1.cell? ⟨w.heap.size,2,none⟩=some (.bool R.ha)∧w1.cell? ⟨w.heap.size,3,none⟩=some (.int .i64 R.ep)∧w1.cell? ⟨w.heap.size,4,none⟩=some (.int .i64 R.ver)∧w1.cell? ⟨w.heap.size,5,none⟩=some (.slice CA cn cc):=by
  refine⟨?_,?_,?_,?_,?_,?_⟩<;>rw[g0.cell]<;>rfl
 have hgel:=own_ge hown
 have D0:Hid (Blk ((setR w1 w.heap.size ⟨KA',kn',kc',CA',cn',cc'⟩ R).setCell ⟨w.heap.size,4,none⟩ (.int .i64 (nx R.ver))) w.heap.size 27 (rarr ⟨KA',kn',kc',CA',cn',cc'⟩ R.nx)):=(g0.putR (a:=⟨KA',kn',kc',CA',cn',cc'⟩) (R:=R)).set_ 4 _
 have hpt:∀b,b≠w.heap.size→((setR w1 w.heap.size ⟨KA',kn',kc',CA',cn',cc'⟩ R).setCell ⟨w.heap.size,4,none⟩ (.int .i64 (nx R.ver))).heap[b]?=w1.heap[b]?:=fun b h=>by
  rw[Below.heap_setCell _ _ _ b h];exact heap_setR _ _ _ _ b h
 have hps:((setR w1 w.heap.size ⟨KA',kn',kc',CA',cn',cc'⟩ R).setCell ⟨w.heap.size,4,none⟩ (.int .i64 (nx R.ver))).heap.size=w1.heap.size:=by simp
 have D1:Hid (Blk ((setR w1 w.heap.size ⟨KA',kn',kc',CA',cn',cc'⟩ R).setCell ⟨w.heap.size,4,none⟩ (.int .i64 (nx R.ver))) (w.heap.size+1) 27 (rarr RA.zero Ro.zero)):=(hpt _ (by omega)).trans g1
 have DO:=qD (own_keep hown fun g hg=>hpt g (by have:=hgel g hg;omega))
 have DB:Hid (Below w.heap.size w ((setR w1 w.heap.size ⟨KA',kn',kc',CA',cn',cc'⟩ R).setCell ⟨w.heap.size,4,none⟩ (.int .i64 (nx R.ver)))):=(below_setR (BE.out.trans (hb1.mono (by omega))) (qL) _ _).setCell (qL) _
 have DK:=qD (hks.keep (G:=fun b=>(b<B∨w.heap.size+2≤b)∧(Value.slice CA' cn' cc').ownBlock≠some b) (by rw[hps];exact qL) fun b hF _=>⟨hF,hpt b (by have:=hF.1;omega)⟩)
 clear g0 g1 hks hown hb1 hpt hps hgel HK HC B0 B1 BE
 go_upto_region 2 with fail
 go_upto_region 3 with fail
 clear y0 y1 y2 y3 y4 y5 z
 change (Code.region 3 _ _).wp _ _ _ ((setR w1 w.heap.size ⟨KA',kn',kc',CA',cn',cc'⟩ R).setCell ⟨w.heap.size,4,none⟩ (.int .i64 (nx R.ver)))
 generalize (setR w1 w.heap.size ⟨KA',kn',kc',CA',cn',cc'⟩ R).setCell ⟨w.heap.size,4,none⟩ (.int .i64 (nx R.ver))=w4 at*
 have q0:=D0.out.cell 0
 have q1:=D0.out.cell 1
 have q2:=D0.out.cell 2
 have q3:=D0.out.cell 3
 have q4:=D0.out.cell 4
 have q5:=D0.out.cell 5
 have r0:=D1.out.cell 0
 have r1:=D1.out.cell 1
 have r2:=D1.out.cell 2
 have r3:=D1.out.cell 3
 have r4:=D1.out.cell 4
 have r5:=D1.out.cell 5
 have z:=D1.out.frozen
 simp at q0 q1 q2 q3 q4 q5 r0 r1 r2 r3 r4 r5
 have E0:=qD (D1.out.putR (a:=⟨KA',kn',kc',CA',cn',cc'⟩) (R:=R.nx))
 have E1:Hid (KSF (fun b=>(b<B∨w.heap.size≤b)∧(Value.slice CA' cn' cc').ownBlock≠some b) (setR w4 (w.heap.size+1) ⟨KA',kn',kc',CA',cn',cc'⟩ R.nx) KA' kn' kc' R.ks):=
  DK.out.keep (by rw[size_setR];exact qL) fun b hF _=>⟨⟨by omega,hF.2⟩,heap_setR _ _ _ _ b (by omega)⟩
 have E2:Hid ((setR w4 (w.heap.size+1) ⟨KA',kn',kc',CA',cn',cc'⟩ R.nx).ownsRow w.heap.size 81 5 (.slice CA' cn' cc') cn' (flat recC R.cs)):=
  own_mono (own_keep DO.out fun g hg=>heap_setR _ _ _ _ g (by have:=own_ge DO.out g hg;omega)) (by omega)
 have E3:Hid (Below w.heap.size w (setR w4 (w.heap.size+1) ⟨KA',kn',kc',CA',cn',cc'⟩ R.nx)):=below_setR DB.out (by omega) _ _
 clear DK DO DB D0 D1
 go_wp2_with fail
 clear q0 q1 q2 q3 q4 q5 r0 r1 r2 r3 r4 r5 z
 refine bodyPost_ret (results_ro rfl _ (w.heap.size+1) rfl _ ⟨KA',kn',kc',CA',cn',cc'⟩ R.nx E0.out) rfl ?_
 exact⟨⟨KA',kn',kc',CA',cn',cc'⟩,rfl,E1.out,E2.out,HLN.out,HCZ.out,E3.out⟩
theorem own_blk{w:World}{base:Nat}{e:TypeId}{s n c g:Nat}{xs:List Value}(h:w.ownsRow base e s (.slice (some ⟨g,0,none⟩) n c) n xs):
 ∃R:List Value,Blk w g e (xs++R).toArray∧(xs++R).length=c*s∧n≤c∧c≤maxLen∧base≤g:=by
 rcases h.2 with⟨h1,_⟩|⟨g',cap,cur,hv,hg,hh,hnc,hm,hsz,htk⟩
 ·cases h1
 ·injection hv with h1 h2 h3
  injection h1 with h1
  injection h1 with h1
  subst h1 h3
  refine⟨cur.toList.drop (n*s),?_,?_,hnc,hm,hg⟩
  ·rw[←htk,List.take_append_drop]
   exact hh
  ·rw[←htk,List.take_append_drop]
   simpa using hsz
theorem KS.toB{w w':World}{A:Option Addr}{n c:Nat}{ks:List Od}(h:KS w A n c ks)(hb:Below w.heap.size w w'):KSF (fun b=>b<w.heap.size) w' A n c ks:=
 h.toF.keep hb.size fun b hF hlt=>⟨hF,hb.block b hlt⟩
theorem KSF.lt{F:Nat→Prop}{w:World}{A:Option Addr}{n c:Nat}{ks:List Od}(h:KSF F w A n c ks):KSF (fun b=>F b∧b<w.heap.size) w A n c ks:=
 h.keep (qL) fun _ hF hlt=>⟨⟨hF,hlt⟩,rfl⟩
structure Vr(B lo hi N:Nat)(w:World)(a:RA)(R:Ro)(cs:List Ch)(wr:World):Prop where
 b0:Blk wr N 27 (rarr a R)
 own:wr.ownsRow lo 81 5 (.slice a.CA a.cn a.cc) a.cn (flat recC cs)
 og:∀g,(Value.slice a.CA a.cn a.cc).ownBlock=some g→g<hi
 ks:KSF (fun b=>((b<B∨lo≤b)∧b<hi)∧(Value.slice a.CA a.cn a.cc).ownBlock≠some b) wr a.KA a.kn a.kc R.ks
 ln:a.cn=cs.length
 sz:a.cn*56≤reach
 bel:Below B w wr
 hn:B≤N∧N<lo∧lo≤hi∧hi≤wr.heap.size
section
variable {B lo hi N:Nat} {w wr w1:World} {a:RA} {R:Ro} {cs:List Ch}
theorem Vr.step(h:Vr B lo hi N w a R cs wr)(hb:Below wr.heap.size wr w1):Vr B lo hi N w a R cs w1:=
 ⟨h.b0.step hb,own_step h.own hb,h.og,h.ks.keep hb.size fun b hF hlt=>⟨hF,hb.block b hlt⟩,h.ln,h.sz,h.bel.trans (hb.mono (by have:=h.hn;omega)),⟨h.hn.1,h.hn.2.1,h.hn.2.2.1,Nat.le_trans h.hn.2.2.2 hb.size⟩⟩
theorem Vr.of{a0:RA}{R0:Ro}(h0:Blk w1 N 27 (rarr a0 R0))(hN:B≤N)(hNl:N<lo)(hks:KSF (fun b=>(b<B∨lo≤b)∧(Value.slice a.CA a.cn a.cc).ownBlock≠some b) w1 a.KA a.kn a.kc R.ks)(hown:w1.ownsRow lo 81 5 (.slice a.CA a.cn a.cc) a.cn (flat recC R.cs))(hln:a.cn=R.cs.length)(hsz:a.cn*56≤reach)(hlo:lo≤w1.heap.size)(hbel:Below B w w1):Vr B lo w1.heap.size N w a R R.cs (setR w1 N a R):=by
 have hge:=own_ge hown
 refine⟨h0.putR,own_keep hown fun g hg=>heap_setR _ _ _ _ g (by have:=hge g hg;omega),fun g hg=>own_lt hown hg,hks.lt.keep (by rw[size_setR];exact qL) fun b hF hlt=>⟨⟨⟨hF.1.1,hF.2⟩,hF.1.2⟩,heap_setR _ _ _ _ b (by have:=hF.1.1;omega)⟩,hln,hsz,below_setR hbel hN _ _,⟨hN,hNl,hlo,by rw[size_setR];exact qL⟩⟩
theorem Vr.put{g:Nat}(h:Vr B lo hi N w a R cs wr)(hg:a.CA=some ⟨g,0,none⟩){i j:Nat}{c c':Ch}{v:Value}(hi':cs[i]?=some c)(hj:j<5)(he:(recC c).set j v=recC c'):Vr B lo hi N w a R (cs.set i c') (wr.setCell ⟨g,i*5+j,none⟩ v):=by
 obtain⟨KA,kn,kc,CA,cn,cc⟩:=a
 simp only at hg
 subst hg
 have hge:=own_ge h.own g rfl
 have ho:=own_set h.own (i*5+j) v
 rw[flat_setj recC_length hi' hj he] at ho
 refine⟨h.b0.far (by show N≠g;have:=h.hn;omega) _,ho,h.og,h.ks.keep (by simp[World.setCell]) fun b hF _=>⟨hF,Below.heap_setCell _ _ _ b (by show b≠g;intro e;exact hF.2 (by rw[e];rfl))⟩,by rw[List.length_set];exact h.ln,h.sz,h.bel.setCell (by show B≤g;have:=h.hn;omega) _,?_⟩
 have:=h.hn
 simpa using this
theorem Vr.get(h:Vr B lo hi N w a R cs wr){i:Nat}{c:Ch}(hi':cs[i]?=some c):∃g,a.CA=some ⟨g,0,none⟩∧lo≤g∧g<hi∧∀j v,(recC c)[j]?=some v→wr.cell? ⟨g,i*5+j,none⟩=some v∧wr.frozen? ⟨g,i*5+j,none⟩=false:=by
 obtain⟨KA,kn,kc,CA,cn,cc⟩:=a
 have hl:i<cs.length:=(List.getElem?_eq_some_iff.1 hi').1
 have hln:cn=cs.length:=h.ln
 obtain⟨g,cap,hv,hge,_⟩:=h.own.form (by show 0<cn;omega)
 have hv2:CA=some ⟨g,0,none⟩:=by injection hv
 subst hv2
 exact⟨g,rfl,hge,h.og g rfl,fun j v hv=>own_cell h.own (flat_get recC_length hi' hv)⟩
end
theorem change_end{B lo g1:Nat}{w wr:World}{a b:RA}{R S:Ro}(hB:B=w.heap.size)(h1:Blk wr g1 27 (rarr b S))(hg:B≤g1)(hgl:g1<lo)(hsp:R.sp.size≤reach)(hks:KSF (fun b=>b<B∨lo≤b) wr a.KA a.kn a.kc R.ks)(hown:wr.ownsRow lo 81 5 (.slice a.CA a.cn a.cc) a.cn (flat recC R.cs))(hln:a.cn=R.cs.length)(hsz:a.cn*56≤reach)(hbel:Below B w wr):
 RouOk (R,0) w (.returned (.tuple #[rval a R,.int .i64 0])) (setR wr g1 a R)∧Blk (setR wr g1 a R) g1 27 (rarr a R):=by
 subst hB
 have ho:=own_keep hown (w':=setR wr g1 a R) fun g hg=>heap_setR _ _ _ _ g (by have:=own_ge hown g hg;omega)
 obtain⟨A',c',hv,hsr⟩:=SR.of_own recC_length ho hln.symm
 injection hv with e1 e2 e3
 subst e1 e3
 refine⟨⟨a,rfl,⟨hsp,(hks.keep (G:=fun _=>True) (by rw[size_setR];exact qL) fun b hF _=>⟨trivial,heap_setR _ _ _ _ b (by omega)⟩).ks,⟨hsr,hsz⟩⟩,below_setR hbel hg _ _⟩,h1.putR⟩
theorem change_err{g1:Nat}{w wr:World}{b:RA}{S:Ro}(n:Int)(h1:Blk wr g1 27 (rarr b S))(hg:w.heap.size≤g1)(hbel:Below w.heap.size w wr):
 RouOk (Ro.zero,n) w (.returned (.tuple #[rval RA.zero Ro.zero,.int .i64 n])) (setR wr g1 RA.zero Ro.zero)∧Blk (setR wr g1 RA.zero Ro.zero) g1 27 (rarr RA.zero Ro.zero):=
 ⟨⟨RA.zero,rfl,RR.zero,below_setR hbel hg _ _⟩,h1.putR⟩
theorem RouOk.eq{r s:Ro×Int}{w w':World}{e:Ending}(h:r=s)(k:RouOk s w e w'):RouOk r w e w':=by rw[h];exact k
theorem set_two{cs:List Ch}{i:Nat}{c d:Ch}:(cs.set i c).set i d=cs.set i d:=by simp
theorem blk_ro{w:World}{g:Nat}{t:TypeId}{a:RA}{R:Ro}(h:Blk w g t (rarr a R)):w.cell? ⟨g,0,none⟩=some (.string R.sp)∧w.cell? ⟨g,1,none⟩=some (.slice a.KA a.kn a.kc)∧w.cell? ⟨g,2,none⟩=some (.bool R.ha)∧w.cell? ⟨g,3,none⟩=some (.int .i64 R.ep)∧w.cell? ⟨g,4,none⟩=some (.int .i64 R.ver)∧w.cell? ⟨g,5,none⟩=some (.slice a.CA a.cn a.cc)∧∀i,w.frozen? ⟨g,i,none⟩=false:=by
 refine⟨?_,?_,?_,?_,?_,?_,h.frozen⟩<;>rw[h.cell]<;>rfl
theorem cloneV_any(xs:List PV)(A:Option Addr)(n c:Nat)(w:World)(h:SR 5 recV w A n c xs)(hn:n*80≤reach):
 Calls Tryz.prog 84 #[.slice A n c] w fun e w'=>∃v,e=.returned v∧w'.ownsRow w.heap.size 45 5 v n (flat recV xs)∧Below w.heap.size w w':=by
 obtain⟨j0,hj0,hy0,hy1,hy2⟩:=info_parts info_value
 have HL:=qD h.ln
 unfold reach at hn
 cases A with
 | none=>
  have h0:n=0:=by
   rcases Nat.eq_zero_or_pos n with h0|h0
   ·exact h0
   ·obtain⟨b,off,e,_⟩:=h.el h0;cases e
  subst h0
  have HX:Hid (xs=[]):=List.eq_nil_of_length_eq_zero HL.out.symm
  clear h
  have kn:=fun(w:World)=>Lib.run_eql_slice_nil (P:=Tryz.prog) w 42 45 none 0 c 0 0 Tryz.underlying42
  go_enter Tryz.func84,Tryz.ntmps84
  go_wp2_with fail
  go_ret
  exact⟨_,rfl,by rw[HX.out];exact own_nil _ _ _ _,Below.refl _ _⟩
 | some ad=>
  have HR:=qD (h.reads recV_length (by omega))
  have hO:(w.alloc (.cells #[] 45)).ownsRow w.heap.size 45 5 (.slice (some ⟨w.heap.size,0,none⟩) 0 0) 0 []:=
   ⟨rfl,.inr ⟨w.heap.size,0,#[],rfl,qL,Blk.new_at rfl,qL,Nat.zero_le _,rfl,rfl⟩⟩
  have HO:=qD hO
  have H1:=qD (flat_one recV_one xs)
  clear h hO
  have kn:=fun(w:World)=>Lib.run_eql_slice_nil (P:=Tryz.prog) w 42 45 (some ad) n c 0 0 Tryz.underlying42
  go_enter Tryz.func84,Tryz.ntmps84
  go_wp2_with (at_builtin;refine wpList_append_any _ rfl _ _ 42 rfl w.heap.size 45 j0 VC.zero.val 5 80 Tryz.underlying42 hj0 hy0 hy1 hy2 rfl (by decide) (.slice (some ⟨w.heap.size,0,none⟩) 0 0) 0 [] rfl HO.out w.heap.size (some ad) n c (flat recV xs) rfl (HR.out.alloc (qL) _) H1.out (by unfold maxLen;omega) (by omega) (by simp) ?_)
  intro v' w2 hown hg _
  go_wp2_with fail
  go_ret
  refine⟨v',rfl,by simpa using hown,?_⟩
  exact((Below.refl w.heap.size w).alloc (qL) _).grown hg (by simp) (fun k hk=>by simp[Value.ownBlock] at hk;omega)
theorem cloneF_any(xs:List PF)(A:Option Addr)(n c:Nat)(w:World)(h:SR 6 recF w A n c xs)(hn:n*96≤reach):
 Calls Tryz.prog 85 #[.slice A n c] w fun e w'=>∃v,e=.returned v∧w'.ownsRow w.heap.size 75 6 v n (flat recF xs)∧Below w.heap.size w w':=by
 obtain⟨j0,hj0,hy0,hy1,hy2⟩:=info_parts info_field
 have HL:=qD h.ln
 unfold reach at hn
 cases A with
 | none=>
  have h0:n=0:=by
   rcases Nat.eq_zero_or_pos n with h0|h0
   ·exact h0
   ·obtain⟨b,off,e,_⟩:=h.el h0;cases e
  subst h0
  have HX:Hid (xs=[]):=List.eq_nil_of_length_eq_zero HL.out.symm
  clear h
  have kn:=fun(w:World)=>Lib.run_eql_slice_nil (P:=Tryz.prog) w 43 75 none 0 c 0 0 Tryz.underlying43
  go_enter Tryz.func85,Tryz.ntmps85
  go_wp2_with fail
  go_ret
  exact⟨_,rfl,by rw[HX.out];exact own_nil _ _ _ _,Below.refl _ _⟩
 | some ad=>
  have HR:=qD (h.reads recF_length (by omega))
  have hO:(w.alloc (.cells #[] 75)).ownsRow w.heap.size 75 6 (.slice (some ⟨w.heap.size,0,none⟩) 0 0) 0 []:=
   ⟨rfl,.inr ⟨w.heap.size,0,#[],rfl,qL,Blk.new_at rfl,qL,Nat.zero_le _,rfl,rfl⟩⟩
  have HO:=qD hO
  have H1:=qD (flat_one recF_one xs)
  clear h hO
  have kn:=fun(w:World)=>Lib.run_eql_slice_nil (P:=Tryz.prog) w 43 75 (some ad) n c 0 0 Tryz.underlying43
  go_enter Tryz.func85,Tryz.ntmps85
  go_wp2_with (at_builtin;refine wpList_append_any _ rfl _ _ 43 rfl w.heap.size 75 j0 (.agg (#[.string ByteArray.empty]++VC.zero.arr)) 6 96 Tryz.underlying43 hj0 hy0 hy1 hy2 rfl (by decide) (.slice (some ⟨w.heap.size,0,none⟩) 0 0) 0 [] rfl HO.out w.heap.size (some ad) n c (flat recF xs) rfl (HR.out.alloc (qL) _) H1.out (by unfold maxLen;omega) (by omega) (by simp) ?_)
  intro v' w2 hown hg _
  go_wp2_with fail
  go_ret
  refine⟨v',rfl,by simpa using hown,?_⟩
  exact((Below.refl w.heap.size w).alloc (qL) _).grown hg (by simp) (fun k hk=>by simp[Value.ownBlock] at hk;omega)
structure CqI(w:World)(g:Nat)(l:List Val)(i:Nat)(ps:List PV)(wr:World):Prop where
 row:∃R:List Value,Blk wr g 45 (flat recV ps++R).toArray
 len:ps.length=l.length
 el:∀(j:Nat) (p:PV),ps[j]?=some p→∃y,l[j]?=some y∧(j<i→RV (fun b=>w.heap.size≤b∧b≠g) wr p.1 y)∧(i≤j→RV (fun b=>b<w.heap.size) wr p.1 y)
theorem CqI.lt{w:World}{g:Nat}{l:List Val}{i:Nat}{ps:List PV}{wr:World}(h:CqI w g l i ps wr):g<wr.heap.size:=by
 obtain⟨R,hR⟩:=h.row
 exact hR.lt
theorem CqI.step{w:World}{g:Nat}{l:List Val}{i:Nat}{ps:List PV}{wr w':World}(h:CqI w g l i ps wr)(hb:Below wr.heap.size wr w'):CqI w g l i ps w':=by
 obtain⟨R,hR⟩:=h.row
 refine⟨⟨R,hR.step hb⟩,h.len,fun j p hp=>?_⟩
 obtain⟨y,hy,h1,h2⟩:=h.el j p hp
 exact⟨y,hy,fun hj=>(h1 hj).step hb,fun hj=>(h2 hj).step hb⟩
theorem CqI.cells{w:World}{g:Nat}{l:List Val}{i:Nat}{ps:List PV}{wr:World}(h:CqI w g l i ps wr){j:Nat}{p:PV}(hp:ps[j]?=some p){k:Nat}{v:Value}(hk:(recV p)[k]?=some v):wr.cell? ⟨g,j*5+k,none⟩=some v:=by
 obtain⟨R,hR⟩:=h.row
 rw[hR.cell]
 have h1:=flat_get recV_length hp hk
 have h2:j*5+k<(flat recV ps).length:=(List.getElem?_eq_some_iff.1 h1).1
 rw[List.getElem?_toArray,List.getElem?_append_left h2]
 exact h1
theorem CqI.frozen{w:World}{g:Nat}{l:List Val}{i:Nat}{ps:List PV}{wr:World}(h:CqI w g l i ps wr)(k:Nat):wr.frozen? ⟨g,k,none⟩=false:=by
 obtain⟨R,hR⟩:=h.row
 exact hR.frozen k
theorem CqI.put{w:World}{g:Nat}{l:List Val}{i:Nat}{ps:List PV}{wr:World}{c':VC}{p:PV}{y:Val}(h:CqI w g l i ps wr)(hp:ps[i]?=some p)(hy:l[i]?=some y)(hg:w.heap.size≤g)(hr:RV (fun b=>w.heap.size≤b∧b≠g) wr c' y):
 CqI w g l (i+1) (ps.set i (c',y)) (setV wr g (i*5) c'):=by
 have hi:i<ps.length:=(List.getElem?_eq_some_iff.1 hp).1
 obtain⟨R,hR⟩:=h.row
 refine⟨⟨R,?_⟩,by rw[List.length_set];exact h.len,fun j q hq=>?_⟩
 ·have h1:Blk (wr.setCells g (i*5) c'.list) g 45 (setList (flat recV ps++R) (i*5) c'.list).toArray:=hR.setCells c'.list (i*5)
  have hf:(flat recV ps).length=ps.length*5:=flat_length recV_length ps
  have hm:(i+1)*5≤ps.length*5:=Nat.mul_le_mul_right _ hi
  have e1:setList (flat recV ps++R) (i*5) c'.list=flat recV (ps.set i (c',y))++R:=by
   rw[setList_eq _ _ _ (by rw[List.length_append,hf];simp[VC.list];omega)]
   have e2:(flat recV ps++R).take (i*5)=flat recV (ps.take i):=by
    rw[List.take_append_of_le_length (by rw[hf];omega)]
    exact flat_take recV_length ps i
   have e3:(flat recV ps++R).drop (i*5+c'.list.length)=flat recV (ps.drop (i+1))++R:=by
    rw[show i*5+c'.list.length=(i+1)*5 by simp[VC.list];omega,List.drop_append_of_le_length (by rw[hf];exact hm),flat_drop recV_length]
   rw[e2,e3,List.set_eq_take_append_cons_drop,if_pos hi,flat_append]
   have e4:flat recV ((c',y)::ps.drop (i+1))=recV (c',y)++flat recV (ps.drop (i+1)):=rfl
   rw[e4]
   simp[recV]
  rw[←e1]
  exact h1
 ·have keep:∀{G:Nat→Prop} {e:VC} {z:Val},RV G wr e z→(∀b,G b→b≠g)→RV G (setV wr g (i*5) c') e z:=fun hz hG=>hz.keep fun b hb=>heap_setV (hG b hb)
  by_cases hj:j=i
  ·subst hj
   rw[List.getElem?_set_self hi] at hq
   cases hq
   skip
   exact⟨y,hy,fun _=>keep hr fun b hb=>hb.2,fun h'=>by omega⟩
  ·rw[List.getElem?_set_ne (fun e=>hj e.symm)] at hq
   obtain⟨z,hz,h1,h2⟩:=h.el j q hq
   exact⟨z,hz,fun h'=>keep (h1 (by omega)) fun b hb=>hb.2,fun h'=>keep (h2 (by omega)) fun b hb=>by omega⟩
structure CfI(w:World)(g:Nat)(l:List Fld)(i:Nat)(ps:List PF)(wr:World):Prop where
 row:∃R:List Value,Blk wr g 75 (flat recF ps++R).toArray
 len:ps.length=l.length
 el:∀(j:Nat) (p:PF),ps[j]?=some p→∃y,l[j]?=some y∧y.s=p.2.s∧p.2.s.size≤reach∧(j<i→RV (fun b=>w.heap.size≤b∧b≠g) wr p.1 y.v)∧(i≤j→RV (fun b=>b<w.heap.size) wr p.1 y.v)
theorem CfI.lt{w:World}{g:Nat}{l:List Fld}{i:Nat}{ps:List PF}{wr:World}(h:CfI w g l i ps wr):g<wr.heap.size:=by
 obtain⟨R,hR⟩:=h.row
 exact hR.lt
theorem CfI.step{w:World}{g:Nat}{l:List Fld}{i:Nat}{ps:List PF}{wr w':World}(h:CfI w g l i ps wr)(hb:Below wr.heap.size wr w'):CfI w g l i ps w':=by
 obtain⟨R,hR⟩:=h.row
 refine⟨⟨R,hR.step hb⟩,h.len,fun j p hp=>?_⟩
 obtain⟨y,hy,hs,hz,h1,h2⟩:=h.el j p hp
 exact⟨y,hy,hs,hz,fun hj=>(h1 hj).step hb,fun hj=>(h2 hj).step hb⟩
theorem CfI.cells{w:World}{g:Nat}{l:List Fld}{i:Nat}{ps:List PF}{wr:World}(h:CfI w g l i ps wr){j:Nat}{p:PF}(hp:ps[j]?=some p){k:Nat}{v:Value}(hk:(recF p)[k]?=some v):wr.cell? ⟨g,j*6+k,none⟩=some v:=by
 obtain⟨R,hR⟩:=h.row
 rw[hR.cell]
 have h1:=flat_get recF_length hp hk
 have h2:j*6+k<(flat recF ps).length:=(List.getElem?_eq_some_iff.1 h1).1
 rw[List.getElem?_toArray,List.getElem?_append_left h2]
 exact h1
theorem CfI.frozen{w:World}{g:Nat}{l:List Fld}{i:Nat}{ps:List PF}{wr:World}(h:CfI w g l i ps wr)(k:Nat):wr.frozen? ⟨g,k,none⟩=false:=by
 obtain⟨R,hR⟩:=h.row
 exact hR.frozen k
theorem CfI.put{w:World}{g:Nat}{l:List Fld}{i:Nat}{ps:List PF}{wr:World}{c':VC}{p:PF}{y:Fld}(h:CfI w g l i ps wr)(hp:ps[i]?=some p)(hy:l[i]?=some y)(hg:w.heap.size≤g)(hs:y.s=p.2.s)(hr:RV (fun b=>w.heap.size≤b∧b≠g) wr c' y.v):
 CfI w g l (i+1) (ps.set i (c',p.2)) (setV wr g (i*6+1) c'):=by
 have hi:i<ps.length:=(List.getElem?_eq_some_iff.1 hp).1
 obtain⟨R,hR⟩:=h.row
 refine⟨⟨R,?_⟩,by rw[List.length_set];exact h.len,fun j q hq=>?_⟩
 ·have h1:Blk (wr.setCells g (i*6+1) c'.list) g 75 (setList (flat recF ps++R) (i*6+1) c'.list).toArray:=hR.setCells c'.list (i*6+1)
  have hf:(flat recF ps).length=ps.length*6:=flat_length recF_length ps
  have hm:(i+1)*6≤ps.length*6:=Nat.mul_le_mul_right _ hi
  have e1:setList (flat recF ps++R) (i*6+1) c'.list=flat recF (ps.set i (c',p.2))++R:=by
   rw[setList_eq _ _ _ (by rw[List.length_append,hf];simp[VC.list];omega)]
   have e2:(flat recF ps++R).take (i*6+1)=flat recF (ps.take i)++[.string p.2.s]:=by
    rw[List.take_append_of_le_length (by rw[hf];omega)]
    rw[show i*6+1=i*6+1 from rfl,List.take_add,flat_take recF_length,flat_drop recF_length,drop_of hp]
    rfl
   have e3:(flat recF ps++R).drop (i*6+1+c'.list.length)=flat recF (ps.drop (i+1))++R:=by
    rw[show i*6+1+c'.list.length=(i+1)*6 by simp[VC.list];omega,List.drop_append_of_le_length (by rw[hf];exact hm),flat_drop recF_length]
   rw[e2,e3,List.set_eq_take_append_cons_drop,if_pos hi,flat_append]
   have e4:flat recF ((c',p.2)::ps.drop (i+1))=recF (c',p.2)++flat recF (ps.drop (i+1)):=rfl
   rw[e4]
   simp[recF]
  rw[←e1]
  exact h1
 ·have keep:∀{G:Nat→Prop} {e:VC} {z:Val},RV G wr e z→(∀b,G b→b≠g)→RV G (setV wr g (i*6+1) c') e z:=fun hz hG=>hz.keep fun b hb=>heap_setV (hG b hb)
  by_cases hj:j=i
  ·subst hj
   rw[List.getElem?_set_self hi] at hq
   cases hq
   obtain⟨z,hz,hzs,hzz,_⟩:=h.el j p hp
   exact⟨y,hy,hs,hzz,fun _=>keep hr fun b hb=>hb.2,fun h'=>by omega⟩
  ·rw[List.getElem?_set_ne (fun e=>hj e.symm)] at hq
   obtain⟨z,hz,hs1,hz1,h1,h2⟩:=h.el j q hq
   exact⟨z,hz,hs1,hz1,fun h'=>keep (h1 (by omega)) fun b hb=>hb.2,fun h'=>keep (h2 (by omega)) fun b hb=>by omega⟩
theorem copy_join{w5:World}{lo:Nat}{ck cn:Int}{ct:ByteArray}{A1 A2:Option Addr}{ln c1 dn c2:Nat}{k n:Int}{t:ByteArray}{l:List Val}{d:List Fld}(hk:ck=k)(hn:cn=n)(ht:ct=t)(hz:t.size≤reach)(hl:RV (fun b=>lo≤b) w5 ⟨6,0,ByteArray.empty,A1,ln,c1,none,0,0⟩ (.mk 6 0 ByteArray.empty l []))(hd:RV (fun b=>lo≤b) w5 ⟨5,0,ByteArray.empty,none,0,0,A2,dn,c2⟩ (.mk 5 0 ByteArray.empty [] d)):
 RV (fun b=>lo≤b) w5 ⟨ck,cn,ct,A1,ln,c1,A2,dn,c2⟩ (.mk k n t l d):=by
 have fl:=hl.open
 have fd:=hd.open
 exact RVs.shut ⟨hk,hn,ht,hz,fl.ln,fl.lc,fl.lsz,fl.la,fd.dn,fd.dc,fd.dsz,fd.da⟩
theorem copy_far{w5:World}{a lo:Nat}{e:VC}(h:a+2≤lo):∀b,lo≤b→b<w5.heap.size→a≤b∧(setV w5 (a+1) 0 e).heap[b]?=w5.heap[b]?:=fun b hb _=>⟨by omega,heap_setV (by omega)⟩
theorem mcopy_any(x:Val):∀(c:VC) (w:World),RW w c x→Calls Tryz.prog 56 #[c.val] w (CopyOk w x):=by
 induction x using Val.ind with
 | h k n t l d ihl ihd=>
 intro c w h
 obtain⟨ps,hps,hsl⟩:=h.sl
 obtain⟨fs,hfs,hsd⟩:=h.sd
 obtain⟨ck,cn,ct,LA,ln,lc,DA,dn,dc⟩:=c
 have HO:=qD h.open
 have hlz:ln*80≤140737488355328:=h.open.lsz
 have hdz:dn*96≤140737488355328:=h.open.dsz
 have hln:ln≤140737488355328:=by omega
 have hdn:dn≤140737488355328:=by omega
 have HLL:Hid (ln=l.length):=h.open.ln
 have HDD:Hid (dn=d.length):=h.open.dn
 have HPS:Hid (ps.map Prod.snd=l):=hps
 have HFS:Hid (fs.map Prod.snd=d):=hfs
 have HSL:=qD hsl
 have HSD:=qD hsd
 have HIL:=qD ihl
 have HID:=qD ihd
 have B0:Hid (Blk ((w.alloc (.cells (VC.arr ⟨ck,cn,ct,LA,ln,lc,DA,dn,dc⟩) 45)).alloc (.cells VC.zero.arr 45)) w.heap.size 45 (VC.arr ⟨ck,cn,ct,LA,ln,lc,DA,dn,dc⟩)):=(Blk.new_at rfl).alloc _
 have B1:Hid (Blk ((w.alloc (.cells (VC.arr ⟨ck,cn,ct,LA,ln,lc,DA,dn,dc⟩) 45)).alloc (.cells VC.zero.arr 45)) (w.heap.size+1) 45 VC.zero.arr):=Blk.new_at (by simp)
 have BE:Hid (Below w.heap.size w ((w.alloc (.cells (VC.arr ⟨ck,cn,ct,LA,ln,lc,DA,dn,dc⟩) 45)).alloc (.cells VC.zero.arr 45))):=((Below.refl _ _).alloc (qL) _).alloc (by simp) _
 have HWA:Hid (((w.alloc (.cells (VC.arr ⟨ck,cn,ct,LA,ln,lc,DA,dn,dc⟩) 45)).alloc (.cells VC.zero.arr 45)).heap.size=w.heap.size+2):=by simp[Hid]
 clear h hps hfs hsl hsd ihl ihd hlz hdz
 go_enter Tryz.func56,Tryz.ntmps56
 go_upto_region 1 with fail
 change Code.wp _ _ _ _ ((w.alloc (.cells (VC.arr ⟨ck,cn,ct,LA,ln,lc,DA,dn,dc⟩) 45)).alloc (.cells VC.zero.arr 45))
 generalize ((w.alloc (.cells (VC.arr ⟨ck,cn,ct,LA,ln,lc,DA,dn,dc⟩) 45)).alloc (.cells VC.zero.arr 45))=wa at*
 have HCV:=qD (cloneV_any ps LA ln lc wa (HSL.out.sr.step BE.out) HSL.out.sz)
 have k3:=B0.out.cell 3
 have kz:=B0.out.frozen
 simp at k3
 go_wp2_with fail
 refine HCV.out.mono ?_
 rintro e w1 ⟨v1,rfl,hown,hb⟩
 obtain⟨A1,c1,rfl,hc1⟩:=own_slice hown
 have C0:=qD (B0.out.step hb)
 have C1:=qD (B1.out.step hb)
 have CE:=qD (BE.out.step' hb)
 have hown2:=own_far hown (p:=⟨w.heap.size,3,none⟩) (fun e=>by have h1:wa.heap.size≤w.heap.size:=own_ge hown _ e;have h2:=HWA.out;omega) (.slice A1 ln c1)
 clear hb B0 B1 HCV k3 kz
 have k3:=C0.out.cell 3
 have kz:=C0.out.frozen
 simp at k3
 go_upto_region 2 with fail
 change Code.wp _ _ _ _ (w1.setCell ⟨w.heap.size,3,none⟩ (.slice A1 ln c1))
 have D0:Hid (Blk (w1.setCell ⟨w.heap.size,3,none⟩ (.slice A1 ln c1)) w.heap.size 45 (VC.arr ⟨ck,cn,ct,A1,ln,c1,DA,dn,dc⟩)):=C0.out.set_ 3 _
 have D1:Hid (Blk (w1.setCell ⟨w.heap.size,3,none⟩ (.slice A1 ln c1)) (w.heap.size+1) 45 VC.zero.arr):=C1.out.far (p:=⟨w.heap.size,3,none⟩) (by show w.heap.size+1≠w.heap.size;omega) _
 have DE:Hid (Below w.heap.size w (w1.setCell ⟨w.heap.size,3,none⟩ (.slice A1 ln c1))):=CE.out.setCell (by show w.heap.size≤w.heap.size;omega) _
 generalize w1.setCell ⟨w.heap.size,3,none⟩ (.slice A1 ln c1)=w2 at*
 have HOW:=qD hown2
 have HC1:=qD hc1
 clear hown hown2 k3 kz C0 C1 CE hc1
 have k3:=D0.out.cell 3
 simp at k3
 go_upto_block 0 with fail
 go_cut [] (fun wx=>Blk wx w.heap.size 45 (VC.arr ⟨ck,cn,ct,A1,ln,c1,DA,dn,dc⟩)∧Blk wx (w.heap.size+1) 45 VC.zero.arr∧RV (fun b=>wa.heap.size≤b) wx ⟨6,0,ByteArray.empty,A1,ln,c1,none,0,0⟩ (.mk 6 0 ByteArray.empty l [])∧Below w.heap.size w wx)
 case first=>
  rcases Nat.eq_zero_or_pos ln with h0|h0
  ·subst h0
   go_upto_region 3 with fail
   go_loopw [3,12] (fun _ u12 wr=>u12=.int .i64 0∧wr=w2) (fun _ _ _=>0)
   case atStart=>exact⟨rfl,rfl⟩
   case round=>
    obtain⟨rfl,rfl⟩:=hrel
    go_wp2_with fail
    go_meet
    refine⟨D0.out,D1.out,RVs.shut ⟨rfl,rfl,rfl,by show 0≤reach;decide,HLL.out,HC1.out,by show 0*80≤reach;decide,fun h=>absurd h (by show ¬(0<0);omega),rfl,qL,by show 0*96≤reach;decide,fun h=>absurd h (by show ¬(0<0);omega)⟩,DE.out⟩
  ·obtain⟨g,cap,hv,hgb,hgl⟩:=HOW.out.form h0
   cases hv
   obtain⟨R,hR,_,_,_,_⟩:=own_blk HOW.out
   have HG:Hid (wa.heap.size≤g):=hgb
   have HG2:Hid (w.heap.size≤g):=by have:=HWA.out;unfold Hid;omega
   have HNE:Hid (w.heap.size≠g∧w.heap.size+1≠g):=by have:=HWA.out;exact⟨by omega,by omega⟩
   have Q0:Hid (CqI wa g l 0 ps w2):=⟨⟨R,hR⟩,by rw[←HPS.out,List.length_map],fun j p hp=>⟨p.2,by rw[←HPS.out,List.getElem?_map,hp];rfl,fun hj=>absurd hj (by omega),fun _=>((HSL.out.rv p (List.mem_of_getElem? hp)).lt.keep fun b hb=>DE.out.block b hb.2).mono fun b hb=>(by have:=HWA.out;have:=hb.2;omega:b<wa.heap.size)⟩⟩
   have HI:=HIL
   clear hR hgl hgb
   go_upto_region 3 with fail
   clear k3
   go_loopw [3,12] (fun _ u12 wr=>∃(i:Nat) (qs:List PV),i≤ln∧u12=.int .i64 i∧Blk wr w.heap.size 45 (VC.arr ⟨ck,cn,ct,some ⟨g,0,none⟩,ln,c1,DA,dn,dc⟩)∧Blk wr (w.heap.size+1) 45 VC.zero.arr∧CqI wa g l i qs wr∧Below w.heap.size w wr) (fun _ u12 _=>ln-(intOf u12).toNat)
   case atStart=>exact⟨0,ps,Nat.zero_le _,rfl,D0.out,D1.out,Q0.out,DE.out⟩
   case round=>
    obtain⟨i,qs,hi,rfl,E0,E1,J,EE⟩:=hrel
    have HE0:=qD E0
    have HE1:=qD E1
    have J2:=qD J
    have HEE:=qD EE
    by_cases hlt:i<ln
    ·obtain⟨p,hp⟩:∃p,qs[i]?=some p:=⟨_,List.getElem?_eq_getElem (by have h1:=J.len;have h2:=HLL.out;omega)⟩
     obtain⟨y,hy,_,hrv⟩:=J.el i p hp
     have HPI:=qD hp
     have HY:=qD hy
     have HC:=qD (HI.out y (List.mem_of_getElem? hy))
     have RP:Hid (RW wr p.1 y):=(hrv (qL)).mono fun _ _=>trivial
     have lb0:=E0.lt
     have gl:=J.lt
     have HWL:Hid (wa.heap.size≤wr.heap.size):=by have h1:=HG.out;unfold Hid;omega
     have i0':(0:Int)≤(i:Int):=by omega
     have i1':(i:Int)<(ln:Int):=by omega
     have k3:=E0.cell 3
     simp at k3
     go_upto_region 5 with fail
     have B0':Hid (Below wr.heap.size wr wr.drew):=qD ((Below.refl wr.heap.size wr).drew)
     have KC:Hid (∀w':World,Below wr.heap.size wr w'→w'.cell? ⟨w.heap.size,3,none⟩=some (.slice (some ⟨g,0,none⟩) ln c1)):=qD fun w' hb=>(hb.cell (p:=⟨w.heap.size,3,none⟩) lb0).trans k3
     have KD:Hid (∀(W:World) (e:VC),Below wr.heap.size wr W→(setV W g (i*5) e).cell? ⟨w.heap.size,3,none⟩=some (.slice (some ⟨g,0,none⟩) ln c1)):=qD fun W e hb=>(World.cell?_of_block (w:=W) (a:=⟨w.heap.size,3,none⟩) (heap_setV HNE.out.1)).trans (KC.out W hb)
     clear hp hy hrv E0 E1 J EE k3
     refine wp_region_noPanic ?_
     refine wp_region_held_drew (S:=(fun w'=>w'.cell? ⟨w.heap.size,3,none⟩=some (.slice (some ⟨g,0,none⟩) ln c1))) (by kernel_rfl) ?_ (fun hHeld=>?_)
     ·(try dsimp only);exact KC.out _ B0'.out
     have JW:=qD (J2.out.step B0'.out)
     have y0:=JW.out.cells HPI.out (k:=0) rfl
     have y1:=JW.out.cells HPI.out (k:=1) rfl
     have y2:=JW.out.cells HPI.out (k:=2) rfl
     have y3:=JW.out.cells HPI.out (k:=3) rfl
     have y4:=JW.out.cells HPI.out (k:=4) rfl
     simp only[Nat.add_zero] at y0 y1 y2 y3 y4
     have HW0:Hid (wr.heap.size=wr.drew.heap.size):=rfl
     generalize wr.drew=W0 at*
     have B:=B0'
     refine rU 0 rfl ?_
     try go_frame
     refine rU 1 rfl ?_
     try go_frame
     refine rU 2 rfl ?_
     try go_frame
     refine rU 3 rfl ?_
     try go_frame
     refine rU 4 rfl ?_
     try go_frame
     refine rU 5 rfl ?_
     try go_frame
     refine rU 6 rfl ?_
     try go_frame
     refine rY 7 rfl fun K hK=>?_
     go_simp
     clear hHeld
     refine hK.out _ _ ?_ fun hHeld=>?_
     ·(try dsimp only);exact KC.out _ B.out
     clear hK K
     try go_frame
     clear y0 y1 y2 y3 y4 JW
     refine rY 8 rfl fun K hK=>?_
     go_simp
     refine(HC.out p.1 W0 (RP.out.step B.out)).mono ?_
     rintro e W1 ⟨c9,rfl,hr,hb⟩
     have R9:=qD hr
     have BW:=qD hb
     replace B:=qD (B.out.step' hb)
     clear hb hr
     (try go_wp2_with fail)
     clear hHeld
     refine hK.out _ _ ?_ fun hHeld=>?_
     ·(try dsimp only);exact KC.out _ B.out
     clear hK K
     try go_frame
     refine rU 9 rfl ?_
     try go_frame
     refine rY 10 rfl fun K hK=>?_
     have J9:=qD (J2.out.step B.out)
     have z9:=J9.out.frozen
     have y0:=J9.out.cells HPI.out (k:=0) rfl
     have y1:=J9.out.cells HPI.out (k:=1) rfl
     have y2:=J9.out.cells HPI.out (k:=2) rfl
     have y3:=J9.out.cells HPI.out (k:=3) rfl
     have y4:=J9.out.cells HPI.out (k:=4) rfl
     simp only[Nat.add_zero] at y0 y1 y2 y3 y4
     go_simp
     refine hK.out _ _ (KD.out W1 c9 B.out) (fun hHeld2=>?_)
     clear hHeld hHeld2 hK K y0 y1 y2 y3 y4 z9
     try go_frame
     refine rD ?_ _
     refine NoPanic.normal ?_
     have HN:Hid (CqI wa g l (i+1) (qs.set i (c9,y)) (setV W1 g (i*5) c9)):=(J2.out.step B.out).put HPI.out HY.out HG.out (R9.out.mono fun b hb=>by have h2:=HW0.out;have hb':W0.heap.size≤b:=hb;exact⟨by have:=HWL.out;omega,by omega⟩)
     have HN0:=qD ((HE0.out.step B.out).farV (b:=g) HNE.out.1 (i*5) c9)
     have HN1:=qD ((HE1.out.step B.out).farV (b:=g) HNE.out.2 (i*5) c9)
     have HNB:=qD (below_setV (HEE.out.step' B.out) (B:=w.heap.size) HG2.out (i*5) c9)
     clear R9 BW B HE0 HE1 HEE J2 RP HC KC KD
     go_wp2_with fail
     go_roundw
     case rel=>exact⟨i+1,_,hlt,by go_num,HN0.out,HN1.out,HN.out,HNB.out⟩
     case measure=>simp[intOf];omega
    ·obtain rfl:i=ln:=by omega
     have HBK:Hid (∀b off,some (⟨g,0,none⟩:Addr)=some ⟨b,off,none⟩→b=g∧off=0):=fun b off e=>by cases e;exact⟨rfl,rfl⟩
     clear E0 E1 J EE
     go_wp2_with fail
     go_meet
     refine⟨HE0.out,HE1.out,RVs.shut ⟨rfl,rfl,rfl,by show 0≤reach;decide,HLL.out,HC1.out,HSL.out.sz,fun _=>⟨g,0,rfl,⟨HG.out,fun _ q=>J2.out.frozen q⟩,fun j y hj=>?_⟩,rfl,qL,by show 0*96≤reach;decide,fun h=>absurd h (by show ¬(0<0);omega)⟩,HEE.out⟩
     obtain⟨p,hp⟩:∃p,qs[j]?=some p:=⟨_,List.getElem?_eq_getElem (by have h1:=J2.out.len;have h2:=(List.getElem?_eq_some_iff.1 hj).1;simp only[Val.l] at h2;omega)⟩
     obtain⟨z,hz,h1,_⟩:=J2.out.el j p hp
     have hzy:z=y:=Option.some.inj (hz.symm.trans hj)
     subst hzy
     have hjl:j<i:=by have h2:=(List.getElem?_eq_some_iff.1 hj).1;simp only[Val.l] at h2;have:=HLL.out;omega
     exact⟨p.1,vat_of fun q v hq=>by rw[Nat.zero_add];exact J2.out.cells hp hq,(h1 hjl).mono fun b hb=>hb.1⟩
 case rest=>
  obtain⟨hb0,hb1,hrl,hbe⟩:=hcut
  have HRL:=qD hrl.lt
  have C0:=qD hb0
  have C1:=qD hb1
  have CE:=qD hbe
  clear D0 D1 DE HOW hb0 hb1 hrl hbe BE k3
  generalize wc=w3 at*
  have hle3:w.heap.size≤w3.heap.size:=CE.out.size
  have hwa3:wa.heap.size≤w3.heap.size:=by have h1:=C1.out.lt;have h2:=HWA.out;omega
  have HCF:=qD (cloneF_any fs DA dn dc w3 (HSD.out.sr.step CE.out) HSD.out.sz)
  have k4:=C0.out.cell 4
  have kz:=C0.out.frozen
  simp at k4
  go_wp2_with fail
  refine HCF.out.mono ?_
  rintro e wz ⟨v2,rfl,hown,hb⟩
  obtain⟨A2,c2,rfl,hc2⟩:=own_slice hown
  have C0':=qD (C0.out.step hb)
  have C1':=qD (C1.out.step hb)
  have CE':=qD (CE.out.step' hb)
  have HRL':=qD (HRL.out.step hb)
  have hsz:=hb.size
  have hown2:=own_far hown (p:=⟨w.heap.size,4,none⟩) (fun e=>by have h1:w3.heap.size≤w.heap.size:=own_ge hown _ e;have h2:=HWA.out;omega) (.slice A2 dn c2)
  clear hb C0 C1 CE HCF k4 kz HRL
  have k4:=C0'.out.cell 4
  have kz:=C0'.out.frozen
  simp at k4
  go_upto_region 8 with fail
  change Code.wp _ _ _ _ (wz.setCell ⟨w.heap.size,4,none⟩ (.slice A2 dn c2))
  have D0:Hid (Blk (wz.setCell ⟨w.heap.size,4,none⟩ (.slice A2 dn c2)) w.heap.size 45 (VC.arr ⟨ck,cn,ct,A1,ln,c1,A2,dn,c2⟩)):=C0'.out.set_ 4 _
  have D1:Hid (Blk (wz.setCell ⟨w.heap.size,4,none⟩ (.slice A2 dn c2)) (w.heap.size+1) 45 VC.zero.arr):=C1'.out.far (p:=⟨w.heap.size,4,none⟩) (by show w.heap.size+1≠w.heap.size;omega) _
  have DE:Hid (Below w.heap.size w (wz.setCell ⟨w.heap.size,4,none⟩ (.slice A2 dn c2))):=CE'.out.setCell (by show w.heap.size≤w.heap.size;omega) _
  have HRL4:Hid (RV (fun b=>wa.heap.size≤b∧b<w3.heap.size) (wz.setCell ⟨w.heap.size,4,none⟩ (.slice A2 dn c2)) ⟨6,0,ByteArray.empty,A1,ln,c1,none,0,0⟩ (.mk 6 0 ByteArray.empty l [])):=HRL'.out.keep fun b hb=>Below.heap_setCell wz ⟨w.heap.size,4,none⟩ _ b (by have:=HWA.out;have:=hb.1;show b≠w.heap.size;omega)
  have HW3:Hid (w3.heap.size≤(wz.setCell ⟨w.heap.size,4,none⟩ (.slice A2 dn c2)).heap.size):=by simpa[Hid,World.setCell] using hsz
  generalize wz.setCell ⟨w.heap.size,4,none⟩ (.slice A2 dn c2)=w4 at*
  have HOW:=qD hown2
  have HC2:=qD hc2
  clear hown hown2 k4 kz C0' C1' CE' hc2 HRL' hsz
  have k4:=D0.out.cell 4
  simp at k4
  go_upto_block 2 with fail
  go_cut [] (fun wx=>Blk wx w.heap.size 45 (VC.arr ⟨ck,cn,ct,A1,ln,c1,A2,dn,c2⟩)∧Blk wx (w.heap.size+1) 45 VC.zero.arr∧RV (fun b=>wa.heap.size≤b) wx ⟨5,0,ByteArray.empty,none,0,0,A2,dn,c2⟩ (.mk 5 0 ByteArray.empty [] d)∧Below w3.heap.size w4 wx)
  case first=>
   rcases Nat.eq_zero_or_pos dn with h0|h0
   ·subst h0
    go_upto_region 9 with fail
    go_loopw [4,33] (fun _ u12 wr=>u12=.int .i64 0∧wr=w4) (fun _ _ _=>0)
    case atStart=>exact⟨rfl,rfl⟩
    case round=>
     obtain⟨rfl,rfl⟩:=hrel
     go_wp2_with fail
     go_meet
     refine⟨D0.out,D1.out,RVs.shut ⟨rfl,rfl,rfl,by show 0≤reach;decide,rfl,qL,by show 0*80≤reach;decide,fun h=>absurd h (by show ¬(0<0);omega),HDD.out,HC2.out,by show 0*96≤reach;decide,fun h=>absurd h (by show ¬(0<0);omega)⟩,Below.refl _ _⟩
   ·obtain⟨g,cap,hv,hgb,hgl⟩:=HOW.out.form h0
    cases hv
    obtain⟨R,hR,_,_,_,_⟩:=own_blk HOW.out
    have HG3:Hid (w3.heap.size≤g):=hgb
    have HG:Hid (wa.heap.size≤g):=by unfold Hid;omega
    have HNE:Hid (w.heap.size≠g∧w.heap.size+1≠g):=by have:=HWA.out;exact⟨by omega,by omega⟩
    have Q0:Hid (CfI wa g d 0 fs w4):=⟨⟨R,hR⟩,by rw[←HFS.out,List.length_map],fun j p hp=>⟨p.2,by rw[←HFS.out,List.getElem?_map,hp];rfl,rfl,HSD.out.ns p (List.mem_of_getElem? hp),fun hj=>absurd hj (by omega),fun _=>((HSD.out.rv p (List.mem_of_getElem? hp)).lt.keep fun b hb=>DE.out.block b hb.2).mono fun b hb=>(by have:=HWA.out;have:=hb.2;omega:b<wa.heap.size)⟩⟩
    have HI:=HID
    clear hR hgl hgb HLL
    have HLL:=HDD
    go_upto_region 9 with fail
    clear k4
    go_loopw [4,33] (fun _ u12 wr=>∃(i:Nat) (qs:List PF),i≤dn∧u12=.int .i64 i∧Blk wr w.heap.size 45 (VC.arr ⟨ck,cn,ct,A1,ln,c1,some ⟨g,0,none⟩,dn,c2⟩)∧Blk wr (w.heap.size+1) 45 VC.zero.arr∧CfI wa g d i qs wr∧Below w3.heap.size w4 wr) (fun _ u12 _=>dn-(intOf u12).toNat)
    case atStart=>exact⟨0,fs,Nat.zero_le _,rfl,D0.out,D1.out,Q0.out,Below.refl _ _⟩
    case round=>
     obtain⟨i,qs,hi,rfl,E0,E1,J,EE⟩:=hrel
     have HE0:=qD E0
     have HE1:=qD E1
     have J2:=qD J
     have HEE:=qD EE
     by_cases hlt:i<dn
     ·obtain⟨p,hp⟩:∃p,qs[i]?=some p:=⟨_,List.getElem?_eq_getElem (by have h1:=J.len;have h2:=HLL.out;omega)⟩
      obtain⟨y,hy,hys,hyz,_,hrv⟩:=J.el i p hp
      have HPI:=qD hp
      have HY:=qD hy
      have HYS:=qD hys
      have HC:=qD (HI.out y (List.mem_of_getElem? hy))
      have RP:Hid (RW wr p.1 y.v):=(hrv (qL)).mono fun _ _=>trivial
      have lb0:=E0.lt
      have gl:=J.lt
      have HWL:Hid (wa.heap.size≤wr.heap.size):=by have h1:=HG.out;unfold Hid;omega
      have i0':(0:Int)≤(i:Int):=by omega
      have i1':(i:Int)<(dn:Int):=by omega
      have k3:=E0.cell 4
      simp at k3
      go_upto_region 11 with fail
      have B0':Hid (Below wr.heap.size wr wr.drew):=qD ((Below.refl wr.heap.size wr).drew)
      have KC:Hid (∀w':World,Below wr.heap.size wr w'→w'.cell? ⟨w.heap.size,4,none⟩=some (.slice (some ⟨g,0,none⟩) dn c2)):=qD fun w' hb=>(hb.cell (p:=⟨w.heap.size,4,none⟩) lb0).trans k3
      have KD:Hid (∀(W:World) (e:VC),Below wr.heap.size wr W→(setV W g (i*6+1) e).cell? ⟨w.heap.size,4,none⟩=some (.slice (some ⟨g,0,none⟩) dn c2)):=qD fun W e hb=>(World.cell?_of_block (w:=W) (a:=⟨w.heap.size,4,none⟩) (heap_setV HNE.out.1)).trans (KC.out W hb)
      clear hp hy hrv hys hyz E0 E1 J EE k3
      refine wp_region_noPanic ?_
      refine wp_region_held_drew (S:=(fun w'=>w'.cell? ⟨w.heap.size,4,none⟩=some (.slice (some ⟨g,0,none⟩) dn c2))) (by kernel_rfl) ?_ (fun hHeld=>?_)
      ·(try dsimp only);exact KC.out _ B0'.out
      have JW:=qD (J2.out.step B0'.out)
      have y0:=JW.out.cells HPI.out (k:=1) rfl
      have y1:=JW.out.cells HPI.out (k:=2) rfl
      have y2:=JW.out.cells HPI.out (k:=3) rfl
      have y3:=JW.out.cells HPI.out (k:=4) rfl
      have y4:=JW.out.cells HPI.out (k:=5) rfl
      have HW0:Hid (wr.heap.size=wr.drew.heap.size):=rfl
      generalize wr.drew=W0 at*
      have B:=B0'
      refine rU 0 rfl ?_
      try go_frame
      refine rU 1 rfl ?_
      try go_frame
      refine rU 2 rfl ?_
      try go_frame
      refine rU 3 rfl ?_
      try go_frame
      refine rU 4 rfl ?_
      try go_frame
      refine rU 5 rfl ?_
      try go_frame
      refine rU 6 rfl ?_
      try go_frame
      refine rU 7 rfl ?_
      try go_frame
      refine rY 8 rfl fun K hK=>?_
      go_simp
      clear hHeld
      refine hK.out _ _ ?_ fun hHeld=>?_
      ·(try dsimp only);exact KC.out _ B.out
      clear hK K
      try go_frame
      clear y0 y1 y2 y3 y4 JW
      refine rY 9 rfl fun K hK=>?_
      go_simp
      refine(HC.out p.1 W0 (RP.out.step B.out)).mono ?_
      rintro e W1 ⟨c9,rfl,hr,hb⟩
      have R9:=qD hr
      have BW:=qD hb
      replace B:=qD (B.out.step' hb)
      clear hb hr
      (try go_wp2_with fail)
      clear hHeld
      refine hK.out _ _ ?_ fun hHeld=>?_
      ·(try dsimp only);exact KC.out _ B.out
      clear hK K
      try go_frame
      refine rU 10 rfl ?_
      try go_frame
      refine rU 11 rfl ?_
      try go_frame
      refine rY 12 rfl fun K hK=>?_
      have J9:=qD (J2.out.step B.out)
      have z9:=J9.out.frozen
      have y0:=J9.out.cells HPI.out (k:=1) rfl
      have y1:=J9.out.cells HPI.out (k:=2) rfl
      have y2:=J9.out.cells HPI.out (k:=3) rfl
      have y3:=J9.out.cells HPI.out (k:=4) rfl
      have y4:=J9.out.cells HPI.out (k:=5) rfl
      go_simp
      refine hK.out _ _ (KD.out W1 c9 B.out) (fun hHeld2=>?_)
      clear hHeld hHeld2 hK K y0 y1 y2 y3 y4 z9
      try go_frame
      refine rD ?_ _
      refine NoPanic.normal ?_
      have HN:Hid (CfI wa g d (i+1) (qs.set i (c9,p.2)) (setV W1 g (i*6+1) c9)):=(J2.out.step B.out).put HPI.out HY.out HG.out HYS.out (R9.out.mono fun b hb=>by have h2:=HW0.out;have hb':W0.heap.size≤b:=hb;exact⟨by have:=HWL.out;omega,by omega⟩)
      have HN0:=qD ((HE0.out.step B.out).farV (b:=g) HNE.out.1 (i*6+1) c9)
      have HN1:=qD ((HE1.out.step B.out).farV (b:=g) HNE.out.2 (i*6+1) c9)
      have HNB:=qD (below_setV (HEE.out.step' B.out (by have:=HW3.out;omega)) (B:=w3.heap.size) HG3.out (i*6+1) c9)
      clear R9 BW B HE0 HE1 HEE J2 RP HC KC KD
      go_wp2_with fail
      go_roundw
      case rel=>exact⟨i+1,_,hlt,by go_num,HN0.out,HN1.out,HN.out,HNB.out⟩
      case measure=>simp[intOf];omega
     ·obtain rfl:i=dn:=by omega
      clear E0 E1 J EE
      go_wp2_with fail
      go_meet
      refine⟨HE0.out,HE1.out,RVs.shut ⟨rfl,rfl,rfl,by show 0≤reach;decide,rfl,qL,by show 0*80≤reach;decide,fun h=>absurd h (by show ¬(0<0);omega),HDD.out,HC2.out,HSD.out.sz,fun _=>⟨g,0,rfl,⟨HG.out,fun _ q=>J2.out.frozen q⟩,fun j y hj=>?_⟩⟩,HEE.out⟩
      obtain⟨p,hp⟩:∃p,qs[j]?=some p:=⟨_,List.getElem?_eq_getElem (by have h1:=J2.out.len;have h2:=(List.getElem?_eq_some_iff.1 hj).1;simp only[Val.d] at h2;omega)⟩
      obtain⟨z,hz,hzs,hzz,h1,_⟩:=J2.out.el j p hp
      have hzy:z=y:=Option.some.inj (hz.symm.trans hj)
      subst hzy
      have hjl:j<i:=by have h2:=(List.getElem?_eq_some_iff.1 hj).1;simp only[Val.d] at h2;have:=HDD.out;omega
      refine⟨by rw[Nat.zero_add,hzs];exact J2.out.cells hp (k:=0) rfl,by rw[hzs];exact hzz,p.1,vat_of fun q v hq=>?_,(h1 hjl).mono fun b hb=>hb.1⟩
      have:=J2.out.cells hp (k:=q+1) (by simpa[recF] using hq)
      rw[show 0+j*6+1+q=j*6+(q+1) by omega]
      exact this
  case rest=>
   obtain⟨hb0,hb1,hrd,hbe⟩:=hcut
   have HRD:=qD hrd
   have E0:=qD hb0
   have E1:=qD hb1
   have HRL5:=qD (HRL4.out.keep fun b hb=>hbe.block b hb.2)
   have EE:=qD (DE.out.trans (hbe.mono hle3))
   clear D0 D1 DE HOW hb0 hb1 hrd hbe k4 HRL4
   generalize wc=w5 at*
   obtain⟨a0,a1,a2,a3,a4⟩:=VAt.of_blk E0.out
   simp only[Nat.zero_add] at a0 a1 a2 a3 a4
   obtain⟨b0,b1,b2,b3,b4⟩:=VAt.of_blk E1.out
   simp only[Nat.zero_add] at b0 b1 b2 b3 b4
   have bz:=E1.out.frozen
   go_wp2_with fail
   have q:=VAt.of_blk (E1.out.putV ⟨ck,cn,ct,A1,ln,c1,A2,dn,c2⟩)
   refine bodyPost_ret (results_val rfl _ _ _ rfl _ ⟨ck,cn,ct,A1,ln,c1,A2,dn,c2⟩ q) rfl ?_
   have hj:=copy_join HO.out.k HO.out.n HO.out.t HO.out.tsz (HRL5.out.mono fun b hb=>hb.1) HRD.out
   have hle:w.heap.size+2≤wa.heap.size:=by rw[HWA.out];exact qL
   have hk:=hj.keepG (G:=fun b=>w.heap.size≤b) (w':=setV w5 (w.heap.size+1) 0 ⟨ck,cn,ct,A1,ln,c1,A2,dn,c2⟩) (copy_far hle)
   exact⟨⟨ck,cn,ct,A1,ln,c1,A2,dn,c2⟩,rfl,hk,below_setV (b:=w.heap.size+1) EE.out (Nat.le_add_right _ _) 0 ⟨ck,cn,ct,A1,ln,c1,A2,dn,c2⟩⟩
theorem setList_flat{α:Type}{rec:α→List Value}{s:Nat}(hs:∀a,(rec a).length=s){xs:List α}{i o:Nat}{a a':α}{vs:List Value}(h:xs[i]?=some a)(ho:o+vs.length≤s)(he:setList (rec a) o vs=rec a'):
 setList (flat rec xs) (i*s+o) vs=flat rec (xs.set i a'):=by
 have hi:i<xs.length:=(List.getElem?_eq_some_iff.1 h).1
 have e1:flat rec xs=flat rec (xs.take i)++(rec a++flat rec (xs.drop (i+1))):=by
  have h1:xs=xs.take i++(a::xs.drop (i+1)):=by rw[←drop_of h,List.take_append_drop]
  have h2:flat rec xs=flat rec (xs.take i++(a::xs.drop (i+1))):=by rw[←h1]
  rw[h2,flat_append]
  rfl
 have hl:(flat rec (xs.take i)).length=i*s:=by rw[flat_length hs,List.length_take,Nat.min_eq_left (by omega)]
 have hr:=hs a
 have e2:xs.set i a'=xs.take i++(a'::xs.drop (i+1)):=by rw[List.set_eq_take_append_cons_drop,if_pos hi]
 have e3:flat rec (xs.set i a')=flat rec (xs.take i)++(rec a'++flat rec (xs.drop (i+1))):=by
  rw[e2,flat_append]
  rfl
 rw[e3,←he,e1,setList_eq _ _ _ (by rw[List.length_append,List.length_append,hl];omega),setList_eq vs (rec a) o (by omega)]
 generalize flat rec (xs.take i)=F1 at*
 generalize flat rec (xs.drop (i+1))=F2 at*
 rw[←hl,List.take_length_add_append,List.take_append_of_le_length (by omega),Nat.add_assoc,List.drop_length_add_append,List.drop_append_of_le_length (by omega)]
 simp only[List.append_assoc]
theorem own_setCellsM{base g n cap size:Nat}{t:TypeId}:∀(vs:List Value) {w:World} {xs:List Value} (o:Nat),w.ownsRow base t size (.slice (some ⟨g,0,none⟩) n cap) n xs→(w.setCells g o vs).ownsRow base t size (.slice (some ⟨g,0,none⟩) n cap) n (setList xs o vs)
 | [],_,_,_,h=>h
 | v::r,_,_,o,h=>own_setCellsM r (o+1) (own_set h o v)
def WC.putK(q:WC)(c:VC):WC:=⟨q.kd,q.sp,c,q.doc,q.si⟩
def WC.putD(q:WC)(c:VC):WC:=⟨q.kd,q.sp,q.key,c,q.si⟩
theorem putK_rec(q:PW)(c:VC):setList (recW q) 2 c.list=recW (q.1.putK c,q.2):=by
 obtain⟨⟨kd,sp,⟨k1,k2,k3,k4,k5,k6,k7,k8,k9⟩,dd,si⟩,x⟩:=q
 rfl
theorem putD_rec(q:PW)(c:VC):setList (recW q) 7 c.list=recW (q.1.putD c,q.2):=by
 obtain⟨⟨kd,sp,⟨k1,k2,k3,k4,k5,k6,k7,k8,k9⟩,⟨d1,d2,d3,d4,d5,d6,d7,d8,d9⟩,si⟩,x⟩:=q
 rfl
structure CwI(w:World)(g n c:Nat)(ps:List PW)(i m:Nat)(qs:List PW)(wr:World):Prop where
 own:wr.ownsRow w.heap.size 67 78 (.slice (some ⟨g,0,none⟩) n c) n (flat recW qs)
 ln:qs.length=n
 vs:qs.map Prod.snd=ps.map Prod.snd
 hd:∀q∈qs,q.1.kd=q.2.kd∧q.1.sp=q.2.sp∧q.1.si=q.2.si∧q.2.sp.size≤reach
 key:∀(j:Nat) (q:PW),qs[j]?=some q→RV (fun b=>(j<i∧w.heap.size≤b∧b≠g)∨(i≤j∧b<w.heap.size)) wr q.1.key q.2.key
 doc:∀(j:Nat) (q:PW),qs[j]?=some q→RV (fun b=>(j<m∧w.heap.size≤b∧b≠g)∨(m≤j∧b<w.heap.size)) wr q.1.doc q.2.doc
theorem CwI.ge{w:World}{g n c:Nat}{ps:List PW}{i m:Nat}{qs:List PW}{wr:World}(h:CwI w g n c ps i m qs wr):w.heap.size≤g:=own_ge h.own g rfl
theorem CwI.lt{w:World}{g n c:Nat}{ps:List PW}{i m:Nat}{qs:List PW}{wr:World}(h:CwI w g n c ps i m qs wr):g<wr.heap.size:=own_lt h.own rfl
theorem CwI.step{w:World}{g n c:Nat}{ps:List PW}{i m:Nat}{qs:List PW}{wr w':World}(h:CwI w g n c ps i m qs wr)(hb:Below wr.heap.size wr w'):CwI w g n c ps i m qs w':=
 ⟨own_step h.own hb,h.ln,h.vs,h.hd,fun j q hq=>(h.key j q hq).step hb,fun j q hq=>(h.doc j q hq).step hb⟩
theorem map_set_eq{ps qs:List PW}{i:Nat}{q q':PW}(h:qs.map Prod.snd=ps.map Prod.snd)(hq:qs[i]?=some q)(he:q'.2=q.2):(qs.set i q').map Prod.snd=ps.map Prod.snd:=by
 rw[←h,List.map_set,he]
 refine List.ext_getElem? fun j=>?_
 by_cases hj:i=j
 ·subst hj
  have:=(List.getElem?_eq_some_iff.1 hq).1
  rw[List.getElem?_set_self (by rw[List.length_map];exact this),List.getElem?_map,hq]
  rfl
 ·rw[List.getElem?_set_ne hj]
theorem CwI.putK{w:World}{g n c:Nat}{ps:List PW}{i m:Nat}{qs:List PW}{wr:World}{c':VC}{q:PW}(h:CwI w g n c ps i m qs wr)(hq:qs[i]?=some q)(hr:RV (fun b=>w.heap.size≤b∧b≠g) wr c' q.2.key):
 CwI w g n c ps (i+1) m (qs.set i (q.1.putK c',q.2)) (setV wr g (i*78+2) c'):=by
 have hg:=h.ge
 have keep:∀{G:Nat→Prop} {e:VC} {z:Val},RV G wr e z→(∀b,G b→b≠g)→RV G (setV wr g (i*78+2) c') e z:=fun hz hG=>hz.keep fun b hb=>heap_setV (hG b hb)
 have hi:i<qs.length:=(List.getElem?_eq_some_iff.1 hq).1
 refine⟨?_,by rw[List.length_set];exact h.ln,map_set_eq h.vs hq rfl,fun p hp=>?_,fun j p hp=>?_,fun j p hp=>?_⟩
 ·rw[←setList_flat recW_length hq (by simp[VC.list]) (putK_rec q c')]
  exact own_setCellsM c'.list (i*78+2) h.own
 ·rcases List.mem_or_eq_of_mem_set hp with hp|rfl
  ·exact h.hd p hp
  ·exact h.hd q (List.mem_of_getElem? hq)
 ·by_cases hj:j=i
  ·subst hj
   rw[List.getElem?_set_self hi] at hp
   cases hp
   exact keep (hr.mono fun b hb=>.inl ⟨by omega,hb⟩) fun b hb=>by rcases hb with hb|hb<;>omega
  ·rw[List.getElem?_set_ne (fun e=>hj e.symm)] at hp
   exact keep ((h.key j p hp).mono fun b hb=>hb.elim (fun hb=>.inl ⟨by omega,hb.2⟩) (fun hb=>.inr ⟨by omega,hb.2⟩)) fun b hb=>by rcases hb with hb|hb<;>omega
 ·by_cases hj:j=i
  ·subst hj
   rw[List.getElem?_set_self hi] at hp
   cases hp
   exact keep (h.doc j q hq) fun b hb=>by rcases hb with hb|hb<;>omega
  ·rw[List.getElem?_set_ne (fun e=>hj e.symm)] at hp
   exact keep (h.doc j p hp) fun b hb=>by rcases hb with hb|hb<;>omega
theorem CwI.putD{w:World}{g n c:Nat}{ps:List PW}{i m:Nat}{qs:List PW}{wr:World}{c':VC}{q:PW}(h:CwI w g n c ps i m qs wr)(hq:qs[m]?=some q)(hr:RV (fun b=>w.heap.size≤b∧b≠g) wr c' q.2.doc):
 CwI w g n c ps i (m+1) (qs.set m (q.1.putD c',q.2)) (setV wr g (m*78+7) c'):=by
 have hg:=h.ge
 have keep:∀{G:Nat→Prop} {e:VC} {z:Val},RV G wr e z→(∀b,G b→b≠g)→RV G (setV wr g (m*78+7) c') e z:=fun hz hG=>hz.keep fun b hb=>heap_setV (hG b hb)
 have hi:m<qs.length:=(List.getElem?_eq_some_iff.1 hq).1
 refine⟨?_,by rw[List.length_set];exact h.ln,map_set_eq h.vs hq rfl,fun p hp=>?_,fun j p hp=>?_,fun j p hp=>?_⟩
 ·rw[←setList_flat recW_length hq (by simp[VC.list]) (putD_rec q c')]
  exact own_setCellsM c'.list (m*78+7) h.own
 ·rcases List.mem_or_eq_of_mem_set hp with hp|rfl
  ·exact h.hd p hp
  ·exact h.hd q (List.mem_of_getElem? hq)
 ·by_cases hj:j=m
  ·subst hj
   rw[List.getElem?_set_self hi] at hp
   cases hp
   exact keep (h.key j q hq) fun b hb=>by rcases hb with hb|hb<;>omega
  ·rw[List.getElem?_set_ne (fun e=>hj e.symm)] at hp
   exact keep (h.key j p hp) fun b hb=>by rcases hb with hb|hb<;>omega
 ·by_cases hj:j=m
  ·subst hj
   rw[List.getElem?_set_self hi] at hp
   cases hp
   exact keep (hr.mono fun b hb=>.inl ⟨by omega,hb⟩) fun b hb=>by rcases hb with hb|hb<;>omega
  ·rw[List.getElem?_set_ne (fun e=>hj e.symm)] at hp
   exact keep ((h.doc j p hp).mono fun b hb=>hb.elim (fun hb=>.inl ⟨by omega,hb.2⟩) (fun hb=>.inr ⟨by omega,hb.2⟩)) fun b hb=>by rcases hb with hb|hb<;>omega
theorem CwI.cellK{w:World}{g n c:Nat}{ps:List PW}{i m:Nat}{qs:List PW}{wr:World}(h:CwI w g n c ps i m qs wr){j:Nat}{q:PW}(hq:qs[j]?=some q){k:Nat}{u:Value}(hk:(recW q)[k]?=some u):wr.cell? ⟨g,j*78+k,none⟩=some u∧wr.frozen? ⟨g,j*78+k,none⟩=false:=
 own_cell h.own (flat_get recW_length hq hk)
def CwOk(w:World)(n:Nat)(ps:List PW)(e:Ending)(w':World):Prop:=
 ∃(A:Option Addr) (c:Nat) (qs:List PW),e=.returned (.slice A n c)∧qs.map Prod.snd=ps.map Prod.snd∧qs.length=n∧w'.ownsRow w.heap.size 67 78 (.slice A n c) n (flat recW qs)∧
  (∀p∈qs,RW1 (fun b=>w.heap.size≤b∧(Value.slice A n c).ownBlock≠some b) w' p.1 p.2)∧Below w.heap.size w w'
theorem copyWrites_any(ps:List PW)(A:Option Addr)(n c:Nat)(w:World)(h:WS (fun _=>True) w A n c ps)(hn:n≤100000):Calls Tryz.prog 54 #[.slice A n c] w (CwOk w n ps):=by
 have H:=qD h
 have HLN:Hid (n=ps.length):=h.sr.ln
 have HCL:=qD (cloneW_any ps A n c w h hn)
 have HN:=qD hn
 clear h
 go_enter Tryz.func54,Tryz.ntmps54
 go_wp2_with fail
 refine HCL.out.mono ?_
 rintro e w1 ⟨v,rfl,hown,hb⟩
 obtain⟨A1,c1,rfl,hc1⟩:=own_slice hown
 have HO:=qD hown
 have HB:=qD hb
 clear hown hb HCL
 rcases Nat.eq_zero_or_pos n with h0|h0
 ·subst h0
  have HPS:Hid (ps=[]):=List.eq_nil_of_length_eq_zero HLN.out.symm
  go_wp2_with fail
  go_loopw [3,8] (fun _ u8 wr=>u8=.int .i64 0∧wr=w1) (fun _ _ _=>0)
  case atStart=>exact⟨rfl,rfl⟩
  case round=>
   obtain⟨rfl,rfl⟩:=hrel
   go_wp2_with fail
   go_ret
   have hps:=HPS.out
   subst hps
   exact⟨A1,c1,[],rfl,rfl,rfl,HO.out,fun p hp=>by simp at hp,HB.out⟩
 obtain⟨g,cap,hv,hgb,hgl⟩:=HO.out.form h0
 have hA:A1=some ⟨g,0,none⟩:=by injection hv
 subst hA
 have I0:Hid (CwI w g n c1 ps 0 0 ps w1):=⟨HO.out,HLN.out.symm,rfl,fun q hq=>⟨(H.out.el q hq).kd,(H.out.el q hq).sp,(H.out.el q hq).si,(H.out.el q hq).sz⟩,
  fun j q hq=>((H.out.el q (List.mem_of_getElem? hq)).key.lt.keep fun b hb=>HB.out.block b hb.2).mono fun b hb=>.inr ⟨Nat.zero_le _,hb.2⟩,
  fun j q hq=>((H.out.el q (List.mem_of_getElem? hq)).doc.lt.keep fun b hb=>HB.out.block b hb.2).mono fun b hb=>.inr ⟨Nat.zero_le _,hb.2⟩⟩
 clear hv hgb hgl
 go_wp2_with fail
 go_loopw [3,8] (fun _ u8 wr=>∃(i:Nat) (qs:List PW),i≤n∧u8=.int .i64 i∧CwI w g n c1 ps i i qs wr∧Below w.heap.size w wr) (fun _ u8 _=>n-(intOf u8).toNat)
 case atStart=>exact⟨0,ps,Nat.zero_le _,rfl,I0.out,HB.out⟩
 case round=>
  obtain⟨i,qs,hi,rfl,I,hbel⟩:=hrel
  have J:=qD I
  have HBE:=qD hbel
  by_cases hlt:i<n
  ·obtain⟨q,hq⟩:∃q,qs[i]?=some q:=⟨_,List.getElem?_eq_getElem (by rw[I.ln];exact hlt)⟩
   have HQ:=qD hq
   have HK:=qD ((I.key i q hq).mono (G:=fun _=>True) fun _ _=>trivial)
   clear I hbel hq
   obtain⟨⟨kd,sp,⟨k1,k2,k3,k4,k5,k6,k7,k8,k9⟩,⟨d1,d2,d3,d4,d5,d6,d7,d8,d9⟩,si⟩,x⟩:=q
   have i0:(0:Int)≤(i:Int):=by omega
   have i1:(i:Int)<(n:Int):=by omega
   obtain⟨y0,-⟩:=J.out.cellK HQ.out (k:=2) rfl
   obtain⟨y1,-⟩:=J.out.cellK HQ.out (k:=3) rfl
   obtain⟨y2,-⟩:=J.out.cellK HQ.out (k:=4) rfl
   obtain⟨y3,-⟩:=J.out.cellK HQ.out (k:=5) rfl
   obtain⟨y4,-⟩:=J.out.cellK HQ.out (k:=6) rfl
   have HMC:=qD (mcopy_any x.key ⟨k1,k2,k3,k4,k5,k6,k7,k8,k9⟩ wr HK.out)
   go_wp2_with fail
   refine HMC.out.mono ?_
   rintro e w2 ⟨⟨e1,e2,e3,e4,e5,e6,e7,e8,e9⟩,rfl,hr,hb⟩
   have HR:=qD hr
   have J2:=qD (J.out.step hb)
   have HB2:=qD (HBE.out.step' hb)
   have HSZ:Hid (g<wr.heap.size∧w.heap.size≤wr.heap.size):=⟨J.out.lt,HBE.out.size⟩
   clear hr hb HMC HK y0 y1 y2 y3 y4
   obtain⟨y0,z0⟩:=J2.out.cellK HQ.out (k:=2) rfl
   obtain⟨y1,z1⟩:=J2.out.cellK HQ.out (k:=3) rfl
   obtain⟨y2,z2⟩:=J2.out.cellK HQ.out (k:=4) rfl
   obtain⟨y3,z3⟩:=J2.out.cellK HQ.out (k:=5) rfl
   obtain⟨y4,z4⟩:=J2.out.cellK HQ.out (k:=6) rfl
   have J3:Hid (CwI w g n c1 ps (i+1) i _ (setV w2 g (i*78+2) ⟨e1,e2,e3,e4,e5,e6,e7,e8,e9⟩)):=J2.out.putK HQ.out (HR.out.mono fun b hb=>(by have:=HSZ.out;omega:w.heap.size≤b∧b≠g))
   have HB3:Hid (Below w.heap.size w (setV w2 g (i*78+2) ⟨e1,e2,e3,e4,e5,e6,e7,e8,e9⟩)):=below_setV HB2.out J2.out.ge (i*78+2) ⟨e1,e2,e3,e4,e5,e6,e7,e8,e9⟩
   go_upto_region 6 with fail
   change Code.wp _ _ _ _ (setV w2 g (i*78+2) ⟨e1,e2,e3,e4,e5,e6,e7,e8,e9⟩)
   generalize setV w2 g (i*78+2) ⟨e1,e2,e3,e4,e5,e6,e7,e8,e9⟩=w3 at*
   clear y0 y1 y2 y3 y4 z0 z1 z2 z3 z4 HR J2 HB2
   have HQ3:Hid ((qs.set i (WC.putK ⟨kd,sp,⟨k1,k2,k3,k4,k5,k6,k7,k8,k9⟩,⟨d1,d2,d3,d4,d5,d6,d7,d8,d9⟩,si⟩ ⟨e1,e2,e3,e4,e5,e6,e7,e8,e9⟩,x))[i]?=some (WC.putK ⟨kd,sp,⟨k1,k2,k3,k4,k5,k6,k7,k8,k9⟩,⟨d1,d2,d3,d4,d5,d6,d7,d8,d9⟩,si⟩ ⟨e1,e2,e3,e4,e5,e6,e7,e8,e9⟩,x)):=List.getElem?_set_self (List.getElem?_eq_some_iff.1 HQ.out).1
   obtain⟨y0,-⟩:=J3.out.cellK HQ3.out (k:=7) rfl
   obtain⟨y1,-⟩:=J3.out.cellK HQ3.out (k:=8) rfl
   obtain⟨y2,-⟩:=J3.out.cellK HQ3.out (k:=9) rfl
   obtain⟨y3,-⟩:=J3.out.cellK HQ3.out (k:=10) rfl
   obtain⟨y4,-⟩:=J3.out.cellK HQ3.out (k:=11) rfl
   have HMC:=qD (mcopy_any x.doc ⟨d1,d2,d3,d4,d5,d6,d7,d8,d9⟩ w3 ((J3.out.doc i _ HQ3.out).mono fun _ _=>trivial))
   go_wp2_with fail
   refine HMC.out.mono ?_
   rintro e w4 ⟨⟨f1,f2,f3,f4,f5,f6,f7,f8,f9⟩,rfl,hr,hb⟩
   have HR:=qD hr
   have J4:=qD (J3.out.step hb)
   have HB4:=qD (HB3.out.step' hb)
   have HSZ3:Hid (g<w3.heap.size∧w.heap.size≤w3.heap.size):=⟨J3.out.lt,HB3.out.size⟩
   clear hr hb HMC y0 y1 y2 y3 y4
   obtain⟨y0,z0⟩:=J4.out.cellK HQ3.out (k:=7) rfl
   obtain⟨y1,z1⟩:=J4.out.cellK HQ3.out (k:=8) rfl
   obtain⟨y2,z2⟩:=J4.out.cellK HQ3.out (k:=9) rfl
   obtain⟨y3,z3⟩:=J4.out.cellK HQ3.out (k:=10) rfl
   obtain⟨y4,z4⟩:=J4.out.cellK HQ3.out (k:=11) rfl
   have J5:Hid (CwI w g n c1 ps (i+1) (i+1) _ (setV w4 g (i*78+7) ⟨f1,f2,f3,f4,f5,f6,f7,f8,f9⟩)):=J4.out.putD HQ3.out (HR.out.mono fun b hb=>(by have:=HSZ3.out;omega:w.heap.size≤b∧b≠g))
   have HB5:Hid (Below w.heap.size w (setV w4 g (i*78+7) ⟨f1,f2,f3,f4,f5,f6,f7,f8,f9⟩)):=below_setV HB4.out J4.out.ge (i*78+7) ⟨f1,f2,f3,f4,f5,f6,f7,f8,f9⟩
   go_upto_region 7 with fail
   change Code.wp _ _ _ _ (setV w4 g (i*78+7) ⟨f1,f2,f3,f4,f5,f6,f7,f8,f9⟩)
   generalize setV w4 g (i*78+7) ⟨f1,f2,f3,f4,f5,f6,f7,f8,f9⟩=w5 at*
   clear y0 y1 y2 y3 y4 z0 z1 z2 z3 z4 HR J4 HB4
   go_wp2_with fail
   go_roundw
   case rel=>exact⟨i+1,_,by omega,by go_num,J5.out,HB5.out⟩
   case measure=>simp[intOf];omega
  ·have hik:i=n:=by omega
   subst hik
   clear I hbel
   go_wp2_with fail
   go_ret
   exact⟨_,c1,qs,rfl,J.out.vs,J.out.ln,J.out.own,fun p hp=>by
    obtain⟨j,hj⟩:=List.getElem?_of_mem hp
    have hjl:j<i:=by have:=(List.getElem?_eq_some_iff.1 hj).1;rw[J.out.ln] at this;exact this
    obtain⟨e1,e2,e3,e4⟩:=J.out.hd p hp
    have hF:∀b,((j<i∧w.heap.size≤b∧b≠g)∨(i≤j∧b<w.heap.size))→w.heap.size≤b∧(Value.slice (some ⟨g,0,none⟩) i c1).ownBlock≠some b:=fun b hb=>by
     rcases hb with hb|hb
     ·exact⟨hb.2.1,fun e=>by injection e with e;exact hb.2.2 e.symm⟩
     ·omega
    exact⟨e1,e2,e3,e4,(J.out.key j p hj).mono hF,(J.out.doc j p hj).mono hF⟩,HBE.out⟩
def startR(R:Ro)(lo:ByteArray)(t:Int):Mv×Int:=
 if idxI (begB lo) R.cs<0 then(Mv.zero,15)
 else if t<0∨8≤t then(Mv.zero,1)
 else match R.cs[(idxI (begB lo) R.cs).toNat]? with
  | none=>(Mv.zero,15)
  | some c=>if c.sh=t∨c.ju=true then(Mv.zero,23) else(⟨R.sp,c.lo,c.hi,c.sh,t,1,[],[]⟩,0)
structure Started(R:Ro)(key:ByteArray)(t:Int)(M:Mv):Prop where
 sp:M.sp=R.sp
 lo:M.lo=key
 tt:M.tt=t
 st:M.st=1
 cp:M.cp=[]
 ch:M.ch=[]
 gi:(giveR R key t).2=0
theorem startR_ok{R:Ro}{lo:ByteArray}{t:Int}(h:(startR R lo t).2=0):Started R lo t (startR R lo t).1:=by
 rcases idxI_range (begB lo) R.cs with⟨hf,_⟩|⟨i,c,hf,hic,hin,_⟩
 ·unfold startR at h
  rw[hf,if_pos (by omega)] at h
  exact absurd (show(15:Int)=0 from h) (by omega)
 have e:startR R lo t=if t<0∨8≤t then(Mv.zero,1) else if c.sh=t∨c.ju=true then(Mv.zero,23) else(⟨R.sp,c.lo,c.hi,c.sh,t,1,[],[]⟩,0):=by
  unfold startR
  rw[if_neg (by omega),hf,Int.toNat_natCast,hic]
 have g:giveR R lo t=if t<0∨8≤t then(Ro.zero,1) else if c.sh=t∨c.ju=true then(Ro.zero,23) else(⟨R.sp,R.ks,R.ha,R.ep,nx R.ver,touch (repl R.cs i 1 [⟨c.lo,c.hi,t,nx R.ver,c.ju⟩]) c.sh (nx R.ver)⟩,0):=by
  unfold giveR
  rw[if_neg (by omega),hf,Int.toNat_natCast,hic]
 rw[e] at h ⊢
 by_cases h1:t<0∨8≤t
 ·rw[if_pos h1] at h;exact absurd h (by decide)
 by_cases h2:c.sh=t∨c.ju=true
 ·rw[if_neg h1,if_pos h2] at h;exact absurd h (by decide)
 rw[if_neg h1,if_neg h2] at g ⊢
 have hlo:c.lo=lo:=by
  have h3:c.lo.toList=lo.toList:=by simpa[begB] using hin
  exact bytes_eq.1 h3
 exact⟨rfl,hlo,rfl,rfl,rfl,rfl,by rw[g]⟩
end Go.Proofs.YtlicnjecnehaoaaGreatDoor
