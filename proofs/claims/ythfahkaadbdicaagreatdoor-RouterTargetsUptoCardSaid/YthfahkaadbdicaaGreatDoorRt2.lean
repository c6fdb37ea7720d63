/- Parts of the proof, joined: ValMem, ValList, EncRef, ShAfter, EncApp, ValRows. -/
import Derived.Test.YthfahkaadbdicaaGreatDoorRt1
import Derived.Deep.RegionHeld3
import Derived.Laws.Concat
import Derived.Lib.AppendStr
set_option maxRecDepth 100000
set_option maxHeartbeats 16000000
set_option linter.unusedSimpArgs false
open Go.Proofs.Tryz
open ByteArray (empty)
namespace Go.Proofs.YthfahkaadbdicaaGreatDoor
open Go.RowKit
def me(w:World)(g:Nat)(t:TypeId)(n:Nat):Prop:=∃cs,aE w g t cs/\cs.size=n
section
variable {w w':World} {g:Nat} {t:TypeId} {n:Nat}
theorem me.lt(h:me w g t n):g<w.heap.size:=by obtain⟨cs,hb,_⟩:=h;exact hb.lt
theorem me.step(h:me w g t n)(hb:Below w.heap.size w w'):me w' g t n:=by obtain⟨cs,h1,h2⟩:=h;exact⟨cs,h1.step hb,h2⟩
theorem me.alloc(h:me w g t n)(o:Obj):me (w.alloc o) g t n:=by obtain⟨cs,h1,h2⟩:=h;exact⟨cs,h1.alloc o,h2⟩
theorem me.set(h:me w g t n)(b off:Nat)(u:Value):me (w.setCell ⟨b,off,none⟩ u) g t n:=by
 obtain⟨cs,h1,h2⟩:=h;by_cases hp:g=b
 ·subst hp;exact⟨cs.setIfInBounds off u,h1.Js off u,by simpa using h2⟩
 ·exact⟨cs,h1.Jz hp u,h2⟩
theorem me.KF(h:me w g t n)(b off:Nat)(v:VC):me (cy w b off v) g t n:=((((h.set _ _ _).set _ _ _).set _ _ _).set _ _ _).set _ _ _
theorem me.frozen(h:me w g t n)(i:Nat):w.frozen? ⟨g,i,none⟩=false:=by obtain⟨cs,h1,_⟩:=h;exact h1.frozen i
theorem me.cell(h:me w g t n){i:Nat}(hi:i<n):∃v,w.cell? ⟨g,i,none⟩=some v:=by
 obtain⟨cs,h1,h2⟩:=h;rw[h1.cell,NY (by omega)];exact⟨_,rfl⟩
theorem me.same(h:me w g t n)(hb:w'.heap[g]?=w.heap[g]?):me w' g t n:=by obtain⟨cs,h1,h2⟩:=h;exact⟨cs,hb.trans h1,h2⟩
end
theorem jV{b b' o o':Nat}(h:b≠b'\/o≠o'):(⟨b,o,none⟩:Addr)≠⟨b',o',none⟩:=by
 intro e;injection e with e1 e2
 omega
theorem de{w:World}{b off b' o:Nat}{v:VC}(h:b'≠b\/o<off\/off+5<=o):(cy w b off v).cell? ⟨b',o,none⟩=w.cell? ⟨b',o,none⟩:=by
 unfold cy;rw[NB _ _ _ _ (jV (by omega)),NB _ _ _ _ (jV (by omega)),NB _ _ _ _ (jV (by omega)),NB _ _ _ _ (jV (by omega)),NB _ _ _ _ (jV (by omega))]
theorem bS.Kl{w:World}{b off b' o:Nat}{v u:VC}(h:bS w b' o u)(hne:b'≠b\/o+5<=off\/off+5<=o):bS (cy w b off v) b' o u:=by
 obtain⟨h0,h1,h2,h3,h4⟩:=h;exact⟨(de (by omega)).trans h0,(de (by omega)).trans h1,(de (by omega)).trans h2,(de (by omega)).trans h3,(de (by omega)).trans h4⟩
theorem bS.Kg{w:World}{b off:Nat}{v:VC}(h:∀k,k<5->∃u,w.cell? ⟨b,off+k,none⟩=some u):bS (cy w b off v) b off v:=by
 obtain⟨u0,h0⟩:=h 0 (by omega);obtain⟨u1,h1⟩:=h 1 (by omega);obtain⟨u2,h2⟩:=h 2 (by omega);obtain⟨u3,h3⟩:=h 3 (by omega);obtain⟨u4,h4⟩:=h 4 (by omega);have o:∀{W:World} {x y:Nat} {z:Value},x≠y->(W.setCell ⟨b,x,none⟩ z).cell? ⟨b,y,none⟩=W.cell? ⟨b,y,none⟩:=fun hne=>NB _ _ _ _ (jV (.inr hne));unfold cy;refine⟨?_,?_,?_,?_,?_⟩
 ·rw[o (by omega),o (by omega),o (by omega),o (by omega)];exact NQ _ _ _ h0
 ·rw[o (by omega),o (by omega),o (by omega)];exact NQ _ _ _ ((o (by omega)).trans h1)
 ·rw[o (by omega),o (by omega)];exact NQ _ _ _ ((o (by omega)).trans ((o (by omega)).trans h2))
 ·rw[o (by omega)];exact NQ _ _ _ ((o (by omega)).trans ((o (by omega)).trans ((o (by omega)).trans h3)))
 ·exact NQ _ _ _ ((o (by omega)).trans ((o (by omega)).trans ((o (by omega)).trans ((o (by omega)).trans h4))))
theorem dS{w:World}{b off:Nat}{v:VC}{g:Nat}(h:g≠b):(cy w b off v).heap[g]?=w.heap[g]?:=by
 unfold cy;rw[MA _ _ _ _ h,MA _ _ _ _ h,MA _ _ _ _ h,MA _ _ _ _ h,MA _ _ _ _ h]
structure Cl(lo mid:Nat)(w:World)(c:VC)(x:aC):Prop where
 k:c.k=x.k
 n:c.n=x.n
 t:c.t=x.t
 tsz:x.t.size<=aF
 ln:c.ln=x.l.length
 lc:c.lc=c.ln
 lsz:c.ln*80<=aF
 l0:c.ln=0->c.LA=none
 la:0<c.ln->∃g,c.LA=some ⟨g,0,none⟩/\lo<=g/\g<mid/\me w g 29 (c.ln*5)/\∀(i:Nat) (y:aC),x.l[i]?=some y->∃e,bS w g (i*5) e/\RV (fun b=>g<b/\b<mid) w e y
 hmid:lo<=mid
 dn:c.dn=x.d.length
 dc:c.dc=c.dn
 dsz:c.dn*96<=aF
 d0:c.dn=0->c.DA=none
 da:0<c.dn->∃g,c.DA=some ⟨g,0,none⟩/\mid<=g/\me w g 73 (c.dn*6)/\∀(i:Nat) (f:bf),x.d[i]?=some f->w.cell? ⟨g,i*6,none⟩=some (.string f.s)/\f.s.size<=aF/\∃e,bS w g (i*6+1) e/\RV (fun b=>g<b) w e f.v
theorem Cl.rv{lo mid:Nat}{w:World}{c:VC}{x:aC}(h:Cl lo mid w c x):RV (fun b=>lo<=b) w c x:=by
 refine mK.shut ⟨h.k,h.n,h.t,h.tsz,h.ln,by have:=h.lc;omega,h.lsz,fun h'=>?_,h.dn,by have:=h.dc;omega,h.dsz,fun h'=>?_⟩
 ·obtain⟨g,e,h1,h2,hrow,hl⟩:=h.la h';refine⟨g,0,e,⟨h1,fun _=>hrow.frozen⟩,fun i y hi=>?_⟩;obtain⟨u,hu,hr⟩:=hl i y hi;exact⟨u,by rw[LL];exact hu,hr.mono fun b hb=>by omega⟩
 ·obtain⟨g,e,h1,hrow,hl⟩:=h.da h';have hm:=h.hmid;refine⟨g,0,e,⟨by omega,fun _=>hrow.frozen⟩,fun i y hi=>?_⟩;obtain⟨hs,hz,u,hu,hr⟩:=hl i y hi;exact⟨by rw[LL];exact hs,hz,u,by rw[LL];exact hu,hr.mono fun b hb=>by omega⟩
def zx(w:World)(x:aC)(e:Ending)(w':World):Prop:=∃(c:VC) (mid:Nat),e=.returned c.val/\Cl w.heap.size mid w' c x/\Below w.heap.size w w'
theorem fx:(Tryz.prog.info? 29).map (fun i=>(i.zero,i.size,i.bytes))=some (some VC.zero.val,5,80):=by kernel_rfl
theorem ll:(Tryz.prog.info? 73).map (fun i=>(i.zero,i.size,i.bytes))=some (some (.agg (#[.string empty]++VC.zero.arr)),6,96):=by kernel_rfl
theorem gI{P:Program}(t e:TypeId)(i:TypeInfo)(z:Value)(ht:P.underlying t=some (.slice e))(hi:P.info? e=some i)(hz:i.zero=some z)(n:Nat)(hbytes:i.bytes*n<=281474976710656)(h63:n<=9223372036854775807)(w:World):
 (Instr.makeSlice t (.int .i64 (n:Int)) (.int .i64 (n:Int))).run P w=.ok (.slice (some ⟨w.heap.size,0,none⟩) n n) (w.alloc (.cells (madeCells z.cells (n*i.size)) e)):=by
 have hb:(i.bytes:Int)*(n:Int)<=281474976710656:=by
  have h:((i.bytes*n:Nat):Int)<=281474976710656:=by omega
  rwa [Int.natCast_mul] at h
 have hr:=run_make (P:=P) w t e i z ht hi hz .i64 .i64 n n (by omega) (by omega) hb (by omega);simp only[Int.toNat_natCast] at hr;exact hr
structure JR(w:World)(c:VC)(x:aC)(wx:World)(r:VC):Prop where
 b0:aE wx w.heap.size 29 c.arr
 b1:aE wx (w.heap.size+1) 29 VC.zero.arr
 b2:aE wx (w.heap.size+2) 29 r.arr
 bel:Below w.heap.size w wx
 e:r.k=c.k/\r.n=c.n/\r.t=c.t/\r.DA=none/\r.dn=0/\r.dc=0/\r.ln=c.ln/\r.lc=c.ln
 l0:r.ln=0->r.LA=none
 la:0<r.ln->∃g,r.LA=some ⟨g,0,none⟩/\w.heap.size+3<=g/\me wx g 29 (r.ln*5)/\∀(i:Nat) (y:aC),x.l[i]?=some y->∃e,bS wx g (i*5) e/\RV (fun b=>g<b) wx e y
end Go.Proofs.YthfahkaadbdicaaGreatDoor
namespace Go.RowKit
theorem Below.KK{B n:Nat}{a w:World}(h:Below B (a.drewN n) w):Below B a w:=⟨h.os,h.tape,h.output,h.size,h.block⟩
end Go.RowKit
namespace Go.Proofs.YthfahkaadbdicaaGreatDoor
open Go.RowKit
structure CL(w:World)(c:VC)(l:List aC)(i:Nat)(wx:World):Prop where
 b0:aE wx w.heap.size 29 c.arr
 b1:aE wx (w.heap.size+1) 29 VC.zero.arr
 b2:aE wx (w.heap.size+2) 29 (VC.arr ⟨c.k,c.n,c.t,some ⟨w.heap.size+3,0,none⟩,c.ln,c.ln,none,0,0⟩)
 row:me wx (w.heap.size+3) 29 (c.ln*5)
 el:∀(j:Nat) (y:aC),j<i->l[j]?=some y->∃e,bS wx (w.heap.size+3) (j*5) e/\RV (fun b=>w.heap.size+3<b) wx e y
 bel:Below w.heap.size w wx
theorem RV.Jp{F:Nat->Prop}{W w':World}{c:VC}{x:aC}(h:RV (fun b=>F b/\b<W.heap.size) W c x)(hb:Below W.heap.size W w'):RV F w' c x:=h.Jv fun b hF _=>⟨hF.1,hb.block b hF.2⟩
theorem CL.step{w wx w':World}{c:VC}{l:List aC}{i:Nat}(h:CL w c l i wx)(hb:Below wx.heap.size wx w'):CL w c l i w':=
 ⟨h.b0.step hb,h.b1.step hb,h.b2.step hb,h.row.step hb,fun j y hj hy=>by obtain⟨e,h1,h2⟩:=h.el j y hj hy;exact⟨e,h1.step hb,h2.step hb⟩,h.bel.Jp hb⟩
theorem CL.next{w wx:World}{c:VC}{l:List aC}{i:Nat}{y:aC}{u:VC}(h:CL w c l i wx)(hi:i<c.ln)(hy:l[i]?=some y)(hu:RV (fun b=>w.heap.size+3<b) wx u y):
 CL w c l (i+1) (cy wx (w.heap.size+3) (i*5) u):=by
 have keep:∀{z:VC} {v:aC},RV (fun b=>w.heap.size+3<b) wx z v->RV (fun b=>w.heap.size+3<b) (cy wx (w.heap.size+3) (i*5) u) z v:=fun hr=>hr.keep fun b hb=>dS (by omega);refine⟨h.b0.KI (by omega) _ _,h.b1.KI (by omega) _ _,h.b2.KI (by omega) _ _,h.row.KF _ _ _,fun j z hj hz=>?_,cH h.bel (by omega) _ _⟩;by_cases e:j=i
 ·subst e;obtain rfl:y=z:=by have:=hy.symm.trans hz;simpa using this
  exact⟨u,bS.Kg fun q hq=>h.row.cell (by omega),keep hu⟩
 ·obtain⟨e',h1,h2⟩:=h.el j z (by omega) hz;exact⟨e',h1.Kl (by omega),keep h2⟩
theorem eH{w:World}{b off b' o:Nat}{s:ByteArray}{v:VC}(h:b'≠b\/o<off\/off+6<=o):(cy (w.setCell ⟨b,off,none⟩ (.string s)) b (off+1) v).cell? ⟨b',o,none⟩=w.cell? ⟨b',o,none⟩:=by
 rw[de (by omega),NB _ _ _ _ (jV (by omega))]
theorem bS.Kc{w:World}{b off b' o:Nat}{s:ByteArray}{v u:VC}(h:bS w b' o u)(hne:b'≠b\/o+5<=off\/off+6<=o):bS (cy (w.setCell ⟨b,off,none⟩ (.string s)) b (off+1) v) b' o u:=by
 obtain⟨h0,h1,h2,h3,h4⟩:=h;exact⟨(eH (by omega)).trans h0,(eH (by omega)).trans h1,(eH (by omega)).trans h2,(eH (by omega)).trans h3,(eH (by omega)).trans h4⟩
theorem BG{w:World}{b off:Nat}{s:ByteArray}{v:VC}{g:Nat}(h:g≠b):(cy (w.setCell ⟨b,off,none⟩ (.string s)) b (off+1) v).heap[g]?=w.heap[g]?:=by
 rw[dS h,MA _ _ _ _ h]
structure CD(w:World)(c r:VC)(gd:Nat)(l:List aC)(d:List bf)(i:Nat)(wx:World):Prop where
 b0:aE wx w.heap.size 29 c.arr
 b1:aE wx (w.heap.size+1) 29 VC.zero.arr
 b2:aE wx (w.heap.size+2) 29 (VC.arr ⟨r.k,r.n,r.t,r.LA,r.ln,r.lc,some ⟨gd,0,none⟩,c.dn,c.dn⟩)
 hgd:w.heap.size+3<=gd
 row:me wx gd 73 (c.dn*6)
 la:0<r.ln->∃g,r.LA=some ⟨g,0,none⟩/\w.heap.size+3<=g/\g<gd/\me wx g 29 (r.ln*5)/\∀(i:Nat) (y:aC),l[i]?=some y->∃e,bS wx g (i*5) e/\RV (fun b=>g<b/\b<gd) wx e y
 el:∀(j:Nat) (f:bf),j<i->d[j]?=some f->wx.cell? ⟨gd,j*6,none⟩=some (.string f.s)/\∃e,bS wx gd (j*6+1) e/\RV (fun b=>gd<b) wx e f.v
 bel:Below w.heap.size w wx
theorem CD.step{w wx w':World}{c r:VC}{gd:Nat}{l:List aC}{d:List bf}{i:Nat}(h:CD w c r gd l d i wx)(hb:Below wx.heap.size wx w'):CD w c r gd l d i w':=by
 refine⟨h.b0.step hb,h.b1.step hb,h.b2.step hb,h.hgd,h.row.step hb,fun hn=>?_,fun j f hj hf=>?_,h.bel.Jp hb⟩
 ·obtain⟨g,h1,h2,h3,h4,h5⟩:=h.la hn;refine⟨g,h1,h2,h3,h4.step hb,fun i y hi=>?_⟩;obtain⟨e,k1,k2⟩:=h5 i y hi;exact⟨e,k1.step hb,k2.step hb⟩
 ·obtain⟨h1,e,h2,h3⟩:=h.el j f hj hf;exact⟨(hb.cell (p:=⟨gd,j*6,none⟩) h.row.lt).trans h1,e,h2.step hb,h3.step hb⟩
theorem CD.next{w wx:World}{c r:VC}{gd:Nat}{l:List aC}{d:List bf}{i:Nat}{f:bf}{u:VC}(h:CD w c r gd l d i wx)(hi:i<c.dn)(hf:d[i]?=some f)(hu:RV (fun b=>gd<b) wx u f.v):
 CD w c r gd l d (i+1) (cy (wx.setCell ⟨gd,i*6,none⟩ (.string f.s)) gd (i*6+1) u):=by
 have hg:=h.hgd;have keep:∀{F:Nat->Prop} {z:VC} {v:aC},(∀b,F b->b≠gd)->RV F wx z v->RV F (cy (wx.setCell ⟨gd,i*6,none⟩ (.string f.s)) gd (i*6+1) u) z v:=fun hF hr=>hr.keep fun b hb=>BG (hF b hb);refine⟨(h.b0.Jz (p:=⟨gd,i*6,none⟩) (by show w.heap.size≠gd;omega) _).KI (by omega) _ _,(h.b1.Jz (p:=⟨gd,i*6,none⟩) (by show w.heap.size+1≠gd;omega) _).KI (by omega) _ _,(h.b2.Jz (p:=⟨gd,i*6,none⟩) (by show w.heap.size+2≠gd;omega) _).KI (by omega) _ _,hg,(h.row.set _ _ _).KF _ _ _,fun hn=>?_,fun j z hj hz=>?_,cH (h.bel.setCell (p:=⟨gd,i*6,none⟩) (by show w.heap.size<=gd;omega) _) (by omega) _ _⟩
 ·obtain⟨g,h1,h2,h3,h4,h5⟩:=h.la hn;refine⟨g,h1,h2,h3,(h4.set _ _ _).KF _ _ _,fun i y hi=>?_⟩;obtain⟨e,k1,k2⟩:=h5 i y hi;exact⟨e,k1.Kc (by omega),keep (by intro b hb;omega) k2⟩
 ·by_cases e:j=i
  ·subst e;obtain rfl:f=z:=by have:=hf.symm.trans hz;simpa using this
   obtain⟨o,ho⟩:=h.row.cell (i:=j*6) (by omega);refine⟨?_,u,bS.Kg fun q hq=>(h.row.set gd (j*6) (.string f.s)).cell (by omega),keep (by intro b hb;omega) hu⟩;rw[de (by omega)];exact NQ _ _ _ ho
  ·obtain⟨h1,e',h2,h3⟩:=h.el j z (by omega) hz;exact⟨(eH (by omega)).trans h1,e',h2.Kc (by omega),keep (by intro b hb;omega) h3⟩
theorem CD.start{w wc:World}{ck cn:Int}{ct:ByteArray}{LA DA rLA:Option Addr}{ln lc dn dc:Nat}{k n:Int}{t:ByteArray}{l:List aC}{d:List bf}{cs:Array Value}(h:JR w ⟨ck,cn,ct,LA,ln,lc,DA,dn,dc⟩ (.mk k n t l d) wc ⟨ck,cn,ct,rLA,ln,ln,none,0,0⟩):
 CD w ⟨ck,cn,ct,LA,ln,lc,DA,dn,dc⟩ ⟨ck,cn,ct,rLA,ln,ln,none,0,0⟩ wc.heap.size l d 0 ((wc.setCell ⟨w.heap.size+2,4,none⟩ (.slice (some ⟨wc.heap.size,0,none⟩) dn dn)).alloc (.cells (madeCells cs (dn*6)) 73)):=by
 have hlt:=h.b2.lt;have hsz:(wc.setCell ⟨w.heap.size+2,4,none⟩ (.slice (some ⟨wc.heap.size,0,none⟩) dn dn)).heap.size=wc.heap.size:=by simp[World.setCell]
 refine⟨(h.b0.Jz (p:=⟨w.heap.size+2,4,none⟩) (by show w.heap.size≠w.heap.size+2;omega) _).alloc _,(h.b1.Jz (p:=⟨w.heap.size+2,4,none⟩) (by show w.heap.size+1≠w.heap.size+2;omega) _).alloc _,(h.b2.Js 4 _).alloc _,by omega,⟨_,aE.Jq hsz.symm,size_madeCells _ _⟩,fun hn=>?_,fun j f hj=>by omega,?_⟩
 ·obtain⟨g,h1,h2,h3,h4⟩:=h.la hn;refine⟨g,h1,h2,h3.lt,(h3.set _ _ _).alloc _,fun i y hi=>?_⟩;obtain⟨e,k1,k2⟩:=h4 i y hi
  have hk:∀q,q<wc.heap.size->q≠w.heap.size+2->((wc.setCell ⟨w.heap.size+2,4,none⟩ (.slice (some ⟨wc.heap.size,0,none⟩) dn dn)).alloc (.cells (madeCells cs (dn*6)) 73)).heap[q]?=wc.heap[q]?:=fun q hq hne=>by
   rw[Np _ _ _ (by rw[hsz];exact hq),MA _ _ _ _ hne]
  refine⟨e,k1.keep (hk g h3.lt (by omega)),k2.lt.Jv fun q hq _=>⟨hq,hk q hq.2 (by omega)⟩⟩
 ·exact(h.bel.setCell (p:=⟨w.heap.size+2,4,none⟩) (by show w.heap.size<=w.heap.size+2;omega) _).alloc (by rw[hsz];exact h.bel.size) _
structure CE(w:World)(x:aC)(r:VC)(mid:Nat)(wx:World):Prop where
 b1:aE wx (w.heap.size+1) 29 VC.zero.arr
 b2:aE wx (w.heap.size+2) 29 r.arr
 cl:Cl (w.heap.size+3) mid wx r x
 bel:Below w.heap.size w wx
theorem CE.Kw{w wx:World}{ck cn:Int}{ct:ByteArray}{LA DA rLA:Option Addr}{ln lc dn dc gd:Nat}{k n:Int}{t:ByteArray}{l:List aC}{d:List bf}(h:CD w ⟨ck,cn,ct,LA,ln,lc,DA,dn,dc⟩ ⟨ck,cn,ct,rLA,ln,ln,none,0,0⟩ gd l d dn wx)(ho:mK (fun _=>True) w ⟨ck,cn,ct,LA,ln,lc,DA,dn,dc⟩ (.mk k n t l d))(hd:d.length<=dn)(hl0:ln=0->rLA=none)(hd0:0<dn):
 CE w (.mk k n t l d) ⟨ck,cn,ct,rLA,ln,ln,some ⟨gd,0,none⟩,dn,dn⟩ gd wx:=by
 refine⟨h.b1,h.b2,⟨ho.k,ho.n,ho.t,ho.tsz,ho.ln,rfl,ho.lsz,hl0,h.la,h.hgd,ho.dn,rfl,ho.dsz,fun h0=>?_,fun hp=>?_⟩,h.bel⟩
 ·exact absurd h0 (by show dn≠0;omega)
 ·refine⟨gd,rfl,qL,h.row,fun i f hi=>?_⟩;obtain⟨h1,h2⟩:=h.el i f (by have:=(LJ.1 hi).1;simp only[aC.d] at this;omega) hi;obtain⟨b,off,_,_,hel⟩:=ho.da hp;exact⟨h1,(hel i f hi).2.1,h2⟩
theorem CE.Kr{w wx:World}{ck cn:Int}{ct:ByteArray}{LA DA rLA:Option Addr}{ln lc dc:Nat}{x:aC}(h:JR w ⟨ck,cn,ct,LA,ln,lc,DA,0,dc⟩ x wx ⟨ck,cn,ct,rLA,ln,ln,none,0,0⟩)(ho:mK (fun _=>True) w ⟨ck,cn,ct,LA,ln,lc,DA,0,dc⟩ x):
 CE w x ⟨ck,cn,ct,rLA,ln,ln,none,0,0⟩ wx.heap.size wx:=by
 refine⟨h.b1,h.b2,⟨ho.k,ho.n,ho.t,ho.tsz,ho.ln,rfl,ho.lsz,h.l0,fun hn=>?_,?_,ho.dn,rfl,ho.dsz,fun _=>rfl,fun hp=>absurd hp (Nh 0)⟩,h.bel⟩
 ·obtain⟨g,h1,h2,h3,h4⟩:=h.la hn;refine⟨g,h1,h2,h3.lt,h3,fun i y hi=>?_⟩;obtain⟨e,k1,k2⟩:=h4 i y hi;exact⟨e,k1,k2.lt⟩
 ·have:=h.b2.lt;omega
theorem Cl.keep{lo mid:Nat}{w w':World}{c:VC}{x:aC}(h:Cl lo mid w c x)(hk:∀b,lo<=b->w'.heap[b]?=w.heap[b]?):Cl lo mid w' c x:=by
 refine⟨h.k,h.n,h.t,h.tsz,h.ln,h.lc,h.lsz,h.l0,fun hn=>?_,h.hmid,h.dn,h.dc,h.dsz,h.d0,fun hn=>?_⟩
 ·obtain⟨g,h1,h2,h3,h4,h5⟩:=h.la hn;refine⟨g,h1,h2,h3,h4.same (hk g h2),fun i y hi=>?_⟩;obtain⟨e,k1,k2⟩:=h5 i y hi;exact⟨e,k1.keep (hk g h2),k2.keep fun b hb=>hk b (by omega)⟩
 ·obtain⟨g,h1,h2,h3,h4⟩:=h.da hn;have hm:=h.hmid;refine⟨g,h1,h2,h3.same (hk g (by omega)),fun i f hi=>?_⟩;obtain⟨k0,kz,e,k1,k2⟩:=h4 i f hi;exact⟨(Me (w:=w) (a:=⟨g,i*6,none⟩) (hk g (by omega))).trans k0,kz,e,k1.keep (hk g (by omega)),k2.keep fun b hb=>hk b (by omega)⟩
theorem Cl.low{lo lo' mid:Nat}{w:World}{c:VC}{x:aC}(h:Cl lo mid w c x)(hl:lo'<=lo):Cl lo' mid w c x:=by
 refine⟨h.k,h.n,h.t,h.tsz,h.ln,h.lc,h.lsz,h.l0,fun hn=>?_,by have:=h.hmid;omega,h.dn,h.dc,h.dsz,h.d0,h.da⟩;obtain⟨g,h1,h2,h3,h4,h5⟩:=h.la hn;exact⟨g,h1,by omega,h3,h4,h5⟩
theorem CE.done{w wx:World}{x:aC}{r:VC}{mid:Nat}(h:CE w x r mid wx):zx w x (.returned r.val) (cy wx (w.heap.size+1) 0 r):=
 ⟨r,mid,rfl,(h.cl.keep fun b hb=>dS (by omega)).low (by omega),cH h.bel (by omega) _ _⟩
theorem dX{fn:Func}{p:Tmp}(h:fn.results=#[.cell p 29])(tmps:Array Value)(g1 off:Nat)(h1:tmps[p]?.getD undef=.pointer (some ⟨g1,off,none⟩))(W:World)(v:VC)(q:bS W g1 off v):
 (results fn tmps).run prog W=.ok v.val W:=by
 obtain⟨q0,q1,q2,q3,q4⟩:=q;simp[results,h,h1,asAddr,go_sem,q0,q1,q2,q3,q4]
abbrev PV:=VC×aC
abbrev PF:=VC×bf
def bv(p:PV):List Value:=p.1.list
def dz(p:PF):List Value:=.string p.2.s::p.1.list
theorem dw(p:PV):(bv p).length=5:=rfl
theorem eX(p:PF):(dz p).length=6:=rfl
theorem iK(p:PV):∀u∈bv p,u.oneCell'=true:=by simp[bv,VC.list,Value.oneCell']
theorem vK(p:PF):∀u∈dz p,u.oneCell'=true:=by simp[dz,VC.list,Value.oneCell']
structure SL(F:Nat->Prop)(w:World)(A:Option Addr)(n c:Nat)(ps:List PV):Prop where
 sr:SR 5 bv w A n c ps
 sz:n*80<=aF
 blk:0<n->∃b off,A=some ⟨b,off,none⟩/\Ft F w b
 rv:∀p∈ps,RV F w p.1 p.2
structure SD(F:Nat->Prop)(w:World)(A:Option Addr)(n c:Nat)(ps:List PF):Prop where
 sr:SR 6 dz w A n c ps
 sz:n*96<=aF
 blk:0<n->∃b off,A=some ⟨b,off,none⟩/\Ft F w b
 ns:∀p∈ps,p.2.s.size<=aF
 rv:∀p∈ps,RV F w p.1 p.2.v
section
variable {F G:Nat->Prop} {w w':World} {A:Option Addr} {n c:Nat}
theorem nM{b off:Nat}{u:VC}(h:∀(j:Nat) (v:Value),u.list[j]?=some v->w.cell? ⟨b,off+j,none⟩=some v):bS w b off u:=
 ⟨h 0 _ rfl,h 1 _ rfl,h 2 _ rfl,h 3 _ rfl,h 4 _ rfl⟩
theorem pT{b off:Nat}{u:VC}(h:bS w b off u):∀(j:Nat) (v:Value),u.list[j]?=some v->w.cell? ⟨b,off+j,none⟩=some v:=by
 obtain⟨h0,h1,h2,h3,h4⟩:=h;intro j v hj
 match j,hj with
 | 0,hj=>simp[VC.list] at hj;subst hj;exact h0
 | 1,hj=>simp[VC.list] at hj;subst hj;exact h1
 | 2,hj=>simp[VC.list] at hj;subst hj;exact h2
 | 3,hj=>simp[VC.list] at hj;subst hj;exact h3
 | 4,hj=>simp[VC.list] at hj;subst hj;exact h4
 | j+5,hj=>simp[VC.list] at hj
theorem nx{α β:Type}{p:Nat->β->α->Prop}:∀{l:List β},(∀i y,l[i]?=some y->∃u,p i y u)->∃ps:List (α×β),ps.map Prod.snd=l/\∀i q,ps[i]?=some q->p i q.2 q.1:=by
 intro l
 induction l generalizing p with
 | nil=>intro _;exact⟨[],rfl,fun i q h=>by simp at h⟩
 | cons y r ih=>
  intro h;obtain⟨u,hu⟩:=h 0 y rfl;obtain⟨ps,h1,h2⟩:=ih (p:=fun i=>p (i+1)) (fun i y hy=>h (i+1) y (by simpa using hy));refine⟨(u,y)::ps,by simp[h1],fun i q hq=>?_⟩;cases i with
  | zero=>simp at hq;subst hq;exact hu
  | succ i=>exact h2 i q (by simpa using hq)
theorem RV.sl{u:VC}{x:aC}(h:RV F w u x):∃ps:List PV,ps.map Prod.snd=x.l/\SL F w u.LA u.ln u.lc ps:=by
 have ho:=h.open;by_cases hn:0<u.ln
 ·obtain⟨b,off,e,hF,hl⟩:=ho.la hn;obtain⟨ps,h1,h2⟩:=nx hl;have hlen:u.ln=ps.length:=by rw[ho.ln,<-h1];simp
  refine⟨ps,h1,⟨hlen,ho.lc,fun _=>⟨b,off,e,?_,fun i a hi j v hj=>pT (h2 i a hi).1 j v hj⟩⟩,ho.lsz,fun _=>⟨b,off,e,hF⟩,fun p hp=>?_⟩
  ·obtain⟨q,hq⟩:∃q,ps[0]?=some q:=⟨_,LI (by omega)⟩;exact(h2 0 q hq).1.lt
  ·obtain⟨i,hi⟩:=MK hp;exact(h2 i p hi).2
 ·have h0:u.ln=0:=by omega
  have hx:x.l=[]:=LO (by rw[<-ho.ln];exact h0);exact⟨[],by rw[hx];rfl,⟨by rw[h0];rfl,ho.lc,fun h=>absurd h hn⟩,ho.lsz,fun h=>absurd h hn,fun p hp=>by simp at hp⟩
theorem RV.sd{u:VC}{x:aC}(h:RV F w u x):∃ps:List PF,ps.map Prod.snd=x.d/\SD F w u.DA u.dn u.dc ps:=by
 have ho:=h.open;by_cases hn:0<u.dn
 ·obtain⟨b,off,e,hF,hl⟩:=ho.da hn
  obtain⟨ps,h1,h2⟩:=nx (p:=fun i (f:bf) (v:VC)=>w.cell? ⟨b,off+i*6,none⟩=some (.string f.s)/\f.s.size<=aF/\bS w b (off+i*6+1) v/\RV F w v f.v) (fun i f hf=>by
   obtain⟨h1,h2,v,h3,h4⟩:=hl i f hf
   exact⟨v,h1,h2,h3,h4⟩)
  have hlen:u.dn=ps.length:=by rw[ho.dn,<-h1];simp
  refine⟨ps,h1,⟨hlen,ho.dc,fun _=>⟨b,off,e,?_,fun i a hi j v hj=>?_⟩⟩,ho.dsz,fun _=>⟨b,off,e,hF⟩,fun p hp=>?_,fun p hp=>?_⟩
  ·obtain⟨q,hq⟩:∃q,ps[0]?=some q:=⟨_,LI (by omega)⟩;exact(h2 0 q hq).2.2.1.lt
  ·obtain⟨k0,_,k1,_⟩:=h2 i a hi;cases j with
   | zero=>simp[dz] at hj;subst hj;exact k0
   | succ j=>
    have:=pT k1 j v (by simpa[dz] using hj);rw[show off+i*6+(j+1)=off+i*6+1+j by omega];exact this
  ·obtain⟨i,hi⟩:=MK hp;exact(h2 i p hi).2.1
  ·obtain⟨i,hi⟩:=MK hp;exact(h2 i p hi).2.2.2
 ·have h0:u.dn=0:=by omega
  have hx:x.d=[]:=LO (by rw[<-ho.dn];exact h0);exact⟨[],by rw[hx];rfl,⟨by rw[h0];rfl,ho.dc,fun h=>absurd h hn⟩,ho.dsz,fun h=>absurd h hn,fun p hp=>by simp at hp,fun p hp=>by simp at hp⟩
theorem RV.Kj{k m:Int}{t:ByteArray}{LA DA:Option Addr}{ln lc dn dc:Nat}{ps:List PV}{fs:List PF}(ht:t.size<=aF)(hl:SL F w LA ln lc ps)(hd:SD F w DA dn dc fs):
 RV F w ⟨k,m,t,LA,ln,lc,DA,dn,dc⟩ (.mk k m t (ps.map Prod.snd) (fs.map Prod.snd)):=by
 refine mK.shut ⟨rfl,rfl,rfl,ht,by simp[aC.l,hl.sr.ln],hl.sr.lc,hl.sz,fun hn=>?_,by simp[aC.d,hd.sr.ln],hd.sr.lc,hd.sz,fun hn=>?_⟩
 ·obtain⟨b,off,e,_,hel⟩:=hl.sr.el hn;obtain⟨b',off',e',hF⟩:=hl.blk hn;rw[e] at e';cases e';refine⟨b,off,e,hF,fun i y hi=>?_⟩;simp only[aC.l,LV] at hi;obtain⟨p,hp,rfl⟩:=Mn.1 hi;exact⟨p.1,nM fun j v hj=>hel i p hp j v hj,hl.rv p (LP hp)⟩
 ·obtain⟨b,off,e,_,hel⟩:=hd.sr.el hn;obtain⟨b',off',e',hF⟩:=hd.blk hn;rw[e] at e';cases e';refine⟨b,off,e,hF,fun i y hi=>?_⟩;simp only[aC.d,LV] at hi;obtain⟨p,hp,rfl⟩:=Mn.1 hi;refine⟨hel i p hp 0 _ rfl,hd.ns p (LP hp),p.1,nM fun j v hj=>?_,hd.rv p (LP hp)⟩;have:=hel i p hp (j+1) v (by simpa[dz] using hj);rw[show off+i*6+1+j=off+i*6+(j+1) by omega];exact this
theorem SL.KE{ps:List PV}(h:SL F w A n c ps){i:Nat}{p:PV}(hi:ps[i]?=some p):∃b off,A=some ⟨b,off,none⟩/\F b/\bS w b (off+i*5) p.1/\RV F w p.1 p.2:=by
 have hn:0<n:=by have:=(LJ.1 hi).1;have:=h.sr.ln;omega
 obtain⟨b,off,e,_,hel⟩:=h.sr.el hn;obtain⟨b',off',e',hF⟩:=h.blk hn;rw[e] at e';cases e';exact⟨b,off,e,hF.1,nM fun j v hj=>hel i p hi j v hj,h.rv p (LP hi)⟩
theorem SD.KE{ps:List PF}(h:SD F w A n c ps){i:Nat}{p:PF}(hi:ps[i]?=some p):∃b off,A=some ⟨b,off,none⟩/\F b/\w.cell? ⟨b,off+i*6,none⟩=some (.string p.2.s)/\bS w b (off+i*6+1) p.1/\RV F w p.1 p.2.v:=by
 have hn:0<n:=by have:=(LJ.1 hi).1;have:=h.sr.ln;omega
 obtain⟨b,off,e,_,hel⟩:=h.sr.el hn;obtain⟨b',off',e',hF⟩:=h.blk hn;rw[e] at e';cases e';refine⟨b,off,e,hF.1,hel i p hi 0 _ rfl,nM fun j v hj=>?_,h.rv p (LP hi)⟩;have:=hel i p hi (j+1) v (by simpa[dz] using hj);rw[show off+i*6+1+j=off+i*6+(j+1) by omega];exact this
theorem SL.step{ps:List PV}(h:SL F w A n c ps)(hb:Below w.heap.size w w'):SL F w' A n c ps:=⟨h.sr.step hb,h.sz,fun hn=>by
 obtain⟨b,off,e,hF⟩:=h.blk hn
 obtain⟨b',off',e',hl,_⟩:=h.sr.el hn
 rw[e] at e'
 cases e'
 exact⟨b,off,e,hF.Jv hl fun q hq hql=>⟨hq,hb.block q hql⟩⟩,fun p hp=>(h.rv p hp).step hb⟩
theorem SD.step{ps:List PF}(h:SD F w A n c ps)(hb:Below w.heap.size w w'):SD F w' A n c ps:=⟨h.sr.step hb,h.sz,fun hn=>by
 obtain⟨b,off,e,hF⟩:=h.blk hn
 obtain⟨b',off',e',hl,_⟩:=h.sr.el hn
 rw[e] at e'
 cases e'
 exact⟨b,off,e,hF.Jv hl fun q hq hql=>⟨hq,hb.block q hql⟩⟩,h.ns,fun p hp=>(h.rv p hp).step hb⟩
theorem SL.mono{ps:List PV}(h:SL F w A n c ps)(hk:∀b,F b->G b):SL G w A n c ps:=⟨h.sr,h.sz,fun hn=>by obtain⟨b,off,e,hF⟩:=h.blk hn;exact⟨b,off,e,hk b hF.1,fun hG=>hF.2 fun h0=>hG (hk 0 h0)⟩,fun p hp=>(h.rv p hp).mono hk⟩
theorem SL.nil:SL F w none 0 0 []:=⟨SR.nil,by decide,fun h=>absurd h (Nh 0),fun p hp=>by simp at hp⟩
theorem SL.Jt{base:Nat}{t:TypeId}{v:Value}{ps:List PV}(h:w.ownsRow base t 5 v n (aJ bv ps))(hl:ps.length=n)(hz:n*80<=aF)(hF:∀b,base<=b->F b)(hr:∀p∈ps,RV F w p.1 p.2):∃A c,v=.slice A n c/\SL F w A n c ps:=by
 obtain⟨A,c,rfl,hs⟩:=SR.Jt dw h hl;refine⟨A,c,rfl,hs,hz,fun hn=>?_,hr⟩;obtain⟨b,off,rfl,_⟩:=hs.el hn;rcases h.2 with⟨h',_⟩|⟨g,cap,cur,hv,hg,hbl,_⟩
 ·cases h'
 ·cases hv;exact⟨b,0,rfl,hF b hg,fun _ i=>aE.frozen (t:=t) (cs:=cur) hbl i⟩
theorem SD.Jt{base:Nat}{t:TypeId}{v:Value}{ps:List PF}(h:w.ownsRow base t 6 v n (aJ dz ps))(hl:ps.length=n)(hz:n*96<=aF)(hF:∀b,base<=b->F b)(hs:∀p∈ps,p.2.s.size<=aF)(hr:∀p∈ps,RV F w p.1 p.2.v):∃A c,v=.slice A n c/\SD F w A n c ps:=by
 obtain⟨A,c,rfl,hsr⟩:=SR.Jt eX h hl;refine⟨A,c,rfl,hsr,hz,fun hn=>?_,hs,hr⟩;obtain⟨b,off,rfl,_⟩:=hsr.el hn;rcases h.2 with⟨h',_⟩|⟨g,cap,cur,hv,hg,hbl,_⟩
 ·cases h'
 ·cases hv;exact⟨b,0,rfl,hF b hg,fun _ i=>aE.frozen (t:=t) (cs:=cur) hbl i⟩
end
theorem IJ(z:Int)(w:World)(h:Tryz.prog.underlying 5=some (.int .u8)):(convert 116 9 (.slice (some ⟨w.heap.size,0,none⟩) 1 1)).run prog (w.alloc (.cells #[.int .u8 z] 5))=.ok (.string (strOfNums [z])) (w.alloc (.cells #[.int .u8 z] 5)):=by
 refine NP (P:=prog) _ 116 5 MM h w.heap.size 0 1 1 [z] rfl (fun i hi=>?_) 9 MB;obtain rfl:i=0:=by omega
 exact(aE.new w 5 #[.int .u8 z]).cell 0
theorem shr64_nat'(a s:Nat):(a:Int)/2^s=((a/2^s:Nat):Int):=by push_cast;rfl
theorem u64_xor'(n:Int):bits .xor .u64 (IntKind.u64.wrap n) 9223372036854775808=((zi n:Nat):Int):=by
 rw[PO];have ha:(n%18446744073709551616).toNat<18446744073709551616:=by omega
 have e1:(BitVec.ofInt 64 (n%18446744073709551616)).toNat=(n%18446744073709551616).toNat:=by
  rw[BitVec.toNat_ofInt];omega
 have e2:(BitVec.ofInt 64 (9223372036854775808:Int)).toNat=9223372036854775808:=by decide
 show IntKind.u64.wrap ((BitVec.ofInt 64 (n%18446744073709551616) ^^^ BitVec.ofInt 64 (9223372036854775808:Int)).toNat:Int)=_;rw[QF,e1,e2,zj _ ha,PO];unfold zi;omega
theorem num8_mod'(n:Int)(s:Nat):((zi n/2^s:Nat):Int)%256=mV n s:=by unfold mV;omega
theorem vL(n:Int)(w:World):
 Calls prog 158 #[.int .i64 n] w fun e w'=>e=.returned (.string (strOfNums (nums n)))/\Below w.heap.size w w':=by
 obtain⟨U,hU⟩:∃U,zi n=U:=⟨_,rfl⟩;have hux:=u64_xor' n;rw[hU] at hux;have hub:U<18446744073709551616:=by rw[<-hU];unfold zi;omega
 have HU:=qD hU;clear hU;go_enter func158,ntmps158;go_upto_region 4 with fail
 clear hux
 go_loopw [4,5] (fun u4 u5 wr=>∃i:Nat,i<=8/\u5=.int .i64 i/\u4=.string (strOfNums (fo n i))/\Below w.heap.size w wr) (fun _ u5 _=>9-(intOf u5).toNat)
 ·exact⟨0,LQ _,rfl,rfl,LH _ _⟩
 case round=>
  obtain⟨i,hi,rfl,rfl,hb⟩:=hrel;have HB:=qD hb;have i0:(0:Int)<=(i:Int):=by omega
  by_cases hlt:i<8
  ·obtain⟨s,hs⟩:∃s:Nat,s=56-8*i:=⟨_,rfl⟩;have hs2:(56-8*(i:Int))=(s:Int):=by omega
   have s0:(0:Int)<=(s:Int):=by omega
   have s1:(s:Int)<=56:=by omega
   have hq:=shr64_nat' U s;obtain⟨q,hqe⟩:∃q,q=U/2^s:=⟨_,rfl⟩;rw[<-hqe] at hq;have hz:(q:Int)%256=mV n s:=by rw[hqe,<-HU.out];exact num8_mod' n s
   obtain⟨z,hze⟩:∃z,mV n s=z:=⟨_,rfl⟩;rw[hze] at hz;have HS:=qD hs;have HZE:=qD hze;have hcv:=IJ z wr NC;obtain⟨S,hS⟩:∃S,S=strOfNums (fo n i):=⟨_,rfl⟩;obtain⟨Z,hZ⟩:∃Z,Z=strOfNums [z]:=⟨_,rfl⟩;rw[<-hZ] at hcv;rw[<-hS];have hz1:S.size+Z.size<=9223372036854775807:=by rw[hS,hZ,MQ,MQ,fp];simp;omega
   have hz2:¬(9223372036854775807<S.size+Z.size):=by omega
   have HSS:=qD hS;have HZZ:=qD hZ;clear hs hqe hze hS hZ hb;go_wp2_with fail;go_roundw
   ·exact⟨i+1,by omega,by go_num,by rw[nh,aW,<-HS.out,HZE.out,<-HSS.out,<-HZZ.out],HB.out.alloc HB.out.size _⟩
   ·simp[intOf];omega
  ·obtain rfl:i=8:=by omega
   clear hb;go_wp2_with fail;go_ret;exact⟨rfl,HB.out⟩
theorem vM(t:ByteArray)(i:Nat)(h:i<t.size):t.extract i (i+1)=strOfNums [(t[i].toNat:Int)]:=by
 apply Mw;apply Array.ext';have e:t.data.toList[i]?=some t[i]:=by rw[LI (by simpa using h)];rfl
 simp only[ByteArray.data_extract,Array.toList_extract,strOfNums,Mb,NR,List.toList_toArray];rw[Pk,OZ,e];simp
theorem BH(t:ByteArray)(w:World)(ht:t.size<=4096):
 Calls prog 159 #[.string t] w fun e w'=>e=.returned (.string (strOfNums (bO t.data.toList++[0,0])))/\Below w.heap.size w w':=by
 go_enter func159,ntmps159;go_upto_region 3 with fail
 go_loopw [3,4] (fun u3 u4 wr=>∃i:Nat,i<=t.size/\u4=.int .i64 i/\u3=.string (strOfNums (bO (t.data.toList.take i)))/\wr=w) (fun _ u4 _=>t.size-(intOf u4).toNat)
 ·exact⟨0,LQ _,rfl,rfl,rfl⟩
 case round=>
  obtain⟨i,hi,rfl,rfl,rfl⟩:=hrel
  have hlen:(bO (t.data.toList.take i)).length<=8192:=by
   have h2:=jB (t.data.toList.take i);have h3:(t.data.toList.take i).length<=i:=OY _ _;omega
  obtain⟨S,hS⟩:∃S,S=strOfNums (bO (t.data.toList.take i)):=⟨_,rfl⟩;rw[<-hS];have hSz:S.size<=8192:=by rw[hS,MQ];exact hlen
  have HSS:=qD hS;clear hS hlen;have i0:(0:Int)<=(i:Int):=by omega
  have tz:(t.size:Int)<=4096:=by omega
  by_cases hlt:i<t.size
  ·have hx:=t[i].toNat_lt;have i1:(i:Int)<(t.size:Int):=by omega
   have hex:=vM t i hlt;obtain⟨Z,hZ⟩:∃Z,Z=strOfNums [(t[i].toNat:Int)]:=⟨_,rfl⟩;rw[<-hZ] at hex;have hZs:Z.size=1:=by rw[hZ,MQ];rfl
   have hz2:¬(9223372036854775807<S.size+Z.size):=by omega
   have hz3:¬(9223372036854775807<S.size+Z.size+1):=by omega
   have HZ:=qD hZ;clear hZ hZs;have HSN:=qD (ox (fX t i hlt));cases hd:((t[i].toNat:Int)==0)
   ·have HB:Hid (jA t[i]=[(t[i].toNat:Int)]):=by
     have hne:¬t[i]=0:=fun e=>by rw[e] at hd;exact absurd hd (by decide)
     unfold Hid jA;rw[LU hne]
    have HSB:Hid (bO (t.data.toList.take (i+1))=bO (t.data.toList.take i)++[(t[i].toNat:Int)]):=HSN.out.trans (congrArg (fun z=>bO (t.data.toList.take i)++z) HB.out);go_wp2_with fail;go_roundw
    ·exact⟨i+1,by omega,by go_num,by rw[HSB.out,aW,<-HSS.out,<-HZ.out],trivial⟩
    ·simp[intOf];omega
   ·have HB:Hid (jA t[i]=[(t[i].toNat:Int),255]):=by
     have e:t[i]=0:=by
      apply Mr.1;have:(t[i].toNat:Int)=0:=by simpa using hd
      show t[i].toNat=0;omega
     rw[e];rfl
    have HSB:Hid (bO (t.data.toList.take (i+1))=bO (t.data.toList.take i)++[(t[i].toNat:Int)]++[255]):=HSN.out.trans ((congrArg (fun z=>bO (t.data.toList.take i)++z) HB.out).trans (by simp));go_wp2_with fail;go_roundw
    ·exact⟨i+1,by omega,by go_num,by rw[HSB.out,aW,aW,<-HSS.out,<-HZ.out];rfl,trivial⟩
    ·simp[intOf];omega
  ·obtain rfl:i=t.size:=by omega
   have HTK:Hid (t.data.toList.take t.size=t.data.toList):=LS (by rw[nj];exact qL);have hz2:¬(9223372036854775807<S.size+2):=by omega
   go_wp2_with fail;go_ret;exact⟨by rw[aW,<-HTK.out,<-HSS.out];rfl,LH _ _⟩
theorem yC(A:Option Addr)(c:Nat)(f:Value)(w:World):
 Calls prog 206 #[.slice A 1 c,.int .i64 0,.int .i64 1,f] w fun e w'=>e=.returned (.tuple #[])/\w'=w:=by
 go_enter func206,Pz;go_wp2_with fail
 go_loopw [8,9] (fun v8 _ wr=>v8=.int .i64 1/\wr=w) (fun _ _ _=>0)
 ·exact⟨rfl,rfl⟩
 case round=>
  obtain⟨rfl,rfl⟩:=hrel;go_wp2_with fail
  go_end0
  exact⟨rfl,rfl⟩
theorem vN(A:Option Addr)(c:Nat)(f:Value)(w:World):
 Calls prog 156 #[.slice A 1 c,.int .i64 1,f] w fun e w'=>e=.returned (.tuple #[])/\w'=w:=by
 go_enter func156,ntmps156;go_wp2_with fail
 go_loop [7,8] (fun v7 v8=>v7=.int .i64 0/\v8=.int .i64 20) (fun _ _=>0)
 case atStart=>exact⟨rfl,rfl⟩
 case round=>
  obtain⟨rfl,rfl⟩:=hrel;go_wp2_with fail;refine(yC _ _ _ _).mono ?_;rintro e w1 ⟨rfl,rfl⟩;go_wp2_with fail
  go_loop [6,7,8,9] (fun v6 _ _ _=>v6=.int .i64 20) (fun _ _ _ _=>0)
  case atStart=>rfl
  case round=>
   subst hrel;go_wp2_with fail
   go_end0
   exact⟨rfl,rfl⟩
theorem tT(A:Option Addr)(c:Nat)(f:Value)(w:World):
 Calls prog 103 #[.slice A 1 c,f] w fun e w'=>e=.returned (.tuple #[])/\w'=w:=by
 go_enter func103,ntmps103;go_wp2_with fail;refine(vN _ _ _ _).mono ?_;rintro e w1 ⟨rfl,rfl⟩;go_wp2_with fail
 go_end0
 exact⟨rfl,rfl⟩
theorem tU(A:Option Addr)(c:Nat)(w:World):
 Calls prog 107 #[.slice A 1 c] w fun e w'=>e=.returned (.slice A 1 c)/\w'=w:=by
 go_enter func107,QB;go_wp2_with fail;go_ret;exact⟨rfl,rfl⟩
theorem pU(s : ByteArray)(x : Nat)(w : World)(hs : s.size = 9)(hx : ((s[8]'(by omega)).toNat : Int) = (x : Int))(hx2 : x < 255) :
 Calls prog 102 #[.string s] w fun e w'=>e=.returned (.tuple #[.string (s.extract 0 8++strOfNums [((x+1:Nat):Int)]),.bool true])/\Below w.heap.size w w':=by
 have h1:((x:Int)==255)=false:=by simp;omega
 have h2:((x:Int)+1)%256=((x+1:Nat):Int):=by omega
 obtain⟨z,hz⟩:∃z:Int,z=((x+1:Nat):Int):=⟨_,rfl⟩;have hzx:z=(x:Int)+1:=by omega
 have hcv:(convert 116 9 (.slice (some ⟨w.heap.size,0,none⟩) 1 1)).run prog ((w.alloc (.cells #[.int .u8 ((x:Int)+1)] 5)).drew)=.ok (.string (strOfNums [z])) ((w.alloc (.cells #[.int .u8 ((x:Int)+1)] 5)).drew):=by
  rw[<-hzx];refine NP (P:=prog) _ 116 5 MM NC w.heap.size 0 1 1 [z] rfl (fun i hi=>?_) 9 MB;obtain rfl:i=0:=by omega
  exact(aE.new w 5 #[.int .u8 z]).drew.cell 0
 rw[<-hz];obtain⟨Z,hZ⟩:∃Z,Z=strOfNums [z]:=⟨_,rfl⟩;rw[<-hZ] at hcv ⊢;have hZs:Z.size=1:=by rw[hZ,MQ];rfl
 have HZ:=qD hZ;have HZZ:=qD hz;clear hz hZ h2 hzx;go_enter func102,ntmps102;go_upto_region 2 with fail
 go_loopw [4] (fun v wr=>v=.int .i64 9/\wr=w) (fun _ _=>0)
 ·exact⟨rfl,rfl⟩
 case round=>
  obtain⟨rfl,rfl⟩:=hrel;go_wp2_with fail
  go_region
  all_goals
   go_wp2_with fail;go_ret2;exact⟨rfl,((LH _ _).alloc (qL) _).drew⟩
theorem FK:(Tryz.prog.info? 5).map (fun i=>(i.zero,i.size,i.bytes))=some (some (.int .u8 0),1,1):=by kernel_rfl
def ig(base:Nat)(v:Value)(l:List Int)(w:World)(e:Ending)(w':World):Prop:=
 ∃v':Value,e=.returned v'/\w'.ownsRow base 5 1 v' l.length (ai l)/\w.grownBy w' v.ownBlock/\(v'.ownBlock=v.ownBlock\/∃g,v'.ownBlock=some g/\w.heap.size<=g)
structure lm(w:World)(c:VC)(base:Nat)(v0 v:Value)(n:Nat)(l:List Int)(wr:World):Prop where
 b0:aE wr w.heap.size 29 c.arr
 own:wr.ownsRow base 5 1 v n (ai l)
 ln:n=l.length
 gb:w.grownBy wr v0.ownBlock
 sz:w.heap.size+1<=wr.heap.size
 old:∀g,v0.ownBlock=some g->base<=g/\g<w.heap.size
 blk:v.ownBlock=v0.ownBlock\/∃g,v.ownBlock=some g/\w.heap.size+1<=g
 ba:base<=w.heap.size
section
variable {w wr w':World} {c:VC} {base n n':Nat} {v0 v v':Value} {l l':List Int}
theorem lm.below(h:lm w c base v0 v n l wr):Below base w wr:=(LH _ _).grown h.gb h.ba fun g hg=>(h.old g hg).1
theorem lm.Kx(h:lm w c base v0 v n l wr):base<=wr.heap.size:=by have:=h.ba;have:=h.sz;omega
theorem lm.LD(h:lm w c base v0 v n l wr):v.ownBlock≠some w.heap.size:=by
 intro e;rcases h.blk with h1|⟨g,h1,h2⟩
 ·rw[h1] at e;have:=(h.old _ e).2;omega
 ·rw[h1] at e;injection e with e
  omega
theorem lm.step(h:lm w c base v0 v n l wr)(hb:Below wr.heap.size wr w'):lm w c base v0 v n l w':=by
 have hs:=hb.size;have h0:=h.sz;refine⟨h.b0.step hb,aV h.own hb,h.ln,⟨?_,?_,?_,?_,fun k hk hne=>?_⟩,by omega,h.old,h.blk,h.ba⟩
 ·rw[hb.os];exact h.gb.os
 ·rw[hb.tape];exact h.gb.tape
 ·rw[hb.output];exact h.gb.output
 ·have:=h.gb.size;omega
 ·rw[hb.block k (by omega)];exact h.gb.block k hk hne
theorem lm.grow(h:lm w c base v0 v n l wr)(hg:wr.grownBy w' v.ownBlock)(hv:v'.ownBlock=v.ownBlock\/∃g,v'.ownBlock=some g/\wr.heap.size<=g)(hn:n'=l'.length)(ho:w'.ownsRow base 5 1 v' n' (ai l')):lm w c base v0 v' n' l' w':=by
 have hs:=hg.size;have h0:=h.sz;refine⟨(hg.block _ (by omega) (fun e=>h.LD e.symm)).trans h.b0,ho,hn,⟨?_,?_,?_,by omega,fun k hk hne=>?_⟩,by omega,h.old,?_,h.ba⟩
 ·rw[hg.os];exact h.gb.os
 ·rw[hg.tape];exact h.gb.tape
 ·rw[hg.output];exact h.gb.output
 ·rw[hg.block k (by omega) (fun e=>?_)]
  ·exact h.gb.block k hk hne
  ·rcases h.blk with h1|⟨g,h1,h2⟩
   ·exact hne (by rw[<-h1];exact e)
   ·rw[h1] at e;injection e with e
    omega
 ·rcases hv with h1|⟨g,h1,h2⟩
  ·rw[h1];exact h.blk
  ·exact .inr ⟨g,h1,by omega⟩
theorem lm.KY(h:lm w c base v0 v n l wr){o:Obj}{m:Nat}{xs:List Int}(hm:m=xs.length)(hn:n'=n+m)(ho:w'.ownsRow base 5 1 v' (n+m) (ai l++ai xs))(hg:(wr.alloc o).grownBy w' v.ownBlock)(hat:v'.ownBlock=v.ownBlock\/v'.ownBlock=some (wr.alloc o).heap.size):lm w c base v0 v' n' (l++xs) w':=by
 subst hn;refine(h.step ((LH _ _).alloc (qL) o)).grow hg (hat.imp id fun e=>⟨_,e,qL⟩) (by rw[LM,h.ln,hm]) ?_;rw[oy];exact ho
theorem lm.LF(h:lm w c base v0 v n l wr){m:Nat}{xs:List Int}(hm:m=xs.length)(hn:n'=n+m)(ho:w'.ownsRow base 5 1 v' (n+m) (ai l++ai xs))(hg:wr.grownBy w' v.ownBlock)(hat:v'.ownBlock=v.ownBlock\/v'.ownBlock=some wr.heap.size):lm w c base v0 v' n' (l++xs) w':=by
 subst hn;refine h.grow hg (hat.imp id fun e=>⟨_,e,qL⟩) (by rw[LM,h.ln,hm]) ?_;rw[oy];exact ho
theorem lm.call(h:lm w c base v0 v n l wr){e:Ending}(ha:ig base v l' wr e w'):∃v',e=.returned v'/\lm w c base v0 v' l'.length l' w':=by
 obtain⟨v',he,ho,hg,hb⟩:=ha;exact⟨v',he,h.grow hg hb rfl ho⟩
theorem lm.done(h:lm w c base v0 v n l wr):ig base v0 l w (.returned v) wr:=⟨v,rfl,by rw[<-h.ln];exact h.own,h.gb,h.blk.imp id fun⟨g,h1,h2⟩=>⟨g,h1,by omega⟩⟩
theorem lm.start(hb:base<=w.heap.size)(hn:n=l.length)(ho:w.ownsRow base 5 1 v0 n (ai l)):lm w c base v0 v0 n l (w.alloc (.cells c.arr 29)):=by
 have h1:Below w.heap.size w (w.alloc (.cells c.arr 29)):=(LH _ _).alloc (qL) _;exact⟨aE.Jq rfl,aV ho h1,hn,⟨h1.os,h1.tape,h1.output,h1.size,fun k hk _=>h1.block k hk⟩,by simp,fun g hg=>⟨bU ho g hg,ej ho hg⟩,.inl rfl,hb⟩
end
theorem jW(w:World)(z:Int):cP (w.alloc (.cells #[.int .u8 z] 5)) (w.heap.size+1) 1 (some ⟨w.heap.size,0,none⟩) 1 (ai [z]):=
 ⟨rfl,fun _=>⟨_,rfl,by show w.heap.size<w.heap.size+1;omega,fun j' u hu=>ap w 5 (ai [z]) j' u hu⟩⟩
theorem Gj(w:World)(y z:Int):cP (w.alloc (.cells #[.int .u8 y,.int .u8 z] 5)) (w.heap.size+1) 1 (some ⟨w.heap.size,0,none⟩) 2 (ai [y,z]):=
 ⟨rfl,fun _=>⟨_,rfl,by show w.heap.size<w.heap.size+1;omega,fun j' u hu=>ap w 5 (ai [y,z]) j' u hu⟩⟩
theorem df(l:List Int):∀u∈ai l,u.oneCell'=true:=by
 intro u hu;simp only[ai,MS] at hu;obtain⟨z,_,rfl⟩:=hu;rfl
theorem pV{P:Program}(w:World)(base:Nat)(t u ty e:TypeId)(i:TypeInfo)(ht:P.underlying t=some (.slice e))(hu:P.underlying u=some .string)(hi:P.info? e=some i)(hz:i.zero=some (.int .u8 0))(hsize:i.size=1)(hby:i.bytes=1)(v:Value)(n:Nat)(xs:List Value)(hown:w.ownsRow base e 1 v n xs)(s:ByteArray)(h63:n+s.size<=maxLen)(hbytes:n+s.size<=140737488355328){v':Value}{w':World}(hrun:(Builtin.append_ #[t,u] ty #[v,.string s]).run P w=.ok v' w')(hnil:v'=.slice none 0 0↔v=.slice none 0 0/\s.size=0):v'.ownBlock=v.ownBlock\/v'.ownBlock=some w.heap.size:=by
 have hsmall:n+s.size<=9223372036854775807:=by simp only[maxLen] at h63;omega
 rcases hown.2 with⟨rfl,rfl⟩|⟨g,cap,cur,rfl,hbg,hg,hnc,hcm,hcs,htake⟩
 ·by_cases hm:s.size=0
  ·rw[hnil.2 ⟨rfl,hm⟩];exact .inl rfl
  ·have hr:=run_append_nil_string (P:=P) w t u ty e i (.int .u8 0) ht hu hi hz s (by omega) (by omega) (by rw[hby];omega);rw[hr] at hrun;cases hrun;exact .inr rfl
 ·by_cases hroom:n+s.size<=cap
  ·have hcs':cur.size=cap:=by simpa using hcs
   have hr:=Lib.run_append_room_string (P:=P) w t u ty e i ht hu hi hsize g n cap cur hg s hroom (by omega);rw[hr] at hrun;cases hrun;exact .inl rfl
  ·have hxl:xs.length=n:=by simpa using hown.1
   have hr:=Lib.run_append_grow_string (P:=P) w t u ty e i (.int .u8 0) ht hu hi hz ⟨g,0,none⟩ n cap xs (by rw[hsize];simpa using hxl) (hown.cells (g:=g) rfl) s (by omega) (by omega) (by rw[hby];exact growslice_fits (by omega) (by omega));rw[hr] at hrun;cases hrun;exact .inr rfl
theorem mf{P:Program}{w:World}{ops:Array Oper}{rest:List Oper}{o:Oper}{a:Act}{Q:Exit->Act->World->Prop}(hgd:o.guard=none)(sl x:Operand)(t u:TypeId)(ho:o.op=.call {callee:=.builtin .append,args:=#[sl,x],argTypes:=#[t,u]})(base:Nat)(e:TypeId)(i:TypeInfo)(ht:P.underlying t=some (.slice e))(hu:P.underlying u=some .string)(hi:P.info? e=some i)(hz:i.zero=some (.int .u8 0))(hsize:i.size=1)(hby:i.bytes=1)(v:Value)(n:Nat)(xs:List Value)(hs:a.eval sl=v)(hown:w.ownsRow base e 1 v n xs)(s:ByteArray)(hx:a.eval x=.string s)(h63:n+s.size<=maxLen)(hbytes:n+s.size<=140737488355328)(hbase:base<=w.heap.size)(h:∀v' w',w'.ownsRow base e 1 v' (n+s.size) (xs++Lib.strCells s)->w.grownBy w' v.ownBlock->(v'.ownBlock=v.ownBlock\/v'.ownBlock=some w.heap.size)->wpList P ops Q rest (a.put o.dst v') w'):wpList P ops Q (o::rest) a w:=by
 refine wpList_plain hgd fun K hK=>?_;obtain⟨v',w',hr,h2,h3,h4⟩:=Lib.run_append_own_string (P:=P) w base t u o.type e i ht hu hi hz hsize hby v n xs hown s h63 hbytes hbase;have h5:=pV w base t u o.type e i ht hu hi hz hsize hby v n xs hown s h63 hbytes hr h4;unfold Oper.wp execOp;simp only[ho,resolve,invoke,builtin,Ng,OI,NT,List.map_toArray,Mb,NR,hs,hx,hr];exact hK _ _ (h v' w' h2 h3 h5)
theorem vO(s:ByteArray):Lib.strCells s=ai (eP s):=by
 unfold Lib.strCells ai eP;rw[NU];rfl
theorem flat_at'{α:Type}{rec:α->List Value}{s:Nat}(hs:∀a,(rec a).length=s)(hp:0<s)(xs:List α)(k:Nat)(hk:k<xs.length*s):∃a v,xs[k/s]?=some a/\(rec a)[k%s]?=some v/\(aJ rec xs)[k]?=some v:=by
 have h1:k/s<xs.length:=Nat.div_lt_of_lt_mul (by rw[Nat.mul_comm];exact hk);have h2:k%s<s:=Nat.mod_lt _ hp;refine ⟨xs[k / s], (rec xs[k / s])[k % s]'(by rw [hs]; exact h2), LI h1, LI (by rw [hs]; exact h2), ?_⟩;have:=bg hs (LI h1) (LI (l:=rec xs[k/s]) (i:=k%s) (by rw[hs];exact h2));rw[show k/s*s+k%s=k by rw[Nat.mul_comm];exact Nat.div_add_mod k s] at this;exact this
theorem cE{w3 w4:World}{o:Obj}{row:Option Nat}(hg:(w3.alloc o).grownBy w4 row){p:Addr}{v:Value}(h:w3.cell? p=some v)(hne:row≠some p.block):w4.cell? p=some v:=by
 have hlt:=Lr w3 p h;rw[Me (w:=w3.alloc o) (hg.block p.block (by simp;omega) (fun e=>hne e.symm)),World.cell?_alloc_lt w3 o p hlt];exact h
theorem re{w3 w4:World}{o:Obj}{row:Option Nat}(hg:(w3.alloc o).grownBy w4 row){p:Addr}(hlt:p.block<w3.heap.size)(hne:row≠some p.block):w4.frozen? p=w3.frozen? p:=by
 rw[On (w:=w3.alloc o) (hg.block p.block (by simp;omega) (fun e=>hne e.symm)),On (w:=w3) (Np w3 o p.block hlt)]
theorem SL.Jv{F G:Nat->Prop}{w w':World}{A:Option Addr}{n c:Nat}{ps:List PV}(h:SL F w A n c ps)(hk:∀b,F b->b<w.heap.size->G b/\w'.heap[b]?=w.heap[b]?):SL G w' A n c ps:=by
 refine⟨⟨h.sr.ln,h.sr.lc,fun hn=>?_⟩,h.sz,fun hn=>?_,fun p hp=>(h.rv p hp).Jv hk⟩
 ·obtain⟨b,off,h1,h2,h3⟩:=h.sr.el hn;obtain⟨b',off',h1',hF⟩:=h.blk hn;rw[h1] at h1';cases h1';have he:=(hk b hF.1 h2).2;refine⟨b,off,h1,?_,fun i a hi j v hj=>(Me (w:=w) (a:=⟨b,off+i*5+j,none⟩) he).trans (h3 i a hi j v hj)⟩;rcases NS b w'.heap.size with hlt|hge
  ·exact hlt
  ·rw[OH hge,NY h2] at he;cases he
 ·obtain⟨b,off,h1,h2,h3⟩:=h.sr.el hn;obtain⟨b',off',h1',hF⟩:=h.blk hn;rw[h1] at h1';cases h1';exact⟨b,off,h1,hF.Jv h2 hk⟩
theorem mg{w w':World}{base:Nat}{e:TypeId}{size n:Nat}{v:Value}{xs:List Value}(h:w.ownsRow base e size v n xs)(hk:∀g,v.ownBlock=some g->w'.heap[g]?=w.heap[g]?):w'.ownsRow base e size v n xs:=by
 refine⟨h.1,?_⟩;rcases h.2 with h2|⟨g,cap,cur,rfl,hg,hh,hr⟩
 ·exact .inl h2
 ·exact .inr ⟨g,cap,cur,rfl,hg,(hk g rfl).trans hh,hr⟩
end Go.Proofs.YthfahkaadbdicaaGreatDoor
