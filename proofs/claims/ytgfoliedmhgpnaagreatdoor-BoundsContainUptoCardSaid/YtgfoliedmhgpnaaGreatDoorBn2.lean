/- A part of the proof. -/
import Derived.Test.YtgfoliedmhgpnaaGreatDoorBn1
import Derived.IntWalk
import Derived.Shelf.Abstract
import Derived.Lib.Bytealg
import Derived.Lib.Small
import Derived.Lib.ValidU
set_option maxRecDepth 100000
set_option maxHeartbeats 16000000
set_option linter.unusedSimpArgs false
open Go.Proofs.Tryz
open ByteArray (empty)
namespace Go.Proofs.YtgfoliedmhgpnaaGreatDoor
open Go.RowKit
section
variable {l:List ByteArray} {b c k i g n m size:Nat} {a x y most:Int} {s:ByteArray} {w w' w1 wr w2:World} {e:TypeId}
def Bm(g:Nat)(Inv:Nat->World->Prop)(Fin:World->Prop)(i:Nat)(wr:World)(e:Ending)(w':World):Prop:=
 ∃b,e=.returned (.bool b)/\iG g wr w'/\(b=true->Inv (i+1) w')/\(b=false->Fin w')
def Dk(g:Nat)(Fin:World->Prop)(w:World)(e:Ending)(w':World):Prop:=e=.returned (.tuple #[])/\iG g w w'/\Fin w'
theorem uE(f:FuncId)(g m:Nat)(x:aC)(c:VC)(w:World)(h:RV (fun b=>b≠g) w c x)(Inv:Nat->World->Prop)(Fin:World->Prop)(hent:∀args w,(callFunc f args).run prog w=.ok (.enter f args) w)(h0:Inv 0 w)(hst:∀i w1 w2,Inv i w1->Below w1.heap.size w1 w2->Inv i w2)(hs:∀(i:Nat) (y:aC) (u:VC) (wr:World),x.parts[i]?=some y->Inv i wr->iG g w wr->RW wr u y->Calls prog f #[u.val,.pointer (some ⟨g,0,none⟩),.pointer (some ⟨m,0,none⟩)] wr (Bm g Inv Fin i wr))(he:∀wr,Inv x.parts.length wr->Fin wr):
 Calls prog 196 #[c.val,.func (.func f) #[] #[.pointer (some ⟨g,0,none⟩),.pointer (some ⟨m,0,none⟩)]] w (Dk g Fin w):=by
 obtain⟨ck,cn,ct,LA,ln,lc,DA,dn,dc⟩:=c;have ho:=h.open;have hln:ln<=140737488355328:=by have:=ho.lsz;unfold aH at this;simp only at this;omega
 have hdn:dn<=140737488355328:=by have:=ho.dsz;unfold aH at this;simp only at this;omega
 have HO:=qD ho;have HS:=qD hs;have HE:=qD he;have H0:=qD (hst 0 w _ h0 ((Ju _ _).alloc (qL) (Obj.cells #[.int .i64 ck,.int .i64 cn,.string ct,.slice LA ln lc,.slice DA dn dc] 29)));have HT:=qD hst;clear ho h hs he h0 hst;cases h6:(ck==6)
 ·cases h5:(ck==5)
  ·have HP:Hid (x.parts.length=0):=by
    have:=HO.out.k;simp only at this;simp at h6 h5;simp[Hid,aC.parts,<-this,h6,h5]
   go_enter func196,ntmps196;go_wp2_with fail
   go_end0
   exact⟨rfl,iG.Is ((Ju _ _).alloc (qL) _),HE.out _ (by rw[HP.out];exact H0.out)⟩
  ·have HP:Hid (x.parts=x.d.map cF.v):=by
    have:=HO.out.k;simp only at this;simp at h5;simp[Hid,aC.parts,<-this,h5]
   go_enter func196,ntmps196;go_wp2_with fail
   go_loopw [29] (fun v29 wr=>∃i:Nat,i<=dn/\v29=.int .i64 i/\Inv i wr/\iG g w wr) (fun v29 _=>dn-(intOf v29).toNat)
   ·exact⟨0,KD _,rfl,H0.out,iG.Is ((Ju _ _).alloc (qL) _)⟩
   case round=>
    obtain⟨i,hi,rfl,I1,I2⟩:=hrel;have J1:=qD I1;have J2:=qD I2;by_cases hlt:i<dn
    ·obtain⟨b,off,hDA,hbg,hel⟩:=HO.out.da (by show 0<dn;omega);obtain⟨y,hy⟩:∃y,x.d[i]?=some y:=⟨_,Jv (by have:=HO.out.dn;simp only at this;omega)⟩;obtain⟨s0,hsz,u,hu,hr⟩:=hel i y hy;simp only at hDA;subst hDA;obtain⟨u0,u1,u2,u3,u4⟩:=hu.keep (I2.block b hu.lt hbg.1);have t0:=(I2.cell (p:=⟨b,off+i*6,none⟩) hu.lt hbg.1).trans s0;have hb:b<wr.heap.size:=by have:=hu.lt;have:=I2.size;omega
     have HR:=qD ((hr.Il (G:=fun _=>True) fun q hq hl=>⟨trivial,I2.block q hl hq⟩).alloc (.cells #[.string y.s,.int .i64 u.k,.int .i64 u.n,.string u.t,.slice u.LA u.ln u.lc,.slice u.DA u.dn u.dc] 77));have HI:=qD (HT.out i wr _ I1 ((Ju _ _).alloc (qL) (Obj.cells #[.string y.s,.int .i64 u.k,.int .i64 u.n,.string u.t,.slice u.LA u.ln u.lc,.slice u.DA u.dn u.dc] 77)));have HB:=qD (I2.step ((Ju _ _).alloc (qL) (Obj.cells #[.string y.s,.int .i64 u.k,.int .i64 u.n,.string u.t,.slice u.LA u.ln u.lc,.slice u.DA u.dn u.dc] 77)));have HY:Hid (x.parts[i]?=some y.v):=by rw[Hid,HP.out,KP,hy];rfl
     clear hel hr hu hy I1 I2 s0 hsz;go_wp2_with fail;refine(HS.out i y.v u _ HY.out HI.out HB.out HR.out).mono ?_;rintro e w1 ⟨b1,rfl,hb1,ht,hf⟩;cases b1
     ·have HF:=qD (hf rfl);have HB1:=qD (HB.out.trans hb1);clear ht hf hb1;go_wp2_with fail
      go_end0
      exact⟨rfl,HB1.out,HF.out⟩
     ·have HF:=qD (ht rfl);have HB1:=qD (HB.out.trans hb1);clear ht hf hb1;go_wp2_with fail;go_roundw
      ·exact⟨i+1,by omega,by go_num,HF.out,HB1.out⟩
      ·simp[intOf];omega
    ·obtain rfl:i=dn:=by omega
     go_wp2_with fail
     go_end0
     exact⟨rfl,J2.out,HE.out _ (by rw[HP.out,KX];have:=HO.out.dn;simp only at this;rw[<-this];exact J1.out)⟩
 ·have HP:Hid (x.parts=x.l):=by
   have:=HO.out.k;simp only at this;simp at h6;simp[Hid,aC.parts,<-this,h6]
  go_enter func196,ntmps196;go_wp2_with fail
  go_loopw [15] (fun v15 wr=>∃i:Nat,i<=ln/\v15=.int .i64 i/\Inv i wr/\iG g w wr) (fun v15 _=>ln-(intOf v15).toNat)
  ·exact⟨0,KD _,rfl,H0.out,iG.Is ((Ju _ _).alloc (qL) _)⟩
  case round=>
   obtain⟨i,hi,rfl,I1,I2⟩:=hrel;have J1:=qD I1;have J2:=qD I2;by_cases hlt:i<ln
   ·obtain⟨b,off,hLA,hbg,hel⟩:=HO.out.la (by show 0<ln;omega);obtain⟨y,hy⟩:∃y,x.l[i]?=some y:=⟨_,Jv (by have:=HO.out.ln;simp only at this;omega)⟩;obtain⟨u,hu,hr⟩:=hel i y hy;simp only at hLA;subst hLA;obtain⟨u0,u1,u2,u3,u4⟩:=hu.keep (I2.block b hu.lt hbg.1);have hb:b<wr.heap.size:=by have:=hu.lt;have:=I2.size;omega
    have HR:=qD ((hr.Il (G:=fun _=>True) fun q hq hl=>⟨trivial,I2.block q hl hq⟩).alloc (.cells u.arr 29));have HI:=qD (HT.out i wr _ I1 ((Ju _ _).alloc (qL) (Obj.cells u.arr 29)));have HB:=qD (I2.step ((Ju _ _).alloc (qL) (Obj.cells u.arr 29)));have HY:Hid (x.parts[i]?=some y):=by rw[Hid,HP.out];exact hy
    clear hel hr hu hy I1 I2;go_wp2_with fail;refine(HS.out i y u _ HY.out HI.out HB.out HR.out).mono ?_;rintro e w1 ⟨b1,rfl,hb1,ht,hf⟩;cases b1
    ·have HF:=qD (hf rfl);have HB1:=qD (HB.out.trans hb1);clear ht hf hb1;go_wp2_with fail
     go_end0
     exact⟨rfl,HB1.out,HF.out⟩
    ·have HF:=qD (ht rfl);have HB1:=qD (HB.out.trans hb1);clear ht hf hb1;go_wp2_with fail;go_roundw
     ·exact⟨i+1,by omega,by go_num,HF.out,HB1.out⟩
     ·simp[intOf];omega
   ·obtain rfl:i=ln:=by omega
    go_wp2_with fail
    go_end0
    exact⟨rfl,J2.out,HE.out _ (by rw[HP.out];have:=HO.out.ln;simp only at this;rw[<-this];exact J1.out)⟩
theorem ii{a:Int}(h1:-9223372036854775808<=a)(h2:a<=9223372036854775807):IntKind.i64.wrap a=a:=Nc _ ⟨h1,h2⟩
def yU(x:aC):Prop:=∀(c:VC) (most:Int) (w:World),RW w c x->1<=most->most<=1025->
 Calls prog 149 #[c.val,.int .i64 most] w fun e w'=>e=.returned (.int .i64 (bR x most))/\Below w.heap.size w w'
theorem vz(y:aC)(ih:yU y)(u:VC)(g m:Nat)(n most:Int)(w:World)(h:RW w u y)(hg:aG w g 3 #[.int .i64 n])(hm:aG w m 3 #[.int .i64 most])(hne:m≠g)(h1:1<=n)(h2:n<most)(h3:most<=1025):
 Calls prog 197 #[u.val,.pointer (some ⟨g,0,none⟩),.pointer (some ⟨m,0,none⟩)] w fun e w'=>e=.returned (.bool (decide (n+bR y (most-n)<most)))/\iG g w w'/\aG w' g 3 #[.int .i64 (n+bR y (most-n))]:=by
 have HG:=qD (hg.alloc (.cells u.arr 29));have HM:=qD (hm.alloc (.cells u.arr 29));have HU:Hid (aG (w.alloc (.cells u.arr 29)) w.heap.size 29 u.arr):=aG.Ii rfl;have H:=qD (h.alloc (.cells u.arr 29));have HB:=qD ((Ju w.heap.size w).alloc (qL) (Obj.cells u.arr 29));have IH:=qD ih;have hgl:=hg.lt;have hml:=hm.lt
 have r1:1<=bR y (most-n)/\bR y (most-n)<=most-n:=by
  have:=dv y;unfold bR;omega
 clear h hg hm ih;go_enter func197,ntmps197;go_wp2_with fail;generalize w.alloc (.cells u.arr 29)=w1 at*;have E0:∀q:BW w1,q.val.cell? ⟨g,0,none⟩=some (.int .i64 n):=fun q=>q.cell (HG.out.cell 0);have E1:∀q:BW w1,q.val.cell? ⟨m,0,none⟩=some (.int .i64 most):=fun q=>q.cell (HM.out.cell 0);have E2:∀q:BW w1,q.val.cell? ⟨w.heap.size,0,none⟩=some (.int .i64 u.k):=fun q=>q.cell (HU.out.cell 0);have E3:∀q:BW w1,q.val.cell? ⟨w.heap.size,1,none⟩=some (.int .i64 u.n):=fun q=>q.cell (HU.out.cell 1);have E4:∀q:BW w1,q.val.cell? ⟨w.heap.size,2,none⟩=some (.string u.t):=fun q=>q.cell (HU.out.cell 2);have E5:∀q:BW w1,q.val.cell? ⟨w.heap.size,3,none⟩=some (.slice u.LA u.ln u.lc):=fun q=>q.cell (HU.out.cell 3);have E6:∀q:BW w1,q.val.cell? ⟨w.heap.size,4,none⟩=some (.slice u.DA u.dn u.dc):=fun q=>q.cell (HU.out.cell 4);have W1:IntKind.i64.wrap (most-n)=most-n:=ii (by omega) (by omega);have W2:IntKind.i64.wrap (n+bR y (most-n))=n+bR y (most-n):=ii (by omega) (by omega)
 have K1:Hid (∀q:BW w1,Calls prog 149 #[u.val,.int .i64 (most-n)] q.val fun e w''=>e=.returned (.int .i64 (bR y (most-n)))/\∃q:BW w1,w''=q.val):=fun q=>
  Calls.bw (IH.out u (most-n) q.val (H.out.step q.below) (by omega) (by omega))
 refine cC 7 (by kernel_rfl) (by kernel_rfl) ?_;simp only[LY,Lp,Lu,Mk]
 repeat(go_big_quiet_step (with_reducible exact K1.out _))
 refine Kd ?_;rintro _ ⟨kw,rfl⟩;have F0:=(HG.out.step kw.below).frozen 0;have JG:=qD ((HG.out.step kw.below).Ij 0 (.int .i64 (n+bR y (most-n))));have JB:=qD ((iG.Is (g:=g) (HB.out.Ih kw.below)).set (p:=⟨g,0,none⟩) rfl (.int .i64 (n+bR y (most-n))));have e0:=E0 kw;have e1:=E1 kw;have hnm:g≠m:=fun e=>hne e.symm;clear E0 E1 E2 E3 E4 E5 E6 K1 W1 W2 HG HM HU H HB IH;generalize kw.val=w2 at*;go_wp2_with fail;go_ret;exact⟨rfl,JB.out,JG.out⟩
def yV(x:aC):Prop:=∀(c:VC) (most:Int) (w:World),RW w c x->1<=most->most<=17->
 Calls prog 150 #[c.val,.int .i64 most] w fun e w'=>e=.returned (.int .i64 (bE x most))/\Below w.heap.size w w'
theorem wD(y:aC)(ih:yV y)(u:VC)(g m:Nat)(n most:Int)(w:World)(h:RW w u y)(hg:aG w g 3 #[.int .i64 n])(hm:aG w m 3 #[.int .i64 most])(hne:m≠g)(h1:0<=n)(h2:n<most-1)(h3:most<=17):
 Calls prog 198 #[u.val,.pointer (some ⟨g,0,none⟩),.pointer (some ⟨m,0,none⟩)] w fun e w'=>e=.returned (.bool (decide (max n (bE y (most-1))<most-1)))/\iG g w w'/\aG w' g 3 #[.int .i64 (max n (bE y (most-1)))]:=by
 have HG:=qD (hg.alloc (.cells u.arr 29));have HM:=qD (hm.alloc (.cells u.arr 29));have HU:Hid (aG (w.alloc (.cells u.arr 29)) w.heap.size 29 u.arr):=aG.Ii rfl;have H:=qD (h.alloc (.cells u.arr 29));have HB:=qD ((Ju w.heap.size w).alloc (qL) (Obj.cells u.arr 29));have IH:=qD ih;have hgl:=hg.lt;have hml:=hm.lt
 have r1:1<=bE y (most-1)/\bE y (most-1)<=most-1:=by
  have:=lN y;unfold bE;omega
 clear h hg hm ih;by_cases hle:n<bE y (most-1)
 ·have HX:Hid (max n (bE y (most-1))=bE y (most-1)):=by unfold Hid;omega
  go_enter func198,ntmps198;go_wp2_with fail;generalize w.alloc (.cells u.arr 29)=w1 at*;have E0:∀q:BW w1,q.val.cell? ⟨g,0,none⟩=some (.int .i64 n):=fun q=>q.cell (HG.out.cell 0);have E1:∀q:BW w1,q.val.cell? ⟨m,0,none⟩=some (.int .i64 most):=fun q=>q.cell (HM.out.cell 0);have E2:∀q:BW w1,q.val.cell? ⟨w.heap.size,0,none⟩=some (.int .i64 u.k):=fun q=>q.cell (HU.out.cell 0);have E3:∀q:BW w1,q.val.cell? ⟨w.heap.size,1,none⟩=some (.int .i64 u.n):=fun q=>q.cell (HU.out.cell 1);have E4:∀q:BW w1,q.val.cell? ⟨w.heap.size,2,none⟩=some (.string u.t):=fun q=>q.cell (HU.out.cell 2);have E5:∀q:BW w1,q.val.cell? ⟨w.heap.size,3,none⟩=some (.slice u.LA u.ln u.lc):=fun q=>q.cell (HU.out.cell 3);have E6:∀q:BW w1,q.val.cell? ⟨w.heap.size,4,none⟩=some (.slice u.DA u.dn u.dc):=fun q=>q.cell (HU.out.cell 4);have W1:IntKind.i64.wrap (most-1)=most-1:=ii (by omega) (by omega)
  have K1:Hid (∀q:BW w1,Calls prog 150 #[u.val,.int .i64 (most-1)] q.val fun e w''=>e=.returned (.int .i64 (bE y (most-1)))/\∃q:BW w1,w''=q.val):=fun q=>
   Calls.bw (IH.out u (most-1) q.val (H.out.step q.below) (by omega) (by omega))
  refine cC 6 (by kernel_rfl) (by kernel_rfl) ?_;simp only[LY,Lp,Lu,Mk]
  repeat(go_big_quiet_step (with_reducible exact K1.out _))
  refine Kd ?_;rintro _ ⟨kw,rfl⟩;have F0:=(HG.out.step kw.below).frozen 0;have JG:=qD ((HG.out.step kw.below).Ij 0 (.int .i64 (bE y (most-1))));have JB:=qD ((iG.Is (g:=g) (HB.out.Ih kw.below)).set (p:=⟨g,0,none⟩) rfl (.int .i64 (bE y (most-1))));have e0:=E0 kw;have e1:=E1 kw;have hnm:g≠m:=fun e=>hne e.symm;clear E0 E1 E2 E3 E4 E5 E6 K1 W1 HG HM HU H HB IH;generalize kw.val=w2 at*;go_wp2_with fail;go_ret;exact⟨by rw[HX.out];first|rfl|(rw[Jy h2];rfl),JB.out,by rw[HX.out];exact JG.out⟩
 ·have HX:Hid (max n (bE y (most-1))=n):=by unfold Hid;omega
  go_enter func198,ntmps198;go_wp2_with fail;generalize w.alloc (.cells u.arr 29)=w1 at*;have E0:∀q:BW w1,q.val.cell? ⟨g,0,none⟩=some (.int .i64 n):=fun q=>q.cell (HG.out.cell 0);have E1:∀q:BW w1,q.val.cell? ⟨m,0,none⟩=some (.int .i64 most):=fun q=>q.cell (HM.out.cell 0);have E2:∀q:BW w1,q.val.cell? ⟨w.heap.size,0,none⟩=some (.int .i64 u.k):=fun q=>q.cell (HU.out.cell 0);have E3:∀q:BW w1,q.val.cell? ⟨w.heap.size,1,none⟩=some (.int .i64 u.n):=fun q=>q.cell (HU.out.cell 1);have E4:∀q:BW w1,q.val.cell? ⟨w.heap.size,2,none⟩=some (.string u.t):=fun q=>q.cell (HU.out.cell 2);have E5:∀q:BW w1,q.val.cell? ⟨w.heap.size,3,none⟩=some (.slice u.LA u.ln u.lc):=fun q=>q.cell (HU.out.cell 3);have E6:∀q:BW w1,q.val.cell? ⟨w.heap.size,4,none⟩=some (.slice u.DA u.dn u.dc):=fun q=>q.cell (HU.out.cell 4);have W1:IntKind.i64.wrap (most-1)=most-1:=ii (by omega) (by omega)
  have K1:Hid (∀q:BW w1,Calls prog 150 #[u.val,.int .i64 (most-1)] q.val fun e w''=>e=.returned (.int .i64 (bE y (most-1)))/\∃q:BW w1,w''=q.val):=fun q=>
   Calls.bw (IH.out u (most-1) q.val (H.out.step q.below) (by omega) (by omega))
  refine cC 6 (by kernel_rfl) (by kernel_rfl) ?_;simp only[LY,Lp,Lu,Mk]
  repeat(go_big_quiet_step (with_reducible exact K1.out _))
  refine Kd ?_;rintro _ ⟨kw,rfl⟩;have F0:=(HG.out.step kw.below).frozen 0;have JG:=qD ((HG.out.step kw.below).Ij 0 (.int .i64 n));have JB:=qD ((iG.Is (g:=g) (HB.out.Ih kw.below)).set (p:=⟨g,0,none⟩) rfl (.int .i64 n));have e0:=E0 kw;have e1:=E1 kw;have hnm:g≠m:=fun e=>hne e.symm;clear E0 E1 E2 E3 E4 E5 E6 K1 W1 HG HM HU H HB IH;generalize kw.val=w2 at*;go_wp2_with fail;go_ret;exact⟨by rw[HX.out];first|rfl|(rw[Jy h2];rfl),JB.out,by rw[HX.out];exact JG.out⟩
theorem aC.JL{p:aC->Prop}(h:∀x,(∀y∈x.parts,p y)->p x):∀x,p x:=by
 intro x
 induction x using aC.ind with
 | h k n t l d ihl ihd=>
  refine h _ fun y hy=>?_;unfold aC.parts at hy;split at hy
  ·exact ihl y hy
  ·split at hy
   ·obtain⟨f,hf,rfl⟩:=LL.1 hy;exact ihd f hf
   ·simp at hy
def Hm(x:aC)(most:Int)(g m:Nat)(i:Nat)(wr:World):Prop:=
 1+(bN (x.parts.take i):Int)<most/\aG wr g 3 #[.int .i64 (1+(bN (x.parts.take i):Int))]/\aG wr m 3 #[.int .i64 most]
theorem wE{x y:aC}{i:Nat}{most:Int}(hy:x.parts[i]?=some y):
 (decide (1+(bN (x.parts.take i):Int)+bR y (most-(1+(bN (x.parts.take i):Int)))<most)=true->
   1+(bN (x.parts.take (i+1)):Int)<most/\1+(bN (x.parts.take i):Int)+bR y (most-(1+(bN (x.parts.take i):Int)))=1+(bN (x.parts.take (i+1)):Int))/\
 (decide (1+(bN (x.parts.take i):Int)+bR y (most-(1+(bN (x.parts.take i):Int)))<most)=false->
   1+(bN (x.parts.take i):Int)+bR y (most-(1+(bN (x.parts.take i):Int)))=bR x most):=by
 have h1:=jD hy;have h2:=gu x.parts (i+1);have h3:=dA x;unfold bR;constructor
 ·intro hd;simp at hd;omega
 ·intro hd;simp at hd;omega
open Go.Shelf in
theorem zV:∀x,yU x:=by
 refine aC.JL fun x ih=>?_;intro c most w h h1 h2;have hx:=dv x;cases hm:((1:Int)==most)
 ·have hm':1<most:=by simp at hm;omega
  have H:=qD h;have IH:=qD ih;clear h ih;go_enter func149,ntmps149;go_wp2_with fail;have B1:aG (((w.alloc (.cells c.arr 29)).alloc (.cells #[.int .i64 most] 3)).alloc (.cells #[.int .i64 1] 3)) (w.heap.size+1) 3 #[.int .i64 most]:=(aG.Ii (by simp)).alloc _;have B2:aG (((w.alloc (.cells c.arr 29)).alloc (.cells #[.int .i64 most] 3)).alloc (.cells #[.int .i64 1] 3)) (w.heap.size+1+1) 3 #[.int .i64 1]:=aG.Ii (by simp);have B3:Below w.heap.size w (((w.alloc (.cells c.arr 29)).alloc (.cells #[.int .i64 most] 3)).alloc (.cells #[.int .i64 1] 3)):=(((Ju _ _).alloc (qL) _).alloc (by simp) _).alloc (by simp;omega) _;have B4:=H.out.lt.Il (G:=fun b=>b≠w.heap.size+1+1) (w':=(((w.alloc (.cells c.arr 29)).alloc (.cells #[.int .i64 most] 3)).alloc (.cells #[.int .i64 1] 3))) fun b hb _=>⟨by omega,B3.block b hb.2⟩;have hsz:(((w.alloc (.cells c.arr 29)).alloc (.cells #[.int .i64 most] 3)).alloc (.cells #[.int .i64 1] 3)).heap.size=w.heap.size+3:=by simp
  refine(uE 197 (w.heap.size+1+1) (w.heap.size+1) x c _ B4 (Hm x most (w.heap.size+1+1) (w.heap.size+1)) (fun wr=>aG wr (w.heap.size+1+1) 3 #[.int .i64 (bR x most)]) (enters_of func197 (by kernel_rfl) rfl) ⟨by simpa[bN] using hm',by simpa[bN] using B2,B1⟩ ?_ ?_ ?_).mono ?_
  ·rintro i w1 w2 ⟨a,b,d⟩ hb;exact⟨a,b.step hb,d.step hb⟩
  ·rintro i y u wr hy ⟨a,b,d⟩ hb hr;obtain⟨n1,n2⟩:=wE (most:=most) hy;refine(vz y (IH.out y (Jx hy)) u _ _ _ most wr hr b d (by omega) (by omega) a h2).mono ?_;rintro e w' ⟨rfl,k1,k2⟩;refine⟨_,rfl,k1,fun hd=>?_,fun hd=>?_⟩
   ·obtain⟨n3,n4⟩:=n1 hd;rw[n4] at k2;exact⟨n3,k2,d.but k1 (by omega)⟩
   ·rw[n2 hd] at k2;exact k2
  ·rintro wr ⟨a,b,d⟩;rw[NH] at a b
   have e:1+(bN x.parts:Int)=bR x most:=by
    have:=dA x;unfold bR;omega
   rw[e] at b;exact b
  ·rintro e w' ⟨rfl,hb,hf⟩;have q:=hf.cell 0;simp at q;have HB:=qD (B3.trans (hb.below (by omega) (by omega)));clear B1 B2 B3 B4 hb hf H IH;go_wp2_with fail;go_ret;exact⟨rfl,HB.out⟩
 ·obtain rfl:most=1:=by simp at hm;omega
  clear h ih;go_enter func149,ntmps149;go_wp2_with fail;go_ret;refine⟨?_,((((Ju _ _).alloc (qL) _).alloc (by simp) _).alloc (by simp;omega) _)⟩;have e:bR x 1=1:=by unfold bR;omega
  rw[e];rfl
theorem Dl{k:IntKind}{a b:Int}(h:a=b):Ending.returned (.int k a)=.returned (.int k b):=by rw[h]
def Hn(x:aC)(most:Int)(g m:Nat)(i:Nat)(wr:World):Prop:=
 (ak (x.parts.take i):Int)<most-1/\aG wr g 3 #[.int .i64 (ak (x.parts.take i):Int)]/\aG wr m 3 #[.int .i64 most]
theorem wF{x y:aC}{i:Nat}{most:Int}(hy:x.parts[i]?=some y):
 (decide (max (ak (x.parts.take i):Int) (bE y (most-1))<most-1)=true->
   (ak (x.parts.take (i+1)):Int)<most-1/\max (ak (x.parts.take i):Int) (bE y (most-1))=(ak (x.parts.take (i+1)):Int))/\
 (decide (max (ak (x.parts.take i):Int) (bE y (most-1))<most-1)=false->(ak (x.parts.take i):Int)<most-1->
   max (ak (x.parts.take i):Int) (bE y (most-1))=bE x most-1):=by
 have h1:=mE hy;have h2:=sM x.parts (i+1);have h3:=ci x;unfold bE;constructor
 ·intro hd;simp at hd;omega
 ·intro hd _;simp at hd;omega
open Go.Shelf in
theorem zW:∀x,yV x:=by
 refine aC.JL fun x ih=>?_;intro c most w h h1 h2;have hx:=lN x;cases hm:(most==1)
 ·have hm':1<most:=by simp at hm;omega
  have H:=qD h;have IH:=qD ih;clear h ih;go_enter func150,ntmps150;go_wp2_with fail;have B1:aG (((w.alloc (.cells c.arr 29)).alloc (.cells #[.int .i64 most] 3)).alloc (.cells #[.int .i64 0] 3)) (w.heap.size+1) 3 #[.int .i64 most]:=(aG.Ii (by simp)).alloc _;have B2:aG (((w.alloc (.cells c.arr 29)).alloc (.cells #[.int .i64 most] 3)).alloc (.cells #[.int .i64 0] 3)) (w.heap.size+1+1) 3 #[.int .i64 0]:=aG.Ii (by simp);have B3:Below w.heap.size w (((w.alloc (.cells c.arr 29)).alloc (.cells #[.int .i64 most] 3)).alloc (.cells #[.int .i64 0] 3)):=(((Ju _ _).alloc (qL) _).alloc (by simp) _).alloc (by simp;omega) _;have B4:=H.out.lt.Il (G:=fun b=>b≠w.heap.size+1+1) (w':=(((w.alloc (.cells c.arr 29)).alloc (.cells #[.int .i64 most] 3)).alloc (.cells #[.int .i64 0] 3))) fun b hb _=>⟨by omega,B3.block b hb.2⟩;have hsz:(((w.alloc (.cells c.arr 29)).alloc (.cells #[.int .i64 most] 3)).alloc (.cells #[.int .i64 0] 3)).heap.size=w.heap.size+3:=by simp
  refine(uE 198 (w.heap.size+1+1) (w.heap.size+1) x c _ B4 (Hn x most (w.heap.size+1+1) (w.heap.size+1)) (fun wr=>aG wr (w.heap.size+1+1) 3 #[.int .i64 (bE x most-1)]) (enters_of func198 (by kernel_rfl) rfl) ⟨by simp[ak];omega,by simpa[ak] using B2,B1⟩ ?_ ?_ ?_).mono ?_
  ·rintro i w1 w2 ⟨a,b,d⟩ hb;exact⟨a,b.step hb,d.step hb⟩
  ·rintro i y u wr hy ⟨a,b,d⟩ hb hr;obtain⟨n1,n2⟩:=wF (most:=most) hy;refine(wD y (IH.out y (Jx hy)) u _ _ _ most wr hr b d (by omega) (by omega) a h2).mono ?_;rintro e w' ⟨rfl,k1,k2⟩;refine⟨_,rfl,k1,fun hd=>?_,fun hd=>?_⟩
   ·obtain⟨n3,n4⟩:=n1 hd;rw[n4] at k2;exact⟨n3,k2,d.but k1 (by omega)⟩
   ·rw[n2 hd a] at k2;exact k2
  ·rintro wr ⟨a,b,d⟩;rw[NH] at a b
   have e:(ak x.parts:Int)=bE x most-1:=by
    have:=ci x;unfold bE;omega
   rw[e] at b;exact b
  ·rintro e w' ⟨rfl,hb,hf⟩;have q:=hf.cell 0;simp at q;have HB:=qD (B3.trans (hb.below (by omega) (by omega)));clear B1 B2 B3 B4 hb hf H IH;have r1:1<=bE x most/\bE x most<=17:=by unfold bE;omega
   go_wp2_with fail;go_ret;exact⟨Dl (by omega),HB.out⟩
 ·obtain rfl:most=1:=by simp at hm;omega
  clear h ih;go_enter func150,ntmps150;go_wp2_with fail;go_ret;refine⟨?_,(((Ju _ _).alloc (qL) _).alloc (by simp) _)⟩;have e:bE x 1=1:=by unfold bE;omega
  rw[e];rfl
def qC(b:UInt8):Bool:=decide (33<=b.toNat)&&decide (b.toNat<=126)&&!(b.toNat==46)
def FP(b:UInt8):Bool:=decide (32<=b.toNat)&&decide (b.toNat<=126)
def aV(s:ByteArray):Bool:=decide (1<=s.size)&&decide (s.size<=32)&&!(s.data.toList.head?.map UInt8.toNat==some 36)&&s.data.toList.all qC
def ij(s:ByteArray):Bool:=decide (1<=s.size)&&decide (s.size<=128)&&s.data.toList.all FP
theorem kD(s:ByteArray)(i:Nat)(h:i<s.size):s.data.toList[i]?=some s[i]:=by
 rw[Jv (by simpa using h)];rfl
theorem mL{p:UInt8->Bool}{s:ByteArray}{i:Nat}(h:i<s.size)(ha:(s.data.toList.take i).all p=true)(hp:p s[i]=true):(s.data.toList.take (i+1)).all p=true:=by
 rw[take_snoc' (kD s i h),NU,ha];simp[hp]
theorem fJ{p:UInt8->Bool}{s:ByteArray}{i:Nat}(h:i<s.size)(hp:p s[i]=false):s.data.toList.all p=false:=by
 rw[OL];exact⟨s[i],Jx (kD s i h),by simp[hp]⟩
theorem oU{p:UInt8->Bool}{s:ByteArray}{i:Nat}(h:s.size<=i)(ha:(s.data.toList.take i).all p=true):s.data.toList.all p=true:=by
 rwa [KL (by simpa using h)] at ha
theorem kr(s:ByteArray)(h:0<s.size):s.data.toList.head?.map UInt8.toNat=some s[0].toNat:=by
 rw[List.head?_eq_getElem?,kD s 0 h];rfl
theorem mM{p:UInt8->Bool}{l:List UInt8}:(l.take 0).all p=true:=by simp
theorem lV(s:ByteArray)(w:World):Calls prog 200 #[.string s] w fun e w'=>e=.returned (.bool (aV s))/\w'=w:=by
 by_cases h1:s.size<1
 ·have HV:Hid (aV s=false):=by unfold Hid aV;rw[KQ (by omega)];rfl
  go_enter func200,OV;go_wp2_with fail;go_ret;exact⟨by rw[HV.out];rfl,rfl⟩
 by_cases h2:32<s.size
 ·have HV:Hid (aV s=false):=by unfold Hid aV;rw[Jy (by omega),KQ (by omega)];rfl
  go_enter func200,OV;go_wp2_with fail;go_ret;exact⟨by rw[HV.out];rfl,rfl⟩
 cases h3:((s[0].toNat:Int)==36);rotate_left
 ·have HV:Hid (aV s=false):=by
   have:s[0].toNat=36:=by simp at h3;omega
   unfold Hid aV;rw[Jy (by omega),Jy (by omega),kr s (by omega),this];rfl
  go_enter func200,OV;go_wp2_with fail;go_ret;exact⟨by rw[HV.out];rfl,rfl⟩
 have HA:Hid (aV s=s.data.toList.all qC):=by
  have:¬s[0].toNat=36:=by simp at h3;omega
  unfold Hid aV;rw[Jy (by omega),Jy (by omega),kr s (by omega)];simp[this]
 go_enter func200,OV;go_wp2_with fail
 go_loopw [19] (fun v wr=>∃i:Nat,i<=s.size/\v=.int .i64 i/\(s.data.toList.take i).all qC=true/\wr=w) (fun v _=>s.size-(intOf v).toNat)
 ·exact⟨0,KD _,rfl,mM,rfl⟩
 case round=>
  obtain⟨i,hi,rfl,ha,rfl⟩:=hrel;have HL:=qD ha;clear ha;by_cases hlt:i<s.size
  ·have hx:=s[i].toNat_lt;by_cases hb:(s[i].toNat:Int)<33
   ·have HV:Hid (aV s=false):=by rw[Hid,HA.out];exact fJ hlt (by unfold qC;rw[KQ (by omega)];rfl)
    go_wp2_with fail;go_ret;exact⟨by rw[HV.out];rfl,rfl⟩
   by_cases hc:126<(s[i].toNat:Int)
   ·have HV:Hid (aV s=false):=by rw[Hid,HA.out];exact fJ hlt (by unfold qC;rw[Jy (by omega),KQ (by omega)];rfl)
    go_wp2_with fail;go_ret;exact⟨by rw[HV.out];rfl,rfl⟩
   cases hd:((s[i].toNat:Int)==46);rotate_left
   ·have HV:Hid (aV s=false):=by
     have:s[i].toNat=46:=by simp at hd;omega
     rw[Hid,HA.out];exact fJ hlt (by unfold qC;rw[this];rfl)
    go_wp2_with fail;go_ret;exact⟨by rw[HV.out];rfl,rfl⟩
   have HN:Hid ((s.data.toList.take (i+1)).all qC=true):=by
    have:¬s[i].toNat=46:=by simp at hd;omega
    exact mL hlt HL.out (by unfold qC;rw[Jy (by omega),Jy (by omega)];simp[this])
   go_wp2_with fail;go_roundw
   ·exact⟨i+1,by omega,by go_num,HN.out,trivial⟩
   ·simp[intOf];omega
  ·have HV:Hid (aV s=true):=by rw[Hid,HA.out];exact oU (by omega) HL.out
   go_wp2_with fail;go_ret;exact⟨by rw[HV.out];rfl,rfl⟩
theorem gl(s:ByteArray)(w:World):Calls prog 59 #[.string s] w fun e w'=>e=.returned (.bool (aV s))/\w'=w:=by
 by_cases h1:s.size<1
 ·have HV:Hid (aV s=false):=by unfold Hid aV;rw[KQ (by omega)];rfl
  go_enter func59,ntmps59;go_wp2_with fail;go_ret;exact⟨by rw[HV.out];rfl,rfl⟩
 by_cases h2:32<s.size
 ·have HV:Hid (aV s=false):=by unfold Hid aV;rw[Jy (by omega),KQ (by omega)];rfl
  go_enter func59,ntmps59;go_wp2_with fail;go_ret;exact⟨by rw[HV.out];rfl,rfl⟩
 cases h3:((s[0].toNat:Int)==36);rotate_left
 ·have HV:Hid (aV s=false):=by
   have:s[0].toNat=36:=by simp at h3;omega
   unfold Hid aV;rw[Jy (by omega),Jy (by omega),kr s (by omega),this];rfl
  go_enter func59,ntmps59;go_wp2_with fail;go_ret;exact⟨by rw[HV.out];rfl,rfl⟩
 have HA:Hid (aV s=s.data.toList.all qC):=by
  have:¬s[0].toNat=36:=by simp at h3;omega
  unfold Hid aV;rw[Jy (by omega),Jy (by omega),kr s (by omega)];simp[this]
 go_enter func59,ntmps59;go_wp2_with fail
 go_loopw [3] (fun v wr=>∃i:Nat,i<=s.size/\v=.int .i64 i/\(s.data.toList.take i).all qC=true/\wr=w) (fun v _=>s.size-(intOf v).toNat)
 ·exact⟨0,KD _,rfl,mM,rfl⟩
 case round=>
  obtain⟨i,hi,rfl,ha,rfl⟩:=hrel;have HL:=qD ha;clear ha;by_cases hlt:i<s.size
  ·have hx:=s[i].toNat_lt;by_cases hb:(s[i].toNat:Int)<33
   ·have HV:Hid (aV s=false):=by rw[Hid,HA.out];exact fJ hlt (by unfold qC;rw[KQ (by omega)];rfl)
    go_wp2_with fail;go_ret;exact⟨by rw[HV.out];rfl,rfl⟩
   by_cases hc:126<(s[i].toNat:Int)
   ·have HV:Hid (aV s=false):=by rw[Hid,HA.out];exact fJ hlt (by unfold qC;rw[Jy (by omega),KQ (by omega)];rfl)
    go_wp2_with fail;go_ret;exact⟨by rw[HV.out];rfl,rfl⟩
   cases hd:((s[i].toNat:Int)==46);rotate_left
   ·have HV:Hid (aV s=false):=by
     have:s[i].toNat=46:=by simp at hd;omega
     rw[Hid,HA.out];exact fJ hlt (by unfold qC;rw[this];rfl)
    go_wp2_with fail;go_ret;exact⟨by rw[HV.out];rfl,rfl⟩
   have HN:Hid ((s.data.toList.take (i+1)).all qC=true):=by
    have:¬s[i].toNat=46:=by simp at hd;omega
    exact mL hlt HL.out (by unfold qC;rw[Jy (by omega),Jy (by omega)];simp[this])
   go_wp2_with fail;go_roundw
   ·exact⟨i+1,by omega,by go_num,HN.out,trivial⟩
   ·simp[intOf];omega
  ·have HV:Hid (aV s=true):=by rw[Hid,HA.out];exact oU (by omega) HL.out
   go_wp2_with fail;go_ret;exact⟨by rw[HV.out];rfl,rfl⟩
def bv(s:ByteArray):List Value:=[.string s]
theorem ez(s:ByteArray):(bv s).length=1:=rfl
theorem uF(s:ByteArray):∀u∈bv s,u.oneCell'=true:=by
 intro u hu;simp only[bv,LG,List.not_mem_nil,or_false] at hu;subst hu;rfl
end
structure OC where
 A:Option Addr
 n:Nat
 c:Nat
 d:Bool
def FQ(o:OC):List Value:=[.slice o.A o.n o.c,.bool o.d]
structure Od where
 p:List ByteArray
 d:Bool
structure ST(w:World)(A:Option Addr)(n c:Nat)(l:List ByteArray):Prop where
 sr:SR 1 bv w A n c l
 sz:n*16<=aH
 el:∀s∈l,s.size<=aH
section
variable {l:List ByteArray} {c n size:Nat} {w w':World} {A:Option Addr}
theorem ST.step{w w':World}{A:Option Addr}{n c:Nat}{l:List ByteArray}(h:ST w A n c l)(hb:Below w.heap.size w w'):ST w' A n c l:=⟨h.sr.step hb,h.sz,h.el⟩
end
structure OR(w:World)(o:OC)(q:Od):Prop where
 d:o.d=q.d
 st:ST w o.A o.n o.c q.p
structure KO(w:World)(A:Option Addr)(n c:Nat)(os:List OC)(ks:List Od):Prop where
 sr:SR 2 FQ w A n c os
 sz:n*32<=aH
 ln:os.length=ks.length
 el:∀(i:Nat) (o:OC) (q:Od),os[i]?=some o->ks[i]?=some q->OR w o q
def KS(w:World)(A:Option Addr)(n c:Nat)(ks:List Od):Prop:=∃os,KO w A n c os ks
theorem KS.ln{w:World}{A:Option Addr}{n c:Nat}{ks:List Od}(h:KS w A n c ks):n=ks.length:=by obtain⟨os,h⟩:=h;rw[h.sr.ln,h.ln]
structure RA where
 KA:Option Addr
 kn:Nat
 kc:Nat
 CA:Option Addr
 cn:Nat
 cc:Nat
section
variable {l xs:List ByteArray} {b c k i n off j size:Nat} {a x d:Int} {s:ByteArray} {w w':World} {A:Option Addr} {e:TypeId}
theorem SR.Jn{w:World}{A:Option Addr}{n c:Nat}{l:List OC}(h:SR 2 FQ w A n c l){i:Nat}(hi:i<n):∃b off x,A=some ⟨b,off,none⟩/\b<w.heap.size/\l[i]?=some x/\
 w.cell? ⟨b,off+i*2,none⟩=some (.slice x.A x.n x.c)/\w.cell? ⟨b,off+i*2+1,none⟩=some (.bool x.d):=by
 obtain⟨b,off,e,hb,hc⟩:=h.el (by omega);have hl:i<l.length:=by have:=h.ln;omega
 have h1:=Jv hl;exact⟨b,off,l[i],e,hb,h1,hc i _ h1 0 _ rfl,hc i _ h1 1 _ rfl⟩
theorem SR.JH{w:World}{A:Option Addr}{n c:Nat}{l:List ByteArray}(h:SR 1 bv w A n c l){i:Nat}(hi:i<n):∃b off x,A=some ⟨b,off,none⟩/\b<w.heap.size/\l[i]?=some x/\
 w.cell? ⟨b,off+i,none⟩=some (.string x):=by
 obtain⟨b,off,e,hb,hc⟩:=h.el (by omega);have hl:i<l.length:=by have:=h.ln;omega
 have h1:=Jv hl;exact⟨b,off,l[i],e,hb,h1,by simpa using hc i _ h1 0 _ rfl⟩
theorem fx:(Tryz.prog.info? 9).map (fun i=>(i.zero,i.size,i.bytes))=some (some (.string empty),1,16):=by kernel_rfl
theorem SR.reads{α:Type}{rec:α->List Value}{s:Nat}(hs:∀a,(rec a).length=s)(hp:0<s){w:World}{A:Option Addr}{n c:Nat}{xs:List α}(h:SR s rec w A n c xs):eE w w.heap.size s A n (aO rec xs):=by
 refine⟨by rw[cA hs,h.ln],fun hn=>?_⟩;obtain⟨b,off,e,hb,hel⟩:=h.el hn;subst e;refine⟨_,rfl,hb,fun j u hu=>?_⟩;have hj:=(KF.1 hu).1;rw[cA hs] at hj;obtain⟨a,v,g1,g2,g3⟩:=flat_at' hs hp xs j hj;have:=hel (j/s) a g1 (j%s) v g2;rw[dM];rw[g3] at hu;cases hu;have hdm:=Nat.div_add_mod j s;rw[Og] at hdm;rw[show off+j=off+j/s*s+j%s by omega];exact this
theorem fy{α:Type}{rec:α->List Value}(h1:∀a,∀u∈rec a,u.oneCell'=true)(xs:List α):∀u∈aO rec xs,u.oneCell'=true:=by
 intro u hu;obtain⟨p,_,hp⟩:=Lj.1 hu;exact h1 p u hp
section
variable {α:Type}
def eP(p:α->Bool):List α->Nat->Int
 | [],_=>-1
 | c::r,i=>if p c then(i:Int) else eP p r (i+1)
def sS(p:α->Bool)(l:List α):Int:=eP p l 0
theorem qN(p:α->Bool):∀(l:List α) (k:Nat),(eP p l k=-1/\∀c∈l,p c=false)\/∃(i:Nat) (c:α),eP p l k=(k+i:Nat)/\l[i]?=some c/\p c=true/\∀j,j<i->∀d,l[j]?=some d->p d=false:=by
 intro l
 induction l with
 | nil=>intro k;exact .inl ⟨rfl,fun _ h=>by simp at h⟩
 | cons c r ih=>
  intro k;cases hc:p c
  ·rw[eP,hc,KU (by simp)];rcases ih (k+1) with⟨h1,h2⟩|⟨i,d,h1,h2,h3,h4⟩
   ·refine .inl ⟨h1,fun x hx=>?_⟩;rcases LG.1 hx with rfl|hx
    ·exact hc
    ·exact h2 x hx
   ·refine .inr ⟨i+1,d,by rw[h1];omega,by simpa using h2,h3,fun j hj e he=>?_⟩;cases j with
    | zero=>simp at he;subst he;exact hc
    | succ j=>exact h4 j (by omega) e (by simpa using he)
  ·rw[eP,hc,Kb rfl];exact .inr ⟨0,c,rfl,rfl,hc,fun j hj=>absurd hj (by omega)⟩
theorem wG(p:α->Bool)(l:List α):(sS p l=-1/\∀c∈l,p c=false)\/∃(i:Nat) (c:α),sS p l=(i:Nat)/\l[i]?=some c/\p c=true/\∀j,j<i->∀d,l[j]?=some d->p d=false:=by
 rcases qN p l 0 with h|⟨i,c,h1,h⟩
 ·exact .inl h
 ·exact .inr ⟨i,c,by rw[sS,h1,Jw],h⟩
end
def dk(p:List ByteArray):Bool:=decide (1<=p.length)&&decide (p.length<=16)&&p.all aV
def de:List ByteArray->List ByteArray->Bool
 | [],[]=>true
 | a::r,b::s=>(a.toList==b.toList)&&de r s
 | _,_=>false
def nx(v:Int):Int:=wrap64 (v+1)
theorem uG(s:ByteArray)(w:World):Calls prog 195 #[.string s] w fun e w'=>e=.returned (.bool (!aV s))/\w'=w:=by
 by_cases h1:s.size<1
 ·have HV:Hid (aV s=false):=by unfold Hid aV;rw[KQ (by omega)];rfl
  go_enter func195,OW;go_wp2_with fail;go_ret;exact⟨by rw[HV.out];rfl,rfl⟩
 by_cases h2:32<s.size
 ·have HV:Hid (aV s=false):=by unfold Hid aV;rw[Jy (by omega),KQ (by omega)];rfl
  go_enter func195,OW;go_wp2_with fail;go_ret;exact⟨by rw[HV.out];rfl,rfl⟩
 cases h3:((s[0].toNat:Int)==36);rotate_left
 ·have HV:Hid (aV s=false):=by
   have:s[0].toNat=36:=by simp at h3;omega
   unfold Hid aV;rw[Jy (by omega),Jy (by omega),kr s (by omega),this];rfl
  go_enter func195,OW;go_wp2_with fail;go_ret;exact⟨by rw[HV.out];rfl,rfl⟩
 have HA:Hid (aV s=s.data.toList.all qC):=by
  have:¬s[0].toNat=36:=by simp at h3;omega
  unfold Hid aV;rw[Jy (by omega),Jy (by omega),kr s (by omega)];simp[this]
 go_enter func195,OW;go_wp2_with fail
 go_loopw [19] (fun v wr=>∃i:Nat,i<=s.size/\v=.int .i64 i/\(s.data.toList.take i).all qC=true/\wr=w) (fun v _=>s.size-(intOf v).toNat)
 ·exact⟨0,KD _,rfl,mM,rfl⟩
 case round=>
  obtain⟨i,hi,rfl,ha,rfl⟩:=hrel;have HL:=qD ha;clear ha;by_cases hlt:i<s.size
  ·have hx:=s[i].toNat_lt;by_cases hb:(s[i].toNat:Int)<33
   ·have HV:Hid (aV s=false):=by rw[Hid,HA.out];exact fJ hlt (by unfold qC;rw[KQ (by omega)];rfl)
    go_wp2_with fail;go_ret;exact⟨by rw[HV.out];rfl,rfl⟩
   by_cases hc:126<(s[i].toNat:Int)
   ·have HV:Hid (aV s=false):=by rw[Hid,HA.out];exact fJ hlt (by unfold qC;rw[Jy (by omega),KQ (by omega)];rfl)
    go_wp2_with fail;go_ret;exact⟨by rw[HV.out];rfl,rfl⟩
   cases hd:((s[i].toNat:Int)==46);rotate_left
   ·have HV:Hid (aV s=false):=by
     have:s[i].toNat=46:=by simp at hd;omega
     rw[Hid,HA.out];exact fJ hlt (by unfold qC;rw[this];rfl)
    go_wp2_with fail;go_ret;exact⟨by rw[HV.out];rfl,rfl⟩
   have HN:Hid ((s.data.toList.take (i+1)).all qC=true):=by
    have:¬s[i].toNat=46:=by simp at hd;omega
    exact mL hlt HL.out (by unfold qC;rw[Jy (by omega),Jy (by omega)];simp[this])
   go_wp2_with fail;go_roundw
   ·exact⟨i+1,by omega,by go_num,HN.out,trivial⟩
   ·simp[intOf];omega
  ·have HV:Hid (aV s=true):=by rw[Hid,HA.out];exact oU (by omega) HL.out
   go_wp2_with fail;go_ret;exact⟨by rw[HV.out];rfl,rfl⟩
theorem wH{α:Type}{p:α->Bool}{l:List α}{i:Nat}{x:α}(h:l[i]?=some x):eP p (l.drop i) i=if p x then(i:Int) else eP p (l.drop (i+1)) (i+1):=by rw[dX h,eP]
theorem uH{α:Type}{p:α->Bool}{l:List α}{i:Nat}(h:l.length<=i):eP p (l.drop i) i=-1:=by rw[Kk h,eP]
theorem wI(l:List ByteArray)(A:Option Addr)(n c:Nat)(w:World)(h:ST w A n c l):
 Calls prog 249 #[.slice A n c,.func (.func 195) #[] #[]] w fun e w'=>e=.returned (.int .i64 (sS (fun s=>!aV s) l))/\w'=w:=by
 have hz:n<=140737488355328:=by have:=h.sz;unfold aH at this;omega
 have H:=qD h;clear h;go_enter func249,ntmps249;go_wp2_with fail
 go_loopw [8] (fun v wr=>∃i:Nat,i<=n/\v=.int .i64 i/\sS (fun s=>!aV s) l=eP (fun s=>!aV s) (l.drop i) i/\wr=w) (fun v _=>n-(intOf v).toNat)
 ·exact⟨0,KD _,rfl,rfl,rfl⟩
 case round=>
  obtain⟨i,hi,rfl,ha,rfl⟩:=hrel;have HA:=qD ha;clear ha;by_cases hlt:i<n
  ·obtain⟨b,off,x,hA,hb,hx,e0⟩:=H.out.sr.JH hlt;subst hA;have HX:=qD (wH (p:=fun s=>!aV s) hx);clear hx;go_wp2_with fail;refine(uG x _).mono ?_;rintro e w1 ⟨rfl,rfl⟩;cases hq:aV x
   ·have HF:Hid (sS (fun s=>!aV s) l=(i:Int)):=by rw[Hid,HA.out,HX.out,hq];rfl
    go_wp2_with fail;go_ret;exact⟨by rw[HF.out];rfl,rfl⟩
   ·have HF:Hid (sS (fun s=>!aV s) l=eP (fun s=>!aV s) (l.drop (i+1)) (i+1)):=by rw[Hid,HA.out,HX.out,hq];rfl
    go_wp2_with fail;go_roundw
    ·exact⟨i+1,by omega,by go_num,HF.out,trivial⟩
    ·simp[intOf];omega
  ·have HF:Hid (sS (fun s=>!aV s) l=-1):=by rw[Hid,HA.out];exact uH (by have:=H.out.sr.ln;omega)
   go_wp2_with fail;go_ret;exact⟨by rw[HF.out];rfl,rfl⟩
theorem Dm(p:ByteArray->Bool)(l:List ByteArray):decide (0<=sS (fun s=>!p s) l)=!l.all p:=by
 rcases wG (fun s=>!p s) l with⟨h1,h2⟩|⟨i,c,h1,h2,h3,_⟩
 ·rw[h1];have:l.all p=true:=Mg.2 fun x hx=>by simpa using h2 x hx
  rw[this];rfl
 ·rw[h1];have:l.all p=false:=OL.2 ⟨c,Jx h2,by simpa using h3⟩;rw[this,Jy (by omega)];rfl
theorem qO(l:List ByteArray)(A:Option Addr)(n c:Nat)(w:World)(h:ST w A n c l):
 Calls prog 194 #[.slice A n c,.func (.func 195) #[] #[]] w fun e w'=>e=.returned (.bool (!l.all aV))/\w'=w:=by
 have H:=qD h;clear h;have HV:=qD (Dm aV l);go_enter func194,ntmps194;go_wp2_with fail;refine(wI l _ _ _ _ H.out).mono ?_;rintro e w1 ⟨rfl,rfl⟩;go_wp2_with fail;go_ret;exact⟨by rw[<-HV.out];rfl,rfl⟩
theorem Bn(l:List ByteArray)(A:Option Addr)(n c:Nat)(w:World)(h:ST w A n c l):
 Calls prog 148 #[.slice A n c] w fun e w'=>e=.returned (.bool (dk l))/\w'=w:=by
 have hz:n<=140737488355328:=by have:=h.sz;unfold aH at this;omega
 have H:=qD h;have hn:=qD h.sr.ln;clear h;by_cases h1:1<=n
 ·by_cases h2:n<=16
  ·have HV:Hid (dk l=l.all aV):=by unfold Hid dk;rw[<-hn.out,Jy h1,Jy h2];rfl
   go_enter func148,ntmps148;go_wp2_with fail;refine(qO l _ _ _ _ H.out).mono ?_;rintro e w1 ⟨rfl,rfl⟩;go_wp2_with fail;go_ret;exact⟨by rw[HV.out];simp,rfl⟩
  ·have HV:Hid (dk l=false):=by unfold Hid dk;rw[<-hn.out,Jy h1,KQ h2];rfl
   go_enter func148,ntmps148;go_wp2_with fail;go_ret;exact⟨by rw[HV.out];rfl,rfl⟩
 ·have HV:Hid (dk l=false):=by unfold Hid dk;rw[<-hn.out,KQ h1];rfl
  go_enter func148,ntmps148;go_wp2_with fail;go_ret;exact⟨by rw[HV.out];rfl,rfl⟩
end
structure uI(α:Type) where
 A:Option Addr
 n:Nat
 c:Nat
 xs:List α
abbrev uI.v{α:Type}(s:uI α):Value:=.slice s.A s.n s.c
def uI.nil{α:Type}:uI α:=⟨none,0,0,[]⟩
inductive dI where
 | mk (op:Int) (path:uI ByteArray) (name:ByteArray) (names:uI ByteArray) (arg:PV) (n:Int) (kA:Option Addr) (kn kc:Nat) (kids:List dI)
def dI.op:dI->Int | .mk op _ _ _ _ _ _ _ _ _=>op
def dI.path:dI->uI ByteArray | .mk _ x _ _ _ _ _ _ _ _=>x
def dI.name:dI->ByteArray | .mk _ _ x _ _ _ _ _ _ _=>x
def dI.names:dI->uI ByteArray | .mk _ _ _ x _ _ _ _ _ _=>x
def dI.arg:dI->PV | .mk _ _ _ _ x _ _ _ _ _=>x
def dI.n:dI->Int | .mk _ _ _ _ _ x _ _ _ _=>x
def dI.kA:dI->Option Addr | .mk _ _ _ _ _ _ x _ _ _=>x
def dI.kn:dI->Nat | .mk _ _ _ _ _ _ _ x _ _=>x
def dI.kc:dI->Nat | .mk _ _ _ _ _ _ _ _ x _=>x
def dI.kids:dI->List dI | .mk _ _ _ _ _ _ _ _ _ x=>x
def dI.zero:dI:=.mk 0 .nil empty .nil (VC.zero,aC.zero) 0 none 0 0 []
inductive aX where
 | mk (op:Int) (path:uI ByteArray) (arg:PV) (args:uI PV) (n m sk:Int) (pts:uI (Int×Int)) (sr:Int) (ex:dI) (kA:Option Addr) (kn kc:Nat) (kids:List aX)
def aX.op:aX->Int | .mk op _ _ _ _ _ _ _ _ _ _ _ _ _=>op
def aX.path:aX->uI ByteArray | .mk _ x _ _ _ _ _ _ _ _ _ _ _ _=>x
def aX.arg:aX->PV | .mk _ _ x _ _ _ _ _ _ _ _ _ _ _=>x
def aX.args:aX->uI PV | .mk _ _ _ x _ _ _ _ _ _ _ _ _ _=>x
def aX.n:aX->Int | .mk _ _ _ _ x _ _ _ _ _ _ _ _ _=>x
def aX.m:aX->Int | .mk _ _ _ _ _ x _ _ _ _ _ _ _ _=>x
section
variable {l:List ByteArray} {k:Nat} {x:Int} {w:World}
def aX.sk:aX->Int | .mk _ _ _ _ _ _ x _ _ _ _ _ _ _=>x
def aX.pts:aX->uI (Int×Int) | .mk _ _ _ _ _ _ _ x _ _ _ _ _ _=>x
def aX.sr:aX->Int | .mk _ _ _ _ _ _ _ _ x _ _ _ _ _=>x
def aX.ex:aX->dI | .mk _ _ _ _ _ _ _ _ _ x _ _ _ _=>x
def aX.kA:aX->Option Addr | .mk _ _ _ _ _ _ _ _ _ _ x _ _ _=>x
def aX.kn:aX->Nat | .mk _ _ _ _ _ _ _ _ _ _ _ x _ _=>x
def aX.kc:aX->Nat | .mk _ _ _ _ _ _ _ _ _ _ _ _ x _=>x
def aX.kids:aX->List aX | .mk _ _ _ _ _ _ _ _ _ _ _ _ _ x=>x
theorem dI.ind{p:dI->Prop}(h:∀x:dI,(∀k∈x.kids,p k)->p x):∀x,p x:=by
 intro x;refine dI.rec (motive_1:=p) (motive_2:=fun l=>∀k∈l,p k) ?_ ?_ ?_ x
 ·intro op path name names arg n kA kn kc kids hk;exact h _ hk
 ·intro k hk;simp at hk
 ·intro y r hy hr k hk;rcases LG.1 hk with rfl|hk
  ·exact hy
  ·exact hr k hk
theorem aX.ind{p:aX->Prop}(h:∀x:aX,(∀k∈x.kids,p k)->p x):∀x,p x:=by
 intro x;refine aX.rec (motive_1:=p) (motive_2:=fun l=>∀k∈l,p k) ?_ ?_ ?_ x
 ·intro op path arg args n m sk pts sr ex kA kn kc kids hk;exact h _ hk
 ·intro k hk;simp at hk
 ·intro y r hy hr k hk;rcases LG.1 hk with rfl|hk
  ·exact hy
  ·exact hr k hk
def dO(x:dI):List Value:=
 [.int .i64 x.op,x.path.v,.string x.name,x.names.v,.int .i64 x.arg.1.k,.int .i64 x.arg.1.n,.string x.arg.1.t,.slice x.arg.1.LA x.arg.1.ln x.arg.1.lc,.slice x.arg.1.DA x.arg.1.dn x.arg.1.dc,.int .i64 x.n,.slice x.kA x.kn x.kc]
abbrev aN(x:dI):Array Value:=
 #[.int .i64 x.op,x.path.v,.string x.name,x.names.v,.int .i64 x.arg.1.k,.int .i64 x.arg.1.n,.string x.arg.1.t,.slice x.arg.1.LA x.arg.1.ln x.arg.1.lc,.slice x.arg.1.DA x.arg.1.dn x.arg.1.dc,.int .i64 x.n,.slice x.kA x.kn x.kc]
abbrev dL(x:dI):Value:=.agg (aN x)
def aq(p:aX):List Value:=
 [.int .i64 p.op,p.path.v,.int .i64 p.arg.1.k,.int .i64 p.arg.1.n,.string p.arg.1.t,.slice p.arg.1.LA p.arg.1.ln p.arg.1.lc,.slice p.arg.1.DA p.arg.1.dn p.arg.1.dc,p.args.v,.int .i64 p.n,.int .i64 p.m,.int .i64 p.sk,p.pts.v,.int .i64 p.sr,
  .int .i64 p.ex.op,p.ex.path.v,.string p.ex.name,p.ex.names.v,.int .i64 p.ex.arg.1.k,.int .i64 p.ex.arg.1.n,.string p.ex.arg.1.t,.slice p.ex.arg.1.LA p.ex.arg.1.ln p.ex.arg.1.lc,.slice p.ex.arg.1.DA p.ex.arg.1.dn p.ex.arg.1.dc,.int .i64 p.ex.n,.slice p.ex.kA p.ex.kn p.ex.kc,
  .slice p.kA p.kn p.kc]
abbrev aD(p:aX):Array Value:=
 #[.int .i64 p.op,p.path.v,.int .i64 p.arg.1.k,.int .i64 p.arg.1.n,.string p.arg.1.t,.slice p.arg.1.LA p.arg.1.ln p.arg.1.lc,.slice p.arg.1.DA p.arg.1.dn p.arg.1.dc,p.args.v,.int .i64 p.n,.int .i64 p.m,.int .i64 p.sk,p.pts.v,.int .i64 p.sr,
  .int .i64 p.ex.op,p.ex.path.v,.string p.ex.name,p.ex.names.v,.int .i64 p.ex.arg.1.k,.int .i64 p.ex.arg.1.n,.string p.ex.arg.1.t,.slice p.ex.arg.1.LA p.ex.arg.1.ln p.ex.arg.1.lc,.slice p.ex.arg.1.DA p.ex.arg.1.dn p.ex.arg.1.dc,.int .i64 p.ex.n,.slice p.ex.kA p.ex.kn p.ex.kc,
  .slice p.kA p.kn p.kc]
abbrev aW(p:aX):Value:=.agg (aD p)
def nh(p:Int×Int):List Value:=[.int .i64 p.1,.int .i64 p.2]
theorem sT(x:dI):(dO x).length=11:=rfl
theorem jG(p:aX):(aq p).length=25:=rfl
theorem sU(p:Int×Int):(nh p).length=2:=rfl
def WX(w:World):dI->Prop
 | .mk _ path name names arg _ kA kn kc kids=>ST w path.A path.n path.c path.xs/\name.size<=aH/\ST w names.A names.n names.c names.xs/\RW w arg.1 arg.2/\SR 11 dO w kA kn kc kids/\kn*184<=aH/\WXs w kids
where WXs (w:World):List dI->Prop
 | []=>True
 | x::r=>WX w x/\WXs w r
def WP(w:World):aX->Prop
 | .mk _ path arg args _ _ _ pts _ ex kA kn kc kids=>ST w path.A path.n path.c path.xs/\RW w arg.1 arg.2/\SL (fun _=>True) w args.A args.n args.c args.xs/\args.n<=1048576/\SR 2 nh w pts.A pts.n pts.c pts.xs/\pts.n*16<=aH/\WX w ex/\SR 25 aq w kA kn kc kids/\kn*400<=aH/\WPs w kids
where WPs (w:World):List aX->Prop
 | []=>True
 | x::r=>WP w x/\WPs w r
theorem yW{w:World}{l:List dI}:WX.WXs w l↔∀k∈l,WX w k:=by
 induction l with
 | nil=>simp[WX.WXs]
 | cons y r ih=>simp[WX.WXs,ih]
theorem yX{w:World}{l:List aX}:WP.WPs w l↔∀k∈l,WP w k:=by
 induction l with
 | nil=>simp[WP.WPs]
 | cons y r ih=>simp[WP.WPs,ih]
end
structure GL(w:World)(x:dI):Prop where
 path:ST w x.path.A x.path.n x.path.c x.path.xs
 nsz:x.name.size<=aH
 names:ST w x.names.A x.names.n x.names.c x.names.xs
 arg:RW w x.arg.1 x.arg.2
 sr:SR 11 dO w x.kA x.kn x.kc x.kids
 ksz:x.kn*184<=aH
 kids:∀k∈x.kids,WX w k
section
variable {x:Int} {w:World}
theorem WX.open{w:World}{x:dI}(h:WX w x):GL w x:=by
 cases x;obtain⟨h1,h2,h3,h4,h5,h6,h7⟩:=h;exact⟨h1,h2,h3,h4,h5,h6,yW.1 h7⟩
theorem GL.shut{w:World}{x:dI}(h:GL w x):WX w x:=by
 cases x;exact⟨h.path,h.nsz,h.names,h.arg,h.sr,h.ksz,yW.2 h.kids⟩
end
structure Dn(w:World)(p:aX):Prop where
 path:ST w p.path.A p.path.n p.path.c p.path.xs
 arg:RW w p.arg.1 p.arg.2
 args:SL (fun _=>True) w p.args.A p.args.n p.args.c p.args.xs
 few:p.args.n<=1048576
 pts:SR 2 nh w p.pts.A p.pts.n p.pts.c p.pts.xs
 psz:p.pts.n*16<=aH
 ex:WX w p.ex
 sr:SR 25 aq w p.kA p.kn p.kc p.kids
 ksz:p.kn*400<=aH
 kids:∀k∈p.kids,WP w k
section
variable {size:Nat} {x:Int} {w w':World}
theorem WP.open{w:World}{p:aX}(h:WP w p):Dn w p:=by
 cases p;obtain⟨h1,h2,h3,h4,h5,h6,h7,h8,h9,h10⟩:=h;exact⟨h1,h2,h3,h4,h5,h6,h7,h8,h9,yX.1 h10⟩
theorem Dn.shut{w:World}{p:aX}(h:Dn w p):WP w p:=by
 cases p;exact⟨h.path,h.arg,h.args,h.few,h.pts,h.psz,h.ex,h.sr,h.ksz,yX.2 h.kids⟩
theorem WX.step{w w':World}(hb:Below w.heap.size w w'):∀{x:dI},WX w x->WX w' x:=by
 intro x
 induction x using dI.ind with
 | h x ih=>
  intro h;have o:=h.open;exact GL.shut ⟨o.path.step hb,o.nsz,o.names.step hb,o.arg.step hb,o.sr.step hb,o.ksz,fun k hk=>ih k hk (o.kids k hk)⟩
theorem WP.step{w w':World}(hb:Below w.heap.size w w'):∀{p:aX},WP w p->WP w' p:=by
 intro p
 induction p using aX.ind with
 | h p ih=>
  intro h;have o:=h.open;exact Dn.shut ⟨o.path.step hb,o.arg.step hb,o.args.step hb,o.few,o.pts.step hb,o.psz,o.ex.step hb,o.sr.step hb,o.ksz,fun k hk=>ih k hk (o.kids k hk)⟩
def aX.nodes:aX->Nat
 | .mk _ _ _ _ _ _ _ _ _ _ _ _ _ kids=>1+nodesL kids
where nodesL:List aX->Nat
 | []=>0
 | x::r=>x.nodes+nodesL r
theorem aX.Iz(p:aX):p.nodes=1+aX.nodes.nodesL p.kids:=by cases p;rfl
abbrev cM(x y:Int):Int:=Lib.compareInt x y
def dP(a b:ByteArray):Int:=Lib.compareBytes a.data.toList b.data.toList
end
mutual
def aY:aC->aC->Int
 | .mk k n t l d,y=>
  if k≠y.k then cM k y.k
  else if k=3\/k=9\/k=10 then cM n y.n
  else if k=4\/k=7\/k=8 then dP t y.t
  else if k=6 then cx l y.l
  else if k=5 then cH d y.d
  else 0
def cx:List aC->List aC->Int
 | [],m=>if m.isEmpty then 0 else -1
 | _::_,[]=>1
 | x::r,y::s=>if aY x y≠0 then aY x y else cx r s
def cH:List cF->List cF->Int
 | [],m=>if m.isEmpty then 0 else -1
 | _::_,[]=>1
 | x::r,y::s=>if zX x y≠0 then zX x y else cH r s
def zX:cF->cF->Int
 | .mk s v,g=>if dP s g.s≠0 then dP s g.s else aY v g.v
end
section
variable {l:List ByteArray} {b k i g n m:Nat} {a x y d:Int} {s:ByteArray} {t:TypeId} {v:Value}
theorem yY(f g:cF):zX f g=if dP f.s g.s≠0 then dP f.s g.s else aY f.v g.v:=by cases f;rw[zX];rfl
theorem jH(x y:aC):aY x y=if x.k≠y.k then cM x.k y.k else if x.k=3\/x.k=9\/x.k=10 then cM x.n y.n else if x.k=4\/x.k=7\/x.k=8 then dP x.t y.t
 else if x.k=6 then cx x.l y.l else if x.k=5 then cH x.d y.d else 0:=by
 cases x;rw[aY];rfl
theorem au{x y:aC}(h:x.k≠y.k):aY x y=cM x.k y.k:=by rw[jH,Kb h]
theorem fz{x y:aC}(h:x.k=y.k)(h':x.k=3\/x.k=9\/x.k=10):aY x y=cM x.n y.n:=by rw[jH,KU (by simpa using h),Kb h']
theorem eQ{x y:aC}(h:x.k=y.k)(h':x.k=4\/x.k=7\/x.k=8):aY x y=dP x.t y.t:=by rw[jH,KU (by simpa using h),KU (by omega),Kb h']
theorem nF{x y:aC}(h:x.k=y.k)(h':x.k=6):aY x y=cx x.l y.l:=by rw[jH,KU (by simpa using h),KU (by omega),KU (by omega),Kb h']
theorem ov{x y:aC}(h:x.k=y.k)(h':x.k=5):aY x y=cH x.d y.d:=by rw[jH,KU (by simpa using h),KU (by omega),KU (by omega),KU (by omega),Kb h']
theorem ef{x y:aC}(h:x.k=y.k)(h3:x.k≠3)(h9:x.k≠9)(h10:x.k≠10)(h4:x.k≠4)(h7:x.k≠7)(h8:x.k≠8)(h6:x.k≠6)(h5:x.k≠5):aY x y=0:=by
 rw[jH,KU (by simpa using h),KU (by omega),KU (by omega),KU h6,KU h5]
theorem ow(a b:Nat):cM (a:Int) (b:Int)=if a<b then -1 else if b<a then 1 else 0:=by
 unfold cM Lib.compareInt;rcases OM a b with h|h|h
 ·rw[Kb (by omega),Kb h]
 ·rw[KU (by omega),KU (by omega),KU (by omega),KU (by omega)]
 ·rw[KU (by omega),Kb (by omega),KU (by omega),Kb h]
theorem uJ{l m:List aC}{i:Nat}(h1:i<=l.length)(h2:i<=m.length)(h:l.length<=i\/m.length<=i):cx (l.drop i) (m.drop i)=cM (l.length:Int) (m.length:Int):=by
 rw[ow];by_cases hl:l.length<=i
 ·rw[Kk hl,cx];by_cases hm:m.length<=i
  ·rw[Kk hm,List.isEmpty_nil,Kb (Eq.refl true),KU (by omega),KU (by omega)]
  ·rw[KU (by simp;omega),Kb (by omega)]
 ·have hm:m.length<=i:=by omega
  rw[Kk hm,Lt (by omega:i<l.length),cx,KU (by omega),Kb (by omega)]
theorem yZ{l m:List aC}{i:Nat}{x y:aC}(hx:l[i]?=some x)(hy:m[i]?=some y):cx (l.drop i) (m.drop i)=if aY x y≠0 then aY x y else cx (l.drop (i+1)) (m.drop (i+1)):=by
 rw[dX hx,dX hy,cx]
theorem uK{l m:List cF}{i:Nat}(h1:i<=l.length)(h2:i<=m.length)(h:l.length<=i\/m.length<=i):cH (l.drop i) (m.drop i)=cM (l.length:Int) (m.length:Int):=by
 rw[ow];by_cases hl:l.length<=i
 ·rw[Kk hl,cH];by_cases hm:m.length<=i
  ·rw[Kk hm,List.isEmpty_nil,Kb (Eq.refl true),KU (by omega),KU (by omega)]
  ·rw[KU (by simp;omega),Kb (by omega)]
 ·have hm:m.length<=i:=by omega
  rw[Kk hm,Lt (by omega:i<l.length),cH,KU (by omega),Kb (by omega)]
theorem ya{l m:List cF}{i:Nat}{x y:cF}(hx:l[i]?=some x)(hy:m[i]?=some y):cH (l.drop i) (m.drop i)=if dP x.s y.s≠0 then dP x.s y.s else if aY x.v y.v≠0 then aY x.v y.v else cH (l.drop (i+1)) (m.drop (i+1)):=by
 rw[dX hx,dX hy,cH,yY];by_cases hb:dP x.s y.s=0
 ·simp[hb]
 ·simp[hb]
theorem qt(k:Int):(k=3\/k=9\/k=10)\/(k=4\/k=7\/k=8)\/k=6\/k=5\/(k≠3/\k≠9/\k≠10/\k≠4/\k≠7/\k≠8/\k≠6/\k≠5):=by omega
def dZ{α:Type}(l:List α)(k:Nat):List α->List α
 | []=>l
 | v::vs=>dZ (l.set k v) (k+1) vs
theorem lW{α:Type}:∀(vs l:List α) (k:Nat),k+vs.length<=l.length->dZ l k vs=l.take k++vs++l.drop (k+vs.length):=by
 intro vs
 induction vs with
 | nil=>intro l k _;simp[dZ]
 | cons v vs ih=>
  intro l k h;simp only[Ks] at h;rw[dZ,ih _ _ (by simp;omega),List.take_set,List.drop_set_of_lt (by omega)]
  have e1:(l.take (k+1)).set k v=l.take k++[v]:=by
   rw[List.take_succ_eq_append_getElem (by omega),Mb _ _ (by simp;omega)];simp;rw[show k-min k l.length=0 by omega];rfl
  rw[e1];simp only[LN,List.singleton_append,Ks,show k+1+vs.length=k+(vs.length+1) by omega]
def TR(a b c:Int):Prop:=a<=0->b<=0->c<=0/\(c=0↔a=0/\b=0)
def bt(t:ByteArray):Bool:=Lib.validD t.data.toList
def dl(k n:Int)(t:ByteArray)(ln dn:Nat):Prop:=
 (k=3\/k=9\/k=10\/n=0)/\(k=4\/k=7\/k=8\/t.size=0)/\(k=6\/ln=0)/\(k=5\/dn=0)/\
 (k=1\/k=2\/k=11\/k=3\/(k=9/\(n=0\/n=1))\/(k=10/\0<=n)\/(k=4/\t.size<=4096/\bt t=true)\/(k=7/\t.size<=4096)\/(k=8/\t.size=12)\/k=6\/k=5)
def iV(nm:ByteArray->Bool)(d:List cF):Prop:=(∀f∈d,nm f.s=true)/\(d.map cF.s).Nodup
end
mutual
def bc(nm:ByteArray->Bool):aC->Prop
 | .mk k n t l d=>dl k n t l.length d.length/\mN nm l/\mO nm d/\iV nm d
def mN(nm:ByteArray->Bool):List aC->Prop
 | []=>True
 | x::r=>bc nm x/\mN nm r
def mO(nm:ByteArray->Bool):List cF->Prop
 | []=>True
 | f::r=>wJ nm f/\mO nm r
def wJ(nm:ByteArray->Bool):cF->Prop
 | .mk _ v=>bc nm v
end
section
variable {l:List ByteArray} {b c k i n m:Nat} {a x y d:Int} {s:ByteArray} {t:TypeId} {v:Value}
theorem uL(nm:ByteArray->Bool)(l:List aC):mN nm l↔∀y∈l,bc nm y:=by
 induction l with
 | nil=>simp[mN]
 | cons x r ih=>simp[mN,ih]
theorem wK(nm:ByteArray->Bool)(f:cF):wJ nm f↔bc nm f.v:=by cases f;simp only[wJ];rfl
theorem uM(nm:ByteArray->Bool)(d:List cF):mO nm d↔∀f∈d,bc nm f.v:=by
 induction d with
 | nil=>simp[mO]
 | cons x r ih=>simp[mO,ih,wK]
theorem al(nm:ByteArray->Bool)(x:aC):bc nm x↔dl x.k x.n x.t x.l.length x.d.length/\(∀y∈x.l,bc nm y)/\(∀f∈x.d,bc nm f.v)/\iV nm x.d:=by
 cases x;rw[bc,uL,uM];rfl
def bn(nm:ByteArray->Bool)(d:List cF):Prop:=iV nm d/\∀f∈d,bc nm f.v
noncomputable def aQ(nm:ByteArray->Bool)(x:aC):Bool:=@decide (bc nm x) (Classical.propDecidable _)
noncomputable def dQ(nm:ByteArray->Bool)(d:List cF):Bool:=@decide (bn nm d) (Classical.propDecidable _)
section
variable {nm:ByteArray->Bool} {x:aC} {d:List cF}
theorem fA(h:bc nm x):aQ nm x=true:=by unfold aQ;exact @Jy _ (Classical.propDecidable _) h
theorem gW(h:¬bc nm x):aQ nm x=false:=by unfold aQ;exact @KQ _ (Classical.propDecidable _) h
theorem fY:aQ nm x=true↔bc nm x:=by unfold aQ;exact @Lw _ (Classical.propDecidable _)
theorem jI:aQ nm x=false↔¬bc nm x:=by unfold aQ;exact @decide_eq_false_iff_not _ (Classical.propDecidable _)
theorem gX(h:bn nm d):dQ nm d=true:=by unfold dQ;exact @Jy _ (Classical.propDecidable _) h
theorem cu(h:¬bn nm d):dQ nm d=false:=by unfold dQ;exact @KQ _ (Classical.propDecidable _) h
theorem bn.nil:bn nm []:=⟨⟨by simp,by simp⟩,by simp⟩
theorem bn.next{i:Nat}{f:cF}(h:bn nm (d.take i))(hf:d[i]?=some f)(h1:nm f.s=true)(h2:f.s∉(d.take i).map cF.s)(h3:bc nm f.v):bn nm (d.take (i+1)):=by
 rw[take_snoc' hf];refine⟨⟨fun g hg=>?_,?_⟩,fun g hg=>?_⟩
 ·rcases KI.1 hg with hg|hg
  ·exact h.1.1 g hg
  ·simp at hg;subst hg;exact h1
 ·rw[Ke,List.nodup_append];refine⟨h.1.2,by simp,fun a ha b hb=>?_⟩;simp at hb;subst hb;intro e;subst e;exact h2 ha
 ·rcases KI.1 hg with hg|hg
  ·exact h.2 g hg
  ·simp at hg;subst hg;exact h3
theorem bn.JC{i:Nat}{f:cF}(hf:d[i]?=some f)(h1:nm f.s=false):¬bn nm d:=fun h=>by
 have:=h.1.1 f (Jx hf);rw[h1] at this;cases this
theorem bn.Iy{i:Nat}{f:cF}(hf:d[i]?=some f)(h1:¬bc nm f.v):¬bn nm d:=fun h=>h1 (h.2 f (Jx hf))
theorem bn.JF{i:Nat}{f:cF}(hf:d[i]?=some f)(h1:f.s∈(d.take i).map cF.s):¬bn nm d:=fun h=>by
 have hn:=h.1.2;have e:d=d.take i++f::d.drop (i+1):=by rw[<-dX hf,LC]
 rw[e,Ke,List.nodup_append] at hn;exact hn.2.2 f.s h1 f.s (by simp) rfl
end
theorem zY{nm:ByteArray->Bool}{x:aC}(hk:x.k=5)(hh:dl x.k x.n x.t x.l.length x.d.length):aQ nm x=dQ nm x.d:=by
 have hl:x.l=[]:=KN (by have:=hh.2.2.1;omega);by_cases h:bn nm x.d
 ·rw[gX h];exact fA ((al nm x).2 ⟨hh,by simp[hl],h.2,h.1⟩)
 ·rw[cu h];exact gW fun hs=>h ⟨((al nm x).1 hs).2.2.2,((al nm x).1 hs).2.2.1⟩
theorem wL{nm:ByteArray->Bool}{x:aC}(hk:x.k=6)(hh:dl x.k x.n x.t x.l.length x.d.length)(h:∀y∈x.l,bc nm y):aQ nm x=true:=by
 have hd:x.d=[]:=KN (by have:=hh.2.2.2.1;omega);exact fA ((al nm x).2 ⟨hh,h,by simp[hd],by simp[hd,iV]⟩)
theorem aT{nm:ByteArray->Bool}{x:aC}(h:¬dl x.k x.n x.t x.l.length x.d.length):aQ nm x=false:=gW fun hs=>h ((al nm x).1 hs).1
theorem mP{nm:ByteArray->Bool}{x:aC}{i:Nat}{y:aC}(hy:x.l[i]?=some y)(h:¬bc nm y):aQ nm x=false:=gW fun hs=>h (((al nm x).1 hs).2.1 y (Jx hy))
theorem bk{nm:ByteArray->Bool}{x:aC}(h5:x.k≠5)(h6:x.k≠6)(hh:dl x.k x.n x.t x.l.length x.d.length):aQ nm x=true:=by
 have hl:x.l=[]:=KN (by have:=hh.2.2.1;omega);have hd:x.d=[]:=KN (by have:=hh.2.2.2.1;omega);exact fA ((al nm x).2 ⟨hh,by simp[hl],by simp[hd],by simp[hd,iV]⟩)
noncomputable def aL(x:aC):Bool:=decide (x.size<=1024)&&decide (x.Im<=16)&&aQ aV x
def nG(c d:Int):Int:=if c≠0 then c else d
theorem ox(c d:Int):c≠0/\nG c d=c\/c=0/\nG c d=d:=by
 unfold nG;by_cases h:c=0
 ·exact .inr ⟨h,by simp[h]⟩
 ·exact .inl ⟨h,by simp[h]⟩
theorem TR.lx{a b c a' b' c':Int}(h:TR a b c)(h':TR a' b' c'):TR (nG a a') (nG b b') (nG c c'):=by
 intro h1 h2;rcases ox a a' with ha|ha<;>rcases ox b b' with hb|hb<;>rcases ox c c' with hc|hc
 all_goals
  have H:=h (by omega) (by omega);by_cases hab:a=0/\b=0
  ·have H':=h' (by omega) (by omega);omega
  ·omega
theorem uN(a b:Int):-1<=cM a b/\cM a b<=1:=by unfold cM Lib.compareInt;repeat' split<;>omega
theorem nH(a b:Int):cM b a=-cM a b:=by unfold cM Lib.compareInt;repeat' split<;>omega
theorem cd(a b:Int):a<b/\cM a b=-1\/a=b/\cM a b=0\/b<a/\cM a b=1:=by unfold cM Lib.compareInt;repeat' split<;>omega
theorem sV(a b c:Int):TR (cM a b) (cM b c) (cM a c):=by
 unfold TR;intro h1 h2;rcases cd a b with h|h|h<;>rcases cd b c with h' | h' | h'<;>rcases cd a c with h3|h3|h3<;>omega
theorem eR{a b:Int}:cM a b=0↔a=b:=by unfold cM Lib.compareInt;repeat' split<;>omega
theorem qu:∀a b:List UInt8,-1<=Lib.compareBytes a b/\Lib.compareBytes a b<=1
 | [],[]=>by simp[Lib.compareBytes]
 | [],_::_=>by simp[Lib.compareBytes]
 | _::_,[]=>by simp[Lib.compareBytes]
 | a::a2,b::b2=>by
  rw[Lib.compareBytes]
  repeat' split
  ·omega
  ·omega
  ·exact qu a2 b2
theorem fZ(a b:UInt8)(l m:List UInt8):Lib.compareBytes (a::l) (b::m)=nG (cM (a.toNat:Int) (b.toNat:Int)) (Lib.compareBytes l m):=by
 rw[Lib.compareBytes];unfold cM Lib.compareInt nG;have e1:a<b↔a.toNat<b.toNat:=Ma;have e2:b<a↔b.toNat<a.toNat:=Ma;rcases OM a.toNat b.toNat with h|h|h
 ·rw[Kb (e1.2 h),Kb (show(a.toNat:Int)<b.toNat by omega)];rfl
 ·rw[KU (by rw[e1];omega),KU (by rw[e2];omega),KU (show ¬(a.toNat:Int)<b.toNat by omega),KU (show ¬(a.toNat:Int)>b.toNat by omega)];rfl
 ·rw[KU (by rw[e1];omega),Kb (e2.2 h),KU (show ¬(a.toNat:Int)<b.toNat by omega),Kb (show(a.toNat:Int)>b.toNat by omega)];rfl
theorem kE{c d c' d':Int}(h:c'=-c)(h':d'=-d):nG c' d'=-nG c d:=by unfold nG;repeat' split<;>omega
theorem sW{c d:Int}(h:-1<=c/\c<=1)(h':-1<=d/\d<=1):-1<=nG c d/\nG c d<=1:=by unfold nG;split<;>omega
theorem kF{c d:Int}:nG c d=0↔c=0/\d=0:=by unfold nG;split<;>omega
theorem oy:∀a b:List UInt8,Lib.compareBytes b a=-Lib.compareBytes a b
 | [],[]=>by simp[Lib.compareBytes]
 | [],_::_=>by simp[Lib.compareBytes]
 | _::_,[]=>by simp[Lib.compareBytes]
 | a::a2,b::b2=>by rw[fZ,fZ];exact kE (nH _ _) (oy a2 b2)
theorem uO:∀a b c:List UInt8,TR (Lib.compareBytes a b) (Lib.compareBytes b c) (Lib.compareBytes a c)
 | [],[],[]=>by simp[Lib.compareBytes,TR]
 | [],[],_::_=>by simp[Lib.compareBytes,TR]
 | [],_::_,[]=>by simp[Lib.compareBytes,TR]
 | [],_::_,_::_=>by simp[Lib.compareBytes,TR]
 | _::_,[],[]=>by simp[Lib.compareBytes,TR]
 | _::_,[],_::_=>by simp[Lib.compareBytes,TR]
 | _::_,_::_,[]=>by simp[Lib.compareBytes,TR]
 | a::a2,b::b2,c::c2=>by
  rw[fZ,fZ,fZ];exact(sV _ _ _).lx (uO a2 b2 c2)
theorem oz:∀a b:List UInt8,Lib.compareBytes a b=0↔a=b
 | [],[]=>by simp[Lib.compareBytes]
 | [],_::_=>by simp[Lib.compareBytes]
 | _::_,[]=>by simp[Lib.compareBytes]
 | a::a2,b::b2=>by
  rw[fZ,kF,eR,oz a2 b2];constructor
  ·rintro⟨h1,rfl⟩;rw[show a=b from Ms.1 (by omega)]
  ·intro h;injection h with h1 h2
   exact⟨by rw[h1],h2⟩
theorem qv{a b:ByteArray}:dP a b=0↔a=b:=by
 unfold dP;rw[oz];exact⟨fun h=>Mh h,fun h=>by rw[h]⟩
end
structure Bo(x:aC):Prop where
 rng:∀y,-1<=aY x y/\aY x y<=1
 anti:∀y,aY y x=-aY x y
 tr:∀y z,TR (aY x y) (aY y z) (aY x z)
structure Ho(l:List aC):Prop where
 rng:∀m,-1<=cx l m/\cx l m<=1
 anti:∀m,cx m l=-cx l m
 tr:∀m n,TR (cx l m) (cx m n) (cx l n)
structure Hp(l:List cF):Prop where
 rng:∀m,-1<=cH l m/\cH l m<=1
 anti:∀m,cH m l=-cH l m
 tr:∀m n,TR (cH l m) (cH m n) (cH l n)
section
variable {l r:List ByteArray} {b c k g m:Nat} {a x y:Int} {s:ByteArray} {v:Value}
theorem iB(f g:cF):zX f g=nG (dP f.s g.s) (aY f.v g.v):=by rw[yY];rfl
theorem fa(x y:aC)(r s:List aC):cx (x::r) (y::s)=nG (aY x y) (cx r s):=by rw[cx];rfl
theorem fe(x y:cF)(r s:List cF):cH (x::r) (y::s)=nG (zX x y) (cH r s):=by rw[cH];rfl
theorem GX:∀l:List aC,(∀x∈l,Bo x)->Ho l:=by
 intro l
 induction l with
 | nil=>
  intro _;refine⟨fun m=>?_,fun m=>?_,fun m n=>?_⟩
  ·cases m<;>simp[cx]
  ·cases m<;>simp[cx]
  ·cases m<;>cases n<;>simp[cx,TR]
 | cons x r ih=>
  intro h;have hx:=h x (by simp);have hr:=ih fun y hy=>h y (by simp[hy]);refine⟨fun m=>?_,fun m=>?_,fun m n=>?_⟩
  ·cases m with
   | nil=>simp[cx]
   | cons y s=>rw[fa];exact sW (hx.rng y) (hr.rng s)
  ·cases m with
   | nil=>simp[cx]
   | cons y s=>rw[fa,fa];exact kE (hx.anti y) (hr.anti s)
  ·cases m with
   | nil=>cases n<;>simp[cx,TR]
   | cons y s=>
    cases n with
    | nil=>simp[cx,TR]
    | cons z t=>
     rw[fa,fa,fa];exact(hx.tr y z).lx (hr.tr s t)
theorem uP(a b:ByteArray):-1<=dP a b/\dP a b<=1:=qu _ _
theorem qw(a b:ByteArray):dP b a=-dP a b:=oy _ _
theorem yb(a b c:ByteArray):TR (dP a b) (dP b c) (dP a c):=uO _ _ _
theorem Hq:∀l:List cF,(∀f∈l,Bo f.v)->Hp l:=by
 intro l
 induction l with
 | nil=>
  intro _;refine⟨fun m=>?_,fun m=>?_,fun m n=>?_⟩
  ·cases m<;>simp[cH]
  ·cases m<;>simp[cH]
  ·cases m<;>cases n<;>simp[cH,TR]
 | cons x r ih=>
  intro h;have hx:=h x (by simp);have hr:=ih fun y hy=>h y (by simp[hy]);refine⟨fun m=>?_,fun m=>?_,fun m n=>?_⟩
  ·cases m with
   | nil=>simp[cH]
   | cons y s=>rw[fe,iB];exact sW (sW (uP _ _) (hx.rng y.v)) (hr.rng s)
  ·cases m with
   | nil=>simp[cH]
   | cons y s=>rw[fe,fe,iB,iB];exact kE (kE (qw _ _) (hx.anti y.v)) (hr.anti s)
  ·cases m with
   | nil=>cases n<;>simp[cH,TR]
   | cons y s=>
    cases n with
    | nil=>simp[cH,TR]
    | cons z t=>
     rw[fe,fe,fe,iB,iB,iB];exact((yb _ _ _).lx (hx.tr y.v z.v)).lx (hr.tr s t)
def pB(x y:aC):Int:=if x.k=3\/x.k=9\/x.k=10 then cM x.n y.n else if x.k=4\/x.k=7\/x.k=8 then dP x.t y.t else if x.k=6 then cx x.l y.l else if x.k=5 then cH x.d y.d else 0
theorem lX{x y:aC}(h:x.k=y.k):aY x y=pB x y:=by rw[jH,KU (by simpa using h)];rfl
theorem Em:∀x,Bo x:=by
 intro x
 induction x using aC.ind with
 | h k n t l d ihl ihd=>
 have hL:=GX l ihl;have hD:=Hq d ihd
 have rK:∀y,-1<=pB (.mk k n t l d) y/\pB (.mk k n t l d) y<=1:=by
  intro y;unfold pB;split
  ·exact uN _ _
  ·split
   ·exact uP _ _
   ·split
    ·exact hL.rng y.l
    ·split
     ·exact hD.rng y.d
     ·omega
 have aK:∀y,y.k=k->pB y (.mk k n t l d)=-pB (.mk k n t l d) y:=by
  intro y hy;unfold pB;rw[hy];simp only[show(aC.mk k n t l d).k=k from rfl];split
  ·exact nH _ _
  ·split
   ·exact qw _ _
   ·split
    ·exact hL.anti y.l
    ·split
     ·exact hD.anti y.d
     ·rfl
 have tK:∀y z,y.k=k->TR (pB (.mk k n t l d) y) (pB y z) (pB (.mk k n t l d) z):=by
  intro y z hy;unfold pB;rw[hy];simp only[show(aC.mk k n t l d).k=k from rfl];split
  ·exact sV _ _ _
  ·split
   ·exact yb _ _ _
   ·split
    ·exact hL.tr y.l z.l
    ·split
     ·exact hD.tr y.d z.d
     ·simp[TR]
 refine⟨fun y=>?_,fun y=>?_,fun y z=>?_⟩
 ·by_cases h:(aC.mk k n t l d).k=y.k
  ·rw[lX h];exact rK y
  ·rw[au h];exact uN _ _
 ·by_cases h:(aC.mk k n t l d).k=y.k
  ·rw[lX h,lX h.symm];exact aK y h.symm
  ·rw[au h,au (fun e=>h e.symm)];exact nH _ _
 ·intro h1 h2;have hk:(aC.mk k n t l d).k=k:=rfl
  have ek:cM k y.k<=0:=by
   by_cases h:k=y.k
   ·rw[eR.2 h];omega
   ·rw[au (by rw[hk];exact h)] at h1;exact h1
  have ek2:cM y.k z.k<=0:=by
   by_cases h:y.k=z.k
   ·rw[eR.2 h];omega
   ·rw[au h] at h2;exact h2
  have ek3:=sV k y.k z.k ek ek2;by_cases h:k=y.k
  ·by_cases h':y.k=z.k
   ·rw[lX (y:=y) (by rw[hk];exact h)] at h1 ⊢;rw[lX h'] at h2 ⊢;rw[lX (y:=z) (by rw[hk];omega)];exact tK y z h.symm h1 h2
   ·have h3:k≠z.k:=by omega
    rw[au h'] at h2 ⊢;rw[au (y:=z) (by rw[hk];exact h3),hk,<-h];have:=fun e=>h3 (eR.1 e);rw[<-h] at h2;refine⟨h2,fun e=>absurd e this,fun e=>absurd e.2 this⟩
  ·have h3:cM k y.k≠0:=fun e=>h (eR.1 e);have h4:cM k z.k≠0:=fun e=>h3 (ek3.2.1 e).1;have e1:aY (.mk k n t l d) y=cM k y.k:=au (by rw[hk];exact h);have e2:aY (.mk k n t l d) z=cM k z.k:=au (by rw[hk];exact fun e=>h4 (eR.2 e));rw[e1,e2];exact⟨ek3.1,fun e=>absurd e h4,fun e=>absurd e.1 h3⟩
theorem eS(x y:aC):aY y x=-aY x y:=(Em x).anti y
theorem Do(x y z:aC):TR (aY x y) (aY y z) (aY x z):=(Em x).tr y z
theorem nI(x:aC):aY x x=0:=by have:=eS x x;omega
theorem Dp{l:List aC}:∀{m:List aC},(∀x∈l,∀y,aY x y=0->y∈m->x=y)->cx l m=0->l=m:=by
 induction l with
 | nil=>intro m _ h;cases m with
  | nil=>rfl
  | cons y s=>simp[cx] at h
 | cons x r ih=>
  intro m hx h;cases m with
  | nil=>simp[cx] at h
  | cons y s=>
   rw[fa,kF] at h;rw[hx x (by simp) y h.1 (by simp),ih (fun a ha b hb hm=>hx a (by simp[ha]) b hb (by simp[hm])) h.2]
theorem Dq{l:List cF}:∀{m:List cF},(∀x∈l,∀y,aY x.v y.v=0->y∈m->x.v=y.v)->cH l m=0->l=m:=by
 induction l with
 | nil=>intro m _ h;cases m with
  | nil=>rfl
  | cons y s=>simp[cH] at h
 | cons x r ih=>
  intro m hx h;cases m with
  | nil=>simp[cH] at h
  | cons y s=>
   rw[fe,kF,iB,kF] at h;have e1:x.s=y.s:=qv.1 h.1.1;have e2:x.v=y.v:=hx x (by simp) y h.1.2 (by simp);have e:x=y:=by cases x;cases y;simp only[cF.s,cF.v] at e1 e2;rw[e1,e2]
   rw[e,ih (fun a ha b hb hm=>hx a (by simp[ha]) b hb (by simp[hm])) h.2]
theorem qx{nm:ByteArray->Bool}:∀x y:aC,bc nm x->bc nm y->aY x y=0->x=y:=by
 intro x
 induction x using aC.ind with
 | h k n t l d ihl ihd=>
 intro y hx hy h;obtain⟨hx0,hx1,hx2,_⟩:=(al nm _).1 hx;obtain⟨hy0,hy1,hy2,_⟩:=(al nm _).1 hy
 have hk:k=y.k:=by
  by_cases e:(aC.mk k n t l d).k=y.k
  ·exact e
  ·rw[au e] at h;exact absurd (eR.1 h) e
 cases y with
 | mk k' n' t' l' d'=>
 simp only[aC.k,aC.n,aC.t,aC.l,aC.d] at*;subst hk;have h':(if k=3\/k=9\/k=10 then cM n n' else if k=4\/k=7\/k=8 then dP t t' else if k=6 then cx l l' else if k=5 then cH d d' else 0)=0:=(lX (x:=.mk k n t l d) (y:=.mk k n' t' l' d') rfl).symm.trans h;have nil:∀{α:Type} {a b:List α},a.length=0->b.length=0->a=b:=fun ha hb=>by rw[KN ha,KN hb]
 have emp:∀{a b:ByteArray},a.size=0->b.size=0->a=b:=fun {a b} ha hb=>Mh (by
  rw[KN (l:=a.data.toList) (by simpa using ha),KN (l:=b.data.toList) (by simpa using hb)])
 obtain⟨a1,a2,a3,a4,_⟩:=hx0;obtain⟨b1,b2,b3,b4,_⟩:=hy0;split at h'
 ·rename_i hi
  rw[eR.1 h',emp (a:=t) (b:=t') (by omega) (by omega),nil (a:=l) (b:=l') (by omega) (by omega),nil (a:=d) (b:=d') (by omega) (by omega)]
 ·split at h'
  ·rename_i hi ht
   rw[show n=n' by omega,qv.1 h',nil (a:=l) (b:=l') (by omega) (by omega),nil (a:=d) (b:=d') (by omega) (by omega)]
  ·split at h'
   ·rename_i hi ht h6
    rw[show n=n' by omega,emp (a:=t) (b:=t') (by omega) (by omega),nil (a:=d) (b:=d') (by omega) (by omega),
     Dp (fun a ha b hb hm=>ihl a ha b (hx1 a ha) (hy1 b hm) hb) h']
   ·split at h'
    ·rename_i hi ht h6 h5
     rw[show n=n' by omega,emp (a:=t) (b:=t') (by omega) (by omega),nil (a:=l) (b:=l') (by omega) (by omega),
      Dq (fun a ha b hb hm=>ihd a ha b.v (hx2 a ha) (hy2 b hm) hb) h']
    ·rw[show n=n' by omega,emp (a:=t) (b:=t') (by omega) (by omega),nil (a:=l) (b:=l') (by omega) (by omega),nil (a:=d) (b:=d') (by omega) (by omega)]
end
end Go.Proofs.YtgfoliedmhgpnaaGreatDoor
