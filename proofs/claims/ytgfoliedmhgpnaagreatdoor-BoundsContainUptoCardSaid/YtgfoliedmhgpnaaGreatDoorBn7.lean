/- A part of the proof. -/
import Derived.Test.YtgfoliedmhgpnaaGreatDoorBn5
import Derived.Test.YtgfoliedmhgpnaaGreatDoorBn6
set_option maxRecDepth 100000
set_option maxHeartbeats 16000000
set_option linter.unusedSimpArgs false
open Go.Proofs.Tryz
open ByteArray (empty)
namespace Go.Proofs.YtgfoliedmhgpnaaGreatDoor
open Go.RowKit
section
variable {l:List ByteArray} {k i g n j q ln lc size:Nat} {a x y:Int} {w w':World} {A LA:Option Addr} {e t:TypeId} {v:Value}
theorem dr(p q:PC)(w:World)(hp:Ec w p)(hq:Ec w q):
 Calls prog 178 #[oR p,oR q] w fun e w'=>e=.returned (.int .i64 (aZ (cP p) (cP q)))/\Below w.heap.size w w':=by
 have HP:=qD hp;have HQ:=qD hq;have Z2:=qD (((Ju w.heap.size w).alloc (qL) (Obj.cells (tR p) 165)).alloc (by simp) (Obj.cells (tR q) 165));have B0:Hid (aG ((w.alloc (.cells (tR p) 165)).alloc (.cells (tR q) 165)) w.heap.size 165 (tR p)):=(aG.Ii rfl).alloc _;have B1:Hid (aG ((w.alloc (.cells (tR p) 165)).alloc (.cells (tR q) 165)) (w.heap.size+1) 165 (tR q)):=aG.Ii (by simp);clear hp hq;go_enter func178,ntmps178;go_wp2_with fail;refine(yz p.1.2 q.1.2 p.1.1 q.1.1 _ (HP.out.step Z2.out) (HQ.out.step Z2.out)).mono ?_;rintro e w1 ⟨rfl,hb1⟩;have Z1:=qD (Z2.out.Ih hb1);obtain⟨_,p5⟩:=Ag.Ig (B0.out.step hb1);obtain⟨_,q5⟩:=Ag.Ig (B1.out.step hb1);simp only[Jw] at p5 q5;clear hb1;by_cases h0:aY p.1.2 q.1.2=0
 ·have HC:Hid (aZ (cP p) (cP q)=qF p.2 q.2):=dg (a:=cP p) (b:=cP q) h0;rw[h0];clear h0;cases h1:p.2<;>cases h2:q.2
  all_goals
   rw[h1] at p5;rw[h2] at q5;rw[h1,h2] at HC;clear h1 h2;go_wp2_with fail;go_ret;exact⟨by rw[HC.out];rfl,Z1.out⟩
 ·have HC:Hid (aZ (cP p) (cP q)=aY p.1.2 q.1.2):=gO (a:=cP p) (b:=cP q) h0;have h1:(aY p.1.2 q.1.2 != 0)=true:=by simpa using h0
  clear h0;go_wp2_with fail;go_ret;exact⟨by rw[HC.out];rfl,Z1.out⟩
theorem DN(p q:PS)(w:World)(hp:rz w p)(hq:rz w q):
 Calls prog 190 #[tQ p,tQ q] w fun e w'=>e=.returned (.int .i64 (aZ (ai p).1 (ai q).1))/\Below w.heap.size w w':=by
 have HP:=qD hp;have HQ:=qD hq;have Z2:=qD (((Ju w.heap.size w).alloc (qL) (Obj.cells (fp p) 167)).alloc (by simp) (Obj.cells (fp q) 167));clear hp hq;go_enter func190,ntmps190;go_wp2_with fail;refine(dr p.1 q.1 _ (HP.out.step Z2.out).1 (HQ.out.step Z2.out).1).mono ?_;rintro e w1 ⟨rfl,hb1⟩;go_wp2_with fail;go_ret;exact⟨rfl,Z2.out.Ih hb1⟩
theorem wrap_i64'{a:Int}(h1:-9223372036854775808<=a)(h2:a<=9223372036854775807):IntKind.i64.wrap a=a:=Nc _ ⟨h1,h2⟩
def fq(e:PS×Nat):List Value:=cr e.1
theorem fu(e:PS×Nat):(fq e).length=12:=dU e.1
def bT(w:World)(g:Nat)(L:List (PS×Nat)):Prop:=∃R:List Value,aG w g 167 (aO fq L++R).toArray
theorem vU{α:Type}:∀(vs l R:List α) (k:Nat),k+vs.length<=l.length->dZ (l++R) k vs=dZ l k vs++R:=by
 intro vs
 induction vs with
 | nil=>intro l R k _;rfl
 | cons v vs ih=>
  intro l R k h;simp only[Ks] at h;rw[dZ,dZ,List.set_append_left _ _ (by omega),ih _ _ _ (by rw[Nx];omega)]
abbrev lM(p:PS×Nat):Value:=.agg #[.int .i64 p.1.1.1.1.k,.int .i64 p.1.1.1.1.n,.string p.1.1.1.1.t,.slice p.1.1.1.1.LA p.1.1.1.1.ln p.1.1.1.1.lc,.slice p.1.1.1.1.DA p.1.1.1.1.dn p.1.1.1.1.dc,.bool p.1.1.2,.int .i64 p.1.2.1.1.k,.int .i64 p.1.2.1.1.n,.string p.1.2.1.1.t,.slice p.1.2.1.1.LA p.1.2.1.1.ln p.1.2.1.1.lc,.slice p.1.2.1.1.DA p.1.2.1.1.dn p.1.2.1.1.dc,.bool p.1.2.2]
section
variable {w w':World} {g:Nat} {L:List (PS×Nat)}
theorem bT.cell(h:bT w g L){j:Nat}{p:PS×Nat}(hj:L[j]?=some p)(i:Nat)(v:Value)(hi:(fq p)[i]?=some v):w.cell? ⟨g,j*12+i,none⟩=some v:=by
 obtain⟨R,h⟩:=h;have hf:=iY fu hj hi;rw[aG.cell h (j*12+i),MN,Lc (KF.1 hf).1];exact hf
theorem bT.step(h:bT w g L)(hb:Below w.heap.size w w'):bT w' g L:=by obtain⟨R,h⟩:=h;exact⟨R,aG.step h hb⟩
theorem bT.drew(h:bT w g L):bT w.drew g L:=by obtain⟨R,h⟩:=h;exact⟨R,aG.drew h⟩
theorem bT.frozen(h:bT w g L)(i:Nat):w.frozen? ⟨g,i,none⟩=false:=by obtain⟨R,h⟩:=h;exact aG.frozen h i
theorem bT.lt(h:bT w g L):g<w.heap.size:=by obtain⟨R,h⟩:=h;exact aG.lt h
theorem bT.put(h:bT w g L){j:Nat}(hj:j<L.length)(p:PS×Nat):bT ((((((((((((w.setCell ⟨g,j*12,none⟩ (.int .i64 p.1.1.1.1.k)).setCell ⟨g,j*12+1,none⟩ (.int .i64 p.1.1.1.1.n)).setCell ⟨g,j*12+2,none⟩ (.string p.1.1.1.1.t)).setCell ⟨g,j*12+3,none⟩ (.slice p.1.1.1.1.LA p.1.1.1.1.ln p.1.1.1.1.lc)).setCell ⟨g,j*12+4,none⟩ (.slice p.1.1.1.1.DA p.1.1.1.1.dn p.1.1.1.1.dc)).setCell ⟨g,j*12+5,none⟩ (.bool p.1.1.2)).setCell ⟨g,j*12+6,none⟩ (.int .i64 p.1.2.1.1.k)).setCell ⟨g,j*12+7,none⟩ (.int .i64 p.1.2.1.1.n)).setCell ⟨g,j*12+8,none⟩ (.string p.1.2.1.1.t)).setCell ⟨g,j*12+9,none⟩ (.slice p.1.2.1.1.LA p.1.2.1.1.ln p.1.2.1.1.lc)).setCell ⟨g,j*12+10,none⟩ (.slice p.1.2.1.1.DA p.1.2.1.1.dn p.1.2.1.1.dc)).setCell ⟨g,j*12+11,none⟩ (.bool p.1.2.2)) g (L.set j p):=by
 obtain⟨R,h⟩:=h;have hl:=cA fu L
 have e:aO fq (L.set j p)++R=dZ (aO fq L++R) (j*12) (fq p):=by
  rw[DK fu L j p hj,vU _ _ _ _ (by rw[fu];omega)]
 refine⟨R,?_⟩;rw[e];clear e hl;generalize aO fq L++R=X at h ⊢;have:=aG.Ij (aG.Ij (aG.Ij (aG.Ij (aG.Ij (aG.Ij (aG.Ij (aG.Ij (aG.Ij (aG.Ij (aG.Ij (aG.Ij h (j*12) (.int .i64 p.1.1.1.1.k)) (j*12+1) (.int .i64 p.1.1.1.1.n)) (j*12+2) (.string p.1.1.1.1.t)) (j*12+3) (.slice p.1.1.1.1.LA p.1.1.1.1.ln p.1.1.1.1.lc)) (j*12+4) (.slice p.1.1.1.1.DA p.1.1.1.1.dn p.1.1.1.1.dc)) (j*12+5) (.bool p.1.1.2)) (j*12+6) (.int .i64 p.1.2.1.1.k)) (j*12+7) (.int .i64 p.1.2.1.1.n)) (j*12+8) (.string p.1.2.1.1.t)) (j*12+9) (.slice p.1.2.1.1.LA p.1.2.1.1.ln p.1.2.1.1.lc)) (j*12+10) (.slice p.1.2.1.1.DA p.1.2.1.1.dn p.1.2.1.1.dc)) (j*12+11) (.bool p.1.2.2);rw[show(dZ X (j*12) (fq p)).toArray=((((((((((((X.toArray.setIfInBounds (j*12) (.int .i64 p.1.1.1.1.k)).setIfInBounds (j*12+1) (.int .i64 p.1.1.1.1.n)).setIfInBounds (j*12+2) (.string p.1.1.1.1.t)).setIfInBounds (j*12+3) (.slice p.1.1.1.1.LA p.1.1.1.1.ln p.1.1.1.1.lc)).setIfInBounds (j*12+4) (.slice p.1.1.1.1.DA p.1.1.1.1.dn p.1.1.1.1.dc)).setIfInBounds (j*12+5) (.bool p.1.1.2)).setIfInBounds (j*12+6) (.int .i64 p.1.2.1.1.k)).setIfInBounds (j*12+7) (.int .i64 p.1.2.1.1.n)).setIfInBounds (j*12+8) (.string p.1.2.1.1.t)).setIfInBounds (j*12+9) (.slice p.1.2.1.1.LA p.1.2.1.1.ln p.1.2.1.1.lc)).setIfInBounds (j*12+10) (.slice p.1.2.1.1.DA p.1.2.1.1.dn p.1.2.1.1.dc)).setIfInBounds (j*12+11) (.bool p.1.2.2)) from by simp[dZ,fq,cr,ki,bC,VC.list]];exact this
end
theorem sB{α:Type}(A S3 S2 E:List α)(x y:α):((A++((S3++[y])++x::S2)++E).set (A.length+(S3.length+1)) y).set (A.length+(S3.length+1)-1) x=A++(S3++x::y::S2)++E:=by
 rw[show A.length+(S3.length+1)-1=A.length+S3.length by omega];simp
def iR(g:Nat)(w:World)(U:List (PS×Nat)):Prop:=∀(x y:PS×Nat),x∈U->y∈U->∀wr,iG g w wr->
 Calls prog 190 #[lM x,lM y] wr fun e w'=>e=.returned (.int .i64 (aZ (ai x.1).1 (ai y.1).1))/\Below wr.heap.size wr w'
end
structure dK(g:Nat)(w:World)(L:List (PS×Nat))(wr:World):Prop where
 row:bT wr g L
 but:iG g w wr
section
variable {b c k g n m q ln lc size:Nat} {a x y:Int} {w w' w1 wr w2:World} {A LA:Option Addr} {t:TypeId} {P:Program} {Q:Exit -> Act -> World -> Prop}
theorem dK.step{g:Nat}{w wr w':World}{L:List (PS×Nat)}(h:dK g w L wr)(hb:Below wr.heap.size wr w'):dK g w L w':=⟨h.row.step hb,h.but.step hb⟩
theorem dK.swap{g:Nat}{w w2:World}{L:List (PS×Nat)}(h:dK g w L w2){jj:Nat}(hl:jj<L.length)(x y:PS×Nat):dK g w ((L.set jj y).set (jj-1) x) ((((((((((((((((((((((((w2.setCell ⟨g,jj*12,none⟩ (.int .i64 y.1.1.1.1.k)).setCell ⟨g,jj*12+1,none⟩ (.int .i64 y.1.1.1.1.n)).setCell ⟨g,jj*12+2,none⟩ (.string y.1.1.1.1.t)).setCell ⟨g,jj*12+3,none⟩ (.slice y.1.1.1.1.LA y.1.1.1.1.ln y.1.1.1.1.lc)).setCell ⟨g,jj*12+4,none⟩ (.slice y.1.1.1.1.DA y.1.1.1.1.dn y.1.1.1.1.dc)).setCell ⟨g,jj*12+5,none⟩ (.bool y.1.1.2)).setCell ⟨g,jj*12+6,none⟩ (.int .i64 y.1.2.1.1.k)).setCell ⟨g,jj*12+7,none⟩ (.int .i64 y.1.2.1.1.n)).setCell ⟨g,jj*12+8,none⟩ (.string y.1.2.1.1.t)).setCell ⟨g,jj*12+9,none⟩ (.slice y.1.2.1.1.LA y.1.2.1.1.ln y.1.2.1.1.lc)).setCell ⟨g,jj*12+10,none⟩ (.slice y.1.2.1.1.DA y.1.2.1.1.dn y.1.2.1.1.dc)).setCell ⟨g,jj*12+11,none⟩ (.bool y.1.2.2)).setCell ⟨g,(jj-1)*12,none⟩ (.int .i64 x.1.1.1.1.k)).setCell ⟨g,(jj-1)*12+1,none⟩ (.int .i64 x.1.1.1.1.n)).setCell ⟨g,(jj-1)*12+2,none⟩ (.string x.1.1.1.1.t)).setCell ⟨g,(jj-1)*12+3,none⟩ (.slice x.1.1.1.1.LA x.1.1.1.1.ln x.1.1.1.1.lc)).setCell ⟨g,(jj-1)*12+4,none⟩ (.slice x.1.1.1.1.DA x.1.1.1.1.dn x.1.1.1.1.dc)).setCell ⟨g,(jj-1)*12+5,none⟩ (.bool x.1.1.2)).setCell ⟨g,(jj-1)*12+6,none⟩ (.int .i64 x.1.2.1.1.k)).setCell ⟨g,(jj-1)*12+7,none⟩ (.int .i64 x.1.2.1.1.n)).setCell ⟨g,(jj-1)*12+8,none⟩ (.string x.1.2.1.1.t)).setCell ⟨g,(jj-1)*12+9,none⟩ (.slice x.1.2.1.1.LA x.1.2.1.1.ln x.1.2.1.1.lc)).setCell ⟨g,(jj-1)*12+10,none⟩ (.slice x.1.2.1.1.DA x.1.2.1.1.dn x.1.2.1.1.dc)).setCell ⟨g,(jj-1)*12+11,none⟩ (.bool x.1.2.2)).drew:=
 ⟨bT.drew ((h.row.put hl y).put (j:=jj-1) (by rw[Nx];omega) x),iG.step ((((((((((((((((((((((((h.but.set (p:=⟨g,jj*12,none⟩) rfl (.int .i64 y.1.1.1.1.k)).set (p:=⟨g,jj*12+1,none⟩) rfl (.int .i64 y.1.1.1.1.n)).set (p:=⟨g,jj*12+2,none⟩) rfl (.string y.1.1.1.1.t)).set (p:=⟨g,jj*12+3,none⟩) rfl (.slice y.1.1.1.1.LA y.1.1.1.1.ln y.1.1.1.1.lc)).set (p:=⟨g,jj*12+4,none⟩) rfl (.slice y.1.1.1.1.DA y.1.1.1.1.dn y.1.1.1.1.dc)).set (p:=⟨g,jj*12+5,none⟩) rfl (.bool y.1.1.2)).set (p:=⟨g,jj*12+6,none⟩) rfl (.int .i64 y.1.2.1.1.k)).set (p:=⟨g,jj*12+7,none⟩) rfl (.int .i64 y.1.2.1.1.n)).set (p:=⟨g,jj*12+8,none⟩) rfl (.string y.1.2.1.1.t)).set (p:=⟨g,jj*12+9,none⟩) rfl (.slice y.1.2.1.1.LA y.1.2.1.1.ln y.1.2.1.1.lc)).set (p:=⟨g,jj*12+10,none⟩) rfl (.slice y.1.2.1.1.DA y.1.2.1.1.dn y.1.2.1.1.dc)).set (p:=⟨g,jj*12+11,none⟩) rfl (.bool y.1.2.2)).set (p:=⟨g,(jj-1)*12,none⟩) rfl (.int .i64 x.1.1.1.1.k)).set (p:=⟨g,(jj-1)*12+1,none⟩) rfl (.int .i64 x.1.1.1.1.n)).set (p:=⟨g,(jj-1)*12+2,none⟩) rfl (.string x.1.1.1.1.t)).set (p:=⟨g,(jj-1)*12+3,none⟩) rfl (.slice x.1.1.1.1.LA x.1.1.1.1.ln x.1.1.1.1.lc)).set (p:=⟨g,(jj-1)*12+4,none⟩) rfl (.slice x.1.1.1.1.DA x.1.1.1.1.dn x.1.1.1.1.dc)).set (p:=⟨g,(jj-1)*12+5,none⟩) rfl (.bool x.1.1.2)).set (p:=⟨g,(jj-1)*12+6,none⟩) rfl (.int .i64 x.1.2.1.1.k)).set (p:=⟨g,(jj-1)*12+7,none⟩) rfl (.int .i64 x.1.2.1.1.n)).set (p:=⟨g,(jj-1)*12+8,none⟩) rfl (.string x.1.2.1.1.t)).set (p:=⟨g,(jj-1)*12+9,none⟩) rfl (.slice x.1.2.1.1.LA x.1.2.1.1.ln x.1.2.1.1.lc)).set (p:=⟨g,(jj-1)*12+10,none⟩) rfl (.slice x.1.2.1.1.DA x.1.2.1.1.dn x.1.2.1.1.dc)).set (p:=⟨g,(jj-1)*12+11,none⟩) rfl (.bool x.1.2.2)) ((Ju _ _).drew)⟩
def pz(g:Nat)(w:World)(A Seg D:List (PS×Nat))(e:Ending)(w':World):Prop:=
 e=.returned (.tuple #[])/\∃S,ah (fun p q:PS=>aZ (ai p).1 (ai q).1) Seg S/\dK g w (A++S++D) w'
theorem oJ(H:db (fun p q:PS=>aZ (ai p).1 (ai q).1))(A Seg D:List (PS×Nat))(g n c a b:Nat)(w:World)(hr:bT w g (A++Seg++D))(hn:n=(A++Seg++D).length)(ha:a=A.length)(hb:b=A.length+Seg.length)(hz:n*176<=aH)(ht:kg Seg)(hc:iR g w Seg):
 Calls prog 292 #[.slice (some ⟨g,0,none⟩) n c,.int .i64 a,.int .i64 b,.func (.func 190) #[] #[]] w (pz g w A Seg D):=by
 unfold aH at hz;have HN:=qD hn;have HA:=qD ha;have HBq:=qD hb;have hab:a<=b:=by omega
 have hbn:b<=n:=by rw[hn];simp;omega
 have HC:=qD hc;have HT:=qD ht;have HO:=qD H;have I0:Hid (dK g w (A++Seg++D) w):=qD ⟨hr,iG.refl⟩;clear hr hn ha hb ht hc H;cases hs:Seg with
 | nil=>
  have hab':b<=a:=by have:=HA.out;have:=HBq.out;rw[hs] at this;simp at this;omega
  have HS:=qD hs;clear hs;go_enter func292,ntmps292;go_wp2_with fail
  go_loopw [8] (fun v8 wr=>v8=.int .i64 (a+1)/\wr=w) (fun _ _=>0)
  ·exact⟨by go_num,rfl⟩
  case round=>
   obtain⟨rfl,rfl⟩:=hrel;go_wp2_with fail
   go_end0
   exact⟨rfl,[],ah.nil,by have:=I0.out;rw[HS.out] at this;exact this⟩
 | cons x0 rest=>
  have HS:=qD hs;clear hs;rw[<-HS.out];go_enter func292,ntmps292;go_wp2_with fail
  go_loopw [8] (fun v8 wr=>∃(i:Nat) (P Q S:List (PS×Nat)),v8=.int .i64 i/\i=a+P.length/\1<=P.length/\i<=b/\Seg=P++Q/\ah (fun p q:PS=>aZ (ai p).1 (ai q).1) P S/\dK g w (A++S++(Q++D)) wr) (fun v8 _=>b-(intOf v8).toNat)
  case atStart=>
   refine⟨a+1,[x0],rest,[x0],by go_num,rfl,qL,?_,HS.out,ah.one x0,?_⟩
   ·have:=HBq.out;have:=HA.out;rw[HS.out] at*;simp at*;omega
   ·have:=I0.out;rw[HS.out] at this;simpa using this
  case round=>
   obtain⟨i,P,Q,S,rfl,hi,hP,hib,hPQ,hS,I⟩:=hrel;have HI:=qD hi;have HPQ:=qD hPQ;have HSo:=qD hS;have J:=qD I;clear hi hPQ hS;by_cases hlt:i<b
   ·obtain⟨x,Q',hQ⟩:∃x Q',Q=x::Q':=by
     cases Q with
     | nil=>
      have h1:=HBq.out;have h2:=HI.out;have h3:=HA.out;rw[HPQ.out] at h1;simp at h1;omega
     | cons x Q'=>exact⟨x,Q',rfl⟩
    have HQ:=qD hQ;have hSl:S.length=P.length:=HSo.out.perm.length_eq;have HSl:=qD hSl;clear I hSl hQ;go_wp2_with fail
    go_loopw [9] (fun v9 wr=>∃(jj:Nat) (S1 S2:List (PS×Nat)),v9=.int .i64 jj/\jj=a+S1.length/\jj<=i/\S=S1++S2/\(∀y∈S2,aZ (ai x.1).1 (ai y.1).1<0)/\dK g w (A++(S1++x::S2)++(Q'++D)) wr) (fun v9 _=>(intOf v9).toNat)
    case atStart=>
     refine⟨i,S,[],rfl,by rw[HI.out,HSl.out],qL,by simp,by simp,?_⟩;have:=J.out;rw[HQ.out] at this;simpa using this
    case round=>
     clear J;obtain⟨jj,S1,S2,rfl,hj,hji,hSS,hall,I⟩:=hrel;have HJ:=qD hj;have HSS:=qD hSS;have HAll:=qD hall;have J:=qD I;clear hj hSS hall;by_cases hgt:a<jj
     ·obtain⟨S3,y,hS3⟩:∃S3 y,S1=S3++[y]:=by
       rcases Mc S1 with h|⟨S3,y,h⟩
       ·have:=HJ.out;rw[h] at this;simp at this;omega
       ·exact⟨S3,y,by rw[h,MP]⟩
      have hA:=HA.out;have hj1:jj=A.length+(S3.length+1):=by rw[HJ.out,hS3];simp;omega
      have hx:(A++(S1++x::S2)++(Q'++D))[jj]?=some x:=by
       rw[hS3,hj1];simp
      have hy:(A++(S1++x::S2)++(Q'++D))[jj-1]?=some y:=by
       rw[hS3,hj1];simp
      have hxm:x∈Seg:=by rw[HPQ.out,HQ.out];simp
      have hym:y∈Seg:=by
       rw[HPQ.out];exact List.mem_append_left _ (HSo.out.perm.subset (by rw[HSS.out,hS3];simp))
      have p0:wr.cell? ⟨g,jj*12,none⟩=some (.int .i64 x.1.1.1.1.k):=I.row.cell hx 0 _ rfl;have p1:wr.cell? ⟨g,jj*12+1,none⟩=some (.int .i64 x.1.1.1.1.n):=I.row.cell hx 1 _ rfl;have p2:wr.cell? ⟨g,jj*12+2,none⟩=some (.string x.1.1.1.1.t):=I.row.cell hx 2 _ rfl;have p3:wr.cell? ⟨g,jj*12+3,none⟩=some (.slice x.1.1.1.1.LA x.1.1.1.1.ln x.1.1.1.1.lc):=I.row.cell hx 3 _ rfl;have p4:wr.cell? ⟨g,jj*12+4,none⟩=some (.slice x.1.1.1.1.DA x.1.1.1.1.dn x.1.1.1.1.dc):=I.row.cell hx 4 _ rfl;have p5:wr.cell? ⟨g,jj*12+5,none⟩=some (.bool x.1.1.2):=I.row.cell hx 5 _ rfl;have p6:wr.cell? ⟨g,jj*12+6,none⟩=some (.int .i64 x.1.2.1.1.k):=I.row.cell hx 6 _ rfl;have p7:wr.cell? ⟨g,jj*12+7,none⟩=some (.int .i64 x.1.2.1.1.n):=I.row.cell hx 7 _ rfl;have p8:wr.cell? ⟨g,jj*12+8,none⟩=some (.string x.1.2.1.1.t):=I.row.cell hx 8 _ rfl;have p9:wr.cell? ⟨g,jj*12+9,none⟩=some (.slice x.1.2.1.1.LA x.1.2.1.1.ln x.1.2.1.1.lc):=I.row.cell hx 9 _ rfl;have p10:wr.cell? ⟨g,jj*12+10,none⟩=some (.slice x.1.2.1.1.DA x.1.2.1.1.dn x.1.2.1.1.dc):=I.row.cell hx 10 _ rfl;have p11:wr.cell? ⟨g,jj*12+11,none⟩=some (.bool x.1.2.2):=I.row.cell hx 11 _ rfl;have r0:wr.cell? ⟨g,(jj-1)*12,none⟩=some (.int .i64 y.1.1.1.1.k):=I.row.cell hy 0 _ rfl;have r1:wr.cell? ⟨g,(jj-1)*12+1,none⟩=some (.int .i64 y.1.1.1.1.n):=I.row.cell hy 1 _ rfl;have r2:wr.cell? ⟨g,(jj-1)*12+2,none⟩=some (.string y.1.1.1.1.t):=I.row.cell hy 2 _ rfl;have r3:wr.cell? ⟨g,(jj-1)*12+3,none⟩=some (.slice y.1.1.1.1.LA y.1.1.1.1.ln y.1.1.1.1.lc):=I.row.cell hy 3 _ rfl
      have r4:wr.cell? ⟨g,(jj-1)*12+4,none⟩=some (.slice y.1.1.1.1.DA y.1.1.1.1.dn y.1.1.1.1.dc):=I.row.cell hy 4 _ rfl;have r5:wr.cell? ⟨g,(jj-1)*12+5,none⟩=some (.bool y.1.1.2):=I.row.cell hy 5 _ rfl;have r6:wr.cell? ⟨g,(jj-1)*12+6,none⟩=some (.int .i64 y.1.2.1.1.k):=I.row.cell hy 6 _ rfl;have r7:wr.cell? ⟨g,(jj-1)*12+7,none⟩=some (.int .i64 y.1.2.1.1.n):=I.row.cell hy 7 _ rfl;have r8:wr.cell? ⟨g,(jj-1)*12+8,none⟩=some (.string y.1.2.1.1.t):=I.row.cell hy 8 _ rfl;have r9:wr.cell? ⟨g,(jj-1)*12+9,none⟩=some (.slice y.1.2.1.1.LA y.1.2.1.1.ln y.1.2.1.1.lc):=I.row.cell hy 9 _ rfl;have r10:wr.cell? ⟨g,(jj-1)*12+10,none⟩=some (.slice y.1.2.1.1.DA y.1.2.1.1.dn y.1.2.1.1.dc):=I.row.cell hy 10 _ rfl;have r11:wr.cell? ⟨g,(jj-1)*12+11,none⟩=some (.bool y.1.2.2):=I.row.cell hy 11 _ rfl;have P0:∀k:BW wr,k.val.cell? ⟨g,jj*12,none⟩=some (.int .i64 x.1.1.1.1.k):=fun k=>k.cell p0;have P1:∀k:BW wr,k.val.cell? ⟨g,jj*12+1,none⟩=some (.int .i64 x.1.1.1.1.n):=fun k=>k.cell p1;have P2:∀k:BW wr,k.val.cell? ⟨g,jj*12+2,none⟩=some (.string x.1.1.1.1.t):=fun k=>k.cell p2;have P3:∀k:BW wr,k.val.cell? ⟨g,jj*12+3,none⟩=some (.slice x.1.1.1.1.LA x.1.1.1.1.ln x.1.1.1.1.lc):=fun k=>k.cell p3;have P4:∀k:BW wr,k.val.cell? ⟨g,jj*12+4,none⟩=some (.slice x.1.1.1.1.DA x.1.1.1.1.dn x.1.1.1.1.dc):=fun k=>k.cell p4;have P5:∀k:BW wr,k.val.cell? ⟨g,jj*12+5,none⟩=some (.bool x.1.1.2):=fun k=>k.cell p5;have P6:∀k:BW wr,k.val.cell? ⟨g,jj*12+6,none⟩=some (.int .i64 x.1.2.1.1.k):=fun k=>k.cell p6
      have P7:∀k:BW wr,k.val.cell? ⟨g,jj*12+7,none⟩=some (.int .i64 x.1.2.1.1.n):=fun k=>k.cell p7;have P8:∀k:BW wr,k.val.cell? ⟨g,jj*12+8,none⟩=some (.string x.1.2.1.1.t):=fun k=>k.cell p8;have P9:∀k:BW wr,k.val.cell? ⟨g,jj*12+9,none⟩=some (.slice x.1.2.1.1.LA x.1.2.1.1.ln x.1.2.1.1.lc):=fun k=>k.cell p9;have P10:∀k:BW wr,k.val.cell? ⟨g,jj*12+10,none⟩=some (.slice x.1.2.1.1.DA x.1.2.1.1.dn x.1.2.1.1.dc):=fun k=>k.cell p10;have P11:∀k:BW wr,k.val.cell? ⟨g,jj*12+11,none⟩=some (.bool x.1.2.2):=fun k=>k.cell p11;have R0:∀k:BW wr,k.val.cell? ⟨g,(jj-1)*12,none⟩=some (.int .i64 y.1.1.1.1.k):=fun k=>k.cell r0;have R1:∀k:BW wr,k.val.cell? ⟨g,(jj-1)*12+1,none⟩=some (.int .i64 y.1.1.1.1.n):=fun k=>k.cell r1;have R2:∀k:BW wr,k.val.cell? ⟨g,(jj-1)*12+2,none⟩=some (.string y.1.1.1.1.t):=fun k=>k.cell r2;have R3:∀k:BW wr,k.val.cell? ⟨g,(jj-1)*12+3,none⟩=some (.slice y.1.1.1.1.LA y.1.1.1.1.ln y.1.1.1.1.lc):=fun k=>k.cell r3;have R4:∀k:BW wr,k.val.cell? ⟨g,(jj-1)*12+4,none⟩=some (.slice y.1.1.1.1.DA y.1.1.1.1.dn y.1.1.1.1.dc):=fun k=>k.cell r4;have R5:∀k:BW wr,k.val.cell? ⟨g,(jj-1)*12+5,none⟩=some (.bool y.1.1.2):=fun k=>k.cell r5;have R6:∀k:BW wr,k.val.cell? ⟨g,(jj-1)*12+6,none⟩=some (.int .i64 y.1.2.1.1.k):=fun k=>k.cell r6;have R7:∀k:BW wr,k.val.cell? ⟨g,(jj-1)*12+7,none⟩=some (.int .i64 y.1.2.1.1.n):=fun k=>k.cell r7;have R8:∀k:BW wr,k.val.cell? ⟨g,(jj-1)*12+8,none⟩=some (.string y.1.2.1.1.t):=fun k=>k.cell r8
      have R9:∀k:BW wr,k.val.cell? ⟨g,(jj-1)*12+9,none⟩=some (.slice y.1.2.1.1.LA y.1.2.1.1.ln y.1.2.1.1.lc):=fun k=>k.cell r9;have R10:∀k:BW wr,k.val.cell? ⟨g,(jj-1)*12+10,none⟩=some (.slice y.1.2.1.1.DA y.1.2.1.1.dn y.1.2.1.1.dc):=fun k=>k.cell r10;have R11:∀k:BW wr,k.val.cell? ⟨g,(jj-1)*12+11,none⟩=some (.bool y.1.2.2):=fun k=>k.cell r11;have hjn:jj<n:=by omega
      have i0:(0:Int)<=(jj:Int):=by omega
      have i1:(jj:Int)<(n:Int):=by omega
      have i2:(0:Int)<=(jj:Int)-1:=by omega
      have i3:(jj:Int)-1<(n:Int):=by omega
      have W1:IntKind.i64.wrap ((jj:Int)-1)=(jj:Int)-1:=wrap_i64' (by omega) (by omega);have W2:((jj:Int)-1).toNat=jj-1:=by omega
      have K1:Hid (∀k:BW wr,Calls prog 190 #[lM x,lM y] k.val fun e w''=>e=.returned (.int .i64 (aZ (ai x.1).1 (ai y.1).1))/\∃k:BW wr,w''=k.val):=fun k=>
       Calls.bw (HC.out x y hxm hym k.val (I.but.step k.below))
      have HX:=qD hx;have HY:=qD hy;have HS3:=qD hS3;have HJ1:=qD hj1;clear p0 r0 p1 r1 p2 r2 p3 r3 p4 r4 p5 r5 p6 r6 p7 r7 p8 r8 p9 r9 p10 r10 p11 r11 hx hy hxm hym I hS3 hj1 hA;go_upto_region 4 with fail
      refine aM (by kernel_rfl) (by kernel_rfl) ?_
      repeat(go_big_quiet_step (with_reducible exact K1.out _))
      refine Kd ?_;rintro _ ⟨kw,rfl⟩;have J2:=qD (J.out.step kw.below);clear P0 R0 P1 R1 P2 R2 P3 R3 P4 R4 P5 R5 P6 R6 P7 R7 P8 R8 P9 R9 P10 R10 P11 R11 K1 W1 W2 i0 i1 i2 i3;generalize kw.val=w2 at*;by_cases hc:aZ (ai x.1).1 (ai y.1).1<0
      ·have p0:w2.cell? ⟨g,jj*12,none⟩=some (.int .i64 x.1.1.1.1.k):=J2.out.row.cell HX.out 0 _ rfl;have p1:w2.cell? ⟨g,jj*12+1,none⟩=some (.int .i64 x.1.1.1.1.n):=J2.out.row.cell HX.out 1 _ rfl;have p2:w2.cell? ⟨g,jj*12+2,none⟩=some (.string x.1.1.1.1.t):=J2.out.row.cell HX.out 2 _ rfl;have p3:w2.cell? ⟨g,jj*12+3,none⟩=some (.slice x.1.1.1.1.LA x.1.1.1.1.ln x.1.1.1.1.lc):=J2.out.row.cell HX.out 3 _ rfl;have p4:w2.cell? ⟨g,jj*12+4,none⟩=some (.slice x.1.1.1.1.DA x.1.1.1.1.dn x.1.1.1.1.dc):=J2.out.row.cell HX.out 4 _ rfl;have p5:w2.cell? ⟨g,jj*12+5,none⟩=some (.bool x.1.1.2):=J2.out.row.cell HX.out 5 _ rfl;have p6:w2.cell? ⟨g,jj*12+6,none⟩=some (.int .i64 x.1.2.1.1.k):=J2.out.row.cell HX.out 6 _ rfl;have p7:w2.cell? ⟨g,jj*12+7,none⟩=some (.int .i64 x.1.2.1.1.n):=J2.out.row.cell HX.out 7 _ rfl;have p8:w2.cell? ⟨g,jj*12+8,none⟩=some (.string x.1.2.1.1.t):=J2.out.row.cell HX.out 8 _ rfl;have p9:w2.cell? ⟨g,jj*12+9,none⟩=some (.slice x.1.2.1.1.LA x.1.2.1.1.ln x.1.2.1.1.lc):=J2.out.row.cell HX.out 9 _ rfl;have p10:w2.cell? ⟨g,jj*12+10,none⟩=some (.slice x.1.2.1.1.DA x.1.2.1.1.dn x.1.2.1.1.dc):=J2.out.row.cell HX.out 10 _ rfl;have p11:w2.cell? ⟨g,jj*12+11,none⟩=some (.bool x.1.2.2):=J2.out.row.cell HX.out 11 _ rfl;have r0:w2.cell? ⟨g,(jj-1)*12,none⟩=some (.int .i64 y.1.1.1.1.k):=J2.out.row.cell HY.out 0 _ rfl;have r1:w2.cell? ⟨g,(jj-1)*12+1,none⟩=some (.int .i64 y.1.1.1.1.n):=J2.out.row.cell HY.out 1 _ rfl
       have r2:w2.cell? ⟨g,(jj-1)*12+2,none⟩=some (.string y.1.1.1.1.t):=J2.out.row.cell HY.out 2 _ rfl;have r3:w2.cell? ⟨g,(jj-1)*12+3,none⟩=some (.slice y.1.1.1.1.LA y.1.1.1.1.ln y.1.1.1.1.lc):=J2.out.row.cell HY.out 3 _ rfl;have r4:w2.cell? ⟨g,(jj-1)*12+4,none⟩=some (.slice y.1.1.1.1.DA y.1.1.1.1.dn y.1.1.1.1.dc):=J2.out.row.cell HY.out 4 _ rfl;have r5:w2.cell? ⟨g,(jj-1)*12+5,none⟩=some (.bool y.1.1.2):=J2.out.row.cell HY.out 5 _ rfl;have r6:w2.cell? ⟨g,(jj-1)*12+6,none⟩=some (.int .i64 y.1.2.1.1.k):=J2.out.row.cell HY.out 6 _ rfl;have r7:w2.cell? ⟨g,(jj-1)*12+7,none⟩=some (.int .i64 y.1.2.1.1.n):=J2.out.row.cell HY.out 7 _ rfl;have r8:w2.cell? ⟨g,(jj-1)*12+8,none⟩=some (.string y.1.2.1.1.t):=J2.out.row.cell HY.out 8 _ rfl;have r9:w2.cell? ⟨g,(jj-1)*12+9,none⟩=some (.slice y.1.2.1.1.LA y.1.2.1.1.ln y.1.2.1.1.lc):=J2.out.row.cell HY.out 9 _ rfl;have r10:w2.cell? ⟨g,(jj-1)*12+10,none⟩=some (.slice y.1.2.1.1.DA y.1.2.1.1.dn y.1.2.1.1.dc):=J2.out.row.cell HY.out 10 _ rfl;have r11:w2.cell? ⟨g,(jj-1)*12+11,none⟩=some (.bool y.1.2.2):=J2.out.row.cell HY.out 11 _ rfl;have z:=bT.frozen J2.out.row;go_upto_region 6 with fail
       go_region
       all_goals
        clear p0 r0 p1 r1 p2 r2 p3 r3 p4 r4 p5 r5 p6 r6 p7 r7 p8 r8 p9 r9 p10 r10 p11 r11 z;go_wp2_with fail;refine⟨⟨jj-1,S3,y::S2,by rw[show((jj-1:Nat):Int)=(jj:Int)-1 by omega],by rw[HJ1.out,HA.out];omega,by omega,by rw[HSS.out,HS3.out];simp,?_,?_⟩,by simp[intOf];omega⟩
        ·intro q hq;rcases LG.1 hq with rfl|hq
         ·exact hc
         ·exact HAll.out q hq
        ·have hl:jj<(A++(S1++x::S2)++(Q'++D)).length:=(KF.1 HX.out).1;have r1:=J2.out.swap hl x y;rw[HS3.out,HJ1.out,sB,<-HJ1.out] at r1;exact r1
      ·have HD:Hid (ah (fun p q:PS=>aZ (ai p).1 (ai q).1) (P++[x]) (S1++x::S2)):=by
        refine ah.insert HO.out (by rw[<-HSS.out];exact HSo.out) (fun y hy=>?_) HAll.out (fun q hq=>?_)
        ·have h:=HT.out;rw[HPQ.out,HQ.out] at h;exact(Ky.1 h).2.2 y hy x (by simp)
        ·rw[HS3.out] at hq;simp at hq;subst hq;exact hc
       go_wp2_with fail;go_roundw
       ·exact⟨i+1,P++[x],Q',S1++x::S2,by go_num,by rw[HI.out];simp;omega,by simp,by omega,by rw[HPQ.out,HQ.out];simp,HD.out,J2.out⟩
       ·simp[intOf];omega
     ·have HN1:Hid (S1=[]):=KN (by have:=HJ.out;omega)
      have HD:Hid (ah (fun p q:PS=>aZ (ai p).1 (ai q).1) (P++[x]) (S1++x::S2)):=by
       refine ah.insert HO.out (by rw[<-HSS.out];exact HSo.out) (fun y hy=>?_) HAll.out (fun q hq=>?_)
       ·have h:=HT.out;rw[HPQ.out,HQ.out] at h;exact(Ky.1 h).2.2 y hy x (by simp)
       ·rw[HN1.out] at hq;simp at hq
      clear I;have hgt':decide ((a:Int)<(jj:Int))=false:=KQ (by omega);go_upto_region 4 with fail
      go_quiet (fail)
      go_wp2_with fail;go_roundw
      ·exact⟨i+1,P++[x],Q',S1++x::S2,by go_num,by rw[HI.out];simp;omega,by simp,by omega,by rw[HPQ.out,HQ.out];simp,HD.out,J.out.step (Below.drewN (Ju _ _) _)⟩
      ·simp[intOf];omega
   ·have HF:Hid (Q=[]):=by
     have h1:=HBq.out;have h2:=HI.out;have h3:=HA.out;rw[HPQ.out] at h1;simp at h1;exact KN (by omega)
    clear I;go_wp2_with fail
    go_end0
    refine⟨rfl,S,?_,?_⟩
    ·have:=HSo.out;rw[HPQ.out,HF.out,LQ];exact this
    ·have:=J.out;rw[HF.out,NV] at this;exact this
theorem dK.JS{g:Nat}{w w2:World}{L:List (PS×Nat)}(h:dK g w L w2){p q:Nat}(hp:p<L.length)(hq:q<L.length)(x y:PS×Nat):dK g w ((L.set p y).set q x) ((((((((((((((((((((((((w2.setCell ⟨g,p*12,none⟩ (.int .i64 y.1.1.1.1.k)).setCell ⟨g,p*12+1,none⟩ (.int .i64 y.1.1.1.1.n)).setCell ⟨g,p*12+2,none⟩ (.string y.1.1.1.1.t)).setCell ⟨g,p*12+3,none⟩ (.slice y.1.1.1.1.LA y.1.1.1.1.ln y.1.1.1.1.lc)).setCell ⟨g,p*12+4,none⟩ (.slice y.1.1.1.1.DA y.1.1.1.1.dn y.1.1.1.1.dc)).setCell ⟨g,p*12+5,none⟩ (.bool y.1.1.2)).setCell ⟨g,p*12+6,none⟩ (.int .i64 y.1.2.1.1.k)).setCell ⟨g,p*12+7,none⟩ (.int .i64 y.1.2.1.1.n)).setCell ⟨g,p*12+8,none⟩ (.string y.1.2.1.1.t)).setCell ⟨g,p*12+9,none⟩ (.slice y.1.2.1.1.LA y.1.2.1.1.ln y.1.2.1.1.lc)).setCell ⟨g,p*12+10,none⟩ (.slice y.1.2.1.1.DA y.1.2.1.1.dn y.1.2.1.1.dc)).setCell ⟨g,p*12+11,none⟩ (.bool y.1.2.2)).setCell ⟨g,q*12,none⟩ (.int .i64 x.1.1.1.1.k)).setCell ⟨g,q*12+1,none⟩ (.int .i64 x.1.1.1.1.n)).setCell ⟨g,q*12+2,none⟩ (.string x.1.1.1.1.t)).setCell ⟨g,q*12+3,none⟩ (.slice x.1.1.1.1.LA x.1.1.1.1.ln x.1.1.1.1.lc)).setCell ⟨g,q*12+4,none⟩ (.slice x.1.1.1.1.DA x.1.1.1.1.dn x.1.1.1.1.dc)).setCell ⟨g,q*12+5,none⟩ (.bool x.1.1.2)).setCell ⟨g,q*12+6,none⟩ (.int .i64 x.1.2.1.1.k)).setCell ⟨g,q*12+7,none⟩ (.int .i64 x.1.2.1.1.n)).setCell ⟨g,q*12+8,none⟩ (.string x.1.2.1.1.t)).setCell ⟨g,q*12+9,none⟩ (.slice x.1.2.1.1.LA x.1.2.1.1.ln x.1.2.1.1.lc)).setCell ⟨g,q*12+10,none⟩ (.slice x.1.2.1.1.DA x.1.2.1.1.dn x.1.2.1.1.dc)).setCell ⟨g,q*12+11,none⟩ (.bool x.1.2.2)).drew:=
 ⟨bT.drew ((h.row.put hp y).put (j:=q) (by rw[Nx];exact hq) x),iG.step ((((((((((((((((((((((((h.but.set (p:=⟨g,p*12,none⟩) rfl (.int .i64 y.1.1.1.1.k)).set (p:=⟨g,p*12+1,none⟩) rfl (.int .i64 y.1.1.1.1.n)).set (p:=⟨g,p*12+2,none⟩) rfl (.string y.1.1.1.1.t)).set (p:=⟨g,p*12+3,none⟩) rfl (.slice y.1.1.1.1.LA y.1.1.1.1.ln y.1.1.1.1.lc)).set (p:=⟨g,p*12+4,none⟩) rfl (.slice y.1.1.1.1.DA y.1.1.1.1.dn y.1.1.1.1.dc)).set (p:=⟨g,p*12+5,none⟩) rfl (.bool y.1.1.2)).set (p:=⟨g,p*12+6,none⟩) rfl (.int .i64 y.1.2.1.1.k)).set (p:=⟨g,p*12+7,none⟩) rfl (.int .i64 y.1.2.1.1.n)).set (p:=⟨g,p*12+8,none⟩) rfl (.string y.1.2.1.1.t)).set (p:=⟨g,p*12+9,none⟩) rfl (.slice y.1.2.1.1.LA y.1.2.1.1.ln y.1.2.1.1.lc)).set (p:=⟨g,p*12+10,none⟩) rfl (.slice y.1.2.1.1.DA y.1.2.1.1.dn y.1.2.1.1.dc)).set (p:=⟨g,p*12+11,none⟩) rfl (.bool y.1.2.2)).set (p:=⟨g,q*12,none⟩) rfl (.int .i64 x.1.1.1.1.k)).set (p:=⟨g,q*12+1,none⟩) rfl (.int .i64 x.1.1.1.1.n)).set (p:=⟨g,q*12+2,none⟩) rfl (.string x.1.1.1.1.t)).set (p:=⟨g,q*12+3,none⟩) rfl (.slice x.1.1.1.1.LA x.1.1.1.1.ln x.1.1.1.1.lc)).set (p:=⟨g,q*12+4,none⟩) rfl (.slice x.1.1.1.1.DA x.1.1.1.1.dn x.1.1.1.1.dc)).set (p:=⟨g,q*12+5,none⟩) rfl (.bool x.1.1.2)).set (p:=⟨g,q*12+6,none⟩) rfl (.int .i64 x.1.2.1.1.k)).set (p:=⟨g,q*12+7,none⟩) rfl (.int .i64 x.1.2.1.1.n)).set (p:=⟨g,q*12+8,none⟩) rfl (.string x.1.2.1.1.t)).set (p:=⟨g,q*12+9,none⟩) rfl (.slice x.1.2.1.1.LA x.1.2.1.1.ln x.1.2.1.1.lc)).set (p:=⟨g,q*12+10,none⟩) rfl (.slice x.1.2.1.1.DA x.1.2.1.1.dn x.1.2.1.1.dc)).set (p:=⟨g,q*12+11,none⟩) rfl (.bool x.1.2.2)) ((Ju _ _).drew)⟩
theorem yH{α:Type}(A V1 U2 M U1 V2 D:List α)(x y:α):
 ((A++(V1++x::U2)++M++(U1++y::V2)++D).set (A.length+V1.length) y).set (A.length+(V1.length+(U2.length+1))+M.length+U1.length) x=A++((V1++[y])++U2)++M++((U1++[x])++V2)++D:=by
 have e1:(A++(V1++x::U2)++M++(U1++y::V2)++D).set (A.length+V1.length) y=(A++V1++y::U2++M++U1)++y::(V2++D):=by
  rw[show A++(V1++x::U2)++M++(U1++y::V2)++D=(A++V1)++x::(U2++(M++(U1++y::(V2++D)))) by simp,Mb _ _ (by simp),show A.length+V1.length-(A++V1).length=0 by simp];simp
 rw[e1,Mb _ _ (by simp;omega),show A.length+(V1.length+(U2.length+1))+M.length+U1.length-(A++V1++y::U2++M++U1).length=0 by simp;omega];simp
theorem Ed{α:Type}(A V1 U2 M U1 V2 D:List α)(x y:α):(A++(V1++x::U2)++M++(U1++y::V2)++D)[A.length+V1.length]?=some x:=by
 rw[show A++(V1++x::U2)++M++(U1++y::V2)++D=(A++V1)++x::(U2++(M++(U1++y::(V2++D)))) by simp,Kl (by simp)];simp
theorem Ee{α:Type}(A V1 U2 M U1 V2 D:List α)(x y:α):(A++(V1++x::U2)++M++(U1++y::V2)++D)[A.length+(V1.length+(U2.length+1))+M.length+U1.length]?=some y:=by
 rw[show A++(V1++x::U2)++M++(U1++y::V2)++D=(A++V1++x::U2++M++U1)++y::(V2++D) by simp,Kl (by simp;omega)];rw[show A.length+(V1.length+(U2.length+1))+M.length+U1.length-(A++V1++x::U2++M++U1).length=0 by simp;omega];rfl
def sC(g:Nat)(w:World)(L:List (PS×Nat))(e:Ending)(w':World):Prop:=e=.returned (.tuple #[])/\dK g w L w'
theorem gS(A U M V D:List (PS×Nat))(g n c a b k:Nat)(aI bI kI:Int)(fv:Value)(w:World)(hr:bT w g (A++U++M++V++D))(hn:n=(A++U++M++V++D).length)(ha:a=A.length)(hb:b=A.length+U.length+M.length)(hk:k=U.length)(hkv:k=V.length)(haI:aI=a)(hbI:bI=b)(hkI:kI=k)(hz:n*176<=aH):
 Calls prog 340 #[.slice (some ⟨g,0,none⟩) n c,.int .i64 aI,.int .i64 bI,.int .i64 kI,fv] w (sC g w (A++V++M++U++D)):=by
 subst haI hbI hkI;unfold aH at hz;have hbn:b+k<=n:=by rw[hn];simp;omega
 have hab:a+k<=b:=by omega
 have HA:=qD ha;have HBq:=qD hb;have HK:=qD hk;have HKV:=qD hkv;have HN:=qD hn;have I0:Hid (dK g w (A++U++M++V++D) w):=qD ⟨hr,iG.refl⟩;clear hr hn ha hb hk hkv;go_enter func340,ntmps340;go_wp2_with fail
 go_loopw [10] (fun v10 wr=>∃(i:Nat) (U1 U2 V1 V2:List (PS×Nat)),v10=.int .i64 i/\i<=k/\i=U1.length/\i=V1.length/\U=U1++U2/\V=V1++V2/\dK g w (A++(V1++U2)++M++(U1++V2)++D) wr) (fun v10 _=>k-(intOf v10).toNat)
 ·exact⟨0,[],U,[],V,rfl,KD _,rfl,rfl,rfl,rfl,I0.out⟩
 case round=>
  obtain⟨i,U1,U2,V1,V2,rfl,hik,hU1,hV1,hU,hV,I⟩:=hrel;have HU1:=qD hU1;have HV1:=qD hV1;have HU:=qD hU;have HV:=qD hV;have J:=qD I;by_cases hlt:i<k
  ·obtain⟨x,U3,hx⟩:∃x U3,U2=x::U3:=by
    cases U2 with
    | nil=>have h1:=HK.out;rw[hU] at h1;simp at h1;omega
    | cons x U3=>exact⟨x,U3,rfl⟩
   obtain⟨y,V3,hy⟩:∃y V3,V2=y::V3:=by
    cases V2 with
    | nil=>have h1:=HKV.out;rw[hV] at h1;simp at h1;omega
    | cons y V3=>exact⟨y,V3,rfl⟩
   subst hx hy;have hp:a+i=A.length+V1.length:=by rw[HA.out,<-hV1]
   have hq:b+i=A.length+(V1.length+(U3.length+1))+M.length+U1.length:=by
    have h1:=HBq.out;rw[hU] at h1;simp at h1;omega
   have HX:Hid ((A++(V1++x::U3)++M++(U1++y::V3)++D)[a+i]?=some x):=by rw[Hid,hp];exact Ed A V1 U3 M U1 V3 D x y
   have HY:Hid ((A++(V1++x::U3)++M++(U1++y::V3)++D)[b+i]?=some y):=by rw[Hid,hq];exact Ee A V1 U3 M U1 V3 D x y
   have HSw:Hid (((A++(V1++x::U3)++M++(U1++y::V3)++D).set (a+i) y).set (b+i) x=A++((V1++[y])++U3)++M++((U1++[x])++V3)++D):=by
    rw[Hid,hp,hq];exact yH A V1 U3 M U1 V3 D x y
   have p0:wr.cell? ⟨g,(a+i)*12,none⟩=some (.int .i64 x.1.1.1.1.k):=J.out.row.cell HX.out 0 _ rfl;have p1:wr.cell? ⟨g,(a+i)*12+1,none⟩=some (.int .i64 x.1.1.1.1.n):=J.out.row.cell HX.out 1 _ rfl;have p2:wr.cell? ⟨g,(a+i)*12+2,none⟩=some (.string x.1.1.1.1.t):=J.out.row.cell HX.out 2 _ rfl;have p3:wr.cell? ⟨g,(a+i)*12+3,none⟩=some (.slice x.1.1.1.1.LA x.1.1.1.1.ln x.1.1.1.1.lc):=J.out.row.cell HX.out 3 _ rfl;have p4:wr.cell? ⟨g,(a+i)*12+4,none⟩=some (.slice x.1.1.1.1.DA x.1.1.1.1.dn x.1.1.1.1.dc):=J.out.row.cell HX.out 4 _ rfl;have p5:wr.cell? ⟨g,(a+i)*12+5,none⟩=some (.bool x.1.1.2):=J.out.row.cell HX.out 5 _ rfl;have p6:wr.cell? ⟨g,(a+i)*12+6,none⟩=some (.int .i64 x.1.2.1.1.k):=J.out.row.cell HX.out 6 _ rfl;have p7:wr.cell? ⟨g,(a+i)*12+7,none⟩=some (.int .i64 x.1.2.1.1.n):=J.out.row.cell HX.out 7 _ rfl;have p8:wr.cell? ⟨g,(a+i)*12+8,none⟩=some (.string x.1.2.1.1.t):=J.out.row.cell HX.out 8 _ rfl;have p9:wr.cell? ⟨g,(a+i)*12+9,none⟩=some (.slice x.1.2.1.1.LA x.1.2.1.1.ln x.1.2.1.1.lc):=J.out.row.cell HX.out 9 _ rfl;have p10:wr.cell? ⟨g,(a+i)*12+10,none⟩=some (.slice x.1.2.1.1.DA x.1.2.1.1.dn x.1.2.1.1.dc):=J.out.row.cell HX.out 10 _ rfl;have p11:wr.cell? ⟨g,(a+i)*12+11,none⟩=some (.bool x.1.2.2):=J.out.row.cell HX.out 11 _ rfl;have r0:wr.cell? ⟨g,(b+i)*12,none⟩=some (.int .i64 y.1.1.1.1.k):=J.out.row.cell HY.out 0 _ rfl;have r1:wr.cell? ⟨g,(b+i)*12+1,none⟩=some (.int .i64 y.1.1.1.1.n):=J.out.row.cell HY.out 1 _ rfl
   have r2:wr.cell? ⟨g,(b+i)*12+2,none⟩=some (.string y.1.1.1.1.t):=J.out.row.cell HY.out 2 _ rfl;have r3:wr.cell? ⟨g,(b+i)*12+3,none⟩=some (.slice y.1.1.1.1.LA y.1.1.1.1.ln y.1.1.1.1.lc):=J.out.row.cell HY.out 3 _ rfl;have r4:wr.cell? ⟨g,(b+i)*12+4,none⟩=some (.slice y.1.1.1.1.DA y.1.1.1.1.dn y.1.1.1.1.dc):=J.out.row.cell HY.out 4 _ rfl;have r5:wr.cell? ⟨g,(b+i)*12+5,none⟩=some (.bool y.1.1.2):=J.out.row.cell HY.out 5 _ rfl;have r6:wr.cell? ⟨g,(b+i)*12+6,none⟩=some (.int .i64 y.1.2.1.1.k):=J.out.row.cell HY.out 6 _ rfl;have r7:wr.cell? ⟨g,(b+i)*12+7,none⟩=some (.int .i64 y.1.2.1.1.n):=J.out.row.cell HY.out 7 _ rfl;have r8:wr.cell? ⟨g,(b+i)*12+8,none⟩=some (.string y.1.2.1.1.t):=J.out.row.cell HY.out 8 _ rfl;have r9:wr.cell? ⟨g,(b+i)*12+9,none⟩=some (.slice y.1.2.1.1.LA y.1.2.1.1.ln y.1.2.1.1.lc):=J.out.row.cell HY.out 9 _ rfl;have r10:wr.cell? ⟨g,(b+i)*12+10,none⟩=some (.slice y.1.2.1.1.DA y.1.2.1.1.dn y.1.2.1.1.dc):=J.out.row.cell HY.out 10 _ rfl;have r11:wr.cell? ⟨g,(b+i)*12+11,none⟩=some (.bool y.1.2.2):=J.out.row.cell HY.out 11 _ rfl;have z:=bT.frozen J.out.row;clear hU1 hV1 hU hV I hp hq;go_upto_region 3 with fail
   go_region
   all_goals
    clear p0 r0 p1 r1 p2 r2 p3 r3 p4 r4 p5 r5 p6 r6 p7 r7 p8 r8 p9 r9 p10 r10 p11 r11 z;go_wp2_with fail;refine⟨⟨i+1,U1++[x],U3,V1++[y],V3,by go_num,by omega,by rw[HU1.out];simp,by rw[HV1.out];simp,by rw[HU.out];simp,by rw[HV.out];simp,?_⟩,by simp[intOf];omega⟩;have r1:=J.out.JS (KF.1 HX.out).1 (KF.1 HY.out).1 x y;rw[HSw.out] at r1;exact r1
  ·have e1:U2=[]:=KN (by have h1:=HK.out;rw[hU] at h1;simp at h1;omega);have e2:V2=[]:=KN (by have h1:=HKV.out;rw[hV] at h1;simp at h1;omega)
   have HF:Hid (dK g w (A++V++M++U++D) wr):=by
    rw[Hid,hU,hV,e1,e2];simp only[LQ];rw[e1,e2] at I;simp only[LQ] at I;exact I
   clear hU1 hV1 hU hV I e1 e2;go_wp2_with fail
   go_end0
   exact⟨rfl,HF.out⟩
theorem dK.then{g:Nat}{w w1 w2:World}{L L':List (PS×Nat)}(h:dK g w L w1)(h':dK g w1 L' w2):dK g w L' w2:=⟨h'.row,h.but.trans h'.but⟩
theorem tT(A P Q D:List (PS×Nat))(g n c a m b:Nat)(aI mI bI:Int)(fv:Value)(w:World)(hr:bT w g (A++P++Q++D))(hn:n=(A++P++Q++D).length)(ha:a=A.length)(hm:m=A.length+P.length)(hb:b=A.length+P.length+Q.length)(hP:1<=P.length)(hQ:1<=Q.length)(haI:aI=a)(hmI:mI=m)(hbI:bI=b)(hz:n*176<=aH):
 Calls prog 318 #[.slice (some ⟨g,0,none⟩) n c,.int .i64 aI,.int .i64 mI,.int .i64 bI,fv] w (sC g w (A++Q++P++D)):=by
 subst haI hmI hbI;have HZ:=qD hz;unfold aH at hz;have ham:a<=m:=by omega
 have hmb:m<=b:=by omega
 have hbn:b<=n:=by rw[hn];simp;omega
 have HN:=qD hn;have I0:Hid (dK g w (A++P++Q++D) w):=qD ⟨hr,iG.refl⟩;have HP:Hid (m-a=P.length):=by unfold Hid;omega
 have HQ:Hid (b-m=Q.length):=by unfold Hid;omega
 have HM:Hid (A.length+P.length=m):=hm.symm;have hi1:1<=m-a:=by omega
 have hj1:1<=b-m:=by omega
 clear hr hn ha hm hb hP hQ;go_enter func318,ntmps318;go_wp2_with fail
 go_loopw [10,11] (fun v10 v11 wr=>∃(i j:Nat) (A' U V D':List (PS×Nat)),v10=.int .i64 i/\v11=.int .i64 j/\i=U.length/\j=V.length/\1<=i/\1<=j/\A'.length+i=m/\n=(A'++U++V++D').length/\A'++V++U++D'=A++Q++P++D/\dK g w (A'++U++V++D') wr) (fun v10 v11 _=>(intOf v10).toNat+(intOf v11).toNat)
 ·exact⟨m-a,b-m,A,P,Q,D,by go_num,by go_num,HP.out,HQ.out,hi1,hj1,by rw[HP.out];exact HM.out,HN.out,rfl,I0.out⟩
 case round=>
  obtain⟨i,j,A',U,V,D',rfl,rfl,hU,hV,hi,hj,hm',hn',ht,I⟩:=hrel;have HU:=qD hU;have HV:=qD hV;have HM':=qD hm';have HN':=qD hn';have HTg:=qD ht;have J:=qD I;have him:i<=m:=by omega
  have hjn:m+j<=n:=by rw[hn'];simp;omega
  clear hU hV hn' ht I hm';cases hne:((i:Int) != (j:Int))
  ·have hij:i=j:=by simp at hne;omega
   have HR:Hid (bT wr g (A'++U++[]++V++D')):=by rw[Hid,LQ];exact J.out.row
   have HN2:Hid (n=(A'++U++[]++V++D').length):=by rw[Hid,LQ];exact HN'.out
   have HIJ:=qD hij;clear hij;go_wp2_with fail;refine(gS A' U [] V D' g n c A'.length m i _ _ _ _ _ HR.out HN2.out rfl (by have:=HU.out;have:=HM'.out;simp;omega) HU.out (by rw[HIJ.out];exact HV.out) (by have:=HM'.out;omega) (by omega) rfl HZ.out).mono ?_;rintro e w1 ⟨rfl,h1⟩;have H1:=qD (J.out.then h1);clear h1;go_wp2_with fail
   go_end0
   refine⟨rfl,?_⟩;have:=H1.out;rw[LQ,HTg.out] at this;exact this
  ·have hij:i≠j:=by simp at hne;omega
   by_cases hgt:j<i
   ·obtain⟨U1,U2,hUU,hU1⟩:∃U1 U2,U=U1++U2/\U1.length=j:=⟨U.take j,U.drop j,(LC j U).symm,by rw[LI];have:=HU.out;omega⟩;have hU2:U2.length=i-j:=by have h1:=HU.out;rw[hUU] at h1;simp at h1;omega
    have HR:Hid (bT wr g (A'++U1++U2++V++D')):=by have:=J.out.row;rw[hUU] at this;rw[Hid];simpa using this
    have HN2:Hid (n=(A'++U1++U2++V++D').length):=by have:=HN'.out;rw[hUU] at this;rw[Hid,this];simp
    have HUU:=qD hUU;have HU1:=qD hU1;have HU2:=qD hU2;clear hUU hU1 hU2 hij;go_wp2_with fail;refine(gS A' U1 U2 V D' g n c A'.length m j _ _ _ _ _ HR.out HN2.out rfl (by have:=HU1.out;have:=HU2.out;have:=HM'.out;omega) HU1.out.symm HV.out (by have:=HM'.out;omega) rfl rfl HZ.out).mono ?_;rintro e w1 ⟨rfl,h1⟩;have H1:=qD (J.out.then h1);clear h1;go_wp2_with fail;go_roundw
    case rel=>
     refine⟨i-j,j,A'++V,U2,U1,D',by go_num,rfl,HU2.out.symm,HU1.out.symm,by omega,hj,by rw[KV,<-HV.out];have:=HM'.out;omega,?_,?_,?_⟩
     ·have:=HN2.out;simp at this;simp;omega
     ·rw[<-HTg.out,HUU.out];simp
     ·exact H1.out
    case measure=>simp[intOf];omega
   ·obtain⟨V1,V2,hVV,hV1⟩:∃V1 V2,V=V1++V2/\V1.length=j-i:=⟨V.take (j-i),V.drop (j-i),(LC (j-i) V).symm,by rw[LI];have:=HV.out;omega⟩;have hV2:V2.length=i:=by have h1:=HV.out;rw[hVV] at h1;simp at h1;omega
    have HR:Hid (bT wr g (A'++U++V1++V2++D')):=by have:=J.out.row;rw[hVV] at this;rw[Hid];simpa using this
    have HN2:Hid (n=(A'++U++V1++V2++D').length):=by have:=HN'.out;rw[hVV] at this;rw[Hid,this];simp
    have HVV:=qD hVV;have HV1:=qD hV1;have HV2:=qD hV2;have hlt:i<j:=by omega
    clear hVV hV1 hV2 hij;go_wp2_with fail;refine(gS A' U V1 V2 D' g n c A'.length (m+j-i) i _ _ _ _ _ HR.out HN2.out rfl (by have:=HU.out;have:=HV1.out;have:=HM'.out;omega) HU.out HV2.out.symm (by have:=HM'.out;omega) (by omega) rfl HZ.out).mono ?_;rintro e w1 ⟨rfl,h1⟩;have H1:=qD (J.out.then h1);clear h1;go_wp2_with fail;go_roundw
    case rel=>
     refine⟨i,j-i,A',V2,V1,U++D',rfl,by go_num,HV2.out.symm,HV1.out.symm,hi,by omega,HM'.out,?_,?_,?_⟩
     ·have:=HN2.out;simp at this;simp;omega
     ·rw[<-HTg.out,HVV.out];simp
     ·have:=H1.out;simpa using this
    case measure=>simp[intOf];omega
end
end Go.Proofs.YtgfoliedmhgpnaaGreatDoor
