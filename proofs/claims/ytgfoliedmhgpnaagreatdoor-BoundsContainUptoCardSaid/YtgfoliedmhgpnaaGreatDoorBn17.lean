/- A part of the proof. -/
import Derived.Test.YtgfoliedmhgpnaaGreatDoorBn16
set_option maxRecDepth 100000
set_option maxHeartbeats 16000000
set_option linter.unusedSimpArgs false
open Go.Proofs.Tryz
open ByteArray (empty)
namespace Go.Proofs.YtgfoliedmhgpnaaGreatDoor
open Go.RowKit
section
variable {l r:List ByteArray} {c k n:Nat} {w:World} {A:Option Addr}
def vv(k:aX):Prop:=∀(A:Option Addr) (n c:Nat) (l:List ByteArray) (w:World),WP w k->kS k->cY w->ST w A n c l->k.sz<=300000000->
 Calls prog 22 #[aW k,.slice A n c] w (dD (dW l k) k.sz w)
theorem uC(r:iW)(rs:List iW):ej (r::rs)=if eK r.1 then ej rs else(r.1,false):=rfl
theorem zR{rs:List iW}(h:rs.length≠1):oO rs=ej rs:=by
 unfold oO;split
 ·simp at h
 ·rfl
theorem cZ(p:aX):(aD p).all (·.oneCell')=true:=by simp[Value.oneCell']
theorem zS(p:aX)(ih:∀k∈p.kids,vv k)(A:Option Addr)(n c:Nat)(l:List ByteArray)(w:World)(hw:WP w p)(hk:∀k∈p.kids,kS k)(hT:cY w)(hl:ST w A n c l)(hz:p.sz<=300000000):
 Calls prog 64 #[aW p,.slice A n c] w (dD (oO (p.kids.map (dW l))) p.sz w):=by
 have HT:=qD hT;have W:=qD hw.open;have HL:=qD hl
 have IH:Hid (∀k∈p.kids,∀wr,Below w.heap.size w wr->Calls prog 22 #[aW k,.slice A n c] wr (dD (dW l k) p.sz wr)):=qD fun k hkm wr hb=>by
  have hs:k.sz<=p.sz:=by rw[p.Ir];have:=xR hkm;omega
  exact(ih k hkm A n c l wr ((W.out.kids k hkm).step hb) (hk k hkm) (HT.out.step hb) (HL.out.step hb) (by omega)).mono fun e w' h=>h.up (Ju _ _) hs
 have hkz:p.kn<=140737488355328:=by have:=W.out.ksz;unfold aH at this;omega
 have HKN:=qD W.out.sr.ln;have HSZ:Hid (1<=p.sz):=by rw[Hid,p.Ir];omega
 clear hw hk hT hl hz ih;have B0:Hid (aG (w.alloc (.cells (aD p) 38)) w.heap.size 38 (aD p)):=aG.Ii rfl;have BE:=qD ((Ju w.heap.size w).alloc (qL) (Obj.cells (aD p) 38));go_enter func64,ntmps64;go_upto_region 1 with fail
 change Code.wp _ _ _ _ (w.alloc (.cells (aD p) 38));generalize w.alloc (.cells (aD p) 38)=wa at*;obtain⟨_,_,_,_,_,_,_,d24⟩:=aR B0.out;by_cases h1:p.kn=1
 ·obtain⟨b,off,k,hA,hb,hx,hm,hrg⟩:=W.out.sr.row (i:=0) (by omega);have RG:=qD (bD hrg BE.out hb);have HM:=qD hm
  have HAND:Hid (oO (p.kids.map (dW l))=dW l k):=by
   obtain⟨y,hy⟩:=MH.1 (show p.kids.length=1 by have:=HKN.out;omega);rw[hy] at hx ⊢;obtain rfl:y=k:=by simpa using hx
   rfl
  rw[Ll,MG] at RG;rw[hA,h1] at d24;clear hrg hx hm hA
  go_wp2_with (first
   | ((with_reducible show wpList _ _ _ (⟨_,.load 38 _,_,_,_,_⟩::_) _ _);refine aE rfl 38 _ rfl b off rfl _ _ RG.out KH rfl (by kernel_rfl) ?_)
   | (go_at_call 22;refine(IH.out k HM.out _ BE.out).mono ?_;rintro e w1 ⟨A3,m3,c3,ys,nf,rfl,hy,hnf,hmk,hsi,hb3,hfr⟩;have HNO:=qD (show dD (dW l k) p.sz _ (.returned (.tuple #[.slice A3 m3 c3,.bool (dW l k).2])) w1 from⟨A3,m3,c3,ys,nf,rfl,hy,hnf,hmk,hsi,hb3,hfr⟩);clear hy hnf hmk hsi hb3 hfr))
  go_ret2;rw[HAND.out];exact HNO.out.up BE.out (qL)
 ·have HAND:Hid (oO (p.kids.map (dW l))=ej (p.kids.map (dW l))):=qD (zR (by rw[KX];have:=HKN.out;omega));have h1b:((p.kn:Int)==1)=false:=by simp;omega
  clear h1;go_upto_region 4 with fail
  go_loopw [7,8,9,25] (fun _ _ _ v wr=>∃i:Nat,i<=p.kn/\v=.int .i64 i/\ej (p.kids.map (dW l))=ej ((p.kids.drop i).map (dW l))/\Below w.heap.size w wr) (fun _ _ _ v _=>p.kn-(intOf v).toNat)
  ·exact⟨0,KD _,rfl,rfl,BE.out⟩
  case round=>
   obtain⟨i,hi,rfl,hf,hBE⟩:=hrel;clear B0 BE d24;have BE:=qD hBE;have HF:=qD hf;clear hf hBE;by_cases hlt:i<p.kn
   ·obtain⟨b,off,k,hA,hb,hx,hm,hrg⟩:=W.out.sr.row hlt;have RG:=qD (bD hrg BE.out hb);have HX:=qD (dX hx);have HM:=qD hm;have i0:(0:Int)<=(i:Int):=by omega
    have i1:(i:Int)<(p.kn:Int):=by omega
    rw[hA];clear hrg hx hm hA
    go_upto_region 6 with(first
     | ((with_reducible show wpList _ _ _ (⟨_,.load 38 _,_,_,_,_⟩::_) _ _);refine aE rfl 38 _ rfl b (off+i*25) rfl _ _ RG.out KH rfl (by kernel_rfl) ?_)
     | ((with_reducible show wpList _ _ _ (⟨_,.store 38 _ _,_,_,_,_⟩::_) _ _);refine LD rfl 38 _ _ rfl wr.heap.size (aD k) rfl rfl 38 _ (aG.Ii rfl) (by kernel_rfl) rfl (cZ k) ?_;refine cR ?_;intro w4 hw4;have JB:Hid (aG w4 wr.heap.size 38 (aD k)):=(by rw[Hid,hw4];exact bY (aG.Ii rfl) _);have BE4:Hid (Below w.heap.size w w4):=(by rw[Hid,hw4];exact bZ (BE.out.alloc BE.out.size _) BE.out.size _);clear hw4 BE RG))
    generalize wr.heap.size=gk at*;have RJ:=qD (ae JB.out);clear JB
    go_upto_region 7 with(first
     | ((with_reducible show wpList _ _ _ (⟨_,.load 38 _,_,_,_,_⟩::_) _ _);refine aE rfl 38 _ rfl gk 0 rfl _ _ RJ.out KH rfl (by kernel_rfl) ?_)
     | (go_at_call 22;refine(IH.out k HM.out _ BE4.out).mono ?_;rintro e w5 ⟨A3,m3,c3,ys,nf,rfl,hy,hnf,hmk,hsi,hb3,hfr⟩;have HY:=qD hy;have HNF:=qD hnf;have HMK:=qD hmk;have HSI:=qD hsi;have BE5:=qD (BE4.out.Ih hb3);have HFR:=qD (fun y hy=>(hfr y hy).low BE4.out.size);clear hy hnf hmk hsi hb3 hfr RJ BE4))
    obtain⟨ab,hab⟩:∃b,b=eK (dW l k).1:=⟨_,rfl⟩;have HIA:=qD (nC ys A3 m3 c3 w5 HSI.out HY.out HNF.out);rw[<-hab] at HIA;have HAB:=qD hab;clear hab;go_wp2_with fail;refine HIA.out.mono ?_;rintro e w6 ⟨rfl,hb⟩;have BE6:=qD (BE5.out.Ih hb);have HSI6:=qD (HSI.out.step hb);have HFR6:=qD (fun y hy=>(HFR.out y hy).step hb);clear hb HIA
    have HFC:Hid (ej (p.kids.map (dW l))=if ab then ej ((p.kids.drop (i+1)).map (dW l)) else((dW l k).1,false)):=by
     rw[Hid,HF.out,HX.out,Lv,uC,HAB.out]
    cases ab
    ·go_wp2_with fail;go_ret2;rw[HAND.out,HFC.out];exact⟨A3,m3,c3,ys,nf,rfl,HY.out,HNF.out,HMK.out,HSI6.out,BE6.out,HFR6.out⟩
    ·go_wp2_with fail;go_roundw
     ·exact⟨i+1,by omega,by go_num,(by simpa using HFC.out),BE6.out⟩
     ·simp[intOf];omega
   ·obtain rfl:i=p.kn:=by omega
    have HE:Hid (ej (p.kids.map (dW l))=(eD,false)):=by
     rw[Hid,HF.out,Kk (by have:=HKN.out;omega)];rfl
    go_wp2_with fail;refine(eW wr).mono ?_;rintro e w3 ⟨A3,m3,c3,ys,nf,rfl,hy,hnf,hmk,hsi,hb3,hfr⟩;have HNO:=qD (show dD (eD,false) 1 wr (.returned (.tuple #[.slice A3 m3 c3,.bool false])) w3 from⟨A3,m3,c3,ys,nf,rfl,hy,hnf,hmk,hsi,hb3,hfr⟩);clear hy hnf hmk hsi hb3 hfr;go_wp2_with fail;go_ret2;rw[HAND.out,HE.out];exact HNO.out.up BE.out HSZ.out
end
structure FH(l:List ByteArray)(p:aX)(w:World)(i m:Nat)(v:Value)(b:Bool)(xs:List PI)(wr:World):Prop where
 own:wr.ownsRow w.heap.size 85 12 v m (aO iz xs)
 ln:xs.length=m
 le:m<=aX.sz.szL (p.kids.take i)
 fr:∀x∈xs,RV (fun b=>w.heap.size<=b/\v.ownBlock≠some b) wr x.1.1.1 x.1.1.2/\RV (fun b=>w.heap.size<=b/\v.ownBlock≠some b) wr x.1.2.1 x.1.2.2
 set:∀a,ch aZ a (aU (xs.map cB))↔∃r∈(p.kids.take i).map (dW l),r.1 a
 no:∀r∈(p.kids.take i).map (dW l),eK r.1=false
 ex:b=((p.kids.take i).map (dW l)).all fun r=>r.2
 bel:Below w.heap.size w wr
section
variable {l r xs ys:List ByteArray} {b c k i n m lo size S:Nat} {a x y:Int} {w w' wr w3 w4:World} {A:Option Addr} {v v':Value}
theorem FH.step{l:List ByteArray}{p:aX}{w:World}{i m:Nat}{v:Value}{b:Bool}{xs:List PI}{wr w':World}(h:FH l p w i m v b xs wr)(hb:Below wr.heap.size wr w'):FH l p w i m v b xs w':=
 ⟨bJ h.own hb,h.ln,h.le,fun x hx=>⟨(h.fr x hx).1.step hb,(h.fr x hx).2.step hb⟩,h.set,h.no,h.ex,h.bel.Ih hb⟩
theorem oq{S:cy->Prop}{ys:List PI}{nf:List (cy×cy)}(hy:ys.map cB=nf.map fG)(hn:gd S nf)(a:cy):ch aZ a (aU (ys.map cB))↔S a:=by
 rw[hy,nP fun s hs=>hn.1.ne s hs,hn.2 a]
theorem qo{lo:Nat}{v v':Value}{w3 w4:World}{c:VC}{x:aC}(hr:RV (fun b=>lo<=b/\v.ownBlock≠some b) w3 c x)(hg:w3.grownBy w4 v.ownBlock)(hat:v'.ownBlock=v.ownBlock\/v'.ownBlock=some w3.heap.size):
 RV (fun b=>lo<=b/\v'.ownBlock≠some b) w4 c x:=hr.Il fun b hb hl=>by
 refine⟨⟨hb.1,fun e=>?_⟩,hg.block b hl (fun e=>hb.2 e.symm)⟩;rcases hat with h|h
 ·rw[h] at e;exact hb.2 e
 ·rw[h] at e;injection e with e;omega
theorem FH.next{l:List ByteArray}{p k:aX}{w:World}{i m m3:Nat}{v v':Value}{b b':Bool}{xs ys:List PI}{nf:List (cy×cy)}{w5 w6:World}(h:FH l p w i m v b xs w5)(hk:p.kids[i]?=some k)(hy:ys.map cB=nf.map fG)(hn:gd (dW l k).1 nf)(h3:ys.length=m3)(hm:m3<=k.sz)(hfr:∀y∈ys,RV (fun b=>w.heap.size<=b/\v.ownBlock≠some b) w5 y.1.1.1 y.1.1.2/\RV (fun b=>w.heap.size<=b/\v.ownBlock≠some b) w5 y.1.2.1 y.1.2.2)(hall:eK (dW l k).1=false)(hb':b'=(b&&(dW l k).2))(ho:w6.ownsRow w.heap.size 85 12 v' (m+m3) (aO iz xs++aO iz ys))(hg:w5.grownBy w6 v.ownBlock)(hat:v'.ownBlock=v.ownBlock\/v'.ownBlock=some w5.heap.size):FH l p w (i+1) (m+m3) v' b' (xs++ys) w6:=by
 have tk:p.kids.take (i+1)=p.kids.take i++[k]:=by rw[Le,hk];rfl
 refine⟨by rw[di];exact ho,by rw[KV,h.ln,h3],by rw[pS _ _ hk];have:=h.le;omega,fun x hx=>?_,fun a=>?_,fun r hr=>?_,?_,h.bel.grown hg h.bel.size (bF h.own)⟩
 ·have hx':RV (fun b=>w.heap.size<=b/\v.ownBlock≠some b) w5 x.1.1.1 x.1.1.2/\RV (fun b=>w.heap.size<=b/\v.ownBlock≠some b) w5 x.1.2.1 x.1.2.2:=by
   rcases KI.1 hx with hx|hx
   ·exact h.fr x hx
   ·exact hfr x hx
  exact⟨qo hx'.1 hg hat,qo hx'.2 hg hat⟩
 ·rw[Ke,pQ,fK,h.set a,oq hy hn a,tk,Ke];constructor
  ·rintro(⟨r,hr,ha⟩|ha)
   ·exact⟨r,List.mem_append_left _ hr,ha⟩
   ·exact⟨dW l k,by simp,ha⟩
  ·rintro⟨r,hr,ha⟩;rcases KI.1 hr with hr|hr
   ·exact .inl ⟨r,hr,ha⟩
   ·obtain rfl:r=dW l k:=by simpa using hr
    exact .inr ha
 ·rw[tk,Ke] at hr;rcases KI.1 hr with hr|hr
  ·exact h.no r hr
  ·obtain rfl:r=dW l k:=by simpa using hr
   exact hall
 ·rw[hb',h.ex,tk,Ke,NU];simp
theorem vw(xs:List PI):∀u∈aO iz xs,u.oneCell'=true:=by
 intro u hu;obtain⟨p,_,h⟩:=Lj.1 hu;exact vT p u h
theorem Dh{rs:List iW}{r:iW}(h:r∈rs)(ha:eK r.1=true):yp rs=(eD,false):=by
 unfold yp;rw[Kb (LW.2 ⟨r,h,ha⟩)]
theorem Bf{rs:List iW}(h:∀r∈rs,eK r.1=false):yp rs=(fun a=>∃r∈rs,r.1 a,rs.all fun r=>r.2):=by
 unfold yp;rw[KU];intro k;obtain⟨r,hr,ha⟩:=LW.1 k;rw[h r hr] at ha;exact absurd ha (by decide)
theorem Bg(p:aX)(ih:∀k∈p.kids,vv k)(A:Option Addr)(n c:Nat)(l:List ByteArray)(w:World)(hw:WP w p)(hk:∀k∈p.kids,kS k)(hT:cY w)(hl:ST w A n c l)(hz:p.sz<=300000000)(hne:p.kids≠[]):
 Calls prog 65 #[aW p,.slice A n c] w (dD (yp (p.kids.map (dW l))) p.sz w):=by
 obtain⟨j0,hj0,hy0,hy1,hy2⟩:=LM lL;have HT:=qD hT;have W:=qD hw.open;have HL:=qD hl
 have IH:Hid (∀k∈p.kids,∀wr,Below w.heap.size w wr->Calls prog 22 #[aW k,.slice A n c] wr (dD (dW l k) k.sz wr)):=qD fun k hkm wr hb=>by
  have hs:k.sz<=p.sz:=by rw[p.Ir];have:=xR hkm;omega
  exact ih k hkm A n c l wr ((W.out.kids k hkm).step hb) (hk k hkm) (HT.out.step hb) (HL.out.step hb) (by omega)
 have hkz:p.kn<=140737488355328:=by have:=W.out.ksz;unfold aH at this;omega
 have HKN:=qD W.out.sr.ln;have HSZ:Hid (aX.sz.szL p.kids+1<=p.sz):=by rw[Hid,p.Ir];omega
 have HZ:=qD hz
 have hk0:0<p.kn:=by
  have:=W.out.sr.ln;have h0:0<p.kids.length:=List.length_pos_iff.2 hne;omega
 clear hw hk hT hl hz ih hne;have B0:Hid (aG (w.alloc (.cells (aD p) 38)) w.heap.size 38 (aD p)):=aG.Ii rfl;have BE:=qD ((Ju w.heap.size w).alloc (qL) (Obj.cells (aD p) 38));go_enter func65,ntmps65;go_upto_region 1 with fail
 change Code.wp _ _ _ _ (w.alloc (.cells (aD p) 38));generalize w.alloc (.cells (aD p) 38)=wa at*;obtain⟨_,_,_,_,_,_,_,d24⟩:=aR B0.out;have h1b:((p.kn:Int)==0)=false:=by simp;omega
 clear hk0;go_upto_region 6 with fail
 go_loopw [6,7,9,10,11,20] (fun v6 v7 _ _ _ v wr=>∃(i m:Nat) (b:Bool) (xs:List PI),i<=p.kn/\v=.int .i64 i/\v7=.bool b/\FH l p w i m v6 b xs wr) (fun _ _ _ _ _ v _=>p.kn-(intOf v).toNat)
 case atStart=>
  refine⟨0,0,true,[],KD _,rfl,rfl,bX _ _ _ _,rfl,KD _,by simp,fun a=>?_,by simp,rfl,BE.out⟩;constructor
  ·rintro⟨s,hs,_⟩;simp[aU] at hs
  ·rintro⟨r,hr,_⟩;simp at hr
 case round=>
  obtain⟨i,m,bx,xs,hi,rfl,rfl,hI⟩:=hrel;clear B0 BE d24;have HI:=qD hI;obtain⟨A6,c6,rfl,hmc⟩:=cK hI.own
  have HM:Hid (m+1<=p.sz):=by
   have h1:=hI.le;have h2:=kR p.kids i;have h3:=HSZ.out;exact qD (by omega)
  clear hI;by_cases hlt:i<p.kn
  ·obtain⟨b,off,k,hA,hb,hx,hm,hrg⟩:=W.out.sr.row hlt;have RG:=qD (bD hrg HI.out.bel hb);have HX:=qD hx;have HMK:=qD hm
   have HMZ:Hid (m+k.sz<=300000000):=by
    have h1:=HI.out.le;have h2:=kR p.kids (i+1);rw[pS _ _ hx] at h2;have h3:=HSZ.out;have h4:=HZ.out;exact qD (by omega)
   have i0:(0:Int)<=(i:Int):=by omega
   have i1:(i:Int)<(p.kn:Int):=by omega
   rw[hA];clear hrg hx hm hA
   go_upto_region 8 with(first
    | ((with_reducible show wpList _ _ _ (⟨_,.load 38 _,_,_,_,_⟩::_) _ _);refine aE rfl 38 _ rfl b (off+i*25) rfl _ _ RG.out KH rfl (by kernel_rfl) ?_)
    | ((with_reducible show wpList _ _ _ (⟨_,.store 38 _ _,_,_,_,_⟩::_) _ _);refine LD rfl 38 _ _ rfl wr.heap.size (aD k) rfl rfl 38 _ (aG.Ii rfl) (by kernel_rfl) rfl (cZ k) ?_;refine cR ?_;intro w4 hw4;have JB:Hid (aG w4 wr.heap.size 38 (aD k)):=(by rw[Hid,hw4];exact bY (aG.Ii rfl) _);have BW4:Hid (Below wr.heap.size wr w4):=(by rw[Hid,hw4];exact bZ ((Ju _ _).alloc (qL) _) (qL) _);clear hw4 RG))
   replace HI:=qD (HI.out.step BW4.out);generalize wr.heap.size=gk at*;have RJ:=qD (ae JB.out);clear JB BW4
   go_upto_region 9 with(first
    | ((with_reducible show wpList _ _ _ (⟨_,.load 38 _,_,_,_,_⟩::_) _ _);refine aE rfl 38 _ rfl gk 0 rfl _ _ RJ.out KH rfl (by kernel_rfl) ?_)
    | (go_at_call 22;refine(IH.out k HMK.out _ HI.out.bel).mono ?_;rintro e w5 ⟨A3,m3,c3,ys,nf,rfl,hy,hnf,hmk,hsi,hb3,hfr⟩;have HY:=qD hy;have HNF:=qD hnf;have HM3:=qD hmk;have HSI:=qD hsi;have HB5:=qD hb3;have HFR:=qD hfr;clear hy hnf hmk hsi hb3 hfr RJ))
   have HOL:Hid (∀g,(Value.slice A6 m c6).ownBlock=some g->g<w4.heap.size):=qD fun g hg=>fH HI.out.own hg;have HW4:Hid (w.heap.size<=w4.heap.size):=qD HI.out.bel.size;replace HI:=qD (HI.out.step HB5.out);obtain⟨ab,hab⟩:∃b,b=eK (dW l k).1:=⟨_,rfl⟩;have HIA:=qD (nC ys A3 m3 c3 w5 HSI.out HY.out HNF.out);rw[<-hab] at HIA;have HAB:=qD hab;clear hab;go_wp2_with fail;refine HIA.out.mono ?_;rintro e w6 ⟨rfl,hb6⟩;replace HI:=qD (HI.out.step hb6);have HSI6:=qD (HSI.out.step hb6)
   have HFR6:Hid (∀y∈ys,RV (fun b=>w.heap.size<=b/\(Value.slice A6 m c6).ownBlock≠some b) w6 y.1.1.1 y.1.1.2/\RV (fun b=>w.heap.size<=b/\(Value.slice A6 m c6).ownBlock≠some b) w6 y.1.2.1 y.1.2.2):=qD fun y hy=>by
    have key:∀q,w4.heap.size<=q->w.heap.size<=q/\(Value.slice A6 m c6).ownBlock≠some q:=fun q hq=>⟨KM HW4.out hq,fun e=>by have:=HOL.out q e;omega⟩;exact⟨((HFR.out y hy).1.step hb6).mono key,((HFR.out y hy).2.step hb6).mono key⟩
   clear hb6 HIA HSI HFR HOL HW4 HB5;cases ab
   ·have hml:ys.length=m3:=HSI6.out.sr.ln.symm;have HML:=qD hml;have HRD:=qD HSI6.out.reads;have hm3:m3<=k.sz:=HM3.out;have hmz:=HMZ.out;have z1:m+m3<=maxLen:=by unfold maxLen;omega
    have z2:(m+m3)*168<=140737488355328:=by omega
    clear hml;cases bx
    all_goals
     go_wp2_with (at_builtin;refine aJ _ rfl _ _ 63 rfl w.heap.size 85 j0 (jf (((VC.zero,aC.zero),(VC.zero,aC.zero)),(false,false))) 12 168 underlying63 hj0 hy0 hy1 hy2 rfl (by decide) (.slice A6 m c6) m (aO iz xs) rfl HI.out.own _ _ m3 _ (aO iz ys) rfl HRD.out ?c1 z1 z2 HI.out.bel.size ?_)
     case c1=>exact vw _
     intro v7 w7 hown hgr hat
    ·have HN:=qD (HI.out.next (b':=false) HX.out HY.out HNF.out HML.out hm3 HFR6.out HAB.out.symm (OI _).symm hown hgr hat);clear hown hgr hat;go_wp2_with fail;go_roundw
     ·exact⟨i+1,m+m3,_,_,by omega,by go_num,rfl,HN.out⟩
     ·simp[intOf];omega
    ·have HN:=qD (HI.out.next (b':=(dW l k).2) HX.out HY.out HNF.out HML.out hm3 HFR6.out HAB.out.symm (Mt _).symm hown hgr hat);clear hown hgr hat;go_wp2_with fail;go_roundw
     ·exact⟨i+1,m+m3,_,_,by omega,by go_num,rfl,HN.out⟩
     ·simp[intOf];omega
   ·have HE:Hid (yp (p.kids.map (dW l))=(eD,false)):=qD (Dh (Ko HMK.out) HAB.out.symm);go_wp2_with fail;refine(eW w6).mono ?_;rintro e w3 ⟨A9,m9,c9,zs,nf9,rfl,hy,hnf,hmk,hsi,hb3,hfr⟩;have HNO:=qD (show dD (eD,false) 1 w6 (.returned (.tuple #[.slice A9 m9 c9,.bool false])) w3 from⟨A9,m9,c9,zs,nf9,rfl,hy,hnf,hmk,hsi,hb3,hfr⟩);clear hy hnf hmk hsi hb3 hfr;go_wp2_with fail;go_ret2;rw[HE.out];exact HNO.out.up HI.out.bel (by have:=HSZ.out;omega)
  ·obtain rfl:i=p.kn:=by omega
   have HTK:p.kids.take p.kn=p.kids:=KL (by have:=HKN.out;omega)
   have HE:Hid (yp (p.kids.map (dW l))=(fun a=>ch aZ a (aU (xs.map cB)),bx)):=by
    have h1:=HI.out.no;have h2:=HI.out.set;have h3:=HI.out.ex;rw[HTK] at h1 h2 h3;rw[Hid,Bf h1,<-h3];exact congrArg (fun s=>(s,bx)) (funext fun a=>propext (h2 a).symm)
   obtain⟨A7,c7,e7,hs7⟩:=SI.Ik HI.out.own HI.out.ln (by have h4:=HZ.out;have h5:=HM.out;unfold aH;omega) (fun x hx=>⟨(HI.out.fr x hx).1.mono fun _ _=>trivial,(HI.out.fr x hx).2.mono fun _ _=>trivial⟩);injection e7 with e7a _ e7c
   subst e7a e7c;have HSI:=qD hs7;have HMZ:Hid (m<=1000000000):=qD (by have h4:=HZ.out;have h5:=HM.out;omega);have BE:=qD HI.out.bel;clear hs7 HI HTK;go_wp2_with fail;refine(dj xs _ m _ wr (HT.out.step BE.out) HSI.out HMZ.out).mono ?_;rintro e w3 ⟨A9,m9,c9,zs,nf9,rfl,hy,hnf,hmk,hsi,hb3,hfr⟩;have HNO:=qD (show dD (fun a=>ch aZ a (aU (xs.map cB)),bx) m wr (.returned (.tuple #[.slice A9 m9 c9,.bool bx])) w3 from⟨A9,m9,c9,zs,nf9,rfl,hy,hnf,hmk,hsi,hb3,hfr⟩);clear hy hnf hmk hsi hb3 hfr;go_wp2_with fail;go_ret2;rw[HE.out];exact HNO.out.up BE.out (by have:=HM.out;omega)
end
structure Ap where
 name:ByteArray
 kind:Int
 kA:Option Addr
 kn:Nat
 kc:Nat
 ks:List Od
 uq:Bool
 sp:Bool
 pa:Bool
 wh:aX
def GP(x:Ap):List Value:=.string x.name::.int .i64 x.kind::.slice x.kA x.kn x.kc::.bool x.uq::.bool x.sp::.bool x.pa::aq x.wh
abbrev ng(x:Ap):Array Value:=(GP x).toArray
abbrev GQ(x:Ap):Value:=.agg (ng x)
structure IJ(w:World)(x:Ap):Prop where
 nsz:x.name.size<=aH
 ks:KS w x.kA x.kn x.kc x.ks
 wh:WP w x.wh
structure IT(w:World)(g:Nat)(x:Ap):Prop where
 d0:w.cell? ⟨g,0,none⟩=some (.string x.name)
 d1:w.cell? ⟨g,1,none⟩=some (.int .i64 x.kind)
 d2:w.cell? ⟨g,2,none⟩=some (.slice x.kA x.kn x.kc)
 d3:w.cell? ⟨g,3,none⟩=some (.bool x.uq)
 d4:w.cell? ⟨g,4,none⟩=some (.bool x.sp)
 d5:w.cell? ⟨g,5,none⟩=some (.bool x.pa)
section
variable {ys:List ByteArray} {b c g n off size:Nat} {x:Int} {w w1:World} {A:Option Addr} {F:Nat -> Prop} {t:TypeId}
theorem ig{w:World}{g:Nat}{t:TypeId}{x:Ap}(h:aG w g t (ng x)):IT w g x:=
 ⟨(h.cell 0).trans rfl,(h.cell 1).trans rfl,(h.cell 2).trans rfl,(h.cell 3).trans rfl,(h.cell 4).trans rfl,(h.cell 5).trans rfl⟩
theorem RV.JQ{F:Nat->Prop}{w:World}{g:Nat}(h0:0<g)(hg:∀off c,¬aS w g off c){x:aC}:∀{c:VC},RV F w c x->RV (fun b=>F b/\b≠g) w c x:=by
 induction x using aC.ind with
 | h k n t l d ihl ihd=>
  intro c h;have ho:=h.open;have hft:∀{b:Nat},Ft F w b->b≠g->Ft (fun b=>F b/\b≠g) w b:=fun hF hne=>⟨⟨hF.1,hne⟩,fun hn=>hF.2 fun hz=>hn ⟨hz,by omega⟩⟩;refine sK.shut ⟨ho.k,ho.n,ho.t,ho.tsz,ho.ln,ho.lc,ho.lsz,fun h'=>?_,ho.dn,ho.dc,ho.dsz,fun h'=>?_⟩
  ·obtain⟨b,off,e,hF,hl⟩:=ho.la h'
   have hb:b≠g:=by
    rintro rfl;obtain⟨y,hy⟩:∃y,l[0]?=some y:=⟨_,Jv (by have:=ho.ln;simp only[aC.l] at this;omega)⟩;obtain⟨e',he',_⟩:=hl 0 y hy;exact hg _ _ he'
   refine⟨b,off,e,hft hF hb,fun i y hi=>?_⟩;obtain⟨e',he',hr⟩:=hl i y hi;exact⟨e',he',ihl y (Jx hi) hr⟩
  ·obtain⟨b,off,e,hF,hl⟩:=ho.da h'
   have hb:b≠g:=by
    rintro rfl;obtain⟨y,hy⟩:∃y,d[0]?=some y:=⟨_,Jv (by have:=ho.dn;simp only[aC.d] at this;omega)⟩;obtain⟨_,_,e',he',_⟩:=hl 0 y hy;exact hg _ _ he'
   refine⟨b,off,e,hft hF hb,fun i f hi=>?_⟩;obtain⟨hs,hz,e',he',hr⟩:=hl i f hi;exact⟨hs,hz,e',he',ihd f (Jx hi) hr⟩
def uD(w:World)(g:Nat):Prop:=∀off v,w.cell? ⟨g,off,none⟩=some v->∃A n c,v=.slice A n c
theorem uD.no{w:World}{g:Nat}(h:uD w g)(off:Nat)(c:VC):¬aS w g off c:=by
 intro hv;obtain⟨A,n,k,e⟩:=h _ _ hv.1;cases e
theorem SI.Ip{w w1:World}{g:Nat}(h0:0<g)(hg:uD w g)(hk:∀b,b≠g->b<w.heap.size->w1.heap[b]?=w.heap[b]?)(hs:w.heap.size<=w1.heap.size){A:Option Addr}{n c:Nat}{ys:List PI}(h:SI w A n c ys):SI w1 A n c ys:=by
 refine⟨⟨h.sr.ln,h.sr.lc,fun hn=>?_⟩,h.sz,fun x hx=>?_⟩
 ·obtain⟨b,off,e,hl,hc⟩:=h.sr.el hn
  have hb:b≠g:=by
   rintro rfl;obtain⟨p,hp⟩:∃p,ys[0]?=some p:=⟨_,Jv (by have:=h.sr.ln;omega)⟩;obtain⟨A,n,k,e⟩:=hg _ _ (hc 0 p hp 0 _ rfl);cases e
  exact⟨b,off,e,by omega,fun i p hi j v hj=>by rw[Kh (hk b hb hl)];exact hc i p hi j v hj⟩
 ·obtain⟨h1,h2⟩:=h.ok x hx;have key:∀b,(True/\b≠g)->b<w.heap.size->True/\w1.heap[b]?=w.heap[b]?:=fun b hb hl=>⟨trivial,hk b hb.2 hl⟩;exact⟨(RV.JQ h0 hg.no h1).Il key,(RV.JQ h0 hg.no h2).Il key⟩
end
structure IL where
 A:Option Addr
 n:Nat
 c:Nat
 ys:List PI
def Bh(h:IL):List Value:=[.slice h.A h.n h.c]
def IL.nil:IL:=⟨none,0,0,[]⟩
structure BL(w:World)(A:Option Addr)(n c:Nat)(ls:List IL):Prop where
 sr:SR 1 Bh w A n c ls
 sz:n*24<=aH
 el:∀h∈ls,SI w h.A h.n h.c h.ys
structure Bi(S:cy->Prop)(k:Nat)(h:IL):Prop where
 nf:∃nf,h.ys.map cB=nf.map fG/\gd S nf
 le:h.ys.length<=k
structure Hk(Ss:List (cy->Prop))(k:Nat)(ls:List IL):Prop where
 ln:ls.length=Ss.length
 at_:∀(i:Nat) (S:cy->Prop) (h:IL),Ss[i]?=some S->ls[i]?=some h->Bi S k h
section
variable {l:List ByteArray} {c k o n B m size S:Nat} {a:Int} {w w':World} {A:Option Addr} {e:TypeId}
def aj(p:aX):List aX:=if p.op=20 then p.kids else [p]
def kC(l:List ByteArray)(ks:List aX):cy->Prop:=fun a=>eD a/\∀k∈ks,(dW l k).1 a
noncomputable def qM(kind:Int)(mu:Bool)(os:List Od)(p:aX):List (cy->Prop)×Bool:=
 if kind≠1 then(os.map fun _=>eD,false)
 else if mu then(os.map fun o=>(dW o.p p).1,(os.any fun o=>(dW o.p p).2)&&decide ((aj p).length=1))
 else(os.map fun o=>kC o.p (aj p),(aj p).all fun k=>os.any fun o=>(dW o.p k).2)
theorem vx{kind:Int}(h:kind≠1)(mu:Bool)(os:List Od)(p:aX):qM kind mu os p=(os.map fun _=>eD,false):=by unfold qM;rw[Kb h]
theorem vy(os:List Od)(p:aX):qM 1 true os p=(os.map fun o=>(dW o.p p).1,(os.any fun o=>(dW o.p p).2)&&decide ((aj p).length=1)):=by unfold qM;simp
theorem ot(os:List Od)(p:aX):qM 1 false os p=(os.map fun o=>kC o.p (aj p),(aj p).all fun k=>os.any fun o=>(dW o.p k).2):=by unfold qM;simp
def GS(r:List (cy->Prop)×Bool)(k:Nat)(w:World)(e:Ending)(w':World):Prop:=
 ∃(A:Option Addr) (n c:Nat) (ls:List IL),e=.returned (.tuple #[.slice A n c,.bool r.2])/\BL w' A n c ls/\Hk r.1 k ls/\Below w.heap.size w w'
theorem nD{p:aX}:aX.sz.szL (aj p)<=p.sz:=by
 unfold aj;split
 ·rw[p.Ir];omega
 ·simp[aX.sz.szL]
theorem qp{S T:cy->Prop}{l m:List (cy×cy)}(is js:List PI)(A B:Option Addr)(n c n' c':Nat)(w:World)(hT:cY w)(h:SI w A n c is)(h':SI w B n' c' js)(hl:is.map cB=l.map fG)(hm:js.map cB=m.map fG)(kl:gd S l)(km:gd T m)(hn:n<=400000000)(hn':n'<=400000000):
 Calls prog 128 #[.slice A n c,.slice B n' c'] w (oY (fun a=>S a/\T a) (n+n') w):=by
 refine(BJ is js A B n c n' c' w hT h h' hn hn').mono ?_;rintro e w' ⟨A3,m3,c3,zs,r,e1,e2,e3,e4,e5,e6⟩;exact⟨A3,m3,c3,zs,r,e1,e2,⟨e3.1,fun a=>(e3.2 a).trans (and_congr (oq hl kl a) (oq hm km a))⟩,e4,e5,e6⟩
theorem Bj{l:List ByteArray}:kC l []=eD:=by
 funext a;simp[kC]
theorem zT{l:List ByteArray}{ks:List aX}{k:aX}:kC l (ks++[k])=fun a=>kC l ks a/\(dW l k).1 a:=by
 funext a;simp only[kC,KI,Kf,eq_iff_iff];constructor
 ·rintro⟨h1,h2⟩;exact⟨⟨h1,fun x hx=>h2 x (.inl hx)⟩,h2 k (.inr rfl)⟩
 ·rintro⟨⟨h1,h2⟩,h3⟩;refine⟨h1,fun x hx=>?_⟩;rcases hx with hx|rfl
  ·exact h2 x hx
  ·exact h3
theorem ou(w:World):Calls prog 69 #[.int .i64 6] w fun e w'=>e=.returned (.tuple #[jf zI,.bool false])/\Below w.heap.size w w':=by
 go_enter func69,ntmps69;have B0:Hid (aG ((w.alloc (.cells (aa zI) 85)).alloc (.cells (aa (((bG 6 0 empty,gK 6),(bG 6 0 empty,gK 6)),(true,true))) 85)) w.heap.size 85 (aa zI)):=(aG.Ii rfl).alloc _;have BE:Hid (Below w.heap.size w ((w.alloc (.cells (aa zI) 85)).alloc (.cells (aa (((bG 6 0 empty,gK 6),(bG 6 0 empty,gK 6)),(true,true))) 85))):=((Ju _ _).alloc (qL) _).alloc (by simp) _;go_upto_region 2 with fail
 change Code.wp _ _ _ _ ((w.alloc (.cells (aa zI) 85)).alloc (.cells (aa (((bG 6 0 empty,gK 6),(bG 6 0 empty,gK 6)),(true,true))) 85));generalize ((w.alloc (.cells (aa zI) 85)).alloc (.cells (aa (((bG 6 0 empty,gK 6),(bG 6 0 empty,gK 6)),(true,true))) 85))=wa at*;have hmk:=BU wa;have hcv:=BV wa;go_upto_region 3 with fail
 change Code.wp _ _ _ _ ((wa.alloc (.cells dY 5)).alloc (.cells (bG 8 0 cf).arr 29));replace B0:=qD ((B0.out.alloc (.cells dY 5)).alloc (.cells (bG 8 0 cf).arr 29));replace BE:=qD ((BE.out.alloc BE.out.size (.cells dY 5)).alloc (by have:=BE.out.size;simp;omega) (Obj.cells (bG 8 0 cf).arr 29));clear hmk hcv;generalize ((wa.alloc (.cells dY 5)).alloc (.cells (bG 8 0 cf).arr 29))=wb at*;have HALL:Hid ((aa zI).all (·.oneCell')=true):=by rw[Hid];simp[Value.oneCell']
 go_wp2_with ((with_reducible show wpList _ _ _ (⟨_,.store 85 _ _,_,_,_,_⟩::_) _ _);refine LD rfl 85 _ _ rfl w.heap.size (aa zI) rfl rfl 85 _ B0.out (by kernel_rfl) rfl HALL.out ?_);exact Jz (cS rfl _ _ rfl _ rfl _ (aa zI) rfl (bY B0.out (aa zI))) rfl ⟨rfl,bZ BE.out (qL) _⟩
end
end Go.Proofs.YtgfoliedmhgpnaaGreatDoor
