/- A part of the proof. -/
import Derived.Test.YtgfoliedmhgpnaaGreatDoorBn21
set_option maxRecDepth 100000
set_option maxHeartbeats 16000000
set_option linter.unusedSimpArgs false
open Go.Proofs.Tryz
open ByteArray (empty)
namespace Go.Proofs.YtgfoliedmhgpnaaGreatDoor
open Go.RowKit
section
variable {b c n B m q size:Nat} {op a x op' d:Int} {w w':World} {A:Option Addr} {e:TypeId}
theorem pD{op:Int}{p:aX}(h:Lf op p)(ho:nz op)(w:World):Calls prog 130 #[aW p] w fun e w'=>e=.returned (.bool true)/\Below w.heap.size w w':=by
 have B0:Hid (aG (w.alloc (.cells (aD p) 38)) w.heap.size 38 (aD p)):=aG.Ii rfl;have BE:=qD ((Ju w.heap.size w).alloc (qL) (Obj.cells (aD p) 38));go_enter func130,ntmps130;go_upto_region 1 with fail
 change Code.wp _ _ _ _ (w.alloc (.cells (aD p) 38));generalize w.alloc (.cells (aD p) 38)=wa at*;have d0:=(aR B0.out).d0;have d24:=(aR B0.out).d24;rw[h.op_] at d0;rw[h.kn] at d24;clear h;rcases ho with rfl|rfl
 all_goals
  go_upto_region 6 with fail
  go_loopw [21] (fun v wr=>v=.int .i64 0/\wr=wa) (fun _ _=>0)
  ·exact⟨rfl,rfl⟩
  case round=>
   obtain⟨rfl,rfl⟩:=hrel;go_wp2_with fail;go_ret;exact⟨rfl,BE.out⟩
theorem zg{op op':Int}{p q:aX}(h:Lf op p)(h':Lf op' q)(hne:op≠op')(w:World):Calls prog 184 #[aW p,aW q] w fun e w'=>e=.returned (.bool false)/\Below w.heap.size w w':=by
 have B0:Hid (aG ((w.alloc (.cells (aD p) 38)).alloc (.cells (aD q) 38)) w.heap.size 38 (aD p)):=(aG.Ii rfl).alloc _;have B1:Hid (aG ((w.alloc (.cells (aD p) 38)).alloc (.cells (aD q) 38)) (w.heap.size+1) 38 (aD q)):=aG.Ii (by simp);have BE:Hid (Below w.heap.size w ((w.alloc (.cells (aD p) 38)).alloc (.cells (aD q) 38))):=((Ju _ _).alloc (qL) _).alloc (by simp) _;have hb:(op==op')=false:=by simpa using hne
 go_enter func184,ntmps184;go_upto_region 1 with fail
 change Code.wp _ _ _ _ ((w.alloc (.cells (aD p) 38)).alloc (.cells (aD q) 38));generalize (w.alloc (.cells (aD p) 38)).alloc (.cells (aD q) 38)=wa at*;have d0:=(aR B0.out).d0;have e0:=(aR B1.out).d0;rw[h.op_] at d0;rw[h'.op_] at e0;clear h h' hne;go_wp2_with fail;go_ret;exact⟨rfl,BE.out⟩
theorem mT{op op':Int}{p q:aX}(ho:nz op)(ho':nz op')(hne:op≠op')(hp:Lf op p)(hq:Lf op' q){Sp Sq:cy->Prop}{np nm:List (cy×cy)}(e1:dW [aP] p=(Sp,true))(e2:dW [aP] q=(Sq,true))(n1:gd Sp np)(n3:gd (fun a=>Sp a/\Sq a) nm)(h1:eK Sp=false)(b:Bool)(hb:b=true↔nm=np)(A:Option Addr)(c:Nat)(w:World)(hT:cY w)(hsr:SR 25 aq w A 1 c [p])(hwp:WP w p)(hwq:WP w q):
 Calls prog 132 #[.slice A 1 c,aW q] w fun e w'=>e=.returned (.bool b)/\Below w.heap.size w w':=by
 have HT:=qD hT;have HSR:=qD hsr;have HLP:=qD hp;have HLQ:=qD hq;have HO2:=qD ho';have HNE:=qD hne;have N1:=qD n1;have N3:=qD n3;have HA:=qD h1;have HB:=qD hb
 have HOQ:Hid (∀wr,Below w.heap.size w wr->Calls prog 22 #[aW q,.slice q.path.A q.path.n q.path.c] wr (dD (Sq,true) 1 wr)):=qD fun wr hb=>by
  have h:=nJ q q.path.A q.path.n q.path.c [aP] wr (hwq.step hb) (hq.JO ho') (hT.step hb) (by have:=(hwq.step hb).open.path;rwa [hq.xs] at this) (by rw[hq.sz];decide);rw[e2,hq.sz] at h;exact h
 have HOP:Hid (∀wr,Below w.heap.size w wr->Calls prog 22 #[aW p,.slice q.path.A q.path.n q.path.c] wr (dD (Sp,true) 1 wr)):=qD fun wr hb=>by
  have h:=nJ p q.path.A q.path.n q.path.c [aP] wr (hwp.step hb) (hp.JO ho) (hT.step hb) (by have:=(hwq.step hb).open.path;rwa [hq.xs] at this) (by rw[hp.sz];decide);rw[e1,hp.sz] at h;exact h
 have B0:Hid (aG (w.alloc (.cells (aD q) 38)) w.heap.size 38 (aD q)):=aG.Ii rfl;have BE:=qD ((Ju w.heap.size w).alloc (qL) (Obj.cells (aD q) 38));have hq1:(op'==1)=false:=by rcases ho' with rfl|rfl<;>decide
 clear hT hsr hp hq ho ho' hne n1 n3 h1 hb e1 e2 hwp hwq;go_enter func132,ntmps132;go_upto_region 1 with fail
 change Code.wp _ _ _ _ (w.alloc (.cells (aD q) 38));generalize w.alloc (.cells (aD q) 38)=wa at*;have d0:=(aR B0.out).d0;rw[HLQ.out.op_] at d0;go_upto_region 4 with fail
 clear d0
 go_loopw [18] (fun v wr=>∃i:Nat,i<=1/\v=.int .i64 i/\Below wa.heap.size wa wr) (fun v _=>1-(intOf v).toNat)
 ·exact⟨0,by omega,rfl,Ju _ _⟩
 case round=>
  obtain⟨i,hi,rfl,hbel⟩:=hrel;have I:=qD hbel;clear hbel;rcases LH i with h0|h0
  ·subst h0;obtain⟨b5,off5,k,hA5,hkb,hx,hm,hrg⟩:=(HSR.out.step (BE.out.Ih I.out)).row (i:=0) (by omega);obtain rfl:k=p:=by simpa using hx.symm
   have RG:=qD hrg;subst hA5;clear hx hm hrg hkb
   go_upto_region 6 with(first
    | ((with_reducible show wpList _ _ _ (⟨_,.load 38 _,_,_,_,_⟩::_) _ _);refine aE rfl 38 _ rfl b5 (off5+0*25) rfl _ _ RG.out KH rfl (by kernel_rfl) ?_)
    | ((with_reducible show wpList _ _ _ (⟨_,.store 38 _ _,_,_,_,_⟩::_) _ _);refine LD rfl 38 _ _ rfl wr.heap.size (aD k) rfl rfl 38 _ (aG.Ii rfl) (by kernel_rfl) rfl (cZ _) ?_;refine cR ?_;intro w4 hw4;have KB:Hid (aG w4 wr.heap.size 38 (aD k)):=(by rw[Hid,hw4];exact bY (aG.Ii rfl) _);have BW4:Hid (Below wr.heap.size wr w4):=(by rw[Hid,hw4];exact bZ ((Ju _ _).alloc (qL) _) (qL) _);clear hw4))
   have C0:=qD (B0.out.step (I.out.Ih BW4.out));have CE:=qD (I.out.Ih BW4.out);generalize wr.heap.size=gk at*;have R1:=qD (ae KB.out);have R2:=qD (ae C0.out);clear BW4 RG I
   go_wp2_with (first
    | ((with_reducible show wpList _ _ _ (⟨_,.load 38 _,_,_,_,_⟩::_) _ _);refine aE rfl 38 _ rfl gk 0 rfl _ _ R1.out KH rfl (by kernel_rfl) ?_)
    | ((with_reducible show wpList _ _ _ (⟨_,.load 38 _,_,_,_,_⟩::_) _ _);refine aE rfl 38 _ rfl w.heap.size 0 rfl _ _ R2.out KH rfl (by kernel_rfl) ?_)
    | (go_at_call 184;refine(zg HLP.out HLQ.out HNE.out _).mono ?_;rintro e w5 ⟨rfl,hb5⟩;have DE:=qD (CE.out.Ih hb5);clear hb5))
   go_roundw
   ·exact⟨1,by omega,by go_num,DE.out⟩
   ·simp[intOf]
  ·obtain rfl:i=1:=by omega
   have C0:=qD (B0.out.step I.out);have CE:=qD (BE.out.Ih I.out);have d0:=(aR C0.out).d0;rw[HLQ.out.op_] at d0;have d1:=(aR C0.out).d1;have R2:=qD (ae C0.out);clear I B0 BE
   go_upto_region 14 with(first
    | (go_at_call 185;refine(uw HO2.out _).mono ?_;rintro e w5 ⟨rfl,rfl⟩)
    | ((with_reducible show wpList _ _ _ (⟨_,.load 38 _,_,_,_,_⟩::_) _ _);refine aE rfl 38 _ rfl w.heap.size 0 rfl _ _ R2.out KH rfl (by kernel_rfl) ?_)
    | (go_at_call 22;refine(HOQ.out _ CE.out).mono ?_;rintro e w6 ⟨A3,m3,c3,zs,nq,rfl,hyq,hnq,hmq,hsq,hb6,_⟩))
   have D0:=qD (C0.out.step hb6);have DE:=qD (CE.out.Ih hb6);have HSQ:=qD hsq;have HYQ:=qD hyq;have HNQ:=qD hnq;have HMQ:=qD hmq;clear hyq hnq hmq hsq hb6 d0 d1 R2 C0 CE HOQ;go_upto_region 15 with fail
   go_loopw [41] (fun v w7=>∃i:Nat,i<=1/\v=.int .i64 i/\Below w6.heap.size w6 w7/\(i=1->b=false)) (fun v _=>1-(intOf v).toNat)
   ·exact⟨0,by omega,rfl,Ju _ _,fun h=>by omega⟩
   case round=>
    obtain⟨i,hi,rfl,hbel,hbf⟩:=hrel;have I:=qD hbel;clear hbel;rcases LH i with h0|h0
    ·subst h0;clear hbf;obtain⟨b5,off5,k,hA5,hkb,hx,hm,hrg⟩:=(HSR.out.step (DE.out.Ih I.out)).row (i:=0) (by omega);obtain rfl:k=p:=by simpa using hx.symm
     have RG:=qD hrg;subst hA5;clear hx hm hrg hkb
     go_upto_region 17 with(first
      | ((with_reducible show wpList _ _ _ (⟨_,.load 38 _,_,_,_,_⟩::_) _ _);refine aE rfl 38 _ rfl b5 (off5+0*25) rfl _ _ RG.out KH rfl (by kernel_rfl) ?_)
      | ((with_reducible show wpList _ _ _ (⟨_,.store 38 _ _,_,_,_,_⟩::_) _ _);refine LD rfl 38 _ _ rfl wr.heap.size (aD k) rfl rfl 38 _ (aG.Ii rfl) (by kernel_rfl) rfl (cZ _) ?_;refine cR ?_;intro w4 hw4;have KB:Hid (aG w4 wr.heap.size 38 (aD k)):=(by rw[Hid,hw4];exact bY (aG.Ii rfl) _);have BW4:Hid (Below wr.heap.size wr w4):=(by rw[Hid,hw4];exact bZ ((Ju _ _).alloc (qL) _) (qL) _);clear hw4))
     have E0:=qD (D0.out.step (I.out.Ih BW4.out));have X1:=qD (I.out.Ih BW4.out);have EE:=qD (DE.out.Ih (I.out.Ih BW4.out));have ESQ:=qD (HSQ.out.step (I.out.Ih BW4.out));generalize wr.heap.size=gk at*;have R1:=qD (ae KB.out);have d1:=(aR E0.out).d1;clear BW4 RG I HSQ D0 DE
     go_upto_region 18 with(first
      | ((with_reducible show wpList _ _ _ (⟨_,.load 38 _,_,_,_,_⟩::_) _ _);refine aE rfl 38 _ rfl gk 0 rfl _ _ R1.out KH rfl (by kernel_rfl) ?_)
      | (go_at_call 22;refine(HOP.out _ EE.out).mono ?_;rintro e w8 ⟨A4,m4,c4,ys,np',rfl,hyp,hnp,hmp,hsp,hb8,_⟩))
     have FE:=qD (EE.out.Ih hb8);have X2:=qD (X1.out.Ih hb8);have FSQ:=qD (ESQ.out.step hb8);have HSP:=qD hsp;have HNN:=qD hnp;have HYP:=qD hyp;have HMP:=qD hmp;clear hyp hnp hmp hsp hb8 R1 E0 EE ESQ d1 KB;have HIA:=qD (nC ys A4 m4 c4 w8 HSP.out HYP.out HNN.out);rw[HA.out] at HIA;go_wp2_with fail;refine HIA.out.mono ?_;rintro e w9 ⟨rfl,hb9⟩;have GE:=qD (FE.out.Ih hb9);have X3:=qD (X2.out.Ih hb9);have GSQ:=qD (FSQ.out.step hb9);have GSP:=qD (HSP.out.step hb9);clear hb9 HIA FE FSQ HSP;have HME:=qD (qp ys zs A4 A3 m4 c4 m3 c3 w9 (HT.out.step GE.out) GSP.out GSQ.out HYP.out HYQ.out HNN.out HNQ.out (KM HMP.out (by decide)) (KM HMQ.out (by decide)));go_wp2_with fail;refine HME.out.mono ?_;rintro e wB ⟨A5,m5,c5,xs,nm',rfl,hy5,hn5,hm5,hs5,hb5⟩;have JE:=qD (GE.out.Ih hb5);have X4:=qD (X3.out.Ih hb5);have JSP:=qD (GSP.out.step hb5);have HSI:=qD (nd xs ys A5 A4 m5 c5 m4 c4 wB hs5 JSP.out)
     have hval:cD (xs.map cB) (ys.map cB)=b:=by
      rw[hy5,HYP.out,hn5.unique N3.out fun _ _=>Iff.rfl,HNN.out.unique N1.out fun _ _=>Iff.rfl,Kc,jy (fun s hs=>(N3.out.1.ne s hs).2) (fun s hs=>(N1.out.1.ne s hs).2)];exact HB.out.symm
     rw[hval] at HSI;clear hy5 hn5 hm5 hs5 hb5 HME GE GSQ GSP hval HYP HNN HMP;go_wp2_with fail;refine HSI.out.mono ?_;rintro e wC ⟨rfl,hbC⟩;have KE:=qD (JE.out.Ih hbC);have X5:=qD (X4.out.Ih hbC);clear hbC HSI JE JSP X1 X2 X3 X4;cases b
     ·go_wp2_with fail;go_roundw
      ·exact⟨1,by omega,by go_num,X5.out,by simp⟩
      ·simp[intOf]
     ·go_wp2_with fail;go_ret;exact⟨rfl,KE.out⟩
    ·obtain rfl:i=1:=by omega
     have hbf:=hbf rfl;subst hbf;go_wp2_with fail;go_ret;exact⟨rfl,DE.out.Ih I.out⟩
theorem yd{op:Int}{w w':World}{e:Ending}(h:wS op w e w'):∃(A:Option Addr) (c:Nat) (xA kA:Option Addr),e=.returned (aW (cW op A c xA kA))/\ST w' A 1 c [aP]/\Below w.heap.size w w':=by
 obtain⟨b,off,c,xA,kA,e,hc,hn,_,hb⟩:=h;exact⟨_,c,xA,kA,e,yc hc hn,hb⟩
theorem uR{op:Int}(ho:nz op)(A:Option Addr)(c:Nat)(xA kA:Option Addr):aj (cW op A c xA kA)=[cW op A c xA kA]:=(df op A c xA kA).parts ho
theorem sf{op op':Int}(hh:(op=2/\op'=5)\/(op=5/\op'=2))(p q:aX)(hp:Lf op p)(hq:Lf op' q)(A:Option Addr)(c:Nat)(w:World)(hT:cY w)(hsr:SR 25 aq w A 1 c [p])(hwp:WP w p)(hwq:WP w q):
 Calls prog 132 #[.slice A 1 c,aW q] w fun e w'=>e=.returned (.bool (decide (op=2)))/\Below w.heap.size w w':=by
 rcases hh with⟨rfl,rfl⟩|⟨rfl,rfl⟩
 ·exact mT (.inl rfl) (.inr rfl) (by decide) hp hq hp.JR hq.Jd mS Du (qz mS zd) _ (by simp) A c w hT hsr hwp hwq
 ·exact mT (.inr rfl) (.inl rfl) (by decide) hp hq hp.Jd hq.JR Eo meet_pt' (qz Eo ze) _ ⟨fun h=>absurd h (by decide),fun h=>absurd h Bt⟩ A c w hT hsr hwp hwq
theorem mU{op op':Int}(hh:(op=2/\op'=5)\/(op=5/\op'=2))(A B:Option Addr)(c d:Nat)(w:World)(hT:cY w)(hN:Db w)(hl:ST w A 1 c [aP])(hl':ST w B 1 d [aP]):
 Calls prog 63 #[aW (cW op A c none none),aW (cW op' B d none none)] w fun e w'=>e=.returned (.bool (decide (op=2)))/\Below w.heap.size w w':=by
 have ho:nz op:=by rcases hh with⟨rfl,_⟩|⟨rfl,_⟩;exact .inl rfl;exact .inr rfl
 have ho':nz op':=by rcases hh with⟨_,rfl⟩|⟨_,rfl⟩;exact .inr rfl;exact .inl rfl
 have HT:=qD hT;have HN:=qD hN;have HL:=qD hl;have HL':=qD hl';have HO:=qD ho;have HO':=qD ho';have HH:=qD hh;have B0:Hid (aG ((w.alloc (.cells (aD (cW op A c none none)) 38)).alloc (.cells (aD (cW op' B d none none)) 38)) w.heap.size 38 (aD (cW op A c none none))):=(aG.Ii rfl).alloc _;have B1:Hid (aG ((w.alloc (.cells (aD (cW op A c none none)) 38)).alloc (.cells (aD (cW op' B d none none)) 38)) (w.heap.size+1) 38 (aD (cW op' B d none none))):=aG.Ii (by simp);have BE:Hid (Below w.heap.size w ((w.alloc (.cells (aD (cW op A c none none)) 38)).alloc (.cells (aD (cW op' B d none none)) 38))):=((Ju _ _).alloc (qL) _).alloc (by simp) _;obtain⟨rb,hrb⟩:∃b,b=decide (op=2):=⟨_,rfl⟩;rw[<-hrb];have HRB:=qD hrb;clear hT hN hl hl' ho ho' hh hrb;go_enter func63,ntmps63;go_upto_region 1 with fail
 change Code.wp _ _ _ _ ((w.alloc (.cells (aD (cW op A c none none)) 38)).alloc (.cells (aD (cW op' B d none none)) 38));generalize (w.alloc (.cells (aD (cW op A c none none)) 38)).alloc (.cells (aD (cW op' B d none none)) 38)=wa at*;have R0:=qD (ae B0.out);go_wp2_with ((with_reducible show wpList _ _ _ (⟨_,.load 38 _,_,_,_,_⟩::_) _ _);refine aE rfl 38 _ rfl w.heap.size 0 rfl _ _ R0.out KH rfl (by kernel_rfl) ?_);refine(pD (df op A c none none) HO.out _).mono ?_;rintro e w1 ⟨rfl,hb⟩;have C0:=qD (B0.out.step hb);have C1:=qD (B1.out.step hb);have CE:=qD (BE.out.Ih hb);clear hb R0 B0 B1 BE;have R1:=qD (ae C1.out);go_wp2_with ((with_reducible show wpList _ _ _ (⟨_,.load 38 _,_,_,_,_⟩::_) _ _);refine aE rfl 38 _ rfl (w.heap.size+1) 0 rfl _ _ R1.out KH rfl (by kernel_rfl) ?_);refine(pD (df op' B d none none) HO'.out _).mono ?_;rintro e w2 ⟨rfl,hb⟩;have B0:=qD (C0.out.step hb);have B1:=qD (C1.out.step hb);have BE:=qD (CE.out.Ih hb);clear hb R1 C0 C1 CE;have R0:=qD (ae B0.out);go_wp2_with ((with_reducible show wpList _ _ _ (⟨_,.load 38 _,_,_,_,_⟩::_) _ _);refine aE rfl 38 _ rfl w.heap.size 0 rfl _ _ R0.out KH rfl (by kernel_rfl) ?_);refine(ni HO.out A c _ (HT.out.step BE.out) (HN.out.step BE.out) (HL.out.step BE.out)).mono ?_;rintro e w3 hcp;obtain⟨A3,c3,xA,kA,rfl,hst,hb⟩:=yd hcp;have C1:=qD (B1.out.step hb);have CE:=qD (BE.out.Ih hb);have HS3:=qD hst;clear hb hst hcp R0 B0 B1 BE;go_wp2_with fail;refine(kt (cW op A3 c3 xA kA) w3 (kG HS3.out)).mono ?_
 rintro e w4 ⟨PA,pn,pc,rfl,hsr,_,hb⟩;rw[uR HO.out] at hsr;obtain rfl:pn=1:=hsr.ln;have D1:=qD (C1.out.step hb);have DE:=qD (CE.out.Ih hb);have HS4:=qD (HS3.out.step hb);have HP4:=qD hsr;clear hb hsr C1 CE HS3;have R1:=qD (ae D1.out);go_wp2_with ((with_reducible show wpList _ _ _ (⟨_,.load 38 _,_,_,_,_⟩::_) _ _);refine aE rfl 38 _ rfl (w.heap.size+1) 0 rfl _ _ R1.out KH rfl (by kernel_rfl) ?_);refine(ni HO'.out B d _ (HT.out.step DE.out) (HN.out.step DE.out) (HL'.out.step DE.out)).mono ?_;rintro e w5 hcp;obtain⟨A5,c5,yA,lA,rfl,hst,hb⟩:=yd hcp;have CE:=qD (DE.out.Ih hb);have HS5:=qD (HS4.out.step hb);have HP5:=qD (HP4.out.step hb);have HQ5:=qD hst;clear hb hst hcp R1 D1 DE HS4 HP4;go_wp2_with fail;refine(kt (cW op' A5 c5 yA lA) w5 (kG HQ5.out)).mono ?_;rintro e w6 ⟨QA,qn,qc,rfl,hsr,_,hb⟩;rw[uR HO'.out] at hsr;obtain rfl:qn=1:=hsr.ln;have DE:=qD (CE.out.Ih hb);have HS6:=qD (HS5.out.step hb);have HP6:=qD (HP5.out.step hb);have HQ6:=qD (HQ5.out.step hb);have HR6:=qD hsr;clear hb hsr CE HS5 HP5 HQ5;go_upto_region 5 with fail
 go_loopw [23] (fun v wr=>∃i:Nat,i<=1/\v=.int .i64 i/\Below w6.heap.size w6 wr/\(i=1->rb=true)) (fun v _=>1-(intOf v).toNat)
 ·exact⟨0,by omega,rfl,Ju _ _,fun h=>by omega⟩
 case round=>
  obtain⟨i,hi,rfl,hbel,hbf⟩:=hrel;have I:=qD hbel;clear hbel;rcases LH i with h0|h0
  ·subst h0;clear hbf;obtain⟨b5,off5,k,hA5,hkb,hx,hm,hrg⟩:=(HR6.out.step I.out).row (i:=0) (by omega);obtain rfl:k=cW op' A5 c5 yA lA:=by simpa using hx.symm
   have RG:=qD hrg;subst hA5;clear hx hm hrg hkb
   go_upto_region 7 with(first
    | ((with_reducible show wpList _ _ _ (⟨_,.load 38 _,_,_,_,_⟩::_) _ _);refine aE rfl 38 _ rfl b5 (off5+0*25) rfl _ _ RG.out KH rfl (by kernel_rfl) ?_)
    | ((with_reducible show wpList _ _ _ (⟨_,.store 38 _ _,_,_,_,_⟩::_) _ _);refine LD rfl 38 _ _ rfl wr.heap.size (aD (cW op' A5 c5 yA lA)) rfl rfl 38 _ (aG.Ii rfl) (by kernel_rfl) rfl (cZ _) ?_;refine cR ?_;intro w7 hw4;have KB:Hid (aG w7 wr.heap.size 38 (aD (cW op' A5 c5 yA lA))):=(by rw[Hid,hw4];exact bY (aG.Ii rfl) _);have BW4:Hid (Below wr.heap.size wr w7):=(by rw[Hid,hw4];exact bZ ((Ju _ _).alloc (qL) _) (qL) _);clear hw4))
   have X1:=qD (I.out.Ih BW4.out);generalize wr.heap.size=gk at*;have R1:=qD (ae KB.out);clear BW4 RG I;have HIM:=qD (sf HH.out (cW op A3 c3 xA kA) (cW op' A5 c5 yA lA) (df _ _ _ _ _) (df _ _ _ _ _) PA pc w7 (HT.out.step (DE.out.Ih X1.out)) (HP6.out.step X1.out) (kG (HS6.out.step X1.out)) (kG (HQ6.out.step X1.out)));rw[<-HRB.out] at HIM;go_wp2_with ((with_reducible show wpList _ _ _ (⟨_,.load 38 _,_,_,_,_⟩::_) _ _);refine aE rfl 38 _ rfl gk 0 rfl _ _ R1.out KH rfl (by kernel_rfl) ?_);refine HIM.out.mono ?_;rintro e w8 ⟨rfl,hb⟩;have X2:=qD (X1.out.Ih hb);clear hb HIM R1 KB X1;cases rb
   ·go_wp2_with fail;go_ret;exact⟨rfl,DE.out.Ih X2.out⟩
   ·go_wp2_with fail;go_roundw
    ·exact⟨1,by omega,by go_num,X2.out,by simp⟩
    ·simp[intOf]
  ·obtain rfl:i=1:=by omega
   have hbf:=hbf rfl;subst hbf;go_wp2_with fail;go_ret;exact⟨rfl,DE.out.Ih I.out⟩
def Bu(x:aC):Prop:=∀(c d:VC) (w:World),RW w c x->RW w d x->Calls prog 61 #[c.val,d.val] w fun e w'=>e=.returned (.bool true)/\Below w.heap.size w w'
theorem qP(L:List aC)(ih:∀x∈L,Bu x)(ps qs:List PV)(A B:Option Addr)(n c m d:Nat)(w:World)(h:SL (fun _=>True) w A n c ps)(h':SL (fun _=>True) w B m d qs)(hp:ps.map Prod.snd=L)(hq:qs.map Prod.snd=L):
 Calls prog 129 #[.slice A n c,.slice B m d] w fun e w'=>e=.returned (.bool true)/\Below w.heap.size w w':=by
 have hn1:n=L.length:=by rw[<-hp,KX];exact h.sr.ln
 have hn2:m=L.length:=by rw[<-hq,KX];exact h'.sr.ln
 obtain rfl:m=n:=by omega
 have hz:=h.sz;unfold aH at hz;have hz2:(m:Int)<=140737488355328:=by omega
 have P1:=qD h;have P2:=qD h';have HS1:=qD hp;have HS2:=qD hq;have HN1:=qD hn1;have IH:=qD ih;have mm:((m:Int) != (m:Int))=false:=by simp
 clear h h' hp hq hn1 hn2 ih hz;go_enter func129,ntmps129;go_wp2_with fail
 go_loopw [13] (fun v13 wr=>∃i:Nat,i<=m/\v13=.int .i64 i/\Below w.heap.size w wr) (fun v13 _=>m-(intOf v13).toNat)
 ·exact⟨0,KD _,rfl,Ju _ _⟩
 case round=>
  obtain⟨i,hi1,rfl,hbel⟩:=hrel;have HB:=qD hbel;by_cases hlt:i<m
  ·obtain⟨p,hp⟩:∃p,ps[i]?=some p:=⟨_,Jv (by have:=P1.out.sr.ln;omega)⟩;obtain⟨q,hq⟩:∃q,qs[i]?=some q:=⟨_,Jv (by have:=P2.out.sr.ln;omega)⟩;obtain⟨b1,o1,hA1,_,hu1,hr1⟩:=P1.out.Iq hp;obtain⟨b2,o2,hA2,_,hu2,hr2⟩:=P2.out.Iq hq;subst hA1 hA2;have g1:L[i]?=some p.2:=by rw[<-HS1.out,KP,hp];rfl
   have g2:L[i]?=some q.2:=by rw[<-HS2.out,KP,hq];rfl
   have hpq:q.2=p.2:=by rw[g1] at g2;exact(MW g2).symm
   rw[hpq] at hr2;obtain⟨y0,y1,y2,y3,y4⟩:=hu1.keep (hbel.block b1 hu1.lt);obtain⟨z0,z1,z2,z3,z4⟩:=hu2.keep (hbel.block b2 hu2.lt);have Y0:∀kk:BW wr,kk.val.cell? ⟨b1,o1+i*5,none⟩=some (.int .i64 p.1.k):=fun kk=>kk.cell y0;have Y1:∀kk:BW wr,kk.val.cell? ⟨b1,o1+i*5+1,none⟩=some (.int .i64 p.1.n):=fun kk=>kk.cell y1;have Y2:∀kk:BW wr,kk.val.cell? ⟨b1,o1+i*5+2,none⟩=some (.string p.1.t):=fun kk=>kk.cell y2;have Y3:∀kk:BW wr,kk.val.cell? ⟨b1,o1+i*5+3,none⟩=some (.slice p.1.LA p.1.ln p.1.lc):=fun kk=>kk.cell y3;have Y4:∀kk:BW wr,kk.val.cell? ⟨b1,o1+i*5+4,none⟩=some (.slice p.1.DA p.1.dn p.1.dc):=fun kk=>kk.cell y4;have Z0:∀kk:BW wr,kk.val.cell? ⟨b2,o2+i*5,none⟩=some (.int .i64 q.1.k):=fun kk=>kk.cell z0;have Z1:∀kk:BW wr,kk.val.cell? ⟨b2,o2+i*5+1,none⟩=some (.int .i64 q.1.n):=fun kk=>kk.cell z1;have Z2:∀kk:BW wr,kk.val.cell? ⟨b2,o2+i*5+2,none⟩=some (.string q.1.t):=fun kk=>kk.cell z2;have Z3:∀kk:BW wr,kk.val.cell? ⟨b2,o2+i*5+3,none⟩=some (.slice q.1.LA q.1.ln q.1.lc):=fun kk=>kk.cell z3;have Z4:∀kk:BW wr,kk.val.cell? ⟨b2,o2+i*5+4,none⟩=some (.slice q.1.DA q.1.dn q.1.dc):=fun kk=>kk.cell z4
   have K0:Hid (∀kk:BW wr,Calls prog 61 #[p.1.val,q.1.val] kk.val fun e w''=>e=.returned (.bool true)/\∃kk:BW wr,w''=kk.val):=fun kk=>
    Calls.bw (IH.out p.2 (Jx g1) p.1 q.1 kk.val ((hr1.step hbel).step kk.below) ((hr2.step hbel).step kk.below))
   have hi0:(0:Int)<=(i:Int):=by omega
   have hi3:(i:Int)<(m:Int):=by omega
   clear hp hq hu1 hu2 hr1 hr2 g1 g2 hpq hbel y0 y1 y2 y3 y4 z0 z1 z2 z3 z4;go_upto_region 6 with fail
   refine aM (by kernel_rfl) (by kernel_rfl) ?_
   repeat(go_big_quiet_step (with_reducible exact K0.out _))
   refine Kd ?_;rintro _ ⟨kw,rfl⟩;have HB2:=qD (HB.out.Ih kw.below);clear Y0 Y1 Y2 Y3 Y4 Z0 Z1 Z2 Z3 Z4 K0;generalize kw.val=w2 at*;go_wp2_with fail;go_roundw
   ·exact⟨i+1,by omega,by go_num,HB2.out⟩
   ·simp[intOf];omega
  ·obtain rfl:i=m:=by omega
   clear hbel;go_wp2_with fail;go_ret;exact⟨rfl,HB.out⟩
end
structure GY(w:World)(c d:VC)(wr:World):Prop where
 b0:aG wr w.heap.size 29 c.arr
 b1:aG wr (w.heap.size+1) 29 d.arr
 bel:Below w.heap.size w wr
section
variable {r xs ys:List ByteArray} {b c k i g o n off B m size:Nat} {a x y d:Int} {s:ByteArray} {w w' wr:World} {A:Option Addr} {e t:TypeId} {v:Value}
theorem GY.step{w wr w':World}{c d:VC}(h:GY w c d wr)(hb:Below wr.heap.size wr w'):GY w c d w':=⟨h.b0.step hb,h.b1.step hb,h.bel.Ih hb⟩
theorem jK:∀x,Bu x:=by
 intro x
 induction x using aC.ind with
 | h k n t l d ihl ihd=>
 intro c e w hx hy;obtain⟨ck,cn,ct,cLA,cln,clc,cDA,cdn,cdc⟩:=c;obtain⟨ek,en,et,eLA,eln,elc,eDA,edn,edc⟩:=e;have hk:ck=k:=hx.open.k;have hn:cn=n:=hx.open.n;have ht:ct=t:=hx.open.t;subst hk hn ht;have hk2:ek=ck:=hy.open.k;have hn2:en=cn:=hy.open.n;have ht2:et=ct:=hy.open.t;subst hk2 hn2 ht2;have hd1:cdn=d.length:=hx.open.dn;have hd2:edn=d.length:=hy.open.dn;obtain rfl:edn=cdn:=by omega
 have I0:Hid (GY w ⟨ek,en,et,cLA,cln,clc,cDA,edn,cdc⟩ ⟨ek,en,et,eLA,eln,elc,eDA,edn,edc⟩ ((w.alloc (.cells #[.int .i64 ek,.int .i64 en,.string et,.slice cLA cln clc,.slice cDA edn cdc] 29)).alloc (.cells #[.int .i64 ek,.int .i64 en,.string et,.slice eLA eln elc,.slice eDA edn edc] 29))):=
  qD ⟨(aG.Ii rfl).alloc _,aG.Ii (by simp),((Ju _ _).alloc (qL) _).alloc (by simp) _⟩
 obtain⟨ps,hps,hsl⟩:=hx.sl;obtain⟨qs,hqs,hql⟩:=hy.sl;obtain⟨fs,hfs,hfl⟩:=hx.sd;obtain⟨gs,hgs,hgl⟩:=hy.sd;simp only at hsl hql hfl hgl;have hz2:=hfl.sz;unfold aH at hz2;have hz3:(edn:Int)<=140737488355328:=by omega
 have hps':ps.map Prod.snd=l:=hps;have hqs':qs.map Prod.snd=l:=hqs;have HLI:=qD fun(wr:World) (hb:Below w.heap.size w wr)=>qP l ihl ps qs cLA eLA cln clc eln elc wr (hsl.step hb) (hql.step hb) hps' hqs';have Q1:=qD hfl;have Q2:=qD hgl;have HT1:Hid (fs.map Prod.snd=d):=hfs;have HT2:Hid (gs.map Prod.snd=d):=hgs;have ID:=qD ihd;have a1:(ek != ek)=false:=by simp
 have a2:(en != en)=false:=by simp
 have a3:(et.toList==et.toList)=true:=by simp
 have a4:((edn:Int) != (edn:Int))=false:=by simp
 clear hx hy ihl ihd hsl hql hps hqs hps' hqs' hfl hgl hfs hgs hd1 hd2 hz2;go_enter func61,ntmps61;go_wp2_with fail
 go_loopw [37] (fun v wr=>∃i:Nat,i<=edn/\v=.int .i64 i/\GY w ⟨ek,en,et,cLA,cln,clc,cDA,edn,cdc⟩ ⟨ek,en,et,eLA,eln,elc,eDA,edn,edc⟩ wr) (fun v _=>edn-(intOf v).toNat)
 ·exact⟨0,KD _,rfl,I0.out⟩
 case round=>
  obtain⟨i,hi1,rfl,I⟩:=hrel;have J:=qD I;by_cases hlt:i<edn
  ·obtain⟨p,hp⟩:∃p,fs[i]?=some p:=⟨_,Jv (by have:=Q1.out.sr.ln;omega)⟩;obtain⟨q,hq⟩:∃q,gs[i]?=some q:=⟨_,Jv (by have:=Q2.out.sr.ln;omega)⟩;obtain⟨b1,o1,hA1,_,hs1,hu1,hr1⟩:=Q1.out.Iq hp;obtain⟨b2,o2,hA2,_,hs2,hu2,hr2⟩:=Q2.out.Iq hq;subst hA1 hA2;have g1:d[i]?=some p.2:=by rw[<-HT1.out,KP,hp];rfl
   have g2:d[i]?=some q.2:=by rw[<-HT2.out,KP,hq];rfl
   have hpq:q.2=p.2:=by rw[g1] at g2;exact(MW g2).symm
   rw[hpq] at hr2 hs2;obtain⟨y0,y1,y2,y3,y4⟩:=hu1.keep (I.bel.block b1 hu1.lt);obtain⟨z0,z1,z2,z3,z4⟩:=hu2.keep (I.bel.block b2 hu2.lt);have n0:=(I.bel.cell (p:=⟨b1,o1+i*6,none⟩) hu1.lt).trans hs1;have n1:=(I.bel.cell (p:=⟨b2,o2+i*6,none⟩) hu2.lt).trans hs2;have N0:∀kk:BW wr,kk.val.cell? ⟨b1,o1+i*6,none⟩=some (.string p.2.s):=fun kk=>kk.cell n0;have N1:∀kk:BW wr,kk.val.cell? ⟨b2,o2+i*6,none⟩=some (.string p.2.s):=fun kk=>kk.cell n1;have E0:∀kk:BW wr,kk.val.cell? ⟨w.heap.size,4,none⟩=some (.slice (some ⟨b1,o1,none⟩) edn cdc):=fun kk=>kk.cell (J.out.b0.cell 4);have E1:∀kk:BW wr,kk.val.cell? ⟨w.heap.size+1,4,none⟩=some (.slice (some ⟨b2,o2,none⟩) edn edc):=fun kk=>kk.cell (J.out.b1.cell 4);have Y0:∀kk:BW wr,kk.val.cell? ⟨b1,o1+i*6+1,none⟩=some (.int .i64 p.1.k):=fun kk=>kk.cell y0;have Y1:∀kk:BW wr,kk.val.cell? ⟨b1,o1+i*6+1+1,none⟩=some (.int .i64 p.1.n):=fun kk=>kk.cell y1;have Y2:∀kk:BW wr,kk.val.cell? ⟨b1,o1+i*6+1+2,none⟩=some (.string p.1.t):=fun kk=>kk.cell y2;have Y3:∀kk:BW wr,kk.val.cell? ⟨b1,o1+i*6+1+3,none⟩=some (.slice p.1.LA p.1.ln p.1.lc):=fun kk=>kk.cell y3;have Y4:∀kk:BW wr,kk.val.cell? ⟨b1,o1+i*6+1+4,none⟩=some (.slice p.1.DA p.1.dn p.1.dc):=fun kk=>kk.cell y4;have Z0:∀kk:BW wr,kk.val.cell? ⟨b2,o2+i*6+1,none⟩=some (.int .i64 q.1.k):=fun kk=>kk.cell z0;have Z1:∀kk:BW wr,kk.val.cell? ⟨b2,o2+i*6+1+1,none⟩=some (.int .i64 q.1.n):=fun kk=>kk.cell z1;have Z2:∀kk:BW wr,kk.val.cell? ⟨b2,o2+i*6+1+2,none⟩=some (.string q.1.t):=fun kk=>kk.cell z2
   have Z3:∀kk:BW wr,kk.val.cell? ⟨b2,o2+i*6+1+3,none⟩=some (.slice q.1.LA q.1.ln q.1.lc):=fun kk=>kk.cell z3;have Z4:∀kk:BW wr,kk.val.cell? ⟨b2,o2+i*6+1+4,none⟩=some (.slice q.1.DA q.1.dn q.1.dc):=fun kk=>kk.cell z4
   have K0:Hid (∀kk:BW wr,Calls prog 61 #[p.1.val,q.1.val] kk.val fun e w''=>e=.returned (.bool true)/\∃kk:BW wr,w''=kk.val):=fun kk=>
    Calls.bw (ID.out p.2 (Jx g1) p.1 q.1 kk.val ((hr1.step I.bel).step kk.below) ((hr2.step I.bel).step kk.below))
   have hi0:(0:Int)<=(i:Int):=by omega
   have hi3:(i:Int)<(edn:Int):=by omega
   have nn:(p.2.s.toList==p.2.s.toList)=true:=by simp
   clear hp hq hu1 hu2 hr1 hr2 g1 g2 hpq I hs1 hs2 n0 n1 y0 y1 y2 y3 y4 z0 z1 z2 z3 z4;go_upto_region 6 with fail
   refine aM (by kernel_rfl) (by kernel_rfl) ?_
   repeat(go_big_quiet_step (with_reducible exact K0.out _))
   refine Kd ?_;rintro _ ⟨kw,rfl⟩;have J2:=qD (J.out.step kw.below);clear E0 E1 N0 N1 Y0 Y1 Y2 Y3 Y4 Z0 Z1 Z2 Z3 Z4 K0;generalize kw.val=w2 at*;go_wp2_with fail;go_roundw
   ·exact⟨i+1,by omega,by go_num,J2.out⟩
   ·simp[intOf];omega
  ·obtain rfl:i=edn:=by omega
   have q0:=I.b0.cell 3;have q1:=I.b1.cell 3;have r0:=I.b0.cell 4;simp at q0 q1 r0;clear I;go_wp2_with fail;refine(HLI.out _ J.out.bel).mono ?_;rintro e w5 ⟨rfl,hb⟩;have CE:=qD (J.out.bel.Ih hb);clear hb q0 q1 r0;go_wp2_with fail;go_ret;exact⟨rfl,CE.out⟩
theorem sg(ys zs:List PI)(A B:Option Addr)(n m c d:Nat)(w:World)(h:SI w A n c ys)(h':SI w B m d zs)(heq:ys.map cB=zs.map cB):
 Calls prog 62 #[.slice A n c,.slice B m d] w fun e w'=>e=.returned (.bool true)/\Below w.heap.size w w':=by
 have hl:n=m:=by have h1:=h.sr.ln;have h2:=h'.sr.ln;have h3:=congrArg List.length heq;simp only[KX] at h3;omega
 subst hl;have H:=qD h;have H':=qD h';have HE:=qD heq;have HL:=qD h.sr.ln;have HL':=qD h'.sr.ln;have hz:=h.sz;unfold aH at hz;clear h h' heq;have hnn:((n:Int) != (n:Int))=false:=by simp
 go_enter func62,ntmps62;go_wp2_with fail
 go_loopw [13] (fun v5 wr=>∃i:Nat,i<=n/\v5=.int .i64 i/\Below w.heap.size w wr) (fun v5 _=>n-(intOf v5).toNat)
 ·exact⟨0,KD _,rfl,Ju _ _⟩
 case round=>
  obtain⟨i,hi,rfl,I⟩:=hrel;have J:=qD I;by_cases hlt:i<n
  ·obtain⟨p,hp⟩:∃p,ys[i]?=some p:=⟨_,Jv (by have:=HL.out;omega)⟩;obtain⟨q,hq⟩:∃q,zs[i]?=some q:=⟨_,Jv (by have:=HL'.out;omega)⟩
   have hpq:cB p=cB q:=by
    have h1:(ys.map cB)[i]?=some (cB p):=by rw[KP,hp];rfl
    have h2:(zs.map cB)[i]?=some (cB q):=by rw[KP,hq];rfl
    rw[HE.out,h2] at h1;exact(MW h1).symm
   have e1:q.1.1.2=p.1.1.2:=(congrArg Iv.lo hpq).symm;have e2:q.1.2.2=p.1.2.2:=(congrArg Iv.hi hpq).symm;have e3:q.2.1=p.2.1:=(congrArg Iv.li hpq).symm;have e4:q.2.2=p.2.2:=(congrArg Iv.hin hpq).symm;obtain⟨b,off,rfl,hbl,hat,hok⟩:=H.out.at hp;obtain⟨b',off',rfl,hbl',hat',hok'⟩:=H'.out.at hq;obtain⟨⟨p0,p1,p2,p3,p4⟩,⟨q0,q1,q2,q3,q4⟩,r0,r1⟩:=hat.keep (I.block b hbl);obtain⟨⟨s0,s1,s2,s3,s4⟩,⟨t0,t1,t2,t3,t4⟩,x0,x1⟩:=hat'.keep (I.block b' hbl');rw[e3] at x0;rw[e4] at x1;have P0:∀k:BW wr,k.val.cell? ⟨b,off+i*12,none⟩=some (.int .i64 p.1.1.1.k):=fun k=>k.cell p0;have P1:∀k:BW wr,k.val.cell? ⟨b,off+i*12+1,none⟩=some (.int .i64 p.1.1.1.n):=fun k=>k.cell p1;have P2:∀k:BW wr,k.val.cell? ⟨b,off+i*12+2,none⟩=some (.string p.1.1.1.t):=fun k=>k.cell p2;have P3:∀k:BW wr,k.val.cell? ⟨b,off+i*12+3,none⟩=some (.slice p.1.1.1.LA p.1.1.1.ln p.1.1.1.lc):=fun k=>k.cell p3;have P4:∀k:BW wr,k.val.cell? ⟨b,off+i*12+4,none⟩=some (.slice p.1.1.1.DA p.1.1.1.dn p.1.1.1.dc):=fun k=>k.cell p4;have Q0:∀k:BW wr,k.val.cell? ⟨b,off+i*12+5,none⟩=some (.int .i64 p.1.2.1.k):=fun k=>k.cell q0;have Q1:∀k:BW wr,k.val.cell? ⟨b,off+i*12+5+1,none⟩=some (.int .i64 p.1.2.1.n):=fun k=>k.cell q1;have Q2:∀k:BW wr,k.val.cell? ⟨b,off+i*12+5+2,none⟩=some (.string p.1.2.1.t):=fun k=>k.cell q2;have Q3:∀k:BW wr,k.val.cell? ⟨b,off+i*12+5+3,none⟩=some (.slice p.1.2.1.LA p.1.2.1.ln p.1.2.1.lc):=fun k=>k.cell q3;have Q4:∀k:BW wr,k.val.cell? ⟨b,off+i*12+5+4,none⟩=some (.slice p.1.2.1.DA p.1.2.1.dn p.1.2.1.dc):=fun k=>k.cell q4
   have S0:∀k:BW wr,k.val.cell? ⟨b',off'+i*12,none⟩=some (.int .i64 q.1.1.1.k):=fun k=>k.cell s0;have S1:∀k:BW wr,k.val.cell? ⟨b',off'+i*12+1,none⟩=some (.int .i64 q.1.1.1.n):=fun k=>k.cell s1;have S2:∀k:BW wr,k.val.cell? ⟨b',off'+i*12+2,none⟩=some (.string q.1.1.1.t):=fun k=>k.cell s2;have S3:∀k:BW wr,k.val.cell? ⟨b',off'+i*12+3,none⟩=some (.slice q.1.1.1.LA q.1.1.1.ln q.1.1.1.lc):=fun k=>k.cell s3;have S4:∀k:BW wr,k.val.cell? ⟨b',off'+i*12+4,none⟩=some (.slice q.1.1.1.DA q.1.1.1.dn q.1.1.1.dc):=fun k=>k.cell s4;have T0:∀k:BW wr,k.val.cell? ⟨b',off'+i*12+5,none⟩=some (.int .i64 q.1.2.1.k):=fun k=>k.cell t0;have T1:∀k:BW wr,k.val.cell? ⟨b',off'+i*12+5+1,none⟩=some (.int .i64 q.1.2.1.n):=fun k=>k.cell t1;have T2:∀k:BW wr,k.val.cell? ⟨b',off'+i*12+5+2,none⟩=some (.string q.1.2.1.t):=fun k=>k.cell t2;have T3:∀k:BW wr,k.val.cell? ⟨b',off'+i*12+5+3,none⟩=some (.slice q.1.2.1.LA q.1.2.1.ln q.1.2.1.lc):=fun k=>k.cell t3;have T4:∀k:BW wr,k.val.cell? ⟨b',off'+i*12+5+4,none⟩=some (.slice q.1.2.1.DA q.1.2.1.dn q.1.2.1.dc):=fun k=>k.cell t4;have R0:∀k:BW wr,k.val.cell? ⟨b,off+i*12+10,none⟩=some (.bool p.2.1):=fun k=>k.cell r0;have R1:∀k:BW wr,k.val.cell? ⟨b,off+i*12+11,none⟩=some (.bool p.2.2):=fun k=>k.cell r1;have X0:∀k:BW wr,k.val.cell? ⟨b',off'+i*12+10,none⟩=some (.bool p.2.1):=fun k=>k.cell x0;have X1:∀k:BW wr,k.val.cell? ⟨b',off'+i*12+11,none⟩=some (.bool p.2.2):=fun k=>k.cell x1;have i0:(0:Int)<=(i:Int):=by omega
   have i1:(i:Int)<(n:Int):=by omega
   have b1:(p.2.1 != p.2.1)=false:=by simp
   have b2:(p.2.2 != p.2.2)=false:=by simp
   have K1:Hid (∀k:BW wr,Calls prog 61 #[p.1.1.1.val,q.1.1.1.val] k.val fun e w''=>e=.returned (.bool true)/\∃k:BW wr,w''=k.val):=fun k=>
    Calls.bw (jK p.1.1.2 p.1.1.1 q.1.1.1 k.val ((hok.step I).1.step k.below) (by rw[<-e1];exact(hok'.step I).1.step k.below))
   have K2:Hid (∀k:BW wr,Calls prog 61 #[p.1.2.1.val,q.1.2.1.val] k.val fun e w''=>e=.returned (.bool true)/\∃k:BW wr,w''=k.val):=fun k=>
    Calls.bw (jK p.1.2.2 p.1.2.1 q.1.2.1 k.val ((hok.step I).2.step k.below) (by rw[<-e2];exact(hok'.step I).2.step k.below))
   clear p0 p1 p2 p3 p4 q0 q1 q2 q3 q4 r0 r1 s0 s1 s2 s3 s4 t0 t1 t2 t3 t4 x0 x1 e1 e2 e3 e4 hp hq hpq hat hat' hok hok' I hbl hbl';go_upto_region 6 with fail
   refine aM (by kernel_rfl) (by kernel_rfl) ?_
   repeat(go_big_quiet_step (first|(with_reducible exact K1.out _)|(with_reducible exact K2.out _)))
   refine Kd ?_;rintro _ ⟨kw,rfl⟩;have J2:=qD (J.out.Ih kw.below);clear P0 P1 P2 P3 P4 Q0 Q1 Q2 Q3 Q4 R0 R1 S0 S1 S2 S3 S4 T0 T1 T2 T3 T4 X0 X1 K1 K2 i0 i1 b1 b2;generalize kw.val=w2 at*;go_wp2_with fail;go_roundw
   ·exact⟨i+1,by omega,by go_num,J2.out⟩
   ·simp[intOf];omega
  ·clear I;go_wp2_with fail;go_ret;exact⟨rfl,J.out⟩
abbrev jg(op:Int)(g:Nat):aX:=cW op (some ⟨g,0,none⟩) 1 none none
abbrev wT(g k:Nat):aX:=.mk 20 .nil (VC.zero,aC.zero) .nil 0 0 0 .nil 0 dI.zero (some ⟨k,0,none⟩) 2 2 [jg 2 g,jg 5 g]
abbrev Ha(o:Nat):Ap:=⟨⟨#[120]⟩,1,some ⟨o,0,none⟩,1,1,[⟨[aP],false⟩],false,false,false,aX.zero⟩
theorem Bv(g k:Nat):kS (wT g k):=by
 refine vd.shut ⟨fun h=>?_,fun h=>?_,fun h=>?_,fun h=>?_,fun _=>by simp[aX.kids],fun h=>?_,by simp[aX.op],fun _=>?_⟩
 ·simp[aX.op] at h
 ·simp[aX.op] at h
 ·simp[aX.op] at h
 ·simp[aX.op] at h
 ·simp[aX.op] at h
 ·intro x hx;simp[aX.kids] at hx;rcases hx with rfl|rfl
  ·exact(df 2 _ _ _ _).JO (.inl rfl)
  ·exact(df 5 _ _ _ _).JO (.inr rfl)
theorem Dv(g k:Nat):(wT g k).sz=3:=by
 rw[aX.Ir];show 1+0+((jg 2 g).sz+((jg 5 g).sz+0))=3;rw[(df 2 _ _ _ _).sz,(df 5 _ _ _ _).sz]
theorem FV{w:World}{g k:Nat}(h:aG w k 38 (aq (jg 2 g)++aq (jg 5 g)).toArray):SR 25 aq w (some ⟨k,0,none⟩) 2 2 [jg 2 g,jg 5 g]:=by
 refine⟨rfl,qL,fun _=>⟨k,0,rfl,h.lt,fun i x hi j v hj=>?_⟩⟩;rw[Jw,h.cell,MN]
 match i,hi with
 | 0,hi=>
  simp at hi;subst hi;rw[Ll,Jw,Lc (KF.1 hj).1];exact hj
 | 1,hi=>
  simp at hi;subst hi;rw[Nat.one_mul,Kl (by rw[jG];omega),jG,Nat.add_sub_cancel_left];exact hj
 | i+2,hi=>simp at hi
theorem Dw{w:World}{g k:Nat}(h:aG w k 38 (aq (jg 2 g)++aq (jg 5 g)).toArray)(hs:ST w (some ⟨g,0,none⟩) 1 1 [aP]):WP w (wT g k):=by
 refine Dn.shut ⟨sZ,sa w,wR,KD _,SR.nil,uQ _,sb w none,FV h,by show 2*400<=aH;decide,fun x hx=>?_⟩;simp[aX.kids] at hx;rcases hx with rfl|rfl
 ·exact kG hs
 ·exact kG hs
theorem Dx(w:World):WP w aX.zero:=Dn.shut ⟨sZ,sa w,wR,KD _,SR.nil,uQ _,sb w none,SR.nil,uQ _,fun k hk=>by cases hk⟩
theorem Dy{w:World}{g o:Nat}(h:aG w o 70 #[.slice (some ⟨g,0,none⟩) 1 1,.bool false])(hs:ST w (some ⟨g,0,none⟩) 1 1 [aP]):IJ w (Ha o):=by
 refine⟨by show(⟨#[120]⟩:ByteArray).size<=aH;decide,⟨[⟨some ⟨g,0,none⟩,1,1,false⟩],⟨rfl,qL,fun _=>⟨o,0,rfl,h.lt,fun i x hi j v hj=>?_⟩⟩,by show 1*32<=aH;decide,rfl,fun i x q hx hq=>?_⟩,Dx w⟩
 ·match i,hi with
  | 0,hi=>
   simp at hi;subst hi;rw[Ll,Jw,h.cell]
   match j,hj with
   | 0,hj=>exact hj
   | 1,hj=>exact hj
   | j+2,hj=>simp[FQ] at hj
  | i+1,hi=>simp at hi
 ·match i,hx,hq with
  | 0,hx,hq=>
   simp at hx hq;subst hx;subst hq;exact⟨rfl,hs⟩
  | i+1,hx,_=>simp at hx
theorem Bw(g k:Nat):qM 1 false [⟨[aP],false⟩] (wT g k)=([kC [aP] [jg 2 g,jg 5 g]],true):=by
 rw[ot];have h:aj (wT g k)=[jg 2 g,jg 5 g]:=by unfold aj;rw[Kb (show(wT g k).op=20 from rfl)];rfl
 rw[h];simp[(df 2 (some ⟨g,0,none⟩) 1 none none).JR,(df 5 (some ⟨g,0,none⟩) 1 none none).Jd]
theorem wU(A:Option Addr)(n c:Nat):Instr.fill (fun i=>some (i*25,25)) ((Array.range (2*25)).map ((aW aX.zero).cells[·%(aW aX.zero).cells.size]!)) [(0,.agg (aq (cW 2 A c none none)).toArray),(1,.agg (aq (cW 5 A n none none)).toArray)]=some (aq (cW 2 A c none none)++aq (cW 5 A n none none)).toArray:=by
 kernel_rfl
theorem uS{a:Act}{t u:Tmp}{A:Option Addr}{n c:Nat}(ht:a.eval (.tmp t)=.agg (aq (cW 2 A c none none)).toArray)(hu:a.eval (.tmp u)=.agg (aq (cW 5 A n none none)).toArray):
 Instr.fill (fun i=>some (i*25,25)) ((Array.range (2*25)).map ((aW aX.zero).cells[·%(aW aX.zero).cells.size]!)) ((#[(0,Operand.tmp t),(1,Operand.tmp u)]:Array (Nat×Operand)).map fun(i,x)=>(i,a.eval x)).toList=some (aq (cW 2 A c none none)++aq (cW 5 A n none none)).toArray:=by
 have h:((#[(0,Operand.tmp t),(1,Operand.tmp u)]:Array (Nat×Operand)).map fun(i,x)=>(i,a.eval x)).toList=[(0,.agg (aq (cW 2 A c none none)).toArray),(1,.agg (aq (cW 5 A n none none)).toArray)]:=by simp[ht,hu]
 rw[h];exact wU A n c
theorem Bx{w:World}{b off:Nat}(h:w.cell? ⟨b,off,none⟩=some (.string ⟨#[98]⟩)):ST w (some ⟨b,off,none⟩) 1 1 [bP]:=by
 refine⟨⟨rfl,qL,fun _=>⟨b,off,rfl,KY w _ h,fun i x hi j v hj=>?_⟩⟩,by decide,fun s hs=>by simp at hs;subst hs;decide⟩
 match i,j,hi,hj with
 | 0,0,hi,hj=>
  simp[bv] at hi hj;subst hi;subst hj;rw[Ll];exact h
 | 0,j+1,hi,hj=>simp[bv] at hj
 | i+1,_,hi,_=>simp at hi
theorem uT(w:World)(hT:cY w)(hN:Db w):Calls prog 21 #[] w fun e w'=>e=.returned (.bool true)/\Below w.heap.size w w':=by
 have HT:=qD hT;have HN:=qD hN;clear hT hN;go_enter func21,ntmps21;go_upto_region 3 with fail
 change Code.wp _ _ _ _ ((w.alloc (.cells #[.string ⟨#[97]⟩] 9)).alloc (.cells pq.arr 29));have B0:Hid (aG ((w.alloc (.cells #[.string ⟨#[97]⟩] 9)).alloc (.cells pq.arr 29)) w.heap.size 9 #[.string ⟨#[97]⟩]):=(aG.Ii rfl).alloc _;have B1:Hid (aG ((w.alloc (.cells #[.string ⟨#[97]⟩] 9)).alloc (.cells pq.arr 29)) (w.heap.size+1) 29 pq.arr):=aG.Ii (by simp);have BE:Hid (Below w.heap.size w ((w.alloc (.cells #[.string ⟨#[97]⟩] 9)).alloc (.cells pq.arr 29))):=((Ju _ _).alloc (qL) _).alloc (by simp) _;generalize (w.alloc (.cells #[.string ⟨#[97]⟩] 9)).alloc (.cells pq.arr 29)=wa at*;obtain⟨a0,a1,a2,a3,a4⟩:=aS.Ig B1.out;simp only[Jw] at a0 a1 a2 a3 a4
 go_cut [3,4] (fun v3 v4 wx=>∃g3 g4:Nat,v3=.pointer (some ⟨g3,0,none⟩)/\v4=.pointer (some ⟨g4,0,none⟩)/\aG wx g3 38 (aD (cW 2 (some ⟨w.heap.size,0,none⟩) 1 none none))/\aG wx g4 38 (aD (cW 5 (some ⟨w.heap.size,0,none⟩) 1 none none))/\Below wa.heap.size wa wx)
 case first=>
  have B:Hid (Below wa.heap.size wa wa.drew):=qD ((Ju wa.heap.size wa).drew);have KS:Hid (∀w',Below wa.heap.size wa w'->(fun w'=>w'.cell? ⟨w.heap.size+1,0,none⟩=some (.int .i64 3)/\w'.cell? ⟨w.heap.size+1,1,none⟩=some (.int .i64 1)/\w'.cell? ⟨w.heap.size+1,2,none⟩=some (.string empty)/\w'.cell? ⟨w.heap.size+1,3,none⟩=some (.slice none 0 0)/\w'.cell? ⟨w.heap.size+1,4,none⟩=some (.slice none 0 0)) w'):=qD fun w' hb=>⟨(hb.cell (p:=⟨w.heap.size+1,0,none⟩) B1.out.lt).trans a0,(hb.cell (p:=⟨w.heap.size+1,1,none⟩) B1.out.lt).trans a1,(hb.cell (p:=⟨w.heap.size+1,2,none⟩) B1.out.lt).trans a2,(hb.cell (p:=⟨w.heap.size+1,3,none⟩) B1.out.lt).trans a3,(hb.cell (p:=⟨w.heap.size+1,4,none⟩) B1.out.lt).trans a4⟩;clear a0 a1 a2 a3 a4;refine Kn ?_;refine Kg (S:=(fun w'=>w'.cell? ⟨w.heap.size+1,0,none⟩=some (.int .i64 3)/\w'.cell? ⟨w.heap.size+1,1,none⟩=some (.int .i64 1)/\w'.cell? ⟨w.heap.size+1,2,none⟩=some (.string empty)/\w'.cell? ⟨w.heap.size+1,3,none⟩=some (.slice none 0 0)/\w'.cell? ⟨w.heap.size+1,4,none⟩=some (.slice none 0 0))) (by kernel_rfl) ?_ (fun hHeld=>?_)
  ·(try dsimp only);exact KS.out _ B.out
  generalize wa.drew=v0 at*;refine rU 0 rfl ?_
  try go_frame
  refine rU 1 rfl ?_
  try go_frame
  refine rU 2 rfl ?_
  try go_frame
  refine rU 3 rfl ?_
  try go_frame
  refine rU 4 rfl ?_
  try go_frame
  refine rU 5 rfl ?_
  try go_frame
  refine rR [6,7] ?_;refine rC (fun K hK=>?_) (rC (fun K hK=>?_) rN)
  ·go_simp;have Q6:Hid (aG (v0.alloc (.cells (aD aX.zero) 38)) v0.heap.size 38 (aD aX.zero)):=aG.Ii rfl;have G6:Hid (wa.heap.size<=v0.heap.size):=qD B.out.size;replace B:=qD (B.out.alloc B.out.size (Obj.cells (aD aX.zero) 38));change K _ (v0.alloc (.cells (aD aX.zero) 38));generalize v0.alloc (.cells (aD aX.zero) 38)=v1 at*;generalize v0.heap.size=g6 at*;clear hHeld;refine hK.out _ _ (KS.out _ B.out) fun hHeld=>?_;clear hK K
   try go_frame
   refine rY 7 rfl fun K hK=>?_;go_simp;have Q7:Hid (aG (v1.alloc (.cells (aD aX.zero) 38)) v1.heap.size 38 (aD aX.zero)):=aG.Ii rfl;have HNE:Hid (g6≠v1.heap.size):=qD (by have:=Q6.out.lt;omega);replace Q6:=qD (Q6.out.alloc (.cells (aD aX.zero) 38));have G7:Hid (wa.heap.size<=v1.heap.size):=qD B.out.size;replace B:=qD (B.out.alloc B.out.size (Obj.cells (aD aX.zero) 38));change K _ (v1.alloc (.cells (aD aX.zero) 38));generalize v1.alloc (.cells (aD aX.zero) 38)=v2 at*;generalize v1.heap.size=g7 at*;clear hHeld;refine hK.out _ _ (KS.out _ B.out) fun hHeld=>?_;clear hK K
   try go_frame
   refine rY 8 rfl fun K hK=>?_;refine Oi 38 _ _ rfl g6 (aD (cW 2 (some ⟨w.heap.size,0,none⟩) 1 none none)) rfl rfl 38 _ Q6.out (by kernel_rfl) rfl (cZ _) ?_;have P6:Hid (aG (v2.setRow g6 (aD (cW 2 (some ⟨w.heap.size,0,none⟩) 1 none none))) g6 38 (aD (cW 2 (some ⟨w.heap.size,0,none⟩) 1 none none))):=qD (bY Q6.out _);replace Q7:=qD ((NJ v2 g6 g7 (aD (cW 2 (some ⟨w.heap.size,0,none⟩) 1 none none)) HNE.out.symm).trans Q7.out);replace B:=qD (bZ B.out G6.out (aD (cW 2 (some ⟨w.heap.size,0,none⟩) 1 none none)));change K _ (v2.setRow g6 (aD (cW 2 (some ⟨w.heap.size,0,none⟩) 1 none none)));generalize (v2.setRow g6 (aD (cW 2 (some ⟨w.heap.size,0,none⟩) 1 none none)))=v3 at*;clear Q6;clear hHeld;refine hK.out _ _ (KS.out _ B.out) fun hHeld=>?_;clear hK K
   try go_frame
   refine rY 9 rfl fun K hK=>?_;refine Oi 38 _ _ rfl g7 (aD (cW 5 (some ⟨w.heap.size,0,none⟩) 1 none none)) rfl rfl 38 _ Q7.out (by kernel_rfl) rfl (cZ _) ?_;have P7:Hid (aG (v3.setRow g7 (aD (cW 5 (some ⟨w.heap.size,0,none⟩) 1 none none))) g7 38 (aD (cW 5 (some ⟨w.heap.size,0,none⟩) 1 none none))):=qD (bY Q7.out _);replace P6:=qD ((NJ v3 g7 g6 (aD (cW 5 (some ⟨w.heap.size,0,none⟩) 1 none none)) HNE.out).trans P6.out);replace B:=qD (bZ B.out G7.out (aD (cW 5 (some ⟨w.heap.size,0,none⟩) 1 none none)));change K _ (v3.setRow g7 (aD (cW 5 (some ⟨w.heap.size,0,none⟩) 1 none none)));generalize (v3.setRow g7 (aD (cW 5 (some ⟨w.heap.size,0,none⟩) 1 none none)))=v4 at*;clear Q7;clear hHeld;refine hK.out _ _ (KS.out _ B.out) fun hHeld=>?_;clear hK K
   try go_frame
   refine rD ?_ _;refine Kq ?_;clear hHeld;go_wp2_with fail;go_meet;exact⟨g6,g7,rfl,rfl,P6.out,P7.out,B.out⟩
  ·go_simp;have Q7:Hid (aG (v0.alloc (.cells (aD aX.zero) 38)) v0.heap.size 38 (aD aX.zero)):=aG.Ii rfl;have G7:Hid (wa.heap.size<=v0.heap.size):=qD B.out.size;replace B:=qD (B.out.alloc B.out.size (Obj.cells (aD aX.zero) 38));change K _ (v0.alloc (.cells (aD aX.zero) 38));generalize v0.alloc (.cells (aD aX.zero) 38)=v5 at*;generalize v0.heap.size=g7 at*;clear hHeld;refine hK.out _ _ (KS.out _ B.out) fun hHeld=>?_;clear hK K
   try go_frame
   refine rY 6 rfl fun K hK=>?_;go_simp;have Q6:Hid (aG (v5.alloc (.cells (aD aX.zero) 38)) v5.heap.size 38 (aD aX.zero)):=aG.Ii rfl;have HNE:Hid (g7≠v5.heap.size):=qD (by have:=Q7.out.lt;omega);replace Q7:=qD (Q7.out.alloc (.cells (aD aX.zero) 38));have G6:Hid (wa.heap.size<=v5.heap.size):=qD B.out.size;replace B:=qD (B.out.alloc B.out.size (Obj.cells (aD aX.zero) 38));change K _ (v5.alloc (.cells (aD aX.zero) 38));generalize v5.alloc (.cells (aD aX.zero) 38)=v6 at*;generalize v5.heap.size=g6 at*;clear hHeld;refine hK.out _ _ (KS.out _ B.out) fun hHeld=>?_;clear hK K
   try go_frame
   refine rY 8 rfl fun K hK=>?_;refine Oi 38 _ _ rfl g6 (aD (cW 2 (some ⟨w.heap.size,0,none⟩) 1 none none)) rfl rfl 38 _ Q6.out (by kernel_rfl) rfl (cZ _) ?_;have P6:Hid (aG (v6.setRow g6 (aD (cW 2 (some ⟨w.heap.size,0,none⟩) 1 none none))) g6 38 (aD (cW 2 (some ⟨w.heap.size,0,none⟩) 1 none none))):=qD (bY Q6.out _);replace Q7:=qD ((NJ v6 g6 g7 (aD (cW 2 (some ⟨w.heap.size,0,none⟩) 1 none none)) HNE.out).trans Q7.out);replace B:=qD (bZ B.out G6.out (aD (cW 2 (some ⟨w.heap.size,0,none⟩) 1 none none)));change K _ (v6.setRow g6 (aD (cW 2 (some ⟨w.heap.size,0,none⟩) 1 none none)));generalize (v6.setRow g6 (aD (cW 2 (some ⟨w.heap.size,0,none⟩) 1 none none)))=v7 at*;clear Q6;clear hHeld;refine hK.out _ _ (KS.out _ B.out) fun hHeld=>?_;clear hK K
   try go_frame
   refine rY 9 rfl fun K hK=>?_;refine Oi 38 _ _ rfl g7 (aD (cW 5 (some ⟨w.heap.size,0,none⟩) 1 none none)) rfl rfl 38 _ Q7.out (by kernel_rfl) rfl (cZ _) ?_;have P7:Hid (aG (v7.setRow g7 (aD (cW 5 (some ⟨w.heap.size,0,none⟩) 1 none none))) g7 38 (aD (cW 5 (some ⟨w.heap.size,0,none⟩) 1 none none))):=qD (bY Q7.out _);replace P6:=qD ((NJ v7 g7 g6 (aD (cW 5 (some ⟨w.heap.size,0,none⟩) 1 none none)) HNE.out.symm).trans P6.out);replace B:=qD (bZ B.out G7.out (aD (cW 5 (some ⟨w.heap.size,0,none⟩) 1 none none)));change K _ (v7.setRow g7 (aD (cW 5 (some ⟨w.heap.size,0,none⟩) 1 none none)));generalize (v7.setRow g7 (aD (cW 5 (some ⟨w.heap.size,0,none⟩) 1 none none)))=v8 at*;clear Q7;clear hHeld;refine hK.out _ _ (KS.out _ B.out) fun hHeld=>?_;clear hK K
   try go_frame
   refine rD ?_ _;refine Kq ?_;clear hHeld;go_wp2_with fail;go_meet;exact⟨g6,g7,rfl,rfl,P6.out,P7.out,B.out⟩
 case rest=>
  obtain⟨g3,g4,rfl,rfl,hp3,hp4,hb⟩:=hcut;have Q3:=qD hp3;have Q4:=qD hp4;have C0:=qD (B0.out.step hb);have C1:=qD (B1.out.step hb);have CE:=qD (BE.out.Ih hb);clear hb hp3 hp4 B0 B1 BE a0 a1 a2 a3 a4;generalize wc=wb at*;have HS:Hid (∀wr,Below wb.heap.size wb wr->ST wr (some ⟨w.heap.size,0,none⟩) 1 1 [aP]):=qD fun wr hb=>yc ((hb.cell (p:=⟨w.heap.size,0,none⟩) C0.out.lt).trans (C0.out.cell 0)) (qL);have R3:=qD (ae Q3.out);have HO1:=qD (nJ (cW 2 (some ⟨w.heap.size,0,none⟩) 1 none none) (some ⟨w.heap.size,0,none⟩) 1 1 [aP] wb (kG (HS.out wb (Ju _ _))) ((df 2 _ _ _ _).JO (.inl rfl)) (HT.out.step CE.out) (HS.out wb (Ju _ _)) (by rw[(df 2 _ _ _ _).sz];decide));rw[(df 2 (some ⟨w.heap.size,0,none⟩) 1 none none).JR] at HO1
  go_upto_region 5 with(first
   | ((with_reducible show wpList _ _ _ (⟨_,.load 38 _,_,_,_,_⟩::_) _ _);refine aE rfl 38 _ rfl g3 0 rfl _ _ R3.out KH rfl (by kernel_rfl) ?_)
   | (go_at_call 22;refine HO1.out.mono ?_;rintro e w1 ⟨A3,m3,c3,ys,nf,rfl,hy,hnf,_,hsi,hb1,_⟩))
  obtain rfl:=hnf.unique mS fun _ _=>Iff.rfl
  obtain⟨y,rfl⟩:∃y,ys=[y]:=by
   have h:=congrArg List.length hy;simp only[KX] at h;exact MH.1 h
  have hyy:cB y=fG (iX 1 false,iX 1 true):=by simpa using hy
  obtain rfl:m3=1:=hsi.sr.ln;have HYY:=qD hyy;have HY1:=qD hy;have D3:=qD (Q3.out.step hb1);have D4:=qD (Q4.out.step hb1);have D1:=qD (C1.out.step hb1);have DB:=qD hb1;have SI1:=qD hsi;clear hy hnf hsi hb1 hyy R3 HO1 Q3 Q4 C0 C1;have R3:=qD (ae D3.out);have SB:Hid (aG (w1.alloc (.cells #[.string ⟨#[98]⟩] 9)) w1.heap.size 9 #[.string ⟨#[98]⟩]):=aG.Ii rfl;have BA:=(Ju w1.heap.size w1).alloc (qL) (Obj.cells #[.string ⟨#[98]⟩] 9);have E3:=qD (D3.out.step BA);have E4:=qD (D4.out.step BA);have E1:=qD (D1.out.step BA);have EB:=qD (DB.out.Ih BA);have SI2:=qD (SI1.out.step BA);have HO2:=qD (nJ (cW 2 (some ⟨w.heap.size,0,none⟩) 1 none none) (some ⟨w1.heap.size,0,none⟩) 1 1 [bP] (w1.alloc (.cells #[.string ⟨#[98]⟩] 9)) (kG (HS.out _ EB.out)) ((df 2 _ _ _ _).JO (.inl rfl)) (HT.out.step (CE.out.Ih EB.out)) (Bx (SB.out.cell 0)) (by rw[(df 2 _ _ _ _).sz];decide));rw[(df 2 (some ⟨w.heap.size,0,none⟩) 1 none none).Jo (.inl rfl)] at HO2
  go_upto_region 6 with(first
   | ((with_reducible show wpList _ _ _ (⟨_,.load 38 _,_,_,_,_⟩::_) _ _);refine aE rfl 38 _ rfl g3 0 rfl _ _ R3.out KH rfl (by kernel_rfl) ?_)
   | (go_at_call 22;refine HO2.out.mono ?_;rintro e w2 ⟨A4,m4,c4,ys4,nf4,rfl,hy,hnf,_,hsi,hb1,_⟩))
  have F3:=qD (E3.out.step hb1);have F4:=qD (E4.out.step hb1);have F1:=qD (E1.out.step hb1);have FB:=qD (EB.out.Ih hb1);have SI3:=qD (SI2.out.step hb1);clear hy hnf hsi hb1 R3 HO2 D3 D4 D1 DB E3 E4 E1 EB SI1 SI2 SB BA;obtain⟨j0,hj0,hw0,hw1,hw2⟩:=LM lY;have BO:=(Ju w2.heap.size w2).alloc (qL) (Obj.cells #[.slice (some ⟨w.heap.size,0,none⟩) 1 1,.bool false] 70);have SO:Hid (aG (w2.alloc (.cells #[.slice (some ⟨w.heap.size,0,none⟩) 1 1,.bool false] 70)) w2.heap.size 70 #[.slice (some ⟨w.heap.size,0,none⟩) 1 1,.bool false]):=aG.Ii rfl;have G3:=qD (F3.out.step BO);have G4:=qD (F4.out.step BO);have G1:=qD (F1.out.step BO);have GB:=qD (FB.out.Ih BO);have SI4:=qD (SI3.out.step BO);clear BO F3 F4 F1 FB SI3;have R3:=qD (ae G3.out);have R4:=qD (ae G4.out)
  go_wp2_with (first
   | ((with_reducible show wpList _ _ _ (⟨_,.load 38 _,_,_,_,_⟩::_) _ _);refine aE rfl 38 _ rfl g3 0 rfl _ _ R3.out KH rfl (by kernel_rfl) ?_)
   | ((with_reducible show wpList _ _ _ (⟨_,.load 38 _,_,_,_,_⟩::_) _ _);refine aE rfl 38 _ rfl g4 0 rfl _ _ R4.out KH rfl (by kernel_rfl) ?_)
   | ((with_reducible show wpList _ _ _ (⟨_,.buildSlice 36 _ _,_,_,_,_⟩::_) _ _);refine wpList_buildSlice rfl 36 38 2 _ rfl (aq (cW 2 (some ⟨w.heap.size,0,none⟩) 1 none none)++aq (cW 5 (some ⟨w.heap.size,0,none⟩) 1 none none)).toArray j0 _ Nd hj0 hw0 (by rw[hw1];decide) (by rw[hw1];decide) (by rw[hw1];exact uS rfl rfl) ?_))
  have SK:Hid (aG ((w2.alloc (.cells #[.slice (some ⟨w.heap.size,0,none⟩) 1 1,.bool false] 70)).alloc (.cells (aq (jg 2 w.heap.size)++aq (jg 5 w.heap.size)).toArray 38)) (w2.heap.size+1) 38 (aq (jg 2 w.heap.size)++aq (jg 5 w.heap.size)).toArray):=aG.Ii (by simp);have BK:=(Ju (w2.alloc (.cells #[.slice (some ⟨w.heap.size,0,none⟩) 1 1,.bool false] 70)).heap.size (w2.alloc (.cells #[.slice (some ⟨w.heap.size,0,none⟩) 1 1,.bool false] 70))).alloc (qL) (Obj.cells (aq (jg 2 w.heap.size)++aq (jg 5 w.heap.size)).toArray 38);have SO2:=qD (SO.out.step BK);have H3:=qD (G3.out.step BK);have H4:=qD (G4.out.step BK);have H1:=qD (G1.out.step BK);have HB:=qD (GB.out.Ih BK);have SI5:=qD (SI4.out.step BK);generalize ((w2.alloc (.cells #[.slice (some ⟨w.heap.size,0,none⟩) 1 1,.bool false] 70)).alloc (.cells (aq (jg 2 w.heap.size)++aq (jg 5 w.heap.size)).toArray 38))=w5 at*;generalize w2.heap.size=go at*;have HFOR:=qD (Dt (Ha go) false (wT w.heap.size (go+1)) w5 (HT.out.step (CE.out.Ih HB.out)) (Dy SO2.out (HS.out _ HB.out)) (Dw SK.out (HS.out _ HB.out)) (Bv _ _) (by rw[Dv];decide));rw[show(Ha go).ks=[⟨[aP],false⟩] from rfl,show(Ha go).kind=1 from rfl,Bw] at HFOR;clear BK SO SK SO2 G3 G4 G1 GB SI4 R3 R4 hj0 hw0 hw1 hw2;refine HFOR.out.mono ?_;rintro e w6 ⟨A6,n6,c6,ls,rfl,hbl,hnfs,hb6⟩;obtain⟨h6,rfl⟩:∃h,ls=[h]:=MH.1 hnfs.ln;obtain rfl:n6=1:=hbl.sr.ln;have hn6:=hnfs.at_ 0 _ h6 rfl rfl;obtain⟨b6,o6,k6,hA6,hbl6,hk6,_,hr6⟩:=hbl.sr.row (i:=0) (by omega);obtain rfl:k6=h6:=by simpa using hk6.symm
  subst hA6;have e6:=hr6 0 _ rfl;rw[Ll,MG] at e6;have hs6:=hbl.el k6 (by simp)
  have hyk:k6.ys.map cB=[y].map cB:=by
   obtain⟨n,hn,hi⟩:=hn6.nf;rw[hn,hi.unique (FU (df 2 _ _ _ _) (df 5 _ _ _ _)) fun _ _=>Iff.rfl,HY1.out]
  have K3:=qD (H3.out.step hb6);have K4:=qD (H4.out.step hb6);have K1:=qD (H1.out.step hb6);have KB:=qD (HB.out.Ih hb6);have SI6:=qD (SI5.out.step hb6);have E6:=qD e6;have HS6:=qD hs6;have HYK:=qD hyk;clear hbl hnfs hb6 hn6 hk6 hr6 e6 hs6 hyk H3 H4 H1 HB SI5 HFOR;obtain⟨bA,oA,hAA,hbA,hat,hok⟩:=SI6.out.at (i:=0) (p:=y) rfl;subst hAA;have y1:y.1.1.2=vI 1:=congrArg Iv.lo HYY.out;have y2:y.1.2.2=vI 1:=congrArg Iv.hi HYY.out;have y3:y.2.1=true:=congrArg Iv.li HYY.out;have y4:y.2.2=true:=congrArg Iv.hin HYY.out;have HAT:=qD hat;have HOK:Hid (RW w6 y.1.1.1 (vI 1)/\RW w6 y.1.2.1 (vI 1)):=by rw[Hid,<-y1];exact⟨hok.1,by rw[y1,<-y2];exact hok.2⟩
  have Y3:=qD y3;have Y4:=qD y4;clear hat hok y1 y2 y3 y4 HYY;rw[Ll,MG] at HAT;obtain⟨⟨p0,p1,p2,p3,p4⟩,⟨p5,p6,p7,p8,p9⟩,p10,p11⟩:=HAT.out;rw[Y3.out] at p10;rw[Y4.out] at p11;obtain⟨a0,a1,a2,a3,a4⟩:=aS.Ig K1.out;simp only[Jw] at a0 a1 a2 a3 a4;have e6:=E6.out;have hbl6w:b6<w6.heap.size:=hbl6;have HI1:Hid (∀wr,Below w6.heap.size w6 wr->Calls prog 63 #[aW (jg 2 w.heap.size),aW (jg 5 w.heap.size)] wr fun e w'=>e=.returned (.bool true)/\Below wr.heap.size wr w'):=qD fun wr hb=>mU (op:=2) (op':=5) (.inl ⟨rfl,rfl⟩) _ _ 1 1 wr (HT.out.step (CE.out.Ih (KB.out.Ih hb))) (HN.out.step (CE.out.Ih (KB.out.Ih hb))) (HS.out _ (KB.out.Ih hb)) (HS.out _ (KB.out.Ih hb));have HI2:Hid (∀wr,Below w6.heap.size w6 wr->Calls prog 63 #[aW (jg 5 w.heap.size),aW (jg 2 w.heap.size)] wr fun e w'=>e=.returned (.bool false)/\Below wr.heap.size wr w'):=qD fun wr hb=>mU (op:=5) (op':=2) (.inr ⟨rfl,rfl⟩) _ _ 1 1 wr (HT.out.step (CE.out.Ih (KB.out.Ih hb))) (HN.out.step (CE.out.Ih (KB.out.Ih hb))) (HS.out _ (KB.out.Ih hb)) (HS.out _ (KB.out.Ih hb));go_upto_region 7 with fail
  have B:=qD ((Ju w6.heap.size w6).drewN 1)
  have KS:Hid (∀w',Below w6.heap.size w6 w'->(fun w'=>(Instr.loadAt 38 (.pointer (some ⟨g3,0,none⟩))).run prog w'=.ok (aW (jg 2 w.heap.size)) w'/\(Instr.loadAt 38 (.pointer (some ⟨g4,0,none⟩))).run prog w'=.ok (aW (jg 5 w.heap.size)) w'/\w'.cell? ⟨bA,oA,none⟩=some (.int .i64 y.1.1.1.k)/\w'.cell? ⟨bA,oA+1,none⟩=some (.int .i64 y.1.1.1.n)/\w'.cell? ⟨bA,oA+2,none⟩=some (.string y.1.1.1.t)/\w'.cell? ⟨bA,oA+3,none⟩=some (.slice y.1.1.1.LA y.1.1.1.ln y.1.1.1.lc)/\w'.cell? ⟨bA,oA+4,none⟩=some (.slice y.1.1.1.DA y.1.1.1.dn y.1.1.1.dc)/\w'.cell? ⟨bA,oA+5,none⟩=some (.int .i64 y.1.2.1.k)/\w'.cell? ⟨bA,oA+5+1,none⟩=some (.int .i64 y.1.2.1.n)/\w'.cell? ⟨bA,oA+5+2,none⟩=some (.string y.1.2.1.t)/\w'.cell? ⟨bA,oA+5+3,none⟩=some (.slice y.1.2.1.LA y.1.2.1.ln y.1.2.1.lc)/\w'.cell? ⟨bA,oA+5+4,none⟩=some (.slice y.1.2.1.DA y.1.2.1.dn y.1.2.1.dc)/\w'.cell? ⟨bA,oA+10,none⟩=some (.bool true)/\w'.cell? ⟨bA,oA+11,none⟩=some (.bool true)/\w'.cell? ⟨w.heap.size+1,0,none⟩=some (.int .i64 3)/\w'.cell? ⟨w.heap.size+1,1,none⟩=some (.int .i64 1)/\w'.cell? ⟨w.heap.size+1,2,none⟩=some (.string empty)/\w'.cell? ⟨w.heap.size+1,3,none⟩=some (.slice none 0 0)/\w'.cell? ⟨w.heap.size+1,4,none⟩=some (.slice none 0 0)/\w'.cell? ⟨b6,o6,none⟩=some (.slice k6.A k6.n k6.c)) w'):=qD fun w' hb=>⟨ff (aD (jg 2 w.heap.size)) rfl _ _ (K3.out.step hb),ff (aD (jg 5 w.heap.size)) rfl _ _ (K4.out.step hb),(hb.cell hbA).trans p0,(hb.cell hbA).trans p1,(hb.cell hbA).trans p2,(hb.cell hbA).trans p3,(hb.cell hbA).trans p4,(hb.cell hbA).trans p5,(hb.cell hbA).trans p6,(hb.cell hbA).trans p7,(hb.cell hbA).trans p8,(hb.cell hbA).trans p9,(hb.cell hbA).trans p10,(hb.cell hbA).trans p11,(hb.cell K1.out.lt).trans a0,(hb.cell K1.out.lt).trans a1,(hb.cell K1.out.lt).trans a2,(hb.cell K1.out.lt).trans a3,(hb.cell K1.out.lt).trans a4,(hb.cell hbl6w).trans e6⟩
  clear p0 p1 p2 p3 p4 p5 p6 p7 p8 p9 p10 p11 a0 a1 a2 a3 a4 e6;refine Kn ?_;refine Kg (S:=(fun w'=>(Instr.loadAt 38 (.pointer (some ⟨g3,0,none⟩))).run prog w'=.ok (aW (jg 2 w.heap.size)) w'/\(Instr.loadAt 38 (.pointer (some ⟨g4,0,none⟩))).run prog w'=.ok (aW (jg 5 w.heap.size)) w'/\w'.cell? ⟨bA,oA,none⟩=some (.int .i64 y.1.1.1.k)/\w'.cell? ⟨bA,oA+1,none⟩=some (.int .i64 y.1.1.1.n)/\w'.cell? ⟨bA,oA+2,none⟩=some (.string y.1.1.1.t)/\w'.cell? ⟨bA,oA+3,none⟩=some (.slice y.1.1.1.LA y.1.1.1.ln y.1.1.1.lc)/\w'.cell? ⟨bA,oA+4,none⟩=some (.slice y.1.1.1.DA y.1.1.1.dn y.1.1.1.dc)/\w'.cell? ⟨bA,oA+5,none⟩=some (.int .i64 y.1.2.1.k)/\w'.cell? ⟨bA,oA+5+1,none⟩=some (.int .i64 y.1.2.1.n)/\w'.cell? ⟨bA,oA+5+2,none⟩=some (.string y.1.2.1.t)/\w'.cell? ⟨bA,oA+5+3,none⟩=some (.slice y.1.2.1.LA y.1.2.1.ln y.1.2.1.lc)/\w'.cell? ⟨bA,oA+5+4,none⟩=some (.slice y.1.2.1.DA y.1.2.1.dn y.1.2.1.dc)/\w'.cell? ⟨bA,oA+10,none⟩=some (.bool true)/\w'.cell? ⟨bA,oA+11,none⟩=some (.bool true)/\w'.cell? ⟨w.heap.size+1,0,none⟩=some (.int .i64 3)/\w'.cell? ⟨w.heap.size+1,1,none⟩=some (.int .i64 1)/\w'.cell? ⟨w.heap.size+1,2,none⟩=some (.string empty)/\w'.cell? ⟨w.heap.size+1,3,none⟩=some (.slice none 0 0)/\w'.cell? ⟨w.heap.size+1,4,none⟩=some (.slice none 0 0)/\w'.cell? ⟨b6,o6,none⟩=some (.slice k6.A k6.n k6.c))) (by kernel_rfl) ?_ (fun hHeld=>?_)
  ·(try dsimp only);exact KS.out _ B.out
  refine rV 0 rfl ?_
  try go_frame
  refine rV 1 rfl ?_
  try go_frame
  refine rV 2 rfl ?_
  try go_frame
  refine rV 3 rfl ?_
  try go_frame
  refine rV 4 rfl ?_
  try go_frame
  refine rV 5 rfl ?_
  try go_frame
  refine rV 6 rfl ?_
  try go_frame
  refine rV 7 rfl ?_
  try go_frame
  refine rV 8 rfl ?_
  try go_frame
  refine rV 9 rfl ?_
  try go_frame
  refine rV 10 rfl ?_
  try go_frame
  refine rV 11 rfl ?_
  try go_frame
  refine rV 12 rfl ?_
  try go_frame
  refine rV 13 rfl ?_
  try go_frame
  refine rV 14 rfl ?_
  try go_frame
  refine rV 15 rfl ?_
  try go_frame
  refine rY 16 rfl fun K hK=>?_;go_simp;refine(jK (vI 1) y.1.1.1 pq _ (HOK.out.1.step B.out) (tO _)).mono ?_;rintro e w7 ⟨rfl,hb3⟩;replace B:=qD (B.out.Ih hb3);clear hb3
  (try go_wp2_with fail)
  clear hHeld;refine hK.out _ _ (KS.out _ B.out) fun hHeld=>?_;clear hK K
  try go_frame
  refine rV 17 rfl ?_
  try go_frame
  refine rV 18 rfl ?_
  try go_frame
  refine rV 19 rfl ?_
  try go_frame
  refine rV 20 rfl ?_
  try go_frame
  refine rV 21 rfl ?_
  try go_frame
  refine rV 22 rfl ?_
  try go_frame
  refine rV 23 rfl ?_
  try go_frame
  refine rY 24 rfl fun K hK=>?_;go_simp;refine(jK (vI 1) y.1.2.1 pq _ (HOK.out.2.step B.out) (tO _)).mono ?_;rintro e w8 ⟨rfl,hb3⟩;replace B:=qD (B.out.Ih hb3);clear hb3
  (try go_wp2_with fail)
  clear hHeld;refine hK.out _ _ (KS.out _ B.out) fun hHeld=>?_;clear hK K
  try go_frame
  refine rV 25 rfl ?_
  try go_frame
  refine rV 26 rfl ?_
  try go_frame
  refine rV 27 rfl ?_
  try go_frame
  refine rV 28 rfl ?_
  try go_frame
  refine rV 29 rfl ?_
  try go_frame
  refine rV 30 rfl ?_
  try go_frame
  refine rV 31 rfl ?_
  try go_frame
  refine rV 32 rfl ?_
  try go_frame
  refine rV 33 rfl ?_
  try go_frame
  refine rV 34 rfl ?_
  try go_frame
  refine rV 35 rfl ?_
  try go_frame
  refine rV 36 rfl ?_
  try go_frame
  refine rV 37 rfl ?_
  try go_frame
  refine rV 38 rfl ?_
  try go_frame
  refine rV 39 rfl ?_
  try go_frame
  refine rV 40 rfl ?_
  try go_frame
  refine rV 41 rfl ?_
  try go_frame
  refine rV 42 rfl ?_
  try go_frame
  refine rV 43 rfl ?_
  try go_frame
  refine rV 44 rfl ?_
  try go_frame
  refine rV 45 rfl ?_
  try go_frame
  refine rV 46 rfl ?_
  try go_frame
  refine rV 47 rfl ?_
  try go_frame
  refine rV 48 rfl ?_
  try go_frame
  refine rV 49 rfl ?_
  try go_frame
  refine rV 50 rfl ?_
  try go_frame
  refine rY 51 rfl fun K hK=>?_;go_simp;refine(sg k6.ys [y] k6.A (some ⟨bA,oA,none⟩) k6.n 1 k6.c c3 _ (HS6.out.step B.out) (SI6.out.step B.out) HYK.out).mono ?_;rintro e w9 ⟨rfl,hb3⟩;replace B:=qD (B.out.Ih hb3);clear hb3
  (try go_wp2_with fail)
  clear hHeld;refine hK.out _ _ (KS.out _ B.out) fun hHeld=>?_;clear hK K
  try go_frame
  refine rV 52 rfl ?_
  try go_frame
  refine rV 53 rfl ?_
  try go_frame
  refine rT (v:=aW (jg 2 w.heap.size)) 54 rfl (fun w' hSw=>bL (p:=.pointer (some ⟨g3,0,none⟩)) rfl rfl hSw.1) ?_
  try go_frame
  refine rT (v:=aW (jg 5 w.heap.size)) 55 rfl (fun w' hSw=>bL (p:=.pointer (some ⟨g4,0,none⟩)) rfl rfl hSw.2.1) ?_
  try go_frame
  refine rY 56 rfl fun K hK=>?_;go_simp;refine(HI1.out _ B.out).mono ?_;rintro e wA ⟨rfl,hb3⟩;replace B:=qD (B.out.Ih hb3);clear hb3
  (try go_wp2_with fail)
  clear hHeld;refine hK.out _ _ (KS.out _ B.out) fun hHeld=>?_;clear hK K
  try go_frame
  refine rV 57 rfl ?_
  try go_frame
  refine rV 58 rfl ?_
  try go_frame
  refine rT (v:=aW (jg 5 w.heap.size)) 59 rfl (fun w' hSw=>bL (p:=.pointer (some ⟨g4,0,none⟩)) rfl rfl hSw.2.1) ?_
  try go_frame
  refine rT (v:=aW (jg 2 w.heap.size)) 60 rfl (fun w' hSw=>bL (p:=.pointer (some ⟨g3,0,none⟩)) rfl rfl hSw.1) ?_
  try go_frame
  refine rY 61 rfl fun K hK=>?_;go_simp;refine(HI2.out _ B.out).mono ?_;rintro e wB ⟨rfl,hb3⟩;replace B:=qD (B.out.Ih hb3);clear hb3
  (try go_wp2_with fail)
  clear hHeld;refine hK.out _ _ (KS.out _ B.out) fun hHeld=>?_;clear hK K
  try go_frame
  refine rV 62 rfl ?_
  try go_frame
  refine rV 63 rfl ?_
  try go_frame
  refine rV 64 rfl ?_
  try go_frame
  refine rD ?_ _;refine Kq ?_;clear hHeld;go_wp2_with fail;go_ret;exact⟨rfl,CE.out.Ih (KB.out.Ih B.out)⟩
end
end Go.Proofs.YtgfoliedmhgpnaaGreatDoor
